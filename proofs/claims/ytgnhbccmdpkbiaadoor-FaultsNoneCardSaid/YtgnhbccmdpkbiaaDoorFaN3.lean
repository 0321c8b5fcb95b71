/-
  The law FaultsNone of layer 3, walked.
-/
import Derived.Test.YtgnhbccmdpkbiaaDoorFaN2
import Derived.Test.YtgnhbccmdpkbiaaDoorFaw22
namespace Go.Proofs.YtgnhbccmdpkbiaaDoor
open Go.RowKit Go.Shelf

/-- What a round of the law reads. -/
def NSeen (X A q : Nat) (v : Value) (k : Int) (op : ByteArray) (b c : Int) (w : World) : Prop :=
  w.cell? ⟨A, q, none⟩ = some v ∧ w.cell? ⟨X, 0, none⟩ = some (I64 k) ∧ w.cell? ⟨X, 1, none⟩ = some (.string op) ∧ w.cell? ⟨X, 2, none⟩ = some (I64 b) ∧ w.cell? ⟨X, 3, none⟩ = some (I64 c)
theorem NSeen.below {X A q : Nat} {v : Value} {k : Int} {op : ByteArray} {b c : Int} {w w' : World} (h : NSeen X A q v k op b c w) (hb : Below w.heap.size w w') : NSeen X A q v k op b c w' := by
  obtain ⟨h0, h1, h2, h3, h4⟩ := h
  have hl := cell_lt h0
  have hm := cell_lt h1
  exact ⟨(hb.cell (p := ⟨A, _, none⟩) hl).trans h0, (hb.cell (p := ⟨X, _, none⟩) hm).trans h1, (hb.cell (p := ⟨X, _, none⟩) hm).trans h2, (hb.cell (p := ⟨X, _, none⟩) hm).trans h3, (hb.cell (p := ⟨X, _, none⟩) hm).trans h4⟩
/-- The six errors of the law. -/
def nv (B : Nat) (q : Nat) : Value := [.nilIface, frn0, noL, zL (B + 1), zJ (B + 1 + 1), sent 8].getD q .nilIface
def noneW (w : World) (k : Int) (op : ByteArray) (b c : Int) : World :=
  ((((w.alloc (.cells #[I64 k, .string op, I64 b, I64 c] 24)).alloc (.cells #[.bool false, I64 0, .string ⟨#[]⟩, I64 0, I64 0, .nilIface, I64 0, I64 0] 35)).alloc (.cells #[.slice none 0 0, I64 0, I64 0] 39)).alloc
    (.cells #[.nilIface, .iface 33 (.agg #[.nilIface]), .iface 26 (.pointer none), .iface 26 (.pointer (some ⟨w.heap.size + 1, 0, none⟩)), .iface 36 (.pointer (some ⟨w.heap.size + 1 + 1, 0, none⟩)), .iface 62 (I64 8)] 40))
theorem noneW_below (w : World) (k : Int) (op : ByteArray) (b c : Int) : Below w.heap.size w (noneW w k op b c) :=
  ((((Below.refl w.heap.size w).alloc (Nat.le_refl _) _).alloc (by simp) _).alloc (by simp; omega) _).alloc (by simp; omega) _
theorem noneW_x (w : World) (k : Int) (op : ByteArray) (b c : Int) : (noneW w k op b c).heap[w.heap.size]? = some (.cells #[I64 k, .string op, I64 b, I64 c] 24 (0, 0)) := by
  unfold noneW
  rw [Below.heap_alloc _ _ _ (by simp; omega), Below.heap_alloc _ _ _ (by simp; omega), Below.heap_alloc _ _ _ (by simp)]
  exact blk_new _ _
theorem noneW_l (w : World) (k : Int) (op : ByteArray) (b c : Int) : (noneW w k op b c).heap[w.heap.size + 1]? = some (.cells zLcells 35 (0, 0)) := by
  unfold noneW
  rw [Below.heap_alloc _ _ _ (by simp), Below.heap_alloc _ _ _ (by simp)]
  have h := blk_new (w.alloc (.cells #[I64 k, .string op, I64 b, I64 c] 24)) (.cells #[.bool false, I64 0, .string ⟨#[]⟩, I64 0, I64 0, .nilIface, I64 0, I64 0] 35)
  unfold zLcells
  simpa using h
theorem noneW_j (w : World) (k : Int) (op : ByteArray) (b c : Int) : (noneW w k op b c).heap[w.heap.size + 1 + 1]? = some (.cells zJcells 39 (0, 0)) := by
  unfold noneW
  rw [Below.heap_alloc _ _ _ (by simp)]
  have h := blk_new ((w.alloc (.cells #[I64 k, .string op, I64 b, I64 c] 24)).alloc (.cells #[.bool false, I64 0, .string ⟨#[]⟩, I64 0, I64 0, .nilIface, I64 0, I64 0] 35)) (.cells #[.slice none 0 0, I64 0, I64 0] 39)
  unfold zJcells
  simpa using h
theorem noneW_a (w : World) (k : Int) (op : ByteArray) (b c : Int) (q : Nat) (hq : q < 6) : (noneW w k op b c).cell? ⟨w.heap.size + 1 + 1 + 1, q, none⟩ = some (nv w.heap.size q) := by
  unfold noneW
  rw [World.cell?_alloc_at _ _ _ _ (by simp)]
  match q, hq with
  | 0, _ => rfl
  | 1, _ => rfl
  | 2, _ => rfl
  | 3, _ => rfl
  | 4, _ => rfl
  | 5, _ => rfl
theorem noneW_bad (w : World) (k : Int) (op : ByteArray) (b c : Int) (q : Nat) (h0 : 1 ≤ q) (h5 : q < 5) : BadV (noneW w k op b c) (nv w.heap.size q) := by
  match q, h0, h5 with
  | 1, _, _ => exact .inl rfl
  | 2, _, _ => exact .inr (.inl rfl)
  | 3, _, _ => exact .inr (.inr (.inl ⟨_, rfl, noneW_l w k op b c⟩))
  | 4, _, _ => exact .inr (.inr (.inr ⟨_, rfl, noneW_j w k op b c⟩))
theorem bad_ne {w : World} {v : Value} (h : BadV w v) : v ≠ .nilIface ∧ wantE v = 2 := by
  rcases h with rfl | rfl | ⟨b, rfl, _⟩ | ⟨b, rfl, _⟩ <;> exact ⟨(by intro h; cases h), rfl⟩
theorem link_selfN (w : World) : (Op.equalIn 10000 24 (.agg #[I64 0, .string ⟨#[]⟩, I64 0, I64 0]) (.agg #[I64 0, .string ⟨#[]⟩, I64 0, I64 0])).run Tryd.prog w = .ok true w := by
  have h := aggL 9998 Fa.Link.zero Fa.Link.zero w
  rw [decide_eq_true rfl] at h
  exact h
set_option maxHeartbeats 8000000 in
set_option maxRecDepth 100000 in
set_option linter.unusedSimpArgs false in
theorem lawNone_far (x : Fa.Link) (k : Int) (w : World) (hE : EnvF w) (hxs : 100 < x.op.size) : Calls Tryd.prog 3 #[valLink x, I64 k] w fun e w' => e = .returned (.bool true) ∧ Below w.heap.size w w' := by
  have HS : Hid (∀ w1, Below w.heap.size w w1 → Calls Tryd.prog 4 #[] w1 fun e w' => e = .returned (.bool true) ∧ Below w1.heap.size w1 w') := fun w1 hb => shown_any w1 (hE.below hb)
  have HBA := Lib.hid (show Below w.heap.size w (w.alloc (.cells #[I64 x.kind, .string x.op, I64 x.backend, I64 x.conn] 24)) from (Below.refl _ _).alloc (Nat.le_refl _) _)
  clear hE
  obtain ⟨xk, xo, xb, xc⟩ := x
  unfold valLink
  dsimp only at HBA hxs ⊢
  go_enter Tryd.func3, Tryd.ntmps3
  go_wp2_with fail
  refine (HS.out _ HBA.out).mono ?_
  rintro e w2 ⟨rfl, hx⟩
  have hb2 := HBA.out.trans (hx.mono HBA.out.size)
  go_wp2
  go_ret
  exact ⟨rfl, hb2⟩
set_option maxHeartbeats 8000000 in
set_option maxRecDepth 100000 in
set_option linter.unusedSimpArgs false in
theorem lawNone_main (x : Fa.Link) (k : Int) (w : World) (hE : EnvF w) (hxs : ¬ 100 < x.op.size) : Calls Tryd.prog 3 #[valLink x, I64 k] w fun e w' => e = .returned (.bool true) ∧ Below w.heap.size w w' := by
  have HS : Hid (∀ w1, Below w.heap.size w w1 → Calls Tryd.prog 4 #[] w1 fun e w' => e = .returned (.bool true) ∧ Below w1.heap.size w1 w') := fun w1 hb => shown_any w1 (hE.below hb)
  have HSN := Lib.hid (fun w => sentinel_in 8 w (by decide) (by decide))
  have hxm : x.op.size ≤ maxLen := by unfold maxLen; omega
  have HW0 := Lib.hid (fun w1 => wrap_some0 x w1 hxm)
  have HWN := Lib.hid (fun v w1 h hn => wrap_not x v w1 h hn)
  clear hE hxm
  obtain ⟨xk, xo, xb, xc⟩ := x
  unfold valLink sent at *
  have HBW := Lib.hid (noneW_below w xk xo xb xc)
  have HXX := Lib.hid (noneW_x w xk xo xb xc)
  have HAA := Lib.hid (noneW_a w xk xo xb xc)
  have HBD := Lib.hid (noneW_bad w xk xo xb xc)
  dsimp only at hxs ⊢
  go_enter Tryd.func3, Tryd.ntmps3
  go_wp2_with fail
  refine (HSN.out _).mono ?_
  rintro e w2 ⟨rfl, rfl⟩
  go_wp2
  refine (show Code.wp _ _ _ _ (noneW w xk xo xb xc) from ?_)
  generalize noneW w xk xo xb xc = W at HBW HXX HAA HBD ⊢
  have hxl := lt_of_block HXX.out
  have x0 := blk_cell HXX.out 0
  have x1 := blk_cell HXX.out 1
  have x2 := blk_cell HXX.out 2
  have x3 := blk_cell HXX.out 3
  simp only [List.getElem?_toArray, List.getElem?_cons_zero, List.getElem?_cons_succ] at x0 x1 x2 x3
  have HX0 : Hid (∀ q, q < 6 → NSeen w.heap.size (w.heap.size + 1 + 1 + 1) q (nv w.heap.size q) xk xo xb xc W) := fun q hq => ⟨HAA.out q hq, x0, x1, x2, x3⟩
  have HST := Lib.hid (Below.refl W.heap.size W)
  clear x0 x1 x2 x3 hxl HXX HAA HSN
  go_loopw [9] (fun iv wr => ∃ q : Nat, q ≤ 6 ∧ iv = I64 q ∧ Hid (Below W.heap.size W wr)) (fun iv _ => 6 - (intOf iv).toNat)
  case atStart => exact ⟨0, Nat.zero_le _, rfl, HST⟩
  case round =>
    obtain ⟨q, hq, rfl, HBR⟩ := hrel
    by_cases hlt : q < 6
    · have i1 : (q : Int) < 6 := by omega
      have HQ : Hid (q + 1 ≤ 6) := (by omega : q + 1 ≤ 6)
      have HX : Hid (∀ w1, Below wr.heap.size wr w1 → NSeen w.heap.size (w.heap.size + 1 + 1 + 1) q (nv w.heap.size q) xk xo xb xc w1) := fun w1 hb => (HX0.out q hlt).below (HBR.out.trans (hb.mono HBR.out.size))
      have hb0 := Below.refl wr.heap.size wr
      have HNF : Hid (∀ w1, Below wr.heap.size wr w1 → NotF w1 (nv w.heap.size q) ∧ (q < 5 → nv w.heap.size q = .nilIface ∨ BadV w1 (nv w.heap.size q)) ∧ wantE (nv w.heap.size q) = (if q = 0 then 1 else 2) ∧ (q ≠ 0 → nv w.heap.size q ≠ .nilIface) ∧ (q = 0 → nv w.heap.size q = .nilIface)) := fun w1 hb => by
        have hb1 := HBR.out.trans (hb.mono HBR.out.size)
        by_cases h0 : q = 0
        · subst h0
          exact ⟨.inl rfl, fun _ => .inl rfl, rfl, fun h => absurd rfl h, fun _ => rfl⟩
        · by_cases h5 : q = 5
          · subst h5
            exact ⟨.inr (.inr (.inl rfl)), fun h => absurd h (by decide), rfl, (fun _ h => by cases h), fun h => absurd h (by decide)⟩
          · have hbad := (HBD.out q (by omega) (by omega)).below hb1
            have h2 := bad_ne hbad
            exact ⟨.inr (.inl hbad), fun _ => .inr hbad, by rw [if_neg h0]; exact h2.2, fun _ => h2.1, fun h => absurd h h0⟩
      generalize nv w.heap.size q = v at HX HNF
      have HC : Hid (∀ w1, Below wr.heap.size wr w1 → Calls Tryd.prog 6 #[v] w1 fun e w' => e = .returned (.tuple #[.slice none 0 0, I64 (if q = 0 then 1 else 2)]) ∧ Below w1.heap.size w1 w') := fun w1 hb => by
        have h1 := chain_not v w1 (HNF.out w1 hb).1
        rw [(HNF.out w1 hb).2.2.1] at h1
        exact h1
      have HF : Hid (∀ w1, Below wr.heap.size wr w1 → Calls Tryd.prog 7 #[v, I64 k] w1 fun e w' => e = .returned (.tuple #[.agg #[I64 0, .string ⟨#[]⟩, I64 0, I64 0], I64 (if q = 0 then 1 else 2)]) ∧ Below w1.heap.size w1 w') := fun w1 hb => by
        have h1 := first_not v k w1 (HNF.out w1 hb).1
        rw [(HNF.out w1 hb).2.2.1] at h1
        exact h1
      have HRT : Hid (∀ w1, Below wr.heap.size wr w1 → Calls Tryd.prog 8 #[v] w1 fun e w' => e = .returned (.tuple #[.agg #[I64 0, .string ⟨#[]⟩, I64 0, I64 0], I64 (if q = 0 then 1 else 2)]) ∧ Below w1.heap.size w1 w') := fun w1 hb => by
        have h1 := root_not v w1 (HNF.out w1 hb).1
        rw [(HNF.out w1 hb).2.2.1] at h1
        exact h1
      have HT : Hid (∀ w1, Below wr.heap.size wr w1 → Calls Tryd.prog 9 #[v] w1 fun e w' => e = .returned (.tuple #[.string ⟨#[]⟩, I64 (if q = 0 then 1 else 2)]) ∧ Below w1.heap.size w1 w') := fun w1 hb => by
        have h1 := text_not v w1 (HNF.out w1 hb).1
        rw [(HNF.out w1 hb).2.2.1] at h1
        exact h1
      have HJ : Hid (∀ w1, Below wr.heap.size wr w1 → Calls Tryd.prog 11 #[.slice (some ⟨w1.heap.size, 0, none⟩) 1 1] (w1.alloc (.cells #[v] 28)) fun e w' => e = .returned (.tuple #[.nilIface, I64 2]) ∧ Below w1.heap.size w1 w') := fun w1 hb => by
        have hal := (Below.refl w1.heap.size w1).alloc (Nat.le_refl _) (.cells #[v] 28)
        have hc := blk_cell (blk_new w1 (.cells #[v] 28)) 0
        simp only [List.getElem?_toArray, List.getElem?_cons_zero] at hc
        refine (join_not v w1.heap.size _ ((HNF.out w1 hb).1.below hal) (by simp) hc).mono ?_
        rintro e w' ⟨h1, h2⟩
        exact ⟨h1, hal.trans (h2.mono hal.size)⟩
      have HA : Hid (∀ w1, Below wr.heap.size wr w1 → w1.cell? ⟨w.heap.size + 1 + 1 + 1, q, none⟩ = some v) := fun w1 hb => (HX.out w1 hb).1
      have hz1 : q = 0 ∨ q ≠ 0 ∧ q < 5 ∨ q = 5 := by omega
      rcases hz1 with hz | ⟨hz, h5⟩ | hz
      · have g1 : ((q : Int) == 0) = true := by rw [beq_iff_eq]; omega
        have g2 : ¬ (0 : Int) < (q : Int) := by omega
        have g3 : (q : Int) < 5 := by omega
        have HW : Hid (∀ w1, Below wr.heap.size wr w1 → Calls Tryd.prog 10 #[.agg #[I64 xk, .string xo, I64 xb, I64 xc], v] w1 fun e w' => ∃ ev c, e = .returned (.tuple #[ev, I64 c]) ∧ Below w1.heap.size w1 w') := fun w1 hb => by
          rw [(HNF.out w1 hb).2.2.2.2 hz]
          exact HW0.out w1
        have HH : Hid (∀ w1, Below wr.heap.size wr w1 → Calls Tryd.prog 12 #[v, I64 k] w1 fun e w' => e = .returned (.bool false) ∧ Below w1.heap.size w1 w') := fun w1 hb => has_not v k w1 ((HNF.out w1 hb).2.1 (by omega))
        rw [if_pos hz] at HC HF HRT HT
        have hve := (HNF.out wr hb0).2.2.2.2 hz
        clear hz hlt hq HW0 HWN HBD HNF HX0
        subst hve
        have a0 := HA.out _ hb0
        go_wp2_with fail
        refine (HC.out _ hb0).mono ?_
        rintro e y1 ⟨rfl, hx⟩
        have hz1 := hb0.trans (hx.mono hb0.size)
        clear hx
        have a1 := HA.out _ hz1
        go_wp2_with fail
        refine (HF.out _ hz1).mono ?_
        rintro e y2 ⟨rfl, hx⟩
        have hz2 := hz1.trans (hx.mono hz1.size)
        clear hx
        have hz3 := hz2.alloc hz2.size (.cells #[I64 0, .string ⟨#[]⟩, I64 0, I64 0] 24)
        have a3 := HA.out _ hz3
        go_wp2_with fail
        refine (HRT.out _ hz3).mono ?_
        rintro e y4 ⟨rfl, hx⟩
        have hz4 := hz3.trans (hx.mono hz3.size)
        clear hx
        have hz5 := hz4.alloc hz4.size (.cells #[I64 0, .string ⟨#[]⟩, I64 0, I64 0] 24)
        have a5 := HA.out _ hz5
        go_wp2_with fail
        refine (HT.out _ hz5).mono ?_
        rintro e y6 ⟨rfl, hx⟩
        have hz6 := hz5.trans (hx.mono hz5.size)
        clear hx
        have a6 := HA.out _ hz6
        have hzd := hz6.drew
        go_wp2_with fail
        have hSd := HX.out _ hzd
        refine wp_region_held_drew (S := NSeen w.heap.size (w.heap.size + 1 + 1 + 1) q .nilIface xk xo xb xc) (by kernel_rfl) hSd (fun hHeld => ?_)
        refine wpAnyH_take (i := 0) (oi := _) (v := ?vv0_1) (dropAt (r := _) rfl) (by kernel_rfl) (by kernel_rfl) (by kernel_rfl) (fun _ _ _ h => h) (Or.inl ⟨by rfl, ?hv0_1⟩) hHeld ?rv0_1
        case hv0_1 => (intro w hSw; unfold NSeen at hSw; go_simp; first | done | with_reducible rfl)
        try simp only [Act.put, List.setIfInBounds_toArray, List.set_cons_zero, List.set_cons_succ]
        refine wpAnyH_take (i := 1) (oi := _) (v := ?vv1_2) (dropAt (r := _) rfl) (by kernel_rfl) (by kernel_rfl) (by kernel_rfl) (fun _ _ _ h => h) (Or.inl ⟨by rfl, ?hv1_2⟩) hHeld ?rv1_2
        case hv1_2 => (intro w hSw; unfold NSeen at hSw; go_simp; first | done | with_reducible rfl)
        try simp only [Act.put, List.setIfInBounds_toArray, List.set_cons_zero, List.set_cons_succ]
        refine wpAnyH_take (i := 2) (oi := _) (v := ?vv2_3) (dropAt (r := _) rfl) (by kernel_rfl) (by kernel_rfl) (by kernel_rfl) (fun _ _ _ h => h) (Or.inl ⟨by rfl, ?hv2_3⟩) hHeld ?rv2_3
        case hv2_3 => (intro w hSw; unfold NSeen at hSw; go_simp; first | done | with_reducible rfl)
        try simp only [Act.put, List.setIfInBounds_toArray, List.set_cons_zero, List.set_cons_succ]
        refine wpAnyH_take (i := 3) (oi := _) (v := ?vv3_4) (dropAt (r := _) rfl) (by kernel_rfl) (by kernel_rfl) (by kernel_rfl) (fun _ _ _ h => h) (Or.inl ⟨by rfl, ?hv3_4⟩) hHeld ?rv3_4
        case hv3_4 => (intro w hSw; unfold NSeen at hSw; go_simp; first | done | with_reducible rfl)
        try simp only [Act.put, List.setIfInBounds_toArray, List.set_cons_zero, List.set_cons_succ]
        refine wpAnyH_ready (rs := [4]) (by kernel_rfl) (by simp) ?_
        refine AllReadyH.cons (o := _) (dropAt (r := _) rfl) (fun K hK => ?_) AllReadyH.nil
        go_simp
        go_at_call 10
        refine (HW.out _ hzd).mono ?_
        rintro e yw ⟨ev, cv, rfl, hx⟩
        have hzw := hzd.trans (hx.mono hzd.size)
        have hsw := HX.out _ hzw
        refine hK.out _ _ hsw (fun hHeld2 => ?_)
        clear hK K hx
        try simp only [Act.put, List.setIfInBounds_toArray, List.set_cons_zero, List.set_cons_succ]
        refine wpAnyH_take (i := 5) (oi := _) (v := ?vv5_5) (dropAt (r := _) rfl) (by kernel_rfl) (by kernel_rfl) (by kernel_rfl) (fun _ _ _ h => h) (Or.inl ⟨by rfl, ?hv5_5⟩) hHeld2 ?rv5_5
        case hv5_5 => (intro w hSw; unfold NSeen at hSw; go_simp; first | done | with_reducible rfl)
        try simp only [Act.put, List.setIfInBounds_toArray, List.set_cons_zero, List.set_cons_succ]
        refine wpAnyH_take (i := 6) (oi := _) (v := ?vv6_6) (dropAt (r := _) rfl) (by kernel_rfl) (by kernel_rfl) (by kernel_rfl) (fun _ _ _ h => h) (Or.inl ⟨by rfl, ?hv6_6⟩) hHeld2 ?rv6_6
        case hv6_6 => (intro w hSw; unfold NSeen at hSw; go_simp; first | done | with_reducible rfl)
        try simp only [Act.put, List.setIfInBounds_toArray, List.set_cons_zero, List.set_cons_succ]
        refine wpAnyH_take (i := 7) (oi := _) (v := ?vv7_7) (dropAt (r := _) rfl) (by kernel_rfl) (by kernel_rfl) (by kernel_rfl) (fun _ _ _ h => h) (Or.inl ⟨by rfl, ?hv7_7⟩) hHeld2 ?rv7_7
        case hv7_7 => (intro w hSw; unfold NSeen at hSw; go_simp; first | done | with_reducible rfl)
        try simp only [Act.put, List.setIfInBounds_toArray, List.set_cons_zero, List.set_cons_succ]
        refine wpAnyH_take (i := 8) (oi := _) (v := ?vv8_8) (dropAt (r := _) rfl) (by kernel_rfl) (by kernel_rfl) (by kernel_rfl) (fun _ _ _ h => h) (Or.inl ⟨by rfl, ?hv8_8⟩) hHeld2 ?rv8_8
        case hv8_8 => (intro w hSw; unfold NSeen at hSw; go_simp; first | done | with_reducible rfl)
        try simp only [Act.put, List.setIfInBounds_toArray, List.set_cons_zero, List.set_cons_succ]
        refine wpAnyH_take (i := 9) (oi := _) (v := ?vv9_9) (dropAt (r := _) rfl) (by kernel_rfl) (by kernel_rfl) (by kernel_rfl) (fun _ _ _ h => h) (Or.inl ⟨by rfl, ?hv9_9⟩) hHeld2 ?rv9_9
        case hv9_9 => (intro w hSw; unfold NSeen at hSw; go_simp; first | done | with_reducible rfl)
        try simp only [Act.put, List.setIfInBounds_toArray, List.set_cons_zero, List.set_cons_succ]
        refine wpAnyH_done (by kernel_rfl) ?_ _
        have aw := HA.out _ hzw
        go_wp2_with fail
        refine (HJ.out _ hzw).mono ?_
        rintro e yj ⟨rfl, hzj0⟩
        have hzj := hzw.trans (hzj0.mono hzw.size)
        have aj := HA.out _ hzj
        go_wp2_with fail
        refine (HH.out _ hzj).mono ?_
        rintro e yh ⟨rfl, hx⟩
        have hzh := hzj.trans (hx.mono hzj.size)
        go_wp2_with fail
        case roundEnd => exact ⟨⟨q + 1, HQ.out, by go_num, HBR.out.trans (hzh.mono HBR.out.size)⟩, by have := HQ.out; simp [intOf]; omega⟩
      · have g1 : ((q : Int) == 0) = false := by rw [beq_eq_false_iff_ne]; omega
        have g2 : (0 : Int) < (q : Int) := by omega
        have g3 : (q : Int) < 5 := by omega
        have HW : Hid (∀ w1, Below wr.heap.size wr w1 → Calls Tryd.prog 10 #[.agg #[I64 xk, .string xo, I64 xb, I64 xc], v] w1 fun e w' => e = .returned (.tuple #[.nilIface, I64 2]) ∧ Below w1.heap.size w1 w') := fun w1 hb => HWN.out v w1 (HNF.out w1 hb).1 ((HNF.out w1 hb).2.2.2.1 hz)
        have HH : Hid (∀ w1, Below wr.heap.size wr w1 → Calls Tryd.prog 12 #[v, I64 k] w1 fun e w' => e = .returned (.bool false) ∧ Below w1.heap.size w1 w') := fun w1 hb => has_not v k w1 ((HNF.out w1 hb).2.1 (by omega))
        rw [if_neg hz] at HC HF HRT HT
        obtain ⟨ov, hve⟩ := (HNF.out wr hb0).1.form
        have hvn := (HNF.out wr hb0).2.2.2.1 hz
        clear hz h5 hlt hq HW0 HWN HBD HNF HX0
        subst hve
        cases ov with
        | none => exact absurd rfl hvn
        | some tv =>
        obtain ⟨ty, pv⟩ := tv
        unfold IfV at *
        clear hvn
        dsimp only at HC HF HRT HT HJ HA HX HW HH
        have a0 := HA.out _ hb0
        go_wp2_with fail
        refine (HC.out _ hb0).mono ?_
        rintro e y1 ⟨rfl, hx⟩
        have hz1 := hb0.trans (hx.mono hb0.size)
        clear hx
        have a1 := HA.out _ hz1
        go_wp2_with fail
        refine (HF.out _ hz1).mono ?_
        rintro e y2 ⟨rfl, hx⟩
        have hz2 := hz1.trans (hx.mono hz1.size)
        clear hx
        have hz3 := hz2.alloc hz2.size (.cells #[I64 0, .string ⟨#[]⟩, I64 0, I64 0] 24)
        have a3 := HA.out _ hz3
        go_wp2_with fail
        refine (HRT.out _ hz3).mono ?_
        rintro e y4 ⟨rfl, hx⟩
        have hz4 := hz3.trans (hx.mono hz3.size)
        clear hx
        have hz5 := hz4.alloc hz4.size (.cells #[I64 0, .string ⟨#[]⟩, I64 0, I64 0] 24)
        have a5 := HA.out _ hz5
        go_wp2_with fail
        refine (HT.out _ hz5).mono ?_
        rintro e y6 ⟨rfl, hx⟩
        have hz6 := hz5.trans (hx.mono hz5.size)
        clear hx
        have a6 := HA.out _ hz6
        have hzd := hz6.drew
        go_wp2_with fail
        have hSd := HX.out _ hzd
        refine wp_region_held_drew (S := NSeen w.heap.size (w.heap.size + 1 + 1 + 1) q (.iface ty pv) xk xo xb xc) (by kernel_rfl) hSd (fun hHeld => ?_)
        refine wpAnyH_take (i := 0) (oi := _) (v := ?vv0_10) (dropAt (r := _) rfl) (by kernel_rfl) (by kernel_rfl) (by kernel_rfl) (fun _ _ _ h => h) (Or.inl ⟨by rfl, ?hv0_10⟩) hHeld ?rv0_10
        case hv0_10 => (intro w hSw; unfold NSeen at hSw; go_simp; first | done | with_reducible rfl)
        try simp only [Act.put, List.setIfInBounds_toArray, List.set_cons_zero, List.set_cons_succ]
        refine wpAnyH_take (i := 1) (oi := _) (v := ?vv1_11) (dropAt (r := _) rfl) (by kernel_rfl) (by kernel_rfl) (by kernel_rfl) (fun _ _ _ h => h) (Or.inl ⟨by rfl, ?hv1_11⟩) hHeld ?rv1_11
        case hv1_11 => (intro w hSw; unfold NSeen at hSw; go_simp; first | done | with_reducible rfl)
        try simp only [Act.put, List.setIfInBounds_toArray, List.set_cons_zero, List.set_cons_succ]
        refine wpAnyH_take (i := 2) (oi := _) (v := ?vv2_12) (dropAt (r := _) rfl) (by kernel_rfl) (by kernel_rfl) (by kernel_rfl) (fun _ _ _ h => h) (Or.inl ⟨by rfl, ?hv2_12⟩) hHeld ?rv2_12
        case hv2_12 => (intro w hSw; unfold NSeen at hSw; go_simp; first | done | with_reducible rfl)
        try simp only [Act.put, List.setIfInBounds_toArray, List.set_cons_zero, List.set_cons_succ]
        refine wpAnyH_take (i := 3) (oi := _) (v := ?vv3_13) (dropAt (r := _) rfl) (by kernel_rfl) (by kernel_rfl) (by kernel_rfl) (fun _ _ _ h => h) (Or.inl ⟨by rfl, ?hv3_13⟩) hHeld ?rv3_13
        case hv3_13 => (intro w hSw; unfold NSeen at hSw; go_simp; first | done | with_reducible rfl)
        try simp only [Act.put, List.setIfInBounds_toArray, List.set_cons_zero, List.set_cons_succ]
        refine wpAnyH_ready (rs := [4]) (by kernel_rfl) (by simp) ?_
        refine AllReadyH.cons (o := _) (dropAt (r := _) rfl) (fun K hK => ?_) AllReadyH.nil
        go_simp
        go_at_call 10
        refine (HW.out _ hzd).mono ?_
        rintro e yw ⟨rfl, hx⟩
        have hzw := hzd.trans (hx.mono hzd.size)
        have hsw := HX.out _ hzw
        refine hK.out _ _ hsw (fun hHeld2 => ?_)
        clear hK K hx
        try simp only [Act.put, List.setIfInBounds_toArray, List.set_cons_zero, List.set_cons_succ]
        refine wpAnyH_take (i := 5) (oi := _) (v := ?vv5_14) (dropAt (r := _) rfl) (by kernel_rfl) (by kernel_rfl) (by kernel_rfl) (fun _ _ _ h => h) (Or.inl ⟨by rfl, ?hv5_14⟩) hHeld2 ?rv5_14
        case hv5_14 => (intro w hSw; unfold NSeen at hSw; go_simp; first | done | with_reducible rfl)
        try simp only [Act.put, List.setIfInBounds_toArray, List.set_cons_zero, List.set_cons_succ]
        refine wpAnyH_take (i := 6) (oi := _) (v := ?vv6_15) (dropAt (r := _) rfl) (by kernel_rfl) (by kernel_rfl) (by kernel_rfl) (fun _ _ _ h => h) (Or.inl ⟨by rfl, ?hv6_15⟩) hHeld2 ?rv6_15
        case hv6_15 => (intro w hSw; unfold NSeen at hSw; go_simp; first | done | with_reducible rfl)
        try simp only [Act.put, List.setIfInBounds_toArray, List.set_cons_zero, List.set_cons_succ]
        refine wpAnyH_take (i := 7) (oi := _) (v := ?vv7_16) (dropAt (r := _) rfl) (by kernel_rfl) (by kernel_rfl) (by kernel_rfl) (fun _ _ _ h => h) (Or.inl ⟨by rfl, ?hv7_16⟩) hHeld2 ?rv7_16
        case hv7_16 => (intro w hSw; unfold NSeen at hSw; go_simp; first | done | with_reducible rfl)
        try simp only [Act.put, List.setIfInBounds_toArray, List.set_cons_zero, List.set_cons_succ]
        refine wpAnyH_take (i := 8) (oi := _) (v := ?vv8_17) (dropAt (r := _) rfl) (by kernel_rfl) (by kernel_rfl) (by kernel_rfl) (fun _ _ _ h => h) (Or.inl ⟨by rfl, ?hv8_17⟩) hHeld2 ?rv8_17
        case hv8_17 => (intro w hSw; unfold NSeen at hSw; go_simp; first | done | with_reducible rfl)
        try simp only [Act.put, List.setIfInBounds_toArray, List.set_cons_zero, List.set_cons_succ]
        refine wpAnyH_take (i := 9) (oi := _) (v := ?vv9_18) (dropAt (r := _) rfl) (by kernel_rfl) (by kernel_rfl) (by kernel_rfl) (fun _ _ _ h => h) (Or.inl ⟨by rfl, ?hv9_18⟩) hHeld2 ?rv9_18
        case hv9_18 => (intro w hSw; unfold NSeen at hSw; go_simp; first | done | with_reducible rfl)
        try simp only [Act.put, List.setIfInBounds_toArray, List.set_cons_zero, List.set_cons_succ]
        refine wpAnyH_done (by kernel_rfl) ?_ _
        have aw := HA.out _ hzw
        go_wp2_with fail
        refine (HJ.out _ hzw).mono ?_
        rintro e yj ⟨rfl, hzj0⟩
        have hzj := hzw.trans (hzj0.mono hzw.size)
        have aj := HA.out _ hzj
        go_wp2_with fail
        refine (HH.out _ hzj).mono ?_
        rintro e yh ⟨rfl, hx⟩
        have hzh := hzj.trans (hx.mono hzj.size)
        go_wp2_with fail
        case roundEnd => exact ⟨⟨q + 1, HQ.out, by go_num, HBR.out.trans (hzh.mono HBR.out.size)⟩, by have := HQ.out; simp [intOf]; omega⟩
      · have g1 : ((q : Int) == 0) = false := by rw [beq_eq_false_iff_ne]; omega
        have g2 : (0 : Int) < (q : Int) := by omega
        have g3 : ¬ (q : Int) < 5 := by omega
        have hz0 : q ≠ 0 := by omega
        have HW : Hid (∀ w1, Below wr.heap.size wr w1 → Calls Tryd.prog 10 #[.agg #[I64 xk, .string xo, I64 xb, I64 xc], v] w1 fun e w' => e = .returned (.tuple #[.nilIface, I64 2]) ∧ Below w1.heap.size w1 w') := fun w1 hb => HWN.out v w1 (HNF.out w1 hb).1 ((HNF.out w1 hb).2.2.2.1 hz0)
        rw [if_neg hz0] at HC HF HRT HT
        obtain ⟨ov, hve⟩ := (HNF.out wr hb0).1.form
        have hvn := (HNF.out wr hb0).2.2.2.1 hz0
        clear hz hz0 hlt hq HW0 HWN HBD HNF HX0
        subst hve
        cases ov with
        | none => exact absurd rfl hvn
        | some tv =>
        obtain ⟨ty, pv⟩ := tv
        unfold IfV at *
        clear hvn
        dsimp only at HC HF HRT HT HJ HA HX HW
        have a0 := HA.out _ hb0
        go_wp2_with fail
        refine (HC.out _ hb0).mono ?_
        rintro e y1 ⟨rfl, hx⟩
        have hz1 := hb0.trans (hx.mono hb0.size)
        clear hx
        have a1 := HA.out _ hz1
        go_wp2_with fail
        refine (HF.out _ hz1).mono ?_
        rintro e y2 ⟨rfl, hx⟩
        have hz2 := hz1.trans (hx.mono hz1.size)
        clear hx
        have hz3 := hz2.alloc hz2.size (.cells #[I64 0, .string ⟨#[]⟩, I64 0, I64 0] 24)
        have a3 := HA.out _ hz3
        go_wp2_with fail
        refine (HRT.out _ hz3).mono ?_
        rintro e y4 ⟨rfl, hx⟩
        have hz4 := hz3.trans (hx.mono hz3.size)
        clear hx
        have hz5 := hz4.alloc hz4.size (.cells #[I64 0, .string ⟨#[]⟩, I64 0, I64 0] 24)
        have a5 := HA.out _ hz5
        go_wp2_with fail
        refine (HT.out _ hz5).mono ?_
        rintro e y6 ⟨rfl, hx⟩
        have hz6 := hz5.trans (hx.mono hz5.size)
        clear hx
        have a6 := HA.out _ hz6
        have hzd := hz6.drew
        go_wp2_with fail
        have hSd := HX.out _ hzd
        refine wp_region_held_drew (S := NSeen w.heap.size (w.heap.size + 1 + 1 + 1) q (.iface ty pv) xk xo xb xc) (by kernel_rfl) hSd (fun hHeld => ?_)
        refine wpAnyH_take (i := 0) (oi := _) (v := ?vv0_19) (dropAt (r := _) rfl) (by kernel_rfl) (by kernel_rfl) (by kernel_rfl) (fun _ _ _ h => h) (Or.inl ⟨by rfl, ?hv0_19⟩) hHeld ?rv0_19
        case hv0_19 => (intro w hSw; unfold NSeen at hSw; go_simp; first | done | with_reducible rfl)
        try simp only [Act.put, List.setIfInBounds_toArray, List.set_cons_zero, List.set_cons_succ]
        refine wpAnyH_take (i := 1) (oi := _) (v := ?vv1_20) (dropAt (r := _) rfl) (by kernel_rfl) (by kernel_rfl) (by kernel_rfl) (fun _ _ _ h => h) (Or.inl ⟨by rfl, ?hv1_20⟩) hHeld ?rv1_20
        case hv1_20 => (intro w hSw; unfold NSeen at hSw; go_simp; first | done | with_reducible rfl)
        try simp only [Act.put, List.setIfInBounds_toArray, List.set_cons_zero, List.set_cons_succ]
        refine wpAnyH_take (i := 2) (oi := _) (v := ?vv2_21) (dropAt (r := _) rfl) (by kernel_rfl) (by kernel_rfl) (by kernel_rfl) (fun _ _ _ h => h) (Or.inl ⟨by rfl, ?hv2_21⟩) hHeld ?rv2_21
        case hv2_21 => (intro w hSw; unfold NSeen at hSw; go_simp; first | done | with_reducible rfl)
        try simp only [Act.put, List.setIfInBounds_toArray, List.set_cons_zero, List.set_cons_succ]
        refine wpAnyH_take (i := 3) (oi := _) (v := ?vv3_22) (dropAt (r := _) rfl) (by kernel_rfl) (by kernel_rfl) (by kernel_rfl) (fun _ _ _ h => h) (Or.inl ⟨by rfl, ?hv3_22⟩) hHeld ?rv3_22
        case hv3_22 => (intro w hSw; unfold NSeen at hSw; go_simp; first | done | with_reducible rfl)
        try simp only [Act.put, List.setIfInBounds_toArray, List.set_cons_zero, List.set_cons_succ]
        refine wpAnyH_ready (rs := [4]) (by kernel_rfl) (by simp) ?_
        refine AllReadyH.cons (o := _) (dropAt (r := _) rfl) (fun K hK => ?_) AllReadyH.nil
        go_simp
        go_at_call 10
        refine (HW.out _ hzd).mono ?_
        rintro e yw ⟨rfl, hx⟩
        have hzw := hzd.trans (hx.mono hzd.size)
        have hsw := HX.out _ hzw
        refine hK.out _ _ hsw (fun hHeld2 => ?_)
        clear hK K hx
        try simp only [Act.put, List.setIfInBounds_toArray, List.set_cons_zero, List.set_cons_succ]
        refine wpAnyH_take (i := 5) (oi := _) (v := ?vv5_23) (dropAt (r := _) rfl) (by kernel_rfl) (by kernel_rfl) (by kernel_rfl) (fun _ _ _ h => h) (Or.inl ⟨by rfl, ?hv5_23⟩) hHeld2 ?rv5_23
        case hv5_23 => (intro w hSw; unfold NSeen at hSw; go_simp; first | done | with_reducible rfl)
        try simp only [Act.put, List.setIfInBounds_toArray, List.set_cons_zero, List.set_cons_succ]
        refine wpAnyH_take (i := 6) (oi := _) (v := ?vv6_24) (dropAt (r := _) rfl) (by kernel_rfl) (by kernel_rfl) (by kernel_rfl) (fun _ _ _ h => h) (Or.inl ⟨by rfl, ?hv6_24⟩) hHeld2 ?rv6_24
        case hv6_24 => (intro w hSw; unfold NSeen at hSw; go_simp; first | done | with_reducible rfl)
        try simp only [Act.put, List.setIfInBounds_toArray, List.set_cons_zero, List.set_cons_succ]
        refine wpAnyH_take (i := 7) (oi := _) (v := ?vv7_25) (dropAt (r := _) rfl) (by kernel_rfl) (by kernel_rfl) (by kernel_rfl) (fun _ _ _ h => h) (Or.inl ⟨by rfl, ?hv7_25⟩) hHeld2 ?rv7_25
        case hv7_25 => (intro w hSw; unfold NSeen at hSw; go_simp; first | done | with_reducible rfl)
        try simp only [Act.put, List.setIfInBounds_toArray, List.set_cons_zero, List.set_cons_succ]
        refine wpAnyH_take (i := 8) (oi := _) (v := ?vv8_26) (dropAt (r := _) rfl) (by kernel_rfl) (by kernel_rfl) (by kernel_rfl) (fun _ _ _ h => h) (Or.inl ⟨by rfl, ?hv8_26⟩) hHeld2 ?rv8_26
        case hv8_26 => (intro w hSw; unfold NSeen at hSw; go_simp; first | done | with_reducible rfl)
        try simp only [Act.put, List.setIfInBounds_toArray, List.set_cons_zero, List.set_cons_succ]
        refine wpAnyH_take (i := 9) (oi := _) (v := ?vv9_27) (dropAt (r := _) rfl) (by kernel_rfl) (by kernel_rfl) (by kernel_rfl) (fun _ _ _ h => h) (Or.inl ⟨by rfl, ?hv9_27⟩) hHeld2 ?rv9_27
        case hv9_27 => (intro w hSw; unfold NSeen at hSw; go_simp; first | done | with_reducible rfl)
        try simp only [Act.put, List.setIfInBounds_toArray, List.set_cons_zero, List.set_cons_succ]
        refine wpAnyH_done (by kernel_rfl) ?_ _
        have aw := HA.out _ hzw
        go_wp2_with fail
        refine (HJ.out _ hzw).mono ?_
        rintro e yj ⟨rfl, hzj0⟩
        have hzj := hzw.trans (hzj0.mono hzw.size)
        go_wp2_with fail
        case roundEnd => exact ⟨⟨q + 1, HQ.out, by go_num, HBR.out.trans (hzj.mono HBR.out.size)⟩, by have := HQ.out; simp [intOf]; omega⟩
    · have i1 : ¬ (q : Int) < 6 := by omega
      have hb0 := HBW.out.trans (HBR.out.mono HBW.out.size)
      have HJN := Lib.hid join_none
      have HLE := Lib.hid linkErr_no
      have HLU := Lib.hid linkUn_no
      have HLF := Lib.hid linkFault_no
      have HLI := Lib.hid fun w => linkIs_no 8 w
      have HJE := Lib.hid joinErr_no
      have HJU := Lib.hid joinUn_no
      unfold sent at HLI
      have hSX := link_selfN
      have e1 : Tryd.prog.eqGuardType Tryd.prog.depth 24 = false := by kernel_rfl
      clear hlt hq HW0 HWN HBD HX0 HBR HBW
      go_wp2_with fail
      refine (HJN.out _).mono ?_
      rintro e y1 ⟨rfl, rfl⟩
      go_wp2_with fail
      refine (HLE.out _).mono ?_
      rintro e y2 ⟨rfl, hx⟩
      have hb1 := hb0.trans (hx.mono hb0.size)
      clear hx hb0
      go_wp2_with fail
      refine (HLU.out _).mono ?_
      rintro e y3 ⟨rfl, rfl⟩
      go_wp2_with fail
      refine (HLF.out _).mono ?_
      rintro e y4 ⟨rfl, hx⟩
      have hb2 := hb1.trans (hx.mono hb1.size)
      clear hx hb1
      go_wp2_with fail
      refine (HLI.out _).mono ?_
      rintro e y5 ⟨rfl, rfl⟩
      go_wp2_with fail
      refine (HJE.out _).mono ?_
      rintro e y6 ⟨rfl, hx⟩
      have hb3 := hb2.trans (hx.mono hb2.size)
      clear hx hb2
      go_wp2_with fail
      refine (HJU.out _).mono ?_
      rintro e y7 ⟨rfl, rfl⟩
      go_wp2_with fail
      refine (HS.out _ hb3).mono ?_
      rintro e y8 ⟨rfl, hx⟩
      have hb4 := hb3.trans (hx.mono hb3.size)
      go_wp2
      go_ret
      exact ⟨rfl, hb4⟩
theorem lawNone (x : Fa.Link) (k : Int) (w : World) (hE : EnvF w) : Calls Tryd.prog 3 #[valLink x, I64 k] w fun e w' => e = .returned (.bool true) ∧ Below w.heap.size w w' := by
  by_cases hxs : 100 < x.op.size
  · exact lawNone_far x k w hE hxs
  · exact lawNone_main x k w hE hxs
end Go.Proofs.YtgnhbccmdpkbiaaDoor
