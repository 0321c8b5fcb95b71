/-
  The law FaultsKnown of layer 3, walked.
-/
import Derived.Test.YtgnhbccmdpkbiaaGreatDoorFaPa
namespace Go.Proofs.YtgnhbccmdpkbiaaGreatDoor
open Go.RowKit Go.Shelf

theorem XS.below4 {X : Nat} {k : Int} {op : List UInt8} {b c : Int} {w w' : World} (h : XS X k op b c w) (hb : Below w.heap.size w w') : XS X k op b c w' := by
  obtain ⟨h0, h1, h2, h3⟩ := h
  have hl := cell_lt h0
  exact ⟨(hb.cell (p := ⟨X, _, none⟩) hl).trans h0, (hb.cell (p := ⟨X, _, none⟩) hl).trans h1, (hb.cell (p := ⟨X, _, none⟩) hl).trans h2, (hb.cell (p := ⟨X, _, none⟩) hl).trans h3⟩
theorem link_self7 (x : Fa.Link) (w : World) : (Op.equalIn 10000 34 (.agg #[I64 x.kind, .string x.op, I64 x.backend, I64 x.conn]) (.agg #[I64 x.kind, .string x.op, I64 x.backend, I64 x.conn])).run Tryz.prog w = .ok true w := by
  have h := aggL 9998 x x w
  rw [decide_eq_true rfl] at h
  exact h
theorem k_parse1 : (Fa.parse [100, 111, 58, 32, 101, 120, 104, 97, 117, 115, 116, 101, 100, 59, 32]).1 = 6 := by decide +kernel
theorem k_parse2 : (Fa.parse [100, 111, 32, 111, 110, 32, 49, 54, 58, 32, 100, 105, 97, 108]).1 = 7 := by decide +kernel
theorem k_parse3 : (Fa.parse [40, 100, 111, 58, 32, 100, 105, 97, 108, 41]).1 = 6 := by decide +kernel
theorem parse_err {s : List UInt8} {w : World} {E : Int} (hE : (Fa.parse s).1 = E) (hne : E ≠ 0) (hT : EnvT w) (hs : s.length ≤ 1000000) : Calls Tryz.prog 31 #[S8 s] w fun e w' => e = .returned (.tuple #[.nilIface, I64 E]) ∧ Below w.heap.size w w' := by
  refine (pparse_any s w hT hs).mono ?_
  rintro e w' ⟨h1, ⟨_, h2⟩ | ⟨h2, _⟩⟩
  · exact ⟨by rw [h2, hE], h1⟩
  · exact absurd (hE.symm.trans h2) hne
def kDial : Fa.Link := ⟨7, nDial, 2, 0⟩
theorem k_first : firstR 7 exL = (kDial, 0) := by decide +kernel
def kDo : Fa.Link := ⟨6, ⟨#[68, 111]⟩, -1, 0⟩
theorem k_wrap : wrapE kDo .nil = 6 := by decide +kernel
set_option maxHeartbeats 8000000 in
set_option maxRecDepth 100000 in
set_option linter.unusedSimpArgs false in
theorem lawKnown (w : World) (hT : EnvT w) : Calls Tryz.prog 10 #[] w fun e w' => e = .returned (.bool true) ∧ Below w.heap.size w w' := by
  have HE := Lib.hid hT.f
  have HT := Lib.hid hT
  have HWR : Hid (∀ w1, Calls Tryz.prog 16 #[.agg #[I64 6, .string ⟨#[68, 111]⟩, I64 (-1), I64 0], .nilIface] w1 fun e w' => e = .returned (.tuple #[.nilIface, I64 6]) ∧ Below w1.heap.size w1 w') := fun w1 => by
    refine (wrap_nil kDo w1 (by decide)).mono ?_
    rintro e w' ⟨h1, _, h3⟩
    rw [k_wrap] at h1
    exact ⟨h1 (by decide), h3⟩
  clear hT
  go_enter Tryz.func10, Tryz.ntmps10
  go_wp2_with fail
  refine (example_any _).mono ?_
  rintro e w1 ⟨g, rfl, hn1, hb1⟩
  go_wp2_with fail
  refine (sBuild g w1 hn1).mono ?_
  rintro e w2 ⟨rf, rfl, hh2, hx⟩
  have hb2 := hb1.trans (hx.mono hb1.size)
  obtain ⟨ty, pv, hty⟩ := valE_iface rf
  rw [hty] at hh2 ⊢
  clear hx hn1 hb1 hty
  have HFR := Lib.hid (pfirst_any _ exT _ 7 w2 hh2 ex_ok (by decide))
  rw [ex_chain] at HFR
  unfold FirstPost at HFR
  rw [k_first] at HFR
  unfold valLink kDial at HFR
  dsimp only at HFR
  go_wp2_with fail
  refine HFR.out.mono ?_
  rintro e w3 ⟨rfl, hx⟩
  have hb3 := hb2.trans (hx.mono hb2.size)
  clear hx hb2 HFR hh2
  unfold nDial
  go_wp2_with fail
  have hbX := (Below.refl w3.heap.size w3).alloc (Nat.le_refl _) (.cells #[I64 7, .string ⟨#[100, 105, 97, 108]⟩, I64 2, I64 0] 34)
  have hyb := blk_new w3 (.cells #[I64 7, .string ⟨#[100, 105, 97, 108]⟩, I64 2, I64 0] 34)
  have hXS : XS w3.heap.size 7 [100, 105, 97, 108] 2 0 (w3.alloc (.cells #[I64 7, .string ⟨#[100, 105, 97, 108]⟩, I64 2, I64 0] 34)) := ⟨blk_cell hyb 0, blk_cell hyb 1, blk_cell hyb 2, blk_cell hyb 3⟩
  have hb4 := hb3.trans (hbX.mono hb3.size)
  generalize w3.heap.size = X at hXS ⊢
  generalize w3.alloc (.cells #[I64 7, .string ⟨#[100, 105, 97, 108]⟩, I64 2, I64 0] 34) = w4 at hXS hb4 ⊢
  clear hbX hyb hb3
  refine (link_any _ _ _ _ _).mono ?_
  rintro e w5 ⟨rfl, hx⟩
  have hb5 := hb4.trans (hx.mono hb4.size)
  have hXS5 := hXS.below4 hx
  clear hx hb4 hXS
  go_wp2_with fail
  refine (HWR.out _).mono ?_
  rintro e w6 ⟨rfl, hx⟩
  have hb6 := hb5.trans (hx.mono hb5.size)
  have hXS6 := hXS5.below4 hx
  clear hx hb5 hXS5
  go_wp2_with fail
  refine (parse_err k_parse1 (by decide) (HT.out.below hb6) (by decide)).mono ?_
  rintro e w7 ⟨rfl, hx⟩
  have hb7 := hb6.trans (hx.mono hb6.size)
  have hXS7 := hXS6.below4 hx
  clear hx hb6 hXS6
  go_wp2_with fail
  refine (parse_err k_parse2 (by decide) (HT.out.below hb7) (by decide)).mono ?_
  rintro e w8 ⟨rfl, hx⟩
  have hb8 := hb7.trans (hx.mono hb7.size)
  have hXS8 := hXS7.below4 hx
  clear hx hb7 hXS7
  go_wp2_with fail
  refine (parse_err k_parse3 (by decide) (HT.out.below hb8) (by decide)).mono ?_
  rintro e w9a ⟨rfl, hx⟩
  have hb9 := hb8.trans (hx.mono hb8.size)
  have hXS9 := hXS8.below4 hx
  clear hx hb8 hXS8
  have hBX := link_self7 ⟨7, ⟨#[100, 105, 97, 108]⟩, 2, 0⟩
  dsimp only at hBX
  have e1 : Tryz.prog.eqGuardType Tryz.prog.depth 34 = false := by kernel_rfl
  have hXSd : XS X 7 [100, 105, 97, 108] 2 0 w9a.drew := hXS9
  have HBW : Hid (Below w.heap.size w w9a.drew) := hb9.drew
  clear hb9 hXS9
  go_wp2_with fail
  refine wp_region_held_drew (S := XS X 7 [100, 105, 97, 108] 2 0) (by kernel_rfl) hXSd (fun hHeld => ?_)
  refine wpAnyH_take (i := 0) (oi := _) (v := ?vv0_1) (dropAt (r := _) rfl) (by kernel_rfl) (by kernel_rfl) (by kernel_rfl) (fun _ _ _ h => h) (Or.inl ⟨by rfl, ?hv0_1⟩) hHeld ?rv0_1
  case hv0_1 => (intro w hSw; unfold XS at hSw; go_simp; first | done | with_reducible rfl)
  try simp only [Act.put, List.setIfInBounds_toArray, List.set_cons_zero, List.set_cons_succ]
  refine wpAnyH_take (i := 1) (oi := _) (v := ?vv1_2) (dropAt (r := _) rfl) (by kernel_rfl) (by kernel_rfl) (by kernel_rfl) (fun _ _ _ h => h) (Or.inl ⟨by rfl, ?hv1_2⟩) hHeld ?rv1_2
  case hv1_2 => (intro w hSw; unfold XS at hSw; go_simp; first | done | with_reducible rfl)
  try simp only [Act.put, List.setIfInBounds_toArray, List.set_cons_zero, List.set_cons_succ]
  refine wpAnyH_take (i := 2) (oi := _) (v := ?vv2_3) (dropAt (r := _) rfl) (by kernel_rfl) (by kernel_rfl) (by kernel_rfl) (fun _ _ _ h => h) (Or.inl ⟨by rfl, ?hv2_3⟩) hHeld ?rv2_3
  case hv2_3 => (intro w hSw; unfold XS at hSw; go_simp; first | done | with_reducible rfl)
  try simp only [Act.put, List.setIfInBounds_toArray, List.set_cons_zero, List.set_cons_succ]
  refine wpAnyH_take (i := 3) (oi := _) (v := ?vv3_4) (dropAt (r := _) rfl) (by kernel_rfl) (by kernel_rfl) (by kernel_rfl) (fun _ _ _ h => h) (Or.inl ⟨by rfl, ?hv3_4⟩) hHeld ?rv3_4
  case hv3_4 => (intro w hSw; unfold XS at hSw; go_simp; first | done | with_reducible rfl)
  try simp only [Act.put, List.setIfInBounds_toArray, List.set_cons_zero, List.set_cons_succ]
  refine wpAnyH_take (i := 4) (oi := _) (v := ?vv4_5) (dropAt (r := _) rfl) (by kernel_rfl) (by kernel_rfl) (by kernel_rfl) (fun _ _ _ h => h) (Or.inl ⟨by rfl, ?hv4_5⟩) hHeld ?rv4_5
  case hv4_5 => (intro w hSw; unfold XS at hSw; go_simp; first | done | with_reducible rfl)
  try simp only [Act.put, List.setIfInBounds_toArray, List.set_cons_zero, List.set_cons_succ]
  refine wpAnyH_take (i := 5) (oi := _) (v := ?vv5_6) (dropAt (r := _) rfl) (by kernel_rfl) (by kernel_rfl) (by kernel_rfl) (fun _ _ _ h => h) (Or.inl ⟨by rfl, ?hv5_6⟩) hHeld ?rv5_6
  case hv5_6 => (intro w hSw; unfold XS at hSw; go_simp; first | done | with_reducible rfl)
  try simp only [Act.put, List.setIfInBounds_toArray, List.set_cons_zero, List.set_cons_succ]
  refine wpAnyH_take (i := 6) (oi := _) (v := ?vv6_7) (dropAt (r := _) rfl) (by kernel_rfl) (by kernel_rfl) (by kernel_rfl) (fun _ _ _ h => h) (Or.inl ⟨by rfl, ?hv6_7⟩) hHeld ?rv6_7
  case hv6_7 => (intro w hSw; unfold XS at hSw; go_simp; first | done | with_reducible rfl)
  try simp only [Act.put, List.setIfInBounds_toArray, List.set_cons_zero, List.set_cons_succ]
  refine wpAnyH_take (i := 7) (oi := _) (v := ?vv7_8) (dropAt (r := _) rfl) (by kernel_rfl) (by kernel_rfl) (by kernel_rfl) (fun _ _ _ h => h) (Or.inl ⟨by rfl, ?hv7_8⟩) hHeld ?rv7_8
  case hv7_8 => (intro w hSw; unfold XS at hSw; go_simp; first | done | with_reducible rfl)
  try simp only [Act.put, List.setIfInBounds_toArray, List.set_cons_zero, List.set_cons_succ]
  refine wpAnyH_ready (rs := [8]) (by kernel_rfl) (by simp) ?_
  refine AllReadyH.cons (o := _) (dropAt (r := _) rfl) (fun K hK => ?_) AllReadyH.nil
  go_simp
  go_at_call 35
  refine (link_any _ _ _ _ _).mono ?_
  rintro e w9 ⟨rfl, hx9⟩
  have hh9 := hHeld.below4 hx9
  refine hK.out _ _ hh9 (fun hHeld9 => ?_)
  clear hK K
  try simp only [Act.put, List.setIfInBounds_toArray, List.set_cons_zero, List.set_cons_succ]
  refine wpAnyH_take (i := 9) (oi := _) (v := ?vv9_9) (dropAt (r := _) rfl) (by kernel_rfl) (by kernel_rfl) (by kernel_rfl) (fun _ _ _ h => h) (Or.inl ⟨by rfl, ?hv9_9⟩) hHeld9 ?rv9_9
  case hv9_9 => (intro w hSw; unfold XS at hSw; go_simp; first | done | with_reducible rfl)
  try simp only [Act.put, List.setIfInBounds_toArray, List.set_cons_zero, List.set_cons_succ]
  refine wpAnyH_take (i := 10) (oi := _) (v := ?vv10_10) (dropAt (r := _) rfl) (by kernel_rfl) (by kernel_rfl) (by kernel_rfl) (fun _ _ _ h => h) (Or.inl ⟨by rfl, ?hv10_10⟩) hHeld9 ?rv10_10
  case hv10_10 => (intro w hSw; unfold XS at hSw; go_simp; first | done | with_reducible rfl)
  try simp only [Act.put, List.setIfInBounds_toArray, List.set_cons_zero, List.set_cons_succ]
  refine wpAnyH_take (i := 11) (oi := _) (v := ?vv11_11) (dropAt (r := _) rfl) (by kernel_rfl) (by kernel_rfl) (by kernel_rfl) (fun _ _ _ h => h) (Or.inl ⟨by rfl, ?hv11_11⟩) hHeld9 ?rv11_11
  case hv11_11 => (intro w hSw; unfold XS at hSw; go_simp; first | done | with_reducible rfl)
  try simp only [Act.put, List.setIfInBounds_toArray, List.set_cons_zero, List.set_cons_succ]
  refine wpAnyH_take (i := 12) (oi := _) (v := ?vv12_12) (dropAt (r := _) rfl) (by kernel_rfl) (by kernel_rfl) (by kernel_rfl) (fun _ _ _ h => h) (Or.inl ⟨by rfl, ?hv12_12⟩) hHeld9 ?rv12_12
  case hv12_12 => (intro w hSw; unfold XS at hSw; go_simp; first | done | with_reducible rfl)
  try simp only [Act.put, List.setIfInBounds_toArray, List.set_cons_zero, List.set_cons_succ]
  refine wpAnyH_take (i := 13) (oi := _) (v := ?vv13_13) (dropAt (r := _) rfl) (by kernel_rfl) (by kernel_rfl) (by kernel_rfl) (fun _ _ _ h => h) (Or.inl ⟨by rfl, ?hv13_13⟩) hHeld9 ?rv13_13
  case hv13_13 => (intro w hSw; unfold XS at hSw; go_simp; first | done | with_reducible rfl)
  try simp only [Act.put, List.setIfInBounds_toArray, List.set_cons_zero, List.set_cons_succ]
  refine wpAnyH_take (i := 14) (oi := _) (v := ?vv14_14) (dropAt (r := _) rfl) (by kernel_rfl) (by kernel_rfl) (by kernel_rfl) (fun _ _ _ h => h) (Or.inl ⟨by rfl, ?hv14_14⟩) hHeld9 ?rv14_14
  case hv14_14 => (intro w hSw; unfold XS at hSw; go_simp; first | done | with_reducible rfl)
  try simp only [Act.put, List.setIfInBounds_toArray, List.set_cons_zero, List.set_cons_succ]
  refine wpAnyH_take (i := 15) (oi := _) (v := ?vv15_15) (dropAt (r := _) rfl) (by kernel_rfl) (by kernel_rfl) (by kernel_rfl) (fun _ _ _ h => h) (Or.inl ⟨by rfl, ?hv15_15⟩) hHeld9 ?rv15_15
  case hv15_15 => (intro w hSw; unfold XS at hSw; go_simp; first | done | with_reducible rfl)
  try simp only [Act.put, List.setIfInBounds_toArray, List.set_cons_zero, List.set_cons_succ]
  refine wpAnyH_take (i := 16) (oi := _) (v := ?vv16_16) (dropAt (r := _) rfl) (by kernel_rfl) (by kernel_rfl) (by kernel_rfl) (fun _ _ _ h => h) (Or.inl ⟨by rfl, ?hv16_16⟩) hHeld9 ?rv16_16
  case hv16_16 => (intro w hSw; unfold XS at hSw; go_simp; first | done | with_reducible rfl)
  try simp only [Act.put, List.setIfInBounds_toArray, List.set_cons_zero, List.set_cons_succ]
  refine wpAnyH_take (i := 17) (oi := _) (v := ?vv17_17) (dropAt (r := _) rfl) (by kernel_rfl) (by kernel_rfl) (by kernel_rfl) (fun _ _ _ h => h) (Or.inl ⟨by rfl, ?hv17_17⟩) hHeld9 ?rv17_17
  case hv17_17 => (intro w hSw; unfold XS at hSw; go_simp; first | done | with_reducible rfl)
  try simp only [Act.put, List.setIfInBounds_toArray, List.set_cons_zero, List.set_cons_succ]
  refine wpAnyH_take (i := 18) (oi := _) (v := ?vv18_18) (dropAt (r := _) rfl) (by kernel_rfl) (by kernel_rfl) (by kernel_rfl) (fun _ _ _ h => h) (Or.inl ⟨by rfl, ?hv18_18⟩) hHeld9 ?rv18_18
  case hv18_18 => (intro w hSw; unfold XS at hSw; go_simp; first | done | with_reducible rfl)
  try simp only [Act.put, List.setIfInBounds_toArray, List.set_cons_zero, List.set_cons_succ]
  refine wpAnyH_take (i := 19) (oi := _) (v := ?vv19_19) (dropAt (r := _) rfl) (by kernel_rfl) (by kernel_rfl) (by kernel_rfl) (fun _ _ _ h => h) (Or.inl ⟨by rfl, ?hv19_19⟩) hHeld9 ?rv19_19
  case hv19_19 => (intro w hSw; unfold XS at hSw; go_simp; first | done | with_reducible rfl)
  try simp only [Act.put, List.setIfInBounds_toArray, List.set_cons_zero, List.set_cons_succ]
  refine wpAnyH_take (i := 20) (oi := _) (v := ?vv20_20) (dropAt (r := _) rfl) (by kernel_rfl) (by kernel_rfl) (by kernel_rfl) (fun _ _ _ h => h) (Or.inl ⟨by rfl, ?hv20_20⟩) hHeld9 ?rv20_20
  case hv20_20 => (intro w hSw; unfold XS at hSw; go_simp; first | done | with_reducible rfl)
  try simp only [Act.put, List.setIfInBounds_toArray, List.set_cons_zero, List.set_cons_succ]
  refine wpAnyH_take (i := 21) (oi := _) (v := ?vv21_21) (dropAt (r := _) rfl) (by kernel_rfl) (by kernel_rfl) (by kernel_rfl) (fun _ _ _ h => h) (Or.inl ⟨by rfl, ?hv21_21⟩) hHeld9 ?rv21_21
  case hv21_21 => (intro w hSw; unfold XS at hSw; go_simp; first | done | with_reducible rfl)
  try simp only [Act.put, List.setIfInBounds_toArray, List.set_cons_zero, List.set_cons_succ]
  refine wpAnyH_take (i := 22) (oi := _) (v := ?vv22_22) (dropAt (r := _) rfl) (by kernel_rfl) (by kernel_rfl) (by kernel_rfl) (fun _ _ _ h => h) (Or.inl ⟨by rfl, ?hv22_22⟩) hHeld9 ?rv22_22
  case hv22_22 => (intro w hSw; unfold XS at hSw; go_simp; first | done | with_reducible rfl)
  try simp only [Act.put, List.setIfInBounds_toArray, List.set_cons_zero, List.set_cons_succ]
  refine wpAnyH_take (i := 23) (oi := _) (v := ?vv23_23) (dropAt (r := _) rfl) (by kernel_rfl) (by kernel_rfl) (by kernel_rfl) (fun _ _ _ h => h) (Or.inl ⟨by rfl, ?hv23_23⟩) hHeld9 ?rv23_23
  case hv23_23 => (intro w hSw; unfold XS at hSw; go_simp; first | done | with_reducible rfl)
  try simp only [Act.put, List.setIfInBounds_toArray, List.set_cons_zero, List.set_cons_succ]
  refine wpAnyH_take (i := 24) (oi := _) (v := ?vv24_24) (dropAt (r := _) rfl) (by kernel_rfl) (by kernel_rfl) (by kernel_rfl) (fun _ _ _ h => h) (Or.inl ⟨by rfl, ?hv24_24⟩) hHeld9 ?rv24_24
  case hv24_24 => (intro w hSw; unfold XS at hSw; go_simp; first | done | with_reducible rfl)
  try simp only [Act.put, List.setIfInBounds_toArray, List.set_cons_zero, List.set_cons_succ]
  refine wpAnyH_take (i := 25) (oi := _) (v := ?vv25_25) (dropAt (r := _) rfl) (by kernel_rfl) (by kernel_rfl) (by kernel_rfl) (fun _ _ _ h => h) (Or.inl ⟨by rfl, ?hv25_25⟩) hHeld9 ?rv25_25
  case hv25_25 => (intro w hSw; unfold XS at hSw; go_simp; first | done | with_reducible rfl)
  try simp only [Act.put, List.setIfInBounds_toArray, List.set_cons_zero, List.set_cons_succ]
  refine wpAnyH_take (i := 26) (oi := _) (v := ?vv26_26) (dropAt (r := _) rfl) (by kernel_rfl) (by kernel_rfl) (by kernel_rfl) (fun _ _ _ h => h) (Or.inl ⟨by rfl, ?hv26_26⟩) hHeld9 ?rv26_26
  case hv26_26 => (intro w hSw; unfold XS at hSw; go_simp; first | done | with_reducible rfl)
  try simp only [Act.put, List.setIfInBounds_toArray, List.set_cons_zero, List.set_cons_succ]
  refine wpAnyH_take (i := 27) (oi := _) (v := ?vv27_27) (dropAt (r := _) rfl) (by kernel_rfl) (by kernel_rfl) (by kernel_rfl) (fun _ _ _ h => h) (Or.inl ⟨by rfl, ?hv27_27⟩) hHeld9 ?rv27_27
  case hv27_27 => (intro w hSw; unfold XS at hSw; go_simp; first | done | with_reducible rfl)
  try simp only [Act.put, List.setIfInBounds_toArray, List.set_cons_zero, List.set_cons_succ]
  refine wpAnyH_ready (rs := [28]) (by kernel_rfl) (by simp) ?_
  refine AllReadyH.cons (o := _) (dropAt (r := _) rfl) (fun K hK => ?_) AllReadyH.nil
  go_simp
  go_at_call 12
  refine (shown_any _ (HE.out.below (HBW.out.trans (hx9.mono HBW.out.size)))).mono ?_
  rintro e w10 ⟨rfl, hx10⟩
  have hh10 := hh9.below4 hx10
  refine hK.out _ _ hh10 (fun hHeld10 => ?_)
  clear hK K
  try simp only [Act.put, List.setIfInBounds_toArray, List.set_cons_zero, List.set_cons_succ]
  refine wpAnyH_take (i := 29) (oi := _) (v := ?vv29_28) (dropAt (r := _) rfl) (by kernel_rfl) (by kernel_rfl) (by kernel_rfl) (fun _ _ _ h => h) (Or.inl ⟨by rfl, ?hv29_28⟩) hHeld10 ?rv29_28
  case hv29_28 => (intro w hSw; unfold XS at hSw; go_simp; first | done | with_reducible rfl)
  try simp only [Act.put, List.setIfInBounds_toArray, List.set_cons_zero, List.set_cons_succ]
  refine wpAnyH_take (i := 30) (oi := _) (v := ?vv30_29) (dropAt (r := _) rfl) (by kernel_rfl) (by kernel_rfl) (by kernel_rfl) (fun _ _ _ h => h) (Or.inl ⟨by rfl, ?hv30_29⟩) hHeld10 ?rv30_29
  case hv30_29 => (intro w hSw; unfold XS at hSw; go_simp; first | done | with_reducible rfl)
  try simp only [Act.put, List.setIfInBounds_toArray, List.set_cons_zero, List.set_cons_succ]
  refine wpAnyH_done (by kernel_rfl) ?_ _
  go_wp2_with fail
  go_ret
  exact ⟨rfl, (HBW.out.trans (hx9.mono HBW.out.size)).trans (hx10.mono (Nat.le_trans HBW.out.size hx9.size))⟩
end Go.Proofs.YtgnhbccmdpkbiaaGreatDoor
