/-
  The law FaultsAsks of layer 3, walked.
-/
import Derived.Test.YtgnhbccmdpkbiaaGreatDoorFaw21
import Derived.Test.YtgnhbccmdpkbiaaGreatDoorFaw22
namespace Go.Proofs.YtgnhbccmdpkbiaaGreatDoor
open Go.RowKit Go.Shelf

theorem four_step {w w' : World} {a : Nat} {u0 u1 u2 u3 : Value} (hb : Below w.heap.size w w') (h : w.cell? ⟨a, 0, none⟩ = some u0 ∧ w.cell? ⟨a, 1, none⟩ = some u1 ∧ w.cell? ⟨a, 2, none⟩ = some u2 ∧ w.cell? ⟨a, 3, none⟩ = some u3) :
    w'.cell? ⟨a, 0, none⟩ = some u0 ∧ w'.cell? ⟨a, 1, none⟩ = some u1 ∧ w'.cell? ⟨a, 2, none⟩ = some u2 ∧ w'.cell? ⟨a, 3, none⟩ = some u3 := by
  have hl := cell_lt h.1
  exact ⟨(hb.cell (p := ⟨a, _, none⟩) hl).trans h.1, (hb.cell (p := ⟨a, _, none⟩) hl).trans h.2.1, (hb.cell (p := ⟨a, _, none⟩) hl).trans h.2.2.1, (hb.cell (p := ⟨a, _, none⟩) hl).trans h.2.2.2⟩
theorem first_has (k : Int) (l : List Fa.Node) : (decide ((firstR k l).2 = 0)) = l.any (hitN k) := by
  unfold firstR
  cases h : Fa.findL k l with
  | none =>
    have h2 : l.find? (hitN k) = none := by
      unfold Fa.findL at h
      exact Option.map_eq_none_iff.1 h
    rw [List.find?_eq_none] at h2
    have : l.any (hitN k) = false := by
      rw [List.any_eq_false]
      intro x hx
      simpa using h2 x hx
    rw [this]; rfl
  | some x =>
    have h2 : (l.find? (hitN k)).isSome = true := by
      unfold Fa.findL at h
      obtain ⟨y, hy, _⟩ := Option.map_eq_some_iff.1 h
      rw [show l.find? (hitN k) = some y from hy]; rfl
    rw [List.find?_isSome] at h2
    have : l.any (hitN k) = true := List.any_eq_true.2 h2
    rw [this]; rfl
theorem link_self (x : Fa.Link) (w : World) : (Op.equalIn 10000 34 (.agg #[I64 x.kind, .string x.op, I64 x.backend, I64 x.conn]) (.agg #[I64 x.kind, .string x.op, I64 x.backend, I64 x.conn])).run Tryz.prog w = .ok true w := by
  have h := aggL 9998 x x w
  rw [decide_eq_true rfl] at h
  exact h
theorem s12_step {W w w' : World} {a b c : Nat} {u0 u1 u2 u3 x0 x1 x2 x3 y0 y1 y2 y3 : Value} (hb : Below w.heap.size w w') (h : (w.cell? ⟨a, 0, none⟩ = some u0 ∧ w.cell? ⟨a, 1, none⟩ = some u1 ∧ w.cell? ⟨a, 2, none⟩ = some u2 ∧ w.cell? ⟨a, 3, none⟩ = some u3) ∧ (w.cell? ⟨b, 0, none⟩ = some x0 ∧ w.cell? ⟨b, 1, none⟩ = some x1 ∧ w.cell? ⟨b, 2, none⟩ = some x2 ∧ w.cell? ⟨b, 3, none⟩ = some x3) ∧ (w.cell? ⟨c, 0, none⟩ = some y0 ∧ w.cell? ⟨c, 1, none⟩ = some y1 ∧ w.cell? ⟨c, 2, none⟩ = some y2 ∧ w.cell? ⟨c, 3, none⟩ = some y3) ∧ Below W.heap.size W w) :
    (w'.cell? ⟨a, 0, none⟩ = some u0 ∧ w'.cell? ⟨a, 1, none⟩ = some u1 ∧ w'.cell? ⟨a, 2, none⟩ = some u2 ∧ w'.cell? ⟨a, 3, none⟩ = some u3) ∧ (w'.cell? ⟨b, 0, none⟩ = some x0 ∧ w'.cell? ⟨b, 1, none⟩ = some x1 ∧ w'.cell? ⟨b, 2, none⟩ = some x2 ∧ w'.cell? ⟨b, 3, none⟩ = some x3) ∧ (w'.cell? ⟨c, 0, none⟩ = some y0 ∧ w'.cell? ⟨c, 1, none⟩ = some y1 ∧ w'.cell? ⟨c, 2, none⟩ = some y2 ∧ w'.cell? ⟨c, 3, none⟩ = some y3) ∧ Below W.heap.size W w' :=
  ⟨four_step hb h.1, four_step hb h.2.1, four_step hb h.2.2.1, h.2.2.2.trans (hb.mono h.2.2.2.size)⟩
theorem s12_below {W w : World} {p q r : Prop} (h : p ∧ q ∧ r ∧ Below W.heap.size W w) : Below W.heap.size W w := h.2.2.2
theorem build_wide {l : List Fa.Node} (h : (Fa.build l).1 = 0) : l.any Fa.wideN = false := by
  unfold Fa.build at h
  split at h
  · exact absurd h (by decide)
  · split at h
    · split at h
      · exact absurd h (by decide)
      · rename_i hw
        simpa using hw
    · exact absurd h (by decide)
theorem hit_range {l : List Fa.Node} {k : Int} {x : Fa.Link} (hw : l.any Fa.wideN = false) (h : Fa.findL k l = some x) : 1 ≤ k ∧ k < 17 := by
  unfold Fa.findL at h
  obtain ⟨y, hy, _⟩ := Option.map_eq_some_iff.1 h
  have hm := List.mem_of_find?_eq_some hy
  have hp := List.find?_some hy
  rw [List.any_eq_false] at hw
  have h1 := hw y hm
  simp only [Bool.and_eq_true, beq_iff_eq] at hp
  have hok : Fa.okNum y.link = true := by
    simpa [Fa.wideN, hp.1] using h1
  have h2 := numIn y.link hok
  rw [hp.2] at h2
  exact ⟨h2.1, h2.2.1⟩
theorem at_drop {α : Type} {l : List α} {i : Nat} {o : α} {r : List α} (h : l.drop i = o :: r) : l.toArray[i]? = some o := by
  rw [List.getElem?_toArray, ← List.head?_drop, h]; rfl
theorem hasB_some {k : Int} {x : Fa.Link} {l : List Fa.Node} (h : firstR k l = (x, 0)) (h1 : 1 ≤ k) (h2 : k < 17) : (decide ((firstR k l).2 = 0) && decide (1 ≤ k) && decide (k < 17)) = true := by
  rw [h, decide_eq_true h1, decide_eq_true h2]; rfl
theorem hasB_none {k : Int} {x : Fa.Link} {l : List Fa.Node} (h : firstR k l = (x, 4)) : (decide ((firstR k l).2 = 0) && decide (1 ≤ k) && decide (k < 17)) = false := by
  rw [h]; rfl
set_option maxHeartbeats 8000000 in
set_option maxRecDepth 100000 in
set_option linter.unusedSimpArgs false in
theorem lawAsks (v : Value) (l : List Fa.Node) (k : Int) (w : World) (hE : EnvF w) (h : NodesIn w v l) : Calls Tryz.prog 6 #[v, I64 k] w fun e w' => e = .returned (.bool true) ∧ Below w.heap.size w w' := by
  have HF := Lib.hid (far_full v l w h.1)
  have HS : Hid (∀ w1, Below w.heap.size w w1 → Calls Tryz.prog 12 #[] w1 fun e w' => e = .returned (.bool true) ∧ Below w1.heap.size w1 w') := fun w1 hb => shown_any w1 (hE.below hb)
  cases hq : farL l with
  | true =>
    rw [hq] at HF
    clear hq h hE
    go_enter Tryz.func6, Tryz.ntmps6
    go_wp2_with (first | (go_at_call 11; refine HF.out.mono ?_; rintro e w1 ⟨rfl, rfl⟩) | (go_at_call 12; refine (HS.out _ (Below.refl _ _)).mono ?_; rintro e w2 ⟨rfl, hb2⟩))
    go_ret
    exact ⟨rfl, hb2⟩
  | false =>
    rw [hq] at HF
    obtain ⟨hl, hs⟩ := far_sizes hq
    have HR := Lib.hid (rbuild_any v l w h.1 (by omega) hs)
    by_cases h0 : (Fa.build l).1 = 0
    · obtain ⟨b1, b2, b3, b4, b5⟩ := Fa.build_ok h0
      have hne : l ≠ [] := fun e => by
        subst e
        exact absurd h0 (by decide)
      rw [h0] at HR
      have HB2 : Hid (∀ w1, Below w.heap.size w w1 → Calls Tryz.prog 13 #[v] w1 fun e w' => ∃ rf, e = .returned (.tuple #[valE rf, I64 0]) ∧ Holds (fun _ => True) w' (Fa.build l).2 [valE rf] ∧ Below w1.heap.size w1 w') := fun w1 hb => (build_any v l w1 (h.below hb) (by omega) hs).mono (fun e w' hp => by
        obtain ⟨_, p2, p3⟩ := hp
        obtain ⟨rf, e1, e2⟩ := p2 h0
        exact ⟨rf, e1, e2.mono (fun _ _ _ => trivial), p3⟩)
      have HPF : Hid (∀ w1 rv, Holds (fun _ => True) w1 (Fa.build l).2 [rv] → Calls Tryz.prog 20 #[rv, I64 k] w1 (FirstPost k l w1)) := fun w1 rv hh => by
        have h1 := pfirst_any _ (Fa.build l).2 rv k w1 hh b2 (by omega)
        rw [b1] at h1
        exact h1
      have HRF : Hid (∀ w1, Below w.heap.size w w1 → Calls Tryz.prog 21 #[v, I64 k] w1 (FirstPost k l w1)) := fun w1 hb => rfirst_any v l k w1 (h.1.below hb) (by omega) hne
      have hroot : Fa.rootL l = (Fa.build l).2.root := by
        have h1 := Fa.rootL_chain b2 (fun e => by rw [e] at b3; exact absurd b3 (by decide)) 0 [] rfl
        rw [List.append_nil, b1] at h1
        exact h1
      have HRR : Hid (∀ w1 rv, Holds (fun _ => True) w1 (Fa.build l).2 [rv] → EnvF w1 → Calls Tryz.prog 22 #[rv] w1 fun e w' => e = .returned (.tuple #[valLink (Fa.rootL l), I64 0]) ∧ Below w1.heap.size w1 w') := fun w1 rv hh hE => by
        rw [hroot]
        exact root_any (Fa.build l).2 rv w1 hh b2 (by omega) hE.et
      have HRO : Hid (∀ w1, Below w.heap.size w w1 → Calls Tryz.prog 24 #[v] w1 fun e w' => e = .returned (valLink (Fa.rootL l)) ∧ Below w1.heap.size w1 w') := fun w1 hb => rroot_any v l w1 (h.1.below hb) (by omega) hne
      have hhas : (Fa.build l).2.has k = l.any (hitN k) := by
        rw [Fa.has_chain k _ 0 b2, b1]; rfl
      have HHA : Hid (∀ w1 rv, Holds (fun _ => True) w1 (Fa.build l).2 [rv] → Calls Tryz.prog 23 #[rv, I64 k] w1 fun e w' => e = .returned (.bool (decide ((firstR k l).2 = 0) && decide (1 ≤ k) && decide (k < 17))) ∧ Below w1.heap.size w1 w') := fun w1 rv hh => by
        have h1 := has_any _ (Fa.build l).2 rv k w1 hh b2
        rw [hhas, ← first_has] at h1
        rw [show (decide ((firstR k l).2 = 0) && decide (1 ≤ k) && decide (k < 17)) = (decide (1 ≤ k) && decide (k < 17) && decide ((firstR k l).2 = 0)) from by
          generalize decide ((firstR k l).2 = 0) = p1
          generalize decide (1 ≤ k) = p2
          generalize decide (k < 17) = p3
          cases p1 <;> cases p2 <;> cases p3 <;> rfl]
        exact h1
      have HE := Lib.hid hE
      obtain ⟨zl, hzl⟩ : ∃ zl, zl = Fa.rootL l := ⟨_, rfl⟩
      rw [← hzl] at HRR HRO
      obtain ⟨zk, zo, zb, zc⟩ := zl
      unfold valLink at HRR HRO
      dsimp only at HRR HRO
      have hwd := build_wide h0
      obtain ⟨av, capv, hv⟩ := h.1.len
      cases hfl : Fa.findL k l with
      | some x =>
        have HFR := Lib.hid (first_hit hfl)
        obtain ⟨hk1, hk2⟩ := hit_range hwd hfl
        have HHB := Lib.hid (hasB_some HFR.out hk1 hk2)
        obtain ⟨xk, xo, xb, xc⟩ := x
        unfold FirstPost at HPF HRF
        unfold valLink at HPF HRF
        clear hq hl hs h0 b1 b2 b3 b4 b5 hne hroot hhas h hE hwd hfl hzl hv
        have HBX := Lib.hid (link_self ⟨xk, xo, xb, xc⟩)
        have hz1 := HBX.out
        have hz2 := link_self ⟨zk, zo, zb, zc⟩
        dsimp only at hz1 hz2
        have e1 : Tryz.prog.eqGuardType Tryz.prog.depth 34 = false := by kernel_rfl
        go_enter Tryz.func6, Tryz.ntmps6
        go_wp2_with fail
        refine HF.out.mono ?_
        rintro e w1 ⟨rfl, rfl⟩
        go_wp2_with fail
        refine HR.out.mono ?_
        rintro e w2 ⟨rfl, hb2⟩
        go_wp2_with fail
        refine (HB2.out _ hb2).mono ?_
        rintro e w3 ⟨rf, rfl, hh3, hx⟩
        have hb3 := hb2.trans (hx.mono hb2.size)
        obtain ⟨ty, pv, hty⟩ := valE_iface rf
        rw [hty] at hh3 ⊢
        clear hty hx hb2
        go_wp2_with fail
        refine (HPF.out _ _ hh3).mono ?_
        rintro e w4 ⟨rfl, hx⟩
        rw [HFR.out]
        have hb4 := hb3.trans (hx.mono hb3.size)
        have hh4 := hh3.below hx
        clear hx hb3 hh3
        go_wp2_with fail
        have ha4 := blk_new w4 (.cells #[I64 xk, .string xo, I64 xb, I64 xc] 34)
        have hbA : Below w4.heap.size w4 (w4.alloc (.cells #[I64 xk, .string xo, I64 xb, I64 xc] 34)) := (Below.refl _ _).alloc (Nat.le_refl _) _
        have hb4a := hb4.trans (hbA.mono hb4.size)
        have hh4a := hh4.below hbA
        refine (HRF.out _ hb4a).mono ?_
        rintro e w5 ⟨rfl, hx⟩
        rw [HFR.out]
        have hb5 := hb4a.trans (hx.mono hb4a.size)
        have hh5 := hh4a.below hx
        have ha5 := (hx.block _ (lt_of_block ha4)).trans ha4
        obtain ⟨A, hA⟩ : ∃ A, A = w4.heap.size := ⟨_, rfl⟩
        rw [← hA] at ha5 ⊢
        clear hx hb4 hh4 hbA hb4a hh4a ha4 hA
        go_wp2_with fail
        have ha6 := blk_new w5 (.cells #[I64 xk, .string xo, I64 xb, I64 xc] 34)
        have hbA : Below w5.heap.size w5 (w5.alloc (.cells #[I64 xk, .string xo, I64 xb, I64 xc] 34)) := (Below.refl _ _).alloc (Nat.le_refl _) _
        have hb5a := hb5.trans (hbA.mono hb5.size)
        have hh5a := hh5.below hbA
        have ha5a := (hbA.block _ (lt_of_block ha5)).trans ha5
        refine (HRR.out _ _ hh5a (HE.out.below hb5a)).mono ?_
        rintro e w6 ⟨rfl, hx⟩
        have hb6 := hb5a.trans (hx.mono hb5a.size)
        have hh6 := hh5a.below hx
        have hc6 := (hx.block _ (lt_of_block ha5a)).trans ha5a
        have hd6 := (hx.block _ (lt_of_block ha6)).trans ha6
        obtain ⟨Bk, hB⟩ : ∃ Bk, Bk = w5.heap.size := ⟨_, rfl⟩
        rw [← hB] at hd6 ⊢
        clear hx hb5 hh5 hbA hb5a hh5a ha5 ha5a ha6 hB
        go_wp2_with fail
        have ha7 := blk_new w6 (.cells #[I64 zk, .string zo, I64 zb, I64 zc] 34)
        have hbA : Below w6.heap.size w6 (w6.alloc (.cells #[I64 zk, .string zo, I64 zb, I64 zc] 34)) := (Below.refl _ _).alloc (Nat.le_refl _) _
        have hb7 := hb6.trans (hbA.mono hb6.size)
        have hh7 := hh6.below hbA
        have hc7 := (hbA.block _ (lt_of_block hc6)).trans hc6
        have hd7 := (hbA.block _ (lt_of_block hd6)).trans hd6
        obtain ⟨C, hC⟩ : ∃ C, C = w6.heap.size := ⟨_, rfl⟩
        rw [← hC] at ha7 ⊢
        generalize w6.alloc (.cells #[I64 zk, .string zo, I64 zb, I64 zc] 34) = W at ha7 hb7 hh7 hc7 hd7 ⊢
        clear hb6 hh6 hbA hc6 hd6 hC
        have a0 := blk_cell hc7 0
        have a1 := blk_cell hc7 1
        have a2 := blk_cell hc7 2
        have a3 := blk_cell hc7 3
        have b0 := blk_cell hd7 0
        have b1 := blk_cell hd7 1
        have b2 := blk_cell hd7 2
        have b3 := blk_cell hd7 3
        have c0 := blk_cell ha7 0
        have c1 := blk_cell ha7 1
        have c2 := blk_cell ha7 2
        have c3 := blk_cell ha7 3
        simp only [List.getElem?_toArray, List.getElem?_cons_succ, List.getElem?_cons_zero] at a0 a1 a2 a3 b0 b1 b2 b3 c0 c1 c2 c3
        have HH : Hid (∀ w1, Below W.heap.size W w1 → Calls Tryz.prog 23 #[.iface ty pv, I64 k] w1 fun e w' => e = .returned (.bool true) ∧ Below w1.heap.size w1 w') := fun w1 hb => by
          have h1 := HHA.out w1 _ (hh7.below hb)
          rw [HHB.out] at h1
          exact h1
        have HRO2 : Hid (∀ w1, Below W.heap.size W w1 → Calls Tryz.prog 24 #[v] w1 fun e w' => e = .returned (.agg #[I64 zk, .string zo, I64 zb, I64 zc]) ∧ Below w1.heap.size w1 w') := fun w1 hb => HRO.out w1 (hb7.trans (hb.mono hb7.size))
        have HS2 : Hid (∀ w1, Below W.heap.size W w1 → Calls Tryz.prog 12 #[] w1 fun e w' => e = .returned (.bool true) ∧ Below w1.heap.size w1 w') := fun w1 hb => HS.out w1 (hb7.trans (hb.mono hb7.size))
        have HB7 := Lib.hid hb7
        clear ha7 hb7 hh7 hc7 hd7
        go_region_held3 (fun w' => (w'.cell? ⟨A, 0, none⟩ = some (I64 xk) ∧ w'.cell? ⟨A, 1, none⟩ = some (.string xo) ∧ w'.cell? ⟨A, 2, none⟩ = some (I64 xb) ∧ w'.cell? ⟨A, 3, none⟩ = some (I64 xc)) ∧ (w'.cell? ⟨Bk, 0, none⟩ = some (I64 xk) ∧ w'.cell? ⟨Bk, 1, none⟩ = some (.string xo) ∧ w'.cell? ⟨Bk, 2, none⟩ = some (I64 xb) ∧ w'.cell? ⟨Bk, 3, none⟩ = some (I64 xc)) ∧ (w'.cell? ⟨C, 0, none⟩ = some (I64 zk) ∧ w'.cell? ⟨C, 1, none⟩ = some (.string zo) ∧ w'.cell? ⟨C, 2, none⟩ = some (I64 zb) ∧ w'.cell? ⟨C, 3, none⟩ = some (I64 zc)) ∧ Below W.heap.size W w') (first | exact ⟨⟨a0, a1, a2, a3⟩, ⟨b0, b1, b2, b3⟩, ⟨c0, c1, c2, c3⟩, (Below.refl _ _).drew⟩ | exact s12_step (by assumption) (by assumption)) (first | (go_at_call 23; refine (HH.out _ (s12_below (by assumption))).mono ?_; rintro e wx ⟨rfl, hbx⟩) | (go_at_call 24; refine (HRO2.out _ (s12_below (by assumption))).mono ?_; rintro e wx ⟨rfl, hbx⟩) | (go_at_call 12; refine (HS2.out _ (s12_below (by assumption))).mono ?_; rintro e wx ⟨rfl, hbx⟩))
        go_wp2
        go_ret
        exact ⟨rfl, HB7.out.trans (Below.mono (s12_below (by assumption)) HB7.out.size)⟩
      | none =>
        have HFR : Hid (firstR k l = (⟨0, ⟨#[]⟩, 0, 0⟩, 4)) := first_no hfl
        have HHB := Lib.hid (hasB_none HFR.out)
        unfold FirstPost at HPF HRF
        unfold valLink at HPF HRF
        clear hq hl hs h0 b1 b2 b3 b4 b5 hne hroot hhas h hE hwd hfl hzl hv
        have HBX := Lib.hid (link_self ⟨0, ⟨#[]⟩, 0, 0⟩)
        have hz1 := HBX.out
        have hz2 := link_self ⟨zk, zo, zb, zc⟩
        dsimp only at hz1 hz2
        have e1 : Tryz.prog.eqGuardType Tryz.prog.depth 34 = false := by kernel_rfl
        go_enter Tryz.func6, Tryz.ntmps6
        go_wp2_with fail
        refine HF.out.mono ?_
        rintro e w1 ⟨rfl, rfl⟩
        go_wp2_with fail
        refine HR.out.mono ?_
        rintro e w2 ⟨rfl, hb2⟩
        go_wp2_with fail
        refine (HB2.out _ hb2).mono ?_
        rintro e w3 ⟨rf, rfl, hh3, hx⟩
        have hb3 := hb2.trans (hx.mono hb2.size)
        obtain ⟨ty, pv, hty⟩ := valE_iface rf
        rw [hty] at hh3 ⊢
        clear hty hx hb2
        go_wp2_with fail
        refine (HPF.out _ _ hh3).mono ?_
        rintro e w4 ⟨rfl, hx⟩
        rw [HFR.out]
        have hb4 := hb3.trans (hx.mono hb3.size)
        have hh4 := hh3.below hx
        clear hx hb3 hh3
        go_wp2_with fail
        have ha4 := blk_new w4 (.cells #[I64 0, .string ⟨#[]⟩, I64 0, I64 0] 34)
        have hbA : Below w4.heap.size w4 (w4.alloc (.cells #[I64 0, .string ⟨#[]⟩, I64 0, I64 0] 34)) := (Below.refl _ _).alloc (Nat.le_refl _) _
        have hb4a := hb4.trans (hbA.mono hb4.size)
        have hh4a := hh4.below hbA
        refine (HRF.out _ hb4a).mono ?_
        rintro e w5 ⟨rfl, hx⟩
        rw [HFR.out]
        have hb5 := hb4a.trans (hx.mono hb4a.size)
        have hh5 := hh4a.below hx
        have ha5 := (hx.block _ (lt_of_block ha4)).trans ha4
        obtain ⟨A, hA⟩ : ∃ A, A = w4.heap.size := ⟨_, rfl⟩
        rw [← hA] at ha5 ⊢
        clear hx hb4 hh4 hbA hb4a hh4a ha4 hA
        go_wp2_with fail
        have ha6 := blk_new w5 (.cells #[I64 0, .string ⟨#[]⟩, I64 0, I64 0] 34)
        have hbA : Below w5.heap.size w5 (w5.alloc (.cells #[I64 0, .string ⟨#[]⟩, I64 0, I64 0] 34)) := (Below.refl _ _).alloc (Nat.le_refl _) _
        have hb5a := hb5.trans (hbA.mono hb5.size)
        have hh5a := hh5.below hbA
        have ha5a := (hbA.block _ (lt_of_block ha5)).trans ha5
        refine (HRR.out _ _ hh5a (HE.out.below hb5a)).mono ?_
        rintro e w6 ⟨rfl, hx⟩
        have hb6 := hb5a.trans (hx.mono hb5a.size)
        have hh6 := hh5a.below hx
        have hc6 := (hx.block _ (lt_of_block ha5a)).trans ha5a
        have hd6 := (hx.block _ (lt_of_block ha6)).trans ha6
        obtain ⟨Bk, hB⟩ : ∃ Bk, Bk = w5.heap.size := ⟨_, rfl⟩
        rw [← hB] at hd6 ⊢
        clear hx hb5 hh5 hbA hb5a hh5a ha5 ha5a ha6 hB
        go_wp2_with fail
        have ha7 := blk_new w6 (.cells #[I64 zk, .string zo, I64 zb, I64 zc] 34)
        have hbA : Below w6.heap.size w6 (w6.alloc (.cells #[I64 zk, .string zo, I64 zb, I64 zc] 34)) := (Below.refl _ _).alloc (Nat.le_refl _) _
        have hb7 := hb6.trans (hbA.mono hb6.size)
        have hh7 := hh6.below hbA
        have hc7 := (hbA.block _ (lt_of_block hc6)).trans hc6
        have hd7 := (hbA.block _ (lt_of_block hd6)).trans hd6
        obtain ⟨C, hC⟩ : ∃ C, C = w6.heap.size := ⟨_, rfl⟩
        rw [← hC] at ha7 ⊢
        generalize w6.alloc (.cells #[I64 zk, .string zo, I64 zb, I64 zc] 34) = W at ha7 hb7 hh7 hc7 hd7 ⊢
        clear hb6 hh6 hbA hc6 hd6 hC
        have a0 := blk_cell hc7 0
        have a1 := blk_cell hc7 1
        have a2 := blk_cell hc7 2
        have a3 := blk_cell hc7 3
        have b0 := blk_cell hd7 0
        have b1 := blk_cell hd7 1
        have b2 := blk_cell hd7 2
        have b3 := blk_cell hd7 3
        have c0 := blk_cell ha7 0
        have c1 := blk_cell ha7 1
        have c2 := blk_cell ha7 2
        have c3 := blk_cell ha7 3
        simp only [List.getElem?_toArray, List.getElem?_cons_succ, List.getElem?_cons_zero] at a0 a1 a2 a3 b0 b1 b2 b3 c0 c1 c2 c3
        have HH : Hid (∀ w1, Below W.heap.size W w1 → Calls Tryz.prog 23 #[.iface ty pv, I64 k] w1 fun e w' => e = .returned (.bool false) ∧ Below w1.heap.size w1 w') := fun w1 hb => by
          have h1 := HHA.out w1 _ (hh7.below hb)
          rw [HHB.out] at h1
          exact h1
        have HRO2 : Hid (∀ w1, Below W.heap.size W w1 → Calls Tryz.prog 24 #[v] w1 fun e w' => e = .returned (.agg #[I64 zk, .string zo, I64 zb, I64 zc]) ∧ Below w1.heap.size w1 w') := fun w1 hb => HRO.out w1 (hb7.trans (hb.mono hb7.size))
        have HS2 : Hid (∀ w1, Below W.heap.size W w1 → Calls Tryz.prog 12 #[] w1 fun e w' => e = .returned (.bool true) ∧ Below w1.heap.size w1 w') := fun w1 hb => HS.out w1 (hb7.trans (hb.mono hb7.size))
        have HB7 := Lib.hid hb7
        clear ha7 hb7 hh7 hc7 hd7
        refine wp_region_held_drew (S := (fun w' => (w'.cell? ⟨A, 0, none⟩ = some (I64 0) ∧ w'.cell? ⟨A, 1, none⟩ = some (.string ⟨#[]⟩) ∧ w'.cell? ⟨A, 2, none⟩ = some (I64 0) ∧ w'.cell? ⟨A, 3, none⟩ = some (I64 0)) ∧ (w'.cell? ⟨Bk, 0, none⟩ = some (I64 0) ∧ w'.cell? ⟨Bk, 1, none⟩ = some (.string ⟨#[]⟩) ∧ w'.cell? ⟨Bk, 2, none⟩ = some (I64 0) ∧ w'.cell? ⟨Bk, 3, none⟩ = some (I64 0)) ∧ (w'.cell? ⟨C, 0, none⟩ = some (I64 zk) ∧ w'.cell? ⟨C, 1, none⟩ = some (.string zo) ∧ w'.cell? ⟨C, 2, none⟩ = some (I64 zb) ∧ w'.cell? ⟨C, 3, none⟩ = some (I64 zc)) ∧ Below W.heap.size W w')) (by kernel_rfl) ⟨⟨a0, a1, a2, a3⟩, ⟨b0, b1, b2, b3⟩, ⟨c0, c1, c2, c3⟩, (Below.refl _ _).drew⟩ (fun hHeld => ?_)
        refine wpAnyH_take (i := 0) (oi := _) (v := ?v0) (at_drop (r := _) rfl) (by kernel_rfl) (by kernel_rfl) (by kernel_rfl) (fun _ _ _ h => h) (Or.inl ⟨by rfl, ?h0⟩) hHeld ?r0
        case h0 => (intro w hSw; (try dsimp only at hSw); go_simp; first | done | with_reducible rfl)
        simp only [Act.put, List.setIfInBounds_toArray, List.set_cons_zero, List.set_cons_succ]
        refine wpAnyH_take (i := 1) (oi := _) (v := ?v1) (at_drop (r := _) rfl) (by kernel_rfl) (by kernel_rfl) (by kernel_rfl) (fun _ _ _ h => h) (Or.inl ⟨by rfl, ?h1⟩) hHeld ?r1
        case h1 => (intro w hSw; (try dsimp only at hSw); go_simp; first | done | with_reducible rfl)
        simp only [Act.put, List.setIfInBounds_toArray, List.set_cons_zero, List.set_cons_succ]
        refine wpAnyH_take (i := 2) (oi := _) (v := ?v2) (at_drop (r := _) rfl) (by kernel_rfl) (by kernel_rfl) (by kernel_rfl) (fun _ _ _ h => h) (Or.inl ⟨by rfl, ?h2⟩) hHeld ?r2
        case h2 => (intro w hSw; (try dsimp only at hSw); go_simp; first | done | with_reducible rfl)
        simp only [Act.put, List.setIfInBounds_toArray, List.set_cons_zero, List.set_cons_succ]
        refine wpAnyH_take (i := 3) (oi := _) (v := ?v3) (at_drop (r := _) rfl) (by kernel_rfl) (by kernel_rfl) (by kernel_rfl) (fun _ _ _ h => h) (Or.inl ⟨by rfl, ?h3⟩) hHeld ?r3
        case h3 => (intro w hSw; (try dsimp only at hSw); go_simp; first | done | with_reducible rfl)
        simp only [Act.put, List.setIfInBounds_toArray, List.set_cons_zero, List.set_cons_succ]
        refine wpAnyH_take (i := 4) (oi := _) (v := ?v4) (at_drop (r := _) rfl) (by kernel_rfl) (by kernel_rfl) (by kernel_rfl) (fun _ _ _ h => h) (Or.inl ⟨by rfl, ?h4⟩) hHeld ?r4
        case h4 => (intro w hSw; (try dsimp only at hSw); go_simp; first | done | with_reducible rfl)
        simp only [Act.put, List.setIfInBounds_toArray, List.set_cons_zero, List.set_cons_succ]
        refine wpAnyH_take (i := 5) (oi := _) (v := ?v5) (at_drop (r := _) rfl) (by kernel_rfl) (by kernel_rfl) (by kernel_rfl) (fun _ _ _ h => h) (Or.inl ⟨by rfl, ?h5⟩) hHeld ?r5
        case h5 => (intro w hSw; (try dsimp only at hSw); go_simp; first | done | with_reducible rfl)
        simp only [Act.put, List.setIfInBounds_toArray, List.set_cons_zero, List.set_cons_succ]
        refine wpAnyH_take (i := 6) (oi := _) (v := ?v6) (at_drop (r := _) rfl) (by kernel_rfl) (by kernel_rfl) (by kernel_rfl) (fun _ _ _ h => h) (Or.inl ⟨by rfl, ?h6⟩) hHeld ?r6
        case h6 => (intro w hSw; (try dsimp only at hSw); go_simp; first | done | with_reducible rfl)
        simp only [Act.put, List.setIfInBounds_toArray, List.set_cons_zero, List.set_cons_succ]
        refine wpAnyH_take (i := 7) (oi := _) (v := ?v7) (at_drop (r := _) rfl) (by kernel_rfl) (by kernel_rfl) (by kernel_rfl) (fun _ _ _ h => h) (Or.inl ⟨by rfl, ?h7⟩) hHeld ?r7
        case h7 => (intro w hSw; (try dsimp only at hSw); go_simp; first | done | with_reducible rfl)
        simp only [Act.put, List.setIfInBounds_toArray, List.set_cons_zero, List.set_cons_succ]
        refine wpAnyH_take (i := 8) (oi := _) (v := ?v8) (at_drop (r := _) rfl) (by kernel_rfl) (by kernel_rfl) (by kernel_rfl) (fun _ _ _ h => h) (Or.inl ⟨by rfl, ?h8⟩) hHeld ?r8
        case h8 => (intro w hSw; (try dsimp only at hSw); go_simp; first | done | with_reducible rfl)
        simp only [Act.put, List.setIfInBounds_toArray, List.set_cons_zero, List.set_cons_succ]
        refine wpAnyH_take (i := 9) (oi := _) (v := ?v9) (at_drop (r := _) rfl) (by kernel_rfl) (by kernel_rfl) (by kernel_rfl) (fun _ _ _ h => h) (Or.inl ⟨by rfl, ?h9⟩) hHeld ?r9
        case h9 => (intro w hSw; (try dsimp only at hSw); go_simp; first | done | with_reducible rfl)
        simp only [Act.put, List.setIfInBounds_toArray, List.set_cons_zero, List.set_cons_succ]
        refine wpAnyH_take (i := 10) (oi := _) (v := ?v10) (at_drop (r := _) rfl) (by kernel_rfl) (by kernel_rfl) (by kernel_rfl) (fun _ _ _ h => h) (Or.inl ⟨by rfl, ?h10⟩) hHeld ?r10
        case h10 => (intro w hSw; (try dsimp only at hSw); go_simp; first | done | with_reducible rfl)
        simp only [Act.put, List.setIfInBounds_toArray, List.set_cons_zero, List.set_cons_succ]
        refine wpAnyH_take (i := 12) (oi := _) (v := ?v12) (at_drop (r := _) rfl) (by kernel_rfl) (by kernel_rfl) (by kernel_rfl) (fun _ _ _ h => h) (Or.inl ⟨by rfl, ?h12⟩) hHeld ?r12
        case h12 => (intro w hSw; (try dsimp only at hSw); go_simp; first | done | with_reducible rfl)
        simp only [Act.put, List.setIfInBounds_toArray, List.set_cons_zero, List.set_cons_succ]
        refine wpAnyH_take (i := 13) (oi := _) (v := ?v13) (at_drop (r := _) rfl) (by kernel_rfl) (by kernel_rfl) (by kernel_rfl) (fun _ _ _ h => h) (Or.inl ⟨by rfl, ?h13⟩) hHeld ?r13
        case h13 => (intro w hSw; (try dsimp only at hSw); go_simp; first | done | with_reducible rfl)
        simp only [Act.put, List.setIfInBounds_toArray, List.set_cons_zero, List.set_cons_succ]
        refine wpAnyH_ready (rs := [11]) (by kernel_rfl) (by simp) ?_
        refine AllReadyH.cons (o := _) (at_drop (r := _) rfl) (fun K hK => ?_) AllReadyH.nil
        go_simp
        go_at_call 23
        refine (HH.out _ (s12_below hHeld)).mono ?_
        rintro e wx1 ⟨rfl, hbx1⟩
        refine hK.out _ _ (s12_step hbx1 hHeld) (fun hHeld1 => ?_)
        clear hK K
        try simp only [Act.put, List.setIfInBounds_toArray, List.set_cons_zero, List.set_cons_succ]
        refine wpAnyH_take (i := 14) (oi := _) (v := ?v14) (at_drop (r := _) rfl) (by kernel_rfl) (by kernel_rfl) (by kernel_rfl) (fun _ _ _ h => h) (Or.inl ⟨by rfl, ?h14⟩) hHeld1 ?r14
        case h14 => (intro w hSw; (try dsimp only at hSw); go_simp; first | done | with_reducible rfl)
        simp only [Act.put, List.setIfInBounds_toArray, List.set_cons_zero, List.set_cons_succ]
        refine wpAnyH_take (i := 15) (oi := _) (v := undef) (at_drop (r := _) rfl) (by kernel_rfl) (by kernel_rfl) (by kernel_rfl) (fun _ _ _ h => h) (Or.inr ⟨by rfl, rfl⟩) hHeld1 ?_
        simp only [Act.put, List.setIfInBounds_toArray, List.set_cons_zero, List.set_cons_succ]
        refine wpAnyH_take (i := 16) (oi := _) (v := undef) (at_drop (r := _) rfl) (by kernel_rfl) (by kernel_rfl) (by kernel_rfl) (fun _ _ _ h => h) (Or.inr ⟨by rfl, rfl⟩) hHeld1 ?_
        simp only [Act.put, List.setIfInBounds_toArray, List.set_cons_zero, List.set_cons_succ]
        refine wpAnyH_take (i := 17) (oi := _) (v := ?v17) (at_drop (r := _) rfl) (by kernel_rfl) (by kernel_rfl) (by kernel_rfl) (fun _ _ _ h => h) (Or.inl ⟨by rfl, ?h17⟩) hHeld1 ?r17
        case h17 => (intro w hSw; (try dsimp only at hSw); go_simp; first | done | with_reducible rfl)
        simp only [Act.put, List.setIfInBounds_toArray, List.set_cons_zero, List.set_cons_succ]
        refine wpAnyH_take (i := 18) (oi := _) (v := ?v18) (at_drop (r := _) rfl) (by kernel_rfl) (by kernel_rfl) (by kernel_rfl) (fun _ _ _ h => h) (Or.inl ⟨by rfl, ?h18⟩) hHeld1 ?r18
        case h18 => (intro w hSw; (try dsimp only at hSw); go_simp; first | done | with_reducible rfl)
        simp only [Act.put, List.setIfInBounds_toArray, List.set_cons_zero, List.set_cons_succ]
        refine wpAnyH_take (i := 19) (oi := _) (v := undef) (at_drop (r := _) rfl) (by kernel_rfl) (by kernel_rfl) (by kernel_rfl) (fun _ _ _ h => h) (Or.inr ⟨by rfl, rfl⟩) hHeld1 ?_
        simp only [Act.put, List.setIfInBounds_toArray, List.set_cons_zero, List.set_cons_succ]
        refine wpAnyH_take (i := 20) (oi := _) (v := undef) (at_drop (r := _) rfl) (by kernel_rfl) (by kernel_rfl) (by kernel_rfl) (fun _ _ _ h => h) (Or.inr ⟨by rfl, rfl⟩) hHeld1 ?_
        simp only [Act.put, List.setIfInBounds_toArray, List.set_cons_zero, List.set_cons_succ]
        refine wpAnyH_take (i := 21) (oi := _) (v := ?v21) (at_drop (r := _) rfl) (by kernel_rfl) (by kernel_rfl) (by kernel_rfl) (fun _ _ _ h => h) (Or.inl ⟨by rfl, ?h21⟩) hHeld1 ?r21
        case h21 => (intro w hSw; (try dsimp only at hSw); go_simp; first | done | with_reducible rfl)
        simp only [Act.put, List.setIfInBounds_toArray, List.set_cons_zero, List.set_cons_succ]
        refine wpAnyH_take (i := 22) (oi := _) (v := ?v22) (at_drop (r := _) rfl) (by kernel_rfl) (by kernel_rfl) (by kernel_rfl) (fun _ _ _ h => h) (Or.inl ⟨by rfl, ?h22⟩) hHeld1 ?r22
        case h22 => (intro w hSw; (try dsimp only at hSw); go_simp; first | done | with_reducible rfl)
        simp only [Act.put, List.setIfInBounds_toArray, List.set_cons_zero, List.set_cons_succ]
        refine wpAnyH_take (i := 23) (oi := _) (v := ?v23) (at_drop (r := _) rfl) (by kernel_rfl) (by kernel_rfl) (by kernel_rfl) (fun _ _ _ h => h) (Or.inl ⟨by rfl, ?h23⟩) hHeld1 ?r23
        case h23 => (intro w hSw; (try dsimp only at hSw); go_simp; first | done | with_reducible rfl)
        simp only [Act.put, List.setIfInBounds_toArray, List.set_cons_zero, List.set_cons_succ]
        refine wpAnyH_take (i := 24) (oi := _) (v := ?v24) (at_drop (r := _) rfl) (by kernel_rfl) (by kernel_rfl) (by kernel_rfl) (fun _ _ _ h => h) (Or.inl ⟨by rfl, ?h24⟩) hHeld1 ?r24
        case h24 => (intro w hSw; (try dsimp only at hSw); go_simp; first | done | with_reducible rfl)
        simp only [Act.put, List.setIfInBounds_toArray, List.set_cons_zero, List.set_cons_succ]
        refine wpAnyH_take (i := 25) (oi := _) (v := ?v25) (at_drop (r := _) rfl) (by kernel_rfl) (by kernel_rfl) (by kernel_rfl) (fun _ _ _ h => h) (Or.inl ⟨by rfl, ?h25⟩) hHeld1 ?r25
        case h25 => (intro w hSw; (try dsimp only at hSw); go_simp; first | done | with_reducible rfl)
        simp only [Act.put, List.setIfInBounds_toArray, List.set_cons_zero, List.set_cons_succ]
        refine wpAnyH_take (i := 26) (oi := _) (v := ?v26) (at_drop (r := _) rfl) (by kernel_rfl) (by kernel_rfl) (by kernel_rfl) (fun _ _ _ h => h) (Or.inl ⟨by rfl, ?h26⟩) hHeld1 ?r26
        case h26 => (intro w hSw; (try dsimp only at hSw); go_simp; first | done | with_reducible rfl)
        simp only [Act.put, List.setIfInBounds_toArray, List.set_cons_zero, List.set_cons_succ]
        refine wpAnyH_ready (rs := [27]) (by kernel_rfl) (by simp) ?_
        refine AllReadyH.cons (o := _) (at_drop (r := _) rfl) (fun K hK => ?_) AllReadyH.nil
        go_simp
        go_at_call 24
        refine (HRO2.out _ (s12_below hHeld1)).mono ?_
        rintro e wx2 ⟨rfl, hbx2⟩
        refine hK.out _ _ (s12_step hbx2 hHeld1) (fun hHeld2 => ?_)
        clear hK K
        try simp only [Act.put, List.setIfInBounds_toArray, List.set_cons_zero, List.set_cons_succ]
        refine wpAnyH_take (i := 28) (oi := _) (v := ?v28) (at_drop (r := _) rfl) (by kernel_rfl) (by kernel_rfl) (by kernel_rfl) (fun _ _ _ h => h) (Or.inl ⟨by rfl, ?h28⟩) hHeld2 ?r28
        case h28 => (intro w hSw; (try dsimp only at hSw); go_simp; first | done | with_reducible rfl)
        simp only [Act.put, List.setIfInBounds_toArray, List.set_cons_zero, List.set_cons_succ]
        refine wpAnyH_take (i := 29) (oi := _) (v := ?v29) (at_drop (r := _) rfl) (by kernel_rfl) (by kernel_rfl) (by kernel_rfl) (fun _ _ _ h => h) (Or.inl ⟨by rfl, ?h29⟩) hHeld2 ?r29
        case h29 => (intro w hSw; (try dsimp only at hSw); go_simp; first | done | with_reducible rfl)
        simp only [Act.put, List.setIfInBounds_toArray, List.set_cons_zero, List.set_cons_succ]
        refine wpAnyH_take (i := 30) (oi := _) (v := ?v30) (at_drop (r := _) rfl) (by kernel_rfl) (by kernel_rfl) (by kernel_rfl) (fun _ _ _ h => h) (Or.inl ⟨by rfl, ?h30⟩) hHeld2 ?r30
        case h30 => (intro w hSw; (try dsimp only at hSw); go_simp; first | done | with_reducible rfl)
        simp only [Act.put, List.setIfInBounds_toArray, List.set_cons_zero, List.set_cons_succ]
        refine wpAnyH_take (i := 31) (oi := _) (v := ?v31) (at_drop (r := _) rfl) (by kernel_rfl) (by kernel_rfl) (by kernel_rfl) (fun _ _ _ h => h) (Or.inl ⟨by rfl, ?h31⟩) hHeld2 ?r31
        case h31 => (intro w hSw; (try dsimp only at hSw); go_simp; first | done | with_reducible rfl)
        simp only [Act.put, List.setIfInBounds_toArray, List.set_cons_zero, List.set_cons_succ]
        refine wpAnyH_take (i := 32) (oi := _) (v := ?v32) (at_drop (r := _) rfl) (by kernel_rfl) (by kernel_rfl) (by kernel_rfl) (fun _ _ _ h => h) (Or.inl ⟨by rfl, ?h32⟩) hHeld2 ?r32
        case h32 => (intro w hSw; (try dsimp only at hSw); go_simp; first | done | with_reducible rfl)
        simp only [Act.put, List.setIfInBounds_toArray, List.set_cons_zero, List.set_cons_succ]
        refine wpAnyH_take (i := 33) (oi := _) (v := ?v33) (at_drop (r := _) rfl) (by kernel_rfl) (by kernel_rfl) (by kernel_rfl) (fun _ _ _ h => h) (Or.inl ⟨by rfl, ?h33⟩) hHeld2 ?r33
        case h33 => (intro w hSw; (try dsimp only at hSw); go_simp; first | done | with_reducible rfl)
        simp only [Act.put, List.setIfInBounds_toArray, List.set_cons_zero, List.set_cons_succ]
        refine wpAnyH_take (i := 34) (oi := _) (v := ?v34) (at_drop (r := _) rfl) (by kernel_rfl) (by kernel_rfl) (by kernel_rfl) (fun _ _ _ h => h) (Or.inl ⟨by rfl, ?h34⟩) hHeld2 ?r34
        case h34 => (intro w hSw; (try dsimp only at hSw); go_simp; first | done | with_reducible rfl)
        simp only [Act.put, List.setIfInBounds_toArray, List.set_cons_zero, List.set_cons_succ]
        refine wpAnyH_ready (rs := [35]) (by kernel_rfl) (by simp) ?_
        refine AllReadyH.cons (o := _) (at_drop (r := _) rfl) (fun K hK => ?_) AllReadyH.nil
        go_simp
        go_at_call 12
        refine (HS2.out _ (s12_below hHeld2)).mono ?_
        rintro e wx3 ⟨rfl, hbx3⟩
        refine hK.out _ _ (s12_step hbx3 hHeld2) (fun hHeld3 => ?_)
        clear hK K
        try simp only [Act.put, List.setIfInBounds_toArray, List.set_cons_zero, List.set_cons_succ]
        refine wpAnyH_take (i := 36) (oi := _) (v := ?v36) (at_drop (r := _) rfl) (by kernel_rfl) (by kernel_rfl) (by kernel_rfl) (fun _ _ _ h => h) (Or.inl ⟨by rfl, ?h36⟩) hHeld3 ?r36
        case h36 => (intro w hSw; (try dsimp only at hSw); go_simp; first | done | with_reducible rfl)
        simp only [Act.put, List.setIfInBounds_toArray, List.set_cons_zero, List.set_cons_succ]
        refine wpAnyH_take (i := 37) (oi := _) (v := ?v37) (at_drop (r := _) rfl) (by kernel_rfl) (by kernel_rfl) (by kernel_rfl) (fun _ _ _ h => h) (Or.inl ⟨by rfl, ?h37⟩) hHeld3 ?r37
        case h37 => (intro w hSw; (try dsimp only at hSw); go_simp; first | done | with_reducible rfl)
        simp only [Act.put, List.setIfInBounds_toArray, List.set_cons_zero, List.set_cons_succ]
        refine wpAnyH_done (by kernel_rfl) ?_ _
        go_wp2
        go_ret
        exact ⟨rfl, HB7.out.trans (Below.mono (s12_below (by assumption)) HB7.out.size)⟩
    · have hE1 : ((Fa.build l).1 != 0) = true := by rw [bne_iff_ne]; exact h0
      generalize (Fa.build l).1 = E at h0 HR hE1
      clear hq h hE hs h0
      go_enter Tryz.func6, Tryz.ntmps6
      go_wp2_with (first | (go_at_call 11; refine HF.out.mono ?_; rintro e w1 ⟨rfl, rfl⟩) | (go_at_call 14; refine HR.out.mono ?_; rintro e w3 ⟨rfl, hb3⟩) | (go_at_call 12; refine (HS.out _ hb3).mono ?_; rintro e w5 ⟨rfl, hx5⟩; have hb5 := hb3.trans (hx5.mono hb3.size); clear hx5))
      go_ret
      exact ⟨rfl, hb5⟩
end Go.Proofs.YtgnhbccmdpkbiaaGreatDoor
namespace Go.Proofs.YtgnhbccmdpkbiaaGreatDoor
open Go.RowKit Go.Shelf

theorem wrap_link (x : Fa.Link) (c : Fa.F) : (Fa.F.link x c .nil).chain 0 = wrapN x (c.chain 0) := by
  simp only [Fa.F.chain, wrapN, List.append_nil]
  rw [Fa.chain_deep]
theorem wrap_lim (x : Fa.Link) (c : Fa.F) : Fa.limits (wrapN x (c.chain 0)) = decide (40 < c.nodes + 1 ∨ 12 < c.hgt) := by
  rw [← wrap_link, Fa.limits_chain (by simp), Bool.eq_iff_iff, decide_eq_true_eq, decide_eq_true_eq]
  simp only [Fa.F.nodes, Fa.F.hgt]
  omega
theorem wrap_law (x : Fa.Link) (c : Fa.F) (cv : Value) (w : World) (hs : x.op.size ≤ maxLen) (h : CauseAt (fun _ => True) w c cv) (hn : c.nodes ≤ 1000) : Calls Tryz.prog 16 #[valLink x, cv] w fun e w' =>
    (wrapE x c ≠ 0 → e = .returned (.tuple #[.nilIface, I64 (wrapE x c)])) ∧ (wrapE x c = 0 → ∃ b, e = .returned (.tuple #[linkPtr b, I64 0]) ∧ Holds (fun _ => True) w' (.link x c .nil) [linkPtr b]) ∧ Below w.heap.size w w' := by
  rcases h with ⟨rfl, rfl⟩ | ⟨hne, hh⟩
  · refine (wrap_nil x w hs).mono ?_
    rintro e w' ⟨h1, h2, h3⟩
    refine ⟨h1, fun h0 => ?_, h3⟩
    obtain ⟨b, e1, e2, e3⟩ := h2 h0
    exact ⟨b, e1, b, .nilIface, [], [], rfl, trivial, e3, rfl, .inl ⟨rfl, rfl⟩, rfl⟩
  · refine (wrap_some _ x c cv w hs hh hn).mono ?_
    rintro e w' ⟨h1, h2, h3⟩
    refine ⟨h1, fun h0 => ?_, h3⟩
    obtain ⟨b, e1, e2, e3⟩ := h2 h0
    exact ⟨b, e1, b, cv, [cv], [], rfl, trivial, e3, hh.below h3, .inr rfl, rfl⟩
theorem rwrap_law (x : Fa.Link) (c : Fa.F) (vv : Value) (w : World) (hs : x.op.size ≤ maxLen) (h : ReadsL 6 encNode w vv (c.chain 0)) (hn : c.nodes ≤ 1000) : Calls Tryz.prog 17 #[valLink x, vv] w fun e w' =>
    (wrapE x c ≠ 0 → e = .returned (.tuple #[.slice none 0 0, I64 (wrapE x c)])) ∧ (wrapE x c = 0 → ∃ v', e = .returned (.tuple #[v', I64 0]) ∧ ReadsL 6 encNode w' v' ((Fa.F.link x c .nil).chain 0)) ∧ Below w.heap.size w w' := by
  refine (rwrap_any x vv _ w hs h (by rw [Fa.chain_length]; omega) (fun y hy => by have h1 := Fa.chain_depths c 0 y hy; have h2 := Fa.hgt_le_nodes c; omega)).mono ?_
  rintro e w' ⟨h1, h2, h3, h4⟩
  rw [wrap_lim] at h2 h3
  rw [wrap_link]
  by_cases hc : checkE x = 0
  · have hw : wrapE x c = if 40 < c.nodes + 1 ∨ 12 < c.hgt then 3 else 0 := by unfold wrapE; rw [if_pos hc]
    by_cases hq : 40 < c.nodes + 1 ∨ 12 < c.hgt
    · rw [if_pos hq] at hw
      rw [hw]
      exact ⟨fun _ => h2 hc (decide_eq_true hq), fun h => absurd h (by decide), h4⟩
    · rw [if_neg hq] at hw
      rw [hw]
      exact ⟨fun h => absurd rfl h, fun _ => h3 hc (decide_eq_false hq), h4⟩
  · have hw : wrapE x c = checkE x := by unfold wrapE; rw [if_neg hc]
    rw [hw]
    exact ⟨fun h => h1 h, fun h => absurd h hc, h4⟩
theorem wrap_okL {x : Fa.Link} {c : Fa.F} (h : wrapE x c = 0) (hl : c.len ≤ 1) (hok : c.ok) (hn : c.nodes ≤ 1000) : (Fa.F.link x c .nil).ok ∧ (Fa.F.link x c .nil).nodes ≤ 100000 := by
  refine ⟨⟨?_, hl, hok, trivial⟩, by simp only [Fa.F.nodes]; omega⟩
  unfold wrapE at h
  split at h
  · rename_i hc
    unfold checkE at hc
    split at hc
    · exact absurd hc (by decide)
    · split at hc
      · exact absurd hc (by decide)
      · rename_i _ h2
        simpa using h2
  · rename_i hc
    exact absurd h hc
set_option maxHeartbeats 8000000 in
set_option maxRecDepth 100000 in
set_option linter.unusedSimpArgs false in
theorem lawWraps (x : Fa.Link) (v : Value) (l : List Fa.Node) (w : World) (hE : EnvF w) (h : NodesIn w v l) : Calls Tryz.prog 4 #[valLink x, v] w fun e w' => e = .returned (.bool true) ∧ Below w.heap.size w w' := by
  have HF : Hid (∀ w1, Below w.heap.size w w1 → Calls Tryz.prog 11 #[v] w1 fun e w' => e = .returned (.bool (farL l)) ∧ w1 = w') := fun w1 hb => far_full v l w1 (h.1.below hb)
  have HS : Hid (∀ w1, Below w.heap.size w w1 → Calls Tryz.prog 12 #[] w1 fun e w' => e = .returned (.bool true) ∧ Below w1.heap.size w1 w') := fun w1 hb => shown_any w1 (hE.below hb)
  have HBA := Lib.hid (show Below w.heap.size w (w.alloc (.cells #[I64 x.kind, .string x.op, I64 x.backend, I64 x.conn] 34)) from (Below.refl _ _).alloc (Nat.le_refl _) _)
  cases hq : farL l with
  | true =>
    rw [hq] at HF
    clear hq h hE
    obtain ⟨xk, xo, xb, xc⟩ := x
    unfold valLink
    dsimp only at HBA ⊢
    go_enter Tryz.func4, Tryz.ntmps4
    go_wp2_with (first | (go_at_call 11; refine (HF.out _ HBA.out).mono ?_; rintro e w1 ⟨rfl, rfl⟩) | (go_at_call 12; refine (HS.out _ HBA.out).mono ?_; rintro e w2 ⟨rfl, hx2⟩; have hb2 := HBA.out.trans (hx2.mono HBA.out.size)))
    go_ret
    exact ⟨rfl, hb2⟩
  | false =>
    rw [hq] at HF
    obtain ⟨hl, hs⟩ := far_sizes hq
    by_cases hxs : 100 < x.op.size
    · clear hq h hE hl hs
      obtain ⟨xk, xo, xb, xc⟩ := x
      unfold valLink
      dsimp only at HBA hxs ⊢
      go_enter Tryz.func4, Tryz.ntmps4
      go_wp2_with (first | (go_at_call 11; refine (HF.out _ HBA.out).mono ?_; rintro e w1 ⟨rfl, rfl⟩) | (go_at_call 12; refine (HS.out _ HBA.out).mono ?_; rintro e w2 ⟨rfl, hx2⟩; have hb2 := HBA.out.trans (hx2.mono HBA.out.size)))
      go_ret
      exact ⟨rfl, hb2⟩
    · have hxm : x.op.size ≤ maxLen := by unfold maxLen; omega
      have HR : Hid (∀ w1, Below w.heap.size w w1 → Calls Tryz.prog 14 #[v] w1 fun e w' => e = .returned (I64 (Fa.build l).1) ∧ Below w1.heap.size w1 w') := fun w1 hb => rbuild_any v l w1 (h.1.below hb) (by omega) hs
      by_cases h0 : (Fa.build l).1 = 0
      · obtain ⟨b1, b2, b3, b4, b5⟩ := Fa.build_ok h0
        have hne : l ≠ [] := fun e => by
          subst e
          exact absurd h0 (by decide)
        have hlp : 0 < l.length := List.length_pos_iff.2 hne
        rw [h0] at HR
        have HB2 : Hid (∀ w1, Below w.heap.size w w1 → Calls Tryz.prog 13 #[v] w1 fun e w' => ∃ rf, e = .returned (.tuple #[valE rf, I64 0]) ∧ Holds (fun _ => True) w' (Fa.build l).2 [valE rf] ∧ Below w1.heap.size w1 w') := fun w1 hb => (build_any v l w1 (h.below hb) (by omega) hs).mono (fun e w' hp => by
          obtain ⟨_, p2, p3⟩ := hp
          obtain ⟨rf, e1, e2⟩ := p2 h0
          exact ⟨rf, e1, e2.mono (fun _ _ _ => trivial), p3⟩)
        have HV : Hid (∀ w1, Below w.heap.size w w1 → ReadsL 6 encNode w1 v ((Fa.build l).2.chain 0)) := fun w1 hb => by rw [b1]; exact h.1.below hb
        have hc0 : (Fa.build l).2 ≠ .nil := fun e => by rw [e] at b3; exact absurd b3 (by decide)
        generalize (Fa.build l).2 = c at *
        have hn : c.nodes ≤ 1000 := by omega
        by_cases hw : wrapE x c = 0
        · have HW : Hid (∀ w1 cv, Holds (fun _ => True) w1 c [cv] → Calls Tryz.prog 16 #[valLink x, cv] w1 fun e w' => ∃ b, e = .returned (.tuple #[linkPtr b, I64 0]) ∧ Holds (fun _ => True) w' (.link x c .nil) [linkPtr b] ∧ Below w1.heap.size w1 w') := fun w1 cv hh => (wrap_law x c cv w1 hxm (.inr ⟨hc0, hh⟩) hn).mono (fun e w' hp => by
            obtain ⟨b, q1, q2⟩ := hp.2.1 hw
            exact ⟨b, q1, q2, hp.2.2⟩)
          have HRW : Hid (∀ w1, Below w.heap.size w w1 → Calls Tryz.prog 17 #[valLink x, v] w1 fun e w' => ∃ v', e = .returned (.tuple #[v', I64 0]) ∧ ReadsL 6 encNode w' v' ((Fa.F.link x c .nil).chain 0) ∧ Below w1.heap.size w1 w') := fun w1 hb => (rwrap_law x c v w1 hxm (HV.out w1 hb) hn).mono (fun e w' hp => by
            obtain ⟨b, q1, q2⟩ := hp.2.1 hw
            exact ⟨b, q1, q2, hp.2.2⟩)
          obtain ⟨ok1, ok2⟩ := wrap_okL hw (by omega) b2 hn
          have HI : Hid (∀ w1 rv v2, Holds (fun _ => True) w1 (.link x c .nil) [rv] → ReadsL 6 encNode w1 v2 ((Fa.F.link x c .nil).chain 0) → Calls Tryz.prog 15 #[rv, v2] w1 fun e w' => e = .returned (.bool true) ∧ Below w1.heap.size w1 w') := fun w1 rv v2 hh hr => by
            have h1 := is_any _ _ rv v2 _ w1 hh ok1 ok2 hr (by rw [Fa.chain_length]; omega)
            rw [decide_eq_true rfl] at h1
            exact h1
          obtain ⟨va, vcap, hvv⟩ := h.1.len
          generalize l.length = ln at hvv hlp
          subst hvv
          clear hq h hE hs h0 b1 b2 b3 b4 b5 hn hc0 hw hne hl hxm HV ok1 ok2
          obtain ⟨xk, xo, xb, xc⟩ := x
          unfold valLink at *
          dsimp only at HBA hxs ⊢
          go_enter Tryz.func4, Tryz.ntmps4
          go_wp2_with fail
          refine (HF.out _ HBA.out).mono ?_
          rintro e w1 ⟨rfl, rfl⟩
          go_wp2_with fail
          refine (HR.out _ HBA.out).mono ?_
          rintro e w2 ⟨rfl, hx2⟩
          obtain ⟨c0, c1, c2, c3⟩ := boxCells hx2
          have hb2 := HBA.out.trans (hx2.mono HBA.out.size)
          clear hx2
          go_wp2_with fail
          refine (HB2.out _ hb2).mono ?_
          rintro e w3 ⟨rf, rfl, hh3, hx3⟩
          obtain ⟨d0, d1, d2, d3⟩ := carry4 hx3 c0 c1 c2 c3
          have hb3 := hb2.trans (hx3.mono hb2.size)
          obtain ⟨ty, pv, hty⟩ := valE_iface rf
          rw [hty] at hh3 ⊢
          clear hty hx3 hb2 c0 c1 c2 c3
          go_wp2_with fail
          refine (HW.out _ _ hh3).mono ?_
          rintro e w4 ⟨bb, rfl, hh4, hx4⟩
          obtain ⟨f0, f1, f2, f3⟩ := carry4 hx4 d0 d1 d2 d3
          have hb4 := hb3.trans (hx4.mono hb3.size)
          unfold linkPtr at *
          clear hx4 hb3 d0 d1 d2 d3 hh3
          go_wp2_with fail
          refine (HRW.out _ hb4).mono ?_
          rintro e w5 ⟨v5, rfl, hr5, hx5⟩
          have hh5 := hh4.below hx5
          have hb5 := hb4.trans (hx5.mono hb4.size)
          clear hx5 hb4 f0 f1 f2 f3 hh4
          go_wp2_with fail
          refine (HI.out _ _ _ hh5 hr5).mono ?_
          rintro e w6 ⟨rfl, hx6⟩
          have hb6 := hb5.trans (hx6.mono hb5.size)
          go_wp2_with fail
          refine (HS.out _ hb6).mono ?_
          rintro e w7 ⟨rfl, hx7⟩
          have hb7 := hb6.trans (hx7.mono hb6.size)
          go_wp2
          go_ret
          exact ⟨rfl, hb7⟩
        · have HW : Hid (∀ w1 cv, Holds (fun _ => True) w1 c [cv] → Calls Tryz.prog 16 #[valLink x, cv] w1 fun e w' => e = .returned (.tuple #[.nilIface, I64 (wrapE x c)]) ∧ Below w1.heap.size w1 w') := fun w1 cv hh => (wrap_law x c cv w1 hxm (.inr ⟨hc0, hh⟩) hn).mono (fun e w' hp => ⟨hp.1 hw, hp.2.2⟩)
          have HRW : Hid (∀ w1, Below w.heap.size w w1 → Calls Tryz.prog 17 #[valLink x, v] w1 fun e w' => e = .returned (.tuple #[.slice none 0 0, I64 (wrapE x c)]) ∧ Below w1.heap.size w1 w') := fun w1 hb => (rwrap_law x c v w1 hxm (HV.out w1 hb) hn).mono (fun e w' hp => ⟨hp.1 hw, hp.2.2⟩)
          generalize wrapE x c = E at hw HW HRW
          have hE2 : (E != 0) = true := by rw [bne_iff_ne]; exact hw
          have hE3 : (E != E) = false := by simp
          obtain ⟨va, vcap, hvv⟩ := h.1.len
          generalize l.length = ln at hvv hlp
          subst hvv
          clear hq h hE hs h0 b1 b2 b3 b4 b5 hn hc0 hw hne hl hxm HV
          obtain ⟨xk, xo, xb, xc⟩ := x
          unfold valLink at *
          dsimp only at HBA hxs ⊢
          go_enter Tryz.func4, Tryz.ntmps4
          go_wp2_with fail
          refine (HF.out _ HBA.out).mono ?_
          rintro e w1 ⟨rfl, rfl⟩
          go_wp2_with fail
          refine (HR.out _ HBA.out).mono ?_
          rintro e w2 ⟨rfl, hx2⟩
          obtain ⟨c0, c1, c2, c3⟩ := boxCells hx2
          have hb2 := HBA.out.trans (hx2.mono HBA.out.size)
          clear hx2
          go_wp2_with fail
          refine (HB2.out _ hb2).mono ?_
          rintro e w3 ⟨rf, rfl, hh3, hx3⟩
          obtain ⟨d0, d1, d2, d3⟩ := carry4 hx3 c0 c1 c2 c3
          have hb3 := hb2.trans (hx3.mono hb2.size)
          obtain ⟨ty, pv, hty⟩ := valE_iface rf
          rw [hty] at hh3 ⊢
          clear hty hx3 hb2 c0 c1 c2 c3
          go_wp2_with fail
          refine (HW.out _ _ hh3).mono ?_
          rintro e w4 ⟨rfl, hx4⟩
          obtain ⟨f0, f1, f2, f3⟩ := carry4 hx4 d0 d1 d2 d3
          have hb4 := hb3.trans (hx4.mono hb3.size)
          clear hx4 hb3 d0 d1 d2 d3 hh3
          go_wp2_with fail
          refine (HRW.out _ hb4).mono ?_
          rintro e w5 ⟨rfl, hx5⟩
          have hb5 := hb4.trans (hx5.mono hb4.size)
          clear hx5 hb4 f0 f1 f2 f3
          go_wp2_with fail
          refine (HS.out _ hb5).mono ?_
          rintro e w7 ⟨rfl, hx7⟩
          have hb7 := hb5.trans (hx7.mono hb5.size)
          go_wp2
          go_ret
          exact ⟨rfl, hb7⟩
      · have hE1 : ((Fa.build l).1 != 0) = true := by rw [bne_iff_ne]; exact h0
        have hv : Fa.F.nil.ok := trivial
        generalize (Fa.build l).1 = E1 at h0 HR hE1
        by_cases hw : wrapE x .nil = 0
        · have HW : Hid (∀ w1, Calls Tryz.prog 16 #[valLink x, .nilIface] w1 fun e w' => ∃ b, e = .returned (.tuple #[linkPtr b, I64 0]) ∧ Holds (fun _ => True) w' (.link x .nil .nil) [linkPtr b] ∧ Below w1.heap.size w1 w') := fun w1 => (wrap_law x .nil .nilIface w1 hxm (.inl ⟨rfl, rfl⟩) (by decide)).mono (fun e w' hp => by
            obtain ⟨b, q1, q2⟩ := hp.2.1 hw
            exact ⟨b, q1, q2, hp.2.2⟩)
          have HRW : Hid (∀ w1, Below w.heap.size w w1 → Calls Tryz.prog 17 #[valLink x, (.slice none 0 0)] w1 fun e w' => ∃ v', e = .returned (.tuple #[v', I64 0]) ∧ ReadsL 6 encNode w' v' ((Fa.F.link x .nil .nil).chain 0) ∧ Below w1.heap.size w1 w') := fun w1 hb => (rwrap_law x .nil (.slice none 0 0) w1 hxm (.inl ⟨none, 0, rfl, rfl⟩) (by decide)).mono (fun e w' hp => by
            obtain ⟨b, q1, q2⟩ := hp.2.1 hw
            exact ⟨b, q1, q2, hp.2.2⟩)
          obtain ⟨ok1, ok2⟩ := wrap_okL hw (by decide) hv (by decide)
          have HI : Hid (∀ w1 rv v2, Holds (fun _ => True) w1 (.link x .nil .nil) [rv] → ReadsL 6 encNode w1 v2 ((Fa.F.link x .nil .nil).chain 0) → Calls Tryz.prog 15 #[rv, v2] w1 fun e w' => e = .returned (.bool true) ∧ Below w1.heap.size w1 w') := fun w1 rv v2 hh hr => by
            have h1 := is_any _ _ rv v2 _ w1 hh ok1 ok2 hr (by rw [Fa.chain_length]; omega)
            rw [decide_eq_true rfl] at h1
            exact h1
          clear hq h hE hs h0 hw hl hxm hv ok1 ok2
          obtain ⟨xk, xo, xb, xc⟩ := x
          unfold valLink at *
          dsimp only at HBA hxs ⊢
          go_enter Tryz.func4, Tryz.ntmps4
          go_wp2_with fail
          refine (HF.out _ HBA.out).mono ?_
          rintro e w1 ⟨rfl, rfl⟩
          go_wp2_with fail
          refine (HR.out _ HBA.out).mono ?_
          rintro e w2 ⟨rfl, hx2⟩
          obtain ⟨c0, c1, c2, c3⟩ := boxCells hx2
          have hb2 := HBA.out.trans (hx2.mono HBA.out.size)
          clear hx2
          go_wp2_with fail
          refine (HW.out _).mono ?_
          rintro e w4 ⟨bb, rfl, hh4, hx4⟩
          obtain ⟨f0, f1, f2, f3⟩ := carry4 hx4 c0 c1 c2 c3
          have hb4 := hb2.trans (hx4.mono hb2.size)
          unfold linkPtr at *
          clear hx4 hb2 c0 c1 c2 c3
          go_wp2_with fail
          refine (HRW.out _ hb4).mono ?_
          rintro e w5 ⟨v5, rfl, hr5, hx5⟩
          have hh5 := hh4.below hx5
          have hb5 := hb4.trans (hx5.mono hb4.size)
          clear hx5 hb4 f0 f1 f2 f3 hh4
          go_wp2_with fail
          refine (HI.out _ _ _ hh5 hr5).mono ?_
          rintro e w6 ⟨rfl, hx6⟩
          have hb6 := hb5.trans (hx6.mono hb5.size)
          go_wp2_with fail
          refine (HS.out _ hb6).mono ?_
          rintro e w7 ⟨rfl, hx7⟩
          have hb7 := hb6.trans (hx7.mono hb6.size)
          go_wp2
          go_ret
          exact ⟨rfl, hb7⟩
        · have HW : Hid (∀ w1, Calls Tryz.prog 16 #[valLink x, .nilIface] w1 fun e w' => e = .returned (.tuple #[.nilIface, I64 (wrapE x .nil)]) ∧ Below w1.heap.size w1 w') := fun w1 => (wrap_law x .nil .nilIface w1 hxm (.inl ⟨rfl, rfl⟩) (by decide)).mono (fun e w' hp => ⟨hp.1 hw, hp.2.2⟩)
          have HRW : Hid (∀ w1, Below w.heap.size w w1 → Calls Tryz.prog 17 #[valLink x, (.slice none 0 0)] w1 fun e w' => e = .returned (.tuple #[.slice none 0 0, I64 (wrapE x .nil)]) ∧ Below w1.heap.size w1 w') := fun w1 hb => (rwrap_law x .nil (.slice none 0 0) w1 hxm (.inl ⟨none, 0, rfl, rfl⟩) (by decide)).mono (fun e w' hp => ⟨hp.1 hw, hp.2.2⟩)
          generalize wrapE x .nil = E at hw HW HRW
          have hE2 : (E != 0) = true := by rw [bne_iff_ne]; exact hw
          have hE3 : (E != E) = false := by simp
          clear hq h hE hs h0 hw hl hxm hv
          obtain ⟨xk, xo, xb, xc⟩ := x
          unfold valLink at *
          dsimp only at HBA hxs ⊢
          go_enter Tryz.func4, Tryz.ntmps4
          go_wp2_with fail
          refine (HF.out _ HBA.out).mono ?_
          rintro e w1 ⟨rfl, rfl⟩
          go_wp2_with fail
          refine (HR.out _ HBA.out).mono ?_
          rintro e w2 ⟨rfl, hx2⟩
          obtain ⟨c0, c1, c2, c3⟩ := boxCells hx2
          have hb2 := HBA.out.trans (hx2.mono HBA.out.size)
          clear hx2
          go_wp2_with fail
          refine (HW.out _).mono ?_
          rintro e w4 ⟨rfl, hx4⟩
          obtain ⟨f0, f1, f2, f3⟩ := carry4 hx4 c0 c1 c2 c3
          have hb4 := hb2.trans (hx4.mono hb2.size)
          clear hx4 hb2 c0 c1 c2 c3
          go_wp2_with fail
          refine (HRW.out _ hb4).mono ?_
          rintro e w5 ⟨rfl, hx5⟩
          have hb5 := hb4.trans (hx5.mono hb4.size)
          clear hx5 hb4 f0 f1 f2 f3
          go_wp2_with fail
          refine (HS.out _ hb5).mono ?_
          rintro e w7 ⟨rfl, hx7⟩
          have hb7 := hb5.trans (hx7.mono hb5.size)
          go_wp2
          go_ret
          exact ⟨rfl, hb7⟩
end Go.Proofs.YtgnhbccmdpkbiaaGreatDoor
