/-
  Walks for layer 3 (faults): next; Build.
-/
import Derived.Test.YtgnhbccmdpkbiaaGreatDoorFaw4a
import Derived.Test.YtgnhbccmdpkbiaaGreatDoorFaw4b
namespace Go.Proofs.YtgnhbccmdpkbiaaGreatDoor
open Go.RowKit

set_option maxHeartbeats 40000000 in
set_option maxRecDepth 100000 in
theorem next_step (f : Nat) (hN : NextC f) : NextC (f + 1) := by
  intro d l w bb sv wd hl hF h0 h1 hB hR
  have HR : Hid (∀ e w', ResPost (Fa.tree (f + 1) d l) l w bb wd e w' → ResPost (Fa.tree (f + 1) d l) l w bb wd e w') := fun _ _ h => h
  have HNone : Hid (∀ w', Fa.tree (f + 1) d l = none → w.grownBy w' (some bb) → ResPost (Fa.tree (f + 1) d l) l w bb wd (.returned .nilIface) w') := fun w' h1 h2 => by rw [h1]; exact ⟨h2, rfl⟩
  generalize hM : (fun e w' => ResPost (Fa.tree (f + 1) d l) l w bb wd e w') = R
  have hM' : ResPost (Fa.tree (f + 1) d l) l w bb wd = R := hM
  rw [hM']
  have HR : Hid (∀ e w', ResPost (Fa.tree (f + 1) d l) l w bb wd e w' → R e w') := fun _ _ h => by rw [← hM']; exact h
  have HNone : Hid (∀ w', Fa.tree (f + 1) d l = none → w.grownBy w' (some bb) → R (.returned .nilIface) w') := fun w' h1 h2 => by rw [← hM', h1]; exact ⟨h2, rfl⟩
  clear hM hM'
  have hbl : bb < w.heap.size := lt_of_block hB
  obtain ⟨b0, b1, f0, f1⟩ := hB.cells
  cases l with
  | nil =>
    obtain ⟨a, cap, rfl⟩ := hR.len
    have HX := Lib.hid (show Fa.tree (f + 1) d [] = none from by simp [Fa.tree])
    clear hB hR hN hF
    go_enter Tryz.func39, Tryz.ntmps39
    go_wp2
    exact HNone.out _ HX.out (World.grownBy.refl _ _)
  | cons x l' =>
    have HRR := Lib.hid hR
    rcases hR with ⟨a, cap, rfl, e⟩ | ⟨g, o, cap, rfl, hcap, hg, hgl, hc⟩
    · cases e
    have hz : ((((l'.length + 1 : Nat)) : Int) == 0) = false := by rw [beq_eq_false_iff_ne]; omega
    have c0 := hc 0 (by simp) 0 _ rfl
    have c1 := hc 0 (by simp) 1 _ rfl
    have c2 := hc 0 (by simp) 2 _ rfl
    have c3 := hc 0 (by simp) 3 _ rfl
    have c4 := hc 0 (by simp) 4 _ rfl
    have c5 := hc 0 (by simp) 5 _ rfl
    simp only [List.getElem_cons_zero, Nat.zero_mul, Nat.add_zero] at c0 c1 c2 c3 c4 c5
    have hRd : cap ≠ 1 → Rd w bb (.slice (some ⟨g, o + 6, none⟩) l'.length (cap - 1)) l' := fun h => .inr ⟨g, o + 6, cap - 1, rfl, by simp only [List.length_cons] at hcap; omega, hg, hgl, fun j hj i u hu => by
      have := hc (j + 1) (by simp; omega) i u (by simpa using hu)
      rw [show o + 6 + j * 6 + i = o + (j + 1) * 6 + i by omega]
      exact this⟩
    obtain ⟨dp, jn, ⟨k, op, b, c⟩⟩ := x
    dsimp only at c0 c1 c2 c3 c4 c5
    simp only [List.length_cons] at hcap hl
    have hfx := hF.2 _ (List.mem_cons_self)
    dsimp only at hfx
    have hF' : Fit l' := ⟨by have := hF.1; simp only [List.length_cons] at this; omega, fun y hy => hF.2 y (List.mem_cons_of_mem _ hy)⟩
    have hlen : l'.length ≤ 39 := by have := hF.1; simp only [List.length_cons] at this; omega
    have HB := Lib.hid hB
    have HFF := Lib.hid hF
    clear hB hc hF
    by_cases hd : dp = d
    · subst hd
      have hde : (dp != dp) = false := by simp
      by_cases hj : jn = 0
      · subst hj
        have hje : ((0 : Int) != 0) = false := by decide
        cases hn : Fa.okName ⟨k, op, b, c⟩ with
        | false =>
          have HCK : Hid (∀ w, Calls Tryz.prog 44 #[.agg #[I64 k, .string op, I64 b, I64 c]] w fun e w' => e = .returned (I64 6) ∧ Below w.heap.size w w') := fun w => by
            have h := check_any ⟨k, op, b, c⟩ w hfx.2
            rw [show checkE ⟨k, op, b, c⟩ = 6 from by simp [checkE, hn]] at h
            exact h
          have HX := Lib.hid (show Fa.tree (f + 1) dp (⟨dp, 0, ⟨k, op, b, c⟩⟩ :: l') = none from by rw [Fa.tree, if_pos rfl, if_pos rfl, if_neg (by rw [hn]; decide)])
          clear hn hN hF' hfx hRd
          by_cases hc1 : cap = 1
          · subst hc1
            obtain rfl : l' = [] := List.eq_nil_of_length_eq_zero (by omega)
            go_enter Tryz.func39, Tryz.ntmps39
            go_wp2_with (go_at_call 44; refine (HCK.out _).mono ?_; rintro e w2 ⟨rfl, hb2⟩; obtain ⟨hB2, hX2, hg2⟩ := w2_facts HB.out hb2; obtain ⟨d0, d1, d2, d3⟩ := hB2.cells; have HB2 := Lib.hid hB2; have HG2 := Lib.hid hg2; have x2 := blk_cell hX2 2; have x3 := blk_cell hX2 3; have x4 := blk_cell hX2 4; have x5 := blk_cell hX2 5; have y2 := blk_free hX2 2; have y3 := blk_free hX2 3; have y4 := blk_free hX2 4; have y5 := blk_free hX2 5; simp only [List.getElem?_toArray, List.getElem?_cons_succ, List.getElem?_cons_zero] at x2 x3 x4 x5; have HX2 := Lib.hid hX2; clear hB2 hX2 hg2 hb2)
            exact HNone.out _ HX.out HG2.out
          · go_enter Tryz.func39, Tryz.ntmps39
            go_wp2_with (go_at_call 44; refine (HCK.out _).mono ?_; rintro e w2 ⟨rfl, hb2⟩; obtain ⟨hB2, hX2, hg2⟩ := w2_facts HB.out hb2; obtain ⟨d0, d1, d2, d3⟩ := hB2.cells; have HB2 := Lib.hid hB2; have HG2 := Lib.hid hg2; have x2 := blk_cell hX2 2; have x3 := blk_cell hX2 3; have x4 := blk_cell hX2 4; have x5 := blk_cell hX2 5; have y2 := blk_free hX2 2; have y3 := blk_free hX2 3; have y4 := blk_free hX2 4; have y5 := blk_free hX2 5; simp only [List.getElem?_toArray, List.getElem?_cons_succ, List.getElem?_cons_zero] at x2 x3 x4 x5; have HX2 := Lib.hid hX2; clear hB2 hX2 hg2 hb2)
            exact HNone.out _ HX.out HG2.out
        | true =>
          have HB' := HB.out
          have hR' : Rd w bb (.slice (some ⟨g, o, none⟩) (⟨dp, 0, ⟨k, op, b, c⟩⟩ :: l' : List Fa.Node).length cap) (⟨dp, 0, ⟨k, op, b, c⟩⟩ :: l') := HRR.out
          have hcall : Calls Tryz.prog 39 #[.pointer (some ⟨bb, 0, none⟩), I64 dp] w (ResPost (Fa.tree (f + 1) dp (⟨dp, 0, ⟨k, op, b, c⟩⟩ :: l')) (⟨dp, 0, ⟨k, op, b, c⟩⟩ :: l') w bb wd) := by
            cases hq : Fa.okNum ⟨k, op, b, c⟩ with
            | true => exact next_ok f hN dp k op b c l' w bb _ wd (by simpa using hl) HFF.out h0 h1 HB' hR' hn hq
            | false => exact next_bad f hN dp k op b c l' w bb _ wd (by simpa using hl) HFF.out h0 h1 HB' hR' hn hq
          exact hcall.mono (fun e w' h => HR.out e w' h)
      · have hje : (jn != 0) = true := by rw [bne_iff_ne]; exact hj
        have HT := Lib.hid (show Fa.tree (f + 1) dp (⟨dp, jn, ⟨k, op, b, c⟩⟩ :: l') = (if Fa.badJoin ⟨dp, jn, ⟨k, op, b, c⟩⟩ then none else match Fa.many (Fa.tree f (dp + 1)) jn.toNat l' with
          | none => none
          | some (k, r) => some (.join k .nil, r)) from by rw [Fa.tree, if_pos rfl, if_neg hj]; rfl)
        have HWX := Lib.hid (show Fa.wideN ⟨dp, jn, ⟨k, op, b, c⟩⟩ = false from by simp [Fa.wideN, hj])
        clear hj
        have HJN : Hid (∀ W1 sv', BAt W1 bb sv' wd → Rd W1 bb sv' l' → Calls Tryz.prog 60 #[.pointer (some ⟨bb, 0, none⟩), .agg #[I64 dp, I64 jn, I64 k, .string op, I64 b, I64 c], I64 dp] W1 (ResPost (if Fa.badJoin ⟨dp, jn, ⟨k, op, b, c⟩⟩ then none else match Fa.many (Fa.tree f (dp + 1)) jn.toNat l' with
          | none => none
          | some (k, r) => some (.join k .nil, r)) l' W1 bb wd)) := fun W1 sv' h1 h2 => bjoin_any f hN ⟨dp, jn, ⟨k, op, b, c⟩⟩ dp l' W1 bb sv' wd (by omega) (by omega) hF' h0 hfx.1 h1 h2
        by_cases hc1 : cap = 1
        · subst hc1
          obtain rfl : l' = [] := List.eq_nil_of_length_eq_zero (by omega)
          have HG : Hid (w.grownBy ((w.setCell ⟨bb, 0, none⟩ (.slice (some ⟨g, o, none⟩) 0 0)).alloc (.cells #[I64 dp, I64 jn, I64 k, .string op, I64 b, I64 c] 52)) (some bb)) := gb_trans (gb_set w bb 0 _) (gb_alloc _ _ _)
          have HJ : Hid (∀ W1, W1 = (w.setCell ⟨bb, 0, none⟩ (.slice (some ⟨g, o, none⟩) 0 0)).alloc (.cells #[I64 dp, I64 jn, I64 k, .string op, I64 b, I64 c] 52) → Calls Tryz.prog 60 #[.pointer (some ⟨bb, 0, none⟩), .agg #[I64 dp, I64 jn, I64 k, .string op, I64 b, I64 c], I64 dp] W1 (ResPost (if Fa.badJoin ⟨dp, jn, ⟨k, op, b, c⟩⟩ then none else match Fa.many (Fa.tree f (dp + 1)) jn.toNat [] with
          | none => none
          | some (k, r) => some (.join k .nil, r)) [] W1 bb wd)) := fun W1 e => by
            subst e
            exact HJN.out _ _ ((HB.out.set0 _).grown (gb_alloc _ _ none) (by simp)) (.inl ⟨_, _, rfl, rfl⟩)
          clear hRd hN hF' hfx
          go_enter Tryz.func39, Tryz.ntmps39; go_wp2_with (go_at_call 60; refine (HJ.out _ rfl).mono ?_; rintro e w3 hres; obtain ⟨v, rfl⟩ := hres.ret; have HRES := Lib.hid hres; clear hres); refine HR.out _ _ ?_; rw [HT.out]; exact HRES.out.cons HG.out HWX.out
        · have HRd := Lib.hid (hRd hc1)
          have HG : Hid (w.grownBy ((w.setCell ⟨bb, 0, none⟩ (.slice (some ⟨g, o + 6, none⟩) l'.length (cap - 1))).alloc (.cells #[I64 dp, I64 jn, I64 k, .string op, I64 b, I64 c] 52)) (some bb)) := gb_trans (gb_set w bb 0 _) (gb_alloc _ _ _)
          have HJ : Hid (∀ W1, W1 = (w.setCell ⟨bb, 0, none⟩ (.slice (some ⟨g, o + 6, none⟩) l'.length (cap - 1))).alloc (.cells #[I64 dp, I64 jn, I64 k, .string op, I64 b, I64 c] 52) → Calls Tryz.prog 60 #[.pointer (some ⟨bb, 0, none⟩), .agg #[I64 dp, I64 jn, I64 k, .string op, I64 b, I64 c], I64 dp] W1 (ResPost (if Fa.badJoin ⟨dp, jn, ⟨k, op, b, c⟩⟩ then none else match Fa.many (Fa.tree f (dp + 1)) jn.toNat l' with
          | none => none
          | some (k, r) => some (.join k .nil, r)) l' W1 bb wd)) := fun W1 e => by
            subst e
            exact HJN.out _ _ ((HB.out.set0 _).grown (gb_alloc _ _ none) (by simp)) (HRd.out.grown HG.out)
          clear hRd hN hF' hfx
          go_enter Tryz.func39, Tryz.ntmps39; go_wp2_with (go_at_call 60; refine (HJ.out _ rfl).mono ?_; rintro e w3 hres; obtain ⟨v, rfl⟩ := hres.ret; have HRES := Lib.hid hres; clear hres); refine HR.out _ _ ?_; rw [HT.out]; exact HRES.out.cons HG.out HWX.out
    · have hde : (dp != d) = true := by rw [bne_iff_ne]; exact hd
      have HX := Lib.hid (show Fa.tree (f + 1) d (⟨dp, jn, ⟨k, op, b, c⟩⟩ :: l') = none from by rw [Fa.tree, if_neg hd])
      clear hd hN hRd hF' hfx
      go_enter Tryz.func39, Tryz.ntmps39
      go_wp2
      exact HNone.out _ HX.out (World.grownBy.refl _ _)
end Go.Proofs.YtgnhbccmdpkbiaaGreatDoor
