/-
  Walks for layer 3 (faults): next at a link whose numbers are right.
-/
import Derived.Test.YtgnhbccmdpkbiaaGreatDoorFaw4
namespace Go.Proofs.YtgnhbccmdpkbiaaGreatDoor
open Go.RowKit

set_option maxHeartbeats 40000000 in
set_option maxRecDepth 100000 in
theorem next_ok (f : Nat) (hN : NextC f) (dp k : Int) (op : ByteArray) (b c : Int) (l' : List Fa.Node) (w : World) (bb : Nat) (sv : Value) (wd : Bool) (hl : (⟨dp, 0, ⟨k, op, b, c⟩⟩ :: l' : List Fa.Node).length < f + 1) (hF : Fit (⟨dp, 0, ⟨k, op, b, c⟩⟩ :: l')) (h0 : 0 ≤ dp) (h1 : dp ≤ 1000) (hB : BAt w bb sv wd) (hR : Rd w bb sv (⟨dp, 0, ⟨k, op, b, c⟩⟩ :: l'))
    (hn : Fa.okName ⟨k, op, b, c⟩ = true) (hq : Fa.okNum ⟨k, op, b, c⟩ = true) : Calls Tryz.prog 39 #[.pointer (some ⟨bb, 0, none⟩), I64 dp] w (ResPost (Fa.tree (f + 1) dp (⟨dp, 0, ⟨k, op, b, c⟩⟩ :: l')) (⟨dp, 0, ⟨k, op, b, c⟩⟩ :: l') w bb wd) := by
  generalize hM : (fun e w' => ResPost (Fa.tree (f + 1) dp (⟨dp, 0, ⟨k, op, b, c⟩⟩ :: l')) (⟨dp, 0, ⟨k, op, b, c⟩⟩ :: l') w bb wd e w') = R
  have hM' : ResPost (Fa.tree (f + 1) dp (⟨dp, 0, ⟨k, op, b, c⟩⟩ :: l')) (⟨dp, 0, ⟨k, op, b, c⟩⟩ :: l') w bb wd = R := hM
  rw [hM']
  have HR : Hid (∀ e w', ResPost (Fa.tree (f + 1) dp (⟨dp, 0, ⟨k, op, b, c⟩⟩ :: l')) (⟨dp, 0, ⟨k, op, b, c⟩⟩ :: l') w bb wd e w' → R e w') := fun _ _ h => by rw [← hM']; exact h
  have HNone : Hid (∀ w', Fa.tree (f + 1) dp (⟨dp, 0, ⟨k, op, b, c⟩⟩ :: l') = none → w.grownBy w' (some bb) → R (.returned .nilIface) w') := fun w' h1 h2 => by rw [← hM', h1]; exact ⟨h2, rfl⟩
  clear hM hM'
  have hbl : bb < w.heap.size := lt_of_block hB
  have HBL := Lib.hid hbl
  obtain ⟨b0, b1, f0, f1⟩ := hB.cells
  rcases hR with ⟨a, cap, rfl, e⟩ | ⟨g, o, cap, rfl, hcap, hg, hgl, hc⟩
  · cases e
  have hz : ((((l'.length + 1 : Nat)) : Int) == 0) = false := by rw [beq_eq_false_iff_ne]; omega
  have c0 := hc 0 (by simp) 0 _ rfl
  have c1 := hc 0 (by simp) 1 _ rfl
  have c2 := hc 0 (by simp) 2 _ rfl
  have c3 := hc 0 (by simp) 3 _ rfl
  have c4 := hc 0 (by simp) 4 _ rfl
  have c5 := hc 0 (by simp) 5 _ rfl
  simp only [List.getElem_cons_zero, Nat.zero_mul, Nat.add_zero] at c0 c1 c2 c3 c4 c5
  have hRd : cap ≠ 1 → Rd w bb (.slice (some ⟨g, o + 6, none⟩) l'.length (cap - 1)) l' := fun h => .inr ⟨g, o + 6, cap - 1, rfl, by simp only [List.length_cons] at hcap; omega, hg, hgl, fun j hj i u hu => by
    have := hc (j + 1) (by simp; omega) i u (by simpa using hu)
    rw [show o + 6 + j * 6 + i = o + (j + 1) * 6 + i by omega]
    exact this⟩
  try dsimp only at c0 c1 c2 c3 c4 c5
  simp only [List.length_cons] at hcap hl
  have hfx := hF.2 _ (List.mem_cons_self)
  try dsimp only at hfx
  have hF' : Fit l' := ⟨by have := hF.1; simp only [List.length_cons] at this; omega, fun y hy => hF.2 y (List.mem_cons_of_mem _ hy)⟩
  have hlen : l'.length ≤ 39 := by have := hF.1; simp only [List.length_cons] at this; omega
  have HB := Lib.hid hB
  clear hB hc hF
  have hde : (dp != dp) = false := by simp
  have hje : ((0 : Int) != 0) = false := by decide
  have HCK : Hid (∀ w, Calls Tryz.prog 44 #[.agg #[I64 k, .string op, I64 b, I64 c]] w fun e w' => e = .returned (I64 0) ∧ Below w.heap.size w w') := fun w => by
    have h := check_any ⟨k, op, b, c⟩ w hfx.2
    rw [show checkE ⟨k, op, b, c⟩ = 0 from by simp [checkE, hn, hq]] at h
    exact h
  have hce : checkE ⟨k, op, b, c⟩ = 0 := by simp [checkE, hn, hq]
  have hfxx : Fa.fix ⟨k, op, b, c⟩ = ⟨k, op, b, c⟩ := by simp [Fa.fix, hq]
  have HWI := Lib.hid (show wd = (wd || Fa.wideN ⟨dp, 0, ⟨k, op, b, c⟩⟩) from by simp [Fa.wideN, hq])
  have HWR : Hid (∀ w, Calls Tryz.prog 16 #[.agg #[I64 k, .string op, I64 b, I64 c], .nilIface] w fun e w' => ∃ z, e = .returned (.tuple #[linkPtr z, I64 0]) ∧ Below w.heap.size w w' ∧ Holds (fun u => w.heap.size ≤ u) w' (.link ⟨k, op, b, c⟩ .nil .nil) [valE (false, z)]) := fun w => wrap_ok_nil ⟨k, op, b, c⟩ w hfx.2 hce
  have HWS : Hid (∀ (B : Nat) (c' : Fa.F) (cv : Value) (w : World), Holds (fun u => B ≤ u) w c' [cv] → c'.nodes + 1 ≤ 40 → c'.hgt ≤ 12 → B ≤ w.heap.size → Calls Tryz.prog 16 #[.agg #[I64 k, .string op, I64 b, I64 c], cv] w fun e w' => ∃ z, e = .returned (.tuple #[linkPtr z, I64 0]) ∧ Below w.heap.size w w' ∧ Holds (fun u => B ≤ u) w' (.link ⟨k, op, b, c⟩ c' .nil) [valE (false, z)]) :=
    fun B c' cv w a1 a2 a3 a4 => wrap_ok B ⟨k, op, b, c⟩ c' cv w hfx.2 hce a1 a2 a3 a4
  have HTR : Hid (Fa.tree (f + 1) dp (⟨dp, 0, ⟨k, op, b, c⟩⟩ :: l') = if Fa.deeper dp l' then (match Fa.tree f (dp + 1) l' with
      | none => none
      | some (cc, rr) => some (.link ⟨k, op, b, c⟩ cc .nil, rr)) else some (.link ⟨k, op, b, c⟩ .nil .nil, l')) := by
    show _ = _
    rw [Fa.tree, if_pos rfl, if_pos rfl, if_pos hn]
    dsimp only
    rw [hfxx]
    rfl
  clear hn hq hce hfxx
  cases l' with
  | nil =>
    have HT := Lib.hid (HTR.out.trans (if_neg (by simp [Fa.deeper])))
    by_cases hc1 : cap = 1
    · subst hc1
      clear hN hF' hfx hRd
      go_enter Tryz.func39, Tryz.ntmps39
      go_wp2_with (first | (go_at_call 44; refine (HCK.out _).mono ?_; rintro e w2 ⟨rfl, hb2⟩; obtain ⟨hB2, hX2, hg2⟩ := w2_facts HB.out hb2; obtain ⟨d0, d1, d2, d3⟩ := hB2.cells; have HB2 := Lib.hid hB2; have HG2 := Lib.hid hg2; have x2 := blk_cell hX2 2; have x3 := blk_cell hX2 3; have x4 := blk_cell hX2 4; have x5 := blk_cell hX2 5; have y2 := blk_free hX2 2; have y3 := blk_free hX2 3; have y4 := blk_free hX2 4; have y5 := blk_free hX2 5; simp only [List.getElem?_toArray, List.getElem?_cons_succ, List.getElem?_cons_zero] at x2 x3 x4 x5; have HX2 := Lib.hid hX2; clear hB2 hX2 hg2 hb2) | (go_at_call 16; refine (HWR.out _).mono ?_; rintro e w3 ⟨b3, rfl, hb3, hh3⟩))
      refine HR.out _ _ ?_
      rw [HT.out]
      exact ResPost.leaf HG2.out hb3 HB2.out HWI.out (.inl ⟨_, _, rfl, rfl⟩) hh3
    · clear hN hF' hfx hRd
      go_enter Tryz.func39, Tryz.ntmps39
      go_wp2_with (first | (go_at_call 44; refine (HCK.out _).mono ?_; rintro e w2 ⟨rfl, hb2⟩; obtain ⟨hB2, hX2, hg2⟩ := w2_facts HB.out hb2; obtain ⟨d0, d1, d2, d3⟩ := hB2.cells; have HB2 := Lib.hid hB2; have HG2 := Lib.hid hg2; have x2 := blk_cell hX2 2; have x3 := blk_cell hX2 3; have x4 := blk_cell hX2 4; have x5 := blk_cell hX2 5; have y2 := blk_free hX2 2; have y3 := blk_free hX2 3; have y4 := blk_free hX2 4; have y5 := blk_free hX2 5; simp only [List.getElem?_toArray, List.getElem?_cons_succ, List.getElem?_cons_zero] at x2 x3 x4 x5; have HX2 := Lib.hid hX2; clear hB2 hX2 hg2 hb2) | (go_at_call 16; refine (HWR.out _).mono ?_; rintro e w3 ⟨b3, rfl, hb3, hh3⟩))
      refine HR.out _ _ ?_
      rw [HT.out]
      exact ResPost.leaf HG2.out hb3 HB2.out HWI.out (.inl ⟨_, _, rfl, rfl⟩) hh3
  | cons y l'' =>
    have hc1 : cap ≠ 1 := by simp only [List.length_cons] at hcap; omega
    have HRd := Lib.hid (hRd hc1)
    have HE0 : Hid (w.cell? ⟨g, o + 6, none⟩ = some (I64 y.depth)) := by
      rcases hRd hc1 with ⟨_, _, _, e⟩ | ⟨g', o', cap', e, _, _, _, hc'⟩
      · cases e
      · injection e with e1 _ _
        injection e1 with e2
        injection e2 with e3 e4
        subst e3; subst e4
        exact hc' 0 (by simp) 0 _ rfl
    have hpos : (0 : Int) < (((y :: l'').length : Nat) : Int) := by simp only [List.length_cons]; omega
    have hTK := Fa.tree_took f (dp + 1) (y :: l'')
    have HNX : Hid (∀ W1 sv1 q1, BAt W1 bb sv1 q1 → Rd W1 bb sv1 (y :: l'') → Calls Tryz.prog 39 #[.pointer (some ⟨bb, 0, none⟩), I64 (dp + 1)] W1 (ResPost (Fa.tree f (dp + 1) (y :: l'')) (y :: l'') W1 bb q1)) :=
      fun W1 sv1 q1 a1 a2 => hN (dp + 1) (y :: l'') W1 bb sv1 q1 (by omega) hF' (by omega) (by omega) a1 a2
    have HFF := Lib.hid hF'
    clear hRd hF' hN
    generalize hsv : (Value.slice (some ⟨g, o + 6, none⟩) (y :: l'').length (cap - 1)) = svx at HRd
    have HSV := Lib.hid hsv
    clear hsv
    by_cases hdp : dp < y.depth
    · cases hT : Fa.tree f (dp + 1) (y :: l'') with
      | none =>
        have HX := Lib.hid (HTR.out.trans ((if_pos (by simpa [Fa.deeper] using hdp)).trans (by rw [hT])))
        rw [hT] at HNX
        clear hT hTK hfx
        go_enter Tryz.func39, Tryz.ntmps39
        go_wp2_with (first | (go_at_call 44; refine (HCK.out _).mono ?_; rintro e w2 ⟨rfl, hb2⟩; obtain ⟨hB2, hX2, hg2⟩ := w2_facts HB.out hb2; obtain ⟨d0, d1, d2, d3⟩ := hB2.cells; have HB2 := Lib.hid hB2; have HG2 := Lib.hid hg2; have x2 := blk_cell hX2 2; have x3 := blk_cell hX2 3; have x4 := blk_cell hX2 4; have x5 := blk_cell hX2 5; have y2 := blk_free hX2 2; have y3 := blk_free hX2 3; have y4 := blk_free hX2 4; have y5 := blk_free hX2 5; simp only [List.getElem?_toArray, List.getElem?_cons_succ, List.getElem?_cons_zero] at x2 x3 x4 x5; have e0 := (gb_cell' (i := o + 6) hg2 hgl (fun e => by injection e with e; omega)).trans HE0.out; have HX2 := Lib.hid hX2; clear hB2 hX2 hg2 hb2) | (go_at_call 39; refine (HNX.out _ _ _ HB2.out (by have h := HRd.out.grown HG2.out; rw [← HSV.out] at h; exact h)).mono ?_; rintro e w3 ⟨hg3, rfl⟩))
        exact HNone.out _ HX.out (gb_trans HG2.out hg3)
      | some cr =>
        obtain ⟨c', r⟩ := cr
        have HT := Lib.hid (HTR.out.trans ((if_pos (by simpa [Fa.deeper] using hdp)).trans (by rw [hT])))
        have hTT := hTK c' r hT
        have hn39 : c'.nodes + 1 ≤ 40 := by
          obtain ⟨pp, e1, e2, _⟩ := hTT.part
          have e3 := congrArg List.length e1
          rw [List.length_append] at e3
          omega
        have hh12 : c'.hgt ≤ 12 := by
          have := hTT.deep (fun z hz => (HFF.out.2 z hz).1) (fun e => by have := hTT.len; rw [e] at this; exact absurd this (by decide))
          omega
        rw [hT] at HNX
        clear hT hTK hTT hfx
        go_enter Tryz.func39, Tryz.ntmps39
        go_wp2_with (first | (go_at_call 44; refine (HCK.out _).mono ?_; rintro e w2 ⟨rfl, hb2⟩; obtain ⟨hB2, hX2, hg2⟩ := w2_facts HB.out hb2; obtain ⟨d0, d1, d2, d3⟩ := hB2.cells; have HB2 := Lib.hid hB2; have HG2 := Lib.hid hg2; have x2 := blk_cell hX2 2; have x3 := blk_cell hX2 3; have x4 := blk_cell hX2 4; have x5 := blk_cell hX2 5; have y2 := blk_free hX2 2; have y3 := blk_free hX2 3; have y4 := blk_free hX2 4; have y5 := blk_free hX2 5; simp only [List.getElem?_toArray, List.getElem?_cons_succ, List.getElem?_cons_zero] at x2 x3 x4 x5; have e0 := (gb_cell' (i := o + 6) hg2 hgl (fun e => by injection e with e; omega)).trans HE0.out; have HX2 := Lib.hid hX2; clear hB2 hX2 hg2 hb2) | (go_at_call 39; refine (HNX.out _ _ _ HB2.out (by have h := HRd.out.grown HG2.out; rw [← HSV.out] at h; exact h)).mono ?_; rintro e w3 hres; obtain ⟨p3, sv3, rf, he, hp3, hh3, _⟩ := hres.2; subst he; have HW3 := Lib.hid (HWS.out _ c' (valE rf) w3 hh3 hn39 hh12 hres.1.size); have HRES := Lib.hid hres; have z2 : w3.cell? ⟨w.heap.size, 2, none⟩ = some (I64 k) := (gb_cell' hres.1 (lt_of_block HX2.out) (fun e => by injection e with e; have := HBL.out; omega)).trans x2; have z3 : w3.cell? ⟨w.heap.size, 3, none⟩ = some (.string op) := (gb_cell' hres.1 (lt_of_block HX2.out) (fun e => by injection e with e; have := HBL.out; omega)).trans x3; have z4 : w3.cell? ⟨w.heap.size, 4, none⟩ = some (I64 b) := (gb_cell' hres.1 (lt_of_block HX2.out) (fun e => by injection e with e; have := HBL.out; omega)).trans x4; have z5 : w3.cell? ⟨w.heap.size, 5, none⟩ = some (I64 c) := (gb_cell' hres.1 (lt_of_block HX2.out) (fun e => by injection e with e; have := HBL.out; omega)).trans x5;  clear hp3 hh3 hres; obtain ⟨ty, pv, hty⟩ := valE_iface rf; rw [hty] at HW3 ⊢; clear hty) | (go_at_call 16; refine HW3.out.mono ?_; rintro e w4 ⟨b4, rfl, hb4, hh4⟩))
        refine HR.out _ _ ?_
        rw [HT.out]
        exact ResPost.link HG2.out HRES.out HWI.out hb4 hh4
    · have HT := Lib.hid (HTR.out.trans (if_neg (by simpa [Fa.deeper] using hdp)))
      clear hTK hfx
      go_enter Tryz.func39, Tryz.ntmps39
      go_wp2_with (first | (go_at_call 44; refine (HCK.out _).mono ?_; rintro e w2 ⟨rfl, hb2⟩; obtain ⟨hB2, hX2, hg2⟩ := w2_facts HB.out hb2; obtain ⟨d0, d1, d2, d3⟩ := hB2.cells; have HB2 := Lib.hid hB2; have HG2 := Lib.hid hg2; have x2 := blk_cell hX2 2; have x3 := blk_cell hX2 3; have x4 := blk_cell hX2 4; have x5 := blk_cell hX2 5; have y2 := blk_free hX2 2; have y3 := blk_free hX2 3; have y4 := blk_free hX2 4; have y5 := blk_free hX2 5; simp only [List.getElem?_toArray, List.getElem?_cons_succ, List.getElem?_cons_zero] at x2 x3 x4 x5; have e0 := (gb_cell' (i := o + 6) hg2 hgl (fun e => by injection e with e; omega)).trans HE0.out; have HX2 := Lib.hid hX2; clear hB2 hX2 hg2 hb2) | (go_at_call 16; refine (HWR.out _).mono ?_; rintro e w3 ⟨b3, rfl, hb3, hh3⟩))
      refine HR.out _ _ ?_
      rw [HT.out]
      exact ResPost.leaf HG2.out hb3 HB2.out HWI.out (by have h := HRd.out.grown HG2.out; rw [← HSV.out] at h; exact h) hh3
end Go.Proofs.YtgnhbccmdpkbiaaGreatDoor
