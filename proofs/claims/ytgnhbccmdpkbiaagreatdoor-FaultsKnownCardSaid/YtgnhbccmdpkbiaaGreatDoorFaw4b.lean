/-
  Walks for layer 3 (faults): next at a link with a number out of range.
-/
import Derived.Test.YtgnhbccmdpkbiaaGreatDoorFaw4
namespace Go.Proofs.YtgnhbccmdpkbiaaGreatDoor
open Go.RowKit

theorem bad_facts {w w2 : World} {bb : Nat} {sv' : Value} {wd : Bool} {v0 v1 v2 v3 v4 v5 : Value} {T : TypeId} (hB2 : BAt w2 bb sv' wd) (hg2 : w.grownBy w2 (some bb)) (hbl : bb < w.heap.size) (hX : w2.heap[w.heap.size]? = some (.cells #[v0, v1, v2, v3, v4, v5] T (0, 0))) (u2 u3 u4 u5 : Value) :
    BAt (((((w2.setCell ⟨bb, 1, none⟩ (.bool true)).setCell ⟨w.heap.size, 2, none⟩ u2).setCell ⟨w.heap.size, 3, none⟩ u3).setCell ⟨w.heap.size, 4, none⟩ u4).setCell ⟨w.heap.size, 5, none⟩ u5) bb sv' true ∧
    w.grownBy (((((w2.setCell ⟨bb, 1, none⟩ (.bool true)).setCell ⟨w.heap.size, 2, none⟩ u2).setCell ⟨w.heap.size, 3, none⟩ u3).setCell ⟨w.heap.size, 4, none⟩ u4).setCell ⟨w.heap.size, 5, none⟩ u5) (some bb) ∧
    w.heap.size < (((((w2.setCell ⟨bb, 1, none⟩ (.bool true)).setCell ⟨w.heap.size, 2, none⟩ u2).setCell ⟨w.heap.size, 3, none⟩ u3).setCell ⟨w.heap.size, 4, none⟩ u4).setCell ⟨w.heap.size, 5, none⟩ u5).heap.size ∧
    (((((w2.setCell ⟨bb, 1, none⟩ (.bool true)).setCell ⟨w.heap.size, 2, none⟩ u2).setCell ⟨w.heap.size, 3, none⟩ u3).setCell ⟨w.heap.size, 4, none⟩ u4).setCell ⟨w.heap.size, 5, none⟩ u5).cell? ⟨w.heap.size, 2, none⟩ = some u2 ∧
    (((((w2.setCell ⟨bb, 1, none⟩ (.bool true)).setCell ⟨w.heap.size, 2, none⟩ u2).setCell ⟨w.heap.size, 3, none⟩ u3).setCell ⟨w.heap.size, 4, none⟩ u4).setCell ⟨w.heap.size, 5, none⟩ u5).cell? ⟨w.heap.size, 3, none⟩ = some u3 ∧
    (((((w2.setCell ⟨bb, 1, none⟩ (.bool true)).setCell ⟨w.heap.size, 2, none⟩ u2).setCell ⟨w.heap.size, 3, none⟩ u3).setCell ⟨w.heap.size, 4, none⟩ u4).setCell ⟨w.heap.size, 5, none⟩ u5).cell? ⟨w.heap.size, 4, none⟩ = some u4 ∧
    (((((w2.setCell ⟨bb, 1, none⟩ (.bool true)).setCell ⟨w.heap.size, 2, none⟩ u2).setCell ⟨w.heap.size, 3, none⟩ u3).setCell ⟨w.heap.size, 4, none⟩ u4).setCell ⟨w.heap.size, 5, none⟩ u5).cell? ⟨w.heap.size, 5, none⟩ = some u5 := by
  have hne : bb ≠ w.heap.size := Nat.ne_of_lt hbl
  have h1 : (w2.setCell ⟨bb, 1, none⟩ (.bool true)).heap[w.heap.size]? = some (.cells #[v0, v1, v2, v3, v4, v5] T (0, 0)) := by
    rw [Below.heap_setCell _ _ _ _ (Ne.symm hne)]; exact hX
  have h5 := blk_set (blk_set (blk_set (blk_set h1 2 u2) 3 u3) 4 u4) 5 u5
  refine ⟨((((hB2.set1 true).other hne).other hne).other hne).other hne, gb_other (gb_other (gb_other (gb_other (gb_set1 hg2) (Nat.le_refl _)) (Nat.le_refl _)) (Nat.le_refl _)) (Nat.le_refl _), lt_of_block h5, ?_, ?_, ?_, ?_⟩
  · exact blk_cell h5 2
  · exact blk_cell h5 3
  · exact blk_cell h5 4
  · exact blk_cell h5 5
set_option maxHeartbeats 40000000 in
set_option maxRecDepth 100000 in
theorem next_bad (f : Nat) (hN : NextC f) (dp k : Int) (op : ByteArray) (b c : Int) (l' : List Fa.Node) (w : World) (bb : Nat) (sv : Value) (wd : Bool) (hl : (⟨dp, 0, ⟨k, op, b, c⟩⟩ :: l' : List Fa.Node).length < f + 1) (hF : Fit (⟨dp, 0, ⟨k, op, b, c⟩⟩ :: l')) (h0 : 0 ≤ dp) (h1 : dp ≤ 1000) (hB : BAt w bb sv wd) (hR : Rd w bb sv (⟨dp, 0, ⟨k, op, b, c⟩⟩ :: l'))
    (hn : Fa.okName ⟨k, op, b, c⟩ = true) (hq : Fa.okNum ⟨k, op, b, c⟩ = false) : Calls Tryz.prog 39 #[.pointer (some ⟨bb, 0, none⟩), I64 dp] w (ResPost (Fa.tree (f + 1) dp (⟨dp, 0, ⟨k, op, b, c⟩⟩ :: l')) (⟨dp, 0, ⟨k, op, b, c⟩⟩ :: l') w bb wd) := by
  generalize hM : (fun e w' => ResPost (Fa.tree (f + 1) dp (⟨dp, 0, ⟨k, op, b, c⟩⟩ :: l')) (⟨dp, 0, ⟨k, op, b, c⟩⟩ :: l') w bb wd e w') = R
  have hM' : ResPost (Fa.tree (f + 1) dp (⟨dp, 0, ⟨k, op, b, c⟩⟩ :: l')) (⟨dp, 0, ⟨k, op, b, c⟩⟩ :: l') w bb wd = R := hM
  rw [hM']
  have HR : Hid (∀ e w', ResPost (Fa.tree (f + 1) dp (⟨dp, 0, ⟨k, op, b, c⟩⟩ :: l')) (⟨dp, 0, ⟨k, op, b, c⟩⟩ :: l') w bb wd e w' → R e w') := fun _ _ h => by rw [← hM']; exact h
  have HNone : Hid (∀ w', Fa.tree (f + 1) dp (⟨dp, 0, ⟨k, op, b, c⟩⟩ :: l') = none → w.grownBy w' (some bb) → R (.returned .nilIface) w') := fun w' h1 h2 => by rw [← hM', h1]; exact ⟨h2, rfl⟩
  clear hM hM'
  have hbl : bb < w.heap.size := lt_of_block hB
  have HBL := Lib.hid hbl
  obtain ⟨b0, b1, f0, f1⟩ := hB.cells
  rcases hR with ⟨a, cap, rfl, e⟩ | ⟨g, o, cap, rfl, hcap, hg, hgl, hc⟩
  · cases e
  have hz : ((((l'.length + 1 : Nat)) : Int) == 0) = false := by rw [beq_eq_false_iff_ne]; omega
  have c0 := hc 0 (by simp) 0 _ rfl
  have c1 := hc 0 (by simp) 1 _ rfl
  have c2 := hc 0 (by simp) 2 _ rfl
  have c3 := hc 0 (by simp) 3 _ rfl
  have c4 := hc 0 (by simp) 4 _ rfl
  have c5 := hc 0 (by simp) 5 _ rfl
  simp only [List.getElem_cons_zero, Nat.zero_mul, Nat.add_zero] at c0 c1 c2 c3 c4 c5
  have hRd : cap ≠ 1 → Rd w bb (.slice (some ⟨g, o + 6, none⟩) l'.length (cap - 1)) l' := fun h => .inr ⟨g, o + 6, cap - 1, rfl, by simp only [List.length_cons] at hcap; omega, hg, hgl, fun j hj i u hu => by
    have := hc (j + 1) (by simp; omega) i u (by simpa using hu)
    rw [show o + 6 + j * 6 + i = o + (j + 1) * 6 + i by omega]
    exact this⟩
  try dsimp only at c0 c1 c2 c3 c4 c5
  simp only [List.length_cons] at hcap hl
  have hfx := hF.2 _ (List.mem_cons_self)
  try dsimp only at hfx
  have hF' : Fit l' := ⟨by have := hF.1; simp only [List.length_cons] at this; omega, fun y hy => hF.2 y (List.mem_cons_of_mem _ hy)⟩
  have hlen : l'.length ≤ 39 := by have := hF.1; simp only [List.length_cons] at this; omega
  have HB := Lib.hid hB
  clear hB hc hF
  have hde : (dp != dp) = false := by simp
  have hje : ((0 : Int) != 0) = false := by decide
  have HCK : Hid (∀ w, Calls Tryz.prog 44 #[.agg #[I64 k, .string op, I64 b, I64 c]] w fun e w' => e = .returned (I64 7) ∧ Below w.heap.size w w') := fun w => by
    have h := check_any ⟨k, op, b, c⟩ w hfx.2
    rw [show checkE ⟨k, op, b, c⟩ = 7 from by simp [checkE, hn, hq]] at h
    exact h
  have hce : checkE ⟨1, op, 0, 0⟩ = 0 := by simp [checkE, show Fa.okName ⟨1, op, 0, 0⟩ = true from hn, Fa.okNum_one]
  have hfxx : Fa.fix ⟨k, op, b, c⟩ = ⟨1, op, 0, 0⟩ := by simp [Fa.fix, hq]
  have HWI := Lib.hid (show true = (wd || Fa.wideN ⟨dp, 0, ⟨k, op, b, c⟩⟩) from by simp [Fa.wideN, hq])
  have HWR : Hid (∀ w, Calls Tryz.prog 16 #[.agg #[I64 1, .string op, I64 0, I64 0], .nilIface] w fun e w' => ∃ z, e = .returned (.tuple #[linkPtr z, I64 0]) ∧ Below w.heap.size w w' ∧ Holds (fun u => w.heap.size ≤ u) w' (.link ⟨1, op, 0, 0⟩ .nil .nil) [valE (false, z)]) := fun w => wrap_ok_nil ⟨1, op, 0, 0⟩ w hfx.2 hce
  have HWS : Hid (∀ (B : Nat) (c' : Fa.F) (cv : Value) (w : World), Holds (fun u => B ≤ u) w c' [cv] → c'.nodes + 1 ≤ 40 → c'.hgt ≤ 12 → B ≤ w.heap.size → Calls Tryz.prog 16 #[.agg #[I64 1, .string op, I64 0, I64 0], cv] w fun e w' => ∃ z, e = .returned (.tuple #[linkPtr z, I64 0]) ∧ Below w.heap.size w w' ∧ Holds (fun u => B ≤ u) w' (.link ⟨1, op, 0, 0⟩ c' .nil) [valE (false, z)]) :=
    fun B c' cv w a1 a2 a3 a4 => wrap_ok B ⟨1, op, 0, 0⟩ c' cv w hfx.2 hce a1 a2 a3 a4
  have HTR : Hid (Fa.tree (f + 1) dp (⟨dp, 0, ⟨k, op, b, c⟩⟩ :: l') = if Fa.deeper dp l' then (match Fa.tree f (dp + 1) l' with
      | none => none
      | some (cc, rr) => some (.link ⟨1, op, 0, 0⟩ cc .nil, rr)) else some (.link ⟨1, op, 0, 0⟩ .nil .nil, l')) := by
    show _ = _
    rw [Fa.tree, if_pos rfl, if_pos rfl, if_pos hn]
    dsimp only
    rw [hfxx]
    rfl
  clear hn hq hce hfxx
  cases l' with
  | nil =>
    have HT := Lib.hid (HTR.out.trans (if_neg (by simp [Fa.deeper])))
    by_cases hc1 : cap = 1
    · subst hc1
      clear hN hF' hfx hRd
      go_enter Tryz.func39, Tryz.ntmps39
      go_wp2_with (first | (go_at_call 44; refine (HCK.out _).mono ?_; rintro e w2 ⟨rfl, hb2⟩; obtain ⟨hB2, hX2, hg2⟩ := w2_facts HB.out hb2; obtain ⟨d0, d1, d2, d3⟩ := hB2.cells; have HB2 := Lib.hid hB2; have HG2 := Lib.hid hg2; have x2 := blk_cell hX2 2; have x3 := blk_cell hX2 3; have x4 := blk_cell hX2 4; have x5 := blk_cell hX2 5; have y2 := blk_free hX2 2; have y3 := blk_free hX2 3; have y4 := blk_free hX2 4; have y5 := blk_free hX2 5; simp only [List.getElem?_toArray, List.getElem?_cons_succ, List.getElem?_cons_zero] at x2 x3 x4 x5; have HX2 := Lib.hid hX2; clear hB2 hX2 hg2 hb2) | (go_at_call 16; refine (HWR.out _).mono ?_; rintro e w3 ⟨b3, rfl, hb3, hh3⟩))
      refine HR.out _ _ ?_
      rw [HT.out]
      exact ResPost.leaf (bad_facts HB2.out HG2.out HBL.out HX2.out (I64 1) (.string op) (I64 0) (I64 0)).2.1 hb3 (bad_facts HB2.out HG2.out HBL.out HX2.out (I64 1) (.string op) (I64 0) (I64 0)).1 HWI.out (.inl ⟨_, _, rfl, rfl⟩) hh3
    · clear hN hF' hfx hRd
      go_enter Tryz.func39, Tryz.ntmps39
      go_wp2_with (first | (go_at_call 44; refine (HCK.out _).mono ?_; rintro e w2 ⟨rfl, hb2⟩; obtain ⟨hB2, hX2, hg2⟩ := w2_facts HB.out hb2; obtain ⟨d0, d1, d2, d3⟩ := hB2.cells; have HB2 := Lib.hid hB2; have HG2 := Lib.hid hg2; have x2 := blk_cell hX2 2; have x3 := blk_cell hX2 3; have x4 := blk_cell hX2 4; have x5 := blk_cell hX2 5; have y2 := blk_free hX2 2; have y3 := blk_free hX2 3; have y4 := blk_free hX2 4; have y5 := blk_free hX2 5; simp only [List.getElem?_toArray, List.getElem?_cons_succ, List.getElem?_cons_zero] at x2 x3 x4 x5; have HX2 := Lib.hid hX2; clear hB2 hX2 hg2 hb2) | (go_at_call 16; refine (HWR.out _).mono ?_; rintro e w3 ⟨b3, rfl, hb3, hh3⟩))
      refine HR.out _ _ ?_
      rw [HT.out]
      exact ResPost.leaf (bad_facts HB2.out HG2.out HBL.out HX2.out (I64 1) (.string op) (I64 0) (I64 0)).2.1 hb3 (bad_facts HB2.out HG2.out HBL.out HX2.out (I64 1) (.string op) (I64 0) (I64 0)).1 HWI.out (.inl ⟨_, _, rfl, rfl⟩) hh3
  | cons y l'' =>
    have hc1 : cap ≠ 1 := by simp only [List.length_cons] at hcap; omega
    have HRd := Lib.hid (hRd hc1)
    have HE0 : Hid (w.cell? ⟨g, o + 6, none⟩ = some (I64 y.depth)) := by
      rcases hRd hc1 with ⟨_, _, _, e⟩ | ⟨g', o', cap', e, _, _, _, hc'⟩
      · cases e
      · injection e with e1 _ _
        injection e1 with e2
        injection e2 with e3 e4
        subst e3; subst e4
        exact hc' 0 (by simp) 0 _ rfl
    have hpos : (0 : Int) < (((y :: l'').length : Nat) : Int) := by simp only [List.length_cons]; omega
    have hTK := Fa.tree_took f (dp + 1) (y :: l'')
    have HNX : Hid (∀ W1 sv1 q1, BAt W1 bb sv1 q1 → Rd W1 bb sv1 (y :: l'') → Calls Tryz.prog 39 #[.pointer (some ⟨bb, 0, none⟩), I64 (dp + 1)] W1 (ResPost (Fa.tree f (dp + 1) (y :: l'')) (y :: l'') W1 bb q1)) :=
      fun W1 sv1 q1 a1 a2 => hN (dp + 1) (y :: l'') W1 bb sv1 q1 (by omega) hF' (by omega) (by omega) a1 a2
    have HFF := Lib.hid hF'
    clear hRd hF' hN
    generalize hsv : (Value.slice (some ⟨g, o + 6, none⟩) (y :: l'').length (cap - 1)) = svx at HRd
    have HSV := Lib.hid hsv
    clear hsv
    by_cases hdp : dp < y.depth
    · cases hT : Fa.tree f (dp + 1) (y :: l'') with
      | none =>
        have HX := Lib.hid (HTR.out.trans ((if_pos (by simpa [Fa.deeper] using hdp)).trans (by rw [hT])))
        rw [hT] at HNX
        clear hT hTK hfx
        go_enter Tryz.func39, Tryz.ntmps39
        go_wp2_with (first | (go_at_call 44; refine (HCK.out _).mono ?_; rintro e w2 ⟨rfl, hb2⟩; obtain ⟨hB2, hX2, hg2⟩ := w2_facts HB.out hb2; obtain ⟨d0, d1, d2, d3⟩ := hB2.cells; have HB2 := Lib.hid hB2; have HG2 := Lib.hid hg2; have x2 := blk_cell hX2 2; have x3 := blk_cell hX2 3; have x4 := blk_cell hX2 4; have x5 := blk_cell hX2 5; have y2 := blk_free hX2 2; have y3 := blk_free hX2 3; have y4 := blk_free hX2 4; have y5 := blk_free hX2 5; simp only [List.getElem?_toArray, List.getElem?_cons_succ, List.getElem?_cons_zero] at x2 x3 x4 x5; have e0 := (gb_cell' (i := o + 6) hg2 hgl (fun e => by injection e with e; omega)).trans HE0.out; have HX2 := Lib.hid hX2; clear hB2 hX2 hg2 hb2) | (go_at_call 39; refine (HNX.out _ _ _ (bad_facts HB2.out HG2.out HBL.out HX2.out (I64 1) (.string op) (I64 0) (I64 0)).1 (by have h := HRd.out.grown (bad_facts HB2.out HG2.out HBL.out HX2.out (I64 1) (.string op) (I64 0) (I64 0)).2.1; rw [← HSV.out] at h; exact h)).mono ?_; rintro e w3 ⟨hg3, rfl⟩))
        exact HNone.out _ HX.out (gb_trans (bad_facts HB2.out HG2.out HBL.out HX2.out (I64 1) (.string op) (I64 0) (I64 0)).2.1 hg3)
      | some cr =>
        obtain ⟨c', r⟩ := cr
        have HT := Lib.hid (HTR.out.trans ((if_pos (by simpa [Fa.deeper] using hdp)).trans (by rw [hT])))
        have hTT := hTK c' r hT
        have hn39 : c'.nodes + 1 ≤ 40 := by
          obtain ⟨pp, e1, e2, _⟩ := hTT.part
          have e3 := congrArg List.length e1
          rw [List.length_append] at e3
          omega
        have hh12 : c'.hgt ≤ 12 := by
          have := hTT.deep (fun z hz => (HFF.out.2 z hz).1) (fun e => by have := hTT.len; rw [e] at this; exact absurd this (by decide))
          omega
        rw [hT] at HNX
        clear hT hTK hTT hfx
        go_enter Tryz.func39, Tryz.ntmps39
        go_wp2_with (first | (go_at_call 44; refine (HCK.out _).mono ?_; rintro e w2 ⟨rfl, hb2⟩; obtain ⟨hB2, hX2, hg2⟩ := w2_facts HB.out hb2; obtain ⟨d0, d1, d2, d3⟩ := hB2.cells; have HB2 := Lib.hid hB2; have HG2 := Lib.hid hg2; have x2 := blk_cell hX2 2; have x3 := blk_cell hX2 3; have x4 := blk_cell hX2 4; have x5 := blk_cell hX2 5; have y2 := blk_free hX2 2; have y3 := blk_free hX2 3; have y4 := blk_free hX2 4; have y5 := blk_free hX2 5; simp only [List.getElem?_toArray, List.getElem?_cons_succ, List.getElem?_cons_zero] at x2 x3 x4 x5; have e0 := (gb_cell' (i := o + 6) hg2 hgl (fun e => by injection e with e; omega)).trans HE0.out; have HX2 := Lib.hid hX2; clear hB2 hX2 hg2 hb2) | (go_at_call 39; refine (HNX.out _ _ _ (bad_facts HB2.out HG2.out HBL.out HX2.out (I64 1) (.string op) (I64 0) (I64 0)).1 (by have h := HRd.out.grown (bad_facts HB2.out HG2.out HBL.out HX2.out (I64 1) (.string op) (I64 0) (I64 0)).2.1; rw [← HSV.out] at h; exact h)).mono ?_; rintro e w3 hres; obtain ⟨p3, sv3, rf, he, hp3, hh3, _⟩ := hres.2; subst he; have HW3 := Lib.hid (HWS.out _ c' (valE rf) w3 hh3 hn39 hh12 hres.1.size); have HRES := Lib.hid hres; have z2 : w3.cell? ⟨w.heap.size, 2, none⟩ = some (I64 1) := (gb_cell' hres.1 (bad_facts HB2.out HG2.out HBL.out HX2.out (I64 1) (.string op) (I64 0) (I64 0)).2.2.1 (fun e => by injection e with e; have := HBL.out; omega)).trans (bad_facts HB2.out HG2.out HBL.out HX2.out (I64 1) (.string op) (I64 0) (I64 0)).2.2.2.1; have z3 : w3.cell? ⟨w.heap.size, 3, none⟩ = some (.string op) := (gb_cell' hres.1 (bad_facts HB2.out HG2.out HBL.out HX2.out (I64 1) (.string op) (I64 0) (I64 0)).2.2.1 (fun e => by injection e with e; have := HBL.out; omega)).trans (bad_facts HB2.out HG2.out HBL.out HX2.out (I64 1) (.string op) (I64 0) (I64 0)).2.2.2.2.1; have z4 : w3.cell? ⟨w.heap.size, 4, none⟩ = some (I64 0) := (gb_cell' hres.1 (bad_facts HB2.out HG2.out HBL.out HX2.out (I64 1) (.string op) (I64 0) (I64 0)).2.2.1 (fun e => by injection e with e; have := HBL.out; omega)).trans (bad_facts HB2.out HG2.out HBL.out HX2.out (I64 1) (.string op) (I64 0) (I64 0)).2.2.2.2.2.1; have z5 : w3.cell? ⟨w.heap.size, 5, none⟩ = some (I64 0) := (gb_cell' hres.1 (bad_facts HB2.out HG2.out HBL.out HX2.out (I64 1) (.string op) (I64 0) (I64 0)).2.2.1 (fun e => by injection e with e; have := HBL.out; omega)).trans (bad_facts HB2.out HG2.out HBL.out HX2.out (I64 1) (.string op) (I64 0) (I64 0)).2.2.2.2.2.2;  clear hp3 hh3 hres; obtain ⟨ty, pv, hty⟩ := valE_iface rf; rw [hty] at HW3 ⊢; clear hty) | (go_at_call 16; refine HW3.out.mono ?_; rintro e w4 ⟨b4, rfl, hb4, hh4⟩))
        refine HR.out _ _ ?_
        rw [HT.out]
        exact ResPost.link (bad_facts HB2.out HG2.out HBL.out HX2.out (I64 1) (.string op) (I64 0) (I64 0)).2.1 HRES.out HWI.out hb4 hh4
    · have HT := Lib.hid (HTR.out.trans (if_neg (by simpa [Fa.deeper] using hdp)))
      clear hTK hfx
      go_enter Tryz.func39, Tryz.ntmps39
      go_wp2_with (first | (go_at_call 44; refine (HCK.out _).mono ?_; rintro e w2 ⟨rfl, hb2⟩; obtain ⟨hB2, hX2, hg2⟩ := w2_facts HB.out hb2; obtain ⟨d0, d1, d2, d3⟩ := hB2.cells; have HB2 := Lib.hid hB2; have HG2 := Lib.hid hg2; have x2 := blk_cell hX2 2; have x3 := blk_cell hX2 3; have x4 := blk_cell hX2 4; have x5 := blk_cell hX2 5; have y2 := blk_free hX2 2; have y3 := blk_free hX2 3; have y4 := blk_free hX2 4; have y5 := blk_free hX2 5; simp only [List.getElem?_toArray, List.getElem?_cons_succ, List.getElem?_cons_zero] at x2 x3 x4 x5; have e0 := (gb_cell' (i := o + 6) hg2 hgl (fun e => by injection e with e; omega)).trans HE0.out; have HX2 := Lib.hid hX2; clear hB2 hX2 hg2 hb2) | (go_at_call 16; refine (HWR.out _).mono ?_; rintro e w3 ⟨b3, rfl, hb3, hh3⟩))
      refine HR.out _ _ ?_
      rw [HT.out]
      exact ResPost.leaf (bad_facts HB2.out HG2.out HBL.out HX2.out (I64 1) (.string op) (I64 0) (I64 0)).2.1 hb3 (bad_facts HB2.out HG2.out HBL.out HX2.out (I64 1) (.string op) (I64 0) (I64 0)).1 HWI.out (by have h := HRd.out.grown (bad_facts HB2.out HG2.out HBL.out HX2.out (I64 1) (.string op) (I64 0) (I64 0)).2.1; rw [← HSV.out] at h; exact h) hh3
end Go.Proofs.YtgnhbccmdpkbiaaGreatDoor
