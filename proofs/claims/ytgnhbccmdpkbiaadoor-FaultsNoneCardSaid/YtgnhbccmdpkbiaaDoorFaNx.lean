/-
  Walks for layer 3 (faults): the builder's next.
-/
import Derived.Test.YtgnhbccmdpkbiaaDoorFaw3
import Derived.WalkSpells
namespace Go.Proofs.YtgnhbccmdpkbiaaDoor
open Go.RowKit

theorem BAt.set0 {w : World} {bb : Nat} {sv : Value} {wd : Bool} (h : BAt w bb sv wd) (v : Value) : BAt (w.setCell ⟨bb, 0, none⟩ v) bb v wd := by
  have := blk_set h 0 v
  exact this
theorem BAt.set1 {w : World} {bb : Nat} {sv : Value} {wd : Bool} (h : BAt w bb sv wd) (q : Bool) : BAt (w.setCell ⟨bb, 1, none⟩ (.bool q)) bb sv q := by
  have := blk_set h 1 (.bool q)
  exact this
theorem BAt.cells {w : World} {bb : Nat} {sv : Value} {wd : Bool} (h : BAt w bb sv wd) : w.cell? ⟨bb, 0, none⟩ = some sv ∧ w.cell? ⟨bb, 1, none⟩ = some (.bool wd) ∧ w.frozen? ⟨bb, 0, none⟩ = false ∧ w.frozen? ⟨bb, 1, none⟩ = false :=
  ⟨blk_cell h 0, blk_cell h 1, blk_free h 0, blk_free h 1⟩

theorem BAt.other {w : World} {bb X i : Nat} {sv : Value} {wd : Bool} {u : Value} (h : BAt w bb sv wd) (hne : bb ≠ X) : BAt (w.setCell ⟨X, i, none⟩ u) bb sv wd := by
  unfold BAt
  rw [Below.heap_setCell _ _ _ _ hne]
  exact h
theorem gb_other {w w1 : World} {bb X i : Nat} {u : Value} (h : w.grownBy w1 (some bb)) (hX : w.heap.size ≤ X) : w.grownBy (w1.setCell ⟨X, i, none⟩ u) (some bb) :=
  gb_own h (gb_set w1 X i u) (fun k hk => by injection hk with e; omega)
theorem gb_set1 {w w1 : World} {bb i : Nat} {u : Value} (h : w.grownBy w1 (some bb)) : w.grownBy (w1.setCell ⟨bb, i, none⟩ u) (some bb) := gb_trans h (gb_set w1 bb i u)
theorem ResPost.ret {res : Option (Fa.F × List Fa.Node)} {l : List Fa.Node} {w w' : World} {bb : Nat} {wd : Bool} {e : Ending} (h : ResPost res l w bb wd e w') : ∃ v, e = .returned v := by
  cases res with
  | none => exact ⟨_, h.2⟩
  | some p => obtain ⟨p, sv, rf, h1, _⟩ := h.2; exact ⟨_, h1⟩
theorem ResPost.cons {res : Option (Fa.F × List Fa.Node)} {l : List Fa.Node} {w w1 w' : World} {bb : Nat} {wd : Bool} {e : Ending} {x : Fa.Node} (h : ResPost res l w1 bb wd e w') (hg : w.grownBy w1 (some bb)) (hx : Fa.wideN x = false) : ResPost res (x :: l) w bb wd e w' := by
  refine ⟨gb_trans hg h.1, ?_⟩
  cases res with
  | none => exact h.2
  | some p =>
    obtain ⟨p, sv, rf, h1, h2, h3, h4, h5⟩ := h.2
    exact ⟨x :: p, sv, rf, h1, by rw [h2]; rfl, h3.mono (fun b h _ => Nat.le_trans hg.size h), by rw [List.any_cons, hx, Bool.false_or]; exact h4, h5⟩
/-- A link without a cause. -/
theorem ResPost.leaf {l : List Fa.Node} {w w1 w' : World} {bb b : Nat} {wd q : Bool} {sv : Value} {x : Fa.Node} {y : Fa.Link} (hg : w.grownBy w1 (some bb)) (hb : Below w1.heap.size w1 w') (hB : BAt w1 bb sv q) (hq : q = (wd || Fa.wideN x)) (hR : Rd w1 bb sv l)
    (hh : Holds (fun b => w1.heap.size ≤ b) w' (.link y .nil .nil) [valE (false, b)]) : ResPost (some (.link y .nil .nil, l)) (x :: l) w bb wd (.returned (linkPtr b)) w' :=
  ⟨gb_trans hg (gb_below hb), [x], sv, (false, b), rfl, rfl, hh.mono (fun b h _ => Nat.le_trans hg.size h), by rw [List.any_cons, List.any_nil, Bool.or_false, ← hq]; exact hB.grown (gb_below (r := none) hb) (by simp), hR.grown (gb_below hb)⟩
/-- A link with a cause. -/
theorem ResPost.link {l r : List Fa.Node} {w w1 w2 w' : World} {bb b : Nat} {wd q : Bool} {e : Ending} {x : Fa.Node} {y : Fa.Link} {c : Fa.F} (hg : w.grownBy w1 (some bb)) (h : ResPost (some (c, r)) l w1 bb q e w2) (hq : q = (wd || Fa.wideN x)) (hb : Below w2.heap.size w2 w')
    (hh : Holds (fun b => w1.heap.size ≤ b) w' (.link y c .nil) [valE (false, b)]) : ResPost (some (.link y c .nil, r)) (x :: l) w bb wd (.returned (linkPtr b)) w' := by
  obtain ⟨p, sv, rf, h1, h2, h3, h4, h5⟩ := h.2
  refine ⟨gb_trans (gb_trans hg h.1) (gb_below hb), x :: p, sv, (false, b), rfl, by rw [h2]; rfl, hh.mono (fun b h _ => Nat.le_trans hg.size h), ?_, h5.grown (gb_below hb)⟩
  rw [List.any_cons, ← Bool.or_assoc, ← hq]
  exact h4.grown (gb_below (r := none) hb) (by simp)
theorem wrap_ok_nil (x : Fa.Link) (w : World) (hs : x.op.size ≤ maxLen) (hc : checkE x = 0) : Calls Tryd.prog 10 #[valLink x, .nilIface] w fun e w' => ∃ b, e = .returned (.tuple #[linkPtr b, I64 0]) ∧ Below w.heap.size w w' ∧ Holds (fun b => w.heap.size ≤ b) w' (.link x .nil .nil) [valE (false, b)] := by
  refine (wrap_nil x w hs).mono ?_
  rintro e w' ⟨_, h2, h3⟩
  obtain ⟨b, h4, h5, h6⟩ := h2 (by unfold wrapE; rw [if_pos hc]; rfl)
  exact ⟨b, h4, h3, b, .nilIface, [], [], rfl, h5, h6, rfl, .inl ⟨rfl, rfl⟩, rfl⟩
theorem wrap_ok (B : Nat) (x : Fa.Link) (c : Fa.F) (cv : Value) (w : World) (hs : x.op.size ≤ maxLen) (hc : checkE x = 0) (h : Holds (fun b => B ≤ b) w c [cv]) (hn : c.nodes + 1 ≤ 40) (hh : c.hgt ≤ 12) (hB : B ≤ w.heap.size) :
    Calls Tryd.prog 10 #[valLink x, cv] w fun e w' => ∃ b, e = .returned (.tuple #[linkPtr b, I64 0]) ∧ Below w.heap.size w w' ∧ Holds (fun b => B ≤ b) w' (.link x c .nil) [valE (false, b)] := by
  refine (wrap_some _ x c cv w hs h (by omega)).mono ?_
  rintro e w' ⟨_, h2, h3⟩
  obtain ⟨b, h4, h5, h6⟩ := h2 (by unfold wrapE; rw [if_pos hc, if_neg (by omega)])
  exact ⟨b, h4, h3, b, cv, [cv], [], rfl, Nat.le_trans hB h5, h6, h.below h3, .inr rfl, rfl⟩
theorem w2_facts {w w2 : World} {bb : Nat} {sv sv' : Value} {wd : Bool} {cs : Array Value} {T : TypeId} (hB : BAt w bb sv wd) (hb2 : Below ((w.setCell ⟨bb, 0, none⟩ sv').alloc (.cells cs T)).heap.size ((w.setCell ⟨bb, 0, none⟩ sv').alloc (.cells cs T)) w2) :
    BAt w2 bb sv' wd ∧ w2.heap[w.heap.size]? = some (.cells cs T (0, 0)) ∧ w.grownBy w2 (some bb) := by
  have h1 := (hB.set0 sv').grown (gb_alloc _ (.cells cs T) none) (by simp)
  refine ⟨h1.grown (gb_below (r := none) hb2) (by simp), ?_, gb_trans (gb_trans (gb_set w bb 0 sv') (gb_alloc _ (.cells cs T) _)) (gb_below hb2)⟩
  have h2 := blk_new (w.setCell ⟨bb, 0, none⟩ sv') (.cells cs T)
  have h3 : (w.setCell ⟨bb, 0, none⟩ sv').heap.size = w.heap.size := by simp [World.setCell]
  rw [h3] at h2
  rw [hb2.block w.heap.size (by simp [World.setCell])]
  exact h2

end Go.Proofs.YtgnhbccmdpkbiaaDoor
namespace Go.Proofs.YtgnhbccmdpkbiaaDoor
open Go.RowKit

set_option maxHeartbeats 40000000 in
set_option maxRecDepth 100000 in
theorem next_ok (f : Nat) (hN : NextC f) (dp k : Int) (op : ByteArray) (b c : Int) (l' : List Fa.Node) (w : World) (bb : Nat) (sv : Value) (wd : Bool) (hl : (⟨dp, 0, ⟨k, op, b, c⟩⟩ :: l' : List Fa.Node).length < f + 1) (hF : Fit (⟨dp, 0, ⟨k, op, b, c⟩⟩ :: l')) (h0 : 0 ≤ dp) (h1 : dp ≤ 1000) (hB : BAt w bb sv wd) (hR : Rd w bb sv (⟨dp, 0, ⟨k, op, b, c⟩⟩ :: l'))
    (hn : Fa.okName ⟨k, op, b, c⟩ = true) (hq : Fa.okNum ⟨k, op, b, c⟩ = true) : Calls Tryd.prog 31 #[.pointer (some ⟨bb, 0, none⟩), I64 dp] w (ResPost (Fa.tree (f + 1) dp (⟨dp, 0, ⟨k, op, b, c⟩⟩ :: l')) (⟨dp, 0, ⟨k, op, b, c⟩⟩ :: l') w bb wd) := by
  generalize hM : (fun e w' => ResPost (Fa.tree (f + 1) dp (⟨dp, 0, ⟨k, op, b, c⟩⟩ :: l')) (⟨dp, 0, ⟨k, op, b, c⟩⟩ :: l') w bb wd e w') = R
  have hM' : ResPost (Fa.tree (f + 1) dp (⟨dp, 0, ⟨k, op, b, c⟩⟩ :: l')) (⟨dp, 0, ⟨k, op, b, c⟩⟩ :: l') w bb wd = R := hM
  rw [hM']
  have HR : Hid (∀ e w', ResPost (Fa.tree (f + 1) dp (⟨dp, 0, ⟨k, op, b, c⟩⟩ :: l')) (⟨dp, 0, ⟨k, op, b, c⟩⟩ :: l') w bb wd e w' → R e w') := fun _ _ h => by rw [← hM']; exact h
  have HNone : Hid (∀ w', Fa.tree (f + 1) dp (⟨dp, 0, ⟨k, op, b, c⟩⟩ :: l') = none → w.grownBy w' (some bb) → R (.returned .nilIface) w') := fun w' h1 h2 => by rw [← hM', h1]; exact ⟨h2, rfl⟩
  clear hM hM'
  have hbl : bb < w.heap.size := lt_of_block hB
  have HBL := Lib.hid hbl
  obtain ⟨b0, b1, f0, f1⟩ := hB.cells
  rcases hR with ⟨a, cap, rfl, e⟩ | ⟨g, o, cap, rfl, hcap, hg, hgl, hc⟩
  · cases e
  have hz : ((((l'.length + 1 : Nat)) : Int) == 0) = false := by rw [beq_eq_false_iff_ne]; omega
  have c0 := hc 0 (by simp) 0 _ rfl
  have c1 := hc 0 (by simp) 1 _ rfl
  have c2 := hc 0 (by simp) 2 _ rfl
  have c3 := hc 0 (by simp) 3 _ rfl
  have c4 := hc 0 (by simp) 4 _ rfl
  have c5 := hc 0 (by simp) 5 _ rfl
  simp only [List.getElem_cons_zero, Nat.zero_mul, Nat.add_zero] at c0 c1 c2 c3 c4 c5
  have hRd : cap ≠ 1 → Rd w bb (.slice (some ⟨g, o + 6, none⟩) l'.length (cap - 1)) l' := fun h => .inr ⟨g, o + 6, cap - 1, rfl, by simp only [List.length_cons] at hcap; omega, hg, hgl, fun j hj i u hu => by
    have := hc (j + 1) (by simp; omega) i u (by simpa using hu)
    rw [show o + 6 + j * 6 + i = o + (j + 1) * 6 + i by omega]
    exact this⟩
  try dsimp only at c0 c1 c2 c3 c4 c5
  simp only [List.length_cons] at hcap hl
  have hfx := hF.2 _ (List.mem_cons_self)
  try dsimp only at hfx
  have hF' : Fit l' := ⟨by have := hF.1; simp only [List.length_cons] at this; omega, fun y hy => hF.2 y (List.mem_cons_of_mem _ hy)⟩
  have hlen : l'.length ≤ 39 := by have := hF.1; simp only [List.length_cons] at this; omega
  have HB := Lib.hid hB
  clear hB hc hF
  have hde : (dp != dp) = false := by simp
  have hje : ((0 : Int) != 0) = false := by decide
  have HCK : Hid (∀ w, Calls Tryd.prog 29 #[.agg #[I64 k, .string op, I64 b, I64 c]] w fun e w' => e = .returned (I64 0) ∧ Below w.heap.size w w') := fun w => by
    have h := check_any ⟨k, op, b, c⟩ w hfx.2
    rw [show checkE ⟨k, op, b, c⟩ = 0 from by simp [checkE, hn, hq]] at h
    exact h
  have hce : checkE ⟨k, op, b, c⟩ = 0 := by simp [checkE, hn, hq]
  have hfxx : Fa.fix ⟨k, op, b, c⟩ = ⟨k, op, b, c⟩ := by simp [Fa.fix, hq]
  have HWI := Lib.hid (show wd = (wd || Fa.wideN ⟨dp, 0, ⟨k, op, b, c⟩⟩) from by simp [Fa.wideN, hq])
  have HWR : Hid (∀ w, Calls Tryd.prog 10 #[.agg #[I64 k, .string op, I64 b, I64 c], .nilIface] w fun e w' => ∃ z, e = .returned (.tuple #[linkPtr z, I64 0]) ∧ Below w.heap.size w w' ∧ Holds (fun u => w.heap.size ≤ u) w' (.link ⟨k, op, b, c⟩ .nil .nil) [valE (false, z)]) := fun w => wrap_ok_nil ⟨k, op, b, c⟩ w hfx.2 hce
  have HWS : Hid (∀ (B : Nat) (c' : Fa.F) (cv : Value) (w : World), Holds (fun u => B ≤ u) w c' [cv] → c'.nodes + 1 ≤ 40 → c'.hgt ≤ 12 → B ≤ w.heap.size → Calls Tryd.prog 10 #[.agg #[I64 k, .string op, I64 b, I64 c], cv] w fun e w' => ∃ z, e = .returned (.tuple #[linkPtr z, I64 0]) ∧ Below w.heap.size w w' ∧ Holds (fun u => B ≤ u) w' (.link ⟨k, op, b, c⟩ c' .nil) [valE (false, z)]) :=
    fun B c' cv w a1 a2 a3 a4 => wrap_ok B ⟨k, op, b, c⟩ c' cv w hfx.2 hce a1 a2 a3 a4
  have HTR : Hid (Fa.tree (f + 1) dp (⟨dp, 0, ⟨k, op, b, c⟩⟩ :: l') = if Fa.deeper dp l' then (match Fa.tree f (dp + 1) l' with
      | none => none
      | some (cc, rr) => some (.link ⟨k, op, b, c⟩ cc .nil, rr)) else some (.link ⟨k, op, b, c⟩ .nil .nil, l')) := by
    show _ = _
    rw [Fa.tree, if_pos rfl, if_pos rfl, if_pos hn]
    dsimp only
    rw [hfxx]
    rfl
  clear hn hq hce hfxx
  cases l' with
  | nil =>
    have HT := Lib.hid (HTR.out.trans (if_neg (by simp [Fa.deeper])))
    by_cases hc1 : cap = 1
    · subst hc1
      clear hN hF' hfx hRd
      go_enter Tryd.func31, Tryd.ntmps31
      go_wp2_with (first | (go_at_call 29; refine (HCK.out _).mono ?_; rintro e w2 ⟨rfl, hb2⟩; obtain ⟨hB2, hX2, hg2⟩ := w2_facts HB.out hb2; obtain ⟨d0, d1, d2, d3⟩ := hB2.cells; have HB2 := Lib.hid hB2; have HG2 := Lib.hid hg2; have x2 := blk_cell hX2 2; have x3 := blk_cell hX2 3; have x4 := blk_cell hX2 4; have x5 := blk_cell hX2 5; have y2 := blk_free hX2 2; have y3 := blk_free hX2 3; have y4 := blk_free hX2 4; have y5 := blk_free hX2 5; simp only [List.getElem?_toArray, List.getElem?_cons_succ, List.getElem?_cons_zero] at x2 x3 x4 x5; have HX2 := Lib.hid hX2; clear hB2 hX2 hg2 hb2) | (go_at_call 10; refine (HWR.out _).mono ?_; rintro e w3 ⟨b3, rfl, hb3, hh3⟩))
      refine HR.out _ _ ?_
      rw [HT.out]
      exact ResPost.leaf HG2.out hb3 HB2.out HWI.out (.inl ⟨_, _, rfl, rfl⟩) hh3
    · clear hN hF' hfx hRd
      go_enter Tryd.func31, Tryd.ntmps31
      go_wp2_with (first | (go_at_call 29; refine (HCK.out _).mono ?_; rintro e w2 ⟨rfl, hb2⟩; obtain ⟨hB2, hX2, hg2⟩ := w2_facts HB.out hb2; obtain ⟨d0, d1, d2, d3⟩ := hB2.cells; have HB2 := Lib.hid hB2; have HG2 := Lib.hid hg2; have x2 := blk_cell hX2 2; have x3 := blk_cell hX2 3; have x4 := blk_cell hX2 4; have x5 := blk_cell hX2 5; have y2 := blk_free hX2 2; have y3 := blk_free hX2 3; have y4 := blk_free hX2 4; have y5 := blk_free hX2 5; simp only [List.getElem?_toArray, List.getElem?_cons_succ, List.getElem?_cons_zero] at x2 x3 x4 x5; have HX2 := Lib.hid hX2; clear hB2 hX2 hg2 hb2) | (go_at_call 10; refine (HWR.out _).mono ?_; rintro e w3 ⟨b3, rfl, hb3, hh3⟩))
      refine HR.out _ _ ?_
      rw [HT.out]
      exact ResPost.leaf HG2.out hb3 HB2.out HWI.out (.inl ⟨_, _, rfl, rfl⟩) hh3
  | cons y l'' =>
    have hc1 : cap ≠ 1 := by simp only [List.length_cons] at hcap; omega
    have HRd := Lib.hid (hRd hc1)
    have HE0 : Hid (w.cell? ⟨g, o + 6, none⟩ = some (I64 y.depth)) := by
      rcases hRd hc1 with ⟨_, _, _, e⟩ | ⟨g', o', cap', e, _, _, _, hc'⟩
      · cases e
      · injection e with e1 _ _
        injection e1 with e2
        injection e2 with e3 e4
        subst e3; subst e4
        exact hc' 0 (by simp) 0 _ rfl
    have hpos : (0 : Int) < (((y :: l'').length : Nat) : Int) := by simp only [List.length_cons]; omega
    have hTK := Fa.tree_took f (dp + 1) (y :: l'')
    have HNX : Hid (∀ W1 sv1 q1, BAt W1 bb sv1 q1 → Rd W1 bb sv1 (y :: l'') → Calls Tryd.prog 31 #[.pointer (some ⟨bb, 0, none⟩), I64 (dp + 1)] W1 (ResPost (Fa.tree f (dp + 1) (y :: l'')) (y :: l'') W1 bb q1)) :=
      fun W1 sv1 q1 a1 a2 => hN (dp + 1) (y :: l'') W1 bb sv1 q1 (by omega) hF' (by omega) (by omega) a1 a2
    have HFF := Lib.hid hF'
    clear hRd hF' hN
    generalize hsv : (Value.slice (some ⟨g, o + 6, none⟩) (y :: l'').length (cap - 1)) = svx at HRd
    have HSV := Lib.hid hsv
    clear hsv
    by_cases hdp : dp < y.depth
    · cases hT : Fa.tree f (dp + 1) (y :: l'') with
      | none =>
        have HX := Lib.hid (HTR.out.trans ((if_pos (by simpa [Fa.deeper] using hdp)).trans (by rw [hT])))
        rw [hT] at HNX
        clear hT hTK hfx
        go_enter Tryd.func31, Tryd.ntmps31
        go_wp2_with (first | (go_at_call 29; refine (HCK.out _).mono ?_; rintro e w2 ⟨rfl, hb2⟩; obtain ⟨hB2, hX2, hg2⟩ := w2_facts HB.out hb2; obtain ⟨d0, d1, d2, d3⟩ := hB2.cells; have HB2 := Lib.hid hB2; have HG2 := Lib.hid hg2; have x2 := blk_cell hX2 2; have x3 := blk_cell hX2 3; have x4 := blk_cell hX2 4; have x5 := blk_cell hX2 5; have y2 := blk_free hX2 2; have y3 := blk_free hX2 3; have y4 := blk_free hX2 4; have y5 := blk_free hX2 5; simp only [List.getElem?_toArray, List.getElem?_cons_succ, List.getElem?_cons_zero] at x2 x3 x4 x5; have e0 := (gb_cell' (i := o + 6) hg2 hgl (fun e => by injection e with e; omega)).trans HE0.out; have HX2 := Lib.hid hX2; clear hB2 hX2 hg2 hb2) | (go_at_call 31; refine (HNX.out _ _ _ HB2.out (by have h := HRd.out.grown HG2.out; rw [← HSV.out] at h; exact h)).mono ?_; rintro e w3 ⟨hg3, rfl⟩))
        exact HNone.out _ HX.out (gb_trans HG2.out hg3)
      | some cr =>
        obtain ⟨c', r⟩ := cr
        have HT := Lib.hid (HTR.out.trans ((if_pos (by simpa [Fa.deeper] using hdp)).trans (by rw [hT])))
        have hTT := hTK c' r hT
        have hn39 : c'.nodes + 1 ≤ 40 := by
          obtain ⟨pp, e1, e2, _⟩ := hTT.part
          have e3 := congrArg List.length e1
          rw [List.length_append] at e3
          omega
        have hh12 : c'.hgt ≤ 12 := by
          have := hTT.deep (fun z hz => (HFF.out.2 z hz).1) (fun e => by have := hTT.len; rw [e] at this; exact absurd this (by decide))
          omega
        rw [hT] at HNX
        clear hT hTK hTT hfx
        go_enter Tryd.func31, Tryd.ntmps31
        go_wp2_with (first | (go_at_call 29; refine (HCK.out _).mono ?_; rintro e w2 ⟨rfl, hb2⟩; obtain ⟨hB2, hX2, hg2⟩ := w2_facts HB.out hb2; obtain ⟨d0, d1, d2, d3⟩ := hB2.cells; have HB2 := Lib.hid hB2; have HG2 := Lib.hid hg2; have x2 := blk_cell hX2 2; have x3 := blk_cell hX2 3; have x4 := blk_cell hX2 4; have x5 := blk_cell hX2 5; have y2 := blk_free hX2 2; have y3 := blk_free hX2 3; have y4 := blk_free hX2 4; have y5 := blk_free hX2 5; simp only [List.getElem?_toArray, List.getElem?_cons_succ, List.getElem?_cons_zero] at x2 x3 x4 x5; have e0 := (gb_cell' (i := o + 6) hg2 hgl (fun e => by injection e with e; omega)).trans HE0.out; have HX2 := Lib.hid hX2; clear hB2 hX2 hg2 hb2) | (go_at_call 31; refine (HNX.out _ _ _ HB2.out (by have h := HRd.out.grown HG2.out; rw [← HSV.out] at h; exact h)).mono ?_; rintro e w3 hres; obtain ⟨p3, sv3, rf, he, hp3, hh3, _⟩ := hres.2; subst he; have HW3 := Lib.hid (HWS.out _ c' (valE rf) w3 hh3 hn39 hh12 hres.1.size); have HRES := Lib.hid hres; have z2 : w3.cell? ⟨w.heap.size, 2, none⟩ = some (I64 k) := (gb_cell' hres.1 (lt_of_block HX2.out) (fun e => by injection e with e; have := HBL.out; omega)).trans x2; have z3 : w3.cell? ⟨w.heap.size, 3, none⟩ = some (.string op) := (gb_cell' hres.1 (lt_of_block HX2.out) (fun e => by injection e with e; have := HBL.out; omega)).trans x3; have z4 : w3.cell? ⟨w.heap.size, 4, none⟩ = some (I64 b) := (gb_cell' hres.1 (lt_of_block HX2.out) (fun e => by injection e with e; have := HBL.out; omega)).trans x4; have z5 : w3.cell? ⟨w.heap.size, 5, none⟩ = some (I64 c) := (gb_cell' hres.1 (lt_of_block HX2.out) (fun e => by injection e with e; have := HBL.out; omega)).trans x5;  clear hp3 hh3 hres; obtain ⟨ty, pv, hty⟩ := valE_iface rf; rw [hty] at HW3 ⊢; clear hty) | (go_at_call 10; refine HW3.out.mono ?_; rintro e w4 ⟨b4, rfl, hb4, hh4⟩))
        refine HR.out _ _ ?_
        rw [HT.out]
        exact ResPost.link HG2.out HRES.out HWI.out hb4 hh4
    · have HT := Lib.hid (HTR.out.trans (if_neg (by simpa [Fa.deeper] using hdp)))
      clear hTK hfx
      go_enter Tryd.func31, Tryd.ntmps31
      go_wp2_with (first | (go_at_call 29; refine (HCK.out _).mono ?_; rintro e w2 ⟨rfl, hb2⟩; obtain ⟨hB2, hX2, hg2⟩ := w2_facts HB.out hb2; obtain ⟨d0, d1, d2, d3⟩ := hB2.cells; have HB2 := Lib.hid hB2; have HG2 := Lib.hid hg2; have x2 := blk_cell hX2 2; have x3 := blk_cell hX2 3; have x4 := blk_cell hX2 4; have x5 := blk_cell hX2 5; have y2 := blk_free hX2 2; have y3 := blk_free hX2 3; have y4 := blk_free hX2 4; have y5 := blk_free hX2 5; simp only [List.getElem?_toArray, List.getElem?_cons_succ, List.getElem?_cons_zero] at x2 x3 x4 x5; have e0 := (gb_cell' (i := o + 6) hg2 hgl (fun e => by injection e with e; omega)).trans HE0.out; have HX2 := Lib.hid hX2; clear hB2 hX2 hg2 hb2) | (go_at_call 10; refine (HWR.out _).mono ?_; rintro e w3 ⟨b3, rfl, hb3, hh3⟩))
      refine HR.out _ _ ?_
      rw [HT.out]
      exact ResPost.leaf HG2.out hb3 HB2.out HWI.out (by have h := HRd.out.grown HG2.out; rw [← HSV.out] at h; exact h) hh3
end Go.Proofs.YtgnhbccmdpkbiaaDoor
namespace Go.Proofs.YtgnhbccmdpkbiaaDoor
open Go.RowKit

theorem bad_facts {w w2 : World} {bb : Nat} {sv' : Value} {wd : Bool} {v0 v1 v2 v3 v4 v5 : Value} {T : TypeId} (hB2 : BAt w2 bb sv' wd) (hg2 : w.grownBy w2 (some bb)) (hbl : bb < w.heap.size) (hX : w2.heap[w.heap.size]? = some (.cells #[v0, v1, v2, v3, v4, v5] T (0, 0))) (u2 u3 u4 u5 : Value) :
    BAt (((((w2.setCell ⟨bb, 1, none⟩ (.bool true)).setCell ⟨w.heap.size, 2, none⟩ u2).setCell ⟨w.heap.size, 3, none⟩ u3).setCell ⟨w.heap.size, 4, none⟩ u4).setCell ⟨w.heap.size, 5, none⟩ u5) bb sv' true ∧
    w.grownBy (((((w2.setCell ⟨bb, 1, none⟩ (.bool true)).setCell ⟨w.heap.size, 2, none⟩ u2).setCell ⟨w.heap.size, 3, none⟩ u3).setCell ⟨w.heap.size, 4, none⟩ u4).setCell ⟨w.heap.size, 5, none⟩ u5) (some bb) ∧
    w.heap.size < (((((w2.setCell ⟨bb, 1, none⟩ (.bool true)).setCell ⟨w.heap.size, 2, none⟩ u2).setCell ⟨w.heap.size, 3, none⟩ u3).setCell ⟨w.heap.size, 4, none⟩ u4).setCell ⟨w.heap.size, 5, none⟩ u5).heap.size ∧
    (((((w2.setCell ⟨bb, 1, none⟩ (.bool true)).setCell ⟨w.heap.size, 2, none⟩ u2).setCell ⟨w.heap.size, 3, none⟩ u3).setCell ⟨w.heap.size, 4, none⟩ u4).setCell ⟨w.heap.size, 5, none⟩ u5).cell? ⟨w.heap.size, 2, none⟩ = some u2 ∧
    (((((w2.setCell ⟨bb, 1, none⟩ (.bool true)).setCell ⟨w.heap.size, 2, none⟩ u2).setCell ⟨w.heap.size, 3, none⟩ u3).setCell ⟨w.heap.size, 4, none⟩ u4).setCell ⟨w.heap.size, 5, none⟩ u5).cell? ⟨w.heap.size, 3, none⟩ = some u3 ∧
    (((((w2.setCell ⟨bb, 1, none⟩ (.bool true)).setCell ⟨w.heap.size, 2, none⟩ u2).setCell ⟨w.heap.size, 3, none⟩ u3).setCell ⟨w.heap.size, 4, none⟩ u4).setCell ⟨w.heap.size, 5, none⟩ u5).cell? ⟨w.heap.size, 4, none⟩ = some u4 ∧
    (((((w2.setCell ⟨bb, 1, none⟩ (.bool true)).setCell ⟨w.heap.size, 2, none⟩ u2).setCell ⟨w.heap.size, 3, none⟩ u3).setCell ⟨w.heap.size, 4, none⟩ u4).setCell ⟨w.heap.size, 5, none⟩ u5).cell? ⟨w.heap.size, 5, none⟩ = some u5 := by
  have hne : bb ≠ w.heap.size := Nat.ne_of_lt hbl
  have h1 : (w2.setCell ⟨bb, 1, none⟩ (.bool true)).heap[w.heap.size]? = some (.cells #[v0, v1, v2, v3, v4, v5] T (0, 0)) := by
    rw [Below.heap_setCell _ _ _ _ (Ne.symm hne)]; exact hX
  have h5 := blk_set (blk_set (blk_set (blk_set h1 2 u2) 3 u3) 4 u4) 5 u5
  refine ⟨((((hB2.set1 true).other hne).other hne).other hne).other hne, gb_other (gb_other (gb_other (gb_other (gb_set1 hg2) (Nat.le_refl _)) (Nat.le_refl _)) (Nat.le_refl _)) (Nat.le_refl _), lt_of_block h5, ?_, ?_, ?_, ?_⟩
  · exact blk_cell h5 2
  · exact blk_cell h5 3
  · exact blk_cell h5 4
  · exact blk_cell h5 5
set_option maxHeartbeats 40000000 in
set_option maxRecDepth 100000 in
theorem next_bad (f : Nat) (hN : NextC f) (dp k : Int) (op : ByteArray) (b c : Int) (l' : List Fa.Node) (w : World) (bb : Nat) (sv : Value) (wd : Bool) (hl : (⟨dp, 0, ⟨k, op, b, c⟩⟩ :: l' : List Fa.Node).length < f + 1) (hF : Fit (⟨dp, 0, ⟨k, op, b, c⟩⟩ :: l')) (h0 : 0 ≤ dp) (h1 : dp ≤ 1000) (hB : BAt w bb sv wd) (hR : Rd w bb sv (⟨dp, 0, ⟨k, op, b, c⟩⟩ :: l'))
    (hn : Fa.okName ⟨k, op, b, c⟩ = true) (hq : Fa.okNum ⟨k, op, b, c⟩ = false) : Calls Tryd.prog 31 #[.pointer (some ⟨bb, 0, none⟩), I64 dp] w (ResPost (Fa.tree (f + 1) dp (⟨dp, 0, ⟨k, op, b, c⟩⟩ :: l')) (⟨dp, 0, ⟨k, op, b, c⟩⟩ :: l') w bb wd) := by
  generalize hM : (fun e w' => ResPost (Fa.tree (f + 1) dp (⟨dp, 0, ⟨k, op, b, c⟩⟩ :: l')) (⟨dp, 0, ⟨k, op, b, c⟩⟩ :: l') w bb wd e w') = R
  have hM' : ResPost (Fa.tree (f + 1) dp (⟨dp, 0, ⟨k, op, b, c⟩⟩ :: l')) (⟨dp, 0, ⟨k, op, b, c⟩⟩ :: l') w bb wd = R := hM
  rw [hM']
  have HR : Hid (∀ e w', ResPost (Fa.tree (f + 1) dp (⟨dp, 0, ⟨k, op, b, c⟩⟩ :: l')) (⟨dp, 0, ⟨k, op, b, c⟩⟩ :: l') w bb wd e w' → R e w') := fun _ _ h => by rw [← hM']; exact h
  have HNone : Hid (∀ w', Fa.tree (f + 1) dp (⟨dp, 0, ⟨k, op, b, c⟩⟩ :: l') = none → w.grownBy w' (some bb) → R (.returned .nilIface) w') := fun w' h1 h2 => by rw [← hM', h1]; exact ⟨h2, rfl⟩
  clear hM hM'
  have hbl : bb < w.heap.size := lt_of_block hB
  have HBL := Lib.hid hbl
  obtain ⟨b0, b1, f0, f1⟩ := hB.cells
  rcases hR with ⟨a, cap, rfl, e⟩ | ⟨g, o, cap, rfl, hcap, hg, hgl, hc⟩
  · cases e
  have hz : ((((l'.length + 1 : Nat)) : Int) == 0) = false := by rw [beq_eq_false_iff_ne]; omega
  have c0 := hc 0 (by simp) 0 _ rfl
  have c1 := hc 0 (by simp) 1 _ rfl
  have c2 := hc 0 (by simp) 2 _ rfl
  have c3 := hc 0 (by simp) 3 _ rfl
  have c4 := hc 0 (by simp) 4 _ rfl
  have c5 := hc 0 (by simp) 5 _ rfl
  simp only [List.getElem_cons_zero, Nat.zero_mul, Nat.add_zero] at c0 c1 c2 c3 c4 c5
  have hRd : cap ≠ 1 → Rd w bb (.slice (some ⟨g, o + 6, none⟩) l'.length (cap - 1)) l' := fun h => .inr ⟨g, o + 6, cap - 1, rfl, by simp only [List.length_cons] at hcap; omega, hg, hgl, fun j hj i u hu => by
    have := hc (j + 1) (by simp; omega) i u (by simpa using hu)
    rw [show o + 6 + j * 6 + i = o + (j + 1) * 6 + i by omega]
    exact this⟩
  try dsimp only at c0 c1 c2 c3 c4 c5
  simp only [List.length_cons] at hcap hl
  have hfx := hF.2 _ (List.mem_cons_self)
  try dsimp only at hfx
  have hF' : Fit l' := ⟨by have := hF.1; simp only [List.length_cons] at this; omega, fun y hy => hF.2 y (List.mem_cons_of_mem _ hy)⟩
  have hlen : l'.length ≤ 39 := by have := hF.1; simp only [List.length_cons] at this; omega
  have HB := Lib.hid hB
  clear hB hc hF
  have hde : (dp != dp) = false := by simp
  have hje : ((0 : Int) != 0) = false := by decide
  have HCK : Hid (∀ w, Calls Tryd.prog 29 #[.agg #[I64 k, .string op, I64 b, I64 c]] w fun e w' => e = .returned (I64 7) ∧ Below w.heap.size w w') := fun w => by
    have h := check_any ⟨k, op, b, c⟩ w hfx.2
    rw [show checkE ⟨k, op, b, c⟩ = 7 from by simp [checkE, hn, hq]] at h
    exact h
  have hce : checkE ⟨1, op, 0, 0⟩ = 0 := by simp [checkE, show Fa.okName ⟨1, op, 0, 0⟩ = true from hn, Fa.okNum_one]
  have hfxx : Fa.fix ⟨k, op, b, c⟩ = ⟨1, op, 0, 0⟩ := by simp [Fa.fix, hq]
  have HWI := Lib.hid (show true = (wd || Fa.wideN ⟨dp, 0, ⟨k, op, b, c⟩⟩) from by simp [Fa.wideN, hq])
  have HWR : Hid (∀ w, Calls Tryd.prog 10 #[.agg #[I64 1, .string op, I64 0, I64 0], .nilIface] w fun e w' => ∃ z, e = .returned (.tuple #[linkPtr z, I64 0]) ∧ Below w.heap.size w w' ∧ Holds (fun u => w.heap.size ≤ u) w' (.link ⟨1, op, 0, 0⟩ .nil .nil) [valE (false, z)]) := fun w => wrap_ok_nil ⟨1, op, 0, 0⟩ w hfx.2 hce
  have HWS : Hid (∀ (B : Nat) (c' : Fa.F) (cv : Value) (w : World), Holds (fun u => B ≤ u) w c' [cv] → c'.nodes + 1 ≤ 40 → c'.hgt ≤ 12 → B ≤ w.heap.size → Calls Tryd.prog 10 #[.agg #[I64 1, .string op, I64 0, I64 0], cv] w fun e w' => ∃ z, e = .returned (.tuple #[linkPtr z, I64 0]) ∧ Below w.heap.size w w' ∧ Holds (fun u => B ≤ u) w' (.link ⟨1, op, 0, 0⟩ c' .nil) [valE (false, z)]) :=
    fun B c' cv w a1 a2 a3 a4 => wrap_ok B ⟨1, op, 0, 0⟩ c' cv w hfx.2 hce a1 a2 a3 a4
  have HTR : Hid (Fa.tree (f + 1) dp (⟨dp, 0, ⟨k, op, b, c⟩⟩ :: l') = if Fa.deeper dp l' then (match Fa.tree f (dp + 1) l' with
      | none => none
      | some (cc, rr) => some (.link ⟨1, op, 0, 0⟩ cc .nil, rr)) else some (.link ⟨1, op, 0, 0⟩ .nil .nil, l')) := by
    show _ = _
    rw [Fa.tree, if_pos rfl, if_pos rfl, if_pos hn]
    dsimp only
    rw [hfxx]
    rfl
  clear hn hq hce hfxx
  cases l' with
  | nil =>
    have HT := Lib.hid (HTR.out.trans (if_neg (by simp [Fa.deeper])))
    by_cases hc1 : cap = 1
    · subst hc1
      clear hN hF' hfx hRd
      go_enter Tryd.func31, Tryd.ntmps31
      go_wp2_with (first | (go_at_call 29; refine (HCK.out _).mono ?_; rintro e w2 ⟨rfl, hb2⟩; obtain ⟨hB2, hX2, hg2⟩ := w2_facts HB.out hb2; obtain ⟨d0, d1, d2, d3⟩ := hB2.cells; have HB2 := Lib.hid hB2; have HG2 := Lib.hid hg2; have x2 := blk_cell hX2 2; have x3 := blk_cell hX2 3; have x4 := blk_cell hX2 4; have x5 := blk_cell hX2 5; have y2 := blk_free hX2 2; have y3 := blk_free hX2 3; have y4 := blk_free hX2 4; have y5 := blk_free hX2 5; simp only [List.getElem?_toArray, List.getElem?_cons_succ, List.getElem?_cons_zero] at x2 x3 x4 x5; have HX2 := Lib.hid hX2; clear hB2 hX2 hg2 hb2) | (go_at_call 10; refine (HWR.out _).mono ?_; rintro e w3 ⟨b3, rfl, hb3, hh3⟩))
      refine HR.out _ _ ?_
      rw [HT.out]
      exact ResPost.leaf (bad_facts HB2.out HG2.out HBL.out HX2.out (I64 1) (.string op) (I64 0) (I64 0)).2.1 hb3 (bad_facts HB2.out HG2.out HBL.out HX2.out (I64 1) (.string op) (I64 0) (I64 0)).1 HWI.out (.inl ⟨_, _, rfl, rfl⟩) hh3
    · clear hN hF' hfx hRd
      go_enter Tryd.func31, Tryd.ntmps31
      go_wp2_with (first | (go_at_call 29; refine (HCK.out _).mono ?_; rintro e w2 ⟨rfl, hb2⟩; obtain ⟨hB2, hX2, hg2⟩ := w2_facts HB.out hb2; obtain ⟨d0, d1, d2, d3⟩ := hB2.cells; have HB2 := Lib.hid hB2; have HG2 := Lib.hid hg2; have x2 := blk_cell hX2 2; have x3 := blk_cell hX2 3; have x4 := blk_cell hX2 4; have x5 := blk_cell hX2 5; have y2 := blk_free hX2 2; have y3 := blk_free hX2 3; have y4 := blk_free hX2 4; have y5 := blk_free hX2 5; simp only [List.getElem?_toArray, List.getElem?_cons_succ, List.getElem?_cons_zero] at x2 x3 x4 x5; have HX2 := Lib.hid hX2; clear hB2 hX2 hg2 hb2) | (go_at_call 10; refine (HWR.out _).mono ?_; rintro e w3 ⟨b3, rfl, hb3, hh3⟩))
      refine HR.out _ _ ?_
      rw [HT.out]
      exact ResPost.leaf (bad_facts HB2.out HG2.out HBL.out HX2.out (I64 1) (.string op) (I64 0) (I64 0)).2.1 hb3 (bad_facts HB2.out HG2.out HBL.out HX2.out (I64 1) (.string op) (I64 0) (I64 0)).1 HWI.out (.inl ⟨_, _, rfl, rfl⟩) hh3
  | cons y l'' =>
    have hc1 : cap ≠ 1 := by simp only [List.length_cons] at hcap; omega
    have HRd := Lib.hid (hRd hc1)
    have HE0 : Hid (w.cell? ⟨g, o + 6, none⟩ = some (I64 y.depth)) := by
      rcases hRd hc1 with ⟨_, _, _, e⟩ | ⟨g', o', cap', e, _, _, _, hc'⟩
      · cases e
      · injection e with e1 _ _
        injection e1 with e2
        injection e2 with e3 e4
        subst e3; subst e4
        exact hc' 0 (by simp) 0 _ rfl
    have hpos : (0 : Int) < (((y :: l'').length : Nat) : Int) := by simp only [List.length_cons]; omega
    have hTK := Fa.tree_took f (dp + 1) (y :: l'')
    have HNX : Hid (∀ W1 sv1 q1, BAt W1 bb sv1 q1 → Rd W1 bb sv1 (y :: l'') → Calls Tryd.prog 31 #[.pointer (some ⟨bb, 0, none⟩), I64 (dp + 1)] W1 (ResPost (Fa.tree f (dp + 1) (y :: l'')) (y :: l'') W1 bb q1)) :=
      fun W1 sv1 q1 a1 a2 => hN (dp + 1) (y :: l'') W1 bb sv1 q1 (by omega) hF' (by omega) (by omega) a1 a2
    have HFF := Lib.hid hF'
    clear hRd hF' hN
    generalize hsv : (Value.slice (some ⟨g, o + 6, none⟩) (y :: l'').length (cap - 1)) = svx at HRd
    have HSV := Lib.hid hsv
    clear hsv
    by_cases hdp : dp < y.depth
    · cases hT : Fa.tree f (dp + 1) (y :: l'') with
      | none =>
        have HX := Lib.hid (HTR.out.trans ((if_pos (by simpa [Fa.deeper] using hdp)).trans (by rw [hT])))
        rw [hT] at HNX
        clear hT hTK hfx
        go_enter Tryd.func31, Tryd.ntmps31
        go_wp2_with (first | (go_at_call 29; refine (HCK.out _).mono ?_; rintro e w2 ⟨rfl, hb2⟩; obtain ⟨hB2, hX2, hg2⟩ := w2_facts HB.out hb2; obtain ⟨d0, d1, d2, d3⟩ := hB2.cells; have HB2 := Lib.hid hB2; have HG2 := Lib.hid hg2; have x2 := blk_cell hX2 2; have x3 := blk_cell hX2 3; have x4 := blk_cell hX2 4; have x5 := blk_cell hX2 5; have y2 := blk_free hX2 2; have y3 := blk_free hX2 3; have y4 := blk_free hX2 4; have y5 := blk_free hX2 5; simp only [List.getElem?_toArray, List.getElem?_cons_succ, List.getElem?_cons_zero] at x2 x3 x4 x5; have e0 := (gb_cell' (i := o + 6) hg2 hgl (fun e => by injection e with e; omega)).trans HE0.out; have HX2 := Lib.hid hX2; clear hB2 hX2 hg2 hb2) | (go_at_call 31; refine (HNX.out _ _ _ (bad_facts HB2.out HG2.out HBL.out HX2.out (I64 1) (.string op) (I64 0) (I64 0)).1 (by have h := HRd.out.grown (bad_facts HB2.out HG2.out HBL.out HX2.out (I64 1) (.string op) (I64 0) (I64 0)).2.1; rw [← HSV.out] at h; exact h)).mono ?_; rintro e w3 ⟨hg3, rfl⟩))
        exact HNone.out _ HX.out (gb_trans (bad_facts HB2.out HG2.out HBL.out HX2.out (I64 1) (.string op) (I64 0) (I64 0)).2.1 hg3)
      | some cr =>
        obtain ⟨c', r⟩ := cr
        have HT := Lib.hid (HTR.out.trans ((if_pos (by simpa [Fa.deeper] using hdp)).trans (by rw [hT])))
        have hTT := hTK c' r hT
        have hn39 : c'.nodes + 1 ≤ 40 := by
          obtain ⟨pp, e1, e2, _⟩ := hTT.part
          have e3 := congrArg List.length e1
          rw [List.length_append] at e3
          omega
        have hh12 : c'.hgt ≤ 12 := by
          have := hTT.deep (fun z hz => (HFF.out.2 z hz).1) (fun e => by have := hTT.len; rw [e] at this; exact absurd this (by decide))
          omega
        rw [hT] at HNX
        clear hT hTK hTT hfx
        go_enter Tryd.func31, Tryd.ntmps31
        go_wp2_with (first | (go_at_call 29; refine (HCK.out _).mono ?_; rintro e w2 ⟨rfl, hb2⟩; obtain ⟨hB2, hX2, hg2⟩ := w2_facts HB.out hb2; obtain ⟨d0, d1, d2, d3⟩ := hB2.cells; have HB2 := Lib.hid hB2; have HG2 := Lib.hid hg2; have x2 := blk_cell hX2 2; have x3 := blk_cell hX2 3; have x4 := blk_cell hX2 4; have x5 := blk_cell hX2 5; have y2 := blk_free hX2 2; have y3 := blk_free hX2 3; have y4 := blk_free hX2 4; have y5 := blk_free hX2 5; simp only [List.getElem?_toArray, List.getElem?_cons_succ, List.getElem?_cons_zero] at x2 x3 x4 x5; have e0 := (gb_cell' (i := o + 6) hg2 hgl (fun e => by injection e with e; omega)).trans HE0.out; have HX2 := Lib.hid hX2; clear hB2 hX2 hg2 hb2) | (go_at_call 31; refine (HNX.out _ _ _ (bad_facts HB2.out HG2.out HBL.out HX2.out (I64 1) (.string op) (I64 0) (I64 0)).1 (by have h := HRd.out.grown (bad_facts HB2.out HG2.out HBL.out HX2.out (I64 1) (.string op) (I64 0) (I64 0)).2.1; rw [← HSV.out] at h; exact h)).mono ?_; rintro e w3 hres; obtain ⟨p3, sv3, rf, he, hp3, hh3, _⟩ := hres.2; subst he; have HW3 := Lib.hid (HWS.out _ c' (valE rf) w3 hh3 hn39 hh12 hres.1.size); have HRES := Lib.hid hres; have z2 : w3.cell? ⟨w.heap.size, 2, none⟩ = some (I64 1) := (gb_cell' hres.1 (bad_facts HB2.out HG2.out HBL.out HX2.out (I64 1) (.string op) (I64 0) (I64 0)).2.2.1 (fun e => by injection e with e; have := HBL.out; omega)).trans (bad_facts HB2.out HG2.out HBL.out HX2.out (I64 1) (.string op) (I64 0) (I64 0)).2.2.2.1; have z3 : w3.cell? ⟨w.heap.size, 3, none⟩ = some (.string op) := (gb_cell' hres.1 (bad_facts HB2.out HG2.out HBL.out HX2.out (I64 1) (.string op) (I64 0) (I64 0)).2.2.1 (fun e => by injection e with e; have := HBL.out; omega)).trans (bad_facts HB2.out HG2.out HBL.out HX2.out (I64 1) (.string op) (I64 0) (I64 0)).2.2.2.2.1; have z4 : w3.cell? ⟨w.heap.size, 4, none⟩ = some (I64 0) := (gb_cell' hres.1 (bad_facts HB2.out HG2.out HBL.out HX2.out (I64 1) (.string op) (I64 0) (I64 0)).2.2.1 (fun e => by injection e with e; have := HBL.out; omega)).trans (bad_facts HB2.out HG2.out HBL.out HX2.out (I64 1) (.string op) (I64 0) (I64 0)).2.2.2.2.2.1; have z5 : w3.cell? ⟨w.heap.size, 5, none⟩ = some (I64 0) := (gb_cell' hres.1 (bad_facts HB2.out HG2.out HBL.out HX2.out (I64 1) (.string op) (I64 0) (I64 0)).2.2.1 (fun e => by injection e with e; have := HBL.out; omega)).trans (bad_facts HB2.out HG2.out HBL.out HX2.out (I64 1) (.string op) (I64 0) (I64 0)).2.2.2.2.2.2;  clear hp3 hh3 hres; obtain ⟨ty, pv, hty⟩ := valE_iface rf; rw [hty] at HW3 ⊢; clear hty) | (go_at_call 10; refine HW3.out.mono ?_; rintro e w4 ⟨b4, rfl, hb4, hh4⟩))
        refine HR.out _ _ ?_
        rw [HT.out]
        exact ResPost.link (bad_facts HB2.out HG2.out HBL.out HX2.out (I64 1) (.string op) (I64 0) (I64 0)).2.1 HRES.out HWI.out hb4 hh4
    · have HT := Lib.hid (HTR.out.trans (if_neg (by simpa [Fa.deeper] using hdp)))
      clear hTK hfx
      go_enter Tryd.func31, Tryd.ntmps31
      go_wp2_with (first | (go_at_call 29; refine (HCK.out _).mono ?_; rintro e w2 ⟨rfl, hb2⟩; obtain ⟨hB2, hX2, hg2⟩ := w2_facts HB.out hb2; obtain ⟨d0, d1, d2, d3⟩ := hB2.cells; have HB2 := Lib.hid hB2; have HG2 := Lib.hid hg2; have x2 := blk_cell hX2 2; have x3 := blk_cell hX2 3; have x4 := blk_cell hX2 4; have x5 := blk_cell hX2 5; have y2 := blk_free hX2 2; have y3 := blk_free hX2 3; have y4 := blk_free hX2 4; have y5 := blk_free hX2 5; simp only [List.getElem?_toArray, List.getElem?_cons_succ, List.getElem?_cons_zero] at x2 x3 x4 x5; have e0 := (gb_cell' (i := o + 6) hg2 hgl (fun e => by injection e with e; omega)).trans HE0.out; have HX2 := Lib.hid hX2; clear hB2 hX2 hg2 hb2) | (go_at_call 10; refine (HWR.out _).mono ?_; rintro e w3 ⟨b3, rfl, hb3, hh3⟩))
      refine HR.out _ _ ?_
      rw [HT.out]
      exact ResPost.leaf (bad_facts HB2.out HG2.out HBL.out HX2.out (I64 1) (.string op) (I64 0) (I64 0)).2.1 hb3 (bad_facts HB2.out HG2.out HBL.out HX2.out (I64 1) (.string op) (I64 0) (I64 0)).1 HWI.out (by have h := HRd.out.grown (bad_facts HB2.out HG2.out HBL.out HX2.out (I64 1) (.string op) (I64 0) (I64 0)).2.1; rw [← HSV.out] at h; exact h) hh3
end Go.Proofs.YtgnhbccmdpkbiaaDoor
namespace Go.Proofs.YtgnhbccmdpkbiaaDoor
open Go.RowKit

set_option maxHeartbeats 40000000 in
set_option maxRecDepth 100000 in
theorem next_step (f : Nat) (hN : NextC f) : NextC (f + 1) := by
  intro d l w bb sv wd hl hF h0 h1 hB hR
  have HR : Hid (∀ e w', ResPost (Fa.tree (f + 1) d l) l w bb wd e w' → ResPost (Fa.tree (f + 1) d l) l w bb wd e w') := fun _ _ h => h
  have HNone : Hid (∀ w', Fa.tree (f + 1) d l = none → w.grownBy w' (some bb) → ResPost (Fa.tree (f + 1) d l) l w bb wd (.returned .nilIface) w') := fun w' h1 h2 => by rw [h1]; exact ⟨h2, rfl⟩
  generalize hM : (fun e w' => ResPost (Fa.tree (f + 1) d l) l w bb wd e w') = R
  have hM' : ResPost (Fa.tree (f + 1) d l) l w bb wd = R := hM
  rw [hM']
  have HR : Hid (∀ e w', ResPost (Fa.tree (f + 1) d l) l w bb wd e w' → R e w') := fun _ _ h => by rw [← hM']; exact h
  have HNone : Hid (∀ w', Fa.tree (f + 1) d l = none → w.grownBy w' (some bb) → R (.returned .nilIface) w') := fun w' h1 h2 => by rw [← hM', h1]; exact ⟨h2, rfl⟩
  clear hM hM'
  have hbl : bb < w.heap.size := lt_of_block hB
  obtain ⟨b0, b1, f0, f1⟩ := hB.cells
  cases l with
  | nil =>
    obtain ⟨a, cap, rfl⟩ := hR.len
    have HX := Lib.hid (show Fa.tree (f + 1) d [] = none from by simp [Fa.tree])
    clear hB hR hN hF
    go_enter Tryd.func31, Tryd.ntmps31
    go_wp2
    exact HNone.out _ HX.out (World.grownBy.refl _ _)
  | cons x l' =>
    have HRR := Lib.hid hR
    rcases hR with ⟨a, cap, rfl, e⟩ | ⟨g, o, cap, rfl, hcap, hg, hgl, hc⟩
    · cases e
    have hz : ((((l'.length + 1 : Nat)) : Int) == 0) = false := by rw [beq_eq_false_iff_ne]; omega
    have c0 := hc 0 (by simp) 0 _ rfl
    have c1 := hc 0 (by simp) 1 _ rfl
    have c2 := hc 0 (by simp) 2 _ rfl
    have c3 := hc 0 (by simp) 3 _ rfl
    have c4 := hc 0 (by simp) 4 _ rfl
    have c5 := hc 0 (by simp) 5 _ rfl
    simp only [List.getElem_cons_zero, Nat.zero_mul, Nat.add_zero] at c0 c1 c2 c3 c4 c5
    have hRd : cap ≠ 1 → Rd w bb (.slice (some ⟨g, o + 6, none⟩) l'.length (cap - 1)) l' := fun h => .inr ⟨g, o + 6, cap - 1, rfl, by simp only [List.length_cons] at hcap; omega, hg, hgl, fun j hj i u hu => by
      have := hc (j + 1) (by simp; omega) i u (by simpa using hu)
      rw [show o + 6 + j * 6 + i = o + (j + 1) * 6 + i by omega]
      exact this⟩
    obtain ⟨dp, jn, ⟨k, op, b, c⟩⟩ := x
    dsimp only at c0 c1 c2 c3 c4 c5
    simp only [List.length_cons] at hcap hl
    have hfx := hF.2 _ (List.mem_cons_self)
    dsimp only at hfx
    have hF' : Fit l' := ⟨by have := hF.1; simp only [List.length_cons] at this; omega, fun y hy => hF.2 y (List.mem_cons_of_mem _ hy)⟩
    have hlen : l'.length ≤ 39 := by have := hF.1; simp only [List.length_cons] at this; omega
    have HB := Lib.hid hB
    have HFF := Lib.hid hF
    clear hB hc hF
    by_cases hd : dp = d
    · subst hd
      have hde : (dp != dp) = false := by simp
      by_cases hj : jn = 0
      · subst hj
        have hje : ((0 : Int) != 0) = false := by decide
        cases hn : Fa.okName ⟨k, op, b, c⟩ with
        | false =>
          have HCK : Hid (∀ w, Calls Tryd.prog 29 #[.agg #[I64 k, .string op, I64 b, I64 c]] w fun e w' => e = .returned (I64 6) ∧ Below w.heap.size w w') := fun w => by
            have h := check_any ⟨k, op, b, c⟩ w hfx.2
            rw [show checkE ⟨k, op, b, c⟩ = 6 from by simp [checkE, hn]] at h
            exact h
          have HX := Lib.hid (show Fa.tree (f + 1) dp (⟨dp, 0, ⟨k, op, b, c⟩⟩ :: l') = none from by rw [Fa.tree, if_pos rfl, if_pos rfl, if_neg (by rw [hn]; decide)])
          clear hn hN hF' hfx hRd
          by_cases hc1 : cap = 1
          · subst hc1
            obtain rfl : l' = [] := List.eq_nil_of_length_eq_zero (by omega)
            go_enter Tryd.func31, Tryd.ntmps31
            go_wp2_with (go_at_call 29; refine (HCK.out _).mono ?_; rintro e w2 ⟨rfl, hb2⟩; obtain ⟨hB2, hX2, hg2⟩ := w2_facts HB.out hb2; obtain ⟨d0, d1, d2, d3⟩ := hB2.cells; have HB2 := Lib.hid hB2; have HG2 := Lib.hid hg2; have x2 := blk_cell hX2 2; have x3 := blk_cell hX2 3; have x4 := blk_cell hX2 4; have x5 := blk_cell hX2 5; have y2 := blk_free hX2 2; have y3 := blk_free hX2 3; have y4 := blk_free hX2 4; have y5 := blk_free hX2 5; simp only [List.getElem?_toArray, List.getElem?_cons_succ, List.getElem?_cons_zero] at x2 x3 x4 x5; have HX2 := Lib.hid hX2; clear hB2 hX2 hg2 hb2)
            exact HNone.out _ HX.out HG2.out
          · go_enter Tryd.func31, Tryd.ntmps31
            go_wp2_with (go_at_call 29; refine (HCK.out _).mono ?_; rintro e w2 ⟨rfl, hb2⟩; obtain ⟨hB2, hX2, hg2⟩ := w2_facts HB.out hb2; obtain ⟨d0, d1, d2, d3⟩ := hB2.cells; have HB2 := Lib.hid hB2; have HG2 := Lib.hid hg2; have x2 := blk_cell hX2 2; have x3 := blk_cell hX2 3; have x4 := blk_cell hX2 4; have x5 := blk_cell hX2 5; have y2 := blk_free hX2 2; have y3 := blk_free hX2 3; have y4 := blk_free hX2 4; have y5 := blk_free hX2 5; simp only [List.getElem?_toArray, List.getElem?_cons_succ, List.getElem?_cons_zero] at x2 x3 x4 x5; have HX2 := Lib.hid hX2; clear hB2 hX2 hg2 hb2)
            exact HNone.out _ HX.out HG2.out
        | true =>
          have HB' := HB.out
          have hR' : Rd w bb (.slice (some ⟨g, o, none⟩) (⟨dp, 0, ⟨k, op, b, c⟩⟩ :: l' : List Fa.Node).length cap) (⟨dp, 0, ⟨k, op, b, c⟩⟩ :: l') := HRR.out
          have hcall : Calls Tryd.prog 31 #[.pointer (some ⟨bb, 0, none⟩), I64 dp] w (ResPost (Fa.tree (f + 1) dp (⟨dp, 0, ⟨k, op, b, c⟩⟩ :: l')) (⟨dp, 0, ⟨k, op, b, c⟩⟩ :: l') w bb wd) := by
            cases hq : Fa.okNum ⟨k, op, b, c⟩ with
            | true => exact next_ok f hN dp k op b c l' w bb _ wd (by simpa using hl) HFF.out h0 h1 HB' hR' hn hq
            | false => exact next_bad f hN dp k op b c l' w bb _ wd (by simpa using hl) HFF.out h0 h1 HB' hR' hn hq
          exact hcall.mono (fun e w' h => HR.out e w' h)
      · have hje : (jn != 0) = true := by rw [bne_iff_ne]; exact hj
        have HT := Lib.hid (show Fa.tree (f + 1) dp (⟨dp, jn, ⟨k, op, b, c⟩⟩ :: l') = (if Fa.badJoin ⟨dp, jn, ⟨k, op, b, c⟩⟩ then none else match Fa.many (Fa.tree f (dp + 1)) jn.toNat l' with
          | none => none
          | some (k, r) => some (.join k .nil, r)) from by rw [Fa.tree, if_pos rfl, if_neg hj]; rfl)
        have HWX := Lib.hid (show Fa.wideN ⟨dp, jn, ⟨k, op, b, c⟩⟩ = false from by simp [Fa.wideN, hj])
        clear hj
        have HJN : Hid (∀ W1 sv', BAt W1 bb sv' wd → Rd W1 bb sv' l' → Calls Tryd.prog 43 #[.pointer (some ⟨bb, 0, none⟩), .agg #[I64 dp, I64 jn, I64 k, .string op, I64 b, I64 c], I64 dp] W1 (ResPost (if Fa.badJoin ⟨dp, jn, ⟨k, op, b, c⟩⟩ then none else match Fa.many (Fa.tree f (dp + 1)) jn.toNat l' with
          | none => none
          | some (k, r) => some (.join k .nil, r)) l' W1 bb wd)) := fun W1 sv' h1 h2 => bjoin_any f hN ⟨dp, jn, ⟨k, op, b, c⟩⟩ dp l' W1 bb sv' wd (by omega) (by omega) hF' h0 hfx.1 h1 h2
        by_cases hc1 : cap = 1
        · subst hc1
          obtain rfl : l' = [] := List.eq_nil_of_length_eq_zero (by omega)
          have HG : Hid (w.grownBy ((w.setCell ⟨bb, 0, none⟩ (.slice (some ⟨g, o, none⟩) 0 0)).alloc (.cells #[I64 dp, I64 jn, I64 k, .string op, I64 b, I64 c] 67)) (some bb)) := gb_trans (gb_set w bb 0 _) (gb_alloc _ _ _)
          have HJ : Hid (∀ W1, W1 = (w.setCell ⟨bb, 0, none⟩ (.slice (some ⟨g, o, none⟩) 0 0)).alloc (.cells #[I64 dp, I64 jn, I64 k, .string op, I64 b, I64 c] 67) → Calls Tryd.prog 43 #[.pointer (some ⟨bb, 0, none⟩), .agg #[I64 dp, I64 jn, I64 k, .string op, I64 b, I64 c], I64 dp] W1 (ResPost (if Fa.badJoin ⟨dp, jn, ⟨k, op, b, c⟩⟩ then none else match Fa.many (Fa.tree f (dp + 1)) jn.toNat [] with
          | none => none
          | some (k, r) => some (.join k .nil, r)) [] W1 bb wd)) := fun W1 e => by
            subst e
            exact HJN.out _ _ ((HB.out.set0 _).grown (gb_alloc _ _ none) (by simp)) (.inl ⟨_, _, rfl, rfl⟩)
          clear hRd hN hF' hfx
          go_enter Tryd.func31, Tryd.ntmps31; go_wp2_with (go_at_call 43; refine (HJ.out _ rfl).mono ?_; rintro e w3 hres; obtain ⟨v, rfl⟩ := hres.ret; have HRES := Lib.hid hres; clear hres); refine HR.out _ _ ?_; rw [HT.out]; exact HRES.out.cons HG.out HWX.out
        · have HRd := Lib.hid (hRd hc1)
          have HG : Hid (w.grownBy ((w.setCell ⟨bb, 0, none⟩ (.slice (some ⟨g, o + 6, none⟩) l'.length (cap - 1))).alloc (.cells #[I64 dp, I64 jn, I64 k, .string op, I64 b, I64 c] 67)) (some bb)) := gb_trans (gb_set w bb 0 _) (gb_alloc _ _ _)
          have HJ : Hid (∀ W1, W1 = (w.setCell ⟨bb, 0, none⟩ (.slice (some ⟨g, o + 6, none⟩) l'.length (cap - 1))).alloc (.cells #[I64 dp, I64 jn, I64 k, .string op, I64 b, I64 c] 67) → Calls Tryd.prog 43 #[.pointer (some ⟨bb, 0, none⟩), .agg #[I64 dp, I64 jn, I64 k, .string op, I64 b, I64 c], I64 dp] W1 (ResPost (if Fa.badJoin ⟨dp, jn, ⟨k, op, b, c⟩⟩ then none else match Fa.many (Fa.tree f (dp + 1)) jn.toNat l' with
          | none => none
          | some (k, r) => some (.join k .nil, r)) l' W1 bb wd)) := fun W1 e => by
            subst e
            exact HJN.out _ _ ((HB.out.set0 _).grown (gb_alloc _ _ none) (by simp)) (HRd.out.grown HG.out)
          clear hRd hN hF' hfx
          go_enter Tryd.func31, Tryd.ntmps31; go_wp2_with (go_at_call 43; refine (HJ.out _ rfl).mono ?_; rintro e w3 hres; obtain ⟨v, rfl⟩ := hres.ret; have HRES := Lib.hid hres; clear hres); refine HR.out _ _ ?_; rw [HT.out]; exact HRES.out.cons HG.out HWX.out
    · have hde : (dp != d) = true := by rw [bne_iff_ne]; exact hd
      have HX := Lib.hid (show Fa.tree (f + 1) d (⟨dp, jn, ⟨k, op, b, c⟩⟩ :: l') = none from by rw [Fa.tree, if_neg hd])
      clear hd hN hRd hF' hfx
      go_enter Tryd.func31, Tryd.ntmps31
      go_wp2
      exact HNone.out _ HX.out (World.grownBy.refl _ _)
end Go.Proofs.YtgnhbccmdpkbiaaDoor
