/-
  Walks for layer 3 (faults): the builder's next.
-/
import Derived.Test.YtgnhbccmdpkbiaaGreatDoorFaw3
import Derived.WalkSpells
namespace Go.Proofs.YtgnhbccmdpkbiaaGreatDoor
open Go.RowKit

theorem BAt.set0 {w : World} {bb : Nat} {sv : Value} {wd : Bool} (h : BAt w bb sv wd) (v : Value) : BAt (w.setCell ⟨bb, 0, none⟩ v) bb v wd := by
  have := blk_set h 0 v
  exact this
theorem BAt.set1 {w : World} {bb : Nat} {sv : Value} {wd : Bool} (h : BAt w bb sv wd) (q : Bool) : BAt (w.setCell ⟨bb, 1, none⟩ (.bool q)) bb sv q := by
  have := blk_set h 1 (.bool q)
  exact this
theorem BAt.cells {w : World} {bb : Nat} {sv : Value} {wd : Bool} (h : BAt w bb sv wd) : w.cell? ⟨bb, 0, none⟩ = some sv ∧ w.cell? ⟨bb, 1, none⟩ = some (.bool wd) ∧ w.frozen? ⟨bb, 0, none⟩ = false ∧ w.frozen? ⟨bb, 1, none⟩ = false :=
  ⟨blk_cell h 0, blk_cell h 1, blk_free h 0, blk_free h 1⟩

theorem BAt.other {w : World} {bb X i : Nat} {sv : Value} {wd : Bool} {u : Value} (h : BAt w bb sv wd) (hne : bb ≠ X) : BAt (w.setCell ⟨X, i, none⟩ u) bb sv wd := by
  unfold BAt
  rw [Below.heap_setCell _ _ _ _ hne]
  exact h
theorem gb_other {w w1 : World} {bb X i : Nat} {u : Value} (h : w.grownBy w1 (some bb)) (hX : w.heap.size ≤ X) : w.grownBy (w1.setCell ⟨X, i, none⟩ u) (some bb) :=
  gb_own h (gb_set w1 X i u) (fun k hk => by injection hk with e; omega)
theorem gb_set1 {w w1 : World} {bb i : Nat} {u : Value} (h : w.grownBy w1 (some bb)) : w.grownBy (w1.setCell ⟨bb, i, none⟩ u) (some bb) := gb_trans h (gb_set w1 bb i u)
theorem ResPost.ret {res : Option (Fa.F × List Fa.Node)} {l : List Fa.Node} {w w' : World} {bb : Nat} {wd : Bool} {e : Ending} (h : ResPost res l w bb wd e w') : ∃ v, e = .returned v := by
  cases res with
  | none => exact ⟨_, h.2⟩
  | some p => obtain ⟨p, sv, rf, h1, _⟩ := h.2; exact ⟨_, h1⟩
theorem ResPost.cons {res : Option (Fa.F × List Fa.Node)} {l : List Fa.Node} {w w1 w' : World} {bb : Nat} {wd : Bool} {e : Ending} {x : Fa.Node} (h : ResPost res l w1 bb wd e w') (hg : w.grownBy w1 (some bb)) (hx : Fa.wideN x = false) : ResPost res (x :: l) w bb wd e w' := by
  refine ⟨gb_trans hg h.1, ?_⟩
  cases res with
  | none => exact h.2
  | some p =>
    obtain ⟨p, sv, rf, h1, h2, h3, h4, h5⟩ := h.2
    exact ⟨x :: p, sv, rf, h1, by rw [h2]; rfl, h3.mono (fun b h _ => Nat.le_trans hg.size h), by rw [List.any_cons, hx, Bool.false_or]; exact h4, h5⟩
/-- A link without a cause. -/
theorem ResPost.leaf {l : List Fa.Node} {w w1 w' : World} {bb b : Nat} {wd q : Bool} {sv : Value} {x : Fa.Node} {y : Fa.Link} (hg : w.grownBy w1 (some bb)) (hb : Below w1.heap.size w1 w') (hB : BAt w1 bb sv q) (hq : q = (wd || Fa.wideN x)) (hR : Rd w1 bb sv l)
    (hh : Holds (fun b => w1.heap.size ≤ b) w' (.link y .nil .nil) [valE (false, b)]) : ResPost (some (.link y .nil .nil, l)) (x :: l) w bb wd (.returned (linkPtr b)) w' :=
  ⟨gb_trans hg (gb_below hb), [x], sv, (false, b), rfl, rfl, hh.mono (fun b h _ => Nat.le_trans hg.size h), by rw [List.any_cons, List.any_nil, Bool.or_false, ← hq]; exact hB.grown (gb_below (r := none) hb) (by simp), hR.grown (gb_below hb)⟩
/-- A link with a cause. -/
theorem ResPost.link {l r : List Fa.Node} {w w1 w2 w' : World} {bb b : Nat} {wd q : Bool} {e : Ending} {x : Fa.Node} {y : Fa.Link} {c : Fa.F} (hg : w.grownBy w1 (some bb)) (h : ResPost (some (c, r)) l w1 bb q e w2) (hq : q = (wd || Fa.wideN x)) (hb : Below w2.heap.size w2 w')
    (hh : Holds (fun b => w1.heap.size ≤ b) w' (.link y c .nil) [valE (false, b)]) : ResPost (some (.link y c .nil, r)) (x :: l) w bb wd (.returned (linkPtr b)) w' := by
  obtain ⟨p, sv, rf, h1, h2, h3, h4, h5⟩ := h.2
  refine ⟨gb_trans (gb_trans hg h.1) (gb_below hb), x :: p, sv, (false, b), rfl, by rw [h2]; rfl, hh.mono (fun b h _ => Nat.le_trans hg.size h), ?_, h5.grown (gb_below hb)⟩
  rw [List.any_cons, ← Bool.or_assoc, ← hq]
  exact h4.grown (gb_below (r := none) hb) (by simp)
theorem wrap_ok_nil (x : Fa.Link) (w : World) (hs : x.op.size ≤ maxLen) (hc : checkE x = 0) : Calls Tryz.prog 16 #[valLink x, .nilIface] w fun e w' => ∃ b, e = .returned (.tuple #[linkPtr b, I64 0]) ∧ Below w.heap.size w w' ∧ Holds (fun b => w.heap.size ≤ b) w' (.link x .nil .nil) [valE (false, b)] := by
  refine (wrap_nil x w hs).mono ?_
  rintro e w' ⟨_, h2, h3⟩
  obtain ⟨b, h4, h5, h6⟩ := h2 (by unfold wrapE; rw [if_pos hc]; rfl)
  exact ⟨b, h4, h3, b, .nilIface, [], [], rfl, h5, h6, rfl, .inl ⟨rfl, rfl⟩, rfl⟩
theorem wrap_ok (B : Nat) (x : Fa.Link) (c : Fa.F) (cv : Value) (w : World) (hs : x.op.size ≤ maxLen) (hc : checkE x = 0) (h : Holds (fun b => B ≤ b) w c [cv]) (hn : c.nodes + 1 ≤ 40) (hh : c.hgt ≤ 12) (hB : B ≤ w.heap.size) :
    Calls Tryz.prog 16 #[valLink x, cv] w fun e w' => ∃ b, e = .returned (.tuple #[linkPtr b, I64 0]) ∧ Below w.heap.size w w' ∧ Holds (fun b => B ≤ b) w' (.link x c .nil) [valE (false, b)] := by
  refine (wrap_some _ x c cv w hs h (by omega)).mono ?_
  rintro e w' ⟨_, h2, h3⟩
  obtain ⟨b, h4, h5, h6⟩ := h2 (by unfold wrapE; rw [if_pos hc, if_neg (by omega)])
  exact ⟨b, h4, h3, b, cv, [cv], [], rfl, Nat.le_trans hB h5, h6, h.below h3, .inr rfl, rfl⟩
theorem w2_facts {w w2 : World} {bb : Nat} {sv sv' : Value} {wd : Bool} {cs : Array Value} {T : TypeId} (hB : BAt w bb sv wd) (hb2 : Below ((w.setCell ⟨bb, 0, none⟩ sv').alloc (.cells cs T)).heap.size ((w.setCell ⟨bb, 0, none⟩ sv').alloc (.cells cs T)) w2) :
    BAt w2 bb sv' wd ∧ w2.heap[w.heap.size]? = some (.cells cs T (0, 0)) ∧ w.grownBy w2 (some bb) := by
  have h1 := (hB.set0 sv').grown (gb_alloc _ (.cells cs T) none) (by simp)
  refine ⟨h1.grown (gb_below (r := none) hb2) (by simp), ?_, gb_trans (gb_trans (gb_set w bb 0 sv') (gb_alloc _ (.cells cs T) _)) (gb_below hb2)⟩
  have h2 := blk_new (w.setCell ⟨bb, 0, none⟩ sv') (.cells cs T)
  have h3 : (w.setCell ⟨bb, 0, none⟩ sv').heap.size = w.heap.size := by simp [World.setCell]
  rw [h3] at h2
  rw [hb2.block w.heap.size (by simp [World.setCell])]
  exact h2

end Go.Proofs.YtgnhbccmdpkbiaaGreatDoor
