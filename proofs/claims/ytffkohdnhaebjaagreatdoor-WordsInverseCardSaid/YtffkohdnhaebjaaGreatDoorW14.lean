/-
  Walks: the reference's Split.
-/
import Derived.Test.YtffkohdnhaebjaaGreatDoorW13
import Derived.Test.YtffkohdnhaebjaaGreatDoorW2
import Derived.Test.YtffkohdnhaebjaaGreatDoorOwnF
import Derived.WalkSpells
namespace Go.Proofs.YtffkohdnhaebjaaGreatDoor
open Go.RowKit Go.Shelf

def splitErr (n : Int) : Ending := .returned (.tuple #[.slice none 0 0, .int .i64 n])
/-- What is known behind k bytes of a line: the fields acc are read. -/
def FRel (l : List UInt8) (acc : List Wd.Fld) (k : Nat) : Prop := Wd.F l = (Wd.F (l.drop k)).map (acc ++ ·)
def longs (acc : List Wd.Fld) : Bool := acc.any fun f => 2000 < f.1.length
theorem split_none {l : List UInt8} {acc : List Wd.Fld} {k : Nat} (h0 : l ≠ []) (h1 : l.length ≤ 8192) (h : FRel l acc k) (hn : Wd.field1 (l.drop k) = none) : Wd.split l = ([], 6) := by
  unfold FRel at h
  rw [Wd.F_none hn] at h
  have e : Wd.fields l = none := h
  unfold Wd.split
  rw [if_neg (by omega), if_neg h0, e]
theorem split_bad {l : List UInt8} {acc : List Wd.Fld} {k : Nat} {f : Wd.Fld} {c : UInt8} {r : List UInt8} (h0 : l ≠ []) (h1 : l.length ≤ 8192) (h : FRel l acc k) (hn : Wd.field1 (l.drop k) = some (f, c :: r)) (hc : c ≠ 32) : Wd.split l = ([], 6) := by
  unfold FRel at h
  rw [Wd.F_bad hn hc] at h
  have e : Wd.fields l = none := h
  unfold Wd.split
  rw [if_neg (by omega), if_neg h0, e]
theorem split_last {l : List UInt8} {acc : List Wd.Fld} {k : Nat} {f : Wd.Fld} (h0 : l ≠ []) (h1 : l.length ≤ 8192) (h : FRel l acc k) (hn : Wd.field1 (l.drop k) = some (f, [])) :
    Wd.split l = if longs (acc ++ [f]) || 64 < (acc ++ [f]).length then ([], 3) else (acc ++ [f], 0) := by
  unfold FRel at h
  rw [Wd.F_last hn] at h
  have e : Wd.fields l = some (acc ++ [f]) := h
  unfold Wd.split
  rw [if_neg (by omega), if_neg h0, e]
  rfl
theorem frel_next {l : List UInt8} {acc : List Wd.Fld} {k : Nat} {f : Wd.Fld} {r : List UInt8} (h : FRel l acc k) (hn : Wd.field1 (l.drop k) = some (f, 32 :: r)) :
    FRel l (acc ++ [f]) (l.length - r.length) := by
  unfold FRel at h ⊢
  have hsuf : r = l.drop (l.length - r.length) := by
    apply Wd.drop_of_suffix
    have := Wd.field1_suffix hn
    exact ((List.suffix_cons _ _).trans this).trans (List.drop_suffix _ _)
  rw [Wd.F_next hn] at h
  rw [h, ← hsuf]
  cases Wd.F r <;> simp
theorem longs_snoc (acc : List Wd.Fld) (f : Wd.Fld) : longs (acc ++ [f]) = (longs acc || decide (2000 < f.1.length)) := by
  unfold longs; simp

theorem newF (W : World) (x y : Value) (T : TypeId) : (W.alloc (.cells #[x, y] T)).cell? ⟨W.heap.size, 0, none⟩ = some x ∧ (W.alloc (.cells #[x, y] T)).cell? ⟨W.heap.size, 1, none⟩ = some y := by
  constructor
  · rw [World.cell?_alloc_at _ _ _ _ rfl]; rfl
  · rw [World.cell?_alloc_at _ _ _ _ rfl]; rfl
theorem newF2 (W : World) (o : Obj) (x y : Value) (T : TypeId) : ((W.alloc o).alloc (.cells #[x, y] T)).cell? ⟨W.heap.size + 1, 0, none⟩ = some x ∧ ((W.alloc o).alloc (.cells #[x, y] T)).cell? ⟨W.heap.size + 1, 1, none⟩ = some y := by
  have e : W.heap.size + 1 = (W.alloc o).heap.size := by simp
  rw [e]
  exact newF _ x y T
theorem keptF {w1 w2 : World} {B : Nat} {v : Value} {l : List Wd.Fld} {x y : Value} {T : TypeId} {o : Obj} (h : OwnF w1 B v l) (hg : ((w1.alloc (.cells #[x, y] T)).alloc o).grownBy w2 v.ownBlock) : w2.cell? ⟨w1.heap.size, 0, none⟩ = some x := by
  have hb := hg.block w1.heap.size (by simp; omega) (fun e => Nat.lt_irrefl _ (h.lt _ e.symm).2)
  rw [World.cell?_of_block (a := ⟨w1.heap.size, 0, none⟩) hb, World.cell?_alloc_lt _ _ _ (by simp)]
  exact (newF w1 x y T).1
theorem wlen_of {l : List UInt8} {n : Nat} (hn : n ≤ l.length) (h1 : ∀ j, j < n → l[j]? ≠ some 32) (h2 : n = l.length ∨ l[n]? = some 32) : Wd.wlen l = n := by
  refine Wd.wlen_eq hn (fun j hj => ?_) (fun h => ?_)
  · have := h1 j hj
    rw [List.getElem?_eq_getElem (by omega)] at this
    simpa using this
  · rcases h2 with h2 | h2
    · omega
    · rw [List.getElem?_eq_getElem h] at h2
      simpa using h2
theorem rest_of {l r : List UInt8} {k n : Nat} (h : r <:+ l.drop k) (hn : n = l.length - k - r.length) : r = l.drop (k + n) := by
  have := Wd.drop_of_suffix h
  rw [List.length_drop, List.drop_drop, ← hn] at this
  exact this
theorem split3 {l : List UInt8} {acc : List Wd.Fld} {f : Wd.Fld} (h : Wd.split l = if longs (acc ++ [f]) || 64 < (acc ++ [f]).length then ([], 3) else (acc ++ [f], 0)) (hl : longs (acc ++ [f]) = true ∨ 64 < acc.length + 1) : Wd.split l = ([], 3) := by
  rw [h, if_pos]
  rcases hl with hl | hl
  · rw [hl]; rfl
  · simp [hl]
theorem split0 {l : List UInt8} {acc : List Wd.Fld} {f : Wd.Fld} (h : Wd.split l = if longs (acc ++ [f]) || 64 < (acc ++ [f]).length then ([], 3) else (acc ++ [f], 0)) (h1 : longs (acc ++ [f]) = false) (h2 : ¬ 64 < acc.length + 1) : Wd.split l = (acc ++ [f], 0) := by
  rw [h, if_neg]
  rw [h1]; simp; omega

end Go.Proofs.YtffkohdnhaebjaaGreatDoor
