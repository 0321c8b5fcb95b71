/-
  Walks for layer 3 (faults): the reference's tree and Build.
-/
import Derived.Test.YtgnhbccmdpkbiaaDoorFaw1b
import Derived.Test.YtgnhbccmdpkbiaaDoorFaw2
import Derived.Test.YtgnhbccmdpkbiaaDoorW2
namespace Go.Proofs.YtgnhbccmdpkbiaaDoor
open Go.RowKit

theorem aggZ6 (x : Fa.Link) (w : World) : (Op.equalIn 10000 24 (.agg #[I64 x.kind, .string x.op, I64 x.backend, I64 x.conn]) (.agg #[I64 0, .string ⟨#[]⟩, I64 0, I64 0])).run Tryd.prog w = .ok (Fa.isZero x) w := by
  exact aggL 9998 x Fa.Link.zero w
/-- Where the tree ends. -/
def endAt (n : Nat) : Option (Fa.F × List Fa.Node) → Int
  | none => -1
  | some (_, r) => (n : Int) - (r.length : Int)
def Fit6 (l : List Fa.Node) : Prop := l.length ≤ 40 ∧ ∀ x ∈ l, x.depth ≤ 12 ∧ x.link.op.size ≤ maxLen
theorem took_drop {t : Fa.F} {k j : Nat} {d : Int} {l r : List Fa.Node} (h : Fa.Took t k d (l.drop j) r) (hj : j ≤ l.length) : ∃ j', j ≤ j' ∧ j' ≤ l.length ∧ r = l.drop j' ∧ (l.length : Int) - (r.length : Int) = (j' : Int) := by
  obtain ⟨p, h1, _, _⟩ := h.part
  have h2 := congrArg List.length h1
  rw [List.length_drop, List.length_append] at h2
  refine ⟨j + p.length, by omega, by omega, ?_, by omega⟩
  have h3 : (l.drop j).drop p.length = r := by rw [h1, List.drop_left]
  rw [List.drop_drop] at h3
  exact h3.symm
theorem cells6 {w wr : World} {b o : Nat} {l : List Fa.Node} (hb : b < w.heap.size) (hwr : Below w.heap.size w wr)
    (hc : ∀ j (hj : j < l.length) (i : Nat) (u : Value), (encNode l[j])[i]? = some u → w.cell? ⟨b, o + j * 6 + i, none⟩ = some u) : ∀ j (hj : j < l.length) (i : Nat) (u : Value), (encNode l[j])[i]? = some u → wr.cell? ⟨b, o + j * 6 + i, none⟩ = some u :=
  fun j hj i u hu => (hwr.cell (p := ⟨b, _, none⟩) hb).trans (hc j hj i u hu)

theorem ret_I {a b : Int} (h : a = b) : Ending.returned (I64 a) = .returned (I64 b) := by rw [h]
end Go.Proofs.YtgnhbccmdpkbiaaDoor
