/-
  append on one of several owned slices: where the new value's block lies.
-/
import Derived.Test.YtaicmiadgnpimaaGen
import Derived.Maps.AppendAt
namespace Go.Proofs.Ytaicmiadgnpimaa
open Go.RowKit

section
variable {α : Type} {P : Program} {S T : TypeId} {n b : Nat} {z : Value} {enc : α → List Value}
theorem OwnL.kept {w w' : World} {B : Nat} {v : Value} {l : List α} {row : Option Nat} (h : OwnL T n enc w B v l) (hg : w.grownBy w' row) (hne : v.ownBlock = none ∨ v.ownBlock ≠ row) : OwnL T n enc w' B v l := World.ownsRow.kept h hg hne
/-- Two owned slices lie apart. -/
def Apart2 (u v : Value) : Prop := ∀ k, u.ownBlock = some k → v.ownBlock = some k → False
theorem Apart2.symm {u v : Value} (h : Apart2 u v) : Apart2 v u := fun k a b => h k b a
theorem Apart2.nil (v : Value) (a : Nat) : Apart2 (.slice none a a) v := fun _ h => by simp [Value.ownBlock] at h
theorem Apart2.ne {u v : Value} (h : Apart2 u v) : v.ownBlock = none ∨ v.ownBlock ≠ u.ownBlock := by
  cases e : v.ownBlock with
  | none => exact .inl rfl
  | some k => exact .inr fun e2 => h k e2.symm e
end
end Go.Proofs.Ytaicmiadgnpimaa
