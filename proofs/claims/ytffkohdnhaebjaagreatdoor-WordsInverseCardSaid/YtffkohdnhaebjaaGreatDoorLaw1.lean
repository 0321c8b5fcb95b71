/-
  Walks: the statements WordsNames, WordsQuotes, WordsSplits.
-/
import Derived.Test.YtffkohdnhaebjaaGreatDoorW23
import Derived.Test.YtffkohdnhaebjaaGreatDoorW8
import Derived.Test.YtffkohdnhaebjaaGreatDoorW13
namespace Go.Proofs.YtffkohdnhaebjaaGreatDoor
open Go.RowKit Go.Shelf

def TrueB (w : World) (e : Ending) (w' : World) : Prop := e = .returned (.bool true) ∧ Below w.heap.size w w'

theorem split_le (l : List UInt8) : (Wd.split l).1.length ≤ 64 := by
  unfold Wd.split
  split
  · simp
  · split
    · simp
    · split
      · simp
      · split
        · simp
        · rename_i h
          simp only [Bool.or_eq_true, decide_eq_true_eq, not_or] at h
          exact Nat.le_of_not_lt h.2
end Go.Proofs.YtffkohdnhaebjaaGreatDoor
