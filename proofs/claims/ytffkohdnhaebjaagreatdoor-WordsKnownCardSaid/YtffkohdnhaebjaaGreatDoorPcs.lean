/-
  Where the pieces of a string that is cut at a byte begin.
-/
import Derived.Test.YtffkohdnhaebjaaGreatDoorW17
import Derived.Test.YtffkohdnhaebjaaGreatDoorPlain
import Derived.WalkSpells
namespace Go.Proofs.YtffkohdnhaebjaaGreatDoor
open Go.RowKit Go.Shelf

theorem pcC_take {c : UInt8} {s : ByteArray} {k : Nat} (h : k < s.size) : Wd.pcs c (s.data.toList.take (k + 1)) = if s[k] == c then ((Wd.pcs c (s.data.toList.take k)).1 ++ [(Wd.pcs c (s.data.toList.take k)).2], []) else ((Wd.pcs c (s.data.toList.take k)).1, (Wd.pcs c (s.data.toList.take k)).2 ++ [s[k]]) := by
  rw [take_snoc s k h, Wd.pcs_snoc]
/-- Where the piece that is not complete begins. -/
def FromC (c : UInt8) (s : ByteArray) (k f : Nat) : Prop := f ≤ k ∧ (Wd.pcs c (s.data.toList.take k)).2 = (s.data.toList.take k).drop f
theorem fromC_step {c : UInt8} {s : ByteArray} {k f : Nat} (hk : k < s.size) (h : FromC c s k f) (hc : (s[k] == c) = false) : FromC c s (k + 1) f := by
  refine ⟨by have := h.1; omega, ?_⟩
  rw [pcC_take hk, hc, take_snoc s k hk]
  simp only [Bool.false_eq_true, if_false]
  rw [h.2, List.drop_append_of_le_length]
  rw [List.length_take, ← size_list]
  have := h.1
  omega
theorem fromC_cut {c : UInt8} {s : ByteArray} {k : Nat} (hk : k < s.size) (hc : (s[k] == c) = true) : FromC c s (k + 1) (k + 1) := by
  refine ⟨Nat.le_refl _, ?_⟩
  rw [pcC_take hk, hc]
  simp only [if_true]
  rw [List.drop_eq_nil_of_le]
  rw [List.length_take]; omega
theorem fromC_ext {c : UInt8} {s : ByteArray} {k f : Nat} (h : FromC c s k f) : (s.extract f k) = ⟨((Wd.pcs c (s.data.toList.take k)).2).toArray⟩ := by
  apply ByteArray.ext
  apply Array.ext'
  rw [h.2, List.drop_take]
  simp
theorem pcC_step {c : UInt8} {s : ByteArray} {k : Nat} (hk : k < s.size) (hc : (s[k] == c) = false) : (Wd.pcs c (s.data.toList.take (k + 1))).1 = (Wd.pcs c (s.data.toList.take k)).1 := by
  rw [pcC_take hk, hc]; rfl
theorem pcC_cut {c : UInt8} {s : ByteArray} {k : Nat} (hk : k < s.size) (hc : (s[k] == c) = true) : (Wd.pcs c (s.data.toList.take (k + 1))).1 = (Wd.pcs c (s.data.toList.take k)).1 ++ [(Wd.pcs c (s.data.toList.take k)).2] := by
  rw [pcC_take hk, hc]; rfl
theorem pcC_le (c : UInt8) (s : ByteArray) (k : Nat) : (Wd.pcs c (s.data.toList.take k)).1.length ≤ k := by
  have := Wd.pcs_len c (s.data.toList.take k)
  rw [List.length_take] at this
  omega

end Go.Proofs.YtffkohdnhaebjaaGreatDoor
