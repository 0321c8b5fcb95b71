/-
  Walks: Lines of words and of the reference.
-/
import Derived.Test.YtffkohdnhaebjaaGreatDoorW17
import Derived.Test.YtffkohdnhaebjaaGreatDoorPlain
import Derived.WalkSpells
namespace Go.Proofs.YtffkohdnhaebjaaGreatDoor
open Go.RowKit Go.Shelf

theorem lines_big {l : List UInt8} (h : 1048576 < l.length) : Wd.lines l = ([], 3) := by unfold Wd.lines; rw [if_pos h]
theorem lines_nil {l : List UInt8} (h : l.length = 0) : Wd.lines l = ([], 0) := by rw [List.eq_nil_of_length_eq_zero h]; rfl
theorem lines_form {l : List UInt8} (h : ¬ 1048576 < l.length) (h0 : l.length ≠ 0) (h1 : l.getLast? ≠ some 10) : Wd.lines l = ([], 6) := by
  unfold Wd.lines; rw [if_neg h, if_neg (by intro e; rw [e] at h0; exact h0 rfl), if_pos h1]
theorem lines_many {l : List UInt8} (h : ¬ 1048576 < l.length) (h0 : l.length ≠ 0) (h1 : l.getLast? = some 10) (h2 : 5000 < (Wd.cutAt 10 l.dropLast).length) : Wd.lines l = ([], 3) := by
  unfold Wd.lines; rw [if_neg h, if_neg (by intro e; rw [e] at h0; exact h0 rfl), if_neg (by rw [h1]; simp), if_pos h2]
theorem lines_ok {l : List UInt8} (h : ¬ 1048576 < l.length) (h0 : l.length ≠ 0) (h1 : l.getLast? = some 10) (h2 : ¬ 5000 < (Wd.cutAt 10 l.dropLast).length) : Wd.lines l = (Wd.cutAt 10 l.dropLast, 0) := by
  unfold Wd.lines; rw [if_neg h, if_neg (by intro e; rw [e] at h0; exact h0 rfl), if_neg (by rw [h1]; simp), if_neg h2]
theorem suffix_last (l : List UInt8) : Lib.hasSuffix l [10] = decide (l.getLast? = some 10) := by
  unfold Lib.hasSuffix
  rw [Bool.eq_iff_iff, List.isSuffixOf_iff_suffix, decide_eq_true_eq]
  constructor
  · rintro ⟨t, rfl⟩; simp
  · intro h
    have hne : l ≠ [] := by intro e; rw [e] at h; simp at h
    refine ⟨l.dropLast, ?_⟩
    have e := List.dropLast_concat_getLast hne
    rw [List.getLast?_eq_some_getLast hne] at h
    rw [Option.some.inj h] at e
    exact e
theorem ext_last (s : ByteArray) : (s.extract 0 (s.size - 1)).data.toList = s.data.toList.dropLast := by
  simp
theorem reads_strs (W : World) (bs : List ByteArray) (T : TypeId) (c : Nat) : ReadsL 1 encS (W.alloc (.cells (bs.map Value.string).toArray T)) (.slice (some ⟨W.heap.size, 0, none⟩) (bs.map (·.data.toList)).length c) (bs.map (·.data.toList)) := by
  refine .inr ⟨W.heap.size, 0, c, rfl, by simp, fun j hj i u hu => ?_⟩
  match i, hu with
  | 0, hu =>
    have hj2 : j < bs.length := by simpa using hj
    simp [encS] at hu
    subst hu
    rw [World.cell?_alloc_at _ _ _ _ rfl]
    simp [hj2]
def LinesPost (l : List UInt8) (w : World) (e : Ending) (w' : World) : Prop := (∃ v, e = .returned (.tuple #[v, .int .i64 (Wd.lines l).2]) ∧ ReadsL 1 encS w' v (Wd.lines l).1) ∧ Below w.heap.size w w'
theorem LinesPost.bad {l : List UInt8} {w w' : World} {n : Int} (h : Wd.lines l = ([], n)) (hb : Below w.heap.size w w') : LinesPost l w (.returned (.tuple #[.slice none 0 0, .int .i64 n])) w' :=
  ⟨⟨_, by rw [h], by rw [h]; exact ReadsL.nil _⟩, hb⟩

theorem pcs_take {s : ByteArray} {k : Nat} (h : k < s.size) : Wd.pcs 10 (s.data.toList.take (k + 1)) = if s[k] == 10 then ((Wd.pcs 10 (s.data.toList.take k)).1 ++ [(Wd.pcs 10 (s.data.toList.take k)).2], []) else ((Wd.pcs 10 (s.data.toList.take k)).1, (Wd.pcs 10 (s.data.toList.take k)).2 ++ [s[k]]) := by
  rw [take_snoc s k h, Wd.pcs_snoc]
/-- Where the piece that is not complete begins. -/
def FromAt (s : ByteArray) (k f : Nat) : Prop := f ≤ k ∧ (Wd.pcs 10 (s.data.toList.take k)).2 = (s.data.toList.take k).drop f
theorem from_step {s : ByteArray} {k f : Nat} (hk : k < s.size) (h : FromAt s k f) (hc : (s[k] == 10) = false) : FromAt s (k + 1) f := by
  refine ⟨by have := h.1; omega, ?_⟩
  rw [pcs_take hk, hc, take_snoc s k hk]
  simp only [Bool.false_eq_true, if_false]
  rw [h.2, List.drop_append_of_le_length]
  rw [List.length_take, ← size_list]
  have := h.1
  omega
theorem from_cut {s : ByteArray} {k : Nat} (hk : k < s.size) (hc : (s[k] == 10) = true) : FromAt s (k + 1) (k + 1) := by
  refine ⟨Nat.le_refl _, ?_⟩
  rw [pcs_take hk, hc]
  simp only [if_true]
  rw [List.drop_eq_nil_of_le]
  rw [List.length_take]; omega
theorem from_ext {s : ByteArray} {k f : Nat} (h : FromAt s k f) : (s.extract f k) = ⟨((Wd.pcs 10 (s.data.toList.take k)).2).toArray⟩ := by
  apply ByteArray.ext
  apply Array.ext'
  rw [h.2, List.drop_take]
  simp
theorem pcs_step {s : ByteArray} {k : Nat} (hk : k < s.size) (hc : (s[k] == 10) = false) : (Wd.pcs 10 (s.data.toList.take (k + 1))).1 = (Wd.pcs 10 (s.data.toList.take k)).1 := by
  rw [pcs_take hk, hc]; rfl
theorem pcs_cut {s : ByteArray} {k : Nat} (hk : k < s.size) (hc : (s[k] == 10) = true) : (Wd.pcs 10 (s.data.toList.take (k + 1))).1 = (Wd.pcs 10 (s.data.toList.take k)).1 ++ [(Wd.pcs 10 (s.data.toList.take k)).2] := by
  rw [pcs_take hk, hc]; rfl
theorem pcs_le (s : ByteArray) (k : Nat) : (Wd.pcs 10 (s.data.toList.take k)).1.length ≤ k := by
  have := Wd.pcs_len 10 (s.data.toList.take k)
  rw [List.length_take] at this
  omega

end Go.Proofs.YtffkohdnhaebjaaGreatDoor
