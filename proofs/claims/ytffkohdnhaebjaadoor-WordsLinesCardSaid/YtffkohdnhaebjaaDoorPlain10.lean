/-
  Plain functions for layer 1 (words): the library's Split at one byte is cutAt. No program in this text.
-/
import Derived.Test.YtffkohdnhaebjaaDoorPlain9
import Derived.Lib.Split
import Derived.Lib.SplitLaws
namespace Wd
open Go.Lib

theorem index_cons_eq (c : UInt8) (t : Str) : index (c :: t) [c] = 0 := by
  rw [index_one]; simp [indexByte]
theorem index_cons_ne (x c : UInt8) (t : Str) (h : x ≠ c) : index (x :: t) [c] = if index t [c] == -1 then -1 else index t [c] + 1 := by
  have hp : [c].isPrefixOf (x :: t) = false := by simp [List.isPrefixOf]; exact fun e => h e.symm
  rw [index, hp]; rfl
theorem splitK_cutAt (c : UInt8) : ∀ s : Str, splitK [c] 0 (count s [c]) s = cutAt c s
  | [] => rfl
  | x :: t => by
    have ih := splitK_cutAt c t
    by_cases h : x = c
    · subst h
      rw [count_cons_eq, Nat.add_comm, splitK, index_cons_eq]
      simp only [cutAt, beq_self_eq_true, if_true]
      rw [← ih]; rfl
    · rw [count_cons_ne _ _ _ h]
      have hb : (x == c) = false := beq_eq_false_iff_ne.2 h
      simp only [cutAt, hb]
      rw [← ih]
      cases hk : count t [c] with
      | zero => simp [splitK]
      | succ k =>
        have hex : ∃ i : Nat, index t [c] = i := by
          rcases index_spec t [c] with ⟨h1, _⟩ | ⟨i, h1, _⟩
          · rw [count_miss h1] at hk; omega
          · exact ⟨i, h1⟩
        obtain ⟨i, hi⟩ := hex
        have h1 : (index t [c] == -1) = false := by rw [hi, beq_eq_false_iff_ne]; omega
        have e : index (x :: t) [c] = ((i + 1 : Nat) : Int) := by rw [index_cons_ne _ _ _ h, h1, hi]; simp
        have h2 : (index (x :: t) [c] == -1) = false := by rw [e, beq_eq_false_iff_ne]; omega
        rw [splitK, splitK, h1, h2, hi, e]
        simp
theorem count_cutAt (c : UInt8) (s : Str) : (cutAt c s).length = count s [c] + 1 := by
  induction s with
  | nil => rfl
  | cons x t ih =>
    by_cases h : x = c
    · subst h; rw [count_cons_eq]; simp only [cutAt, beq_self_eq_true, if_true, List.length_cons, ih]; omega
    · rw [count_cons_ne _ _ _ h]
      have hb : (x == c) = false := beq_eq_false_iff_ne.2 h
      simp only [cutAt, hb]
      cases hc : cutAt c t with
      | nil => rw [hc] at ih; simp at ih
      | cons p r => rw [hc] at ih; simpa using ih
end Wd
