/-
  Walks: the reference's decimal.
-/
import Derived.Test.YtgnhbccmdpkbiaaDoorW2
import Derived.Deep.Cut
namespace Go.Proofs.YtgnhbccmdpkbiaaDoor
open Go.RowKit

theorem ext1 (s : ByteArray) : (s.extract 1 s.size).data.toList = s.data.toList.tail := by
  rw [Go.Lib.extract_data, List.drop_one, List.take_of_length_le (by simp)]

/-- The part of decimal behind the sign. -/
theorem natDec_size0 {s : ByteArray} (h : s.size = 0) : Wd.natDec s.data.toList = false := by
  have : s.data.toList = [] := List.eq_nil_of_length_eq_zero (by rw [← size_list]; exact h)
  rw [this]; rfl
theorem natDec_zero {s : ByteArray} (h : 1 < s.size) (h0 : ((s[0].toNat : Int) == 48) = true) : Wd.natDec s.data.toList = false := by
  have e : s[0] = 48 := by rw [← UInt8.toNat_inj]; simp at h0; simp; omega
  rw [Wd.natDec_eq, ← size_list, decide_eq_true h, list_cons (s := s) (by omega), e]
  simp
theorem natDec_all {s : ByteArray} (h : 0 < s.size) (h0 : (h1 : 1 < s.size) → ((s[0].toNat : Int) == 48) = false) : Wd.natDec s.data.toList = s.data.toList.all Wd.digit := by
  rw [Wd.natDec_eq, ← size_list]
  have h1 : s.data.toList.isEmpty = false := by rw [list_cons h]; rfl
  have h2 : (decide (1 < s.size) && s.data.toList.head? == some 48) = false := by
    by_cases hs : 1 < s.size
    · have := h0 hs
      rw [decide_eq_true hs, Bool.true_and, list_cons h]
      simp at this ⊢
      intro e; rw [e] at this; simp at this
    · rw [decide_eq_false hs, Bool.false_and]
  rw [h1, h2]; rfl

def NegD (s : ByteArray) : Prop := ∃ h : 1 < s.size, ((s[0].toNat : Int) == 45) = true ∧ ((s[1].toNat : Int) != 48) = true
theorem decimal_of_neg {s : ByteArray} (h : NegD s) : Wd.decimal s.data.toList = Wd.natDec (s.extract 1 s.size).data.toList ∧ 0 < (s.extract 1 s.size).size := by
  obtain ⟨h1, h2, h3⟩ := h
  have e0 : s[0] = 45 := by rw [← UInt8.toNat_inj]; simp at h2; simp; omega
  have hc := list_cons (s := s) (by omega)
  rw [e0] at hc
  have hs : (s.extract 1 s.size).size = s.size - 1 := by simp
  have hc2 := list_cons (s := s.extract 1 s.size) (by omega)
  have e1 : (s.extract 1 s.size)[0]'(by omega) = s[1] := by
    have hk := congrArg (fun l => l[0]?) (ext1 s)
    simp only [List.getElem?_tail] at hk
    rw [List.getElem?_eq_getElem (by rw [← size_list]; omega), List.getElem?_eq_getElem (by rw [← size_list]; omega)] at hk
    exact Option.some.inj hk
  rw [e1] at hc2
  refine ⟨?_, by omega⟩
  rw [hc2]
  have ht := ext1 s
  rw [hc2] at ht
  rw [hc, ← ht]
  refine Wd.decimal_neg ?_
  intro e; rw [e] at h3; simp at h3
theorem decimal_of_pos {s : ByteArray} (h : ¬ NegD s) : Wd.decimal s.data.toList = Wd.natDec s.data.toList := by
  refine Wd.decimal_pos fun c t hl => ?_
  have hs : 1 < s.size := by rw [size_list, hl]; simp
  have e0 : s[0] = 45 := by
    have e : s.data.toList[0]'(by rw [hl]; simp) = 45 := by simp [hl]
    rw [← e]; rfl
  have e1 : s[1] = c := by
    have e : s.data.toList[1]'(by rw [hl]; simp) = c := by simp [hl]
    rw [← e]; rfl
  by_cases hcc : c = 48
  · exact hcc
  · exfalso; apply h
    refine ⟨hs, by rw [e0]; rfl, ?_⟩
    rw [e1]; simp; intro e; apply hcc; rw [← UInt8.toNat_inj]; simp; omega

end Go.Proofs.YtgnhbccmdpkbiaaDoor
