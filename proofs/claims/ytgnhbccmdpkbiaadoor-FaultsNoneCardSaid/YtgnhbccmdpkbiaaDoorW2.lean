/-
  Walks of functions of strings: bare, names, decimal forms.
-/
import Derived.Test.YtgnhbccmdpkbiaaDoorW1
import Derived.LoopTactic
namespace Go.Proofs.YtgnhbccmdpkbiaaDoor
open Go.RowKit

theorem take_snoc (s : ByteArray) (k : Nat) (h : k < s.size) : s.data.toList.take (k + 1) = s.data.toList.take k ++ [s[k]] := by
  rw [List.take_succ_eq_append_getElem (by simpa using h)]; rfl
theorem all_snoc {s : ByteArray} {k : Nat} (h : k < s.size) (p : UInt8 → Bool) (h1 : (s.data.toList.take k).all p = true) (h2 : p s[k] = true) : (s.data.toList.take (k + 1)).all p = true := by
  rw [take_snoc s k h, List.all_append, h1]; simp [h2]
theorem all_not {s : ByteArray} {k : Nat} (h : k < s.size) (p : UInt8 → Bool) (h2 : p s[k] = false) : s.data.toList.all p = false := by
  rw [List.all_eq_false]
  exact ⟨s[k], by simp [ByteArray.getElem_eq_getElem_data], by simp [h2]⟩
theorem all_done {s : ByteArray} {k : Nat} (h : s.size ≤ k) (p : UInt8 → Bool) (h1 : (s.data.toList.take k).all p = true) : s.data.toList.all p = true := by
  rwa [List.take_of_length_le (by simpa using h)] at h1

theorem bareCh_yes {c : UInt8} (hp : Wd.plain c = true) (h : ((c.toNat : Int) == 32) = false) : Wd.bareCh c = true := by
  unfold Wd.bareCh; rw [hp]; simp at h ⊢; intro e; subst e; simp at h
theorem bareCh_sp {c : UInt8} (h : ((c.toNat : Int) == 32) = true) : Wd.bareCh c = false := by
  have : c = 32 := by rw [← UInt8.toNat_inj]; simp at h; simp; omega
  subst this; decide
theorem bareCh_np {c : UInt8} (hp : ¬ Wd.plain c = true) : Wd.bareCh c = false := by
  unfold Wd.bareCh; simp at hp; rw [hp]; rfl
theorem bare_false {s : ByteArray} (h : s.data.toList.all Wd.bareCh = false) : Wd.bare s.data.toList = false := by
  unfold Wd.bare; rw [h]; rfl
theorem bare_true {s : ByteArray} (h : s.data.toList.all Wd.bareCh = true) : Wd.bare s.data.toList = decide (0 < s.size) := by
  unfold Wd.bare; rw [h, Bool.true_and, Bool.eq_iff_iff]
  have : s.size = s.data.toList.length := by simp
  rw [this]
  cases s.data.toList <;> simp
theorem bare_true' {s : ByteArray} (h : s.data.toList.all Wd.bareCh = true) : Wd.bare s.data.toList = !s.toList.isEmpty := by
  unfold Wd.bare; rw [h, Bool.true_and, Go.Lib.toList_data]

theorem list_cons {s : ByteArray} (h : 0 < s.size) : s.data.toList = s[0] :: s.data.toList.tail := by
  have hl : 0 < s.data.toList.length := by simpa using h
  cases hd : s.data.toList with
  | nil => rw [hd] at hl; simp at hl
  | cons c t =>
    have : s[0] = c := by
      have e : s.data.toList[0] = c := by simp [hd]
      rw [← e]; rfl
    rw [this]; rfl
theorem size_list (s : ByteArray) : s.size = s.data.toList.length := by simp

theorem nameCh_l {c : UInt8} (h : Wd.lower c = true) : Wd.nameCh c = true := by simp [Wd.nameCh, h]
theorem nameCh_d {c : UInt8} (h : Wd.digit c = true) : Wd.nameCh c = true := by simp [Wd.nameCh, h]
theorem nameCh_h {c : UInt8} (h : ((c.toNat : Int) != 45) = false) : Wd.nameCh c = true := by
  have : c = 45 := by rw [← UInt8.toNat_inj]; simp at h; simp; omega
  subst this; decide
theorem nameCh_n {c : UInt8} (h1 : ¬ Wd.lower c = true) (h2 : ¬ Wd.digit c = true) (h : ((c.toNat : Int) != 45) = true) : Wd.nameCh c = false := by
  simp at h1 h2 h
  have : (c == 45) = false := by rw [beq_eq_false_iff_ne]; intro e; subst e; simp at h
  unfold Wd.nameCh; rw [h1, h2, this]; rfl

end Go.Proofs.YtgnhbccmdpkbiaaDoor
