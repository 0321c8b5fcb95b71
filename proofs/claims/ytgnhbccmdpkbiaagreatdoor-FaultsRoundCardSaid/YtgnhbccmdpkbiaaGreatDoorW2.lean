/-
  Walks of functions of strings: bare, names, decimal forms.
-/
import Derived.Test.YtgnhbccmdpkbiaaGreatDoorW1
import Derived.LoopTactic
namespace Go.Proofs.YtgnhbccmdpkbiaaGreatDoor
open Go.RowKit

theorem take_snoc (s : ByteArray) (k : Nat) (h : k < s.size) : s.data.toList.take (k + 1) = s.data.toList.take k ++ [s[k]] := by
  rw [List.take_succ_eq_append_getElem (by simpa using h)]; rfl
theorem all_snoc {s : ByteArray} {k : Nat} (h : k < s.size) (p : UInt8 → Bool) (h1 : (s.data.toList.take k).all p = true) (h2 : p s[k] = true) : (s.data.toList.take (k + 1)).all p = true := by
  rw [take_snoc s k h, List.all_append, h1]; simp [h2]
theorem all_not {s : ByteArray} {k : Nat} (h : k < s.size) (p : UInt8 → Bool) (h2 : p s[k] = false) : s.data.toList.all p = false := by
  rw [List.all_eq_false]
  exact ⟨s[k], by simp [ByteArray.getElem_eq_getElem_data], by simp [h2]⟩
theorem all_done {s : ByteArray} {k : Nat} (h : s.size ≤ k) (p : UInt8 → Bool) (h1 : (s.data.toList.take k).all p = true) : s.data.toList.all p = true := by
  rwa [List.take_of_length_le (by simpa using h)] at h1

theorem bareCh_yes {c : UInt8} (hp : Wd.plain c = true) (h : ((c.toNat : Int) == 32) = false) : Wd.bareCh c = true := by
  unfold Wd.bareCh; rw [hp]; simp at h ⊢; intro e; subst e; simp at h
theorem bareCh_sp {c : UInt8} (h : ((c.toNat : Int) == 32) = true) : Wd.bareCh c = false := by
  have : c = 32 := by rw [← UInt8.toNat_inj]; simp at h; simp; omega
  subst this; decide
theorem bareCh_np {c : UInt8} (hp : ¬ Wd.plain c = true) : Wd.bareCh c = false := by
  unfold Wd.bareCh; simp at hp; rw [hp]; rfl
theorem bare_false {s : ByteArray} (h : s.data.toList.all Wd.bareCh = false) : Wd.bare s.data.toList = false := by
  unfold Wd.bare; rw [h]; rfl
theorem bare_true {s : ByteArray} (h : s.data.toList.all Wd.bareCh = true) : Wd.bare s.data.toList = decide (0 < s.size) := by
  unfold Wd.bare; rw [h, Bool.true_and, Bool.eq_iff_iff]
  have : s.size = s.data.toList.length := by simp
  rw [this]
  cases s.data.toList <;> simp
theorem bare_true' {s : ByteArray} (h : s.data.toList.all Wd.bareCh = true) : Wd.bare s.data.toList = !s.toList.isEmpty := by
  unfold Wd.bare; rw [h, Bool.true_and, Go.Lib.toList_data]

theorem list_cons {s : ByteArray} (h : 0 < s.size) : s.data.toList = s[0] :: s.data.toList.tail := by
  have hl : 0 < s.data.toList.length := by simpa using h
  cases hd : s.data.toList with
  | nil => rw [hd] at hl; simp at hl
  | cons c t =>
    have : s[0] = c := by
      have e : s.data.toList[0] = c := by simp [hd]
      rw [← e]; rfl
    rw [this]; rfl
theorem size_list (s : ByteArray) : s.size = s.data.toList.length := by simp

theorem nameCh_l {c : UInt8} (h : Wd.lower c = true) : Wd.nameCh c = true := by simp [Wd.nameCh, h]
theorem nameCh_d {c : UInt8} (h : Wd.digit c = true) : Wd.nameCh c = true := by simp [Wd.nameCh, h]
theorem nameCh_h {c : UInt8} (h : ((c.toNat : Int) != 45) = false) : Wd.nameCh c = true := by
  have : c = 45 := by rw [← UInt8.toNat_inj]; simp at h; simp; omega
  subst this; decide
theorem nameCh_n {c : UInt8} (h1 : ¬ Wd.lower c = true) (h2 : ¬ Wd.digit c = true) (h : ((c.toNat : Int) != 45) = true) : Wd.nameCh c = false := by
  simp at h1 h2 h
  have : (c == 45) = false := by rw [beq_eq_false_iff_ne]; intro e; subst e; simp at h
  unfold Wd.nameCh; rw [h1, h2, this]; rfl

set_option maxHeartbeats 2000000 in
set_option maxRecDepth 100000 in
theorem rname_any (s : ByteArray) (w : World) (hs : s.size ≤ maxLen) : Calls Tryz.prog 45 #[.string s] w fun e w' => e = .returned (.bool (Wd.name s.data.toList)) ∧ w = w' := by
  unfold maxLen at hs
  by_cases h1 : s.size < 1
  · go_enter Tryz.func45, Tryz.ntmps45
    go_wp2
    go_ret
    exact ⟨ret_bool (by rw [Wd.name_empty (by rw [← size_list]; exact h1)]), rfl⟩
  by_cases h16 : 16 < s.size
  · go_enter Tryz.func45, Tryz.ntmps45
    go_wp2
    go_ret
    exact ⟨ret_bool (by rw [Wd.name_long (by rw [← size_list]; exact h16)]), rfl⟩
  have hc := list_cons (s := s) (by omega)
  have hpos : 0 < s.size := by omega
  cases hl : Wd.lower s[0]
  · have HN : Hid (Wd.name s.data.toList = false) := by rw [hc]; exact Wd.name_head hl
    clear hc
    go_enter Tryz.func45, Tryz.ntmps45
    go_wp2_with (go_at_call 62; refine (lower_any _ _).mono ?_; rintro e w' ⟨rfl, rfl⟩)
    go_ret
    exact ⟨ret_bool (by rw [HN.out]), rfl⟩
  · have HN : Hid (Wd.name s.data.toList = s.data.toList.all Wd.nameCh) := by
      show Wd.name s.data.toList = _
      have hlen : s.data.toList.length ≤ 16 := by rw [← size_list]; omega
      rw [hc] at hlen ⊢; exact Wd.name_all hl hlen
    clear hc
    go_enter Tryz.func45, Tryz.ntmps45
    go_wp2_with (go_at_call 62; refine (lower_any _ _).mono ?_; rintro e w' ⟨rfl, rfl⟩)
    go_loop [3] (fun i => ∃ k : Nat, k ≤ s.size ∧ i = .int .i64 k ∧ (s.data.toList.take k).all Wd.nameCh = true) (fun i => s.size - (intOf i).toNat)
    case atStart => exact ⟨0, Nat.zero_le _, rfl, rfl⟩
    case round =>
      obtain ⟨k, hk, rfl, ha⟩ := hrel
      by_cases hlt : k < s.size
      · have hidx := all_snoc (p := Wd.nameCh) hlt ha
        have hno := all_not (p := Wd.nameCh) hlt
        clear ha hl
        generalize hc : s[k] = c at *
        go_wp2_with (first | (go_at_call 62; refine (lower_any _ _).mono ?_; rintro e w' ⟨rfl, rfl⟩) | (go_at_call 63; refine (digit_any _ _).mono ?_; rintro e w' ⟨rfl, rfl⟩))
        · go_round
          case rel => exact ⟨k + 1, by omega, by go_num, hidx (nameCh_l ‹_›)⟩
          case measure => simp [intOf]; omega
        · go_round
          case rel => exact ⟨k + 1, by omega, by go_num, hidx (nameCh_d ‹_›)⟩
          case measure => simp [intOf]; omega
        · go_ret
          exact ⟨ret_bool (by rw [HN.out, hno (nameCh_n ‹_› ‹_› ‹_›)]), rfl⟩
        · go_round
          case rel => exact ⟨k + 1, by omega, by go_num, hidx (nameCh_h ‹_›)⟩
          case measure => simp [intOf]; omega
      · have hd := all_done (p := Wd.nameCh) (by omega) ha
        clear ha
        go_wp2
        go_ret
        exact ⟨ret_bool (by rw [HN.out, hd]), rfl⟩
end Go.Proofs.YtgnhbccmdpkbiaaGreatDoor
