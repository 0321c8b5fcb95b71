/-
  Walks: the reference's decimal.
-/
import Derived.Test.YtgnhbccmdpkbiaaGreatDoorW2
import Derived.Deep.Cut
namespace Go.Proofs.YtgnhbccmdpkbiaaGreatDoor
open Go.RowKit

theorem ext1 (s : ByteArray) : (s.extract 1 s.size).data.toList = s.data.toList.tail := by
  rw [Go.Lib.extract_data, List.drop_one, List.take_of_length_le (by simp)]

/-- The part of decimal behind the sign. -/
theorem natDec_size0 {s : ByteArray} (h : s.size = 0) : Wd.natDec s.data.toList = false := by
  have : s.data.toList = [] := List.eq_nil_of_length_eq_zero (by rw [← size_list]; exact h)
  rw [this]; rfl
theorem natDec_zero {s : ByteArray} (h : 1 < s.size) (h0 : ((s[0].toNat : Int) == 48) = true) : Wd.natDec s.data.toList = false := by
  have e : s[0] = 48 := by rw [← UInt8.toNat_inj]; simp at h0; simp; omega
  rw [Wd.natDec_eq, ← size_list, decide_eq_true h, list_cons (s := s) (by omega), e]
  simp
theorem natDec_all {s : ByteArray} (h : 0 < s.size) (h0 : (h1 : 1 < s.size) → ((s[0].toNat : Int) == 48) = false) : Wd.natDec s.data.toList = s.data.toList.all Wd.digit := by
  rw [Wd.natDec_eq, ← size_list]
  have h1 : s.data.toList.isEmpty = false := by rw [list_cons h]; rfl
  have h2 : (decide (1 < s.size) && s.data.toList.head? == some 48) = false := by
    by_cases hs : 1 < s.size
    · have := h0 hs
      rw [decide_eq_true hs, Bool.true_and, list_cons h]
      simp at this ⊢
      intro e; rw [e] at this; simp at this
    · rw [decide_eq_false hs, Bool.false_and]
  rw [h1, h2]; rfl

def NegD (s : ByteArray) : Prop := ∃ h : 1 < s.size, ((s[0].toNat : Int) == 45) = true ∧ ((s[1].toNat : Int) != 48) = true
theorem decimal_of_neg {s : ByteArray} (h : NegD s) : Wd.decimal s.data.toList = Wd.natDec (s.extract 1 s.size).data.toList ∧ 0 < (s.extract 1 s.size).size := by
  obtain ⟨h1, h2, h3⟩ := h
  have e0 : s[0] = 45 := by rw [← UInt8.toNat_inj]; simp at h2; simp; omega
  have hc := list_cons (s := s) (by omega)
  rw [e0] at hc
  have hs : (s.extract 1 s.size).size = s.size - 1 := by simp
  have hc2 := list_cons (s := s.extract 1 s.size) (by omega)
  have e1 : (s.extract 1 s.size)[0]'(by omega) = s[1] := by
    have hk := congrArg (fun l => l[0]?) (ext1 s)
    simp only [List.getElem?_tail] at hk
    rw [List.getElem?_eq_getElem (by rw [← size_list]; omega), List.getElem?_eq_getElem (by rw [← size_list]; omega)] at hk
    exact Option.some.inj hk
  rw [e1] at hc2
  refine ⟨?_, by omega⟩
  rw [hc2]
  have ht := ext1 s
  rw [hc2] at ht
  rw [hc, ← ht]
  refine Wd.decimal_neg ?_
  intro e; rw [e] at h3; simp at h3
theorem decimal_of_pos {s : ByteArray} (h : ¬ NegD s) : Wd.decimal s.data.toList = Wd.natDec s.data.toList := by
  refine Wd.decimal_pos fun c t hl => ?_
  have hs : 1 < s.size := by rw [size_list, hl]; simp
  have e0 : s[0] = 45 := by
    have e : s.data.toList[0]'(by rw [hl]; simp) = 45 := by simp [hl]
    rw [← e]; rfl
  have e1 : s[1] = c := by
    have e : s.data.toList[1]'(by rw [hl]; simp) = c := by simp [hl]
    rw [← e]; rfl
  by_cases hcc : c = 48
  · exact hcc
  · exfalso; apply h
    refine ⟨hs, by rw [e0]; rfl, ?_⟩
    rw [e1]; simp; intro e; apply hcc; rw [← UInt8.toNat_inj]; simp; omega

set_option maxHeartbeats 2000000 in
set_option maxRecDepth 100000 in
theorem rdecimal_neg (s : ByteArray) (w : World) (hs : s.size ≤ maxLen) (hn : NegD s) : Calls Tryz.prog 116 #[.string s] w fun e w' => e = .returned (.bool (Wd.decimal s.data.toList)) ∧ w = w' := by
  unfold maxLen at hs
  obtain ⟨HD0, htpos⟩ := decimal_of_neg hn
  have HD : Hid (Wd.decimal s.data.toList = Wd.natDec (s.extract 1 s.size).data.toList) := HD0
  clear HD0
  have hsz' : (s.extract 1 s.size).size ≤ s.size := by simp
  have HP : Hid (0 < (s.extract 1 s.size).size) := htpos
  have HS : Hid ((s.extract 1 s.size).size ≤ s.size) := hsz'
  clear htpos hsz'
  obtain ⟨h1, h2, h3⟩ := hn
  go_enter Tryz.func116, Tryz.ntmps116
  go_upto_region 3 with (fail)
  generalize s.extract 1 s.size = t at HD HP HS ⊢
  generalize (s[0].toNat : Int) = q0 at h2 ⊢
  generalize (s[1].toNat : Int) = q1 at h3 ⊢
  clear h2 h3
  have hts := HS.out
  have ht0 := HP.out

  by_cases z0 : t.size = 0
  · have HF : Hid (Wd.natDec t.data.toList = false) := natDec_size0 z0
    go_wp2
    all_goals (go_ret; exact ⟨ret_bool (by rw [HD.out, HF.out]), rfl⟩)
  have z0' : ((t.size : Int) == 0) = false := by rw [beq_eq_false_iff_ne]; omega
  by_cases z1 : 1 < t.size
  · by_cases z2 : ((t[0].toNat : Int) == 48) = true
    · have HF : Hid (Wd.natDec t.data.toList = false) := natDec_zero z1 z2
      go_wp2
      all_goals first | (go_ret; exact ⟨ret_bool (by rw [HD.out, HF.out]), rfl⟩) | (exfalso; first | omega | (simp_all; done))
    · have z3 : ((t[0].toNat : Int) == 48) = false := by simpa using z2
      have HF : Hid (Wd.natDec t.data.toList = t.data.toList.all Wd.digit) := natDec_all (by omega) (fun _ => z3)
      clear z2
      go_wp2
      go_loop [3] (fun i => ∃ k : Nat, k ≤ t.size ∧ i = .int .i64 k ∧ (t.data.toList.take k).all Wd.digit = true) (fun i => t.size - (intOf i).toNat)
      case atStart => exact ⟨0, Nat.zero_le _, rfl, rfl⟩
      case round =>
        obtain ⟨k, hk, rfl, ha⟩ := hrel
        by_cases hlt : k < t.size
        · have hidx := all_snoc (p := Wd.digit) hlt ha
          have hno := all_not (p := Wd.digit) hlt
          clear ha
          generalize hc : t[k] = c at *
          go_wp2_with (go_at_call 63; refine (digit_any _ _).mono ?_; rintro e w' ⟨rfl, rfl⟩)
          all_goals first
            | (go_ret; exact ⟨ret_bool (by rw [HD.out, HF.out, hno (by simp_all)]), rfl⟩)
            | (go_round; (case rel => exact ⟨k + 1, by omega, by go_num, hidx (by simp_all)⟩); (case measure => simp [intOf]; omega))
        · have hd := all_done (p := Wd.digit) (by omega) ha
          clear ha
          go_wp2
          all_goals (go_ret; exact ⟨ret_bool (by rw [HD.out, HF.out, hd]), rfl⟩)
  · have HF : Hid (Wd.natDec t.data.toList = t.data.toList.all Wd.digit) := natDec_all (by omega) (fun h => absurd h z1)
    go_wp2
    go_loop [3] (fun i => ∃ k : Nat, k ≤ t.size ∧ i = .int .i64 k ∧ (t.data.toList.take k).all Wd.digit = true) (fun i => t.size - (intOf i).toNat)
    case atStart => exact ⟨0, Nat.zero_le _, rfl, rfl⟩
    case round =>
      obtain ⟨k, hk, rfl, ha⟩ := hrel
      by_cases hlt : k < t.size
      · have hidx := all_snoc (p := Wd.digit) hlt ha
        have hno := all_not (p := Wd.digit) hlt
        clear ha
        generalize hc : t[k] = c at *
        go_wp2_with (go_at_call 63; refine (digit_any _ _).mono ?_; rintro e w' ⟨rfl, rfl⟩)
        all_goals first
          | (go_ret; exact ⟨ret_bool (by rw [HD.out, HF.out, hno (by simp_all)]), rfl⟩)
          | (go_round; (case rel => exact ⟨k + 1, by omega, by go_num, hidx (by simp_all)⟩); (case measure => simp [intOf]; omega))
      · have hd := all_done (p := Wd.digit) (by omega) ha
        clear ha
        go_wp2
        all_goals (go_ret; exact ⟨ret_bool (by rw [HD.out, HF.out, hd]), rfl⟩)

set_option maxHeartbeats 2000000 in
set_option maxRecDepth 100000 in
theorem rdecimal_pos (t : ByteArray) (w : World) (hs : t.size ≤ maxLen) (hn : ¬ NegD t) : Calls Tryz.prog 116 #[.string t] w fun e w' => e = .returned (.bool (Wd.decimal t.data.toList)) ∧ w = w' := by
  unfold maxLen at hs
  have HD : Hid (Wd.decimal t.data.toList = Wd.natDec t.data.toList) := decimal_of_pos hn
  by_cases h1 : 1 < t.size
  · by_cases h2 : ((t[0].toNat : Int) == 45) = true
    · have h3 : ((t[1].toNat : Int) != 48) = false := by
        cases h3 : ((t[1].toNat : Int) != 48)
        · rfl
        · exact absurd ⟨h1, h2, h3⟩ hn
      clear hn
      go_enter Tryz.func116, Tryz.ntmps116
      go_upto_region 3 with (fail)

      by_cases z0 : t.size = 0
      · have HF : Hid (Wd.natDec t.data.toList = false) := natDec_size0 z0
        go_wp2
        all_goals first | (go_ret; exact ⟨ret_bool (by rw [HD.out, HF.out]), rfl⟩) | (exfalso; first | omega | (simp_all; done))
      have z0' : ((t.size : Int) == 0) = false := by rw [beq_eq_false_iff_ne]; omega
      by_cases z1 : 1 < t.size
      · by_cases z2 : ((t[0].toNat : Int) == 48) = true
        · have HF : Hid (Wd.natDec t.data.toList = false) := natDec_zero z1 z2
          go_wp2
          all_goals first | (go_ret; exact ⟨ret_bool (by rw [HD.out, HF.out]), rfl⟩) | (exfalso; first | omega | (simp_all; done))
        · have z3 : ((t[0].toNat : Int) == 48) = false := by simpa using z2
          have HF : Hid (Wd.natDec t.data.toList = t.data.toList.all Wd.digit) := natDec_all (by omega) (fun _ => z3)
          clear z2
          go_wp2
          go_loop [3] (fun i => ∃ k : Nat, k ≤ t.size ∧ i = .int .i64 k ∧ (t.data.toList.take k).all Wd.digit = true) (fun i => t.size - (intOf i).toNat)
          case atStart => exact ⟨0, Nat.zero_le _, rfl, rfl⟩
          case round =>
            obtain ⟨k, hk, rfl, ha⟩ := hrel
            by_cases hlt : k < t.size
            · have hidx := all_snoc (p := Wd.digit) hlt ha
              have hno := all_not (p := Wd.digit) hlt
              clear ha
              generalize hc : t[k] = c at *
              go_wp2_with (go_at_call 63; refine (digit_any _ _).mono ?_; rintro e w' ⟨rfl, rfl⟩)
              all_goals first
                | (go_ret; exact ⟨ret_bool (by rw [HD.out, HF.out, hno (by simp_all)]), rfl⟩)
                | (go_round; (case rel => exact ⟨k + 1, by omega, by go_num, hidx (by simp_all)⟩); (case measure => simp [intOf]; omega))
            · have hd := all_done (p := Wd.digit) (by omega) ha
              clear ha
              go_wp2
              all_goals (go_ret; exact ⟨ret_bool (by rw [HD.out, HF.out, hd]), rfl⟩)
      · exact absurd h1 z1

    · have h2' : ((t[0].toNat : Int) == 45) = false := by simpa using h2
      clear hn h2
      go_enter Tryz.func116, Tryz.ntmps116
      go_upto_region 3 with (fail)

      by_cases z0 : t.size = 0
      · have HF : Hid (Wd.natDec t.data.toList = false) := natDec_size0 z0
        go_wp2
        all_goals first | (go_ret; exact ⟨ret_bool (by rw [HD.out, HF.out]), rfl⟩) | (exfalso; first | omega | (simp_all; done))
      have z0' : ((t.size : Int) == 0) = false := by rw [beq_eq_false_iff_ne]; omega
      by_cases z1 : 1 < t.size
      · by_cases z2 : ((t[0].toNat : Int) == 48) = true
        · have HF : Hid (Wd.natDec t.data.toList = false) := natDec_zero z1 z2
          go_wp2
          all_goals first | (go_ret; exact ⟨ret_bool (by rw [HD.out, HF.out]), rfl⟩) | (exfalso; first | omega | (simp_all; done))
        · have z3 : ((t[0].toNat : Int) == 48) = false := by simpa using z2
          have HF : Hid (Wd.natDec t.data.toList = t.data.toList.all Wd.digit) := natDec_all (by omega) (fun _ => z3)
          clear z2
          go_wp2
          go_loop [3] (fun i => ∃ k : Nat, k ≤ t.size ∧ i = .int .i64 k ∧ (t.data.toList.take k).all Wd.digit = true) (fun i => t.size - (intOf i).toNat)
          case atStart => exact ⟨0, Nat.zero_le _, rfl, rfl⟩
          case round =>
            obtain ⟨k, hk, rfl, ha⟩ := hrel
            by_cases hlt : k < t.size
            · have hidx := all_snoc (p := Wd.digit) hlt ha
              have hno := all_not (p := Wd.digit) hlt
              clear ha
              generalize hc : t[k] = c at *
              go_wp2_with (go_at_call 63; refine (digit_any _ _).mono ?_; rintro e w' ⟨rfl, rfl⟩)
              all_goals first
                | (go_ret; exact ⟨ret_bool (by rw [HD.out, HF.out, hno (by simp_all)]), rfl⟩)
                | (go_round; (case rel => exact ⟨k + 1, by omega, by go_num, hidx (by simp_all)⟩); (case measure => simp [intOf]; omega))
            · have hd := all_done (p := Wd.digit) (by omega) ha
              clear ha
              go_wp2
              all_goals (go_ret; exact ⟨ret_bool (by rw [HD.out, HF.out, hd]), rfl⟩)
      · exact absurd h1 z1

  · clear hn
    go_enter Tryz.func116, Tryz.ntmps116
    go_upto_region 3 with (fail)

    by_cases z0 : t.size = 0
    · have HF : Hid (Wd.natDec t.data.toList = false) := natDec_size0 z0
      go_wp2
      all_goals first | (go_ret; exact ⟨ret_bool (by rw [HD.out, HF.out]), rfl⟩) | (exfalso; first | omega | (simp_all; done))
    have z0' : ((t.size : Int) == 0) = false := by rw [beq_eq_false_iff_ne]; omega
    by_cases z1 : 1 < t.size
    · by_cases z2 : ((t[0].toNat : Int) == 48) = true
      · have HF : Hid (Wd.natDec t.data.toList = false) := natDec_zero z1 z2
        go_wp2
        all_goals first | (go_ret; exact ⟨ret_bool (by rw [HD.out, HF.out]), rfl⟩) | (exfalso; first | omega | (simp_all; done))
      · have z3 : ((t[0].toNat : Int) == 48) = false := by simpa using z2
        have HF : Hid (Wd.natDec t.data.toList = t.data.toList.all Wd.digit) := natDec_all (by omega) (fun _ => z3)
        clear z2
        go_wp2
        go_loop [3] (fun i => ∃ k : Nat, k ≤ t.size ∧ i = .int .i64 k ∧ (t.data.toList.take k).all Wd.digit = true) (fun i => t.size - (intOf i).toNat)
        case atStart => exact ⟨0, Nat.zero_le _, rfl, rfl⟩
        case round =>
          obtain ⟨k, hk, rfl, ha⟩ := hrel
          by_cases hlt : k < t.size
          · have hidx := all_snoc (p := Wd.digit) hlt ha
            have hno := all_not (p := Wd.digit) hlt
            clear ha
            generalize hc : t[k] = c at *
            go_wp2_with (go_at_call 63; refine (digit_any _ _).mono ?_; rintro e w' ⟨rfl, rfl⟩)
            all_goals first
              | (go_ret; exact ⟨ret_bool (by rw [HD.out, HF.out, hno (by simp_all)]), rfl⟩)
              | (go_round; (case rel => exact ⟨k + 1, by omega, by go_num, hidx (by simp_all)⟩); (case measure => simp [intOf]; omega))
          · have hd := all_done (p := Wd.digit) (by omega) ha
            clear ha
            go_wp2
            all_goals (go_ret; exact ⟨ret_bool (by rw [HD.out, HF.out, hd]), rfl⟩)
    · have HF : Hid (Wd.natDec t.data.toList = t.data.toList.all Wd.digit) := natDec_all (by omega) (fun h => absurd h z1)
      go_wp2
      go_loop [3] (fun i => ∃ k : Nat, k ≤ t.size ∧ i = .int .i64 k ∧ (t.data.toList.take k).all Wd.digit = true) (fun i => t.size - (intOf i).toNat)
      case atStart => exact ⟨0, Nat.zero_le _, rfl, rfl⟩
      case round =>
        obtain ⟨k, hk, rfl, ha⟩ := hrel
        by_cases hlt : k < t.size
        · have hidx := all_snoc (p := Wd.digit) hlt ha
          have hno := all_not (p := Wd.digit) hlt
          clear ha
          generalize hc : t[k] = c at *
          go_wp2_with (go_at_call 63; refine (digit_any _ _).mono ?_; rintro e w' ⟨rfl, rfl⟩)
          all_goals first
            | (go_ret; exact ⟨ret_bool (by rw [HD.out, HF.out, hno (by simp_all)]), rfl⟩)
            | (go_round; (case rel => exact ⟨k + 1, by omega, by go_num, hidx (by simp_all)⟩); (case measure => simp [intOf]; omega))
        · have hd := all_done (p := Wd.digit) (by omega) ha
          clear ha
          go_wp2
          all_goals (go_ret; exact ⟨ret_bool (by rw [HD.out, HF.out, hd]), rfl⟩)

theorem rdecimal_any (s : ByteArray) (w : World) (hs : s.size ≤ maxLen) : Calls Tryz.prog 116 #[.string s] w fun e w' => e = .returned (.bool (Wd.decimal s.data.toList)) ∧ w = w' := by
  by_cases hn : NegD s
  · exact rdecimal_neg s w hs hn
  · exact rdecimal_pos s w hs hn
end Go.Proofs.YtgnhbccmdpkbiaaGreatDoor
