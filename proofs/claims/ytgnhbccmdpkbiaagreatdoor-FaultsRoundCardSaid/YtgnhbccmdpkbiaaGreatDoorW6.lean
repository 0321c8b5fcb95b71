/-
  Walks: isDecimal, Int, Digits of words.
-/
import Derived.Test.YtgnhbccmdpkbiaaGreatDoorW5
import Derived.Test.YtgnhbccmdpkbiaaGreatDoorPlain
import Derived.IntWalk
namespace Go.Proofs.YtgnhbccmdpkbiaaGreatDoor
open Go.RowKit Go.Shelf

def tp (s : ByteArray) : ByteArray := ⟨(Lib.trimPrefix s.data.toList [45]).toArray⟩
theorem tp_data (s : ByteArray) : (tp s).data.toList = Lib.trimPrefix s.data.toList [45] := rfl
theorem tp_size (s : ByteArray) : (tp s).size ≤ s.size := by
  have := Lib.trimPrefix_le s.data.toList [45]
  rw [size_list, size_list, tp_data]; exact this
theorem trim_digs_e (l : List UInt8) : (Lib.trimS l [48, 49, 50, 51, 52, 53, 54, 55, 56, 57]).isEmpty = l.all Wd.digit := by
  rw [isEmpty_beq]; exact Wd.trim_digs l

/-- words.Int and its reference end alike. -/
def intEnd (s : ByteArray) (lo hi : Int) : Ending := .returned (.tuple #[.int .i64 (Wd.intOfStr s.data.toList lo hi).1, .int .i64 (Wd.intOfStr s.data.toList lo hi).2])
theorem intEnd_form {s : ByteArray} {lo hi : Int} (h : Wd.decimal s.data.toList = false) : intEnd s lo hi = .returned (.tuple #[.int .i64 0, .int .i64 6]) := by
  unfold intEnd Wd.intOfStr; rw [h]; rfl
theorem intEnd_range {s : ByteArray} {lo hi : Int} (h : Wd.decimal s.data.toList = true)
    (h2 : ¬ (-9223372036854775808 ≤ Wd.intVal s.data.toList ∧ Wd.intVal s.data.toList ≤ 9223372036854775807 ∧ lo ≤ Wd.intVal s.data.toList ∧ Wd.intVal s.data.toList ≤ hi)) : intEnd s lo hi = .returned (.tuple #[.int .i64 0, .int .i64 7]) := by
  unfold intEnd Wd.intOfStr; rw [h, if_pos rfl, if_neg h2]
theorem intEnd_ok {s : ByteArray} {lo hi : Int} (h : Wd.decimal s.data.toList = true)
    (h2 : -9223372036854775808 ≤ Wd.intVal s.data.toList ∧ Wd.intVal s.data.toList ≤ 9223372036854775807 ∧ lo ≤ Wd.intVal s.data.toList ∧ Wd.intVal s.data.toList ≤ hi) : intEnd s lo hi = .returned (.tuple #[.int .i64 (Wd.intVal s.data.toList), .int .i64 0]) := by
  unfold intEnd Wd.intOfStr; rw [h, if_pos rfl, if_pos h2]

end Go.Proofs.YtgnhbccmdpkbiaaGreatDoor
namespace Go.Proofs.YtgnhbccmdpkbiaaGreatDoor
open Go.RowKit Go.Shelf

theorem tdiv_m (d : Int) (h0 : 0 ≤ d) (h1 : d ≤ 9) : (-9223372036854775808 + d).tdiv 10 = -((9223372036854775808 - d) / 10) := by
  have e : -9223372036854775808 + d = -(9223372036854775808 - d) := by omega
  rw [e, Int.neg_tdiv, Int.tdiv_eq_ediv_of_nonneg (by omega)]
theorem ovf_yes {v : Nat} {d : Int} (h0 : 0 ≤ d) (h1 : d ≤ 9) (h : -(v : Int) < (-9223372036854775808 + d).tdiv 10) : 9223372036854775808 < 10 * (v : Int) + d := by
  rw [tdiv_m d h0 h1] at h; omega
theorem ovf_no {v : Nat} {d : Int} (h0 : 0 ≤ d) (h1 : d ≤ 9) (h : (-9223372036854775808 + d).tdiv 10 ≤ -(v : Int)) : 10 * (v : Int) + d ≤ 9223372036854775808 := by
  rw [tdiv_m d h0 h1] at h; omega
theorem wrap_step {v : Nat} {d : Int} (h0 : 0 ≤ d) (h : 10 * (v : Int) + d ≤ 9223372036854775808) : wrap64 (wrap64 (10 * -(v : Int)) - d) = -(10 * (v : Int) + d) := by
  have e1 : wrap64 (10 * -(v : Int)) = 10 * -(v : Int) := by unfold wrap64; omega
  rw [e1]
  have e2 : wrap64 (10 * -(v : Int) - d) = 10 * -(v : Int) - d := by unfold wrap64; omega
  rw [e2]; omega
theorem head_of {s : ByteArray} (h : 0 < s.size) {b : Bool} (hb : ((s[0].toNat : Int) == 45) = b) : (b = true → s.data.toList.head? = some 45) ∧ (b = false → s.data.toList.head? ≠ some 45) := by
  rw [list_cons h]
  refine ⟨?_, ?_⟩
  · intro e; subst e
    have e0 : s[0] = 45 := by rw [← UInt8.toNat_inj]; simp at hb; simp; omega
    simp [e0]
  · intro e; subst e
    simp at hb ⊢
    intro e; rw [e] at hb; exact hb rfl

set_option maxHeartbeats 4000000 in
set_option maxRecDepth 100000 in
theorem rint_loop (s : ByteArray) (lo hi : Int) (w : World) (hs : s.size ≤ 281474976710656) (hd : Wd.decimal s.data.toList = true) (b : Bool) (hpos : 0 < s.size) (hb : ((s[0].toNat : Int) == 45) = b)
    (hl1 : -9223372036854775808 ≤ lo) (hl2 : lo ≤ 9223372036854775807) (hh1 : -9223372036854775808 ≤ hi) (hh2 : hi ≤ 9223372036854775807) :
    Calls Tryz.prog 102 #[.string s, .int .i64 lo, .int .i64 hi] w fun e w' => e = intEnd s lo hi ∧ w = w' := by
  have hs1 : s.size ≤ maxLen := by unfold maxLen; omega
  obtain ⟨hall, _, hm, hp⟩ := Wd.int_pv hd
  have HD := Lib.hid hd
  have hch : ∀ (k : Nat) (h : k < s.size), s[k] = 45 ∨ Wd.digit s[k] = true := fun k h => hall _ (by simp [ByteArray.getElem_eq_getElem_data])
  have HCH : Hid (∀ (k : Nat) (h : k < s.size), s[k] = 45 ∨ Wd.digit s[k] = true) := hch
  clear hall hch
  go_enter Tryz.func102, Tryz.ntmps102
  go_wp2_with (go_at_call 116; refine (rdecimal_any _ _ hs1).mono ?_; rintro e w' ⟨rfl, rfl⟩)
  go_loop [9, 10] (fun n i => ∃ k : Nat, k ≤ s.size ∧ i = .int .i64 k ∧ n = .int .i64 (-(Wd.pv (s.data.toList.take k) : Int)) ∧ Wd.pv (s.data.toList.take k) ≤ 9223372036854775808) (fun _ i => s.size - (intOf i).toNat)
  case atStart => exact ⟨0, Nat.zero_le _, rfl, rfl, by simp [Wd.pv, Wd.val]⟩
  case round =>
    obtain ⟨k, hk, rfl, rfl, hv⟩ := hrel
    by_cases hlt : k < s.size
    · have hsn := take_snoc s k hlt
      have hc := HCH.out k hlt
      generalize hv1 : Wd.pv (s.data.toList.take k) = v at *
      by_cases c45 : s[k] = 45
      · have HS : Hid (Wd.pv (s.data.toList.take (k + 1)) = v) := by rw [hsn, c45, Wd.pv_snoc_minus]; exact hv1
        have e45 : ((s[k].toNat : Int) == 45) = true := by rw [c45]; rfl
        clear hsn hc c45 hv1
        go_wp2
        go_round
        case rel => exact ⟨k + 1, by omega, by go_num, by rw [HS.out], by rw [HS.out]; exact hv⟩
        case measure => simp [intOf]; omega
      · have HS := Lib.hid (show Wd.pv (s.data.toList.take (k + 1)) = 10 * v + (s[k].toNat - 48) from by rw [hsn, Wd.pv_snoc c45, hv1])
        have HT := Lib.hid (Wd.pv_take_le s.data.toList (k + 1))
        have hdig := Wd.digit_nat (hc.resolve_left c45)
        have e45 : ((s[k].toNat : Int) == 45) = false := by rw [beq_eq_false_iff_ne]; intro e; apply c45; rw [← UInt8.toNat_inj]; simp; omega
        clear hsn hc c45 hv1
        have d0 : (48 : Int) ≤ s[k].toNat := by omega
        have d1 : (s[k].toNat : Int) ≤ 57 := by omega
        clear hdig
        go_wp2
        · go_ret2
          refine ⟨?_, rfl⟩
          have hw := ovf_yes (v := v) (d := (s[k].toNat : Int) - 48) (by omega) (by omega) (by assumption)
          have h1 := HS.out
          have h2 := HT.out
          rw [h1] at h2
          refine (intEnd_range HD.out ?_).symm
          cases b
          · rw [hp ((head_of hpos hb).2 rfl)]; omega
          · rw [hm ((head_of hpos hb).1 rfl)]; omega
        · have hw := ovf_no (v := v) (d := (s[k].toNat : Int) - 48) (by omega) (by omega) (by assumption)
          have he := wrap_step (v := v) (d := (s[k].toNat : Int) - 48) (by omega) hw
          go_round
          case rel => exact ⟨k + 1, by omega, by go_num, by rw [he, HS.out]; congr 1; omega, by rw [HS.out]; omega⟩
          case measure => simp [intOf]; omega
    · have hkk : k = s.size := by omega
      subst hkk
      have ht : s.data.toList.take s.size = s.data.toList := List.take_of_length_le (by simp)
      rw [ht] at hv ⊢
      generalize hv1 : Wd.pv s.data.toList = v at *
      have H1 := fun h => Lib.hid (intEnd_range (lo := lo) (hi := hi) HD.out h)
      have H2 := fun h => Lib.hid (intEnd_ok (lo := lo) (hi := hi) HD.out h)
      clear hd hv1
      cases b
      · rw [hp ((head_of hpos hb).2 rfl)] at H1 H2
        clear hp hm
        by_cases c0 : v = 9223372036854775808
        · have HF := H1 (by omega)
          clear H1 H2
          have c0' : (-(v : Int) == -9223372036854775808) = true := by rw [beq_iff_eq]; omega
          clear c0
          go_wp2
          go_ret2
          exact ⟨HF.out.symm, rfl⟩
        · have c0' : (-(v : Int) == -9223372036854775808) = false := by rw [beq_eq_false_iff_ne]; omega
          by_cases c1 : (v : Int) < lo
          · have HF := H1 (by omega)
            clear H1 H2
            go_wp2
            go_ret2
            exact ⟨HF.out.symm, rfl⟩
          by_cases c2 : hi < (v : Int)
          · have HF := H1 (by omega)
            clear H1 H2
            go_wp2
            go_ret2
            exact ⟨HF.out.symm, rfl⟩
          · have HF := H2 (by omega)
            clear H1 H2
            go_wp2
            go_ret2
            exact ⟨HF.out.symm, rfl⟩
      · rw [hm ((head_of hpos hb).1 rfl)] at H1 H2
        clear hp hm
        by_cases c1 : -(v : Int) < lo
        · have HF := H1 (by omega)
          clear H1 H2
          go_wp2
          go_ret2
          exact ⟨HF.out.symm, rfl⟩
        by_cases c2 : hi < -(v : Int)
        · have HF := H1 (by omega)
          clear H1 H2
          go_wp2
          go_ret2
          exact ⟨HF.out.symm, rfl⟩
        · have HF := H2 (by omega)
          clear H1 H2
          go_wp2
          go_ret2
          exact ⟨HF.out.symm, rfl⟩

theorem rint_any (s : ByteArray) (lo hi : Int) (w : World) (hs : s.size ≤ 281474976710656)
    (hl1 : -9223372036854775808 ≤ lo) (hl2 : lo ≤ 9223372036854775807) (hh1 : -9223372036854775808 ≤ hi) (hh2 : hi ≤ 9223372036854775807) :
    Calls Tryz.prog 102 #[.string s, .int .i64 lo, .int .i64 hi] w fun e w' => e = intEnd s lo hi ∧ w = w' := by
  have hs1 : s.size ≤ maxLen := by unfold maxLen; omega
  cases hd : Wd.decimal s.data.toList
  · have HF := Lib.hid (intEnd_form (lo := lo) (hi := hi) hd)
    go_enter Tryz.func102, Tryz.ntmps102
    go_wp2_with (go_at_call 116; refine (rdecimal_any _ _ hs1).mono ?_; rintro e w' ⟨rfl, rfl⟩)
    go_ret2
    exact ⟨HF.out.symm, rfl⟩
  · have hpos : 0 < s.size := by
      rw [size_list]
      have := (Wd.int_pv hd).2.1
      cases h : s.data.toList with
      | nil => exact absurd h this
      | cons => simp
    exact rint_loop s lo hi w hs hd _ hpos rfl hl1 hl2 hh1 hh2
end Go.Proofs.YtgnhbccmdpkbiaaGreatDoor
