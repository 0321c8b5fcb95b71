/-
  Walks: isDecimal, Int, Digits of words.
-/
import Derived.Test.YtffkohdnhaebjaaGreatDoorW5
namespace Go.Proofs.YtffkohdnhaebjaaGreatDoor
open Go.RowKit Go.Shelf

def tp (s : ByteArray) : ByteArray := ⟨(Lib.trimPrefix s.data.toList [45]).toArray⟩
theorem tp_data (s : ByteArray) : (tp s).data.toList = Lib.trimPrefix s.data.toList [45] := rfl
theorem tp_size (s : ByteArray) : (tp s).size ≤ s.size := by
  have := Lib.trimPrefix_le s.data.toList [45]
  rw [size_list, size_list, tp_data]; exact this
theorem trimPrefix_any (s : ByteArray) (w : World) : Calls Tryz.prog 51 #[.string s, .string ⟨#[45]⟩] w fun e w' => e = .returned (.string (tp s)) ∧ w = w' :=
  (Tryz.strings_TrimPrefix s ⟨#[45]⟩ w).mono fun _ _ h => ⟨h.1, h.2.symm⟩

theorem trim_digs_e (l : List UInt8) : (Lib.trimS l [48, 49, 50, 51, 52, 53, 54, 55, 56, 57]).isEmpty = l.all Wd.digit := by
  rw [isEmpty_beq]; exact Wd.trim_digs l

set_option maxHeartbeats 2000000 in
set_option maxRecDepth 100000 in
theorem isDecimal_any (s : ByteArray) (w : World) (hs : s.size ≤ maxLen) : Calls Tryz.prog 29 #[.string s] w fun e w' => e = .returned (.bool (Wd.decimal s.data.toList)) ∧ Below w.heap.size w w' := by
  have hts : (tp s).size ≤ maxLen := Nat.le_trans (tp_size s) hs
  by_cases h0 : (tp s).size = 0
  · have hl : (tp s).data.toList = [] := List.eq_nil_of_length_eq_zero (by rw [← size_list]; omega)
    have he : (tp s).toList.isEmpty = true := by rw [Lib.toList_data, hl]; rfl
    have HF : Hid (Wd.decimal s.data.toList = false) := Wd.isDec_nil (by rw [← tp_data]; exact hl)
    clear hl h0
    go_enter Tryz.func29, Tryz.ntmps29
    go_wp2_with (go_at_call 51; refine (trimPrefix_any _ _).mono ?_; rintro e w' ⟨rfl, rfl⟩)
    go_ret
    exact ⟨ret_bool (by rw [HF.out]), Below.refl _ _⟩
  have hpos : 0 < (tp s).size := by omega
  have hc := list_cons hpos
  have he : (tp s).toList.isEmpty = false := by rw [Lib.toList_data, hc]; rfl
  cases ha : (tp s).data.toList.all Wd.digit
  · have HF : Hid (Wd.decimal s.data.toList = false) := Wd.isDec_not (by rw [← tp_data]; exact ha)
    have ht : (Lib.trimS (tp s).data.toList [48, 49, 50, 51, 52, 53, 54, 55, 56, 57]).isEmpty = false := by rw [trim_digs_e]; exact ha
    clear hc ha
    go_enter Tryz.func29, Tryz.ntmps29
    go_wp2_with (first | (go_at_call 51; refine (trimPrefix_any _ _).mono ?_; rintro e w' ⟨rfl, rfl⟩) | (go_at_call 41; refine (trim_any _ _ _ hts (by decide) (ascii_of_all (by decide))).mono ?_; rintro e w' ⟨rfl, hb⟩))
    go_ret
    exact ⟨ret_bool (by rw [HF.out]), ‹_›⟩
  · have HF : Hid (Wd.decimal s.data.toList = ((tp s)[0] != 48 || s.data.toList == [48])) := Wd.isDec_all (t := (tp s).data.toList.tail) (by rw [← tp_data]; exact hc) (by rw [← hc]; exact ha)
    have ht : (Lib.trimS (tp s).data.toList [48, 49, 50, 51, 52, 53, 54, 55, 56, 57]).isEmpty = true := by rw [trim_digs_e]; exact ha
    clear hc ha
    go_enter Tryz.func29, Tryz.ntmps29
    go_wp2_with (first | (go_at_call 51; refine (trimPrefix_any _ _).mono ?_; rintro e w' ⟨rfl, rfl⟩) | (go_at_call 41; refine (trim_any _ _ _ hts (by decide) (ascii_of_all (by decide))).mono ?_; rintro e w' ⟨rfl, hb⟩))
    · go_ret
      refine ⟨ret_bool ?_, ‹_›⟩
      have e : (tp s)[0] = 48 := by rw [← UInt8.toNat_inj]; have h : ((tp s)[0].toNat : Int) = 48 := by assumption
                                    simp; omega
      rw [HF.out, e, Lib.toList_data]; rfl
    · go_ret
      refine ⟨ret_bool ?_, ‹_›⟩
      have e : ((tp s)[0] != 48) = true := by
        rw [bne_iff_ne]; intro e
        have h : ¬ ((tp s)[0].toNat : Int) = 48 := by assumption
        rw [e] at h; exact h rfl
      rw [HF.out, e]; rfl

/-- words.Int and its reference end alike. -/
def intEnd (s : ByteArray) (lo hi : Int) : Ending := .returned (.tuple #[.int .i64 (Wd.intOfStr s.data.toList lo hi).1, .int .i64 (Wd.intOfStr s.data.toList lo hi).2])
theorem intEnd_form {s : ByteArray} {lo hi : Int} (h : Wd.decimal s.data.toList = false) : intEnd s lo hi = .returned (.tuple #[.int .i64 0, .int .i64 6]) := by
  unfold intEnd Wd.intOfStr; rw [h]; rfl
theorem intEnd_range {s : ByteArray} {lo hi : Int} (h : Wd.decimal s.data.toList = true)
    (h2 : ¬ (-9223372036854775808 ≤ Wd.intVal s.data.toList ∧ Wd.intVal s.data.toList ≤ 9223372036854775807 ∧ lo ≤ Wd.intVal s.data.toList ∧ Wd.intVal s.data.toList ≤ hi)) : intEnd s lo hi = .returned (.tuple #[.int .i64 0, .int .i64 7]) := by
  unfold intEnd Wd.intOfStr; rw [h, if_pos rfl, if_neg h2]
theorem intEnd_ok {s : ByteArray} {lo hi : Int} (h : Wd.decimal s.data.toList = true)
    (h2 : -9223372036854775808 ≤ Wd.intVal s.data.toList ∧ Wd.intVal s.data.toList ≤ 9223372036854775807 ∧ lo ≤ Wd.intVal s.data.toList ∧ Wd.intVal s.data.toList ≤ hi) : intEnd s lo hi = .returned (.tuple #[.int .i64 (Wd.intVal s.data.toList), .int .i64 0]) := by
  unfold intEnd Wd.intOfStr; rw [h, if_pos rfl, if_pos h2]

theorem parse_ok (s : ByteArray) (hs : s.size ≤ 281474976710656) (v : Int) (h : Hid (Lib.parseIntB 64 s.data.toList = .ok v)) (w : World) :
    Calls Tryz.prog 38 #[.string s, .int .i64 10, .int .i64 64] w fun e w' => e = .returned (.tuple #[.int .i64 v, .nilIface]) ∧ Below w.heap.size w w' :=
  (Tryz.strconv_ParseInt_10_at64_ok s (by omega) v h.out w).mono fun _ _ ⟨h1, h2⟩ => ⟨h1, by
    rcases h2 with h2 | ⟨t, rfl⟩
    · exact below_of_eq h2
    · exact Lib.bytesWorld_below _ _ _⟩
theorem parse_range (s : ByteArray) (hs : s.size ≤ 281474976710656) (h : Hid (Lib.parseIntB 64 s.data.toList = .range)) (w : World) (hE : Env w) :
    Calls Tryz.prog 38 #[.string s, .int .i64 10, .int .i64 64] w fun e w' => ∃ N, e = .returned (.tuple #[.int .i64 (Lib.intSat 64 s.data.toList), .iface 108 (.pointer (some ⟨N, 0, none⟩))]) ∧ Below w.heap.size w w' := by
  obtain ⟨ev, h1, h2⟩ := hE.rng
  exact (Tryz.strconv_ParseInt_10_at64_range s hs h.out ev w h1 h2).mono fun _ _ ⟨N, h1, _, _, h2⟩ => ⟨N, h1, h2⟩

set_option maxHeartbeats 2000000 in
set_option maxRecDepth 100000 in
theorem int_any (s : ByteArray) (lo hi : Int) (w : World) (hE : Env w) (hs : s.size ≤ 281474976710656) :
    Calls Tryz.prog 12 #[.string s, .int .i64 lo, .int .i64 hi] w fun e w' => e = intEnd s lo hi ∧ Below w.heap.size w w' := by
  have hs1 : s.size ≤ maxLen := by unfold maxLen; omega
  cases hd : Wd.decimal s.data.toList
  · have HF := Lib.hid (intEnd_form (lo := lo) (hi := hi) hd)
    go_enter Tryz.func12, Tryz.ntmps12
    go_wp2_with (go_at_call 29; refine (isDecimal_any _ _ hs1).mono ?_; rintro e w' ⟨rfl, hb⟩)
    go_ret2
    exact ⟨HF.out.symm, ‹_›⟩
  · have hp := Wd.parseIntB_dec hd
    by_cases hr : -9223372036854775808 ≤ Wd.intVal s.data.toList ∧ Wd.intVal s.data.toList ≤ 9223372036854775807
    · rw [if_pos hr] at hp
      have HP := Lib.hid hp
      have HD := Lib.hid hd
      have HR := Lib.hid hr
      have ER := fun h => Lib.hid (intEnd_range (lo := lo) (hi := hi) hd h)
      have EO := fun h => Lib.hid (intEnd_ok (lo := lo) (hi := hi) hd h)
      clear hr hp
      obtain ⟨v, hv⟩ : ∃ v, v = Wd.intVal s.data.toList := ⟨_, rfl⟩
      rw [← hv] at HP HR ER EO
      clear hv
      have b1 := HR.out.1
      have b2 := HR.out.2
      by_cases c1 : v < lo
      · have HF := ER (by omega)
        clear ER EO
        go_enter Tryz.func12, Tryz.ntmps12
        go_wp2_with (first | (go_at_call 29; refine (isDecimal_any _ _ hs1).mono ?_; rintro e w' ⟨rfl, hb⟩) | (go_at_call 38; refine (parse_ok s hs v HP _).mono ?_; rintro e w'' ⟨rfl, hb2⟩))
        go_ret2
        exact ⟨HF.out.symm, Below.trans (by assumption) (Below.mono (by assumption) (Below.size (by assumption)))⟩
      by_cases c2 : hi < v
      · have HF := ER (by omega)
        clear ER EO
        go_enter Tryz.func12, Tryz.ntmps12
        go_wp2_with (first | (go_at_call 29; refine (isDecimal_any _ _ hs1).mono ?_; rintro e w' ⟨rfl, hb⟩) | (go_at_call 38; refine (parse_ok s hs v HP _).mono ?_; rintro e w'' ⟨rfl, hb2⟩))
        go_ret2
        exact ⟨HF.out.symm, Below.trans (by assumption) (Below.mono (by assumption) (Below.size (by assumption)))⟩
      · have HF := EO (by omega)
        clear ER EO
        go_enter Tryz.func12, Tryz.ntmps12
        go_wp2_with (first | (go_at_call 29; refine (isDecimal_any _ _ hs1).mono ?_; rintro e w' ⟨rfl, hb⟩) | (go_at_call 38; refine (parse_ok s hs v HP _).mono ?_; rintro e w'' ⟨rfl, hb2⟩))
        go_ret2
        exact ⟨HF.out.symm, Below.trans (by assumption) (Below.mono (by assumption) (Below.size (by assumption)))⟩
    · rw [if_neg hr] at hp
      have HP := Lib.hid hp
      have HF := Lib.hid (intEnd_range (lo := lo) (hi := hi) hd (fun h => hr ⟨h.1, h.2.1⟩))
      clear hr hp
      go_enter Tryz.func12, Tryz.ntmps12
      go_wp2_with (first | (go_at_call 29; refine (isDecimal_any _ _ hs1).mono ?_; rintro e w' ⟨rfl, hb⟩; have hE2 := hE.below hb; clear hE) | (go_at_call 38; refine (parse_range s hs HP _ (by assumption)).mono ?_; rintro e w'' ⟨N, rfl, hb2⟩))
      go_ret2
      exact ⟨HF.out.symm, Below.trans (by assumption) (Below.mono (by assumption) (Below.size (by assumption)))⟩

set_option maxHeartbeats 2000000 in
set_option maxRecDepth 100000 in
theorem digits_any (n : Int) (h0 : -9223372036854775808 ≤ n) (h1 : n ≤ 9223372036854775807) (w : World) (hE : Env w) :
    Calls Tryz.prog 20 #[.int .i64 n] w fun e w' => e = .returned (.string ⟨(Lib.itoa n).toArray⟩) ∧ Below w.heap.size w w' := by
  have HT := hE.tab
  have HT := Lib.hid HT
  clear hE
  go_enter Tryz.func20, Tryz.ntmps20
  go_wp2_with (go_at_call 46; refine (Tryz.strconv_FormatInt_10 n h0 h1 _ HT.out).mono ?_; rintro e w' ⟨rfl, hb⟩)
  go_ret
  exact ⟨rfl, below_grow ‹_›⟩
end Go.Proofs.YtffkohdnhaebjaaGreatDoor
