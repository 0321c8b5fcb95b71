/-
  words.Int, where the variables of strconv's errors are laid.
-/
import Derived.Test.YtgnhbccmdpkbiaaGreatDoorW6
import Derived.Test.YtgnhbccmdpkbiaaGreatDoorShelf2
import Derived.Test.YtgnhbccmdpkbiaaGreatDoorFaTx
namespace Go.Proofs.YtgnhbccmdpkbiaaGreatDoor
open Go.RowKit Go.Shelf

/-- What the variables hold, those of strconv's errors among them. -/
structure EnvT (w : World) : Prop where
  f : EnvF w
  rng : ∃ ev, w.cell? ⟨9, 0, none⟩ = some ev ∧ (ev = .nilIface ∨ ∃ te pe, ev = .iface te pe)
theorem EnvT.belowB {B : Nat} {w w' : World} (h : EnvT w) (hB : 10 ≤ B) (hb : Below B w w') : EnvT w' := by
  refine ⟨h.f.belowB hB hb, ?_⟩
  obtain ⟨ev, h1, h2⟩ := h.rng
  exact ⟨ev, (hb.cell (p := ⟨_, _, none⟩) (Nat.lt_of_lt_of_le (by show 9 < 10; decide) hB)).trans h1, h2⟩
theorem EnvT.below {w w' : World} (h : EnvT w) (hb : Below w.heap.size w w') : EnvT w' := h.belowB h.f.big hb
theorem trimPrefixT (s : ByteArray) (w : World) : Calls Tryz.prog 122 #[.string s, .string ⟨#[45]⟩] w fun e w' => e = .returned (.string (tp s)) ∧ w = w' :=
  (Tryz.«strings_TrimPrefix» s ⟨#[45]⟩ w).mono fun _ _ h => ⟨h.1, h.2.symm⟩

set_option maxHeartbeats 2000000 in
set_option maxRecDepth 100000 in
theorem isDecimalT (s : ByteArray) (w : World) (hs : s.size ≤ maxLen) : Calls Tryz.prog 114 #[.string s] w fun e w' => e = .returned (.bool (Wd.decimal s.data.toList)) ∧ Below w.heap.size w w' := by
  have hts : (tp s).size ≤ maxLen := Nat.le_trans (tp_size s) hs
  by_cases h0 : (tp s).size = 0
  · have hl : (tp s).data.toList = [] := List.eq_nil_of_length_eq_zero (by rw [← size_list]; omega)
    have he : (tp s).toList.isEmpty = true := by rw [Lib.toList_data, hl]; rfl
    have HF : Hid (Wd.decimal s.data.toList = false) := Wd.isDec_nil (by rw [← tp_data]; exact hl)
    clear hl h0
    go_enter Tryz.func114, Tryz.ntmps114
    go_wp2_with (go_at_call 122; refine (trimPrefixT _ _).mono ?_; rintro e w' ⟨rfl, rfl⟩)
    go_ret
    exact ⟨ret_bool (by rw [HF.out]), Below.refl _ _⟩
  have hpos : 0 < (tp s).size := by omega
  have hc := list_cons hpos
  have he : (tp s).toList.isEmpty = false := by rw [Lib.toList_data, hc]; rfl
  cases ha : (tp s).data.toList.all Wd.digit
  · have HF : Hid (Wd.decimal s.data.toList = false) := Wd.isDec_not (by rw [← tp_data]; exact ha)
    have ht : (Lib.trimS (tp s).data.toList [48, 49, 50, 51, 52, 53, 54, 55, 56, 57]).isEmpty = false := by rw [trim_digs_e]; exact ha
    clear hc ha
    go_enter Tryz.func114, Tryz.ntmps114
    go_wp2_with (first | (go_at_call 122; refine (trimPrefixT _ _).mono ?_; rintro e w' ⟨rfl, rfl⟩) | (go_at_call 76; refine (trim_any _ _ _ hts (by decide) (ascii_of_all (by decide))).mono ?_; rintro e w' ⟨rfl, hb⟩))
    go_ret
    exact ⟨ret_bool (by rw [HF.out]), ‹_›⟩
  · have HF : Hid (Wd.decimal s.data.toList = ((tp s)[0] != 48 || s.data.toList == [48])) := Wd.isDec_all (t := (tp s).data.toList.tail) (by rw [← tp_data]; exact hc) (by rw [← hc]; exact ha)
    have ht : (Lib.trimS (tp s).data.toList [48, 49, 50, 51, 52, 53, 54, 55, 56, 57]).isEmpty = true := by rw [trim_digs_e]; exact ha
    clear hc ha
    go_enter Tryz.func114, Tryz.ntmps114
    go_wp2_with (first | (go_at_call 122; refine (trimPrefixT _ _).mono ?_; rintro e w' ⟨rfl, rfl⟩) | (go_at_call 76; refine (trim_any _ _ _ hts (by decide) (ascii_of_all (by decide))).mono ?_; rintro e w' ⟨rfl, hb⟩))
    · go_ret
      refine ⟨ret_bool ?_, ‹_›⟩
      have e : (tp s)[0] = 48 := by rw [← UInt8.toNat_inj]; have h : ((tp s)[0].toNat : Int) = 48 := by assumption
                                    simp; omega
      rw [HF.out, e, Lib.toList_data]; rfl
    · go_ret
      refine ⟨ret_bool ?_, ‹_›⟩
      have e : ((tp s)[0] != 48) = true := by
        rw [bne_iff_ne]; intro e
        have h : ¬ ((tp s)[0].toNat : Int) = 48 := by assumption
        rw [e] at h; exact h rfl
      rw [HF.out, e]; rfl

theorem parseOkT (s : ByteArray) (hs : s.size ≤ 281474976710656) (v : Int) (h : Hid (Lib.parseIntB 64 s.data.toList = .ok v)) (w : World) :
    Calls Tryz.prog 115 #[.string s, .int .i64 10, .int .i64 64] w fun e w' => e = .returned (.tuple #[.int .i64 v, .nilIface]) ∧ Below w.heap.size w w' :=
  (Tryz.«strconv_ParseInt_10_at64_ok» s (by omega) v h.out w).mono fun _ _ ⟨h1, h2⟩ => ⟨h1, by
    rcases h2 with h2 | ⟨t, rfl⟩
    · exact below_of_eq h2
    · exact Lib.bytesWorld_below _ _ _⟩
theorem parseRangeT (s : ByteArray) (hs : s.size ≤ 281474976710656) (h : Hid (Lib.parseIntB 64 s.data.toList = .range)) (w : World) (hE : EnvT w) :
    Calls Tryz.prog 115 #[.string s, .int .i64 10, .int .i64 64] w fun e w' => ∃ N, e = .returned (.tuple #[.int .i64 (Lib.intSat 64 s.data.toList), .iface 200 (.pointer (some ⟨N, 0, none⟩))]) ∧ Below w.heap.size w w' := by
  obtain ⟨ev, h1, h2⟩ := hE.rng
  exact (Tryz.«strconv_ParseInt_10_at64_range» s hs h.out ev w h1 h2).mono fun _ _ ⟨N, h1, _, _, h2⟩ => ⟨N, h1, h2⟩

set_option maxHeartbeats 2000000 in
set_option maxRecDepth 100000 in
theorem intT_any (s : ByteArray) (lo hi : Int) (w : World) (hE : EnvT w) (hs : s.size ≤ 281474976710656) :
    Calls Tryz.prog 100 #[.string s, .int .i64 lo, .int .i64 hi] w fun e w' => e = intEnd s lo hi ∧ Below w.heap.size w w' := by
  have hs1 : s.size ≤ maxLen := by unfold maxLen; omega
  cases hd : Wd.decimal s.data.toList
  · have HF := Lib.hid (intEnd_form (lo := lo) (hi := hi) hd)
    go_enter Tryz.func100, Tryz.ntmps100
    go_wp2_with (go_at_call 114; refine (isDecimalT _ _ hs1).mono ?_; rintro e w' ⟨rfl, hb⟩)
    go_ret2
    exact ⟨HF.out.symm, ‹_›⟩
  · have hp := Wd.parseIntB_dec hd
    by_cases hr : -9223372036854775808 ≤ Wd.intVal s.data.toList ∧ Wd.intVal s.data.toList ≤ 9223372036854775807
    · rw [if_pos hr] at hp
      have HP := Lib.hid hp
      have HD := Lib.hid hd
      have HR := Lib.hid hr
      have ER := fun h => Lib.hid (intEnd_range (lo := lo) (hi := hi) hd h)
      have EO := fun h => Lib.hid (intEnd_ok (lo := lo) (hi := hi) hd h)
      clear hr hp
      obtain ⟨v, hv⟩ : ∃ v, v = Wd.intVal s.data.toList := ⟨_, rfl⟩
      rw [← hv] at HP HR ER EO
      clear hv
      have b1 := HR.out.1
      have b2 := HR.out.2
      by_cases c1 : v < lo
      · have HF := ER (by omega)
        clear ER EO
        go_enter Tryz.func100, Tryz.ntmps100
        go_wp2_with (first | (go_at_call 114; refine (isDecimalT _ _ hs1).mono ?_; rintro e w' ⟨rfl, hb⟩) | (go_at_call 115; refine (parseOkT s hs v HP _).mono ?_; rintro e w'' ⟨rfl, hb2⟩))
        go_ret2
        exact ⟨HF.out.symm, Below.trans (by assumption) (Below.mono (by assumption) (Below.size (by assumption)))⟩
      by_cases c2 : hi < v
      · have HF := ER (by omega)
        clear ER EO
        go_enter Tryz.func100, Tryz.ntmps100
        go_wp2_with (first | (go_at_call 114; refine (isDecimalT _ _ hs1).mono ?_; rintro e w' ⟨rfl, hb⟩) | (go_at_call 115; refine (parseOkT s hs v HP _).mono ?_; rintro e w'' ⟨rfl, hb2⟩))
        go_ret2
        exact ⟨HF.out.symm, Below.trans (by assumption) (Below.mono (by assumption) (Below.size (by assumption)))⟩
      · have HF := EO (by omega)
        clear ER EO
        go_enter Tryz.func100, Tryz.ntmps100
        go_wp2_with (first | (go_at_call 114; refine (isDecimalT _ _ hs1).mono ?_; rintro e w' ⟨rfl, hb⟩) | (go_at_call 115; refine (parseOkT s hs v HP _).mono ?_; rintro e w'' ⟨rfl, hb2⟩))
        go_ret2
        exact ⟨HF.out.symm, Below.trans (by assumption) (Below.mono (by assumption) (Below.size (by assumption)))⟩
    · rw [if_neg hr] at hp
      have HP := Lib.hid hp
      have HF := Lib.hid (intEnd_range (lo := lo) (hi := hi) hd (fun h => hr ⟨h.1, h.2.1⟩))
      clear hr hp
      go_enter Tryz.func100, Tryz.ntmps100
      go_wp2_with (first | (go_at_call 114; refine (isDecimalT _ _ hs1).mono ?_; rintro e w' ⟨rfl, hb⟩; have hE2 := hE.below hb; clear hE) | (go_at_call 115; refine (parseRangeT s hs HP _ (by assumption)).mono ?_; rintro e w'' ⟨N, rfl, hb2⟩))
      go_ret2
      exact ⟨HF.out.symm, Below.trans (by assumption) (Below.mono (by assumption) (Below.size (by assumption)))⟩

end Go.Proofs.YtgnhbccmdpkbiaaGreatDoor
