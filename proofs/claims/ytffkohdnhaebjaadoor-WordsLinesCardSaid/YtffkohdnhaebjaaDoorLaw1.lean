/-
  Walks: the statements WordsNames, WordsQuotes, WordsSplits.
-/
import Derived.Test.YtffkohdnhaebjaaDoorW23
import Derived.Test.YtffkohdnhaebjaaDoorW8
import Derived.Test.YtffkohdnhaebjaaDoorW13
namespace Go.Proofs.YtffkohdnhaebjaaDoor
open Go.RowKit Go.Shelf

def TrueB (w : World) (e : Ending) (w' : World) : Prop := e = .returned (.bool true) ∧ Below w.heap.size w w'

set_option maxHeartbeats 2000000 in
set_option maxRecDepth 100000 in
theorem lawNames (s : ByteArray) (lo hi : Int) (w : World) (hE : Env w) (h1 : -9223372036854775808 ≤ lo) (h2 : lo ≤ 9223372036854775807) (h3 : -9223372036854775808 ≤ hi) (h4 : hi ≤ 9223372036854775807) (hs0 : s.size ≤ 140737488351232) :
    Calls Tryd.prog 4 #[.string s, .int .i64 lo, .int .i64 hi] w (TrueB w) := by
  have hb0 := Below.refl w.heap.size w
  by_cases hbig : 1000 < s.size
  · go_enter Tryd.func4, Tryd.ntmps4
    go_wp2_with fail; refine (shown_any _ (hE.below hb0)).mono ?_; rintro e w9 ⟨rfl, hx⟩; have hb9 := hb0.trans (hx.mono hb0.size); go_wp2; go_ret; exact ⟨rfl, hb9⟩
  · have hi1 := int_any s lo hi
    have hi2 := rint_any s lo hi
    have hn1 := name_any s
    have hn2 := rname_any s
    unfold intEnd at hi1 hi2
    generalize Wd.intOfStr s.data.toList lo hi = p at hi1 hi2
    obtain ⟨n, er⟩ := p
    generalize Wd.name s.data.toList = nm at hn1 hn2
    have H1 := Lib.hid hi1
    have H2 := Lib.hid hi2
    have H3 := Lib.hid hn1
    have H4 := Lib.hid hn2
    clear hi1 hi2 hn1 hn2
    go_enter Tryd.func4, Tryd.ntmps4
    have hsm : s.size ≤ maxLen := by unfold maxLen; omega
    go_wp2_with fail; refine (H1.out _ hE (by omega)).mono ?_; rintro e w1 ⟨rfl, hx⟩; have hb1 := hb0.trans (hx.mono hb0.size); clear hx
    go_wp2_with fail; refine (H2.out _ (by omega) h1 h2 h3 h4).mono ?_; rintro e w' ⟨rfl, rfl⟩
    go_wp2_with fail; refine (H3.out _ hsm).mono ?_; rintro e w3 ⟨rfl, hx⟩; have hb3 := hb1.trans (hx.mono hb1.size); clear hx
    go_wp2_with fail; refine (H4.out _ hsm).mono ?_; rintro e w' ⟨rfl, rfl⟩
    go_wp2_with fail; refine (digits_any _ h1 h2 _ (hE.below hb3)).mono ?_; rintro e w4 ⟨rfl, hx⟩; have hb4 := hb3.trans (hx.mono hb3.size); clear hx
    go_wp2_with fail; refine (rdigits_any _ _ (Nat.le_refl _) h1 h2 _).mono ?_; rintro e w5 ⟨rfl, hx⟩; have hb5 := hb4.trans (hx.mono hb4.size); clear hx
    go_wp2_with fail; refine (digits_any _ h3 h4 _ (hE.below hb5)).mono ?_; rintro e w6 ⟨rfl, hx⟩; have hb6 := hb5.trans (hx.mono hb5.size); clear hx
    go_wp2_with fail; refine (rdigits_any _ _ (Nat.le_refl _) h3 h4 _).mono ?_; rintro e w7 ⟨rfl, hx⟩; have hb7 := hb6.trans (hx.mono hb6.size); clear hx
    go_wp2_with fail; refine (shown_any _ (hE.below hb7)).mono ?_; rintro e w9 ⟨rfl, hx⟩; have hb9 := hb7.trans (hx.mono hb7.size); go_wp2; go_ret; exact ⟨rfl, hb9⟩

set_option maxHeartbeats 2000000 in
set_option maxRecDepth 100000 in
theorem lawQuotes (s : ByteArray) (w : World) (hE : Env w) (hs0 : s.size ≤ 140737488351232) : Calls Tryd.prog 5 #[.string s] w (TrueB w) := by
  have hb0 := Below.refl w.heap.size w
  by_cases hbig : 1000 < s.size
  · go_enter Tryd.func5, Tryd.ntmps5
    go_wp2_with fail; refine (shown_any _ (hE.below hb0)).mono ?_; rintro e w9 ⟨rfl, hx⟩; have hb9 := hb0.trans (hx.mono hb0.size); go_wp2; go_ret; exact ⟨rfl, hb9⟩
  · have hu1 := Unquote_any s
    have hu2 := rUnquote_any s
    have hq1 := quote_any s
    have hq2 := rquote_any s
    have hex : ∃ (t : ByteArray) (n : Int), unquoteEnd s.data.toList = .returned (.tuple #[.string t, .int .i64 n]) := by
      unfold unquoteEnd
      cases Wd.unquote s.data.toList with
      | none => exact ⟨_, _, rfl⟩
      | some t => exact ⟨_, _, rfl⟩
    obtain ⟨t, n, he⟩ := hex
    rw [he] at hu1 hu2
    generalize (⟨(Wd.quote s.data.toList).toArray⟩ : ByteArray) = q at hq1 hq2
    have H1 := Lib.hid hu1
    have H2 := Lib.hid hu2
    have H3 := Lib.hid hq1
    have H4 := Lib.hid hq2
    clear hu1 hu2 hq1 hq2 he
    go_enter Tryd.func5, Tryd.ntmps5
    go_wp2_with fail; refine (H1.out _ hE (by omega)).mono ?_; rintro e w1 ⟨rfl, hx⟩; have hb1 := hb0.trans (hx.mono hb0.size); clear hx
    go_wp2_with fail; refine (H2.out _ (by omega)).mono ?_; rintro e w2 ⟨rfl, hx⟩; have hb2 := hb1.trans (hx.mono hb1.size); clear hx
    go_wp2_with fail; refine (H3.out _ (hE.below hb2) (by omega)).mono ?_; rintro e w3 ⟨rfl, hx⟩; have hb3 := hb2.trans (hx.mono hb2.size); clear hx
    go_wp2_with fail; refine (H4.out _ (by omega)).mono ?_; rintro e w4 ⟨rfl, hx⟩; have hb4 := hb3.trans (hx.mono hb3.size); clear hx
    go_wp2_with fail; refine (shown_any _ (hE.below hb4)).mono ?_; rintro e w9 ⟨rfl, hx⟩; have hb9 := hb4.trans (hx.mono hb4.size); go_wp2; go_ret; exact ⟨rfl, hb9⟩

theorem split_le (l : List UInt8) : (Wd.split l).1.length ≤ 64 := by
  unfold Wd.split
  split
  · simp
  · split
    · simp
    · split
      · simp
      · split
        · simp
        · rename_i h
          simp only [Bool.or_eq_true, decide_eq_true_eq, not_or] at h
          exact Nat.le_of_not_lt h.2
set_option maxHeartbeats 2000000 in
set_option maxRecDepth 100000 in
theorem lawSplits (s : ByteArray) (w : World) (hE : Env w) (hs0 : s.size ≤ 140737488351232) : Calls Tryd.prog 3 #[.string s] w (TrueB w) := by
  have hb0 := Below.refl w.heap.size w
  by_cases h1 : 3000 < s.size ∧ s.size ≤ 8192
  · obtain ⟨h1, h2⟩ := h1
    go_enter Tryd.func3, Tryd.ntmps3
    go_wp2_with fail; refine (shown_any _ (hE.below hb0)).mono ?_; rintro e w9 ⟨rfl, hx⟩; have hb9 := hb0.trans (hx.mono hb0.size); go_wp2; go_ret; exact ⟨rfl, hb9⟩
  by_cases h9 : 9000 < s.size
  · have h8 : 8192 < s.size := by omega
    have h3 : 3000 < s.size := by omega
    clear h1
    go_enter Tryd.func3, Tryd.ntmps3
    go_wp2_with fail; refine (shown_any _ (hE.below hb0)).mono ?_; rintro e w9 ⟨rfl, hx⟩; have hb9 := hb0.trans (hx.mono hb0.size); go_wp2; go_ret; exact ⟨rfl, hb9⟩
  have hs1 := Split_any s w hE hs0
  have hs2 := rSplit_any s
  have hle := split_le s.data.toList
  unfold SplitPost at hs1
  generalize Wd.split s.data.toList = p at hs1 hs2 hle
  obtain ⟨l, n⟩ := p
  have H1 := Lib.hid hs1
  have H2 := Lib.hid hs2
  dsimp only at hle
  clear hs1 hs2
  have hcase : s.size ≤ 3000 ∨ (3000 < s.size ∧ 8192 < s.size) := by omega
  clear h1
  rcases hcase with h3 | ⟨h3, h8⟩
  all_goals
    go_enter Tryd.func3, Tryd.ntmps3
    go_wp2_with fail
    refine H1.out.mono ?_
    rintro e w1 ⟨⟨v1, rfl, hr1⟩, hb1⟩
    go_wp2_with fail
    refine (H2.out _).mono ?_
    rintro e w2 ⟨⟨v2, rfl, hr2⟩, hx⟩
    have hb2 := hb1.trans (hx.mono hb1.size)
    have hr3 := hr1.below hx
    clear hx hr1
    go_wp2_with fail
    refine (rSame_any _ _ l l _ hr3 hr2 (by omega) (by omega)).mono ?_
    rintro e w3 ⟨rfl, hx⟩
    have hb3 := hb2.trans (hx.mono hb2.size)
    rw [show (l == l) = true from beq_self_eq_true l]
    clear hx hr3 hr2
    go_wp2_with fail; refine (shown_any _ (hE.below hb3)).mono ?_; rintro e w9 ⟨rfl, hx⟩; have hb9 := hb3.trans (hx.mono hb3.size); go_wp2; go_ret; exact ⟨rfl, hb9⟩
end Go.Proofs.YtffkohdnhaebjaaDoor
