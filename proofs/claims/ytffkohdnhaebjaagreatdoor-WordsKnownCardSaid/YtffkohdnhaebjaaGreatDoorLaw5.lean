/-
  Walks: the statement WordsKnown.
-/
import Derived.Test.YtffkohdnhaebjaaGreatDoorLaw4
namespace Go.Proofs.YtffkohdnhaebjaaGreatDoor
open Go.RowKit Go.Shelf

theorem kInt (s : ByteArray) (lo hi n m : Int) (h : Wd.intOfStr s.data.toList lo hi = (n, m)) (w : World) (hE : Env w) (hs : s.size ≤ 281474976710656) :
    Calls Tryz.prog 12 #[.string s, .int .i64 lo, .int .i64 hi] w fun e w' => e = .returned (.tuple #[.int .i64 n, .int .i64 m]) ∧ Below w.heap.size w w' := by
  have hx := int_any s lo hi w hE hs
  unfold intEnd at hx
  rw [h] at hx
  exact hx
theorem kUnq (s : ByteArray) (h : Wd.unquote s.data.toList = none) (w : World) (hE : Env w) (hs : s.size ≤ 1099511627776) :
    Calls Tryz.prog 13 #[.string s] w fun e w' => e = .returned (.tuple #[.string ⟨#[]⟩, .int .i64 6]) ∧ Below w.heap.size w w' := by
  have hx := Unquote_any s w hE hs
  unfold unquoteEnd at hx
  rw [h] at hx
  exact hx
theorem kSplit (s : ByteArray) (m : Int) (h : Wd.split s.data.toList = ([], m)) (w : World) (hE : Env w) (hs : s.size ≤ 140737488351232) :
    Calls Tryz.prog 14 #[.string s] w fun e w' => (∃ a c, e = .returned (.tuple #[.slice a 0 c, .int .i64 m])) ∧ Below w.heap.size w w' := by
  refine (Split_any s w hE hs).mono ?_
  rintro e w' ⟨⟨v, rfl, hr⟩, hb⟩
  rw [h] at hr ⊢
  obtain ⟨a, c, rfl⟩ : ∃ a c, v = .slice a 0 c := by
    rcases hr with ⟨a, cap, rfl, _⟩ | ⟨b, o, cap, rfl, _⟩
    · exact ⟨_, _, rfl⟩
    · exact ⟨_, _, rfl⟩
  exact ⟨⟨a, c, rfl⟩, hb⟩
theorem kList (w : World) (hE : Env w) : Calls Tryz.prog 7 #[.slice none 0 0] w fun e w' => e = .returned (.tuple #[.string ⟨#[45]⟩, .int .i64 0]) ∧ Below w.heap.size w w' :=
  List_any _ [] w hE (ReadsL.nil _) (by simp)
theorem kParse (s : ByteArray) (m : Int) (h : Wd.parseList s.data.toList = ([], m)) (w : World) (hE : EnvP w) (hs : s.size ≤ 1048576) :
    Calls Tryz.prog 9 #[.string s] w fun e w' => (∃ a c, e = .returned (.tuple #[.slice a 0 c, .int .i64 m])) ∧ Below w.heap.size w w' := by
  refine (ParseList_any s w hE hs).mono ?_
  rintro e w' ⟨⟨v, rfl, hr⟩, hb⟩
  rw [h] at hr ⊢
  obtain ⟨a, c, rfl⟩ := hr.len
  exact ⟨⟨a, c, rfl⟩, hb⟩
theorem kName (s : ByteArray) (h : Wd.name s.data.toList = false) (w : World) (hs : s.size ≤ maxLen) :
    Calls Tryz.prog 15 #[.string s] w fun e w' => e = .returned (.bool false) ∧ Below w.heap.size w w' := by
  have hx := name_any s w hs
  rw [h] at hx
  exact hx

set_option maxHeartbeats 8000000 in
set_option maxRecDepth 100000 in
theorem lawKnown (w : World) (hE : EnvP w) : Calls Tryz.prog 4 #[] w (TrueB w) := by
  have hb0 := Below.refl w.heap.size w
  go_enter Tryz.func4, Tryz.ntmps4
  go_wp2_with fail; refine (kInt _ 0 10 0 6 (by decide +kernel) _ (hE.env.below hb0) (by decide)).mono ?_; rintro e w1 ⟨rfl, hx⟩; have hb1 := hb0.trans (hx.mono hb0.size); clear hx
  go_wp2_with fail; refine (kInt _ 0 10 0 6 (by decide +kernel) _ (hE.env.below hb1) (by decide)).mono ?_; rintro e w2 ⟨rfl, hx⟩; have hb2 := hb1.trans (hx.mono hb1.size); clear hx
  go_wp2_with fail; refine (kInt _ 0 10 0 7 (by decide +kernel) _ (hE.env.below hb2) (by decide)).mono ?_; rintro e w3 ⟨rfl, hx⟩; have hb3 := hb2.trans (hx.mono hb2.size); clear hx
  go_wp2_with fail; refine (kUnq _ (by decide +kernel) _ (hE.env.below hb3) (by decide)).mono ?_; rintro e w4 ⟨rfl, hx⟩; have hb4 := hb3.trans (hx.mono hb3.size); clear hx
  go_wp2_with fail; refine (kUnq _ (by decide +kernel) _ (hE.env.below hb4) (by decide)).mono ?_; rintro e w5 ⟨rfl, hx⟩; have hb5 := hb4.trans (hx.mono hb4.size); clear hx
  go_wp2_with fail; refine (kUnq _ (by decide +kernel) _ (hE.env.below hb5) (by decide)).mono ?_; rintro e w6 ⟨rfl, hx⟩; have hb6 := hb5.trans (hx.mono hb5.size); clear hx
  go_wp2_with fail; refine (kSplit _ 6 (by decide +kernel) _ (hE.env.below hb6) (by decide)).mono ?_; rintro e w7 ⟨⟨aw7, cw7, rfl⟩, hx⟩; have hb7 := hb6.trans (hx.mono hb6.size); clear hx
  go_wp2_with fail; refine (kSplit _ 0 (by decide +kernel) _ (hE.env.below hb7) (by decide)).mono ?_; rintro e w8 ⟨⟨aw8, cw8, rfl⟩, hx⟩; have hb8 := hb7.trans (hx.mono hb7.size); clear hx
  go_wp2_with fail; refine (kList _ (hE.env.below hb8)).mono ?_; rintro e w9 ⟨rfl, hx⟩; have hb9 := hb8.trans (hx.mono hb8.size); clear hx
  go_wp2_with fail; refine (kParse _ 6 (by decide +kernel) _ (hE.below hb9) (by decide)).mono ?_; rintro e w10 ⟨⟨aw10, cw10, rfl⟩, hx⟩; have hb10 := hb9.trans (hx.mono hb9.size); clear hx
  go_wp2_with fail; refine (kParse _ 6 (by decide +kernel) _ (hE.below hb10) (by decide)).mono ?_; rintro e w11 ⟨⟨aw11, cw11, rfl⟩, hx⟩; have hb11 := hb10.trans (hx.mono hb10.size); clear hx
  go_wp2_with fail; refine (kParse _ 6 (by decide +kernel) _ (hE.below hb11) (by decide)).mono ?_; rintro e w12 ⟨⟨aw12, cw12, rfl⟩, hx⟩; have hb12 := hb11.trans (hx.mono hb11.size); clear hx
  go_wp2_with fail; refine (kParse _ 3 (by decide +kernel) _ (hE.below hb12) (by decide)).mono ?_; rintro e w13 ⟨⟨aw13, cw13, rfl⟩, hx⟩; have hb13 := hb12.trans (hx.mono hb12.size); clear hx
  go_wp2_with fail; refine (kName _ (by decide +kernel) _ (by unfold maxLen; decide)).mono ?_; rintro e w14 ⟨rfl, hx⟩; have hb14 := hb13.trans (hx.mono hb13.size); clear hx
  go_wp2_with fail; refine (kName _ (by decide +kernel) _ (by unfold maxLen; decide)).mono ?_; rintro e w15 ⟨rfl, hx⟩; have hb15 := hb14.trans (hx.mono hb14.size); clear hx
  go_wp2_with fail; refine (shown_any _ (hE.env.below hb15)).mono ?_; rintro e w99 ⟨rfl, hx⟩; have hb99 := hb15.trans (hx.mono hb15.size); go_wp2; go_ret; exact ⟨rfl, hb99⟩
end Go.Proofs.YtffkohdnhaebjaaGreatDoor
