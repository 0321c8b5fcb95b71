/-
  Walks: lines of the statements.
-/
import Derived.Test.YtffkohdnhaebjaaDoorW18
import Derived.Test.YtffkohdnhaebjaaDoorW15
import Derived.Test.YtffkohdnhaebjaaDoorLaw1
namespace Go.Proofs.YtffkohdnhaebjaaDoor
open Go.RowKit Go.Shelf

theorem lines_le (l : List UInt8) : (Wd.lines l).1.length ≤ 5000 := by
  unfold Wd.lines
  split
  · simp
  split
  · simp
  split
  · simp
  split
  · simp
  · rename_i h; exact Nat.le_of_not_lt h
theorem ReadsL.cellS {w : World} {v : Value} {l : List (List UInt8)} (h : ReadsL 1 encS w v l) (hne : l ≠ []) : ∃ b o cap, v = .slice (some ⟨b, o, none⟩) l.length cap ∧ b < w.heap.size ∧
    ∀ j (hj : j < l.length), w.cell? ⟨b, o + j, none⟩ = some (S8 l[j]) := by
  obtain ⟨b, o, cap, hv, hb, hc⟩ := h.form hne
  refine ⟨b, o, cap, hv, hb, fun j hj => ?_⟩
  have := hc j hj 0 _ rfl
  simpa using this

set_option maxHeartbeats 4000000 in
set_option maxRecDepth 100000 in
theorem lines_any (s : ByteArray) (w : World) (hE : Env w) (hs0 : s.size ≤ 140737488351232) : Calls Tryd.prog 26 #[.string s] w (TrueB w) := by
  have hb0 := Below.refl w.heap.size w
  have hs1 := Lines_any s w hE hs0
  have hs2 := fun w => rLines_any s w hs0
  have hle := lines_le s.data.toList
  unfold LinesPost at hs1 hs2
  generalize Wd.lines s.data.toList = p at hs1 hs2 hle
  obtain ⟨l, n⟩ := p
  have H1 := Lib.hid hs1
  have H2 := Lib.hid hs2
  dsimp only at hle
  clear hs1 hs2
  go_enter Tryd.func26, Tryd.ntmps26
  go_wp2_with fail
  refine H1.out.mono ?_
  rintro e w1 ⟨⟨v1, rfl, hr1⟩, hb1⟩
  go_wp2_with fail
  refine (H2.out _).mono ?_
  rintro e w2 ⟨⟨v2, rfl, hr2⟩, hx⟩
  have hb2 := hb1.trans (hx.mono hb1.size)
  have hr3 := hr1.below hx
  clear hx hr1 H1 H2
  by_cases hz : l = []
  · obtain ⟨a1, c1, rfl⟩ : ∃ a c, v1 = .slice a 0 c := by
      obtain ⟨a, c, h⟩ := hr3.len
      subst hz; exact ⟨a, c, h⟩
    obtain ⟨a2, c2, rfl⟩ : ∃ a c, v2 = .slice a 0 c := by
      obtain ⟨a, c, h⟩ := hr2.len
      subst hz; exact ⟨a, c, h⟩
    clear hr3 hr2 hz hle
    go_wp2
    refine wp_loop_rounds 1 ?_
    rw [rounds_succ]
    go_wp2
    go_ret
    exact ⟨rfl, hb2⟩
  obtain ⟨b1, o1, cap1, rfl, hlt1, hc1⟩ := hr3.cellS hz
  obtain ⟨b2, o2, cap2, rfl, hlt2, hc2⟩ := hr2.cellS hz
  have HC1 := Lib.hid hc1
  have HC2 := Lib.hid hc2
  clear hr3 hr2 hc1 hc2 hz
  go_wp2
  go_loopw [7] (fun i wr => ∃ k : Nat, k ≤ l.length ∧ i = .int .i64 k ∧ Below w2.heap.size w2 wr) (fun i _ => l.length - (intOf i).toNat)
  case atStart => exact ⟨0, Nat.zero_le _, rfl, Below.refl _ _⟩
  case round =>
    obtain ⟨k, hk, rfl, hwr⟩ := hrel
    by_cases hlt : k < l.length
    · have c1 := (hwr.cell (p := ⟨b1, o1 + k, none⟩) hlt1).trans (HC1.out k hlt)
      have c2 := (hwr.cell (p := ⟨b2, o2 + k, none⟩) hlt2).trans (HC2.out k hlt)
      have i1 : (k : Int) < (l.length : Int) := by omega
      go_wp2
      go_quiet (fail)
      go_wp2
      go_roundw
      case rel => exact ⟨k + 1, by omega, by go_num, below_dn hwr _⟩
      case measure => simp [intOf]; omega
    · go_wp2
      go_ret
      exact ⟨rfl, hb2.trans (hwr.mono hb2.size)⟩
end Go.Proofs.YtffkohdnhaebjaaDoor
