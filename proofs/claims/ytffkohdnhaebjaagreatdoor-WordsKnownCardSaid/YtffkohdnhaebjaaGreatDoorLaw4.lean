/-
  Walks: the statement WordsLists.
-/
import Derived.Test.YtffkohdnhaebjaaGreatDoorW23
import Derived.Test.YtffkohdnhaebjaaGreatDoorW26
import Derived.Test.YtffkohdnhaebjaaGreatDoorW33
import Derived.Test.YtffkohdnhaebjaaGreatDoorLaw1
namespace Go.Proofs.YtffkohdnhaebjaaGreatDoor
open Go.RowKit Go.Shelf

theorem ReadsL.cellI {w : World} {v : Value} {l : List Int} (h : ReadsL 1 encI w v l) (hne : l ≠ []) : ∃ b o cap, v = .slice (some ⟨b, o, none⟩) l.length cap ∧ b < w.heap.size ∧
    ∀ j (hj : j < l.length), w.cell? ⟨b, o + j, none⟩ = some (.int .i64 l[j]) := by
  obtain ⟨b, o, cap, hv, hb, hc⟩ := h.form hne
  refine ⟨b, o, cap, hv, hb, fun j hj => ?_⟩
  have := hc j hj 0 _ rfl
  simpa using this

set_option maxHeartbeats 4000000 in
set_option maxRecDepth 100000 in
/-- lists of the statements, at two lists that are equal. -/
theorem lists_same (v1 v2 : Value) (l : List Int) (w : World) (h1 : ReadsL 1 encI w v1 l) (h2 : ReadsL 1 encI w v2 l) (hl : l.length ≤ 4294967296) : Calls Tryz.prog 11 #[v1, v2] w (TrueB w) := by
  by_cases hz : l = []
  · obtain ⟨a1, c1, rfl⟩ : ∃ a c, v1 = .slice a 0 c := by
      obtain ⟨a, c, h⟩ := h1.len
      subst hz; exact ⟨a, c, h⟩
    obtain ⟨a2, c2, rfl⟩ : ∃ a c, v2 = .slice a 0 c := by
      obtain ⟨a, c, h⟩ := h2.len
      subst hz; exact ⟨a, c, h⟩
    clear h1 h2 hz hl
    go_enter Tryz.func11, Tryz.ntmps11
    go_wp2
    refine wp_loop_rounds 1 ?_
    rw [rounds_succ]
    go_wp2
    go_ret
    exact ⟨rfl, Below.refl _ _⟩
  obtain ⟨b1, o1, cap1, rfl, hlt1, hc1⟩ := h1.cellI hz
  obtain ⟨b2, o2, cap2, rfl, hlt2, hc2⟩ := h2.cellI hz
  have HC1 := Lib.hid hc1
  have HC2 := Lib.hid hc2
  clear h1 h2 hc1 hc2 hz
  go_enter Tryz.func11, Tryz.ntmps11
  go_wp2
  go_loopw [5] (fun i wr => ∃ k : Nat, k ≤ l.length ∧ i = .int .i64 k ∧ Below w.heap.size w wr) (fun i _ => l.length - (intOf i).toNat)
  case atStart => exact ⟨0, Nat.zero_le _, rfl, Below.refl _ _⟩
  case round =>
    obtain ⟨k, hk, rfl, hwr⟩ := hrel
    by_cases hlt : k < l.length
    · have c1 := (hwr.cell (p := ⟨b1, o1 + k, none⟩) hlt1).trans (HC1.out k hlt)
      have c2 := (hwr.cell (p := ⟨b2, o2 + k, none⟩) hlt2).trans (HC2.out k hlt)
      have i1 : (k : Int) < (l.length : Int) := by omega
      go_wp2
      go_quiet (fail)
      go_wp2
      go_roundw
      case rel => exact ⟨k + 1, by omega, by go_num, below_dn hwr _⟩
      case measure => simp [intOf]; omega
    · have i1 : ¬ (k : Int) < (l.length : Int) := by omega
      go_wp2
      go_ret
      exact ⟨rfl, hwr⟩

theorem parse_le (s : List UInt8) : (Wd.parseList s).1.length ≤ 500 := by
  unfold Wd.parseList
  split
  · simp
  · split
    · simp
    · split
      · simp
      · split
        · simp
        · rename_i h; exact Nat.le_of_not_lt h

set_option maxHeartbeats 4000000 in
set_option maxRecDepth 100000 in
theorem lawLists (v : Value) (l : List Int) (s : ByteArray) (w : World) (hE : EnvP w) (h : ReadsL 1 encI w v l ∧ l.length ≤ 17592186044416) (hs0 : s.size ≤ 140737488351232) : Calls Tryz.prog 3 #[v, .string s] w (TrueB w) := by
  obtain ⟨h1, hl⟩ := h
  have hb0 := Below.refl w.heap.size w
  by_cases hbig : 510 < l.length
  · obtain ⟨a, c, rfl⟩ := h1.len
    clear h1
    go_enter Tryz.func3, Tryz.ntmps3
    go_wp2_with fail; refine (shown_any _ (hE.env.below hb0)).mono ?_; rintro e w9 ⟨rfl, hx⟩; have hb9 := hb0.trans (hx.mono hb0.size); go_wp2; go_ret; exact ⟨rfl, hb9⟩
  by_cases hbig2 : 2000 < s.size
  · obtain ⟨a, c, rfl⟩ := h1.len
    clear h1
    go_enter Tryz.func3, Tryz.ntmps3
    go_wp2_with fail; refine (shown_any _ (hE.env.below hb0)).mono ?_; rintro e w9 ⟨rfl, hx⟩; have hb9 := hb0.trans (hx.mono hb0.size); go_wp2; go_ret; exact ⟨rfl, hb9⟩
  have H1 := Lib.hid fun (w' : World) (hb : Below w.heap.size w w') => List_any v l w' (hE.env.below hb) (h1.below hb) (by omega)
  have H2 := Lib.hid fun (w' : World) (hb : Below w.heap.size w w') => rList_any v l w' (h1.below hb) (by omega)
  have H3 := Lib.hid fun (w' : World) (hb : Below w.heap.size w w') => ParseList_any s w' (hE.below hb) (by omega)
  have H4 := Lib.hid fun (w' : World) => rParseList_any s w' (by omega)
  have hle := parse_le s.data.toList
  obtain ⟨a, c, rfl⟩ := h1.len
  clear h1
  unfold listEnd at H1 H2
  unfold ParsePost at H3 H4
  generalize Wd.listTxt l = p at H1 H2
  generalize Wd.parseList s.data.toList = q at H3 H4 hle
  obtain ⟨t, n⟩ := p
  obtain ⟨m, n2⟩ := q
  dsimp only at H1 H2 H3 H4 hle
  go_enter Tryz.func3, Tryz.ntmps3
  go_wp2_with fail; refine (H1.out _ hb0).mono ?_; rintro e w1 ⟨rfl, hx⟩; have hb1 := hb0.trans (hx.mono hb0.size); clear hx
  go_wp2_with fail; refine (H2.out _ hb1).mono ?_; rintro e w2 ⟨rfl, hx⟩; have hb2 := hb1.trans (hx.mono hb1.size); clear hx
  go_wp2_with fail
  refine (H3.out _ hb2).mono ?_
  rintro e w3 ⟨⟨v3, rfl, hr3⟩, hx⟩
  have hb3 := hb2.trans (hx.mono hb2.size)
  clear hx
  go_wp2_with fail
  refine (H4.out _).mono ?_
  rintro e w4 ⟨⟨v4, rfl, hr4⟩, hx⟩
  have hb4 := hb3.trans (hx.mono hb3.size)
  have hr5 := hr3.below hx
  have HLS := Lib.hid (lists_same v3 v4 m w4 hr5 hr4 (by omega))
  obtain ⟨a3, c3, rfl⟩ := hr3.len
  obtain ⟨a4, c4, rfl⟩ := hr4.len
  clear hx hr3 hr4 hr5 H1 H2 H3 H4
  go_wp2_with fail
  refine HLS.out.mono ?_
  rintro e w5 ⟨rfl, hx⟩
  have hb5 := hb4.trans (hx.mono hb4.size)
  clear hx
  go_wp2_with fail; refine (shown_any _ (hE.env.below hb5)).mono ?_; rintro e w9 ⟨rfl, hx⟩; have hb9 := hb5.trans (hx.mono hb5.size); go_wp2; go_ret; exact ⟨rfl, hb9⟩
end Go.Proofs.YtffkohdnhaebjaaGreatDoor
