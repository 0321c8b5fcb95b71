/-
  Walks: the statement WordsLines.
-/
import Derived.Test.YtffkohdnhaebjaaDoorW25
import Derived.Test.YtffkohdnhaebjaaDoorOwn
import Derived.Laws.OwnMore
namespace Go.Proofs.YtffkohdnhaebjaaDoor
open Go.RowKit Go.Shelf

/-- A row of N bytes of one's own. -/
def Blk8 (w : World) (B g N : Nat) : Prop := ∃ l : List UInt8, l.length = N ∧ OwnB w B (.slice (some ⟨g, 0, none⟩) N N) l
theorem Blk8.made {w : World} {B g N : Nat} (h : w.ownsRow B 5 1 (.slice (some ⟨g, 0, none⟩) N N) N (madeCells (Value.int .u8 0).cells (N * 1)).toList) : Blk8 w B g N := by
  refine ⟨List.replicate N 0, by simp, ?_⟩
  unfold OwnB
  rw [List.length_replicate]
  have e : (List.replicate N (0 : UInt8)).map B8 = (madeCells (Value.int .u8 0).cells (N * 1)).toList := by
    rw [Nat.mul_one, show (Value.int .u8 0).cells = #[.int .u8 0] from rfl, toList_madeCells_one, List.map_replicate]; rfl
  rw [e]; exact h
theorem Blk8.at {w : World} {B g N : Nat} (h : Blk8 w B g N) (hN : 0 < N) : B ≤ g ∧ g < w.heap.size ∧ ∀ k, k < N → (∃ x : UInt8, w.cell? ⟨g, k, none⟩ = some (B8 x)) ∧ w.frozen? ⟨g, k, none⟩ = false := by
  obtain ⟨l, rfl, h⟩ := h
  rcases h.2 with ⟨hn, h0⟩ | ⟨g', cap, cur, hv, hbg, hg, h1, h2, h3, h4⟩
  · cases hn
  · cases hv
    refine ⟨hbg, (Array.getElem?_eq_some_iff.1 hg).1, fun k hk => ⟨⟨l[k], ?_⟩, blk_free hg k⟩⟩
    have hc := World.ownsRow.cells h (g := g) rfl k (B8 l[k]) (by simp [hk])
    rw [addr_add0] at hc
    exact hc
theorem Blk8.set {w : World} {B g N : Nat} (h : Blk8 w B g N) (k : Nat) (hk : k < N) (y : UInt8) : Blk8 (w.setCell ⟨g, k, none⟩ (B8 y)) B g N := by
  obtain ⟨l, rfl, h⟩ := h
  refine ⟨l.set k y, by simp, ?_⟩
  unfold OwnB at h ⊢
  rw [List.length_set]
  obtain ⟨h0, hn | ⟨g', cap, cur, hv, hbg, hg, h1, h2, h3, h4⟩⟩ := h
  · exact absurd hn.1 (by intro e; cases e)
  · cases hv
    refine ⟨by simp, .inr ⟨g, l.length, _, rfl, hbg, blk_set hg k (B8 y), Nat.le_refl _, h2, by rw [Array.size_setIfInBounds]; exact h3, ?_⟩⟩
    rw [Array.toList_setIfInBounds, List.take_set, h4, List.map_set]
theorem Blk8.below {w w' : World} {B g N : Nat} (h : Blk8 w B g N) (hb : Below w.heap.size w w') : Blk8 w' B g N := by
  obtain ⟨l, hl, h⟩ := h
  exact ⟨l, hl, h.below hb⟩
theorem Blk8.conv {w : World} {B g N : Nat} (h : Blk8 w B g N) : ∃ t : ByteArray, t.size = N ∧ (convert 38 9 (.slice (some ⟨g, 0, none⟩) N N)).run Tryd.prog w = .ok (.string t) w := by
  obtain ⟨l, rfl, h⟩ := h
  exact ⟨⟨l.toArray⟩, by rw [size_mk], conv_own h⟩

set_option maxHeartbeats 4000000 in
set_option maxRecDepth 100000 in
theorem lawLines (s tail : ByteArray) (long : Bool) (w : World) (hE : Env w) (hs0 : s.size ≤ 140737488351232) (ht0 : tail.size ≤ 140737488351232) : Calls Tryd.prog 8 #[.string s, .string tail, .bool long] w (TrueB w) := by
  have hb0 := Below.refl w.heap.size w
  by_cases hbig : 12000 < s.size
  · go_enter Tryd.func8, Tryd.ntmps8
    go_wp2_with fail; refine (shown_any _ (hE.below hb0)).mono ?_; rintro e w9 ⟨rfl, hx⟩; have hb9 := hb0.trans (hx.mono hb0.size); go_wp2; go_ret; exact ⟨rfl, hb9⟩
  by_cases hbig2 : 100 < tail.size
  · go_enter Tryd.func8, Tryd.ntmps8
    go_wp2_with fail; refine (shown_any _ (hE.below hb0)).mono ?_; rintro e w9 ⟨rfl, hx⟩; have hb9 := hb0.trans (hx.mono hb0.size); go_wp2; go_ret; exact ⟨rfl, hb9⟩
  obtain ⟨i0, hi0, hz0, hz1, hz2⟩ := info_parts info5
  cases long with
  | false =>
    go_enter Tryd.func8, Tryd.ntmps8
    go_wp2_with (at_make; refine wpList_make_full _ rfl _ _ 38 rfl w.heap.size 5 _ (.int .u8 0) 1 Tryd.underlying38 hi0 hz0 hz1 .i64 .i64 _ _ 5000 rfl rfl rfl rfl (by rw [hz2]; decide) (by decide) hb0.size ?_; intro w1 hm hg1)
    have hb1 := hb0.grown hg1 hb0.size (fun k h => by cases h)
    have hB := Blk8.made hm
    clear hm
    go_loopw [8] (fun i wr => ∃ k : Nat, k ≤ 5000 ∧ i = .int .i64 k ∧ Below w.heap.size w wr ∧ Blk8 wr w.heap.size w.heap.size 5000) (fun i _ => 5000 - (intOf i).toNat)
    case atStart => exact ⟨0, Nat.zero_le _, rfl, hb1, hB⟩
    case round =>
      obtain ⟨k, hk, rfl, hwr, hBr⟩ := hrel
      obtain ⟨hg0, hg1, hcs⟩ := hBr.at (by omega)
      by_cases hlt : k < 5000
      · obtain ⟨⟨x, c1⟩, c2⟩ := hcs k hlt
        have i1 : (k : Int) < 5000 := by omega
        clear hcs
        go_wp2
        go_roundw
        case rel => exact ⟨k + 1, by omega, by go_num, hwr.setCell (p := ⟨w.heap.size, k, none⟩) (Nat.le_refl _) _, hBr.set k hlt 10⟩
        case measure => simp [intOf]; omega
      · go_wp2_with fail; refine (lines_any s _ (hE.below hwr) hs0).mono ?_; rintro e w3 ⟨rfl, hx⟩; have hb3 := hwr.trans (hx.mono hwr.size); obtain ⟨t, ht, hcv⟩ := (hBr.below hx).conv; clear hx; go_wp2_with fail; refine (lines_any (t ++ tail) _ (hE.below hb3) (by rw [ByteArray.size_append, ht]; omega)).mono ?_; rintro e w4 ⟨rfl, hx⟩; have hb4 := hb3.trans (hx.mono hb3.size); clear hx; go_wp2_with fail; refine (shown_any _ (hE.below hb4)).mono ?_; rintro e w9 ⟨rfl, hx⟩; have hb9 := hb4.trans (hx.mono hb4.size); go_wp2; go_ret; exact ⟨rfl, hb9⟩
  | true =>
    obtain ⟨N, hN1, hN2⟩ : ∃ N : Nat, N ≤ 1048556 ∧ 1048556 ≤ N := ⟨1048556, Nat.le_refl _, Nat.le_refl _⟩
    go_enter Tryd.func8, Tryd.ntmps8
    go_wp2_with (first | (at_make; refine wpList_make_full _ rfl _ _ 38 rfl w.heap.size 5 _ (.int .u8 0) 1 Tryd.underlying38 hi0 hz0 hz1 .i64 .i64 _ _ 5000 rfl rfl rfl rfl (by rw [hz2]; decide) (by decide) hb0.size ?_; intro w0 hm hg0) | (at_make; refine wpList_make_full _ rfl _ _ 38 rfl w.heap.size 5 _ (.int .u8 0) 1 Tryd.underlying38 hi0 hz0 hz1 .i64 .i64 _ _ N rfl rfl (by omega) (by omega) (by rw [hz2]; omega) (by unfold maxLen; omega) (Below.grown hb0 hg0 hb0.size (fun k h => by cases h)).size ?_; intro w1 hm1 hg1))
    have hb1 := (Below.grown hb0 hg0 hb0.size (fun k h => by cases h)).grown hg1 (Below.grown hb0 hg0 hb0.size (fun k h => by cases h)).size (fun k h => by cases h)
    have hB := Blk8.made hm1
    clear hm hm1
    have hgs : w.heap.size ≤ w0.heap.size := hg0.size
    generalize w0.heap.size = g at *
    go_loopw [8] (fun i wr => ∃ k : Nat, k ≤ N ∧ i = .int .i64 k ∧ Below w.heap.size w wr ∧ Blk8 wr w.heap.size g N) (fun i _ => N - (intOf i).toNat)
    case atStart => exact ⟨0, Nat.zero_le _, rfl, hb1, hB⟩
    case round =>
      obtain ⟨k, hk, rfl, hwr, hBr⟩ := hrel
      obtain ⟨hg0, hg1, hcs⟩ := hBr.at (by omega)
      by_cases hlt : k < N
      · obtain ⟨⟨x, c1⟩, c2⟩ := hcs k hlt
        have i1 : (k : Int) < N := by omega
        clear hcs
        go_wp2
        · exact ⟨⟨k + 1, by omega, by go_num, (hwr.setCell (p := ⟨g, k, none⟩) hg0 _).setCell (p := ⟨g, k, none⟩) hg0 _, (hBr.set k hlt 10).set k hlt 120⟩, by simp [intOf]; omega⟩
        · exact ⟨⟨k + 1, by omega, by go_num, hwr.setCell (p := ⟨g, k, none⟩) hg0 _, hBr.set k hlt 10⟩, by simp [intOf]; omega⟩
      · go_wp2_with fail; refine (lines_any s _ (hE.below hwr) hs0).mono ?_; rintro e w3 ⟨rfl, hx⟩; have hb3 := hwr.trans (hx.mono hwr.size); obtain ⟨t, ht, hcv⟩ := (hBr.below hx).conv; clear hx; go_wp2_with fail; refine (lines_any (t ++ tail) _ (hE.below hb3) (by rw [ByteArray.size_append, ht]; omega)).mono ?_; rintro e w4 ⟨rfl, hx⟩; have hb4 := hb3.trans (hx.mono hb3.size); clear hx; go_wp2_with fail; refine (shown_any _ (hE.below hb4)).mono ?_; rintro e w9 ⟨rfl, hx⟩; have hb9 := hb4.trans (hx.mono hb4.size); go_wp2; go_ret; exact ⟨rfl, hb9⟩
end Go.Proofs.YtffkohdnhaebjaaDoor
