/-
  Walks for layer 26 (model): slices.Insert of one element.
-/
import Derived.Test.YtaicmiadgnpimaaMdRun
import Derived.Test.YtaicmiadgnpimaaMdLib
import Derived.Deep.RegionLaw
namespace Go.Proofs.Ytaicmiadgnpimaa
open Go.RowKit Go.Lib

theorem splice_len {α : Type} (l : List α) (i : Nat) (x : α) (hi : i ≤ l.length) : (l.take i ++ x :: l.drop i).length = l.length + 1 := by simp; omega
theorem flat_splice {α : Type} {enc : α → List Value} (l : List α) (i : Nat) (x : α) : (l.take i ++ x :: l.drop i).flatMap enc = (l.take i).flatMap enc ++ (enc x ++ (l.drop i).flatMap enc) := by
 simp [List.flatMap_append, List.flatMap_cons]
theorem flat_take {α : Type} {enc : α → List Value} {n : Nat} (hl : ∀ x, (enc x).length = n) (l : List α) (i : Nat) (hi : i ≤ l.length) : (l.flatMap enc).take (i * n) = (l.take i).flatMap enc := by
 have e : l.flatMap enc = (l.take i).flatMap enc ++ (l.drop i).flatMap enc := by rw [← List.flatMap_append, List.take_append_drop]
 rw [e, List.take_append_of_le_length (by rw [flat_length hl, List.length_take]; rw [Nat.min_eq_left hi]; exact Nat.le_refl _), List.take_of_length_le (by rw [flat_length hl, List.length_take, Nat.min_eq_left hi]; exact Nat.le_refl _)]
theorem flat_drop {α : Type} {enc : α → List Value} {n : Nat} (hl : ∀ x, (enc x).length = n) (l : List α) (i : Nat) (hi : i ≤ l.length) : (l.flatMap enc).drop (i * n) = (l.drop i).flatMap enc := by
 have e : l.flatMap enc = (l.take i).flatMap enc ++ (l.drop i).flatMap enc := by rw [← List.flatMap_append, List.take_append_drop]
 have h1 : ((l.take i).flatMap enc).length = i * n := by rw [flat_length hl, List.length_take, Nat.min_eq_left hi]
 rw [e, ← h1, List.drop_left]
theorem shift_list {cur A E D : List Value} {a e d : Nat} (hA : A.length = a) (hE : E.length = e) (hD : D.length = d) (hc : cur.take (a + d) = A ++ D) (hl : a + e + d ≤ cur.length) :
 let c1 := cur.take (a + e) ++ D ++ cur.drop (a + e + D.length)
 let c2 := c1.take a ++ E ++ c1.drop (a + E.length)
 c2.length = cur.length ∧ c2.take (a + e + d) = A ++ (E ++ D) := by
 intro c1 c2
 have h1 : c1.take a = A := by
  show (cur.take (a + e) ++ D ++ cur.drop (a + e + D.length)).take a = A
  rw [List.append_assoc, List.take_append_of_le_length (by rw [List.length_take]; omega), List.take_take, Nat.min_eq_left (by omega)]
  have h2 := congrArg (List.take a) hc
  rw [List.take_take, Nat.min_eq_left (by omega)] at h2
  rw [h2, List.take_append_of_le_length (by omega), List.take_of_length_le (by omega)]
 have h2 : c1.drop (a + E.length) = D ++ cur.drop (a + e + d) := by
  show (cur.take (a + e) ++ D ++ cur.drop (a + e + D.length)).drop (a + E.length) = _
  have h3 : (cur.take (a + e)).length = a + E.length := by rw [List.length_take, hE]; omega
  rw [List.append_assoc, ← h3, List.drop_left, hD]
 refine ⟨?_, ?_⟩
 · show (c1.take a ++ E ++ c1.drop (a + E.length)).length = _
   rw [h1, h2]
   simp only [List.length_append, List.length_drop, hA, hE, hD]
   omega
 · show (c1.take a ++ E ++ c1.drop (a + E.length)).take (a + e + d) = _
   rw [h1, h2]
   have h3 : (A ++ (E ++ D)).length = a + e + d := by simp only [List.length_append, hA, hE, hD]; omega
   rw [show A ++ E ++ (D ++ cur.drop (a + e + d)) = (A ++ (E ++ D)) ++ cur.drop (a + e + d) by simp, List.take_append_of_le_length (by omega), List.take_of_length_le (by omega)]
theorem grow_list {cur A E D : List Value} {a e d : Nat} (hA : A.length = a) (hE : E.length = e) (hD : D.length = d) (hc : cur.take a = A) (hl : a + e + d ≤ cur.length) :
 let c1 := cur.take a ++ E ++ cur.drop (a + E.length)
 let c2 := c1.take (a + e) ++ D ++ c1.drop (a + e + D.length)
 c1.length = cur.length ∧ c2.length = cur.length ∧ c2.take (a + e + d) = A ++ (E ++ D) := by
 intro c1 c2
 have h0 : c1.length = cur.length := by
  show (cur.take a ++ E ++ cur.drop (a + E.length)).length = _
  rw [hc]
  simp only [List.length_append, List.length_drop, hA, hE]
  omega
 have h1 : c1.take (a + e) = A ++ E := by
  show (cur.take a ++ E ++ cur.drop (a + E.length)).take (a + e) = _
  have h3 : (A ++ E).length = a + e := by simp only [List.length_append, hA, hE]
  rw [hc, List.take_append_of_le_length (by omega), List.take_of_length_le (by omega)]
 refine ⟨h0, ?_, ?_⟩
 · show (c1.take (a + e) ++ D ++ c1.drop (a + e + D.length)).length = _
   rw [h1]
   simp only [List.length_append, List.length_drop, hA, hE, hD, h0]
   omega
 · show (c1.take (a + e) ++ D ++ c1.drop (a + e + D.length)).take (a + e + d) = _
   rw [h1]
   have h3 : (A ++ E ++ D).length = a + e + d := by simp only [List.length_append, hA, hE, hD]
   rw [List.take_append_of_le_length (by omega), List.take_of_length_le (by omega)]
   simp
set_option maxHeartbeats 1000000 in
set_option maxRecDepth 100000 in
theorem insLease_end (u : SlV) (l : List Md.Lease) (x : Md.Lease) (xb : Nat) (w : World) (h : OwnL 69 3 encLease w 0 (valS u) l) (hx : ∀ j y, (encLease x)[j]? = some y → w.cell? ⟨xb, j, none⟩ = some y) (hl : l.length ≤ 1000000) :
 Calls Try.prog 89 #[valS u, I64 l.length, .slice (some ⟨xb, 0, none⟩) 1 1] w fun e w' => ∃ u', e = .returned (valS u') ∧ OwnL 69 3 encLease w' 0 (valS u') (l ++ [x]) ∧ w.grownBy w' (obS u) ∧ (obS u' = obS u ∨ ∀ k, obS u' = some k → w.heap.size ≤ k) := by
 have H := Lib.hid h
 have HX := Lib.hid hx
 have hcap : u = (none, 0, 0) ∧ l.length = 0 ∨ ∃ g cap, u = (some ⟨g, 0, none⟩, l.length, cap) ∧ l.length ≤ cap ∧ cap ≤ maxLen := by
  obtain ⟨a, m, c⟩ := u
  rcases h.2 with ⟨e, h0⟩ | ⟨g, cap, cur, e, _, _, e4, e5, _⟩
  · unfold valS at e
    injection e with e1 e2 e3
    subst e1 e2 e3
    exact .inl ⟨rfl, h0⟩
  · unfold valS at e
    injection e with e1 e2 e3
    subst e1 e2 e3
    exact .inr ⟨g, _, rfl, e4, e5⟩
 clear h hx
 have HP : Hid (∀ g' c' w', OwnL 69 3 encLease w' 0 (.slice (some ⟨g', 0, none⟩) (l.length + 1) c') (l ++ [x]) → w.grownBy w' (valS u).ownBlock → (some g' = (valS u).ownBlock ∨ g' = w.heap.size) → ∃ u', Ending.returned (.slice (some ⟨g', 0, none⟩) (l.length + 1) c') = .returned (valS u') ∧ OwnL 69 3 encLease w' 0 (valS u') (l ++ [x]) ∧ w.grownBy w' (obS u) ∧ (obS u' = obS u ∨ ∀ k, obS u' = some k → w.heap.size ≤ k)) := fun g' c' w' h1 h2 h3 => by
  rw [valS_own] at h2 h3
  refine ⟨(some ⟨g', 0, none⟩, l.length + 1, c'), rfl, h1, h2, ?_⟩
  rcases h3 with h3 | h3
  · exact .inl h3
  · refine .inr fun k hk => ?_
    injection hk with hk
    exact Nat.le_of_eq (h3.symm.trans hk)
 rcases hcap with ⟨rfl, h0⟩ | ⟨g, cap, rfl, hc1, hc2⟩
 · obtain rfl : l = [] := List.eq_nil_of_length_eq_zero h0
   unfold valS at H ⊢
   dsimp only at H ⊢
   go_enter Try.func89, Try.ntmps89
   go_wp2_with (at_builtin; refine appL_own elLease _ rfl _ _ rfl 0 (.slice none 0 0) [] x rfl H.out xb 1 rfl HX.out (by unfold maxLen; simp) (by simp) (Nat.zero_le _) ?_; rintro g' c' w1 hown hgr hat)
   obtain ⟨u', q1, q2⟩ := HP.out g' c' w1 hown hgr hat
   go_ret
   exact ⟨u', q1, q2⟩
 · have HCC : Hid (cap ≤ maxLen) := hc2
   unfold maxLen at hc2
   unfold valS at H ⊢
   dsimp only at H ⊢
   obtain ⟨n, hn⟩ : ∃ n, n = l.length := ⟨_, rfl⟩
   have HN := Lib.hid hn
   rw [← hn] at hc1 hl H ⊢
   by_cases hcn : cap = n
   · subst hcn
     clear hn hc1
     go_enter Try.func89, Try.ntmps89
     go_wp2_with (at_builtin; refine appL_own elLease _ rfl _ _ rfl 0 _ l x rfl H.out xb 1 rfl HX.out (by unfold maxLen; rw [← HN.out]; omega) (by rw [← HN.out]; omega) (Nat.zero_le _) ?_; rintro g' c' w1 hown hgr hat)
     obtain ⟨u', q1, q2⟩ := HP.out g' c' w1 hown (by rw [← HN.out]; exact hgr) (by rw [← HN.out]; exact hat)
     go_ret
     exact ⟨u', q1, q2⟩
   · clear hn
     go_enter Try.func89, Try.ntmps89
     go_wp2_with (at_builtin; refine appL_own elLease _ rfl _ _ rfl 0 _ l x rfl H.out xb 1 rfl HX.out (by unfold maxLen; rw [← HN.out]; omega) (by rw [← HN.out]; omega) (Nat.zero_le _) ?_; rintro g' c' w1 hown hgr hat)
     obtain ⟨u', q1, q2⟩ := HP.out g' c' w1 hown (by rw [← HN.out]; exact hgr) (by rw [← HN.out]; exact hat)
     go_ret
     exact ⟨u', q1, q2⟩
set_option maxHeartbeats 2000000 in
set_option maxRecDepth 100000 in
theorem insLease_shift (g cap i : Nat) (l : List Md.Lease) (x : Md.Lease) (xb : Nat) (w : World) (h : OwnL 69 3 encLease w 0 (.slice (some ⟨g, 0, none⟩) l.length cap) l) (hi : i < l.length) (hcap : l.length < cap) (hxb : xb ≠ g) (T : TypeId) (hx : w.heap[xb]? = some (.cells (encLease x).toArray T (0, 0))) (hl : l.length ≤ 1000000) :
 Calls Try.prog 89 #[.slice (some ⟨g, 0, none⟩) l.length cap, I64 i, .slice (some ⟨xb, 0, none⟩) 1 1] w fun e w' => e = .returned (.slice (some ⟨g, 0, none⟩) (l.length + 1) cap) ∧ OwnL 69 3 encLease w' 0 (.slice (some ⟨g, 0, none⟩) (l.length + 1) cap) (l.take i ++ x :: l.drop i) ∧ w.grownBy w' (some g) := by
 obtain ⟨n, hn⟩ : ∃ n, n = l.length := ⟨_, rfl⟩
 obtain ⟨cur, hg, hc5, hc6, hc7⟩ : ∃ cur : Array Value, w.heap[g]? = some (.cells cur 69 (0, 0)) ∧ cap ≤ maxLen ∧ cur.size = cap * 3 ∧ cur.toList.take (l.length * 3) = l.flatMap encLease := by
  rcases h.2 with ⟨e, _⟩ | ⟨g', cap', cur, e, _, e3, _, e5, e6, e7⟩
  · cases e
  · injection e with e1 e2 e3'
    injection e1 with e1
    injection e1 with e1 _ _
    subst e1 e3'
    exact ⟨cur, e3, e5, e6, e7⟩
 have HC5 : Hid (cap ≤ maxLen) := hc5
 unfold maxLen at hc5
 have hsh1 : w.shape? xb = some (T, 3) := by simp [World.shape?, hx, encLease]
 have hsh2 : w.shape? g = some (69, cap * 3) := by simp [World.shape?, hg, hc6]
 have hov : ∀ off lb cb, (callFunc 100 #[.slice (some ⟨xb, 0, none⟩) 1 1, .slice (some ⟨g, off, none⟩) lb cb]).run Try.prog w = .ok (.value (.bool false)) w := fun off lb cb => by
  rw [run_callFunc_extern Try.func100 (by kernel_rfl) (by kernel_rfl) (by kernel_rfl) (e := Extern.SlicesOverlaps.overlaps #[44, 44] #[4]) (by kernel_rfl),
   Lib.run_overlaps_apart w 44 4 69 Try.underlying44 3 Try.sizeOf69 ⟨xb, 0, none⟩ ⟨g, off, none⟩ 1 1 lb cb hxb T 69 3 (cap * 3) hsh1 hsh2 (by omega) (blk_free hx _) (blk_free hx _)]
  rfl
 rw [← hn] at hi hcap hl ⊢
 have HN := Lib.hid hn
 have hb2 : ¬ cap = i + 1 := by omega
 have hb4 : ¬ cap = i := by omega
 have hw1 : IntKind.i64.wrap ((i : Int) + 1) = (i : Int) + 1 := by rw [IntKind.wrap_i64]; omega
 have htn : ((i : Int) + 1).toNat = i + 1 := by omega
 have hi2 : ¬ ((i : Int) = (n : Int)) := by omega
 have hin : i ≤ n := by omega
 have hinI : (i : Int) ≤ (n : Int) := by omega
 have hb1 : (0 : Int) ≤ (i : Int) + 1 := by omega
 have hb3 : (i : Int) ≤ (n : Int) + 1 := by omega
 have mixed : Try.prog.follows Departure.mixedOrders = true := by kernel_rfl
 have hi3 : ((i : Int) == (n : Int)) = false := by rw [beq_eq_false_iff_ne]; omega
 have hit : i ≤ l.length := by rw [← HN.out]; omega
 have hA : ((l.take i).flatMap encLease).length = i * 3 := by rw [flat_length encLease_len, List.length_take, Nat.min_eq_left hit]
 have hD : ((l.drop i).flatMap encLease).length = (n - i) * 3 := by rw [flat_length encLease_len, List.length_drop, ← HN.out]
 have hAD : cur.toList.take (i * 3 + (n - i) * 3) = (l.take i).flatMap encLease ++ (l.drop i).flatMap encLease := by
  rw [← List.flatMap_append, List.take_append_drop, ← hc7, ← HN.out]
  congr 1
  omega
 obtain ⟨A, hAe⟩ : ∃ A, A = (l.take i).flatMap encLease := ⟨_, rfl⟩
 obtain ⟨D, hDe⟩ : ∃ D, D = (l.drop i).flatMap encLease := ⟨_, rfl⟩
 have h1D : ∀ v ∈ D, v.oneCell' = true := fun v hv => by
  rw [hDe] at hv
  obtain ⟨y, _, hy⟩ := List.mem_flatMap.1 hv
  exact elLease.one y v hy
 rw [← hAe] at hA hAD
 rw [← hDe] at hD hAD
 obtain ⟨k1, k2⟩ := shift_list (cur := cur.toList) (E := encLease x) hA (encLease_len x) hD hAD (by rw [Array.length_toList, hc6]; omega)
 obtain ⟨c1, hc1⟩ : ∃ c1, c1 = cur.toList.take (i * 3 + 3) ++ D ++ cur.toList.drop (i * 3 + 3 + D.length) := ⟨_, rfl⟩
 rw [← hc1] at k1 k2
 obtain ⟨c2, hc2⟩ : ∃ c2, c2 = c1.take (i * 3) ++ encLease x ++ c1.drop (i * 3 + (encLease x).length) := ⟨_, rfl⟩
 rw [← hc2] at k1 k2
 have hsz : (Try.prog.info? 69).map (·.size) = some 3 := by
  obtain ⟨i0, hi0, h0, h1, h2⟩ := info_parts elLease.info
  rw [hi0]; simp [h1]
 have hgd : w.drew.heap[g]? = some (.cells cur 69 (0, 0)) := hg
 have hDc : ∀ j v, D[j]? = some v → w.drew.cell? ((⟨g, i * 3, none⟩ : Addr).add j) = some v := fun j v hj => by
  rw [Addr.add_lit, blk_cell hgd]
  have h2 : (A ++ D)[i * 3 + j]? = some v := by rw [List.getElem?_append_right (by omega), hA]; simpa using hj
  rw [← hAD, List.getElem?_take] at h2
  split at h2
  · rw [← Array.getElem?_toList]; exact h2
  · cases h2
 have hcp1 : ∀ ty dc sc, (Builtin.copy_ #[44, 44] ty #[.slice (some ⟨g, (i + 1) * 3, none⟩) (n - i) dc, .slice (some ⟨g, i * 3, none⟩) (n + 1 - i) sc]).run Try.prog w.drew = .ok (goInt (Nat.min (n + 1 - i) (n - i))) (w.drew.setRow g c1.toArray) := fun ty dc sc => by
  have h1 := run_copy_rowK (P := Try.prog) w.drew 44 44 ty 69 3 g ((i + 1) * 3) (n - i) dc ⟨g, i * 3, none⟩ (n + 1 - i) sc cur 69 D Try.underlying44 hsz hgd (by rw [hD]; simp only [Nat.min_def]; split <;> omega) hDc (by rw [hD, hc6]; omega) h1D
  have e9 : (i + 1) * 3 = i * 3 + 3 := by omega
  rw [hc1, h1, e9]
 have hg1 : (w.drew.setRow g c1.toArray).heap[g]? = some (.cells c1.toArray 69 (0, 0)) := setRow_heap _ g _ _ _ _ hgd
 have hxx : ∀ j v, (encLease x)[j]? = some v → (w.drew.setRow g c1.toArray).cell? ((⟨xb, 0, none⟩ : Addr).add j) = some v := fun j v hj => by
  have hx2 : (w.drew.setRow g c1.toArray).heap[xb]? = some (.cells (encLease x).toArray T (0, 0)) := (setRow_other _ g xb _ hxb).trans hx
  rw [Addr.add_lit, blk_cell hx2]
  simpa using hj
 have hcp2 : ∀ ty dc, (Builtin.copy_ #[44, 44] ty #[.slice (some ⟨g, i * 3, none⟩) (n + 1 - i) dc, .slice (some ⟨xb, 0, none⟩) 1 1]).run Try.prog (w.drew.setRow g c1.toArray) = .ok (goInt (Nat.min 1 (n + 1 - i))) ((w.drew.setRow g c1.toArray).setRow g c2.toArray) := fun ty dc => by
  have h1 := run_copy_rowK (P := Try.prog) (w.drew.setRow g c1.toArray) 44 44 ty 69 3 g (i * 3) (n + 1 - i) dc ⟨xb, 0, none⟩ 1 1 c1.toArray 69 (encLease x) Try.underlying44 hsz hg1 (by rw [encLease_len]; simp only [Nat.min_def]; split <;> omega) hxx (by
   rw [encLease_len, List.size_toArray]
   have h9 : c1.length = cur.toList.length := by
    rw [hc1]
    simp only [List.length_append, List.length_take, List.length_drop, Array.length_toList, hD, hc6]
    omega
   rw [h9, Array.length_toList, hc6]
   omega) (elLease.one x)
  rw [hc2, h1]
 have HFIN : Hid (OwnL 69 3 encLease ((w.drew.setRow g c1.toArray).setRow g c2.toArray) 0 (.slice (some ⟨g, 0, none⟩) (n + 1) cap) (l.take i ++ x :: l.drop i) ∧ w.grownBy ((w.drew.setRow g c1.toArray).setRow g c2.toArray) (some g)) := by
  have hlen : (l.take i ++ x :: l.drop i).length = n + 1 := by rw [splice_len l i x hit, ← HN.out]
  refine ⟨⟨?_, .inr ⟨g, cap, c2.toArray, by rw [hlen], Nat.zero_le _, setRow_heap _ g _ _ _ _ hg1, by rw [hlen]; omega, HC5.out, ?_, ?_⟩⟩, ?_⟩
  · rw [flat_length encLease_len]
  · rw [List.size_toArray, k1, Array.length_toList, hc6]
  · rw [hlen, flat_splice, ← hAe, ← hDe, ← k2]
    congr 1
    omega
  · exact grown_trans3 (grown_trans3 (drew_grown w _) (setRow_grown _ g _)) (setRow_grown _ g _)
 obtain ⟨W1, hW1⟩ : ∃ W1, W1 = w.drew.setRow g c1.toArray := ⟨_, rfl⟩
 rw [← hW1] at hcp1 hcp2 HFIN
 obtain ⟨W2, hW2⟩ : ∃ W2, W2 = W1.setRow g c2.toArray := ⟨_, rfl⟩
 rw [← hW2] at hcp2 HFIN
 clear h hx hg hc6 hc7 hsh1 hsh2 hn hA hD hAD hAe hDe h1D k1 k2 hc1 hc2 hsz hgd hDc hg1 hxx hW1 hW2 hit
 go_enter Try.func89, Try.ntmps89
 go_wp2_with (simp only [hov])
 go_region_law_o (refine step_copy_runI rfl _ _ 44 44 rfl _ _ (by simp [Act.eval, Act.put]) (by simp [Act.eval, Act.put]) (hcp1 _ _ _) ?_)
 go_wp2_with (at_builtin; refine wpList_copy_runI _ rfl _ _ 44 44 rfl _ _ rfl rfl (hcp2 _ _) ?_)
 go_ret
 exact ⟨rfl, HFIN.out⟩
set_option maxHeartbeats 2000000 in
set_option maxRecDepth 100000 in
theorem insLease_grow (g i : Nat) (l : List Md.Lease) (x : Md.Lease) (xb : Nat) (w : World) (h : OwnL 69 3 encLease w 0 (.slice (some ⟨g, 0, none⟩) l.length l.length) l) (hi : i < l.length) (T : TypeId) (hx : w.heap[xb]? = some (.cells (encLease x).toArray T (0, 0))) (hl : l.length ≤ 1000000) :
 Calls Try.prog 89 #[.slice (some ⟨g, 0, none⟩) l.length l.length, I64 i, .slice (some ⟨xb, 0, none⟩) 1 1] w fun e w' => ∃ C, e = .returned (.slice (some ⟨w.heap.size, 0, none⟩) (l.length + 1) C) ∧ OwnL 69 3 encLease w' 0 (.slice (some ⟨w.heap.size, 0, none⟩) (l.length + 1) C) (l.take i ++ x :: l.drop i) ∧ w.grownBy w' none := by
 obtain ⟨n, hn⟩ : ∃ n, n = l.length := ⟨_, rfl⟩
 obtain ⟨cur, hg, hc6, hc7⟩ : ∃ cur : Array Value, w.heap[g]? = some (.cells cur 69 (0, 0)) ∧ cur.size = l.length * 3 ∧ cur.toList.take (l.length * 3) = l.flatMap encLease := by
  rcases h.2 with ⟨e, _⟩ | ⟨g', cap', cur, e, _, e3, _, e5, e6, e7⟩
  · cases e
  · injection e with e1 e2 e3'
    injection e1 with e1
    injection e1 with e1 _ _
    subst e1
    rw [← e3'] at e6
    exact ⟨cur, e3, e6, e7⟩
 have hgl := (Array.getElem?_eq_some_iff.1 hg).1
 have hxl := (Array.getElem?_eq_some_iff.1 hx).1
 rw [← hn] at hi hl hc6 hc7 ⊢
 have HN := Lib.hid hn
 have hb4 : ¬ n = i := by omega
 have hw1 : IntKind.i64.wrap ((i : Int) + 1) = (i : Int) + 1 := by rw [IntKind.wrap_i64]; omega
 have htn : ((i : Int) + 1).toNat = i + 1 := by omega
 have hi2 : ¬ ((i : Int) = (n : Int)) := by omega
 have hin : i ≤ n := by omega
 have hinI : (i : Int) ≤ (n : Int) := by omega
 have hb1 : (0 : Int) ≤ (i : Int) + 1 := by omega
 have hb3 : (i : Int) ≤ (n : Int) + 1 := by omega
 have mixed : Try.prog.follows Departure.mixedOrders = true := by kernel_rfl
 have hi3 : ((i : Int) == (n : Int)) = false := by rw [beq_eq_false_iff_ne]; omega
 have hit : i ≤ l.length := by rw [← HN.out]; omega
 have hA : ((l.take i).flatMap encLease).length = i * 3 := by rw [flat_length encLease_len, List.length_take, Nat.min_eq_left hit]
 have hD : ((l.drop i).flatMap encLease).length = (n - i) * 3 := by rw [flat_length encLease_len, List.length_drop, ← HN.out]
 have hAD : cur.toList = (l.take i).flatMap encLease ++ (l.drop i).flatMap encLease := by
  rw [← List.flatMap_append, List.take_append_drop, ← hc7, List.take_of_length_le (by rw [Array.length_toList, hc6]; exact Nat.le_refl _)]
 obtain ⟨A, hAe⟩ : ∃ A, A = (l.take i).flatMap encLease := ⟨_, rfl⟩
 obtain ⟨D, hDe⟩ : ∃ D, D = (l.drop i).flatMap encLease := ⟨_, rfl⟩
 have h1D : ∀ v ∈ D, v.oneCell' = true := fun v hv => by
  rw [hDe] at hv
  obtain ⟨y, _, hy⟩ := List.mem_flatMap.1 hv
  exact elLease.one y v hy
 rw [← hAe] at hA hAD
 rw [← hDe] at hD hAD
 obtain ⟨i0, hi0, hz0, hz1, hz2⟩ := info_parts elLease.info
 have hsz : (Try.prog.info? 69).map (·.size) = some 3 := by
  rw [hi0]; simp [hz1]
 obtain ⟨C, hCe⟩ : ∃ C, C = grownCap w (n + 1) n 69 := ⟨_, rfl⟩
 have hCge : n + 1 ≤ C := by rw [hCe]; exact grownCap_ge w (n + 1) n _
 have hCle : C ≤ maxLen := by rw [hCe]; exact grownCap_le_maxLen w (n + 1) n _ (by unfold maxLen; omega)
 obtain ⟨cur0, hcur0⟩ : ∃ cur0 : Array Value, cur0 = A.toArray ++ Builtin.zeroCells (Value.cells (.agg #[I64 0, I64 0, I64 0])) (n + 1 - i) ++ Builtin.zeroCells (Value.cells (.agg #[I64 0, I64 0, I64 0])) (C - (n + 1)) := ⟨_, rfl⟩
 obtain ⟨W0, hW0⟩ : ∃ W0, W0 = w.drew.alloc (.cells cur0 69) := ⟨_, rfl⟩
 have hc0s : cur0.size = C * 3 := by
  rw [hcur0]
  simp only [Array.size_append, size_zeroCells, List.size_toArray, hA]
  have : (Value.cells (.agg #[I64 0, I64 0, I64 0])).size = 3 := rfl
  rw [this]
  omega
 have hc0t : cur0.toList.take (i * 3) = A := by
  rw [hcur0]
  simp only [Array.toList_append, List.append_assoc]
  rw [← hA, List.take_left]
 have hrz : ∀ ty, (Builtin.append_ #[44, 3] ty #[.slice (some ⟨g, 0, none⟩) i n, .int .i64 ((n : Int) + 1 - (i : Int))]).run Try.prog w = .ok (.slice (some ⟨w.heap.size, 0, none⟩) (n + 1) C) W0 := fun ty => by
  have hold : (Builtin.firstCells i0.size i (.slice (some ⟨g, 0, none⟩) i n)).run Try.prog w.drew = .ok A.toArray w.drew := run_firstCells_some w.drew i0.size i ⟨g, 0, none⟩ i n A (by rw [hz1, hA]) (fun j v hj => by
   rw [Addr.add_lit, blk_cell (show w.drew.heap[g]? = _ from hg), Nat.zero_add, ← Array.getElem?_toList, hAD, List.getElem?_append_left (List.getElem?_eq_some_iff.1 hj).1]
   exact hj)
  have h1 := run_append_grow_zeros (P := Try.prog) w 44 3 ty 69 i0 (.agg #[I64 0, I64 0, I64 0]) .i64 Try.underlying44 Try.underlying3 hi0 hz0 (some ⟨g, 0, none⟩) i n (n + 1 - i) A hold (by omega) (by rw [hz1]; decide) (by omega) (by omega) (by rw [hz2]; omega) (by
   rw [hz2]
   exact growslice_fits (by omega) (by omega))
  rw [show ((n + 1 - i : Nat) : Int) = (n : Int) + 1 - (i : Int) by omega, show i + (n + 1 - i) = n + 1 by omega, ← hCe, ← hcur0, ← hW0] at h1
  exact h1
 have hW0s : W0.heap.size = w.heap.size + 1 := by rw [hW0]; simp
 have hWN : W0.heap[w.heap.size]? = some (.cells cur0 69 (0, 0)) := by
  rw [hW0]
  exact blk_new w.drew (.cells cur0 69)
 have hWg : w.grownBy W0 none := by
  have hb := ((Below.refl w.heap.size w).drew).alloc (Nat.le_refl _) (.cells cur0 69)
  rw [← hW0] at hb
  exact ⟨hb.os, hb.tape, hb.output, hb.size, fun k hk _ => hb.block k hk⟩
 obtain ⟨k0, k1, k2⟩ := grow_list (cur := cur0.toList) (E := encLease x) hA (encLease_len x) hD hc0t (by rw [Array.length_toList, hc0s]; omega)
 obtain ⟨c1, hc1⟩ : ∃ c1, c1 = cur0.toList.take (i * 3) ++ encLease x ++ cur0.toList.drop (i * 3 + (encLease x).length) := ⟨_, rfl⟩
 rw [← hc1] at k0 k1 k2
 obtain ⟨c2, hc2⟩ : ∃ c2, c2 = c1.take (i * 3 + 3) ++ D ++ c1.drop (i * 3 + 3 + D.length) := ⟨_, rfl⟩
 rw [← hc2] at k1 k2
 have hcp1 : ∀ ty dc, (Builtin.copy_ #[44, 44] ty #[.slice (some ⟨w.heap.size, i * 3, none⟩) (n + 1 - i) dc, .slice (some ⟨xb, 0, none⟩) 1 1]).run Try.prog W0 = .ok (goInt (Nat.min 1 (n + 1 - i))) (W0.setRow w.heap.size c1.toArray) := fun ty dc => by
  have h1 := run_copy_rowK (P := Try.prog) W0 44 44 ty 69 3 w.heap.size (i * 3) (n + 1 - i) dc ⟨xb, 0, none⟩ 1 1 cur0 69 (encLease x) Try.underlying44 hsz hWN (by rw [encLease_len]; simp only [Nat.min_def]; split <;> omega) (fun j v hj => by
   rw [Addr.add_lit, blk_cell ((hWg.block xb hxl (by simp)).trans hx)]
   simpa using hj) (by rw [encLease_len, hc0s]; omega) (elLease.one x)
  rw [hc1, h1]
 obtain ⟨W1, hW1⟩ : ∃ W1, W1 = W0.setRow w.heap.size c1.toArray := ⟨_, rfl⟩
 have hg1 : W1.drew.heap[w.heap.size]? = some (.cells c1.toArray 69 (0, 0)) := by rw [hW1]; exact setRow_heap _ _ _ _ _ _ hWN
 have hgg : W1.drew.heap[g]? = some (.cells cur 69 (0, 0)) := by
  rw [hW1]
  exact (setRow_other _ _ g _ (by omega)).trans ((hWg.block g hgl (by simp)).trans hg)
 have hcp2 : ∀ ty dc sc, (Builtin.copy_ #[44, 44] ty #[.slice (some ⟨w.heap.size, (i + 1) * 3, none⟩) (n - i) dc, .slice (some ⟨g, i * 3, none⟩) (n - i) sc]).run Try.prog W1.drew = .ok (goInt (Nat.min (n - i) (n - i))) (W1.drew.setRow w.heap.size c2.toArray) := fun ty dc sc => by
  have h1 := run_copy_rowK (P := Try.prog) W1.drew 44 44 ty 69 3 w.heap.size ((i + 1) * 3) (n - i) dc ⟨g, i * 3, none⟩ (n - i) sc c1.toArray 69 D Try.underlying44 hsz hg1 (by rw [hD]; simp only [Nat.min_def]; split <;> omega) (fun j v hj => by
   rw [Addr.add_lit, blk_cell hgg, ← Array.getElem?_toList, hAD, List.getElem?_append_right (by omega), hA]
   simpa using hj) (by rw [hD, List.size_toArray, k0, Array.length_toList, hc0s]; omega) h1D
  have e9 : (i + 1) * 3 = i * 3 + 3 := by omega
  rw [hc2, h1, e9]
 obtain ⟨W2, hW2⟩ : ∃ W2, W2 = W1.drew.setRow w.heap.size c2.toArray := ⟨_, rfl⟩
 have HFIN : Hid (OwnL 69 3 encLease W2 0 (.slice (some ⟨w.heap.size, 0, none⟩) (n + 1) C) (l.take i ++ x :: l.drop i) ∧ w.grownBy W2 none) := by
  have hlen : (l.take i ++ x :: l.drop i).length = n + 1 := by rw [splice_len l i x hit, ← HN.out]
  rw [hW2]
  refine ⟨⟨?_, .inr ⟨w.heap.size, C, c2.toArray, by rw [hlen], Nat.zero_le _, setRow_heap _ _ _ _ _ _ hg1, by rw [hlen]; exact hCge, hCle, ?_, ?_⟩⟩, ?_⟩
  · rw [flat_length encLease_len]
  · rw [List.size_toArray, k1, Array.length_toList, hc0s]
  · rw [hlen, flat_splice, ← hAe, ← hDe, ← k2]
    congr 1
    omega
  · refine ⟨?_, ?_, ?_, ?_, fun k hk hne => ?_⟩
    · rw [hW1]; exact hWg.os
    · rw [hW1]; exact hWg.tape
    · rw [hW1]; exact hWg.output
    · rw [hW1]; simp [World.setRow, hW0s]
    · rw [setRow_other _ _ k _ (by omega), hW1]
      exact (setRow_other _ _ k _ (by omega)).trans (hWg.block k hk hne)
 rw [← hW1] at hcp1
 rw [← hW2] at hcp2
 have hC1 : ¬ C = i := by omega
 have hC2 : ¬ C = i + 1 := by omega
 have hC3 : i ≤ C := by omega
 clear h hx hg hc6 hc7 hn hA hD hAD hAe hDe h1D k0 k1 k2 hc1 hc2 hsz hg1 hgg hW1 hW2 hW0 hWN hWg hW0s hit hgl hxl hcur0 hc0s hc0t hCe hi0 hz0 hz1 hz2
 unfold maxLen at hCle
 go_enter Try.func89, Try.ntmps89
 go_wp2_with (first | (at_builtin; refine Lib.wpList_append_run _ rfl _ _ _ _ rfl _ _ rfl rfl _ _ (hrz _) ?_) | (at_builtin; refine wpList_copy_runI _ rfl _ _ 44 44 rfl _ _ rfl rfl (hcp1 _ _) ?_))
 go_region_law_o (refine step_copy_runI rfl _ _ 44 44 rfl _ _ (by simp [Act.eval, Act.put]) (by simp [Act.eval, Act.put]) (hcp2 _ _ _) ?_)
 go_wp2
 go_ret
 exact ⟨C, rfl, HFIN.out⟩
/-- slices.Insert of one element. -/
theorem insLease_any (u : SlV) (l : List Md.Lease) (i : Nat) (x : Md.Lease) (xb : Nat) (w : World) (h : OwnL 69 3 encLease w 0 (valS u) l) (hi : i ≤ l.length) (T : TypeId) (hx : w.heap[xb]? = some (.cells (encLease x).toArray T (0, 0))) (hxb : obS u ≠ some xb) (hl : l.length ≤ 1000000) :
 Calls Try.prog 89 #[valS u, I64 i, .slice (some ⟨xb, 0, none⟩) 1 1] w fun e w' => ∃ u', e = .returned (valS u') ∧ OwnL 69 3 encLease w' 0 (valS u') (l.take i ++ x :: l.drop i) ∧ w.grownBy w' (obS u) ∧ (obS u' = obS u ∨ ∀ k, obS u' = some k → w.heap.size ≤ k) := by
 by_cases he : i = l.length
 · subst he
   rw [List.take_length, List.drop_length]
   exact insLease_end u l x xb w h (fun j y hj => by rw [blk_cell hx]; simpa using hj) hl
 · have hlt : i < l.length := by omega
   obtain ⟨g, c, hu⟩ := own_form0 h (by omega)
   subst hu
   have hge : xb ≠ g := fun e => hxb (by rw [e]; rfl)
   have hcap : l.length ≤ c := by
    rcases h.2 with ⟨e, _⟩ | ⟨g', cap', cur, e, _, e3, e4, _⟩
    · cases e
    · unfold valS at e
      injection e with _ _ e3'
      have e9 : c = cap' := e3'
      rw [e9]
      exact e4
   by_cases hc : c = l.length
   · subst hc
     refine (insLease_grow g i l x xb w h hlt T hx hl).mono ?_
     rintro e w' ⟨C, rfl, h1, h2⟩
     refine ⟨(some ⟨w.heap.size, 0, none⟩, l.length + 1, C), rfl, h1, ⟨h2.os, h2.tape, h2.output, h2.size, fun k hk _ => h2.block k hk (by simp)⟩, .inr fun k hk => ?_⟩
     injection hk with hk
     exact Nat.le_of_eq hk
   · refine (insLease_shift g c i l x xb w h hlt (by omega) hge T hx hl).mono ?_
     rintro e w' ⟨rfl, h1, h2⟩
     exact ⟨(some ⟨g, 0, none⟩, l.length + 1, c), rfl, h1, h2, .inl rfl⟩
set_option maxHeartbeats 1000000 in
set_option maxRecDepth 100000 in
theorem insDial_end (u : SlV) (l : List Md.Dial) (x : Md.Dial) (xb : Nat) (w : World) (h : OwnL 66 2 encDial w 0 (valS u) l) (hx : ∀ j y, (encDial x)[j]? = some y → w.cell? ⟨xb, j, none⟩ = some y) (hl : l.length ≤ 1000000) :
 Calls Try.prog 92 #[valS u, I64 l.length, .slice (some ⟨xb, 0, none⟩) 1 1] w fun e w' => ∃ u', e = .returned (valS u') ∧ OwnL 66 2 encDial w' 0 (valS u') (l ++ [x]) ∧ w.grownBy w' (obS u) ∧ (obS u' = obS u ∨ ∀ k, obS u' = some k → w.heap.size ≤ k) := by
 have H := Lib.hid h
 have HX := Lib.hid hx
 have hcap : u = (none, 0, 0) ∧ l.length = 0 ∨ ∃ g cap, u = (some ⟨g, 0, none⟩, l.length, cap) ∧ l.length ≤ cap ∧ cap ≤ maxLen := by
  obtain ⟨a, m, c⟩ := u
  rcases h.2 with ⟨e, h0⟩ | ⟨g, cap, cur, e, _, _, e4, e5, _⟩
  · unfold valS at e
    injection e with e1 e2 e3
    subst e1 e2 e3
    exact .inl ⟨rfl, h0⟩
  · unfold valS at e
    injection e with e1 e2 e3
    subst e1 e2 e3
    exact .inr ⟨g, _, rfl, e4, e5⟩
 clear h hx
 have HP : Hid (∀ g' c' w', OwnL 66 2 encDial w' 0 (.slice (some ⟨g', 0, none⟩) (l.length + 1) c') (l ++ [x]) → w.grownBy w' (valS u).ownBlock → (some g' = (valS u).ownBlock ∨ g' = w.heap.size) → ∃ u', Ending.returned (.slice (some ⟨g', 0, none⟩) (l.length + 1) c') = .returned (valS u') ∧ OwnL 66 2 encDial w' 0 (valS u') (l ++ [x]) ∧ w.grownBy w' (obS u) ∧ (obS u' = obS u ∨ ∀ k, obS u' = some k → w.heap.size ≤ k)) := fun g' c' w' h1 h2 h3 => by
  rw [valS_own] at h2 h3
  refine ⟨(some ⟨g', 0, none⟩, l.length + 1, c'), rfl, h1, h2, ?_⟩
  rcases h3 with h3 | h3
  · exact .inl h3
  · refine .inr fun k hk => ?_
    injection hk with hk
    exact Nat.le_of_eq (h3.symm.trans hk)
 rcases hcap with ⟨rfl, h0⟩ | ⟨g, cap, rfl, hc1, hc2⟩
 · obtain rfl : l = [] := List.eq_nil_of_length_eq_zero h0
   unfold valS at H ⊢
   dsimp only at H ⊢
   go_enter Try.func92, Try.ntmps92
   go_wp2_with (at_builtin; refine appL_own elDial _ rfl _ _ rfl 0 (.slice none 0 0) [] x rfl H.out xb 1 rfl HX.out (by unfold maxLen; simp) (by simp) (Nat.zero_le _) ?_; rintro g' c' w1 hown hgr hat)
   obtain ⟨u', q1, q2⟩ := HP.out g' c' w1 hown hgr hat
   go_ret
   exact ⟨u', q1, q2⟩
 · have HCC : Hid (cap ≤ maxLen) := hc2
   unfold maxLen at hc2
   unfold valS at H ⊢
   dsimp only at H ⊢
   obtain ⟨n, hn⟩ : ∃ n, n = l.length := ⟨_, rfl⟩
   have HN := Lib.hid hn
   rw [← hn] at hc1 hl H ⊢
   by_cases hcn : cap = n
   · subst hcn
     clear hn hc1
     go_enter Try.func92, Try.ntmps92
     go_wp2_with (at_builtin; refine appL_own elDial _ rfl _ _ rfl 0 _ l x rfl H.out xb 1 rfl HX.out (by unfold maxLen; rw [← HN.out]; omega) (by rw [← HN.out]; omega) (Nat.zero_le _) ?_; rintro g' c' w1 hown hgr hat)
     obtain ⟨u', q1, q2⟩ := HP.out g' c' w1 hown (by rw [← HN.out]; exact hgr) (by rw [← HN.out]; exact hat)
     go_ret
     exact ⟨u', q1, q2⟩
   · clear hn
     go_enter Try.func92, Try.ntmps92
     go_wp2_with (at_builtin; refine appL_own elDial _ rfl _ _ rfl 0 _ l x rfl H.out xb 1 rfl HX.out (by unfold maxLen; rw [← HN.out]; omega) (by rw [← HN.out]; omega) (Nat.zero_le _) ?_; rintro g' c' w1 hown hgr hat)
     obtain ⟨u', q1, q2⟩ := HP.out g' c' w1 hown (by rw [← HN.out]; exact hgr) (by rw [← HN.out]; exact hat)
     go_ret
     exact ⟨u', q1, q2⟩
set_option maxHeartbeats 2000000 in
set_option maxRecDepth 100000 in
theorem insDial_shift (g cap i : Nat) (l : List Md.Dial) (x : Md.Dial) (xb : Nat) (w : World) (h : OwnL 66 2 encDial w 0 (.slice (some ⟨g, 0, none⟩) l.length cap) l) (hi : i < l.length) (hcap : l.length < cap) (hxb : xb ≠ g) (T : TypeId) (hx : w.heap[xb]? = some (.cells (encDial x).toArray T (0, 0))) (hl : l.length ≤ 1000000) :
 Calls Try.prog 92 #[.slice (some ⟨g, 0, none⟩) l.length cap, I64 i, .slice (some ⟨xb, 0, none⟩) 1 1] w fun e w' => e = .returned (.slice (some ⟨g, 0, none⟩) (l.length + 1) cap) ∧ OwnL 66 2 encDial w' 0 (.slice (some ⟨g, 0, none⟩) (l.length + 1) cap) (l.take i ++ x :: l.drop i) ∧ w.grownBy w' (some g) := by
 obtain ⟨n, hn⟩ : ∃ n, n = l.length := ⟨_, rfl⟩
 obtain ⟨cur, hg, hc5, hc6, hc7⟩ : ∃ cur : Array Value, w.heap[g]? = some (.cells cur 66 (0, 0)) ∧ cap ≤ maxLen ∧ cur.size = cap * 2 ∧ cur.toList.take (l.length * 2) = l.flatMap encDial := by
  rcases h.2 with ⟨e, _⟩ | ⟨g', cap', cur, e, _, e3, _, e5, e6, e7⟩
  · cases e
  · injection e with e1 e2 e3'
    injection e1 with e1
    injection e1 with e1 _ _
    subst e1 e3'
    exact ⟨cur, e3, e5, e6, e7⟩
 have HC5 : Hid (cap ≤ maxLen) := hc5
 unfold maxLen at hc5
 have hsh1 : w.shape? xb = some (T, 2) := by simp [World.shape?, hx, encDial]
 have hsh2 : w.shape? g = some (66, cap * 2) := by simp [World.shape?, hg, hc6]
 have hov : ∀ off lb cb, (callFunc 102 #[.slice (some ⟨xb, 0, none⟩) 1 1, .slice (some ⟨g, off, none⟩) lb cb]).run Try.prog w = .ok (.value (.bool false)) w := fun off lb cb => by
  rw [run_callFunc_extern Try.func102 (by kernel_rfl) (by kernel_rfl) (by kernel_rfl) (e := Extern.SlicesOverlaps.overlaps #[45, 45] #[4]) (by kernel_rfl),
   Lib.run_overlaps_apart w 45 4 66 Try.underlying45 2 Try.sizeOf66 ⟨xb, 0, none⟩ ⟨g, off, none⟩ 1 1 lb cb hxb T 66 2 (cap * 2) hsh1 hsh2 (by omega) (blk_free hx _) (blk_free hx _)]
  rfl
 rw [← hn] at hi hcap hl ⊢
 have HN := Lib.hid hn
 have hb2 : ¬ cap = i + 1 := by omega
 have hb4 : ¬ cap = i := by omega
 have hw1 : IntKind.i64.wrap ((i : Int) + 1) = (i : Int) + 1 := by rw [IntKind.wrap_i64]; omega
 have htn : ((i : Int) + 1).toNat = i + 1 := by omega
 have hi2 : ¬ ((i : Int) = (n : Int)) := by omega
 have hin : i ≤ n := by omega
 have hinI : (i : Int) ≤ (n : Int) := by omega
 have hb1 : (0 : Int) ≤ (i : Int) + 1 := by omega
 have hb3 : (i : Int) ≤ (n : Int) + 1 := by omega
 have mixed : Try.prog.follows Departure.mixedOrders = true := by kernel_rfl
 have hi3 : ((i : Int) == (n : Int)) = false := by rw [beq_eq_false_iff_ne]; omega
 have hit : i ≤ l.length := by rw [← HN.out]; omega
 have hA : ((l.take i).flatMap encDial).length = i * 2 := by rw [flat_length encDial_len, List.length_take, Nat.min_eq_left hit]
 have hD : ((l.drop i).flatMap encDial).length = (n - i) * 2 := by rw [flat_length encDial_len, List.length_drop, ← HN.out]
 have hAD : cur.toList.take (i * 2 + (n - i) * 2) = (l.take i).flatMap encDial ++ (l.drop i).flatMap encDial := by
  rw [← List.flatMap_append, List.take_append_drop, ← hc7, ← HN.out]
  congr 1
  omega
 obtain ⟨A, hAe⟩ : ∃ A, A = (l.take i).flatMap encDial := ⟨_, rfl⟩
 obtain ⟨D, hDe⟩ : ∃ D, D = (l.drop i).flatMap encDial := ⟨_, rfl⟩
 have h1D : ∀ v ∈ D, v.oneCell' = true := fun v hv => by
  rw [hDe] at hv
  obtain ⟨y, _, hy⟩ := List.mem_flatMap.1 hv
  exact elDial.one y v hy
 rw [← hAe] at hA hAD
 rw [← hDe] at hD hAD
 obtain ⟨k1, k2⟩ := shift_list (cur := cur.toList) (E := encDial x) hA (encDial_len x) hD hAD (by rw [Array.length_toList, hc6]; omega)
 obtain ⟨c1, hc1⟩ : ∃ c1, c1 = cur.toList.take (i * 2 + 2) ++ D ++ cur.toList.drop (i * 2 + 2 + D.length) := ⟨_, rfl⟩
 rw [← hc1] at k1 k2
 obtain ⟨c2, hc2⟩ : ∃ c2, c2 = c1.take (i * 2) ++ encDial x ++ c1.drop (i * 2 + (encDial x).length) := ⟨_, rfl⟩
 rw [← hc2] at k1 k2
 have hsz : (Try.prog.info? 66).map (·.size) = some 2 := by
  obtain ⟨i0, hi0, h0, h1, h2⟩ := info_parts elDial.info
  rw [hi0]; simp [h1]
 have hgd : w.drew.heap[g]? = some (.cells cur 66 (0, 0)) := hg
 have hDc : ∀ j v, D[j]? = some v → w.drew.cell? ((⟨g, i * 2, none⟩ : Addr).add j) = some v := fun j v hj => by
  rw [Addr.add_lit, blk_cell hgd]
  have h2 : (A ++ D)[i * 2 + j]? = some v := by rw [List.getElem?_append_right (by omega), hA]; simpa using hj
  rw [← hAD, List.getElem?_take] at h2
  split at h2
  · rw [← Array.getElem?_toList]; exact h2
  · cases h2
 have hcp1 : ∀ ty dc sc, (Builtin.copy_ #[45, 45] ty #[.slice (some ⟨g, (i + 1) * 2, none⟩) (n - i) dc, .slice (some ⟨g, i * 2, none⟩) (n + 1 - i) sc]).run Try.prog w.drew = .ok (goInt (Nat.min (n + 1 - i) (n - i))) (w.drew.setRow g c1.toArray) := fun ty dc sc => by
  have h1 := run_copy_rowK (P := Try.prog) w.drew 45 45 ty 66 2 g ((i + 1) * 2) (n - i) dc ⟨g, i * 2, none⟩ (n + 1 - i) sc cur 66 D Try.underlying45 hsz hgd (by rw [hD]; simp only [Nat.min_def]; split <;> omega) hDc (by rw [hD, hc6]; omega) h1D
  have e9 : (i + 1) * 2 = i * 2 + 2 := by omega
  rw [hc1, h1, e9]
 have hg1 : (w.drew.setRow g c1.toArray).heap[g]? = some (.cells c1.toArray 66 (0, 0)) := setRow_heap _ g _ _ _ _ hgd
 have hxx : ∀ j v, (encDial x)[j]? = some v → (w.drew.setRow g c1.toArray).cell? ((⟨xb, 0, none⟩ : Addr).add j) = some v := fun j v hj => by
  have hx2 : (w.drew.setRow g c1.toArray).heap[xb]? = some (.cells (encDial x).toArray T (0, 0)) := (setRow_other _ g xb _ hxb).trans hx
  rw [Addr.add_lit, blk_cell hx2]
  simpa using hj
 have hcp2 : ∀ ty dc, (Builtin.copy_ #[45, 45] ty #[.slice (some ⟨g, i * 2, none⟩) (n + 1 - i) dc, .slice (some ⟨xb, 0, none⟩) 1 1]).run Try.prog (w.drew.setRow g c1.toArray) = .ok (goInt (Nat.min 1 (n + 1 - i))) ((w.drew.setRow g c1.toArray).setRow g c2.toArray) := fun ty dc => by
  have h1 := run_copy_rowK (P := Try.prog) (w.drew.setRow g c1.toArray) 45 45 ty 66 2 g (i * 2) (n + 1 - i) dc ⟨xb, 0, none⟩ 1 1 c1.toArray 66 (encDial x) Try.underlying45 hsz hg1 (by rw [encDial_len]; simp only [Nat.min_def]; split <;> omega) hxx (by
   rw [encDial_len, List.size_toArray]
   have h9 : c1.length = cur.toList.length := by
    rw [hc1]
    simp only [List.length_append, List.length_take, List.length_drop, Array.length_toList, hD, hc6]
    omega
   rw [h9, Array.length_toList, hc6]
   omega) (elDial.one x)
  rw [hc2, h1]
 have HFIN : Hid (OwnL 66 2 encDial ((w.drew.setRow g c1.toArray).setRow g c2.toArray) 0 (.slice (some ⟨g, 0, none⟩) (n + 1) cap) (l.take i ++ x :: l.drop i) ∧ w.grownBy ((w.drew.setRow g c1.toArray).setRow g c2.toArray) (some g)) := by
  have hlen : (l.take i ++ x :: l.drop i).length = n + 1 := by rw [splice_len l i x hit, ← HN.out]
  refine ⟨⟨?_, .inr ⟨g, cap, c2.toArray, by rw [hlen], Nat.zero_le _, setRow_heap _ g _ _ _ _ hg1, by rw [hlen]; omega, HC5.out, ?_, ?_⟩⟩, ?_⟩
  · rw [flat_length encDial_len]
  · rw [List.size_toArray, k1, Array.length_toList, hc6]
  · rw [hlen, flat_splice, ← hAe, ← hDe, ← k2]
    congr 1
    omega
  · exact grown_trans3 (grown_trans3 (drew_grown w _) (setRow_grown _ g _)) (setRow_grown _ g _)
 obtain ⟨W1, hW1⟩ : ∃ W1, W1 = w.drew.setRow g c1.toArray := ⟨_, rfl⟩
 rw [← hW1] at hcp1 hcp2 HFIN
 obtain ⟨W2, hW2⟩ : ∃ W2, W2 = W1.setRow g c2.toArray := ⟨_, rfl⟩
 rw [← hW2] at hcp2 HFIN
 clear h hx hg hc6 hc7 hsh1 hsh2 hn hA hD hAD hAe hDe h1D k1 k2 hc1 hc2 hsz hgd hDc hg1 hxx hW1 hW2 hit
 go_enter Try.func92, Try.ntmps92
 go_wp2_with (simp only [hov])
 go_region_law_o (refine step_copy_runI rfl _ _ 45 45 rfl _ _ (by simp [Act.eval, Act.put]) (by simp [Act.eval, Act.put]) (hcp1 _ _ _) ?_)
 go_wp2_with (at_builtin; refine wpList_copy_runI _ rfl _ _ 45 45 rfl _ _ rfl rfl (hcp2 _ _) ?_)
 go_ret
 exact ⟨rfl, HFIN.out⟩
set_option maxHeartbeats 2000000 in
set_option maxRecDepth 100000 in
theorem insDial_grow (g i : Nat) (l : List Md.Dial) (x : Md.Dial) (xb : Nat) (w : World) (h : OwnL 66 2 encDial w 0 (.slice (some ⟨g, 0, none⟩) l.length l.length) l) (hi : i < l.length) (T : TypeId) (hx : w.heap[xb]? = some (.cells (encDial x).toArray T (0, 0))) (hl : l.length ≤ 1000000) :
 Calls Try.prog 92 #[.slice (some ⟨g, 0, none⟩) l.length l.length, I64 i, .slice (some ⟨xb, 0, none⟩) 1 1] w fun e w' => ∃ C, e = .returned (.slice (some ⟨w.heap.size, 0, none⟩) (l.length + 1) C) ∧ OwnL 66 2 encDial w' 0 (.slice (some ⟨w.heap.size, 0, none⟩) (l.length + 1) C) (l.take i ++ x :: l.drop i) ∧ w.grownBy w' none := by
 obtain ⟨n, hn⟩ : ∃ n, n = l.length := ⟨_, rfl⟩
 obtain ⟨cur, hg, hc6, hc7⟩ : ∃ cur : Array Value, w.heap[g]? = some (.cells cur 66 (0, 0)) ∧ cur.size = l.length * 2 ∧ cur.toList.take (l.length * 2) = l.flatMap encDial := by
  rcases h.2 with ⟨e, _⟩ | ⟨g', cap', cur, e, _, e3, _, e5, e6, e7⟩
  · cases e
  · injection e with e1 e2 e3'
    injection e1 with e1
    injection e1 with e1 _ _
    subst e1
    rw [← e3'] at e6
    exact ⟨cur, e3, e6, e7⟩
 have hgl := (Array.getElem?_eq_some_iff.1 hg).1
 have hxl := (Array.getElem?_eq_some_iff.1 hx).1
 rw [← hn] at hi hl hc6 hc7 ⊢
 have HN := Lib.hid hn
 have hb4 : ¬ n = i := by omega
 have hw1 : IntKind.i64.wrap ((i : Int) + 1) = (i : Int) + 1 := by rw [IntKind.wrap_i64]; omega
 have htn : ((i : Int) + 1).toNat = i + 1 := by omega
 have hi2 : ¬ ((i : Int) = (n : Int)) := by omega
 have hin : i ≤ n := by omega
 have hinI : (i : Int) ≤ (n : Int) := by omega
 have hb1 : (0 : Int) ≤ (i : Int) + 1 := by omega
 have hb3 : (i : Int) ≤ (n : Int) + 1 := by omega
 have mixed : Try.prog.follows Departure.mixedOrders = true := by kernel_rfl
 have hi3 : ((i : Int) == (n : Int)) = false := by rw [beq_eq_false_iff_ne]; omega
 have hit : i ≤ l.length := by rw [← HN.out]; omega
 have hA : ((l.take i).flatMap encDial).length = i * 2 := by rw [flat_length encDial_len, List.length_take, Nat.min_eq_left hit]
 have hD : ((l.drop i).flatMap encDial).length = (n - i) * 2 := by rw [flat_length encDial_len, List.length_drop, ← HN.out]
 have hAD : cur.toList = (l.take i).flatMap encDial ++ (l.drop i).flatMap encDial := by
  rw [← List.flatMap_append, List.take_append_drop, ← hc7, List.take_of_length_le (by rw [Array.length_toList, hc6]; exact Nat.le_refl _)]
 obtain ⟨A, hAe⟩ : ∃ A, A = (l.take i).flatMap encDial := ⟨_, rfl⟩
 obtain ⟨D, hDe⟩ : ∃ D, D = (l.drop i).flatMap encDial := ⟨_, rfl⟩
 have h1D : ∀ v ∈ D, v.oneCell' = true := fun v hv => by
  rw [hDe] at hv
  obtain ⟨y, _, hy⟩ := List.mem_flatMap.1 hv
  exact elDial.one y v hy
 rw [← hAe] at hA hAD
 rw [← hDe] at hD hAD
 obtain ⟨i0, hi0, hz0, hz1, hz2⟩ := info_parts elDial.info
 have hsz : (Try.prog.info? 66).map (·.size) = some 2 := by
  rw [hi0]; simp [hz1]
 obtain ⟨C, hCe⟩ : ∃ C, C = grownCap w (n + 1) n 66 := ⟨_, rfl⟩
 have hCge : n + 1 ≤ C := by rw [hCe]; exact grownCap_ge w (n + 1) n _
 have hCle : C ≤ maxLen := by rw [hCe]; exact grownCap_le_maxLen w (n + 1) n _ (by unfold maxLen; omega)
 obtain ⟨cur0, hcur0⟩ : ∃ cur0 : Array Value, cur0 = A.toArray ++ Builtin.zeroCells (Value.cells (.agg #[I64 0, .bool false])) (n + 1 - i) ++ Builtin.zeroCells (Value.cells (.agg #[I64 0, .bool false])) (C - (n + 1)) := ⟨_, rfl⟩
 obtain ⟨W0, hW0⟩ : ∃ W0, W0 = w.drew.alloc (.cells cur0 66) := ⟨_, rfl⟩
 have hc0s : cur0.size = C * 2 := by
  rw [hcur0]
  simp only [Array.size_append, size_zeroCells, List.size_toArray, hA]
  have : (Value.cells (.agg #[I64 0, .bool false])).size = 2 := rfl
  rw [this]
  omega
 have hc0t : cur0.toList.take (i * 2) = A := by
  rw [hcur0]
  simp only [Array.toList_append, List.append_assoc]
  rw [← hA, List.take_left]
 have hrz : ∀ ty, (Builtin.append_ #[45, 3] ty #[.slice (some ⟨g, 0, none⟩) i n, .int .i64 ((n : Int) + 1 - (i : Int))]).run Try.prog w = .ok (.slice (some ⟨w.heap.size, 0, none⟩) (n + 1) C) W0 := fun ty => by
  have hold : (Builtin.firstCells i0.size i (.slice (some ⟨g, 0, none⟩) i n)).run Try.prog w.drew = .ok A.toArray w.drew := run_firstCells_some w.drew i0.size i ⟨g, 0, none⟩ i n A (by rw [hz1, hA]) (fun j v hj => by
   rw [Addr.add_lit, blk_cell (show w.drew.heap[g]? = _ from hg), Nat.zero_add, ← Array.getElem?_toList, hAD, List.getElem?_append_left (List.getElem?_eq_some_iff.1 hj).1]
   exact hj)
  have h1 := run_append_grow_zeros (P := Try.prog) w 45 3 ty 66 i0 (.agg #[I64 0, .bool false]) .i64 Try.underlying45 Try.underlying3 hi0 hz0 (some ⟨g, 0, none⟩) i n (n + 1 - i) A hold (by omega) (by rw [hz1]; decide) (by omega) (by omega) (by rw [hz2]; omega) (by
   rw [hz2]
   exact growslice_fits (by omega) (by omega))
  rw [show ((n + 1 - i : Nat) : Int) = (n : Int) + 1 - (i : Int) by omega, show i + (n + 1 - i) = n + 1 by omega, ← hCe, ← hcur0, ← hW0] at h1
  exact h1
 have hW0s : W0.heap.size = w.heap.size + 1 := by rw [hW0]; simp
 have hWN : W0.heap[w.heap.size]? = some (.cells cur0 66 (0, 0)) := by
  rw [hW0]
  exact blk_new w.drew (.cells cur0 66)
 have hWg : w.grownBy W0 none := by
  have hb := ((Below.refl w.heap.size w).drew).alloc (Nat.le_refl _) (.cells cur0 66)
  rw [← hW0] at hb
  exact ⟨hb.os, hb.tape, hb.output, hb.size, fun k hk _ => hb.block k hk⟩
 obtain ⟨k0, k1, k2⟩ := grow_list (cur := cur0.toList) (E := encDial x) hA (encDial_len x) hD hc0t (by rw [Array.length_toList, hc0s]; omega)
 obtain ⟨c1, hc1⟩ : ∃ c1, c1 = cur0.toList.take (i * 2) ++ encDial x ++ cur0.toList.drop (i * 2 + (encDial x).length) := ⟨_, rfl⟩
 rw [← hc1] at k0 k1 k2
 obtain ⟨c2, hc2⟩ : ∃ c2, c2 = c1.take (i * 2 + 2) ++ D ++ c1.drop (i * 2 + 2 + D.length) := ⟨_, rfl⟩
 rw [← hc2] at k1 k2
 have hcp1 : ∀ ty dc, (Builtin.copy_ #[45, 45] ty #[.slice (some ⟨w.heap.size, i * 2, none⟩) (n + 1 - i) dc, .slice (some ⟨xb, 0, none⟩) 1 1]).run Try.prog W0 = .ok (goInt (Nat.min 1 (n + 1 - i))) (W0.setRow w.heap.size c1.toArray) := fun ty dc => by
  have h1 := run_copy_rowK (P := Try.prog) W0 45 45 ty 66 2 w.heap.size (i * 2) (n + 1 - i) dc ⟨xb, 0, none⟩ 1 1 cur0 66 (encDial x) Try.underlying45 hsz hWN (by rw [encDial_len]; simp only [Nat.min_def]; split <;> omega) (fun j v hj => by
   rw [Addr.add_lit, blk_cell ((hWg.block xb hxl (by simp)).trans hx)]
   simpa using hj) (by rw [encDial_len, hc0s]; omega) (elDial.one x)
  rw [hc1, h1]
 obtain ⟨W1, hW1⟩ : ∃ W1, W1 = W0.setRow w.heap.size c1.toArray := ⟨_, rfl⟩
 have hg1 : W1.drew.heap[w.heap.size]? = some (.cells c1.toArray 66 (0, 0)) := by rw [hW1]; exact setRow_heap _ _ _ _ _ _ hWN
 have hgg : W1.drew.heap[g]? = some (.cells cur 66 (0, 0)) := by
  rw [hW1]
  exact (setRow_other _ _ g _ (by omega)).trans ((hWg.block g hgl (by simp)).trans hg)
 have hcp2 : ∀ ty dc sc, (Builtin.copy_ #[45, 45] ty #[.slice (some ⟨w.heap.size, (i + 1) * 2, none⟩) (n - i) dc, .slice (some ⟨g, i * 2, none⟩) (n - i) sc]).run Try.prog W1.drew = .ok (goInt (Nat.min (n - i) (n - i))) (W1.drew.setRow w.heap.size c2.toArray) := fun ty dc sc => by
  have h1 := run_copy_rowK (P := Try.prog) W1.drew 45 45 ty 66 2 w.heap.size ((i + 1) * 2) (n - i) dc ⟨g, i * 2, none⟩ (n - i) sc c1.toArray 66 D Try.underlying45 hsz hg1 (by rw [hD]; simp only [Nat.min_def]; split <;> omega) (fun j v hj => by
   rw [Addr.add_lit, blk_cell hgg, ← Array.getElem?_toList, hAD, List.getElem?_append_right (by omega), hA]
   simpa using hj) (by rw [hD, List.size_toArray, k0, Array.length_toList, hc0s]; omega) h1D
  have e9 : (i + 1) * 2 = i * 2 + 2 := by omega
  rw [hc2, h1, e9]
 obtain ⟨W2, hW2⟩ : ∃ W2, W2 = W1.drew.setRow w.heap.size c2.toArray := ⟨_, rfl⟩
 have HFIN : Hid (OwnL 66 2 encDial W2 0 (.slice (some ⟨w.heap.size, 0, none⟩) (n + 1) C) (l.take i ++ x :: l.drop i) ∧ w.grownBy W2 none) := by
  have hlen : (l.take i ++ x :: l.drop i).length = n + 1 := by rw [splice_len l i x hit, ← HN.out]
  rw [hW2]
  refine ⟨⟨?_, .inr ⟨w.heap.size, C, c2.toArray, by rw [hlen], Nat.zero_le _, setRow_heap _ _ _ _ _ _ hg1, by rw [hlen]; exact hCge, hCle, ?_, ?_⟩⟩, ?_⟩
  · rw [flat_length encDial_len]
  · rw [List.size_toArray, k1, Array.length_toList, hc0s]
  · rw [hlen, flat_splice, ← hAe, ← hDe, ← k2]
    congr 1
    omega
  · refine ⟨?_, ?_, ?_, ?_, fun k hk hne => ?_⟩
    · rw [hW1]; exact hWg.os
    · rw [hW1]; exact hWg.tape
    · rw [hW1]; exact hWg.output
    · rw [hW1]; simp [World.setRow, hW0s]
    · rw [setRow_other _ _ k _ (by omega), hW1]
      exact (setRow_other _ _ k _ (by omega)).trans (hWg.block k hk hne)
 rw [← hW1] at hcp1
 rw [← hW2] at hcp2
 have hC1 : ¬ C = i := by omega
 have hC2 : ¬ C = i + 1 := by omega
 have hC3 : i ≤ C := by omega
 clear h hx hg hc6 hc7 hn hA hD hAD hAe hDe h1D k0 k1 k2 hc1 hc2 hsz hg1 hgg hW1 hW2 hW0 hWN hWg hW0s hit hgl hxl hcur0 hc0s hc0t hCe hi0 hz0 hz1 hz2
 unfold maxLen at hCle
 go_enter Try.func92, Try.ntmps92
 go_wp2_with (first | (at_builtin; refine Lib.wpList_append_run _ rfl _ _ _ _ rfl _ _ rfl rfl _ _ (hrz _) ?_) | (at_builtin; refine wpList_copy_runI _ rfl _ _ 45 45 rfl _ _ rfl rfl (hcp1 _ _) ?_))
 go_region_law_o (refine step_copy_runI rfl _ _ 45 45 rfl _ _ (by simp [Act.eval, Act.put]) (by simp [Act.eval, Act.put]) (hcp2 _ _ _) ?_)
 go_wp2
 go_ret
 exact ⟨C, rfl, HFIN.out⟩
/-- slices.Insert of one element. -/
theorem insDial_any (u : SlV) (l : List Md.Dial) (i : Nat) (x : Md.Dial) (xb : Nat) (w : World) (h : OwnL 66 2 encDial w 0 (valS u) l) (hi : i ≤ l.length) (T : TypeId) (hx : w.heap[xb]? = some (.cells (encDial x).toArray T (0, 0))) (hxb : obS u ≠ some xb) (hl : l.length ≤ 1000000) :
 Calls Try.prog 92 #[valS u, I64 i, .slice (some ⟨xb, 0, none⟩) 1 1] w fun e w' => ∃ u', e = .returned (valS u') ∧ OwnL 66 2 encDial w' 0 (valS u') (l.take i ++ x :: l.drop i) ∧ w.grownBy w' (obS u) ∧ (obS u' = obS u ∨ ∀ k, obS u' = some k → w.heap.size ≤ k) := by
 by_cases he : i = l.length
 · subst he
   rw [List.take_length, List.drop_length]
   exact insDial_end u l x xb w h (fun j y hj => by rw [blk_cell hx]; simpa using hj) hl
 · have hlt : i < l.length := by omega
   obtain ⟨g, c, hu⟩ := own_form0 h (by omega)
   subst hu
   have hge : xb ≠ g := fun e => hxb (by rw [e]; rfl)
   have hcap : l.length ≤ c := by
    rcases h.2 with ⟨e, _⟩ | ⟨g', cap', cur, e, _, e3, e4, _⟩
    · cases e
    · unfold valS at e
      injection e with _ _ e3'
      have e9 : c = cap' := e3'
      rw [e9]
      exact e4
   by_cases hc : c = l.length
   · subst hc
     refine (insDial_grow g i l x xb w h hlt T hx hl).mono ?_
     rintro e w' ⟨C, rfl, h1, h2⟩
     refine ⟨(some ⟨w.heap.size, 0, none⟩, l.length + 1, C), rfl, h1, ⟨h2.os, h2.tape, h2.output, h2.size, fun k hk _ => h2.block k hk (by simp)⟩, .inr fun k hk => ?_⟩
     injection hk with hk
     exact Nat.le_of_eq hk
   · refine (insDial_shift g c i l x xb w h hlt (by omega) hge T hx hl).mono ?_
     rintro e w' ⟨rfl, h1, h2⟩
     exact ⟨(some ⟨g, 0, none⟩, l.length + 1, c), rfl, h1, h2, .inl rfl⟩
end Go.Proofs.Ytaicmiadgnpimaa
