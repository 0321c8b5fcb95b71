/-
  Walks for layer 26 (model): ask.
-/
import Derived.Test.YtaicmiadgnpimaaMw36
namespace Go.Proofs.Ytaicmiadgnpimaa
open Go.RowKit

theorem own_len {α : Type} {T : TypeId} {n B : Nat} {enc : α → List Value} {w : World} {u : SlV} {l : List α} (h : OwnL T n enc w B (valS u) l) : u.2.1 = l.length := by
 obtain ⟨v, e, h2⟩ := own_slice h
 rw [← h2]
 unfold valS at e
 injection e
theorem read_len {α : Type} {n : Nat} {enc : α → List Value} {w : World} {u : SlV} {l : List α} (h : ReadsL n enc w (valS u) l) : u.2.1 = l.length := by
 obtain ⟨a, cap, e⟩ := h.len
 unfold valS at e
 injection e
set_option maxHeartbeats 4000000 in
set_option maxRecDepth 100000 in
set_option linter.unusedSimpArgs false in
theorem ask_shut (S : Nat → Prop) (R G n cap b : Nat) (c : Md.Call) (s : Md.State) (es : List Md.Effect) (W : Nat → Prop) (ev : SlV) (pvs : List PoolV) (w : World) (h : RunV S R c s es W (some ⟨G, 0, none⟩, n, cap) ev pvs w) (hb : c.backend = (b : Int)) (hn : n = s.pools.length) (hbn : b < s.pools.length) (hs : s.shut = true) :
 Calls Try.prog 45 #[.pointer (some ⟨R, 0, none⟩)] w fun e w' => e = .returned (.agg #[I64 6, I64 0, I64 0]) ∧ RunE S R c (setP s b s.pools[b]) es W G n cap w' ∧ Gb S w w' := by
 have hbp : b < pvs.length := by rw [h.len]; exact hbn
 have h0 := h.begin (.cells #[I64 0, I64 0, I64 0] 31)
 have hr0 := blk_new w (.cells #[I64 0, I64 0, I64 0] 31)
 have HBG : Hid (∀ w', Gb (fun k => S k ∧ k ≠ w.heap.size) (w.alloc (.cells #[I64 0, I64 0, I64 0] 31)) w' → Gb S w w') := fun w' hg => Gb.begin hg
 obtain ⟨r, hr⟩ : ∃ r, r = w.heap.size := ⟨_, rfl⟩
 obtain ⟨w0, hw0⟩ : ∃ w0, w0 = w.alloc (.cells #[I64 0, I64 0, I64 0] 31) := ⟨_, rfl⟩
 rw [← hr] at h0 HBG hr0
 rw [← hw0] at h0 HBG hr0
 have HSR : Hid (S r) := by rw [hr]; exact h.fresh _ (Nat.le_refl _)
 have HP := Lib.hid (pool_any R G n cap b c s ev w0 (runCells_of h0.blk) hb (by omega))
 have HR0 := Lib.hid hr0
 have HE0 : Hid (∀ w1, Below w0.heap.size w0 w1 → RunE (fun k => S k ∧ k ≠ r) R c s es W G n cap w1) := fun w1 hb1 => ⟨_, _, h0.below hb1⟩
 have hlI := own_len (h0.each b hbp hbn).idle
 have hlL := own_len (h0.each b hbp hbn).leases
 have hlD := own_len (h0.each b hbp hbn).dials
 have hlW := read_len (h0.each b hbp hbn).waiters
 have hlim := (h0.each b hbp hbn).lim
 have HC : Hid (∀ w1, Below w0.heap.size w0 w1 → (w1.cell? ⟨R, 0, none⟩ = some (I64 s.now) ∧ w1.cell? ⟨R, 1, none⟩ = some (.bool s.shut) ∧ w1.cell? ⟨R, 5, none⟩ = some (I64 c.call) ∧ w1.cell? ⟨R, 7, none⟩ = some (I64 c.time)) ∧ w1.cell? ⟨G, b * 11 + 4, none⟩ = some (valS pvs[b].vI) ∧ w1.cell? ⟨G, b * 11 + 5, none⟩ = some (valS pvs[b].vL) ∧ w1.cell? ⟨G, b * 11 + 6, none⟩ = some (valS pvs[b].vD) ∧ w1.cell? ⟨G, b * 11 + 7, none⟩ = some (valS pvs[b].vW) ∧ w1.cell? ⟨G, b * 11, none⟩ = some (I64 s.pools[b].lim.max) ∧ w1.cell? ⟨G, b * 11 + 1, none⟩ = some (I64 s.pools[b].lim.queue)) := fun w1 hb1 => by
  have h1 := h0.below hb1
  have q := runCells_of h1.blk
  have hc := h1.cells hbp
  have e0 := hc.c0
  have e1 := hc.c1
  rw [hlim] at e0 e1
  exact ⟨⟨q.c0, q.c1, q.c5, q.c7⟩, hc.c4, hc.c5, hc.c6, hc.c7, e0, e1⟩
 obtain ⟨uI, huI⟩ : ∃ u, u = pvs[b].vI := ⟨_, rfl⟩
 obtain ⟨uL, huL⟩ : ∃ u, u = pvs[b].vL := ⟨_, rfl⟩
 obtain ⟨uD, huD⟩ : ∃ u, u = pvs[b].vD := ⟨_, rfl⟩
 obtain ⟨uW, huW⟩ : ∃ u, u = pvs[b].vW := ⟨_, rfl⟩
 rw [← huI, ← huL, ← huD, ← huW] at HC
 rw [← huI] at hlI
 rw [← huL] at hlL
 rw [← huD] at hlD
 rw [← huW] at hlW
 obtain ⟨iA, iN, iC⟩ := uI
 obtain ⟨lA, lN, lC⟩ := uL
 obtain ⟨dA, dN, dC⟩ := uD
 obtain ⟨wA, wN, wC⟩ := uW
 unfold valS at HC
 dsimp only at HC hlI hlL hlD hlW
 rw [setP_self]
 clear h0 h hb hn hr0 hlim huI huL huD huW
 go_enter Try.func45, Try.ntmps45
 go_wp2_with fail
 simp only [← hw0, ← hr]
 clear hw0 hr
 refine HP.out.mono ?_
 rintro e w1 ⟨rfl, hb1⟩
 obtain ⟨⟨k0, k1, k5, k7⟩, q4, q5, q6, q7, q0, q1⟩ := HC.out w1 hb1
 rw [hs] at k1
 go_wp2_with fail
 obtain ⟨wz, hwz⟩ : ∃ x, x = w1 := ⟨_, rfl⟩
 have hbz : Below w0.heap.size w0 wz := by rw [hwz]; exact hb1
 simp only [← hwz]
 clear hwz
 obtain ⟨hR, hG⟩ : RunE (fun k => S k ∧ k ≠ r) R c s es W G n cap wz ∧ Gb (fun k => S k ∧ k ≠ r) w0 wz := ⟨HE0.out wz hbz, .of_below hbz⟩
 clear HE0 HP HC
 refine (is_any 6 _).mono ?_
 rintro e w3 ⟨rfl, hb3⟩
 obtain ⟨hblk, hfin0⟩ := done_end hR hG HR0.out hb3 HBG.out HSR.out 6
 have HB3 := Lib.hid hblk
 have HF := Lib.hid hfin0
 have y0 := blk_cell hblk 0
 have y1 := blk_cell hblk 1
 have y2 := blk_cell hblk 2
 have v0 := blk_free hblk 0
 have v1 := blk_free hblk 1
 have v2 := blk_free hblk 2
 simp only [List.getElem?_toArray, List.getElem?_cons_succ, List.getElem?_cons_zero] at y0 y1 y2
 clear hblk hfin0 hb3 hR hG
 go_wp2
 have hfin := blk_set (blk_set (blk_set HB3.out 0 (I64 6)) 1 (I64 0)) 2 (I64 0)
 have z0 := blk_cell hfin 0
 have z1 := blk_cell hfin 1
 have z2 := blk_cell hfin 2
 simp only [List.setIfInBounds_toArray, List.set_cons_zero, List.set_cons_succ, List.getElem?_toArray, List.getElem?_cons_succ, List.getElem?_cons_zero] at z0 z1 z2
 clear hfin
 refine bodyPost_ret (v := .agg #[I64 6, I64 0, I64 0]) (by rw [results_cell_oneN rfl]; go_simp) rfl ?_
 exact ⟨rfl, HF.out⟩
set_option maxHeartbeats 4000000 in
set_option maxRecDepth 100000 in
set_option linter.unusedSimpArgs false in
theorem ask_late (S : Nat → Prop) (R G n cap b : Nat) (c : Md.Call) (s : Md.State) (es : List Md.Effect) (W : Nat → Prop) (ev : SlV) (pvs : List PoolV) (w : World) (h : RunV S R c s es W (some ⟨G, 0, none⟩, n, cap) ev pvs w) (hb : c.backend = (b : Int)) (hn : n = s.pools.length) (hbn : b < s.pools.length) (hs : s.shut = false) (ht : c.time ≤ s.now) :
 Calls Try.prog 45 #[.pointer (some ⟨R, 0, none⟩)] w fun e w' => e = .returned (.agg #[I64 5, I64 0, I64 0]) ∧ RunE S R c (setP s b s.pools[b]) es W G n cap w' ∧ Gb S w w' := by
 have hbp : b < pvs.length := by rw [h.len]; exact hbn
 have h0 := h.begin (.cells #[I64 0, I64 0, I64 0] 31)
 have hr0 := blk_new w (.cells #[I64 0, I64 0, I64 0] 31)
 have HBG : Hid (∀ w', Gb (fun k => S k ∧ k ≠ w.heap.size) (w.alloc (.cells #[I64 0, I64 0, I64 0] 31)) w' → Gb S w w') := fun w' hg => Gb.begin hg
 obtain ⟨r, hr⟩ : ∃ r, r = w.heap.size := ⟨_, rfl⟩
 obtain ⟨w0, hw0⟩ : ∃ w0, w0 = w.alloc (.cells #[I64 0, I64 0, I64 0] 31) := ⟨_, rfl⟩
 rw [← hr] at h0 HBG hr0
 rw [← hw0] at h0 HBG hr0
 have HSR : Hid (S r) := by rw [hr]; exact h.fresh _ (Nat.le_refl _)
 have HP := Lib.hid (pool_any R G n cap b c s ev w0 (runCells_of h0.blk) hb (by omega))
 have HR0 := Lib.hid hr0
 have HE0 : Hid (∀ w1, Below w0.heap.size w0 w1 → RunE (fun k => S k ∧ k ≠ r) R c s es W G n cap w1) := fun w1 hb1 => ⟨_, _, h0.below hb1⟩
 have hlI := own_len (h0.each b hbp hbn).idle
 have hlL := own_len (h0.each b hbp hbn).leases
 have hlD := own_len (h0.each b hbp hbn).dials
 have hlW := read_len (h0.each b hbp hbn).waiters
 have hlim := (h0.each b hbp hbn).lim
 have HC : Hid (∀ w1, Below w0.heap.size w0 w1 → (w1.cell? ⟨R, 0, none⟩ = some (I64 s.now) ∧ w1.cell? ⟨R, 1, none⟩ = some (.bool s.shut) ∧ w1.cell? ⟨R, 5, none⟩ = some (I64 c.call) ∧ w1.cell? ⟨R, 7, none⟩ = some (I64 c.time)) ∧ w1.cell? ⟨G, b * 11 + 4, none⟩ = some (valS pvs[b].vI) ∧ w1.cell? ⟨G, b * 11 + 5, none⟩ = some (valS pvs[b].vL) ∧ w1.cell? ⟨G, b * 11 + 6, none⟩ = some (valS pvs[b].vD) ∧ w1.cell? ⟨G, b * 11 + 7, none⟩ = some (valS pvs[b].vW) ∧ w1.cell? ⟨G, b * 11, none⟩ = some (I64 s.pools[b].lim.max) ∧ w1.cell? ⟨G, b * 11 + 1, none⟩ = some (I64 s.pools[b].lim.queue)) := fun w1 hb1 => by
  have h1 := h0.below hb1
  have q := runCells_of h1.blk
  have hc := h1.cells hbp
  have e0 := hc.c0
  have e1 := hc.c1
  rw [hlim] at e0 e1
  exact ⟨⟨q.c0, q.c1, q.c5, q.c7⟩, hc.c4, hc.c5, hc.c6, hc.c7, e0, e1⟩
 obtain ⟨uI, huI⟩ : ∃ u, u = pvs[b].vI := ⟨_, rfl⟩
 obtain ⟨uL, huL⟩ : ∃ u, u = pvs[b].vL := ⟨_, rfl⟩
 obtain ⟨uD, huD⟩ : ∃ u, u = pvs[b].vD := ⟨_, rfl⟩
 obtain ⟨uW, huW⟩ : ∃ u, u = pvs[b].vW := ⟨_, rfl⟩
 rw [← huI, ← huL, ← huD, ← huW] at HC
 rw [← huI] at hlI
 rw [← huL] at hlL
 rw [← huD] at hlD
 rw [← huW] at hlW
 obtain ⟨iA, iN, iC⟩ := uI
 obtain ⟨lA, lN, lC⟩ := uL
 obtain ⟨dA, dN, dC⟩ := uD
 obtain ⟨wA, wN, wC⟩ := uW
 unfold valS at HC
 dsimp only at HC hlI hlL hlD hlW
 rw [setP_self]
 clear h0 h hb hn hr0 hlim huI huL huD huW
 go_enter Try.func45, Try.ntmps45
 go_wp2_with fail
 simp only [← hw0, ← hr]
 clear hw0 hr
 refine HP.out.mono ?_
 rintro e w1 ⟨rfl, hb1⟩
 obtain ⟨⟨k0, k1, k5, k7⟩, q4, q5, q6, q7, q0, q1⟩ := HC.out w1 hb1
 rw [hs] at k1
 go_wp2
 go_quiet (fail)
 obtain ⟨wq2, hwz⟩ : ∃ x, x = w1.drewN nq := ⟨_, rfl⟩
 have hbq2 : Below w0.heap.size w0 wq2 := by rw [hwz]; exact below_drewN hb1 _
 simp only [← hwz]
 clear hwz nq
 obtain ⟨⟨k0, k1, k5, k7⟩, q4, q5, q6, q7, q0, q1⟩ := HC.out wq2 hbq2
 rw [hs] at k1
 go_wp2_with fail
 obtain ⟨wz, hwz⟩ : ∃ x, x = wq2 := ⟨_, rfl⟩
 have hbz : Below w0.heap.size w0 wz := by rw [hwz]; exact hbq2
 simp only [← hwz]
 clear hwz
 obtain ⟨hR, hG⟩ : RunE (fun k => S k ∧ k ≠ r) R c s es W G n cap wz ∧ Gb (fun k => S k ∧ k ≠ r) w0 wz := ⟨HE0.out wz hbz, .of_below hbz⟩
 clear HE0 HP HC
 refine (is_any 5 _).mono ?_
 rintro e w3 ⟨rfl, hb3⟩
 obtain ⟨hblk, hfin0⟩ := done_end hR hG HR0.out hb3 HBG.out HSR.out 5
 have HB3 := Lib.hid hblk
 have HF := Lib.hid hfin0
 have y0 := blk_cell hblk 0
 have y1 := blk_cell hblk 1
 have y2 := blk_cell hblk 2
 have v0 := blk_free hblk 0
 have v1 := blk_free hblk 1
 have v2 := blk_free hblk 2
 simp only [List.getElem?_toArray, List.getElem?_cons_succ, List.getElem?_cons_zero] at y0 y1 y2
 clear hblk hfin0 hb3 hR hG
 go_wp2
 have hfin := blk_set (blk_set (blk_set HB3.out 0 (I64 5)) 1 (I64 0)) 2 (I64 0)
 have z0 := blk_cell hfin 0
 have z1 := blk_cell hfin 1
 have z2 := blk_cell hfin 2
 simp only [List.setIfInBounds_toArray, List.set_cons_zero, List.set_cons_succ, List.getElem?_toArray, List.getElem?_cons_succ, List.getElem?_cons_zero] at z0 z1 z2
 clear hfin
 refine bodyPost_ret (v := .agg #[I64 5, I64 0, I64 0]) (by rw [results_cell_oneN rfl]; go_simp) rfl ?_
 exact ⟨rfl, HF.out⟩
set_option maxHeartbeats 4000000 in
set_option maxRecDepth 100000 in
set_option linter.unusedSimpArgs false in
theorem ask_full (S : Nat → Prop) (R G n cap b : Nat) (c : Md.Call) (s : Md.State) (es : List Md.Effect) (W : Nat → Prop) (ev : SlV) (pvs : List PoolV) (w : World) (h : RunV S R c s es W (some ⟨G, 0, none⟩, n, cap) ev pvs w) (hb : c.backend = (b : Int)) (hn : n = s.pools.length) (hbn : b < s.pools.length) (hf : PoolFit s.pools[b]) (hs : s.shut = false) (ht : ¬ c.time ≤ s.now) (hi : s.pools[b].idle = []) (hu : ¬ (Md.used s.pools[b] : Int) < s.pools[b].lim.max) (hq : ¬ (s.pools[b].waiters.length : Int) < s.pools[b].lim.queue) :
 Calls Try.prog 45 #[.pointer (some ⟨R, 0, none⟩)] w fun e w' => e = .returned (.agg #[I64 4, I64 0, I64 0]) ∧ RunE S R c (setP s b s.pools[b]) es W G n cap w' ∧ Gb S w w' := by
 have hbp : b < pvs.length := by rw [h.len]; exact hbn
 have h0 := h.begin (.cells #[I64 0, I64 0, I64 0] 31)
 have hr0 := blk_new w (.cells #[I64 0, I64 0, I64 0] 31)
 have HBG : Hid (∀ w', Gb (fun k => S k ∧ k ≠ w.heap.size) (w.alloc (.cells #[I64 0, I64 0, I64 0] 31)) w' → Gb S w w') := fun w' hg => Gb.begin hg
 obtain ⟨r, hr⟩ : ∃ r, r = w.heap.size := ⟨_, rfl⟩
 obtain ⟨w0, hw0⟩ : ∃ w0, w0 = w.alloc (.cells #[I64 0, I64 0, I64 0] 31) := ⟨_, rfl⟩
 rw [← hr] at h0 HBG hr0
 rw [← hw0] at h0 HBG hr0
 have HSR : Hid (S r) := by rw [hr]; exact h.fresh _ (Nat.le_refl _)
 have HP := Lib.hid (pool_any R G n cap b c s ev w0 (runCells_of h0.blk) hb (by omega))
 have HR0 := Lib.hid hr0
 have HE0 : Hid (∀ w1, Below w0.heap.size w0 w1 → RunE (fun k => S k ∧ k ≠ r) R c s es W G n cap w1) := fun w1 hb1 => ⟨_, _, h0.below hb1⟩
 have hlI := own_len (h0.each b hbp hbn).idle
 have hlL := own_len (h0.each b hbp hbn).leases
 have hlD := own_len (h0.each b hbp hbn).dials
 have hlW := read_len (h0.each b hbp hbn).waiters
 have hlim := (h0.each b hbp hbn).lim
 have HC : Hid (∀ w1, Below w0.heap.size w0 w1 → (w1.cell? ⟨R, 0, none⟩ = some (I64 s.now) ∧ w1.cell? ⟨R, 1, none⟩ = some (.bool s.shut) ∧ w1.cell? ⟨R, 5, none⟩ = some (I64 c.call) ∧ w1.cell? ⟨R, 7, none⟩ = some (I64 c.time)) ∧ w1.cell? ⟨G, b * 11 + 4, none⟩ = some (valS pvs[b].vI) ∧ w1.cell? ⟨G, b * 11 + 5, none⟩ = some (valS pvs[b].vL) ∧ w1.cell? ⟨G, b * 11 + 6, none⟩ = some (valS pvs[b].vD) ∧ w1.cell? ⟨G, b * 11 + 7, none⟩ = some (valS pvs[b].vW) ∧ w1.cell? ⟨G, b * 11, none⟩ = some (I64 s.pools[b].lim.max) ∧ w1.cell? ⟨G, b * 11 + 1, none⟩ = some (I64 s.pools[b].lim.queue)) := fun w1 hb1 => by
  have h1 := h0.below hb1
  have q := runCells_of h1.blk
  have hc := h1.cells hbp
  have e0 := hc.c0
  have e1 := hc.c1
  rw [hlim] at e0 e1
  exact ⟨⟨q.c0, q.c1, q.c5, q.c7⟩, hc.c4, hc.c5, hc.c6, hc.c7, e0, e1⟩
 obtain ⟨uI, huI⟩ : ∃ u, u = pvs[b].vI := ⟨_, rfl⟩
 obtain ⟨uL, huL⟩ : ∃ u, u = pvs[b].vL := ⟨_, rfl⟩
 obtain ⟨uD, huD⟩ : ∃ u, u = pvs[b].vD := ⟨_, rfl⟩
 obtain ⟨uW, huW⟩ : ∃ u, u = pvs[b].vW := ⟨_, rfl⟩
 rw [← huI, ← huL, ← huD, ← huW] at HC
 rw [← huI] at hlI
 rw [← huL] at hlL
 rw [← huD] at hlD
 rw [← huW] at hlW
 obtain ⟨iA, iN, iC⟩ := uI
 obtain ⟨lA, lN, lC⟩ := uL
 obtain ⟨dA, dN, dC⟩ := uD
 obtain ⟨wA, wN, wC⟩ := uW
 unfold valS at HC
 dsimp only at HC hlI hlL hlD hlW
 have z1 : ¬ (0 : Int) < (iN : Int) := by rw [hlI, hi]; simp
 have z2 : ¬ ((lN : Int) + (dN : Int)) < s.pools[b].lim.max := by rw [hlL, hlD]; unfold Md.used at hu; omega
 have z3 : ¬ (wN : Int) < s.pools[b].lim.queue := by rw [hlW]; exact hq
 have z4 : IntKind.i64.wrap ((lN : Int) + (dN : Int)) = (lN : Int) + (dN : Int) := by have := hf.ll; have := hf.dl; rw [IntKind.wrap_i64]; omega
 generalize s.pools[b].lim.max = mx at HC z2
 generalize s.pools[b].lim.queue = qu at HC z3
 rw [setP_self]
 clear h0 h hb hn hr0 hlim huI huL huD huW hf hlI hlL hlD hlW hi hu hq
 go_enter Try.func45, Try.ntmps45
 go_wp2_with fail
 simp only [← hw0, ← hr]
 clear hw0 hr
 refine HP.out.mono ?_
 rintro e w1 ⟨rfl, hb1⟩
 obtain ⟨⟨k0, k1, k5, k7⟩, q4, q5, q6, q7, q0, q1⟩ := HC.out w1 hb1
 rw [hs] at k1
 go_wp2
 go_quiet (fail)
 obtain ⟨wq2, hwz⟩ : ∃ x, x = w1.drewN nq := ⟨_, rfl⟩
 have hbq2 : Below w0.heap.size w0 wq2 := by rw [hwz]; exact below_drewN hb1 _
 simp only [← hwz]
 clear hwz nq
 obtain ⟨⟨k0, k1, k5, k7⟩, q4, q5, q6, q7, q0, q1⟩ := HC.out wq2 hbq2
 rw [hs] at k1
 go_wp2
 go_quiet (fail)
 obtain ⟨wq3, hwz⟩ : ∃ x, x = wq2.drewN nq := ⟨_, rfl⟩
 have hbq3 : Below w0.heap.size w0 wq3 := by rw [hwz]; exact below_drewN hbq2 _
 simp only [← hwz]
 clear hwz nq
 obtain ⟨⟨k0, k1, k5, k7⟩, q4, q5, q6, q7, q0, q1⟩ := HC.out wq3 hbq3
 rw [hs] at k1
 go_wp2
 go_quiet (fail)
 obtain ⟨wq4, hwz⟩ : ∃ x, x = wq3.drewN nq := ⟨_, rfl⟩
 have hbq4 : Below w0.heap.size w0 wq4 := by rw [hwz]; exact below_drewN hbq3 _
 simp only [← hwz]
 clear hwz nq
 obtain ⟨⟨k0, k1, k5, k7⟩, q4, q5, q6, q7, q0, q1⟩ := HC.out wq4 hbq4
 rw [hs] at k1
 go_wp2_with fail
 obtain ⟨wz, hwz⟩ : ∃ x, x = wq4 := ⟨_, rfl⟩
 have hbz : Below w0.heap.size w0 wz := by rw [hwz]; exact hbq4
 simp only [← hwz]
 clear hwz
 obtain ⟨hR, hG⟩ : RunE (fun k => S k ∧ k ≠ r) R c s es W G n cap wz ∧ Gb (fun k => S k ∧ k ≠ r) w0 wz := ⟨HE0.out wz hbz, .of_below hbz⟩
 clear HE0 HP HC
 refine (is_any 4 _).mono ?_
 rintro e w3 ⟨rfl, hb3⟩
 obtain ⟨hblk, hfin0⟩ := done_end hR hG HR0.out hb3 HBG.out HSR.out 4
 have HB3 := Lib.hid hblk
 have HF := Lib.hid hfin0
 have y0 := blk_cell hblk 0
 have y1 := blk_cell hblk 1
 have y2 := blk_cell hblk 2
 have v0 := blk_free hblk 0
 have v1 := blk_free hblk 1
 have v2 := blk_free hblk 2
 simp only [List.getElem?_toArray, List.getElem?_cons_succ, List.getElem?_cons_zero] at y0 y1 y2
 clear hblk hfin0 hb3 hR hG
 go_wp2
 have hfin := blk_set (blk_set (blk_set HB3.out 0 (I64 4)) 1 (I64 0)) 2 (I64 0)
 have z0 := blk_cell hfin 0
 have z1 := blk_cell hfin 1
 have z2 := blk_cell hfin 2
 simp only [List.setIfInBounds_toArray, List.set_cons_zero, List.set_cons_succ, List.getElem?_toArray, List.getElem?_cons_succ, List.getElem?_cons_zero] at z0 z1 z2
 clear hfin
 refine bodyPost_ret (v := .agg #[I64 4, I64 0, I64 0]) (by rw [results_cell_oneN rfl]; go_simp) rfl ?_
 exact ⟨rfl, HF.out⟩
set_option maxHeartbeats 4000000 in
set_option maxRecDepth 100000 in
set_option linter.unusedSimpArgs false in
theorem ask_dials (S : Nat → Prop) (R G n cap b : Nat) (c : Md.Call) (s : Md.State) (es : List Md.Effect) (W : Nat → Prop) (ev : SlV) (pvs : List PoolV) (w : World) (h : RunV S R c s es W (some ⟨G, 0, none⟩, n, cap) ev pvs w) (hb : c.backend = (b : Int)) (hn : n = s.pools.length) (hbn : b < s.pools.length) (hf : PoolFit s.pools[b]) (hs : s.shut = false) (ht : ¬ c.time ≤ s.now) (hi : s.pools[b].idle = []) (hu : (Md.used s.pools[b] : Int) < s.pools[b].lim.max) :
 Calls Try.prog 45 #[.pointer (some ⟨R, 0, none⟩)] w fun e w' => e = .returned (.agg #[I64 2, I64 0, I64 0]) ∧ RunE S R c (setP s b { s.pools[b] with dials := Md.insDial c.call s.pools[b].dials }) es W G n cap w' ∧ Gb S w w' := by
 have hbp : b < pvs.length := by rw [h.len]; exact hbn
 have h0 := h.begin (.cells #[I64 0, I64 0, I64 0] 31)
 have hr0 := blk_new w (.cells #[I64 0, I64 0, I64 0] 31)
 have HBG : Hid (∀ w', Gb (fun k => S k ∧ k ≠ w.heap.size) (w.alloc (.cells #[I64 0, I64 0, I64 0] 31)) w' → Gb S w w') := fun w' hg => Gb.begin hg
 obtain ⟨r, hr⟩ : ∃ r, r = w.heap.size := ⟨_, rfl⟩
 obtain ⟨w0, hw0⟩ : ∃ w0, w0 = w.alloc (.cells #[I64 0, I64 0, I64 0] 31) := ⟨_, rfl⟩
 rw [← hr] at h0 HBG hr0
 rw [← hw0] at h0 HBG hr0
 have HSR : Hid (S r) := by rw [hr]; exact h.fresh _ (Nat.le_refl _)
 have HP := Lib.hid (pool_any R G n cap b c s ev w0 (runCells_of h0.blk) hb (by omega))
 have HR0 := Lib.hid hr0
 have HE0 : Hid (∀ w1, Below w0.heap.size w0 w1 → RunE (fun k => S k ∧ k ≠ r) R c s es W G n cap w1) := fun w1 hb1 => ⟨_, _, h0.below hb1⟩
 have hlI := own_len (h0.each b hbp hbn).idle
 have hlL := own_len (h0.each b hbp hbn).leases
 have hlD := own_len (h0.each b hbp hbn).dials
 have hlW := read_len (h0.each b hbp hbn).waiters
 have hlim := (h0.each b hbp hbn).lim
 have HC : Hid (∀ w1, Below w0.heap.size w0 w1 → (w1.cell? ⟨R, 0, none⟩ = some (I64 s.now) ∧ w1.cell? ⟨R, 1, none⟩ = some (.bool s.shut) ∧ w1.cell? ⟨R, 5, none⟩ = some (I64 c.call) ∧ w1.cell? ⟨R, 7, none⟩ = some (I64 c.time)) ∧ w1.cell? ⟨G, b * 11 + 4, none⟩ = some (valS pvs[b].vI) ∧ w1.cell? ⟨G, b * 11 + 5, none⟩ = some (valS pvs[b].vL) ∧ w1.cell? ⟨G, b * 11 + 6, none⟩ = some (valS pvs[b].vD) ∧ w1.cell? ⟨G, b * 11 + 7, none⟩ = some (valS pvs[b].vW) ∧ w1.cell? ⟨G, b * 11, none⟩ = some (I64 s.pools[b].lim.max) ∧ w1.cell? ⟨G, b * 11 + 1, none⟩ = some (I64 s.pools[b].lim.queue)) := fun w1 hb1 => by
  have h1 := h0.below hb1
  have q := runCells_of h1.blk
  have hc := h1.cells hbp
  have e0 := hc.c0
  have e1 := hc.c1
  rw [hlim] at e0 e1
  exact ⟨⟨q.c0, q.c1, q.c5, q.c7⟩, hc.c4, hc.c5, hc.c6, hc.c7, e0, e1⟩
 have HDI : Hid (∀ w1, Below w0.heap.size w0 w1 → Calls Try.prog 69 #[.pointer (some ⟨R, 0, none⟩), I64 c.call] w1 fun e w' => e = .returned (.tuple #[]) ∧ RunE (fun k => S k ∧ k ≠ r) R c (setP s b { s.pools[b] with dials := Md.insDial c.call s.pools[b].dials }) es W G n cap w' ∧ Gb (fun k => S k ∧ k ≠ r) w0 w') := fun w1 hb1 => by
  refine (dial_any _ R G n cap b c s es W ev pvs c.call w1 (h0.below hb1) hb hn hbn hf.ds hf.dl).mono ?_
  rintro e w' ⟨rfl, ⟨pvs', h1⟩, hg1⟩
  exact ⟨rfl, ⟨ev, pvs', h1⟩, (Gb.of_below hb1).trans hg1⟩
 obtain ⟨uI, huI⟩ : ∃ u, u = pvs[b].vI := ⟨_, rfl⟩
 obtain ⟨uL, huL⟩ : ∃ u, u = pvs[b].vL := ⟨_, rfl⟩
 obtain ⟨uD, huD⟩ : ∃ u, u = pvs[b].vD := ⟨_, rfl⟩
 obtain ⟨uW, huW⟩ : ∃ u, u = pvs[b].vW := ⟨_, rfl⟩
 rw [← huI, ← huL, ← huD, ← huW] at HC
 rw [← huI] at hlI
 rw [← huL] at hlL
 rw [← huD] at hlD
 rw [← huW] at hlW
 obtain ⟨iA, iN, iC⟩ := uI
 obtain ⟨lA, lN, lC⟩ := uL
 obtain ⟨dA, dN, dC⟩ := uD
 obtain ⟨wA, wN, wC⟩ := uW
 unfold valS at HC
 dsimp only at HC hlI hlL hlD hlW
 have z1 : ¬ (0 : Int) < (iN : Int) := by rw [hlI, hi]; simp
 have z2 : ((lN : Int) + (dN : Int)) < s.pools[b].lim.max := by rw [hlL, hlD]; unfold Md.used at hu; omega
 have z4 : IntKind.i64.wrap ((lN : Int) + (dN : Int)) = (lN : Int) + (dN : Int) := by have := hf.ll; have := hf.dl; rw [IntKind.wrap_i64]; omega
 generalize s.pools[b].lim.max = mx at HC z2
 generalize s.pools[b].lim.queue = qu at HC
 clear h0 h hb hn hr0 hlim huI huL huD huW hf hlI hlL hlD hlW hi hu HE0
 go_enter Try.func45, Try.ntmps45
 go_wp2_with fail
 simp only [← hw0, ← hr]
 clear hw0 hr
 refine HP.out.mono ?_
 rintro e w1 ⟨rfl, hb1⟩
 obtain ⟨⟨k0, k1, k5, k7⟩, q4, q5, q6, q7, q0, q1⟩ := HC.out w1 hb1
 rw [hs] at k1
 go_wp2
 go_quiet (fail)
 obtain ⟨wq2, hwz⟩ : ∃ x, x = w1.drewN nq := ⟨_, rfl⟩
 have hbq2 : Below w0.heap.size w0 wq2 := by rw [hwz]; exact below_drewN hb1 _
 simp only [← hwz]
 clear hwz nq
 obtain ⟨⟨k0, k1, k5, k7⟩, q4, q5, q6, q7, q0, q1⟩ := HC.out wq2 hbq2
 rw [hs] at k1
 go_wp2
 go_quiet (fail)
 obtain ⟨wq3, hwz⟩ : ∃ x, x = wq2.drewN nq := ⟨_, rfl⟩
 have hbq3 : Below w0.heap.size w0 wq3 := by rw [hwz]; exact below_drewN hbq2 _
 simp only [← hwz]
 clear hwz nq
 obtain ⟨⟨k0, k1, k5, k7⟩, q4, q5, q6, q7, q0, q1⟩ := HC.out wq3 hbq3
 rw [hs] at k1
 go_wp2_with fail
 refine (HDI.out wq3 hbq3).mono ?_
 rintro e w5 ⟨rfl, hR, hG⟩
 clear HDI HP HC k0 k1 k5 k7 q4 q5 q6 q7 q0 q1 z1 z2 z4
 go_wp2_with fail
 refine (is_any 2 _).mono ?_
 rintro e w3 ⟨rfl, hb3⟩
 obtain ⟨hblk, hfin0⟩ := done_end hR hG HR0.out hb3 HBG.out HSR.out 2
 have HB3 := Lib.hid hblk
 have HF := Lib.hid hfin0
 have y0 := blk_cell hblk 0
 have y1 := blk_cell hblk 1
 have y2 := blk_cell hblk 2
 have v0 := blk_free hblk 0
 have v1 := blk_free hblk 1
 have v2 := blk_free hblk 2
 simp only [List.getElem?_toArray, List.getElem?_cons_succ, List.getElem?_cons_zero] at y0 y1 y2
 clear hblk hfin0 hb3 hR hG
 go_wp2
 have hfin := blk_set (blk_set (blk_set HB3.out 0 (I64 2)) 1 (I64 0)) 2 (I64 0)
 have z0 := blk_cell hfin 0
 have z1 := blk_cell hfin 1
 have z2 := blk_cell hfin 2
 simp only [List.setIfInBounds_toArray, List.set_cons_zero, List.set_cons_succ, List.getElem?_toArray, List.getElem?_cons_succ, List.getElem?_cons_zero] at z0 z1 z2
 clear hfin
 refine bodyPost_ret (v := .agg #[I64 2, I64 0, I64 0]) (by rw [results_cell_oneN rfl]; go_simp) rfl ?_
 exact ⟨rfl, HF.out⟩
def C10 (R X : Nat) (k u v : Int) (w : World) : Prop := w.cell? ⟨R, 5, none⟩ = some (I64 k) ∧ w.cell? ⟨X, 0, none⟩ = some (I64 u) ∧ w.cell? ⟨X, 1, none⟩ = some (I64 v)
theorem RunE.c5 {S : Nat → Prop} {R : Nat} {c : Md.Call} {s : Md.State} {es : List Md.Effect} {W : Nat → Prop} {G n cap : Nat} {w : World} (h : RunE S R c s es W G n cap w) : w.cell? ⟨R, 5, none⟩ = some (I64 c.call) := by
 obtain ⟨ev, pvs, h⟩ := h
 exact (runCells_of h.blk).c5
theorem RunV.toE {S : Nat → Prop} {R : Nat} {c : Md.Call} {s : Md.State} {es : List Md.Effect} {W : Nat → Prop} {G n cap : Nat} {ev : SlV} {pvs : List PoolV} {w : World} (h : RunV S R c s es W (some ⟨G, 0, none⟩, n, cap) ev pvs w) : RunE S R c s es W G n cap w := ⟨ev, pvs, h⟩
set_option maxHeartbeats 4000000 in
set_option maxRecDepth 100000 in
set_option linter.unusedSimpArgs false in
theorem ask_idle (S : Nat → Prop) (R G n cap b : Nat) (c : Md.Call) (s : Md.State) (es : List Md.Effect) (W : Nat → Prop) (ev : SlV) (pvs : List PoolV) (w : World) (h : RunV S R c s es W (some ⟨G, 0, none⟩, n, cap) ev pvs w) (hb : c.backend = (b : Int)) (hn : n = s.pools.length) (hbn : b < s.pools.length) (hf : PoolFit s.pools[b]) (x : Md.Conn) (hs : s.shut = false) (ht : ¬ c.time ≤ s.now) (hi : s.pools[b].idle.getLast? = some x) :
 Calls Try.prog 45 #[.pointer (some ⟨R, 0, none⟩)] w fun e w' => e = .returned (.agg #[I64 1, I64 0, I64 x.1]) ∧ RunE S R c (setP s b { s.pools[b] with idle := s.pools[b].idle.dropLast, leases := Md.insLease (c.call, x.1, x.2.1) s.pools[b].leases }) es W G n cap w' ∧ Gb S w w' := by
 have hbp : b < pvs.length := by rw [h.len]; exact hbn
 have h0 := h.begin (.cells #[I64 0, I64 0, I64 0] 31)
 have hr0 := blk_new w (.cells #[I64 0, I64 0, I64 0] 31)
 have HBG : Hid (∀ w', Gb (fun k => S k ∧ k ≠ w.heap.size) (w.alloc (.cells #[I64 0, I64 0, I64 0] 31)) w' → Gb S w w') := fun w' hg => Gb.begin hg
 obtain ⟨r, hr⟩ : ∃ r, r = w.heap.size := ⟨_, rfl⟩
 obtain ⟨w0, hw0⟩ : ∃ w0, w0 = w.alloc (.cells #[I64 0, I64 0, I64 0] 31) := ⟨_, rfl⟩
 rw [← hr] at h0 HBG hr0
 rw [← hw0] at h0 HBG hr0
 have HSR : Hid (S r) := by rw [hr]; exact h.fresh _ (Nat.le_refl _)
 have HP := Lib.hid (pool_any R G n cap b c s ev w0 (runCells_of h0.blk) hb (by omega))
 have HR0 := Lib.hid hr0
 have HE0 : Hid (∀ w1, Below w0.heap.size w0 w1 → RunE (fun k => S k ∧ k ≠ r) R c s es W G n cap w1) := fun w1 hb1 => ⟨_, _, h0.below hb1⟩
 have hlI := own_len (h0.each b hbp hbn).idle
 have hlL := own_len (h0.each b hbp hbn).leases
 have hlD := own_len (h0.each b hbp hbn).dials
 have hlW := read_len (h0.each b hbp hbn).waiters
 have hlim := (h0.each b hbp hbn).lim
 have HC : Hid (∀ w1, Below w0.heap.size w0 w1 → (w1.cell? ⟨R, 0, none⟩ = some (I64 s.now) ∧ w1.cell? ⟨R, 1, none⟩ = some (.bool s.shut) ∧ w1.cell? ⟨R, 5, none⟩ = some (I64 c.call) ∧ w1.cell? ⟨R, 7, none⟩ = some (I64 c.time)) ∧ w1.cell? ⟨G, b * 11 + 4, none⟩ = some (valS pvs[b].vI) ∧ w1.cell? ⟨G, b * 11 + 5, none⟩ = some (valS pvs[b].vL) ∧ w1.cell? ⟨G, b * 11 + 6, none⟩ = some (valS pvs[b].vD) ∧ w1.cell? ⟨G, b * 11 + 7, none⟩ = some (valS pvs[b].vW) ∧ w1.cell? ⟨G, b * 11, none⟩ = some (I64 s.pools[b].lim.max) ∧ w1.cell? ⟨G, b * 11 + 1, none⟩ = some (I64 s.pools[b].lim.queue)) := fun w1 hb1 => by
  have h1 := h0.below hb1
  have q := runCells_of h1.blk
  have hc := h1.cells hbp
  have e0 := hc.c0
  have e1 := hc.c1
  rw [hlim] at e0 e1
  exact ⟨⟨q.c0, q.c1, q.c5, q.c7⟩, hc.c4, hc.c5, hc.c6, hc.c7, e0, e1⟩
 obtain ⟨m, hm⟩ : ∃ m, s.pools[b].idle.length = m + 1 := by
  cases hl : s.pools[b].idle with
  | nil => rw [hl] at hi; cases hi
  | cons a t => exact ⟨t.length, rfl⟩
 have hmx : m < s.pools[b].idle.length := by omega
 have hxx : s.pools[b].idle[m] = x := by
  rw [List.getLast?_eq_getElem?, hm, Nat.add_sub_cancel, List.getElem?_eq_getElem hmx] at hi
  injection hi
 obtain ⟨g, ic, hv⟩ := own_form0 (h0.each b hbp hbn).idle (by omega)
 have hicc := own_cap (h0.each b hbp hbn).idle
 have z4 : IntKind.i64.wrap (m : Int) = (m : Int) := by have := hf.il; rw [IntKind.wrap_i64]; omega
 rw [hv] at hicc
 have hic2 : (m : Int) ≤ (ic : Int) := by
  have : s.pools[b].idle.length ≤ ic := hicc
  omega
 have hic : ¬ ic = 0 := by
  have : s.pools[b].idle.length ≤ ic := hicc
  omega
 have HD : Hid (∀ w1, Below w0.heap.size w0 w1 → (w1.cell? ⟨g, m * 3, none⟩ = some (I64 x.1) ∧ w1.cell? ⟨g, m * 3 + 1, none⟩ = some (I64 x.2.1) ∧ w1.cell? ⟨g, m * 3 + 2, none⟩ = some (I64 x.2.2)) ∧ (w1.alloc (.cells #[I64 x.1, I64 x.2.1, I64 x.2.2] 100)).cell? ⟨G, b * 11 + 4, none⟩ = some (.slice (some ⟨g, 0, none⟩) (m + 1) ic) ∧ (w1.alloc (.cells #[I64 x.1, I64 x.2.1, I64 x.2.2] 100)).frozen? ⟨G, b * 11 + 4, none⟩ = false ∧
  RunE (fun i => (S i ∧ i ≠ r) ∧ i ≠ w1.heap.size) R c (setP s b { s.pools[b] with idle := s.pools[b].idle.dropLast }) es W G n cap ((w1.alloc (.cells #[I64 x.1, I64 x.2.1, I64 x.2.2] 100)).setCell ⟨G, b * 11 + 4, none⟩ (.slice (some ⟨g, 0, none⟩) m ic)) ∧ Gb (fun i => S i ∧ i ≠ r) w0 ((w1.alloc (.cells #[I64 x.1, I64 x.2.1, I64 x.2.2] 100)).setCell ⟨G, b * 11 + 4, none⟩ (.slice (some ⟨g, 0, none⟩) m ic)) ∧ ((w1.alloc (.cells #[I64 x.1, I64 x.2.1, I64 x.2.2] 100)).setCell ⟨G, b * 11 + 4, none⟩ (.slice (some ⟨g, 0, none⟩) m ic)).heap[w1.heap.size]? = some (.cells #[I64 x.1, I64 x.2.1, I64 x.2.2] 100 (0, 0))) := fun w1 hb1 => by
  have h1 := h0.below hb1
  have hq1 := (h1.each b hbp hbn).idle
  rw [hv] at hq1
  have hoc : ∀ i u, (encConn x)[i]? = some u → w1.cell? ⟨g, m * 3 + i, none⟩ = some u := fun i u hu => (own_cells encConn_len hq1 hmx (i := i) (u := u) (by rw [hxx]; exact hu)).1
  have h7 := h1.begin (.cells #[I64 x.1, I64 x.2.1, I64 x.2.2] 100)
  have hc7 := h7.cells hbp
  have hq7 := (h7.each b hbp hbn).idle
  have k4 := hc7.c4
  rw [hv] at hq7 k4
  have hSG : (S G ∧ G ≠ r) ∧ G ≠ w1.heap.size := h7.sub G (by simp [owns, obS])
  have ht := own_take encConn_len hq7 m (by omega)
  have hob : obS pvs[b].vI = some g := by rw [hv]; rfl
  have h8 := h7.setI hbp hbn (w1 := w1.alloc (.cells #[I64 x.1, I64 x.2.1, I64 x.2.2] 100)) ⟨rfl, rfl, rfl, Nat.le_refl _, fun _ _ _ => rfl⟩ (u := (some ⟨g, 0, none⟩, m, ic)) ht (.inl hob.symm)
  have hdl : s.pools[b].idle.take m = s.pools[b].idle.dropLast := by rw [List.dropLast_eq_take, hm, Nat.add_sub_cancel]
  rw [hdl] at h8
  have hk4 : (w1.alloc (.cells #[I64 x.1, I64 x.2.1, I64 x.2.2] 100)).cell? ⟨G, b * 11 + 4, none⟩ = some (.slice (some ⟨g, 0, none⟩) (m + 1) ic) := by rw [← hm]; exact k4
  have hnb := blk_new w1 (.cells #[I64 x.1, I64 x.2.1, I64 x.2.2] 100)
  have hsame : ((w1.alloc (.cells #[I64 x.1, I64 x.2.1, I64 x.2.2] 100)).setCell ⟨G, b * 11 + 4, none⟩ (.slice (some ⟨g, 0, none⟩) m ic)).heap[w1.heap.size]? = (w1.alloc (.cells #[I64 x.1, I64 x.2.1, I64 x.2.2] 100)).heap[w1.heap.size]? := (setCell_grown (w1.alloc (.cells #[I64 x.1, I64 x.2.1, I64 x.2.2] 100)) ⟨G, b * 11 + 4, none⟩ _).block _ (by simp) (fun e => hSG.2 (by injection e with e; exact e.symm))
  exact ⟨⟨hoc 0 _ rfl, hoc 1 _ rfl, hoc 2 _ rfl⟩, hk4, hc7.fr 4, ⟨_, _, h8⟩, ((Gb.of_below (S := fun i => S i ∧ i ≠ r) hb1).alloc (.cells #[I64 x.1, I64 x.2.1, I64 x.2.2] 100)).setCell hSG.1 _, hsame.trans hnb⟩
 have HL : Hid (∀ X w1, X < w1.heap.size → RunE (fun i => (S i ∧ i ≠ r) ∧ i ≠ X) R c (setP s b { s.pools[b] with idle := s.pools[b].idle.dropLast }) es W G n cap w1 → Calls Try.prog 68 #[.pointer (some ⟨R, 0, none⟩), .agg #[I64 c.call, I64 x.1, I64 x.2.1]] w1 fun e w' => e = .returned (.tuple #[]) ∧ (∃ ep : SlV × List PoolV, RunV (fun i => (S i ∧ i ≠ r) ∧ i ≠ X) R c (setP s b { s.pools[b] with idle := s.pools[b].idle.dropLast, leases := Md.insLease (c.call, x.1, x.2.1) s.pools[b].leases }) es W (some ⟨G, 0, none⟩, n, cap) ep.1 ep.2 w') ∧ Gb (fun i => (S i ∧ i ≠ r) ∧ i ≠ X) w1 w') := by
  rintro X w1 hX ⟨ev1, pvs1, h1⟩
  have hbn1 : b < (setP s b { s.pools[b] with idle := s.pools[b].idle.dropLast }).pools.length := by rw [setP_len]; exact hbn
  have q := lease_any _ R G n cap b c _ es W ev1 pvs1 (c.call, x.1, x.2.1) w1 h1 hb (by rw [setP_len]; exact hn) hbn1 (by rw [setP_get]; exact hf.ls) (by rw [setP_get]; exact hf.ll)
  rw [setP_get, setP_set] at q
  refine q.mono ?_
  rintro e w' ⟨q1, ⟨pvs', q2⟩, q3⟩
  exact ⟨q1, ⟨(ev1, pvs'), q2⟩, q3⟩
 obtain ⟨uI, huI⟩ : ∃ u, u = pvs[b].vI := ⟨_, rfl⟩
 obtain ⟨uL, huL⟩ : ∃ u, u = pvs[b].vL := ⟨_, rfl⟩
 obtain ⟨uD, huD⟩ : ∃ u, u = pvs[b].vD := ⟨_, rfl⟩
 obtain ⟨uW, huW⟩ : ∃ u, u = pvs[b].vW := ⟨_, rfl⟩
 rw [← huI, ← huL, ← huD, ← huW] at HC
 rw [← huI] at hlI
 rw [← huL] at hlL
 rw [← huD] at hlD
 rw [← huW] at hlW
 obtain ⟨iA, iN, iC⟩ := uI
 obtain ⟨lA, lN, lC⟩ := uL
 obtain ⟨dA, dN, dC⟩ := uD
 obtain ⟨wA, wN, wC⟩ := uW
 unfold valS at HC
 dsimp only at HC hlI hlL hlD hlW
 have hN : iN = m + 1 := hlI.trans hm
 have hlast : (iA, iN, iC) = (some (⟨g, 0, none⟩ : Addr), s.pools[b].idle.length, ic) := huI.trans hv
 obtain ⟨rfl, -, rfl⟩ : iA = some ⟨g, 0, none⟩ ∧ iN = _ ∧ iC = ic := by simpa using hlast
 subst hN
 generalize s.pools[b].lim.max = mx at HC
 generalize s.pools[b].lim.queue = qu at HC
 generalize setP s b { s.pools[b] with idle := s.pools[b].idle.dropLast, leases := Md.insLease (c.call, x.1, x.2.1) s.pools[b].leases } = sF at HL ⊢
 generalize setP s b { s.pools[b] with idle := s.pools[b].idle.dropLast } = sI at HL HD
 obtain ⟨xa, xb, xd⟩ := x
 dsimp only at HD HL
 have z1 : (0 : Int) < (m : Int) + 1 := by omega
 clear h0 h hb hn hr0 hlim huI huL huD huW hf hlI hlL hlD hlW hi HE0 hm hmx hxx hv hicc hlast
 go_enter Try.func45, Try.ntmps45
 go_wp2_with fail
 simp only [← hw0, ← hr]
 clear hw0 hr
 refine HP.out.mono ?_
 rintro e w1 ⟨rfl, hb1⟩
 obtain ⟨⟨k0, k1, k5, k7⟩, q4, q5, q6, q7, q0, q1⟩ := HC.out w1 hb1
 rw [hs] at k1
 go_wp2
 go_quiet (fail)
 obtain ⟨wq2, hwz⟩ : ∃ x, x = w1.drewN nq := ⟨_, rfl⟩
 have hbq2 : Below w0.heap.size w0 wq2 := by rw [hwz]; exact below_drewN hb1 _
 simp only [← hwz]
 clear hwz nq
 obtain ⟨⟨k0, k1, k5, k7⟩, q4, q5, q6, q7, q0, q1⟩ := HC.out wq2 hbq2
 rw [hs] at k1
 obtain ⟨⟨l0, l1, l2⟩, k4b, f4b, hR8, hG8, hb8⟩ := HD.out wq2 hbq2
 have HR8 := Lib.hid hR8
 have HG8 := Lib.hid hG8
 have HB8 := Lib.hid hb8
 clear hR8 hG8 hb8 HD HP HC
 go_wp2
 have hR8 := HR8.out
 have hG8 := HG8.out
 have hb8 := HB8.out
 obtain ⟨X, hX⟩ : ∃ X, X = wq2.heap.size := ⟨_, rfl⟩
 rw [← hX] at hR8 hb8
 simp only [← hX]
 obtain ⟨w4, hw4⟩ : ∃ y, y = (wq2.alloc (.cells #[I64 xa, I64 xb, I64 xd] 100)).setCell ⟨G, b * 11 + 4, none⟩ (.slice (some ⟨g, 0, none⟩) m iC) := ⟨_, rfl⟩
 rw [← hw4] at hR8 hb8 hG8
 simp only [← hw4]
 clear hw4 hX HR8 HG8 HB8
 have hR9 := hR8.below (Below.refl _ _).drew
 have hG9 := hG8.trans (.of_below (S := fun i => S i ∧ i ≠ r) (Below.refl w4.heap.size w4).drew)
 obtain ⟨wx, hwx⟩ : ∃ x, x = w4.drew := ⟨_, rfl⟩
 rw [← hwx] at hR9 hG9
 have hb9 : wx.heap[X]? = some (.cells #[I64 xa, I64 xb, I64 xd] 100 (0, 0)) := by rw [hwx]; exact hb8
 have HB8 := Lib.hid hb9
 have H10 : Hid (C10 R X c.call xa xb wx) := Lib.hid ⟨hR9.c5, blk_cell hb9 0, blk_cell hb9 1⟩
 have HLS := Lib.hid (HL.out X wx (Array.getElem?_eq_some_iff.1 hb9).1 hR9)
 have HG9 := Lib.hid hG9
 clear hR8 hR9 hG8 hG9 hb8 hb9 HL
 refine wp_region_held_drew (S := C10 R X c.call xa xb) (by kernel_rfl) (by rw [← hwx]; exact H10.out) (fun hHeld => ?_)
 rw [← hwx] at hHeld ⊢
 clear hwx
 refine tk 0 (v := ?vv0_1) (dropAt rfl) (Or.inl ⟨by rfl, ?hv0_1⟩) hHeld ?rv0_1
 case hv0_1 => (intro w hSw; unfold C10 at hSw; obtain ⟨hS1, hS2, hS3⟩ := hSw; go_simp; first | done | with_reducible rfl)
 try simp only [Act.put, pu2, pu3, pu4]
 refine tk 1 (v := ?vv1_2) (dropAt rfl) (Or.inl ⟨by rfl, ?hv1_2⟩) hHeld ?rv1_2
 case hv1_2 => (intro w hSw; unfold C10 at hSw; obtain ⟨hS1, hS2, hS3⟩ := hSw; go_simp; first | done | with_reducible rfl)
 try simp only [Act.put, pu2, pu3, pu4]
 refine tk 2 (v := ?vv2_3) (dropAt rfl) (Or.inl ⟨by rfl, ?hv2_3⟩) hHeld ?rv2_3
 case hv2_3 => (intro w hSw; unfold C10 at hSw; obtain ⟨hS1, hS2, hS3⟩ := hSw; go_simp; first | done | with_reducible rfl)
 try simp only [Act.put, pu2, pu3, pu4]
 refine tk 3 (v := ?vv3_4) (dropAt rfl) (Or.inl ⟨by rfl, ?hv3_4⟩) hHeld ?rv3_4
 case hv3_4 => (intro w hSw; unfold C10 at hSw; obtain ⟨hS1, hS2, hS3⟩ := hSw; go_simp; first | done | with_reducible rfl)
 try simp only [Act.put, pu2, pu3, pu4]
 refine tk 4 (v := ?vv4_5) (dropAt rfl) (Or.inl ⟨by rfl, ?hv4_5⟩) hHeld ?rv4_5
 case hv4_5 => (intro w hSw; unfold C10 at hSw; obtain ⟨hS1, hS2, hS3⟩ := hSw; go_simp; first | done | with_reducible rfl)
 try simp only [Act.put, pu2, pu3, pu4]
 refine tk 5 (v := ?vv5_6) (dropAt rfl) (Or.inl ⟨by rfl, ?hv5_6⟩) hHeld ?rv5_6
 case hv5_6 => (intro w hSw; unfold C10 at hSw; obtain ⟨hS1, hS2, hS3⟩ := hSw; go_simp; first | done | with_reducible rfl)
 try simp only [Act.put, pu2, pu3, pu4]
 refine tk 6 (v := ?vv6_7) (dropAt rfl) (Or.inl ⟨by rfl, ?hv6_7⟩) hHeld ?rv6_7
 case hv6_7 => (intro w hSw; unfold C10 at hSw; obtain ⟨hS1, hS2, hS3⟩ := hSw; go_simp; first | done | with_reducible rfl)
 try simp only [Act.put, pu2, pu3, pu4]
 refine tk 7 (v := ?vv7_8) (dropAt rfl) (Or.inl ⟨by rfl, ?hv7_8⟩) hHeld ?rv7_8
 case hv7_8 => (intro w hSw; unfold C10 at hSw; obtain ⟨hS1, hS2, hS3⟩ := hSw; go_simp; first | done | with_reducible rfl)
 try simp only [Act.put, pu2, pu3, pu4]
 refine tk 8 (v := ?vv8_9) (dropAt rfl) (Or.inl ⟨by rfl, ?hv8_9⟩) hHeld ?rv8_9
 case hv8_9 => (intro w hSw; unfold C10 at hSw; obtain ⟨hS1, hS2, hS3⟩ := hSw; go_simp; first | done | with_reducible rfl)
 try simp only [Act.put, pu2, pu3, pu4]
 refine tk 9 (v := ?vv9_10) (dropAt rfl) (Or.inl ⟨by rfl, ?hv9_10⟩) hHeld ?rv9_10
 case hv9_10 => (intro w hSw; unfold C10 at hSw; obtain ⟨hS1, hS2, hS3⟩ := hSw; go_simp; first | done | with_reducible rfl)
 try simp only [Act.put, pu2, pu3, pu4]
 refine tk 10 (v := ?vv10_11) (dropAt rfl) (Or.inl ⟨by rfl, ?hv10_11⟩) hHeld ?rv10_11
 case hv10_11 => (intro w hSw; unfold C10 at hSw; obtain ⟨hS1, hS2, hS3⟩ := hSw; go_simp; first | done | with_reducible rfl)
 try simp only [Act.put, pu2, pu3, pu4]
 refine wpAnyH_ready (rs := [11]) (by kernel_rfl) (by simp) ?_
 refine AllReadyH.cons (o := _) (dropAt (r := _) rfl) (fun K hK => ?_) AllReadyH.nil
 go_simp
 refine HLS.out.mono ?_
 rintro e w6 ⟨rfl, ⟨⟨ev6, pvs6⟩, hv6⟩, hG6⟩
 have hb8 := hG6.kept_blk HB8.out
 have hR := RunV.toE hv6
 have hH3 : C10 R X c.call xa xb w6 := ⟨hR.c5, blk_cell hb8 0, blk_cell hb8 1⟩
 refine hK.out _ _ hH3 (fun hHeld4 => ?_)
 clear hK K
 try simp only [Act.put, pu2, pu3, pu4]
 refine wpAnyH_done (by kernel_rfl) ?_ _
 have hG : Gb (fun i => S i ∧ i ≠ r) w0 w6 := HG9.out.trans (hG6.mono (fun _ _ x => x.1))
 clear HG9 HLS HB8 H10 hG6 hHeld hH3 hHeld4 hv6
 have hblk := hG.kept_blk HR0.out
 have HB3 := Lib.hid hblk
 have y0 := blk_cell hblk 0
 have y1 := blk_cell hblk 1
 have y2 := blk_cell hblk 2
 have v0 := blk_free hblk 0
 have v1 := blk_free hblk 1
 have v2 := blk_free hblk 2
 have x0 := blk_cell hb8 0
 have x1 := blk_cell hb8 1
 have x2 := blk_cell hb8 2
 simp only [List.getElem?_toArray, List.getElem?_cons_succ, List.getElem?_cons_zero] at y0 y1 y2 x0 x1 x2
 have HF := Lib.hid ((hR.widen (fun _ x => x.1)).finish hG HBG.out HSR.out 1 0 xa)
 clear hblk hR hG hb8
 go_wp2
 have hfin := blk_set (blk_set (blk_set HB3.out 0 (I64 1)) 1 (I64 0)) 2 (I64 xa)
 have z0 := blk_cell hfin 0
 have z1 := blk_cell hfin 1
 have z2 := blk_cell hfin 2
 simp only [List.setIfInBounds_toArray, List.set_cons_zero, List.set_cons_succ, List.getElem?_toArray, List.getElem?_cons_succ, List.getElem?_cons_zero] at z0 z1 z2
 clear hfin
 refine bodyPost_ret (v := .agg #[I64 1, I64 0, I64 xa]) (by rw [results_cell_oneN rfl]; go_simp) rfl ?_
 exact ⟨rfl, HF.out⟩
end Go.Proofs.Ytaicmiadgnpimaa
