/-
  Walks for layer 26 (model): ask, whole.
-/
import Derived.Test.YtaicmiadgnpimaaMw37
namespace Go.Proofs.Ytaicmiadgnpimaa
open Go.RowKit

def C57 (R : Nat) (u v : Int) (w : World) : Prop := w.cell? ⟨R, 5, none⟩ = some (I64 u) ∧ w.cell? ⟨R, 7, none⟩ = some (I64 v)
set_option maxHeartbeats 4000000 in
set_option maxRecDepth 100000 in
set_option linter.unusedSimpArgs false in
theorem ask_waits (S : Nat → Prop) (R G n cap b : Nat) (c : Md.Call) (s : Md.State) (es : List Md.Effect) (W : Nat → Prop) (ev : SlV) (pvs : List PoolV) (w : World) (h : RunV S R c s es W (some ⟨G, 0, none⟩, n, cap) ev pvs w) (hb : c.backend = (b : Int)) (hn : n = s.pools.length) (hbn : b < s.pools.length) (hf : PoolFit s.pools[b]) (hW : W b) (hs : s.shut = false) (ht : ¬ c.time ≤ s.now) (hi : s.pools[b].idle = []) (hu : ¬ (Md.used s.pools[b] : Int) < s.pools[b].lim.max) (hq : (s.pools[b].waiters.length : Int) < s.pools[b].lim.queue) :
 Calls Try.prog 45 #[.pointer (some ⟨R, 0, none⟩)] w fun e w' => e = .returned (.agg #[I64 3, I64 0, I64 0]) ∧ RunE S R c (setP s b { s.pools[b] with waiters := s.pools[b].waiters ++ [(c.call, c.time)] }) es W G n cap w' ∧ Gb S w w' := by
 have hbp : b < pvs.length := by rw [h.len]; exact hbn
 have h0 := h.begin (.cells #[I64 0, I64 0, I64 0] 31)
 have hr0 := blk_new w (.cells #[I64 0, I64 0, I64 0] 31)
 have HBG : Hid (∀ w', Gb (fun k => S k ∧ k ≠ w.heap.size) (w.alloc (.cells #[I64 0, I64 0, I64 0] 31)) w' → Gb S w w') := fun w' hg => Gb.begin hg
 obtain ⟨r, hr⟩ : ∃ r, r = w.heap.size := ⟨_, rfl⟩
 obtain ⟨w0, hw0⟩ : ∃ w0, w0 = w.alloc (.cells #[I64 0, I64 0, I64 0] 31) := ⟨_, rfl⟩
 rw [← hr] at h0 HBG hr0
 rw [← hw0] at h0 HBG hr0
 have HSR : Hid (S r) := by rw [hr]; exact h.fresh _ (Nat.le_refl _)
 have HP := Lib.hid (pool_any R G n cap b c s ev w0 (runCells_of h0.blk) hb (by omega))
 have HR0 := Lib.hid hr0
 have HE0 : Hid (∀ w1, Below w0.heap.size w0 w1 → RunE (fun k => S k ∧ k ≠ r) R c s es W G n cap w1) := fun w1 hb1 => ⟨_, _, h0.below hb1⟩
 have hlI := own_len (h0.each b hbp hbn).idle
 have hlL := own_len (h0.each b hbp hbn).leases
 have hlD := own_len (h0.each b hbp hbn).dials
 have hlW := read_len (h0.each b hbp hbn).waiters
 have hlim := (h0.each b hbp hbn).lim
 have HC : Hid (∀ w1, Below w0.heap.size w0 w1 → (w1.cell? ⟨R, 0, none⟩ = some (I64 s.now) ∧ w1.cell? ⟨R, 1, none⟩ = some (.bool s.shut) ∧ w1.cell? ⟨R, 5, none⟩ = some (I64 c.call) ∧ w1.cell? ⟨R, 7, none⟩ = some (I64 c.time)) ∧ w1.cell? ⟨G, b * 11 + 4, none⟩ = some (valS pvs[b].vI) ∧ w1.cell? ⟨G, b * 11 + 5, none⟩ = some (valS pvs[b].vL) ∧ w1.cell? ⟨G, b * 11 + 6, none⟩ = some (valS pvs[b].vD) ∧ w1.cell? ⟨G, b * 11 + 7, none⟩ = some (valS pvs[b].vW) ∧ w1.cell? ⟨G, b * 11, none⟩ = some (I64 s.pools[b].lim.max) ∧ w1.cell? ⟨G, b * 11 + 1, none⟩ = some (I64 s.pools[b].lim.queue)) := fun w1 hb1 => by
  have h1 := h0.below hb1
  have q := runCells_of h1.blk
  have hc := h1.cells hbp
  have e0 := hc.c0
  have e1 := hc.c1
  rw [hlim] at e0 e1
  exact ⟨⟨q.c0, q.c1, q.c5, q.c7⟩, hc.c4, hc.c5, hc.c6, hc.c7, e0, e1⟩
 have HA : Hid (∀ w1, Below w0.heap.size w0 w1 → ∃ u' w3, (Builtin.append_ #[46, 46] 46 #[valS pvs[b].vW, .slice (some ⟨w1.heap.size, 0, none⟩) 1 1]).run Try.prog (w1.alloc (.cells #[I64 c.call, I64 c.time] 58)) = .ok (valS u') w3 ∧ C57 R c.call c.time w3 ∧ w3.cell? ⟨G, b * 11 + 7, none⟩ = some (valS pvs[b].vW) ∧ w3.frozen? ⟨G, b * 11 + 7, none⟩ = false ∧ C57 R c.call c.time (w3.setCell ⟨G, b * 11 + 7, none⟩ (valS u')) ∧
  RunE (fun k => S k ∧ k ≠ r) R c (setP s b { s.pools[b] with waiters := s.pools[b].waiters ++ [(c.call, c.time)] }) es W G n cap (w3.setCell ⟨G, b * 11 + 7, none⟩ (valS u')) ∧ Gb (fun k => S k ∧ k ≠ r) w0 (w3.setCell ⟨G, b * 11 + 7, none⟩ (valS u'))) := fun w1 hb1 => by
  have hal := (Below.refl w1.heap.size w1).alloc (Nat.le_refl _) (.cells #[I64 c.call, I64 c.time] 58)
  have h1 := (h0.below hb1).below hal
  have hq1 := (h1.each b hbp hbn).wown hW
  obtain ⟨g', c', w3, hrr, ho, hg, hat⟩ := run_appL (P := Try.prog) elWaiter (w1.alloc (.cells #[I64 c.call, I64 c.time] 58)) 0 (valS pvs[b].vW) s.pools[b].waiters (c.call, c.time) hq1 w1.heap.size 1 (cells_new (enc := encWaiter) w1 (c.call, c.time) #[I64 c.call, I64 c.time] 58 rfl) (by have := hf.wl; unfold maxLen; omega) (by have := hf.wl; omega) (Nat.zero_le _) 46
  rw [valS_own] at hg hat
  have hmem : ∀ k, obS pvs[b].vW = some k → some k ∈ ob4 pvs[b] := fun k hk => by rw [← hk]; simp [ob4]
  have hGne : some G ≠ obS pvs[b].vW := fun e => (h0.sep.row (k := G) rfl).2.2 b hbp (hmem G e.symm)
  have hR2 := h1.setW hbp hbn hg (u := (some ⟨g', 0, none⟩, s.pools[b].waiters.length + 1, c')) ho (by
   rcases hat with e | e
   · exact .inl e
   · refine .inr fun k' hk => ?_
     injection hk with hk
     exact Nat.le_of_eq (e.symm.trans hk))
  have hRne : some R ≠ obS pvs[b].vW := fun e => (h0.sep.ne hbp (hmem R e.symm)).1 rfl
  have hpc := (h1.cells hbp).kept hg hGne
  have gx : Gb (fun k => S k ∧ k ≠ r) w0 (w1.alloc (.cells #[I64 c.call, I64 c.time] 58)) := (Gb.of_below (S := fun k => S k ∧ k ≠ r) hb1).trans (.of_below hal)
  have q1 := runCells_of (h1.blk_kept hg hRne)
  have q2 := runCells_of hR2.blk
  exact ⟨(some ⟨g', 0, none⟩, s.pools[b].waiters.length + 1, c'), w3, hrr, ⟨q1.c5, q1.c7⟩, hpc.c7, hpc.fr 7, ⟨q2.c5, q2.c7⟩, ⟨_, _, hR2⟩, (gx.trans (.of_grown hg fun k hk => h0.subP hbp (hmem k hk))).setCell (h0.sub G (by simp [owns, obS])) _⟩
 obtain ⟨uI, huI⟩ : ∃ u, u = pvs[b].vI := ⟨_, rfl⟩
 obtain ⟨uL, huL⟩ : ∃ u, u = pvs[b].vL := ⟨_, rfl⟩
 obtain ⟨uD, huD⟩ : ∃ u, u = pvs[b].vD := ⟨_, rfl⟩
 obtain ⟨uW, huW⟩ : ∃ u, u = pvs[b].vW := ⟨_, rfl⟩
 rw [← huI, ← huL, ← huD, ← huW] at HC
 rw [← huI] at hlI
 rw [← huL] at hlL
 rw [← huD] at hlD
 rw [← huW] at hlW
 obtain ⟨iA, iN, iC⟩ := uI
 obtain ⟨lA, lN, lC⟩ := uL
 obtain ⟨dA, dN, dC⟩ := uD
 obtain ⟨wA, wN, wC⟩ := uW
 unfold valS at HC
 dsimp only at HC hlI hlL hlD hlW
 rw [← huW] at HA
 unfold valS at HA
 dsimp only at HA
 have z1 : ¬ (0 : Int) < (iN : Int) := by rw [hlI, hi]; simp
 have z2 : ¬ ((lN : Int) + (dN : Int)) < s.pools[b].lim.max := by rw [hlL, hlD]; unfold Md.used at hu; omega
 have z3 : (wN : Int) < s.pools[b].lim.queue := by rw [hlW]; exact hq
 have z4 : IntKind.i64.wrap ((lN : Int) + (dN : Int)) = (lN : Int) + (dN : Int) := by have := hf.ll; have := hf.dl; rw [IntKind.wrap_i64]; omega
 generalize s.pools[b].lim.max = mx at HC z2
 generalize s.pools[b].lim.queue = qu at HC z3
 generalize setP s b { s.pools[b] with waiters := s.pools[b].waiters ++ [(c.call, c.time)] } = sF at HA ⊢
 clear h0 h hb hn hr0 hlim huI huL huD huW hf hW hlI hlL hlD hlW hi hu hq HE0
 go_enter Try.func45, Try.ntmps45
 go_wp2_with fail
 simp only [← hw0, ← hr]
 clear hw0 hr
 refine HP.out.mono ?_
 rintro e w1 ⟨rfl, hb1⟩
 obtain ⟨⟨k0, k1, k5, k7⟩, q4, q5, q6, q7, q0, q1⟩ := HC.out w1 hb1
 rw [hs] at k1
 go_wp2
 go_quiet (fail)
 obtain ⟨wq2, hwz⟩ : ∃ x, x = w1.drewN nq := ⟨_, rfl⟩
 have hbq2 : Below w0.heap.size w0 wq2 := by rw [hwz]; exact below_drewN hb1 _
 simp only [← hwz]
 clear hwz nq
 obtain ⟨⟨k0, k1, k5, k7⟩, q4, q5, q6, q7, q0, q1⟩ := HC.out wq2 hbq2
 rw [hs] at k1
 go_wp2
 go_quiet (fail)
 obtain ⟨wq3, hwz⟩ : ∃ x, x = wq2.drewN nq := ⟨_, rfl⟩
 have hbq3 : Below w0.heap.size w0 wq3 := by rw [hwz]; exact below_drewN hbq2 _
 simp only [← hwz]
 clear hwz nq
 obtain ⟨⟨k0, k1, k5, k7⟩, q4, q5, q6, q7, q0, q1⟩ := HC.out wq3 hbq3
 rw [hs] at k1
 go_wp2
 go_quiet (fail)
 obtain ⟨wq4, hwz⟩ : ∃ x, x = wq3.drewN nq := ⟨_, rfl⟩
 have hbq4 : Below w0.heap.size w0 wq4 := by rw [hwz]; exact below_drewN hbq3 _
 simp only [← hwz]
 clear hwz nq
 obtain ⟨⟨k0, k1, k5, k7⟩, q4, q5, q6, q7, q0, q1⟩ := HC.out wq4 hbq4
 rw [hs] at k1
 go_wp2
 have hBx := hbq4.drew
 obtain ⟨wx, hwx⟩ : ∃ x, x = wq4.drew := ⟨_, rfl⟩
 rw [← hwx] at hBx
 have HBX := Lib.hid hBx
 obtain ⟨⟨j0, j1, j5, j7⟩, p4, p5, p6, p7, p0, p1⟩ := HC.out wx hBx
 rw [hs] at j1
 have H57 : Hid (C57 R c.call c.time wx) := Lib.hid ⟨j5, j7⟩
 clear k0 k1 k5 k7 q4 q5 q6 q7 q0 q1 hBx HP
 refine wp_region_held_drew (S := C57 R c.call c.time) (by kernel_rfl) (by rw [← hwx]; exact H57.out) (fun hHeld => ?_)
 rw [← hwx] at hHeld ⊢
 clear hwx
 refine tk 0 (v := ?vv0_1) (dropAt rfl) (Or.inl ⟨by rfl, ?hv0_1⟩) hHeld ?rv0_1
 case hv0_1 => (intro w hSw; unfold C57 at hSw; obtain ⟨hS1, hS2⟩ := hSw; go_simp; first | done | with_reducible rfl)
 try simp only [Act.put, pu2, pu3, pu4]
 refine tk 1 (v := ?vv1_2) (dropAt rfl) (Or.inl ⟨by rfl, ?hv1_2⟩) hHeld ?rv1_2
 case hv1_2 => (intro w hSw; unfold C57 at hSw; obtain ⟨hS1, hS2⟩ := hSw; go_simp; first | done | with_reducible rfl)
 try simp only [Act.put, pu2, pu3, pu4]
 refine tk 2 (v := ?vv2_3) (dropAt rfl) (Or.inl ⟨by rfl, ?hv2_3⟩) hHeld ?rv2_3
 case hv2_3 => (intro w hSw; unfold C57 at hSw; obtain ⟨hS1, hS2⟩ := hSw; go_simp; first | done | with_reducible rfl)
 try simp only [Act.put, pu2, pu3, pu4]
 refine tk 3 (v := ?vv3_4) (dropAt rfl) (Or.inl ⟨by rfl, ?hv3_4⟩) hHeld ?rv3_4
 case hv3_4 => (intro w hSw; unfold C57 at hSw; obtain ⟨hS1, hS2⟩ := hSw; go_simp; first | done | with_reducible rfl)
 try simp only [Act.put, pu2, pu3, pu4]
 refine tk 5 (v := ?vv5_5) (dropAt rfl) (Or.inl ⟨by rfl, ?hv5_5⟩) hHeld ?rv5_5
 case hv5_5 => (intro w hSw; unfold C57 at hSw; obtain ⟨hS1, hS2⟩ := hSw; go_simp; first | done | with_reducible rfl)
 try simp only [Act.put, pu2, pu3, pu4]
 refine tk 6 (v := ?vv6_6) (dropAt rfl) (Or.inl ⟨by rfl, ?hv6_6⟩) hHeld ?rv6_6
 case hv6_6 => (intro w hSw; unfold C57 at hSw; obtain ⟨hS1, hS2⟩ := hSw; go_simp; first | done | with_reducible rfl)
 try simp only [Act.put, pu2, pu3, pu4]
 refine tk 7 (v := ?vv7_7) (dropAt rfl) (Or.inl ⟨by rfl, ?hv7_7⟩) hHeld ?rv7_7
 case hv7_7 => (intro w hSw; unfold C57 at hSw; obtain ⟨hS1, hS2⟩ := hSw; go_simp; first | done | with_reducible rfl)
 try simp only [Act.put, pu2, pu3, pu4]
 refine tk 8 (v := ?vv8_8) (dropAt rfl) (Or.inl ⟨by rfl, ?hv8_8⟩) hHeld ?rv8_8
 case hv8_8 => (intro w hSw; unfold C57 at hSw; obtain ⟨hS1, hS2⟩ := hSw; go_simp; first | done | with_reducible rfl)
 try simp only [Act.put, pu2, pu3, pu4]
 refine tk 9 (v := ?vv9_9) (dropAt rfl) (Or.inl ⟨by rfl, ?hv9_9⟩) hHeld ?rv9_9
 case hv9_9 => (intro w hSw; unfold C57 at hSw; obtain ⟨hS1, hS2⟩ := hSw; go_simp; first | done | with_reducible rfl)
 try simp only [Act.put, pu2, pu3, pu4]
 refine tk 10 (v := ?vv10_10) (dropAt rfl) (Or.inl ⟨by rfl, ?hv10_10⟩) hHeld ?rv10_10
 case hv10_10 => (intro w hSw; unfold C57 at hSw; obtain ⟨hS1, hS2⟩ := hSw; go_simp; first | done | with_reducible rfl)
 try simp only [Act.put, pu2, pu3, pu4]
 refine tk 11 (v := ?vv11_11) (dropAt rfl) (Or.inl ⟨by rfl, ?hv11_11⟩) hHeld ?rv11_11
 case hv11_11 => (intro w hSw; unfold C57 at hSw; obtain ⟨hS1, hS2⟩ := hSw; go_simp; first | done | with_reducible rfl)
 try simp only [Act.put, pu2, pu3, pu4]
 refine tk 12 (v := ?vv12_12) (dropAt rfl) (Or.inl ⟨by rfl, ?hv12_12⟩) hHeld ?rv12_12
 case hv12_12 => (intro w hSw; unfold C57 at hSw; obtain ⟨hS1, hS2⟩ := hSw; go_simp; first | done | with_reducible rfl)
 try simp only [Act.put, pu2, pu3, pu4]
 refine tk 13 (v := ?vv13_13) (dropAt rfl) (Or.inl ⟨by rfl, ?hv13_13⟩) hHeld ?rv13_13
 case hv13_13 => (intro w hSw; unfold C57 at hSw; obtain ⟨hS1, hS2⟩ := hSw; go_simp; first | done | with_reducible rfl)
 try simp only [Act.put, pu2, pu3, pu4]
 refine tk 14 (v := ?vv14_14) (dropAt rfl) (Or.inl ⟨by rfl, ?hv14_14⟩) hHeld ?rv14_14
 case hv14_14 => (intro w hSw; unfold C57 at hSw; obtain ⟨hS1, hS2⟩ := hSw; go_simp; first | done | with_reducible rfl)
 try simp only [Act.put, pu2, pu3, pu4]
 refine tk 15 (v := ?vv15_15) (dropAt rfl) (Or.inl ⟨by rfl, ?hv15_15⟩) hHeld ?rv15_15
 case hv15_15 => (intro w hSw; unfold C57 at hSw; obtain ⟨hS1, hS2⟩ := hSw; go_simp; first | done | with_reducible rfl)
 try simp only [Act.put, pu2, pu3, pu4]
 refine wpAnyH_ready (rs := [4, 16]) (by kernel_rfl) (by simp) ?_
 refine AllReadyH.cons (o := _) (dropAt (r := _) rfl) (fun K hK => ?_) (AllReadyH.cons (o := _) (dropAt (r := _) rfl) (fun K hK => ?_) AllReadyH.nil)
 · go_simp
   refine hK.out _ _ hHeld (fun hHeldb => ?_)
   clear hK K hHeldb
   try simp only [Act.put, pu2, pu3, pu4]
   refine wpAnyH_ready (rs := [16]) (by kernel_rfl) (by simp) ?_
   refine AllReadyH.cons (o := _) (dropAt (r := _) rfl) (fun K hK => ?_) AllReadyH.nil
   go_simp
   refine hK.out _ _ (show C57 R c.call c.time (wx.alloc (.cells #[I64 c.call, I64 c.time] 58)) from ⟨(HC.out _ (HBX.out.alloc HBX.out.size (.cells #[I64 c.call, I64 c.time] 58))).1.2.2.1, (HC.out _ (HBX.out.alloc HBX.out.size (.cells #[I64 c.call, I64 c.time] 58))).1.2.2.2⟩) (fun hHeldc => ?_)
   clear hK K hHeldc
   try simp only [Act.put, pu2, pu3, pu4]
   refine wpAnyH_ready (rs := [17]) (by kernel_rfl) (by simp) ?_
   refine AllReadyH.cons (o := _) (dropAt (r := _) rfl) (fun K hK => ?_) AllReadyH.nil
   obtain ⟨⟨va, vn, vc⟩, w3, hrr, hi3, k5c, f5c, hi4, hR, hG⟩ := HA.out _ HBX.out
   refine step_append_runI rfl _ _ 46 46 rfl _ _ (by simp [Act.eval, Act.put]) (by simp [Act.eval, Act.put]) hrr ?_
   refine hK.out _ _ hi3 (fun hHeld4 => ?_)
   clear hK K hrr
   try simp only [Act.put, pu2, pu3, pu4]
   refine tk 18 (v := ?vv18_16) (dropAt rfl) (Or.inl ⟨by rfl, ?hv18_16⟩) hHeld4 ?rv18_16
   case hv18_16 => (intro w hSw; unfold C57 at hSw; obtain ⟨hS1, hS2⟩ := hSw; go_simp; first | done | with_reducible rfl)
   try simp only [Act.put, pu2, pu3, pu4]
   refine tk 19 (v := ?vv19_17) (dropAt rfl) (Or.inl ⟨by rfl, ?hv19_17⟩) hHeld4 ?rv19_17
   case hv19_17 => (intro w hSw; unfold C57 at hSw; obtain ⟨hS1, hS2⟩ := hSw; go_simp; first | done | with_reducible rfl)
   try simp only [Act.put, pu2, pu3, pu4]
   dsimp only at hi4 hR hG
   refine wpAnyH_ready (rs := [20]) (by kernel_rfl) (by simp) ?_
   refine AllReadyH.cons (o := _) (dropAt (r := _) rfl) (fun K hK => ?_) AllReadyH.nil
   go_simp
   refine hK.out _ _ hi4 (fun hHeld5 => ?_)
   clear hK K
   try simp only [Act.put, pu2, pu3, pu4]
   refine wpAnyH_done (by kernel_rfl) ?_ _
   clear HA HC HBX hHeld hHeld4 hHeld5 H57
   go_wp2_with fail
   refine (is_any 3 _).mono ?_
   rintro e w9 ⟨rfl, hb9⟩
   obtain ⟨hblk, hfin0⟩ := done_end hR hG HR0.out hb9 HBG.out HSR.out 3
   have HB3 := Lib.hid hblk
   have HF := Lib.hid hfin0
   have y0 := blk_cell hblk 0
   have y1 := blk_cell hblk 1
   have y2 := blk_cell hblk 2
   have v0 := blk_free hblk 0
   have v1 := blk_free hblk 1
   have v2 := blk_free hblk 2
   simp only [List.getElem?_toArray, List.getElem?_cons_succ, List.getElem?_cons_zero] at y0 y1 y2
   clear hblk hfin0 hb9 hR hG
   go_wp2
   have hfin := blk_set (blk_set (blk_set HB3.out 0 (I64 3)) 1 (I64 0)) 2 (I64 0)
   have z0 := blk_cell hfin 0
   have z1 := blk_cell hfin 1
   have z2 := blk_cell hfin 2
   simp only [List.setIfInBounds_toArray, List.set_cons_zero, List.set_cons_succ, List.getElem?_toArray, List.getElem?_cons_succ, List.getElem?_cons_zero] at z0 z1 z2
   clear hfin
   refine bodyPost_ret (v := .agg #[I64 3, I64 0, I64 0]) (by rw [results_cell_oneN rfl]; go_simp) rfl ?_
   exact ⟨rfl, HF.out⟩
 · go_simp
   refine hK.out _ _ (show C57 R c.call c.time (wx.alloc (.cells #[I64 c.call, I64 c.time] 58)) from ⟨(HC.out _ (HBX.out.alloc HBX.out.size (.cells #[I64 c.call, I64 c.time] 58))).1.2.2.1, (HC.out _ (HBX.out.alloc HBX.out.size (.cells #[I64 c.call, I64 c.time] 58))).1.2.2.2⟩) (fun hHeldc => ?_)
   clear hK K hHeldc
   try simp only [Act.put, pu2, pu3, pu4]
   have hx4 := (HC.out _ (HBX.out.alloc HBX.out.size (.cells #[I64 c.call, I64 c.time] 58))).2.2.2.2.1
   refine wpAnyH_ready (rs := [4]) (by kernel_rfl) (by simp) ?_
   refine AllReadyH.cons (o := _) (dropAt (r := _) rfl) (fun K hK => ?_) AllReadyH.nil
   go_simp
   refine hK.out _ _ (show C57 R c.call c.time (wx.alloc (.cells #[I64 c.call, I64 c.time] 58)) from ⟨(HC.out _ (HBX.out.alloc HBX.out.size (.cells #[I64 c.call, I64 c.time] 58))).1.2.2.1, (HC.out _ (HBX.out.alloc HBX.out.size (.cells #[I64 c.call, I64 c.time] 58))).1.2.2.2⟩) (fun hHeldd => ?_)
   clear hK K hHeldd
   try simp only [Act.put, pu2, pu3, pu4]
   refine wpAnyH_ready (rs := [17]) (by kernel_rfl) (by simp) ?_
   refine AllReadyH.cons (o := _) (dropAt (r := _) rfl) (fun K hK => ?_) AllReadyH.nil
   obtain ⟨⟨va, vn, vc⟩, w3, hrr, hi3, k5c, f5c, hi4, hR, hG⟩ := HA.out _ HBX.out
   refine step_append_runI rfl _ _ 46 46 rfl _ _ (by simp [Act.eval, Act.put]) (by simp [Act.eval, Act.put]) hrr ?_
   refine hK.out _ _ hi3 (fun hHeld4 => ?_)
   clear hK K hrr
   try simp only [Act.put, pu2, pu3, pu4]
   refine tk 18 (v := ?vv18_18) (dropAt rfl) (Or.inl ⟨by rfl, ?hv18_18⟩) hHeld4 ?rv18_18
   case hv18_18 => (intro w hSw; unfold C57 at hSw; obtain ⟨hS1, hS2⟩ := hSw; go_simp; first | done | with_reducible rfl)
   try simp only [Act.put, pu2, pu3, pu4]
   refine tk 19 (v := ?vv19_19) (dropAt rfl) (Or.inl ⟨by rfl, ?hv19_19⟩) hHeld4 ?rv19_19
   case hv19_19 => (intro w hSw; unfold C57 at hSw; obtain ⟨hS1, hS2⟩ := hSw; go_simp; first | done | with_reducible rfl)
   try simp only [Act.put, pu2, pu3, pu4]
   dsimp only at hi4 hR hG
   refine wpAnyH_ready (rs := [20]) (by kernel_rfl) (by simp) ?_
   refine AllReadyH.cons (o := _) (dropAt (r := _) rfl) (fun K hK => ?_) AllReadyH.nil
   go_simp
   refine hK.out _ _ hi4 (fun hHeld5 => ?_)
   clear hK K
   try simp only [Act.put, pu2, pu3, pu4]
   refine wpAnyH_done (by kernel_rfl) ?_ _
   clear HA HC HBX hHeld hHeld4 hHeld5 H57
   go_wp2_with fail
   refine (is_any 3 _).mono ?_
   rintro e w9 ⟨rfl, hb9⟩
   obtain ⟨hblk, hfin0⟩ := done_end hR hG HR0.out hb9 HBG.out HSR.out 3
   have HB3 := Lib.hid hblk
   have HF := Lib.hid hfin0
   have y0 := blk_cell hblk 0
   have y1 := blk_cell hblk 1
   have y2 := blk_cell hblk 2
   have v0 := blk_free hblk 0
   have v1 := blk_free hblk 1
   have v2 := blk_free hblk 2
   simp only [List.getElem?_toArray, List.getElem?_cons_succ, List.getElem?_cons_zero] at y0 y1 y2
   clear hblk hfin0 hb9 hR hG
   go_wp2
   have hfin := blk_set (blk_set (blk_set HB3.out 0 (I64 3)) 1 (I64 0)) 2 (I64 0)
   have z0 := blk_cell hfin 0
   have z1 := blk_cell hfin 1
   have z2 := blk_cell hfin 2
   simp only [List.setIfInBounds_toArray, List.set_cons_zero, List.set_cons_succ, List.getElem?_toArray, List.getElem?_cons_succ, List.getElem?_cons_zero] at z0 z1 z2
   clear hfin
   refine bodyPost_ret (v := .agg #[I64 3, I64 0, I64 0]) (by rw [results_cell_oneN rfl]; go_simp) rfl ?_
   exact ⟨rfl, HF.out⟩
/-- MdAsk, whole. -/
theorem ask_any (S : Nat → Prop) (R G n cap b : Nat) (c : Md.Call) (s : Md.State) (es : List Md.Effect) (W : Nat → Prop) (ev : SlV) (pvs : List PoolV) (w : World) (h : RunV S R c s es W (some ⟨G, 0, none⟩, n, cap) ev pvs w) (hb : c.backend = (b : Int)) (hn : n = s.pools.length) (hbn : b < s.pools.length) (hf : PoolFit s.pools[b]) (hW : W b) :
 Calls Try.prog 45 #[.pointer (some ⟨R, 0, none⟩)] w fun e w' => e = .returned (agg3 (Md.ask s.shut s.now s.pools[b] c).2) ∧ RunE S R c (setP s b (Md.ask s.shut s.now s.pools[b] c).1) es W G n cap w' ∧ Gb S w w' := by
 unfold Md.ask
 by_cases hs : s.shut = true
 · rw [if_pos hs]
   exact ask_shut S R G n cap b c s es W ev pvs w h hb hn hbn hs
 · rw [if_neg hs]
   have hs' : s.shut = false := by simpa using hs
   by_cases ht : c.time ≤ s.now
   · rw [if_pos ht]
     exact ask_late S R G n cap b c s es W ev pvs w h hb hn hbn hs' ht
   · rw [if_neg ht]
     cases hi : s.pools[b].idle.getLast? with
     | some x => exact ask_idle S R G n cap b c s es W ev pvs w h hb hn hbn hf x hs' ht hi
     | none =>
      have hi' : s.pools[b].idle = [] := List.getLast?_eq_none_iff.1 hi
      dsimp only
      by_cases hu : (Md.used s.pools[b] : Int) < s.pools[b].lim.max
      · rw [if_pos hu]
        exact ask_dials S R G n cap b c s es W ev pvs w h hb hn hbn hf hs' ht hi' hu
      · rw [if_neg hu]
        by_cases hq : (s.pools[b].waiters.length : Int) < s.pools[b].lim.queue
        · rw [if_pos hq]
          exact ask_waits S R G n cap b c s es W ev pvs w h hb hn hbn hf hW hs' ht hi' hu hq
        · rw [if_neg hq]
          exact ask_full S R G n cap b c s es W ev pvs w h hb hn hbn hf hs' ht hi' hu hq
end Go.Proofs.Ytaicmiadgnpimaa
