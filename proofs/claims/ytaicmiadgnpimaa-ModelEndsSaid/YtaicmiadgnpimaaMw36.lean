/-
  Walks for layer 26 (model): dialled.
-/
import Derived.Test.YtaicmiadgnpimaaMgh
namespace Go.Proofs.Ytaicmiadgnpimaa
open Go.RowKit

/-- The run's own cells that a call's arguments are read from. -/
def CR (R : Nat) (c : Md.Call) (now : Int) (w : World) : Prop := w.cell? ⟨R, 0, none⟩ = some (I64 now) ∧ w.cell? ⟨R, 4, none⟩ = some (I64 c.backend) ∧ w.cell? ⟨R, 5, none⟩ = some (I64 c.call) ∧ w.cell? ⟨R, 6, none⟩ = some (I64 c.conn)
theorem RunE.cr {S : Nat → Prop} {R : Nat} {c : Md.Call} {s : Md.State} {es : List Md.Effect} {W : Nat → Prop} {G n cap : Nat} {w : World} (h : RunE S R c s es W G n cap w) {now : Int} (hn : s.now = now) : CR R c now w := by
 obtain ⟨ev, pvs, h⟩ := h
 have q := runCells_of h.blk
 subst hn
 exact ⟨q.c0, q.c4, q.c5, q.c6⟩
theorem RunE.impW {S : Nat → Prop} {R : Nat} {c : Md.Call} {s : Md.State} {es : List Md.Effect} {W W' : Nat → Prop} {G n cap : Nat} {w : World} (h : RunE S R c s es W G n cap w) (hi : ∀ j, W' j → W j) : RunE S R c s es W' G n cap w := by
 obtain ⟨ev, pvs, h⟩ := h
 exact ⟨ev, pvs, h.impW hi⟩
def undialP (p : Md.Pool) (k : Nat) : Md.Pool := { p with dials := p.dials.eraseIdx k }
def agg3 (x : Md.Result) : Value := .agg #[I64 x.1, I64 x.2.1, I64 x.2.2]
set_option maxHeartbeats 4000000 in
set_option maxRecDepth 100000 in
set_option linter.unusedSimpArgs false in
theorem dialled_any (S : Nat → Prop) (R G n cap b : Nat) (c : Md.Call) (s : Md.State) (es : List Md.Effect) (W : Nat → Prop) (ev : SlV) (pvs : List PoolV) (w : World) (h : RunV S R c s es W (some ⟨G, 0, none⟩, n, cap) ev pvs w) (hb : c.backend = (b : Int)) (hn : n = s.pools.length) (hbn : b < s.pools.length) (hf : PoolFit s.pools[b])
 (hx : Md.hasDial s.pools[b] c.call = true) (hnow : Near s.now) (hel : es.length ≤ 1000) :
 Calls Try.prog 47 #[.pointer (some ⟨R, 0, none⟩)] w fun e w' => e = .returned (agg3 (Md.dialled s.shut s.now s.pools[b] c).2.2) ∧ RunE S R c (setP s b (Md.dialled s.shut s.now s.pools[b] c).1) (es ++ (Md.dialled s.shut s.now s.pools[b] c).2.1) (fun j => W j ∧ j ≠ b) G n cap w' ∧ Gb S w w' := by
 have hbp : b < pvs.length := by rw [h.len]; exact hbn
 have h0 := h.begin (.cells #[I64 0, I64 0, I64 0] 31)
 have hr0 := blk_new w (.cells #[I64 0, I64 0, I64 0] 31)
 have HBG : Hid (∀ w', Gb (fun k => S k ∧ k ≠ w.heap.size) (w.alloc (.cells #[I64 0, I64 0, I64 0] 31)) w' → Gb S w w') := fun w' hg => Gb.begin hg
 obtain ⟨r, hr⟩ : ∃ r, r = w.heap.size := ⟨_, rfl⟩
 obtain ⟨w0, hw0⟩ : ∃ w0, w0 = w.alloc (.cells #[I64 0, I64 0, I64 0] 31) := ⟨_, rfl⟩
 rw [← hr] at h0 HBG hr0
 rw [← hw0] at h0 HBG hr0
 have HSR : Hid (S r) := by rw [hr]; exact h.fresh _ (Nat.le_refl _)
 have HP := Lib.hid (pool_any R G n cap b c s ev w0 (runCells_of h0.blk) hb (by omega))
 have HI : Hid (∀ w1, _) := fun w1 => is_any 7 w1
 have HR0 := Lib.hid hr0
 have HE0 : Hid (∀ w1, Below w0.heap.size w0 w1 → RunE (fun k => S k ∧ k ≠ r) R c s es W G n cap w1) := fun w1 hb1 => ⟨_, _, h0.below hb1⟩
 have hse := h0.seen hbn hf
 have HF : Hid (∀ w1, Below w0.heap.size w0 w1 → Calls Try.prog 66 #[.pointer (some ⟨G, b * 11, none⟩), I64 c.call] w1 fun e w' => e = .returned (.tuple #[I64 (ixI (fun y => y.1 == c.call) s.pools[b].leases), I64 (ixI (fun y => y.1 == c.call) s.pools[b].dials), I64 (ixI (fun y => y.1 == c.call) s.pools[b].waiters)]) ∧ Below w0.heap.size w0 w') := fun w1 hb1 =>
  (find_pool (hse.below hb1) c.call).mono fun e w' q => ⟨q.1, hb1.trans (q.2.mono hb1.size)⟩
 have HC : Hid (∀ w1, Below w0.heap.size w0 w1 → w1.cell? ⟨R, 5, none⟩ = some (I64 c.call)) := fun w1 hb1 => (runCells_of (h0.below hb1).blk).c5
 have p1 := ixI_pos (fun y => y.1 == c.call) s.pools[b].dials
 unfold Md.hasDial at hx
 obtain ⟨k, hk, hk1, hk2, hpk⟩ := p1 hx
 rw [hk2] at HF
 have hgo := gone_some s.pools[b] c.call k hk hk1
 have hdd : Md.dialled s.shut s.now s.pools[b] c = ((if !c.yes then Md.pass c.backend (undialP s.pools[b] k) else if s.pools[b].dials[k].2 then Md.give s.shut s.now c.backend (undialP s.pools[b] k) c.conn s.now true else if s.shut then ((undialP s.pools[b] k), [(11, c.backend, 0, c.conn)]) else ({ (undialP s.pools[b] k) with leases := Md.insLease (c.call, c.conn, s.now) s.pools[b].leases }, [])).1,
  (if !c.yes then Md.pass c.backend (undialP s.pools[b] k) else if s.pools[b].dials[k].2 then Md.give s.shut s.now c.backend (undialP s.pools[b] k) c.conn s.now true else if s.shut then ((undialP s.pools[b] k), [(11, c.backend, 0, c.conn)]) else ({ (undialP s.pools[b] k) with leases := Md.insLease (c.call, c.conn, s.now) s.pools[b].leases }, [])).2, if s.pools[b].dials[k].2 then (7, 0, 0) else if !c.yes then (10, 0, 0) else if s.shut then (6, 0, 0) else (1, 0, c.conn)) := by
  unfold Md.dialled Md.dialIx undialP
  rw [hk1, hgo]
 rw [hdd]
 obtain ⟨g, dc, hv⟩ := own_form0 (h0.each b hbp hbn).dials (by omega)
 have hlb := hf.dl
 have HD : Hid (∀ w1, Below w0.heap.size w0 w1 → w1.cell? ⟨G, b * 11 + 6, none⟩ = some (.slice (some ⟨g, 0, none⟩) s.pools[b].dials.length dc) ∧ w1.cell? ⟨g, k * 2 + 1, none⟩ = some (.bool s.pools[b].dials[k].2) ∧
  Calls Try.prog 74 #[.slice (some ⟨g, 0, none⟩) s.pools[b].dials.length dc, I64 k, I64 ((k : Int) + 1)] w1 fun e w' => e = .returned (.slice (some ⟨g, 0, none⟩) (s.pools[b].dials.eraseIdx k).length dc) ∧
   w'.cell? ⟨G, b * 11 + 6, none⟩ = some (.slice (some ⟨g, 0, none⟩) s.pools[b].dials.length dc) ∧ w'.frozen? ⟨G, b * 11 + 6, none⟩ = false ∧ RunE (fun i => S i ∧ i ≠ r) R c (setP s b (undialP s.pools[b] k)) es W G n cap (w'.setCell ⟨G, b * 11 + 6, none⟩ (.slice (some ⟨g, 0, none⟩) (s.pools[b].dials.eraseIdx k).length dc)) ∧
    Gb (fun i => S i ∧ i ≠ r) w0 (w'.setCell ⟨G, b * 11 + 6, none⟩ (.slice (some ⟨g, 0, none⟩) (s.pools[b].dials.eraseIdx k).length dc))) := fun w1 hb1 => by
  have h1 := h0.below hb1
  have k6 := (h1.cells hbp).c6
  have hq1 := (h1.each b hbp hbn).dials
  rw [hv] at k6 hq1
  refine ⟨k6, (own_cells encDial_len hq1 hk (i := 1) (u := .bool s.pools[b].dials[k].2) rfl).1, (h1.delD hbp hbn hk hv hlb).mono ?_⟩
  rintro e w' ⟨q1, ⟨q2, q3, _⟩, q4, q5⟩
  rw [hv] at q2
  exact ⟨q1, q2, q3, q4, (Gb.of_below hb1).trans q5⟩
 have HFIT : Hid (PoolFit (undialP s.pools[b] k)) := Lib.hid (fit_dials hf k)
 have HB := Lib.hid hb
 have HN := Lib.hid hn
 have HNOW := Lib.hid hnow
 have hkz : (k : Int) < (s.pools[b].dials.length : Int) := by omega
 have HBN := Lib.hid hbn
 generalize (s.pools[b].dials.eraseIdx k).length = ne at HD
 generalize s.pools[b].dials[k].2 = gb at HD ⊢
 generalize ixI (fun y => y.1 == c.call) s.pools[b].leases = i1 at HF
 generalize ixI (fun y => y.1 == c.call) s.pools[b].waiters = i3 at HF
 generalize s.pools[b].dials.length = nl at HD hkz hlb
 clear hse h0 h hb hn hr0 hf p1 hx hv hk1 hk2 hpk hk hdd hgo HE0 hnow
 go_enter Try.func47, Try.ntmps47
 go_wp2_with fail
 simp only [← hw0, ← hr]
 clear hw0 hr
 refine HP.out.mono ?_
 rintro e w1 ⟨rfl, hb1⟩
 have c5 := HC.out w1 hb1
 go_wp2_with fail
 refine (HF.out _ hb1).mono ?_
 rintro e w2 ⟨rfl, hb2⟩
 obtain ⟨k6, l1, hdel⟩ := HD.out w2 hb2
 have HDEL := Lib.hid hdel
 clear hdel HD HF HP HC c5 hb1 hb2
 go_wp2_with fail
 refine HDEL.out.mono ?_
 rintro e w3 ⟨rfl, k6b, f6b, hR3, hG3⟩
 have HR3 := Lib.hid hR3
 have HG3 := Lib.hid hG3
 clear hR3 hG3 k6 l1 HDEL
 go_wp2_with fail
 refine (HI.out _).mono ?_
 rintro e w4 ⟨rfl, hb4⟩
 have hR4 := HR3.out.below hb4
 have hG4 := HG3.out.trans (.of_below hb4)
 obtain ⟨ev4, pvs4, hv4⟩ := hR4
 have HSX : Hid (S w4.heap.size ∧ w4.heap.size ≠ r) := hv4.fresh _ (Nat.le_refl _)
 have h8 := hv4.begin (.cells #[I64 7, I64 0, I64 0] 31)
 have b8 := blk_new w4 (.cells #[I64 7, I64 0, I64 0] 31)
 have g8 := hG4.alloc (.cells #[I64 7, I64 0, I64 0] 31)
 have HR8 : Hid (RunE (fun i => (S i ∧ i ≠ r) ∧ i ≠ w4.heap.size) R c (setP s b (undialP s.pools[b] k)) es W G n cap (w4.alloc (.cells #[I64 7, I64 0, I64 0] 31))) := Lib.hid ⟨_, _, h8⟩
 have HG8 := Lib.hid g8
 have HB8 := Lib.hid b8
 have hq8 := runCells_of h8.blk
 have k8 := hq8.c8
 have k1 : (w4.alloc (.cells #[I64 7, I64 0, I64 0] 31)).cell? ⟨R, 1, none⟩ = some (.bool s.shut) := hq8.c1
 have hbn1 : b < (setP s b (undialP s.pools[b] k)).pools.length := by rw [setP_len]; exact hbn
 have hfit1 : PoolFit (setP s b (undialP s.pools[b] k)).pools[b] := by rw [setP_get]; exact HFIT.out
 have hn1 : n = (setP s b (undialP s.pools[b] k)).pools.length := by rw [setP_len]; exact HN.out
 have HCON : Hid ((b < (setP s b (undialP s.pools[b] k)).pools.length ∧ n = (setP s b (undialP s.pools[b] k)).pools.length) ∧ ∀ h : b < (setP s b (undialP s.pools[b] k)).pools.length, PoolFit (setP s b (undialP s.pools[b] k)).pools[b]) := ⟨⟨hbn1, hn1⟩, fun h => by rw [setP_get]; exact HFIT.out⟩
 clear hn1 hfit1 hbn1 HG3 HR3 hb4 hG4 hv4 h8 b8 g8 hq8 k6b f6b
 cases hy : c.yes with
 | false =>
  rw [hy] at k8
  go_wp2_with fail
  obtain ⟨X, hX⟩ : ∃ X, X = w4.heap.size := ⟨_, rfl⟩
  have hR8 := HR8.out
  have hb8 := HB8.out
  rw [← hX] at hR8 hb8 HSX
  simp only [← hX]
  obtain ⟨w5, hw5⟩ : ∃ x, x = w4.alloc (.cells #[I64 7, I64 0, I64 0] 31) := ⟨_, rfl⟩
  rw [← hw5] at hR8 hb8 k8 k1
  have hG5 := HG8.out
  rw [← hw5] at hG5
  simp only [← hw5]
  clear HR8 HB8 HG8 hw5 hX
  obtain ⟨ev5, pvs5, hv5⟩ := hR8
  have hps := pass_any _ R G n cap b c _ es W ev5 pvs5 w5 hv5 HB.out HCON.out.1.2 HCON.out.1.1 (HCON.out.2 _).ds (HCON.out.2 _).dl (by omega) (HCON.out.2 _).wp
  rw [setP_get, setP_set] at hps
  refine hps.mono ?_
  rintro e w6 ⟨rfl, hR, hG6⟩
  have hb6 := hG6.kept_blk hb8
  have hG := hG5.trans (hG6.mono (fun _ _ x => x.1))
  clear hps hv5 hb8 hG5 hG6 k8 k1
  cases gb with
  | true =>
   have hb8 := hb6
   clear hb6
   have HRR := Lib.hid hR
   have HGG := Lib.hid hG
   have hblk := hG.kept_blk HR0.out
   have HB3 := Lib.hid hblk
   have y0 := blk_cell hblk 0
   have y1 := blk_cell hblk 1
   have y2 := blk_cell hblk 2
   have v0 := blk_free hblk 0
   have v1 := blk_free hblk 1
   have v2 := blk_free hblk 2
   have x0 := blk_cell hb8 0
   have x1 := blk_cell hb8 1
   have x2 := blk_cell hb8 2
   simp only [List.getElem?_toArray, List.getElem?_cons_succ, List.getElem?_cons_zero] at y0 y1 y2 x0 x1 x2
   have HF := Lib.hid ((hR.widen (fun _ x => x.1)).finish hG HBG.out HSR.out 7 0 0)
   clear hblk hR hG hb8
   go_wp2
   have hfin := blk_set (blk_set (blk_set HB3.out 0 (I64 7)) 1 (I64 0)) 2 (I64 0)
   have z0 := blk_cell hfin 0
   have z1 := blk_cell hfin 1
   have z2 := blk_cell hfin 2
   simp only [List.setIfInBounds_toArray, List.set_cons_zero, List.set_cons_succ, List.getElem?_toArray, List.getElem?_cons_succ, List.getElem?_cons_zero] at z0 z1 z2
   clear hfin
   refine bodyPost_ret (v := .agg #[I64 7, I64 0, I64 0]) (by rw [results_cell_oneN rfl]; go_simp) rfl ?_
   simp only [hy, agg3, Bool.not_false, Bool.not_true, if_true, Bool.false_eq_true, if_false]
   exact ⟨trivial, HF.out⟩
  | false =>
   have HB6 := Lib.hid hb6
   have HRR := Lib.hid hR
   have HGG := Lib.hid hG
   clear hR hG hb6
   go_wp2_with fail
   refine (is_any 10 _).mono ?_
   rintro e w7 ⟨rfl, hb7⟩
   have hl6 := (Array.getElem?_eq_some_iff.1 HB6.out).1
   have hb7x := (hb7.block X hl6).trans HB6.out
   have x0 := blk_cell hb7x 0
   have x1 := blk_cell hb7x 1
   have x2 := blk_cell hb7x 2
   have u0 := blk_free hb7x 0
   have u1 := blk_free hb7x 1
   have u2 := blk_free hb7x 2
   simp only [List.getElem?_toArray, List.getElem?_cons_succ, List.getElem?_cons_zero] at x0 x1 x2
   have hR7 := (((HRR.out.below hb7).setOther (setCell_grown _ ⟨X, 0, none⟩ (I64 10))).setOther (setCell_grown _ ⟨X, 1, none⟩ (I64 0))).setOther (setCell_grown _ ⟨X, 2, none⟩ (I64 0))
   have hSX : S X ∧ X ≠ r := HSX.out
   have hG : Gb (fun i => S i ∧ i ≠ r) w0 (((w7.setCell ⟨X, 0, none⟩ (I64 10)).setCell ⟨X, 1, none⟩ (I64 0)).setCell ⟨X, 2, none⟩ (I64 0)) := (((HGG.out.trans (.of_below hb7)).setCell (x := ⟨X, 0, none⟩) hSX _).setCell (x := ⟨X, 1, none⟩) hSX _).setCell (x := ⟨X, 2, none⟩) hSX _
   have hb8 : (((w7.setCell ⟨X, 0, none⟩ (I64 10)).setCell ⟨X, 1, none⟩ (I64 0)).setCell ⟨X, 2, none⟩ (I64 0)).heap[X]? = some (.cells #[I64 10, I64 0, I64 0] 31 (0, 0)) := blk_set (blk_set (blk_set hb7x 0 (I64 10)) 1 (I64 0)) 2 (I64 0)
   have hR := hR7
   clear hR7 HRR HGG HB6
   have hblk := hG.kept_blk HR0.out
   have HB3 := Lib.hid hblk
   have y0 := blk_cell hblk 0
   have y1 := blk_cell hblk 1
   have y2 := blk_cell hblk 2
   have v0 := blk_free hblk 0
   have v1 := blk_free hblk 1
   have v2 := blk_free hblk 2
   have x0 := blk_cell hb8 0
   have x1 := blk_cell hb8 1
   have x2 := blk_cell hb8 2
   simp only [List.getElem?_toArray, List.getElem?_cons_succ, List.getElem?_cons_zero] at y0 y1 y2 x0 x1 x2
   have HF := Lib.hid ((hR.widen (fun _ x => x.1)).finish hG HBG.out HSR.out 10 0 0)
   clear hblk hR hG hb8
   go_wp2
   have hfin := blk_set (blk_set (blk_set HB3.out 0 (I64 10)) 1 (I64 0)) 2 (I64 0)
   have z0 := blk_cell hfin 0
   have z1 := blk_cell hfin 1
   have z2 := blk_cell hfin 2
   simp only [List.setIfInBounds_toArray, List.set_cons_zero, List.set_cons_succ, List.getElem?_toArray, List.getElem?_cons_succ, List.getElem?_cons_zero] at z0 z1 z2
   clear hfin
   refine bodyPost_ret (v := .agg #[I64 10, I64 0, I64 0]) (by rw [results_cell_oneN rfl]; go_simp) rfl ?_
   simp only [hy, agg3, Bool.not_false, Bool.not_true, if_true, Bool.false_eq_true, if_false]
   exact ⟨trivial, HF.out⟩
 | true =>
  rw [hy] at k8
  cases gb with
  | true =>
   go_wp2
   obtain ⟨X, hX⟩ : ∃ X, X = w4.heap.size := ⟨_, rfl⟩
   have hR8 := HR8.out
   have hb8 := HB8.out
   rw [← hX] at hR8 hb8 HSX
   simp only [← hX]
   obtain ⟨w5, hw5⟩ : ∃ x, x = w4.alloc (.cells #[I64 7, I64 0, I64 0] 31) := ⟨_, rfl⟩
   rw [← hw5] at hR8 hb8 k8 k1
   have hG5 := HG8.out
   rw [← hw5] at hG5
   simp only [← hw5]
   clear HR8 HB8 HG8 hw5 hX
   have hR8d := hR8.below (Below.refl _ _).drew
   have hG5d := hG5.trans (.of_below (S := fun i => S i ∧ i ≠ r) (Below.refl w5.heap.size w5).drew)
   have hb8d : w5.drew.heap[X]? = some (.cells #[I64 7, I64 0, I64 0] 31 (0, 0)) := hb8
   have hCRd : CR R c s.now w5.drew := hR8d.cr rfl
   obtain ⟨ev5, pvs5, hv5⟩ := hR8d
   have hps := give_any _ R G n cap b c _ es W ev5 pvs5 c.conn s.now true w5.drew hv5 HB.out HCON.out.1.2 HCON.out.1.1 (by rw [setP_get]; exact HFIT.out) (by omega) HNOW.out
   rw [setP_get, setP_set] at hps
   have HPS := Lib.hid hps
   have HB8D := Lib.hid hb8d
   have HG5D := Lib.hid hG5d
   clear hps hv5 hb8 hG5 hG5d hb8d hR8 k8 k1
   refine wp_region_held_drew (S := CR R c s.now) (by kernel_rfl) hCRd (fun hHeld => ?_)
   refine tk 0 (v := ?vv0_1) (dropAt rfl) (Or.inl ⟨by rfl, ?hv0_1⟩) hHeld ?rv0_1
   case hv0_1 => (intro w hSw; unfold CR at hSw; obtain ⟨hS1, hS2, hS3, hS4⟩ := hSw; go_simp; first | done | with_reducible rfl)
   try simp only [Act.put, pu2, pu3, pu4]
   refine tk 1 (v := ?vv1_2) (dropAt rfl) (Or.inl ⟨by rfl, ?hv1_2⟩) hHeld ?rv1_2
   case hv1_2 => (intro w hSw; unfold CR at hSw; obtain ⟨hS1, hS2, hS3, hS4⟩ := hSw; go_simp; first | done | with_reducible rfl)
   try simp only [Act.put, pu2, pu3, pu4]
   refine tk 2 (v := ?vv2_3) (dropAt rfl) (Or.inl ⟨by rfl, ?hv2_3⟩) hHeld ?rv2_3
   case hv2_3 => (intro w hSw; unfold CR at hSw; obtain ⟨hS1, hS2, hS3, hS4⟩ := hSw; go_simp; first | done | with_reducible rfl)
   try simp only [Act.put, pu2, pu3, pu4]
   refine tk 3 (v := ?vv3_4) (dropAt rfl) (Or.inl ⟨by rfl, ?hv3_4⟩) hHeld ?rv3_4
   case hv3_4 => (intro w hSw; unfold CR at hSw; obtain ⟨hS1, hS2, hS3, hS4⟩ := hSw; go_simp; first | done | with_reducible rfl)
   try simp only [Act.put, pu2, pu3, pu4]
   refine tk 4 (v := ?vv4_5) (dropAt rfl) (Or.inl ⟨by rfl, ?hv4_5⟩) hHeld ?rv4_5
   case hv4_5 => (intro w hSw; unfold CR at hSw; obtain ⟨hS1, hS2, hS3, hS4⟩ := hSw; go_simp; first | done | with_reducible rfl)
   try simp only [Act.put, pu2, pu3, pu4]
   refine tk 5 (v := ?vv5_6) (dropAt rfl) (Or.inl ⟨by rfl, ?hv5_6⟩) hHeld ?rv5_6
   case hv5_6 => (intro w hSw; unfold CR at hSw; obtain ⟨hS1, hS2, hS3, hS4⟩ := hSw; go_simp; first | done | with_reducible rfl)
   try simp only [Act.put, pu2, pu3, pu4]
   refine tk 6 (v := ?vv6_7) (dropAt rfl) (Or.inl ⟨by rfl, ?hv6_7⟩) hHeld ?rv6_7
   case hv6_7 => (intro w hSw; unfold CR at hSw; obtain ⟨hS1, hS2, hS3, hS4⟩ := hSw; go_simp; first | done | with_reducible rfl)
   try simp only [Act.put, pu2, pu3, pu4]
   refine tk 7 (v := ?vv7_8) (dropAt rfl) (Or.inl ⟨by rfl, ?hv7_8⟩) hHeld ?rv7_8
   case hv7_8 => (intro w hSw; unfold CR at hSw; obtain ⟨hS1, hS2, hS3, hS4⟩ := hSw; go_simp; first | done | with_reducible rfl)
   try simp only [Act.put, pu2, pu3, pu4]
   refine tk 8 (v := ?vv8_9) (dropAt rfl) (Or.inl ⟨by rfl, ?hv8_9⟩) hHeld ?rv8_9
   case hv8_9 => (intro w hSw; unfold CR at hSw; obtain ⟨hS1, hS2, hS3, hS4⟩ := hSw; go_simp; first | done | with_reducible rfl)
   try simp only [Act.put, pu2, pu3, pu4]
   refine tk 9 (v := ?vv9_10) (dropAt rfl) (Or.inl ⟨by rfl, ?hv9_10⟩) hHeld ?rv9_10
   case hv9_10 => (intro w hSw; unfold CR at hSw; obtain ⟨hS1, hS2, hS3, hS4⟩ := hSw; go_simp; first | done | with_reducible rfl)
   try simp only [Act.put, pu2, pu3, pu4]
   refine tk 10 (v := ?vv10_11) (dropAt rfl) (Or.inl ⟨by rfl, ?hv10_11⟩) hHeld ?rv10_11
   case hv10_11 => (intro w hSw; unfold CR at hSw; obtain ⟨hS1, hS2, hS3, hS4⟩ := hSw; go_simp; first | done | with_reducible rfl)
   try simp only [Act.put, pu2, pu3, pu4]
   refine wpAnyH_ready (rs := [11]) (by kernel_rfl) (by simp) ?_
   refine AllReadyH.cons (o := _) (dropAt (r := _) rfl) (fun K hK => ?_) AllReadyH.nil
   go_simp
   refine HPS.out.mono ?_
   rintro e w6 ⟨rfl, hR, hG6⟩
   have hCR5 : CR R c s.now w6 := hR.cr rfl
   refine hK.out _ _ hCR5 (fun hHeld4 => ?_)
   clear hK K
   try simp only [Act.put, pu2, pu3, pu4]
   refine wpAnyH_done (by kernel_rfl) ?_ _
   have hb8 := hG6.kept_blk HB8D.out
   have hG := HG5D.out.trans (hG6.mono (fun _ _ x => x.1))
   clear HPS HB8D HG5D hG6 hHeld hHeld4 hCR5 hCRd
   have hblk := hG.kept_blk HR0.out
   have HB3 := Lib.hid hblk
   have y0 := blk_cell hblk 0
   have y1 := blk_cell hblk 1
   have y2 := blk_cell hblk 2
   have v0 := blk_free hblk 0
   have v1 := blk_free hblk 1
   have v2 := blk_free hblk 2
   have x0 := blk_cell hb8 0
   have x1 := blk_cell hb8 1
   have x2 := blk_cell hb8 2
   simp only [List.getElem?_toArray, List.getElem?_cons_succ, List.getElem?_cons_zero] at y0 y1 y2 x0 x1 x2
   have HF := Lib.hid ((hR.widen (fun _ x => x.1)).finish hG HBG.out HSR.out 7 0 0)
   clear hblk hR hG hb8
   go_wp2
   have hfin := blk_set (blk_set (blk_set HB3.out 0 (I64 7)) 1 (I64 0)) 2 (I64 0)
   have z0 := blk_cell hfin 0
   have z1 := blk_cell hfin 1
   have z2 := blk_cell hfin 2
   simp only [List.setIfInBounds_toArray, List.set_cons_zero, List.set_cons_succ, List.getElem?_toArray, List.getElem?_cons_succ, List.getElem?_cons_zero] at z0 z1 z2
   clear hfin
   refine bodyPost_ret (v := .agg #[I64 7, I64 0, I64 0]) (by rw [results_cell_oneN rfl]; go_simp) rfl ?_
   simp only [hy, agg3, Bool.not_false, Bool.not_true, if_true, Bool.false_eq_true, if_false]
   exact ⟨trivial, HF.out⟩
  | false =>
   cases hs : s.shut with
   | true =>
    rw [hs] at k1
    go_wp2
    obtain ⟨X, hX⟩ : ∃ X, X = w4.heap.size := ⟨_, rfl⟩
    have hR8 := HR8.out
    have hb8 := HB8.out
    rw [← hX] at hR8 hb8 HSX
    simp only [← hX]
    obtain ⟨w5, hw5⟩ : ∃ x, x = w4.alloc (.cells #[I64 7, I64 0, I64 0] 31) := ⟨_, rfl⟩
    rw [← hw5] at hR8 hb8 k8 k1
    have hG5 := HG8.out
    rw [← hw5] at hG5
    simp only [← hw5]
    clear HR8 HB8 HG8 hw5 hX
    have hR8d := hR8.below (Below.refl _ _).drew
    have hG5d := hG5.trans (.of_below (S := fun i => S i ∧ i ≠ r) (Below.refl w5.heap.size w5).drew)
    have hb8d : w5.drew.heap[X]? = some (.cells #[I64 7, I64 0, I64 0] 31 (0, 0)) := hb8
    have hCRd : CR R c s.now w5.drew := hR8d.cr rfl
    obtain ⟨ev5, pvs5, hv5⟩ := hR8d
    have hps := effect_any _ R c _ es W _ ev5 pvs5 11 c.backend 0 c.conn w5.drew hv5 (by omega)
    have HPS := Lib.hid hps
    have HB8D := Lib.hid hb8d
    have HG5D := Lib.hid hG5d
    clear hps hv5 hb8 hG5 hG5d hb8d hR8 k8 k1
    refine wp_region_held_drew (S := CR R c s.now) (by kernel_rfl) hCRd (fun hHeld => ?_)
    refine tk 0 (v := ?vv0_12) (dropAt rfl) (Or.inl ⟨by rfl, ?hv0_12⟩) hHeld ?rv0_12
    case hv0_12 => (intro w hSw; unfold CR at hSw; obtain ⟨hS1, hS2, hS3, hS4⟩ := hSw; go_simp; first | done | with_reducible rfl)
    try simp only [Act.put, pu2, pu3, pu4]
    refine tk 1 (v := ?vv1_13) (dropAt rfl) (Or.inl ⟨by rfl, ?hv1_13⟩) hHeld ?rv1_13
    case hv1_13 => (intro w hSw; unfold CR at hSw; obtain ⟨hS1, hS2, hS3, hS4⟩ := hSw; go_simp; first | done | with_reducible rfl)
    try simp only [Act.put, pu2, pu3, pu4]
    refine tk 2 (v := ?vv2_14) (dropAt rfl) (Or.inl ⟨by rfl, ?hv2_14⟩) hHeld ?rv2_14
    case hv2_14 => (intro w hSw; unfold CR at hSw; obtain ⟨hS1, hS2, hS3, hS4⟩ := hSw; go_simp; first | done | with_reducible rfl)
    try simp only [Act.put, pu2, pu3, pu4]
    refine tk 3 (v := ?vv3_15) (dropAt rfl) (Or.inl ⟨by rfl, ?hv3_15⟩) hHeld ?rv3_15
    case hv3_15 => (intro w hSw; unfold CR at hSw; obtain ⟨hS1, hS2, hS3, hS4⟩ := hSw; go_simp; first | done | with_reducible rfl)
    try simp only [Act.put, pu2, pu3, pu4]
    refine tk 4 (v := ?vv4_16) (dropAt rfl) (Or.inl ⟨by rfl, ?hv4_16⟩) hHeld ?rv4_16
    case hv4_16 => (intro w hSw; unfold CR at hSw; obtain ⟨hS1, hS2, hS3, hS4⟩ := hSw; go_simp; first | done | with_reducible rfl)
    try simp only [Act.put, pu2, pu3, pu4]
    refine tk 5 (v := ?vv5_17) (dropAt rfl) (Or.inl ⟨by rfl, ?hv5_17⟩) hHeld ?rv5_17
    case hv5_17 => (intro w hSw; unfold CR at hSw; obtain ⟨hS1, hS2, hS3, hS4⟩ := hSw; go_simp; first | done | with_reducible rfl)
    try simp only [Act.put, pu2, pu3, pu4]
    refine tk 6 (v := ?vv6_18) (dropAt rfl) (Or.inl ⟨by rfl, ?hv6_18⟩) hHeld ?rv6_18
    case hv6_18 => (intro w hSw; unfold CR at hSw; obtain ⟨hS1, hS2, hS3, hS4⟩ := hSw; go_simp; first | done | with_reducible rfl)
    try simp only [Act.put, pu2, pu3, pu4]
    refine tk 7 (v := ?vv7_19) (dropAt rfl) (Or.inl ⟨by rfl, ?hv7_19⟩) hHeld ?rv7_19
    case hv7_19 => (intro w hSw; unfold CR at hSw; obtain ⟨hS1, hS2, hS3, hS4⟩ := hSw; go_simp; first | done | with_reducible rfl)
    try simp only [Act.put, pu2, pu3, pu4]
    refine tk 8 (v := ?vv8_20) (dropAt rfl) (Or.inl ⟨by rfl, ?hv8_20⟩) hHeld ?rv8_20
    case hv8_20 => (intro w hSw; unfold CR at hSw; obtain ⟨hS1, hS2, hS3, hS4⟩ := hSw; go_simp; first | done | with_reducible rfl)
    try simp only [Act.put, pu2, pu3, pu4]
    refine tk 9 (v := ?vv9_21) (dropAt rfl) (Or.inl ⟨by rfl, ?hv9_21⟩) hHeld ?rv9_21
    case hv9_21 => (intro w hSw; unfold CR at hSw; obtain ⟨hS1, hS2, hS3, hS4⟩ := hSw; go_simp; first | done | with_reducible rfl)
    try simp only [Act.put, pu2, pu3, pu4]
    refine tk 10 (v := ?vv10_22) (dropAt rfl) (Or.inl ⟨by rfl, ?hv10_22⟩) hHeld ?rv10_22
    case hv10_22 => (intro w hSw; unfold CR at hSw; obtain ⟨hS1, hS2, hS3, hS4⟩ := hSw; go_simp; first | done | with_reducible rfl)
    try simp only [Act.put, pu2, pu3, pu4]
    refine wpAnyH_ready (rs := [11]) (by kernel_rfl) (by simp) ?_
    refine AllReadyH.cons (o := _) (dropAt (r := _) rfl) (fun K hK => ?_) AllReadyH.nil
    go_simp
    refine HPS.out.mono ?_
    rintro e w6 ⟨rfl, ⟨ev6, hv6⟩, hG6⟩
    have hR6 : RunE (fun i => (S i ∧ i ≠ r) ∧ i ≠ X) R c (setP s b (undialP s.pools[b] k)) (es ++ [(11, c.backend, 0, c.conn)]) W G n cap w6 := ⟨ev6, pvs5, hv6⟩
    have hCR5 : CR R c s.now w6 := hR6.cr rfl
    refine hK.out _ _ hCR5 (fun hHeld4 => ?_)
    clear hK K
    try simp only [Act.put, pu2, pu3, pu4]
    refine wpAnyH_done (by kernel_rfl) ?_ _
    have HB6 := Lib.hid (hG6.kept_blk HB8D.out)
    have HGG : Hid (Gb (fun i => S i ∧ i ≠ r) w0 w6) := HG5D.out.trans (hG6.mono (fun _ _ x => x.1))
    have HRR := Lib.hid (hR6.impW (W' := fun j => W j ∧ j ≠ b) (fun _ x => x.1))
    clear HPS HB8D HG5D hG6 hHeld hHeld4 hCR5 hCRd hR6 hv6
    go_wp2_with fail
    refine (is_any 6 _).mono ?_
    rintro e w7 ⟨rfl, hb7⟩
    have hl6 := (Array.getElem?_eq_some_iff.1 HB6.out).1
    have hb7x := (hb7.block X hl6).trans HB6.out
    have x0 := blk_cell hb7x 0
    have x1 := blk_cell hb7x 1
    have x2 := blk_cell hb7x 2
    have u0 := blk_free hb7x 0
    have u1 := blk_free hb7x 1
    have u2 := blk_free hb7x 2
    simp only [List.getElem?_toArray, List.getElem?_cons_succ, List.getElem?_cons_zero] at x0 x1 x2
    have hR := (((HRR.out.below hb7).setOther (setCell_grown _ ⟨X, 0, none⟩ (I64 6))).setOther (setCell_grown _ ⟨X, 1, none⟩ (I64 0))).setOther (setCell_grown _ ⟨X, 2, none⟩ (I64 0))
    have hSX : S X ∧ X ≠ r := HSX.out
    have hG : Gb (fun i => S i ∧ i ≠ r) w0 (((w7.setCell ⟨X, 0, none⟩ (I64 6)).setCell ⟨X, 1, none⟩ (I64 0)).setCell ⟨X, 2, none⟩ (I64 0)) := (((HGG.out.trans (.of_below hb7)).setCell (x := ⟨X, 0, none⟩) hSX _).setCell (x := ⟨X, 1, none⟩) hSX _).setCell (x := ⟨X, 2, none⟩) hSX _
    have hb8 : (((w7.setCell ⟨X, 0, none⟩ (I64 6)).setCell ⟨X, 1, none⟩ (I64 0)).setCell ⟨X, 2, none⟩ (I64 0)).heap[X]? = some (.cells #[I64 6, I64 0, I64 0] 31 (0, 0)) := blk_set (blk_set (blk_set hb7x 0 (I64 6)) 1 (I64 0)) 2 (I64 0)
    clear HRR HGG HB6 hb7x
    have hblk := hG.kept_blk HR0.out
    have HB3 := Lib.hid hblk
    have y0 := blk_cell hblk 0
    have y1 := blk_cell hblk 1
    have y2 := blk_cell hblk 2
    have v0 := blk_free hblk 0
    have v1 := blk_free hblk 1
    have v2 := blk_free hblk 2
    have x0 := blk_cell hb8 0
    have x1 := blk_cell hb8 1
    have x2 := blk_cell hb8 2
    simp only [List.getElem?_toArray, List.getElem?_cons_succ, List.getElem?_cons_zero] at y0 y1 y2 x0 x1 x2
    have HF := Lib.hid ((hR.widen (fun _ x => x.1)).finish hG HBG.out HSR.out 6 0 0)
    clear hblk hR hG hb8
    go_wp2
    have hfin := blk_set (blk_set (blk_set HB3.out 0 (I64 6)) 1 (I64 0)) 2 (I64 0)
    have z0 := blk_cell hfin 0
    have z1 := blk_cell hfin 1
    have z2 := blk_cell hfin 2
    simp only [List.setIfInBounds_toArray, List.set_cons_zero, List.set_cons_succ, List.getElem?_toArray, List.getElem?_cons_succ, List.getElem?_cons_zero] at z0 z1 z2
    clear hfin
    refine bodyPost_ret (v := .agg #[I64 6, I64 0, I64 0]) (by rw [results_cell_oneN rfl]; go_simp) rfl ?_
    simp only [hy, agg3, Bool.not_false, Bool.not_true, if_true, Bool.false_eq_true, if_false]
    exact ⟨trivial, HF.out⟩
   | false =>
    rw [hs] at k1
    go_wp2
    obtain ⟨X, hX⟩ : ∃ X, X = w4.heap.size := ⟨_, rfl⟩
    have hR8 := HR8.out
    have hb8 := HB8.out
    rw [← hX] at hR8 hb8 HSX
    simp only [← hX]
    obtain ⟨w5, hw5⟩ : ∃ x, x = w4.alloc (.cells #[I64 7, I64 0, I64 0] 31) := ⟨_, rfl⟩
    rw [← hw5] at hR8 hb8 k8 k1
    have hG5 := HG8.out
    rw [← hw5] at hG5
    simp only [← hw5]
    clear HR8 HB8 HG8 hw5 hX
    have hR8d := hR8.below (Below.refl _ _).drew
    have hG5d := hG5.trans (.of_below (S := fun i => S i ∧ i ≠ r) (Below.refl w5.heap.size w5).drew)
    have hb8d : w5.drew.heap[X]? = some (.cells #[I64 7, I64 0, I64 0] 31 (0, 0)) := hb8
    have hCRd : CR R c s.now w5.drew := hR8d.cr rfl
    obtain ⟨ev5, pvs5, hv5⟩ := hR8d
    have hps := lease_any _ R G n cap b c _ es W ev5 pvs5 (c.call, c.conn, s.now) w5.drew hv5 HB.out HCON.out.1.2 HCON.out.1.1 (by rw [setP_get]; exact HFIT.out.ls) (by rw [setP_get]; exact HFIT.out.ll)
    rw [setP_get, setP_set] at hps
    unfold valLease at hps
    dsimp only at hps
    have HPS := Lib.hid hps
    have HB8D := Lib.hid hb8d
    have HG5D := Lib.hid hG5d
    clear hps hv5 hb8 hG5 hG5d hb8d hR8 k8 k1
    refine wp_region_held_drew (S := CR R c s.now) (by kernel_rfl) hCRd (fun hHeld => ?_)
    refine tk 0 (v := ?vv0_23) (dropAt rfl) (Or.inl ⟨by rfl, ?hv0_23⟩) hHeld ?rv0_23
    case hv0_23 => (intro w hSw; unfold CR at hSw; obtain ⟨hS1, hS2, hS3, hS4⟩ := hSw; go_simp; first | done | with_reducible rfl)
    try simp only [Act.put, pu2, pu3, pu4]
    refine tk 1 (v := ?vv1_24) (dropAt rfl) (Or.inl ⟨by rfl, ?hv1_24⟩) hHeld ?rv1_24
    case hv1_24 => (intro w hSw; unfold CR at hSw; obtain ⟨hS1, hS2, hS3, hS4⟩ := hSw; go_simp; first | done | with_reducible rfl)
    try simp only [Act.put, pu2, pu3, pu4]
    refine tk 2 (v := ?vv2_25) (dropAt rfl) (Or.inl ⟨by rfl, ?hv2_25⟩) hHeld ?rv2_25
    case hv2_25 => (intro w hSw; unfold CR at hSw; obtain ⟨hS1, hS2, hS3, hS4⟩ := hSw; go_simp; first | done | with_reducible rfl)
    try simp only [Act.put, pu2, pu3, pu4]
    refine tk 3 (v := ?vv3_26) (dropAt rfl) (Or.inl ⟨by rfl, ?hv3_26⟩) hHeld ?rv3_26
    case hv3_26 => (intro w hSw; unfold CR at hSw; obtain ⟨hS1, hS2, hS3, hS4⟩ := hSw; go_simp; first | done | with_reducible rfl)
    try simp only [Act.put, pu2, pu3, pu4]
    refine tk 4 (v := ?vv4_27) (dropAt rfl) (Or.inl ⟨by rfl, ?hv4_27⟩) hHeld ?rv4_27
    case hv4_27 => (intro w hSw; unfold CR at hSw; obtain ⟨hS1, hS2, hS3, hS4⟩ := hSw; go_simp; first | done | with_reducible rfl)
    try simp only [Act.put, pu2, pu3, pu4]
    refine tk 5 (v := ?vv5_28) (dropAt rfl) (Or.inl ⟨by rfl, ?hv5_28⟩) hHeld ?rv5_28
    case hv5_28 => (intro w hSw; unfold CR at hSw; obtain ⟨hS1, hS2, hS3, hS4⟩ := hSw; go_simp; first | done | with_reducible rfl)
    try simp only [Act.put, pu2, pu3, pu4]
    refine tk 6 (v := ?vv6_29) (dropAt rfl) (Or.inl ⟨by rfl, ?hv6_29⟩) hHeld ?rv6_29
    case hv6_29 => (intro w hSw; unfold CR at hSw; obtain ⟨hS1, hS2, hS3, hS4⟩ := hSw; go_simp; first | done | with_reducible rfl)
    try simp only [Act.put, pu2, pu3, pu4]
    refine tk 7 (v := ?vv7_30) (dropAt rfl) (Or.inl ⟨by rfl, ?hv7_30⟩) hHeld ?rv7_30
    case hv7_30 => (intro w hSw; unfold CR at hSw; obtain ⟨hS1, hS2, hS3, hS4⟩ := hSw; go_simp; first | done | with_reducible rfl)
    try simp only [Act.put, pu2, pu3, pu4]
    refine tk 8 (v := ?vv8_31) (dropAt rfl) (Or.inl ⟨by rfl, ?hv8_31⟩) hHeld ?rv8_31
    case hv8_31 => (intro w hSw; unfold CR at hSw; obtain ⟨hS1, hS2, hS3, hS4⟩ := hSw; go_simp; first | done | with_reducible rfl)
    try simp only [Act.put, pu2, pu3, pu4]
    refine tk 9 (v := ?vv9_32) (dropAt rfl) (Or.inl ⟨by rfl, ?hv9_32⟩) hHeld ?rv9_32
    case hv9_32 => (intro w hSw; unfold CR at hSw; obtain ⟨hS1, hS2, hS3, hS4⟩ := hSw; go_simp; first | done | with_reducible rfl)
    try simp only [Act.put, pu2, pu3, pu4]
    refine tk 10 (v := ?vv10_33) (dropAt rfl) (Or.inl ⟨by rfl, ?hv10_33⟩) hHeld ?rv10_33
    case hv10_33 => (intro w hSw; unfold CR at hSw; obtain ⟨hS1, hS2, hS3, hS4⟩ := hSw; go_simp; first | done | with_reducible rfl)
    try simp only [Act.put, pu2, pu3, pu4]
    refine tk 11 (v := ?vv11_34) (dropAt rfl) (Or.inl ⟨by rfl, ?hv11_34⟩) hHeld ?rv11_34
    case hv11_34 => (intro w hSw; unfold CR at hSw; obtain ⟨hS1, hS2, hS3, hS4⟩ := hSw; go_simp; first | done | with_reducible rfl)
    try simp only [Act.put, pu2, pu3, pu4]
    refine tk 12 (v := ?vv12_35) (dropAt rfl) (Or.inl ⟨by rfl, ?hv12_35⟩) hHeld ?rv12_35
    case hv12_35 => (intro w hSw; unfold CR at hSw; obtain ⟨hS1, hS2, hS3, hS4⟩ := hSw; go_simp; first | done | with_reducible rfl)
    try simp only [Act.put, pu2, pu3, pu4]
    refine tk 13 (v := ?vv13_36) (dropAt rfl) (Or.inl ⟨by rfl, ?hv13_36⟩) hHeld ?rv13_36
    case hv13_36 => (intro w hSw; unfold CR at hSw; obtain ⟨hS1, hS2, hS3, hS4⟩ := hSw; go_simp; first | done | with_reducible rfl)
    try simp only [Act.put, pu2, pu3, pu4]
    refine tk 14 (v := ?vv14_37) (dropAt rfl) (Or.inl ⟨by rfl, ?hv14_37⟩) hHeld ?rv14_37
    case hv14_37 => (intro w hSw; unfold CR at hSw; obtain ⟨hS1, hS2, hS3, hS4⟩ := hSw; go_simp; first | done | with_reducible rfl)
    try simp only [Act.put, pu2, pu3, pu4]
    refine tk 15 (v := ?vv15_38) (dropAt rfl) (Or.inl ⟨by rfl, ?hv15_38⟩) hHeld ?rv15_38
    case hv15_38 => (intro w hSw; unfold CR at hSw; obtain ⟨hS1, hS2, hS3, hS4⟩ := hSw; go_simp; first | done | with_reducible rfl)
    try simp only [Act.put, pu2, pu3, pu4]
    refine tk 16 (v := ?vv16_39) (dropAt rfl) (Or.inl ⟨by rfl, ?hv16_39⟩) hHeld ?rv16_39
    case hv16_39 => (intro w hSw; unfold CR at hSw; obtain ⟨hS1, hS2, hS3, hS4⟩ := hSw; go_simp; first | done | with_reducible rfl)
    try simp only [Act.put, pu2, pu3, pu4]
    refine wpAnyH_ready (rs := [17]) (by kernel_rfl) (by simp) ?_
    refine AllReadyH.cons (o := _) (dropAt (r := _) rfl) (fun K hK => ?_) AllReadyH.nil
    go_simp
    refine HPS.out.mono ?_
    rintro e w7 ⟨rfl, ⟨pvs6, hv6⟩, hG6⟩
    have hR6 : RunE (fun i => (S i ∧ i ≠ r) ∧ i ≠ X) R c _ es W G n cap w7 := ⟨_, pvs6, hv6⟩
    have hCR5 : CR R c s.now w7 := hR6.cr rfl
    refine hK.out _ _ hCR5 (fun hHeld4 => ?_)
    clear hK K
    try simp only [Act.put, pu2, pu3, pu4]
    refine wpAnyH_done (by kernel_rfl) ?_ _
    have HB6 := Lib.hid (hG6.kept_blk HB8D.out)
    have HGG : Hid (Gb (fun i => S i ∧ i ≠ r) w0 w7) := HG5D.out.trans (hG6.mono (fun _ _ x => x.1))
    have HRR := hR6.impW (W' := fun j => W j ∧ j ≠ b) (fun _ x => x.1)
    replace HRR := Lib.hid HRR
    have k6 := hCR5.2.2.2
    have hb7 : Below w7.heap.size w7 w7 := Below.refl _ _
    clear HPS HB8D HG5D hG6 hHeld hHeld4 hCR5 hCRd hR6 hv6
    have hl6 := (Array.getElem?_eq_some_iff.1 HB6.out).1
    have hb7x := (hb7.block X hl6).trans HB6.out
    have x0 := blk_cell hb7x 0
    have x1 := blk_cell hb7x 1
    have x2 := blk_cell hb7x 2
    have u0 := blk_free hb7x 0
    have u1 := blk_free hb7x 1
    have u2 := blk_free hb7x 2
    simp only [List.getElem?_toArray, List.getElem?_cons_succ, List.getElem?_cons_zero] at x0 x1 x2
    have hR := (((HRR.out.below hb7).setOther (setCell_grown _ ⟨X, 0, none⟩ (I64 1))).setOther (setCell_grown _ ⟨X, 1, none⟩ (I64 0))).setOther (setCell_grown _ ⟨X, 2, none⟩ (I64 c.conn))
    have hSX : S X ∧ X ≠ r := HSX.out
    have hG : Gb (fun i => S i ∧ i ≠ r) w0 (((w7.setCell ⟨X, 0, none⟩ (I64 1)).setCell ⟨X, 1, none⟩ (I64 0)).setCell ⟨X, 2, none⟩ (I64 c.conn)) := (((HGG.out.trans (.of_below hb7)).setCell (x := ⟨X, 0, none⟩) hSX _).setCell (x := ⟨X, 1, none⟩) hSX _).setCell (x := ⟨X, 2, none⟩) hSX _
    have hb8 : (((w7.setCell ⟨X, 0, none⟩ (I64 1)).setCell ⟨X, 1, none⟩ (I64 0)).setCell ⟨X, 2, none⟩ (I64 c.conn)).heap[X]? = some (.cells #[I64 1, I64 0, I64 c.conn] 31 (0, 0)) := blk_set (blk_set (blk_set hb7x 0 (I64 1)) 1 (I64 0)) 2 (I64 c.conn)
    clear HRR HGG HB6 hb7x
    have hblk := hG.kept_blk HR0.out
    have HB3 := Lib.hid hblk
    have y0 := blk_cell hblk 0
    have y1 := blk_cell hblk 1
    have y2 := blk_cell hblk 2
    have v0 := blk_free hblk 0
    have v1 := blk_free hblk 1
    have v2 := blk_free hblk 2
    have x0 := blk_cell hb8 0
    have x1 := blk_cell hb8 1
    have x2 := blk_cell hb8 2
    simp only [List.getElem?_toArray, List.getElem?_cons_succ, List.getElem?_cons_zero] at y0 y1 y2 x0 x1 x2
    have HF := Lib.hid ((hR.widen (fun _ x => x.1)).finish hG HBG.out HSR.out 1 0 c.conn)
    clear hblk hR hG hb8
    go_wp2
    have hfin := blk_set (blk_set (blk_set HB3.out 0 (I64 1)) 1 (I64 0)) 2 (I64 c.conn)
    have z0 := blk_cell hfin 0
    have z1 := blk_cell hfin 1
    have z2 := blk_cell hfin 2
    simp only [List.setIfInBounds_toArray, List.set_cons_zero, List.set_cons_succ, List.getElem?_toArray, List.getElem?_cons_succ, List.getElem?_cons_zero] at z0 z1 z2
    clear hfin
    refine bodyPost_ret (v := .agg #[I64 1, I64 0, I64 c.conn]) (by rw [results_cell_oneN rfl]; go_simp) rfl ?_
    simp only [hy, agg3, Bool.not_false, Bool.not_true, if_true, Bool.false_eq_true, if_false]
    exact ⟨trivial, HF.out⟩

end Go.Proofs.Ytaicmiadgnpimaa
