/-
  Walks for layer 26 (model): tick, shut.
-/
import Derived.Test.YtaicmiadgnpimaaMw33
namespace Go.Proofs.Ytaicmiadgnpimaa
open Go.RowKit

set_option maxHeartbeats 1000000 in
set_option maxRecDepth 100000 in
theorem tick_any (S : Nat → Prop) (R G n cap : Nat) (c : Md.Call) (s : Md.State) (es : List Md.Effect) (ev : SlV) (pvs : List PoolV) (w : World) (h : RunV S R c s es (fun _ => True) (some ⟨G, 0, none⟩, n, cap) ev pvs w) (hn : n = s.pools.length) (hn2 : n ≤ 100) (hf : ∀ p ∈ s.pools, LeaveFit p) (hel : es.length ≤ 1000) :
 Calls Try.prog 53 #[.pointer (some ⟨R, 0, none⟩)] w fun e w' => e = .returned (.agg #[I64 7, I64 0, I64 0]) ∧ RunE S R c (Md.leave 5 { s with now := c.time }).1 (es ++ (Md.leave 5 { s with now := c.time }).2) (fun _ => True) G n cap w' ∧ Gb S w w' := by
 have h0 := h.begin (.cells #[I64 0, I64 0, I64 0] 31)
 have hr0 := blk_new w (.cells #[I64 0, I64 0, I64 0] 31)
 have HBG : Hid (∀ w', Gb (fun k => S k ∧ k ≠ w.heap.size) (w.alloc (.cells #[I64 0, I64 0, I64 0] 31)) w' → Gb S w w') := fun w' hg => Gb.begin hg
 obtain ⟨r, hr⟩ : ∃ r, r = w.heap.size := ⟨_, rfl⟩
 obtain ⟨w0, hw0⟩ : ∃ w0, w0 = w.alloc (.cells #[I64 0, I64 0, I64 0] 31) := ⟨_, rfl⟩
 rw [← hr] at h0 HBG hr0
 rw [← hw0] at h0 HBG hr0
 have HSR : Hid (S r) := by rw [hr]; exact h.fresh _ (Nat.le_refl _)
 have HR0 := Lib.hid hr0
 have hrc := runCells_of h0.blk
 have ht := h0.setR (s' := { s with now := c.time }) (i := 0) (v := I64 c.time) rfl rfl
 have hSR : S R ∧ R ≠ r := h0.sub R (by simp [owns])
 have HL := Lib.hid (leave_any (fun k => S k ∧ k ≠ r) R G n cap 5 c { s with now := c.time } es ev pvs _ ht hn hn2 hf hel)
 have HGS : Hid (Gb (fun k => S k ∧ k ≠ r) w0 (w0.setCell ⟨R, 0, none⟩ (I64 c.time))) := (Gb.refl _ w0).setCell (x := ⟨R, 0, none⟩) hSR _
 have k7 := hrc.c7
 have k0 := hrc.c0
 have f0 := hrc.fr 0
 have hRr : R ≠ r := hSR.2
 rw [hw0] at k7 k0 f0
 clear h0 h hrc ht hSR hr0 hn hf
 go_enter Try.func53, Try.ntmps53
 go_wp2_with fail
 simp only [← hw0, ← hr]
 clear hw0 hr k7 k0 f0
 refine HL.out.mono ?_
 rintro e w3 ⟨rfl, hR, hG⟩
 have hG3 := HGS.out.trans hG
 have hblk := hG3.kept_blk HR0.out
 have HB3 := Lib.hid hblk
 have y0 := blk_cell hblk 0
 have y1 := blk_cell hblk 1
 have y2 := blk_cell hblk 2
 have v0 := blk_free hblk 0
 have v1 := blk_free hblk 1
 have v2 := blk_free hblk 2
 simp only [List.getElem?_toArray, List.getElem?_cons_succ, List.getElem?_cons_zero] at y0 y1 y2
 have HF := Lib.hid (hR.finish hG3 HBG.out HSR.out 7 0 0)
 clear hblk hG3 hR hG
 go_wp2
 have hfin := blk_set (blk_set (blk_set HB3.out 0 (I64 7)) 1 (I64 0)) 2 (I64 0)
 have z0 := blk_cell hfin 0
 have z1 := blk_cell hfin 1
 have z2 := blk_cell hfin 2
 simp only [List.setIfInBounds_toArray, List.set_cons_zero, List.set_cons_succ, List.getElem?_toArray, List.getElem?_cons_succ, List.getElem?_cons_zero] at z0 z1 z2
 clear hfin
 refine bodyPost_ret (v := .agg #[I64 7, I64 0, I64 0]) (by rw [results_cell_oneN rfl]; go_simp) rfl ?_
 exact ⟨rfl, HF.out⟩
set_option maxHeartbeats 1000000 in
set_option maxRecDepth 100000 in
theorem shut_any (S : Nat → Prop) (R G n cap : Nat) (c : Md.Call) (s : Md.State) (es : List Md.Effect) (ev : SlV) (pvs : List PoolV) (w : World) (h : RunV S R c s es (fun _ => True) (some ⟨G, 0, none⟩, n, cap) ev pvs w) (hn : n = s.pools.length) (hn2 : n ≤ 100) (hf : ∀ p ∈ s.pools, LeaveFit p) (hel : es.length ≤ 1000) :
 Calls Try.prog 55 #[.pointer (some ⟨R, 0, none⟩)] w fun e w' => e = .returned (.agg #[I64 7, I64 0, I64 0]) ∧ RunE S R c (Md.leave 6 { s with shut := true }).1 (es ++ (Md.leave 6 { s with shut := true }).2) (fun _ => True) G n cap w' ∧ Gb S w w' := by
 have h0 := h.begin (.cells #[I64 0, I64 0, I64 0] 31)
 have hr0 := blk_new w (.cells #[I64 0, I64 0, I64 0] 31)
 have HBG : Hid (∀ w', Gb (fun k => S k ∧ k ≠ w.heap.size) (w.alloc (.cells #[I64 0, I64 0, I64 0] 31)) w' → Gb S w w') := fun w' hg => Gb.begin hg
 obtain ⟨r, hr⟩ : ∃ r, r = w.heap.size := ⟨_, rfl⟩
 obtain ⟨w0, hw0⟩ : ∃ w0, w0 = w.alloc (.cells #[I64 0, I64 0, I64 0] 31) := ⟨_, rfl⟩
 rw [← hr] at h0 HBG hr0
 rw [← hw0] at h0 HBG hr0
 have HSR : Hid (S r) := by rw [hr]; exact h.fresh _ (Nat.le_refl _)
 have HR0 := Lib.hid hr0
 have hrc := runCells_of h0.blk
 have ht := h0.setR (s' := { s with shut := true }) (i := 1) (v := .bool true) rfl rfl
 have hSR : S R ∧ R ≠ r := h0.sub R (by simp [owns])
 have HL := Lib.hid (leave_any (fun k => S k ∧ k ≠ r) R G n cap 6 c { s with shut := true } es ev pvs _ ht hn hn2 hf hel)
 have HGS : Hid (Gb (fun k => S k ∧ k ≠ r) w0 (w0.setCell ⟨R, 1, none⟩ (.bool true))) := (Gb.refl _ w0).setCell (x := ⟨R, 1, none⟩) hSR _
 have k7 := hrc.c7
 have k0 := hrc.c1
 have f0 := hrc.fr 1
 have hRr : R ≠ r := hSR.2
 rw [hw0] at k7 k0 f0
 clear h0 h hrc ht hSR hr0 hn hf
 go_enter Try.func55, Try.ntmps55
 go_wp2_with fail
 simp only [← hw0, ← hr]
 clear hw0 hr k7 k0 f0
 refine HL.out.mono ?_
 rintro e w3 ⟨rfl, hR, hG⟩
 have hG3 := HGS.out.trans hG
 have hblk := hG3.kept_blk HR0.out
 have HB3 := Lib.hid hblk
 have y0 := blk_cell hblk 0
 have y1 := blk_cell hblk 1
 have y2 := blk_cell hblk 2
 have v0 := blk_free hblk 0
 have v1 := blk_free hblk 1
 have v2 := blk_free hblk 2
 simp only [List.getElem?_toArray, List.getElem?_cons_succ, List.getElem?_cons_zero] at y0 y1 y2
 have HF := Lib.hid (hR.finish hG3 HBG.out HSR.out 7 0 0)
 clear hblk hG3 hR hG
 go_wp2
 have hfin := blk_set (blk_set (blk_set HB3.out 0 (I64 7)) 1 (I64 0)) 2 (I64 0)
 have z0 := blk_cell hfin 0
 have z1 := blk_cell hfin 1
 have z2 := blk_cell hfin 2
 simp only [List.setIfInBounds_toArray, List.set_cons_zero, List.set_cons_succ, List.getElem?_toArray, List.getElem?_cons_succ, List.getElem?_cons_zero] at z0 z1 z2
 clear hfin
 refine bodyPost_ret (v := .agg #[I64 7, I64 0, I64 0]) (by rw [results_cell_oneN rfl]; go_simp) rfl ?_
 exact ⟨rfl, HF.out⟩
end Go.Proofs.Ytaicmiadgnpimaa
namespace Go.Proofs.Ytaicmiadgnpimaa
open Go.RowKit

def C6 (X R : Nat) (u v : Int) (y : Bool) (w : World) : Prop := w.cell? ⟨X, 1, none⟩ = some (I64 u) ∧ w.cell? ⟨X, 2, none⟩ = some (I64 v) ∧ w.cell? ⟨R, 8, none⟩ = some (.bool y)
theorem RunE.c8 {S : Nat → Prop} {R : Nat} {c : Md.Call} {s : Md.State} {es : List Md.Effect} {W : Nat → Prop} {G n cap : Nat} {w : World} (h : RunE S R c s es W G n cap w) : w.cell? ⟨R, 8, none⟩ = some (.bool c.yes) := by
 obtain ⟨ev, pvs, h⟩ := h
 exact (runCells_of h.blk).c8
set_option maxHeartbeats 2000000 in
set_option maxRecDepth 100000 in
set_option linter.unusedSimpArgs false in
theorem free_any (S : Nat → Prop) (R G n cap b : Nat) (c : Md.Call) (s : Md.State) (es : List Md.Effect) (W : Nat → Prop) (ev : SlV) (pvs : List PoolV) (w : World) (h : RunV S R c s es W (some ⟨G, 0, none⟩, n, cap) ev pvs w) (hb : c.backend = (b : Int)) (hn : n = s.pools.length) (hbn : b < s.pools.length) (hf : PoolFit s.pools[b])
 (hx : Md.hasLease s.pools[b] c.call = true) (hnr : ∀ x ∈ s.pools[b].leases, Near x.2.2) (hel : es.length ≤ 1000) :
 Calls Try.prog 49 #[.pointer (some ⟨R, 0, none⟩)] w fun e w' => e = .returned (.agg #[I64 7, I64 0, I64 0]) ∧ RunE S R c (setP s b (Md.free s.shut s.now s.pools[b] c).1) (es ++ (Md.free s.shut s.now s.pools[b] c).2) (fun j => W j ∧ j ≠ b) G n cap w' ∧ Gb S w w' := by
 have hbp : b < pvs.length := by rw [h.len]; exact hbn
 have h0 := h.begin (.cells #[I64 0, I64 0, I64 0] 31)
 have hr0 := blk_new w (.cells #[I64 0, I64 0, I64 0] 31)
 have HBG : Hid (∀ w', Gb (fun k => S k ∧ k ≠ w.heap.size) (w.alloc (.cells #[I64 0, I64 0, I64 0] 31)) w' → Gb S w w') := fun w' hg => Gb.begin hg
 obtain ⟨r, hr⟩ : ∃ r, r = w.heap.size := ⟨_, rfl⟩
 obtain ⟨w0, hw0⟩ : ∃ w0, w0 = w.alloc (.cells #[I64 0, I64 0, I64 0] 31) := ⟨_, rfl⟩
 rw [← hr] at h0 HBG hr0
 rw [← hw0] at h0 HBG hr0
 have HSR : Hid (S r) := by rw [hr]; exact h.fresh _ (Nat.le_refl _)
 have HP := Lib.hid (pool_any R G n cap b c s ev w0 (runCells_of h0.blk) hb (by omega))
 have HI : Hid (∀ w1, _) := fun w1 => is_any 7 w1
 have HR0 := Lib.hid hr0
 have HE0 : Hid (∀ w1, Below w0.heap.size w0 w1 → RunE (fun k => S k ∧ k ≠ r) R c s es W G n cap w1) := fun w1 hb1 => ⟨_, _, h0.below hb1⟩
 have hse := h0.seen hbn hf
 have HF : Hid (∀ w1, Below w0.heap.size w0 w1 → Calls Try.prog 66 #[.pointer (some ⟨G, b * 11, none⟩), I64 c.call] w1 fun e w' => e = .returned (.tuple #[I64 (ixI (fun y => y.1 == c.call) s.pools[b].leases), I64 (ixI (fun y => y.1 == c.call) s.pools[b].dials), I64 (ixI (fun y => y.1 == c.call) s.pools[b].waiters)]) ∧ Below w0.heap.size w0 w') := fun w1 hb1 =>
  (find_pool (hse.below hb1) c.call).mono fun e w' q => ⟨q.1, hb1.trans (q.2.mono hb1.size)⟩
 have HC : Hid (∀ w1, Below w0.heap.size w0 w1 → w1.cell? ⟨R, 5, none⟩ = some (I64 c.call)) := fun w1 hb1 => (runCells_of (h0.below hb1).blk).c5
 have p1 := ixI_pos (fun y => y.1 == c.call) s.pools[b].leases
 unfold Md.hasLease at hx
 obtain ⟨k, hk, hk1, hk2, hpk⟩ := p1 hx
 rw [hk2] at HF
 have hfr : Md.free s.shut s.now s.pools[b] c = Md.give s.shut s.now c.backend { s.pools[b] with leases := s.pools[b].leases.eraseIdx k } s.pools[b].leases[k].2.1 s.pools[b].leases[k].2.2 c.yes := by
  unfold Md.free Md.leaseIx
  rw [hk1, List.getElem?_eq_getElem hk]
 rw [hfr]
 have hnx := hnr _ (List.getElem_mem hk)
 obtain ⟨g, lc, hv⟩ := own_form0 (h0.each b hbp hbn).leases (by omega)
 have hlb := hf.ll
 have HD : Hid (∀ w1, Below w0.heap.size w0 w1 → w1.cell? ⟨G, b * 11 + 5, none⟩ = some (.slice (some ⟨g, 0, none⟩) s.pools[b].leases.length lc) ∧ (w1.cell? ⟨g, k * 3, none⟩ = some (I64 s.pools[b].leases[k].1) ∧ w1.cell? ⟨g, k * 3 + 1, none⟩ = some (I64 s.pools[b].leases[k].2.1) ∧ w1.cell? ⟨g, k * 3 + 2, none⟩ = some (I64 s.pools[b].leases[k].2.2)) ∧
  (w1.alloc (.cells #[I64 s.pools[b].leases[k].1, I64 s.pools[b].leases[k].2.1, I64 s.pools[b].leases[k].2.2] 69)).cell? ⟨G, b * 11 + 5, none⟩ = some (.slice (some ⟨g, 0, none⟩) s.pools[b].leases.length lc) ∧
  Calls Try.prog 78 #[.slice (some ⟨g, 0, none⟩) s.pools[b].leases.length lc, I64 k, I64 ((k : Int) + 1)] (w1.alloc (.cells #[I64 s.pools[b].leases[k].1, I64 s.pools[b].leases[k].2.1, I64 s.pools[b].leases[k].2.2] 69)) fun e w' => e = .returned (.slice (some ⟨g, 0, none⟩) (s.pools[b].leases.eraseIdx k).length lc) ∧
   w'.cell? ⟨G, b * 11 + 5, none⟩ = some (.slice (some ⟨g, 0, none⟩) s.pools[b].leases.length lc) ∧ w'.frozen? ⟨G, b * 11 + 5, none⟩ = false ∧ RunE (fun i => (S i ∧ i ≠ r) ∧ i ≠ w1.heap.size) R c (setP s b { s.pools[b] with leases := s.pools[b].leases.eraseIdx k }) es W G n cap (w'.setCell ⟨G, b * 11 + 5, none⟩ (.slice (some ⟨g, 0, none⟩) (s.pools[b].leases.eraseIdx k).length lc)) ∧
    Gb (fun i => (S i ∧ i ≠ r) ∧ i ≠ w1.heap.size) (w1.alloc (.cells #[I64 s.pools[b].leases[k].1, I64 s.pools[b].leases[k].2.1, I64 s.pools[b].leases[k].2.2] 69)) (w'.setCell ⟨G, b * 11 + 5, none⟩ (.slice (some ⟨g, 0, none⟩) (s.pools[b].leases.eraseIdx k).length lc))) := fun w1 hb1 => by
  have h1 := h0.below hb1
  have k5 := (h1.cells hbp).c5
  have hq1 := (h1.each b hbp hbn).leases
  have h7 := h1.begin (.cells #[I64 s.pools[b].leases[k].1, I64 s.pools[b].leases[k].2.1, I64 s.pools[b].leases[k].2.2] 69)
  have k57 := (h7.cells hbp).c5
  rw [hv] at k5 k57 hq1
  have hoc : ∀ i u, (encLease s.pools[b].leases[k])[i]? = some u → w1.cell? ⟨g, k * 3 + i, none⟩ = some u := fun i u hu => (own_cells encLease_len hq1 hk (i := i) (u := u) hu).1
  refine ⟨k5, ⟨hoc 0 _ rfl, hoc 1 _ rfl, hoc 2 _ rfl⟩, k57, (h7.delL hbp hbn hk hv hlb).mono ?_⟩
  rintro e w' ⟨q1, ⟨q2, q3, _⟩, q4, q5⟩
  rw [hv] at q2
  exact ⟨q1, q2, q3, q4, q5⟩
 have HGV : Hid (∀ X w1, X < w1.heap.size → RunE (fun i => (S i ∧ i ≠ r) ∧ i ≠ X) R c (setP s b { s.pools[b] with leases := s.pools[b].leases.eraseIdx k }) es W G n cap w1 → Calls Try.prog 76 #[.pointer (some ⟨R, 0, none⟩), I64 s.pools[b].leases[k].2.1, I64 s.pools[b].leases[k].2.2, .bool c.yes] w1 fun e w' => e = .returned (.tuple #[]) ∧
  RunE (fun i => (S i ∧ i ≠ r) ∧ i ≠ X) R c (setP s b (Md.give s.shut s.now c.backend { s.pools[b] with leases := s.pools[b].leases.eraseIdx k } s.pools[b].leases[k].2.1 s.pools[b].leases[k].2.2 c.yes).1) (es ++ (Md.give s.shut s.now c.backend { s.pools[b] with leases := s.pools[b].leases.eraseIdx k } s.pools[b].leases[k].2.1 s.pools[b].leases[k].2.2 c.yes).2) (fun j => W j ∧ j ≠ b) G n cap w' ∧ Gb (fun i => (S i ∧ i ≠ r) ∧ i ≠ X) w1 w') := by
  rintro X w1 hX ⟨ev1, pvs1, h1⟩
  have hbn1 : b < (setP s b { s.pools[b] with leases := s.pools[b].leases.eraseIdx k }).pools.length := by rw [setP_len]; exact hbn
  have q := give_any _ R G n cap b c _ es W ev1 pvs1 s.pools[b].leases[k].2.1 s.pools[b].leases[k].2.2 c.yes w1 h1 hb (by rw [setP_len]; exact hn) hbn1 (by rw [setP_get]; exact fit_leases hf k) (by omega) hnx
  rw [setP_get, setP_set] at q
  exact q
 have HR8 : Hid (∀ w1, RunE (fun i => (S i ∧ i ≠ r) ∧ i ≠ w1) R c = RunE (fun i => (S i ∧ i ≠ r) ∧ i ≠ w1) R c) := fun _ => rfl
 have hkz : (k : Int) < (s.pools[b].leases.length : Int) := by omega
 generalize (Md.give s.shut s.now c.backend { s.pools[b] with leases := s.pools[b].leases.eraseIdx k } s.pools[b].leases[k].2.1 s.pools[b].leases[k].2.2 c.yes) = gv at HGV ⊢
 generalize setP s b { s.pools[b] with leases := s.pools[b].leases.eraseIdx k } = s1 at HD HGV
 generalize (s.pools[b].leases.eraseIdx k).length = ne at HD
 generalize s.pools[b].leases[k] = y at HD HGV
 generalize s.pools[b].leases.length = nl at HD hkz hlb
 generalize ixI (fun y => y.1 == c.call) s.pools[b].dials = i2 at HF
 generalize ixI (fun y => y.1 == c.call) s.pools[b].waiters = i3 at HF
 obtain ⟨y0, y1, y2⟩ := y
 dsimp only at HD HGV
 clear hse h0 h hb hn hr0 hf p1 hx hv hk1 hk2 hpk hk hnr hnx hfr HR8 HE0
 go_enter Try.func49, Try.ntmps49
 go_wp2_with fail
 simp only [← hw0, ← hr]
 clear hw0 hr
 refine HP.out.mono ?_
 rintro e w1 ⟨rfl, hb1⟩
 have c5 := HC.out w1 hb1
 go_wp2_with fail
 refine (HF.out _ hb1).mono ?_
 rintro e w2 ⟨rfl, hb2⟩
 obtain ⟨k5, ⟨l0, l1, l2⟩, k57, hdel⟩ := HD.out w2 hb2
 have HDEL := Lib.hid hdel
 have HB2 := Lib.hid hb2
 clear hdel HD HF HP HC c5 hb1 hb2
 go_wp2_with fail
 refine HDEL.out.mono ?_
 rintro e w3 ⟨rfl, k5b, f5b, hR3, hG3⟩
 have HR3 := Lib.hid hR3
 have HG3 := Lib.hid hG3
 clear hR3 hG3 k5 l0 l1 l2 k57 HDEL
 go_wp2
 have hG3 := HG3.out
 have hR3 := HR3.out
 have hX0 := blk_new w2 (.cells #[I64 y0, I64 y1, I64 y2] 69)
 have hbX := hG3.kept_blk hX0
 have hg2 : Gb (fun i => S i ∧ i ≠ r) w0 (w2.alloc (.cells #[I64 y0, I64 y1, I64 y2] 69)) := (Gb.of_below (S := fun i => S i ∧ i ≠ r) HB2.out).alloc _
 have hg4 := hg2.trans (hG3.mono (fun _ _ x => x.1))
 obtain ⟨X, hX⟩ : ∃ X, X = w2.heap.size := ⟨_, rfl⟩
 rw [← hX] at hR3 hbX
 simp only [← hX]
 obtain ⟨w4, hw4⟩ : ∃ x, x = w3.setCell ⟨G, b * 11 + 5, none⟩ (.slice (some ⟨g, 0, none⟩) ne lc) := ⟨_, rfl⟩
 rw [← hw4] at hR3 hbX hg4
 simp only [← hw4]
 have hR4 := hR3.below (Below.refl _ _).drew
 have hg4d := hg4.trans (.of_below (S := fun i => S i ∧ i ≠ r) (Below.refl w4.heap.size w4).drew)
 obtain ⟨wx, hwx⟩ : ∃ x, x = w4.drew := ⟨_, rfl⟩
 rw [← hwx] at hR4 hg4d
 have hbXx : wx.heap[X]? = some (.cells #[I64 y0, I64 y1, I64 y2] 69 (0, 0)) := by rw [hwx]; exact hbX
 have HBX := Lib.hid hbXx
 have H6 : Hid (C6 X R y1 y2 c.yes wx) := Lib.hid ⟨blk_cell hbXx 1, blk_cell hbXx 2, hR4.c8⟩
 replace HGV := Lib.hid (HGV.out X wx (Array.getElem?_eq_some_iff.1 hbXx).1 hR4)
 have HG4 := Lib.hid hg4d
 clear hX0 hG3 hR3 hbX hg2 hg4 hX hw4 hR4 hg4d hbXx HR3 HG3 k5b f5b HB2
 refine wp_region_held_drew (S := C6 X R y1 y2 c.yes) (by kernel_rfl) (by rw [← hwx]; exact H6.out) (fun hHeld => ?_)
 rw [← hwx] at hHeld ⊢
 clear hwx
 refine tk 0 (v := ?vv0_1) (dropAt rfl) (Or.inl ⟨by rfl, ?hv0_1⟩) hHeld ?rv0_1
 case hv0_1 => (intro w hSw; unfold C6 at hSw; obtain ⟨hS1, hS2, hS3⟩ := hSw; go_simp; first | done | with_reducible rfl)
 try simp only [Act.put, pu2, pu3, pu4]
 refine tk 1 (v := ?vv1_2) (dropAt rfl) (Or.inl ⟨by rfl, ?hv1_2⟩) hHeld ?rv1_2
 case hv1_2 => (intro w hSw; unfold C6 at hSw; obtain ⟨hS1, hS2, hS3⟩ := hSw; go_simp; first | done | with_reducible rfl)
 try simp only [Act.put, pu2, pu3, pu4]
 refine tk 2 (v := ?vv2_3) (dropAt rfl) (Or.inl ⟨by rfl, ?hv2_3⟩) hHeld ?rv2_3
 case hv2_3 => (intro w hSw; unfold C6 at hSw; obtain ⟨hS1, hS2, hS3⟩ := hSw; go_simp; first | done | with_reducible rfl)
 try simp only [Act.put, pu2, pu3, pu4]
 refine tk 3 (v := ?vv3_4) (dropAt rfl) (Or.inl ⟨by rfl, ?hv3_4⟩) hHeld ?rv3_4
 case hv3_4 => (intro w hSw; unfold C6 at hSw; obtain ⟨hS1, hS2, hS3⟩ := hSw; go_simp; first | done | with_reducible rfl)
 try simp only [Act.put, pu2, pu3, pu4]
 refine tk 4 (v := ?vv4_5) (dropAt rfl) (Or.inl ⟨by rfl, ?hv4_5⟩) hHeld ?rv4_5
 case hv4_5 => (intro w hSw; unfold C6 at hSw; obtain ⟨hS1, hS2, hS3⟩ := hSw; go_simp; first | done | with_reducible rfl)
 try simp only [Act.put, pu2, pu3, pu4]
 refine tk 5 (v := ?vv5_6) (dropAt rfl) (Or.inl ⟨by rfl, ?hv5_6⟩) hHeld ?rv5_6
 case hv5_6 => (intro w hSw; unfold C6 at hSw; obtain ⟨hS1, hS2, hS3⟩ := hSw; go_simp; first | done | with_reducible rfl)
 try simp only [Act.put, pu2, pu3, pu4]
 refine tk 6 (v := ?vv6_7) (dropAt rfl) (Or.inl ⟨by rfl, ?hv6_7⟩) hHeld ?rv6_7
 case hv6_7 => (intro w hSw; unfold C6 at hSw; obtain ⟨hS1, hS2, hS3⟩ := hSw; go_simp; first | done | with_reducible rfl)
 try simp only [Act.put, pu2, pu3, pu4]
 refine tk 7 (v := ?vv7_8) (dropAt rfl) (Or.inl ⟨by rfl, ?hv7_8⟩) hHeld ?rv7_8
 case hv7_8 => (intro w hSw; unfold C6 at hSw; obtain ⟨hS1, hS2, hS3⟩ := hSw; go_simp; first | done | with_reducible rfl)
 try simp only [Act.put, pu2, pu3, pu4]
 refine tk 8 (v := ?vv8_9) (dropAt rfl) (Or.inl ⟨by rfl, ?hv8_9⟩) hHeld ?rv8_9
 case hv8_9 => (intro w hSw; unfold C6 at hSw; obtain ⟨hS1, hS2, hS3⟩ := hSw; go_simp; first | done | with_reducible rfl)
 try simp only [Act.put, pu2, pu3, pu4]
 refine tk 9 (v := ?vv9_10) (dropAt rfl) (Or.inl ⟨by rfl, ?hv9_10⟩) hHeld ?rv9_10
 case hv9_10 => (intro w hSw; unfold C6 at hSw; obtain ⟨hS1, hS2, hS3⟩ := hSw; go_simp; first | done | with_reducible rfl)
 try simp only [Act.put, pu2, pu3, pu4]
 refine wpAnyH_ready (rs := [10]) (by kernel_rfl) (by simp) ?_
 refine AllReadyH.cons (o := _) (dropAt (r := _) rfl) (fun K hK => ?_) AllReadyH.nil
 go_simp
 refine HGV.out.mono ?_
 rintro e w5 ⟨rfl, hR5, hG5⟩
 have hHeld3 : C6 X R y1 y2 c.yes w5 := by
  have hb := hG5.kept_blk HBX.out
  exact ⟨blk_cell hb 1, blk_cell hb 2, hR5.c8⟩
 refine hK.out _ _ hHeld3 (fun hHeld4 => ?_)
 clear hK K
 try simp only [Act.put, pu2, pu3, pu4]
 refine wpAnyH_done (by kernel_rfl) ?_ _
 have hR : RunE (fun i => S i ∧ i ≠ r) R c (setP s b gv.1) (es ++ gv.2) (fun j => W j ∧ j ≠ b) G n cap w5 := hR5.widen (fun _ x => x.1)
 have hG : Gb (fun i => S i ∧ i ≠ r) w0 w5 := HG4.out.trans (hG5.mono (fun _ _ x => x.1))
 clear hG5 hR5 hHeld hHeld3 hHeld4 HG4 HGV HBX H6
 go_wp2_with fail
 refine (HI.out _).mono ?_
 rintro e w6 ⟨rfl, hb6⟩
 obtain ⟨hblk, hfin0⟩ := done_end hR hG HR0.out hb6 HBG.out HSR.out 7
 have HB3 := Lib.hid hblk
 have HF := Lib.hid hfin0
 have y0 := blk_cell hblk 0
 have y1 := blk_cell hblk 1
 have y2 := blk_cell hblk 2
 have v0 := blk_free hblk 0
 have v1 := blk_free hblk 1
 have v2 := blk_free hblk 2
 simp only [List.getElem?_toArray, List.getElem?_cons_succ, List.getElem?_cons_zero] at y0 y1 y2
 clear hblk hfin0 hb6 hR hG
 go_wp2
 have hfin := blk_set (blk_set (blk_set HB3.out 0 (I64 7)) 1 (I64 0)) 2 (I64 0)
 have z0 := blk_cell hfin 0
 have z1 := blk_cell hfin 1
 have z2 := blk_cell hfin 2
 simp only [List.setIfInBounds_toArray, List.set_cons_zero, List.set_cons_succ, List.getElem?_toArray, List.getElem?_cons_succ, List.getElem?_cons_zero] at z0 z1 z2
 clear hfin
 refine bodyPost_ret (v := .agg #[I64 7, I64 0, I64 0]) (by rw [results_cell_oneN rfl]; go_simp) rfl ?_
 exact ⟨rfl, HF.out⟩
end Go.Proofs.Ytaicmiadgnpimaa
