/-
  Walks for layer 26 (model): a run whose scalars change; a block that is none of the run's.
-/
import Derived.Test.YtaicmiadgnpimaaMgd
import Derived.Test.YtaicmiadgnpimaaMgo
namespace Go.Proofs.Ytaicmiadgnpimaa
open Go.RowKit

theorem RunV.setS {S : Nat → Prop} {R : Nat} {c : Md.Call} {s : Md.State} {es : List Md.Effect} {W : Nat → Prop} {G n cap : Nat} {ev : SlV} {pvs : List PoolV} {w : World} (h : RunV S R c s es W (some ⟨G, 0, none⟩, n, cap) ev pvs w) {b : Nat} (hb : b < pvs.length) {i : Nat} (hi : i < 11) {v : Value} {pv' : PoolV} {p' : Md.Pool}
 (he : encP pv' = (encP pvs[b]).set i v) (ho : ob4 pv' = ob4 pvs[b]) (hp : PoolOwn w (W b) pv' p') : RunV S R c (setP s b p') es W (some ⟨G, 0, none⟩, n, cap) ev (pvs.set b pv') (w.setCell ⟨G, b * 11 + i, none⟩ v) := by
 have hgr : w.grownBy w none := ⟨rfl, rfl, rfl, Nat.le_refl _, fun _ _ _ => rfl⟩
 obtain ⟨h1, h2⟩ := h.sep_set hb (f := 0) (by decide) (u := obS pvs[b].vI) (pv' := pv') (by rw [ho]; rfl) (.inl rfl)
 exact h.upd (W' := W) hgr hb (fun k hk => by cases hk) h2 h1 hp (fun j hj hw => hw) (own_setAt encP_len h.pools hb hi he) (setCell_grown w ⟨G, _, none⟩ _)
/-- A block that is none of the run's is left out of S. -/
theorem RunV.shrink {S : Nat → Prop} {R : Nat} {c : Md.Call} {s : Md.State} {es : List Md.Effect} {W : Nat → Prop} {vp ev : SlV} {pvs : List PoolV} {w : World} (h : RunV S R c s es W vp ev pvs w) (r : Nat) (hr : r < w.heap.size) (hn : some r ∉ owns R vp ev pvs) : RunV (fun k => S k ∧ k ≠ r) R c s es W vp ev pvs w :=
 ⟨h.blk, h.pools, h.effs, h.len, h.each, h.sep, fun k hk => ⟨h.sub k hk, fun e => hn (e ▸ hk)⟩, fun k hk => ⟨h.fresh k hk, by omega⟩⟩
theorem RunV.widen {S T : Nat → Prop} {R : Nat} {c : Md.Call} {s : Md.State} {es : List Md.Effect} {W : Nat → Prop} {vp ev : SlV} {pvs : List PoolV} {w : World} (h : RunV S R c s es W vp ev pvs w) (hi : ∀ k, S k → T k) : RunV T R c s es W vp ev pvs w :=
 ⟨h.blk, h.pools, h.effs, h.len, h.each, h.sep, fun k hk => hi k (h.sub k hk), fun k hk => hi k (h.fresh k hk)⟩
theorem RunE.widen {S T : Nat → Prop} {R : Nat} {c : Md.Call} {s : Md.State} {es : List Md.Effect} {W : Nat → Prop} {G n cap : Nat} {w : World} (h : RunE S R c s es W G n cap w) (hi : ∀ k, S k → T k) : RunE T R c s es W G n cap w := by
 obtain ⟨ev, pvs, h⟩ := h
 exact ⟨ev, pvs, h.widen hi⟩
/-- A store into a block that is none of the run's. -/
theorem RunE.setOther {S : Nat → Prop} {r R : Nat} {c : Md.Call} {s : Md.State} {es : List Md.Effect} {W : Nat → Prop} {G n cap : Nat} {w : World} (h : RunE (fun k => S k ∧ k ≠ r) R c s es W G n cap w) {w' : World} (hg : w.grownBy w' (some r)) : RunE (fun k => S k ∧ k ≠ r) R c s es W G n cap w' := by
 obtain ⟨ev, pvs, h⟩ := h
 exact ⟨ev, pvs, h.kept hg (fun k hk => by
  injection hk with hk
  subst hk
  exact fun hm => (h.sub _ hm).2 rfl)⟩
end Go.Proofs.Ytaicmiadgnpimaa
namespace Go.Proofs.Ytaicmiadgnpimaa
open Go.RowKit

/-- A result's block behind a method: what lies in it, and the run beside it. -/
theorem RunV.begin {S : Nat → Prop} {R : Nat} {c : Md.Call} {s : Md.State} {es : List Md.Effect} {W : Nat → Prop} {vp ev : SlV} {pvs : List PoolV} {w : World} (h : RunV S R c s es W vp ev pvs w) (o : Obj) : RunV (fun k => S k ∧ k ≠ w.heap.size) R c s es W vp ev pvs (w.alloc o) :=
 (h.below ((Below.refl _ _).alloc (Nat.le_refl _) o)).shrink w.heap.size (by simp) (fun hm => Nat.lt_irrefl _ (h.lt _ hm))
theorem Gb.begin {S : Nat → Prop} {w w' : World} {o : Obj} (h : Gb (fun k => S k ∧ k ≠ w.heap.size) (w.alloc o) w') : Gb S w w' :=
 (Gb.of_below (S := S) ((Below.refl _ _).alloc (Nat.le_refl _) o)).trans (h.mono fun _ _ x => x.1)
/-- The result's block is as it was. -/
theorem Gb.kept_blk {S : Nat → Prop} {w w' : World} {r : Nat} {x : Obj} (h : Gb (fun k => S k ∧ k ≠ r) w w') (hx : w.heap[r]? = some x) : w'.heap[r]? = some x := by
 have hl : r < w.heap.size := (Array.getElem?_eq_some_iff.1 hx).1
 exact (h.block r hl (fun q => q.2 rfl)).trans hx
theorem RunE.below {S : Nat → Prop} {R : Nat} {c : Md.Call} {s : Md.State} {es : List Md.Effect} {W : Nat → Prop} {G n cap : Nat} {w w' : World} (h : RunE S R c s es W G n cap w) (hb : Below w.heap.size w w') : RunE S R c s es W G n cap w' := by
 obtain ⟨ev, pvs, h⟩ := h
 exact ⟨ev, pvs, h.below hb⟩
/-- The result is laid into its block. -/
theorem RunE.finish {S : Nat → Prop} {r R : Nat} {c : Md.Call} {s : Md.State} {es : List Md.Effect} {W : Nat → Prop} {G n cap : Nat} {w w0 w3 : World} (h : RunE (fun k => S k ∧ k ≠ r) R c s es W G n cap w3) (hg : Gb (fun k => S k ∧ k ≠ r) w0 w3)
 (hbg : ∀ w', Gb (fun k => S k ∧ k ≠ r) w0 w' → Gb S w w') (hsr : S r) (a b d : Int) : RunE S R c s es W G n cap (((w3.setCell ⟨r, 0, none⟩ (I64 a)).setCell ⟨r, 1, none⟩ (I64 b)).setCell ⟨r, 2, none⟩ (I64 d)) ∧ Gb S w (((w3.setCell ⟨r, 0, none⟩ (I64 a)).setCell ⟨r, 1, none⟩ (I64 b)).setCell ⟨r, 2, none⟩ (I64 d)) :=
 ⟨(((h.setOther (setCell_grown _ ⟨r, 0, none⟩ _)).setOther (setCell_grown _ ⟨r, 1, none⟩ _)).setOther (setCell_grown _ ⟨r, 2, none⟩ _)).widen (fun _ x => x.1), (((hbg _ hg).setCell (x := ⟨r, 0, none⟩) hsr _).setCell (x := ⟨r, 1, none⟩) hsr _).setCell (x := ⟨r, 2, none⟩) hsr _⟩
set_option maxHeartbeats 1000000 in
set_option maxRecDepth 100000 in
theorem trip_any (S : Nat → Prop) (R G n cap b : Nat) (c : Md.Call) (s : Md.State) (es : List Md.Effect) (W : Nat → Prop) (ev : SlV) (pvs : List PoolV) (w : World) (h : RunV S R c s es W (some ⟨G, 0, none⟩, n, cap) ev pvs w) (hb : c.backend = (b : Int)) (hn : n = s.pools.length) (hbn : b < s.pools.length) :
 Calls Try.prog 58 #[.pointer (some ⟨R, 0, none⟩)] w fun e w' => e = .returned (.agg #[I64 7, I64 0, I64 0]) ∧ RunE S R c (setP s b { s.pools[b] with breaker := c.breaker, probe := 0 }) es W G n cap w' ∧ Gb S w w' := by
 have hbp : b < pvs.length := by rw [h.len]; exact hbn
 have h0 := h.begin (.cells #[I64 0, I64 0, I64 0] 31)
 have hr0 := blk_new w (.cells #[I64 0, I64 0, I64 0] 31)
 have HBG : Hid (∀ w', Gb (fun k => S k ∧ k ≠ w.heap.size) (w.alloc (.cells #[I64 0, I64 0, I64 0] 31)) w' → Gb S w w') := fun w' hg => Gb.begin hg
 obtain ⟨r, hr⟩ : ∃ r, r = w.heap.size := ⟨_, rfl⟩
 obtain ⟨w0, hw0⟩ : ∃ w0, w0 = w.alloc (.cells #[I64 0, I64 0, I64 0] 31) := ⟨_, rfl⟩
 rw [← hr] at h0 HBG hr0
 rw [← hw0] at h0 HBG hr0
 have HSR : Hid (S r) := by rw [hr]; exact h.fresh _ (Nat.le_refl _)
 have HP := Lib.hid (pool_any R G n cap b c s ev w0 (runCells_of h0.blk) hb (by omega))
 have HC : Hid (∀ w1, Below w0.heap.size w0 w1 → w1.cell? ⟨R, 10, none⟩ = some (I64 c.breaker) ∧ w1.cell? ⟨G, b * 11 + 9, none⟩ = some (I64 pvs[b].breaker) ∧ w1.cell? ⟨G, b * 11 + 10, none⟩ = some (I64 pvs[b].probe) ∧ w1.frozen? ⟨G, b * 11 + 9, none⟩ = false ∧ w1.frozen? ⟨G, b * 11 + 10, none⟩ = false) := fun w1 hb1 => by
  have h1 := h0.below hb1
  have hc := h1.cells hbp
  exact ⟨(runCells_of h1.blk).c10, hc.c9, hc.c10, hc.fr 9, hc.fr 10⟩
 have HR : Hid (∀ w1, Below w0.heap.size w0 w1 → RunE (fun k => S k ∧ k ≠ r) R c (setP s b { s.pools[b] with breaker := c.breaker, probe := 0 }) es W G n cap ((w1.setCell ⟨G, b * 11 + 9, none⟩ (I64 c.breaker)).setCell ⟨G, b * 11 + 10, none⟩ (I64 0)) ∧ Gb (fun k => S k ∧ k ≠ r) w0 ((w1.setCell ⟨G, b * 11 + 9, none⟩ (I64 c.breaker)).setCell ⟨G, b * 11 + 10, none⟩ (I64 0))) := fun w1 hb1 => by
  have h1 := h0.below hb1
  have hq := h1.each b hbp hbn
  have h2 := h1.setS hbp (i := 9) (by decide) (v := I64 c.breaker) (pv' := { pvs[b] with breaker := c.breaker }) (p' := { s.pools[b] with breaker := c.breaker }) rfl rfl ⟨hq.lim, hq.up, rfl, hq.probe, hq.idle, hq.leases, hq.dials, hq.waiters, hq.wown, hq.wlt, hq.wcap⟩
  have hbp2 : b < (pvs.set b { pvs[b] with breaker := c.breaker }).length := by simpa using hbp
  have hbn2 : b < (setP s b { s.pools[b] with breaker := c.breaker }).pools.length := by rw [setP_len]; exact hbn
  have hq2 := h2.each b hbp2 hbn2
  rw [setP_get] at hq2
  have e2 : (pvs.set b { pvs[b] with breaker := c.breaker })[b] = { pvs[b] with breaker := c.breaker } := by simp
  have h3 := h2.setS hbp2 (i := 10) (by decide) (v := I64 0) (pv' := { pvs[b] with breaker := c.breaker, probe := 0 }) (p' := { s.pools[b] with breaker := c.breaker, probe := 0 }) (by rw [e2]; rfl) (by rw [e2]; rfl) (by
   rw [e2] at hq2
   exact ⟨hq2.lim, hq2.up, hq2.breaker, rfl, hq2.idle, hq2.leases, hq2.dials, hq2.waiters, hq2.wown, hq2.wlt, hq2.wcap⟩)
  rw [setP_set] at h3
  have hSG : S G ∧ G ≠ r := h0.sub G (by simp [owns, obS])
  exact ⟨⟨_, _, h3⟩, ((Gb.of_below (S := fun k => S k ∧ k ≠ r) hb1).setCell hSG _).setCell hSG _⟩
 have HI : Hid (∀ w1, _) := fun w1 => is_any 7 w1
 have HR0 := Lib.hid hr0
 generalize setP s b { s.pools[b] with breaker := c.breaker, probe := 0 } = s2 at HR ⊢
 clear h0 h hb hn hr0
 go_enter Try.func58, Try.ntmps58
 go_wp2_with fail
 simp only [← hw0, ← hr]
 clear hw0 hr
 refine HP.out.mono ?_
 rintro e w1 ⟨rfl, hb1⟩
 obtain ⟨k0, k9, k10, f9, f10⟩ := HC.out w1 hb1
 obtain ⟨hR, hG⟩ := HR.out w1 hb1
 go_wp2_with fail
 refine (HI.out _).mono ?_
 rintro e w3 ⟨rfl, hb3⟩
 have hG3 := hG.trans (.of_below hb3)
 have hR3 := hR.below hb3
 have hblk := hG3.kept_blk HR0.out
 have HB3 := Lib.hid hblk
 have y0 := blk_cell hblk 0
 have y1 := blk_cell hblk 1
 have y2 := blk_cell hblk 2
 have v0 := blk_free hblk 0
 have v1 := blk_free hblk 1
 have v2 := blk_free hblk 2
 simp only [List.getElem?_toArray, List.getElem?_cons_succ, List.getElem?_cons_zero] at y0 y1 y2
 have HF := Lib.hid (hR3.finish hG3 HBG.out HSR.out 7 0 0)
 clear hblk hG3 hR3 hb3 hR hG k0 k9 k10 f9 f10
 go_wp2
 have hfin := blk_set (blk_set (blk_set HB3.out 0 (I64 7)) 1 (I64 0)) 2 (I64 0)
 have z0 := blk_cell hfin 0
 have z1 := blk_cell hfin 1
 have z2 := blk_cell hfin 2
 simp only [List.setIfInBounds_toArray, List.set_cons_zero, List.set_cons_succ, List.getElem?_toArray, List.getElem?_cons_succ, List.getElem?_cons_zero] at z0 z1 z2
 clear hfin
 refine bodyPost_ret (v := .agg #[I64 7, I64 0, I64 0]) (by rw [results_cell_oneN rfl]; go_simp) rfl ?_
 exact ⟨rfl, HF.out⟩
end Go.Proofs.Ytaicmiadgnpimaa
namespace Go.Proofs.Ytaicmiadgnpimaa
open Go.RowKit

theorem RunE.setB {S : Nat → Prop} {R : Nat} {c : Md.Call} {s : Md.State} {es : List Md.Effect} {W : Nat → Prop} {G n cap : Nat} {w : World} {b : Nat} (h : RunE S R c s es W G n cap w) (hbn : b < s.pools.length) (p : Md.Pool) (hp : s.pools[b] = p) (x : Int) : RunE S R c (setP s b { p with breaker := x }) es W G n cap (w.setCell ⟨G, b * 11 + 9, none⟩ (I64 x)) := by
 obtain ⟨ev, pvs, h⟩ := h
 subst hp
 have hbp : b < pvs.length := by rw [h.len]; exact hbn
 have hq := h.each b hbp hbn
 exact ⟨_, _, h.setS hbp (i := 9) (by decide) (v := I64 x) (pv' := { pvs[b] with breaker := x }) (p' := { s.pools[b] with breaker := x }) rfl rfl ⟨hq.lim, hq.up, rfl, hq.probe, hq.idle, hq.leases, hq.dials, hq.waiters, hq.wown, hq.wlt, hq.wcap⟩⟩
theorem RunE.setQ {S : Nat → Prop} {R : Nat} {c : Md.Call} {s : Md.State} {es : List Md.Effect} {W : Nat → Prop} {G n cap : Nat} {w : World} {b : Nat} (h : RunE S R c s es W G n cap w) (hbn : b < s.pools.length) (p : Md.Pool) (hp : s.pools[b] = p) (x : Int) : RunE S R c (setP s b { p with probe := x }) es W G n cap (w.setCell ⟨G, b * 11 + 10, none⟩ (I64 x)) := by
 obtain ⟨ev, pvs, h⟩ := h
 subst hp
 have hbp : b < pvs.length := by rw [h.len]; exact hbn
 have hq := h.each b hbp hbn
 exact ⟨_, _, h.setS hbp (i := 10) (by decide) (v := I64 x) (pv' := { pvs[b] with probe := x }) (p' := { s.pools[b] with probe := x }) rfl rfl ⟨hq.lim, hq.up, hq.breaker, rfl, hq.idle, hq.leases, hq.dials, hq.waiters, hq.wown, hq.wlt, hq.wcap⟩⟩
theorem RunE.setU {S : Nat → Prop} {R : Nat} {c : Md.Call} {s : Md.State} {es : List Md.Effect} {W : Nat → Prop} {G n cap : Nat} {w : World} {b : Nat} (h : RunE S R c s es W G n cap w) (hbn : b < s.pools.length) (p : Md.Pool) (hp : s.pools[b] = p) (x : Bool) : RunE S R c (setP s b { p with up := x }) es W G n cap (w.setCell ⟨G, b * 11 + 8, none⟩ (.bool x)) := by
 obtain ⟨ev, pvs, h⟩ := h
 subst hp
 have hbp : b < pvs.length := by rw [h.len]; exact hbn
 have hq := h.each b hbp hbn
 exact ⟨_, _, h.setS hbp (i := 8) (by decide) (v := .bool x) (pv' := { pvs[b] with up := x }) (p' := { s.pools[b] with up := x }) rfl rfl ⟨hq.lim, rfl, hq.breaker, hq.probe, hq.idle, hq.leases, hq.dials, hq.waiters, hq.wown, hq.wlt, hq.wcap⟩⟩
theorem RunE.subG {S : Nat → Prop} {R : Nat} {c : Md.Call} {s : Md.State} {es : List Md.Effect} {W : Nat → Prop} {G n cap : Nat} {w : World} (h : RunE S R c s es W G n cap w) : S G := by
 obtain ⟨ev, pvs, h⟩ := h
 exact h.sub G (by simp [owns, obS])
/-- What a method that answers 'done' leaves behind. -/
theorem done_end {S : Nat → Prop} {r R : Nat} {c : Md.Call} {s : Md.State} {es : List Md.Effect} {W : Nat → Prop} {G n cap : Nat} {w w0 w2 w3 : World} (hR : RunE (fun k => S k ∧ k ≠ r) R c s es W G n cap w2) (hG : Gb (fun k => S k ∧ k ≠ r) w0 w2) (h0 : w0.heap[r]? = some (.cells #[I64 0, I64 0, I64 0] 31 (0, 0))) (hb3 : Below w2.heap.size w2 w3)
 (hbg : ∀ w', Gb (fun k => S k ∧ k ≠ r) w0 w' → Gb S w w') (hsr : S r) (k : Int) : w3.heap[r]? = some (.cells #[I64 0, I64 0, I64 0] 31 (0, 0)) ∧ RunE S R c s es W G n cap (((w3.setCell ⟨r, 0, none⟩ (I64 k)).setCell ⟨r, 1, none⟩ (I64 0)).setCell ⟨r, 2, none⟩ (I64 0)) ∧ Gb S w (((w3.setCell ⟨r, 0, none⟩ (I64 k)).setCell ⟨r, 1, none⟩ (I64 0)).setCell ⟨r, 2, none⟩ (I64 0)) := by
 have hG3 := hG.trans (.of_below hb3)
 exact ⟨hG3.kept_blk h0, (hR.below hb3).finish hG3 hbg hsr k 0 0⟩
end Go.Proofs.Ytaicmiadgnpimaa
namespace Go.Proofs.Ytaicmiadgnpimaa
open Go.RowKit

set_option maxHeartbeats 1000000 in
set_option maxRecDepth 100000 in
theorem report_any (S : Nat → Prop) (R G n cap b : Nat) (c : Md.Call) (s : Md.State) (es : List Md.Effect) (W : Nat → Prop) (ev : SlV) (pvs : List PoolV) (w : World) (h : RunV S R c s es W (some ⟨G, 0, none⟩, n, cap) ev pvs w) (hb : c.backend = (b : Int)) (hn : n = s.pools.length) (hbn : b < s.pools.length) :
 Calls Try.prog 56 #[.pointer (some ⟨R, 0, none⟩)] w fun e w' => e = .returned (.agg #[I64 7, I64 0, I64 0]) ∧ RunE S R c (setP s b (Md.report s.pools[b] c)) es W G n cap w' ∧ Gb S w w' := by
 have hbp : b < pvs.length := by rw [h.len]; exact hbn
 have h0 := h.begin (.cells #[I64 0, I64 0, I64 0] 31)
 have hr0 := blk_new w (.cells #[I64 0, I64 0, I64 0] 31)
 have HBG : Hid (∀ w', Gb (fun k => S k ∧ k ≠ w.heap.size) (w.alloc (.cells #[I64 0, I64 0, I64 0] 31)) w' → Gb S w w') := fun w' hg => Gb.begin hg
 obtain ⟨r, hr⟩ : ∃ r, r = w.heap.size := ⟨_, rfl⟩
 obtain ⟨w0, hw0⟩ : ∃ w0, w0 = w.alloc (.cells #[I64 0, I64 0, I64 0] 31) := ⟨_, rfl⟩
 rw [← hr] at h0 HBG hr0
 rw [← hw0] at h0 HBG hr0
 have HSR : Hid (S r) := by rw [hr]; exact h.fresh _ (Nat.le_refl _)
 have HP := Lib.hid (pool_any R G n cap b c s ev w0 (runCells_of h0.blk) hb (by omega))
 have HI : Hid (∀ w1, _) := fun w1 => is_any 7 w1
 have HR0 := Lib.hid hr0
 have HE0 : Hid (∀ w1, Below w0.heap.size w0 w1 → RunE (fun k => S k ∧ k ≠ r) R c s es W G n cap w1) := fun w1 hb1 => ⟨_, _, h0.below hb1⟩
 have HC : Hid (∀ w1, Below w0.heap.size w0 w1 → w1.cell? ⟨R, 5, none⟩ = some (I64 c.call) ∧ w1.cell? ⟨R, 8, none⟩ = some (.bool c.yes) ∧ w1.cell? ⟨G, b * 11 + 9, none⟩ = some (I64 pvs[b].breaker) ∧ w1.cell? ⟨G, b * 11 + 10, none⟩ = some (I64 s.pools[b].probe) ∧ w1.frozen? ⟨G, b * 11 + 9, none⟩ = false ∧ w1.frozen? ⟨G, b * 11 + 10, none⟩ = false) := fun w1 hb1 => by
  have h1 := h0.below hb1
  have hc := h1.cells hbp
  have hq := (h1.each b hbp hbn).probe
  have h10 := hc.c10
  rw [hq] at h10
  exact ⟨(runCells_of h1.blk).c5, (runCells_of h1.blk).c8, hc.c9, h10, hc.fr 9, hc.fr 10⟩
 have hset1 : ∀ w1, Below w0.heap.size w0 w1 → RunE (fun k => S k ∧ k ≠ r) R c (setP s b { s.pools[b] with probe := 0, breaker := 1 }) es W G n cap ((w1.setCell ⟨G, b * 11 + 10, none⟩ (I64 0)).setCell ⟨G, b * 11 + 9, none⟩ (I64 1)) ∧ Gb (fun k => S k ∧ k ≠ r) w0 ((w1.setCell ⟨G, b * 11 + 10, none⟩ (I64 0)).setCell ⟨G, b * 11 + 9, none⟩ (I64 1)) := fun w1 hb1 => by
  have g := HE0.out w1 hb1
  have hSG := g.subG
  have ga := g.setQ hbn _ rfl 0
  have gb := ga.setB (by rw [setP_len]; exact hbn) _ (setP_get _ _ _ _) 1
  rw [setP_set] at gb
  exact ⟨gb, ((Gb.of_below (S := fun k => S k ∧ k ≠ r) hb1).setCell hSG _).setCell hSG _⟩
 have hset2 : ∀ w1, Below w0.heap.size w0 w1 → RunE (fun k => S k ∧ k ≠ r) R c (setP s b { s.pools[b] with probe := 0, breaker := 0 }) es W G n cap (((w1.setCell ⟨G, b * 11 + 10, none⟩ (I64 0)).setCell ⟨G, b * 11 + 9, none⟩ (I64 1)).setCell ⟨G, b * 11 + 9, none⟩ (I64 0)) ∧ Gb (fun k => S k ∧ k ≠ r) w0 (((w1.setCell ⟨G, b * 11 + 10, none⟩ (I64 0)).setCell ⟨G, b * 11 + 9, none⟩ (I64 1)).setCell ⟨G, b * 11 + 9, none⟩ (I64 0)) := fun w1 hb1 => by
  obtain ⟨ga, gb⟩ := hset1 w1 hb1
  have hSG := ga.subG
  have gc := ga.setB (by rw [setP_len]; exact hbn) _ (setP_get _ _ _ _) 0
  rw [setP_set] at gc
  exact ⟨gc, gb.setCell hSG _⟩
 unfold Md.report
 by_cases hpc : s.pools[b].probe = c.call
 · rw [if_pos (by simpa using hpc)]
   rw [hpc] at HC
   cases hy : c.yes with
   | true =>
    rw [hy] at HC
    simp only [if_true]
    have HW : Hid (∀ w1, Below w0.heap.size w0 w1 → _) := hset2
    generalize setP s b { s.pools[b] with probe := 0, breaker := 0 } = s2 at HW ⊢
    clear hset1 hset2 h0 h hb hn hr0 hpc hy
    go_enter Try.func56, Try.ntmps56
    go_wp2_with fail
    simp only [← hw0, ← hr]
    clear hw0 hr
    refine HP.out.mono ?_
    rintro e w1 ⟨rfl, hb1⟩
    obtain ⟨k5, k8, k9, k10, f9, f10⟩ := HC.out w1 hb1
    go_wp2
    go_quiet (fail)
    obtain ⟨hR, hG⟩ := HW.out (w1.drewN nq) (below_drewN hb1 _)
    go_wp2_with fail
    refine (HI.out _).mono ?_
    rintro e w3 ⟨rfl, hb3⟩
    obtain ⟨hblk, hfin0⟩ := done_end hR hG HR0.out hb3 HBG.out HSR.out 7
    have HB3 := Lib.hid hblk
    have HF := Lib.hid hfin0
    have y0 := blk_cell hblk 0
    have y1 := blk_cell hblk 1
    have y2 := blk_cell hblk 2
    have v0 := blk_free hblk 0
    have v1 := blk_free hblk 1
    have v2 := blk_free hblk 2
    simp only [List.getElem?_toArray, List.getElem?_cons_succ, List.getElem?_cons_zero] at y0 y1 y2
    clear hblk hfin0 hb3 hR hG
    go_wp2
    have hfin := blk_set (blk_set (blk_set HB3.out 0 (I64 7)) 1 (I64 0)) 2 (I64 0)
    have z0 := blk_cell hfin 0
    have z1 := blk_cell hfin 1
    have z2 := blk_cell hfin 2
    simp only [List.setIfInBounds_toArray, List.set_cons_zero, List.set_cons_succ, List.getElem?_toArray, List.getElem?_cons_succ, List.getElem?_cons_zero] at z0 z1 z2
    clear hfin
    refine bodyPost_ret (v := .agg #[I64 7, I64 0, I64 0]) (by rw [results_cell_oneN rfl]; go_simp) rfl ?_
    exact ⟨rfl, HF.out⟩
   | false =>
    rw [hy] at HC
    simp only [if_false, Bool.false_eq_true]
    have HW : Hid (∀ w1, Below w0.heap.size w0 w1 → _) := hset1
    generalize setP s b { s.pools[b] with probe := 0, breaker := 1 } = s2 at HW ⊢
    clear hset1 hset2 h0 h hb hn hr0 hpc hy
    go_enter Try.func56, Try.ntmps56
    go_wp2_with fail
    simp only [← hw0, ← hr]
    clear hw0 hr
    refine HP.out.mono ?_
    rintro e w1 ⟨rfl, hb1⟩
    obtain ⟨k5, k8, k9, k10, f9, f10⟩ := HC.out w1 hb1
    go_wp2
    go_quiet (fail)
    obtain ⟨hR, hG⟩ := HW.out (w1.drewN nq) (below_drewN hb1 _)
    go_wp2_with fail
    refine (HI.out _).mono ?_
    rintro e w3 ⟨rfl, hb3⟩
    obtain ⟨hblk, hfin0⟩ := done_end hR hG HR0.out hb3 HBG.out HSR.out 7
    have HB3 := Lib.hid hblk
    have HF := Lib.hid hfin0
    have y0 := blk_cell hblk 0
    have y1 := blk_cell hblk 1
    have y2 := blk_cell hblk 2
    have v0 := blk_free hblk 0
    have v1 := blk_free hblk 1
    have v2 := blk_free hblk 2
    simp only [List.getElem?_toArray, List.getElem?_cons_succ, List.getElem?_cons_zero] at y0 y1 y2
    clear hblk hfin0 hb3 hR hG
    go_wp2
    have hfin := blk_set (blk_set (blk_set HB3.out 0 (I64 7)) 1 (I64 0)) 2 (I64 0)
    have z0 := blk_cell hfin 0
    have z1 := blk_cell hfin 1
    have z2 := blk_cell hfin 2
    simp only [List.setIfInBounds_toArray, List.set_cons_zero, List.set_cons_succ, List.getElem?_toArray, List.getElem?_cons_succ, List.getElem?_cons_zero] at z0 z1 z2
    clear hfin
    refine bodyPost_ret (v := .agg #[I64 7, I64 0, I64 0]) (by rw [results_cell_oneN rfl]; go_simp) rfl ?_
    exact ⟨rfl, HF.out⟩
 · rw [if_neg (by simpa using hpc), setP_self]
   have HW : Hid (∀ w1, Below w0.heap.size w0 w1 → RunE (fun k => S k ∧ k ≠ r) R c s es W G n cap w1 ∧ Gb (fun k => S k ∧ k ≠ r) w0 w1) := fun w1 hb1 => ⟨HE0.out w1 hb1, .of_below hb1⟩
   generalize s.pools[b].probe = pq at HC hpc
   clear hset1 hset2 h0 h hb hn hr0
   go_enter Try.func56, Try.ntmps56
   go_wp2_with fail
   simp only [← hw0, ← hr]
   clear hw0 hr
   refine HP.out.mono ?_
   rintro e w1 ⟨rfl, hb1⟩
   obtain ⟨k5, k8, k9, k10, f9, f10⟩ := HC.out w1 hb1
   go_wp2
   go_quiet (fail)
   obtain ⟨hR, hG⟩ := HW.out (w1.drewN nq) (below_drewN hb1 _)
   go_wp2_with fail
   refine (HI.out _).mono ?_
   rintro e w3 ⟨rfl, hb3⟩
   obtain ⟨hblk, hfin0⟩ := done_end hR hG HR0.out hb3 HBG.out HSR.out 7
   have HB3 := Lib.hid hblk
   have HF := Lib.hid hfin0
   have y0 := blk_cell hblk 0
   have y1 := blk_cell hblk 1
   have y2 := blk_cell hblk 2
   have v0 := blk_free hblk 0
   have v1 := blk_free hblk 1
   have v2 := blk_free hblk 2
   simp only [List.getElem?_toArray, List.getElem?_cons_succ, List.getElem?_cons_zero] at y0 y1 y2
   clear hblk hfin0 hb3 hR hG
   go_wp2
   have hfin := blk_set (blk_set (blk_set HB3.out 0 (I64 7)) 1 (I64 0)) 2 (I64 0)
   have z0 := blk_cell hfin 0
   have z1 := blk_cell hfin 1
   have z2 := blk_cell hfin 2
   simp only [List.setIfInBounds_toArray, List.set_cons_zero, List.set_cons_succ, List.getElem?_toArray, List.getElem?_cons_succ, List.getElem?_cons_zero] at z0 z1 z2
   clear hfin
   refine bodyPost_ret (v := .agg #[I64 7, I64 0, I64 0]) (by rw [results_cell_oneN rfl]; go_simp) rfl ?_
   exact ⟨rfl, HF.out⟩
end Go.Proofs.Ytaicmiadgnpimaa
namespace Go.Proofs.Ytaicmiadgnpimaa
open Go.RowKit

def MSeen (R : Nat) (yes : Bool) (w : World) : Prop := w.cell? ⟨R, 8, none⟩ = some (.bool yes)
set_option maxHeartbeats 1000000 in
set_option maxRecDepth 100000 in
theorem mark_any (S : Nat → Prop) (R G n cap b : Nat) (c : Md.Call) (s : Md.State) (es : List Md.Effect) (W : Nat → Prop) (ev : SlV) (pvs : List PoolV) (w : World) (h : RunV S R c s es W (some ⟨G, 0, none⟩, n, cap) ev pvs w) (hb : c.backend = (b : Int)) (hn : n = s.pools.length) (hbn : b < s.pools.length) :
 Calls Try.prog 57 #[.pointer (some ⟨R, 0, none⟩)] w fun e w' => e = .returned (.agg #[I64 7, I64 0, I64 0]) ∧ RunE S R c (setP s b { s.pools[b] with up := c.yes }) es W G n cap w' ∧ Gb S w w' := by
 have hbp : b < pvs.length := by rw [h.len]; exact hbn
 have h0 := h.begin (.cells #[I64 0, I64 0, I64 0] 31)
 have hr0 := blk_new w (.cells #[I64 0, I64 0, I64 0] 31)
 have HBG : Hid (∀ w', Gb (fun k => S k ∧ k ≠ w.heap.size) (w.alloc (.cells #[I64 0, I64 0, I64 0] 31)) w' → Gb S w w') := fun w' hg => Gb.begin hg
 obtain ⟨r, hr⟩ : ∃ r, r = w.heap.size := ⟨_, rfl⟩
 obtain ⟨w0, hw0⟩ : ∃ w0, w0 = w.alloc (.cells #[I64 0, I64 0, I64 0] 31) := ⟨_, rfl⟩
 rw [← hr] at h0 HBG hr0
 rw [← hw0] at h0 HBG hr0
 have HSR : Hid (S r) := by rw [hr]; exact h.fresh _ (Nat.le_refl _)
 have HP := Lib.hid ((pool_any R G n cap b c s ev w0.drew (runCells_of (h0.below (Below.refl _ _).drew).blk) hb (by omega)).mono fun e w' q => (⟨q.1, (Below.refl _ _).drew.trans q.2⟩ : e = .returned (.pointer (some ⟨G, b * 11, none⟩)) ∧ Below w0.heap.size w0 w'))
 have HI : Hid (∀ w1, _) := fun w1 => is_any 7 w1
 have HR0 := Lib.hid hr0
 have HE0 : Hid (∀ w1, Below w0.heap.size w0 w1 → RunE (fun k => S k ∧ k ≠ r) R c s es W G n cap w1) := fun w1 hb1 => ⟨_, _, h0.below hb1⟩
 have HC : Hid (∀ w1, Below w0.heap.size w0 w1 → MSeen R c.yes w1 ∧ w1.cell? ⟨G, b * 11 + 8, none⟩ = some (.bool pvs[b].up) ∧ w1.frozen? ⟨G, b * 11 + 8, none⟩ = false) := fun w1 hb1 => by
  have h1 := h0.below hb1
  have hc := h1.cells hbp
  exact ⟨(runCells_of h1.blk).c8, hc.c8, hc.fr 8⟩
 have HS := Lib.hid (HC.out w0.drew (Below.refl _ _).drew).1
 have HW : Hid (∀ w1, Below w0.heap.size w0 w1 → RunE (fun k => S k ∧ k ≠ r) R c (setP s b { s.pools[b] with up := c.yes }) es W G n cap (w1.setCell ⟨G, b * 11 + 8, none⟩ (.bool c.yes)) ∧ Gb (fun k => S k ∧ k ≠ r) w0 (w1.setCell ⟨G, b * 11 + 8, none⟩ (.bool c.yes)) ∧ MSeen R c.yes (w1.setCell ⟨G, b * 11 + 8, none⟩ (.bool c.yes))) := fun w1 hb1 => by
  have ga := HE0.out w1 hb1
  have hSG := ga.subG
  have gb := ga.setU hbn _ rfl c.yes
  refine ⟨gb, (Gb.of_below (S := fun k => S k ∧ k ≠ r) hb1).setCell hSG _, ?_⟩
  obtain ⟨ev', pvs', gc⟩ := gb
  exact (runCells_of gc.blk).c8
 generalize setP s b { s.pools[b] with up := c.yes } = s2 at HW ⊢
 generalize c.yes = yes at HC HS HW
 clear h0 h hb hn hr0
 go_enter Try.func57, Try.ntmps57
 go_wp2_with fail
 simp only [← hw0, ← hr]
 clear hw0 hr
 refine wp_region_held_drew (S := MSeen R yes) (by kernel_rfl) HS.out (fun hHeld => ?_)
 refine tk 0 (v := ?vv0_1) (dropAt rfl) (Or.inl ⟨by rfl, ?hv0_1⟩) hHeld ?rv0_1
 case hv0_1 => (intro w hSw; unfold MSeen at hSw; go_simp; first | done | with_reducible rfl)
 try simp only [Act.put, pu2, pu3, pu4]
 refine tk 2 (v := ?vv2_2) (dropAt rfl) (Or.inl ⟨by rfl, ?hv2_2⟩) hHeld ?rv2_2
 case hv2_2 => (intro w hSw; unfold MSeen at hSw; go_simp; first | done | with_reducible rfl)
 try simp only [Act.put, pu2, pu3, pu4]
 refine tk 3 (v := ?vv3_3) (dropAt rfl) (Or.inl ⟨by rfl, ?hv3_3⟩) hHeld ?rv3_3
 case hv3_3 => (intro w hSw; unfold MSeen at hSw; go_simp; first | done | with_reducible rfl)
 try simp only [Act.put, pu2, pu3, pu4]
 refine tk 4 (v := ?vv4_4) (dropAt rfl) (Or.inl ⟨by rfl, ?hv4_4⟩) hHeld ?rv4_4
 case hv4_4 => (intro w hSw; unfold MSeen at hSw; go_simp; first | done | with_reducible rfl)
 try simp only [Act.put, pu2, pu3, pu4]
 refine tk 5 (v := ?vv5_5) (dropAt rfl) (Or.inl ⟨by rfl, ?hv5_5⟩) hHeld ?rv5_5
 case hv5_5 => (intro w hSw; unfold MSeen at hSw; go_simp; first | done | with_reducible rfl)
 try simp only [Act.put, pu2, pu3, pu4]
 refine tk 6 (v := ?vv6_6) (dropAt rfl) (Or.inl ⟨by rfl, ?hv6_6⟩) hHeld ?rv6_6
 case hv6_6 => (intro w hSw; unfold MSeen at hSw; go_simp; first | done | with_reducible rfl)
 try simp only [Act.put, pu2, pu3, pu4]
 refine wpAnyH_ready (rs := [1]) (by kernel_rfl) (by simp) ?_
 refine AllReadyH.cons (o := _) (dropAt (r := _) rfl) (fun K hK => ?_) AllReadyH.nil
 go_simp
 refine (HP.out).mono ?_
 rintro e w1 ⟨rfl, hb1⟩
 obtain ⟨k8, kU, fU⟩ := HC.out w1 hb1
 obtain ⟨hR, hG, h8⟩ := HW.out w1 hb1
 refine hK.out _ _ k8 (fun hHeld2 => ?_)
 clear hK K
 try simp only [Act.put, pu2, pu3, pu4]
 refine tk 7 (v := ?vv7_7) (dropAt rfl) (Or.inl ⟨by rfl, ?hv7_7⟩) hHeld2 ?rv7_7
 case hv7_7 => (intro w hSw; unfold MSeen at hSw; go_simp; first | done | with_reducible rfl)
 try simp only [Act.put, pu2, pu3, pu4]
 refine tk 8 (v := ?vv8_8) (dropAt rfl) (Or.inl ⟨by rfl, ?hv8_8⟩) hHeld2 ?rv8_8
 case hv8_8 => (intro w hSw; unfold MSeen at hSw; go_simp; first | done | with_reducible rfl)
 try simp only [Act.put, pu2, pu3, pu4]
 refine wpAnyH_ready (rs := [9]) (by kernel_rfl) (by simp) ?_
 refine AllReadyH.cons (o := _) (dropAt (r := _) rfl) (fun K hK => ?_) AllReadyH.nil
 go_simp
 refine hK.out _ _ h8 (fun hHeld3 => ?_)
 clear hK K
 try simp only [Act.put, pu2, pu3, pu4]
 refine wpAnyH_done (by kernel_rfl) ?_ _
 go_wp2_with fail
 refine (HI.out _).mono ?_
 rintro e w3 ⟨rfl, hb3⟩
 obtain ⟨hblk, hfin0⟩ := done_end hR hG HR0.out hb3 HBG.out HSR.out 7
 have HB3 := Lib.hid hblk
 have HF := Lib.hid hfin0
 have y0 := blk_cell hblk 0
 have y1 := blk_cell hblk 1
 have y2 := blk_cell hblk 2
 have v0 := blk_free hblk 0
 have v1 := blk_free hblk 1
 have v2 := blk_free hblk 2
 simp only [List.getElem?_toArray, List.getElem?_cons_succ, List.getElem?_cons_zero] at y0 y1 y2
 clear hblk hfin0 hb3 hR hG
 go_wp2
 have hfin := blk_set (blk_set (blk_set HB3.out 0 (I64 7)) 1 (I64 0)) 2 (I64 0)
 have z0 := blk_cell hfin 0
 have z1 := blk_cell hfin 1
 have z2 := blk_cell hfin 2
 simp only [List.setIfInBounds_toArray, List.set_cons_zero, List.set_cons_succ, List.getElem?_toArray, List.getElem?_cons_succ, List.getElem?_cons_zero] at z0 z1 z2
 clear hfin
 refine bodyPost_ret (v := .agg #[I64 7, I64 0, I64 0]) (by rw [results_cell_oneN rfl]; go_simp) rfl ?_
 exact ⟨rfl, HF.out⟩
end Go.Proofs.Ytaicmiadgnpimaa
namespace Go.Proofs.Ytaicmiadgnpimaa
open Go.RowKit

theorem RunV.inI {S : Nat → Prop} {R : Nat} {c : Md.Call} {s : Md.State} {es : List Md.Effect} {W : Nat → Prop} {G n cap : Nat} {ev : SlV} {pvs : List PoolV} {w w1 : World} (h : RunV S R c s es W (some ⟨G, 0, none⟩, n, cap) ev pvs w) {b : Nat} (hb : b < pvs.length) (hb' : b < s.pools.length) (hg : w.grownBy w1 (obS pvs[b].vI)) {l : List Md.Conn} (ho : OwnL 100 3 encConn w1 0 (valS pvs[b].vI) l) :
 RunV S R c (setP s b { s.pools[b] with idle := l }) es W (some ⟨G, 0, none⟩, n, cap) ev pvs w1 := by
 have hq := h.each b hb hb'
 have hGr : (valS (some ⟨G, 0, none⟩, n, cap)).ownBlock = none ∨ (valS (some ⟨G, 0, none⟩, n, cap)).ownBlock ≠ obS pvs[b].vI := by
  rw [valS_own]
  refine .inr fun e => (h.sep.row (k := G) rfl).2.2 b hb ?_
  show some G ∈ ob4 pvs[b]
  have e2 : some G = obS pvs[b].vI := e
  rw [e2]
  simp [ob4]
 have hset : pvs.set b pvs[b] = pvs := List.set_getElem_self hb
 have h9 := h.upd (W' := W) (pv' := pvs[b]) (p' := { s.pools[b] with idle := l }) (w2 := w1) hg hb (fun k hk => by rw [← hk]; simp [ob4]) (fun k hk => .inl hk) (by rw [hset]; exact h.sep) ⟨hq.lim, hq.up, hq.breaker, hq.probe, ho, hq.leases.kept hg (h.apart4 hb (f := 1) (g := 0) rfl rfl (by decide)), hq.dials.kept hg (h.apart4 hb (f := 2) (g := 0) rfl rfl (by decide)), hq.waiters.kept hg (h.apart4 hb (f := 3) (g := 0) rfl rfl (by decide)), fun y => (hq.wown y).kept hg (h.apart4 hb (f := 3) (g := 0) rfl rfl (by decide)), fun k hk => Nat.lt_of_lt_of_le (hq.wlt k hk) hg.size, hq.wcap⟩ (fun j hj hw => hw) (by rw [hset]; exact h.pools.kept hg hGr) ⟨rfl, rfl, rfl, Nat.le_refl _, fun _ _ _ => rfl⟩
 rw [hset] at h9
 exact h9
theorem RunV.inD {S : Nat → Prop} {R : Nat} {c : Md.Call} {s : Md.State} {es : List Md.Effect} {W : Nat → Prop} {G n cap : Nat} {ev : SlV} {pvs : List PoolV} {w w1 : World} (h : RunV S R c s es W (some ⟨G, 0, none⟩, n, cap) ev pvs w) {b : Nat} (hb : b < pvs.length) (hb' : b < s.pools.length) (hg : w.grownBy w1 (obS pvs[b].vD)) {l : List Md.Dial} (ho : OwnL 66 2 encDial w1 0 (valS pvs[b].vD) l) :
 RunV S R c (setP s b { s.pools[b] with dials := l }) es W (some ⟨G, 0, none⟩, n, cap) ev pvs w1 := by
 have hq := h.each b hb hb'
 have hGr : (valS (some ⟨G, 0, none⟩, n, cap)).ownBlock = none ∨ (valS (some ⟨G, 0, none⟩, n, cap)).ownBlock ≠ obS pvs[b].vD := by
  rw [valS_own]
  refine .inr fun e => (h.sep.row (k := G) rfl).2.2 b hb ?_
  show some G ∈ ob4 pvs[b]
  have e2 : some G = obS pvs[b].vD := e
  rw [e2]
  simp [ob4]
 have hset : pvs.set b pvs[b] = pvs := List.set_getElem_self hb
 have h9 := h.upd (W' := W) (pv' := pvs[b]) (p' := { s.pools[b] with dials := l }) (w2 := w1) hg hb (fun k hk => by rw [← hk]; simp [ob4]) (fun k hk => .inl hk) (by rw [hset]; exact h.sep) ⟨hq.lim, hq.up, hq.breaker, hq.probe, hq.idle.kept hg (h.apart4 hb (f := 0) (g := 2) rfl rfl (by decide)), hq.leases.kept hg (h.apart4 hb (f := 1) (g := 2) rfl rfl (by decide)), ho, hq.waiters.kept hg (h.apart4 hb (f := 3) (g := 2) rfl rfl (by decide)), fun y => (hq.wown y).kept hg (h.apart4 hb (f := 3) (g := 2) rfl rfl (by decide)), fun k hk => Nat.lt_of_lt_of_le (hq.wlt k hk) hg.size, hq.wcap⟩ (fun j hj hw => hw) (by rw [hset]; exact h.pools.kept hg hGr) ⟨rfl, rfl, rfl, Nat.le_refl _, fun _ _ _ => rfl⟩
 rw [hset] at h9
 exact h9
theorem RunV.inW {S : Nat → Prop} {R : Nat} {c : Md.Call} {s : Md.State} {es : List Md.Effect} {W : Nat → Prop} {G n cap : Nat} {ev : SlV} {pvs : List PoolV} {w w1 : World} (h : RunV S R c s es W (some ⟨G, 0, none⟩, n, cap) ev pvs w) {b : Nat} (hb : b < pvs.length) (hb' : b < s.pools.length) (hg : w.grownBy w1 (obS pvs[b].vW)) {l : List Md.Waiter} (ho : OwnL 58 2 encWaiter w1 0 (valS pvs[b].vW) l) :
 RunV S R c (setP s b { s.pools[b] with waiters := l }) es W (some ⟨G, 0, none⟩, n, cap) ev pvs w1 := by
 have hq := h.each b hb hb'
 have hGr : (valS (some ⟨G, 0, none⟩, n, cap)).ownBlock = none ∨ (valS (some ⟨G, 0, none⟩, n, cap)).ownBlock ≠ obS pvs[b].vW := by
  rw [valS_own]
  refine .inr fun e => (h.sep.row (k := G) rfl).2.2 b hb ?_
  show some G ∈ ob4 pvs[b]
  have e2 : some G = obS pvs[b].vW := e
  rw [e2]
  simp [ob4]
 have hset : pvs.set b pvs[b] = pvs := List.set_getElem_self hb
 have h9 := h.upd (W' := W) (pv' := pvs[b]) (p' := { s.pools[b] with waiters := l }) (w2 := w1) hg hb (fun k hk => by rw [← hk]; simp [ob4]) (fun k hk => .inl hk) (by rw [hset]; exact h.sep) ⟨hq.lim, hq.up, hq.breaker, hq.probe, hq.idle.kept hg (h.apart4 hb (f := 0) (g := 3) rfl rfl (by decide)), hq.leases.kept hg (h.apart4 hb (f := 1) (g := 3) rfl rfl (by decide)), hq.dials.kept hg (h.apart4 hb (f := 2) (g := 3) rfl rfl (by decide)), ho.reads encWaiter_len, fun _ => ho, fun k hk => Nat.lt_of_lt_of_le (hq.wlt k hk) hg.size, own_cap ho⟩ (fun j hj hw => hw) (by rw [hset]; exact h.pools.kept hg hGr) ⟨rfl, rfl, rfl, Nat.le_refl _, fun _ _ _ => rfl⟩
 rw [hset] at h9
 exact h9
end Go.Proofs.Ytaicmiadgnpimaa
namespace Go.Proofs.Ytaicmiadgnpimaa
open Go.RowKit

theorem modify_set {α : Type} (l : List α) (k : Nat) (hk : k < l.length) (f : α → α) : l.modify k f = l.set k (f l[k]) := by
 apply List.ext_getElem?
 intro i
 rw [List.getElem?_modify, List.getElem?_set]
 by_cases h : k = i
 · subst h
   simp [hk]
 · simp [h]
/-- A dial is told that its call is gone. -/
theorem RunV.goneAt {S : Nat → Prop} {R : Nat} {c : Md.Call} {s : Md.State} {es : List Md.Effect} {W : Nat → Prop} {G n cap : Nat} {ev : SlV} {pvs : List PoolV} {w : World} (h : RunV S R c s es W (some ⟨G, 0, none⟩, n, cap) ev pvs w) {b : Nat} (hb : b < pvs.length) (hb' : b < s.pools.length) {k : Nat} (hk : k < s.pools[b].dials.length) {g m dc : Nat} (hv : pvs[b].vD = (some ⟨g, 0, none⟩, m, dc)) :
 RunV S R c (setP s b { s.pools[b] with dials := s.pools[b].dials.modify k (fun x => (x.1, true)) }) es W (some ⟨G, 0, none⟩, n, cap) ev pvs (w.setCell ⟨g, k * 2 + 1, none⟩ (.bool true)) := by
 have hd := (h.each b hb hb').dials
 rw [modify_set _ _ hk]
 rw [hv] at hd
 refine h.inD hb hb' (by rw [hv]; exact setCell_grown w ⟨g, _, none⟩ _) ?_
 rw [hv]
 exact own_setAt encDial_len hd hk (i := 1) (by decide) rfl
/-- A backend's block is one of the run's. -/
theorem RunV.subP {S : Nat → Prop} {R : Nat} {c : Md.Call} {s : Md.State} {es : List Md.Effect} {W : Nat → Prop} {vp ev : SlV} {pvs : List PoolV} {w : World} (h : RunV S R c s es W vp ev pvs w) {b : Nat} (hb : b < pvs.length) {k : Nat} (hk : some k ∈ ob4 pvs[b]) : S k :=
 h.sub k (List.mem_cons_of_mem _ (List.mem_cons_of_mem _ (List.mem_cons_of_mem _ (mem_flat hb hk))))
/-- A waiter goes. -/
theorem RunV.delW {S : Nat → Prop} {R : Nat} {c : Md.Call} {s : Md.State} {es : List Md.Effect} {W : Nat → Prop} {G n cap : Nat} {ev : SlV} {pvs : List PoolV} {w : World} (h : RunV S R c s es W (some ⟨G, 0, none⟩, n, cap) ev pvs w) {b : Nat} (hb : b < pvs.length) (hb' : b < s.pools.length) (hW : W b) {k : Nat} (hk : k < s.pools[b].waiters.length) {g vc : Nat} (hv : pvs[b].vW = (some ⟨g, 0, none⟩, s.pools[b].waiters.length, vc)) (hl : s.pools[b].waiters.length ≤ 1000000) :
 Calls Try.prog 79 #[.slice (some ⟨g, 0, none⟩) s.pools[b].waiters.length vc, I64 k, I64 ((k : Int) + 1)] w fun e w' => e = .returned (.slice (some ⟨g, 0, none⟩) (s.pools[b].waiters.eraseIdx k).length vc) ∧
  w'.cell? ⟨G, b * 11 + 7, none⟩ = some (valS pvs[b].vW) ∧ w'.frozen? ⟨G, b * 11 + 7, none⟩ = false ∧ RunE S R c (setP s b { s.pools[b] with waiters := s.pools[b].waiters.eraseIdx k }) es W G n cap (w'.setCell ⟨G, b * 11 + 7, none⟩ (.slice (some ⟨g, 0, none⟩) (s.pools[b].waiters.eraseIdx k).length vc)) ∧ Gb S w (w'.setCell ⟨G, b * 11 + 7, none⟩ (.slice (some ⟨g, 0, none⟩) (s.pools[b].waiters.eraseIdx k).length vc)) := by
 have hq := (h.each b hb hb').wown hW
 rw [hv] at hq
 refine (delWaiter_any g vc k _ w hq hk hl).mono ?_
 rintro e w' ⟨rfl, ho, hg⟩
 have hob : obS pvs[b].vW = some g := by rw [hv]; rfl
 have hmem : some g ∈ ob4 pvs[b] := by rw [← hob]; simp [ob4]
 have hpc := (h.cells hb).kept hg (fun e => (h.sep.row (k := G) rfl).2.2 b hb (by rw [e]; exact hmem))
 refine ⟨rfl, hpc.c7, hpc.fr 7, ⟨_, _, h.setW hb hb' (w1 := w') (by rw [hob]; exact hg) (u := (some ⟨g, 0, none⟩, (s.pools[b].waiters.eraseIdx k).length, vc)) ho (.inl hob.symm)⟩, ?_⟩
 exact (Gb.of_grown (S := S) hg (fun k' hk' => by injection hk' with hk'; subst hk'; exact h.subP hb hmem)).setCell (h.sub G (by simp [owns, obS])) _
set_option maxHeartbeats 2000000 in
set_option maxRecDepth 100000 in
theorem cancel_any (S : Nat → Prop) (R G n cap b : Nat) (c : Md.Call) (s : Md.State) (es : List Md.Effect) (W : Nat → Prop) (ev : SlV) (pvs : List PoolV) (w : World) (h : RunV S R c s es W (some ⟨G, 0, none⟩, n, cap) ev pvs w) (hb : c.backend = (b : Int)) (hn : n = s.pools.length) (hbn : b < s.pools.length) (hf : PoolFit s.pools[b]) (hW : W b)
 (hx : Md.hasDial s.pools[b] c.call = false → Md.hasWaiter s.pools[b] c.call = true) :
 Calls Try.prog 51 #[.pointer (some ⟨R, 0, none⟩)] w fun e w' => e = .returned (.agg #[I64 7, I64 0, I64 0]) ∧ RunE S R c (setP s b (Md.cancel s.pools[b] c)) es W G n cap w' ∧ Gb S w w' := by
 have hbp : b < pvs.length := by rw [h.len]; exact hbn
 have h0 := h.begin (.cells #[I64 0, I64 0, I64 0] 31)
 have hr0 := blk_new w (.cells #[I64 0, I64 0, I64 0] 31)
 have HBG : Hid (∀ w', Gb (fun k => S k ∧ k ≠ w.heap.size) (w.alloc (.cells #[I64 0, I64 0, I64 0] 31)) w' → Gb S w w') := fun w' hg => Gb.begin hg
 obtain ⟨r, hr⟩ : ∃ r, r = w.heap.size := ⟨_, rfl⟩
 obtain ⟨w0, hw0⟩ : ∃ w0, w0 = w.alloc (.cells #[I64 0, I64 0, I64 0] 31) := ⟨_, rfl⟩
 rw [← hr] at h0 HBG hr0
 rw [← hw0] at h0 HBG hr0
 have HSR : Hid (S r) := by rw [hr]; exact h.fresh _ (Nat.le_refl _)
 have HP := Lib.hid (pool_any R G n cap b c s ev w0 (runCells_of h0.blk) hb (by omega))
 have HI : Hid (∀ w1, _) := fun w1 => is_any 7 w1
 have HR0 := Lib.hid hr0
 have HE0 : Hid (∀ w1, Below w0.heap.size w0 w1 → RunE (fun k => S k ∧ k ≠ r) R c s es W G n cap w1) := fun w1 hb1 => ⟨_, _, h0.below hb1⟩
 have hse := h0.seen hbn hf
 have HF : Hid (∀ w1, Below w0.heap.size w0 w1 → Calls Try.prog 66 #[.pointer (some ⟨G, b * 11, none⟩), I64 c.call] w1 fun e w' => e = .returned (.tuple #[I64 (ixI (fun y => y.1 == c.call) s.pools[b].leases), I64 (ixI (fun y => y.1 == c.call) s.pools[b].dials), I64 (ixI (fun y => y.1 == c.call) s.pools[b].waiters)]) ∧ Below w0.heap.size w0 w') := fun w1 hb1 =>
  (find_pool (hse.below hb1) c.call).mono fun e w' q => ⟨q.1, hb1.trans (q.2.mono hb1.size)⟩
 have HC : Hid (∀ w1, Below w0.heap.size w0 w1 → w1.cell? ⟨R, 5, none⟩ = some (I64 c.call)) := fun w1 hb1 => (runCells_of (h0.below hb1).blk).c5
 have e2 := ixI_neg (fun y => y.1 == c.call) s.pools[b].dials
 have p2 := ixI_pos (fun y => y.1 == c.call) s.pools[b].dials
 have p3 := ixI_pos (fun y => y.1 == c.call) s.pools[b].waiters
 unfold Md.hasDial Md.hasWaiter at hx
 unfold Md.cancel Md.hasDial Md.dialIx Md.waiterIx
 generalize hi2 : ixI (fun y => y.1 == c.call) s.pools[b].dials = i2 at HF e2 p2
 cases hd : (s.pools[b].dials.any fun y => y.1 == c.call) with
 | true =>
  obtain ⟨k, hk, hk1, rfl, hpk⟩ := p2 hd
  rw [if_pos rfl, hk1]
  have hqd := (h0.each b hbp hbn).dials
  obtain ⟨g, dc, hv⟩ := own_form0 hqd (by omega)
  have HW : Hid (∀ w1, Below w0.heap.size w0 w1 → (w1.cell? ⟨G, b * 11 + 6, none⟩ = some (.slice (some ⟨g, 0, none⟩) s.pools[b].dials.length dc) ∧ w1.cell? ⟨g, k * 2 + 1, none⟩ = some (.bool s.pools[b].dials[k].2) ∧ w1.frozen? ⟨g, k * 2 + 1, none⟩ = false) ∧
   RunE (fun k => S k ∧ k ≠ r) R c (setP s b { s.pools[b] with dials := s.pools[b].dials.modify k (fun x => (x.1, true)) }) es W G n cap (w1.setCell ⟨g, k * 2 + 1, none⟩ (.bool true)) ∧ Gb (fun k => S k ∧ k ≠ r) w0 (w1.setCell ⟨g, k * 2 + 1, none⟩ (.bool true))) := fun w1 hb1 => by
   have h1 := h0.below hb1
   have hqd1 := (h1.each b hbp hbn).dials
   have k6 := (h1.cells hbp).c6
   rw [hv] at hqd1 k6
   obtain ⟨k7, k8, _⟩ := own_cells encDial_len hqd1 hk (i := 1) (u := .bool s.pools[b].dials[k].2) rfl
   refine ⟨⟨k6, k7, k8⟩, ⟨_, _, h1.goneAt hbp hbn hk hv⟩, (Gb.of_below (S := fun k => S k ∧ k ≠ r) hb1).setCell (x := ⟨g, k * 2 + 1, none⟩) (h0.subP hbp (k := g) ?_) _⟩
   have hob : obS pvs[b].vD = some g := by rw [hv]; rfl
   rw [← hob]; simp [ob4]
  have hkz : (k : Int) < (s.pools[b].dials.length : Int) := by omega
  generalize setP s b { s.pools[b] with dials := s.pools[b].dials.modify k (fun x => (x.1, true)) } = s2 at HW ⊢
  generalize s.pools[b].dials[k].2 = gb at HW
  generalize s.pools[b].dials.length = nd at hkz HW
  generalize ixI (fun y => y.1 == c.call) s.pools[b].leases = i1 at HF
  generalize ixI (fun y => y.1 == c.call) s.pools[b].waiters = i3 at HF
  generalize c.call = cl at HC HF
  clear hse h0 h hb hn hr0 hf e2 p2 p3 hx hqd hv hk1 hpk hk hd hW hi2
  go_enter Try.func51, Try.ntmps51
  go_wp2_with fail
  simp only [← hw0, ← hr]
  clear hw0 hr
  refine HP.out.mono ?_
  rintro e w1 ⟨rfl, hb1⟩
  have c5 := HC.out w1 hb1
  go_wp2_with fail
  refine (HF.out _ hb1).mono ?_
  rintro e w2 ⟨rfl, hb2⟩
  obtain ⟨⟨k6, k7, k8⟩, hR, hG⟩ := HW.out w2 hb2
  go_wp2_with fail
  refine (HI.out _).mono ?_
  rintro e w3 ⟨rfl, hb3⟩
  obtain ⟨hblk, hfin0⟩ := done_end hR hG HR0.out hb3 HBG.out HSR.out 7
  have HB3 := Lib.hid hblk
  have HF := Lib.hid hfin0
  have y0 := blk_cell hblk 0
  have y1 := blk_cell hblk 1
  have y2 := blk_cell hblk 2
  have v0 := blk_free hblk 0
  have v1 := blk_free hblk 1
  have v2 := blk_free hblk 2
  simp only [List.getElem?_toArray, List.getElem?_cons_succ, List.getElem?_cons_zero] at y0 y1 y2
  clear hblk hfin0 hb3 hR hG
  go_wp2
  have hfin := blk_set (blk_set (blk_set HB3.out 0 (I64 7)) 1 (I64 0)) 2 (I64 0)
  have z0 := blk_cell hfin 0
  have z1 := blk_cell hfin 1
  have z2 := blk_cell hfin 2
  simp only [List.setIfInBounds_toArray, List.set_cons_zero, List.set_cons_succ, List.getElem?_toArray, List.getElem?_cons_succ, List.getElem?_cons_zero] at z0 z1 z2
  clear hfin
  refine bodyPost_ret (v := .agg #[I64 7, I64 0, I64 0]) (by rw [results_cell_oneN rfl]; go_simp) rfl ?_
  exact ⟨rfl, HF.out⟩
 | false =>
  have i2n : i2 < 0 := e2.2 hd
  obtain ⟨k, hk, hk1, hk2, hpk⟩ := p3 (hx hd)
  rw [if_neg (by simp), hk1]
  rw [hk2] at HF
  have hqw := (h0.each b hbp hbn).wown hW
  obtain ⟨g, vc, hv⟩ := own_form0 hqw (by omega)
  have HD : Hid (∀ w1, Below w0.heap.size w0 w1 → w1.cell? ⟨G, b * 11 + 7, none⟩ = some (.slice (some ⟨g, 0, none⟩) s.pools[b].waiters.length vc) ∧ Calls Try.prog 79 #[.slice (some ⟨g, 0, none⟩) s.pools[b].waiters.length vc, I64 k, I64 ((k : Int) + 1)] w1 fun e w' => e = .returned (.slice (some ⟨g, 0, none⟩) (s.pools[b].waiters.eraseIdx k).length vc) ∧
   w'.cell? ⟨G, b * 11 + 7, none⟩ = some (valS pvs[b].vW) ∧ w'.frozen? ⟨G, b * 11 + 7, none⟩ = false ∧ RunE (fun k => S k ∧ k ≠ r) R c (setP s b { s.pools[b] with waiters := s.pools[b].waiters.eraseIdx k }) es W G n cap (w'.setCell ⟨G, b * 11 + 7, none⟩ (.slice (some ⟨g, 0, none⟩) (s.pools[b].waiters.eraseIdx k).length vc)) ∧ Gb (fun k => S k ∧ k ≠ r) w0 (w'.setCell ⟨G, b * 11 + 7, none⟩ (.slice (some ⟨g, 0, none⟩) (s.pools[b].waiters.eraseIdx k).length vc))) := fun w1 hb1 => by
   have h1 := h0.below hb1
   have k7 := (h1.cells hbp).c7
   rw [hv] at k7
   refine ⟨k7, (h1.delW hbp hbn hW hk hv hf.wl).mono ?_⟩
   rintro e w' ⟨q1, q2, q3, q4, q5⟩
   exact ⟨q1, q2, q3, q4, (Gb.of_below hb1).trans q5⟩
  rw [hv] at HD
  unfold valS at HD
  dsimp only at HD
  have hkz : (k : Int) < (s.pools[b].waiters.length : Int) := by omega
  have hml : s.pools[b].waiters.length ≤ 1000000 := hf.wl
  generalize setP s b { s.pools[b] with waiters := s.pools[b].waiters.eraseIdx k } = s2 at HD ⊢
  generalize (s.pools[b].waiters.eraseIdx k).length = ne at HD
  generalize s.pools[b].waiters.length = nd at hkz HD hml
  generalize ixI (fun y => y.1 == c.call) s.pools[b].leases = i1 at HF
  generalize c.call = cl at HC HF
  clear hse h0 h hb hn hr0 hf e2 p2 p3 hx hqw hv hk1 hk2 hpk hk hd hW hi2
  go_enter Try.func51, Try.ntmps51
  go_wp2_with fail
  simp only [← hw0, ← hr]
  clear hw0 hr
  refine HP.out.mono ?_
  rintro e w1 ⟨rfl, hb1⟩
  have c5 := HC.out w1 hb1
  go_wp2_with fail
  refine (HF.out _ hb1).mono ?_
  rintro e w2 ⟨rfl, hb2⟩
  obtain ⟨k7, HD2⟩ := HD.out w2 hb2
  go_wp2_with fail
  refine HD2.mono ?_
  rintro e w3 ⟨rfl, k8, f8, hR, hG⟩
  go_wp2_with fail
  refine (HI.out _).mono ?_
  rintro e w4 ⟨rfl, hb4⟩
  obtain ⟨hblk, hfin0⟩ := done_end hR hG HR0.out hb4 HBG.out HSR.out 7
  have HB3 := Lib.hid hblk
  have HF := Lib.hid hfin0
  have y0 := blk_cell hblk 0
  have y1 := blk_cell hblk 1
  have y2 := blk_cell hblk 2
  have v0 := blk_free hblk 0
  have v1 := blk_free hblk 1
  have v2 := blk_free hblk 2
  simp only [List.getElem?_toArray, List.getElem?_cons_succ, List.getElem?_cons_zero] at y0 y1 y2
  clear hblk hfin0 hb4 hR hG
  go_wp2
  have hfin := blk_set (blk_set (blk_set HB3.out 0 (I64 7)) 1 (I64 0)) 2 (I64 0)
  have z0 := blk_cell hfin 0
  have z1 := blk_cell hfin 1
  have z2 := blk_cell hfin 2
  simp only [List.setIfInBounds_toArray, List.set_cons_zero, List.set_cons_succ, List.getElem?_toArray, List.getElem?_cons_succ, List.getElem?_cons_zero] at z0 z1 z2
  clear hfin
  refine bodyPost_ret (v := .agg #[I64 7, I64 0, I64 0]) (by rw [results_cell_oneN rfl]; go_simp) rfl ?_
  exact ⟨rfl, HF.out⟩
end Go.Proofs.Ytaicmiadgnpimaa
namespace Go.Proofs.Ytaicmiadgnpimaa
open Go.RowKit

theorem fit_good {s : Md.State} (hg : Md.Good s) {b : Nat} (hb : b < s.pools.length) : PoolFit s.pools[b] := by
 have hm := List.getElem_mem hb
 have h1 := hg.pool _ hm
 rw [Md.poolOk_iff] at h1
 obtain ⟨h2, h3, h4, h5, h6, h7⟩ := h1
 rw [Md.sizeOk_iff] at h2
 have h8 := Md.rangeOk_lim (hg.rng _ hm)
 unfold Md.limOk at h8
 simp only [Bool.and_eq_true, decide_eq_true_eq] at h8
 have h9 := (Md.numsOk_iff.1 (Md.pool_calls hg hb)).1
 have hu : Md.used s.pools[b] = s.pools[b].leases.length + s.pools[b].dials.length := rfl
 refine ⟨(Md.dialsOk_iff.1 h5).2, by omega, (Md.leasesOk_iff.1 h4).2.2, by omega, by omega, by omega, fun x hx => h9 _ ?_, by omega, by omega⟩
 unfold Md.pcalls
 exact List.mem_append_right _ (List.mem_map_of_mem hx)
theorem fit_dials {p : Md.Pool} (h : PoolFit p) (k : Nat) : PoolFit { p with dials := p.dials.eraseIdx k } :=
 ⟨h.ds.sublist (List.eraseIdx_sublist _ _), Nat.le_trans (List.eraseIdx_sublist _ _).length_le h.dl, h.ls, h.ll, h.il, h.wl, h.wp, h.ag⟩
theorem fit_leases {p : Md.Pool} (h : PoolFit p) (k : Nat) : PoolFit { p with leases := p.leases.eraseIdx k } :=
 ⟨h.ds, h.dl, h.ls.sublist (List.eraseIdx_sublist _ _), Nat.le_trans (List.eraseIdx_sublist _ _).length_le h.ll, h.il, h.wl, h.wp, h.ag⟩
theorem RunV.delL {S : Nat → Prop} {R : Nat} {c : Md.Call} {s : Md.State} {es : List Md.Effect} {W : Nat → Prop} {G n cap : Nat} {ev : SlV} {pvs : List PoolV} {w : World} (h : RunV S R c s es W (some ⟨G, 0, none⟩, n, cap) ev pvs w) {b : Nat} (hb : b < pvs.length) (hb' : b < s.pools.length) {k : Nat} (hk : k < s.pools[b].leases.length) {g vc : Nat} (hv : pvs[b].vL = (some ⟨g, 0, none⟩, s.pools[b].leases.length, vc)) (hl : s.pools[b].leases.length ≤ 1000000) :
 Calls Try.prog 78 #[.slice (some ⟨g, 0, none⟩) s.pools[b].leases.length vc, I64 k, I64 ((k : Int) + 1)] w fun e w' => e = .returned (.slice (some ⟨g, 0, none⟩) (s.pools[b].leases.eraseIdx k).length vc) ∧
  (w'.cell? ⟨G, b * 11 + 5, none⟩ = some (valS pvs[b].vL) ∧ w'.frozen? ⟨G, b * 11 + 5, none⟩ = false ∧ (∀ x, x ≠ g → w.heap.size > x → w'.heap[x]? = w.heap[x]?)) ∧ RunE S R c (setP s b { s.pools[b] with leases := s.pools[b].leases.eraseIdx k }) es W G n cap (w'.setCell ⟨G, b * 11 + 5, none⟩ (.slice (some ⟨g, 0, none⟩) (s.pools[b].leases.eraseIdx k).length vc)) ∧ Gb S w (w'.setCell ⟨G, b * 11 + 5, none⟩ (.slice (some ⟨g, 0, none⟩) (s.pools[b].leases.eraseIdx k).length vc)) := by
 have hq := (h.each b hb hb').leases
 rw [hv] at hq
 refine (delLease_any g vc k _ w hq hk hl).mono ?_
 rintro e w' ⟨rfl, ho, hg⟩
 have hob : obS pvs[b].vL = some g := by rw [hv]; rfl
 have hmem : some g ∈ ob4 pvs[b] := by rw [← hob]; simp [ob4]
 have hpc := (h.cells hb).kept hg (fun e => (h.sep.row (k := G) rfl).2.2 b hb (by rw [e]; exact hmem))
 refine ⟨rfl, ⟨hpc.c5, hpc.fr 5, fun x hx hl => hg.block x hl (fun e => hx (by injection e))⟩, ⟨_, _, h.setL hb hb' (w1 := w') (by rw [hob]; exact hg) (u := (some ⟨g, 0, none⟩, (s.pools[b].leases.eraseIdx k).length, vc)) ho (.inl hob.symm)⟩, ?_⟩
 exact (Gb.of_grown (S := S) hg (fun k' hk' => by injection hk' with hk'; subst hk'; exact h.subP hb hmem)).setCell (h.sub G (by simp [owns, obS])) _
theorem RunV.delD {S : Nat → Prop} {R : Nat} {c : Md.Call} {s : Md.State} {es : List Md.Effect} {W : Nat → Prop} {G n cap : Nat} {ev : SlV} {pvs : List PoolV} {w : World} (h : RunV S R c s es W (some ⟨G, 0, none⟩, n, cap) ev pvs w) {b : Nat} (hb : b < pvs.length) (hb' : b < s.pools.length) {k : Nat} (hk : k < s.pools[b].dials.length) {g vc : Nat} (hv : pvs[b].vD = (some ⟨g, 0, none⟩, s.pools[b].dials.length, vc)) (hl : s.pools[b].dials.length ≤ 1000000) :
 Calls Try.prog 74 #[.slice (some ⟨g, 0, none⟩) s.pools[b].dials.length vc, I64 k, I64 ((k : Int) + 1)] w fun e w' => e = .returned (.slice (some ⟨g, 0, none⟩) (s.pools[b].dials.eraseIdx k).length vc) ∧
  (w'.cell? ⟨G, b * 11 + 6, none⟩ = some (valS pvs[b].vD) ∧ w'.frozen? ⟨G, b * 11 + 6, none⟩ = false ∧ (∀ x, x ≠ g → w.heap.size > x → w'.heap[x]? = w.heap[x]?)) ∧ RunE S R c (setP s b { s.pools[b] with dials := s.pools[b].dials.eraseIdx k }) es W G n cap (w'.setCell ⟨G, b * 11 + 6, none⟩ (.slice (some ⟨g, 0, none⟩) (s.pools[b].dials.eraseIdx k).length vc)) ∧ Gb S w (w'.setCell ⟨G, b * 11 + 6, none⟩ (.slice (some ⟨g, 0, none⟩) (s.pools[b].dials.eraseIdx k).length vc)) := by
 have hq := (h.each b hb hb').dials
 rw [hv] at hq
 refine (delDial_any g vc k _ w hq hk hl).mono ?_
 rintro e w' ⟨rfl, ho, hg⟩
 have hob : obS pvs[b].vD = some g := by rw [hv]; rfl
 have hmem : some g ∈ ob4 pvs[b] := by rw [← hob]; simp [ob4]
 have hpc := (h.cells hb).kept hg (fun e => (h.sep.row (k := G) rfl).2.2 b hb (by rw [e]; exact hmem))
 refine ⟨rfl, ⟨hpc.c6, hpc.fr 6, fun x hx hl => hg.block x hl (fun e => hx (by injection e))⟩, ⟨_, _, h.setD hb hb' (w1 := w') (by rw [hob]; exact hg) (u := (some ⟨g, 0, none⟩, (s.pools[b].dials.eraseIdx k).length, vc)) ho (.inl hob.symm)⟩, ?_⟩
 exact (Gb.of_grown (S := S) hg (fun k' hk' => by injection hk' with hk'; subst hk'; exact h.subP hb hmem)).setCell (h.sub G (by simp [owns, obS])) _
end Go.Proofs.Ytaicmiadgnpimaa
