/-
  Walks for layer 26 (model): picks of an open state.
-/
import Derived.Test.YtaicmiadgnpimaaMgl
namespace Go.Proofs.Ytaicmiadgnpimaa
open Go.RowKit

theorem outK_len (s : Md.State) (c : Md.Call) (k : Nat) : (outK s c k).length ≤ k := by
 unfold outK
 rw [List.length_map]
 exact Nat.le_trans (List.length_filter_le _ _) (by rw [List.length_take]; omega)
theorem next_no {s : Md.State} {c : Md.Call} {k : Nat} (hk : k < s.pools.length) (h : (s.pools[k].breaker == 2) = false) : (outOf s c (s.pools[k], k)).next = s := by
 unfold outOf Md.pickP
 simp [h]
theorem next_pr {s : Md.State} {c : Md.Call} {k : Nat} (hk : k < s.pools.length) (h : s.pools[k].breaker = 2) : (outOf s c (s.pools[k], k)).next = setP s k { s.pools[k] with probe := c.call } := by
 unfold outOf Md.pickP setP
 simp [h]
def PS (R G B n cap : Nat) (cl : Int) (w : World) : Prop := w.cell? ⟨R, 2, none⟩ = some (.slice (some ⟨G, 0, none⟩) n cap) ∧ w.cell? ⟨B + 1, 2, none⟩ = some (I64 cl)

set_option maxHeartbeats 8000000 in
set_option maxRecDepth 100000 in
set_option linter.unusedVariables false in
set_option linter.unusedSimpArgs false in
theorem picks_open (c : Md.Call) (s : Md.State) (u : SlV) (pvs0 : List PoolV) (w : World) (h : PoolsRd w u pvs0 s.pools) (hs : s.shut = false) (hg : Md.Good s) (hk0 : 0 ≤ c.skip) (hk1 : c.skip ≤ 65535)
 (HB : ∀ w1, Below w.heap.size w w1 → Calls Try.prog 36 #[.agg #[I64 s.now, .bool s.shut, valS u], valCall c] w1 fun e w' => ∃ R, e = .returned (.pointer (some ⟨R, 0, none⟩)) ∧ (∃ G cap pvs, RunV (fun i => w1.heap.size ≤ i) R c s [] (fun _ => True) (some ⟨G, 0, none⟩, s.pools.length, cap) (none, 0, 0) pvs w') ∧ w1.heap.size ≤ R ∧ Below w1.heap.size w1 w') :
 Calls Try.prog 37 #[.agg #[I64 s.now, .bool s.shut, valS u], valCall c] w fun e w' => (∃ v, e = .returned v ∧ OutsRd w.heap.size w' v (Md.picks s c)) ∧ Below w.heap.size w w' := by
 rw [outK_all s c hs]
 obtain ⟨lz, hlz⟩ : ∃ x, x = (if (outK s c s.pools.length).isEmpty then [⟨(9, 0, 0), [], s⟩] else outK s c s.pools.length : List Md.Outcome) := ⟨_, rfl⟩
 rw [← hlz]
 have HLZ := Lib.hid hlz
 clear hlz
 have hul : u.2.1 = s.pools.length := (read_len h.1).trans h.2.1
 have HU := Lib.hid h
 have HG := Lib.hid hg
 have HSK := Lib.hid (skip_bit hk0 hk1)
 have hl16 := hg.len2
 clear h hg
 have HB' := Lib.hid HB
 clear HB
 obtain ⟨hbA, hcc⟩ := cc_new s u c w
 unfold OB3 OB8 at hbA hcc
 obtain ⟨⟨ua, un, uc⟩, hu0⟩ : ∃ x, x = u := ⟨_, rfl⟩
 obtain ⟨wA, hwA⟩ : ∃ x, x = (w.alloc (.cells #[I64 s.now, .bool s.shut, valS u] 26)).alloc (.cells #[I64 c.kind, I64 c.backend, I64 c.call, I64 c.conn, I64 c.time, .bool c.yes, I64 c.skip, I64 c.breaker] 36) := ⟨_, rfl⟩
 obtain ⟨B, hB⟩ : ∃ x, x = w.heap.size := ⟨_, rfl⟩
 rw [← hwA] at hbA hcc
 have HBA := Lib.hid hbA
 have HCC := Lib.hid hcc
 rw [← hB] at HCC
 have HBs := Lib.hid hB
 unfold valCall at *
 subst hu0
 unfold valS at *
 dsimp only at *
 clear hbA hcc
 rw [hs] at hwA HB' ⊢
 have HS := Lib.hid hs
 replace hul : un = s.pools.length := hul
 have HN := Lib.hid hul
 have h16 : un ≤ 16 := by omega
 have HK0 := Lib.hid hk0
 clear hs hul hl16 hk0 hk1
 go_enter Try.func37, Try.ntmps37
 go_wp2_with fail
 simp only [← hwA, ← hB]
 clear hwA hB
 go_loopw [5, 6, 7, 8, 23] (fun v5 _ _ _ kv wr => ∃ k : Nat, ∃ xs : List OutV, ∃ a n cp, k ≤ un ∧ kv = .int .i64 k ∧ v5 = .slice a n cp ∧ n = xs.length ∧ Hid (PkAt s c wA k xs (.slice a n cp) wr)) (fun _ _ _ _ kv _ => un - (intOf kv).toNat)
 case atStart => exact ⟨0, [], none, 0, 0, Nat.zero_le _, rfl, rfl, rfl, PkAt.start s c wA⟩
 case round =>
  obtain ⟨k, xs, a, n, cp, hkn, rfl, rfl, hnx, HC⟩ := hrel
  have hwr : Below w.heap.size w wr := HBA.out.trans (HC.out.bel.mono HBA.out.size)
  have HNX := Lib.hid hnx
  clear hnx
  by_cases hlt : k < un
  · have hk : k < s.pools.length := by rw [← HN.out]; exact hlt
    have hpr := HU.out.below hwr
    have hkp : k < pvs0.length := by rw [hpr.2.1]; exact hk
    obtain ⟨g, o, cap, e, _, hc⟩ := hpr.1.form (by intro e; rw [e] at hkp; simp at hkp)
    unfold valS at e
    injection e with e1 e2 e3
    replace e1 : ua = some ⟨g, o, none⟩ := e1
    subst e1
    clear e2 e3
    have hrk := hpr.2.2 k hkp hk
    have hrow := hc k hkp
    generalize pvs0[k] = pv at hrk hrow
    obtain ⟨⟨mx, qu, id, ag⟩, ⟨ia, iN, ic⟩, ⟨la, lN, lc⟩, ⟨da, dN, dc⟩, ⟨wa, wN, wc⟩, up, br, pr⟩ := pv
    have eup := hrk.up
    have ebr := hrk.breaker
    have epr := hrk.probe
    dsimp only at eup ebr epr
    have rr : ∀ i u, (encP ⟨⟨mx, qu, id, ag⟩, (ia, iN, ic), (la, lN, lc), (da, dN, dc), (wa, wN, wc), up, br, pr⟩)[i]? = some u → wr.cell? ⟨g, o + k * 11 + i, none⟩ = some u := hrow
    have m0 : wr.cell? ⟨g, o + k * 11, none⟩ = some (I64 mx) := rr 0 _ rfl
    have m1 : wr.cell? ⟨g, o + k * 11 + 1, none⟩ = some (I64 qu) := rr 1 _ rfl
    have m2 : wr.cell? ⟨g, o + k * 11 + 2, none⟩ = some (I64 id) := rr 2 _ rfl
    have m3 : wr.cell? ⟨g, o + k * 11 + 3, none⟩ = some (I64 ag) := rr 3 _ rfl
    have m4 : wr.cell? ⟨g, o + k * 11 + 4, none⟩ = some (.slice ia iN ic) := rr 4 _ rfl
    have m5 : wr.cell? ⟨g, o + k * 11 + 5, none⟩ = some (.slice la lN lc) := rr 5 _ rfl
    have m6 : wr.cell? ⟨g, o + k * 11 + 6, none⟩ = some (.slice da dN dc) := rr 6 _ rfl
    have m7 : wr.cell? ⟨g, o + k * 11 + 7, none⟩ = some (.slice wa wN wc) := rr 7 _ rfl
    have m8 : wr.cell? ⟨g, o + k * 11 + 8, none⟩ = some (.bool up) := rr 8 _ rfl
    have m9 : wr.cell? ⟨g, o + k * 11 + 9, none⟩ = some (I64 br) := rr 9 _ rfl
    have mt : wr.cell? ⟨g, o + k * 11 + 10, none⟩ = some (I64 pr) := rr 10 _ rfl
    have hal6 := (Below.refl wr.heap.size wr).alloc (Nat.le_refl _) (.cells #[I64 mx, I64 qu, I64 id, I64 ag, .slice ia iN ic, .slice la lN lc, .slice da dN dc, .slice wa wN wc, .bool up, I64 br, I64 pr] 48)
    have hA6 := HC.out.bel.trans (hal6.mono HC.out.bel.size)
    have HAL6 := Lib.hid hal6
    have HA6 := Lib.hid hA6
    have hmay : Md.may s.pools[k] k c.skip = (up && (br == 0 || (br == 2 && pr == 0)) && decide (c.skip.toNat / 2 ^ k % 2 = 0)) := by
     rw [eup, ebr, epr]
     rfl
    have hrng := HG.out.rng _ (List.getElem_mem hk)
    have hpok := (Md.poolOk_iff.1 (HG.out.pool _ (List.getElem_mem hk))).2.2.2.2.2
    have hbr : br = 0 ∨ br = 1 ∨ br = 2 := by
     unfold Md.rangeOk at hrng
     simp only [Bool.and_eq_true, decide_eq_true_eq] at hrng
     rw [ebr]
     omega
    have hpr0 : 0 ≤ pr := by
     unfold Md.probeOk at hpok
     simp only [Bool.or_eq_true, Bool.and_eq_true, beq_iff_eq, decide_eq_true_eq] at hpok
     rw [epr]
     omega
    have hbit := HSK.out k
    have hk64 : (k : Int) ≤ 64 := by omega
    have hk00 : (0 : Int) ≤ (k : Int) := Int.natCast_nonneg k
    have hltI : (k : Int) < (un : Int) := by omega
    have HPK := Lib.hid (show s.pools[k].breaker = br ∧ s.pools[k].probe = pr from ⟨ebr.symm, epr.symm⟩)
    obtain ⟨p0, p1, p2, p3, p4, p5, p6, p7, p8, p9, p10⟩ := HCC.out (wr.alloc (.cells #[I64 mx, I64 qu, I64 id, I64 ag, .slice ia iN ic, .slice la lN lc, .slice da dN dc, .slice wa wN wc, .bool up, I64 br, I64 pr] 48)) hA6
    unfold valS at p2
    dsimp only at p2
    rw [HS.out] at p1
    clear hrow hrk hpr hc rr eup ebr epr hrng hpok hal6 hA6 hwr
    cases up with
    | false =>
     clear hbr hbit hpr0
     have hm : Md.may s.pools[k] k c.skip = false := by rw [hmay]; simp []
     have HNXT := Lib.hid ((HC.out.below HAL6.out).skip hk hm)
     clear hm hmay
     go_wp2
     case roundEnd =>
      refine ⟨⟨k + 1, xs, a, n, cp, hlt, by rw [show (k : Int) + 1 = ((k + 1 : Nat) : Int) by omega], rfl, HNX.out, HNXT⟩, ?_⟩
      simp [intOf]
      omega
    | true =>
     rcases Nat.mod_two_eq_zero_or_one (c.skip.toNat / 2 ^ k) with hq | hq
     · rw [hq] at hbit hmay
       clear hq
       rcases hbr with rfl | rfl | rfl
       · clear hpr0
         have hm : Md.may s.pools[k] k c.skip = true := by rw [hmay]; simp
         have HM := Lib.hid hm
         clear hm hmay
         go_wp2_with fail
         refine (HB'.out (wr.alloc (.cells #[I64 mx, I64 qu, I64 id, I64 ag, .slice ia iN ic, .slice la lN lc, .slice da dN dc, .slice wa wN wc, .bool true, I64 0, I64 pr] 48)) (HBA.out.trans (HA6.out.mono HBA.out.size))).mono ?_
         rintro e w7 ⟨R, rfl, ⟨G, gcap, pvs, hrun⟩, hR, hb7⟩
         clear p0 p1 p2 p3 p4 p5 p6 p7 p8 p9 p10
         have hb7r : Below wr.heap.size wr w7 := HAL6.out.trans (hb7.mono HAL6.out.size)
         have hP := (hb7.block wr.heap.size (by simp)).trans (blk_new wr (.cells #[I64 mx, I64 qu, I64 id, I64 ag, .slice ia iN ic, .slice la lN lc, .slice da dN dc, .slice wa wN wc, .bool true, I64 0, I64 pr] 48))
         have q9 : w7.cell? ⟨wr.heap.size, 9, none⟩ = some (I64 0) := blk_cell hP 9
         clear hP hb7 hR
         have hEx : RunE (fun i => (wr.alloc (.cells #[I64 mx, I64 qu, I64 id, I64 ag, .slice ia iN ic, .slice la lN lc, .slice da dN dc, .slice wa wN wc, .bool true, I64 0, I64 pr] 48)).heap.size ≤ i) R c (outOf s c (s.pools[k], k)).next [] (fun _ => True) G s.pools.length gcap w7 := by
          rw [next_no hk (by rw [HPK.out.1]; rfl)]
          exact RunV.toE hrun
         have HBx := Lib.hid hb7r
         clear hrun hb7r
         have hrc := hEx.state
         obtain ⟨evx, hblk, -, -⟩ := hrc
         have hrc := runCells_of hblk
         have c0 := hrc.c0
         have c1 := hrc.c1
         have c2 := hrc.c2
         rw [show (outOf s c (s.pools[k], k)).next.now = s.now from rfl] at c0
         rw [show (outOf s c (s.pools[k], k)).next.shut = s.shut from rfl, HS.out] at c1
         unfold valS at c2
         dsimp only at c2
         have hal8 := (Below.refl w7.heap.size w7).alloc (Nat.le_refl _) (.cells #[I64 8, I64 k, I64 0, .slice none 0 0, I64 s.now, .bool false, .slice (some ⟨G, 0, none⟩) s.pools.length gcap] 78)
         have HOWN : Hid (OwnL 78 7 encO (w7.alloc (.cells #[I64 8, I64 k, I64 0, .slice none 0 0, I64 s.now, .bool false, .slice (some ⟨G, 0, none⟩) s.pools.length gcap] 78)) wA.heap.size (.slice a n cp) xs) := (HC.out.own.below HBx.out).below hal8
         have HNEW : Hid (∀ i u, (encO ((8, (k : Int), 0), (none, 0, 0), s.now, false, (some ⟨G, 0, none⟩, s.pools.length, gcap)))[i]? = some u → (w7.alloc (.cells #[I64 8, I64 k, I64 0, .slice none 0 0, I64 s.now, .bool false, .slice (some ⟨G, 0, none⟩) s.pools.length gcap] 78)).cell? ⟨w7.heap.size, i, none⟩ = some u) := fun i u hu => by
          have q := blk_cell (blk_new w7 (.cells #[I64 8, I64 k, I64 0, .slice none 0 0, I64 s.now, .bool false, .slice (some ⟨G, 0, none⟩) s.pools.length gcap] 78)) i
          exact q.trans (by simpa [encO, valS] using hu)
         have HLN : Hid (xs.length ≤ 16) := by have := outK_len s c k; have := HC.out.len; show xs.length ≤ 16; omega
         have HBS : Hid (wA.heap.size ≤ (w7.alloc (.cells #[I64 8, I64 k, I64 0, .slice none 0 0, I64 s.now, .bool false, .slice (some ⟨G, 0, none⟩) s.pools.length gcap] 78)).heap.size) := Nat.le_trans (HC.out.bel.trans (HBx.out.mono HC.out.bel.size)).size hal8.size
         have HPICK : Hid (∀ g' c' w9, OwnL 78 7 encO w9 wA.heap.size (.slice (some ⟨g', 0, none⟩) (xs.length + 1) c') (xs ++ [((8, (k : Int), 0), (none, 0, 0), s.now, false, (some ⟨G, 0, none⟩, s.pools.length, gcap))]) → (w7.alloc (.cells #[I64 8, I64 k, I64 0, .slice none 0 0, I64 s.now, .bool false, .slice (some ⟨G, 0, none⟩) s.pools.length gcap] 78)).grownBy w9 (Value.slice a n cp).ownBlock → (some g' = (Value.slice a n cp).ownBlock ∨ g' = (w7.alloc (.cells #[I64 8, I64 k, I64 0, .slice none 0 0, I64 s.now, .bool false, .slice (some ⟨G, 0, none⟩) s.pools.length gcap] 78)).heap.size) → PkAt s c wA (k + 1) (xs ++ [((8, (k : Int), 0), (none, 0, 0), s.now, false, (some ⟨G, 0, none⟩, s.pools.length, gcap))]) (.slice (some ⟨g', 0, none⟩) (xs.length + 1) c') w9) := fun g' c' w9 ho hg hat =>
          HC.out.pick hk HM.out HAL6.out.size HBx.out hEx hal8 (by rw [HS.out]) ho hg hat
         clear hrc hblk hal8 hEx
         go_wp2_with (at_builtin; refine appL_own elOut _ rfl _ _ rfl wA.heap.size (.slice a n cp) xs ((8, (k : Int), 0), (none, 0, 0), s.now, false, (some ⟨G, 0, none⟩, s.pools.length, gcap)) rfl HOWN.out w7.heap.size 1 rfl HNEW.out (by have := HLN.out; unfold maxLen; omega) (by have := HLN.out; omega) HBS.out ?_; rintro g' c' w9 hown hgr hat; have HNXT := Lib.hid (HPICK.out g' c' w9 hown hgr hat); clear hown hgr hat c0 c1 c2)
         case roundEnd =>
          refine ⟨⟨k + 1, xs ++ [((8, (k : Int), 0), (none, 0, 0), s.now, false, (some ⟨G, 0, none⟩, s.pools.length, gcap))], some ⟨g', 0, none⟩, xs.length + 1, c', hlt, by rw [show (k : Int) + 1 = ((k + 1 : Nat) : Int) by omega], rfl, by simp, HNXT⟩, ?_⟩
          simp [intOf]
          omega
       · clear hpr0
         have hm : Md.may s.pools[k] k c.skip = false := by rw [hmay]; simp []
         have HNXT := Lib.hid ((HC.out.below HAL6.out).skip hk hm)
         clear hm hmay
         go_wp2
         case roundEnd =>
          refine ⟨⟨k + 1, xs, a, n, cp, hlt, by rw [show (k : Int) + 1 = ((k + 1 : Nat) : Int) by omega], rfl, HNX.out, HNXT⟩, ?_⟩
          simp [intOf]
          omega
       · by_cases hp : 0 < pr
         · have hpd : decide (0 < pr) = true := decide_eq_true hp
           have hpe : (pr == 0) = false := by rw [beq_eq_false_iff_ne]; omega
           rw [hpe] at hmay
           clear hpe hpr0
           have hm : Md.may s.pools[k] k c.skip = false := by rw [hmay]; simp []
           have HNXT := Lib.hid ((HC.out.below HAL6.out).skip hk hm)
           clear hm hmay
           go_wp2
           case roundEnd =>
            refine ⟨⟨k + 1, xs, a, n, cp, hlt, by rw [show (k : Int) + 1 = ((k + 1 : Nat) : Int) by omega], rfl, HNX.out, HNXT⟩, ?_⟩
            simp [intOf]
            omega
         · have hpd : decide (0 < pr) = false := decide_eq_false hp
           have hpe : (pr == 0) = true := by rw [beq_iff_eq]; omega
           rw [hpe] at hmay
           clear hpe hpr0
           have hm : Md.may s.pools[k] k c.skip = true := by rw [hmay]; simp
           have HM := Lib.hid hm
           clear hm hmay
           go_wp2_with fail
           refine (HB'.out (wr.alloc (.cells #[I64 mx, I64 qu, I64 id, I64 ag, .slice ia iN ic, .slice la lN lc, .slice da dN dc, .slice wa wN wc, .bool true, I64 2, I64 pr] 48)) (HBA.out.trans (HA6.out.mono HBA.out.size))).mono ?_
           rintro e w7 ⟨R, rfl, ⟨G, gcap, pvs, hrun⟩, hR, hb7⟩
           clear p0 p1 p2 p3 p4 p5 p6 p7 p8 p9 p10
           have hb7r : Below wr.heap.size wr w7 := HAL6.out.trans (hb7.mono HAL6.out.size)
           have hP := (hb7.block wr.heap.size (by simp)).trans (blk_new wr (.cells #[I64 mx, I64 qu, I64 id, I64 ag, .slice ia iN ic, .slice la lN lc, .slice da dN dc, .slice wa wN wc, .bool true, I64 2, I64 pr] 48))
           have q9 : w7.cell? ⟨wr.heap.size, 9, none⟩ = some (I64 2) := blk_cell hP 9
           clear hP hb7 hR
           have hrx := hrun.below (Below.refl w7.heap.size w7).drew
           have hkp2 : k < pvs.length := by rw [hrx.len]; exact hk
           have hpc := hrx.cells hkp2
           have x2 := (runCells_of hrx.blk).c2
           unfold valS at x2
           dsimp only at x2
           have y5 : w7.drew.cell? ⟨B + 1, 2, none⟩ = some (I64 c.call) := (HCC.out w7.drew (HC.out.bel.trans (hb7r.mono HC.out.bel.size)).drew).2.2.2.2.2.1
           have y5A := cell_lt (HCC.out wA (.refl _ _)).2.2.2.2.2.1
           have hE2 := (RunV.toE hrx).setQ hk _ rfl c.call
           have hSG : (wr.alloc (.cells #[I64 mx, I64 qu, I64 id, I64 ag, .slice ia iN ic, .slice la lN lc, .slice da dN dc, .slice wa wN wc, .bool true, I64 2, I64 pr] 48)).heap.size ≤ G := hrx.sub G (by simp [owns, obS])
           have hMr : wr.heap.size ≤ (wr.alloc (.cells #[I64 mx, I64 qu, I64 id, I64 ag, .slice ia iN ic, .slice la lN lc, .slice da dN dc, .slice wa wN wc, .bool true, I64 2, I64 pr] 48)).heap.size := HAL6.out.size
           have hAr := HC.out.bel.size
           have hGb : Gb (fun i => (wr.alloc (.cells #[I64 mx, I64 qu, I64 id, I64 ag, .slice ia iN ic, .slice la lN lc, .slice da dN dc, .slice wa wN wc, .bool true, I64 2, I64 pr] 48)).heap.size ≤ i) w7.drew (w7.drew.setCell ⟨G, k * 11 + 10, none⟩ (I64 c.call)) := (Gb.refl _ _).setCell (x := ⟨G, k * 11 + 10, none⟩) hSG _
           have HPS : Hid (PS R G B s.pools.length gcap c.call w7.drew) := ⟨x2, y5⟩
           have HPS2 : Hid (PS R G B s.pools.length gcap c.call (w7.drew.setCell ⟨G, k * 11 + 10, none⟩ (I64 c.call))) := by
            obtain ⟨_, hq, _, _⟩ := hE2.state
            exact ⟨(runCells_of hq).c2, hGb.cellOf (b := B + 1) (by omega) y5⟩
           have HBx : Hid (Below wr.heap.size wr (w7.drew.setCell ⟨G, k * 11 + 10, none⟩ (I64 c.call))) := hb7r.drew.setCell (p := ⟨G, k * 11 + 10, none⟩) (Nat.le_trans hMr hSG) _
           have hEx : RunE (fun i => (wr.alloc (.cells #[I64 mx, I64 qu, I64 id, I64 ag, .slice ia iN ic, .slice la lN lc, .slice da dN dc, .slice wa wN wc, .bool true, I64 2, I64 pr] 48)).heap.size ≤ i) R c (outOf s c (s.pools[k], k)).next [] (fun _ => True) G s.pools.length gcap (w7.drew.setCell ⟨G, k * 11 + 10, none⟩ (I64 c.call)) := by
            rw [next_pr hk HPK.out.1]
            exact hE2
           have HEX := Lib.hid hEx
           have u10 := hpc.c10
           have f10 := hpc.fr 10
           have hkI : (k : Int) < (s.pools.length : Int) := by omega
           clear hrun hb7r hrx hpc x2 y5 y5A hE2 hSG hMr hAr hGb hEx
           go_wp2_with fail
           refine wp_region_held_drew (S := PS R G B s.pools.length gcap c.call) (by kernel_rfl) HPS.out (fun hHeld => ?_)
           refine tk 0 (v := ?vv0_7) (dropAt rfl) (Or.inl ⟨by rfl, ?hv0_7⟩) hHeld ?rv0_7
           case hv0_7 => (intro w hSw; obtain ⟨hS1, hS2⟩ := hSw; go_simp; first | done | with_reducible rfl)
           try simp only [Act.put, pu2, pu3, pu4]
           refine tk 1 (v := ?vv1_8) (dropAt rfl) (Or.inl ⟨by rfl, ?hv1_8⟩) hHeld ?rv1_8
           case hv1_8 => (intro w hSw; obtain ⟨hS1, hS2⟩ := hSw; go_simp; first | done | with_reducible rfl)
           try simp only [Act.put, pu2, pu3, pu4]
           refine tk 2 (v := ?vv2_9) (dropAt rfl) (Or.inl ⟨by rfl, ?hv2_9⟩) hHeld ?rv2_9
           case hv2_9 => (intro w hSw; obtain ⟨hS1, hS2⟩ := hSw; go_simp; first | done | with_reducible rfl)
           try simp only [Act.put, pu2, pu3, pu4]
           refine tk 3 (v := ?vv3_10) (dropAt rfl) (Or.inl ⟨by rfl, ?hv3_10⟩) hHeld ?rv3_10
           case hv3_10 => (intro w hSw; obtain ⟨hS1, hS2⟩ := hSw; go_simp; first | done | with_reducible rfl)
           try simp only [Act.put, pu2, pu3, pu4]
           refine tk 4 (v := ?vv4_11) (dropAt rfl) (Or.inl ⟨by rfl, ?hv4_11⟩) hHeld ?rv4_11
           case hv4_11 => (intro w hSw; obtain ⟨hS1, hS2⟩ := hSw; go_simp; first | done | with_reducible rfl)
           try simp only [Act.put, pu2, pu3, pu4]
           refine tk 5 (v := ?vv5_12) (dropAt rfl) (Or.inl ⟨by rfl, ?hv5_12⟩) hHeld ?rv5_12
           case hv5_12 => (intro w hSw; obtain ⟨hS1, hS2⟩ := hSw; go_simp; first | done | with_reducible rfl)
           try simp only [Act.put, pu2, pu3, pu4]
           refine tk 6 (v := ?vv6_13) (dropAt rfl) (Or.inl ⟨by rfl, ?hv6_13⟩) hHeld ?rv6_13
           case hv6_13 => (intro w hSw; obtain ⟨hS1, hS2⟩ := hSw; go_simp; first | done | with_reducible rfl)
           try simp only [Act.put, pu2, pu3, pu4]
           refine tk 7 (v := ?vv7_14) (dropAt rfl) (Or.inl ⟨by rfl, ?hv7_14⟩) hHeld ?rv7_14
           case hv7_14 => (intro w hSw; obtain ⟨hS1, hS2⟩ := hSw; go_simp; first | done | with_reducible rfl)
           try simp only [Act.put, pu2, pu3, pu4]
           refine tk 8 (v := ?vv8_15) (dropAt rfl) (Or.inl ⟨by rfl, ?hv8_15⟩) hHeld ?rv8_15
           case hv8_15 => (intro w hSw; obtain ⟨hS1, hS2⟩ := hSw; go_simp; first | done | with_reducible rfl)
           try simp only [Act.put, pu2, pu3, pu4]
           refine tk 9 (v := ?vv9_16) (dropAt rfl) (Or.inl ⟨by rfl, ?hv9_16⟩) hHeld ?rv9_16
           case hv9_16 => (intro w hSw; obtain ⟨hS1, hS2⟩ := hSw; go_simp; first | done | with_reducible rfl)
           try simp only [Act.put, pu2, pu3, pu4]
           refine wpAnyH_ready (rs := [10]) (by kernel_rfl) (by simp) ?_
           refine AllReadyH.cons (o := _) (dropAt (r := _) rfl) (fun K hK => ?_) AllReadyH.nil
           go_simp
           refine hK.out _ _ HPS2.out (fun hHeld2 => ?_)
           clear hK K
           try simp only [Act.put, pu2, pu3, pu4]
           refine wpAnyH_done (by kernel_rfl) ?_ _
           clear u10 f10 hkI HPS HPS2 hHeld hHeld2
           have hEx := HEX.out
           clear HEX
           obtain ⟨wy, hwy⟩ : ∃ x, x = (w7.drew.setCell ⟨G, k * 11 + 10, none⟩ (I64 c.call)) := ⟨_, rfl⟩
           rw [← hwy] at hEx HBx
           rw [show (w7.setCell ⟨G, k * 11 + 10, none⟩ (I64 c.call)).drew = wy from hwy.symm]
           clear hwy
           have hrc := hEx.state
           obtain ⟨evx, hblk, -, -⟩ := hrc
           have hrc := runCells_of hblk
           have c0 := hrc.c0
           have c1 := hrc.c1
           have c2 := hrc.c2
           rw [show (outOf s c (s.pools[k], k)).next.now = s.now from rfl] at c0
           rw [show (outOf s c (s.pools[k], k)).next.shut = s.shut from rfl, HS.out] at c1
           unfold valS at c2
           dsimp only at c2
           have hal8 := (Below.refl wy.heap.size wy).alloc (Nat.le_refl _) (.cells #[I64 8, I64 k, I64 0, .slice none 0 0, I64 s.now, .bool false, .slice (some ⟨G, 0, none⟩) s.pools.length gcap] 78)
           have HOWN : Hid (OwnL 78 7 encO (wy.alloc (.cells #[I64 8, I64 k, I64 0, .slice none 0 0, I64 s.now, .bool false, .slice (some ⟨G, 0, none⟩) s.pools.length gcap] 78)) wA.heap.size (.slice a n cp) xs) := (HC.out.own.below HBx.out).below hal8
           have HNEW : Hid (∀ i u, (encO ((8, (k : Int), 0), (none, 0, 0), s.now, false, (some ⟨G, 0, none⟩, s.pools.length, gcap)))[i]? = some u → (wy.alloc (.cells #[I64 8, I64 k, I64 0, .slice none 0 0, I64 s.now, .bool false, .slice (some ⟨G, 0, none⟩) s.pools.length gcap] 78)).cell? ⟨wy.heap.size, i, none⟩ = some u) := fun i u hu => by
            have q := blk_cell (blk_new wy (.cells #[I64 8, I64 k, I64 0, .slice none 0 0, I64 s.now, .bool false, .slice (some ⟨G, 0, none⟩) s.pools.length gcap] 78)) i
            exact q.trans (by simpa [encO, valS] using hu)
           have HLN : Hid (xs.length ≤ 16) := by have := outK_len s c k; have := HC.out.len; show xs.length ≤ 16; omega
           have HBS : Hid (wA.heap.size ≤ (wy.alloc (.cells #[I64 8, I64 k, I64 0, .slice none 0 0, I64 s.now, .bool false, .slice (some ⟨G, 0, none⟩) s.pools.length gcap] 78)).heap.size) := Nat.le_trans (HC.out.bel.trans (HBx.out.mono HC.out.bel.size)).size hal8.size
           have HPICK : Hid (∀ g' c' w9, OwnL 78 7 encO w9 wA.heap.size (.slice (some ⟨g', 0, none⟩) (xs.length + 1) c') (xs ++ [((8, (k : Int), 0), (none, 0, 0), s.now, false, (some ⟨G, 0, none⟩, s.pools.length, gcap))]) → (wy.alloc (.cells #[I64 8, I64 k, I64 0, .slice none 0 0, I64 s.now, .bool false, .slice (some ⟨G, 0, none⟩) s.pools.length gcap] 78)).grownBy w9 (Value.slice a n cp).ownBlock → (some g' = (Value.slice a n cp).ownBlock ∨ g' = (wy.alloc (.cells #[I64 8, I64 k, I64 0, .slice none 0 0, I64 s.now, .bool false, .slice (some ⟨G, 0, none⟩) s.pools.length gcap] 78)).heap.size) → PkAt s c wA (k + 1) (xs ++ [((8, (k : Int), 0), (none, 0, 0), s.now, false, (some ⟨G, 0, none⟩, s.pools.length, gcap))]) (.slice (some ⟨g', 0, none⟩) (xs.length + 1) c') w9) := fun g' c' w9 ho hg hat =>
            HC.out.pick hk HM.out HAL6.out.size HBx.out hEx hal8 (by rw [HS.out]) ho hg hat
           clear hrc hblk hal8 hEx
           go_wp2_with (at_builtin; refine appL_own elOut _ rfl _ _ rfl wA.heap.size (.slice a n cp) xs ((8, (k : Int), 0), (none, 0, 0), s.now, false, (some ⟨G, 0, none⟩, s.pools.length, gcap)) rfl HOWN.out wy.heap.size 1 rfl HNEW.out (by have := HLN.out; unfold maxLen; omega) (by have := HLN.out; omega) HBS.out ?_; rintro g' c' w9 hown hgr hat; have HNXT := Lib.hid (HPICK.out g' c' w9 hown hgr hat); clear hown hgr hat c0 c1 c2)
           case roundEnd =>
            refine ⟨⟨k + 1, xs ++ [((8, (k : Int), 0), (none, 0, 0), s.now, false, (some ⟨G, 0, none⟩, s.pools.length, gcap))], some ⟨g', 0, none⟩, xs.length + 1, c', hlt, by rw [show (k : Int) + 1 = ((k + 1 : Nat) : Int) by omega], rfl, by simp, HNXT⟩, ?_⟩
            simp [intOf]
            omega
     · rw [hq] at hbit hmay
       clear hq hbr hpr0
       have hm : Md.may s.pools[k] k c.skip = false := by rw [hmay]; simp []
       have HNXT := Lib.hid ((HC.out.below HAL6.out).skip hk hm)
       clear hm hmay
       go_wp2
       case roundEnd =>
        refine ⟨⟨k + 1, xs, a, n, cp, hlt, by rw [show (k : Int) + 1 = ((k + 1 : Nat) : Int) by omega], rfl, HNX.out, HNXT⟩, ?_⟩
        simp [intOf]
        omega
  · have hkE : k = un := by omega
    subst hkE
    have hb := HC.out.bel
    have HBC := Lib.hid hb
    have hos : OutsRd wA.heap.size wr (.slice a n cp) (outK s c s.pools.length) := by
     have q := HC.out.outs
     rw [HN.out] at q
     exact q
    have hnl : n = (outK s c s.pools.length).length := by rw [HNX.out, HC.out.len, HN.out]
    have HWR := Lib.hid hwr
    have hkk : ¬ (k : Int) < (k : Int) := by omega
    clear hb hlt hkn
    by_cases hn0 : n = 0
    · subst hn0
      have HL : Hid (lz = ([⟨(9, 0, 0), [], s⟩] : List Md.Outcome)) := by
       have e : outK s c s.pools.length = [] := List.eq_nil_of_length_eq_zero hnl.symm
       show lz = _
       rw [HLZ.out, e]
       rfl
      clear hos hnl hwr
      go_wp2_with fail
      refine wp_region_held_drew (S := fun w1 => Hid (Below wA.heap.size wA w1)) (by kernel_rfl) HBC.out.drew (fun hHeld => ?_)
      refine tk 1 (v := ?vv1_1) (dropAt rfl) (Or.inl ⟨by rfl, ?hv1_1⟩) hHeld ?rv1_1
      case hv1_1 => (intro w hSw; obtain ⟨o0, o1, o2, o3, o4, o5, o6, o7, o8, o9, o10⟩ := HCC.out _ hSw.out; unfold valS at o2; dsimp only at o2; rw [HS.out] at o1; go_simp; first | done | with_reducible rfl)
      try simp only [Act.put, pu2, pu3, pu4]
      refine tk 2 (v := ?vv2_2) (dropAt rfl) (Or.inl ⟨by rfl, ?hv2_2⟩) hHeld ?rv2_2
      case hv2_2 => (intro w hSw; obtain ⟨o0, o1, o2, o3, o4, o5, o6, o7, o8, o9, o10⟩ := HCC.out _ hSw.out; unfold valS at o2; dsimp only at o2; rw [HS.out] at o1; go_simp; first | done | with_reducible rfl)
      try simp only [Act.put, pu2, pu3, pu4]
      refine wpAnyH_ready (rs := [0]) (by kernel_rfl) (by simp) ?_
      refine AllReadyH.cons (o := _) (dropAt (r := _) rfl) (fun K hK => ?_) AllReadyH.nil
      go_simp
      refine (is_any 9 _).mono ?_
      rintro e w3 ⟨rfl, hb3⟩
      have hb3A : Below wA.heap.size wA w3 := hHeld.out.trans (hb3.mono hHeld.out.size)
      refine hK.out _ _ hb3A (fun hHeld3 => ?_)
      clear hK K hb3
      try simp only [Act.put, pu2, pu3, pu4]
      refine wpAnyH_ready (rs := [3]) (by kernel_rfl) (by simp) ?_
      refine AllReadyH.cons (o := _) (dropAt (r := _) rfl) (fun K hK => ?_) AllReadyH.nil
      go_simp
      refine (HB'.out w3 (HBA.out.trans (hb3A.mono HBA.out.size))).mono ?_
      rintro e w4 ⟨R, rfl, ⟨G, cap, pvs, hrun⟩, hR, hb4⟩
      have hb4A : Below wA.heap.size wA w4 := hb3A.trans (hb4.mono hb3A.size)
      have HB4 := Lib.hid hb4A
      have HFIN : Hid ((∃ v, Ending.returned (.slice (some ⟨w4.heap.size, 0, none⟩) 1 1) = .returned v ∧ OutsRd w.heap.size (w4.alloc (.cells #[I64 9, I64 0, I64 0, .slice none 0 0, I64 s.now, .bool false, .slice (some ⟨G, 0, none⟩) s.pools.length cap] 78)) v lz) ∧ Below w.heap.size w (w4.alloc (.cells #[I64 9, I64 0, I64 0, .slice none 0 0, I64 s.now, .bool false, .slice (some ⟨G, 0, none⟩) s.pools.length cap] 78))) := by
       have hq3 := HBA.out.trans (hb3A.mono HBA.out.size)
       obtain ⟨ev, -, hp⟩ := (RunV.toE hrun).stateM (M := w.heap.size) (fun k hk => Nat.le_trans hq3.size hk)
       have hq := HBA.out.trans (hb4A.mono HBA.out.size)
       rw [HL.out]
       exact ⟨⟨_, rfl, OutsRd.one (o := ⟨(9, 0, 0), [], s⟩) (x := ((9, 0, 0), (none, 0, 0), s.now, false, (some ⟨G, 0, none⟩, s.pools.length, cap))) (fun w2 hg => ⟨rfl, .nil _, rfl, HS.out.symm, (hp w2 hg).1⟩) hq.size _⟩, hq.alloc hq.size _⟩
      have HB5 := Lib.hid (hb4A.alloc hb4A.size (.cells #[I64 9, I64 0, I64 0, .slice none 0 0, I64 s.now, .bool false, .slice (some ⟨G, 0, none⟩) s.pools.length cap] 78))
      have hrc := runCells_of hrun.blk
      have c0 := hrc.c0
      have c1 := hrc.c1
      have c2 := hrc.c2
      rw [HS.out] at c1
      unfold valS at c2
      dsimp only at c2
      clear hrc hrun hR hb4
      refine hK.out _ _ hb4A (fun hHeld4 => ?_)
      clear hK K hb4A hb3A
      try simp only [Act.put, pu2, pu3, pu4]
      refine tk 4 (v := ?vv4_3) (dropAt rfl) (Or.inl ⟨by rfl, ?hv4_3⟩) hHeld4 ?rv4_3
      case hv4_3 => (intro w hSw; go_simp; first | done | with_reducible rfl)
      try simp only [Act.put, pu2, pu3, pu4]
      refine tk 5 (v := ?vv5_4) (dropAt rfl) (Or.inl ⟨by rfl, ?hv5_4⟩) hHeld4 ?rv5_4
      case hv5_4 => (intro w hSw; go_simp; first | done | with_reducible rfl)
      try simp only [Act.put, pu2, pu3, pu4]
      refine wpAnyH_ready (rs := [6]) (by kernel_rfl) (by simp) ?_
      refine AllReadyH.cons (o := _) (dropAt (r := _) rfl) (fun K hK => ?_) AllReadyH.nil
      go_simp
      refine hK.out _ _ HB4 (fun hHeld5 => ?_)
      clear hK K
      try simp only [Act.put, pu2, pu3, pu4]
      refine tk 7 (v := ?vv7_5) (dropAt rfl) (Or.inl ⟨by rfl, ?hv7_5⟩) hHeld5 ?rv7_5
      case hv7_5 => (intro w hSw; go_simp; first | done | with_reducible rfl)
      try simp only [Act.put, pu2, pu3, pu4]
      refine wpAnyH_ready (rs := [8]) (by kernel_rfl) (by simp) ?_
      refine AllReadyH.cons (o := _) (dropAt (r := _) rfl) (fun K hK => ?_) AllReadyH.nil
      go_simp
      refine hK.out _ _ HB5 (fun hHeld6 => ?_)
      clear hK K
      try simp only [Act.put, pu2, pu3, pu4]
      refine tk 9 (v := ?vv9_6) (dropAt rfl) (Or.inl ⟨by rfl, ?hv9_6⟩) hHeld6 ?rv9_6
      case hv9_6 => (intro w hSw; go_simp; first | done | with_reducible rfl)
      try simp only [Act.put, pu2, pu3, pu4]
      refine wpAnyH_done (by kernel_rfl) ?_ _
      clear c0 c1 c2
      go_wp2_with fail
      go_ret
      exact HFIN.out
    · have hn1 : ((n : Int) == 0) = false := by rw [beq_eq_false_iff_ne]; omega
      have HL : Hid ((∃ v, Ending.returned (.slice a n cp) = .returned v ∧ OutsRd w.heap.size wr v lz) ∧ Below w.heap.size w wr) := by
       have e : (outK s c s.pools.length).isEmpty = false := by
        cases hq : outK s c s.pools.length with
        | nil => rw [hq] at hnl; exact absurd hnl hn0
        | cons _ _ => rfl
       refine ⟨⟨_, rfl, ?_⟩, hwr⟩
       rw [HLZ.out, if_neg (by rw [e]; exact Bool.false_ne_true)]
       exact hos.mono HBA.out.size
      clear hos hnl hwr hn0
      go_wp2_with fail
      go_ret
      exact HL.out
end Go.Proofs.Ytaicmiadgnpimaa
