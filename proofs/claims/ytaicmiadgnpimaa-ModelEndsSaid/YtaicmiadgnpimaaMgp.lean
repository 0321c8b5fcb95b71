/-
  Walks for layer 26 (model): picks, Outcomes and Step, whole.
-/
import Derived.Test.YtaicmiadgnpimaaMw54
import Derived.Test.YtaicmiadgnpimaaMw55
namespace Go.Proofs.Ytaicmiadgnpimaa
open Go.RowKit

theorem small_short {p : Md.Pool} (h : PoolSmall p) : PoolShort p := by
  obtain ⟨a, b, c, d⟩ := h
  exact ⟨by omega, by omega, by omega, by omega⟩
theorem begin_hb (c : Md.Call) (s : Md.State) (u : SlV) (pvs0 : List PoolV) (w : World) (h : PoolsRd w u pvs0 s.pools) (hg : Md.Good s) (hsz : ∀ p ∈ s.pools, PoolSmall p) :
    ∀ w1, Below w.heap.size w w1 → Calls Try.prog 36 #[.agg #[I64 s.now, .bool s.shut, valS u], valCall c] w1 fun e w' => ∃ R, e = .returned (.pointer (some ⟨R, 0, none⟩)) ∧ (∃ G cap pvs, RunV (fun i => w1.heap.size ≤ i) R c s [] (fun _ => True) (some ⟨G, 0, none⟩, s.pools.length, cap) (none, 0, 0) pvs w') ∧ w1.heap.size ≤ R ∧ Below w1.heap.size w1 w' :=
  fun w1 hb => begin_any c s u pvs0 w1 (h.below hb) hg.len1 (Nat.le_trans hg.len2 (by decide)) (fun p hp => small_short (hsz p hp))
theorem picks_any (c : Md.Call) (s : Md.State) (u : SlV) (pvs0 : List PoolV) (w : World) (h : PoolsRd w u pvs0 s.pools) (hg : Md.Good s) (hsz : ∀ p ∈ s.pools, PoolSmall p) (hk0 : 0 ≤ c.skip) (hk1 : c.skip ≤ 65535) :
    Calls Try.prog 37 #[.agg #[I64 s.now, .bool s.shut, valS u], valCall c] w fun e w' => (∃ v, e = .returned v ∧ OutsRd w.heap.size w' v (Md.picks s c)) ∧ Below w.heap.size w w' := by
  cases hs : s.shut with
  | true => 
    have q := picks_shut c s u w hs (begin_hb c s u pvs0 w h hg hsz)
    rwa [hs] at q
  | false => 
    have q := picks_open c s u pvs0 w h hs hg hk0 hk1 (begin_hb c s u pvs0 w h hg hsz)
    rwa [hs] at q
theorem outcomes_any (c : Md.Call) (s : Md.State) (u : SlV) (pvs : List PoolV) (w : World) (h : PoolsRd w u pvs s.pools) (hsz : ∀ p ∈ s.pools, PoolSmall p) (hlen : s.pools.length ≤ 1000) (hb : Md.Bnd s) :
    Calls Try.prog 20 #[.agg #[I64 s.now, .bool s.shut, valS u], valCall c] w fun e w' => OutEnd s c w e w' := by
  refine outcomes_of c s u pvs w h hsz hlen hb (fun hg hk hbf w1 hb1 => ?_)
  have hbf2 : (decide (c.skip < 0) || decide (65535 < c.skip)) = false := by
    unfold Md.badFields Md.uses at hbf
    simp only [hk] at hbf
    simp at hbf
    simp
    omega
  simp only [Bool.or_eq_false_iff, decide_eq_false_iff_not] at hbf2
  exact picks_any c s u pvs w1 (h.below hb1) hg hsz (by omega) (by omega)
theorem step_any (c : Md.Call) (s : Md.State) (r : Md.Result) (u : SlV) (pvs : List PoolV) (w : World) (h : PoolsRd w u pvs s.pools) (hsz : ∀ p ∈ s.pools, PoolSmall p) (hlen : s.pools.length ≤ 1000) (hb : Md.Bnd s) :
    Calls Try.prog 21 #[.agg #[I64 s.now, .bool s.shut, valS u], valCall c, agg3 r] w fun e w' => StepEnd s c r w e w' :=
  step_of c s r u w hlen (fun w1 hb1 => outcomes_any c s u pvs w1 (h.below hb1) hsz hlen hb)
end Go.Proofs.Ytaicmiadgnpimaa
namespace Go.Proofs.Ytaicmiadgnpimaa
open Go.RowKit

theorem PoolRd.seen {w : World} {G o : Nat} {pv : PoolV} {p : Md.Pool} (h : PoolRd w pv p) (hc : ∀ i v, (encP pv)[i]? = some v → w.cell? ⟨G, o + i, none⟩ = some v) (hs : PoolSmall p) : PoolSeen w G o p := by
  obtain ⟨h1, h2, h3, h4⟩ := hs
  exact ⟨pv.vL, pv.vD, pv.vW, hc 5 _ rfl, hc 6 _ rfl, hc 7 _ rfl, h.leases, h.dials, h.waiters, by omega, by omega, by omega⟩
theorem PoolsRd.form {w : World} {u : SlV} {pvs : List PoolV} {ps : List Md.Pool} (h : PoolsRd w u pvs ps) (hp : 1 ≤ ps.length) (hsz : ∀ p ∈ ps, PoolSmall p) : ∃ G o cap, u = (some ⟨G, o, none⟩, ps.length, cap) ∧ ∀ j (hj : j < ps.length), PoolSeen w G (o + j * 11) ps[j] := by
  obtain ⟨g, o, cap, e, _, hc⟩ := h.1.form (by intro e; have := h.2.1; rw [e] at this; simp at this; omega)
  obtain ⟨ua, un, uc⟩ := u
  unfold valS at e
  injection e with e1 e2 e3
  refine ⟨g, o, uc, ?_, fun j hj => ?_⟩
  · have e1' : ua = some ⟨g, o, none⟩ := e1
    have e2' : un = pvs.length := e2
    rw [e1', e2', h.2.1]
  · have hjp : j < pvs.length := by rw [h.2.1]; exact hj
    exact (h.2.2 j hjp hj).seen (hc j hjp) (hsz _ (List.getElem_mem hj))
def c00 : Md.Call := ⟨0, 0, 0, 0, 0, false, 0, 0⟩
set_option maxHeartbeats 8000000 in
set_option maxRecDepth 100000 in
set_option linter.unusedVariables false in
set_option linter.unusedSimpArgs false in
theorem whereIs_any (s : Md.State) (u : SlV) (pvs : List PoolV) (cl : Int) (w : World) (h : PoolsRd w u pvs s.pools) (hsz : ∀ p ∈ s.pools, PoolSmall p) (hlen : s.pools.length ≤ 1000) (hb : Md.Bnd s) :
    Calls Try.prog 27 #[.agg #[I64 s.now, .bool s.shut, valS u], I64 cl] w fun e w' => e = .returned (.tuple #[I64 (Md.whereIs s cl).1, I64 (Md.whereIs s cl).2.1, I64 (Md.whereIs s cl).2.2]) ∧ Below w.heap.size w w' := by
  have hal := (Below.refl w.heap.size w).alloc (Nat.le_refl _) (.cells #[I64 s.now, .bool s.shut, valS u] 26)
  have hcells : ∀ w1, Below (w.alloc (.cells #[I64 s.now, .bool s.shut, valS u] 26)).heap.size (w.alloc (.cells #[I64 s.now, .bool s.shut, valS u] 26)) w1 → w1.cell? ⟨w.heap.size, 0, none⟩ = some (I64 s.now) ∧ w1.cell? ⟨w.heap.size, 1, none⟩ = some (.bool s.shut) ∧ w1.cell? ⟨w.heap.size, 2, none⟩ = some (valS u) := fun w1 h1 => by
    have e := (h1.block w.heap.size (by simp)).trans (blk_new w (.cells #[I64 s.now, .bool s.shut, valS u] 26))
    exact ⟨blk_cell e 0, blk_cell e 1, blk_cell e 2⟩
  obtain ⟨wA, hwA⟩ : ∃ x, x = w.alloc (.cells #[I64 s.now, .bool s.shut, valS u] 26) := ⟨_, rfl⟩
  obtain ⟨B, hB⟩ : ∃ x, x = w.heap.size := ⟨_, rfl⟩
  rw [← hwA] at hal hcells
  rw [← hB] at hcells
  have HBA := Lib.hid hal
  have HCC := Lib.hid hcells
  have HCK := Lib.hid (check_any s u pvs wA (h.below hal) hsz hlen hb)
  by_cases hc : Md.check s = 0
  · have hg := Md.check_ok.1 hc
    rw [hc] at HCK
    obtain ⟨G, o, cap, rfl, hseen⟩ := (h.below hal).form hg.len1 hsz
    have HSEEN := Lib.hid hseen
    unfold valS at *
    dsimp only at *
    by_cases hcl : cl < 1
    · have hw : Md.whereIs s cl = (0, 0, 2) := by
        unfold Md.whereIs
        rw [if_neg (by simpa using hc), if_pos hcl]
      rw [hw]
      clear hal hcells h hseen hc hg hw
      go_enter Try.func27, Try.ntmps27
      go_wp2_with fail
      simp only [← hwA, ← hB]
      clear hwA hB
      refine HCK.out.mono ?_
      rintro e w2 ⟨rfl, hb2⟩
      have HFIN := Lib.hid (HBA.out.trans (hb2.mono HBA.out.size))
      go_wp2
      go_ret3
      exact ⟨rfl, HFIN.out⟩
    · have hw : Md.whereIs s cl = (match Md.whereP cl 0 s.pools with | some x => ((x.1 : Int), x.2, 0) | none => (0, 0, 4)) := by
        unfold Md.whereIs
        rw [if_neg (by simpa using hc), if_neg hcl]
        cases Md.whereP cl 0 s.pools <;> rfl
      rw [hw]
      have hl16 : s.pools.length ≤ 1000000 := by omega
      have HL := Lib.hid hl16
      have hcl2 : decide (cl < 1) = false := decide_eq_false hcl
      clear hal hcells h hseen hc hg hw hl16
      have HWH : Hid (∀ w2, Below wA.heap.size wA w2 → Calls Try.prog 40 #[.pointer (some ⟨w2.heap.size, 0, none⟩), I64 cl] (w2.alloc (.cells (runCells s c00 (some ⟨G, o, none⟩, s.pools.length, cap) (none, 0, 0)) 112)) fun e w' => e = .returned (whereV (Md.whereP cl 0 s.pools)) ∧ Below w.heap.size w w') := fun w2 hb2 => by
        have hn := blk_new w2 (.cells (runCells s c00 (some ⟨G, o, none⟩, s.pools.length, cap) (none, 0, 0)) 112)
        have ha := (Below.refl w2.heap.size w2).alloc (Nat.le_refl _) (.cells (runCells s c00 (some ⟨G, o, none⟩, s.pools.length, cap) (none, 0, 0)) 112)
        have hA2 := hb2.trans (ha.mono hb2.size)
        have hW2 := HBA.out.trans (hA2.mono HBA.out.size)
        exact (where_any w2.heap.size G o cap s.pools cl _ (runCells_of hn).c2 (fun j hj => (HSEEN.out j hj).below hA2) HL.out).mono fun e w' q => ⟨q.1, hW2.trans (q.2.mono hW2.size)⟩
      unfold runCells c00 valS at HWH
      dsimp only at HWH
      cases hwp : Md.whereP cl 0 s.pools with
      | none =>
        rw [hwp] at HWH
        unfold whereV at HWH
        dsimp only at HWH ⊢
        go_enter Try.func27, Try.ntmps27
        go_wp2_with fail
        simp only [← hwA, ← hB]
        clear hwA hB
        refine HCK.out.mono ?_
        rintro e w2 ⟨rfl, hb2⟩
        obtain ⟨c0, c1, c2⟩ := HCC.out w2 hb2
        have HQ := Lib.hid (HWH.out w2 hb2)
        clear hb2
        go_wp2_with fail
        refine HQ.out.mono ?_
        rintro e w3 ⟨rfl, hb3⟩
        have HFIN := Lib.hid hb3
        clear c0 c1 c2 hb3
        go_wp2
        go_ret3
        exact ⟨rfl, HFIN.out⟩
      | some x =>
        obtain ⟨b, r⟩ := x
        rw [hwp] at HWH
        unfold whereV at HWH
        dsimp only at HWH ⊢
        go_enter Try.func27, Try.ntmps27
        go_wp2_with fail
        simp only [← hwA, ← hB]
        clear hwA hB
        refine HCK.out.mono ?_
        rintro e w2 ⟨rfl, hb2⟩
        obtain ⟨c0, c1, c2⟩ := HCC.out w2 hb2
        have HQ := Lib.hid (HWH.out w2 hb2)
        clear hb2
        go_wp2_with fail
        refine HQ.out.mono ?_
        rintro e w3 ⟨rfl, hb3⟩
        have HFIN := Lib.hid hb3
        clear c0 c1 c2 hb3
        go_wp2
        go_ret3
        exact ⟨rfl, HFIN.out⟩
  · have hw : Md.whereIs s cl = (0, 0, Md.check s) := by
      unfold Md.whereIs
      rw [if_pos (by simpa using hc)]
    rw [hw]
    have z0 : ((Md.check s : Int) == 0) = false := by rw [beq_eq_false_iff_ne]; exact hc
    generalize Md.check s = E at HCK z0
    obtain ⟨ua, un, uc⟩ := u
    unfold valS at *
    dsimp only at *
    clear hal hcells h hc hw
    go_enter Try.func27, Try.ntmps27
    go_wp2_with fail
    simp only [← hwA, ← hB]
    clear hwA hB
    refine HCK.out.mono ?_
    rintro e w2 ⟨rfl, hb2⟩
    have HFIN := Lib.hid (HBA.out.trans (hb2.mono HBA.out.size))
    go_wp2
    go_ret3
    exact ⟨rfl, HFIN.out⟩
end Go.Proofs.Ytaicmiadgnpimaa
