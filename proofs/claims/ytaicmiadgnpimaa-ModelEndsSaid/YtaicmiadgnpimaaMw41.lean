/-
  Walks for layer 26 (model): begin, whole.
-/
import Derived.Test.YtaicmiadgnpimaaMgi
namespace Go.Proofs.Ytaicmiadgnpimaa
open Go.RowKit

def CG (G o : Nat) (v4 v5 v6 v7 : Value) (w : World) : Prop := w.cell? ⟨G, o + 4, none⟩ = some v4 ∧ w.cell? ⟨G, o + 5, none⟩ = some v5 ∧ w.cell? ⟨G, o + 6, none⟩ = some v6 ∧ w.cell? ⟨G, o + 7, none⟩ = some v7
/-- How long a backend's lists may be. -/
def PoolShort (p : Md.Pool) : Prop := p.idle.length ≤ 1000000 ∧ p.leases.length ≤ 1000000 ∧ p.dials.length ≤ 1000000 ∧ p.waiters.length ≤ 1000000
def valCall (c : Md.Call) : Value := .agg #[I64 c.kind, I64 c.backend, I64 c.call, I64 c.conn, I64 c.time, .bool c.yes, I64 c.skip, I64 c.breaker]
set_option maxHeartbeats 8000000 in
set_option maxRecDepth 100000 in
set_option linter.unusedSimpArgs false in
theorem begin_any (c : Md.Call) (s : Md.State) (u : SlV) (pvs0 : List PoolV) (w : World) (h : PoolsRd w u pvs0 s.pools) (hpos : 1 ≤ s.pools.length) (hl : s.pools.length ≤ 1000) (hls : ∀ p ∈ s.pools, PoolShort p) :
 Calls Try.prog 36 #[.agg #[I64 s.now, .bool s.shut, valS u], valCall c] w fun e w' => ∃ R, e = .returned (.pointer (some ⟨R, 0, none⟩)) ∧ (∃ G cap pvs, RunV (fun i => w.heap.size ≤ i) R c s [] (fun _ => True) (some ⟨G, 0, none⟩, s.pools.length, cap) (none, 0, 0) pvs w') ∧ w.heap.size ≤ R ∧ Below w.heap.size w w' := by
 have hal1 := (Below.refl w.heap.size w).alloc (Nat.le_refl _) (.cells #[I64 s.now, .bool s.shut, valS u] 26)
 have bB := blk_new w (.cells #[I64 s.now, .bool s.shut, valS u] 26)
 obtain ⟨wA, hwA⟩ : ∃ x, x = w.alloc (.cells #[I64 s.now, .bool s.shut, valS u] 26) := ⟨_, rfl⟩
 obtain ⟨B, hB⟩ : ∃ x, x = w.heap.size := ⟨_, rfl⟩
 have hsA : wA.heap.size = B + 1 := by rw [hwA, hB]; simp
 rw [← hwA] at hal1 bB
 rw [← hB] at bB
 have hal2 := (Below.refl wA.heap.size wA).alloc (Nat.le_refl _) (.cells #[I64 c.kind, I64 c.backend, I64 c.call, I64 c.conn, I64 c.time, .bool c.yes, I64 c.skip, I64 c.breaker] 36)
 have bC := blk_new wA (.cells #[I64 c.kind, I64 c.backend, I64 c.call, I64 c.conn, I64 c.time, .bool c.yes, I64 c.skip, I64 c.breaker] 36)
 have bB2 := (hal2.block B (by omega)).trans bB
 obtain ⟨wB, hwB⟩ : ∃ x, x = wA.alloc (.cells #[I64 c.kind, I64 c.backend, I64 c.call, I64 c.conn, I64 c.time, .bool c.yes, I64 c.skip, I64 c.breaker] 36) := ⟨_, rfl⟩
 have hsB : wB.heap.size = B + 2 := by rw [hwB]; simp [hsA]
 rw [← hwB] at hal2 bC bB2
 rw [hsA] at bC
 have hbAB : Below w.heap.size w wB := hal1.trans (hal2.mono (by omega))
 obtain ⟨M, hM⟩ : ∃ x, x = B + 2 := ⟨_, rfl⟩
 obtain ⟨C, hC⟩ : ∃ x, x = B + 1 := ⟨_, rfl⟩
 rw [← hC] at bC
 have hCL := clonePool u pvs0 wB (h.1.below hbAB) (by have := h.2.1; omega)
 have HCL : Hid (Calls Try.prog 59 #[valS u] wB fun e w' => ∃ G cap, e = .returned (.slice (some ⟨G, 0, none⟩) s.pools.length cap) ∧ (w'.cell? ⟨B, 2, none⟩ = some (valS u) ∧ w'.frozen? ⟨B, 2, none⟩ = false) ∧
  (w'.setCell ⟨B, 2, none⟩ (.slice (some ⟨G, 0, none⟩) s.pools.length cap)).heap[B]? = some (.cells #[I64 s.now, .bool s.shut, .slice (some ⟨G, 0, none⟩) s.pools.length cap] 26 (0, 0)) ∧ (w'.setCell ⟨B, 2, none⟩ (.slice (some ⟨G, 0, none⟩) s.pools.length cap)).heap[C]? = some (.cells #[I64 c.kind, I64 c.backend, I64 c.call, I64 c.conn, I64 c.time, .bool c.yes, I64 c.skip, I64 c.breaker] 36 (0, 0)) ∧
  BgAt w (w'.setCell ⟨B, 2, none⟩ (.slice (some ⟨G, 0, none⟩) s.pools.length cap)) M G s.pools.length cap s 0 pvs0 (w'.setCell ⟨B, 2, none⟩ (.slice (some ⟨G, 0, none⟩) s.pools.length cap))) := by
  refine hCL.mono ?_
  rintro e w' ⟨u', rfl, ho, hb⟩
  obtain ⟨G, cap, hu⟩ := own_form0 (own_base0 ho) (by have := h.2.1; omega)
  subst hu
  rw [h.2.1] at ho ⊢
  have hGl := ho.lt G rfl
  rw [hsB] at hGl
  have hB1 := (hb.block B (by omega)).trans bB2
  have hC1 := (hb.block C (by omega)).trans bC
  have hsg := setCell_grown w' ⟨B, 2, none⟩ (.slice (some ⟨G, 0, none⟩) s.pools.length cap)
  have hbw : Below w.heap.size w w' := hbAB.trans (hb.mono (by omega))
  refine ⟨G, cap, rfl, ⟨blk_cell hB1 2, blk_free hB1 2⟩, blk_set hB1 2 _, (hsg.block C (by have := hb.size; omega) (fun e => by injection e with e; replace e : C = B := e; omega)).trans hC1, ?_⟩
  refine ⟨(own_base0 ho).kept hsg (.inr fun e => ?_), h.2.1, fun j _ _ hj => absurd hj (Nat.not_lt_zero _), fun j h1 h2 _ => h.2.2 j h1 h2, ?_, fun i hi => ?_, ?_, Below.refl _ _⟩
  · replace e : some G = some B := e
    injection e with e
    omega
  · intro i j k hi hj
    have hz : ∀ i, (ownsB G pvs0 0)[i]? = some (some k) → i = 0 := fun i hi => by
     cases i with
     | zero => rfl
     | succ i =>
      cases i with
      | zero => simp [ownsB] at hi
      | succ i => simp [ownsB] at hi
    rw [hz i hi, hz j hj]
  · simp only [ownsB, List.take_zero, List.flatMap_nil, List.mem_cons, List.mem_nil_iff, or_false] at hi
    rcases hi with hi | hi
    · injection hi with hi
      have := hsg.size
      omega
    · cases hi
  · refine hbw.grown hsg hbw.size (fun i hi => ?_)
    injection hi with hi
    replace hi : B = i := hi
    omega
 have HSH := Lib.hid hls
 have HWM : Hid (w.heap.size ≤ M ∧ B < M ∧ C < M ∧ B = w.heap.size) := Lib.hid ⟨by omega, by omega, by omega, hB⟩
 obtain ⟨n, hn⟩ : ∃ n, n = s.pools.length := ⟨_, rfl⟩
 have HN := Lib.hid hn
 rw [← hn] at HCL hl ⊢
 obtain ⟨ua, un, uc⟩ := u
 unfold valS at HCL hwA ⊢
 unfold valCall
 dsimp only at HCL hwA ⊢
 have e1 : B + 1 = C := hC.symm
 clear h hpos hls hn hal1 bB hsA hal2 bC bB2 hsB hbAB hCL hM hC
 go_enter Try.func36, Try.ntmps36
 go_wp2_with fail
 simp only [← hwA, ← hwB, ← hB, e1]
 clear hwA hwB hB e1
 refine HCL.out.mono ?_
 rintro e wc ⟨G, cap, rfl, ⟨k2, f2⟩, hBB, hBC, hbg⟩
 have HBB := Lib.hid hBB
 have HBC := Lib.hid hBC
 have HBG := Lib.hid hbg
 have s2 := blk_cell hBB 2
 simp only [List.getElem?_toArray, List.getElem?_cons_succ, List.getElem?_cons_zero] at s2
 clear hBB hBC hbg HCL
 go_wp2
 obtain ⟨w0, hw0⟩ : ∃ x, x = wc.setCell ⟨B, 2, none⟩ (.slice (some ⟨G, 0, none⟩) n cap) := ⟨_, rfl⟩
 rw [← hw0] at HBB HBC HBG
 simp only [← hw0]
 clear hw0 s2 k2 f2
 go_loopw [5, 6, 14] (fun _ _ kv wr => ∃ k : Nat, ∃ pvs, k ≤ n ∧ kv = .int .i64 k ∧ Hid (BgAt w w0 M G n cap s k pvs wr)) (fun _ _ kv _ => n - (intOf kv).toNat)
 case atStart => exact ⟨0, pvs0, Nat.zero_le _, rfl, HBG⟩
 case round =>
  obtain ⟨k, pvs, hkn, rfl, HBK⟩ := hrel
  have hBr := (HBK.out.fix.block B HWM.out.2.1).trans HBB.out
  have hCr := (HBK.out.fix.block C HWM.out.2.2.1).trans HBC.out
  have t0 := blk_cell hBr 0
  have t1 := blk_cell hBr 1
  have t2 := blk_cell hBr 2
  simp only [List.getElem?_toArray, List.getElem?_cons_succ, List.getElem?_cons_zero] at t0 t1 t2
  by_cases hlt : k < n
  · have hks : k < s.pools.length := by rw [← HN.out]; exact hlt
    have hkp : k < pvs.length := by rw [HBK.out.len]; exact hks
    have hsh := HSH.out _ (List.getElem_mem hks)
    have hrd := HBK.out.rest k hkp hks (Nat.le_refl _)
    have hpc := own_cells encP_len HBK.out.pools hkp (i := 4) (u := valS pvs[k].vI) rfl
    have hcc : ∀ i u, (encP pvs[k])[i]? = some u → wr.cell? ⟨G, k * 11 + i, none⟩ = some u ∧ wr.frozen? ⟨G, k * 11 + i, none⟩ = false := fun i u hu => by
     have q := own_cells encP_len HBK.out.pools hkp (i := i) (u := u) hu
     exact ⟨q.1, q.2.1⟩
    have hGl := hpc.2.2
    have HBW0 : Hid (Below w.heap.size w wr.drew) := Lib.hid HBK.out.below.drew
    have HBW : Hid (Below w.heap.size w wr.drew) := HBW0
    have HSZ : Hid (w.heap.size ≤ wr.drew.heap.size) := Lib.hid HBK.out.below.size
    have HCG : Hid (∀ x, Below wr.drew.heap.size wr.drew x → CG G (k * 11) (valS pvs[k].vI) (valS pvs[k].vL) (valS pvs[k].vD) (valS pvs[k].vW) x) := Lib.hid (fun x hx => by
     have hc : ∀ i v, wr.cell? ⟨G, k * 11 + i, none⟩ = some v → x.cell? ⟨G, k * 11 + i, none⟩ = some v := fun i v hv => (hx.cell (p := ⟨G, _, none⟩) hGl).trans hv
     exact ⟨hc 4 _ (hcc 4 _ rfl).1, hc 5 _ (hcc 5 _ rfl).1, hc 6 _ (hcc 6 _ rfl).1, hc 7 _ (hcc 7 _ rfl).1⟩)
    have HFR : Hid (∀ x, Below wr.drew.heap.size wr.drew x → x.frozen? ⟨G, k * 11 + 4, none⟩ = false ∧ x.frozen? ⟨G, k * 11 + 5, none⟩ = false ∧ x.frozen? ⟨G, k * 11 + 6, none⟩ = false ∧ x.frozen? ⟨G, k * 11 + 7, none⟩ = false) := Lib.hid (fun x hx => by
     have hf : ∀ i, wr.frozen? ⟨G, k * 11 + i, none⟩ = false → x.frozen? ⟨G, k * 11 + i, none⟩ = false := fun i hv => (World.frozen?_of_block (a := ⟨G, k * 11 + i, none⟩) (hx.block G hGl)).trans hv
     exact ⟨hf 4 (hcc 4 _ rfl).2, hf 5 (hcc 5 _ rfl).2, hf 6 (hcc 6 _ rfl).2, hf 7 (hcc 7 _ rfl).2⟩)
    have HG0 := Lib.hid (HCG.out wr.drew (Below.refl _ _))
    have HCLI : Hid (∀ x, Below w.heap.size w x → _) := Lib.hid (fun x hx => cloneConn pvs[k].vI s.pools[k].idle x (hrd.idle.below hx) hsh.1)
    have HCLL : Hid (∀ x, Below w.heap.size w x → _) := Lib.hid (fun x hx => cloneLease pvs[k].vL s.pools[k].leases x (hrd.leases.below hx) hsh.2.1)
    have HCLD : Hid (∀ x, Below w.heap.size w x → _) := Lib.hid (fun x hx => cloneDial pvs[k].vD s.pools[k].dials x (hrd.dials.below hx) hsh.2.2.1)
    have HCLW : Hid (∀ x, Below w.heap.size w x → _) := Lib.hid (fun x hx => cloneWaiter pvs[k].vW s.pools[k].waiters x (hrd.waiters.below hx) hsh.2.2.2)
    have hdr : BgAt w w0 M G n cap s k pvs wr.drew := ⟨HBK.out.pools, HBK.out.len, fun j a b d => (HBK.out.done j a b d).kept (row := none) ⟨rfl, rfl, rfl, Nat.le_refl _, fun _ _ _ => rfl⟩ (fun k hk => by cases hk), HBK.out.rest, HBK.out.sep, HBK.out.new, HBK.out.below.drew, HBK.out.fix.drew⟩
    have HSTEP : Hid (∀ a1 a2 a3 a4 u1 u2 u3 u4, OwnL 100 3 encConn a1 wr.drew.heap.size (valS u1) s.pools[k].idle → Below wr.drew.heap.size wr.drew a1 → OwnL 69 3 encLease a2 a1.heap.size (valS u2) s.pools[k].leases → Below a1.heap.size a1 a2 → OwnL 66 2 encDial a3 a2.heap.size (valS u3) s.pools[k].dials → Below a2.heap.size a2 a3 → OwnL 58 2 encWaiter a4 a3.heap.size (valS u4) s.pools[k].waiters → Below a3.heap.size a3 a4 →
     ∃ pvs', BgAt w w0 M G n cap s (k + 1) pvs' ((((a4.setCell ⟨G, k * 11 + 4, none⟩ (valS u1)).setCell ⟨G, k * 11 + 5, none⟩ (valS u2)).setCell ⟨G, k * 11 + 6, none⟩ (valS u3)).setCell ⟨G, k * 11 + 7, none⟩ (valS u4))) := Lib.hid (fun a1 a2 a3 a4 u1 u2 u3 u4 o1 b1 o2 b2 o3 b3 o4 b4 => ⟨_, hdr.step HWM.out.1 hkp hks o1 b1 o2 b2 o3 b3 o4 b4⟩)
    generalize valS pvs[k].vI = v4 at HCG HCLI HG0
    generalize valS pvs[k].vL = v5 at HCG HCLL HG0
    generalize valS pvs[k].vD = v6 at HCG HCLD HG0
    generalize valS pvs[k].vW = v7 at HCG HCLW HG0
    clear hrd hpc hcc hdr hsh hGl hkp hBr hCr
    go_wp2
    clear t0 t1 t2
    refine wp_region_any (by kernel_rfl) ?_
    change wpAny _ _ _ _ _ _ _ wr.drew
    generalize hwd : wr.drew = wd at HBW0 HBW HSZ HCG HFR HG0 HSTEP ⊢
    refine wpAny_take (i := 0) (oi := _) (v := ?va0_1) (dropAt (r := _) rfl) (by kernel_rfl) (by kernel_rfl) (by kernel_rfl) (fun _ _ _ h => h) (Or.inl ⟨by rfl, ?ha0_1⟩) ?ra0_1
    case ha0_1 => (intro w; go_simp; first | done | with_reducible rfl)
    try simp only [Act.put, pu2, pu3, pu4]
    refine wpAny_take (i := 1) (oi := _) (v := ?va1_2) (dropAt (r := _) rfl) (by kernel_rfl) (by kernel_rfl) (by kernel_rfl) (fun _ _ _ h => h) (Or.inl ⟨by rfl, ?ha1_2⟩) ?ra1_2
    case ha1_2 => (intro w; go_simp; first | done | with_reducible rfl)
    try simp only [Act.put, pu2, pu3, pu4]
    refine wpAny_take (i := 2) (oi := _) (v := ?va2_3) (dropAt (r := _) rfl) (by kernel_rfl) (by kernel_rfl) (by kernel_rfl) (fun _ _ _ h => h) (Or.inl ⟨by rfl, ?ha2_3⟩) ?ra2_3
    case ha2_3 => (intro w; go_simp; first | done | with_reducible rfl)
    try simp only [Act.put, pu2, pu3, pu4]
    refine wpAny_take (i := 3) (oi := _) (v := ?va3_4) (dropAt (r := _) rfl) (by kernel_rfl) (by kernel_rfl) (by kernel_rfl) (fun _ _ _ h => h) (Or.inl ⟨by rfl, ?ha3_4⟩) ?ra3_4
    case ha3_4 => (intro w; go_simp; first | done | with_reducible rfl)
    try simp only [Act.put, pu2, pu3, pu4]
    refine wpAny_take (i := 4) (oi := _) (v := ?va4_5) (dropAt (r := _) rfl) (by kernel_rfl) (by kernel_rfl) (by kernel_rfl) (fun _ _ _ h => h) (Or.inl ⟨by rfl, ?ha4_5⟩) ?ra4_5
    case ha4_5 => (intro w; go_simp; first | done | with_reducible rfl)
    try simp only [Act.put, pu2, pu3, pu4]
    refine wpAny_take (i := 5) (oi := _) (v := ?va5_6) (dropAt (r := _) rfl) (by kernel_rfl) (by kernel_rfl) (by kernel_rfl) (fun _ _ _ h => h) (Or.inl ⟨by rfl, ?ha5_6⟩) ?ra5_6
    case ha5_6 => (intro w; go_simp; first | done | with_reducible rfl)
    try simp only [Act.put, pu2, pu3, pu4]
    refine wpAny_take (i := 6) (oi := _) (v := ?va6_7) (dropAt (r := _) rfl) (by kernel_rfl) (by kernel_rfl) (by kernel_rfl) (fun _ _ _ h => h) (Or.inl ⟨by rfl, ?ha6_7⟩) ?ra6_7
    case ha6_7 => (intro w; go_simp; first | done | with_reducible rfl)
    try simp only [Act.put, pu2, pu3, pu4]
    refine wpAny_take (i := 9) (oi := _) (v := ?va9_8) (dropAt (r := _) rfl) (by kernel_rfl) (by kernel_rfl) (by kernel_rfl) (fun _ _ _ h => h) (Or.inl ⟨by rfl, ?ha9_8⟩) ?ra9_8
    case ha9_8 => (intro w; go_simp; first | done | with_reducible rfl)
    try simp only [Act.put, pu2, pu3, pu4]
    refine wpAny_take (i := 10) (oi := _) (v := ?va10_9) (dropAt (r := _) rfl) (by kernel_rfl) (by kernel_rfl) (by kernel_rfl) (fun _ _ _ h => h) (Or.inl ⟨by rfl, ?ha10_9⟩) ?ra10_9
    case ha10_9 => (intro w; go_simp; first | done | with_reducible rfl)
    try simp only [Act.put, pu2, pu3, pu4]
    refine wpAny_take (i := 11) (oi := _) (v := ?va11_10) (dropAt (r := _) rfl) (by kernel_rfl) (by kernel_rfl) (by kernel_rfl) (fun _ _ _ h => h) (Or.inl ⟨by rfl, ?ha11_10⟩) ?ra11_10
    case ha11_10 => (intro w; go_simp; first | done | with_reducible rfl)
    try simp only [Act.put, pu2, pu3, pu4]
    refine wpAny_take (i := 14) (oi := _) (v := ?va14_11) (dropAt (r := _) rfl) (by kernel_rfl) (by kernel_rfl) (by kernel_rfl) (fun _ _ _ h => h) (Or.inl ⟨by rfl, ?ha14_11⟩) ?ra14_11
    case ha14_11 => (intro w; go_simp; first | done | with_reducible rfl)
    try simp only [Act.put, pu2, pu3, pu4]
    refine wpAny_take (i := 15) (oi := _) (v := ?va15_12) (dropAt (r := _) rfl) (by kernel_rfl) (by kernel_rfl) (by kernel_rfl) (fun _ _ _ h => h) (Or.inl ⟨by rfl, ?ha15_12⟩) ?ra15_12
    case ha15_12 => (intro w; go_simp; first | done | with_reducible rfl)
    try simp only [Act.put, pu2, pu3, pu4]
    refine wpAny_take (i := 16) (oi := _) (v := ?va16_13) (dropAt (r := _) rfl) (by kernel_rfl) (by kernel_rfl) (by kernel_rfl) (fun _ _ _ h => h) (Or.inl ⟨by rfl, ?ha16_13⟩) ?ra16_13
    case ha16_13 => (intro w; go_simp; first | done | with_reducible rfl)
    try simp only [Act.put, pu2, pu3, pu4]
    refine wpAny_take (i := 19) (oi := _) (v := ?va19_14) (dropAt (r := _) rfl) (by kernel_rfl) (by kernel_rfl) (by kernel_rfl) (fun _ _ _ h => h) (Or.inl ⟨by rfl, ?ha19_14⟩) ?ra19_14
    case ha19_14 => (intro w; go_simp; first | done | with_reducible rfl)
    try simp only [Act.put, pu2, pu3, pu4]
    refine wpAny_take (i := 20) (oi := _) (v := ?va20_15) (dropAt (r := _) rfl) (by kernel_rfl) (by kernel_rfl) (by kernel_rfl) (fun _ _ _ h => h) (Or.inl ⟨by rfl, ?ha20_15⟩) ?ra20_15
    case ha20_15 => (intro w; go_simp; first | done | with_reducible rfl)
    try simp only [Act.put, pu2, pu3, pu4]
    refine wpAny_take (i := 21) (oi := _) (v := ?va21_16) (dropAt (r := _) rfl) (by kernel_rfl) (by kernel_rfl) (by kernel_rfl) (fun _ _ _ h => h) (Or.inl ⟨by rfl, ?ha21_16⟩) ?ra21_16
    case ha21_16 => (intro w; go_simp; first | done | with_reducible rfl)
    try simp only [Act.put, pu2, pu3, pu4]
    refine wpAny_of_M (S := CG G (k * 11) v4 v5 v6 v7) (m := 24) _ _ _ _ ?_
    refine wpAnyM_take (i := 7) (oi := _) (v := ?vm7_17) (dropAt (r := _) rfl) (by kernel_rfl) (by kernel_rfl) (by kernel_rfl) (by kernel_rfl) (fun _ _ _ h => h) (Or.inl ⟨by rfl, ?hm7_17⟩) HG0.out ?rm7_17
    case hm7_17 => (intro w hSw; unfold CG at hSw; obtain ⟨hS1, hS2, hS3, hS4⟩ := hSw; go_simp; first | done | with_reducible rfl)
    try simp only [Act.put, pu2, pu3, pu4]
    refine wpAnyM_take (i := 12) (oi := _) (v := ?vm12_18) (dropAt (r := _) rfl) (by kernel_rfl) (by kernel_rfl) (by kernel_rfl) (by kernel_rfl) (fun _ _ _ h => h) (Or.inl ⟨by rfl, ?hm12_18⟩) HG0.out ?rm12_18
    case hm12_18 => (intro w hSw; unfold CG at hSw; obtain ⟨hS1, hS2, hS3, hS4⟩ := hSw; go_simp; first | done | with_reducible rfl)
    try simp only [Act.put, pu2, pu3, pu4]
    refine wpAnyM_take (i := 17) (oi := _) (v := ?vm17_19) (dropAt (r := _) rfl) (by kernel_rfl) (by kernel_rfl) (by kernel_rfl) (by kernel_rfl) (fun _ _ _ h => h) (Or.inl ⟨by rfl, ?hm17_19⟩) HG0.out ?rm17_19
    case hm17_19 => (intro w hSw; unfold CG at hSw; obtain ⟨hS1, hS2, hS3, hS4⟩ := hSw; go_simp; first | done | with_reducible rfl)
    try simp only [Act.put, pu2, pu3, pu4]
    refine wpAnyM_take (i := 22) (oi := _) (v := ?vm22_20) (dropAt (r := _) rfl) (by kernel_rfl) (by kernel_rfl) (by kernel_rfl) (by kernel_rfl) (fun _ _ _ h => h) (Or.inl ⟨by rfl, ?hm22_20⟩) HG0.out ?rm22_20
    case hm22_20 => (intro w hSw; unfold CG at hSw; obtain ⟨hS1, hS2, hS3, hS4⟩ := hSw; go_simp; first | done | with_reducible rfl)
    try simp only [Act.put, pu2, pu3, pu4]
    refine wpAnyM_ready (rs := [8]) (by kernel_rfl) (by simp) ?_
    refine AllReadyM.cons (o := _) (dropAt (r := _) rfl) (fun K hK => ?_) AllReadyM.nil
    go_simp
    refine (HCLI.out wd HBW0.out).mono ?_
    rintro e a1 ⟨u1, rfl, o1, b1⟩
    refine hK.out _ _ (HCG.out a1 b1) (fun _ => ?_)
    clear hK K
    try simp only [Act.put, pu2, pu3, pu4]
    refine wpAnyM_ready (rs := [13]) (by kernel_rfl) (by simp) ?_
    refine AllReadyM.cons (o := _) (dropAt (r := _) rfl) (fun K hK => ?_) AllReadyM.nil
    go_simp
    refine (HCLL.out a1 (HBW0.out.trans (b1.mono HSZ.out))).mono ?_
    rintro e a2 ⟨u2, rfl, o2, b2⟩
    have b12 := b1.trans (b2.mono b1.size)
    refine hK.out _ _ (HCG.out a2 b12) (fun _ => ?_)
    clear hK K
    try simp only [Act.put, pu2, pu3, pu4]
    refine wpAnyM_ready (rs := [18]) (by kernel_rfl) (by simp) ?_
    refine AllReadyM.cons (o := _) (dropAt (r := _) rfl) (fun K hK => ?_) AllReadyM.nil
    go_simp
    refine (HCLD.out a2 (HBW0.out.trans (b12.mono HSZ.out))).mono ?_
    rintro e a3 ⟨u3, rfl, o3, b3⟩
    have b13 := b12.trans (b3.mono b12.size)
    refine hK.out _ _ (HCG.out a3 b13) (fun _ => ?_)
    clear hK K
    try simp only [Act.put, pu2, pu3, pu4]
    refine wpAnyM_ready (rs := [23]) (by kernel_rfl) (by simp) ?_
    refine AllReadyM.cons (o := _) (dropAt (r := _) rfl) (fun K hK => ?_) AllReadyM.nil
    go_simp
    refine (HCLW.out a3 (HBW0.out.trans (b13.mono HSZ.out))).mono ?_
    rintro e a4 ⟨u4, rfl, o4, b4⟩
    have b14 := b13.trans (b4.mono b13.size)
    refine hK.out _ _ (HCG.out a4 b14) (fun _ => ?_)
    clear hK K
    try simp only [Act.put, pu2, pu3, pu4]
    have HST := Lib.hid (HSTEP.out a1 a2 a3 a4 u1 u2 u3 u4 o1 b1 o2 b2 o3 b3 o4 b4)
    obtain ⟨j4, j5, j6, j7⟩ := HCG.out a4 b14
    obtain ⟨f4, f5, f6, f7⟩ := HFR.out a4 b14
    obtain ⟨x1, y1, z1⟩ := u1
    obtain ⟨x2, y2, z2⟩ := u2
    obtain ⟨x3, y3, z3⟩ := u3
    obtain ⟨x4, y4, z4⟩ := u4
    unfold valS at HST ⊢
    dsimp only at HST ⊢
    clear o1 b1 o2 b2 o3 b3 o4 b4 b12 b13 b14 HSTEP HCLI HCLL HCLD HCLW HCG HFR HG0
    refine wpAnyM_ready (rs := [24]) (by kernel_rfl) (by simp) ?_
    refine AllReadyM.late (by decide) (o := _) (dropAt (r := _) rfl) (fun K hK => ?_) AllReadyM.nil
    go_simp
    refine hK.out _ _ ?_
    clear hK K
    try simp only [Act.put, pu2, pu3, pu4]
    refine wpAnyM_ready (rs := [25]) (by kernel_rfl) (by simp) ?_
    refine AllReadyM.late (by decide) (o := _) (dropAt (r := _) rfl) (fun K hK => ?_) AllReadyM.nil
    go_simp
    refine hK.out _ _ ?_
    clear hK K
    try simp only [Act.put, pu2, pu3, pu4]
    refine wpAnyM_ready (rs := [26]) (by kernel_rfl) (by simp) ?_
    refine AllReadyM.late (by decide) (o := _) (dropAt (r := _) rfl) (fun K hK => ?_) AllReadyM.nil
    go_simp
    refine hK.out _ _ ?_
    clear hK K
    try simp only [Act.put, pu2, pu3, pu4]
    refine wpAnyM_ready (rs := [27]) (by kernel_rfl) (by simp) ?_
    refine AllReadyM.late (by decide) (o := _) (dropAt (r := _) rfl) (fun K hK => ?_) AllReadyM.nil
    go_simp
    refine hK.out _ _ ?_
    clear hK K
    try simp only [Act.put, pu2, pu3, pu4]
    refine wpAnyM_ready (rs := [28]) (by kernel_rfl) (by simp) ?_
    refine AllReadyM.late (by decide) (o := _) (dropAt (r := _) rfl) (fun K hK => ?_) AllReadyM.nil
    go_simp
    refine hK.out _ _ ?_
    clear hK K
    try simp only [Act.put, pu2, pu3, pu4]
    refine wpAnyM_ready (rs := [29]) (by kernel_rfl) (by simp) ?_
    refine AllReadyM.late (by decide) (o := _) (dropAt (r := _) rfl) (fun K hK => ?_) AllReadyM.nil
    go_simp
    refine hK.out _ _ ?_
    clear hK K
    try simp only [Act.put, pu2, pu3, pu4]
    refine wpAnyM_ready (rs := [30]) (by kernel_rfl) (by simp) ?_
    refine AllReadyM.late (by decide) (o := _) (dropAt (r := _) rfl) (fun K hK => ?_) AllReadyM.nil
    go_simp
    refine hK.out _ _ ?_
    clear hK K
    try simp only [Act.put, pu2, pu3, pu4]
    refine wpAnyM_ready (rs := [31]) (by kernel_rfl) (by simp) ?_
    refine AllReadyM.late (by decide) (o := _) (dropAt (r := _) rfl) (fun K hK => ?_) AllReadyM.nil
    go_simp
    refine hK.out _ _ ?_
    clear hK K
    try simp only [Act.put, pu2, pu3, pu4]
    refine wpAnyM_ready (rs := [32]) (by kernel_rfl) (by simp) ?_
    refine AllReadyM.late (by decide) (o := _) (dropAt (r := _) rfl) (fun K hK => ?_) AllReadyM.nil
    go_simp
    refine hK.out _ _ ?_
    clear hK K
    try simp only [Act.put, pu2, pu3, pu4]
    refine wpAnyM_ready (rs := [33]) (by kernel_rfl) (by simp) ?_
    refine AllReadyM.late (by decide) (o := _) (dropAt (r := _) rfl) (fun K hK => ?_) AllReadyM.nil
    go_simp
    refine hK.out _ _ ?_
    clear hK K
    try simp only [Act.put, pu2, pu3, pu4]
    refine wpAnyM_ready (rs := [34]) (by kernel_rfl) (by simp) ?_
    refine AllReadyM.late (by decide) (o := _) (dropAt (r := _) rfl) (fun K hK => ?_) AllReadyM.nil
    go_simp
    refine hK.out _ _ ?_
    clear hK K
    try simp only [Act.put, pu2, pu3, pu4]
    refine wpAnyM_ready (rs := [35]) (by kernel_rfl) (by simp) ?_
    refine AllReadyM.late (by decide) (o := _) (dropAt (r := _) rfl) (fun K hK => ?_) AllReadyM.nil
    go_simp
    refine hK.out _ _ ?_
    clear hK K
    try simp only [Act.put, pu2, pu3, pu4]
    refine wpAnyM_done (by kernel_rfl) ?_ _
    obtain ⟨pvs', hst⟩ := HST.out
    have HST2 := Lib.hid hst
    clear hst HST
    go_wp2
    case roundEnd =>
     refine ⟨⟨k + 1, pvs', hlt, by rw [show (k : Int) + 1 = ((k + 1 : Nat) : Int) by omega], HST2⟩, ?_⟩
     simp [intOf]
     omega
  · have hkn2 : k = n := by omega
    subst hkn2
    have c0 := blk_cell hCr 0
    have c1 := blk_cell hCr 1
    have c2 := blk_cell hCr 2
    have c3 := blk_cell hCr 3
    have c4 := blk_cell hCr 4
    have c5 := blk_cell hCr 5
    have c6 := blk_cell hCr 6
    have c7 := blk_cell hCr 7
    simp only [List.getElem?_toArray, List.getElem?_cons_succ, List.getElem?_cons_zero] at c0 c1 c2 c3 c4 c5 c6 c7
    have hbk := HBK.out
    rw [HN.out] at hbk
    have hrun := hbk.run HWM.out.1 c
    rw [← HN.out] at hrun
    have hfin : w.heap.size ≤ wr.heap.size ∧ Below w.heap.size w (wr.alloc (.cells (runCells s c (some ⟨G, 0, none⟩, k, cap) (none, 0, 0)) 112)) := ⟨hbk.below.size, hbk.below.alloc hbk.below.size _⟩
    have HRUN := Lib.hid hrun
    have HFIN := Lib.hid hfin
    clear hbk hrun hfin hBr hCr HBK HBG HBB HBC
    go_wp2
    go_ret
    exact ⟨_, rfl, ⟨G, cap, pvs, HRUN.out⟩, HFIN.out⟩
end Go.Proofs.Ytaicmiadgnpimaa
