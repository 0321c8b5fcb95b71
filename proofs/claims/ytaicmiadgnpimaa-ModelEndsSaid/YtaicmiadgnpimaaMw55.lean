/-
  Walks for layer 26 (model): Step, over what Outcomes returns.
-/
import Derived.Test.YtaicmiadgnpimaaMw52
import Derived.Test.YtaicmiadgnpimaaMgm
import Derived.Laws.StructEq
import Derived.Laws.ResultCell
namespace Go.Proofs.Ytaicmiadgnpimaa
open Go.RowKit

theorem results_cell_tmp2 {fn : Func} {p u v : Tmp} {ty : TypeId} (h : fn.results = #[.cell p ty, .tmp u, .tmp v]) (tmps : Array Value) (P : Program) (w : World) :
 (results fn tmps).run P w =
  ((asAddr (tmps.getD p undef)).run P w).andThen fun a w₁ => ((loadVar ty a).run P w₁).andThen fun x w₂ => .ok (.tuple #[x, tmps.getD u undef, tmps.getD v undef]) w₂ := by
 simp only [results, h]
 simp [Sem.run_bind, Result.andThen]
theorem eqR (d : Nat) (x y : Md.Result) (w : World) : (Op.equalIn (d + 2) 31 (agg3 x) (agg3 y)).run Try.prog w = .ok (decide (x = y)) w := by
 have u2 := Try.underlying3
 have a2 := Try.isAgg3
 have z2 := Try.sizeOf3
 have u3 := Try.underlying2
 have a3 := Try.isAgg2
 have z3 := Try.sizeOf2
 have e2 : Try.prog.stoodInHeld 31 = false := by kernel_rfl
 have e4 : Try.prog.underlying 31 = some (.struct (Try.prog.fieldsOf 31)) := by kernel_rfl
 obtain ⟨a, b, c⟩ := x
 obtain ⟨a', b', c'⟩ := y
 unfold agg3
 rw [show d + 2 = (d + 1) + 1 from rfl, run_equalIn_agg w (d + 1) _ _ _ e4 e2]
 simp only [Program.fieldsOf, Try.underlying31]
 go_simp
 by_cases h1 : a = a' <;> by_cases h2 : b = b' <;> by_cases h3 : c = c' <;> simp [h1, h2, h3]
def OB1 (r : Md.Result) : Obj := .cells #[I64 r.1, I64 r.2.1, I64 r.2.2] 31
def OBZ : Obj := .cells #[I64 0, .bool false, .slice none 0 0] 26
theorem st_new (s : Md.State) (u : SlV) (c : Md.Call) (r : Md.Result) (w : World) : Below w.heap.size w ((((w.alloc (OB3 s u)).alloc (OB8 c)).alloc (OB1 r)).alloc OBZ) ∧ ∀ w1, Below ((((w.alloc (OB3 s u)).alloc (OB8 c)).alloc (OB1 r)).alloc OBZ).heap.size ((((w.alloc (OB3 s u)).alloc (OB8 c)).alloc (OB1 r)).alloc OBZ) w1 →
 OC w.heap.size s u c w1 ∧ (w1.cell? ⟨w.heap.size + 2, 0, none⟩ = some (I64 r.1) ∧ w1.cell? ⟨w.heap.size + 2, 1, none⟩ = some (I64 r.2.1) ∧ w1.cell? ⟨w.heap.size + 2, 2, none⟩ = some (I64 r.2.2)) ∧ w1.heap[w.heap.size + 3]? = some (.cells #[I64 0, .bool false, .slice none 0 0] 26 (0, 0)) := by
 obtain ⟨b0, h0⟩ := cc_new s u c w
 obtain ⟨w2, hw2⟩ : ∃ x, x = (w.alloc (OB3 s u)).alloc (OB8 c) := ⟨_, rfl⟩
 have hs2 : w2.heap.size = w.heap.size + 2 := by rw [hw2]; simp
 rw [← hw2] at b0 h0 ⊢
 have b2 := (Below.refl w2.heap.size w2).alloc (Nat.le_refl _) (OB1 r)
 have b3 := (Below.refl (w2.alloc (OB1 r)).heap.size (w2.alloc (OB1 r))).alloc (Nat.le_refl _) OBZ
 have n2 := blk_new w2 (OB1 r)
 have n3 := blk_new (w2.alloc (OB1 r)) OBZ
 have e3 : (w2.alloc (OB1 r)).heap.size = w.heap.size + 3 := by simp [hs2]
 rw [e3] at n3
 rw [hs2] at n2
 refine ⟨b0.trans ((b2.trans (b3.mono b2.size)).mono b0.size), fun w1 hb => ?_⟩
 have hb2 : Below w2.heap.size w2 w1 := (b2.trans (b3.mono b2.size)).trans (hb.mono (Nat.le_trans b2.size b3.size))
 have k2 : w1.heap[w.heap.size + 2]? = some (OB1 r) := (hb.block _ (by simp [hs2])).trans ((b3.block _ (by rw [e3]; omega)).trans n2)
 have k3 : w1.heap[w.heap.size + 3]? = some OBZ := (hb.block _ (by simp [hs2])).trans n3
 exact ⟨h0 w1 hb2, ⟨blk_cell k2 0, blk_cell k2 1, blk_cell k2 2⟩, k3⟩
/-- What Step returns: the state and the effects lie in new blocks. -/
def StepEnd (s : Md.State) (c : Md.Call) (r : Md.Result) (w : World) (e : Ending) (w' : World) : Prop :=
 ∃ u' ev : SlV, e = .returned (.tuple #[.agg #[I64 (Md.step s c r).1.now, .bool (Md.step s c r).1.shut, valS u'], valS ev, I64 (Md.step s c r).2.2]) ∧
  (∀ w2, Gb (fun i => i < w.heap.size) w' w2 → PoolsAt w2 (valS u') (Md.step s c r).1.pools ∧ ReadsL 4 encEff w2 (valS ev) (Md.step s c r).2.1) ∧ Below w.heap.size w w'
theorem stepEnd_err {s : Md.State} {c : Md.Call} {r : Md.Result} {w w' : World} {E : Int} (h : Md.step s c r = (Md.none0, [], E)) (hb : Below w.heap.size w w') : StepEnd s c r w (.returned (.tuple #[.agg #[I64 0, .bool false, .slice none 0 0], .slice none 0 0, I64 E])) w' := by
 unfold StepEnd
 rw [h]
 exact ⟨(none, 0, 0), (none, 0, 0), rfl, fun w2 _ => ⟨.inl ⟨none, 0, rfl, rfl⟩, .nil w2⟩, hb⟩
theorem stepEnd_ok {s : Md.State} {c : Md.Call} {r : Md.Result} {w w1 w' : World} {o : Md.Outcome} {x : OutV} {M : Nat} (h : Md.step s c r = (o.next, o.effects, 0)) (hM : w.heap.size ≤ M) (ho : ∀ w2, Gb (fun i => i < M) w1 w2 → OutRd w2 x o) (hg : Gb (fun i => i < M) w1 w') (hb : Below w.heap.size w w') : StepEnd s c r w (.returned (.tuple #[.agg #[I64 x.2.2.1, .bool x.2.2.2.1, valS x.2.2.2.2], valS x.2.1, I64 0])) w' := by
 unfold StepEnd
 rw [h]
 have q := ho w' hg
 refine ⟨x.2.2.2.2, x.2.1, by rw [q.now, q.shut], fun w2 h2 => ?_, hb⟩
 have q2 := ho w2 (hg.trans (h2.mono (fun _ _ z => Nat.lt_of_lt_of_le z hM)))
 exact ⟨q2.pools, q2.effs⟩
theorem step_find {s : Md.State} {c : Md.Call} {r : Md.Result} (h : (Md.outcomes s c).2 = 0) {o : Md.Outcome} (ho : (Md.outcomes s c).1.find? (fun o => o.result == r) = some o) : Md.step s c r = (o.next, o.effects, 0) := by
 unfold Md.step
 rw [if_neg (by simpa using h), ho]
theorem step_none {s : Md.State} {c : Md.Call} {r : Md.Result} (h : (Md.outcomes s c).2 = 0) (ho : (Md.outcomes s c).1.find? (fun o => o.result == r) = none) : Md.step s c r = (Md.none0, [], 6) := by
 unfold Md.step
 rw [if_neg (by simpa using h), ho]
theorem find_drop {l : List Md.Outcome} {r : Md.Result} {k : Nat} (hk : k < l.length) (h : l.find? (fun o => o.result == r) = (l.drop k).find? (fun o => o.result == r)) :
 (l[k].result = r → l.find? (fun o => o.result == r) = some l[k]) ∧ (l[k].result ≠ r → l.find? (fun o => o.result == r) = (l.drop (k + 1)).find? (fun o => o.result == r)) := by
 rw [List.drop_eq_getElem_cons hk] at h
 refine ⟨fun e => ?_, fun e => ?_⟩
 · rw [h, List.find?_cons_of_pos (by simp [e])]
 · rw [h, List.find?_cons_of_neg (by simp [e])]
theorem act_len (s : Md.State) (c : Md.Call) : (Md.act s c).length ≤ 1 + s.pools.length := by
 unfold Md.act
 repeat' split
 all_goals try simp
 have hf := List.length_filter_le (fun x : Md.Pool × Nat => Md.may x.1 x.2 c.skip) s.pools.zipIdx
 rw [List.length_zipIdx] at hf
 unfold Md.picks
 split
 · simp
 · dsimp only
   split
   · simp
   · rw [List.length_map]
     omega
theorem outs_len (s : Md.State) (c : Md.Call) : (Md.outcomes s c).1.length ≤ 1 + s.pools.length := by
 unfold Md.outcomes
 split
 · simp
 · split
   · simp
   · exact act_len s c
/-- What the last region of the loop reads and writes. -/
def SP (P : Nat) (x : OutV) (w : World) : Prop := w.cell? ⟨P, 3, none⟩ = some (valS x.2.1) ∧ w.cell? ⟨P, 4, none⟩ = some (I64 x.2.2.1) ∧ w.cell? ⟨P, 5, none⟩ = some (.bool x.2.2.2.1) ∧ w.cell? ⟨P, 6, none⟩ = some (valS x.2.2.2.2)
set_option maxHeartbeats 8000000 in
set_option maxRecDepth 100000 in
set_option linter.unusedVariables false in
set_option linter.unusedSimpArgs false in
theorem step_err (c : Md.Call) (s : Md.State) (r : Md.Result) (u : SlV) (w : World) (hE : (Md.outcomes s c).2 ≠ 0)
 (HO : ∀ w1, Below w.heap.size w w1 → Calls Try.prog 20 #[.agg #[I64 s.now, .bool s.shut, valS u], valCall c] w1 fun e w' => OutEnd s c w1 e w') :
 Calls Try.prog 21 #[.agg #[I64 s.now, .bool s.shut, valS u], valCall c, agg3 r] w fun e w' => StepEnd s c r w e w' := by
 obtain ⟨hbA, hcc⟩ := st_new s u c r w
 unfold OB3 OB8 OB1 OBZ at hbA hcc
 obtain ⟨⟨ua, un, uc⟩, hu0⟩ : ∃ x, x = u := ⟨_, rfl⟩
 obtain ⟨⟨r1, r2, r3⟩, hr0⟩ : ∃ x, x = r := ⟨_, rfl⟩
 obtain ⟨wA, hwA⟩ : ∃ x, x = (((w.alloc (.cells #[I64 s.now, .bool s.shut, valS u] 26)).alloc (.cells #[I64 c.kind, I64 c.backend, I64 c.call, I64 c.conn, I64 c.time, .bool c.yes, I64 c.skip, I64 c.breaker] 36)).alloc (.cells #[I64 r.1, I64 r.2.1, I64 r.2.2] 31)).alloc (.cells #[I64 0, .bool false, .slice none 0 0] 26) := ⟨_, rfl⟩
 obtain ⟨B, hB⟩ : ∃ x, x = w.heap.size := ⟨_, rfl⟩
 rw [← hwA] at hbA hcc
 have HBA := Lib.hid hbA
 have HBs := Lib.hid hB
 rw [← hB] at hcc
 have HCC := Lib.hid hcc
 have HO' := Lib.hid (HO wA hbA)
 unfold OutEnd at HO'
 have HST : Hid (Md.step s c r = (Md.none0, [], (Md.outcomes s c).2)) := Md.step_bad hE
 obtain ⟨E, hEq⟩ : ∃ x, x = (Md.outcomes s c).2 := ⟨_, rfl⟩
 rw [← hEq] at HO' HST hE
 have z0 : ((E : Int) == 0) = false := by rw [beq_eq_false_iff_ne]; exact hE
 clear hEq hE
 subst hu0
 subst hr0
 unfold agg3 valCall at *
 unfold valS at *
 dsimp only at *
 clear hbA hcc HO
 go_enter Try.func21, Try.ntmps21
 go_wp2_with fail
 simp only [← hwA, ← hB]
 clear hwA hB
 refine HO'.out.mono ?_
 rintro e w2 ⟨⟨v, rfl, hv⟩, hb2⟩
 obtain ⟨xs, hxl, hr⟩ := hv
 replace hr := (hr w2 (.refl _ _)).1
 obtain ⟨a, cap, hvf⟩ := hr.len
 subst hvf
 clear hr hxl
 have HB2 := Lib.hid (HBA.out.trans (hb2.mono HBA.out.size))
 obtain ⟨⟨o0, o1, o2, o3, o4, o5, o6, o7, o8, o9, o10⟩, ⟨q0, q1, q2⟩, hz⟩ := HCC.out w2 hb2
 unfold valS at o2
 dsimp only at o2
 have HZ := Lib.hid hz
 clear o0 o1 o2 o3 o4 o5 o6 o7 o8 o9 o10
 clear q0 q1 q2 hb2
 have y0 := blk_cell hz 0
 have y1 := blk_cell hz 1
 have y2 := blk_cell hz 2
 have v0 := blk_free hz 0
 have v1 := blk_free hz 1
 have v2 := blk_free hz 2
 simp only [List.getElem?_toArray, List.getElem?_cons_succ, List.getElem?_cons_zero] at y0 y1 y2
 clear hz
 go_wp2
 have hfin := blk_set (blk_set (blk_set HZ.out 0 (I64 0)) 1 (.bool false)) 2 (.slice none 0 0)
 have z0 := blk_cell hfin 0
 have z1 := blk_cell hfin 1
 have z2 := blk_cell hfin 2
 simp only [List.setIfInBounds_toArray, List.set_cons_zero, List.set_cons_succ, List.getElem?_toArray, List.getElem?_cons_succ, List.getElem?_cons_zero] at z0 z1 z2
 clear hfin
 refine bodyPost_ret (v := .tuple #[.agg #[I64 0, .bool false, .slice none 0 0], .slice none 0 0, I64 E]) (by rw [results_cell_tmp2 rfl]; go_simp) rfl ?_
 have hle : w.heap.size ≤ B + 3 := by have := HBs.out; omega
 exact stepEnd_err HST.out (((HB2.out.setCell (p := ⟨B + 3, 0, none⟩) hle _).setCell (p := ⟨B + 3, 1, none⟩) hle _).setCell (p := ⟨B + 3, 2, none⟩) hle _)
set_option maxHeartbeats 8000000 in
set_option maxRecDepth 100000 in
set_option linter.unusedVariables false in
set_option linter.unusedSimpArgs false in
theorem step_ok (c : Md.Call) (s : Md.State) (r : Md.Result) (u : SlV) (w : World) (hE : (Md.outcomes s c).2 = 0) (hlen : s.pools.length ≤ 1000)
 (HO : ∀ w1, Below w.heap.size w w1 → Calls Try.prog 20 #[.agg #[I64 s.now, .bool s.shut, valS u], valCall c] w1 fun e w' => OutEnd s c w1 e w') :
 Calls Try.prog 21 #[.agg #[I64 s.now, .bool s.shut, valS u], valCall c, agg3 r] w fun e w' => StepEnd s c r w e w' := by
 obtain ⟨hbA, hcc⟩ := st_new s u c r w
 unfold OB3 OB8 OB1 OBZ at hbA hcc
 obtain ⟨⟨ua, un, uc⟩, hu0⟩ : ∃ x, x = u := ⟨_, rfl⟩
 obtain ⟨⟨r1, r2, r3⟩, hr0⟩ : ∃ x, x = r := ⟨_, rfl⟩
 obtain ⟨wA, hwA⟩ : ∃ x, x = (((w.alloc (.cells #[I64 s.now, .bool s.shut, valS u] 26)).alloc (.cells #[I64 c.kind, I64 c.backend, I64 c.call, I64 c.conn, I64 c.time, .bool c.yes, I64 c.skip, I64 c.breaker] 36)).alloc (.cells #[I64 r.1, I64 r.2.1, I64 r.2.2] 31)).alloc (.cells #[I64 0, .bool false, .slice none 0 0] 26) := ⟨_, rfl⟩
 obtain ⟨B, hB⟩ : ∃ x, x = w.heap.size := ⟨_, rfl⟩
 rw [← hwA] at hbA hcc
 have HBA := Lib.hid hbA
 have HBs := Lib.hid hB
 rw [← hB] at hcc
 have HCC := Lib.hid hcc
 have HO' := Lib.hid (HO wA hbA)
 unfold OutEnd at HO'
 have HSTEP : Hid (∀ o, (Md.outcomes s c).1.find? (fun o => o.result == r) = some o → Md.step s c r = (o.next, o.effects, 0)) := fun o ho => step_find hE ho
 have HNONE : Hid ((Md.outcomes s c).1.find? (fun o => o.result == r) = none → Md.step s c r = (Md.none0, [], 6)) := fun ho => step_none hE ho
 rw [hE] at HO'
 clear hE
 have hll : (Md.outcomes s c).1.length ≤ 1001 := Nat.le_trans (outs_len s c) (by omega)
 clear hlen
 generalize (Md.outcomes s c).1 = l at HO' HSTEP HNONE hll
 have HLL := Lib.hid hll
 clear hll
 subst hu0
 subst hr0
 unfold agg3 valCall at *
 unfold valS at *
 dsimp only at *
 clear hbA hcc HO
 go_enter Try.func21, Try.ntmps21
 go_wp2_with fail
 simp only [← hwA, ← hB]
 clear hwA hB
 refine HO'.out.mono ?_
 rintro e w2 ⟨⟨v, rfl, hv⟩, hb2⟩
 obtain ⟨xs, hxl, hxr⟩ := hv
 have hrd := (hxr w2 (.refl _ _)).1
 obtain ⟨a, cap, hvf⟩ := hrd.len
 subst hvf
 have HXR := Lib.hid hxr
 have HXL := Lib.hid hxl
 have HRD := Lib.hid hrd
 have HB2 := Lib.hid hb2
 obtain ⟨N, hN⟩ : ∃ x, x = xs.length := ⟨_, rfl⟩
 rw [← hN]
 have HN := Lib.hid hN
 have hN9 : N ≤ 1001 := by rw [hN, hxl]; exact HLL.out
 clear hxr hxl hrd hb2 hN
 go_wp2_with fail
 go_loopw [12, 25] (fun _ kv wr => ∃ k : Nat, k ≤ N ∧ kv = .int .i64 k ∧ Hid (Below w2.heap.size w2 wr) ∧ Hid (l.find? (fun o => o.result == (r1, r2, r3)) = (l.drop k).find? (fun o => o.result == (r1, r2, r3)))) (fun _ kv _ => N - (intOf kv).toNat)
 case atStart => exact ⟨0, Nat.zero_le _, rfl, Below.refl _ _, rfl⟩
 case round =>
  obtain ⟨k, hkN, rfl, HBR, HF⟩ := hrel
  have hbr2 : Below wA.heap.size wA wr := HB2.out.trans (HBR.out.mono HB2.out.size)
  obtain ⟨⟨o0, o1, o2, o3, o4, o5, o6, o7, o8, o9, o10⟩, ⟨q0, q1, q2⟩, hz⟩ := HCC.out wr hbr2
  unfold valS at o2
  dsimp only at o2
  have HZ := Lib.hid hz
  by_cases hlt : k < N
  · have hkx : k < xs.length := by rw [← HN.out]; exact hlt
    have hkl : k < l.length := by rw [← HXL.out]; exact hkx
    obtain ⟨g, o, cp, e, _, hc⟩ := (HRD.out.below HBR.out).form (by intro e; rw [e] at hkx; simp at hkx)
    injection e with e1 e2 e3
    replace e1 : a = some ⟨g, o, none⟩ := e1
    subst e1
    clear e2 e3
    have hrow := hc k hkx
    have HOR : Hid (∀ w4, Gb (fun i => i < wA.heap.size) w2 w4 → OutRd w4 xs[k] l[k]) := fun w4 h4 => (HXR.out w4 h4).2 k hkx hkl
    have hres := (HOR.out w2 (.refl _ _)).res
    generalize xs[k] = xv at HOR hrow hres
    obtain ⟨⟨x1, x2, x3⟩, ⟨ea, en, ec⟩, xn, xb, ⟨pa, pn, pc⟩⟩ := xv
    have rr : ∀ i v, (encO ((x1, x2, x3), (ea, en, ec), xn, xb, (pa, pn, pc)))[i]? = some v → wr.cell? ⟨g, o + k * 7 + i, none⟩ = some v := hrow
    have m0 : wr.cell? ⟨g, o + k * 7, none⟩ = some (I64 x1) := rr 0 _ rfl
    have m1 : wr.cell? ⟨g, o + k * 7 + 1, none⟩ = some (I64 x2) := rr 1 _ rfl
    have m2 : wr.cell? ⟨g, o + k * 7 + 2, none⟩ = some (I64 x3) := rr 2 _ rfl
    have m3 : wr.cell? ⟨g, o + k * 7 + 3, none⟩ = some (.slice ea en ec) := rr 3 _ rfl
    have m4 : wr.cell? ⟨g, o + k * 7 + 4, none⟩ = some (I64 xn) := rr 4 _ rfl
    have m5 : wr.cell? ⟨g, o + k * 7 + 5, none⟩ = some (.bool xb) := rr 5 _ rfl
    have m6 : wr.cell? ⟨g, o + k * 7 + 6, none⟩ = some (.slice pa pn pc) := rr 6 _ rfl
    have hfd := find_drop hkl HF.out
    have hal := (Below.refl wr.heap.size wr).alloc (Nat.le_refl _) (.cells #[I64 x1, I64 x2, I64 x3, .slice ea en ec, I64 xn, .bool xb, .slice pa pn pc] 78)
    have hHA : Below w2.heap.size w2 (wr.alloc (.cells #[I64 x1, I64 x2, I64 x3, .slice ea en ec, I64 xn, .bool xb, .slice pa pn pc] 78)) := HBR.out.trans (hal.mono HBR.out.size)
    have HHA := Lib.hid hHA
    have hA6 := HB2.out.trans (hHA.mono HB2.out.size)
    have hltI : (k : Int) < (N : Int) := by omega
    have heq := eqR 9998 (x1, x2, x3) (r1, r2, r3)
    unfold agg3 at heq
    dsimp only at heq
    have e1 : Try.prog.eqGuardType Try.prog.depth 31 = false := by kernel_rfl
    obtain ⟨⟨-, -, -, -, -, -, -, -, -, -, -⟩, ⟨t0, t1, t2⟩, hz6⟩ := HCC.out _ hA6
    have HAL := Lib.hid hal
    have HZ6 := Lib.hid hz6
    clear hrow hc rr hal hHA hA6 hz hz6 hbr2
    clear o0 o1 o2 o3 o4 o5 o6 o7 o8 o9 o10
    clear q0 q1 q2
    by_cases hxe : (x1, x2, x3) = (r1, r2, r3)
    · have HL : Hid (l.find? (fun o => o.result == (r1, r2, r3)) = some l[k]) := hfd.1 (by rw [← hres]; exact hxe)
      rw [decide_eq_true hxe] at heq
      clear hfd hres
      have hP := blk_new wr (.cells #[I64 x1, I64 x2, I64 x3, .slice ea en ec, I64 xn, .bool xb, .slice pa pn pc] 78)
      have s3 := blk_cell hP 3
      have s4 := blk_cell hP 4
      have s5 := blk_cell hP 5
      have s6 := blk_cell hP 6
      simp only [List.getElem?_toArray, List.getElem?_cons_succ, List.getElem?_cons_zero] at s3 s4 s5 s6
      have HSP : Hid (SP wr.heap.size ((x1, x2, x3), (ea, en, ec), xn, xb, (pa, pn, pc)) (wr.alloc (.cells #[I64 x1, I64 x2, I64 x3, .slice ea en ec, I64 xn, .bool xb, .slice pa pn pc] 78))) := ⟨s3, s4, s5, s6⟩
      obtain ⟨P, hP0⟩ : ∃ x, x = wr.heap.size := ⟨_, rfl⟩
      have HP0 := Lib.hid hP0
      rw [← hP0] at HSP
      have y0 := blk_cell HZ6.out 0
      have y1 := blk_cell HZ6.out 1
      have y2 := blk_cell HZ6.out 2
      have v0 := blk_free HZ6.out 0
      have v1 := blk_free HZ6.out 1
      have v2 := blk_free HZ6.out 2
      simp only [List.getElem?_toArray, List.getElem?_cons_succ, List.getElem?_cons_zero] at y0 y1 y2
      clear hP s3 s4 s5 s6
      go_wp2_with fail
      simp only [← hP0]
      clear hP0
      refine wp_region_held_drew (S := SP P ((x1, x2, x3), (ea, en, ec), xn, xb, (pa, pn, pc))) (by kernel_rfl) HSP.out (fun hHeld => ?_)
      refine tk 0 (v := ?vv0_1) (dropAt rfl) (Or.inl ⟨by rfl, ?hv0_1⟩) hHeld ?rv0_1
      case hv0_1 => (intro w hSw; obtain ⟨s3, s4, s5, s6⟩ := hSw; unfold valS at s3 s6; dsimp only at s3 s4 s5 s6; go_simp; first | done | with_reducible rfl)
      try simp only [Act.put, pu2, pu3, pu4]
      refine tk 1 (v := ?vv1_2) (dropAt rfl) (Or.inl ⟨by rfl, ?hv1_2⟩) hHeld ?rv1_2
      case hv1_2 => (intro w hSw; obtain ⟨s3, s4, s5, s6⟩ := hSw; unfold valS at s3 s6; dsimp only at s3 s4 s5 s6; go_simp; first | done | with_reducible rfl)
      try simp only [Act.put, pu2, pu3, pu4]
      refine tk 2 (v := ?vv2_3) (dropAt rfl) (Or.inl ⟨by rfl, ?hv2_3⟩) hHeld ?rv2_3
      case hv2_3 => (intro w hSw; obtain ⟨s3, s4, s5, s6⟩ := hSw; unfold valS at s3 s6; dsimp only at s3 s4 s5 s6; go_simp; first | done | with_reducible rfl)
      try simp only [Act.put, pu2, pu3, pu4]
      refine tk 3 (v := ?vv3_4) (dropAt rfl) (Or.inl ⟨by rfl, ?hv3_4⟩) hHeld ?rv3_4
      case hv3_4 => (intro w hSw; obtain ⟨s3, s4, s5, s6⟩ := hSw; unfold valS at s3 s6; dsimp only at s3 s4 s5 s6; go_simp; first | done | with_reducible rfl)
      try simp only [Act.put, pu2, pu3, pu4]
      have HSP2 : Hid (SP P ((x1, x2, x3), (ea, en, ec), xn, xb, (pa, pn, pc)) ((((wr.alloc (.cells #[I64 x1, I64 x2, I64 x3, .slice ea en ec, I64 xn, .bool xb, .slice pa pn pc] 78)).drew.setCell ⟨B + 3, 0, none⟩ (I64 xn)).setCell ⟨B + 3, 1, none⟩ (.bool xb)).setCell ⟨B + 3, 2, none⟩ (.slice pa pn pc))) := by
       obtain ⟨s3, s4, s5, s6⟩ := HSP.out
       have hne : P ≠ B + 3 := by have := HP0.out; have := lt_of_block HZ.out; omega
       have hc : ∀ (W : World) i j v, (W.setCell ⟨B + 3, j, none⟩ v).cell? ⟨P, i, none⟩ = W.cell? ⟨P, i, none⟩ := fun W i j v => World.cell?_of_block (a := ⟨P, i, none⟩) (by unfold World.setCell; simp [Array.getElem?_modify, Ne.symm hne])
       unfold SP
       simp only [hc]
       exact HSP.out
      refine wpAnyH_ready (rs := [4]) (by kernel_rfl) (by simp) ?_
      refine AllReadyH.cons (o := _) (dropAt (r := _) rfl) (fun K hK => ?_) AllReadyH.nil
      go_simp
      refine hK.out _ _ HSP2.out (fun hHeld2 => ?_)
      clear hK K
      try simp only [Act.put, pu2, pu3, pu4]
      refine tk 5 (v := ?vv5_5) (dropAt rfl) (Or.inl ⟨by rfl, ?hv5_5⟩) hHeld2 ?rv5_5
      case hv5_5 => (intro w hSw; go_simp; first | done | with_reducible rfl)
      try simp only [Act.put, pu2, pu3, pu4]
      refine tk 6 (v := ?vv6_6) (dropAt rfl) (Or.inl ⟨by rfl, ?hv6_6⟩) hHeld2 ?rv6_6
      case hv6_6 => (intro w hSw; go_simp; first | done | with_reducible rfl)
      try simp only [Act.put, pu2, pu3, pu4]
      refine wpAnyH_done (by kernel_rfl) ?_ _
      go_wp2_with fail
      have hfin := blk_set (blk_set (blk_set (show ((wr.alloc (.cells #[I64 x1, I64 x2, I64 x3, .slice ea en ec, I64 xn, .bool xb, .slice pa pn pc] 78))).drew.heap[B + 3]? = _ from HZ6.out) 0 (I64 xn)) 1 (.bool xb)) 2 (.slice pa pn pc)
      have z0 := blk_cell hfin 0
      have z1 := blk_cell hfin 1
      have z2 := blk_cell hfin 2
      simp only [List.setIfInBounds_toArray, List.set_cons_zero, List.set_cons_succ, List.getElem?_toArray, List.getElem?_cons_succ, List.getElem?_cons_zero] at z0 z1 z2
      clear hfin
      refine bodyPost_ret (v := .tuple #[.agg #[I64 xn, .bool xb, .slice pa pn pc], .slice ea en ec, I64 0]) (by rw [results_cell_tmp2 rfl]; go_simp) rfl ?_
      have hle : w.heap.size ≤ B + 3 := by have := HBs.out; omega
      have hle2 : B + 3 < wA.heap.size := by
       obtain ⟨-, -, q⟩ := HCC.out wA (.refl _ _)
       exact lt_of_block q
      have HST := HSTEP.out _ HL.out
      have hbz : Below w.heap.size w ((((wr.alloc (.cells #[I64 x1, I64 x2, I64 x3, .slice ea en ec, I64 xn, .bool xb, .slice pa pn pc] 78)).drew.setCell ⟨B + 3, 0, none⟩ (I64 xn)).setCell ⟨B + 3, 1, none⟩ (.bool xb)).setCell ⟨B + 3, 2, none⟩ (.slice pa pn pc)) := (((HBA.out.trans ((HB2.out.trans (HHA.out.mono HB2.out.size)).mono HBA.out.size)).drew.setCell (p := ⟨B + 3, 0, none⟩) hle _).setCell (p := ⟨B + 3, 1, none⟩) hle _).setCell (p := ⟨B + 3, 2, none⟩) hle _
      have hgz : Gb (fun i => i < wA.heap.size) w2 ((((wr.alloc (.cells #[I64 x1, I64 x2, I64 x3, .slice ea en ec, I64 xn, .bool xb, .slice pa pn pc] 78)).drew.setCell ⟨B + 3, 0, none⟩ (I64 xn)).setCell ⟨B + 3, 1, none⟩ (.bool xb)).setCell ⟨B + 3, 2, none⟩ (.slice pa pn pc)) := ((((Gb.of_below HHA.out).trans (Gb.of_below (Below.refl _ _).drew)).setCell (x := ⟨B + 3, 0, none⟩) hle2 _).setCell (x := ⟨B + 3, 1, none⟩) hle2 _).setCell (x := ⟨B + 3, 2, none⟩) hle2 _
      exact stepEnd_ok (x := ((x1, x2, x3), (ea, en, ec), xn, xb, (pa, pn, pc))) HST HBA.out.size HOR.out hgz hbz
    · have HNX : Hid (l.find? (fun o => o.result == (r1, r2, r3)) = (l.drop (k + 1)).find? (fun o => o.result == (r1, r2, r3))) := hfd.2 (by rw [← hres]; exact hxe)
      rw [decide_eq_false hxe] at heq
      clear hfd hres hxe
      go_wp2
      case roundEnd =>
       refine ⟨⟨k + 1, hlt, by rw [show (k : Int) + 1 = ((k + 1 : Nat) : Int) by omega], HHA.out, HNX.out⟩, ?_⟩
       simp [intOf]
       omega
  · have hkE : k = N := by omega
    subst hkE
    have HL : Hid (l.find? (fun o => o.result == (r1, r2, r3)) = none) := by
     show _ = _
     rw [HF.out, List.drop_of_length_le (by rw [← HXL.out, ← HN.out]; exact Nat.le_refl _)]
     rfl
    have hkk : ¬ (k : Int) < (k : Int) := by omega
    clear hlt hkN
    clear o0 o1 o2 o3 o4 o5 o6 o7 o8 o9 o10
    clear q0 q1 q2 hbr2
    have y0 := blk_cell hz 0
    have y1 := blk_cell hz 1
    have y2 := blk_cell hz 2
    have v0 := blk_free hz 0
    have v1 := blk_free hz 1
    have v2 := blk_free hz 2
    simp only [List.getElem?_toArray, List.getElem?_cons_succ, List.getElem?_cons_zero] at y0 y1 y2
    clear hz
    go_wp2
    have hfin := blk_set (blk_set (blk_set HZ.out 0 (I64 0)) 1 (.bool false)) 2 (.slice none 0 0)
    have z0 := blk_cell hfin 0
    have z1 := blk_cell hfin 1
    have z2 := blk_cell hfin 2
    simp only [List.setIfInBounds_toArray, List.set_cons_zero, List.set_cons_succ, List.getElem?_toArray, List.getElem?_cons_succ, List.getElem?_cons_zero] at z0 z1 z2
    clear hfin
    refine bodyPost_ret (v := .tuple #[.agg #[I64 0, .bool false, .slice none 0 0], .slice none 0 0, I64 6]) (by rw [results_cell_tmp2 rfl]; go_simp) rfl ?_
    have hle : w.heap.size ≤ B + 3 := by have := HBs.out; omega
    exact stepEnd_err (HNONE.out HL.out) ((((HBA.out.trans ((HB2.out.trans (HBR.out.mono HB2.out.size)).mono HBA.out.size)).setCell (p := ⟨B + 3, 0, none⟩) hle _).setCell (p := ⟨B + 3, 1, none⟩) hle _).setCell (p := ⟨B + 3, 2, none⟩) hle _)
theorem step_of (c : Md.Call) (s : Md.State) (r : Md.Result) (u : SlV) (w : World) (hlen : s.pools.length ≤ 1000)
 (HO : ∀ w1, Below w.heap.size w w1 → Calls Try.prog 20 #[.agg #[I64 s.now, .bool s.shut, valS u], valCall c] w1 fun e w' => OutEnd s c w1 e w') :
 Calls Try.prog 21 #[.agg #[I64 s.now, .bool s.shut, valS u], valCall c, agg3 r] w fun e w' => StepEnd s c r w e w' := by
 by_cases hE : (Md.outcomes s c).2 = 0
 · exact step_ok c s r u w hE hlen HO
 · exact step_err c s r u w hE HO
end Go.Proofs.Ytaicmiadgnpimaa
