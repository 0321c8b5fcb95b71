/-
  The law ModelSplits of layer 26.
-/
import Derived.Test.YtaicmiadgnpimaaMdL0
import Derived.Test.YtaicmiadgnpimaaMw70
import Derived.Deep.DeepCutAuto
import Derived.Deep.CutRange
namespace Go.Proofs.Ytaicmiadgnpimaa
open Go.RowKit

/-- A quiet walk whose goal does not unfold by itself (operations that are left out would be run through at each step). -/
structure QW (P : Program) (ops : Array Oper) (C : World → Prop) (Q : Act → Prop) (l : List Oper) (a : Act) : Prop where
 out : wpQuiet P ops C Q l a
theorem QW.step {P : Program} {ops : Array Oper} {C : World → Prop} {Q : Act → Prop} {a : Act} {o : Oper} {rest : List Oper}
 (h : ∀ K : Act → Prop, (∀ a, QW P ops C Q rest a → K a) → if Region.wanted o (yielded ops a.tmps) then o.quiet P a C K else K (a.put o.dst undef)) : QW P ops C Q (o :: rest) a := ⟨wpQuiet_step fun K hK => h K fun a q => hK a q.out⟩
theorem QW.skip {P : Program} {ops : Array Oper} {C : World → Prop} {Q : Act → Prop} {a : Act} {o : Oper} {rest : List Oper} (hw : Region.wanted o (yielded ops a.tmps) = false) (h : QW P ops C Q rest (a.put o.dst undef)) : QW P ops C Q (o :: rest) a := ⟨by
 unfold wpQuiet
 rw [if_neg (by rw [hw]; exact Bool.false_ne_true)]
 exact h.out⟩
theorem wp_region_QW {P : Program} {C : World → Prop} {id : Nat} {Q : Exit → Act → World → Prop} {a : Act} {w : World} {l : List Oper} (hm : P.follows .mixedOrders = true) (hB : Region.lexB .any l.toArray = true) (hC : C w.drew)
 (h : QW P l.toArray C (fun a' => ∀ w', C w' → Q .normal a' w') l a) : (Code.region id l.toArray true).wp P Q a w := wp_region_quietC hm hB hC h.out
/-- played, for a law that goes on with the state whether or not the call was done. -/
theorem played_sp (c : Md.Call) (pk : Int) (s : Md.State) (u : SlV) (S : Nat → Prop) (w : World) (h : Sta w u s) (hS : ∀ w2, Gb S w w2 → PoolsAt w2 (valS u) s.pools) (hlt : ∀ i, S i → i < w.heap.size) (hp0 : 0 ≤ pk) (hp1 : pk ≤ 255) (h1 : c.call ≤ 9223372036854775807) (h2 : c.conn ≤ 9223372036854775807) :
 Calls Try.prog 10 #[.agg #[I64 s.now, .bool s.shut, valS u], vAct c pk] w fun e w' => ∃ (s2 : Md.State) (nv : SlV) (r : Md.Result) (ev : SlV) (dn : Bool), e = .returned (.tuple #[.agg #[I64 s2.now, .bool s2.shut, valS nv], agg3 r, valS ev, .bool dn]) ∧ (Md.Good s2 ∧ Md.Bnd s2 ∧ ∀ w2, Gb S w' w2 → PoolsAt w2 (valS nv) s2.pools) ∧ Below w.heap.size w w' := by
 by_cases hE : (Md.outcomes s c).2 = 0
 · have hl := Md.outcomes_ok hE
   refine (played_ok c pk s u w h hE hp0 hp1).mono ?_
   rintro e w' ⟨o, ho, u', ev, rfl, hl2, hb⟩
   exact ⟨o.next, _, _, _, _, rfl, ⟨Md.act_good h.good hl.2.1 o ho, Md.act_bnd hl.2.1 h.bnd h1 h2 o ho, fun w2 hg => (hl2 w2 (hg.mono (fun i _ q => hlt i q))).1⟩, hb⟩
 · refine (played_no c pk s u w h hE).mono ?_
   rintro e w' ⟨rfl, hb⟩
   exact ⟨s, u, (0, 0, 0), (none, 0, 0), false, rfl, ⟨h.good, h.bnd, fun w2 hg => hS w2 ((Gb.of_below hb).trans hg)⟩, hb⟩
theorem LawAt.put {w5 : World} {T : Nat} {s s2 : Md.State} {u nv : SlV} {wr w3 : World} (h : LawAt w5 T s u wr) (hb : Below wr.heap.size wr w3) (hg : Md.Good s2) (hbn : Md.Bnd s2) (hl : ∀ w2, Gb (fun i => i = T) w3 w2 → PoolsAt w2 (valS nv) s2.pools) :
 LawAt w5 T s2 nv (((w3.setCell ⟨T, 0, none⟩ (I64 s2.now)).setCell ⟨T, 1, none⟩ (.bool s2.shut)).setCell ⟨T, 2, none⟩ (valS nv)) := by
 have e1 : w3.heap[T]? = some (Z3 s.now s.shut (valS u)) := (hb.block _ (lt_of_block h.st)).trans h.st
 have hgz : Gb (fun i => i = T) w3 (((w3.setCell ⟨T, 0, none⟩ (I64 s2.now)).setCell ⟨T, 1, none⟩ (.bool s2.shut)).setCell ⟨T, 2, none⟩ (valS nv)) := (((Gb.refl (fun i => i = T) w3).setCell (x := ⟨T, 0, none⟩) rfl _).setCell (x := ⟨T, 1, none⟩) rfl _).setCell (x := ⟨T, 2, none⟩) rfl _
 refine ⟨hg, hbn, ?_, fun w2 h2 => hl w2 (hgz.trans h2), (h.gb.trans (.of_below hb)).trans hgz⟩
 have q := blk_set (blk_set (blk_set e1 0 (I64 s2.now)) 1 (.bool s2.shut)) 2 (valS nv)
 rw [q]
 simp [Z3]
/-- What a step of the loop has laid: the state in block T16, its backends, the effects. -/
structure SpOut (w4 : World) (nx : Md.State) (es : List Md.Effect) (qv fv : SlV) (T16 : Nat) (wx : World) : Prop where
 b : wx.heap[T16]? = some (Z3 nx.now nx.shut (valS qv))
 pools : PoolsAt wx (valS qv) nx.pools
 effs : ReadsL 4 encEff wx (valS fv) es
 bel : Below w4.heap.size w4 wx
theorem SpOut.make {w4 wc w6 wy : World} {nx : Md.State} {es : List Md.Effect} {qv fv : SlV} {T16 : Nat} (hc : Below w4.heap.size w4 wc) (h2 : ∀ w2, Gb (fun i => i < wc.heap.size) w6 w2 → PoolsAt w2 (valS qv) nx.pools ∧ ReadsL 4 encEff w2 (valS fv) es) (h3 : Below wc.heap.size wc w6) (h4 : Below w6.heap.size w6 wy)
 (b : wy.heap[T16]? = some (Z3 0 false (.slice none 0 0))) (l : w4.heap.size ≤ T16) (i : T16 < wc.heap.size ∨ w6.heap.size ≤ T16) : SpOut w4 nx es qv fv T16 (((wy.setCell ⟨T16, 0, none⟩ (I64 nx.now)).setCell ⟨T16, 1, none⟩ (.bool nx.shut)).setCell ⟨T16, 2, none⟩ (valS qv)) := by
 have hg : Gb (fun i => i < wc.heap.size) w6 (((wy.setCell ⟨T16, 0, none⟩ (I64 nx.now)).setCell ⟨T16, 1, none⟩ (.bool nx.shut)).setCell ⟨T16, 2, none⟩ (valS qv)) := by
  have g0 : Gb (fun i => i < wc.heap.size ∨ w6.heap.size ≤ i) w6 (((wy.setCell ⟨T16, 0, none⟩ (I64 nx.now)).setCell ⟨T16, 1, none⟩ (.bool nx.shut)).setCell ⟨T16, 2, none⟩ (valS qv)) := (((Gb.of_below h4).setCell (x := ⟨T16, 0, none⟩) i _).setCell (x := ⟨T16, 1, none⟩) i _).setCell (x := ⟨T16, 2, none⟩) i _
  refine g0.mono (fun j hj q => ?_)
  rcases q with q | q
  · exact q
  · omega
 refine ⟨?_, (h2 _ hg).1, (h2 _ hg).2, ?_⟩
 · have q := blk_set (blk_set (blk_set b 0 (I64 nx.now)) 1 (.bool nx.shut)) 2 (valS qv)
   rw [q]
   simp [Z3]
 · have hb := (hc.trans (h3.mono hc.size)).trans (h4.mono (Nat.le_trans hc.size h3.size))
   exact ((hb.setCell (p := ⟨T16, 0, none⟩) l _).setCell (p := ⟨T16, 1, none⟩) l _).setCell (p := ⟨T16, 2, none⟩) l _
theorem sorted_at {l : List Md.Outcome} (h : l.Pairwise (fun x y => x.result.2.1 < y.result.2.1)) {k : Nat} (hk : k + 1 < l.length) : l[k].result.2.1 < l[k + 1].result.2.1 := List.pairwise_iff_getElem.1 h k (k + 1) (by omega) hk (by omega)
set_option maxHeartbeats 8000000 in
set_option maxRecDepth 100000 in
set_option linter.unusedVariables false in
set_option linter.unusedSimpArgs false in
theorem splits_no (lims : List Md.Lim) (u : SlV) (acts : List (Md.Call × Int)) (v : SlV) (c : Md.Call) (w : World) (h : ReadsL 4 encLim w (valS u) lims) (h2 : ReadsL 9 encAct w (valS v) acts) (hE : (Md.new lims).2 ≠ 0) :
 Calls Try.prog 7 #[valS u, valS v, valCall c] w fun e w' => e = .returned (.bool true) ∧ Below w.heap.size w w' := by
 have hb0 := (Below.refl w.heap.size w).alloc (Nat.le_refl _) (.cells #[I64 c.kind, I64 c.backend, I64 c.call, I64 c.conn, I64 c.time, .bool c.yes, I64 c.skip, I64 c.breaker] 36)
 have h := h.below hb0
 have HB := Lib.hid (begun_no lims u _ h hE)
 obtain ⟨ua, un, uc⟩ := u
 obtain ⟨va, vn, vc⟩ := v
 have hun := read_len h
 have hvn := read_len h2
 dsimp only at hun hvn
 have HWA := Lib.hid hb0
 unfold valS valCall at *
 dsimp only at *
 clear h h2 hE hun hvn hb0
 go_enter Try.func7, Try.ntmps7
 go_wp2_with fail
 refine HB.out.mono ?_
 rintro e w2 ⟨⟨pa, pn, pc⟩, rfl, -, hb2⟩
 dsimp only
 obtain ⟨nn, hnn⟩ : ∃ x, x = (Md.new lims).1.now := ⟨_, rfl⟩
 obtain ⟨ns, hns⟩ : ∃ x, x = (Md.new lims).1.shut := ⟨_, rfl⟩
 rw [← hnn, ← hns]
 clear hnn hns
 have ha := (Below.refl w2.heap.size w2).alloc (Nat.le_refl _) (.cells #[I64 nn, .bool ns, .slice pa pn pc] 26)
 have HA := Lib.hid (HWA.out.trans ((hb2.trans (ha.mono hb2.size)).mono HWA.out.size))
 clear hb2 ha
 go_wp2_with fail
 refine (awake_any _).mono ?_
 rintro e w3 ⟨rfl, hb3⟩
 have HF := Lib.hid (HA.out.trans (hb3.mono HA.out.size))
 clear hb3
 go_wp2
 go_ret
 exact ⟨rfl, HF.out⟩
set_option maxHeartbeats 8000000 in
set_option maxRecDepth 100000 in
set_option linter.unusedVariables false in
set_option linter.unusedSimpArgs false in
theorem splits_far (lims : List Md.Lim) (u : SlV) (acts : List (Md.Call × Int)) (v : SlV) (c : Md.Call) (w : World) (h : ReadsL 4 encLim w (valS u) lims) (h2 : ReadsL 9 encAct w (valS v) acts) (hE : (Md.new lims).2 = 0) (hbig : 60 < acts.length) :
 Calls Try.prog 7 #[valS u, valS v, valCall c] w fun e w' => e = .returned (.bool true) ∧ Below w.heap.size w w' := by
 have hb0 := (Below.refl w.heap.size w).alloc (Nat.le_refl _) (.cells #[I64 c.kind, I64 c.backend, I64 c.call, I64 c.conn, I64 c.time, .bool c.yes, I64 c.skip, I64 c.breaker] 36)
 have h := h.below hb0
 have HB := Lib.hid (begun_ok lims u _ h hE)
 obtain ⟨ua, un, uc⟩ := u
 obtain ⟨va, vn, vc⟩ := v
 have hun := read_len h
 have hvn := read_len h2
 dsimp only at hun hvn
 have HWA := Lib.hid hb0
 have hz1 : decide ((60 : Int) < (vn : Int)) = true := decide_eq_true (by omega)
 unfold valS valCall at *
 dsimp only at *
 clear h h2 hE hun hvn hbig hb0
 go_enter Try.func7, Try.ntmps7
 go_wp2_with fail
 refine HB.out.mono ?_
 rintro e w2 ⟨⟨pa, pn, pc⟩, rfl, -, hb2⟩
 dsimp only
 obtain ⟨nn, hnn⟩ : ∃ x, x = (Md.new lims).1.now := ⟨_, rfl⟩
 obtain ⟨ns, hns⟩ : ∃ x, x = (Md.new lims).1.shut := ⟨_, rfl⟩
 rw [← hnn, ← hns]
 clear hnn hns
 have ha := (Below.refl w2.heap.size w2).alloc (Nat.le_refl _) (.cells #[I64 nn, .bool ns, .slice pa pn pc] 26)
 have HA := Lib.hid (HWA.out.trans ((hb2.trans (ha.mono hb2.size)).mono HWA.out.size))
 clear hb2 ha
 go_wp2_with fail
 refine (awake_any _).mono ?_
 rintro e w3 ⟨rfl, hb3⟩
 have HF := Lib.hid (HA.out.trans (hb3.mono HA.out.size))
 clear hb3
 go_wp2
 go_ret
 exact ⟨rfl, HF.out⟩
set_option maxHeartbeats 8000000 in
set_option maxRecDepth 100000 in
set_option linter.unusedVariables false in
set_option linter.unusedSimpArgs false in
theorem splits_loop (lims : List Md.Lim) (u : SlV) (acts : List (Md.Call × Int)) (v : SlV) (c : Md.Call) (w : World) (h : ReadsL 4 encLim w (valS u) lims) (h2 : ReadsL 9 encAct w (valS v) acts) (hE : (Md.new lims).2 = 0) (hbig : acts.length ≤ 60) (hin : ∀ x ∈ acts, ActIn x) (hc : c.call ≤ 9223372036854775807 ∧ c.conn ≤ 9223372036854775807) :
 Calls Try.prog 7 #[valS u, valS v, valCall c] w fun e w' => e = .returned (.bool true) ∧ Below w.heap.size w w' := by
 have hb0 := (Below.refl w.heap.size w).alloc (Nat.le_refl _) (.cells #[I64 c.kind, I64 c.backend, I64 c.call, I64 c.conn, I64 c.time, .bool c.yes, I64 c.skip, I64 c.breaker] 36)
 have h := h.below hb0
 have HB := Lib.hid (begun_ok lims u _ h hE)
 obtain ⟨hgc, hgl, hgm⟩ := Md.new_good hE
 have HG0 := Lib.hid (Md.check_ok.1 hgc)
 have HB0 := Lib.hid (new_bnd hE)
 obtain ⟨ua, un, uc⟩ := u
 obtain ⟨va, vn, vc⟩ := v
 have hun := read_len h
 have hvn := read_len h2
 dsimp only at hun hvn
 have HWA := Lib.hid hb0
 have hcb := blk_new w (.cells #[I64 c.kind, I64 c.backend, I64 c.call, I64 c.conn, I64 c.time, .bool c.yes, I64 c.skip, I64 c.breaker] 36)
 have HCX := Lib.hid hcb
 have hz1 : decide ((60 : Int) < (vn : Int)) = false := decide_eq_false (by omega)
 have hvn60 : vn ≤ 60 := by omega
 unfold valS valCall at *
 dsimp only at *
 have HV := Lib.hid h2
 have HVN := Lib.hid hvn
 have HIN := Lib.hid hin
 have HCN := Lib.hid hc
 generalize (Md.new lims).1 = s0 at *
 obtain ⟨nn, hnn⟩ : ∃ x, x = s0.now := ⟨_, rfl⟩
 obtain ⟨ns, hns⟩ : ∃ x, x = s0.shut := ⟨_, rfl⟩
 rw [← hnn, ← hns] at HB
 have HNN := Lib.hid hnn
 have HNS := Lib.hid hns
 clear h h2 hE hun hvn hbig hgc hgl hgm hin hnn hns hb0 hcb hc
 go_enter Try.func7, Try.ntmps7
 go_wp2_with fail
 refine HB.out.mono ?_
 rintro e w2 ⟨⟨pa, pn, pc⟩, rfl, hlies, hb2⟩
 dsimp only at hlies ⊢
 obtain ⟨w5, hw5⟩ : ∃ x, x = w2.alloc (.cells #[I64 nn, .bool ns, .slice pa pn pc] 26) := ⟨_, rfl⟩
 obtain ⟨T, hT⟩ : ∃ x, x = w2.heap.size := ⟨_, rfl⟩
 obtain ⟨CB, hCB⟩ : ∃ x, x = w.heap.size := ⟨_, rfl⟩
 have H5 : Hid (Below w.heap.size w w5 ∧ LawAt w5 T s0 (pa, pn, pc) w5 ∧ w5.heap.size = T + 1 ∧ w.heap.size < T ∧ CB < T ∧ w5.heap[CB]? = some (.cells #[I64 c.kind, I64 c.backend, I64 c.call, I64 c.conn, I64 c.time, .bool c.yes, I64 c.skip, I64 c.breaker] 36 (0, 0))) := by
  have a1 := (Below.refl w2.heap.size w2).alloc (Nat.le_refl _) (.cells #[I64 nn, .bool ns, .slice pa pn pc] 26)
  have s1 : (w2.alloc (.cells #[I64 nn, .bool ns, .slice pa pn pc] 26)).heap.size = T + 1 := by rw [hT]; simp
  have b1 := blk_new w2 (.cells #[I64 nn, .bool ns, .slice pa pn pc] 26)
  have hx := hb2.trans (a1.mono hb2.size)
  have hcx := (hx.block _ (lt_of_block HCX.out)).trans HCX.out
  rw [← hw5] at a1 b1 s1 hx hcx
  rw [← hT] at b1
  rw [← hCB] at hcx
  have hbw := HWA.out.trans (hx.mono HWA.out.size)
  have hsz := hb2.size
  have hs2 := lt_of_block HCX.out
  refine ⟨hbw, LawAt.start HG0.out HB0.out (fun w3 h3 => hlies w3 h3) a1 (by omega) (by rw [← HNN.out, ← HNS.out]; exact b1), s1, by omega, by omega, hcx⟩
 clear hlies hb2
 go_wp2_with fail
 simp only [← hw5, ← hT, ← hCB]
 clear hw5 hT hCB
 go_loopw [9] (fun iv wr => ∃ i : Nat, ∃ s : Md.State, ∃ xa xn xc, i ≤ vn ∧ iv = .int .i64 i ∧ Hid (LawAt w5 T s (xa, xn, xc) wr)) (fun iv _ => vn - (intOf iv).toNat)
 case atStart => exact ⟨0, s0, pa, pn, pc, Nat.zero_le _, rfl, H5.out.2.1⟩
 case round =>
  obtain ⟨wv, hwv⟩ : ∃ x, x = wr := ⟨_, rfl⟩
  subst hwv
  obtain ⟨i, s, xa, xn, xc, hiN, rfl, HA⟩ := hrel
  have HBW : Hid (Below w.heap.size w wv) := H5.out.1.trans (HA.out.gb.below H5.out.1.size (fun j (q : j = T) => by have := H5.out.2.2.2.1; omega))
  by_cases hlt : i < vn
  · have hiv : i < acts.length := by rw [← HVN.out]; exact hlt
    obtain ⟨ga, oa, ca, e, _, hca⟩ := HV.out.form (by intro e; rw [e] at hiv; simp at hiv)
    injection e with e1 e2 e3
    replace e1 : va = some ⟨ga, oa, none⟩ := e1
    subst e1
    clear e2 e3
    have hrowa := hca i hiv
    have hx := HIN.out _ (List.getElem_mem hiv)
    generalize acts[i] = x at hrowa hx
    obtain ⟨⟨ck, cb, cc, cn, ct, cy, cs, cr⟩, pk⟩ := x
    have hxl : ∀ j v, (encAct (⟨ck, cb, cc, cn, ct, cy, cs, cr⟩, pk))[j]? = some v → w.cell? ⟨ga, oa + i * 9 + j, none⟩ = some v := hrowa
    have HXL := Lib.hid hxl
    have HX := Lib.hid hx
    have HCL : Hid (∀ w1, Below wv.heap.size wv w1 → S3 T s.now s.shut (.slice xa xn xc) w1 ∧ C8 ga (oa + i * 9) ⟨ck, cb, cc, cn, ct, cy, cs, cr⟩ w1 ∧ w1.cell? ⟨ga, oa + i * 9 + 8, none⟩ = some (.int .u8 pk)) := fun w1 h1 => by
     have b0 := (h1.block _ (lt_of_block HA.out.st)).trans HA.out.st
     have hb1 := HBW.out.trans (h1.mono HBW.out.size)
     have hcc : ∀ j v, (encAct (⟨ck, cb, cc, cn, ct, cy, cs, cr⟩, pk))[j]? = some v → w1.cell? ⟨ga, oa + i * 9 + j, none⟩ = some v := fun j v hv => (hb1.cell (p := ⟨ga, _, none⟩) (cell_lt (HXL.out j v hv))).trans (HXL.out j v hv)
     exact ⟨⟨blk_cell b0 0, blk_cell b0 1, blk_cell b0 2⟩, ⟨hcc 0 _ rfl, hcc 1 _ rfl, hcc 2 _ rfl, hcc 3 _ rfl, hcc 4 _ rfl, hcc 5 _ rfl, hcc 6 _ rfl, hcc 7 _ rfl⟩, hcc 8 _ rfl⟩
    have HPL : Hid (∀ w1, Below wv.heap.size wv w1 → Calls Try.prog 10 #[.agg #[I64 s.now, .bool s.shut, .slice xa xn xc], .agg #[I64 ck, I64 cb, I64 cc, I64 cn, I64 ct, .bool cy, I64 cs, I64 cr, .int .u8 pk]] w1 fun e w' => ∃ (s2 : Md.State) (nv : SlV) (r : Md.Result) (ev : SlV) (dn : Bool), e = .returned (.tuple #[.agg #[I64 s2.now, .bool s2.shut, valS nv], agg3 r, valS ev, .bool dn]) ∧ (Md.Good s2 ∧ Md.Bnd s2 ∧ ∀ w2, Gb (fun i => i = T) w' w2 → PoolsAt w2 (valS nv) s2.pools) ∧ Below w1.heap.size w1 w') := fun w1 h1 => played_sp ⟨ck, cb, cc, cn, ct, cy, cs, cr⟩ pk s (xa, xn, xc) (fun i => i = T) w1 (HA.out.sta h1) (fun w2 h2 => HA.out.lies w2 ((Gb.of_below h1).trans h2)) (fun j (q : j = T) => by have := lt_of_block HA.out.st; have := h1.size; omega) HX.out.p0 HX.out.p1 HX.out.call HX.out.conn
    have hltI : (i : Int) < (vn : Int) := by omega
    clear hca hrowa hx hxl hiv
    go_wp2_with fail
    have HCG : Hid (∀ w1, Gb (fun i => i = T) wv w1 → C8 ga (oa + i * 9) ⟨ck, cb, cc, cn, ct, cy, cs, cr⟩ w1 ∧ w1.cell? ⟨ga, oa + i * 9 + 8, none⟩ = some (.int .u8 pk)) := fun w1 h1 => by
     have hcc : ∀ j v, (encAct (⟨ck, cb, cc, cn, ct, cy, cs, cr⟩, pk))[j]? = some v → w1.cell? ⟨ga, oa + i * 9 + j, none⟩ = some v := fun j v hv => by
      have q1 := (HBW.out.cell (p := ⟨ga, _, none⟩) (cell_lt (HXL.out j v hv))).trans (HXL.out j v hv)
      have q2 := cell_lt (HXL.out j v hv)
      have q3 := H5.out.2.2.2.1
      exact h1.cellOf (by omega) q1
     exact ⟨⟨hcc 0 _ rfl, hcc 1 _ rfl, hcc 2 _ rfl, hcc 3 _ rfl, hcc 4 _ rfl, hcc 5 _ rfl, hcc 6 _ rfl, hcc 7 _ rfl⟩, hcc 8 _ rfl⟩
    obtain ⟨⟨n0, n1, n2⟩, -, -⟩ := HCL.out wv (.refl _ _)
    refine wp_region_held_drew (S := fun w1 => Hid (Gb (fun i => i = T) wv w1)) (by kernel_rfl) (Gb.of_below (Below.refl _ _).drew) (fun hH0 => ?_)
    refine tk 1 (v := ?vv1_1) (dropAt rfl) (Or.inl ⟨by rfl, ?hv1_1⟩) hH0 ?rv1_1
    case hv1_1 => (intro w hSw; obtain ⟨⟨c0, c1, c2, c3, c4, c5, c6, c7⟩, c8⟩ := HCG.out _ hSw.out; go_simp; first | done | with_reducible rfl)
    try simp only [Act.put, pu2, pu3, pu4]
    refine tk 2 (v := ?vv2_2) (dropAt rfl) (Or.inl ⟨by rfl, ?hv2_2⟩) hH0 ?rv2_2
    case hv2_2 => (intro w hSw; obtain ⟨⟨c0, c1, c2, c3, c4, c5, c6, c7⟩, c8⟩ := HCG.out _ hSw.out; go_simp; first | done | with_reducible rfl)
    try simp only [Act.put, pu2, pu3, pu4]
    refine tk 3 (v := ?vv3_3) (dropAt rfl) (Or.inl ⟨by rfl, ?hv3_3⟩) hH0 ?rv3_3
    case hv3_3 => (intro w hSw; obtain ⟨⟨c0, c1, c2, c3, c4, c5, c6, c7⟩, c8⟩ := HCG.out _ hSw.out; go_simp; first | done | with_reducible rfl)
    try simp only [Act.put, pu2, pu3, pu4]
    refine tk 4 (v := ?vv4_4) (dropAt rfl) (Or.inl ⟨by rfl, ?hv4_4⟩) hH0 ?rv4_4
    case hv4_4 => (intro w hSw; obtain ⟨⟨c0, c1, c2, c3, c4, c5, c6, c7⟩, c8⟩ := HCG.out _ hSw.out; go_simp; first | done | with_reducible rfl)
    try simp only [Act.put, pu2, pu3, pu4]
    refine wpAnyH_ready (rs := [0]) (by kernel_rfl) (by simp) ?_
    refine AllReadyH.cons (o := _) (dropAt rfl) (fun K hK => ?_) AllReadyH.nil
    go_simp
    refine hK.out _ _ hH0 (fun _ => ?_)
    clear hK K n0 n1 n2
    try simp only [Act.put, pu2, pu3, pu4]
    refine wpAnyH_ready (rs := [5]) (by kernel_rfl) (by simp) ?_
    refine AllReadyH.cons (o := _) (dropAt rfl) (fun K hK => ?_) AllReadyH.nil
    go_simp
    refine (HPL.out _ (Below.refl _ _).drew).mono ?_
    rintro e w3 ⟨s2, ⟨pa, pn, pc⟩, ⟨r1, r2, r3⟩, ⟨ea, en, ec⟩, dn, rfl, hp, hb3⟩
    unfold valS agg3
    dsimp only
    have hB3 : Hid (Below wv.heap.size wv w3) := (Below.refl _ _).drew.trans hb3
    have HP := Lib.hid hp
    have HG3 : Hid (Gb (fun i => i = T) wv w3) := Gb.of_below hB3.out
    refine hK.out _ _ HG3 (fun hH3 => ?_)
    clear hK K hb3 hp
    try simp only [Act.put, pu2, pu3, pu4]
    refine tk 6 (v := ?vv6_5) (dropAt rfl) (Or.inl ⟨by rfl, ?hv6_5⟩) hH3 ?rv6_5
    case hv6_5 => (intro w hSw; go_simp; first | done | with_reducible rfl)
    try simp only [Act.put, pu2, pu3, pu4]
    refine tk 7 (v := ?vv7_6) (dropAt rfl) (Or.inl ⟨by rfl, ?hv7_6⟩) hH3 ?rv7_6
    case hv7_6 => (intro w hSw; go_simp; first | done | with_reducible rfl)
    try simp only [Act.put, pu2, pu3, pu4]
    refine tk 8 (v := ?vv8_7) (dropAt rfl) (Or.inl ⟨by rfl, ?hv8_7⟩) hH3 ?rv8_7
    case hv8_7 => (intro w hSw; go_simp; first | done | with_reducible rfl)
    try simp only [Act.put, pu2, pu3, pu4]
    refine tk 9 (v := ?vv9_8) (dropAt rfl) (Or.inl ⟨by rfl, ?hv9_8⟩) hH3 ?rv9_8
    case hv9_8 => (intro w hSw; go_simp; first | done | with_reducible rfl)
    try simp only [Act.put, pu2, pu3, pu4]
    refine tk 10 (v := ?vv10_9) (dropAt rfl) (Or.inl ⟨by rfl, ?hv10_9⟩) hH3 ?rv10_9
    case hv10_9 => (intro w hSw; go_simp; first | done | with_reducible rfl)
    try simp only [Act.put, pu2, pu3, pu4]
    have HNX := Lib.hid (HA.out.put hB3.out HP.out.1 HP.out.2.1 HP.out.2.2)
    have hT3 := (hB3.out.block _ (lt_of_block HA.out.st)).trans HA.out.st
    unfold Z3 valS at hT3
    unfold valS at HNX
    dsimp only at hT3 HNX
    have t0 := blk_cell hT3 0
    have t1 := blk_cell hT3 1
    have t2 := blk_cell hT3 2
    have ft0 := blk_free hT3 0
    have ft1 := blk_free hT3 1
    have ft2 := blk_free hT3 2
    simp only [List.getElem?_toArray, List.getElem?_cons_succ, List.getElem?_cons_zero] at t0 t1 t2
    clear hT3
    obtain ⟨n2, hn2⟩ : ∃ x, x = s2.now := ⟨_, rfl⟩
    obtain ⟨b2, hb2⟩ : ∃ x, x = s2.shut := ⟨_, rfl⟩
    rw [← hn2, ← hb2] at HNX
    rw [← hn2, ← hb2]
    clear hn2 hb2
    refine wpAnyH_ready (rs := [11]) (by kernel_rfl) (by simp) ?_
    refine AllReadyH.cons (o := _) (dropAt rfl) (fun K hK => ?_) AllReadyH.nil
    go_simp
    refine hK.out _ _ ((((HG3.out.setCell (x := ⟨T, 0, none⟩) rfl _).setCell (x := ⟨T, 1, none⟩) rfl _).setCell (x := ⟨T, 2, none⟩) rfl _)) (fun _ => ?_)
    clear hK K
    try simp only [Act.put, pu2, pu3, pu4]
    refine wpAnyH_done (by kernel_rfl) ?_ _
    go_wp2_with fail
    refine ⟨⟨i + 1, s2, pa, pn, pc, hlt, by rw [show (i : Int) + 1 = ((i + 1 : Nat) : Int) by omega], HNX⟩, ?_⟩
    simp [intOf]
    omega
  · have hin2 : ¬ (i : Int) < (vn : Int) := by omega
    have HSC : Hid (∀ w1, Below wv.heap.size wv w1 → S3 T s.now s.shut (.slice xa xn xc) w1 ∧ C8 CB 0 c w1) := fun w1 h1 => by
     have b0 := (h1.block _ (lt_of_block HA.out.st)).trans HA.out.st
     have hcv := (HA.out.gb.block CB (lt_of_block H5.out.2.2.2.2.2) (fun (q : CB = T) => by have := H5.out.2.2.2.2.1; omega)).trans H5.out.2.2.2.2.2
     have bc := (h1.block _ (lt_of_block hcv)).trans hcv
     exact ⟨⟨blk_cell b0 0, blk_cell b0 1, blk_cell b0 2⟩, ⟨blk_cell bc 0, blk_cell bc 1, blk_cell bc 2, blk_cell bc 3, blk_cell bc 4, blk_cell bc 5, blk_cell bc 6, blk_cell bc 7⟩⟩
    have HOU := Lib.hid (outcomes_g c s (xa, xn, xc) wv (HA.out.sta (.refl _ _)))
    obtain ⟨⟨n0, n1, n2⟩, c9⟩ := HSC.out wv (.refl _ _)
    unfold C8 at c9
    simp only [Nat.zero_add] at c9
    obtain ⟨k0, k1, k2, k3, k4, k5, k6, k7⟩ := c9
    unfold valS valCall at HOU
    dsimp only at HOU
    go_wp2_with fail
    refine HOU.out.mono ?_
    rintro e wD hoe
    obtain ⟨⟨v, rfl, hor⟩, hbD⟩ := hoe
    dsimp only
    clear n0 n1 n2 k0 k1 k2 k3 k4 k5 k6 k7
    have HBD := Lib.hid hbD
    have HOR := Lib.hid hor
    clear hbD hor
    by_cases hE : (Md.outcomes s c).2 = 0
    · have hok := Md.outcomes_ok hE
      have HWR := Lib.hid hok.2.1
      rw [hok.2.2] at HOR
      have hso := Md.step_out hE
      rw [hok.2.2] at hso
      have HSO := Lib.hid hso
      have HGO := Lib.hid (Md.act_good HA.out.good hok.2.1)
      have HBO := Lib.hid (Md.act_bnd hok.2.1 HA.out.bnd HCN.out.1 HCN.out.2)
      have HEL := Lib.hid (effs_len (c := c) HA.out.good)
      have HSR := Lib.hid (Md.act_sorted s c)
      have hnz := Md.act_ne s c
      have HAL9 : Hid ((Md.act s c).length ≤ 17) := by
       have q := act_len s c
       have := HA.out.good.len2
       show _ ≤ _
       omega
      rw [hE]
      clear hok hso
      obtain ⟨xs, hxl, hxr⟩ := HOR.out
      obtain ⟨ls, hls⟩ : ∃ x, x = Md.act s c := ⟨_, rfl⟩
      rw [← hls] at hxl hxr HSO HGO HBO HEL HSR hnz HAL9
      clear HOR hls
      obtain ⟨va2, cap2, hv2⟩ := (hxr wD (.refl _ _)).1.len
      have hfo := (hxr wD (.refl _ _)).1.form (by intro e; rw [e] at hxl; exact hnz (List.eq_nil_of_length_eq_zero hxl.symm))
      obtain ⟨g, o, cap, hv3, hgl, -⟩ := hfo
      clear hv2
      subst hv3
      have HRW : Hid (∀ w1, Below wD.heap.size wD w1 → ∀ j (hj : j < xs.length) (i : Nat) (u : Value), (encO xs[j])[i]? = some u → w1.cell? ⟨g, o + j * 7 + i, none⟩ = some u) := fun w1 h1 => by
       obtain ⟨g2, o2, cap2, e, _, hc⟩ := (hxr w1 (Gb.of_below h1)).1.form (by intro e; rw [e] at hxl; exact hnz (List.eq_nil_of_length_eq_zero hxl.symm))
       injection e with e1 e2 e3
       injection e1 with e1
       injection e1 with e4 e5
       subst e4 e5
       exact hc
      have HXR := Lib.hid hxr
      have HXL2 := Lib.hid hxl
      obtain ⟨n, hn⟩ : ∃ x, x = xs.length := ⟨_, rfl⟩
      rw [← hn] at hxl ⊢
      have HN := Lib.hid hn
      have hn0 : 0 < n := by
       rcases Nat.eq_zero_or_pos n with q | q
       · exact absurd (List.eq_nil_of_length_eq_zero (hxl.symm.trans q)) hnz
       · exact q
      have hn9 : n ≤ 17 := by rw [hxl]; exact HAL9.out
      clear hxl hxr hn hnz hE
      go_wp2_with fail
      go_loopw [15, 16, 17, 18] (fun iv _ _ _ wr => ∃ k : Nat, k ≤ n ∧ iv = .int .i64 k ∧ Hid (Below wD.heap.size wD wr)) (fun iv _ _ _ _ => n - (intOf iv).toNat)
      case atStart => exact ⟨0, Nat.zero_le _, rfl, Lib.hid (Below.refl _ _)⟩
      case round =>
       obtain ⟨k, hk, rfl, HK⟩ := hrel
       obtain ⟨w4, hw4⟩ : ∃ x, x = wr := ⟨_, rfl⟩
       subst hw4
       by_cases hlk : k < n
       · have hkx : k < xs.length := by rw [← HN.out]; exact hlk
         have hkl : k < ls.length := by rw [← HXL2.out]; exact hkx
         have hox := (HXR.out w4 (Gb.of_below HK.out)).2 k hkx hkl
         have ho := List.getElem_mem hkl
         have hrw := HRW.out w4 HK.out k hkx
         have hst := HSO.out _ ho
         have hgo := HGO.out _ ho
         have hbo := HBO.out _ ho
         have hel := HEL.out _ ho
         have hpv : Hid (∀ j, j + 1 = k → ∃ z, (∀ w1, Below wD.heap.size wD w1 → w1.cell? ⟨g, o + j * 7 + 1, none⟩ = some (I64 z)) ∧ z < ls[k].result.2.1) := fun j hj => by
          have hjx : j < xs.length := by omega
          have hjl : j < ls.length := by omega
          refine ⟨xs[j].1.2.1, fun w1 h1 => HRW.out w1 h1 j hjx 1 _ rfl, ?_⟩
          have q := ((HXR.out wD (.refl _ _)).2 j hjx hjl).res
          rw [q]
          subst hj
          exact sorted_at HSR.out hkl
         generalize xs[k] = x at hox hrw
         generalize ls[k] = ou at hox hst hgo hbo hel hpv
         obtain ⟨⟨r1, r2, r3⟩, ⟨ea, eN, ec⟩, nw, sh, ⟨pa, pN, pc⟩⟩ := x
         obtain ⟨⟨q1, q2, q3⟩, es, nx⟩ := ou
         have hrs := hox.res
         have hnw := hox.now
         have hsh := hox.shut
         have HEF := Lib.hid hox.effs
         have HPO := Lib.hid hox.pools
         dsimp only at hrs hnw hsh hst hgo hbo hel HEF HPO hpv
         injection hrs with z1 z2
         injection z2 with z2 z3
         subst z1 z2 z3
         subst hnw hsh
         have HROW := Lib.hid hrw
         have HG2 := Lib.hid hgo
         have HB2 := Lib.hid hbo
         have hel2 : es.length ≤ 4294967296 := by omega
         have HCW : Hid (∀ w1, Below w4.heap.size w4 w1 → (S3 T s.now s.shut (.slice xa xn xc) w1 ∧ C8 CB 0 c w1) ∧ w1.cell? ⟨g, o + k * 7, none⟩ = some (I64 r1) ∧ w1.cell? ⟨g, o + k * 7 + 1, none⟩ = some (I64 r2) ∧ w1.cell? ⟨g, o + k * 7 + 2, none⟩ = some (I64 r3) ∧ w1.cell? ⟨g, o + k * 7 + 3, none⟩ = some (.slice ea eN ec) ∧ w1.cell? ⟨g, o + k * 7 + 4, none⟩ = some (I64 nx.now) ∧ w1.cell? ⟨g, o + k * 7 + 5, none⟩ = some (.bool nx.shut) ∧ w1.cell? ⟨g, o + k * 7 + 6, none⟩ = some (.slice pa pN pc)) := fun w1 h1 => by
          have hr : ∀ i u, (encO ((r1, r2, r3), (ea, eN, ec), nx.now, nx.shut, (pa, pN, pc)))[i]? = some u → w1.cell? ⟨g, o + k * 7 + i, none⟩ = some u := fun i u hu => (h1.cell (p := ⟨g, _, none⟩) (cell_lt (HROW.out i u hu))).trans (HROW.out i u hu)
          exact ⟨HSC.out w1 (HBD.out.trans ((HK.out.trans (h1.mono HK.out.size)).mono HBD.out.size)), hr 0 _ rfl, hr 1 _ rfl, hr 2 _ rfl, hr 3 _ rfl, hr 4 _ rfl, hr 5 _ rfl, hr 6 _ rfl⟩
         have HST2 : Hid (∀ w1, Below w4.heap.size w4 w1 → Calls Try.prog 21 #[.agg #[I64 s.now, .bool s.shut, .slice xa xn xc], .agg #[I64 c.kind, I64 c.backend, I64 c.call, I64 c.conn, I64 c.time, .bool c.yes, I64 c.skip, I64 c.breaker], .agg #[I64 r1, I64 r2, I64 r3]] w1 fun e w' => ∃ qv fv : SlV, e = .returned (.tuple #[.agg #[I64 nx.now, .bool nx.shut, valS qv], valS fv, I64 0]) ∧ (∀ w2, Gb (fun i => i < w1.heap.size) w' w2 → PoolsAt w2 (valS qv) nx.pools ∧ ReadsL 4 encEff w2 (valS fv) es) ∧ Below w1.heap.size w1 w') := fun w1 h1 => by
          have q := step_g c s (r1, r2, r3) (xa, xn, xc) w1 (HA.out.sta (HBD.out.trans ((HK.out.trans (h1.mono HK.out.size)).mono HBD.out.size)))
          unfold StepEnd at q
          rw [hst] at q
          exact q
         have hkI : (k : Int) < (n : Int) := by omega
         clear hox ho hrw hst hgo hbo hel
         clear hkl
         go_upto_region 15 with fail
         go_cut [16, 17, 18] from 76 to 140 (fun v16 v17 v18 wx => ∃ T16 qv fv, v16 = .pointer (some ⟨T16, 0, none⟩) ∧ v17 = valS fv ∧ v18 = .int .i64 0 ∧ Hid (SpOut w4 nx es qv fv T16 wx))
         case first =>
          as_aux_lemma =>
           refine wp_region_held_drew (S := fun w1 => Hid (Below w4.heap.size w4 w1)) (by kernel_rfl) ((Below.refl _ _).drew) (fun hH0 => ?_)
           refine tk 0 (v := ?vv0_10) (dropAt rfl) (Or.inl ⟨by rfl, ?hv0_10⟩) hH0 ?rv0_10
           case hv0_10 => (intro w hSw; obtain ⟨⟨⟨s0_, s1_, s2_⟩, c9⟩, x0, x1, x2, x3, x4, x5, x6⟩ := HCW.out _ hSw.out; unfold C8 at c9; simp only [Nat.zero_add] at c9; obtain ⟨c0, c1, c2, c3, c4, c5, c6, c7⟩ := c9; go_simp; first | done | with_reducible rfl)
           try simp only [Act.put, pu2, pu3, pu4]
           refine tk 1 (v := ?vv1_11) (dropAt rfl) (Or.inl ⟨by rfl, ?hv1_11⟩) hH0 ?rv1_11
           case hv1_11 => (intro w hSw; obtain ⟨⟨⟨s0_, s1_, s2_⟩, c9⟩, x0, x1, x2, x3, x4, x5, x6⟩ := HCW.out _ hSw.out; unfold C8 at c9; simp only [Nat.zero_add] at c9; obtain ⟨c0, c1, c2, c3, c4, c5, c6, c7⟩ := c9; go_simp; first | done | with_reducible rfl)
           try simp only [Act.put, pu2, pu3, pu4]
           refine tk 2 (v := ?vv2_12) (dropAt rfl) (Or.inl ⟨by rfl, ?hv2_12⟩) hH0 ?rv2_12
           case hv2_12 => (intro w hSw; obtain ⟨⟨⟨s0_, s1_, s2_⟩, c9⟩, x0, x1, x2, x3, x4, x5, x6⟩ := HCW.out _ hSw.out; unfold C8 at c9; simp only [Nat.zero_add] at c9; obtain ⟨c0, c1, c2, c3, c4, c5, c6, c7⟩ := c9; go_simp; first | done | with_reducible rfl)
           try simp only [Act.put, pu2, pu3, pu4]
           refine tk 3 (v := ?vv3_13) (dropAt rfl) (Or.inl ⟨by rfl, ?hv3_13⟩) hH0 ?rv3_13
           case hv3_13 => (intro w hSw; obtain ⟨⟨⟨s0_, s1_, s2_⟩, c9⟩, x0, x1, x2, x3, x4, x5, x6⟩ := HCW.out _ hSw.out; unfold C8 at c9; simp only [Nat.zero_add] at c9; obtain ⟨c0, c1, c2, c3, c4, c5, c6, c7⟩ := c9; go_simp; first | done | with_reducible rfl)
           try simp only [Act.put, pu2, pu3, pu4]
           refine tk 4 (v := ?vv4_14) (dropAt rfl) (Or.inl ⟨by rfl, ?hv4_14⟩) hH0 ?rv4_14
           case hv4_14 => (intro w hSw; obtain ⟨⟨⟨s0_, s1_, s2_⟩, c9⟩, x0, x1, x2, x3, x4, x5, x6⟩ := HCW.out _ hSw.out; unfold C8 at c9; simp only [Nat.zero_add] at c9; obtain ⟨c0, c1, c2, c3, c4, c5, c6, c7⟩ := c9; go_simp; first | done | with_reducible rfl)
           try simp only [Act.put, pu2, pu3, pu4]
           refine tk 5 (v := ?vv5_15) (dropAt rfl) (Or.inl ⟨by rfl, ?hv5_15⟩) hH0 ?rv5_15
           case hv5_15 => (intro w hSw; obtain ⟨⟨⟨s0_, s1_, s2_⟩, c9⟩, x0, x1, x2, x3, x4, x5, x6⟩ := HCW.out _ hSw.out; unfold C8 at c9; simp only [Nat.zero_add] at c9; obtain ⟨c0, c1, c2, c3, c4, c5, c6, c7⟩ := c9; go_simp; first | done | with_reducible rfl)
           try simp only [Act.put, pu2, pu3, pu4]
           refine tk 6 (v := ?vv6_16) (dropAt rfl) (Or.inl ⟨by rfl, ?hv6_16⟩) hH0 ?rv6_16
           case hv6_16 => (intro w hSw; obtain ⟨⟨⟨s0_, s1_, s2_⟩, c9⟩, x0, x1, x2, x3, x4, x5, x6⟩ := HCW.out _ hSw.out; unfold C8 at c9; simp only [Nat.zero_add] at c9; obtain ⟨c0, c1, c2, c3, c4, c5, c6, c7⟩ := c9; go_simp; first | done | with_reducible rfl)
           try simp only [Act.put, pu2, pu3, pu4]
           refine wpAnyH_ready (rs := [7, 12]) (by kernel_rfl) (by simp) ?_
           refine AllReadyH.cons (o := _) (dropAt rfl) (fun K hK => ?_) (AllReadyH.cons (o := _) (dropAt rfl) (fun K hK => ?_) AllReadyH.nil)
           · go_simp
             refine (HST2.out _ hH0.out).mono ?_
             rintro e w6 ⟨⟨qa, qn, qc⟩, ⟨fa, fn, fc⟩, rfl, hp6, hb6⟩
             unfold valS
             dsimp only
             have HP6 := Lib.hid hp6
             have HB6 := Lib.hid hb6
             have hB6 : Hid (Below w4.heap.size w4 w6) := hH0.out.trans (hb6.mono hH0.out.size)
             refine hK.out _ _ hB6 (fun hH6 => ?_)
             clear hK K hp6 hb6
             try simp only [Act.put, pu2, pu3, pu4]
             refine tk 8 (v := ?vv8_17) (dropAt rfl) (Or.inl ⟨by rfl, ?hv8_17⟩) hH6 ?rv8_17
             case hv8_17 => (intro w hSw; go_simp; first | done | with_reducible rfl)
             try simp only [Act.put, pu2, pu3, pu4]
             refine tk 9 (v := ?vv9_18) (dropAt rfl) (Or.inl ⟨by rfl, ?hv9_18⟩) hH6 ?rv9_18
             case hv9_18 => (intro w hSw; go_simp; first | done | with_reducible rfl)
             try simp only [Act.put, pu2, pu3, pu4]
             refine tk 10 (v := ?vv10_19) (dropAt rfl) (Or.inl ⟨by rfl, ?hv10_19⟩) hH6 ?rv10_19
             case hv10_19 => (intro w hSw; go_simp; first | done | with_reducible rfl)
             try simp only [Act.put, pu2, pu3, pu4]
             refine tk 11 (v := ?vv11_20) (dropAt rfl) (Or.inl ⟨by rfl, ?hv11_20⟩) hH6 ?rv11_20
             case hv11_20 => (intro w hSw; go_simp; first | done | with_reducible rfl)
             try simp only [Act.put, pu2, pu3, pu4]
             refine wpAnyH_ready (rs := [12]) (by kernel_rfl) (by simp) ?_
             refine AllReadyH.cons (o := _) (dropAt rfl) (fun K hK => ?_) AllReadyH.nil
             go_simp
             have ha := (Below.refl w6.heap.size w6).alloc (Nat.le_refl _) (.cells #[I64 0, .bool false, .slice none 0 0] 26)
             have hb16 := blk_new w6 (.cells #[I64 0, .bool false, .slice none 0 0] 26)
             obtain ⟨wa, hwa⟩ : ∃ x, x = w6.alloc (.cells #[I64 0, .bool false, .slice none 0 0] 26) := ⟨_, rfl⟩
             rw [← hwa] at ha hb16
             have HA6 := Lib.hid ha
             have hB7 : Hid (Below w4.heap.size w4 wa) := hB6.out.trans (ha.mono hB6.out.size)
             show K _ (w6.alloc (.cells #[I64 0, .bool false, .slice none 0 0] 26))
             rw [← hwa]
             refine hK.out _ _ hB7 (fun hH7 => ?_)
             clear hK K ha hwa
             try simp only [Act.put, pu2, pu3, pu4]
             obtain ⟨wz, hwz⟩ : ∃ x, x = (((wa.setCell ⟨w6.heap.size, 0, none⟩ (I64 nx.now)).setCell ⟨w6.heap.size, 1, none⟩ (.bool nx.shut)).setCell ⟨w6.heap.size, 2, none⟩ (.slice qa qn qc)) := ⟨_, rfl⟩
             have HSP : Hid (SpOut w4 nx es (qa, qn, qc) (fa, fn, fc) (w6.heap.size) wz) := by
              rw [hwz]
              exact SpOut.make hH0.out HP6.out HB6.out HA6.out hb16 (Nat.le_trans hH0.out.size HB6.out.size) (.inr (Nat.le_refl _))
             have y0 := blk_cell hb16 0
             have y1 := blk_cell hb16 1
             have y2 := blk_cell hb16 2
             have fy0 := blk_free hb16 0
             have fy1 := blk_free hb16 1
             have fy2 := blk_free hb16 2
             simp only [List.getElem?_toArray, List.getElem?_cons_succ, List.getElem?_cons_zero] at y0 y1 y2
             clear hb16
             refine wpAnyH_ready (rs := [13]) (by kernel_rfl) (by simp) ?_
             refine AllReadyH.cons (o := _) (dropAt rfl) (fun K hK => ?_) AllReadyH.nil
             go_simp
             show K _ (((wa.setCell ⟨w6.heap.size, 0, none⟩ (I64 nx.now)).setCell ⟨w6.heap.size, 1, none⟩ (.bool nx.shut)).setCell ⟨w6.heap.size, 2, none⟩ (.slice qa qn qc))
             rw [← hwz]
             refine hK.out _ _ HSP.out.bel (fun hHz => ?_)
             clear hK K hwz y0 y1 y2 fy0 fy1 fy2
             try simp only [Act.put, pu2, pu3, pu4]
             refine tk 14 (v := ?vv14_21) (dropAt rfl) (Or.inl ⟨by rfl, ?hv14_21⟩) hHz ?rv14_21
             case hv14_21 => (intro w hSw; go_simp; first | done | with_reducible rfl)
             try simp only [Act.put, pu2, pu3, pu4]
             refine tk 15 (v := ?vv15_22) (dropAt rfl) (Or.inl ⟨by rfl, ?hv15_22⟩) hHz ?rv15_22
             case hv15_22 => (intro w hSw; go_simp; first | done | with_reducible rfl)
             try simp only [Act.put, pu2, pu3, pu4]
             refine wpAnyH_done (by kernel_rfl) ?_ _
             go_wp2_with fail
             go_meet
             exact ⟨w6.heap.size, (qa, qn, qc), (fa, fn, fc), rfl, rfl, rfl, HSP⟩
           · go_simp
             have ha := ((Below.refl w4.heap.size w4).alloc (Nat.le_refl _) (.cells #[I64 0, .bool false, .slice none 0 0] 26)).drew
             have hb15 : ((w4.alloc (.cells #[I64 0, .bool false, .slice none 0 0] 26)).drew).heap[w4.heap.size]? = some (.cells #[I64 0, .bool false, .slice none 0 0] 26) := blk_new w4 (.cells #[I64 0, .bool false, .slice none 0 0] 26)
             obtain ⟨wa, hwa⟩ : ∃ x, x = (w4.alloc (.cells #[I64 0, .bool false, .slice none 0 0] 26)).drew := ⟨_, rfl⟩
             rw [← hwa] at ha hb15
             have HA6 := Lib.hid ha
             show K _ ((w4.alloc (.cells #[I64 0, .bool false, .slice none 0 0] 26)).drew)
             rw [← hwa]
             refine hK.out _ _ HA6 (fun hH7 => ?_)
             clear hK K ha hwa
             try simp only [Act.put, pu2, pu3, pu4]
             refine wpAnyH_ready (rs := [7]) (by kernel_rfl) (by simp) ?_
             refine AllReadyH.cons (o := _) (dropAt rfl) (fun K hK => ?_) AllReadyH.nil
             go_simp
             refine (HST2.out _ HA6.out).mono ?_
             rintro e w6 ⟨⟨qa, qn, qc⟩, ⟨fa, fn, fc⟩, rfl, hp6, hb6⟩
             unfold valS
             dsimp only
             have HP6 := Lib.hid hp6
             have HB6 := Lib.hid hb6
             have hB6 : Hid (Below w4.heap.size w4 w6) := HA6.out.trans (hb6.mono HA6.out.size)
             have hb16 := (hb6.block _ (lt_of_block hb15)).trans hb15
             have HL16 := Lib.hid (lt_of_block hb15)
             refine hK.out _ _ hB6 (fun hH6 => ?_)
             clear hK K hp6 hb6 hb15
             try simp only [Act.put, pu2, pu3, pu4]
             refine tk 8 (v := ?vv8_23) (dropAt rfl) (Or.inl ⟨by rfl, ?hv8_23⟩) hH6 ?rv8_23
             case hv8_23 => (intro w hSw; go_simp; first | done | with_reducible rfl)
             try simp only [Act.put, pu2, pu3, pu4]
             refine tk 9 (v := ?vv9_24) (dropAt rfl) (Or.inl ⟨by rfl, ?hv9_24⟩) hH6 ?rv9_24
             case hv9_24 => (intro w hSw; go_simp; first | done | with_reducible rfl)
             try simp only [Act.put, pu2, pu3, pu4]
             refine tk 10 (v := ?vv10_25) (dropAt rfl) (Or.inl ⟨by rfl, ?hv10_25⟩) hH6 ?rv10_25
             case hv10_25 => (intro w hSw; go_simp; first | done | with_reducible rfl)
             try simp only [Act.put, pu2, pu3, pu4]
             refine tk 11 (v := ?vv11_26) (dropAt rfl) (Or.inl ⟨by rfl, ?hv11_26⟩) hH6 ?rv11_26
             case hv11_26 => (intro w hSw; go_simp; first | done | with_reducible rfl)
             try simp only [Act.put, pu2, pu3, pu4]
             obtain ⟨wz, hwz⟩ : ∃ x, x = (((w6.setCell ⟨w4.heap.size, 0, none⟩ (I64 nx.now)).setCell ⟨w4.heap.size, 1, none⟩ (.bool nx.shut)).setCell ⟨w4.heap.size, 2, none⟩ (.slice qa qn qc)) := ⟨_, rfl⟩
             have HSP : Hid (SpOut w4 nx es (qa, qn, qc) (fa, fn, fc) (w4.heap.size) wz) := by
              rw [hwz]
              exact SpOut.make HA6.out HP6.out HB6.out (.refl _ _) hb16 (Nat.le_refl _) (.inl HL16.out)
             have y0 := blk_cell hb16 0
             have y1 := blk_cell hb16 1
             have y2 := blk_cell hb16 2
             have fy0 := blk_free hb16 0
             have fy1 := blk_free hb16 1
             have fy2 := blk_free hb16 2
             simp only [List.getElem?_toArray, List.getElem?_cons_succ, List.getElem?_cons_zero] at y0 y1 y2
             clear hb16
             refine wpAnyH_ready (rs := [13]) (by kernel_rfl) (by simp) ?_
             refine AllReadyH.cons (o := _) (dropAt rfl) (fun K hK => ?_) AllReadyH.nil
             go_simp
             show K _ (((w6.setCell ⟨w4.heap.size, 0, none⟩ (I64 nx.now)).setCell ⟨w4.heap.size, 1, none⟩ (.bool nx.shut)).setCell ⟨w4.heap.size, 2, none⟩ (.slice qa qn qc))
             rw [← hwz]
             refine hK.out _ _ HSP.out.bel (fun hHz => ?_)
             clear hK K hwz y0 y1 y2 fy0 fy1 fy2
             try simp only [Act.put, pu2, pu3, pu4]
             refine tk 14 (v := ?vv14_27) (dropAt rfl) (Or.inl ⟨by rfl, ?hv14_27⟩) hHz ?rv14_27
             case hv14_27 => (intro w hSw; go_simp; first | done | with_reducible rfl)
             try simp only [Act.put, pu2, pu3, pu4]
             refine tk 15 (v := ?vv15_28) (dropAt rfl) (Or.inl ⟨by rfl, ?hv15_28⟩) hHz ?rv15_28
             case hv15_28 => (intro w hSw; go_simp; first | done | with_reducible rfl)
             try simp only [Act.put, pu2, pu3, pu4]
             refine wpAnyH_done (by kernel_rfl) ?_ _
             go_wp2_with fail
             go_meet
             exact ⟨w4.heap.size, (qa, qn, qc), (fa, fn, fc), rfl, rfl, rfl, HSP⟩
         case rest =>
          obtain ⟨T16, ⟨qa, qn, qc⟩, ⟨fa, fn, fc⟩, rfl, rfl, rfl, HSP⟩ := hcut
          obtain ⟨w8, hw8⟩ : ∃ x, x = wc := ⟨_, rfl⟩
          subst hw8
          unfold valS
          dsimp only
          have HB8 : Hid (Below wD.heap.size wD w8) := HK.out.trans (HSP.out.bel.mono HK.out.size)
          have HX8 : Hid (∀ w1, Below w8.heap.size w8 w1 → S3 T16 nx.now nx.shut (.slice qa qn qc) w1 ∧ w1.cell? ⟨g, o + k * 7, none⟩ = some (I64 r1) ∧ w1.cell? ⟨g, o + k * 7 + 1, none⟩ = some (I64 r2) ∧ w1.cell? ⟨g, o + k * 7 + 2, none⟩ = some (I64 r3) ∧ w1.cell? ⟨g, o + k * 7 + 3, none⟩ = some (.slice ea eN ec) ∧ w1.cell? ⟨g, o + k * 7 + 4, none⟩ = some (I64 nx.now) ∧ w1.cell? ⟨g, o + k * 7 + 5, none⟩ = some (.bool nx.shut) ∧ w1.cell? ⟨g, o + k * 7 + 6, none⟩ = some (.slice pa pN pc)) := fun w1 h1 => by
           have b0 := (h1.block _ (lt_of_block HSP.out.b)).trans HSP.out.b
           exact ⟨⟨blk_cell b0 0, blk_cell b0 1, blk_cell b0 2⟩, (HCW.out w1 (HSP.out.bel.trans (h1.mono HSP.out.bel.size))).2⟩
          have HCH : Hid (∀ w1, Below w8.heap.size w8 w1 → Calls Try.prog 11 #[.agg #[I64 nx.now, .bool nx.shut, .slice qa qn qc]] w1 fun e w' => e = .returned (I64 0) ∧ Below w1.heap.size w1 w') := fun w1 h1 => check_g nx (qa, qn, qc) w1 ⟨HG2.out, HB2.out, HSP.out.pools.below h1⟩
          have HSA : Hid (∀ w1, Below w8.heap.size w8 w1 → Calls Try.prog 22 #[.agg #[I64 nx.now, .bool nx.shut, .slice qa qn qc], .agg #[I64 nx.now, .bool nx.shut, .slice pa pN pc]] w1 fun e w' => e = .returned (.bool true) ∧ Below w1.heap.size w1 w') := fun w1 h1 => same_true nx (qa, qn, qc) (pa, pN, pc) w1 (HSP.out.pools.below h1) (HPO.out.below (HSP.out.bel.trans (h1.mono HSP.out.bel.size))) (good_small HG2.out) (by have := HG2.out.len2; omega)
          have HSE : Hid (∀ w1, Below w8.heap.size w8 w1 → Calls Try.prog 23 #[.slice fa fn fc, .slice ea eN ec] w1 fun e w' => e = .returned (.bool true) ∧ Below w1.heap.size w1 w') := fun w1 h1 => by
           have q := sameE_any (.slice fa fn fc) (.slice ea eN ec) es es w1 (HSP.out.effs.below h1) (HEF.out.below (HSP.out.bel.trans (h1.mono HSP.out.bel.size))) hel2 hel2
           rw [decide_eq_true rfl] at q
           exact q
          have HPV := hpv
          clear hpv
          by_cases hk0 : k = 0
          · have hd : decide ((0 : Int) < (k : Int)) = false := decide_eq_false (by omega)
            have hd2 : decide (0 < k) = false := decide_eq_false (by omega)
            have hd3 : ¬ 0 < k := by omega
            clear hk0 HPV
            go_upto_region 16 with fail
            refine wp_region_QW (C := fun w1 => Hid (Below w8.heap.size w8 w1)) (by kernel_rfl) (by kernel_rfl) ((Below.refl _ _).drew) ?_
            refine QW.step (fun K hK => ?_)
            refine qwant (by rfl) ?_
            refine ⟨?vq1, ?hq1, ?rq1⟩
            case hq1 => (intro w hSw; obtain ⟨⟨s0_, s1_, s2_⟩, x0, x1, x2, x3, x4, x5, x6⟩ := HX8.out _ hSw.out; go_simp; first | done | with_reducible rfl)
            refine hK _ ?_
            clear hK K
            try simp only [Act.put, pu2, pu3, pu4]
            refine QW.step (fun K hK => ?_)
            refine qwant (by rfl) ?_
            refine ⟨?vq2, ?hq2, ?rq2⟩
            case hq2 => (intro w hSw; obtain ⟨⟨s0_, s1_, s2_⟩, x0, x1, x2, x3, x4, x5, x6⟩ := HX8.out _ hSw.out; go_simp; first | done | with_reducible rfl)
            refine hK _ ?_
            clear hK K
            try simp only [Act.put, pu2, pu3, pu4]
            refine QW.step (fun K hK => ?_)
            refine qwant (by rfl) ?_
            refine ⟨?vq3, ?hq3, ?rq3⟩
            case hq3 => (intro w hSw; obtain ⟨⟨s0_, s1_, s2_⟩, x0, x1, x2, x3, x4, x5, x6⟩ := HX8.out _ hSw.out; go_simp; first | done | with_reducible rfl)
            refine hK _ ?_
            clear hK K
            try simp only [Act.put, pu2, pu3, pu4]
            refine QW.step (fun K hK => ?_)
            refine qwant (by rfl) ?_
            refine ⟨?vq4, ?hq4, ?rq4⟩
            case hq4 => (intro w hSw; obtain ⟨⟨s0_, s1_, s2_⟩, x0, x1, x2, x3, x4, x5, x6⟩ := HX8.out _ hSw.out; go_simp; first | done | with_reducible rfl)
            refine hK _ ?_
            clear hK K
            try simp only [Act.put, pu2, pu3, pu4]
            refine QW.step (fun K hK => ?_)
            refine qwant (by rfl) ?_
            refine ⟨I64 0, ?hq5, ?rq5⟩
            case hq5 => (intro w hSw; obtain ⟨⟨s0_, s1_, s2_⟩, x0, x1, x2, x3, x4, x5, x6⟩ := HX8.out _ hSw.out; go_simp; exact (HCH.out _ hSw.out).mono (fun e w1 q => ⟨q.1, hSw.out.trans (q.2.mono hSw.out.size)⟩))
            refine hK _ ?_
            clear hK K
            try simp only [Act.put, pu2, pu3, pu4]
            refine QW.step (fun K hK => ?_)
            refine qwant (by rfl) ?_
            refine ⟨?vq6, ?hq6, ?rq6⟩
            case hq6 => (intro w hSw; obtain ⟨⟨s0_, s1_, s2_⟩, x0, x1, x2, x3, x4, x5, x6⟩ := HX8.out _ hSw.out; go_simp; first | done | with_reducible rfl)
            refine hK _ ?_
            clear hK K
            try simp only [Act.put, pu2, pu3, pu4]
            refine QW.step (fun K hK => ?_)
            refine qwant (by rfl) ?_
            refine ⟨?vq7, ?hq7, ?rq7⟩
            case hq7 => (intro w hSw; obtain ⟨⟨s0_, s1_, s2_⟩, x0, x1, x2, x3, x4, x5, x6⟩ := HX8.out _ hSw.out; go_simp; first | done | with_reducible rfl)
            refine hK _ ?_
            clear hK K
            try simp only [Act.put, pu2, pu3, pu4]
            refine QW.step (fun K hK => ?_)
            refine qwant (by rfl) ?_
            refine ⟨?vq8, ?hq8, ?rq8⟩
            case hq8 => (intro w hSw; obtain ⟨⟨s0_, s1_, s2_⟩, x0, x1, x2, x3, x4, x5, x6⟩ := HX8.out _ hSw.out; go_simp; first | done | with_reducible rfl)
            refine hK _ ?_
            clear hK K
            try simp only [Act.put, pu2, pu3, pu4]
            refine QW.step (fun K hK => ?_)
            refine qwant (by rfl) ?_
            refine ⟨?vq9, ?hq9, ?rq9⟩
            case hq9 => (intro w hSw; obtain ⟨⟨s0_, s1_, s2_⟩, x0, x1, x2, x3, x4, x5, x6⟩ := HX8.out _ hSw.out; go_simp; first | done | with_reducible rfl)
            refine hK _ ?_
            clear hK K
            try simp only [Act.put, pu2, pu3, pu4]
            refine QW.step (fun K hK => ?_)
            refine qwant (by rfl) ?_
            refine ⟨?vq10, ?hq10, ?rq10⟩
            case hq10 => (intro w hSw; obtain ⟨⟨s0_, s1_, s2_⟩, x0, x1, x2, x3, x4, x5, x6⟩ := HX8.out _ hSw.out; go_simp; first | done | with_reducible rfl)
            refine hK _ ?_
            clear hK K
            try simp only [Act.put, pu2, pu3, pu4]
            refine QW.step (fun K hK => ?_)
            refine qwant (by rfl) ?_
            refine ⟨?vq11, ?hq11, ?rq11⟩
            case hq11 => (intro w hSw; obtain ⟨⟨s0_, s1_, s2_⟩, x0, x1, x2, x3, x4, x5, x6⟩ := HX8.out _ hSw.out; go_simp; first | done | with_reducible rfl)
            refine hK _ ?_
            clear hK K
            try simp only [Act.put, pu2, pu3, pu4]
            refine QW.step (fun K hK => ?_)
            refine qwant (by rfl) ?_
            refine ⟨?vq12, ?hq12, ?rq12⟩
            case hq12 => (intro w hSw; obtain ⟨⟨s0_, s1_, s2_⟩, x0, x1, x2, x3, x4, x5, x6⟩ := HX8.out _ hSw.out; go_simp; first | done | with_reducible rfl)
            refine hK _ ?_
            clear hK K
            try simp only [Act.put, pu2, pu3, pu4]
            refine QW.step (fun K hK => ?_)
            refine qwant (by rfl) ?_
            refine ⟨?vq13, ?hq13, ?rq13⟩
            case hq13 => (intro w hSw; obtain ⟨⟨s0_, s1_, s2_⟩, x0, x1, x2, x3, x4, x5, x6⟩ := HX8.out _ hSw.out; go_simp; first | done | with_reducible rfl)
            refine hK _ ?_
            clear hK K
            try simp only [Act.put, pu2, pu3, pu4]
            refine QW.step (fun K hK => ?_)
            refine qwant (by rfl) ?_
            refine ⟨?vq14, ?hq14, ?rq14⟩
            case hq14 => (intro w hSw; obtain ⟨⟨s0_, s1_, s2_⟩, x0, x1, x2, x3, x4, x5, x6⟩ := HX8.out _ hSw.out; go_simp; first | done | with_reducible rfl)
            refine hK _ ?_
            clear hK K
            try simp only [Act.put, pu2, pu3, pu4]
            refine QW.step (fun K hK => ?_)
            refine qwant (by rfl) ?_
            refine ⟨.bool true, ?hq15, ?rq15⟩
            case hq15 => (intro w hSw; obtain ⟨⟨s0_, s1_, s2_⟩, x0, x1, x2, x3, x4, x5, x6⟩ := HX8.out _ hSw.out; go_simp; exact (HSA.out _ hSw.out).mono (fun e w1 q => ⟨q.1, hSw.out.trans (q.2.mono hSw.out.size)⟩))
            refine hK _ ?_
            clear hK K
            try simp only [Act.put, pu2, pu3, pu4]
            refine QW.step (fun K hK => ?_)
            refine qwant (by rfl) ?_
            refine ⟨?vq16, ?hq16, ?rq16⟩
            case hq16 => (intro w hSw; obtain ⟨⟨s0_, s1_, s2_⟩, x0, x1, x2, x3, x4, x5, x6⟩ := HX8.out _ hSw.out; go_simp; first | done | with_reducible rfl)
            refine hK _ ?_
            clear hK K
            try simp only [Act.put, pu2, pu3, pu4]
            refine QW.step (fun K hK => ?_)
            refine qwant (by rfl) ?_
            refine ⟨?vq17, ?hq17, ?rq17⟩
            case hq17 => (intro w hSw; obtain ⟨⟨s0_, s1_, s2_⟩, x0, x1, x2, x3, x4, x5, x6⟩ := HX8.out _ hSw.out; go_simp; first | done | with_reducible rfl)
            refine hK _ ?_
            clear hK K
            try simp only [Act.put, pu2, pu3, pu4]
            refine QW.step (fun K hK => ?_)
            refine qwant (by rfl) ?_
            refine ⟨?vq18, ?hq18, ?rq18⟩
            case hq18 => (intro w hSw; obtain ⟨⟨s0_, s1_, s2_⟩, x0, x1, x2, x3, x4, x5, x6⟩ := HX8.out _ hSw.out; go_simp; first | done | with_reducible rfl)
            refine hK _ ?_
            clear hK K
            try simp only [Act.put, pu2, pu3, pu4]
            refine QW.step (fun K hK => ?_)
            refine qwant (by rfl) ?_
            refine ⟨?vq19, ?hq19, ?rq19⟩
            case hq19 => (intro w hSw; obtain ⟨⟨s0_, s1_, s2_⟩, x0, x1, x2, x3, x4, x5, x6⟩ := HX8.out _ hSw.out; go_simp; first | done | with_reducible rfl)
            refine hK _ ?_
            clear hK K
            try simp only [Act.put, pu2, pu3, pu4]
            refine QW.step (fun K hK => ?_)
            refine qwant (by rfl) ?_
            refine ⟨?vq20, ?hq20, ?rq20⟩
            case hq20 => (intro w hSw; obtain ⟨⟨s0_, s1_, s2_⟩, x0, x1, x2, x3, x4, x5, x6⟩ := HX8.out _ hSw.out; go_simp; first | done | with_reducible rfl)
            refine hK _ ?_
            clear hK K
            try simp only [Act.put, pu2, pu3, pu4]
            refine QW.step (fun K hK => ?_)
            refine qwant (by rfl) ?_
            refine ⟨?vq21, ?hq21, ?rq21⟩
            case hq21 => (intro w hSw; obtain ⟨⟨s0_, s1_, s2_⟩, x0, x1, x2, x3, x4, x5, x6⟩ := HX8.out _ hSw.out; go_simp; first | done | with_reducible rfl)
            refine hK _ ?_
            clear hK K
            try simp only [Act.put, pu2, pu3, pu4]
            refine QW.step (fun K hK => ?_)
            refine qwant (by rfl) ?_
            refine ⟨?vq22, ?hq22, ?rq22⟩
            case hq22 => (intro w hSw; obtain ⟨⟨s0_, s1_, s2_⟩, x0, x1, x2, x3, x4, x5, x6⟩ := HX8.out _ hSw.out; go_simp; first | done | with_reducible rfl)
            refine hK _ ?_
            clear hK K
            try simp only [Act.put, pu2, pu3, pu4]
            refine QW.step (fun K hK => ?_)
            refine qwant (by rfl) ?_
            refine ⟨?vq23, ?hq23, ?rq23⟩
            case hq23 => (intro w hSw; obtain ⟨⟨s0_, s1_, s2_⟩, x0, x1, x2, x3, x4, x5, x6⟩ := HX8.out _ hSw.out; go_simp; first | done | with_reducible rfl)
            refine hK _ ?_
            clear hK K
            try simp only [Act.put, pu2, pu3, pu4]
            refine QW.step (fun K hK => ?_)
            refine qwant (by rfl) ?_
            refine ⟨?vq24, ?hq24, ?rq24⟩
            case hq24 => (intro w hSw; obtain ⟨⟨s0_, s1_, s2_⟩, x0, x1, x2, x3, x4, x5, x6⟩ := HX8.out _ hSw.out; go_simp; first | done | with_reducible rfl)
            refine hK _ ?_
            clear hK K
            try simp only [Act.put, pu2, pu3, pu4]
            refine QW.step (fun K hK => ?_)
            refine qwant (by rfl) ?_
            refine ⟨.bool true, ?hq25, ?rq25⟩
            case hq25 => (intro w hSw; obtain ⟨⟨s0_, s1_, s2_⟩, x0, x1, x2, x3, x4, x5, x6⟩ := HX8.out _ hSw.out; go_simp; exact (HSE.out _ hSw.out).mono (fun e w1 q => ⟨q.1, hSw.out.trans (q.2.mono hSw.out.size)⟩))
            refine hK _ ?_
            clear hK K
            try simp only [Act.put, pu2, pu3, pu4]
            refine QW.step (fun K hK => ?_)
            refine qwant (by rfl) ?_
            refine ⟨?vq26, ?hq26, ?rq26⟩
            case hq26 => (intro w hSw; obtain ⟨⟨s0_, s1_, s2_⟩, x0, x1, x2, x3, x4, x5, x6⟩ := HX8.out _ hSw.out; go_simp; first | done | with_reducible rfl)
            refine hK _ ?_
            clear hK K
            try simp only [Act.put, pu2, pu3, pu4]
            refine QW.step (fun K hK => ?_)
            refine qwant (by rfl) ?_
            refine ⟨?vq27, ?hq27, ?rq27⟩
            case hq27 => (intro w hSw; obtain ⟨⟨s0_, s1_, s2_⟩, x0, x1, x2, x3, x4, x5, x6⟩ := HX8.out _ hSw.out; go_simp; first | done | with_reducible rfl)
            refine hK _ ?_
            clear hK K
            try simp only [Act.put, pu2, pu3, pu4]
            refine QW.step (fun K hK => ?_)
            refine qwant (by rfl) ?_
            refine ⟨?vq28, ?hq28, ?rq28⟩
            case hq28 => (intro w hSw; obtain ⟨⟨s0_, s1_, s2_⟩, x0, x1, x2, x3, x4, x5, x6⟩ := HX8.out _ hSw.out; go_simp; first | done | with_reducible rfl)
            refine hK _ ?_
            clear hK K
            try simp only [Act.put, pu2, pu3, pu4]
            refine QW.step (fun K hK => ?_)
            refine qwant (by rfl) ?_
            refine ⟨?vq29, ?hq29, ?rq29⟩
            case hq29 => (intro w hSw; obtain ⟨⟨s0_, s1_, s2_⟩, x0, x1, x2, x3, x4, x5, x6⟩ := HX8.out _ hSw.out; go_simp; first | done | with_reducible rfl)
            refine hK _ ?_
            clear hK K
            try simp only [Act.put, pu2, pu3, pu4]
            refine QW.step (fun K hK => ?_)
            refine qwant (by rfl) ?_
            refine ⟨?vq30, ?hq30, ?rq30⟩
            case hq30 => (intro w hSw; obtain ⟨⟨s0_, s1_, s2_⟩, x0, x1, x2, x3, x4, x5, x6⟩ := HX8.out _ hSw.out; go_simp; first | done | with_reducible rfl)
            refine hK _ ?_
            clear hK K
            try simp only [Act.put, pu2, pu3, pu4]
            refine QW.step (fun K hK => ?_)
            refine qwant (by rfl) ?_
            refine ⟨?vq31, ?hq31, ?rq31⟩
            case hq31 => (intro w hSw; obtain ⟨⟨s0_, s1_, s2_⟩, x0, x1, x2, x3, x4, x5, x6⟩ := HX8.out _ hSw.out; go_simp; first | done | with_reducible rfl)
            refine hK _ ?_
            clear hK K
            try simp only [Act.put, pu2, pu3, pu4]
            refine QW.skip (by rfl) ?_
            try simp only [Act.put, pu2, pu3, pu4]
            refine QW.skip (by rfl) ?_
            try simp only [Act.put, pu2, pu3, pu4]
            refine QW.skip (by rfl) ?_
            try simp only [Act.put, pu2, pu3, pu4]
            refine QW.skip (by rfl) ?_
            try simp only [Act.put, pu2, pu3, pu4]
            refine QW.skip (by rfl) ?_
            try simp only [Act.put, pu2, pu3, pu4]
            refine QW.skip (by rfl) ?_
            try simp only [Act.put, pu2, pu3, pu4]
            refine QW.skip (by rfl) ?_
            try simp only [Act.put, pu2, pu3, pu4]
            refine QW.skip (by rfl) ?_
            try simp only [Act.put, pu2, pu3, pu4]
            refine QW.skip (by rfl) ?_
            try simp only [Act.put, pu2, pu3, pu4]
            refine QW.skip (by rfl) ?_
            try simp only [Act.put, pu2, pu3, pu4]
            refine QW.skip (by rfl) ?_
            try simp only [Act.put, pu2, pu3, pu4]
            refine QW.skip (by rfl) ?_
            try simp only [Act.put, pu2, pu3, pu4]
            refine QW.skip (by rfl) ?_
            try simp only [Act.put, pu2, pu3, pu4]
            refine QW.skip (by rfl) ?_
            try simp only [Act.put, pu2, pu3, pu4]
            refine QW.step (fun K hK => ?_)
            refine qwant (by rfl) ?_
            refine ⟨?vq32, ?hq32, ?rq32⟩
            case hq32 => (intro w hSw; obtain ⟨⟨s0_, s1_, s2_⟩, x0, x1, x2, x3, x4, x5, x6⟩ := HX8.out _ hSw.out; go_simp; first | done | with_reducible rfl)
            refine hK _ ?_
            clear hK K
            try simp only [Act.put, pu2, pu3, pu4]
            refine QW.step (fun K hK => ?_)
            refine qwant (by rfl) ?_
            refine ⟨?vq33, ?hq33, ?rq33⟩
            case hq33 => (intro w hSw; obtain ⟨⟨s0_, s1_, s2_⟩, x0, x1, x2, x3, x4, x5, x6⟩ := HX8.out _ hSw.out; go_simp; first | done | with_reducible rfl)
            refine hK _ ?_
            clear hK K
            try simp only [Act.put, pu2, pu3, pu4]
            refine ⟨wpQuiet_nil ?_⟩
            intro w9 hC9
            go_wp2_with fail
            refine ⟨⟨k + 1, hlk, by rw [show (k : Int) + 1 = ((k + 1 : Nat) : Int) by omega], HB8.out.trans (hC9.out.mono HB8.out.size)⟩, ?_⟩
            simp [intOf]
            omega
          · obtain ⟨j, hj⟩ : ∃ j, j + 1 = k := ⟨k - 1, by omega⟩
            obtain ⟨z, hzc, hz⟩ := HPV.out j hj
            have HPC : Hid (∀ w1, Below w8.heap.size w8 w1 → w1.cell? ⟨g, o + j * 7 + 1, none⟩ = some (I64 z)) := fun w1 h1 => hzc w1 (HB8.out.trans (h1.mono HB8.out.size))
            have hd : decide ((0 : Int) < (k : Int)) = true := decide_eq_true (by omega)
            have hd2 : decide (0 < k) = true := decide_eq_true (by omega)
            have hd3 : 0 < k := by omega
            have hd4 : IntKind.i64.wrap ((k : Int) - 1) = (j : Int) := by rw [IntKind.wrap_i64]; omega
            have hle : decide (r2 ≤ z) = false := decide_eq_false (by omega)
            have hle2 : ¬ r2 ≤ z := by omega
            have hjn : (j : Int) < (n : Int) := by omega
            have hjn2 : j < n := by omega
            clear hk0 HPV hzc hz hj
            go_upto_region 16 with fail
            refine wp_region_QW (C := fun w1 => Hid (Below w8.heap.size w8 w1)) (by kernel_rfl) (by kernel_rfl) ((Below.refl _ _).drew) ?_
            refine QW.step (fun K hK => ?_)
            refine qwant (by rfl) ?_
            refine ⟨?vq34, ?hq34, ?rq34⟩
            case hq34 => (intro w hSw; obtain ⟨⟨s0_, s1_, s2_⟩, x0, x1, x2, x3, x4, x5, x6⟩ := HX8.out _ hSw.out; have y1 := HPC.out _ hSw.out; go_simp; first | done | with_reducible rfl)
            refine hK _ ?_
            clear hK K
            try simp only [Act.put, pu2, pu3, pu4]
            refine QW.step (fun K hK => ?_)
            refine qwant (by rfl) ?_
            refine ⟨?vq35, ?hq35, ?rq35⟩
            case hq35 => (intro w hSw; obtain ⟨⟨s0_, s1_, s2_⟩, x0, x1, x2, x3, x4, x5, x6⟩ := HX8.out _ hSw.out; have y1 := HPC.out _ hSw.out; go_simp; first | done | with_reducible rfl)
            refine hK _ ?_
            clear hK K
            try simp only [Act.put, pu2, pu3, pu4]
            refine QW.step (fun K hK => ?_)
            refine qwant (by rfl) ?_
            refine ⟨?vq36, ?hq36, ?rq36⟩
            case hq36 => (intro w hSw; obtain ⟨⟨s0_, s1_, s2_⟩, x0, x1, x2, x3, x4, x5, x6⟩ := HX8.out _ hSw.out; have y1 := HPC.out _ hSw.out; go_simp; first | done | with_reducible rfl)
            refine hK _ ?_
            clear hK K
            try simp only [Act.put, pu2, pu3, pu4]
            refine QW.step (fun K hK => ?_)
            refine qwant (by rfl) ?_
            refine ⟨?vq37, ?hq37, ?rq37⟩
            case hq37 => (intro w hSw; obtain ⟨⟨s0_, s1_, s2_⟩, x0, x1, x2, x3, x4, x5, x6⟩ := HX8.out _ hSw.out; have y1 := HPC.out _ hSw.out; go_simp; first | done | with_reducible rfl)
            refine hK _ ?_
            clear hK K
            try simp only [Act.put, pu2, pu3, pu4]
            refine QW.step (fun K hK => ?_)
            refine qwant (by rfl) ?_
            refine ⟨I64 0, ?hq38, ?rq38⟩
            case hq38 => (intro w hSw; obtain ⟨⟨s0_, s1_, s2_⟩, x0, x1, x2, x3, x4, x5, x6⟩ := HX8.out _ hSw.out; go_simp; exact (HCH.out _ hSw.out).mono (fun e w1 q => ⟨q.1, hSw.out.trans (q.2.mono hSw.out.size)⟩))
            refine hK _ ?_
            clear hK K
            try simp only [Act.put, pu2, pu3, pu4]
            refine QW.step (fun K hK => ?_)
            refine qwant (by rfl) ?_
            refine ⟨?vq39, ?hq39, ?rq39⟩
            case hq39 => (intro w hSw; obtain ⟨⟨s0_, s1_, s2_⟩, x0, x1, x2, x3, x4, x5, x6⟩ := HX8.out _ hSw.out; have y1 := HPC.out _ hSw.out; go_simp; first | done | with_reducible rfl)
            refine hK _ ?_
            clear hK K
            try simp only [Act.put, pu2, pu3, pu4]
            refine QW.step (fun K hK => ?_)
            refine qwant (by rfl) ?_
            refine ⟨?vq40, ?hq40, ?rq40⟩
            case hq40 => (intro w hSw; obtain ⟨⟨s0_, s1_, s2_⟩, x0, x1, x2, x3, x4, x5, x6⟩ := HX8.out _ hSw.out; have y1 := HPC.out _ hSw.out; go_simp; first | done | with_reducible rfl)
            refine hK _ ?_
            clear hK K
            try simp only [Act.put, pu2, pu3, pu4]
            refine QW.step (fun K hK => ?_)
            refine qwant (by rfl) ?_
            refine ⟨?vq41, ?hq41, ?rq41⟩
            case hq41 => (intro w hSw; obtain ⟨⟨s0_, s1_, s2_⟩, x0, x1, x2, x3, x4, x5, x6⟩ := HX8.out _ hSw.out; have y1 := HPC.out _ hSw.out; go_simp; first | done | with_reducible rfl)
            refine hK _ ?_
            clear hK K
            try simp only [Act.put, pu2, pu3, pu4]
            refine QW.step (fun K hK => ?_)
            refine qwant (by rfl) ?_
            refine ⟨?vq42, ?hq42, ?rq42⟩
            case hq42 => (intro w hSw; obtain ⟨⟨s0_, s1_, s2_⟩, x0, x1, x2, x3, x4, x5, x6⟩ := HX8.out _ hSw.out; have y1 := HPC.out _ hSw.out; go_simp; first | done | with_reducible rfl)
            refine hK _ ?_
            clear hK K
            try simp only [Act.put, pu2, pu3, pu4]
            refine QW.step (fun K hK => ?_)
            refine qwant (by rfl) ?_
            refine ⟨?vq43, ?hq43, ?rq43⟩
            case hq43 => (intro w hSw; obtain ⟨⟨s0_, s1_, s2_⟩, x0, x1, x2, x3, x4, x5, x6⟩ := HX8.out _ hSw.out; have y1 := HPC.out _ hSw.out; go_simp; first | done | with_reducible rfl)
            refine hK _ ?_
            clear hK K
            try simp only [Act.put, pu2, pu3, pu4]
            refine QW.step (fun K hK => ?_)
            refine qwant (by rfl) ?_
            refine ⟨?vq44, ?hq44, ?rq44⟩
            case hq44 => (intro w hSw; obtain ⟨⟨s0_, s1_, s2_⟩, x0, x1, x2, x3, x4, x5, x6⟩ := HX8.out _ hSw.out; have y1 := HPC.out _ hSw.out; go_simp; first | done | with_reducible rfl)
            refine hK _ ?_
            clear hK K
            try simp only [Act.put, pu2, pu3, pu4]
            refine QW.step (fun K hK => ?_)
            refine qwant (by rfl) ?_
            refine ⟨?vq45, ?hq45, ?rq45⟩
            case hq45 => (intro w hSw; obtain ⟨⟨s0_, s1_, s2_⟩, x0, x1, x2, x3, x4, x5, x6⟩ := HX8.out _ hSw.out; have y1 := HPC.out _ hSw.out; go_simp; first | done | with_reducible rfl)
            refine hK _ ?_
            clear hK K
            try simp only [Act.put, pu2, pu3, pu4]
            refine QW.step (fun K hK => ?_)
            refine qwant (by rfl) ?_
            refine ⟨?vq46, ?hq46, ?rq46⟩
            case hq46 => (intro w hSw; obtain ⟨⟨s0_, s1_, s2_⟩, x0, x1, x2, x3, x4, x5, x6⟩ := HX8.out _ hSw.out; have y1 := HPC.out _ hSw.out; go_simp; first | done | with_reducible rfl)
            refine hK _ ?_
            clear hK K
            try simp only [Act.put, pu2, pu3, pu4]
            refine QW.step (fun K hK => ?_)
            refine qwant (by rfl) ?_
            refine ⟨?vq47, ?hq47, ?rq47⟩
            case hq47 => (intro w hSw; obtain ⟨⟨s0_, s1_, s2_⟩, x0, x1, x2, x3, x4, x5, x6⟩ := HX8.out _ hSw.out; have y1 := HPC.out _ hSw.out; go_simp; first | done | with_reducible rfl)
            refine hK _ ?_
            clear hK K
            try simp only [Act.put, pu2, pu3, pu4]
            refine QW.step (fun K hK => ?_)
            refine qwant (by rfl) ?_
            refine ⟨.bool true, ?hq48, ?rq48⟩
            case hq48 => (intro w hSw; obtain ⟨⟨s0_, s1_, s2_⟩, x0, x1, x2, x3, x4, x5, x6⟩ := HX8.out _ hSw.out; go_simp; exact (HSA.out _ hSw.out).mono (fun e w1 q => ⟨q.1, hSw.out.trans (q.2.mono hSw.out.size)⟩))
            refine hK _ ?_
            clear hK K
            try simp only [Act.put, pu2, pu3, pu4]
            refine QW.step (fun K hK => ?_)
            refine qwant (by rfl) ?_
            refine ⟨?vq49, ?hq49, ?rq49⟩
            case hq49 => (intro w hSw; obtain ⟨⟨s0_, s1_, s2_⟩, x0, x1, x2, x3, x4, x5, x6⟩ := HX8.out _ hSw.out; have y1 := HPC.out _ hSw.out; go_simp; first | done | with_reducible rfl)
            refine hK _ ?_
            clear hK K
            try simp only [Act.put, pu2, pu3, pu4]
            refine QW.step (fun K hK => ?_)
            refine qwant (by rfl) ?_
            refine ⟨?vq50, ?hq50, ?rq50⟩
            case hq50 => (intro w hSw; obtain ⟨⟨s0_, s1_, s2_⟩, x0, x1, x2, x3, x4, x5, x6⟩ := HX8.out _ hSw.out; have y1 := HPC.out _ hSw.out; go_simp; first | done | with_reducible rfl)
            refine hK _ ?_
            clear hK K
            try simp only [Act.put, pu2, pu3, pu4]
            refine QW.step (fun K hK => ?_)
            refine qwant (by rfl) ?_
            refine ⟨?vq51, ?hq51, ?rq51⟩
            case hq51 => (intro w hSw; obtain ⟨⟨s0_, s1_, s2_⟩, x0, x1, x2, x3, x4, x5, x6⟩ := HX8.out _ hSw.out; have y1 := HPC.out _ hSw.out; go_simp; first | done | with_reducible rfl)
            refine hK _ ?_
            clear hK K
            try simp only [Act.put, pu2, pu3, pu4]
            refine QW.step (fun K hK => ?_)
            refine qwant (by rfl) ?_
            refine ⟨?vq52, ?hq52, ?rq52⟩
            case hq52 => (intro w hSw; obtain ⟨⟨s0_, s1_, s2_⟩, x0, x1, x2, x3, x4, x5, x6⟩ := HX8.out _ hSw.out; have y1 := HPC.out _ hSw.out; go_simp; first | done | with_reducible rfl)
            refine hK _ ?_
            clear hK K
            try simp only [Act.put, pu2, pu3, pu4]
            refine QW.step (fun K hK => ?_)
            refine qwant (by rfl) ?_
            refine ⟨?vq53, ?hq53, ?rq53⟩
            case hq53 => (intro w hSw; obtain ⟨⟨s0_, s1_, s2_⟩, x0, x1, x2, x3, x4, x5, x6⟩ := HX8.out _ hSw.out; have y1 := HPC.out _ hSw.out; go_simp; first | done | with_reducible rfl)
            refine hK _ ?_
            clear hK K
            try simp only [Act.put, pu2, pu3, pu4]
            refine QW.step (fun K hK => ?_)
            refine qwant (by rfl) ?_
            refine ⟨?vq54, ?hq54, ?rq54⟩
            case hq54 => (intro w hSw; obtain ⟨⟨s0_, s1_, s2_⟩, x0, x1, x2, x3, x4, x5, x6⟩ := HX8.out _ hSw.out; have y1 := HPC.out _ hSw.out; go_simp; first | done | with_reducible rfl)
            refine hK _ ?_
            clear hK K
            try simp only [Act.put, pu2, pu3, pu4]
            refine QW.step (fun K hK => ?_)
            refine qwant (by rfl) ?_
            refine ⟨?vq55, ?hq55, ?rq55⟩
            case hq55 => (intro w hSw; obtain ⟨⟨s0_, s1_, s2_⟩, x0, x1, x2, x3, x4, x5, x6⟩ := HX8.out _ hSw.out; have y1 := HPC.out _ hSw.out; go_simp; first | done | with_reducible rfl)
            refine hK _ ?_
            clear hK K
            try simp only [Act.put, pu2, pu3, pu4]
            refine QW.step (fun K hK => ?_)
            refine qwant (by rfl) ?_
            refine ⟨?vq56, ?hq56, ?rq56⟩
            case hq56 => (intro w hSw; obtain ⟨⟨s0_, s1_, s2_⟩, x0, x1, x2, x3, x4, x5, x6⟩ := HX8.out _ hSw.out; have y1 := HPC.out _ hSw.out; go_simp; first | done | with_reducible rfl)
            refine hK _ ?_
            clear hK K
            try simp only [Act.put, pu2, pu3, pu4]
            refine QW.step (fun K hK => ?_)
            refine qwant (by rfl) ?_
            refine ⟨?vq57, ?hq57, ?rq57⟩
            case hq57 => (intro w hSw; obtain ⟨⟨s0_, s1_, s2_⟩, x0, x1, x2, x3, x4, x5, x6⟩ := HX8.out _ hSw.out; have y1 := HPC.out _ hSw.out; go_simp; first | done | with_reducible rfl)
            refine hK _ ?_
            clear hK K
            try simp only [Act.put, pu2, pu3, pu4]
            refine QW.step (fun K hK => ?_)
            refine qwant (by rfl) ?_
            refine ⟨.bool true, ?hq58, ?rq58⟩
            case hq58 => (intro w hSw; obtain ⟨⟨s0_, s1_, s2_⟩, x0, x1, x2, x3, x4, x5, x6⟩ := HX8.out _ hSw.out; go_simp; exact (HSE.out _ hSw.out).mono (fun e w1 q => ⟨q.1, hSw.out.trans (q.2.mono hSw.out.size)⟩))
            refine hK _ ?_
            clear hK K
            try simp only [Act.put, pu2, pu3, pu4]
            refine QW.step (fun K hK => ?_)
            refine qwant (by rfl) ?_
            refine ⟨?vq59, ?hq59, ?rq59⟩
            case hq59 => (intro w hSw; obtain ⟨⟨s0_, s1_, s2_⟩, x0, x1, x2, x3, x4, x5, x6⟩ := HX8.out _ hSw.out; have y1 := HPC.out _ hSw.out; go_simp; first | done | with_reducible rfl)
            refine hK _ ?_
            clear hK K
            try simp only [Act.put, pu2, pu3, pu4]
            refine QW.step (fun K hK => ?_)
            refine qwant (by rfl) ?_
            refine ⟨?vq60, ?hq60, ?rq60⟩
            case hq60 => (intro w hSw; obtain ⟨⟨s0_, s1_, s2_⟩, x0, x1, x2, x3, x4, x5, x6⟩ := HX8.out _ hSw.out; have y1 := HPC.out _ hSw.out; go_simp; first | done | with_reducible rfl)
            refine hK _ ?_
            clear hK K
            try simp only [Act.put, pu2, pu3, pu4]
            refine QW.step (fun K hK => ?_)
            refine qwant (by rfl) ?_
            refine ⟨?vq61, ?hq61, ?rq61⟩
            case hq61 => (intro w hSw; obtain ⟨⟨s0_, s1_, s2_⟩, x0, x1, x2, x3, x4, x5, x6⟩ := HX8.out _ hSw.out; have y1 := HPC.out _ hSw.out; go_simp; first | done | with_reducible rfl)
            refine hK _ ?_
            clear hK K
            try simp only [Act.put, pu2, pu3, pu4]
            refine QW.step (fun K hK => ?_)
            refine qwant (by rfl) ?_
            refine ⟨?vq62, ?hq62, ?rq62⟩
            case hq62 => (intro w hSw; obtain ⟨⟨s0_, s1_, s2_⟩, x0, x1, x2, x3, x4, x5, x6⟩ := HX8.out _ hSw.out; have y1 := HPC.out _ hSw.out; go_simp; first | done | with_reducible rfl)
            refine hK _ ?_
            clear hK K
            try simp only [Act.put, pu2, pu3, pu4]
            refine QW.step (fun K hK => ?_)
            refine qwant (by rfl) ?_
            refine ⟨?vq63, ?hq63, ?rq63⟩
            case hq63 => (intro w hSw; obtain ⟨⟨s0_, s1_, s2_⟩, x0, x1, x2, x3, x4, x5, x6⟩ := HX8.out _ hSw.out; have y1 := HPC.out _ hSw.out; go_simp; first | done | with_reducible rfl)
            refine hK _ ?_
            clear hK K
            try simp only [Act.put, pu2, pu3, pu4]
            refine QW.step (fun K hK => ?_)
            refine qwant (by rfl) ?_
            refine ⟨?vq64, ?hq64, ?rq64⟩
            case hq64 => (intro w hSw; obtain ⟨⟨s0_, s1_, s2_⟩, x0, x1, x2, x3, x4, x5, x6⟩ := HX8.out _ hSw.out; have y1 := HPC.out _ hSw.out; go_simp; first | done | with_reducible rfl)
            refine hK _ ?_
            clear hK K
            try simp only [Act.put, pu2, pu3, pu4]
            refine QW.step (fun K hK => ?_)
            refine qwant (by rfl) ?_
            refine ⟨?vq65, ?hq65, ?rq65⟩
            case hq65 => (intro w hSw; obtain ⟨⟨s0_, s1_, s2_⟩, x0, x1, x2, x3, x4, x5, x6⟩ := HX8.out _ hSw.out; have y1 := HPC.out _ hSw.out; go_simp; first | done | with_reducible rfl)
            refine hK _ ?_
            clear hK K
            try simp only [Act.put, pu2, pu3, pu4]
            refine QW.step (fun K hK => ?_)
            refine qwant (by rfl) ?_
            refine ⟨?vq66, ?hq66, ?rq66⟩
            case hq66 => (intro w hSw; obtain ⟨⟨s0_, s1_, s2_⟩, x0, x1, x2, x3, x4, x5, x6⟩ := HX8.out _ hSw.out; have y1 := HPC.out _ hSw.out; go_simp; first | done | with_reducible rfl)
            refine hK _ ?_
            clear hK K
            try simp only [Act.put, pu2, pu3, pu4]
            refine QW.step (fun K hK => ?_)
            refine qwant (by rfl) ?_
            refine ⟨?vq67, ?hq67, ?rq67⟩
            case hq67 => (intro w hSw; obtain ⟨⟨s0_, s1_, s2_⟩, x0, x1, x2, x3, x4, x5, x6⟩ := HX8.out _ hSw.out; have y1 := HPC.out _ hSw.out; go_simp; first | done | with_reducible rfl)
            refine hK _ ?_
            clear hK K
            try simp only [Act.put, pu2, pu3, pu4]
            refine QW.step (fun K hK => ?_)
            refine qwant (by rfl) ?_
            refine ⟨?vq68, ?hq68, ?rq68⟩
            case hq68 => (intro w hSw; obtain ⟨⟨s0_, s1_, s2_⟩, x0, x1, x2, x3, x4, x5, x6⟩ := HX8.out _ hSw.out; have y1 := HPC.out _ hSw.out; go_simp; first | done | with_reducible rfl)
            refine hK _ ?_
            clear hK K
            try simp only [Act.put, pu2, pu3, pu4]
            refine QW.step (fun K hK => ?_)
            refine qwant (by rfl) ?_
            refine ⟨?vq69, ?hq69, ?rq69⟩
            case hq69 => (intro w hSw; obtain ⟨⟨s0_, s1_, s2_⟩, x0, x1, x2, x3, x4, x5, x6⟩ := HX8.out _ hSw.out; have y1 := HPC.out _ hSw.out; go_simp; first | done | with_reducible rfl)
            refine hK _ ?_
            clear hK K
            try simp only [Act.put, pu2, pu3, pu4]
            refine QW.step (fun K hK => ?_)
            refine qwant (by rfl) ?_
            refine ⟨?vq70, ?hq70, ?rq70⟩
            case hq70 => (intro w hSw; obtain ⟨⟨s0_, s1_, s2_⟩, x0, x1, x2, x3, x4, x5, x6⟩ := HX8.out _ hSw.out; have y1 := HPC.out _ hSw.out; go_simp; first | done | with_reducible rfl)
            refine hK _ ?_
            clear hK K
            try simp only [Act.put, pu2, pu3, pu4]
            refine QW.step (fun K hK => ?_)
            refine qwant (by rfl) ?_
            refine ⟨?vq71, ?hq71, ?rq71⟩
            case hq71 => (intro w hSw; obtain ⟨⟨s0_, s1_, s2_⟩, x0, x1, x2, x3, x4, x5, x6⟩ := HX8.out _ hSw.out; have y1 := HPC.out _ hSw.out; go_simp; first | done | with_reducible rfl)
            refine hK _ ?_
            clear hK K
            try simp only [Act.put, pu2, pu3, pu4]
            refine QW.step (fun K hK => ?_)
            refine qwant (by rfl) ?_
            refine ⟨?vq72, ?hq72, ?rq72⟩
            case hq72 => (intro w hSw; obtain ⟨⟨s0_, s1_, s2_⟩, x0, x1, x2, x3, x4, x5, x6⟩ := HX8.out _ hSw.out; have y1 := HPC.out _ hSw.out; go_simp; first | done | with_reducible rfl)
            refine hK _ ?_
            clear hK K
            try simp only [Act.put, pu2, pu3, pu4]
            refine QW.step (fun K hK => ?_)
            refine qwant (by rfl) ?_
            refine ⟨?vq73, ?hq73, ?rq73⟩
            case hq73 => (intro w hSw; obtain ⟨⟨s0_, s1_, s2_⟩, x0, x1, x2, x3, x4, x5, x6⟩ := HX8.out _ hSw.out; have y1 := HPC.out _ hSw.out; go_simp; first | done | with_reducible rfl)
            refine hK _ ?_
            clear hK K
            try simp only [Act.put, pu2, pu3, pu4]
            refine QW.step (fun K hK => ?_)
            refine qwant (by rfl) ?_
            refine ⟨?vq74, ?hq74, ?rq74⟩
            case hq74 => (intro w hSw; obtain ⟨⟨s0_, s1_, s2_⟩, x0, x1, x2, x3, x4, x5, x6⟩ := HX8.out _ hSw.out; have y1 := HPC.out _ hSw.out; go_simp; first | done | with_reducible rfl)
            refine hK _ ?_
            clear hK K
            try simp only [Act.put, pu2, pu3, pu4]
            refine QW.step (fun K hK => ?_)
            refine qwant (by rfl) ?_
            refine ⟨?vq75, ?hq75, ?rq75⟩
            case hq75 => (intro w hSw; obtain ⟨⟨s0_, s1_, s2_⟩, x0, x1, x2, x3, x4, x5, x6⟩ := HX8.out _ hSw.out; have y1 := HPC.out _ hSw.out; go_simp; first | done | with_reducible rfl)
            refine hK _ ?_
            clear hK K
            try simp only [Act.put, pu2, pu3, pu4]
            refine QW.step (fun K hK => ?_)
            refine qwant (by rfl) ?_
            refine ⟨?vq76, ?hq76, ?rq76⟩
            case hq76 => (intro w hSw; obtain ⟨⟨s0_, s1_, s2_⟩, x0, x1, x2, x3, x4, x5, x6⟩ := HX8.out _ hSw.out; have y1 := HPC.out _ hSw.out; go_simp; first | done | with_reducible rfl)
            refine hK _ ?_
            clear hK K
            try simp only [Act.put, pu2, pu3, pu4]
            refine QW.step (fun K hK => ?_)
            refine qwant (by rfl) ?_
            refine ⟨?vq77, ?hq77, ?rq77⟩
            case hq77 => (intro w hSw; obtain ⟨⟨s0_, s1_, s2_⟩, x0, x1, x2, x3, x4, x5, x6⟩ := HX8.out _ hSw.out; have y1 := HPC.out _ hSw.out; go_simp; first | done | with_reducible rfl)
            refine hK _ ?_
            clear hK K
            try simp only [Act.put, pu2, pu3, pu4]
            refine QW.step (fun K hK => ?_)
            refine qwant (by rfl) ?_
            refine ⟨?vq78, ?hq78, ?rq78⟩
            case hq78 => (intro w hSw; obtain ⟨⟨s0_, s1_, s2_⟩, x0, x1, x2, x3, x4, x5, x6⟩ := HX8.out _ hSw.out; have y1 := HPC.out _ hSw.out; go_simp; first | done | with_reducible rfl)
            refine hK _ ?_
            clear hK K
            try simp only [Act.put, pu2, pu3, pu4]
            refine QW.step (fun K hK => ?_)
            refine qwant (by rfl) ?_
            refine ⟨?vq79, ?hq79, ?rq79⟩
            case hq79 => (intro w hSw; obtain ⟨⟨s0_, s1_, s2_⟩, x0, x1, x2, x3, x4, x5, x6⟩ := HX8.out _ hSw.out; have y1 := HPC.out _ hSw.out; go_simp; first | done | with_reducible rfl)
            refine hK _ ?_
            clear hK K
            try simp only [Act.put, pu2, pu3, pu4]
            refine QW.step (fun K hK => ?_)
            refine qwant (by rfl) ?_
            refine ⟨?vq80, ?hq80, ?rq80⟩
            case hq80 => (intro w hSw; obtain ⟨⟨s0_, s1_, s2_⟩, x0, x1, x2, x3, x4, x5, x6⟩ := HX8.out _ hSw.out; have y1 := HPC.out _ hSw.out; go_simp; first | done | with_reducible rfl)
            refine hK _ ?_
            clear hK K
            try simp only [Act.put, pu2, pu3, pu4]
            refine ⟨wpQuiet_nil ?_⟩
            intro w9 hC9
            go_wp2_with fail
            refine ⟨⟨k + 1, hlk, by rw [show (k : Int) + 1 = ((k + 1 : Nat) : Int) by omega], HB8.out.trans (hC9.out.mono HB8.out.size)⟩, ?_⟩
            simp [intOf]
            omega
       · have hkn : ¬ (k : Int) < (n : Int) := by omega
         have hn1 : (0 : Int) < (n : Int) := by omega
         have hn1d : decide ((0 : Int) < (n : Int)) = true := decide_eq_true hn1
         have hn2d : decide (0 < n) = true := decide_eq_true hn0
         have HBK := Lib.hid (HBW.out.trans ((HBD.out.trans (HK.out.mono HBD.out.size)).mono HBW.out.size))
         go_wp2_with fail
         refine (awake_any _).mono ?_
         rintro e w7 ⟨rfl, hb7⟩
         have HF := Lib.hid (HBK.out.trans (hb7.mono HBK.out.size))
         clear hb7
         go_wp2
         go_ret
         exact ⟨rfl, HF.out⟩
    · have hob := Md.outcomes_bad hE
      rw [hob] at HOR
      have hv0 : ∃ a cap, v = .slice a 0 cap := by
       obtain ⟨xs, hl, hx⟩ := HOR.out
       have q := (hx wD (.refl _ _)).1
       have hxs : xs = [] := List.eq_nil_of_length_eq_zero hl
       rw [hxs] at q
       obtain ⟨a, cap, e⟩ := q.len
       exact ⟨a, cap, e⟩
      obtain ⟨a0, cap0, rfl⟩ := hv0
      have hst := Md.step_bad (r := (7, 0, 0)) hE
      have HST := Lib.hid (step_g c s (7, 0, 0) (xa, xn, xc) wD (HA.out.sta HBD.out))
      unfold StepEnd at HST
      rw [hst] at HST
      obtain ⟨E, hEE⟩ : ∃ x, x = (Md.outcomes s c).2 := ⟨_, rfl⟩
      rw [← hEE] at HST hE
      rw [← hEE]
      have hne : (E != 0) = true := by rw [bne_iff_ne]; exact hE
      have hee : (E == E) = true := by simp
      clear hEE hob hst hE
      obtain ⟨⟨n0, n1, n2⟩, c9⟩ := HSC.out wD HBD.out
      unfold C8 at c9
      simp only [Nat.zero_add] at c9
      obtain ⟨k0, k1, k2, k3, k4, k5, k6, k7⟩ := c9
      unfold valS valCall agg3 at HST
      dsimp only at HST
      go_wp2_with fail
      refine HST.out.mono ?_
      rintro e w6 ⟨⟨qa, qn, qc⟩, ⟨fa, fn, fc⟩, rfl, -, hb6⟩
      dsimp only
      have hH := HBW.out.trans ((HBD.out.trans (hb6.mono HBD.out.size)).mono HBW.out.size)
      have ha := (Below.refl w6.heap.size w6).alloc (Nat.le_refl _) (.cells #[I64 Md.none0.now, .bool Md.none0.shut, .slice qa qn qc] 26)
      have HA6 := Lib.hid (hH.trans (ha.mono hH.size))
      clear hH ha hb6
      unfold Md.none0 at *
      dsimp only at *
      clear n0 n1 n2 k0 k1 k2 k3 k4 k5 k6 k7
      go_wp2_with fail
      refine (awake_any _).mono ?_
      rintro e w7 ⟨rfl, hb7⟩
      have HF := Lib.hid (HA6.out.trans (hb7.mono HA6.out.size))
      clear hb7
      go_wp2
      go_ret
      exact ⟨rfl, HF.out⟩
theorem splits_all (lims : List Md.Lim) (u : SlV) (acts : List (Md.Call × Int)) (v : SlV) (c : Md.Call) (w : World) (h : ReadsL 4 encLim w (valS u) lims) (h2 : ReadsL 9 encAct w (valS v) acts) (hin : ∀ x ∈ acts, ActIn x) (hc : c.call ≤ 9223372036854775807 ∧ c.conn ≤ 9223372036854775807) :
 Calls Try.prog 7 #[valS u, valS v, valCall c] w fun e w' => e = .returned (.bool true) ∧ Below w.heap.size w w' := by
 by_cases hE : (Md.new lims).2 = 0
 · by_cases hbig : acts.length ≤ 60
   · exact splits_loop lims u acts v c w h h2 hE hbig hin hc
   · exact splits_far lims u acts v c w h h2 hE (by omega)
 · exact splits_no lims u acts v c w h h2 hE
end Go.Proofs.Ytaicmiadgnpimaa
