/-
  Walks for layer 26 (model): played.
-/
import Derived.Test.YtaicmiadgnpimaaMw62
import Derived.Test.YtaicmiadgnpimaaMgm
namespace Go.Proofs.Ytaicmiadgnpimaa
open Go.RowKit

theorem results_cctt {fn : Func} {p q u v : Tmp} {ty tz : TypeId} (h : fn.results = #[.cell p ty, .cell q tz, .tmp u, .tmp v]) (tmps : Array Value) (P : Program) (w : World) :
 (results fn tmps).run P w =
  ((asAddr (tmps.getD p undef)).run P w).andThen fun a w₁ => ((loadVar ty a).run P w₁).andThen fun x w₂ => ((asAddr (tmps.getD q undef)).run P w₂).andThen fun b w₃ => ((loadVar tz b).run P w₃).andThen fun y w₄ => .ok (.tuple #[x, y, tmps.getD u undef, tmps.getD v undef]) w₄ := by
 simp only [results, h]
 simp [Sem.run_bind, Result.andThen]
def OA9 (c : Md.Call) (pk : Int) : Obj := .cells #[I64 c.kind, I64 c.backend, I64 c.call, I64 c.conn, I64 c.time, .bool c.yes, I64 c.skip, I64 c.breaker, .int .u8 pk] 38
def OBR : Obj := .cells #[I64 0, I64 0, I64 0] 31
def vAct (c : Md.Call) (pk : Int) : Value := .agg #[I64 c.kind, I64 c.backend, I64 c.call, I64 c.conn, I64 c.time, .bool c.yes, I64 c.skip, I64 c.breaker, .int .u8 pk]
theorem alloc_get (w : World) (o : Obj) (i : Nat) : (w.alloc o).heap[i]? = if i = w.heap.size then some o else w.heap[i]? := by
 by_cases h : i = w.heap.size
 · rw [if_pos h, h]
   exact blk_new w o
 · rw [if_neg h]
   by_cases h2 : i < w.heap.size
   · exact ((Below.refl w.heap.size w).alloc (Nat.le_refl _) o).block i h2
   · rw [Array.getElem?_eq_none (by simp; omega), Array.getElem?_eq_none (by omega)]
theorem four_new (w : World) (o1 o2 o3 o4 : Obj) : Below w.heap.size w ((((w.alloc o1).alloc o2).alloc o3).alloc o4) ∧ (((((w.alloc o1).alloc o2).alloc o3).alloc o4).heap[w.heap.size]? = some o1 ∧ ((((w.alloc o1).alloc o2).alloc o3).alloc o4).heap[w.heap.size + 1]? = some o2 ∧ ((((w.alloc o1).alloc o2).alloc o3).alloc o4).heap[w.heap.size + 2]? = some o3 ∧ ((((w.alloc o1).alloc o2).alloc o3).alloc o4).heap[w.heap.size + 3]? = some o4) ∧ ((((w.alloc o1).alloc o2).alloc o3).alloc o4).heap.size = w.heap.size + 4 := by
 have s1 : (w.alloc o1).heap.size = w.heap.size + 1 := by simp
 have s2 : ((w.alloc o1).alloc o2).heap.size = w.heap.size + 2 := by simp
 have s3 : (((w.alloc o1).alloc o2).alloc o3).heap.size = w.heap.size + 3 := by simp
 have s4 : ((((w.alloc o1).alloc o2).alloc o3).alloc o4).heap.size = w.heap.size + 4 := by simp
 refine ⟨((((Below.refl w.heap.size w).alloc (Nat.le_refl _) o1).alloc (by omega) o2).alloc (by omega) o3).alloc (by omega) o4, ⟨?_, ?_, ?_, ?_⟩, s4⟩
 all_goals simp only [alloc_get, s1, s2, s3]
 all_goals simp
theorem setCell_heap {w : World} {a : Addr} {v : Value} {b : Nat} (h : a.block ≠ b) : (w.setCell a v).heap[b]? = w.heap[b]? := by
 unfold World.setCell
 simp [Array.getElem?_modify, h]
theorem set3_other {w : World} {P j : Nat} {x y z : Value} (h : P ≠ j) : (((w.setCell ⟨P, 0, none⟩ x).setCell ⟨P, 1, none⟩ y).setCell ⟨P, 2, none⟩ z).heap[j]? = w.heap[j]? := by
 rw [setCell_heap (a := ⟨P, 2, none⟩) h, setCell_heap (a := ⟨P, 1, none⟩) h, setCell_heap (a := ⟨P, 0, none⟩) h]
set_option maxHeartbeats 8000000 in
set_option maxRecDepth 100000 in
set_option linter.unusedVariables false in
set_option linter.unusedSimpArgs false in
theorem played_no (c : Md.Call) (pk : Int) (s : Md.State) (u : SlV) (w : World) (h : Sta w u s) (hE : (Md.outcomes s c).2 ≠ 0) :
 Calls Try.prog 10 #[.agg #[I64 s.now, .bool s.shut, valS u], vAct c pk] w fun e w' => e = .returned (.tuple #[.agg #[I64 s.now, .bool s.shut, valS u], .agg #[I64 0, I64 0, I64 0], .slice none 0 0, .bool false]) ∧ Below w.heap.size w w' := by
 obtain ⟨E, hEq⟩ : ∃ x, x = (Md.outcomes s c).2 := ⟨_, rfl⟩
 rw [← hEq] at hE
 have z0 : ((E : Int) == 0) = false := by rw [beq_eq_false_iff_ne]; exact hE
 obtain ⟨hbA, ⟨b0, b1, b2, b3⟩, hsA⟩ := four_new w (OB3 s u) (OA9 c pk) OBZ OBR
 unfold OB3 OA9 OBZ OBR at hbA b0 b1 b2 b3 hsA
 obtain ⟨⟨ua, un, uc⟩, hu0⟩ : ∃ x, x = u := ⟨_, rfl⟩
 obtain ⟨wA, hwA⟩ : ∃ x, x = (((w.alloc (.cells #[I64 s.now, .bool s.shut, valS u] 26)).alloc (.cells #[I64 c.kind, I64 c.backend, I64 c.call, I64 c.conn, I64 c.time, .bool c.yes, I64 c.skip, I64 c.breaker, .int .u8 pk] 38)).alloc (.cells #[I64 0, .bool false, .slice none 0 0] 26)).alloc (.cells #[I64 0, I64 0, I64 0] 31) := ⟨_, rfl⟩
 obtain ⟨B, hB⟩ : ∃ x, x = w.heap.size := ⟨_, rfl⟩
 rw [← hwA] at hbA b0 b1 b2 b3 hsA
 rw [← hB] at b0 b1 b2 b3 hsA
 have HBA := Lib.hid hbA
 have HBs := Lib.hid hB
 have HSA := Lib.hid hsA
 have H0 := Lib.hid b0
 have H1 := Lib.hid b1
 have H2 := Lib.hid b2
 have H3 := Lib.hid b3
 have HO := Lib.hid (outcomes_g c s u wA (h.below hbA))
 unfold OutEnd at HO
 have HSTA := Lib.hid h
 subst hu0
 unfold vAct
 unfold valCall at *
 unfold valS at *
 dsimp only at *
 clear hbA h
 rw [← hEq] at HO
 clear hEq hE
 go_enter Try.func10, Try.ntmps10
 go_wp2_with fail
 simp only [← hwA, ← hB]
 clear hwA hB hsA b0 b1 b2 b3
 refine HO.out.mono ?_
 rintro e w2 ⟨⟨v, rfl, hv⟩, hb2⟩
 obtain ⟨xs, hxl, hr⟩ := hv
 replace hr := (hr w2 (.refl _ _)).1
 obtain ⟨va, vc, hvf⟩ := hr.len
 subst hvf
 clear hr hxl
 have HB2 := Lib.hid (HBA.out.trans (hb2.mono HBA.out.size))
 have k0 := (hb2.block _ (lt_of_block H0.out)).trans H0.out
 have k2 := (hb2.block _ (lt_of_block H2.out)).trans H2.out
 have k3 := (hb2.block _ (lt_of_block H3.out)).trans H3.out
 have K2 := Lib.hid k2
 have K3 := Lib.hid k3
 have a0 := blk_cell k0 0
 have a1 := blk_cell k0 1
 have a2 := blk_cell k0 2
 simp only [List.getElem?_toArray, List.getElem?_cons_succ, List.getElem?_cons_zero] at a0 a1 a2
 have y0 := blk_cell k2 0
 have y1 := blk_cell k2 1
 have y2 := blk_cell k2 2
 have fy0 := blk_free k2 0
 have fy1 := blk_free k2 1
 have fy2 := blk_free k2 2
 simp only [List.getElem?_toArray, List.getElem?_cons_succ, List.getElem?_cons_zero] at y0 y1 y2
 have r0 := blk_cell k3 0
 have r1 := blk_cell k3 1
 have r2 := blk_cell k3 2
 have fr0 := blk_free k3 0
 have fr1 := blk_free k3 1
 have fr2 := blk_free k3 2
 simp only [List.getElem?_toArray, List.getElem?_cons_succ, List.getElem?_cons_zero] at r0 r1 r2
 clear k0 k2 k3 hb2
 go_wp2
 have hq3 := (set3_other (w := w2) (P := B + 2) (j := B + 3) (x := I64 s.now) (y := .bool s.shut) (z := .slice ua un uc) (by omega)).trans K3.out
 have hq2b := (set3_other (w := (((w2.setCell ⟨B + 2, 0, none⟩ (I64 s.now)).setCell ⟨B + 2, 1, none⟩ (.bool s.shut)).setCell ⟨B + 2, 2, none⟩ (.slice ua un uc))) (P := B + 3) (j := B + 2) (x := I64 0) (y := I64 0) (z := I64 0) (by omega)).trans (blk_set (blk_set (blk_set K2.out 0 (I64 s.now)) 1 (.bool s.shut)) 2 (.slice ua un uc))
 have hq3b := (blk_set (blk_set (blk_set hq3 0 (I64 0)) 1 (I64 0)) 2 (I64 0))
 have z0 := blk_cell hq2b 0
 have z1 := blk_cell hq2b 1
 have z2 := blk_cell hq2b 2
 have t0 := blk_cell hq3b 0
 have t1 := blk_cell hq3b 1
 have t2 := blk_cell hq3b 2
 simp only [List.setIfInBounds_toArray, List.set_cons_zero, List.set_cons_succ, List.getElem?_toArray, List.getElem?_cons_succ, List.getElem?_cons_zero] at z0 z1 z2 t0 t1 t2
 clear hq3 hq2b hq3b
 refine bodyPost_ret (v := .tuple #[.agg #[I64 s.now, .bool s.shut, .slice ua un uc], .agg #[I64 0, I64 0, I64 0], .slice none 0 0, .bool false]) (by rw [results_cctt rfl]; go_simp) rfl ?_
 have hle : w.heap.size ≤ B + 2 := by have := HBs.out; omega
 have hle3 : w.heap.size ≤ B + 3 := by have := HBs.out; omega
 exact ⟨rfl, ((((((HB2.out.setCell (p := ⟨B + 2, 0, none⟩) hle _).setCell (p := ⟨B + 2, 1, none⟩) hle _).setCell (p := ⟨B + 2, 2, none⟩) hle _).setCell (p := ⟨B + 3, 0, none⟩) hle3 _).setCell (p := ⟨B + 3, 1, none⟩) hle3 _).setCell (p := ⟨B + 3, 2, none⟩) hle3 _)⟩
def SO7 (P : Nat) (x : OutV) (w : World) : Prop := ∀ i v, (encO x)[i]? = some v → w.cell? ⟨P, i, none⟩ = some v
theorem SO7.cells {P : Nat} {x : OutV} {w : World} (h : SO7 P x w) : w.cell? ⟨P, 0, none⟩ = some (I64 x.1.1) ∧ w.cell? ⟨P, 1, none⟩ = some (I64 x.1.2.1) ∧ w.cell? ⟨P, 2, none⟩ = some (I64 x.1.2.2) ∧ w.cell? ⟨P, 3, none⟩ = some (valS x.2.1) ∧ w.cell? ⟨P, 4, none⟩ = some (I64 x.2.2.1) ∧ w.cell? ⟨P, 5, none⟩ = some (.bool x.2.2.2.1) ∧ w.cell? ⟨P, 6, none⟩ = some (valS x.2.2.2.2) :=
 ⟨h 0 _ rfl, h 1 _ rfl, h 2 _ rfl, h 3 _ rfl, h 4 _ rfl, h 5 _ rfl, h 6 _ rfl⟩
theorem heap_of_drew {wy W : World} {b : Nat} {o : Option Obj} (h : wy = W.drew) (q : W.heap[b]? = o) : wy.heap[b]? = o := by
 rw [h]
 exact q
theorem SO7.drew {P : Nat} {x : OutV} {w : World} (h : SO7 P x w) : SO7 P x w.drew := fun i v hv => h i v hv
theorem SO7.set3 {P Q : Nat} {x : OutV} {w : World} (h : SO7 P x w) (hne : P ≠ Q) {a b c : Value} : SO7 P x (((w.setCell ⟨Q, 0, none⟩ a).setCell ⟨Q, 1, none⟩ b).setCell ⟨Q, 2, none⟩ c) := fun i v hv =>
 (cell_other (a := ⟨P, i, none⟩) hne).trans ((cell_other (a := ⟨P, i, none⟩) hne).trans ((cell_other (a := ⟨P, i, none⟩) hne).trans (h i v hv)))
set_option maxHeartbeats 8000000 in
set_option maxRecDepth 100000 in
set_option linter.unusedVariables false in
set_option linter.unusedSimpArgs false in
theorem played_ok (c : Md.Call) (pk : Int) (s : Md.State) (u : SlV) (w : World) (h : Sta w u s) (hE : (Md.outcomes s c).2 = 0) (hp0 : 0 ≤ pk) (hp1 : pk ≤ 255) :
 Calls Try.prog 10 #[.agg #[I64 s.now, .bool s.shut, valS u], vAct c pk] w fun e w' => ∃ o ∈ Md.act s c, ∃ u' ev : SlV, e = .returned (.tuple #[.agg #[I64 o.next.now, .bool o.next.shut, valS u'], agg3 o.result, valS ev, .bool true]) ∧ (∀ w2, Gb (fun i => i < w.heap.size) w' w2 → PoolsAt w2 (valS u') o.next.pools ∧ ReadsL 4 encEff w2 (valS ev) o.effects) ∧ Below w.heap.size w w' := by
 have hl := Md.outcomes_ok hE
 have hne := Md.act_ne s c
 have hle1 := outs_len s c
 rw [hl.2.2] at hle1
 have hl16 := h.good.len2
 obtain ⟨p, rfl⟩ : ∃ p : Nat, pk = p := ⟨pk.toNat, by omega⟩
 obtain ⟨hbA, ⟨b0, b1, b2, b3⟩, hsA⟩ := four_new w (OB3 s u) (OA9 c (p : Int)) OBZ OBR
 unfold OB3 OA9 OBZ OBR at hbA b0 b1 b2 b3 hsA
 obtain ⟨⟨ua, un, uc⟩, hu0⟩ : ∃ x, x = u := ⟨_, rfl⟩
 obtain ⟨wA, hwA⟩ : ∃ x, x = (((w.alloc (.cells #[I64 s.now, .bool s.shut, valS u] 26)).alloc (.cells #[I64 c.kind, I64 c.backend, I64 c.call, I64 c.conn, I64 c.time, .bool c.yes, I64 c.skip, I64 c.breaker, .int .u8 (p : Int)] 38)).alloc (.cells #[I64 0, .bool false, .slice none 0 0] 26)).alloc (.cells #[I64 0, I64 0, I64 0] 31) := ⟨_, rfl⟩
 obtain ⟨B, hB⟩ : ∃ x, x = w.heap.size := ⟨_, rfl⟩
 rw [← hwA] at hbA b0 b1 b2 b3 hsA
 rw [← hB] at b0 b1 b2 b3 hsA
 have HBA := Lib.hid hbA
 have HBs := Lib.hid hB
 have HSA := Lib.hid hsA
 have H0 := Lib.hid b0
 have H1 := Lib.hid b1
 have H2 := Lib.hid b2
 have H3 := Lib.hid b3
 have HO := Lib.hid (outcomes_g c s u wA (h.below hbA))
 unfold OutEnd at HO
 have HSTA := Lib.hid h
 subst hu0
 unfold vAct
 unfold valCall at *
 unfold valS at *
 dsimp only at *
 clear hbA h
 rw [hE, hl.2.2] at HO
 go_enter Try.func10, Try.ntmps10
 go_wp2_with fail
 simp only [← hwA, ← hB]
 clear hwA hB hsA b0 b1 b2 b3
 refine HO.out.mono ?_
 rintro e w2 ⟨⟨v, rfl, hv⟩, hb2⟩
 obtain ⟨xs, hxl, hxr⟩ := hv
 have hrd := (hxr w2 (.refl _ _)).1
 obtain ⟨va, vc, hvf⟩ := hrd.len
 subst hvf
 have hn1 : 1 ≤ xs.length := by
  rw [hxl]
  cases hq : Md.act s c with
  | nil => exact absurd hq hne
  | cons _ _ => simp
 have hn2 : xs.length ≤ 1001 := by rw [hxl]; omega
 obtain ⟨g, o, cp, e, _, hc⟩ := hrd.form (by intro e; rw [e] at hn1; simp at hn1)
 injection e with e1 e2 e3
 replace e1 : va = some ⟨g, o, none⟩ := e1
 subst e1
 clear e2 e3
 obtain ⟨ix, hix⟩ : ∃ x, x = p % xs.length := ⟨_, rfl⟩
 have hixl : ix < xs.length := by rw [hix]; exact Nat.mod_lt _ hn1
 have hrow := hc ix hixl
 have hixo : ix < (Md.act s c).length := by rw [← hxl]; exact hixl
 have HOR : Hid (∀ w4, Gb (fun i => i < wA.heap.size) w2 w4 → OutRd w4 xs[ix] (Md.act s c)[ix]) := fun w4 h4 => (hxr w4 h4).2 ix hixl hixo
 have HMEM := Lib.hid (List.getElem_mem hixo)
 generalize (Md.act s c)[ix] = ou at HOR HMEM
 generalize xs[ix] = xv at HOR hrow
 obtain ⟨⟨x1, x2, x3⟩, ⟨ea, en, ec⟩, xn, xb, ⟨pa, pn, pc⟩⟩ := xv
 have rr : ∀ i v, (encO ((x1, x2, x3), (ea, en, ec), xn, xb, (pa, pn, pc)))[i]? = some v → w2.cell? ⟨g, o + ix * 7 + i, none⟩ = some v := hrow
 have m0 : w2.cell? ⟨g, o + ix * 7, none⟩ = some (I64 x1) := rr 0 _ rfl
 have m1 : w2.cell? ⟨g, o + ix * 7 + 1, none⟩ = some (I64 x2) := rr 1 _ rfl
 have m2 : w2.cell? ⟨g, o + ix * 7 + 2, none⟩ = some (I64 x3) := rr 2 _ rfl
 have m3 : w2.cell? ⟨g, o + ix * 7 + 3, none⟩ = some (.slice ea en ec) := rr 3 _ rfl
 have m4 : w2.cell? ⟨g, o + ix * 7 + 4, none⟩ = some (I64 xn) := rr 4 _ rfl
 have m5 : w2.cell? ⟨g, o + ix * 7 + 5, none⟩ = some (.bool xb) := rr 5 _ rfl
 have m6 : w2.cell? ⟨g, o + ix * 7 + 6, none⟩ = some (.slice pa pn pc) := rr 6 _ rfl
 obtain ⟨N, hN⟩ : ∃ x, x = xs.length := ⟨_, rfl⟩
 rw [← hN] at hix hixl hn1 hn2 ⊢
 have hmod : (p : Int).tmod (N : Int) = (ix : Int) := by rw [hix]; rfl
 have hN0 : ((N : Int) == 0) = false := by rw [beq_eq_false_iff_ne]; omega
 have hixI : (ix : Int) < (N : Int) := by omega
 have hp255 : p ≤ 255 := by omega
 have k1 := (hb2.block _ (lt_of_block H1.out)).trans H1.out
 have k2 := (hb2.block _ (lt_of_block H2.out)).trans H2.out
 have k3 := (hb2.block _ (lt_of_block H3.out)).trans H3.out
 have HB2 := Lib.hid hb2
 have HIXL := Lib.hid hixl
 have a0 := blk_cell k1 0
 have a1 := blk_cell k1 1
 have a2 := blk_cell k1 2
 have a3 := blk_cell k1 3
 have a4 := blk_cell k1 4
 have a5 := blk_cell k1 5
 have a6 := blk_cell k1 6
 have a7 := blk_cell k1 7
 have a8 := blk_cell k1 8
 simp only [List.getElem?_toArray, List.getElem?_cons_succ, List.getElem?_cons_zero] at a0 a1 a2 a3 a4 a5 a6 a7 a8
 have HK2 := Lib.hid k2
 have HK3 := Lib.hid k3
 clear k1 k2 k3 hb2 hxr hrd hxl hc hrow rr hN hix hne hle1 hl16 hl hn1 hE hixo hp0 hp1
 have hal := (Below.refl w2.heap.size w2).alloc (Nat.le_refl _) (.cells #[I64 x1, I64 x2, I64 x3, .slice ea en ec, I64 xn, .bool xb, .slice pa pn pc] 78)
 have hP := blk_new w2 (.cells #[I64 x1, I64 x2, I64 x3, .slice ea en ec, I64 xn, .bool xb, .slice pa pn pc] 78)
 have h2x := (hal.block _ (lt_of_block HK2.out)).trans HK2.out
 have h3x := (hal.block _ (lt_of_block HK3.out)).trans HK3.out
 have HSO : Hid (SO7 w2.heap.size ((x1, x2, x3), (ea, en, ec), xn, xb, (pa, pn, pc)) ((w2.alloc (.cells #[I64 x1, I64 x2, I64 x3, .slice ea en ec, I64 xn, .bool xb, .slice pa pn pc] 78)))) := fun i v hv => (blk_cell hP i).trans (by simpa [encO, valS] using hv)
 have HLT := Lib.hid (lt_of_block HK3.out)
 obtain ⟨P, hP0⟩ : ∃ x, x = w2.heap.size := ⟨_, rfl⟩
 have HP0 := Lib.hid hP0
 rw [← hP0] at HSO
 have HAL := Lib.hid hal
 have H2X := Lib.hid h2x
 have H3X := Lib.hid h3x
 have hne2 : P ≠ B + 1 + 1 := by have := HP0.out; have := HLT.out; omega
 have hne3 : P ≠ B + 1 + 1 + 1 := by have := HP0.out; have := HLT.out; omega
 have hs6 : SO7 P ((x1, x2, x3), (ea, en, ec), xn, xb, (pa, pn, pc)) ((((w2.alloc (.cells #[I64 x1, I64 x2, I64 x3, .slice ea en ec, I64 xn, .bool xb, .slice pa pn pc] 78)).setCell ⟨B + 1 + 1, 0, none⟩ (I64 xn)).setCell ⟨B + 1 + 1, 1, none⟩ (.bool xb)).setCell ⟨B + 1 + 1, 2, none⟩ (.slice pa pn pc)) := SO7.set3 HSO.out hne2
 have HS6 : Hid (SO7 P ((x1, x2, x3), (ea, en, ec), xn, xb, (pa, pn, pc)) ((((w2.alloc (.cells #[I64 x1, I64 x2, I64 x3, .slice ea en ec, I64 xn, .bool xb, .slice pa pn pc] 78)).setCell ⟨B + 1 + 1, 0, none⟩ (I64 xn)).setCell ⟨B + 1 + 1, 1, none⟩ (.bool xb)).setCell ⟨B + 1 + 1, 2, none⟩ (.slice pa pn pc)).drew) := hs6.drew
 obtain ⟨wy, hwy⟩ : ∃ x, x = (((((((w2.alloc (.cells #[I64 x1, I64 x2, I64 x3, .slice ea en ec, I64 xn, .bool xb, .slice pa pn pc] 78)).setCell ⟨B + 1 + 1, 0, none⟩ (I64 xn)).setCell ⟨B + 1 + 1, 1, none⟩ (.bool xb)).setCell ⟨B + 1 + 1, 2, none⟩ (.slice pa pn pc)).setCell ⟨B + 1 + 1 + 1, 0, none⟩ (I64 x1)).setCell ⟨B + 1 + 1 + 1, 1, none⟩ (I64 x2)).setCell ⟨B + 1 + 1 + 1, 2, none⟩ (I64 x3)).drew := ⟨_, rfl⟩
 have HS7 : Hid (SO7 P ((x1, x2, x3), (ea, en, ec), xn, xb, (pa, pn, pc)) wy) := by
  rw [hwy]
  exact (SO7.set3 hs6 hne3).drew
 have hq3 := (set3_other (w := (w2.alloc (.cells #[I64 x1, I64 x2, I64 x3, .slice ea en ec, I64 xn, .bool xb, .slice pa pn pc] 78))) (P := B + 1 + 1) (j := B + 1 + 1 + 1) (x := I64 xn) (y := .bool xb) (z := .slice pa pn pc) (by omega)).trans H3X.out
 have hq2b := (set3_other (w := ((((w2.alloc (.cells #[I64 x1, I64 x2, I64 x3, .slice ea en ec, I64 xn, .bool xb, .slice pa pn pc] 78)).setCell ⟨B + 1 + 1, 0, none⟩ (I64 xn)).setCell ⟨B + 1 + 1, 1, none⟩ (.bool xb)).setCell ⟨B + 1 + 1, 2, none⟩ (.slice pa pn pc))) (P := B + 1 + 1 + 1) (j := B + 1 + 1) (x := I64 x1) (y := I64 x2) (z := I64 x3) (by omega)).trans (blk_set (blk_set (blk_set H2X.out 0 (I64 xn)) 1 (.bool xb)) 2 (.slice pa pn pc))
 have hq3b := (blk_set (blk_set (blk_set hq3 0 (I64 x1)) 1 (I64 x2)) 2 (I64 x3))
 have HQ2 := Lib.hid (heap_of_drew hwy hq2b)
 have HQ3 := Lib.hid (heap_of_drew hwy hq3b)
 have hle : w.heap.size ≤ B + 1 + 1 := by have := HBs.out; omega
 have hle3 : w.heap.size ≤ B + 1 + 1 + 1 := by have := HBs.out; omega
 have hlA2 : B + 1 + 1 < wA.heap.size := lt_of_block H2.out
 have hlA3 : B + 1 + 1 + 1 < wA.heap.size := lt_of_block H3.out
 have HGZ : Hid (Gb (fun i => i < wA.heap.size) w2 wy) := by
  rw [hwy]
  exact (((((((Gb.of_below HAL.out).setCell (x := ⟨B + 1 + 1, 0, none⟩) hlA2 _).setCell (x := ⟨B + 1 + 1, 1, none⟩) hlA2 _).setCell (x := ⟨B + 1 + 1, 2, none⟩) hlA2 _).setCell (x := ⟨B + 1 + 1 + 1, 0, none⟩) hlA3 _).setCell (x := ⟨B + 1 + 1 + 1, 1, none⟩) hlA3 _).setCell (x := ⟨B + 1 + 1 + 1, 2, none⟩) hlA3 _).trans (Gb.of_below (Below.refl _ _).drew)
 have HBZ : Hid (Below w.heap.size w wy) := by
  rw [hwy]
  exact (((((((HBA.out.trans ((HB2.out.trans (HAL.out.mono HB2.out.size)).mono HBA.out.size)).setCell (p := ⟨B + 1 + 1, 0, none⟩) hle _).setCell (p := ⟨B + 1 + 1, 1, none⟩) hle _).setCell (p := ⟨B + 1 + 1, 2, none⟩) hle _).setCell (p := ⟨B + 1 + 1 + 1, 0, none⟩) hle3 _).setCell (p := ⟨B + 1 + 1 + 1, 1, none⟩) hle3 _).setCell (p := ⟨B + 1 + 1 + 1, 2, none⟩) hle3 _).drew
 clear hs6 hq3 hq2b hq3b hle hle3 hlA2 hlA3 hne2 hne3
 have y0 := blk_cell h2x 0
 have y1 := blk_cell h2x 1
 have y2 := blk_cell h2x 2
 have fy0 := blk_free h2x 0
 have fy1 := blk_free h2x 1
 have fy2 := blk_free h2x 2
 simp only [List.getElem?_toArray, List.getElem?_cons_succ, List.getElem?_cons_zero] at y0 y1 y2
 have r0 := blk_cell h3x 0
 have r1 := blk_cell h3x 1
 have r2 := blk_cell h3x 2
 have fr0 := blk_free h3x 0
 have fr1 := blk_free h3x 1
 have fr2 := blk_free h3x 2
 simp only [List.getElem?_toArray, List.getElem?_cons_succ, List.getElem?_cons_zero] at r0 r1 r2
 clear hP h2x h3x hal
 go_wp2_with fail
 simp only [← hP0]
 clear hP0
 refine wp_region_held_drew (S := SO7 P ((x1, x2, x3), (ea, en, ec), xn, xb, (pa, pn, pc))) (by kernel_rfl) HSO.out (fun hHeld => ?_)
 refine tk 0 (v := ?vv0_1) (dropAt rfl) (Or.inl ⟨by rfl, ?hv0_1⟩) hHeld ?rv0_1
 case hv0_1 => (intro w hSw; obtain ⟨s0, s1, s2, s3, s4, s5, s6⟩ := hSw.cells; unfold valS at s3 s6; dsimp only at s0 s1 s2 s3 s4 s5 s6; go_simp; first | done | with_reducible rfl)
 try simp only [Act.put, pu2, pu3, pu4]
 refine tk 1 (v := ?vv1_2) (dropAt rfl) (Or.inl ⟨by rfl, ?hv1_2⟩) hHeld ?rv1_2
 case hv1_2 => (intro w hSw; obtain ⟨s0, s1, s2, s3, s4, s5, s6⟩ := hSw.cells; unfold valS at s3 s6; dsimp only at s0 s1 s2 s3 s4 s5 s6; go_simp; first | done | with_reducible rfl)
 try simp only [Act.put, pu2, pu3, pu4]
 refine tk 2 (v := ?vv2_3) (dropAt rfl) (Or.inl ⟨by rfl, ?hv2_3⟩) hHeld ?rv2_3
 case hv2_3 => (intro w hSw; obtain ⟨s0, s1, s2, s3, s4, s5, s6⟩ := hSw.cells; unfold valS at s3 s6; dsimp only at s0 s1 s2 s3 s4 s5 s6; go_simp; first | done | with_reducible rfl)
 try simp only [Act.put, pu2, pu3, pu4]
 refine tk 3 (v := ?vv3_4) (dropAt rfl) (Or.inl ⟨by rfl, ?hv3_4⟩) hHeld ?rv3_4
 case hv3_4 => (intro w hSw; obtain ⟨s0, s1, s2, s3, s4, s5, s6⟩ := hSw.cells; unfold valS at s3 s6; dsimp only at s0 s1 s2 s3 s4 s5 s6; go_simp; first | done | with_reducible rfl)
 try simp only [Act.put, pu2, pu3, pu4]
 refine tk 4 (v := ?vv4_5) (dropAt rfl) (Or.inl ⟨by rfl, ?hv4_5⟩) hHeld ?rv4_5
 case hv4_5 => (intro w hSw; obtain ⟨s0, s1, s2, s3, s4, s5, s6⟩ := hSw.cells; unfold valS at s3 s6; dsimp only at s0 s1 s2 s3 s4 s5 s6; go_simp; first | done | with_reducible rfl)
 try simp only [Act.put, pu2, pu3, pu4]
 refine tk 5 (v := ?vv5_6) (dropAt rfl) (Or.inl ⟨by rfl, ?hv5_6⟩) hHeld ?rv5_6
 case hv5_6 => (intro w hSw; obtain ⟨s0, s1, s2, s3, s4, s5, s6⟩ := hSw.cells; unfold valS at s3 s6; dsimp only at s0 s1 s2 s3 s4 s5 s6; go_simp; first | done | with_reducible rfl)
 try simp only [Act.put, pu2, pu3, pu4]
 refine wpAnyH_ready (rs := [6]) (by kernel_rfl) (by simp) ?_
 refine AllReadyH.cons (o := _) (dropAt (r := _) rfl) (fun K hK => ?_) AllReadyH.nil
 go_simp
 refine hK.out _ _ HS6 (fun hHeld2 => ?_)
 clear hK K
 try simp only [Act.put, pu2, pu3, pu4]
 refine wpAnyH_ready (rs := [7]) (by kernel_rfl) (by simp) ?_
 refine AllReadyH.cons (o := _) (dropAt (r := _) rfl) (fun K hK => ?_) AllReadyH.nil
 go_simp
 show K _ (((((((w2.alloc (.cells #[I64 x1, I64 x2, I64 x3, .slice ea en ec, I64 xn, .bool xb, .slice pa pn pc] 78)).setCell ⟨B + 1 + 1, 0, none⟩ (I64 xn)).setCell ⟨B + 1 + 1, 1, none⟩ (.bool xb)).setCell ⟨B + 1 + 1, 2, none⟩ (.slice pa pn pc)).setCell ⟨B + 1 + 1 + 1, 0, none⟩ (I64 x1)).setCell ⟨B + 1 + 1 + 1, 1, none⟩ (I64 x2)).setCell ⟨B + 1 + 1 + 1, 2, none⟩ (I64 x3)).drew
 rw [← hwy]
 refine hK.out _ _ HS7 (fun hHeld3 => ?_)
 clear hK K
 try simp only [Act.put, pu2, pu3, pu4]
 refine tk 8 (v := ?vv8_7) (dropAt rfl) (Or.inl ⟨by rfl, ?hv8_7⟩) hHeld3 ?rv8_7
 case hv8_7 => (intro w hSw; go_simp; first | done | with_reducible rfl)
 try simp only [Act.put, pu2, pu3, pu4]
 refine tk 9 (v := ?vv9_8) (dropAt rfl) (Or.inl ⟨by rfl, ?hv9_8⟩) hHeld3 ?rv9_8
 case hv9_8 => (intro w hSw; go_simp; first | done | with_reducible rfl)
 try simp only [Act.put, pu2, pu3, pu4]
 refine wpAnyH_done (by kernel_rfl) ?_ _
 clear y0 y1 y2 fy0 fy1 fy2 r0 r1 r2 fr0 fr1 fr2 hwy
 go_wp2_with fail
 have hq2b := HQ2.out
 have hq3b := HQ3.out
 have z0 := blk_cell hq2b 0
 have z1 := blk_cell hq2b 1
 have z2 := blk_cell hq2b 2
 have t0 := blk_cell hq3b 0
 have t1 := blk_cell hq3b 1
 have t2 := blk_cell hq3b 2
 simp only [List.setIfInBounds_toArray, List.set_cons_zero, List.set_cons_succ, List.getElem?_toArray, List.getElem?_cons_succ, List.getElem?_cons_zero] at z0 z1 z2 t0 t1 t2
 clear hq2b hq3b
 refine bodyPost_ret (v := .tuple #[.agg #[I64 xn, .bool xb, .slice pa pn pc], .agg #[I64 x1, I64 x2, I64 x3], .slice ea en ec, .bool true]) (by rw [results_cctt rfl]; go_simp) rfl ?_
 have q := HOR.out _ HGZ.out
 refine ⟨ou, HMEM.out, (pa, pn, pc), (ea, en, ec), ?_, fun w4 h4 => ?_, HBZ.out⟩
 · rw [← q.now, ← q.shut, ← q.res]
   rfl
 · have q4 := HOR.out w4 (HGZ.out.trans (h4.mono (fun _ _ z => Nat.lt_of_lt_of_le z HBA.out.size)))
   exact ⟨q4.pools, q4.effs⟩
end Go.Proofs.Ytaicmiadgnpimaa
namespace Go.Proofs.Ytaicmiadgnpimaa
open Go.RowKit

end Go.Proofs.Ytaicmiadgnpimaa
