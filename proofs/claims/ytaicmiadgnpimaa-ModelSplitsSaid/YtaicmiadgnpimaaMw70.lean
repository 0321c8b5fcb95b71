/-
  Walks for layer 26 (model): samePool and Same of the reference, of equal states.
-/
import Derived.Test.YtaicmiadgnpimaaMgq
import Derived.Test.YtaicmiadgnpimaaMw56
namespace Go.Proofs.Ytaicmiadgnpimaa
open Go.RowKit

theorem eqLm (d : Nat) (a b c e : Int) (w : World) : (Op.equalIn (d + 2) 42 (.agg #[I64 a, I64 b, I64 c, I64 e]) (.agg #[I64 a, I64 b, I64 c, I64 e])).run Try.prog w = .ok true w := by
 have u0 := Try.underlying3
 have a0 := Try.isAgg3
 have z0 := Try.sizeOf3
 have u1 := Try.underlying2
 have a1 := Try.isAgg2
 have z1 := Try.sizeOf2
 have e2 : Try.prog.stoodInHeld 42 = false := by kernel_rfl
 have e4 : Try.prog.underlying 42 = some (.struct (Try.prog.fieldsOf 42)) := by kernel_rfl
 rw [show d + 2 = (d + 1) + 1 from rfl, run_equalIn_agg w (d + 1) _ _ _ e4 e2]
 simp only [Program.fieldsOf, Try.underlying42]
 go_simp
def aggP (pv : PoolV) : Value := .agg (encP pv).toArray
/-- A backend as it lies. -/
def P11 (g o : Nat) (pv : PoolV) (w : World) : Prop := ∀ i v, (encP pv)[i]? = some v → w.cell? ⟨g, o + i, none⟩ = some v
theorem same_reads (w : World) (pv : PoolV) : P11 w.heap.size 0 pv (w.alloc (.cells (encP pv).toArray 48)) := fun i v hv => by
 rw [Nat.zero_add, blk_cell (blk_new w _), List.getElem?_toArray]
 exact hv
set_option maxHeartbeats 4000000 in
set_option maxRecDepth 100000 in
set_option linter.unusedVariables false in
set_option linter.unusedSimpArgs false in
theorem sameP_true (p : Md.Pool) (pv pv2 : PoolV) (w : World) (h1 : PoolRd w pv p) (h2 : PoolRd w pv2 p) (hs : PoolSmall p) : Calls Try.prog 38 #[aggP pv, aggP pv2] w fun e w' => e = .returned (.bool true) ∧ Below w.heap.size w w' := by
 obtain ⟨lm, lI, lL, lD, lW, up0, br0, pr0⟩ := p
 have c1 := h1.lim
 have c2 := h2.lim
 have d1 := h1.up
 have d2 := h2.up
 have e1 := h1.breaker
 have e2 := h2.breaker
 have f1 := h1.probe
 have f2 := h2.probe
 have RI := Lib.hid h1.idle
 have RL := Lib.hid h1.leases
 have RD := Lib.hid h1.dials
 have RW := Lib.hid h1.waiters
 have QI := Lib.hid h2.idle
 have QL := Lib.hid h2.leases
 have QD := Lib.hid h2.dials
 have QW := Lib.hid h2.waiters
 unfold PoolSmall at hs
 clear h1 h2
 obtain ⟨l1, ⟨xia, iM, xic⟩, ⟨xla, lM, xlc⟩, ⟨xda, dM, xdc⟩, ⟨xwa, wM, xwc⟩, up2, br2, pr2⟩ := pv
 obtain ⟨l2, ⟨yia, iN, yic⟩, ⟨yla, lN, ylc⟩, ⟨yda, dN, ydc⟩, ⟨ywa, wN, ywc⟩, up, br, pr⟩ := pv2
 dsimp only at c1 c2 d1 d2 e1 e2 f1 f2 RI RL RD RW QI QL QD QW hs
 subst c1 d1 e1 f1
 subst c2 d2 e2 f2
 obtain ⟨mx, qu, id, ag⟩ := l2
 have yi : iM = lI.length := read_len (u := (xia, iM, xic)) RI.out
 have zi : iN = lI.length := read_len (u := (yia, iN, yic)) QI.out
 rw [← yi] at zi
 subst zi
 have yl : lM = lL.length := read_len (u := (xla, lM, xlc)) RL.out
 have zl : lN = lL.length := read_len (u := (yla, lN, ylc)) QL.out
 rw [← yl] at zl
 subst zl
 have yd : dM = lD.length := read_len (u := (xda, dM, xdc)) RD.out
 have zd : dN = lD.length := read_len (u := (yda, dN, ydc)) QD.out
 rw [← yd] at zd
 subst zd
 have yw : wM = lW.length := read_len (u := (xwa, wM, xwc)) RW.out
 have zw : wN = lW.length := read_len (u := (ywa, wN, ywc)) QW.out
 rw [← yw] at zw
 subst zw
 have hb0 := ((Below.refl w.heap.size w).alloc (Nat.le_refl _) (.cells #[I64 mx, I64 qu, I64 id, I64 ag, .slice xia iN xic, .slice xla lN xlc, .slice xda dN xdc, .slice xwa wN xwc, .bool up, I64 br, I64 pr] 48)).alloc (by simp) (.cells #[I64 mx, I64 qu, I64 id, I64 ag, .slice yia iN yic, .slice yla lN ylc, .slice yda dN ydc, .slice ywa wN ywc, .bool up, I64 br, I64 pr] 48)
 have HB0 := Lib.hid hb0
 obtain ⟨wb, hwb⟩ : ∃ x, x = ((w.alloc (.cells #[I64 mx, I64 qu, I64 id, I64 ag, .slice xia iN xic, .slice xla lN xlc, .slice xda dN xdc, .slice xwa wN xwc, .bool up, I64 br, I64 pr] 48)).alloc (.cells #[I64 mx, I64 qu, I64 id, I64 ag, .slice yia iN yic, .slice yla lN ylc, .slice yda dN ydc, .slice ywa wN ywc, .bool up, I64 br, I64 pr] 48)) := ⟨_, rfl⟩
 obtain ⟨B, hB⟩ : ∃ x, x = w.heap.size := ⟨_, rfl⟩
 have hx : wb.heap[B]? = some (.cells #[I64 mx, I64 qu, I64 id, I64 ag, .slice xia iN xic, .slice xla lN xlc, .slice xda dN xdc, .slice xwa wN xwc, .bool up, I64 br, I64 pr] 48) ∧ wb.heap[B + 1]? = some (.cells #[I64 mx, I64 qu, I64 id, I64 ag, .slice yia iN yic, .slice yla lN ylc, .slice yda dN ydc, .slice ywa wN ywc, .bool up, I64 br, I64 pr] 48) := by
  have b1 := blk_new w (.cells #[I64 mx, I64 qu, I64 id, I64 ag, .slice xia iN xic, .slice xla lN xlc, .slice xda dN xdc, .slice xwa wN xwc, .bool up, I64 br, I64 pr] 48)
  have b2 := blk_new (w.alloc (.cells #[I64 mx, I64 qu, I64 id, I64 ag, .slice xia iN xic, .slice xla lN xlc, .slice xda dN xdc, .slice xwa wN xwc, .bool up, I64 br, I64 pr] 48)) (.cells #[I64 mx, I64 qu, I64 id, I64 ag, .slice yia iN yic, .slice yla lN ylc, .slice yda dN ydc, .slice ywa wN ywc, .bool up, I64 br, I64 pr] 48)
  have s1 : (w.alloc (.cells #[I64 mx, I64 qu, I64 id, I64 ag, .slice xia iN xic, .slice xla lN xlc, .slice xda dN xdc, .slice xwa wN xwc, .bool up, I64 br, I64 pr] 48)).heap.size = B + 1 := by rw [hB]; simp
  have c2 := (Below.refl (w.alloc (.cells #[I64 mx, I64 qu, I64 id, I64 ag, .slice xia iN xic, .slice xla lN xlc, .slice xda dN xdc, .slice xwa wN xwc, .bool up, I64 br, I64 pr] 48)).heap.size (w.alloc (.cells #[I64 mx, I64 qu, I64 id, I64 ag, .slice xia iN xic, .slice xla lN xlc, .slice xda dN xdc, .slice xwa wN xwc, .bool up, I64 br, I64 pr] 48))).alloc (Nat.le_refl _) (.cells #[I64 mx, I64 qu, I64 id, I64 ag, .slice yia iN yic, .slice yla lN ylc, .slice yda dN ydc, .slice ywa wN ywc, .bool up, I64 br, I64 pr] 48)
  have d1 := (c2.block _ (by rw [s1, hB]; omega)).trans b1
  rw [s1] at b2
  rw [← hwb] at b2 d1
  rw [← hB] at d1
  exact ⟨d1, b2⟩
 have HX := Lib.hid hx
 rw [← hwb] at HB0
 unfold aggP encP
 have e1 : Try.prog.eqGuardType Try.prog.depth 42 = false := by kernel_rfl
 have hN := eqLm 9998 mx qu id ag
 have hi9 : iN ≤ 1000000 ∧ lN ≤ 1000000 ∧ dN ≤ 1000000 ∧ wN ≤ 1000000 := ⟨by omega, by omega, by omega, by omega⟩
 obtain ⟨hi9, hl9, hd9, hw9⟩ := hi9
 have ZI := Lib.hid yi
 have ZL := Lib.hid yl
 have ZD := Lib.hid yd
 have ZW := Lib.hid yw
 clear yi yl yd yw hs hb0 hx
 unfold valS at *
 dsimp only at *
 go_enter Try.func38, Try.ntmps38
 go_wp2_with fail
 simp only [← hwb, ← hB]
 clear hwb hB
 go_loopw [5] (fun iv wr => ∃ k : Nat, k ≤ iN ∧ iv = .int .i64 k ∧ Hid (Below wb.heap.size wb wr)) (fun iv _ => iN - (intOf iv).toNat)
 case atStart => exact ⟨0, Nat.zero_le _, rfl, (Lib.hid (Below.refl wb.heap.size wb))⟩
 case round =>
  obtain ⟨k0, hk, rfl, HB1⟩ := hrel
  obtain ⟨w2, hw_⟩ : ∃ x, x = wr := ⟨_, rfl⟩
  subst hw_
  by_cases hlt : k0 < iN
  · have hkl : k0 < lI.length := by rw [← ZI.out]; exact hlt
    obtain ⟨gx, ox, cx, e, hgx, hcx⟩ := RI.out.form (by intro e; rw [e] at hkl; simp at hkl)
    injection e with f1 f2 f3
    replace f1 : xia = some ⟨gx, ox, none⟩ := f1
    subst f1
    obtain ⟨gy, oy, cy, e, hgy, hcy⟩ := QI.out.form (by intro e; rw [e] at hkl; simp at hkl)
    injection e with f4 f5 f6
    replace f4 : yia = some ⟨gy, oy, none⟩ := f4
    subst f4
    clear f2 f3 f5 f6
    have hbx := HB0.out.trans (HB1.out.mono HB0.out.size)
    have qx := hcx k0 hkl
    have qy := hcy k0 hkl
    generalize lI[k0] = y at qx qy
    have x0 : w2.cell? ⟨gx, ox + k0 * 3, none⟩ = some (I64 y.1) := (hbx.cell (p := ⟨gx, _, none⟩) hgx).trans (qx 0 _ rfl)
    have x1 : w2.cell? ⟨gx, ox + k0 * 3 + 1, none⟩ = some (I64 y.2.1) := (hbx.cell (p := ⟨gx, _, none⟩) hgx).trans (qx 1 _ rfl)
    have x2 : w2.cell? ⟨gx, ox + k0 * 3 + 2, none⟩ = some (I64 y.2.2) := (hbx.cell (p := ⟨gx, _, none⟩) hgx).trans (qx 2 _ rfl)
    have y0 : w2.cell? ⟨gy, oy + k0 * 3, none⟩ = some (I64 y.1) := (hbx.cell (p := ⟨gy, _, none⟩) hgy).trans (qy 0 _ rfl)
    have y1 : w2.cell? ⟨gy, oy + k0 * 3 + 1, none⟩ = some (I64 y.2.1) := (hbx.cell (p := ⟨gy, _, none⟩) hgy).trans (qy 1 _ rfl)
    have y2 : w2.cell? ⟨gy, oy + k0 * 3 + 2, none⟩ = some (I64 y.2.2) := (hbx.cell (p := ⟨gy, _, none⟩) hgy).trans (qy 2 _ rfl)
    have c1 := blk_cell ((HB1.out.block _ (lt_of_block HX.out.1)).trans HX.out.1) 4
    have c2 := blk_cell ((HB1.out.block _ (lt_of_block HX.out.2)).trans HX.out.2) 4
    simp only [List.getElem?_toArray, List.getElem?_cons_succ, List.getElem?_cons_zero] at c1 c2
    have hkI : (k0 : Int) < (iN : Int) := by omega
    have e1 : Try.prog.eqGuardType Try.prog.depth 100 = false := by kernel_rfl
    have hN := eqCn 9998 y y
    unfold aggCn at hN
    rw [decide_eq_true rfl] at hN
    clear hcx hcy qx qy hbx hgx hgy
    go_wp2_with fail
    go_quiet (fail)
    go_wp2_with fail
    refine ⟨⟨k0 + 1, hlt, by rw [show (k0 : Int) + 1 = ((k0 + 1 : Nat) : Int) by omega], HB1.out.trans ((below_drewN (.refl _ _) _).mono HB1.out.size)⟩, ?_⟩
    simp [intOf]
    omega
  · have hn : ¬ (k0 : Int) < (iN : Int) := by omega
    have c1 := blk_cell ((HB1.out.block _ (lt_of_block HX.out.1)).trans HX.out.1) 4
    simp only [List.getElem?_toArray, List.getElem?_cons_succ, List.getElem?_cons_zero] at c1
    have c2 : Hid True := trivial
    go_wp2_with fail
    clear c1 hn
    go_loopw [6] (fun iv wr => ∃ k : Nat, k ≤ lN ∧ iv = .int .i64 k ∧ Hid (Below wb.heap.size wb wr)) (fun iv _ => lN - (intOf iv).toNat)
    case atStart => exact ⟨0, Nat.zero_le _, rfl, HB1⟩
    case round =>
     obtain ⟨k1, hk, rfl, HB2⟩ := hrel
     obtain ⟨w3, hw_⟩ : ∃ x, x = wr := ⟨_, rfl⟩
     subst hw_
     by_cases hlt : k1 < lN
     · have hkl : k1 < lL.length := by rw [← ZL.out]; exact hlt
       obtain ⟨gx, ox, cx, e, hgx, hcx⟩ := RL.out.form (by intro e; rw [e] at hkl; simp at hkl)
       injection e with f1 f2 f3
       replace f1 : xla = some ⟨gx, ox, none⟩ := f1
       subst f1
       obtain ⟨gy, oy, cy, e, hgy, hcy⟩ := QL.out.form (by intro e; rw [e] at hkl; simp at hkl)
       injection e with f4 f5 f6
       replace f4 : yla = some ⟨gy, oy, none⟩ := f4
       subst f4
       clear f2 f3 f5 f6
       have hbx := HB0.out.trans (HB2.out.mono HB0.out.size)
       have qx := hcx k1 hkl
       have qy := hcy k1 hkl
       generalize lL[k1] = y at qx qy
       have x0 : w3.cell? ⟨gx, ox + k1 * 3, none⟩ = some (I64 y.1) := (hbx.cell (p := ⟨gx, _, none⟩) hgx).trans (qx 0 _ rfl)
       have x1 : w3.cell? ⟨gx, ox + k1 * 3 + 1, none⟩ = some (I64 y.2.1) := (hbx.cell (p := ⟨gx, _, none⟩) hgx).trans (qx 1 _ rfl)
       have x2 : w3.cell? ⟨gx, ox + k1 * 3 + 2, none⟩ = some (I64 y.2.2) := (hbx.cell (p := ⟨gx, _, none⟩) hgx).trans (qx 2 _ rfl)
       have y0 : w3.cell? ⟨gy, oy + k1 * 3, none⟩ = some (I64 y.1) := (hbx.cell (p := ⟨gy, _, none⟩) hgy).trans (qy 0 _ rfl)
       have y1 : w3.cell? ⟨gy, oy + k1 * 3 + 1, none⟩ = some (I64 y.2.1) := (hbx.cell (p := ⟨gy, _, none⟩) hgy).trans (qy 1 _ rfl)
       have y2 : w3.cell? ⟨gy, oy + k1 * 3 + 2, none⟩ = some (I64 y.2.2) := (hbx.cell (p := ⟨gy, _, none⟩) hgy).trans (qy 2 _ rfl)
       have c1 := blk_cell ((HB2.out.block _ (lt_of_block HX.out.1)).trans HX.out.1) 5
       have c2 := blk_cell ((HB2.out.block _ (lt_of_block HX.out.2)).trans HX.out.2) 5
       simp only [List.getElem?_toArray, List.getElem?_cons_succ, List.getElem?_cons_zero] at c1 c2
       have hkI : (k1 : Int) < (lN : Int) := by omega
       have e1 : Try.prog.eqGuardType Try.prog.depth 69 = false := by kernel_rfl
       have hN := eqLs 9998 y y
       unfold aggCn at hN
       rw [decide_eq_true rfl] at hN
       clear hcx hcy qx qy hbx hgx hgy
       go_wp2_with fail
       go_quiet (fail)
       go_wp2_with fail
       refine ⟨⟨k1 + 1, hlt, by rw [show (k1 : Int) + 1 = ((k1 + 1 : Nat) : Int) by omega], HB2.out.trans ((below_drewN (.refl _ _) _).mono HB2.out.size)⟩, ?_⟩
       simp [intOf]
       omega
     · have hn : ¬ (k1 : Int) < (lN : Int) := by omega
       have c1 := blk_cell ((HB2.out.block _ (lt_of_block HX.out.1)).trans HX.out.1) 5
       simp only [List.getElem?_toArray, List.getElem?_cons_succ, List.getElem?_cons_zero] at c1
       have c2 : Hid True := trivial
       go_wp2_with fail
       clear c1 hn
       go_loopw [7] (fun iv wr => ∃ k : Nat, k ≤ dN ∧ iv = .int .i64 k ∧ Hid (Below wb.heap.size wb wr)) (fun iv _ => dN - (intOf iv).toNat)
       case atStart => exact ⟨0, Nat.zero_le _, rfl, HB2⟩
       case round =>
        obtain ⟨k2, hk, rfl, HB3⟩ := hrel
        obtain ⟨w4, hw_⟩ : ∃ x, x = wr := ⟨_, rfl⟩
        subst hw_
        by_cases hlt : k2 < dN
        · have hkl : k2 < lD.length := by rw [← ZD.out]; exact hlt
          obtain ⟨gx, ox, cx, e, hgx, hcx⟩ := RD.out.form (by intro e; rw [e] at hkl; simp at hkl)
          injection e with f1 f2 f3
          replace f1 : xda = some ⟨gx, ox, none⟩ := f1
          subst f1
          obtain ⟨gy, oy, cy, e, hgy, hcy⟩ := QD.out.form (by intro e; rw [e] at hkl; simp at hkl)
          injection e with f4 f5 f6
          replace f4 : yda = some ⟨gy, oy, none⟩ := f4
          subst f4
          clear f2 f3 f5 f6
          have hbx := HB0.out.trans (HB3.out.mono HB0.out.size)
          have qx := hcx k2 hkl
          have qy := hcy k2 hkl
          generalize lD[k2] = y at qx qy
          have x0 : w4.cell? ⟨gx, ox + k2 * 2, none⟩ = some (I64 y.1) := (hbx.cell (p := ⟨gx, _, none⟩) hgx).trans (qx 0 _ rfl)
          have x1 : w4.cell? ⟨gx, ox + k2 * 2 + 1, none⟩ = some (.bool y.2) := (hbx.cell (p := ⟨gx, _, none⟩) hgx).trans (qx 1 _ rfl)
          have y0 : w4.cell? ⟨gy, oy + k2 * 2, none⟩ = some (I64 y.1) := (hbx.cell (p := ⟨gy, _, none⟩) hgy).trans (qy 0 _ rfl)
          have y1 : w4.cell? ⟨gy, oy + k2 * 2 + 1, none⟩ = some (.bool y.2) := (hbx.cell (p := ⟨gy, _, none⟩) hgy).trans (qy 1 _ rfl)
          have c1 := blk_cell ((HB3.out.block _ (lt_of_block HX.out.1)).trans HX.out.1) 6
          have c2 := blk_cell ((HB3.out.block _ (lt_of_block HX.out.2)).trans HX.out.2) 6
          simp only [List.getElem?_toArray, List.getElem?_cons_succ, List.getElem?_cons_zero] at c1 c2
          have hkI : (k2 : Int) < (dN : Int) := by omega
          have e1 : Try.prog.eqGuardType Try.prog.depth 66 = false := by kernel_rfl
          have hN := eqDl 9998 y y
          unfold aggDl at hN
          rw [decide_eq_true rfl] at hN
          clear hcx hcy qx qy hbx hgx hgy
          go_wp2_with fail
          go_quiet (fail)
          go_wp2_with fail
          refine ⟨⟨k2 + 1, hlt, by rw [show (k2 : Int) + 1 = ((k2 + 1 : Nat) : Int) by omega], HB3.out.trans ((below_drewN (.refl _ _) _).mono HB3.out.size)⟩, ?_⟩
          simp [intOf]
          omega
        · have hn : ¬ (k2 : Int) < (dN : Int) := by omega
          have c1 := blk_cell ((HB3.out.block _ (lt_of_block HX.out.1)).trans HX.out.1) 6
          simp only [List.getElem?_toArray, List.getElem?_cons_succ, List.getElem?_cons_zero] at c1
          have c2 : Hid True := trivial
          go_wp2_with fail
          clear c1 hn
          go_loopw [8] (fun iv wr => ∃ k : Nat, k ≤ wN ∧ iv = .int .i64 k ∧ Hid (Below wb.heap.size wb wr)) (fun iv _ => wN - (intOf iv).toNat)
          case atStart => exact ⟨0, Nat.zero_le _, rfl, HB3⟩
          case round =>
           obtain ⟨k3, hk, rfl, HB4⟩ := hrel
           obtain ⟨w5, hw_⟩ : ∃ x, x = wr := ⟨_, rfl⟩
           subst hw_
           by_cases hlt : k3 < wN
           · have hkl : k3 < lW.length := by rw [← ZW.out]; exact hlt
             obtain ⟨gx, ox, cx, e, hgx, hcx⟩ := RW.out.form (by intro e; rw [e] at hkl; simp at hkl)
             injection e with f1 f2 f3
             replace f1 : xwa = some ⟨gx, ox, none⟩ := f1
             subst f1
             obtain ⟨gy, oy, cy, e, hgy, hcy⟩ := QW.out.form (by intro e; rw [e] at hkl; simp at hkl)
             injection e with f4 f5 f6
             replace f4 : ywa = some ⟨gy, oy, none⟩ := f4
             subst f4
             clear f2 f3 f5 f6
             have hbx := HB0.out.trans (HB4.out.mono HB0.out.size)
             have qx := hcx k3 hkl
             have qy := hcy k3 hkl
             generalize lW[k3] = y at qx qy
             have x0 : w5.cell? ⟨gx, ox + k3 * 2, none⟩ = some (I64 y.1) := (hbx.cell (p := ⟨gx, _, none⟩) hgx).trans (qx 0 _ rfl)
             have x1 : w5.cell? ⟨gx, ox + k3 * 2 + 1, none⟩ = some (I64 y.2) := (hbx.cell (p := ⟨gx, _, none⟩) hgx).trans (qx 1 _ rfl)
             have y0 : w5.cell? ⟨gy, oy + k3 * 2, none⟩ = some (I64 y.1) := (hbx.cell (p := ⟨gy, _, none⟩) hgy).trans (qy 0 _ rfl)
             have y1 : w5.cell? ⟨gy, oy + k3 * 2 + 1, none⟩ = some (I64 y.2) := (hbx.cell (p := ⟨gy, _, none⟩) hgy).trans (qy 1 _ rfl)
             have c1 := blk_cell ((HB4.out.block _ (lt_of_block HX.out.1)).trans HX.out.1) 7
             have c2 := blk_cell ((HB4.out.block _ (lt_of_block HX.out.2)).trans HX.out.2) 7
             simp only [List.getElem?_toArray, List.getElem?_cons_succ, List.getElem?_cons_zero] at c1 c2
             have hkI : (k3 : Int) < (wN : Int) := by omega
             have e1 : Try.prog.eqGuardType Try.prog.depth 58 = false := by kernel_rfl
             have hN := eqWt 9998 y y
             unfold aggWt at hN
             rw [decide_eq_true rfl] at hN
             clear hcx hcy qx qy hbx hgx hgy
             go_wp2_with fail
             go_quiet (fail)
             go_wp2_with fail
             refine ⟨⟨k3 + 1, hlt, by rw [show (k3 : Int) + 1 = ((k3 + 1 : Nat) : Int) by omega], HB4.out.trans ((below_drewN (.refl _ _) _).mono HB4.out.size)⟩, ?_⟩
             simp [intOf]
             omega
           · have hn : ¬ (k3 : Int) < (wN : Int) := by omega
             have c1 := blk_cell ((HB4.out.block _ (lt_of_block HX.out.1)).trans HX.out.1) 7
             simp only [List.getElem?_toArray, List.getElem?_cons_succ, List.getElem?_cons_zero] at c1
             have c2 : Hid True := trivial
             go_wp2_with fail
             go_ret
             exact ⟨rfl, HB0.out.trans (HB4.out.mono HB0.out.size)⟩
set_option maxHeartbeats 4000000 in
set_option maxRecDepth 100000 in
set_option linter.unusedVariables false in
set_option linter.unusedSimpArgs false in
theorem same_true (s : Md.State) (u v : SlV) (w : World) (h1 : PoolsAt w (valS u) s.pools) (h2 : PoolsAt w (valS v) s.pools) (hs : ∀ p ∈ s.pools, PoolSmall p) (hlen : s.pools.length ≤ 1000) : Calls Try.prog 22 #[.agg #[I64 s.now, .bool s.shut, valS u], .agg #[I64 s.now, .bool s.shut, valS v]] w fun e w' => e = .returned (.bool true) ∧ Below w.heap.size w w' := by
 obtain ⟨pvs, hr1⟩ := rd_of h1
 obtain ⟨qvs, hr2⟩ := rd_of h2
 have hu := pools_len h1
 have hv := pools_len h2
 obtain ⟨xa, xm, xc⟩ := u
 obtain ⟨ya, xn, yc⟩ := v
 dsimp only at hu hv
 rw [← hu] at hv
 subst hv
 have HU := Lib.hid hu
 obtain ⟨nn, ns, ps⟩ := s
 dsimp only at *
 have hxn : xn ≤ 1000 := by omega
 have HR1 := Lib.hid hr1
 have HR2 := Lib.hid hr2
 have HSM := Lib.hid hs
 have hb0 := ((Below.refl w.heap.size w).alloc (Nat.le_refl _) (.cells #[I64 nn, .bool ns, .slice xa xn xc] 26)).alloc (by simp) (.cells #[I64 nn, .bool ns, .slice ya xn yc] 26)
 have HB0 := Lib.hid hb0
 obtain ⟨wb, hwb⟩ : ∃ x, x = ((w.alloc (.cells #[I64 nn, .bool ns, .slice xa xn xc] 26)).alloc (.cells #[I64 nn, .bool ns, .slice ya xn yc] 26)) := ⟨_, rfl⟩
 obtain ⟨B, hB⟩ : ∃ x, x = w.heap.size := ⟨_, rfl⟩
 have hx : wb.heap[B]? = some (.cells #[I64 nn, .bool ns, .slice xa xn xc] 26) ∧ wb.heap[B + 1]? = some (.cells #[I64 nn, .bool ns, .slice ya xn yc] 26) := by
  have b1 := blk_new w (.cells #[I64 nn, .bool ns, .slice xa xn xc] 26)
  have b2 := blk_new (w.alloc (.cells #[I64 nn, .bool ns, .slice xa xn xc] 26)) (.cells #[I64 nn, .bool ns, .slice ya xn yc] 26)
  have s1 : (w.alloc (.cells #[I64 nn, .bool ns, .slice xa xn xc] 26)).heap.size = B + 1 := by rw [hB]; simp
  have c2 := (Below.refl (w.alloc (.cells #[I64 nn, .bool ns, .slice xa xn xc] 26)).heap.size (w.alloc (.cells #[I64 nn, .bool ns, .slice xa xn xc] 26))).alloc (Nat.le_refl _) (.cells #[I64 nn, .bool ns, .slice ya xn yc] 26)
  have zd1 := (c2.block _ (by rw [s1, hB]; omega)).trans b1
  rw [s1] at b2
  rw [← hwb] at b2 zd1
  rw [← hB] at zd1
  exact ⟨zd1, b2⟩
 have HX := Lib.hid hx
 rw [← hwb] at HB0
 clear h1 h2 hu hlen hs hr1 hr2 hb0 hx
 unfold valS
 dsimp only
 go_enter Try.func22, Try.ntmps22
 go_wp2_with fail
 simp only [← hwb, ← hB]
 clear hwb hB
 go_loopw [5] (fun iv wr => ∃ k : Nat, k ≤ xn ∧ iv = .int .i64 k ∧ Hid (Below wb.heap.size wb wr)) (fun iv _ => xn - (intOf iv).toNat)
 case atStart => exact ⟨0, Nat.zero_le _, rfl, Lib.hid (Below.refl _ _)⟩
 case round =>
  obtain ⟨k, hk, rfl, HB⟩ := hrel
  obtain ⟨w2, hw_⟩ : ∃ x, x = wr := ⟨_, rfl⟩
  subst hw_
  by_cases hlt : k < xn
  · have hkl : k < ps.length := by rw [← HU.out]; exact hlt
    have k1 : k < pvs.length := by rw [HR1.out.2.1]; exact hkl
    have k2 : k < qvs.length := by rw [HR2.out.2.1]; exact hkl
    obtain ⟨gx, ox, cx, e, _, hcx⟩ := HR1.out.1.form (by intro e; rw [e] at k1; simp at k1)
    unfold valS at e
    injection e with f1 f2 f3
    replace f1 : xa = some ⟨gx, ox, none⟩ := f1
    subst f1
    obtain ⟨gy, oy, cy, e, _, hcy⟩ := HR2.out.1.form (by intro e; rw [e] at k2; simp at k2)
    unfold valS at e
    injection e with f4 f5 f6
    replace f4 : ya = some ⟨gy, oy, none⟩ := f4
    subst f4
    clear f2 f3 f5 f6
    have rx := HR1.out.2.2 k k1 hkl
    have ry := HR2.out.2.2 k k2 hkl
    have hsm := HSM.out _ (List.getElem_mem hkl)
    have qx : P11 gx (ox + k * 11) pvs[k] w := hcx k k1
    have qy : P11 gy (oy + k * 11) qvs[k] w := hcy k k2
    generalize ps[k] = p at rx ry hsm
    generalize pvs[k] = pv at rx qx
    generalize qvs[k] = qv at ry qy
    have RX := Lib.hid rx
    have RY := Lib.hid ry
    have HSP := Lib.hid hsm
    have QX := Lib.hid qx
    have QY := Lib.hid qy
    obtain ⟨⟨m1, q1, i1, a1⟩, ⟨b1, n1, c1⟩, ⟨b2, n2, c2⟩, ⟨b3, n3, c3⟩, ⟨b4, n4, c4⟩, u1, r1, p1⟩ := pv
    obtain ⟨⟨m2, q2, i2, a2⟩, ⟨zd1, ze1, zc1⟩, ⟨zd2, ze2, zc2⟩, ⟨zd3, ze3, zc3⟩, ⟨zd4, ze4, zc4⟩, u2, r2, p2⟩ := qv
    have HCL : Hid (∀ w1, Below w2.heap.size w2 w1 → (w1.cell? ⟨B, 2, none⟩ = some (.slice (some ⟨gx, ox, none⟩) xn xc) ∧ w1.cell? ⟨B + 1, 2, none⟩ = some (.slice (some ⟨gy, oy, none⟩) xn yc)) ∧ (w1.cell? ⟨gx, ox + k * 11, none⟩ = some (I64 m1) ∧ w1.cell? ⟨gx, ox + k * 11 + 1, none⟩ = some (I64 q1) ∧ w1.cell? ⟨gx, ox + k * 11 + 2, none⟩ = some (I64 i1) ∧ w1.cell? ⟨gx, ox + k * 11 + 3, none⟩ = some (I64 a1) ∧ w1.cell? ⟨gx, ox + k * 11 + 4, none⟩ = some (.slice b1 n1 c1) ∧ w1.cell? ⟨gx, ox + k * 11 + 5, none⟩ = some (.slice b2 n2 c2) ∧ w1.cell? ⟨gx, ox + k * 11 + 6, none⟩ = some (.slice b3 n3 c3) ∧ w1.cell? ⟨gx, ox + k * 11 + 7, none⟩ = some (.slice b4 n4 c4) ∧ w1.cell? ⟨gx, ox + k * 11 + 8, none⟩ = some (.bool u1) ∧ w1.cell? ⟨gx, ox + k * 11 + 9, none⟩ = some (I64 r1) ∧ w1.cell? ⟨gx, ox + k * 11 + 10, none⟩ = some (I64 p1)) ∧ (w1.cell? ⟨gy, oy + k * 11, none⟩ = some (I64 m2) ∧ w1.cell? ⟨gy, oy + k * 11 + 1, none⟩ = some (I64 q2) ∧ w1.cell? ⟨gy, oy + k * 11 + 2, none⟩ = some (I64 i2) ∧ w1.cell? ⟨gy, oy + k * 11 + 3, none⟩ = some (I64 a2) ∧ w1.cell? ⟨gy, oy + k * 11 + 4, none⟩ = some (.slice zd1 ze1 zc1) ∧ w1.cell? ⟨gy, oy + k * 11 + 5, none⟩ = some (.slice zd2 ze2 zc2) ∧ w1.cell? ⟨gy, oy + k * 11 + 6, none⟩ = some (.slice zd3 ze3 zc3) ∧ w1.cell? ⟨gy, oy + k * 11 + 7, none⟩ = some (.slice zd4 ze4 zc4) ∧ w1.cell? ⟨gy, oy + k * 11 + 8, none⟩ = some (.bool u2) ∧ w1.cell? ⟨gy, oy + k * 11 + 9, none⟩ = some (I64 r2) ∧ w1.cell? ⟨gy, oy + k * 11 + 10, none⟩ = some (I64 p2))) := fun w1 h1 => by
     have hb1 := HB.out.trans (h1.mono HB.out.size)
     have hb2 := HB0.out.trans (hb1.mono HB0.out.size)
     have fx : ∀ i v, (encP ⟨⟨m1, q1, i1, a1⟩, (b1, n1, c1), (b2, n2, c2), (b3, n3, c3), (b4, n4, c4), u1, r1, p1⟩)[i]? = some v → w1.cell? ⟨gx, ox + k * 11 + i, none⟩ = some v := fun i v hv => (hb2.cell (p := ⟨gx, _, none⟩) (cell_lt (QX.out i v hv))).trans (QX.out i v hv)
     have fy : ∀ i v, (encP ⟨⟨m2, q2, i2, a2⟩, (zd1, ze1, zc1), (zd2, ze2, zc2), (zd3, ze3, zc3), (zd4, ze4, zc4), u2, r2, p2⟩)[i]? = some v → w1.cell? ⟨gy, oy + k * 11 + i, none⟩ = some v := fun i v hv => (hb2.cell (p := ⟨gy, _, none⟩) (cell_lt (QY.out i v hv))).trans (QY.out i v hv)
     refine ⟨⟨?_, ?_⟩, ⟨fx 0 _ rfl, fx 1 _ rfl, fx 2 _ rfl, fx 3 _ rfl, fx 4 _ rfl, fx 5 _ rfl, fx 6 _ rfl, fx 7 _ rfl, fx 8 _ rfl, fx 9 _ rfl, fx 10 _ rfl⟩, ⟨fy 0 _ rfl, fy 1 _ rfl, fy 2 _ rfl, fy 3 _ rfl, fy 4 _ rfl, fy 5 _ rfl, fy 6 _ rfl, fy 7 _ rfl, fy 8 _ rfl, fy 9 _ rfl, fy 10 _ rfl⟩⟩
     · exact blk_cell ((hb1.block _ (lt_of_block HX.out.1)).trans HX.out.1) 2
     · exact blk_cell ((hb1.block _ (lt_of_block HX.out.2)).trans HX.out.2) 2
    have HSAME : Hid (∀ w1, Below w2.heap.size w2 w1 → Calls Try.prog 38 #[.agg #[I64 m1, I64 q1, I64 i1, I64 a1, .slice b1 n1 c1, .slice b2 n2 c2, .slice b3 n3 c3, .slice b4 n4 c4, .bool u1, I64 r1, I64 p1], .agg #[I64 m2, I64 q2, I64 i2, I64 a2, .slice zd1 ze1 zc1, .slice zd2 ze2 zc2, .slice zd3 ze3 zc3, .slice zd4 ze4 zc4, .bool u2, I64 r2, I64 p2]] w1 fun e w' => e = .returned (.bool true) ∧ Below w1.heap.size w1 w') := fun w1 h1 => by
     have hb1 := HB.out.trans (h1.mono HB.out.size)
     have hb2 := HB0.out.trans (hb1.mono HB0.out.size)
     have q := sameP_true p ⟨⟨m1, q1, i1, a1⟩, (b1, n1, c1), (b2, n2, c2), (b3, n3, c3), (b4, n4, c4), u1, r1, p1⟩ ⟨⟨m2, q2, i2, a2⟩, (zd1, ze1, zc1), (zd2, ze2, zc2), (zd3, ze3, zc3), (zd4, ze4, zc4), u2, r2, p2⟩ w1 (RX.out.below hb2) (RY.out.below hb2) HSP.out
     unfold aggP encP valS at q
     dsimp only at q
     exact q
    have hkI : (k : Int) < (xn : Int) := by omega
    obtain ⟨⟨t1, t2⟩, -, -⟩ := HCL.out w2 (.refl _ _)
    clear hcx hcy rx ry hsm qx qy hkl k1 k2
    go_wp2_with fail
    clear t1 t2
    refine wp_region_held_drew (S := fun w1 => Hid (Below w2.heap.size w2 w1)) (by kernel_rfl) ((Below.refl _ _).drew) (fun hH0 => ?_)
    refine wpAnyH_take (i := 0) (oi := _) (v := ?vv0_1) (dropAt (r := _) rfl) (by kernel_rfl) (by kernel_rfl) (by kernel_rfl) (fun _ _ _ h => h) (Or.inl ⟨by rfl, ?hv0_1⟩) hH0 ?rv0_1
    case hv0_1 => (intro w hSw; obtain ⟨⟨t1, t2⟩, ⟨x0, x1, x2, x3, x4, x5, x6, x7, x8, x9, x10⟩, ⟨y0, y1, y2, y3, y4, y5, y6, y7, y8, y9, y10⟩⟩ := HCL.out _ hSw.out; go_simp; first | done | with_reducible rfl)
    try simp only [Act.put, List.setIfInBounds_toArray, List.set_cons_zero, List.set_cons_succ]
    refine wpAnyH_take (i := 1) (oi := _) (v := ?vv1_2) (dropAt (r := _) rfl) (by kernel_rfl) (by kernel_rfl) (by kernel_rfl) (fun _ _ _ h => h) (Or.inl ⟨by rfl, ?hv1_2⟩) hH0 ?rv1_2
    case hv1_2 => (intro w hSw; obtain ⟨⟨t1, t2⟩, ⟨x0, x1, x2, x3, x4, x5, x6, x7, x8, x9, x10⟩, ⟨y0, y1, y2, y3, y4, y5, y6, y7, y8, y9, y10⟩⟩ := HCL.out _ hSw.out; go_simp; first | done | with_reducible rfl)
    try simp only [Act.put, List.setIfInBounds_toArray, List.set_cons_zero, List.set_cons_succ]
    refine wpAnyH_take (i := 2) (oi := _) (v := ?vv2_3) (dropAt (r := _) rfl) (by kernel_rfl) (by kernel_rfl) (by kernel_rfl) (fun _ _ _ h => h) (Or.inl ⟨by rfl, ?hv2_3⟩) hH0 ?rv2_3
    case hv2_3 => (intro w hSw; obtain ⟨⟨t1, t2⟩, ⟨x0, x1, x2, x3, x4, x5, x6, x7, x8, x9, x10⟩, ⟨y0, y1, y2, y3, y4, y5, y6, y7, y8, y9, y10⟩⟩ := HCL.out _ hSw.out; go_simp; first | done | with_reducible rfl)
    try simp only [Act.put, List.setIfInBounds_toArray, List.set_cons_zero, List.set_cons_succ]
    refine wpAnyH_take (i := 3) (oi := _) (v := ?vv3_4) (dropAt (r := _) rfl) (by kernel_rfl) (by kernel_rfl) (by kernel_rfl) (fun _ _ _ h => h) (Or.inl ⟨by rfl, ?hv3_4⟩) hH0 ?rv3_4
    case hv3_4 => (intro w hSw; obtain ⟨⟨t1, t2⟩, ⟨x0, x1, x2, x3, x4, x5, x6, x7, x8, x9, x10⟩, ⟨y0, y1, y2, y3, y4, y5, y6, y7, y8, y9, y10⟩⟩ := HCL.out _ hSw.out; go_simp; first | done | with_reducible rfl)
    try simp only [Act.put, List.setIfInBounds_toArray, List.set_cons_zero, List.set_cons_succ]
    refine wpAnyH_take (i := 4) (oi := _) (v := ?vv4_5) (dropAt (r := _) rfl) (by kernel_rfl) (by kernel_rfl) (by kernel_rfl) (fun _ _ _ h => h) (Or.inl ⟨by rfl, ?hv4_5⟩) hH0 ?rv4_5
    case hv4_5 => (intro w hSw; obtain ⟨⟨t1, t2⟩, ⟨x0, x1, x2, x3, x4, x5, x6, x7, x8, x9, x10⟩, ⟨y0, y1, y2, y3, y4, y5, y6, y7, y8, y9, y10⟩⟩ := HCL.out _ hSw.out; go_simp; first | done | with_reducible rfl)
    try simp only [Act.put, List.setIfInBounds_toArray, List.set_cons_zero, List.set_cons_succ]
    refine wpAnyH_take (i := 5) (oi := _) (v := ?vv5_6) (dropAt (r := _) rfl) (by kernel_rfl) (by kernel_rfl) (by kernel_rfl) (fun _ _ _ h => h) (Or.inl ⟨by rfl, ?hv5_6⟩) hH0 ?rv5_6
    case hv5_6 => (intro w hSw; obtain ⟨⟨t1, t2⟩, ⟨x0, x1, x2, x3, x4, x5, x6, x7, x8, x9, x10⟩, ⟨y0, y1, y2, y3, y4, y5, y6, y7, y8, y9, y10⟩⟩ := HCL.out _ hSw.out; go_simp; first | done | with_reducible rfl)
    try simp only [Act.put, List.setIfInBounds_toArray, List.set_cons_zero, List.set_cons_succ]
    refine wpAnyH_take (i := 6) (oi := _) (v := ?vv6_7) (dropAt (r := _) rfl) (by kernel_rfl) (by kernel_rfl) (by kernel_rfl) (fun _ _ _ h => h) (Or.inl ⟨by rfl, ?hv6_7⟩) hH0 ?rv6_7
    case hv6_7 => (intro w hSw; obtain ⟨⟨t1, t2⟩, ⟨x0, x1, x2, x3, x4, x5, x6, x7, x8, x9, x10⟩, ⟨y0, y1, y2, y3, y4, y5, y6, y7, y8, y9, y10⟩⟩ := HCL.out _ hSw.out; go_simp; first | done | with_reducible rfl)
    try simp only [Act.put, List.setIfInBounds_toArray, List.set_cons_zero, List.set_cons_succ]
    refine wpAnyH_take (i := 7) (oi := _) (v := ?vv7_8) (dropAt (r := _) rfl) (by kernel_rfl) (by kernel_rfl) (by kernel_rfl) (fun _ _ _ h => h) (Or.inl ⟨by rfl, ?hv7_8⟩) hH0 ?rv7_8
    case hv7_8 => (intro w hSw; obtain ⟨⟨t1, t2⟩, ⟨x0, x1, x2, x3, x4, x5, x6, x7, x8, x9, x10⟩, ⟨y0, y1, y2, y3, y4, y5, y6, y7, y8, y9, y10⟩⟩ := HCL.out _ hSw.out; go_simp; first | done | with_reducible rfl)
    try simp only [Act.put, List.setIfInBounds_toArray, List.set_cons_zero, List.set_cons_succ]
    refine wpAnyH_take (i := 8) (oi := _) (v := ?vv8_9) (dropAt (r := _) rfl) (by kernel_rfl) (by kernel_rfl) (by kernel_rfl) (fun _ _ _ h => h) (Or.inl ⟨by rfl, ?hv8_9⟩) hH0 ?rv8_9
    case hv8_9 => (intro w hSw; obtain ⟨⟨t1, t2⟩, ⟨x0, x1, x2, x3, x4, x5, x6, x7, x8, x9, x10⟩, ⟨y0, y1, y2, y3, y4, y5, y6, y7, y8, y9, y10⟩⟩ := HCL.out _ hSw.out; go_simp; first | done | with_reducible rfl)
    try simp only [Act.put, List.setIfInBounds_toArray, List.set_cons_zero, List.set_cons_succ]
    refine wpAnyH_take (i := 9) (oi := _) (v := ?vv9_10) (dropAt (r := _) rfl) (by kernel_rfl) (by kernel_rfl) (by kernel_rfl) (fun _ _ _ h => h) (Or.inl ⟨by rfl, ?hv9_10⟩) hH0 ?rv9_10
    case hv9_10 => (intro w hSw; obtain ⟨⟨t1, t2⟩, ⟨x0, x1, x2, x3, x4, x5, x6, x7, x8, x9, x10⟩, ⟨y0, y1, y2, y3, y4, y5, y6, y7, y8, y9, y10⟩⟩ := HCL.out _ hSw.out; go_simp; first | done | with_reducible rfl)
    try simp only [Act.put, List.setIfInBounds_toArray, List.set_cons_zero, List.set_cons_succ]
    refine wpAnyH_ready (rs := [10]) (by kernel_rfl) (by simp) ?_
    refine AllReadyH.cons (o := _) (dropAt (r := _) rfl) (fun K hK => ?_) AllReadyH.nil
    go_simp
    refine (HSAME.out _ hH0.out).mono ?_
    rintro e w9 ⟨rfl, hb9⟩
    have hB9 : Hid (Below w2.heap.size w2 w9) := hH0.out.trans (hb9.mono hH0.out.size)
    refine hK.out _ _ hB9 (fun hH9 => ?_)
    clear hK K hb9
    try simp only [Act.put, List.setIfInBounds_toArray, List.set_cons_zero, List.set_cons_succ]
    refine wpAnyH_take (i := 11) (oi := _) (v := ?vv11_11) (dropAt (r := _) rfl) (by kernel_rfl) (by kernel_rfl) (by kernel_rfl) (fun _ _ _ h => h) (Or.inl ⟨by rfl, ?hv11_11⟩) hH9 ?rv11_11
    case hv11_11 => (intro w hSw; go_simp; first | done | with_reducible rfl)
    try simp only [Act.put, List.setIfInBounds_toArray, List.set_cons_zero, List.set_cons_succ]
    refine wpAnyH_done (by kernel_rfl) ?_ _
    go_wp2_with fail
    refine ⟨⟨k + 1, hlt, by rw [show (k : Int) + 1 = ((k + 1 : Nat) : Int) by omega], HB.out.trans (hB9.out.mono HB.out.size)⟩, ?_⟩
    simp [intOf]
    omega
  · have hn : ¬ (k : Int) < (xn : Int) := by omega
    have t1 := blk_cell ((HB.out.block _ (lt_of_block HX.out.1)).trans HX.out.1) 2
    simp only [List.getElem?_toArray, List.getElem?_cons_succ, List.getElem?_cons_zero] at t1
    go_wp2_with fail
    go_ret
    exact ⟨rfl, HB0.out.trans (HB.out.mono HB0.out.size)⟩
end Go.Proofs.Ytaicmiadgnpimaa
