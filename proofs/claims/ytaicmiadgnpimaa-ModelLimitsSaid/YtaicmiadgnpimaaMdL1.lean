/-
  The law ModelLimits of layer 26.
-/
import Derived.Test.YtaicmiadgnpimaaMdL0
import Derived.Deep.DeepCutAuto
import Derived.Deep.CutRange
namespace Go.Proofs.Ytaicmiadgnpimaa
open Go.RowKit

set_option maxHeartbeats 8000000 in
set_option maxRecDepth 100000 in
set_option linter.unusedVariables false in
set_option linter.unusedSimpArgs false in
theorem limits_no (lims : List Md.Lim) (u : SlV) (acts : List (Md.Call × Int)) (v : SlV) (w : World) (h : ReadsL 4 encLim w (valS u) lims) (h2 : ReadsL 9 encAct w (valS v) acts) (hE : (Md.new lims).2 ≠ 0) :
 Calls Try.prog 3 #[valS u, valS v] w fun e w' => e = .returned (.bool true) ∧ Below w.heap.size w w' := by
 have HB := Lib.hid (begun_no lims u w h hE)
 obtain ⟨ua, un, uc⟩ := u
 obtain ⟨va, vn, vc⟩ := v
 have hun := read_len h
 have hvn := read_len h2
 dsimp only at hun hvn
 unfold valS at *
 dsimp only at *
 clear h h2 hE hun hvn
 go_enter Try.func3, Try.ntmps3
 go_wp2_with fail
 refine HB.out.mono ?_
 rintro e w2 ⟨⟨pa, pn, pc⟩, rfl, -, hb2⟩
 dsimp only
 obtain ⟨nn, hnn⟩ : ∃ x, x = (Md.new lims).1.now := ⟨_, rfl⟩
 obtain ⟨ns, hns⟩ : ∃ x, x = (Md.new lims).1.shut := ⟨_, rfl⟩
 rw [← hnn, ← hns]
 clear hnn hns
 have ha := (Below.refl w2.heap.size w2).alloc (Nat.le_refl _) (.cells #[I64 nn, .bool ns, .slice pa pn pc] 26)
 have HA := Lib.hid (hb2.trans (ha.mono hb2.size))
 clear hb2 ha
 go_wp2_with fail
 refine (awake_any _).mono ?_
 rintro e w3 ⟨rfl, hb3⟩
 have HF := Lib.hid (HA.out.trans (hb3.mono HA.out.size))
 clear hb3
 go_wp2
 go_ret
 exact ⟨rfl, HF.out⟩
set_option maxHeartbeats 8000000 in
set_option maxRecDepth 100000 in
set_option linter.unusedVariables false in
set_option linter.unusedSimpArgs false in
theorem limits_far (lims : List Md.Lim) (u : SlV) (acts : List (Md.Call × Int)) (v : SlV) (w : World) (h : ReadsL 4 encLim w (valS u) lims) (h2 : ReadsL 9 encAct w (valS v) acts) (hE : (Md.new lims).2 = 0) (hbig : 80 < acts.length) :
 Calls Try.prog 3 #[valS u, valS v] w fun e w' => e = .returned (.bool true) ∧ Below w.heap.size w w' := by
 have HB := Lib.hid (begun_ok lims u w h hE)
 have hsh := new_short hE
 obtain ⟨ua, un, uc⟩ := u
 obtain ⟨va, vn, vc⟩ := v
 have hun := read_len h
 have hvn := read_len h2
 dsimp only at hun hvn
 have hz1 : decide ((80 : Int) < (vn : Int)) = true := decide_eq_true (by omega)
 unfold valS at *
 dsimp only at *
 clear h h2 hE hun hvn hbig hsh
 go_enter Try.func3, Try.ntmps3
 go_wp2_with fail
 refine HB.out.mono ?_
 rintro e w2 ⟨⟨pa, pn, pc⟩, rfl, -, hb2⟩
 dsimp only
 obtain ⟨nn, hnn⟩ : ∃ x, x = (Md.new lims).1.now := ⟨_, rfl⟩
 obtain ⟨ns, hns⟩ : ∃ x, x = (Md.new lims).1.shut := ⟨_, rfl⟩
 rw [← hnn, ← hns]
 clear hnn hns
 have ha := (Below.refl w2.heap.size w2).alloc (Nat.le_refl _) (.cells #[I64 nn, .bool ns, .slice pa pn pc] 26)
 have HA := Lib.hid (hb2.trans (ha.mono hb2.size))
 clear hb2 ha
 go_wp2_with fail
 refine (awake_any _).mono ?_
 rintro e w3 ⟨rfl, hb3⟩
 have HF := Lib.hid (HA.out.trans (hb3.mono HA.out.size))
 clear hb3
 go_wp2
 go_ret
 exact ⟨rfl, HF.out⟩
set_option maxHeartbeats 8000000 in
set_option maxRecDepth 100000 in
set_option linter.unusedVariables false in
set_option linter.unusedSimpArgs false in
theorem limits_loop (lims : List Md.Lim) (u : SlV) (acts : List (Md.Call × Int)) (v : SlV) (w : World) (h : ReadsL 4 encLim w (valS u) lims) (h2 : ReadsL 9 encAct w (valS v) acts) (hE : (Md.new lims).2 = 0) (hbig : acts.length ≤ 80) (hin : ∀ x ∈ acts, ActIn x) :
 Calls Try.prog 3 #[valS u, valS v] w fun e w' => e = .returned (.bool true) ∧ Below w.heap.size w w' := by
 have HB := Lib.hid (begun_ok lims u w h hE)
 have hsh := new_short hE
 obtain ⟨hgc, hgl, hgm⟩ := Md.new_good hE
 have HG0 := Lib.hid (Md.check_ok.1 hgc)
 have HB0 := Lib.hid (new_bnd hE)
 have HM0 := Lib.hid hgm
 obtain ⟨ua, un, uc⟩ := u
 obtain ⟨va, vn, vc⟩ := v
 have hun := read_len h
 have hvn := read_len h2
 dsimp only at hun hvn
 have hz1 : decide ((80 : Int) < (vn : Int)) = false := decide_eq_false (by omega)
 have hz2 : decide ((16 : Int) < (un : Int)) = false := decide_eq_false (by omega)
 have hvn80 : vn ≤ 80 := by omega
 have hun16 : un ≤ 16 := by omega
 unfold valS at *
 dsimp only at *
 have HU := Lib.hid h
 have HV := Lib.hid h2
 have HUN := Lib.hid hun
 have HVN := Lib.hid hvn
 have HIN := Lib.hid hin
 generalize (Md.new lims).1 = s0 at *
 obtain ⟨nn, hnn⟩ : ∃ x, x = s0.now := ⟨_, rfl⟩
 obtain ⟨ns, hns⟩ : ∃ x, x = s0.shut := ⟨_, rfl⟩
 rw [← hnn, ← hns] at HB
 have HNN := Lib.hid hnn
 have HNS := Lib.hid hns
 clear h h2 hE hun hvn hbig hsh hgc hgl hgm hin hnn hns
 go_enter Try.func3, Try.ntmps3
 go_wp2_with fail
 refine HB.out.mono ?_
 rintro e w2 ⟨⟨pa, pn, pc⟩, rfl, hlies, hb2⟩
 dsimp only at hlies ⊢
 have ha := (Below.refl w2.heap.size w2).alloc (Nat.le_refl _) (.cells #[I64 nn, .bool ns, .slice pa pn pc] 26)
 obtain ⟨w5, hw5⟩ : ∃ x, x = w2.alloc (.cells #[I64 nn, .bool ns, .slice pa pn pc] 26) := ⟨_, rfl⟩
 obtain ⟨T, hT⟩ : ∃ x, x = w2.heap.size := ⟨_, rfl⟩
 have hn5 := blk_new w2 (.cells #[I64 nn, .bool ns, .slice pa pn pc] 26)
 rw [← hw5] at ha hn5
 have HB5 := Lib.hid (hb2.trans (ha.mono hb2.size))
 have HL0 : Hid (LawAt w5 T s0 (pa, pn, pc) w5) := LawAt.start HG0.out HB0.out hlies ha (by omega) (by rw [hT, ← HNN.out, ← HNS.out]; exact hn5)
 have HTW : Hid (w.heap.size ≤ T) := by
  show _ ≤ _
  rw [hT]
  exact hb2.size
 clear hlies hb2 ha hn5
 go_wp2_with fail
 simp only [← hw5, ← hT]
 clear hw5 hT
 go_loopw [7, 8, 9, 10, 11, 12, 13, 14, 15] (fun iv _ _ _ _ _ _ _ _ wr => ∃ i : Nat, ∃ s : Md.State, ∃ xa xn xc, i ≤ vn ∧ iv = .int .i64 i ∧ Hid (LawAt w5 T s (xa, xn, xc) wr) ∧ Hid (s.pools.map (·.lim) = lims)) (fun iv _ _ _ _ _ _ _ _ _ => vn - (intOf iv).toNat)
 case atStart => exact ⟨0, s0, pa, pn, pc, Nat.zero_le _, rfl, HL0, HM0⟩
 case round =>
  obtain ⟨i, s, xa, xn, xc, hiN, rfl, HA, HM⟩ := hrel
  by_cases hlt : i < vn
  · have hiv : i < acts.length := by rw [← HVN.out]; exact hlt
    have hbw : Below w.heap.size w wr := HB5.out.trans (HA.out.gb.below HB5.out.size (fun j (q : j = T) => by rw [q]; exact HTW.out))
    have HBW := Lib.hid hbw
    obtain ⟨ga, oa, ca, e, _, hca⟩ := HV.out.form (by intro e; rw [e] at hiv; simp at hiv)
    injection e with e1 e2 e3
    replace e1 : va = some ⟨ga, oa, none⟩ := e1
    subst e1
    clear e2 e3
    have hrowa := hca i hiv
    have hx := HIN.out _ (List.getElem_mem hiv)
    generalize acts[i] = x at hrowa hx
    obtain ⟨c, pk⟩ := x
    have hxl : ∀ j v, (encAct (c, pk))[j]? = some v → w.cell? ⟨ga, oa + i * 9 + j, none⟩ = some v := hrowa
    have HXL := Lib.hid hxl
    have HX := Lib.hid hx
    have HCL : Hid (∀ w1, Below wr.heap.size wr w1 → S3 T s.now s.shut (.slice xa xn xc) w1 ∧ C8 ga (oa + i * 9) c w1 ∧ w1.cell? ⟨ga, oa + i * 9 + 8, none⟩ = some (.int .u8 pk)) := fun w1 h1 => by
     have b0 := (h1.block _ (lt_of_block HA.out.st)).trans HA.out.st
     have hb1 := HBW.out.trans (h1.mono HBW.out.size)
     have hcc : ∀ j v, (encAct (c, pk))[j]? = some v → w1.cell? ⟨ga, oa + i * 9 + j, none⟩ = some v := fun j v hv => (hb1.cell (p := ⟨ga, _, none⟩) (cell_lt (HXL.out j v hv))).trans (HXL.out j v hv)
     exact ⟨⟨blk_cell b0 0, blk_cell b0 1, blk_cell b0 2⟩, ⟨hcc 0 _ rfl, hcc 1 _ rfl, hcc 2 _ rfl, hcc 3 _ rfl, hcc 4 _ rfl, hcc 5 _ rfl, hcc 6 _ rfl, hcc 7 _ rfl⟩, hcc 8 _ rfl⟩
    have HPL : Hid (∀ w1, Below wr.heap.size wr w1 → Calls Try.prog 10 #[.agg #[I64 s.now, .bool s.shut, .slice xa xn xc], .agg #[I64 c.kind, I64 c.backend, I64 c.call, I64 c.conn, I64 c.time, .bool c.yes, I64 c.skip, I64 c.breaker, .int .u8 pk]] w1 fun e w' => ∃ nn ns nv r ev dn, e = .returned (.tuple #[.agg #[I64 nn, .bool ns, .slice nv.1 nv.2.1 nv.2.2], .agg #[I64 r.1, I64 r.2.1, I64 r.2.2], .slice ev.1 ev.2.1 ev.2.2, .bool dn]) ∧ PlPost s c (fun i => i < w1.heap.size) nn ns nv r ev dn w' ∧ Below w1.heap.size w1 w') := fun w1 h1 => played_any c pk s (xa, xn, xc) w1 (HA.out.sta h1) HX.out.p0 HX.out.p1
    have hltI : (i : Int) < (vn : Int) := by omega
    clear hbw hca hrowa hx hxl
    go_upto_region 7 with fail
    go_cut [8, 9, 10, 11] from 34 to 189 (fun v8 v9 v10 v11 wx => ∃ T8 T9 nn ns nv r ev dn, v8 = .pointer (some ⟨T8, 0, none⟩) ∧ v9 = .pointer (some ⟨T9, 0, none⟩) ∧ v10 = .slice ev.1 ev.2.1 ev.2.2 ∧ v11 = .bool dn ∧ Hid (RegOut wr s c nn ns nv r ev dn T8 T9 wx))
    case first =>
     as_aux_lemma =>
      refine wp_region_held_drew (S := fun w1 => Hid (Below wr.heap.size wr w1)) (by kernel_rfl) ((Below.refl _ _).drew) (fun hH0 => ?_)
      refine tk 0 (v := ?vv0_1) (dropAt rfl) (Or.inl ⟨by rfl, ?hv0_1⟩) hH0 ?rv0_1
      case hv0_1 => (intro w hSw; obtain ⟨⟨s0_, s1_, s2_⟩, ⟨c0, c1, c2, c3, c4, c5, c6, c7⟩, c8⟩ := HCL.out _ hSw.out; go_simp; first | done | with_reducible rfl)
      try simp only [Act.put, pu2, pu3, pu4]
      refine tk 1 (v := ?vv1_2) (dropAt rfl) (Or.inl ⟨by rfl, ?hv1_2⟩) hH0 ?rv1_2
      case hv1_2 => (intro w hSw; obtain ⟨⟨s0_, s1_, s2_⟩, ⟨c0, c1, c2, c3, c4, c5, c6, c7⟩, c8⟩ := HCL.out _ hSw.out; go_simp; first | done | with_reducible rfl)
      try simp only [Act.put, pu2, pu3, pu4]
      refine tk 2 (v := ?vv2_3) (dropAt rfl) (Or.inl ⟨by rfl, ?hv2_3⟩) hH0 ?rv2_3
      case hv2_3 => (intro w hSw; obtain ⟨⟨s0_, s1_, s2_⟩, ⟨c0, c1, c2, c3, c4, c5, c6, c7⟩, c8⟩ := HCL.out _ hSw.out; go_simp; first | done | with_reducible rfl)
      try simp only [Act.put, pu2, pu3, pu4]
      refine tk 3 (v := ?vv3_4) (dropAt rfl) (Or.inl ⟨by rfl, ?hv3_4⟩) hH0 ?rv3_4
      case hv3_4 => (intro w hSw; obtain ⟨⟨s0_, s1_, s2_⟩, ⟨c0, c1, c2, c3, c4, c5, c6, c7⟩, c8⟩ := HCL.out _ hSw.out; go_simp; first | done | with_reducible rfl)
      try simp only [Act.put, pu2, pu3, pu4]
      refine tk 4 (v := ?vv4_5) (dropAt rfl) (Or.inl ⟨by rfl, ?hv4_5⟩) hH0 ?rv4_5
      case hv4_5 => (intro w hSw; obtain ⟨⟨s0_, s1_, s2_⟩, ⟨c0, c1, c2, c3, c4, c5, c6, c7⟩, c8⟩ := HCL.out _ hSw.out; go_simp; first | done | with_reducible rfl)
      try simp only [Act.put, pu2, pu3, pu4]
      refine wpAnyH_ready (rs := [5, 11, 12]) (by kernel_rfl) (by simp) ?_
      refine AllReadyH.cons (o := _) (dropAt (r := _) rfl) (fun K hK => ?_) (AllReadyH.cons (o := _) (dropAt (r := _) rfl) (fun K hK => ?_) (AllReadyH.cons (o := _) (dropAt (r := _) rfl) (fun K hK => ?_) AllReadyH.nil))
      · go_simp
        refine (HPL.out _ hH0.out).mono ?_
        rintro e w3 ⟨nn, ns, ⟨pa, pn, pc⟩, ⟨r1, r2, r3⟩, ⟨ea, en, ec⟩, dn, rfl, hp, hb3⟩
        dsimp only
        have hB3 : Hid (Below wr.heap.size wr w3) := hH0.out.trans (hb3.mono hH0.out.size)
        have HP3 := Lib.hid hp
        have HB3 := Lib.hid hb3
        have z1 := Lib.hid (show wr.heap.size ≤ w3.heap.size from hb3.size)
        refine hK.out _ _ hB3 (fun hH1 => ?_)
        clear hK K hp hb3
        try simp only [Act.put, pu2, pu3, pu4]
        refine tk 6 (v := ?vv6_6) (dropAt rfl) (Or.inl ⟨by rfl, ?hv6_6⟩) hH1 ?rv6_6
        case hv6_6 => (intro w hSw; go_simp; first | done | with_reducible rfl)
        try simp only [Act.put, pu2, pu3, pu4]
        refine tk 7 (v := ?vv7_7) (dropAt rfl) (Or.inl ⟨by rfl, ?hv7_7⟩) hH1 ?rv7_7
        case hv7_7 => (intro w hSw; go_simp; first | done | with_reducible rfl)
        try simp only [Act.put, pu2, pu3, pu4]
        refine tk 8 (v := ?vv8_8) (dropAt rfl) (Or.inl ⟨by rfl, ?hv8_8⟩) hH1 ?rv8_8
        case hv8_8 => (intro w hSw; go_simp; first | done | with_reducible rfl)
        try simp only [Act.put, pu2, pu3, pu4]
        refine tk 9 (v := ?vv9_9) (dropAt rfl) (Or.inl ⟨by rfl, ?hv9_9⟩) hH1 ?rv9_9
        case hv9_9 => (intro w hSw; go_simp; first | done | with_reducible rfl)
        try simp only [Act.put, pu2, pu3, pu4]
        refine tk 10 (v := ?vv10_10) (dropAt rfl) (Or.inl ⟨by rfl, ?hv10_10⟩) hH1 ?rv10_10
        case hv10_10 => (intro w hSw; go_simp; first | done | with_reducible rfl)
        try simp only [Act.put, pu2, pu3, pu4]
        refine wpAnyH_ready (rs := [11, 12]) (by kernel_rfl) (by simp) ?_
        refine AllReadyH.cons (o := _) (dropAt (r := _) rfl) (fun K hK => ?_) (AllReadyH.cons (o := _) (dropAt (r := _) rfl) (fun K hK => ?_) AllReadyH.nil)
        · go_simp
          obtain ⟨wk2, hwk⟩ : ∃ x, x = (w3.alloc (.cells #[I64 0, .bool false, .slice none 0 0] 26)) := ⟨_, rfl⟩
          have ha := (Below.refl w3.heap.size w3).alloc (Nat.le_refl _) (.cells #[I64 0, .bool false, .slice none 0 0] 26)
          have hK2 : Below w3.heap.size w3 wk2 := by
           rw [hwk]
           exact ha
          have HK2 := Lib.hid hK2
          have hBk : Hid (Below wr.heap.size wr wk2) := hH1.out.trans (hK2.mono hH1.out.size)
          have b8_2 : Hid (wk2.heap[w3.heap.size]? = some (Z3 0 false (.slice none 0 0))) := by
           rw [hwk]
           exact blk_new _ _
          have z2 : Hid (wk2.heap.size = w3.heap.size + 1) := by
           show _ = _
           rw [hwk]
           show (w3.alloc _).heap.size = _
           simp
          show K _ (w3.alloc (.cells #[I64 0, .bool false, .slice none 0 0] 26))
          rw [← hwk]
          refine hK.out _ _ hBk (fun hH2 => ?_)
          clear hK K ha hwk hK2
          try simp only [Act.put, pu2, pu3, pu4]
          refine wpAnyH_ready (rs := [12]) (by kernel_rfl) (by simp) ?_
          refine AllReadyH.cons (o := _) (dropAt (r := _) rfl) (fun K hK => ?_) AllReadyH.nil
          go_simp
          obtain ⟨wk3, hwk⟩ : ∃ x, x = (wk2.alloc (.cells #[I64 0, I64 0, I64 0] 31)) := ⟨_, rfl⟩
          have ha := (Below.refl wk2.heap.size wk2).alloc (Nat.le_refl _) (.cells #[I64 0, I64 0, I64 0] 31)
          have hK3 : Below wk2.heap.size wk2 wk3 := by
           rw [hwk]
           exact ha
          have HK3 := Lib.hid hK3
          have hBk : Hid (Below wr.heap.size wr wk3) := hH2.out.trans (hK3.mono hH2.out.size)
          have b9_3 : Hid (wk3.heap[wk2.heap.size]? = some (Q3 0 0 0)) := by
           rw [hwk]
           exact blk_new _ _
          have z3 : Hid (wk3.heap.size = wk2.heap.size + 1) := by
           show _ = _
           rw [hwk]
           show (wk2.alloc _).heap.size = _
           simp
          have b8_3 := Lib.hid ((hK3.block _ (lt_of_block b8_2.out)).trans b8_2.out)
          show K _ (wk2.alloc (.cells #[I64 0, I64 0, I64 0] 31))
          rw [← hwk]
          refine hK.out _ _ hBk (fun hH3 => ?_)
          clear hK K ha hwk hK3
          try simp only [Act.put, pu2, pu3, pu4]
          have hbw := (hH3.out).size
          have hne : w3.heap.size ≠ wk2.heap.size := by have := z1.out; have := z2.out; have := z3.out; omega
          have hl8 : wr.heap.size ≤ w3.heap.size := by have := z1.out; have := z2.out; have := z3.out; omega
          have hl9 : wr.heap.size ≤ wk2.heap.size := by have := z1.out; have := z2.out; have := z3.out; omega
          have hi8 : w3.heap.size < wr.heap.size ∨ w3.heap.size ≤ w3.heap.size := by have := z1.out; have := z2.out; have := z3.out; omega
          have hi9 : wk2.heap.size < wr.heap.size ∨ w3.heap.size ≤ wk2.heap.size := by have := z1.out; have := z2.out; have := z3.out; omega
          obtain ⟨wz, hwz⟩ : ∃ x, x = (((wk3.setCell ⟨w3.heap.size, 0, none⟩ (I64 nn)).setCell ⟨w3.heap.size, 1, none⟩ (.bool ns)).setCell ⟨w3.heap.size, 2, none⟩ (.slice pa pn pc)) := ⟨_, rfl⟩
          have HRO : Hid (RegOut wr s c nn ns (pa, pn, pc) (r1, r2, r3) (ea, en, ec) dn (w3.heap.size) (wk2.heap.size) (((wz.setCell ⟨wk2.heap.size, 0, none⟩ (I64 r1)).setCell ⟨wk2.heap.size, 1, none⟩ (I64 r2)).setCell ⟨wk2.heap.size, 2, none⟩ (I64 r3))) := by
           rw [hwz]
           exact RegOut.make (wc := wr.drew) hH0.out HP3.out HB3.out (HK2.out.trans (HK3.out.mono HK2.out.size)) b8_3.out b9_3.out hne hl8 hl9 hi8 hi9
          have hBz : Hid (Below wr.heap.size wr wz) := by
           rw [hwz]
           exact (((hH3.out.setCell (p := ⟨w3.heap.size, 0, none⟩) hl8 _).setCell (p := ⟨w3.heap.size, 1, none⟩) hl8 _).setCell (p := ⟨w3.heap.size, 2, none⟩) hl8 _)
          have hBf : Hid (Below wr.heap.size wr (((wz.setCell ⟨wk2.heap.size, 0, none⟩ (I64 r1)).setCell ⟨wk2.heap.size, 1, none⟩ (I64 r2)).setCell ⟨wk2.heap.size, 2, none⟩ (I64 r3))) := (((hBz.out.setCell (p := ⟨wk2.heap.size, 0, none⟩) hl9 _).setCell (p := ⟨wk2.heap.size, 1, none⟩) hl9 _).setCell (p := ⟨wk2.heap.size, 2, none⟩) hl9 _)
          have bz : wz.heap[wk2.heap.size]? = some (.cells #[I64 0, I64 0, I64 0] 31 (0, 0)) := by
           rw [hwz]
           exact (set3_other (w := wk3) (P := w3.heap.size) (j := wk2.heap.size) hne).trans b9_3.out
          have by8 : wk3.heap[w3.heap.size]? = some (.cells #[I64 0, .bool false, .slice none 0 0] 26 (0, 0)) := b8_3.out
          have y0 := blk_cell by8 0
          have y1 := blk_cell by8 1
          have y2 := blk_cell by8 2
          have fy0 := blk_free by8 0
          have fy1 := blk_free by8 1
          have fy2 := blk_free by8 2
          simp only [List.getElem?_toArray, List.getElem?_cons_succ, List.getElem?_cons_zero] at y0 y1 y2
          have q0 := blk_cell bz 0
          have q1 := blk_cell bz 1
          have q2 := blk_cell bz 2
          have fq0 := blk_free bz 0
          have fq1 := blk_free bz 1
          have fq2 := blk_free bz 2
          simp only [List.getElem?_toArray, List.getElem?_cons_succ, List.getElem?_cons_zero] at q0 q1 q2
          clear by8 bz hne hl8 hl9 hi8 hi9 hbw
          refine wpAnyH_ready (rs := [13]) (by kernel_rfl) (by simp) ?_
          refine AllReadyH.cons (o := _) (dropAt (r := _) rfl) (fun K hK => ?_) AllReadyH.nil
          go_simp
          show K _ (((wk3.setCell ⟨w3.heap.size, 0, none⟩ (I64 nn)).setCell ⟨w3.heap.size, 1, none⟩ (.bool ns)).setCell ⟨w3.heap.size, 2, none⟩ (.slice pa pn pc))
          rw [← hwz]
          refine hK.out _ _ hBz (fun hHz => ?_)
          clear hK K hwz y0 y1 y2 fy0 fy1 fy2
          try simp only [Act.put, pu2, pu3, pu4]
          refine wpAnyH_ready (rs := [14]) (by kernel_rfl) (by simp) ?_
          refine AllReadyH.cons (o := _) (dropAt (r := _) rfl) (fun K hK => ?_) AllReadyH.nil
          go_simp
          refine hK.out _ _ hBf (fun hHf => ?_)
          clear hK K q0 q1 q2 fq0 fq1 fq2
          try simp only [Act.put, pu2, pu3, pu4]
          refine tk 15 (v := ?vv15_11) (dropAt rfl) (Or.inl ⟨by rfl, ?hv15_11⟩) hHf ?rv15_11
          case hv15_11 => (intro w hSw; go_simp; first | done | with_reducible rfl)
          try simp only [Act.put, pu2, pu3, pu4]
          refine tk 16 (v := ?vv16_12) (dropAt rfl) (Or.inl ⟨by rfl, ?hv16_12⟩) hHf ?rv16_12
          case hv16_12 => (intro w hSw; go_simp; first | done | with_reducible rfl)
          try simp only [Act.put, pu2, pu3, pu4]
          refine wpAnyH_done (by kernel_rfl) ?_ _
          go_wp2_with fail
          go_meet
          exact ⟨w3.heap.size, wk2.heap.size, nn, ns, (pa, pn, pc), (r1, r2, r3), (ea, en, ec), dn, rfl, rfl, rfl, rfl, HRO⟩
        · go_simp
          obtain ⟨wk5, hwk⟩ : ∃ x, x = (w3.alloc (.cells #[I64 0, I64 0, I64 0] 31)) := ⟨_, rfl⟩
          have ha := (Below.refl w3.heap.size w3).alloc (Nat.le_refl _) (.cells #[I64 0, I64 0, I64 0] 31)
          have hK5 : Below w3.heap.size w3 wk5 := by
           rw [hwk]
           exact ha
          have HK5 := Lib.hid hK5
          have hBk : Hid (Below wr.heap.size wr wk5) := hH1.out.trans (hK5.mono hH1.out.size)
          have b9_5 : Hid (wk5.heap[w3.heap.size]? = some (Q3 0 0 0)) := by
           rw [hwk]
           exact blk_new _ _
          have z5 : Hid (wk5.heap.size = w3.heap.size + 1) := by
           show _ = _
           rw [hwk]
           show (w3.alloc _).heap.size = _
           simp
          show K _ (w3.alloc (.cells #[I64 0, I64 0, I64 0] 31))
          rw [← hwk]
          refine hK.out _ _ hBk (fun hH5 => ?_)
          clear hK K ha hwk hK5
          try simp only [Act.put, pu2, pu3, pu4]
          refine wpAnyH_ready (rs := [11]) (by kernel_rfl) (by simp) ?_
          refine AllReadyH.cons (o := _) (dropAt (r := _) rfl) (fun K hK => ?_) AllReadyH.nil
          go_simp
          obtain ⟨wk6, hwk⟩ : ∃ x, x = (wk5.alloc (.cells #[I64 0, .bool false, .slice none 0 0] 26)) := ⟨_, rfl⟩
          have ha := (Below.refl wk5.heap.size wk5).alloc (Nat.le_refl _) (.cells #[I64 0, .bool false, .slice none 0 0] 26)
          have hK6 : Below wk5.heap.size wk5 wk6 := by
           rw [hwk]
           exact ha
          have HK6 := Lib.hid hK6
          have hBk : Hid (Below wr.heap.size wr wk6) := hH5.out.trans (hK6.mono hH5.out.size)
          have b8_6 : Hid (wk6.heap[wk5.heap.size]? = some (Z3 0 false (.slice none 0 0))) := by
           rw [hwk]
           exact blk_new _ _
          have z6 : Hid (wk6.heap.size = wk5.heap.size + 1) := by
           show _ = _
           rw [hwk]
           show (wk5.alloc _).heap.size = _
           simp
          have b9_6 := Lib.hid ((hK6.block _ (lt_of_block b9_5.out)).trans b9_5.out)
          show K _ (wk5.alloc (.cells #[I64 0, .bool false, .slice none 0 0] 26))
          rw [← hwk]
          refine hK.out _ _ hBk (fun hH6 => ?_)
          clear hK K ha hwk hK6
          try simp only [Act.put, pu2, pu3, pu4]
          have hbw := (hH6.out).size
          have hne : wk5.heap.size ≠ w3.heap.size := by have := z1.out; have := z5.out; have := z6.out; omega
          have hl8 : wr.heap.size ≤ wk5.heap.size := by have := z1.out; have := z5.out; have := z6.out; omega
          have hl9 : wr.heap.size ≤ w3.heap.size := by have := z1.out; have := z5.out; have := z6.out; omega
          have hi8 : wk5.heap.size < wr.heap.size ∨ w3.heap.size ≤ wk5.heap.size := by have := z1.out; have := z5.out; have := z6.out; omega
          have hi9 : w3.heap.size < wr.heap.size ∨ w3.heap.size ≤ w3.heap.size := by have := z1.out; have := z5.out; have := z6.out; omega
          obtain ⟨wz, hwz⟩ : ∃ x, x = (((wk6.setCell ⟨wk5.heap.size, 0, none⟩ (I64 nn)).setCell ⟨wk5.heap.size, 1, none⟩ (.bool ns)).setCell ⟨wk5.heap.size, 2, none⟩ (.slice pa pn pc)) := ⟨_, rfl⟩
          have HRO : Hid (RegOut wr s c nn ns (pa, pn, pc) (r1, r2, r3) (ea, en, ec) dn (wk5.heap.size) (w3.heap.size) (((wz.setCell ⟨w3.heap.size, 0, none⟩ (I64 r1)).setCell ⟨w3.heap.size, 1, none⟩ (I64 r2)).setCell ⟨w3.heap.size, 2, none⟩ (I64 r3))) := by
           rw [hwz]
           exact RegOut.make (wc := wr.drew) hH0.out HP3.out HB3.out (HK5.out.trans (HK6.out.mono HK5.out.size)) b8_6.out b9_6.out hne hl8 hl9 hi8 hi9
          have hBz : Hid (Below wr.heap.size wr wz) := by
           rw [hwz]
           exact (((hH6.out.setCell (p := ⟨wk5.heap.size, 0, none⟩) hl8 _).setCell (p := ⟨wk5.heap.size, 1, none⟩) hl8 _).setCell (p := ⟨wk5.heap.size, 2, none⟩) hl8 _)
          have hBf : Hid (Below wr.heap.size wr (((wz.setCell ⟨w3.heap.size, 0, none⟩ (I64 r1)).setCell ⟨w3.heap.size, 1, none⟩ (I64 r2)).setCell ⟨w3.heap.size, 2, none⟩ (I64 r3))) := (((hBz.out.setCell (p := ⟨w3.heap.size, 0, none⟩) hl9 _).setCell (p := ⟨w3.heap.size, 1, none⟩) hl9 _).setCell (p := ⟨w3.heap.size, 2, none⟩) hl9 _)
          have bz : wz.heap[w3.heap.size]? = some (.cells #[I64 0, I64 0, I64 0] 31 (0, 0)) := by
           rw [hwz]
           exact (set3_other (w := wk6) (P := wk5.heap.size) (j := w3.heap.size) hne).trans b9_6.out
          have by8 : wk6.heap[wk5.heap.size]? = some (.cells #[I64 0, .bool false, .slice none 0 0] 26 (0, 0)) := b8_6.out
          have y0 := blk_cell by8 0
          have y1 := blk_cell by8 1
          have y2 := blk_cell by8 2
          have fy0 := blk_free by8 0
          have fy1 := blk_free by8 1
          have fy2 := blk_free by8 2
          simp only [List.getElem?_toArray, List.getElem?_cons_succ, List.getElem?_cons_zero] at y0 y1 y2
          have q0 := blk_cell bz 0
          have q1 := blk_cell bz 1
          have q2 := blk_cell bz 2
          have fq0 := blk_free bz 0
          have fq1 := blk_free bz 1
          have fq2 := blk_free bz 2
          simp only [List.getElem?_toArray, List.getElem?_cons_succ, List.getElem?_cons_zero] at q0 q1 q2
          clear by8 bz hne hl8 hl9 hi8 hi9 hbw
          refine wpAnyH_ready (rs := [13]) (by kernel_rfl) (by simp) ?_
          refine AllReadyH.cons (o := _) (dropAt (r := _) rfl) (fun K hK => ?_) AllReadyH.nil
          go_simp
          show K _ (((wk6.setCell ⟨wk5.heap.size, 0, none⟩ (I64 nn)).setCell ⟨wk5.heap.size, 1, none⟩ (.bool ns)).setCell ⟨wk5.heap.size, 2, none⟩ (.slice pa pn pc))
          rw [← hwz]
          refine hK.out _ _ hBz (fun hHz => ?_)
          clear hK K hwz y0 y1 y2 fy0 fy1 fy2
          try simp only [Act.put, pu2, pu3, pu4]
          refine wpAnyH_ready (rs := [14]) (by kernel_rfl) (by simp) ?_
          refine AllReadyH.cons (o := _) (dropAt (r := _) rfl) (fun K hK => ?_) AllReadyH.nil
          go_simp
          refine hK.out _ _ hBf (fun hHf => ?_)
          clear hK K q0 q1 q2 fq0 fq1 fq2
          try simp only [Act.put, pu2, pu3, pu4]
          refine tk 15 (v := ?vv15_13) (dropAt rfl) (Or.inl ⟨by rfl, ?hv15_13⟩) hHf ?rv15_13
          case hv15_13 => (intro w hSw; go_simp; first | done | with_reducible rfl)
          try simp only [Act.put, pu2, pu3, pu4]
          refine tk 16 (v := ?vv16_14) (dropAt rfl) (Or.inl ⟨by rfl, ?hv16_14⟩) hHf ?rv16_14
          case hv16_14 => (intro w hSw; go_simp; first | done | with_reducible rfl)
          try simp only [Act.put, pu2, pu3, pu4]
          refine wpAnyH_done (by kernel_rfl) ?_ _
          go_wp2_with fail
          go_meet
          exact ⟨wk5.heap.size, w3.heap.size, nn, ns, (pa, pn, pc), (r1, r2, r3), (ea, en, ec), dn, rfl, rfl, rfl, rfl, HRO⟩
      · go_simp
        obtain ⟨wk8, hwk⟩ : ∃ x, x = (wr.alloc (.cells #[I64 0, .bool false, .slice none 0 0] 26)).drew := ⟨_, rfl⟩
        have ha := (Below.refl wr.heap.size wr).alloc (Nat.le_refl _) (.cells #[I64 0, .bool false, .slice none 0 0] 26)
        have hK8 : Below wr.heap.size wr wk8 := by
         rw [hwk]
         exact ha.drew
        have HK8 := Lib.hid hK8
        have hBk : Hid (Below wr.heap.size wr wk8) := hK8
        have b8_8 : Hid (wk8.heap[wr.heap.size]? = some (Z3 0 false (.slice none 0 0))) := by
         rw [hwk]
         exact blk_new _ _
        have z8 : Hid (wk8.heap.size = wr.heap.size + 1) := by
         show _ = _
         rw [hwk]
         show (wr.alloc _).heap.size = _
         simp
        show K _ (wr.alloc (.cells #[I64 0, .bool false, .slice none 0 0] 26)).drew
        rw [← hwk]
        refine hK.out _ _ hBk (fun hH8 => ?_)
        clear hK K ha hwk hK8
        try simp only [Act.put, pu2, pu3, pu4]
        refine wpAnyH_ready (rs := [5, 12]) (by kernel_rfl) (by simp) ?_
        refine AllReadyH.cons (o := _) (dropAt (r := _) rfl) (fun K hK => ?_) (AllReadyH.cons (o := _) (dropAt (r := _) rfl) (fun K hK => ?_) AllReadyH.nil)
        · go_simp
          refine (HPL.out _ hH8.out).mono ?_
          rintro e w3 ⟨nn, ns, ⟨pa, pn, pc⟩, ⟨r1, r2, r3⟩, ⟨ea, en, ec⟩, dn, rfl, hp, hb3⟩
          dsimp only
          have hB3 : Hid (Below wr.heap.size wr w3) := hH8.out.trans (hb3.mono hH8.out.size)
          have b8_9 := Lib.hid ((hb3.block _ (lt_of_block b8_8.out)).trans b8_8.out)
          have HP3 := Lib.hid hp
          have HB3 := Lib.hid hb3
          have z9 := Lib.hid (show wk8.heap.size ≤ w3.heap.size from hb3.size)
          refine hK.out _ _ hB3 (fun hH9 => ?_)
          clear hK K hp hb3
          try simp only [Act.put, pu2, pu3, pu4]
          refine tk 6 (v := ?vv6_15) (dropAt rfl) (Or.inl ⟨by rfl, ?hv6_15⟩) hH9 ?rv6_15
          case hv6_15 => (intro w hSw; go_simp; first | done | with_reducible rfl)
          try simp only [Act.put, pu2, pu3, pu4]
          refine tk 7 (v := ?vv7_16) (dropAt rfl) (Or.inl ⟨by rfl, ?hv7_16⟩) hH9 ?rv7_16
          case hv7_16 => (intro w hSw; go_simp; first | done | with_reducible rfl)
          try simp only [Act.put, pu2, pu3, pu4]
          refine tk 8 (v := ?vv8_17) (dropAt rfl) (Or.inl ⟨by rfl, ?hv8_17⟩) hH9 ?rv8_17
          case hv8_17 => (intro w hSw; go_simp; first | done | with_reducible rfl)
          try simp only [Act.put, pu2, pu3, pu4]
          refine tk 9 (v := ?vv9_18) (dropAt rfl) (Or.inl ⟨by rfl, ?hv9_18⟩) hH9 ?rv9_18
          case hv9_18 => (intro w hSw; go_simp; first | done | with_reducible rfl)
          try simp only [Act.put, pu2, pu3, pu4]
          refine tk 10 (v := ?vv10_19) (dropAt rfl) (Or.inl ⟨by rfl, ?hv10_19⟩) hH9 ?rv10_19
          case hv10_19 => (intro w hSw; go_simp; first | done | with_reducible rfl)
          try simp only [Act.put, pu2, pu3, pu4]
          refine wpAnyH_ready (rs := [12]) (by kernel_rfl) (by simp) ?_
          refine AllReadyH.cons (o := _) (dropAt (r := _) rfl) (fun K hK => ?_) AllReadyH.nil
          go_simp
          obtain ⟨wk10, hwk⟩ : ∃ x, x = (w3.alloc (.cells #[I64 0, I64 0, I64 0] 31)) := ⟨_, rfl⟩
          have ha := (Below.refl w3.heap.size w3).alloc (Nat.le_refl _) (.cells #[I64 0, I64 0, I64 0] 31)
          have hK10 : Below w3.heap.size w3 wk10 := by
           rw [hwk]
           exact ha
          have HK10 := Lib.hid hK10
          have hBk : Hid (Below wr.heap.size wr wk10) := hH9.out.trans (hK10.mono hH9.out.size)
          have b9_10 : Hid (wk10.heap[w3.heap.size]? = some (Q3 0 0 0)) := by
           rw [hwk]
           exact blk_new _ _
          have z10 : Hid (wk10.heap.size = w3.heap.size + 1) := by
           show _ = _
           rw [hwk]
           show (w3.alloc _).heap.size = _
           simp
          have b8_10 := Lib.hid ((hK10.block _ (lt_of_block b8_9.out)).trans b8_9.out)
          show K _ (w3.alloc (.cells #[I64 0, I64 0, I64 0] 31))
          rw [← hwk]
          refine hK.out _ _ hBk (fun hH10 => ?_)
          clear hK K ha hwk hK10
          try simp only [Act.put, pu2, pu3, pu4]
          have hbw := (hH10.out).size
          have hne : wr.heap.size ≠ w3.heap.size := by have := z8.out; have := z9.out; have := z10.out; omega
          have hl8 : wr.heap.size ≤ wr.heap.size := by have := z8.out; have := z9.out; have := z10.out; omega
          have hl9 : wr.heap.size ≤ w3.heap.size := by have := z8.out; have := z9.out; have := z10.out; omega
          have hi8 : wr.heap.size < wk8.heap.size ∨ w3.heap.size ≤ wr.heap.size := by have := z8.out; have := z9.out; have := z10.out; omega
          have hi9 : w3.heap.size < wk8.heap.size ∨ w3.heap.size ≤ w3.heap.size := by have := z8.out; have := z9.out; have := z10.out; omega
          obtain ⟨wz, hwz⟩ : ∃ x, x = (((wk10.setCell ⟨wr.heap.size, 0, none⟩ (I64 nn)).setCell ⟨wr.heap.size, 1, none⟩ (.bool ns)).setCell ⟨wr.heap.size, 2, none⟩ (.slice pa pn pc)) := ⟨_, rfl⟩
          have HRO : Hid (RegOut wr s c nn ns (pa, pn, pc) (r1, r2, r3) (ea, en, ec) dn (wr.heap.size) (w3.heap.size) (((wz.setCell ⟨w3.heap.size, 0, none⟩ (I64 r1)).setCell ⟨w3.heap.size, 1, none⟩ (I64 r2)).setCell ⟨w3.heap.size, 2, none⟩ (I64 r3))) := by
           rw [hwz]
           exact RegOut.make (wc := wk8) hH8.out HP3.out HB3.out (HK10.out) b8_10.out b9_10.out hne hl8 hl9 hi8 hi9
          have hBz : Hid (Below wr.heap.size wr wz) := by
           rw [hwz]
           exact (((hH10.out.setCell (p := ⟨wr.heap.size, 0, none⟩) hl8 _).setCell (p := ⟨wr.heap.size, 1, none⟩) hl8 _).setCell (p := ⟨wr.heap.size, 2, none⟩) hl8 _)
          have hBf : Hid (Below wr.heap.size wr (((wz.setCell ⟨w3.heap.size, 0, none⟩ (I64 r1)).setCell ⟨w3.heap.size, 1, none⟩ (I64 r2)).setCell ⟨w3.heap.size, 2, none⟩ (I64 r3))) := (((hBz.out.setCell (p := ⟨w3.heap.size, 0, none⟩) hl9 _).setCell (p := ⟨w3.heap.size, 1, none⟩) hl9 _).setCell (p := ⟨w3.heap.size, 2, none⟩) hl9 _)
          have bz : wz.heap[w3.heap.size]? = some (.cells #[I64 0, I64 0, I64 0] 31 (0, 0)) := by
           rw [hwz]
           exact (set3_other (w := wk10) (P := wr.heap.size) (j := w3.heap.size) hne).trans b9_10.out
          have by8 : wk10.heap[wr.heap.size]? = some (.cells #[I64 0, .bool false, .slice none 0 0] 26 (0, 0)) := b8_10.out
          have y0 := blk_cell by8 0
          have y1 := blk_cell by8 1
          have y2 := blk_cell by8 2
          have fy0 := blk_free by8 0
          have fy1 := blk_free by8 1
          have fy2 := blk_free by8 2
          simp only [List.getElem?_toArray, List.getElem?_cons_succ, List.getElem?_cons_zero] at y0 y1 y2
          have q0 := blk_cell bz 0
          have q1 := blk_cell bz 1
          have q2 := blk_cell bz 2
          have fq0 := blk_free bz 0
          have fq1 := blk_free bz 1
          have fq2 := blk_free bz 2
          simp only [List.getElem?_toArray, List.getElem?_cons_succ, List.getElem?_cons_zero] at q0 q1 q2
          clear by8 bz hne hl8 hl9 hi8 hi9 hbw
          refine wpAnyH_ready (rs := [13]) (by kernel_rfl) (by simp) ?_
          refine AllReadyH.cons (o := _) (dropAt (r := _) rfl) (fun K hK => ?_) AllReadyH.nil
          go_simp
          show K _ (((wk10.setCell ⟨wr.heap.size, 0, none⟩ (I64 nn)).setCell ⟨wr.heap.size, 1, none⟩ (.bool ns)).setCell ⟨wr.heap.size, 2, none⟩ (.slice pa pn pc))
          rw [← hwz]
          refine hK.out _ _ hBz (fun hHz => ?_)
          clear hK K hwz y0 y1 y2 fy0 fy1 fy2
          try simp only [Act.put, pu2, pu3, pu4]
          refine wpAnyH_ready (rs := [14]) (by kernel_rfl) (by simp) ?_
          refine AllReadyH.cons (o := _) (dropAt (r := _) rfl) (fun K hK => ?_) AllReadyH.nil
          go_simp
          refine hK.out _ _ hBf (fun hHf => ?_)
          clear hK K q0 q1 q2 fq0 fq1 fq2
          try simp only [Act.put, pu2, pu3, pu4]
          refine tk 15 (v := ?vv15_20) (dropAt rfl) (Or.inl ⟨by rfl, ?hv15_20⟩) hHf ?rv15_20
          case hv15_20 => (intro w hSw; go_simp; first | done | with_reducible rfl)
          try simp only [Act.put, pu2, pu3, pu4]
          refine tk 16 (v := ?vv16_21) (dropAt rfl) (Or.inl ⟨by rfl, ?hv16_21⟩) hHf ?rv16_21
          case hv16_21 => (intro w hSw; go_simp; first | done | with_reducible rfl)
          try simp only [Act.put, pu2, pu3, pu4]
          refine wpAnyH_done (by kernel_rfl) ?_ _
          go_wp2_with fail
          go_meet
          exact ⟨wr.heap.size, w3.heap.size, nn, ns, (pa, pn, pc), (r1, r2, r3), (ea, en, ec), dn, rfl, rfl, rfl, rfl, HRO⟩
        · go_simp
          obtain ⟨wk12, hwk⟩ : ∃ x, x = (wk8.alloc (.cells #[I64 0, I64 0, I64 0] 31)) := ⟨_, rfl⟩
          have ha := (Below.refl wk8.heap.size wk8).alloc (Nat.le_refl _) (.cells #[I64 0, I64 0, I64 0] 31)
          have hK12 : Below wk8.heap.size wk8 wk12 := by
           rw [hwk]
           exact ha
          have HK12 := Lib.hid hK12
          have hBk : Hid (Below wr.heap.size wr wk12) := hH8.out.trans (hK12.mono hH8.out.size)
          have b9_12 : Hid (wk12.heap[wk8.heap.size]? = some (Q3 0 0 0)) := by
           rw [hwk]
           exact blk_new _ _
          have z12 : Hid (wk12.heap.size = wk8.heap.size + 1) := by
           show _ = _
           rw [hwk]
           show (wk8.alloc _).heap.size = _
           simp
          have b8_12 := Lib.hid ((hK12.block _ (lt_of_block b8_8.out)).trans b8_8.out)
          show K _ (wk8.alloc (.cells #[I64 0, I64 0, I64 0] 31))
          rw [← hwk]
          refine hK.out _ _ hBk (fun hH12 => ?_)
          clear hK K ha hwk hK12
          try simp only [Act.put, pu2, pu3, pu4]
          refine wpAnyH_ready (rs := [5]) (by kernel_rfl) (by simp) ?_
          refine AllReadyH.cons (o := _) (dropAt (r := _) rfl) (fun K hK => ?_) AllReadyH.nil
          go_simp
          refine (HPL.out _ hH12.out).mono ?_
          rintro e w3 ⟨nn, ns, ⟨pa, pn, pc⟩, ⟨r1, r2, r3⟩, ⟨ea, en, ec⟩, dn, rfl, hp, hb3⟩
          dsimp only
          have hB3 : Hid (Below wr.heap.size wr w3) := hH12.out.trans (hb3.mono hH12.out.size)
          have b8_13 := Lib.hid ((hb3.block _ (lt_of_block b8_12.out)).trans b8_12.out)
          have b9_13 := Lib.hid ((hb3.block _ (lt_of_block b9_12.out)).trans b9_12.out)
          have HP3 := Lib.hid hp
          have HB3 := Lib.hid hb3
          have z13 := Lib.hid (show wk12.heap.size ≤ w3.heap.size from hb3.size)
          refine hK.out _ _ hB3 (fun hH13 => ?_)
          clear hK K hp hb3
          try simp only [Act.put, pu2, pu3, pu4]
          refine tk 6 (v := ?vv6_22) (dropAt rfl) (Or.inl ⟨by rfl, ?hv6_22⟩) hH13 ?rv6_22
          case hv6_22 => (intro w hSw; go_simp; first | done | with_reducible rfl)
          try simp only [Act.put, pu2, pu3, pu4]
          refine tk 7 (v := ?vv7_23) (dropAt rfl) (Or.inl ⟨by rfl, ?hv7_23⟩) hH13 ?rv7_23
          case hv7_23 => (intro w hSw; go_simp; first | done | with_reducible rfl)
          try simp only [Act.put, pu2, pu3, pu4]
          refine tk 8 (v := ?vv8_24) (dropAt rfl) (Or.inl ⟨by rfl, ?hv8_24⟩) hH13 ?rv8_24
          case hv8_24 => (intro w hSw; go_simp; first | done | with_reducible rfl)
          try simp only [Act.put, pu2, pu3, pu4]
          refine tk 9 (v := ?vv9_25) (dropAt rfl) (Or.inl ⟨by rfl, ?hv9_25⟩) hH13 ?rv9_25
          case hv9_25 => (intro w hSw; go_simp; first | done | with_reducible rfl)
          try simp only [Act.put, pu2, pu3, pu4]
          refine tk 10 (v := ?vv10_26) (dropAt rfl) (Or.inl ⟨by rfl, ?hv10_26⟩) hH13 ?rv10_26
          case hv10_26 => (intro w hSw; go_simp; first | done | with_reducible rfl)
          try simp only [Act.put, pu2, pu3, pu4]
          have hbw := (hH13.out).size
          have hne : wr.heap.size ≠ wk8.heap.size := by have := z8.out; have := z12.out; have := z13.out; omega
          have hl8 : wr.heap.size ≤ wr.heap.size := by have := z8.out; have := z12.out; have := z13.out; omega
          have hl9 : wr.heap.size ≤ wk8.heap.size := by have := z8.out; have := z12.out; have := z13.out; omega
          have hi8 : wr.heap.size < wk12.heap.size ∨ w3.heap.size ≤ wr.heap.size := by have := z8.out; have := z12.out; have := z13.out; omega
          have hi9 : wk8.heap.size < wk12.heap.size ∨ w3.heap.size ≤ wk8.heap.size := by have := z8.out; have := z12.out; have := z13.out; omega
          obtain ⟨wz, hwz⟩ : ∃ x, x = (((w3.setCell ⟨wr.heap.size, 0, none⟩ (I64 nn)).setCell ⟨wr.heap.size, 1, none⟩ (.bool ns)).setCell ⟨wr.heap.size, 2, none⟩ (.slice pa pn pc)) := ⟨_, rfl⟩
          have HRO : Hid (RegOut wr s c nn ns (pa, pn, pc) (r1, r2, r3) (ea, en, ec) dn (wr.heap.size) (wk8.heap.size) (((wz.setCell ⟨wk8.heap.size, 0, none⟩ (I64 r1)).setCell ⟨wk8.heap.size, 1, none⟩ (I64 r2)).setCell ⟨wk8.heap.size, 2, none⟩ (I64 r3))) := by
           rw [hwz]
           exact RegOut.make (wc := wk12) hH12.out HP3.out HB3.out (Below.refl _ _) b8_13.out b9_13.out hne hl8 hl9 hi8 hi9
          have hBz : Hid (Below wr.heap.size wr wz) := by
           rw [hwz]
           exact (((hH13.out.setCell (p := ⟨wr.heap.size, 0, none⟩) hl8 _).setCell (p := ⟨wr.heap.size, 1, none⟩) hl8 _).setCell (p := ⟨wr.heap.size, 2, none⟩) hl8 _)
          have hBf : Hid (Below wr.heap.size wr (((wz.setCell ⟨wk8.heap.size, 0, none⟩ (I64 r1)).setCell ⟨wk8.heap.size, 1, none⟩ (I64 r2)).setCell ⟨wk8.heap.size, 2, none⟩ (I64 r3))) := (((hBz.out.setCell (p := ⟨wk8.heap.size, 0, none⟩) hl9 _).setCell (p := ⟨wk8.heap.size, 1, none⟩) hl9 _).setCell (p := ⟨wk8.heap.size, 2, none⟩) hl9 _)
          have bz : wz.heap[wk8.heap.size]? = some (.cells #[I64 0, I64 0, I64 0] 31 (0, 0)) := by
           rw [hwz]
           exact (set3_other (w := w3) (P := wr.heap.size) (j := wk8.heap.size) hne).trans b9_13.out
          have by8 : w3.heap[wr.heap.size]? = some (.cells #[I64 0, .bool false, .slice none 0 0] 26 (0, 0)) := b8_13.out
          have y0 := blk_cell by8 0
          have y1 := blk_cell by8 1
          have y2 := blk_cell by8 2
          have fy0 := blk_free by8 0
          have fy1 := blk_free by8 1
          have fy2 := blk_free by8 2
          simp only [List.getElem?_toArray, List.getElem?_cons_succ, List.getElem?_cons_zero] at y0 y1 y2
          have q0 := blk_cell bz 0
          have q1 := blk_cell bz 1
          have q2 := blk_cell bz 2
          have fq0 := blk_free bz 0
          have fq1 := blk_free bz 1
          have fq2 := blk_free bz 2
          simp only [List.getElem?_toArray, List.getElem?_cons_succ, List.getElem?_cons_zero] at q0 q1 q2
          clear by8 bz hne hl8 hl9 hi8 hi9 hbw
          refine wpAnyH_ready (rs := [13]) (by kernel_rfl) (by simp) ?_
          refine AllReadyH.cons (o := _) (dropAt (r := _) rfl) (fun K hK => ?_) AllReadyH.nil
          go_simp
          show K _ (((w3.setCell ⟨wr.heap.size, 0, none⟩ (I64 nn)).setCell ⟨wr.heap.size, 1, none⟩ (.bool ns)).setCell ⟨wr.heap.size, 2, none⟩ (.slice pa pn pc))
          rw [← hwz]
          refine hK.out _ _ hBz (fun hHz => ?_)
          clear hK K hwz y0 y1 y2 fy0 fy1 fy2
          try simp only [Act.put, pu2, pu3, pu4]
          refine wpAnyH_ready (rs := [14]) (by kernel_rfl) (by simp) ?_
          refine AllReadyH.cons (o := _) (dropAt (r := _) rfl) (fun K hK => ?_) AllReadyH.nil
          go_simp
          refine hK.out _ _ hBf (fun hHf => ?_)
          clear hK K q0 q1 q2 fq0 fq1 fq2
          try simp only [Act.put, pu2, pu3, pu4]
          refine tk 15 (v := ?vv15_27) (dropAt rfl) (Or.inl ⟨by rfl, ?hv15_27⟩) hHf ?rv15_27
          case hv15_27 => (intro w hSw; go_simp; first | done | with_reducible rfl)
          try simp only [Act.put, pu2, pu3, pu4]
          refine tk 16 (v := ?vv16_28) (dropAt rfl) (Or.inl ⟨by rfl, ?hv16_28⟩) hHf ?rv16_28
          case hv16_28 => (intro w hSw; go_simp; first | done | with_reducible rfl)
          try simp only [Act.put, pu2, pu3, pu4]
          refine wpAnyH_done (by kernel_rfl) ?_ _
          go_wp2_with fail
          go_meet
          exact ⟨wr.heap.size, wk8.heap.size, nn, ns, (pa, pn, pc), (r1, r2, r3), (ea, en, ec), dn, rfl, rfl, rfl, rfl, HRO⟩
      · go_simp
        obtain ⟨wk15, hwk⟩ : ∃ x, x = (wr.alloc (.cells #[I64 0, I64 0, I64 0] 31)).drew := ⟨_, rfl⟩
        have ha := (Below.refl wr.heap.size wr).alloc (Nat.le_refl _) (.cells #[I64 0, I64 0, I64 0] 31)
        have hK15 : Below wr.heap.size wr wk15 := by
         rw [hwk]
         exact ha.drew
        have HK15 := Lib.hid hK15
        have hBk : Hid (Below wr.heap.size wr wk15) := hK15
        have b9_15 : Hid (wk15.heap[wr.heap.size]? = some (Q3 0 0 0)) := by
         rw [hwk]
         exact blk_new _ _
        have z15 : Hid (wk15.heap.size = wr.heap.size + 1) := by
         show _ = _
         rw [hwk]
         show (wr.alloc _).heap.size = _
         simp
        show K _ (wr.alloc (.cells #[I64 0, I64 0, I64 0] 31)).drew
        rw [← hwk]
        refine hK.out _ _ hBk (fun hH15 => ?_)
        clear hK K ha hwk hK15
        try simp only [Act.put, pu2, pu3, pu4]
        refine wpAnyH_ready (rs := [5, 11]) (by kernel_rfl) (by simp) ?_
        refine AllReadyH.cons (o := _) (dropAt (r := _) rfl) (fun K hK => ?_) (AllReadyH.cons (o := _) (dropAt (r := _) rfl) (fun K hK => ?_) AllReadyH.nil)
        · go_simp
          refine (HPL.out _ hH15.out).mono ?_
          rintro e w3 ⟨nn, ns, ⟨pa, pn, pc⟩, ⟨r1, r2, r3⟩, ⟨ea, en, ec⟩, dn, rfl, hp, hb3⟩
          dsimp only
          have hB3 : Hid (Below wr.heap.size wr w3) := hH15.out.trans (hb3.mono hH15.out.size)
          have b9_16 := Lib.hid ((hb3.block _ (lt_of_block b9_15.out)).trans b9_15.out)
          have HP3 := Lib.hid hp
          have HB3 := Lib.hid hb3
          have z16 := Lib.hid (show wk15.heap.size ≤ w3.heap.size from hb3.size)
          refine hK.out _ _ hB3 (fun hH16 => ?_)
          clear hK K hp hb3
          try simp only [Act.put, pu2, pu3, pu4]
          refine tk 6 (v := ?vv6_29) (dropAt rfl) (Or.inl ⟨by rfl, ?hv6_29⟩) hH16 ?rv6_29
          case hv6_29 => (intro w hSw; go_simp; first | done | with_reducible rfl)
          try simp only [Act.put, pu2, pu3, pu4]
          refine tk 7 (v := ?vv7_30) (dropAt rfl) (Or.inl ⟨by rfl, ?hv7_30⟩) hH16 ?rv7_30
          case hv7_30 => (intro w hSw; go_simp; first | done | with_reducible rfl)
          try simp only [Act.put, pu2, pu3, pu4]
          refine tk 8 (v := ?vv8_31) (dropAt rfl) (Or.inl ⟨by rfl, ?hv8_31⟩) hH16 ?rv8_31
          case hv8_31 => (intro w hSw; go_simp; first | done | with_reducible rfl)
          try simp only [Act.put, pu2, pu3, pu4]
          refine tk 9 (v := ?vv9_32) (dropAt rfl) (Or.inl ⟨by rfl, ?hv9_32⟩) hH16 ?rv9_32
          case hv9_32 => (intro w hSw; go_simp; first | done | with_reducible rfl)
          try simp only [Act.put, pu2, pu3, pu4]
          refine tk 10 (v := ?vv10_33) (dropAt rfl) (Or.inl ⟨by rfl, ?hv10_33⟩) hH16 ?rv10_33
          case hv10_33 => (intro w hSw; go_simp; first | done | with_reducible rfl)
          try simp only [Act.put, pu2, pu3, pu4]
          refine wpAnyH_ready (rs := [11]) (by kernel_rfl) (by simp) ?_
          refine AllReadyH.cons (o := _) (dropAt (r := _) rfl) (fun K hK => ?_) AllReadyH.nil
          go_simp
          obtain ⟨wk17, hwk⟩ : ∃ x, x = (w3.alloc (.cells #[I64 0, .bool false, .slice none 0 0] 26)) := ⟨_, rfl⟩
          have ha := (Below.refl w3.heap.size w3).alloc (Nat.le_refl _) (.cells #[I64 0, .bool false, .slice none 0 0] 26)
          have hK17 : Below w3.heap.size w3 wk17 := by
           rw [hwk]
           exact ha
          have HK17 := Lib.hid hK17
          have hBk : Hid (Below wr.heap.size wr wk17) := hH16.out.trans (hK17.mono hH16.out.size)
          have b8_17 : Hid (wk17.heap[w3.heap.size]? = some (Z3 0 false (.slice none 0 0))) := by
           rw [hwk]
           exact blk_new _ _
          have z17 : Hid (wk17.heap.size = w3.heap.size + 1) := by
           show _ = _
           rw [hwk]
           show (w3.alloc _).heap.size = _
           simp
          have b9_17 := Lib.hid ((hK17.block _ (lt_of_block b9_16.out)).trans b9_16.out)
          show K _ (w3.alloc (.cells #[I64 0, .bool false, .slice none 0 0] 26))
          rw [← hwk]
          refine hK.out _ _ hBk (fun hH17 => ?_)
          clear hK K ha hwk hK17
          try simp only [Act.put, pu2, pu3, pu4]
          have hbw := (hH17.out).size
          have hne : w3.heap.size ≠ wr.heap.size := by have := z15.out; have := z16.out; have := z17.out; omega
          have hl8 : wr.heap.size ≤ w3.heap.size := by have := z15.out; have := z16.out; have := z17.out; omega
          have hl9 : wr.heap.size ≤ wr.heap.size := by have := z15.out; have := z16.out; have := z17.out; omega
          have hi8 : w3.heap.size < wk15.heap.size ∨ w3.heap.size ≤ w3.heap.size := by have := z15.out; have := z16.out; have := z17.out; omega
          have hi9 : wr.heap.size < wk15.heap.size ∨ w3.heap.size ≤ wr.heap.size := by have := z15.out; have := z16.out; have := z17.out; omega
          obtain ⟨wz, hwz⟩ : ∃ x, x = (((wk17.setCell ⟨w3.heap.size, 0, none⟩ (I64 nn)).setCell ⟨w3.heap.size, 1, none⟩ (.bool ns)).setCell ⟨w3.heap.size, 2, none⟩ (.slice pa pn pc)) := ⟨_, rfl⟩
          have HRO : Hid (RegOut wr s c nn ns (pa, pn, pc) (r1, r2, r3) (ea, en, ec) dn (w3.heap.size) (wr.heap.size) (((wz.setCell ⟨wr.heap.size, 0, none⟩ (I64 r1)).setCell ⟨wr.heap.size, 1, none⟩ (I64 r2)).setCell ⟨wr.heap.size, 2, none⟩ (I64 r3))) := by
           rw [hwz]
           exact RegOut.make (wc := wk15) hH15.out HP3.out HB3.out (HK17.out) b8_17.out b9_17.out hne hl8 hl9 hi8 hi9
          have hBz : Hid (Below wr.heap.size wr wz) := by
           rw [hwz]
           exact (((hH17.out.setCell (p := ⟨w3.heap.size, 0, none⟩) hl8 _).setCell (p := ⟨w3.heap.size, 1, none⟩) hl8 _).setCell (p := ⟨w3.heap.size, 2, none⟩) hl8 _)
          have hBf : Hid (Below wr.heap.size wr (((wz.setCell ⟨wr.heap.size, 0, none⟩ (I64 r1)).setCell ⟨wr.heap.size, 1, none⟩ (I64 r2)).setCell ⟨wr.heap.size, 2, none⟩ (I64 r3))) := (((hBz.out.setCell (p := ⟨wr.heap.size, 0, none⟩) hl9 _).setCell (p := ⟨wr.heap.size, 1, none⟩) hl9 _).setCell (p := ⟨wr.heap.size, 2, none⟩) hl9 _)
          have bz : wz.heap[wr.heap.size]? = some (.cells #[I64 0, I64 0, I64 0] 31 (0, 0)) := by
           rw [hwz]
           exact (set3_other (w := wk17) (P := w3.heap.size) (j := wr.heap.size) hne).trans b9_17.out
          have by8 : wk17.heap[w3.heap.size]? = some (.cells #[I64 0, .bool false, .slice none 0 0] 26 (0, 0)) := b8_17.out
          have y0 := blk_cell by8 0
          have y1 := blk_cell by8 1
          have y2 := blk_cell by8 2
          have fy0 := blk_free by8 0
          have fy1 := blk_free by8 1
          have fy2 := blk_free by8 2
          simp only [List.getElem?_toArray, List.getElem?_cons_succ, List.getElem?_cons_zero] at y0 y1 y2
          have q0 := blk_cell bz 0
          have q1 := blk_cell bz 1
          have q2 := blk_cell bz 2
          have fq0 := blk_free bz 0
          have fq1 := blk_free bz 1
          have fq2 := blk_free bz 2
          simp only [List.getElem?_toArray, List.getElem?_cons_succ, List.getElem?_cons_zero] at q0 q1 q2
          clear by8 bz hne hl8 hl9 hi8 hi9 hbw
          refine wpAnyH_ready (rs := [13]) (by kernel_rfl) (by simp) ?_
          refine AllReadyH.cons (o := _) (dropAt (r := _) rfl) (fun K hK => ?_) AllReadyH.nil
          go_simp
          show K _ (((wk17.setCell ⟨w3.heap.size, 0, none⟩ (I64 nn)).setCell ⟨w3.heap.size, 1, none⟩ (.bool ns)).setCell ⟨w3.heap.size, 2, none⟩ (.slice pa pn pc))
          rw [← hwz]
          refine hK.out _ _ hBz (fun hHz => ?_)
          clear hK K hwz y0 y1 y2 fy0 fy1 fy2
          try simp only [Act.put, pu2, pu3, pu4]
          refine wpAnyH_ready (rs := [14]) (by kernel_rfl) (by simp) ?_
          refine AllReadyH.cons (o := _) (dropAt (r := _) rfl) (fun K hK => ?_) AllReadyH.nil
          go_simp
          refine hK.out _ _ hBf (fun hHf => ?_)
          clear hK K q0 q1 q2 fq0 fq1 fq2
          try simp only [Act.put, pu2, pu3, pu4]
          refine tk 15 (v := ?vv15_34) (dropAt rfl) (Or.inl ⟨by rfl, ?hv15_34⟩) hHf ?rv15_34
          case hv15_34 => (intro w hSw; go_simp; first | done | with_reducible rfl)
          try simp only [Act.put, pu2, pu3, pu4]
          refine tk 16 (v := ?vv16_35) (dropAt rfl) (Or.inl ⟨by rfl, ?hv16_35⟩) hHf ?rv16_35
          case hv16_35 => (intro w hSw; go_simp; first | done | with_reducible rfl)
          try simp only [Act.put, pu2, pu3, pu4]
          refine wpAnyH_done (by kernel_rfl) ?_ _
          go_wp2_with fail
          go_meet
          exact ⟨w3.heap.size, wr.heap.size, nn, ns, (pa, pn, pc), (r1, r2, r3), (ea, en, ec), dn, rfl, rfl, rfl, rfl, HRO⟩
        · go_simp
          obtain ⟨wk19, hwk⟩ : ∃ x, x = (wk15.alloc (.cells #[I64 0, .bool false, .slice none 0 0] 26)) := ⟨_, rfl⟩
          have ha := (Below.refl wk15.heap.size wk15).alloc (Nat.le_refl _) (.cells #[I64 0, .bool false, .slice none 0 0] 26)
          have hK19 : Below wk15.heap.size wk15 wk19 := by
           rw [hwk]
           exact ha
          have HK19 := Lib.hid hK19
          have hBk : Hid (Below wr.heap.size wr wk19) := hH15.out.trans (hK19.mono hH15.out.size)
          have b8_19 : Hid (wk19.heap[wk15.heap.size]? = some (Z3 0 false (.slice none 0 0))) := by
           rw [hwk]
           exact blk_new _ _
          have z19 : Hid (wk19.heap.size = wk15.heap.size + 1) := by
           show _ = _
           rw [hwk]
           show (wk15.alloc _).heap.size = _
           simp
          have b9_19 := Lib.hid ((hK19.block _ (lt_of_block b9_15.out)).trans b9_15.out)
          show K _ (wk15.alloc (.cells #[I64 0, .bool false, .slice none 0 0] 26))
          rw [← hwk]
          refine hK.out _ _ hBk (fun hH19 => ?_)
          clear hK K ha hwk hK19
          try simp only [Act.put, pu2, pu3, pu4]
          refine wpAnyH_ready (rs := [5]) (by kernel_rfl) (by simp) ?_
          refine AllReadyH.cons (o := _) (dropAt (r := _) rfl) (fun K hK => ?_) AllReadyH.nil
          go_simp
          refine (HPL.out _ hH19.out).mono ?_
          rintro e w3 ⟨nn, ns, ⟨pa, pn, pc⟩, ⟨r1, r2, r3⟩, ⟨ea, en, ec⟩, dn, rfl, hp, hb3⟩
          dsimp only
          have hB3 : Hid (Below wr.heap.size wr w3) := hH19.out.trans (hb3.mono hH19.out.size)
          have b9_20 := Lib.hid ((hb3.block _ (lt_of_block b9_19.out)).trans b9_19.out)
          have b8_20 := Lib.hid ((hb3.block _ (lt_of_block b8_19.out)).trans b8_19.out)
          have HP3 := Lib.hid hp
          have HB3 := Lib.hid hb3
          have z20 := Lib.hid (show wk19.heap.size ≤ w3.heap.size from hb3.size)
          refine hK.out _ _ hB3 (fun hH20 => ?_)
          clear hK K hp hb3
          try simp only [Act.put, pu2, pu3, pu4]
          refine tk 6 (v := ?vv6_36) (dropAt rfl) (Or.inl ⟨by rfl, ?hv6_36⟩) hH20 ?rv6_36
          case hv6_36 => (intro w hSw; go_simp; first | done | with_reducible rfl)
          try simp only [Act.put, pu2, pu3, pu4]
          refine tk 7 (v := ?vv7_37) (dropAt rfl) (Or.inl ⟨by rfl, ?hv7_37⟩) hH20 ?rv7_37
          case hv7_37 => (intro w hSw; go_simp; first | done | with_reducible rfl)
          try simp only [Act.put, pu2, pu3, pu4]
          refine tk 8 (v := ?vv8_38) (dropAt rfl) (Or.inl ⟨by rfl, ?hv8_38⟩) hH20 ?rv8_38
          case hv8_38 => (intro w hSw; go_simp; first | done | with_reducible rfl)
          try simp only [Act.put, pu2, pu3, pu4]
          refine tk 9 (v := ?vv9_39) (dropAt rfl) (Or.inl ⟨by rfl, ?hv9_39⟩) hH20 ?rv9_39
          case hv9_39 => (intro w hSw; go_simp; first | done | with_reducible rfl)
          try simp only [Act.put, pu2, pu3, pu4]
          refine tk 10 (v := ?vv10_40) (dropAt rfl) (Or.inl ⟨by rfl, ?hv10_40⟩) hH20 ?rv10_40
          case hv10_40 => (intro w hSw; go_simp; first | done | with_reducible rfl)
          try simp only [Act.put, pu2, pu3, pu4]
          have hbw := (hH20.out).size
          have hne : wk15.heap.size ≠ wr.heap.size := by have := z15.out; have := z19.out; have := z20.out; omega
          have hl8 : wr.heap.size ≤ wk15.heap.size := by have := z15.out; have := z19.out; have := z20.out; omega
          have hl9 : wr.heap.size ≤ wr.heap.size := by have := z15.out; have := z19.out; have := z20.out; omega
          have hi8 : wk15.heap.size < wk19.heap.size ∨ w3.heap.size ≤ wk15.heap.size := by have := z15.out; have := z19.out; have := z20.out; omega
          have hi9 : wr.heap.size < wk19.heap.size ∨ w3.heap.size ≤ wr.heap.size := by have := z15.out; have := z19.out; have := z20.out; omega
          obtain ⟨wz, hwz⟩ : ∃ x, x = (((w3.setCell ⟨wk15.heap.size, 0, none⟩ (I64 nn)).setCell ⟨wk15.heap.size, 1, none⟩ (.bool ns)).setCell ⟨wk15.heap.size, 2, none⟩ (.slice pa pn pc)) := ⟨_, rfl⟩
          have HRO : Hid (RegOut wr s c nn ns (pa, pn, pc) (r1, r2, r3) (ea, en, ec) dn (wk15.heap.size) (wr.heap.size) (((wz.setCell ⟨wr.heap.size, 0, none⟩ (I64 r1)).setCell ⟨wr.heap.size, 1, none⟩ (I64 r2)).setCell ⟨wr.heap.size, 2, none⟩ (I64 r3))) := by
           rw [hwz]
           exact RegOut.make (wc := wk19) hH19.out HP3.out HB3.out (Below.refl _ _) b8_20.out b9_20.out hne hl8 hl9 hi8 hi9
          have hBz : Hid (Below wr.heap.size wr wz) := by
           rw [hwz]
           exact (((hH20.out.setCell (p := ⟨wk15.heap.size, 0, none⟩) hl8 _).setCell (p := ⟨wk15.heap.size, 1, none⟩) hl8 _).setCell (p := ⟨wk15.heap.size, 2, none⟩) hl8 _)
          have hBf : Hid (Below wr.heap.size wr (((wz.setCell ⟨wr.heap.size, 0, none⟩ (I64 r1)).setCell ⟨wr.heap.size, 1, none⟩ (I64 r2)).setCell ⟨wr.heap.size, 2, none⟩ (I64 r3))) := (((hBz.out.setCell (p := ⟨wr.heap.size, 0, none⟩) hl9 _).setCell (p := ⟨wr.heap.size, 1, none⟩) hl9 _).setCell (p := ⟨wr.heap.size, 2, none⟩) hl9 _)
          have bz : wz.heap[wr.heap.size]? = some (.cells #[I64 0, I64 0, I64 0] 31 (0, 0)) := by
           rw [hwz]
           exact (set3_other (w := w3) (P := wk15.heap.size) (j := wr.heap.size) hne).trans b9_20.out
          have by8 : w3.heap[wk15.heap.size]? = some (.cells #[I64 0, .bool false, .slice none 0 0] 26 (0, 0)) := b8_20.out
          have y0 := blk_cell by8 0
          have y1 := blk_cell by8 1
          have y2 := blk_cell by8 2
          have fy0 := blk_free by8 0
          have fy1 := blk_free by8 1
          have fy2 := blk_free by8 2
          simp only [List.getElem?_toArray, List.getElem?_cons_succ, List.getElem?_cons_zero] at y0 y1 y2
          have q0 := blk_cell bz 0
          have q1 := blk_cell bz 1
          have q2 := blk_cell bz 2
          have fq0 := blk_free bz 0
          have fq1 := blk_free bz 1
          have fq2 := blk_free bz 2
          simp only [List.getElem?_toArray, List.getElem?_cons_succ, List.getElem?_cons_zero] at q0 q1 q2
          clear by8 bz hne hl8 hl9 hi8 hi9 hbw
          refine wpAnyH_ready (rs := [13]) (by kernel_rfl) (by simp) ?_
          refine AllReadyH.cons (o := _) (dropAt (r := _) rfl) (fun K hK => ?_) AllReadyH.nil
          go_simp
          show K _ (((w3.setCell ⟨wk15.heap.size, 0, none⟩ (I64 nn)).setCell ⟨wk15.heap.size, 1, none⟩ (.bool ns)).setCell ⟨wk15.heap.size, 2, none⟩ (.slice pa pn pc))
          rw [← hwz]
          refine hK.out _ _ hBz (fun hHz => ?_)
          clear hK K hwz y0 y1 y2 fy0 fy1 fy2
          try simp only [Act.put, pu2, pu3, pu4]
          refine wpAnyH_ready (rs := [14]) (by kernel_rfl) (by simp) ?_
          refine AllReadyH.cons (o := _) (dropAt (r := _) rfl) (fun K hK => ?_) AllReadyH.nil
          go_simp
          refine hK.out _ _ hBf (fun hHf => ?_)
          clear hK K q0 q1 q2 fq0 fq1 fq2
          try simp only [Act.put, pu2, pu3, pu4]
          refine tk 15 (v := ?vv15_41) (dropAt rfl) (Or.inl ⟨by rfl, ?hv15_41⟩) hHf ?rv15_41
          case hv15_41 => (intro w hSw; go_simp; first | done | with_reducible rfl)
          try simp only [Act.put, pu2, pu3, pu4]
          refine tk 16 (v := ?vv16_42) (dropAt rfl) (Or.inl ⟨by rfl, ?hv16_42⟩) hHf ?rv16_42
          case hv16_42 => (intro w hSw; go_simp; first | done | with_reducible rfl)
          try simp only [Act.put, pu2, pu3, pu4]
          refine wpAnyH_done (by kernel_rfl) ?_ _
          go_wp2_with fail
          go_meet
          exact ⟨wk15.heap.size, wr.heap.size, nn, ns, (pa, pn, pc), (r1, r2, r3), (ea, en, ec), dn, rfl, rfl, rfl, rfl, HRO⟩
    case rest =>
     obtain ⟨wC, hwC⟩ : ∃ x, x = wc := ⟨_, rfl⟩
     subst hwC
     obtain ⟨T8, T9, nn, ns, ⟨pa, pn, pc⟩, ⟨r1, r2, r3⟩, ⟨ea, en, ec⟩, dn, rfl, rfl, rfl, rfl, HRO⟩ := hcut
     dsimp only
     rcases HRO.out.post with ⟨hdn, -⟩ | ⟨hdn, hE, o, ho, e1, e2, e3, hlies⟩
     · subst hdn
       have HNX : Hid (LawAt w5 T s (xa, xn, xc) wC) := HA.out.below HRO.out.bel
       go_wp2_with fail
       refine ⟨⟨i + 1, s, xa, xn, xc, hlt, by rw [show (i : Int) + 1 = ((i + 1 : Nat) : Int) by omega], HNX, HM⟩, ?_⟩
       simp [intOf]
       omega
     · subst hdn
       have hl := Md.outcomes_ok hE
       have HWR := Lib.hid hl.2.1
       have hgood := Md.act_good HA.out.good hl.2.1 o ho
       have hbnd := Md.act_bnd hl.2.1 HA.out.bnd HX.out.call HX.out.conn o ho
       have hst := Md.act_stays hl.2.1 o ho
       have hplen : o.next.pools.length = s.pools.length := by
        have := congrArg List.length hst.1
        simpa using this
       have HSN : Hid (∀ w1, Below wC.heap.size wC w1 → Sta w1 (pa, pn, pc) o.next) := fun w1 h1 => ⟨hgood, hbnd, (hlies w1 (.of_below h1)).1⟩
       have hpn : pn = o.next.pools.length := (HSN.out wC (.refl _ _)).len
       have hxn : xn = s.pools.length := (HA.out.sta (.refl _ _)).len
       have hpx : xn = pn := by omega
       subst hpx
       have HCK := Lib.hid (check_g o.next (pa, xn, pc) wC (HSN.out wC (.refl _ _)))
       rw [← e1, ← e2] at HCK
       unfold valS at HCK
       dsimp only at HCK
       have hnow : ¬ nn < s.now := by have := hst.2; omega
       have hnd : decide (nn < s.now) = false := decide_eq_false hnow
       have hx16 : xn ≤ 16 := by have := hgood.len2; omega
       have HOM : Hid (o.next.pools.map (·.lim) = lims) := hst.1.trans HM.out
       have HPN := Lib.hid hpn
       have HGD := Lib.hid hgood
       have HOO := Lib.hid ho
       have HAT : Hid (∀ w1, Below wC.heap.size wC w1 → S3 T8 nn ns (.slice pa xn pc) w1 ∧ S3 T s.now s.shut (.slice xa xn xc) w1 ∧ (w1.cell? ⟨T9, 0, none⟩ = some (I64 r1) ∧ w1.cell? ⟨T9, 1, none⟩ = some (I64 r2) ∧ w1.cell? ⟨T9, 2, none⟩ = some (I64 r3))) := fun w1 h1 => by
        have k8 := (h1.block _ (lt_of_block HRO.out.b8)).trans HRO.out.b8
        have k9 := (h1.block _ (lt_of_block HRO.out.b9)).trans HRO.out.b9
        have hT := (HRO.out.bel.block _ (lt_of_block HA.out.st)).trans HA.out.st
        have kT := (h1.block _ (lt_of_block hT)).trans hT
        exact ⟨⟨blk_cell k8 0, blk_cell k8 1, blk_cell k8 2⟩, ⟨blk_cell kT 0, blk_cell kT 1, blk_cell kT 2⟩, blk_cell k9 0, blk_cell k9 1, blk_cell k9 2⟩
       have HLI := Lib.hid hlies
       have HE1 := Lib.hid e1
       have HE2 := Lib.hid e2
       have HE3 := Lib.hid e3
       have HEE := Lib.hid hE
       obtain ⟨pvs, hrd⟩ := rd_of (HSN.out wC (.refl _ _)).lies
       have HRD := Lib.hid hrd
       obtain ⟨⟨n0, n1, n2⟩, ⟨t0, t1, t2⟩, ⟨q0, q1, q2⟩⟩ := HAT.out wC (.refl _ _)
       clear hl hgood hbnd hst hplen hpn hxn ho hlies e1 e2 e3 hE hrd
       go_wp2_with fail
       refine HCK.out.mono ?_
       rintro e w6 ⟨rfl, hb6⟩
       clear n0 n1 n2 t0 t1 t2 q0 q1 q2
       obtain ⟨⟨n0, n1, n2⟩, ⟨t0, t1, t2⟩, ⟨q0, q1, q2⟩⟩ := HAT.out w6 hb6
       have HB6 := Lib.hid hb6
       have hxx : ((xn : Int) != (xn : Int)) = false := by simp
       clear hb6
       go_wp2_with fail
       clear n0 n1 n2 t0 t1 t2 q0 q1 q2
       go_loopw [12, 13, 14] (fun bv _ _ wr => ∃ b : Nat, b ≤ xn ∧ bv = .int .i64 b ∧ Hid (Below wC.heap.size wC wr)) (fun bv _ _ _ => xn - (intOf bv).toNat)
       case atStart => exact ⟨0, Nat.zero_le _, rfl, HB6⟩
       case round =>
        obtain ⟨b, hbN, rfl, HBB⟩ := hrel
        obtain ⟨⟨n0, n1, n2⟩, -, -⟩ := HAT.out wr HBB.out
        by_cases hlb : b < xn
        · have hb : b < o.next.pools.length := by rw [← HPN.out]; exact hlb
          have hbp : b < pvs.length := by rw [HRD.out.2.1]; exact hb
          have hrb := HRD.out.below HBB.out
          obtain ⟨g, oo, cp, e, _, hcp⟩ := hrb.1.form (by intro e; rw [e] at hbp; simp at hbp)
          unfold valS at e
          injection e with f1 f2 f3
          replace f1 : pa = some ⟨g, oo, none⟩ := f1
          subst f1
          clear f2 f3
          have hrk := hrb.2.2 b hbp hb
          have hrow := hcp b hbp
          have hgl := Md.good_limits HGD.out hb
          have hbl : b < lims.length := by rw [← HOM.out, List.length_map]; exact hb
          have hlm : lims[b] = o.next.pools[b].lim := by
           have := HOM.out
           subst this
           simp
          obtain ⟨gl, ol, cl, e, _, hcl⟩ := HU.out.form (by intro e; rw [e] at hbl; simp at hbl)
          injection e with f1 f2 f3
          replace f1 : ua = some ⟨gl, ol, none⟩ := f1
          subst f1
          clear f2 f3
          have hbu : (b : Int) < (un : Int) := by have := HUN.out; omega
          have hrl := hcl b hbl
          rw [hlm] at hrl
          have hsm := good_small HGD.out _ (List.getElem_mem hb)
          generalize o.next.pools[b] = pk at hrk hgl hrl hsm
          generalize pvs[b] = pv at hrow hrk
          obtain ⟨⟨mx, qu, id, ag⟩, ⟨ia, iN, ic⟩, ⟨la, lN, lc⟩, ⟨da, dN, dc⟩, ⟨wa, wN, wc2⟩, up, br, pr⟩ := pv
          have hil : iN = pk.idle.length := read_len (u := (ia, iN, ic)) hrk.idle
          have hll : lN = pk.leases.length := read_len (u := (la, lN, lc)) hrk.leases
          have hdl : dN = pk.dials.length := read_len (u := (da, dN, dc)) hrk.dials
          have hwl : wN = pk.waiters.length := read_len (u := (wa, wN, wc2)) hrk.waiters
          have hmx := hrk.lim
          dsimp only at hmx
          rw [← hmx] at hgl hrl
          unfold Md.used at hgl
          dsimp only at hgl
          unfold PoolSmall at hsm
          have hw0 : wN ≠ 0 → mx ≤ (lN : Int) + (dN : Int) ∧ iN = 0 := fun hne => by
           have q := hgl.2.2 (by intro e; rw [e] at hwl; simp at hwl; omega)
           refine ⟨by omega, ?_⟩
           rw [hil, q.2]
           rfl
          have a1 : ¬ mx < (lN : Int) + (dN : Int) + (iN : Int) := by omega
          have a1d : decide (mx < (lN : Int) + (dN : Int) + (iN : Int)) = false := decide_eq_false a1
          have a2 : ¬ qu < (wN : Int) := by omega
          have a2d : decide (qu < (wN : Int)) = false := decide_eq_false a2
          have w1 : IntKind.i64.wrap ((lN : Int) + (dN : Int)) = (lN : Int) + (dN : Int) := by rw [IntKind.wrap_i64]; omega
          have w2 : IntKind.i64.wrap ((lN : Int) + (dN : Int) + (iN : Int)) = (lN : Int) + (dN : Int) + (iN : Int) := by rw [IntKind.wrap_i64]; omega
          have hrl2 : ∀ j v, (encLim ⟨mx, qu, id, ag⟩)[j]? = some v → wr.cell? ⟨gl, ol + b * 4 + j, none⟩ = some v := fun j v hv => by
           have hbx := (HBW.out.trans (HRO.out.bel.mono HBW.out.size))
           have hby := hbx.trans (HBB.out.mono hbx.size)
           exact (hby.cell (p := ⟨gl, _, none⟩) (cell_lt (hrl j v hv))).trans (hrl j v hv)
          have rr : ∀ j v, (encP ⟨⟨mx, qu, id, ag⟩, (ia, iN, ic), (la, lN, lc), (da, dN, dc), (wa, wN, wc2), up, br, pr⟩)[j]? = some v → wr.cell? ⟨g, oo + b * 11 + j, none⟩ = some v := hrow
          have m0 : wr.cell? ⟨g, oo + b * 11, none⟩ = some (I64 mx) := rr 0 _ rfl
          have m1 : wr.cell? ⟨g, oo + b * 11 + 1, none⟩ = some (I64 qu) := rr 1 _ rfl
          have m2 : wr.cell? ⟨g, oo + b * 11 + 2, none⟩ = some (I64 id) := rr 2 _ rfl
          have m3 : wr.cell? ⟨g, oo + b * 11 + 3, none⟩ = some (I64 ag) := rr 3 _ rfl
          have m4 : wr.cell? ⟨g, oo + b * 11 + 4, none⟩ = some (.slice ia iN ic) := rr 4 _ rfl
          have m5 : wr.cell? ⟨g, oo + b * 11 + 5, none⟩ = some (.slice la lN lc) := rr 5 _ rfl
          have m6 : wr.cell? ⟨g, oo + b * 11 + 6, none⟩ = some (.slice da dN dc) := rr 6 _ rfl
          have m7 : wr.cell? ⟨g, oo + b * 11 + 7, none⟩ = some (.slice wa wN wc2) := rr 7 _ rfl
          have m8 : wr.cell? ⟨g, oo + b * 11 + 8, none⟩ = some (.bool up) := rr 8 _ rfl
          have m9 : wr.cell? ⟨g, oo + b * 11 + 9, none⟩ = some (I64 br) := rr 9 _ rfl
          have m10 : wr.cell? ⟨g, oo + b * 11 + 10, none⟩ = some (I64 pr) := rr 10 _ rfl
          have hal := (Below.refl wr.heap.size wr).alloc (Nat.le_refl _) (.cells #[I64 mx, I64 qu, I64 id, I64 ag, .slice ia iN ic, .slice la lN lc, .slice da dN dc, .slice wa wN wc2, .bool up, I64 br, I64 pr] 48)
          have hP := blk_new wr (.cells #[I64 mx, I64 qu, I64 id, I64 ag, .slice ia iN ic, .slice la lN lc, .slice da dN dc, .slice wa wN wc2, .bool up, I64 br, I64 pr] 48)
          have k0 : (wr.alloc (.cells #[I64 mx, I64 qu, I64 id, I64 ag, .slice ia iN ic, .slice la lN lc, .slice da dN dc, .slice wa wN wc2, .bool up, I64 br, I64 pr] 48)).cell? ⟨gl, ol + b * 4, none⟩ = some (I64 mx) := (hal.cell (p := ⟨gl, _, none⟩) (cell_lt (hrl2 0 _ rfl))).trans (hrl2 0 _ rfl)
          have k1 : (wr.alloc (.cells #[I64 mx, I64 qu, I64 id, I64 ag, .slice ia iN ic, .slice la lN lc, .slice da dN dc, .slice wa wN wc2, .bool up, I64 br, I64 pr] 48)).cell? ⟨gl, ol + b * 4 + 1, none⟩ = some (I64 qu) := (hal.cell (p := ⟨gl, _, none⟩) (cell_lt (hrl2 1 _ rfl))).trans (hrl2 1 _ rfl)
          have hAB := HBB.out.trans (hal.mono HBB.out.size)
          have HAB := Lib.hid hAB
          have hbI : (b : Int) < (xn : Int) := by omega
          clear hrb hcp hrk hrow hgl hcl hrl hsm hil hll hdl hwl hmx hrl2 rr hP hal hAB hlm hbl
          go_upto_region 16 with fail
          go_cut [133] from 72 to 133 (fun v wx => v = .bool false ∧ Hid (Below (wr.alloc (.cells #[I64 mx, I64 qu, I64 id, I64 ag, .slice ia iN ic, .slice la lN lc, .slice da dN dc, .slice wa wN wc2, .bool up, I64 br, I64 pr] 48)).heap.size (wr.alloc (.cells #[I64 mx, I64 qu, I64 id, I64 ag, .slice ia iN ic, .slice la lN lc, .slice da dN dc, .slice wa wN wc2, .bool up, I64 br, I64 pr] 48)) wx))
          case first =>
           as_aux_lemma =>
            by_cases hw : wN = 0
            · have hwd : decide ((0 : Int) < (wN : Int)) = false := decide_eq_false (by omega)
              have hwp : ¬ (0 : Int) < (wN : Int) := by omega
              have hwn : ¬ 0 < wN := by omega
              have hwnd : decide (0 < wN) = false := decide_eq_false hwn
              clear hw hw0
              go_quiet (fail)
              go_wp2
              go_meet
              exact ⟨rfl, below_drewN (.refl _ _) _⟩
            · obtain ⟨z1, z2⟩ := hw0 hw
              have hwd : decide ((0 : Int) < (wN : Int)) = true := decide_eq_true (by omega)
              have hwp : (0 : Int) < (wN : Int) := by omega
              have hwn : 0 < wN := by omega
              have hwnd : decide (0 < wN) = true := decide_eq_true hwn
              have hin0 : ¬ 0 < iN := by omega
              have hin0d : decide (0 < iN) = false := decide_eq_false hin0
              have a3 : ¬ (lN : Int) + (dN : Int) < mx := by omega
              have a3d : decide ((lN : Int) + (dN : Int) < mx) = false := decide_eq_false a3
              have a4d : decide ((0 : Int) < (iN : Int)) = false := decide_eq_false (by omega)
              have a4 : ¬ (0 : Int) < (iN : Int) := by omega
              clear hw hw0 z1 z2
              go_quiet (fail)
              go_wp2
              go_meet
              exact ⟨rfl, below_drewN (.refl _ _) _⟩
          case rest =>
           obtain ⟨rfl, HBX⟩ := hcut
           clear a1 a1d a2 a2d w1 w2 hw0 m0 m1 m2 m3 m4 m5 m6 m7 m8 m9 m10 k0 k1 n0 n1 n2
           go_wp2_with fail
           refine ⟨⟨b + 1, hlb, by rw [show (b : Int) + 1 = ((b + 1 : Nat) : Int) by omega], HAB.out.trans (HBX.out.mono HAB.out.size)⟩, ?_⟩
           simp [intOf]
           omega
        · have hbn : ¬ (b : Int) < (xn : Int) := by omega
          obtain ⟨⟨z0, z1, z2⟩, t8, ⟨q0, q1, q2⟩⟩ := HAT.out wr HBB.out
          have HCX : Hid (∀ w1, Below wr.heap.size wr w1 → (S3 T s.now s.shut (.slice xa xn xc) w1 ∧ C8 ga (oa + i * 9) c w1) ∧ w1.cell? ⟨T9, 0, none⟩ = some (I64 r1) ∧ w1.cell? ⟨T9, 2, none⟩ = some (I64 r3)) := fun w1 h1 => by
           have hx1 := HAT.out w1 (HBB.out.trans (h1.mono HBB.out.size))
           have hbx := HRO.out.bel.trans ((HBB.out.trans (h1.mono HBB.out.size)).mono HRO.out.bel.size)
           exact ⟨⟨hx1.2.1, (HCL.out w1 hbx).2.1⟩, hx1.2.2.1, hx1.2.2.2.2⟩
          have HSB : Hid (∀ w1, Below wr.heap.size wr w1 → Sta w1 (xa, xn, xc) s) := fun w1 h1 => HA.out.sta (HRO.out.bel.trans ((HBB.out.trans (h1.mono HBB.out.size)).mono HRO.out.bel.size))
          obtain ⟨⟨⟨t0, t1, t2⟩, ⟨c0, c1, c2, c3, c4, c5, c6, c7⟩⟩, u0, u2⟩ := HCX.out wr (.refl _ _)
          clear t8 q0 q1 q2 z0 z1
          go_upto_region 18 with fail
          clear t0 t1 t2 c0 c1 c2 c3 c4 c5 c6 c7 u0 u2 z2
          go_cut [158] from 34 to 189 (fun v wx => v = .bool false ∧ Hid (Below wr.heap.size wr wx))
          case first =>
           as_aux_lemma =>
            by_cases hk : c.kind = 1
            · by_cases hr1 : r1 = 1
              · have hkd : (c.kind == 1) = true := by rw [beq_iff_eq]; exact hk
                have hrd1 : (r1 == 1) = true := by rw [beq_iff_eq]; exact hr1
                have hy := Md.ask_young HA.out.good HWR.out hk o HOO.out (by rw [← HE3.out]; exact hr1)
                rw [← HE3.out] at hy
                obtain ⟨hbk, h0, hpp⟩ := Md.backend_ok HWR.out (by rw [hk]; rfl)
                have HYO : Hid (∀ w1, Below wr.heap.size wr w1 → Calls Try.prog 12 #[.agg #[I64 s.now, .bool s.shut, .slice xa xn xc], I64 c.backend, I64 r3] w1 fun e w' => e = .returned (.bool true) ∧ Below w1.heap.size w1 w') := fun w1 h1 => by
                 unfold Md.lawYoung at hy
                 rw [if_neg (by omega), hpp] at hy
                 split at hy
                 · rename_i x hx
                   simp only [Bool.and_eq_true, decide_eq_true_eq] at hy
                   have q := young_true s (xa, xn, xc) c.backend.toNat r3 x w1 (HSB.out w1 h1) hbk hx hy.1 hy.2
                   rw [Int.toNat_of_nonneg h0] at q
                   exact q
                 · exact absurd hy Bool.false_ne_true
                clear hy hbk h0 hpp hk hr1
                refine wp_region_held_drew (S := fun w1 => Hid (Below wr.heap.size wr w1)) (by kernel_rfl) ((Below.refl _ _).drew) (fun hH0 => ?_)
                refine tk 0 (v := ?vv0_68) (dropAt rfl) (Or.inl ⟨by rfl, ?hv0_68⟩) hH0 ?rv0_68
                case hv0_68 => (intro w hSw; obtain ⟨⟨⟨t0, t1, t2⟩, ⟨c0, c1, c2, c3, c4, c5, c6, c7⟩⟩, u0, u2⟩ := HCX.out _ hSw.out; go_simp; first | done | with_reducible rfl)
                try simp only [Act.put, pu2, pu3, pu4]
                refine tk 1 (v := ?vv1_69) (dropAt rfl) (Or.inl ⟨by rfl, ?hv1_69⟩) hH0 ?rv1_69
                case hv1_69 => (intro w hSw; obtain ⟨⟨⟨t0, t1, t2⟩, ⟨c0, c1, c2, c3, c4, c5, c6, c7⟩⟩, u0, u2⟩ := HCX.out _ hSw.out; go_simp; first | done | with_reducible rfl)
                try simp only [Act.put, pu2, pu3, pu4]
                refine tk 2 (v := ?vv2_70) (dropAt rfl) (Or.inl ⟨by rfl, ?hv2_70⟩) hH0 ?rv2_70
                case hv2_70 => (intro w hSw; obtain ⟨⟨⟨t0, t1, t2⟩, ⟨c0, c1, c2, c3, c4, c5, c6, c7⟩⟩, u0, u2⟩ := HCX.out _ hSw.out; go_simp; first | done | with_reducible rfl)
                try simp only [Act.put, pu2, pu3, pu4]
                refine tk 3 (v := ?vv3_71) (dropAt rfl) (Or.inl ⟨by rfl, ?hv3_71⟩) hH0 ?rv3_71
                case hv3_71 => (intro w hSw; obtain ⟨⟨⟨t0, t1, t2⟩, ⟨c0, c1, c2, c3, c4, c5, c6, c7⟩⟩, u0, u2⟩ := HCX.out _ hSw.out; go_simp; first | done | with_reducible rfl)
                try simp only [Act.put, pu2, pu3, pu4]
                refine tk 4 (v := ?vv4_72) (dropAt rfl) (Or.inl ⟨by rfl, ?hv4_72⟩) hH0 ?rv4_72
                case hv4_72 => (intro w hSw; obtain ⟨⟨⟨t0, t1, t2⟩, ⟨c0, c1, c2, c3, c4, c5, c6, c7⟩⟩, u0, u2⟩ := HCX.out _ hSw.out; go_simp; first | done | with_reducible rfl)
                try simp only [Act.put, pu2, pu3, pu4]
                refine tk 5 (v := ?vv5_73) (dropAt rfl) (Or.inl ⟨by rfl, ?hv5_73⟩) hH0 ?rv5_73
                case hv5_73 => (intro w hSw; obtain ⟨⟨⟨t0, t1, t2⟩, ⟨c0, c1, c2, c3, c4, c5, c6, c7⟩⟩, u0, u2⟩ := HCX.out _ hSw.out; go_simp; first | done | with_reducible rfl)
                try simp only [Act.put, pu2, pu3, pu4]
                refine tk 6 (v := ?vv6_74) (dropAt rfl) (Or.inl ⟨by rfl, ?hv6_74⟩) hH0 ?rv6_74
                case hv6_74 => (intro w hSw; obtain ⟨⟨⟨t0, t1, t2⟩, ⟨c0, c1, c2, c3, c4, c5, c6, c7⟩⟩, u0, u2⟩ := HCX.out _ hSw.out; go_simp; first | done | with_reducible rfl)
                try simp only [Act.put, pu2, pu3, pu4]
                refine tk 7 (v := ?vv7_75) (dropAt rfl) (Or.inl ⟨by rfl, ?hv7_75⟩) hH0 ?rv7_75
                case hv7_75 => (intro w hSw; obtain ⟨⟨⟨t0, t1, t2⟩, ⟨c0, c1, c2, c3, c4, c5, c6, c7⟩⟩, u0, u2⟩ := HCX.out _ hSw.out; go_simp; first | done | with_reducible rfl)
                try simp only [Act.put, pu2, pu3, pu4]
                refine tk 8 (v := ?vv8_76) (dropAt rfl) (Or.inl ⟨by rfl, ?hv8_76⟩) hH0 ?rv8_76
                case hv8_76 => (intro w hSw; obtain ⟨⟨⟨t0, t1, t2⟩, ⟨c0, c1, c2, c3, c4, c5, c6, c7⟩⟩, u0, u2⟩ := HCX.out _ hSw.out; go_simp; first | done | with_reducible rfl)
                try simp only [Act.put, pu2, pu3, pu4]
                refine tk 9 (v := ?vv9_77) (dropAt rfl) (Or.inl ⟨by rfl, ?hv9_77⟩) hH0 ?rv9_77
                case hv9_77 => (intro w hSw; obtain ⟨⟨⟨t0, t1, t2⟩, ⟨c0, c1, c2, c3, c4, c5, c6, c7⟩⟩, u0, u2⟩ := HCX.out _ hSw.out; go_simp; first | done | with_reducible rfl)
                try simp only [Act.put, pu2, pu3, pu4]
                refine tk 10 (v := ?vv10_78) (dropAt rfl) (Or.inl ⟨by rfl, ?hv10_78⟩) hH0 ?rv10_78
                case hv10_78 => (intro w hSw; obtain ⟨⟨⟨t0, t1, t2⟩, ⟨c0, c1, c2, c3, c4, c5, c6, c7⟩⟩, u0, u2⟩ := HCX.out _ hSw.out; go_simp; first | done | with_reducible rfl)
                try simp only [Act.put, pu2, pu3, pu4]
                refine tk 11 (v := ?vv11_79) (dropAt rfl) (Or.inl ⟨by rfl, ?hv11_79⟩) hH0 ?rv11_79
                case hv11_79 => (intro w hSw; obtain ⟨⟨⟨t0, t1, t2⟩, ⟨c0, c1, c2, c3, c4, c5, c6, c7⟩⟩, u0, u2⟩ := HCX.out _ hSw.out; go_simp; first | done | with_reducible rfl)
                try simp only [Act.put, pu2, pu3, pu4]
                refine tk 12 (v := ?vv12_80) (dropAt rfl) (Or.inl ⟨by rfl, ?hv12_80⟩) hH0 ?rv12_80
                case hv12_80 => (intro w hSw; obtain ⟨⟨⟨t0, t1, t2⟩, ⟨c0, c1, c2, c3, c4, c5, c6, c7⟩⟩, u0, u2⟩ := HCX.out _ hSw.out; go_simp; first | done | with_reducible rfl)
                try simp only [Act.put, pu2, pu3, pu4]
                refine tk 13 (v := ?vv13_81) (dropAt rfl) (Or.inl ⟨by rfl, ?hv13_81⟩) hH0 ?rv13_81
                case hv13_81 => (intro w hSw; obtain ⟨⟨⟨t0, t1, t2⟩, ⟨c0, c1, c2, c3, c4, c5, c6, c7⟩⟩, u0, u2⟩ := HCX.out _ hSw.out; go_simp; first | done | with_reducible rfl)
                try simp only [Act.put, pu2, pu3, pu4]
                refine tk 14 (v := ?vv14_82) (dropAt rfl) (Or.inl ⟨by rfl, ?hv14_82⟩) hH0 ?rv14_82
                case hv14_82 => (intro w hSw; obtain ⟨⟨⟨t0, t1, t2⟩, ⟨c0, c1, c2, c3, c4, c5, c6, c7⟩⟩, u0, u2⟩ := HCX.out _ hSw.out; go_simp; first | done | with_reducible rfl)
                try simp only [Act.put, pu2, pu3, pu4]
                refine tk 15 (v := ?vv15_83) (dropAt rfl) (Or.inl ⟨by rfl, ?hv15_83⟩) hH0 ?rv15_83
                case hv15_83 => (intro w hSw; obtain ⟨⟨⟨t0, t1, t2⟩, ⟨c0, c1, c2, c3, c4, c5, c6, c7⟩⟩, u0, u2⟩ := HCX.out _ hSw.out; go_simp; first | done | with_reducible rfl)
                try simp only [Act.put, pu2, pu3, pu4]
                refine tk 16 (v := ?vv16_84) (dropAt rfl) (Or.inl ⟨by rfl, ?hv16_84⟩) hH0 ?rv16_84
                case hv16_84 => (intro w hSw; obtain ⟨⟨⟨t0, t1, t2⟩, ⟨c0, c1, c2, c3, c4, c5, c6, c7⟩⟩, u0, u2⟩ := HCX.out _ hSw.out; go_simp; first | done | with_reducible rfl)
                try simp only [Act.put, pu2, pu3, pu4]
                refine tk 17 (v := ?vv17_85) (dropAt rfl) (Or.inl ⟨by rfl, ?hv17_85⟩) hH0 ?rv17_85
                case hv17_85 => (intro w hSw; obtain ⟨⟨⟨t0, t1, t2⟩, ⟨c0, c1, c2, c3, c4, c5, c6, c7⟩⟩, u0, u2⟩ := HCX.out _ hSw.out; go_simp; first | done | with_reducible rfl)
                try simp only [Act.put, pu2, pu3, pu4]
                refine tk 18 (v := ?vv18_86) (dropAt rfl) (Or.inl ⟨by rfl, ?hv18_86⟩) hH0 ?rv18_86
                case hv18_86 => (intro w hSw; obtain ⟨⟨⟨t0, t1, t2⟩, ⟨c0, c1, c2, c3, c4, c5, c6, c7⟩⟩, u0, u2⟩ := HCX.out _ hSw.out; go_simp; first | done | with_reducible rfl)
                try simp only [Act.put, pu2, pu3, pu4]
                refine tk 19 (v := ?vv19_87) (dropAt rfl) (Or.inl ⟨by rfl, ?hv19_87⟩) hH0 ?rv19_87
                case hv19_87 => (intro w hSw; obtain ⟨⟨⟨t0, t1, t2⟩, ⟨c0, c1, c2, c3, c4, c5, c6, c7⟩⟩, u0, u2⟩ := HCX.out _ hSw.out; go_simp; first | done | with_reducible rfl)
                try simp only [Act.put, pu2, pu3, pu4]
                refine tk 20 (v := ?vv20_88) (dropAt rfl) (Or.inl ⟨by rfl, ?hv20_88⟩) hH0 ?rv20_88
                case hv20_88 => (intro w hSw; obtain ⟨⟨⟨t0, t1, t2⟩, ⟨c0, c1, c2, c3, c4, c5, c6, c7⟩⟩, u0, u2⟩ := HCX.out _ hSw.out; go_simp; first | done | with_reducible rfl)
                try simp only [Act.put, pu2, pu3, pu4]
                refine tk 21 (v := ?vv21_89) (dropAt rfl) (Or.inl ⟨by rfl, ?hv21_89⟩) hH0 ?rv21_89
                case hv21_89 => (intro w hSw; obtain ⟨⟨⟨t0, t1, t2⟩, ⟨c0, c1, c2, c3, c4, c5, c6, c7⟩⟩, u0, u2⟩ := HCX.out _ hSw.out; go_simp; first | done | with_reducible rfl)
                try simp only [Act.put, pu2, pu3, pu4]
                refine wpAnyH_ready (rs := [22]) (by kernel_rfl) (by simp) ?_
                refine AllReadyH.cons (o := _) (dropAt (r := _) rfl) (fun K hK => ?_) AllReadyH.nil
                go_simp
                refine (HYO.out _ hH0.out).mono ?_
                rintro e w9 ⟨rfl, hb9⟩
                have hB9 : Hid (Below wr.heap.size wr w9) := hH0.out.trans (hb9.mono hH0.out.size)
                refine hK.out _ _ hB9 (fun hH9 => ?_)
                clear hK K hb9
                try simp only [Act.put, pu2, pu3, pu4]
                refine tk 23 (v := ?vv23_90) (dropAt rfl) (Or.inl ⟨by rfl, ?hv23_90⟩) hH9 ?rv23_90
                case hv23_90 => (intro w hSw; obtain ⟨⟨⟨t0, t1, t2⟩, ⟨c0, c1, c2, c3, c4, c5, c6, c7⟩⟩, u0, u2⟩ := HCX.out _ hSw.out; go_simp; first | done | with_reducible rfl)
                try simp only [Act.put, pu2, pu3, pu4]
                refine tk 24 (v := ?vv24_91) (dropAt rfl) (Or.inl ⟨by rfl, ?hv24_91⟩) hH9 ?rv24_91
                case hv24_91 => (intro w hSw; obtain ⟨⟨⟨t0, t1, t2⟩, ⟨c0, c1, c2, c3, c4, c5, c6, c7⟩⟩, u0, u2⟩ := HCX.out _ hSw.out; go_simp; first | done | with_reducible rfl)
                try simp only [Act.put, pu2, pu3, pu4]
                refine wpAnyH_done (by kernel_rfl) ?_ _
                go_wp2_with fail
                go_meet
                exact ⟨rfl, hB9⟩
              · have hkd : (c.kind == 1) = true := by rw [beq_iff_eq]; exact hk
                have hrd1 : (r1 == 1) = false := by rw [beq_eq_false_iff_ne]; exact hr1
                clear hk hr1
                refine wp_region_held_drew (S := fun w1 => Hid (Below wr.heap.size wr w1)) (by kernel_rfl) ((Below.refl _ _).drew) (fun hH0 => ?_)
                refine tk 0 (v := ?vv0_54) (dropAt rfl) (Or.inl ⟨by rfl, ?hv0_54⟩) hH0 ?rv0_54
                case hv0_54 => (intro w hSw; obtain ⟨⟨⟨t0, t1, t2⟩, ⟨c0, c1, c2, c3, c4, c5, c6, c7⟩⟩, u0, u2⟩ := HCX.out _ hSw.out; go_simp; first | done | with_reducible rfl)
                try simp only [Act.put, pu2, pu3, pu4]
                refine tk 1 (v := ?vv1_55) (dropAt rfl) (Or.inl ⟨by rfl, ?hv1_55⟩) hH0 ?rv1_55
                case hv1_55 => (intro w hSw; obtain ⟨⟨⟨t0, t1, t2⟩, ⟨c0, c1, c2, c3, c4, c5, c6, c7⟩⟩, u0, u2⟩ := HCX.out _ hSw.out; go_simp; first | done | with_reducible rfl)
                try simp only [Act.put, pu2, pu3, pu4]
                refine tk 2 (v := ?vv2_56) (dropAt rfl) (Or.inl ⟨by rfl, ?hv2_56⟩) hH0 ?rv2_56
                case hv2_56 => (intro w hSw; obtain ⟨⟨⟨t0, t1, t2⟩, ⟨c0, c1, c2, c3, c4, c5, c6, c7⟩⟩, u0, u2⟩ := HCX.out _ hSw.out; go_simp; first | done | with_reducible rfl)
                try simp only [Act.put, pu2, pu3, pu4]
                refine tk 3 (v := ?vv3_57) (dropAt rfl) (Or.inl ⟨by rfl, ?hv3_57⟩) hH0 ?rv3_57
                case hv3_57 => (intro w hSw; obtain ⟨⟨⟨t0, t1, t2⟩, ⟨c0, c1, c2, c3, c4, c5, c6, c7⟩⟩, u0, u2⟩ := HCX.out _ hSw.out; go_simp; first | done | with_reducible rfl)
                try simp only [Act.put, pu2, pu3, pu4]
                refine tk 4 (v := ?vv4_58) (dropAt rfl) (Or.inl ⟨by rfl, ?hv4_58⟩) hH0 ?rv4_58
                case hv4_58 => (intro w hSw; obtain ⟨⟨⟨t0, t1, t2⟩, ⟨c0, c1, c2, c3, c4, c5, c6, c7⟩⟩, u0, u2⟩ := HCX.out _ hSw.out; go_simp; first | done | with_reducible rfl)
                try simp only [Act.put, pu2, pu3, pu4]
                refine tk 5 (v := ?vv5_59) (dropAt rfl) (Or.inl ⟨by rfl, ?hv5_59⟩) hH0 ?rv5_59
                case hv5_59 => (intro w hSw; obtain ⟨⟨⟨t0, t1, t2⟩, ⟨c0, c1, c2, c3, c4, c5, c6, c7⟩⟩, u0, u2⟩ := HCX.out _ hSw.out; go_simp; first | done | with_reducible rfl)
                try simp only [Act.put, pu2, pu3, pu4]
                refine tk 6 (v := ?vv6_60) (dropAt rfl) (Or.inl ⟨by rfl, ?hv6_60⟩) hH0 ?rv6_60
                case hv6_60 => (intro w hSw; obtain ⟨⟨⟨t0, t1, t2⟩, ⟨c0, c1, c2, c3, c4, c5, c6, c7⟩⟩, u0, u2⟩ := HCX.out _ hSw.out; go_simp; first | done | with_reducible rfl)
                try simp only [Act.put, pu2, pu3, pu4]
                refine tk 7 (v := ?vv7_61) (dropAt rfl) (Or.inl ⟨by rfl, ?hv7_61⟩) hH0 ?rv7_61
                case hv7_61 => (intro w hSw; obtain ⟨⟨⟨t0, t1, t2⟩, ⟨c0, c1, c2, c3, c4, c5, c6, c7⟩⟩, u0, u2⟩ := HCX.out _ hSw.out; go_simp; first | done | with_reducible rfl)
                try simp only [Act.put, pu2, pu3, pu4]
                refine tk 8 (v := ?vv8_62) (dropAt rfl) (Or.inl ⟨by rfl, ?hv8_62⟩) hH0 ?rv8_62
                case hv8_62 => (intro w hSw; obtain ⟨⟨⟨t0, t1, t2⟩, ⟨c0, c1, c2, c3, c4, c5, c6, c7⟩⟩, u0, u2⟩ := HCX.out _ hSw.out; go_simp; first | done | with_reducible rfl)
                try simp only [Act.put, pu2, pu3, pu4]
                refine tk 9 (v := ?vv9_63) (dropAt rfl) (Or.inl ⟨by rfl, ?hv9_63⟩) hH0 ?rv9_63
                case hv9_63 => (intro w hSw; obtain ⟨⟨⟨t0, t1, t2⟩, ⟨c0, c1, c2, c3, c4, c5, c6, c7⟩⟩, u0, u2⟩ := HCX.out _ hSw.out; go_simp; first | done | with_reducible rfl)
                try simp only [Act.put, pu2, pu3, pu4]
                refine tk 10 (v := ?vv10_64) (dropAt rfl) (Or.inl ⟨by rfl, ?hv10_64⟩) hH0 ?rv10_64
                case hv10_64 => (intro w hSw; obtain ⟨⟨⟨t0, t1, t2⟩, ⟨c0, c1, c2, c3, c4, c5, c6, c7⟩⟩, u0, u2⟩ := HCX.out _ hSw.out; go_simp; first | done | with_reducible rfl)
                try simp only [Act.put, pu2, pu3, pu4]
                refine tk 11 (v := ?vv11_65) (dropAt rfl) (Or.inl ⟨by rfl, ?hv11_65⟩) hH0 ?rv11_65
                case hv11_65 => (intro w hSw; obtain ⟨⟨⟨t0, t1, t2⟩, ⟨c0, c1, c2, c3, c4, c5, c6, c7⟩⟩, u0, u2⟩ := HCX.out _ hSw.out; go_simp; first | done | with_reducible rfl)
                try simp only [Act.put, pu2, pu3, pu4]
                refine tk 12 (v := ?vv12_66) (dropAt rfl) (Or.inl ⟨by rfl, ?hv12_66⟩) hH0 ?rv12_66
                case hv12_66 => (intro w hSw; obtain ⟨⟨⟨t0, t1, t2⟩, ⟨c0, c1, c2, c3, c4, c5, c6, c7⟩⟩, u0, u2⟩ := HCX.out _ hSw.out; go_simp; first | done | with_reducible rfl)
                try simp only [Act.put, pu2, pu3, pu4]
                refine tk 13 (v := undef) (dropAt rfl) (Or.inr ⟨rfl, rfl⟩) hH0 ?_
                try simp only [Act.put, pu2, pu3, pu4]
                refine tk 14 (v := undef) (dropAt rfl) (Or.inr ⟨rfl, rfl⟩) hH0 ?_
                try simp only [Act.put, pu2, pu3, pu4]
                refine tk 15 (v := undef) (dropAt rfl) (Or.inr ⟨rfl, rfl⟩) hH0 ?_
                try simp only [Act.put, pu2, pu3, pu4]
                refine tk 16 (v := undef) (dropAt rfl) (Or.inr ⟨rfl, rfl⟩) hH0 ?_
                try simp only [Act.put, pu2, pu3, pu4]
                refine tk 17 (v := undef) (dropAt rfl) (Or.inr ⟨rfl, rfl⟩) hH0 ?_
                try simp only [Act.put, pu2, pu3, pu4]
                refine tk 18 (v := undef) (dropAt rfl) (Or.inr ⟨rfl, rfl⟩) hH0 ?_
                try simp only [Act.put, pu2, pu3, pu4]
                refine tk 19 (v := undef) (dropAt rfl) (Or.inr ⟨rfl, rfl⟩) hH0 ?_
                try simp only [Act.put, pu2, pu3, pu4]
                refine tk 20 (v := undef) (dropAt rfl) (Or.inr ⟨rfl, rfl⟩) hH0 ?_
                try simp only [Act.put, pu2, pu3, pu4]
                refine tk 21 (v := undef) (dropAt rfl) (Or.inr ⟨rfl, rfl⟩) hH0 ?_
                try simp only [Act.put, pu2, pu3, pu4]
                refine tk 22 (v := undef) (dropAt rfl) (Or.inr ⟨rfl, rfl⟩) hH0 ?_
                try simp only [Act.put, pu2, pu3, pu4]
                refine tk 23 (v := undef) (dropAt rfl) (Or.inr ⟨rfl, rfl⟩) hH0 ?_
                try simp only [Act.put, pu2, pu3, pu4]
                refine tk 24 (v := ?vv24_67) (dropAt rfl) (Or.inl ⟨by rfl, ?hv24_67⟩) hH0 ?rv24_67
                case hv24_67 => (intro w hSw; obtain ⟨⟨⟨t0, t1, t2⟩, ⟨c0, c1, c2, c3, c4, c5, c6, c7⟩⟩, u0, u2⟩ := HCX.out _ hSw.out; go_simp; first | done | with_reducible rfl)
                try simp only [Act.put, pu2, pu3, pu4]
                refine wpAnyH_done (by kernel_rfl) ?_ _
                go_wp2_with fail
                go_meet
                exact ⟨rfl, (Below.refl _ _).drew⟩
            · have hkd : (c.kind == 1) = false := by rw [beq_eq_false_iff_ne]; exact hk
              clear hk
              refine wp_region_held_drew (S := fun w1 => Hid (Below wr.heap.size wr w1)) (by kernel_rfl) ((Below.refl _ _).drew) (fun hH0 => ?_)
              refine tk 0 (v := ?vv0_43) (dropAt rfl) (Or.inl ⟨by rfl, ?hv0_43⟩) hH0 ?rv0_43
              case hv0_43 => (intro w hSw; obtain ⟨⟨⟨t0, t1, t2⟩, ⟨c0, c1, c2, c3, c4, c5, c6, c7⟩⟩, u0, u2⟩ := HCX.out _ hSw.out; go_simp; first | done | with_reducible rfl)
              try simp only [Act.put, pu2, pu3, pu4]
              refine tk 1 (v := ?vv1_44) (dropAt rfl) (Or.inl ⟨by rfl, ?hv1_44⟩) hH0 ?rv1_44
              case hv1_44 => (intro w hSw; obtain ⟨⟨⟨t0, t1, t2⟩, ⟨c0, c1, c2, c3, c4, c5, c6, c7⟩⟩, u0, u2⟩ := HCX.out _ hSw.out; go_simp; first | done | with_reducible rfl)
              try simp only [Act.put, pu2, pu3, pu4]
              refine tk 2 (v := ?vv2_45) (dropAt rfl) (Or.inl ⟨by rfl, ?hv2_45⟩) hH0 ?rv2_45
              case hv2_45 => (intro w hSw; obtain ⟨⟨⟨t0, t1, t2⟩, ⟨c0, c1, c2, c3, c4, c5, c6, c7⟩⟩, u0, u2⟩ := HCX.out _ hSw.out; go_simp; first | done | with_reducible rfl)
              try simp only [Act.put, pu2, pu3, pu4]
              refine tk 3 (v := ?vv3_46) (dropAt rfl) (Or.inl ⟨by rfl, ?hv3_46⟩) hH0 ?rv3_46
              case hv3_46 => (intro w hSw; obtain ⟨⟨⟨t0, t1, t2⟩, ⟨c0, c1, c2, c3, c4, c5, c6, c7⟩⟩, u0, u2⟩ := HCX.out _ hSw.out; go_simp; first | done | with_reducible rfl)
              try simp only [Act.put, pu2, pu3, pu4]
              refine tk 4 (v := ?vv4_47) (dropAt rfl) (Or.inl ⟨by rfl, ?hv4_47⟩) hH0 ?rv4_47
              case hv4_47 => (intro w hSw; obtain ⟨⟨⟨t0, t1, t2⟩, ⟨c0, c1, c2, c3, c4, c5, c6, c7⟩⟩, u0, u2⟩ := HCX.out _ hSw.out; go_simp; first | done | with_reducible rfl)
              try simp only [Act.put, pu2, pu3, pu4]
              refine tk 5 (v := ?vv5_48) (dropAt rfl) (Or.inl ⟨by rfl, ?hv5_48⟩) hH0 ?rv5_48
              case hv5_48 => (intro w hSw; obtain ⟨⟨⟨t0, t1, t2⟩, ⟨c0, c1, c2, c3, c4, c5, c6, c7⟩⟩, u0, u2⟩ := HCX.out _ hSw.out; go_simp; first | done | with_reducible rfl)
              try simp only [Act.put, pu2, pu3, pu4]
              refine tk 6 (v := ?vv6_49) (dropAt rfl) (Or.inl ⟨by rfl, ?hv6_49⟩) hH0 ?rv6_49
              case hv6_49 => (intro w hSw; obtain ⟨⟨⟨t0, t1, t2⟩, ⟨c0, c1, c2, c3, c4, c5, c6, c7⟩⟩, u0, u2⟩ := HCX.out _ hSw.out; go_simp; first | done | with_reducible rfl)
              try simp only [Act.put, pu2, pu3, pu4]
              refine tk 7 (v := ?vv7_50) (dropAt rfl) (Or.inl ⟨by rfl, ?hv7_50⟩) hH0 ?rv7_50
              case hv7_50 => (intro w hSw; obtain ⟨⟨⟨t0, t1, t2⟩, ⟨c0, c1, c2, c3, c4, c5, c6, c7⟩⟩, u0, u2⟩ := HCX.out _ hSw.out; go_simp; first | done | with_reducible rfl)
              try simp only [Act.put, pu2, pu3, pu4]
              refine tk 8 (v := undef) (dropAt rfl) (Or.inr ⟨rfl, rfl⟩) hH0 ?_
              try simp only [Act.put, pu2, pu3, pu4]
              refine tk 9 (v := undef) (dropAt rfl) (Or.inr ⟨rfl, rfl⟩) hH0 ?_
              try simp only [Act.put, pu2, pu3, pu4]
              refine tk 10 (v := undef) (dropAt rfl) (Or.inr ⟨rfl, rfl⟩) hH0 ?_
              try simp only [Act.put, pu2, pu3, pu4]
              refine tk 11 (v := ?vv11_51) (dropAt rfl) (Or.inl ⟨by rfl, ?hv11_51⟩) hH0 ?rv11_51
              case hv11_51 => (intro w hSw; obtain ⟨⟨⟨t0, t1, t2⟩, ⟨c0, c1, c2, c3, c4, c5, c6, c7⟩⟩, u0, u2⟩ := HCX.out _ hSw.out; go_simp; first | done | with_reducible rfl)
              try simp only [Act.put, pu2, pu3, pu4]
              refine tk 12 (v := ?vv12_52) (dropAt rfl) (Or.inl ⟨by rfl, ?hv12_52⟩) hH0 ?rv12_52
              case hv12_52 => (intro w hSw; obtain ⟨⟨⟨t0, t1, t2⟩, ⟨c0, c1, c2, c3, c4, c5, c6, c7⟩⟩, u0, u2⟩ := HCX.out _ hSw.out; go_simp; first | done | with_reducible rfl)
              try simp only [Act.put, pu2, pu3, pu4]
              refine tk 13 (v := undef) (dropAt rfl) (Or.inr ⟨rfl, rfl⟩) hH0 ?_
              try simp only [Act.put, pu2, pu3, pu4]
              refine tk 14 (v := undef) (dropAt rfl) (Or.inr ⟨rfl, rfl⟩) hH0 ?_
              try simp only [Act.put, pu2, pu3, pu4]
              refine tk 15 (v := undef) (dropAt rfl) (Or.inr ⟨rfl, rfl⟩) hH0 ?_
              try simp only [Act.put, pu2, pu3, pu4]
              refine tk 16 (v := undef) (dropAt rfl) (Or.inr ⟨rfl, rfl⟩) hH0 ?_
              try simp only [Act.put, pu2, pu3, pu4]
              refine tk 17 (v := undef) (dropAt rfl) (Or.inr ⟨rfl, rfl⟩) hH0 ?_
              try simp only [Act.put, pu2, pu3, pu4]
              refine tk 18 (v := undef) (dropAt rfl) (Or.inr ⟨rfl, rfl⟩) hH0 ?_
              try simp only [Act.put, pu2, pu3, pu4]
              refine tk 19 (v := undef) (dropAt rfl) (Or.inr ⟨rfl, rfl⟩) hH0 ?_
              try simp only [Act.put, pu2, pu3, pu4]
              refine tk 20 (v := undef) (dropAt rfl) (Or.inr ⟨rfl, rfl⟩) hH0 ?_
              try simp only [Act.put, pu2, pu3, pu4]
              refine tk 21 (v := undef) (dropAt rfl) (Or.inr ⟨rfl, rfl⟩) hH0 ?_
              try simp only [Act.put, pu2, pu3, pu4]
              refine tk 22 (v := undef) (dropAt rfl) (Or.inr ⟨rfl, rfl⟩) hH0 ?_
              try simp only [Act.put, pu2, pu3, pu4]
              refine tk 23 (v := undef) (dropAt rfl) (Or.inr ⟨rfl, rfl⟩) hH0 ?_
              try simp only [Act.put, pu2, pu3, pu4]
              refine tk 24 (v := ?vv24_53) (dropAt rfl) (Or.inl ⟨by rfl, ?hv24_53⟩) hH0 ?rv24_53
              case hv24_53 => (intro w hSw; obtain ⟨⟨⟨t0, t1, t2⟩, ⟨c0, c1, c2, c3, c4, c5, c6, c7⟩⟩, u0, u2⟩ := HCX.out _ hSw.out; go_simp; first | done | with_reducible rfl)
              try simp only [Act.put, pu2, pu3, pu4]
              refine wpAnyH_done (by kernel_rfl) ?_ _
              go_wp2_with fail
              go_meet
              exact ⟨rfl, (Below.refl _ _).drew⟩
          case rest =>
           obtain ⟨rfl, HBX⟩ := hcut
           have hbc : Below wC.heap.size wC wc := HBB.out.trans (HBX.out.mono HBB.out.size)
           have HBC := Lib.hid hbc
           have hen : en = o.effects.length := read_len (u := (ea, en, ec)) (HLI.out wc (.of_below hbc)).2
           have HEN := Lib.hid hen
           have hen9 : en ≤ 4000000 := by rw [hen]; exact effs_len HA.out.good o HOO.out
           clear hbc hen
           go_wp2_with fail
           go_loopw [15] (fun kv wr => ∃ k : Nat, k ≤ en ∧ kv = .int .i64 k ∧ Hid (Below wC.heap.size wC wr)) (fun kv _ => en - (intOf kv).toNat)
           case atStart => exact ⟨0, Nat.zero_le _, rfl, HBC⟩
           case round =>
            obtain ⟨k, hkN, rfl, HBK⟩ := hrel
            obtain ⟨c0, c1, c2, c3, c4, c5, c6, c7⟩ := (HCL.out wr (HRO.out.bel.trans (HBK.out.mono HRO.out.bel.size))).2.1
            by_cases hlk : k < en
            · have hkl : k < o.effects.length := by rw [← HEN.out]; exact hlk
              obtain ⟨ge, oe, ce, e, _, hce⟩ := ((HLI.out wr (.of_below HBK.out)).2).form (by intro e; rw [e] at hkl; simp at hkl)
              injection e with f1 f2 f3
              replace f1 : ea = some ⟨ge, oe, none⟩ := f1
              subst f1
              clear f2 f3
              have hre := hce k hkl
              have hmem := List.getElem_mem hkl
              generalize o.effects[k] = ef at hre hmem
              obtain ⟨ek, eb, ec1, ec2⟩ := ef
              have k0 : wr.cell? ⟨ge, oe + k * 4, none⟩ = some (I64 ek) := hre 0 _ rfl
              have hkI : (k : Int) < (en : Int) := by omega
              have hend : Hid (Below wC.heap.size wC wr) := HBK
              clear hce hre
              by_cases hek : ek = 1
              · have hek2 : (ek == 1) = true := by rw [beq_iff_eq]; exact hek
                by_cases hk3 : c.kind = 3
                · have hk3b : (c.kind != 3) = false := by rw [bne_eq_false_iff_eq]; exact hk3
                  clear hek hk3 hmem
                  go_wp2_with fail
                  refine ⟨⟨k + 1, hlk, by rw [show (k : Int) + 1 = ((k + 1 : Nat) : Int) by omega], hend⟩, ?_⟩
                  simp [intOf]
                  omega
                · have hk2 : c.kind = 2 := by
                   by_cases hq : c.kind = 2
                   · exact hq
                   · exact absurd hek (Md.act_granted hq hk3 o HOO.out _ hmem)
                  have hk3b : (c.kind != 3) = true := by rw [bne_iff_ne]; exact hk3
                  have hk2b : (c.kind != 2) = false := by rw [bne_eq_false_iff_eq]; exact hk2
                  clear hek hk3 hmem hk2
                  go_wp2_with fail
                  refine ⟨⟨k + 1, hlk, by rw [show (k : Int) + 1 = ((k + 1 : Nat) : Int) by omega], hend⟩, ?_⟩
                  simp [intOf]
                  omega
              · have hek2 : (ek == 1) = false := by rw [beq_eq_false_iff_ne]; exact hek
                clear hek hmem
                go_wp2_with fail
                refine ⟨⟨k + 1, hlk, by rw [show (k : Int) + 1 = ((k + 1 : Nat) : Int) by omega], hend⟩, ?_⟩
                simp [intOf]
                omega
            · have hkn : ¬ (k : Int) < (en : Int) := by omega
              obtain ⟨⟨n0, n1, n2⟩, -, -⟩ := HAT.out wr HBK.out
              obtain ⟨hT, hnx⟩ := HA.out.next HEE.out HOO.out HX.out.call HX.out.conn HRO.out.bel (fun w2 hg => (HLI.out w2 hg).1) (fun i hi => .inl hi) HBK.out
              rw [← HE1.out, ← HE2.out] at hnx
              unfold valS at hT hnx
              dsimp only at hT hnx
              have HNXT := Lib.hid hnx
              unfold Z3 at hT
              have t0 := blk_cell hT 0
              have t1 := blk_cell hT 1
              have t2 := blk_cell hT 2
              have ft0 := blk_free hT 0
              have ft1 := blk_free hT 1
              have ft2 := blk_free hT 2
              simp only [List.getElem?_toArray, List.getElem?_cons_succ, List.getElem?_cons_zero] at t0 t1 t2
              clear hT hnx c0 c1 c2 c3 c4 c5 c6 c7
              go_wp2_with fail
              refine ⟨⟨i + 1, o.next, pa, xn, pc, hlt, by rw [show (i : Int) + 1 = ((i + 1 : Nat) : Int) by omega], HNXT, HOM⟩, ?_⟩
              simp [intOf]
              omega
  · have hie : i = vn := by omega
    have hin2 : ¬ (i : Int) < (vn : Int) := by omega
    have HON := Lib.hid (once_any s (xa, xn, xc) wr (HA.out.sta (.refl _ _)))
    have hbw : Below w.heap.size w wr := HB5.out.trans (HA.out.gb.below HB5.out.size (fun j (q : j = T) => by rw [q]; exact HTW.out))
    have HBW := Lib.hid hbw
    have hT := HA.out.st
    unfold Z3 at hT
    unfold valS at hT HON
    dsimp only at hT HON
    have t0 := blk_cell hT 0
    have t1 := blk_cell hT 1
    have t2 := blk_cell hT 2
    simp only [List.getElem?_toArray, List.getElem?_cons_succ, List.getElem?_cons_zero] at t0 t1 t2
    clear hT hbw hie hlt hiN
    go_wp2_with fail
    refine HON.out.mono ?_
    rintro e w6 ⟨rfl, hb6⟩
    have HB6 := Lib.hid (HBW.out.trans (hb6.mono HBW.out.size))
    clear hb6
    go_wp2_with fail
    refine (awake_any _).mono ?_
    rintro e w7 ⟨rfl, hb7⟩
    have HF := Lib.hid (HB6.out.trans (hb7.mono HB6.out.size))
    clear hb7
    go_wp2
    go_ret
    exact ⟨rfl, HF.out⟩
theorem limits_any (lims : List Md.Lim) (u : SlV) (acts : List (Md.Call × Int)) (v : SlV) (w : World) (h : ReadsL 4 encLim w (valS u) lims) (h2 : ReadsL 9 encAct w (valS v) acts) (hin : ∀ x ∈ acts, ActIn x) :
 Calls Try.prog 3 #[valS u, valS v] w fun e w' => e = .returned (.bool true) ∧ Below w.heap.size w w' := by
 by_cases hE : (Md.new lims).2 = 0
 · by_cases hbig : acts.length ≤ 80
   · exact limits_loop lims u acts v w h h2 hE hbig hin
   · exact limits_far lims u acts v w h h2 hE (by omega)
 · exact limits_no lims u acts v w h h2 hE
end Go.Proofs.Ytaicmiadgnpimaa
