/-
  The law ModelEnds of layer 26.
-/
import Derived.Test.YtaicmiadgnpimaaMdL6b
import Derived.Deep.DeepCutAuto
import Derived.Deep.CutRange
namespace Go.Proofs.Ytaicmiadgnpimaa
open Go.RowKit

set_option maxHeartbeats 8000000 in
set_option maxRecDepth 100000 in
set_option linter.unusedVariables false in
set_option linter.unusedSimpArgs false in
theorem ends_no (lims : List Md.Lim) (u : SlV) (acts : List (Md.Call × Int)) (v : SlV) (gd : Int) (w : World) (h : ReadsL 4 encLim w (valS u) lims) (h2 : ReadsL 9 encAct w (valS v) acts) (hE : (Md.new lims).2 ≠ 0) :
 Calls Try.prog 6 #[valS u, valS v, .int .u16 gd] w fun e w' => e = .returned (.bool true) ∧ Below w.heap.size w w' := by
 have HB := Lib.hid (begun_no lims u w h hE)
 obtain ⟨ua, un, uc⟩ := u
 obtain ⟨va, vn, vc⟩ := v
 have hun := read_len h
 have hvn := read_len h2
 dsimp only at hun hvn
 unfold valS at *
 dsimp only at *
 clear h h2 hE hun hvn
 go_enter Try.func6, Try.ntmps6
 go_wp2_with fail
 refine HB.out.mono ?_
 rintro e w2 ⟨⟨pa, pn, pc⟩, rfl, -, hb2⟩
 dsimp only
 obtain ⟨nn, hnn⟩ : ∃ x, x = (Md.new lims).1.now := ⟨_, rfl⟩
 obtain ⟨ns, hns⟩ : ∃ x, x = (Md.new lims).1.shut := ⟨_, rfl⟩
 rw [← hnn, ← hns]
 clear hnn hns
 have ha := (Below.refl w2.heap.size w2).alloc (Nat.le_refl _) (.cells #[I64 nn, .bool ns, .slice pa pn pc] 26)
 have HA := Lib.hid (hb2.trans (ha.mono hb2.size))
 clear hb2 ha
 go_wp2_with fail
 refine (awake_any _).mono ?_
 rintro e w3 ⟨rfl, hb3⟩
 have HF := Lib.hid (HA.out.trans (hb3.mono HA.out.size))
 clear hb3
 go_wp2
 go_ret
 exact ⟨rfl, HF.out⟩
set_option maxHeartbeats 8000000 in
set_option maxRecDepth 100000 in
set_option linter.unusedVariables false in
set_option linter.unusedSimpArgs false in
theorem ends_far (lims : List Md.Lim) (u : SlV) (acts : List (Md.Call × Int)) (v : SlV) (gd : Int) (w : World) (h : ReadsL 4 encLim w (valS u) lims) (h2 : ReadsL 9 encAct w (valS v) acts) (hE : (Md.new lims).2 = 0) (hbig : 60 < acts.length) :
 Calls Try.prog 6 #[valS u, valS v, .int .u16 gd] w fun e w' => e = .returned (.bool true) ∧ Below w.heap.size w w' := by
 have HB := Lib.hid (begun_ok lims u w h hE)
 obtain ⟨ua, un, uc⟩ := u
 obtain ⟨va, vn, vc⟩ := v
 have hun := read_len h
 have hvn := read_len h2
 dsimp only at hun hvn
 have hz1 : decide ((60 : Int) < (vn : Int)) = true := decide_eq_true (by omega)
 unfold valS at *
 dsimp only at *
 clear h h2 hE hun hvn hbig
 go_enter Try.func6, Try.ntmps6
 go_wp2_with fail
 refine HB.out.mono ?_
 rintro e w2 ⟨⟨pa, pn, pc⟩, rfl, -, hb2⟩
 dsimp only
 obtain ⟨nn, hnn⟩ : ∃ x, x = (Md.new lims).1.now := ⟨_, rfl⟩
 obtain ⟨ns, hns⟩ : ∃ x, x = (Md.new lims).1.shut := ⟨_, rfl⟩
 rw [← hnn, ← hns]
 clear hnn hns
 have ha := (Below.refl w2.heap.size w2).alloc (Nat.le_refl _) (.cells #[I64 nn, .bool ns, .slice pa pn pc] 26)
 have HA := Lib.hid (hb2.trans (ha.mono hb2.size))
 clear hb2 ha
 go_wp2_with fail
 refine (awake_any _).mono ?_
 rintro e w3 ⟨rfl, hb3⟩
 have HF := Lib.hid (HA.out.trans (hb3.mono HA.out.size))
 clear hb3
 go_wp2
 go_ret
 exact ⟨rfl, HF.out⟩
theorem new_conns {l : List Md.Lim} (h : (Md.new l).2 = 0) : Md.conns (Md.new l).1 = [] := by
 have e : (Md.new l).1.pools = l.map Md.fresh := by
  unfold Md.new at h ⊢
  split
  · rename_i hq
    rw [if_pos hq] at h
    exact absurd h (by decide)
  · rename_i hq
    rw [if_neg hq] at h
    split
    · rfl
    · rename_i ha
      rw [if_neg ha] at h
      exact absurd h (by decide)
 unfold Md.conns
 rw [e]
 refine List.flatMap_eq_nil_iff.2 fun p hp => ?_
 obtain ⟨x, _, rfl⟩ := List.mem_map.1 hp
 rfl
set_option maxHeartbeats 8000000 in
set_option maxRecDepth 100000 in
set_option linter.unusedVariables false in
set_option linter.unusedSimpArgs false in
theorem ends_loop (lims : List Md.Lim) (u : SlV) (acts : List (Md.Call × Int)) (v : SlV) (gd : Int) (w : World) (h : ReadsL 4 encLim w (valS u) lims) (h2 : ReadsL 9 encAct w (valS v) acts) (hE : (Md.new lims).2 = 0) (hbig : acts.length ≤ 60) (hin : ∀ x ∈ acts, ActIn x) (hg0 : 0 ≤ gd) (hg1 : gd ≤ 65535) :
 Calls Try.prog 6 #[valS u, valS v, .int .u16 gd] w fun e w' => e = .returned (.bool true) ∧ Below w.heap.size w w' := by
 have HB := Lib.hid (begun_ok lims u w h hE)
 have hsh := new_short hE
 obtain ⟨hgc, hgl, hgm⟩ := Md.new_good hE
 have HG0 := Lib.hid (Md.check_ok.1 hgc)
 have HB0 := Lib.hid (new_bnd hE)
 have HC0 := Lib.hid (new_conns hE)
 obtain ⟨ua, un, uc⟩ := u
 obtain ⟨va, vn, vc⟩ := v
 have hun := read_len h
 have hvn := read_len h2
 dsimp only at hun hvn
 have hz1 : decide ((60 : Int) < (vn : Int)) = false := decide_eq_false (by omega)
 have hz2 : decide ((16 : Int) < (un : Int)) = false := decide_eq_false (by omega)
 have hvn60 : vn ≤ 60 := by omega
 unfold valS at *
 dsimp only at *
 have HV := Lib.hid h2
 have HVN := Lib.hid hvn
 have HIN := Lib.hid hin
 generalize (Md.new lims).1 = s0 at *
 obtain ⟨nn, hnn⟩ : ∃ x, x = s0.now := ⟨_, rfl⟩
 obtain ⟨ns, hns⟩ : ∃ x, x = s0.shut := ⟨_, rfl⟩
 rw [← hnn, ← hns] at HB
 have HNN := Lib.hid hnn
 have HNS := Lib.hid hns
 clear h h2 hE hun hvn hbig hsh hgc hgl hgm hin hnn hns
 go_enter Try.func6, Try.ntmps6
 go_wp2_with fail
 refine HB.out.mono ?_
 rintro e w2 ⟨⟨pa, pn, pc⟩, rfl, hlies, hb2⟩
 dsimp only at hlies ⊢
 obtain ⟨w5, hw5⟩ : ∃ x, x = (w2.alloc (.cells #[I64 nn, .bool ns, .slice pa pn pc] 26)).alloc (.cells #[.slice none 0 0] 54) := ⟨_, rfl⟩
 obtain ⟨T, hT⟩ : ∃ x, x = w2.heap.size := ⟨_, rfl⟩
 have H5 : Hid (Below w.heap.size w w5 ∧ LawE w5 T (T + 1) s0 (pa, pn, pc) (none, 0, 0) [] w5 ∧ w5.heap.size = T + 2 ∧ w.heap.size ≤ T) := by
  have a1 := (Below.refl w2.heap.size w2).alloc (Nat.le_refl _) (.cells #[I64 nn, .bool ns, .slice pa pn pc] 26)
  have a2 := a1.alloc a1.size (.cells #[.slice none 0 0] 54)
  have s1 : (w2.alloc (.cells #[I64 nn, .bool ns, .slice pa pn pc] 26)).heap.size = T + 1 := by rw [hT]; simp
  have s2 : ((w2.alloc (.cells #[I64 nn, .bool ns, .slice pa pn pc] 26)).alloc (.cells #[.slice none 0 0] 54)).heap.size = T + 2 := by rw [hT]; simp
  have b1 := blk_new w2 (.cells #[I64 nn, .bool ns, .slice pa pn pc] 26)
  have b2 := blk_new (w2.alloc (.cells #[I64 nn, .bool ns, .slice pa pn pc] 26)) (.cells #[.slice none 0 0] 54)
  have c2 := (Below.refl (w2.alloc (.cells #[I64 nn, .bool ns, .slice pa pn pc] 26)).heap.size (w2.alloc (.cells #[I64 nn, .bool ns, .slice pa pn pc] 26))).alloc (Nat.le_refl _) (.cells #[.slice none 0 0] 54)
  have d1 := (c2.block _ (by rw [s1, hT]; omega)).trans b1
  rw [s1] at b2
  rw [← hw5] at a2 b2 d1 s2
  rw [← hT] at d1
  have hbw := hb2.trans (a2.mono hb2.size)
  refine ⟨hbw, ⟨HG0.out, HB0.out, by omega, by omega, by rw [← HNN.out, ← HNS.out]; exact d1, b2, OwnL.nil _ _, by rw [HC0.out], fun w4 hg => hlies w4 ((Gb.of_below a2).then hg (fun i hi q => by rcases q with (q | q) | q <;> first | omega | cases q)), .refl _ _⟩, s2, by rw [hT]; exact hb2.size⟩
 clear hlies hb2
 go_wp2_with fail
 simp only [← hw5, ← hT]
 clear hw5 hT
 go_loopw [10, 11, 12] (fun iv _ _ wr => ∃ i : Nat, ∃ s : Md.State, ∃ xa xn xc ya yn yc O, i ≤ vn ∧ iv = .int .i64 i ∧ Hid (LawE w5 T (T + 1) s (xa, xn, xc) (ya, yn, yc) O wr)) (fun iv _ _ _ => vn - (intOf iv).toNat)
 case atStart => exact ⟨0, s0, pa, pn, pc, none, 0, 0, [], Nat.zero_le _, rfl, H5.out.2.1⟩
 case round =>
  obtain ⟨wv, hwv⟩ : ∃ x, x = wr := ⟨_, rfl⟩
  subst hwv
  obtain ⟨i, s, xa, xn, xc, ya, yn, yc, O, hiN, rfl, HA⟩ := hrel
  have HBW : Hid (Below w.heap.size w wv) := H5.out.1.trans (HA.out.gb.below H5.out.1.size (fun j q => by have := H5.out.2.2.2; rcases q with q | q <;> omega))
  by_cases hlt : i < vn
  · have hiv : i < acts.length := by rw [← HVN.out]; exact hlt
    obtain ⟨ga, oa, ca, e, _, hca⟩ := HV.out.form (by intro e; rw [e] at hiv; simp at hiv)
    injection e with e1 e2 e3
    replace e1 : va = some ⟨ga, oa, none⟩ := e1
    subst e1
    clear e2 e3
    have hrowa := hca i hiv
    have hx := HIN.out _ (List.getElem_mem hiv)
    generalize acts[i] = x at hrowa hx
    obtain ⟨⟨ck, cb, cc, cn, ct, cy, cs, cr⟩, pk⟩ := x
    have hxl : ∀ j v, (encAct (⟨ck, cb, cc, cn, ct, cy, cs, cr⟩, pk))[j]? = some v → w.cell? ⟨ga, oa + i * 9 + j, none⟩ = some v := hrowa
    have HXL := Lib.hid hxl
    have HX := Lib.hid hx
    have HCL : Hid (∀ w1, Gb (fun i => i = T + 1 ∨ (Value.slice ya yn yc).ownBlock = some i) wv w1 → S3 T s.now s.shut (.slice xa xn xc) w1 ∧ C8 ga (oa + i * 9) ⟨ck, cb, cc, cn, ct, cy, cs, cr⟩ w1 ∧ w1.cell? ⟨ga, oa + i * 9 + 8, none⟩ = some (.int .u8 pk)) := fun w1 h1 => by
     have hnS : ∀ j, j < w5.heap.size → j ≠ T + 1 → ¬ (fun i => i = T + 1 ∨ (Value.slice ya yn yc).ownBlock = some i) j := fun j h1 h2 q => by
      rcases q with q | q
      · exact h2 q
      · have := (HA.out.own.lt j q).1
        omega
     have b0 := h1.blk HA.out.st (hnS T HA.out.tlt (by omega))
     have hcc : ∀ j v, (encAct (⟨ck, cb, cc, cn, ct, cy, cs, cr⟩, pk))[j]? = some v → w1.cell? ⟨ga, oa + i * 9 + j, none⟩ = some v := fun j v hv => by
      have q1 := (HBW.out.cell (p := ⟨ga, _, none⟩) (cell_lt (HXL.out j v hv))).trans (HXL.out j v hv)
      have q2 := cell_lt (HXL.out j v hv)
      have q3 := H5.out.2.2.2
      have q4 := H5.out.2.2.1
      exact h1.cellOf (hnS ga (by omega) (by omega)) q1
     exact ⟨⟨blk_cell b0 0, blk_cell b0 1, blk_cell b0 2⟩, ⟨hcc 0 _ rfl, hcc 1 _ rfl, hcc 2 _ rfl, hcc 3 _ rfl, hcc 4 _ rfl, hcc 5 _ rfl, hcc 6 _ rfl, hcc 7 _ rfl⟩, hcc 8 _ rfl⟩
    have HEL : Hid (∀ (w1 : World) (P : Nat → Prop), Below wv.heap.size wv w1 → (∀ i, P i → wv.heap.size ≤ i ∧ i < w1.heap.size) → Calls Try.prog 16 #[.agg #[I64 s.now, .bool s.shut, .slice xa xn xc], .agg #[I64 ck, I64 cb, I64 cc, I64 cn, I64 ct, .bool cy, I64 cs, I64 cr, .int .u8 pk], .pointer (some ⟨T + 1, 0, none⟩)] w1 fun e w' => EndE s ⟨ck, cb, cc, cn, ct, cy, cs, cr⟩ (fun i => ((i = T ∨ i = T + 1) ∨ (Value.slice ya yn yc).ownBlock = some i) ∨ P i) (ya, yn, yc) (T + 1) w5.heap.size w1 e w') := fun w1 P h1 hP => ended_law HA.out ⟨ck, cb, cc, cn, ct, cy, cs, cr⟩ pk w1 h1 P hP HX.out.p0 HX.out.p1 HX.out.call HX.out.conn
    have hltI : (i : Int) < (vn : Int) := by omega
    clear hca hrowa hx hxl hiv
    go_wp2_with fail
    go_cut [11, 12] from 43 to 60 (fun v11 v12 wx => ∃ N s2 nv v2 O2, v11 = .pointer (some ⟨N, 0, none⟩) ∧ v12 = .bool true ∧ Hid (EndOut w5 T (T + 1) s ⟨ck, cb, cc, cn, ct, cy, cs, cr⟩ (ya, yn, yc) wv s2 nv v2 O2 N wx))
    case first =>
     as_aux_lemma =>
      refine wp_region_held_drew (S := fun w1 => Hid (Gb (fun i => i = T + 1 ∨ (Value.slice ya yn yc).ownBlock = some i) wv w1)) (by kernel_rfl) (Gb.of_below (Below.refl _ _).drew) (fun hH0 => ?_)
      refine tk 0 (v := ?vv0_1) (dropAt rfl) (Or.inl ⟨by rfl, ?hv0_1⟩) hH0 ?rv0_1
      case hv0_1 => (intro w hSw; obtain ⟨⟨s0_, s1_, s2_⟩, ⟨c0, c1, c2, c3, c4, c5, c6, c7⟩, c8⟩ := HCL.out _ hSw.out; go_simp; first | done | with_reducible rfl)
      try simp only [Act.put, pu2, pu3, pu4]
      refine tk 1 (v := ?vv1_2) (dropAt rfl) (Or.inl ⟨by rfl, ?hv1_2⟩) hH0 ?rv1_2
      case hv1_2 => (intro w hSw; obtain ⟨⟨s0_, s1_, s2_⟩, ⟨c0, c1, c2, c3, c4, c5, c6, c7⟩, c8⟩ := HCL.out _ hSw.out; go_simp; first | done | with_reducible rfl)
      try simp only [Act.put, pu2, pu3, pu4]
      refine tk 2 (v := ?vv2_3) (dropAt rfl) (Or.inl ⟨by rfl, ?hv2_3⟩) hH0 ?rv2_3
      case hv2_3 => (intro w hSw; obtain ⟨⟨s0_, s1_, s2_⟩, ⟨c0, c1, c2, c3, c4, c5, c6, c7⟩, c8⟩ := HCL.out _ hSw.out; go_simp; first | done | with_reducible rfl)
      try simp only [Act.put, pu2, pu3, pu4]
      refine tk 3 (v := ?vv3_4) (dropAt rfl) (Or.inl ⟨by rfl, ?hv3_4⟩) hH0 ?rv3_4
      case hv3_4 => (intro w hSw; obtain ⟨⟨s0_, s1_, s2_⟩, ⟨c0, c1, c2, c3, c4, c5, c6, c7⟩, c8⟩ := HCL.out _ hSw.out; go_simp; first | done | with_reducible rfl)
      try simp only [Act.put, pu2, pu3, pu4]
      refine tk 4 (v := ?vv4_5) (dropAt rfl) (Or.inl ⟨by rfl, ?hv4_5⟩) hH0 ?rv4_5
      case hv4_5 => (intro w hSw; obtain ⟨⟨s0_, s1_, s2_⟩, ⟨c0, c1, c2, c3, c4, c5, c6, c7⟩, c8⟩ := HCL.out _ hSw.out; go_simp; first | done | with_reducible rfl)
      try simp only [Act.put, pu2, pu3, pu4]
      refine wpAnyH_ready (rs := [5, 9]) (by kernel_rfl) (by simp) ?_
      refine AllReadyH.cons (o := _) (dropAt rfl) (fun K_ hK => ?_) (AllReadyH.cons (o := _) (dropAt rfl) (fun K_ hK => ?_) AllReadyH.nil)
      · go_simp
        refine (HEL.out _ (fun _ => False) (Below.refl _ _).drew (fun _ q => q.elim)).mono ?_
        rintro e w3 ⟨s2, ⟨na, nN, nc⟩, v2, O2, rfl, hp⟩
        unfold valS
        dsimp only
        have HP := Lib.hid hp
        have HG3 : Hid (Gb (fun i => i = T + 1 ∨ (Value.slice ya yn yc).ownBlock = some i) wv w3) := (Gb.of_below (Below.refl _ _).drew).then hp.gb (fun i hi q => q)
        refine hK.out _ _ HG3 (fun hH3 => ?_)
        clear hK K_ hp
        try simp only [Act.put, pu2, pu3, pu4]
        refine tk 6 (v := ?vv6_6) (dropAt rfl) (Or.inl ⟨by rfl, ?hv6_6⟩) hH3 ?rv6_6
        case hv6_6 => (intro w hSw; go_simp; first | done | with_reducible rfl)
        try simp only [Act.put, pu2, pu3, pu4]
        refine tk 7 (v := ?vv7_7) (dropAt rfl) (Or.inl ⟨by rfl, ?hv7_7⟩) hH3 ?rv7_7
        case hv7_7 => (intro w hSw; go_simp; first | done | with_reducible rfl)
        try simp only [Act.put, pu2, pu3, pu4]
        refine tk 8 (v := ?vv8_8) (dropAt rfl) (Or.inl ⟨by rfl, ?hv8_8⟩) hH3 ?rv8_8
        case hv8_8 => (intro w hSw; go_simp; first | done | with_reducible rfl)
        try simp only [Act.put, pu2, pu3, pu4]
        refine wpAnyH_ready (rs := [9]) (by kernel_rfl) (by simp) ?_
        refine AllReadyH.cons (o := _) (dropAt rfl) (fun K_ hK => ?_) AllReadyH.nil
        go_simp
        have ha := (Below.refl w3.heap.size w3).alloc (Nat.le_refl _) (.cells #[I64 0, .bool false, .slice none 0 0] 26)
        have hbn := blk_new w3 (.cells #[I64 0, .bool false, .slice none 0 0] 26)
        obtain ⟨wa, hwa⟩ : ∃ x, x = w3.alloc (.cells #[I64 0, .bool false, .slice none 0 0] 26) := ⟨_, rfl⟩
        rw [← hwa] at ha hbn
        have HA6 := Lib.hid ha
        have HG4 : Hid (Gb (fun i => i = T + 1 ∨ (Value.slice ya yn yc).ownBlock = some i) wv wa) := HG3.out.trans (.of_below ha)
        show K_ _ (w3.alloc (.cells #[I64 0, .bool false, .slice none 0 0] 26))
        rw [← hwa]
        refine hK.out _ _ HG4 (fun hH7 => ?_)
        clear hK K_ ha hwa
        try simp only [Act.put, pu2, pu3, pu4]
        obtain ⟨wz, hwz⟩ : ∃ x, x = (((wa.setCell ⟨w3.heap.size, 0, none⟩ (I64 s2.now)).setCell ⟨w3.heap.size, 1, none⟩ (.bool s2.shut)).setCell ⟨w3.heap.size, 2, none⟩ (.slice na nN nc)) := ⟨_, rfl⟩
        have HEO : Hid (EndOut w5 T (T + 1) s ⟨ck, cb, cc, cn, ct, cy, cs, cr⟩ (ya, yn, yc) wv s2 (na, nN, nc) v2 O2 (w3.heap.size) wz) := by
         rw [hwz]
         exact EndOut.make HA.out (Below.refl _ _).drew HP.out.gb.size HP.out HA6.out hbn (fun _ q => .inl q) (.inr (Nat.le_refl _))
        have y0 := blk_cell hbn 0
        have y1 := blk_cell hbn 1
        have y2 := blk_cell hbn 2
        have fy0 := blk_free hbn 0
        have fy1 := blk_free hbn 1
        have fy2 := blk_free hbn 2
        simp only [List.getElem?_toArray, List.getElem?_cons_succ, List.getElem?_cons_zero] at y0 y1 y2
        clear hbn
        obtain ⟨mn, hmn⟩ : ∃ x, x = s2.now := ⟨_, rfl⟩
        obtain ⟨ms, hms⟩ : ∃ x, x = s2.shut := ⟨_, rfl⟩
        rw [← hmn, ← hms] at hwz
        rw [← hmn, ← hms]
        clear hmn hms
        refine wpAnyH_ready (rs := [10]) (by kernel_rfl) (by simp) ?_
        refine AllReadyH.cons (o := _) (dropAt rfl) (fun K_ hK => ?_) AllReadyH.nil
        go_simp
        show K_ _ (((wa.setCell ⟨w3.heap.size, 0, none⟩ (I64 mn)).setCell ⟨w3.heap.size, 1, none⟩ (.bool ms)).setCell ⟨w3.heap.size, 2, none⟩ (.slice na nN nc))
        rw [← hwz]
        refine hK.out _ _ HEO.out.gb (fun hHz => ?_)
        clear hK K_ hwz y0 y1 y2 fy0 fy1 fy2
        try simp only [Act.put, pu2, pu3, pu4]
        refine tk 11 (v := ?vv11_9) (dropAt rfl) (Or.inl ⟨by rfl, ?hv11_9⟩) hHz ?rv11_9
        case hv11_9 => (intro w hSw; go_simp; first | done | with_reducible rfl)
        try simp only [Act.put, pu2, pu3, pu4]
        refine wpAnyH_done (by kernel_rfl) ?_ _
        go_wp2_with fail
        go_meet
        exact ⟨w3.heap.size, s2, (na, nN, nc), v2, O2, rfl, rfl, HEO⟩
      · go_simp
        have ha := ((Below.refl wv.heap.size wv).alloc (Nat.le_refl _) (.cells #[I64 0, .bool false, .slice none 0 0] 26)).drew
        have hb15 : ((wv.alloc (.cells #[I64 0, .bool false, .slice none 0 0] 26)).drew).heap[wv.heap.size]? = some (.cells #[I64 0, .bool false, .slice none 0 0] 26) := blk_new wv (.cells #[I64 0, .bool false, .slice none 0 0] 26)
        obtain ⟨wa, hwa⟩ : ∃ x, x = (wv.alloc (.cells #[I64 0, .bool false, .slice none 0 0] 26)).drew := ⟨_, rfl⟩
        rw [← hwa] at ha hb15
        have HA6 := Lib.hid ha
        have HG4 : Hid (Gb (fun i => i = T + 1 ∨ (Value.slice ya yn yc).ownBlock = some i) wv wa) := Gb.of_below ha
        have HL15 := Lib.hid (lt_of_block hb15)
        have HB15 := Lib.hid hb15
        show K_ _ ((wv.alloc (.cells #[I64 0, .bool false, .slice none 0 0] 26)).drew)
        rw [← hwa]
        refine hK.out _ _ HG4 (fun hH7 => ?_)
        clear hK K_ ha hwa hb15
        try simp only [Act.put, pu2, pu3, pu4]
        refine wpAnyH_ready (rs := [5]) (by kernel_rfl) (by simp) ?_
        refine AllReadyH.cons (o := _) (dropAt rfl) (fun K_ hK => ?_) AllReadyH.nil
        go_simp
        refine (HEL.out _ (fun i => i = wv.heap.size) HA6.out (fun i q => ⟨by omega, by rw [q]; exact HL15.out⟩)).mono ?_
        rintro e w3 ⟨s2, ⟨na, nN, nc⟩, v2, O2, rfl, hp⟩
        unfold valS
        dsimp only
        have HP := Lib.hid hp
        have HG3 : Hid (Gb (fun i => i = T + 1 ∨ (Value.slice ya yn yc).ownBlock = some i) wv w3) := HG4.out.then hp.gb (fun i hi q => q)
        have hbn := hp.gb.blk HB15.out (fun q => by
         rcases q with q | q
         · have h1 := lt_of_block HA.out.blk
           omega
         · have h1 := (HA.out.own.lt _ q).2
           omega)
        refine hK.out _ _ HG3 (fun hH3 => ?_)
        clear hK K_ hp
        try simp only [Act.put, pu2, pu3, pu4]
        refine tk 6 (v := ?vv6_10) (dropAt rfl) (Or.inl ⟨by rfl, ?hv6_10⟩) hH3 ?rv6_10
        case hv6_10 => (intro w hSw; go_simp; first | done | with_reducible rfl)
        try simp only [Act.put, pu2, pu3, pu4]
        refine tk 7 (v := ?vv7_11) (dropAt rfl) (Or.inl ⟨by rfl, ?hv7_11⟩) hH3 ?rv7_11
        case hv7_11 => (intro w hSw; go_simp; first | done | with_reducible rfl)
        try simp only [Act.put, pu2, pu3, pu4]
        refine tk 8 (v := ?vv8_12) (dropAt rfl) (Or.inl ⟨by rfl, ?hv8_12⟩) hH3 ?rv8_12
        case hv8_12 => (intro w hSw; go_simp; first | done | with_reducible rfl)
        try simp only [Act.put, pu2, pu3, pu4]
        obtain ⟨wz, hwz⟩ : ∃ x, x = (((w3.setCell ⟨wv.heap.size, 0, none⟩ (I64 s2.now)).setCell ⟨wv.heap.size, 1, none⟩ (.bool s2.shut)).setCell ⟨wv.heap.size, 2, none⟩ (.slice na nN nc)) := ⟨_, rfl⟩
        have HEO : Hid (EndOut w5 T (T + 1) s ⟨ck, cb, cc, cn, ct, cy, cs, cr⟩ (ya, yn, yc) wv s2 (na, nN, nc) v2 O2 (wv.heap.size) wz) := by
         rw [hwz]
         exact EndOut.make HA.out HA6.out (Nat.le_refl _) HP.out (.refl _ _) hbn (fun _ q => .inl q) (.inl ⟨HL15.out, .inr rfl⟩)
        have y0 := blk_cell hbn 0
        have y1 := blk_cell hbn 1
        have y2 := blk_cell hbn 2
        have fy0 := blk_free hbn 0
        have fy1 := blk_free hbn 1
        have fy2 := blk_free hbn 2
        simp only [List.getElem?_toArray, List.getElem?_cons_succ, List.getElem?_cons_zero] at y0 y1 y2
        clear hbn
        obtain ⟨mn, hmn⟩ : ∃ x, x = s2.now := ⟨_, rfl⟩
        obtain ⟨ms, hms⟩ : ∃ x, x = s2.shut := ⟨_, rfl⟩
        rw [← hmn, ← hms] at hwz
        rw [← hmn, ← hms]
        clear hmn hms
        refine wpAnyH_ready (rs := [10]) (by kernel_rfl) (by simp) ?_
        refine AllReadyH.cons (o := _) (dropAt rfl) (fun K_ hK => ?_) AllReadyH.nil
        go_simp
        show K_ _ (((w3.setCell ⟨wv.heap.size, 0, none⟩ (I64 mn)).setCell ⟨wv.heap.size, 1, none⟩ (.bool ms)).setCell ⟨wv.heap.size, 2, none⟩ (.slice na nN nc))
        rw [← hwz]
        refine hK.out _ _ HEO.out.gb (fun hHz => ?_)
        clear hK K_ hwz y0 y1 y2 fy0 fy1 fy2
        try simp only [Act.put, pu2, pu3, pu4]
        refine tk 11 (v := ?vv11_13) (dropAt rfl) (Or.inl ⟨by rfl, ?hv11_13⟩) hHz ?rv11_13
        case hv11_13 => (intro w hSw; go_simp; first | done | with_reducible rfl)
        try simp only [Act.put, pu2, pu3, pu4]
        refine wpAnyH_done (by kernel_rfl) ?_ _
        go_wp2_with fail
        go_meet
        exact ⟨wv.heap.size, s2, (na, nN, nc), v2, O2, rfl, rfl, HEO⟩
    case rest =>
     obtain ⟨N, s2, ⟨na, nN, nc⟩, ⟨qa, qn, qc⟩, O2, rfl, rfl, HEO⟩ := hcut
     obtain ⟨w8, hw8⟩ : ∃ x, x = wc := ⟨_, rfl⟩
     subst hw8
     have hb8 := HEO.out.b
     unfold Z3 valS at hb8
     dsimp only at hb8
     have y0 := blk_cell hb8 0
     have y1 := blk_cell hb8 1
     have y2 := blk_cell hb8 2
     have fy0 := blk_free hb8 0
     have fy1 := blk_free hb8 1
     have fy2 := blk_free hb8 2
     simp only [List.getElem?_toArray, List.getElem?_cons_succ, List.getElem?_cons_zero] at y0 y1 y2
     obtain ⟨hT, hnx⟩ := EndOut.law HA.out (by omega) HEO.out (.refl _ _)
     unfold Z3 valS at hT
     unfold valS at hnx
     dsimp only at hT hnx
     have HNX := Lib.hid hnx
     have t0 := blk_cell hT 0
     have t1 := blk_cell hT 1
     have t2 := blk_cell hT 2
     have ft0 := blk_free hT 0
     have ft1 := blk_free hT 1
     have ft2 := blk_free hT 2
     simp only [List.getElem?_toArray, List.getElem?_cons_succ, List.getElem?_cons_zero] at t0 t1 t2
     obtain ⟨mn, hmn⟩ : ∃ x, x = s2.now := ⟨_, rfl⟩
     obtain ⟨ms, hms⟩ : ∃ x, x = s2.shut := ⟨_, rfl⟩
     rw [← hmn, ← hms] at HNX
     rw [← hmn] at y0
     rw [← hms] at y1
     clear hmn hms hb8 hT hnx
     go_wp2_with fail
     refine ⟨⟨i + 1, s2, na, nN, nc, qa, qn, qc, O2, hlt, by rw [show (i : Int) + 1 = ((i + 1 : Nat) : Int) by omega], HNX⟩, ?_⟩
     simp [intOf]
     omega
  · have hin2 : ¬ (i : Int) < (vn : Int) := by omega
    have hTv := HA.out.st
    unfold Z3 valS at hTv
    dsimp only at hTv
    have n0 := blk_cell hTv 0
    have n1 := blk_cell hTv 1
    have n2 := blk_cell hTv 2
    simp only [List.getElem?_toArray, List.getElem?_cons_succ, List.getElem?_cons_zero] at n0 n1 n2
    clear hTv
    have HEL : Hid (Calls Try.prog 16 #[.agg #[I64 s.now, .bool s.shut, .slice xa xn xc], .agg #[I64 6, I64 0, I64 0, I64 0, I64 0, .bool false, I64 0, I64 0, .int .u8 0], .pointer (some ⟨T + 1, 0, none⟩)] wv fun e w' => EndE s ⟨6, 0, 0, 0, 0, false, 0, 0⟩ (fun i => ((i = T ∨ i = T + 1) ∨ (Value.slice ya yn yc).ownBlock = some i) ∨ False) (ya, yn, yc) (T + 1) w5.heap.size wv e w') := ended_law HA.out ⟨6, 0, 0, 0, 0, false, 0, 0⟩ 0 wv (.refl _ _) (fun _ => False) (fun _ q => q.elim) (by omega) (by omega) (by decide) (by decide)
    go_wp2_with fail
    refine HEL.out.mono ?_
    rintro e w3 ⟨s2, ⟨na, nN, nc⟩, ⟨qa, qn, qc⟩, O2, rfl, hp⟩
    unfold valS
    dsimp only
    have hsh : s2.shut = true := by
     have hw := Md.end_close s
     rcases hp.next with ⟨-, hz⟩ | ⟨-, o, ho, e⟩
     · exact absurd (Md.outcomes_zero HA.out.good hw.1) hz
     · rw [e]
       exact hw.2 o ho
    have HSH := Lib.hid hsh
    have HEO := Lib.hid (EndOut.laid HA.out (.refl _ _) hp (fun _ q => .inl q))
    clear hp hsh
    unfold valS at HEO
    dsimp only at HEO
    clear n0 n1 n2
    go_upto_region 13 with fail
    obtain ⟨w8, hw8⟩ : ∃ x, x = w3.alloc (.cells #[I64 s2.now, .bool s2.shut, .slice na nN nc] 26) := ⟨_, rfl⟩
    obtain ⟨N, hN⟩ : ∃ x, x = w3.heap.size := ⟨_, rfl⟩
    rw [← hw8, ← hN] at HEO
    simp only [← hw8, ← hN]
    clear hw8 hN
    have hb8 := HEO.out.b
    unfold Z3 valS at hb8
    dsimp only at hb8
    have y0 := blk_cell hb8 0
    have y1 := blk_cell hb8 1
    have y2 := blk_cell hb8 2
    have fy0 := blk_free hb8 0
    have fy1 := blk_free hb8 1
    have fy2 := blk_free hb8 2
    simp only [List.getElem?_toArray, List.getElem?_cons_succ, List.getElem?_cons_zero] at y0 y1 y2
    obtain ⟨hT, hnx⟩ := EndOut.law HA.out (by omega) HEO.out (.refl _ _)
    unfold Z3 valS at hT
    unfold valS at hnx
    dsimp only at hT hnx
    have HNX := Lib.hid hnx
    have t0 := blk_cell hT 0
    have t1 := blk_cell hT 1
    have t2 := blk_cell hT 2
    have ft0 := blk_free hT 0
    have ft1 := blk_free hT 1
    have ft2 := blk_free hT 2
    simp only [List.getElem?_toArray, List.getElem?_cons_succ, List.getElem?_cons_zero] at t0 t1 t2
    obtain ⟨mn, hmn⟩ : ∃ x, x = s2.now := ⟨_, rfl⟩
    obtain ⟨ms, hms⟩ : ∃ x, x = s2.shut := ⟨_, rfl⟩
    rw [← hmn, ← hms] at HNX
    rw [← hmn] at y0
    rw [← hms] at y1
    clear hmn hms hb8 hT hnx
    have hlen := (HNX.out.sta (.refl _ _)).len
    dsimp only at hlen
    have HLN := Lib.hid hlen
    have hn16 : nN ≤ 16 := by have := HNX.out.good.len2; omega
    clear hlen
    go_wp2_with fail
    clear y0 y1 y2 t0 t1 t2
    go_loopw [15, 16, 17, 18, 19, 20, 21, 22, 23, 24] (fun bv _ _ _ _ _ _ _ _ _ wr => ∃ b : Nat, ∃ s : Md.State, ∃ xa xc ya yn yc O, b ≤ nN ∧ bv = .int .i64 b ∧ Hid (LawE w5 T (T + 1) s (xa, nN, xc) (ya, yn, yc) O wr ∧ s.shut = true ∧ Md.gone0 s b)) (fun bv _ _ _ _ _ _ _ _ _ _ => nN - (intOf bv).toNat)
    case atStart => exact ⟨0, s2, na, nc, qa, qn, qc, O2, Nat.zero_le _, rfl, HNX.out, HSH.out, fun j hj q => absurd q (Nat.not_lt_zero _)⟩
    case round =>
     obtain ⟨wB, hwB⟩ : ∃ x, x = wr := ⟨_, rfl⟩
     subst hwB
     obtain ⟨b, s3, xb, xd, yb, ym, yd, O3, hbN, rfl, HL⟩ := hrel
     have hlen3 := (HL.out.1.sta (.refl _ _)).len
     dsimp only at hlen3
     have HLN3 := Lib.hid hlen3
     have hT3 := HL.out.1.st
     unfold Z3 valS at hT3
     dsimp only at hT3
     have t0 := blk_cell hT3 0
     have t1 := blk_cell hT3 1
     have t2 := blk_cell hT3 2
     simp only [List.getElem?_toArray, List.getElem?_cons_succ, List.getElem?_cons_zero] at t0 t1 t2
     clear hT3
     by_cases hlt3 : b < nN
     · have hbs : b < s3.pools.length := by rw [← HLN3.out]; exact hlt3
       obtain ⟨pvs, hpv⟩ := lies_rd HL.out.1.lies
       have hbp : b < pvs.length := by rw [(hpv wB (.refl _ _)).2.1]; exact hbs
       obtain ⟨g, o, cp, e, _, hcp⟩ := (hpv wB (.refl _ _)).1.form (by intro e; rw [e] at hbp; simp at hbp)
       unfold valS at e
       injection e with f1 f2 f3
       replace f1 : xb = some ⟨g, o, none⟩ := f1
       subst f1
       clear f2 f3
       have hrow := hcp b hbp
       have hq := fun w2 hg => (hpv w2 hg).2.2 b hbp hbs
       generalize pvs[b] = pv at hrow hq
       obtain ⟨⟨mx, qu, id, ag⟩, ⟨ia, iN, ic⟩, ⟨la, lN, lc⟩, ⟨da, dN, dc⟩, ⟨wa, wN, wc2⟩, up, br, pr⟩ := pv
       have m5 : wB.cell? ⟨g, o + b * 11 + 5, none⟩ = some (.slice la lN lc) := hrow 5 _ rfl
       have m6 : wB.cell? ⟨g, o + b * 11 + 6, none⟩ = some (.slice da dN dc) := hrow 6 _ rfl
       have HDR : Hid (∀ w2, Gb (fun i => (i = T ∨ i = T + 1) ∨ (Value.slice yb ym yd).ownBlock = some i) wB w2 → ReadsL 2 encDial w2 (.slice da dN dc) s3.pools[b].dials) := fun w2 hg => (hq w2 hg).dials
       have HLR : Hid (∀ w2, Gb (fun i => (i = T ∨ i = T + 1) ∨ (Value.slice yb ym yd).ownBlock = some i) wB w2 → ReadsL 3 encLease w2 (.slice la lN lc) s3.pools[b].leases) := fun w2 hg => (hq w2 hg).leases
       obtain ⟨D, hD⟩ : ∃ x, x = s3.pools[b].dials := ⟨_, rfl⟩
       obtain ⟨LL, hLL⟩ : ∃ x, x = s3.pools[b].leases := ⟨_, rfl⟩
       rw [← hD] at HDR
       rw [← hLL] at HLR
       have HD := Lib.hid hD
       have HLL := Lib.hid hLL
       have hdN : dN = D.length := read_len (u := (da, dN, dc)) (HDR.out wB (.refl _ _))
       have hlN : lN = LL.length := read_len (u := (la, lN, lc)) (HLR.out wB (.refl _ _))
       have hsm := good_small HL.out.1.good _ (List.getElem_mem hbs)
       unfold PoolSmall at hsm
       rw [← hD, ← hLL] at hsm
       have hd9 : dN ≤ 200000 ∧ lN ≤ 200000 := ⟨by omega, by omega⟩
       obtain ⟨hd9, hl9⟩ := hd9
       have HDN := Lib.hid hdN
       have HLNN := Lib.hid hlN
       have hbI : (b : Int) < (nN : Int) := by omega
       clear hsm hD hLL hdN hlN hrow hq hcp hpv hbp hlen3
       go_wp2_with fail
       go_quiet (fail)
       go_wp2_with fail
       obtain ⟨wQ, hwQ⟩ : ∃ x, x = wB.drewN nq := ⟨_, rfl⟩
       have HBQ : Hid (Below wB.heap.size wB wQ) := by
        rw [hwQ]
        exact below_drewN (.refl _ _) _
       simp only [← hwQ]
       clear hwQ t0 t1 t2 m5 m6
       have HDL : Hid (RdE w5 wB T (yb, ym, yd) s3 (some ⟨g, o, none⟩, nN, xd) (yb, ym, yd) O3 wQ ∧ Md.DlAt D LL b 0 nN s3) := ⟨⟨HL.out.1.below HBQ.out, .of_below HBQ.out, fun _ q => .inl q⟩, HL.out.2.1, HL.out.2.2, HLN3.out.symm, hbs, by rw [← HD.out]; rfl, HLL.out.symm⟩
       go_loopw [18, 19, 20, 21] (fun kv _ _ _ wr => ∃ k : Nat, ∃ s4 : Md.State, ∃ xa xc ya yn yc O, k ≤ dN ∧ kv = .int .i64 k ∧ Hid (RdE w5 wB T (yb, ym, yd) s4 (xa, nN, xc) (ya, yn, yc) O wr ∧ Md.DlAt D LL b k nN s4)) (fun kv _ _ _ _ => dN - (intOf kv).toNat)
       case atStart => exact ⟨0, s3, some ⟨g, o, none⟩, xd, yb, ym, yd, O3, Nat.zero_le _, rfl, HDL⟩
       case round =>
        obtain ⟨wR, hwR⟩ : ∃ x, x = wr := ⟨_, rfl⟩
        subst hwR
        obtain ⟨k, s4, xk, xj, yk, yj, yi, O4, hkN, rfl, HK3⟩ := hrel
        by_cases hlk : k < dN
        · have hkl : k < D.length := by rw [← HDN.out]; exact hlk
          have HKL := Lib.hid hkl
          have hdr := HDR.out wR HK3.out.1.gb
          obtain ⟨gq, oq, cq, e, hgq, hcq⟩ := hdr.form (by intro e; rw [e] at hkl; simp at hkl)
          injection e with f1 f2 f3
          replace f1 : da = some ⟨gq, oq, none⟩ := f1
          subst f1
          clear f2 f3
          obtain ⟨dcl, hdc⟩ : ∃ x, x = D[k].1 := ⟨_, rfl⟩
          have hq0 : wR.cell? ⟨gq, oq + k * 2, none⟩ = some (I64 dcl) := by rw [hdc]; exact hcq k hkl 0 _ rfl
          have HDC := Lib.hid hdc
          have HQ0 := Lib.hid hq0
          have HCW : Hid (∀ w1, Below wR.heap.size wR w1 → S3 T s4.now s4.shut (.slice xk nN xj) w1 ∧ w1.cell? ⟨gq, oq + k * 2, none⟩ = some (I64 dcl)) := fun w1 h1 => by
           have b0 := (h1.block _ (lt_of_block HK3.out.1.law.st)).trans HK3.out.1.law.st
           exact ⟨⟨blk_cell b0 0, blk_cell b0 1, blk_cell b0 2⟩, (h1.cell (p := ⟨gq, _, none⟩) hgq).trans HQ0.out⟩
          have HFR : Hid (∀ w1, Below wR.heap.size wR w1 → Calls Try.prog 17 #[.agg #[I64 s4.now, .bool s4.shut, .slice xk nN xj]] w1 fun e w' => ∃ n : Int, e = .returned (I64 n) ∧ 1 ≤ n ∧ n ≤ 5000000 ∧ n ∉ Md.conns s4 ∧ Below w1.heap.size w1 w') := fun w1 h1 => fresh_any s4 (xk, nN, xj) w1 (HK3.out.1.law.sta h1)
          obtain ⟨sv, hsv⟩ : ∃ x, x = (gd / 2 ^ min ((k : Int).tmod 16).toNat IntKind.u16.bits) := ⟨_, rfl⟩
          have hsh9 : Op.shift .shr .u16 gd .i64 ((k : Int).tmod 16) = pure (.int .u16 sv) := by
           rw [hsv]
           exact shift_shr_any .u16 .i64 gd _ (Int.tmod_nonneg _ (by omega))
          have HSH9 := Lib.hid hsh9
          obtain ⟨yes, hyes⟩ : ∃ x, x = ((sv.tmod 2 : Int) == 1) := ⟨_, rfl⟩
          have HYES := Lib.hid hyes
          clear hyes
          clear hsh9 hsv
          have hkI : (k : Int) < (dN : Int) := by omega
          have hk0 : (0 : Int) ≤ (k : Int) := by omega
          clear hdr hcq hq0 hdc
          go_wp2_with fail
          go_cut [19] from 90 to 120 (fun v19 wx => ∃ N, ∃ cn : Int, ∃ yes : Bool, v19 = .pointer (some ⟨N, 0, none⟩) ∧ Hid (DlB s4 b dcl cn yes wR N wx))
          case first =>
           skip
           · skip
             refine wp_region_held_drew (S := fun w1 => Hid (Below wR.heap.size wR w1)) (by kernel_rfl) ((Below.refl _ _).drew) (fun hH0 => ?_)
             refine tk 0 (v := ?vv0_14) (dropAt rfl) (Or.inl ⟨by rfl, ?hv0_14⟩) hH0 ?rv0_14
             case hv0_14 => (intro w hSw; obtain ⟨⟨s0_, s1_, s2_⟩, q0⟩ := HCW.out _ hSw.out; go_simp; first | done | with_reducible rfl)
             try simp only [Act.put, pu2, pu3, pu4]
             refine tk 1 (v := ?vv1_15) (dropAt rfl) (Or.inl ⟨by rfl, ?hv1_15⟩) hH0 ?rv1_15
             case hv1_15 => (intro w hSw; obtain ⟨⟨s0_, s1_, s2_⟩, q0⟩ := HCW.out _ hSw.out; go_simp; first | done | with_reducible rfl)
             try simp only [Act.put, pu2, pu3, pu4]
             refine tk 2 (v := ?vv2_16) (dropAt rfl) (Or.inl ⟨by rfl, ?hv2_16⟩) hH0 ?rv2_16
             case hv2_16 => (intro w hSw; obtain ⟨⟨s0_, s1_, s2_⟩, q0⟩ := HCW.out _ hSw.out; go_simp; first | done | with_reducible rfl)
             try simp only [Act.put, pu2, pu3, pu4]
             refine tk 3 (v := ?vv3_17) (dropAt rfl) (Or.inl ⟨by rfl, ?hv3_17⟩) hH0 ?rv3_17
             case hv3_17 => (intro w hSw; obtain ⟨⟨s0_, s1_, s2_⟩, q0⟩ := HCW.out _ hSw.out; go_simp; first | done | with_reducible rfl)
             try simp only [Act.put, pu2, pu3, pu4]
             refine tk 4 (v := ?vv4_18) (dropAt rfl) (Or.inl ⟨by rfl, ?hv4_18⟩) hH0 ?rv4_18
             case hv4_18 => (intro w hSw; obtain ⟨⟨s0_, s1_, s2_⟩, q0⟩ := HCW.out _ hSw.out; go_simp; first | done | with_reducible rfl)
             try simp only [Act.put, pu2, pu3, pu4]
             refine tk 5 (v := ?vv5_19) (dropAt rfl) (Or.inl ⟨by rfl, ?hv5_19⟩) hH0 ?rv5_19
             case hv5_19 => (intro w hSw; obtain ⟨⟨s0_, s1_, s2_⟩, q0⟩ := HCW.out _ hSw.out; go_simp; first | done | with_reducible rfl)
             try simp only [Act.put, pu2, pu3, pu4]
             refine tk 6 (v := ?vv6_20) (dropAt rfl) (Or.inl ⟨by rfl, ?hv6_20⟩) hH0 ?rv6_20
             case hv6_20 => (intro w hSw; obtain ⟨⟨s0_, s1_, s2_⟩, q0⟩ := HCW.out _ hSw.out; go_simp; first | done | with_reducible rfl)
             try simp only [Act.put, pu2, pu3, pu4]
             refine tk 7 (v := ?vv7_21) (dropAt rfl) (Or.inl ⟨by rfl, ?hv7_21⟩) hH0 ?rv7_21
             case hv7_21 => (intro w hSw; obtain ⟨⟨s0_, s1_, s2_⟩, q0⟩ := HCW.out _ hSw.out; go_simp; first | done | with_reducible rfl)
             try simp only [Act.put, pu2, pu3, pu4]
             refine tk 8 (v := ?vv8_22) (dropAt rfl) (Or.inl ⟨by rfl, ?hv8_22⟩) hH0 ?rv8_22
             case hv8_22 => (intro w hSw; go_simp; first | done | with_reducible rfl)
             try simp only [Act.put, pu2, pu3, pu4]
             refine tk 9 (v := ?vv9_23) (dropAt rfl) (Or.inl ⟨by rfl, ?hv9_23⟩) hH0 ?rv9_23
             case hv9_23 => (intro w hSw; go_simp; rw [HSH9.out]; go_simp; first | done | with_reducible rfl)
             try simp only [Act.put, pu2, pu3, pu4]
             refine tk 10 (v := ?vv10_24) (dropAt rfl) (Or.inl ⟨by rfl, ?hv10_24⟩) hH0 ?rv10_24
             case hv10_24 => (intro w hSw; go_simp; first | done | with_reducible rfl)
             try simp only [Act.put, pu2, pu3, pu4]
             refine tk 11 (v := ?vv11_25) (dropAt rfl) (Or.inl ⟨by rfl, ?hv11_25⟩) hH0 ?rv11_25
             case hv11_25 => (intro w hSw; go_simp; rw [← HYES.out]; first | done | with_reducible rfl)
             try simp only [Act.put, pu2, pu3, pu4]
             refine tk 12 (v := ?vv12_26) (dropAt rfl) (Or.inl ⟨by rfl, ?hv12_26⟩) hH0 ?rv12_26
             case hv12_26 => (intro w hSw; obtain ⟨⟨s0_, s1_, s2_⟩, q0⟩ := HCW.out _ hSw.out; go_simp; first | done | with_reducible rfl)
             try simp only [Act.put, pu2, pu3, pu4]
             refine wpAnyH_ready (rs := [13, 15]) (by kernel_rfl) (by simp) ?_
             refine AllReadyH.cons (o := _) (dropAt rfl) (fun K_ hK => ?_) (AllReadyH.cons (o := _) (dropAt rfl) (fun K_ hK => ?_) AllReadyH.nil)
             · go_simp
               refine (HFR.out _ (Below.refl _ _).drew).mono ?_
               rintro e w3 ⟨cn, rfl, hc1, hc5, hcn, hb3⟩
               have HG3 : Hid (Below wR.heap.size wR w3) := ((Below.refl wR.heap.size wR).drew).trans hb3
               refine hK.out _ _ HG3 (fun hH3 => ?_)
               clear hK K_ hb3
               try simp only [Act.put, pu2, pu3, pu4]
               refine wpAnyH_take (i := 14) (oi := _) (v := .agg #[I64 2, I64 b, I64 dcl, I64 cn, I64 0, .bool yes, I64 0, I64 0]) (dropAt rfl) (by kernel_rfl) (by kernel_rfl) (by kernel_rfl) (fun _ _ _ h => h) (Or.inl ⟨by rfl, ?hv14_27⟩) hH3 ?rv14_27
               case hv14_27 => (intro w hSw; go_simp; first | done | with_reducible rfl)
               try simp only [Act.put, pu2, pu3, pu4]
               refine wpAnyH_ready (rs := [15]) (by kernel_rfl) (by simp) ?_
               refine AllReadyH.cons (o := _) (dropAt rfl) (fun K_ hK => ?_) AllReadyH.nil
               go_simp
               have hle : wR.heap.size ≤ w3.heap.size := HG3.out.size
               have hbn := blk_new w3 (.cells #[I64 0, I64 0, I64 0, I64 0, I64 0, .bool false, I64 0, I64 0] 36)
               have HG4 : Hid (Below wR.heap.size wR (w3.alloc (.cells #[I64 0, I64 0, I64 0, I64 0, I64 0, .bool false, I64 0, I64 0] 36))) := HG3.out.alloc hle _
               obtain ⟨wa, hwa⟩ : ∃ x, x = w3.alloc (.cells #[I64 0, I64 0, I64 0, I64 0, I64 0, .bool false, I64 0, I64 0] 36) := ⟨_, rfl⟩
               rw [← hwa] at hbn HG4
               show K_ _ (w3.alloc (.cells #[I64 0, I64 0, I64 0, I64 0, I64 0, .bool false, I64 0, I64 0] 36))
               rw [← hwa]
               refine hK.out _ _ HG4 (fun hH7 => ?_)
               clear hK K_ hwa
               try simp only [Act.put, pu2, pu3, pu4]
               have y0 := blk_cell hbn 0
               have y1 := blk_cell hbn 1
               have y2 := blk_cell hbn 2
               have y3 := blk_cell hbn 3
               have y4 := blk_cell hbn 4
               have y5 := blk_cell hbn 5
               have y6 := blk_cell hbn 6
               have y7 := blk_cell hbn 7
               have fy0 := blk_free hbn 0
               have fy1 := blk_free hbn 1
               have fy2 := blk_free hbn 2
               have fy3 := blk_free hbn 3
               have fy4 := blk_free hbn 4
               have fy5 := blk_free hbn 5
               have fy6 := blk_free hbn 6
               have fy7 := blk_free hbn 7
               simp only [List.getElem?_toArray, List.getElem?_cons_succ, List.getElem?_cons_zero] at y0 y1 y2 y3 y4 y5 y6 y7
               have HDB : Hid (DlB s4 b dcl cn yes wR (w3.heap.size) ((((((((wa.setCell ⟨w3.heap.size, 0, none⟩ (I64 2)).setCell ⟨w3.heap.size, 1, none⟩ (I64 b)).setCell ⟨w3.heap.size, 2, none⟩ (I64 dcl)).setCell ⟨w3.heap.size, 3, none⟩ (I64 cn)).setCell ⟨w3.heap.size, 4, none⟩ (I64 0)).setCell ⟨w3.heap.size, 5, none⟩ (.bool yes)).setCell ⟨w3.heap.size, 6, none⟩ (I64 0)).setCell ⟨w3.heap.size, 7, none⟩ (I64 0))) := ⟨by
                have q := (blk_set (blk_set (blk_set (blk_set (blk_set (blk_set (blk_set (blk_set hbn 0 (I64 2)) 1 (I64 b)) 2 (I64 dcl)) 3 (I64 cn)) 4 (I64 0)) 5 (.bool yes)) 6 (I64 0)) 7 (I64 0))
                rw [q]
                simp, ((((((((HG4.out.setCell (p := ⟨w3.heap.size, 0, none⟩) hle _).setCell (p := ⟨w3.heap.size, 1, none⟩) hle _).setCell (p := ⟨w3.heap.size, 2, none⟩) hle _).setCell (p := ⟨w3.heap.size, 3, none⟩) hle _).setCell (p := ⟨w3.heap.size, 4, none⟩) hle _).setCell (p := ⟨w3.heap.size, 5, none⟩) hle _).setCell (p := ⟨w3.heap.size, 6, none⟩) hle _).setCell (p := ⟨w3.heap.size, 7, none⟩) hle _), hc1, hc5, hcn⟩
               have HGz : Hid (Below wR.heap.size wR ((((((((wa.setCell ⟨w3.heap.size, 0, none⟩ (I64 2)).setCell ⟨w3.heap.size, 1, none⟩ (I64 b)).setCell ⟨w3.heap.size, 2, none⟩ (I64 dcl)).setCell ⟨w3.heap.size, 3, none⟩ (I64 cn)).setCell ⟨w3.heap.size, 4, none⟩ (I64 0)).setCell ⟨w3.heap.size, 5, none⟩ (.bool yes)).setCell ⟨w3.heap.size, 6, none⟩ (I64 0)).setCell ⟨w3.heap.size, 7, none⟩ (I64 0))) := HDB.out.below
               clear hbn
               refine wpAnyH_ready (rs := [16]) (by kernel_rfl) (by simp) ?_
               refine AllReadyH.cons (o := _) (dropAt rfl) (fun K_ hK => ?_) AllReadyH.nil
               go_simp
               show K_ _ ((((((((wa.setCell ⟨w3.heap.size, 0, none⟩ (I64 2)).setCell ⟨w3.heap.size, 1, none⟩ (I64 b)).setCell ⟨w3.heap.size, 2, none⟩ (I64 dcl)).setCell ⟨w3.heap.size, 3, none⟩ (I64 cn)).setCell ⟨w3.heap.size, 4, none⟩ (I64 0)).setCell ⟨w3.heap.size, 5, none⟩ (.bool yes)).setCell ⟨w3.heap.size, 6, none⟩ (I64 0)).setCell ⟨w3.heap.size, 7, none⟩ (I64 0))
               refine hK.out _ _ HGz (fun hHz => ?_)
               clear hK K_ y0 y1 y2 y3 y4 y5 y6 y7 fy0 fy1 fy2 fy3 fy4 fy5 fy6 fy7
               try simp only [Act.put, pu2, pu3, pu4]
               refine wpAnyH_done (by kernel_rfl) ?_ _
               go_wp2_with fail
               go_meet
               exact ⟨_, cn, yes, rfl, HDB⟩
             · go_simp
               have ha := ((Below.refl wR.heap.size wR).alloc (Nat.le_refl _) (.cells #[I64 0, I64 0, I64 0, I64 0, I64 0, .bool false, I64 0, I64 0] 36)).drew
               have hb15 : ((wR.alloc (.cells #[I64 0, I64 0, I64 0, I64 0, I64 0, .bool false, I64 0, I64 0] 36)).drew).heap[wR.heap.size]? = some (.cells #[I64 0, I64 0, I64 0, I64 0, I64 0, .bool false, I64 0, I64 0] 36) := blk_new wR (.cells #[I64 0, I64 0, I64 0, I64 0, I64 0, .bool false, I64 0, I64 0] 36)
               obtain ⟨wb, hwb⟩ : ∃ x, x = (wR.alloc (.cells #[I64 0, I64 0, I64 0, I64 0, I64 0, .bool false, I64 0, I64 0] 36)).drew := ⟨_, rfl⟩
               rw [← hwb] at ha hb15
               have HA6 := Lib.hid ha
               have HB15 := Lib.hid hb15
               show K_ _ ((wR.alloc (.cells #[I64 0, I64 0, I64 0, I64 0, I64 0, .bool false, I64 0, I64 0] 36)).drew)
               rw [← hwb]
               refine hK.out _ _ HA6 (fun hH7 => ?_)
               clear hK K_ ha hwb hb15
               try simp only [Act.put, pu2, pu3, pu4]
               refine wpAnyH_ready (rs := [13]) (by kernel_rfl) (by simp) ?_
               refine AllReadyH.cons (o := _) (dropAt rfl) (fun K_ hK => ?_) AllReadyH.nil
               go_simp
               refine (HFR.out _ HA6.out).mono ?_
               rintro e w3 ⟨cn, rfl, hc1, hc5, hcn, hb3⟩
               have HG4 : Hid (Below wR.heap.size wR w3) := HA6.out.trans (hb3.mono HA6.out.size)
               have hbn := (hb3.block _ (lt_of_block HB15.out)).trans HB15.out
               have hle : wR.heap.size ≤ wR.heap.size := Nat.le_refl _
               refine hK.out _ _ HG4 (fun hH3 => ?_)
               clear hK K_ hb3
               try simp only [Act.put, pu2, pu3, pu4]
               refine wpAnyH_take (i := 14) (oi := _) (v := .agg #[I64 2, I64 b, I64 dcl, I64 cn, I64 0, .bool yes, I64 0, I64 0]) (dropAt rfl) (by kernel_rfl) (by kernel_rfl) (by kernel_rfl) (fun _ _ _ h => h) (Or.inl ⟨by rfl, ?hv14_28⟩) hH3 ?rv14_28
               case hv14_28 => (intro w hSw; go_simp; first | done | with_reducible rfl)
               try simp only [Act.put, pu2, pu3, pu4]
               have y0 := blk_cell hbn 0
               have y1 := blk_cell hbn 1
               have y2 := blk_cell hbn 2
               have y3 := blk_cell hbn 3
               have y4 := blk_cell hbn 4
               have y5 := blk_cell hbn 5
               have y6 := blk_cell hbn 6
               have y7 := blk_cell hbn 7
               have fy0 := blk_free hbn 0
               have fy1 := blk_free hbn 1
               have fy2 := blk_free hbn 2
               have fy3 := blk_free hbn 3
               have fy4 := blk_free hbn 4
               have fy5 := blk_free hbn 5
               have fy6 := blk_free hbn 6
               have fy7 := blk_free hbn 7
               simp only [List.getElem?_toArray, List.getElem?_cons_succ, List.getElem?_cons_zero] at y0 y1 y2 y3 y4 y5 y6 y7
               have HDB : Hid (DlB s4 b dcl cn yes wR (wR.heap.size) ((((((((w3.setCell ⟨wR.heap.size, 0, none⟩ (I64 2)).setCell ⟨wR.heap.size, 1, none⟩ (I64 b)).setCell ⟨wR.heap.size, 2, none⟩ (I64 dcl)).setCell ⟨wR.heap.size, 3, none⟩ (I64 cn)).setCell ⟨wR.heap.size, 4, none⟩ (I64 0)).setCell ⟨wR.heap.size, 5, none⟩ (.bool yes)).setCell ⟨wR.heap.size, 6, none⟩ (I64 0)).setCell ⟨wR.heap.size, 7, none⟩ (I64 0))) := ⟨by
                have q := (blk_set (blk_set (blk_set (blk_set (blk_set (blk_set (blk_set (blk_set hbn 0 (I64 2)) 1 (I64 b)) 2 (I64 dcl)) 3 (I64 cn)) 4 (I64 0)) 5 (.bool yes)) 6 (I64 0)) 7 (I64 0))
                rw [q]
                simp, ((((((((HG4.out.setCell (p := ⟨wR.heap.size, 0, none⟩) hle _).setCell (p := ⟨wR.heap.size, 1, none⟩) hle _).setCell (p := ⟨wR.heap.size, 2, none⟩) hle _).setCell (p := ⟨wR.heap.size, 3, none⟩) hle _).setCell (p := ⟨wR.heap.size, 4, none⟩) hle _).setCell (p := ⟨wR.heap.size, 5, none⟩) hle _).setCell (p := ⟨wR.heap.size, 6, none⟩) hle _).setCell (p := ⟨wR.heap.size, 7, none⟩) hle _), hc1, hc5, hcn⟩
               have HGz : Hid (Below wR.heap.size wR ((((((((w3.setCell ⟨wR.heap.size, 0, none⟩ (I64 2)).setCell ⟨wR.heap.size, 1, none⟩ (I64 b)).setCell ⟨wR.heap.size, 2, none⟩ (I64 dcl)).setCell ⟨wR.heap.size, 3, none⟩ (I64 cn)).setCell ⟨wR.heap.size, 4, none⟩ (I64 0)).setCell ⟨wR.heap.size, 5, none⟩ (.bool yes)).setCell ⟨wR.heap.size, 6, none⟩ (I64 0)).setCell ⟨wR.heap.size, 7, none⟩ (I64 0))) := HDB.out.below
               clear hbn
               refine wpAnyH_ready (rs := [16]) (by kernel_rfl) (by simp) ?_
               refine AllReadyH.cons (o := _) (dropAt rfl) (fun K_ hK => ?_) AllReadyH.nil
               go_simp
               show K_ _ ((((((((w3.setCell ⟨wR.heap.size, 0, none⟩ (I64 2)).setCell ⟨wR.heap.size, 1, none⟩ (I64 b)).setCell ⟨wR.heap.size, 2, none⟩ (I64 dcl)).setCell ⟨wR.heap.size, 3, none⟩ (I64 cn)).setCell ⟨wR.heap.size, 4, none⟩ (I64 0)).setCell ⟨wR.heap.size, 5, none⟩ (.bool yes)).setCell ⟨wR.heap.size, 6, none⟩ (I64 0)).setCell ⟨wR.heap.size, 7, none⟩ (I64 0))
               refine hK.out _ _ HGz (fun hHz => ?_)
               clear hK K_ y0 y1 y2 y3 y4 y5 y6 y7 fy0 fy1 fy2 fy3 fy4 fy5 fy6 fy7
               try simp only [Act.put, pu2, pu3, pu4]
               refine wpAnyH_done (by kernel_rfl) ?_ _
               go_wp2_with fail
               go_meet
               exact ⟨_, cn, yes, rfl, HDB⟩
          case rest =>
           obtain ⟨N, cn, yes, rfl, HDB⟩ := hcut
           obtain ⟨wx, hwx⟩ : ∃ x, x = wc := ⟨_, rfl⟩
           subst hwx
           have HRX := Lib.hid (HK3.out.1.below HDB.out.below)
           have hTv := HRX.out.law.st
           unfold Z3 valS at hTv
           dsimp only at hTv
           have n0 := blk_cell hTv 0
           have n1 := blk_cell hTv 1
           have n2 := blk_cell hTv 2
           simp only [List.getElem?_toArray, List.getElem?_cons_succ, List.getElem?_cons_zero] at n0 n1 n2
           have hCv := HDB.out.blk
           have c0 := blk_cell hCv 0
           have c1 := blk_cell hCv 1
           have c2 := blk_cell hCv 2
           have c3 := blk_cell hCv 3
           have c4 := blk_cell hCv 4
           have c5 := blk_cell hCv 5
           have c6 := blk_cell hCv 6
           have c7 := blk_cell hCv 7
           simp only [List.getElem?_toArray, List.getElem?_cons_succ, List.getElem?_cons_zero] at c0 c1 c2 c3 c4 c5 c6 c7
           clear hTv hCv
           have hd1 : dcl ≤ 9223372036854775807 := by
            obtain ⟨_, _, _, hb, hd, _⟩ := HK3.out.2
            refine HK3.out.1.law.bnd.1 _ (Md.calls_mem hb ?_)
            unfold Md.pcalls
            rw [hd, HDC.out]
            have hm : D[k] ∈ D.drop k := by rw [List.drop_eq_getElem_cons HKL.out]; exact List.mem_cons_self
            have hm2 := List.mem_map_of_mem (f := fun x : Md.Dial => x.1) hm
            simp only [List.mem_append]
            first | exact .inl (.inr hm2) | exact .inr (.inl hm2)
           have HEL : Hid (Calls Try.prog 16 #[.agg #[I64 s4.now, .bool s4.shut, .slice xk nN xj], .agg #[I64 2, I64 b, I64 dcl, I64 cn, I64 0, .bool yes, I64 0, I64 0, .int .u8 0], .pointer (some ⟨T + 1, 0, none⟩)] wx fun e w' => EndE s4 ⟨2, b, dcl, cn, 0, yes, 0, 0⟩ (fun i => ((i = T ∨ i = T + 1) ∨ (Value.slice yk yj yi).ownBlock = some i) ∨ False) (yk, yj, yi) (T + 1) w5.heap.size wx e w') := ended_law HRX.out.law ⟨2, b, dcl, cn, 0, yes, 0, 0⟩ 0 wx (.refl _ _) (fun _ => False) (fun _ q => q.elim) (by omega) (by omega) hd1 (by have := HDB.out.top; show cn ≤ 9223372036854775807; omega)
           clear hd1
           go_wp2_with fail
           refine HEL.out.mono ?_
           rintro e w3 ⟨s2, ⟨na, nN2, nc⟩, ⟨qa, qn, qc⟩, O2, rfl, hp⟩
           unfold valS
           dsimp only
           have HST : Hid (Md.DlAt D LL b (k + 1) nN s2) := by
            have hw : Md.wrong s4 ⟨2, b, dcl, cn, 0, yes, 0, 0⟩ = 0 ∧ ∀ o ∈ Md.act s4 ⟨2, b, dcl, cn, 0, yes, 0, 0⟩, Md.DlAt D LL b (k + 1) nN o.next := by
             rw [HDC.out]
             exact HK3.out.2.step HK3.out.1.law.good HKL.out HDB.out.pos HDB.out.new yes
            rcases hp.next with ⟨-, hz⟩ | ⟨-, o, ho, e⟩
            · exact absurd (Md.outcomes_zero HK3.out.1.law.good hw.1) hz
            · rw [e]
              exact hw.2 o ho
           have hnn : nN2 = nN := by
            have q := pools_len (hp.lies w3 (.refl _ _))
            dsimp only at q
            rw [q, HST.out.2.2.1]
           subst nN2
           have HEO := Lib.hid (EndOut.laid HRX.out.law (.refl _ _) hp (fun _ q => .inl q))
           clear hp
           unfold valS at HEO
           dsimp only at HEO
           clear n0 n1 n2 c0 c1 c2 c3 c4 c5 c6 c7
           go_upto_region 25 with fail
           obtain ⟨w8, hw8⟩ : ∃ x, x = w3.alloc (.cells #[I64 s2.now, .bool s2.shut, .slice na nN nc] 26) := ⟨_, rfl⟩
           obtain ⟨N8, hN8⟩ : ∃ x, x = w3.heap.size := ⟨_, rfl⟩
           rw [← hw8, ← hN8] at HEO
           simp only [← hw8, ← hN8]
           clear hw8 hN8
           have hb8 := HEO.out.b
           unfold Z3 valS at hb8
           dsimp only at hb8
           have y0 := blk_cell hb8 0
           have y1 := blk_cell hb8 1
           have y2 := blk_cell hb8 2
           have fy0 := blk_free hb8 0
           have fy1 := blk_free hb8 1
           have fy2 := blk_free hb8 2
           simp only [List.getElem?_toArray, List.getElem?_cons_succ, List.getElem?_cons_zero] at y0 y1 y2
           obtain ⟨hT, hnx⟩ := RdE.next HRX.out HEO.out (.refl _ _)
           unfold Z3 valS at hT
           unfold valS at hnx
           dsimp only at hT hnx
           have HNX := Lib.hid hnx
           have t0 := blk_cell hT 0
           have t1 := blk_cell hT 1
           have t2 := blk_cell hT 2
           have ft0 := blk_free hT 0
           have ft1 := blk_free hT 1
           have ft2 := blk_free hT 2
           simp only [List.getElem?_toArray, List.getElem?_cons_succ, List.getElem?_cons_zero] at t0 t1 t2
           obtain ⟨mn, hmn⟩ : ∃ x, x = s2.now := ⟨_, rfl⟩
           obtain ⟨ms, hms⟩ : ∃ x, x = s2.shut := ⟨_, rfl⟩
           rw [← hmn, ← hms] at HNX
           rw [← hmn] at y0
           rw [← hms] at y1
           clear hmn hms hb8 hT hnx
           go_wp2_with fail
           refine ⟨⟨k + 1, s2, na, nc, qa, qn, qc, O2, hlk, by rw [show (k : Int) + 1 = ((k + 1 : Nat) : Int) by omega], Lib.hid ⟨HNX.out, HST.out⟩⟩, ?_⟩
           simp [intOf]
           omega
        · have hkn : ¬ (k : Int) < (dN : Int) := by omega
          have HLS : Hid (RdE w5 wB T (yb, ym, yd) s4 (xk, nN, xj) (yk, yj, yi) O4 wR ∧ Md.LsAt LL b 0 nN s4) := by
           have q := HK3.out.2
           have e : k = D.length := by have := HDN.out; omega
           rw [e] at q
           exact ⟨HK3.out.1, q.end⟩
          clear HK3
          go_wp2_with fail
          go_loopw [22, 23, 24] (fun kv _ _ wr => ∃ m : Nat, ∃ s6 : Md.State, ∃ xa xc ya yn yc O, m ≤ lN ∧ kv = .int .i64 m ∧ Hid (RdE w5 wB T (yb, ym, yd) s6 (xa, nN, xc) (ya, yn, yc) O wr ∧ Md.LsAt LL b m nN s6)) (fun kv _ _ _ => lN - (intOf kv).toNat)
          case atStart => exact ⟨0, s4, xk, xj, yk, yj, yi, O4, Nat.zero_le _, rfl, HLS⟩
          case round =>
           obtain ⟨wM, hwM⟩ : ∃ x, x = wr := ⟨_, rfl⟩
           subst hwM
           obtain ⟨m, s6, xk6, xj6, yk6, yj6, yi6, O6, hmN, rfl, HM3⟩ := hrel
           by_cases hlm : m < lN
           · have hml : m < LL.length := by rw [← HLNN.out]; exact hlm
             have HML := Lib.hid hml
             have hdr := HLR.out wM HM3.out.1.gb
             obtain ⟨gq, oq, cq, e, hgq, hcq⟩ := hdr.form (by intro e; rw [e] at hml; simp at hml)
             injection e with f1 f2 f3
             replace f1 : la = some ⟨gq, oq, none⟩ := f1
             subst f1
             clear f2 f3
             obtain ⟨lcl, hdc⟩ : ∃ x, x = LL[m].1 := ⟨_, rfl⟩
             have hq0 : wM.cell? ⟨gq, oq + m * 3, none⟩ = some (I64 lcl) := by rw [hdc]; exact hcq m hml 0 _ rfl
             have HDC := Lib.hid hdc
             have HQ0 := Lib.hid hq0
             have HQG : Hid (∀ w1, Gb (fun i => i = T + 1 ∨ (Value.slice yk6 yj6 yi6).ownBlock = some i) wM w1 → w1.cell? ⟨gq, oq + m * 3, none⟩ = some (I64 lcl)) := fun w1 h1 => by
              rw [HDC.out]
              exact reads_at (HLR.out w1 (HM3.out.1.gbl h1)) HML.out rfl
             have HCW : Hid (∀ w1, Gb (fun i => i = T + 1 ∨ (Value.slice yk6 yj6 yi6).ownBlock = some i) wM w1 → S3 T s6.now s6.shut (.slice xk6 nN xj6) w1) := fun w1 h1 => by
              have b0 := h1.blk HM3.out.1.law.st (fun q => by
               rcases q with q | q
               · omega
               · have := (HM3.out.1.law.own.lt T q).1
                 have := HM3.out.1.law.tlt
                 omega)
              exact ⟨blk_cell b0 0, blk_cell b0 1, blk_cell b0 2⟩
             obtain ⟨yes, hyes⟩ : ∃ x, x = (((m : Int).tmod 2 : Int) == 0) := ⟨_, rfl⟩
             have HYES := Lib.hid hyes
             clear hyes
             have hd1 : lcl ≤ 9223372036854775807 := by
              obtain ⟨_, _, _, hb, hd, hl⟩ := HM3.out.2
              refine HM3.out.1.law.bnd.1 _ (Md.calls_mem hb ?_)
              unfold Md.pcalls
              rw [hl, HDC.out]
              have hm : LL[m] ∈ LL.drop m := by rw [List.drop_eq_getElem_cons HML.out]; exact List.mem_cons_self
              have hm2 := List.mem_map_of_mem (f := fun x : Md.Lease => x.1) hm
              simp only [List.mem_append]
              first | exact .inl (.inl hm2) | exact .inl (.inr hm2) | exact .inr (.inl hm2)
             have HEL : Hid (∀ (w1 : World) (P : Nat → Prop), Below wM.heap.size wM w1 → (∀ i, P i → wM.heap.size ≤ i ∧ i < w1.heap.size) → Calls Try.prog 16 #[.agg #[I64 s6.now, .bool s6.shut, .slice xk6 nN xj6], .agg #[I64 3, I64 b, I64 lcl, I64 0, I64 0, .bool yes, I64 0, I64 0, .int .u8 0], .pointer (some ⟨T + 1, 0, none⟩)] w1 fun e w' => EndE s6 ⟨3, b, lcl, 0, 0, yes, 0, 0⟩ (fun i => ((i = T ∨ i = T + 1) ∨ (Value.slice yk6 yj6 yi6).ownBlock = some i) ∨ P i) (yk6, yj6, yi6) (T + 1) w5.heap.size w1 e w') := fun w1 P h1 hP => ended_law HM3.out.1.law ⟨3, b, lcl, 0, 0, yes, 0, 0⟩ 0 w1 h1 P hP (by omega) (by omega) hd1 (by show (0 : Int) ≤ _; omega)
             have hmI : (m : Int) < (lN : Int) := by omega
             have hm0 : (0 : Int) ≤ (m : Int) := by omega
             clear hdr hcq hq0 hdc hd1 hgq
             go_wp2_with fail
             go_cut [23, 24] from 121 to 145 (fun v23 v24 wx => ∃ N s2 nv v2 O2, v23 = .pointer (some ⟨N, 0, none⟩) ∧ v24 = .bool true ∧ Hid (EndOut w5 T (T + 1) s6 ⟨3, b, lcl, 0, 0, yes, 0, 0⟩ (yk6, yj6, yi6) wM s2 nv v2 O2 N wx))
             case first =>
              skip
              · skip
                refine wp_region_held_drew (S := fun w1 => Hid (Gb (fun i => i = T + 1 ∨ (Value.slice yk6 yj6 yi6).ownBlock = some i) wM w1)) (by kernel_rfl) (Gb.of_below (Below.refl _ _).drew) (fun hH0 => ?_)
                refine tk 0 (v := ?vv0_29) (dropAt rfl) (Or.inl ⟨by rfl, ?hv0_29⟩) hH0 ?rv0_29
                case hv0_29 => (intro w hSw; obtain ⟨s0_, s1_, s2_⟩ := HCW.out _ hSw.out; go_simp; first | done | with_reducible rfl)
                try simp only [Act.put, pu2, pu3, pu4]
                refine tk 1 (v := ?vv1_30) (dropAt rfl) (Or.inl ⟨by rfl, ?hv1_30⟩) hH0 ?rv1_30
                case hv1_30 => (intro w hSw; obtain ⟨s0_, s1_, s2_⟩ := HCW.out _ hSw.out; go_simp; first | done | with_reducible rfl)
                try simp only [Act.put, pu2, pu3, pu4]
                refine tk 2 (v := ?vv2_31) (dropAt rfl) (Or.inl ⟨by rfl, ?hv2_31⟩) hH0 ?rv2_31
                case hv2_31 => (intro w hSw; obtain ⟨s0_, s1_, s2_⟩ := HCW.out _ hSw.out; go_simp; first | done | with_reducible rfl)
                try simp only [Act.put, pu2, pu3, pu4]
                refine tk 3 (v := ?vv3_32) (dropAt rfl) (Or.inl ⟨by rfl, ?hv3_32⟩) hH0 ?rv3_32
                case hv3_32 => (intro w hSw; obtain ⟨s0_, s1_, s2_⟩ := HCW.out _ hSw.out; go_simp; first | done | with_reducible rfl)
                try simp only [Act.put, pu2, pu3, pu4]
                refine tk 4 (v := ?vv4_33) (dropAt rfl) (Or.inl ⟨by rfl, ?hv4_33⟩) hH0 ?rv4_33
                case hv4_33 => (intro w hSw; obtain ⟨s0_, s1_, s2_⟩ := HCW.out _ hSw.out; go_simp; first | done | with_reducible rfl)
                try simp only [Act.put, pu2, pu3, pu4]
                refine tk 5 (v := ?vv5_34) (dropAt rfl) (Or.inl ⟨by rfl, ?hv5_34⟩) hH0 ?rv5_34
                case hv5_34 => (intro w hSw; obtain ⟨s0_, s1_, s2_⟩ := HCW.out _ hSw.out; go_simp; first | done | with_reducible rfl)
                try simp only [Act.put, pu2, pu3, pu4]
                refine tk 6 (v := ?vv6_35) (dropAt rfl) (Or.inl ⟨by rfl, ?hv6_35⟩) hH0 ?rv6_35
                case hv6_35 => (intro w hSw; have q0 := HQG.out _ hSw.out; go_simp; first | done | with_reducible rfl)
                try simp only [Act.put, pu2, pu3, pu4]
                refine tk 7 (v := ?vv7_36) (dropAt rfl) (Or.inl ⟨by rfl, ?hv7_36⟩) hH0 ?rv7_36
                case hv7_36 => (intro w hSw; go_simp; first | done | with_reducible rfl)
                try simp only [Act.put, pu2, pu3, pu4]
                refine tk 8 (v := ?vv8_37) (dropAt rfl) (Or.inl ⟨by rfl, ?hv8_37⟩) hH0 ?rv8_37
                case hv8_37 => (intro w hSw; go_simp; first | done | with_reducible rfl)
                try simp only [Act.put, pu2, pu3, pu4]
                refine tk 9 (v := ?vv9_38) (dropAt rfl) (Or.inl ⟨by rfl, ?hv9_38⟩) hH0 ?rv9_38
                case hv9_38 => (intro w hSw; go_simp; rw [← HYES.out]; first | done | with_reducible rfl)
                try simp only [Act.put, pu2, pu3, pu4]
                refine tk 10 (v := ?vv10_39) (dropAt rfl) (Or.inl ⟨by rfl, ?hv10_39⟩) hH0 ?rv10_39
                case hv10_39 => (intro w hSw; go_simp; first | done | with_reducible rfl)
                try simp only [Act.put, pu2, pu3, pu4]
                refine tk 11 (v := ?vv11_40) (dropAt rfl) (Or.inl ⟨by rfl, ?hv11_40⟩) hH0 ?rv11_40
                case hv11_40 => (intro w hSw; go_simp; first | done | with_reducible rfl)
                try simp only [Act.put, pu2, pu3, pu4]
                refine wpAnyH_ready (rs := [12, 16]) (by kernel_rfl) (by simp) ?_
                refine AllReadyH.cons (o := _) (dropAt rfl) (fun K_ hK => ?_) (AllReadyH.cons (o := _) (dropAt rfl) (fun K_ hK => ?_) AllReadyH.nil)
                · go_simp
                  refine (HEL.out _ (fun _ => False) (Below.refl _ _).drew (fun _ q => q.elim)).mono ?_
                  rintro e w3 ⟨s2, ⟨na, nN2, nc⟩, v2, O2, rfl, hp⟩
                  unfold valS
                  dsimp only
                  have HP := Lib.hid hp
                  have HG3 : Hid (Gb (fun i => i = T + 1 ∨ (Value.slice yk6 yj6 yi6).ownBlock = some i) wM w3) := (Gb.of_below (Below.refl _ _).drew).then hp.gb (fun i hi q => q)
                  refine hK.out _ _ HG3 (fun hH3 => ?_)
                  clear hK K_ hp
                  try simp only [Act.put, pu2, pu3, pu4]
                  refine tk 13 (v := ?vv13_41) (dropAt rfl) (Or.inl ⟨by rfl, ?hv13_41⟩) hH3 ?rv13_41
                  case hv13_41 => (intro w hSw; go_simp; first | done | with_reducible rfl)
                  try simp only [Act.put, pu2, pu3, pu4]
                  refine tk 14 (v := ?vv14_42) (dropAt rfl) (Or.inl ⟨by rfl, ?hv14_42⟩) hH3 ?rv14_42
                  case hv14_42 => (intro w hSw; go_simp; first | done | with_reducible rfl)
                  try simp only [Act.put, pu2, pu3, pu4]
                  refine tk 15 (v := ?vv15_43) (dropAt rfl) (Or.inl ⟨by rfl, ?hv15_43⟩) hH3 ?rv15_43
                  case hv15_43 => (intro w hSw; go_simp; first | done | with_reducible rfl)
                  try simp only [Act.put, pu2, pu3, pu4]
                  refine wpAnyH_ready (rs := [16]) (by kernel_rfl) (by simp) ?_
                  refine AllReadyH.cons (o := _) (dropAt rfl) (fun K_ hK => ?_) AllReadyH.nil
                  go_simp
                  have ha := (Below.refl w3.heap.size w3).alloc (Nat.le_refl _) (.cells #[I64 0, .bool false, .slice none 0 0] 26)
                  have hbn := blk_new w3 (.cells #[I64 0, .bool false, .slice none 0 0] 26)
                  obtain ⟨wa, hwa⟩ : ∃ x, x = w3.alloc (.cells #[I64 0, .bool false, .slice none 0 0] 26) := ⟨_, rfl⟩
                  rw [← hwa] at ha hbn
                  have HA6 := Lib.hid ha
                  have HG4 : Hid (Gb (fun i => i = T + 1 ∨ (Value.slice yk6 yj6 yi6).ownBlock = some i) wM wa) := HG3.out.trans (.of_below ha)
                  show K_ _ (w3.alloc (.cells #[I64 0, .bool false, .slice none 0 0] 26))
                  rw [← hwa]
                  refine hK.out _ _ HG4 (fun hH7 => ?_)
                  clear hK K_ ha hwa
                  try simp only [Act.put, pu2, pu3, pu4]
                  obtain ⟨wz, hwz⟩ : ∃ x, x = (((wa.setCell ⟨w3.heap.size, 0, none⟩ (I64 s2.now)).setCell ⟨w3.heap.size, 1, none⟩ (.bool s2.shut)).setCell ⟨w3.heap.size, 2, none⟩ (.slice na nN2 nc)) := ⟨_, rfl⟩
                  have HEO : Hid (EndOut w5 T (T + 1) s6 ⟨3, b, lcl, 0, 0, yes, 0, 0⟩ (yk6, yj6, yi6) wM s2 (na, nN2, nc) v2 O2 (w3.heap.size) wz) := by
                   rw [hwz]
                   exact EndOut.make HM3.out.1.law (Below.refl _ _).drew HP.out.gb.size HP.out HA6.out hbn (fun _ q => .inl q) (.inr (Nat.le_refl _))
                  have y0 := blk_cell hbn 0
                  have y1 := blk_cell hbn 1
                  have y2 := blk_cell hbn 2
                  have fy0 := blk_free hbn 0
                  have fy1 := blk_free hbn 1
                  have fy2 := blk_free hbn 2
                  simp only [List.getElem?_toArray, List.getElem?_cons_succ, List.getElem?_cons_zero] at y0 y1 y2
                  clear hbn
                  obtain ⟨mn, hmn⟩ : ∃ x, x = s2.now := ⟨_, rfl⟩
                  obtain ⟨ms, hms⟩ : ∃ x, x = s2.shut := ⟨_, rfl⟩
                  rw [← hmn, ← hms] at hwz
                  rw [← hmn, ← hms]
                  clear hmn hms
                  refine wpAnyH_ready (rs := [17]) (by kernel_rfl) (by simp) ?_
                  refine AllReadyH.cons (o := _) (dropAt rfl) (fun K_ hK => ?_) AllReadyH.nil
                  go_simp
                  show K_ _ (((wa.setCell ⟨w3.heap.size, 0, none⟩ (I64 mn)).setCell ⟨w3.heap.size, 1, none⟩ (.bool ms)).setCell ⟨w3.heap.size, 2, none⟩ (.slice na nN2 nc))
                  rw [← hwz]
                  refine hK.out _ _ HEO.out.gb (fun hHz => ?_)
                  clear hK K_ hwz y0 y1 y2 fy0 fy1 fy2
                  try simp only [Act.put, pu2, pu3, pu4]
                  refine tk 18 (v := ?vv18_44) (dropAt rfl) (Or.inl ⟨by rfl, ?hv18_44⟩) hHz ?rv18_44
                  case hv18_44 => (intro w hSw; go_simp; first | done | with_reducible rfl)
                  try simp only [Act.put, pu2, pu3, pu4]
                  refine wpAnyH_done (by kernel_rfl) ?_ _
                  go_wp2_with fail
                  go_meet
                  exact ⟨w3.heap.size, s2, (na, nN2, nc), v2, O2, rfl, rfl, HEO⟩
                · go_simp
                  have ha := ((Below.refl wM.heap.size wM).alloc (Nat.le_refl _) (.cells #[I64 0, .bool false, .slice none 0 0] 26)).drew
                  have hb15 : ((wM.alloc (.cells #[I64 0, .bool false, .slice none 0 0] 26)).drew).heap[wM.heap.size]? = some (.cells #[I64 0, .bool false, .slice none 0 0] 26) := blk_new wM (.cells #[I64 0, .bool false, .slice none 0 0] 26)
                  obtain ⟨wa, hwa⟩ : ∃ x, x = (wM.alloc (.cells #[I64 0, .bool false, .slice none 0 0] 26)).drew := ⟨_, rfl⟩
                  rw [← hwa] at ha hb15
                  have HA6 := Lib.hid ha
                  have HG4 : Hid (Gb (fun i => i = T + 1 ∨ (Value.slice yk6 yj6 yi6).ownBlock = some i) wM wa) := Gb.of_below ha
                  have HL15 := Lib.hid (lt_of_block hb15)
                  have HB15 := Lib.hid hb15
                  show K_ _ ((wM.alloc (.cells #[I64 0, .bool false, .slice none 0 0] 26)).drew)
                  rw [← hwa]
                  refine hK.out _ _ HG4 (fun hH7 => ?_)
                  clear hK K_ ha hwa hb15
                  try simp only [Act.put, pu2, pu3, pu4]
                  refine wpAnyH_ready (rs := [12]) (by kernel_rfl) (by simp) ?_
                  refine AllReadyH.cons (o := _) (dropAt rfl) (fun K_ hK => ?_) AllReadyH.nil
                  go_simp
                  refine (HEL.out _ (fun i => i = wM.heap.size) HA6.out (fun i q => ⟨by omega, by rw [q]; exact HL15.out⟩)).mono ?_
                  rintro e w3 ⟨s2, ⟨na, nN2, nc⟩, v2, O2, rfl, hp⟩
                  unfold valS
                  dsimp only
                  have HP := Lib.hid hp
                  have HG3 : Hid (Gb (fun i => i = T + 1 ∨ (Value.slice yk6 yj6 yi6).ownBlock = some i) wM w3) := HG4.out.then hp.gb (fun i hi q => q)
                  have hbn := hp.gb.blk HB15.out (fun q => by
                   rcases q with q | q
                   · have h1 := lt_of_block (HM3.out.1.law).blk
                     omega
                   · have h1 := ((HM3.out.1.law).own.lt _ q).2
                     omega)
                  refine hK.out _ _ HG3 (fun hH3 => ?_)
                  clear hK K_ hp
                  try simp only [Act.put, pu2, pu3, pu4]
                  refine tk 13 (v := ?vv13_45) (dropAt rfl) (Or.inl ⟨by rfl, ?hv13_45⟩) hH3 ?rv13_45
                  case hv13_45 => (intro w hSw; go_simp; first | done | with_reducible rfl)
                  try simp only [Act.put, pu2, pu3, pu4]
                  refine tk 14 (v := ?vv14_46) (dropAt rfl) (Or.inl ⟨by rfl, ?hv14_46⟩) hH3 ?rv14_46
                  case hv14_46 => (intro w hSw; go_simp; first | done | with_reducible rfl)
                  try simp only [Act.put, pu2, pu3, pu4]
                  refine tk 15 (v := ?vv15_47) (dropAt rfl) (Or.inl ⟨by rfl, ?hv15_47⟩) hH3 ?rv15_47
                  case hv15_47 => (intro w hSw; go_simp; first | done | with_reducible rfl)
                  try simp only [Act.put, pu2, pu3, pu4]
                  obtain ⟨wz, hwz⟩ : ∃ x, x = (((w3.setCell ⟨wM.heap.size, 0, none⟩ (I64 s2.now)).setCell ⟨wM.heap.size, 1, none⟩ (.bool s2.shut)).setCell ⟨wM.heap.size, 2, none⟩ (.slice na nN2 nc)) := ⟨_, rfl⟩
                  have HEO : Hid (EndOut w5 T (T + 1) s6 ⟨3, b, lcl, 0, 0, yes, 0, 0⟩ (yk6, yj6, yi6) wM s2 (na, nN2, nc) v2 O2 (wM.heap.size) wz) := by
                   rw [hwz]
                   exact EndOut.make HM3.out.1.law HA6.out (Nat.le_refl _) HP.out (.refl _ _) hbn (fun _ q => .inl q) (.inl ⟨HL15.out, .inr rfl⟩)
                  have y0 := blk_cell hbn 0
                  have y1 := blk_cell hbn 1
                  have y2 := blk_cell hbn 2
                  have fy0 := blk_free hbn 0
                  have fy1 := blk_free hbn 1
                  have fy2 := blk_free hbn 2
                  simp only [List.getElem?_toArray, List.getElem?_cons_succ, List.getElem?_cons_zero] at y0 y1 y2
                  clear hbn
                  obtain ⟨mn, hmn⟩ : ∃ x, x = s2.now := ⟨_, rfl⟩
                  obtain ⟨ms, hms⟩ : ∃ x, x = s2.shut := ⟨_, rfl⟩
                  rw [← hmn, ← hms] at hwz
                  rw [← hmn, ← hms]
                  clear hmn hms
                  refine wpAnyH_ready (rs := [17]) (by kernel_rfl) (by simp) ?_
                  refine AllReadyH.cons (o := _) (dropAt rfl) (fun K_ hK => ?_) AllReadyH.nil
                  go_simp
                  show K_ _ (((w3.setCell ⟨wM.heap.size, 0, none⟩ (I64 mn)).setCell ⟨wM.heap.size, 1, none⟩ (.bool ms)).setCell ⟨wM.heap.size, 2, none⟩ (.slice na nN2 nc))
                  rw [← hwz]
                  refine hK.out _ _ HEO.out.gb (fun hHz => ?_)
                  clear hK K_ hwz y0 y1 y2 fy0 fy1 fy2
                  try simp only [Act.put, pu2, pu3, pu4]
                  refine tk 18 (v := ?vv18_48) (dropAt rfl) (Or.inl ⟨by rfl, ?hv18_48⟩) hHz ?rv18_48
                  case hv18_48 => (intro w hSw; go_simp; first | done | with_reducible rfl)
                  try simp only [Act.put, pu2, pu3, pu4]
                  refine wpAnyH_done (by kernel_rfl) ?_ _
                  go_wp2_with fail
                  go_meet
                  exact ⟨wM.heap.size, s2, (na, nN2, nc), v2, O2, rfl, rfl, HEO⟩
             case rest =>
              obtain ⟨N, s2, ⟨na, nN2, nc⟩, ⟨qa, qn, qc⟩, O2, rfl, rfl, HEO⟩ := hcut
              obtain ⟨w8, hw8⟩ : ∃ x, x = wc := ⟨_, rfl⟩
              subst hw8
              have HRX := Lib.hid HM3.out.1
              have HST : Hid (Md.LsAt LL b (m + 1) nN s2) := by
               have hw : Md.wrong s6 ⟨3, b, lcl, 0, 0, yes, 0, 0⟩ = 0 ∧ ∀ o ∈ Md.act s6 ⟨3, b, lcl, 0, 0, yes, 0, 0⟩, Md.LsAt LL b (m + 1) nN o.next := by
                rw [HDC.out]
                exact HM3.out.2.step HM3.out.1.law.good HML.out yes
               rcases HEO.out.next with ⟨-, hz⟩ | ⟨-, o, ho, e⟩
               · exact absurd (Md.outcomes_zero HM3.out.1.law.good hw.1) hz
               · rw [e]
                 exact hw.2 o ho
              have hnn : nN2 = nN := by
               have q := pools_len (HEO.out.lies w8 (.refl _ _))
               dsimp only at q
               rw [q, HST.out.2.2.1]
              subst nN2
              have hb8 := HEO.out.b
              unfold Z3 valS at hb8
              dsimp only at hb8
              have y0 := blk_cell hb8 0
              have y1 := blk_cell hb8 1
              have y2 := blk_cell hb8 2
              have fy0 := blk_free hb8 0
              have fy1 := blk_free hb8 1
              have fy2 := blk_free hb8 2
              simp only [List.getElem?_toArray, List.getElem?_cons_succ, List.getElem?_cons_zero] at y0 y1 y2
              obtain ⟨hT, hnx⟩ := RdE.next HRX.out HEO.out (.refl _ _)
              unfold Z3 valS at hT
              unfold valS at hnx
              dsimp only at hT hnx
              have HNX := Lib.hid hnx
              have t0 := blk_cell hT 0
              have t1 := blk_cell hT 1
              have t2 := blk_cell hT 2
              have ft0 := blk_free hT 0
              have ft1 := blk_free hT 1
              have ft2 := blk_free hT 2
              simp only [List.getElem?_toArray, List.getElem?_cons_succ, List.getElem?_cons_zero] at t0 t1 t2
              obtain ⟨mn, hmn⟩ : ∃ x, x = s2.now := ⟨_, rfl⟩
              obtain ⟨ms, hms⟩ : ∃ x, x = s2.shut := ⟨_, rfl⟩
              rw [← hmn, ← hms] at HNX
              rw [← hmn] at y0
              rw [← hms] at y1
              clear hmn hms hb8 hT hnx
              go_wp2_with fail
              refine ⟨⟨m + 1, s2, na, nc, qa, qn, qc, O2, hlm, by rw [show (m : Int) + 1 = ((m + 1 : Nat) : Int) by omega], Lib.hid ⟨HNX.out, HST.out⟩⟩, ?_⟩
              simp [intOf]
              omega
           · have hmn : ¬ (m : Int) < (lN : Int) := by omega
             have hen : Md.LsAt LL b LL.length nN s6 := by
              have e : m = LL.length := by have := HLNN.out; omega
              rw [← e]
              exact HM3.out.2
             have HEN := Lib.hid hen.end
             clear hen
             go_wp2_with fail
             refine ⟨⟨b + 1, s6, xk6, xj6, yk6, yj6, yi6, O6, hlt3, by rw [show (b : Int) + 1 = ((b + 1 : Nat) : Int) by omega], HM3.out.1.law, HEN.out.1, HEN.out.2.1⟩, ?_⟩
             simp [intOf]
             omega
     · have hbn3 : ¬ (b : Int) < (nN : Int) := by omega
       have hbe : b = s3.pools.length := by rw [← HLN3.out]; omega
       have hga := Md.gone_all HL.out.1.good HL.out.2.1 (hbe ▸ HL.out.2.2)
       have hO : O3 = [] := by
        have q := HL.out.1.perm
        rw [hga.2] at q
        exact List.perm_nil.1 q
       have hym : ym = 0 := by
        have q := read_len (u := (yb, ym, yd)) (HL.out.1.own.reads encI_len)
        rw [hO] at q
        exact q
       subst hym
       have HSB : Hid (∀ w1, Below wB.heap.size wB w1 → Sta w1 (xb, nN, xd) s3) := fun w1 h1 => HL.out.1.sta h1
       have HCA := Lib.hid hga.1
       have HCO := Lib.hid hga.2
       have hTv := HL.out.1.st
       have hKv := HL.out.1.blk
       unfold Z3 valS at hTv
       unfold valS at hKv
       dsimp only at hTv hKv
       have n0 := blk_cell hTv 0
       have n1 := blk_cell hTv 1
       have n2 := blk_cell hTv 2
       simp only [List.getElem?_toArray, List.getElem?_cons_succ, List.getElem?_cons_zero] at n0 n1 n2
       have k0 := blk_cell hKv 0
       simp only [List.getElem?_toArray, List.getElem?_cons_succ, List.getElem?_cons_zero] at k0
       clear hTv hKv hga hO hbe hlen3
       have HBB : Hid (Below w.heap.size w wB) := H5.out.1.trans (HL.out.1.gb.below H5.out.1.size (fun j q => by have := H5.out.2.2.2; rcases q with q | q <;> omega))
       go_wp2_with fail
       refine (calls_any s3 (xb, nN, xd) _ (HSB.out _ (by first | exact Below.refl _ _ | exact (Below.refl _ _).drew))).mono ?_
       rintro e w3 ⟨v, rfl, hr, hb3⟩
       obtain ⟨va3, cp3, hv⟩ := hr.len
       rw [HCA.out] at hv
       subst hv
       have HB3 : Hid (Below wB.heap.size wB w3) := by first | exact hb3 | exact ((Below.refl wB.heap.size wB).drew).trans hb3
       have hTv := (HB3.out.block _ (lt_of_block HL.out.1.st)).trans HL.out.1.st
       unfold Z3 valS at hTv
       dsimp only at hTv
       have p0 := blk_cell hTv 0
       have p1 := blk_cell hTv 1
       have p2 := blk_cell hTv 2
       simp only [List.getElem?_toArray, List.getElem?_cons_succ, List.getElem?_cons_zero] at p0 p1 p2
       clear hTv hr hb3 n0 n1 n2
       have hl0 : ([] : List Int).length = 0 := rfl
       rw [hl0]
       clear hl0
       go_wp2_with fail
       refine (conns_any s3 (xb, nN, xd) _ (HSB.out _ (by first | exact HB3.out | exact HB3.out.drew))).mono ?_
       rintro e w4 ⟨v, rfl, hr, hb4⟩
       obtain ⟨va4, cp4, hv⟩ := hr.len
       rw [HCO.out] at hv
       subst hv
       have HB4 : Hid (Below wB.heap.size wB w4) := by first | exact HB3.out.trans (hb4.mono HB3.out.size) | exact HB3.out.drew.trans (hb4.mono HB3.out.size)
       clear hr hb4 p0 p1 p2
       have hl0 : ([] : List Int).length = 0 := rfl
       rw [hl0]
       clear hl0
       go_wp2_with fail
       refine (awake_any _).mono ?_
       rintro e w6 ⟨rfl, hb6⟩
       have HF : Hid (Below w.heap.size w w6) := by
        have h2 := HBB.out.trans (HB4.out.mono HBB.out.size)
        first | exact h2.trans (hb6.mono h2.size) | exact h2.drew.trans (hb6.mono h2.size)
       clear hb6
       go_wp2
       go_ret
       exact ⟨rfl, HF.out⟩
theorem u16_in {n : Int} (h : (Lit.int .u16 n).wf = true) : 0 ≤ n ∧ n ≤ 65535 := by
 have q : IntKind.u16.min ≤ n ∧ n ≤ IntKind.u16.max := by simpa [Lit.wf] using h
 have h1 : IntKind.u16.min = 0 := by decide
 have h2 : IntKind.u16.max = 65535 := by decide
 rw [h1, h2] at q
 exact q
theorem ends_all (lims : List Md.Lim) (u : SlV) (acts : List (Md.Call × Int)) (v : SlV) (gd : Int) (w : World) (h : ReadsL 4 encLim w (valS u) lims) (h2 : ReadsL 9 encAct w (valS v) acts) (hin : ∀ x ∈ acts, ActIn x) (hg : (Lit.int .u16 gd).wf = true) :
 Calls Try.prog 6 #[valS u, valS v, .int .u16 gd] w fun e w' => e = .returned (.bool true) ∧ Below w.heap.size w w' := by
 by_cases hE : (Md.new lims).2 = 0
 · by_cases hbig : acts.length ≤ 60
   · exact ends_loop lims u acts v gd w h h2 hE hbig hin (u16_in hg).1 (u16_in hg).2
   · exact ends_far lims u acts v gd w h h2 hE (by omega)
 · exact ends_no lims u acts v gd w h h2 hE
end Go.Proofs.Ytaicmiadgnpimaa
