/-
  The law FaultsJoins of layer 3, walked.
-/
import Derived.Test.YtgnhbccmdpkbiaaGreatDoorFaJ3
import Derived.Test.YtgnhbccmdpkbiaaGreatDoorFaL1
namespace Go.Proofs.YtgnhbccmdpkbiaaGreatDoor
open Go.RowKit Go.Shelf

/-- The slices us lie in v and are the lists Ls. -/
structure ChainsIn (w : World) (v : Value) (us : List SlV) (Ls : List (List Fa.Node)) : Prop where
  row : ReadsL 1 encS w v us
  len : us.length = Ls.length
  each : ∀ j (h1 : j < us.length) (h2 : j < Ls.length), NodesIn w (valS us[j]) Ls[j]
theorem newS (W : World) (v : Value) (T : TypeId) (u : SlV) (h : valS u = v) : ∀ i x, (encS u)[i]? = some x → (W.alloc (.cells #[v] T)).cell? ⟨W.heap.size, i, none⟩ = some x := by
  subst h
  intro i x hx
  match i, hx with
  | 0, hx =>
    simp [encS] at hx
    subst hx
    rw [blk_cell (blk_new W _) 0]; rfl
set_option maxHeartbeats 8000000 in
set_option maxRecDepth 100000 in
set_option linter.unusedSimpArgs false in
theorem lawJoins (v : Value) (us : List SlV) (Ls : List (List Fa.Node)) (w : World) (hE : EnvF w) (h : ChainsIn w v us Ls) : Calls Tryz.prog 5 #[v] w fun e w' => e = .returned (.bool true) ∧ Below w.heap.size w w' := by
  have HS : Hid (∀ w1, Below w.heap.size w w1 → Calls Tryz.prog 12 #[] w1 fun e w' => e = .returned (.bool true) ∧ Below w1.heap.size w1 w') := fun w1 hb => shown_any w1 (hE.below hb)
  obtain ⟨h1, h2, h3⟩ := h
  obtain ⟨a, cap, hv⟩ := h1.len
  rw [h2] at hv
  have HV : Hid (∀ q (hq : q < us.length), ∃ g o, a = some ⟨g, o, none⟩ ∧ g < w.heap.size ∧ w.cell? ⟨g, o + q, none⟩ = some (valS us[q])) := fun q hq => by
    obtain ⟨g, o, c, e1, e2, e3⟩ := h1.form (fun e => by rw [e] at hq; exact absurd hq (by simp))
    rw [e1] at hv
    refine ⟨g, o, ?_, e2, ?_⟩
    · injection hv with q1 q2 q3
      exact q1.symm
    · have := e3 q hq 0 (valS us[q]) rfl
      simpa using this
  have HI : Hid (∀ q (hq1 : q < us.length) (hq2 : q < Ls.length), NodesIn w (valS us[q]) Ls[q]) := h3
  have HN : Hid (us.length = Ls.length) := h2
  clear h1 h2 h3
  obtain ⟨n, hn⟩ : ∃ n, n = Ls.length := ⟨_, rfl⟩
  rw [← hn] at hv
  subst hv
  have HL : Hid (n = Ls.length) := hn
  by_cases h10 : 10 < n
  · clear hE hn
    go_enter Tryz.func5, Tryz.ntmps5
    go_wp2_with (go_at_call 12; refine (HS.out _ (Below.refl _ _)).mono ?_; rintro e w2 ⟨rfl, hb2⟩)
    go_ret
    exact ⟨rfl, hb2⟩
  have HTEN : Hid (n ≤ 10) := (by omega : n ≤ 10)
  have HST := Lib.hid (LInv.start Ls w)
  clear hE hn
  go_enter Tryz.func5, Tryz.ntmps5
  go_wp2
  clear h10
  go_loopw [3, 4, 5] (fun ev cv i wr => ∃ q : Nat, q ≤ n ∧ i = .int .i64 q ∧ Hid (LInv Ls w q ev cv wr)) (fun _ _ i _ => n - (intOf i).toNat)
  case atStart => exact ⟨0, Nat.zero_le _, rfl, HST⟩
  case round =>
    obtain ⟨q, hq, rfl, hj⟩ := hrel
    have hten := HTEN.out
    by_cases hlt : q < n
    · have i1 : (q : Int) < (n : Int) := by omega
      have hq2 : q < Ls.length := by rw [← HL.out]; exact hlt
      have hq1 : q < us.length := by rw [HN.out]; exact hq2
      obtain ⟨g, o, rfl, hg, hc⟩ := HV.out q hq1
      have hin := HI.out q hq1 hq2
      have hbw : Below w.heap.size w wr := by
        obtain ⟨rs, cs, k1, k2, k3, k4, k5, k6, k7⟩ := hj.out
        exact k7
      have p0 : wr.cell? ⟨g, o + q, none⟩ = some (valS us[q]) := (hbw.cell (p := ⟨g, o + q, none⟩) hg).trans hc
      have HFq : Hid (∀ w1, Below w.heap.size w w1 → Calls Tryz.prog 11 #[valS us[q]] w1 fun e w' => e = .returned (.bool (farL Ls[q])) ∧ w1 = w') := fun w1 hb => far_full _ _ w1 (hin.1.below hb)
      have HG := Lib.hid hg
      have HBW := Lib.hid hbw
      have HLT := Lib.hid hlt
      cases hfar : farL Ls[q] with
      | true =>
        rw [hfar] at HFq
        have hgood : goodL Ls[q] = false := by simp [goodL, hfar]
        have HX := Lib.hid (hj.out.skip hq2 hgood)
        generalize valS us[q] = uv at p0 HFq
        clear hin hc hg hbw hgood hfar hj hq hlt
        go_wp2_with (go_at_call 11; refine (HFq.out _ HBW.out).mono ?_; rintro e w1 ⟨rfl, rfl⟩)
        case roundEnd =>
          have h1 := HLT.out
          have h2 := HTEN.out
          exact ⟨⟨q + 1, HLT.out, by go_num, HX⟩, by simp [intOf]; omega⟩
      | false =>
        rw [hfar] at HFq
        obtain ⟨hl, hs⟩ := far_sizes hfar
        have HRq : Hid (∀ w1, Below w.heap.size w w1 → Calls Tryz.prog 14 #[valS us[q]] w1 fun e w' => e = .returned (I64 (Fa.build Ls[q]).1) ∧ Below w1.heap.size w1 w') := fun w1 hb => rbuild_any _ _ w1 (hin.1.below hb) (by omega) hs
        by_cases h0 : (Fa.build Ls[q]).1 = 0
        · have hgood : goodL Ls[q] = true := by simp [goodL, hfar, h0]
          have HBq : Hid (∀ w1, Below w.heap.size w w1 → Calls Tryz.prog 13 #[valS us[q]] w1 fun e w' => ∃ rf, e = .returned (.tuple #[valE rf, I64 0]) ∧ Holds (fun b => w1.heap.size ≤ b) w' (Fa.build Ls[q]).2 [valE rf] ∧ Below w1.heap.size w1 w') := fun w1 hb => (build_any _ _ w1 (hin.below hb) (by omega) hs).mono (fun e w' hp => by
            obtain ⟨_, p2, p3⟩ := hp
            obtain ⟨rf, e1, e2⟩ := p2 h0
            exact ⟨rf, e1, e2, p3⟩)
          rw [h0] at HRq
          have HU := Lib.hid hin.1
          have HQ2 := Lib.hid hq2
          have HGD : Hid (goodL Ls[q] = true) := hgood
          obtain ⟨rs, cs, k1, k2, k3, k4, k5, k6, k7⟩ := hj.out
          have hlen1 : rs.length ≤ 10 := by
            have a1 := k4.len
            rw [List.length_map, Fa.forest_len pickG_ok] at a1
            have a2 := pickG_len Ls q
            have a3 := HTEN.out
            omega
          have hlen2 : cs.length ≤ 10 := by
            have a2 := pickG_len Ls q
            have a3 := HTEN.out
            omega
          have K1 := Lib.hid k1
          have K2 := Lib.hid k2
          have K3 : Hid (Apart2 u3 u4) := k3
          have K4 := Lib.hid k4
          have K5 := Lib.hid k5
          have K6 := Lib.hid k6
          have KL1 := Lib.hid hlen1
          have KL2 := Lib.hid hlen2
          obtain ⟨u, hu⟩ : ∃ u, u = us[q] := ⟨_, rfl⟩
          rw [← hu] at p0 HFq HRq HBq HU
          obtain ⟨ua, un, uc⟩ := u
          have huv : valS (ua, un, uc) = .slice ua un uc := rfl
          have HU2 : Hid (ReadsL 6 encNode w (valS (ua, un, uc)) Ls[q]) := HU
          rw [huv] at p0 HFq HRq HBq
          clear hin hc hg hbw hgood hfar hj hq hlt h0 hl hs hu huv k1 k2 k3 k4 k5 k6 k7 hlen1 hlen2 HU
          go_wp2_with fail
          refine (HFq.out _ HBW.out).mono ?_
          rintro e w1 ⟨rfl, rfl⟩
          go_wp2_with fail
          refine (HRq.out _ HBW.out).mono ?_
          rintro e w2 ⟨rfl, hx2⟩
          have hb2 := HBW.out.trans (hx2.mono HBW.out.size)
          have p2 : w2.cell? ⟨g, o + q, none⟩ = some (.slice ua un uc) := (hx2.cell (p := ⟨g, o + q, none⟩) (Nat.lt_of_lt_of_le HG.out HBW.out.size)).trans p0
          go_wp2_with fail
          refine (HBq.out _ hb2).mono ?_
          rintro e w3 ⟨rf, rfl, hh3, hx3⟩
          have hb3 := hb2.trans (hx3.mono hb2.size)
          have hx23 : Below wr.heap.size wr w3 := hx2.trans (hx3.mono hx2.size)
          have hh3' : Holds (fun b => some b ≠ u3.ownBlock ∧ some b ≠ u4.ownBlock) w3 (Fa.build Ls[q]).2 [valE rf] := hh3.mono (fun b hb _ => ⟨own_gt K1.out (Nat.le_trans hx2.size hb), own_gt K2.out (Nat.le_trans hx2.size hb)⟩)
          have HH3 := Lib.hid hh3'
          have HX23 := Lib.hid hx23
          have HB3 := Lib.hid hb3
          have p3 : w3.cell? ⟨g, o + q, none⟩ = some (.slice ua un uc) := (hx3.cell (p := ⟨g, o + q, none⟩) (Nat.lt_of_lt_of_le HG.out hb2.size)).trans p2
          obtain ⟨ty, pv, hty⟩ := valE_iface rf
          rw [hty]
          have HTY := Lib.hid hty
          clear hty hh3 hh3' hx2 hx3 hb2 hb3 hx23 p0 p2
          go_wp2_with (first | (at_builtin; refine appL_at elE _ rfl _ _ rfl w.heap.size u3 rs rf rfl ((K1.out.below HX23.out).alloc _) _ 1 rfl (newE w3 _ _ rf HTY.out) (by have := KL1.out; unfold maxLen; omega) (by have := KL1.out; omega) (by have := HB3.out.size; simp; omega) ?_; rintro v5 w5 hown5 hgr5 ⟨g5, c5, rfl⟩ hat5; have p5 : w5.cell? ⟨g, o + q, none⟩ = some (.slice ua un uc) := ((gb_cell' hgr5 (by have a1 := HG.out; have a2 := HB3.out.size; simp; omega) (own_ne' K1.out HG.out)).trans (((Below.refl w3.heap.size w3).alloc (Nat.le_refl _) _).cell (p := ⟨g, o + q, none⟩) (Nat.lt_of_lt_of_le HG.out HB3.out.size))).trans p3; have HO5 := Lib.hid hown5; have HG5 := Lib.hid hgr5; have HA5 := Lib.hid hat5; clear hown5 hgr5 hat5 p3) | (at_builtin; refine appL_at elS _ rfl _ _ rfl w.heap.size u4 cs (ua, un, uc) rfl ((((K2.out.below HX23.out).alloc _).kept HG5.out K3.out.ne).alloc _) _ 1 rfl (newS w5 _ _ (ua, un, uc) rfl) (by have := KL2.out; unfold maxLen; omega) (by have := KL2.out; omega) (by have a1 := HB3.out.size; have a2 := HG5.out.size; simp at a2 ⊢; omega) ?_; rintro v7 w7 hown7 hgr7 ⟨g7, c7, rfl⟩ hat7; have HX := Lib.hid (linv_good HQ2.out HGD.out HU2.out (K2.out.below HX23.out) K3.out (K4.out.below HX23.out) HH3.out K5.out K6.out HB3.out (K1.out.below HX23.out) HO5.out HG5.out HA5.out hown7 hgr7 hat7); clear hown7 hgr7 hat7 p5))
          case roundEnd =>
            have h1 := HLT.out
            have h2 := HTEN.out
            exact ⟨⟨q + 1, HLT.out, by go_num, HX⟩, by simp [intOf]; omega⟩
        · have hgood : goodL Ls[q] = false := by simp [goodL, h0]
          have HX := Lib.hid (hj.out.skip hq2 hgood)
          have hE1 : ((Fa.build Ls[q]).1 != 0) = true := by rw [bne_iff_ne]; exact h0
          generalize (Fa.build Ls[q]).1 = E1 at h0 HRq hE1
          generalize valS us[q] = uv at p0 HFq HRq
          clear hin hc hg hbw hgood hfar hj hq hlt h0 hl hs
          go_wp2_with (first | (go_at_call 11; refine (HFq.out _ HBW.out).mono ?_; rintro e w1 ⟨rfl, rfl⟩) | (go_at_call 14; refine (HRq.out _ HBW.out).mono ?_; rintro e w2 ⟨rfl, hx2⟩))
          case roundEnd =>
            have h1 := HLT.out
            have h2 := HTEN.out
            exact ⟨⟨q + 1, HLT.out, by go_num, Lib.hid (HX.out.below hx2)⟩, by simp [intOf]; omega⟩
    · have hqe : q = n := by omega
      have i1 : ¬ (q : Int) < (n : Int) := by omega
      rw [hqe] at hj
      obtain ⟨rs, cs, k1, k2, k3, k4, k5, k6, k7⟩ := hj.out
      have hok : ∀ L ∈ pickG Ls n, (Fa.build L).1 = 0 := pickG_ok
      have hl10 : (pickG Ls n).length ≤ 10 := Nat.le_trans (pickG_len Ls n) HTEN.out
      generalize pickG Ls n = F at k4 k5 k6 hok hl10
      have HJ := Lib.hid (join_law hok hl10 rs u3 wr k1 k4)
      have HRJ : Hid (∀ w1, Below wr.heap.size wr w1 → Calls Tryz.prog 19 #[u4] w1 fun e w' => (jcode F ≠ 0 → e = .returned (.tuple #[.slice none 0 0, I64 (jcode F)])) ∧
          (jcode F = 0 → ∃ v', e = .returned (.tuple #[v', I64 0]) ∧ ReadsL 6 encNode w' v' ((jtree F).chain 0)) ∧ Below w1.heap.size w1 w') := fun w1 hb =>
        rjoin_law hok hl10 cs u4 w1 (k2.below hb) k5 (fun j q1 q2 => ((k6 j q1 q2).below k7).below hb)
      have HK7 := Lib.hid k7
      by_cases hw : jcode F = 0
      · have HJ2 := Lib.hid (HJ.out.mono (fun e w' hp => (show ∃ ty pv, e = .returned (.tuple #[.iface ty pv, I64 0]) ∧ Holds (fun _ => True) w' (jtree F) [.iface ty pv] ∧ Below wr.heap.size wr w' from by
          obtain ⟨ty, pv, q1, q2⟩ := hp.2.1 hw
          exact ⟨ty, pv, q1, q2, hp.2.2⟩)))
        have HRJ2 : Hid (∀ w1, Below wr.heap.size wr w1 → Calls Tryz.prog 19 #[u4] w1 fun e w' => ∃ v', e = .returned (.tuple #[v', I64 0]) ∧ ReadsL 6 encNode w' v' ((jtree F).chain 0) ∧ Below w1.heap.size w1 w') := fun w1 hb => (HRJ.out w1 hb).mono (fun e w' hp => by
          obtain ⟨b, q1, q2⟩ := hp.2.1 hw
          exact ⟨b, q1, q2, hp.2.2⟩)
        obtain ⟨ok1, ok2⟩ := jtree_ok hok hw hl10
        have HIS : Hid (∀ w1 rv v2, Holds (fun _ => True) w1 (jtree F) [rv] → ReadsL 6 encNode w1 v2 ((jtree F).chain 0) → Calls Tryz.prog 15 #[rv, v2] w1 fun e w' => e = .returned (.bool true) ∧ Below w1.heap.size w1 w') := fun w1 rv v2 hh hr => by
          have h1 := is_any _ _ rv v2 _ w1 hh ok1 ok2 hr (by rw [Fa.chain_length]; omega)
          rw [decide_eq_true rfl] at h1
          exact h1
        generalize jtree F = t at HJ2 HRJ2 HIS
        clear hq hlt hqe hj k1 k2 k3 k4 k5 k6 k7 hok hl10 HJ HRJ ok1 ok2 hw
        go_wp2_with fail
        refine HJ2.out.mono ?_
        rintro e w4 ⟨ty, pv, rfl, hh4, hx4⟩
        go_wp2_with fail
        refine (HRJ2.out _ hx4).mono ?_
        rintro e w5 ⟨v5, rfl, hr5, hx5⟩
        have hh5 := hh4.below hx5
        have hx45 := hx4.trans (hx5.mono hx4.size)
        have hb5 := HK7.out.trans (hx45.mono HK7.out.size)
        clear hx4 hx5 hh4 hx45
        go_wp2_with fail
        refine (HIS.out _ _ _ hh5 hr5).mono ?_
        rintro e w6 ⟨rfl, hx6⟩
        have hb6 := hb5.trans (hx6.mono hb5.size)
        go_wp2_with fail
        refine (HS.out _ hb6).mono ?_
        rintro e w7 ⟨rfl, hx7⟩
        have hb7 := hb6.trans (hx7.mono hb6.size)
        go_wp2
        go_ret
        exact ⟨rfl, hb7⟩
      · have HJ2 := Lib.hid (HJ.out.mono (fun e w' hp => (show e = .returned (.tuple #[.nilIface, I64 (jcode F)]) ∧ Below wr.heap.size wr w' from ⟨hp.1 hw, hp.2.2⟩)))
        have HRJ2 : Hid (∀ w1, Below wr.heap.size wr w1 → Calls Tryz.prog 19 #[u4] w1 fun e w' => e = .returned (.tuple #[.slice none 0 0, I64 (jcode F)]) ∧ Below w1.heap.size w1 w') := fun w1 hb => (HRJ.out w1 hb).mono (fun e w' hp => ⟨hp.1 hw, hp.2.2⟩)
        generalize jcode F = E at hw HJ2 HRJ2
        have hE2 : (E != 0) = true := by rw [bne_iff_ne]; exact hw
        have hE3 : (E != E) = false := by simp
        clear hq hlt hqe hj k1 k2 k3 k4 k5 k6 k7 hok hl10 HJ HRJ hw
        go_wp2_with fail
        refine HJ2.out.mono ?_
        rintro e w4 ⟨rfl, hx4⟩
        go_wp2_with fail
        refine (HRJ2.out _ hx4).mono ?_
        rintro e w5 ⟨rfl, hx5⟩
        have hx45 := hx4.trans (hx5.mono hx4.size)
        have hb5 := HK7.out.trans (hx45.mono HK7.out.size)
        clear hx4 hx5 hx45
        go_wp2_with fail
        refine (HS.out _ hb5).mono ?_
        rintro e w7 ⟨rfl, hx7⟩
        have hb7 := hb5.trans (hx7.mono hb5.size)
        go_wp2
        go_ret
        exact ⟨rfl, hb7⟩
end Go.Proofs.YtgnhbccmdpkbiaaGreatDoor
