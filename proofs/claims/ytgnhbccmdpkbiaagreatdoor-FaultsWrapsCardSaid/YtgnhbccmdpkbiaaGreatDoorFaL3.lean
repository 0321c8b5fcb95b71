/-
  The law FaultsWraps of layer 3, walked.
-/
import Derived.Test.YtgnhbccmdpkbiaaGreatDoorFaw23
import Derived.Test.YtgnhbccmdpkbiaaGreatDoorFaL2
namespace Go.Proofs.YtgnhbccmdpkbiaaGreatDoor
open Go.RowKit Go.Shelf

theorem wrap_link (x : Fa.Link) (c : Fa.F) : (Fa.F.link x c .nil).chain 0 = wrapN x (c.chain 0) := by
  simp only [Fa.F.chain, wrapN, List.append_nil]
  rw [Fa.chain_deep]
theorem wrap_lim (x : Fa.Link) (c : Fa.F) : Fa.limits (wrapN x (c.chain 0)) = decide (40 < c.nodes + 1 ∨ 12 < c.hgt) := by
  rw [← wrap_link, Fa.limits_chain (by simp), Bool.eq_iff_iff, decide_eq_true_eq, decide_eq_true_eq]
  simp only [Fa.F.nodes, Fa.F.hgt]
  omega
theorem wrap_law (x : Fa.Link) (c : Fa.F) (cv : Value) (w : World) (hs : x.op.size ≤ maxLen) (h : CauseAt (fun _ => True) w c cv) (hn : c.nodes ≤ 1000) : Calls Tryz.prog 16 #[valLink x, cv] w fun e w' =>
    (wrapE x c ≠ 0 → e = .returned (.tuple #[.nilIface, I64 (wrapE x c)])) ∧ (wrapE x c = 0 → ∃ b, e = .returned (.tuple #[linkPtr b, I64 0]) ∧ Holds (fun _ => True) w' (.link x c .nil) [linkPtr b]) ∧ Below w.heap.size w w' := by
  rcases h with ⟨rfl, rfl⟩ | ⟨hne, hh⟩
  · refine (wrap_nil x w hs).mono ?_
    rintro e w' ⟨h1, h2, h3⟩
    refine ⟨h1, fun h0 => ?_, h3⟩
    obtain ⟨b, e1, e2, e3⟩ := h2 h0
    exact ⟨b, e1, b, .nilIface, [], [], rfl, trivial, e3, rfl, .inl ⟨rfl, rfl⟩, rfl⟩
  · refine (wrap_some _ x c cv w hs hh hn).mono ?_
    rintro e w' ⟨h1, h2, h3⟩
    refine ⟨h1, fun h0 => ?_, h3⟩
    obtain ⟨b, e1, e2, e3⟩ := h2 h0
    exact ⟨b, e1, b, cv, [cv], [], rfl, trivial, e3, hh.below h3, .inr rfl, rfl⟩
theorem rwrap_law (x : Fa.Link) (c : Fa.F) (vv : Value) (w : World) (hs : x.op.size ≤ maxLen) (h : ReadsL 6 encNode w vv (c.chain 0)) (hn : c.nodes ≤ 1000) : Calls Tryz.prog 17 #[valLink x, vv] w fun e w' =>
    (wrapE x c ≠ 0 → e = .returned (.tuple #[.slice none 0 0, I64 (wrapE x c)])) ∧ (wrapE x c = 0 → ∃ v', e = .returned (.tuple #[v', I64 0]) ∧ ReadsL 6 encNode w' v' ((Fa.F.link x c .nil).chain 0)) ∧ Below w.heap.size w w' := by
  refine (rwrap_any x vv _ w hs h (by rw [Fa.chain_length]; omega) (fun y hy => by have h1 := Fa.chain_depths c 0 y hy; have h2 := Fa.hgt_le_nodes c; omega)).mono ?_
  rintro e w' ⟨h1, h2, h3, h4⟩
  rw [wrap_lim] at h2 h3
  rw [wrap_link]
  by_cases hc : checkE x = 0
  · have hw : wrapE x c = if 40 < c.nodes + 1 ∨ 12 < c.hgt then 3 else 0 := by unfold wrapE; rw [if_pos hc]
    by_cases hq : 40 < c.nodes + 1 ∨ 12 < c.hgt
    · rw [if_pos hq] at hw
      rw [hw]
      exact ⟨fun _ => h2 hc (decide_eq_true hq), fun h => absurd h (by decide), h4⟩
    · rw [if_neg hq] at hw
      rw [hw]
      exact ⟨fun h => absurd rfl h, fun _ => h3 hc (decide_eq_false hq), h4⟩
  · have hw : wrapE x c = checkE x := by unfold wrapE; rw [if_neg hc]
    rw [hw]
    exact ⟨fun h => h1 h, fun h => absurd h hc, h4⟩
theorem wrap_okL {x : Fa.Link} {c : Fa.F} (h : wrapE x c = 0) (hl : c.len ≤ 1) (hok : c.ok) (hn : c.nodes ≤ 1000) : (Fa.F.link x c .nil).ok ∧ (Fa.F.link x c .nil).nodes ≤ 100000 := by
  refine ⟨⟨?_, hl, hok, trivial⟩, by simp only [Fa.F.nodes]; omega⟩
  unfold wrapE at h
  split at h
  · rename_i hc
    unfold checkE at hc
    split at hc
    · exact absurd hc (by decide)
    · split at hc
      · exact absurd hc (by decide)
      · rename_i _ h2
        simpa using h2
  · rename_i hc
    exact absurd h hc
set_option maxHeartbeats 8000000 in
set_option maxRecDepth 100000 in
set_option linter.unusedSimpArgs false in
theorem lawWraps (x : Fa.Link) (v : Value) (l : List Fa.Node) (w : World) (hE : EnvF w) (h : NodesIn w v l) : Calls Tryz.prog 4 #[valLink x, v] w fun e w' => e = .returned (.bool true) ∧ Below w.heap.size w w' := by
  have HF : Hid (∀ w1, Below w.heap.size w w1 → Calls Tryz.prog 11 #[v] w1 fun e w' => e = .returned (.bool (farL l)) ∧ w1 = w') := fun w1 hb => far_full v l w1 (h.1.below hb)
  have HS : Hid (∀ w1, Below w.heap.size w w1 → Calls Tryz.prog 12 #[] w1 fun e w' => e = .returned (.bool true) ∧ Below w1.heap.size w1 w') := fun w1 hb => shown_any w1 (hE.below hb)
  have HBA := Lib.hid (show Below w.heap.size w (w.alloc (.cells #[I64 x.kind, .string x.op, I64 x.backend, I64 x.conn] 34)) from (Below.refl _ _).alloc (Nat.le_refl _) _)
  cases hq : farL l with
  | true =>
    rw [hq] at HF
    clear hq h hE
    obtain ⟨xk, xo, xb, xc⟩ := x
    unfold valLink
    dsimp only at HBA ⊢
    go_enter Tryz.func4, Tryz.ntmps4
    go_wp2_with (first | (go_at_call 11; refine (HF.out _ HBA.out).mono ?_; rintro e w1 ⟨rfl, rfl⟩) | (go_at_call 12; refine (HS.out _ HBA.out).mono ?_; rintro e w2 ⟨rfl, hx2⟩; have hb2 := HBA.out.trans (hx2.mono HBA.out.size)))
    go_ret
    exact ⟨rfl, hb2⟩
  | false =>
    rw [hq] at HF
    obtain ⟨hl, hs⟩ := far_sizes hq
    by_cases hxs : 100 < x.op.size
    · clear hq h hE hl hs
      obtain ⟨xk, xo, xb, xc⟩ := x
      unfold valLink
      dsimp only at HBA hxs ⊢
      go_enter Tryz.func4, Tryz.ntmps4
      go_wp2_with (first | (go_at_call 11; refine (HF.out _ HBA.out).mono ?_; rintro e w1 ⟨rfl, rfl⟩) | (go_at_call 12; refine (HS.out _ HBA.out).mono ?_; rintro e w2 ⟨rfl, hx2⟩; have hb2 := HBA.out.trans (hx2.mono HBA.out.size)))
      go_ret
      exact ⟨rfl, hb2⟩
    · have hxm : x.op.size ≤ maxLen := by unfold maxLen; omega
      have HR : Hid (∀ w1, Below w.heap.size w w1 → Calls Tryz.prog 14 #[v] w1 fun e w' => e = .returned (I64 (Fa.build l).1) ∧ Below w1.heap.size w1 w') := fun w1 hb => rbuild_any v l w1 (h.1.below hb) (by omega) hs
      by_cases h0 : (Fa.build l).1 = 0
      · obtain ⟨b1, b2, b3, b4, b5⟩ := Fa.build_ok h0
        have hne : l ≠ [] := fun e => by
          subst e
          exact absurd h0 (by decide)
        have hlp : 0 < l.length := List.length_pos_iff.2 hne
        rw [h0] at HR
        have HB2 : Hid (∀ w1, Below w.heap.size w w1 → Calls Tryz.prog 13 #[v] w1 fun e w' => ∃ rf, e = .returned (.tuple #[valE rf, I64 0]) ∧ Holds (fun _ => True) w' (Fa.build l).2 [valE rf] ∧ Below w1.heap.size w1 w') := fun w1 hb => (build_any v l w1 (h.below hb) (by omega) hs).mono (fun e w' hp => by
          obtain ⟨_, p2, p3⟩ := hp
          obtain ⟨rf, e1, e2⟩ := p2 h0
          exact ⟨rf, e1, e2.mono (fun _ _ _ => trivial), p3⟩)
        have HV : Hid (∀ w1, Below w.heap.size w w1 → ReadsL 6 encNode w1 v ((Fa.build l).2.chain 0)) := fun w1 hb => by rw [b1]; exact h.1.below hb
        have hc0 : (Fa.build l).2 ≠ .nil := fun e => by rw [e] at b3; exact absurd b3 (by decide)
        generalize (Fa.build l).2 = c at *
        have hn : c.nodes ≤ 1000 := by omega
        by_cases hw : wrapE x c = 0
        · have HW : Hid (∀ w1 cv, Holds (fun _ => True) w1 c [cv] → Calls Tryz.prog 16 #[valLink x, cv] w1 fun e w' => ∃ b, e = .returned (.tuple #[linkPtr b, I64 0]) ∧ Holds (fun _ => True) w' (.link x c .nil) [linkPtr b] ∧ Below w1.heap.size w1 w') := fun w1 cv hh => (wrap_law x c cv w1 hxm (.inr ⟨hc0, hh⟩) hn).mono (fun e w' hp => by
            obtain ⟨b, q1, q2⟩ := hp.2.1 hw
            exact ⟨b, q1, q2, hp.2.2⟩)
          have HRW : Hid (∀ w1, Below w.heap.size w w1 → Calls Tryz.prog 17 #[valLink x, v] w1 fun e w' => ∃ v', e = .returned (.tuple #[v', I64 0]) ∧ ReadsL 6 encNode w' v' ((Fa.F.link x c .nil).chain 0) ∧ Below w1.heap.size w1 w') := fun w1 hb => (rwrap_law x c v w1 hxm (HV.out w1 hb) hn).mono (fun e w' hp => by
            obtain ⟨b, q1, q2⟩ := hp.2.1 hw
            exact ⟨b, q1, q2, hp.2.2⟩)
          obtain ⟨ok1, ok2⟩ := wrap_okL hw (by omega) b2 hn
          have HI : Hid (∀ w1 rv v2, Holds (fun _ => True) w1 (.link x c .nil) [rv] → ReadsL 6 encNode w1 v2 ((Fa.F.link x c .nil).chain 0) → Calls Tryz.prog 15 #[rv, v2] w1 fun e w' => e = .returned (.bool true) ∧ Below w1.heap.size w1 w') := fun w1 rv v2 hh hr => by
            have h1 := is_any _ _ rv v2 _ w1 hh ok1 ok2 hr (by rw [Fa.chain_length]; omega)
            rw [decide_eq_true rfl] at h1
            exact h1
          obtain ⟨va, vcap, hvv⟩ := h.1.len
          generalize l.length = ln at hvv hlp
          subst hvv
          clear hq h hE hs h0 b1 b2 b3 b4 b5 hn hc0 hw hne hl hxm HV ok1 ok2
          obtain ⟨xk, xo, xb, xc⟩ := x
          unfold valLink at *
          dsimp only at HBA hxs ⊢
          go_enter Tryz.func4, Tryz.ntmps4
          go_wp2_with fail
          refine (HF.out _ HBA.out).mono ?_
          rintro e w1 ⟨rfl, rfl⟩
          go_wp2_with fail
          refine (HR.out _ HBA.out).mono ?_
          rintro e w2 ⟨rfl, hx2⟩
          obtain ⟨c0, c1, c2, c3⟩ := boxCells hx2
          have hb2 := HBA.out.trans (hx2.mono HBA.out.size)
          clear hx2
          go_wp2_with fail
          refine (HB2.out _ hb2).mono ?_
          rintro e w3 ⟨rf, rfl, hh3, hx3⟩
          obtain ⟨d0, d1, d2, d3⟩ := carry4 hx3 c0 c1 c2 c3
          have hb3 := hb2.trans (hx3.mono hb2.size)
          obtain ⟨ty, pv, hty⟩ := valE_iface rf
          rw [hty] at hh3 ⊢
          clear hty hx3 hb2 c0 c1 c2 c3
          go_wp2_with fail
          refine (HW.out _ _ hh3).mono ?_
          rintro e w4 ⟨bb, rfl, hh4, hx4⟩
          obtain ⟨f0, f1, f2, f3⟩ := carry4 hx4 d0 d1 d2 d3
          have hb4 := hb3.trans (hx4.mono hb3.size)
          unfold linkPtr at *
          clear hx4 hb3 d0 d1 d2 d3 hh3
          go_wp2_with fail
          refine (HRW.out _ hb4).mono ?_
          rintro e w5 ⟨v5, rfl, hr5, hx5⟩
          have hh5 := hh4.below hx5
          have hb5 := hb4.trans (hx5.mono hb4.size)
          clear hx5 hb4 f0 f1 f2 f3 hh4
          go_wp2_with fail
          refine (HI.out _ _ _ hh5 hr5).mono ?_
          rintro e w6 ⟨rfl, hx6⟩
          have hb6 := hb5.trans (hx6.mono hb5.size)
          go_wp2_with fail
          refine (HS.out _ hb6).mono ?_
          rintro e w7 ⟨rfl, hx7⟩
          have hb7 := hb6.trans (hx7.mono hb6.size)
          go_wp2
          go_ret
          exact ⟨rfl, hb7⟩
        · have HW : Hid (∀ w1 cv, Holds (fun _ => True) w1 c [cv] → Calls Tryz.prog 16 #[valLink x, cv] w1 fun e w' => e = .returned (.tuple #[.nilIface, I64 (wrapE x c)]) ∧ Below w1.heap.size w1 w') := fun w1 cv hh => (wrap_law x c cv w1 hxm (.inr ⟨hc0, hh⟩) hn).mono (fun e w' hp => ⟨hp.1 hw, hp.2.2⟩)
          have HRW : Hid (∀ w1, Below w.heap.size w w1 → Calls Tryz.prog 17 #[valLink x, v] w1 fun e w' => e = .returned (.tuple #[.slice none 0 0, I64 (wrapE x c)]) ∧ Below w1.heap.size w1 w') := fun w1 hb => (rwrap_law x c v w1 hxm (HV.out w1 hb) hn).mono (fun e w' hp => ⟨hp.1 hw, hp.2.2⟩)
          generalize wrapE x c = E at hw HW HRW
          have hE2 : (E != 0) = true := by rw [bne_iff_ne]; exact hw
          have hE3 : (E != E) = false := by simp
          obtain ⟨va, vcap, hvv⟩ := h.1.len
          generalize l.length = ln at hvv hlp
          subst hvv
          clear hq h hE hs h0 b1 b2 b3 b4 b5 hn hc0 hw hne hl hxm HV
          obtain ⟨xk, xo, xb, xc⟩ := x
          unfold valLink at *
          dsimp only at HBA hxs ⊢
          go_enter Tryz.func4, Tryz.ntmps4
          go_wp2_with fail
          refine (HF.out _ HBA.out).mono ?_
          rintro e w1 ⟨rfl, rfl⟩
          go_wp2_with fail
          refine (HR.out _ HBA.out).mono ?_
          rintro e w2 ⟨rfl, hx2⟩
          obtain ⟨c0, c1, c2, c3⟩ := boxCells hx2
          have hb2 := HBA.out.trans (hx2.mono HBA.out.size)
          clear hx2
          go_wp2_with fail
          refine (HB2.out _ hb2).mono ?_
          rintro e w3 ⟨rf, rfl, hh3, hx3⟩
          obtain ⟨d0, d1, d2, d3⟩ := carry4 hx3 c0 c1 c2 c3
          have hb3 := hb2.trans (hx3.mono hb2.size)
          obtain ⟨ty, pv, hty⟩ := valE_iface rf
          rw [hty] at hh3 ⊢
          clear hty hx3 hb2 c0 c1 c2 c3
          go_wp2_with fail
          refine (HW.out _ _ hh3).mono ?_
          rintro e w4 ⟨rfl, hx4⟩
          obtain ⟨f0, f1, f2, f3⟩ := carry4 hx4 d0 d1 d2 d3
          have hb4 := hb3.trans (hx4.mono hb3.size)
          clear hx4 hb3 d0 d1 d2 d3 hh3
          go_wp2_with fail
          refine (HRW.out _ hb4).mono ?_
          rintro e w5 ⟨rfl, hx5⟩
          have hb5 := hb4.trans (hx5.mono hb4.size)
          clear hx5 hb4 f0 f1 f2 f3
          go_wp2_with fail
          refine (HS.out _ hb5).mono ?_
          rintro e w7 ⟨rfl, hx7⟩
          have hb7 := hb5.trans (hx7.mono hb5.size)
          go_wp2
          go_ret
          exact ⟨rfl, hb7⟩
      · have hE1 : ((Fa.build l).1 != 0) = true := by rw [bne_iff_ne]; exact h0
        have hv : Fa.F.nil.ok := trivial
        generalize (Fa.build l).1 = E1 at h0 HR hE1
        by_cases hw : wrapE x .nil = 0
        · have HW : Hid (∀ w1, Calls Tryz.prog 16 #[valLink x, .nilIface] w1 fun e w' => ∃ b, e = .returned (.tuple #[linkPtr b, I64 0]) ∧ Holds (fun _ => True) w' (.link x .nil .nil) [linkPtr b] ∧ Below w1.heap.size w1 w') := fun w1 => (wrap_law x .nil .nilIface w1 hxm (.inl ⟨rfl, rfl⟩) (by decide)).mono (fun e w' hp => by
            obtain ⟨b, q1, q2⟩ := hp.2.1 hw
            exact ⟨b, q1, q2, hp.2.2⟩)
          have HRW : Hid (∀ w1, Below w.heap.size w w1 → Calls Tryz.prog 17 #[valLink x, (.slice none 0 0)] w1 fun e w' => ∃ v', e = .returned (.tuple #[v', I64 0]) ∧ ReadsL 6 encNode w' v' ((Fa.F.link x .nil .nil).chain 0) ∧ Below w1.heap.size w1 w') := fun w1 hb => (rwrap_law x .nil (.slice none 0 0) w1 hxm (.inl ⟨none, 0, rfl, rfl⟩) (by decide)).mono (fun e w' hp => by
            obtain ⟨b, q1, q2⟩ := hp.2.1 hw
            exact ⟨b, q1, q2, hp.2.2⟩)
          obtain ⟨ok1, ok2⟩ := wrap_okL hw (by decide) hv (by decide)
          have HI : Hid (∀ w1 rv v2, Holds (fun _ => True) w1 (.link x .nil .nil) [rv] → ReadsL 6 encNode w1 v2 ((Fa.F.link x .nil .nil).chain 0) → Calls Tryz.prog 15 #[rv, v2] w1 fun e w' => e = .returned (.bool true) ∧ Below w1.heap.size w1 w') := fun w1 rv v2 hh hr => by
            have h1 := is_any _ _ rv v2 _ w1 hh ok1 ok2 hr (by rw [Fa.chain_length]; omega)
            rw [decide_eq_true rfl] at h1
            exact h1
          clear hq h hE hs h0 hw hl hxm hv ok1 ok2
          obtain ⟨xk, xo, xb, xc⟩ := x
          unfold valLink at *
          dsimp only at HBA hxs ⊢
          go_enter Tryz.func4, Tryz.ntmps4
          go_wp2_with fail
          refine (HF.out _ HBA.out).mono ?_
          rintro e w1 ⟨rfl, rfl⟩
          go_wp2_with fail
          refine (HR.out _ HBA.out).mono ?_
          rintro e w2 ⟨rfl, hx2⟩
          obtain ⟨c0, c1, c2, c3⟩ := boxCells hx2
          have hb2 := HBA.out.trans (hx2.mono HBA.out.size)
          clear hx2
          go_wp2_with fail
          refine (HW.out _).mono ?_
          rintro e w4 ⟨bb, rfl, hh4, hx4⟩
          obtain ⟨f0, f1, f2, f3⟩ := carry4 hx4 c0 c1 c2 c3
          have hb4 := hb2.trans (hx4.mono hb2.size)
          unfold linkPtr at *
          clear hx4 hb2 c0 c1 c2 c3
          go_wp2_with fail
          refine (HRW.out _ hb4).mono ?_
          rintro e w5 ⟨v5, rfl, hr5, hx5⟩
          have hh5 := hh4.below hx5
          have hb5 := hb4.trans (hx5.mono hb4.size)
          clear hx5 hb4 f0 f1 f2 f3 hh4
          go_wp2_with fail
          refine (HI.out _ _ _ hh5 hr5).mono ?_
          rintro e w6 ⟨rfl, hx6⟩
          have hb6 := hb5.trans (hx6.mono hb5.size)
          go_wp2_with fail
          refine (HS.out _ hb6).mono ?_
          rintro e w7 ⟨rfl, hx7⟩
          have hb7 := hb6.trans (hx7.mono hb6.size)
          go_wp2
          go_ret
          exact ⟨rfl, hb7⟩
        · have HW : Hid (∀ w1, Calls Tryz.prog 16 #[valLink x, .nilIface] w1 fun e w' => e = .returned (.tuple #[.nilIface, I64 (wrapE x .nil)]) ∧ Below w1.heap.size w1 w') := fun w1 => (wrap_law x .nil .nilIface w1 hxm (.inl ⟨rfl, rfl⟩) (by decide)).mono (fun e w' hp => ⟨hp.1 hw, hp.2.2⟩)
          have HRW : Hid (∀ w1, Below w.heap.size w w1 → Calls Tryz.prog 17 #[valLink x, (.slice none 0 0)] w1 fun e w' => e = .returned (.tuple #[.slice none 0 0, I64 (wrapE x .nil)]) ∧ Below w1.heap.size w1 w') := fun w1 hb => (rwrap_law x .nil (.slice none 0 0) w1 hxm (.inl ⟨none, 0, rfl, rfl⟩) (by decide)).mono (fun e w' hp => ⟨hp.1 hw, hp.2.2⟩)
          generalize wrapE x .nil = E at hw HW HRW
          have hE2 : (E != 0) = true := by rw [bne_iff_ne]; exact hw
          have hE3 : (E != E) = false := by simp
          clear hq h hE hs h0 hw hl hxm hv
          obtain ⟨xk, xo, xb, xc⟩ := x
          unfold valLink at *
          dsimp only at HBA hxs ⊢
          go_enter Tryz.func4, Tryz.ntmps4
          go_wp2_with fail
          refine (HF.out _ HBA.out).mono ?_
          rintro e w1 ⟨rfl, rfl⟩
          go_wp2_with fail
          refine (HR.out _ HBA.out).mono ?_
          rintro e w2 ⟨rfl, hx2⟩
          obtain ⟨c0, c1, c2, c3⟩ := boxCells hx2
          have hb2 := HBA.out.trans (hx2.mono HBA.out.size)
          clear hx2
          go_wp2_with fail
          refine (HW.out _).mono ?_
          rintro e w4 ⟨rfl, hx4⟩
          obtain ⟨f0, f1, f2, f3⟩ := carry4 hx4 c0 c1 c2 c3
          have hb4 := hb2.trans (hx4.mono hb2.size)
          clear hx4 hb2 c0 c1 c2 c3
          go_wp2_with fail
          refine (HRW.out _ hb4).mono ?_
          rintro e w5 ⟨rfl, hx5⟩
          have hb5 := hb4.trans (hx5.mono hb4.size)
          clear hx5 hb4 f0 f1 f2 f3
          go_wp2_with fail
          refine (HS.out _ hb5).mono ?_
          rintro e w7 ⟨rfl, hx7⟩
          have hb7 := hb5.trans (hx7.mono hb5.size)
          go_wp2
          go_ret
          exact ⟨rfl, hb7⟩
end Go.Proofs.YtgnhbccmdpkbiaaGreatDoor
