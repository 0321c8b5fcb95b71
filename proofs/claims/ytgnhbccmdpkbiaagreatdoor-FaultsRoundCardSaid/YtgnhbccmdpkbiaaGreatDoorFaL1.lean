/-
  The law FaultsBuilds of layer 3, walked.
-/
import Derived.Test.YtgnhbccmdpkbiaaGreatDoorFaSh
import Derived.Test.YtgnhbccmdpkbiaaGreatDoorFaw10
namespace Go.Proofs.YtgnhbccmdpkbiaaGreatDoor
open Go.RowKit Go.Shelf

set_option maxRecDepth 100000 in
theorem far_long (v : Value) (l : List Fa.Node) (w : World) (h1 : ReadsL 6 encNode w v l) (hl : 60 < l.length) : Calls Tryz.prog 11 #[v] w fun e w' => e = .returned (.bool true) ∧ w = w' := by
  obtain ⟨a, cap, rfl⟩ := h1.len
  clear h1
  go_enter Tryz.func11, Tryz.ntmps11
  go_wp2
  go_ret
  exact ⟨rfl, rfl⟩
theorem far_full (v : Value) (l : List Fa.Node) (w : World) (h1 : ReadsL 6 encNode w v l) : Calls Tryz.prog 11 #[v] w fun e w' => e = .returned (.bool (farL l)) ∧ w = w' := by
  by_cases h : 60 < l.length
  · rw [far_len h]; exact far_long v l w h1 h
  · exact far_any v l w h1 (by omega)
theorem far_sizes {l : List Fa.Node} (h : farL l = false) : l.length ≤ 60 ∧ ∀ x ∈ l, x.link.op.size ≤ maxLen := by
  simp only [farL, Bool.or_eq_false_iff, decide_eq_false_iff_not, List.any_eq_false, decide_eq_true_eq] at h
  refine ⟨by omega, fun x hx => ?_⟩
  have := h.2 x hx
  unfold maxLen
  omega
set_option maxHeartbeats 2000000 in
set_option maxRecDepth 100000 in
theorem lawBuilds (v : Value) (l : List Fa.Node) (w : World) (hE : EnvF w) (h : NodesIn w v l) : Calls Tryz.prog 3 #[v] w fun e w' => e = .returned (.bool true) ∧ Below w.heap.size w w' := by
  have HF := Lib.hid (far_full v l w h.1)
  have HS : Hid (∀ w1, Below w.heap.size w w1 → Calls Tryz.prog 12 #[] w1 fun e w' => e = .returned (.bool true) ∧ Below w1.heap.size w1 w') := fun w1 hb => shown_any w1 (hE.below hb)
  obtain ⟨a, cap, hv⟩ := h.1.len
  cases hq : farL l with
  | true =>
    rw [hq] at HF
    clear hq h hE hv
    go_enter Tryz.func3, Tryz.ntmps3
    go_wp2_with (first | (go_at_call 11; refine HF.out.mono ?_; rintro e w1 ⟨rfl, rfl⟩) | (go_at_call 12; refine (HS.out _ (Below.refl _ _)).mono ?_; rintro e w2 ⟨rfl, hb2⟩))
    go_ret
    exact ⟨rfl, hb2⟩
  | false =>
    rw [hq] at HF
    obtain ⟨hl, hs⟩ := far_sizes hq
    have HB := Lib.hid (build_any v l w h (by omega) hs)
    have HR : Hid (∀ w1, Below w.heap.size w w1 → Calls Tryz.prog 14 #[v] w1 fun e w' => e = .returned (I64 (Fa.build l).1) ∧ Below w1.heap.size w1 w') := fun w1 hb => rbuild_any v l w1 (h.1.below hb) (by omega) hs
    by_cases h0 : (Fa.build l).1 = 0
    · obtain ⟨b1, b2, b3, b4, b5⟩ := Fa.build_ok h0
      have HI : Hid (∀ w1 rv, Below w.heap.size w w1 → Holds (fun _ => True) w1 (Fa.build l).2 [rv] → Calls Tryz.prog 15 #[rv, v] w1 fun e w' => e = .returned (.bool true) ∧ Below w1.heap.size w1 w') := fun w1 rv hb hh => by
        have h1 := is_any _ (Fa.build l).2 rv v l w1 hh b2 (by omega) (h.1.below hb) (by omega)
        rw [decide_eq_true b1] at h1
        exact h1
      rw [h0] at HR
      have HB2 := Lib.hid (HB.out.mono (fun e w' (hp : BuildPost l w e w') => (show ∃ rf, e = .returned (.tuple #[valE rf, I64 0]) ∧ Holds (fun _ => True) w' (Fa.build l).2 [valE rf] ∧ Below w.heap.size w w' from by
        obtain ⟨_, p2, p3⟩ := hp
        obtain ⟨rf, e1, e2⟩ := p2 h0
        exact ⟨rf, e1, e2.mono (fun _ _ _ => trivial), p3⟩)))
      clear hq h hE hs h0 b1 b2 b3 b4 b5 HB hv
      go_enter Tryz.func3, Tryz.ntmps3
      go_wp2_with (first | (go_at_call 11; refine HF.out.mono ?_; rintro e w1 ⟨rfl, rfl⟩) | (go_at_call 13; refine HB2.out.mono ?_; rintro e w2 ⟨rf, rfl, hh2, hb2⟩; have HH2 := Lib.hid hh2; obtain ⟨ty, pv, hty⟩ := valE_iface rf; rw [hty] at HH2 ⊢; clear hh2 hty) | (go_at_call 14; refine (HR.out _ hb2).mono ?_; rintro e w3 ⟨rfl, hx3⟩; have hb3 := hb2.trans (hx3.mono hb2.size); have HH3 := Lib.hid (HH2.out.below hx3); clear hx3) | (go_at_call 15; refine (HI.out _ _ hb3 HH3.out).mono ?_; rintro e w4 ⟨rfl, hx4⟩; have hb4 := hb3.trans (hx4.mono hb3.size); clear hx4) | (go_at_call 12; refine (HS.out _ hb4).mono ?_; rintro e w5 ⟨rfl, hx5⟩; have hb5 := hb4.trans (hx5.mono hb4.size); clear hx5))
      go_ret
      exact ⟨rfl, hb5⟩
    · have HB2 := Lib.hid (HB.out.mono (fun e w' (hp : BuildPost l w e w') => (show e = .returned (.tuple #[.nilIface, I64 (Fa.build l).1]) ∧ Below w.heap.size w w' from ⟨hp.1 h0, hp.2.2⟩)))
      generalize (Fa.build l).1 = E at h0 HR HB2
      have hE1 : (E != 0) = true := by rw [bne_iff_ne]; exact h0
      have hE2 : (E != E) = false := by simp
      clear hq h hE hs h0 HB hv
      go_enter Tryz.func3, Tryz.ntmps3
      go_wp2_with (first | (go_at_call 11; refine HF.out.mono ?_; rintro e w1 ⟨rfl, rfl⟩) | (go_at_call 13; refine HB2.out.mono ?_; rintro e w2 ⟨rfl, hb2⟩) | (go_at_call 14; refine (HR.out _ hb2).mono ?_; rintro e w3 ⟨rfl, hx3⟩; have hb3 := hb2.trans (hx3.mono hb2.size); clear hx3) | (go_at_call 12; refine (HS.out _ hb3).mono ?_; rintro e w5 ⟨rfl, hx5⟩; have hb5 := hb3.trans (hx5.mono hb3.size); clear hx5))
      go_ret
      exact ⟨rfl, hb5⟩
end Go.Proofs.YtgnhbccmdpkbiaaGreatDoor
