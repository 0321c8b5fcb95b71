/-
  Walks for layer 3 (faults): Build, Chain; is of the statements.
-/
import Derived.Test.YtgnhbccmdpkbiaaDoorFaNx
import Derived.Test.YtgnhbccmdpkbiaaDoorFaw5
import Derived.Test.YtgnhbccmdpkbiaaDoorFaw7
namespace Go.Proofs.YtgnhbccmdpkbiaaDoor
open Go.RowKit

theorem nextC_all : ∀ f, NextC f := by
  intro f
  induction f with
  | zero => intro d l w bb sv wd hl; omega
  | succ f ih => exact next_step f ih
/-- A slice of nodes that comes in. -/
def NodesIn (w : World) (v : Value) (l : List Fa.Node) : Prop := ReadsL 6 encNode w v l ∧ ∃ a cap, v = .slice a l.length cap ∧ l.length ≤ cap
theorem NodesIn.below {w w' : World} {v : Value} {l : List Fa.Node} (h : NodesIn w v l) (hb : Below w.heap.size w w') : NodesIn w' v l := ⟨h.1.below hb, h.2⟩
def BuildPost (l : List Fa.Node) (w : World) (e : Ending) (w' : World) : Prop :=
  ((Fa.build l).1 ≠ 0 → e = .returned (.tuple #[.nilIface, I64 (Fa.build l).1])) ∧ ((Fa.build l).1 = 0 → ∃ rf, e = .returned (.tuple #[valE rf, I64 0]) ∧ Holds (fun b => w.heap.size ≤ b) w' (Fa.build l).2 [valE rf]) ∧ Below w.heap.size w w'
theorem BuildPost.bad {l : List Fa.Node} {w w' : World} {E : Int} (h : (Fa.build l).1 = E) (hE : E ≠ 0) (hb : Below w.heap.size w w') : BuildPost l w (.returned (.tuple #[.nilIface, I64 E])) w' :=
  ⟨fun _ => by rw [h], fun h0 => absurd (h.symm.trans h0) hE, hb⟩
theorem build_tree_none {l : List Fa.Node} (h : Fa.limits l = false) (ht : Fa.tree (l.length + 1) 0 l = none) : (Fa.build l).1 = 6 := by
  unfold Fa.build; rw [if_neg (by rw [h]; decide), ht]
theorem build_tree_more {l r : List Fa.Node} {t : Fa.F} (h : Fa.limits l = false) (ht : Fa.tree (l.length + 1) 0 l = some (t, r)) (hr : r ≠ []) : (Fa.build l).1 = 6 := by
  unfold Fa.build; rw [if_neg (by rw [h]; decide), ht]
  cases r with
  | nil => exact absurd rfl hr
  | cons _ _ => rfl
theorem build_tree_all {l : List Fa.Node} {t : Fa.F} (h : Fa.limits l = false) (ht : Fa.tree (l.length + 1) 0 l = some (t, [])) : Fa.build l = if l.any Fa.wideN then (7, .nil) else (0, t) := by
  unfold Fa.build; rw [if_neg (by rw [h]; decide), ht]

set_option maxHeartbeats 4000000 in
set_option maxRecDepth 100000 in
theorem build_any (v : Value) (l : List Fa.Node) (w : World) (h : NodesIn w v l) (hl : l.length ≤ 4294967296) (hs : ∀ x ∈ l, x.link.op.size ≤ maxLen) : Calls Tryd.prog 19 #[v] w (BuildPost l w) := by
  obtain ⟨h1, a, cap, hv, hcap⟩ := h
  by_cases hlong : 40 < l.length
  · have HS := Lib.hid (build_lim (limits_len hlong))
    subst hv
    clear h1
    go_enter Tryd.func19, Tryd.ntmps19
    go_wp2
    go_ret2
    exact BuildPost.bad HS.out (by decide) (Below.refl _ _)
  have HLG := Lib.hid hlong
  have HV := Lib.hid hv
  have HR1 := Lib.hid h1
  have HCP := Lib.hid hcap
  have HSS := Lib.hid hs
  have hl40 : l.length ≤ 40 := by omega
  have i40 : ¬ (40 : Int) < (l.length : Int) := by omega
  -- behind the loop
  have HREST : ∀ wr, Hid (Below w.heap.size w wr) → Fa.limits l = false → Hid (Calls Tryd.prog 31 #[.pointer (some ⟨wr.heap.size, 0, none⟩), I64 0] (wr.alloc (.cells #[v, .bool false] 80)) (ResPost (Fa.tree (l.length + 1) 0 l) l (wr.alloc (.cells #[v, .bool false] 80)) wr.heap.size false)) := by
    intro wr hb hlim
    have hF6 := fit_of hlim HSS.out
    refine nextC_all (l.length + 1) 0 l _ wr.heap.size v false (by omega) hF6 (by omega) (by omega) (blk_new _ _) ?_
    rcases HR1.out with ⟨a', cap', hv', hl'⟩ | ⟨b, o, cap', hv', hlt, hc⟩
    · exact .inl ⟨a', cap', hv', hl'⟩
    · have hb2 : b < wr.heap.size := Nat.lt_of_lt_of_le hlt hb.out.size
      refine .inr ⟨b, o, cap', hv', ?_, hb2, by simp; omega, fun j hj i u hu => ?_⟩
      · have e := HV.out.symm.trans hv'
        injection e with _ _ e3
        have := HCP.out
        omega
      · rw [World.cell?_alloc_lt _ _ ⟨b, _, none⟩ hb2]
        exact (hb.out.cell (p := ⟨b, _, none⟩) hlt).trans (hc j hj i u hu)
  clear h1 hcap hs hlong
  subst hv
  have HEND : ∀ wr, Hid (Below w.heap.size w wr → Fa.limits l = false → ∀ e w', ResPost (Fa.tree (l.length + 1) 0 l) l (wr.alloc (.cells #[.slice a l.length cap, .bool false] 80)) wr.heap.size false e w' → Below w.heap.size w w') := by
    intro wr hb _ e w' hp
    exact (hb.alloc hb.size _).grown hp.1 (by have := hb.size; simp; omega) (fun k hk => by injection hk with hk; have := hb.size; omega)
  by_cases hz : l = []
  · subst hz
    have HN := HREST w (Below.refl _ _) (by decide)
    have HX := Lib.hid (show (Fa.build []).1 = 6 from by decide)
    have HE := HEND w
    have hT : Fa.tree (([] : List Fa.Node).length + 1) 0 [] = none := rfl
    rw [hT] at HN HE
    clear HREST HEND hT
    go_enter Tryd.func19, Tryd.ntmps19
    go_wp2
    refine wp_loop_rounds 1 ?_
    rw [rounds_succ]
    go_wp2_with (go_at_call 31; refine HN.out.mono ?_; rintro e w3 hres; have HB3 := Lib.hid (HE.out (Below.refl _ _) (by decide) _ _ hres); obtain ⟨_, rfl⟩ := hres)
    go_ret2
    exact BuildPost.bad HX.out (by decide) HB3.out
  · obtain ⟨b, o, cap', hv', hb, hc⟩ := HR1.out.form hz
    obtain ⟨rfl, rfl⟩ : a = some ⟨b, o, none⟩ ∧ cap = cap' := by injection hv' with e1 _ e3; exact ⟨e1, e3⟩
    clear hv' hz
    have HC := Lib.hid hc
    clear hc
    go_enter Tryd.func19, Tryd.ntmps19
    go_wp2
    go_loopw [13] (fun i wr => ∃ k : Nat, k ≤ l.length ∧ i = .int .i64 k ∧ Hid (Below w.heap.size w wr) ∧ Hid (∀ j, j < k → (hj : j < l.length) → l[j].depth ≤ 12)) (fun i _ => l.length - (intOf i).toNat)
    case atStart => exact ⟨0, Nat.zero_le _, rfl, Below.refl _ _, fun j h => absurd h (Nat.not_lt_zero _)⟩
    case round =>
      obtain ⟨k, hk, rfl, hwr, hno⟩ := hrel
      by_cases hlt : k < l.length
      · obtain ⟨p0, p1, p2, p3, p4, p5⟩ := cells1 hb hwr.out HC.out k hlt
        have i1 : (k : Int) < (l.length : Int) := by omega
        have HAL := Lib.hid (hwr.out.alloc hwr.out.size (.cells #[I64 l[k].depth, I64 l[k].joined, I64 l[k].link.kind, .string l[k].link.op, I64 l[k].link.backend, I64 l[k].link.conn] 67))
        by_cases hq : 12 < l[k].depth
        · have HX := Lib.hid (build_lim (limits_deep hlt hq))
          clear HREST HEND
          go_wp2
          go_ret2
          exact BuildPost.bad HX.out (by decide) HAL.out
        · have HN : Hid (∀ j, j < k + 1 → (hj : j < l.length) → l[j].depth ≤ 12) := by
            intro j hj hjl
            by_cases e : j = k
            · subst e; omega
            · exact hno.out j (by omega) hjl
          clear HREST HEND
          go_wp2
          case roundEnd => exact ⟨⟨k + 1, by omega, by go_num, HAL, HN⟩, by simp [intOf]; omega⟩
      · have hlim := limits_no HLG.out (fun j hj => hno.out j (by omega) hj)
        have HN := HREST wr hwr hlim
        have HE := HEND wr
        have HLM := Lib.hid hlim
        have i1 : ¬ (k : Int) < (l.length : Int) := by omega
        clear hlim hno
        cases hT : Fa.tree (l.length + 1) 0 l with
        | none =>
          have HX := Lib.hid (build_tree_none HLM.out hT)
          rw [hT] at HN HE
          clear HREST HEND hT
          go_wp2_with (go_at_call 31; refine HN.out.mono ?_; rintro e w3 hres; have HB3 := Lib.hid (HE.out hwr.out HLM.out _ _ hres); obtain ⟨_, rfl⟩ := hres)
          go_ret2
          exact BuildPost.bad HX.out (by decide) HB3.out
        | some tr =>
          obtain ⟨t, r⟩ := tr
          rw [hT] at HN HE
          have HTT := Lib.hid hT
          clear HREST HEND hT
          by_cases hr : r = []
          · subst hr
            have HBA := Lib.hid (build_tree_all HLM.out HTT.out)
            cases hw : l.any Fa.wideN with
            | true =>
              have HX := Lib.hid (show (Fa.build l).1 = 7 from by rw [HBA.out, hw]; rfl)
              have HWD := Lib.hid hw
              clear hw
              go_wp2_with (go_at_call 31; refine HN.out.mono ?_; rintro e w3 hres; have HB3 := Lib.hid (HE.out hwr.out HLM.out _ _ hres); obtain ⟨_, p, sv', rf, rfl, hp, hh, hba, hrd⟩ := hres; rw [List.append_nil] at hp; subst hp; obtain ⟨a2, c2, rfl⟩ := hrd.len; rw [HWD.out] at hba; obtain ⟨d0, d1, _, _⟩ := hba.cells; obtain ⟨ty, pv, hty⟩ := valE_iface rf; rw [hty]; clear hty hba hrd hh)
              go_ret2
              exact BuildPost.bad HX.out (by decide) HB3.out
            | false =>
              have HX := Lib.hid (show Fa.build l = (0, t) from by rw [HBA.out, hw]; rfl)
              have HWD := Lib.hid hw
              clear hw
              go_wp2_with (go_at_call 31; refine HN.out.mono ?_; rintro e w3 hres; have HB3 := Lib.hid (HE.out hwr.out HLM.out _ _ hres); obtain ⟨_, p, sv', rf, rfl, hp, hh, hba, hrd⟩ := hres; rw [List.append_nil] at hp; subst hp; obtain ⟨a2, c2, rfl⟩ := hrd.len; rw [HWD.out] at hba; obtain ⟨d0, d1, _, _⟩ := hba.cells; obtain ⟨ty, pv, hty⟩ := valE_iface rf; have HTY := Lib.hid hty; have HHH := Lib.hid hh; rw [hty]; clear hty hba hrd hh)
              go_ret2
              refine ⟨fun h => absurd (by rw [HX.out]) h, fun _ => ⟨rf, by rw [HTY.out]; rfl, ?_⟩, HB3.out⟩
              rw [HX.out]
              exact HHH.out.mono (fun b h _ => Nat.le_trans (Nat.le_trans hwr.out.size (by simp)) h)
          · have HX := Lib.hid (build_tree_more HLM.out HTT.out hr)
            have hr1 : (0 : Int) < (r.length : Int) := by
              cases r with
              | nil => exact absurd rfl hr
              | cons _ _ => simp only [List.length_cons]; omega
            clear hr
            go_wp2_with (go_at_call 31; refine HN.out.mono ?_; rintro e w3 hres; have HB3 := Lib.hid (HE.out hwr.out HLM.out _ _ hres); obtain ⟨_, p, sv', rf, rfl, hp, hh, hba, hrd⟩ := hres; obtain ⟨a2, c2, rfl⟩ := hrd.len; obtain ⟨d0, d1, _, _⟩ := hba.cells; obtain ⟨ty, pv, hty⟩ := valE_iface rf; rw [hty]; clear hty hba hrd hh hp)
            go_ret2
            exact BuildPost.bad HX.out (by decide) HB3.out
end Go.Proofs.YtgnhbccmdpkbiaaDoor
