/-
  Walks for layer 3 (faults): the reference's Build.
-/
import Derived.Test.YtgnhbccmdpkbiaaGreatDoorFaw6
namespace Go.Proofs.YtgnhbccmdpkbiaaGreatDoor
open Go.RowKit

theorem treeC_all : ∀ f, TreeC f := by
  intro f
  induction f with
  | zero => intro l i d w b o cap hi hl; omega
  | succ f ih => exact tree_step f ih
set_option maxRecDepth 100000 in
theorem tree_empty (a : Option Addr) (cap : Nat) (w : World) : Calls Tryz.prog 41 #[.slice a 0 cap, I64 0, I64 0] w fun e w' => e = .returned (I64 (-1)) ∧ Below w.heap.size w w' := by
  go_enter Tryz.func41, Tryz.ntmps41
  go_wp2
  go_ret
  exact ⟨rfl, Below.refl _ _⟩
theorem rtree_any (v : Value) (l : List Fa.Node) (w : World) (h : ReadsL 6 encNode w v l) (hF : Fit6 l) : Calls Tryz.prog 41 #[v, I64 0, I64 0] w fun e w' => e = .returned (I64 (endAt l.length (Fa.tree (l.length + 1) 0 l))) ∧ Below w.heap.size w w' := by
  by_cases hz : l = []
  · subst hz
    obtain ⟨a, cap, rfl⟩ := h.len
    exact tree_empty a cap w
  · obtain ⟨b, o, cap, rfl, hb, hc⟩ := h.form hz
    have hp : 0 < l.length := by
      cases l with
      | nil => exact absurd rfl hz
      | cons _ _ => simp
    exact treeC_all (l.length + 1) l 0 0 w b o cap (Nat.zero_le _) (by omega) hF hp (by omega) (by omega) hb hc
theorem build_lim {l : List Fa.Node} (h : Fa.limits l = true) : (Fa.build l).1 = 3 := by unfold Fa.build; rw [if_pos h]
theorem build_form {l : List Fa.Node} (h : Fa.limits l = false) (h2 : endAt l.length (Fa.tree (l.length + 1) 0 l) ≠ (l.length : Int)) : (Fa.build l).1 = 6 := by
  unfold Fa.build
  rw [if_neg (by rw [h]; decide)]
  cases ht : Fa.tree (l.length + 1) 0 l with
  | none => rfl
  | some p =>
    obtain ⟨t, r⟩ := p
    rw [ht] at h2
    cases r with
    | nil => exact absurd (by simp [endAt]) h2
    | cons _ _ => rfl
theorem build_some {l : List Fa.Node} (h : Fa.limits l = false) (h2 : endAt l.length (Fa.tree (l.length + 1) 0 l) = (l.length : Int)) : (Fa.build l).1 = if l.any Fa.wideN then 7 else 0 := by
  unfold Fa.build
  rw [if_neg (by rw [h]; decide)]
  cases ht : Fa.tree (l.length + 1) 0 l with
  | none => rw [ht] at h2; simp only [endAt] at h2; omega
  | some p =>
    obtain ⟨t, r⟩ := p
    rw [ht] at h2
    cases r with
    | nil =>
      simp only
      split <;> rfl
    | cons y r => simp only [endAt, List.length_cons] at h2; omega
theorem fit_of {l : List Fa.Node} (h : Fa.limits l = false) (hs : ∀ x ∈ l, x.link.op.size ≤ maxLen) : Fit6 l := by
  simp only [Fa.limits, Bool.or_eq_false_iff, decide_eq_false_iff_not, List.any_eq_false, decide_eq_true_eq] at h
  refine ⟨by omega, fun x hx => ⟨?_, hs x hx⟩⟩
  have := h.2 x hx
  omega
theorem any_at {l : List Fa.Node} {k : Nat} (hk : k < l.length) (h : Fa.wideN l[k] = true) : l.any Fa.wideN = true := List.any_eq_true.2 ⟨l[k], List.getElem_mem _, h⟩
theorem any_no {l : List Fa.Node} (h : ∀ j (hj : j < l.length), Fa.wideN l[j] = false) : l.any Fa.wideN = false := by
  rw [List.any_eq_false]
  intro x hx
  obtain ⟨j, hj, rfl⟩ := List.getElem_of_mem hx
  rw [h j hj]; decide

set_option maxHeartbeats 2000000 in
set_option maxRecDepth 100000 in
theorem rbuild_any (v : Value) (l : List Fa.Node) (w : World) (h : ReadsL 6 encNode w v l) (hl : l.length ≤ 4294967296) (hs : ∀ x ∈ l, x.link.op.size ≤ maxLen) :
    Calls Tryz.prog 14 #[v] w fun e w' => e = .returned (I64 (Fa.build l).1) ∧ Below w.heap.size w w' := by
  have HL := Lib.hid (limits_any v l w h hl)
  cases hq : Fa.limits l with
  | true =>
    rw [hq] at HL
    have HS := Lib.hid (build_lim hq)
    clear h hq
    go_enter Tryz.func14, Tryz.ntmps14
    go_wp2_with (go_at_call 40; refine HL.out.mono ?_; rintro e w1 ⟨rfl, rfl⟩)
    go_ret
    exact ⟨ret_I HS.out.symm, Below.refl _ _⟩
  | false =>
    rw [hq] at HL
    have hF := fit_of hq hs
    have HT := Lib.hid (rtree_any v l w h hF)
    obtain ⟨a, cap, hv⟩ := h.len
    by_cases he : endAt l.length (Fa.tree (l.length + 1) 0 l) = (l.length : Int)
    · have HS := Lib.hid (build_some hq he)
      rw [he] at HT
      have hee : ((l.length : Int) != (l.length : Int)) = false := by simp
      have hl40 : l.length ≤ 40 := hF.1
      clear he hq hs hF hv
      by_cases hz : l = []
      · subst hz
        rw [show ([] : List Fa.Node).any Fa.wideN = false from rfl] at HS
        obtain ⟨a, cap, rfl⟩ := h.len
        clear h hee hl40
        go_enter Tryz.func14, Tryz.ntmps14
        go_wp2_with (first | (go_at_call 40; refine HL.out.mono ?_; rintro e w1 ⟨rfl, rfl⟩) | (go_at_call 41; refine HT.out.mono ?_; rintro e w1 ⟨rfl, hb1⟩))
        refine wp_loop_rounds 1 ?_
        rw [rounds_succ]
        go_wp2
        go_ret
        exact ⟨ret_I HS.out.symm, hb1⟩
      · obtain ⟨b, o, cap, rfl, hb, hc⟩ := h.form hz
        have HC := Lib.hid hc
        clear hc h hz
        go_enter Tryz.func14, Tryz.ntmps14
        go_wp2_with (first | (go_at_call 40; refine HL.out.mono ?_; rintro e w1 ⟨rfl, rfl⟩) | (go_at_call 41; refine HT.out.mono ?_; rintro e w1 ⟨rfl, hb1⟩))
        go_loopw [3] (fun i wr => ∃ k : Nat, k ≤ l.length ∧ i = .int .i64 k ∧ Below w.heap.size w wr ∧ Hid (∀ j, j < k → (hj : j < l.length) → Fa.wideN l[j] = false)) (fun i _ => l.length - (intOf i).toNat)
        case atStart => exact ⟨0, Nat.zero_le _, rfl, hb1, fun j h => absurd h (Nat.not_lt_zero _)⟩
        case round =>
          obtain ⟨k, hk, rfl, hwr, hno⟩ := hrel
          by_cases hlt : k < l.length
          · obtain ⟨_, p1, p2, p3, p4, p5⟩ := cells1 hb hwr HC.out k hlt
            have i1 : (k : Int) < (l.length : Int) := by omega
            have HN2 : Fa.wideN l[k] = false → Hid (∀ j, j < k + 1 → (hj : j < l.length) → Fa.wideN l[j] = false) := by
              intro h j hj hjl
              by_cases e : j = k
              · subst e; exact h
              · exact hno.out j (by omega) hjl
            by_cases hj : l[k].joined = 0
            · have HNU := Lib.hid (numbers_any l[k].link wr)
              unfold valLink at HNU
              rw [hj] at p1
              cases hok : Fa.okNum l[k].link with
              | true =>
                have HN := HN2 (by simp [Fa.wideN, hok])
                rw [hok] at HNU
                clear HN2 hno hj hok
                go_wp2_with (go_at_call 42; refine HNU.out.mono ?_; rintro e w2 ⟨rfl, hb2⟩)
                go_roundw
                case rel => exact ⟨k + 1, by omega, by go_num, hwr.trans (hb2.mono hwr.size), HN⟩
                case measure => simp [intOf]; omega
              | false =>
                have HX := Lib.hid (any_at hlt (by simp [Fa.wideN, hok, hj]))
                rw [hok] at HNU
                clear HN2 hno hj hok
                go_wp2_with (go_at_call 42; refine HNU.out.mono ?_; rintro e w2 ⟨rfl, hb2⟩)
                go_ret
                exact ⟨ret_I (by rw [HS.out, if_pos HX.out]), hwr.trans (hb2.mono hwr.size)⟩
            · have hje : (l[k].joined == 0) = false := by rw [beq_eq_false_iff_ne]; exact hj
              have HN := HN2 (by simp [Fa.wideN, hj])
              clear HN2 hno hj
              go_wp2
              go_roundw
              case rel => exact ⟨k + 1, by omega, by go_num, hwr, HN⟩
              case measure => simp [intOf]; omega
          · have HX := Lib.hid (any_no (l := l) (fun j hj => hno.out j (by omega) hj))
            go_wp2
            go_ret
            exact ⟨ret_I (by rw [HS.out, if_neg (by rw [HX.out]; decide)]), hwr⟩
    · have HS := Lib.hid (build_form hq he)
      have hee : (endAt l.length (Fa.tree (l.length + 1) 0 l) != (l.length : Int)) = true := by rw [bne_iff_ne]; exact he
      generalize endAt l.length (Fa.tree (l.length + 1) 0 l) = E at HT hee
      clear he hq hs h hF
      subst hv
      go_enter Tryz.func14, Tryz.ntmps14
      go_wp2_with (first | (go_at_call 40; refine HL.out.mono ?_; rintro e w1 ⟨rfl, rfl⟩) | (go_at_call 41; refine HT.out.mono ?_; rintro e w1 ⟨rfl, hb1⟩))
      go_ret
      exact ⟨ret_I HS.out.symm, hb1⟩
end Go.Proofs.YtgnhbccmdpkbiaaGreatDoor
