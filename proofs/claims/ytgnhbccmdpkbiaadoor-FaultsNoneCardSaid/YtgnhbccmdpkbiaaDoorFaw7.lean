/-
  Walks for layer 3 (faults): the reference's Build.
-/
import Derived.Test.YtgnhbccmdpkbiaaDoorFaw6
namespace Go.Proofs.YtgnhbccmdpkbiaaDoor
open Go.RowKit

theorem build_lim {l : List Fa.Node} (h : Fa.limits l = true) : (Fa.build l).1 = 3 := by unfold Fa.build; rw [if_pos h]
theorem build_form {l : List Fa.Node} (h : Fa.limits l = false) (h2 : endAt l.length (Fa.tree (l.length + 1) 0 l) ≠ (l.length : Int)) : (Fa.build l).1 = 6 := by
  unfold Fa.build
  rw [if_neg (by rw [h]; decide)]
  cases ht : Fa.tree (l.length + 1) 0 l with
  | none => rfl
  | some p =>
    obtain ⟨t, r⟩ := p
    rw [ht] at h2
    cases r with
    | nil => exact absurd (by simp [endAt]) h2
    | cons _ _ => rfl
theorem build_some {l : List Fa.Node} (h : Fa.limits l = false) (h2 : endAt l.length (Fa.tree (l.length + 1) 0 l) = (l.length : Int)) : (Fa.build l).1 = if l.any Fa.wideN then 7 else 0 := by
  unfold Fa.build
  rw [if_neg (by rw [h]; decide)]
  cases ht : Fa.tree (l.length + 1) 0 l with
  | none => rw [ht] at h2; simp only [endAt] at h2; omega
  | some p =>
    obtain ⟨t, r⟩ := p
    rw [ht] at h2
    cases r with
    | nil =>
      simp only
      split <;> rfl
    | cons y r => simp only [endAt, List.length_cons] at h2; omega
theorem fit_of {l : List Fa.Node} (h : Fa.limits l = false) (hs : ∀ x ∈ l, x.link.op.size ≤ maxLen) : Fit6 l := by
  simp only [Fa.limits, Bool.or_eq_false_iff, decide_eq_false_iff_not, List.any_eq_false, decide_eq_true_eq] at h
  refine ⟨by omega, fun x hx => ⟨?_, hs x hx⟩⟩
  have := h.2 x hx
  omega
theorem any_at {l : List Fa.Node} {k : Nat} (hk : k < l.length) (h : Fa.wideN l[k] = true) : l.any Fa.wideN = true := List.any_eq_true.2 ⟨l[k], List.getElem_mem _, h⟩
theorem any_no {l : List Fa.Node} (h : ∀ j (hj : j < l.length), Fa.wideN l[j] = false) : l.any Fa.wideN = false := by
  rw [List.any_eq_false]
  intro x hx
  obtain ⟨j, hj, rfl⟩ := List.getElem_of_mem hx
  rw [h j hj]; decide

end Go.Proofs.YtgnhbccmdpkbiaaDoor
