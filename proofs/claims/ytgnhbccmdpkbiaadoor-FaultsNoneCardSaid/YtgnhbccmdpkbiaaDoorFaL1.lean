/-
  The law FaultsBuilds of layer 3, walked.
-/
import Derived.Test.YtgnhbccmdpkbiaaDoorFaSh
import Derived.Test.YtgnhbccmdpkbiaaDoorFaw10
namespace Go.Proofs.YtgnhbccmdpkbiaaDoor
open Go.RowKit Go.Shelf

theorem far_sizes {l : List Fa.Node} (h : farL l = false) : l.length ≤ 60 ∧ ∀ x ∈ l, x.link.op.size ≤ maxLen := by
  simp only [farL, Bool.or_eq_false_iff, decide_eq_false_iff_not, List.any_eq_false, decide_eq_true_eq] at h
  refine ⟨by omega, fun x hx => ?_⟩
  have := h.2 x hx
  unfold maxLen
  omega
end Go.Proofs.YtgnhbccmdpkbiaaDoor
