/-
  Layer 3 (faults): forests of chains. No program of its own.
-/
import Derived.Test.YtgnhbccmdpkbiaaGreatDoorFaw23
namespace Go.Proofs.YtgnhbccmdpkbiaaGreatDoor
open Go.RowKit Go.Shelf

namespace Fa
theorem app_assoc3 (a b c : F) : (a.app b).app c = a.app (b.app c) := by
  induction a with
  | nil => rfl
  | link x k r _ ih => simp only [F.app, ih]
  | join k r _ ih => simp only [F.app, ih]
theorem app_nil3 (a : F) : a.app .nil = a := by
  induction a with
  | nil => rfl
  | link x k r _ ih => simp only [F.app, ih]
  | join k r _ ih => simp only [F.app, ih]
def forest : List (List Node) → F
  | [] => .nil
  | L :: Ls => (build L).2.app (forest Ls)
theorem forest_app (A B : List (List Node)) : forest (A ++ B) = (forest A).app (forest B) := by
  induction A with
  | nil => rfl
  | cons L A ih => simp only [List.cons_append, forest, ih, app_assoc3]
theorem forest_snoc (A : List (List Node)) (L : List Node) : forest (A ++ [L]) = (forest A).app (build L).2 := by
  rw [forest_app]; simp only [forest, app_nil3]
theorem forest_len {Ls : List (List Node)} (h : ∀ L ∈ Ls, (build L).1 = 0) : (forest Ls).len = Ls.length := by
  induction Ls with
  | nil => rfl
  | cons L Ls ih =>
    simp only [forest, app_len, List.length_cons]
    rw [ih (fun M hM => h M (List.mem_cons_of_mem _ hM)), (build_ok (h L List.mem_cons_self)).2.2.1]
    omega
theorem forest_nodes {Ls : List (List Node)} (h : ∀ L ∈ Ls, (build L).1 = 0) : (forest Ls).nodes ≤ 40 * Ls.length := by
  induction Ls with
  | nil => simp [forest, F.nodes]
  | cons L Ls ih =>
    simp only [forest, app_nodes, List.length_cons]
    have h1 := ih (fun M hM => h M (List.mem_cons_of_mem _ hM))
    have h2 := (build_ok (h L List.mem_cons_self)).2.2.2.1
    omega
theorem forest_ok {Ls : List (List Node)} (h : ∀ L ∈ Ls, (build L).1 = 0) : (forest Ls).ok := by
  induction Ls with
  | nil => trivial
  | cons L Ls ih => exact (app_ok _ _).2 ⟨(build_ok (h L List.mem_cons_self)).2.1, ih (fun M hM => h M (List.mem_cons_of_mem _ hM))⟩
theorem forest_chain {Ls : List (List Node)} (h : ∀ L ∈ Ls, (build L).1 = 0) : (forest Ls).chain 1 = Ls.flatMap fun L => L.map deep := by
  induction Ls with
  | nil => rfl
  | cons L Ls ih =>
    simp only [forest, app_chain, List.flatMap_cons]
    rw [ih (fun M hM => h M (List.mem_cons_of_mem _ hM))]
    have h1 := chain_deep (build L).2 0
    rw [(build_ok (h L List.mem_cons_self)).1] at h1
    rw [h1]; rfl
end Fa
/-- The chain of a join. -/
def joinN (Ls : List (List Fa.Node)) : List Fa.Node := ⟨0, Ls.length, Fa.Link.zero⟩ :: Ls.flatMap fun L => L.map Fa.deep
theorem join_chain {Ls : List (List Fa.Node)} (h : ∀ L ∈ Ls, (Fa.build L).1 = 0) : (Fa.F.join (Fa.forest Ls) .nil).chain 0 = joinN Ls := by
  simp only [Fa.F.chain, List.append_nil, joinN]
  rw [Fa.forest_len h, show (0 : Int) + 1 = 1 from rfl, Fa.forest_chain h]
theorem join_lim {Ls : List (List Fa.Node)} (h : ∀ L ∈ Ls, (Fa.build L).1 = 0) : Fa.limits (joinN Ls) = decide (40 < (Fa.forest Ls).nodes + 1 ∨ 12 < (Fa.forest Ls).hgt) := by
  rw [← join_chain h, Fa.limits_chain (by simp), Bool.eq_iff_iff, decide_eq_true_eq, decide_eq_true_eq]
  simp only [Fa.F.nodes, Fa.F.hgt]
  omega
theorem joinE_lim {Ls : List (List Fa.Node)} (h : ∀ L ∈ Ls, (Fa.build L).1 = 0) (hl : Ls.length ≤ 8) : joinE (Fa.forest Ls) = if Fa.limits (joinN Ls) = true then 3 else 0 := by
  unfold joinE
  rw [join_lim h, Fa.forest_len h]
  by_cases hq : 40 < (Fa.forest Ls).nodes + 1 ∨ 12 < (Fa.forest Ls).hgt
  · rw [if_pos (Or.inr hq), if_pos (decide_eq_true hq)]
  · rw [if_neg (by omega), if_neg (by simpa using hq)]
theorem joinE_long {Ls : List (List Fa.Node)} (h : ∀ L ∈ Ls, (Fa.build L).1 = 0) (hl : 8 < Ls.length) : joinE (Fa.forest Ls) = 3 := by
  unfold joinE
  rw [Fa.forest_len h, if_pos (Or.inl hl)]
end Go.Proofs.YtgnhbccmdpkbiaaGreatDoor
