/-
  Plain functions for layer 1 (words): a text cut byte by byte. No program in this text.
-/
import Derived.Test.YtffkohdnhaebjaaDoorPlain2
namespace Wd

theorem snoc_ind {p : Str → Prop} (h0 : p []) (h1 : ∀ l x, p l → p (l ++ [x])) (l : Str) : p l := by
  have h : ∀ m : Str, p m.reverse := by
    intro m
    induction m with
    | nil => exact h0
    | cons x t ih => rw [List.reverse_cons]; exact h1 _ _ ih
  have := h l.reverse
  rwa [List.reverse_reverse] at this
/-- The complete pieces, and the one that is not complete. -/
def pcs (c : UInt8) (l : Str) : List Str × Str := l.foldl (fun a x => if x == c then (a.1 ++ [a.2], []) else (a.1, a.2 ++ [x])) ([], [])
theorem pcs_snoc (c : UInt8) (l : Str) (x : UInt8) : pcs c (l ++ [x]) = if x == c then ((pcs c l).1 ++ [(pcs c l).2], []) else ((pcs c l).1, (pcs c l).2 ++ [x]) := by
  unfold pcs; rw [List.foldl_append]; rfl
theorem foldl_pcs (c : UInt8) (l : Str) : ∀ (a : List Str) (b : Str), l.foldl (fun a x => if x == c then (a.1 ++ [a.2], []) else (a.1, a.2 ++ [x])) (a, b) =
    match cutAt c l with
    | [] => (a, b)
    | [p] => (a, b ++ p)
    | p :: q :: r => (a ++ (b ++ p) :: (q :: r).dropLast, (q :: r).getLast (by simp)) := by
  induction l with
  | nil => intro a b; simp [cutAt]
  | cons x t ih =>
    intro a b
    have hne : cutAt c t ≠ [] := by
      cases t with
      | nil => simp [cutAt]
      | cons y t =>
        unfold cutAt
        by_cases hy : (y == c) = true
        · simp [hy]
        · simp only [hy]; cases cutAt c t <;> simp
    rw [List.foldl_cons]
    by_cases hx : (x == c) = true
    · simp only [hx, if_true, cutAt]
      rw [ih]
      cases h : cutAt c t with
      | nil => exact absurd h hne
      | cons p r =>
        cases r with
        | nil => simp
        | cons q r => simp
    · simp only [hx, cutAt]
      rw [if_neg (by simp), ih]
      cases h : cutAt c t with
      | nil => exact absurd h hne
      | cons p r =>
        cases r with
        | nil => simp
        | cons q r => simp
theorem cutAt_ne (c : UInt8) (l : Str) : cutAt c l ≠ [] := by
  cases l with
  | nil => simp [cutAt]
  | cons y t =>
    unfold cutAt
    by_cases hy : (y == c) = true
    · simp [hy]
    · simp only [hy]; cases cutAt c t <;> simp
theorem cutAt_pcs (c : UInt8) (l : Str) : cutAt c l = (pcs c l).1 ++ [(pcs c l).2] := by
  unfold pcs
  rw [foldl_pcs]
  cases h : cutAt c l with
  | nil => exact absurd h (cutAt_ne c l)
  | cons p r =>
    cases r with
    | nil => simp
    | cons q r =>
      simp only [List.nil_append, List.cons_append]
      rw [List.dropLast_concat_getLast]
/-- The complete pieces of a text that ends with the byte. -/
theorem pcs_end (c : UInt8) (m : Str) : (pcs c (m ++ [c])).1 = cutAt c m := by
  rw [pcs_snoc, cutAt_pcs]; simp
theorem pcs_last (c : UInt8) (l : Str) (h : l.getLast? = some c) : (pcs c l).1 = cutAt c l.dropLast := by
  have hne : l ≠ [] := by intro e; rw [e] at h; simp at h
  have e := List.dropLast_concat_getLast hne
  have : l.getLast hne = c := by rw [List.getLast?_eq_some_getLast hne] at h; simpa using h
  rw [this] at e
  rw [← e, pcs_end]
  simp
/-- Where the piece that is not complete begins. -/
theorem pcs_len (c : UInt8) (l : Str) : (pcs c l).1.length ≤ l.length := by
  refine snoc_ind (p := fun l => (pcs c l).1.length ≤ l.length) (by simp [pcs]) (fun l x ih => ?_) l
  show (pcs c (l ++ [x])).1.length ≤ _
  rw [pcs_snoc]
  by_cases h : (x == c) = true <;> simp [h] <;> omega
end Wd
