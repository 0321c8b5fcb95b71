/-
  Plain functions for layer 1 (words), list expressions: runs of numbers. No program in this text.
-/
import Derived.Test.YtffkohdnhaebjaaDoorPlain2
import Derived.Test.YtffkohdnhaebjaaDoorPlain3
namespace Wd

/-- The maximal runs of a list of numbers. -/
def runs : List Int → List (Int × Int)
  | [] => []
  | x :: t => match runs t with
    | [] => [(x, x)]
    | (a, b) :: r => if a = x + 1 then (x, b) :: r else (x, x) :: (a, b) :: r
def runTxt (p : Int × Int) : Str := if p.1 = p.2 then Go.Lib.itoa p.1 else Go.Lib.itoa p.1 ++ 45 :: Go.Lib.itoa p.2
def incr : List Int → Bool
  | x :: y :: t => decide (x < y) && incr (y :: t)
  | _ => true
/-- words.List. -/
def listTxt (l : List Int) : Str × Int :=
  if 500 < l.length then ([], 3)
  else if l.any (fun n => n < 0 || 1000000000 < n) then ([], 7)
  else if !incr l then ([], 6)
  else if l = [] then ([45], 0)
  else (Go.Lib.join ((runs l).map runTxt) [44], 0)

theorem runs_cons_ne (x : Int) (t : List Int) : ∃ b r, runs (x :: t) = (x, b) :: r := by
  unfold runs
  cases runs t with
  | nil => exact ⟨x, [], rfl⟩
  | cons p r => obtain ⟨a, b⟩ := p; by_cases h : a = x + 1 <;> simp [h]
theorem runs_one (x : Int) : runs [x] = [(x, x)] := rfl
theorem runs_same (x y : Int) (t : List Int) (h : y = x + 1) : ∀ b r, runs (y :: t) = (y, b) :: r → runs (x :: y :: t) = (x, b) :: r := by
  intro b r hr
  have e : runs (x :: y :: t) = match runs (y :: t) with
    | [] => [(x, x)]
    | (a, b) :: r => if a = x + 1 then (x, b) :: r else (x, x) :: (a, b) :: r := rfl
  rw [e, hr]; simp [h]
theorem runs_new (x y : Int) (t : List Int) (h : y ≠ x + 1) : runs (x :: y :: t) = (x, x) :: runs (y :: t) := by
  have e : runs (x :: y :: t) = match runs (y :: t) with
    | [] => [(x, x)]
    | (a, b) :: r => if a = x + 1 then (x, b) :: r else (x, x) :: (a, b) :: r := rfl
  obtain ⟨b, r, hr⟩ := runs_cons_ne y t
  rw [e, hr]; simp [h]
/-- A run from i to k, which nothing continues. -/
theorem runs_step (l : List Int) : ∀ (n i k : Nat), n = k - i → i ≤ k → (hk : k < l.length) → (∀ j, i ≤ j → (hj : j < k) → l[j + 1] = l[j] + 1) →
    (∀ h : k + 1 < l.length, l[k + 1] ≠ l[k] + 1) → (hi : i < l.length) → runs (l.drop i) = (l[i], l[k]) :: runs (l.drop (k + 1)) := by
  intro n
  induction n with
  | zero =>
    intro i k hn hik hk hc hx hi
    obtain rfl : i = k := by omega
    rw [List.drop_eq_getElem_cons hi]
    by_cases h1 : i + 1 < l.length
    · rw [List.drop_eq_getElem_cons h1, runs_new _ _ _ (hx h1), ← List.drop_eq_getElem_cons h1]
    · rw [List.drop_eq_nil_of_le (by omega)]; rfl
  | succ n ih =>
    intro i k hn hik hk hc hx hi
    have h1 : i + 1 < l.length := by omega
    have := ih (i + 1) k (by omega) (by omega) hk (fun j a b => hc j (by omega) b) hx h1
    rw [List.drop_eq_getElem_cons hi, List.drop_eq_getElem_cons h1]
    rw [List.drop_eq_getElem_cons h1] at this
    have e := hc i (Nat.le_refl _) (by omega)
    rw [e] at this ⊢
    exact runs_same _ _ _ rfl _ _ this
theorem join_snoc (l : List Str) (x sep : Str) : Go.Lib.join (l ++ [x]) sep = if l = [] then x else Go.Lib.join l sep ++ (sep ++ x) := by
  cases l with
  | nil => simp [Go.Lib.join_one]
  | cons a t =>
    rw [if_neg (by simp), List.cons_append, Go.Lib.join_cons, Go.Lib.join_cons]
    simp [Go.Lib.joinTail]
theorem incr_iff (l : List Int) : incr l = true ↔ ∀ i, (h : i + 1 < l.length) → l[i] < l[i + 1] := by
  induction l with
  | nil => simp [incr]
  | cons x t ih =>
    cases t with
    | nil => simp [incr]
    | cons y t =>
      simp only [incr, Bool.and_eq_true, decide_eq_true_eq]
      rw [ih]
      constructor
      · rintro ⟨h1, h2⟩ i hi
        cases i with
        | zero => simpa using h1
        | succ i => exact h2 i (by simpa using hi)
      · intro h
        exact ⟨by simpa using h 0 (by simp), fun i hi => h (i + 1) (by simpa using hi)⟩
end Wd
