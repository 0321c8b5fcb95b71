/-
  Plain facts for layer 1 (words): the line of two lists of fields; what far examines. No program in this text.
-/
import Derived.Test.YtffkohdnhaebjaaDoorPlain2
import Derived.Test.YtffkohdnhaebjaaDoorPlain8
namespace Wd

def farL (l : List Fld) : Bool := decide (70 < l.length) || l.any (fun f => decide (2100 < f.1.length)) || decide (12000 < (l.map (·.1.length)).sum)
def sumK (l : List Fld) (k : Nat) : Nat := ((l.take k).map (·.1.length)).sum
theorem sumK_zero (l : List Fld) : sumK l 0 = 0 := by simp [sumK]
theorem sumK_next {l : List Fld} {k : Nat} (h : k < l.length) : sumK l (k + 1) = sumK l k + l[k].1.length := by
  unfold sumK; rw [List.take_succ_eq_append_getElem h, List.map_append, List.sum_append]; rfl
theorem sumK_all {l : List Fld} {k : Nat} (h : l.length ≤ k) : sumK l k = (l.map (·.1.length)).sum := by unfold sumK; rw [List.take_of_length_le h]
theorem sumK_le {l : List Fld} : ∀ k, k ≤ l.length → (∀ j, j < k → (hj : j < l.length) → l[j].1.length ≤ 2100) → sumK l k ≤ 2100 * k := by
  intro k
  induction k with
  | zero => intro _ _; rw [sumK_zero]; omega
  | succ k ih =>
    intro hk h
    rw [sumK_next (by omega)]
    have := ih (by omega) (fun j hj hl => h j (by omega) hl)
    have := h k (by omega) (by omega)
    omega
theorem far_len {l : List Fld} (h : 70 < l.length) : farL l = true := by simp [farL, h]
theorem far_fld {l : List Fld} {k : Nat} (hk : k < l.length) (h : 2100 < l[k].1.length) : farL l = true := by
  unfold farL
  have : l.any (fun f => decide (2100 < f.1.length)) = true := by rw [List.any_eq_true]; exact ⟨l[k], List.getElem_mem _, by simpa using h⟩
  rw [this]; simp
theorem far_no {l : List Fld} {k : Nat} (h1 : ¬ 70 < l.length) (hk : l.length ≤ k) (h2 : ∀ j (hj : j < l.length), l[j].1.length ≤ 2100) : farL l = decide (12000 < sumK l k) := by
  unfold farL
  have : l.any (fun f => decide (2100 < f.1.length)) = false := by
    rw [List.any_eq_false]
    intro f hf
    obtain ⟨j, hj, rfl⟩ := List.getElem_of_mem hf
    have := h2 j hj
    simp; omega
  rw [this, sumK_all hk]; simp [h1]
theorem far_false {l : List Fld} (h : farL l = false) : l.length ≤ 70 ∧ ∀ f ∈ l, f.1.length ≤ 2100 := by
  unfold farL at h
  rw [Bool.or_eq_false_iff, Bool.or_eq_false_iff] at h
  refine ⟨by have := h.1.1; simp at this; omega, fun f hf => ?_⟩
  have := List.any_eq_false.1 h.1.2 f hf
  simp at this; omega

theorem join_two (l m : List Str) (sep : Str) (hl : l ≠ []) (hm : m ≠ []) : Go.Lib.join (l ++ m) sep = Go.Lib.join l sep ++ sep ++ Go.Lib.join m sep := by
  cases l with
  | nil => exact absurd rfl hl
  | cons a t =>
    cases m with
    | nil => exact absurd rfl hm
    | cons b u =>
      rw [List.cons_append, Go.Lib.join_cons, Go.Lib.join_cons, Go.Lib.join_cons]
      simp [Go.Lib.joinTail, List.append_assoc]
def joined (l : List Fld) : Str := Go.Lib.join (l.map word) [32]
theorem joined_two {l m : List Fld} (hl : l ≠ []) (hm : m ≠ []) : joined (l ++ m) = joined l ++ [32] ++ joined m := by
  unfold joined
  rw [List.map_append, join_two _ _ _ (by simpa using hl) (by simpa using hm)]
/-- What join refuses and what it returns. -/
def fits (l : List Fld) : Prop := l.length ≤ 64 ∧ (∀ f ∈ l, f.1.length ≤ 2000) ∧ (∀ f ∈ l, okFld f = true) ∧ (joined l).length ≤ 8192
theorem noBig {l : List Fld} : (l.any (fun f => decide (2000 < f.1.length))) = true ↔ ¬ ∀ f ∈ l, f.1.length ≤ 2000 := by
  rw [List.any_eq_true]
  constructor
  · rintro ⟨f, hf, h⟩ g
    have := g f hf
    simp at h; omega
  · intro h
    apply Classical.byContradiction
    intro g
    exact h fun f hf => Nat.le_of_not_lt fun h2 => g ⟨f, hf, by simpa using h2⟩
theorem join_fits {l : List Fld} (h : fits l) : join l = (joined l, 0) := by
  obtain ⟨h1, h2, h3, h4⟩ := h
  unfold join
  rw [if_neg (by omega), if_neg, if_neg, if_neg (by unfold joined at h4; omega)]
  · rfl
  · simpa using h3
  · rw [noBig]; exact fun h => h h2
theorem join_zero {l : List Fld} (h : (join l).2 = 0) : fits l := by
  unfold join at h
  split at h
  · simp at h
  split at h
  · simp at h
  split at h
  · simp at h
  split at h
  · simp at h
  rename_i h1 h2 h3 h4
  refine ⟨by omega, ?_, ?_, by unfold joined; omega⟩
  · rw [noBig] at h2; exact Classical.byContradiction h2
  · simpa using h3
theorem both_bad {l m : List Fld} (hl : l ≠ []) (hm : m ≠ []) (h : (join l).2 ≠ 0 ∨ (join m).2 ≠ 0) : (join (l ++ m)).2 ≠ 0 := by
  intro h0
  obtain ⟨h1, h2, h3, h4⟩ := join_zero h0
  rw [joined_two hl hm] at h4
  simp only [List.length_append, List.length_cons, List.length_nil] at h1 h4
  rcases h with h | h
  · exact h (by rw [join_fits ⟨by omega, fun f hf => h2 f (by simp [hf]), fun f hf => h3 f (by simp [hf]), by omega⟩])
  · exact h (by rw [join_fits ⟨by omega, fun f hf => h2 f (by simp [hf]), fun f hf => h3 f (by simp [hf]), by omega⟩])
theorem both_big {l m : List Fld} (hl : l ≠ []) (hm : m ≠ []) (h1 : (join l).2 = 0) (h2 : (join m).2 = 0) (h : 64 < l.length + m.length ∨ 8192 < (join l).1.length + 1 + (join m).1.length) : join (l ++ m) = ([], 3) := by
  have f1 := join_zero h1
  have f2 := join_zero h2
  rw [join_fits f1, join_fits f2] at h
  have hj := joined_two hl hm
  have e2 : ¬ ((l ++ m).any (fun f => decide (2000 < f.1.length))) = true := by
    rw [noBig]
    exact fun h => h fun f hf => (List.mem_append.1 hf).elim (f1.2.1 f) (f2.2.1 f)
  have e3 : ¬ (!(l ++ m).all okFld) = true := by
    rw [Bool.not_eq_true, Bool.not_eq_false', List.all_eq_true]
    intro f hf
    exact (List.mem_append.1 hf).elim (f1.2.2.1 f) (f2.2.2.1 f)
  unfold join
  by_cases h64 : 64 < (l ++ m).length
  · rw [if_pos h64]
  · rw [if_neg h64, if_neg e2, if_neg e3, if_pos]
    show 8192 < (joined (l ++ m)).length
    rw [hj]
    rw [List.length_append] at h64
    simp only [List.length_append, List.length_cons, List.length_nil]
    rcases h with h | h
    · omega
    · omega
theorem both_good {l m : List Fld} (hl : l ≠ []) (hm : m ≠ []) (h1 : (join l).2 = 0) (h2 : (join m).2 = 0) (h3 : l.length + m.length ≤ 64) (h : (join l).1.length + 1 + (join m).1.length ≤ 8192) : join (l ++ m) = ((join l).1 ++ [32] ++ (join m).1, 0) := by
  have f1 := join_zero h1
  have f2 := join_zero h2
  rw [join_fits f1, join_fits f2] at h ⊢
  have hj := joined_two hl hm
  rw [join_fits, hj]
  refine ⟨by rw [List.length_append]; exact h3, fun f hf => (List.mem_append.1 hf).elim (f1.2.1 f) (f2.2.1 f), fun f hf => (List.mem_append.1 hf).elim (f1.2.2.1 f) (f2.2.2.1 f), ?_⟩
  rw [hj]
  simp only [List.length_append, List.length_cons, List.length_nil]
  exact h
theorem join_len (l : List Fld) : (join l).1.length ≤ 8192 := by
  unfold join
  split
  · simp
  split
  · simp
  split
  · simp
  split
  · simp
  · rename_i h; exact Nat.le_of_not_lt h
end Wd
