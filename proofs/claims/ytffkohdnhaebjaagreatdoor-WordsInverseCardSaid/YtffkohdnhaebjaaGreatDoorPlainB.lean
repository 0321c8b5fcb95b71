/-
  Plain facts for layer 1 (words): how long what is written gets. No program in this text.
-/
import Derived.Test.YtffkohdnhaebjaaGreatDoorPlain
import Derived.Lib.ItoaLen
namespace Wd

theorem esc_len (c : UInt8) : (esc c).length ≤ 4 := by
  unfold esc
  split
  · simp
  · split <;> simp
theorem quote_len (s : Str) : (quote s).length ≤ 4 * s.length + 2 := by
  have h : (s.flatMap esc).length ≤ 4 * s.length := by
    induction s with
    | nil => simp
    | cons c t ih =>
      have := esc_len c
      simp only [List.flatMap_cons, List.length_append, List.length_cons]
      omega
  simp only [quote, List.length_cons, List.length_append, List.length_nil]
  omega
theorem runs_len : ∀ l : List Int, (runs l).length ≤ l.length
  | [] => by simp [runs]
  | x :: t => by
    have ih := runs_len t
    unfold runs
    cases e : runs t with
    | nil => simp
    | cons p r =>
      obtain ⟨a, b⟩ := p
      rw [e] at ih
      simp only [List.length_cons] at ih
      by_cases h : a = x + 1 <;> simp [h] <;> omega
theorem runs_mem : ∀ l : List Int, ∀ p ∈ runs l, p.1 ∈ l ∧ p.2 ∈ l
  | [], p, hp => by simp [runs] at hp
  | x :: t, p, hp => by
    have ih := runs_mem t
    unfold runs at hp
    cases e : runs t with
    | nil => rw [e] at hp; simp at hp; subst hp; simp
    | cons q r =>
      obtain ⟨a, b⟩ := q
      rw [e] at hp ih
      by_cases h : a = x + 1
      · simp only [h, if_true] at hp
        rcases List.mem_cons.1 hp with rfl | hp
        · have := ih (a, b) (by simp)
          exact ⟨by simp, by simp [this.2]⟩
        · have := ih p (by simp [hp])
          exact ⟨by simp [this.1], by simp [this.2]⟩
      · simp only [h, if_false] at hp
        rcases List.mem_cons.1 hp with rfl | hp
        · simp
        · have := ih p hp
          exact ⟨by simp [this.1], by simp [this.2]⟩
theorem join_le (B : Nat) (c : UInt8) : ∀ xs : List Str, (∀ x ∈ xs, x.length ≤ B) → (Go.Lib.join xs [c]).length ≤ (B + 1) * xs.length
  | [], _ => by simp [Go.Lib.join_nil]
  | [x], h => by
    rw [Go.Lib.join_one]
    have := h x (by simp)
    simp; omega
  | x :: y :: r, h => by
    have ih := join_le B c (y :: r) (fun z hz => h z (by simp [hz]))
    have e := join_two [x] (y :: r) [c] (by simp) (by simp)
    rw [List.singleton_append, Go.Lib.join_one] at e
    rw [e]
    have := h x (by simp)
    simp only [List.length_append, List.length_cons, List.length_nil] at ih ⊢
    rw [Nat.mul_succ]
    omega
theorem listTxt_len (l : List Int) : (listTxt l).1.length ≤ 32000 := by
  unfold listTxt
  split
  · simp
  · rename_i h1
    split
    · simp
    · rename_i h2
      split
      · simp
      · split
        · simp
        · have hall : ∀ x ∈ l, 0 ≤ x ∧ x ≤ 1000000000 := by
            intro x hx
            simp only [Bool.not_eq_true, List.any_eq_false] at h2
            have := h2 x hx
            simp at this; omega
          have hx : ∀ x ∈ (runs l).map runTxt, x.length ≤ 43 := by
            intro x hx
            obtain ⟨p, hp, rfl⟩ := List.mem_map.1 hx
            obtain ⟨m1, m2⟩ := runs_mem l p hp
            have a1 := Go.Lib.itoa_length_le p.1 (by have := hall _ m1; omega) (by have := hall _ m1; omega)
            have a2 := Go.Lib.itoa_length_le p.2 (by have := hall _ m2; omega) (by have := hall _ m2; omega)
            unfold runTxt
            split
            · omega
            · simp; omega
          have := join_le 43 44 _ hx
          have hr := runs_len l
          rw [List.length_map] at this
          show (Go.Lib.join ((runs l).map runTxt) [44]).length ≤ 32000
          omega
end Wd
