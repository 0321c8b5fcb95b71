/-
  Plain laws, third part: the reference's reckoning of a number; decimal numerals.
-/
import Derived.Test.YtffkohdnhaebjaaDoorPlain1
namespace Wd

def pv (l : Str) : Nat := val 0 (l.filter (· != 45))
theorem val_snoc (l : Str) (c : UInt8) (acc : Nat) : val acc (l ++ [c]) = 10 * val acc l + (c.toNat - 48) := by simp [val]
theorem pv_snoc_minus (l : Str) : pv (l ++ [45]) = pv l := by simp [pv, List.filter_append]
theorem pv_snoc {l : Str} {c : UInt8} (h : c ≠ 45) : pv (l ++ [c]) = 10 * pv l + (c.toNat - 48) := by
  have : (c != 45) = true := by simpa using h
  simp [pv, List.filter_append, List.filter, this, val_snoc]
theorem val_append (a b : Str) (acc : Nat) : val acc (a ++ b) = val (val acc a) b := by simp [val]
theorem pv_take_le (l : Str) (k : Nat) : pv (l.take k) ≤ pv l := by
  have h : pv l = val (pv (l.take k)) ((l.drop k).filter (· != 45)) := by
    conv => lhs; rw [← List.take_append_drop k l]
    rw [pv, List.filter_append, val_append]; rfl
  rw [h]; exact val_ge _ _
theorem filter_digits {l : Str} (h : l.all digit = true) : l.filter (· != 45) = l := by
  rw [List.filter_eq_self]
  intro c hc
  have := List.all_eq_true.1 h c hc
  have := digit_ne this
  simp; intro e; subst e; simp at this
theorem int_pv {s : Str} (h : decimal s = true) : (∀ c ∈ s, c = 45 ∨ digit c = true) ∧ s ≠ [] ∧
    (s.head? = some 45 → intVal s = -(pv s : Int)) ∧ (s.head? ≠ some 45 → intVal s = (pv s : Int)) := by
  match s with
  | [] => simp [decimal, natDec] at h
  | x :: u =>
    by_cases hx : x = 45
    · subst hx
      match u with
      | [] => simp [decimal, natDec, digit] at h
      | c :: t =>
        have hn : natDec (c :: t) = true := by simp [decimal] at h; exact h.2
        have hd := (natDec_digits hn).1
        have hf := filter_digits hd
        refine ⟨?_, by simp, ?_, by simp⟩
        · intro y hy
          rcases List.mem_cons.1 hy with h1 | h1
          · exact .inl h1
          · exact .inr (List.all_eq_true.1 hd y h1)
        · intro _
          have e : (45 :: c :: t).filter (· != 45) = c :: t := by
            rw [List.filter_cons]; simp only [bne_self_eq_false]; exact hf
          simp only [intVal, pv, e, natVal_eq]
    · rw [decimal_pos (fun a b e => absurd (List.cons.inj e).1 hx)] at h
      have hd := (natDec_digits h).1
      have hf := filter_digits hd
      refine ⟨fun y hy => .inr (List.all_eq_true.1 hd y hy), by simp, ?_, ?_⟩
      · intro e; simp at e; exact absurd e hx
      · intro _
        have hv : intVal (x :: u) = (natVal (x :: u) : Int) := by
          unfold intVal; split
          · rename_i e; exact absurd (List.cons.inj e).1 hx
          · rfl
        rw [hv, pv, hf, natVal_eq]

/-! ### itoa as the reference builds it -/
theorem itoa_big (n : Int) (h : 9 < n ∨ n < -9) : Go.Lib.itoa n = Go.Lib.itoa (n.tdiv 10) ++ [UInt8.ofNat (48 + n.natAbs % 10)] := by
  have hq : (n.tdiv 10).natAbs = n.natAbs / 10 := by
    rw [Int.natAbs_tdiv]; rfl
  have hd : Go.Lib.decDigits n.natAbs = Go.Lib.decDigits (n.natAbs / 10) ++ [UInt8.ofNat (48 + n.natAbs % 10)] := by
    rw [Go.Lib.decDigits, dif_neg (by omega)]
  unfold Go.Lib.itoa
  rcases h with h | h
  · have h1 : ¬ n < 0 := by omega
    have e : n.tdiv 10 = n / 10 := Int.tdiv_eq_ediv_of_nonneg (by omega)
    have h2 : ¬ n.tdiv 10 < 0 := by rw [e]; omega
    rw [if_neg h1, if_neg h2]
    have e1 : n.toNat = n.natAbs := by omega
    have e2 : (n.tdiv 10).toNat = (n.tdiv 10).natAbs := by omega
    rw [e1, e2, hq, hd]
  · have h1 : n < 0 := by omega
    have h2 : n.tdiv 10 < 0 := by
      have e : n.tdiv 10 = -((-n).tdiv 10) := by rw [Int.neg_tdiv]; omega
      have e2 : (-n).tdiv 10 = (-n) / 10 := Int.tdiv_eq_ediv_of_nonneg (by omega)
      rw [e, e2]; omega
    rw [if_pos h1, if_pos h2, hq, hd]; rfl
theorem itoa_neg (n : Int) (h : n < 0) : Go.Lib.itoa n = 45 :: Go.Lib.itoa (-n) := by
  unfold Go.Lib.itoa
  rw [if_pos h, if_neg (by omega)]
  have : n.natAbs = (-n).toNat := by omega
  rw [this]
theorem itoa_one (n : Int) (h : 0 ≤ n) (h9 : n ≤ 9) : Go.Lib.itoa n = [UInt8.ofNat (48 + n.toNat)] := by
  unfold Go.Lib.itoa
  rw [if_neg (by omega), Go.Lib.decDigits, dif_pos (by omega)]
end Wd
