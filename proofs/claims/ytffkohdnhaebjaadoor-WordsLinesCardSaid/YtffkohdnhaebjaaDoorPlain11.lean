/-
  Plain functions for layer 1 (words): what an iterator over the fields of a line hands out. No program in this text.
-/
import Derived.Test.YtffkohdnhaebjaaDoorPlain7
import Derived.Test.YtffkohdnhaebjaaDoorPlain10
namespace Wd

theorem cut_take (c : UInt8) : ∀ l : Str, (Go.Lib.cut l [c]).1 = l.takeWhile (· != c)
  | [] => rfl
  | x :: t => by
    have ih := cut_take c t
    unfold Go.Lib.cut at ih ⊢
    by_cases h : x = c
    · subst h
      rw [index_cons_eq]; simp
    · have hb : (x != c) = true := by simpa using h
      have hge := Go.Lib.index_ge t [c]
      rw [List.takeWhile_cons, hb, ← ih, index_cons_ne _ _ _ h]
      by_cases h1 : Go.Lib.index t [c] = -1
      · rw [h1]; simp
      · have h2 : (Go.Lib.index t [c] == -1) = false := beq_eq_false_iff_ne.2 h1
        rw [h2]
        have h3 : 0 ≤ Go.Lib.index t [c] := by omega
        have h4 : (Go.Lib.index t [c] + 1).toNat = (Go.Lib.index t [c]).toNat + 1 := by omega
        simp only [Bool.false_eq_true, if_false, if_true]
        rw [if_pos (by omega), if_pos h3]
        simp [h4]
def bad : Fld × Bool := (([], false), false)
def prodF : Nat → Str → List (Fld × Bool)
  | 0, _ => []
  | n + 1, s => match field1 s with
    | none => [bad]
    | some (f, []) => [(f, true)]
    | some (f, c :: r) => if c == 32 then (f, true) :: prodF n r else [bad]
def prod (s : Str) : List (Fld × Bool) := prodF (s.length + 1) s
theorem prodF_fuel : ∀ (n m : Nat) (l : Str), l.length < n → l.length < m → prodF n l = prodF m l := by
  intro n
  induction n with
  | zero => intro m l h; omega
  | succ n ih =>
    intro m l h1 h2
    cases m with
    | zero => omega
    | succ m =>
      simp only [prodF]
      cases hf : field1 l with
      | none => rfl
      | some p =>
        obtain ⟨f, r⟩ := p
        have hlt := field1_lt hf
        cases r with
        | nil => rfl
        | cons c r =>
          simp only [List.length_cons] at hlt
          dsimp only
          rw [ih m r (by omega) (by omega)]
theorem prod_none {l : Str} (h : field1 l = none) : prod l = [bad] := by simp [prod, prodF, h]
theorem prod_last {l : Str} {f : Fld} (h : field1 l = some (f, [])) : prod l = [(f, true)] := by simp [prod, prodF, h]
theorem prod_next {l : Str} {f : Fld} {r : Str} (h : field1 l = some (f, 32 :: r)) : prod l = (f, true) :: prod r := by
  have hlt := field1_lt h
  simp only [List.length_cons] at hlt
  have e : prodF (l.length + 1) l = (f, true) :: prodF l.length r := by simp [prodF, h]
  show prodF (l.length + 1) l = (f, true) :: prodF (r.length + 1) r
  rw [e, prodF_fuel l.length (r.length + 1) r (by omega) (by omega)]
theorem prod_bad {l : Str} {f : Fld} {c : UInt8} {r : Str} (h : field1 l = some (f, c :: r)) (hc : c ≠ 32) : prod l = [bad] := by
  simp [prod, prodF, h, hc]
theorem prod_F : ∀ (n : Nat) (l : Str), l.length < n → (∀ L : List Fld, F l = some L → prod l = L.map (·, true)) ∧ (F l = none → ∃ L : List Fld, prod l = L.map (·, true) ++ [bad]) := by
  intro n
  induction n with
  | zero => intro l h; omega
  | succ n ih =>
    intro l hl
    cases hf : field1 l with
    | none =>
      rw [F_none hf, prod_none hf]
      exact ⟨fun L h => by simp at h, fun _ => ⟨[], rfl⟩⟩
    | some p =>
      obtain ⟨f, r⟩ := p
      have hlt := field1_lt hf
      cases r with
      | nil =>
        rw [F_last hf, prod_last hf]
        refine ⟨fun L h => ?_, fun h => by simp at h⟩
        cases h; rfl
      | cons c r =>
        simp only [List.length_cons] at hlt
        by_cases hc : c = 32
        · subst hc
          rw [F_next hf, prod_next hf]
          obtain ⟨h1, h2⟩ := ih r (by omega)
          refine ⟨fun L h => ?_, fun h => ?_⟩
          · cases hF : F r with
            | none => rw [hF] at h; simp at h
            | some M => rw [hF] at h; simp at h; subst h; rw [h1 M hF]; rfl
          · have : F r = none := by cases hF : F r with
              | none => rfl
              | some M => rw [hF] at h; simp at h
            obtain ⟨L, hL⟩ := h2 this
            exact ⟨f :: L, by rw [hL]; rfl⟩
        · rw [F_bad hf hc, prod_bad hf hc]
          exact ⟨fun L h => by simp at h, fun _ => ⟨[], rfl⟩⟩
/-- All were fields: they are the fields of the line. -/
theorem prod_all {l : Str} {acc : List Fld} (h : prod l = acc.map (·, true)) : F l = some acc := by
  obtain ⟨h1, h2⟩ := prod_F (l.length + 1) l (by omega)
  have hinj : ∀ (a b : List Fld), a.map (fun f => (f, true)) = b.map (fun f => (f, true)) → a = b := by
    intro a
    induction a with
    | nil => intro b hb; cases b with
      | nil => rfl
      | cons x t => simp at hb
    | cons x t ih => intro b hb; cases b with
      | nil => simp at hb
      | cons y u => simp at hb; rw [hb.1]; congr 1; exact ih u (by simpa using hb.2)
  cases hF : F l with
  | some L => rw [h1 L hF] at h; rw [hinj _ _ h]
  | none =>
    obtain ⟨L, hL⟩ := h2 hF
    rw [h] at hL
    have := congrArg (fun x : List (Fld × Bool) => x.getLast?) hL
    simp at this
    have hm : bad ∈ acc.map (fun f => (f, true)) := by
      rw [hL]; simp
    simp [bad] at hm
/-- A part that ends with what is no field: the line has no fields. -/
theorem prod_stop {l : Str} {acc : List Fld} {f : Fld} (h : acc.map (·, true) ++ [(f, false)] <+: prod l) : F l = none := by
  obtain ⟨h1, _⟩ := prod_F (l.length + 1) l (by omega)
  cases hF : F l with
  | none => rfl
  | some L =>
    rw [h1 L hF] at h
    have hm : (f, false) ∈ L.map (fun f => (f, true)) := h.subset (by simp)
    simp at hm
theorem prodF_len : ∀ (n : Nat) (l : Str), (prodF n l).length ≤ n := by
  intro n
  induction n with
  | zero => intro l; simp [prodF]
  | succ n ih =>
    intro l
    simp only [prodF]
    cases field1 l with
    | none => simp
    | some p =>
      obtain ⟨f, r⟩ := p
      cases r with
      | nil => simp
      | cons c r =>
        dsimp only
        split
        · have := ih r; simp only [List.length_cons]; omega
        · simp
theorem prod_len (l : Str) : (prod l).length ≤ l.length + 1 := prodF_len _ _
end Wd
