/-
  Plain laws, sixth part: what is read of a quoted form.
-/
import Derived.Test.YtffkohdnhaebjaaDoorPlain5
namespace Wd

theorem U_rest : ∀ (n : Nat) (l t r : Str), l.length ≤ n → U l = some (t, r) → r.length < l.length
  | 0, l, t, r, hl, h => by
    have : l = [] := List.eq_nil_of_length_eq_zero (by omega)
    subst this; cases h
  | n + 1, [], t, r, hl, h => by cases h
  | n + 1, c :: u, t, r, hl, h => by
    simp only [List.length_cons] at hl ⊢
    by_cases h1 : c = 34
    · subst h1
      rw [U_quote] at h; simp at h
      rw [h.2]; omega
    by_cases h2 : c = 92
    · subst h2
      rw [U_back] at h
      cases hu : unesc u with
      | none => rw [hu] at h; cases h
      | some p =>
        obtain ⟨x, k⟩ := p
        rw [hu] at h
        simp only [Option.map_eq_some_iff] at h
        obtain ⟨⟨t', r'⟩, hU, he⟩ := h
        simp at he
        obtain ⟨_, rfl⟩ := he
        have := U_rest n (u.drop k) t' r' (by rw [List.length_drop]; omega) hU
        rw [List.length_drop] at this; omega
    · cases hp : plain c
      · rw [U_bad u hp h1 h2] at h; cases h
      · rw [U_plain u hp h1 h2] at h
        simp only [Option.map_eq_some_iff] at h
        obtain ⟨⟨t', r'⟩, hU, he⟩ := h
        simp at he
        obtain ⟨_, rfl⟩ := he
        have := U_rest n u t' r' (by omega) hU
        omega
theorem unq_rest {l t r : Str} (h : unq l = some (t, r)) : r.length < l.length := by
  unfold unq at h
  split at h
  · rename_i u
    have := U_rest u.length u t r (Nat.le_refl _) h
    simp; omega
  · cases h

/-! ### The form of each byte at the beginning of a string, as the reference looks for it -/
theorem esc_plain' {c : UInt8} (h : plain c = true) : esc c = [c] := by unfold esc; rw [h]; rfl
def escOk (c : UInt8) : Bool :=
  if plain c then decide (esc c = [c]) && c != 34 && c != 92
  else if letter c != 0 then decide (esc c = [92, letter c]) && unletter (letter c) == some c
  else decide (esc c = [92, 120, hexd (c / 16), hexd (c % 16)]) && hexv (hexd (c / 16)) == some (c / 16) && hexv (hexd (c % 16)) == some (c % 16) && (c / 16 * 16 + c % 16 == c)
theorem escOk_fin : ∀ i : Fin 256, escOk (UInt8.ofNat i.val) = true := by decide +kernel
theorem escOk_all (c : UInt8) : escOk c = true := by
  have := escOk_fin ⟨c.toNat, c.toNat_lt⟩
  simpa using this
def unlOk (l : UInt8) : Bool := match unletter l with
  | some c => !plain c && letter c == l && l != 0 && l != 120
  | none => true
theorem unlOk_fin : ∀ i : Fin 256, unlOk (UInt8.ofNat i.val) = true := by decide +kernel
theorem unlOk_all (c : UInt8) : unlOk c = true := by
  have := unlOk_fin ⟨c.toNat, c.toNat_lt⟩
  simpa using this
def hexOk (h : UInt8) : Bool := match hexv h with
  | some a => decide (a.toNat < 16) && hexd a == h
  | none => true
theorem hexOk_fin : ∀ i : Fin 256, hexOk (UInt8.ofNat i.val) = true := by decide +kernel
theorem hexOk_all (c : UInt8) : hexOk c = true := by
  have := hexOk_fin ⟨c.toNat, c.toNat_lt⟩
  simpa using this

/-- One step of the reading: the byte and the length of its form. -/
def step1 (l : Str) : Option (UInt8 × Nat) := match l with
  | [] => none
  | c :: t => if c == 34 then none else if c == 92 then (unesc t).map fun p => (p.1, p.2 + 1) else if plain c then some (c, 1) else none
theorem U_step {l : Str} {x : UInt8} {k : Nat} (h : step1 l = some (x, k)) : U l = (U (l.drop k)).map fun r => (x :: r.1, r.2) := by
  match l, h with
  | c :: t, h =>
    simp only [step1] at h
    split at h
    · cases h
    · rename_i h1
      split at h
      · rename_i h2
        have h2' : c = 92 := by simpa using h2
        subst h2'
        cases hu : unesc t with
        | none => rw [hu] at h; cases h
        | some p =>
          rw [hu] at h
          simp at h
          obtain ⟨rfl, rfl⟩ := h
          rw [U_back, hu]; simp
      · rename_i h2
        split at h
        · rename_i hp
          simp at h
          obtain ⟨rfl, rfl⟩ := h
          rw [U_plain t hp (by simpa using h1) (by simpa using h2)]; simp
        · cases h
theorem U_stop {c : UInt8} {t : Str} (h : step1 (c :: t) = none) (hc : c ≠ 34) : U (c :: t) = none := by
  simp only [step1] at h
  split at h
  · rename_i h1; exact absurd (by simpa using h1) hc
  · split at h
    · rename_i h2
      have h2' : c = 92 := by simpa using h2
      subst h2'
      cases hu : unesc t with
      | none => rw [U_back, hu]
      | some p => rw [hu] at h; cases h
    · rename_i h1 h2
      split at h
      · cases h
      · rename_i hp
        exact U_bad t (by simpa using hp) hc (by simpa using h2)
/-- The reference's step: a byte whose form stands at the beginning. -/
theorem step1_of_prefix {l : Str} {c : UInt8} (h : esc c <+: l) : step1 l = some (c, (esc c).length) := by
  have ho := escOk_all c
  obtain ⟨r, rfl⟩ := h
  unfold escOk at ho
  split at ho
  · rename_i hp
    simp only [Bool.and_eq_true, decide_eq_true_eq, bne_iff_ne] at ho
    obtain ⟨⟨e, h1⟩, h2⟩ := ho
    rw [e]
    simp [step1, h1, h2, hp]
  · split at ho
    · simp only [Bool.and_eq_true, decide_eq_true_eq, beq_iff_eq] at ho
      rw [ho.1]
      simp [step1, unesc, ho.2]
    · rename_i hp hl
      simp only [Bool.and_eq_true, decide_eq_true_eq, beq_iff_eq] at ho
      obtain ⟨⟨⟨e, h1⟩, h2⟩, h3⟩ := ho
      rw [e]
      have hu : unletter 120 = none := by decide
      simp only [step1, unesc, List.cons_append, List.nil_append, hu, h1, h2, h3]
      simp at hp hl
      simp [hp, hl]
theorem prefix_of_step1 {l : Str} {c : UInt8} {k : Nat} (h : step1 l = some (c, k)) : esc c <+: l ∧ k = (esc c).length := by
  have key : esc c <+: l := by
    match l, h with
    | a :: t, h =>
      simp only [step1] at h
      split at h
      · cases h
      · rename_i h1
        split at h
        · rename_i h2
          have h2' : a = 92 := by simpa using h2
          subst h2'
          simp only [Option.map_eq_some_iff] at h
          obtain ⟨⟨x, n⟩, hu, he⟩ := h
          simp at he
          obtain ⟨rfl, rfl⟩ := he
          match t, hu with
          | b :: u, hu =>
            simp only [unesc] at hu
            cases hul : unletter b with
            | some y =>
              rw [hul] at hu; simp at hu
              obtain ⟨rfl, _⟩ := hu
              have hk := unlOk_all b
              simp only [unlOk, hul, Bool.and_eq_true, beq_iff_eq, Bool.not_eq_true'] at hk
              obtain ⟨⟨⟨hp, hl⟩, h0⟩, _⟩ := hk
              have e : esc y = [92, b] := by unfold esc; rw [hp, hl, h0]; rfl
              rw [e]; exact ⟨u, rfl⟩
            | none =>
              rw [hul] at hu
              simp only at hu
              split at hu
              · rename_i hx
                have hx' : b = 120 := by simpa using hx
                subst hx'
                match u, hu with
                | p :: q :: v, hu =>
                  simp only at hu
                  cases ha : hexv p with
                  | none => rw [ha] at hu; simp at hu
                  | some a' =>
                    cases hb : hexv q with
                    | none => rw [ha, hb] at hu; simp at hu
                    | some b' =>
                      rw [ha, hb] at hu
                      simp only at hu
                      split at hu
                      · cases hu
                      · rename_i hno
                        simp at hu
                        obtain ⟨rfl, _⟩ := hu
                        have k1 := hexOk_all p
                        have k2 := hexOk_all q
                        simp only [hexOk, ha, hb, Bool.and_eq_true, decide_eq_true_eq, beq_iff_eq] at k1 k2
                        have d1 : (a' * 16 + b') / 16 = a' := by rw [← UInt8.toNat_inj]; simp; omega
                        have d2 : (a' * 16 + b') % 16 = b' := by rw [← UInt8.toNat_inj]; simp; omega
                        simp only [Bool.or_eq_true, not_or, Bool.not_eq_true] at hno
                        have e : esc (a' * 16 + b') = [92, 120, p, q] := by unfold esc; rw [hno.1, hno.2, d1, d2, k1.2, k2.2]; rfl
                        rw [e]; exact ⟨v, rfl⟩
              · cases hu
        · split at h
          · rename_i hp
            simp at h
            obtain ⟨rfl, _⟩ := h
            rw [esc_plain' hp]; exact ⟨t, rfl⟩
          · cases h
  refine ⟨key, ?_⟩
  have := step1_of_prefix key
  rw [h] at this
  simpa using this
end Wd
