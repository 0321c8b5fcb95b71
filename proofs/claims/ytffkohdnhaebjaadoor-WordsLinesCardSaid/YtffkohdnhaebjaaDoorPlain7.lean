/-
  Plain laws, seventh part: the fields of a line.
-/
import Derived.Test.YtffkohdnhaebjaaDoorPlain6
import Derived.Test.YtffkohdnhaebjaaDoorPlain2
namespace Wd

theorem drop_of_suffix {l r : Str} (h : r <:+ l) : r = l.drop (l.length - r.length) := by
  obtain ⟨p, rfl⟩ := h
  simp
theorem U_suffix : ∀ (n : Nat) (l t r : Str), l.length ≤ n → U l = some (t, r) → r <:+ l
  | 0, l, t, r, hl, h => by
    have : l = [] := List.eq_nil_of_length_eq_zero (by omega)
    subst this; cases h
  | n + 1, [], t, r, hl, h => by cases h
  | n + 1, c :: u, t, r, hl, h => by
    simp only [List.length_cons] at hl
    by_cases h1 : c = 34
    · subst h1
      rw [U_quote] at h; simp at h
      rw [← h.2]; exact List.suffix_cons _ _
    by_cases h2 : c = 92
    · subst h2
      rw [U_back] at h
      cases hu : unesc u with
      | none => rw [hu] at h; cases h
      | some p =>
        obtain ⟨x, k⟩ := p
        rw [hu] at h
        simp only [Option.map_eq_some_iff] at h
        obtain ⟨⟨t', r'⟩, hU, he⟩ := h
        simp at he
        obtain ⟨_, rfl⟩ := he
        have := U_suffix n (u.drop k) t' r' (by rw [List.length_drop]; omega) hU
        exact (this.trans (List.drop_suffix _ _)).trans (List.suffix_cons _ _)
    · cases hp : plain c
      · rw [U_bad u hp h1 h2] at h; cases h
      · rw [U_plain u hp h1 h2] at h
        simp only [Option.map_eq_some_iff] at h
        obtain ⟨⟨t', r'⟩, hU, he⟩ := h
        simp at he
        obtain ⟨_, rfl⟩ := he
        exact (U_suffix n u t' r' (by omega) hU).trans (List.suffix_cons _ _)
theorem unq_suffix {l t r : Str} (h : unq l = some (t, r)) : r <:+ l := by
  unfold unq at h
  split at h
  · rename_i u
    exact (U_suffix u.length u t r (Nat.le_refl _) h).trans (List.suffix_cons _ _)
  · cases h

theorem dropWhile_drop (p : UInt8 → Bool) (l : Str) : l.dropWhile p = l.drop (l.takeWhile p).length := by
  induction l with
  | nil => rfl
  | cons c t ih => by_cases h : p c <;> simp [List.dropWhile, List.takeWhile, h, ih]
theorem takeWhile_take (p : UInt8 → Bool) (l : Str) : l.takeWhile p = l.take (l.takeWhile p).length := by
  induction l with
  | nil => rfl
  | cons c t ih =>
    by_cases h : p c
    · simp only [List.takeWhile, h, List.length_cons, List.take_succ_cons]
      rw [← ih]
    · simp [List.takeWhile, h]
/-- How far a bare word reaches. -/
def wlen (l : Str) : Nat := (l.takeWhile (· != 32)).length
theorem wlen_eq {l : Str} {n : Nat} (hn : n ≤ l.length) (h1 : ∀ j (hj : j < n), l[j]'(by omega) ≠ 32) (h2 : ∀ h : n < l.length, l[n] = 32) : wlen l = n := by
  unfold wlen
  induction l generalizing n with
  | nil => simp at hn; simp [hn]
  | cons c t ih =>
    cases n with
    | zero =>
      have := h2 (by simp)
      simp at this
      simp [List.takeWhile, this]
    | succ n =>
      have hc := h1 0 (by omega)
      simp at hc
      have e : (c != 32) = true := by simpa using hc
      simp only [List.takeWhile, e, List.length_cons]
      rw [ih (by simpa using hn) (fun j hj => by have := h1 (j + 1) (by omega); simpa using this) (fun h => by have := h2 (by simpa using h); simpa using this)]
theorem wlen_le (l : Str) : wlen l ≤ l.length := by
  unfold wlen; exact (List.takeWhile_prefix _).length_le
theorem field1_unq {l t r : Str} (h : unq l = some (t, r)) : field1 l = some ((t, true), r) := by unfold field1; rw [h]
theorem field1_bare {l : Str} (h : unq l = none) (hb : bare (l.take (wlen l)) = true) : field1 l = some ((l.take (wlen l), false), l.drop (wlen l)) := by
  unfold field1
  have e1 : l.takeWhile (· != 32) = l.take (wlen l) := takeWhile_take _ l
  have e2 : l.dropWhile (· != 32) = l.drop (wlen l) := dropWhile_drop _ l
  rw [h, e1, e2]
  simp only [hb, if_true]
theorem field1_no {l : Str} (h : unq l = none) (hb : bare (l.take (wlen l)) = false) : field1 l = none := by
  unfold field1
  have e1 : l.takeWhile (· != 32) = l.take (wlen l) := takeWhile_take _ l
  rw [h, e1]
  simp [hb]
theorem field1_lt {l : Str} {f : Fld} {r : Str} (h : field1 l = some (f, r)) : r.length < l.length := by
  cases hu : unq l with
  | some p =>
    obtain ⟨t, r'⟩ := p
    rw [field1_unq hu] at h
    simp at h
    obtain ⟨_, rfl⟩ := h
    exact unq_rest hu
  | none =>
    cases hb : bare (l.take (wlen l)) with
    | false => rw [field1_no hu hb] at h; cases h
    | true =>
      rw [field1_bare hu hb] at h
      simp at h
      obtain ⟨_, rfl⟩ := h
      rw [List.length_drop]
      have h0 : wlen l ≠ 0 := by intro e; rw [e] at hb; simp [bare] at hb
      have := wlen_le l
      omega
theorem field1_suffix {l : Str} {f : Fld} {r : Str} (h : field1 l = some (f, r)) : r <:+ l := by
  cases hu : unq l with
  | some p =>
    obtain ⟨t, r'⟩ := p
    rw [field1_unq hu] at h
    simp at h
    obtain ⟨_, rfl⟩ := h
    exact unq_suffix hu
  | none =>
    cases hb : bare (l.take (wlen l)) with
    | false => rw [field1_no hu hb] at h; cases h
    | true =>
      rw [field1_bare hu hb] at h
      simp at h
      obtain ⟨_, rfl⟩ := h
      exact List.drop_suffix _ _

def F (l : Str) : Option (List Fld) := fieldsF (l.length + 1) l
theorem fieldsF_fuel : ∀ (n m : Nat) (l : Str), l.length < n → l.length < m → fieldsF n l = fieldsF m l
  | 0, _, _, h, _ => absurd h (Nat.not_lt_zero _)
  | _ + 1, 0, _, _, h => absurd h (Nat.not_lt_zero _)
  | n + 1, m + 1, l, h1, h2 => by
    simp only [fieldsF]
    cases hf : field1 l with
    | none => rfl
    | some p =>
      obtain ⟨f, r⟩ := p
      have hlt := field1_lt hf
      cases r with
      | nil => rfl
      | cons c r' =>
        simp only [List.length_cons] at hlt
        simp only [fieldsF_fuel n m r' (by omega) (by omega)]
theorem F_none {l : Str} (h : field1 l = none) : F l = none := by simp [F, fieldsF, h]
theorem F_last {l : Str} {f : Fld} (h : field1 l = some (f, [])) : F l = some [f] := by simp [F, fieldsF, h]
theorem F_next {l : Str} {f : Fld} {r : Str} (h : field1 l = some (f, 32 :: r)) : F l = (F r).map (f :: ·) := by
  have hlt := field1_lt h
  simp only [List.length_cons] at hlt
  have e : fieldsF l.length r = fieldsF (r.length + 1) r := fieldsF_fuel _ _ _ (by omega) (by omega)
  simp only [F, fieldsF, h, beq_self_eq_true, if_true, e]
theorem F_bad {l : Str} {f : Fld} {c : UInt8} {r : Str} (h : field1 l = some (f, c :: r)) (hc : c ≠ 32) : F l = none := by
  simp [F, fieldsF, h, hc]
theorem fields_F (l : Str) : fields l = F l := rfl
end Wd
