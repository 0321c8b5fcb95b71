/-
  Plain laws, fifth part: quoted forms.
-/
import Derived.Test.YtffkohdnhaebjaaDoorPlain4
namespace Wd

def U (l : Str) : Option (Str × Str) := unqF (l.length + 1) l
theorem unqF_fuel : ∀ (n m : Nat) (l : Str), l.length < n → l.length < m → unqF n l = unqF m l
  | 0, _, _, h, _ => absurd h (Nat.not_lt_zero _)
  | _ + 1, 0, _, _, h => absurd h (Nat.not_lt_zero _)
  | n + 1, m + 1, [], _, _ => rfl
  | n + 1, m + 1, c :: t, h1, h2 => by
    simp only [List.length_cons] at h1 h2
    have ih : ∀ u : Str, u.length ≤ t.length → unqF n u = unqF m u := fun u hu => unqF_fuel n m u (by omega) (by omega)
    simp only [unqF]
    split
    · rfl
    · split
      · cases hu : unesc t with
        | none => rfl
        | some p => simp only [ih (t.drop p.2) (by rw [List.length_drop]; omega)]
      · simp only [ih t (Nat.le_refl _)]
theorem U_nil : U [] = none := rfl
theorem U_quote (t : Str) : U (34 :: t) = some ([], t) := rfl
theorem U_back (t : Str) : U (92 :: t) = match unesc t with
    | none => none
    | some (x, k) => (U (t.drop k)).map fun r => (x :: r.1, r.2) := by
  unfold U
  simp only [List.length_cons, unqF]
  cases hu : unesc t with
  | none => rfl
  | some p =>
    have e : unqF (t.length + 1) (t.drop p.2) = unqF ((t.drop p.2).length + 1) (t.drop p.2) := unqF_fuel _ _ _ (by rw [List.length_drop]; omega) (by omega)
    simp only [e]; rfl
theorem U_plain {c : UInt8} (t : Str) (h : plain c = true) (h1 : c ≠ 34) (h2 : c ≠ 92) : U (c :: t) = (U t).map fun r => (c :: r.1, r.2) := by
  unfold U
  simp only [List.length_cons, unqF]
  simp [h, h1, h2]
theorem U_bad {c : UInt8} (t : Str) (h : plain c = false) (h1 : c ≠ 34) (h2 : c ≠ 92) : U (c :: t) = none := by
  unfold U
  simp only [List.length_cons, unqF]
  simp [h, h1, h2]
theorem unq_U (t : Str) : unq (34 :: t) = U t := rfl
theorem unq_no {l : Str} (h : l.head? ≠ some 34) : unq l = none := by
  unfold unq; split
  · simp at h
  · rfl
theorem unletter_pos {l c : UInt8} {t : Str} (h : unletter l = some c) : unesc (l :: t) = some (c, 1) := by simp [unesc, h]
theorem unesc_le {l : Str} {x : UInt8} {k : Nat} (h : unesc l = some (x, k)) : 1 ≤ k ∧ k ≤ l.length := by
  match l, h with
  | l :: t, h =>
    simp only [unesc] at h
    cases hu : unletter l with
    | some c =>
      rw [hu] at h; simp at h
      obtain ⟨_, rfl⟩ := h; simp
    | none =>
      rw [hu] at h
      simp only at h
      split at h
      · match t, h with
        | a :: b :: u, h =>
          simp only at h
          cases ha : hexv a with
          | none => rw [ha] at h; simp at h
          | some a' =>
            cases hb : hexv b with
            | none => rw [ha, hb] at h; simp at h
            | some b' =>
              rw [ha, hb] at h
              simp only at h
              split at h
              · cases h
              · simp at h; obtain ⟨_, rfl⟩ := h; simp
      · cases h
theorem unescV_some {l : Str} (h : (unescV l).2 ≠ 0) : unesc l = some (unescV l) := by
  unfold unescV at h ⊢
  cases hu : unesc l with
  | none => rw [hu] at h; simp at h
  | some p => rfl
theorem unescV_none {l : Str} (h : (unescV l).2 = 0) : unesc l = none := by
  unfold unescV at h
  cases hu : unesc l with
  | none => rfl
  | some p =>
    rw [hu] at h; simp at h
    have := (unesc_le (x := p.1) (k := p.2) hu).1; omega
end Wd
