/-
  Plain functions for layer 1 (words): names, decimal forms, quoted forms, fields, lines. No program in this text.
-/
import Derived.Lib.AtoiAll
import Derived.Lib.ParseIntB
import Derived.Lib.ItoaNum
import Derived.Lib.SlTrimSet
import Derived.Lib.Strings
namespace Wd

abbrev Str := List UInt8

def lower (c : UInt8) : Bool := 97 ≤ c && c ≤ 122
def digit (c : UInt8) : Bool := 48 ≤ c && c ≤ 57
def nameCh (c : UInt8) : Bool := lower c || digit c || c == 45
def name (s : Str) : Bool := match s with
  | [] => false
  | c :: _ => decide (s.length ≤ 16) && lower c && s.all nameCh

/-- A decimal form without a sign. -/
def natDec (s : Str) : Bool := match s with
  | [] => false
  | [c] => digit c
  | c :: t => digit c && c != 48 && t.all digit
/-- A decimal form. -/
def decimal (s : Str) : Bool := match s with
  | 45 :: c :: t => c != 48 && natDec (c :: t)
  | _ => natDec s

def natVal (s : Str) : Nat := s.foldl (fun a c => 10 * a + (c.toNat - 48)) 0
def intVal (s : Str) : Int := match s with
  | 45 :: t => -(natVal t : Int)
  | _ => natVal s

/-- The number and the error of words.Int. -/
def intOfStr (s : Str) (lo hi : Int) : Int × Int :=
  if decimal s then
    if -9223372036854775808 ≤ intVal s ∧ intVal s ≤ 9223372036854775807 ∧ lo ≤ intVal s ∧ intVal s ≤ hi then (intVal s, 0) else (0, 7)
  else (0, 6)

def plain (c : UInt8) : Bool := 32 ≤ c && c ≤ 126 && c != 34 && c != 92
def hexd (n : UInt8) : UInt8 := if n < 10 then 48 + n else 87 + n
def letter (c : UInt8) : UInt8 := if c == 34 then 34 else if c == 92 then 92 else if c == 10 then 110 else if c == 13 then 114 else if c == 9 then 116 else 0
def esc (c : UInt8) : Str :=
  if plain c then [c] else if letter c != 0 then [92, letter c] else [92, 120, hexd (c / 16), hexd (c % 16)]
def quote (s : Str) : Str := 34 :: (s.flatMap esc ++ [34])

def hexv (c : UInt8) : Option UInt8 := if 48 ≤ c ∧ c ≤ 57 then some (c - 48) else if 97 ≤ c ∧ c ≤ 102 then some (c - 87) else none
def unletter (c : UInt8) : Option UInt8 := if c == 34 then some 34 else if c == 92 then some 92 else if c == 110 then some 10 else if c == 114 then some 13 else if c == 116 then some 9 else none
/-- What stands behind a backslash: the byte, and how many bytes. -/
def unesc (s : Str) : Option (UInt8 × Nat) := match s with
  | [] => none
  | l :: t => match unletter l with
    | some c => some (c, 1)
    | none => if l == 120 then match t with
        | h :: k :: _ => match hexv h, hexv k with
          | some a, some b => if plain (a * 16 + b) || letter (a * 16 + b) != 0 then none else some (a * 16 + b, 3)
          | _, _ => none
        | _ => none
      else none

/-- The bytes between quotes, and what is left behind the closing one (fuel: the length). -/
def unqF : Nat → Str → Option (Str × Str)
  | 0, _ => none
  | _ + 1, [] => none
  | n + 1, c :: t =>
    if c == 34 then some ([], t)
    else if c == 92 then match unesc t with
      | none => none
      | some (x, k) => (unqF n (t.drop k)).map fun r => (x :: r.1, r.2)
    else if plain c then (unqF n t).map fun r => (c :: r.1, r.2)
    else none
/-- A quoted form at the beginning: the string and the rest. -/
def unq (s : Str) : Option (Str × Str) := match s with
  | 34 :: t => unqF (t.length + 1) t
  | _ => none
def unquote (s : Str) : Option Str := match unq s with
  | some (t, []) => some t
  | _ => none

/-! ### Digits of names -/
theorem u8le (a b : UInt8) : (a ≤ b) ↔ a.toNat ≤ b.toNat := UInt8.le_iff_toNat_le

def hyph : Str := [97,98,99,100,101,102,103,104,105,106,107,108,109,110,111,112,113,114,115,116,117,118,119,120,121,122,48,49,50,51,52,53,54,55,56,57,45]
def digs : Str := [48,49,50,51,52,53,54,55,56,57]
theorem hyph_contains : ∀ c : UInt8, hyph.contains c = nameCh c := by
  have h : ∀ i : Fin 256, hyph.contains (UInt8.ofNat i.val) = nameCh (UInt8.ofNat i.val) := by decide +kernel
  intro c
  have := h ⟨c.toNat, c.toNat_lt⟩
  simpa using this
theorem digs_contains : ∀ c : UInt8, digs.contains c = digit c := by
  have h : ∀ i : Fin 256, digs.contains (UInt8.ofNat i.val) = digit (UInt8.ofNat i.val) := by decide +kernel
  intro c
  have := h ⟨c.toNat, c.toNat_lt⟩
  simpa using this
theorem dropWhile_nil_iff (l : Str) (p : UInt8 → Bool) : l.dropWhile p = [] ↔ l.all p = true := by
  induction l with
  | nil => simp
  | cons c t ih => by_cases h : p c <;> simp [List.dropWhile, h] <;> simpa using ih
theorem trimS_nil_iff (l cs : Str) : Go.Lib.trimS l cs = [] ↔ l.all (cs.contains ·) = true := by
  unfold Go.Lib.trimS Go.Lib.trimLeftS Go.Lib.trimRightS
  rw [dropWhile_nil_iff]
  constructor
  · intro h
    have hs : ∀ (m : Str) (p : UInt8 → Bool), (m.dropWhile p).all p = true → m.all p = true := by
      intro m p
      induction m with
      | nil => simp
      | cons c t ih =>
        intro hm
        by_cases hc : p c
        · simp only [List.dropWhile, hc] at hm
          simp [hc]; simpa using ih hm
        · simp [List.dropWhile, hc] at hm
    rw [List.all_reverse] at h
    have := hs _ _ h
    rwa [List.all_reverse] at this
  · intro h
    rw [List.all_reverse]
    have : l.reverse.dropWhile (cs.contains ·) = [] := (dropWhile_nil_iff _ _).2 (by rw [List.all_reverse]; exact h)
    rw [this]; rfl
theorem trim_name (l : Str) : (Go.Lib.trimS l hyph == []) = l.all nameCh := by
  rw [Bool.eq_iff_iff, beq_iff_eq, trimS_nil_iff]
  simp only [hyph_contains]
theorem trim_digs (l : Str) : (Go.Lib.trimS l digs == []) = l.all digit := by
  rw [Bool.eq_iff_iff, beq_iff_eq, trimS_nil_iff]
  simp only [digs_contains]

theorem natDec_eq (l : Str) : natDec l = (!l.isEmpty && !(decide (1 < l.length) && l.head? == some 48) && l.all digit) := by
  match l with
  | [] => rfl
  | [c] => simp [natDec]
  | c :: d :: t =>
    simp only [natDec, List.isEmpty_cons, Bool.not_false, Bool.true_and, List.length_cons, List.head?_cons, List.all_cons]
    have h1 : decide (1 < t.length + 1 + 1) = true := by simp
    rw [h1, Bool.true_and]
    by_cases h : c = 48
    · subst h; simp
    · have e : (some c == some 48) = false := by simpa using h
      have e2 : (c != 48) = true := by simpa using h
      rw [e, e2]; simp
theorem decimal_neg {c : UInt8} {t : Str} (h : c ≠ 48) : decimal (45 :: c :: t) = natDec (c :: t) := by
  simp [decimal, h]
theorem decimal_pos {l : Str} (h : ∀ c t, l = 45 :: c :: t → c = 48) : decimal l = natDec l := by
  unfold decimal
  split
  · rename_i c t
    have := h c t rfl
    subst this
    simp [natDec, digit]
  · rfl
theorem name_empty {l : Str} (h : l.length < 1) : name l = false := by
  have : l = [] := List.eq_nil_of_length_eq_zero (by omega)
  subst this; rfl
theorem name_long {l : Str} (h : 16 < l.length) : name l = false := by
  match l, h with
  | c :: t, h =>
    have : decide ((c :: t).length ≤ 16) = false := decide_eq_false (by omega)
    simp only [name, this, Bool.false_and]
theorem name_head {c : UInt8} {t : Str} (h : lower c = false) : name (c :: t) = false := by simp [name, h]
theorem name_all {c : UInt8} {t : Str} (h : lower c = true) (hl : (c :: t).length ≤ 16) : name (c :: t) = (c :: t).all nameCh := by
  have : decide ((c :: t).length ≤ 16) = true := decide_eq_true hl
  simp only [name, this, h, Bool.true_and]

/-! ### isDecimal of words; the number -/
theorem isDec_nil {s : Str} (h : Go.Lib.trimPrefix s [45] = []) : decimal s = false := by
  match s with
  | [] => rfl
  | [c] =>
    by_cases hc : c = 45
    · subst hc; rfl
    · simp [Go.Lib.trimPrefix, Go.Lib.hasPrefix, List.isPrefixOf, beq_eq_false_iff_ne.2 (Ne.symm hc)] at h
  | c :: d :: t =>
    by_cases hc : c = 45
    · subst hc; simp [Go.Lib.trimPrefix, Go.Lib.hasPrefix, List.isPrefixOf] at h
    · simp [Go.Lib.trimPrefix, Go.Lib.hasPrefix, List.isPrefixOf, beq_eq_false_iff_ne.2 (Ne.symm hc)] at h
theorem trimPrefix_neg (t : Str) : Go.Lib.trimPrefix (45 :: t) [45] = t := by simp [Go.Lib.trimPrefix, Go.Lib.hasPrefix, List.isPrefixOf]
theorem trimPrefix_pos {c : UInt8} (t : Str) (hc : c ≠ 45) : Go.Lib.trimPrefix (c :: t) [45] = c :: t := by
  simp [Go.Lib.trimPrefix, Go.Lib.hasPrefix, List.isPrefixOf, beq_eq_false_iff_ne.2 (Ne.symm hc)]
theorem natDec_of_digits {c : UInt8} {t : Str} (h : (c :: t).all digit = true) : natDec (c :: t) = (c != 48 || t == []) := by
  rw [natDec_eq, h]
  cases t with
  | nil => simp
  | cons d t =>
    by_cases hc : c = 48
    · subst hc; simp
    · have e : (some c == some 48) = false := by simpa using hc
      have e2 : (c != 48) = true := by simpa using hc
      simp [e, e2]
theorem natDec_not {l : Str} (h : l.all digit = false) : natDec l = false := by rw [natDec_eq, h]; simp
theorem isDec_not {s : Str} (h : (Go.Lib.trimPrefix s [45]).all digit = false) : decimal s = false := by
  match s with
  | [] => rfl
  | c :: t =>
    by_cases hc : c = 45
    · subst hc
      rw [trimPrefix_neg] at h
      match t with
      | [] => rfl
      | d :: t => simp [decimal, natDec_not h]
    · rw [trimPrefix_pos t hc] at h
      rw [decimal_pos (fun a b e => absurd (List.cons.inj e).1 hc), natDec_not h]
theorem isDec_all {s : Str} {c : UInt8} {t : Str} (h : Go.Lib.trimPrefix s [45] = c :: t) (ha : (c :: t).all digit = true) : decimal s = (c != 48 || s == [48]) := by
  match s with
  | [] => simp [Go.Lib.trimPrefix, Go.Lib.hasPrefix] at h
  | x :: u =>
    by_cases hx : x = 45
    · subst hx
      rw [trimPrefix_neg] at h
      subst h
      have e : ((45 : UInt8) :: c :: t == [48]) = false := by simp
      rw [e, Bool.or_false]
      simp only [decimal, natDec_of_digits ha]
      cases hc : (c != 48) <;> simp
    · rw [trimPrefix_pos u hx] at h
      obtain ⟨rfl, rfl⟩ := List.cons.inj h
      rw [decimal_pos (fun a b e => absurd (List.cons.inj e).1 hx), natDec_of_digits ha]
      by_cases hc : x = 48
      · subst hc; simp
      · have e2 : (x != 48) = true := by simpa using hc
        simp [e2]

def val (acc : Nat) (l : Str) : Nat := l.foldl (fun a c => 10 * a + (c.toNat - 48)) acc
theorem val_ge (l : Str) : ∀ acc, acc ≤ val acc l := by
  induction l with
  | nil => intro acc; exact Nat.le_refl _
  | cons c t ih => intro acc; have := ih (10 * acc + (c.toNat - 48)); simp only [val, List.foldl_cons] at this ⊢; omega
theorem digit_nat {c : UInt8} (h : digit c = true) : 48 ≤ c.toNat ∧ c.toNat ≤ 57 := by
  simpa [digit, UInt8.le_iff_toNat_le] using h
theorem parseUintM_digits (l : Str) : ∀ acc, acc ≤ 18446744073709551615 → l.all digit = true →
    Go.Lib.parseUintM 18446744073709551615 acc l = if val acc l ≤ 18446744073709551615 then Go.Lib.NumEnd.ok (val acc l) else .range := by
  induction l with
  | nil =>
    intro acc ha _
    have hv : val acc [] = acc := rfl
    rw [hv, if_pos ha]; rfl
  | cons c t ih =>
    intro acc ha h
    simp only [List.all_cons, Bool.and_eq_true] at h
    obtain ⟨hc, ht⟩ := h
    have hd := digit_nat hc
    have hv : val acc (c :: t) = val (10 * acc + (c.toNat - 48)) t := rfl
    rw [hv]
    simp only [Go.Lib.parseUintM, hd, and_self, if_true]
    have e : acc * 10 + (c.toNat - 48) = 10 * acc + (c.toNat - 48) := by omega
    rw [e]
    have hge := val_ge t (10 * acc + (c.toNat - 48))
    by_cases h1 : 1844674407370955162 ≤ acc
    · rw [if_pos h1, if_neg (by omega)]
    · rw [if_neg h1]
      by_cases h2 : 18446744073709551615 < 10 * acc + (c.toNat - 48)
      · rw [if_pos h2, if_neg (by omega)]
      · rw [if_neg h2, ih _ (by omega) ht]
theorem natDec_digits {l : Str} (h : natDec l = true) : l.all digit = true ∧ l ≠ [] := by
  rw [natDec_eq] at h; simp at h
  exact ⟨by simpa using h.2, by intro e; subst e; simp at h⟩
theorem natVal_eq (l : Str) : natVal l = val 0 l := rfl
theorem parseUintB_dec {l : Str} (h : natDec l = true) : Go.Lib.parseUintB 64 l = if natVal l ≤ 18446744073709551615 then .ok (natVal l) else .range := by
  obtain ⟨h1, h2⟩ := natDec_digits h
  unfold Go.Lib.parseUintB
  rw [if_neg h2, show 2 ^ 64 - 1 = 18446744073709551615 from rfl, parseUintM_digits _ _ (by omega) h1]
  rfl
theorem digit_ne {c : UInt8} (h : digit c = true) : ¬ (c.toNat = 43 ∨ c.toNat = 45) ∧ c.toNat ≠ 45 := by
  have := digit_nat h; omega
theorem parseIntB_dec {s : Str} (h : decimal s = true) :
    Go.Lib.parseIntB 64 s = if -9223372036854775808 ≤ intVal s ∧ intVal s ≤ 9223372036854775807 then .ok (intVal s) else .range := by
  match s with
  | [] => simp [decimal, natDec] at h
  | x :: u =>
    by_cases hx : x = 45
    · subst hx
      match u with
      | [] => simp [decimal, natDec, digit] at h
      | c :: t =>
        have hn : natDec (c :: t) = true := by simp [decimal] at h; exact h.2
        simp only [Go.Lib.parseIntB, show (45 : UInt8).toNat = 45 from rfl, or_true, if_true, not_true_eq_false, false_and, if_false, true_and]
        rw [parseUintB_dec hn]
        simp only [intVal]
        by_cases h1 : natVal (c :: t) ≤ 18446744073709551615
        · rw [if_pos h1]
          by_cases h2 : 2 ^ (64 - 1) < natVal (c :: t)
          · simp only [h2, if_true]; rw [if_neg (by omega)]
          · simp only [h2, if_false]; rw [if_pos (by omega)]
        · rw [if_neg h1, if_neg (by omega)]
    · rw [decimal_pos (fun a b e => absurd (List.cons.inj e).1 hx)] at h
      have hd := natDec_digits h
      have hc : digit x = true := by have := hd.1; simp at this; exact this.1
      have hne := digit_ne hc
      have hv : intVal (x :: u) = (natVal (x :: u) : Int) := by
        unfold intVal; split
        · rename_i e; exact absurd (List.cons.inj e).1 hx
        · rfl
      have hx1 : ¬ x.toNat = 43 := fun e => hne.1 (.inl e)
      simp only [Go.Lib.parseIntB, hx1, hne.2, or_self, if_false, false_and, not_false_eq_true, true_and]
      rw [parseUintB_dec h, hv]
      by_cases h1 : natVal (x :: u) ≤ 18446744073709551615
      · rw [if_pos h1]
        by_cases h2 : 2 ^ (64 - 1) ≤ natVal (x :: u)
        · simp only [h2, if_true]; rw [if_neg (by omega)]
        · simp only [h2, if_false]; rw [if_pos (by omega)]
      · rw [if_neg h1, if_neg (by omega)]

end Wd
