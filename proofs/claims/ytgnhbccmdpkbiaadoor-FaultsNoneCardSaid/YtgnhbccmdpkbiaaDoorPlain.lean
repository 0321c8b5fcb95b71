/-
  Plain functions and laws for layer 1 (words): names, decimal forms, quoted forms, fields, lines, list expressions; what the program computes, over lists of bytes, and that its ways there and back are inverse to each other. No program in this text.
-/
import Derived.Lib.AtoiAll
import Derived.Lib.ParseIntB
import Derived.Lib.ItoaNum
import Derived.Lib.SlTrimSet
import Derived.Lib.Strings
import Derived.Lib.Join
import Derived.Lib.Bytealg
import Derived.Lib.Split
import Derived.Lib.SplitLaws
namespace Wd

abbrev Str := List UInt8

def lower (c : UInt8) : Bool := 97 ≤ c && c ≤ 122
def digit (c : UInt8) : Bool := 48 ≤ c && c ≤ 57
def nameCh (c : UInt8) : Bool := lower c || digit c || c == 45
def name (s : Str) : Bool := match s with
  | [] => false
  | c :: _ => decide (s.length ≤ 16) && lower c && s.all nameCh

/-- A decimal form without a sign. -/
def natDec (s : Str) : Bool := match s with
  | [] => false
  | [c] => digit c
  | c :: t => digit c && c != 48 && t.all digit
/-- A decimal form. -/
def decimal (s : Str) : Bool := match s with
  | 45 :: c :: t => c != 48 && natDec (c :: t)
  | _ => natDec s

def natVal (s : Str) : Nat := s.foldl (fun a c => 10 * a + (c.toNat - 48)) 0
def intVal (s : Str) : Int := match s with
  | 45 :: t => -(natVal t : Int)
  | _ => natVal s

/-- The number and the error of words.Int. -/
def intOfStr (s : Str) (lo hi : Int) : Int × Int :=
  if decimal s then
    if -9223372036854775808 ≤ intVal s ∧ intVal s ≤ 9223372036854775807 ∧ lo ≤ intVal s ∧ intVal s ≤ hi then (intVal s, 0) else (0, 7)
  else (0, 6)

def plain (c : UInt8) : Bool := 32 ≤ c && c ≤ 126 && c != 34 && c != 92
def hexd (n : UInt8) : UInt8 := if n < 10 then 48 + n else 87 + n
def letter (c : UInt8) : UInt8 := if c == 34 then 34 else if c == 92 then 92 else if c == 10 then 110 else if c == 13 then 114 else if c == 9 then 116 else 0
def esc (c : UInt8) : Str :=
  if plain c then [c] else if letter c != 0 then [92, letter c] else [92, 120, hexd (c / 16), hexd (c % 16)]
def quote (s : Str) : Str := 34 :: (s.flatMap esc ++ [34])

def hexv (c : UInt8) : Option UInt8 := if 48 ≤ c ∧ c ≤ 57 then some (c - 48) else if 97 ≤ c ∧ c ≤ 102 then some (c - 87) else none
def unletter (c : UInt8) : Option UInt8 := if c == 34 then some 34 else if c == 92 then some 92 else if c == 110 then some 10 else if c == 114 then some 13 else if c == 116 then some 9 else none
/-- What stands behind a backslash: the byte, and how many bytes. -/
def unesc (s : Str) : Option (UInt8 × Nat) := match s with
  | [] => none
  | l :: t => match unletter l with
    | some c => some (c, 1)
    | none => if l == 120 then match t with
        | h :: k :: _ => match hexv h, hexv k with
          | some a, some b => if plain (a * 16 + b) || letter (a * 16 + b) != 0 then none else some (a * 16 + b, 3)
          | _, _ => none
        | _ => none
      else none

/-- The bytes between quotes, and what is left behind the closing one (fuel: the length). -/
def unqF : Nat → Str → Option (Str × Str)
  | 0, _ => none
  | _ + 1, [] => none
  | n + 1, c :: t =>
    if c == 34 then some ([], t)
    else if c == 92 then match unesc t with
      | none => none
      | some (x, k) => (unqF n (t.drop k)).map fun r => (x :: r.1, r.2)
    else if plain c then (unqF n t).map fun r => (c :: r.1, r.2)
    else none
/-- A quoted form at the beginning: the string and the rest. -/
def unq (s : Str) : Option (Str × Str) := match s with
  | 34 :: t => unqF (t.length + 1) t
  | _ => none
def unquote (s : Str) : Option Str := match unq s with
  | some (t, []) => some t
  | _ => none

/-! ### Digits of names -/
theorem u8le (a b : UInt8) : (a ≤ b) ↔ a.toNat ≤ b.toNat := UInt8.le_iff_toNat_le

def hyph : Str := [97,98,99,100,101,102,103,104,105,106,107,108,109,110,111,112,113,114,115,116,117,118,119,120,121,122,48,49,50,51,52,53,54,55,56,57,45]
def digs : Str := [48,49,50,51,52,53,54,55,56,57]
theorem hyph_contains : ∀ c : UInt8, hyph.contains c = nameCh c := by
  have h : ∀ i : Fin 256, hyph.contains (UInt8.ofNat i.val) = nameCh (UInt8.ofNat i.val) := by decide +kernel
  intro c
  have := h ⟨c.toNat, c.toNat_lt⟩
  simpa using this
theorem digs_contains : ∀ c : UInt8, digs.contains c = digit c := by
  have h : ∀ i : Fin 256, digs.contains (UInt8.ofNat i.val) = digit (UInt8.ofNat i.val) := by decide +kernel
  intro c
  have := h ⟨c.toNat, c.toNat_lt⟩
  simpa using this
theorem dropWhile_nil_iff (l : Str) (p : UInt8 → Bool) : l.dropWhile p = [] ↔ l.all p = true := by
  induction l with
  | nil => simp
  | cons c t ih => by_cases h : p c <;> simp [List.dropWhile, h] <;> simpa using ih
theorem trimS_nil_iff (l cs : Str) : Go.Lib.trimS l cs = [] ↔ l.all (cs.contains ·) = true := by
  unfold Go.Lib.trimS Go.Lib.trimLeftS Go.Lib.trimRightS
  rw [dropWhile_nil_iff]
  constructor
  · intro h
    have hs : ∀ (m : Str) (p : UInt8 → Bool), (m.dropWhile p).all p = true → m.all p = true := by
      intro m p
      induction m with
      | nil => simp
      | cons c t ih =>
        intro hm
        by_cases hc : p c
        · simp only [List.dropWhile, hc] at hm
          simp [hc]; simpa using ih hm
        · simp [List.dropWhile, hc] at hm
    rw [List.all_reverse] at h
    have := hs _ _ h
    rwa [List.all_reverse] at this
  · intro h
    rw [List.all_reverse]
    have : l.reverse.dropWhile (cs.contains ·) = [] := (dropWhile_nil_iff _ _).2 (by rw [List.all_reverse]; exact h)
    rw [this]; rfl
theorem trim_name (l : Str) : (Go.Lib.trimS l hyph == []) = l.all nameCh := by
  rw [Bool.eq_iff_iff, beq_iff_eq, trimS_nil_iff]
  simp only [hyph_contains]
theorem trim_digs (l : Str) : (Go.Lib.trimS l digs == []) = l.all digit := by
  rw [Bool.eq_iff_iff, beq_iff_eq, trimS_nil_iff]
  simp only [digs_contains]

theorem natDec_eq (l : Str) : natDec l = (!l.isEmpty && !(decide (1 < l.length) && l.head? == some 48) && l.all digit) := by
  match l with
  | [] => rfl
  | [c] => simp [natDec]
  | c :: d :: t =>
    simp only [natDec, List.isEmpty_cons, Bool.not_false, Bool.true_and, List.length_cons, List.head?_cons, List.all_cons]
    have h1 : decide (1 < t.length + 1 + 1) = true := by simp
    rw [h1, Bool.true_and]
    by_cases h : c = 48
    · subst h; simp
    · have e : (some c == some 48) = false := by simpa using h
      have e2 : (c != 48) = true := by simpa using h
      rw [e, e2]; simp
theorem decimal_neg {c : UInt8} {t : Str} (h : c ≠ 48) : decimal (45 :: c :: t) = natDec (c :: t) := by
  simp [decimal, h]
theorem decimal_pos {l : Str} (h : ∀ c t, l = 45 :: c :: t → c = 48) : decimal l = natDec l := by
  unfold decimal
  split
  · rename_i c t
    have := h c t rfl
    subst this
    simp [natDec, digit]
  · rfl
theorem name_empty {l : Str} (h : l.length < 1) : name l = false := by
  have : l = [] := List.eq_nil_of_length_eq_zero (by omega)
  subst this; rfl
theorem name_long {l : Str} (h : 16 < l.length) : name l = false := by
  match l, h with
  | c :: t, h =>
    have : decide ((c :: t).length ≤ 16) = false := decide_eq_false (by omega)
    simp only [name, this, Bool.false_and]
theorem name_head {c : UInt8} {t : Str} (h : lower c = false) : name (c :: t) = false := by simp [name, h]
theorem name_all {c : UInt8} {t : Str} (h : lower c = true) (hl : (c :: t).length ≤ 16) : name (c :: t) = (c :: t).all nameCh := by
  have : decide ((c :: t).length ≤ 16) = true := decide_eq_true hl
  simp only [name, this, h, Bool.true_and]

/-! ### isDecimal of words; the number -/
theorem isDec_nil {s : Str} (h : Go.Lib.trimPrefix s [45] = []) : decimal s = false := by
  match s with
  | [] => rfl
  | [c] =>
    by_cases hc : c = 45
    · subst hc; rfl
    · simp [Go.Lib.trimPrefix, Go.Lib.hasPrefix, List.isPrefixOf, beq_eq_false_iff_ne.2 (Ne.symm hc)] at h
  | c :: d :: t =>
    by_cases hc : c = 45
    · subst hc; simp [Go.Lib.trimPrefix, Go.Lib.hasPrefix, List.isPrefixOf] at h
    · simp [Go.Lib.trimPrefix, Go.Lib.hasPrefix, List.isPrefixOf, beq_eq_false_iff_ne.2 (Ne.symm hc)] at h
theorem trimPrefix_neg (t : Str) : Go.Lib.trimPrefix (45 :: t) [45] = t := by simp [Go.Lib.trimPrefix, Go.Lib.hasPrefix, List.isPrefixOf]
theorem trimPrefix_pos {c : UInt8} (t : Str) (hc : c ≠ 45) : Go.Lib.trimPrefix (c :: t) [45] = c :: t := by
  simp [Go.Lib.trimPrefix, Go.Lib.hasPrefix, List.isPrefixOf, beq_eq_false_iff_ne.2 (Ne.symm hc)]
theorem natDec_of_digits {c : UInt8} {t : Str} (h : (c :: t).all digit = true) : natDec (c :: t) = (c != 48 || t == []) := by
  rw [natDec_eq, h]
  cases t with
  | nil => simp
  | cons d t =>
    by_cases hc : c = 48
    · subst hc; simp
    · have e : (some c == some 48) = false := by simpa using hc
      have e2 : (c != 48) = true := by simpa using hc
      simp [e, e2]
theorem natDec_not {l : Str} (h : l.all digit = false) : natDec l = false := by rw [natDec_eq, h]; simp
theorem isDec_not {s : Str} (h : (Go.Lib.trimPrefix s [45]).all digit = false) : decimal s = false := by
  match s with
  | [] => rfl
  | c :: t =>
    by_cases hc : c = 45
    · subst hc
      rw [trimPrefix_neg] at h
      match t with
      | [] => rfl
      | d :: t => simp [decimal, natDec_not h]
    · rw [trimPrefix_pos t hc] at h
      rw [decimal_pos (fun a b e => absurd (List.cons.inj e).1 hc), natDec_not h]
theorem isDec_all {s : Str} {c : UInt8} {t : Str} (h : Go.Lib.trimPrefix s [45] = c :: t) (ha : (c :: t).all digit = true) : decimal s = (c != 48 || s == [48]) := by
  match s with
  | [] => simp [Go.Lib.trimPrefix, Go.Lib.hasPrefix] at h
  | x :: u =>
    by_cases hx : x = 45
    · subst hx
      rw [trimPrefix_neg] at h
      subst h
      have e : ((45 : UInt8) :: c :: t == [48]) = false := by simp
      rw [e, Bool.or_false]
      simp only [decimal, natDec_of_digits ha]
      cases hc : (c != 48) <;> simp
    · rw [trimPrefix_pos u hx] at h
      obtain ⟨rfl, rfl⟩ := List.cons.inj h
      rw [decimal_pos (fun a b e => absurd (List.cons.inj e).1 hx), natDec_of_digits ha]
      by_cases hc : x = 48
      · subst hc; simp
      · have e2 : (x != 48) = true := by simpa using hc
        simp [e2]

def val (acc : Nat) (l : Str) : Nat := l.foldl (fun a c => 10 * a + (c.toNat - 48)) acc
theorem val_ge (l : Str) : ∀ acc, acc ≤ val acc l := by
  induction l with
  | nil => intro acc; exact Nat.le_refl _
  | cons c t ih => intro acc; have := ih (10 * acc + (c.toNat - 48)); simp only [val, List.foldl_cons] at this ⊢; omega
theorem digit_nat {c : UInt8} (h : digit c = true) : 48 ≤ c.toNat ∧ c.toNat ≤ 57 := by
  simpa [digit, UInt8.le_iff_toNat_le] using h
theorem parseUintM_digits (l : Str) : ∀ acc, acc ≤ 18446744073709551615 → l.all digit = true →
    Go.Lib.parseUintM 18446744073709551615 acc l = if val acc l ≤ 18446744073709551615 then Go.Lib.NumEnd.ok (val acc l) else .range := by
  induction l with
  | nil =>
    intro acc ha _
    have hv : val acc [] = acc := rfl
    rw [hv, if_pos ha]; rfl
  | cons c t ih =>
    intro acc ha h
    simp only [List.all_cons, Bool.and_eq_true] at h
    obtain ⟨hc, ht⟩ := h
    have hd := digit_nat hc
    have hv : val acc (c :: t) = val (10 * acc + (c.toNat - 48)) t := rfl
    rw [hv]
    simp only [Go.Lib.parseUintM, hd, and_self, if_true]
    have e : acc * 10 + (c.toNat - 48) = 10 * acc + (c.toNat - 48) := by omega
    rw [e]
    have hge := val_ge t (10 * acc + (c.toNat - 48))
    by_cases h1 : 1844674407370955162 ≤ acc
    · rw [if_pos h1, if_neg (by omega)]
    · rw [if_neg h1]
      by_cases h2 : 18446744073709551615 < 10 * acc + (c.toNat - 48)
      · rw [if_pos h2, if_neg (by omega)]
      · rw [if_neg h2, ih _ (by omega) ht]
theorem natDec_digits {l : Str} (h : natDec l = true) : l.all digit = true ∧ l ≠ [] := by
  rw [natDec_eq] at h; simp at h
  exact ⟨by simpa using h.2, by intro e; subst e; simp at h⟩
theorem natVal_eq (l : Str) : natVal l = val 0 l := rfl
theorem parseUintB_dec {l : Str} (h : natDec l = true) : Go.Lib.parseUintB 64 l = if natVal l ≤ 18446744073709551615 then .ok (natVal l) else .range := by
  obtain ⟨h1, h2⟩ := natDec_digits h
  unfold Go.Lib.parseUintB
  rw [if_neg h2, show 2 ^ 64 - 1 = 18446744073709551615 from rfl, parseUintM_digits _ _ (by omega) h1]
  rfl
theorem digit_ne {c : UInt8} (h : digit c = true) : ¬ (c.toNat = 43 ∨ c.toNat = 45) ∧ c.toNat ≠ 45 := by
  have := digit_nat h; omega
theorem parseIntB_dec {s : Str} (h : decimal s = true) :
    Go.Lib.parseIntB 64 s = if -9223372036854775808 ≤ intVal s ∧ intVal s ≤ 9223372036854775807 then .ok (intVal s) else .range := by
  match s with
  | [] => simp [decimal, natDec] at h
  | x :: u =>
    by_cases hx : x = 45
    · subst hx
      match u with
      | [] => simp [decimal, natDec, digit] at h
      | c :: t =>
        have hn : natDec (c :: t) = true := by simp [decimal] at h; exact h.2
        simp only [Go.Lib.parseIntB, show (45 : UInt8).toNat = 45 from rfl, or_true, if_true, not_true_eq_false, false_and, if_false, true_and]
        rw [parseUintB_dec hn]
        simp only [intVal]
        by_cases h1 : natVal (c :: t) ≤ 18446744073709551615
        · rw [if_pos h1]
          by_cases h2 : 2 ^ (64 - 1) < natVal (c :: t)
          · simp only [h2, if_true]; rw [if_neg (by omega)]
          · simp only [h2, if_false]; rw [if_pos (by omega)]
        · rw [if_neg h1, if_neg (by omega)]
    · rw [decimal_pos (fun a b e => absurd (List.cons.inj e).1 hx)] at h
      have hd := natDec_digits h
      have hc : digit x = true := by have := hd.1; simp at this; exact this.1
      have hne := digit_ne hc
      have hv : intVal (x :: u) = (natVal (x :: u) : Int) := by
        unfold intVal; split
        · rename_i e; exact absurd (List.cons.inj e).1 hx
        · rfl
      have hx1 : ¬ x.toNat = 43 := fun e => hne.1 (.inl e)
      simp only [Go.Lib.parseIntB, hx1, hne.2, or_self, if_false, false_and, not_false_eq_true, true_and]
      rw [parseUintB_dec h, hv]
      by_cases h1 : natVal (x :: u) ≤ 18446744073709551615
      · rw [if_pos h1]
        by_cases h2 : 2 ^ (64 - 1) ≤ natVal (x :: u)
        · simp only [h2, if_true]; rw [if_neg (by omega)]
        · simp only [h2, if_false]; rw [if_pos (by omega)]
      · rw [if_neg h1, if_neg (by omega)]

end Wd

namespace Wd

abbrev Fld := Str × Bool

def bareCh (c : UInt8) : Bool := plain c && c != 32
def bare (s : Str) : Bool := s.all bareCh && !s.isEmpty

/-- A field at the beginning of a string and what is left behind it. -/
def field1 (s : Str) : Option (Fld × Str) :=
  match unq s with
  | some (t, r) => some ((t, true), r)
  | none => if bare (s.takeWhile (· != 32)) then some ((s.takeWhile (· != 32), false), s.dropWhile (· != 32)) else none

/-- The fields of a line that is not empty (fuel: its length and one). -/
def fieldsF : Nat → Str → Option (List Fld)
  | 0, _ => none
  | n + 1, s => match field1 s with
    | none => none
    | some (f, r) => match r with
      | [] => some [f]
      | c :: r' => if c == 32 then (fieldsF n r').map (f :: ·) else none
def fields (s : Str) : Option (List Fld) := fieldsF (s.length + 1) s

/-- words.Split: the error number; the fields. -/
def split (s : Str) : List Fld × Int :=
  if 8192 < s.length then ([], 3)
  else if s = [] then ([], 0)
  else match fields s with
    | none => ([], 6)
    | some l => if l.any (fun f => 2000 < f.1.length) || 64 < l.length then ([], 3) else (l, 0)

def word (f : Fld) : Str := if f.2 then quote f.1 else f.1
def okFld (f : Fld) : Bool := f.2 || bare f.1
/-- words.Join. -/
def join (l : List Fld) : Str × Int :=
  if 64 < l.length then ([], 3)
  else if l.any (fun f => 2000 < f.1.length) then ([], 3)
  else if !l.all okFld then ([], 6)
  else if 8192 < (Go.Lib.join (l.map word) [32]).length then ([], 3)
  else (Go.Lib.join (l.map word) [32], 0)

/-- A string cut at each place of a byte: the pieces. -/
def cutAt (c : UInt8) : Str → List Str
  | [] => [[]]
  | x :: t => if x == c then [] :: cutAt c t else match cutAt c t with
    | [] => [[x]]
    | p :: r => (x :: p) :: r

/-- words.Lines. -/
def lines (s : Str) : List Str × Int :=
  if 1048576 < s.length then ([], 3)
  else if s = [] then ([], 0)
  else if s.getLast? ≠ some 10 then ([], 6)
  else if 5000 < (cutAt 10 s.dropLast).length then ([], 3)
  else (cutAt 10 s.dropLast, 0)
end Wd

namespace Wd

def pv (l : Str) : Nat := val 0 (l.filter (· != 45))
theorem val_snoc (l : Str) (c : UInt8) (acc : Nat) : val acc (l ++ [c]) = 10 * val acc l + (c.toNat - 48) := by simp [val]
theorem pv_snoc_minus (l : Str) : pv (l ++ [45]) = pv l := by simp [pv, List.filter_append]
theorem pv_snoc {l : Str} {c : UInt8} (h : c ≠ 45) : pv (l ++ [c]) = 10 * pv l + (c.toNat - 48) := by
  have : (c != 45) = true := by simpa using h
  simp [pv, List.filter_append, List.filter, this, val_snoc]
theorem val_append (a b : Str) (acc : Nat) : val acc (a ++ b) = val (val acc a) b := by simp [val]
theorem pv_take_le (l : Str) (k : Nat) : pv (l.take k) ≤ pv l := by
  have h : pv l = val (pv (l.take k)) ((l.drop k).filter (· != 45)) := by
    conv => lhs; rw [← List.take_append_drop k l]
    rw [pv, List.filter_append, val_append]; rfl
  rw [h]; exact val_ge _ _
theorem filter_digits {l : Str} (h : l.all digit = true) : l.filter (· != 45) = l := by
  rw [List.filter_eq_self]
  intro c hc
  have := List.all_eq_true.1 h c hc
  have := digit_ne this
  simp; intro e; subst e; simp at this
theorem int_pv {s : Str} (h : decimal s = true) : (∀ c ∈ s, c = 45 ∨ digit c = true) ∧ s ≠ [] ∧
    (s.head? = some 45 → intVal s = -(pv s : Int)) ∧ (s.head? ≠ some 45 → intVal s = (pv s : Int)) := by
  match s with
  | [] => simp [decimal, natDec] at h
  | x :: u =>
    by_cases hx : x = 45
    · subst hx
      match u with
      | [] => simp [decimal, natDec, digit] at h
      | c :: t =>
        have hn : natDec (c :: t) = true := by simp [decimal] at h; exact h.2
        have hd := (natDec_digits hn).1
        have hf := filter_digits hd
        refine ⟨?_, by simp, ?_, by simp⟩
        · intro y hy
          rcases List.mem_cons.1 hy with h1 | h1
          · exact .inl h1
          · exact .inr (List.all_eq_true.1 hd y h1)
        · intro _
          have e : (45 :: c :: t).filter (· != 45) = c :: t := by
            rw [List.filter_cons]; simp only [bne_self_eq_false]; exact hf
          simp only [intVal, pv, e, natVal_eq]
    · rw [decimal_pos (fun a b e => absurd (List.cons.inj e).1 hx)] at h
      have hd := (natDec_digits h).1
      have hf := filter_digits hd
      refine ⟨fun y hy => .inr (List.all_eq_true.1 hd y hy), by simp, ?_, ?_⟩
      · intro e; simp at e; exact absurd e hx
      · intro _
        have hv : intVal (x :: u) = (natVal (x :: u) : Int) := by
          unfold intVal; split
          · rename_i e; exact absurd (List.cons.inj e).1 hx
          · rfl
        rw [hv, pv, hf, natVal_eq]

/-! ### itoa as the reference builds it -/
theorem itoa_big (n : Int) (h : 9 < n ∨ n < -9) : Go.Lib.itoa n = Go.Lib.itoa (n.tdiv 10) ++ [UInt8.ofNat (48 + n.natAbs % 10)] := by
  have hq : (n.tdiv 10).natAbs = n.natAbs / 10 := by
    rw [Int.natAbs_tdiv]; rfl
  have hd : Go.Lib.decDigits n.natAbs = Go.Lib.decDigits (n.natAbs / 10) ++ [UInt8.ofNat (48 + n.natAbs % 10)] := by
    rw [Go.Lib.decDigits, dif_neg (by omega)]
  unfold Go.Lib.itoa
  rcases h with h | h
  · have h1 : ¬ n < 0 := by omega
    have e : n.tdiv 10 = n / 10 := Int.tdiv_eq_ediv_of_nonneg (by omega)
    have h2 : ¬ n.tdiv 10 < 0 := by rw [e]; omega
    rw [if_neg h1, if_neg h2]
    have e1 : n.toNat = n.natAbs := by omega
    have e2 : (n.tdiv 10).toNat = (n.tdiv 10).natAbs := by omega
    rw [e1, e2, hq, hd]
  · have h1 : n < 0 := by omega
    have h2 : n.tdiv 10 < 0 := by
      have e : n.tdiv 10 = -((-n).tdiv 10) := by rw [Int.neg_tdiv]; omega
      have e2 : (-n).tdiv 10 = (-n) / 10 := Int.tdiv_eq_ediv_of_nonneg (by omega)
      rw [e, e2]; omega
    rw [if_pos h1, if_pos h2, hq, hd]; rfl
theorem itoa_neg (n : Int) (h : n < 0) : Go.Lib.itoa n = 45 :: Go.Lib.itoa (-n) := by
  unfold Go.Lib.itoa
  rw [if_pos h, if_neg (by omega)]
  have : n.natAbs = (-n).toNat := by omega
  rw [this]
theorem itoa_one (n : Int) (h : 0 ≤ n) (h9 : n ≤ 9) : Go.Lib.itoa n = [UInt8.ofNat (48 + n.toNat)] := by
  unfold Go.Lib.itoa
  rw [if_neg (by omega), Go.Lib.decDigits, dif_pos (by omega)]
end Wd

namespace Wd

def unescV (s : Str) : UInt8 × Nat := (unesc s).getD (0, 0)

theorem unletter_none {l : UInt8} (h : l ≠ 34 ∧ l ≠ 92 ∧ l ≠ 110 ∧ l ≠ 114 ∧ l ≠ 116) : unletter l = none := by
  obtain ⟨h1, h2, h3, h4, h5⟩ := h
  simp [unletter, h1, h2, h3, h4, h5]
theorem unesc_letter {l c : UInt8} {t : Str} (h : unletter l = some c) : unescV (l :: t) = (c, 1) := by simp [unescV, unesc, h]
theorem unesc_nox {l : UInt8} {t : Str} (h : unletter l = none) (hx : l ≠ 120) : unescV (l :: t) = (0, 0) := by simp [unescV, unesc, h, hx]
theorem unesc_short {t : Str} (h : t.length < 2) : unescV (120 :: t) = (0, 0) := by
  match t, h with
  | [], _ => rfl
  | [x], _ => rfl
theorem unesc_hex {h k : UInt8} {t : Str} : unescV (120 :: h :: k :: t) = (match hexv h, hexv k with
    | some a, some b => if plain (a * 16 + b) || letter (a * 16 + b) != 0 then (0, 0) else (a * 16 + b, 3)
    | _, _ => (0, 0)) := by
  have e : unletter 120 = none := by decide
  simp only [unescV, unesc, e]
  cases hexv h with
  | none => rfl
  | some a =>
    cases hexv k with
    | none => rfl
    | some b => simp only [beq_self_eq_true, if_true]; split <;> rfl

def hexs : Str := [48, 49, 50, 51, 52, 53, 54, 55, 56, 57, 97, 98, 99, 100, 101, 102]
def ixOk (c : UInt8) : Bool := match hexv c with
  | some a => Go.Lib.indexByte hexs c == (a.toNat : Int) && decide (a.toNat < 16)
  | none => Go.Lib.indexByte hexs c == -1
theorem ix_fin : ∀ i : Fin 256, ixOk (UInt8.ofNat i.val) = true := by decide +kernel
theorem ix_all (c : UInt8) : ixOk c = true := by
  have := ix_fin ⟨c.toNat, c.toNat_lt⟩
  simpa using this
theorem ix_some {c a : UInt8} (h : hexv c = some a) : Go.Lib.indexByte hexs c = (a.toNat : Int) ∧ a.toNat < 16 := by
  have := ix_all c
  simp only [ixOk, h, Bool.and_eq_true, beq_iff_eq, decide_eq_true_eq] at this
  exact this
theorem ix_none {c : UInt8} (h : hexv c = none) : Go.Lib.indexByte hexs c = -1 := by
  have := ix_all c
  simp only [ixOk, h, beq_iff_eq] at this
  exact this
end Wd

namespace Wd

def U (l : Str) : Option (Str × Str) := unqF (l.length + 1) l
theorem unqF_fuel : ∀ (n m : Nat) (l : Str), l.length < n → l.length < m → unqF n l = unqF m l
  | 0, _, _, h, _ => absurd h (Nat.not_lt_zero _)
  | _ + 1, 0, _, _, h => absurd h (Nat.not_lt_zero _)
  | n + 1, m + 1, [], _, _ => rfl
  | n + 1, m + 1, c :: t, h1, h2 => by
    simp only [List.length_cons] at h1 h2
    have ih : ∀ u : Str, u.length ≤ t.length → unqF n u = unqF m u := fun u hu => unqF_fuel n m u (by omega) (by omega)
    simp only [unqF]
    split
    · rfl
    · split
      · cases hu : unesc t with
        | none => rfl
        | some p => simp only [ih (t.drop p.2) (by rw [List.length_drop]; omega)]
      · simp only [ih t (Nat.le_refl _)]
theorem U_nil : U [] = none := rfl
theorem U_quote (t : Str) : U (34 :: t) = some ([], t) := rfl
theorem U_back (t : Str) : U (92 :: t) = match unesc t with
    | none => none
    | some (x, k) => (U (t.drop k)).map fun r => (x :: r.1, r.2) := by
  unfold U
  simp only [List.length_cons, unqF]
  cases hu : unesc t with
  | none => rfl
  | some p =>
    have e : unqF (t.length + 1) (t.drop p.2) = unqF ((t.drop p.2).length + 1) (t.drop p.2) := unqF_fuel _ _ _ (by rw [List.length_drop]; omega) (by omega)
    simp only [e]; rfl
theorem U_plain {c : UInt8} (t : Str) (h : plain c = true) (h1 : c ≠ 34) (h2 : c ≠ 92) : U (c :: t) = (U t).map fun r => (c :: r.1, r.2) := by
  unfold U
  simp only [List.length_cons, unqF]
  simp [h, h1, h2]
theorem U_bad {c : UInt8} (t : Str) (h : plain c = false) (h1 : c ≠ 34) (h2 : c ≠ 92) : U (c :: t) = none := by
  unfold U
  simp only [List.length_cons, unqF]
  simp [h, h1, h2]
theorem unq_U (t : Str) : unq (34 :: t) = U t := rfl
theorem unq_no {l : Str} (h : l.head? ≠ some 34) : unq l = none := by
  unfold unq; split
  · simp at h
  · rfl
theorem unletter_pos {l c : UInt8} {t : Str} (h : unletter l = some c) : unesc (l :: t) = some (c, 1) := by simp [unesc, h]
theorem unesc_le {l : Str} {x : UInt8} {k : Nat} (h : unesc l = some (x, k)) : 1 ≤ k ∧ k ≤ l.length := by
  match l, h with
  | l :: t, h =>
    simp only [unesc] at h
    cases hu : unletter l with
    | some c =>
      rw [hu] at h; simp at h
      obtain ⟨_, rfl⟩ := h; simp
    | none =>
      rw [hu] at h
      simp only at h
      split at h
      · match t, h with
        | a :: b :: u, h =>
          simp only at h
          cases ha : hexv a with
          | none => rw [ha] at h; simp at h
          | some a' =>
            cases hb : hexv b with
            | none => rw [ha, hb] at h; simp at h
            | some b' =>
              rw [ha, hb] at h
              simp only at h
              split at h
              · cases h
              · simp at h; obtain ⟨_, rfl⟩ := h; simp
      · cases h
theorem unescV_some {l : Str} (h : (unescV l).2 ≠ 0) : unesc l = some (unescV l) := by
  unfold unescV at h ⊢
  cases hu : unesc l with
  | none => rw [hu] at h; simp at h
  | some p => rfl
theorem unescV_none {l : Str} (h : (unescV l).2 = 0) : unesc l = none := by
  unfold unescV at h
  cases hu : unesc l with
  | none => rfl
  | some p =>
    rw [hu] at h; simp at h
    have := (unesc_le (x := p.1) (k := p.2) hu).1; omega
end Wd

namespace Wd

theorem U_rest : ∀ (n : Nat) (l t r : Str), l.length ≤ n → U l = some (t, r) → r.length < l.length
  | 0, l, t, r, hl, h => by
    have : l = [] := List.eq_nil_of_length_eq_zero (by omega)
    subst this; cases h
  | n + 1, [], t, r, hl, h => by cases h
  | n + 1, c :: u, t, r, hl, h => by
    simp only [List.length_cons] at hl ⊢
    by_cases h1 : c = 34
    · subst h1
      rw [U_quote] at h; simp at h
      rw [h.2]; omega
    by_cases h2 : c = 92
    · subst h2
      rw [U_back] at h
      cases hu : unesc u with
      | none => rw [hu] at h; cases h
      | some p =>
        obtain ⟨x, k⟩ := p
        rw [hu] at h
        simp only [Option.map_eq_some_iff] at h
        obtain ⟨⟨t', r'⟩, hU, he⟩ := h
        simp at he
        obtain ⟨_, rfl⟩ := he
        have := U_rest n (u.drop k) t' r' (by rw [List.length_drop]; omega) hU
        rw [List.length_drop] at this; omega
    · cases hp : plain c
      · rw [U_bad u hp h1 h2] at h; cases h
      · rw [U_plain u hp h1 h2] at h
        simp only [Option.map_eq_some_iff] at h
        obtain ⟨⟨t', r'⟩, hU, he⟩ := h
        simp at he
        obtain ⟨_, rfl⟩ := he
        have := U_rest n u t' r' (by omega) hU
        omega
theorem unq_rest {l t r : Str} (h : unq l = some (t, r)) : r.length < l.length := by
  unfold unq at h
  split at h
  · rename_i u
    have := U_rest u.length u t r (Nat.le_refl _) h
    simp; omega
  · cases h

/-! ### The form of each byte at the beginning of a string, as the reference looks for it -/
theorem esc_plain' {c : UInt8} (h : plain c = true) : esc c = [c] := by unfold esc; rw [h]; rfl
def escOk (c : UInt8) : Bool :=
  if plain c then decide (esc c = [c]) && c != 34 && c != 92
  else if letter c != 0 then decide (esc c = [92, letter c]) && unletter (letter c) == some c
  else decide (esc c = [92, 120, hexd (c / 16), hexd (c % 16)]) && hexv (hexd (c / 16)) == some (c / 16) && hexv (hexd (c % 16)) == some (c % 16) && (c / 16 * 16 + c % 16 == c)
theorem escOk_fin : ∀ i : Fin 256, escOk (UInt8.ofNat i.val) = true := by decide +kernel
theorem escOk_all (c : UInt8) : escOk c = true := by
  have := escOk_fin ⟨c.toNat, c.toNat_lt⟩
  simpa using this
def unlOk (l : UInt8) : Bool := match unletter l with
  | some c => !plain c && letter c == l && l != 0 && l != 120
  | none => true
theorem unlOk_fin : ∀ i : Fin 256, unlOk (UInt8.ofNat i.val) = true := by decide +kernel
theorem unlOk_all (c : UInt8) : unlOk c = true := by
  have := unlOk_fin ⟨c.toNat, c.toNat_lt⟩
  simpa using this
def hexOk (h : UInt8) : Bool := match hexv h with
  | some a => decide (a.toNat < 16) && hexd a == h
  | none => true
theorem hexOk_fin : ∀ i : Fin 256, hexOk (UInt8.ofNat i.val) = true := by decide +kernel
theorem hexOk_all (c : UInt8) : hexOk c = true := by
  have := hexOk_fin ⟨c.toNat, c.toNat_lt⟩
  simpa using this

/-- One step of the reading: the byte and the length of its form. -/
def step1 (l : Str) : Option (UInt8 × Nat) := match l with
  | [] => none
  | c :: t => if c == 34 then none else if c == 92 then (unesc t).map fun p => (p.1, p.2 + 1) else if plain c then some (c, 1) else none
theorem U_step {l : Str} {x : UInt8} {k : Nat} (h : step1 l = some (x, k)) : U l = (U (l.drop k)).map fun r => (x :: r.1, r.2) := by
  match l, h with
  | c :: t, h =>
    simp only [step1] at h
    split at h
    · cases h
    · rename_i h1
      split at h
      · rename_i h2
        have h2' : c = 92 := by simpa using h2
        subst h2'
        cases hu : unesc t with
        | none => rw [hu] at h; cases h
        | some p =>
          rw [hu] at h
          simp at h
          obtain ⟨rfl, rfl⟩ := h
          rw [U_back, hu]; simp
      · rename_i h2
        split at h
        · rename_i hp
          simp at h
          obtain ⟨rfl, rfl⟩ := h
          rw [U_plain t hp (by simpa using h1) (by simpa using h2)]; simp
        · cases h
theorem U_stop {c : UInt8} {t : Str} (h : step1 (c :: t) = none) (hc : c ≠ 34) : U (c :: t) = none := by
  simp only [step1] at h
  split at h
  · rename_i h1; exact absurd (by simpa using h1) hc
  · split at h
    · rename_i h2
      have h2' : c = 92 := by simpa using h2
      subst h2'
      cases hu : unesc t with
      | none => rw [U_back, hu]
      | some p => rw [hu] at h; cases h
    · rename_i h1 h2
      split at h
      · cases h
      · rename_i hp
        exact U_bad t (by simpa using hp) hc (by simpa using h2)
/-- The reference's step: a byte whose form stands at the beginning. -/
theorem step1_of_prefix {l : Str} {c : UInt8} (h : esc c <+: l) : step1 l = some (c, (esc c).length) := by
  have ho := escOk_all c
  obtain ⟨r, rfl⟩ := h
  unfold escOk at ho
  split at ho
  · rename_i hp
    simp only [Bool.and_eq_true, decide_eq_true_eq, bne_iff_ne] at ho
    obtain ⟨⟨e, h1⟩, h2⟩ := ho
    rw [e]
    simp [step1, h1, h2, hp]
  · split at ho
    · simp only [Bool.and_eq_true, decide_eq_true_eq, beq_iff_eq] at ho
      rw [ho.1]
      simp [step1, unesc, ho.2]
    · rename_i hp hl
      simp only [Bool.and_eq_true, decide_eq_true_eq, beq_iff_eq] at ho
      obtain ⟨⟨⟨e, h1⟩, h2⟩, h3⟩ := ho
      rw [e]
      have hu : unletter 120 = none := by decide
      simp only [step1, unesc, List.cons_append, List.nil_append, hu, h1, h2, h3]
      simp at hp hl
      simp [hp, hl]
theorem prefix_of_step1 {l : Str} {c : UInt8} {k : Nat} (h : step1 l = some (c, k)) : esc c <+: l ∧ k = (esc c).length := by
  have key : esc c <+: l := by
    match l, h with
    | a :: t, h =>
      simp only [step1] at h
      split at h
      · cases h
      · rename_i h1
        split at h
        · rename_i h2
          have h2' : a = 92 := by simpa using h2
          subst h2'
          simp only [Option.map_eq_some_iff] at h
          obtain ⟨⟨x, n⟩, hu, he⟩ := h
          simp at he
          obtain ⟨rfl, rfl⟩ := he
          match t, hu with
          | b :: u, hu =>
            simp only [unesc] at hu
            cases hul : unletter b with
            | some y =>
              rw [hul] at hu; simp at hu
              obtain ⟨rfl, _⟩ := hu
              have hk := unlOk_all b
              simp only [unlOk, hul, Bool.and_eq_true, beq_iff_eq, Bool.not_eq_true'] at hk
              obtain ⟨⟨⟨hp, hl⟩, h0⟩, _⟩ := hk
              have e : esc y = [92, b] := by unfold esc; rw [hp, hl, h0]; rfl
              rw [e]; exact ⟨u, rfl⟩
            | none =>
              rw [hul] at hu
              simp only at hu
              split at hu
              · rename_i hx
                have hx' : b = 120 := by simpa using hx
                subst hx'
                match u, hu with
                | p :: q :: v, hu =>
                  simp only at hu
                  cases ha : hexv p with
                  | none => rw [ha] at hu; simp at hu
                  | some a' =>
                    cases hb : hexv q with
                    | none => rw [ha, hb] at hu; simp at hu
                    | some b' =>
                      rw [ha, hb] at hu
                      simp only at hu
                      split at hu
                      · cases hu
                      · rename_i hno
                        simp at hu
                        obtain ⟨rfl, _⟩ := hu
                        have k1 := hexOk_all p
                        have k2 := hexOk_all q
                        simp only [hexOk, ha, hb, Bool.and_eq_true, decide_eq_true_eq, beq_iff_eq] at k1 k2
                        have d1 : (a' * 16 + b') / 16 = a' := by rw [← UInt8.toNat_inj]; simp; omega
                        have d2 : (a' * 16 + b') % 16 = b' := by rw [← UInt8.toNat_inj]; simp; omega
                        simp only [Bool.or_eq_true, not_or, Bool.not_eq_true] at hno
                        have e : esc (a' * 16 + b') = [92, 120, p, q] := by unfold esc; rw [hno.1, hno.2, d1, d2, k1.2, k2.2]; rfl
                        rw [e]; exact ⟨v, rfl⟩
              · cases hu
        · split at h
          · rename_i hp
            simp at h
            obtain ⟨rfl, _⟩ := h
            rw [esc_plain' hp]; exact ⟨t, rfl⟩
          · cases h
  refine ⟨key, ?_⟩
  have := step1_of_prefix key
  rw [h] at this
  simpa using this
end Wd

namespace Wd

theorem drop_of_suffix {l r : Str} (h : r <:+ l) : r = l.drop (l.length - r.length) := by
  obtain ⟨p, rfl⟩ := h
  simp
theorem U_suffix : ∀ (n : Nat) (l t r : Str), l.length ≤ n → U l = some (t, r) → r <:+ l
  | 0, l, t, r, hl, h => by
    have : l = [] := List.eq_nil_of_length_eq_zero (by omega)
    subst this; cases h
  | n + 1, [], t, r, hl, h => by cases h
  | n + 1, c :: u, t, r, hl, h => by
    simp only [List.length_cons] at hl
    by_cases h1 : c = 34
    · subst h1
      rw [U_quote] at h; simp at h
      rw [← h.2]; exact List.suffix_cons _ _
    by_cases h2 : c = 92
    · subst h2
      rw [U_back] at h
      cases hu : unesc u with
      | none => rw [hu] at h; cases h
      | some p =>
        obtain ⟨x, k⟩ := p
        rw [hu] at h
        simp only [Option.map_eq_some_iff] at h
        obtain ⟨⟨t', r'⟩, hU, he⟩ := h
        simp at he
        obtain ⟨_, rfl⟩ := he
        have := U_suffix n (u.drop k) t' r' (by rw [List.length_drop]; omega) hU
        exact (this.trans (List.drop_suffix _ _)).trans (List.suffix_cons _ _)
    · cases hp : plain c
      · rw [U_bad u hp h1 h2] at h; cases h
      · rw [U_plain u hp h1 h2] at h
        simp only [Option.map_eq_some_iff] at h
        obtain ⟨⟨t', r'⟩, hU, he⟩ := h
        simp at he
        obtain ⟨_, rfl⟩ := he
        exact (U_suffix n u t' r' (by omega) hU).trans (List.suffix_cons _ _)
theorem unq_suffix {l t r : Str} (h : unq l = some (t, r)) : r <:+ l := by
  unfold unq at h
  split at h
  · rename_i u
    exact (U_suffix u.length u t r (Nat.le_refl _) h).trans (List.suffix_cons _ _)
  · cases h

theorem dropWhile_drop (p : UInt8 → Bool) (l : Str) : l.dropWhile p = l.drop (l.takeWhile p).length := by
  induction l with
  | nil => rfl
  | cons c t ih => by_cases h : p c <;> simp [List.dropWhile, List.takeWhile, h, ih]
theorem takeWhile_take (p : UInt8 → Bool) (l : Str) : l.takeWhile p = l.take (l.takeWhile p).length := by
  induction l with
  | nil => rfl
  | cons c t ih =>
    by_cases h : p c
    · simp only [List.takeWhile, h, List.length_cons, List.take_succ_cons]
      rw [← ih]
    · simp [List.takeWhile, h]
/-- How far a bare word reaches. -/
def wlen (l : Str) : Nat := (l.takeWhile (· != 32)).length
theorem wlen_eq {l : Str} {n : Nat} (hn : n ≤ l.length) (h1 : ∀ j (hj : j < n), l[j]'(by omega) ≠ 32) (h2 : ∀ h : n < l.length, l[n] = 32) : wlen l = n := by
  unfold wlen
  induction l generalizing n with
  | nil => simp at hn; simp [hn]
  | cons c t ih =>
    cases n with
    | zero =>
      have := h2 (by simp)
      simp at this
      simp [List.takeWhile, this]
    | succ n =>
      have hc := h1 0 (by omega)
      simp at hc
      have e : (c != 32) = true := by simpa using hc
      simp only [List.takeWhile, e, List.length_cons]
      rw [ih (by simpa using hn) (fun j hj => by have := h1 (j + 1) (by omega); simpa using this) (fun h => by have := h2 (by simpa using h); simpa using this)]
theorem wlen_le (l : Str) : wlen l ≤ l.length := by
  unfold wlen; exact (List.takeWhile_prefix _).length_le
theorem field1_unq {l t r : Str} (h : unq l = some (t, r)) : field1 l = some ((t, true), r) := by unfold field1; rw [h]
theorem field1_bare {l : Str} (h : unq l = none) (hb : bare (l.take (wlen l)) = true) : field1 l = some ((l.take (wlen l), false), l.drop (wlen l)) := by
  unfold field1
  have e1 : l.takeWhile (· != 32) = l.take (wlen l) := takeWhile_take _ l
  have e2 : l.dropWhile (· != 32) = l.drop (wlen l) := dropWhile_drop _ l
  rw [h, e1, e2]
  simp only [hb, if_true]
theorem field1_no {l : Str} (h : unq l = none) (hb : bare (l.take (wlen l)) = false) : field1 l = none := by
  unfold field1
  have e1 : l.takeWhile (· != 32) = l.take (wlen l) := takeWhile_take _ l
  rw [h, e1]
  simp [hb]
theorem field1_lt {l : Str} {f : Fld} {r : Str} (h : field1 l = some (f, r)) : r.length < l.length := by
  cases hu : unq l with
  | some p =>
    obtain ⟨t, r'⟩ := p
    rw [field1_unq hu] at h
    simp at h
    obtain ⟨_, rfl⟩ := h
    exact unq_rest hu
  | none =>
    cases hb : bare (l.take (wlen l)) with
    | false => rw [field1_no hu hb] at h; cases h
    | true =>
      rw [field1_bare hu hb] at h
      simp at h
      obtain ⟨_, rfl⟩ := h
      rw [List.length_drop]
      have h0 : wlen l ≠ 0 := by intro e; rw [e] at hb; simp [bare] at hb
      have := wlen_le l
      omega
theorem field1_suffix {l : Str} {f : Fld} {r : Str} (h : field1 l = some (f, r)) : r <:+ l := by
  cases hu : unq l with
  | some p =>
    obtain ⟨t, r'⟩ := p
    rw [field1_unq hu] at h
    simp at h
    obtain ⟨_, rfl⟩ := h
    exact unq_suffix hu
  | none =>
    cases hb : bare (l.take (wlen l)) with
    | false => rw [field1_no hu hb] at h; cases h
    | true =>
      rw [field1_bare hu hb] at h
      simp at h
      obtain ⟨_, rfl⟩ := h
      exact List.drop_suffix _ _

def F (l : Str) : Option (List Fld) := fieldsF (l.length + 1) l
theorem fieldsF_fuel : ∀ (n m : Nat) (l : Str), l.length < n → l.length < m → fieldsF n l = fieldsF m l
  | 0, _, _, h, _ => absurd h (Nat.not_lt_zero _)
  | _ + 1, 0, _, _, h => absurd h (Nat.not_lt_zero _)
  | n + 1, m + 1, l, h1, h2 => by
    simp only [fieldsF]
    cases hf : field1 l with
    | none => rfl
    | some p =>
      obtain ⟨f, r⟩ := p
      have hlt := field1_lt hf
      cases r with
      | nil => rfl
      | cons c r' =>
        simp only [List.length_cons] at hlt
        simp only [fieldsF_fuel n m r' (by omega) (by omega)]
theorem F_none {l : Str} (h : field1 l = none) : F l = none := by simp [F, fieldsF, h]
theorem F_last {l : Str} {f : Fld} (h : field1 l = some (f, [])) : F l = some [f] := by simp [F, fieldsF, h]
theorem F_next {l : Str} {f : Fld} {r : Str} (h : field1 l = some (f, 32 :: r)) : F l = (F r).map (f :: ·) := by
  have hlt := field1_lt h
  simp only [List.length_cons] at hlt
  have e : fieldsF l.length r = fieldsF (r.length + 1) r := fieldsF_fuel _ _ _ (by omega) (by omega)
  simp only [F, fieldsF, h, beq_self_eq_true, if_true, e]
theorem F_bad {l : Str} {f : Fld} {c : UInt8} {r : Str} (h : field1 l = some (f, c :: r)) (hc : c ≠ 32) : F l = none := by
  simp [F, fieldsF, h, hc]
theorem fields_F (l : Str) : fields l = F l := rfl
end Wd

namespace Wd

/-- The maximal runs of a list of numbers. -/
def runs : List Int → List (Int × Int)
  | [] => []
  | x :: t => match runs t with
    | [] => [(x, x)]
    | (a, b) :: r => if a = x + 1 then (x, b) :: r else (x, x) :: (a, b) :: r
def runTxt (p : Int × Int) : Str := if p.1 = p.2 then Go.Lib.itoa p.1 else Go.Lib.itoa p.1 ++ 45 :: Go.Lib.itoa p.2
def incr : List Int → Bool
  | x :: y :: t => decide (x < y) && incr (y :: t)
  | _ => true
/-- words.List. -/
def listTxt (l : List Int) : Str × Int :=
  if 500 < l.length then ([], 3)
  else if l.any (fun n => n < 0 || 1000000000 < n) then ([], 7)
  else if !incr l then ([], 6)
  else if l = [] then ([45], 0)
  else (Go.Lib.join ((runs l).map runTxt) [44], 0)

theorem runs_cons_ne (x : Int) (t : List Int) : ∃ b r, runs (x :: t) = (x, b) :: r := by
  unfold runs
  cases runs t with
  | nil => exact ⟨x, [], rfl⟩
  | cons p r => obtain ⟨a, b⟩ := p; by_cases h : a = x + 1 <;> simp [h]
theorem runs_one (x : Int) : runs [x] = [(x, x)] := rfl
theorem runs_same (x y : Int) (t : List Int) (h : y = x + 1) : ∀ b r, runs (y :: t) = (y, b) :: r → runs (x :: y :: t) = (x, b) :: r := by
  intro b r hr
  have e : runs (x :: y :: t) = match runs (y :: t) with
    | [] => [(x, x)]
    | (a, b) :: r => if a = x + 1 then (x, b) :: r else (x, x) :: (a, b) :: r := rfl
  rw [e, hr]; simp [h]
theorem runs_new (x y : Int) (t : List Int) (h : y ≠ x + 1) : runs (x :: y :: t) = (x, x) :: runs (y :: t) := by
  have e : runs (x :: y :: t) = match runs (y :: t) with
    | [] => [(x, x)]
    | (a, b) :: r => if a = x + 1 then (x, b) :: r else (x, x) :: (a, b) :: r := rfl
  obtain ⟨b, r, hr⟩ := runs_cons_ne y t
  rw [e, hr]; simp [h]
/-- A run from i to k, which nothing continues. -/
theorem runs_step (l : List Int) : ∀ (n i k : Nat), n = k - i → i ≤ k → (hk : k < l.length) → (∀ j, i ≤ j → (hj : j < k) → l[j + 1] = l[j] + 1) →
    (∀ h : k + 1 < l.length, l[k + 1] ≠ l[k] + 1) → (hi : i < l.length) → runs (l.drop i) = (l[i], l[k]) :: runs (l.drop (k + 1)) := by
  intro n
  induction n with
  | zero =>
    intro i k hn hik hk hc hx hi
    obtain rfl : i = k := by omega
    rw [List.drop_eq_getElem_cons hi]
    by_cases h1 : i + 1 < l.length
    · rw [List.drop_eq_getElem_cons h1, runs_new _ _ _ (hx h1), ← List.drop_eq_getElem_cons h1]
    · rw [List.drop_eq_nil_of_le (by omega)]; rfl
  | succ n ih =>
    intro i k hn hik hk hc hx hi
    have h1 : i + 1 < l.length := by omega
    have := ih (i + 1) k (by omega) (by omega) hk (fun j a b => hc j (by omega) b) hx h1
    rw [List.drop_eq_getElem_cons hi, List.drop_eq_getElem_cons h1]
    rw [List.drop_eq_getElem_cons h1] at this
    have e := hc i (Nat.le_refl _) (by omega)
    rw [e] at this ⊢
    exact runs_same _ _ _ rfl _ _ this
theorem join_snoc (l : List Str) (x sep : Str) : Go.Lib.join (l ++ [x]) sep = if l = [] then x else Go.Lib.join l sep ++ (sep ++ x) := by
  cases l with
  | nil => simp [Go.Lib.join_one]
  | cons a t =>
    rw [if_neg (by simp), List.cons_append, Go.Lib.join_cons, Go.Lib.join_cons]
    simp [Go.Lib.joinTail]
theorem incr_iff (l : List Int) : incr l = true ↔ ∀ i, (h : i + 1 < l.length) → l[i] < l[i + 1] := by
  induction l with
  | nil => simp [incr]
  | cons x t ih =>
    cases t with
    | nil => simp [incr]
    | cons y t =>
      simp only [incr, Bool.and_eq_true, decide_eq_true_eq]
      rw [ih]
      constructor
      · rintro ⟨h1, h2⟩ i hi
        cases i with
        | zero => simpa using h1
        | succ i => exact h2 i (by simpa using hi)
      · intro h
        exact ⟨by simpa using h 0 (by simp), fun i hi => h (i + 1) (by simpa using hi)⟩
end Wd

namespace Wd

theorem snoc_ind {p : Str → Prop} (h0 : p []) (h1 : ∀ l x, p l → p (l ++ [x])) (l : Str) : p l := by
  have h : ∀ m : Str, p m.reverse := by
    intro m
    induction m with
    | nil => exact h0
    | cons x t ih => rw [List.reverse_cons]; exact h1 _ _ ih
  have := h l.reverse
  rwa [List.reverse_reverse] at this
/-- The complete pieces, and the one that is not complete. -/
def pcs (c : UInt8) (l : Str) : List Str × Str := l.foldl (fun a x => if x == c then (a.1 ++ [a.2], []) else (a.1, a.2 ++ [x])) ([], [])
theorem pcs_snoc (c : UInt8) (l : Str) (x : UInt8) : pcs c (l ++ [x]) = if x == c then ((pcs c l).1 ++ [(pcs c l).2], []) else ((pcs c l).1, (pcs c l).2 ++ [x]) := by
  unfold pcs; rw [List.foldl_append]; rfl
theorem foldl_pcs (c : UInt8) (l : Str) : ∀ (a : List Str) (b : Str), l.foldl (fun a x => if x == c then (a.1 ++ [a.2], []) else (a.1, a.2 ++ [x])) (a, b) =
    match cutAt c l with
    | [] => (a, b)
    | [p] => (a, b ++ p)
    | p :: q :: r => (a ++ (b ++ p) :: (q :: r).dropLast, (q :: r).getLast (by simp)) := by
  induction l with
  | nil => intro a b; simp [cutAt]
  | cons x t ih =>
    intro a b
    have hne : cutAt c t ≠ [] := by
      cases t with
      | nil => simp [cutAt]
      | cons y t =>
        unfold cutAt
        by_cases hy : (y == c) = true
        · simp [hy]
        · simp only [hy]; cases cutAt c t <;> simp
    rw [List.foldl_cons]
    by_cases hx : (x == c) = true
    · simp only [hx, if_true, cutAt]
      rw [ih]
      cases h : cutAt c t with
      | nil => exact absurd h hne
      | cons p r =>
        cases r with
        | nil => simp
        | cons q r => simp
    · simp only [hx, cutAt]
      rw [if_neg (by simp), ih]
      cases h : cutAt c t with
      | nil => exact absurd h hne
      | cons p r =>
        cases r with
        | nil => simp
        | cons q r => simp
theorem cutAt_ne (c : UInt8) (l : Str) : cutAt c l ≠ [] := by
  cases l with
  | nil => simp [cutAt]
  | cons y t =>
    unfold cutAt
    by_cases hy : (y == c) = true
    · simp [hy]
    · simp only [hy]; cases cutAt c t <;> simp
theorem cutAt_pcs (c : UInt8) (l : Str) : cutAt c l = (pcs c l).1 ++ [(pcs c l).2] := by
  unfold pcs
  rw [foldl_pcs]
  cases h : cutAt c l with
  | nil => exact absurd h (cutAt_ne c l)
  | cons p r =>
    cases r with
    | nil => simp
    | cons q r =>
      simp only [List.nil_append, List.cons_append]
      rw [List.dropLast_concat_getLast]
/-- The complete pieces of a text that ends with the byte. -/
theorem pcs_end (c : UInt8) (m : Str) : (pcs c (m ++ [c])).1 = cutAt c m := by
  rw [pcs_snoc, cutAt_pcs]; simp
theorem pcs_last (c : UInt8) (l : Str) (h : l.getLast? = some c) : (pcs c l).1 = cutAt c l.dropLast := by
  have hne : l ≠ [] := by intro e; rw [e] at h; simp at h
  have e := List.dropLast_concat_getLast hne
  have : l.getLast hne = c := by rw [List.getLast?_eq_some_getLast hne] at h; simpa using h
  rw [this] at e
  rw [← e, pcs_end]
  simp
/-- Where the piece that is not complete begins. -/
theorem pcs_len (c : UInt8) (l : Str) : (pcs c l).1.length ≤ l.length := by
  refine snoc_ind (p := fun l => (pcs c l).1.length ≤ l.length) (by simp [pcs]) (fun l x ih => ?_) l
  show (pcs c (l ++ [x])).1.length ≤ _
  rw [pcs_snoc]
  by_cases h : (x == c) = true <;> simp [h] <;> omega
end Wd

namespace Wd
open Go.Lib

theorem index_cons_eq (c : UInt8) (t : Str) : index (c :: t) [c] = 0 := by
  rw [index_one]; simp [indexByte]
theorem index_cons_ne (x c : UInt8) (t : Str) (h : x ≠ c) : index (x :: t) [c] = if index t [c] == -1 then -1 else index t [c] + 1 := by
  have hp : [c].isPrefixOf (x :: t) = false := by simp [List.isPrefixOf]; exact fun e => h e.symm
  rw [index, hp]; rfl
theorem splitK_cutAt (c : UInt8) : ∀ s : Str, splitK [c] 0 (count s [c]) s = cutAt c s
  | [] => rfl
  | x :: t => by
    have ih := splitK_cutAt c t
    by_cases h : x = c
    · subst h
      rw [count_cons_eq, Nat.add_comm, splitK, index_cons_eq]
      simp only [cutAt, beq_self_eq_true, if_true]
      rw [← ih]; rfl
    · rw [count_cons_ne _ _ _ h]
      have hb : (x == c) = false := beq_eq_false_iff_ne.2 h
      simp only [cutAt, hb]
      rw [← ih]
      cases hk : count t [c] with
      | zero => simp [splitK]
      | succ k =>
        have hex : ∃ i : Nat, index t [c] = i := by
          rcases index_spec t [c] with ⟨h1, _⟩ | ⟨i, h1, _⟩
          · rw [count_miss h1] at hk; omega
          · exact ⟨i, h1⟩
        obtain ⟨i, hi⟩ := hex
        have h1 : (index t [c] == -1) = false := by rw [hi, beq_eq_false_iff_ne]; omega
        have e : index (x :: t) [c] = ((i + 1 : Nat) : Int) := by rw [index_cons_ne _ _ _ h, h1, hi]; simp
        have h2 : (index (x :: t) [c] == -1) = false := by rw [e, beq_eq_false_iff_ne]; omega
        rw [splitK, splitK, h1, h2, hi, e]
        simp
theorem count_cutAt (c : UInt8) (s : Str) : (cutAt c s).length = count s [c] + 1 := by
  induction s with
  | nil => rfl
  | cons x t ih =>
    by_cases h : x = c
    · subst h; rw [count_cons_eq]; simp only [cutAt, beq_self_eq_true, if_true, List.length_cons, ih]; omega
    · rw [count_cons_ne _ _ _ h]
      have hb : (x == c) = false := beq_eq_false_iff_ne.2 h
      simp only [cutAt, hb]
      cases hc : cutAt c t with
      | nil => rw [hc] at ih; simp at ih
      | cons p r => rw [hc] at ih; simpa using ih
end Wd

namespace Wd

theorem cut_take (c : UInt8) : ∀ l : Str, (Go.Lib.cut l [c]).1 = l.takeWhile (· != c)
  | [] => rfl
  | x :: t => by
    have ih := cut_take c t
    unfold Go.Lib.cut at ih ⊢
    by_cases h : x = c
    · subst h
      rw [index_cons_eq]; simp
    · have hb : (x != c) = true := by simpa using h
      have hge := Go.Lib.index_ge t [c]
      rw [List.takeWhile_cons, hb, ← ih, index_cons_ne _ _ _ h]
      by_cases h1 : Go.Lib.index t [c] = -1
      · rw [h1]; simp
      · have h2 : (Go.Lib.index t [c] == -1) = false := beq_eq_false_iff_ne.2 h1
        rw [h2]
        have h3 : 0 ≤ Go.Lib.index t [c] := by omega
        have h4 : (Go.Lib.index t [c] + 1).toNat = (Go.Lib.index t [c]).toNat + 1 := by omega
        simp only [Bool.false_eq_true, if_false, if_true]
        rw [if_pos (by omega), if_pos h3]
        simp [h4]
def bad : Fld × Bool := (([], false), false)
def prodF : Nat → Str → List (Fld × Bool)
  | 0, _ => []
  | n + 1, s => match field1 s with
    | none => [bad]
    | some (f, []) => [(f, true)]
    | some (f, c :: r) => if c == 32 then (f, true) :: prodF n r else [bad]
def prod (s : Str) : List (Fld × Bool) := prodF (s.length + 1) s
theorem prodF_fuel : ∀ (n m : Nat) (l : Str), l.length < n → l.length < m → prodF n l = prodF m l := by
  intro n
  induction n with
  | zero => intro m l h; omega
  | succ n ih =>
    intro m l h1 h2
    cases m with
    | zero => omega
    | succ m =>
      simp only [prodF]
      cases hf : field1 l with
      | none => rfl
      | some p =>
        obtain ⟨f, r⟩ := p
        have hlt := field1_lt hf
        cases r with
        | nil => rfl
        | cons c r =>
          simp only [List.length_cons] at hlt
          dsimp only
          rw [ih m r (by omega) (by omega)]
theorem prod_none {l : Str} (h : field1 l = none) : prod l = [bad] := by simp [prod, prodF, h]
theorem prod_last {l : Str} {f : Fld} (h : field1 l = some (f, [])) : prod l = [(f, true)] := by simp [prod, prodF, h]
theorem prod_next {l : Str} {f : Fld} {r : Str} (h : field1 l = some (f, 32 :: r)) : prod l = (f, true) :: prod r := by
  have hlt := field1_lt h
  simp only [List.length_cons] at hlt
  have e : prodF (l.length + 1) l = (f, true) :: prodF l.length r := by simp [prodF, h]
  show prodF (l.length + 1) l = (f, true) :: prodF (r.length + 1) r
  rw [e, prodF_fuel l.length (r.length + 1) r (by omega) (by omega)]
theorem prod_bad {l : Str} {f : Fld} {c : UInt8} {r : Str} (h : field1 l = some (f, c :: r)) (hc : c ≠ 32) : prod l = [bad] := by
  simp [prod, prodF, h, hc]
theorem prod_F : ∀ (n : Nat) (l : Str), l.length < n → (∀ L : List Fld, F l = some L → prod l = L.map (·, true)) ∧ (F l = none → ∃ L : List Fld, prod l = L.map (·, true) ++ [bad]) := by
  intro n
  induction n with
  | zero => intro l h; omega
  | succ n ih =>
    intro l hl
    cases hf : field1 l with
    | none =>
      rw [F_none hf, prod_none hf]
      exact ⟨fun L h => by simp at h, fun _ => ⟨[], rfl⟩⟩
    | some p =>
      obtain ⟨f, r⟩ := p
      have hlt := field1_lt hf
      cases r with
      | nil =>
        rw [F_last hf, prod_last hf]
        refine ⟨fun L h => ?_, fun h => by simp at h⟩
        cases h; rfl
      | cons c r =>
        simp only [List.length_cons] at hlt
        by_cases hc : c = 32
        · subst hc
          rw [F_next hf, prod_next hf]
          obtain ⟨h1, h2⟩ := ih r (by omega)
          refine ⟨fun L h => ?_, fun h => ?_⟩
          · cases hF : F r with
            | none => rw [hF] at h; simp at h
            | some M => rw [hF] at h; simp at h; subst h; rw [h1 M hF]; rfl
          · have : F r = none := by cases hF : F r with
              | none => rfl
              | some M => rw [hF] at h; simp at h
            obtain ⟨L, hL⟩ := h2 this
            exact ⟨f :: L, by rw [hL]; rfl⟩
        · rw [F_bad hf hc, prod_bad hf hc]
          exact ⟨fun L h => by simp at h, fun _ => ⟨[], rfl⟩⟩
/-- All were fields: they are the fields of the line. -/
theorem prod_all {l : Str} {acc : List Fld} (h : prod l = acc.map (·, true)) : F l = some acc := by
  obtain ⟨h1, h2⟩ := prod_F (l.length + 1) l (by omega)
  have hinj : ∀ (a b : List Fld), a.map (fun f => (f, true)) = b.map (fun f => (f, true)) → a = b := by
    intro a
    induction a with
    | nil => intro b hb; cases b with
      | nil => rfl
      | cons x t => simp at hb
    | cons x t ih => intro b hb; cases b with
      | nil => simp at hb
      | cons y u => simp at hb; rw [hb.1]; congr 1; exact ih u (by simpa using hb.2)
  cases hF : F l with
  | some L => rw [h1 L hF] at h; rw [hinj _ _ h]
  | none =>
    obtain ⟨L, hL⟩ := h2 hF
    rw [h] at hL
    have := congrArg (fun x : List (Fld × Bool) => x.getLast?) hL
    simp at this
    have hm : bad ∈ acc.map (fun f => (f, true)) := by
      rw [hL]; simp
    simp [bad] at hm
/-- A part that ends with what is no field: the line has no fields. -/
theorem prod_stop {l : Str} {acc : List Fld} {f : Fld} (h : acc.map (·, true) ++ [(f, false)] <+: prod l) : F l = none := by
  obtain ⟨h1, _⟩ := prod_F (l.length + 1) l (by omega)
  cases hF : F l with
  | none => rfl
  | some L =>
    rw [h1 L hF] at h
    have hm : (f, false) ∈ L.map (fun f => (f, true)) := h.subset (by simp)
    simp at hm
theorem prodF_len : ∀ (n : Nat) (l : Str), (prodF n l).length ≤ n := by
  intro n
  induction n with
  | zero => intro l; simp [prodF]
  | succ n ih =>
    intro l
    simp only [prodF]
    cases field1 l with
    | none => simp
    | some p =>
      obtain ⟨f, r⟩ := p
      cases r with
      | nil => simp
      | cons c r =>
        dsimp only
        split
        · have := ih r; simp only [List.length_cons]; omega
        · simp
theorem prod_len (l : Str) : (prod l).length ≤ l.length + 1 := prodF_len _ _
end Wd

namespace Wd

def farL (l : List Fld) : Bool := decide (70 < l.length) || l.any (fun f => decide (2100 < f.1.length)) || decide (12000 < (l.map (·.1.length)).sum)
def sumK (l : List Fld) (k : Nat) : Nat := ((l.take k).map (·.1.length)).sum
theorem sumK_zero (l : List Fld) : sumK l 0 = 0 := by simp [sumK]
theorem sumK_next {l : List Fld} {k : Nat} (h : k < l.length) : sumK l (k + 1) = sumK l k + l[k].1.length := by
  unfold sumK; rw [List.take_succ_eq_append_getElem h, List.map_append, List.sum_append]; rfl
theorem sumK_all {l : List Fld} {k : Nat} (h : l.length ≤ k) : sumK l k = (l.map (·.1.length)).sum := by unfold sumK; rw [List.take_of_length_le h]
theorem sumK_le {l : List Fld} : ∀ k, k ≤ l.length → (∀ j, j < k → (hj : j < l.length) → l[j].1.length ≤ 2100) → sumK l k ≤ 2100 * k := by
  intro k
  induction k with
  | zero => intro _ _; rw [sumK_zero]; omega
  | succ k ih =>
    intro hk h
    rw [sumK_next (by omega)]
    have := ih (by omega) (fun j hj hl => h j (by omega) hl)
    have := h k (by omega) (by omega)
    omega
theorem far_len {l : List Fld} (h : 70 < l.length) : farL l = true := by simp [farL, h]
theorem far_fld {l : List Fld} {k : Nat} (hk : k < l.length) (h : 2100 < l[k].1.length) : farL l = true := by
  unfold farL
  have : l.any (fun f => decide (2100 < f.1.length)) = true := by rw [List.any_eq_true]; exact ⟨l[k], List.getElem_mem _, by simpa using h⟩
  rw [this]; simp
theorem far_no {l : List Fld} {k : Nat} (h1 : ¬ 70 < l.length) (hk : l.length ≤ k) (h2 : ∀ j (hj : j < l.length), l[j].1.length ≤ 2100) : farL l = decide (12000 < sumK l k) := by
  unfold farL
  have : l.any (fun f => decide (2100 < f.1.length)) = false := by
    rw [List.any_eq_false]
    intro f hf
    obtain ⟨j, hj, rfl⟩ := List.getElem_of_mem hf
    have := h2 j hj
    simp; omega
  rw [this, sumK_all hk]; simp [h1]
theorem far_false {l : List Fld} (h : farL l = false) : l.length ≤ 70 ∧ ∀ f ∈ l, f.1.length ≤ 2100 := by
  unfold farL at h
  rw [Bool.or_eq_false_iff, Bool.or_eq_false_iff] at h
  refine ⟨by have := h.1.1; simp at this; omega, fun f hf => ?_⟩
  have := List.any_eq_false.1 h.1.2 f hf
  simp at this; omega

theorem join_two (l m : List Str) (sep : Str) (hl : l ≠ []) (hm : m ≠ []) : Go.Lib.join (l ++ m) sep = Go.Lib.join l sep ++ sep ++ Go.Lib.join m sep := by
  cases l with
  | nil => exact absurd rfl hl
  | cons a t =>
    cases m with
    | nil => exact absurd rfl hm
    | cons b u =>
      rw [List.cons_append, Go.Lib.join_cons, Go.Lib.join_cons, Go.Lib.join_cons]
      simp [Go.Lib.joinTail, List.append_assoc]
def joined (l : List Fld) : Str := Go.Lib.join (l.map word) [32]
theorem joined_two {l m : List Fld} (hl : l ≠ []) (hm : m ≠ []) : joined (l ++ m) = joined l ++ [32] ++ joined m := by
  unfold joined
  rw [List.map_append, join_two _ _ _ (by simpa using hl) (by simpa using hm)]
/-- What join refuses and what it returns. -/
def fits (l : List Fld) : Prop := l.length ≤ 64 ∧ (∀ f ∈ l, f.1.length ≤ 2000) ∧ (∀ f ∈ l, okFld f = true) ∧ (joined l).length ≤ 8192
theorem noBig {l : List Fld} : (l.any (fun f => decide (2000 < f.1.length))) = true ↔ ¬ ∀ f ∈ l, f.1.length ≤ 2000 := by
  rw [List.any_eq_true]
  constructor
  · rintro ⟨f, hf, h⟩ g
    have := g f hf
    simp at h; omega
  · intro h
    apply Classical.byContradiction
    intro g
    exact h fun f hf => Nat.le_of_not_lt fun h2 => g ⟨f, hf, by simpa using h2⟩
theorem join_fits {l : List Fld} (h : fits l) : join l = (joined l, 0) := by
  obtain ⟨h1, h2, h3, h4⟩ := h
  unfold join
  rw [if_neg (by omega), if_neg, if_neg, if_neg (by unfold joined at h4; omega)]
  · rfl
  · simpa using h3
  · rw [noBig]; exact fun h => h h2
theorem join_zero {l : List Fld} (h : (join l).2 = 0) : fits l := by
  unfold join at h
  split at h
  · simp at h
  split at h
  · simp at h
  split at h
  · simp at h
  split at h
  · simp at h
  rename_i h1 h2 h3 h4
  refine ⟨by omega, ?_, ?_, by unfold joined; omega⟩
  · rw [noBig] at h2; exact Classical.byContradiction h2
  · simpa using h3
theorem both_bad {l m : List Fld} (hl : l ≠ []) (hm : m ≠ []) (h : (join l).2 ≠ 0 ∨ (join m).2 ≠ 0) : (join (l ++ m)).2 ≠ 0 := by
  intro h0
  obtain ⟨h1, h2, h3, h4⟩ := join_zero h0
  rw [joined_two hl hm] at h4
  simp only [List.length_append, List.length_cons, List.length_nil] at h1 h4
  rcases h with h | h
  · exact h (by rw [join_fits ⟨by omega, fun f hf => h2 f (by simp [hf]), fun f hf => h3 f (by simp [hf]), by omega⟩])
  · exact h (by rw [join_fits ⟨by omega, fun f hf => h2 f (by simp [hf]), fun f hf => h3 f (by simp [hf]), by omega⟩])
theorem both_big {l m : List Fld} (hl : l ≠ []) (hm : m ≠ []) (h1 : (join l).2 = 0) (h2 : (join m).2 = 0) (h : 64 < l.length + m.length ∨ 8192 < (join l).1.length + 1 + (join m).1.length) : join (l ++ m) = ([], 3) := by
  have f1 := join_zero h1
  have f2 := join_zero h2
  rw [join_fits f1, join_fits f2] at h
  have hj := joined_two hl hm
  have e2 : ¬ ((l ++ m).any (fun f => decide (2000 < f.1.length))) = true := by
    rw [noBig]
    exact fun h => h fun f hf => (List.mem_append.1 hf).elim (f1.2.1 f) (f2.2.1 f)
  have e3 : ¬ (!(l ++ m).all okFld) = true := by
    rw [Bool.not_eq_true, Bool.not_eq_false', List.all_eq_true]
    intro f hf
    exact (List.mem_append.1 hf).elim (f1.2.2.1 f) (f2.2.2.1 f)
  unfold join
  by_cases h64 : 64 < (l ++ m).length
  · rw [if_pos h64]
  · rw [if_neg h64, if_neg e2, if_neg e3, if_pos]
    show 8192 < (joined (l ++ m)).length
    rw [hj]
    rw [List.length_append] at h64
    simp only [List.length_append, List.length_cons, List.length_nil]
    rcases h with h | h
    · omega
    · omega
theorem both_good {l m : List Fld} (hl : l ≠ []) (hm : m ≠ []) (h1 : (join l).2 = 0) (h2 : (join m).2 = 0) (h3 : l.length + m.length ≤ 64) (h : (join l).1.length + 1 + (join m).1.length ≤ 8192) : join (l ++ m) = ((join l).1 ++ [32] ++ (join m).1, 0) := by
  have f1 := join_zero h1
  have f2 := join_zero h2
  rw [join_fits f1, join_fits f2] at h ⊢
  have hj := joined_two hl hm
  rw [join_fits, hj]
  refine ⟨by rw [List.length_append]; exact h3, fun f hf => (List.mem_append.1 hf).elim (f1.2.1 f) (f2.2.1 f), fun f hf => (List.mem_append.1 hf).elim (f1.2.2.1 f) (f2.2.2.1 f), ?_⟩
  rw [hj]
  simp only [List.length_append, List.length_cons, List.length_nil]
  exact h
theorem join_len (l : List Fld) : (join l).1.length ≤ 8192 := by
  unfold join
  split
  · simp
  split
  · simp
  split
  · simp
  split
  · simp
  · rename_i h; exact Nat.le_of_not_lt h
end Wd

namespace Wd

theorem natVal_nil : natVal [] = 0 := rfl
theorem val_acc (l : Str) : ∀ acc, val acc l = acc * 10 ^ l.length + val 0 l := by
  induction l with
  | nil => intro acc; simp [val]
  | cons c t ih =>
    intro acc
    show val (10 * acc + (c.toNat - 48)) t = acc * 10 ^ (t.length + 1) + val (10 * 0 + (c.toNat - 48)) t
    rw [ih (10 * acc + (c.toNat - 48)), ih (10 * 0 + (c.toNat - 48)), Nat.pow_succ]
    simp only [Nat.mul_zero, Nat.zero_add, Nat.add_mul, Nat.add_assoc]
    congr 1
    rw [Nat.mul_comm 10 acc, Nat.mul_assoc, Nat.mul_comm 10 (10 ^ t.length)]
theorem natVal_app (a b : Str) : natVal (a ++ b) = natVal a * 10 ^ b.length + natVal b := by
  rw [natVal_eq, val_append, val_acc]; rfl
theorem natVal_one (c : UInt8) : natVal [c] = c.toNat - 48 := by simp [natVal]
theorem natVal_cons (c : UInt8) (t : Str) : natVal (c :: t) = (c.toNat - 48) * 10 ^ t.length + natVal t := by
  have := natVal_app [c] t
  rw [natVal_one] at this
  exact this
theorem natVal_lt {l : Str} (h : l.all digit = true) : natVal l < 10 ^ l.length := by
  induction l with
  | nil => simp [natVal]
  | cons c t ih =>
    rw [List.all_cons, Bool.and_eq_true] at h
    have h1 := ih h.2
    have h2 := digit_nat h.1
    rw [natVal_cons, List.length_cons, Nat.pow_succ]
    have h3 : c.toNat - 48 ≤ 9 := by omega
    have h4 := Nat.mul_le_mul_right (10 ^ t.length) h3
    omega
theorem natDec_head {c : UInt8} {t : Str} (h : natDec (c :: t) = true) (ht : t ≠ []) : c ≠ 48 := by
  have := natDec_of_digits (natDec_digits h).1
  rw [h] at this
  intro e
  subst e
  cases t with
  | nil => exact ht rfl
  | cons => simp at this
theorem natVal_ge {l : Str} (h : natDec l = true) (h1 : 1 < l.length) : 10 ^ (l.length - 1) ≤ natVal l := by
  match l, h, h1 with
  | c :: t, h, h1 =>
    have ht : t ≠ [] := by intro e; subst e; simp at h1
    have hc := natDec_head h ht
    have hd := (natDec_digits h).1
    rw [List.all_cons, Bool.and_eq_true] at hd
    have h2 := digit_nat hd.1
    have h3 : c.toNat ≠ 48 := fun e => hc (by apply UInt8.toNat_inj.1; rw [e]; rfl)
    rw [natVal_cons]
    have h4 : 1 ≤ c.toNat - 48 := by omega
    have h5 := Nat.mul_le_mul_right (10 ^ t.length) h4
    simp only [List.length_cons, Nat.add_sub_cancel]
    omega
theorem natDec_pos {l : Str} (h : natDec l = true) : 0 < l.length := List.length_pos_iff.2 (natDec_digits h).2
theorem len_lt {a b : Str} (ha : natDec a = true) (hb : natDec b = true) (h : a.length < b.length) : natVal a < natVal b := by
  have h0 := natDec_pos ha
  have h1 := natVal_lt (natDec_digits ha).1
  have h2 := natVal_ge hb (by omega)
  have h3 : 10 ^ a.length ≤ 10 ^ (b.length - 1) := Nat.pow_le_pow_right (by decide) (by omega)
  omega
theorem lex_lt : ∀ {a b : Str}, a.length = b.length → a.all digit = true → b.all digit = true → (a < b ↔ natVal a < natVal b)
  | [], [], _, _, _ => by simp
  | x :: a, y :: b, hl, ha, hb => by
    rw [List.all_cons, Bool.and_eq_true] at ha hb
    have hl' : a.length = b.length := by simpa using hl
    have ih := lex_lt hl' ha.2 hb.2
    have hx := digit_nat ha.1
    have hy := digit_nat hb.1
    have la := natVal_lt ha.2
    have lb := natVal_lt hb.2
    rw [List.cons_lt_cons_iff, ih, natVal_cons, natVal_cons, hl']
    rw [hl'] at la
    constructor
    · rintro (h | ⟨rfl, h⟩)
      · have h1 : x.toNat < y.toNat := UInt8.lt_iff_toNat_lt.1 h
        have h2 : x.toNat - 48 + 1 ≤ y.toNat - 48 := by omega
        have h3 := Nat.mul_le_mul_right (10 ^ b.length) h2
        rw [Nat.add_mul, Nat.one_mul] at h3
        omega
      · omega
    · intro h
      rcases Nat.lt_trichotomy x.toNat y.toNat with h1 | h1 | h1
      · exact .inl (UInt8.lt_iff_toNat_lt.2 h1)
      · refine .inr ⟨UInt8.toNat_inj.1 h1, ?_⟩
        rw [h1] at h
        omega
      · have h2 : y.toNat - 48 + 1 ≤ x.toNat - 48 := by omega
        have h3 := Nat.mul_le_mul_right (10 ^ b.length) h2
        rw [Nat.add_mul, Nat.one_mul] at h3
        omega
theorem val_inj {a b : Str} (ha : natDec a = true) (hb : natDec b = true) (h : natVal a = natVal b) : a.length = b.length := by
  rcases Nat.lt_trichotomy a.length b.length with h1 | h1 | h1
  · have := len_lt ha hb h1; omega
  · exact h1
  · have := len_lt hb ha h1; omega
/-- The order of the reference's less. -/
def lessS (a b : Str) : Bool := if a.length ≠ b.length then decide (a.length < b.length) else decide (a < b)
theorem lessS_iff {a b : Str} (ha : natDec a = true) (hb : natDec b = true) : lessS a b = decide (natVal a < natVal b) := by
  unfold lessS
  by_cases h : a.length = b.length
  · rw [if_neg (by omega)]
    have := lex_lt h (natDec_digits ha).1 (natDec_digits hb).1
    by_cases h2 : a < b
    · rw [decide_eq_true h2, decide_eq_true (this.1 h2)]
    · rw [decide_eq_false h2, decide_eq_false (fun h3 => h2 (this.2 h3))]
  · rw [if_pos h]
    rcases Nat.lt_or_ge a.length b.length with h1 | h1
    · rw [decide_eq_true h1, decide_eq_true (len_lt ha hb h1)]
    · have := len_lt hb ha (by omega)
      rw [decide_eq_false (by omega), decide_eq_false (by omega)]

theorem natVal_zeros (k : Nat) : natVal (List.replicate k 48) = 0 := by
  induction k with
  | zero => rfl
  | succ k ih => rw [List.replicate_succ, natVal_cons, ih]; simp
theorem natVal_nines (k : Nat) : natVal (List.replicate k 57) + 1 = 10 ^ k := by
  induction k with
  | zero => rfl
  | succ k ih =>
    rw [List.replicate_succ, natVal_cons, List.length_replicate, Nat.pow_succ]
    have : (57 : UInt8).toNat - 48 = 9 := by decide
    rw [this]; omega
theorem inc_toNat {c : UInt8} (h : digit c = true) (h9 : c ≠ 57) : (c + 1).toNat = c.toNat + 1 ∧ digit (c + 1) = true := by
  have hd := digit_nat h
  have h1 : (c + 1).toNat = c.toNat + 1 := by
    rw [UInt8.toNat_add]
    simp only [UInt8.toNat_one]
    omega
  have h2 : c.toNat ≠ 57 := fun e => h9 (by apply UInt8.toNat_inj.1; rw [e]; rfl)
  refine ⟨h1, ?_⟩
  unfold digit
  rw [Bool.and_eq_true, decide_eq_true_eq, decide_eq_true_eq, u8le, u8le, h1]
  simp only [UInt8.reduceToNat]
  omega
/-- The next form, where a digit that is not 9 stands ahead of k nines. -/
theorem next_some {p : Str} {c : UInt8} {k : Nat} (h : natDec (p ++ c :: List.replicate k 57) = true) (h9 : c ≠ 57) :
    natDec (p ++ (c + 1) :: List.replicate k 48) = true ∧ natVal (p ++ (c + 1) :: List.replicate k 48) = natVal (p ++ c :: List.replicate k 57) + 1 := by
  have hd := (natDec_digits h).1
  rw [List.all_append, List.all_cons, Bool.and_eq_true, Bool.and_eq_true] at hd
  obtain ⟨hp, hc, _⟩ := hd
  obtain ⟨e1, e2⟩ := inc_toNat hc h9
  have hcn := digit_nat hc
  constructor
  · have hall : (p ++ (c + 1) :: List.replicate k 48).all digit = true := by
      rw [List.all_append, List.all_cons, hp, e2]
      simp [digit]
    cases p with
    | nil =>
      rw [List.nil_append, natDec_of_digits hall]
      have : (c + 1) ≠ 48 := by
        intro e
        have := congrArg UInt8.toNat e
        rw [e1] at this
        have h48 : (48 : UInt8).toNat = 48 := rfl
        omega
      simp [this]
    | cons x t =>
      have hx : x ≠ 48 := natDec_head h (by simp)
      rw [List.cons_append] at hall ⊢
      rw [natDec_of_digits hall]
      simp [hx]
  · rw [natVal_app, natVal_app, natVal_cons, natVal_cons, natVal_zeros, e1]
    simp only [List.length_cons, List.length_replicate]
    have := natVal_nines k
    have h1 : c.toNat + 1 - 48 = (c.toNat - 48) + 1 := by omega
    rw [h1, Nat.add_mul, Nat.one_mul]
    omega
/-- The next form of k nines. -/
theorem next_none {k : Nat} : natDec (49 :: List.replicate k 48) = true ∧ natVal (49 :: List.replicate k 48) = natVal (List.replicate k 57) + 1 := by
  constructor
  · rw [natDec_of_digits]
    · simp
    · simp [digit]
  · rw [natVal_nines, natVal_cons, natVal_zeros, List.length_replicate]
    have : (49 : UInt8).toNat - 48 = 1 := by decide
    rw [this]; omega
end Wd

namespace Wd

/-- The ends of a run: its pieces at the byte '-'. -/
def ends1 (r : Str) : Option (Str × Str) := match cutAt 45 r with
  | [a] => if natDec a then some (a, a) else none
  | [a, b] => if natDec a && natDec b && decide (natVal a < natVal b) then some (a, b) else none
  | _ => none
def after (last : Option Str) (a : Str) : Bool := match last with
  | none => true
  | some x => decide (natVal x + 1 < natVal a)
def prunsF : Option Str → List Str → Option (List (Str × Str))
  | _, [] => some []
  | last, r :: t => match ends1 r with
    | none => none
    | some p => if after last p.1 then (prunsF (some p.2) t).map (p :: ·) else none
def nums (p : Str × Str) : List Int := (List.range (natVal p.2 + 1 - natVal p.1)).map fun i => ((natVal p.1 + i : Nat) : Int)
def expand (es : List (Str × Str)) : List Int := es.flatMap nums
def lastOf (es : List (Str × Str)) : Nat := match es.getLast? with
  | none => 0
  | some p => natVal p.2
/-- words.ParseList. -/
def parseList (s : Str) : List Int × Int :=
  if s = [45] then ([], 0) else match prunsF none (cutAt 44 s) with
  | none => ([], 6)
  | some es => if 1000000000 < lastOf es then ([], 7) else if 500 < (expand es).length then ([], 3) else (expand es, 0)

theorem ends1_one {r a : Str} (h : cutAt 45 r = [a]) : ends1 r = if natDec a then some (a, a) else none := by unfold ends1; rw [h]
theorem ends1_two {r a b : Str} (h : cutAt 45 r = [a, b]) : ends1 r = if natDec a && natDec b && decide (natVal a < natVal b) then some (a, b) else none := by unfold ends1; rw [h]
theorem ends1_many {r : Str} (h : 2 < (cutAt 45 r).length) : ends1 r = none := by
  unfold ends1
  split
  · rename_i e; rw [e] at h; simp at h
  · rename_i e; rw [e] at h; simp at h
  · rfl
theorem ends1_good {r : Str} {p : Str × Str} (h : ends1 r = some p) : natDec p.1 = true ∧ natDec p.2 = true ∧ natVal p.1 ≤ natVal p.2 := by
  unfold ends1 at h
  split at h
  · split at h
    · rename_i hd
      obtain rfl := Option.some.inj h
      exact ⟨hd, hd, Nat.le_refl _⟩
    · cases h
  · split at h
    · rename_i hd
      obtain rfl := Option.some.inj h
      simp only [Bool.and_eq_true, decide_eq_true_eq] at hd
      exact ⟨hd.1.1, hd.1.2, Nat.le_of_lt hd.2⟩
    · cases h
  · cases h
theorem cutAt_cons_eq (c : UInt8) (t : Str) : cutAt c (c :: t) = [] :: cutAt c t := by simp [cutAt]
theorem cutAt_cons_ne {c x : UInt8} (t : Str) (h : x ≠ c) {p : Str} {r : List Str} (e : cutAt c t = p :: r) : cutAt c (x :: t) = (x :: p) :: r := by
  unfold cutAt
  rw [if_neg (by simpa using h), e]
theorem cutAt_no {c : UInt8} : ∀ {s : Str}, (∀ x ∈ s, x ≠ c) → cutAt c s = [s]
  | [], _ => rfl
  | x :: t, h => cutAt_cons_ne t (h x (by simp)) (cutAt_no fun y hy => h y (by simp [hy]))
theorem cutAt_pieces {c : UInt8} : ∀ {s : Str}, ∀ p ∈ cutAt c s, ∀ x ∈ p, x ≠ c
  | [], p, hp, x, hx => by simp [cutAt] at hp; subst hp; simp at hx
  | y :: t, p, hp, x, hx => by
    by_cases h : y = c
    · subst h
      rw [cutAt_cons_eq] at hp
      rcases List.mem_cons.1 hp with rfl | hp
      · simp at hx
      · exact cutAt_pieces p hp x hx
    · cases e : cutAt c t with
      | nil => exact absurd e (cutAt_ne c t)
      | cons q r =>
        rw [cutAt_cons_ne t h e] at hp
        rcases List.mem_cons.1 hp with rfl | hp
        · rcases List.mem_cons.1 hx with rfl | hx
          · exact h
          · exact cutAt_pieces q (by rw [e]; simp) x hx
        · exact cutAt_pieces p (by rw [e]; simp [hp]) x hx
theorem cutAt_first {c : UInt8} : ∀ {a b : Str}, (∀ x ∈ a, x ≠ c) → cutAt c (a ++ c :: b) = a :: cutAt c b
  | [], b, _ => cutAt_cons_eq c b
  | x :: a, b, h => cutAt_cons_ne _ (h x (by simp)) (cutAt_first fun y hy => h y (by simp [hy]))
theorem natDec_no {a : Str} (h : natDec a = true) : ∀ x ∈ a, x ≠ 45 := by
  intro x hx e
  have := List.all_eq_true.1 (natDec_digits h).1 x hx
  subst e
  exact absurd this (by decide)
theorem decimal_no {a : Str} (h : ∀ x ∈ a, x ≠ 45) : decimal a = natDec a := by
  refine decimal_pos fun c t e => ?_
  subst e
  exact absurd rfl (h 45 (by simp))
/-- A run with one '-' or more: a stands ahead of the first. -/
theorem ends1_cut {a b : Str} (h : ∀ x ∈ a, x ≠ 45) : ends1 (a ++ 45 :: b) = if natDec a && natDec b && decide (natVal a < natVal b) then some (a, b) else none := by
  have hc := cutAt_first (b := b) h
  by_cases hb : natDec b = true
  · rw [cutAt_no (natDec_no hb)] at hc
    exact ends1_two hc
  · have hn : natDec b = false := by simpa using hb
    rw [hn, Bool.and_false, Bool.false_and]
    cases e : cutAt 45 b with
    | nil => exact absurd e (cutAt_ne 45 b)
    | cons p r =>
      cases r with
      | nil =>
        rw [e] at hc
        rw [ends1_two hc]
        have : p = b := by
          have h2 := cutAt_pieces (c := 45) (s := b)
          by_cases hm : ∀ x ∈ b, x ≠ 45
          · rw [cutAt_no hm] at e; simpa using e.symm
          · exfalso
            simp only [Classical.not_forall, ne_eq, Decidable.not_not] at hm
            obtain ⟨x, hx, rfl⟩ := hm
            obtain ⟨u, v, rfl⟩ := List.append_of_mem hx
            have : ∀ u : Str, 2 ≤ (cutAt 45 (u ++ 45 :: v)).length := by
              intro u
              induction u with
              | nil =>
                rw [List.nil_append, cutAt_cons_eq]
                have := List.length_pos_iff.2 (cutAt_ne 45 v)
                simp only [List.length_cons]; omega
              | cons y u ih =>
                by_cases hy : y = 45
                · subst hy
                  rw [List.cons_append, cutAt_cons_eq]
                  simp only [List.length_cons]; omega
                · cases e2 : cutAt 45 (u ++ 45 :: v) with
                  | nil => exact absurd e2 (cutAt_ne _ _)
                  | cons q r =>
                    rw [List.cons_append, cutAt_cons_ne _ hy e2]
                    rw [e2] at ih
                    simpa using ih
            have := this u
            rw [e] at this
            simp at this
        subst this
        rw [hn]; simp
      | cons q r => rw [ends1_many (by rw [hc, e]; simp)]; simp

/-- What k runs have yielded. -/
structure PRel (rs : List Str) (k : Nat) (E : List (Str × Str)) : Prop where
  eq : prunsF none rs = (prunsF (E.getLast?.map (·.2)) (rs.drop k)).map (E ++ ·)
  len : E.length = k
  good : ∀ p ∈ E, natDec p.1 = true ∧ natDec p.2 = true ∧ natVal p.1 ≤ natVal p.2 ∧ natVal p.2 ≤ lastOf E
theorem PRel.zero (rs : List Str) : PRel rs 0 [] := ⟨by simp, rfl, by simp⟩
theorem PRel.bad {rs : List Str} {k : Nat} {E : List (Str × Str)} (h : PRel rs k E) (hk : k < rs.length) (hb : ends1 rs[k] = none) : prunsF none rs = none := by
  rw [h.eq, List.drop_eq_getElem_cons hk]
  simp [prunsF, hb]
theorem PRel.not {rs : List Str} {k : Nat} {E : List (Str × Str)} (h : PRel rs k E) (hk : k < rs.length) {p : Str × Str} (hb : ends1 rs[k] = some p) (ha : after (E.getLast?.map (·.2)) p.1 = false) : prunsF none rs = none := by
  rw [h.eq, List.drop_eq_getElem_cons hk]
  simp [prunsF, hb, ha]
theorem lastOf_snoc (E : List (Str × Str)) (p : Str × Str) : lastOf (E ++ [p]) = natVal p.2 := by simp [lastOf]
theorem PRel.step {rs : List Str} {k : Nat} {E : List (Str × Str)} (h : PRel rs k E) (hk : k < rs.length) {p : Str × Str} (hb : ends1 rs[k] = some p) (ha : after (E.getLast?.map (·.2)) p.1 = true) : PRel rs (k + 1) (E ++ [p]) := by
  have hg := ends1_good hb
  refine ⟨?_, by rw [List.length_append, h.len]; rfl, ?_⟩
  · rw [h.eq, List.drop_eq_getElem_cons hk]
    simp only [prunsF, hb, ha, if_true]
    simp [Option.map_map, Function.comp_def]
  · intro q hq
    rw [lastOf_snoc]
    rcases List.mem_append.1 hq with hq | hq
    · obtain ⟨h1, h2, h3, h4⟩ := h.good q hq
      refine ⟨h1, h2, h3, ?_⟩
      cases e : E.getLast? with
      | none => rw [List.getLast?_eq_none_iff] at e; rw [e] at hq; simp at hq
      | some z =>
        rw [e] at ha
        simp only [Option.map_some, after, decide_eq_true_eq] at ha
        have : lastOf E = natVal z.2 := by unfold lastOf; rw [e]
        omega
    · simp at hq
      subst hq
      exact ⟨hg.1, hg.2.1, hg.2.2, Nat.le_refl _⟩
theorem PRel.done {rs : List Str} {k : Nat} {E : List (Str × Str)} (h : PRel rs k E) (hk : rs.length ≤ k) : prunsF none rs = some E := by
  rw [h.eq, List.drop_eq_nil_of_le hk]; simp [prunsF]
theorem nums_len (p : Str × Str) : (nums p).length = natVal p.2 + 1 - natVal p.1 := by simp [nums]
theorem expand_snoc (E : List (Str × Str)) (p : Str × Str) : expand (E ++ [p]) = expand E ++ nums p := by simp [expand]
theorem expand_le (E F : List (Str × Str)) : (expand E).length ≤ (expand (E ++ F)).length := by simp [expand]
theorem expand_take_le (E : List (Str × Str)) (k : Nat) : (expand (E.take k)).length ≤ (expand E).length := by
  have := expand_le (E.take k) (E.drop k)
  rwa [List.take_append_drop] at this
theorem parse_dash : parseList [45] = ([], 0) := rfl
theorem parse_bad {s : Str} (h : s ≠ [45]) (h1 : prunsF none (cutAt 44 s) = none) : parseList s = ([], 6) := by unfold parseList; rw [if_neg h, h1]
theorem parse_range {s : Str} {E : List (Str × Str)} (h : s ≠ [45]) (h1 : prunsF none (cutAt 44 s) = some E) (h2 : 1000000000 < lastOf E) : parseList s = ([], 7) := by unfold parseList; rw [if_neg h, h1]; simp [h2]
theorem parse_long {s : Str} {E : List (Str × Str)} (h : s ≠ [45]) (h1 : prunsF none (cutAt 44 s) = some E) (h2 : ¬ 1000000000 < lastOf E) (h3 : 500 < (expand E).length) : parseList s = ([], 3) := by unfold parseList; rw [if_neg h, h1]; simp [h2, h3]
theorem parse_ok {s : Str} {E : List (Str × Str)} (h : s ≠ [45]) (h1 : prunsF none (cutAt 44 s) = some E) (h2 : ¬ 1000000000 < lastOf E) (h3 : ¬ 500 < (expand E).length) : parseList s = (expand E, 0) := by unfold parseList; rw [if_neg h, h1]; simp [h2, h3]
end Wd

namespace Wd

/-- What the reading of a quoted form returns, is what the writing wrote. -/
theorem U_form : ∀ (n : Nat) (l t r : Str), l.length ≤ n → U l = some (t, r) → l = t.flatMap esc ++ 34 :: r
  | 0, l, t, r, hl, h => by
    have : l = [] := List.eq_nil_of_length_eq_zero (by omega)
    subst this; cases h
  | n + 1, [], t, r, hl, h => by cases h
  | n + 1, c :: u, t, r, hl, h => by
    cases hs : step1 (c :: u) with
    | none =>
      by_cases hc : c = 34
      · subst hc
        rw [U_quote] at h
        simp at h
        obtain ⟨rfl, rfl⟩ := h
        rfl
      · rw [U_stop hs hc] at h; cases h
    | some p =>
      obtain ⟨x, k⟩ := p
      rw [U_step hs] at h
      obtain ⟨⟨m, hm⟩, rfl⟩ := prefix_of_step1 hs
      cases hd : U ((c :: u).drop (esc x).length) with
      | none => rw [hd] at h; cases h
      | some q =>
        rw [hd] at h
        simp only [Option.map_some, Option.some.injEq, Prod.mk.injEq] at h
        obtain ⟨h1, h2⟩ := h
        have hdr : (c :: u).drop (esc x).length = m := by rw [← hm]; simp
        rw [hdr] at hd
        have hpos : 0 < (esc x).length := by
          have := step1_of_prefix (l := esc x ++ m) (c := x) ⟨m, rfl⟩
          rcases Nat.eq_zero_or_pos (esc x).length with h0 | h0
          · have e : esc x = [] := List.eq_nil_of_length_eq_zero h0
            have ho := escOk_all x
            unfold escOk at ho
            rw [e] at ho
            simp at ho
          · exact h0
        have hml : m.length ≤ n := by
          have := congrArg List.length hm
          simp only [List.length_append, List.length_cons] at this hl
          omega
        have ih := U_form n m q.1 q.2 hml hd
        rw [← hm, ← h1, ← h2, List.flatMap_cons, List.append_assoc]
        rw [← ih]
/-- Reading what was written. -/
theorem U_write : ∀ (t r : Str), U (t.flatMap esc ++ 34 :: r) = some (t, r)
  | [], r => U_quote r
  | c :: t, r => by
    rw [List.flatMap_cons, List.append_assoc]
    have hs := step1_of_prefix (l := esc c ++ (t.flatMap esc ++ 34 :: r)) (c := c) ⟨_, rfl⟩
    rw [U_step hs]
    simp only [List.drop_left]
    rw [U_write t r]
    rfl
theorem unq_form {s t r : Str} (h : unq s = some (t, r)) : s = quote t ++ r := by
  unfold unq at h
  split at h
  · rename_i u
    have := U_form _ u t r (Nat.le_refl _) h
    rw [this]; simp [quote]
  · cases h
theorem unq_write (t r : Str) : unq (quote t ++ r) = some (t, r) := by
  have e : quote t ++ r = 34 :: (t.flatMap esc ++ 34 :: r) := by simp [quote]
  rw [e, unq_U, U_write]
theorem unquote_quote (s : Str) : unquote (quote s) = some s := by
  unfold unquote
  have := unq_write s []
  rw [List.append_nil] at this
  rw [this]
theorem quote_unquote {s t : Str} (h : unquote s = some t) : quote t = s := by
  unfold unquote at h
  split at h
  · rename_i u hu
    obtain rfl := Option.some.inj h
    have := unq_form hu
    rw [this]; simp
  · cases h

theorem bare_head {b : Str} (h : bare b = true) : ∃ c t, b = c :: t ∧ c ≠ 34 := by
  unfold bare at h
  cases b with
  | nil => simp at h
  | cons c t =>
    refine ⟨c, t, rfl, ?_⟩
    intro e; subst e
    simp [bareCh, plain] at h
theorem bare_no {b : Str} (h : bare b = true) : ∀ x ∈ b, x ≠ 32 := by
  intro x hx e
  subst e
  unfold bare at h
  simp only [Bool.and_eq_true] at h
  have := List.all_eq_true.1 h.1 _ hx
  simp [bareCh] at this
theorem takeWhile_bare {b r : Str} (h : ∀ x ∈ b, x ≠ 32) (hr : r.head? = none ∨ r.head? = some 32) : (b ++ r).takeWhile (· != 32) = b ∧ (b ++ r).dropWhile (· != 32) = r := by
  induction b with
  | nil =>
    cases r with
    | nil => simp
    | cons y u =>
      rcases hr with hr | hr
      · simp at hr
      · simp at hr; subst hr; simp
  | cons c t ih =>
    have hc : (c != 32) = true := by simpa using h c (by simp)
    have := ih (fun x hx => h x (by simp [hx]))
    simp only [List.cons_append, List.takeWhile_cons, List.dropWhile_cons, hc, if_true, this.1, this.2]
    first | done | exact ⟨by first | rfl | trivial, by first | rfl | trivial⟩
/-- A field that was read. -/
theorem field1_form {s : Str} {f : Fld} {r : Str} (h : field1 s = some (f, r)) : s = word f ++ r ∧ okFld f = true := by
  unfold field1 at h
  split at h
  · rename_i t r' hu
    simp at h
    obtain ⟨rfl, rfl⟩ := h
    exact ⟨unq_form hu, rfl⟩
  · split at h
    · rename_i hb
      simp at h
      obtain ⟨rfl, rfl⟩ := h
      refine ⟨?_, by simpa [okFld] using hb⟩
      simp [word]
    · cases h
/-- A field that was written, before a space or at the end. -/
theorem field1_write {f : Fld} {r : Str} (h : okFld f = true) (hr : r.head? = none ∨ r.head? = some 32) : field1 (word f ++ r) = some (f, r) := by
  obtain ⟨t, q⟩ := f
  cases q with
  | true =>
    have e : word (t, true) = quote t := rfl
    rw [e, field1_unq (unq_write t r)]
  | false =>
    have e : word (t, false) = t := rfl
    have hb : bare t = true := by simpa [okFld] using h
    obtain ⟨c, u, rfl, hc⟩ := bare_head hb
    have hn : unq ((c :: u) ++ r) = none := unq_no (by simpa using hc)
    obtain ⟨h1, h2⟩ := takeWhile_bare (bare_no hb) hr
    unfold field1
    rw [e, hn, h1, h2]
    simp [hb]
theorem joined_cons (f : Fld) {l : List Fld} (h : l ≠ []) : joined (f :: l) = word f ++ 32 :: joined l := by
  have := joined_two (l := [f]) (m := l) (by simp) h
  rw [List.singleton_append] at this
  rw [this]
  simp [joined, Go.Lib.join_one]
theorem joined_one (f : Fld) : joined [f] = word f := by simp [joined, Go.Lib.join_one]
theorem F_form : ∀ (n : Nat) (s : Str) (l : List Fld), s.length ≤ n → F s = some l → joined l = s ∧ (∀ f ∈ l, okFld f = true) ∧ l ≠ []
  | n, s, l, hn, h => by
    cases hf : field1 s with
    | none => rw [F_none hf] at h; cases h
    | some p =>
      obtain ⟨f, r⟩ := p
      obtain ⟨e, hk⟩ := field1_form hf
      cases r with
      | nil =>
        rw [F_last hf] at h
        obtain rfl := Option.some.inj h
        refine ⟨?_, by simpa using hk, by simp⟩
        rw [joined_one, e]; simp
      | cons c r =>
        by_cases hc : c = 32
        · subst hc
          rw [F_next hf] at h
          cases hr : F r with
          | none => rw [hr] at h; cases h
          | some m =>
            rw [hr] at h
            obtain rfl := Option.some.inj h
            have hlt := field1_lt hf
            simp only [List.length_cons] at hlt
            match n, hn with
            | n + 1, hn =>
              obtain ⟨i1, i2, i3⟩ := F_form n r m (by omega) hr
              refine ⟨?_, ?_, by simp⟩
              · rw [joined_cons f i3, i1, e]
              · intro g hg
                rcases List.mem_cons.1 hg with rfl | hg
                · exact hk
                · exact i2 g hg
            | 0, hn => omega
        · rw [F_bad hf hc] at h; cases h
theorem F_write : ∀ (l : List Fld), l ≠ [] → (∀ f ∈ l, okFld f = true) → F (joined l) = some l
  | [], h, _ => absurd rfl h
  | [f], _, hk => by
    rw [joined_one]
    have := field1_write (f := f) (r := []) (hk f (by simp)) (.inl rfl)
    rw [List.append_nil] at this
    rw [F_last this]
  | f :: g :: l, _, hk => by
    rw [joined_cons f (by simp)]
    have := field1_write (f := f) (r := 32 :: joined (g :: l)) (hk f (by simp)) (.inr rfl)
    rw [F_next this, F_write (g :: l) (by simp) (fun x hx => hk x (by simp [hx]))]
    rfl
theorem joined_nil : joined [] = [] := rfl
theorem joined_ne {l : List Fld} (h : l ≠ []) (hk : ∀ f ∈ l, okFld f = true) : joined l ≠ [] := by
  intro e
  have := F_write l h hk
  rw [e] at this
  cases this
theorem join_split {s : Str} {l : List Fld} (h : split s = (l, 0)) : join l = (s, 0) := by
  unfold split at h
  split at h
  · cases h
  · rename_i h1
    split at h
    · rename_i h2
      simp at h
      subst h; subst h2
      rfl
    · cases hF : fields s with
      | none => rw [hF] at h; cases h
      | some m =>
        rw [hF] at h
        simp only at h
        split at h
        · cases h
        · rename_i h3
          simp only [Prod.mk.injEq, and_true] at h
          subst h
          obtain ⟨j1, j2, j3⟩ := F_form _ s m (Nat.le_refl _) hF
          simp only [Bool.or_eq_true, decide_eq_true_eq, not_or] at h3
          have hall : m.all okFld = true := List.all_eq_true.2 j2
          unfold join
          unfold joined at j1
          rw [if_neg h3.2, if_neg h3.1, j1, hall]
          simp [h1]
theorem split_join {l : List Fld} {t : Str} (h : join l = (t, 0)) : split t = (l, 0) := by
  unfold join at h
  split at h
  · cases h
  · rename_i h1
    split at h
    · cases h
    · rename_i h2
      split at h
      · cases h
      · rename_i h3
        split at h
        · cases h
        · rename_i h4
          simp only [Prod.mk.injEq, and_true] at h
          subst h
          unfold split
          rw [if_neg h4]
          have hall : ∀ f ∈ l, okFld f = true := by
            simp only [Bool.not_eq_true', Bool.not_eq_false] at h3
            exact List.all_eq_true.1 h3
          cases l with
          | nil => rfl
          | cons f m =>
            have hne : (f :: m) ≠ [] := by simp
            have := joined_ne hne hall
            have hw := F_write (f :: m) hne hall
            unfold joined at this hw
            rw [if_neg this, fields_F, hw]
            simp only
            rw [if_neg]
            simp only [Bool.or_eq_true, decide_eq_true_eq, not_or]
            exact ⟨h2, h1⟩
end Wd

namespace Wd

theorem u8_digit {c : UInt8} (h : digit c = true) : UInt8.ofNat (48 + (c.toNat - 48)) = c := by
  have := digit_nat h
  rw [show 48 + (c.toNat - 48) = c.toNat by omega]
  simp
theorem natVal_snoc (l : Str) (c : UInt8) : natVal (l ++ [c]) = 10 * natVal l + (c.toNat - 48) := by
  rw [natVal_eq, val_snoc]; rfl
theorem natVal_pos {c : UInt8} {t : Str} (hd : digit c = true) (h : c ≠ 48) : 1 ≤ natVal (c :: t) := by
  rw [natVal_cons]
  have := digit_nat hd
  have hne : c.toNat ≠ 48 := fun e => h (UInt8.toNat_inj.1 e)
  have h1 : 1 ≤ c.toNat - 48 := by omega
  have h2 : 1 ≤ 10 ^ t.length := Nat.one_le_pow _ _ (by omega)
  have := Nat.mul_le_mul h1 h2
  omega
theorem decDigits_natVal (l : Str) : natDec l = true → Go.Lib.decDigits (natVal l) = l := by
  refine snoc_ind (p := fun l => natDec l = true → Go.Lib.decDigits (natVal l) = l) (fun h => by simp [natDec] at h) (fun m c ih h => ?_) l
  have hall := (natDec_digits h).1
  rw [List.all_append, Bool.and_eq_true] at hall
  have hc : digit c = true := by simpa using hall.2
  have hcn := digit_nat hc
  rw [natVal_snoc]
  cases m with
  | nil =>
    rw [natVal_nil, Nat.mul_zero, Nat.zero_add, Go.Lib.decDigits_one (by omega), u8_digit hc]; rfl
  | cons d t =>
    have hd : digit d = true := by have := hall.1; simp at this; exact this.1
    have hd0 : d ≠ 48 := natDec_head h (by simp)
    have hm : natDec (d :: t) = true := by
      rw [natDec_of_digits hall.1]; simp [hd0]
    have hp := natVal_pos (t := t) hd hd0
    rw [Go.Lib.decDigits, dif_neg (by omega)]
    rw [show (10 * natVal (d :: t) + (c.toNat - 48)) / 10 = natVal (d :: t) by omega, ih hm,
      show (10 * natVal (d :: t) + (c.toNat - 48)) % 10 = c.toNat - 48 by omega, u8_digit hc]
theorem digit_of {k : Nat} (h : k < 10) : digit (UInt8.ofNat (48 + k)) = true ∧ (UInt8.ofNat (48 + k)).toNat = 48 + k := by
  have e : (UInt8.ofNat (48 + k)).toNat = 48 + k := by simp; omega
  refine ⟨?_, e⟩
  simp only [digit, Bool.and_eq_true, decide_eq_true_eq, u8le, e]
  exact ⟨by show 48 ≤ _; omega, by show _ ≤ 57; omega⟩
theorem decDigits_form (u : Nat) : (Go.Lib.decDigits u).all digit = true ∧ natVal (Go.Lib.decDigits u) = u ∧ Go.Lib.decDigits u ≠ [] ∧ (0 < u → (Go.Lib.decDigits u).head? ≠ some 48) := by
  induction u using Nat.strongRecOn with
  | ind u ih =>
    by_cases h : u < 10
    · rw [Go.Lib.decDigits_one h]
      obtain ⟨h1, h2⟩ := digit_of h
      refine ⟨by rw [List.all_cons, h1]; rfl, by rw [natVal_one, h2]; omega, by simp, fun h0 e => ?_⟩
      simp only [List.head?_cons, Option.some.injEq] at e
      rw [e] at h2
      have : (48 : UInt8).toNat = 48 := rfl
      omega
    · obtain ⟨i1, i2, i3, i4⟩ := ih (u / 10) (by omega)
      rw [Go.Lib.decDigits, dif_neg h]
      obtain ⟨h1, h2⟩ := digit_of (k := u % 10) (by omega)
      refine ⟨by rw [List.all_append, i1, List.all_cons, h1]; rfl, ?_, by simp, fun _ => ?_⟩
      · rw [natVal_snoc, i2, h2]; omega
      · cases e : Go.Lib.decDigits (u / 10) with
        | nil => exact absurd e i3
        | cons a t =>
          have := i4 (by omega)
          rw [e] at this
          simpa using this
theorem natDec_decDigits (u : Nat) : natDec (Go.Lib.decDigits u) = true := by
  obtain ⟨h1, h2, h3, h4⟩ := decDigits_form u
  cases e : Go.Lib.decDigits u with
  | nil => exact absurd e h3
  | cons a t =>
    rw [e] at h1 h4
    rw [natDec_of_digits h1]
    by_cases h0 : 0 < u
    · have := h4 h0
      simp at this
      simp [this]
    · obtain rfl : u = 0 := by omega
      rw [Go.Lib.decDigits_one (by omega)] at e
      obtain ⟨rfl, rfl⟩ := List.cons.inj e
      rfl
theorem natVal_decDigits (u : Nat) : natVal (Go.Lib.decDigits u) = u := (decDigits_form u).2.1
theorem itoa_nat {n : Int} (h : 0 ≤ n) : Go.Lib.itoa n = Go.Lib.decDigits n.toNat := by unfold Go.Lib.itoa; rw [if_neg (by omega)]
theorem natDec_itoa {n : Int} (h : 0 ≤ n) : natDec (Go.Lib.itoa n) = true := by rw [itoa_nat h]; exact natDec_decDigits _
theorem natVal_itoa {n : Int} (h : 0 ≤ n) : natVal (Go.Lib.itoa n) = n.toNat := by rw [itoa_nat h]; exact natVal_decDigits _
theorem itoa_natVal {l : Str} (h : natDec l = true) : Go.Lib.itoa (natVal l : Int) = l := by
  rw [itoa_nat (by omega), Int.toNat_natCast, decDigits_natVal l h]
theorem natDec_ne45 {l : Str} (h : natDec l = true) : ∀ t, l ≠ 45 :: t := by
  intro t e
  subst e
  have := (natDec_digits h).1
  simp [digit] at this
theorem intVal_nat {l : Str} (h : natDec l = true) : intVal l = (natVal l : Int) := by
  unfold intVal; split
  · exact absurd rfl (natDec_ne45 h _)
  · rfl
theorem decimal_itoa (n : Int) : decimal (Go.Lib.itoa n) = true ∧ intVal (Go.Lib.itoa n) = n := by
  by_cases h : 0 ≤ n
  · have hd := natDec_itoa h
    refine ⟨?_, ?_⟩
    · rw [decimal_pos (fun c t e => absurd e (natDec_ne45 hd _)), hd]
    · rw [intVal_nat hd, natVal_itoa h]; omega
  · have e : Go.Lib.itoa n = 45 :: Go.Lib.decDigits n.natAbs := by unfold Go.Lib.itoa; rw [if_pos (by omega)]
    have hd := natDec_decDigits n.natAbs
    obtain ⟨h1, h2, h3, h4⟩ := decDigits_form n.natAbs
    rw [e]
    cases e2 : Go.Lib.decDigits n.natAbs with
    | nil => exact absurd e2 h3
    | cons c t =>
      rw [e2] at hd h2 h4
      have hc := h4 (by omega)
      simp at hc
      refine ⟨by rw [decimal_neg hc, hd], ?_⟩
      show -(natVal (c :: t) : Int) = n
      rw [h2]; omega
theorem itoa_decimal {s : Str} (h : decimal s = true) : Go.Lib.itoa (intVal s) = s := by
  by_cases hm : ∃ c t, s = 45 :: c :: t ∧ c ≠ 48
  · obtain ⟨c, t, rfl, hc⟩ := hm
    rw [decimal_neg hc] at h
    have hd : digit c = true := by have := (natDec_digits h).1; simp at this; exact this.1
    have hp := natVal_pos (t := t) hd hc
    show Go.Lib.itoa (-(natVal (c :: t) : Int)) = _
    unfold Go.Lib.itoa
    rw [if_pos (by omega), show (-(natVal (c :: t) : Int)).natAbs = natVal (c :: t) by omega, decDigits_natVal _ h]
  · have hn : natDec s = true := by
      rw [decimal_pos (fun c t e => ?_)] at h
      · exact h
      · by_cases hc : c = 48
        · exact hc
        · exact absurd ⟨c, t, e, hc⟩ hm
    rw [intVal_nat hn, itoa_natVal hn]
theorem int_itoa {n : Int} (h1 : -9223372036854775808 ≤ n) (h2 : n ≤ 9223372036854775807) : intOfStr (Go.Lib.itoa n) n n = (n, 0) := by
  obtain ⟨a, b⟩ := decimal_itoa n
  unfold intOfStr
  rw [if_pos a, b, if_pos ⟨h1, h2, Int.le_refl _, Int.le_refl _⟩]
theorem itoa_int {s : Str} {lo hi k : Int} (h : intOfStr s lo hi = (k, 0)) : Go.Lib.itoa k = s := by
  unfold intOfStr at h
  split at h
  · rename_i hd
    split at h
    · simp only [Prod.mk.injEq, and_true] at h
      rw [← h]; exact itoa_decimal hd
    · simp at h
  · simp at h
end Wd

namespace Wd

def numsI (p : Int × Int) : List Int := (List.range (p.2 + 1 - p.1).toNat).map fun (i : Nat) => p.1 + (i : Int)
def chain : List (Int × Int) → Prop
  | [] => True
  | [p] => p.1 ≤ p.2
  | p :: q :: r => p.1 ≤ p.2 ∧ p.2 + 1 < q.1 ∧ chain (q :: r)
theorem numsI_one (a : Int) : numsI (a, a) = [a] := by
  unfold numsI
  rw [show ((a, a).2 + 1 - (a, a).1).toNat = 1 by simp; omega]
  simp [List.range_succ]
theorem numsI_cons {a b : Int} (h : a < b) : numsI (a, b) = a :: numsI (a + 1, b) := by
  unfold numsI
  obtain ⟨n, hn⟩ : ∃ n, (b + 1 - a).toNat = n + 1 := ⟨(b - a).toNat, by omega⟩
  simp only
  rw [hn, List.range_succ_eq_map, List.map_cons, List.map_map]
  rw [show (b + 1 - (a + 1)).toNat = n by omega]
  simp only [Int.natCast_zero, Int.add_zero, List.cons.injEq, true_and]
  apply List.map_congr_left
  intro i _
  simp only [Function.comp_apply, Nat.succ_eq_add_one]
  omega
theorem mem_numsI {p : Int × Int} {x : Int} (h : x ∈ numsI p) : p.1 ≤ x ∧ x ≤ p.2 := by
  unfold numsI at h
  simp only [List.mem_map, List.mem_range] at h
  obtain ⟨i, hi, rfl⟩ := h
  omega
theorem numsI_last {p : Int × Int} (h : p.1 ≤ p.2) : p.2 ∈ numsI p := by
  unfold numsI
  simp only [List.mem_map, List.mem_range]
  exact ⟨(p.2 - p.1).toNat, by omega, by omega⟩
theorem numsI_head {a b : Int} (h : a ≤ b) : ∃ t, numsI (a, b) = a :: t := by
  by_cases e : a = b
  · subst e; exact ⟨[], numsI_one a⟩
  · exact ⟨_, numsI_cons (by omega)⟩
theorem runs_nums (n : Nat) : ∀ (a b : Int) (rest : List Int), a ≤ b → (b - a).toNat = n → (∀ y, rest.head? = some y → y ≠ b + 1) → runs (numsI (a, b) ++ rest) = (a, b) :: runs rest := by
  induction n with
  | zero =>
    intro a b rest h hn hr
    obtain rfl : a = b := by omega
    rw [numsI_one]
    cases rest with
    | nil => rfl
    | cons y t =>
      have := hr y rfl
      exact runs_new a y t this
  | succ n ih =>
    intro a b rest h hn hr
    rw [numsI_cons (by omega)]
    have := ih (a + 1) b rest (by omega) (by omega) hr
    obtain ⟨t, ht⟩ := numsI_head (a := a + 1) (b := b) (by omega)
    rw [ht] at this ⊢
    exact runs_same a (a + 1) (t ++ rest) rfl b (runs rest) this
theorem incr_nums (n : Nat) : ∀ (a b : Int) (rest : List Int), a ≤ b → (b - a).toNat = n → (∀ y, rest.head? = some y → b < y) → incr rest = true → incr (numsI (a, b) ++ rest) = true := by
  induction n with
  | zero =>
    intro a b rest h hn hr hi
    obtain rfl : a = b := by omega
    rw [numsI_one]
    cases rest with
    | nil => rfl
    | cons y t =>
      have := hr y rfl
      show (decide (a < y) && incr (y :: t)) = true
      rw [hi]; simp [this]
  | succ n ih =>
    intro a b rest h hn hr hi
    rw [numsI_cons (by omega)]
    have := ih (a + 1) b rest (by omega) (by omega) hr hi
    obtain ⟨t, ht⟩ := numsI_head (a := a + 1) (b := b) (by omega)
    rw [ht] at this ⊢
    show (decide (a < a + 1) && incr ((a + 1) :: (t ++ rest))) = true
    rw [List.cons_append] at this
    rw [this]; simp; omega
theorem flat_head {q : Int × Int} {r : List (Int × Int)} (h : q.1 ≤ q.2) : ((q :: r).flatMap numsI).head? = some q.1 := by
  obtain ⟨t, ht⟩ := numsI_head (a := q.1) (b := q.2) h
  rw [List.flatMap_cons, ht]; rfl
theorem chain_one {p : Int × Int} {r : List (Int × Int)} (h : chain (p :: r)) : p.1 ≤ p.2 := by
  cases r with
  | nil => exact h
  | cons q r => exact h.1
theorem chain_tail {p : Int × Int} {r : List (Int × Int)} (h : chain (p :: r)) : chain r := by
  cases r with
  | nil => trivial
  | cons q r => exact h.2.2
theorem chain_head {p : Int × Int} {r : List (Int × Int)} (h : chain (p :: r)) : ∀ y, (r.flatMap numsI).head? = some y → p.2 + 1 < y := by
  intro y hy
  cases r with
  | nil => simp at hy
  | cons q r =>
    rw [flat_head (chain_one h.2.2)] at hy
    obtain rfl := Option.some.inj hy
    exact h.2.1
theorem runs_flat : ∀ (ps : List (Int × Int)), chain ps → runs (ps.flatMap numsI) = ps ∧ incr (ps.flatMap numsI) = true
  | [], _ => ⟨rfl, rfl⟩
  | p :: r, h => by
    obtain ⟨i1, i2⟩ := runs_flat r (chain_tail h)
    have h1 := chain_one h
    have h2 := chain_head h
    rw [List.flatMap_cons]
    refine ⟨?_, incr_nums _ p.1 p.2 _ h1 rfl (fun y hy => by have := h2 y hy; omega) i2⟩
    rw [runs_nums _ p.1 p.2 _ h1 rfl (fun y hy => by have := h2 y hy; omega), i1]
theorem chain_le : ∀ (ps : List (Int × Int)) (z : Int × Int), chain ps → ps.getLast? = some z → ∀ p ∈ ps, p.2 ≤ z.2
  | [], _, _, h => by simp at h
  | [q], z, _, h => by
    simp at h; subst h
    intro p hp; simp at hp; subst hp; exact Int.le_refl _
  | q :: q2 :: r, z, hc, h => by
    have hz : (q2 :: r).getLast? = some z := by simpa [List.getLast?_cons_cons] using h
    have ih := chain_le (q2 :: r) z hc.2.2 hz
    intro p hp
    rcases List.mem_cons.1 hp with rfl | hp
    · have := ih q2 (by simp)
      have := chain_one hc.2.2
      have := hc.2.1
      omega
    · exact ih p hp
theorem runs_chain : ∀ (l : List Int), incr l = true → chain (runs l) ∧ (runs l).flatMap numsI = l
  | [], _ => ⟨trivial, rfl⟩
  | [x], _ => ⟨Int.le_refl _, by rw [runs_one]; simp [numsI_one]⟩
  | x :: y :: t, h => by
    simp only [incr, Bool.and_eq_true, decide_eq_true_eq] at h
    obtain ⟨hxy, ht⟩ := h
    obtain ⟨i1, i2⟩ := runs_chain (y :: t) ht
    obtain ⟨b, r, hr⟩ := runs_cons_ne y t
    rw [hr] at i1 i2
    by_cases e : y = x + 1
    · rw [runs_same x y t e b r hr]
      have hyb : y ≤ b := chain_one i1
      refine ⟨?_, ?_⟩
      · cases r with
        | nil => show x ≤ b; omega
        | cons q r => exact ⟨by show x ≤ b; omega, i1.2.1, i1.2.2⟩
      · rw [List.flatMap_cons] at i2 ⊢
        rw [numsI_cons (by omega), ← e, List.cons_append, i2]
    · rw [runs_new x y t e, hr]
      refine ⟨⟨Int.le_refl _, by show x + 1 < y; omega, i1⟩, ?_⟩
      rw [List.flatMap_cons, numsI_one, i2]; rfl

/-! ### texts -/
theorem cutAt_join {c : UInt8} : ∀ {ps : List Str}, ps ≠ [] → (∀ p ∈ ps, ∀ x ∈ p, x ≠ c) → cutAt c (Go.Lib.join ps [c]) = ps
  | [], h, _ => absurd rfl h
  | [p], _, h => by rw [Go.Lib.join_one, cutAt_no (h p (by simp))]
  | p :: q :: r, _, h => by
    have e := join_two [p] (q :: r) [c] (by simp) (by simp)
    rw [Go.Lib.join_one] at e
    rw [← List.singleton_append, e, List.append_assoc, List.singleton_append, cutAt_first (h p (by simp)), cutAt_join (by simp) (fun x hx => h x (by simp [hx]))]
    rfl
theorem join_cutAt (c : UInt8) : ∀ s : Str, Go.Lib.join (cutAt c s) [c] = s
  | [] => by simp [cutAt, Go.Lib.join_one]
  | x :: t => by
    have ih := join_cutAt c t
    have hne := cutAt_ne c t
    by_cases h : x = c
    · subst h
      rw [cutAt_cons_eq]
      have e := join_two [[]] (cutAt x t) [x] (by simp) hne
      rw [Go.Lib.join_one, ih] at e
      simpa using e
    · cases e : cutAt c t with
      | nil => exact absurd e hne
      | cons p r =>
        rw [cutAt_cons_ne t h e]
        rw [e, Go.Lib.join_cons] at ih
        rw [Go.Lib.join_cons, List.cons_append, ih]
def valsI (p : Str × Str) : Int × Int := ((natVal p.1 : Int), (natVal p.2 : Int))
def txts (p : Int × Int) : Str × Str := (Go.Lib.itoa p.1, Go.Lib.itoa p.2)
theorem nums_I (p : Str × Str) : nums p = numsI (valsI p) := by
  unfold nums numsI valsI
  simp only
  rw [show ((natVal p.2 : Int) + 1 - (natVal p.1 : Int)).toNat = natVal p.2 + 1 - natVal p.1 by omega]
  apply List.map_congr_left
  intro i _
  omega
theorem expand_I (es : List (Str × Str)) : expand es = (es.map valsI).flatMap numsI := by
  unfold expand
  rw [List.flatMap_map]
  congr 1
  funext p
  exact nums_I p
/-- The text of a run that was read. -/
theorem runTxt_ends {r : Str} {p : Str × Str} (h : ends1 r = some p) : runTxt (valsI p) = r := by
  have hj := join_cutAt 45 r
  unfold ends1 at h
  split at h
  · rename_i a e
    rw [e, Go.Lib.join_one] at hj
    split at h
    · rename_i hd
      obtain rfl := Option.some.inj h
      unfold runTxt valsI
      rw [if_pos rfl, itoa_natVal hd, hj]
    · cases h
  · rename_i a b e
    rw [e] at hj
    have e2 := join_two [a] [b] [45] (by simp) (by simp)
    rw [Go.Lib.join_one, Go.Lib.join_one, List.singleton_append, hj] at e2
    split at h
    · rename_i hd
      obtain rfl := Option.some.inj h
      simp only [Bool.and_eq_true, decide_eq_true_eq] at hd
      unfold runTxt valsI
      rw [if_neg (by simp; omega), itoa_natVal hd.1.1, itoa_natVal hd.1.2, e2]
      simp
    · cases h
  · cases h
/-- The ends of a run that was written. -/
theorem ends_runTxt {p : Int × Int} (h0 : 0 ≤ p.1) (h : p.1 ≤ p.2) : ends1 (runTxt p) = some (txts p) := by
  have d1 := natDec_itoa h0
  have d2 := natDec_itoa (n := p.2) (by omega)
  have n1 := natDec_no d1
  have n2 := natDec_no d2
  unfold runTxt
  by_cases e : p.1 = p.2
  · rw [if_pos e, ends1_one (cutAt_no n1), if_pos d1]
    unfold txts; rw [← e]
  · rw [if_neg e]
    have hc : cutAt 45 (Go.Lib.itoa p.1 ++ 45 :: Go.Lib.itoa p.2) = [Go.Lib.itoa p.1, Go.Lib.itoa p.2] := by rw [cutAt_first n1, cutAt_no n2]
    rw [ends1_two hc, d1, d2, natVal_itoa h0, natVal_itoa (n := p.2) (by omega)]
    have : decide (p.1.toNat < p.2.toNat) = true := by simp; omega
    rw [this]; rfl
theorem vals_txts {p : Int × Int} (h0 : 0 ≤ p.1) (h : p.1 ≤ p.2) : valsI (txts p) = p := by
  unfold valsI txts
  simp only
  rw [natVal_itoa h0, natVal_itoa (n := p.2) (by omega)]
  obtain ⟨a, b⟩ := p
  simp at h0 h ⊢
  omega
theorem map_vals_txts : ∀ {rs : List (Int × Int)}, chain rs → (∀ p ∈ rs, 0 ≤ p.1) → (rs.map txts).map valsI = rs
  | [], _, _ => rfl
  | p :: r, hc, h0 => by
    rw [List.map_cons, List.map_cons, vals_txts (h0 p (by simp)) (chain_one hc), map_vals_txts (chain_tail hc) (fun q hq => h0 q (by simp [hq]))]
theorem pruns_form : ∀ (rs : List Str) (last : Option Str) (es : List (Str × Str)), prunsF last rs = some es → rs.map ends1 = es.map some ∧ chain (es.map valsI) ∧ (∀ p r, es = p :: r → after last p.1 = true)
  | [], last, es, h => by
    obtain rfl := Option.some.inj h
    exact ⟨rfl, trivial, by intro p r e; cases e⟩
  | r :: t, last, es, h => by
    simp only [prunsF] at h
    cases he : ends1 r with
    | none => rw [he] at h; cases h
    | some p =>
      rw [he] at h
      simp only at h
      split at h
      · rename_i ha
        cases hp : prunsF (some p.2) t with
        | none => rw [hp] at h; cases h
        | some fs =>
          rw [hp] at h
          obtain rfl := Option.some.inj h
          obtain ⟨i1, i2, i3⟩ := pruns_form t (some p.2) fs hp
          have hg := ends1_good he
          refine ⟨by rw [List.map_cons, List.map_cons, he, i1], ?_, ?_⟩
          · cases fs with
            | nil => show (natVal p.1 : Int) ≤ (natVal p.2 : Int); omega
            | cons q u =>
              refine ⟨by show (natVal p.1 : Int) ≤ (natVal p.2 : Int); omega, ?_, i2⟩
              have := i3 q u rfl
              simp only [after, decide_eq_true_eq] at this
              show (natVal p.2 : Int) + 1 < (natVal q.1 : Int)
              omega
          · intro q u e
            obtain ⟨rfl, rfl⟩ := List.cons.inj e
            exact ha
      · cases h
theorem pruns_write : ∀ (rs : List (Int × Int)) (last : Option Str), chain rs → (∀ p ∈ rs, 0 ≤ p.1) → (∀ p r, rs = p :: r → after last (Go.Lib.itoa p.1) = true) → prunsF last (rs.map runTxt) = some (rs.map txts)
  | [], _, _, _, _ => rfl
  | p :: r, last, hc, h0, ha => by
    have hp0 := h0 p (by simp)
    have h1 := chain_one hc
    simp only [List.map_cons, prunsF, ends_runTxt hp0 h1]
    have : after last (txts p).1 = true := ha p r rfl
    rw [if_pos this]
    rw [pruns_write r (some (txts p).2) (chain_tail hc) (fun q hq => h0 q (by simp [hq])) (fun q u e => ?_)]
    · rfl
    · subst e
      have h2 := hc.2.1
      show decide (_ < _) = true
      rw [decide_eq_true_eq]
      show natVal (Go.Lib.itoa p.2) + 1 < natVal (Go.Lib.itoa q.1)
      rw [natVal_itoa (n := p.2) (by omega), natVal_itoa (n := q.1) (by omega)]
      omega
theorem runTxt_no {p : Int × Int} (h0 : 0 ≤ p.1) (h : p.1 ≤ p.2) : ∀ x ∈ runTxt p, x ≠ 44 := by
  have dg : ∀ {l : Str}, natDec l = true → ∀ x ∈ l, x ≠ 44 := by
    intro l hl x hx e
    subst e
    have := List.all_eq_true.1 (natDec_digits hl).1 _ hx
    simp [digit] at this
  have d1 := dg (natDec_itoa h0)
  have d2 := dg (natDec_itoa (n := p.2) (by omega))
  intro x hx
  unfold runTxt at hx
  split at hx
  · exact d1 x hx
  · rcases List.mem_append.1 hx with hx | hx
    · exact d1 x hx
    · rcases List.mem_cons.1 hx with rfl | hx
      · decide
      · exact d2 x hx
theorem lastOf_vals {es : List (Str × Str)} {z : Int × Int} (h : (es.map valsI).getLast? = some z) : (lastOf es : Int) = z.2 := by
  rw [List.getLast?_map] at h
  cases e : es.getLast? with
  | none => rw [e] at h; cases h
  | some p =>
    rw [e] at h
    obtain rfl := Option.some.inj h
    unfold lastOf; rw [e]; rfl
theorem parse_list {l : List Int} {t : Str} (h : listTxt l = (t, 0)) : parseList t = (l, 0) := by
  unfold listTxt at h
  split at h
  · cases h
  · rename_i h1
    split at h
    · cases h
    · rename_i h2
      split at h
      · cases h
      · rename_i h3
        split at h
        · rename_i h4
          simp only [Prod.mk.injEq, and_true] at h
          subst h; subst h4
          rfl
        · rename_i h4
          simp only [Prod.mk.injEq, and_true] at h
          have hi : incr l = true := by simpa using h3
          obtain ⟨hc, hf⟩ := runs_chain l hi
          have hall : ∀ x ∈ l, 0 ≤ x ∧ x ≤ 1000000000 := by
            intro x hx
            simp only [Bool.not_eq_true, List.any_eq_false] at h2
            have := h2 x hx
            simp at this; omega
          have hne : runs l ≠ [] := by
            intro e; rw [e] at hf; exact h4 hf.symm
          have hmem : ∀ p ∈ runs l, 0 ≤ p.1 ∧ p.1 ≤ p.2 ∧ p.2 ≤ 1000000000 := by
            intro p hp
            have hle : p.1 ≤ p.2 := by
              have : ∀ (rs : List (Int × Int)), chain rs → ∀ p ∈ rs, p.1 ≤ p.2 := by
                intro rs
                induction rs with
                | nil => intro _ p hp; simp at hp
                | cons q r ih =>
                  intro hc p hp
                  rcases List.mem_cons.1 hp with rfl | hp
                  · exact chain_one hc
                  · exact ih (chain_tail hc) p hp
              exact this _ hc p hp
            have m1 : p.2 ∈ l := by rw [← hf]; exact List.mem_flatMap.2 ⟨p, hp, numsI_last hle⟩
            have m2 : p.1 ∈ l := by
              rw [← hf]; refine List.mem_flatMap.2 ⟨p, hp, ?_⟩
              obtain ⟨u, hu⟩ := numsI_head (a := p.1) (b := p.2) hle
              rw [show p = (p.1, p.2) from rfl, hu]; simp
            exact ⟨(hall _ m2).1, hle, (hall _ m1).2⟩
          have hcut : cutAt 44 t = (runs l).map runTxt := by
            rw [← h]
            refine cutAt_join (by simpa using hne) ?_
            intro p hp
            obtain ⟨q, hq, rfl⟩ := List.mem_map.1 hp
            exact runTxt_no (hmem q hq).1 (hmem q hq).2.1
          have hp : prunsF none (cutAt 44 t) = some ((runs l).map txts) := by
            rw [hcut]
            exact pruns_write _ none hc (fun p hp => (hmem p hp).1) (fun _ _ _ => rfl)
          have hex : expand ((runs l).map txts) = l := by
            rw [expand_I, map_vals_txts hc (fun p hp => (hmem p hp).1), hf]
          have ht45 : t ≠ [45] := by
            intro e
            rw [e] at hcut
            have : ((cutAt 44 [45]).map ends1) = [none] := by decide
            rw [hcut] at this
            cases hr : runs l with
            | nil => exact hne hr
            | cons p r =>
              rw [hr] at this
              have hm := hmem p (by rw [hr]; simp)
              simp [ends_runTxt hm.1 hm.2.1] at this
          have hlast : ¬ 1000000000 < lastOf ((runs l).map txts) := by
            cases hz : (runs l).getLast? with
            | none => rw [List.getLast?_eq_none_iff] at hz; exact absurd hz hne
            | some z =>
              have := lastOf_vals (es := (runs l).map txts) (z := z) (by rw [map_vals_txts hc (fun p hp => (hmem p hp).1), hz])
              have hm := hmem z (List.mem_of_getLast? hz)
              omega
          rw [parse_ok ht45 hp hlast (by rw [hex]; exact h1), hex]
theorem list_parse {s : Str} {l : List Int} (h : parseList s = (l, 0)) : listTxt l = (s, 0) := by
  unfold parseList at h
  split at h
  · rename_i e
    simp only [Prod.mk.injEq, and_true] at h
    subst h; subst e
    rfl
  · cases hp : prunsF none (cutAt 44 s) with
    | none => rw [hp] at h; simp at h
    | some es =>
      rw [hp] at h
      simp only at h
      split at h
      · simp at h
      · rename_i h1
        split at h
        · simp at h
        · rename_i h2
          simp only [Prod.mk.injEq, and_true] at h
          obtain ⟨m1, hc, _⟩ := pruns_form _ none es hp
          obtain ⟨r1, r2⟩ := runs_flat _ hc
          rw [← expand_I, h] at r1 r2
          rw [h] at h2
          have hne : es.map valsI ≠ [] := by
            intro e
            simp at e
            subst e
            simp at m1
            exact cutAt_ne 44 s m1
          have hlne : l ≠ [] := by
            intro e; rw [e] at r1; exact hne r1.symm
          have hany : (l.any fun n => decide (n < 0) || decide (1000000000 < n)) = false := by
            rw [List.any_eq_false]
            intro x hx
            rw [← h, expand_I] at hx
            obtain ⟨p, hp1, hp2⟩ := List.mem_flatMap.1 hx
            have hm := mem_numsI hp2
            cases hz : (es.map valsI).getLast? with
            | none => rw [List.getLast?_eq_none_iff] at hz; exact absurd hz hne
            | some z =>
              have hl := lastOf_vals hz
              have hle := chain_le _ z hc hz p hp1
              obtain ⟨q, _, rfl⟩ := List.mem_map.1 hp1
              have : (0 : Int) ≤ (valsI q).1 := by show (0 : Int) ≤ (natVal q.1 : Int); omega
              simp; omega
          have htxt : (runs l).map runTxt = cutAt 44 s := by
            rw [r1]
            have key : ∀ (rs : List Str) (es : List (Str × Str)), rs.map ends1 = es.map some → (es.map valsI).map runTxt = rs := by
              intro rs
              induction rs with
              | nil => intro es he; cases es with
                | nil => rfl
                | cons a b => simp at he
              | cons r t ih => intro es he; cases es with
                | nil => simp at he
                | cons a b =>
                  simp only [List.map_cons, List.cons.injEq] at he
                  rw [List.map_cons, List.map_cons, runTxt_ends he.1, ih b he.2]
            exact key _ _ m1
          unfold listTxt
          rw [if_neg h2, if_neg (by rw [hany]; simp), if_neg (by rw [r2]; simp), if_neg hlne, htxt, join_cutAt]
end Wd

namespace Wd

theorem expand_take_succ {E : List (Str × Str)} {k : Nat} (hk : k < E.length) : expand (E.take (k + 1)) = expand (E.take k) ++ nums E[k] := by
  rw [List.take_succ_eq_append_getElem hk, expand_snoc]
theorem nums_take {p : Str × Str} {j : Nat} (h : natVal p.1 + j ≤ natVal p.2) : (nums p).take (j + 1) = (nums p).take j ++ [(natVal p.1 : Int) + (j : Int)] := by
  have hj : j < (nums p).length := by rw [nums_len]; omega
  rw [List.take_succ_eq_append_getElem hj]
  simp [nums]
theorem nums_all {p : Str × Str} {j : Nat} (h : natVal p.2 < natVal p.1 + j) : (nums p).take j = nums p := List.take_of_length_le (by rw [nums_len]; omega)
theorem long_of {E : List (Str × Str)} {k : Nat} (hk : k < E.length) (h : 500 < (expand (E.take k) ++ nums E[k]).length) : 500 < (expand E).length := by
  rw [← expand_take_succ hk] at h
  exact Nat.lt_of_lt_of_le h (expand_take_le E (k + 1))
theorem lastOf_L {E : List (Str × Str)} {L : Str} (h : E.getLast?.map (·.2) = some L) : lastOf E = natVal L := by
  unfold lastOf
  cases e : E.getLast? with
  | none => rw [e] at h; cases h
  | some p => rw [e] at h; simp at h; show natVal p.2 = natVal L; rw [h]
theorem len_of_val {a b : Str} (ha : natDec a = true) (hb : natDec b = true) (h : natVal a ≤ natVal b) : a.length ≤ b.length := by
  rcases Nat.lt_or_ge b.length a.length with h1 | h1
  · have := len_lt hb ha h1
    omega
  · exact h1
theorem decimal_nat {x : Str} (h : natDec x = true) : decimal x = true := by
  rw [decimal_pos (fun c t e => absurd e (natDec_ne45 h _)), h]
theorem int_nat {x : Str} (h : natDec x = true) (hv : natVal x ≤ 1000000000) : intOfStr x 0 1000000000 = ((natVal x : Int), 0) := by
  unfold intOfStr
  rw [if_pos (decimal_nat h), intVal_nat h, if_pos ⟨by omega, by omega, by omega, by omega⟩]
end Wd

namespace Wd

theorem cut_at (c : UInt8) : ∀ l : Str, (∃ a b, l = a ++ c :: b ∧ (∀ x ∈ a, x ≠ c) ∧ Go.Lib.cut l [c] = (a, b, true)) ∨ ((∀ x ∈ l, x ≠ c) ∧ Go.Lib.cut l [c] = (l, [], false))
  | [] => .inr ⟨by simp, rfl⟩
  | x :: t => by
    have ih := cut_at c t
    by_cases h : x = c
    · subst h
      refine .inl ⟨[], t, rfl, by simp, ?_⟩
      unfold Go.Lib.cut
      rw [index_cons_eq]; simp
    · have hge := Go.Lib.index_ge t [c]
      unfold Go.Lib.cut at ih ⊢
      rw [index_cons_ne _ _ _ h]
      by_cases h1 : Go.Lib.index t [c] = -1
      · rw [h1] at ih ⊢
        rcases ih with ⟨a, b, e, ha, hc⟩ | ⟨ha, hc⟩
        · simp at hc
        · refine .inr ⟨?_, by simp⟩
          intro y hy
          rcases List.mem_cons.1 hy with rfl | hy
          · exact h
          · exact ha y hy
      · have h2 : (Go.Lib.index t [c] == -1) = false := beq_eq_false_iff_ne.2 h1
        have h3 : 0 ≤ Go.Lib.index t [c] := by omega
        have h4 : (Go.Lib.index t [c] + 1).toNat = (Go.Lib.index t [c]).toNat + 1 := by omega
        rw [if_pos h3] at ih
        rw [h2]
        simp only [Bool.false_eq_true, if_false]
        rw [if_pos (by omega), h4]
        rcases ih with ⟨a, b, e, ha, hc⟩ | ⟨ha, hc⟩
        · simp only [Prod.mk.injEq, and_true] at hc
          refine .inl ⟨x :: a, b, by rw [e]; rfl, ?_, ?_⟩
          · intro y hy
            rcases List.mem_cons.1 hy with rfl | hy
            · exact h
            · exact ha y hy
          · rw [Nat.add_right_comm, List.take_succ_cons, List.drop_succ_cons, hc.1, hc.2]
        · simp at hc
theorem ends1_nocut {r : Str} (h : ∀ x ∈ r, x ≠ 45) : ends1 r = if natDec r then some (r, r) else none := ends1_one (cutAt_no h)
theorem dec_head {b : Str} (h : b.head? ≠ some 45) : decimal b = natDec b := decimal_pos (fun c t e => by rw [e] at h; simp at h)
theorem dec_minus {b : Str} (h : b.head? = some 45) : natDec b = false := by
  cases b with
  | nil => rfl
  | cons c t =>
    simp at h; subst h
    cases t <;> simp [natDec, digit]
end Wd

namespace Wd

theorem parseUint10_dec (l : Str) : ∀ acc, l.all digit = true → val acc l ≤ 1000000000 → Go.Lib.parseUint10 acc l = .ok (val acc l) := by
  induction l with
  | nil => intro acc _ _; rfl
  | cons c t ih =>
    intro acc hd hv
    simp only [List.all_cons, Bool.and_eq_true] at hd
    have hc := digit_nat hd.1
    have hv' : val acc (c :: t) = val (10 * acc + (c.toNat - 48)) t := rfl
    rw [hv'] at hv ⊢
    have hge := val_ge t (10 * acc + (c.toNat - 48))
    simp only [Go.Lib.parseUint10]
    rw [if_pos hc, if_neg (by omega), if_neg (by omega), show acc * 10 + (c.toNat - 48) = 10 * acc + (c.toNat - 48) by omega]
    exact ih _ hd.2 hv
theorem atoi_dec {x : Str} (h : natDec x = true) (hv : natVal x ≤ 1000000000) : Go.Lib.atoiAll x = .ok (natVal x : Int) := by
  obtain ⟨hd, hne⟩ := natDec_digits h
  cases x with
  | nil => exact absurd rfl hne
  | cons c t =>
    have hc : digit c = true := by simp at hd; exact hd.1
    obtain ⟨h1, h2⟩ := digit_ne hc
    have e1 : (if c.toNat = 43 ∨ c.toNat = 45 then t else c :: t) = c :: t := if_neg h1
    have e2 : Go.Lib.parseMag (c :: t) = .ok (val 0 (c :: t)) := by
      unfold Go.Lib.parseMag
      rw [if_neg (by simp)]
      exact parseUint10_dec (c :: t) 0 hd hv
    unfold Go.Lib.atoiAll
    simp only [e1, e2]
    rw [natVal_eq] at hv
    rw [if_neg (by omega), if_neg (by omega), if_neg h2]
    rfl
end Wd
