/-
  Plain functions for layer 1 (words), second part: fields and lines, list expressions. No program in this text.
-/
import Derived.Test.YtffkohdnhaebjaaDoorPlain1
import Derived.Lib.Join
namespace Wd

abbrev Fld := Str × Bool

def bareCh (c : UInt8) : Bool := plain c && c != 32
def bare (s : Str) : Bool := s.all bareCh && !s.isEmpty

/-- A field at the beginning of a string and what is left behind it. -/
def field1 (s : Str) : Option (Fld × Str) :=
  match unq s with
  | some (t, r) => some ((t, true), r)
  | none => if bare (s.takeWhile (· != 32)) then some ((s.takeWhile (· != 32), false), s.dropWhile (· != 32)) else none

/-- The fields of a line that is not empty (fuel: its length and one). -/
def fieldsF : Nat → Str → Option (List Fld)
  | 0, _ => none
  | n + 1, s => match field1 s with
    | none => none
    | some (f, r) => match r with
      | [] => some [f]
      | c :: r' => if c == 32 then (fieldsF n r').map (f :: ·) else none
def fields (s : Str) : Option (List Fld) := fieldsF (s.length + 1) s

/-- words.Split: the error number; the fields. -/
def split (s : Str) : List Fld × Int :=
  if 8192 < s.length then ([], 3)
  else if s = [] then ([], 0)
  else match fields s with
    | none => ([], 6)
    | some l => if l.any (fun f => 2000 < f.1.length) || 64 < l.length then ([], 3) else (l, 0)

def word (f : Fld) : Str := if f.2 then quote f.1 else f.1
def okFld (f : Fld) : Bool := f.2 || bare f.1
/-- words.Join. -/
def join (l : List Fld) : Str × Int :=
  if 64 < l.length then ([], 3)
  else if l.any (fun f => 2000 < f.1.length) then ([], 3)
  else if !l.all okFld then ([], 6)
  else if 8192 < (Go.Lib.join (l.map word) [32]).length then ([], 3)
  else (Go.Lib.join (l.map word) [32], 0)

/-- A string cut at each place of a byte: the pieces. -/
def cutAt (c : UInt8) : Str → List Str
  | [] => [[]]
  | x :: t => if x == c then [] :: cutAt c t else match cutAt c t with
    | [] => [[x]]
    | p :: r => (x :: p) :: r

/-- words.Lines. -/
def lines (s : Str) : List Str × Int :=
  if 1048576 < s.length then ([], 3)
  else if s = [] then ([], 0)
  else if s.getLast? ≠ some 10 then ([], 6)
  else if 5000 < (cutAt 10 s.dropLast).length then ([], 3)
  else (cutAt 10 s.dropLast, 0)
end Wd
