/-
  Plain laws, fourth part: escapes.
-/
import Derived.Test.YtffkohdnhaebjaaDoorPlain1
import Derived.Lib.Bytealg
namespace Wd

def unescV (s : Str) : UInt8 × Nat := (unesc s).getD (0, 0)

theorem unletter_none {l : UInt8} (h : l ≠ 34 ∧ l ≠ 92 ∧ l ≠ 110 ∧ l ≠ 114 ∧ l ≠ 116) : unletter l = none := by
  obtain ⟨h1, h2, h3, h4, h5⟩ := h
  simp [unletter, h1, h2, h3, h4, h5]
theorem unesc_letter {l c : UInt8} {t : Str} (h : unletter l = some c) : unescV (l :: t) = (c, 1) := by simp [unescV, unesc, h]
theorem unesc_nox {l : UInt8} {t : Str} (h : unletter l = none) (hx : l ≠ 120) : unescV (l :: t) = (0, 0) := by simp [unescV, unesc, h, hx]
theorem unesc_short {t : Str} (h : t.length < 2) : unescV (120 :: t) = (0, 0) := by
  match t, h with
  | [], _ => rfl
  | [x], _ => rfl
theorem unesc_hex {h k : UInt8} {t : Str} : unescV (120 :: h :: k :: t) = (match hexv h, hexv k with
    | some a, some b => if plain (a * 16 + b) || letter (a * 16 + b) != 0 then (0, 0) else (a * 16 + b, 3)
    | _, _ => (0, 0)) := by
  have e : unletter 120 = none := by decide
  simp only [unescV, unesc, e]
  cases hexv h with
  | none => rfl
  | some a =>
    cases hexv k with
    | none => rfl
    | some b => simp only [beq_self_eq_true, if_true]; split <;> rfl

def hexs : Str := [48, 49, 50, 51, 52, 53, 54, 55, 56, 57, 97, 98, 99, 100, 101, 102]
def ixOk (c : UInt8) : Bool := match hexv c with
  | some a => Go.Lib.indexByte hexs c == (a.toNat : Int) && decide (a.toNat < 16)
  | none => Go.Lib.indexByte hexs c == -1
theorem ix_fin : ∀ i : Fin 256, ixOk (UInt8.ofNat i.val) = true := by decide +kernel
theorem ix_all (c : UInt8) : ixOk c = true := by
  have := ix_fin ⟨c.toNat, c.toNat_lt⟩
  simpa using this
theorem ix_some {c a : UInt8} (h : hexv c = some a) : Go.Lib.indexByte hexs c = (a.toNat : Int) ∧ a.toNat < 16 := by
  have := ix_all c
  simp only [ixOk, h, Bool.and_eq_true, beq_iff_eq, decide_eq_true_eq] at this
  exact this
theorem ix_none {c : UInt8} (h : hexv c = none) : Go.Lib.indexByte hexs c = -1 := by
  have := ix_all c
  simp only [ixOk, h, beq_iff_eq] at this
  exact this
end Wd
