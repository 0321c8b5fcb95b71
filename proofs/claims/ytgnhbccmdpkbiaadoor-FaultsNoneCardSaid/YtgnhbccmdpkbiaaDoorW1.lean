/-
  Walks of small functions of words and its reference.
-/
import Derived.Test.YtgnhbccmdpkbiaaDoorProg
import Derived.Test.YtgnhbccmdpkbiaaDoorPlain
import Derived.WalkKit
import Derived.Laws.IdiomStrings
namespace Go.Proofs.YtgnhbccmdpkbiaaDoor
open Go.RowKit

abbrev B8 (c : UInt8) : Value := .int .u8 c.toNat

theorem ret_bool {a b : Bool} (h : a = b) : Ending.returned (.bool a) = .returned (.bool b) := by rw [h]
theorem ret_int {k : IntKind} {a b : Int} (h : a = b) : Ending.returned (.int k a) = .returned (.int k b) := by rw [h]
theorem ret_str {a b : ByteArray} (h : a = b) : Ending.returned (.string a) = .returned (.string b) := by rw [h]

theorem lower_eq (c : UInt8) : Wd.lower c = (decide (97 ≤ (c.toNat : Int)) && decide ((c.toNat : Int) ≤ 122)) := by
  unfold Wd.lower; rw [Bool.eq_iff_iff]; simp [UInt8.le_iff_toNat_le]; omega
theorem digit_eq (c : UInt8) : Wd.digit c = (decide (48 ≤ (c.toNat : Int)) && decide ((c.toNat : Int) ≤ 57)) := by
  unfold Wd.digit; rw [Bool.eq_iff_iff]; simp [UInt8.le_iff_toNat_le]; omega
theorem beq_nat (c d : UInt8) : (c == d) = ((c.toNat : Int) == (d.toNat : Int)) := by
  rw [Bool.eq_iff_iff]; simp [← UInt8.toNat_inj]; omega
theorem plain_eq (c : UInt8) : Wd.plain c = (decide (32 ≤ (c.toNat : Int)) && decide ((c.toNat : Int) ≤ 126) && (c.toNat : Int) != 34 && (c.toNat : Int) != 92) := by
  unfold Wd.plain; rw [Bool.eq_iff_iff]
  simp [UInt8.le_iff_toNat_le, ← UInt8.toNat_inj]; omega

theorem hex_tab : ∀ i : Fin 16, ((⟨#[48, 49, 50, 51, 52, 53, 54, 55, 56, 57, 97, 98, 99, 100, 101, 102]⟩ : ByteArray)[i.val]?).getD 0 = Wd.hexd (UInt8.ofNat i.val) := by decide +kernel
/-- A new slice of one byte, of two bytes, as a string. -/
theorem str1 (w : World) (x : UInt8) : (convert 71 9 (.slice (some ⟨w.heap.size, 0, none⟩) 1 1)).run Tryd.prog (w.alloc (.cells #[B8 x] 5)) = .ok (.string ⟨#[x]⟩) (w.alloc (.cells #[B8 x] 5)) :=
  run_convert_bytes_back (P := Tryd.prog) (w.alloc (.cells #[B8 x] 5)) 71 9 5 ⟨w.heap.size, 0, none⟩ 1 [x] Tryd.underlying71 Tryd.underlying5 Tryd.underlying9 (by
    intro j hj
    match j, hj with
    | 0, _ => rw [show (⟨w.heap.size, 0, none⟩ : Addr).add 0 = ⟨w.heap.size, 0, none⟩ from rfl, World.cell?_alloc_at _ _ _ _ rfl]; rfl)
theorem str2 (w : World) (x y : UInt8) : (convert 71 9 (.slice (some ⟨w.heap.size, 0, none⟩) 2 2)).run Tryd.prog (w.alloc (.cells #[B8 x, B8 y] 5)) = .ok (.string ⟨#[x, y]⟩) (w.alloc (.cells #[B8 x, B8 y] 5)) :=
  run_convert_bytes_back (P := Tryd.prog) (w.alloc (.cells #[B8 x, B8 y] 5)) 71 9 5 ⟨w.heap.size, 0, none⟩ 2 [x, y] Tryd.underlying71 Tryd.underlying5 Tryd.underlying9 (by
    intro j hj
    match j, hj with
    | 0, _ => rw [show (⟨w.heap.size, 0, none⟩ : Addr).add 0 = ⟨w.heap.size, 0, none⟩ from rfl, World.cell?_alloc_at _ _ _ _ rfl]; rfl
    | 1, _ => rw [show (⟨w.heap.size, 0, none⟩ : Addr).add 1 = ⟨w.heap.size, 1, none⟩ from rfl, World.cell?_alloc_at _ _ _ _ rfl]; rfl)

theorem esc_34 (c : UInt8) (h : ((c.toNat : Int) == 34) = true) : Wd.esc c = [92, 34] := by
  have : c = 34 := by rw [← UInt8.toNat_inj]; simp at h; simp; omega
  subst this; decide
theorem esc_92 (c : UInt8) (h : ((c.toNat : Int) == 92) = true) : Wd.esc c = [92, 92] := by
  have : c = 92 := by rw [← UInt8.toNat_inj]; simp at h; simp; omega
  subst this; decide
theorem esc_10 (c : UInt8) (h : ((c.toNat : Int) == 10) = true) : Wd.esc c = [92, 110] := by
  have : c = 10 := by rw [← UInt8.toNat_inj]; simp at h; simp; omega
  subst this; decide
theorem esc_13 (c : UInt8) (h : ((c.toNat : Int) == 13) = true) : Wd.esc c = [92, 114] := by
  have : c = 13 := by rw [← UInt8.toNat_inj]; simp at h; simp; omega
  subst this; decide
theorem esc_9 (c : UInt8) (h : ((c.toNat : Int) == 9) = true) : Wd.esc c = [92, 116] := by
  have : c = 9 := by rw [← UInt8.toNat_inj]; simp at h; simp; omega
  subst this; decide
theorem esc_x (c : UInt8) (hp : Wd.plain c = false) (h1 : ((c.toNat : Int) == 34) = false) (h2 : ((c.toNat : Int) == 92) = false) (h3 : ((c.toNat : Int) == 10) = false) (h4 : ((c.toNat : Int) == 13) = false) (h5 : ((c.toNat : Int) == 9) = false) :
    Wd.esc c = [92, 120] ++ [Wd.hexd (UInt8.ofNat (c.toNat / 16)), Wd.hexd (UInt8.ofNat (c.toNat % 16))] := by
  have e : ∀ n : Nat, n < 256 → ((c.toNat : Int) == (n : Int)) = false → (c == UInt8.ofNat n) = false := by
    intro n hn h
    rw [beq_eq_false_iff_ne] at h ⊢
    intro hc; apply h; rw [hc]; simp; omega
  have hl : Wd.letter c = 0 := by
    unfold Wd.letter
    rw [e 34 (by decide) h1 |> (show (c == 34) = false from ·), e 92 (by decide) h2 |> (show (c == 92) = false from ·), e 10 (by decide) h3 |> (show (c == 10) = false from ·), e 13 (by decide) h4 |> (show (c == 13) = false from ·), e 9 (by decide) h5 |> (show (c == 9) = false from ·)]
    rfl
  unfold Wd.esc
  rw [hp, hl]
  have hlt := c.toNat_lt
  have a1 : UInt8.ofNat (c.toNat / 16) = c / 16 := by
    rw [← UInt8.toNat_inj]; simp; omega
  have a2 : UInt8.ofNat (c.toNat % 16) = c % 16 := by
    rw [← UInt8.toNat_inj]; simp; omega
  rw [a1, a2]; rfl

end Go.Proofs.YtgnhbccmdpkbiaaDoor
