/-
  Walks: the reference's quoted, Unquote.
-/
import Derived.Test.YtffkohdnhaebjaaGreatDoorW12
import Derived.Test.YtffkohdnhaebjaaGreatDoorW10
import Derived.WalkSpells
namespace Go.Proofs.YtffkohdnhaebjaaGreatDoor
open Go.RowKit Go.Shelf

theorem uq_step {l acc : List UInt8} {k n : Nat} {x : UInt8} (h : UqRel l acc k) (hs : Wd.step1 (l.drop k) = some (x, n)) : UqRel l (acc ++ [x]) (k + n) := by
  unfold UqRel at h ⊢
  rw [h, Wd.U_step hs, List.drop_drop]
  cases Wd.U (l.drop (k + n)) <;> simp
theorem uq_stop {s : ByteArray} {acc : List UInt8} {k : Nat} (hk : k < s.size) (h : UqRel s.data.toList acc k) (hc : s[k] ≠ 34) (hs : Wd.step1 (s.data.toList.drop k) = none) : Wd.unq s.data.toList = none := by
  unfold UqRel at h
  rw [h]
  rw [drop_cons hk] at hs ⊢
  rw [Wd.U_stop hs hc]; rfl
theorem step_none {l : List UInt8} (h : ∀ c : Nat, c < 256 → ¬ (Wd.esc (UInt8.ofNat c) <+: l)) : Wd.step1 l = none := by
  cases hs : Wd.step1 l with
  | none => rfl
  | some p =>
    obtain ⟨x, k⟩ := p
    have := (Wd.prefix_of_step1 hs).1
    exact absurd (by simpa using this) (h x.toNat x.toNat_lt)
theorem prefix_len {s : ByteArray} {k : Nat} {f : List UInt8} (h : f <+: s.data.toList.drop k) : f.length ≤ s.size - k := by
  have := h.length_le
  rw [List.length_drop, ← size_list] at this; exact this
theorem prefix_eq {s : ByteArray} {k : Nat} {f : List UInt8} : ((s.extract k (k + f.length)).toList == f) = true ↔ f <+: s.data.toList.drop k := by
  rw [beq_iff_eq, Lib.extract_toList]
  have e : k + f.length - k = f.length := by omega
  rw [e]
  constructor
  · intro h; rw [← h]; exact List.take_prefix _ _
  · rintro ⟨r, hr⟩; rw [← hr]; simp
theorem esc_pos (c : UInt8) : 1 ≤ (Wd.esc c).length := by
  unfold Wd.esc; split
  · simp
  · split <;> simp

theorem one_new_int (w : World) (c : Nat) (hc : c < 256) : ∀ j (hj : j < [UInt8.ofNat c].length), (w.alloc (.cells #[.int .u8 (c : Int)] 5)).cell? ((⟨w.heap.size, 0, none⟩ : Addr).add j) = some (B8 [UInt8.ofNat c][j]) := by
  have e : Value.int .u8 (c : Int) = B8 (UInt8.ofNat c) := by
    unfold B8; simp only [UInt8.toNat_ofNat']; congr 1; omega
  rw [e]; exact one_new w _

/-- The inner loop's state: not found below c, or found. -/
def InQ (l : List UInt8) (k : Nat) (acc : List UInt8) (B : Nat) (v4 v5 v6 : Value) (c : Nat) (wr : World) : Prop :=
  (v6 = .bool false ∧ v5 = .int .i64 k ∧ OwnB wr B v4 acc ∧ ∀ j : Nat, j < c → ¬ (Wd.esc (UInt8.ofNat j) <+: l.drop k)) ∨
  (v6 = .bool true ∧ ∃ x n, Wd.step1 (l.drop k) = some (x, n) ∧ v5 = .int .i64 ((k : Int) + n) ∧ k + n ≤ l.length ∧ 1 ≤ n ∧ OwnB wr B v4 (acc ++ [x]))

end Go.Proofs.YtffkohdnhaebjaaGreatDoor
