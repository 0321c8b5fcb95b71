/-
  Walks: letterOf.
-/
import Derived.Test.YtffkohdnhaebjaaGreatDoorW5
namespace Go.Proofs.YtffkohdnhaebjaaGreatDoor
open Go.RowKit Go.Shelf

abbrev escAgg : Value := .agg #[.int .u8 34, .int .u8 34, .int .u8 92, .int .u8 92, .int .u8 10, .int .u8 110, .int .u8 13, .int .u8 114, .int .u8 9, .int .u8 116]
theorem ix0 (w : World) : (Instr.index 100 escAgg (.int .i64 0)).run Tryz.prog w = .ok (.agg #[.int .u8 34, .int .u8 34]) w := by kernel_rfl
theorem ix1 (w : World) : (Instr.index 100 escAgg (.int .i64 1)).run Tryz.prog w = .ok (.agg #[.int .u8 92, .int .u8 92]) w := by kernel_rfl
theorem ix2 (w : World) : (Instr.index 100 escAgg (.int .i64 2)).run Tryz.prog w = .ok (.agg #[.int .u8 10, .int .u8 110]) w := by kernel_rfl
theorem ix3 (w : World) : (Instr.index 100 escAgg (.int .i64 3)).run Tryz.prog w = .ok (.agg #[.int .u8 13, .int .u8 114]) w := by kernel_rfl
theorem ix4 (w : World) : (Instr.index 100 escAgg (.int .i64 4)).run Tryz.prog w = .ok (.agg #[.int .u8 9, .int .u8 116]) w := by kernel_rfl

/-- Of the first n bytes of the table none is c. -/
def escKey (i : Int) : UInt8 := if i = 0 then 34 else if i = 1 then 92 else if i = 2 then 10 else if i = 3 then 13 else 9
def NoE (c : UInt8) (n : Int) : Prop := 0 < n → ∀ i : Int, 0 ≤ i → i < n → c ≠ escKey i
theorem let_34 (c : UInt8) (h : (34 == (c.toNat : Int)) = true) : (34 : Int) = ((Wd.letter c).toNat : Int) := by
  have e : c = 34 := by rw [← UInt8.toNat_inj]; simp at h; simp; omega
  subst e; decide
theorem no_34 (c : UInt8) (h : NoE c 0) (h1 : (34 == (c.toNat : Int)) = false) : NoE c 1 := by
  intro _ i i0 i1
  by_cases hi : i = 0
  · subst hi; intro e; subst e; exact absurd h1 (by decide)
  · exact h (by omega) i i0 (by omega)
theorem let_92 (c : UInt8) (h : (92 == (c.toNat : Int)) = true) : (92 : Int) = ((Wd.letter c).toNat : Int) := by
  have e : c = 92 := by rw [← UInt8.toNat_inj]; simp at h; simp; omega
  subst e; decide
theorem no_92 (c : UInt8) (h : NoE c 1) (h1 : (92 == (c.toNat : Int)) = false) : NoE c 2 := by
  intro _ i i0 i1
  by_cases hi : i = 1
  · subst hi; intro e; subst e; exact absurd h1 (by decide)
  · exact h (by omega) i i0 (by omega)
theorem let_10 (c : UInt8) (h : (10 == (c.toNat : Int)) = true) : (110 : Int) = ((Wd.letter c).toNat : Int) := by
  have e : c = 10 := by rw [← UInt8.toNat_inj]; simp at h; simp; omega
  subst e; decide
theorem no_10 (c : UInt8) (h : NoE c 2) (h1 : (10 == (c.toNat : Int)) = false) : NoE c 3 := by
  intro _ i i0 i1
  by_cases hi : i = 2
  · subst hi; intro e; subst e; exact absurd h1 (by decide)
  · exact h (by omega) i i0 (by omega)
theorem let_13 (c : UInt8) (h : (13 == (c.toNat : Int)) = true) : (114 : Int) = ((Wd.letter c).toNat : Int) := by
  have e : c = 13 := by rw [← UInt8.toNat_inj]; simp at h; simp; omega
  subst e; decide
theorem no_13 (c : UInt8) (h : NoE c 3) (h1 : (13 == (c.toNat : Int)) = false) : NoE c 4 := by
  intro _ i i0 i1
  by_cases hi : i = 3
  · subst hi; intro e; subst e; exact absurd h1 (by decide)
  · exact h (by omega) i i0 (by omega)
theorem let_9 (c : UInt8) (h : (9 == (c.toNat : Int)) = true) : (116 : Int) = ((Wd.letter c).toNat : Int) := by
  have e : c = 9 := by rw [← UInt8.toNat_inj]; simp at h; simp; omega
  subst e; decide
theorem no_9 (c : UInt8) (h : NoE c 4) (h1 : (9 == (c.toNat : Int)) = false) : NoE c 5 := by
  intro _ i i0 i1
  by_cases hi : i = 4
  · subst hi; intro e; subst e; exact absurd h1 (by decide)
  · exact h (by omega) i i0 (by omega)
theorem no_all (c : UInt8) (h : NoE c 5) : (0 : Int) = ((Wd.letter c).toNat : Int) := by
  have h0 := h (by decide) 0 (by decide) (by decide)
  have h1 := h (by decide) 1 (by decide) (by decide)
  have h2 := h (by decide) 2 (by decide) (by decide)
  have h3 := h (by decide) 3 (by decide) (by decide)
  have h4 := h (by decide) 4 (by decide) (by decide)
  simp [escKey] at h0 h1 h2 h3 h4
  have e : Wd.letter c = 0 := by
    unfold Wd.letter
    simp [h0, h1, h2, h3, h4]
  rw [e]; rfl

set_option maxHeartbeats 400000 in
set_option maxRecDepth 100000 in
theorem letterOf_any (c : UInt8) (w : World) (hE : Env w) : Calls Tryz.prog 44 #[B8 c] w fun e w' => e = .returned (B8 (Wd.letter c)) ∧ Below w.heap.size w w' := by
  have c0 := hE.esc 0 (by decide)
  have c1 := hE.esc 1 (by decide)
  have c2 := hE.esc 2 (by decide)
  have c3 := hE.esc 3 (by decide)
  have c4 := hE.esc 4 (by decide)
  have c5 := hE.esc 5 (by decide)
  have c6 := hE.esc 6 (by decide)
  have c7 := hE.esc 7 (by decide)
  have c8 := hE.esc 8 (by decide)
  have c9 := hE.esc 9 (by decide)
  simp only [List.getD_cons_zero, List.getD_cons_succ] at c0 c1 c2 c3 c4 c5 c6 c7 c8 c9
  go_enter Tryz.func44, Tryz.ntmps44
  go_wp2
  clear c0 c1 c2 c3 c4 c5 c6 c7 c8 c9
  go_loopw [6] (fun i wr => ∃ n : Int, 0 ≤ n ∧ n ≤ 5 ∧ i = .int .i64 n ∧ NoE c n ∧ Below w.heap.size w wr) (fun i _ => 5 - (intOf i).toNat)
  case atStart => exact ⟨0, by decide, by decide, rfl, fun h => absurd h (by decide), Below.refl _ _⟩
  case round =>
    obtain ⟨n, h0, h5, rfl, hno, hbr⟩ := hrel
    have hn : n = 0 ∨ n = 1 ∨ n = 2 ∨ n = 3 ∨ n = 4 ∨ n = 5 := by omega
    rcases hn with rfl | rfl | rfl | rfl | rfl | rfl
    · have i1 := ix0
      go_wp2
      · go_ret
        exact ⟨ret_int (let_34 c ‹_›), hbr.alloc hbr.size _⟩
      · go_roundw
        case rel => exact ⟨1, by decide, by decide, rfl, no_34 c hno ‹_›, hbr.alloc hbr.size _⟩
        case measure => simp [intOf]
    · have i1 := ix1
      go_wp2
      · go_ret
        exact ⟨ret_int (let_92 c ‹_›), hbr.alloc hbr.size _⟩
      · go_roundw
        case rel => exact ⟨2, by decide, by decide, rfl, no_92 c hno ‹_›, hbr.alloc hbr.size _⟩
        case measure => simp [intOf]
    · have i1 := ix2
      go_wp2
      · go_ret
        exact ⟨ret_int (let_10 c ‹_›), hbr.alloc hbr.size _⟩
      · go_roundw
        case rel => exact ⟨3, by decide, by decide, rfl, no_10 c hno ‹_›, hbr.alloc hbr.size _⟩
        case measure => simp [intOf]
    · have i1 := ix3
      go_wp2
      · go_ret
        exact ⟨ret_int (let_13 c ‹_›), hbr.alloc hbr.size _⟩
      · go_roundw
        case rel => exact ⟨4, by decide, by decide, rfl, no_13 c hno ‹_›, hbr.alloc hbr.size _⟩
        case measure => simp [intOf]
    · have i1 := ix4
      go_wp2
      · go_ret
        exact ⟨ret_int (let_9 c ‹_›), hbr.alloc hbr.size _⟩
      · go_roundw
        case rel => exact ⟨5, by decide, by decide, rfl, no_9 c hno ‹_›, hbr.alloc hbr.size _⟩
        case measure => simp [intOf]
    · go_wp2
      go_ret
      exact ⟨ret_int (no_all c hno), hbr⟩
end Go.Proofs.YtffkohdnhaebjaaGreatDoor
