/-
  Walks for layer 26 (model): the handlers of the kinds of calls; their fields.
-/
import Derived.Test.YtaicmiadgnpimaaMw45
namespace Go.Proofs.Ytaicmiadgnpimaa
open Go.RowKit

/-- A kind's row. -/
def hRow : Nat → List Value
 | 0 => [.bool false, .bool false, .bool false, .bool false, .bool false, .bool false, Value.nilFunc, Value.nilFunc]
 | 1 => [.bool true, .bool true, .bool false, .bool true, .bool false, .bool false, .func (.func 44) #[] #[], .func (.func 45) #[] #[]]
 | 2 => [.bool true, .bool true, .bool true, .bool false, .bool false, .bool false, .func (.func 46) #[] #[], .func (.func 47) #[] #[]]
 | 3 => [.bool true, .bool true, .bool false, .bool false, .bool false, .bool false, .func (.func 48) #[] #[], .func (.func 49) #[] #[]]
 | 4 => [.bool true, .bool true, .bool false, .bool false, .bool false, .bool false, .func (.func 50) #[] #[], .func (.func 51) #[] #[]]
 | 5 => [.bool false, .bool false, .bool false, .bool true, .bool false, .bool false, .func (.func 52) #[] #[], .func (.func 53) #[] #[]]
 | 6 => [.bool false, .bool false, .bool false, .bool false, .bool false, .bool false, .func (.func 54) #[] #[], .func (.func 55) #[] #[]]
 | 7 => [.bool false, .bool true, .bool false, .bool false, .bool true, .bool false, .func (.func 54) #[] #[], Value.nilFunc]
 | 8 => [.bool true, .bool true, .bool false, .bool false, .bool false, .bool false, .func (.func 54) #[] #[], .func (.func 56) #[] #[]]
 | 9 => [.bool true, .bool false, .bool false, .bool false, .bool false, .bool false, .func (.func 54) #[] #[], .func (.func 57) #[] #[]]
 | _ => [.bool true, .bool false, .bool false, .bool false, .bool false, .bool true, .func (.func 54) #[] #[], .func (.func 58) #[] #[]]
theorem hRow_len (k : Nat) : (hRow k).length = 8 := by
 unfold hRow
 split <;> rfl
def hCells : List Value := [.bool false, .bool false, .bool false, .bool false, .bool false, .bool false, Value.nilFunc, Value.nilFunc, .bool true, .bool true, .bool false, .bool true, .bool false, .bool false, .func (.func 44) #[] #[], .func (.func 45) #[] #[], .bool true, .bool true, .bool true, .bool false, .bool false, .bool false, .func (.func 46) #[] #[], .func (.func 47) #[] #[], .bool true, .bool true, .bool false, .bool false, .bool false, .bool false, .func (.func 48) #[] #[], .func (.func 49) #[] #[], .bool true, .bool true, .bool false, .bool false, .bool false, .bool false, .func (.func 50) #[] #[], .func (.func 51) #[] #[], .bool false, .bool false, .bool false, .bool true, .bool false, .bool false, .func (.func 52) #[] #[], .func (.func 53) #[] #[], .bool false, .bool false, .bool false, .bool false, .bool false, .bool false, .func (.func 54) #[] #[], .func (.func 55) #[] #[], .bool false, .bool true, .bool false, .bool false, .bool true, .bool false, .func (.func 54) #[] #[], Value.nilFunc, .bool true, .bool true, .bool false, .bool false, .bool false, .bool false, .func (.func 54) #[] #[], .func (.func 56) #[] #[], .bool true, .bool false, .bool false, .bool false, .bool false, .bool false, .func (.func 54) #[] #[], .func (.func 57) #[] #[], .bool true, .bool false, .bool false, .bool false, .bool false, .bool true, .func (.func 54) #[] #[], .func (.func 58) #[] #[]]
theorem hCells_eq : hCells = (List.range 11).flatMap hRow := rfl
set_option maxHeartbeats 4000000 in
set_option maxRecDepth 100000 in
theorem handlers_any (w : World) : Calls Try.prog 34 #[] w fun e w' => e = .returned (.slice (some ⟨w.heap.size, 0, none⟩) 11 11) ∧ w'.heap[w.heap.size]? = some (.cells hCells.toArray 106 (0, 0)) ∧ Below w.heap.size w w' := by
 have HF : Hid ((w.alloc (.cells hCells.toArray 106)).heap[w.heap.size]? = some (.cells hCells.toArray 106 (0, 0)) ∧ Below w.heap.size w (w.alloc (.cells hCells.toArray 106))) := ⟨blk_new w _, (Below.refl _ _).alloc (Nat.le_refl _) _⟩
 go_enter Try.func34, Try.ntmps34
 go_wp2
 go_ret
 exact ⟨rfl, HF.out⟩
set_option maxHeartbeats 2000000 in
set_option maxRecDepth 100000 in
set_option linter.unusedVariables false in
set_option linter.unusedSimpArgs false in
theorem fields_bct (fw fd : Value) (now : Int) (shut : Bool) (ua : Option Addr) (un uc : Nat) (c : Md.Call) (w : World) (hun : un ≤ 1000) :
 Calls Try.prog 35 #[.agg #[.bool true, .bool true, .bool false, .bool true, .bool false, .bool false, fw, fd], .agg #[I64 now, .bool shut, .slice ua un uc], valCall c] w fun e w' => e = .returned (.bool (outB c.backend 0 ((un : Int) - 1) || decide (c.call < 1) || outB c.time 0 1000000000000)) ∧ Below w.heap.size w w' := by
 have HBB : Hid (Below w.heap.size w (((w.alloc (.cells #[.bool true, .bool true, .bool false, .bool true, .bool false, .bool false, fw, fd] 106)).alloc (.cells #[I64 now, .bool shut, .slice ua un uc] 26)).alloc (.cells #[I64 c.kind, I64 c.backend, I64 c.call, I64 c.conn, I64 c.time, .bool c.yes, I64 c.skip, I64 c.breaker] 36))) := (((Below.refl _ _).alloc (Nat.le_refl _) _).alloc (by simp) _).alloc (by simp; omega) _
 have hw1 : IntKind.i64.wrap ((un : Int) - 1) = (un : Int) - 1 := by rw [IntKind.wrap_i64]; omega
 obtain ⟨ck, cb, cc, cn, ct, cy, cs, cr⟩ := c
 unfold valCall
 dsimp only at HBB ⊢
 clear hun
 cases hob0 : outB cb 0 ((un : Int) - 1) with
 | true =>
  have HO0 := Lib.hid (outs_any cb 0 ((un : Int) - 1) true hob0)
  clear hob0
  simp only [Bool.true_or, Bool.false_or]
  go_enter Try.func35, Try.ntmps35
  go_wp2_with fail
  refine (HO0.out _).mono ?_
  rintro e w2 ⟨rfl, rfl⟩
  go_wp2
  go_ret
  exact ⟨rfl, HBB.out⟩
 | false =>
  have HO0 := Lib.hid (outs_any cb 0 ((un : Int) - 1) false hob0)
  clear hob0
  by_cases hd1 : cc < 1
  · have dd1 : decide (cc < 1) = true := decide_eq_true hd1
    rw [dd1]
    simp only [Bool.true_or, Bool.false_or, Bool.or_true]
    go_enter Try.func35, Try.ntmps35
    go_wp2_with fail
    refine (HO0.out _).mono ?_
    rintro e w2 ⟨rfl, rfl⟩
    go_wp2
    go_ret
    exact ⟨rfl, HBB.out⟩
  · have dd1 : decide (cc < 1) = false := decide_eq_false hd1
    rw [dd1]
    cases hob2 : outB ct 0 1000000000000 with
    | true =>
     have HO2 := Lib.hid (outs_any ct 0 1000000000000 true hob2)
     clear hob2
     simp only [Bool.true_or, Bool.false_or]
     go_enter Try.func35, Try.ntmps35
     go_wp2_with fail
     refine (HO0.out _).mono ?_
     rintro e w2 ⟨rfl, rfl⟩
     go_wp2_with fail
     refine (HO2.out _).mono ?_
     rintro e w2 ⟨rfl, rfl⟩
     go_wp2
     go_ret
     exact ⟨rfl, HBB.out⟩
    | false =>
     have HO2 := Lib.hid (outs_any ct 0 1000000000000 false hob2)
     clear hob2
     go_enter Try.func35, Try.ntmps35
     go_wp2_with fail
     refine (HO0.out _).mono ?_
     rintro e w2 ⟨rfl, rfl⟩
     go_wp2_with fail
     refine (HO2.out _).mono ?_
     rintro e w2 ⟨rfl, rfl⟩
     go_wp2
     go_ret
     exact ⟨rfl, HBB.out⟩
set_option maxHeartbeats 2000000 in
set_option maxRecDepth 100000 in
set_option linter.unusedVariables false in
set_option linter.unusedSimpArgs false in
theorem fields_bcn (fw fd : Value) (now : Int) (shut : Bool) (ua : Option Addr) (un uc : Nat) (c : Md.Call) (w : World) (hun : un ≤ 1000) :
 Calls Try.prog 35 #[.agg #[.bool true, .bool true, .bool true, .bool false, .bool false, .bool false, fw, fd], .agg #[I64 now, .bool shut, .slice ua un uc], valCall c] w fun e w' => e = .returned (.bool (outB c.backend 0 ((un : Int) - 1) || decide (c.call < 1) || (c.yes && decide (c.conn < 1)))) ∧ Below w.heap.size w w' := by
 have HBB : Hid (Below w.heap.size w (((w.alloc (.cells #[.bool true, .bool true, .bool true, .bool false, .bool false, .bool false, fw, fd] 106)).alloc (.cells #[I64 now, .bool shut, .slice ua un uc] 26)).alloc (.cells #[I64 c.kind, I64 c.backend, I64 c.call, I64 c.conn, I64 c.time, .bool c.yes, I64 c.skip, I64 c.breaker] 36))) := (((Below.refl _ _).alloc (Nat.le_refl _) _).alloc (by simp) _).alloc (by simp; omega) _
 have hw1 : IntKind.i64.wrap ((un : Int) - 1) = (un : Int) - 1 := by rw [IntKind.wrap_i64]; omega
 obtain ⟨ck, cb, cc, cn, ct, cy, cs, cr⟩ := c
 unfold valCall
 dsimp only at HBB ⊢
 clear hun
 cases hob0 : outB cb 0 ((un : Int) - 1) with
 | true =>
  have HO0 := Lib.hid (outs_any cb 0 ((un : Int) - 1) true hob0)
  clear hob0
  simp only [Bool.true_or, Bool.false_or]
  go_enter Try.func35, Try.ntmps35
  go_wp2_with fail
  refine (HO0.out _).mono ?_
  rintro e w2 ⟨rfl, rfl⟩
  go_wp2
  go_ret
  exact ⟨rfl, HBB.out⟩
 | false =>
  have HO0 := Lib.hid (outs_any cb 0 ((un : Int) - 1) false hob0)
  clear hob0
  by_cases hd1 : cc < 1
  · have dd1 : decide (cc < 1) = true := decide_eq_true hd1
    rw [dd1]
    simp only [Bool.true_or, Bool.false_or, Bool.or_true]
    go_enter Try.func35, Try.ntmps35
    go_wp2_with fail
    refine (HO0.out _).mono ?_
    rintro e w2 ⟨rfl, rfl⟩
    go_wp2
    go_ret
    exact ⟨rfl, HBB.out⟩
  · have dd1 : decide (cc < 1) = false := decide_eq_false hd1
    rw [dd1]
    cases cy with
    | false =>
     go_enter Try.func35, Try.ntmps35
     go_wp2_with fail
     refine (HO0.out _).mono ?_
     rintro e w2 ⟨rfl, rfl⟩
     go_wp2
     go_ret
     exact ⟨rfl, HBB.out⟩
    | true =>
     by_cases hd2 : cn < 1
     · have dd2 : decide (cn < 1) = true := decide_eq_true hd2
       rw [dd2]
       go_enter Try.func35, Try.ntmps35
       go_wp2_with fail
       refine (HO0.out _).mono ?_
       rintro e w2 ⟨rfl, rfl⟩
       go_wp2
       go_ret
       exact ⟨rfl, HBB.out⟩
     · have dd2 : decide (cn < 1) = false := decide_eq_false hd2
       rw [dd2]
       go_enter Try.func35, Try.ntmps35
       go_wp2_with fail
       refine (HO0.out _).mono ?_
       rintro e w2 ⟨rfl, rfl⟩
       go_wp2
       go_ret
       exact ⟨rfl, HBB.out⟩
set_option maxHeartbeats 2000000 in
set_option maxRecDepth 100000 in
set_option linter.unusedVariables false in
set_option linter.unusedSimpArgs false in
theorem fields_bc (fw fd : Value) (now : Int) (shut : Bool) (ua : Option Addr) (un uc : Nat) (c : Md.Call) (w : World) (hun : un ≤ 1000) :
 Calls Try.prog 35 #[.agg #[.bool true, .bool true, .bool false, .bool false, .bool false, .bool false, fw, fd], .agg #[I64 now, .bool shut, .slice ua un uc], valCall c] w fun e w' => e = .returned (.bool (outB c.backend 0 ((un : Int) - 1) || decide (c.call < 1))) ∧ Below w.heap.size w w' := by
 have HBB : Hid (Below w.heap.size w (((w.alloc (.cells #[.bool true, .bool true, .bool false, .bool false, .bool false, .bool false, fw, fd] 106)).alloc (.cells #[I64 now, .bool shut, .slice ua un uc] 26)).alloc (.cells #[I64 c.kind, I64 c.backend, I64 c.call, I64 c.conn, I64 c.time, .bool c.yes, I64 c.skip, I64 c.breaker] 36))) := (((Below.refl _ _).alloc (Nat.le_refl _) _).alloc (by simp) _).alloc (by simp; omega) _
 have hw1 : IntKind.i64.wrap ((un : Int) - 1) = (un : Int) - 1 := by rw [IntKind.wrap_i64]; omega
 obtain ⟨ck, cb, cc, cn, ct, cy, cs, cr⟩ := c
 unfold valCall
 dsimp only at HBB ⊢
 clear hun
 cases hob0 : outB cb 0 ((un : Int) - 1) with
 | true =>
  have HO0 := Lib.hid (outs_any cb 0 ((un : Int) - 1) true hob0)
  clear hob0
  simp only [Bool.true_or, Bool.false_or]
  go_enter Try.func35, Try.ntmps35
  go_wp2_with fail
  refine (HO0.out _).mono ?_
  rintro e w2 ⟨rfl, rfl⟩
  go_wp2
  go_ret
  exact ⟨rfl, HBB.out⟩
 | false =>
  have HO0 := Lib.hid (outs_any cb 0 ((un : Int) - 1) false hob0)
  clear hob0
  by_cases hd1 : cc < 1
  · have dd1 : decide (cc < 1) = true := decide_eq_true hd1
    rw [dd1]
    simp only [Bool.true_or, Bool.false_or, Bool.or_true]
    go_enter Try.func35, Try.ntmps35
    go_wp2_with fail
    refine (HO0.out _).mono ?_
    rintro e w2 ⟨rfl, rfl⟩
    go_wp2
    go_ret
    exact ⟨rfl, HBB.out⟩
  · have dd1 : decide (cc < 1) = false := decide_eq_false hd1
    rw [dd1]
    go_enter Try.func35, Try.ntmps35
    go_wp2_with fail
    refine (HO0.out _).mono ?_
    rintro e w2 ⟨rfl, rfl⟩
    go_wp2
    go_ret
    exact ⟨rfl, HBB.out⟩
set_option maxHeartbeats 2000000 in
set_option maxRecDepth 100000 in
set_option linter.unusedVariables false in
set_option linter.unusedSimpArgs false in
theorem fields_t (fw fd : Value) (now : Int) (shut : Bool) (ua : Option Addr) (un uc : Nat) (c : Md.Call) (w : World) (hun : un ≤ 1000) :
 Calls Try.prog 35 #[.agg #[.bool false, .bool false, .bool false, .bool true, .bool false, .bool false, fw, fd], .agg #[I64 now, .bool shut, .slice ua un uc], valCall c] w fun e w' => e = .returned (.bool (outB c.time 0 1000000000000)) ∧ Below w.heap.size w w' := by
 have HBB : Hid (Below w.heap.size w (((w.alloc (.cells #[.bool false, .bool false, .bool false, .bool true, .bool false, .bool false, fw, fd] 106)).alloc (.cells #[I64 now, .bool shut, .slice ua un uc] 26)).alloc (.cells #[I64 c.kind, I64 c.backend, I64 c.call, I64 c.conn, I64 c.time, .bool c.yes, I64 c.skip, I64 c.breaker] 36))) := (((Below.refl _ _).alloc (Nat.le_refl _) _).alloc (by simp) _).alloc (by simp; omega) _
 have hw1 : IntKind.i64.wrap ((un : Int) - 1) = (un : Int) - 1 := by rw [IntKind.wrap_i64]; omega
 obtain ⟨ck, cb, cc, cn, ct, cy, cs, cr⟩ := c
 unfold valCall
 dsimp only at HBB ⊢
 clear hun
 cases hob0 : outB ct 0 1000000000000 with
 | true =>
  have HO0 := Lib.hid (outs_any ct 0 1000000000000 true hob0)
  clear hob0
  go_enter Try.func35, Try.ntmps35
  go_wp2_with fail
  refine (HO0.out _).mono ?_
  rintro e w2 ⟨rfl, rfl⟩
  go_wp2
  go_ret
  exact ⟨rfl, HBB.out⟩
 | false =>
  have HO0 := Lib.hid (outs_any ct 0 1000000000000 false hob0)
  clear hob0
  go_enter Try.func35, Try.ntmps35
  go_wp2_with fail
  refine (HO0.out _).mono ?_
  rintro e w2 ⟨rfl, rfl⟩
  go_wp2
  go_ret
  exact ⟨rfl, HBB.out⟩
set_option maxHeartbeats 2000000 in
set_option maxRecDepth 100000 in
set_option linter.unusedVariables false in
set_option linter.unusedSimpArgs false in
theorem fields_none (fw fd : Value) (now : Int) (shut : Bool) (ua : Option Addr) (un uc : Nat) (c : Md.Call) (w : World) (hun : un ≤ 1000) :
 Calls Try.prog 35 #[.agg #[.bool false, .bool false, .bool false, .bool false, .bool false, .bool false, fw, fd], .agg #[I64 now, .bool shut, .slice ua un uc], valCall c] w fun e w' => e = .returned (.bool (false)) ∧ Below w.heap.size w w' := by
 have HBB : Hid (Below w.heap.size w (((w.alloc (.cells #[.bool false, .bool false, .bool false, .bool false, .bool false, .bool false, fw, fd] 106)).alloc (.cells #[I64 now, .bool shut, .slice ua un uc] 26)).alloc (.cells #[I64 c.kind, I64 c.backend, I64 c.call, I64 c.conn, I64 c.time, .bool c.yes, I64 c.skip, I64 c.breaker] 36))) := (((Below.refl _ _).alloc (Nat.le_refl _) _).alloc (by simp) _).alloc (by simp; omega) _
 have hw1 : IntKind.i64.wrap ((un : Int) - 1) = (un : Int) - 1 := by rw [IntKind.wrap_i64]; omega
 obtain ⟨ck, cb, cc, cn, ct, cy, cs, cr⟩ := c
 unfold valCall
 dsimp only at HBB ⊢
 clear hun
 go_enter Try.func35, Try.ntmps35
 go_wp2
 go_ret
 exact ⟨rfl, HBB.out⟩
set_option maxHeartbeats 2000000 in
set_option maxRecDepth 100000 in
set_option linter.unusedVariables false in
set_option linter.unusedSimpArgs false in
theorem fields_cs (fw fd : Value) (now : Int) (shut : Bool) (ua : Option Addr) (un uc : Nat) (c : Md.Call) (w : World) (hun : un ≤ 1000) :
 Calls Try.prog 35 #[.agg #[.bool false, .bool true, .bool false, .bool false, .bool true, .bool false, fw, fd], .agg #[I64 now, .bool shut, .slice ua un uc], valCall c] w fun e w' => e = .returned (.bool (decide (c.call < 1) || outB c.skip 0 65535)) ∧ Below w.heap.size w w' := by
 have HBB : Hid (Below w.heap.size w (((w.alloc (.cells #[.bool false, .bool true, .bool false, .bool false, .bool true, .bool false, fw, fd] 106)).alloc (.cells #[I64 now, .bool shut, .slice ua un uc] 26)).alloc (.cells #[I64 c.kind, I64 c.backend, I64 c.call, I64 c.conn, I64 c.time, .bool c.yes, I64 c.skip, I64 c.breaker] 36))) := (((Below.refl _ _).alloc (Nat.le_refl _) _).alloc (by simp) _).alloc (by simp; omega) _
 have hw1 : IntKind.i64.wrap ((un : Int) - 1) = (un : Int) - 1 := by rw [IntKind.wrap_i64]; omega
 obtain ⟨ck, cb, cc, cn, ct, cy, cs, cr⟩ := c
 unfold valCall
 dsimp only at HBB ⊢
 clear hun
 by_cases hd0 : cc < 1
 · have dd0 : decide (cc < 1) = true := decide_eq_true hd0
   rw [dd0]
   simp only [Bool.true_or, Bool.false_or, Bool.or_true]
   go_enter Try.func35, Try.ntmps35
   go_wp2
   go_ret
   exact ⟨rfl, HBB.out⟩
 · have dd0 : decide (cc < 1) = false := decide_eq_false hd0
   rw [dd0]
   cases hob1 : outB cs 0 65535 with
   | true =>
    have HO1 := Lib.hid (outs_any cs 0 65535 true hob1)
    clear hob1
    simp only [Bool.true_or, Bool.false_or]
    go_enter Try.func35, Try.ntmps35
    go_wp2_with fail
    refine (HO1.out _).mono ?_
    rintro e w2 ⟨rfl, rfl⟩
    go_wp2
    go_ret
    exact ⟨rfl, HBB.out⟩
   | false =>
    have HO1 := Lib.hid (outs_any cs 0 65535 false hob1)
    clear hob1
    go_enter Try.func35, Try.ntmps35
    go_wp2_with fail
    refine (HO1.out _).mono ?_
    rintro e w2 ⟨rfl, rfl⟩
    go_wp2
    go_ret
    exact ⟨rfl, HBB.out⟩
set_option maxHeartbeats 2000000 in
set_option maxRecDepth 100000 in
set_option linter.unusedVariables false in
set_option linter.unusedSimpArgs false in
theorem fields_b (fw fd : Value) (now : Int) (shut : Bool) (ua : Option Addr) (un uc : Nat) (c : Md.Call) (w : World) (hun : un ≤ 1000) :
 Calls Try.prog 35 #[.agg #[.bool true, .bool false, .bool false, .bool false, .bool false, .bool false, fw, fd], .agg #[I64 now, .bool shut, .slice ua un uc], valCall c] w fun e w' => e = .returned (.bool (outB c.backend 0 ((un : Int) - 1))) ∧ Below w.heap.size w w' := by
 have HBB : Hid (Below w.heap.size w (((w.alloc (.cells #[.bool true, .bool false, .bool false, .bool false, .bool false, .bool false, fw, fd] 106)).alloc (.cells #[I64 now, .bool shut, .slice ua un uc] 26)).alloc (.cells #[I64 c.kind, I64 c.backend, I64 c.call, I64 c.conn, I64 c.time, .bool c.yes, I64 c.skip, I64 c.breaker] 36))) := (((Below.refl _ _).alloc (Nat.le_refl _) _).alloc (by simp) _).alloc (by simp; omega) _
 have hw1 : IntKind.i64.wrap ((un : Int) - 1) = (un : Int) - 1 := by rw [IntKind.wrap_i64]; omega
 obtain ⟨ck, cb, cc, cn, ct, cy, cs, cr⟩ := c
 unfold valCall
 dsimp only at HBB ⊢
 clear hun
 cases hob0 : outB cb 0 ((un : Int) - 1) with
 | true =>
  have HO0 := Lib.hid (outs_any cb 0 ((un : Int) - 1) true hob0)
  clear hob0
  go_enter Try.func35, Try.ntmps35
  go_wp2_with fail
  refine (HO0.out _).mono ?_
  rintro e w2 ⟨rfl, rfl⟩
  go_wp2
  go_ret
  exact ⟨rfl, HBB.out⟩
 | false =>
  have HO0 := Lib.hid (outs_any cb 0 ((un : Int) - 1) false hob0)
  clear hob0
  go_enter Try.func35, Try.ntmps35
  go_wp2_with fail
  refine (HO0.out _).mono ?_
  rintro e w2 ⟨rfl, rfl⟩
  go_wp2
  go_ret
  exact ⟨rfl, HBB.out⟩
set_option maxHeartbeats 2000000 in
set_option maxRecDepth 100000 in
set_option linter.unusedVariables false in
set_option linter.unusedSimpArgs false in
theorem fields_brk (fw fd : Value) (now : Int) (shut : Bool) (ua : Option Addr) (un uc : Nat) (c : Md.Call) (w : World) (hun : un ≤ 1000) :
 Calls Try.prog 35 #[.agg #[.bool true, .bool false, .bool false, .bool false, .bool false, .bool true, fw, fd], .agg #[I64 now, .bool shut, .slice ua un uc], valCall c] w fun e w' => e = .returned (.bool (outB c.backend 0 ((un : Int) - 1) || outB c.breaker 0 2)) ∧ Below w.heap.size w w' := by
 have HBB : Hid (Below w.heap.size w (((w.alloc (.cells #[.bool true, .bool false, .bool false, .bool false, .bool false, .bool true, fw, fd] 106)).alloc (.cells #[I64 now, .bool shut, .slice ua un uc] 26)).alloc (.cells #[I64 c.kind, I64 c.backend, I64 c.call, I64 c.conn, I64 c.time, .bool c.yes, I64 c.skip, I64 c.breaker] 36))) := (((Below.refl _ _).alloc (Nat.le_refl _) _).alloc (by simp) _).alloc (by simp; omega) _
 have hw1 : IntKind.i64.wrap ((un : Int) - 1) = (un : Int) - 1 := by rw [IntKind.wrap_i64]; omega
 obtain ⟨ck, cb, cc, cn, ct, cy, cs, cr⟩ := c
 unfold valCall
 dsimp only at HBB ⊢
 clear hun
 cases hob0 : outB cb 0 ((un : Int) - 1) with
 | true =>
  have HO0 := Lib.hid (outs_any cb 0 ((un : Int) - 1) true hob0)
  clear hob0
  simp only [Bool.true_or, Bool.false_or]
  go_enter Try.func35, Try.ntmps35
  go_wp2_with fail
  refine (HO0.out _).mono ?_
  rintro e w2 ⟨rfl, rfl⟩
  go_wp2
  go_ret
  exact ⟨rfl, HBB.out⟩
 | false =>
  have HO0 := Lib.hid (outs_any cb 0 ((un : Int) - 1) false hob0)
  clear hob0
  cases hob1 : outB cr 0 2 with
  | true =>
   have HO1 := Lib.hid (outs_any cr 0 2 true hob1)
   clear hob1
   simp only [Bool.true_or, Bool.false_or]
   go_enter Try.func35, Try.ntmps35
   go_wp2_with fail
   refine (HO0.out _).mono ?_
   rintro e w2 ⟨rfl, rfl⟩
   go_wp2_with fail
   refine (HO1.out _).mono ?_
   rintro e w2 ⟨rfl, rfl⟩
   go_wp2
   go_ret
   exact ⟨rfl, HBB.out⟩
  | false =>
   have HO1 := Lib.hid (outs_any cr 0 2 false hob1)
   clear hob1
   go_enter Try.func35, Try.ntmps35
   go_wp2_with fail
   refine (HO0.out _).mono ?_
   rintro e w2 ⟨rfl, rfl⟩
   go_wp2_with fail
   refine (HO1.out _).mono ?_
   rintro e w2 ⟨rfl, rfl⟩
   go_wp2
   go_ret
   exact ⟨rfl, HBB.out⟩
end Go.Proofs.Ytaicmiadgnpimaa
