/-
  Openers of layer 26's structs by value: MdLimit, MdCall.
-/
import Derived.Test.YtaicmiadgnpimaaMdOp
import Derived.Lib.SmallJoins
namespace Go.Proofs.Ytaicmiadgnpimaa
open Go.ChangeShapes Go.WideShapes Go.ChangeAt Go.ChangeMaps Go.RowKit

set_option maxHeartbeats 4000000 in
set_option maxRecDepth 100000 in
theorem open_lim {H : Type} {enc : TypeId × Value → H} {W : World} {base b0 : Nat} {sp : Nat → Bool} {held : Bool} {r : Reach} {v : Value} {d : DataW H} {ps : List MemPlace} (hval : Value.okWide Try.prog W r b0 42 v)
 (h : DataW.Trod enc Try.prog W base sp held 42 v d ps) : ∃ l : Md.Lim, v = .agg #[I64 l.max, I64 l.queue, I64 l.idle, I64 l.age] := by
 obtain ⟨v0, v1, v2, v3, y0, y1, y2, y3, n, rfl, _, _, h0, h1, h2, h3⟩ := Joins.open_agg4 Try.underlying42 (by kernel_rfl) (by kernel_rfl) hval h
 obtain ⟨z0, e0, _, _⟩ := DataW.trod_int Try.underlying3 h0
 obtain ⟨z1, e1, _, _⟩ := DataW.trod_int Try.underlying3 h1
 obtain ⟨z2, e2, _, _⟩ := DataW.trod_int Try.underlying2 h2
 obtain ⟨z3, e3, _, _⟩ := DataW.trod_int Try.underlying2 h3
 simp at e0 e1 e2 e3
 subst e0 e1 e2 e3
 exact ⟨⟨z0, z1, z2, z3⟩, rfl⟩
set_option maxHeartbeats 4000000 in
set_option maxRecDepth 100000 in
theorem open_call {H : Type} {enc : TypeId × Value → H} {W : World} {base b0 : Nat} {sp : Nat → Bool} {held : Bool} {r : Reach} {v : Value} {d : DataW H} {ps : List MemPlace} (hval : Value.okWide Try.prog W r b0 36 v)
 (h : DataW.Trod enc Try.prog W base sp held 36 v d ps) : ∃ c : Md.Call, v = valCall c ∧ c.call ≤ 9223372036854775807 ∧ c.conn ≤ 9223372036854775807 := by
 obtain ⟨cs, rfl, hsz⟩ := okWide_struct Try.underlying36 hval
 have hC : Try.prog.cellsOf 36 = 8 := by kernel_rfl
 rw [hC] at hsz
 obtain ⟨fuel, hf⟩ := h
 obtain ⟨ys, n, _, _, _, hyl, hg⟩ := DataW.trod_struct Try.underlying36 hf
 match cs, hsz with
 | ⟨[u0, u1, u2, u3, u4, u5, u6, u7]⟩, _ =>
 have k0 : Try.prog.cellsOf 3 = 1 := by kernel_rfl
 have k1 : Try.prog.cellsOf 2 = 1 := by kernel_rfl
 have k2 : Try.prog.cellsOf 4 = 1 := by kernel_rfl
 have gg0 := hg 0 _ rfl
 have gg1 := hg 1 _ rfl
 have gg2 := hg 2 _ rfl
 have gg3 := hg 3 _ rfl
 have gg4 := hg 4 _ rfl
 have gg5 := hg 5 _ rfl
 have gg6 := hg 6 _ rfl
 have gg7 := hg 7 _ rfl
 simp only [Value.cells, List.getElem_toArray, List.getElem_cons_zero, List.getElem_cons_succ, k0, k1, k2] at gg0 gg1 gg2 gg3 gg4 gg5 gg6 gg7
 match ys, hyl with
 | [y0, y1, y2, y3, y4, y5, y6, y7], _ =>
 simp only [List.drop_zero, List.drop_succ_cons, List.take_succ_cons, List.take_zero, List.getElem?_cons_zero, List.getElem?_cons_succ] at gg0 gg1 gg2 gg3 gg4 gg5 gg6 gg7
 obtain ⟨z0, e0, _, hw0⟩ := DataW.trod_int Try.underlying3 gg0
 obtain ⟨z1, e1, _, hw1⟩ := DataW.trod_int Try.underlying3 gg1
 obtain ⟨z2, e2, _, hw2⟩ := DataW.trod_int Try.underlying2 gg2
 obtain ⟨z3, e3, _, hw3⟩ := DataW.trod_int Try.underlying2 gg3
 obtain ⟨z4, e4, _, hw4⟩ := DataW.trod_int Try.underlying2 gg4
 obtain ⟨z5, e5, _⟩ := DataW.trod_bool Try.underlying4 gg5
 obtain ⟨z6, e6, _, hw6⟩ := DataW.trod_int Try.underlying3 gg6
 obtain ⟨z7, e7, _, hw7⟩ := DataW.trod_int Try.underlying3 gg7
 simp at e0 e1 e2 e3 e4 e5 e6 e7
 subst e0 e1 e2 e3 e4 e5 e6 e7
 exact ⟨⟨z0, z1, z2, z3, z4, z5, z6, z7⟩, rfl, (wf_i64 hw2).2, (wf_i64 hw3).2⟩
end Go.Proofs.Ytaicmiadgnpimaa
