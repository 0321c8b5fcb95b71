/-
  Openers of layer 26's structs by value: MdLimit, MdCall.
-/
import Derived.Test.YtaicmiadgnpimaaMdOp
import Derived.Lib.SmallJoins
namespace Go.Proofs.Ytaicmiadgnpimaa
open Go.ChangeShapes Go.WideShapes Go.ChangeAt Go.ChangeMaps Go.RowKit

set_option maxHeartbeats 4000000 in
set_option maxRecDepth 100000 in
theorem open_lim {H : Type} {enc : TypeId × Value → H} {W : World} {base b0 : Nat} {sp : Nat → Bool} {held : Bool} {r : Reach} {v : Value} {d : DataW H} {ps : List MemPlace} (hval : Value.okWide Try.prog W r b0 42 v)
    (h : DataW.Trod enc Try.prog W base sp held 42 v d ps) : ∃ l : Md.Lim, v = .agg #[I64 l.max, I64 l.queue, I64 l.idle, I64 l.age] := by
  obtain ⟨v0, v1, v2, v3, y0, y1, y2, y3, n, rfl, _, _, h0, h1, h2, h3⟩ := Joins.open_agg4 Try.underlying42 (by kernel_rfl) (by kernel_rfl) hval h
  obtain ⟨z0, e0, _, _⟩ := DataW.trod_int Try.underlying3 h0
  obtain ⟨z1, e1, _, _⟩ := DataW.trod_int Try.underlying3 h1
  obtain ⟨z2, e2, _, _⟩ := DataW.trod_int Try.underlying2 h2
  obtain ⟨z3, e3, _, _⟩ := DataW.trod_int Try.underlying2 h3
  simp at e0 e1 e2 e3
  subst e0 e1 e2 e3
  exact ⟨⟨z0, z1, z2, z3⟩, rfl⟩
end Go.Proofs.Ytaicmiadgnpimaa
