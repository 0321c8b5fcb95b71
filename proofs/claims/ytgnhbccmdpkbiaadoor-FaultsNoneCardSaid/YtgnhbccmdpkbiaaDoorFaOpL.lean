/-
  Opener: what a row's argument api.FaLink reads as.
-/
import Derived.Test.YtgnhbccmdpkbiaaDoorFaWit
namespace Go.Proofs.YtgnhbccmdpkbiaaDoor
open Go.RowKit Go.ChangeShapes Go.WideShapes Go.Deep

set_option maxRecDepth 100000 in
theorem open_link {H : Type} {enc : TypeId × Value → H} {W : World} {base b0 : Nat} {sp : Nat → Bool} {held : Bool} {r : Reach} {v : Value} {d : DataW H} {ps : List MemPlace} (hval : Value.okWide Tryd.prog W r b0 24 v)
    (h : DataW.Trod enc Tryd.prog W base sp held 24 v d ps) : ∃ x : Fa.Link, v = valLink x := by
  obtain ⟨cs, rfl, hcs⟩ := okWide_struct Tryd.underlying24 hval
  obtain ⟨fuel, hf⟩ := h
  have hf' : DataW.trod enc Tryd.prog W base sp held fuel 24 cs.toList = some (d, ps) := hf
  have hC : Tryd.prog.cellsOf 24 = 4 := by kernel_rfl
  rw [hC] at hcs
  obtain ⟨c0, c1, c2, c3, rfl⟩ : ∃ c0 c1 c2 c3, cs = #[c0, c1, c2, c3] := by
    refine ⟨cs[0], cs[1], cs[2], cs[3], ?_⟩
    apply Array.ext
    · simpa using hcs
    · intro i h1 h2
      match i, h1 with
      | 0, _ => rfl
      | 1, _ => rfl
      | 2, _ => rfl
      | 3, _ => rfl
      | i + 4, h1 => omega
  obtain ⟨xs, n2, _, _, _, hxl, hg2⟩ := DataW.trod_struct Tryd.underlying24 hf'
  have k0 : Tryd.prog.cellsOf 3 = 1 := by kernel_rfl
  have k2 : Tryd.prog.cellsOf 9 = 1 := by kernel_rfl
  have k3 : Tryd.prog.cellsOf 2 = 1 := by kernel_rfl
  have k4 : Tryd.prog.cellsOf 22 = 1 := by kernel_rfl
  have m0 := hg2 0 _ rfl
  have m1 := hg2 1 _ rfl
  have m2 := hg2 2 _ rfl
  have m3 := hg2 3 _ rfl
  simp only [List.getElem_toArray, List.getElem_cons_zero, List.getElem_cons_succ, k0, k2, k3, k4] at m0 m1 m2 m3
  match xs, hxl with
  | [x0, x1, x2, x3], _ =>
    simp only [List.drop_zero, List.drop_succ_cons, List.take_succ_cons, List.take_zero, List.getElem?_cons_zero, List.getElem?_cons_succ] at m0 m1 m2 m3
    obtain ⟨z2, e2, _, _⟩ := DataW.trod_int Tryd.underlying22 m0
    obtain ⟨z3, e3, _, _⟩ := DataW.trod_string Tryd.underlying9 m1
    obtain ⟨z4, e4, _, _⟩ := DataW.trod_int Tryd.underlying3 m2
    obtain ⟨z5, e5, _, _⟩ := DataW.trod_int Tryd.underlying2 m3
    simp at e2 e3 e4 e5
    subst e2 e3 e4 e5
    exact ⟨⟨z2, z3, z4, z5⟩, rfl⟩
end Go.Proofs.YtgnhbccmdpkbiaaDoor
