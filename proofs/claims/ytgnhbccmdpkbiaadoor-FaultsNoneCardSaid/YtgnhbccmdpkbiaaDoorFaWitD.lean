/-
  What a laid row gives where the program has no variables of strconv.
-/
import Derived.Test.YtgnhbccmdpkbiaaDoorFaWit
namespace Go.Proofs.YtgnhbccmdpkbiaaDoor
open Go.RowKit Go.Shelf

theorem env_ofD {laid : List (String × DataW Unit)} {W : World} (h : laidMetH Tryd.prog laid W) (hsh : W.ShapedOpen Tryd.prog) (e : laid = LaidF := by rfl) : EnvF W := by
  subst e
  obtain ⟨h', hE⟩ := laid_parts h
  refine ⟨?_, name_cells h', pow_tabF h', hE⟩
  obtain ⟨cs, hc, _⟩ := hsh.1 7 #[.int .i64 0] 3 (by decide +kernel) (by kernel_rfl)
  have := lt_of_block hc
  omega
end Go.Proofs.YtgnhbccmdpkbiaaDoor
