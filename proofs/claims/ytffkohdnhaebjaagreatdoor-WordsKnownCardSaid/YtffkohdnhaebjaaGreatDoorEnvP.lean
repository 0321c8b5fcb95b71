/-
  From what a row lists to the two tables of unicode/utf8.
-/
import Derived.Test.YtffkohdnhaebjaaGreatDoorWit
import Derived.Test.YtffkohdnhaebjaaGreatDoorW33
import Derived.Lib.LaidU8T
namespace Go.Proofs.YtffkohdnhaebjaaGreatDoor
open Go.RowKit Go.Shelf Go.Lib

set_option maxRecDepth 100000 in
theorem tabs_of {W : World} (h : laidMet Tryz.prog LaidL W) : Lib.Utf8Tabs 5 6 W := by
  have h3 := Lib.laidMet.reads h (n := "unicode/utf8.first") (d := Rows.laid_unicode_utf8_first) (by simp [LaidL])
  have h4 := Lib.laidMet.reads h (n := "unicode/utf8.acceptRanges") (d := Rows.laid_unicode_utf8_acceptRanges) (by simp [LaidL])
  rw [show (Rows.laid_unicode_utf8_first : DataW Unit) = firstData from by kernel_rfl] at h3
  rw [show (Rows.laid_unicode_utf8_acceptRanges : DataW Unit) = acceptData from by kernel_rfl] at h4
  exact utf8Tabs_of_readsT (ρ := Tryz.lays273_ren) ⟨by kernel_rfl, by kernel_rfl, by kernel_rfl, by kernel_rfl⟩ ⟨by kernel_rfl, by kernel_rfl, by kernel_rfl, by kernel_rfl, by kernel_rfl, by kernel_rfl, by kernel_rfl⟩ h3 h4
theorem envP_of {laid : List (String × DataW Unit)} {W : World} (h : laidMetH Tryz.prog laid W) (hsh : W.ShapedOpen Tryz.prog) (e : laid = LaidL := by rfl) : EnvP W := by
  refine ⟨env_of' h hsh e, ?_⟩
  subst e
  exact tabs_of h
end Go.Proofs.YtffkohdnhaebjaaGreatDoor
