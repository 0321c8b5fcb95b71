/-
  A world that fits what the rows list: the witness.
-/
import Derived.Test.YtffkohdnhaebjaaGreatDoorEnv
import Derived.Deep.DeepLaidRun
import Derived.Deep.DeepHandedRow
import Derived.SizedLaws
namespace Go.Proofs.YtffkohdnhaebjaaGreatDoor
open Go Go.RowKit

def flatD : Nat → DataW Unit → List Value
  | 0, _ => []
  | _ + 1, .lit (.int k z) => [.int k z]
  | n + 1, .agg ds => ds.flatMap (flatD n)
  | _ + 1, _ => []
def setG (h : Array Obj) (g : Nat) (cs : List Value) : Array Obj := h.modify g fun
  | .cells _ t frozen => .cells cs.toArray t frozen
  | o => o
noncomputable def lowW : Nat := (World.holding Tryz.prog default ⟨#[], #[], []⟩).heap.size
noncomputable def laidWorld (os : Os) : World :=
  let w0 := World.holding Tryz.prog os ⟨#[.cells #[.string ⟨#[118, 97, 108, 117, 101, 32, 111, 117, 116, 32, 111, 102, 32, 114, 97, 110, 103, 101]⟩] 143, .cells #[.string ⟨#[105, 110, 118, 97, 108, 105, 100, 32, 115, 121, 110, 116, 97, 120]⟩] 143], #[], []⟩
  { w0 with heap := setG (setG (setG (setG (setG (setG (setG (setG w0.heap 3 [.iface 141 (.pointer (some ⟨lowW, 0, none⟩))]) 2 [.iface 141 (.pointer (some ⟨lowW + 1, 0, none⟩))])
      0 (flatD 4 Rows.laid_spillway_words_escapes)) 4 (flatD 4 Rows.laid_internal_strconv_uint64pow10)) 5 (flatD 4 Rows.laid_unicode_utf8_first))
      6 (flatD 4 Rows.laid_unicode_utf8_acceptRanges)) 7 (flatD 4 Rows.laid_math_bits_deBruijn32tab)) 8 (flatD 4 Rows.laid_math_bits_deBruijn64tab) }
set_option maxRecDepth 100000 in
theorem laidW_met (os : Os) (args : Array Value) : laidMet Tryz.prog LaidL ((laidWorld os).forCall (fun _ _ => 0) ⟨#[], args, []⟩).memory :=
  laidMet_of_run3 8 (by kernel_rfl) (by kernel_rfl) (by kernel_rfl)
theorem env_of' {laid : List (String × DataW Unit)} {W : World} (h : laidMetH Tryz.prog laid W) (hsh : W.ShapedOpen Tryz.prog) (e : laid = LaidL := by rfl) : Env W := by
  subst e
  have h' : laidMet Tryz.prog LaidL W := h
  refine env_of h' hsh ?_
  obtain ⟨g, t, cs, fuel, p, hg, hty, hvar, hd⟩ := Lib.laidMet.reads h' (n := "math/bits.deBruijn64tab") (d := Rows.laid_math_bits_deBruijn64tab) (by simp [LaidL])
  obtain rfl := Option.some.inj ((show Tryz.prog.globalNamed "math/bits.deBruijn64tab" = some 8 by kernel_rfl).symm.trans hg)
  unfold World.var? at hvar
  rw [hg] at hvar
  rcases Nat.lt_or_ge 8 W.heap.size with h | h
  · exact h
  · simp [Array.getElem?_eq_none h] at hvar
theorem wf_i64 {n : Int} (h : (Lit.int .i64 n).wf = true) : -9223372036854775808 ≤ n ∧ n ≤ 9223372036854775807 := by
  unfold Lit.wf at h
  simp only [Bool.and_eq_true, decide_eq_true_eq] at h
  exact h
theorem reach_string {P : Program} {H : Type} {ts : List TypeId} {ds : List (DataW H)} {i : Nat} {t : TypeId} {l : List UInt8} (h : (DataW.weightsEach P ts ds).all (· ≤ reachBytes) = true) (ht : ts[i]? = some t) (hd : ds[i]? = some (.lit (.string l))) : l.length ≤ 140737488351232 :=
  sized_string h ht hd
theorem own : ownKnob Tryz.prog.godebug = none := by kernel_rfl
theorem laidOut : laidOutB Tryz.prog = true := by kernel_rfl
end Go.Proofs.YtffkohdnhaebjaaGreatDoor
