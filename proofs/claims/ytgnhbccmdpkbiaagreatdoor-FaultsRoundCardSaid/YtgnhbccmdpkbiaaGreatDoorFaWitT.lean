/-
  Layer 3 (faults): from what a row lists, the variables of strconv's errors among it, to what the walks ask of them; a world that fits.
-/
import Derived.Test.YtgnhbccmdpkbiaaGreatDoorFaWit
import Derived.Test.YtgnhbccmdpkbiaaGreatDoorFaInt
namespace Go.Proofs.YtgnhbccmdpkbiaaGreatDoor
open Go.RowKit Go.Shelf Go.Lib Go.ChangeShapes Go.WideShapes Go.Deep

def LaidFT : List (String × DataW Unit) := [("math/bits.deBruijn32tab", Rows.laid_math_bits_deBruijn32tab), ("math/bits.deBruijn64tab", Rows.laid_math_bits_deBruijn64tab), ("internal/strconv.uint64pow10", Rows.laid_internal_strconv_uint64pow10), ("unicode/utf8.acceptRanges", Rows.laid_unicode_utf8_acceptRanges), ("errors.errorType", Rows.laid_errors_errorType), ("strconv.ErrRange", Rows.laid_strconv_ErrRange), ("strconv.ErrSyntax", Rows.laid_strconv_ErrSyntax), ("spillway/faults.names", Rows.laid_spillway_faults_names), ("unicode/utf8.first", Rows.laid_unicode_utf8_first)]
def LaidPT : List (String × DataW Unit) := [("math/bits.deBruijn32tab", Rows.laid_math_bits_deBruijn32tab), ("math/bits.deBruijn64tab", Rows.laid_math_bits_deBruijn64tab), ("internal/strconv.uint64pow10", Rows.laid_internal_strconv_uint64pow10), ("unicode/utf8.acceptRanges", Rows.laid_unicode_utf8_acceptRanges), ("strconv.ErrRange", Rows.laid_strconv_ErrRange), ("strconv.ErrSyntax", Rows.laid_strconv_ErrSyntax), ("spillway/faults.names", Rows.laid_spillway_faults_names), ("unicode/utf8.first", Rows.laid_unicode_utf8_first)]
theorem laid_partsT {W : World} (h : laidMetH Tryz.prog LaidFT W) : laidMet Tryz.prog LaidPT W ∧ ErrT W := by
  have h' : laidMet Tryz.prog LaidPT W ∧ handlesMet Tryz.prog [("errors.errorType", Rows.laid_errors_errorType)] W := h
  refine ⟨h'.1, ?_⟩
  obtain ⟨name, u, ty, e1, e2, e3, e4, e5⟩ := h'.2 _ (List.mem_singleton.2 rfl)
  have en : name = [101, 114, 114, 111, 114] := (Option.some.inj e1).symm
  subst en
  obtain rfl := Option.some.inj (rt.symm.trans e2)
  have hm : ty ∈ (List.range 248).filter fun t => Tryz.prog.rowNamed t [101, 114, 114, 111, 114] := List.mem_filter.2 ⟨List.mem_range.2 (by rw [← tsize]; exact e3), e4⟩
  rw [oneRow] at hm
  obtain rfl := List.mem_singleton.1 hm
  have hh : typeHandle Tryz.prog 26 = .pointer (some ⟨15, 26, none⟩) := by kernel_rfl
  rw [hh] at e5
  show W.cell? _ = _
  simpa using World.var?_cell et e5 0
set_option maxRecDepth 100000 in
theorem name_cellsT {W : World} (hv : VarReads Tryz.prog W "spillway/faults.names" Rows.laid_spillway_faults_names) : ∀ k, k < 17 → W.cell? ⟨1, k, none⟩ = some (S8 (Fa.names.getD k [])) := by
  obtain ⟨g, t, cs, fuel, p, hg, hty, hvar, hd⟩ := hv
  obtain rfl := Option.some.inj ((show Tryz.prog.globalNamed "spillway/faults.names" = some 1 by kernel_rfl).symm.trans hg)
  obtain rfl := Option.some.inj ((show (Tryz.prog.globals[1]?).map (·.type) = some 143 by kernel_rfl).symm.trans hty)
  have c1 : Tryz.prog.cellsOf 9 = 1 := by kernel_rfl
  intro k hk
  obtain ⟨fuel', d, q, hdi, he⟩ := array_elem Tryz.underlying143 hd k hk
  rw [c1] at he
  obtain ⟨s, e0, e1, _⟩ := DataW.trod_string Tryz.underlying9 he
  have hd2 : d = .lit (.string (Fa.names.getD k [])) := by
    match k, hk, hdi with
    | 0, _, hdi => exact (Option.some.inj hdi).symm
    | 1, _, hdi => exact (Option.some.inj hdi).symm
    | 2, _, hdi => exact (Option.some.inj hdi).symm
    | 3, _, hdi => exact (Option.some.inj hdi).symm
    | 4, _, hdi => exact (Option.some.inj hdi).symm
    | 5, _, hdi => exact (Option.some.inj hdi).symm
    | 6, _, hdi => exact (Option.some.inj hdi).symm
    | 7, _, hdi => exact (Option.some.inj hdi).symm
    | 8, _, hdi => exact (Option.some.inj hdi).symm
    | 9, _, hdi => exact (Option.some.inj hdi).symm
    | 10, _, hdi => exact (Option.some.inj hdi).symm
    | 11, _, hdi => exact (Option.some.inj hdi).symm
    | 12, _, hdi => exact (Option.some.inj hdi).symm
    | 13, _, hdi => exact (Option.some.inj hdi).symm
    | 14, _, hdi => exact (Option.some.inj hdi).symm
    | 15, _, hdi => exact (Option.some.inj hdi).symm
    | 16, _, hdi => exact (Option.some.inj hdi).symm
  rw [hd2] at e1
  have hs : s.data.toList = Fa.names.getD k [] := by
    have := congrArg (·.1) e1
    simp only [DataW.lit.injEq, Lit.string.injEq] at this
    exact this.symm
  have e2 := congrArg (·[0]?) e0
  simp only [List.getElem?_take, List.getElem?_drop] at e2
  rw [World.var?_cell hg hvar k, ← Array.getElem?_toList]
  have e3 : S8 (Fa.names.getD k []) = .string s := by rw [← hs]
  rw [e3]
  simpa using e2
theorem err_cell {W : World} {n nm : String} {d : DataW Unit} {g ti : Nat} {ms : Array (String × TypeId)} (h : VarReads Tryz.prog W n (.iface nm d)) (hg : Tryz.prog.globalNamed n = some g) (ht : (Tryz.prog.globals[g]?).map (·.type) = some ti)
    (hi : Tryz.prog.underlying ti = some (.interface ms)) : ∃ ev, W.cell? ⟨g, 0, none⟩ = some ev ∧ (ev = .nilIface ∨ ∃ te pe, ev = .iface te pe) := by
  obtain ⟨g', t', cs, fuel, p, hg', ht', hvar, hd⟩ := h
  obtain rfl := Option.some.inj (hg.symm.trans hg')
  obtain rfl := Option.some.inj (ht.symm.trans ht')
  obtain ⟨f1, u, v, hcs, _⟩ := iface_of_trod hi hd
  refine ⟨.iface u v, ?_, .inr ⟨_, _, rfl⟩⟩
  rw [World.var?_cell hg hvar 0, ← Array.getElem?_toList, hcs]; rfl
set_option maxRecDepth 100000 in
theorem env_ofT' {laid : List (String × DataW Unit)} {W : World} (h : laidMetH Tryz.prog laid W) (hsh : W.ShapedOpen Tryz.prog) (e : laid = LaidFT := by rfl) : EnvT W := by
  subst e
  obtain ⟨h', hE⟩ := laid_partsT h
  refine ⟨⟨?_, name_cellsT (laidMet.reads h' (by simp [LaidPT])), Lib.tabIs_of_head (rest := LaidPT.drop 3) (g := 2) (by kernel_rfl) (by kernel_rfl) Tryz.underlying178 Tryz.underlying165 (by kernel_rfl) (by kernel_rfl) (laidMet_dropF 2 h'), hE⟩, ?_⟩
  · obtain ⟨cs, hc, _⟩ := hsh.1 9 #[.nilIface] 26 (by decide +kernel) (by kernel_rfl)
    have := lt_of_block hc
    omega
  · exact err_cell (laidMet.reads h' (n := "strconv.ErrRange") (d := Rows.laid_strconv_ErrRange) (by simp [LaidPT])) (by kernel_rfl) (by kernel_rfl) Tryz.underlying26
noncomputable def lowWT : Nat := (World.holding Tryz.prog default ⟨#[], #[], []⟩).heap.size
noncomputable def laidWorldT (os : Os) : World :=
  let w0 := World.holding Tryz.prog os ⟨#[.cells #[.string ⟨#[118, 97, 108, 117, 101, 32, 111, 117, 116, 32, 111, 102, 32, 114, 97, 110, 103, 101]⟩] 210, .cells #[.string ⟨#[105, 110, 118, 97, 108, 105, 100, 32, 115, 121, 110, 116, 97, 120]⟩] 210], #[], []⟩
  { w0 with heap := setG (setG (setG (setG (setG (setG (setG (setG (setG w0.heap 9 [.iface 208 (.pointer (some ⟨lowWT, 0, none⟩))]) 8 [.iface 208 (.pointer (some ⟨lowWT + 1, 0, none⟩))])
      0 [.iface 127 (.agg #[.pointer (some ⟨15, 26, none⟩)])]) 1 (flatD 4 Rows.laid_spillway_faults_names))
      2 (flatD 4 Rows.laid_internal_strconv_uint64pow10)) 3 (flatD 4 Rows.laid_unicode_utf8_first))
      4 (flatD 4 Rows.laid_unicode_utf8_acceptRanges)) 5 (flatD 4 Rows.laid_math_bits_deBruijn32tab)) 6 (flatD 4 Rows.laid_math_bits_deBruijn64tab) }
set_option maxRecDepth 100000 in
theorem laidWT_plain (os : Os) (args : Array Value) : laidMet Tryz.prog LaidPT ((laidWorldT os).forCall (fun _ _ => 0) ⟨#[], args, []⟩).memory :=
  laidMet_of_run3 8 (by kernel_rfl) (by kernel_rfl) (by kernel_rfl)
set_option maxRecDepth 100000 in
theorem laidWT_met (os : Os) (args : Array Value) : laidMetH Tryz.prog LaidFT ((laidWorldT os).forCall (fun _ _ => 0) ⟨#[], args, []⟩).memory :=
  laidMetH_of_parts (laidWT_plain os args) (by kernel_rfl)
end Go.Proofs.YtgnhbccmdpkbiaaGreatDoor
