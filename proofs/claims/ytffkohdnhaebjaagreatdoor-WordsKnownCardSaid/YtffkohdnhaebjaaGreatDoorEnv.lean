/-
  From what a row lists and the world's shape to what the walks ask of the package-level variables (Env).
-/
import Derived.Test.YtffkohdnhaebjaaGreatDoorRows
import Derived.Test.YtffkohdnhaebjaaGreatDoorW5
import Derived.Lib.LaidU8
import Derived.Stop.LaidErr
import Derived.Shelf.Vars
namespace Go.Proofs.YtffkohdnhaebjaaGreatDoor
open Go.RowKit Go.Shelf Go.Lib

def LaidL : List (String × DataW Unit) := [("math/bits.deBruijn32tab", Rows.laid_math_bits_deBruijn32tab), ("math/bits.deBruijn64tab", Rows.laid_math_bits_deBruijn64tab), ("internal/strconv.uint64pow10", Rows.laid_internal_strconv_uint64pow10), ("unicode/utf8.acceptRanges", Rows.laid_unicode_utf8_acceptRanges), ("strconv.ErrRange", Rows.laid_strconv_ErrRange), ("strconv.ErrSyntax", Rows.laid_strconv_ErrSyntax), ("spillway/words.escapes", Rows.laid_spillway_words_escapes), ("unicode/utf8.first", Rows.laid_unicode_utf8_first)]
theorem laidMet_drop {P : Program} {w : World} : ∀ (n : Nat) {l : List (String × DataW Unit)}, laidMet P l w → laidMet P (l.drop n) w
  | 0, _, h => h
  | _ + 1, [], h => h
  | n + 1, _ :: _, h => laidMet_drop n (laidMet.tail h)
set_option maxRecDepth 100000 in
theorem esc_cells {W : World} (h : laidMet Tryz.prog LaidL W) : ∀ j, j < 10 → W.cell? ⟨0, j, none⟩ = some (.int .u8 (([34, 34, 92, 92, 10, 110, 13, 114, 9, 116] : List Int).getD j 0)) := by
  have hv : VarReads Tryz.prog W "spillway/words.escapes" Rows.laid_spillway_words_escapes := laidMet.reads h (by simp [LaidL])
  obtain ⟨g, t, cs, fuel, p, hg, hty, hvar, hd⟩ := hv
  obtain rfl := Option.some.inj ((show Tryz.prog.globalNamed "spillway/words.escapes" = some 0 by kernel_rfl).symm.trans hg)
  obtain rfl := Option.some.inj ((show (Tryz.prog.globals[0]?).map (·.type) = some 100 by kernel_rfl).symm.trans hty)
  have c2 : Tryz.prog.cellsOf 99 = 2 := by kernel_rfl
  have c1 : Tryz.prog.cellsOf 5 = 1 := by kernel_rfl
  have key : ∀ i, i < 5 → W.cell? ⟨0, 2 * i, none⟩ = some (.int .u8 (([34, 34, 92, 92, 10, 110, 13, 114, 9, 116] : List Int).getD (2 * i) 0)) ∧ W.cell? ⟨0, 2 * i + 1, none⟩ = some (.int .u8 (([34, 34, 92, 92, 10, 110, 13, 114, 9, 116] : List Int).getD (2 * i + 1) 0)) := by
    intro i hi
    obtain ⟨fuel', d, q, hdi, he⟩ := array_elem Tryz.underlying100 hd i hi
    have hd2 : d = .agg ([([34, 34, 92, 92, 10, 110, 13, 114, 9, 116] : List Int).getD (2 * i) 0, ([34, 34, 92, 92, 10, 110, 13, 114, 9, 116] : List Int).getD (2 * i + 1) 0].map fun z => .lit (.int .u8 z)) := by
      match i, hi with
      | 0, _ => exact (Option.some.inj hdi).symm
      | 1, _ => exact (Option.some.inj hdi).symm
      | 2, _ => exact (Option.some.inj hdi).symm
      | 3, _ => exact (Option.some.inj hdi).symm
      | 4, _ => exact (Option.some.inj hdi).symm
    subst hd2
    rw [c2] at he
    have hcs := ints_of_struct Tryz.underlying99 (fun j f hj => by
      match j, hj with
      | 0, hj => simp at hj; subst hj; exact ⟨Tryz.underlying5, rfl, c1⟩
      | 1, hj => simp at hj; subst hj; exact ⟨Tryz.underlying5, rfl, c1⟩
      | j + 2, hj => simp at hj) (by rw [c2]; rfl) he
    have e0 := congrArg (·[0]?) hcs
    have e1 := congrArg (·[1]?) hcs
    simp only [List.getElem?_take, List.getElem?_drop] at e0 e1
    constructor
    · rw [World.var?_cell hg hvar (2 * i), ← Array.getElem?_toList]
      simpa [Nat.mul_comm] using e0
    · rw [World.var?_cell hg hvar (2 * i + 1), ← Array.getElem?_toList]
      simpa [Nat.mul_comm] using e1
  intro j hj
  have h2 := key (j / 2) (by omega)
  rcases Nat.mod_two_eq_zero_or_one j with h0 | h0
  · have e : 2 * (j / 2) = j := by omega
    rw [e] at h2; exact h2.1
  · have e : 2 * (j / 2) + 1 = j := by omega
    rw [e] at h2; exact h2.2
theorem pow_tab {W : World} (h : laidMet Tryz.prog LaidL W) : Lib.TabIs Tryz.prog W "internal/strconv.uint64pow10" .u64 Lib.pow10Tab :=
  Lib.tabIs_of_head (rest := LaidL.drop 3) (g := 4) (by kernel_rfl) (by kernel_rfl) Tryz.underlying136 Tryz.underlying111 (by kernel_rfl) (by kernel_rfl) (laidMet_drop 2 h)
theorem err_cell {W : World} {n nm : String} {d : DataW Unit} {g ti : Nat} {ms : Array (String × TypeId)} (h : VarReads Tryz.prog W n (.iface nm d)) (hg : Tryz.prog.globalNamed n = some g) (ht : (Tryz.prog.globals[g]?).map (·.type) = some ti)
    (hi : Tryz.prog.underlying ti = some (.interface ms)) : ∃ ev, W.cell? ⟨g, 0, none⟩ = some ev ∧ (ev = .nilIface ∨ ∃ te pe, ev = .iface te pe) := by
  obtain ⟨g', t', cs, fuel, p, hg', ht', hvar, hd⟩ := h
  obtain rfl := Option.some.inj (hg.symm.trans hg')
  obtain rfl := Option.some.inj (ht.symm.trans ht')
  obtain ⟨f1, u, v, hcs, _⟩ := iface_of_trod hi hd
  refine ⟨.iface u v, ?_, .inr ⟨_, _, rfl⟩⟩
  rw [World.var?_cell hg hvar 0, ← Array.getElem?_toList, hcs]; rfl
set_option maxRecDepth 100000 in
theorem env_of {W : World} (h : laidMet Tryz.prog LaidL W) (hsh : W.ShapedOpen Tryz.prog) (hbig : 9 ≤ W.heap.size) : Env W := by
  refine ⟨hbig, esc_cells h, ?_, ?_, pow_tab h, ?_⟩
  · exact err_cell (laidMet.reads h (n := "strconv.ErrSyntax") (d := Rows.laid_strconv_ErrSyntax) (by simp [LaidL])) (by kernel_rfl) (by kernel_rfl) Tryz.underlying54
  · exact err_cell (laidMet.reads h (n := "strconv.ErrRange") (d := Rows.laid_strconv_ErrRange) (by simp [LaidL])) (by kernel_rfl) (by kernel_rfl) Tryz.underlying54
  · exact cell_of_shapedOpen_int hsh (t := 3) (zero := #[.int .i64 0]) (by decide +kernel) (by kernel_rfl) rfl (by kernel_rfl) (by kernel_rfl) Tryz.underlying3
end Go.Proofs.YtffkohdnhaebjaaGreatDoor
