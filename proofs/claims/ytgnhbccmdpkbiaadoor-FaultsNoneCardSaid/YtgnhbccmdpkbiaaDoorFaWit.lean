/-
  Layer 3 (faults): from what a row lists to what the walks ask of the package-level variables; a world that fits what the rows list; the opener of []api.FaNode.
-/
import Derived.Test.YtgnhbccmdpkbiaaDoorRows
import Derived.Test.YtgnhbccmdpkbiaaDoorFaTx
import Derived.Test.YtgnhbccmdpkbiaaDoorFaw9
import Derived.Lib.LaidU8
import Derived.Lib.LaidTab
import Derived.Shelf.Vars
import Derived.LaidHandle
import Derived.Stop.LaidErr
import Derived.Deep.DeepLaidRun
import Derived.Deep.DeepHandedRow
import Derived.SizedLaws
import Derived.Deep.Slices
import Derived.Deep.Fields
import Derived.ChangeSame
namespace Go.Proofs.YtgnhbccmdpkbiaaDoor
open Go.RowKit Go.Shelf Go.Lib Go.ChangeShapes Go.WideShapes Go.Deep

def LaidF : List (String × DataW Unit) := [("math/bits.deBruijn32tab", Rows.laid_math_bits_deBruijn32tab), ("math/bits.deBruijn64tab", Rows.laid_math_bits_deBruijn64tab), ("internal/strconv.uint64pow10", Rows.laid_internal_strconv_uint64pow10), ("unicode/utf8.acceptRanges", Rows.laid_unicode_utf8_acceptRanges), ("errors.errorType", Rows.laid_errors_errorType), ("spillway/faults.names", Rows.laid_spillway_faults_names), ("unicode/utf8.first", Rows.laid_unicode_utf8_first)]
def LaidP : List (String × DataW Unit) := [("math/bits.deBruijn32tab", Rows.laid_math_bits_deBruijn32tab), ("math/bits.deBruijn64tab", Rows.laid_math_bits_deBruijn64tab), ("internal/strconv.uint64pow10", Rows.laid_internal_strconv_uint64pow10), ("unicode/utf8.acceptRanges", Rows.laid_unicode_utf8_acceptRanges), ("spillway/faults.names", Rows.laid_spillway_faults_names), ("unicode/utf8.first", Rows.laid_unicode_utf8_first)]
theorem et : Tryd.prog.globalNamed "errors.errorType" = some 0 := by kernel_rfl
theorem rt : (Tryd.prog.cutTypes.find? (·.1 == "internal/reflectlite.rtype")).map (·.2) = some 107 := by kernel_rfl
theorem oneRow : ((List.range 183).filter fun t => Tryd.prog.rowNamed t [101, 114, 114, 111, 114]) = [28] := by kernel_rfl
theorem tsize : Tryd.prog.types.size = 183 := by kernel_rfl
theorem laid_parts {W : World} (h : laidMetH Tryd.prog LaidF W) : laidMet Tryd.prog LaidP W ∧ ErrT W := by
  have h' : laidMet Tryd.prog LaidP W ∧ handlesMet Tryd.prog [("errors.errorType", Rows.laid_errors_errorType)] W := h
  refine ⟨h'.1, ?_⟩
  obtain ⟨name, u, ty, e1, e2, e3, e4, e5⟩ := h'.2 _ (List.mem_singleton.2 rfl)
  have en : name = [101, 114, 114, 111, 114] := (Option.some.inj e1).symm
  subst en
  obtain rfl := Option.some.inj (rt.symm.trans e2)
  have hm : ty ∈ (List.range 183).filter fun t => Tryd.prog.rowNamed t [101, 114, 114, 111, 114] := List.mem_filter.2 ⟨List.mem_range.2 (by rw [← tsize]; exact e3), e4⟩
  rw [oneRow] at hm
  obtain rfl := List.mem_singleton.1 hm
  have hh : typeHandle Tryd.prog 28 = .pointer (some ⟨8, 28, none⟩) := by kernel_rfl
  rw [hh] at e5
  show W.cell? _ = _
  simpa using World.var?_cell et e5 0
theorem laidMet_dropF {P : Program} {w : World} : ∀ (n : Nat) {l : List (String × DataW Unit)}, laidMet P l w → laidMet P (l.drop n) w
  | 0, _, h => h
  | _ + 1, [], h => h
  | n + 1, _ :: _, h => laidMet_dropF n (laidMet.tail h)
set_option maxRecDepth 100000 in
theorem name_cells {W : World} (h : laidMet Tryd.prog LaidP W) : ∀ k, k < 17 → W.cell? ⟨1, k, none⟩ = some (S8 (Fa.names.getD k [])) := by
  have hv : VarReads Tryd.prog W "spillway/faults.names" Rows.laid_spillway_faults_names := laidMet.reads h (by simp [LaidP])
  obtain ⟨g, t, cs, fuel, p, hg, hty, hvar, hd⟩ := hv
  obtain rfl := Option.some.inj ((show Tryd.prog.globalNamed "spillway/faults.names" = some 1 by kernel_rfl).symm.trans hg)
  obtain rfl := Option.some.inj ((show (Tryd.prog.globals[1]?).map (·.type) = some 99 by kernel_rfl).symm.trans hty)
  have c1 : Tryd.prog.cellsOf 9 = 1 := by kernel_rfl
  intro k hk
  obtain ⟨fuel', d, q, hdi, he⟩ := array_elem Tryd.underlying99 hd k hk
  rw [c1] at he
  obtain ⟨s, e0, e1, _⟩ := DataW.trod_string Tryd.underlying9 he
  have hd2 : d = .lit (.string (Fa.names.getD k [])) := by
    match k, hk, hdi with
    | 0, _, hdi => exact (Option.some.inj hdi).symm
    | 1, _, hdi => exact (Option.some.inj hdi).symm
    | 2, _, hdi => exact (Option.some.inj hdi).symm
    | 3, _, hdi => exact (Option.some.inj hdi).symm
    | 4, _, hdi => exact (Option.some.inj hdi).symm
    | 5, _, hdi => exact (Option.some.inj hdi).symm
    | 6, _, hdi => exact (Option.some.inj hdi).symm
    | 7, _, hdi => exact (Option.some.inj hdi).symm
    | 8, _, hdi => exact (Option.some.inj hdi).symm
    | 9, _, hdi => exact (Option.some.inj hdi).symm
    | 10, _, hdi => exact (Option.some.inj hdi).symm
    | 11, _, hdi => exact (Option.some.inj hdi).symm
    | 12, _, hdi => exact (Option.some.inj hdi).symm
    | 13, _, hdi => exact (Option.some.inj hdi).symm
    | 14, _, hdi => exact (Option.some.inj hdi).symm
    | 15, _, hdi => exact (Option.some.inj hdi).symm
    | 16, _, hdi => exact (Option.some.inj hdi).symm
  rw [hd2] at e1
  have hs : s.data.toList = Fa.names.getD k [] := by
    have := congrArg (·.1) e1
    simp only [DataW.lit.injEq, Lit.string.injEq] at this
    exact this.symm
  have e2 := congrArg (·[0]?) e0
  simp only [List.getElem?_take, List.getElem?_drop] at e2
  rw [World.var?_cell hg hvar k, ← Array.getElem?_toList]
  have e3 : S8 (Fa.names.getD k []) = .string s := by rw [← hs]
  rw [e3]
  simpa using e2
theorem pow_tabF {W : World} (h : laidMet Tryd.prog LaidP W) : Lib.TabIs Tryd.prog W "internal/strconv.uint64pow10" .u64 Lib.pow10Tab :=
  Lib.tabIs_of_head (rest := LaidP.drop 3) (g := 2) (by kernel_rfl) (by kernel_rfl) Tryd.underlying135 Tryd.underlying121 (by kernel_rfl) (by kernel_rfl) (laidMet_dropF 2 h)
def flatD : Nat → DataW Unit → List Value
  | 0, _ => []
  | _ + 1, .lit (.int k z) => [.int k z]
  | _ + 1, .lit (.string bs) => [.string ⟨bs.toArray⟩]
  | n + 1, .agg ds => ds.flatMap (flatD n)
  | _ + 1, _ => []
def setG (h : Array Obj) (g : Nat) (cs : List Value) : Array Obj := h.modify g fun
  | .cells _ t frozen => .cells cs.toArray t frozen
  | o => o
noncomputable def laidWorld (os : Os) : World :=
  let w0 := World.holding Tryd.prog os ⟨#[], #[], []⟩
  { w0 with heap := setG (setG (setG (setG (setG (setG (setG w0.heap 0 [.iface 107 (.agg #[.pointer (some ⟨8, 28, none⟩)])]) 1 (flatD 4 Rows.laid_spillway_faults_names))
      2 (flatD 4 Rows.laid_internal_strconv_uint64pow10)) 5 (flatD 4 Rows.laid_unicode_utf8_first))
      6 (flatD 4 Rows.laid_unicode_utf8_acceptRanges)) 3 (flatD 4 Rows.laid_math_bits_deBruijn32tab)) 4 (flatD 4 Rows.laid_math_bits_deBruijn64tab) }
set_option maxRecDepth 100000 in
theorem laidW_plain (os : Os) (args : Array Value) : laidMet Tryd.prog LaidP ((laidWorld os).forCall (fun _ _ => 0) ⟨#[], args, []⟩).memory :=
  laidMet_of_run3 8 (by kernel_rfl) (by kernel_rfl) (by kernel_rfl)
set_option maxRecDepth 100000 in
theorem laidW_met (os : Os) (args : Array Value) : laidMetH Tryd.prog LaidF ((laidWorld os).forCall (fun _ _ => 0) ⟨#[], args, []⟩).memory :=
  laidMetH_of_parts (laidW_plain os args) (by kernel_rfl)
theorem reach_string {P : Program} {H : Type} {ts : List TypeId} {ds : List (DataW H)} {i : Nat} {t : TypeId} {l : List UInt8} (h : (DataW.weightsEach P ts ds).all (· ≤ reachBytes) = true) (ht : ts[i]? = some t) (hd : ds[i]? = some (.lit (.string l))) : l.length ≤ 140737488351232 :=
  sized_string h ht hd
theorem own : ownKnob Tryd.prog.godebug = none := by kernel_rfl
theorem laidOut : laidOutB Tryd.prog = true := by kernel_rfl

theorem pick_list {α : Type} (d : α) (n : Nat) (p : Nat → α → Prop) (h : ∀ i, i < n → ∃ x, p i x) : ∃ l : List α, l.length = n ∧ ∀ j (hj : j < l.length), p j l[j] := by
  refine ⟨(List.range n).map fun i => if hi : i < n then Classical.choose (h i hi) else d, by simp, fun j hj => ?_⟩
  have hj' : j < n := by simpa using hj
  simp only [List.getElem_map, List.getElem_range]
  rw [dif_pos hj']
  exact Classical.choose_spec (h j hj')
set_option maxHeartbeats 2000000 in
set_option maxRecDepth 100000 in
theorem open_nodes {H : Type} {enc : TypeId × Value → H} {W : World} {base b0 : Nat} {sp : Nat → Bool} {held : Bool} {r : Reach} {v : Value} {d : DataW H} {ps : List MemPlace} (hval : Value.okWide Tryd.prog W r b0 41 v)
    (h : DataW.Trod enc Tryd.prog W base sp held 41 v d ps) : ∃ l : List Fa.Node, NodesIn W v l ∧ (l.length = 0 ∨ ∃ es sp, d = .slice es sp ∧ es.length = l.length) := by
  obtain ⟨a, len, cap, rfl⟩ := okWide_slice Tryd.underlying41 hval
  obtain ⟨fuel, hf⟩ := h
  rcases open_slice Tryd.underlying41 hf with ⟨h0, _⟩ | ⟨a', len', cap', m, n, D, Pl, hcs, _, hl, hm, hmm, hd, hi⟩
  · simp [Value.cells] at h0
    obtain ⟨rfl, rfl, rfl⟩ := h0
    exact ⟨[], ⟨.inl ⟨none, 0, rfl, rfl⟩, none, 0, rfl, Nat.le_refl _⟩, .inl rfl⟩
  · simp [Value.cells] at hcs
    obtain ⟨rfl, rfl, rfl⟩ := hcs
    have hC : Tryd.prog.cellsOf 67 = 6 := by kernel_rfl
    rw [hC] at hi
    have hle : len ≤ m := by rw [hmm]; split <;> omega
    have key : ∀ i, i < len → ∃ f : Fa.Node, W.cell? (a'.add (i * 6)) = some (I64 f.depth) ∧ W.cell? ((a'.add (i * 6)).add 1) = some (I64 f.joined) ∧ W.cell? ((a'.add (i * 6)).add 2) = some (I64 f.link.kind) ∧ W.cell? ((a'.add (i * 6)).add 3) = some (.string f.link.op) ∧ W.cell? ((a'.add (i * 6)).add 4) = some (I64 f.link.backend) ∧ W.cell? ((a'.add (i * 6)).add 5) = some (I64 f.link.conn) := by
      intro i hil
      obtain ⟨cs', hc, ht'⟩ := hi i (by omega)
      obtain ⟨ys, n', hn', hy, hlen, hyl, hg⟩ := DataW.trod_struct Tryd.underlying67 ht'
      obtain ⟨_, hcl, hat⟩ := World.cells?_some hc
      match cs', hcl with
      | [u0, u1, u2, u3, u4, u5], _ =>
        have c0 := hat 0 (by omega)
        have c1 := hat 1 (by omega)
        have c2 := hat 2 (by omega)
        have c3 := hat 3 (by omega)
        have c4 := hat 4 (by omega)
        have c5 := hat 5 (by omega)
        have k0 : Tryd.prog.cellsOf 3 = 1 := by kernel_rfl
        have k1 : Tryd.prog.cellsOf 24 = 4 := by kernel_rfl
        have k2 : Tryd.prog.cellsOf 9 = 1 := by kernel_rfl
        have k3 : Tryd.prog.cellsOf 2 = 1 := by kernel_rfl
        have k4 : Tryd.prog.cellsOf 22 = 1 := by kernel_rfl
        have g0 := hg 0 _ rfl
        have g1 := hg 1 _ rfl
        have g2 := hg 2 _ rfl
        simp only [List.getElem_toArray, List.getElem_cons_zero, List.getElem_cons_succ, k0, k1] at g0 g1 g2
        match ys, hyl with
        | [y0, y1, y2], _ =>
          simp only [List.drop_zero, List.drop_succ_cons, List.take_succ_cons, List.take_zero, List.getElem?_cons_zero, List.getElem?_cons_succ] at g0 g1 g2
          obtain ⟨z0, e0, _, _⟩ := DataW.trod_int Tryd.underlying3 g0
          obtain ⟨z1, e1, _, _⟩ := DataW.trod_int Tryd.underlying3 g1
          obtain ⟨xs, n2, _, _, _, hxl, hg2⟩ := DataW.trod_struct Tryd.underlying24 g2
          have m0 := hg2 0 _ rfl
          have m1 := hg2 1 _ rfl
          have m2 := hg2 2 _ rfl
          have m3 := hg2 3 _ rfl
          simp only [List.getElem_toArray, List.getElem_cons_zero, List.getElem_cons_succ, k0, k2, k3, k4] at m0 m1 m2 m3
          match xs, hxl with
          | [x0, x1, x2, x3], _ =>
            simp only [List.drop_zero, List.drop_succ_cons, List.take_succ_cons, List.take_zero, List.getElem?_cons_zero, List.getElem?_cons_succ] at m0 m1 m2 m3
            obtain ⟨z2, e2, _, _⟩ := DataW.trod_int Tryd.underlying22 m0
            obtain ⟨z3, e3, _, _⟩ := DataW.trod_string Tryd.underlying9 m1
            obtain ⟨z4, e4, _, _⟩ := DataW.trod_int Tryd.underlying3 m2
            obtain ⟨z5, e5, _, _⟩ := DataW.trod_int Tryd.underlying2 m3
            simp at e0 e1 e2 e3 e4 e5
            subst e0 e1 e2 e3 e4 e5
            exact ⟨⟨z0, z1, ⟨z2, z3, z4, z5⟩⟩, by simpa [Addr.add] using c0, by simpa using c1, by simpa using c2, by simpa using c3, by simpa using c4, by simpa using c5⟩
    obtain ⟨l, hll, hlp⟩ := pick_list ⟨0, 0, Fa.Link.zero⟩ len _ key
    refine ⟨l, ⟨?_, some a', cap, by rw [hll], by omega⟩, .inr ⟨_, _, congrArg (·.1) hd, by simp [hll]⟩⟩
    rcases Nat.eq_zero_or_pos len with hz | hpos
    · exact .inl ⟨some a', cap, by rw [hz], List.eq_nil_of_length_eq_zero (by omega)⟩
    · obtain ⟨b, o, spot⟩ := a'
      obtain ⟨f0, g0, _⟩ := key 0 hpos
      have hspot : spot = none := by simpa [Addr.add] using World.cell?_spot g0
      subst hspot
      have hb : b < W.heap.size := cell_lt (o := o) (v := I64 f0.depth) (by simpa [Addr.add] using g0)
      refine .inr ⟨b, o, cap, by rw [hll], hb, fun j hj i u hu => ?_⟩
      obtain ⟨p0, p1, p2, p3, p4, p5⟩ := hlp j hj
      have e : (⟨b, o, none⟩ : Addr).add (j * 6) = ⟨b, o + j * 6, none⟩ := by unfold Addr.add; split <;> simp_all
      rw [e] at p0 p1 p2 p3 p4 p5
      match i, hu with
      | 0, hu => simp [encNode] at hu; subst hu; exact p0
      | 1, hu => simp [encNode] at hu; subst hu; simpa [Addr.add] using p1
      | 2, hu => simp [encNode] at hu; subst hu; simpa [Addr.add] using p2
      | 3, hu => simp [encNode] at hu; subst hu; simpa [Addr.add] using p3
      | 4, hu => simp [encNode] at hu; subst hu; simpa [Addr.add] using p4
      | 5, hu => simp [encNode] at hu; subst hu; simpa [Addr.add] using p5
end Go.Proofs.YtgnhbccmdpkbiaaDoor
