/-
  What the law FaultsNone of layer 3 needs: the package's functions at errors that are no faults.
-/
import Derived.Test.YtgnhbccmdpkbiaaDoorFaSh
namespace Go.Proofs.YtgnhbccmdpkbiaaDoor
open Go.RowKit Go.Extern.Stop Go.Stop Go.Extern

/-- The error of the statements' own package around nothing. -/
def frn0 : Value := .iface 33 (.agg #[.nilIface])
def zL (b : Nat) : Value := .iface 26 (.pointer (some ⟨b, 0, none⟩))
def zJ (b : Nat) : Value := .iface 36 (.pointer (some ⟨b, 0, none⟩))
def noL : Value := .iface 26 (.pointer none)
def zLcells : Array Value := #[.bool false, I64 0, .string ⟨#[]⟩, I64 0, I64 0, .nilIface, I64 0, I64 0]
def zJcells : Array Value := #[.slice none 0 0, I64 0, I64 0]
/-- An error that is no fault of the package, but for sentinels. -/
def BadV (w : World) (v : Value) : Prop := v = frn0 ∨ v = noL ∨ (∃ b, v = zL b ∧ w.heap[b]? = some (.cells zLcells 35 (0, 0))) ∨ (∃ b, v = zJ b ∧ w.heap[b]? = some (.cells zJcells 39 (0, 0)))
theorem BadV.below {w w' : World} {v : Value} (h : BadV w v) (hb : Below w.heap.size w w') : BadV w' v := by
  rcases h with h | h | ⟨b, h, h2⟩ | ⟨b, h, h2⟩
  · exact .inl h
  · exact .inr (.inl h)
  · exact .inr (.inr (.inl ⟨b, h, (hb.block b (lt_of_block h2)).trans h2⟩))
  · exact .inr (.inr (.inr ⟨b, h, (hb.block b (lt_of_block h2)).trans h2⟩))
def IfV (o : Option (TypeId × Value)) : Value := match o with
  | none => .nilIface
  | some p => .iface p.1 p.2
def noJ : Value := .iface 36 (.pointer none)
/-- What is no fault at all: nil, a bad error, a sentinel, no join. -/
def NotF (w : World) (v : Value) : Prop := v = .nilIface ∨ BadV w v ∨ v = sent 8 ∨ v = noJ
theorem NotF.below {w w' : World} {v : Value} (h : NotF w v) (hb : Below w.heap.size w w') : NotF w' v := by
  rcases h with h | h | h
  · exact .inl h
  · exact .inr (.inl (h.below hb))
  · exact .inr (.inr h)
theorem NotF.form {w : World} {v : Value} (h : NotF w v) : ∃ o, v = IfV o := by
  rcases h with rfl | (rfl | rfl | ⟨b, rfl, _⟩ | ⟨b, rfl, _⟩) | rfl | rfl
  · exact ⟨none, rfl⟩
  · exact ⟨some (_, _), rfl⟩
  · exact ⟨some (_, _), rfl⟩
  · exact ⟨some (_, _), rfl⟩
  · exact ⟨some (_, _), rfl⟩
  · exact ⟨some (_, _), rfl⟩
  · exact ⟨some (_, _), rfl⟩
theorem taFL (v : Value) (w : World) : (Instr.typeAssert (.iface 33 v) 28 26 true).run Tryd.prog w = .ok (.tuple #[.pointer none, .bool false]) w := by kernel_rfl
theorem taFJ (v : Value) (w : World) : (Instr.typeAssert (.iface 33 v) 28 36 true).run Tryd.prog w = .ok (.tuple #[.pointer none, .bool false]) w := by kernel_rfl
theorem taSL (v : Value) (w : World) : (Instr.typeAssert (.iface 62 v) 28 26 true).run Tryd.prog w = .ok (.tuple #[.pointer none, .bool false]) w := by kernel_rfl
theorem taSJ (v : Value) (w : World) : (Instr.typeAssert (.iface 62 v) 28 36 true).run Tryd.prog w = .ok (.tuple #[.pointer none, .bool false]) w := by kernel_rfl

set_option maxRecDepth 100000 in
theorem measure_not (v : Value) (w : World) (h : NotF w v) : Calls Tryd.prog 24 #[v] w fun e w' => e = .returned (.tuple #[I64 0, I64 0]) ∧ Below w.heap.size w w' := by
  have t1 := taLL
  have t2 := taJL
  have t3 := taJJ
  have t4 := taLJ
  have t5 := taNL
  have t6 := taNJ
  have t7 := taFL
  have t8 := taFJ
  have t9 := taSL
  have t10 := taSJ
  rcases h with rfl | (rfl | rfl | ⟨b, rfl, hb⟩ | ⟨b, rfl, hb⟩) | rfl | rfl
  · go_enter Tryd.func24, Tryd.ntmps24
    go_wp2
    go_ret2
    exact ⟨rfl, Below.refl _ _⟩
  · unfold frn0
    go_enter Tryd.func24, Tryd.ntmps24
    go_wp2
    go_ret2
    exact ⟨rfl, Below.refl _ _⟩
  · unfold noL
    go_enter Tryd.func24, Tryd.ntmps24
    go_wp2
    go_ret2
    exact ⟨rfl, Below.refl _ _⟩
  · have c0 := blk_cell hb 0
    simp only [zLcells, List.getElem?_toArray, List.getElem?_cons_zero] at c0
    clear hb
    unfold zL
    go_enter Tryd.func24, Tryd.ntmps24
    go_wp2
    go_ret2
    exact ⟨rfl, Below.refl _ _⟩
  · have c1 := blk_cell hb 1
    have c2 := blk_cell hb 2
    simp only [zJcells, List.getElem?_toArray, List.getElem?_cons_zero, List.getElem?_cons_succ] at c1 c2
    clear hb
    unfold zJ
    go_enter Tryd.func24, Tryd.ntmps24
    go_wp2
    go_quiet (fail)
    go_wp2
    go_ret2
    exact ⟨rfl, below_drewN (Below.refl _ _) _⟩
  · unfold sent
    go_enter Tryd.func24, Tryd.ntmps24
    go_wp2
    go_ret2
    exact ⟨rfl, Below.refl _ _⟩
  · unfold noJ
    go_enter Tryd.func24, Tryd.ntmps24
    go_wp2
    go_ret2
    exact ⟨rfl, Below.refl _ _⟩
/-- ErrNil at nil, ErrArg at all else that is no fault. -/
def wantE (v : Value) : Int := match v with
  | .nilIface => 1
  | _ => 2
theorem chain_not (v : Value) (w : World) (h : NotF w v) : Calls Tryd.prog 6 #[v] w fun e w' => e = .returned (.tuple #[.slice none 0 0, I64 (wantE v)]) ∧ Below w.heap.size w w' := by
  have HM := Lib.hid (measure_not v w h)
  obtain ⟨o, rfl⟩ := h.form
  clear h
  cases o with
  | none =>
    unfold IfV wantE
    go_enter Tryd.func6, Tryd.ntmps6
    go_wp2
    go_ret2
    exact ⟨rfl, Below.refl _ _⟩
  | some p =>
    obtain ⟨ty, pv⟩ := p
    unfold IfV at *
    unfold wantE
    dsimp only at HM ⊢
    go_enter Tryd.func6, Tryd.ntmps6
    go_wp2_with fail
    refine HM.out.mono ?_
    rintro e w1 ⟨rfl, hb⟩
    go_wp2
    go_ret2
    exact ⟨rfl, hb⟩
theorem text_not (v : Value) (w : World) (h : NotF w v) : Calls Tryd.prog 9 #[v] w fun e w' => e = .returned (.tuple #[.string ⟨#[]⟩, I64 (wantE v)]) ∧ Below w.heap.size w w' := by
  have HM := Lib.hid (measure_not v w h)
  obtain ⟨o, rfl⟩ := h.form
  clear h
  cases o with
  | none =>
    unfold IfV wantE
    go_enter Tryd.func9, Tryd.ntmps9
    go_wp2
    go_ret2
    exact ⟨rfl, Below.refl _ _⟩
  | some p =>
    obtain ⟨ty, pv⟩ := p
    unfold IfV at *
    unfold wantE
    dsimp only at HM ⊢
    go_enter Tryd.func9, Tryd.ntmps9
    go_wp2_with fail
    refine HM.out.mono ?_
    rintro e w1 ⟨rfl, hb⟩
    go_wp2
    go_ret2
    exact ⟨rfl, hb⟩
def zLink : Value := .agg #[I64 0, .string ⟨#[]⟩, I64 0, I64 0]
set_option maxRecDepth 100000 in
theorem first_not (v : Value) (k : Int) (w : World) (h : NotF w v) : Calls Tryd.prog 7 #[v, I64 k] w fun e w' => e = .returned (.tuple #[zLink, I64 (wantE v)]) ∧ Below w.heap.size w w' := by
  have hb0 := (Below.refl w.heap.size w).alloc (Nat.le_refl _) (.cells #[I64 0, .string ⟨#[]⟩, I64 0, I64 0] 24)
  have HB0 := Lib.hid hb0
  have HRB := Lib.hid (blk_new w (.cells #[I64 0, .string ⟨#[]⟩, I64 0, I64 0] 24))
  have HC := Lib.hid (chain_not v _ (h.below hb0))
  have hw : ((wantE v : Int) != 0) = true := by
    obtain ⟨o, rfl⟩ := h.form
    cases o <;> rfl
  generalize wantE v = E at HC hw ⊢
  obtain ⟨o, rfl⟩ := h.form
  clear h hb0
  go_enter Tryd.func7, Tryd.ntmps7
  go_wp2_with fail
  refine HC.out.mono ?_
  rintro e w1 ⟨rfl, hb⟩
  have hrb := (hb.block w.heap.size (by simp)).trans HRB.out
  have HB1 := Lib.hid (HB0.out.trans (hb.mono HB0.out.size))
  have r0 := blk_cell hrb 0
  have r1 := blk_cell hrb 1
  have r2 := blk_cell hrb 2
  have r3 := blk_cell hrb 3
  have s0 := blk_free hrb 0
  have s1 := blk_free hrb 1
  have s2 := blk_free hrb 2
  have s3 := blk_free hrb 3
  simp only [List.getElem?_toArray, List.getElem?_cons_succ, List.getElem?_cons_zero] at r0 r1 r2 r3
  have hne1 := lt_of_block hrb
  clear hrb hb
  go_wp2
  refine bodyPost_ret (v := .tuple #[.agg #[I64 0, .string ⟨#[]⟩, I64 0, I64 0], I64 E]) (by rw [results_cell_tmp rfl]; go_simp) rfl ?_
  refine ⟨rfl, ?_⟩
  first | exact HB1.out | exact (((HB1.out.setCell (Nat.le_refl _) _).setCell (Nat.le_refl _) _).setCell (Nat.le_refl _) _).setCell (Nat.le_refl _) _
set_option maxRecDepth 100000 in
theorem root_not (v : Value) (w : World) (h : NotF w v) : Calls Tryd.prog 8 #[v] w fun e w' => e = .returned (.tuple #[zLink, I64 (wantE v)]) ∧ Below w.heap.size w w' := by
  have hb0 := (Below.refl w.heap.size w).alloc (Nat.le_refl _) (.cells #[I64 0, .string ⟨#[]⟩, I64 0, I64 0] 24)
  have HB0 := Lib.hid hb0
  have HRB := Lib.hid (blk_new w (.cells #[I64 0, .string ⟨#[]⟩, I64 0, I64 0] 24))
  have HC := Lib.hid (chain_not v _ (h.below hb0))
  have hw : ((wantE v : Int) != 0) = true := by
    obtain ⟨o, rfl⟩ := h.form
    cases o <;> rfl
  generalize wantE v = E at HC hw ⊢
  obtain ⟨o, rfl⟩ := h.form
  clear h hb0
  go_enter Tryd.func8, Tryd.ntmps8
  go_wp2_with fail
  refine HC.out.mono ?_
  rintro e w1 ⟨rfl, hb⟩
  have hrb := (hb.block w.heap.size (by simp)).trans HRB.out
  have HB1 := Lib.hid (HB0.out.trans (hb.mono HB0.out.size))
  have r0 := blk_cell hrb 0
  have r1 := blk_cell hrb 1
  have r2 := blk_cell hrb 2
  have r3 := blk_cell hrb 3
  have s0 := blk_free hrb 0
  have s1 := blk_free hrb 1
  have s2 := blk_free hrb 2
  have s3 := blk_free hrb 3
  simp only [List.getElem?_toArray, List.getElem?_cons_succ, List.getElem?_cons_zero] at r0 r1 r2 r3
  have hne1 := lt_of_block hrb
  clear hrb hb
  go_wp2
  refine bodyPost_ret (v := .tuple #[.agg #[I64 0, .string ⟨#[]⟩, I64 0, I64 0], I64 E]) (by rw [results_cell_tmp rfl]; go_simp) rfl ?_
  refine ⟨rfl, ?_⟩
  first | exact HB1.out | exact (((HB1.out.setCell (Nat.le_refl _) _).setCell (Nat.le_refl _) _).setCell (Nat.le_refl _) _).setCell (Nat.le_refl _) _
set_option maxRecDepth 100000 in
/-- Wrap of an error that is no fault. -/
theorem wrap_not (x : Fa.Link) (v : Value) (w : World) (h : NotF w v) (hn : v ≠ .nilIface) : Calls Tryd.prog 10 #[valLink x, v] w fun e w' => e = .returned (.tuple #[.nilIface, I64 2]) ∧ Below w.heap.size w w' := by
  have hb0 := (Below.refl w.heap.size w).alloc (Nat.le_refl _) (.cells #[I64 x.kind, .string x.op, I64 x.backend, I64 x.conn] 24)
  have HB0 := Lib.hid hb0
  have HM := Lib.hid (measure_not v _ (h.below hb0))
  obtain ⟨o, rfl⟩ := h.form
  obtain ⟨xk, xo, xb, xc⟩ := x
  cases o with
  | none => exact absurd rfl hn
  | some p =>
    obtain ⟨ty, pv⟩ := p
    unfold IfV valLink at *
    clear h hn hb0
    dsimp only at HM HB0 ⊢
    go_enter Tryd.func10, Tryd.ntmps10
    go_wp2_with fail
    refine HM.out.mono ?_
    rintro e w1 ⟨rfl, hb⟩
    go_wp2
    go_ret2
    exact ⟨rfl, HB0.out.trans (hb.mono HB0.out.size)⟩
theorem wrap_some0 (x : Fa.Link) (w : World) (hs : x.op.size ≤ maxLen) : Calls Tryd.prog 10 #[valLink x, .nilIface] w fun e w' => ∃ ev c, e = .returned (.tuple #[ev, I64 c]) ∧ Below w.heap.size w w' := by
  refine (wrap_nil x w hs).mono ?_
  rintro e w' ⟨h1, h2, h3⟩
  by_cases h0 : wrapE x .nil = 0
  · obtain ⟨b, e1, _⟩ := h2 h0
    exact ⟨_, _, e1, h3⟩
  · exact ⟨_, _, h1 h0, h3⟩
def encI (o : Option (TypeId × Value)) : List Value := [IfV o]
theorem elI : ElT Tryd.prog 37 28 1 16 .nilIface encI :=
  ⟨Tryd.underlying37, by kernel_rfl, rfl, by decide, fun _ => rfl, fun x u hu => by simp [encI] at hu; subst hu; cases x <;> rfl⟩
set_option maxHeartbeats 1000000 in
set_option maxRecDepth 100000 in
/-- Join of one error that is no fault. -/
theorem join_not (v : Value) (g : Nat) (w : World) (h : NotF w v) (hg : g < w.heap.size) (hc : w.cell? ⟨g, 0, none⟩ = some v) : Calls Tryd.prog 11 #[.slice (some ⟨g, 0, none⟩) 1 1] w fun e w' => e = .returned (.tuple #[.nilIface, I64 2]) ∧ Below w.heap.size w w' := by
  have HH := Lib.hid h
  obtain ⟨o, rfl⟩ := h.form
  have HC : Hid (∀ j (hj : j < [o].length) i u, (encI ([o][j]))[i]? = some u → w.cell? ⟨g, 0 + j * 1 + i, none⟩ = some u) := fun j hj i u hu => by
    match j, hj with
    | 0, _ =>
      match i, hu with
      | 0, hu =>
        simp [encI] at hu
        subst hu
        exact hc
  have HG := Lib.hid hg
  have HCC := Lib.hid hc
  clear h hc hg
  go_enter Tryd.func11, Tryd.ntmps11
  go_wp2_with (at_builtin; refine appLs elI _ rfl _ _ rfl w.heap.size (.slice none 0 0) [] [o] rfl (OwnL.nil _ _) g 0 1 rfl HC.out (by unfold maxLen; simp) (by simp) (Nat.le_refl _) ?_; rintro v2 w2 hown hgr; rw [List.nil_append] at hown; obtain ⟨g2, c2, hv2, _, _⟩ := own_form hown (by simp); subst hv2)
  have hbw : Below w.heap.size w w2 := (Below.refl _ _).grown hgr (Nat.le_refl _) (fun k hk => by cases hk)
  clear hown hgr
  go_loopw [18] (fun i wr => i = .int .i64 0 ∧ Hid (Below w.heap.size w wr)) (fun _ _ => 0)
  case atStart => exact ⟨rfl, hbw.alloc hbw.size _⟩
  case round =>
    obtain ⟨rfl, hbr⟩ := hrel
    have c1 : wr.cell? ⟨g, 0, none⟩ = some (IfV o) := (hbr.out.cell (p := ⟨g, 0, none⟩) HG.out).trans HCC.out
    have HM := Lib.hid (measure_not (IfV o) wr (HH.out.below hbr.out))
    generalize IfV o = v at c1 HM
    go_wp2_with fail
    refine HM.out.mono ?_
    rintro e w3 ⟨rfl, hx⟩
    go_wp2
    go_ret2
    exact ⟨rfl, hbr.out.trans (hx.mono hbr.out.size)⟩
end Go.Proofs.YtgnhbccmdpkbiaaDoor
