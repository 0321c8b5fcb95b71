/-
  Walks for layer 26 (model): New.
-/
import Derived.Test.YtaicmiadgnpimaaMgp
namespace Go.Proofs.Ytaicmiadgnpimaa
open Go.RowKit

theorem results_cell_tmp1 {fn : Func} {p u : Tmp} {ty : TypeId} (h : fn.results = #[.cell p ty, .tmp u]) (tmps : Array Value) (P : Program) (w : World) :
 (results fn tmps).run P w =
  ((asAddr (tmps.getD p undef)).run P w).andThen fun a w₁ => ((loadVar ty a).run P w₁).andThen fun x w₂ => .ok (.tuple #[x, tmps.getD u undef]) w₂ := by
 simp only [results, h]
 simp [Sem.run_bind, Result.andThen]
/-- What New returns: the state lies in new blocks. -/
def NewEnd (l : List Md.Lim) (w : World) (e : Ending) (w' : World) : Prop :=
 ∃ u' : SlV, e = .returned (.tuple #[.agg #[I64 (Md.new l).1.now, .bool (Md.new l).1.shut, valS u'], I64 (Md.new l).2]) ∧
  (∀ w2, Gb (fun i => i < w.heap.size) w' w2 → PoolsAt w2 (valS u') (Md.new l).1.pools) ∧ Below w.heap.size w w'
theorem newEnd_err {l : List Md.Lim} {w w' : World} {E : Int} (h : Md.new l = (Md.none0, E)) (hb : Below w.heap.size w w') : NewEnd l w (.returned (.tuple #[.agg #[I64 0, .bool false, .slice none 0 0], I64 E])) w' := by
 unfold NewEnd
 rw [h]
 exact ⟨(none, 0, 0), rfl, fun w2 _ => .inl ⟨none, 0, rfl, rfl⟩, hb⟩
def freshV (l : Md.Lim) : PoolV := ⟨l, (none, 0, 0), (none, 0, 0), (none, 0, 0), (none, 0, 0), true, 0, 0⟩
theorem fresh_rd (l : Md.Lim) (w : World) : PoolRd w (freshV l) (Md.fresh l) := ⟨rfl, rfl, rfl, rfl, .nil w, .nil w, .nil w, .nil w⟩
/-- Where the loop of New stands. -/
structure NwAt (l : List Md.Lim) (wA : World) (B k : Nat) (v : SlV) (wr : World) : Prop where
 own : OwnL 48 11 encP wr wA.heap.size (valS v) ((l.take k).map freshV)
 st : wr.heap[B + 1]? = some (.cells #[I64 0, .bool false, valS v] 26 (0, 0))
 gb : Gb (fun i => i = B + 1 ∨ wA.heap.size ≤ i) wA wr
theorem NwAt.below {l : List Md.Lim} {wA : World} {B k : Nat} {v : SlV} {wr w2 : World} (h : NwAt l wA B k v wr) (hb : Below wr.heap.size wr w2) : NwAt l wA B k v w2 :=
 ⟨h.own.below hb, (hb.block _ (lt_of_block h.st)).trans h.st, h.gb.trans (.of_below hb)⟩
theorem NwAt.step {l : List Md.Lim} {wA : World} {B k : Nat} {v : SlV} {wr wx w2 : World} {lm : Md.Lim} {xs : List PoolV} (h : NwAt l wA B k v wr) (hx : Below wr.heap.size wr wx) (hk : k < l.length) (hl : l[k] = lm) (hxs : xs = (l.take k).map freshV) (hB : B + 1 < wA.heap.size) {g' c' : Nat}
 (ho : OwnL 48 11 encP w2 wA.heap.size (.slice (some ⟨g', 0, none⟩) (xs.length + 1) c') (xs ++ [freshV lm])) (hg : wx.grownBy w2 (valS v).ownBlock) :
 (w2.cell? ⟨B + 1, 2, none⟩ = some (valS v) ∧ w2.frozen? ⟨B + 1, 2, none⟩ = false) ∧ NwAt l wA B (k + 1) (some ⟨g', 0, none⟩, xs.length + 1, c') (w2.setCell ⟨B + 1, 2, none⟩ (.slice (some ⟨g', 0, none⟩) (xs.length + 1) c')) := by
 have hx' := h.below hx
 have e : (l.take (k + 1)).map freshV = xs ++ [freshV lm] := by rw [List.take_succ_eq_append_getElem hk, List.map_append, hxs, ← hl]; rfl
 have hown : ∀ i, (valS v).ownBlock = some i → wA.heap.size ≤ i := fun i hi => (h.own.lt i hi).1
 have hst : w2.heap[B + 1]? = some (.cells #[I64 0, .bool false, valS v] 26 (0, 0)) := (hg.block _ (lt_of_block hx'.st) (fun q => by have := hown _ q.symm; omega)).trans hx'.st
 refine ⟨⟨blk_cell hst 2, blk_free hst 2⟩, ?_, ?_, ?_⟩
 · rw [e]
   have ho2 : OwnL 48 11 encP w2 wA.heap.size (valS (some ⟨g', 0, none⟩, xs.length + 1, c')) (xs ++ [freshV lm]) := ho
   refine ho2.kept (setCell_grown _ ⟨B + 1, 2, none⟩ _) (.inr ?_)
   intro q
   have hq : some g' = some (B + 1) := q
   injection hq with hq
   have := (ho2.lt g' rfl).1
   omega
 · have q := blk_set hst 2 (.slice (some ⟨g', 0, none⟩) (xs.length + 1) c')
   simpa [valS] using q
 · exact (hx'.gb.trans (.of_grown hg fun i hi => .inr (hown i hi))).setCell (x := ⟨B + 1, 2, none⟩) (.inl rfl) _
theorem NwAt.fin {l : List Md.Lim} {wA : World} {B : Nat} {v : SlV} {wr w2 : World} (h : NwAt l wA B l.length v wr) (hg : Gb (fun i => i < wA.heap.size) wr w2) : PoolsAt w2 (valS v) (l.map Md.fresh) := by
 have ho := (h.own.gb hg).reads encP_len
 rw [List.take_length] at ho
 exact (show PoolsRd w2 v (l.map freshV) (l.map Md.fresh) from ⟨ho, by simp, fun j h1 h2 => by
  rw [List.getElem_map, List.getElem_map]
  exact fresh_rd _ _⟩).at_
theorem newEnd_ok {l : List Md.Lim} {w wA wr w' : World} {B : Nat} {v : SlV} (h : NwAt l wA B l.length v wr) (hn : Md.new l = (⟨0, false, l.map Md.fresh⟩, 0)) (hM : w.heap.size ≤ wA.heap.size) (hg : Gb (fun i => i < wA.heap.size) wr w') (hb : Below w.heap.size w w') :
 NewEnd l w (.returned (.tuple #[.agg #[I64 0, .bool false, valS v], I64 0])) w' := by
 unfold NewEnd
 rw [hn]
 exact ⟨v, rfl, fun w2 h2 => h.fin (hg.trans (h2.mono (fun _ _ q => Nat.lt_of_lt_of_le q hM))), hb⟩
set_option maxHeartbeats 8000000 in
set_option maxRecDepth 100000 in
set_option linter.unusedVariables false in
set_option linter.unusedSimpArgs false in
theorem new_long (l : List Md.Lim) (u : SlV) (w : World) (h : ReadsL 4 encLim w (valS u) l) (hq : l.length < 1 ∨ 16 < l.length) :
 Calls Try.prog 24 #[valS u] w fun e w' => NewEnd l w e w' := by
 obtain ⟨⟨ua, un, uc⟩, hu0⟩ : ∃ x, x = u := ⟨_, rfl⟩
 have hul := read_len h
 have hal1 := (Below.refl w.heap.size w).alloc (Nat.le_refl _) (.cells #[I64 0, .bool false, .slice none 0 0] 26)
 have hal2 := (Below.refl (w.alloc (.cells #[I64 0, .bool false, .slice none 0 0] 26)).heap.size (w.alloc (.cells #[I64 0, .bool false, .slice none 0 0] 26))).alloc (Nat.le_refl _) (.cells #[I64 0, .bool false, .slice none 0 0] 26)
 have hbA := hal1.trans (hal2.mono hal1.size)
 have n1 := (hal2.block w.heap.size (by simp)).trans (blk_new w (.cells #[I64 0, .bool false, .slice none 0 0] 26))
 have n2 : ((w.alloc (.cells #[I64 0, .bool false, .slice none 0 0] 26)).alloc (.cells #[I64 0, .bool false, .slice none 0 0] 26)).heap[w.heap.size + 1]? = some (.cells #[I64 0, .bool false, .slice none 0 0] 26 (0, 0)) := by
  have := blk_new (w.alloc (.cells #[I64 0, .bool false, .slice none 0 0] 26)) (.cells #[I64 0, .bool false, .slice none 0 0] 26)
  simpa using this
 obtain ⟨wA, hwA⟩ : ∃ x, x = (w.alloc (.cells #[I64 0, .bool false, .slice none 0 0] 26)).alloc (.cells #[I64 0, .bool false, .slice none 0 0] 26) := ⟨_, rfl⟩
 obtain ⟨B, hB⟩ : ∃ x, x = w.heap.size := ⟨_, rfl⟩
 rw [← hwA] at hbA n1 n2
 rw [← hB] at n1 n2
 have HBA := Lib.hid hbA
 have HBs := Lib.hid hB
 have HN1 := Lib.hid n1
 have HN2 := Lib.hid n2
 have HRA := Lib.hid (h.below hbA)
 have HR0 := Lib.hid h
 clear hal1 hal2 hbA n1 n2 h
 have HNE : Hid (Md.new l = (Md.none0, 3)) := by
  show _ = _
  unfold Md.new
  rw [if_pos hq]
 subst hu0
 unfold valS at *
 dsimp only at *
 rw [← hul] at hq
 clear hul HN1 HN2 HRA
 by_cases hz : un = 0
 · subst hz
   clear hq
   go_enter Try.func24, Try.ntmps24
   go_wp2
   simp only [← hwA]
   refine bodyPost_ret (v := .tuple #[.agg #[I64 0, .bool false, .slice none 0 0], I64 3]) (by rw [results_cell_tmp1 rfl, hwA]; go_simp) rfl ?_
   exact newEnd_err HNE.out HBA.out
 · have z1 : ((un : Int) == 0) = false := by rw [beq_eq_false_iff_ne]; omega
   have z2 : decide ((16 : Int) < (un : Int)) = true := decide_eq_true (by omega)
   clear hq hz
   go_enter Try.func24, Try.ntmps24
   go_wp2
   simp only [← hwA]
   refine bodyPost_ret (v := .tuple #[.agg #[I64 0, .bool false, .slice none 0 0], I64 3]) (by rw [results_cell_tmp1 rfl, hwA]; go_simp) rfl ?_
   exact newEnd_err HNE.out HBA.out
set_option maxHeartbeats 8000000 in
set_option maxRecDepth 100000 in
set_option linter.unusedVariables false in
set_option linter.unusedSimpArgs false in
theorem new_range (l : List Md.Lim) (u : SlV) (w : World) (h : ReadsL 4 encLim w (valS u) l) (hq : ¬ (l.length < 1 ∨ 16 < l.length)) (ha : l.all Md.limOk = false) :
 Calls Try.prog 24 #[valS u] w fun e w' => NewEnd l w e w' := by
 obtain ⟨⟨ua, un, uc⟩, hu0⟩ : ∃ x, x = u := ⟨_, rfl⟩
 have hul := read_len h
 have hal1 := (Below.refl w.heap.size w).alloc (Nat.le_refl _) (.cells #[I64 0, .bool false, .slice none 0 0] 26)
 have hal2 := (Below.refl (w.alloc (.cells #[I64 0, .bool false, .slice none 0 0] 26)).heap.size (w.alloc (.cells #[I64 0, .bool false, .slice none 0 0] 26))).alloc (Nat.le_refl _) (.cells #[I64 0, .bool false, .slice none 0 0] 26)
 have hbA := hal1.trans (hal2.mono hal1.size)
 have n1 := (hal2.block w.heap.size (by simp)).trans (blk_new w (.cells #[I64 0, .bool false, .slice none 0 0] 26))
 have n2 : ((w.alloc (.cells #[I64 0, .bool false, .slice none 0 0] 26)).alloc (.cells #[I64 0, .bool false, .slice none 0 0] 26)).heap[w.heap.size + 1]? = some (.cells #[I64 0, .bool false, .slice none 0 0] 26 (0, 0)) := by
  have := blk_new (w.alloc (.cells #[I64 0, .bool false, .slice none 0 0] 26)) (.cells #[I64 0, .bool false, .slice none 0 0] 26)
  simpa using this
 obtain ⟨wA, hwA⟩ : ∃ x, x = (w.alloc (.cells #[I64 0, .bool false, .slice none 0 0] 26)).alloc (.cells #[I64 0, .bool false, .slice none 0 0] 26) := ⟨_, rfl⟩
 obtain ⟨B, hB⟩ : ∃ x, x = w.heap.size := ⟨_, rfl⟩
 rw [← hwA] at hbA n1 n2
 rw [← hB] at n1 n2
 have HBA := Lib.hid hbA
 have HBs := Lib.hid hB
 have HN1 := Lib.hid n1
 have HN2 := Lib.hid n2
 have HRA := Lib.hid (h.below hbA)
 have HR0 := Lib.hid h
 clear hal1 hal2 hbA n1 n2 h
 have HNE : Hid (Md.new l = (Md.none0, 7)) := by
  show _ = _
  unfold Md.new
  rw [if_neg hq, if_neg (by rw [ha]; exact Bool.false_ne_true)]
 have hn : un = l.length := by rw [← hu0] at hul; exact hul
 have hle16 : l.length ≤ 16 := by omega
 have hle1 : 1 ≤ l.length := by omega
 have z1 : ((un : Int) == 0) = false := by rw [beq_eq_false_iff_ne]; omega
 have z2 : decide ((16 : Int) < (un : Int)) = false := decide_eq_false (by omega)
 have HW := Lib.hid (wrongL_any u l wA HRA.out (by omega))
 rw [ha] at HW
 subst hu0
 unfold valS at *
 dsimp only at *
 clear hul hn hq ha hle16 hle1 HRA
 go_enter Try.func24, Try.ntmps24
 go_wp2_with fail
 simp only [← hwA, ← hB]
 clear hwA hB
 refine HW.out.mono ?_
 rintro e w2 ⟨rfl, hb2⟩
 have hn1 := (hb2.block _ (lt_of_block HN1.out)).trans HN1.out
 have hn2 := (hb2.block _ (lt_of_block HN2.out)).trans HN2.out
 have H1 := Lib.hid hn1
 have H2 := Lib.hid (HBA.out.trans (hb2.mono HBA.out.size))
 have y0 := blk_cell hn1 0
 have y1 := blk_cell hn1 1
 have y2 := blk_cell hn1 2
 have v0 := blk_free hn1 0
 have v1 := blk_free hn1 1
 have v2 := blk_free hn1 2
 simp only [List.getElem?_toArray, List.getElem?_cons_succ, List.getElem?_cons_zero] at y0 y1 y2
 have x0 := blk_cell hn2 0
 have x1 := blk_cell hn2 1
 have x2 := blk_cell hn2 2
 simp only [List.getElem?_toArray, List.getElem?_cons_succ, List.getElem?_cons_zero] at x0 x1 x2
 clear hn1 hn2 hb2
 go_wp2
 have hfin := blk_set (blk_set (blk_set H1.out 0 (I64 0)) 1 (.bool false)) 2 (.slice none 0 0)
 have z0 := blk_cell hfin 0
 have z1 := blk_cell hfin 1
 have z2 := blk_cell hfin 2
 simp only [List.setIfInBounds_toArray, List.set_cons_zero, List.set_cons_succ, List.getElem?_toArray, List.getElem?_cons_succ, List.getElem?_cons_zero] at z0 z1 z2
 clear hfin
 refine bodyPost_ret (v := .tuple #[.agg #[I64 0, .bool false, .slice none 0 0], I64 7]) (by rw [results_cell_tmp1 rfl]; go_simp) rfl ?_
 have hle : w.heap.size ≤ B := by have := HBs.out; omega
 exact newEnd_err HNE.out (((H2.out.setCell (p := ⟨B, 0, none⟩) hle _).setCell (p := ⟨B, 1, none⟩) hle _).setCell (p := ⟨B, 2, none⟩) hle _)
set_option maxHeartbeats 8000000 in
set_option maxRecDepth 100000 in
set_option linter.unusedVariables false in
set_option linter.unusedSimpArgs false in
theorem new_ok (l : List Md.Lim) (u : SlV) (w : World) (h : ReadsL 4 encLim w (valS u) l) (hq : ¬ (l.length < 1 ∨ 16 < l.length)) (ha : l.all Md.limOk = true) :
 Calls Try.prog 24 #[valS u] w fun e w' => NewEnd l w e w' := by
 obtain ⟨⟨ua, un, uc⟩, hu0⟩ : ∃ x, x = u := ⟨_, rfl⟩
 have hul := read_len h
 have hal1 := (Below.refl w.heap.size w).alloc (Nat.le_refl _) (.cells #[I64 0, .bool false, .slice none 0 0] 26)
 have hal2 := (Below.refl (w.alloc (.cells #[I64 0, .bool false, .slice none 0 0] 26)).heap.size (w.alloc (.cells #[I64 0, .bool false, .slice none 0 0] 26))).alloc (Nat.le_refl _) (.cells #[I64 0, .bool false, .slice none 0 0] 26)
 have hbA := hal1.trans (hal2.mono hal1.size)
 have n1 := (hal2.block w.heap.size (by simp)).trans (blk_new w (.cells #[I64 0, .bool false, .slice none 0 0] 26))
 have n2 : ((w.alloc (.cells #[I64 0, .bool false, .slice none 0 0] 26)).alloc (.cells #[I64 0, .bool false, .slice none 0 0] 26)).heap[w.heap.size + 1]? = some (.cells #[I64 0, .bool false, .slice none 0 0] 26 (0, 0)) := by
  have := blk_new (w.alloc (.cells #[I64 0, .bool false, .slice none 0 0] 26)) (.cells #[I64 0, .bool false, .slice none 0 0] 26)
  simpa using this
 obtain ⟨wA, hwA⟩ : ∃ x, x = (w.alloc (.cells #[I64 0, .bool false, .slice none 0 0] 26)).alloc (.cells #[I64 0, .bool false, .slice none 0 0] 26) := ⟨_, rfl⟩
 obtain ⟨B, hB⟩ : ∃ x, x = w.heap.size := ⟨_, rfl⟩
 rw [← hwA] at hbA n1 n2
 rw [← hB] at n1 n2
 have HBA := Lib.hid hbA
 have HBs := Lib.hid hB
 have HN1 := Lib.hid n1
 have HN2 := Lib.hid n2
 have HRA := Lib.hid (h.below hbA)
 have HR0 := Lib.hid h
 clear hal1 hal2 hbA n1 n2 h
 have HNE : Hid (Md.new l = (⟨0, false, l.map Md.fresh⟩, 0)) := by
  show _ = _
  unfold Md.new
  rw [if_neg hq, if_pos ha]
 have hn : un = l.length := by rw [← hu0] at hul; exact hul
 have hle16 : l.length ≤ 16 := by omega
 have hle1 : 1 ≤ l.length := by omega
 have z1 : ((un : Int) == 0) = false := by rw [beq_eq_false_iff_ne]; omega
 have z2 : decide ((16 : Int) < (un : Int)) = false := decide_eq_false (by omega)
 have HW := Lib.hid (wrongL_any u l wA HRA.out (by omega))
 rw [ha] at HW
 have HUN := Lib.hid hn
 have hun16 : un ≤ 16 := by omega
 subst hu0
 obtain ⟨g, o, cap, e, _, hcl⟩ := HR0.out.form (by intro e; rw [e] at hle1; simp at hle1)
 unfold valS at e
 injection e with e1 e2 e3
 replace e1 : ua = some ⟨g, o, none⟩ := e1
 subst e1
 clear e2 e3
 have HCL := Lib.hid hcl
 unfold valS at *
 dsimp only at *
 clear hul hn hq ha hle16 hle1 hcl
 go_enter Try.func24, Try.ntmps24
 go_wp2_with fail
 simp only [← hwA, ← hB]
 clear hwA hB
 refine HW.out.mono ?_
 rintro e w2 ⟨rfl, hb2⟩
 have HS0 : Hid (NwAt l wA B 0 (none, 0, 0) w2) := ⟨.nil _ _, (hb2.block _ (lt_of_block HN2.out)).trans HN2.out, .of_below hb2⟩
 clear hb2 z1 z2
 go_wp2_with fail
 go_loopw [6, 23] (fun _ kv wr => ∃ k : Nat, ∃ va vn vc, k ≤ un ∧ kv = .int .i64 k ∧ Hid (NwAt l wA B k (va, vn, vc) wr)) (fun _ kv _ => un - (intOf kv).toNat)
 case atStart => exact ⟨0, none, 0, 0, Nat.zero_le _, rfl, HS0⟩
 case round =>
  obtain ⟨k, va, vn, vc, hkN, rfl, HA⟩ := hrel
  by_cases hlt : k < un
  · have hkl : k < l.length := by rw [← HUN.out]; exact hlt
    have hB1 := lt_of_block HN2.out
    have hbr : Below w.heap.size wA wr := HA.out.gb.below HBA.out.size (fun i hi => by
     have := HBs.out
     have := HBA.out.size
     rcases hi with hi | hi <;> omega)
    have hbw := HBA.out.trans hbr
    obtain ⟨lm, hlm⟩ : ∃ x, x = l[k] := ⟨_, rfl⟩
    have hrow : ∀ i (u : Value), (encLim lm)[i]? = some u → wr.cell? ⟨g, o + k * 4 + i, none⟩ = some u := fun i u hu => by
     have q := HCL.out k hkl i u (by rw [← hlm]; exact hu)
     exact (hbw.cell (p := ⟨g, _, none⟩) (cell_lt q)).trans q
    obtain ⟨mx, qu, id, ag⟩ := lm
    have m0 : wr.cell? ⟨g, o + k * 4, none⟩ = some (I64 mx) := hrow 0 _ rfl
    have m1 : wr.cell? ⟨g, o + k * 4 + 1, none⟩ = some (I64 qu) := hrow 1 _ rfl
    have m2 : wr.cell? ⟨g, o + k * 4 + 2, none⟩ = some (I64 id) := hrow 2 _ rfl
    have m3 : wr.cell? ⟨g, o + k * 4 + 3, none⟩ = some (I64 ag) := hrow 3 _ rfl
    have hal := (Below.refl wr.heap.size wr).alloc (Nat.le_refl _) (.cells #[I64 mx, I64 qu, I64 id, I64 ag] 42)
    have h6 := HA.out.below hal
    have s2 : (wr.alloc (.cells #[I64 mx, I64 qu, I64 id, I64 ag] 42)).cell? ⟨B + 1, 2, none⟩ = some (.slice va vn vc) := by simpa [valS] using blk_cell h6.st 2
    have hal2 := (Below.refl (wr.alloc (.cells #[I64 mx, I64 qu, I64 id, I64 ag] 42)).heap.size (wr.alloc (.cells #[I64 mx, I64 qu, I64 id, I64 ag] 42))).alloc (Nat.le_refl _) (.cells #[I64 mx, I64 qu, I64 id, I64 ag, .slice none 0 0, .slice none 0 0, .slice none 0 0, .slice none 0 0, .bool true, I64 0, I64 0] 48)
    obtain ⟨xs, hxs⟩ : ∃ x, x = (l.take k).map freshV := ⟨_, rfl⟩
    have hxl : xs.length ≤ 16 := by rw [hxs, List.length_map, List.length_take]; omega
    have HOWN : Hid (OwnL 48 11 encP ((wr.alloc (.cells #[I64 mx, I64 qu, I64 id, I64 ag] 42)).alloc (.cells #[I64 mx, I64 qu, I64 id, I64 ag, .slice none 0 0, .slice none 0 0, .slice none 0 0, .slice none 0 0, .bool true, I64 0, I64 0] 48)) wA.heap.size (.slice va vn vc) xs) := by rw [hxs]; exact h6.own.below hal2
    have HNEW : Hid (∀ i u, (encP (freshV ⟨mx, qu, id, ag⟩))[i]? = some u → ((wr.alloc (.cells #[I64 mx, I64 qu, I64 id, I64 ag] 42)).alloc (.cells #[I64 mx, I64 qu, I64 id, I64 ag, .slice none 0 0, .slice none 0 0, .slice none 0 0, .slice none 0 0, .bool true, I64 0, I64 0] 48)).cell? ⟨wr.heap.size + 1, i, none⟩ = some u) := by
     have q := cells_new (enc := encP) (wr.alloc (.cells #[I64 mx, I64 qu, I64 id, I64 ag] 42)) (freshV ⟨mx, qu, id, ag⟩) #[I64 mx, I64 qu, I64 id, I64 ag, .slice none 0 0, .slice none 0 0, .slice none 0 0, .slice none 0 0, .bool true, I64 0, I64 0] 48 rfl
     rw [show (wr.alloc (.cells #[I64 mx, I64 qu, I64 id, I64 ag] 42)).heap.size = wr.heap.size + 1 by simp] at q
     exact q
    have HXL := Lib.hid hxl
    have HBS : Hid (wA.heap.size ≤ ((wr.alloc (.cells #[I64 mx, I64 qu, I64 id, I64 ag] 42)).alloc (.cells #[I64 mx, I64 qu, I64 id, I64 ag, .slice none 0 0, .slice none 0 0, .slice none 0 0, .slice none 0 0, .bool true, I64 0, I64 0] 48)).heap.size) := Nat.le_trans (Nat.le_trans HA.out.gb.size hal.size) hal2.size
    have HSTEP : Hid (∀ g' c' w9, OwnL 48 11 encP w9 wA.heap.size (.slice (some ⟨g', 0, none⟩) (xs.length + 1) c') (xs ++ [freshV ⟨mx, qu, id, ag⟩]) → ((wr.alloc (.cells #[I64 mx, I64 qu, I64 id, I64 ag] 42)).alloc (.cells #[I64 mx, I64 qu, I64 id, I64 ag, .slice none 0 0, .slice none 0 0, .slice none 0 0, .slice none 0 0, .bool true, I64 0, I64 0] 48)).grownBy w9 (Value.slice va vn vc).ownBlock → (w9.cell? ⟨B + 1, 2, none⟩ = some (.slice va vn vc) ∧ w9.frozen? ⟨B + 1, 2, none⟩ = false) ∧ NwAt l wA B (k + 1) (some ⟨g', 0, none⟩, xs.length + 1, c') (w9.setCell ⟨B + 1, 2, none⟩ (.slice (some ⟨g', 0, none⟩) (xs.length + 1) c'))) := fun g' c' w9 ho hg =>
     HA.out.step (hal.trans (hal2.mono hal.size)) hkl hlm.symm hxs (lt_of_block HN2.out) ho hg
    have hkI : (k : Int) < (un : Int) := by omega
    clear hrow hal h6 hal2 hxs hxl hbr hbw hlm
    go_wp2_with (at_builtin; refine appL_own elP _ rfl _ _ rfl wA.heap.size (.slice va vn vc) xs (freshV ⟨mx, qu, id, ag⟩) rfl HOWN.out (wr.heap.size + 1) 1 rfl HNEW.out (by have := HXL.out; unfold maxLen; omega) (by have := HXL.out; omega) HBS.out ?_; rintro g' c' w9 hown hgr hat; obtain ⟨⟨q2, f2⟩, hnx⟩ := HSTEP.out g' c' w9 hown hgr; have HNXT := Lib.hid hnx; clear hown hgr hat hnx m0 m1 m2 m3 s2)
    case roundEnd =>
     refine ⟨⟨k + 1, some ⟨g', 0, none⟩, xs.length + 1, c', hlt, by rw [show (k : Int) + 1 = ((k + 1 : Nat) : Int) by omega], HNXT⟩, ?_⟩
     simp [intOf]
     omega
  · have hkE : k = un := by omega
    subst hkE
    have HF : Hid (NwAt l wA B l.length (va, vn, vc) wr) := by rw [← HUN.out]; exact HA.out
    have hz1 : wr.heap[B]? = some (.cells #[I64 0, .bool false, .slice none 0 0] 26 (0, 0)) := (HF.out.gb.block _ (lt_of_block HN1.out) (by have := lt_of_block HN1.out; omega)).trans HN1.out
    have HZ1 := Lib.hid hz1
    have hz2 := HF.out.st
    unfold valS at hz2
    dsimp only at hz2
    have hkk : ¬ (k : Int) < (k : Int) := by omega
    clear hlt hkN HA
    have y0 := blk_cell hz1 0
    have y1 := blk_cell hz1 1
    have y2 := blk_cell hz1 2
    have v0 := blk_free hz1 0
    have v1 := blk_free hz1 1
    have v2 := blk_free hz1 2
    simp only [List.getElem?_toArray, List.getElem?_cons_succ, List.getElem?_cons_zero] at y0 y1 y2
    have x0 := blk_cell hz2 0
    have x1 := blk_cell hz2 1
    have x2 := blk_cell hz2 2
    simp only [List.getElem?_toArray, List.getElem?_cons_succ, List.getElem?_cons_zero] at x0 x1 x2
    clear hz1 hz2
    go_wp2
    have hfin := blk_set (blk_set (blk_set HZ1.out 0 (I64 0)) 1 (.bool false)) 2 (.slice va vn vc)
    have z0 := blk_cell hfin 0
    have z1 := blk_cell hfin 1
    have z2 := blk_cell hfin 2
    simp only [List.setIfInBounds_toArray, List.set_cons_zero, List.set_cons_succ, List.getElem?_toArray, List.getElem?_cons_succ, List.getElem?_cons_zero] at z0 z1 z2
    clear hfin
    refine bodyPost_ret (v := .tuple #[.agg #[I64 0, .bool false, .slice va vn vc], I64 0]) (by rw [results_cell_tmp1 rfl]; go_simp) rfl ?_
    have hle : w.heap.size ≤ B := by have := HBs.out; omega
    have hle2 := lt_of_block HN1.out
    have hbr : Below w.heap.size wA wr := HF.out.gb.below HBA.out.size (fun i hi => by
     have := HBs.out
     have := HBA.out.size
     rcases hi with hi | hi <;> omega)
    exact newEnd_ok HF.out HNE.out HBA.out.size ((((Gb.refl _ wr).setCell (x := ⟨B, 0, none⟩) hle2 _).setCell (x := ⟨B, 1, none⟩) hle2 _).setCell (x := ⟨B, 2, none⟩) hle2 _) ((((HBA.out.trans hbr).setCell (p := ⟨B, 0, none⟩) hle _).setCell (p := ⟨B, 1, none⟩) hle _).setCell (p := ⟨B, 2, none⟩) hle _)
theorem new_any (l : List Md.Lim) (u : SlV) (w : World) (h : ReadsL 4 encLim w (valS u) l) :
 Calls Try.prog 24 #[valS u] w fun e w' => NewEnd l w e w' := by
 by_cases hq : l.length < 1 ∨ 16 < l.length
 · exact new_long l u w h hq
 · cases ha : l.all Md.limOk with
   | false => exact new_range l u w h hq ha
   | true => exact new_ok l u w h hq ha
end Go.Proofs.Ytaicmiadgnpimaa
