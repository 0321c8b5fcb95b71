/-
  Walks for layer 26 (model): awake.
-/
import Derived.Test.YtaicmiadgnpimaaMgq
import Derived.Laws.Tables
namespace Go.Proofs.Ytaicmiadgnpimaa
open Go.RowKit

def awC : Nat → Md.Call
 | 0 => ⟨1, 0, 1, 0, 50, false, 0, 0⟩
 | 1 => ⟨1, 0, 2, 0, 20, false, 0, 0⟩
 | 2 => ⟨1, 0, 3, 0, 50, false, 0, 0⟩
 | 3 => ⟨2, 0, 1, 7, 0, true, 0, 0⟩
 | 4 => ⟨3, 0, 1, 0, 0, true, 0, 0⟩
 | 5 => ⟨10, 0, 0, 0, 0, false, 0, 2⟩
 | 6 => ⟨7, 0, 8, 0, 0, false, 0, 0⟩
 | _ => ⟨7, 0, 9, 0, 0, false, 0, 0⟩
def awR : Nat → Md.Result
 | 0 => (2, 0, 0)
 | 1 => (3, 0, 0)
 | 2 => (4, 0, 0)
 | 3 => (1, 0, 7)
 | 4 => (7, 0, 0)
 | 5 => (7, 0, 0)
 | 6 => (8, 0, 0)
 | _ => (9, 0, 0)
def awE : Nat → List Md.Effect
 | 4 => [(1, 0, 2, 7)]
 | _ => []
def awS : Nat → Md.State
 | 0 => (Md.new exLims).1
 | k + 1 => (Md.step (awS k) (awC k) (awR k)).1
theorem aw_new : Md.new exLims = (awS 0, 0) := by
 have h : (Md.new exLims).2 = 0 := by decide +kernel
 exact Prod.ext rfl h
theorem aw_step : ∀ k, k < 8 → Md.step (awS k) (awC k) (awR k) = (awS (k + 1), awE k, 0) := by
 have h1 : ∀ k, k < 8 → (Md.step (awS k) (awC k) (awR k)).2.1 = awE k := by decide +kernel
 have h2 : ∀ k, k < 8 → (Md.step (awS k) (awC k) (awR k)).2.2 = 0 := by decide +kernel
 exact fun k hk => Prod.ext rfl (Prod.ext (h1 k hk) (h2 k hk))
theorem aw_check : ∀ k, k < 9 → Md.check (awS k) = 0 := by decide +kernel
theorem aw_calls : ∀ k, k < 9 → (Md.calls (awS k)).all (fun x => decide (x ≤ 9223372036854775807)) = true ∧ (Md.conns (awS k)).all (fun x => decide (x ≤ 9223372036854775807)) = true := by decide +kernel
theorem aw_good {k : Nat} (hk : k < 9) : Md.Good (awS k) := Md.check_ok.1 (aw_check k hk)
theorem aw_bnd {k : Nat} (hk : k < 9) : Md.Bnd (awS k) := by
 obtain ⟨h1, h2⟩ := aw_calls k hk
 rw [List.all_eq_true] at h1 h2
 exact ⟨fun x hx => by simpa using h1 x hx, fun x hx => by simpa using h2 x hx⟩
theorem aw_where : Md.whereIs (awS 8) 2 = (0, 1, 0) := by decide +kernel
def CBA : Array Value := #[I64 1, I64 0, I64 1, I64 0, I64 50, .bool false, I64 0, I64 0, I64 1, I64 0, I64 2, I64 0, I64 20, .bool false, I64 0, I64 0, I64 1, I64 0, I64 3, I64 0, I64 50, .bool false, I64 0, I64 0, I64 2, I64 0, I64 1, I64 7, I64 0, .bool true, I64 0, I64 0, I64 3, I64 0, I64 1, I64 0, I64 0, .bool true, I64 0, I64 0, I64 10, I64 0, I64 0, I64 0, I64 0, .bool false, I64 0, I64 2, I64 7, I64 0, I64 8, I64 0, I64 0, .bool false, I64 0, I64 0, I64 7, I64 0, I64 9, I64 0, I64 0, .bool false, I64 0, I64 0]
def RBA : Array Value := #[I64 2, I64 0, I64 0, I64 3, I64 0, I64 0, I64 4, I64 0, I64 0, I64 1, I64 0, I64 7, I64 7, I64 0, I64 0, I64 7, I64 0, I64 0, I64 8, I64 0, I64 0, I64 9, I64 0, I64 0]
def resCells (r : Md.Result) : List Value := [I64 r.1, I64 r.2.1, I64 r.2.2]
theorem cba_eq : CBA = ((List.range 8).flatMap (fun k => callCells (awC k))).toArray := by rfl
theorem rba_eq : RBA = ((List.range 8).flatMap (fun k => resCells (awR k))).toArray := by rfl
theorem cba_at (k i : Nat) (hk : k < 8) {v : Value} (h : (callCells (awC k))[i]? = some v) : CBA[k * 8 + i]? = some v := by
 rw [cba_eq]
 have hg := flat_get (n := 8) (enc := fun k => callCells (awC k)) (fun _ => rfl) (List.range 8) k (by simpa using hk) i v (by simpa using h)
 simpa using hg
theorem rba_at (k i : Nat) (hk : k < 8) {v : Value} (h : (resCells (awR k))[i]? = some v) : RBA[k * 3 + i]? = some v := by
 rw [rba_eq]
 have hg := flat_get (n := 3) (enc := fun k => resCells (awR k)) (fun _ => rfl) (List.range 8) k (by simpa using hk) i v (by simpa using h)
 simpa using hg
section
variable {P : Program}
theorem wpList_build_eq {ops : Array Oper} {rest : List Oper} {o : Oper} {a : Act} {w : World} {Q : Exit → Act → World → Prop} (hg : o.guard = none) (t : TypeId) (parts : Array (Nat × Operand)) (ho : o.op = .build t parts) (cells : Array Value)
 (hf : P.built t (parts.map fun (i, x) => (i, a.eval x)).toList = some cells) (h : wpList P ops Q rest (a.put o.dst (.agg cells)) w) : wpList P ops Q (o :: rest) a w := by
 refine wpList_build hg t parts ho (by rw [hf]; rfl) ?_
 rw [hf]
 exact h
theorem setRow_new (w : World) (old cs : Array Value) (t : TypeId) : (w.alloc (.cells old t)).setRow w.heap.size cs = w.alloc (.cells cs t) := by
 unfold World.setRow World.alloc
 congr 1
 apply Array.ext
 · simp
 · intro i h1 h2
   simp only [Array.getElem_modify]
   split
   · rename_i hi
     subst hi
     simp
   · rename_i hi
     have hlt : i < w.heap.size := by simp at h2; omega
     simp [Array.getElem_push, hlt]
/-- A whole value goes into a variable that was just made. -/
theorem wpList_store_new {ops : Array Oper} {rest : List Oper} {o : Oper} {a : Act} {w : World} {Q : Exit → Act → World → Prop} (hgd : o.guard = none) (ty : TypeId) (x y : Operand) (ho : o.op = .store ty x y)
 (g : Nat) (cells : Array Value) (t : TypeId) (old : Array Value) (hgw : g = w.heap.size) (hx : a.eval x = .pointer (some ⟨g, 0, none⟩)) (hy : a.eval y = .agg cells) (hi : (P.info? ty).map (·.size) = some cells.size)
 (hold : old.size = cells.size) (h1 : cells.all (·.oneCell') = true)
 (h : wpList P ops Q rest (a.put o.dst undef) (w.alloc (.cells cells t))) : wpList P ops Q (o :: rest) a (w.alloc (.cells old t)) := by
 subst hgw
 refine wpList_store_row hgd ty x y ho w.heap.size cells hx hy t old (blk_new w _) hi hold h1 ?_
 rw [setRow_new]
 exact h
end
theorem Gb.then {S T : Nat → Prop} {a b c : World} (h : Gb S a b) (k : Gb T b c) (hT : ∀ i, i < a.heap.size → T i → S i) : Gb S a c :=
 ⟨k.os.trans h.os, k.tape.trans h.tape, k.output.trans h.output, Nat.le_trans h.size k.size, fun i hi hn => (k.block i (Nat.lt_of_lt_of_le hi h.size) (fun q => hn (hT i hi q))).trans (h.block i hi hn)⟩
theorem Gb.blk {S : Nat → Prop} {w w1 : World} (hg : Gb S w w1) {b : Nat} {o : Obj} (h : w.heap[b]? = some o) (hn : ¬ S b) : w1.heap[b]? = some o := (hg.block b (lt_of_block h) hn).trans h
/-- The cells of a call, of a result. -/
def C8 (P o : Nat) (c : Md.Call) (w : World) : Prop := w.cell? ⟨P, o, none⟩ = some (I64 c.kind) ∧ w.cell? ⟨P, o + 1, none⟩ = some (I64 c.backend) ∧ w.cell? ⟨P, o + 2, none⟩ = some (I64 c.call) ∧ w.cell? ⟨P, o + 3, none⟩ = some (I64 c.conn) ∧ w.cell? ⟨P, o + 4, none⟩ = some (I64 c.time) ∧ w.cell? ⟨P, o + 5, none⟩ = some (.bool c.yes) ∧ w.cell? ⟨P, o + 6, none⟩ = some (I64 c.skip) ∧ w.cell? ⟨P, o + 7, none⟩ = some (I64 c.breaker)
def R3 (P o : Nat) (r : Md.Result) (w : World) : Prop := w.cell? ⟨P, o, none⟩ = some (I64 r.1) ∧ w.cell? ⟨P, o + 1, none⟩ = some (I64 r.2.1) ∧ w.cell? ⟨P, o + 2, none⟩ = some (I64 r.2.2)
theorem c8_at {w : World} {P k : Nat} {T : TypeId} (h : w.heap[P]? = some (.cells CBA T (0, 0))) (hk : k < 8) : C8 P (k * 8) (awC k) w :=
 ⟨(blk_cell h _).trans (cba_at k 0 hk rfl), (blk_cell h _).trans (cba_at k 1 hk rfl), (blk_cell h _).trans (cba_at k 2 hk rfl), (blk_cell h _).trans (cba_at k 3 hk rfl), (blk_cell h _).trans (cba_at k 4 hk rfl), (blk_cell h _).trans (cba_at k 5 hk rfl), (blk_cell h _).trans (cba_at k 6 hk rfl), (blk_cell h _).trans (cba_at k 7 hk rfl)⟩
theorem r3_at {w : World} {P k : Nat} {T : TypeId} (h : w.heap[P]? = some (.cells RBA T (0, 0))) (hk : k < 8) : R3 P (k * 3) (awR k) w :=
 ⟨(blk_cell h _).trans (rba_at k 0 hk rfl), (blk_cell h _).trans (rba_at k 1 hk rfl), (blk_cell h _).trans (rba_at k 2 hk rfl)⟩
theorem aw_e {k : Nat} (hk : k ≠ 4) : awE k = [] := by
 unfold awE
 split
 · exact absurd rfl hk
 · rfl
theorem eff_one (w : World) (g : Nat) (hg : g = w.heap.size) : ReadsL 4 encEff (w.alloc (.cells #[I64 1, I64 0, I64 2, I64 7] 51)).drew (.slice (some ⟨g, 0, none⟩) 1 1) [(1, 0, 2, 7)] := by
 subst hg
 refine .inr ⟨w.heap.size, 0, 1, rfl, by show w.heap.size < (w.alloc _).heap.size; simp, fun j hj i u hu => ?_⟩
 have hj0 : j = 0 := by simpa using hj
 subst hj0
 rw [show (0 + 0 * 4 + i) = i by omega]
 exact (blk_cell (blk_new w (.cells #[I64 1, I64 0, I64 2, I64 7] 51)) i).trans (by simpa [encEff] using hu)
/-- Where the loop of awake stands. -/
structure AwAt (w5 : World) (T1 k : Nat) (u : SlV) (wr : World) : Prop where
 st : wr.heap[T1]? = some (.cells #[I64 (awS k).now, .bool (awS k).shut, valS u] 26 (0, 0))
 lies : ∀ w2, Gb (fun i => i = T1) wr w2 → PoolsAt w2 (valS u) (awS k).pools
 gb : Gb (fun i => i = T1) w5 wr
theorem AwAt.next {w5 wr w3 wy : World} {T1 k M : Nat} {u u' : SlV} (h : AwAt w5 T1 k u wr) (hM : T1 < M) (hb : Gb (fun i => wr.heap.size ≤ i) wr w3) (hx : ∀ w2, Gb (fun i => i < M) w3 w2 → PoolsAt w2 (valS u') (awS (k + 1)).pools) (hy : Gb (fun i => i = wr.heap.size) w3 wy) (h2 : wr.heap.size < M) :
 wy.heap[T1]? = some (.cells #[I64 (awS k).now, .bool (awS k).shut, valS u] 26 (0, 0)) ∧ AwAt w5 T1 (k + 1) u' (((wy.setCell ⟨T1, 0, none⟩ (I64 (awS (k + 1)).now)).setCell ⟨T1, 1, none⟩ (.bool (awS (k + 1)).shut)).setCell ⟨T1, 2, none⟩ (valS u')) := by
 have hlt := lt_of_block h.st
 have e1 : wy.heap[T1]? = some (.cells #[I64 (awS k).now, .bool (awS k).shut, valS u] 26 (0, 0)) := (hy.blk (hb.blk h.st (by omega)) (by omega))
 have hyy : Gb (fun i => i < M) w3 (((wy.setCell ⟨T1, 0, none⟩ (I64 (awS (k + 1)).now)).setCell ⟨T1, 1, none⟩ (.bool (awS (k + 1)).shut)).setCell ⟨T1, 2, none⟩ (valS u')) :=
  (((hy.mono (fun i _ (q : i = wr.heap.size) => show i < M by omega)).setCell (x := ⟨T1, 0, none⟩) hM _).setCell (x := ⟨T1, 1, none⟩) hM _).setCell (x := ⟨T1, 2, none⟩) hM _
 refine ⟨e1, ?_, fun w2 hg => hx w2 (hyy.trans (hg.mono (fun i _ (q : i = T1) => show i < M by omega))), ?_⟩
 · have q := blk_set (blk_set (blk_set e1 0 (I64 (awS (k + 1)).now)) 1 (.bool (awS (k + 1)).shut)) 2 (valS u')
   simpa using q
 · have hz : Gb (fun i => i = T1) w5 wy := (h.gb.then hb (fun i hi (q : wr.heap.size ≤ i) => absurd (Nat.lt_of_lt_of_le hi h.gb.size) (by omega))).then hy (fun i hi (q : i = wr.heap.size) => absurd (Nat.lt_of_lt_of_le hi h.gb.size) (by omega))
   exact ((hz.setCell (x := ⟨T1, 0, none⟩) rfl _).setCell (x := ⟨T1, 1, none⟩) rfl _).setCell (x := ⟨T1, 2, none⟩) rfl _
set_option maxHeartbeats 8000000 in
set_option maxRecDepth 100000 in
set_option linter.unusedVariables false in
set_option linter.unusedSimpArgs false in
theorem awake_any (w : World) : Calls Try.prog 9 #[] w fun e w' => e = .returned (.bool true) ∧ Below w.heap.size w w' := by
 go_enter Try.func9, Try.ntmps9
 go_wp2_with fail
 refine (example_any w).mono ?_
 rintro e w2 ⟨⟨ua, un, uc⟩, rfl, hr, hb2⟩
 have HN := Lib.hid (new_any exLims (ua, un, uc) w2 hr)
 unfold NewEnd at HN
 rw [aw_new] at HN
 have HB2 := Lib.hid hb2
 unfold valS at *
 dsimp only at *
 clear hr hb2
 go_wp2_with fail
 refine HN.out.mono ?_
 rintro e w3 ⟨⟨na, nn, nc⟩, rfl, hx, hb3⟩
 have e0 : (awS 0).now = 0 := rfl
 have e1 : (awS 0).shut = false := rfl
 rw [e0, e1]
 clear e0 e1
 dsimp only at hx ⊢
 obtain ⟨w5, hw5⟩ : ∃ x, x = (((w3.alloc (.cells #[I64 0, .bool false, .slice na nn nc] 26)).alloc (.cells CBA 85)).alloc (.cells RBA 86)) := ⟨_, rfl⟩
 obtain ⟨T, hT⟩ : ∃ x, x = w3.heap.size := ⟨_, rfl⟩
 have HTE := Lib.hid hT
 have HB3 := Lib.hid hb3
 have H5 : Hid (Below w.heap.size w w5 ∧ AwAt w5 T 0 (na, nn, nc) w5 ∧ w5.heap[T + 1]? = some (.cells CBA 85 (0, 0)) ∧ w5.heap[T + 2]? = some (.cells RBA 86 (0, 0))) := by
  have a1 := (Below.refl w3.heap.size w3).alloc (Nat.le_refl _) (.cells #[I64 0, .bool false, .slice na nn nc] 26)
  have a2 := a1.alloc a1.size (.cells CBA 85)
  have a3 := a2.alloc a2.size (.cells RBA 86)
  have b1 := blk_new w3 (.cells #[I64 0, .bool false, .slice na nn nc] 26)
  have b2 := blk_new (w3.alloc (.cells #[I64 0, .bool false, .slice na nn nc] 26)) (.cells CBA 85)
  have b3 := blk_new ((w3.alloc (.cells #[I64 0, .bool false, .slice na nn nc] 26)).alloc (.cells CBA 85)) (.cells RBA 86)
  have c2 := (Below.refl (w3.alloc (.cells #[I64 0, .bool false, .slice na nn nc] 26)).heap.size (w3.alloc (.cells #[I64 0, .bool false, .slice na nn nc] 26))).alloc (Nat.le_refl _) (.cells CBA 85)
  have c3 := (Below.refl ((w3.alloc (.cells #[I64 0, .bool false, .slice na nn nc] 26)).alloc (.cells CBA 85)).heap.size ((w3.alloc (.cells #[I64 0, .bool false, .slice na nn nc] 26)).alloc (.cells CBA 85))).alloc (Nat.le_refl _) (.cells RBA 86)
  have s1 : (w3.alloc (.cells #[I64 0, .bool false, .slice na nn nc] 26)).heap.size = T + 1 := by rw [hT]; simp
  have s2 : ((w3.alloc (.cells #[I64 0, .bool false, .slice na nn nc] 26)).alloc (.cells CBA 85)).heap.size = T + 2 := by rw [hT]; simp
  rw [s1] at b2
  rw [s2] at b3
  rw [← hT] at b1
  rw [← hw5] at a3 c3 b3
  have d2 : w5.heap[T + 1]? = some (.cells CBA 85 (0, 0)) := (c3.block _ (by omega)).trans b2
  have d1 : w5.heap[T]? = some (.cells #[I64 0, .bool false, .slice na nn nc] 26 (0, 0)) := (c3.block _ (by omega)).trans ((c2.block _ (by omega)).trans b1)
  exact ⟨(HB2.out.trans (hb3.mono HB2.out.size)).trans (a3.mono (HB2.out.trans (hb3.mono HB2.out.size)).size), ⟨d1, fun w4 hg => hx w4 ((Gb.of_below a3).then hg (fun i hi (q : i = T) => by omega)), .refl _ _⟩, d2, b3⟩
 clear hx hb3
 go_wp2_with (first | (refine wpList_build_eq rfl 85 _ rfl CBA (by kernel_rfl) ?_) | (refine wpList_build_eq rfl 86 _ rfl RBA (by kernel_rfl) ?_) | (refine wpList_store_new rfl 85 _ _ rfl (w3.heap.size + 1) CBA 85 _ (by simp) rfl rfl (by kernel_rfl) (by kernel_rfl) (by kernel_rfl) ?_) | (refine wpList_store_new rfl 86 _ _ rfl (w3.heap.size + 2) RBA 86 _ (by simp) rfl rfl (by kernel_rfl) (by kernel_rfl) (by kernel_rfl) ?_))
 simp only [← hw5, ← hT]
 clear hw5 hT
 obtain ⟨ua2, un2, uc2⟩ : SlV := (none, 0, 0)
 go_loopw [5, 6, 7] (fun kv _ _ wr => ∃ k : Nat, ∃ xa xn xc, k ≤ 8 ∧ kv = .int .i64 k ∧ Hid (AwAt w5 T k (xa, xn, xc) wr)) (fun kv _ _ _ => 8 - (intOf kv).toNat)
 case atStart => exact ⟨0, na, nn, nc, Nat.zero_le _, rfl, H5.out.2.1⟩
 case round =>
  obtain ⟨k, xa, xn, xc, hk8, rfl, HA⟩ := hrel
  by_cases hlt : k < 8
  · by_cases hk4 : k = 4
    · have hst := HA.out.st
      have hcl : ∀ w1, Gb (fun i => i = wr.heap.size) (wr.alloc (.cells #[I64 (awS k).now, .bool (awS k).shut, .slice xa xn xc] 26)) w1 → S3 T (awS k).now (awS k).shut (.slice xa xn xc) w1 ∧ C8 (T + 1) (k * 8) (awC k) w1 ∧ R3 (T + 2) (k * 3) (awR k) w1 := fun w1 hg => by
       have hlt := lt_of_block hst
       have hl0 := lt_of_block H5.out.2.2.2
       have hal := (Below.refl wr.heap.size wr).alloc (Nat.le_refl _) (.cells #[I64 (awS k).now, .bool (awS k).shut, .slice xa xn xc] 26)
       have h5r := HA.out.gb.size
       have b0 := hg.blk ((hal.block _ hlt).trans hst) (by omega)
       have b1 := hg.blk ((hal.block _ (by omega)).trans (HA.out.gb.blk H5.out.2.2.1 (by omega))) (by omega)
       have b2 := hg.blk ((hal.block _ (by omega)).trans (HA.out.gb.blk H5.out.2.2.2 (by omega))) (by omega)
       exact ⟨⟨blk_cell b0 0, blk_cell b0 1, blk_cell b0 2⟩, c8_at b1 (by omega), r3_at b2 (by omega)⟩
      have hsh : ∀ w1, Gb (fun i => i = wr.heap.size) (wr.alloc (.cells #[I64 (awS k).now, .bool (awS k).shut, .slice xa xn xc] 26)) w1 → ∀ v : SlV, ReadsL 4 encEff w1 (valS v) (awE k) → Calls Try.prog 26 #[.agg #[I64 (awS k).now, .bool (awS k).shut, valS (xa, xn, xc)], valCall (awC k), agg3 (awR k), valS v] w1 fun e w' => ∃ u' : SlV, e = .returned (.tuple #[.agg #[I64 (awS (k + 1)).now, .bool (awS (k + 1)).shut, valS u'], .bool true]) ∧ (∀ w2, Gb (fun i => i < w1.heap.size) w' w2 → PoolsAt w2 (valS u') (awS (k + 1)).pools) ∧ Below w1.heap.size w1 w' := fun w1 hg v hv => by
       refine shows_ok (awC k) (awS k) (awS (k + 1)) (awR k) (awE k) _ v w1 ⟨aw_good (by omega), aw_bnd (by omega), HA.out.lies w1 ?_⟩ (aw_step k (by omega)) hv ?_
       · exact ((Gb.of_below (S := fun i => i = T) ((Below.refl wr.heap.size wr).alloc (Nat.le_refl _) (.cells #[I64 (awS k).now, .bool (awS k).shut, .slice xa xn xc] 26))).then hg (fun i hi (q : i = wr.heap.size) => by omega))
       · unfold awE
         split <;> simp
      obtain ⟨r, hr⟩ : ∃ x, x = awR k := ⟨_, rfl⟩
      obtain ⟨c, hc⟩ : ∃ x, x = awC k := ⟨_, rfl⟩
      obtain ⟨sn, hsn⟩ : ∃ x, x = (awS k).now := ⟨_, rfl⟩
      obtain ⟨sb, hsb⟩ : ∃ x, x = (awS k).shut := ⟨_, rfl⟩
      obtain ⟨tn, htn⟩ : ∃ x, x = (awS (k + 1)).now := ⟨_, rfl⟩
      obtain ⟨tb, htb⟩ : ∃ x, x = (awS (k + 1)).shut := ⟨_, rfl⟩
      rw [← hr, ← hc, ← hsn, ← hsb] at hcl
      rw [← hr, ← hc, ← hsn, ← hsb, ← htn, ← htb] at hsh
      rw [← hsn, ← hsb] at hst
      obtain ⟨r1, r2, r3⟩ := r
      unfold agg3 valCall valS at hsh
      unfold valS at hst
      dsimp only at hsh hst hcl
      have HCL := Lib.hid hcl
      have HSH := Lib.hid hsh
      have HTN := Lib.hid htn
      have HTB := Lib.hid htb
      have x0 := blk_cell hst 0
      have x1 := blk_cell hst 1
      have x2 := blk_cell hst 2
      simp only [List.getElem?_toArray, List.getElem?_cons_succ, List.getElem?_cons_zero] at x0 x1 x2
      clear hcl hsh hst hc hr hsn hsb htn htb
      have hk5 : k = 4 := hk4
      have HKE : Hid (awE k = [(1, 0, 2, 7)]) := by subst hk5; rfl
      subst hk5
      clear hk4 hlt hk8
      go_wp2_with fail
      refine wp_region_held_drew (S := fun w1 => Hid (Gb (fun i => i = wr.heap.size) (wr.alloc (.cells #[I64 sn, .bool sb, .slice xa xn xc] 26)) w1)) (by kernel_rfl) ((Gb.of_below (Below.refl _ _).drew)) (fun hHeld => ?_)
      refine tk 0 (v := ?vv0_12) (dropAt rfl) (Or.inl ⟨by rfl, ?hv0_12⟩) hHeld ?rv0_12
      case hv0_12 => (intro w hSw; obtain ⟨⟨s0, s1, s2⟩, ⟨c0, c1, c2, c3, c4, c5, c6, c7⟩, ⟨r0, r1, r2⟩⟩ := HCL.out _ hSw.out; go_simp; first | done | with_reducible rfl)
      try simp only [Act.put, pu2, pu3, pu4]
      refine tk 1 (v := ?vv1_13) (dropAt rfl) (Or.inl ⟨by rfl, ?hv1_13⟩) hHeld ?rv1_13
      case hv1_13 => (intro w hSw; obtain ⟨⟨s0, s1, s2⟩, ⟨c0, c1, c2, c3, c4, c5, c6, c7⟩, ⟨r0, r1, r2⟩⟩ := HCL.out _ hSw.out; go_simp; first | done | with_reducible rfl)
      try simp only [Act.put, pu2, pu3, pu4]
      refine tk 2 (v := ?vv2_14) (dropAt rfl) (Or.inl ⟨by rfl, ?hv2_14⟩) hHeld ?rv2_14
      case hv2_14 => (intro w hSw; obtain ⟨⟨s0, s1, s2⟩, ⟨c0, c1, c2, c3, c4, c5, c6, c7⟩, ⟨r0, r1, r2⟩⟩ := HCL.out _ hSw.out; go_simp; first | done | with_reducible rfl)
      try simp only [Act.put, pu2, pu3, pu4]
      refine tk 3 (v := ?vv3_15) (dropAt rfl) (Or.inl ⟨by rfl, ?hv3_15⟩) hHeld ?rv3_15
      case hv3_15 => (intro w hSw; obtain ⟨⟨s0, s1, s2⟩, ⟨c0, c1, c2, c3, c4, c5, c6, c7⟩, ⟨r0, r1, r2⟩⟩ := HCL.out _ hSw.out; go_simp; first | done | with_reducible rfl)
      try simp only [Act.put, pu2, pu3, pu4]
      refine tk 4 (v := ?vv4_16) (dropAt rfl) (Or.inl ⟨by rfl, ?hv4_16⟩) hHeld ?rv4_16
      case hv4_16 => (intro w hSw; obtain ⟨⟨s0, s1, s2⟩, ⟨c0, c1, c2, c3, c4, c5, c6, c7⟩, ⟨r0, r1, r2⟩⟩ := HCL.out _ hSw.out; go_simp; first | done | with_reducible rfl)
      try simp only [Act.put, pu2, pu3, pu4]
      refine tk 5 (v := ?vv5_17) (dropAt rfl) (Or.inl ⟨by rfl, ?hv5_17⟩) hHeld ?rv5_17
      case hv5_17 => (intro w hSw; obtain ⟨⟨s0, s1, s2⟩, ⟨c0, c1, c2, c3, c4, c5, c6, c7⟩, ⟨r0, r1, r2⟩⟩ := HCL.out _ hSw.out; go_simp; first | done | with_reducible rfl)
      try simp only [Act.put, pu2, pu3, pu4]
      refine tk 6 (v := ?vv6_18) (dropAt rfl) (Or.inl ⟨by rfl, ?hv6_18⟩) hHeld ?rv6_18
      case hv6_18 => (intro w hSw; obtain ⟨⟨s0, s1, s2⟩, ⟨c0, c1, c2, c3, c4, c5, c6, c7⟩, ⟨r0, r1, r2⟩⟩ := HCL.out _ hSw.out; go_simp; first | done | with_reducible rfl)
      try simp only [Act.put, pu2, pu3, pu4]
      refine tk 7 (v := ?vv7_19) (dropAt rfl) (Or.inl ⟨by rfl, ?hv7_19⟩) hHeld ?rv7_19
      case hv7_19 => (intro w hSw; obtain ⟨⟨s0, s1, s2⟩, ⟨c0, c1, c2, c3, c4, c5, c6, c7⟩, ⟨r0, r1, r2⟩⟩ := HCL.out _ hSw.out; go_simp; first | done | with_reducible rfl)
      try simp only [Act.put, pu2, pu3, pu4]
      refine wpAnyH_ready (rs := [8]) (by kernel_rfl) (by simp) ?_
      refine AllReadyH.cons (o := _) (dropAt (r := _) rfl) (fun K hK => ?_) AllReadyH.nil
      go_simp
      have hb5 : Hid (Gb (fun i => i = wr.heap.size) (wr.alloc (.cells #[I64 sn, .bool sb, .slice xa xn xc] 26)) ((wr.alloc (.cells #[I64 sn, .bool sb, .slice xa xn xc] 26)).alloc (.cells #[I64 1, I64 0, I64 2, I64 7] 51)).drew) := (Gb.of_below ((Below.refl (wr.alloc (.cells #[I64 sn, .bool sb, .slice xa xn xc] 26)).heap.size (wr.alloc (.cells #[I64 sn, .bool sb, .slice xa xn xc] 26))).alloc (Nat.le_refl _) (.cells #[I64 1, I64 0, I64 2, I64 7] 51)).drew)
      refine hK.out _ _ hb5 (fun hHeld5 => ?_)
      clear hK K
      try simp only [Act.put, pu2, pu3, pu4]
      refine wpAnyH_ready (rs := [9]) (by kernel_rfl) (by simp) ?_
      refine AllReadyH.cons (o := _) (dropAt (r := _) rfl) (fun K hK => ?_) AllReadyH.nil
      go_simp
      have q := HSH.out _ hHeld5.out (some ⟨wr.heap.size + 1, 0, none⟩, 1, 1) (by rw [HKE.out]; exact eff_one (wr.alloc (.cells #[I64 sn, .bool sb, .slice xa xn xc] 26)) (wr.heap.size + 1) (by simp))
      dsimp only at q
      refine q.mono ?_
      clear q
      rintro e w6 ⟨⟨pa, pn, pc⟩, rfl, hx, hb3⟩
      dsimp only at hx ⊢
      have hg3 : Hid (Gb (fun i => i = wr.heap.size) (wr.alloc (.cells #[I64 sn, .bool sb, .slice xa xn xc] 26)) w6) := hHeld5.out.trans (.of_below hb3)
      refine hK.out _ _ hg3 (fun hHeld3 => ?_)
      clear hK K
      try simp only [Act.put, pu2, pu3, pu4]
      refine tk 10 (v := ?vv10_20) (dropAt rfl) (Or.inl ⟨by rfl, ?hv10_20⟩) hHeld3 ?rv10_20
      case hv10_20 => (intro w hSw; go_simp; first | done | with_reducible rfl)
      try simp only [Act.put, pu2, pu3, pu4]
      refine tk 11 (v := ?vv11_21) (dropAt rfl) (Or.inl ⟨by rfl, ?hv11_21⟩) hHeld3 ?rv11_21
      case hv11_21 => (intro w hSw; go_simp; first | done | with_reducible rfl)
      try simp only [Act.put, pu2, pu3, pu4]
      refine tk 12 (v := ?vv12_22) (dropAt rfl) (Or.inl ⟨by rfl, ?hv12_22⟩) hHeld3 ?rv12_22
      case hv12_22 => (intro w hSw; go_simp; first | done | with_reducible rfl)
      try simp only [Act.put, pu2, pu3, pu4]
      have hz4 : w6.heap[wr.heap.size]? = some (.cells #[I64 sn, .bool sb, .slice xa xn xc] 26 (0, 0)) := (hb3.block _ (by show wr.heap.size < ((wr.alloc (.cells #[I64 sn, .bool sb, .slice xa xn xc] 26)).alloc (.cells #[I64 1, I64 0, I64 2, I64 7] 51)).heap.size; simp; try omega)).trans ((((Below.refl (wr.alloc (.cells #[I64 sn, .bool sb, .slice xa xn xc] 26)).heap.size (wr.alloc (.cells #[I64 sn, .bool sb, .slice xa xn xc] 26))).alloc (Nat.le_refl _) (.cells #[I64 1, I64 0, I64 2, I64 7] 51)).block _ (by simp)).trans (blk_new wr _))
      have HZ4 := Lib.hid hz4
      have HX := Lib.hid hx
      have HW6 : Hid (Gb (fun i => wr.heap.size ≤ i) wr w6) := (Gb.of_below ((Below.refl wr.heap.size wr).alloc (Nat.le_refl _) _)).trans (hg3.out.mono (fun i _ (q : i = wr.heap.size) => by show wr.heap.size ≤ i; omega))
      have y0 := blk_cell hz4 0
      have y1 := blk_cell hz4 1
      have y2 := blk_cell hz4 2
      have fy0 := blk_free hz4 0
      have fy1 := blk_free hz4 1
      have fy2 := blk_free hz4 2
      simp only [List.getElem?_toArray, List.getElem?_cons_succ, List.getElem?_cons_zero] at y0 y1 y2
      clear hz4 hb3 hx
      have HS4 : Hid (Gb (fun i => i = wr.heap.size) (wr.alloc (.cells #[I64 sn, .bool sb, .slice xa xn xc] 26)) (((w6.setCell ⟨wr.heap.size, 0, none⟩ (I64 tn)).setCell ⟨wr.heap.size, 1, none⟩ (.bool tb)).setCell ⟨wr.heap.size, 2, none⟩ (.slice pa pn pc))) := (((hg3.out.setCell (x := ⟨wr.heap.size, 0, none⟩) rfl _).setCell (x := ⟨wr.heap.size, 1, none⟩) rfl _).setCell (x := ⟨wr.heap.size, 2, none⟩) rfl _)
      refine wpAnyH_ready (rs := [13]) (by kernel_rfl) (by simp) ?_
      refine AllReadyH.cons (o := _) (dropAt (r := _) rfl) (fun K hK => ?_) AllReadyH.nil
      go_simp
      refine hK.out _ _ HS4 (fun hHeld4 => ?_)
      clear hK K
      try simp only [Act.put, pu2, pu3, pu4]
      refine tk 14 (v := ?vv14_23) (dropAt rfl) (Or.inl ⟨by rfl, ?hv14_23⟩) hHeld4 ?rv14_23
      case hv14_23 => (intro w hSw; go_simp; first | done | with_reducible rfl)
      try simp only [Act.put, pu2, pu3, pu4]
      refine wpAnyH_done (by kernel_rfl) ?_ _
      obtain ⟨wy, hwy⟩ : ∃ x, x = (((w6.setCell ⟨wr.heap.size, 0, none⟩ (I64 tn)).setCell ⟨wr.heap.size, 1, none⟩ (.bool tb)).setCell ⟨wr.heap.size, 2, none⟩ (.slice pa pn pc)) := ⟨_, rfl⟩
      have hyy : Gb (fun i => i = wr.heap.size) w6 wy := by
       rw [hwy]
       exact ((((Gb.refl (fun i => i = wr.heap.size) w6).setCell (x := ⟨wr.heap.size, 0, none⟩) rfl _).setCell (x := ⟨wr.heap.size, 1, none⟩) rfl _).setCell (x := ⟨wr.heap.size, 2, none⟩) rfl _)
      have hfinz := (blk_set (blk_set (blk_set HZ4.out 0 (I64 tn)) 1 (.bool tb)) 2 (.slice pa pn pc))
      have z0 := blk_cell hfinz 0
      have z1 := blk_cell hfinz 1
      have z2 := blk_cell hfinz 2
      simp only [List.setIfInBounds_toArray, List.set_cons_zero, List.set_cons_succ, List.getElem?_toArray, List.getElem?_cons_succ, List.getElem?_cons_zero] at z0 z1 z2
      clear hfinz
      rw [← hwy] at z0 z1 z2
      have hnx := HA.out.next (u' := (pa, pn, pc)) (M := ((wr.alloc (.cells #[I64 sn, .bool sb, .slice xa xn xc] 26)).alloc (.cells #[I64 1, I64 0, I64 2, I64 7] 51)).heap.size) (by have := lt_of_block HA.out.st; have := (Gb.size HW6.out); simp; omega) HW6.out HX.out hyy (by simp; try omega)
      rw [← HTN.out, ← HTB.out] at hnx
      obtain ⟨ht, hnx⟩ := hnx
      unfold valS at ht hnx
      dsimp only at ht hnx
      have HNXT := Lib.hid hnx
      have t0 := blk_cell ht 0
      have t1 := blk_cell ht 1
      have t2 := blk_cell ht 2
      have ft0 := blk_free ht 0
      have ft1 := blk_free ht 1
      have ft2 := blk_free ht 2
      simp only [List.getElem?_toArray, List.getElem?_cons_succ, List.getElem?_cons_zero] at t0 t1 t2
      clear ht hnx hyy y0 y1 y2 fy0 fy1 fy2 HS4 hHeld4 hHeld3 hHeld5 hb5 hHeld hg3
      clear x0 x1 x2
      rw [show (((w6.setCell ⟨wr.heap.size, 0, none⟩ (I64 tn)).setCell ⟨wr.heap.size, 1, none⟩ (.bool tb)).setCell ⟨wr.heap.size, 2, none⟩ (.slice pa pn pc)) = wy from hwy.symm]
      clear hwy
      go_wp2_with fail
      case roundEnd =>
       refine ⟨⟨4 + 1, pa, pn, pc, by omega, by first | rfl | simp, HNXT⟩, ?_⟩
       simp [intOf]
       try omega
    · have hst := HA.out.st
      have hcl : ∀ w1, Gb (fun i => i = wr.heap.size) (wr.alloc (.cells #[I64 (awS k).now, .bool (awS k).shut, .slice xa xn xc] 26)) w1 → S3 T (awS k).now (awS k).shut (.slice xa xn xc) w1 ∧ C8 (T + 1) (k * 8) (awC k) w1 ∧ R3 (T + 2) (k * 3) (awR k) w1 := fun w1 hg => by
       have hlt := lt_of_block hst
       have hl0 := lt_of_block H5.out.2.2.2
       have hal := (Below.refl wr.heap.size wr).alloc (Nat.le_refl _) (.cells #[I64 (awS k).now, .bool (awS k).shut, .slice xa xn xc] 26)
       have h5r := HA.out.gb.size
       have b0 := hg.blk ((hal.block _ hlt).trans hst) (by omega)
       have b1 := hg.blk ((hal.block _ (by omega)).trans (HA.out.gb.blk H5.out.2.2.1 (by omega))) (by omega)
       have b2 := hg.blk ((hal.block _ (by omega)).trans (HA.out.gb.blk H5.out.2.2.2 (by omega))) (by omega)
       exact ⟨⟨blk_cell b0 0, blk_cell b0 1, blk_cell b0 2⟩, c8_at b1 (by omega), r3_at b2 (by omega)⟩
      have hsh : ∀ w1, Gb (fun i => i = wr.heap.size) (wr.alloc (.cells #[I64 (awS k).now, .bool (awS k).shut, .slice xa xn xc] 26)) w1 → ∀ v : SlV, ReadsL 4 encEff w1 (valS v) (awE k) → Calls Try.prog 26 #[.agg #[I64 (awS k).now, .bool (awS k).shut, valS (xa, xn, xc)], valCall (awC k), agg3 (awR k), valS v] w1 fun e w' => ∃ u' : SlV, e = .returned (.tuple #[.agg #[I64 (awS (k + 1)).now, .bool (awS (k + 1)).shut, valS u'], .bool true]) ∧ (∀ w2, Gb (fun i => i < w1.heap.size) w' w2 → PoolsAt w2 (valS u') (awS (k + 1)).pools) ∧ Below w1.heap.size w1 w' := fun w1 hg v hv => by
       refine shows_ok (awC k) (awS k) (awS (k + 1)) (awR k) (awE k) _ v w1 ⟨aw_good (by omega), aw_bnd (by omega), HA.out.lies w1 ?_⟩ (aw_step k (by omega)) hv ?_
       · exact ((Gb.of_below (S := fun i => i = T) ((Below.refl wr.heap.size wr).alloc (Nat.le_refl _) (.cells #[I64 (awS k).now, .bool (awS k).shut, .slice xa xn xc] 26))).then hg (fun i hi (q : i = wr.heap.size) => by omega))
       · unfold awE
         split <;> simp
      obtain ⟨r, hr⟩ : ∃ x, x = awR k := ⟨_, rfl⟩
      obtain ⟨c, hc⟩ : ∃ x, x = awC k := ⟨_, rfl⟩
      obtain ⟨sn, hsn⟩ : ∃ x, x = (awS k).now := ⟨_, rfl⟩
      obtain ⟨sb, hsb⟩ : ∃ x, x = (awS k).shut := ⟨_, rfl⟩
      obtain ⟨tn, htn⟩ : ∃ x, x = (awS (k + 1)).now := ⟨_, rfl⟩
      obtain ⟨tb, htb⟩ : ∃ x, x = (awS (k + 1)).shut := ⟨_, rfl⟩
      rw [← hr, ← hc, ← hsn, ← hsb] at hcl
      rw [← hr, ← hc, ← hsn, ← hsb, ← htn, ← htb] at hsh
      rw [← hsn, ← hsb] at hst
      obtain ⟨r1, r2, r3⟩ := r
      unfold agg3 valCall valS at hsh
      unfold valS at hst
      dsimp only at hsh hst hcl
      have HCL := Lib.hid hcl
      have HSH := Lib.hid hsh
      have HTN := Lib.hid htn
      have HTB := Lib.hid htb
      have x0 := blk_cell hst 0
      have x1 := blk_cell hst 1
      have x2 := blk_cell hst 2
      simp only [List.getElem?_toArray, List.getElem?_cons_succ, List.getElem?_cons_zero] at x0 x1 x2
      clear hcl hsh hst hc hr hsn hsb htn htb
      have HKE : Hid (awE k = []) := aw_e hk4
      have hk4b : ((k : Int) == 4) = false := by rw [beq_eq_false_iff_ne]; omega
      have hk8I : (k : Int) < 8 := by omega
      go_wp2_with fail
      refine wp_region_held_drew (S := fun w1 => Hid (Gb (fun i => i = wr.heap.size) (wr.alloc (.cells #[I64 sn, .bool sb, .slice xa xn xc] 26)) w1)) (by kernel_rfl) ((Gb.of_below (Below.refl _ _).drew)) (fun hHeld => ?_)
      refine tk 0 (v := ?vv0_1) (dropAt rfl) (Or.inl ⟨by rfl, ?hv0_1⟩) hHeld ?rv0_1
      case hv0_1 => (intro w hSw; obtain ⟨⟨s0, s1, s2⟩, ⟨c0, c1, c2, c3, c4, c5, c6, c7⟩, ⟨r0, r1, r2⟩⟩ := HCL.out _ hSw.out; go_simp; first | done | with_reducible rfl)
      try simp only [Act.put, pu2, pu3, pu4]
      refine tk 1 (v := ?vv1_2) (dropAt rfl) (Or.inl ⟨by rfl, ?hv1_2⟩) hHeld ?rv1_2
      case hv1_2 => (intro w hSw; obtain ⟨⟨s0, s1, s2⟩, ⟨c0, c1, c2, c3, c4, c5, c6, c7⟩, ⟨r0, r1, r2⟩⟩ := HCL.out _ hSw.out; go_simp; first | done | with_reducible rfl)
      try simp only [Act.put, pu2, pu3, pu4]
      refine tk 2 (v := ?vv2_3) (dropAt rfl) (Or.inl ⟨by rfl, ?hv2_3⟩) hHeld ?rv2_3
      case hv2_3 => (intro w hSw; obtain ⟨⟨s0, s1, s2⟩, ⟨c0, c1, c2, c3, c4, c5, c6, c7⟩, ⟨r0, r1, r2⟩⟩ := HCL.out _ hSw.out; go_simp; first | done | with_reducible rfl)
      try simp only [Act.put, pu2, pu3, pu4]
      refine tk 3 (v := ?vv3_4) (dropAt rfl) (Or.inl ⟨by rfl, ?hv3_4⟩) hHeld ?rv3_4
      case hv3_4 => (intro w hSw; obtain ⟨⟨s0, s1, s2⟩, ⟨c0, c1, c2, c3, c4, c5, c6, c7⟩, ⟨r0, r1, r2⟩⟩ := HCL.out _ hSw.out; go_simp; first | done | with_reducible rfl)
      try simp only [Act.put, pu2, pu3, pu4]
      refine tk 4 (v := ?vv4_5) (dropAt rfl) (Or.inl ⟨by rfl, ?hv4_5⟩) hHeld ?rv4_5
      case hv4_5 => (intro w hSw; obtain ⟨⟨s0, s1, s2⟩, ⟨c0, c1, c2, c3, c4, c5, c6, c7⟩, ⟨r0, r1, r2⟩⟩ := HCL.out _ hSw.out; go_simp; first | done | with_reducible rfl)
      try simp only [Act.put, pu2, pu3, pu4]
      refine tk 5 (v := ?vv5_6) (dropAt rfl) (Or.inl ⟨by rfl, ?hv5_6⟩) hHeld ?rv5_6
      case hv5_6 => (intro w hSw; obtain ⟨⟨s0, s1, s2⟩, ⟨c0, c1, c2, c3, c4, c5, c6, c7⟩, ⟨r0, r1, r2⟩⟩ := HCL.out _ hSw.out; go_simp; first | done | with_reducible rfl)
      try simp only [Act.put, pu2, pu3, pu4]
      refine tk 6 (v := ?vv6_7) (dropAt rfl) (Or.inl ⟨by rfl, ?hv6_7⟩) hHeld ?rv6_7
      case hv6_7 => (intro w hSw; obtain ⟨⟨s0, s1, s2⟩, ⟨c0, c1, c2, c3, c4, c5, c6, c7⟩, ⟨r0, r1, r2⟩⟩ := HCL.out _ hSw.out; go_simp; first | done | with_reducible rfl)
      try simp only [Act.put, pu2, pu3, pu4]
      refine wpAnyH_ready (rs := [7]) (by kernel_rfl) (by simp) ?_
      refine AllReadyH.cons (o := _) (dropAt (r := _) rfl) (fun K hK => ?_) AllReadyH.nil
      go_simp
      have q := HSH.out _ hHeld.out (none, 0, 0) (by rw [HKE.out]; exact .nil _)
      dsimp only at q
      refine q.mono ?_
      clear q
      rintro e w6 ⟨⟨pa, pn, pc⟩, rfl, hx, hb3⟩
      dsimp only at hx ⊢
      have hg3 : Hid (Gb (fun i => i = wr.heap.size) (wr.alloc (.cells #[I64 sn, .bool sb, .slice xa xn xc] 26)) w6) := hHeld.out.trans (.of_below hb3)
      refine hK.out _ _ hg3 (fun hHeld3 => ?_)
      clear hK K
      try simp only [Act.put, pu2, pu3, pu4]
      refine tk 8 (v := ?vv8_8) (dropAt rfl) (Or.inl ⟨by rfl, ?hv8_8⟩) hHeld3 ?rv8_8
      case hv8_8 => (intro w hSw; go_simp; first | done | with_reducible rfl)
      try simp only [Act.put, pu2, pu3, pu4]
      refine tk 9 (v := ?vv9_9) (dropAt rfl) (Or.inl ⟨by rfl, ?hv9_9⟩) hHeld3 ?rv9_9
      case hv9_9 => (intro w hSw; go_simp; first | done | with_reducible rfl)
      try simp only [Act.put, pu2, pu3, pu4]
      refine tk 10 (v := ?vv10_10) (dropAt rfl) (Or.inl ⟨by rfl, ?hv10_10⟩) hHeld3 ?rv10_10
      case hv10_10 => (intro w hSw; go_simp; first | done | with_reducible rfl)
      try simp only [Act.put, pu2, pu3, pu4]
      have hz4 : w6.heap[wr.heap.size]? = some (.cells #[I64 sn, .bool sb, .slice xa xn xc] 26 (0, 0)) := (hb3.block _ (by simp)).trans (blk_new wr _)
      have HZ4 := Lib.hid hz4
      have HX := Lib.hid hx
      have HW6 : Hid (Gb (fun i => wr.heap.size ≤ i) wr w6) := (Gb.of_below ((Below.refl wr.heap.size wr).alloc (Nat.le_refl _) _)).trans (hg3.out.mono (fun i _ (q : i = wr.heap.size) => by show wr.heap.size ≤ i; omega))
      have y0 := blk_cell hz4 0
      have y1 := blk_cell hz4 1
      have y2 := blk_cell hz4 2
      have fy0 := blk_free hz4 0
      have fy1 := blk_free hz4 1
      have fy2 := blk_free hz4 2
      simp only [List.getElem?_toArray, List.getElem?_cons_succ, List.getElem?_cons_zero] at y0 y1 y2
      clear hz4 hb3 hx
      have HS4 : Hid (Gb (fun i => i = wr.heap.size) (wr.alloc (.cells #[I64 sn, .bool sb, .slice xa xn xc] 26)) (((w6.setCell ⟨wr.heap.size, 0, none⟩ (I64 tn)).setCell ⟨wr.heap.size, 1, none⟩ (.bool tb)).setCell ⟨wr.heap.size, 2, none⟩ (.slice pa pn pc))) := (((hg3.out.setCell (x := ⟨wr.heap.size, 0, none⟩) rfl _).setCell (x := ⟨wr.heap.size, 1, none⟩) rfl _).setCell (x := ⟨wr.heap.size, 2, none⟩) rfl _)
      refine wpAnyH_ready (rs := [11]) (by kernel_rfl) (by simp) ?_
      refine AllReadyH.cons (o := _) (dropAt (r := _) rfl) (fun K hK => ?_) AllReadyH.nil
      go_simp
      refine hK.out _ _ HS4 (fun hHeld4 => ?_)
      clear hK K
      try simp only [Act.put, pu2, pu3, pu4]
      refine tk 12 (v := ?vv12_11) (dropAt rfl) (Or.inl ⟨by rfl, ?hv12_11⟩) hHeld4 ?rv12_11
      case hv12_11 => (intro w hSw; go_simp; first | done | with_reducible rfl)
      try simp only [Act.put, pu2, pu3, pu4]
      refine wpAnyH_done (by kernel_rfl) ?_ _
      obtain ⟨wy, hwy⟩ : ∃ x, x = (((w6.setCell ⟨wr.heap.size, 0, none⟩ (I64 tn)).setCell ⟨wr.heap.size, 1, none⟩ (.bool tb)).setCell ⟨wr.heap.size, 2, none⟩ (.slice pa pn pc)) := ⟨_, rfl⟩
      have hyy : Gb (fun i => i = wr.heap.size) w6 wy := by
       rw [hwy]
       exact ((((Gb.refl (fun i => i = wr.heap.size) w6).setCell (x := ⟨wr.heap.size, 0, none⟩) rfl _).setCell (x := ⟨wr.heap.size, 1, none⟩) rfl _).setCell (x := ⟨wr.heap.size, 2, none⟩) rfl _)
      have hfinz := (blk_set (blk_set (blk_set HZ4.out 0 (I64 tn)) 1 (.bool tb)) 2 (.slice pa pn pc))
      have z0 := blk_cell hfinz 0
      have z1 := blk_cell hfinz 1
      have z2 := blk_cell hfinz 2
      simp only [List.setIfInBounds_toArray, List.set_cons_zero, List.set_cons_succ, List.getElem?_toArray, List.getElem?_cons_succ, List.getElem?_cons_zero] at z0 z1 z2
      clear hfinz
      rw [← hwy] at z0 z1 z2
      have hnx := HA.out.next (u' := (pa, pn, pc)) (M := (wr.alloc (.cells #[I64 sn, .bool sb, .slice xa xn xc] 26)).heap.size) (by have := lt_of_block HA.out.st; have := (Gb.size HW6.out); simp; omega) HW6.out HX.out hyy (by simp; try omega)
      rw [← HTN.out, ← HTB.out] at hnx
      obtain ⟨ht, hnx⟩ := hnx
      unfold valS at ht hnx
      dsimp only at ht hnx
      have HNXT := Lib.hid hnx
      have t0 := blk_cell ht 0
      have t1 := blk_cell ht 1
      have t2 := blk_cell ht 2
      have ft0 := blk_free ht 0
      have ft1 := blk_free ht 1
      have ft2 := blk_free ht 2
      simp only [List.getElem?_toArray, List.getElem?_cons_succ, List.getElem?_cons_zero] at t0 t1 t2
      clear ht hnx hyy y0 y1 y2 fy0 fy1 fy2 HS4 hHeld4 hHeld3 hHeld hg3
      clear x0 x1 x2
      rw [show (((w6.setCell ⟨wr.heap.size, 0, none⟩ (I64 tn)).setCell ⟨wr.heap.size, 1, none⟩ (.bool tb)).setCell ⟨wr.heap.size, 2, none⟩ (.slice pa pn pc)) = wy from hwy.symm]
      clear hwy
      go_wp2_with fail
      case roundEnd =>
       refine ⟨⟨k + 1, pa, pn, pc, by omega, by rw [show (k : Int) + 1 = ((k + 1 : Nat) : Int) by omega], HNXT⟩, ?_⟩
       simp [intOf]
       try omega
  · have hkE : k = 8 := by omega
    subst hkE
    have hst := HA.out.st
    have HSTA : Hid (∀ w1, Below wr.heap.size wr w1 → Sta w1 (xa, xn, xc) (awS 8)) := fun w1 hb1 => ⟨aw_good (by decide), aw_bnd (by decide), HA.out.lies w1 (.of_below hb1)⟩
    have HWH : Hid (Calls Try.prog 27 #[.agg #[I64 (awS 8).now, .bool (awS 8).shut, .slice xa xn xc], I64 2] wr fun e w' => e = .returned (.tuple #[I64 0, I64 1, I64 0]) ∧ Below wr.heap.size wr w') := by
     have q := where_g (awS 8) (xa, xn, xc) 2 wr (HSTA.out wr (.refl _ _))
     rw [aw_where] at q
     exact q
    have HCK : Hid (∀ w1, Below wr.heap.size wr w1 → Calls Try.prog 11 #[.agg #[I64 (awS 8).now, .bool (awS 8).shut, .slice xa xn xc]] w1 fun e w' => e = .returned (I64 0) ∧ Below w1.heap.size w1 w') := fun w1 hb1 => check_g (awS 8) (xa, xn, xc) w1 (HSTA.out w1 hb1)
    have HFB : Hid (Below w.heap.size w wr) := H5.out.1.trans (HA.out.gb.below H5.out.1.size (fun i (q : i = T) => by rw [q, HTE.out]; exact Nat.le_trans (HB2.out.size) (HB3.out.size)))
    have HLT := Lib.hid (lt_of_block hst)
    have HSTK := Lib.hid hst
    obtain ⟨sn, hsn⟩ : ∃ x, x = (awS 8).now := ⟨_, rfl⟩
    obtain ⟨sb, hsb⟩ : ∃ x, x = (awS 8).shut := ⟨_, rfl⟩
    rw [← hsn, ← hsb] at hst HWH HCK HSTK
    unfold valS at hst HSTK
    dsimp only at hst HSTK
    have x0 := blk_cell hst 0
    have x1 := blk_cell hst 1
    have x2 := blk_cell hst 2
    simp only [List.getElem?_toArray, List.getElem?_cons_succ, List.getElem?_cons_zero] at x0 x1 x2
    clear hst hsn hsb hlt hk8
    go_wp2_with fail
    refine HWH.out.mono ?_
    rintro e w6 ⟨rfl, hb6⟩
    have hst6 := (hb6.block _ HLT.out).trans HSTK.out
    have HC6 := Lib.hid (HCK.out w6 hb6)
    have HB6 := Lib.hid hb6
    clear x0 x1 x2
    have x0 := blk_cell hst6 0
    have x1 := blk_cell hst6 1
    have x2 := blk_cell hst6 2
    simp only [List.getElem?_toArray, List.getElem?_cons_succ, List.getElem?_cons_zero] at x0 x1 x2
    clear hst6 hb6
    go_wp2_with fail
    refine HC6.out.mono ?_
    rintro e w7 ⟨rfl, hb7⟩
    have hfin := HFB.out.trans ((HB6.out.trans (hb7.mono HB6.out.size)).mono HFB.out.size)
    go_wp2
    go_ret
    exact ⟨rfl, hfin⟩
end Go.Proofs.Ytaicmiadgnpimaa
