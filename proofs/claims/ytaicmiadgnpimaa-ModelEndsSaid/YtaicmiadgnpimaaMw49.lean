/-
  Walks for layer 26 (model): Outcomes, over what the handler's functions return.
-/
import Derived.Test.YtaicmiadgnpimaaMw48
import Derived.Laws.EntriesVeiled
namespace Go.Proofs.Ytaicmiadgnpimaa
open Go.RowKit

/-- An outcome as it lies: result, effects, now, shut, backends. -/
abbrev OutV := Md.Result × SlV × Int × Bool × SlV
def encO (x : OutV) : List Value := [I64 x.1.1, I64 x.1.2.1, I64 x.1.2.2, valS x.2.1, I64 x.2.2.1, .bool x.2.2.2.1, valS x.2.2.2.2]
structure OutRd (w : World) (x : OutV) (o : Md.Outcome) : Prop where
 res : x.1 = o.result
 effs : ReadsL 4 encEff w (valS x.2.1) o.effects
 now : x.2.2.1 = o.next.now
 shut : x.2.2.2.1 = o.next.shut
 pools : PoolsAt w (valS x.2.2.2.2) o.next.pools
theorem OutRd.below {w w' : World} {x : OutV} {o : Md.Outcome} (h : OutRd w x o) (hb : Below w.heap.size w w') : OutRd w' x o := ⟨h.res, h.effs.below hb, h.now, h.shut, h.pools.below hb⟩
/-- The same, and in blocks from M on. -/
def OutNew (M : Nat) (w : World) (x : OutV) (o : Md.Outcome) : Prop := ∀ w2, Gb (fun i => i < M) w w2 → OutRd w2 x o
/-- Outcomes that lie in blocks from M on. -/
def OutsRd (M : Nat) (w : World) (v : Value) (l : List Md.Outcome) : Prop := ∃ xs : List OutV, xs.length = l.length ∧ ∀ w2, Gb (fun i => i < M) w w2 → ReadsL 7 encO w2 v xs ∧ ∀ j (h : j < xs.length) (h' : j < l.length), OutRd w2 xs[j] l[j]
theorem OutsRd.below {M : Nat} {w w' : World} {v : Value} {l : List Md.Outcome} (h : OutsRd M w v l) (hb : Below w.heap.size w w') : OutsRd M w' v l := by
 obtain ⟨xs, h1, h2⟩ := h
 exact ⟨xs, h1, fun w2 hg => h2 w2 ((Gb.of_below hb).trans hg)⟩
theorem OutsRd.mono {M M' : Nat} {w : World} {v : Value} {l : List Md.Outcome} (h : OutsRd M w v l) (hm : M' ≤ M) : OutsRd M' w v l := by
 obtain ⟨xs, h1, h2⟩ := h
 exact ⟨xs, h1, fun w2 hg => h2 w2 (hg.mono (fun _ _ hk => Nat.lt_of_lt_of_le hk hm))⟩
theorem OutsRd.nil (M : Nat) (w : World) : OutsRd M w (.slice none 0 0) [] := ⟨[], rfl, fun w2 _ => ⟨.nil w2, fun _ h => absurd h (Nat.not_lt_zero _)⟩⟩
/-- A slice of one outcome, new. -/
theorem OutsRd.one {M : Nat} {w : World} {x : OutV} {o : Md.Outcome} (h : OutNew M w x o) (hM : M ≤ w.heap.size) (T : TypeId) : OutsRd M (w.alloc (.cells (encO x).toArray T)) (.slice (some ⟨w.heap.size, 0, none⟩) 1 1) [o] := by
 refine ⟨[x], rfl, fun w2 hg => ?_⟩
 have hbl : w2.heap[w.heap.size]? = some (.cells (encO x).toArray T) := (hg.block w.heap.size (by simp) (by show ¬ w.heap.size < M; omega)).trans (blk_new w _)
 refine ⟨.inr ⟨w.heap.size, 0, 1, rfl, by have := hg.size; simp at this; omega, fun j hj i u hu => ?_⟩, fun j hj hj' => ?_⟩
 · have hj0 : j = 0 := by simpa using hj
   subst hj0
   have := blk_cell hbl i
   simpa using this.trans (by simpa using hu)
 · have hj0 : j = 0 := by simpa using hj
   subst hj0
   exact h w2 ((Gb.of_below ((Below.refl _ _).alloc (Nat.le_refl _) _)).trans hg)
/-- What a run has come to, in blocks from M on. -/
theorem RunE.stateM {S : Nat → Prop} {R : Nat} {c : Md.Call} {s : Md.State} {es : List Md.Effect} {W : Nat → Prop} {G n cap : Nat} {w : World} (h : RunE S R c s es W G n cap w) {M : Nat} (hS : ∀ k, S k → M ≤ k) :
 ∃ ev : SlV, w.heap[R]? = some (.cells (runCells s c (some ⟨G, 0, none⟩, n, cap) ev) 112 (0, 0)) ∧ ∀ w2, Gb (fun i => i < M) w w2 → PoolsAt w2 (.slice (some ⟨G, 0, none⟩) n cap) s.pools ∧ ReadsL 4 encEff w2 (valS ev) es := by
 obtain ⟨ev, pvs, h⟩ := h
 refine ⟨ev, h.blk, fun w2 hg => ?_⟩
 have h2 := h.outside hg (fun k _ hk hlt => by have := hS k hk; omega)
 obtain ⟨_, _, hp, _⟩ := RunE.state ⟨ev, pvs, h2⟩
 exact ⟨hp, h2.effs.reads encEff_len⟩
theorem hRow_at (k i : Nat) (hk : k < 11) {v : Value} (h : (hRow k)[i]? = some v) : hCells.toArray[k * 8 + i]? = some v := by
 rw [hCells_eq]
 have hg := flat_get (enc := hRow) hRow_len (List.range 11) k (by simpa using hk) i v (by simpa using h)
 simpa using hg
def OC (B : Nat) (s : Md.State) (u : SlV) (c : Md.Call) (w : World) : Prop := w.cell? ⟨B, 0, none⟩ = some (I64 s.now) ∧ w.cell? ⟨B, 1, none⟩ = some (.bool s.shut) ∧ w.cell? ⟨B, 2, none⟩ = some (valS u) ∧
 w.cell? ⟨B + 1, 0, none⟩ = some (I64 c.kind) ∧ w.cell? ⟨B + 1, 1, none⟩ = some (I64 c.backend) ∧ w.cell? ⟨B + 1, 2, none⟩ = some (I64 c.call) ∧ w.cell? ⟨B + 1, 3, none⟩ = some (I64 c.conn) ∧ w.cell? ⟨B + 1, 4, none⟩ = some (I64 c.time) ∧ w.cell? ⟨B + 1, 5, none⟩ = some (.bool c.yes) ∧ w.cell? ⟨B + 1, 6, none⟩ = some (I64 c.skip) ∧ w.cell? ⟨B + 1, 7, none⟩ = some (I64 c.breaker)
def OB3 (s : Md.State) (u : SlV) : Obj := .cells #[I64 s.now, .bool s.shut, valS u] 26
def OB8 (c : Md.Call) : Obj := .cells #[I64 c.kind, I64 c.backend, I64 c.call, I64 c.conn, I64 c.time, .bool c.yes, I64 c.skip, I64 c.breaker] 36
theorem cc_new (s : Md.State) (u : SlV) (c : Md.Call) (w : World) : Below w.heap.size w ((w.alloc (OB3 s u)).alloc (OB8 c)) ∧ ∀ w1, Below ((w.alloc (OB3 s u)).alloc (OB8 c)).heap.size ((w.alloc (OB3 s u)).alloc (OB8 c)) w1 → OC w.heap.size s u c w1 := by
 have b0 := (Below.refl w.heap.size w).alloc (Nat.le_refl _) (OB3 s u)
 have b1 := (Below.refl (w.alloc (OB3 s u)).heap.size (w.alloc (OB3 s u))).alloc (Nat.le_refl _) (OB8 c)
 have h0 := blk_new w (OB3 s u)
 have h1 := blk_new (w.alloc (OB3 s u)) (OB8 c)
 refine ⟨b0.trans (b1.mono b0.size), fun w1 hb => ?_⟩
 have e0 : w1.heap[w.heap.size]? = some (OB3 s u) := (hb.block _ (by simp; omega)).trans ((b1.block _ (by simp)).trans h0)
 have e1 : w1.heap[w.heap.size + 1]? = some (OB8 c) := by
  have := (hb.block (w.alloc (OB3 s u)).heap.size (by simp)).trans h1
  simpa using this
 exact ⟨blk_cell e0 0, blk_cell e0 1, blk_cell e0 2, blk_cell e1 0, blk_cell e1 1, blk_cell e1 2, blk_cell e1 3, blk_cell e1 4, blk_cell e1 5, blk_cell e1 6, blk_cell e1 7⟩
/-- The handler's cells. -/
def HC8 (H o : Nat) (b1 b2 b3 b4 b5 b6 : Bool) (fw fd : Value) (w : World) : Prop := w.cell? ⟨H, o, none⟩ = some (.bool b1) ∧ w.cell? ⟨H, o + 1, none⟩ = some (.bool b2) ∧ w.cell? ⟨H, o + 2, none⟩ = some (.bool b3) ∧ w.cell? ⟨H, o + 3, none⟩ = some (.bool b4) ∧ w.cell? ⟨H, o + 4, none⟩ = some (.bool b5) ∧ w.cell? ⟨H, o + 5, none⟩ = some (.bool b6) ∧ w.cell? ⟨H, o + 6, none⟩ = some fw ∧ w.cell? ⟨H, o + 7, none⟩ = some fd
theorem hc8 {w : World} {H k : Nat} (h : w.heap[H]? = some (.cells hCells.toArray 106 (0, 0))) (hk : k < 11) {b1 b2 b3 b4 b5 b6 : Bool} {fw fd : Value} (hr : hRow k = [.bool b1, .bool b2, .bool b3, .bool b4, .bool b5, .bool b6, fw, fd]) : HC8 H (k * 8) b1 b2 b3 b4 b5 b6 fw fd w :=
 ⟨(blk_cell h (k * 8)).trans (hRow_at k 0 hk (by rw [hr]; rfl)), (blk_cell h (k * 8 + 1)).trans (hRow_at k 1 hk (by rw [hr]; rfl)), (blk_cell h (k * 8 + 2)).trans (hRow_at k 2 hk (by rw [hr]; rfl)), (blk_cell h (k * 8 + 3)).trans (hRow_at k 3 hk (by rw [hr]; rfl)),
  (blk_cell h (k * 8 + 4)).trans (hRow_at k 4 hk (by rw [hr]; rfl)), (blk_cell h (k * 8 + 5)).trans (hRow_at k 5 hk (by rw [hr]; rfl)), (blk_cell h (k * 8 + 6)).trans (hRow_at k 6 hk (by rw [hr]; rfl)), (blk_cell h (k * 8 + 7)).trans (hRow_at k 7 hk (by rw [hr]; rfl))⟩
def OBH (b1 b2 b3 b4 b5 b6 : Bool) (fw fd : Value) : Obj := .cells #[.bool b1, .bool b2, .bool b3, .bool b4, .bool b5, .bool b6, fw, fd] 106
theorem hc8_new {w w1 : World} {b1 b2 b3 b4 b5 b6 : Bool} {fw fd : Value} (hb : Below (w.heap.size + 1) (w.alloc (OBH b1 b2 b3 b4 b5 b6 fw fd)) w1) : HC8 w.heap.size 0 b1 b2 b3 b4 b5 b6 fw fd w1 := by
 have e := (hb.block w.heap.size (by omega)).trans (blk_new w (OBH b1 b2 b3 b4 b5 b6 fw fd))
 exact ⟨blk_cell e 0, blk_cell e 1, blk_cell e 2, blk_cell e 3, blk_cell e 4, blk_cell e 5, blk_cell e 6, blk_cell e 7⟩
set_option maxHeartbeats 8000000 in
set_option maxRecDepth 100000 in
set_option linter.unusedVariables false in
set_option linter.unusedSimpArgs false in
theorem out_check (c : Md.Call) (s : Md.State) (u : SlV) (w : World) (E : Int) (hE : E ≠ 0)
 (HCK : ∀ w1, Below w.heap.size w w1 → Calls Try.prog 11 #[.agg #[I64 s.now, .bool s.shut, valS u]] w1 fun e w' => e = .returned (I64 E) ∧ Below w1.heap.size w1 w') :
 Calls Try.prog 20 #[.agg #[I64 s.now, .bool s.shut, valS u], valCall c] w fun e w' => e = .returned (.tuple #[.slice none 0 0, I64 E]) ∧ Below w.heap.size w w' := by
 obtain ⟨hbA, hcc⟩ := cc_new s u c w
 unfold OB3 OB8 at hbA hcc
 obtain ⟨⟨ua, un, uc⟩, hu0⟩ : ∃ x, x = u := ⟨_, rfl⟩
 obtain ⟨wA, hwA⟩ : ∃ x, x = (w.alloc (.cells #[I64 s.now, .bool s.shut, valS u] 26)).alloc (.cells #[I64 c.kind, I64 c.backend, I64 c.call, I64 c.conn, I64 c.time, .bool c.yes, I64 c.skip, I64 c.breaker] 36) := ⟨_, rfl⟩
 obtain ⟨B, hB⟩ : ∃ x, x = w.heap.size := ⟨_, rfl⟩
 rw [← hwA] at hbA hcc
 have HBA := Lib.hid hbA
 have HCC := Lib.hid hcc
 rw [← hB] at HCC
 have HCK' := Lib.hid (HCK wA hbA)
 have HBs := Lib.hid hB
 unfold valCall at *
 subst hu0
 unfold valS at *
 dsimp only at *
 clear hbA hcc HCK
 have z0 : ((E : Int) == 0) = false := by rw [beq_eq_false_iff_ne]; exact hE
 clear HCC HBs hB hE
 go_enter Try.func20, Try.ntmps20
 go_wp2_with fail
 simp only [← hwA]
 refine HCK'.out.mono ?_
 rintro e w2 ⟨rfl, hb2⟩
 have HFIN := Lib.hid (HBA.out.trans (hb2.mono HBA.out.size))
 go_wp2
 go_ret2
 exact ⟨rfl, HFIN.out⟩
set_option maxHeartbeats 8000000 in
set_option maxRecDepth 100000 in
set_option linter.unusedVariables false in
set_option linter.unusedSimpArgs false in
theorem out_kind (c : Md.Call) (s : Md.State) (u : SlV) (w : World) (hk : c.kind < 1 ∨ 11 ≤ c.kind)
 (HCK : ∀ w1, Below w.heap.size w w1 → Calls Try.prog 11 #[.agg #[I64 s.now, .bool s.shut, valS u]] w1 fun e w' => e = .returned (I64 0) ∧ Below w1.heap.size w1 w') :
 Calls Try.prog 20 #[.agg #[I64 s.now, .bool s.shut, valS u], valCall c] w fun e w' => e = .returned (.tuple #[.slice none 0 0, I64 2]) ∧ Below w.heap.size w w' := by
 obtain ⟨hbA, hcc⟩ := cc_new s u c w
 unfold OB3 OB8 at hbA hcc
 obtain ⟨⟨ua, un, uc⟩, hu0⟩ : ∃ x, x = u := ⟨_, rfl⟩
 obtain ⟨wA, hwA⟩ : ∃ x, x = (w.alloc (.cells #[I64 s.now, .bool s.shut, valS u] 26)).alloc (.cells #[I64 c.kind, I64 c.backend, I64 c.call, I64 c.conn, I64 c.time, .bool c.yes, I64 c.skip, I64 c.breaker] 36) := ⟨_, rfl⟩
 obtain ⟨B, hB⟩ : ∃ x, x = w.heap.size := ⟨_, rfl⟩
 rw [← hwA] at hbA hcc
 have HBA := Lib.hid hbA
 have HCC := Lib.hid hcc
 rw [← hB] at HCC
 have HCK' := Lib.hid (HCK wA hbA)
 have HBs := Lib.hid hB
 unfold valCall at *
 subst hu0
 unfold valS at *
 dsimp only at *
 clear hbA hcc HCK
 go_enter Try.func20, Try.ntmps20
 go_wp2_with fail
 simp only [← hwA, ← hB]
 clear hwA hB
 refine HCK'.out.mono ?_
 rintro e w2 ⟨rfl, hb2⟩
 have HB2 := Lib.hid hb2
 clear hb2
 go_wp2_with fail
 refine (handlers_any w2).mono ?_
 rintro e w3 ⟨rfl, hh, hb3⟩
 have hb3A := HB2.out.trans (hb3.mono HB2.out.size)
 have HB3 := Lib.hid hb3A
 obtain ⟨o0, o1, o2, o3, o4, o5, o6, o7, o8, o9, o10⟩ := HCC.out w3 hb3A
 unfold valS at o2
 dsimp only at o2
 have HFIN := Lib.hid (HBA.out.trans (hb3A.mono HBA.out.size))
 clear hh hb3 hb3A
 by_cases hk1 : c.kind < 1
 · have z1 : decide (c.kind < 1) = true := decide_eq_true hk1
   clear hk
   go_wp2
   go_ret2
   exact ⟨rfl, HFIN.out⟩
 · have hk2 : 11 ≤ c.kind := by omega
   have z1 : decide (c.kind < 1) = false := decide_eq_false hk1
   have z2 : decide (11 ≤ c.kind) = true := decide_eq_true hk2
   clear hk
   go_wp2
   go_ret2
   exact ⟨rfl, HFIN.out⟩
set_option maxHeartbeats 8000000 in
set_option maxRecDepth 100000 in
set_option linter.unusedVariables false in
set_option linter.unusedSimpArgs false in
theorem out_bad (c : Md.Call) (s : Md.State) (u : SlV) (w : World) (k nw nd : Nat) (b1 b2 b3 b4 b5 b6 : Bool) (hk : 1 ≤ k) (hk2 : k ≤ 10) (hck : c.kind = (k : Int)) (hrow : hRow k = [.bool b1, .bool b2, .bool b3, .bool b4, .bool b5, .bool b6, .func (.func nw) #[] #[], .func (.func nd) #[] #[]])
 (HCK : ∀ w1, Below w.heap.size w w1 → Calls Try.prog 11 #[.agg #[I64 s.now, .bool s.shut, valS u]] w1 fun e w' => e = .returned (I64 0) ∧ Below w1.heap.size w1 w')
 (HF : ∀ w1, Calls Try.prog 35 #[.agg #[.bool b1, .bool b2, .bool b3, .bool b4, .bool b5, .bool b6, .func (.func nw) #[] #[], .func (.func nd) #[] #[]], .agg #[I64 s.now, .bool s.shut, valS u], valCall c] w1 fun e w' => e = .returned (.bool true) ∧ Below w1.heap.size w1 w') :
 Calls Try.prog 20 #[.agg #[I64 s.now, .bool s.shut, valS u], valCall c] w fun e w' => e = .returned (.tuple #[.slice none 0 0, I64 2]) ∧ Below w.heap.size w w' := by
 obtain ⟨hbA, hcc⟩ := cc_new s u c w
 unfold OB3 OB8 at hbA hcc
 obtain ⟨⟨ua, un, uc⟩, hu0⟩ : ∃ x, x = u := ⟨_, rfl⟩
 obtain ⟨wA, hwA⟩ : ∃ x, x = (w.alloc (.cells #[I64 s.now, .bool s.shut, valS u] 26)).alloc (.cells #[I64 c.kind, I64 c.backend, I64 c.call, I64 c.conn, I64 c.time, .bool c.yes, I64 c.skip, I64 c.breaker] 36) := ⟨_, rfl⟩
 obtain ⟨B, hB⟩ : ∃ x, x = w.heap.size := ⟨_, rfl⟩
 rw [← hwA] at hbA hcc
 have HBA := Lib.hid hbA
 have HCC := Lib.hid hcc
 rw [← hB] at HCC
 have HCK' := Lib.hid (HCK wA hbA)
 have HBs := Lib.hid hB
 unfold valCall at *
 subst hu0
 unfold valS at *
 dsimp only at *
 clear hbA hcc HCK
 have HF' := Lib.hid HF
 have HKK := Lib.hid hck
 have HROW := Lib.hid hrow
 clear HF hck hrow
 go_enter Try.func20, Try.ntmps20
 go_wp2_with fail
 simp only [← hwA, ← hB]
 clear hwA hB
 refine HCK'.out.mono ?_
 rintro e w2 ⟨rfl, hb2⟩
 have HB2 := Lib.hid hb2
 clear hb2
 go_wp2_with fail
 refine (handlers_any w2).mono ?_
 rintro e w3 ⟨rfl, hh, hb3⟩
 have hb3A := HB2.out.trans (hb3.mono HB2.out.size)
 have HB3 := Lib.hid hb3A
 have z1 : ¬ ((k : Nat) : Int) < 1 := by omega
 have z1b : decide (((k : Nat) : Int) < 1) = false := decide_eq_false z1
 have z2 : ¬ (11 : Int) ≤ (k : Int) := by omega
 have z2b : decide ((11 : Int) ≤ (k : Int)) = false := decide_eq_false z2
 have z3 : ((k : Nat) : Int) < 11 := by omega
 have HH8 := hc8 hh (k := k) (by omega) HROW.out
 have hal := (Below.refl w3.heap.size w3).alloc (Nat.le_refl _) (OBH b1 b2 b3 b4 b5 b6 (.func (.func nw) #[] #[]) (.func (.func nd) #[] #[]))
 have hb4A := hb3A.trans (hal.mono hb3A.size)
 have HB4 := Lib.hid hb4A
 unfold OBH at hb4A
 obtain ⟨o0, o1, o2, o3, o4, o5, o6, o7, o8, o9, o10⟩ := HCC.out w3 hb3A
 unfold valS at o2
 dsimp only at o2
 obtain ⟨p0, p1, p2, p3, p4, p5, p6, p7, p8, p9, p10⟩ := HCC.out _ hb4A
 unfold valS at p2
 dsimp only at p2
 rw [HKK.out] at o3
 obtain ⟨h0, h1, h2, h3, h4, h5, h6, h7⟩ := HH8
 clear hh hb3 hb3A hal hb4A HKK HROW
 go_wp2_with fail
 refine (HF'.out _).mono ?_
 rintro e w5 ⟨rfl, hb5⟩
 have HFIN := Lib.hid (HBA.out.trans ((HB4.out.trans (hb5.mono HB4.out.size)).mono HBA.out.size))
 clear o0 o1 o2 o3 o4 o5 o6 o7 o8 o9 o10
 clear p0 p1 p2 p3 p4 p5 p6 p7 p8 p9 p10
 clear h0 h1 h2 h3 h4 h5 h6 h7
 go_wp2
 go_ret2
 exact ⟨rfl, HFIN.out⟩
set_option maxHeartbeats 8000000 in
set_option maxRecDepth 100000 in
set_option linter.unusedVariables false in
set_option linter.unusedSimpArgs false in
theorem out_bad7 (c : Md.Call) (s : Md.State) (u : SlV) (w : World) (k nw nd : Nat) (b1 b2 b3 b4 b5 b6 : Bool) (hk : 1 ≤ k) (hk2 : k ≤ 10) (hck : c.kind = (k : Int)) (hrow : hRow k = [.bool b1, .bool b2, .bool b3, .bool b4, .bool b5, .bool b6, .func (.func nw) #[] #[], Value.nilFunc])
 (HCK : ∀ w1, Below w.heap.size w w1 → Calls Try.prog 11 #[.agg #[I64 s.now, .bool s.shut, valS u]] w1 fun e w' => e = .returned (I64 0) ∧ Below w1.heap.size w1 w')
 (HF : ∀ w1, Calls Try.prog 35 #[.agg #[.bool b1, .bool b2, .bool b3, .bool b4, .bool b5, .bool b6, .func (.func nw) #[] #[], Value.nilFunc], .agg #[I64 s.now, .bool s.shut, valS u], valCall c] w1 fun e w' => e = .returned (.bool true) ∧ Below w1.heap.size w1 w') :
 Calls Try.prog 20 #[.agg #[I64 s.now, .bool s.shut, valS u], valCall c] w fun e w' => e = .returned (.tuple #[.slice none 0 0, I64 2]) ∧ Below w.heap.size w w' := by
 obtain ⟨hbA, hcc⟩ := cc_new s u c w
 unfold OB3 OB8 at hbA hcc
 obtain ⟨⟨ua, un, uc⟩, hu0⟩ : ∃ x, x = u := ⟨_, rfl⟩
 obtain ⟨wA, hwA⟩ : ∃ x, x = (w.alloc (.cells #[I64 s.now, .bool s.shut, valS u] 26)).alloc (.cells #[I64 c.kind, I64 c.backend, I64 c.call, I64 c.conn, I64 c.time, .bool c.yes, I64 c.skip, I64 c.breaker] 36) := ⟨_, rfl⟩
 obtain ⟨B, hB⟩ : ∃ x, x = w.heap.size := ⟨_, rfl⟩
 rw [← hwA] at hbA hcc
 have HBA := Lib.hid hbA
 have HCC := Lib.hid hcc
 rw [← hB] at HCC
 have HCK' := Lib.hid (HCK wA hbA)
 have HBs := Lib.hid hB
 unfold valCall at *
 subst hu0
 unfold valS at *
 dsimp only at *
 clear hbA hcc HCK
 have HF' := Lib.hid HF
 have HKK := Lib.hid hck
 have HROW := Lib.hid hrow
 clear HF hck hrow
 go_enter Try.func20, Try.ntmps20
 go_wp2_with fail
 simp only [← hwA, ← hB]
 clear hwA hB
 refine HCK'.out.mono ?_
 rintro e w2 ⟨rfl, hb2⟩
 have HB2 := Lib.hid hb2
 clear hb2
 go_wp2_with fail
 refine (handlers_any w2).mono ?_
 rintro e w3 ⟨rfl, hh, hb3⟩
 have hb3A := HB2.out.trans (hb3.mono HB2.out.size)
 have HB3 := Lib.hid hb3A
 have z1 : ¬ ((k : Nat) : Int) < 1 := by omega
 have z1b : decide (((k : Nat) : Int) < 1) = false := decide_eq_false z1
 have z2 : ¬ (11 : Int) ≤ (k : Int) := by omega
 have z2b : decide ((11 : Int) ≤ (k : Int)) = false := decide_eq_false z2
 have z3 : ((k : Nat) : Int) < 11 := by omega
 have HH8 := hc8 hh (k := k) (by omega) HROW.out
 have hal := (Below.refl w3.heap.size w3).alloc (Nat.le_refl _) (OBH b1 b2 b3 b4 b5 b6 (.func (.func nw) #[] #[]) (Value.nilFunc))
 have hb4A := hb3A.trans (hal.mono hb3A.size)
 have HB4 := Lib.hid hb4A
 unfold OBH at hb4A
 obtain ⟨o0, o1, o2, o3, o4, o5, o6, o7, o8, o9, o10⟩ := HCC.out w3 hb3A
 unfold valS at o2
 dsimp only at o2
 obtain ⟨p0, p1, p2, p3, p4, p5, p6, p7, p8, p9, p10⟩ := HCC.out _ hb4A
 unfold valS at p2
 dsimp only at p2
 rw [HKK.out] at o3
 obtain ⟨h0, h1, h2, h3, h4, h5, h6, h7⟩ := HH8
 clear hh hb3 hb3A hal hb4A HKK HROW
 go_wp2_with fail
 refine (HF'.out _).mono ?_
 rintro e w5 ⟨rfl, hb5⟩
 have HFIN := Lib.hid (HBA.out.trans ((HB4.out.trans (hb5.mono HB4.out.size)).mono HBA.out.size))
 clear o0 o1 o2 o3 o4 o5 o6 o7 o8 o9 o10
 clear p0 p1 p2 p3 p4 p5 p6 p7 p8 p9 p10
 clear h0 h1 h2 h3 h4 h5 h6 h7
 go_wp2
 go_ret2
 exact ⟨rfl, HFIN.out⟩
set_option maxHeartbeats 8000000 in
set_option maxRecDepth 100000 in
set_option linter.unusedVariables false in
set_option linter.unusedSimpArgs false in
theorem out_wrong (c : Md.Call) (s : Md.State) (u : SlV) (w : World) (k nw nd : Nat) (b1 b2 b3 b4 b5 b6 : Bool) (hk : 1 ≤ k) (hk2 : k ≤ 10) (hck : c.kind = (k : Int)) (hrow : hRow k = [.bool b1, .bool b2, .bool b3, .bool b4, .bool b5, .bool b6, .func (.func nw) #[] #[], .func (.func nd) #[] #[]]) (E : Int) (hE : E ≠ 0)
 (HCK : ∀ w1, Below w.heap.size w w1 → Calls Try.prog 11 #[.agg #[I64 s.now, .bool s.shut, valS u]] w1 fun e w' => e = .returned (I64 0) ∧ Below w1.heap.size w1 w')
 (HF : ∀ w1, Calls Try.prog 35 #[.agg #[.bool b1, .bool b2, .bool b3, .bool b4, .bool b5, .bool b6, .func (.func nw) #[] #[], .func (.func nd) #[] #[]], .agg #[I64 s.now, .bool s.shut, valS u], valCall c] w1 fun e w' => e = .returned (.bool false) ∧ Below w1.heap.size w1 w')
 (HB : ∀ w1, Below w.heap.size w w1 → Calls Try.prog 36 #[.agg #[I64 s.now, .bool s.shut, valS u], valCall c] w1 fun e w' => ∃ R, e = .returned (.pointer (some ⟨R, 0, none⟩)) ∧ (∃ G cap pvs, RunV (fun i => w1.heap.size ≤ i) R c s [] (fun _ => True) (some ⟨G, 0, none⟩, s.pools.length, cap) (none, 0, 0) pvs w') ∧ w1.heap.size ≤ R ∧ Below w1.heap.size w1 w')
 (HIW : ∀ args w1, (callFunc nw args).run Try.prog w1 = .ok (.enter nw args) w1)
 (HW : ∀ (S : Nat → Prop) R G cap pvs w1, RunV S R c s [] (fun _ => True) (some ⟨G, 0, none⟩, s.pools.length, cap) (none, 0, 0) pvs w1 → Calls Try.prog nw #[.pointer (some ⟨R, 0, none⟩)] w1 fun e w' => e = .returned (I64 E) ∧ Below w1.heap.size w1 w') :
 Calls Try.prog 20 #[.agg #[I64 s.now, .bool s.shut, valS u], valCall c] w fun e w' => e = .returned (.tuple #[.slice none 0 0, I64 E]) ∧ Below w.heap.size w w' := by
 obtain ⟨hbA, hcc⟩ := cc_new s u c w
 unfold OB3 OB8 at hbA hcc
 obtain ⟨⟨ua, un, uc⟩, hu0⟩ : ∃ x, x = u := ⟨_, rfl⟩
 obtain ⟨wA, hwA⟩ : ∃ x, x = (w.alloc (.cells #[I64 s.now, .bool s.shut, valS u] 26)).alloc (.cells #[I64 c.kind, I64 c.backend, I64 c.call, I64 c.conn, I64 c.time, .bool c.yes, I64 c.skip, I64 c.breaker] 36) := ⟨_, rfl⟩
 obtain ⟨B, hB⟩ : ∃ x, x = w.heap.size := ⟨_, rfl⟩
 rw [← hwA] at hbA hcc
 have HBA := Lib.hid hbA
 have HCC := Lib.hid hcc
 rw [← hB] at HCC
 have HCK' := Lib.hid (HCK wA hbA)
 have HBs := Lib.hid hB
 unfold valCall at *
 subst hu0
 unfold valS at *
 dsimp only at *
 clear hbA hcc HCK
 have HF' := Lib.hid HF
 have HKK := Lib.hid hck
 have HROW := Lib.hid hrow
 clear HF hck hrow
 have HB' := Lib.hid HB
 have HW' := Lib.hid HW
 clear HB HW
 have z0 : ((E : Int) == 0) = false := by rw [beq_eq_false_iff_ne]; exact hE
 clear hE
 go_enter Try.func20, Try.ntmps20
 go_wp2_with fail
 simp only [← hwA, ← hB]
 clear hwA hB
 refine HCK'.out.mono ?_
 rintro e w2 ⟨rfl, hb2⟩
 have HB2 := Lib.hid hb2
 clear hb2
 go_wp2_with fail
 refine (handlers_any w2).mono ?_
 rintro e w3 ⟨rfl, hh, hb3⟩
 have hb3A := HB2.out.trans (hb3.mono HB2.out.size)
 have HB3 := Lib.hid hb3A
 have z1 : ¬ ((k : Nat) : Int) < 1 := by omega
 have z1b : decide (((k : Nat) : Int) < 1) = false := decide_eq_false z1
 have z2 : ¬ (11 : Int) ≤ (k : Int) := by omega
 have z2b : decide ((11 : Int) ≤ (k : Int)) = false := decide_eq_false z2
 have z3 : ((k : Nat) : Int) < 11 := by omega
 have HH8 := hc8 hh (k := k) (by omega) HROW.out
 have hal := (Below.refl w3.heap.size w3).alloc (Nat.le_refl _) (OBH b1 b2 b3 b4 b5 b6 (.func (.func nw) #[] #[]) (.func (.func nd) #[] #[]))
 have hb4A := hb3A.trans (hal.mono hb3A.size)
 have HB4 := Lib.hid hb4A
 unfold OBH at hb4A
 obtain ⟨o0, o1, o2, o3, o4, o5, o6, o7, o8, o9, o10⟩ := HCC.out w3 hb3A
 unfold valS at o2
 dsimp only at o2
 obtain ⟨p0, p1, p2, p3, p4, p5, p6, p7, p8, p9, p10⟩ := HCC.out _ hb4A
 unfold valS at p2
 dsimp only at p2
 rw [HKK.out] at o3
 obtain ⟨h0, h1, h2, h3, h4, h5, h6, h7⟩ := HH8
 clear hh hb3 hb3A hal hb4A HKK HROW
 go_wp2_with fail
 refine (HF'.out _).mono ?_
 rintro e w5 ⟨rfl, hb5⟩
 have hb5A := HB4.out.trans (hb5.mono HB4.out.size)
 have hb5W := HBA.out.trans (hb5A.mono HBA.out.size)
 have HB5 := Lib.hid hb5W
 clear o0 o1 o2 o3 o4 o5 o6 o7 o8 o9 o10
 clear p0 p1 p2 p3 p4 p5 p6 p7 p8 p9 p10
 obtain ⟨o0, o1, o2, o3, o4, o5, o6, o7, o8, o9, o10⟩ := HCC.out w5 hb5A
 unfold valS at o2
 dsimp only at o2
 clear hb5A h0 h1 h2 h3 h4 h5 h6 h7
 have HB5' := Lib.hid hb5
 clear hb5 hb5W
 go_wp2_with fail
 refine (HB'.out w5 HB5.out).mono ?_
 rintro e w6 ⟨R, rfl, ⟨G, cap, pvs, hrun⟩, hR, hb6⟩
 have hb5 := HB5'.out
 have hb6T : Below (w3.heap.size + 1) (w3.alloc (OBH b1 b2 b3 b4 b5 b6 (.func (.func nw) #[] #[]) (.func (.func nd) #[] #[]))) w6 := by
  have := hb5.trans (hb6.mono hb5.size)
  unfold OBH
  simpa using this
 have hb6W := HB5.out.trans (hb6.mono HB5.out.size)
 have HB6 := Lib.hid hb6W
 have HB6T := Lib.hid hb6T
 have HRUN := Lib.hid hrun
 have HB65 := Lib.hid hb6
 obtain ⟨h0, h1, h2, h3, h4, h5, h6, h7⟩ := hc8_new hb6T
 clear o0 o1 o2 o3 o4 o5 o6 o7 o8 o9 o10
 clear hb5 hb6T hb6W hrun hb6 h0 h1 h2 h3 h4 h5 h7
 go_wp2_with fail
 refine (HW'.out _ R G cap pvs w6 HRUN.out).mono ?_
 rintro e w7 ⟨rfl, hb7⟩
 have HFIN := Lib.hid (HB6.out.trans (hb7.mono HB6.out.size))
 clear h6 hb7
 go_wp2
 go_ret2
 exact ⟨rfl, HFIN.out⟩
/-- What the last region reads. -/
def OS (T R : Nat) (x : OutV) (w : World) : Prop := w.cell? ⟨T, 0, none⟩ = some (I64 x.1.1) ∧ w.cell? ⟨T, 1, none⟩ = some (I64 x.1.2.1) ∧ w.cell? ⟨T, 2, none⟩ = some (I64 x.1.2.2) ∧
 w.cell? ⟨R, 0, none⟩ = some (I64 x.2.2.1) ∧ w.cell? ⟨R, 1, none⟩ = some (.bool x.2.2.2.1) ∧ w.cell? ⟨R, 2, none⟩ = some (valS x.2.2.2.2) ∧ w.cell? ⟨R, 11, none⟩ = some (valS x.2.1)
set_option maxHeartbeats 8000000 in
set_option maxRecDepth 100000 in
set_option linter.unusedVariables false in
set_option linter.unusedSimpArgs false in
theorem out_do (c : Md.Call) (s : Md.State) (u : SlV) (w : World) (k nw nd : Nat) (b1 b2 b3 b4 b5 b6 : Bool) (hk : 1 ≤ k) (hk2 : k ≤ 10) (hck : c.kind = (k : Int)) (hrow : hRow k = [.bool b1, .bool b2, .bool b3, .bool b4, .bool b5, .bool b6, .func (.func nw) #[] #[], .func (.func nd) #[] #[]]) (o : Md.Outcome)
 (HCK : ∀ w1, Below w.heap.size w w1 → Calls Try.prog 11 #[.agg #[I64 s.now, .bool s.shut, valS u]] w1 fun e w' => e = .returned (I64 0) ∧ Below w1.heap.size w1 w')
 (HF : ∀ w1, Calls Try.prog 35 #[.agg #[.bool b1, .bool b2, .bool b3, .bool b4, .bool b5, .bool b6, .func (.func nw) #[] #[], .func (.func nd) #[] #[]], .agg #[I64 s.now, .bool s.shut, valS u], valCall c] w1 fun e w' => e = .returned (.bool false) ∧ Below w1.heap.size w1 w')
 (HB : ∀ w1, Below w.heap.size w w1 → Calls Try.prog 36 #[.agg #[I64 s.now, .bool s.shut, valS u], valCall c] w1 fun e w' => ∃ R, e = .returned (.pointer (some ⟨R, 0, none⟩)) ∧ (∃ G cap pvs, RunV (fun i => w1.heap.size ≤ i) R c s [] (fun _ => True) (some ⟨G, 0, none⟩, s.pools.length, cap) (none, 0, 0) pvs w') ∧ w1.heap.size ≤ R ∧ Below w1.heap.size w1 w')
 (HIW : ∀ args w1, (callFunc nw args).run Try.prog w1 = .ok (.enter nw args) w1)
 (HW : ∀ (S : Nat → Prop) R G cap pvs w1, RunV S R c s [] (fun _ => True) (some ⟨G, 0, none⟩, s.pools.length, cap) (none, 0, 0) pvs w1 → Calls Try.prog nw #[.pointer (some ⟨R, 0, none⟩)] w1 fun e w' => e = .returned (I64 0) ∧ Below w1.heap.size w1 w')
 (HID : ∀ args w1, (callFunc nd args).run Try.prog w1 = .ok (.enter nd args) w1)
 (HD : ∀ (S : Nat → Prop) R G cap pvs w1, RunV S R c s [] (fun _ => True) (some ⟨G, 0, none⟩, s.pools.length, cap) (none, 0, 0) pvs w1 → Calls Try.prog nd #[.pointer (some ⟨R, 0, none⟩)] w1 fun e w' => e = .returned (agg3 o.result) ∧ (∃ W, RunE S R c o.next o.effects W G s.pools.length cap w') ∧ Gb S w1 w') :
 Calls Try.prog 20 #[.agg #[I64 s.now, .bool s.shut, valS u], valCall c] w fun e w' => (∃ v, e = .returned (.tuple #[v, I64 0]) ∧ OutsRd w.heap.size w' v [o]) ∧ Below w.heap.size w w' := by
 obtain ⟨⟨r1, r2, r3⟩, es, ⟨nn, ns, np⟩⟩ := o
 unfold agg3 at HD
 dsimp only at HD
 obtain ⟨hbA, hcc⟩ := cc_new s u c w
 unfold OB3 OB8 at hbA hcc
 obtain ⟨⟨ua, un, uc⟩, hu0⟩ : ∃ x, x = u := ⟨_, rfl⟩
 obtain ⟨wA, hwA⟩ : ∃ x, x = (w.alloc (.cells #[I64 s.now, .bool s.shut, valS u] 26)).alloc (.cells #[I64 c.kind, I64 c.backend, I64 c.call, I64 c.conn, I64 c.time, .bool c.yes, I64 c.skip, I64 c.breaker] 36) := ⟨_, rfl⟩
 obtain ⟨B, hB⟩ : ∃ x, x = w.heap.size := ⟨_, rfl⟩
 rw [← hwA] at hbA hcc
 have HBA := Lib.hid hbA
 have HCC := Lib.hid hcc
 rw [← hB] at HCC
 have HCK' := Lib.hid (HCK wA hbA)
 have HBs := Lib.hid hB
 unfold valCall at *
 subst hu0
 unfold valS at *
 dsimp only at *
 clear hbA hcc HCK
 have HF' := Lib.hid HF
 have HKK := Lib.hid hck
 have HROW := Lib.hid hrow
 clear HF hck hrow
 have HB' := Lib.hid HB
 have HW' := Lib.hid HW
 have HD' := Lib.hid HD
 clear HB HW HD
 have heq : ∀ w1, (binOp .eql 104 (.func (.func nd) #[] #[]) .nilFunc).run Try.prog w1 = .ok (.bool false) w1 := fun w1 => by kernel_rfl
 go_enter Try.func20, Try.ntmps20
 go_wp2_with fail
 simp only [← hwA, ← hB]
 clear hwA hB
 refine HCK'.out.mono ?_
 rintro e w2 ⟨rfl, hb2⟩
 have HB2 := Lib.hid hb2
 clear hb2
 go_wp2_with fail
 refine (handlers_any w2).mono ?_
 rintro e w3 ⟨rfl, hh, hb3⟩
 have hb3A := HB2.out.trans (hb3.mono HB2.out.size)
 have HB3 := Lib.hid hb3A
 have z1 : ¬ ((k : Nat) : Int) < 1 := by omega
 have z1b : decide (((k : Nat) : Int) < 1) = false := decide_eq_false z1
 have z2 : ¬ (11 : Int) ≤ (k : Int) := by omega
 have z2b : decide ((11 : Int) ≤ (k : Int)) = false := decide_eq_false z2
 have z3 : ((k : Nat) : Int) < 11 := by omega
 have HH8 := hc8 hh (k := k) (by omega) HROW.out
 have hal := (Below.refl w3.heap.size w3).alloc (Nat.le_refl _) (OBH b1 b2 b3 b4 b5 b6 (.func (.func nw) #[] #[]) (.func (.func nd) #[] #[]))
 have hb4A := hb3A.trans (hal.mono hb3A.size)
 have HB4 := Lib.hid hb4A
 unfold OBH at hb4A
 obtain ⟨o0, o1, o2, o3, o4, o5, o6, o7, o8, o9, o10⟩ := HCC.out w3 hb3A
 unfold valS at o2
 dsimp only at o2
 obtain ⟨p0, p1, p2, p3, p4, p5, p6, p7, p8, p9, p10⟩ := HCC.out _ hb4A
 unfold valS at p2
 dsimp only at p2
 rw [HKK.out] at o3
 obtain ⟨h0, h1, h2, h3, h4, h5, h6, h7⟩ := HH8
 clear hh hb3 hb3A hal hb4A HKK HROW
 go_wp2_with fail
 refine (HF'.out _).mono ?_
 rintro e w5 ⟨rfl, hb5⟩
 have hb5A := HB4.out.trans (hb5.mono HB4.out.size)
 have hb5W := HBA.out.trans (hb5A.mono HBA.out.size)
 have HB5 := Lib.hid hb5W
 clear o0 o1 o2 o3 o4 o5 o6 o7 o8 o9 o10
 clear p0 p1 p2 p3 p4 p5 p6 p7 p8 p9 p10
 obtain ⟨o0, o1, o2, o3, o4, o5, o6, o7, o8, o9, o10⟩ := HCC.out w5 hb5A
 unfold valS at o2
 dsimp only at o2
 clear hb5A h0 h1 h2 h3 h4 h5 h6 h7
 have HB5' := Lib.hid hb5
 clear hb5 hb5W
 go_wp2_with fail
 refine (HB'.out w5 HB5.out).mono ?_
 rintro e w6 ⟨R, rfl, ⟨G, cap, pvs, hrun⟩, hR, hb6⟩
 have hb5 := HB5'.out
 have hb6T : Below (w3.heap.size + 1) (w3.alloc (OBH b1 b2 b3 b4 b5 b6 (.func (.func nw) #[] #[]) (.func (.func nd) #[] #[]))) w6 := by
  have := hb5.trans (hb6.mono hb5.size)
  unfold OBH
  simpa using this
 have hb6W := HB5.out.trans (hb6.mono HB5.out.size)
 have HB6 := Lib.hid hb6W
 have HB6T := Lib.hid hb6T
 have HRUN := Lib.hid hrun
 have HB65 := Lib.hid hb6
 obtain ⟨h0, h1, h2, h3, h4, h5, h6, h7⟩ := hc8_new hb6T
 clear o0 o1 o2 o3 o4 o5 o6 o7 o8 o9 o10
 clear hb5 hb6T hb6W hrun hb6 h0 h1 h2 h3 h4 h5 h7
 go_wp2_with fail
 refine (HW'.out _ R G cap pvs w6 HRUN.out).mono ?_
 rintro e w7 ⟨rfl, hb7⟩
 have hi7 := hc8_new (HB6T.out.trans (hb7.mono (by have := HB6T.out.size; simp at this ⊢; omega)))
 have hrun7 := HRUN.out.below hb7
 have HRUN7 := Lib.hid hrun7
 have HB76 := Lib.hid hb7
 obtain ⟨h0, h1, h2, h3, h4, h5, -, h7⟩ := hi7
 clear h0 h1 h2 h3 h4 h5 h6 hb7 hrun7
 go_wp2_with fail
 refine (HD'.out _ R G cap pvs w7 HRUN7.out).mono ?_
 rintro e w8 ⟨rfl, ⟨W, hE⟩, hG⟩
 clear h7 heq
 have hb87 : Below w5.heap.size w7 w8 := hG.below (by have := HB65.out.size; have := HB76.out.size; omega) (fun _ h => h)
 obtain ⟨⟨ea, en, ec⟩, eblk, ehl⟩ := hE.stateM (M := w.heap.size) (fun k hk => Nat.le_trans HB5.out.size hk)
 have hal := (Below.refl w8.heap.size w8).alloc (Nat.le_refl _) (.cells #[I64 r1, I64 r2, I64 r3] 31)
 have hbn := blk_new w8 (.cells #[I64 r1, I64 r2, I64 r3] 31)
 have hbR := (hal.block R (by
  rcases Nat.lt_or_ge R w8.heap.size with h | h
  · exact h
  · rw [Array.getElem?_eq_none h] at eblk
    cases eblk)).trans eblk
 have H8 : Hid (Below w.heap.size w w8) := HB6.out.trans ((HB76.out.mono HB6.out.size).trans (hb87.mono HB5.out.size))
 obtain ⟨w9, hw9⟩ : ∃ x, x = w8.alloc (.cells #[I64 r1, I64 r2, I64 r3] 31) := ⟨_, rfl⟩
 obtain ⟨T, hT⟩ : ∃ x, x = w8.heap.size := ⟨_, rfl⟩
 rw [← hw9] at hal hbn hbR
 rw [← hT] at hbn
 have h9s : w9.heap.size = w8.heap.size + 1 := by rw [hw9]; simp
 have HOS : Hid (OS T R ((r1, r2, r3), (ea, en, ec), nn, ns, (some ⟨G, 0, none⟩, s.pools.length, cap)) w9.drew) := ⟨blk_cell hbn 0, blk_cell hbn 1, blk_cell hbn 2, blk_cell hbR 0, blk_cell hbR 1, blk_cell hbR 2, blk_cell hbR 11⟩
 obtain ⟨O, hO⟩ : ∃ x : Obj, x = .cells #[I64 r1, I64 r2, I64 r3, .slice ea en ec, I64 nn, .bool ns, .slice (some ⟨G, 0, none⟩) s.pools.length cap] 78 := ⟨_, rfl⟩
 have hal2 := (Below.refl w9.drew.heap.size w9.drew).alloc (Nat.le_refl _) O
 have HOS2 : Hid (OS T R ((r1, r2, r3), (ea, en, ec), nn, ns, (some ⟨G, 0, none⟩, s.pools.length, cap)) (w9.drew.alloc O)) := by
  obtain ⟨a0, a1, a2, a3, a4, a5, a6⟩ := HOS.out
  exact ⟨(hal2.cell (p := ⟨T, _, none⟩) (cell_lt a0)).trans a0, (hal2.cell (p := ⟨T, _, none⟩) (cell_lt a1)).trans a1, (hal2.cell (p := ⟨T, _, none⟩) (cell_lt a2)).trans a2, (hal2.cell (p := ⟨R, _, none⟩) (cell_lt a3)).trans a3, (hal2.cell (p := ⟨R, _, none⟩) (cell_lt a4)).trans a4, (hal2.cell (p := ⟨R, _, none⟩) (cell_lt a5)).trans a5, (hal2.cell (p := ⟨R, _, none⟩) (cell_lt a6)).trans a6⟩
 have hor : OutNew w.heap.size w9.drew ((r1, r2, r3), (ea, en, ec), nn, ns, (some ⟨G, 0, none⟩, s.pools.length, cap)) ⟨(r1, r2, r3), es, ⟨nn, ns, np⟩⟩ := fun w2 hg => by
  have q := ehl w2 ((Gb.of_below hal.drew).trans hg)
  exact ⟨rfl, q.2, rfl, rfl, q.1⟩
 have HFIN : Hid ((∃ v, Ending.returned (.tuple #[.slice (some ⟨w9.drew.heap.size, 0, none⟩) 1 1, I64 0]) = .returned (.tuple #[v, I64 0]) ∧ OutsRd w.heap.size (w9.drew.alloc O) v [⟨(r1, r2, r3), es, ⟨nn, ns, np⟩⟩]) ∧ Below w.heap.size w (w9.drew.alloc O)) := by
  refine ⟨⟨_, rfl, ?_⟩, (H8.out.trans (hal.mono H8.out.size)).drew.trans (hal2.mono (by have := H8.out.size; show w.heap.size ≤ w9.heap.size; omega))⟩
  rw [hO]
  exact OutsRd.one hor (by have := H8.out.size; show w.heap.size ≤ w9.heap.size; omega) _
 rw [hO] at HFIN HOS2
 clear hO hal2 hor hbn hbR hal hb87 eblk ehl hE hG h9s O
 go_wp2_with fail
 simp only [← hw9, ← hT]
 clear hw9 hT
 refine wp_region_held_drew (S := OS T R ((r1, r2, r3), (ea, en, ec), nn, ns, (some ⟨G, 0, none⟩, s.pools.length, cap))) (by kernel_rfl) HOS.out (fun hHeld => ?_)
 refine tk 0 (v := ?vv0_1) (dropAt rfl) (Or.inl ⟨by rfl, ?hv0_1⟩) hHeld ?rv0_1
 case hv0_1 => (intro w hSw; unfold OS valS at hSw; obtain ⟨hS0, hS1, hS2, hS3, hS4, hS5, hS6⟩ := hSw; go_simp; first | done | with_reducible rfl)
 try simp only [Act.put, pu2, pu3, pu4]
 refine tk 1 (v := ?vv1_2) (dropAt rfl) (Or.inl ⟨by rfl, ?hv1_2⟩) hHeld ?rv1_2
 case hv1_2 => (intro w hSw; unfold OS valS at hSw; obtain ⟨hS0, hS1, hS2, hS3, hS4, hS5, hS6⟩ := hSw; go_simp; first | done | with_reducible rfl)
 try simp only [Act.put, pu2, pu3, pu4]
 refine tk 2 (v := ?vv2_3) (dropAt rfl) (Or.inl ⟨by rfl, ?hv2_3⟩) hHeld ?rv2_3
 case hv2_3 => (intro w hSw; unfold OS valS at hSw; obtain ⟨hS0, hS1, hS2, hS3, hS4, hS5, hS6⟩ := hSw; go_simp; first | done | with_reducible rfl)
 try simp only [Act.put, pu2, pu3, pu4]
 refine tk 3 (v := ?vv3_4) (dropAt rfl) (Or.inl ⟨by rfl, ?hv3_4⟩) hHeld ?rv3_4
 case hv3_4 => (intro w hSw; unfold OS valS at hSw; obtain ⟨hS0, hS1, hS2, hS3, hS4, hS5, hS6⟩ := hSw; go_simp; first | done | with_reducible rfl)
 try simp only [Act.put, pu2, pu3, pu4]
 refine tk 4 (v := ?vv4_5) (dropAt rfl) (Or.inl ⟨by rfl, ?hv4_5⟩) hHeld ?rv4_5
 case hv4_5 => (intro w hSw; unfold OS valS at hSw; obtain ⟨hS0, hS1, hS2, hS3, hS4, hS5, hS6⟩ := hSw; go_simp; first | done | with_reducible rfl)
 try simp only [Act.put, pu2, pu3, pu4]
 refine tk 5 (v := ?vv5_6) (dropAt rfl) (Or.inl ⟨by rfl, ?hv5_6⟩) hHeld ?rv5_6
 case hv5_6 => (intro w hSw; unfold OS valS at hSw; obtain ⟨hS0, hS1, hS2, hS3, hS4, hS5, hS6⟩ := hSw; go_simp; first | done | with_reducible rfl)
 try simp only [Act.put, pu2, pu3, pu4]
 refine tk 6 (v := ?vv6_7) (dropAt rfl) (Or.inl ⟨by rfl, ?hv6_7⟩) hHeld ?rv6_7
 case hv6_7 => (intro w hSw; unfold OS valS at hSw; obtain ⟨hS0, hS1, hS2, hS3, hS4, hS5, hS6⟩ := hSw; go_simp; first | done | with_reducible rfl)
 try simp only [Act.put, pu2, pu3, pu4]
 refine tk 7 (v := ?vv7_8) (dropAt rfl) (Or.inl ⟨by rfl, ?hv7_8⟩) hHeld ?rv7_8
 case hv7_8 => (intro w hSw; unfold OS valS at hSw; obtain ⟨hS0, hS1, hS2, hS3, hS4, hS5, hS6⟩ := hSw; go_simp; first | done | with_reducible rfl)
 try simp only [Act.put, pu2, pu3, pu4]
 refine tk 8 (v := ?vv8_9) (dropAt rfl) (Or.inl ⟨by rfl, ?hv8_9⟩) hHeld ?rv8_9
 case hv8_9 => (intro w hSw; unfold OS valS at hSw; obtain ⟨hS0, hS1, hS2, hS3, hS4, hS5, hS6⟩ := hSw; go_simp; first | done | with_reducible rfl)
 try simp only [Act.put, pu2, pu3, pu4]
 refine tk 9 (v := ?vv9_10) (dropAt rfl) (Or.inl ⟨by rfl, ?hv9_10⟩) hHeld ?rv9_10
 case hv9_10 => (intro w hSw; unfold OS valS at hSw; obtain ⟨hS0, hS1, hS2, hS3, hS4, hS5, hS6⟩ := hSw; go_simp; first | done | with_reducible rfl)
 try simp only [Act.put, pu2, pu3, pu4]
 refine wpAnyH_ready (rs := [10]) (by kernel_rfl) (by simp) ?_
 refine AllReadyH.cons (o := _) (dropAt (r := _) rfl) (fun K hK => ?_) AllReadyH.nil
 go_simp
 refine hK.out _ _ HOS2.out (fun hHeld2 => ?_)
 clear hK K
 try simp only [Act.put, pu2, pu3, pu4]
 refine tk 11 (v := ?vv11_11) (dropAt rfl) (Or.inl ⟨by rfl, ?hv11_11⟩) hHeld2 ?rv11_11
 case hv11_11 => (intro w hSw; go_simp; first | done | with_reducible rfl)
 try simp only [Act.put, pu2, pu3, pu4]
 refine tk 12 (v := ?vv12_12) (dropAt rfl) (Or.inl ⟨by rfl, ?hv12_12⟩) hHeld2 ?rv12_12
 case hv12_12 => (intro w hSw; go_simp; first | done | with_reducible rfl)
 try simp only [Act.put, pu2, pu3, pu4]
 refine wpAnyH_done (by kernel_rfl) ?_ _
 go_wp2_with fail
 go_ret2
 exact HFIN.out
set_option maxHeartbeats 8000000 in
set_option maxRecDepth 100000 in
set_option linter.unusedVariables false in
set_option linter.unusedSimpArgs false in
theorem out_picks (c : Md.Call) (s : Md.State) (u : SlV) (w : World) (k nw : Nat) (b1 b2 b3 b4 b5 b6 : Bool) (hk : 1 ≤ k) (hk2 : k ≤ 10) (hck : c.kind = (k : Int)) (hrow : hRow k = [.bool b1, .bool b2, .bool b3, .bool b4, .bool b5, .bool b6, .func (.func nw) #[] #[], Value.nilFunc]) (l : List Md.Outcome)
 (HCK : ∀ w1, Below w.heap.size w w1 → Calls Try.prog 11 #[.agg #[I64 s.now, .bool s.shut, valS u]] w1 fun e w' => e = .returned (I64 0) ∧ Below w1.heap.size w1 w')
 (HF : ∀ w1, Calls Try.prog 35 #[.agg #[.bool b1, .bool b2, .bool b3, .bool b4, .bool b5, .bool b6, .func (.func nw) #[] #[], Value.nilFunc], .agg #[I64 s.now, .bool s.shut, valS u], valCall c] w1 fun e w' => e = .returned (.bool false) ∧ Below w1.heap.size w1 w')
 (HB : ∀ w1, Below w.heap.size w w1 → Calls Try.prog 36 #[.agg #[I64 s.now, .bool s.shut, valS u], valCall c] w1 fun e w' => ∃ R, e = .returned (.pointer (some ⟨R, 0, none⟩)) ∧ (∃ G cap pvs, RunV (fun i => w1.heap.size ≤ i) R c s [] (fun _ => True) (some ⟨G, 0, none⟩, s.pools.length, cap) (none, 0, 0) pvs w') ∧ w1.heap.size ≤ R ∧ Below w1.heap.size w1 w')
 (HIW : ∀ args w1, (callFunc nw args).run Try.prog w1 = .ok (.enter nw args) w1)
 (HW : ∀ (S : Nat → Prop) R G cap pvs w1, RunV S R c s [] (fun _ => True) (some ⟨G, 0, none⟩, s.pools.length, cap) (none, 0, 0) pvs w1 → Calls Try.prog nw #[.pointer (some ⟨R, 0, none⟩)] w1 fun e w' => e = .returned (I64 0) ∧ Below w1.heap.size w1 w')
 (HPK : ∀ w1, Below w.heap.size w w1 → Calls Try.prog 37 #[.agg #[I64 s.now, .bool s.shut, valS u], valCall c] w1 fun e w' => (∃ v, e = .returned v ∧ OutsRd w1.heap.size w' v l) ∧ Below w1.heap.size w1 w') :
 Calls Try.prog 20 #[.agg #[I64 s.now, .bool s.shut, valS u], valCall c] w fun e w' => (∃ v, e = .returned (.tuple #[v, I64 0]) ∧ OutsRd w.heap.size w' v l) ∧ Below w.heap.size w w' := by
 obtain ⟨hbA, hcc⟩ := cc_new s u c w
 unfold OB3 OB8 at hbA hcc
 obtain ⟨⟨ua, un, uc⟩, hu0⟩ : ∃ x, x = u := ⟨_, rfl⟩
 obtain ⟨wA, hwA⟩ : ∃ x, x = (w.alloc (.cells #[I64 s.now, .bool s.shut, valS u] 26)).alloc (.cells #[I64 c.kind, I64 c.backend, I64 c.call, I64 c.conn, I64 c.time, .bool c.yes, I64 c.skip, I64 c.breaker] 36) := ⟨_, rfl⟩
 obtain ⟨B, hB⟩ : ∃ x, x = w.heap.size := ⟨_, rfl⟩
 rw [← hwA] at hbA hcc
 have HBA := Lib.hid hbA
 have HCC := Lib.hid hcc
 rw [← hB] at HCC
 have HCK' := Lib.hid (HCK wA hbA)
 have HBs := Lib.hid hB
 unfold valCall at *
 subst hu0
 unfold valS at *
 dsimp only at *
 clear hbA hcc HCK
 have HF' := Lib.hid HF
 have HKK := Lib.hid hck
 have HROW := Lib.hid hrow
 clear HF hck hrow
 have HB' := Lib.hid HB
 have HW' := Lib.hid HW
 have HP' := Lib.hid HPK
 clear HB HW HPK
 have heq : ∀ w1, (binOp .eql 104 Value.nilFunc .nilFunc).run Try.prog w1 = .ok (.bool true) w1 := fun w1 => by kernel_rfl
 go_enter Try.func20, Try.ntmps20
 go_wp2_with fail
 simp only [← hwA, ← hB]
 clear hwA hB
 refine HCK'.out.mono ?_
 rintro e w2 ⟨rfl, hb2⟩
 have HB2 := Lib.hid hb2
 clear hb2
 go_wp2_with fail
 refine (handlers_any w2).mono ?_
 rintro e w3 ⟨rfl, hh, hb3⟩
 have hb3A := HB2.out.trans (hb3.mono HB2.out.size)
 have HB3 := Lib.hid hb3A
 have z1 : ¬ ((k : Nat) : Int) < 1 := by omega
 have z1b : decide (((k : Nat) : Int) < 1) = false := decide_eq_false z1
 have z2 : ¬ (11 : Int) ≤ (k : Int) := by omega
 have z2b : decide ((11 : Int) ≤ (k : Int)) = false := decide_eq_false z2
 have z3 : ((k : Nat) : Int) < 11 := by omega
 have HH8 := hc8 hh (k := k) (by omega) HROW.out
 have hal := (Below.refl w3.heap.size w3).alloc (Nat.le_refl _) (OBH b1 b2 b3 b4 b5 b6 (.func (.func nw) #[] #[]) (Value.nilFunc))
 have hb4A := hb3A.trans (hal.mono hb3A.size)
 have HB4 := Lib.hid hb4A
 unfold OBH at hb4A
 obtain ⟨o0, o1, o2, o3, o4, o5, o6, o7, o8, o9, o10⟩ := HCC.out w3 hb3A
 unfold valS at o2
 dsimp only at o2
 obtain ⟨p0, p1, p2, p3, p4, p5, p6, p7, p8, p9, p10⟩ := HCC.out _ hb4A
 unfold valS at p2
 dsimp only at p2
 rw [HKK.out] at o3
 obtain ⟨h0, h1, h2, h3, h4, h5, h6, h7⟩ := HH8
 clear hh hb3 hb3A hal hb4A HKK HROW
 go_wp2_with fail
 refine (HF'.out _).mono ?_
 rintro e w5 ⟨rfl, hb5⟩
 have hb5A := HB4.out.trans (hb5.mono HB4.out.size)
 have hb5W := HBA.out.trans (hb5A.mono HBA.out.size)
 have HB5 := Lib.hid hb5W
 clear o0 o1 o2 o3 o4 o5 o6 o7 o8 o9 o10
 clear p0 p1 p2 p3 p4 p5 p6 p7 p8 p9 p10
 obtain ⟨o0, o1, o2, o3, o4, o5, o6, o7, o8, o9, o10⟩ := HCC.out w5 hb5A
 unfold valS at o2
 dsimp only at o2
 clear hb5A h0 h1 h2 h3 h4 h5 h6 h7
 have HB5' := Lib.hid hb5
 clear hb5 hb5W
 go_wp2_with fail
 refine (HB'.out w5 HB5.out).mono ?_
 rintro e w6 ⟨R, rfl, ⟨G, cap, pvs, hrun⟩, hR, hb6⟩
 have hb5 := HB5'.out
 have hb6T : Below (w3.heap.size + 1) (w3.alloc (OBH b1 b2 b3 b4 b5 b6 (.func (.func nw) #[] #[]) (Value.nilFunc))) w6 := by
  have := hb5.trans (hb6.mono hb5.size)
  unfold OBH
  simpa using this
 have hb6W := HB5.out.trans (hb6.mono HB5.out.size)
 have HB6 := Lib.hid hb6W
 have HB6T := Lib.hid hb6T
 have HRUN := Lib.hid hrun
 have HB65 := Lib.hid hb6
 obtain ⟨h0, h1, h2, h3, h4, h5, h6, h7⟩ := hc8_new hb6T
 clear o0 o1 o2 o3 o4 o5 o6 o7 o8 o9 o10
 clear hb5 hb6T hb6W hrun hb6 h0 h1 h2 h3 h4 h5 h7
 go_wp2_with fail
 refine (HW'.out _ R G cap pvs w6 HRUN.out).mono ?_
 rintro e w7 ⟨rfl, hb7⟩
 have hi7 := hc8_new (HB6T.out.trans (hb7.mono (by have := HB6T.out.size; simp at this ⊢; omega)))
 have H7 : Hid (Below w.heap.size w w7) := HB6.out.trans (hb7.mono HB6.out.size)
 have h7A := (HB5'.out.trans (HB65.out.mono HB5'.out.size)).trans (hb7.mono (Nat.le_trans HB5'.out.size HB65.out.size))
 have h7B := HB4.out.trans (h7A.mono HB4.out.size)
 obtain ⟨o0, o1, o2, o3, o4, o5, o6, o7, o8, o9, o10⟩ := HCC.out w7 h7B
 unfold valS at o2
 dsimp only at o2
 obtain ⟨h0, h1, h2, h3, h4, h5, -, h7⟩ := hi7
 clear h0 h1 h2 h3 h4 h5 h6 hb7 h7A h7B
 go_wp2_with fail
 refine (HP'.out w7 H7.out).mono ?_
 rintro e w8 ⟨⟨v, rfl, hv⟩, hb8⟩
 have HFIN : Hid ((∃ v', Ending.returned (.tuple #[v, I64 0]) = .returned (.tuple #[v', I64 0]) ∧ OutsRd w.heap.size w8 v' l) ∧ Below w.heap.size w w8) := ⟨⟨_, rfl, hv.mono H7.out.size⟩, H7.out.trans (hb8.mono H7.out.size)⟩
 obtain ⟨xs, -, hr⟩ := hv
 replace hr := (hr w8 (.refl _ _)).1
 obtain ⟨a, cap2, hvf⟩ := hr.len
 obtain ⟨n2, hn2⟩ : ∃ x, x = xs.length := ⟨_, rfl⟩
 rw [← hn2] at hvf
 subst hvf
 clear o0 o1 o2 o3 o4 o5 o6 o7 o8 o9 o10
 clear h7 heq hr hb8 hn2
 go_wp2_with fail
 go_ret2
 exact HFIN.out
end Go.Proofs.Ytaicmiadgnpimaa
