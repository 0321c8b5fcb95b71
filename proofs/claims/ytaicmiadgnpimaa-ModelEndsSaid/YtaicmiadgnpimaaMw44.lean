/-
  Walks for layer 26 (model): leases, dials and waiters of a backend are right.
-/
import Derived.Test.YtaicmiadgnpimaaMw43
namespace Go.Proofs.Ytaicmiadgnpimaa
open Go.RowKit

/-- The two maps. -/
structure CAt (b1 b2 n1 n2 : Nat) (Sa Sb : List Int) (w0 wr : World) : Prop where
 own1 : SetOwn wr b1 n1 Sa
 own2 : SetOwn wr b2 n2 Sb
 gb : Gb (fun i => i = b1 ∨ i = b2) w0 wr
theorem CAt.below {b1 b2 n1 n2 : Nat} {Sa Sb : List Int} {w0 wr w : World} (h : CAt b1 b2 n1 n2 Sa Sb w0 wr) (hb : Below wr.heap.size wr w) : CAt b1 b2 n1 n2 Sa Sb w0 w := by
 have hg : wr.grownBy w none := ⟨hb.os, hb.tape, hb.output, hb.size, fun i hi _ => hb.block i hi⟩
 exact ⟨h.own1.kept hg (by simp), h.own2.kept hg (by simp), h.gb.trans (.of_below hb)⟩
theorem CAt.one {b1 b2 n1 n2 : Nat} {Sa Sb Sc : List Int} {w0 wr w : World} (h : CAt b1 b2 n1 n2 Sa Sb w0 wr) (hne : b1 ≠ b2) (hg : wr.grownBy w (some b1)) (hs : SetOwn w b1 (n1 + 1) Sc) : CAt b1 b2 (n1 + 1) n2 Sc Sb w0 w :=
 ⟨hs, h.own2.kept hg (fun e => hne (by injection e with e; exact e.symm)), h.gb.trans (.of_grown hg (fun k hk => by injection hk with hk; exact .inl hk.symm))⟩
theorem CAt.two {b1 b2 n1 n2 : Nat} {Sa Sb Sc : List Int} {w0 wr w : World} (h : CAt b1 b2 n1 n2 Sa Sb w0 wr) (hne : b1 ≠ b2) (hg : wr.grownBy w (some b2)) (hs : SetOwn w b2 (n2 + 1) Sc) : CAt b1 b2 n1 (n2 + 1) Sa Sc w0 w :=
 ⟨h.own1.kept hg (fun e => hne (by injection e)), hs, h.gb.trans (.of_grown hg (fun k hk => by injection hk with hk; exact .inr hk.symm))⟩
theorem reads_maps {α : Type} {m : Nat} {enc : α → List Value} (hl : ∀ x, (enc x).length = m) (hm : 0 < m) {w w' : World} {v : Value} {l : List α} {b1 b2 n1 n2 : Nat} {Sa Sb : List Int} (h : ReadsL m enc w v l) (h1 : SetOwn w b1 n1 Sa) (h2 : SetOwn w b2 n2 Sb) (hg : Gb (fun i => i = b1 ∨ i = b2) w w') : ReadsL m enc w' v l := by
 rcases h with ⟨a, cap, e1, e2⟩ | ⟨g, o, cap, e1, e2, e3⟩
 · exact .inl ⟨a, cap, e1, e2⟩
 · cases l with
   | nil => exact .inl ⟨_, cap, e1, rfl⟩
   | cons x t =>
    have hlen := hl x
    obtain ⟨u, hu⟩ : ∃ u, (enc x)[0]? = some u := ⟨_, List.getElem?_eq_getElem (by omega)⟩
    have hc := e3 0 (by simp) 0 u hu
    have hne : ¬ (g = b1 ∨ g = b2) := by
     rintro (e | e)
     · subst e
       obtain ⟨D, ⟨es, clock, hb, _⟩, _⟩ := h1
       simp [World.cell?, hb] at hc
     · subst e
       obtain ⟨D, ⟨es, clock, hb, _⟩, _⟩ := h2
       simp [World.cell?, hb] at hc
    exact .inr ⟨g, o, cap, e1, Nat.lt_of_lt_of_le e2 hg.size, fun j hj i y hy => (World.cell?_of_block (a := ⟨g, _, none⟩) (hg.block g e2 hne)).trans (e3 j hj i y hy)⟩
def outB (n lo hi : Int) : Bool := decide (n < lo) || decide (hi < n)
theorem outB_not (n lo hi : Int) : (!outB n lo hi) = (decide (lo ≤ n) && decide (n ≤ hi)) := by
 unfold outB
 rw [Bool.eq_iff_iff]
 simp only [Bool.not_eq_true', Bool.or_eq_false_iff, decide_eq_false_iff_not, Bool.and_eq_true, decide_eq_true_eq]
 omega
theorem le_not (a b : Int) : (!decide (a ≤ b)) = decide (b < a) := by
 rw [Bool.eq_iff_iff]
 simp
theorem leases_rest (now last : Int) (x : Md.Lease) (t : List Md.Lease) (Sa Sb : List Int) : (Md.leasesOk now last (x :: t) && (Md.newOk Sa ((x :: t).map (·.1)) && Md.newOk Sb ((x :: t).map (·.2.1)))) =
 ((!outB x.2.2 0 now && !decide (x.1 ≤ last)) && ((decide (1 ≤ x.1) && !decide (x.1 ∈ Sa)) && ((decide (1 ≤ x.2.1) && !decide (x.2.1 ∈ Sb)) && (Md.leasesOk now x.1 t && (Md.newOk (x.1 :: Sa) (t.map (·.1)) && Md.newOk (x.2.1 :: Sb) (t.map (·.2.1))))))) := by
 rw [outB_not, le_not]
 simp only [Md.leasesOk, List.map_cons, Md.newOk]
 cases decide (0 ≤ x.2.2) <;> cases decide (x.2.2 ≤ now) <;> cases decide (last < x.1) <;> cases (decide (1 ≤ x.1) && !decide (x.1 ∈ Sa)) <;> cases (decide (1 ≤ x.2.1) && !decide (x.2.1 ∈ Sb)) <;> cases Md.leasesOk now x.1 t <;> simp
theorem dials_rest (last : Int) (x : Md.Dial) (t : List Md.Dial) (Sa : List Int) : (Md.dialsOk last (x :: t) && Md.newOk Sa ((x :: t).map (·.1))) =
 (!decide (x.1 ≤ last) && ((decide (1 ≤ x.1) && !decide (x.1 ∈ Sa)) && (Md.dialsOk x.1 t && Md.newOk (x.1 :: Sa) (t.map (·.1))))) := by
 rw [le_not]
 simp only [Md.dialsOk, List.map_cons, Md.newOk]
 cases decide (last < x.1) <;> cases (decide (1 ≤ x.1) && !decide (x.1 ∈ Sa)) <;> cases Md.dialsOk x.1 t <;> simp
theorem waiters_rest (now : Int) (x : Md.Waiter) (t : List Md.Waiter) (Sa : List Int) : (Md.waitersOk now (x :: t) && Md.newOk Sa ((x :: t).map (·.1))) =
 (!outB x.2 (now + 1) 1000000000000 && ((decide (1 ≤ x.1) && !decide (x.1 ∈ Sa)) && (Md.waitersOk now t && Md.newOk (x.1 :: Sa) (t.map (·.1))))) := by
 rw [outB_not]
 have e : decide (now + 1 ≤ x.2) = decide (now < x.2) := by rw [Bool.eq_iff_iff]; simp only [decide_eq_true_eq]; omega
 rw [e]
 simp only [Md.waitersOk, List.all_cons, List.map_cons, Md.newOk]
 cases decide (now < x.2) <;> cases decide (x.2 ≤ 1000000000000) <;> cases (decide (1 ≤ x.1) && !decide (x.1 ∈ Sa)) <;> cases (t.all fun x => decide (now < x.2) && decide (x.2 ≤ 1000000000000)) <;> simp
theorem outs_any (n lo hi : Int) (v : Bool) (h : outB n lo hi = v) : ∀ w, Calls Try.prog 30 #[I64 n, I64 lo, I64 hi] w fun e w' => e = .returned (.bool v) ∧ w' = w := by
 intro w
 have q := outside_any n lo hi w
 unfold outB at h
 rw [h] at q
 exact q
/-- What the tests read: the two maps, and the copy's cells. -/
def CC (X Y b1 b2 : Nat) (ys : List Value) (w : World) : Prop := w.cell? ⟨X, 0, none⟩ = some (.map (some b1)) ∧ w.cell? ⟨X, 1, none⟩ = some (.map (some b2)) ∧ ∀ i v, ys[i]? = some v → w.cell? ⟨Y, i, none⟩ = some v
theorem CC.kept {X Y b1 b2 : Nat} {ys : List Value} {w w' : World} {row : Option Nat} (h : CC X Y b1 b2 ys w) (hg : w.grownBy w' row) (h1 : some X ≠ row) (h3 : some Y ≠ row) : CC X Y b1 b2 ys w' := by
 obtain ⟨a, b, c⟩ := h
 have hc : ∀ {B o v}, w.cell? ⟨B, o, none⟩ = some v → some B ≠ row → w'.cell? ⟨B, o, none⟩ = some v := fun {B o v} hv hn => (World.cell?_of_block (a := ⟨B, o, none⟩) (hg.block B (cell_lt hv) hn)).trans hv
 exact ⟨hc a h1, hc b h1, fun i v hv => hc (c i v hv) h3⟩
theorem CC.open3 {X Y b1 b2 : Nat} {v0 v1 v2 : Value} {w : World} (h : CC X Y b1 b2 [v0, v1, v2] w) : w.cell? ⟨X, 0, none⟩ = some (.map (some b1)) ∧ w.cell? ⟨X, 1, none⟩ = some (.map (some b2)) ∧ w.cell? ⟨Y, 0, none⟩ = some v0 ∧ w.cell? ⟨Y, 1, none⟩ = some v1 ∧ w.cell? ⟨Y, 2, none⟩ = some v2 := ⟨h.1, h.2.1, h.2.2 0 _ rfl, h.2.2 1 _ rfl, h.2.2 2 _ rfl⟩
theorem CC.open2 {X Y b1 b2 : Nat} {v0 v1 : Value} {w : World} (h : CC X Y b1 b2 [v0, v1] w) : w.cell? ⟨X, 0, none⟩ = some (.map (some b1)) ∧ w.cell? ⟨X, 1, none⟩ = some (.map (some b2)) ∧ w.cell? ⟨Y, 0, none⟩ = some v0 ∧ w.cell? ⟨Y, 1, none⟩ = some v1 := ⟨h.1, h.2.1, h.2.2 0 _ rfl, h.2.2 1 _ rfl⟩
/-- The whole test. -/
def callersB (now : Int) (p : Md.Pool) (Sa Sb : List Int) : Bool := ((Md.leasesOk now 0 p.leases && (Md.newOk Sa (p.leases.map (·.1)) && Md.newOk Sb (p.leases.map (·.2.1)))) && ((Md.dialsOk 0 p.dials && Md.newOk ((p.leases.map (·.1)).reverse ++ Sa) (p.dials.map (·.1))) && (Md.waitersOk now p.waiters && Md.newOk ((p.dials.map (·.1)).reverse ++ ((p.leases.map (·.1)).reverse ++ Sa)) (p.waiters.map (·.1)))))
set_option maxHeartbeats 16000000 in
set_option maxRecDepth 100000 in
set_option linter.unusedSimpArgs false in
theorem callers_any (X b1 b2 n1 n2 : Nat) (Sa Sb : List Int) (now : Int) (p : Md.Pool) (pv : PoolV) (w : World) (hX : w.heap[X]? = some (.cells #[.map (some b1), .map (some b2)] 97 (0, 0))) (hs1 : SetOwn w b1 n1 Sa) (hs2 : SetOwn w b2 n2 Sb) (hne : b1 ≠ b2) (hrd : PoolRd w pv p) (hnow : Md.isTime now = true) (hlen : p.leases.length ≤ 1000000 ∧ p.dials.length ≤ 1000000 ∧ p.waiters.length ≤ 1000000) (hn1 : n1 ≤ 100000000) (hn2 : n2 ≤ 100000000)
 (hbd : (∀ x ∈ p.leases, x.1 ≤ 9223372036854775807 ∧ x.2.1 ≤ 9223372036854775807) ∧ (∀ x ∈ p.dials, x.1 ≤ 9223372036854775807) ∧ ∀ x ∈ p.waiters, x.1 ≤ 9223372036854775807) :
 Calls Try.prog 33 #[.pointer (some ⟨X, 0, none⟩), valPV pv, I64 now] w fun e w' => e = .returned (.bool (callersB now p Sa Sb)) ∧ (callersB now p Sa Sb = true → SetOwn w' b1 (n1 + p.leases.length + p.dials.length + p.waiters.length) ((p.waiters.map (·.1)).reverse ++ ((p.dials.map (·.1)).reverse ++ ((p.leases.map (·.1)).reverse ++ Sa))) ∧ SetOwn w' b2 (n2 + p.leases.length) ((p.leases.map (·.2.1)).reverse ++ Sb)) ∧ Gb (fun i => i = b1 ∨ i = b2) w w' := by
 have hbX : X ≠ b1 ∧ X ≠ b2 := by
  constructor
  · intro e
    subst e
    obtain ⟨D, ⟨es, clock, hb, _⟩, _⟩ := hs1
    rw [hX] at hb
    cases hb
  · intro e
    subst e
    obtain ⟨D, ⟨es, clock, hb, _⟩, _⟩ := hs2
    rw [hX] at hb
    cases hb
 have hnw : 0 ≤ now ∧ now ≤ 1000000000000 := Md.time_iff.1 hnow
 have hwr : IntKind.i64.wrap (now + 1) = now + 1 := by rw [IntKind.wrap_i64]; omega
 have hal := (Below.refl w.heap.size w).alloc (Nat.le_refl _) (.cells #[I64 pv.lim.max, I64 pv.lim.queue, I64 pv.lim.idle, I64 pv.lim.age, valS pv.vI, valS pv.vL, valS pv.vD, valS pv.vW, .bool pv.up, I64 pv.breaker, I64 pv.probe] 48)
 have bP := blk_new w (.cells #[I64 pv.lim.max, I64 pv.lim.queue, I64 pv.lim.idle, I64 pv.lim.age, valS pv.vI, valS pv.vL, valS pv.vD, valS pv.vW, .bool pv.up, I64 pv.breaker, I64 pv.probe] 48)
 obtain ⟨w0, hw0⟩ : ∃ x, x = w.alloc (.cells #[I64 pv.lim.max, I64 pv.lim.queue, I64 pv.lim.idle, I64 pv.lim.age, valS pv.vI, valS pv.vL, valS pv.vD, valS pv.vW, .bool pv.up, I64 pv.breaker, I64 pv.probe] 48) := ⟨_, rfl⟩
 obtain ⟨P, hP⟩ : ∃ x, x = w.heap.size := ⟨_, rfl⟩
 rw [← hw0] at hal bP
 rw [← hP] at bP
 have hXl := (Array.getElem?_eq_some_iff.1 hX).1
 have hX0 := (hal.block X hXl).trans hX
 have hcat : CAt b1 b2 n1 n2 Sa Sb w w := ⟨hs1, hs2, .refl _ _⟩
 have hcat0 := hcat.below hal
 have hbP : P ≠ b1 ∧ P ≠ b2 := by have := hs1.lt; have := hs2.lt; omega
 have hrd0 := hrd.below hal
 obtain ⟨F, hF⟩ : ∃ F, F = callersB now p Sa Sb := ⟨_, rfl⟩
 rw [← hF]
 have HGW : Hid (∀ w', Gb (fun i => i = b1 ∨ i = b2) w0 w' → Gb (fun i => i = b1 ∨ i = b2) w w') := fun w' hg => (Gb.of_below hal).trans hg
 have HBP := Lib.hid bP
 have HX0 := Lib.hid hX0
 have HBD := Lib.hid hbd
 have HC0 : Hid (CAt b1 b2 n1 n2 Sa Sb w0 w0) := ⟨hcat0.own1, hcat0.own2, .refl _ _⟩
 have HNE : Hid ((X ≠ b1 ∧ X ≠ b2) ∧ (P ≠ b1 ∧ P ≠ b2) ∧ b1 ≠ b2) := ⟨hbX, hbP, hne⟩
 have HRL : Hid (∀ wr, Gb (fun i => i = b1 ∨ i = b2) w0 wr → ReadsL 3 encLease wr (valS pv.vL) p.leases) := Lib.hid (fun wr hg => reads_maps encLease_len (by decide) hrd0.leases hcat0.own1 hcat0.own2 hg)
 have HRD : Hid (∀ wr, Gb (fun i => i = b1 ∨ i = b2) w0 wr → ReadsL 2 encDial wr (valS pv.vD) p.dials) := Lib.hid (fun wr hg => reads_maps encDial_len (by decide) hrd0.dials hcat0.own1 hcat0.own2 hg)
 have HRW : Hid (∀ wr, Gb (fun i => i = b1 ∨ i = b2) w0 wr → ReadsL 2 encWaiter wr (valS pv.vW) p.waiters) := Lib.hid (fun wr hg => reads_maps encWaiter_len (by decide) hrd0.waiters hcat0.own1 hcat0.own2 hg)
 have hvL := read_len hrd.leases
 have hvD := read_len hrd.dials
 have hvW := read_len hrd.waiters
 obtain ⟨nl, hnl⟩ : ∃ n, n = p.leases.length := ⟨_, rfl⟩
 obtain ⟨nd, hnd⟩ : ∃ n, n = p.dials.length := ⟨_, rfl⟩
 obtain ⟨nw, hnw2⟩ : ∃ n, n = p.waiters.length := ⟨_, rfl⟩
 have HNL := Lib.hid hnl
 have HND := Lib.hid hnd
 have HNW := Lib.hid hnw2
 rw [← hnl, ← hnd, ← hnw2] at hlen ⊢
 rw [← hnl] at hvL
 rw [← hnd] at hvD
 rw [← hnw2] at hvW
 obtain ⟨ia, iN, ic, hvI⟩ : ∃ a b c, valS pv.vI = .slice a b c := ⟨_, _, _, rfl⟩
 obtain ⟨la, lc, hvL2⟩ : ∃ a c, valS pv.vL = .slice a nl c := ⟨pv.vL.1, pv.vL.2.2, by rw [← hvL]; rfl⟩
 obtain ⟨da, dc, hvD2⟩ : ∃ a c, valS pv.vD = .slice a nd c := ⟨pv.vD.1, pv.vD.2.2, by rw [← hvD]; rfl⟩
 obtain ⟨wa, wc, hvW2⟩ : ∃ a c, valS pv.vW = .slice a nw c := ⟨pv.vW.1, pv.vW.2.2, by rw [← hvW]; rfl⟩
 obtain ⟨Q1, hQ1⟩ : ∃ Q1, Q1 = (Md.leasesOk now 0 p.leases && (Md.newOk Sa (p.leases.map (·.1)) && Md.newOk Sb (p.leases.map (·.2.1)))) := ⟨_, rfl⟩
 obtain ⟨Q2, hQ2⟩ : ∃ Q2, Q2 = (Md.dialsOk 0 p.dials && Md.newOk ((p.leases.map (·.1)).reverse ++ Sa) (p.dials.map (·.1))) := ⟨_, rfl⟩
 obtain ⟨Q3, hQ3⟩ : ∃ Q3, Q3 = (Md.waitersOk now p.waiters && Md.newOk ((p.dials.map (·.1)).reverse ++ ((p.leases.map (·.1)).reverse ++ Sa)) (p.waiters.map (·.1))) := ⟨_, rfl⟩
 have HFE : Hid (F = (Q1 && (Q2 && Q3))) := by rw [hF, hQ1, hQ2, hQ3]; rfl
 have HQ1 := Lib.hid hQ1
 have HQ2 := Lib.hid hQ2
 have HQ3 := Lib.hid hQ3
 clear hQ1 hQ2 hQ3
 unfold valPV
 rw [hvI, hvL2, hvD2, hvW2] at HBP hw0 ⊢
 rw [hvL2] at HRL
 rw [hvD2] at HRD
 rw [hvW2] at HRW
 have hp : ∀ i, w0.cell? ⟨P, i, none⟩ = _ := fun i => blk_cell HBP.out i
 have HPC : Hid (∀ wr, Gb (fun i => i = b1 ∨ i = b2) w0 wr → wr.cell? ⟨P, 5, none⟩ = some (.slice la nl lc) ∧ wr.cell? ⟨P, 6, none⟩ = some (.slice da nd dc) ∧ wr.cell? ⟨P, 7, none⟩ = some (.slice wa nw wc)) := Lib.hid (fun wr hg => by
  have hn : ¬ (P = b1 ∨ P = b2) := fun h => h.elim HNE.out.2.1.1 HNE.out.2.1.2
  exact ⟨hg.cellOf hn (hp 5), hg.cellOf hn (hp 6), hg.cellOf hn (hp 7)⟩)
 have HXC : Hid (∀ wr, Gb (fun i => i = b1 ∨ i = b2) w0 wr → wr.cell? ⟨X, 0, none⟩ = some (.map (some b1)) ∧ wr.cell? ⟨X, 1, none⟩ = some (.map (some b2))) := Lib.hid (fun wr hg => by
  have hn : ¬ (X = b1 ∨ X = b2) := fun h => h.elim HNE.out.1.1 HNE.out.1.2
  exact ⟨hg.cellOf hn (blk_cell HX0.out 0), hg.cellOf hn (blk_cell HX0.out 1)⟩)
 have HP0 := HPC.out w0 (.refl _ _)
 have HBQ : Hid (b1 < w0.heap.size ∧ b2 < w0.heap.size) := Lib.hid ⟨hcat0.own1.lt, hcat0.own2.lt⟩
 clear hp hvI hvL2 hvD2 hvW2 hvL hvD hvW hnl hnd hnw2 hF hrd0 hrd hbP hcat hcat0 hX0 hXl bP hal hbX hbd hs1 hs2 hne hX HBP HP0
 go_enter Try.func33, Try.ntmps33
 go_wp2
 simp only [← hw0, ← hP]
 clear hw0 hP
 go_loopw [7, 9, 17] (fun lv _ kv wr => ∃ k : Nat, ∃ last : Int, k ≤ nl ∧ kv = .int .i64 k ∧ lv = .int .i64 last ∧ Hid (CAt b1 b2 (n1 + k) (n2 + k) (((p.leases.take k).map (·.1)).reverse ++ Sa) (((p.leases.take k).map (·.2.1)).reverse ++ Sb) w0 wr) ∧ Hid (Q1 = (Md.leasesOk now last (p.leases.drop k) && (Md.newOk (((p.leases.take k).map (·.1)).reverse ++ Sa) ((p.leases.drop k).map (·.1)) && Md.newOk (((p.leases.take k).map (·.2.1)).reverse ++ Sb) ((p.leases.drop k).map (·.2.1)))))) (fun _ _ kv _ => nl - (intOf kv).toNat)
 case atStart => exact ⟨0, 0, Nat.zero_le _, rfl, rfl, HC0, HQ1⟩
 case round =>
  obtain ⟨k, last, hkn, rfl, rfl, HCA, HQ⟩ := hrel
  by_cases hlt : k < nl
  · skip
    have hk : k < p.leases.length := by rw [← HNL.out]; exact hlt
    obtain ⟨g, o, cap, e, _, hc⟩ := (HRL.out wr HCA.out.gb).form (by intro e; rw [e] at hk; simp at hk)
    injection e with e1 e2 e3
    subst e1
    clear e2 e3
    have p0 : wr.cell? ⟨g, o + k * 3, none⟩ = _ := hc k hk 0 _ rfl
    have p1 : wr.cell? ⟨g, o + k * 3 + 1, none⟩ = _ := hc k hk 1 _ rfl
    have p2 : wr.cell? ⟨g, o + k * 3 + 2, none⟩ = _ := hc k hk 2 _ rfl
    have heq := HQ.out
    rw [List.drop_eq_getElem_cons hk, leases_rest] at heq
    have hbx := HBD.out.1 _ (List.getElem_mem hk)
    have htk := take_map_rev (fun x => x.1) p.leases k hk Sa
    have htk2 := take_map_rev (fun x => x.2.1) p.leases k hk Sb
    generalize p.leases[k] = y at heq hbx htk htk2 p0 p1 p2
    obtain ⟨y0, y1, y2⟩ := y
    dsimp only at heq hbx htk htk2 p0 p1 p2
    have HEQ := Lib.hid heq
    have HTK := Lib.hid htk
    have HTK2 := Lib.hid htk2
    have hca := HCA.out.below ((Below.refl wr.heap.size wr).alloc (Nat.le_refl _) (.cells #[I64 y0, I64 y1, I64 y2] 69))
    have hxc := HXC.out _ hca.gb
    have HY : Hid (CC X wr.heap.size b1 b2 [I64 y0, I64 y1, I64 y2] (wr.alloc (.cells #[I64 y0, I64 y1, I64 y2] 69)) ∧ CAt b1 b2 (n1 + k) (n2 + k) (((p.leases.take k).map (·.1)).reverse ++ Sa) (((p.leases.take k).map (·.2.1)).reverse ++ Sb) w0 (wr.alloc (.cells #[I64 y0, I64 y1, I64 y2] 69)) ∧ b1 < wr.heap.size ∧ b2 < wr.heap.size) := Lib.hid ⟨⟨hxc.1, hxc.2, fun i v hv => (blk_cell (blk_new wr (.cells #[I64 y0, I64 y1, I64 y2] 69)) i).trans (by simpa using hv)⟩, hca, HCA.out.own1.lt, HCA.out.own2.lt⟩
    clear heq htk htk2 hca hxc hc HCA HQ
    go_wp2
    obtain ⟨Y, hY⟩ : ∃ Y, Y = wr.heap.size := ⟨_, rfl⟩
    obtain ⟨w4, hw4⟩ : ∃ x, x = wr.alloc (.cells #[I64 y0, I64 y1, I64 y2] 69) := ⟨_, rfl⟩
    rw [← hw4, ← hY] at HY
    simp only [← hw4, ← hY]
    have hY2 := HY.out
    clear hw4 hY
    obtain ⟨wx, hwx⟩ : ∃ x, x = w4.drew := ⟨_, rfl⟩
    have HCI : Hid (CC X Y b1 b2 [I64 y0, I64 y1, I64 y2] wx) := by rw [hwx]; exact Lib.hid hY2.1
    have HCX := Lib.hid (hY2.2.1.below (Below.refl w4.heap.size w4).drew)
    rw [← hwx] at HCX
    have HYL : Hid (Y ≠ b1 ∧ Y ≠ b2) := Lib.hid ⟨by have := hY2.2.2.1; omega, by have := hY2.2.2.2; omega⟩
    clear hY2 HY
    cases hob : outB y2 0 now with
    | true =>
     have HOUT := Lib.hid (outs_any y2 0 now true hob)
     refine wp_region_held_drew (S := CC X Y b1 b2 [I64 y0, I64 y1, I64 y2]) (by kernel_rfl) (by rw [← hwx]; exact HCI.out) (fun hHeld => ?_)
     rw [← hwx] at hHeld ⊢
     clear hwx
     refine tk 0 (v := ?vv0_1) (dropAt rfl) (Or.inl ⟨by rfl, ?hv0_1⟩) hHeld ?rv0_1
     case hv0_1 => (intro w hSw; obtain ⟨hS1, hS2, hS3, hS4, hS5⟩ := hSw.open3; go_simp; first | done | with_reducible rfl)
     try simp only [Act.put, pu2, pu3, pu4]
     refine tk 1 (v := ?vv1_2) (dropAt rfl) (Or.inl ⟨by rfl, ?hv1_2⟩) hHeld ?rv1_2
     case hv1_2 => (intro w hSw; obtain ⟨hS1, hS2, hS3, hS4, hS5⟩ := hSw.open3; go_simp; first | done | with_reducible rfl)
     try simp only [Act.put, pu2, pu3, pu4]
     refine tk 2 (v := ?vv2_3) (dropAt rfl) (Or.inl ⟨by rfl, ?hv2_3⟩) hHeld ?rv2_3
     case hv2_3 => (intro w hSw; obtain ⟨hS1, hS2, hS3, hS4, hS5⟩ := hSw.open3; go_simp; first | done | with_reducible rfl)
     try simp only [Act.put, pu2, pu3, pu4]
     refine wpAnyH_ready (rs := [3]) (by kernel_rfl) (by simp) ?_
     refine AllReadyH.cons (o := _) (dropAt (r := _) rfl) (fun K hK => ?_) AllReadyH.nil
     go_simp
     refine (HOUT.out _).mono ?_
     rintro e w5 ⟨rfl, rfl⟩
     refine hK.out _ _ hHeld (fun hHeld2 => ?_)
     clear hK K
     try simp only [Act.put, pu2, pu3, pu4]
     refine tk 4 (v := ?vv4_4) (dropAt rfl) (Or.inl ⟨by rfl, ?hv4_4⟩) hHeld ?rv4_4
     case hv4_4 => (intro w hSw; obtain ⟨hS1, hS2, hS3, hS4, hS5⟩ := hSw.open3; go_simp; first | done | with_reducible rfl)
     try simp only [Act.put, pu2, pu3, pu4]
     refine tk 5 (v := undef) (dropAt rfl) (Or.inr ⟨rfl, rfl⟩) hHeld ?_
     try simp only [Act.put, pu2, pu3, pu4]
     refine tk 6 (v := undef) (dropAt rfl) (Or.inr ⟨rfl, rfl⟩) hHeld ?_
     try simp only [Act.put, pu2, pu3, pu4]
     refine tk 7 (v := undef) (dropAt rfl) (Or.inr ⟨rfl, rfl⟩) hHeld ?_
     try simp only [Act.put, pu2, pu3, pu4]
     refine tk 8 (v := undef) (dropAt rfl) (Or.inr ⟨rfl, rfl⟩) hHeld ?_
     try simp only [Act.put, pu2, pu3, pu4]
     refine tk 9 (v := ?vv9_5) (dropAt rfl) (Or.inl ⟨by rfl, ?hv9_5⟩) hHeld ?rv9_5
     case hv9_5 => (intro w hSw; obtain ⟨hS1, hS2, hS3, hS4, hS5⟩ := hSw.open3; go_simp; first | done | with_reducible rfl)
     try simp only [Act.put, pu2, pu3, pu4]
     refine tk 10 (v := ?vv10_6) (dropAt rfl) (Or.inl ⟨by rfl, ?hv10_6⟩) hHeld ?rv10_6
     case hv10_6 => (intro w hSw; obtain ⟨hS1, hS2, hS3, hS4, hS5⟩ := hSw.open3; go_simp; first | done | with_reducible rfl)
     try simp only [Act.put, pu2, pu3, pu4]
     refine tk 11 (v := undef) (dropAt rfl) (Or.inr ⟨rfl, rfl⟩) hHeld ?_
     try simp only [Act.put, pu2, pu3, pu4]
     refine tk 12 (v := undef) (dropAt rfl) (Or.inr ⟨rfl, rfl⟩) hHeld ?_
     try simp only [Act.put, pu2, pu3, pu4]
     refine tk 13 (v := undef) (dropAt rfl) (Or.inr ⟨rfl, rfl⟩) hHeld ?_
     try simp only [Act.put, pu2, pu3, pu4]
     refine tk 14 (v := undef) (dropAt rfl) (Or.inr ⟨rfl, rfl⟩) hHeld ?_
     try simp only [Act.put, pu2, pu3, pu4]
     refine tk 15 (v := undef) (dropAt rfl) (Or.inr ⟨rfl, rfl⟩) hHeld ?_
     try simp only [Act.put, pu2, pu3, pu4]
     refine tk 16 (v := undef) (dropAt rfl) (Or.inr ⟨rfl, rfl⟩) hHeld ?_
     try simp only [Act.put, pu2, pu3, pu4]
     refine tk 17 (v := undef) (dropAt rfl) (Or.inr ⟨rfl, rfl⟩) hHeld ?_
     try simp only [Act.put, pu2, pu3, pu4]
     refine tk 18 (v := undef) (dropAt rfl) (Or.inr ⟨rfl, rfl⟩) hHeld ?_
     try simp only [Act.put, pu2, pu3, pu4]
     refine tk 19 (v := ?vv19_7) (dropAt rfl) (Or.inl ⟨by rfl, ?hv19_7⟩) hHeld ?rv19_7
     case hv19_7 => (intro w hSw; obtain ⟨hS1, hS2, hS3, hS4, hS5⟩ := hSw.open3; go_simp; first | done | with_reducible rfl)
     try simp only [Act.put, pu2, pu3, pu4]
     refine tk 20 (v := ?vv20_8) (dropAt rfl) (Or.inl ⟨by rfl, ?hv20_8⟩) hHeld ?rv20_8
     case hv20_8 => (intro w hSw; obtain ⟨hS1, hS2, hS3, hS4, hS5⟩ := hSw.open3; go_simp; first | done | with_reducible rfl)
     try simp only [Act.put, pu2, pu3, pu4]
     refine tk 21 (v := undef) (dropAt rfl) (Or.inr ⟨rfl, rfl⟩) hHeld ?_
     try simp only [Act.put, pu2, pu3, pu4]
     refine tk 22 (v := undef) (dropAt rfl) (Or.inr ⟨rfl, rfl⟩) hHeld ?_
     try simp only [Act.put, pu2, pu3, pu4]
     refine tk 23 (v := undef) (dropAt rfl) (Or.inr ⟨rfl, rfl⟩) hHeld ?_
     try simp only [Act.put, pu2, pu3, pu4]
     refine tk 24 (v := undef) (dropAt rfl) (Or.inr ⟨rfl, rfl⟩) hHeld ?_
     try simp only [Act.put, pu2, pu3, pu4]
     refine tk 25 (v := undef) (dropAt rfl) (Or.inr ⟨rfl, rfl⟩) hHeld ?_
     try simp only [Act.put, pu2, pu3, pu4]
     refine tk 26 (v := undef) (dropAt rfl) (Or.inr ⟨rfl, rfl⟩) hHeld ?_
     try simp only [Act.put, pu2, pu3, pu4]
     refine tk 27 (v := undef) (dropAt rfl) (Or.inr ⟨rfl, rfl⟩) hHeld ?_
     try simp only [Act.put, pu2, pu3, pu4]
     refine tk 28 (v := undef) (dropAt rfl) (Or.inr ⟨rfl, rfl⟩) hHeld ?_
     try simp only [Act.put, pu2, pu3, pu4]
     refine tk 29 (v := ?vv29_9) (dropAt rfl) (Or.inl ⟨by rfl, ?hv29_9⟩) hHeld ?rv29_9
     case hv29_9 => (intro w hSw; obtain ⟨hS1, hS2, hS3, hS4, hS5⟩ := hSw.open3; go_simp; first | done | with_reducible rfl)
     try simp only [Act.put, pu2, pu3, pu4]
     refine wpAnyH_done (by kernel_rfl) ?_ _
     have hQf : Q1 = false := by rw [HEQ.out, hob]; simp
     have hFf : F = false := by rw [HFE.out, hQf]; simp
     have HFF := Lib.hid hFf
     have HGB := Lib.hid (HGW.out _ (HCX.out.gb))
     clear hFf hQf
     go_wp2
     go_ret
     exact ⟨ret_bool HFF.out.symm, fun h => (by rw [HFF.out] at h; cases h), HGB.out⟩
    | false =>
     have HOUT := Lib.hid (outs_any y2 0 now false hob)
     by_cases h2 : y0 ≤ last
     · have h2b : decide (y0 ≤ last) = true := by simp [h2]
       refine wp_region_held_drew (S := CC X Y b1 b2 [I64 y0, I64 y1, I64 y2]) (by kernel_rfl) (by rw [← hwx]; exact HCI.out) (fun hHeld => ?_)
       rw [← hwx] at hHeld ⊢
       clear hwx
       refine tk 0 (v := ?vv0_10) (dropAt rfl) (Or.inl ⟨by rfl, ?hv0_10⟩) hHeld ?rv0_10
       case hv0_10 => (intro w hSw; obtain ⟨hS1, hS2, hS3, hS4, hS5⟩ := hSw.open3; go_simp; first | done | with_reducible rfl)
       try simp only [Act.put, pu2, pu3, pu4]
       refine tk 1 (v := ?vv1_11) (dropAt rfl) (Or.inl ⟨by rfl, ?hv1_11⟩) hHeld ?rv1_11
       case hv1_11 => (intro w hSw; obtain ⟨hS1, hS2, hS3, hS4, hS5⟩ := hSw.open3; go_simp; first | done | with_reducible rfl)
       try simp only [Act.put, pu2, pu3, pu4]
       refine tk 2 (v := ?vv2_12) (dropAt rfl) (Or.inl ⟨by rfl, ?hv2_12⟩) hHeld ?rv2_12
       case hv2_12 => (intro w hSw; obtain ⟨hS1, hS2, hS3, hS4, hS5⟩ := hSw.open3; go_simp; first | done | with_reducible rfl)
       try simp only [Act.put, pu2, pu3, pu4]
       refine wpAnyH_ready (rs := [3]) (by kernel_rfl) (by simp) ?_
       refine AllReadyH.cons (o := _) (dropAt (r := _) rfl) (fun K hK => ?_) AllReadyH.nil
       go_simp
       refine (HOUT.out _).mono ?_
       rintro e w5 ⟨rfl, rfl⟩
       refine hK.out _ _ hHeld (fun hHeld2 => ?_)
       clear hK K
       try simp only [Act.put, pu2, pu3, pu4]
       refine tk 4 (v := ?vv4_13) (dropAt rfl) (Or.inl ⟨by rfl, ?hv4_13⟩) hHeld ?rv4_13
       case hv4_13 => (intro w hSw; obtain ⟨hS1, hS2, hS3, hS4, hS5⟩ := hSw.open3; go_simp; first | done | with_reducible rfl)
       try simp only [Act.put, pu2, pu3, pu4]
       refine tk 5 (v := ?vv5_14) (dropAt rfl) (Or.inl ⟨by rfl, ?hv5_14⟩) hHeld ?rv5_14
       case hv5_14 => (intro w hSw; obtain ⟨hS1, hS2, hS3, hS4, hS5⟩ := hSw.open3; go_simp; first | done | with_reducible rfl)
       try simp only [Act.put, pu2, pu3, pu4]
       refine tk 6 (v := ?vv6_15) (dropAt rfl) (Or.inl ⟨by rfl, ?hv6_15⟩) hHeld ?rv6_15
       case hv6_15 => (intro w hSw; obtain ⟨hS1, hS2, hS3, hS4, hS5⟩ := hSw.open3; go_simp; first | done | with_reducible rfl)
       try simp only [Act.put, pu2, pu3, pu4]
       refine tk 7 (v := ?vv7_16) (dropAt rfl) (Or.inl ⟨by rfl, ?hv7_16⟩) hHeld ?rv7_16
       case hv7_16 => (intro w hSw; obtain ⟨hS1, hS2, hS3, hS4, hS5⟩ := hSw.open3; go_simp; first | done | with_reducible rfl)
       try simp only [Act.put, pu2, pu3, pu4]
       refine tk 8 (v := ?vv8_17) (dropAt rfl) (Or.inl ⟨by rfl, ?hv8_17⟩) hHeld ?rv8_17
       case hv8_17 => (intro w hSw; obtain ⟨hS1, hS2, hS3, hS4, hS5⟩ := hSw.open3; go_simp; first | done | with_reducible rfl)
       try simp only [Act.put, pu2, pu3, pu4]
       refine tk 9 (v := ?vv9_18) (dropAt rfl) (Or.inl ⟨by rfl, ?hv9_18⟩) hHeld ?rv9_18
       case hv9_18 => (intro w hSw; obtain ⟨hS1, hS2, hS3, hS4, hS5⟩ := hSw.open3; go_simp; first | done | with_reducible rfl)
       try simp only [Act.put, pu2, pu3, pu4]
       refine tk 10 (v := ?vv10_19) (dropAt rfl) (Or.inl ⟨by rfl, ?hv10_19⟩) hHeld ?rv10_19
       case hv10_19 => (intro w hSw; obtain ⟨hS1, hS2, hS3, hS4, hS5⟩ := hSw.open3; go_simp; first | done | with_reducible rfl)
       try simp only [Act.put, pu2, pu3, pu4]
       refine tk 11 (v := undef) (dropAt rfl) (Or.inr ⟨rfl, rfl⟩) hHeld ?_
       try simp only [Act.put, pu2, pu3, pu4]
       refine tk 12 (v := undef) (dropAt rfl) (Or.inr ⟨rfl, rfl⟩) hHeld ?_
       try simp only [Act.put, pu2, pu3, pu4]
       refine tk 13 (v := undef) (dropAt rfl) (Or.inr ⟨rfl, rfl⟩) hHeld ?_
       try simp only [Act.put, pu2, pu3, pu4]
       refine tk 14 (v := undef) (dropAt rfl) (Or.inr ⟨rfl, rfl⟩) hHeld ?_
       try simp only [Act.put, pu2, pu3, pu4]
       refine tk 15 (v := undef) (dropAt rfl) (Or.inr ⟨rfl, rfl⟩) hHeld ?_
       try simp only [Act.put, pu2, pu3, pu4]
       refine tk 16 (v := undef) (dropAt rfl) (Or.inr ⟨rfl, rfl⟩) hHeld ?_
       try simp only [Act.put, pu2, pu3, pu4]
       refine tk 17 (v := undef) (dropAt rfl) (Or.inr ⟨rfl, rfl⟩) hHeld ?_
       try simp only [Act.put, pu2, pu3, pu4]
       refine tk 18 (v := undef) (dropAt rfl) (Or.inr ⟨rfl, rfl⟩) hHeld ?_
       try simp only [Act.put, pu2, pu3, pu4]
       refine tk 19 (v := ?vv19_20) (dropAt rfl) (Or.inl ⟨by rfl, ?hv19_20⟩) hHeld ?rv19_20
       case hv19_20 => (intro w hSw; obtain ⟨hS1, hS2, hS3, hS4, hS5⟩ := hSw.open3; go_simp; first | done | with_reducible rfl)
       try simp only [Act.put, pu2, pu3, pu4]
       refine tk 20 (v := ?vv20_21) (dropAt rfl) (Or.inl ⟨by rfl, ?hv20_21⟩) hHeld ?rv20_21
       case hv20_21 => (intro w hSw; obtain ⟨hS1, hS2, hS3, hS4, hS5⟩ := hSw.open3; go_simp; first | done | with_reducible rfl)
       try simp only [Act.put, pu2, pu3, pu4]
       refine tk 21 (v := undef) (dropAt rfl) (Or.inr ⟨rfl, rfl⟩) hHeld ?_
       try simp only [Act.put, pu2, pu3, pu4]
       refine tk 22 (v := undef) (dropAt rfl) (Or.inr ⟨rfl, rfl⟩) hHeld ?_
       try simp only [Act.put, pu2, pu3, pu4]
       refine tk 23 (v := undef) (dropAt rfl) (Or.inr ⟨rfl, rfl⟩) hHeld ?_
       try simp only [Act.put, pu2, pu3, pu4]
       refine tk 24 (v := undef) (dropAt rfl) (Or.inr ⟨rfl, rfl⟩) hHeld ?_
       try simp only [Act.put, pu2, pu3, pu4]
       refine tk 25 (v := undef) (dropAt rfl) (Or.inr ⟨rfl, rfl⟩) hHeld ?_
       try simp only [Act.put, pu2, pu3, pu4]
       refine tk 26 (v := undef) (dropAt rfl) (Or.inr ⟨rfl, rfl⟩) hHeld ?_
       try simp only [Act.put, pu2, pu3, pu4]
       refine tk 27 (v := undef) (dropAt rfl) (Or.inr ⟨rfl, rfl⟩) hHeld ?_
       try simp only [Act.put, pu2, pu3, pu4]
       refine tk 28 (v := undef) (dropAt rfl) (Or.inr ⟨rfl, rfl⟩) hHeld ?_
       try simp only [Act.put, pu2, pu3, pu4]
       refine tk 29 (v := ?vv29_22) (dropAt rfl) (Or.inl ⟨by rfl, ?hv29_22⟩) hHeld ?rv29_22
       case hv29_22 => (intro w hSw; obtain ⟨hS1, hS2, hS3, hS4, hS5⟩ := hSw.open3; go_simp; first | done | with_reducible rfl)
       try simp only [Act.put, pu2, pu3, pu4]
       refine wpAnyH_done (by kernel_rfl) ?_ _
       have hQf : Q1 = false := by rw [HEQ.out]; simp [h2]
       have hFf : F = false := by rw [HFE.out, hQf]; simp
       have HFF := Lib.hid hFf
       have HGB := Lib.hid (HGW.out _ (HCX.out.gb))
       clear hFf hQf
       go_wp2
       go_ret
       exact ⟨ret_bool HFF.out.symm, fun h => (by rw [HFF.out] at h; cases h), HGB.out⟩
     · have h2b : decide (y0 ≤ last) = false := by simp [h2]
       refine wp_region_held_drew (S := CC X Y b1 b2 [I64 y0, I64 y1, I64 y2]) (by kernel_rfl) (by rw [← hwx]; exact HCI.out) (fun hHeld => ?_)
       rw [← hwx] at hHeld ⊢
       clear hwx
       refine tk 0 (v := ?vv0_23) (dropAt rfl) (Or.inl ⟨by rfl, ?hv0_23⟩) hHeld ?rv0_23
       case hv0_23 => (intro w hSw; obtain ⟨hS1, hS2, hS3, hS4, hS5⟩ := hSw.open3; go_simp; first | done | with_reducible rfl)
       try simp only [Act.put, pu2, pu3, pu4]
       refine tk 1 (v := ?vv1_24) (dropAt rfl) (Or.inl ⟨by rfl, ?hv1_24⟩) hHeld ?rv1_24
       case hv1_24 => (intro w hSw; obtain ⟨hS1, hS2, hS3, hS4, hS5⟩ := hSw.open3; go_simp; first | done | with_reducible rfl)
       try simp only [Act.put, pu2, pu3, pu4]
       refine tk 2 (v := ?vv2_25) (dropAt rfl) (Or.inl ⟨by rfl, ?hv2_25⟩) hHeld ?rv2_25
       case hv2_25 => (intro w hSw; obtain ⟨hS1, hS2, hS3, hS4, hS5⟩ := hSw.open3; go_simp; first | done | with_reducible rfl)
       try simp only [Act.put, pu2, pu3, pu4]
       refine wpAnyH_ready (rs := [3]) (by kernel_rfl) (by simp) ?_
       refine AllReadyH.cons (o := _) (dropAt (r := _) rfl) (fun K hK => ?_) AllReadyH.nil
       go_simp
       refine (HOUT.out _).mono ?_
       rintro e w5 ⟨rfl, rfl⟩
       refine hK.out _ _ hHeld (fun hHeld2 => ?_)
       clear hK K
       try simp only [Act.put, pu2, pu3, pu4]
       refine tk 4 (v := ?vv4_26) (dropAt rfl) (Or.inl ⟨by rfl, ?hv4_26⟩) hHeld ?rv4_26
       case hv4_26 => (intro w hSw; obtain ⟨hS1, hS2, hS3, hS4, hS5⟩ := hSw.open3; go_simp; first | done | with_reducible rfl)
       try simp only [Act.put, pu2, pu3, pu4]
       refine tk 5 (v := ?vv5_27) (dropAt rfl) (Or.inl ⟨by rfl, ?hv5_27⟩) hHeld ?rv5_27
       case hv5_27 => (intro w hSw; obtain ⟨hS1, hS2, hS3, hS4, hS5⟩ := hSw.open3; go_simp; first | done | with_reducible rfl)
       try simp only [Act.put, pu2, pu3, pu4]
       refine tk 6 (v := ?vv6_28) (dropAt rfl) (Or.inl ⟨by rfl, ?hv6_28⟩) hHeld ?rv6_28
       case hv6_28 => (intro w hSw; obtain ⟨hS1, hS2, hS3, hS4, hS5⟩ := hSw.open3; go_simp; first | done | with_reducible rfl)
       try simp only [Act.put, pu2, pu3, pu4]
       refine tk 7 (v := ?vv7_29) (dropAt rfl) (Or.inl ⟨by rfl, ?hv7_29⟩) hHeld ?rv7_29
       case hv7_29 => (intro w hSw; obtain ⟨hS1, hS2, hS3, hS4, hS5⟩ := hSw.open3; go_simp; first | done | with_reducible rfl)
       try simp only [Act.put, pu2, pu3, pu4]
       refine tk 8 (v := ?vv8_30) (dropAt rfl) (Or.inl ⟨by rfl, ?hv8_30⟩) hHeld ?rv8_30
       case hv8_30 => (intro w hSw; obtain ⟨hS1, hS2, hS3, hS4, hS5⟩ := hSw.open3; go_simp; first | done | with_reducible rfl)
       try simp only [Act.put, pu2, pu3, pu4]
       refine tk 9 (v := ?vv9_31) (dropAt rfl) (Or.inl ⟨by rfl, ?hv9_31⟩) hHeld ?rv9_31
       case hv9_31 => (intro w hSw; obtain ⟨hS1, hS2, hS3, hS4, hS5⟩ := hSw.open3; go_simp; first | done | with_reducible rfl)
       try simp only [Act.put, pu2, pu3, pu4]
       refine tk 10 (v := ?vv10_32) (dropAt rfl) (Or.inl ⟨by rfl, ?hv10_32⟩) hHeld ?rv10_32
       case hv10_32 => (intro w hSw; obtain ⟨hS1, hS2, hS3, hS4, hS5⟩ := hSw.open3; go_simp; first | done | with_reducible rfl)
       try simp only [Act.put, pu2, pu3, pu4]
       refine tk 11 (v := ?vv11_33) (dropAt rfl) (Or.inl ⟨by rfl, ?hv11_33⟩) hHeld ?rv11_33
       case hv11_33 => (intro w hSw; obtain ⟨hS1, hS2, hS3, hS4, hS5⟩ := hSw.open3; go_simp; first | done | with_reducible rfl)
       try simp only [Act.put, pu2, pu3, pu4]
       refine tk 12 (v := ?vv12_34) (dropAt rfl) (Or.inl ⟨by rfl, ?hv12_34⟩) hHeld ?rv12_34
       case hv12_34 => (intro w hSw; obtain ⟨hS1, hS2, hS3, hS4, hS5⟩ := hSw.open3; go_simp; first | done | with_reducible rfl)
       try simp only [Act.put, pu2, pu3, pu4]
       refine tk 13 (v := ?vv13_35) (dropAt rfl) (Or.inl ⟨by rfl, ?hv13_35⟩) hHeld ?rv13_35
       case hv13_35 => (intro w hSw; obtain ⟨hS1, hS2, hS3, hS4, hS5⟩ := hSw.open3; go_simp; first | done | with_reducible rfl)
       try simp only [Act.put, pu2, pu3, pu4]
       refine tk 14 (v := ?vv14_36) (dropAt rfl) (Or.inl ⟨by rfl, ?hv14_36⟩) hHeld ?rv14_36
       case hv14_36 => (intro w hSw; obtain ⟨hS1, hS2, hS3, hS4, hS5⟩ := hSw.open3; go_simp; first | done | with_reducible rfl)
       try simp only [Act.put, pu2, pu3, pu4]
       refine tk 15 (v := ?vv15_37) (dropAt rfl) (Or.inl ⟨by rfl, ?hv15_37⟩) hHeld ?rv15_37
       case hv15_37 => (intro w hSw; obtain ⟨hS1, hS2, hS3, hS4, hS5⟩ := hSw.open3; go_simp; first | done | with_reducible rfl)
       try simp only [Act.put, pu2, pu3, pu4]
       refine tk 16 (v := ?vv16_38) (dropAt rfl) (Or.inl ⟨by rfl, ?hv16_38⟩) hHeld ?rv16_38
       case hv16_38 => (intro w hSw; obtain ⟨hS1, hS2, hS3, hS4, hS5⟩ := hSw.open3; go_simp; first | done | with_reducible rfl)
       try simp only [Act.put, pu2, pu3, pu4]
       have HFI := first_any b1 (n1 + k) _ y0 w5 HCX.out.own1 hbx.1 (by omega)
       obtain ⟨F1, hF1⟩ : ∃ F1, F1 = (decide (1 ≤ y0) && !decide (y0 ∈ (((p.leases.take k).map (·.1)).reverse ++ Sa))) := ⟨_, rfl⟩
       rw [← hF1] at HFI
       have HEF1 := Lib.hid hF1
       clear hF1
       replace HFI := Lib.hid HFI
       refine wpAnyH_ready (rs := [17]) (by kernel_rfl) (by simp) ?_
       refine AllReadyH.cons (o := _) (dropAt (r := _) rfl) (fun K hK => ?_) AllReadyH.nil
       go_simp
       refine HFI.out.mono ?_
       rintro e w6 ⟨rfl, hset, hg6⟩
       have hH6 : CC X Y b1 b2 [I64 y0, I64 y1, I64 y2] w6 := hHeld.kept hg6 (fun e => HNE.out.1.1 (by injection e)) (fun e => HYL.out.1 (by injection e))
       refine hK.out _ _ hH6 (fun hHeldq => ?_)
       clear hK K
       try simp only [Act.put, pu2, pu3, pu4]
       have HSET := Lib.hid hset
       have HG6 := Lib.hid hg6
       clear hset hg6 HFI
       cases F1 with
       | false =>
        refine tk 18 (v := ?vv18_39) (dropAt rfl) (Or.inl ⟨by rfl, ?hv18_39⟩) hH6 ?rv18_39
        case hv18_39 => (intro w hSw; obtain ⟨hS1, hS2, hS3, hS4, hS5⟩ := hSw.open3; go_simp; first | done | with_reducible rfl)
        try simp only [Act.put, pu2, pu3, pu4]
        refine tk 19 (v := ?vv19_40) (dropAt rfl) (Or.inl ⟨by rfl, ?hv19_40⟩) hH6 ?rv19_40
        case hv19_40 => (intro w hSw; obtain ⟨hS1, hS2, hS3, hS4, hS5⟩ := hSw.open3; go_simp; first | done | with_reducible rfl)
        try simp only [Act.put, pu2, pu3, pu4]
        refine tk 20 (v := ?vv20_41) (dropAt rfl) (Or.inl ⟨by rfl, ?hv20_41⟩) hH6 ?rv20_41
        case hv20_41 => (intro w hSw; obtain ⟨hS1, hS2, hS3, hS4, hS5⟩ := hSw.open3; go_simp; first | done | with_reducible rfl)
        try simp only [Act.put, pu2, pu3, pu4]
        refine tk 21 (v := undef) (dropAt rfl) (Or.inr ⟨rfl, rfl⟩) hH6 ?_
        try simp only [Act.put, pu2, pu3, pu4]
        refine tk 22 (v := undef) (dropAt rfl) (Or.inr ⟨rfl, rfl⟩) hH6 ?_
        try simp only [Act.put, pu2, pu3, pu4]
        refine tk 23 (v := undef) (dropAt rfl) (Or.inr ⟨rfl, rfl⟩) hH6 ?_
        try simp only [Act.put, pu2, pu3, pu4]
        refine tk 24 (v := undef) (dropAt rfl) (Or.inr ⟨rfl, rfl⟩) hH6 ?_
        try simp only [Act.put, pu2, pu3, pu4]
        refine tk 25 (v := undef) (dropAt rfl) (Or.inr ⟨rfl, rfl⟩) hH6 ?_
        try simp only [Act.put, pu2, pu3, pu4]
        refine tk 26 (v := undef) (dropAt rfl) (Or.inr ⟨rfl, rfl⟩) hH6 ?_
        try simp only [Act.put, pu2, pu3, pu4]
        refine tk 27 (v := undef) (dropAt rfl) (Or.inr ⟨rfl, rfl⟩) hH6 ?_
        try simp only [Act.put, pu2, pu3, pu4]
        refine tk 28 (v := undef) (dropAt rfl) (Or.inr ⟨rfl, rfl⟩) hH6 ?_
        try simp only [Act.put, pu2, pu3, pu4]
        refine tk 29 (v := ?vv29_42) (dropAt rfl) (Or.inl ⟨by rfl, ?hv29_42⟩) hH6 ?rv29_42
        case hv29_42 => (intro w hSw; obtain ⟨hS1, hS2, hS3, hS4, hS5⟩ := hSw.open3; go_simp; first | done | with_reducible rfl)
        try simp only [Act.put, pu2, pu3, pu4]
        refine wpAnyH_done (by kernel_rfl) ?_ _
        have hQf : Q1 = false := by rw [HEQ.out, ← HEF1.out]; simp
        have hFf : F = false := by rw [HFE.out, hQf]; simp
        have HFF := Lib.hid hFf
        have HGB := Lib.hid (HGW.out _ (HCX.out.gb.trans (.of_grown HG6.out (fun k hk => by injection hk with hk; exact .inl hk.symm))))
        clear hFf hQf
        go_wp2
        go_ret
        exact ⟨ret_bool HFF.out.symm, fun h => (by rw [HFF.out] at h; cases h), HGB.out⟩
       | true =>
        have hcb := HCX.out.one HNE.out.2.2 HG6.out (HSET.out rfl)
        have HCB := Lib.hid hcb
        clear hcb
        refine tk 18 (v := ?vv18_43) (dropAt rfl) (Or.inl ⟨by rfl, ?hv18_43⟩) hH6 ?rv18_43
        case hv18_43 => (intro w hSw; obtain ⟨hS1, hS2, hS3, hS4, hS5⟩ := hSw.open3; go_simp; first | done | with_reducible rfl)
        try simp only [Act.put, pu2, pu3, pu4]
        refine tk 19 (v := ?vv19_44) (dropAt rfl) (Or.inl ⟨by rfl, ?hv19_44⟩) hH6 ?rv19_44
        case hv19_44 => (intro w hSw; obtain ⟨hS1, hS2, hS3, hS4, hS5⟩ := hSw.open3; go_simp; first | done | with_reducible rfl)
        try simp only [Act.put, pu2, pu3, pu4]
        refine tk 20 (v := ?vv20_45) (dropAt rfl) (Or.inl ⟨by rfl, ?hv20_45⟩) hH6 ?rv20_45
        case hv20_45 => (intro w hSw; obtain ⟨hS1, hS2, hS3, hS4, hS5⟩ := hSw.open3; go_simp; first | done | with_reducible rfl)
        try simp only [Act.put, pu2, pu3, pu4]
        refine tk 21 (v := ?vv21_46) (dropAt rfl) (Or.inl ⟨by rfl, ?hv21_46⟩) hH6 ?rv21_46
        case hv21_46 => (intro w hSw; obtain ⟨hS1, hS2, hS3, hS4, hS5⟩ := hSw.open3; go_simp; first | done | with_reducible rfl)
        try simp only [Act.put, pu2, pu3, pu4]
        refine tk 22 (v := ?vv22_47) (dropAt rfl) (Or.inl ⟨by rfl, ?hv22_47⟩) hH6 ?rv22_47
        case hv22_47 => (intro w hSw; obtain ⟨hS1, hS2, hS3, hS4, hS5⟩ := hSw.open3; go_simp; first | done | with_reducible rfl)
        try simp only [Act.put, pu2, pu3, pu4]
        refine tk 23 (v := ?vv23_48) (dropAt rfl) (Or.inl ⟨by rfl, ?hv23_48⟩) hH6 ?rv23_48
        case hv23_48 => (intro w hSw; obtain ⟨hS1, hS2, hS3, hS4, hS5⟩ := hSw.open3; go_simp; first | done | with_reducible rfl)
        try simp only [Act.put, pu2, pu3, pu4]
        refine tk 24 (v := ?vv24_49) (dropAt rfl) (Or.inl ⟨by rfl, ?hv24_49⟩) hH6 ?rv24_49
        case hv24_49 => (intro w hSw; obtain ⟨hS1, hS2, hS3, hS4, hS5⟩ := hSw.open3; go_simp; first | done | with_reducible rfl)
        try simp only [Act.put, pu2, pu3, pu4]
        refine tk 25 (v := ?vv25_50) (dropAt rfl) (Or.inl ⟨by rfl, ?hv25_50⟩) hH6 ?rv25_50
        case hv25_50 => (intro w hSw; obtain ⟨hS1, hS2, hS3, hS4, hS5⟩ := hSw.open3; go_simp; first | done | with_reducible rfl)
        try simp only [Act.put, pu2, pu3, pu4]
        refine tk 26 (v := ?vv26_51) (dropAt rfl) (Or.inl ⟨by rfl, ?hv26_51⟩) hH6 ?rv26_51
        case hv26_51 => (intro w hSw; obtain ⟨hS1, hS2, hS3, hS4, hS5⟩ := hSw.open3; go_simp; first | done | with_reducible rfl)
        try simp only [Act.put, pu2, pu3, pu4]
        have HFI := first_any b2 (n2 + k) _ y1 w6 HCB.out.own2 hbx.2 (by omega)
        obtain ⟨F2, hF2⟩ : ∃ F2, F2 = (decide (1 ≤ y1) && !decide (y1 ∈ (((p.leases.take k).map (·.2.1)).reverse ++ Sb))) := ⟨_, rfl⟩
        rw [← hF2] at HFI
        have HEF2 := Lib.hid hF2
        clear hF2
        replace HFI := Lib.hid HFI
        refine wpAnyH_ready (rs := [27]) (by kernel_rfl) (by simp) ?_
        refine AllReadyH.cons (o := _) (dropAt (r := _) rfl) (fun K hK => ?_) AllReadyH.nil
        go_simp
        refine HFI.out.mono ?_
        rintro e w7 ⟨rfl, hset2, hg7⟩
        have hH7 : CC X Y b1 b2 [I64 y0, I64 y1, I64 y2] w7 := hH6.kept hg7 (fun e => HNE.out.1.2 (by injection e)) (fun e => HYL.out.2 (by injection e))
        refine hK.out _ _ hH7 (fun hHeldq => ?_)
        clear hK K
        try simp only [Act.put, pu2, pu3, pu4]
        refine tk 28 (v := ?vv28_52) (dropAt rfl) (Or.inl ⟨by rfl, ?hv28_52⟩) hH7 ?rv28_52
        case hv28_52 => (intro w hSw; obtain ⟨hS1, hS2, hS3, hS4, hS5⟩ := hSw.open3; go_simp; first | done | with_reducible rfl)
        try simp only [Act.put, pu2, pu3, pu4]
        refine tk 29 (v := ?vv29_53) (dropAt rfl) (Or.inl ⟨by rfl, ?hv29_53⟩) hH7 ?rv29_53
        case hv29_53 => (intro w hSw; obtain ⟨hS1, hS2, hS3, hS4, hS5⟩ := hSw.open3; go_simp; first | done | with_reducible rfl)
        try simp only [Act.put, pu2, pu3, pu4]
        refine wpAnyH_done (by kernel_rfl) ?_ _
        have HSET2 := Lib.hid hset2
        have HG7 := Lib.hid hg7
        clear hset2 hg7 HFI
        obtain ⟨_, _, r0, _, _⟩ := hH7.open3
        cases F2 with
        | false =>
         have hQf : Q1 = false := by rw [HEQ.out, ← HEF1.out, ← HEF2.out]; simp
         have hFf : F = false := by rw [HFE.out, hQf]; simp
         have HFF := Lib.hid hFf
         have HGB := Lib.hid (HGW.out _ (HCB.out.gb.trans (.of_grown HG7.out (fun k hk => by injection hk with hk; exact .inr hk.symm))))
         clear hFf hQf
         go_wp2
         go_ret
         exact ⟨ret_bool HFF.out.symm, fun h => (by rw [HFF.out] at h; cases h), HGB.out⟩
        | true =>
         have hcc := HCB.out.two HNE.out.2.2 HG7.out (HSET2.out rfl)
         rw [← HTK.out, ← HTK2.out] at hcc
         have HCC := Lib.hid hcc
         have hqn := HEQ.out
         rw [← HEF1.out, ← HEF2.out, hob, h2b] at hqn
         simp only [Bool.not_false, Bool.true_and] at hqn
         rw [← HTK.out, ← HTK2.out] at hqn
         have HQN := Lib.hid hqn
         clear hqn hcc
         go_wp2
         case roundEnd =>
          refine ⟨⟨k + 1, y0, hlt, by rw [show (k : Int) + 1 = ((k + 1 : Nat) : Int) by omega], rfl, HCC, HQN⟩, ?_⟩
          simp [intOf]
          omega
  · have hkn2 : k = nl := by omega
    subst hkn2
    have hca := HCA.out
    have hq := HQ.out
    rw [HNL.out, List.take_length] at hca
    rw [HNL.out, List.take_length, List.drop_length] at hq
    have hq1 : Q1 = true := by rw [hq]; rfl
    have HCE := Lib.hid hca
    have HT1 := Lib.hid hq1
    obtain ⟨hp5, hp6, hp7⟩ := HPC.out wr HCA.out.gb
    clear hca hq hq1 HCA HQ HQ1 HC0
    go_wp2
    go_loopw [7, 11, 57] (fun lv _ kv wr => ∃ k : Nat, ∃ last : Int, k ≤ nd ∧ kv = .int .i64 k ∧ lv = .int .i64 last ∧ Hid (CAt b1 b2 (n1 + p.leases.length + k) (n2 + p.leases.length) (((p.dials.take k).map (·.1)).reverse ++ ((p.leases.map (·.1)).reverse ++ Sa)) ((p.leases.map (·.2.1)).reverse ++ Sb) w0 wr) ∧ Hid (Q2 = (Md.dialsOk last (p.dials.drop k) && Md.newOk (((p.dials.take k).map (·.1)).reverse ++ ((p.leases.map (·.1)).reverse ++ Sa)) ((p.dials.drop k).map (·.1))))) (fun _ _ kv _ => nd - (intOf kv).toNat)
    case atStart => exact ⟨0, 0, Nat.zero_le _, rfl, rfl, HCE, HQ2⟩
    case round =>
     obtain ⟨k, last, hkn, rfl, rfl, HCA, HQ⟩ := hrel
     by_cases hlt : k < nd
     · skip
       have hk : k < p.dials.length := by rw [← HND.out]; exact hlt
       obtain ⟨g, o, cap, e, _, hc⟩ := (HRD.out wr HCA.out.gb).form (by intro e; rw [e] at hk; simp at hk)
       injection e with e1 e2 e3
       subst e1
       clear e2 e3
       have p0 : wr.cell? ⟨g, o + k * 2, none⟩ = _ := hc k hk 0 _ rfl
       have p1 : wr.cell? ⟨g, o + k * 2 + 1, none⟩ = _ := hc k hk 1 _ rfl
       have heq := HQ.out
       rw [List.drop_eq_getElem_cons hk, dials_rest] at heq
       have hbx := HBD.out.2.1 _ (List.getElem_mem hk)
       have htk := take_map_rev (fun x => x.1) p.dials k hk ((p.leases.map (·.1)).reverse ++ Sa)
       generalize p.dials[k] = y at heq hbx htk p0 p1
       obtain ⟨y0, y1⟩ := y
       dsimp only at heq hbx htk p0 p1
       have HEQ := Lib.hid heq
       have HTK := Lib.hid htk
       have hca := HCA.out.below ((Below.refl wr.heap.size wr).alloc (Nat.le_refl _) (.cells #[I64 y0, .bool y1] 66))
       have hxc := HXC.out _ hca.gb
       have HY : Hid (CC X wr.heap.size b1 b2 [I64 y0, .bool y1] (wr.alloc (.cells #[I64 y0, .bool y1] 66)) ∧ CAt b1 b2 (n1 + p.leases.length + k) (n2 + p.leases.length) (((p.dials.take k).map (·.1)).reverse ++ ((p.leases.map (·.1)).reverse ++ Sa)) ((p.leases.map (·.2.1)).reverse ++ Sb) w0 (wr.alloc (.cells #[I64 y0, .bool y1] 66)) ∧ b1 < wr.heap.size ∧ b2 < wr.heap.size) := Lib.hid ⟨⟨hxc.1, hxc.2, fun i v hv => (blk_cell (blk_new wr (.cells #[I64 y0, .bool y1] 66)) i).trans (by simpa using hv)⟩, hca, HCA.out.own1.lt, HCA.out.own2.lt⟩
       clear heq htk hca hxc hc HCA HQ
       have hl1 : p.leases.length ≤ 1000000 := by rw [← HNL.out]; exact hlen.1
       go_wp2
       obtain ⟨Y, hY⟩ : ∃ Y, Y = wr.heap.size := ⟨_, rfl⟩
       obtain ⟨w4, hw4⟩ : ∃ x, x = wr.alloc (.cells #[I64 y0, .bool y1] 66) := ⟨_, rfl⟩
       rw [← hw4, ← hY] at HY
       simp only [← hw4, ← hY]
       have hY2 := HY.out
       clear hw4 hY
       obtain ⟨wx, hwx⟩ : ∃ x, x = w4.drew := ⟨_, rfl⟩
       have HCI : Hid (CC X Y b1 b2 [I64 y0, .bool y1] wx) := by rw [hwx]; exact Lib.hid hY2.1
       have HCX := Lib.hid (hY2.2.1.below (Below.refl w4.heap.size w4).drew)
       rw [← hwx] at HCX
       have HYL : Hid (Y ≠ b1 ∧ Y ≠ b2) := Lib.hid ⟨by have := hY2.2.2.1; omega, by have := hY2.2.2.2; omega⟩
       clear hY2 HY
       by_cases h2 : y0 ≤ last
       · have h2b : decide (y0 ≤ last) = true := by simp [h2]
         refine wp_region_held_drew (S := CC X Y b1 b2 [I64 y0, .bool y1]) (by kernel_rfl) (by rw [← hwx]; exact HCI.out) (fun hHeld => ?_)
         rw [← hwx] at hHeld ⊢
         clear hwx
         refine tk 0 (v := ?vv0_54) (dropAt rfl) (Or.inl ⟨by rfl, ?hv0_54⟩) hHeld ?rv0_54
         case hv0_54 => (intro w hSw; obtain ⟨hS1, hS2, hS3, hS4⟩ := hSw.open2; go_simp; first | done | with_reducible rfl)
         try simp only [Act.put, pu2, pu3, pu4]
         refine tk 1 (v := ?vv1_55) (dropAt rfl) (Or.inl ⟨by rfl, ?hv1_55⟩) hHeld ?rv1_55
         case hv1_55 => (intro w hSw; obtain ⟨hS1, hS2, hS3, hS4⟩ := hSw.open2; go_simp; first | done | with_reducible rfl)
         try simp only [Act.put, pu2, pu3, pu4]
         refine tk 2 (v := ?vv2_56) (dropAt rfl) (Or.inl ⟨by rfl, ?hv2_56⟩) hHeld ?rv2_56
         case hv2_56 => (intro w hSw; obtain ⟨hS1, hS2, hS3, hS4⟩ := hSw.open2; go_simp; first | done | with_reducible rfl)
         try simp only [Act.put, pu2, pu3, pu4]
         refine tk 3 (v := ?vv3_57) (dropAt rfl) (Or.inl ⟨by rfl, ?hv3_57⟩) hHeld ?rv3_57
         case hv3_57 => (intro w hSw; obtain ⟨hS1, hS2, hS3, hS4⟩ := hSw.open2; go_simp; first | done | with_reducible rfl)
         try simp only [Act.put, pu2, pu3, pu4]
         refine tk 4 (v := ?vv4_58) (dropAt rfl) (Or.inl ⟨by rfl, ?hv4_58⟩) hHeld ?rv4_58
         case hv4_58 => (intro w hSw; obtain ⟨hS1, hS2, hS3, hS4⟩ := hSw.open2; go_simp; first | done | with_reducible rfl)
         try simp only [Act.put, pu2, pu3, pu4]
         refine tk 5 (v := undef) (dropAt rfl) (Or.inr ⟨rfl, rfl⟩) hHeld ?_
         try simp only [Act.put, pu2, pu3, pu4]
         refine tk 6 (v := undef) (dropAt rfl) (Or.inr ⟨rfl, rfl⟩) hHeld ?_
         try simp only [Act.put, pu2, pu3, pu4]
         refine tk 7 (v := undef) (dropAt rfl) (Or.inr ⟨rfl, rfl⟩) hHeld ?_
         try simp only [Act.put, pu2, pu3, pu4]
         refine tk 8 (v := undef) (dropAt rfl) (Or.inr ⟨rfl, rfl⟩) hHeld ?_
         try simp only [Act.put, pu2, pu3, pu4]
         refine tk 9 (v := undef) (dropAt rfl) (Or.inr ⟨rfl, rfl⟩) hHeld ?_
         try simp only [Act.put, pu2, pu3, pu4]
         refine tk 10 (v := undef) (dropAt rfl) (Or.inr ⟨rfl, rfl⟩) hHeld ?_
         try simp only [Act.put, pu2, pu3, pu4]
         refine tk 11 (v := undef) (dropAt rfl) (Or.inr ⟨rfl, rfl⟩) hHeld ?_
         try simp only [Act.put, pu2, pu3, pu4]
         refine tk 12 (v := undef) (dropAt rfl) (Or.inr ⟨rfl, rfl⟩) hHeld ?_
         try simp only [Act.put, pu2, pu3, pu4]
         refine tk 13 (v := ?vv13_59) (dropAt rfl) (Or.inl ⟨by rfl, ?hv13_59⟩) hHeld ?rv13_59
         case hv13_59 => (intro w hSw; obtain ⟨hS1, hS2, hS3, hS4⟩ := hSw.open2; go_simp; first | done | with_reducible rfl)
         try simp only [Act.put, pu2, pu3, pu4]
         refine wpAnyH_done (by kernel_rfl) ?_ _
         have hQf : Q2 = false := by rw [HEQ.out]; simp [h2]
         have hFf : F = false := by rw [HFE.out, hQf]; simp
         have HFF := Lib.hid hFf
         have HGB := Lib.hid (HGW.out _ (HCX.out.gb))
         clear hFf hQf
         go_wp2
         go_ret
         exact ⟨ret_bool HFF.out.symm, fun h => (by rw [HFF.out] at h; cases h), HGB.out⟩
       · have h2b : decide (y0 ≤ last) = false := by simp [h2]
         refine wp_region_held_drew (S := CC X Y b1 b2 [I64 y0, .bool y1]) (by kernel_rfl) (by rw [← hwx]; exact HCI.out) (fun hHeld => ?_)
         rw [← hwx] at hHeld ⊢
         clear hwx
         refine tk 0 (v := ?vv0_60) (dropAt rfl) (Or.inl ⟨by rfl, ?hv0_60⟩) hHeld ?rv0_60
         case hv0_60 => (intro w hSw; obtain ⟨hS1, hS2, hS3, hS4⟩ := hSw.open2; go_simp; first | done | with_reducible rfl)
         try simp only [Act.put, pu2, pu3, pu4]
         refine tk 1 (v := ?vv1_61) (dropAt rfl) (Or.inl ⟨by rfl, ?hv1_61⟩) hHeld ?rv1_61
         case hv1_61 => (intro w hSw; obtain ⟨hS1, hS2, hS3, hS4⟩ := hSw.open2; go_simp; first | done | with_reducible rfl)
         try simp only [Act.put, pu2, pu3, pu4]
         refine tk 2 (v := ?vv2_62) (dropAt rfl) (Or.inl ⟨by rfl, ?hv2_62⟩) hHeld ?rv2_62
         case hv2_62 => (intro w hSw; obtain ⟨hS1, hS2, hS3, hS4⟩ := hSw.open2; go_simp; first | done | with_reducible rfl)
         try simp only [Act.put, pu2, pu3, pu4]
         refine tk 3 (v := ?vv3_63) (dropAt rfl) (Or.inl ⟨by rfl, ?hv3_63⟩) hHeld ?rv3_63
         case hv3_63 => (intro w hSw; obtain ⟨hS1, hS2, hS3, hS4⟩ := hSw.open2; go_simp; first | done | with_reducible rfl)
         try simp only [Act.put, pu2, pu3, pu4]
         refine tk 4 (v := ?vv4_64) (dropAt rfl) (Or.inl ⟨by rfl, ?hv4_64⟩) hHeld ?rv4_64
         case hv4_64 => (intro w hSw; obtain ⟨hS1, hS2, hS3, hS4⟩ := hSw.open2; go_simp; first | done | with_reducible rfl)
         try simp only [Act.put, pu2, pu3, pu4]
         refine tk 5 (v := ?vv5_65) (dropAt rfl) (Or.inl ⟨by rfl, ?hv5_65⟩) hHeld ?rv5_65
         case hv5_65 => (intro w hSw; obtain ⟨hS1, hS2, hS3, hS4⟩ := hSw.open2; go_simp; first | done | with_reducible rfl)
         try simp only [Act.put, pu2, pu3, pu4]
         refine tk 6 (v := ?vv6_66) (dropAt rfl) (Or.inl ⟨by rfl, ?hv6_66⟩) hHeld ?rv6_66
         case hv6_66 => (intro w hSw; obtain ⟨hS1, hS2, hS3, hS4⟩ := hSw.open2; go_simp; first | done | with_reducible rfl)
         try simp only [Act.put, pu2, pu3, pu4]
         refine tk 7 (v := ?vv7_67) (dropAt rfl) (Or.inl ⟨by rfl, ?hv7_67⟩) hHeld ?rv7_67
         case hv7_67 => (intro w hSw; obtain ⟨hS1, hS2, hS3, hS4⟩ := hSw.open2; go_simp; first | done | with_reducible rfl)
         try simp only [Act.put, pu2, pu3, pu4]
         refine tk 8 (v := ?vv8_68) (dropAt rfl) (Or.inl ⟨by rfl, ?hv8_68⟩) hHeld ?rv8_68
         case hv8_68 => (intro w hSw; obtain ⟨hS1, hS2, hS3, hS4⟩ := hSw.open2; go_simp; first | done | with_reducible rfl)
         try simp only [Act.put, pu2, pu3, pu4]
         refine tk 9 (v := ?vv9_69) (dropAt rfl) (Or.inl ⟨by rfl, ?hv9_69⟩) hHeld ?rv9_69
         case hv9_69 => (intro w hSw; obtain ⟨hS1, hS2, hS3, hS4⟩ := hSw.open2; go_simp; first | done | with_reducible rfl)
         try simp only [Act.put, pu2, pu3, pu4]
         refine tk 10 (v := ?vv10_70) (dropAt rfl) (Or.inl ⟨by rfl, ?hv10_70⟩) hHeld ?rv10_70
         case hv10_70 => (intro w hSw; obtain ⟨hS1, hS2, hS3, hS4⟩ := hSw.open2; go_simp; first | done | with_reducible rfl)
         try simp only [Act.put, pu2, pu3, pu4]
         have HFI := first_any b1 (n1 + p.leases.length + k) _ y0 wx HCX.out.own1 hbx (by omega)
         obtain ⟨F1, hF1⟩ : ∃ F1, F1 = (decide (1 ≤ y0) && !decide (y0 ∈ (((p.dials.take k).map (·.1)).reverse ++ ((p.leases.map (·.1)).reverse ++ Sa)))) := ⟨_, rfl⟩
         rw [← hF1] at HFI
         have HEF1 := Lib.hid hF1
         clear hF1
         replace HFI := Lib.hid HFI
         refine wpAnyH_ready (rs := [11]) (by kernel_rfl) (by simp) ?_
         refine AllReadyH.cons (o := _) (dropAt (r := _) rfl) (fun K hK => ?_) AllReadyH.nil
         go_simp
         refine HFI.out.mono ?_
         rintro e w6 ⟨rfl, hset, hg6⟩
         have hH6 : CC X Y b1 b2 [I64 y0, .bool y1] w6 := hHeld.kept hg6 (fun e => HNE.out.1.1 (by injection e)) (fun e => HYL.out.1 (by injection e))
         refine hK.out _ _ hH6 (fun hHeldq => ?_)
         clear hK K
         try simp only [Act.put, pu2, pu3, pu4]
         refine tk 12 (v := ?vv12_71) (dropAt rfl) (Or.inl ⟨by rfl, ?hv12_71⟩) hH6 ?rv12_71
         case hv12_71 => (intro w hSw; obtain ⟨hS1, hS2, hS3, hS4⟩ := hSw.open2; go_simp; first | done | with_reducible rfl)
         try simp only [Act.put, pu2, pu3, pu4]
         refine tk 13 (v := ?vv13_72) (dropAt rfl) (Or.inl ⟨by rfl, ?hv13_72⟩) hH6 ?rv13_72
         case hv13_72 => (intro w hSw; obtain ⟨hS1, hS2, hS3, hS4⟩ := hSw.open2; go_simp; first | done | with_reducible rfl)
         try simp only [Act.put, pu2, pu3, pu4]
         refine wpAnyH_done (by kernel_rfl) ?_ _
         have HSET := Lib.hid hset
         have HG6 := Lib.hid hg6
         clear hset hg6 HFI
         obtain ⟨_, _, r0, _⟩ := hH6.open2
         cases F1 with
         | false =>
          have hQf : Q2 = false := by rw [HEQ.out, ← HEF1.out]; simp
          have hFf : F = false := by rw [HFE.out, hQf]; simp
          have HFF := Lib.hid hFf
          have HGB := Lib.hid (HGW.out _ (HCX.out.gb.trans (.of_grown HG6.out (fun k hk => by injection hk with hk; exact .inl hk.symm))))
          clear hFf hQf
          go_wp2
          go_ret
          exact ⟨ret_bool HFF.out.symm, fun h => (by rw [HFF.out] at h; cases h), HGB.out⟩
         | true =>
          have hcc := HCX.out.one HNE.out.2.2 HG6.out (HSET.out rfl)
          rw [← HTK.out] at hcc
          have HCC := Lib.hid hcc
          have hqn := HEQ.out
          rw [← HEF1.out, h2b] at hqn
          simp only [Bool.not_false, Bool.true_and] at hqn
          rw [← HTK.out] at hqn
          have HQN := Lib.hid hqn
          clear hqn hcc
          go_wp2
          case roundEnd =>
           refine ⟨⟨k + 1, y0, hlt, by rw [show (k : Int) + 1 = ((k + 1 : Nat) : Int) by omega], rfl, HCC, HQN⟩, ?_⟩
           simp [intOf]
           omega
     · have hkn3 : k = nd := by omega
       subst hkn3
       have hca := HCA.out
       have hq := HQ.out
       rw [HND.out, List.take_length] at hca
       rw [HND.out, List.take_length, List.drop_length] at hq
       have hq1 : Q2 = true := by rw [hq]; rfl
       have HCF := Lib.hid hca
       have HT2 := Lib.hid hq1
       obtain ⟨hr5, hr6, hr7⟩ := HPC.out wr HCA.out.gb
       clear hca hq hq1 HCA HQ HQ2 HCE hp5 hp6 hp7
       go_wp2
       go_loopw [13, 81] (fun _ kv wr => ∃ k : Nat, k ≤ nw ∧ kv = .int .i64 k ∧ Hid (CAt b1 b2 (n1 + p.leases.length + p.dials.length + k) (n2 + p.leases.length) (((p.waiters.take k).map (·.1)).reverse ++ ((p.dials.map (·.1)).reverse ++ ((p.leases.map (·.1)).reverse ++ Sa))) ((p.leases.map (·.2.1)).reverse ++ Sb) w0 wr) ∧ Hid (Q3 = (Md.waitersOk now (p.waiters.drop k) && Md.newOk (((p.waiters.take k).map (·.1)).reverse ++ ((p.dials.map (·.1)).reverse ++ ((p.leases.map (·.1)).reverse ++ Sa))) ((p.waiters.drop k).map (·.1))))) (fun _ kv _ => nw - (intOf kv).toNat)
       case atStart => exact ⟨0, Nat.zero_le _, rfl, HCF, HQ3⟩
       case round =>
        obtain ⟨k, hkn, rfl, HCA, HQ⟩ := hrel
        by_cases hlt : k < nw
        · skip
          have hk : k < p.waiters.length := by rw [← HNW.out]; exact hlt
          obtain ⟨g, o, cap, e, _, hc⟩ := (HRW.out wr HCA.out.gb).form (by intro e; rw [e] at hk; simp at hk)
          injection e with e1 e2 e3
          subst e1
          clear e2 e3
          have p0 : wr.cell? ⟨g, o + k * 2, none⟩ = _ := hc k hk 0 _ rfl
          have p1 : wr.cell? ⟨g, o + k * 2 + 1, none⟩ = _ := hc k hk 1 _ rfl
          have heq := HQ.out
          rw [List.drop_eq_getElem_cons hk, waiters_rest] at heq
          have hbx := HBD.out.2.2 _ (List.getElem_mem hk)
          have htk := take_map_rev (fun x => x.1) p.waiters k hk ((p.dials.map (·.1)).reverse ++ ((p.leases.map (·.1)).reverse ++ Sa))
          generalize p.waiters[k] = y at heq hbx htk p0 p1
          obtain ⟨y0, y1⟩ := y
          dsimp only at heq hbx htk p0 p1
          have HEQ := Lib.hid heq
          have HTK := Lib.hid htk
          have hca := HCA.out.below ((Below.refl wr.heap.size wr).alloc (Nat.le_refl _) (.cells #[I64 y0, I64 y1] 58))
          have hxc := HXC.out _ hca.gb
          have HY : Hid (CC X wr.heap.size b1 b2 [I64 y0, I64 y1] (wr.alloc (.cells #[I64 y0, I64 y1] 58)) ∧ CAt b1 b2 (n1 + p.leases.length + p.dials.length + k) (n2 + p.leases.length) (((p.waiters.take k).map (·.1)).reverse ++ ((p.dials.map (·.1)).reverse ++ ((p.leases.map (·.1)).reverse ++ Sa))) ((p.leases.map (·.2.1)).reverse ++ Sb) w0 (wr.alloc (.cells #[I64 y0, I64 y1] 58)) ∧ b1 < wr.heap.size ∧ b2 < wr.heap.size) := Lib.hid ⟨⟨hxc.1, hxc.2, fun i v hv => (blk_cell (blk_new wr (.cells #[I64 y0, I64 y1] 58)) i).trans (by simpa using hv)⟩, hca, HCA.out.own1.lt, HCA.out.own2.lt⟩
          clear heq htk hca hxc hc HCA HQ
          have hl1 : p.leases.length ≤ 1000000 := by rw [← HNL.out]; exact hlen.1
          have hl2 : p.dials.length ≤ 1000000 := by rw [← HND.out]; exact hlen.2.1
          go_wp2
          obtain ⟨Y, hY⟩ : ∃ Y, Y = wr.heap.size := ⟨_, rfl⟩
          obtain ⟨w4, hw4⟩ : ∃ x, x = wr.alloc (.cells #[I64 y0, I64 y1] 58) := ⟨_, rfl⟩
          rw [← hw4, ← hY] at HY
          simp only [← hw4, ← hY]
          have hY2 := HY.out
          clear hw4 hY
          obtain ⟨wx, hwx⟩ : ∃ x, x = w4.drew := ⟨_, rfl⟩
          have HCI : Hid (CC X Y b1 b2 [I64 y0, I64 y1] wx) := by rw [hwx]; exact Lib.hid hY2.1
          have HCX := Lib.hid (hY2.2.1.below (Below.refl w4.heap.size w4).drew)
          rw [← hwx] at HCX
          have HYL : Hid (Y ≠ b1 ∧ Y ≠ b2) := Lib.hid ⟨by have := hY2.2.2.1; omega, by have := hY2.2.2.2; omega⟩
          clear hY2 HY
          cases hob : outB y1 (now + 1) 1000000000000 with
          | true =>
           have HOUT := Lib.hid (outs_any y1 (now + 1) 1000000000000 true hob)
           refine wp_region_held_drew (S := CC X Y b1 b2 [I64 y0, I64 y1]) (by kernel_rfl) (by rw [← hwx]; exact HCI.out) (fun hHeld => ?_)
           rw [← hwx] at hHeld ⊢
           clear hwx
           refine tk 0 (v := ?vv0_73) (dropAt rfl) (Or.inl ⟨by rfl, ?hv0_73⟩) hHeld ?rv0_73
           case hv0_73 => (intro w hSw; obtain ⟨hS1, hS2, hS3, hS4⟩ := hSw.open2; go_simp; first | done | with_reducible rfl)
           try simp only [Act.put, pu2, pu3, pu4]
           refine tk 1 (v := ?vv1_74) (dropAt rfl) (Or.inl ⟨by rfl, ?hv1_74⟩) hHeld ?rv1_74
           case hv1_74 => (intro w hSw; obtain ⟨hS1, hS2, hS3, hS4⟩ := hSw.open2; go_simp; first | done | with_reducible rfl)
           try simp only [Act.put, pu2, pu3, pu4]
           refine tk 2 (v := ?vv2_75) (dropAt rfl) (Or.inl ⟨by rfl, ?hv2_75⟩) hHeld ?rv2_75
           case hv2_75 => (intro w hSw; obtain ⟨hS1, hS2, hS3, hS4⟩ := hSw.open2; go_simp; first | done | with_reducible rfl)
           try simp only [Act.put, pu2, pu3, pu4]
           refine tk 3 (v := ?vv3_76) (dropAt rfl) (Or.inl ⟨by rfl, ?hv3_76⟩) hHeld ?rv3_76
           case hv3_76 => (intro w hSw; obtain ⟨hS1, hS2, hS3, hS4⟩ := hSw.open2; go_simp; first | done | with_reducible rfl)
           try simp only [Act.put, pu2, pu3, pu4]
           refine wpAnyH_ready (rs := [4]) (by kernel_rfl) (by simp) ?_
           refine AllReadyH.cons (o := _) (dropAt (r := _) rfl) (fun K hK => ?_) AllReadyH.nil
           go_simp
           refine (HOUT.out _).mono ?_
           rintro e w5 ⟨rfl, rfl⟩
           refine hK.out _ _ hHeld (fun hHeld2 => ?_)
           clear hK K
           try simp only [Act.put, pu2, pu3, pu4]
           refine tk 5 (v := ?vv5_77) (dropAt rfl) (Or.inl ⟨by rfl, ?hv5_77⟩) hHeld ?rv5_77
           case hv5_77 => (intro w hSw; obtain ⟨hS1, hS2, hS3, hS4⟩ := hSw.open2; go_simp; first | done | with_reducible rfl)
           try simp only [Act.put, pu2, pu3, pu4]
           refine tk 6 (v := undef) (dropAt rfl) (Or.inr ⟨rfl, rfl⟩) hHeld ?_
           try simp only [Act.put, pu2, pu3, pu4]
           refine tk 7 (v := undef) (dropAt rfl) (Or.inr ⟨rfl, rfl⟩) hHeld ?_
           try simp only [Act.put, pu2, pu3, pu4]
           refine tk 8 (v := undef) (dropAt rfl) (Or.inr ⟨rfl, rfl⟩) hHeld ?_
           try simp only [Act.put, pu2, pu3, pu4]
           refine tk 9 (v := undef) (dropAt rfl) (Or.inr ⟨rfl, rfl⟩) hHeld ?_
           try simp only [Act.put, pu2, pu3, pu4]
           refine tk 10 (v := undef) (dropAt rfl) (Or.inr ⟨rfl, rfl⟩) hHeld ?_
           try simp only [Act.put, pu2, pu3, pu4]
           refine tk 11 (v := undef) (dropAt rfl) (Or.inr ⟨rfl, rfl⟩) hHeld ?_
           try simp only [Act.put, pu2, pu3, pu4]
           refine tk 12 (v := undef) (dropAt rfl) (Or.inr ⟨rfl, rfl⟩) hHeld ?_
           try simp only [Act.put, pu2, pu3, pu4]
           refine tk 13 (v := undef) (dropAt rfl) (Or.inr ⟨rfl, rfl⟩) hHeld ?_
           try simp only [Act.put, pu2, pu3, pu4]
           refine tk 14 (v := ?vv14_78) (dropAt rfl) (Or.inl ⟨by rfl, ?hv14_78⟩) hHeld ?rv14_78
           case hv14_78 => (intro w hSw; obtain ⟨hS1, hS2, hS3, hS4⟩ := hSw.open2; go_simp; first | done | with_reducible rfl)
           try simp only [Act.put, pu2, pu3, pu4]
           refine wpAnyH_done (by kernel_rfl) ?_ _
           have hQf : Q3 = false := by rw [HEQ.out, hob]; simp
           have hFf : F = false := by rw [HFE.out, hQf]; simp
           have HFF := Lib.hid hFf
           have HGB := Lib.hid (HGW.out _ (HCX.out.gb))
           clear hFf hQf
           go_wp2
           go_ret
           exact ⟨ret_bool HFF.out.symm, fun h => (by rw [HFF.out] at h; cases h), HGB.out⟩
          | false =>
           have HOUT := Lib.hid (outs_any y1 (now + 1) 1000000000000 false hob)
           refine wp_region_held_drew (S := CC X Y b1 b2 [I64 y0, I64 y1]) (by kernel_rfl) (by rw [← hwx]; exact HCI.out) (fun hHeld => ?_)
           rw [← hwx] at hHeld ⊢
           clear hwx
           refine tk 0 (v := ?vv0_79) (dropAt rfl) (Or.inl ⟨by rfl, ?hv0_79⟩) hHeld ?rv0_79
           case hv0_79 => (intro w hSw; obtain ⟨hS1, hS2, hS3, hS4⟩ := hSw.open2; go_simp; first | done | with_reducible rfl)
           try simp only [Act.put, pu2, pu3, pu4]
           refine tk 1 (v := ?vv1_80) (dropAt rfl) (Or.inl ⟨by rfl, ?hv1_80⟩) hHeld ?rv1_80
           case hv1_80 => (intro w hSw; obtain ⟨hS1, hS2, hS3, hS4⟩ := hSw.open2; go_simp; first | done | with_reducible rfl)
           try simp only [Act.put, pu2, pu3, pu4]
           refine tk 2 (v := ?vv2_81) (dropAt rfl) (Or.inl ⟨by rfl, ?hv2_81⟩) hHeld ?rv2_81
           case hv2_81 => (intro w hSw; obtain ⟨hS1, hS2, hS3, hS4⟩ := hSw.open2; go_simp; first | done | with_reducible rfl)
           try simp only [Act.put, pu2, pu3, pu4]
           refine tk 3 (v := ?vv3_82) (dropAt rfl) (Or.inl ⟨by rfl, ?hv3_82⟩) hHeld ?rv3_82
           case hv3_82 => (intro w hSw; obtain ⟨hS1, hS2, hS3, hS4⟩ := hSw.open2; go_simp; first | done | with_reducible rfl)
           try simp only [Act.put, pu2, pu3, pu4]
           refine wpAnyH_ready (rs := [4]) (by kernel_rfl) (by simp) ?_
           refine AllReadyH.cons (o := _) (dropAt (r := _) rfl) (fun K hK => ?_) AllReadyH.nil
           go_simp
           refine (HOUT.out _).mono ?_
           rintro e w5 ⟨rfl, rfl⟩
           refine hK.out _ _ hHeld (fun hHeld2 => ?_)
           clear hK K
           try simp only [Act.put, pu2, pu3, pu4]
           refine tk 5 (v := ?vv5_83) (dropAt rfl) (Or.inl ⟨by rfl, ?hv5_83⟩) hHeld ?rv5_83
           case hv5_83 => (intro w hSw; obtain ⟨hS1, hS2, hS3, hS4⟩ := hSw.open2; go_simp; first | done | with_reducible rfl)
           try simp only [Act.put, pu2, pu3, pu4]
           refine tk 6 (v := ?vv6_84) (dropAt rfl) (Or.inl ⟨by rfl, ?hv6_84⟩) hHeld ?rv6_84
           case hv6_84 => (intro w hSw; obtain ⟨hS1, hS2, hS3, hS4⟩ := hSw.open2; go_simp; first | done | with_reducible rfl)
           try simp only [Act.put, pu2, pu3, pu4]
           refine tk 7 (v := ?vv7_85) (dropAt rfl) (Or.inl ⟨by rfl, ?hv7_85⟩) hHeld ?rv7_85
           case hv7_85 => (intro w hSw; obtain ⟨hS1, hS2, hS3, hS4⟩ := hSw.open2; go_simp; first | done | with_reducible rfl)
           try simp only [Act.put, pu2, pu3, pu4]
           refine tk 8 (v := ?vv8_86) (dropAt rfl) (Or.inl ⟨by rfl, ?hv8_86⟩) hHeld ?rv8_86
           case hv8_86 => (intro w hSw; obtain ⟨hS1, hS2, hS3, hS4⟩ := hSw.open2; go_simp; first | done | with_reducible rfl)
           try simp only [Act.put, pu2, pu3, pu4]
           refine tk 9 (v := ?vv9_87) (dropAt rfl) (Or.inl ⟨by rfl, ?hv9_87⟩) hHeld ?rv9_87
           case hv9_87 => (intro w hSw; obtain ⟨hS1, hS2, hS3, hS4⟩ := hSw.open2; go_simp; first | done | with_reducible rfl)
           try simp only [Act.put, pu2, pu3, pu4]
           refine tk 10 (v := ?vv10_88) (dropAt rfl) (Or.inl ⟨by rfl, ?hv10_88⟩) hHeld ?rv10_88
           case hv10_88 => (intro w hSw; obtain ⟨hS1, hS2, hS3, hS4⟩ := hSw.open2; go_simp; first | done | with_reducible rfl)
           try simp only [Act.put, pu2, pu3, pu4]
           refine tk 11 (v := ?vv11_89) (dropAt rfl) (Or.inl ⟨by rfl, ?hv11_89⟩) hHeld ?rv11_89
           case hv11_89 => (intro w hSw; obtain ⟨hS1, hS2, hS3, hS4⟩ := hSw.open2; go_simp; first | done | with_reducible rfl)
           try simp only [Act.put, pu2, pu3, pu4]
           have HFI := first_any b1 (n1 + p.leases.length + p.dials.length + k) _ y0 w5 HCX.out.own1 hbx (by omega)
           obtain ⟨F1, hF1⟩ : ∃ F1, F1 = (decide (1 ≤ y0) && !decide (y0 ∈ (((p.waiters.take k).map (·.1)).reverse ++ ((p.dials.map (·.1)).reverse ++ ((p.leases.map (·.1)).reverse ++ Sa))))) := ⟨_, rfl⟩
           rw [← hF1] at HFI
           have HEF1 := Lib.hid hF1
           clear hF1
           replace HFI := Lib.hid HFI
           refine wpAnyH_ready (rs := [12]) (by kernel_rfl) (by simp) ?_
           refine AllReadyH.cons (o := _) (dropAt (r := _) rfl) (fun K hK => ?_) AllReadyH.nil
           go_simp
           refine HFI.out.mono ?_
           rintro e w6 ⟨rfl, hset, hg6⟩
           have hH6 : CC X Y b1 b2 [I64 y0, I64 y1] w6 := hHeld.kept hg6 (fun e => HNE.out.1.1 (by injection e)) (fun e => HYL.out.1 (by injection e))
           refine hK.out _ _ hH6 (fun hHeldq => ?_)
           clear hK K
           try simp only [Act.put, pu2, pu3, pu4]
           refine tk 13 (v := ?vv13_90) (dropAt rfl) (Or.inl ⟨by rfl, ?hv13_90⟩) hH6 ?rv13_90
           case hv13_90 => (intro w hSw; obtain ⟨hS1, hS2, hS3, hS4⟩ := hSw.open2; go_simp; first | done | with_reducible rfl)
           try simp only [Act.put, pu2, pu3, pu4]
           refine tk 14 (v := ?vv14_91) (dropAt rfl) (Or.inl ⟨by rfl, ?hv14_91⟩) hH6 ?rv14_91
           case hv14_91 => (intro w hSw; obtain ⟨hS1, hS2, hS3, hS4⟩ := hSw.open2; go_simp; first | done | with_reducible rfl)
           try simp only [Act.put, pu2, pu3, pu4]
           refine wpAnyH_done (by kernel_rfl) ?_ _
           have HSET := Lib.hid hset
           have HG6 := Lib.hid hg6
           clear hset hg6 HFI
           cases F1 with
           | false =>
            have hQf : Q3 = false := by rw [HEQ.out, ← HEF1.out]; simp
            have hFf : F = false := by rw [HFE.out, hQf]; simp
            have HFF := Lib.hid hFf
            have HGB := Lib.hid (HGW.out _ (HCX.out.gb.trans (.of_grown HG6.out (fun k hk => by injection hk with hk; exact .inl hk.symm))))
            clear hFf hQf
            go_wp2
            go_ret
            exact ⟨ret_bool HFF.out.symm, fun h => (by rw [HFF.out] at h; cases h), HGB.out⟩
           | true =>
            have hcc := HCX.out.one HNE.out.2.2 HG6.out (HSET.out rfl)
            rw [← HTK.out] at hcc
            have HCC := Lib.hid hcc
            have hqn := HEQ.out
            rw [← HEF1.out, hob] at hqn
            simp only [Bool.not_false, Bool.true_and] at hqn
            rw [← HTK.out] at hqn
            have HQN := Lib.hid hqn
            clear hqn hcc
            go_wp2
            case roundEnd =>
             refine ⟨⟨k + 1, hlt, by rw [show (k : Int) + 1 = ((k + 1 : Nat) : Int) by omega], HCC, HQN⟩, ?_⟩
             simp [intOf]
             omega
        · have hkn4 : k = nw := by omega
          subst hkn4
          have hca := HCA.out
          have hq := HQ.out
          rw [HNW.out, List.take_length] at hca
          rw [HNW.out, List.take_length, List.drop_length] at hq
          have hq1 : Q3 = true := by rw [hq]; rfl
          have hFt : F = true := by rw [HFE.out, HT1.out, HT2.out, hq1]; rfl
          have HCG2 := Lib.hid hca
          have HFT := Lib.hid hFt
          have HGG := Lib.hid (HGW.out _ HCA.out.gb)
          clear hca hq hq1 hFt HCA HQ HQ3 HCF hr5 hr6 hr7
          go_wp2
          go_ret
          refine ⟨ret_bool HFT.out.symm, fun _ => ?_, HGG.out⟩
          rw [HNL.out, HND.out, HNW.out]
          exact ⟨HCG2.out.own1, HCG2.out.own2⟩
end Go.Proofs.Ytaicmiadgnpimaa
