/-
  Walks for layer 26 (model): Check, whole.
-/
import Derived.Test.YtaicmiadgnpimaaMw46
import Derived.Test.YtaicmiadgnpimaaMgm
namespace Go.Proofs.Ytaicmiadgnpimaa
open Go.RowKit

theorem size_eq (p : Md.Pool) : Md.sizeOk p = ((!decide (p.lim.max < (p.leases.length : Int) + (p.dials.length : Int) + (p.idle.length : Int)) && !decide (p.lim.queue < (p.waiters.length : Int))) && !(decide (0 < (p.waiters.length : Int)) && decide ((p.leases.length : Int) + (p.dials.length : Int) < p.lim.max))) := by
 rw [Bool.eq_iff_iff, Md.sizeOk_iff]
 simp only [Bool.and_eq_true, Bool.not_eq_true', decide_eq_false_iff_not, Bool.and_eq_false_iff]
 have hu : Md.used p = p.leases.length + p.dials.length := rfl
 have hw : p.waiters ≠ [] ↔ 0 < p.waiters.length := by
  cases p.waiters <;> simp
 rw [hw]
 omega
theorem quiet_eq (now : Int) (sh : Bool) (p : Md.Pool) : Md.quietOk ⟨now, sh, []⟩ p = !(sh && (decide (0 < (p.waiters.length : Int)) || decide (0 < (p.idle.length : Int)))) := by
 unfold Md.quietOk
 cases sh <;> cases p.waiters <;> cases p.idle <;> simp <;> omega
theorem probe_eq (p : Md.Pool) : Md.probeOk p = !(decide (p.probe < 0) || (decide (0 < p.probe) && !(p.breaker == 2))) := by
 unfold Md.probeOk
 rw [Bool.eq_iff_iff]
 simp only [Bool.or_eq_true, Bool.and_eq_true, beq_iff_eq, decide_eq_true_eq, Bool.not_eq_true', Bool.or_eq_false_iff, decide_eq_false_iff_not, Bool.and_eq_false_iff, Bool.not_eq_false']
 omega
def PoolSmall (p : Md.Pool) : Prop := p.idle.length ≤ 100000 ∧ p.leases.length ≤ 100000 ∧ p.dials.length ≤ 100000 ∧ p.waiters.length ≤ 100000
theorem bnd_pool {s : Md.State} (h : Md.Bnd s) {k : Nat} (hk : k < s.pools.length) : (∀ x ∈ s.pools[k].idle, x.1 ≤ 9223372036854775807) ∧ (∀ x ∈ s.pools[k].leases, x.1 ≤ 9223372036854775807 ∧ x.2.1 ≤ 9223372036854775807) ∧ (∀ x ∈ s.pools[k].dials, x.1 ≤ 9223372036854775807) ∧ ∀ x ∈ s.pools[k].waiters, x.1 ≤ 9223372036854775807 := by
 have hc : ∀ n, n ∈ Md.pcalls s.pools[k] → n ≤ 9223372036854775807 := fun n hn => h.1 n (List.mem_flatMap.2 ⟨_, List.getElem_mem hk, hn⟩)
 have hd : ∀ n, n ∈ Md.pconns s.pools[k] → n ≤ 9223372036854775807 := fun n hn => h.2 n (List.mem_flatMap.2 ⟨_, List.getElem_mem hk, hn⟩)
 refine ⟨fun x hx => hd _ ?_, fun x hx => ⟨hc _ ?_, hd _ ?_⟩, fun x hx => hc _ ?_, fun x hx => hc _ ?_⟩
 · exact List.mem_append_right _ (List.mem_map_of_mem hx)
 · exact Md.mem_pcalls.2 (.inl (List.mem_map_of_mem hx))
 · exact List.mem_append_left _ (List.mem_map_of_mem hx)
 · exact Md.mem_pcalls.2 (.inr (.inl (List.mem_map_of_mem hx)))
 · exact Md.mem_pcalls.2 (.inr (.inr (List.mem_map_of_mem hx)))
theorem check_long {s : Md.State} (h : s.pools.length < 1 ∨ 16 < s.pools.length) : Md.check s = 3 := by
 unfold Md.check
 rw [if_pos h]
theorem check_range {s : Md.State} (h : ¬ (s.pools.length < 1 ∨ 16 < s.pools.length)) (h2 : (Md.isTime s.now && s.pools.all Md.rangeOk) = false) : Md.check s = 7 := by
 unfold Md.check
 rw [if_neg h, h2]
 rfl
set_option maxHeartbeats 16000000 in
set_option maxRecDepth 100000 in
set_option linter.unusedSimpArgs false in
theorem check_any (s : Md.State) (u : SlV) (pvs : List PoolV) (w : World) (h : PoolsRd w u pvs s.pools) (hsz : ∀ p ∈ s.pools, PoolSmall p) (hlen : s.pools.length ≤ 1000) (hb : Md.Bnd s) :
 Calls Try.prog 11 #[.agg #[I64 s.now, .bool s.shut, valS u]] w fun e w' => e = .returned (I64 (Md.check s)) ∧ Below w.heap.size w w' := by
 have hul := (read_len h.1).trans h.2.1
 obtain ⟨n, hn⟩ : ∃ n, n = s.pools.length := ⟨_, rfl⟩
 rw [← hn] at hul
 have HU := Lib.hid h
 have HPA := Lib.hid (badP_any u pvs s.pools)
 obtain ⟨ua, un, uc⟩ := u
 replace hul : un = n := hul
 subst hul
 unfold valS at HPA ⊢
 dsimp only at HPA ⊢
 have hal := (Below.refl w.heap.size w).alloc (Nat.le_refl _) (.cells #[I64 s.now, .bool s.shut, .slice ua un uc] 26)
 have HAL := Lib.hid hal
 have HN := Lib.hid hn
 by_cases hz : s.pools.length < 1 ∨ 16 < s.pools.length
 · rw [check_long hz]
   rw [← hn] at hz
   by_cases h0 : un = 0
   · subst h0
     clear h hsz hlen hb hal hz hn HU HPA HN
     go_enter Try.func11, Try.ntmps11
     go_wp2
     go_ret
     exact ⟨rfl, HAL.out⟩
   · have z0 : ((un : Int) == 0) = false := by rw [beq_eq_false_iff_ne]; omega
     have z1 : (16 : Int) < (un : Int) := by omega
     clear h hsz hlen hb hal hz hn HU HPA HN h0
     go_enter Try.func11, Try.ntmps11
     go_wp2
     go_ret
     exact ⟨rfl, HAL.out⟩
 · have z0 : ((un : Int) == 0) = false := by rw [beq_eq_false_iff_ne]; omega
   have z1 : ¬ (16 : Int) < (un : Int) := by omega
   have z1b : decide ((16 : Int) < (un : Int)) = false := by simp [z1]
   cases hob : outB s.now 0 1000000000000 with
   | true =>
    have ht : Md.isTime s.now = false := by
     have q := outB_not s.now 0 1000000000000
     rw [hob] at q
     unfold Md.isTime
     rw [← q]
     rfl
    rw [check_range hz (by rw [ht]; rfl)]
    have HOUT := Lib.hid (outs_any s.now 0 1000000000000 true hob)
    clear h hsz hlen hb hal hz hn HU HPA HN ht hob
    go_enter Try.func11, Try.ntmps11
    go_wp2_with fail
    refine (HOUT.out _).mono ?_
    rintro e w2 ⟨rfl, rfl⟩
    go_wp2
    go_ret
    exact ⟨rfl, HAL.out⟩
   | false =>
    have ht : Md.isTime s.now = true := by
     have q := outB_not s.now 0 1000000000000
     rw [hob] at q
     unfold Md.isTime
     rw [← q]
     rfl
    have HOUT := Lib.hid (outs_any s.now 0 1000000000000 false hob)
    have hpa := HPA.out (w.alloc (.cells #[I64 s.now, .bool s.shut, .slice ua un uc] 26)) (h.below hal) hlen
    have HPB := Lib.hid hpa
    cases har : s.pools.all Md.rangeOk with
    | false =>
     rw [check_range hz (by rw [har]; simp)]
     rw [har] at HPB
     clear h hsz hlen hb hal hz hn HU HPA HN ht hob hpa har
     go_enter Try.func11, Try.ntmps11
     go_wp2_with fail
     refine (HOUT.out _).mono ?_
     rintro e w2 ⟨rfl, rfl⟩
     go_wp2_with fail
     refine HPB.out.mono ?_
     rintro e w3 ⟨rfl, hb3⟩
     go_wp2
     go_ret
     exact ⟨rfl, HAL.out.trans (hb3.mono HAL.out.size)⟩
    | true =>
     rw [har] at HPB
     have hck := check_rest s (by omega) (by omega) (by rw [ht, har]; rfl)
     obtain ⟨E, hE⟩ : ∃ E, E = restE s.now s.shut [] [] s.pools := ⟨_, rfl⟩
     rw [← hE] at hck
     have HCHK := Lib.hid hck
     have HE := Lib.hid hE
     have HSZ := Lib.hid hsz
     have HBD := Lib.hid hb
     have HT := Lib.hid ht
     have HRG := Lib.hid (List.all_eq_true.1 har)
     have hbB := blk_new w (.cells #[I64 s.now, .bool s.shut, .slice ua un uc] 26)
     obtain ⟨wB, hwB⟩ : ∃ x, x = w.alloc (.cells #[I64 s.now, .bool s.shut, .slice ua un uc] 26) := ⟨_, rfl⟩
     obtain ⟨B, hB⟩ : ∃ x, x = w.heap.size := ⟨_, rfl⟩
     rw [← hwB] at HAL hal hpa HPB hbB
     rw [← hB] at hbB
     have HBB := Lib.hid hbB
     have HBs : Hid (B = w.heap.size) := hB
     clear hck hE hsz hb ht hob har hpa hbB hz HPA h hn
     have hmm := @run_makeMap Try.prog
     go_enter Try.func11, Try.ntmps11
     go_wp2_with fail
     simp only [← hwB, ← hB]
     refine (HOUT.out _).mono ?_
     rintro e w2 ⟨rfl, rfl⟩
     have hB2 := HBB.out
     have y0 := blk_cell hB2 0
     have y1 := blk_cell hB2 1
     have y2 := blk_cell hB2 2
     simp only [List.getElem?_toArray, List.getElem?_cons_succ, List.getElem?_cons_zero] at y0 y1 y2
     clear hwB hB2 hB
     go_wp2_with fail
     refine HPB.out.mono ?_
     rintro e w3 ⟨rfl, hb3⟩
     have HB3 := Lib.hid hb3
     have hBw : B < w2.heap.size := (Array.getElem?_eq_some_iff.1 HBB.out).1
     have hB3 := (hb3.block B hBw).trans HBB.out
     have bX := blk_new ((w3.alloc (.map #[] 0)).alloc (.map #[] 0)) (.cells #[.map (some w3.heap.size), .map (some (w3.heap.size + 1))] 97)
     have hq1 := (Below.refl w3.heap.size w3).alloc (Nat.le_refl _) (.map #[] 0)
     have hq2 := hq1.alloc (by simp) (.map #[] 0)
     have hq3 := hq2.alloc (by simp; omega) (.cells #[.map (some w3.heap.size), .map (some (w3.heap.size + 1))] 97)
     have hB4 := (hq3.block B (by have := hb3.size; omega)).trans hB3
     have s1 := SetOwn.made w3
     have s1b := s1.kept (World.grownBy_alloc _ (.map #[] 0) none) (by simp)
     have s1c := s1b.kept (World.grownBy_alloc _ (.cells #[.map (some w3.heap.size), .map (some (w3.heap.size + 1))] 97) none) (by simp)
     have s2 := SetOwn.made (w3.alloc (.map #[] 0))
     have s2c := s2.kept (World.grownBy_alloc _ (.cells #[.map (some w3.heap.size), .map (some (w3.heap.size + 1))] 97) none) (by simp)
     have ez : (w3.alloc (.map #[] 0)).heap.size = w3.heap.size + 1 := by simp
     have ez2 : ((w3.alloc (.map #[] 0)).alloc (.map #[] 0)).heap.size = w3.heap.size + 1 + 1 := by simp
     rw [ez] at s2c
     rw [ez2] at bX
     obtain ⟨w0, hw0⟩ : ∃ x, x = ((w3.alloc (.map #[] 0)).alloc (.map #[] 0)).alloc (.cells #[.map (some w3.heap.size), .map (some (w3.heap.size + 1))] 97) := ⟨_, rfl⟩
     rw [← hw0] at hq3 s1c s2c bX hB4
     obtain ⟨b1, hb1⟩ : ∃ x, x = w3.heap.size := ⟨_, rfl⟩
     rw [← hb1] at s1c s2c bX hw0
     obtain ⟨b2, hb2⟩ : ∃ x, x = b1 + 1 := ⟨_, rfl⟩
     rw [← hb2] at s2c bX hw0
     obtain ⟨X, hX⟩ : ∃ x, x = b2 + 1 := ⟨_, rfl⟩
     rw [← hX] at bX
     have HX := Lib.hid bX
     have HBB4 := Lib.hid hB4
     have hwb3 : Below w.heap.size w w3 := HAL.out.trans (hb3.mono HAL.out.size)
     have hw0b : Below w.heap.size w w0 := hwb3.trans (hq3.mono hwb3.size)
     have HW0 := Lib.hid hw0b
     have HNE : Hid ((B ≠ b1 ∧ B ≠ b2) ∧ (X ≠ b1 ∧ X ≠ b2) ∧ b1 ≠ b2 ∧ w.heap.size ≤ b1 ∧ w.heap.size ≤ b2) := by
      have := hb3.size
      have := hwb3.size
      have := HBs.out
      refine Lib.hid ⟨⟨?_, ?_⟩, ⟨?_, ?_⟩, ?_, ?_, ?_⟩ <;> omega
     have HCK : Hid (CkAt b1 b2 E s 0 [] [] w0 w0) := Lib.hid ⟨s1c.mono (Nat.zero_le _), s2c.mono (Nat.zero_le _), .refl _ _, HE.out⟩
     have hB3c0 := blk_cell hB3 0
     have hB3c1 := blk_cell hB3 1
     have hB3c2 := blk_cell hB3 2
     simp only [List.getElem?_toArray, List.getElem?_cons_succ, List.getElem?_cons_zero] at hB3c0 hB3c1 hB3c2
     have v2 := blk_cell hB4 2
     simp only [List.getElem?_toArray, List.getElem?_cons_succ, List.getElem?_cons_zero] at v2
     rw [hw0, hb2] at v2
     rw [hb2] at hw0
     have hw0x := hw0
     rw [hb1] at hw0x v2
     have eX : w3.heap.size + 1 + 1 = X := by rw [hX, hb2, hb1]
     clear bX hq1 hq2 hq3 hB4 s1 s1b s1c s2 s2c ez ez2 hwb3 hw0b hb3 hB3 hX hBw hw0
     go_wp2
     simp only [← hw0x, eX]
     clear hw0x eX v2 hb1 hb2 hB3c0 hB3c1 hB3c2 y0 y1 y2 hmm
     go_loopw [6, 7, 8, 35] (fun _ _ _ kv wr => ∃ k : Nat, ∃ Sa Sb, k ≤ un ∧ kv = .int .i64 k ∧ Hid (CkAt b1 b2 E s k Sa Sb w0 wr)) (fun _ _ _ kv _ => un - (intOf kv).toNat)
     case atStart => exact ⟨0, [], [], Nat.zero_le _, rfl, HCK⟩
     case round =>
      obtain ⟨k, Sa, Sb, hkn, rfl, HC⟩ := hrel
      have hbw : Below w.heap.size w wr := HW0.out.trans (HC.out.gb.below HW0.out.size (fun i hi => by rcases hi with e | e <;> have := HNE.out <;> omega))
      have HWB := Lib.hid hbw
      by_cases hlt : k < un
      · have hk : k < s.pools.length := by rw [← HN.out]; exact hlt
        have hpr := HU.out.below hbw
        have hkp : k < pvs.length := by rw [hpr.2.1]; exact hk
        obtain ⟨g, o, cap, e, _, hc⟩ := hpr.1.form (by intro e; rw [e] at hkp; simp at hkp)
        unfold valS at e
        injection e with e1 e2 e3
        replace e1 : ua = some ⟨g, o, none⟩ := e1
        subst e1
        clear e2 e3
        have hrk := hpr.2.2 k hkp hk
        have hrk0 := HU.out.2.2 k hkp hk
        have heq := HC.out.eq
        rw [List.drop_eq_getElem_cons hk, restE_cons, size_eq, quiet_eq, probe_eq] at heq
        have hsm := HSZ.out _ (List.getElem_mem hk)
        have hbk := bnd_pool HBD.out hk
        have hlim := Md.rangeOk_lim (HRG.out _ (List.getElem_mem hk))
        have hX := (HC.out.gb.block X (Array.getElem?_eq_some_iff.1 HX.out).1 (by have := HNE.out; omega)).trans HX.out
        have hBB := (HC.out.gb.block B (Array.getElem?_eq_some_iff.1 HBB4.out).1 (by have := HNE.out; omega)).trans HBB4.out
        have hrow := hc k hkp
        generalize pvs[k] = pv at hrk hrow hrk0
        obtain ⟨⟨mx, qu, id, ag⟩, ⟨ia, iN, ic⟩, ⟨la, lN, lc⟩, ⟨da, dN, dc⟩, ⟨wa, wN, wc⟩, up, br, pr⟩ := pv
        have hrk2 := hrk.below ((Below.refl wr.heap.size wr).alloc (Nat.le_refl _) (.cells #[I64 mx, I64 qu, I64 id, I64 ag, .slice ia iN ic, .slice la lN lc, .slice da dN dc, .slice wa wN wc, .bool up, I64 br, I64 pr] 48))
        have eI := read_len hrk.idle
        have eL := read_len hrk.leases
        have eD := read_len hrk.dials
        have eW := read_len hrk.waiters
        have elim := hrk.lim
        have ebr := hrk.breaker
        have epr := hrk.probe
        dsimp only at eI eL eD eW elim ebr epr
        have rr : ∀ i u, (encP ⟨⟨mx, qu, id, ag⟩, (ia, iN, ic), (la, lN, lc), (da, dN, dc), (wa, wN, wc), up, br, pr⟩)[i]? = some u → wr.cell? ⟨g, o + k * 11 + i, none⟩ = some u := hrow
        have m0 : wr.cell? ⟨g, o + k * 11, none⟩ = some (I64 mx) := rr 0 _ rfl
        have m1 : wr.cell? ⟨g, o + k * 11 + 1, none⟩ = some (I64 qu) := rr 1 _ rfl
        have m2 : wr.cell? ⟨g, o + k * 11 + 2, none⟩ = some (I64 id) := rr 2 _ rfl
        have m3 : wr.cell? ⟨g, o + k * 11 + 3, none⟩ = some (I64 ag) := rr 3 _ rfl
        have m4 : wr.cell? ⟨g, o + k * 11 + 4, none⟩ = some (.slice ia iN ic) := rr 4 _ rfl
        have m5 : wr.cell? ⟨g, o + k * 11 + 5, none⟩ = some (.slice la lN lc) := rr 5 _ rfl
        have m6 : wr.cell? ⟨g, o + k * 11 + 6, none⟩ = some (.slice da dN dc) := rr 6 _ rfl
        have m7 : wr.cell? ⟨g, o + k * 11 + 7, none⟩ = some (.slice wa wN wc) := rr 7 _ rfl
        have m8 : wr.cell? ⟨g, o + k * 11 + 8, none⟩ = some (.bool up) := rr 8 _ rfl
        have m9 : wr.cell? ⟨g, o + k * 11 + 9, none⟩ = some (I64 br) := rr 9 _ rfl
        have mt : wr.cell? ⟨g, o + k * 11 + 10, none⟩ = some (I64 pr) := rr 10 _ rfl
        rw [← eI, ← eL, ← eD, ← eW, ← elim, ← ebr, ← epr] at heq
        dsimp only at heq
        have hw1 : IntKind.i64.wrap ((lN : Int) + (dN : Int)) = (lN : Int) + (dN : Int) := by unfold PoolSmall at hsm; rw [IntKind.wrap_i64]; omega
        have hw2 : IntKind.i64.wrap ((lN : Int) + (dN : Int) + (iN : Int)) = (lN : Int) + (dN : Int) + (iN : Int) := by unfold PoolSmall at hsm; rw [IntKind.wrap_i64]; omega
        have hal6 := (Below.refl wr.heap.size wr).alloc (Nat.le_refl _) (.cells #[I64 mx, I64 qu, I64 id, I64 ag, .slice ia iN ic, .slice la lN lc, .slice da dN dc, .slice wa wN wc, .bool up, I64 br, I64 pr] 48)
        have hgr6 : wr.grownBy (wr.alloc (.cells #[I64 mx, I64 qu, I64 id, I64 ag, .slice ia iN ic, .slice la lN lc, .slice da dN dc, .slice wa wN wc, .bool up, I64 br, I64 pr] 48)) none := ⟨hal6.os, hal6.tape, hal6.output, hal6.size, fun i hi _ => hal6.block i hi⟩
        have hX6 := (hal6.block X (Array.getElem?_eq_some_iff.1 hX).1).trans hX
        have hB6 := (hal6.block B (Array.getElem?_eq_some_iff.1 hBB).1).trans hBB
        have o1 := HC.out.own1.kept hgr6 (by simp)
        have o2 := HC.out.own2.kept hgr6 (by simp)
        have hP6 := blk_new wr (.cells #[I64 mx, I64 qu, I64 id, I64 ag, .slice ia iN ic, .slice la lN lc, .slice da dN dc, .slice wa wN wc, .bool up, I64 br, I64 pr] 48)
        have hk16 : k ≤ 16 := by omega
        have hidl := idle_any X b1 b2 (k * 300000) Sb s.now s.pools[k] _ (wr.alloc (.cells #[I64 mx, I64 qu, I64 id, I64 ag, .slice ia iN ic, .slice la lN lc, .slice da dN dc, .slice wa wN wc, .bool up, I64 br, I64 pr] 48)) hX6 o2 hrk2 hlim HT.out (by unfold PoolSmall at hsm; omega) (by omega) hbk.1
        have hbl1 := HC.out.own1.lt
        have hbl2 := HC.out.own2.lt
        have hPne : wr.heap.size ≠ b1 ∧ wr.heap.size ≠ b2 := ⟨by omega, by omega⟩
        unfold valPV valS at hidl
        rw [← elim] at hidl
        dsimp only at hidl
        obtain ⟨Ib, hIb⟩ : ∃ Ib, Ib = (Md.idleOk ⟨mx, qu, id, ag⟩ s.now 0 s.pools[k].idle && Md.newOk Sb (s.pools[k].idle.map (·.1))) := ⟨_, rfl⟩
        obtain ⟨Cb, hCb⟩ : ∃ Cb, Cb = callersB s.now s.pools[k] Sa ((s.pools[k].idle.map (·.1)).reverse ++ Sb) := ⟨_, rfl⟩
        rw [← hIb] at hidl heq
        rw [← hCb] at heq
        have HROUND : Hid (Calls Try.prog 32 #[.pointer (some ⟨X, 0, none⟩), .agg #[I64 mx, I64 qu, I64 id, I64 ag, .slice ia iN ic, .slice la lN lc, .slice da dN dc, .slice wa wN wc, .bool up, I64 br, I64 pr], I64 s.now] (wr.alloc (.cells #[I64 mx, I64 qu, I64 id, I64 ag, .slice ia iN ic, .slice la lN lc, .slice da dN dc, .slice wa wN wc, .bool up, I64 br, I64 pr] 48)) (fun e w' => e = .returned (.bool Ib) ∧ (Ib = true → SetOwn w' b2 (k * 300000 + s.pools[k].idle.length) ((s.pools[k].idle.map (·.1)).reverse ++ Sb)) ∧ Gb (fun i => i = b2) (wr.alloc (.cells #[I64 mx, I64 qu, I64 id, I64 ag, .slice ia iN ic, .slice la lN lc, .slice da dN dc, .slice wa wN wc, .bool up, I64 br, I64 pr] 48)) w') ∧
         (∀ w7, SetOwn w7 b2 (k * 300000 + s.pools[k].idle.length) ((s.pools[k].idle.map (·.1)).reverse ++ Sb) → Gb (fun i => i = b2) (wr.alloc (.cells #[I64 mx, I64 qu, I64 id, I64 ag, .slice ia iN ic, .slice la lN lc, .slice da dN dc, .slice wa wN wc, .bool up, I64 br, I64 pr] 48)) w7 → (w7.cell? ⟨wr.heap.size, 0, none⟩ = some (I64 mx) ∧ w7.cell? ⟨wr.heap.size, 1, none⟩ = some (I64 qu) ∧ w7.cell? ⟨wr.heap.size, 2, none⟩ = some (I64 id) ∧ w7.cell? ⟨wr.heap.size, 3, none⟩ = some (I64 ag) ∧ w7.cell? ⟨wr.heap.size, 4, none⟩ = some (.slice ia iN ic) ∧ w7.cell? ⟨wr.heap.size, 5, none⟩ = some (.slice la lN lc) ∧ w7.cell? ⟨wr.heap.size, 6, none⟩ = some (.slice da dN dc) ∧ w7.cell? ⟨wr.heap.size, 7, none⟩ = some (.slice wa wN wc) ∧ w7.cell? ⟨wr.heap.size, 8, none⟩ = some (.bool up) ∧ w7.cell? ⟨wr.heap.size, 9, none⟩ = some (I64 br) ∧ w7.cell? ⟨wr.heap.size, 10, none⟩ = some (I64 pr)) ∧ w7.cell? ⟨B, 0, none⟩ = some (I64 s.now) ∧
          Calls Try.prog 33 #[.pointer (some ⟨X, 0, none⟩), .agg #[I64 mx, I64 qu, I64 id, I64 ag, .slice ia iN ic, .slice la lN lc, .slice da dN dc, .slice wa wN wc, .bool up, I64 br, I64 pr], I64 s.now] w7 (fun e w' => e = .returned (.bool Cb) ∧ (Cb = true → SetOwn w' b1 (k * 300000 + s.pools[k].leases.length + s.pools[k].dials.length + s.pools[k].waiters.length) (seenA s.pools[k] Sa) ∧ SetOwn w' b2 (k * 300000 + s.pools[k].idle.length + s.pools[k].leases.length) (seenB s.pools[k] Sb)) ∧ Gb (fun i => i = b1 ∨ i = b2) w7 w')) ∧
         ∀ w7 w8, Gb (fun i => i = b2) (wr.alloc (.cells #[I64 mx, I64 qu, I64 id, I64 ag, .slice ia iN ic, .slice la lN lc, .slice da dN dc, .slice wa wN wc, .bool up, I64 br, I64 pr] 48)) w7 → Gb (fun i => i = b1 ∨ i = b2) w7 w8 → SetOwn w8 b1 (k * 300000 + s.pools[k].leases.length + s.pools[k].dials.length + s.pools[k].waiters.length) (seenA s.pools[k] Sa) → SetOwn w8 b2 (k * 300000 + s.pools[k].idle.length + s.pools[k].leases.length) (seenB s.pools[k] Sb) → E = restE s.now s.shut (seenA s.pools[k] Sa) (seenB s.pools[k] Sb) (s.pools.drop (k + 1)) → CkAt b1 b2 E s (k + 1) (seenA s.pools[k] Sa) (seenB s.pools[k] Sb) w0 w8) := by
         refine Lib.hid ⟨hidl, fun w7 hs7 hg7 => ?_, fun w7 w8 hg7 hg8 hs1 hs2 he => ?_⟩
         · have hn2 : ∀ i, i ≠ b2 → ¬ (i = b2) := fun i h => h
           have hX7 := (hg7.block X (Array.getElem?_eq_some_iff.1 hX6).1 (by have := HNE.out; omega)).trans hX6
           have hP7 := (hg7.block wr.heap.size (Array.getElem?_eq_some_iff.1 hP6).1 hPne.2).trans hP6
           have hB7 := (hg7.block B (Array.getElem?_eq_some_iff.1 hB6).1 (by have := HNE.out; omega)).trans hB6
           have hg7' : (wr.alloc (.cells #[I64 mx, I64 qu, I64 id, I64 ag, .slice ia iN ic, .slice la lN lc, .slice da dN dc, .slice wa wN wc, .bool up, I64 br, I64 pr] 48)).grownBy w7 (some b2) := ⟨hg7.os, hg7.tape, hg7.output, hg7.size, fun i hi hne => hg7.block i hi (fun e => hne (by rw [e]))⟩
           have o17 := o1.kept hg7' (fun e => HNE.out.2.2.1 (by injection e))
           have hrk7 := hrk0.below ((hbw.trans (hal6.mono hbw.size)).trans (hg7.below (Nat.le_trans hbw.size hal6.size) (fun i hi => by have := HNE.out; omega)))
           have hcl := callers_any X b1 b2 (k * 300000) (k * 300000 + s.pools[k].idle.length) Sa _ s.now s.pools[k] _ w7 hX7 o17 hs7 HNE.out.2.2.1 hrk7 HT.out (by unfold PoolSmall at hsm; omega) (by omega) (by unfold PoolSmall at hsm; omega) hbk.2
           unfold valPV valS at hcl
           dsimp only at hcl
           rw [← hCb] at hcl
           exact ⟨⟨blk_cell hP7 0, blk_cell hP7 1, blk_cell hP7 2, blk_cell hP7 3, blk_cell hP7 4, blk_cell hP7 5, blk_cell hP7 6, blk_cell hP7 7, blk_cell hP7 8, blk_cell hP7 9, blk_cell hP7 10⟩, blk_cell hB7 0, hcl⟩
         · refine ⟨hs1.mono (by unfold PoolSmall at hsm; omega), hs2.mono (by unfold PoolSmall at hsm; omega), ((HC.out.gb.alloc _).trans (hg7.mono fun _ _ e => .inr e)).trans hg8, he⟩
        have HFRM : Hid (∀ w7, Gb (fun i => i = b2) (wr.alloc (.cells #[I64 mx, I64 qu, I64 id, I64 ag, .slice ia iN ic, .slice la lN lc, .slice da dN dc, .slice wa wN wc, .bool up, I64 br, I64 pr] 48)) w7 → Below w.heap.size wr w7) := Lib.hid (fun w7 hg7 => (hal6.mono hbw.size).trans (hg7.below (Nat.le_trans hbw.size hal6.size) (fun i hi => by have := HNE.out; omega)))
        have HFRM2 : Hid (∀ w7 w8, Gb (fun i => i = b2) (wr.alloc (.cells #[I64 mx, I64 qu, I64 id, I64 ag, .slice ia iN ic, .slice la lN lc, .slice da dN dc, .slice wa wN wc, .bool up, I64 br, I64 pr] 48)) w7 → Gb (fun i => i = b1 ∨ i = b2) w7 w8 → Below w.heap.size wr w8) := Lib.hid (fun w7 w8 hg7 hg8 => (HFRM.out w7 hg7).trans (hg8.below (Nat.le_trans hbw.size (Nat.le_trans hal6.size hg7.size)) (fun i hi => by rcases hi with e | e <;> have := HNE.out <;> omega)))
        have t0 := blk_cell hBB 0
        have t1 := blk_cell hBB 1
        have t06 := blk_cell hB6 0
        have t16 := blk_cell hB6 1
        simp only [List.getElem?_toArray, List.getElem?_cons_succ, List.getElem?_cons_zero] at t0 t1 t06 t16
        generalize s.pools[k] = p at heq HROUND hsm eI eL eD eW
        generalize hsh : s.shut = sh at heq t1 t16 HROUND
        have HEQ := Lib.hid heq
        clear heq hIb hCb hidl hrk hrk0 hrk2 hrow rr hX hBB hX6 hB6 o1 o2 hP6 hal6 hgr6 eI eL eD eW elim ebr epr hsm hbk hlim hpr hc hbw hkp hk hPne hbl1 hbl2
        by_cases ha1 : mx < (lN : Int) + (dN : Int) + (iN : Int)
        · have da1 : decide (mx < (lN : Int) + (dN : Int) + (iN : Int)) = true := decide_eq_true ha1
          have hEf : E = false := by rw [HEQ.out]; simp only [da1, Bool.not_true, Bool.not_false, Bool.and_false, Bool.false_and, Bool.true_and, Bool.and_true, Bool.or_true, Bool.true_or, Bool.false_or, Bool.or_false]
          have HEF := Lib.hid hEf
          have HFB := Lib.hid (HWB.out.alloc HWB.out.size (.cells #[I64 mx, I64 qu, I64 id, I64 ag, .slice ia iN ic, .slice la lN lc, .slice da dN dc, .slice wa wN wc, .bool up, I64 br, I64 pr] 48))
          clear hEf
          go_wp2
          go_ret
          exact ⟨by rw [HCHK.out, HEF.out]; rfl, HFB.out⟩
        · have da1 : decide (mx < (lN : Int) + (dN : Int) + (iN : Int)) = false := decide_eq_false ha1
          by_cases ha2 : qu < (wN : Int)
          · have da2 : decide (qu < (wN : Int)) = true := decide_eq_true ha2
            have hEf : E = false := by rw [HEQ.out]; simp only [da1, da2, Bool.not_true, Bool.not_false, Bool.and_false, Bool.false_and, Bool.true_and, Bool.and_true, Bool.or_true, Bool.true_or, Bool.false_or, Bool.or_false]
            have HEF := Lib.hid hEf
            have HFB := Lib.hid (HWB.out.alloc HWB.out.size (.cells #[I64 mx, I64 qu, I64 id, I64 ag, .slice ia iN ic, .slice la lN lc, .slice da dN dc, .slice wa wN wc, .bool up, I64 br, I64 pr] 48))
            clear hEf
            go_wp2
            go_ret
            exact ⟨by rw [HCHK.out, HEF.out]; rfl, HFB.out⟩
          · have da2 : decide (qu < (wN : Int)) = false := decide_eq_false ha2
            by_cases hw0 : (0 : Int) < (wN : Int)
            · have dw0 : decide ((0 : Int) < (wN : Int)) = true := decide_eq_true hw0
              by_cases ha3 : (lN : Int) + (dN : Int) < mx
              · have da3 : decide ((lN : Int) + (dN : Int) < mx) = true := decide_eq_true ha3
                have hEf : E = false := by rw [HEQ.out]; simp only [da1, da2, dw0, da3, Bool.not_true, Bool.not_false, Bool.and_false, Bool.false_and, Bool.true_and, Bool.and_true, Bool.or_true, Bool.true_or, Bool.false_or, Bool.or_false]
                have HEF := Lib.hid hEf
                have HFB := Lib.hid (HWB.out.alloc HWB.out.size (.cells #[I64 mx, I64 qu, I64 id, I64 ag, .slice ia iN ic, .slice la lN lc, .slice da dN dc, .slice wa wN wc, .bool up, I64 br, I64 pr] 48))
                clear hEf
                go_wp2
                go_ret
                exact ⟨by rw [HCHK.out, HEF.out]; rfl, HFB.out⟩
              · have da3 : decide ((lN : Int) + (dN : Int) < mx) = false := decide_eq_false ha3
                cases sh with
                | true =>
                 have hEf : E = false := by rw [HEQ.out]; simp only [da1, da2, dw0, da3, Bool.not_true, Bool.not_false, Bool.and_false, Bool.false_and, Bool.true_and, Bool.and_true, Bool.or_true, Bool.true_or, Bool.false_or, Bool.or_false]
                 have HEF := Lib.hid hEf
                 have HFB := Lib.hid (HWB.out.alloc HWB.out.size (.cells #[I64 mx, I64 qu, I64 id, I64 ag, .slice ia iN ic, .slice la lN lc, .slice da dN dc, .slice wa wN wc, .bool up, I64 br, I64 pr] 48))
                 clear hEf
                 go_wp2
                 go_ret
                 exact ⟨by rw [HCHK.out, HEF.out]; rfl, HFB.out⟩
                | false =>
                 by_cases hp0 : pr < 0
                 · have dp0 : decide (pr < 0) = true := decide_eq_true hp0
                   have hEf : E = false := by rw [HEQ.out]; simp only [da1, da2, dw0, da3, dp0, Bool.not_true, Bool.not_false, Bool.and_false, Bool.false_and, Bool.true_and, Bool.and_true, Bool.or_true, Bool.true_or, Bool.false_or, Bool.or_false]
                   have HEF := Lib.hid hEf
                   have HFB := Lib.hid (HWB.out.alloc HWB.out.size (.cells #[I64 mx, I64 qu, I64 id, I64 ag, .slice ia iN ic, .slice la lN lc, .slice da dN dc, .slice wa wN wc, .bool up, I64 br, I64 pr] 48))
                   clear hEf
                   go_wp2
                   go_ret
                   exact ⟨by rw [HCHK.out, HEF.out]; rfl, HFB.out⟩
                 · have dp0 : decide (pr < 0) = false := decide_eq_false hp0
                   by_cases hp1 : 0 < pr
                   · have dp1 : decide (0 < pr) = true := decide_eq_true hp1
                     cases hbr : (br == 2) with
                     | false =>
                      have hEf : E = false := by rw [HEQ.out]; simp only [da1, da2, dw0, da3, dp0, dp1, hbr, Bool.not_true, Bool.not_false, Bool.and_false, Bool.false_and, Bool.true_and, Bool.and_true, Bool.or_true, Bool.true_or, Bool.false_or, Bool.or_false]
                      have HEF := Lib.hid hEf
                      have HFB := Lib.hid (HWB.out.alloc HWB.out.size (.cells #[I64 mx, I64 qu, I64 id, I64 ag, .slice ia iN ic, .slice la lN lc, .slice da dN dc, .slice wa wN wc, .bool up, I64 br, I64 pr] 48))
                      clear hEf
                      go_wp2
                      go_ret
                      exact ⟨by rw [HCHK.out, HEF.out]; rfl, HFB.out⟩
                     | true =>
                      go_wp2_with fail
                      obtain ⟨w6, hw6⟩ : ∃ x, x = wr.alloc (.cells #[I64 mx, I64 qu, I64 id, I64 ag, .slice ia iN ic, .slice la lN lc, .slice da dN dc, .slice wa wN wc, .bool up, I64 br, I64 pr] 48) := ⟨_, rfl⟩
                      obtain ⟨P6, hP6⟩ : ∃ x, x = wr.heap.size := ⟨_, rfl⟩
                      have hrd := HROUND.out
                      rw [← hw6] at hrd HFRM HFRM2
                      simp only [← hw6, ← hP6]
                      obtain ⟨hidl, hcal, hnext⟩ := hrd
                      have HCAL := Lib.hid hcal
                      have HNXT := Lib.hid hnext
                      clear hcal hnext hw6
                      refine hidl.mono ?_
                      rintro e w7 ⟨rfl, hset, hg7⟩
                      have HSET := Lib.hid hset
                      have HG7 := Lib.hid hg7
                      clear hidl hset hg7
                      cases Ib with
                      | false =>
                       have hEf : E = false := by rw [HEQ.out]; simp only [Bool.false_and, Bool.and_false]
                       have HEF := Lib.hid hEf
                       have HFB := Lib.hid (HWB.out.trans (HFRM.out w7 HG7.out))
                       clear hEf
                       go_wp2
                       go_ret
                       exact ⟨by rw [HCHK.out, HEF.out]; rfl, HFB.out⟩
                      | true =>
                       obtain ⟨⟨r0, r1, r2, r3, r4, r5, r6, r7, r8, r9, ra⟩, rb, hcl⟩ := HCAL.out w7 (HSET.out rfl) HG7.out
                       have HCL := Lib.hid hcl
                       clear hcl
                       go_wp2_with fail
                       refine HCL.out.mono ?_
                       rintro e w8 ⟨rfl, hset2, hg8⟩
                       have HSET2 := Lib.hid hset2
                       have HG8 := Lib.hid hg8
                       clear hset2 hg8
                       cases Cb with
                       | false =>
                        have hEf : E = false := by rw [HEQ.out]; simp only [Bool.false_and, Bool.and_false]
                        have HEF := Lib.hid hEf
                        have HFB := Lib.hid (HWB.out.trans (HFRM2.out w7 w8 HG7.out HG8.out))
                        clear hEf
                        go_wp2
                        go_ret
                        exact ⟨by rw [HCHK.out, HEF.out]; rfl, HFB.out⟩
                       | true =>
                        have HNX := Lib.hid (HNXT.out w7 w8 HG7.out HG8.out (HSET2.out rfl).1 (HSET2.out rfl).2 (by rw [HEQ.out]; simp only [da1, da2, dw0, da3, dp0, dp1, hbr, Bool.not_true, Bool.not_false, Bool.and_false, Bool.false_and, Bool.true_and, Bool.and_true, Bool.or_true, Bool.true_or, Bool.false_or, Bool.or_false]))
                        go_wp2
                        case roundEnd =>
                         refine ⟨⟨k + 1, _, _, hlt, by rw [show (k : Int) + 1 = ((k + 1 : Nat) : Int) by omega], HNX⟩, ?_⟩
                         simp [intOf]
                         omega
                   · have dp1 : decide (0 < pr) = false := decide_eq_false hp1
                     go_wp2_with fail
                     obtain ⟨w6, hw6⟩ : ∃ x, x = wr.alloc (.cells #[I64 mx, I64 qu, I64 id, I64 ag, .slice ia iN ic, .slice la lN lc, .slice da dN dc, .slice wa wN wc, .bool up, I64 br, I64 pr] 48) := ⟨_, rfl⟩
                     obtain ⟨P6, hP6⟩ : ∃ x, x = wr.heap.size := ⟨_, rfl⟩
                     have hrd := HROUND.out
                     rw [← hw6] at hrd HFRM HFRM2
                     simp only [← hw6, ← hP6]
                     obtain ⟨hidl, hcal, hnext⟩ := hrd
                     have HCAL := Lib.hid hcal
                     have HNXT := Lib.hid hnext
                     clear hcal hnext hw6
                     refine hidl.mono ?_
                     rintro e w7 ⟨rfl, hset, hg7⟩
                     have HSET := Lib.hid hset
                     have HG7 := Lib.hid hg7
                     clear hidl hset hg7
                     cases Ib with
                     | false =>
                      have hEf : E = false := by rw [HEQ.out]; simp only [Bool.false_and, Bool.and_false]
                      have HEF := Lib.hid hEf
                      have HFB := Lib.hid (HWB.out.trans (HFRM.out w7 HG7.out))
                      clear hEf
                      go_wp2
                      go_ret
                      exact ⟨by rw [HCHK.out, HEF.out]; rfl, HFB.out⟩
                     | true =>
                      obtain ⟨⟨r0, r1, r2, r3, r4, r5, r6, r7, r8, r9, ra⟩, rb, hcl⟩ := HCAL.out w7 (HSET.out rfl) HG7.out
                      have HCL := Lib.hid hcl
                      clear hcl
                      go_wp2_with fail
                      refine HCL.out.mono ?_
                      rintro e w8 ⟨rfl, hset2, hg8⟩
                      have HSET2 := Lib.hid hset2
                      have HG8 := Lib.hid hg8
                      clear hset2 hg8
                      cases Cb with
                      | false =>
                       have hEf : E = false := by rw [HEQ.out]; simp only [Bool.false_and, Bool.and_false]
                       have HEF := Lib.hid hEf
                       have HFB := Lib.hid (HWB.out.trans (HFRM2.out w7 w8 HG7.out HG8.out))
                       clear hEf
                       go_wp2
                       go_ret
                       exact ⟨by rw [HCHK.out, HEF.out]; rfl, HFB.out⟩
                      | true =>
                       have HNX := Lib.hid (HNXT.out w7 w8 HG7.out HG8.out (HSET2.out rfl).1 (HSET2.out rfl).2 (by rw [HEQ.out]; simp only [da1, da2, dw0, da3, dp0, dp1, Bool.not_true, Bool.not_false, Bool.and_false, Bool.false_and, Bool.true_and, Bool.and_true, Bool.or_true, Bool.true_or, Bool.false_or, Bool.or_false]))
                       go_wp2
                       case roundEnd =>
                        refine ⟨⟨k + 1, _, _, hlt, by rw [show (k : Int) + 1 = ((k + 1 : Nat) : Int) by omega], HNX⟩, ?_⟩
                        simp [intOf]
                        omega
            · have dw0 : decide ((0 : Int) < (wN : Int)) = false := decide_eq_false hw0
              cases sh with
              | true =>
               by_cases hi0 : (0 : Int) < (iN : Int)
               · have di0 : decide ((0 : Int) < (iN : Int)) = true := decide_eq_true hi0
                 have hEf : E = false := by rw [HEQ.out]; simp only [da1, da2, dw0, di0, Bool.not_true, Bool.not_false, Bool.and_false, Bool.false_and, Bool.true_and, Bool.and_true, Bool.or_true, Bool.true_or, Bool.false_or, Bool.or_false]
                 have HEF := Lib.hid hEf
                 have HFB := Lib.hid (HWB.out.alloc HWB.out.size (.cells #[I64 mx, I64 qu, I64 id, I64 ag, .slice ia iN ic, .slice la lN lc, .slice da dN dc, .slice wa wN wc, .bool up, I64 br, I64 pr] 48))
                 clear hEf
                 go_wp2
                 go_ret
                 exact ⟨by rw [HCHK.out, HEF.out]; rfl, HFB.out⟩
               · have di0 : decide ((0 : Int) < (iN : Int)) = false := decide_eq_false hi0
                 by_cases hp0 : pr < 0
                 · have dp0 : decide (pr < 0) = true := decide_eq_true hp0
                   have hEf : E = false := by rw [HEQ.out]; simp only [da1, da2, dw0, di0, dp0, Bool.not_true, Bool.not_false, Bool.and_false, Bool.false_and, Bool.true_and, Bool.and_true, Bool.or_true, Bool.true_or, Bool.false_or, Bool.or_false]
                   have HEF := Lib.hid hEf
                   have HFB := Lib.hid (HWB.out.alloc HWB.out.size (.cells #[I64 mx, I64 qu, I64 id, I64 ag, .slice ia iN ic, .slice la lN lc, .slice da dN dc, .slice wa wN wc, .bool up, I64 br, I64 pr] 48))
                   clear hEf
                   go_wp2
                   go_ret
                   exact ⟨by rw [HCHK.out, HEF.out]; rfl, HFB.out⟩
                 · have dp0 : decide (pr < 0) = false := decide_eq_false hp0
                   by_cases hp1 : 0 < pr
                   · have dp1 : decide (0 < pr) = true := decide_eq_true hp1
                     cases hbr : (br == 2) with
                     | false =>
                      have hEf : E = false := by rw [HEQ.out]; simp only [da1, da2, dw0, di0, dp0, dp1, hbr, Bool.not_true, Bool.not_false, Bool.and_false, Bool.false_and, Bool.true_and, Bool.and_true, Bool.or_true, Bool.true_or, Bool.false_or, Bool.or_false]
                      have HEF := Lib.hid hEf
                      have HFB := Lib.hid (HWB.out.alloc HWB.out.size (.cells #[I64 mx, I64 qu, I64 id, I64 ag, .slice ia iN ic, .slice la lN lc, .slice da dN dc, .slice wa wN wc, .bool up, I64 br, I64 pr] 48))
                      clear hEf
                      go_wp2
                      go_ret
                      exact ⟨by rw [HCHK.out, HEF.out]; rfl, HFB.out⟩
                     | true =>
                      go_wp2_with fail
                      obtain ⟨w6, hw6⟩ : ∃ x, x = wr.alloc (.cells #[I64 mx, I64 qu, I64 id, I64 ag, .slice ia iN ic, .slice la lN lc, .slice da dN dc, .slice wa wN wc, .bool up, I64 br, I64 pr] 48) := ⟨_, rfl⟩
                      obtain ⟨P6, hP6⟩ : ∃ x, x = wr.heap.size := ⟨_, rfl⟩
                      have hrd := HROUND.out
                      rw [← hw6] at hrd HFRM HFRM2
                      simp only [← hw6, ← hP6]
                      obtain ⟨hidl, hcal, hnext⟩ := hrd
                      have HCAL := Lib.hid hcal
                      have HNXT := Lib.hid hnext
                      clear hcal hnext hw6
                      refine hidl.mono ?_
                      rintro e w7 ⟨rfl, hset, hg7⟩
                      have HSET := Lib.hid hset
                      have HG7 := Lib.hid hg7
                      clear hidl hset hg7
                      cases Ib with
                      | false =>
                       have hEf : E = false := by rw [HEQ.out]; simp only [Bool.false_and, Bool.and_false]
                       have HEF := Lib.hid hEf
                       have HFB := Lib.hid (HWB.out.trans (HFRM.out w7 HG7.out))
                       clear hEf
                       go_wp2
                       go_ret
                       exact ⟨by rw [HCHK.out, HEF.out]; rfl, HFB.out⟩
                      | true =>
                       obtain ⟨⟨r0, r1, r2, r3, r4, r5, r6, r7, r8, r9, ra⟩, rb, hcl⟩ := HCAL.out w7 (HSET.out rfl) HG7.out
                       have HCL := Lib.hid hcl
                       clear hcl
                       go_wp2_with fail
                       refine HCL.out.mono ?_
                       rintro e w8 ⟨rfl, hset2, hg8⟩
                       have HSET2 := Lib.hid hset2
                       have HG8 := Lib.hid hg8
                       clear hset2 hg8
                       cases Cb with
                       | false =>
                        have hEf : E = false := by rw [HEQ.out]; simp only [Bool.false_and, Bool.and_false]
                        have HEF := Lib.hid hEf
                        have HFB := Lib.hid (HWB.out.trans (HFRM2.out w7 w8 HG7.out HG8.out))
                        clear hEf
                        go_wp2
                        go_ret
                        exact ⟨by rw [HCHK.out, HEF.out]; rfl, HFB.out⟩
                       | true =>
                        have HNX := Lib.hid (HNXT.out w7 w8 HG7.out HG8.out (HSET2.out rfl).1 (HSET2.out rfl).2 (by rw [HEQ.out]; simp only [da1, da2, dw0, di0, dp0, dp1, hbr, Bool.not_true, Bool.not_false, Bool.and_false, Bool.false_and, Bool.true_and, Bool.and_true, Bool.or_true, Bool.true_or, Bool.false_or, Bool.or_false]))
                        go_wp2
                        case roundEnd =>
                         refine ⟨⟨k + 1, _, _, hlt, by rw [show (k : Int) + 1 = ((k + 1 : Nat) : Int) by omega], HNX⟩, ?_⟩
                         simp [intOf]
                         omega
                   · have dp1 : decide (0 < pr) = false := decide_eq_false hp1
                     go_wp2_with fail
                     obtain ⟨w6, hw6⟩ : ∃ x, x = wr.alloc (.cells #[I64 mx, I64 qu, I64 id, I64 ag, .slice ia iN ic, .slice la lN lc, .slice da dN dc, .slice wa wN wc, .bool up, I64 br, I64 pr] 48) := ⟨_, rfl⟩
                     obtain ⟨P6, hP6⟩ : ∃ x, x = wr.heap.size := ⟨_, rfl⟩
                     have hrd := HROUND.out
                     rw [← hw6] at hrd HFRM HFRM2
                     simp only [← hw6, ← hP6]
                     obtain ⟨hidl, hcal, hnext⟩ := hrd
                     have HCAL := Lib.hid hcal
                     have HNXT := Lib.hid hnext
                     clear hcal hnext hw6
                     refine hidl.mono ?_
                     rintro e w7 ⟨rfl, hset, hg7⟩
                     have HSET := Lib.hid hset
                     have HG7 := Lib.hid hg7
                     clear hidl hset hg7
                     cases Ib with
                     | false =>
                      have hEf : E = false := by rw [HEQ.out]; simp only [Bool.false_and, Bool.and_false]
                      have HEF := Lib.hid hEf
                      have HFB := Lib.hid (HWB.out.trans (HFRM.out w7 HG7.out))
                      clear hEf
                      go_wp2
                      go_ret
                      exact ⟨by rw [HCHK.out, HEF.out]; rfl, HFB.out⟩
                     | true =>
                      obtain ⟨⟨r0, r1, r2, r3, r4, r5, r6, r7, r8, r9, ra⟩, rb, hcl⟩ := HCAL.out w7 (HSET.out rfl) HG7.out
                      have HCL := Lib.hid hcl
                      clear hcl
                      go_wp2_with fail
                      refine HCL.out.mono ?_
                      rintro e w8 ⟨rfl, hset2, hg8⟩
                      have HSET2 := Lib.hid hset2
                      have HG8 := Lib.hid hg8
                      clear hset2 hg8
                      cases Cb with
                      | false =>
                       have hEf : E = false := by rw [HEQ.out]; simp only [Bool.false_and, Bool.and_false]
                       have HEF := Lib.hid hEf
                       have HFB := Lib.hid (HWB.out.trans (HFRM2.out w7 w8 HG7.out HG8.out))
                       clear hEf
                       go_wp2
                       go_ret
                       exact ⟨by rw [HCHK.out, HEF.out]; rfl, HFB.out⟩
                      | true =>
                       have HNX := Lib.hid (HNXT.out w7 w8 HG7.out HG8.out (HSET2.out rfl).1 (HSET2.out rfl).2 (by rw [HEQ.out]; simp only [da1, da2, dw0, di0, dp0, dp1, Bool.not_true, Bool.not_false, Bool.and_false, Bool.false_and, Bool.true_and, Bool.and_true, Bool.or_true, Bool.true_or, Bool.false_or, Bool.or_false]))
                       go_wp2
                       case roundEnd =>
                        refine ⟨⟨k + 1, _, _, hlt, by rw [show (k : Int) + 1 = ((k + 1 : Nat) : Int) by omega], HNX⟩, ?_⟩
                        simp [intOf]
                        omega
              | false =>
               by_cases hp0 : pr < 0
               · have dp0 : decide (pr < 0) = true := decide_eq_true hp0
                 have hEf : E = false := by rw [HEQ.out]; simp only [da1, da2, dw0, dp0, Bool.not_true, Bool.not_false, Bool.and_false, Bool.false_and, Bool.true_and, Bool.and_true, Bool.or_true, Bool.true_or, Bool.false_or, Bool.or_false]
                 have HEF := Lib.hid hEf
                 have HFB := Lib.hid (HWB.out.alloc HWB.out.size (.cells #[I64 mx, I64 qu, I64 id, I64 ag, .slice ia iN ic, .slice la lN lc, .slice da dN dc, .slice wa wN wc, .bool up, I64 br, I64 pr] 48))
                 clear hEf
                 go_wp2
                 go_ret
                 exact ⟨by rw [HCHK.out, HEF.out]; rfl, HFB.out⟩
               · have dp0 : decide (pr < 0) = false := decide_eq_false hp0
                 by_cases hp1 : 0 < pr
                 · have dp1 : decide (0 < pr) = true := decide_eq_true hp1
                   cases hbr : (br == 2) with
                   | false =>
                    have hEf : E = false := by rw [HEQ.out]; simp only [da1, da2, dw0, dp0, dp1, hbr, Bool.not_true, Bool.not_false, Bool.and_false, Bool.false_and, Bool.true_and, Bool.and_true, Bool.or_true, Bool.true_or, Bool.false_or, Bool.or_false]
                    have HEF := Lib.hid hEf
                    have HFB := Lib.hid (HWB.out.alloc HWB.out.size (.cells #[I64 mx, I64 qu, I64 id, I64 ag, .slice ia iN ic, .slice la lN lc, .slice da dN dc, .slice wa wN wc, .bool up, I64 br, I64 pr] 48))
                    clear hEf
                    go_wp2
                    go_ret
                    exact ⟨by rw [HCHK.out, HEF.out]; rfl, HFB.out⟩
                   | true =>
                    go_wp2_with fail
                    obtain ⟨w6, hw6⟩ : ∃ x, x = wr.alloc (.cells #[I64 mx, I64 qu, I64 id, I64 ag, .slice ia iN ic, .slice la lN lc, .slice da dN dc, .slice wa wN wc, .bool up, I64 br, I64 pr] 48) := ⟨_, rfl⟩
                    obtain ⟨P6, hP6⟩ : ∃ x, x = wr.heap.size := ⟨_, rfl⟩
                    have hrd := HROUND.out
                    rw [← hw6] at hrd HFRM HFRM2
                    simp only [← hw6, ← hP6]
                    obtain ⟨hidl, hcal, hnext⟩ := hrd
                    have HCAL := Lib.hid hcal
                    have HNXT := Lib.hid hnext
                    clear hcal hnext hw6
                    refine hidl.mono ?_
                    rintro e w7 ⟨rfl, hset, hg7⟩
                    have HSET := Lib.hid hset
                    have HG7 := Lib.hid hg7
                    clear hidl hset hg7
                    cases Ib with
                    | false =>
                     have hEf : E = false := by rw [HEQ.out]; simp only [Bool.false_and, Bool.and_false]
                     have HEF := Lib.hid hEf
                     have HFB := Lib.hid (HWB.out.trans (HFRM.out w7 HG7.out))
                     clear hEf
                     go_wp2
                     go_ret
                     exact ⟨by rw [HCHK.out, HEF.out]; rfl, HFB.out⟩
                    | true =>
                     obtain ⟨⟨r0, r1, r2, r3, r4, r5, r6, r7, r8, r9, ra⟩, rb, hcl⟩ := HCAL.out w7 (HSET.out rfl) HG7.out
                     have HCL := Lib.hid hcl
                     clear hcl
                     go_wp2_with fail
                     refine HCL.out.mono ?_
                     rintro e w8 ⟨rfl, hset2, hg8⟩
                     have HSET2 := Lib.hid hset2
                     have HG8 := Lib.hid hg8
                     clear hset2 hg8
                     cases Cb with
                     | false =>
                      have hEf : E = false := by rw [HEQ.out]; simp only [Bool.false_and, Bool.and_false]
                      have HEF := Lib.hid hEf
                      have HFB := Lib.hid (HWB.out.trans (HFRM2.out w7 w8 HG7.out HG8.out))
                      clear hEf
                      go_wp2
                      go_ret
                      exact ⟨by rw [HCHK.out, HEF.out]; rfl, HFB.out⟩
                     | true =>
                      have HNX := Lib.hid (HNXT.out w7 w8 HG7.out HG8.out (HSET2.out rfl).1 (HSET2.out rfl).2 (by rw [HEQ.out]; simp only [da1, da2, dw0, dp0, dp1, hbr, Bool.not_true, Bool.not_false, Bool.and_false, Bool.false_and, Bool.true_and, Bool.and_true, Bool.or_true, Bool.true_or, Bool.false_or, Bool.or_false]))
                      go_wp2
                      case roundEnd =>
                       refine ⟨⟨k + 1, _, _, hlt, by rw [show (k : Int) + 1 = ((k + 1 : Nat) : Int) by omega], HNX⟩, ?_⟩
                       simp [intOf]
                       omega
                 · have dp1 : decide (0 < pr) = false := decide_eq_false hp1
                   go_wp2_with fail
                   obtain ⟨w6, hw6⟩ : ∃ x, x = wr.alloc (.cells #[I64 mx, I64 qu, I64 id, I64 ag, .slice ia iN ic, .slice la lN lc, .slice da dN dc, .slice wa wN wc, .bool up, I64 br, I64 pr] 48) := ⟨_, rfl⟩
                   obtain ⟨P6, hP6⟩ : ∃ x, x = wr.heap.size := ⟨_, rfl⟩
                   have hrd := HROUND.out
                   rw [← hw6] at hrd HFRM HFRM2
                   simp only [← hw6, ← hP6]
                   obtain ⟨hidl, hcal, hnext⟩ := hrd
                   have HCAL := Lib.hid hcal
                   have HNXT := Lib.hid hnext
                   clear hcal hnext hw6
                   refine hidl.mono ?_
                   rintro e w7 ⟨rfl, hset, hg7⟩
                   have HSET := Lib.hid hset
                   have HG7 := Lib.hid hg7
                   clear hidl hset hg7
                   cases Ib with
                   | false =>
                    have hEf : E = false := by rw [HEQ.out]; simp only [Bool.false_and, Bool.and_false]
                    have HEF := Lib.hid hEf
                    have HFB := Lib.hid (HWB.out.trans (HFRM.out w7 HG7.out))
                    clear hEf
                    go_wp2
                    go_ret
                    exact ⟨by rw [HCHK.out, HEF.out]; rfl, HFB.out⟩
                   | true =>
                    obtain ⟨⟨r0, r1, r2, r3, r4, r5, r6, r7, r8, r9, ra⟩, rb, hcl⟩ := HCAL.out w7 (HSET.out rfl) HG7.out
                    have HCL := Lib.hid hcl
                    clear hcl
                    go_wp2_with fail
                    refine HCL.out.mono ?_
                    rintro e w8 ⟨rfl, hset2, hg8⟩
                    have HSET2 := Lib.hid hset2
                    have HG8 := Lib.hid hg8
                    clear hset2 hg8
                    cases Cb with
                    | false =>
                     have hEf : E = false := by rw [HEQ.out]; simp only [Bool.false_and, Bool.and_false]
                     have HEF := Lib.hid hEf
                     have HFB := Lib.hid (HWB.out.trans (HFRM2.out w7 w8 HG7.out HG8.out))
                     clear hEf
                     go_wp2
                     go_ret
                     exact ⟨by rw [HCHK.out, HEF.out]; rfl, HFB.out⟩
                    | true =>
                     have HNX := Lib.hid (HNXT.out w7 w8 HG7.out HG8.out (HSET2.out rfl).1 (HSET2.out rfl).2 (by rw [HEQ.out]; simp only [da1, da2, dw0, dp0, dp1, Bool.not_true, Bool.not_false, Bool.and_false, Bool.false_and, Bool.true_and, Bool.and_true, Bool.or_true, Bool.true_or, Bool.false_or, Bool.or_false]))
                     go_wp2
                     case roundEnd =>
                      refine ⟨⟨k + 1, _, _, hlt, by rw [show (k : Int) + 1 = ((k + 1 : Nat) : Int) by omega], HNX⟩, ?_⟩
                      simp [intOf]
                      omega
      · have hkn2 : k = un := by omega
        subst hkn2
        have heq := HC.out.eq
        rw [HN.out, List.drop_length] at heq
        have hEt : E = true := by rw [heq]; rfl
        have HET := Lib.hid hEt
        clear heq hEt hbw HC
        go_wp2
        go_ret
        exact ⟨by rw [HCHK.out, HET.out]; rfl, HWB.out⟩
end Go.Proofs.Ytaicmiadgnpimaa
