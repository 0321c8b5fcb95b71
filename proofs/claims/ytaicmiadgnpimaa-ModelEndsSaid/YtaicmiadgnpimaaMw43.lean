/-
  Walks for layer 26 (model): idle connections of a backend are right.
-/
import Derived.Test.YtaicmiadgnpimaaMgj
namespace Go.Proofs.Ytaicmiadgnpimaa
open Go.RowKit

def valPV (pv : PoolV) : Value := .agg #[I64 pv.lim.max, I64 pv.lim.queue, I64 pv.lim.idle, I64 pv.lim.age, valS pv.vI, valS pv.vL, valS pv.vD, valS pv.vW, .bool pv.up, I64 pv.breaker, I64 pv.probe]
/-- What the test of an idle connection reads. -/
def CI (X P Y b2 : Nat) (mx qu id ag y0 y1 y2 : Int) (w : World) : Prop := w.cell? ⟨X, 1, none⟩ = some (.map (some b2)) ∧ (w.cell? ⟨P, 0, none⟩ = some (I64 mx) ∧ w.cell? ⟨P, 1, none⟩ = some (I64 qu) ∧ w.cell? ⟨P, 2, none⟩ = some (I64 id) ∧ w.cell? ⟨P, 3, none⟩ = some (I64 ag)) ∧ w.cell? ⟨Y, 0, none⟩ = some (I64 y0) ∧ w.cell? ⟨Y, 1, none⟩ = some (I64 y1) ∧ w.cell? ⟨Y, 2, none⟩ = some (I64 y2)
theorem CI.kept {X P Y b2 : Nat} {mx qu id ag y0 y1 y2 : Int} {w w' : World} {row : Option Nat} (h : CI X P Y b2 mx qu id ag y0 y1 y2 w) (hg : w.grownBy w' row) (h1 : some X ≠ row) (h2 : some P ≠ row) (h3 : some Y ≠ row) : CI X P Y b2 mx qu id ag y0 y1 y2 w' := by
 obtain ⟨a, ⟨b0, b1, b2', b3⟩, c0, c1, c2⟩ := h
 have hc : ∀ {B o v}, w.cell? ⟨B, o, none⟩ = some v → some B ≠ row → w'.cell? ⟨B, o, none⟩ = some v := fun {B o v} hv hn => (World.cell?_of_block (a := ⟨B, o, none⟩) (hg.block B (cell_lt hv) hn)).trans hv
 exact ⟨hc a h1, ⟨hc b0 h2, hc b1 h2, hc b2' h2, hc b3 h2⟩, hc c0 h3, hc c1 h3, hc c2 h3⟩
theorem idle_rest (lm : Md.Lim) (now last : Int) (x : Md.Conn) (t : List Md.Conn) (S : List Int) : (Md.idleOk lm now last (x :: t) && Md.newOk S ((x :: t).map (·.1))) =
 ((!decide (x.2.1 < 0) && !decide (x.2.2 < x.2.1) && !decide (x.2.2 < last) && !decide (now < x.2.2)) && (Md.young lm x now && ((decide (1 ≤ x.1) && !decide (x.1 ∈ S)) && (Md.idleOk lm now x.2.2 t && Md.newOk (x.1 :: S) (t.map (·.1)))))) := by
 have e1 : (!decide (x.2.1 < 0)) = decide (0 ≤ x.2.1) := by rw [Bool.eq_iff_iff]; simp
 have e2 : (!decide (x.2.2 < x.2.1)) = decide (x.2.1 ≤ x.2.2) := by rw [Bool.eq_iff_iff]; simp
 have e3 : (!decide (x.2.2 < last)) = decide (last ≤ x.2.2) := by rw [Bool.eq_iff_iff]; simp
 have e4 : (!decide (now < x.2.2)) = decide (x.2.2 ≤ now) := by rw [Bool.eq_iff_iff]; simp
 rw [e1, e2, e3, e4]
 simp only [Md.idleOk, List.map_cons, Md.newOk]
 cases decide (0 ≤ x.2.1) <;> cases decide (x.2.1 ≤ x.2.2) <;> cases decide (last ≤ x.2.2) <;> cases decide (x.2.2 ≤ now) <;> cases Md.young lm x now <;> cases (decide (1 ≤ x.1) && !decide (x.1 ∈ S)) <;> cases Md.idleOk lm now x.2.2 t <;> simp
/-- Where the loop over idle connections stands. -/
structure IdAt (b2 n2 : Nat) (Sc : List Int) (F : Bool) (lm : Md.Lim) (now : Int) (l : List Md.Conn) (k : Nat) (last : Int) (w0 wr : World) : Prop where
 own : SetOwn wr b2 (n2 + k) (((l.take k).map (·.1)).reverse ++ Sc)
 eq : F = (Md.idleOk lm now last (l.drop k) && Md.newOk (((l.take k).map (·.1)).reverse ++ Sc) ((l.drop k).map (·.1)))
 gb : Gb (fun i => i = b2) w0 wr
set_option maxHeartbeats 8000000 in
set_option maxRecDepth 100000 in
set_option linter.unusedSimpArgs false in
theorem idle_any (X b1 b2 n2 : Nat) (Sc : List Int) (now : Int) (p : Md.Pool) (pv : PoolV) (w : World) (hX : w.heap[X]? = some (.cells #[.map (some b1), .map (some b2)] 97 (0, 0))) (hs : SetOwn w b2 n2 Sc) (hrd : PoolRd w pv p) (hlim : Md.limOk p.lim = true) (hnow : Md.isTime now = true) (hlen : p.idle.length ≤ 1000000) (hn2 : n2 ≤ 100000000)
 (hbd : ∀ x ∈ p.idle, x.1 ≤ 9223372036854775807) :
 Calls Try.prog 32 #[.pointer (some ⟨X, 0, none⟩), valPV pv, I64 now] w fun e w' => e = .returned (.bool (Md.idleOk p.lim now 0 p.idle && Md.newOk Sc (p.idle.map (·.1)))) ∧ ((Md.idleOk p.lim now 0 p.idle && Md.newOk Sc (p.idle.map (·.1))) = true → SetOwn w' b2 (n2 + p.idle.length) ((p.idle.map (·.1)).reverse ++ Sc)) ∧ Gb (fun i => i = b2) w w' := by
 have hb2X : X ≠ b2 := by
  intro e
  subst e
  obtain ⟨D, ⟨es, clock, hb, _⟩, _⟩ := hs
  rw [hX] at hb
  cases hb
 have hlm : Near p.lim.idle ∧ Near p.lim.age := by
  unfold Md.limOk at hlim
  simp only [Bool.and_eq_true, decide_eq_true_eq] at hlim
  unfold Near
  omega
 have hnw : 0 ≤ now ∧ now ≤ 1000000000000 := Md.time_iff.1 hnow
 have hal := (Below.refl w.heap.size w).alloc (Nat.le_refl _) (.cells #[I64 pv.lim.max, I64 pv.lim.queue, I64 pv.lim.idle, I64 pv.lim.age, valS pv.vI, valS pv.vL, valS pv.vD, valS pv.vW, .bool pv.up, I64 pv.breaker, I64 pv.probe] 48)
 have bP := blk_new w (.cells #[I64 pv.lim.max, I64 pv.lim.queue, I64 pv.lim.idle, I64 pv.lim.age, valS pv.vI, valS pv.vL, valS pv.vD, valS pv.vW, .bool pv.up, I64 pv.breaker, I64 pv.probe] 48)
 obtain ⟨w0, hw0⟩ : ∃ x, x = w.alloc (.cells #[I64 pv.lim.max, I64 pv.lim.queue, I64 pv.lim.idle, I64 pv.lim.age, valS pv.vI, valS pv.vL, valS pv.vD, valS pv.vW, .bool pv.up, I64 pv.breaker, I64 pv.probe] 48) := ⟨_, rfl⟩
 obtain ⟨P, hP⟩ : ∃ x, x = w.heap.size := ⟨_, rfl⟩
 rw [← hw0] at hal bP
 rw [← hP] at bP
 have hXl := (Array.getElem?_eq_some_iff.1 hX).1
 have hX0 := (hal.block X hXl).trans hX
 have hs0 : SetOwn w0 b2 n2 Sc := hs.kept (row := none) ⟨hal.os, hal.tape, hal.output, hal.size, fun i hi _ => hal.block i hi⟩ (by simp)
 have hb2P : P ≠ b2 := by have := hs.lt; omega
 have hXP : X ≠ P := by omega
 have hrI := hrd.idle.below hal
 obtain ⟨F, hF⟩ : ∃ F, F = (Md.idleOk p.lim now 0 p.idle && Md.newOk Sc (p.idle.map (·.1))) := ⟨_, rfl⟩
 rw [← hF]
 have HID0 : Hid (IdAt b2 n2 Sc F p.lim now p.idle 0 0 w0 w0) := ⟨hs0, by simpa using hF, Gb.refl _ _⟩
 have HGW : Hid (∀ w', Gb (fun i => i = b2) w0 w' → Gb (fun i => i = b2) w w') := fun w' hg => (Gb.of_below hal).trans hg
 have hpl := hrd.lim
 have HBP : Hid (w0.heap[P]? = some (.cells #[I64 p.lim.max, I64 p.lim.queue, I64 p.lim.idle, I64 p.lim.age, valS pv.vI, valS pv.vL, valS pv.vD, valS pv.vW, .bool pv.up, I64 pv.breaker, I64 pv.probe] 48 (0, 0))) := by rw [← hpl]; exact bP
 have HX0 := Lib.hid hX0
 have HRI := Lib.hid hrI
 have HS0 := Lib.hid hs0
 have HBD := Lib.hid hbd
 have HNE : Hid (X ≠ b2 ∧ P ≠ b2) := ⟨hb2X, hb2P⟩
 have HLM := Lib.hid hlm
 have hvl := read_len hrd.idle
 obtain ⟨n, hn⟩ : ∃ n, n = p.idle.length := ⟨_, rfl⟩
 have HN := Lib.hid hn
 rw [← hn] at hlen ⊢
 rw [← hn] at hvl
 -- what a round reads
 have HRD : Hid (∀ k (hk : k < p.idle.length) last wr, IdAt b2 n2 Sc F p.lim now p.idle k last w0 wr → ∃ g o cap, valS pv.vI = .slice (some ⟨g, o, none⟩) p.idle.length cap ∧ (wr.cell? ⟨g, o + k * 3, none⟩ = some (I64 p.idle[k].1) ∧ wr.cell? ⟨g, o + k * 3 + 1, none⟩ = some (I64 p.idle[k].2.1) ∧ wr.cell? ⟨g, o + k * 3 + 2, none⟩ = some (I64 p.idle[k].2.2))) := fun k hk last wr h => by
  have hg : w0.grownBy wr (some b2) := ⟨h.gb.os, h.gb.tape, h.gb.output, h.gb.size, fun i hi hne => h.gb.block i hi (fun e => hne (by rw [e]))⟩
  have hr := reads_map encConn_len (by decide) hrI hs0 hg
  obtain ⟨g, o, cap, e, _, hc⟩ := hr.form (by intro e; rw [e] at hk; simp at hk)
  exact ⟨g, o, cap, e, hc k hk 0 _ rfl, hc k hk 1 _ rfl, hc k hk 2 _ rfl⟩
 have HPV : ∃ ia ic, valS pv.vI = .slice ia n ic := ⟨pv.vI.1, pv.vI.2.2, by rw [← hvl]; rfl⟩
 obtain ⟨ia, ic, hvI⟩ := HPV
 obtain ⟨la, ln, lc, hvL⟩ : ∃ a b c, valS pv.vL = .slice a b c := ⟨_, _, _, rfl⟩
 obtain ⟨da, dn, dc, hvD⟩ : ∃ a b c, valS pv.vD = .slice a b c := ⟨_, _, _, rfl⟩
 obtain ⟨wa, wn, wc, hvW⟩ : ∃ a b c, valS pv.vW = .slice a b c := ⟨_, _, _, rfl⟩
 rw [hvI] at HRD
 unfold valPV
 rw [hvI, hvL, hvD, hvW] at hw0 ⊢
 obtain ⟨lm, hlmE⟩ : ∃ lm, lm = p.lim := ⟨_, rfl⟩
 rw [← hlmE] at HLM HBP HID0 HRD
 rw [hpl, ← hlmE] at hw0 ⊢
 obtain ⟨mx, qu, id, ag⟩ := lm
 dsimp only at HBP hw0 ⊢
 have HHP : Hid (w0.cell? ⟨P, 0, none⟩ = some (I64 mx) ∧ w0.cell? ⟨P, 1, none⟩ = some (I64 qu) ∧ w0.cell? ⟨P, 2, none⟩ = some (I64 id) ∧ w0.cell? ⟨P, 3, none⟩ = some (I64 ag)) := Lib.hid ⟨blk_cell HBP.out 0, blk_cell HBP.out 1, blk_cell HBP.out 2, blk_cell HBP.out 3⟩
 have HPB : Hid (P < w0.heap.size ∧ b2 < w0.heap.size) := Lib.hid ⟨(Array.getElem?_eq_some_iff.1 HBP.out).1, HS0.out.lt⟩
 clear hvI hvL hvD hvW hvl hn hpl hF hrI hb2P hs0 hX0 hXl bP hal hbd hrd hs hX hlmE hlm hXP hb2X HBP
 go_enter Try.func32, Try.ntmps32
 go_wp2
 simp only [← hw0, ← hP]
 clear hw0 hP
 go_loopw [7, 9, 13] (fun lv _ kv wr => ∃ k : Nat, ∃ last : Int, k ≤ n ∧ kv = .int .i64 k ∧ lv = .int .i64 last ∧ Hid (IdAt b2 n2 Sc F ⟨mx, qu, id, ag⟩ now p.idle k last w0 wr)) (fun _ _ kv _ => n - (intOf kv).toNat)
 case atStart => exact ⟨0, 0, Nat.zero_le _, rfl, rfl, HID0⟩
 case round =>
  obtain ⟨k, last, hkn, rfl, rfl, HID⟩ := hrel
  by_cases hlt : k < n
  · have hk : k < p.idle.length := by rw [← HN.out]; exact hlt
    obtain ⟨g, o, cap, e, p0, p1, p2⟩ := HRD.out k hk last wr HID.out
    injection e with e1 e2 e3
    subst e1
    clear e2 e3
    have heq := HID.out.eq
    rw [List.drop_eq_getElem_cons hk, idle_rest] at heq
    have hbx := HBD.out _ (List.getElem_mem hk)
    have htk := take_map_rev (fun x : Md.Conn => x.1) p.idle k hk Sc
    generalize p.idle[k] = y at heq hbx htk p0 p1 p2
    obtain ⟨y0, y1, y2⟩ := y
    dsimp only at heq hbx htk p0 p1 p2
    have HEQ := Lib.hid heq
    have HTK := Lib.hid htk
    have hgw : w0.grownBy wr (some b2) := ⟨HID.out.gb.os, HID.out.gb.tape, HID.out.gb.output, HID.out.gb.size, fun i hi hne => HID.out.gb.block i hi (fun e => hne (by rw [e]))⟩
    have hc0 : ∀ {B o v}, w0.cell? ⟨B, o, none⟩ = some v → B ≠ b2 → wr.cell? ⟨B, o, none⟩ = some v := fun {B o v} hv hn => (World.cell?_of_block (a := ⟨B, o, none⟩) (hgw.block B (cell_lt hv) (fun e => hn (by injection e)))).trans hv
    have hYb := blk_new wr (.cells #[I64 y0, I64 y1, I64 y2] 100)
    have hal := World.grownBy_alloc wr (.cells #[I64 y0, I64 y1, I64 y2] 100) none
    have HY : Hid (CI X P wr.heap.size b2 mx qu id ag y0 y1 y2 (wr.alloc (.cells #[I64 y0, I64 y1, I64 y2] 100)) ∧ b2 < wr.heap.size ∧ SetOwn (wr.alloc (.cells #[I64 y0, I64 y1, I64 y2] 100)) b2 (n2 + k) (((p.idle.take k).map (·.1)).reverse ++ Sc) ∧ Gb (fun i => i = b2) w0 (wr.alloc (.cells #[I64 y0, I64 y1, I64 y2] 100))) := by
     refine Lib.hid ⟨⟨?_, ⟨?_, ?_, ?_, ?_⟩, blk_cell hYb 0, blk_cell hYb 1, blk_cell hYb 2⟩, HID.out.own.lt, HID.out.own.kept hal (by simp), HID.out.gb.alloc _⟩
     · have q := hc0 (blk_cell HX0.out 1) HNE.out.1
       exact (World.cell?_of_block (a := ⟨X, 1, none⟩) (hal.block X (cell_lt q) (by simp))).trans q
     · have q := hc0 HHP.out.1 HNE.out.2
       exact (World.cell?_of_block (a := ⟨P, 0, none⟩) (hal.block P (cell_lt q) (by simp))).trans q
     · have q := hc0 HHP.out.2.1 HNE.out.2
       exact (World.cell?_of_block (a := ⟨P, 1, none⟩) (hal.block P (cell_lt q) (by simp))).trans q
     · have q := hc0 HHP.out.2.2.1 HNE.out.2
       exact (World.cell?_of_block (a := ⟨P, 2, none⟩) (hal.block P (cell_lt q) (by simp))).trans q
     · have q := hc0 HHP.out.2.2.2 HNE.out.2
       exact (World.cell?_of_block (a := ⟨P, 3, none⟩) (hal.block P (cell_lt q) (by simp))).trans q
    clear heq htk hgw hc0 hYb hal
    by_cases h1 : y1 < 0
    · have d1 : decide (y1 < 0) = true := by simp [h1]
      have hFf : F = false := by rw [HEQ.out]; simp [h1]
      have HFF := Lib.hid hFf
      clear hFf
      go_wp2
      go_quiet (fail)
      go_wp2
      go_ret
      refine ⟨ret_bool HFF.out.symm, fun h => (by rw [HFF.out] at h; cases h), HGW.out _ (HY.out.2.2.2.trans (.of_below (below_drewN (Below.refl _ _) _)))⟩
    · have d1 : decide (y1 < 0) = false := by simp [h1]
      by_cases h2 : y2 < y1
      · have d2 : decide (y2 < y1) = true := by simp [h2]
        have hFf : F = false := by rw [HEQ.out]; simp [h2]
        have HFF := Lib.hid hFf
        clear hFf
        go_wp2
        go_quiet (fail)
        go_wp2
        go_ret
        refine ⟨ret_bool HFF.out.symm, fun h => (by rw [HFF.out] at h; cases h), HGW.out _ (HY.out.2.2.2.trans (.of_below (below_drewN (Below.refl _ _) _)))⟩
      · have d2 : decide (y2 < y1) = false := by simp [h2]
        by_cases h3 : y2 < last
        · have d3 : decide (y2 < last) = true := by simp [h3]
          have hFf : F = false := by rw [HEQ.out]; simp [h3]
          have HFF := Lib.hid hFf
          clear hFf
          go_wp2
          go_quiet (fail)
          go_wp2
          go_ret
          refine ⟨ret_bool HFF.out.symm, fun h => (by rw [HFF.out] at h; cases h), HGW.out _ (HY.out.2.2.2.trans (.of_below (below_drewN (Below.refl _ _) _)))⟩
        · have d3 : decide (y2 < last) = false := by simp [h3]
          by_cases h4 : now < y2
          · have d4 : decide (now < y2) = true := by simp [h4]
            have hFf : F = false := by rw [HEQ.out]; simp [h4]
            have HFF := Lib.hid hFf
            clear hFf
            go_wp2
            go_quiet (fail)
            go_wp2
            go_ret
            refine ⟨ret_bool HFF.out.symm, fun h => (by rw [HFF.out] at h; cases h), HGW.out _ (HY.out.2.2.2.trans (.of_below (below_drewN (Below.refl _ _) _)))⟩
          · have d4 : decide (now < y2) = false := by simp [h4]
            cases hyg : Md.young ⟨mx, qu, id, ag⟩ (y0, y1, y2) now with
            | false =>
             have hn1 : Near y2 := by unfold Near; omega
             have hn2 : Near y1 := by unfold Near; omega
             have hold := old_any ⟨mx, qu, id, ag⟩ (y0, y1, y2) now
             rw [hyg] at hold
             unfold valLim valConn at hold
             simp only [Bool.not_true, Bool.not_false] at hold
             have HOLDA := Lib.hid (fun w => hold w hn1 hn2 HLM.out.1 HLM.out.2)
             clear hold hn1 hn2
             go_wp2
             obtain ⟨Y, hY⟩ : ∃ Y, Y = wr.heap.size := ⟨_, rfl⟩
             obtain ⟨w4, hw4⟩ : ∃ x, x = wr.alloc (.cells #[I64 y0, I64 y1, I64 y2] 100) := ⟨_, rfl⟩
             rw [← hw4, ← hY] at HY
             simp only [← hw4, ← hY]
             have hY2 := HY.out
             clear hw4 hY
             obtain ⟨wx, hwx⟩ : ∃ x, x = w4.drew := ⟨_, rfl⟩
             have HCI : Hid (CI X P Y b2 mx qu id ag y0 y1 y2 wx) := by rw [hwx]; exact Lib.hid hY2.1
             have HOLD := Lib.hid (HOLDA.out wx)
             have HSO : Hid (SetOwn wx b2 (n2 + k) (((p.idle.take k).map (·.1)).reverse ++ Sc) ∧ Gb (fun i => i = b2) w0 wx) := by rw [hwx]; exact Lib.hid ⟨hY2.2.2.1, hY2.2.2.2.trans (.of_below (Below.refl _ _).drew)⟩
             have HYL : Hid (Y ≠ b2) := Lib.hid (by have := hY2.2.1; omega)
             clear hY2 HY HOLDA
             refine wp_region_held_drew (S := CI X P Y b2 mx qu id ag y0 y1 y2) (by kernel_rfl) (by rw [← hwx]; exact HCI.out) (fun hHeld => ?_)
             rw [← hwx] at hHeld ⊢
             clear hwx
             refine tk 0 (v := ?vv0_1) (dropAt rfl) (Or.inl ⟨by rfl, ?hv0_1⟩) hHeld ?rv0_1
             case hv0_1 => (intro w hSw; unfold CI at hSw; obtain ⟨hS1, ⟨hSa, hSb, hSc, hSd⟩, hS2, hS3, hS4⟩ := hSw; go_simp; first | done | with_reducible rfl)
             try simp only [Act.put, pu2, pu3, pu4]
             refine tk 1 (v := ?vv1_2) (dropAt rfl) (Or.inl ⟨by rfl, ?hv1_2⟩) hHeld ?rv1_2
             case hv1_2 => (intro w hSw; unfold CI at hSw; obtain ⟨hS1, ⟨hSa, hSb, hSc, hSd⟩, hS2, hS3, hS4⟩ := hSw; go_simp; first | done | with_reducible rfl)
             try simp only [Act.put, pu2, pu3, pu4]
             refine tk 2 (v := ?vv2_3) (dropAt rfl) (Or.inl ⟨by rfl, ?hv2_3⟩) hHeld ?rv2_3
             case hv2_3 => (intro w hSw; unfold CI at hSw; obtain ⟨hS1, ⟨hSa, hSb, hSc, hSd⟩, hS2, hS3, hS4⟩ := hSw; go_simp; first | done | with_reducible rfl)
             try simp only [Act.put, pu2, pu3, pu4]
             refine tk 3 (v := ?vv3_4) (dropAt rfl) (Or.inl ⟨by rfl, ?hv3_4⟩) hHeld ?rv3_4
             case hv3_4 => (intro w hSw; unfold CI at hSw; obtain ⟨hS1, ⟨hSa, hSb, hSc, hSd⟩, hS2, hS3, hS4⟩ := hSw; go_simp; first | done | with_reducible rfl)
             try simp only [Act.put, pu2, pu3, pu4]
             refine tk 4 (v := ?vv4_5) (dropAt rfl) (Or.inl ⟨by rfl, ?hv4_5⟩) hHeld ?rv4_5
             case hv4_5 => (intro w hSw; unfold CI at hSw; obtain ⟨hS1, ⟨hSa, hSb, hSc, hSd⟩, hS2, hS3, hS4⟩ := hSw; go_simp; first | done | with_reducible rfl)
             try simp only [Act.put, pu2, pu3, pu4]
             refine tk 5 (v := ?vv5_6) (dropAt rfl) (Or.inl ⟨by rfl, ?hv5_6⟩) hHeld ?rv5_6
             case hv5_6 => (intro w hSw; unfold CI at hSw; obtain ⟨hS1, ⟨hSa, hSb, hSc, hSd⟩, hS2, hS3, hS4⟩ := hSw; go_simp; first | done | with_reducible rfl)
             try simp only [Act.put, pu2, pu3, pu4]
             refine tk 6 (v := ?vv6_7) (dropAt rfl) (Or.inl ⟨by rfl, ?hv6_7⟩) hHeld ?rv6_7
             case hv6_7 => (intro w hSw; unfold CI at hSw; obtain ⟨hS1, ⟨hSa, hSb, hSc, hSd⟩, hS2, hS3, hS4⟩ := hSw; go_simp; first | done | with_reducible rfl)
             try simp only [Act.put, pu2, pu3, pu4]
             refine tk 7 (v := ?vv7_8) (dropAt rfl) (Or.inl ⟨by rfl, ?hv7_8⟩) hHeld ?rv7_8
             case hv7_8 => (intro w hSw; unfold CI at hSw; obtain ⟨hS1, ⟨hSa, hSb, hSc, hSd⟩, hS2, hS3, hS4⟩ := hSw; go_simp; first | done | with_reducible rfl)
             try simp only [Act.put, pu2, pu3, pu4]
             refine tk 8 (v := ?vv8_9) (dropAt rfl) (Or.inl ⟨by rfl, ?hv8_9⟩) hHeld ?rv8_9
             case hv8_9 => (intro w hSw; unfold CI at hSw; obtain ⟨hS1, ⟨hSa, hSb, hSc, hSd⟩, hS2, hS3, hS4⟩ := hSw; go_simp; first | done | with_reducible rfl)
             try simp only [Act.put, pu2, pu3, pu4]
             refine tk 9 (v := ?vv9_10) (dropAt rfl) (Or.inl ⟨by rfl, ?hv9_10⟩) hHeld ?rv9_10
             case hv9_10 => (intro w hSw; unfold CI at hSw; obtain ⟨hS1, ⟨hSa, hSb, hSc, hSd⟩, hS2, hS3, hS4⟩ := hSw; go_simp; first | done | with_reducible rfl)
             try simp only [Act.put, pu2, pu3, pu4]
             refine tk 10 (v := ?vv10_11) (dropAt rfl) (Or.inl ⟨by rfl, ?hv10_11⟩) hHeld ?rv10_11
             case hv10_11 => (intro w hSw; unfold CI at hSw; obtain ⟨hS1, ⟨hSa, hSb, hSc, hSd⟩, hS2, hS3, hS4⟩ := hSw; go_simp; first | done | with_reducible rfl)
             try simp only [Act.put, pu2, pu3, pu4]
             refine tk 11 (v := ?vv11_12) (dropAt rfl) (Or.inl ⟨by rfl, ?hv11_12⟩) hHeld ?rv11_12
             case hv11_12 => (intro w hSw; unfold CI at hSw; obtain ⟨hS1, ⟨hSa, hSb, hSc, hSd⟩, hS2, hS3, hS4⟩ := hSw; go_simp; first | done | with_reducible rfl)
             try simp only [Act.put, pu2, pu3, pu4]
             refine tk 12 (v := ?vv12_13) (dropAt rfl) (Or.inl ⟨by rfl, ?hv12_13⟩) hHeld ?rv12_13
             case hv12_13 => (intro w hSw; unfold CI at hSw; obtain ⟨hS1, ⟨hSa, hSb, hSc, hSd⟩, hS2, hS3, hS4⟩ := hSw; go_simp; first | done | with_reducible rfl)
             try simp only [Act.put, pu2, pu3, pu4]
             refine tk 13 (v := ?vv13_14) (dropAt rfl) (Or.inl ⟨by rfl, ?hv13_14⟩) hHeld ?rv13_14
             case hv13_14 => (intro w hSw; unfold CI at hSw; obtain ⟨hS1, ⟨hSa, hSb, hSc, hSd⟩, hS2, hS3, hS4⟩ := hSw; go_simp; first | done | with_reducible rfl)
             try simp only [Act.put, pu2, pu3, pu4]
             refine tk 14 (v := ?vv14_15) (dropAt rfl) (Or.inl ⟨by rfl, ?hv14_15⟩) hHeld ?rv14_15
             case hv14_15 => (intro w hSw; unfold CI at hSw; obtain ⟨hS1, ⟨hSa, hSb, hSc, hSd⟩, hS2, hS3, hS4⟩ := hSw; go_simp; first | done | with_reducible rfl)
             try simp only [Act.put, pu2, pu3, pu4]
             refine tk 15 (v := ?vv15_16) (dropAt rfl) (Or.inl ⟨by rfl, ?hv15_16⟩) hHeld ?rv15_16
             case hv15_16 => (intro w hSw; unfold CI at hSw; obtain ⟨hS1, ⟨hSa, hSb, hSc, hSd⟩, hS2, hS3, hS4⟩ := hSw; go_simp; first | done | with_reducible rfl)
             try simp only [Act.put, pu2, pu3, pu4]
             refine tk 16 (v := ?vv16_17) (dropAt rfl) (Or.inl ⟨by rfl, ?hv16_17⟩) hHeld ?rv16_17
             case hv16_17 => (intro w hSw; unfold CI at hSw; obtain ⟨hS1, ⟨hSa, hSb, hSc, hSd⟩, hS2, hS3, hS4⟩ := hSw; go_simp; first | done | with_reducible rfl)
             try simp only [Act.put, pu2, pu3, pu4]
             refine tk 17 (v := ?vv17_18) (dropAt rfl) (Or.inl ⟨by rfl, ?hv17_18⟩) hHeld ?rv17_18
             case hv17_18 => (intro w hSw; unfold CI at hSw; obtain ⟨hS1, ⟨hSa, hSb, hSc, hSd⟩, hS2, hS3, hS4⟩ := hSw; go_simp; first | done | with_reducible rfl)
             try simp only [Act.put, pu2, pu3, pu4]
             refine tk 18 (v := ?vv18_19) (dropAt rfl) (Or.inl ⟨by rfl, ?hv18_19⟩) hHeld ?rv18_19
             case hv18_19 => (intro w hSw; unfold CI at hSw; obtain ⟨hS1, ⟨hSa, hSb, hSc, hSd⟩, hS2, hS3, hS4⟩ := hSw; go_simp; first | done | with_reducible rfl)
             try simp only [Act.put, pu2, pu3, pu4]
             refine tk 19 (v := ?vv19_20) (dropAt rfl) (Or.inl ⟨by rfl, ?hv19_20⟩) hHeld ?rv19_20
             case hv19_20 => (intro w hSw; unfold CI at hSw; obtain ⟨hS1, ⟨hSa, hSb, hSc, hSd⟩, hS2, hS3, hS4⟩ := hSw; go_simp; first | done | with_reducible rfl)
             try simp only [Act.put, pu2, pu3, pu4]
             refine tk 20 (v := ?vv20_21) (dropAt rfl) (Or.inl ⟨by rfl, ?hv20_21⟩) hHeld ?rv20_21
             case hv20_21 => (intro w hSw; unfold CI at hSw; obtain ⟨hS1, ⟨hSa, hSb, hSc, hSd⟩, hS2, hS3, hS4⟩ := hSw; go_simp; first | done | with_reducible rfl)
             try simp only [Act.put, pu2, pu3, pu4]
             refine tk 21 (v := ?vv21_22) (dropAt rfl) (Or.inl ⟨by rfl, ?hv21_22⟩) hHeld ?rv21_22
             case hv21_22 => (intro w hSw; unfold CI at hSw; obtain ⟨hS1, ⟨hSa, hSb, hSc, hSd⟩, hS2, hS3, hS4⟩ := hSw; go_simp; first | done | with_reducible rfl)
             try simp only [Act.put, pu2, pu3, pu4]
             refine tk 22 (v := ?vv22_23) (dropAt rfl) (Or.inl ⟨by rfl, ?hv22_23⟩) hHeld ?rv22_23
             case hv22_23 => (intro w hSw; unfold CI at hSw; obtain ⟨hS1, ⟨hSa, hSb, hSc, hSd⟩, hS2, hS3, hS4⟩ := hSw; go_simp; first | done | with_reducible rfl)
             try simp only [Act.put, pu2, pu3, pu4]
             refine tk 23 (v := ?vv23_24) (dropAt rfl) (Or.inl ⟨by rfl, ?hv23_24⟩) hHeld ?rv23_24
             case hv23_24 => (intro w hSw; unfold CI at hSw; obtain ⟨hS1, ⟨hSa, hSb, hSc, hSd⟩, hS2, hS3, hS4⟩ := hSw; go_simp; first | done | with_reducible rfl)
             try simp only [Act.put, pu2, pu3, pu4]
             refine tk 24 (v := ?vv24_25) (dropAt rfl) (Or.inl ⟨by rfl, ?hv24_25⟩) hHeld ?rv24_25
             case hv24_25 => (intro w hSw; unfold CI at hSw; obtain ⟨hS1, ⟨hSa, hSb, hSc, hSd⟩, hS2, hS3, hS4⟩ := hSw; go_simp; first | done | with_reducible rfl)
             try simp only [Act.put, pu2, pu3, pu4]
             refine tk 25 (v := ?vv25_26) (dropAt rfl) (Or.inl ⟨by rfl, ?hv25_26⟩) hHeld ?rv25_26
             case hv25_26 => (intro w hSw; unfold CI at hSw; obtain ⟨hS1, ⟨hSa, hSb, hSc, hSd⟩, hS2, hS3, hS4⟩ := hSw; go_simp; first | done | with_reducible rfl)
             try simp only [Act.put, pu2, pu3, pu4]
             refine tk 26 (v := ?vv26_27) (dropAt rfl) (Or.inl ⟨by rfl, ?hv26_27⟩) hHeld ?rv26_27
             case hv26_27 => (intro w hSw; unfold CI at hSw; obtain ⟨hS1, ⟨hSa, hSb, hSc, hSd⟩, hS2, hS3, hS4⟩ := hSw; go_simp; first | done | with_reducible rfl)
             try simp only [Act.put, pu2, pu3, pu4]
             refine wpAnyH_ready (rs := [27]) (by kernel_rfl) (by simp) ?_
             refine AllReadyH.cons (o := _) (dropAt (r := _) rfl) (fun K hK => ?_) AllReadyH.nil
             go_simp
             refine HOLD.out.mono ?_
             rintro e w5 ⟨rfl, hb5⟩
             have hH5 : CI X P Y b2 mx qu id ag y0 y1 y2 w5 := hHeld.kept (row := none) ⟨hb5.os, hb5.tape, hb5.output, hb5.size, fun i hi _ => hb5.block i hi⟩ (by simp) (by simp) (by simp)
             refine hK.out _ _ hH5 (fun hHeld4 => ?_)
             clear hK K
             try simp only [Act.put, pu2, pu3, pu4]
             refine tk 28 (v := ?vv28_28) (dropAt rfl) (Or.inl ⟨by rfl, ?hv28_28⟩) hH5 ?rv28_28
             case hv28_28 => (intro w hSw; unfold CI at hSw; obtain ⟨hS1, ⟨hSa, hSb, hSc, hSd⟩, hS2, hS3, hS4⟩ := hSw; go_simp; first | done | with_reducible rfl)
             try simp only [Act.put, pu2, pu3, pu4]
             refine tk 29 (v := ?vv29_29) (dropAt rfl) (Or.inl ⟨by rfl, ?hv29_29⟩) hH5 ?rv29_29
             case hv29_29 => (intro w hSw; unfold CI at hSw; obtain ⟨hS1, ⟨hSa, hSb, hSc, hSd⟩, hS2, hS3, hS4⟩ := hSw; go_simp; first | done | with_reducible rfl)
             try simp only [Act.put, pu2, pu3, pu4]
             refine tk 30 (v := undef) (dropAt rfl) (Or.inr ⟨rfl, rfl⟩) hH5 ?_
             try simp only [Act.put, pu2, pu3, pu4]
             refine tk 31 (v := undef) (dropAt rfl) (Or.inr ⟨rfl, rfl⟩) hH5 ?_
             try simp only [Act.put, pu2, pu3, pu4]
             refine tk 32 (v := undef) (dropAt rfl) (Or.inr ⟨rfl, rfl⟩) hH5 ?_
             try simp only [Act.put, pu2, pu3, pu4]
             refine tk 33 (v := undef) (dropAt rfl) (Or.inr ⟨rfl, rfl⟩) hH5 ?_
             try simp only [Act.put, pu2, pu3, pu4]
             refine tk 34 (v := undef) (dropAt rfl) (Or.inr ⟨rfl, rfl⟩) hH5 ?_
             try simp only [Act.put, pu2, pu3, pu4]
             refine tk 35 (v := undef) (dropAt rfl) (Or.inr ⟨rfl, rfl⟩) hH5 ?_
             try simp only [Act.put, pu2, pu3, pu4]
             refine tk 36 (v := undef) (dropAt rfl) (Or.inr ⟨rfl, rfl⟩) hH5 ?_
             try simp only [Act.put, pu2, pu3, pu4]
             refine tk 37 (v := undef) (dropAt rfl) (Or.inr ⟨rfl, rfl⟩) hH5 ?_
             try simp only [Act.put, pu2, pu3, pu4]
             refine tk 38 (v := ?vv38_30) (dropAt rfl) (Or.inl ⟨by rfl, ?hv38_30⟩) hH5 ?rv38_30
             case hv38_30 => (intro w hSw; unfold CI at hSw; obtain ⟨hS1, ⟨hSa, hSb, hSc, hSd⟩, hS2, hS3, hS4⟩ := hSw; go_simp; first | done | with_reducible rfl)
             try simp only [Act.put, pu2, pu3, pu4]
             refine wpAnyH_done (by kernel_rfl) ?_ _
             have hFf : F = false := by rw [HEQ.out]; simp [hyg]
             have HFF := Lib.hid hFf
             have HGB := Lib.hid (HGW.out _ (HSO.out.2.trans (.of_below hb5)))
             clear hFf hb5 hHeld hH5 hHeld4 HSO HOLD
             go_wp2
             go_ret
             exact ⟨ret_bool HFF.out.symm, fun h => (by rw [HFF.out] at h; cases h), HGB.out⟩
            | true =>
             have hn1 : Near y2 := by unfold Near; omega
             have hn2 : Near y1 := by unfold Near; omega
             have hold := old_any ⟨mx, qu, id, ag⟩ (y0, y1, y2) now
             rw [hyg] at hold
             unfold valLim valConn at hold
             simp only [Bool.not_true, Bool.not_false] at hold
             have HOLDA := Lib.hid (fun w => hold w hn1 hn2 HLM.out.1 HLM.out.2)
             clear hold hn1 hn2
             go_wp2
             obtain ⟨Y, hY⟩ : ∃ Y, Y = wr.heap.size := ⟨_, rfl⟩
             obtain ⟨w4, hw4⟩ : ∃ x, x = wr.alloc (.cells #[I64 y0, I64 y1, I64 y2] 100) := ⟨_, rfl⟩
             rw [← hw4, ← hY] at HY
             simp only [← hw4, ← hY]
             have hY2 := HY.out
             clear hw4 hY
             obtain ⟨wx, hwx⟩ : ∃ x, x = w4.drew := ⟨_, rfl⟩
             have HCI : Hid (CI X P Y b2 mx qu id ag y0 y1 y2 wx) := by rw [hwx]; exact Lib.hid hY2.1
             have HOLD := Lib.hid (HOLDA.out wx)
             have HSO : Hid (SetOwn wx b2 (n2 + k) (((p.idle.take k).map (·.1)).reverse ++ Sc) ∧ Gb (fun i => i = b2) w0 wx) := by rw [hwx]; exact Lib.hid ⟨hY2.2.2.1, hY2.2.2.2.trans (.of_below (Below.refl _ _).drew)⟩
             have HYL : Hid (Y ≠ b2) := Lib.hid (by have := hY2.2.1; omega)
             clear hY2 HY HOLDA
             refine wp_region_held_drew (S := CI X P Y b2 mx qu id ag y0 y1 y2) (by kernel_rfl) (by rw [← hwx]; exact HCI.out) (fun hHeld => ?_)
             rw [← hwx] at hHeld ⊢
             clear hwx
             refine tk 0 (v := ?vv0_31) (dropAt rfl) (Or.inl ⟨by rfl, ?hv0_31⟩) hHeld ?rv0_31
             case hv0_31 => (intro w hSw; unfold CI at hSw; obtain ⟨hS1, ⟨hSa, hSb, hSc, hSd⟩, hS2, hS3, hS4⟩ := hSw; go_simp; first | done | with_reducible rfl)
             try simp only [Act.put, pu2, pu3, pu4]
             refine tk 1 (v := ?vv1_32) (dropAt rfl) (Or.inl ⟨by rfl, ?hv1_32⟩) hHeld ?rv1_32
             case hv1_32 => (intro w hSw; unfold CI at hSw; obtain ⟨hS1, ⟨hSa, hSb, hSc, hSd⟩, hS2, hS3, hS4⟩ := hSw; go_simp; first | done | with_reducible rfl)
             try simp only [Act.put, pu2, pu3, pu4]
             refine tk 2 (v := ?vv2_33) (dropAt rfl) (Or.inl ⟨by rfl, ?hv2_33⟩) hHeld ?rv2_33
             case hv2_33 => (intro w hSw; unfold CI at hSw; obtain ⟨hS1, ⟨hSa, hSb, hSc, hSd⟩, hS2, hS3, hS4⟩ := hSw; go_simp; first | done | with_reducible rfl)
             try simp only [Act.put, pu2, pu3, pu4]
             refine tk 3 (v := ?vv3_34) (dropAt rfl) (Or.inl ⟨by rfl, ?hv3_34⟩) hHeld ?rv3_34
             case hv3_34 => (intro w hSw; unfold CI at hSw; obtain ⟨hS1, ⟨hSa, hSb, hSc, hSd⟩, hS2, hS3, hS4⟩ := hSw; go_simp; first | done | with_reducible rfl)
             try simp only [Act.put, pu2, pu3, pu4]
             refine tk 4 (v := ?vv4_35) (dropAt rfl) (Or.inl ⟨by rfl, ?hv4_35⟩) hHeld ?rv4_35
             case hv4_35 => (intro w hSw; unfold CI at hSw; obtain ⟨hS1, ⟨hSa, hSb, hSc, hSd⟩, hS2, hS3, hS4⟩ := hSw; go_simp; first | done | with_reducible rfl)
             try simp only [Act.put, pu2, pu3, pu4]
             refine tk 5 (v := ?vv5_36) (dropAt rfl) (Or.inl ⟨by rfl, ?hv5_36⟩) hHeld ?rv5_36
             case hv5_36 => (intro w hSw; unfold CI at hSw; obtain ⟨hS1, ⟨hSa, hSb, hSc, hSd⟩, hS2, hS3, hS4⟩ := hSw; go_simp; first | done | with_reducible rfl)
             try simp only [Act.put, pu2, pu3, pu4]
             refine tk 6 (v := ?vv6_37) (dropAt rfl) (Or.inl ⟨by rfl, ?hv6_37⟩) hHeld ?rv6_37
             case hv6_37 => (intro w hSw; unfold CI at hSw; obtain ⟨hS1, ⟨hSa, hSb, hSc, hSd⟩, hS2, hS3, hS4⟩ := hSw; go_simp; first | done | with_reducible rfl)
             try simp only [Act.put, pu2, pu3, pu4]
             refine tk 7 (v := ?vv7_38) (dropAt rfl) (Or.inl ⟨by rfl, ?hv7_38⟩) hHeld ?rv7_38
             case hv7_38 => (intro w hSw; unfold CI at hSw; obtain ⟨hS1, ⟨hSa, hSb, hSc, hSd⟩, hS2, hS3, hS4⟩ := hSw; go_simp; first | done | with_reducible rfl)
             try simp only [Act.put, pu2, pu3, pu4]
             refine tk 8 (v := ?vv8_39) (dropAt rfl) (Or.inl ⟨by rfl, ?hv8_39⟩) hHeld ?rv8_39
             case hv8_39 => (intro w hSw; unfold CI at hSw; obtain ⟨hS1, ⟨hSa, hSb, hSc, hSd⟩, hS2, hS3, hS4⟩ := hSw; go_simp; first | done | with_reducible rfl)
             try simp only [Act.put, pu2, pu3, pu4]
             refine tk 9 (v := ?vv9_40) (dropAt rfl) (Or.inl ⟨by rfl, ?hv9_40⟩) hHeld ?rv9_40
             case hv9_40 => (intro w hSw; unfold CI at hSw; obtain ⟨hS1, ⟨hSa, hSb, hSc, hSd⟩, hS2, hS3, hS4⟩ := hSw; go_simp; first | done | with_reducible rfl)
             try simp only [Act.put, pu2, pu3, pu4]
             refine tk 10 (v := ?vv10_41) (dropAt rfl) (Or.inl ⟨by rfl, ?hv10_41⟩) hHeld ?rv10_41
             case hv10_41 => (intro w hSw; unfold CI at hSw; obtain ⟨hS1, ⟨hSa, hSb, hSc, hSd⟩, hS2, hS3, hS4⟩ := hSw; go_simp; first | done | with_reducible rfl)
             try simp only [Act.put, pu2, pu3, pu4]
             refine tk 11 (v := ?vv11_42) (dropAt rfl) (Or.inl ⟨by rfl, ?hv11_42⟩) hHeld ?rv11_42
             case hv11_42 => (intro w hSw; unfold CI at hSw; obtain ⟨hS1, ⟨hSa, hSb, hSc, hSd⟩, hS2, hS3, hS4⟩ := hSw; go_simp; first | done | with_reducible rfl)
             try simp only [Act.put, pu2, pu3, pu4]
             refine tk 12 (v := ?vv12_43) (dropAt rfl) (Or.inl ⟨by rfl, ?hv12_43⟩) hHeld ?rv12_43
             case hv12_43 => (intro w hSw; unfold CI at hSw; obtain ⟨hS1, ⟨hSa, hSb, hSc, hSd⟩, hS2, hS3, hS4⟩ := hSw; go_simp; first | done | with_reducible rfl)
             try simp only [Act.put, pu2, pu3, pu4]
             refine tk 13 (v := ?vv13_44) (dropAt rfl) (Or.inl ⟨by rfl, ?hv13_44⟩) hHeld ?rv13_44
             case hv13_44 => (intro w hSw; unfold CI at hSw; obtain ⟨hS1, ⟨hSa, hSb, hSc, hSd⟩, hS2, hS3, hS4⟩ := hSw; go_simp; first | done | with_reducible rfl)
             try simp only [Act.put, pu2, pu3, pu4]
             refine tk 14 (v := ?vv14_45) (dropAt rfl) (Or.inl ⟨by rfl, ?hv14_45⟩) hHeld ?rv14_45
             case hv14_45 => (intro w hSw; unfold CI at hSw; obtain ⟨hS1, ⟨hSa, hSb, hSc, hSd⟩, hS2, hS3, hS4⟩ := hSw; go_simp; first | done | with_reducible rfl)
             try simp only [Act.put, pu2, pu3, pu4]
             refine tk 15 (v := ?vv15_46) (dropAt rfl) (Or.inl ⟨by rfl, ?hv15_46⟩) hHeld ?rv15_46
             case hv15_46 => (intro w hSw; unfold CI at hSw; obtain ⟨hS1, ⟨hSa, hSb, hSc, hSd⟩, hS2, hS3, hS4⟩ := hSw; go_simp; first | done | with_reducible rfl)
             try simp only [Act.put, pu2, pu3, pu4]
             refine tk 16 (v := ?vv16_47) (dropAt rfl) (Or.inl ⟨by rfl, ?hv16_47⟩) hHeld ?rv16_47
             case hv16_47 => (intro w hSw; unfold CI at hSw; obtain ⟨hS1, ⟨hSa, hSb, hSc, hSd⟩, hS2, hS3, hS4⟩ := hSw; go_simp; first | done | with_reducible rfl)
             try simp only [Act.put, pu2, pu3, pu4]
             refine tk 17 (v := ?vv17_48) (dropAt rfl) (Or.inl ⟨by rfl, ?hv17_48⟩) hHeld ?rv17_48
             case hv17_48 => (intro w hSw; unfold CI at hSw; obtain ⟨hS1, ⟨hSa, hSb, hSc, hSd⟩, hS2, hS3, hS4⟩ := hSw; go_simp; first | done | with_reducible rfl)
             try simp only [Act.put, pu2, pu3, pu4]
             refine tk 18 (v := ?vv18_49) (dropAt rfl) (Or.inl ⟨by rfl, ?hv18_49⟩) hHeld ?rv18_49
             case hv18_49 => (intro w hSw; unfold CI at hSw; obtain ⟨hS1, ⟨hSa, hSb, hSc, hSd⟩, hS2, hS3, hS4⟩ := hSw; go_simp; first | done | with_reducible rfl)
             try simp only [Act.put, pu2, pu3, pu4]
             refine tk 19 (v := ?vv19_50) (dropAt rfl) (Or.inl ⟨by rfl, ?hv19_50⟩) hHeld ?rv19_50
             case hv19_50 => (intro w hSw; unfold CI at hSw; obtain ⟨hS1, ⟨hSa, hSb, hSc, hSd⟩, hS2, hS3, hS4⟩ := hSw; go_simp; first | done | with_reducible rfl)
             try simp only [Act.put, pu2, pu3, pu4]
             refine tk 20 (v := ?vv20_51) (dropAt rfl) (Or.inl ⟨by rfl, ?hv20_51⟩) hHeld ?rv20_51
             case hv20_51 => (intro w hSw; unfold CI at hSw; obtain ⟨hS1, ⟨hSa, hSb, hSc, hSd⟩, hS2, hS3, hS4⟩ := hSw; go_simp; first | done | with_reducible rfl)
             try simp only [Act.put, pu2, pu3, pu4]
             refine tk 21 (v := ?vv21_52) (dropAt rfl) (Or.inl ⟨by rfl, ?hv21_52⟩) hHeld ?rv21_52
             case hv21_52 => (intro w hSw; unfold CI at hSw; obtain ⟨hS1, ⟨hSa, hSb, hSc, hSd⟩, hS2, hS3, hS4⟩ := hSw; go_simp; first | done | with_reducible rfl)
             try simp only [Act.put, pu2, pu3, pu4]
             refine tk 22 (v := ?vv22_53) (dropAt rfl) (Or.inl ⟨by rfl, ?hv22_53⟩) hHeld ?rv22_53
             case hv22_53 => (intro w hSw; unfold CI at hSw; obtain ⟨hS1, ⟨hSa, hSb, hSc, hSd⟩, hS2, hS3, hS4⟩ := hSw; go_simp; first | done | with_reducible rfl)
             try simp only [Act.put, pu2, pu3, pu4]
             refine tk 23 (v := ?vv23_54) (dropAt rfl) (Or.inl ⟨by rfl, ?hv23_54⟩) hHeld ?rv23_54
             case hv23_54 => (intro w hSw; unfold CI at hSw; obtain ⟨hS1, ⟨hSa, hSb, hSc, hSd⟩, hS2, hS3, hS4⟩ := hSw; go_simp; first | done | with_reducible rfl)
             try simp only [Act.put, pu2, pu3, pu4]
             refine tk 24 (v := ?vv24_55) (dropAt rfl) (Or.inl ⟨by rfl, ?hv24_55⟩) hHeld ?rv24_55
             case hv24_55 => (intro w hSw; unfold CI at hSw; obtain ⟨hS1, ⟨hSa, hSb, hSc, hSd⟩, hS2, hS3, hS4⟩ := hSw; go_simp; first | done | with_reducible rfl)
             try simp only [Act.put, pu2, pu3, pu4]
             refine tk 25 (v := ?vv25_56) (dropAt rfl) (Or.inl ⟨by rfl, ?hv25_56⟩) hHeld ?rv25_56
             case hv25_56 => (intro w hSw; unfold CI at hSw; obtain ⟨hS1, ⟨hSa, hSb, hSc, hSd⟩, hS2, hS3, hS4⟩ := hSw; go_simp; first | done | with_reducible rfl)
             try simp only [Act.put, pu2, pu3, pu4]
             refine tk 26 (v := ?vv26_57) (dropAt rfl) (Or.inl ⟨by rfl, ?hv26_57⟩) hHeld ?rv26_57
             case hv26_57 => (intro w hSw; unfold CI at hSw; obtain ⟨hS1, ⟨hSa, hSb, hSc, hSd⟩, hS2, hS3, hS4⟩ := hSw; go_simp; first | done | with_reducible rfl)
             try simp only [Act.put, pu2, pu3, pu4]
             refine wpAnyH_ready (rs := [27]) (by kernel_rfl) (by simp) ?_
             refine AllReadyH.cons (o := _) (dropAt (r := _) rfl) (fun K hK => ?_) AllReadyH.nil
             go_simp
             refine HOLD.out.mono ?_
             rintro e w5 ⟨rfl, hb5⟩
             have hH5 : CI X P Y b2 mx qu id ag y0 y1 y2 w5 := hHeld.kept (row := none) ⟨hb5.os, hb5.tape, hb5.output, hb5.size, fun i hi _ => hb5.block i hi⟩ (by simp) (by simp) (by simp)
             refine hK.out _ _ hH5 (fun hHeld4 => ?_)
             clear hK K
             try simp only [Act.put, pu2, pu3, pu4]
             refine tk 28 (v := ?vv28_58) (dropAt rfl) (Or.inl ⟨by rfl, ?hv28_58⟩) hH5 ?rv28_58
             case hv28_58 => (intro w hSw; unfold CI at hSw; obtain ⟨hS1, ⟨hSa, hSb, hSc, hSd⟩, hS2, hS3, hS4⟩ := hSw; go_simp; first | done | with_reducible rfl)
             try simp only [Act.put, pu2, pu3, pu4]
             refine tk 29 (v := ?vv29_59) (dropAt rfl) (Or.inl ⟨by rfl, ?hv29_59⟩) hH5 ?rv29_59
             case hv29_59 => (intro w hSw; unfold CI at hSw; obtain ⟨hS1, ⟨hSa, hSb, hSc, hSd⟩, hS2, hS3, hS4⟩ := hSw; go_simp; first | done | with_reducible rfl)
             try simp only [Act.put, pu2, pu3, pu4]
             refine tk 30 (v := ?vv30_60) (dropAt rfl) (Or.inl ⟨by rfl, ?hv30_60⟩) hH5 ?rv30_60
             case hv30_60 => (intro w hSw; unfold CI at hSw; obtain ⟨hS1, ⟨hSa, hSb, hSc, hSd⟩, hS2, hS3, hS4⟩ := hSw; go_simp; first | done | with_reducible rfl)
             try simp only [Act.put, pu2, pu3, pu4]
             refine tk 31 (v := ?vv31_61) (dropAt rfl) (Or.inl ⟨by rfl, ?hv31_61⟩) hH5 ?rv31_61
             case hv31_61 => (intro w hSw; unfold CI at hSw; obtain ⟨hS1, ⟨hSa, hSb, hSc, hSd⟩, hS2, hS3, hS4⟩ := hSw; go_simp; first | done | with_reducible rfl)
             try simp only [Act.put, pu2, pu3, pu4]
             refine tk 32 (v := ?vv32_62) (dropAt rfl) (Or.inl ⟨by rfl, ?hv32_62⟩) hH5 ?rv32_62
             case hv32_62 => (intro w hSw; unfold CI at hSw; obtain ⟨hS1, ⟨hSa, hSb, hSc, hSd⟩, hS2, hS3, hS4⟩ := hSw; go_simp; first | done | with_reducible rfl)
             try simp only [Act.put, pu2, pu3, pu4]
             refine tk 33 (v := ?vv33_63) (dropAt rfl) (Or.inl ⟨by rfl, ?hv33_63⟩) hH5 ?rv33_63
             case hv33_63 => (intro w hSw; unfold CI at hSw; obtain ⟨hS1, ⟨hSa, hSb, hSc, hSd⟩, hS2, hS3, hS4⟩ := hSw; go_simp; first | done | with_reducible rfl)
             try simp only [Act.put, pu2, pu3, pu4]
             refine tk 34 (v := ?vv34_64) (dropAt rfl) (Or.inl ⟨by rfl, ?hv34_64⟩) hH5 ?rv34_64
             case hv34_64 => (intro w hSw; unfold CI at hSw; obtain ⟨hS1, ⟨hSa, hSb, hSc, hSd⟩, hS2, hS3, hS4⟩ := hSw; go_simp; first | done | with_reducible rfl)
             try simp only [Act.put, pu2, pu3, pu4]
             refine tk 35 (v := ?vv35_65) (dropAt rfl) (Or.inl ⟨by rfl, ?hv35_65⟩) hH5 ?rv35_65
             case hv35_65 => (intro w hSw; unfold CI at hSw; obtain ⟨hS1, ⟨hSa, hSb, hSc, hSd⟩, hS2, hS3, hS4⟩ := hSw; go_simp; first | done | with_reducible rfl)
             try simp only [Act.put, pu2, pu3, pu4]
             have hso5 : SetOwn w5 b2 (n2 + k) (((p.idle.take k).map (·.1)).reverse ++ Sc) := HSO.out.1.kept (row := none) ⟨hb5.os, hb5.tape, hb5.output, hb5.size, fun i hi _ => hb5.block i hi⟩ (by simp)
             have HFI := Lib.hid (first_any b2 (n2 + k) _ y0 w5 hso5 hbx (by omega))
             obtain ⟨Fb, hFb⟩ : ∃ Fb, Fb = (decide (1 ≤ y0) && !decide (y0 ∈ ((p.idle.take k).map (·.1)).reverse ++ Sc)) := ⟨_, rfl⟩
             rw [← hFb] at HFI
             have HFB := Lib.hid hFb
             clear hFb hso5
             refine wpAnyH_ready (rs := [36]) (by kernel_rfl) (by simp) ?_
             refine AllReadyH.cons (o := _) (dropAt (r := _) rfl) (fun K hK => ?_) AllReadyH.nil
             go_simp
             refine HFI.out.mono ?_
             rintro e w6 ⟨rfl, hset, hg6⟩
             have hH6 : CI X P Y b2 mx qu id ag y0 y1 y2 w6 := hH5.kept hg6 (fun e => HNE.out.1 (by injection e)) (fun e => HNE.out.2 (by injection e)) (fun e => HYL.out (by injection e))
             refine hK.out _ _ hH6 (fun hHeld6 => ?_)
             clear hK K
             try simp only [Act.put, pu2, pu3, pu4]
             refine tk 37 (v := ?vv37_66) (dropAt rfl) (Or.inl ⟨by rfl, ?hv37_66⟩) hH6 ?rv37_66
             case hv37_66 => (intro w hSw; unfold CI at hSw; obtain ⟨hS1, ⟨hSa, hSb, hSc, hSd⟩, hS2, hS3, hS4⟩ := hSw; go_simp; first | done | with_reducible rfl)
             try simp only [Act.put, pu2, pu3, pu4]
             refine tk 38 (v := ?vv38_67) (dropAt rfl) (Or.inl ⟨by rfl, ?hv38_67⟩) hH6 ?rv38_67
             case hv38_67 => (intro w hSw; unfold CI at hSw; obtain ⟨hS1, ⟨hSa, hSb, hSc, hSd⟩, hS2, hS3, hS4⟩ := hSw; go_simp; first | done | with_reducible rfl)
             try simp only [Act.put, pu2, pu3, pu4]
             refine wpAnyH_done (by kernel_rfl) ?_ _
             have HGB : Hid (Gb (fun i => i = b2) w0 w6) := Lib.hid ((HSO.out.2.trans (.of_below hb5)).trans (.of_grown hg6 (fun k hk => by injection hk with hk; exact hk.symm)))
             have HSET := Lib.hid hset
             clear hset hg6 hb5 hHeld hH5 hHeld4 HSO HOLD HFI hHeld6
             have heq2 : F = (Fb && (Md.idleOk ⟨mx, qu, id, ag⟩ now y2 (p.idle.drop (k + 1)) && Md.newOk (y0 :: (((p.idle.take k).map (·.1)).reverse ++ Sc)) ((p.idle.drop (k + 1)).map (·.1)))) := by
              rw [HEQ.out, HFB.out, hyg]
              simp [h1, h2, h3, h4]
             have HE2 := Lib.hid heq2
             obtain ⟨_, _, _, _, r2⟩ := hH6
             clear heq2
             cases Fb with
             | false =>
              have hFf : F = false := by rw [HE2.out]; rfl
              have HFF := Lib.hid hFf
              have HG2 := Lib.hid (HGW.out _ HGB.out)
              clear hFf
              go_wp2
              go_ret
              exact ⟨ret_bool HFF.out.symm, fun h => (by rw [HFF.out] at h; cases h), HG2.out⟩
             | true =>
              have HNX : Hid (IdAt b2 n2 Sc F ⟨mx, qu, id, ag⟩ now p.idle (k + 1) y2 w0 w6) := by
               refine Lib.hid ⟨?_, ?_, HGB.out⟩
               · rw [HTK.out]
                 exact HSET.out rfl
               · rw [HTK.out, HE2.out]
                 rfl
              go_wp2
              case roundEnd =>
               refine ⟨⟨k + 1, y2, hlt, by rw [show (k : Int) + 1 = ((k + 1 : Nat) : Int) by omega], rfl, HNX⟩, ?_⟩
               simp [intOf]
               omega
  · have hkn2 : k = n := by omega
    subst hkn2
    have heq := HID.out.eq
    rw [HN.out, List.drop_length, List.take_length] at heq
    have hFt : F = true := by rw [heq]; rfl
    have hown := HID.out.own
    rw [HN.out, List.take_length] at hown
    rw [← HN.out] at hown
    have HOW := Lib.hid hown
    have HFT := Lib.hid hFt
    have HGG := Lib.hid (HGW.out _ HID.out.gb)
    clear heq hFt hown HID
    go_wp2
    go_ret
    exact ⟨ret_bool HFT.out.symm, fun _ => HOW.out, HGG.out⟩
end Go.Proofs.Ytaicmiadgnpimaa
