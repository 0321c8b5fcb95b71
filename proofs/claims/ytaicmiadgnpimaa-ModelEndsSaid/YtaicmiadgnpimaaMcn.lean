/-
  Walks for layer 26 (model): Conns and Calls of the reference; young, once.
-/
import Derived.Test.YtaicmiadgnpimaaMgs
namespace Go.Proofs.Ytaicmiadgnpimaa
open Go.RowKit

/-- Numbers gathered so far; block P stays. -/
structure CnAt (wA : World) (l : List Int) (P : Nat) (O : Obj) (v : Value) (wr : World) : Prop where
 own : OwnL 2 1 encI wr wA.heap.size v l
 bel : Below wA.heap.size wA wr
 blk : wr.heap[P]? = some O
 ne : ∀ g, v.ownBlock = some g → g ≠ P
theorem CnAt.step {wA : World} {l : List Int} {P : Nat} {O : Obj} {v : Value} {wr wx w2 : World} {x : Int} (h : CnAt wA l P O v wr) (hx : Below wr.heap.size wr wx) {g' c' : Nat}
 (ho : OwnL 2 1 encI w2 wA.heap.size (.slice (some ⟨g', 0, none⟩) (l.length + 1) c') (l ++ [x])) (hg : wx.grownBy w2 v.ownBlock) (hat : some g' = v.ownBlock ∨ g' = wx.heap.size) :
 CnAt wA (l ++ [x]) P O (.slice (some ⟨g', 0, none⟩) (l.length + 1) c') w2 := by
 have hbx := h.bel.trans (hx.mono h.bel.size)
 have hP := lt_of_block h.blk
 have hxs := hx.size
 refine ⟨ho, below_appL hbx (h.own.below hx) hg hbx.size, ?_, ?_⟩
 · have hPx := (hx.block P hP).trans h.blk
   exact (hg.block P (by omega) (fun q => h.ne P q.symm rfl)).trans hPx
 · intro g hgg
   have hgg' : some g' = some g := hgg
   injection hgg' with hgg'
   rcases hat with q | q
   · exact h.ne g (by rw [← hgg', ← q])
   · omega
theorem take_snoc_map {α : Type} {f : α → Int} {l : List α} {k : Nat} (hk : k < l.length) : (l.take (k + 1)).map f = (l.take k).map f ++ [f l[k]] := by rw [List.take_succ_eq_append_getElem hk, List.map_append]; rfl
theorem take_snoc_flat {α : Type} {f : α → List Int} {l : List α} {k : Nat} (hk : k < l.length) : (l.take (k + 1)).flatMap f = (l.take k).flatMap f ++ f l[k] := by rw [List.take_succ_eq_append_getElem hk, List.flatMap_append]; simp
theorem flat_len {α : Type} {f : α → List Int} (n : Nat) : ∀ (l : List α), (∀ p ∈ l, (f p).length ≤ n) → (l.flatMap f).length ≤ l.length * n
 | [], _ => by simp
 | x :: t, h => by
  have h1 := h x (by simp)
  have h2 := flat_len n t (fun p hp => h p (by simp [hp]))
  rw [List.flatMap_cons, List.length_append, List.length_cons, Nat.succ_mul]
  omega
structure CnO (wA : World) (l : List Int) (v : Value) (wr : World) : Prop where
 own : OwnL 2 1 encI wr wA.heap.size v l
 bel : Below wA.heap.size wA wr
theorem CnO.start {wA : World} {l : List Int} {v : Value} {wr wP : World} {O : Obj} (h : CnO wA l v wr) (hb : Below wr.heap.size wr wP) (hP : wP.heap[wr.heap.size]? = some O) : CnAt wA l wr.heap.size O v wP :=
 ⟨h.own.below hb, h.bel.trans (hb.mono h.bel.size), hP, fun g hg => by have := (h.own.lt g hg).2; omega⟩
theorem CnAt.out {wA : World} {l : List Int} {P : Nat} {O : Obj} {v : Value} {wr : World} (h : CnAt wA l P O v wr) : CnO wA l v wr := ⟨h.own, h.bel⟩
set_option maxHeartbeats 8000000 in
set_option maxRecDepth 100000 in
set_option linter.unusedVariables false in
set_option linter.unusedSimpArgs false in
theorem conns_any (s : Md.State) (u : SlV) (w : World) (h : Sta w u s) :
 Calls Try.prog 19 #[.agg #[I64 s.now, .bool s.shut, valS u]] w fun e w' => ∃ v, e = .returned v ∧ ReadsL 1 encI w' v (Md.conns s) ∧ Below w.heap.size w w' := by
 have hal := (Below.refl w.heap.size w).alloc (Nat.le_refl _) (.cells #[I64 s.now, .bool s.shut, valS u] 26)
 have hz := blk_new w (.cells #[I64 s.now, .bool s.shut, valS u] 26)
 obtain ⟨pvs, hr⟩ := rd_of (h.below hal).lies
 have hul := h.len
 obtain ⟨wA, hwA⟩ : ∃ x, x = w.alloc (.cells #[I64 s.now, .bool s.shut, valS u] 26) := ⟨_, rfl⟩
 obtain ⟨B, hB⟩ : ∃ x, x = w.heap.size := ⟨_, rfl⟩
 rw [← hwA] at hal hz hr
 rw [← hB] at hz
 have HBA := Lib.hid hal
 have hp1 := h.good.len1
 have hp16 := h.good.len2
 have HSM := Lib.hid (good_small h.good)
 have HLEN : Hid (∀ k, ((s.pools.take k).flatMap Md.pconns).length ≤ 6400000) := fun k => by
  have q := flat_len (f := Md.pconns) 400000 (s.pools.take k) (fun p hp => by
   have hs := HSM.out p (List.mem_of_mem_take hp)
   unfold PoolSmall at hs
   unfold Md.pconns
   simp only [List.length_append, List.length_map]
   omega)
  rw [List.length_take] at q
  have : min k s.pools.length ≤ 16 := by omega
  omega
 obtain ⟨g, o, cp, e, _, hc⟩ := hr.1.form (by intro e; have := hr.2.1; rw [e] at this; simp at this; omega)
 obtain ⟨ua, un, uc⟩ := u
 unfold valS at e
 injection e with e1 e2 e3
 replace e1 : ua = some ⟨g, o, none⟩ := e1
 subst e1
 clear e2 e3
 replace hul : un = s.pools.length := hul
 have HUL := Lib.hid hul
 have hun16 : un ≤ 16 := by omega
 have HC := Lib.hid hc
 have HR := Lib.hid hr
 have HL2 := Lib.hid hr.2.1
 unfold valS at hz hwA ⊢
 dsimp only at hz hwA ⊢
 have HZ := Lib.hid hz
 clear hal hz h hr hul hc hp1 hp16
 go_enter Try.func19, Try.ntmps19
 go_wp2_with fail
 simp only [← hwA, ← hB]
 clear hwA hB
 go_loopw [3, 4, 5, 6, 7] (fun v3 kv _ _ _ wr => ∃ k : Nat, ∃ va vn vc, k ≤ un ∧ kv = .int .i64 k ∧ v3 = .slice va vn vc ∧ Hid (CnO wA ((s.pools.take k).flatMap Md.pconns) (.slice va vn vc) wr)) (fun _ kv _ _ _ _ => un - (intOf kv).toNat)
 case atStart => exact ⟨0, none, 0, 0, Nat.zero_le _, rfl, rfl, ⟨.nil _ _, .refl _ _⟩⟩
 case round =>
  obtain ⟨k, va, vn, vc, hkN, rfl, rfl, HA⟩ := hrel
  have hst := (HA.out.bel.block _ (lt_of_block HZ.out)).trans HZ.out
  have HST := Lib.hid hst
  have a0 := blk_cell hst 0
  have a1 := blk_cell hst 1
  have a2 := blk_cell hst 2
  simp only [List.getElem?_toArray, List.getElem?_cons_succ, List.getElem?_cons_zero] at a0 a1 a2
  clear hst
  by_cases hlt : k < un
  · have hk : k < s.pools.length := by rw [← HUL.out]; exact hlt
    have hbp : k < pvs.length := by rw [HL2.out]; exact hk
    have hrk := HR.out.2.2 k hbp hk
    have hrow : ∀ i v, (encP pvs[k])[i]? = some v → wr.cell? ⟨g, o + k * 11 + i, none⟩ = some v := fun i v hv => by
     have q := HC.out k hbp i v hv
     exact (HA.out.bel.cell (p := ⟨g, _, none⟩) (cell_lt q)).trans q
    have hsm := HSM.out _ (List.getElem_mem hk)
    have hflat := take_snoc_flat (f := Md.pconns) hk
    unfold Md.pconns at hflat
    change _ = (s.pools.take k).flatMap Md.pconns ++ _ at hflat
    have hle0 := HLEN.out k
    generalize pvs[k] = pv at hrow hrk
    obtain ⟨⟨mx, qu, id, ag⟩, ⟨ia, iN, ic⟩, ⟨la, lN, lc⟩, ⟨da, dN, dc⟩, ⟨wa, wN, wc⟩, up, br, pr⟩ := pv
    have hrL := hrk.leases
    have hrI := hrk.idle
    have hrD := hrk.dials
    have hrW := hrk.waiters
    generalize s.pools[k] = pk at hflat hsm hrL hrI hrD hrW
    obtain ⟨lmk, lI, lL, lD, lW, upk, brk, prk⟩ := pk
    unfold PoolSmall at hsm
    dsimp only at hflat hsm hrL hrI hrD hrW
    have HFL : Hid ((s.pools.take (k + 1)).flatMap Md.pconns = _) := hflat
    obtain ⟨acc, hacc⟩ : ∃ y, y = (s.pools.take k).flatMap Md.pconns := ⟨_, rfl⟩
    rw [← hacc] at HA HFL hle0
    clear hflat hacc
    have rr : ∀ i v, (encP ⟨⟨mx, qu, id, ag⟩, (ia, iN, ic), (la, lN, lc), (da, dN, dc), (wa, wN, wc), up, br, pr⟩)[i]? = some v → wr.cell? ⟨g, o + k * 11 + i, none⟩ = some v := hrow
    have m0 : wr.cell? ⟨g, o + k * 11, none⟩ = some (I64 mx) := rr 0 _ rfl
    have m1 : wr.cell? ⟨g, o + k * 11 + 1, none⟩ = some (I64 qu) := rr 1 _ rfl
    have m2 : wr.cell? ⟨g, o + k * 11 + 2, none⟩ = some (I64 id) := rr 2 _ rfl
    have m3 : wr.cell? ⟨g, o + k * 11 + 3, none⟩ = some (I64 ag) := rr 3 _ rfl
    have m4 : wr.cell? ⟨g, o + k * 11 + 4, none⟩ = some (.slice ia iN ic) := rr 4 _ rfl
    have m5 : wr.cell? ⟨g, o + k * 11 + 5, none⟩ = some (.slice la lN lc) := rr 5 _ rfl
    have m6 : wr.cell? ⟨g, o + k * 11 + 6, none⟩ = some (.slice da dN dc) := rr 6 _ rfl
    have m7 : wr.cell? ⟨g, o + k * 11 + 7, none⟩ = some (.slice wa wN wc) := rr 7 _ rfl
    have m8 : wr.cell? ⟨g, o + k * 11 + 8, none⟩ = some (.bool up) := rr 8 _ rfl
    have m9 : wr.cell? ⟨g, o + k * 11 + 9, none⟩ = some (I64 br) := rr 9 _ rfl
    have m10 : wr.cell? ⟨g, o + k * 11 + 10, none⟩ = some (I64 pr) := rr 10 _ rfl
    have hal := (Below.refl wr.heap.size wr).alloc (Nat.le_refl _) (.cells #[I64 mx, I64 qu, I64 id, I64 ag, .slice ia iN ic, .slice la lN lc, .slice da dN dc, .slice wa wN wc, .bool up, I64 br, I64 pr] 48)
    have hP := blk_new wr (.cells #[I64 mx, I64 qu, I64 id, I64 ag, .slice ia iN ic, .slice la lN lc, .slice da dN dc, .slice wa wN wc, .bool up, I64 br, I64 pr] 48)
    have HS0 := Lib.hid (HA.out.start hal hP)
    have hltI : (k : Int) < (un : Int) := by omega
    obtain ⟨hsI, hsL, hsD, hsW⟩ := hsm
    have hLn : lN = lL.length := read_len (u := (la, lN, lc)) hrL
    have HLN := Lib.hid hLn
    have hL9 : lN ≤ 100000 := by omega
    have HRL : Hid (ReadsL 3 encLease wA (.slice la lN lc) lL) := hrL
    have HSL := Lib.hid hsL
    have hIn : iN = lI.length := read_len (u := (ia, iN, ic)) hrI
    have HIN := Lib.hid hIn
    have hI9 : iN ≤ 100000 := by omega
    have HRI : Hid (ReadsL 3 encConn wA (.slice ia iN ic) lI) := hrI
    have HSI := Lib.hid hsI
    have hDn : dN = lD.length := read_len (u := (da, dN, dc)) hrD
    have HDN := Lib.hid hDn
    have hD9 : dN ≤ 100000 := by omega
    have HRD : Hid (ReadsL 2 encDial wA (.slice da dN dc) lD) := hrD
    have HSD := Lib.hid hsD
    have hWn : wN = lW.length := read_len (u := (wa, wN, wc)) hrW
    have HWN := Lib.hid hWn
    have hW9 : wN ≤ 100000 := by omega
    have HRW : Hid (ReadsL 2 encWaiter wA (.slice wa wN wc) lW) := hrW
    have HSW := Lib.hid hsW
    obtain ⟨P, hPe⟩ : ∃ y, y = wr.heap.size := ⟨_, rfl⟩
    rw [← hPe] at HS0
    obtain ⟨wP, hwP⟩ : ∃ y, y = wr.alloc (.cells #[I64 mx, I64 qu, I64 id, I64 ag, .slice ia iN ic, .slice la lN lc, .slice da dN dc, .slice wa wN wc, .bool up, I64 br, I64 pr] 48) := ⟨_, rfl⟩
    rw [← hwP] at HS0
    have HLE := Lib.hid hle0
    clear hrow hrk rr hle0 hal hP hrL hLn hsL hrI hIn hsI hrD hDn hsD hrW hWn hsW
    go_wp2_with fail
    simp only [← hwP, ← hPe]
    clear hwP hPe
    clear m0 m1 m2 m3 m4 m5 m6 m7 m8 m9 m10 a0 a1 a2
    go_loopw [3, 6] (fun v3 jv wr => ∃ j : Nat, ∃ xa xn xc, j ≤ lN ∧ jv = .int .i64 j ∧ v3 = .slice xa xn xc ∧ Hid (CnAt wA (acc ++ (lL.take j).map (fun y => y.2.1)) P (.cells #[I64 mx, I64 qu, I64 id, I64 ag, .slice ia iN ic, .slice la lN lc, .slice da dN dc, .slice wa wN wc, .bool up, I64 br, I64 pr] 48 (0, 0)) (.slice xa xn xc) wr)) (fun _ jv _ => lN - (intOf jv).toNat)
    case atStart => exact ⟨0, _, _, _, Nat.zero_le _, rfl, rfl, by show CnAt _ _ _ _ _ _; simpa using HS0.out⟩
    case round =>
     obtain ⟨j0, xa, xn, xc, hj0, rfl, rfl, HI0⟩ := hrel
     have hb0 := HI0.out.blk
     have cf := blk_cell hb0 5
     simp only [List.getElem?_toArray, List.getElem?_cons_succ, List.getElem?_cons_zero] at cf
     have HB0 := Lib.hid hb0
     clear hb0
     by_cases hlt0 : j0 < lN
     · have hjl : j0 < lL.length := by rw [← HLN.out]; exact hlt0
       obtain ⟨g2, o2, cp2, e2, _, hc2⟩ := (HRL.out.below HI0.out.bel).form (by intro e; rw [e] at hjl; simp at hjl)
       injection e2 with f1 f2 f3
       replace f1 : la = some ⟨g2, o2, none⟩ := f1
       subst f1
       clear f2 f3
       have hrow := hc2 j0 hjl
       have hsn := take_snoc_map (f := (fun y => y.2.1)) hjl
       generalize lL[j0] = y at hrow hsn
       obtain ⟨y0, y1, y2⟩ := y
       dsimp only at hsn
       have n1 : ∀ v, (encLease (y0, y1, y2))[1]? = some v → _ := fun v hv => hrow 1 v hv
       have m0 := n1 _ rfl
       try rw [Nat.add_zero] at m0
       obtain ⟨lz, hlz⟩ : ∃ y, y = (acc ++ (lL.take j0).map (fun y => y.2.1)) := ⟨_, rfl⟩
       rw [← hlz] at HI0
       have hlzl : lz.length ≤ 6500000 := by
        rw [hlz, List.length_append, List.length_map, List.length_take]
        have := HLE.out
        have := HSL.out
        omega
       have hal := (Below.refl wr.heap.size wr).alloc (Nat.le_refl _) (.cells #[I64 y1] 2)
       have HOWN : Hid (OwnL 2 1 encI (wr.alloc (.cells #[I64 y1] 2)) wA.heap.size (.slice xa xn xc) lz) := HI0.out.own.below hal
       have HNEW := Lib.hid (cells_new (enc := encI) wr y1 #[I64 y1] 2 rfl)
       have HXL := Lib.hid hlzl
       have HBS : Hid (wA.heap.size ≤ (wr.alloc (.cells #[I64 y1] 2)).heap.size) := Nat.le_trans HI0.out.bel.size hal.size
       have HSTEP : Hid (∀ g' c' w9, OwnL 2 1 encI w9 wA.heap.size (.slice (some ⟨g', 0, none⟩) (lz.length + 1) c') (lz ++ [y1]) → (wr.alloc (.cells #[I64 y1] 2)).grownBy w9 (Value.slice xa xn xc).ownBlock → (some g' = (Value.slice xa xn xc).ownBlock ∨ g' = (wr.alloc (.cells #[I64 y1] 2)).heap.size) → CnAt wA (acc ++ (lL.take (j0 + 1)).map (fun y => y.2.1)) P (.cells #[I64 mx, I64 qu, I64 id, I64 ag, .slice ia iN ic, .slice (some ⟨g2, o2, none⟩) lN lc, .slice da dN dc, .slice wa wN wc, .bool up, I64 br, I64 pr] 48 (0, 0)) (.slice (some ⟨g', 0, none⟩) (lz.length + 1) c') w9) := fun g' c' w9 ho hg hat => by
        have q := HI0.out.step hal ho hg hat
        rw [hlz, List.append_assoc, ← hsn] at q
        rw [hlz]
        exact q
       have hjI : (j0 : Int) < (lN : Int) := by omega
       clear hrow hal hsn hlzl n1 hc2 hlz
       go_wp2_with (at_builtin; refine appL_own elI _ rfl _ _ rfl wA.heap.size (.slice xa xn xc) lz y1 rfl HOWN.out wr.heap.size 1 rfl HNEW.out (by have := HXL.out; unfold maxLen; omega) (by have := HXL.out; omega) HBS.out ?_; rintro g' c' w9 hown hgr hat; have HNXT := Lib.hid (HSTEP.out g' c' w9 hown hgr hat); clear hown hgr hat m0 cf)
       case roundEnd =>
        refine ⟨⟨j0 + 1, _, _, _, hlt0, by rw [show (j0 : Int) + 1 = ((j0 + 1 : Nat) : Int) by omega], rfl, HNXT⟩, ?_⟩
        simp [intOf]
        omega
     · have hje : j0 = lN := by omega
       have HF0 : Hid (CnAt wA (acc ++ lL.map (fun y => y.2.1)) P (.cells #[I64 mx, I64 qu, I64 id, I64 ag, .slice ia iN ic, .slice la lN lc, .slice da dN dc, .slice wa wN wc, .bool up, I64 br, I64 pr] 48 (0, 0)) (.slice xa xn xc) wr) := by
        have q := HI0.out
        rw [hje, List.take_of_length_le (by rw [← HLN.out]; exact Nat.le_refl _)] at q
        exact q
       obtain ⟨acc0, hacc0⟩ : ∃ y, y = acc ++ lL.map (fun y => y.2.1) := ⟨_, rfl⟩
       rw [← hacc0] at HF0
       have HLE0 : Hid (acc0.length ≤ 6500000) := by
        show _ ≤ _
        rw [hacc0, List.length_append, List.length_map]
        have := HLE.out
        have := HSL.out
        omega
       have HAC0 := Lib.hid hacc0
       have hjn : ¬ (j0 : Int) < (lN : Int) := by omega
       clear hlt0 hj0 hacc0 hje HI0
       go_wp2_with fail
       clear cf hjn
       go_loopw [3, 7] (fun v3 jv wr => ∃ j : Nat, ∃ xa xn xc, j ≤ iN ∧ jv = .int .i64 j ∧ v3 = .slice xa xn xc ∧ Hid (CnAt wA (acc0 ++ (lI.take j).map (fun y => y.1)) P (.cells #[I64 mx, I64 qu, I64 id, I64 ag, .slice ia iN ic, .slice la lN lc, .slice da dN dc, .slice wa wN wc, .bool up, I64 br, I64 pr] 48 (0, 0)) (.slice xa xn xc) wr)) (fun _ jv _ => iN - (intOf jv).toNat)
       case atStart => exact ⟨0, _, _, _, Nat.zero_le _, rfl, rfl, by show CnAt _ _ _ _ _ _; simpa using HF0.out⟩
       case round =>
        obtain ⟨j1, xa, xn, xc, hj1, rfl, rfl, HI1⟩ := hrel
        have hb1 := HI1.out.blk
        have cf := blk_cell hb1 4
        simp only [List.getElem?_toArray, List.getElem?_cons_succ, List.getElem?_cons_zero] at cf
        have HB1 := Lib.hid hb1
        clear hb1
        by_cases hlt1 : j1 < iN
        · have hjl : j1 < lI.length := by rw [← HIN.out]; exact hlt1
          obtain ⟨g2, o2, cp2, e2, _, hc2⟩ := (HRI.out.below HI1.out.bel).form (by intro e; rw [e] at hjl; simp at hjl)
          injection e2 with f1 f2 f3
          replace f1 : ia = some ⟨g2, o2, none⟩ := f1
          subst f1
          clear f2 f3
          have hrow := hc2 j1 hjl
          have hsn := take_snoc_map (f := (fun y => y.1)) hjl
          generalize lI[j1] = y at hrow hsn
          obtain ⟨y0, y1, y2⟩ := y
          dsimp only at hsn
          have n0 : ∀ v, (encConn (y0, y1, y2))[0]? = some v → _ := fun v hv => hrow 0 v hv
          have m0 := n0 _ rfl
          try rw [Nat.add_zero] at m0
          obtain ⟨lz, hlz⟩ : ∃ y, y = (acc0 ++ (lI.take j1).map (fun y => y.1)) := ⟨_, rfl⟩
          rw [← hlz] at HI1
          have hlzl : lz.length ≤ 6600000 := by
           rw [hlz, List.length_append, List.length_map, List.length_take]
           have := HLE0.out
           have := HSI.out
           omega
          have hal := (Below.refl wr.heap.size wr).alloc (Nat.le_refl _) (.cells #[I64 y0] 2)
          have HOWN : Hid (OwnL 2 1 encI (wr.alloc (.cells #[I64 y0] 2)) wA.heap.size (.slice xa xn xc) lz) := HI1.out.own.below hal
          have HNEW := Lib.hid (cells_new (enc := encI) wr y0 #[I64 y0] 2 rfl)
          have HXL := Lib.hid hlzl
          have HBS : Hid (wA.heap.size ≤ (wr.alloc (.cells #[I64 y0] 2)).heap.size) := Nat.le_trans HI1.out.bel.size hal.size
          have HSTEP : Hid (∀ g' c' w9, OwnL 2 1 encI w9 wA.heap.size (.slice (some ⟨g', 0, none⟩) (lz.length + 1) c') (lz ++ [y0]) → (wr.alloc (.cells #[I64 y0] 2)).grownBy w9 (Value.slice xa xn xc).ownBlock → (some g' = (Value.slice xa xn xc).ownBlock ∨ g' = (wr.alloc (.cells #[I64 y0] 2)).heap.size) → CnAt wA (acc0 ++ (lI.take (j1 + 1)).map (fun y => y.1)) P (.cells #[I64 mx, I64 qu, I64 id, I64 ag, .slice (some ⟨g2, o2, none⟩) iN ic, .slice la lN lc, .slice da dN dc, .slice wa wN wc, .bool up, I64 br, I64 pr] 48 (0, 0)) (.slice (some ⟨g', 0, none⟩) (lz.length + 1) c') w9) := fun g' c' w9 ho hg hat => by
           have q := HI1.out.step hal ho hg hat
           rw [hlz, List.append_assoc, ← hsn] at q
           rw [hlz]
           exact q
          have hjI : (j1 : Int) < (iN : Int) := by omega
          clear hrow hal hsn hlzl n0 hc2 hlz
          go_wp2_with (at_builtin; refine appL_own elI _ rfl _ _ rfl wA.heap.size (.slice xa xn xc) lz y0 rfl HOWN.out wr.heap.size 1 rfl HNEW.out (by have := HXL.out; unfold maxLen; omega) (by have := HXL.out; omega) HBS.out ?_; rintro g' c' w9 hown hgr hat; have HNXT := Lib.hid (HSTEP.out g' c' w9 hown hgr hat); clear hown hgr hat m0 cf)
          case roundEnd =>
           refine ⟨⟨j1 + 1, _, _, _, hlt1, by rw [show (j1 : Int) + 1 = ((j1 + 1 : Nat) : Int) by omega], rfl, HNXT⟩, ?_⟩
           simp [intOf]
           omega
        · have hje : j1 = iN := by omega
          have HF1 : Hid (CnAt wA (acc0 ++ lI.map (fun y => y.1)) P (.cells #[I64 mx, I64 qu, I64 id, I64 ag, .slice ia iN ic, .slice la lN lc, .slice da dN dc, .slice wa wN wc, .bool up, I64 br, I64 pr] 48 (0, 0)) (.slice xa xn xc) wr) := by
           have q := HI1.out
           rw [hje, List.take_of_length_le (by rw [← HIN.out]; exact Nat.le_refl _)] at q
           exact q
          obtain ⟨acc1, hacc1⟩ : ∃ y, y = acc0 ++ lI.map (fun y => y.1) := ⟨_, rfl⟩
          rw [← hacc1] at HF1
          have HLE1 : Hid (acc1.length ≤ 6600000) := by
           show _ ≤ _
           rw [hacc1, List.length_append, List.length_map]
           have := HLE0.out
           have := HSI.out
           omega
          have HAC1 := Lib.hid hacc1
          have hjn : ¬ (j1 : Int) < (iN : Int) := by omega
          clear hlt1 hj1 hacc1 hje HI1
          go_wp2_with fail
          clear cf hjn
          case roundEnd =>
           refine ⟨⟨k + 1, _, _, _, hlt, by rw [show (k : Int) + 1 = ((k + 1 : Nat) : Int) by omega], rfl, ?_⟩, ?_⟩
           · show CnO wA _ _ _
             rw [HFL.out]
             have q := HF1.out.out
             rw [HAC1.out, HAC0.out] at q
             simpa only [List.append_assoc] using q
           · simp [intOf]
             omega
  · have hke : k = un := by omega
    have HF : Hid (CnO wA ((s.pools).flatMap Md.pconns) (.slice va vn vc) wr) := by
     have q := HA.out
     rw [hke, HUL.out, List.take_length] at q
     exact q
    have hkn : ¬ (k : Int) < (un : Int) := by omega
    clear hlt hkN hke HA
    go_wp2
    go_ret
    exact ⟨_, rfl, HF.out.own.reads encI_len, HBA.out.trans (HF.out.bel.mono HBA.out.size)⟩
set_option maxHeartbeats 8000000 in
set_option maxRecDepth 100000 in
set_option linter.unusedVariables false in
set_option linter.unusedSimpArgs false in
theorem calls_any (s : Md.State) (u : SlV) (w : World) (h : Sta w u s) :
 Calls Try.prog 18 #[.agg #[I64 s.now, .bool s.shut, valS u]] w fun e w' => ∃ v, e = .returned v ∧ ReadsL 1 encI w' v (Md.calls s) ∧ Below w.heap.size w w' := by
 have hal := (Below.refl w.heap.size w).alloc (Nat.le_refl _) (.cells #[I64 s.now, .bool s.shut, valS u] 26)
 have hz := blk_new w (.cells #[I64 s.now, .bool s.shut, valS u] 26)
 obtain ⟨pvs, hr⟩ := rd_of (h.below hal).lies
 have hul := h.len
 obtain ⟨wA, hwA⟩ : ∃ x, x = w.alloc (.cells #[I64 s.now, .bool s.shut, valS u] 26) := ⟨_, rfl⟩
 obtain ⟨B, hB⟩ : ∃ x, x = w.heap.size := ⟨_, rfl⟩
 rw [← hwA] at hal hz hr
 rw [← hB] at hz
 have HBA := Lib.hid hal
 have hp1 := h.good.len1
 have hp16 := h.good.len2
 have HSM := Lib.hid (good_small h.good)
 have HLEN : Hid (∀ k, ((s.pools.take k).flatMap Md.pcalls).length ≤ 6400000) := fun k => by
  have q := flat_len (f := Md.pcalls) 400000 (s.pools.take k) (fun p hp => by
   have hs := HSM.out p (List.mem_of_mem_take hp)
   unfold PoolSmall at hs
   unfold Md.pcalls
   simp only [List.length_append, List.length_map]
   omega)
  rw [List.length_take] at q
  have : min k s.pools.length ≤ 16 := by omega
  omega
 obtain ⟨g, o, cp, e, _, hc⟩ := hr.1.form (by intro e; have := hr.2.1; rw [e] at this; simp at this; omega)
 obtain ⟨ua, un, uc⟩ := u
 unfold valS at e
 injection e with e1 e2 e3
 replace e1 : ua = some ⟨g, o, none⟩ := e1
 subst e1
 clear e2 e3
 replace hul : un = s.pools.length := hul
 have HUL := Lib.hid hul
 have hun16 : un ≤ 16 := by omega
 have HC := Lib.hid hc
 have HR := Lib.hid hr
 have HL2 := Lib.hid hr.2.1
 unfold valS at hz hwA ⊢
 dsimp only at hz hwA ⊢
 have HZ := Lib.hid hz
 clear hal hz h hr hul hc hp1 hp16
 go_enter Try.func18, Try.ntmps18
 go_wp2_with fail
 simp only [← hwA, ← hB]
 clear hwA hB
 go_loopw [3, 4, 5, 6, 7, 8] (fun v3 kv _ _ _ _ wr => ∃ k : Nat, ∃ va vn vc, k ≤ un ∧ kv = .int .i64 k ∧ v3 = .slice va vn vc ∧ Hid (CnO wA ((s.pools.take k).flatMap Md.pcalls) (.slice va vn vc) wr)) (fun _ kv _ _ _ _ _ => un - (intOf kv).toNat)
 case atStart => exact ⟨0, none, 0, 0, Nat.zero_le _, rfl, rfl, ⟨.nil _ _, .refl _ _⟩⟩
 case round =>
  obtain ⟨k, va, vn, vc, hkN, rfl, rfl, HA⟩ := hrel
  have hst := (HA.out.bel.block _ (lt_of_block HZ.out)).trans HZ.out
  have HST := Lib.hid hst
  have a0 := blk_cell hst 0
  have a1 := blk_cell hst 1
  have a2 := blk_cell hst 2
  simp only [List.getElem?_toArray, List.getElem?_cons_succ, List.getElem?_cons_zero] at a0 a1 a2
  clear hst
  by_cases hlt : k < un
  · have hk : k < s.pools.length := by rw [← HUL.out]; exact hlt
    have hbp : k < pvs.length := by rw [HL2.out]; exact hk
    have hrk := HR.out.2.2 k hbp hk
    have hrow : ∀ i v, (encP pvs[k])[i]? = some v → wr.cell? ⟨g, o + k * 11 + i, none⟩ = some v := fun i v hv => by
     have q := HC.out k hbp i v hv
     exact (HA.out.bel.cell (p := ⟨g, _, none⟩) (cell_lt q)).trans q
    have hsm := HSM.out _ (List.getElem_mem hk)
    have hflat := take_snoc_flat (f := Md.pcalls) hk
    unfold Md.pcalls at hflat
    change _ = (s.pools.take k).flatMap Md.pcalls ++ _ at hflat
    have hle0 := HLEN.out k
    generalize pvs[k] = pv at hrow hrk
    obtain ⟨⟨mx, qu, id, ag⟩, ⟨ia, iN, ic⟩, ⟨la, lN, lc⟩, ⟨da, dN, dc⟩, ⟨wa, wN, wc⟩, up, br, pr⟩ := pv
    have hrL := hrk.leases
    have hrI := hrk.idle
    have hrD := hrk.dials
    have hrW := hrk.waiters
    generalize s.pools[k] = pk at hflat hsm hrL hrI hrD hrW
    obtain ⟨lmk, lI, lL, lD, lW, upk, brk, prk⟩ := pk
    unfold PoolSmall at hsm
    dsimp only at hflat hsm hrL hrI hrD hrW
    have HFL : Hid ((s.pools.take (k + 1)).flatMap Md.pcalls = _) := hflat
    obtain ⟨acc, hacc⟩ : ∃ y, y = (s.pools.take k).flatMap Md.pcalls := ⟨_, rfl⟩
    rw [← hacc] at HA HFL hle0
    clear hflat hacc
    have rr : ∀ i v, (encP ⟨⟨mx, qu, id, ag⟩, (ia, iN, ic), (la, lN, lc), (da, dN, dc), (wa, wN, wc), up, br, pr⟩)[i]? = some v → wr.cell? ⟨g, o + k * 11 + i, none⟩ = some v := hrow
    have m0 : wr.cell? ⟨g, o + k * 11, none⟩ = some (I64 mx) := rr 0 _ rfl
    have m1 : wr.cell? ⟨g, o + k * 11 + 1, none⟩ = some (I64 qu) := rr 1 _ rfl
    have m2 : wr.cell? ⟨g, o + k * 11 + 2, none⟩ = some (I64 id) := rr 2 _ rfl
    have m3 : wr.cell? ⟨g, o + k * 11 + 3, none⟩ = some (I64 ag) := rr 3 _ rfl
    have m4 : wr.cell? ⟨g, o + k * 11 + 4, none⟩ = some (.slice ia iN ic) := rr 4 _ rfl
    have m5 : wr.cell? ⟨g, o + k * 11 + 5, none⟩ = some (.slice la lN lc) := rr 5 _ rfl
    have m6 : wr.cell? ⟨g, o + k * 11 + 6, none⟩ = some (.slice da dN dc) := rr 6 _ rfl
    have m7 : wr.cell? ⟨g, o + k * 11 + 7, none⟩ = some (.slice wa wN wc) := rr 7 _ rfl
    have m8 : wr.cell? ⟨g, o + k * 11 + 8, none⟩ = some (.bool up) := rr 8 _ rfl
    have m9 : wr.cell? ⟨g, o + k * 11 + 9, none⟩ = some (I64 br) := rr 9 _ rfl
    have m10 : wr.cell? ⟨g, o + k * 11 + 10, none⟩ = some (I64 pr) := rr 10 _ rfl
    have hal := (Below.refl wr.heap.size wr).alloc (Nat.le_refl _) (.cells #[I64 mx, I64 qu, I64 id, I64 ag, .slice ia iN ic, .slice la lN lc, .slice da dN dc, .slice wa wN wc, .bool up, I64 br, I64 pr] 48)
    have hP := blk_new wr (.cells #[I64 mx, I64 qu, I64 id, I64 ag, .slice ia iN ic, .slice la lN lc, .slice da dN dc, .slice wa wN wc, .bool up, I64 br, I64 pr] 48)
    have HS0 := Lib.hid (HA.out.start hal hP)
    have hltI : (k : Int) < (un : Int) := by omega
    obtain ⟨hsI, hsL, hsD, hsW⟩ := hsm
    have hLn : lN = lL.length := read_len (u := (la, lN, lc)) hrL
    have HLN := Lib.hid hLn
    have hL9 : lN ≤ 100000 := by omega
    have HRL : Hid (ReadsL 3 encLease wA (.slice la lN lc) lL) := hrL
    have HSL := Lib.hid hsL
    have hIn : iN = lI.length := read_len (u := (ia, iN, ic)) hrI
    have HIN := Lib.hid hIn
    have hI9 : iN ≤ 100000 := by omega
    have HRI : Hid (ReadsL 3 encConn wA (.slice ia iN ic) lI) := hrI
    have HSI := Lib.hid hsI
    have hDn : dN = lD.length := read_len (u := (da, dN, dc)) hrD
    have HDN := Lib.hid hDn
    have hD9 : dN ≤ 100000 := by omega
    have HRD : Hid (ReadsL 2 encDial wA (.slice da dN dc) lD) := hrD
    have HSD := Lib.hid hsD
    have hWn : wN = lW.length := read_len (u := (wa, wN, wc)) hrW
    have HWN := Lib.hid hWn
    have hW9 : wN ≤ 100000 := by omega
    have HRW : Hid (ReadsL 2 encWaiter wA (.slice wa wN wc) lW) := hrW
    have HSW := Lib.hid hsW
    obtain ⟨P, hPe⟩ : ∃ y, y = wr.heap.size := ⟨_, rfl⟩
    rw [← hPe] at HS0
    obtain ⟨wP, hwP⟩ : ∃ y, y = wr.alloc (.cells #[I64 mx, I64 qu, I64 id, I64 ag, .slice ia iN ic, .slice la lN lc, .slice da dN dc, .slice wa wN wc, .bool up, I64 br, I64 pr] 48) := ⟨_, rfl⟩
    rw [← hwP] at HS0
    have HLE := Lib.hid hle0
    clear hrow hrk rr hle0 hal hP hrL hLn hsL hrI hIn hsI hrD hDn hsD hrW hWn hsW
    go_wp2_with fail
    simp only [← hwP, ← hPe]
    clear hwP hPe
    clear m0 m1 m2 m3 m4 m5 m6 m7 m8 m9 m10 a0 a1 a2
    go_loopw [3, 6] (fun v3 jv wr => ∃ j : Nat, ∃ xa xn xc, j ≤ lN ∧ jv = .int .i64 j ∧ v3 = .slice xa xn xc ∧ Hid (CnAt wA (acc ++ (lL.take j).map (fun y => y.1)) P (.cells #[I64 mx, I64 qu, I64 id, I64 ag, .slice ia iN ic, .slice la lN lc, .slice da dN dc, .slice wa wN wc, .bool up, I64 br, I64 pr] 48 (0, 0)) (.slice xa xn xc) wr)) (fun _ jv _ => lN - (intOf jv).toNat)
    case atStart => exact ⟨0, _, _, _, Nat.zero_le _, rfl, rfl, by show CnAt _ _ _ _ _ _; simpa using HS0.out⟩
    case round =>
     obtain ⟨j0, xa, xn, xc, hj0, rfl, rfl, HI0⟩ := hrel
     have hb0 := HI0.out.blk
     have cf := blk_cell hb0 5
     simp only [List.getElem?_toArray, List.getElem?_cons_succ, List.getElem?_cons_zero] at cf
     have HB0 := Lib.hid hb0
     clear hb0
     by_cases hlt0 : j0 < lN
     · have hjl : j0 < lL.length := by rw [← HLN.out]; exact hlt0
       obtain ⟨g2, o2, cp2, e2, _, hc2⟩ := (HRL.out.below HI0.out.bel).form (by intro e; rw [e] at hjl; simp at hjl)
       injection e2 with f1 f2 f3
       replace f1 : la = some ⟨g2, o2, none⟩ := f1
       subst f1
       clear f2 f3
       have hrow := hc2 j0 hjl
       have hsn := take_snoc_map (f := (fun y => y.1)) hjl
       generalize lL[j0] = y at hrow hsn
       obtain ⟨y0, y1, y2⟩ := y
       dsimp only at hsn
       have n0 : ∀ v, (encLease (y0, y1, y2))[0]? = some v → _ := fun v hv => hrow 0 v hv
       have m0 := n0 _ rfl
       try rw [Nat.add_zero] at m0
       obtain ⟨lz, hlz⟩ : ∃ y, y = (acc ++ (lL.take j0).map (fun y => y.1)) := ⟨_, rfl⟩
       rw [← hlz] at HI0
       have hlzl : lz.length ≤ 6500000 := by
        rw [hlz, List.length_append, List.length_map, List.length_take]
        have := HLE.out
        have := HSL.out
        omega
       have hal := (Below.refl wr.heap.size wr).alloc (Nat.le_refl _) (.cells #[I64 y0] 2)
       have HOWN : Hid (OwnL 2 1 encI (wr.alloc (.cells #[I64 y0] 2)) wA.heap.size (.slice xa xn xc) lz) := HI0.out.own.below hal
       have HNEW := Lib.hid (cells_new (enc := encI) wr y0 #[I64 y0] 2 rfl)
       have HXL := Lib.hid hlzl
       have HBS : Hid (wA.heap.size ≤ (wr.alloc (.cells #[I64 y0] 2)).heap.size) := Nat.le_trans HI0.out.bel.size hal.size
       have HSTEP : Hid (∀ g' c' w9, OwnL 2 1 encI w9 wA.heap.size (.slice (some ⟨g', 0, none⟩) (lz.length + 1) c') (lz ++ [y0]) → (wr.alloc (.cells #[I64 y0] 2)).grownBy w9 (Value.slice xa xn xc).ownBlock → (some g' = (Value.slice xa xn xc).ownBlock ∨ g' = (wr.alloc (.cells #[I64 y0] 2)).heap.size) → CnAt wA (acc ++ (lL.take (j0 + 1)).map (fun y => y.1)) P (.cells #[I64 mx, I64 qu, I64 id, I64 ag, .slice ia iN ic, .slice (some ⟨g2, o2, none⟩) lN lc, .slice da dN dc, .slice wa wN wc, .bool up, I64 br, I64 pr] 48 (0, 0)) (.slice (some ⟨g', 0, none⟩) (lz.length + 1) c') w9) := fun g' c' w9 ho hg hat => by
        have q := HI0.out.step hal ho hg hat
        rw [hlz, List.append_assoc, ← hsn] at q
        rw [hlz]
        exact q
       have hjI : (j0 : Int) < (lN : Int) := by omega
       clear hrow hal hsn hlzl n0 hc2 hlz
       go_wp2_with (at_builtin; refine appL_own elI _ rfl _ _ rfl wA.heap.size (.slice xa xn xc) lz y0 rfl HOWN.out wr.heap.size 1 rfl HNEW.out (by have := HXL.out; unfold maxLen; omega) (by have := HXL.out; omega) HBS.out ?_; rintro g' c' w9 hown hgr hat; have HNXT := Lib.hid (HSTEP.out g' c' w9 hown hgr hat); clear hown hgr hat m0 cf)
       case roundEnd =>
        refine ⟨⟨j0 + 1, _, _, _, hlt0, by rw [show (j0 : Int) + 1 = ((j0 + 1 : Nat) : Int) by omega], rfl, HNXT⟩, ?_⟩
        simp [intOf]
        omega
     · have hje : j0 = lN := by omega
       have HF0 : Hid (CnAt wA (acc ++ lL.map (fun y => y.1)) P (.cells #[I64 mx, I64 qu, I64 id, I64 ag, .slice ia iN ic, .slice la lN lc, .slice da dN dc, .slice wa wN wc, .bool up, I64 br, I64 pr] 48 (0, 0)) (.slice xa xn xc) wr) := by
        have q := HI0.out
        rw [hje, List.take_of_length_le (by rw [← HLN.out]; exact Nat.le_refl _)] at q
        exact q
       obtain ⟨acc0, hacc0⟩ : ∃ y, y = acc ++ lL.map (fun y => y.1) := ⟨_, rfl⟩
       rw [← hacc0] at HF0
       have HLE0 : Hid (acc0.length ≤ 6500000) := by
        show _ ≤ _
        rw [hacc0, List.length_append, List.length_map]
        have := HLE.out
        have := HSL.out
        omega
       have HAC0 := Lib.hid hacc0
       have hjn : ¬ (j0 : Int) < (lN : Int) := by omega
       clear hlt0 hj0 hacc0 hje HI0
       go_wp2_with fail
       clear cf hjn
       go_loopw [3, 7] (fun v3 jv wr => ∃ j : Nat, ∃ xa xn xc, j ≤ dN ∧ jv = .int .i64 j ∧ v3 = .slice xa xn xc ∧ Hid (CnAt wA (acc0 ++ (lD.take j).map (fun y => y.1)) P (.cells #[I64 mx, I64 qu, I64 id, I64 ag, .slice ia iN ic, .slice la lN lc, .slice da dN dc, .slice wa wN wc, .bool up, I64 br, I64 pr] 48 (0, 0)) (.slice xa xn xc) wr)) (fun _ jv _ => dN - (intOf jv).toNat)
       case atStart => exact ⟨0, _, _, _, Nat.zero_le _, rfl, rfl, by show CnAt _ _ _ _ _ _; simpa using HF0.out⟩
       case round =>
        obtain ⟨j1, xa, xn, xc, hj1, rfl, rfl, HI1⟩ := hrel
        have hb1 := HI1.out.blk
        have cf := blk_cell hb1 6
        simp only [List.getElem?_toArray, List.getElem?_cons_succ, List.getElem?_cons_zero] at cf
        have HB1 := Lib.hid hb1
        clear hb1
        by_cases hlt1 : j1 < dN
        · have hjl : j1 < lD.length := by rw [← HDN.out]; exact hlt1
          obtain ⟨g2, o2, cp2, e2, _, hc2⟩ := (HRD.out.below HI1.out.bel).form (by intro e; rw [e] at hjl; simp at hjl)
          injection e2 with f1 f2 f3
          replace f1 : da = some ⟨g2, o2, none⟩ := f1
          subst f1
          clear f2 f3
          have hrow := hc2 j1 hjl
          have hsn := take_snoc_map (f := (fun y => y.1)) hjl
          generalize lD[j1] = y at hrow hsn
          obtain ⟨y0, y1⟩ := y
          dsimp only at hsn
          have n0 : ∀ v, (encDial (y0, y1))[0]? = some v → _ := fun v hv => hrow 0 v hv
          have m0 := n0 _ rfl
          try rw [Nat.add_zero] at m0
          obtain ⟨lz, hlz⟩ : ∃ y, y = (acc0 ++ (lD.take j1).map (fun y => y.1)) := ⟨_, rfl⟩
          rw [← hlz] at HI1
          have hlzl : lz.length ≤ 6600000 := by
           rw [hlz, List.length_append, List.length_map, List.length_take]
           have := HLE0.out
           have := HSD.out
           omega
          have hal := (Below.refl wr.heap.size wr).alloc (Nat.le_refl _) (.cells #[I64 y0] 2)
          have HOWN : Hid (OwnL 2 1 encI (wr.alloc (.cells #[I64 y0] 2)) wA.heap.size (.slice xa xn xc) lz) := HI1.out.own.below hal
          have HNEW := Lib.hid (cells_new (enc := encI) wr y0 #[I64 y0] 2 rfl)
          have HXL := Lib.hid hlzl
          have HBS : Hid (wA.heap.size ≤ (wr.alloc (.cells #[I64 y0] 2)).heap.size) := Nat.le_trans HI1.out.bel.size hal.size
          have HSTEP : Hid (∀ g' c' w9, OwnL 2 1 encI w9 wA.heap.size (.slice (some ⟨g', 0, none⟩) (lz.length + 1) c') (lz ++ [y0]) → (wr.alloc (.cells #[I64 y0] 2)).grownBy w9 (Value.slice xa xn xc).ownBlock → (some g' = (Value.slice xa xn xc).ownBlock ∨ g' = (wr.alloc (.cells #[I64 y0] 2)).heap.size) → CnAt wA (acc0 ++ (lD.take (j1 + 1)).map (fun y => y.1)) P (.cells #[I64 mx, I64 qu, I64 id, I64 ag, .slice ia iN ic, .slice la lN lc, .slice (some ⟨g2, o2, none⟩) dN dc, .slice wa wN wc, .bool up, I64 br, I64 pr] 48 (0, 0)) (.slice (some ⟨g', 0, none⟩) (lz.length + 1) c') w9) := fun g' c' w9 ho hg hat => by
           have q := HI1.out.step hal ho hg hat
           rw [hlz, List.append_assoc, ← hsn] at q
           rw [hlz]
           exact q
          have hjI : (j1 : Int) < (dN : Int) := by omega
          clear hrow hal hsn hlzl n0 hc2 hlz
          go_wp2_with (at_builtin; refine appL_own elI _ rfl _ _ rfl wA.heap.size (.slice xa xn xc) lz y0 rfl HOWN.out wr.heap.size 1 rfl HNEW.out (by have := HXL.out; unfold maxLen; omega) (by have := HXL.out; omega) HBS.out ?_; rintro g' c' w9 hown hgr hat; have HNXT := Lib.hid (HSTEP.out g' c' w9 hown hgr hat); clear hown hgr hat m0 cf)
          case roundEnd =>
           refine ⟨⟨j1 + 1, _, _, _, hlt1, by rw [show (j1 : Int) + 1 = ((j1 + 1 : Nat) : Int) by omega], rfl, HNXT⟩, ?_⟩
           simp [intOf]
           omega
        · have hje : j1 = dN := by omega
          have HF1 : Hid (CnAt wA (acc0 ++ lD.map (fun y => y.1)) P (.cells #[I64 mx, I64 qu, I64 id, I64 ag, .slice ia iN ic, .slice la lN lc, .slice da dN dc, .slice wa wN wc, .bool up, I64 br, I64 pr] 48 (0, 0)) (.slice xa xn xc) wr) := by
           have q := HI1.out
           rw [hje, List.take_of_length_le (by rw [← HDN.out]; exact Nat.le_refl _)] at q
           exact q
          obtain ⟨acc1, hacc1⟩ : ∃ y, y = acc0 ++ lD.map (fun y => y.1) := ⟨_, rfl⟩
          rw [← hacc1] at HF1
          have HLE1 : Hid (acc1.length ≤ 6600000) := by
           show _ ≤ _
           rw [hacc1, List.length_append, List.length_map]
           have := HLE0.out
           have := HSD.out
           omega
          have HAC1 := Lib.hid hacc1
          have hjn : ¬ (j1 : Int) < (dN : Int) := by omega
          clear hlt1 hj1 hacc1 hje HI1
          go_wp2_with fail
          clear cf hjn
          go_loopw [3, 8] (fun v3 jv wr => ∃ j : Nat, ∃ xa xn xc, j ≤ wN ∧ jv = .int .i64 j ∧ v3 = .slice xa xn xc ∧ Hid (CnAt wA (acc1 ++ (lW.take j).map (fun y => y.1)) P (.cells #[I64 mx, I64 qu, I64 id, I64 ag, .slice ia iN ic, .slice la lN lc, .slice da dN dc, .slice wa wN wc, .bool up, I64 br, I64 pr] 48 (0, 0)) (.slice xa xn xc) wr)) (fun _ jv _ => wN - (intOf jv).toNat)
          case atStart => exact ⟨0, _, _, _, Nat.zero_le _, rfl, rfl, by show CnAt _ _ _ _ _ _; simpa using HF1.out⟩
          case round =>
           obtain ⟨j2, xa, xn, xc, hj2, rfl, rfl, HI2⟩ := hrel
           have hb2 := HI2.out.blk
           have cf := blk_cell hb2 7
           simp only [List.getElem?_toArray, List.getElem?_cons_succ, List.getElem?_cons_zero] at cf
           have HB2 := Lib.hid hb2
           clear hb2
           by_cases hlt2 : j2 < wN
           · have hjl : j2 < lW.length := by rw [← HWN.out]; exact hlt2
             obtain ⟨g2, o2, cp2, e2, _, hc2⟩ := (HRW.out.below HI2.out.bel).form (by intro e; rw [e] at hjl; simp at hjl)
             injection e2 with f1 f2 f3
             replace f1 : wa = some ⟨g2, o2, none⟩ := f1
             subst f1
             clear f2 f3
             have hrow := hc2 j2 hjl
             have hsn := take_snoc_map (f := (fun y => y.1)) hjl
             generalize lW[j2] = y at hrow hsn
             obtain ⟨y0, y1⟩ := y
             dsimp only at hsn
             have n0 : ∀ v, (encWaiter (y0, y1))[0]? = some v → _ := fun v hv => hrow 0 v hv
             have m0 := n0 _ rfl
             try rw [Nat.add_zero] at m0
             obtain ⟨lz, hlz⟩ : ∃ y, y = (acc1 ++ (lW.take j2).map (fun y => y.1)) := ⟨_, rfl⟩
             rw [← hlz] at HI2
             have hlzl : lz.length ≤ 6700000 := by
              rw [hlz, List.length_append, List.length_map, List.length_take]
              have := HLE1.out
              have := HSW.out
              omega
             have hal := (Below.refl wr.heap.size wr).alloc (Nat.le_refl _) (.cells #[I64 y0] 2)
             have HOWN : Hid (OwnL 2 1 encI (wr.alloc (.cells #[I64 y0] 2)) wA.heap.size (.slice xa xn xc) lz) := HI2.out.own.below hal
             have HNEW := Lib.hid (cells_new (enc := encI) wr y0 #[I64 y0] 2 rfl)
             have HXL := Lib.hid hlzl
             have HBS : Hid (wA.heap.size ≤ (wr.alloc (.cells #[I64 y0] 2)).heap.size) := Nat.le_trans HI2.out.bel.size hal.size
             have HSTEP : Hid (∀ g' c' w9, OwnL 2 1 encI w9 wA.heap.size (.slice (some ⟨g', 0, none⟩) (lz.length + 1) c') (lz ++ [y0]) → (wr.alloc (.cells #[I64 y0] 2)).grownBy w9 (Value.slice xa xn xc).ownBlock → (some g' = (Value.slice xa xn xc).ownBlock ∨ g' = (wr.alloc (.cells #[I64 y0] 2)).heap.size) → CnAt wA (acc1 ++ (lW.take (j2 + 1)).map (fun y => y.1)) P (.cells #[I64 mx, I64 qu, I64 id, I64 ag, .slice ia iN ic, .slice la lN lc, .slice da dN dc, .slice (some ⟨g2, o2, none⟩) wN wc, .bool up, I64 br, I64 pr] 48 (0, 0)) (.slice (some ⟨g', 0, none⟩) (lz.length + 1) c') w9) := fun g' c' w9 ho hg hat => by
              have q := HI2.out.step hal ho hg hat
              rw [hlz, List.append_assoc, ← hsn] at q
              rw [hlz]
              exact q
             have hjI : (j2 : Int) < (wN : Int) := by omega
             clear hrow hal hsn hlzl n0 hc2 hlz
             go_wp2_with (at_builtin; refine appL_own elI _ rfl _ _ rfl wA.heap.size (.slice xa xn xc) lz y0 rfl HOWN.out wr.heap.size 1 rfl HNEW.out (by have := HXL.out; unfold maxLen; omega) (by have := HXL.out; omega) HBS.out ?_; rintro g' c' w9 hown hgr hat; have HNXT := Lib.hid (HSTEP.out g' c' w9 hown hgr hat); clear hown hgr hat m0 cf)
             case roundEnd =>
              refine ⟨⟨j2 + 1, _, _, _, hlt2, by rw [show (j2 : Int) + 1 = ((j2 + 1 : Nat) : Int) by omega], rfl, HNXT⟩, ?_⟩
              simp [intOf]
              omega
           · have hje : j2 = wN := by omega
             have HF2 : Hid (CnAt wA (acc1 ++ lW.map (fun y => y.1)) P (.cells #[I64 mx, I64 qu, I64 id, I64 ag, .slice ia iN ic, .slice la lN lc, .slice da dN dc, .slice wa wN wc, .bool up, I64 br, I64 pr] 48 (0, 0)) (.slice xa xn xc) wr) := by
              have q := HI2.out
              rw [hje, List.take_of_length_le (by rw [← HWN.out]; exact Nat.le_refl _)] at q
              exact q
             obtain ⟨acc2, hacc2⟩ : ∃ y, y = acc1 ++ lW.map (fun y => y.1) := ⟨_, rfl⟩
             rw [← hacc2] at HF2
             have HLE2 : Hid (acc2.length ≤ 6700000) := by
              show _ ≤ _
              rw [hacc2, List.length_append, List.length_map]
              have := HLE1.out
              have := HSW.out
              omega
             have HAC2 := Lib.hid hacc2
             have hjn : ¬ (j2 : Int) < (wN : Int) := by omega
             clear hlt2 hj2 hacc2 hje HI2
             go_wp2_with fail
             clear cf hjn
             case roundEnd =>
              refine ⟨⟨k + 1, _, _, _, hlt, by rw [show (k : Int) + 1 = ((k + 1 : Nat) : Int) by omega], rfl, ?_⟩, ?_⟩
              · show CnO wA _ _ _
                rw [HFL.out]
                have q := HF2.out.out
                rw [HAC2.out, HAC1.out, HAC0.out] at q
                simpa only [List.append_assoc] using q
              · simp [intOf]
                omega
  · have hke : k = un := by omega
    have HF : Hid (CnO wA ((s.pools).flatMap Md.pcalls) (.slice va vn vc) wr) := by
     have q := HA.out
     rw [hke, HUL.out, List.take_length] at q
     exact q
    have hkn : ¬ (k : Int) < (un : Int) := by omega
    clear hlt hkN hke HA
    go_wp2
    go_ret
    exact ⟨_, rfl, HF.out.own.reads encI_len, HBA.out.trans (HF.out.bel.mono HBA.out.size)⟩
end Go.Proofs.Ytaicmiadgnpimaa
namespace Go.Proofs.Ytaicmiadgnpimaa
open Go.RowKit

theorem conns_len {s : Md.State} (hg : Md.Good s) : (Md.conns s).length ≤ 4000000 := by
 have q := flat_len (f := Md.pconns) 250000 s.pools (fun p hp => by
  have hs := good_small hg p hp
  unfold PoolSmall at hs
  unfold Md.pconns
  simp only [List.length_append, List.length_map]
  omega)
 have := hg.len2
 unfold Md.conns
 omega
end Go.Proofs.Ytaicmiadgnpimaa
namespace Go.Proofs.Ytaicmiadgnpimaa
open Go.RowKit
end Go.Proofs.Ytaicmiadgnpimaa
