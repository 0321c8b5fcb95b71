/-
  Walks for layer 26 (model): states that hold; begun, Example, shows of the laws.
-/
import Derived.Test.YtaicmiadgnpimaaMw59
import Derived.Test.YtaicmiadgnpimaaMw56
import Derived.Test.YtaicmiadgnpimaaMgm
namespace Go.Proofs.Ytaicmiadgnpimaa
open Go.RowKit

theorem good_small {s : Md.State} (hg : Md.Good s) : ∀ p ∈ s.pools, PoolSmall p := by
 intro p hp
 obtain ⟨i, hi, rfl⟩ := List.getElem_of_mem hp
 have q := Md.good_limits hg hi
 have hr := hg.rng _ hp
 unfold Md.rangeOk Md.limOk at hr
 simp only [Bool.and_eq_true, decide_eq_true_eq] at hr
 have h1 := q.1
 have h2 := q.2.1
 unfold Md.used at h1
 refine ⟨?_, ?_, ?_, ?_⟩ <;> omega
theorem valS_inj {u v : SlV} (h : valS u = valS v) : u = v := by
 obtain ⟨a, b, c⟩ := u
 obtain ⟨a', b', c'⟩ := v
 unfold valS at h
 injection h with h1 h2 h3
 dsimp only at h1 h2 h3
 rw [h1, h2, h3]
theorem rd_of {w : World} {u : SlV} {ps : List Md.Pool} (h : PoolsAt w (valS u) ps) : ∃ pvs, PoolsRd w u pvs ps := by
 obtain ⟨u', pvs, e, hr⟩ := h.rd
 rw [valS_inj e]
 exact ⟨pvs, hr⟩
theorem pools_len {w : World} {u : SlV} {ps : List Md.Pool} (h : PoolsAt w (valS u) ps) : u.2.1 = ps.length := by
 obtain ⟨pvs, hr⟩ := rd_of h
 exact (read_len hr.1).trans hr.2.1
/-- A state that holds, as it lies. -/
structure Sta (w : World) (u : SlV) (s : Md.State) : Prop where
 good : Md.Good s
 bnd : Md.Bnd s
 lies : PoolsAt w (valS u) s.pools
theorem Sta.below {w w' : World} {u : SlV} {s : Md.State} (h : Sta w u s) (hb : Below w.heap.size w w') : Sta w' u s := ⟨h.good, h.bnd, h.lies.below hb⟩
theorem Sta.len {w : World} {u : SlV} {s : Md.State} (h : Sta w u s) : u.2.1 = s.pools.length := pools_len h.lies
theorem check_g (s : Md.State) (u : SlV) (w : World) (h : Sta w u s) : Calls Try.prog 11 #[.agg #[I64 s.now, .bool s.shut, valS u]] w fun e w' => e = .returned (I64 0) ∧ Below w.heap.size w w' := by
 obtain ⟨pvs, hr⟩ := rd_of h.lies
 have q := check_any s u pvs w hr (good_small h.good) (Nat.le_trans h.good.len2 (by decide)) h.bnd
 rwa [Md.check_ok.2 h.good] at q
theorem outcomes_g (c : Md.Call) (s : Md.State) (u : SlV) (w : World) (h : Sta w u s) : Calls Try.prog 20 #[.agg #[I64 s.now, .bool s.shut, valS u], valCall c] w fun e w' => OutEnd s c w e w' := by
 obtain ⟨pvs, hr⟩ := rd_of h.lies
 exact outcomes_any c s u pvs w hr (good_small h.good) (Nat.le_trans h.good.len2 (by decide)) h.bnd
theorem step_g (c : Md.Call) (s : Md.State) (r : Md.Result) (u : SlV) (w : World) (h : Sta w u s) : Calls Try.prog 21 #[.agg #[I64 s.now, .bool s.shut, valS u], valCall c, agg3 r] w fun e w' => StepEnd s c r w e w' := by
 obtain ⟨pvs, hr⟩ := rd_of h.lies
 exact step_any c s r u pvs w hr (good_small h.good) (Nat.le_trans h.good.len2 (by decide)) h.bnd
theorem where_g (s : Md.State) (u : SlV) (cl : Int) (w : World) (h : Sta w u s) : Calls Try.prog 27 #[.agg #[I64 s.now, .bool s.shut, valS u], I64 cl] w fun e w' => e = .returned (.tuple #[I64 (Md.whereIs s cl).1, I64 (Md.whereIs s cl).2.1, I64 (Md.whereIs s cl).2.2]) ∧ Below w.heap.size w w' := by
 obtain ⟨pvs, hr⟩ := rd_of h.lies
 exact whereIs_any s u pvs cl w hr (good_small h.good) (Nat.le_trans h.good.len2 (by decide)) h.bnd
/-- The cells of a state. -/
def S3 (P : Nat) (nn : Int) (ns : Bool) (v : Value) (w : World) : Prop := w.cell? ⟨P, 0, none⟩ = some (I64 nn) ∧ w.cell? ⟨P, 1, none⟩ = some (.bool ns) ∧ w.cell? ⟨P, 2, none⟩ = some v
theorem S3.new (w : World) (nn : Int) (ns : Bool) (v : Value) : S3 w.heap.size nn ns v (w.alloc (.cells #[I64 nn, .bool ns, v] 26)) := by
 have h := blk_new w (.cells #[I64 nn, .bool ns, v] 26)
 exact ⟨blk_cell h 0, blk_cell h 1, blk_cell h 2⟩
theorem cell_other {w : World} {a b : Addr} {v : Value} (h : a.block ≠ b.block) : (w.setCell b v).cell? a = w.cell? a := World.cell?_of_block (by unfold World.setCell; simp [Array.getElem?_modify, Ne.symm h])
theorem S3.set {P : Nat} {nn : Int} {ns : Bool} {v x : Value} {w : World} (h : S3 P nn ns v w) {a : Addr} (hne : P ≠ a.block) : S3 P nn ns v (w.setCell a x) := by
 obtain ⟨a0, a1, a2⟩ := h
 exact ⟨(cell_other (a := ⟨P, _, none⟩) hne).trans a0, (cell_other (a := ⟨P, _, none⟩) hne).trans a1, (cell_other (a := ⟨P, _, none⟩) hne).trans a2⟩
set_option maxHeartbeats 8000000 in
set_option maxRecDepth 100000 in
set_option linter.unusedVariables false in
set_option linter.unusedSimpArgs false in
theorem begun_ok (l : List Md.Lim) (u : SlV) (w : World) (h : ReadsL 4 encLim w (valS u) l) (hE : (Md.new l).2 = 0) :
 Calls Try.prog 8 #[valS u] w fun e w' => ∃ u' : SlV, e = .returned (.tuple #[.agg #[I64 (Md.new l).1.now, .bool (Md.new l).1.shut, valS u'], .bool true]) ∧ (∀ w2, Gb (fun i => i < w.heap.size) w' w2 → PoolsAt w2 (valS u') (Md.new l).1.pools) ∧ Below w.heap.size w w' := by
 have hal := (Below.refl w.heap.size w).alloc (Nat.le_refl _) (.cells #[I64 0, .bool false, .slice none 0 0] 26)
 have hz := blk_new w (.cells #[I64 0, .bool false, .slice none 0 0] 26)
 obtain ⟨wA, hwA⟩ : ∃ x, x = w.alloc (.cells #[I64 0, .bool false, .slice none 0 0] 26) := ⟨_, rfl⟩
 obtain ⟨B, hB⟩ : ∃ x, x = w.heap.size := ⟨_, rfl⟩
 rw [← hwA] at hal hz
 rw [← hB] at hz
 have HBA := Lib.hid hal
 have HBs := Lib.hid hB
 have HZ := Lib.hid hz
 have HN := Lib.hid (new_any l u wA (h.below hal))
 have HUL := Lib.hid (read_len h)
 unfold NewEnd at HN
 rw [hE] at HN
 have HPL : Hid ((Md.new l).1.pools.length = l.length) := (Md.new_good hE).2.1
 obtain ⟨⟨nn, ns, np⟩, hst⟩ : ∃ x, x = (Md.new l).1 := ⟨_, rfl⟩
 rw [← hst] at HN ⊢ HPL
 obtain ⟨ua, un, uc⟩ := u
 unfold valS at *
 dsimp only at *
 clear hal hz h hst hE
 go_enter Try.func8, Try.ntmps8
 go_wp2_with fail
 simp only [← hwA, ← hB]
 clear hwA hB
 refine HN.out.mono ?_
 rintro e w2 ⟨⟨pa, pn, pc⟩, rfl, hv, hb2⟩
 dsimp only
 have hpn : pn = un := by
  have q := pools_len (hv w2 (.refl _ _))
  have q2 := HUL.out
  have q3 := HPL.out
  dsimp only at q q2
  omega
 subst hpn
 have HV := Lib.hid hv
 have hz2 := (hb2.block _ (lt_of_block HZ.out)).trans HZ.out
 have hal3 := (Below.refl w2.heap.size w2).alloc (Nat.le_refl _) (.cells #[I64 nn, .bool ns, .slice pa pn pc] 26)
 have hz3 := (hal3.block _ (lt_of_block hz2)).trans hz2
 have HB3 := Lib.hid ((hb2.trans (hal3.mono hb2.size)))
 have HLT := Lib.hid (lt_of_block hz2)
 obtain ⟨P, hP⟩ : ∃ x, x = w2.heap.size := ⟨_, rfl⟩
 have HP := Lib.hid hP
 have HS3 := Lib.hid (S3.new w2 nn ns (.slice pa pn pc))
 rw [← hP] at HS3
 have HZ3 := Lib.hid hz3
 clear hz2 hal3 hv hb2
 have y0 := blk_cell hz3 0
 have y1 := blk_cell hz3 1
 have y2 := blk_cell hz3 2
 have fy0 := blk_free hz3 0
 have fy1 := blk_free hz3 1
 have fy2 := blk_free hz3 2
 simp only [List.getElem?_toArray, List.getElem?_cons_succ, List.getElem?_cons_zero] at y0 y1 y2
 clear hz3
 go_wp2_with fail
 simp only [← hP]
 clear hP
 refine wp_region_held_drew (S := S3 P nn ns (.slice pa pn pc)) (by kernel_rfl) HS3.out (fun hHeld => ?_)
 refine tk 0 (v := ?vv0_1) (dropAt rfl) (Or.inl ⟨by rfl, ?hv0_1⟩) hHeld ?rv0_1
 case hv0_1 => (intro w hSw; obtain ⟨s0, s1, s2⟩ := hSw; go_simp; first | done | with_reducible rfl)
 try simp only [Act.put, pu2, pu3, pu4]
 refine tk 1 (v := ?vv1_2) (dropAt rfl) (Or.inl ⟨by rfl, ?hv1_2⟩) hHeld ?rv1_2
 case hv1_2 => (intro w hSw; obtain ⟨s0, s1, s2⟩ := hSw; go_simp; first | done | with_reducible rfl)
 try simp only [Act.put, pu2, pu3, pu4]
 refine tk 2 (v := ?vv2_3) (dropAt rfl) (Or.inl ⟨by rfl, ?hv2_3⟩) hHeld ?rv2_3
 case hv2_3 => (intro w hSw; obtain ⟨s0, s1, s2⟩ := hSw; go_simp; first | done | with_reducible rfl)
 try simp only [Act.put, pu2, pu3, pu4]
 refine tk 3 (v := ?vv3_4) (dropAt rfl) (Or.inl ⟨by rfl, ?hv3_4⟩) hHeld ?rv3_4
 case hv3_4 => (intro w hSw; obtain ⟨s0, s1, s2⟩ := hSw; go_simp; first | done | with_reducible rfl)
 try simp only [Act.put, pu2, pu3, pu4]
 refine tk 4 (v := ?vv4_5) (dropAt rfl) (Or.inl ⟨by rfl, ?hv4_5⟩) hHeld ?rv4_5
 case hv4_5 => (intro w hSw; obtain ⟨s0, s1, s2⟩ := hSw; go_simp; first | done | with_reducible rfl)
 try simp only [Act.put, pu2, pu3, pu4]
 refine tk 5 (v := ?vv5_6) (dropAt rfl) (Or.inl ⟨by rfl, ?hv5_6⟩) hHeld ?rv5_6
 case hv5_6 => (intro w hSw; obtain ⟨s0, s1, s2⟩ := hSw; go_simp; first | done | with_reducible rfl)
 try simp only [Act.put, pu2, pu3, pu4]
 refine tk 6 (v := ?vv6_7) (dropAt rfl) (Or.inl ⟨by rfl, ?hv6_7⟩) hHeld ?rv6_7
 case hv6_7 => (intro w hSw; obtain ⟨s0, s1, s2⟩ := hSw; go_simp; first | done | with_reducible rfl)
 try simp only [Act.put, pu2, pu3, pu4]
 refine tk 7 (v := ?vv7_8) (dropAt rfl) (Or.inl ⟨by rfl, ?hv7_8⟩) hHeld ?rv7_8
 case hv7_8 => (intro w hSw; obtain ⟨s0, s1, s2⟩ := hSw; go_simp; first | done | with_reducible rfl)
 try simp only [Act.put, pu2, pu3, pu4]
 refine tk 8 (v := ?vv8_9) (dropAt rfl) (Or.inl ⟨by rfl, ?hv8_9⟩) hHeld ?rv8_9
 case hv8_9 => (intro w hSw; obtain ⟨s0, s1, s2⟩ := hSw; go_simp; first | done | with_reducible rfl)
 try simp only [Act.put, pu2, pu3, pu4]
 refine tk 9 (v := ?vv9_10) (dropAt rfl) (Or.inl ⟨by rfl, ?hv9_10⟩) hHeld ?rv9_10
 case hv9_10 => (intro w hSw; obtain ⟨s0, s1, s2⟩ := hSw; go_simp; first | done | with_reducible rfl)
 try simp only [Act.put, pu2, pu3, pu4]
 refine tk 10 (v := ?vv10_11) (dropAt rfl) (Or.inl ⟨by rfl, ?hv10_11⟩) hHeld ?rv10_11
 case hv10_11 => (intro w hSw; obtain ⟨s0, s1, s2⟩ := hSw; go_simp; first | done | with_reducible rfl)
 try simp only [Act.put, pu2, pu3, pu4]
 have HS4 : Hid (S3 P nn ns (.slice pa pn pc) ((((w2.alloc (.cells #[I64 nn, .bool ns, .slice pa pn pc] 26)).drew.setCell ⟨B, 0, none⟩ (I64 nn)).setCell ⟨B, 1, none⟩ (.bool ns)).setCell ⟨B, 2, none⟩ (.slice pa pn pc))) := by
  have hne : P ≠ B := by have := HLT.out; have := HP.out; omega
  exact (((show S3 P nn ns (.slice pa pn pc) ((w2.alloc (.cells #[I64 nn, .bool ns, .slice pa pn pc] 26))).drew from HS3.out).set (a := ⟨B, 0, none⟩) hne).set (a := ⟨B, 1, none⟩) hne).set (a := ⟨B, 2, none⟩) hne
 refine wpAnyH_ready (rs := [11]) (by kernel_rfl) (by simp) ?_
 refine AllReadyH.cons (o := _) (dropAt (r := _) rfl) (fun K hK => ?_) AllReadyH.nil
 go_simp
 refine hK.out _ _ HS4.out (fun hHeld2 => ?_)
 clear hK K
 try simp only [Act.put, pu2, pu3, pu4]
 refine tk 12 (v := ?vv12_12) (dropAt rfl) (Or.inl ⟨by rfl, ?hv12_12⟩) hHeld2 ?rv12_12
 case hv12_12 => (intro w hSw; go_simp; first | done | with_reducible rfl)
 try simp only [Act.put, pu2, pu3, pu4]
 refine wpAnyH_done (by kernel_rfl) ?_ _
 go_wp2_with fail
 have hfinz := (blk_set (blk_set (blk_set (show ((w2.alloc (.cells #[I64 nn, .bool ns, .slice pa pn pc] 26))).drew.heap[B]? = _ from HZ3.out) 0 (I64 nn)) 1 (.bool ns)) 2 (.slice pa pn pc))
 have z0 := blk_cell hfinz 0
 have z1 := blk_cell hfinz 1
 have z2 := blk_cell hfinz 2
 simp only [List.setIfInBounds_toArray, List.set_cons_zero, List.set_cons_succ, List.getElem?_toArray, List.getElem?_cons_succ, List.getElem?_cons_zero] at z0 z1 z2
 clear hfinz
 refine bodyPost_ret (v := .tuple #[.agg #[I64 nn, .bool ns, .slice pa pn pc], .bool true]) (by rw [results_cell_tmp1 rfl]; go_simp) rfl ?_
 have hle : w.heap.size ≤ B := by have := HBs.out; omega
 have hle2 := lt_of_block HZ.out
 refine ⟨(pa, pn, pc), rfl, fun w4 h4 => HV.out w4 (Gb.trans ?_ (h4.mono (fun _ _ q => Nat.lt_of_lt_of_le q HBA.out.size))), ?_⟩
 · exact (((((Gb.of_below ((Below.refl w2.heap.size w2).alloc (Nat.le_refl _) (.cells #[I64 nn, .bool ns, .slice pa pn pc] 26))).trans (Gb.of_below (Below.refl _ _).drew)).setCell (x := ⟨B, 0, none⟩) hle2 _).setCell (x := ⟨B, 1, none⟩) hle2 _).setCell (x := ⟨B, 2, none⟩) hle2 _)
 · exact (((((HBA.out.trans (HB3.out.mono HBA.out.size)).drew).setCell (p := ⟨B, 0, none⟩) hle _).setCell (p := ⟨B, 1, none⟩) hle _).setCell (p := ⟨B, 2, none⟩) hle _)
set_option maxHeartbeats 8000000 in
set_option maxRecDepth 100000 in
set_option linter.unusedVariables false in
set_option linter.unusedSimpArgs false in
theorem begun_no (l : List Md.Lim) (u : SlV) (w : World) (h : ReadsL 4 encLim w (valS u) l) (hE : (Md.new l).2 ≠ 0) :
 Calls Try.prog 8 #[valS u] w fun e w' => ∃ u' : SlV, e = .returned (.tuple #[.agg #[I64 (Md.new l).1.now, .bool (Md.new l).1.shut, valS u'], .bool false]) ∧ (∀ w2, Gb (fun i => i < w.heap.size) w' w2 → PoolsAt w2 (valS u') (Md.new l).1.pools) ∧ Below w.heap.size w w' := by
 have hal := (Below.refl w.heap.size w).alloc (Nat.le_refl _) (.cells #[I64 0, .bool false, .slice none 0 0] 26)
 have hz := blk_new w (.cells #[I64 0, .bool false, .slice none 0 0] 26)
 obtain ⟨wA, hwA⟩ : ∃ x, x = w.alloc (.cells #[I64 0, .bool false, .slice none 0 0] 26) := ⟨_, rfl⟩
 obtain ⟨B, hB⟩ : ∃ x, x = w.heap.size := ⟨_, rfl⟩
 rw [← hwA] at hal hz
 rw [← hB] at hz
 have HBA := Lib.hid hal
 have HBs := Lib.hid hB
 have HZ := Lib.hid hz
 have HN := Lib.hid (new_any l u wA (h.below hal))
 have HUL := Lib.hid (read_len h)
 unfold NewEnd at HN
 obtain ⟨E, hEq⟩ : ∃ x, x = (Md.new l).2 := ⟨_, rfl⟩
 rw [← hEq] at HN hE
 have z0 : ((E : Int) == 0) = false := by rw [beq_eq_false_iff_ne]; exact hE
 clear hEq
 obtain ⟨⟨nn, ns, np⟩, hst⟩ : ∃ x, x = (Md.new l).1 := ⟨_, rfl⟩
 rw [← hst] at HN ⊢
 obtain ⟨ua, un, uc⟩ := u
 unfold valS at *
 dsimp only at *
 clear hal hz h hst hE
 go_enter Try.func8, Try.ntmps8
 go_wp2_with fail
 simp only [← hwA, ← hB]
 clear hwA hB
 refine HN.out.mono ?_
 rintro e w2 ⟨⟨pa, pn, pc⟩, rfl, hv, hb2⟩
 dsimp only
 have HV := Lib.hid hv
 have hz2 := (hb2.block _ (lt_of_block HZ.out)).trans HZ.out
 have hal3 := (Below.refl w2.heap.size w2).alloc (Nat.le_refl _) (.cells #[I64 nn, .bool ns, .slice pa pn pc] 26)
 have hz3 := (hal3.block _ (lt_of_block hz2)).trans hz2
 have HB3 := Lib.hid ((hb2.trans (hal3.mono hb2.size)))
 have HLT := Lib.hid (lt_of_block hz2)
 obtain ⟨P, hP⟩ : ∃ x, x = w2.heap.size := ⟨_, rfl⟩
 have HP := Lib.hid hP
 have HS3 := Lib.hid (S3.new w2 nn ns (.slice pa pn pc))
 rw [← hP] at HS3
 have HZ3 := Lib.hid hz3
 clear hz2 hal3 hv hb2
 have y0 := blk_cell hz3 0
 have y1 := blk_cell hz3 1
 have y2 := blk_cell hz3 2
 have fy0 := blk_free hz3 0
 have fy1 := blk_free hz3 1
 have fy2 := blk_free hz3 2
 simp only [List.getElem?_toArray, List.getElem?_cons_succ, List.getElem?_cons_zero] at y0 y1 y2
 clear hz3
 go_wp2_with fail
 simp only [← hP]
 clear hP
 refine wp_region_held_drew (S := S3 P nn ns (.slice pa pn pc)) (by kernel_rfl) HS3.out (fun hHeld => ?_)
 refine tk 0 (v := ?vv0_13) (dropAt rfl) (Or.inl ⟨by rfl, ?hv0_13⟩) hHeld ?rv0_13
 case hv0_13 => (intro w hSw; obtain ⟨s0, s1, s2⟩ := hSw; go_simp; first | done | with_reducible rfl)
 try simp only [Act.put, pu2, pu3, pu4]
 refine tk 1 (v := ?vv1_14) (dropAt rfl) (Or.inl ⟨by rfl, ?hv1_14⟩) hHeld ?rv1_14
 case hv1_14 => (intro w hSw; obtain ⟨s0, s1, s2⟩ := hSw; go_simp; first | done | with_reducible rfl)
 try simp only [Act.put, pu2, pu3, pu4]
 refine tk 2 (v := ?vv2_15) (dropAt rfl) (Or.inl ⟨by rfl, ?hv2_15⟩) hHeld ?rv2_15
 case hv2_15 => (intro w hSw; obtain ⟨s0, s1, s2⟩ := hSw; go_simp; first | done | with_reducible rfl)
 try simp only [Act.put, pu2, pu3, pu4]
 refine tk 3 (v := ?vv3_16) (dropAt rfl) (Or.inl ⟨by rfl, ?hv3_16⟩) hHeld ?rv3_16
 case hv3_16 => (intro w hSw; obtain ⟨s0, s1, s2⟩ := hSw; go_simp; first | done | with_reducible rfl)
 try simp only [Act.put, pu2, pu3, pu4]
 refine tk 4 (v := undef) (dropAt rfl) (Or.inr ⟨rfl, rfl⟩) hHeld ?_
 try simp only [Act.put, pu2, pu3, pu4]
 refine tk 5 (v := undef) (dropAt rfl) (Or.inr ⟨rfl, rfl⟩) hHeld ?_
 try simp only [Act.put, pu2, pu3, pu4]
 refine tk 6 (v := undef) (dropAt rfl) (Or.inr ⟨rfl, rfl⟩) hHeld ?_
 try simp only [Act.put, pu2, pu3, pu4]
 refine tk 7 (v := undef) (dropAt rfl) (Or.inr ⟨rfl, rfl⟩) hHeld ?_
 try simp only [Act.put, pu2, pu3, pu4]
 refine tk 8 (v := undef) (dropAt rfl) (Or.inr ⟨rfl, rfl⟩) hHeld ?_
 try simp only [Act.put, pu2, pu3, pu4]
 refine tk 9 (v := undef) (dropAt rfl) (Or.inr ⟨rfl, rfl⟩) hHeld ?_
 try simp only [Act.put, pu2, pu3, pu4]
 refine tk 10 (v := ?vv10_17) (dropAt rfl) (Or.inl ⟨by rfl, ?hv10_17⟩) hHeld ?rv10_17
 case hv10_17 => (intro w hSw; obtain ⟨s0, s1, s2⟩ := hSw; go_simp; first | done | with_reducible rfl)
 try simp only [Act.put, pu2, pu3, pu4]
 have HS4 : Hid (S3 P nn ns (.slice pa pn pc) ((((w2.alloc (.cells #[I64 nn, .bool ns, .slice pa pn pc] 26)).drew.setCell ⟨B, 0, none⟩ (I64 nn)).setCell ⟨B, 1, none⟩ (.bool ns)).setCell ⟨B, 2, none⟩ (.slice pa pn pc))) := by
  have hne : P ≠ B := by have := HLT.out; have := HP.out; omega
  exact (((show S3 P nn ns (.slice pa pn pc) ((w2.alloc (.cells #[I64 nn, .bool ns, .slice pa pn pc] 26))).drew from HS3.out).set (a := ⟨B, 0, none⟩) hne).set (a := ⟨B, 1, none⟩) hne).set (a := ⟨B, 2, none⟩) hne
 refine wpAnyH_ready (rs := [11]) (by kernel_rfl) (by simp) ?_
 refine AllReadyH.cons (o := _) (dropAt (r := _) rfl) (fun K hK => ?_) AllReadyH.nil
 go_simp
 refine hK.out _ _ HS4.out (fun hHeld2 => ?_)
 clear hK K
 try simp only [Act.put, pu2, pu3, pu4]
 refine tk 12 (v := ?vv12_18) (dropAt rfl) (Or.inl ⟨by rfl, ?hv12_18⟩) hHeld2 ?rv12_18
 case hv12_18 => (intro w hSw; go_simp; first | done | with_reducible rfl)
 try simp only [Act.put, pu2, pu3, pu4]
 refine wpAnyH_done (by kernel_rfl) ?_ _
 go_wp2_with fail
 have hfinz := (blk_set (blk_set (blk_set (show ((w2.alloc (.cells #[I64 nn, .bool ns, .slice pa pn pc] 26))).drew.heap[B]? = _ from HZ3.out) 0 (I64 nn)) 1 (.bool ns)) 2 (.slice pa pn pc))
 have z0 := blk_cell hfinz 0
 have z1 := blk_cell hfinz 1
 have z2 := blk_cell hfinz 2
 simp only [List.setIfInBounds_toArray, List.set_cons_zero, List.set_cons_succ, List.getElem?_toArray, List.getElem?_cons_succ, List.getElem?_cons_zero] at z0 z1 z2
 clear hfinz
 refine bodyPost_ret (v := .tuple #[.agg #[I64 nn, .bool ns, .slice pa pn pc], .bool false]) (by rw [results_cell_tmp1 rfl]; go_simp) rfl ?_
 have hle : w.heap.size ≤ B := by have := HBs.out; omega
 have hle2 := lt_of_block HZ.out
 refine ⟨(pa, pn, pc), rfl, fun w4 h4 => HV.out w4 (Gb.trans ?_ (h4.mono (fun _ _ q => Nat.lt_of_lt_of_le q HBA.out.size))), ?_⟩
 · exact (((((Gb.of_below ((Below.refl w2.heap.size w2).alloc (Nat.le_refl _) (.cells #[I64 nn, .bool ns, .slice pa pn pc] 26))).trans (Gb.of_below (Below.refl _ _).drew)).setCell (x := ⟨B, 0, none⟩) hle2 _).setCell (x := ⟨B, 1, none⟩) hle2 _).setCell (x := ⟨B, 2, none⟩) hle2 _)
 · exact (((((HBA.out.trans (HB3.out.mono HBA.out.size)).drew).setCell (p := ⟨B, 0, none⟩) hle _).setCell (p := ⟨B, 1, none⟩) hle _).setCell (p := ⟨B, 2, none⟩) hle _)
def exLims : List Md.Lim := [⟨1, 1, 10, 100⟩]
theorem example_any (w : World) : Calls Try.prog 25 #[] w fun e w' => ∃ u : SlV, e = .returned (valS u) ∧ ReadsL 4 encLim w' (valS u) exLims ∧ Below w.heap.size w w' := by
 have hal := (Below.refl w.heap.size w).alloc (Nat.le_refl _) (.cells #[I64 1, I64 1, I64 10, I64 100] 42)
 have hb := blk_new w (.cells #[I64 1, I64 1, I64 10, I64 100] 42)
 go_enter Try.func25, Try.ntmps25
 go_wp2
 go_ret
 refine ⟨(some ⟨w.heap.size, 0, none⟩, 1, 1), rfl, .inr ⟨w.heap.size, 0, 1, rfl, by simp, fun j hj i u hu => ?_⟩, hal⟩
 have hj0 : j = 0 := by simp [exLims] at hj; omega
 subst hj0
 have q := blk_cell hb i
 have e : (encLim (exLims[0]'hj))[i]? = (#[I64 1, I64 1, I64 10, I64 100] : Array Value)[i]? := by simp [exLims, encLim]
 rw [e] at hu
 rw [show (0 + 0 * 4 + i) = i by omega]
 exact q.trans hu
end Go.Proofs.Ytaicmiadgnpimaa
namespace Go.Proofs.Ytaicmiadgnpimaa
open Go.RowKit

/-- What lies in block P stays, if only other blocks change. -/
theorem S3.gb {P : Nat} {nn : Int} {ns : Bool} {v : Value} {w w1 : World} {S : Nat → Prop} (h : S3 P nn ns v w) (hg : Gb S w w1) (hn : ¬ S P) : S3 P nn ns v w1 := by
 obtain ⟨a0, a1, a2⟩ := h
 exact ⟨(hg.cell (a := ⟨P, _, none⟩) (cell_lt a0) hn).trans a0, (hg.cell (a := ⟨P, _, none⟩) (cell_lt a0) hn).trans a1, (hg.cell (a := ⟨P, _, none⟩) (cell_lt a0) hn).trans a2⟩
theorem reads_gb {α : Type} {n : Nat} {enc : α → List Value} {w w1 : World} {v : Value} {l : List α} {S : Nat → Prop} (h : ReadsL n enc w v l) (hb : Below w.heap.size w w1) {w2 : World} (hg : Gb S w1 w2) (hn : ∀ i, i < w.heap.size → ¬ S i) : ReadsL n enc w2 v l := by
 have h1 := h.below hb
 rcases h with ⟨a, cap, e1, e2⟩ | ⟨b, o, cap, e1, e2, e3⟩
 · exact .inl ⟨a, cap, e1, e2⟩
 · refine .inr ⟨b, o, cap, e1, Nat.lt_of_lt_of_le e2 (Nat.le_trans hb.size hg.size), fun j hj i u hu => ?_⟩
   exact (hg.cell (a := ⟨b, _, none⟩) (Nat.lt_of_lt_of_le e2 hb.size) (hn b e2)).trans ((hb.cell (p := ⟨b, _, none⟩) e2).trans (e3 j hj i u hu))
set_option maxHeartbeats 8000000 in
set_option maxRecDepth 100000 in
set_option linter.unusedVariables false in
set_option linter.unusedSimpArgs false in
theorem shows_ok (c : Md.Call) (s s' : Md.State) (r : Md.Result) (es : List Md.Effect) (u v : SlV) (w : World) (h : Sta w u s) (hst : Md.step s c r = (s', es, 0)) (hv : ReadsL 4 encEff w (valS v) es) (hel : es.length ≤ 4294967296) :
 Calls Try.prog 26 #[.agg #[I64 s.now, .bool s.shut, valS u], valCall c, agg3 r, valS v] w fun e w' => ∃ u' : SlV, e = .returned (.tuple #[.agg #[I64 s'.now, .bool s'.shut, valS u'], .bool true]) ∧ (∀ w2, Gb (fun i => i < w.heap.size) w' w2 → PoolsAt w2 (valS u') s'.pools) ∧ Below w.heap.size w w' := by
 obtain ⟨hbA, hcc⟩ := st_new s u c r w
 unfold OB3 OB8 OB1 OBZ at hbA hcc
 obtain ⟨⟨ua, un, uc⟩, hu0⟩ : ∃ x, x = u := ⟨_, rfl⟩
 obtain ⟨⟨va, vn, vc⟩, hv0⟩ : ∃ x, x = v := ⟨_, rfl⟩
 obtain ⟨⟨r1, r2, r3⟩, hr0⟩ : ∃ x, x = r := ⟨_, rfl⟩
 obtain ⟨wA, hwA⟩ : ∃ x, x = (((w.alloc (.cells #[I64 s.now, .bool s.shut, valS u] 26)).alloc (.cells #[I64 c.kind, I64 c.backend, I64 c.call, I64 c.conn, I64 c.time, .bool c.yes, I64 c.skip, I64 c.breaker] 36)).alloc (.cells #[I64 r.1, I64 r.2.1, I64 r.2.2] 31)).alloc (.cells #[I64 0, .bool false, .slice none 0 0] 26) := ⟨_, rfl⟩
 obtain ⟨B, hB⟩ : ∃ x, x = w.heap.size := ⟨_, rfl⟩
 have hBA3 : B + 3 < wA.heap.size := by rw [hB, hwA]; simp
 rw [← hwA] at hbA hcc
 have HBA := Lib.hid hbA
 have HBs := Lib.hid hB
 have HBA3 := Lib.hid hBA3
 rw [← hB] at hcc
 have HCC := Lib.hid hcc
 obtain ⟨⟨o0, o1, o2, o3, o4, o5, o6, o7, o8, o9, o10⟩, ⟨q0, q1, q2⟩, hz⟩ := hcc wA (.refl _ _)
 have HZ := Lib.hid hz
 have HST := Lib.hid (step_g c s r u wA (h.below hbA))
 unfold StepEnd at HST
 rw [hst] at HST
 have HV := Lib.hid hv
 subst hu0
 subst hv0
 subst hr0
 unfold agg3 valCall at *
 unfold valS at *
 dsimp only at *
 clear hbA hcc h hst hv hBA3 hz
 go_enter Try.func26, Try.ntmps26
 go_wp2_with fail
 simp only [← hwA, ← hB]
 clear hwA hB
 refine HST.out.mono ?_
 rintro e w2 ⟨⟨pa, pn, pc⟩, ⟨ea, en, ec⟩, rfl, hx, hb2⟩
 dsimp only at hx ⊢
 have HX := Lib.hid hx
 obtain ⟨nn, hnn⟩ : ∃ x, x = s'.now := ⟨_, rfl⟩
 obtain ⟨ns, hns⟩ : ∃ x, x = s'.shut := ⟨_, rfl⟩
 rw [← hnn, ← hns]
 have HNN := Lib.hid hnn
 have HNS := Lib.hid hns
 clear hnn hns
 have hz2 := (hb2.block _ HBA3.out).trans HZ.out
 have hal3 := (Below.refl w2.heap.size w2).alloc (Nat.le_refl _) (.cells #[I64 nn, .bool ns, .slice pa pn pc] 26)
 have hz3 := (hal3.block _ (lt_of_block hz2)).trans hz2
 have HB3 := Lib.hid ((hb2.trans (hal3.mono hb2.size)))
 have HLT := Lib.hid (lt_of_block hz2)
 have HAL := Lib.hid hal3
 obtain ⟨P, hP⟩ : ∃ x, x = w2.heap.size := ⟨_, rfl⟩
 have HP := Lib.hid hP
 have hs3 := S3.new w2 nn ns (.slice pa pn pc)
 rw [← hP] at hs3
 have HS3 := Lib.hid hs3
 have HZ3 := Lib.hid hz3
 have hB2 := hb2.size
 have HB2 := Lib.hid hb2
 have HRE : Hid (∀ w1, Gb (fun i => i = B + 3) (w2.alloc (.cells #[I64 nn, .bool ns, .slice pa pn pc] 26)) w1 → ReadsL 4 encEff w1 (.slice ea en ec) es ∧ ReadsL 4 encEff w1 (.slice va vn vc) es) := fun w1 hg => by
  have hbs := HBs.out
  have h3 := HBA3.out
  refine ⟨(hx w1 ((Gb.of_below hal3).trans (hg.mono (fun i _ q => by omega)))).2, ?_⟩
  exact reads_gb HV.out (HBA.out.trans (HB3.out.mono HBA.out.size)) hg (fun i hi q => by omega)
 have HSM : Hid (∀ w1, Gb (fun i => i = B + 3) (w2.alloc (.cells #[I64 nn, .bool ns, .slice pa pn pc] 26)) w1 → Calls Try.prog 23 #[.slice ea en ec, .slice va vn vc] w1 fun e w' => e = .returned (.bool true) ∧ Below w1.heap.size w1 w') := fun w1 hg => by
  have q := sameE_any _ _ es es w1 (HRE.out w1 hg).1 (HRE.out w1 hg).2 hel hel
  rwa [decide_eq_true (rfl : es = es)] at q
 have HCL : Hid (∀ w1, Gb (fun i => i = B + 3) (w2.alloc (.cells #[I64 nn, .bool ns, .slice pa pn pc] 26)) w1 → S3 P nn ns (.slice pa pn pc) w1) := fun w1 hg => HS3.out.gb hg (by have := HLT.out; have := HP.out; omega)
 clear hz2 hal3 hx hb2 hs3 hz3 hB2
 clear o0 o1 o2 o3 o4 o5 o6 o7 o8 o9 o10 q0 q1 q2
 go_wp2_with fail
 simp only [← hP]
 clear hP
 refine wp_region_held_drew (S := fun w1 => Hid (Gb (fun i => i = B + 3) (w2.alloc (.cells #[I64 nn, .bool ns, .slice pa pn pc] 26)) w1)) (by kernel_rfl) ((Gb.of_below (Below.refl _ _).drew)) (fun hHeld => ?_)
 refine tk 0 (v := ?vv0_1) (dropAt rfl) (Or.inl ⟨by rfl, ?hv0_1⟩) hHeld ?rv0_1
 case hv0_1 => (intro w hSw; obtain ⟨s0, s1, s2⟩ := HCL.out _ hSw.out; go_simp; first | done | with_reducible rfl)
 try simp only [Act.put, pu2, pu3, pu4]
 refine tk 1 (v := ?vv1_2) (dropAt rfl) (Or.inl ⟨by rfl, ?hv1_2⟩) hHeld ?rv1_2
 case hv1_2 => (intro w hSw; obtain ⟨s0, s1, s2⟩ := HCL.out _ hSw.out; go_simp; first | done | with_reducible rfl)
 try simp only [Act.put, pu2, pu3, pu4]
 refine tk 2 (v := ?vv2_3) (dropAt rfl) (Or.inl ⟨by rfl, ?hv2_3⟩) hHeld ?rv2_3
 case hv2_3 => (intro w hSw; obtain ⟨s0, s1, s2⟩ := HCL.out _ hSw.out; go_simp; first | done | with_reducible rfl)
 try simp only [Act.put, pu2, pu3, pu4]
 refine tk 3 (v := ?vv3_4) (dropAt rfl) (Or.inl ⟨by rfl, ?hv3_4⟩) hHeld ?rv3_4
 case hv3_4 => (intro w hSw; obtain ⟨s0, s1, s2⟩ := HCL.out _ hSw.out; go_simp; first | done | with_reducible rfl)
 try simp only [Act.put, pu2, pu3, pu4]
 refine tk 4 (v := ?vv4_5) (dropAt rfl) (Or.inl ⟨by rfl, ?hv4_5⟩) hHeld ?rv4_5
 case hv4_5 => (intro w hSw; obtain ⟨s0, s1, s2⟩ := HCL.out _ hSw.out; go_simp; first | done | with_reducible rfl)
 try simp only [Act.put, pu2, pu3, pu4]
 refine tk 5 (v := ?vv5_6) (dropAt rfl) (Or.inl ⟨by rfl, ?hv5_6⟩) hHeld ?rv5_6
 case hv5_6 => (intro w hSw; obtain ⟨s0, s1, s2⟩ := HCL.out _ hSw.out; go_simp; first | done | with_reducible rfl)
 try simp only [Act.put, pu2, pu3, pu4]
 refine wpAnyH_ready (rs := [6]) (by kernel_rfl) (by simp) ?_
 refine AllReadyH.cons (o := _) (dropAt (r := _) rfl) (fun K hK => ?_) AllReadyH.nil
 go_simp
 refine (HSM.out _ hHeld.out).mono ?_
 rintro e w3 ⟨rfl, hb3⟩
 have hg3 : Hid (Gb (fun i => i = B + 3) (w2.alloc (.cells #[I64 nn, .bool ns, .slice pa pn pc] 26)) w3) := hHeld.out.trans (.of_below hb3)
 refine hK.out _ _ hg3 (fun hHeld3 => ?_)
 clear hK K
 try simp only [Act.put, pu2, pu3, pu4]
 refine tk 7 (v := ?vv7_7) (dropAt rfl) (Or.inl ⟨by rfl, ?hv7_7⟩) hHeld3 ?rv7_7
 case hv7_7 => (intro w hSw; obtain ⟨s0, s1, s2⟩ := HCL.out _ hSw.out; go_simp; first | done | with_reducible rfl)
 try simp only [Act.put, pu2, pu3, pu4]
 have hz4 : w3.heap[B + 3]? = some (.cells #[I64 0, .bool false, .slice none 0 0] 26 (0, 0)) := (hb3.block _ (lt_of_block HZ3.out)).trans HZ3.out
 have HZ4 := Lib.hid hz4
 have HB43 := Lib.hid hb3
 have y0 := blk_cell hz4 0
 have y1 := blk_cell hz4 1
 have y2 := blk_cell hz4 2
 have fy0 := blk_free hz4 0
 have fy1 := blk_free hz4 1
 have fy2 := blk_free hz4 2
 simp only [List.getElem?_toArray, List.getElem?_cons_succ, List.getElem?_cons_zero] at y0 y1 y2
 clear hz4 hb3
 have HS4 : Hid (Gb (fun i => i = B + 3) (w2.alloc (.cells #[I64 nn, .bool ns, .slice pa pn pc] 26)) (((w3.setCell ⟨B + 3, 0, none⟩ (I64 nn)).setCell ⟨B + 3, 1, none⟩ (.bool ns)).setCell ⟨B + 3, 2, none⟩ (.slice pa pn pc))) := (((hg3.out.setCell (x := ⟨B + 3, 0, none⟩) rfl _).setCell (x := ⟨B + 3, 1, none⟩) rfl _).setCell (x := ⟨B + 3, 2, none⟩) rfl _)
 refine wpAnyH_ready (rs := [8]) (by kernel_rfl) (by simp) ?_
 refine AllReadyH.cons (o := _) (dropAt (r := _) rfl) (fun K hK => ?_) AllReadyH.nil
 go_simp
 refine hK.out _ _ HS4 (fun hHeld4 => ?_)
 clear hK K
 try simp only [Act.put, pu2, pu3, pu4]
 refine tk 9 (v := ?vv9_8) (dropAt rfl) (Or.inl ⟨by rfl, ?hv9_8⟩) hHeld4 ?rv9_8
 case hv9_8 => (intro w hSw; go_simp; first | done | with_reducible rfl)
 try simp only [Act.put, pu2, pu3, pu4]
 refine wpAnyH_done (by kernel_rfl) ?_ _
 go_wp2_with fail
 have hfinz := (blk_set (blk_set (blk_set HZ4.out 0 (I64 nn)) 1 (.bool ns)) 2 (.slice pa pn pc))
 have z0 := blk_cell hfinz 0
 have z1 := blk_cell hfinz 1
 have z2 := blk_cell hfinz 2
 simp only [List.setIfInBounds_toArray, List.set_cons_zero, List.set_cons_succ, List.getElem?_toArray, List.getElem?_cons_succ, List.getElem?_cons_zero] at z0 z1 z2
 clear hfinz
 refine bodyPost_ret (v := .tuple #[.agg #[I64 nn, .bool ns, .slice pa pn pc], .bool true]) (by rw [results_cell_tmp1 rfl]; go_simp) rfl ?_
 have hle : w.heap.size ≤ B + 3 := by have := HBs.out; omega
 refine ⟨(pa, pn, pc), by rw [HNN.out, HNS.out], fun w4 h4 => (HX.out w4 ?_).1, ?_⟩
 · refine ((Gb.of_below HAL.out).trans (HS4.out.mono (fun i _ q => ?_))).trans (h4.mono (fun _ _ q => Nat.lt_of_lt_of_le q HBA.out.size))
   have h3 := HBA3.out
   show i < wA.heap.size
   omega
 · have hb4 : Below w.heap.size w w3 := (HBA.out.trans (HB3.out.mono HBA.out.size)).trans (hg3.out.below (by have := HBA.out.size; have := HB3.out.size; omega) (fun i q => by have := HBs.out; omega))
   exact (((hb4.setCell (p := ⟨B + 3, 0, none⟩) hle _).setCell (p := ⟨B + 3, 1, none⟩) hle _).setCell (p := ⟨B + 3, 2, none⟩) hle _)
end Go.Proofs.Ytaicmiadgnpimaa
