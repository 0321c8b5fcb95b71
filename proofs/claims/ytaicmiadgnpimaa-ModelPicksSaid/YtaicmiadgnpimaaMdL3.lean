/-
  The law ModelPicks of layer 26.
-/
import Derived.Test.YtaicmiadgnpimaaMdL0
import Derived.Test.YtaicmiadgnpimaaMw68
import Derived.Deep.DeepCutAuto
import Derived.Deep.CutRange
import Derived.Deep.CutBlock
namespace Go.Proofs.Ytaicmiadgnpimaa
open Go.RowKit

/-- The law's array: the call that each backend's half open breaker waits for. -/
def PrAt (K : Nat) (s : Md.State) (w : World) : Prop := ∃ cs : Array Value, w.heap[K]? = some (.cells cs 60 (0, 0)) ∧ cs.size = 16 ∧ (∀ b, b < 16 → ∃ z, cs[b]? = some (I64 z)) ∧ ∀ b (h : b < s.pools.length), cs[b]? = some (I64 s.pools[b].probe)
theorem PrAt.gb {K : Nat} {s : Md.State} {w w1 : World} {S : Nat → Prop} (h : PrAt K s w) (hg : Gb S w w1) (hn : ¬ S K) : PrAt K s w1 := by
  obtain ⟨cs, h1, h2⟩ := h
  exact ⟨cs, hg.blk h1 hn, h2⟩
/-- Nothing that is waited for changes. -/
theorem PrAt.same {K : Nat} {s t : Md.State} {w : World} (h : PrAt K s w) (he : t.pools.map (·.probe) = s.pools.map (·.probe)) : PrAt K t w := by
  obtain ⟨cs, h1, h2, h3, h4⟩ := h
  refine ⟨cs, h1, h2, h3, fun b hb => ?_⟩
  have hl : t.pools.length = s.pools.length := by simpa using congrArg List.length he
  have hb' : b < s.pools.length := by omega
  have e : t.pools[b].probe = s.pools[b].probe := by
    have q := congrArg (fun l => l[b]?) he
    simpa [hb, hb'] using q
  rw [e]
  exact h4 b hb'
/-- One element is set. -/
theorem PrAt.put {K : Nat} {s t : Md.State} {w : World} {b : Nat} {z : Int} (h : PrAt K s w) (hb : b < s.pools.length) (h16 : s.pools.length ≤ 16) {q : Md.Pool} (he : t.pools = s.pools.set b q) (hq : q.probe = z) : PrAt K t (w.setCell ⟨K, b, none⟩ (I64 z)) := by
  obtain ⟨cs, h1, h2, h3, h4⟩ := h
  refine ⟨cs.setIfInBounds b (I64 z), blk_set h1 b _, by simpa using h2, fun j hj => ?_, fun j hj => ?_⟩
  · by_cases e : b = j
    · subst e
      exact ⟨z, by rw [Array.getElem?_setIfInBounds_self_of_lt (by omega)]⟩
    · obtain ⟨y, hy⟩ := h3 j hj
      exact ⟨y, by rw [Array.getElem?_setIfInBounds_ne e]; exact hy⟩
  · have hj' : j < s.pools.length := by rw [he, List.length_set] at hj; exact hj
    by_cases e : b = j
    · subst e
      rw [Array.getElem?_setIfInBounds_self_of_lt (by omega)]
      simp [he, hq]
    · rw [Array.getElem?_setIfInBounds_ne e, h4 j hj']
      simp [he, e]
theorem one_any (x : Bool) (w : World) : Calls Try.prog 15 #[.bool x] w fun e w' => e = .returned (I64 (if x then 1 else 0)) ∧ w' = w := by
  cases x with
  | true =>
    go_enter Try.func15, Try.ntmps15
    go_wp2
    go_ret
    exact ⟨rfl, rfl⟩
  | false =>
    go_enter Try.func15, Try.ntmps15
    go_wp2
    go_ret
    exact ⟨rfl, rfl⟩
set_option maxHeartbeats 8000000 in
set_option maxRecDepth 100000 in
set_option linter.unusedVariables false in
set_option linter.unusedSimpArgs false in
theorem picks_no (lims : List Md.Lim) (u : SlV) (acts : List (Md.Call × Int)) (v : SlV) (w : World) (h : ReadsL 4 encLim w (valS u) lims) (h2 : ReadsL 9 encAct w (valS v) acts) (hE : (Md.new lims).2 ≠ 0) :
    Calls Try.prog 5 #[valS u, valS v] w fun e w' => e = .returned (.bool true) ∧ Below w.heap.size w w' := by
  have HB := Lib.hid (begun_no lims u w h hE)
  obtain ⟨ua, un, uc⟩ := u
  obtain ⟨va, vn, vc⟩ := v
  have hun := read_len h
  have hvn := read_len h2
  dsimp only at hun hvn
  unfold valS at *
  dsimp only at *
  clear h h2 hE hun hvn
  go_enter Try.func5, Try.ntmps5
  go_wp2_with fail
  refine HB.out.mono ?_
  rintro e w2 ⟨⟨pa, pn, pc⟩, rfl, -, hb2⟩
  dsimp only
  obtain ⟨nn, hnn⟩ : ∃ x, x = (Md.new lims).1.now := ⟨_, rfl⟩
  obtain ⟨ns, hns⟩ : ∃ x, x = (Md.new lims).1.shut := ⟨_, rfl⟩
  rw [← hnn, ← hns]
  clear hnn hns
  have ha := (Below.refl w2.heap.size w2).alloc (Nat.le_refl _) (.cells #[I64 nn, .bool ns, .slice pa pn pc] 26)
  have HA := Lib.hid (hb2.trans (ha.mono hb2.size))
  clear hb2 ha
  go_wp2_with fail
  refine (awake_any _).mono ?_
  rintro e w3 ⟨rfl, hb3⟩
  have HF := Lib.hid (HA.out.trans (hb3.mono HA.out.size))
  clear hb3
  go_wp2
  go_ret
  exact ⟨rfl, HF.out⟩
set_option maxHeartbeats 8000000 in
set_option maxRecDepth 100000 in
set_option linter.unusedVariables false in
set_option linter.unusedSimpArgs false in
theorem picks_far (lims : List Md.Lim) (u : SlV) (acts : List (Md.Call × Int)) (v : SlV) (w : World) (h : ReadsL 4 encLim w (valS u) lims) (h2 : ReadsL 9 encAct w (valS v) acts) (hE : (Md.new lims).2 = 0) (hbig : 80 < acts.length) :
    Calls Try.prog 5 #[valS u, valS v] w fun e w' => e = .returned (.bool true) ∧ Below w.heap.size w w' := by
  have HB := Lib.hid (begun_ok lims u w h hE)
  obtain ⟨ua, un, uc⟩ := u
  obtain ⟨va, vn, vc⟩ := v
  have hun := read_len h
  have hvn := read_len h2
  dsimp only at hun hvn
  have hz1 : decide ((80 : Int) < (vn : Int)) = true := decide_eq_true (by omega)
  unfold valS at *
  dsimp only at *
  clear h h2 hE hun hvn hbig
  go_enter Try.func5, Try.ntmps5
  go_wp2_with fail
  refine HB.out.mono ?_
  rintro e w2 ⟨⟨pa, pn, pc⟩, rfl, -, hb2⟩
  dsimp only
  obtain ⟨nn, hnn⟩ : ∃ x, x = (Md.new lims).1.now := ⟨_, rfl⟩
  obtain ⟨ns, hns⟩ : ∃ x, x = (Md.new lims).1.shut := ⟨_, rfl⟩
  rw [← hnn, ← hns]
  clear hnn hns
  have ha := (Below.refl w2.heap.size w2).alloc (Nat.le_refl _) (.cells #[I64 nn, .bool ns, .slice pa pn pc] 26)
  have HA := Lib.hid (hb2.trans (ha.mono hb2.size))
  clear hb2 ha
  go_wp2_with fail
  refine (awake_any _).mono ?_
  rintro e w3 ⟨rfl, hb3⟩
  have HF := Lib.hid (HA.out.trans (hb3.mono HA.out.size))
  clear hb3
  go_wp2
  go_ret
  exact ⟨rfl, HF.out⟩
theorem new_probes {l : List Md.Lim} (h : (Md.new l).2 = 0) : ∀ b (hb : b < (Md.new l).1.pools.length), (Md.new l).1.pools[b].probe = 0 := by
  have e : (Md.new l).1.pools = l.map Md.fresh := by
    unfold Md.new at h ⊢
    split
    · rename_i hq
      rw [if_pos hq] at h
      exact absurd h (by decide)
    · rename_i hq
      rw [if_neg hq] at h
      split
      · rfl
      · rename_i ha
        rw [if_neg ha] at h
        exact absurd h (by decide)
  intro b hb
  simp only [e, List.getElem_map]
  rfl
set_option maxHeartbeats 8000000 in
set_option maxRecDepth 100000 in
set_option linter.unusedVariables false in
set_option linter.unusedSimpArgs false in
theorem picks_loop (lims : List Md.Lim) (u : SlV) (acts : List (Md.Call × Int)) (v : SlV) (w : World) (h : ReadsL 4 encLim w (valS u) lims) (h2 : ReadsL 9 encAct w (valS v) acts) (hE : (Md.new lims).2 = 0) (hbig : acts.length ≤ 80) (hin : ∀ x ∈ acts, ActIn x) :
    Calls Try.prog 5 #[valS u, valS v] w fun e w' => e = .returned (.bool true) ∧ Below w.heap.size w w' := by
  have HB := Lib.hid (begun_ok lims u w h hE)
  have hsh := new_short hE
  obtain ⟨hgc, hgl, hgm⟩ := Md.new_good hE
  have HG0 := Lib.hid (Md.check_ok.1 hgc)
  have HB0 := Lib.hid (new_bnd hE)
  have HP0 := Lib.hid (new_probes hE)
  obtain ⟨ua, un, uc⟩ := u
  obtain ⟨va, vn, vc⟩ := v
  have hun := read_len h
  have hvn := read_len h2
  dsimp only at hun hvn
  have hz1 : decide ((80 : Int) < (vn : Int)) = false := decide_eq_false (by omega)
  have hz2 : decide ((16 : Int) < (un : Int)) = false := decide_eq_false (by omega)
  have hvn80 : vn ≤ 80 := by omega
  unfold valS at *
  dsimp only at *
  have HV := Lib.hid h2
  have HVN := Lib.hid hvn
  have HIN := Lib.hid hin
  generalize (Md.new lims).1 = s0 at *
  obtain ⟨nn, hnn⟩ : ∃ x, x = s0.now := ⟨_, rfl⟩
  obtain ⟨ns, hns⟩ : ∃ x, x = s0.shut := ⟨_, rfl⟩
  rw [← hnn, ← hns] at HB
  have HNN := Lib.hid hnn
  have HNS := Lib.hid hns
  clear h h2 hE hun hvn hbig hsh hgc hgl hgm hin hnn hns
  go_enter Try.func5, Try.ntmps5
  go_wp2_with fail
  refine HB.out.mono ?_
  rintro e w2 ⟨⟨pa, pn, pc⟩, rfl, hlies, hb2⟩
  dsimp only at hlies ⊢
  obtain ⟨w5, hw5⟩ : ∃ x, x = (w2.alloc (.cells #[I64 nn, .bool ns, .slice pa pn pc] 26)).alloc (.cells #[I64 0, I64 0, I64 0, I64 0, I64 0, I64 0, I64 0, I64 0, I64 0, I64 0, I64 0, I64 0, I64 0, I64 0, I64 0, I64 0] 60) := ⟨_, rfl⟩
  obtain ⟨T, hT⟩ : ∃ x, x = w2.heap.size := ⟨_, rfl⟩
  have H5 : Hid (Below w.heap.size w w5 ∧ LawX w5 (fun i => i = T ∨ i = T + 1) T s0 (pa, pn, pc) w5 ∧ PrAt (T + 1) s0 w5 ∧ w5.heap.size = T + 2 ∧ w.heap.size ≤ T) := by
    have a1 := (Below.refl w2.heap.size w2).alloc (Nat.le_refl _) (.cells #[I64 nn, .bool ns, .slice pa pn pc] 26)
    have a2 := a1.alloc a1.size (.cells #[I64 0, I64 0, I64 0, I64 0, I64 0, I64 0, I64 0, I64 0, I64 0, I64 0, I64 0, I64 0, I64 0, I64 0, I64 0, I64 0] 60)
    have s1 : (w2.alloc (.cells #[I64 nn, .bool ns, .slice pa pn pc] 26)).heap.size = T + 1 := by rw [hT]; simp
    have s2 : ((w2.alloc (.cells #[I64 nn, .bool ns, .slice pa pn pc] 26)).alloc (.cells #[I64 0, I64 0, I64 0, I64 0, I64 0, I64 0, I64 0, I64 0, I64 0, I64 0, I64 0, I64 0, I64 0, I64 0, I64 0, I64 0] 60)).heap.size = T + 2 := by rw [hT]; simp
    have b1 := blk_new w2 (.cells #[I64 nn, .bool ns, .slice pa pn pc] 26)
    have b2 := blk_new (w2.alloc (.cells #[I64 nn, .bool ns, .slice pa pn pc] 26)) (.cells #[I64 0, I64 0, I64 0, I64 0, I64 0, I64 0, I64 0, I64 0, I64 0, I64 0, I64 0, I64 0, I64 0, I64 0, I64 0, I64 0] 60)
    have c2 := (Below.refl (w2.alloc (.cells #[I64 nn, .bool ns, .slice pa pn pc] 26)).heap.size (w2.alloc (.cells #[I64 nn, .bool ns, .slice pa pn pc] 26))).alloc (Nat.le_refl _) (.cells #[I64 0, I64 0, I64 0, I64 0, I64 0, I64 0, I64 0, I64 0, I64 0, I64 0, I64 0, I64 0, I64 0, I64 0, I64 0, I64 0] 60)
    have d1 := (c2.block _ (by rw [s1, hT]; omega)).trans b1
    rw [s1] at b2
    rw [← hw5] at a2 b2 d1 s2
    rw [← hT] at d1
    have hbw := hb2.trans (a2.mono hb2.size)
    refine ⟨hbw, ⟨HG0.out, HB0.out, .inl rfl, by rw [← HNN.out, ← HNS.out]; exact d1, fun w4 hg => hlies w4 ((Gb.of_below a2).then hg (fun i hi q => by rcases q with q | q <;> omega)), .refl _ _⟩, ⟨_, b2, rfl, fun b hb => ?_, fun b hb => ?_⟩, s2, by rw [hT]; exact hb2.size⟩
    · exact ⟨0, by rcases b with _ | _ | _ | _ | _ | _ | _ | _ | _ | _ | _ | _ | _ | _ | _ | _ | b <;> first | rfl | omega⟩
    · have h16 := HG0.out.len2
      rw [HP0.out b hb]
      rcases b with _ | _ | _ | _ | _ | _ | _ | _ | _ | _ | _ | _ | _ | _ | _ | _ | b <;> first | rfl | omega
  clear hlies hb2
  go_wp2_with fail
  simp only [← hw5, ← hT]
  clear hw5 hT
  go_loopw [8, 9, 10, 11, 12, 13, 14, 15] (fun iv _ _ _ _ _ _ _ wr => ∃ i : Nat, ∃ s : Md.State, ∃ xa xn xc, i ≤ vn ∧ iv = .int .i64 i ∧ Hid (LawX w5 (fun i => i = T ∨ i = T + 1) T s (xa, xn, xc) wr) ∧ Hid (PrAt (T + 1) s wr)) (fun iv _ _ _ _ _ _ _ _ => vn - (intOf iv).toNat)
  case atStart => exact ⟨0, s0, pa, pn, pc, Nat.zero_le _, rfl, H5.out.2.1, H5.out.2.2.1⟩
  case round =>
    obtain ⟨i, s, xa, xn, xc, hiN, rfl, HA, HP⟩ := hrel
    by_cases hlt : i < vn
    · have hiv : i < acts.length := by rw [← HVN.out]; exact hlt
      have hbw : Below w.heap.size w wr := H5.out.1.trans (HA.out.gb.below H5.out.1.size (fun j q => by have := H5.out.2.2.2.2; rcases q with q | q <;> omega))
      have HBW := Lib.hid hbw
      obtain ⟨ga, oa, ca, e, _, hca⟩ := HV.out.form (by intro e; rw [e] at hiv; simp at hiv)
      injection e with e1 e2 e3
      replace e1 : va = some ⟨ga, oa, none⟩ := e1
      subst e1
      clear e2 e3
      have hrowa := hca i hiv
      have hx := HIN.out _ (List.getElem_mem hiv)
      generalize acts[i] = x at hrowa hx
      obtain ⟨c, pk⟩ := x
      have hxl : ∀ j v, (encAct (c, pk))[j]? = some v → w.cell? ⟨ga, oa + i * 9 + j, none⟩ = some v := hrowa
      have HXL := Lib.hid hxl
      have HX := Lib.hid hx
      have hal := (Below.refl wr.heap.size wr).alloc (Nat.le_refl _) (.cells #[I64 c.kind, I64 c.backend, I64 c.call, I64 c.conn, I64 c.time, .bool c.yes, I64 c.skip, I64 c.breaker] 36)
      have hn9 := blk_new wr (.cells #[I64 c.kind, I64 c.backend, I64 c.call, I64 c.conn, I64 c.time, .bool c.yes, I64 c.skip, I64 c.breaker] 36)
      obtain ⟨wq, hwq⟩ : ∃ x, x = wr.alloc (.cells #[I64 c.kind, I64 c.backend, I64 c.call, I64 c.conn, I64 c.time, .bool c.yes, I64 c.skip, I64 c.breaker] 36) := ⟨_, rfl⟩
      rw [← hwq] at hal hn9
      obtain ⟨C9, hC9⟩ : ∃ x, x = wr.heap.size := ⟨_, rfl⟩
      rw [← hC9] at hn9
      have HAL := Lib.hid hal
      have HC9 := Lib.hid hC9
      have HN9 := Lib.hid hn9
      have HCC : Hid (∀ w1, Below w.heap.size w w1 → C8 ga (oa + i * 9) c w1 ∧ w1.cell? ⟨ga, oa + i * 9 + 8, none⟩ = some (.int .u8 pk)) := fun w1 hb1 => by
        have hcc : ∀ j v, (encAct (c, pk))[j]? = some v → w1.cell? ⟨ga, oa + i * 9 + j, none⟩ = some v := fun j v hv => (hb1.cell (p := ⟨ga, _, none⟩) (cell_lt (HXL.out j v hv))).trans (HXL.out j v hv)
        exact ⟨⟨hcc 0 _ rfl, hcc 1 _ rfl, hcc 2 _ rfl, hcc 3 _ rfl, hcc 4 _ rfl, hcc 5 _ rfl, hcc 6 _ rfl, hcc 7 _ rfl⟩, hcc 8 _ rfl⟩
      have HAQ : Hid (LawX w5 (fun i => i = T ∨ i = T + 1) T s (xa, xn, xc) wq) := HA.out.below hal
      have HCL : Hid (∀ w1, Below wq.heap.size wq w1 → S3 T s.now s.shut (.slice xa xn xc) w1 ∧ C8 ga (oa + i * 9) c w1 ∧ w1.cell? ⟨ga, oa + i * 9 + 8, none⟩ = some (.int .u8 pk)) := fun w1 h1 => by
        have b0 := (h1.block _ (lt_of_block HAQ.out.st)).trans HAQ.out.st
        have hb1 := HBW.out.trans ((HAL.out.trans (h1.mono HAL.out.size)).mono HBW.out.size)
        exact ⟨⟨blk_cell b0 0, blk_cell b0 1, blk_cell b0 2⟩, HCC.out w1 hb1⟩
      have HPL : Hid (∀ w1, Below wq.heap.size wq w1 → Calls Try.prog 10 #[.agg #[I64 s.now, .bool s.shut, .slice xa xn xc], .agg #[I64 c.kind, I64 c.backend, I64 c.call, I64 c.conn, I64 c.time, .bool c.yes, I64 c.skip, I64 c.breaker, .int .u8 pk]] w1 fun e w' => ∃ nn ns nv r ev dn, e = .returned (.tuple #[.agg #[I64 nn, .bool ns, .slice nv.1 nv.2.1 nv.2.2], .agg #[I64 r.1, I64 r.2.1, I64 r.2.2], .slice ev.1 ev.2.1 ev.2.2, .bool dn]) ∧ PlPost s c (fun i => i < w1.heap.size) nn ns nv r ev dn w' ∧ Below w1.heap.size w1 w') := fun w1 h1 => played_any c pk s (xa, xn, xc) w1 (HAQ.out.sta h1) HX.out.p0 HX.out.p1
      have hltI : (i : Int) < (vn : Int) := by omega
      obtain ⟨⟨c0, c1, c2, c3, c4, c5, c6, c7⟩, c8⟩ := HCC.out wr hbw
      clear hbw hca hrowa hx hxl hal hn9 c8
      go_upto_region 9 with fail
      simp only [← hwq, ← hC9]
      clear hwq hC9 c0 c1 c2 c3 c4 c5 c6 c7
      go_cut [10, 11, 12, 13] from 34 to 185 (fun v8 v9 v10 v11 wx => ∃ T8 T9 nn ns nv r ev dn, v8 = .pointer (some ⟨T8, 0, none⟩) ∧ v9 = .pointer (some ⟨T9, 0, none⟩) ∧ v10 = .slice ev.1 ev.2.1 ev.2.2 ∧ v11 = .bool dn ∧ Hid (RegOut wq s c nn ns nv r ev dn T8 T9 wx))
      case first =>
        as_aux_lemma =>
          refine wp_region_held_drew (S := fun w1 => Hid (Below wq.heap.size wq w1)) (by kernel_rfl) ((Below.refl _ _).drew) (fun hH0 => ?_)
          refine wpAnyH_take (i := 0) (oi := _) (v := ?vv0_1) (dropAt (r := _) rfl) (by kernel_rfl) (by kernel_rfl) (by kernel_rfl) (fun _ _ _ h => h) (Or.inl ⟨by rfl, ?hv0_1⟩) hH0 ?rv0_1
          case hv0_1 => (intro w hSw; obtain ⟨⟨s0_, s1_, s2_⟩, ⟨c0, c1, c2, c3, c4, c5, c6, c7⟩, c8⟩ := HCL.out _ hSw.out; go_simp; first | done | with_reducible rfl)
          try simp only [Act.put, List.setIfInBounds_toArray, List.set_cons_zero, List.set_cons_succ]
          refine wpAnyH_take (i := 1) (oi := _) (v := ?vv1_2) (dropAt (r := _) rfl) (by kernel_rfl) (by kernel_rfl) (by kernel_rfl) (fun _ _ _ h => h) (Or.inl ⟨by rfl, ?hv1_2⟩) hH0 ?rv1_2
          case hv1_2 => (intro w hSw; obtain ⟨⟨s0_, s1_, s2_⟩, ⟨c0, c1, c2, c3, c4, c5, c6, c7⟩, c8⟩ := HCL.out _ hSw.out; go_simp; first | done | with_reducible rfl)
          try simp only [Act.put, List.setIfInBounds_toArray, List.set_cons_zero, List.set_cons_succ]
          refine wpAnyH_take (i := 2) (oi := _) (v := ?vv2_3) (dropAt (r := _) rfl) (by kernel_rfl) (by kernel_rfl) (by kernel_rfl) (fun _ _ _ h => h) (Or.inl ⟨by rfl, ?hv2_3⟩) hH0 ?rv2_3
          case hv2_3 => (intro w hSw; obtain ⟨⟨s0_, s1_, s2_⟩, ⟨c0, c1, c2, c3, c4, c5, c6, c7⟩, c8⟩ := HCL.out _ hSw.out; go_simp; first | done | with_reducible rfl)
          try simp only [Act.put, List.setIfInBounds_toArray, List.set_cons_zero, List.set_cons_succ]
          refine wpAnyH_take (i := 3) (oi := _) (v := ?vv3_4) (dropAt (r := _) rfl) (by kernel_rfl) (by kernel_rfl) (by kernel_rfl) (fun _ _ _ h => h) (Or.inl ⟨by rfl, ?hv3_4⟩) hH0 ?rv3_4
          case hv3_4 => (intro w hSw; obtain ⟨⟨s0_, s1_, s2_⟩, ⟨c0, c1, c2, c3, c4, c5, c6, c7⟩, c8⟩ := HCL.out _ hSw.out; go_simp; first | done | with_reducible rfl)
          try simp only [Act.put, List.setIfInBounds_toArray, List.set_cons_zero, List.set_cons_succ]
          refine wpAnyH_take (i := 4) (oi := _) (v := ?vv4_5) (dropAt (r := _) rfl) (by kernel_rfl) (by kernel_rfl) (by kernel_rfl) (fun _ _ _ h => h) (Or.inl ⟨by rfl, ?hv4_5⟩) hH0 ?rv4_5
          case hv4_5 => (intro w hSw; obtain ⟨⟨s0_, s1_, s2_⟩, ⟨c0, c1, c2, c3, c4, c5, c6, c7⟩, c8⟩ := HCL.out _ hSw.out; go_simp; first | done | with_reducible rfl)
          try simp only [Act.put, List.setIfInBounds_toArray, List.set_cons_zero, List.set_cons_succ]
          refine wpAnyH_ready (rs := [5, 11, 12]) (by kernel_rfl) (by simp) ?_
          refine AllReadyH.cons (o := _) (dropAt (r := _) rfl) (fun K hK => ?_) (AllReadyH.cons (o := _) (dropAt (r := _) rfl) (fun K hK => ?_) (AllReadyH.cons (o := _) (dropAt (r := _) rfl) (fun K hK => ?_) AllReadyH.nil))
          · go_simp
            refine (HPL.out _ hH0.out).mono ?_
            rintro e w3 ⟨nn, ns, ⟨pa, pn, pc⟩, ⟨r1, r2, r3⟩, ⟨ea, en, ec⟩, dn, rfl, hp, hb3⟩
            dsimp only
            have hB3 : Hid (Below wq.heap.size wq w3) := hH0.out.trans (hb3.mono hH0.out.size)
            have HP3 := Lib.hid hp
            have HB3 := Lib.hid hb3
            have z1 := Lib.hid (show wq.heap.size ≤ w3.heap.size from hb3.size)
            refine hK.out _ _ hB3 (fun hH1 => ?_)
            clear hK K hp hb3
            try simp only [Act.put, List.setIfInBounds_toArray, List.set_cons_zero, List.set_cons_succ]
            refine wpAnyH_take (i := 6) (oi := _) (v := ?vv6_6) (dropAt (r := _) rfl) (by kernel_rfl) (by kernel_rfl) (by kernel_rfl) (fun _ _ _ h => h) (Or.inl ⟨by rfl, ?hv6_6⟩) hH1 ?rv6_6
            case hv6_6 => (intro w hSw; go_simp; first | done | with_reducible rfl)
            try simp only [Act.put, List.setIfInBounds_toArray, List.set_cons_zero, List.set_cons_succ]
            refine wpAnyH_take (i := 7) (oi := _) (v := ?vv7_7) (dropAt (r := _) rfl) (by kernel_rfl) (by kernel_rfl) (by kernel_rfl) (fun _ _ _ h => h) (Or.inl ⟨by rfl, ?hv7_7⟩) hH1 ?rv7_7
            case hv7_7 => (intro w hSw; go_simp; first | done | with_reducible rfl)
            try simp only [Act.put, List.setIfInBounds_toArray, List.set_cons_zero, List.set_cons_succ]
            refine wpAnyH_take (i := 8) (oi := _) (v := ?vv8_8) (dropAt (r := _) rfl) (by kernel_rfl) (by kernel_rfl) (by kernel_rfl) (fun _ _ _ h => h) (Or.inl ⟨by rfl, ?hv8_8⟩) hH1 ?rv8_8
            case hv8_8 => (intro w hSw; go_simp; first | done | with_reducible rfl)
            try simp only [Act.put, List.setIfInBounds_toArray, List.set_cons_zero, List.set_cons_succ]
            refine wpAnyH_take (i := 9) (oi := _) (v := ?vv9_9) (dropAt (r := _) rfl) (by kernel_rfl) (by kernel_rfl) (by kernel_rfl) (fun _ _ _ h => h) (Or.inl ⟨by rfl, ?hv9_9⟩) hH1 ?rv9_9
            case hv9_9 => (intro w hSw; go_simp; first | done | with_reducible rfl)
            try simp only [Act.put, List.setIfInBounds_toArray, List.set_cons_zero, List.set_cons_succ]
            refine wpAnyH_take (i := 10) (oi := _) (v := ?vv10_10) (dropAt (r := _) rfl) (by kernel_rfl) (by kernel_rfl) (by kernel_rfl) (fun _ _ _ h => h) (Or.inl ⟨by rfl, ?hv10_10⟩) hH1 ?rv10_10
            case hv10_10 => (intro w hSw; go_simp; first | done | with_reducible rfl)
            try simp only [Act.put, List.setIfInBounds_toArray, List.set_cons_zero, List.set_cons_succ]
            refine wpAnyH_ready (rs := [11, 12]) (by kernel_rfl) (by simp) ?_
            refine AllReadyH.cons (o := _) (dropAt (r := _) rfl) (fun K hK => ?_) (AllReadyH.cons (o := _) (dropAt (r := _) rfl) (fun K hK => ?_) AllReadyH.nil)
            · go_simp
              obtain ⟨wk2, hwk⟩ : ∃ x, x = (w3.alloc (.cells #[I64 0, .bool false, .slice none 0 0] 26)) := ⟨_, rfl⟩
              have ha := (Below.refl w3.heap.size w3).alloc (Nat.le_refl _) (.cells #[I64 0, .bool false, .slice none 0 0] 26)
              have hK2 : Below w3.heap.size w3 wk2 := by
                rw [hwk]
                exact ha
              have HK2 := Lib.hid hK2
              have hBk : Hid (Below wq.heap.size wq wk2) := hH1.out.trans (hK2.mono hH1.out.size)
              have b8_2 : Hid (wk2.heap[w3.heap.size]? = some (Z3 0 false (.slice none 0 0))) := by
                rw [hwk]
                exact blk_new _ _
              have z2 : Hid (wk2.heap.size = w3.heap.size + 1) := by
                show _ = _
                rw [hwk]
                show (w3.alloc _).heap.size = _
                simp
              show K _ (w3.alloc (.cells #[I64 0, .bool false, .slice none 0 0] 26))
              rw [← hwk]
              refine hK.out _ _ hBk (fun hH2 => ?_)
              clear hK K ha hwk hK2
              try simp only [Act.put, List.setIfInBounds_toArray, List.set_cons_zero, List.set_cons_succ]
              refine wpAnyH_ready (rs := [12]) (by kernel_rfl) (by simp) ?_
              refine AllReadyH.cons (o := _) (dropAt (r := _) rfl) (fun K hK => ?_) AllReadyH.nil
              go_simp
              obtain ⟨wk3, hwk⟩ : ∃ x, x = (wk2.alloc (.cells #[I64 0, I64 0, I64 0] 31)) := ⟨_, rfl⟩
              have ha := (Below.refl wk2.heap.size wk2).alloc (Nat.le_refl _) (.cells #[I64 0, I64 0, I64 0] 31)
              have hK3 : Below wk2.heap.size wk2 wk3 := by
                rw [hwk]
                exact ha
              have HK3 := Lib.hid hK3
              have hBk : Hid (Below wq.heap.size wq wk3) := hH2.out.trans (hK3.mono hH2.out.size)
              have b9_3 : Hid (wk3.heap[wk2.heap.size]? = some (Q3 0 0 0)) := by
                rw [hwk]
                exact blk_new _ _
              have z3 : Hid (wk3.heap.size = wk2.heap.size + 1) := by
                show _ = _
                rw [hwk]
                show (wk2.alloc _).heap.size = _
                simp
              have b8_3 := Lib.hid ((hK3.block _ (lt_of_block b8_2.out)).trans b8_2.out)
              show K _ (wk2.alloc (.cells #[I64 0, I64 0, I64 0] 31))
              rw [← hwk]
              refine hK.out _ _ hBk (fun hH3 => ?_)
              clear hK K ha hwk hK3
              try simp only [Act.put, List.setIfInBounds_toArray, List.set_cons_zero, List.set_cons_succ]
              have hbw := (hH3.out).size
              have hne : w3.heap.size ≠ wk2.heap.size := by have := z1.out; have := z2.out; have := z3.out; omega
              have hl8 : wq.heap.size ≤ w3.heap.size := by have := z1.out; have := z2.out; have := z3.out; omega
              have hl9 : wq.heap.size ≤ wk2.heap.size := by have := z1.out; have := z2.out; have := z3.out; omega
              have hi8 : w3.heap.size < wq.heap.size ∨ w3.heap.size ≤ w3.heap.size := by have := z1.out; have := z2.out; have := z3.out; omega
              have hi9 : wk2.heap.size < wq.heap.size ∨ w3.heap.size ≤ wk2.heap.size := by have := z1.out; have := z2.out; have := z3.out; omega
              obtain ⟨wz, hwz⟩ : ∃ x, x = (((wk3.setCell ⟨w3.heap.size, 0, none⟩ (I64 nn)).setCell ⟨w3.heap.size, 1, none⟩ (.bool ns)).setCell ⟨w3.heap.size, 2, none⟩ (.slice pa pn pc)) := ⟨_, rfl⟩
              have HRO : Hid (RegOut wq s c nn ns (pa, pn, pc) (r1, r2, r3) (ea, en, ec) dn (w3.heap.size) (wk2.heap.size) (((wz.setCell ⟨wk2.heap.size, 0, none⟩ (I64 r1)).setCell ⟨wk2.heap.size, 1, none⟩ (I64 r2)).setCell ⟨wk2.heap.size, 2, none⟩ (I64 r3))) := by
                rw [hwz]
                exact RegOut.make (wc := wq.drew) hH0.out HP3.out HB3.out (HK2.out.trans (HK3.out.mono HK2.out.size)) b8_3.out b9_3.out hne hl8 hl9 hi8 hi9
              have hBz : Hid (Below wq.heap.size wq wz) := by
                rw [hwz]
                exact (((hH3.out.setCell (p := ⟨w3.heap.size, 0, none⟩) hl8 _).setCell (p := ⟨w3.heap.size, 1, none⟩) hl8 _).setCell (p := ⟨w3.heap.size, 2, none⟩) hl8 _)
              have hBf : Hid (Below wq.heap.size wq (((wz.setCell ⟨wk2.heap.size, 0, none⟩ (I64 r1)).setCell ⟨wk2.heap.size, 1, none⟩ (I64 r2)).setCell ⟨wk2.heap.size, 2, none⟩ (I64 r3))) := (((hBz.out.setCell (p := ⟨wk2.heap.size, 0, none⟩) hl9 _).setCell (p := ⟨wk2.heap.size, 1, none⟩) hl9 _).setCell (p := ⟨wk2.heap.size, 2, none⟩) hl9 _)
              have bz : wz.heap[wk2.heap.size]? = some (.cells #[I64 0, I64 0, I64 0] 31 (0, 0)) := by
                rw [hwz]
                exact (set3_other (w := wk3) (P := w3.heap.size) (j := wk2.heap.size) hne).trans b9_3.out
              have by8 : wk3.heap[w3.heap.size]? = some (.cells #[I64 0, .bool false, .slice none 0 0] 26 (0, 0)) := b8_3.out
              have y0 := blk_cell by8 0
              have y1 := blk_cell by8 1
              have y2 := blk_cell by8 2
              have fy0 := blk_free by8 0
              have fy1 := blk_free by8 1
              have fy2 := blk_free by8 2
              simp only [List.getElem?_toArray, List.getElem?_cons_succ, List.getElem?_cons_zero] at y0 y1 y2
              have q0 := blk_cell bz 0
              have q1 := blk_cell bz 1
              have q2 := blk_cell bz 2
              have fq0 := blk_free bz 0
              have fq1 := blk_free bz 1
              have fq2 := blk_free bz 2
              simp only [List.getElem?_toArray, List.getElem?_cons_succ, List.getElem?_cons_zero] at q0 q1 q2
              clear by8 bz hne hl8 hl9 hi8 hi9 hbw
              refine wpAnyH_ready (rs := [13]) (by kernel_rfl) (by simp) ?_
              refine AllReadyH.cons (o := _) (dropAt (r := _) rfl) (fun K hK => ?_) AllReadyH.nil
              go_simp
              show K _ (((wk3.setCell ⟨w3.heap.size, 0, none⟩ (I64 nn)).setCell ⟨w3.heap.size, 1, none⟩ (.bool ns)).setCell ⟨w3.heap.size, 2, none⟩ (.slice pa pn pc))
              rw [← hwz]
              refine hK.out _ _ hBz (fun hHz => ?_)
              clear hK K hwz y0 y1 y2 fy0 fy1 fy2
              try simp only [Act.put, List.setIfInBounds_toArray, List.set_cons_zero, List.set_cons_succ]
              refine wpAnyH_ready (rs := [14]) (by kernel_rfl) (by simp) ?_
              refine AllReadyH.cons (o := _) (dropAt (r := _) rfl) (fun K hK => ?_) AllReadyH.nil
              go_simp
              refine hK.out _ _ hBf (fun hHf => ?_)
              clear hK K q0 q1 q2 fq0 fq1 fq2
              try simp only [Act.put, List.setIfInBounds_toArray, List.set_cons_zero, List.set_cons_succ]
              refine wpAnyH_take (i := 15) (oi := _) (v := ?vv15_11) (dropAt (r := _) rfl) (by kernel_rfl) (by kernel_rfl) (by kernel_rfl) (fun _ _ _ h => h) (Or.inl ⟨by rfl, ?hv15_11⟩) hHf ?rv15_11
              case hv15_11 => (intro w hSw; go_simp; first | done | with_reducible rfl)
              try simp only [Act.put, List.setIfInBounds_toArray, List.set_cons_zero, List.set_cons_succ]
              refine wpAnyH_take (i := 16) (oi := _) (v := ?vv16_12) (dropAt (r := _) rfl) (by kernel_rfl) (by kernel_rfl) (by kernel_rfl) (fun _ _ _ h => h) (Or.inl ⟨by rfl, ?hv16_12⟩) hHf ?rv16_12
              case hv16_12 => (intro w hSw; go_simp; first | done | with_reducible rfl)
              try simp only [Act.put, List.setIfInBounds_toArray, List.set_cons_zero, List.set_cons_succ]
              refine wpAnyH_done (by kernel_rfl) ?_ _
              go_wp2_with fail
              go_meet
              exact ⟨w3.heap.size, wk2.heap.size, nn, ns, (pa, pn, pc), (r1, r2, r3), (ea, en, ec), dn, rfl, rfl, rfl, rfl, HRO⟩
            · go_simp
              obtain ⟨wk5, hwk⟩ : ∃ x, x = (w3.alloc (.cells #[I64 0, I64 0, I64 0] 31)) := ⟨_, rfl⟩
              have ha := (Below.refl w3.heap.size w3).alloc (Nat.le_refl _) (.cells #[I64 0, I64 0, I64 0] 31)
              have hK5 : Below w3.heap.size w3 wk5 := by
                rw [hwk]
                exact ha
              have HK5 := Lib.hid hK5
              have hBk : Hid (Below wq.heap.size wq wk5) := hH1.out.trans (hK5.mono hH1.out.size)
              have b9_5 : Hid (wk5.heap[w3.heap.size]? = some (Q3 0 0 0)) := by
                rw [hwk]
                exact blk_new _ _
              have z5 : Hid (wk5.heap.size = w3.heap.size + 1) := by
                show _ = _
                rw [hwk]
                show (w3.alloc _).heap.size = _
                simp
              show K _ (w3.alloc (.cells #[I64 0, I64 0, I64 0] 31))
              rw [← hwk]
              refine hK.out _ _ hBk (fun hH5 => ?_)
              clear hK K ha hwk hK5
              try simp only [Act.put, List.setIfInBounds_toArray, List.set_cons_zero, List.set_cons_succ]
              refine wpAnyH_ready (rs := [11]) (by kernel_rfl) (by simp) ?_
              refine AllReadyH.cons (o := _) (dropAt (r := _) rfl) (fun K hK => ?_) AllReadyH.nil
              go_simp
              obtain ⟨wk6, hwk⟩ : ∃ x, x = (wk5.alloc (.cells #[I64 0, .bool false, .slice none 0 0] 26)) := ⟨_, rfl⟩
              have ha := (Below.refl wk5.heap.size wk5).alloc (Nat.le_refl _) (.cells #[I64 0, .bool false, .slice none 0 0] 26)
              have hK6 : Below wk5.heap.size wk5 wk6 := by
                rw [hwk]
                exact ha
              have HK6 := Lib.hid hK6
              have hBk : Hid (Below wq.heap.size wq wk6) := hH5.out.trans (hK6.mono hH5.out.size)
              have b8_6 : Hid (wk6.heap[wk5.heap.size]? = some (Z3 0 false (.slice none 0 0))) := by
                rw [hwk]
                exact blk_new _ _
              have z6 : Hid (wk6.heap.size = wk5.heap.size + 1) := by
                show _ = _
                rw [hwk]
                show (wk5.alloc _).heap.size = _
                simp
              have b9_6 := Lib.hid ((hK6.block _ (lt_of_block b9_5.out)).trans b9_5.out)
              show K _ (wk5.alloc (.cells #[I64 0, .bool false, .slice none 0 0] 26))
              rw [← hwk]
              refine hK.out _ _ hBk (fun hH6 => ?_)
              clear hK K ha hwk hK6
              try simp only [Act.put, List.setIfInBounds_toArray, List.set_cons_zero, List.set_cons_succ]
              have hbw := (hH6.out).size
              have hne : wk5.heap.size ≠ w3.heap.size := by have := z1.out; have := z5.out; have := z6.out; omega
              have hl8 : wq.heap.size ≤ wk5.heap.size := by have := z1.out; have := z5.out; have := z6.out; omega
              have hl9 : wq.heap.size ≤ w3.heap.size := by have := z1.out; have := z5.out; have := z6.out; omega
              have hi8 : wk5.heap.size < wq.heap.size ∨ w3.heap.size ≤ wk5.heap.size := by have := z1.out; have := z5.out; have := z6.out; omega
              have hi9 : w3.heap.size < wq.heap.size ∨ w3.heap.size ≤ w3.heap.size := by have := z1.out; have := z5.out; have := z6.out; omega
              obtain ⟨wz, hwz⟩ : ∃ x, x = (((wk6.setCell ⟨wk5.heap.size, 0, none⟩ (I64 nn)).setCell ⟨wk5.heap.size, 1, none⟩ (.bool ns)).setCell ⟨wk5.heap.size, 2, none⟩ (.slice pa pn pc)) := ⟨_, rfl⟩
              have HRO : Hid (RegOut wq s c nn ns (pa, pn, pc) (r1, r2, r3) (ea, en, ec) dn (wk5.heap.size) (w3.heap.size) (((wz.setCell ⟨w3.heap.size, 0, none⟩ (I64 r1)).setCell ⟨w3.heap.size, 1, none⟩ (I64 r2)).setCell ⟨w3.heap.size, 2, none⟩ (I64 r3))) := by
                rw [hwz]
                exact RegOut.make (wc := wq.drew) hH0.out HP3.out HB3.out (HK5.out.trans (HK6.out.mono HK5.out.size)) b8_6.out b9_6.out hne hl8 hl9 hi8 hi9
              have hBz : Hid (Below wq.heap.size wq wz) := by
                rw [hwz]
                exact (((hH6.out.setCell (p := ⟨wk5.heap.size, 0, none⟩) hl8 _).setCell (p := ⟨wk5.heap.size, 1, none⟩) hl8 _).setCell (p := ⟨wk5.heap.size, 2, none⟩) hl8 _)
              have hBf : Hid (Below wq.heap.size wq (((wz.setCell ⟨w3.heap.size, 0, none⟩ (I64 r1)).setCell ⟨w3.heap.size, 1, none⟩ (I64 r2)).setCell ⟨w3.heap.size, 2, none⟩ (I64 r3))) := (((hBz.out.setCell (p := ⟨w3.heap.size, 0, none⟩) hl9 _).setCell (p := ⟨w3.heap.size, 1, none⟩) hl9 _).setCell (p := ⟨w3.heap.size, 2, none⟩) hl9 _)
              have bz : wz.heap[w3.heap.size]? = some (.cells #[I64 0, I64 0, I64 0] 31 (0, 0)) := by
                rw [hwz]
                exact (set3_other (w := wk6) (P := wk5.heap.size) (j := w3.heap.size) hne).trans b9_6.out
              have by8 : wk6.heap[wk5.heap.size]? = some (.cells #[I64 0, .bool false, .slice none 0 0] 26 (0, 0)) := b8_6.out
              have y0 := blk_cell by8 0
              have y1 := blk_cell by8 1
              have y2 := blk_cell by8 2
              have fy0 := blk_free by8 0
              have fy1 := blk_free by8 1
              have fy2 := blk_free by8 2
              simp only [List.getElem?_toArray, List.getElem?_cons_succ, List.getElem?_cons_zero] at y0 y1 y2
              have q0 := blk_cell bz 0
              have q1 := blk_cell bz 1
              have q2 := blk_cell bz 2
              have fq0 := blk_free bz 0
              have fq1 := blk_free bz 1
              have fq2 := blk_free bz 2
              simp only [List.getElem?_toArray, List.getElem?_cons_succ, List.getElem?_cons_zero] at q0 q1 q2
              clear by8 bz hne hl8 hl9 hi8 hi9 hbw
              refine wpAnyH_ready (rs := [13]) (by kernel_rfl) (by simp) ?_
              refine AllReadyH.cons (o := _) (dropAt (r := _) rfl) (fun K hK => ?_) AllReadyH.nil
              go_simp
              show K _ (((wk6.setCell ⟨wk5.heap.size, 0, none⟩ (I64 nn)).setCell ⟨wk5.heap.size, 1, none⟩ (.bool ns)).setCell ⟨wk5.heap.size, 2, none⟩ (.slice pa pn pc))
              rw [← hwz]
              refine hK.out _ _ hBz (fun hHz => ?_)
              clear hK K hwz y0 y1 y2 fy0 fy1 fy2
              try simp only [Act.put, List.setIfInBounds_toArray, List.set_cons_zero, List.set_cons_succ]
              refine wpAnyH_ready (rs := [14]) (by kernel_rfl) (by simp) ?_
              refine AllReadyH.cons (o := _) (dropAt (r := _) rfl) (fun K hK => ?_) AllReadyH.nil
              go_simp
              refine hK.out _ _ hBf (fun hHf => ?_)
              clear hK K q0 q1 q2 fq0 fq1 fq2
              try simp only [Act.put, List.setIfInBounds_toArray, List.set_cons_zero, List.set_cons_succ]
              refine wpAnyH_take (i := 15) (oi := _) (v := ?vv15_13) (dropAt (r := _) rfl) (by kernel_rfl) (by kernel_rfl) (by kernel_rfl) (fun _ _ _ h => h) (Or.inl ⟨by rfl, ?hv15_13⟩) hHf ?rv15_13
              case hv15_13 => (intro w hSw; go_simp; first | done | with_reducible rfl)
              try simp only [Act.put, List.setIfInBounds_toArray, List.set_cons_zero, List.set_cons_succ]
              refine wpAnyH_take (i := 16) (oi := _) (v := ?vv16_14) (dropAt (r := _) rfl) (by kernel_rfl) (by kernel_rfl) (by kernel_rfl) (fun _ _ _ h => h) (Or.inl ⟨by rfl, ?hv16_14⟩) hHf ?rv16_14
              case hv16_14 => (intro w hSw; go_simp; first | done | with_reducible rfl)
              try simp only [Act.put, List.setIfInBounds_toArray, List.set_cons_zero, List.set_cons_succ]
              refine wpAnyH_done (by kernel_rfl) ?_ _
              go_wp2_with fail
              go_meet
              exact ⟨wk5.heap.size, w3.heap.size, nn, ns, (pa, pn, pc), (r1, r2, r3), (ea, en, ec), dn, rfl, rfl, rfl, rfl, HRO⟩
          · go_simp
            obtain ⟨wk8, hwk⟩ : ∃ x, x = (wq.alloc (.cells #[I64 0, .bool false, .slice none 0 0] 26)).drew := ⟨_, rfl⟩
            have ha := (Below.refl wq.heap.size wq).alloc (Nat.le_refl _) (.cells #[I64 0, .bool false, .slice none 0 0] 26)
            have hK8 : Below wq.heap.size wq wk8 := by
              rw [hwk]
              exact ha.drew
            have HK8 := Lib.hid hK8
            have hBk : Hid (Below wq.heap.size wq wk8) := hK8
            have b8_8 : Hid (wk8.heap[wq.heap.size]? = some (Z3 0 false (.slice none 0 0))) := by
              rw [hwk]
              exact blk_new _ _
            have z8 : Hid (wk8.heap.size = wq.heap.size + 1) := by
              show _ = _
              rw [hwk]
              show (wq.alloc _).heap.size = _
              simp
            show K _ (wq.alloc (.cells #[I64 0, .bool false, .slice none 0 0] 26)).drew
            rw [← hwk]
            refine hK.out _ _ hBk (fun hH8 => ?_)
            clear hK K ha hwk hK8
            try simp only [Act.put, List.setIfInBounds_toArray, List.set_cons_zero, List.set_cons_succ]
            refine wpAnyH_ready (rs := [5, 12]) (by kernel_rfl) (by simp) ?_
            refine AllReadyH.cons (o := _) (dropAt (r := _) rfl) (fun K hK => ?_) (AllReadyH.cons (o := _) (dropAt (r := _) rfl) (fun K hK => ?_) AllReadyH.nil)
            · go_simp
              refine (HPL.out _ hH8.out).mono ?_
              rintro e w3 ⟨nn, ns, ⟨pa, pn, pc⟩, ⟨r1, r2, r3⟩, ⟨ea, en, ec⟩, dn, rfl, hp, hb3⟩
              dsimp only
              have hB3 : Hid (Below wq.heap.size wq w3) := hH8.out.trans (hb3.mono hH8.out.size)
              have b8_9 := Lib.hid ((hb3.block _ (lt_of_block b8_8.out)).trans b8_8.out)
              have HP3 := Lib.hid hp
              have HB3 := Lib.hid hb3
              have z9 := Lib.hid (show wk8.heap.size ≤ w3.heap.size from hb3.size)
              refine hK.out _ _ hB3 (fun hH9 => ?_)
              clear hK K hp hb3
              try simp only [Act.put, List.setIfInBounds_toArray, List.set_cons_zero, List.set_cons_succ]
              refine wpAnyH_take (i := 6) (oi := _) (v := ?vv6_15) (dropAt (r := _) rfl) (by kernel_rfl) (by kernel_rfl) (by kernel_rfl) (fun _ _ _ h => h) (Or.inl ⟨by rfl, ?hv6_15⟩) hH9 ?rv6_15
              case hv6_15 => (intro w hSw; go_simp; first | done | with_reducible rfl)
              try simp only [Act.put, List.setIfInBounds_toArray, List.set_cons_zero, List.set_cons_succ]
              refine wpAnyH_take (i := 7) (oi := _) (v := ?vv7_16) (dropAt (r := _) rfl) (by kernel_rfl) (by kernel_rfl) (by kernel_rfl) (fun _ _ _ h => h) (Or.inl ⟨by rfl, ?hv7_16⟩) hH9 ?rv7_16
              case hv7_16 => (intro w hSw; go_simp; first | done | with_reducible rfl)
              try simp only [Act.put, List.setIfInBounds_toArray, List.set_cons_zero, List.set_cons_succ]
              refine wpAnyH_take (i := 8) (oi := _) (v := ?vv8_17) (dropAt (r := _) rfl) (by kernel_rfl) (by kernel_rfl) (by kernel_rfl) (fun _ _ _ h => h) (Or.inl ⟨by rfl, ?hv8_17⟩) hH9 ?rv8_17
              case hv8_17 => (intro w hSw; go_simp; first | done | with_reducible rfl)
              try simp only [Act.put, List.setIfInBounds_toArray, List.set_cons_zero, List.set_cons_succ]
              refine wpAnyH_take (i := 9) (oi := _) (v := ?vv9_18) (dropAt (r := _) rfl) (by kernel_rfl) (by kernel_rfl) (by kernel_rfl) (fun _ _ _ h => h) (Or.inl ⟨by rfl, ?hv9_18⟩) hH9 ?rv9_18
              case hv9_18 => (intro w hSw; go_simp; first | done | with_reducible rfl)
              try simp only [Act.put, List.setIfInBounds_toArray, List.set_cons_zero, List.set_cons_succ]
              refine wpAnyH_take (i := 10) (oi := _) (v := ?vv10_19) (dropAt (r := _) rfl) (by kernel_rfl) (by kernel_rfl) (by kernel_rfl) (fun _ _ _ h => h) (Or.inl ⟨by rfl, ?hv10_19⟩) hH9 ?rv10_19
              case hv10_19 => (intro w hSw; go_simp; first | done | with_reducible rfl)
              try simp only [Act.put, List.setIfInBounds_toArray, List.set_cons_zero, List.set_cons_succ]
              refine wpAnyH_ready (rs := [12]) (by kernel_rfl) (by simp) ?_
              refine AllReadyH.cons (o := _) (dropAt (r := _) rfl) (fun K hK => ?_) AllReadyH.nil
              go_simp
              obtain ⟨wk10, hwk⟩ : ∃ x, x = (w3.alloc (.cells #[I64 0, I64 0, I64 0] 31)) := ⟨_, rfl⟩
              have ha := (Below.refl w3.heap.size w3).alloc (Nat.le_refl _) (.cells #[I64 0, I64 0, I64 0] 31)
              have hK10 : Below w3.heap.size w3 wk10 := by
                rw [hwk]
                exact ha
              have HK10 := Lib.hid hK10
              have hBk : Hid (Below wq.heap.size wq wk10) := hH9.out.trans (hK10.mono hH9.out.size)
              have b9_10 : Hid (wk10.heap[w3.heap.size]? = some (Q3 0 0 0)) := by
                rw [hwk]
                exact blk_new _ _
              have z10 : Hid (wk10.heap.size = w3.heap.size + 1) := by
                show _ = _
                rw [hwk]
                show (w3.alloc _).heap.size = _
                simp
              have b8_10 := Lib.hid ((hK10.block _ (lt_of_block b8_9.out)).trans b8_9.out)
              show K _ (w3.alloc (.cells #[I64 0, I64 0, I64 0] 31))
              rw [← hwk]
              refine hK.out _ _ hBk (fun hH10 => ?_)
              clear hK K ha hwk hK10
              try simp only [Act.put, List.setIfInBounds_toArray, List.set_cons_zero, List.set_cons_succ]
              have hbw := (hH10.out).size
              have hne : wq.heap.size ≠ w3.heap.size := by have := z8.out; have := z9.out; have := z10.out; omega
              have hl8 : wq.heap.size ≤ wq.heap.size := by have := z8.out; have := z9.out; have := z10.out; omega
              have hl9 : wq.heap.size ≤ w3.heap.size := by have := z8.out; have := z9.out; have := z10.out; omega
              have hi8 : wq.heap.size < wk8.heap.size ∨ w3.heap.size ≤ wq.heap.size := by have := z8.out; have := z9.out; have := z10.out; omega
              have hi9 : w3.heap.size < wk8.heap.size ∨ w3.heap.size ≤ w3.heap.size := by have := z8.out; have := z9.out; have := z10.out; omega
              obtain ⟨wz, hwz⟩ : ∃ x, x = (((wk10.setCell ⟨wq.heap.size, 0, none⟩ (I64 nn)).setCell ⟨wq.heap.size, 1, none⟩ (.bool ns)).setCell ⟨wq.heap.size, 2, none⟩ (.slice pa pn pc)) := ⟨_, rfl⟩
              have HRO : Hid (RegOut wq s c nn ns (pa, pn, pc) (r1, r2, r3) (ea, en, ec) dn (wq.heap.size) (w3.heap.size) (((wz.setCell ⟨w3.heap.size, 0, none⟩ (I64 r1)).setCell ⟨w3.heap.size, 1, none⟩ (I64 r2)).setCell ⟨w3.heap.size, 2, none⟩ (I64 r3))) := by
                rw [hwz]
                exact RegOut.make (wc := wk8) hH8.out HP3.out HB3.out (HK10.out) b8_10.out b9_10.out hne hl8 hl9 hi8 hi9
              have hBz : Hid (Below wq.heap.size wq wz) := by
                rw [hwz]
                exact (((hH10.out.setCell (p := ⟨wq.heap.size, 0, none⟩) hl8 _).setCell (p := ⟨wq.heap.size, 1, none⟩) hl8 _).setCell (p := ⟨wq.heap.size, 2, none⟩) hl8 _)
              have hBf : Hid (Below wq.heap.size wq (((wz.setCell ⟨w3.heap.size, 0, none⟩ (I64 r1)).setCell ⟨w3.heap.size, 1, none⟩ (I64 r2)).setCell ⟨w3.heap.size, 2, none⟩ (I64 r3))) := (((hBz.out.setCell (p := ⟨w3.heap.size, 0, none⟩) hl9 _).setCell (p := ⟨w3.heap.size, 1, none⟩) hl9 _).setCell (p := ⟨w3.heap.size, 2, none⟩) hl9 _)
              have bz : wz.heap[w3.heap.size]? = some (.cells #[I64 0, I64 0, I64 0] 31 (0, 0)) := by
                rw [hwz]
                exact (set3_other (w := wk10) (P := wq.heap.size) (j := w3.heap.size) hne).trans b9_10.out
              have by8 : wk10.heap[wq.heap.size]? = some (.cells #[I64 0, .bool false, .slice none 0 0] 26 (0, 0)) := b8_10.out
              have y0 := blk_cell by8 0
              have y1 := blk_cell by8 1
              have y2 := blk_cell by8 2
              have fy0 := blk_free by8 0
              have fy1 := blk_free by8 1
              have fy2 := blk_free by8 2
              simp only [List.getElem?_toArray, List.getElem?_cons_succ, List.getElem?_cons_zero] at y0 y1 y2
              have q0 := blk_cell bz 0
              have q1 := blk_cell bz 1
              have q2 := blk_cell bz 2
              have fq0 := blk_free bz 0
              have fq1 := blk_free bz 1
              have fq2 := blk_free bz 2
              simp only [List.getElem?_toArray, List.getElem?_cons_succ, List.getElem?_cons_zero] at q0 q1 q2
              clear by8 bz hne hl8 hl9 hi8 hi9 hbw
              refine wpAnyH_ready (rs := [13]) (by kernel_rfl) (by simp) ?_
              refine AllReadyH.cons (o := _) (dropAt (r := _) rfl) (fun K hK => ?_) AllReadyH.nil
              go_simp
              show K _ (((wk10.setCell ⟨wq.heap.size, 0, none⟩ (I64 nn)).setCell ⟨wq.heap.size, 1, none⟩ (.bool ns)).setCell ⟨wq.heap.size, 2, none⟩ (.slice pa pn pc))
              rw [← hwz]
              refine hK.out _ _ hBz (fun hHz => ?_)
              clear hK K hwz y0 y1 y2 fy0 fy1 fy2
              try simp only [Act.put, List.setIfInBounds_toArray, List.set_cons_zero, List.set_cons_succ]
              refine wpAnyH_ready (rs := [14]) (by kernel_rfl) (by simp) ?_
              refine AllReadyH.cons (o := _) (dropAt (r := _) rfl) (fun K hK => ?_) AllReadyH.nil
              go_simp
              refine hK.out _ _ hBf (fun hHf => ?_)
              clear hK K q0 q1 q2 fq0 fq1 fq2
              try simp only [Act.put, List.setIfInBounds_toArray, List.set_cons_zero, List.set_cons_succ]
              refine wpAnyH_take (i := 15) (oi := _) (v := ?vv15_20) (dropAt (r := _) rfl) (by kernel_rfl) (by kernel_rfl) (by kernel_rfl) (fun _ _ _ h => h) (Or.inl ⟨by rfl, ?hv15_20⟩) hHf ?rv15_20
              case hv15_20 => (intro w hSw; go_simp; first | done | with_reducible rfl)
              try simp only [Act.put, List.setIfInBounds_toArray, List.set_cons_zero, List.set_cons_succ]
              refine wpAnyH_take (i := 16) (oi := _) (v := ?vv16_21) (dropAt (r := _) rfl) (by kernel_rfl) (by kernel_rfl) (by kernel_rfl) (fun _ _ _ h => h) (Or.inl ⟨by rfl, ?hv16_21⟩) hHf ?rv16_21
              case hv16_21 => (intro w hSw; go_simp; first | done | with_reducible rfl)
              try simp only [Act.put, List.setIfInBounds_toArray, List.set_cons_zero, List.set_cons_succ]
              refine wpAnyH_done (by kernel_rfl) ?_ _
              go_wp2_with fail
              go_meet
              exact ⟨wq.heap.size, w3.heap.size, nn, ns, (pa, pn, pc), (r1, r2, r3), (ea, en, ec), dn, rfl, rfl, rfl, rfl, HRO⟩
            · go_simp
              obtain ⟨wk12, hwk⟩ : ∃ x, x = (wk8.alloc (.cells #[I64 0, I64 0, I64 0] 31)) := ⟨_, rfl⟩
              have ha := (Below.refl wk8.heap.size wk8).alloc (Nat.le_refl _) (.cells #[I64 0, I64 0, I64 0] 31)
              have hK12 : Below wk8.heap.size wk8 wk12 := by
                rw [hwk]
                exact ha
              have HK12 := Lib.hid hK12
              have hBk : Hid (Below wq.heap.size wq wk12) := hH8.out.trans (hK12.mono hH8.out.size)
              have b9_12 : Hid (wk12.heap[wk8.heap.size]? = some (Q3 0 0 0)) := by
                rw [hwk]
                exact blk_new _ _
              have z12 : Hid (wk12.heap.size = wk8.heap.size + 1) := by
                show _ = _
                rw [hwk]
                show (wk8.alloc _).heap.size = _
                simp
              have b8_12 := Lib.hid ((hK12.block _ (lt_of_block b8_8.out)).trans b8_8.out)
              show K _ (wk8.alloc (.cells #[I64 0, I64 0, I64 0] 31))
              rw [← hwk]
              refine hK.out _ _ hBk (fun hH12 => ?_)
              clear hK K ha hwk hK12
              try simp only [Act.put, List.setIfInBounds_toArray, List.set_cons_zero, List.set_cons_succ]
              refine wpAnyH_ready (rs := [5]) (by kernel_rfl) (by simp) ?_
              refine AllReadyH.cons (o := _) (dropAt (r := _) rfl) (fun K hK => ?_) AllReadyH.nil
              go_simp
              refine (HPL.out _ hH12.out).mono ?_
              rintro e w3 ⟨nn, ns, ⟨pa, pn, pc⟩, ⟨r1, r2, r3⟩, ⟨ea, en, ec⟩, dn, rfl, hp, hb3⟩
              dsimp only
              have hB3 : Hid (Below wq.heap.size wq w3) := hH12.out.trans (hb3.mono hH12.out.size)
              have b8_13 := Lib.hid ((hb3.block _ (lt_of_block b8_12.out)).trans b8_12.out)
              have b9_13 := Lib.hid ((hb3.block _ (lt_of_block b9_12.out)).trans b9_12.out)
              have HP3 := Lib.hid hp
              have HB3 := Lib.hid hb3
              have z13 := Lib.hid (show wk12.heap.size ≤ w3.heap.size from hb3.size)
              refine hK.out _ _ hB3 (fun hH13 => ?_)
              clear hK K hp hb3
              try simp only [Act.put, List.setIfInBounds_toArray, List.set_cons_zero, List.set_cons_succ]
              refine wpAnyH_take (i := 6) (oi := _) (v := ?vv6_22) (dropAt (r := _) rfl) (by kernel_rfl) (by kernel_rfl) (by kernel_rfl) (fun _ _ _ h => h) (Or.inl ⟨by rfl, ?hv6_22⟩) hH13 ?rv6_22
              case hv6_22 => (intro w hSw; go_simp; first | done | with_reducible rfl)
              try simp only [Act.put, List.setIfInBounds_toArray, List.set_cons_zero, List.set_cons_succ]
              refine wpAnyH_take (i := 7) (oi := _) (v := ?vv7_23) (dropAt (r := _) rfl) (by kernel_rfl) (by kernel_rfl) (by kernel_rfl) (fun _ _ _ h => h) (Or.inl ⟨by rfl, ?hv7_23⟩) hH13 ?rv7_23
              case hv7_23 => (intro w hSw; go_simp; first | done | with_reducible rfl)
              try simp only [Act.put, List.setIfInBounds_toArray, List.set_cons_zero, List.set_cons_succ]
              refine wpAnyH_take (i := 8) (oi := _) (v := ?vv8_24) (dropAt (r := _) rfl) (by kernel_rfl) (by kernel_rfl) (by kernel_rfl) (fun _ _ _ h => h) (Or.inl ⟨by rfl, ?hv8_24⟩) hH13 ?rv8_24
              case hv8_24 => (intro w hSw; go_simp; first | done | with_reducible rfl)
              try simp only [Act.put, List.setIfInBounds_toArray, List.set_cons_zero, List.set_cons_succ]
              refine wpAnyH_take (i := 9) (oi := _) (v := ?vv9_25) (dropAt (r := _) rfl) (by kernel_rfl) (by kernel_rfl) (by kernel_rfl) (fun _ _ _ h => h) (Or.inl ⟨by rfl, ?hv9_25⟩) hH13 ?rv9_25
              case hv9_25 => (intro w hSw; go_simp; first | done | with_reducible rfl)
              try simp only [Act.put, List.setIfInBounds_toArray, List.set_cons_zero, List.set_cons_succ]
              refine wpAnyH_take (i := 10) (oi := _) (v := ?vv10_26) (dropAt (r := _) rfl) (by kernel_rfl) (by kernel_rfl) (by kernel_rfl) (fun _ _ _ h => h) (Or.inl ⟨by rfl, ?hv10_26⟩) hH13 ?rv10_26
              case hv10_26 => (intro w hSw; go_simp; first | done | with_reducible rfl)
              try simp only [Act.put, List.setIfInBounds_toArray, List.set_cons_zero, List.set_cons_succ]
              have hbw := (hH13.out).size
              have hne : wq.heap.size ≠ wk8.heap.size := by have := z8.out; have := z12.out; have := z13.out; omega
              have hl8 : wq.heap.size ≤ wq.heap.size := by have := z8.out; have := z12.out; have := z13.out; omega
              have hl9 : wq.heap.size ≤ wk8.heap.size := by have := z8.out; have := z12.out; have := z13.out; omega
              have hi8 : wq.heap.size < wk12.heap.size ∨ w3.heap.size ≤ wq.heap.size := by have := z8.out; have := z12.out; have := z13.out; omega
              have hi9 : wk8.heap.size < wk12.heap.size ∨ w3.heap.size ≤ wk8.heap.size := by have := z8.out; have := z12.out; have := z13.out; omega
              obtain ⟨wz, hwz⟩ : ∃ x, x = (((w3.setCell ⟨wq.heap.size, 0, none⟩ (I64 nn)).setCell ⟨wq.heap.size, 1, none⟩ (.bool ns)).setCell ⟨wq.heap.size, 2, none⟩ (.slice pa pn pc)) := ⟨_, rfl⟩
              have HRO : Hid (RegOut wq s c nn ns (pa, pn, pc) (r1, r2, r3) (ea, en, ec) dn (wq.heap.size) (wk8.heap.size) (((wz.setCell ⟨wk8.heap.size, 0, none⟩ (I64 r1)).setCell ⟨wk8.heap.size, 1, none⟩ (I64 r2)).setCell ⟨wk8.heap.size, 2, none⟩ (I64 r3))) := by
                rw [hwz]
                exact RegOut.make (wc := wk12) hH12.out HP3.out HB3.out (Below.refl _ _) b8_13.out b9_13.out hne hl8 hl9 hi8 hi9
              have hBz : Hid (Below wq.heap.size wq wz) := by
                rw [hwz]
                exact (((hH13.out.setCell (p := ⟨wq.heap.size, 0, none⟩) hl8 _).setCell (p := ⟨wq.heap.size, 1, none⟩) hl8 _).setCell (p := ⟨wq.heap.size, 2, none⟩) hl8 _)
              have hBf : Hid (Below wq.heap.size wq (((wz.setCell ⟨wk8.heap.size, 0, none⟩ (I64 r1)).setCell ⟨wk8.heap.size, 1, none⟩ (I64 r2)).setCell ⟨wk8.heap.size, 2, none⟩ (I64 r3))) := (((hBz.out.setCell (p := ⟨wk8.heap.size, 0, none⟩) hl9 _).setCell (p := ⟨wk8.heap.size, 1, none⟩) hl9 _).setCell (p := ⟨wk8.heap.size, 2, none⟩) hl9 _)
              have bz : wz.heap[wk8.heap.size]? = some (.cells #[I64 0, I64 0, I64 0] 31 (0, 0)) := by
                rw [hwz]
                exact (set3_other (w := w3) (P := wq.heap.size) (j := wk8.heap.size) hne).trans b9_13.out
              have by8 : w3.heap[wq.heap.size]? = some (.cells #[I64 0, .bool false, .slice none 0 0] 26 (0, 0)) := b8_13.out
              have y0 := blk_cell by8 0
              have y1 := blk_cell by8 1
              have y2 := blk_cell by8 2
              have fy0 := blk_free by8 0
              have fy1 := blk_free by8 1
              have fy2 := blk_free by8 2
              simp only [List.getElem?_toArray, List.getElem?_cons_succ, List.getElem?_cons_zero] at y0 y1 y2
              have q0 := blk_cell bz 0
              have q1 := blk_cell bz 1
              have q2 := blk_cell bz 2
              have fq0 := blk_free bz 0
              have fq1 := blk_free bz 1
              have fq2 := blk_free bz 2
              simp only [List.getElem?_toArray, List.getElem?_cons_succ, List.getElem?_cons_zero] at q0 q1 q2
              clear by8 bz hne hl8 hl9 hi8 hi9 hbw
              refine wpAnyH_ready (rs := [13]) (by kernel_rfl) (by simp) ?_
              refine AllReadyH.cons (o := _) (dropAt (r := _) rfl) (fun K hK => ?_) AllReadyH.nil
              go_simp
              show K _ (((w3.setCell ⟨wq.heap.size, 0, none⟩ (I64 nn)).setCell ⟨wq.heap.size, 1, none⟩ (.bool ns)).setCell ⟨wq.heap.size, 2, none⟩ (.slice pa pn pc))
              rw [← hwz]
              refine hK.out _ _ hBz (fun hHz => ?_)
              clear hK K hwz y0 y1 y2 fy0 fy1 fy2
              try simp only [Act.put, List.setIfInBounds_toArray, List.set_cons_zero, List.set_cons_succ]
              refine wpAnyH_ready (rs := [14]) (by kernel_rfl) (by simp) ?_
              refine AllReadyH.cons (o := _) (dropAt (r := _) rfl) (fun K hK => ?_) AllReadyH.nil
              go_simp
              refine hK.out _ _ hBf (fun hHf => ?_)
              clear hK K q0 q1 q2 fq0 fq1 fq2
              try simp only [Act.put, List.setIfInBounds_toArray, List.set_cons_zero, List.set_cons_succ]
              refine wpAnyH_take (i := 15) (oi := _) (v := ?vv15_27) (dropAt (r := _) rfl) (by kernel_rfl) (by kernel_rfl) (by kernel_rfl) (fun _ _ _ h => h) (Or.inl ⟨by rfl, ?hv15_27⟩) hHf ?rv15_27
              case hv15_27 => (intro w hSw; go_simp; first | done | with_reducible rfl)
              try simp only [Act.put, List.setIfInBounds_toArray, List.set_cons_zero, List.set_cons_succ]
              refine wpAnyH_take (i := 16) (oi := _) (v := ?vv16_28) (dropAt (r := _) rfl) (by kernel_rfl) (by kernel_rfl) (by kernel_rfl) (fun _ _ _ h => h) (Or.inl ⟨by rfl, ?hv16_28⟩) hHf ?rv16_28
              case hv16_28 => (intro w hSw; go_simp; first | done | with_reducible rfl)
              try simp only [Act.put, List.setIfInBounds_toArray, List.set_cons_zero, List.set_cons_succ]
              refine wpAnyH_done (by kernel_rfl) ?_ _
              go_wp2_with fail
              go_meet
              exact ⟨wq.heap.size, wk8.heap.size, nn, ns, (pa, pn, pc), (r1, r2, r3), (ea, en, ec), dn, rfl, rfl, rfl, rfl, HRO⟩
          · go_simp
            obtain ⟨wk15, hwk⟩ : ∃ x, x = (wq.alloc (.cells #[I64 0, I64 0, I64 0] 31)).drew := ⟨_, rfl⟩
            have ha := (Below.refl wq.heap.size wq).alloc (Nat.le_refl _) (.cells #[I64 0, I64 0, I64 0] 31)
            have hK15 : Below wq.heap.size wq wk15 := by
              rw [hwk]
              exact ha.drew
            have HK15 := Lib.hid hK15
            have hBk : Hid (Below wq.heap.size wq wk15) := hK15
            have b9_15 : Hid (wk15.heap[wq.heap.size]? = some (Q3 0 0 0)) := by
              rw [hwk]
              exact blk_new _ _
            have z15 : Hid (wk15.heap.size = wq.heap.size + 1) := by
              show _ = _
              rw [hwk]
              show (wq.alloc _).heap.size = _
              simp
            show K _ (wq.alloc (.cells #[I64 0, I64 0, I64 0] 31)).drew
            rw [← hwk]
            refine hK.out _ _ hBk (fun hH15 => ?_)
            clear hK K ha hwk hK15
            try simp only [Act.put, List.setIfInBounds_toArray, List.set_cons_zero, List.set_cons_succ]
            refine wpAnyH_ready (rs := [5, 11]) (by kernel_rfl) (by simp) ?_
            refine AllReadyH.cons (o := _) (dropAt (r := _) rfl) (fun K hK => ?_) (AllReadyH.cons (o := _) (dropAt (r := _) rfl) (fun K hK => ?_) AllReadyH.nil)
            · go_simp
              refine (HPL.out _ hH15.out).mono ?_
              rintro e w3 ⟨nn, ns, ⟨pa, pn, pc⟩, ⟨r1, r2, r3⟩, ⟨ea, en, ec⟩, dn, rfl, hp, hb3⟩
              dsimp only
              have hB3 : Hid (Below wq.heap.size wq w3) := hH15.out.trans (hb3.mono hH15.out.size)
              have b9_16 := Lib.hid ((hb3.block _ (lt_of_block b9_15.out)).trans b9_15.out)
              have HP3 := Lib.hid hp
              have HB3 := Lib.hid hb3
              have z16 := Lib.hid (show wk15.heap.size ≤ w3.heap.size from hb3.size)
              refine hK.out _ _ hB3 (fun hH16 => ?_)
              clear hK K hp hb3
              try simp only [Act.put, List.setIfInBounds_toArray, List.set_cons_zero, List.set_cons_succ]
              refine wpAnyH_take (i := 6) (oi := _) (v := ?vv6_29) (dropAt (r := _) rfl) (by kernel_rfl) (by kernel_rfl) (by kernel_rfl) (fun _ _ _ h => h) (Or.inl ⟨by rfl, ?hv6_29⟩) hH16 ?rv6_29
              case hv6_29 => (intro w hSw; go_simp; first | done | with_reducible rfl)
              try simp only [Act.put, List.setIfInBounds_toArray, List.set_cons_zero, List.set_cons_succ]
              refine wpAnyH_take (i := 7) (oi := _) (v := ?vv7_30) (dropAt (r := _) rfl) (by kernel_rfl) (by kernel_rfl) (by kernel_rfl) (fun _ _ _ h => h) (Or.inl ⟨by rfl, ?hv7_30⟩) hH16 ?rv7_30
              case hv7_30 => (intro w hSw; go_simp; first | done | with_reducible rfl)
              try simp only [Act.put, List.setIfInBounds_toArray, List.set_cons_zero, List.set_cons_succ]
              refine wpAnyH_take (i := 8) (oi := _) (v := ?vv8_31) (dropAt (r := _) rfl) (by kernel_rfl) (by kernel_rfl) (by kernel_rfl) (fun _ _ _ h => h) (Or.inl ⟨by rfl, ?hv8_31⟩) hH16 ?rv8_31
              case hv8_31 => (intro w hSw; go_simp; first | done | with_reducible rfl)
              try simp only [Act.put, List.setIfInBounds_toArray, List.set_cons_zero, List.set_cons_succ]
              refine wpAnyH_take (i := 9) (oi := _) (v := ?vv9_32) (dropAt (r := _) rfl) (by kernel_rfl) (by kernel_rfl) (by kernel_rfl) (fun _ _ _ h => h) (Or.inl ⟨by rfl, ?hv9_32⟩) hH16 ?rv9_32
              case hv9_32 => (intro w hSw; go_simp; first | done | with_reducible rfl)
              try simp only [Act.put, List.setIfInBounds_toArray, List.set_cons_zero, List.set_cons_succ]
              refine wpAnyH_take (i := 10) (oi := _) (v := ?vv10_33) (dropAt (r := _) rfl) (by kernel_rfl) (by kernel_rfl) (by kernel_rfl) (fun _ _ _ h => h) (Or.inl ⟨by rfl, ?hv10_33⟩) hH16 ?rv10_33
              case hv10_33 => (intro w hSw; go_simp; first | done | with_reducible rfl)
              try simp only [Act.put, List.setIfInBounds_toArray, List.set_cons_zero, List.set_cons_succ]
              refine wpAnyH_ready (rs := [11]) (by kernel_rfl) (by simp) ?_
              refine AllReadyH.cons (o := _) (dropAt (r := _) rfl) (fun K hK => ?_) AllReadyH.nil
              go_simp
              obtain ⟨wk17, hwk⟩ : ∃ x, x = (w3.alloc (.cells #[I64 0, .bool false, .slice none 0 0] 26)) := ⟨_, rfl⟩
              have ha := (Below.refl w3.heap.size w3).alloc (Nat.le_refl _) (.cells #[I64 0, .bool false, .slice none 0 0] 26)
              have hK17 : Below w3.heap.size w3 wk17 := by
                rw [hwk]
                exact ha
              have HK17 := Lib.hid hK17
              have hBk : Hid (Below wq.heap.size wq wk17) := hH16.out.trans (hK17.mono hH16.out.size)
              have b8_17 : Hid (wk17.heap[w3.heap.size]? = some (Z3 0 false (.slice none 0 0))) := by
                rw [hwk]
                exact blk_new _ _
              have z17 : Hid (wk17.heap.size = w3.heap.size + 1) := by
                show _ = _
                rw [hwk]
                show (w3.alloc _).heap.size = _
                simp
              have b9_17 := Lib.hid ((hK17.block _ (lt_of_block b9_16.out)).trans b9_16.out)
              show K _ (w3.alloc (.cells #[I64 0, .bool false, .slice none 0 0] 26))
              rw [← hwk]
              refine hK.out _ _ hBk (fun hH17 => ?_)
              clear hK K ha hwk hK17
              try simp only [Act.put, List.setIfInBounds_toArray, List.set_cons_zero, List.set_cons_succ]
              have hbw := (hH17.out).size
              have hne : w3.heap.size ≠ wq.heap.size := by have := z15.out; have := z16.out; have := z17.out; omega
              have hl8 : wq.heap.size ≤ w3.heap.size := by have := z15.out; have := z16.out; have := z17.out; omega
              have hl9 : wq.heap.size ≤ wq.heap.size := by have := z15.out; have := z16.out; have := z17.out; omega
              have hi8 : w3.heap.size < wk15.heap.size ∨ w3.heap.size ≤ w3.heap.size := by have := z15.out; have := z16.out; have := z17.out; omega
              have hi9 : wq.heap.size < wk15.heap.size ∨ w3.heap.size ≤ wq.heap.size := by have := z15.out; have := z16.out; have := z17.out; omega
              obtain ⟨wz, hwz⟩ : ∃ x, x = (((wk17.setCell ⟨w3.heap.size, 0, none⟩ (I64 nn)).setCell ⟨w3.heap.size, 1, none⟩ (.bool ns)).setCell ⟨w3.heap.size, 2, none⟩ (.slice pa pn pc)) := ⟨_, rfl⟩
              have HRO : Hid (RegOut wq s c nn ns (pa, pn, pc) (r1, r2, r3) (ea, en, ec) dn (w3.heap.size) (wq.heap.size) (((wz.setCell ⟨wq.heap.size, 0, none⟩ (I64 r1)).setCell ⟨wq.heap.size, 1, none⟩ (I64 r2)).setCell ⟨wq.heap.size, 2, none⟩ (I64 r3))) := by
                rw [hwz]
                exact RegOut.make (wc := wk15) hH15.out HP3.out HB3.out (HK17.out) b8_17.out b9_17.out hne hl8 hl9 hi8 hi9
              have hBz : Hid (Below wq.heap.size wq wz) := by
                rw [hwz]
                exact (((hH17.out.setCell (p := ⟨w3.heap.size, 0, none⟩) hl8 _).setCell (p := ⟨w3.heap.size, 1, none⟩) hl8 _).setCell (p := ⟨w3.heap.size, 2, none⟩) hl8 _)
              have hBf : Hid (Below wq.heap.size wq (((wz.setCell ⟨wq.heap.size, 0, none⟩ (I64 r1)).setCell ⟨wq.heap.size, 1, none⟩ (I64 r2)).setCell ⟨wq.heap.size, 2, none⟩ (I64 r3))) := (((hBz.out.setCell (p := ⟨wq.heap.size, 0, none⟩) hl9 _).setCell (p := ⟨wq.heap.size, 1, none⟩) hl9 _).setCell (p := ⟨wq.heap.size, 2, none⟩) hl9 _)
              have bz : wz.heap[wq.heap.size]? = some (.cells #[I64 0, I64 0, I64 0] 31 (0, 0)) := by
                rw [hwz]
                exact (set3_other (w := wk17) (P := w3.heap.size) (j := wq.heap.size) hne).trans b9_17.out
              have by8 : wk17.heap[w3.heap.size]? = some (.cells #[I64 0, .bool false, .slice none 0 0] 26 (0, 0)) := b8_17.out
              have y0 := blk_cell by8 0
              have y1 := blk_cell by8 1
              have y2 := blk_cell by8 2
              have fy0 := blk_free by8 0
              have fy1 := blk_free by8 1
              have fy2 := blk_free by8 2
              simp only [List.getElem?_toArray, List.getElem?_cons_succ, List.getElem?_cons_zero] at y0 y1 y2
              have q0 := blk_cell bz 0
              have q1 := blk_cell bz 1
              have q2 := blk_cell bz 2
              have fq0 := blk_free bz 0
              have fq1 := blk_free bz 1
              have fq2 := blk_free bz 2
              simp only [List.getElem?_toArray, List.getElem?_cons_succ, List.getElem?_cons_zero] at q0 q1 q2
              clear by8 bz hne hl8 hl9 hi8 hi9 hbw
              refine wpAnyH_ready (rs := [13]) (by kernel_rfl) (by simp) ?_
              refine AllReadyH.cons (o := _) (dropAt (r := _) rfl) (fun K hK => ?_) AllReadyH.nil
              go_simp
              show K _ (((wk17.setCell ⟨w3.heap.size, 0, none⟩ (I64 nn)).setCell ⟨w3.heap.size, 1, none⟩ (.bool ns)).setCell ⟨w3.heap.size, 2, none⟩ (.slice pa pn pc))
              rw [← hwz]
              refine hK.out _ _ hBz (fun hHz => ?_)
              clear hK K hwz y0 y1 y2 fy0 fy1 fy2
              try simp only [Act.put, List.setIfInBounds_toArray, List.set_cons_zero, List.set_cons_succ]
              refine wpAnyH_ready (rs := [14]) (by kernel_rfl) (by simp) ?_
              refine AllReadyH.cons (o := _) (dropAt (r := _) rfl) (fun K hK => ?_) AllReadyH.nil
              go_simp
              refine hK.out _ _ hBf (fun hHf => ?_)
              clear hK K q0 q1 q2 fq0 fq1 fq2
              try simp only [Act.put, List.setIfInBounds_toArray, List.set_cons_zero, List.set_cons_succ]
              refine wpAnyH_take (i := 15) (oi := _) (v := ?vv15_34) (dropAt (r := _) rfl) (by kernel_rfl) (by kernel_rfl) (by kernel_rfl) (fun _ _ _ h => h) (Or.inl ⟨by rfl, ?hv15_34⟩) hHf ?rv15_34
              case hv15_34 => (intro w hSw; go_simp; first | done | with_reducible rfl)
              try simp only [Act.put, List.setIfInBounds_toArray, List.set_cons_zero, List.set_cons_succ]
              refine wpAnyH_take (i := 16) (oi := _) (v := ?vv16_35) (dropAt (r := _) rfl) (by kernel_rfl) (by kernel_rfl) (by kernel_rfl) (fun _ _ _ h => h) (Or.inl ⟨by rfl, ?hv16_35⟩) hHf ?rv16_35
              case hv16_35 => (intro w hSw; go_simp; first | done | with_reducible rfl)
              try simp only [Act.put, List.setIfInBounds_toArray, List.set_cons_zero, List.set_cons_succ]
              refine wpAnyH_done (by kernel_rfl) ?_ _
              go_wp2_with fail
              go_meet
              exact ⟨w3.heap.size, wq.heap.size, nn, ns, (pa, pn, pc), (r1, r2, r3), (ea, en, ec), dn, rfl, rfl, rfl, rfl, HRO⟩
            · go_simp
              obtain ⟨wk19, hwk⟩ : ∃ x, x = (wk15.alloc (.cells #[I64 0, .bool false, .slice none 0 0] 26)) := ⟨_, rfl⟩
              have ha := (Below.refl wk15.heap.size wk15).alloc (Nat.le_refl _) (.cells #[I64 0, .bool false, .slice none 0 0] 26)
              have hK19 : Below wk15.heap.size wk15 wk19 := by
                rw [hwk]
                exact ha
              have HK19 := Lib.hid hK19
              have hBk : Hid (Below wq.heap.size wq wk19) := hH15.out.trans (hK19.mono hH15.out.size)
              have b8_19 : Hid (wk19.heap[wk15.heap.size]? = some (Z3 0 false (.slice none 0 0))) := by
                rw [hwk]
                exact blk_new _ _
              have z19 : Hid (wk19.heap.size = wk15.heap.size + 1) := by
                show _ = _
                rw [hwk]
                show (wk15.alloc _).heap.size = _
                simp
              have b9_19 := Lib.hid ((hK19.block _ (lt_of_block b9_15.out)).trans b9_15.out)
              show K _ (wk15.alloc (.cells #[I64 0, .bool false, .slice none 0 0] 26))
              rw [← hwk]
              refine hK.out _ _ hBk (fun hH19 => ?_)
              clear hK K ha hwk hK19
              try simp only [Act.put, List.setIfInBounds_toArray, List.set_cons_zero, List.set_cons_succ]
              refine wpAnyH_ready (rs := [5]) (by kernel_rfl) (by simp) ?_
              refine AllReadyH.cons (o := _) (dropAt (r := _) rfl) (fun K hK => ?_) AllReadyH.nil
              go_simp
              refine (HPL.out _ hH19.out).mono ?_
              rintro e w3 ⟨nn, ns, ⟨pa, pn, pc⟩, ⟨r1, r2, r3⟩, ⟨ea, en, ec⟩, dn, rfl, hp, hb3⟩
              dsimp only
              have hB3 : Hid (Below wq.heap.size wq w3) := hH19.out.trans (hb3.mono hH19.out.size)
              have b9_20 := Lib.hid ((hb3.block _ (lt_of_block b9_19.out)).trans b9_19.out)
              have b8_20 := Lib.hid ((hb3.block _ (lt_of_block b8_19.out)).trans b8_19.out)
              have HP3 := Lib.hid hp
              have HB3 := Lib.hid hb3
              have z20 := Lib.hid (show wk19.heap.size ≤ w3.heap.size from hb3.size)
              refine hK.out _ _ hB3 (fun hH20 => ?_)
              clear hK K hp hb3
              try simp only [Act.put, List.setIfInBounds_toArray, List.set_cons_zero, List.set_cons_succ]
              refine wpAnyH_take (i := 6) (oi := _) (v := ?vv6_36) (dropAt (r := _) rfl) (by kernel_rfl) (by kernel_rfl) (by kernel_rfl) (fun _ _ _ h => h) (Or.inl ⟨by rfl, ?hv6_36⟩) hH20 ?rv6_36
              case hv6_36 => (intro w hSw; go_simp; first | done | with_reducible rfl)
              try simp only [Act.put, List.setIfInBounds_toArray, List.set_cons_zero, List.set_cons_succ]
              refine wpAnyH_take (i := 7) (oi := _) (v := ?vv7_37) (dropAt (r := _) rfl) (by kernel_rfl) (by kernel_rfl) (by kernel_rfl) (fun _ _ _ h => h) (Or.inl ⟨by rfl, ?hv7_37⟩) hH20 ?rv7_37
              case hv7_37 => (intro w hSw; go_simp; first | done | with_reducible rfl)
              try simp only [Act.put, List.setIfInBounds_toArray, List.set_cons_zero, List.set_cons_succ]
              refine wpAnyH_take (i := 8) (oi := _) (v := ?vv8_38) (dropAt (r := _) rfl) (by kernel_rfl) (by kernel_rfl) (by kernel_rfl) (fun _ _ _ h => h) (Or.inl ⟨by rfl, ?hv8_38⟩) hH20 ?rv8_38
              case hv8_38 => (intro w hSw; go_simp; first | done | with_reducible rfl)
              try simp only [Act.put, List.setIfInBounds_toArray, List.set_cons_zero, List.set_cons_succ]
              refine wpAnyH_take (i := 9) (oi := _) (v := ?vv9_39) (dropAt (r := _) rfl) (by kernel_rfl) (by kernel_rfl) (by kernel_rfl) (fun _ _ _ h => h) (Or.inl ⟨by rfl, ?hv9_39⟩) hH20 ?rv9_39
              case hv9_39 => (intro w hSw; go_simp; first | done | with_reducible rfl)
              try simp only [Act.put, List.setIfInBounds_toArray, List.set_cons_zero, List.set_cons_succ]
              refine wpAnyH_take (i := 10) (oi := _) (v := ?vv10_40) (dropAt (r := _) rfl) (by kernel_rfl) (by kernel_rfl) (by kernel_rfl) (fun _ _ _ h => h) (Or.inl ⟨by rfl, ?hv10_40⟩) hH20 ?rv10_40
              case hv10_40 => (intro w hSw; go_simp; first | done | with_reducible rfl)
              try simp only [Act.put, List.setIfInBounds_toArray, List.set_cons_zero, List.set_cons_succ]
              have hbw := (hH20.out).size
              have hne : wk15.heap.size ≠ wq.heap.size := by have := z15.out; have := z19.out; have := z20.out; omega
              have hl8 : wq.heap.size ≤ wk15.heap.size := by have := z15.out; have := z19.out; have := z20.out; omega
              have hl9 : wq.heap.size ≤ wq.heap.size := by have := z15.out; have := z19.out; have := z20.out; omega
              have hi8 : wk15.heap.size < wk19.heap.size ∨ w3.heap.size ≤ wk15.heap.size := by have := z15.out; have := z19.out; have := z20.out; omega
              have hi9 : wq.heap.size < wk19.heap.size ∨ w3.heap.size ≤ wq.heap.size := by have := z15.out; have := z19.out; have := z20.out; omega
              obtain ⟨wz, hwz⟩ : ∃ x, x = (((w3.setCell ⟨wk15.heap.size, 0, none⟩ (I64 nn)).setCell ⟨wk15.heap.size, 1, none⟩ (.bool ns)).setCell ⟨wk15.heap.size, 2, none⟩ (.slice pa pn pc)) := ⟨_, rfl⟩
              have HRO : Hid (RegOut wq s c nn ns (pa, pn, pc) (r1, r2, r3) (ea, en, ec) dn (wk15.heap.size) (wq.heap.size) (((wz.setCell ⟨wq.heap.size, 0, none⟩ (I64 r1)).setCell ⟨wq.heap.size, 1, none⟩ (I64 r2)).setCell ⟨wq.heap.size, 2, none⟩ (I64 r3))) := by
                rw [hwz]
                exact RegOut.make (wc := wk19) hH19.out HP3.out HB3.out (Below.refl _ _) b8_20.out b9_20.out hne hl8 hl9 hi8 hi9
              have hBz : Hid (Below wq.heap.size wq wz) := by
                rw [hwz]
                exact (((hH20.out.setCell (p := ⟨wk15.heap.size, 0, none⟩) hl8 _).setCell (p := ⟨wk15.heap.size, 1, none⟩) hl8 _).setCell (p := ⟨wk15.heap.size, 2, none⟩) hl8 _)
              have hBf : Hid (Below wq.heap.size wq (((wz.setCell ⟨wq.heap.size, 0, none⟩ (I64 r1)).setCell ⟨wq.heap.size, 1, none⟩ (I64 r2)).setCell ⟨wq.heap.size, 2, none⟩ (I64 r3))) := (((hBz.out.setCell (p := ⟨wq.heap.size, 0, none⟩) hl9 _).setCell (p := ⟨wq.heap.size, 1, none⟩) hl9 _).setCell (p := ⟨wq.heap.size, 2, none⟩) hl9 _)
              have bz : wz.heap[wq.heap.size]? = some (.cells #[I64 0, I64 0, I64 0] 31 (0, 0)) := by
                rw [hwz]
                exact (set3_other (w := w3) (P := wk15.heap.size) (j := wq.heap.size) hne).trans b9_20.out
              have by8 : w3.heap[wk15.heap.size]? = some (.cells #[I64 0, .bool false, .slice none 0 0] 26 (0, 0)) := b8_20.out
              have y0 := blk_cell by8 0
              have y1 := blk_cell by8 1
              have y2 := blk_cell by8 2
              have fy0 := blk_free by8 0
              have fy1 := blk_free by8 1
              have fy2 := blk_free by8 2
              simp only [List.getElem?_toArray, List.getElem?_cons_succ, List.getElem?_cons_zero] at y0 y1 y2
              have q0 := blk_cell bz 0
              have q1 := blk_cell bz 1
              have q2 := blk_cell bz 2
              have fq0 := blk_free bz 0
              have fq1 := blk_free bz 1
              have fq2 := blk_free bz 2
              simp only [List.getElem?_toArray, List.getElem?_cons_succ, List.getElem?_cons_zero] at q0 q1 q2
              clear by8 bz hne hl8 hl9 hi8 hi9 hbw
              refine wpAnyH_ready (rs := [13]) (by kernel_rfl) (by simp) ?_
              refine AllReadyH.cons (o := _) (dropAt (r := _) rfl) (fun K hK => ?_) AllReadyH.nil
              go_simp
              show K _ (((w3.setCell ⟨wk15.heap.size, 0, none⟩ (I64 nn)).setCell ⟨wk15.heap.size, 1, none⟩ (.bool ns)).setCell ⟨wk15.heap.size, 2, none⟩ (.slice pa pn pc))
              rw [← hwz]
              refine hK.out _ _ hBz (fun hHz => ?_)
              clear hK K hwz y0 y1 y2 fy0 fy1 fy2
              try simp only [Act.put, List.setIfInBounds_toArray, List.set_cons_zero, List.set_cons_succ]
              refine wpAnyH_ready (rs := [14]) (by kernel_rfl) (by simp) ?_
              refine AllReadyH.cons (o := _) (dropAt (r := _) rfl) (fun K hK => ?_) AllReadyH.nil
              go_simp
              refine hK.out _ _ hBf (fun hHf => ?_)
              clear hK K q0 q1 q2 fq0 fq1 fq2
              try simp only [Act.put, List.setIfInBounds_toArray, List.set_cons_zero, List.set_cons_succ]
              refine wpAnyH_take (i := 15) (oi := _) (v := ?vv15_41) (dropAt (r := _) rfl) (by kernel_rfl) (by kernel_rfl) (by kernel_rfl) (fun _ _ _ h => h) (Or.inl ⟨by rfl, ?hv15_41⟩) hHf ?rv15_41
              case hv15_41 => (intro w hSw; go_simp; first | done | with_reducible rfl)
              try simp only [Act.put, List.setIfInBounds_toArray, List.set_cons_zero, List.set_cons_succ]
              refine wpAnyH_take (i := 16) (oi := _) (v := ?vv16_42) (dropAt (r := _) rfl) (by kernel_rfl) (by kernel_rfl) (by kernel_rfl) (fun _ _ _ h => h) (Or.inl ⟨by rfl, ?hv16_42⟩) hHf ?rv16_42
              case hv16_42 => (intro w hSw; go_simp; first | done | with_reducible rfl)
              try simp only [Act.put, List.setIfInBounds_toArray, List.set_cons_zero, List.set_cons_succ]
              refine wpAnyH_done (by kernel_rfl) ?_ _
              go_wp2_with fail
              go_meet
              exact ⟨wk15.heap.size, wq.heap.size, nn, ns, (pa, pn, pc), (r1, r2, r3), (ea, en, ec), dn, rfl, rfl, rfl, rfl, HRO⟩
      case rest =>
        obtain ⟨wC, hwC⟩ : ∃ x, x = wc := ⟨_, rfl⟩
        subst hwC
        obtain ⟨T8, T9, nn, ns, ⟨pa, pn, pc⟩, ⟨r1, r2, r3⟩, ⟨ea, en, ec⟩, dn, rfl, rfl, rfl, rfl, HRO⟩ := hcut
        dsimp only
        have HBC : Hid (Below wr.heap.size wr wC) := HAL.out.trans (HRO.out.bel.mono HAL.out.size)
        have HPC : Hid (PrAt (T + 1) s wC) := HP.out.gb (Gb.of_below (S := fun _ => False) HBC.out) id
        rcases HRO.out.post with ⟨hdn, -⟩ | ⟨hdn, hE, o, ho, e1, e2, e3, hlies⟩
        · subst hdn
          have HNX : Hid (LawX w5 (fun i => i = T ∨ i = T + 1) T s (xa, xn, xc) wC) := HAQ.out.below HRO.out.bel
          go_wp2_with fail
          refine ⟨⟨i + 1, s, xa, xn, xc, hlt, by rw [show (i : Int) + 1 = ((i + 1 : Nat) : Int) by omega], HNX, HPC⟩, ?_⟩
          simp [intOf]
          omega
        · subst hdn
          have hl := Md.outcomes_ok hE
          have HWR := Lib.hid hl.2.1
          have hgood := Md.act_good HA.out.good hl.2.1 o ho
          have hst := Md.act_stays hl.2.1 o ho
          have hplen : o.next.pools.length = s.pools.length := by
            have := congrArg List.length hst.1
            simpa using this
          have hpn : pn = o.next.pools.length := pools_len (u := (pa, pn, pc)) (hlies wC (.refl _ _)).1
          have hxn : xn = s.pools.length := (HAQ.out.sta (.refl _ _)).len
          have hpx : xn = pn := by omega
          subst hpx
          have hx16 : xn ≤ 16 := by have := hgood.len2; omega
          have HXN := Lib.hid hxn
          have HOO := Lib.hid ho
          have HLI := Lib.hid hlies
          have HE1 := Lib.hid e1
          have HE2 := Lib.hid e2
          have HE3 := Lib.hid e3
          have HEE := Lib.hid hE
          have HPL2 := Lib.hid hplen
          have hKL : T + 1 < wr.heap.size := by
            obtain ⟨cs, h1, _⟩ := HP.out
            exact lt_of_block h1
          have HKL := Lib.hid hKL
          have HAT : Hid (∀ w1, Gb (fun i => i = T + 1) wC w1 → S3 T8 nn ns (.slice pa xn pc) w1 ∧ S3 T s.now s.shut (.slice xa xn xc) w1 ∧ R3 T9 0 (r1, r2, r3) w1 ∧ C8 C9 0 c w1) := fun w1 hg => by
            have hq := HAL.out.size
            have hc9 := HC9.out
            have k8 := hg.blk HRO.out.b8 (by have := HRO.out.l8; have := HKL.out; omega)
            have k9 := hg.blk HRO.out.b9 (by have := HRO.out.l9; have := HKL.out; omega)
            have kT := hg.blk ((HRO.out.bel.block _ (lt_of_block HAQ.out.st)).trans HAQ.out.st) (by omega)
            have kc := hg.blk ((HRO.out.bel.block _ (lt_of_block HN9.out)).trans HN9.out) (by have := HKL.out; omega)
            exact ⟨⟨blk_cell k8 0, blk_cell k8 1, blk_cell k8 2⟩, ⟨blk_cell kT 0, blk_cell kT 1, blk_cell kT 2⟩, ⟨blk_cell k9 0, blk_cell k9 1, blk_cell k9 2⟩, ⟨blk_cell kc 0, blk_cell kc 1, blk_cell kc 2, blk_cell kc 3, blk_cell kc 4, blk_cell kc 5, blk_cell kc 6, blk_cell kc 7⟩⟩
          have HNEXT : Hid (∀ wz, Gb (fun i => i = T + 1) wC wz → (wz.heap[T]? = some (Z3 s.now s.shut (.slice xa xn xc))) ∧ LawX w5 (fun i => i = T ∨ i = T + 1) T o.next (pa, xn, pc) (((wz.setCell ⟨T, 0, none⟩ (I64 nn)).setCell ⟨T, 1, none⟩ (.bool ns)).setCell ⟨T, 2, none⟩ (.slice pa xn pc))) := fun wz hg => by
            have q := HAQ.out.next HEE.out HOO.out HX.out.call HX.out.conn HRO.out.bel (fun w2 h2 => (HLI.out w2 h2).1) (fun i hi => .inl hi) (hg.mono fun i _ (q : i = T + 1) => ⟨.inr q, by omega, by have := HKL.out; have := HAL.out.size; omega⟩) (fun i q => by have := HKL.out; have := HAL.out.size; rcases q with q | q <;> omega)
            rw [← HE1.out, ← HE2.out] at q
            exact q
          clear hl hgood hst hplen hpn hxn ho hlies e1 e2 e3 hE hKL
          obtain ⟨⟨n0, n1, n2⟩, ⟨t0, t1, t2⟩, r9, c9⟩ := HAT.out wC (.refl _ _)
          unfold R3 at r9
          unfold C8 at c9
          simp only [Nat.zero_add] at r9 c9
          obtain ⟨r90, r91, r92⟩ := r9
          obtain ⟨c90, c91, c92, c93, c94, c95, c96, c97⟩ := c9
          have hxx : ((xn : Int) != (xn : Int)) = false := by simp
          go_upto_region 11 with fail
          go_cut [92] from 34 to 185 (fun v wx => v = .bool false ∧ wx = wC)
          case first =>
            as_aux_lemma =>
              have hko := Md.kind_ok HWR.out
              by_cases hk7 : c.kind = 7
              · have b7 : (c.kind != 7) = false := by rw [bne_eq_false_iff_eq]; exact hk7
                clear hk7 hko
                go_wp2_with fail
                go_meet
                exact ⟨rfl, rfl⟩
              · have b7 : (c.kind != 7) = true := by rw [bne_iff_ne]; exact hk7
                by_cases hk5 : c.kind = 5
                · have b5 : (c.kind != 5) = false := by rw [bne_eq_false_iff_eq]; exact hk5
                  clear hk7 hko hk5
                  go_wp2_with fail
                  go_meet
                  exact ⟨rfl, rfl⟩
                · have b5 : (c.kind != 5) = true := by rw [bne_iff_ne]; exact hk5
                  by_cases hk6 : c.kind = 6
                  · have b6 : (c.kind != 6) = false := by rw [bne_eq_false_iff_eq]; exact hk6
                    clear hk7 hko hk5 hk6
                    go_wp2_with fail
                    go_meet
                    exact ⟨rfl, rfl⟩
                  · have b6 : (c.kind != 6) = true := by rw [bne_iff_ne]; exact hk6
                    obtain ⟨hbk, h0, -⟩ := Md.backend_ok HWR.out (Md.uses_backend hko.1 hko.2 hk5 hk6 hk7)
                    have d0 : decide (c.backend < 0) = false := decide_eq_false (by omega)
                    have d1 : decide ((xn : Int) ≤ c.backend) = false := decide_eq_false (by have := HXN.out; omega)
                    have d0n : ¬ c.backend < 0 := by omega
                    have d1n : ¬ (xn : Int) ≤ c.backend := by have := HXN.out; omega
                    clear hk7 hko hk5 hk6 hbk h0
                    go_wp2_with fail
                    go_meet
                    exact ⟨rfl, rfl⟩
          case rest =>
            obtain ⟨rfl, hwx⟩ := hcut
            have hwx2 := hwx.symm
            subst hwx2
            clear hwx n0 n1 n2 t0 t1 t2 r90 r91 r92 c90 c91 c92 c93 c94 c95 c96 c97
            obtain ⟨⟨n0, n1, n2⟩, ⟨t0, t1, t2⟩, r9, c9⟩ := HAT.out wC (.refl _ _)
            unfold R3 at r9
            unfold C8 at c9
            simp only [Nat.zero_add] at r9 c9
            obtain ⟨r90, r91, r92⟩ := r9
            obtain ⟨c90, c91, c92, c93, c94, c95, c96, c97⟩ := c9
            go_upto_block 2 with fail
            clear n0 n1 n2 t0 t1 t2 r90 r91 r92 c90 c91 c92 c93 c94 c95 c96 c97
            go_cut [14, 15] from 34 to 185 (fun _ _ wx => Hid (Gb (fun i => i = T + 1) wC wx ∧ PrAt (T + 1) o.next wx))
            case first =>
              as_aux_lemma =>
                by_cases hk7 : c.kind = 7
                · have b7 : (c.kind == 7) = true := by rw [beq_iff_eq]; exact hk7
                  by_cases hr8 : r1 = 8
                  · have r8b : (r1 != 8) = false := by rw [bne_eq_false_iff_eq]; exact hr8
                    obtain ⟨b, hb, hrb, hmay, hnp⟩ := Md.pick_may hk7 o HOO.out (by rw [← HE3.out]; exact hr8)
                    rw [← HE3.out] at hrb
                    replace hrb : r2 = (b : Int) := hrb
                    subst hrb
                    obtain ⟨hsk0, hsk1⟩ := Md.skip_ok HWR.out hk7
                    have hrd0 := (HAQ.out.below HRO.out.bel).lies wC (.refl _ _)
                    obtain ⟨pvs, hrd⟩ := rd_of hrd0
                    have hbp : b < pvs.length := by rw [hrd.2.1]; exact hb
                    obtain ⟨g, oo, cp, e, _, hcp⟩ := hrd.1.form (by intro e; rw [e] at hbp; simp at hbp)
                    unfold valS at e
                    injection e with f1 f2 f3
                    replace f1 : xa = some ⟨g, oo, none⟩ := f1
                    subst f1
                    clear f2 f3 hrd0
                    have hrk := hrd.2.2 b hbp hb
                    have hrow := hcp b hbp
                    have hcz := HPC.out
                    obtain ⟨cs, ka, kb, kc, kd⟩ := hcz
                    have hz := kd b hb
                    have h16 := HXN.out
                    have hx16b : s.pools.length ≤ 16 := by omega
                    have kz0 := (blk_cell ka b).trans hz
                    have HPT := Lib.hid (fun (w1 : World) (hpw : PrAt (T + 1) s w1) (hq : s.pools[b].breaker = 2) => hpw.put (t := o.next) hb hx16b hnp (z := c.call) (by unfold Md.pickP; rw [if_pos (by rw [hq]; rfl)]))
                    have HPS := Lib.hid (fun (hq : s.pools[b].breaker ≠ 2) => HPC.out.same (t := o.next) (by rw [hnp]; unfold Md.pickP; rw [if_neg (by rw [beq_iff_eq]; exact hq), List.set_getElem_self]))
                    have hbx : b < xn := by omega
                    generalize s.pools[b] = pk at hmay hrk hz kz0 HPT HPS
                    generalize pvs[b] = pv at hrow hrk
                    obtain ⟨⟨mx, qu, id, ag⟩, ⟨ia, iN, ic⟩, ⟨la, lN, lc⟩, ⟨da, dN, dc⟩, ⟨wa, wN, wc2⟩, up, br, pr⟩ := pv
                    have hup := hrk.up
                    have hbr := hrk.breaker
                    have hpr := hrk.probe
                    dsimp only at hup hbr hpr
                    rw [← hpr] at kz0
                    rw [← hbr] at HPT HPS
                    unfold Md.may at hmay
                    rw [← hup, ← hbr, ← hpr] at hmay
                    simp only [Bool.and_eq_true, Bool.or_eq_true, beq_iff_eq, decide_eq_true_eq] at hmay
                    obtain ⟨⟨hmu, hmb⟩, hms⟩ := hmay
                    subst hmu
                    have rr : ∀ j v, (encP ⟨⟨mx, qu, id, ag⟩, (ia, iN, ic), (la, lN, lc), (da, dN, dc), (wa, wN, wc2), true, br, pr⟩)[j]? = some v → wC.cell? ⟨g, oo + b * 11 + j, none⟩ = some v := hrow
                    have m0 : wC.cell? ⟨g, oo + b * 11, none⟩ = some (I64 mx) := rr 0 _ rfl
                    have m1 : wC.cell? ⟨g, oo + b * 11 + 1, none⟩ = some (I64 qu) := rr 1 _ rfl
                    have m2 : wC.cell? ⟨g, oo + b * 11 + 2, none⟩ = some (I64 id) := rr 2 _ rfl
                    have m3 : wC.cell? ⟨g, oo + b * 11 + 3, none⟩ = some (I64 ag) := rr 3 _ rfl
                    have m4 : wC.cell? ⟨g, oo + b * 11 + 4, none⟩ = some (.slice ia iN ic) := rr 4 _ rfl
                    have m5 : wC.cell? ⟨g, oo + b * 11 + 5, none⟩ = some (.slice la lN lc) := rr 5 _ rfl
                    have m6 : wC.cell? ⟨g, oo + b * 11 + 6, none⟩ = some (.slice da dN dc) := rr 6 _ rfl
                    have m7 : wC.cell? ⟨g, oo + b * 11 + 7, none⟩ = some (.slice wa wN wc2) := rr 7 _ rfl
                    have m8 : wC.cell? ⟨g, oo + b * 11 + 8, none⟩ = some (.bool true) := rr 8 _ rfl
                    have m9 : wC.cell? ⟨g, oo + b * 11 + 9, none⟩ = some (I64 br) := rr 9 _ rfl
                    have m10 : wC.cell? ⟨g, oo + b * 11 + 10, none⟩ = some (I64 pr) := rr 10 _ rfl
                    have hal := (Below.refl wC.heap.size wC).alloc (Nat.le_refl _) (.cells #[I64 mx, I64 qu, I64 id, I64 ag, .slice ia iN ic, .slice la lN lc, .slice da dN dc, .slice wa wN wc2, .bool true, I64 br, I64 pr] 48)
                    have hP := blk_new wC (.cells #[I64 mx, I64 qu, I64 id, I64 ag, .slice ia iN ic, .slice la lN lc, .slice da dN dc, .slice wa wN wc2, .bool true, I64 br, I64 pr] 48)
                    have HAW := Lib.hid hal
                    have kz : (wC.alloc (.cells #[I64 mx, I64 qu, I64 id, I64 ag, .slice ia iN ic, .slice la lN lc, .slice da dN dc, .slice wa wN wc2, .bool true, I64 br, I64 pr] 48)).cell? ⟨T + 1, b, none⟩ = some (I64 pr) := (hal.cell (p := ⟨T + 1, _, none⟩) (cell_lt kz0)).trans kz0
                    have fz0 := blk_free ka b
                    have fz : (wC.alloc (.cells #[I64 mx, I64 qu, I64 id, I64 ag, .slice ia iN ic, .slice la lN lc, .slice da dN dc, .slice wa wN wc2, .bool true, I64 br, I64 pr] 48)).frozen? ⟨T + 1, b, none⟩ = false := (hal.frozen (p := ⟨T + 1, _, none⟩) (lt_of_block ka)).trans fz0
                    have hbK : T + 1 < wC.heap.size := lt_of_block ka
                    have HPW : Hid (PrAt (T + 1) s (wC.alloc (.cells #[I64 mx, I64 qu, I64 id, I64 ag, .slice ia iN ic, .slice la lN lc, .slice da dN dc, .slice wa wN wc2, .bool true, I64 br, I64 pr] 48))) := HPC.out.gb (Gb.of_below (S := fun _ => False) hal) (fun q => q)
                    have HPT2 := Lib.hid (True.intro)
                    have hs1 := Md.skip_rem hsk0 b hms
                    have hs2 := Md.skip_tmod hsk0 b hms
                    have hs0 := Md.skip_nn hsk0 b
                    have hbI : (b : Int) < (xn : Int) := by omega
                    have hb16 : (b : Int) < 16 := by omega
                    have hb16n : b < 16 := by omega
                    have hb0 : (0 : Int) ≤ (b : Int) := by omega
                    have hb0d : decide ((b : Int) < 0) = false := decide_eq_false (by omega)
                    have hbge : decide ((xn : Int) ≤ (b : Int)) = false := decide_eq_false (by omega)
                    have hbge2 : decide (xn ≤ b) = false := decide_eq_false (by omega)
                    have hbge3 : ¬ xn ≤ b := by omega
                    obtain ⟨⟨n0, n1, n2⟩, ⟨t0, t1, t2⟩, r9, c9⟩ := HAT.out wC (.refl _ _)
                    unfold R3 at r9
                    unfold C8 at c9
                    simp only [Nat.zero_add] at r9 c9
                    obtain ⟨r90, r91, r92⟩ := r9
                    obtain ⟨c90, c91, c92, c93, c94, c95, c96, c97⟩ := c9
                    obtain ⟨⟨u0, u1, u2⟩, ⟨v0, v1, v2⟩, y9, x9⟩ := HAT.out (wC.alloc (.cells #[I64 mx, I64 qu, I64 id, I64 ag, .slice ia iN ic, .slice la lN lc, .slice da dN dc, .slice wa wN wc2, .bool true, I64 br, I64 pr] 48)) (Gb.of_below hal)
                    unfold R3 at y9
                    unfold C8 at x9
                    simp only [Nat.zero_add] at y9 x9
                    obtain ⟨y90, y91, y92⟩ := y9
                    obtain ⟨x90, x91, x92, x93, x94, x95, x96, x97⟩ := x9
                    clear hrd hcp hrk hrow hz kz0 fz0 ka kb kc kd hnp h16 hx16b rr hal hms hsk0 hsk1 hr8 hk7 hb hbp hup hbr hpr
                    rcases hmb with hmb | hmb
                    · have e1 : (br == 1) = false := by rw [beq_eq_false_iff_ne]; omega
                      have e2 : (br == 2) = false := by rw [beq_eq_false_iff_ne]; omega
                      have HPF := Lib.hid ((HPS.out (by omega)).gb (Gb.of_below (S := fun _ => False) HAW.out) (fun q => q))
                      clear hmb HPS HPT HPT2
                      go_wp2_with fail
                      go_meet
                      exact ⟨.of_below HAW.out, HPF.out⟩
                    · have e1 : (br == 1) = false := by rw [beq_eq_false_iff_ne]; omega
                      have e2 : (br == 2) = true := by rw [beq_iff_eq]; exact hmb.1
                      have e3 : (pr != 0) = false := by rw [bne_eq_false_iff_eq]; exact hmb.2
                      have HPF := Lib.hid ((HPT.out wC HPC.out hmb.1).gb (Gb.of_below (S := fun _ => False) ((Below.refl _ _).alloc (Nat.le_refl _) (.cells #[I64 mx, I64 qu, I64 id, I64 ag, .slice ia iN ic, .slice la lN lc, .slice da dN dc, .slice wa wN wc2, .bool true, I64 br, I64 pr] 48))) (fun q => q))
                      clear hmb HPS HPT HPT2
                      go_wp2_with fail
                      go_meet
                      exact ⟨((Gb.refl (fun i => i = T + 1) wC).setCell (x := ⟨T + 1, b, none⟩) rfl _).alloc _, HPF.out⟩
                  · have r8b : (r1 != 8) = true := by rw [bne_iff_ne]; exact hr8
                    have hnx := Md.pick_not hk7 o HOO.out (by rw [← HE3.out]; exact hr8)
                    have HPN := Lib.hid (HPC.out.same (t := o.next) (by rw [hnx]))
                    clear hnx hr8 hk7
                    obtain ⟨⟨n0, n1, n2⟩, ⟨t0, t1, t2⟩, r9, c9⟩ := HAT.out wC (.refl _ _)
                    unfold R3 at r9
                    unfold C8 at c9
                    simp only [Nat.zero_add] at r9 c9
                    obtain ⟨r90, r91, r92⟩ := r9
                    obtain ⟨c90, c91, c92, c93, c94, c95, c96, c97⟩ := c9
                    go_wp2_with fail
                    go_meet
                    exact ⟨.refl _ _, HPN.out⟩
                · have b7 : (c.kind == 7) = false := by rw [beq_eq_false_iff_ne]; exact hk7
                  by_cases hk8 : c.kind = 8
                  · have b8 : (c.kind == 8) = true := by rw [beq_iff_eq]; exact hk8
                    obtain ⟨hbk, h0, hpp⟩ := Md.backend_ok HWR.out (by rw [hk8]; rfl)
                    obtain ⟨b, hcb⟩ : ∃ b : Nat, c.backend = (b : Int) := ⟨c.backend.toNat, by omega⟩
                    have hbs : b < s.pools.length := by omega
                    have hbn : c.backend.toNat = b := by omega
                    have hpb : Md.pool s c.backend = s.pools[b] := by
                      rw [hpp]
                      simp only [hbn]
                    have hnp : o.next.pools = s.pools.set b (Md.report s.pools[b] c) := by
                      rw [Md.act_report hk8 o HOO.out, hpb]
                      unfold Md.setPool
                      rw [hbn]
                    have hcz := HPC.out
                    obtain ⟨cs, ka, kb, kc, kd⟩ := hcz
                    have hz := kd b hbs
                    have kz := (blk_cell ka b).trans hz
                    have fz := blk_free ka b
                    have h16 := HXN.out
                    have hb16 : (b : Int) < 16 := by omega
                    have hb16n : b < 16 := by omega
                    have hb0 : (0 : Int) ≤ (b : Int) := by omega
                    have hbx : (b : Int) < (xn : Int) := by omega
                    have hbK : T + 1 < wC.heap.size := lt_of_block ka
                    by_cases hpc : s.pools[b].probe = c.call
                    · have hq8 : Md.report s.pools[b] c = { s.pools[b] with probe := 0, breaker := if c.yes then 0 else 1 } := by
                        unfold Md.report
                        rw [if_pos (by rw [beq_iff_eq]; exact hpc)]
                      have hbs16 : s.pools.length ≤ 16 := by omega
                      have HPT := Lib.hid (fun (w1 : World) (hp : PrAt (T + 1) s w1) => hp.put (t := o.next) hbs hbs16 hnp (z := 0) (by rw [hq8]))
                      have hbn2 : b < o.next.pools.length := by rw [hnp, List.length_set]; exact hbs
                      have hbr2 : o.next.pools[b].breaker = (if c.yes then 0 else 1) := by
                        simp only [hnp, List.getElem_set_self]
                        rw [hq8]
                      have HGX : Hid (∀ w1, Gb (fun i => i = T + 1) wC w1 → Gb (fun i => i < wq.heap.size ∨ i = T8 ∨ i = T9) wC w1) := fun w1 hg => hg.mono (fun i _ (q : i = T + 1) => .inl (by have h1 := HKL.out; have h2 := HAL.out.size; omega))
                      have HMB : Hid (∃ g oo, pa = some ⟨g, oo, none⟩ ∧ ∀ w1, Gb (fun i => i = T + 1) wC w1 → w1.cell? ⟨g, oo + b * 11 + 9, none⟩ = some (I64 (if c.yes then 0 else 1))) := by
                        have key : ∀ w1, Gb (fun i => i = T + 1) wC w1 → ∃ g oo, pa = some ⟨g, oo, none⟩ ∧ w1.cell? ⟨g, oo + b * 11 + 9, none⟩ = some (I64 (if c.yes then 0 else 1)) := fun w1 hg => by
                          obtain ⟨pvs, hrd⟩ := rd_of (HLI.out w1 (HGX.out w1 hg)).1
                          have hbp : b < pvs.length := by rw [hrd.2.1]; exact hbn2
                          obtain ⟨g, oo, cp, e, _, hcp⟩ := hrd.1.form (by intro e; rw [e] at hbp; simp at hbp)
                          unfold valS at e
                          injection e with f1 f2 f3
                          have hrk := (hrd.2.2 b hbp hbn2).breaker
                          rw [hbr2] at hrk
                          have mb := hcp b hbp 9 _ rfl
                          rw [hrk] at mb
                          exact ⟨g, oo, f1, mb⟩
                        obtain ⟨g, oo, e, _⟩ := key wC (.refl _ _)
                        refine ⟨g, oo, e, fun w1 hg => ?_⟩
                        obtain ⟨g2, oo2, e2, h2⟩ := key w1 hg
                        rw [e] at e2
                        injection e2 with e2
                        injection e2 with e3 e4
                        subst e3 e4
                        exact h2
                      obtain ⟨g, oo, hpa, hmb⟩ := HMB.out
                      subst hpa
                      have HMB2 := Lib.hid hmb
                      have hcc : s.pools[b].probe = c.call := hpc
                      rw [hcc] at kz
                      have heq : (c.call == c.call) = true := by simp
                      obtain ⟨⟨n0, n1, n2⟩, ⟨t0, t1, t2⟩, r9, c9⟩ := HAT.out wC (.refl _ _)
                      unfold R3 at r9
                      unfold C8 at c9
                      simp only [Nat.zero_add] at r9 c9
                      obtain ⟨r90, r91, r92⟩ := r9
                      obtain ⟨c90, c91, c92, c93, c94, c95, c96, c97⟩ := c9
                      have HCB := Lib.hid hcb
                      rw [hcb] at c91
                      clear HMB hmb hbr2 hbn2 hq8 hpp hpb hnp hz ka kb kc kd hk7 hk8 hbk h0 h16 hpc hcc hbs hbn hcb
                      go_wp2_with fail
                      go_quiet (fail)
                      go_upto_region 26 with fail
                      obtain ⟨wS, hwS⟩ : ∃ x, x = (wC.drewN nq).setCell ⟨T + 1, b, none⟩ (I64 0) := ⟨_, rfl⟩
                      have hgS : Gb (fun i => i = T + 1) wC wS := by
                        rw [hwS]
                        exact (Gb.of_below (S := fun i => i = T + 1) (below_drewN (.refl _ _) _)).setCell (x := ⟨T + 1, b, none⟩) rfl _
                      have HPS := Lib.hid (HPT.out _ (HPC.out.gb (Gb.of_below (S := fun _ => False) (below_drewN (.refl _ _) nq)) (fun q => q)))
                      rw [← hwS] at HPS
                      simp only [← hwS]
                      have HGS := Lib.hid hgS
                      have hmb := HMB2.out wS hgS
                      clear n0 n1 n2 t0 t1 t2 r90 r91 r92 c90 c91 c92 c93 c94 c95 c96 c97
                      obtain ⟨⟨n0, n1, n2⟩, ⟨t0, t1, t2⟩, r9, c9⟩ := HAT.out wS hgS
                      unfold R3 at r9
                      unfold C8 at c9
                      simp only [Nat.zero_add] at r9 c9
                      obtain ⟨r90, r91, r92⟩ := r9
                      obtain ⟨c90, c91, c92, c93, c94, c95, c96, c97⟩ := c9
                      rw [HCB.out] at c91
                      clear hwS hgS
                      obtain ⟨yy, hyy⟩ : ∃ x, x = c.yes := ⟨_, rfl⟩
                      rw [← hyy] at c95 hmb
                      clear hyy
                      cases yy with
                      | true =>
                        have HON := Lib.hid (one_any false wS)
                        simp only [if_true, if_false, Bool.false_eq_true] at hmb HON
                        go_wp2_with fail
                        refine HON.out.mono ?_
                        rintro e w9 ⟨rfl, hw9⟩
                        subst hw9
                        go_wp2_with fail
                        go_meet
                        exact ⟨HGS.out, HPS.out⟩
                      | false =>
                        have HON := Lib.hid (one_any true wS)
                        simp only [if_true, if_false, Bool.false_eq_true] at hmb HON
                        go_wp2_with fail
                        refine HON.out.mono ?_
                        rintro e w9 ⟨rfl, hw9⟩
                        subst hw9
                        go_wp2_with fail
                        go_meet
                        exact ⟨HGS.out, HPS.out⟩
                    · have hq8 : Md.report s.pools[b] c = s.pools[b] := by
                        unfold Md.report
                        rw [if_neg (by rw [beq_iff_eq]; exact hpc)]
                      have HPN := Lib.hid (HPC.out.same (t := o.next) (by rw [hnp, hq8, List.set_getElem_self]))
                      have heq : (s.pools[b].probe == c.call) = false := by rw [beq_eq_false_iff_ne]; exact hpc
                      generalize s.pools[b].probe = pz at kz heq
                      obtain ⟨⟨n0, n1, n2⟩, ⟨t0, t1, t2⟩, r9, c9⟩ := HAT.out wC (.refl _ _)
                      unfold R3 at r9
                      unfold C8 at c9
                      simp only [Nat.zero_add] at r9 c9
                      obtain ⟨r90, r91, r92⟩ := r9
                      obtain ⟨c90, c91, c92, c93, c94, c95, c96, c97⟩ := c9
                      rw [hcb] at c91
                      clear hpp hpb hnp hz ka kb kc kd hk7 hk8 hbk h0 h16 hpc hbs hbn hq8
                      go_wp2_with fail
                      go_quiet (fail)
                      go_wp2_with fail
                      go_meet
                      exact ⟨.of_below (below_drewN (.refl _ _) _), HPN.out.gb (Gb.of_below (S := fun _ => False) (below_drewN (.refl _ _) _)) (fun q => q)⟩
                  · have b8 : (c.kind == 8) = false := by rw [beq_eq_false_iff_ne]; exact hk8
                    by_cases hk10 : c.kind = 10
                    · have b10 : (c.kind == 10) = true := by rw [beq_iff_eq]; exact hk10
                      obtain ⟨hbk, h0, hpp⟩ := Md.backend_ok HWR.out (by rw [hk10]; rfl)
                      obtain ⟨b, hcb⟩ : ∃ b : Nat, c.backend = (b : Int) := ⟨c.backend.toNat, by omega⟩
                      have hbs : b < s.pools.length := by omega
                      have hnp : o.next.pools = s.pools.set b { Md.pool s c.backend with breaker := c.breaker, probe := 0 } := by
                        rw [Md.act_trip hk10 o HOO.out]
                        unfold Md.setPool
                        rw [hcb]
                        rfl
                      have HPT := Lib.hid (HPC.out.put hbs (by have := HXN.out; omega) hnp (z := 0) rfl)
                      obtain ⟨cs, ka, kb, kc, kd⟩ := HPC.out
                      obtain ⟨z, hz⟩ := kc b (by have := HXN.out; omega)
                      have kz := (blk_cell ka b).trans hz
                      have fz := blk_free ka b
                      have hb16 : (b : Int) < 16 := by have := HXN.out; omega
                      have hb16n : b < 16 := by have := HXN.out; omega
                      have hb0 : (0 : Int) ≤ (b : Int) := by omega
                      clear hk7 hk8 hk10 hbk h0 hpp hnp ka kb kc kd hz hbs
                      obtain ⟨⟨n0, n1, n2⟩, ⟨t0, t1, t2⟩, r9, c9⟩ := HAT.out wC (.refl _ _)
                      unfold R3 at r9
                      unfold C8 at c9
                      simp only [Nat.zero_add] at r9 c9
                      obtain ⟨r90, r91, r92⟩ := r9
                      obtain ⟨c90, c91, c92, c93, c94, c95, c96, c97⟩ := c9
                      rw [hcb] at c91
                      clear hcb
                      go_wp2_with fail
                      go_meet
                      exact ⟨(Gb.refl (fun i => i = T + 1) wC).setCell (x := ⟨T + 1, b, none⟩) rfl _, HPT.out⟩
                    · have b10 : (c.kind == 10) = false := by rw [beq_eq_false_iff_ne]; exact hk10
                      have hpn := HPC.out.same (t := o.next) (Md.act_probes hk7 hk8 (Md.kind_ok HWR.out).1 (by have := (Md.kind_ok HWR.out).2; omega) o HOO.out)
                      have HPN := Lib.hid hpn
                      clear hpn hk7 hk8 hk10
                      obtain ⟨⟨n0, n1, n2⟩, ⟨t0, t1, t2⟩, r9, c9⟩ := HAT.out wC (.refl _ _)
                      unfold R3 at r9
                      unfold C8 at c9
                      simp only [Nat.zero_add] at r9 c9
                      obtain ⟨r90, r91, r92⟩ := r9
                      obtain ⟨c90, c91, c92, c93, c94, c95, c96, c97⟩ := c9
                      go_wp2_with fail
                      go_meet
                      exact ⟨.refl _ _, HPN.out⟩
            case rest =>
              obtain ⟨hgw, hpw⟩ := hcut.out
              obtain ⟨⟨n0, n1, n2⟩, ⟨t0, t1, t2⟩, r9, c9⟩ := HAT.out wc hgw
              unfold R3 at r9
              unfold C8 at c9
              simp only [Nat.zero_add] at r9 c9
              obtain ⟨r90, r91, r92⟩ := r9
              obtain ⟨c90, c91, c92, c93, c94, c95, c96, c97⟩ := c9
              obtain ⟨hT, hnx⟩ := HNEXT.out wc hgw
              unfold Z3 at hT
              have x0 := blk_cell hT 0
              have x1 := blk_cell hT 1
              have x2 := blk_cell hT 2
              have fx0 := blk_free hT 0
              have fx1 := blk_free hT 1
              have fx2 := blk_free hT 2
              simp only [List.getElem?_toArray, List.getElem?_cons_succ, List.getElem?_cons_zero] at x0 x1 x2
              have HNXT := Lib.hid hnx
              have HPR : Hid (PrAt (T + 1) o.next (((wc.setCell ⟨T, 0, none⟩ (I64 nn)).setCell ⟨T, 1, none⟩ (.bool ns)).setCell ⟨T, 2, none⟩ (.slice pa xn pc))) := hpw.gb ((((Gb.refl (fun i => i = T) wc).setCell (x := ⟨T, 0, none⟩) rfl _).setCell (x := ⟨T, 1, none⟩) rfl _).setCell (x := ⟨T, 2, none⟩) rfl _) (by omega)
              clear hT hnx hgw hpw hcut t0 t1 t2 r90 r91 r92 c90 c91 c92 c93 c94 c95 c96 c97
              go_wp2_with fail
              refine ⟨⟨i + 1, o.next, pa, xn, pc, hlt, by rw [show (i : Int) + 1 = ((i + 1 : Nat) : Int) by omega], HNXT, HPR⟩, ?_⟩
              simp [intOf]
              omega
    · have hin2 : ¬ (i : Int) < (vn : Int) := by omega
      have hbw : Below w.heap.size w wr := H5.out.1.trans (HA.out.gb.below H5.out.1.size (fun j q => by have := H5.out.2.2.2.2; rcases q with q | q <;> omega))
      have HBW := Lib.hid hbw
      clear hbw hlt hiN
      go_wp2_with fail
      refine (awake_any _).mono ?_
      rintro e w7 ⟨rfl, hb7⟩
      have HF := Lib.hid (HBW.out.trans (hb7.mono HBW.out.size))
      clear hb7
      go_wp2
      go_ret
      exact ⟨rfl, HF.out⟩
theorem picks_all (lims : List Md.Lim) (u : SlV) (acts : List (Md.Call × Int)) (v : SlV) (w : World) (h : ReadsL 4 encLim w (valS u) lims) (h2 : ReadsL 9 encAct w (valS v) acts) (hin : ∀ x ∈ acts, ActIn x) :
    Calls Try.prog 5 #[valS u, valS v] w fun e w' => e = .returned (.bool true) ∧ Below w.heap.size w w' := by
  by_cases hE : (Md.new lims).2 = 0
  · by_cases hbig : acts.length ≤ 80
    · exact picks_loop lims u acts v w h h2 hE hbig hin
    · exact picks_far lims u acts v w h h2 hE (by omega)
  · exact picks_no lims u acts v w h h2 hE
end Go.Proofs.Ytaicmiadgnpimaa
