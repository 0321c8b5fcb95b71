/-
  The law ModelOrder of layer 26.
-/
import Derived.Test.YtaicmiadgnpimaaMdL0
import Derived.Test.YtaicmiadgnpimaaMw69
import Derived.Test.YtaicmiadgnpimaaMdOrder
import Derived.Deep.DeepCutAuto
import Derived.Deep.CutRange
import Derived.Deep.CutBlock
namespace Go.Proofs.Ytaicmiadgnpimaa
open Go.RowKit

/-- Where the law's loop stands: the state lies in block T; those that wait, in a block behind all that was there before the loop. -/
structure LawO (w5 : World) (T : Nat) (s : Md.State) (u : SlV) (W : List Int) (v : SlV) (wr : World) : Prop where
 good : Md.Good s
 bnd : Md.Bnd s
 tlt : T < w5.heap.size
 st : wr.heap[T]? = some (Z3 s.now s.shut (valS u))
 lies : PoolsAt wr (valS u) s.pools
 gb : Gb (fun i => i = T) w5 wr
 own : OwnO wr w5.heap.size v W
 wait : ∃ p, s.pools = [p] ∧ Md.waitOf p = W
theorem LawO.sta {w5 : World} {T : Nat} {s : Md.State} {u : SlV} {W : List Int} {v : SlV} {wr : World} (h : LawO w5 T s u W v wr) {w1 : World} (hb : Below wr.heap.size wr w1) : Sta w1 u s := ⟨h.good, h.bnd, h.lies.below hb⟩
theorem LawO.below {w5 : World} {T : Nat} {s : Md.State} {u : SlV} {W : List Int} {v : SlV} {wr : World} (h : LawO w5 T s u W v wr) {w1 : World} (hb : Below wr.heap.size wr w1) : LawO w5 T s u W v w1 :=
 ⟨h.good, h.bnd, h.tlt, (hb.block _ (lt_of_block h.st)).trans h.st, h.lies.below hb, h.gb.trans (.of_below hb), h.own.below hb, h.wait⟩
theorem LawO.next {w5 : World} {T : Nat} {s : Md.State} {u : SlV} {W W' : List Int} {v v' : SlV} {wr wx wz : World} {c : Md.Call} {o : Md.Outcome} {nv : SlV} {X : Nat → Prop} {q : Md.Pool} (h : LawO w5 T s u W v wr) (hE : (Md.outcomes s c).2 = 0) (ho : o ∈ Md.act s c) (h1 : c.call ≤ 9223372036854775807) (h2 : c.conn ≤ 9223372036854775807)
 (hb : Below wr.heap.size wr wx) (hx : ∀ w2, Gb X wx w2 → PoolsAt w2 (valS nv) o.next.pools) (hX : ∀ i, i < wr.heap.size → X i) (hz : Gb (fun i => w5.heap.size ≤ i ∧ i < wr.heap.size) wx wz) (hown : OwnO wz w5.heap.size v' W') (hq : o.next.pools = [q]) (hw : Md.waitOf q = W') :
 (wz.heap[T]? = some (Z3 s.now s.shut (valS u))) ∧ LawO w5 T o.next nv W' v' (((wz.setCell ⟨T, 0, none⟩ (I64 o.next.now)).setCell ⟨T, 1, none⟩ (.bool o.next.shut)).setCell ⟨T, 2, none⟩ (valS nv)) := by
 have hl := Md.outcomes_ok hE
 have hlt := lt_of_block h.st
 have htl := h.tlt
 have e1 : wz.heap[T]? = some (Z3 s.now s.shut (valS u)) := (hz.block _ (Nat.lt_of_lt_of_le hlt hb.size) (fun q => by omega)).trans ((hb.block _ hlt).trans h.st)
 have hXT := hX T hlt
 have hzX : Gb X wx wz := hz.mono (fun i _ q => hX i q.2)
 have hg : Gb X wx (((wz.setCell ⟨T, 0, none⟩ (I64 o.next.now)).setCell ⟨T, 1, none⟩ (.bool o.next.shut)).setCell ⟨T, 2, none⟩ (valS nv)) := ((hzX.setCell (x := ⟨T, 0, none⟩) hXT _).setCell (x := ⟨T, 1, none⟩) hXT _).setCell (x := ⟨T, 2, none⟩) hXT _
 have hgz : Gb (fun i => i = T) wz (((wz.setCell ⟨T, 0, none⟩ (I64 o.next.now)).setCell ⟨T, 1, none⟩ (.bool o.next.shut)).setCell ⟨T, 2, none⟩ (valS nv)) := (((Gb.refl (fun i => i = T) wz).setCell (x := ⟨T, 0, none⟩) rfl _).setCell (x := ⟨T, 1, none⟩) rfl _).setCell (x := ⟨T, 2, none⟩) rfl _
 refine ⟨e1, Md.act_good h.good hl.2.1 o ho, Md.act_bnd hl.2.1 h.bnd h1 h2 o ho, htl, ?_, hx _ hg, ?_, hown.gb hgz (fun g hg e => ?_), q, hq, hw⟩
 · have q := blk_set (blk_set (blk_set e1 0 (I64 o.next.now)) 1 (.bool o.next.shut)) 2 (valS nv)
   rw [q]
   simp [Z3]
 · have k := ((h.gb.trans (.of_below hb)).then hz (fun i hi q => by omega))
   exact k.trans hgz
 · have := (hown.at hg).1
   omega
theorem ord_none {k b c n : Int} {W V : List Int} {t : List Md.Effect} (h1 : k ≠ 1) (h2 : k ≠ 2) (h5 : k ≠ 5) (h6 : k ≠ 6) (h : Md.ordEff W ((k, b, c, n) :: t) = some V) : Md.ordEff W t = some V := by
 unfold Md.ordEff at h
 rw [if_neg (by dsimp only; omega), if_neg (by dsimp only; omega)] at h
 exact h
theorem ord_head {k b c n : Int} {W V : List Int} {t : List Md.Effect} (h1 : k = 1 ∨ k = 2) (h : Md.ordEff W ((k, b, c, n) :: t) = some V) : ∃ W2, W = c :: W2 ∧ Md.ordEff W2 t = some V := by
 unfold Md.ordEff at h
 rw [if_pos (by exact h1)] at h
 split at h
 · rename_i q
   cases W with
   | nil => simp at q
   | cons a W2 =>
    simp at q
    exact ⟨W2, by rw [q], h⟩
 · cases h
theorem ord_gone {k b c n : Int} {W V : List Int} {t : List Md.Effect} (h1 : k = 5 ∨ k = 6) (h : Md.ordEff W ((k, b, c, n) :: t) = some V) : c ∈ W ∧ Md.ordEff (W.erase c) t = some V := by
 unfold Md.ordEff at h
 rw [if_neg (by dsimp only; omega), if_pos (by exact h1)] at h
 split at h
 · rename_i q
   exact ⟨q, h⟩
 · cases h
theorem ord_len {V : List Int} : ∀ (t : List Md.Effect) (W : List Int), Md.ordEff W t = some V → W.length ≤ V.length + t.length
 | [], W, h => by
  injection h with h
  subst h
  simp
 | (k, b, c, n) :: t, W, h => by
  by_cases h1 : k = 1 ∨ k = 2
  · obtain ⟨W2, rfl, h2⟩ := ord_head h1 h
    have := ord_len t W2 h2
    simp only [List.length_cons]
    omega
  · by_cases h5 : k = 5 ∨ k = 6
    · obtain ⟨hm, h2⟩ := ord_gone h5 h
      have := ord_len t _ h2
      rw [List.length_erase_of_mem hm] at this
      simp only [List.length_cons]
      omega
    · have := ord_len t W (ord_none (by omega) (by omega) (by omega) (by omega) h)
      simp only [List.length_cons]
      omega
/-- Those that wait behind the first part of a call. -/
def ord1 (W : List Int) (c : Md.Call) (r : Md.Result) : List Int := if (c.kind == 1 && r.1 == 3) = true then W ++ [c.call] else W
theorem ord_call (W : List Int) (c : Md.Call) (r : Md.Result) : Md.ordCall W c r = if (c.kind == 4) = true then (ord1 W c r).erase c.call else ord1 W c r := by
 unfold Md.ordCall ord1
 simp only [Bool.and_eq_true, beq_iff_eq]
theorem lim_reads (lim : Md.Lim) (w : World) : ReadsL 4 encLim ((w.alloc (.cells #[I64 lim.max, I64 lim.queue, I64 lim.idle, I64 lim.age] 42)).alloc (.cells #[I64 lim.max, I64 lim.queue, I64 lim.idle, I64 lim.age] 42)) (valS (some ⟨w.heap.size + 1, 0, none⟩, 1, 1)) [lim] := by
 have hb : ((w.alloc (.cells #[I64 lim.max, I64 lim.queue, I64 lim.idle, I64 lim.age] 42)).alloc (.cells #[I64 lim.max, I64 lim.queue, I64 lim.idle, I64 lim.age] 42)).heap[w.heap.size + 1]? = some (.cells #[I64 lim.max, I64 lim.queue, I64 lim.idle, I64 lim.age] 42) := by
  have := blk_new (w.alloc (.cells #[I64 lim.max, I64 lim.queue, I64 lim.idle, I64 lim.age] 42)) (.cells #[I64 lim.max, I64 lim.queue, I64 lim.idle, I64 lim.age] 42)
  simpa using this
 refine .inr ⟨w.heap.size + 1, 0, 1, rfl, lt_of_block hb, fun j hj i u hu => ?_⟩
 have hj0 : j = 0 := by simpa using hj
 subst hj0
 rw [blk_cell hb]
 simpa [encLim] using hu
set_option maxHeartbeats 8000000 in
set_option maxRecDepth 100000 in
set_option linter.unusedVariables false in
set_option linter.unusedSimpArgs false in
theorem order_no (lim : Md.Lim) (acts : List (Md.Call × Int)) (v : SlV) (w : World) (h2 : ReadsL 9 encAct w (valS v) acts) (hE : (Md.new [lim]).2 ≠ 0) :
 Calls Try.prog 4 #[.agg #[I64 lim.max, I64 lim.queue, I64 lim.idle, I64 lim.age], valS v] w fun e w' => e = .returned (.bool true) ∧ Below w.heap.size w w' := by
 have HB := Lib.hid (begun_no [lim] _ _ (lim_reads lim w) hE)
 obtain ⟨va, vn, vc⟩ := v
 have hvn := read_len h2
 dsimp only at hvn
 have hl0 := Lib.hid (((Below.refl w.heap.size w).alloc (Nat.le_refl _) (.cells #[I64 lim.max, I64 lim.queue, I64 lim.idle, I64 lim.age] 42)).alloc (by simp) (.cells #[I64 lim.max, I64 lim.queue, I64 lim.idle, I64 lim.age] 42))
 obtain ⟨mx, qu, id, ag⟩ := lim
 dsimp only at *
 unfold valS at *
 dsimp only at *
 clear h2 hE hvn
 go_enter Try.func4, Try.ntmps4
 go_wp2_with fail
 refine HB.out.mono ?_
 rintro e w2 ⟨⟨pa, pn, pc⟩, rfl, -, hb2⟩
 dsimp only
 obtain ⟨nn, hnn⟩ : ∃ x, x = (Md.new [⟨mx, qu, id, ag⟩]).1.now := ⟨_, rfl⟩
 obtain ⟨ns, hns⟩ : ∃ x, x = (Md.new [⟨mx, qu, id, ag⟩]).1.shut := ⟨_, rfl⟩
 rw [← hnn, ← hns]
 clear hnn hns
 have ha := (Below.refl w2.heap.size w2).alloc (Nat.le_refl _) (.cells #[I64 nn, .bool ns, .slice pa pn pc] 26)
 have HA := Lib.hid (hl0.out.trans ((hb2.trans (ha.mono hb2.size)).mono hl0.out.size))
 clear hb2 ha
 go_wp2_with fail
 refine (awake_any _).mono ?_
 rintro e w3 ⟨rfl, hb3⟩
 have HF := Lib.hid (HA.out.trans (hb3.mono HA.out.size))
 clear hb3
 go_wp2
 go_ret
 exact ⟨rfl, HF.out⟩
set_option maxHeartbeats 8000000 in
set_option maxRecDepth 100000 in
set_option linter.unusedVariables false in
set_option linter.unusedSimpArgs false in
theorem order_far (lim : Md.Lim) (acts : List (Md.Call × Int)) (v : SlV) (w : World) (h2 : ReadsL 9 encAct w (valS v) acts) (hE : (Md.new [lim]).2 = 0) (hbig : 80 < acts.length) :
 Calls Try.prog 4 #[.agg #[I64 lim.max, I64 lim.queue, I64 lim.idle, I64 lim.age], valS v] w fun e w' => e = .returned (.bool true) ∧ Below w.heap.size w w' := by
 have HB := Lib.hid (begun_ok [lim] _ _ (lim_reads lim w) hE)
 obtain ⟨va, vn, vc⟩ := v
 have hvn := read_len h2
 dsimp only at hvn
 have hl0 := Lib.hid (((Below.refl w.heap.size w).alloc (Nat.le_refl _) (.cells #[I64 lim.max, I64 lim.queue, I64 lim.idle, I64 lim.age] 42)).alloc (by simp) (.cells #[I64 lim.max, I64 lim.queue, I64 lim.idle, I64 lim.age] 42))
 have hz1 : decide ((80 : Int) < (vn : Int)) = true := decide_eq_true (by omega)
 obtain ⟨mx, qu, id, ag⟩ := lim
 dsimp only at *
 unfold valS at *
 dsimp only at *
 clear h2 hE hvn hbig
 go_enter Try.func4, Try.ntmps4
 go_wp2_with fail
 refine HB.out.mono ?_
 rintro e w2 ⟨⟨pa, pn, pc⟩, rfl, -, hb2⟩
 dsimp only
 obtain ⟨nn, hnn⟩ : ∃ x, x = (Md.new [⟨mx, qu, id, ag⟩]).1.now := ⟨_, rfl⟩
 obtain ⟨ns, hns⟩ : ∃ x, x = (Md.new [⟨mx, qu, id, ag⟩]).1.shut := ⟨_, rfl⟩
 rw [← hnn, ← hns]
 clear hnn hns
 have ha := (Below.refl w2.heap.size w2).alloc (Nat.le_refl _) (.cells #[I64 nn, .bool ns, .slice pa pn pc] 26)
 have HA := Lib.hid (hl0.out.trans ((hb2.trans (ha.mono hb2.size)).mono hl0.out.size))
 clear hb2 ha
 go_wp2_with fail
 refine (awake_any _).mono ?_
 rintro e w3 ⟨rfl, hb3⟩
 have HF := Lib.hid (HA.out.trans (hb3.mono HA.out.size))
 clear hb3
 go_wp2
 go_ret
 exact ⟨rfl, HF.out⟩
theorem new_wait {l : Md.Lim} (h : (Md.new [l]).2 = 0) : ∃ p, (Md.new [l]).1.pools = [p] ∧ Md.waitOf p = [] := by
 have e : (Md.new [l]).1.pools = [l].map Md.fresh := by
  unfold Md.new at h ⊢
  split
  · rename_i hq
    rw [if_pos hq] at h
    exact absurd h (by decide)
  · rename_i hq
    rw [if_neg hq] at h
    split
    · rfl
    · rename_i ha
      rw [if_neg ha] at h
      exact absurd h (by decide)
 exact ⟨Md.fresh l, e, rfl⟩
theorem wait_len {s : Md.State} {p : Md.Pool} (hg : Md.Good s) (hp : s.pools = [p]) : (Md.waitOf p).length ≤ 200000 := by
 have hs := good_small hg p (by rw [hp]; simp)
 unfold PoolSmall at hs
 unfold Md.waitOf
 rw [List.length_map]
 omega
set_option maxHeartbeats 8000000 in
set_option maxRecDepth 100000 in
set_option linter.unusedVariables false in
set_option linter.unusedSimpArgs false in
theorem order_loop (lim : Md.Lim) (acts : List (Md.Call × Int)) (v : SlV) (w : World) (h2 : ReadsL 9 encAct w (valS v) acts) (hE : (Md.new [lim]).2 = 0) (hbig : acts.length ≤ 80) (hin : ∀ x ∈ acts, ActIn x) :
 Calls Try.prog 4 #[.agg #[I64 lim.max, I64 lim.queue, I64 lim.idle, I64 lim.age], valS v] w fun e w' => e = .returned (.bool true) ∧ Below w.heap.size w w' := by
 have HB := Lib.hid (begun_ok [lim] _ _ (lim_reads lim w) hE)
 obtain ⟨hgc, hgl, hgm⟩ := Md.new_good hE
 have HG0 := Lib.hid (Md.check_ok.1 hgc)
 have HB0 := Lib.hid (new_bnd hE)
 have HP0 := Lib.hid (new_wait hE)
 obtain ⟨va, vn, vc⟩ := v
 have hvn := read_len h2
 dsimp only at hvn
 have hl0 := Lib.hid (((Below.refl w.heap.size w).alloc (Nat.le_refl _) (.cells #[I64 lim.max, I64 lim.queue, I64 lim.idle, I64 lim.age] 42)).alloc (by simp) (.cells #[I64 lim.max, I64 lim.queue, I64 lim.idle, I64 lim.age] 42))
 have hz1 : decide ((80 : Int) < (vn : Int)) = false := decide_eq_false (by omega)
 have hvn80 : vn ≤ 80 := by omega
 obtain ⟨mx, qu, id, ag⟩ := lim
 dsimp only at *
 unfold valS at *
 dsimp only at *
 have HV := Lib.hid h2
 have HVN := Lib.hid hvn
 have HIN := Lib.hid hin
 generalize (Md.new [⟨mx, qu, id, ag⟩]).1 = s0 at *
 obtain ⟨nn, hnn⟩ : ∃ x, x = s0.now := ⟨_, rfl⟩
 obtain ⟨ns, hns⟩ : ∃ x, x = s0.shut := ⟨_, rfl⟩
 rw [← hnn, ← hns] at HB
 have HNN := Lib.hid hnn
 have HNS := Lib.hid hns
 clear h2 hE hvn hbig hgc hgl hgm hin hnn hns
 go_enter Try.func4, Try.ntmps4
 go_wp2_with fail
 refine HB.out.mono ?_
 rintro e w2 ⟨⟨pa, pn, pc⟩, rfl, hlies, hb2⟩
 dsimp only at hlies ⊢
 obtain ⟨w5, hw5⟩ : ∃ x, x = w2.alloc (.cells #[I64 nn, .bool ns, .slice pa pn pc] 26) := ⟨_, rfl⟩
 obtain ⟨T, hT⟩ : ∃ x, x = w2.heap.size := ⟨_, rfl⟩
 have H5 : Hid (Below w.heap.size w w5 ∧ LawO w5 T s0 (pa, pn, pc) [] (none, 0, 0) w5 ∧ w5.heap.size = T + 1 ∧ w.heap.size ≤ T) := by
  have a1 := (Below.refl w2.heap.size w2).alloc (Nat.le_refl _) (.cells #[I64 nn, .bool ns, .slice pa pn pc] 26)
  have s1 : (w2.alloc (.cells #[I64 nn, .bool ns, .slice pa pn pc] 26)).heap.size = T + 1 := by rw [hT]; simp
  have b1 := blk_new w2 (.cells #[I64 nn, .bool ns, .slice pa pn pc] 26)
  rw [← hw5] at a1 b1 s1
  rw [← hT] at b1
  have hbw := hl0.out.trans ((hb2.trans (a1.mono hb2.size)).mono hl0.out.size)
  refine ⟨hbw, ⟨HG0.out, HB0.out, by omega, by rw [← HNN.out, ← HNS.out]; exact b1, hlies w5 (Gb.of_below a1), .refl _ _, OwnO.nil _ _, HP0.out⟩, s1, by rw [hT]; exact Nat.le_trans hl0.out.size hb2.size⟩
 clear hlies hb2
 go_wp2_with fail
 simp only [← hw5, ← hT]
 clear hw5 hT
 go_loopw [7, 8, 9, 10, 11, 12, 13, 14, 15, 16, 17, 18] (fun wv iv _ _ _ _ _ _ _ _ _ _ wr => ∃ i : Nat, ∃ s : Md.State, ∃ xa xn xc W ya yn yc, i ≤ vn ∧ iv = .int .i64 i ∧ wv = .slice ya yn yc ∧ Hid (LawO w5 T s (xa, xn, xc) W (ya, yn, yc) wr)) (fun _ iv _ _ _ _ _ _ _ _ _ _ _ => vn - (intOf iv).toNat)
 case atStart => exact ⟨0, s0, pa, pn, pc, [], none, 0, 0, Nat.zero_le _, rfl, rfl, H5.out.2.1⟩
 case round =>
  obtain ⟨wv, hwv⟩ : ∃ x, x = wr := ⟨_, rfl⟩
  subst hwv
  obtain ⟨i, s, xa, xn, xc, W, ya, yn, yc, hiN, rfl, rfl, HA⟩ := hrel
  by_cases hlt : i < vn
  · have hiv : i < acts.length := by rw [← HVN.out]; exact hlt
    have hbw : Below w.heap.size w wv := H5.out.1.trans (HA.out.gb.below H5.out.1.size (fun j (q : j = T) => by have := H5.out.2.2.2; omega))
    have HBW := Lib.hid hbw
    obtain ⟨ga, oa, ca, e, _, hca⟩ := HV.out.form (by intro e; rw [e] at hiv; simp at hiv)
    injection e with e1 e2 e3
    replace e1 : va = some ⟨ga, oa, none⟩ := e1
    subst e1
    clear e2 e3
    have hrowa := hca i hiv
    have hx := HIN.out _ (List.getElem_mem hiv)
    generalize acts[i] = x at hrowa hx
    obtain ⟨c, pk⟩ := x
    have hxl : ∀ j v, (encAct (c, pk))[j]? = some v → w.cell? ⟨ga, oa + i * 9 + j, none⟩ = some v := hrowa
    have HXL := Lib.hid hxl
    have HX := Lib.hid hx
    have hal := (Below.refl wv.heap.size wv).alloc (Nat.le_refl _) (.cells #[I64 c.kind, I64 c.backend, I64 c.call, I64 c.conn, I64 c.time, .bool c.yes, I64 c.skip, I64 c.breaker] 36)
    have hn9 := blk_new wv (.cells #[I64 c.kind, I64 c.backend, I64 c.call, I64 c.conn, I64 c.time, .bool c.yes, I64 c.skip, I64 c.breaker] 36)
    obtain ⟨wq, hwq⟩ : ∃ x, x = wv.alloc (.cells #[I64 c.kind, I64 c.backend, I64 c.call, I64 c.conn, I64 c.time, .bool c.yes, I64 c.skip, I64 c.breaker] 36) := ⟨_, rfl⟩
    rw [← hwq] at hal hn9
    obtain ⟨C9, hC9⟩ : ∃ x, x = wv.heap.size := ⟨_, rfl⟩
    rw [← hC9] at hn9
    have HAL := Lib.hid hal
    have HC9 := Lib.hid hC9
    have HN9 := Lib.hid hn9
    have HCC : Hid (∀ w1, Below w.heap.size w w1 → C8 ga (oa + i * 9) c w1 ∧ w1.cell? ⟨ga, oa + i * 9 + 8, none⟩ = some (.int .u8 pk)) := fun w1 hb1 => by
     have hcc : ∀ j v, (encAct (c, pk))[j]? = some v → w1.cell? ⟨ga, oa + i * 9 + j, none⟩ = some v := fun j v hv => (hb1.cell (p := ⟨ga, _, none⟩) (cell_lt (HXL.out j v hv))).trans (HXL.out j v hv)
     exact ⟨⟨hcc 0 _ rfl, hcc 1 _ rfl, hcc 2 _ rfl, hcc 3 _ rfl, hcc 4 _ rfl, hcc 5 _ rfl, hcc 6 _ rfl, hcc 7 _ rfl⟩, hcc 8 _ rfl⟩
    have HAQ : Hid (LawO w5 T s (xa, xn, xc) W (ya, yn, yc) wq) := HA.out.below hal
    have HCL : Hid (∀ w1, Below wq.heap.size wq w1 → S3 T s.now s.shut (.slice xa xn xc) w1 ∧ C8 ga (oa + i * 9) c w1 ∧ w1.cell? ⟨ga, oa + i * 9 + 8, none⟩ = some (.int .u8 pk)) := fun w1 h1 => by
     have b0 := (h1.block _ (lt_of_block HAQ.out.st)).trans HAQ.out.st
     have hb1 := HBW.out.trans ((HAL.out.trans (h1.mono HAL.out.size)).mono HBW.out.size)
     exact ⟨⟨blk_cell b0 0, blk_cell b0 1, blk_cell b0 2⟩, HCC.out w1 hb1⟩
    have HPL : Hid (∀ w1, Below wq.heap.size wq w1 → Calls Try.prog 10 #[.agg #[I64 s.now, .bool s.shut, .slice xa xn xc], .agg #[I64 c.kind, I64 c.backend, I64 c.call, I64 c.conn, I64 c.time, .bool c.yes, I64 c.skip, I64 c.breaker, .int .u8 pk]] w1 fun e w' => ∃ nn ns nv r ev dn, e = .returned (.tuple #[.agg #[I64 nn, .bool ns, .slice nv.1 nv.2.1 nv.2.2], .agg #[I64 r.1, I64 r.2.1, I64 r.2.2], .slice ev.1 ev.2.1 ev.2.2, .bool dn]) ∧ PlPost s c (fun i => i < w1.heap.size) nn ns nv r ev dn w' ∧ Below w1.heap.size w1 w') := fun w1 h1 => played_any c pk s (xa, xn, xc) w1 (HAQ.out.sta h1) HX.out.p0 HX.out.p1
    have hltI : (i : Int) < (vn : Int) := by omega
    obtain ⟨⟨c0, c1, c2, c3, c4, c5, c6, c7⟩, c8⟩ := HCC.out wv hbw
    clear hbw hca hrowa hx hxl hal hn9 c8
    go_upto_region 9 with fail
    simp only [← hwq, ← hC9]
    clear hwq hC9 c0 c1 c2 c3 c4 c5 c6 c7
    go_cut [10, 11, 12, 13] from 33 to 156 (fun v8 v9 v10 v11 wx => ∃ T8 T9 nn ns nv r ev dn, v8 = .pointer (some ⟨T8, 0, none⟩) ∧ v9 = .pointer (some ⟨T9, 0, none⟩) ∧ v10 = .slice ev.1 ev.2.1 ev.2.2 ∧ v11 = .bool dn ∧ Hid (RegOut wq s c nn ns nv r ev dn T8 T9 wx))
    case first =>
     as_aux_lemma =>
      refine wp_region_held_drew (S := fun w1 => Hid (Below wq.heap.size wq w1)) (by kernel_rfl) ((Below.refl _ _).drew) (fun hH0 => ?_)
      refine tk 0 (v := ?vv0_1) (dropAt rfl) (Or.inl ⟨by rfl, ?hv0_1⟩) hH0 ?rv0_1
      case hv0_1 => (intro w hSw; obtain ⟨⟨s0_, s1_, s2_⟩, ⟨c0, c1, c2, c3, c4, c5, c6, c7⟩, c8⟩ := HCL.out _ hSw.out; go_simp; first | done | with_reducible rfl)
      try simp only [Act.put, pu2, pu3, pu4]
      refine tk 1 (v := ?vv1_2) (dropAt rfl) (Or.inl ⟨by rfl, ?hv1_2⟩) hH0 ?rv1_2
      case hv1_2 => (intro w hSw; obtain ⟨⟨s0_, s1_, s2_⟩, ⟨c0, c1, c2, c3, c4, c5, c6, c7⟩, c8⟩ := HCL.out _ hSw.out; go_simp; first | done | with_reducible rfl)
      try simp only [Act.put, pu2, pu3, pu4]
      refine tk 2 (v := ?vv2_3) (dropAt rfl) (Or.inl ⟨by rfl, ?hv2_3⟩) hH0 ?rv2_3
      case hv2_3 => (intro w hSw; obtain ⟨⟨s0_, s1_, s2_⟩, ⟨c0, c1, c2, c3, c4, c5, c6, c7⟩, c8⟩ := HCL.out _ hSw.out; go_simp; first | done | with_reducible rfl)
      try simp only [Act.put, pu2, pu3, pu4]
      refine tk 3 (v := ?vv3_4) (dropAt rfl) (Or.inl ⟨by rfl, ?hv3_4⟩) hH0 ?rv3_4
      case hv3_4 => (intro w hSw; obtain ⟨⟨s0_, s1_, s2_⟩, ⟨c0, c1, c2, c3, c4, c5, c6, c7⟩, c8⟩ := HCL.out _ hSw.out; go_simp; first | done | with_reducible rfl)
      try simp only [Act.put, pu2, pu3, pu4]
      refine tk 4 (v := ?vv4_5) (dropAt rfl) (Or.inl ⟨by rfl, ?hv4_5⟩) hH0 ?rv4_5
      case hv4_5 => (intro w hSw; obtain ⟨⟨s0_, s1_, s2_⟩, ⟨c0, c1, c2, c3, c4, c5, c6, c7⟩, c8⟩ := HCL.out _ hSw.out; go_simp; first | done | with_reducible rfl)
      try simp only [Act.put, pu2, pu3, pu4]
      refine wpAnyH_ready (rs := [5, 11, 12]) (by kernel_rfl) (by simp) ?_
      refine AllReadyH.cons (o := _) (dropAt rfl) (fun K hK => ?_) (AllReadyH.cons (o := _) (dropAt rfl) (fun K hK => ?_) (AllReadyH.cons (o := _) (dropAt rfl) (fun K hK => ?_) AllReadyH.nil))
      · go_simp
        refine (HPL.out _ hH0.out).mono ?_
        rintro e w3 ⟨nn, ns, ⟨pa, pn, pc⟩, ⟨r1, r2, r3⟩, ⟨ea, en, ec⟩, dn, rfl, hp, hb3⟩
        dsimp only
        have hB3 : Hid (Below wq.heap.size wq w3) := hH0.out.trans (hb3.mono hH0.out.size)
        have HP3 := Lib.hid hp
        have HB3 := Lib.hid hb3
        have z1 := Lib.hid (show wq.heap.size ≤ w3.heap.size from hb3.size)
        refine hK.out _ _ hB3 (fun hH1 => ?_)
        clear hK K hp hb3
        try simp only [Act.put, pu2, pu3, pu4]
        refine tk 6 (v := ?vv6_6) (dropAt rfl) (Or.inl ⟨by rfl, ?hv6_6⟩) hH1 ?rv6_6
        case hv6_6 => (intro w hSw; go_simp; first | done | with_reducible rfl)
        try simp only [Act.put, pu2, pu3, pu4]
        refine tk 7 (v := ?vv7_7) (dropAt rfl) (Or.inl ⟨by rfl, ?hv7_7⟩) hH1 ?rv7_7
        case hv7_7 => (intro w hSw; go_simp; first | done | with_reducible rfl)
        try simp only [Act.put, pu2, pu3, pu4]
        refine tk 8 (v := ?vv8_8) (dropAt rfl) (Or.inl ⟨by rfl, ?hv8_8⟩) hH1 ?rv8_8
        case hv8_8 => (intro w hSw; go_simp; first | done | with_reducible rfl)
        try simp only [Act.put, pu2, pu3, pu4]
        refine tk 9 (v := ?vv9_9) (dropAt rfl) (Or.inl ⟨by rfl, ?hv9_9⟩) hH1 ?rv9_9
        case hv9_9 => (intro w hSw; go_simp; first | done | with_reducible rfl)
        try simp only [Act.put, pu2, pu3, pu4]
        refine tk 10 (v := ?vv10_10) (dropAt rfl) (Or.inl ⟨by rfl, ?hv10_10⟩) hH1 ?rv10_10
        case hv10_10 => (intro w hSw; go_simp; first | done | with_reducible rfl)
        try simp only [Act.put, pu2, pu3, pu4]
        refine wpAnyH_ready (rs := [11, 12]) (by kernel_rfl) (by simp) ?_
        refine AllReadyH.cons (o := _) (dropAt rfl) (fun K hK => ?_) (AllReadyH.cons (o := _) (dropAt rfl) (fun K hK => ?_) AllReadyH.nil)
        · go_simp
          obtain ⟨wk2, hwk⟩ : ∃ x, x = (w3.alloc (.cells #[I64 0, .bool false, .slice none 0 0] 26)) := ⟨_, rfl⟩
          have ha := (Below.refl w3.heap.size w3).alloc (Nat.le_refl _) (.cells #[I64 0, .bool false, .slice none 0 0] 26)
          have hK2 : Below w3.heap.size w3 wk2 := by
           rw [hwk]
           exact ha
          have HK2 := Lib.hid hK2
          have hBk : Hid (Below wq.heap.size wq wk2) := hH1.out.trans (hK2.mono hH1.out.size)
          have b8_2 : Hid (wk2.heap[w3.heap.size]? = some (Z3 0 false (.slice none 0 0))) := by
           rw [hwk]
           exact blk_new _ _
          have z2 : Hid (wk2.heap.size = w3.heap.size + 1) := by
           show _ = _
           rw [hwk]
           show (w3.alloc _).heap.size = _
           simp
          show K _ (w3.alloc (.cells #[I64 0, .bool false, .slice none 0 0] 26))
          rw [← hwk]
          refine hK.out _ _ hBk (fun hH2 => ?_)
          clear hK K ha hwk hK2
          try simp only [Act.put, pu2, pu3, pu4]
          refine wpAnyH_ready (rs := [12]) (by kernel_rfl) (by simp) ?_
          refine AllReadyH.cons (o := _) (dropAt rfl) (fun K hK => ?_) AllReadyH.nil
          go_simp
          obtain ⟨wk3, hwk⟩ : ∃ x, x = (wk2.alloc (.cells #[I64 0, I64 0, I64 0] 31)) := ⟨_, rfl⟩
          have ha := (Below.refl wk2.heap.size wk2).alloc (Nat.le_refl _) (.cells #[I64 0, I64 0, I64 0] 31)
          have hK3 : Below wk2.heap.size wk2 wk3 := by
           rw [hwk]
           exact ha
          have HK3 := Lib.hid hK3
          have hBk : Hid (Below wq.heap.size wq wk3) := hH2.out.trans (hK3.mono hH2.out.size)
          have b9_3 : Hid (wk3.heap[wk2.heap.size]? = some (Q3 0 0 0)) := by
           rw [hwk]
           exact blk_new _ _
          have z3 : Hid (wk3.heap.size = wk2.heap.size + 1) := by
           show _ = _
           rw [hwk]
           show (wk2.alloc _).heap.size = _
           simp
          have b8_3 := Lib.hid ((hK3.block _ (lt_of_block b8_2.out)).trans b8_2.out)
          show K _ (wk2.alloc (.cells #[I64 0, I64 0, I64 0] 31))
          rw [← hwk]
          refine hK.out _ _ hBk (fun hH3 => ?_)
          clear hK K ha hwk hK3
          try simp only [Act.put, pu2, pu3, pu4]
          have hbw := (hH3.out).size
          have hne : w3.heap.size ≠ wk2.heap.size := by have := z1.out; have := z2.out; have := z3.out; omega
          have hl8 : wq.heap.size ≤ w3.heap.size := by have := z1.out; have := z2.out; have := z3.out; omega
          have hl9 : wq.heap.size ≤ wk2.heap.size := by have := z1.out; have := z2.out; have := z3.out; omega
          have hi8 : w3.heap.size < wq.heap.size ∨ w3.heap.size ≤ w3.heap.size := by have := z1.out; have := z2.out; have := z3.out; omega
          have hi9 : wk2.heap.size < wq.heap.size ∨ w3.heap.size ≤ wk2.heap.size := by have := z1.out; have := z2.out; have := z3.out; omega
          obtain ⟨wz, hwz⟩ : ∃ x, x = (((wk3.setCell ⟨w3.heap.size, 0, none⟩ (I64 nn)).setCell ⟨w3.heap.size, 1, none⟩ (.bool ns)).setCell ⟨w3.heap.size, 2, none⟩ (.slice pa pn pc)) := ⟨_, rfl⟩
          have HRO : Hid (RegOut wq s c nn ns (pa, pn, pc) (r1, r2, r3) (ea, en, ec) dn (w3.heap.size) (wk2.heap.size) (((wz.setCell ⟨wk2.heap.size, 0, none⟩ (I64 r1)).setCell ⟨wk2.heap.size, 1, none⟩ (I64 r2)).setCell ⟨wk2.heap.size, 2, none⟩ (I64 r3))) := by
           rw [hwz]
           exact RegOut.make (wc := wq.drew) hH0.out HP3.out HB3.out (HK2.out.trans (HK3.out.mono HK2.out.size)) b8_3.out b9_3.out hne hl8 hl9 hi8 hi9
          have hBz : Hid (Below wq.heap.size wq wz) := by
           rw [hwz]
           exact (((hH3.out.setCell (p := ⟨w3.heap.size, 0, none⟩) hl8 _).setCell (p := ⟨w3.heap.size, 1, none⟩) hl8 _).setCell (p := ⟨w3.heap.size, 2, none⟩) hl8 _)
          have hBf : Hid (Below wq.heap.size wq (((wz.setCell ⟨wk2.heap.size, 0, none⟩ (I64 r1)).setCell ⟨wk2.heap.size, 1, none⟩ (I64 r2)).setCell ⟨wk2.heap.size, 2, none⟩ (I64 r3))) := (((hBz.out.setCell (p := ⟨wk2.heap.size, 0, none⟩) hl9 _).setCell (p := ⟨wk2.heap.size, 1, none⟩) hl9 _).setCell (p := ⟨wk2.heap.size, 2, none⟩) hl9 _)
          have bz : wz.heap[wk2.heap.size]? = some (.cells #[I64 0, I64 0, I64 0] 31 (0, 0)) := by
           rw [hwz]
           exact (set3_other (w := wk3) (P := w3.heap.size) (j := wk2.heap.size) hne).trans b9_3.out
          have by8 : wk3.heap[w3.heap.size]? = some (.cells #[I64 0, .bool false, .slice none 0 0] 26 (0, 0)) := b8_3.out
          have y0 := blk_cell by8 0
          have y1 := blk_cell by8 1
          have y2 := blk_cell by8 2
          have fy0 := blk_free by8 0
          have fy1 := blk_free by8 1
          have fy2 := blk_free by8 2
          simp only [List.getElem?_toArray, List.getElem?_cons_succ, List.getElem?_cons_zero] at y0 y1 y2
          have q0 := blk_cell bz 0
          have q1 := blk_cell bz 1
          have q2 := blk_cell bz 2
          have fq0 := blk_free bz 0
          have fq1 := blk_free bz 1
          have fq2 := blk_free bz 2
          simp only [List.getElem?_toArray, List.getElem?_cons_succ, List.getElem?_cons_zero] at q0 q1 q2
          clear by8 bz hne hl8 hl9 hi8 hi9 hbw
          refine wpAnyH_ready (rs := [13]) (by kernel_rfl) (by simp) ?_
          refine AllReadyH.cons (o := _) (dropAt rfl) (fun K hK => ?_) AllReadyH.nil
          go_simp
          show K _ (((wk3.setCell ⟨w3.heap.size, 0, none⟩ (I64 nn)).setCell ⟨w3.heap.size, 1, none⟩ (.bool ns)).setCell ⟨w3.heap.size, 2, none⟩ (.slice pa pn pc))
          rw [← hwz]
          refine hK.out _ _ hBz (fun hHz => ?_)
          clear hK K hwz y0 y1 y2 fy0 fy1 fy2
          try simp only [Act.put, pu2, pu3, pu4]
          refine wpAnyH_ready (rs := [14]) (by kernel_rfl) (by simp) ?_
          refine AllReadyH.cons (o := _) (dropAt rfl) (fun K hK => ?_) AllReadyH.nil
          go_simp
          refine hK.out _ _ hBf (fun hHf => ?_)
          clear hK K q0 q1 q2 fq0 fq1 fq2
          try simp only [Act.put, pu2, pu3, pu4]
          refine tk 15 (v := ?vv15_11) (dropAt rfl) (Or.inl ⟨by rfl, ?hv15_11⟩) hHf ?rv15_11
          case hv15_11 => (intro w hSw; go_simp; first | done | with_reducible rfl)
          try simp only [Act.put, pu2, pu3, pu4]
          refine tk 16 (v := ?vv16_12) (dropAt rfl) (Or.inl ⟨by rfl, ?hv16_12⟩) hHf ?rv16_12
          case hv16_12 => (intro w hSw; go_simp; first | done | with_reducible rfl)
          try simp only [Act.put, pu2, pu3, pu4]
          refine wpAnyH_done (by kernel_rfl) ?_ _
          go_wp2_with fail
          go_meet
          exact ⟨w3.heap.size, wk2.heap.size, nn, ns, (pa, pn, pc), (r1, r2, r3), (ea, en, ec), dn, rfl, rfl, rfl, rfl, HRO⟩
        · go_simp
          obtain ⟨wk5, hwk⟩ : ∃ x, x = (w3.alloc (.cells #[I64 0, I64 0, I64 0] 31)) := ⟨_, rfl⟩
          have ha := (Below.refl w3.heap.size w3).alloc (Nat.le_refl _) (.cells #[I64 0, I64 0, I64 0] 31)
          have hK5 : Below w3.heap.size w3 wk5 := by
           rw [hwk]
           exact ha
          have HK5 := Lib.hid hK5
          have hBk : Hid (Below wq.heap.size wq wk5) := hH1.out.trans (hK5.mono hH1.out.size)
          have b9_5 : Hid (wk5.heap[w3.heap.size]? = some (Q3 0 0 0)) := by
           rw [hwk]
           exact blk_new _ _
          have z5 : Hid (wk5.heap.size = w3.heap.size + 1) := by
           show _ = _
           rw [hwk]
           show (w3.alloc _).heap.size = _
           simp
          show K _ (w3.alloc (.cells #[I64 0, I64 0, I64 0] 31))
          rw [← hwk]
          refine hK.out _ _ hBk (fun hH5 => ?_)
          clear hK K ha hwk hK5
          try simp only [Act.put, pu2, pu3, pu4]
          refine wpAnyH_ready (rs := [11]) (by kernel_rfl) (by simp) ?_
          refine AllReadyH.cons (o := _) (dropAt rfl) (fun K hK => ?_) AllReadyH.nil
          go_simp
          obtain ⟨wk6, hwk⟩ : ∃ x, x = (wk5.alloc (.cells #[I64 0, .bool false, .slice none 0 0] 26)) := ⟨_, rfl⟩
          have ha := (Below.refl wk5.heap.size wk5).alloc (Nat.le_refl _) (.cells #[I64 0, .bool false, .slice none 0 0] 26)
          have hK6 : Below wk5.heap.size wk5 wk6 := by
           rw [hwk]
           exact ha
          have HK6 := Lib.hid hK6
          have hBk : Hid (Below wq.heap.size wq wk6) := hH5.out.trans (hK6.mono hH5.out.size)
          have b8_6 : Hid (wk6.heap[wk5.heap.size]? = some (Z3 0 false (.slice none 0 0))) := by
           rw [hwk]
           exact blk_new _ _
          have z6 : Hid (wk6.heap.size = wk5.heap.size + 1) := by
           show _ = _
           rw [hwk]
           show (wk5.alloc _).heap.size = _
           simp
          have b9_6 := Lib.hid ((hK6.block _ (lt_of_block b9_5.out)).trans b9_5.out)
          show K _ (wk5.alloc (.cells #[I64 0, .bool false, .slice none 0 0] 26))
          rw [← hwk]
          refine hK.out _ _ hBk (fun hH6 => ?_)
          clear hK K ha hwk hK6
          try simp only [Act.put, pu2, pu3, pu4]
          have hbw := (hH6.out).size
          have hne : wk5.heap.size ≠ w3.heap.size := by have := z1.out; have := z5.out; have := z6.out; omega
          have hl8 : wq.heap.size ≤ wk5.heap.size := by have := z1.out; have := z5.out; have := z6.out; omega
          have hl9 : wq.heap.size ≤ w3.heap.size := by have := z1.out; have := z5.out; have := z6.out; omega
          have hi8 : wk5.heap.size < wq.heap.size ∨ w3.heap.size ≤ wk5.heap.size := by have := z1.out; have := z5.out; have := z6.out; omega
          have hi9 : w3.heap.size < wq.heap.size ∨ w3.heap.size ≤ w3.heap.size := by have := z1.out; have := z5.out; have := z6.out; omega
          obtain ⟨wz, hwz⟩ : ∃ x, x = (((wk6.setCell ⟨wk5.heap.size, 0, none⟩ (I64 nn)).setCell ⟨wk5.heap.size, 1, none⟩ (.bool ns)).setCell ⟨wk5.heap.size, 2, none⟩ (.slice pa pn pc)) := ⟨_, rfl⟩
          have HRO : Hid (RegOut wq s c nn ns (pa, pn, pc) (r1, r2, r3) (ea, en, ec) dn (wk5.heap.size) (w3.heap.size) (((wz.setCell ⟨w3.heap.size, 0, none⟩ (I64 r1)).setCell ⟨w3.heap.size, 1, none⟩ (I64 r2)).setCell ⟨w3.heap.size, 2, none⟩ (I64 r3))) := by
           rw [hwz]
           exact RegOut.make (wc := wq.drew) hH0.out HP3.out HB3.out (HK5.out.trans (HK6.out.mono HK5.out.size)) b8_6.out b9_6.out hne hl8 hl9 hi8 hi9
          have hBz : Hid (Below wq.heap.size wq wz) := by
           rw [hwz]
           exact (((hH6.out.setCell (p := ⟨wk5.heap.size, 0, none⟩) hl8 _).setCell (p := ⟨wk5.heap.size, 1, none⟩) hl8 _).setCell (p := ⟨wk5.heap.size, 2, none⟩) hl8 _)
          have hBf : Hid (Below wq.heap.size wq (((wz.setCell ⟨w3.heap.size, 0, none⟩ (I64 r1)).setCell ⟨w3.heap.size, 1, none⟩ (I64 r2)).setCell ⟨w3.heap.size, 2, none⟩ (I64 r3))) := (((hBz.out.setCell (p := ⟨w3.heap.size, 0, none⟩) hl9 _).setCell (p := ⟨w3.heap.size, 1, none⟩) hl9 _).setCell (p := ⟨w3.heap.size, 2, none⟩) hl9 _)
          have bz : wz.heap[w3.heap.size]? = some (.cells #[I64 0, I64 0, I64 0] 31 (0, 0)) := by
           rw [hwz]
           exact (set3_other (w := wk6) (P := wk5.heap.size) (j := w3.heap.size) hne).trans b9_6.out
          have by8 : wk6.heap[wk5.heap.size]? = some (.cells #[I64 0, .bool false, .slice none 0 0] 26 (0, 0)) := b8_6.out
          have y0 := blk_cell by8 0
          have y1 := blk_cell by8 1
          have y2 := blk_cell by8 2
          have fy0 := blk_free by8 0
          have fy1 := blk_free by8 1
          have fy2 := blk_free by8 2
          simp only [List.getElem?_toArray, List.getElem?_cons_succ, List.getElem?_cons_zero] at y0 y1 y2
          have q0 := blk_cell bz 0
          have q1 := blk_cell bz 1
          have q2 := blk_cell bz 2
          have fq0 := blk_free bz 0
          have fq1 := blk_free bz 1
          have fq2 := blk_free bz 2
          simp only [List.getElem?_toArray, List.getElem?_cons_succ, List.getElem?_cons_zero] at q0 q1 q2
          clear by8 bz hne hl8 hl9 hi8 hi9 hbw
          refine wpAnyH_ready (rs := [13]) (by kernel_rfl) (by simp) ?_
          refine AllReadyH.cons (o := _) (dropAt rfl) (fun K hK => ?_) AllReadyH.nil
          go_simp
          show K _ (((wk6.setCell ⟨wk5.heap.size, 0, none⟩ (I64 nn)).setCell ⟨wk5.heap.size, 1, none⟩ (.bool ns)).setCell ⟨wk5.heap.size, 2, none⟩ (.slice pa pn pc))
          rw [← hwz]
          refine hK.out _ _ hBz (fun hHz => ?_)
          clear hK K hwz y0 y1 y2 fy0 fy1 fy2
          try simp only [Act.put, pu2, pu3, pu4]
          refine wpAnyH_ready (rs := [14]) (by kernel_rfl) (by simp) ?_
          refine AllReadyH.cons (o := _) (dropAt rfl) (fun K hK => ?_) AllReadyH.nil
          go_simp
          refine hK.out _ _ hBf (fun hHf => ?_)
          clear hK K q0 q1 q2 fq0 fq1 fq2
          try simp only [Act.put, pu2, pu3, pu4]
          refine tk 15 (v := ?vv15_13) (dropAt rfl) (Or.inl ⟨by rfl, ?hv15_13⟩) hHf ?rv15_13
          case hv15_13 => (intro w hSw; go_simp; first | done | with_reducible rfl)
          try simp only [Act.put, pu2, pu3, pu4]
          refine tk 16 (v := ?vv16_14) (dropAt rfl) (Or.inl ⟨by rfl, ?hv16_14⟩) hHf ?rv16_14
          case hv16_14 => (intro w hSw; go_simp; first | done | with_reducible rfl)
          try simp only [Act.put, pu2, pu3, pu4]
          refine wpAnyH_done (by kernel_rfl) ?_ _
          go_wp2_with fail
          go_meet
          exact ⟨wk5.heap.size, w3.heap.size, nn, ns, (pa, pn, pc), (r1, r2, r3), (ea, en, ec), dn, rfl, rfl, rfl, rfl, HRO⟩
      · go_simp
        obtain ⟨wk8, hwk⟩ : ∃ x, x = (wq.alloc (.cells #[I64 0, .bool false, .slice none 0 0] 26)).drew := ⟨_, rfl⟩
        have ha := (Below.refl wq.heap.size wq).alloc (Nat.le_refl _) (.cells #[I64 0, .bool false, .slice none 0 0] 26)
        have hK8 : Below wq.heap.size wq wk8 := by
         rw [hwk]
         exact ha.drew
        have HK8 := Lib.hid hK8
        have hBk : Hid (Below wq.heap.size wq wk8) := hK8
        have b8_8 : Hid (wk8.heap[wq.heap.size]? = some (Z3 0 false (.slice none 0 0))) := by
         rw [hwk]
         exact blk_new _ _
        have z8 : Hid (wk8.heap.size = wq.heap.size + 1) := by
         show _ = _
         rw [hwk]
         show (wq.alloc _).heap.size = _
         simp
        show K _ (wq.alloc (.cells #[I64 0, .bool false, .slice none 0 0] 26)).drew
        rw [← hwk]
        refine hK.out _ _ hBk (fun hH8 => ?_)
        clear hK K ha hwk hK8
        try simp only [Act.put, pu2, pu3, pu4]
        refine wpAnyH_ready (rs := [5, 12]) (by kernel_rfl) (by simp) ?_
        refine AllReadyH.cons (o := _) (dropAt rfl) (fun K hK => ?_) (AllReadyH.cons (o := _) (dropAt rfl) (fun K hK => ?_) AllReadyH.nil)
        · go_simp
          refine (HPL.out _ hH8.out).mono ?_
          rintro e w3 ⟨nn, ns, ⟨pa, pn, pc⟩, ⟨r1, r2, r3⟩, ⟨ea, en, ec⟩, dn, rfl, hp, hb3⟩
          dsimp only
          have hB3 : Hid (Below wq.heap.size wq w3) := hH8.out.trans (hb3.mono hH8.out.size)
          have b8_9 := Lib.hid ((hb3.block _ (lt_of_block b8_8.out)).trans b8_8.out)
          have HP3 := Lib.hid hp
          have HB3 := Lib.hid hb3
          have z9 := Lib.hid (show wk8.heap.size ≤ w3.heap.size from hb3.size)
          refine hK.out _ _ hB3 (fun hH9 => ?_)
          clear hK K hp hb3
          try simp only [Act.put, pu2, pu3, pu4]
          refine tk 6 (v := ?vv6_15) (dropAt rfl) (Or.inl ⟨by rfl, ?hv6_15⟩) hH9 ?rv6_15
          case hv6_15 => (intro w hSw; go_simp; first | done | with_reducible rfl)
          try simp only [Act.put, pu2, pu3, pu4]
          refine tk 7 (v := ?vv7_16) (dropAt rfl) (Or.inl ⟨by rfl, ?hv7_16⟩) hH9 ?rv7_16
          case hv7_16 => (intro w hSw; go_simp; first | done | with_reducible rfl)
          try simp only [Act.put, pu2, pu3, pu4]
          refine tk 8 (v := ?vv8_17) (dropAt rfl) (Or.inl ⟨by rfl, ?hv8_17⟩) hH9 ?rv8_17
          case hv8_17 => (intro w hSw; go_simp; first | done | with_reducible rfl)
          try simp only [Act.put, pu2, pu3, pu4]
          refine tk 9 (v := ?vv9_18) (dropAt rfl) (Or.inl ⟨by rfl, ?hv9_18⟩) hH9 ?rv9_18
          case hv9_18 => (intro w hSw; go_simp; first | done | with_reducible rfl)
          try simp only [Act.put, pu2, pu3, pu4]
          refine tk 10 (v := ?vv10_19) (dropAt rfl) (Or.inl ⟨by rfl, ?hv10_19⟩) hH9 ?rv10_19
          case hv10_19 => (intro w hSw; go_simp; first | done | with_reducible rfl)
          try simp only [Act.put, pu2, pu3, pu4]
          refine wpAnyH_ready (rs := [12]) (by kernel_rfl) (by simp) ?_
          refine AllReadyH.cons (o := _) (dropAt rfl) (fun K hK => ?_) AllReadyH.nil
          go_simp
          obtain ⟨wk10, hwk⟩ : ∃ x, x = (w3.alloc (.cells #[I64 0, I64 0, I64 0] 31)) := ⟨_, rfl⟩
          have ha := (Below.refl w3.heap.size w3).alloc (Nat.le_refl _) (.cells #[I64 0, I64 0, I64 0] 31)
          have hK10 : Below w3.heap.size w3 wk10 := by
           rw [hwk]
           exact ha
          have HK10 := Lib.hid hK10
          have hBk : Hid (Below wq.heap.size wq wk10) := hH9.out.trans (hK10.mono hH9.out.size)
          have b9_10 : Hid (wk10.heap[w3.heap.size]? = some (Q3 0 0 0)) := by
           rw [hwk]
           exact blk_new _ _
          have z10 : Hid (wk10.heap.size = w3.heap.size + 1) := by
           show _ = _
           rw [hwk]
           show (w3.alloc _).heap.size = _
           simp
          have b8_10 := Lib.hid ((hK10.block _ (lt_of_block b8_9.out)).trans b8_9.out)
          show K _ (w3.alloc (.cells #[I64 0, I64 0, I64 0] 31))
          rw [← hwk]
          refine hK.out _ _ hBk (fun hH10 => ?_)
          clear hK K ha hwk hK10
          try simp only [Act.put, pu2, pu3, pu4]
          have hbw := (hH10.out).size
          have hne : wq.heap.size ≠ w3.heap.size := by have := z8.out; have := z9.out; have := z10.out; omega
          have hl8 : wq.heap.size ≤ wq.heap.size := by have := z8.out; have := z9.out; have := z10.out; omega
          have hl9 : wq.heap.size ≤ w3.heap.size := by have := z8.out; have := z9.out; have := z10.out; omega
          have hi8 : wq.heap.size < wk8.heap.size ∨ w3.heap.size ≤ wq.heap.size := by have := z8.out; have := z9.out; have := z10.out; omega
          have hi9 : w3.heap.size < wk8.heap.size ∨ w3.heap.size ≤ w3.heap.size := by have := z8.out; have := z9.out; have := z10.out; omega
          obtain ⟨wz, hwz⟩ : ∃ x, x = (((wk10.setCell ⟨wq.heap.size, 0, none⟩ (I64 nn)).setCell ⟨wq.heap.size, 1, none⟩ (.bool ns)).setCell ⟨wq.heap.size, 2, none⟩ (.slice pa pn pc)) := ⟨_, rfl⟩
          have HRO : Hid (RegOut wq s c nn ns (pa, pn, pc) (r1, r2, r3) (ea, en, ec) dn (wq.heap.size) (w3.heap.size) (((wz.setCell ⟨w3.heap.size, 0, none⟩ (I64 r1)).setCell ⟨w3.heap.size, 1, none⟩ (I64 r2)).setCell ⟨w3.heap.size, 2, none⟩ (I64 r3))) := by
           rw [hwz]
           exact RegOut.make (wc := wk8) hH8.out HP3.out HB3.out (HK10.out) b8_10.out b9_10.out hne hl8 hl9 hi8 hi9
          have hBz : Hid (Below wq.heap.size wq wz) := by
           rw [hwz]
           exact (((hH10.out.setCell (p := ⟨wq.heap.size, 0, none⟩) hl8 _).setCell (p := ⟨wq.heap.size, 1, none⟩) hl8 _).setCell (p := ⟨wq.heap.size, 2, none⟩) hl8 _)
          have hBf : Hid (Below wq.heap.size wq (((wz.setCell ⟨w3.heap.size, 0, none⟩ (I64 r1)).setCell ⟨w3.heap.size, 1, none⟩ (I64 r2)).setCell ⟨w3.heap.size, 2, none⟩ (I64 r3))) := (((hBz.out.setCell (p := ⟨w3.heap.size, 0, none⟩) hl9 _).setCell (p := ⟨w3.heap.size, 1, none⟩) hl9 _).setCell (p := ⟨w3.heap.size, 2, none⟩) hl9 _)
          have bz : wz.heap[w3.heap.size]? = some (.cells #[I64 0, I64 0, I64 0] 31 (0, 0)) := by
           rw [hwz]
           exact (set3_other (w := wk10) (P := wq.heap.size) (j := w3.heap.size) hne).trans b9_10.out
          have by8 : wk10.heap[wq.heap.size]? = some (.cells #[I64 0, .bool false, .slice none 0 0] 26 (0, 0)) := b8_10.out
          have y0 := blk_cell by8 0
          have y1 := blk_cell by8 1
          have y2 := blk_cell by8 2
          have fy0 := blk_free by8 0
          have fy1 := blk_free by8 1
          have fy2 := blk_free by8 2
          simp only [List.getElem?_toArray, List.getElem?_cons_succ, List.getElem?_cons_zero] at y0 y1 y2
          have q0 := blk_cell bz 0
          have q1 := blk_cell bz 1
          have q2 := blk_cell bz 2
          have fq0 := blk_free bz 0
          have fq1 := blk_free bz 1
          have fq2 := blk_free bz 2
          simp only [List.getElem?_toArray, List.getElem?_cons_succ, List.getElem?_cons_zero] at q0 q1 q2
          clear by8 bz hne hl8 hl9 hi8 hi9 hbw
          refine wpAnyH_ready (rs := [13]) (by kernel_rfl) (by simp) ?_
          refine AllReadyH.cons (o := _) (dropAt rfl) (fun K hK => ?_) AllReadyH.nil
          go_simp
          show K _ (((wk10.setCell ⟨wq.heap.size, 0, none⟩ (I64 nn)).setCell ⟨wq.heap.size, 1, none⟩ (.bool ns)).setCell ⟨wq.heap.size, 2, none⟩ (.slice pa pn pc))
          rw [← hwz]
          refine hK.out _ _ hBz (fun hHz => ?_)
          clear hK K hwz y0 y1 y2 fy0 fy1 fy2
          try simp only [Act.put, pu2, pu3, pu4]
          refine wpAnyH_ready (rs := [14]) (by kernel_rfl) (by simp) ?_
          refine AllReadyH.cons (o := _) (dropAt rfl) (fun K hK => ?_) AllReadyH.nil
          go_simp
          refine hK.out _ _ hBf (fun hHf => ?_)
          clear hK K q0 q1 q2 fq0 fq1 fq2
          try simp only [Act.put, pu2, pu3, pu4]
          refine tk 15 (v := ?vv15_20) (dropAt rfl) (Or.inl ⟨by rfl, ?hv15_20⟩) hHf ?rv15_20
          case hv15_20 => (intro w hSw; go_simp; first | done | with_reducible rfl)
          try simp only [Act.put, pu2, pu3, pu4]
          refine tk 16 (v := ?vv16_21) (dropAt rfl) (Or.inl ⟨by rfl, ?hv16_21⟩) hHf ?rv16_21
          case hv16_21 => (intro w hSw; go_simp; first | done | with_reducible rfl)
          try simp only [Act.put, pu2, pu3, pu4]
          refine wpAnyH_done (by kernel_rfl) ?_ _
          go_wp2_with fail
          go_meet
          exact ⟨wq.heap.size, w3.heap.size, nn, ns, (pa, pn, pc), (r1, r2, r3), (ea, en, ec), dn, rfl, rfl, rfl, rfl, HRO⟩
        · go_simp
          obtain ⟨wk12, hwk⟩ : ∃ x, x = (wk8.alloc (.cells #[I64 0, I64 0, I64 0] 31)) := ⟨_, rfl⟩
          have ha := (Below.refl wk8.heap.size wk8).alloc (Nat.le_refl _) (.cells #[I64 0, I64 0, I64 0] 31)
          have hK12 : Below wk8.heap.size wk8 wk12 := by
           rw [hwk]
           exact ha
          have HK12 := Lib.hid hK12
          have hBk : Hid (Below wq.heap.size wq wk12) := hH8.out.trans (hK12.mono hH8.out.size)
          have b9_12 : Hid (wk12.heap[wk8.heap.size]? = some (Q3 0 0 0)) := by
           rw [hwk]
           exact blk_new _ _
          have z12 : Hid (wk12.heap.size = wk8.heap.size + 1) := by
           show _ = _
           rw [hwk]
           show (wk8.alloc _).heap.size = _
           simp
          have b8_12 := Lib.hid ((hK12.block _ (lt_of_block b8_8.out)).trans b8_8.out)
          show K _ (wk8.alloc (.cells #[I64 0, I64 0, I64 0] 31))
          rw [← hwk]
          refine hK.out _ _ hBk (fun hH12 => ?_)
          clear hK K ha hwk hK12
          try simp only [Act.put, pu2, pu3, pu4]
          refine wpAnyH_ready (rs := [5]) (by kernel_rfl) (by simp) ?_
          refine AllReadyH.cons (o := _) (dropAt rfl) (fun K hK => ?_) AllReadyH.nil
          go_simp
          refine (HPL.out _ hH12.out).mono ?_
          rintro e w3 ⟨nn, ns, ⟨pa, pn, pc⟩, ⟨r1, r2, r3⟩, ⟨ea, en, ec⟩, dn, rfl, hp, hb3⟩
          dsimp only
          have hB3 : Hid (Below wq.heap.size wq w3) := hH12.out.trans (hb3.mono hH12.out.size)
          have b8_13 := Lib.hid ((hb3.block _ (lt_of_block b8_12.out)).trans b8_12.out)
          have b9_13 := Lib.hid ((hb3.block _ (lt_of_block b9_12.out)).trans b9_12.out)
          have HP3 := Lib.hid hp
          have HB3 := Lib.hid hb3
          have z13 := Lib.hid (show wk12.heap.size ≤ w3.heap.size from hb3.size)
          refine hK.out _ _ hB3 (fun hH13 => ?_)
          clear hK K hp hb3
          try simp only [Act.put, pu2, pu3, pu4]
          refine tk 6 (v := ?vv6_22) (dropAt rfl) (Or.inl ⟨by rfl, ?hv6_22⟩) hH13 ?rv6_22
          case hv6_22 => (intro w hSw; go_simp; first | done | with_reducible rfl)
          try simp only [Act.put, pu2, pu3, pu4]
          refine tk 7 (v := ?vv7_23) (dropAt rfl) (Or.inl ⟨by rfl, ?hv7_23⟩) hH13 ?rv7_23
          case hv7_23 => (intro w hSw; go_simp; first | done | with_reducible rfl)
          try simp only [Act.put, pu2, pu3, pu4]
          refine tk 8 (v := ?vv8_24) (dropAt rfl) (Or.inl ⟨by rfl, ?hv8_24⟩) hH13 ?rv8_24
          case hv8_24 => (intro w hSw; go_simp; first | done | with_reducible rfl)
          try simp only [Act.put, pu2, pu3, pu4]
          refine tk 9 (v := ?vv9_25) (dropAt rfl) (Or.inl ⟨by rfl, ?hv9_25⟩) hH13 ?rv9_25
          case hv9_25 => (intro w hSw; go_simp; first | done | with_reducible rfl)
          try simp only [Act.put, pu2, pu3, pu4]
          refine tk 10 (v := ?vv10_26) (dropAt rfl) (Or.inl ⟨by rfl, ?hv10_26⟩) hH13 ?rv10_26
          case hv10_26 => (intro w hSw; go_simp; first | done | with_reducible rfl)
          try simp only [Act.put, pu2, pu3, pu4]
          have hbw := (hH13.out).size
          have hne : wq.heap.size ≠ wk8.heap.size := by have := z8.out; have := z12.out; have := z13.out; omega
          have hl8 : wq.heap.size ≤ wq.heap.size := by have := z8.out; have := z12.out; have := z13.out; omega
          have hl9 : wq.heap.size ≤ wk8.heap.size := by have := z8.out; have := z12.out; have := z13.out; omega
          have hi8 : wq.heap.size < wk12.heap.size ∨ w3.heap.size ≤ wq.heap.size := by have := z8.out; have := z12.out; have := z13.out; omega
          have hi9 : wk8.heap.size < wk12.heap.size ∨ w3.heap.size ≤ wk8.heap.size := by have := z8.out; have := z12.out; have := z13.out; omega
          obtain ⟨wz, hwz⟩ : ∃ x, x = (((w3.setCell ⟨wq.heap.size, 0, none⟩ (I64 nn)).setCell ⟨wq.heap.size, 1, none⟩ (.bool ns)).setCell ⟨wq.heap.size, 2, none⟩ (.slice pa pn pc)) := ⟨_, rfl⟩
          have HRO : Hid (RegOut wq s c nn ns (pa, pn, pc) (r1, r2, r3) (ea, en, ec) dn (wq.heap.size) (wk8.heap.size) (((wz.setCell ⟨wk8.heap.size, 0, none⟩ (I64 r1)).setCell ⟨wk8.heap.size, 1, none⟩ (I64 r2)).setCell ⟨wk8.heap.size, 2, none⟩ (I64 r3))) := by
           rw [hwz]
           exact RegOut.make (wc := wk12) hH12.out HP3.out HB3.out (Below.refl _ _) b8_13.out b9_13.out hne hl8 hl9 hi8 hi9
          have hBz : Hid (Below wq.heap.size wq wz) := by
           rw [hwz]
           exact (((hH13.out.setCell (p := ⟨wq.heap.size, 0, none⟩) hl8 _).setCell (p := ⟨wq.heap.size, 1, none⟩) hl8 _).setCell (p := ⟨wq.heap.size, 2, none⟩) hl8 _)
          have hBf : Hid (Below wq.heap.size wq (((wz.setCell ⟨wk8.heap.size, 0, none⟩ (I64 r1)).setCell ⟨wk8.heap.size, 1, none⟩ (I64 r2)).setCell ⟨wk8.heap.size, 2, none⟩ (I64 r3))) := (((hBz.out.setCell (p := ⟨wk8.heap.size, 0, none⟩) hl9 _).setCell (p := ⟨wk8.heap.size, 1, none⟩) hl9 _).setCell (p := ⟨wk8.heap.size, 2, none⟩) hl9 _)
          have bz : wz.heap[wk8.heap.size]? = some (.cells #[I64 0, I64 0, I64 0] 31 (0, 0)) := by
           rw [hwz]
           exact (set3_other (w := w3) (P := wq.heap.size) (j := wk8.heap.size) hne).trans b9_13.out
          have by8 : w3.heap[wq.heap.size]? = some (.cells #[I64 0, .bool false, .slice none 0 0] 26 (0, 0)) := b8_13.out
          have y0 := blk_cell by8 0
          have y1 := blk_cell by8 1
          have y2 := blk_cell by8 2
          have fy0 := blk_free by8 0
          have fy1 := blk_free by8 1
          have fy2 := blk_free by8 2
          simp only [List.getElem?_toArray, List.getElem?_cons_succ, List.getElem?_cons_zero] at y0 y1 y2
          have q0 := blk_cell bz 0
          have q1 := blk_cell bz 1
          have q2 := blk_cell bz 2
          have fq0 := blk_free bz 0
          have fq1 := blk_free bz 1
          have fq2 := blk_free bz 2
          simp only [List.getElem?_toArray, List.getElem?_cons_succ, List.getElem?_cons_zero] at q0 q1 q2
          clear by8 bz hne hl8 hl9 hi8 hi9 hbw
          refine wpAnyH_ready (rs := [13]) (by kernel_rfl) (by simp) ?_
          refine AllReadyH.cons (o := _) (dropAt rfl) (fun K hK => ?_) AllReadyH.nil
          go_simp
          show K _ (((w3.setCell ⟨wq.heap.size, 0, none⟩ (I64 nn)).setCell ⟨wq.heap.size, 1, none⟩ (.bool ns)).setCell ⟨wq.heap.size, 2, none⟩ (.slice pa pn pc))
          rw [← hwz]
          refine hK.out _ _ hBz (fun hHz => ?_)
          clear hK K hwz y0 y1 y2 fy0 fy1 fy2
          try simp only [Act.put, pu2, pu3, pu4]
          refine wpAnyH_ready (rs := [14]) (by kernel_rfl) (by simp) ?_
          refine AllReadyH.cons (o := _) (dropAt rfl) (fun K hK => ?_) AllReadyH.nil
          go_simp
          refine hK.out _ _ hBf (fun hHf => ?_)
          clear hK K q0 q1 q2 fq0 fq1 fq2
          try simp only [Act.put, pu2, pu3, pu4]
          refine tk 15 (v := ?vv15_27) (dropAt rfl) (Or.inl ⟨by rfl, ?hv15_27⟩) hHf ?rv15_27
          case hv15_27 => (intro w hSw; go_simp; first | done | with_reducible rfl)
          try simp only [Act.put, pu2, pu3, pu4]
          refine tk 16 (v := ?vv16_28) (dropAt rfl) (Or.inl ⟨by rfl, ?hv16_28⟩) hHf ?rv16_28
          case hv16_28 => (intro w hSw; go_simp; first | done | with_reducible rfl)
          try simp only [Act.put, pu2, pu3, pu4]
          refine wpAnyH_done (by kernel_rfl) ?_ _
          go_wp2_with fail
          go_meet
          exact ⟨wq.heap.size, wk8.heap.size, nn, ns, (pa, pn, pc), (r1, r2, r3), (ea, en, ec), dn, rfl, rfl, rfl, rfl, HRO⟩
      · go_simp
        obtain ⟨wk15, hwk⟩ : ∃ x, x = (wq.alloc (.cells #[I64 0, I64 0, I64 0] 31)).drew := ⟨_, rfl⟩
        have ha := (Below.refl wq.heap.size wq).alloc (Nat.le_refl _) (.cells #[I64 0, I64 0, I64 0] 31)
        have hK15 : Below wq.heap.size wq wk15 := by
         rw [hwk]
         exact ha.drew
        have HK15 := Lib.hid hK15
        have hBk : Hid (Below wq.heap.size wq wk15) := hK15
        have b9_15 : Hid (wk15.heap[wq.heap.size]? = some (Q3 0 0 0)) := by
         rw [hwk]
         exact blk_new _ _
        have z15 : Hid (wk15.heap.size = wq.heap.size + 1) := by
         show _ = _
         rw [hwk]
         show (wq.alloc _).heap.size = _
         simp
        show K _ (wq.alloc (.cells #[I64 0, I64 0, I64 0] 31)).drew
        rw [← hwk]
        refine hK.out _ _ hBk (fun hH15 => ?_)
        clear hK K ha hwk hK15
        try simp only [Act.put, pu2, pu3, pu4]
        refine wpAnyH_ready (rs := [5, 11]) (by kernel_rfl) (by simp) ?_
        refine AllReadyH.cons (o := _) (dropAt rfl) (fun K hK => ?_) (AllReadyH.cons (o := _) (dropAt rfl) (fun K hK => ?_) AllReadyH.nil)
        · go_simp
          refine (HPL.out _ hH15.out).mono ?_
          rintro e w3 ⟨nn, ns, ⟨pa, pn, pc⟩, ⟨r1, r2, r3⟩, ⟨ea, en, ec⟩, dn, rfl, hp, hb3⟩
          dsimp only
          have hB3 : Hid (Below wq.heap.size wq w3) := hH15.out.trans (hb3.mono hH15.out.size)
          have b9_16 := Lib.hid ((hb3.block _ (lt_of_block b9_15.out)).trans b9_15.out)
          have HP3 := Lib.hid hp
          have HB3 := Lib.hid hb3
          have z16 := Lib.hid (show wk15.heap.size ≤ w3.heap.size from hb3.size)
          refine hK.out _ _ hB3 (fun hH16 => ?_)
          clear hK K hp hb3
          try simp only [Act.put, pu2, pu3, pu4]
          refine tk 6 (v := ?vv6_29) (dropAt rfl) (Or.inl ⟨by rfl, ?hv6_29⟩) hH16 ?rv6_29
          case hv6_29 => (intro w hSw; go_simp; first | done | with_reducible rfl)
          try simp only [Act.put, pu2, pu3, pu4]
          refine tk 7 (v := ?vv7_30) (dropAt rfl) (Or.inl ⟨by rfl, ?hv7_30⟩) hH16 ?rv7_30
          case hv7_30 => (intro w hSw; go_simp; first | done | with_reducible rfl)
          try simp only [Act.put, pu2, pu3, pu4]
          refine tk 8 (v := ?vv8_31) (dropAt rfl) (Or.inl ⟨by rfl, ?hv8_31⟩) hH16 ?rv8_31
          case hv8_31 => (intro w hSw; go_simp; first | done | with_reducible rfl)
          try simp only [Act.put, pu2, pu3, pu4]
          refine tk 9 (v := ?vv9_32) (dropAt rfl) (Or.inl ⟨by rfl, ?hv9_32⟩) hH16 ?rv9_32
          case hv9_32 => (intro w hSw; go_simp; first | done | with_reducible rfl)
          try simp only [Act.put, pu2, pu3, pu4]
          refine tk 10 (v := ?vv10_33) (dropAt rfl) (Or.inl ⟨by rfl, ?hv10_33⟩) hH16 ?rv10_33
          case hv10_33 => (intro w hSw; go_simp; first | done | with_reducible rfl)
          try simp only [Act.put, pu2, pu3, pu4]
          refine wpAnyH_ready (rs := [11]) (by kernel_rfl) (by simp) ?_
          refine AllReadyH.cons (o := _) (dropAt rfl) (fun K hK => ?_) AllReadyH.nil
          go_simp
          obtain ⟨wk17, hwk⟩ : ∃ x, x = (w3.alloc (.cells #[I64 0, .bool false, .slice none 0 0] 26)) := ⟨_, rfl⟩
          have ha := (Below.refl w3.heap.size w3).alloc (Nat.le_refl _) (.cells #[I64 0, .bool false, .slice none 0 0] 26)
          have hK17 : Below w3.heap.size w3 wk17 := by
           rw [hwk]
           exact ha
          have HK17 := Lib.hid hK17
          have hBk : Hid (Below wq.heap.size wq wk17) := hH16.out.trans (hK17.mono hH16.out.size)
          have b8_17 : Hid (wk17.heap[w3.heap.size]? = some (Z3 0 false (.slice none 0 0))) := by
           rw [hwk]
           exact blk_new _ _
          have z17 : Hid (wk17.heap.size = w3.heap.size + 1) := by
           show _ = _
           rw [hwk]
           show (w3.alloc _).heap.size = _
           simp
          have b9_17 := Lib.hid ((hK17.block _ (lt_of_block b9_16.out)).trans b9_16.out)
          show K _ (w3.alloc (.cells #[I64 0, .bool false, .slice none 0 0] 26))
          rw [← hwk]
          refine hK.out _ _ hBk (fun hH17 => ?_)
          clear hK K ha hwk hK17
          try simp only [Act.put, pu2, pu3, pu4]
          have hbw := (hH17.out).size
          have hne : w3.heap.size ≠ wq.heap.size := by have := z15.out; have := z16.out; have := z17.out; omega
          have hl8 : wq.heap.size ≤ w3.heap.size := by have := z15.out; have := z16.out; have := z17.out; omega
          have hl9 : wq.heap.size ≤ wq.heap.size := by have := z15.out; have := z16.out; have := z17.out; omega
          have hi8 : w3.heap.size < wk15.heap.size ∨ w3.heap.size ≤ w3.heap.size := by have := z15.out; have := z16.out; have := z17.out; omega
          have hi9 : wq.heap.size < wk15.heap.size ∨ w3.heap.size ≤ wq.heap.size := by have := z15.out; have := z16.out; have := z17.out; omega
          obtain ⟨wz, hwz⟩ : ∃ x, x = (((wk17.setCell ⟨w3.heap.size, 0, none⟩ (I64 nn)).setCell ⟨w3.heap.size, 1, none⟩ (.bool ns)).setCell ⟨w3.heap.size, 2, none⟩ (.slice pa pn pc)) := ⟨_, rfl⟩
          have HRO : Hid (RegOut wq s c nn ns (pa, pn, pc) (r1, r2, r3) (ea, en, ec) dn (w3.heap.size) (wq.heap.size) (((wz.setCell ⟨wq.heap.size, 0, none⟩ (I64 r1)).setCell ⟨wq.heap.size, 1, none⟩ (I64 r2)).setCell ⟨wq.heap.size, 2, none⟩ (I64 r3))) := by
           rw [hwz]
           exact RegOut.make (wc := wk15) hH15.out HP3.out HB3.out (HK17.out) b8_17.out b9_17.out hne hl8 hl9 hi8 hi9
          have hBz : Hid (Below wq.heap.size wq wz) := by
           rw [hwz]
           exact (((hH17.out.setCell (p := ⟨w3.heap.size, 0, none⟩) hl8 _).setCell (p := ⟨w3.heap.size, 1, none⟩) hl8 _).setCell (p := ⟨w3.heap.size, 2, none⟩) hl8 _)
          have hBf : Hid (Below wq.heap.size wq (((wz.setCell ⟨wq.heap.size, 0, none⟩ (I64 r1)).setCell ⟨wq.heap.size, 1, none⟩ (I64 r2)).setCell ⟨wq.heap.size, 2, none⟩ (I64 r3))) := (((hBz.out.setCell (p := ⟨wq.heap.size, 0, none⟩) hl9 _).setCell (p := ⟨wq.heap.size, 1, none⟩) hl9 _).setCell (p := ⟨wq.heap.size, 2, none⟩) hl9 _)
          have bz : wz.heap[wq.heap.size]? = some (.cells #[I64 0, I64 0, I64 0] 31 (0, 0)) := by
           rw [hwz]
           exact (set3_other (w := wk17) (P := w3.heap.size) (j := wq.heap.size) hne).trans b9_17.out
          have by8 : wk17.heap[w3.heap.size]? = some (.cells #[I64 0, .bool false, .slice none 0 0] 26 (0, 0)) := b8_17.out
          have y0 := blk_cell by8 0
          have y1 := blk_cell by8 1
          have y2 := blk_cell by8 2
          have fy0 := blk_free by8 0
          have fy1 := blk_free by8 1
          have fy2 := blk_free by8 2
          simp only [List.getElem?_toArray, List.getElem?_cons_succ, List.getElem?_cons_zero] at y0 y1 y2
          have q0 := blk_cell bz 0
          have q1 := blk_cell bz 1
          have q2 := blk_cell bz 2
          have fq0 := blk_free bz 0
          have fq1 := blk_free bz 1
          have fq2 := blk_free bz 2
          simp only [List.getElem?_toArray, List.getElem?_cons_succ, List.getElem?_cons_zero] at q0 q1 q2
          clear by8 bz hne hl8 hl9 hi8 hi9 hbw
          refine wpAnyH_ready (rs := [13]) (by kernel_rfl) (by simp) ?_
          refine AllReadyH.cons (o := _) (dropAt rfl) (fun K hK => ?_) AllReadyH.nil
          go_simp
          show K _ (((wk17.setCell ⟨w3.heap.size, 0, none⟩ (I64 nn)).setCell ⟨w3.heap.size, 1, none⟩ (.bool ns)).setCell ⟨w3.heap.size, 2, none⟩ (.slice pa pn pc))
          rw [← hwz]
          refine hK.out _ _ hBz (fun hHz => ?_)
          clear hK K hwz y0 y1 y2 fy0 fy1 fy2
          try simp only [Act.put, pu2, pu3, pu4]
          refine wpAnyH_ready (rs := [14]) (by kernel_rfl) (by simp) ?_
          refine AllReadyH.cons (o := _) (dropAt rfl) (fun K hK => ?_) AllReadyH.nil
          go_simp
          refine hK.out _ _ hBf (fun hHf => ?_)
          clear hK K q0 q1 q2 fq0 fq1 fq2
          try simp only [Act.put, pu2, pu3, pu4]
          refine tk 15 (v := ?vv15_34) (dropAt rfl) (Or.inl ⟨by rfl, ?hv15_34⟩) hHf ?rv15_34
          case hv15_34 => (intro w hSw; go_simp; first | done | with_reducible rfl)
          try simp only [Act.put, pu2, pu3, pu4]
          refine tk 16 (v := ?vv16_35) (dropAt rfl) (Or.inl ⟨by rfl, ?hv16_35⟩) hHf ?rv16_35
          case hv16_35 => (intro w hSw; go_simp; first | done | with_reducible rfl)
          try simp only [Act.put, pu2, pu3, pu4]
          refine wpAnyH_done (by kernel_rfl) ?_ _
          go_wp2_with fail
          go_meet
          exact ⟨w3.heap.size, wq.heap.size, nn, ns, (pa, pn, pc), (r1, r2, r3), (ea, en, ec), dn, rfl, rfl, rfl, rfl, HRO⟩
        · go_simp
          obtain ⟨wk19, hwk⟩ : ∃ x, x = (wk15.alloc (.cells #[I64 0, .bool false, .slice none 0 0] 26)) := ⟨_, rfl⟩
          have ha := (Below.refl wk15.heap.size wk15).alloc (Nat.le_refl _) (.cells #[I64 0, .bool false, .slice none 0 0] 26)
          have hK19 : Below wk15.heap.size wk15 wk19 := by
           rw [hwk]
           exact ha
          have HK19 := Lib.hid hK19
          have hBk : Hid (Below wq.heap.size wq wk19) := hH15.out.trans (hK19.mono hH15.out.size)
          have b8_19 : Hid (wk19.heap[wk15.heap.size]? = some (Z3 0 false (.slice none 0 0))) := by
           rw [hwk]
           exact blk_new _ _
          have z19 : Hid (wk19.heap.size = wk15.heap.size + 1) := by
           show _ = _
           rw [hwk]
           show (wk15.alloc _).heap.size = _
           simp
          have b9_19 := Lib.hid ((hK19.block _ (lt_of_block b9_15.out)).trans b9_15.out)
          show K _ (wk15.alloc (.cells #[I64 0, .bool false, .slice none 0 0] 26))
          rw [← hwk]
          refine hK.out _ _ hBk (fun hH19 => ?_)
          clear hK K ha hwk hK19
          try simp only [Act.put, pu2, pu3, pu4]
          refine wpAnyH_ready (rs := [5]) (by kernel_rfl) (by simp) ?_
          refine AllReadyH.cons (o := _) (dropAt rfl) (fun K hK => ?_) AllReadyH.nil
          go_simp
          refine (HPL.out _ hH19.out).mono ?_
          rintro e w3 ⟨nn, ns, ⟨pa, pn, pc⟩, ⟨r1, r2, r3⟩, ⟨ea, en, ec⟩, dn, rfl, hp, hb3⟩
          dsimp only
          have hB3 : Hid (Below wq.heap.size wq w3) := hH19.out.trans (hb3.mono hH19.out.size)
          have b9_20 := Lib.hid ((hb3.block _ (lt_of_block b9_19.out)).trans b9_19.out)
          have b8_20 := Lib.hid ((hb3.block _ (lt_of_block b8_19.out)).trans b8_19.out)
          have HP3 := Lib.hid hp
          have HB3 := Lib.hid hb3
          have z20 := Lib.hid (show wk19.heap.size ≤ w3.heap.size from hb3.size)
          refine hK.out _ _ hB3 (fun hH20 => ?_)
          clear hK K hp hb3
          try simp only [Act.put, pu2, pu3, pu4]
          refine tk 6 (v := ?vv6_36) (dropAt rfl) (Or.inl ⟨by rfl, ?hv6_36⟩) hH20 ?rv6_36
          case hv6_36 => (intro w hSw; go_simp; first | done | with_reducible rfl)
          try simp only [Act.put, pu2, pu3, pu4]
          refine tk 7 (v := ?vv7_37) (dropAt rfl) (Or.inl ⟨by rfl, ?hv7_37⟩) hH20 ?rv7_37
          case hv7_37 => (intro w hSw; go_simp; first | done | with_reducible rfl)
          try simp only [Act.put, pu2, pu3, pu4]
          refine tk 8 (v := ?vv8_38) (dropAt rfl) (Or.inl ⟨by rfl, ?hv8_38⟩) hH20 ?rv8_38
          case hv8_38 => (intro w hSw; go_simp; first | done | with_reducible rfl)
          try simp only [Act.put, pu2, pu3, pu4]
          refine tk 9 (v := ?vv9_39) (dropAt rfl) (Or.inl ⟨by rfl, ?hv9_39⟩) hH20 ?rv9_39
          case hv9_39 => (intro w hSw; go_simp; first | done | with_reducible rfl)
          try simp only [Act.put, pu2, pu3, pu4]
          refine tk 10 (v := ?vv10_40) (dropAt rfl) (Or.inl ⟨by rfl, ?hv10_40⟩) hH20 ?rv10_40
          case hv10_40 => (intro w hSw; go_simp; first | done | with_reducible rfl)
          try simp only [Act.put, pu2, pu3, pu4]
          have hbw := (hH20.out).size
          have hne : wk15.heap.size ≠ wq.heap.size := by have := z15.out; have := z19.out; have := z20.out; omega
          have hl8 : wq.heap.size ≤ wk15.heap.size := by have := z15.out; have := z19.out; have := z20.out; omega
          have hl9 : wq.heap.size ≤ wq.heap.size := by have := z15.out; have := z19.out; have := z20.out; omega
          have hi8 : wk15.heap.size < wk19.heap.size ∨ w3.heap.size ≤ wk15.heap.size := by have := z15.out; have := z19.out; have := z20.out; omega
          have hi9 : wq.heap.size < wk19.heap.size ∨ w3.heap.size ≤ wq.heap.size := by have := z15.out; have := z19.out; have := z20.out; omega
          obtain ⟨wz, hwz⟩ : ∃ x, x = (((w3.setCell ⟨wk15.heap.size, 0, none⟩ (I64 nn)).setCell ⟨wk15.heap.size, 1, none⟩ (.bool ns)).setCell ⟨wk15.heap.size, 2, none⟩ (.slice pa pn pc)) := ⟨_, rfl⟩
          have HRO : Hid (RegOut wq s c nn ns (pa, pn, pc) (r1, r2, r3) (ea, en, ec) dn (wk15.heap.size) (wq.heap.size) (((wz.setCell ⟨wq.heap.size, 0, none⟩ (I64 r1)).setCell ⟨wq.heap.size, 1, none⟩ (I64 r2)).setCell ⟨wq.heap.size, 2, none⟩ (I64 r3))) := by
           rw [hwz]
           exact RegOut.make (wc := wk19) hH19.out HP3.out HB3.out (Below.refl _ _) b8_20.out b9_20.out hne hl8 hl9 hi8 hi9
          have hBz : Hid (Below wq.heap.size wq wz) := by
           rw [hwz]
           exact (((hH20.out.setCell (p := ⟨wk15.heap.size, 0, none⟩) hl8 _).setCell (p := ⟨wk15.heap.size, 1, none⟩) hl8 _).setCell (p := ⟨wk15.heap.size, 2, none⟩) hl8 _)
          have hBf : Hid (Below wq.heap.size wq (((wz.setCell ⟨wq.heap.size, 0, none⟩ (I64 r1)).setCell ⟨wq.heap.size, 1, none⟩ (I64 r2)).setCell ⟨wq.heap.size, 2, none⟩ (I64 r3))) := (((hBz.out.setCell (p := ⟨wq.heap.size, 0, none⟩) hl9 _).setCell (p := ⟨wq.heap.size, 1, none⟩) hl9 _).setCell (p := ⟨wq.heap.size, 2, none⟩) hl9 _)
          have bz : wz.heap[wq.heap.size]? = some (.cells #[I64 0, I64 0, I64 0] 31 (0, 0)) := by
           rw [hwz]
           exact (set3_other (w := w3) (P := wk15.heap.size) (j := wq.heap.size) hne).trans b9_20.out
          have by8 : w3.heap[wk15.heap.size]? = some (.cells #[I64 0, .bool false, .slice none 0 0] 26 (0, 0)) := b8_20.out
          have y0 := blk_cell by8 0
          have y1 := blk_cell by8 1
          have y2 := blk_cell by8 2
          have fy0 := blk_free by8 0
          have fy1 := blk_free by8 1
          have fy2 := blk_free by8 2
          simp only [List.getElem?_toArray, List.getElem?_cons_succ, List.getElem?_cons_zero] at y0 y1 y2
          have q0 := blk_cell bz 0
          have q1 := blk_cell bz 1
          have q2 := blk_cell bz 2
          have fq0 := blk_free bz 0
          have fq1 := blk_free bz 1
          have fq2 := blk_free bz 2
          simp only [List.getElem?_toArray, List.getElem?_cons_succ, List.getElem?_cons_zero] at q0 q1 q2
          clear by8 bz hne hl8 hl9 hi8 hi9 hbw
          refine wpAnyH_ready (rs := [13]) (by kernel_rfl) (by simp) ?_
          refine AllReadyH.cons (o := _) (dropAt rfl) (fun K hK => ?_) AllReadyH.nil
          go_simp
          show K _ (((w3.setCell ⟨wk15.heap.size, 0, none⟩ (I64 nn)).setCell ⟨wk15.heap.size, 1, none⟩ (.bool ns)).setCell ⟨wk15.heap.size, 2, none⟩ (.slice pa pn pc))
          rw [← hwz]
          refine hK.out _ _ hBz (fun hHz => ?_)
          clear hK K hwz y0 y1 y2 fy0 fy1 fy2
          try simp only [Act.put, pu2, pu3, pu4]
          refine wpAnyH_ready (rs := [14]) (by kernel_rfl) (by simp) ?_
          refine AllReadyH.cons (o := _) (dropAt rfl) (fun K hK => ?_) AllReadyH.nil
          go_simp
          refine hK.out _ _ hBf (fun hHf => ?_)
          clear hK K q0 q1 q2 fq0 fq1 fq2
          try simp only [Act.put, pu2, pu3, pu4]
          refine tk 15 (v := ?vv15_41) (dropAt rfl) (Or.inl ⟨by rfl, ?hv15_41⟩) hHf ?rv15_41
          case hv15_41 => (intro w hSw; go_simp; first | done | with_reducible rfl)
          try simp only [Act.put, pu2, pu3, pu4]
          refine tk 16 (v := ?vv16_42) (dropAt rfl) (Or.inl ⟨by rfl, ?hv16_42⟩) hHf ?rv16_42
          case hv16_42 => (intro w hSw; go_simp; first | done | with_reducible rfl)
          try simp only [Act.put, pu2, pu3, pu4]
          refine wpAnyH_done (by kernel_rfl) ?_ _
          go_wp2_with fail
          go_meet
          exact ⟨wk15.heap.size, wq.heap.size, nn, ns, (pa, pn, pc), (r1, r2, r3), (ea, en, ec), dn, rfl, rfl, rfl, rfl, HRO⟩
    case rest =>
     obtain ⟨wC, hwC⟩ : ∃ x, x = wc := ⟨_, rfl⟩
     subst hwC
     obtain ⟨T8, T9, nn, ns, ⟨pa, pn, pc⟩, ⟨r1, r2, r3⟩, ⟨ea, en, ec⟩, dn, rfl, rfl, rfl, rfl, HRO⟩ := hcut
     dsimp only
     have HBC : Hid (Below wv.heap.size wv wC) := HAL.out.trans (HRO.out.bel.mono HAL.out.size)
     rcases HRO.out.post with ⟨hdn, -⟩ | ⟨hdn, hE, o, ho, e1, e2, e3, hlies⟩
     · subst hdn
       have HNX : Hid (LawO w5 T s (xa, xn, xc) W (ya, yn, yc) wC) := HAQ.out.below HRO.out.bel
       go_wp2_with fail
       refine ⟨⟨i + 1, s, xa, xn, xc, W, ya, yn, yc, hlt, by rw [show (i : Int) + 1 = ((i + 1 : Nat) : Int) by omega], rfl, HNX⟩, ?_⟩
       simp [intOf]
       omega
     · subst hdn
       have hl := Md.outcomes_ok hE
       have HWR := Lib.hid hl.2.1
       have hgood := Md.act_good HA.out.good hl.2.1 o ho
       obtain ⟨p, hsp, hpw⟩ := HA.out.wait
       obtain ⟨q, hnq, hord⟩ := Md.act_order hsp HA.out.good hl.2.1 o ho
       rw [hpw] at hord
       have hwl := wait_len hgood hnq
       have hel := effs_len HA.out.good o ho
       have hol := ord_len _ _ hord
       have hWl := wait_len HA.out.good hsp
       rw [hpw] at hWl
       have hen : en = o.effects.length := read_len (u := (ea, en, ec)) (hlies wC (.refl _ _)).2
       have HEN := Lib.hid hen
       have hen9 : en ≤ 4000000 := by rw [hen]; exact hel
       have HNQ := Lib.hid hnq
       have HOR := Lib.hid hord
       rw [← e3] at HOR
       have hpn : pn = 1 := by
        have q := pools_len (u := (pa, pn, pc)) (hlies wC (.refl _ _)).1
        rw [hnq] at q
        exact q
       subst hpn
       have HOO := Lib.hid ho
       have HLI := Lib.hid hlies
       have HE1 := Lib.hid e1
       have HE2 := Lib.hid e2
       have HE3 := Lib.hid e3
       have HEE := Lib.hid hE
       have HTL := Lib.hid HA.out.tlt
       have HQL := Lib.hid hwl
       have HWL := Lib.hid hWl
       have h5r : w5.heap.size ≤ wv.heap.size := HA.out.gb.size
       have H5R := Lib.hid h5r
       have HAT : Hid (∀ w1, Gb (fun i => w5.heap.size ≤ i ∧ i < wv.heap.size) wC w1 → S3 T8 nn ns (.slice pa 1 pc) w1 ∧ R3 T9 0 (r1, r2, r3) w1 ∧ C8 C9 0 c w1) := fun w1 hg => by
        have hq := HAL.out.size
        have hc9 := HC9.out
        have k8 := hg.blk HRO.out.b8 (by have := HRO.out.l8; omega)
        have k9 := hg.blk HRO.out.b9 (by have := HRO.out.l9; omega)
        have kc := hg.blk ((HRO.out.bel.block _ (lt_of_block HN9.out)).trans HN9.out) (by omega)
        exact ⟨⟨blk_cell k8 0, blk_cell k8 1, blk_cell k8 2⟩, ⟨blk_cell k9 0, blk_cell k9 1, blk_cell k9 2⟩, ⟨blk_cell kc 0, blk_cell kc 1, blk_cell kc 2, blk_cell kc 3, blk_cell kc 4, blk_cell kc 5, blk_cell kc 6, blk_cell kc 7⟩⟩
       have HOC : Hid (OwnO wC w5.heap.size (ya, yn, yc) W) := HAQ.out.own.below HRO.out.bel
       have HXG : Hid (∀ w1, Gb (fun i => w5.heap.size ≤ i ∧ i < wv.heap.size) wC w1 → Gb (fun i => i < wq.heap.size ∨ i = T8 ∨ i = T9) wC w1) := fun w1 hg => hg.mono (fun i _ q => .inl (by have := HAL.out.size; omega))
       clear hl hgood hsp hpw hnq hord ho hlies e1 e2 e3 hE hwl hel hol hWl hen h5r
       obtain ⟨⟨n0, n1, n2⟩, r9, c9⟩ := HAT.out wC (.refl _ _)
       unfold R3 at r9
       unfold C8 at c9
       simp only [Nat.zero_add] at r9 c9
       obtain ⟨r90, r91, r92⟩ := r9
       obtain ⟨c90, c91, c92, c93, c94, c95, c96, c97⟩ := c9
       go_upto_region 11 with fail
       go_cut [64] from 33 to 156 (fun v wx => v = .bool (c.kind == 1 && r1 == 3) ∧ wx = wC)
       case first =>
        as_aux_lemma =>
         by_cases hk : c.kind = 1
         · have b1 : (c.kind == 1) = true := by rw [beq_iff_eq]; exact hk
           clear hk
           go_wp2_with fail
           go_meet
           exact ⟨by rw [b1]; rfl, rfl⟩
         · have b1 : (c.kind == 1) = false := by rw [beq_eq_false_iff_ne]; exact hk
           clear hk
           go_wp2_with fail
           go_meet
           exact ⟨by rw [b1]; rfl, rfl⟩
       case rest =>
        obtain ⟨rfl, hwx⟩ := hcut
        have hwx2 := hwx.symm
        subst hwx2
        clear hwx n0 n1 n2 r90 r91 r92 c90 c91 c92 c93 c94 c95 c96 c97
        obtain ⟨bb, hbb⟩ : ∃ x, x = (c.kind == 1 && r1 == 3) := ⟨_, rfl⟩
        rw [← hbb]
        have HBB := Lib.hid hbb
        clear hbb
        go_upto_if 64 with fail
        go_cut [7] from 33 to 156 (fun v7 wx => ∃ za zn zc, v7 = .slice za zn zc ∧ Hid (OwnO wx w5.heap.size (za, zn, zc) (ord1 W c (r1, r2, r3)) ∧ Gb (fun i => w5.heap.size ≤ i ∧ i < wv.heap.size) wC wx))
        case first =>
         as_aux_lemma =>
          cases bb with
          | true =>
           have hb : (c.kind == 1 && r1 == 3) = true := HBB.out.symm
           have hb1 : (c.kind == 1 && r1 == 3) = true := hb
           have e1 : ord1 W c (r1, r2, r3) = W ++ [c.call] := by unfold ord1; rw [if_pos hb]
           have hal := (Below.refl wC.heap.size wC).alloc (Nat.le_refl _) (.cells #[I64 c.call] 2)
           have HAL2 := Lib.hid hal
           have hg8 := blk_cell (blk_new wC (.cells #[I64 c.call] 2)) 0
           have HO2 := Lib.hid (HOC.out.below hal)
           have HSZ : Hid (w5.heap.size ≤ (wC.alloc (.cells #[I64 c.call] 2)).heap.size) := by
            have := hal.size
            have a2 := HBC.out.size
            have a3 := H5R.out
            show _ ≤ _
            omega
           have hG8 : (wC.alloc (.cells #[I64 c.call] 2)).cell? ⟨wC.heap.size, 0, none⟩ = some (I64 c.call) := hg8
           have hWL := HWL.out
           have hWL1 : W.length ≤ 10000000 := by omega
           have HE := Lib.hid e1
           clear hal hg8 hb e1 hWL
           obtain ⟨⟨n0, n1, n2⟩, r9, c9⟩ := HAT.out wC (.refl _ _)
           unfold R3 at r9
           unfold C8 at c9
           simp only [Nat.zero_add] at r9 c9
           obtain ⟨r90, r91, r92⟩ := r9
           obtain ⟨c90, c91, c92, c93, c94, c95, c96, c97⟩ := c9
           go_wp2_with (at_builtin; refine appO _ rfl _ _ rfl w5.heap.size (ya, yn, yc) W c.call rfl HO2.out wC.heap.size 1 rfl hG8 hWL1 HSZ.out ?_; intro u2 w2 hown2 hgb2 hbk2)
           obtain ⟨za, zn, zc⟩ := u2
           unfold valS
           dsimp only
           have HF := Lib.hid hown2
           have HG : Hid (Gb (fun i => w5.heap.size ≤ i ∧ i < wv.heap.size) wC w2) := by
            refine (Gb.of_below HAL2.out).then hgb2 (fun i hi q => ?_)
            have := HOC.out.at q
            have a2 := HA.out.own.at q
            exact ⟨this.1, a2.2⟩
           clear hown2 hgb2 hbk2
           go_wp2_with fail
           go_meet
           exact ⟨za, zn, zc, rfl, by rw [HE.out]; exact HF.out, HG.out⟩
          | false =>
           have hb : (c.kind == 1 && r1 == 3) = false := HBB.out.symm
           have e1 : ord1 W c (r1, r2, r3) = W := by unfold ord1; rw [if_neg (by rw [hb]; exact Bool.false_ne_true)]
           have HE := Lib.hid e1
           clear e1
           go_wp2_with fail
           go_meet
           exact ⟨ya, yn, yc, rfl, by rw [HE.out]; exact HOC.out, .refl _ _⟩
        case rest =>
         obtain ⟨za, zn, zc, rfl, hcut⟩ := hcut
         obtain ⟨wD, hwD⟩ : ∃ x, x = wc := ⟨_, rfl⟩
         subst hwD
         have HOD := Lib.hid hcut.out.1
         have HGD := Lib.hid hcut.out.2
         clear hcut
         obtain ⟨b4, hb4⟩ : ∃ x, x = (c.kind == 4) := ⟨_, rfl⟩
         have HB4 := Lib.hid hb4
         have hol1 : (ord1 W c (r1, r2, r3)).length ≤ 10000000 := by
          unfold ord1
          have := HWL.out
          split
          · rw [List.length_append, List.length_singleton]
            omega
          · omega
         have HOL := Lib.hid hol1
         obtain ⟨⟨n0, n1, n2⟩, r9, c9⟩ := HAT.out wD HGD.out
         unfold R3 at r9
         unfold C8 at c9
         simp only [Nat.zero_add] at r9 c9
         obtain ⟨r90, r91, r92⟩ := r9
         obtain ⟨c90, c91, c92, c93, c94, c95, c96, c97⟩ := c9
         rw [show c.kind = c.kind from rfl] at c90
         go_upto_if 72 with fail
         rw [← hb4]
         clear hb4 hol1 n0 n1 n2 r90 r91 r92 c90 c91 c92 c93 c94 c95 c96 c97
         go_cut [7] from 33 to 156 (fun v7 wx => ∃ za zn zc, v7 = .slice za zn zc ∧ Hid (OwnO wx w5.heap.size (za, zn, zc) (Md.ordCall W c (r1, r2, r3)) ∧ Gb (fun i => w5.heap.size ≤ i ∧ i < wv.heap.size) wC wx))
         case first =>
          as_aux_lemma =>
           cases b4 with
           | true =>
            have hb : (c.kind == 4) = true := HB4.out.symm
            have e1 := ord_call W c (r1, r2, r3)
            rw [if_pos hb] at e1
            have HE := Lib.hid e1
            clear e1 hb
            obtain ⟨V, hV⟩ : ∃ x, x = ord1 W c (r1, r2, r3) := ⟨_, rfl⟩
            rw [← hV] at HOD HOL HE
            clear hV
            by_cases hm : c.call ∈ V
            · have HWO := Lib.hid (without_yes (za, zn, zc) V c.call w5.heap.size wD HOD.out hm HOL.out)
              clear hm
              obtain ⟨⟨n0, n1, n2⟩, r9, c9⟩ := HAT.out wD HGD.out
              unfold R3 at r9
              unfold C8 at c9
              simp only [Nat.zero_add] at r9 c9
              obtain ⟨r90, r91, r92⟩ := r9
              obtain ⟨c90, c91, c92, c93, c94, c95, c96, c97⟩ := c9
              unfold valS at HWO
              dsimp only at HWO
              go_wp2_with fail
              refine HWO.out.mono ?_
              rintro e w4 ⟨⟨qa, qn, qc⟩, rfl, ho4, hb4⟩
              dsimp only
              have HF := Lib.hid (ho4.mono (by have a1 := HGD.out.size; have a2 := HBC.out.size; have a3 := H5R.out; omega : w5.heap.size ≤ wD.heap.size))
              have HG := Lib.hid (HGD.out.trans (.of_below hb4))
              clear ho4 hb4
              go_wp2_with fail
              go_meet
              exact ⟨qa, qn, qc, rfl, by rw [HE.out]; exact HF.out, HG.out⟩
            · have HWO := Lib.hid (without_no (za, zn, zc) V c.call w5.heap.size wD HOD.out hm HOL.out)
              rw [List.erase_of_not_mem hm] at HE
              clear hm
              obtain ⟨⟨n0, n1, n2⟩, r9, c9⟩ := HAT.out wD HGD.out
              unfold R3 at r9
              unfold C8 at c9
              simp only [Nat.zero_add] at r9 c9
              obtain ⟨r90, r91, r92⟩ := r9
              obtain ⟨c90, c91, c92, c93, c94, c95, c96, c97⟩ := c9
              unfold valS at HWO
              dsimp only at HWO
              go_wp2_with fail
              refine HWO.out.mono ?_
              rintro e w4 ⟨rfl, hw4⟩
              subst hw4
              dsimp only
              go_wp2_with fail
              go_meet
              exact ⟨za, zn, zc, rfl, by rw [HE.out]; exact HOD.out, HGD.out⟩
           | false =>
            have hb : (c.kind == 4) = false := HB4.out.symm
            have e1 := ord_call W c (r1, r2, r3)
            rw [if_neg (by rw [hb]; exact Bool.false_ne_true)] at e1
            have HE := Lib.hid e1
            clear e1 hb
            go_wp2_with fail
            go_meet
            exact ⟨za, zn, zc, rfl, by rw [HE.out]; exact HOD.out, HGD.out⟩
         case rest =>
          obtain ⟨wa, wn, wc2, rfl, hcut⟩ := hcut
          obtain ⟨wE, hwE⟩ : ∃ x, x = wc := ⟨_, rfl⟩
          subst hwE
          have HGE := Lib.hid hcut.out.2
          have hst : OwnO wE w5.heap.size (wa, wn, wc2) (Md.ordCall W c (r1, r2, r3)) ∧ Gb (fun i => w5.heap.size ≤ i ∧ i < wv.heap.size) wC wE ∧ Md.ordEff (Md.ordCall W c (r1, r2, r3)) (o.effects.drop 0) = some (Md.waitOf q) := ⟨hcut.out.1, hcut.out.2, HOR.out⟩
          have HST := Lib.hid hst
          clear hst hcut HOD HGD HOL HB4 HBB
          go_wp2_with fail
          go_loopw [7, 14, 15, 16, 17] (fun yv kv _ _ _ w2 => ∃ k : Nat, ∃ fa fn fc V, k ≤ en ∧ kv = .int .i64 k ∧ yv = .slice fa fn fc ∧ Hid (OwnO w2 w5.heap.size (fa, fn, fc) V ∧ Gb (fun i => w5.heap.size ≤ i ∧ i < wv.heap.size) wC w2 ∧ Md.ordEff V (o.effects.drop k) = some (Md.waitOf q))) (fun _ kv _ _ _ _ => en - (intOf kv).toNat)
          case atStart => exact ⟨0, wa, wn, wc2, _, Nat.zero_le _, rfl, rfl, HST⟩
          case round =>
           obtain ⟨k, fa, fn, fc, V, hkN, rfl, rfl, HK⟩ := hrel
           obtain ⟨w4, hw4⟩ : ∃ x, x = wr := ⟨_, rfl⟩
           subst hw4
           by_cases hlk : k < en
           · have hkl : k < o.effects.length := by rw [← HEN.out]; exact hlk
             obtain ⟨ge, oe, ce, e, _, hce⟩ := ((HLI.out w4 (HXG.out w4 HK.out.2.1)).2).form (by intro e; rw [e] at hkl; simp at hkl)
             injection e with f1 f2 f3
             replace f1 : ea = some ⟨ge, oe, none⟩ := f1
             subst f1
             clear f2 f3
             have hre := hce k hkl
             have hod := HK.out.2.2
             rw [List.drop_eq_getElem_cons hkl] at hod
             have hVl := ord_len _ _ hod
             rw [List.length_cons, List.length_drop] at hVl
             have hqL := HQL.out
             have hel9 := HEN.out
             have hV6 : V.length ≤ 5000000 := by omega
             generalize o.effects[k] = ef at hre hod
             obtain ⟨ek, eb, ec1, ec2⟩ := ef
             have rr : ∀ j v, (encEff (ek, eb, ec1, ec2))[j]? = some v → w4.cell? ⟨ge, oe + k * 4 + j, none⟩ = some v := hre
             have k0 : w4.cell? ⟨ge, oe + k * 4, none⟩ = some (I64 ek) := rr 0 _ rfl
             have k1 : w4.cell? ⟨ge, oe + k * 4 + 1, none⟩ = some (I64 eb) := rr 1 _ rfl
             have k2 : w4.cell? ⟨ge, oe + k * 4 + 2, none⟩ = some (I64 ec1) := rr 2 _ rfl
             have k3 : w4.cell? ⟨ge, oe + k * 4 + 3, none⟩ = some (I64 ec2) := rr 3 _ rfl
             have hkI : (k : Int) < (en : Int) := by omega
             have hal := (Below.refl w4.heap.size w4).alloc (Nat.le_refl _) (.cells #[I64 ek, I64 eb, I64 ec1, I64 ec2] 51)
             have hP := blk_new w4 (.cells #[I64 ek, I64 eb, I64 ec1, I64 ec2] 51)
             have p0 := blk_cell hP 0
             have p1 := blk_cell hP 1
             have p2 := blk_cell hP 2
             have p3 := blk_cell hP 3
             simp only [List.getElem?_toArray, List.getElem?_cons_succ, List.getElem?_cons_zero] at p0 p1 p2 p3
             have HAE := Lib.hid hal
             have HOE := Lib.hid (HK.out.1.below hal)
             have HGE2 := Lib.hid (HK.out.2.1.trans (.of_below hal))
             have HZ5 : Hid (w5.heap.size ≤ (w4.alloc (.cells #[I64 ek, I64 eb, I64 ec1, I64 ec2] 51)).heap.size) := Nat.le_trans H5R.out (Nat.le_trans HBC.out.size HGE2.out.size)
             clear hre hce rr hal hP hVl hqL hel9 hkl
             by_cases h1 : ek = 1
             · have b1 : (ek == 1) = true := by rw [beq_iff_eq]; exact h1
               obtain ⟨t, rfl, ht⟩ := ord_head (by omega) hod
               have HT := Lib.hid ht
               clear ht hod
               obtain ⟨g, oo, cap, hu, hcap, hgl, hc4⟩ := HOE.out.form (by simp)
               injection hu with u1 u2
               injection u2 with u2 u3
               have u3r := u3
               subst u1 u3r
               have HFN := Lib.hid u2
               have hfn : 1 ≤ fn := by rw [u2]; simp
               have hfc : fn ≤ fc := by rw [u2]; exact hcap
               have hc0 := hc4 0 (by simp)
               have q0 : (w4.alloc (.cells #[I64 ek, I64 eb, I64 ec1, I64 ec2] 51)).cell? ⟨g, oo, none⟩ = some (I64 ec1) := hc0
               have hnn : ((ec1 : Int) != ec1) = false := by simp
               clear u2 u3 hcap hc4 hc0 h1
               try clear h2
               by_cases hc1 : fc = 1
               · subst hc1
                 obtain rfl : fn = 1 := by omega
                 have ht0 : t.length = 0 := by have := HFN.out; rw [List.length_cons] at this; omega
                 have HTA : Hid (OwnO (w4.alloc (.cells #[I64 ek, I64 eb, I64 ec1, I64 ec2] 51)) w5.heap.size (some ⟨g, oo, none⟩, 0, 0) t) := by
                  have q := HOE.out.tail (o2 := oo) (c2 := 0) rfl (by omega) (fun _ => rfl)
                  rw [ht0] at q
                  exact q
                 clear ht0
                 go_upto_region 22 with fail
                 go_quiet (fail)
                 go_wp2_with fail
                 have HQ := Lib.hid (below_drewN (.refl (w4.alloc (.cells #[I64 ek, I64 eb, I64 ec1, I64 ec2] 51)).heap.size (w4.alloc (.cells #[I64 ek, I64 eb, I64 ec1, I64 ec2] 51))) nq)
                 refine ⟨⟨k + 1, some ⟨g, oo, none⟩, 0, 0, t, hlk, by rw [show (k : Int) + 1 = ((k + 1 : Nat) : Int) by omega], rfl, ⟨HTA.out.below HQ.out, HGE2.out.trans (.of_below HQ.out), HT.out⟩⟩, ?_⟩
                 simp [intOf]
                 omega
               · have HTA : Hid (OwnO (w4.alloc (.cells #[I64 ek, I64 eb, I64 ec1, I64 ec2] 51)) w5.heap.size (some ⟨g, oo + 1, none⟩, fn - 1, fc - 1) t) := by
                  have q := HOE.out.tail (o2 := oo + 1) (c2 := fc - 1) rfl (fun _ => rfl) (fun q => absurd q hc1)
                  have e : t.length = fn - 1 := by have := HFN.out; rw [List.length_cons] at this; omega
                  rw [e] at q
                  exact q
                 have hf0 : ((fn : Int) == 0) = false := by rw [beq_eq_false_iff_ne]; omega
                 have hf1 : (0 : Int) < (fn : Int) := by omega
                 have hf2 : 0 < fn := by omega
                 have hf3 : (1 : Int) ≤ (fn : Int) := by omega
                 have hf4 : 1 ≤ fc := by omega
                 have hf5 : (1 : Int) ≤ (fc : Int) := by omega
                 have hf6 : ¬ fn = 0 := by omega
                 have hf7 : (fn == 0) = false := by rw [beq_eq_false_iff_ne]; omega
                 have hf8 : decide (fn = 0) = false := decide_eq_false hf6
                 go_upto_region 22 with fail
                 go_quiet (fail)
                 go_wp2_with fail
                 have HQ := Lib.hid (below_drewN (.refl (w4.alloc (.cells #[I64 ek, I64 eb, I64 ec1, I64 ec2] 51)).heap.size (w4.alloc (.cells #[I64 ek, I64 eb, I64 ec1, I64 ec2] 51))) nq)
                 refine ⟨⟨k + 1, some ⟨g, oo + 1, none⟩, fn - 1, fc - 1, t, hlk, by rw [show (k : Int) + 1 = ((k + 1 : Nat) : Int) by omega], rfl, ⟨HTA.out.below HQ.out, HGE2.out.trans (.of_below HQ.out), HT.out⟩⟩, ?_⟩
                 simp [intOf]
                 omega
             · by_cases h2 : ek = 2
               · have b1 : (ek == 1) = false := by rw [beq_eq_false_iff_ne]; exact h1
                 have b2 : (ek == 2) = true := by rw [beq_iff_eq]; exact h2
                 obtain ⟨t, rfl, ht⟩ := ord_head (by omega) hod
                 have HT := Lib.hid ht
                 clear ht hod
                 obtain ⟨g, oo, cap, hu, hcap, hgl, hc4⟩ := HOE.out.form (by simp)
                 injection hu with u1 u2
                 injection u2 with u2 u3
                 have u3r := u3
                 subst u1 u3r
                 have HFN := Lib.hid u2
                 have hfn : 1 ≤ fn := by rw [u2]; simp
                 have hfc : fn ≤ fc := by rw [u2]; exact hcap
                 have hc0 := hc4 0 (by simp)
                 have q0 : (w4.alloc (.cells #[I64 ek, I64 eb, I64 ec1, I64 ec2] 51)).cell? ⟨g, oo, none⟩ = some (I64 ec1) := hc0
                 have hnn : ((ec1 : Int) != ec1) = false := by simp
                 clear u2 u3 hcap hc4 hc0 h1
                 try clear h2
                 by_cases hc1 : fc = 1
                 · subst hc1
                   obtain rfl : fn = 1 := by omega
                   have ht0 : t.length = 0 := by have := HFN.out; rw [List.length_cons] at this; omega
                   have HTA : Hid (OwnO (w4.alloc (.cells #[I64 ek, I64 eb, I64 ec1, I64 ec2] 51)) w5.heap.size (some ⟨g, oo, none⟩, 0, 0) t) := by
                    have q := HOE.out.tail (o2 := oo) (c2 := 0) rfl (by omega) (fun _ => rfl)
                    rw [ht0] at q
                    exact q
                   clear ht0
                   go_upto_region 22 with fail
                   go_quiet (fail)
                   go_wp2_with fail
                   have HQ := Lib.hid (below_drewN (.refl (w4.alloc (.cells #[I64 ek, I64 eb, I64 ec1, I64 ec2] 51)).heap.size (w4.alloc (.cells #[I64 ek, I64 eb, I64 ec1, I64 ec2] 51))) nq)
                   refine ⟨⟨k + 1, some ⟨g, oo, none⟩, 0, 0, t, hlk, by rw [show (k : Int) + 1 = ((k + 1 : Nat) : Int) by omega], rfl, ⟨HTA.out.below HQ.out, HGE2.out.trans (.of_below HQ.out), HT.out⟩⟩, ?_⟩
                   simp [intOf]
                   omega
                 · have HTA : Hid (OwnO (w4.alloc (.cells #[I64 ek, I64 eb, I64 ec1, I64 ec2] 51)) w5.heap.size (some ⟨g, oo + 1, none⟩, fn - 1, fc - 1) t) := by
                    have q := HOE.out.tail (o2 := oo + 1) (c2 := fc - 1) rfl (fun _ => rfl) (fun q => absurd q hc1)
                    have e : t.length = fn - 1 := by have := HFN.out; rw [List.length_cons] at this; omega
                    rw [e] at q
                    exact q
                   have hf0 : ((fn : Int) == 0) = false := by rw [beq_eq_false_iff_ne]; omega
                   have hf1 : (0 : Int) < (fn : Int) := by omega
                   have hf2 : 0 < fn := by omega
                   have hf3 : (1 : Int) ≤ (fn : Int) := by omega
                   have hf4 : 1 ≤ fc := by omega
                   have hf5 : (1 : Int) ≤ (fc : Int) := by omega
                   have hf6 : ¬ fn = 0 := by omega
                   have hf7 : (fn == 0) = false := by rw [beq_eq_false_iff_ne]; omega
                   have hf8 : decide (fn = 0) = false := decide_eq_false hf6
                   go_upto_region 22 with fail
                   go_quiet (fail)
                   go_wp2_with fail
                   have HQ := Lib.hid (below_drewN (.refl (w4.alloc (.cells #[I64 ek, I64 eb, I64 ec1, I64 ec2] 51)).heap.size (w4.alloc (.cells #[I64 ek, I64 eb, I64 ec1, I64 ec2] 51))) nq)
                   refine ⟨⟨k + 1, some ⟨g, oo + 1, none⟩, fn - 1, fc - 1, t, hlk, by rw [show (k : Int) + 1 = ((k + 1 : Nat) : Int) by omega], rfl, ⟨HTA.out.below HQ.out, HGE2.out.trans (.of_below HQ.out), HT.out⟩⟩, ?_⟩
                   simp [intOf]
                   omega
               · by_cases h5 : ek = 5
                 · have b1 : (ek == 1) = false := by rw [beq_eq_false_iff_ne]; exact h1
                   have b2 : (ek == 2) = false := by rw [beq_eq_false_iff_ne]; exact h2
                   have b5 : (ek == 5) = true := by rw [beq_iff_eq]; exact h5
                   obtain ⟨hm, ht⟩ := ord_gone (by omega) hod
                   have HT := Lib.hid ht
                   have HWO := Lib.hid (without_yes (fa, fn, fc) V ec1 w5.heap.size (w4.alloc (.cells #[I64 ek, I64 eb, I64 ec1, I64 ec2] 51)) HOE.out hm (by omega))
                   unfold valS at HWO
                   dsimp only at HWO
                   clear hm ht hod h1 h2 h5
                   try clear h6
                   go_wp2_with fail
                   refine HWO.out.mono ?_
                   rintro e w6 ⟨⟨qa, qn, qc⟩, rfl, ho6, hb6⟩
                   dsimp only
                   have HF := Lib.hid (ho6.mono HZ5.out)
                   have HG := Lib.hid (HGE2.out.trans (.of_below hb6))
                   clear ho6 hb6
                   go_wp2_with fail
                   refine ⟨⟨k + 1, qa, qn, qc, _, hlk, by rw [show (k : Int) + 1 = ((k + 1 : Nat) : Int) by omega], rfl, ⟨HF.out, HG.out, HT.out⟩⟩, ?_⟩
                   simp [intOf]
                   omega
                 · by_cases h6 : ek = 6
                   · have b1 : (ek == 1) = false := by rw [beq_eq_false_iff_ne]; exact h1
                     have b2 : (ek == 2) = false := by rw [beq_eq_false_iff_ne]; exact h2
                     have b5 : (ek == 5) = false := by rw [beq_eq_false_iff_ne]; exact h5
                     have b6 : (ek == 6) = true := by rw [beq_iff_eq]; exact h6
                     obtain ⟨hm, ht⟩ := ord_gone (by omega) hod
                     have HT := Lib.hid ht
                     have HWO := Lib.hid (without_yes (fa, fn, fc) V ec1 w5.heap.size (w4.alloc (.cells #[I64 ek, I64 eb, I64 ec1, I64 ec2] 51)) HOE.out hm (by omega))
                     unfold valS at HWO
                     dsimp only at HWO
                     clear hm ht hod h1 h2 h5
                     try clear h6
                     go_wp2_with fail
                     refine HWO.out.mono ?_
                     rintro e w6 ⟨⟨qa, qn, qc⟩, rfl, ho6, hb6⟩
                     dsimp only
                     have HF := Lib.hid (ho6.mono HZ5.out)
                     have HG := Lib.hid (HGE2.out.trans (.of_below hb6))
                     clear ho6 hb6
                     go_wp2_with fail
                     refine ⟨⟨k + 1, qa, qn, qc, _, hlk, by rw [show (k : Int) + 1 = ((k + 1 : Nat) : Int) by omega], rfl, ⟨HF.out, HG.out, HT.out⟩⟩, ?_⟩
                     simp [intOf]
                     omega
                   · have b1 : (ek == 1) = false := by rw [beq_eq_false_iff_ne]; exact h1
                     have b2 : (ek == 2) = false := by rw [beq_eq_false_iff_ne]; exact h2
                     have b5 : (ek == 5) = false := by rw [beq_eq_false_iff_ne]; exact h5
                     have b6 : (ek == 6) = false := by rw [beq_eq_false_iff_ne]; exact h6
                     have HT := Lib.hid (ord_none h1 h2 h5 h6 hod)
                     clear h1 h2 h5 h6 hod
                     go_wp2_with fail
                     refine ⟨⟨k + 1, fa, fn, fc, V, hlk, by rw [show (k : Int) + 1 = ((k + 1 : Nat) : Int) by omega], rfl, ⟨HOE.out, HGE2.out, HT.out⟩⟩, ?_⟩
                     simp [intOf]
                     omega
           · have hke : k = en := by omega
             have hkn : ¬ (k : Int) < (en : Int) := by omega
             have hod := HK.out.2.2
             rw [List.drop_eq_nil_of_le (by have := HEN.out; omega)] at hod
             have hV : V = Md.waitOf q := by
              unfold Md.ordEff at hod
              injection hod
             subst hV
             have HOK := Lib.hid HK.out.1
             have HGK := Lib.hid HK.out.2.1
             obtain ⟨pvs, hrd⟩ := rd_of (HLI.out w4 (HXG.out w4 HGK.out)).1
             have hnq := HNQ.out
             have hb0 : 0 < o.next.pools.length := by rw [hnq]; simp
             have hbp : 0 < pvs.length := by rw [hrd.2.1]; exact hb0
             obtain ⟨g, oo, cp, e, _, hcp⟩ := hrd.1.form (by intro e; rw [e] at hbp; simp at hbp)
             unfold valS at e
             injection e with f1 f2 f3
             replace f1 : pa = some ⟨g, oo, none⟩ := f1
             subst f1
             clear f2 f3
             have hrk := hrd.2.2 0 hbp hb0
             have hq0 : o.next.pools[0] = q := by simp [hnq]
             rw [hq0] at hrk
             have hrow := hcp 0 hbp
             generalize pvs[0] = pv at hrow hrk
             obtain ⟨⟨mx2, qu2, id2, ag2⟩, ⟨ia, iN, ic⟩, ⟨la, lN, lc⟩, ⟨da, dN, dc⟩, ⟨sa, sN, sc⟩, up, br, pr⟩ := pv
             have hm7 := hrow 7 _ rfl
             rw [Nat.zero_mul, Nat.add_zero] at hm7
             have m7 : w4.cell? ⟨g, oo + 7, none⟩ = some (.slice sa sN sc) := hm7
             have HWR2 := Lib.hid hrk.waiters
             have hsN : sN = q.waiters.length := read_len (u := (sa, sN, sc)) hrk.waiters
             have hfl := HOK.out.len
             dsimp only at hfl
             unfold Md.waitOf at hfl
             rw [List.length_map, ← hsN] at hfl
             replace hfl := hfl.symm
             have hs9 : sN ≤ 200000 := by
              have := HQL.out
              unfold Md.waitOf at this
              rw [List.length_map, ← hsN] at this
              exact this
             subst hfl
             have HSN := Lib.hid hsN
             have HM7 := Lib.hid m7
             have hss : ((sN : Int) != (sN : Int)) = false := by simp
             clear hrd hnq hq0 hrk hrow hcp hsN hod hm7 hbp hb0
             subst hke
             obtain ⟨⟨n0, n1, n2⟩, r9, c9⟩ := HAT.out w4 HGK.out
             unfold R3 at r9
             unfold C8 at c9
             simp only [Nat.zero_add] at r9 c9
             obtain ⟨r90, r91, r92⟩ := r9
             obtain ⟨c90, c91, c92, c93, c94, c95, c96, c97⟩ := c9
             go_wp2_with fail
             clear n0 n1 n2 r90 r91 r92 c90 c91 c92 c93 c94 c95 c96 c97 m7 hss
             go_loopw [18] (fun kv w6 => ∃ k2 : Nat, k2 ≤ sN ∧ kv = .int .i64 k2 ∧ Hid (Below w4.heap.size w4 w6)) (fun kv _ => sN - (intOf kv).toNat)
             case atStart => exact ⟨0, Nat.zero_le _, rfl, Lib.hid (Below.refl _ _)⟩
             case round =>
              obtain ⟨k2, hk2, rfl, HBK⟩ := hrel
              obtain ⟨w7, hw7⟩ : ∃ x, x = wr := ⟨_, rfl⟩
              subst hw7
              by_cases hl2 : k2 < sN
              · have hk2l : k2 < q.waiters.length := by rw [← HSN.out]; exact hl2
                have hk2w : k2 < (Md.waitOf q).length := by unfold Md.waitOf; rw [List.length_map]; exact hk2l
                obtain ⟨gv, ov, cv, hu, hcv, hgv, hc4⟩ := HOK.out.form (by intro e; rw [e] at hk2w; simp at hk2w)
                injection hu with u1 u2
                injection u2 with u2 u3
                subst u1
                obtain ⟨gw, ow, cw, e, hgw, hcw⟩ := HWR2.out.form (by intro e; rw [e] at hk2l; simp at hk2l)
                unfold valS at e
                injection e with f1 f2 f3
                replace f1 : sa = some ⟨gw, ow, none⟩ := f1
                subst f1
                clear f2 f3 u2 u3
                have q1 := hc4 k2 hk2w
                have q2 := hcw k2 hk2l 0 _ rfl
                have e3 : (Md.waitOf q)[k2] = q.waiters[k2].1 := by simp [Md.waitOf]
                rw [e3] at q1
                generalize q.waiters[k2].1 = zz at q1 q2 e3
                have r1c : w7.cell? ⟨gv, ov + k2, none⟩ = some (I64 zz) := (HBK.out.cell (p := ⟨gv, _, none⟩) hgv).trans q1
                have r2c : w7.cell? ⟨gw, ow + k2 * 2, none⟩ = some (I64 zz) := (HBK.out.cell (p := ⟨gw, _, none⟩) hgw).trans q2
                have r3c : w7.cell? ⟨g, oo + 7, none⟩ = some (.slice (some ⟨gw, ow, none⟩) sN sc) := (HBK.out.cell (p := ⟨g, _, none⟩) (cell_lt HM7.out)).trans HM7.out
                have hk2I : (k2 : Int) < (sN : Int) := by omega
                have hzz : (zz != zz) = false := by simp
                clear q1 q2 e3 hc4 hcw hk2l hk2w hcv hgv hgw
                obtain ⟨⟨n0, n1, n2⟩, r9, c9⟩ := HAT.out w7 (HGK.out.trans (.of_below HBK.out))
                unfold R3 at r9
                unfold C8 at c9
                simp only [Nat.zero_add] at r9 c9
                obtain ⟨r90, r91, r92⟩ := r9
                obtain ⟨c90, c91, c92, c93, c94, c95, c96, c97⟩ := c9
                go_wp2_with fail
                go_quiet (fail)
                go_wp2_with fail
                refine ⟨⟨k2 + 1, hl2, by rw [show (k2 : Int) + 1 = ((k2 + 1 : Nat) : Int) by omega], HBK.out.trans (below_drewN (.refl _ _) _ |>.mono HBK.out.size)⟩, ?_⟩
                simp [intOf]
                omega
              · have hk2n : ¬ (k2 : Int) < (sN : Int) := by omega
                have HGZ := Lib.hid (HGK.out.trans (.of_below HBK.out))
                obtain ⟨hT, hnx⟩ := HA.out.next HEE.out HOO.out HX.out.call HX.out.conn HBC.out (fun w2 hg => (HLI.out w2 hg).1) (fun i hi => .inl (by have := HAL.out.size; omega)) HGZ.out (HOK.out.below HBK.out) HNQ.out rfl
                rw [← HE1.out, ← HE2.out] at hnx
                unfold valS at hT hnx
                dsimp only at hT hnx
                have HNXT := Lib.hid hnx
                unfold Z3 at hT
                have t0 := blk_cell hT 0
                have t1 := blk_cell hT 1
                have t2 := blk_cell hT 2
                have ft0 := blk_free hT 0
                have ft1 := blk_free hT 1
                have ft2 := blk_free hT 2
                simp only [List.getElem?_toArray, List.getElem?_cons_succ, List.getElem?_cons_zero] at t0 t1 t2
                clear hT hnx
                obtain ⟨⟨n0, n1, n2⟩, r9, c9⟩ := HAT.out w7 HGZ.out
                unfold R3 at r9
                unfold C8 at c9
                simp only [Nat.zero_add] at r9 c9
                obtain ⟨r90, r91, r92⟩ := r9
                obtain ⟨c90, c91, c92, c93, c94, c95, c96, c97⟩ := c9
                go_wp2_with fail
                refine ⟨⟨i + 1, o.next, some ⟨g, oo, none⟩, 1, pc, Md.waitOf q, fa, sN, fc, hlt, by rw [show (i : Int) + 1 = ((i + 1 : Nat) : Int) by omega], rfl, HNXT⟩, ?_⟩
                simp [intOf]
                omega
  · have hin2 : ¬ (i : Int) < (vn : Int) := by omega
    have hbw : Below w.heap.size w wv := H5.out.1.trans (HA.out.gb.below H5.out.1.size (fun j (q : j = T) => by have := H5.out.2.2.2; omega))
    have HBW := Lib.hid hbw
    clear hbw hlt hiN
    go_wp2_with fail
    refine (awake_any _).mono ?_
    rintro e w7 ⟨rfl, hb7⟩
    have HF := Lib.hid (HBW.out.trans (hb7.mono HBW.out.size))
    clear hb7
    go_wp2
    go_ret
    exact ⟨rfl, HF.out⟩
theorem order_all (lim : Md.Lim) (acts : List (Md.Call × Int)) (v : SlV) (w : World) (h2 : ReadsL 9 encAct w (valS v) acts) (hin : ∀ x ∈ acts, ActIn x) :
 Calls Try.prog 4 #[.agg #[I64 lim.max, I64 lim.queue, I64 lim.idle, I64 lim.age], valS v] w fun e w' => e = .returned (.bool true) ∧ Below w.heap.size w w' := by
 by_cases hE : (Md.new [lim]).2 = 0
 · by_cases hbig : acts.length ≤ 80
   · exact order_loop lim acts v w h2 hE hbig hin
   · exact order_far lim acts v w h2 hE (by omega)
 · exact order_no lim acts v w h2 hE
end Go.Proofs.Ytaicmiadgnpimaa
