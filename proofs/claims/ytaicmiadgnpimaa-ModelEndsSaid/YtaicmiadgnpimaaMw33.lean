/-
  Walks for layer 26 (model): leave.
-/
import Derived.Test.YtaicmiadgnpimaaMw32
namespace Go.Proofs.Ytaicmiadgnpimaa
open Go.RowKit

def leaveS (s : Md.State) (k : Nat) : Md.State := { s with pools := (s.pools.take k).map (Md.leaveQ s.shut s.now) ++ s.pools.drop k }
def leaveEs (kd : Int) (s : Md.State) (k : Nat) : List Md.Effect := ((s.pools.take k).zipIdx).flatMap (Md.leaveE kd s.shut s.now)
theorem leaveS_zero (s : Md.State) : leaveS s 0 = s := by simp [leaveS]
theorem leaveEs_zero (kd : Int) (s : Md.State) : leaveEs kd s 0 = [] := by simp [leaveEs]
theorem leaveS_len (s : Md.State) (k : Nat) : (leaveS s k).pools.length = s.pools.length := by
 unfold leaveS
 simp only [List.length_append, List.length_map, List.length_take, List.length_drop]
 omega
theorem leaveS_get (s : Md.State) (k : Nat) (hk : k < s.pools.length) (h : k < (leaveS s k).pools.length) : (leaveS s k).pools[k] = s.pools[k] := by
 unfold leaveS
 have h1 : ((s.pools.take k).map (Md.leaveQ s.shut s.now)).length = k := by rw [List.length_map, List.length_take]; omega
 have e : ((s.pools.take k).map (Md.leaveQ s.shut s.now) ++ s.pools.drop k)[k]? = s.pools[k]? := by
  rw [List.getElem?_append_right (by omega), h1, Nat.sub_self, List.getElem?_drop, Nat.add_zero]
 have h2 : k < ((s.pools.take k).map (Md.leaveQ s.shut s.now) ++ s.pools.drop k).length := h
 rw [List.getElem?_eq_getElem h2, List.getElem?_eq_getElem hk] at e
 injection e
theorem leaveS_set (s : Md.State) (k : Nat) (hk : k < s.pools.length) : setP (leaveS s k) k (Md.leaveQ s.shut s.now s.pools[k]) = leaveS s (k + 1) := by
 unfold setP leaveS
 have h1 : ((s.pools.take k).map (Md.leaveQ s.shut s.now)).length = k := by rw [List.length_map, List.length_take]; omega
 rw [List.set_append_right _ _ (by omega), h1, Nat.sub_self, List.drop_eq_getElem_cons hk, List.set_cons_zero, List.take_succ_eq_append_getElem hk, List.map_append, List.append_assoc]
 rfl
theorem leaveEs_succ (kd : Int) (s : Md.State) (k : Nat) (hk : k < s.pools.length) : leaveEs kd s (k + 1) = leaveEs kd s k ++ Md.leaveE kd s.shut s.now (s.pools[k], k) := by
 unfold leaveEs
 rw [List.take_succ_eq_append_getElem hk, List.zipIdx_append, List.flatMap_append]
 have h1 : (s.pools.take k).length = k := by rw [List.length_take]; omega
 simp [h1]
theorem leaveS_all (kd : Int) (s : Md.State) : leaveS s s.pools.length = (Md.leave kd s).1 := by
 simp [leaveS, Md.leave]
theorem leaveEs_all (kd : Int) (s : Md.State) : leaveEs kd s s.pools.length = (Md.leave kd s).2 := by
 simp [leaveEs, Md.leave]
/-- What leaving asks of a backend. -/
structure LeaveFit (p : Md.Pool) : Prop where
 il : p.idle.length ≤ 1000
 wl : p.waiters.length ≤ 1000
 nr : ∀ x ∈ p.idle, Near x.2.1 ∧ Near x.2.2
 n1 : Near p.lim.idle
 n2 : Near p.lim.age
theorem leaveE_len (kd : Int) (s : Md.State) (p : Md.Pool) (h : LeaveFit p) (k : Nat) : (Md.leaveE kd s.shut s.now (p, k)).length ≤ 2000 := by
 unfold Md.leaveE
 have h1 := List.length_filter_le (fun w => !Md.stays s.shut s.now w) p.waiters
 have h2 := List.length_filter_le (fun c => !(!s.shut && Md.young p.lim c s.now)) p.idle
 have h3 := h.il
 have h4 := h.wl
 simp only [List.length_append, List.length_map]
 omega
theorem leaveEs_len (kd : Int) (s : Md.State) (hf : ∀ p ∈ s.pools, LeaveFit p) : ∀ k, k ≤ s.pools.length → (leaveEs kd s k).length ≤ k * 2000
 | 0, _ => by simp [leaveEs]
 | k + 1, hk => by
  have h1 := leaveEs_len kd s hf k (by omega)
  have h2 := leaveE_len kd s _ (hf _ (List.getElem_mem (show k < s.pools.length by omega))) k
  rw [leaveEs_succ kd s k (by omega), List.length_append]
  omega
/-- The cells that the walk reads again and again. -/
def C4 (A R A5 G n cap k : Nat) (w : World) : Prop := w.cell? ⟨A, 0, none⟩ = some (.pointer (some ⟨R, 0, none⟩)) ∧ w.cell? ⟨R, 2, none⟩ = some (.slice (some ⟨G, 0, none⟩) n cap) ∧ w.cell? ⟨A5, 0, none⟩ = some (I64 k)
theorem C4.kept {A R A5 G n cap k : Nat} {w w' : World} {X : Nat} (h : C4 A R A5 G n cap k w) (hg : w.grownBy w' (some X)) (h1 : w.heap.size ≤ X) : C4 A R A5 G n cap k w' := by
 have hc : ∀ b o v, w.cell? ⟨b, o, none⟩ = some v → w'.cell? ⟨b, o, none⟩ = some v := fun b o v hv => by
  have hl := cell_lt hv
  exact (World.cell?_of_block (a := ⟨b, o, none⟩) (hg.block b hl (fun e => by injection e with e; omega))).trans hv
 exact ⟨hc _ _ _ h.1, hc _ _ _ h.2.1, hc _ _ _ h.2.2⟩
def C5 (A6 G o : Nat) (w : World) : Prop := w.cell? ⟨A6, 0, none⟩ = some (.pointer (some ⟨G, o, none⟩))
/-- The run in the middle of leave. -/
def LvAt (S : Nat → Prop) (R : Nat) (c : Md.Call) (s : Md.State) (es : List Md.Effect) (kd : Int) (G n cap k : Nat) (w0 w : World) : Prop := RunE S R c (leaveS s k) (es ++ leaveEs kd s k) (fun _ => True) G n cap w ∧ Gb S w0 w

def lvP (s : Md.State) (p : Md.Pool) : Md.Pool := { p with waiters := p.waiters.filter (fun x => Md.stays s.shut s.now x) }
def lvW (kd : Int) (s : Md.State) (p : Md.Pool) (k : Nat) : List Md.Effect := (p.waiters.filter (fun x => !Md.stays s.shut s.now x)).map (fun x => (kd, (k : Int), x.1, (0 : Int)))
def lvI (s : Md.State) (p : Md.Pool) (k : Nat) : List Md.Effect := (p.idle.filter (fun x => !(!s.shut && Md.young p.lim x s.now))).map (fun x => ((11 : Int), (k : Int), (0 : Int), x.1))
theorem lv_wait_run (S : Nat → Prop) (R G n cap k A1 A2 A3 : Nat) (kd : Int) (c : Md.Call) (s : Md.State) (es : List Md.Effect) (ev : SlV) (pvs : List PoolV) (w : World) (h : RunV S R c (leaveS s k) es (fun _ => True) (some ⟨G, 0, none⟩, n, cap) ev pvs w) (hk : k < s.pools.length) (hkp : k < pvs.length)
 (a1 : w.cell? ⟨A1, 0, none⟩ = some (.pointer (some ⟨R, 0, none⟩))) (a2 : w.cell? ⟨A2, 0, none⟩ = some (I64 kd)) (a3 : w.cell? ⟨A3, 0, none⟩ = some (I64 k)) (n1 : ¬ S A1) (n2 : ¬ S A2) (n3 : ¬ S A3) (hf : LeaveFit s.pools[k]) (hel : es.length ≤ 800000) :
 Calls Try.prog 95 #[valS pvs[k].vW, .func (.func 96) #[] #[.pointer (some ⟨A1, 0, none⟩), .pointer (some ⟨A2, 0, none⟩), .pointer (some ⟨A3, 0, none⟩)]] w fun e w' => ∃ u', e = .returned (valS u') ∧ (w'.cell? ⟨G, k * 11 + 7, none⟩ = some (valS pvs[k].vW) ∧ w'.frozen? ⟨G, k * 11 + 7, none⟩ = false) ∧ (∀ x, x < w.heap.size → ¬ S x → w'.heap[x]? = w.heap[x]?) ∧
  RunE S R c (setP (leaveS s k) k (lvP s s.pools[k])) (es ++ lvW kd s s.pools[k] k) (fun _ => True) G n cap (w'.setCell ⟨G, k * 11 + 7, none⟩ (valS u')) ∧ Gb S w (w'.setCell ⟨G, k * 11 + 7, none⟩ (valS u')) := by
 have hbn : k < (leaveS s k).pools.length := by rw [leaveS_len]; exact hk
 have e := leaveS_get s k hk hbn
 have q := dfW_run S R G n cap k A1 A2 A3 kd c (leaveS s k) es ev pvs w h hkp hbn a1 a2 a3 n1 n2 n3 (by rw [e]; exact Nat.le_trans hf.wl (by decide)) (by rw [e]; have := hf.wl; omega)
 rw [e] at q
 exact q
theorem lv_idle_run (S : Nat → Prop) (R G n cap k A1 A2 A3 : Nat) (c : Md.Call) (s : Md.State) (es : List Md.Effect) (ev : SlV) (pvs : List PoolV) (w : World) (hk : k < s.pools.length) (h : RunV S R c (setP (leaveS s k) k (lvP s s.pools[k])) es (fun _ => True) (some ⟨G, 0, none⟩, n, cap) ev pvs w) (hkp : k < pvs.length)
 (a1 : w.cell? ⟨A1, 0, none⟩ = some (.pointer (some ⟨R, 0, none⟩))) (a2 : w.cell? ⟨A2, 0, none⟩ = some (.pointer (some ⟨G, k * 11, none⟩))) (a3 : w.cell? ⟨A3, 0, none⟩ = some (I64 k)) (n1 : ¬ S A1) (n2 : ¬ S A2) (n3 : ¬ S A3) (hf : LeaveFit s.pools[k]) (hel : es.length ≤ 800000) :
 Calls Try.prog 97 #[valS pvs[k].vI, .func (.func 98) #[] #[.pointer (some ⟨A1, 0, none⟩), .pointer (some ⟨A2, 0, none⟩), .pointer (some ⟨A3, 0, none⟩)]] w fun e w' => ∃ u', e = .returned (valS u') ∧ (w'.cell? ⟨G, k * 11 + 4, none⟩ = some (valS pvs[k].vI) ∧ w'.frozen? ⟨G, k * 11 + 4, none⟩ = false) ∧ (∀ x, x < w.heap.size → ¬ S x → w'.heap[x]? = w.heap[x]?) ∧
  RunE S R c (leaveS s (k + 1)) (es ++ lvI s s.pools[k] k) (fun _ => True) G n cap (w'.setCell ⟨G, k * 11 + 4, none⟩ (valS u')) ∧ Gb S w (w'.setCell ⟨G, k * 11 + 4, none⟩ (valS u')) := by
 have hbn : k < (setP (leaveS s k) k (lvP s s.pools[k])).pools.length := by rw [setP_len, leaveS_len]; exact hk
 have e := setP_get (leaveS s k) k (lvP s s.pools[k]) hbn
 have q := dfI_run S R G n cap k A1 A2 A3 c _ es ev pvs w h hkp hbn a1 a2 a3 n1 n2 n3 (by rw [e]; exact Nat.le_trans hf.il (by decide)) (by rw [e]; have := hf.il; show es.length + s.pools[k].idle.length ≤ 900000; omega) (by rw [e]; exact hf.nr) (by rw [e]; exact hf.n1) (by rw [e]; exact hf.n2)
 rw [e, setP_set, show (Md.Pool.mk (lvP s s.pools[k]).lim ((lvP s s.pools[k]).idle.filter (fun x => !(setP (leaveS s k) k (lvP s s.pools[k])).shut && Md.young (lvP s s.pools[k]).lim x (setP (leaveS s k) k (lvP s s.pools[k])).now)) (lvP s s.pools[k]).leases (lvP s s.pools[k]).dials (lvP s s.pools[k]).waiters (lvP s s.pools[k]).up (lvP s s.pools[k]).breaker (lvP s s.pools[k]).probe) = Md.leaveQ s.shut s.now s.pools[k] from rfl, leaveS_set s k hk] at q
 exact q
theorem lv_es (kd : Int) (s : Md.State) (es : List Md.Effect) (k : Nat) (hk : k < s.pools.length) : (es ++ leaveEs kd s k ++ lvW kd s s.pools[k] k) ++ lvI s s.pools[k] k = es ++ leaveEs kd s (k + 1) := by
 rw [leaveEs_succ kd s k hk]
 unfold Md.leaveE lvW lvI
 simp only [List.append_assoc]
theorem lvW_len (kd : Int) (s : Md.State) (p : Md.Pool) (k : Nat) (hf : LeaveFit p) : (lvW kd s p k).length ≤ 1000 := by
 unfold lvW
 rw [List.length_map]
 exact Nat.le_trans (List.length_filter_le _ _) hf.wl
theorem RunV.at7 {S : Nat → Prop} {R : Nat} {c : Md.Call} {s : Md.State} {es : List Md.Effect} {W : Nat → Prop} {G n cap : Nat} {ev : SlV} {pvs : List PoolV} {w : World} (h : RunV S R c s es W (some ⟨G, 0, none⟩, n, cap) ev pvs w) {k : Nat} (hk : k < pvs.length) : w.cell? ⟨G, k * 11 + 7, none⟩ = some (valS pvs[k].vW) := (h.cells hk).c7
set_option maxHeartbeats 4000000 in
set_option maxRecDepth 100000 in
set_option linter.unusedSimpArgs false in
theorem leave_any (S : Nat → Prop) (R G n cap : Nat) (kd : Int) (c : Md.Call) (s : Md.State) (es : List Md.Effect) (ev : SlV) (pvs : List PoolV) (w : World) (h : RunV S R c s es (fun _ => True) (some ⟨G, 0, none⟩, n, cap) ev pvs w) (hn : n = s.pools.length) (hn2 : n ≤ 100) (hf : ∀ p ∈ s.pools, LeaveFit p) (hel : es.length ≤ 1000) :
 Calls Try.prog 80 #[.pointer (some ⟨R, 0, none⟩), I64 kd] w fun e w' => e = .returned (.agg #[I64 7, I64 0, I64 0]) ∧ RunE S R c (Md.leave kd s).1 (es ++ (Md.leave kd s).2) (fun _ => True) G n cap w' ∧ Gb S w w' := by
 have h1 := h.begin (.cells #[.pointer (some ⟨R, 0, none⟩)] 108)
 have b1 := blk_new w (.cells #[.pointer (some ⟨R, 0, none⟩)] 108)
 have ga1 := (Gb.refl S w).alloc (.cells #[.pointer (some ⟨R, 0, none⟩)] 108)
 obtain ⟨wA, hwA⟩ : ∃ x, x = w.alloc (.cells #[.pointer (some ⟨R, 0, none⟩)] 108) := ⟨_, rfl⟩
 obtain ⟨A2, hA2⟩ : ∃ x, x = w.heap.size := ⟨_, rfl⟩
 rw [← hwA, ← hA2] at h1 b1
 rw [← hwA] at ga1
 have h2 := h1.begin (.cells #[I64 kd] 3)
 have b2 := blk_new wA (.cells #[I64 kd] 3)
 have b1' := (((Below.refl wA.heap.size wA).alloc (Nat.le_refl _) (.cells #[I64 kd] 3)).block A2 (Array.getElem?_eq_some_iff.1 b1).1).trans b1
 have ga2 := ga1.alloc (.cells #[I64 kd] 3)
 obtain ⟨wB, hwB⟩ : ∃ x, x = wA.alloc (.cells #[I64 kd] 3) := ⟨_, rfl⟩
 obtain ⟨A3, hA3⟩ : ∃ x, x = wA.heap.size := ⟨_, rfl⟩
 rw [← hwB, ← hA3] at h2 b2
 rw [← hwB] at b1' ga2
 have h3 := h2.begin (.cells #[I64 0, I64 0, I64 0] 31)
 have b3 := blk_new wB (.cells #[I64 0, I64 0, I64 0] 31)
 have b1'' := (((Below.refl wB.heap.size wB).alloc (Nat.le_refl _) (.cells #[I64 0, I64 0, I64 0] 31)).block A2 (Array.getElem?_eq_some_iff.1 b1').1).trans b1'
 have b2' := (((Below.refl wB.heap.size wB).alloc (Nat.le_refl _) (.cells #[I64 0, I64 0, I64 0] 31)).block A3 (Array.getElem?_eq_some_iff.1 b2).1).trans b2
 have ga3 := ga2.alloc (.cells #[I64 0, I64 0, I64 0] 31)
 obtain ⟨w0, hw0⟩ : ∃ x, x = wB.alloc (.cells #[I64 0, I64 0, I64 0] 31) := ⟨_, rfl⟩
 obtain ⟨r, hr⟩ : ∃ x, x = wB.heap.size := ⟨_, rfl⟩
 rw [← hw0, ← hr] at h3 b3
 rw [← hw0] at b1'' b2' ga3
 obtain ⟨S0, hS0⟩ : ∃ S0 : Nat → Prop, S0 = fun k => ((S k ∧ k ≠ A2) ∧ k ≠ A3) ∧ k ≠ r := ⟨_, rfl⟩
 rw [← hS0] at h3
 have n2 : ¬ S0 A2 := by rw [hS0]; exact fun x => x.1.1.2 rfl
 have n3 : ¬ S0 A3 := by rw [hS0]; exact fun x => x.1.2 rfl
 have nr : ¬ S0 r := by rw [hS0]; exact fun x => x.2 rfl
 have hsub : ∀ k, S0 k → S k ∧ k ≠ r := fun k hk => by rw [hS0] at hk; exact ⟨hk.1.1.1, hk.2⟩
 have HSR : Hid (S r) := by
  rw [hr]
  exact h.fresh _ ga2.size
 have HL0 : Hid (LvAt S0 R c s es kd G n cap 0 w0 w0) := by
  refine ⟨⟨ev, pvs, ?_⟩, Gb.refl _ _⟩
  rw [leaveS_zero, leaveEs_zero, List.append_nil]
  exact h3
 have k2 := (runCells_of h3.blk).c2
 rw [hw0, hwB, hwA] at k2
 unfold valS at k2
 dsimp only at k2
 have HN := Lib.hid hn
 have HF := Lib.hid hf
 have e3 : A2 + 1 = A3 := by rw [hA3, hwA, hA2]; simp
 have er : A3 + 1 = r := by rw [hr, hwB, hA3]; simp
 have HB1 := Lib.hid b1''
 have HB2 := Lib.hid b2'
 have HB3 := Lib.hid b3
 have HGW := Lib.hid ga3
 have HN2 := Lib.hid n2
 have HN3 := Lib.hid n3
 have HNR := Lib.hid nr
 have HSUB := Lib.hid hsub
 have HI : Hid (∀ w1, _) := fun w1 => is_any 7 w1
 clear h h1 h2 h3 b1 b1' ga1 ga2 ga3 hn hf hS0 b1'' b2' b3 b2 n2 n3 nr hsub
 go_enter Try.func80, Try.ntmps80
 go_wp2
 simp only [← hwA, ← hwB, ← hw0, ← hA2, e3, er]
 clear hwA hwB hw0 hA2 e3 er hA3 hr k2
 go_loopw [5, 6, 13] (fun _ _ kv wr => ∃ k : Nat, k ≤ n ∧ kv = .int .i64 k ∧ Hid (LvAt S0 R c s es kd G n cap k w0 wr)) (fun _ _ kv _ => n - (intOf kv).toNat)
 case atStart => exact ⟨0, Nat.zero_le _, rfl, HL0⟩
 case round =>
  obtain ⟨k, hkn, rfl, HL⟩ := hrel
  by_cases hlt : k < n
  · have hks : k < s.pools.length := by rw [← HN.out]; exact hlt
    obtain ⟨⟨ev', pvs', hv⟩, hgw⟩ := HL.out
    have hkp : k < pvs'.length := by rw [hv.len, leaveS_len]; exact hks
    have hfk := HF.out _ (List.getElem_mem hks)
    have hel2 : (es ++ leaveEs kd s k).length ≤ 300000 := by
     have := leaveEs_len kd s HF.out k (by omega)
     rw [List.length_append]
     omega
    have hv1 := hv.begin (.cells #[I64 k] 3)
    have b5 := blk_new wr (.cells #[I64 k] 3)
    have ga5 := hgw.alloc (.cells #[I64 k] 3)
    have hwl := hgw.size
    obtain ⟨wa, hwa⟩ : ∃ x, x = wr.alloc (.cells #[I64 k] 3) := ⟨_, rfl⟩
    obtain ⟨A5, hA5⟩ : ∃ x, x = wr.heap.size := ⟨_, rfl⟩
    rw [← hwa, ← hA5] at hv1 b5
    rw [← hwa] at ga5
    have hc2 := (runCells_of hv1.blk).c2
    have H4 : Hid (C4 A2 R A5 G n cap k wa.drew) := ⟨ga5.cellOf HN2.out (blk_cell HB1.out 0), hc2, blk_cell b5 0⟩
    have HV1 := Lib.hid (hv1.below (Below.refl _ _).drew)
    have HG5 := Lib.hid (ga5.trans (.of_below (S := S0) (Below.refl wa.heap.size wa).drew))
    have HB5 : Hid (wa.drew.heap[A5]? = some (.cells #[I64 k] 3 (0, 0))) := Lib.hid b5
    have HKP := Lib.hid hkp
    have HFK := Lib.hid hfk
    have HEL := Lib.hid hel2
    have hA5w : w0.heap.size ≤ A5 := by rw [hA5]; exact hwl
    clear hv hgw hfk hel2 hv1 b5 ga5 hwl hc2 HL
    go_wp2
    simp only [← hwa, ← hA5]
    clear hwa hA5
    refine wp_region_held_drew (S := C4 A2 R A5 G n cap k) (by kernel_rfl) H4.out (fun hHeld => ?_)
    generalize wa.drew = wd at hHeld HV1 HG5 HB5 H4 ⊢
    refine tk 0 (v := ?vv0_1) (dropAt rfl) (Or.inl ⟨by rfl, ?hv0_1⟩) hHeld ?rv0_1
    case hv0_1 => (intro w hSw; unfold C4 at hSw; obtain ⟨hS1, hS2, hS3⟩ := hSw; go_simp; first | done | with_reducible rfl)
    try simp only [Act.put, pu2, pu3, pu4]
    refine tk 1 (v := ?vv1_2) (dropAt rfl) (Or.inl ⟨by rfl, ?hv1_2⟩) hHeld ?rv1_2
    case hv1_2 => (intro w hSw; unfold C4 at hSw; obtain ⟨hS1, hS2, hS3⟩ := hSw; go_simp; first | done | with_reducible rfl)
    try simp only [Act.put, pu2, pu3, pu4]
    refine tk 2 (v := ?vv2_3) (dropAt rfl) (Or.inl ⟨by rfl, ?hv2_3⟩) hHeld ?rv2_3
    case hv2_3 => (intro w hSw; unfold C4 at hSw; obtain ⟨hS1, hS2, hS3⟩ := hSw; go_simp; first | done | with_reducible rfl)
    try simp only [Act.put, pu2, pu3, pu4]
    refine tk 3 (v := ?vv3_4) (dropAt rfl) (Or.inl ⟨by rfl, ?hv3_4⟩) hHeld ?rv3_4
    case hv3_4 => (intro w hSw; unfold C4 at hSw; obtain ⟨hS1, hS2, hS3⟩ := hSw; go_simp; first | done | with_reducible rfl)
    try simp only [Act.put, pu2, pu3, pu4]
    refine tk 4 (v := ?vv4_5) (dropAt rfl) (Or.inl ⟨by rfl, ?hv4_5⟩) hHeld ?rv4_5
    case hv4_5 => (intro w hSw; unfold C4 at hSw; obtain ⟨hS1, hS2, hS3⟩ := hSw; go_simp; first | done | with_reducible rfl)
    try simp only [Act.put, pu2, pu3, pu4]
    refine tk 5 (v := ?vv5_6) (dropAt rfl) (Or.inl ⟨by rfl, ?hv5_6⟩) hHeld ?rv5_6
    case hv5_6 => (intro w hSw; unfold C4 at hSw; obtain ⟨hS1, hS2, hS3⟩ := hSw; go_simp; first | done | with_reducible rfl)
    try simp only [Act.put, pu2, pu3, pu4]
    refine tk 6 (v := ?vv6_7) (dropAt rfl) (Or.inl ⟨by rfl, ?hv6_7⟩) hHeld ?rv6_7
    case hv6_7 => (intro w hSw; unfold C4 at hSw; obtain ⟨hS1, hS2, hS3⟩ := hSw; go_simp; first | done | with_reducible rfl)
    try simp only [Act.put, pu2, pu3, pu4]
    refine wpAnyH_ready (rs := [7]) (by kernel_rfl) (by simp) ?_
    refine AllReadyH.cons (o := _) (dropAt (r := _) rfl) (fun K hK => ?_) AllReadyH.nil
    go_simp
    refine hK.out _ _ (hHeld.kept (World.grownBy_alloc wd _ _) (Nat.le_refl _)) (fun hHeld2 => ?_)
    clear hK K
    try simp only [Act.put, pu2, pu3, pu4]
    refine wpAnyH_ready (rs := [8]) (by kernel_rfl) (by simp) ?_
    refine AllReadyH.cons (o := _) (dropAt (r := _) rfl) (fun K hK => ?_) AllReadyH.nil
    go_simp
    refine hK.out _ _ (hHeld.kept (World.grownBy_alloc wd _ _) (Nat.le_refl _)) (fun hHeld3 => ?_)
    clear hK K
    try simp only [Act.put, pu2, pu3, pu4]
    refine wpAnyH_done (by kernel_rfl) ?_ _
    go_wp2
    have hv2 := HV1.out.begin (.cells #[.pointer (some ⟨G, k * 11, none⟩)] 123)
    have b6 := blk_new wd (.cells #[.pointer (some ⟨G, k * 11, none⟩)] 123)
    have ga6 := HG5.out.alloc (.cells #[.pointer (some ⟨G, k * 11, none⟩)] 123)
    have hl5 := (Array.getElem?_eq_some_iff.1 HB5.out).1
    have b5 := (((Below.refl wd.heap.size wd).alloc (Nat.le_refl _) (.cells #[.pointer (some ⟨G, k * 11, none⟩)] 123)).block A5 hl5).trans HB5.out
    obtain ⟨w2, hw2⟩ : ∃ x, x = wd.alloc (.cells #[.pointer (some ⟨G, k * 11, none⟩)] 123) := ⟨_, rfl⟩
    obtain ⟨A6, hA6⟩ : ∃ x, x = wd.heap.size := ⟨_, rfl⟩
    have hA6w : w0.heap.size ≤ A6 := by rw [hA6]; exact HG5.out.size
    rw [← hw2, ← hA6] at hv2 b6
    rw [← hw2] at ga6 b5
    simp only [← hw2, ← hA6]
    obtain ⟨S1, hS1⟩ : ∃ S1 : Nat → Prop, S1 = fun i => (S0 i ∧ i ≠ A5) ∧ i ≠ A6 := ⟨_, rfl⟩
    rw [← hS1] at hv2
    have m2 : ¬ S1 A2 := fun x => HN2.out (by rw [hS1] at x; exact x.1.1)
    have m3 : ¬ S1 A3 := fun x => HN3.out (by rw [hS1] at x; exact x.1.1)
    have m5 : ¬ S1 A5 := fun x => by rw [hS1] at x; exact x.1.2 rfl
    have m6 : ¬ S1 A6 := fun x => by rw [hS1] at x; exact x.2 rfl
    have hsub1 : ∀ i, S1 i → S0 i := fun i x => by rw [hS1] at x; exact x.1.1
    have hvd := hv2.below (Below.refl w2.heap.size w2).drew
    have gad := ga6.trans (.of_below (S := S0) (Below.refl w2.heap.size w2).drew)
    obtain ⟨wx, hwx⟩ : ∃ x, x = w2.drew := ⟨_, rfl⟩
    rw [← hwx] at hvd gad
    have b5x : wx.heap[A5]? = some (.cells #[I64 k] 3 (0, 0)) := by rw [hwx]; exact b5
    have b6x : wx.heap[A6]? = some (.cells #[.pointer (some ⟨G, k * 11, none⟩)] 123 (0, 0)) := by rw [hwx]; exact b6
    have HDW := Lib.hid (lv_wait_run S1 R G n cap k A2 A3 A5 kd c s _ ev' pvs' wx hvd hks HKP.out (gad.cellOf HN2.out (blk_cell HB1.out 0)) (gad.cellOf HN3.out (blk_cell HB2.out 0)) (blk_cell b5x 0) m2 m3 m5 HFK.out (Nat.le_trans HEL.out (by decide)))
    have H5 : Hid (C5 A6 G (k * 11) wx) := Lib.hid (blk_cell b6x 0)
    have k7 := hvd.at7 HKP.out
    have HX6 : Hid (A6 < wx.heap.size) := Lib.hid (Array.getElem?_eq_some_iff.1 b6x).1
    have HX5 : Hid (A5 < wx.heap.size) := Lib.hid (Array.getElem?_eq_some_iff.1 b5x).1
    have HGD := Lib.hid gad
    have HB5X := Lib.hid b5x
    have HB6X := Lib.hid b6x
    obtain ⟨ux, hux⟩ : ∃ ux, ux = (pvs'[k]'HKP.out).vW := ⟨_, rfl⟩
    rw [← hux] at HDW k7
    obtain ⟨xa, xn, xc⟩ := ux
    unfold valS at HDW k7
    dsimp only at HDW k7
    have HM : Hid (¬ S1 A2 ∧ ¬ S1 A3 ∧ ¬ S1 A5 ∧ ¬ S1 A6 ∧ ∀ i, S1 i → S0 i) := ⟨m2, m3, m5, m6, hsub1⟩
    clear hux hvd gad b5x b6x hv2 b6 ga6 hl5 b5 hw2 hA6 HV1 HG5 HB5 H4 m2 m3 m5 m6 hsub1 hS1 hHeld hHeld2 hHeld3
    refine wp_region_held_drew (S := C5 A6 G (k * 11)) (by kernel_rfl) (by rw [← hwx]; exact H5.out) (fun hHeld => ?_)
    rw [← hwx] at hHeld ⊢
    clear hwx
    refine tk 0 (v := ?vv0_8) (dropAt rfl) (Or.inl ⟨by rfl, ?hv0_8⟩) hHeld ?rv0_8
    case hv0_8 => (intro w hSw; unfold C5 at hSw; go_simp; first | done | with_reducible rfl)
    try simp only [Act.put, pu2, pu3, pu4]
    refine tk 1 (v := ?vv1_9) (dropAt rfl) (Or.inl ⟨by rfl, ?hv1_9⟩) hHeld ?rv1_9
    case hv1_9 => (intro w hSw; unfold C5 at hSw; go_simp; first | done | with_reducible rfl)
    try simp only [Act.put, pu2, pu3, pu4]
    refine tk 2 (v := ?vv2_10) (dropAt rfl) (Or.inl ⟨by rfl, ?hv2_10⟩) hHeld ?rv2_10
    case hv2_10 => (intro w hSw; unfold C5 at hSw; go_simp; first | done | with_reducible rfl)
    try simp only [Act.put, pu2, pu3, pu4]
    refine tk 3 (v := ?vv3_11) (dropAt rfl) (Or.inl ⟨by rfl, ?hv3_11⟩) hHeld ?rv3_11
    case hv3_11 => (intro w hSw; unfold C5 at hSw; go_simp; first | done | with_reducible rfl)
    try simp only [Act.put, pu2, pu3, pu4]
    refine tk 5 (v := ?vv5_12) (dropAt rfl) (Or.inl ⟨by rfl, ?hv5_12⟩) hHeld ?rv5_12
    case hv5_12 => (intro w hSw; unfold C5 at hSw; go_simp; first | done | with_reducible rfl)
    try simp only [Act.put, pu2, pu3, pu4]
    refine wpAnyH_ready (rs := [4]) (by kernel_rfl) (by simp) ?_
    refine AllReadyH.cons (o := _) (dropAt (r := _) rfl) (fun K hK => ?_) AllReadyH.nil
    go_simp
    refine hK.out _ _ hHeld (fun hHeld2 => ?_)
    clear hK K
    try simp only [Act.put, pu2, pu3, pu4]
    refine wpAnyH_ready (rs := [6]) (by kernel_rfl) (by simp) ?_
    refine AllReadyH.cons (o := _) (dropAt (r := _) rfl) (fun K hK => ?_) AllReadyH.nil
    go_simp
    refine HDW.out.mono ?_
    rintro e w3 ⟨⟨va, vn, vc⟩, rfl, ⟨k7b, f7b⟩, hkp3, hR3, hG3⟩
    have hHeld3 : C5 A6 G (k * 11) w3 := (blk_cell ((hkp3 A6 HX6.out HM.out.2.2.2.1).trans HB6X.out) 0)
    dsimp only at hR3 hG3
    refine hK.out _ _ hHeld3 (fun hHeld4 => ?_)
    clear hK K
    try simp only [Act.put, pu2, pu3, pu4]
    refine tk 7 (v := ?vv7_13) (dropAt rfl) (Or.inl ⟨by rfl, ?hv7_13⟩) hHeld3 ?rv7_13
    case hv7_13 => (intro w hSw; unfold C5 at hSw; go_simp; first | done | with_reducible rfl)
    try simp only [Act.put, pu2, pu3, pu4]
    refine tk 8 (v := ?vv8_14) (dropAt rfl) (Or.inl ⟨by rfl, ?hv8_14⟩) hHeld3 ?rv8_14
    case hv8_14 => (intro w hSw; unfold C5 at hSw; go_simp; first | done | with_reducible rfl)
    try simp only [Act.put, pu2, pu3, pu4]
    have hHeld5 : C5 A6 G (k * 11) (w3.setCell ⟨G, k * 11 + 7, none⟩ (.slice va vn vc)) := blk_cell ((hG3.block A6 HX6.out HM.out.2.2.2.1).trans HB6X.out) 0
    refine wpAnyH_ready (rs := [9]) (by kernel_rfl) (by simp) ?_
    refine AllReadyH.cons (o := _) (dropAt (r := _) rfl) (fun K hK => ?_) AllReadyH.nil
    go_simp
    refine hK.out _ _ hHeld5 (fun hHeld6 => ?_)
    clear hK K
    try simp only [Act.put, pu2, pu3, pu4]
    refine wpAnyH_done (by kernel_rfl) ?_ _
    go_wp2
    have hgA := HGD.out.trans (hG3.mono (fun i _ x => HM.out.2.2.2.2 i x))
    have b6y := (hG3.block A6 HX6.out HM.out.2.2.2.1).trans HB6X.out
    have b5y := (hG3.block A5 HX5.out HM.out.2.2.1).trans HB5X.out
    obtain ⟨w4, hw4⟩ : ∃ x, x = w3.setCell ⟨G, k * 11 + 7, none⟩ (.slice va vn vc) := ⟨_, rfl⟩
    rw [← hw4] at hR3 hgA b6y b5y
    simp only [← hw4]
    clear hw4 hG3 hHeld5 hHeld6 hHeld4 hHeld3 hHeld2 hHeld k7 k7b f7b hkp3 HDW H5 HX6 HX5 HGD HB5X HB6X hkp
    have hR4 := hR3.below (Below.refl _ _).drew
    have hgB := hgA.trans (.of_below (S := S0) (Below.refl w4.heap.size w4).drew)
    obtain ⟨wy, hwy⟩ : ∃ x, x = w4.drew := ⟨_, rfl⟩
    rw [← hwy] at hR4 hgB
    have b6z : wy.heap[A6]? = some (.cells #[.pointer (some ⟨G, k * 11, none⟩)] 123 (0, 0)) := by rw [hwy]; exact b6y
    have b5z : wy.heap[A5]? = some (.cells #[I64 k] 3 (0, 0)) := by rw [hwy]; exact b5y
    obtain ⟨ev4, pvs4, hv4⟩ := hR4
    have hkp4 : k < pvs4.length := by rw [hv4.len, setP_len, leaveS_len]; exact hks
    have hel4 : (es ++ leaveEs kd s k ++ lvW kd s s.pools[k] k).length ≤ 800000 := by
     have h1 := HEL.out
     have h2 := lvW_len kd s s.pools[k] k HFK.out
     rw [List.length_append]
     omega
    have HDI := Lib.hid (lv_idle_run S1 R G n cap k A2 A6 A5 c s _ ev4 pvs4 wy hks hv4 hkp4 (hgB.cellOf HN2.out (blk_cell HB1.out 0)) (blk_cell b6z 0) (blk_cell b5z 0) HM.out.1 HM.out.2.2.2.1 HM.out.2.2.1 HFK.out hel4)
    have hlv := lv_es kd s es k hks
    rw [hlv] at HDI
    have H6 : Hid (C5 A6 G (k * 11) wy) := Lib.hid (blk_cell b6z 0)
    have k4 := (hv4.cells hkp4).c4
    have HX6 : Hid (A6 < wy.heap.size) := Lib.hid (Array.getElem?_eq_some_iff.1 b6z).1
    have HB6Z := Lib.hid b6z
    have HGB := Lib.hid hgB
    obtain ⟨ux, hux⟩ : ∃ ux, ux = (pvs4[k]'hkp4).vI := ⟨_, rfl⟩
    rw [← hux] at HDI k4
    obtain ⟨xa4, xn4, xc4⟩ := ux
    unfold valS at HDI k4
    dsimp only at HDI k4
    clear hux hgB b6z b5z hv4 hgA b6y b5y hR3 hel4 hlv
    refine wp_region_held_drew (S := C5 A6 G (k * 11)) (by kernel_rfl) (by rw [← hwy]; exact H6.out) (fun hHeld => ?_)
    rw [← hwy] at hHeld ⊢
    clear hwy
    refine tk 0 (v := ?vv0_15) (dropAt rfl) (Or.inl ⟨by rfl, ?hv0_15⟩) hHeld ?rv0_15
    case hv0_15 => (intro w hSw; unfold C5 at hSw; go_simp; first | done | with_reducible rfl)
    try simp only [Act.put, pu2, pu3, pu4]
    refine tk 1 (v := ?vv1_16) (dropAt rfl) (Or.inl ⟨by rfl, ?hv1_16⟩) hHeld ?rv1_16
    case hv1_16 => (intro w hSw; unfold C5 at hSw; go_simp; first | done | with_reducible rfl)
    try simp only [Act.put, pu2, pu3, pu4]
    refine tk 2 (v := ?vv2_17) (dropAt rfl) (Or.inl ⟨by rfl, ?hv2_17⟩) hHeld ?rv2_17
    case hv2_17 => (intro w hSw; unfold C5 at hSw; go_simp; first | done | with_reducible rfl)
    try simp only [Act.put, pu2, pu3, pu4]
    refine tk 3 (v := ?vv3_18) (dropAt rfl) (Or.inl ⟨by rfl, ?hv3_18⟩) hHeld ?rv3_18
    case hv3_18 => (intro w hSw; unfold C5 at hSw; go_simp; first | done | with_reducible rfl)
    try simp only [Act.put, pu2, pu3, pu4]
    refine tk 5 (v := ?vv5_19) (dropAt rfl) (Or.inl ⟨by rfl, ?hv5_19⟩) hHeld ?rv5_19
    case hv5_19 => (intro w hSw; unfold C5 at hSw; go_simp; first | done | with_reducible rfl)
    try simp only [Act.put, pu2, pu3, pu4]
    refine wpAnyH_ready (rs := [4]) (by kernel_rfl) (by simp) ?_
    refine AllReadyH.cons (o := _) (dropAt (r := _) rfl) (fun K hK => ?_) AllReadyH.nil
    go_simp
    refine hK.out _ _ hHeld (fun hHeld2 => ?_)
    clear hK K
    try simp only [Act.put, pu2, pu3, pu4]
    refine wpAnyH_ready (rs := [6]) (by kernel_rfl) (by simp) ?_
    refine AllReadyH.cons (o := _) (dropAt (r := _) rfl) (fun K hK => ?_) AllReadyH.nil
    go_simp
    refine HDI.out.mono ?_
    rintro e w6 ⟨⟨ya, yn, yc⟩, rfl, ⟨k4b, f4b⟩, hkp6, hR6, hG6⟩
    have hHeld3 : C5 A6 G (k * 11) w6 := (blk_cell ((hkp6 A6 HX6.out HM.out.2.2.2.1).trans HB6Z.out) 0)
    dsimp only at hR6 hG6
    refine hK.out _ _ hHeld3 (fun hHeld4 => ?_)
    clear hK K
    try simp only [Act.put, pu2, pu3, pu4]
    refine tk 7 (v := ?vv7_20) (dropAt rfl) (Or.inl ⟨by rfl, ?hv7_20⟩) hHeld3 ?rv7_20
    case hv7_20 => (intro w hSw; unfold C5 at hSw; go_simp; first | done | with_reducible rfl)
    try simp only [Act.put, pu2, pu3, pu4]
    refine tk 8 (v := ?vv8_21) (dropAt rfl) (Or.inl ⟨by rfl, ?hv8_21⟩) hHeld3 ?rv8_21
    case hv8_21 => (intro w hSw; unfold C5 at hSw; go_simp; first | done | with_reducible rfl)
    try simp only [Act.put, pu2, pu3, pu4]
    have hHeld5 : C5 A6 G (k * 11) (w6.setCell ⟨G, k * 11 + 4, none⟩ (.slice ya yn yc)) := blk_cell ((hG6.block A6 HX6.out HM.out.2.2.2.1).trans HB6Z.out) 0
    refine wpAnyH_ready (rs := [9]) (by kernel_rfl) (by simp) ?_
    refine AllReadyH.cons (o := _) (dropAt (r := _) rfl) (fun K hK => ?_) AllReadyH.nil
    go_simp
    refine hK.out _ _ hHeld5 (fun hHeld6 => ?_)
    clear hK K
    try simp only [Act.put, pu2, pu3, pu4]
    refine wpAnyH_done (by kernel_rfl) ?_ _
    have hgC := HGB.out.trans (hG6.mono (fun i _ x => HM.out.2.2.2.2 i x))
    have HLN : Hid (LvAt S0 R c s es kd G n cap (k + 1) w0 (w6.setCell ⟨G, k * 11 + 4, none⟩ (.slice ya yn yc))) := Lib.hid ⟨hR6.widen (fun i x => HM.out.2.2.2.2 i x), hgC⟩
    go_wp2
    case roundEnd =>
     refine ⟨⟨k + 1, hlt, by rw [show (k : Int) + 1 = ((k + 1 : Nat) : Int) by omega], HLN⟩, ?_⟩
     simp [intOf]
     omega
  · have hkn2 : k = n := by omega
    subst hkn2
    obtain ⟨hR, hG⟩ := HL.out
    rw [HN.out, leaveS_all, leaveEs_all] at hR
    rw [← HN.out] at hR
    have hR2 := hR.widen HSUB.out
    have hG2 : Gb (fun i => S i ∧ i ≠ r) w0 wr := hG.mono (fun i _ x => HSUB.out i x)
    have HBG : Hid (∀ w', Gb (fun i => S i ∧ i ≠ r) w0 w' → Gb S w w') := fun w' hg => HGW.out.trans (hg.mono (fun _ _ x => x.1))
    have HR0 := HB3
    have HRR := Lib.hid hR2
    have HGG := Lib.hid hG2
    go_wp2_with fail
    have hR := HRR.out
    have hG := HGG.out
    refine (HI.out _).mono ?_
    rintro e w3 ⟨rfl, hb3⟩
    obtain ⟨hblk, hfin0⟩ := done_end hR hG HR0.out hb3 HBG.out HSR.out 7
    have HB3 := Lib.hid hblk
    have HF := Lib.hid hfin0
    have y0 := blk_cell hblk 0
    have y1 := blk_cell hblk 1
    have y2 := blk_cell hblk 2
    have v0 := blk_free hblk 0
    have v1 := blk_free hblk 1
    have v2 := blk_free hblk 2
    simp only [List.getElem?_toArray, List.getElem?_cons_succ, List.getElem?_cons_zero] at y0 y1 y2
    clear hblk hfin0 hb3 hR hG
    go_wp2
    have hfin := blk_set (blk_set (blk_set HB3.out 0 (I64 7)) 1 (I64 0)) 2 (I64 0)
    have z0 := blk_cell hfin 0
    have z1 := blk_cell hfin 1
    have z2 := blk_cell hfin 2
    simp only [List.setIfInBounds_toArray, List.set_cons_zero, List.set_cons_succ, List.getElem?_toArray, List.getElem?_cons_succ, List.getElem?_cons_zero] at z0 z1 z2
    clear hfin
    refine bodyPost_ret (v := .agg #[I64 7, I64 0, I64 0]) (by rw [results_cell_oneN rfl]; go_simp) rfl ?_
    exact ⟨rfl, HF.out⟩
end Go.Proofs.Ytaicmiadgnpimaa
