/-
  Walks for layer 26 (model): Outcomes, all kinds of calls.
-/
import Derived.Test.YtaicmiadgnpimaaMw50
import Derived.Test.YtaicmiadgnpimaaMw47
namespace Go.Proofs.Ytaicmiadgnpimaa
open Go.RowKit

theorem oc_check {s : Md.State} {c : Md.Call} (h : Md.check s ≠ 0) : Md.outcomes s c = ([], Md.check s) := by
 unfold Md.outcomes
 rw [if_pos h]
theorem oc_wrong {s : Md.State} {c : Md.Call} (hc : Md.check s = 0) (h : Md.wrong s c ≠ 0) : Md.outcomes s c = ([], Md.wrong s c) := by
 unfold Md.outcomes
 rw [if_neg (by simpa using hc), if_pos h]
theorem oc_bad {s : Md.State} {c : Md.Call} (hc : Md.check s = 0) (h : Md.badFields s c = true) : Md.outcomes s c = ([], 2) := by
 have hw : Md.wrong s c = 2 := by
  unfold Md.wrong
  rw [if_pos h]
 rw [oc_wrong hc (by rw [hw]; decide), hw]
theorem oc_do {s : Md.State} {c : Md.Call} (hc : Md.check s = 0) (h : Md.wrong s c = 0) : Md.outcomes s c = (Md.act s c, 0) := by
 unfold Md.outcomes
 rw [if_neg (by simpa using hc), if_neg (by simpa using h)]
def OutEnd (s : Md.State) (c : Md.Call) (w : World) (e : Ending) (w' : World) : Prop := (∃ v, e = .returned (.tuple #[v, I64 (Md.outcomes s c).2]) ∧ OutsRd w.heap.size w' v (Md.outcomes s c).1) ∧ Below w.heap.size w w'
theorem end_err {s : Md.State} {c : Md.Call} {w w' : World} {e : Ending} {n : Int} (h : Md.outcomes s c = ([], n)) (q : e = .returned (.tuple #[.slice none 0 0, I64 n]) ∧ Below w.heap.size w w') : OutEnd s c w e w' := by
 unfold OutEnd
 rw [h]
 exact ⟨⟨_, q.1, .nil _ _⟩, q.2⟩
theorem end_ok {s : Md.State} {c : Md.Call} {w w' : World} {e : Ending} {l : List Md.Outcome} (h : Md.outcomes s c = (l, 0)) (q : (∃ v, e = .returned (.tuple #[v, I64 0]) ∧ OutsRd w.heap.size w' v l) ∧ Below w.heap.size w w') : OutEnd s c w e w' := by
 unfold OutEnd
 rw [h]
 exact q
set_option linter.unusedSimpArgs false in
theorem bad1 {s : Md.State} {c : Md.Call} (hk : c.kind = 1) : (outB c.backend 0 ((s.pools.length : Int) - 1) || decide (c.call < 1) || outB c.time 0 1000000000000) = Md.badFields s c := by
 have e1 : ((s.pools.length : Int) - 1 < c.backend) ↔ ((s.pools.length : Int) ≤ c.backend) := by omega
 rw [Bool.eq_iff_iff]
 simp [Md.badFields, Md.uses, hk, outB, Md.isTime, e1]
 try omega
set_option linter.unusedSimpArgs false in
theorem bad2 {s : Md.State} {c : Md.Call} (hk : c.kind = 2) : (outB c.backend 0 ((s.pools.length : Int) - 1) || decide (c.call < 1) || (c.yes && decide (c.conn < 1))) = Md.badFields s c := by
 have e1 : ((s.pools.length : Int) - 1 < c.backend) ↔ ((s.pools.length : Int) ≤ c.backend) := by omega
 rw [Bool.eq_iff_iff]
 simp [Md.badFields, Md.uses, hk, outB, Md.isTime, e1]
 try omega
set_option linter.unusedSimpArgs false in
theorem bad3 {s : Md.State} {c : Md.Call} (hk : c.kind = 3) : (outB c.backend 0 ((s.pools.length : Int) - 1) || decide (c.call < 1)) = Md.badFields s c := by
 have e1 : ((s.pools.length : Int) - 1 < c.backend) ↔ ((s.pools.length : Int) ≤ c.backend) := by omega
 rw [Bool.eq_iff_iff]
 simp [Md.badFields, Md.uses, hk, outB, Md.isTime, e1]
 try omega
set_option linter.unusedSimpArgs false in
theorem bad4 {s : Md.State} {c : Md.Call} (hk : c.kind = 4) : (outB c.backend 0 ((s.pools.length : Int) - 1) || decide (c.call < 1)) = Md.badFields s c := by
 have e1 : ((s.pools.length : Int) - 1 < c.backend) ↔ ((s.pools.length : Int) ≤ c.backend) := by omega
 rw [Bool.eq_iff_iff]
 simp [Md.badFields, Md.uses, hk, outB, Md.isTime, e1]
 try omega
set_option linter.unusedSimpArgs false in
theorem bad5 {s : Md.State} {c : Md.Call} (hk : c.kind = 5) : (outB c.time 0 1000000000000) = Md.badFields s c := by
 have e1 : ((s.pools.length : Int) - 1 < c.backend) ↔ ((s.pools.length : Int) ≤ c.backend) := by omega
 rw [Bool.eq_iff_iff]
 simp [Md.badFields, Md.uses, hk, outB, Md.isTime, e1]
 try omega
set_option linter.unusedSimpArgs false in
theorem bad6 {s : Md.State} {c : Md.Call} (hk : c.kind = 6) : (false) = Md.badFields s c := by
 have e1 : ((s.pools.length : Int) - 1 < c.backend) ↔ ((s.pools.length : Int) ≤ c.backend) := by omega
 rw [Bool.eq_iff_iff]
 simp [Md.badFields, Md.uses, hk, outB, Md.isTime, e1]
 try omega
set_option linter.unusedSimpArgs false in
theorem bad8 {s : Md.State} {c : Md.Call} (hk : c.kind = 8) : (outB c.backend 0 ((s.pools.length : Int) - 1) || decide (c.call < 1)) = Md.badFields s c := by
 have e1 : ((s.pools.length : Int) - 1 < c.backend) ↔ ((s.pools.length : Int) ≤ c.backend) := by omega
 rw [Bool.eq_iff_iff]
 simp [Md.badFields, Md.uses, hk, outB, Md.isTime, e1]
 try omega
set_option linter.unusedSimpArgs false in
theorem bad9 {s : Md.State} {c : Md.Call} (hk : c.kind = 9) : (outB c.backend 0 ((s.pools.length : Int) - 1)) = Md.badFields s c := by
 have e1 : ((s.pools.length : Int) - 1 < c.backend) ↔ ((s.pools.length : Int) ≤ c.backend) := by omega
 rw [Bool.eq_iff_iff]
 simp [Md.badFields, Md.uses, hk, outB, Md.isTime, e1]
 try omega
set_option linter.unusedSimpArgs false in
theorem bad10 {s : Md.State} {c : Md.Call} (hk : c.kind = 10) : (outB c.backend 0 ((s.pools.length : Int) - 1) || outB c.breaker 0 2) = Md.badFields s c := by
 have e1 : ((s.pools.length : Int) - 1 < c.backend) ↔ ((s.pools.length : Int) ≤ c.backend) := by omega
 rw [Bool.eq_iff_iff]
 simp [Md.badFields, Md.uses, hk, outB, Md.isTime, e1]
 try omega
set_option linter.unusedSimpArgs false in
theorem bad7 {s : Md.State} {c : Md.Call} (hk : c.kind = 7) : (decide (c.call < 1) || outB c.skip 0 65535) = Md.badFields s c := by
 have e1 : ((s.pools.length : Int) - 1 < c.backend) ↔ ((s.pools.length : Int) ≤ c.backend) := by omega
 rw [Bool.eq_iff_iff]
 simp [Md.badFields, Md.uses, hk, outB, Md.isTime, e1]
 try omega
set_option maxHeartbeats 400000 in
set_option maxRecDepth 100000 in
theorem kind1 (c : Md.Call) (s : Md.State) (u : SlV) (pvs : List PoolV) (w : World) (h : PoolsRd w u pvs s.pools) (hsz : ∀ p ∈ s.pools, PoolSmall p) (hlen : s.pools.length ≤ 1000) (hb : Md.Bnd s) (hk : c.kind = 1) (hc : Md.check s = 0) :
 Calls Try.prog 20 #[.agg #[I64 s.now, .bool s.shut, valS u], valCall c] w fun e w' => OutEnd s c w e w' := by
 have hg := Md.check_ok.1 hc
 have hul : u.2.1 = s.pools.length := (read_len h.1).trans h.2.1
 have HCK : ∀ w1, Below w.heap.size w w1 → Calls Try.prog 11 #[.agg #[I64 s.now, .bool s.shut, valS u]] w1 fun e w' => e = .returned (I64 0) ∧ Below w1.heap.size w1 w' := fun w1 hb1 => by
  have q := check_any s u pvs w1 (h.below hb1) hsz hlen hb
  rw [hc] at q
  exact q
 have hshort : ∀ p ∈ s.pools, PoolShort p := fun p hp => by
  obtain ⟨a, b, c, d⟩ := hsz p hp
  exact ⟨by omega, by omega, by omega, by omega⟩
 have HB : ∀ w1, Below w.heap.size w w1 → Calls Try.prog 36 #[.agg #[I64 s.now, .bool s.shut, valS u], valCall c] w1 fun e w' => ∃ R, e = .returned (.pointer (some ⟨R, 0, none⟩)) ∧ (∃ G cap pvs, RunV (fun i => w1.heap.size ≤ i) R c s [] (fun _ => True) (some ⟨G, 0, none⟩, s.pools.length, cap) (none, 0, 0) pvs w') ∧ w1.heap.size ≤ R ∧ Below w1.heap.size w1 w' :=
  fun w1 hb1 => begin_any c s u pvs w1 (h.below hb1) hg.len1 hlen hshort
 have HF : ∀ w1, Calls Try.prog 35 #[.agg #[.bool true, .bool true, .bool false, .bool true, .bool false, .bool false, .func (.func 44) #[] #[], .func (.func 45) #[] #[]], .agg #[I64 s.now, .bool s.shut, valS u], valCall c] w1 fun e w' => e = .returned (.bool (Md.badFields s c)) ∧ Below w1.heap.size w1 w' := fun w1 => by
  obtain ⟨ua, un, uc⟩ := u
  replace hul : un = s.pools.length := hul
  subst hul
  have q := fields_bct (.func (.func 44) #[] #[]) (.func (.func 45) #[] #[]) s.now s.shut ua s.pools.length uc c w1 hlen
  rw [← bad1 hk]
  exact q
 cases hFB : Md.badFields s c with
 | true =>
  rw [hFB] at HF
  exact (out_bad c s u w 1 44 45 true true false true false false (by decide) (by decide) hk rfl HCK HF).mono fun e w' q => end_err (oc_bad hc hFB) q
 | false =>
  rw [hFB] at HF
  by_cases hw : Md.wrong s c = 0
  · obtain ⟨o, ho, hdo⟩ := do1 hg hk hFB
    refine (out_do c s u w 1 44 45 true true false true false false (by decide) (by decide) hk rfl o HCK HF HB (enter_of Try.func44 (by kernel_rfl) rfl) (fun S R G cap pvs w1 hr => ?_) (enter_of Try.func45 (by kernel_rfl) rfl) (fun S R G cap pvs w1 hr => hdo S R G cap pvs w1 hr)).mono fun e w' q => end_ok ((oc_do hc hw).trans (by rw [ho])) q
    have q := wr1 hg hk hFB S R G cap pvs w1 hr
    rw [hw] at q
    exact q
  · exact (out_wrong c s u w 1 44 45 true true false true false false (by decide) (by decide) hk rfl (Md.wrong s c) hw HCK HF HB (enter_of Try.func44 (by kernel_rfl) rfl) (fun S R G cap pvs w1 hr => wr1 hg hk hFB S R G cap pvs w1 hr)).mono fun e w' q => end_err (oc_wrong hc hw) q
set_option maxHeartbeats 400000 in
set_option maxRecDepth 100000 in
theorem kind2 (c : Md.Call) (s : Md.State) (u : SlV) (pvs : List PoolV) (w : World) (h : PoolsRd w u pvs s.pools) (hsz : ∀ p ∈ s.pools, PoolSmall p) (hlen : s.pools.length ≤ 1000) (hb : Md.Bnd s) (hk : c.kind = 2) (hc : Md.check s = 0) :
 Calls Try.prog 20 #[.agg #[I64 s.now, .bool s.shut, valS u], valCall c] w fun e w' => OutEnd s c w e w' := by
 have hg := Md.check_ok.1 hc
 have hul : u.2.1 = s.pools.length := (read_len h.1).trans h.2.1
 have HCK : ∀ w1, Below w.heap.size w w1 → Calls Try.prog 11 #[.agg #[I64 s.now, .bool s.shut, valS u]] w1 fun e w' => e = .returned (I64 0) ∧ Below w1.heap.size w1 w' := fun w1 hb1 => by
  have q := check_any s u pvs w1 (h.below hb1) hsz hlen hb
  rw [hc] at q
  exact q
 have hshort : ∀ p ∈ s.pools, PoolShort p := fun p hp => by
  obtain ⟨a, b, c, d⟩ := hsz p hp
  exact ⟨by omega, by omega, by omega, by omega⟩
 have HB : ∀ w1, Below w.heap.size w w1 → Calls Try.prog 36 #[.agg #[I64 s.now, .bool s.shut, valS u], valCall c] w1 fun e w' => ∃ R, e = .returned (.pointer (some ⟨R, 0, none⟩)) ∧ (∃ G cap pvs, RunV (fun i => w1.heap.size ≤ i) R c s [] (fun _ => True) (some ⟨G, 0, none⟩, s.pools.length, cap) (none, 0, 0) pvs w') ∧ w1.heap.size ≤ R ∧ Below w1.heap.size w1 w' :=
  fun w1 hb1 => begin_any c s u pvs w1 (h.below hb1) hg.len1 hlen hshort
 have HF : ∀ w1, Calls Try.prog 35 #[.agg #[.bool true, .bool true, .bool true, .bool false, .bool false, .bool false, .func (.func 46) #[] #[], .func (.func 47) #[] #[]], .agg #[I64 s.now, .bool s.shut, valS u], valCall c] w1 fun e w' => e = .returned (.bool (Md.badFields s c)) ∧ Below w1.heap.size w1 w' := fun w1 => by
  obtain ⟨ua, un, uc⟩ := u
  replace hul : un = s.pools.length := hul
  subst hul
  have q := fields_bcn (.func (.func 46) #[] #[]) (.func (.func 47) #[] #[]) s.now s.shut ua s.pools.length uc c w1 hlen
  rw [← bad2 hk]
  exact q
 cases hFB : Md.badFields s c with
 | true =>
  rw [hFB] at HF
  exact (out_bad c s u w 2 46 47 true true true false false false (by decide) (by decide) hk rfl HCK HF).mono fun e w' q => end_err (oc_bad hc hFB) q
 | false =>
  rw [hFB] at HF
  by_cases hw : Md.wrong s c = 0
  · obtain ⟨o, ho, hdo⟩ := do2 hg hk hFB hw
    refine (out_do c s u w 2 46 47 true true true false false false (by decide) (by decide) hk rfl o HCK HF HB (enter_of Try.func46 (by kernel_rfl) rfl) (fun S R G cap pvs w1 hr => ?_) (enter_of Try.func47 (by kernel_rfl) rfl) (fun S R G cap pvs w1 hr => hdo S R G cap pvs w1 hr)).mono fun e w' q => end_ok ((oc_do hc hw).trans (by rw [ho])) q
    have q := wr2 hg hk hFB S R G cap pvs w1 hr
    rw [hw] at q
    exact q
  · exact (out_wrong c s u w 2 46 47 true true true false false false (by decide) (by decide) hk rfl (Md.wrong s c) hw HCK HF HB (enter_of Try.func46 (by kernel_rfl) rfl) (fun S R G cap pvs w1 hr => wr2 hg hk hFB S R G cap pvs w1 hr)).mono fun e w' q => end_err (oc_wrong hc hw) q
set_option maxHeartbeats 400000 in
set_option maxRecDepth 100000 in
theorem kind3 (c : Md.Call) (s : Md.State) (u : SlV) (pvs : List PoolV) (w : World) (h : PoolsRd w u pvs s.pools) (hsz : ∀ p ∈ s.pools, PoolSmall p) (hlen : s.pools.length ≤ 1000) (hb : Md.Bnd s) (hk : c.kind = 3) (hc : Md.check s = 0) :
 Calls Try.prog 20 #[.agg #[I64 s.now, .bool s.shut, valS u], valCall c] w fun e w' => OutEnd s c w e w' := by
 have hg := Md.check_ok.1 hc
 have hul : u.2.1 = s.pools.length := (read_len h.1).trans h.2.1
 have HCK : ∀ w1, Below w.heap.size w w1 → Calls Try.prog 11 #[.agg #[I64 s.now, .bool s.shut, valS u]] w1 fun e w' => e = .returned (I64 0) ∧ Below w1.heap.size w1 w' := fun w1 hb1 => by
  have q := check_any s u pvs w1 (h.below hb1) hsz hlen hb
  rw [hc] at q
  exact q
 have hshort : ∀ p ∈ s.pools, PoolShort p := fun p hp => by
  obtain ⟨a, b, c, d⟩ := hsz p hp
  exact ⟨by omega, by omega, by omega, by omega⟩
 have HB : ∀ w1, Below w.heap.size w w1 → Calls Try.prog 36 #[.agg #[I64 s.now, .bool s.shut, valS u], valCall c] w1 fun e w' => ∃ R, e = .returned (.pointer (some ⟨R, 0, none⟩)) ∧ (∃ G cap pvs, RunV (fun i => w1.heap.size ≤ i) R c s [] (fun _ => True) (some ⟨G, 0, none⟩, s.pools.length, cap) (none, 0, 0) pvs w') ∧ w1.heap.size ≤ R ∧ Below w1.heap.size w1 w' :=
  fun w1 hb1 => begin_any c s u pvs w1 (h.below hb1) hg.len1 hlen hshort
 have HF : ∀ w1, Calls Try.prog 35 #[.agg #[.bool true, .bool true, .bool false, .bool false, .bool false, .bool false, .func (.func 48) #[] #[], .func (.func 49) #[] #[]], .agg #[I64 s.now, .bool s.shut, valS u], valCall c] w1 fun e w' => e = .returned (.bool (Md.badFields s c)) ∧ Below w1.heap.size w1 w' := fun w1 => by
  obtain ⟨ua, un, uc⟩ := u
  replace hul : un = s.pools.length := hul
  subst hul
  have q := fields_bc (.func (.func 48) #[] #[]) (.func (.func 49) #[] #[]) s.now s.shut ua s.pools.length uc c w1 hlen
  rw [← bad3 hk]
  exact q
 cases hFB : Md.badFields s c with
 | true =>
  rw [hFB] at HF
  exact (out_bad c s u w 3 48 49 true true false false false false (by decide) (by decide) hk rfl HCK HF).mono fun e w' q => end_err (oc_bad hc hFB) q
 | false =>
  rw [hFB] at HF
  by_cases hw : Md.wrong s c = 0
  · obtain ⟨o, ho, hdo⟩ := do3 hg hk hFB hw
    refine (out_do c s u w 3 48 49 true true false false false false (by decide) (by decide) hk rfl o HCK HF HB (enter_of Try.func48 (by kernel_rfl) rfl) (fun S R G cap pvs w1 hr => ?_) (enter_of Try.func49 (by kernel_rfl) rfl) (fun S R G cap pvs w1 hr => hdo S R G cap pvs w1 hr)).mono fun e w' q => end_ok ((oc_do hc hw).trans (by rw [ho])) q
    have q := wr3 hg hk hFB S R G cap pvs w1 hr
    rw [hw] at q
    exact q
  · exact (out_wrong c s u w 3 48 49 true true false false false false (by decide) (by decide) hk rfl (Md.wrong s c) hw HCK HF HB (enter_of Try.func48 (by kernel_rfl) rfl) (fun S R G cap pvs w1 hr => wr3 hg hk hFB S R G cap pvs w1 hr)).mono fun e w' q => end_err (oc_wrong hc hw) q
set_option maxHeartbeats 400000 in
set_option maxRecDepth 100000 in
theorem kind4 (c : Md.Call) (s : Md.State) (u : SlV) (pvs : List PoolV) (w : World) (h : PoolsRd w u pvs s.pools) (hsz : ∀ p ∈ s.pools, PoolSmall p) (hlen : s.pools.length ≤ 1000) (hb : Md.Bnd s) (hk : c.kind = 4) (hc : Md.check s = 0) :
 Calls Try.prog 20 #[.agg #[I64 s.now, .bool s.shut, valS u], valCall c] w fun e w' => OutEnd s c w e w' := by
 have hg := Md.check_ok.1 hc
 have hul : u.2.1 = s.pools.length := (read_len h.1).trans h.2.1
 have HCK : ∀ w1, Below w.heap.size w w1 → Calls Try.prog 11 #[.agg #[I64 s.now, .bool s.shut, valS u]] w1 fun e w' => e = .returned (I64 0) ∧ Below w1.heap.size w1 w' := fun w1 hb1 => by
  have q := check_any s u pvs w1 (h.below hb1) hsz hlen hb
  rw [hc] at q
  exact q
 have hshort : ∀ p ∈ s.pools, PoolShort p := fun p hp => by
  obtain ⟨a, b, c, d⟩ := hsz p hp
  exact ⟨by omega, by omega, by omega, by omega⟩
 have HB : ∀ w1, Below w.heap.size w w1 → Calls Try.prog 36 #[.agg #[I64 s.now, .bool s.shut, valS u], valCall c] w1 fun e w' => ∃ R, e = .returned (.pointer (some ⟨R, 0, none⟩)) ∧ (∃ G cap pvs, RunV (fun i => w1.heap.size ≤ i) R c s [] (fun _ => True) (some ⟨G, 0, none⟩, s.pools.length, cap) (none, 0, 0) pvs w') ∧ w1.heap.size ≤ R ∧ Below w1.heap.size w1 w' :=
  fun w1 hb1 => begin_any c s u pvs w1 (h.below hb1) hg.len1 hlen hshort
 have HF : ∀ w1, Calls Try.prog 35 #[.agg #[.bool true, .bool true, .bool false, .bool false, .bool false, .bool false, .func (.func 50) #[] #[], .func (.func 51) #[] #[]], .agg #[I64 s.now, .bool s.shut, valS u], valCall c] w1 fun e w' => e = .returned (.bool (Md.badFields s c)) ∧ Below w1.heap.size w1 w' := fun w1 => by
  obtain ⟨ua, un, uc⟩ := u
  replace hul : un = s.pools.length := hul
  subst hul
  have q := fields_bc (.func (.func 50) #[] #[]) (.func (.func 51) #[] #[]) s.now s.shut ua s.pools.length uc c w1 hlen
  rw [← bad4 hk]
  exact q
 cases hFB : Md.badFields s c with
 | true =>
  rw [hFB] at HF
  exact (out_bad c s u w 4 50 51 true true false false false false (by decide) (by decide) hk rfl HCK HF).mono fun e w' q => end_err (oc_bad hc hFB) q
 | false =>
  rw [hFB] at HF
  by_cases hw : Md.wrong s c = 0
  · obtain ⟨o, ho, hdo⟩ := do4 hg hk hFB hw
    refine (out_do c s u w 4 50 51 true true false false false false (by decide) (by decide) hk rfl o HCK HF HB (enter_of Try.func50 (by kernel_rfl) rfl) (fun S R G cap pvs w1 hr => ?_) (enter_of Try.func51 (by kernel_rfl) rfl) (fun S R G cap pvs w1 hr => hdo S R G cap pvs w1 hr)).mono fun e w' q => end_ok ((oc_do hc hw).trans (by rw [ho])) q
    have q := wr4 hg hk hFB S R G cap pvs w1 hr
    rw [hw] at q
    exact q
  · exact (out_wrong c s u w 4 50 51 true true false false false false (by decide) (by decide) hk rfl (Md.wrong s c) hw HCK HF HB (enter_of Try.func50 (by kernel_rfl) rfl) (fun S R G cap pvs w1 hr => wr4 hg hk hFB S R G cap pvs w1 hr)).mono fun e w' q => end_err (oc_wrong hc hw) q
set_option maxHeartbeats 400000 in
set_option maxRecDepth 100000 in
theorem kind5 (c : Md.Call) (s : Md.State) (u : SlV) (pvs : List PoolV) (w : World) (h : PoolsRd w u pvs s.pools) (hsz : ∀ p ∈ s.pools, PoolSmall p) (hlen : s.pools.length ≤ 1000) (hb : Md.Bnd s) (hk : c.kind = 5) (hc : Md.check s = 0) :
 Calls Try.prog 20 #[.agg #[I64 s.now, .bool s.shut, valS u], valCall c] w fun e w' => OutEnd s c w e w' := by
 have hg := Md.check_ok.1 hc
 have hul : u.2.1 = s.pools.length := (read_len h.1).trans h.2.1
 have HCK : ∀ w1, Below w.heap.size w w1 → Calls Try.prog 11 #[.agg #[I64 s.now, .bool s.shut, valS u]] w1 fun e w' => e = .returned (I64 0) ∧ Below w1.heap.size w1 w' := fun w1 hb1 => by
  have q := check_any s u pvs w1 (h.below hb1) hsz hlen hb
  rw [hc] at q
  exact q
 have hshort : ∀ p ∈ s.pools, PoolShort p := fun p hp => by
  obtain ⟨a, b, c, d⟩ := hsz p hp
  exact ⟨by omega, by omega, by omega, by omega⟩
 have HB : ∀ w1, Below w.heap.size w w1 → Calls Try.prog 36 #[.agg #[I64 s.now, .bool s.shut, valS u], valCall c] w1 fun e w' => ∃ R, e = .returned (.pointer (some ⟨R, 0, none⟩)) ∧ (∃ G cap pvs, RunV (fun i => w1.heap.size ≤ i) R c s [] (fun _ => True) (some ⟨G, 0, none⟩, s.pools.length, cap) (none, 0, 0) pvs w') ∧ w1.heap.size ≤ R ∧ Below w1.heap.size w1 w' :=
  fun w1 hb1 => begin_any c s u pvs w1 (h.below hb1) hg.len1 hlen hshort
 have HF : ∀ w1, Calls Try.prog 35 #[.agg #[.bool false, .bool false, .bool false, .bool true, .bool false, .bool false, .func (.func 52) #[] #[], .func (.func 53) #[] #[]], .agg #[I64 s.now, .bool s.shut, valS u], valCall c] w1 fun e w' => e = .returned (.bool (Md.badFields s c)) ∧ Below w1.heap.size w1 w' := fun w1 => by
  obtain ⟨ua, un, uc⟩ := u
  replace hul : un = s.pools.length := hul
  subst hul
  have q := fields_t (.func (.func 52) #[] #[]) (.func (.func 53) #[] #[]) s.now s.shut ua s.pools.length uc c w1 hlen
  rw [← bad5 hk]
  exact q
 cases hFB : Md.badFields s c with
 | true =>
  rw [hFB] at HF
  exact (out_bad c s u w 5 52 53 false false false true false false (by decide) (by decide) hk rfl HCK HF).mono fun e w' q => end_err (oc_bad hc hFB) q
 | false =>
  rw [hFB] at HF
  by_cases hw : Md.wrong s c = 0
  · obtain ⟨o, ho, hdo⟩ := do5 hg hk
    refine (out_do c s u w 5 52 53 false false false true false false (by decide) (by decide) hk rfl o HCK HF HB (enter_of Try.func52 (by kernel_rfl) rfl) (fun S R G cap pvs w1 hr => ?_) (enter_of Try.func53 (by kernel_rfl) rfl) (fun S R G cap pvs w1 hr => hdo S R G cap pvs w1 hr)).mono fun e w' q => end_ok ((oc_do hc hw).trans (by rw [ho])) q
    have q := wr5 hk hFB S R G cap pvs w1 hr
    rw [hw] at q
    exact q
  · exact (out_wrong c s u w 5 52 53 false false false true false false (by decide) (by decide) hk rfl (Md.wrong s c) hw HCK HF HB (enter_of Try.func52 (by kernel_rfl) rfl) (fun S R G cap pvs w1 hr => wr5 hk hFB S R G cap pvs w1 hr)).mono fun e w' q => end_err (oc_wrong hc hw) q
set_option maxHeartbeats 400000 in
set_option maxRecDepth 100000 in
theorem kind6 (c : Md.Call) (s : Md.State) (u : SlV) (pvs : List PoolV) (w : World) (h : PoolsRd w u pvs s.pools) (hsz : ∀ p ∈ s.pools, PoolSmall p) (hlen : s.pools.length ≤ 1000) (hb : Md.Bnd s) (hk : c.kind = 6) (hc : Md.check s = 0) :
 Calls Try.prog 20 #[.agg #[I64 s.now, .bool s.shut, valS u], valCall c] w fun e w' => OutEnd s c w e w' := by
 have hg := Md.check_ok.1 hc
 have hul : u.2.1 = s.pools.length := (read_len h.1).trans h.2.1
 have HCK : ∀ w1, Below w.heap.size w w1 → Calls Try.prog 11 #[.agg #[I64 s.now, .bool s.shut, valS u]] w1 fun e w' => e = .returned (I64 0) ∧ Below w1.heap.size w1 w' := fun w1 hb1 => by
  have q := check_any s u pvs w1 (h.below hb1) hsz hlen hb
  rw [hc] at q
  exact q
 have hshort : ∀ p ∈ s.pools, PoolShort p := fun p hp => by
  obtain ⟨a, b, c, d⟩ := hsz p hp
  exact ⟨by omega, by omega, by omega, by omega⟩
 have HB : ∀ w1, Below w.heap.size w w1 → Calls Try.prog 36 #[.agg #[I64 s.now, .bool s.shut, valS u], valCall c] w1 fun e w' => ∃ R, e = .returned (.pointer (some ⟨R, 0, none⟩)) ∧ (∃ G cap pvs, RunV (fun i => w1.heap.size ≤ i) R c s [] (fun _ => True) (some ⟨G, 0, none⟩, s.pools.length, cap) (none, 0, 0) pvs w') ∧ w1.heap.size ≤ R ∧ Below w1.heap.size w1 w' :=
  fun w1 hb1 => begin_any c s u pvs w1 (h.below hb1) hg.len1 hlen hshort
 have HF : ∀ w1, Calls Try.prog 35 #[.agg #[.bool false, .bool false, .bool false, .bool false, .bool false, .bool false, .func (.func 54) #[] #[], .func (.func 55) #[] #[]], .agg #[I64 s.now, .bool s.shut, valS u], valCall c] w1 fun e w' => e = .returned (.bool (Md.badFields s c)) ∧ Below w1.heap.size w1 w' := fun w1 => by
  obtain ⟨ua, un, uc⟩ := u
  replace hul : un = s.pools.length := hul
  subst hul
  have q := fields_none (.func (.func 54) #[] #[]) (.func (.func 55) #[] #[]) s.now s.shut ua s.pools.length uc c w1 hlen
  rw [← bad6 hk]
  exact q
 cases hFB : Md.badFields s c with
 | true =>
  rw [hFB] at HF
  exact (out_bad c s u w 6 54 55 false false false false false false (by decide) (by decide) hk rfl HCK HF).mono fun e w' q => end_err (oc_bad hc hFB) q
 | false =>
  rw [hFB] at HF
  by_cases hw : Md.wrong s c = 0
  · obtain ⟨o, ho, hdo⟩ := do6 hg hk
    refine (out_do c s u w 6 54 55 false false false false false false (by decide) (by decide) hk rfl o HCK HF HB (enter_of Try.func54 (by kernel_rfl) rfl) (fun S R G cap pvs w1 hr => ?_) (enter_of Try.func55 (by kernel_rfl) rfl) (fun S R G cap pvs w1 hr => hdo S R G cap pvs w1 hr)).mono fun e w' q => end_ok ((oc_do hc hw).trans (by rw [ho])) q
    have q := wr6 hk hFB S R G cap pvs w1 hr
    rw [hw] at q
    exact q
  · exact (out_wrong c s u w 6 54 55 false false false false false false (by decide) (by decide) hk rfl (Md.wrong s c) hw HCK HF HB (enter_of Try.func54 (by kernel_rfl) rfl) (fun S R G cap pvs w1 hr => wr6 hk hFB S R G cap pvs w1 hr)).mono fun e w' q => end_err (oc_wrong hc hw) q
set_option maxHeartbeats 400000 in
set_option maxRecDepth 100000 in
theorem kind8 (c : Md.Call) (s : Md.State) (u : SlV) (pvs : List PoolV) (w : World) (h : PoolsRd w u pvs s.pools) (hsz : ∀ p ∈ s.pools, PoolSmall p) (hlen : s.pools.length ≤ 1000) (hb : Md.Bnd s) (hk : c.kind = 8) (hc : Md.check s = 0) :
 Calls Try.prog 20 #[.agg #[I64 s.now, .bool s.shut, valS u], valCall c] w fun e w' => OutEnd s c w e w' := by
 have hg := Md.check_ok.1 hc
 have hul : u.2.1 = s.pools.length := (read_len h.1).trans h.2.1
 have HCK : ∀ w1, Below w.heap.size w w1 → Calls Try.prog 11 #[.agg #[I64 s.now, .bool s.shut, valS u]] w1 fun e w' => e = .returned (I64 0) ∧ Below w1.heap.size w1 w' := fun w1 hb1 => by
  have q := check_any s u pvs w1 (h.below hb1) hsz hlen hb
  rw [hc] at q
  exact q
 have hshort : ∀ p ∈ s.pools, PoolShort p := fun p hp => by
  obtain ⟨a, b, c, d⟩ := hsz p hp
  exact ⟨by omega, by omega, by omega, by omega⟩
 have HB : ∀ w1, Below w.heap.size w w1 → Calls Try.prog 36 #[.agg #[I64 s.now, .bool s.shut, valS u], valCall c] w1 fun e w' => ∃ R, e = .returned (.pointer (some ⟨R, 0, none⟩)) ∧ (∃ G cap pvs, RunV (fun i => w1.heap.size ≤ i) R c s [] (fun _ => True) (some ⟨G, 0, none⟩, s.pools.length, cap) (none, 0, 0) pvs w') ∧ w1.heap.size ≤ R ∧ Below w1.heap.size w1 w' :=
  fun w1 hb1 => begin_any c s u pvs w1 (h.below hb1) hg.len1 hlen hshort
 have HF : ∀ w1, Calls Try.prog 35 #[.agg #[.bool true, .bool true, .bool false, .bool false, .bool false, .bool false, .func (.func 54) #[] #[], .func (.func 56) #[] #[]], .agg #[I64 s.now, .bool s.shut, valS u], valCall c] w1 fun e w' => e = .returned (.bool (Md.badFields s c)) ∧ Below w1.heap.size w1 w' := fun w1 => by
  obtain ⟨ua, un, uc⟩ := u
  replace hul : un = s.pools.length := hul
  subst hul
  have q := fields_bc (.func (.func 54) #[] #[]) (.func (.func 56) #[] #[]) s.now s.shut ua s.pools.length uc c w1 hlen
  rw [← bad8 hk]
  exact q
 cases hFB : Md.badFields s c with
 | true =>
  rw [hFB] at HF
  exact (out_bad c s u w 8 54 56 true true false false false false (by decide) (by decide) hk rfl HCK HF).mono fun e w' q => end_err (oc_bad hc hFB) q
 | false =>
  rw [hFB] at HF
  by_cases hw : Md.wrong s c = 0
  · obtain ⟨o, ho, hdo⟩ := do8 hk hFB
    refine (out_do c s u w 8 54 56 true true false false false false (by decide) (by decide) hk rfl o HCK HF HB (enter_of Try.func54 (by kernel_rfl) rfl) (fun S R G cap pvs w1 hr => ?_) (enter_of Try.func56 (by kernel_rfl) rfl) (fun S R G cap pvs w1 hr => hdo S R G cap pvs w1 hr)).mono fun e w' q => end_ok ((oc_do hc hw).trans (by rw [ho])) q
    have q := wr8 hk hFB S R G cap pvs w1 hr
    rw [hw] at q
    exact q
  · exact (out_wrong c s u w 8 54 56 true true false false false false (by decide) (by decide) hk rfl (Md.wrong s c) hw HCK HF HB (enter_of Try.func54 (by kernel_rfl) rfl) (fun S R G cap pvs w1 hr => wr8 hk hFB S R G cap pvs w1 hr)).mono fun e w' q => end_err (oc_wrong hc hw) q
set_option maxHeartbeats 400000 in
set_option maxRecDepth 100000 in
theorem kind9 (c : Md.Call) (s : Md.State) (u : SlV) (pvs : List PoolV) (w : World) (h : PoolsRd w u pvs s.pools) (hsz : ∀ p ∈ s.pools, PoolSmall p) (hlen : s.pools.length ≤ 1000) (hb : Md.Bnd s) (hk : c.kind = 9) (hc : Md.check s = 0) :
 Calls Try.prog 20 #[.agg #[I64 s.now, .bool s.shut, valS u], valCall c] w fun e w' => OutEnd s c w e w' := by
 have hg := Md.check_ok.1 hc
 have hul : u.2.1 = s.pools.length := (read_len h.1).trans h.2.1
 have HCK : ∀ w1, Below w.heap.size w w1 → Calls Try.prog 11 #[.agg #[I64 s.now, .bool s.shut, valS u]] w1 fun e w' => e = .returned (I64 0) ∧ Below w1.heap.size w1 w' := fun w1 hb1 => by
  have q := check_any s u pvs w1 (h.below hb1) hsz hlen hb
  rw [hc] at q
  exact q
 have hshort : ∀ p ∈ s.pools, PoolShort p := fun p hp => by
  obtain ⟨a, b, c, d⟩ := hsz p hp
  exact ⟨by omega, by omega, by omega, by omega⟩
 have HB : ∀ w1, Below w.heap.size w w1 → Calls Try.prog 36 #[.agg #[I64 s.now, .bool s.shut, valS u], valCall c] w1 fun e w' => ∃ R, e = .returned (.pointer (some ⟨R, 0, none⟩)) ∧ (∃ G cap pvs, RunV (fun i => w1.heap.size ≤ i) R c s [] (fun _ => True) (some ⟨G, 0, none⟩, s.pools.length, cap) (none, 0, 0) pvs w') ∧ w1.heap.size ≤ R ∧ Below w1.heap.size w1 w' :=
  fun w1 hb1 => begin_any c s u pvs w1 (h.below hb1) hg.len1 hlen hshort
 have HF : ∀ w1, Calls Try.prog 35 #[.agg #[.bool true, .bool false, .bool false, .bool false, .bool false, .bool false, .func (.func 54) #[] #[], .func (.func 57) #[] #[]], .agg #[I64 s.now, .bool s.shut, valS u], valCall c] w1 fun e w' => e = .returned (.bool (Md.badFields s c)) ∧ Below w1.heap.size w1 w' := fun w1 => by
  obtain ⟨ua, un, uc⟩ := u
  replace hul : un = s.pools.length := hul
  subst hul
  have q := fields_b (.func (.func 54) #[] #[]) (.func (.func 57) #[] #[]) s.now s.shut ua s.pools.length uc c w1 hlen
  rw [← bad9 hk]
  exact q
 cases hFB : Md.badFields s c with
 | true =>
  rw [hFB] at HF
  exact (out_bad c s u w 9 54 57 true false false false false false (by decide) (by decide) hk rfl HCK HF).mono fun e w' q => end_err (oc_bad hc hFB) q
 | false =>
  rw [hFB] at HF
  by_cases hw : Md.wrong s c = 0
  · obtain ⟨o, ho, hdo⟩ := do9 hk hFB
    refine (out_do c s u w 9 54 57 true false false false false false (by decide) (by decide) hk rfl o HCK HF HB (enter_of Try.func54 (by kernel_rfl) rfl) (fun S R G cap pvs w1 hr => ?_) (enter_of Try.func57 (by kernel_rfl) rfl) (fun S R G cap pvs w1 hr => hdo S R G cap pvs w1 hr)).mono fun e w' q => end_ok ((oc_do hc hw).trans (by rw [ho])) q
    have q := wr9 hk hFB S R G cap pvs w1 hr
    rw [hw] at q
    exact q
  · exact (out_wrong c s u w 9 54 57 true false false false false false (by decide) (by decide) hk rfl (Md.wrong s c) hw HCK HF HB (enter_of Try.func54 (by kernel_rfl) rfl) (fun S R G cap pvs w1 hr => wr9 hk hFB S R G cap pvs w1 hr)).mono fun e w' q => end_err (oc_wrong hc hw) q
set_option maxHeartbeats 400000 in
set_option maxRecDepth 100000 in
theorem kind10 (c : Md.Call) (s : Md.State) (u : SlV) (pvs : List PoolV) (w : World) (h : PoolsRd w u pvs s.pools) (hsz : ∀ p ∈ s.pools, PoolSmall p) (hlen : s.pools.length ≤ 1000) (hb : Md.Bnd s) (hk : c.kind = 10) (hc : Md.check s = 0) :
 Calls Try.prog 20 #[.agg #[I64 s.now, .bool s.shut, valS u], valCall c] w fun e w' => OutEnd s c w e w' := by
 have hg := Md.check_ok.1 hc
 have hul : u.2.1 = s.pools.length := (read_len h.1).trans h.2.1
 have HCK : ∀ w1, Below w.heap.size w w1 → Calls Try.prog 11 #[.agg #[I64 s.now, .bool s.shut, valS u]] w1 fun e w' => e = .returned (I64 0) ∧ Below w1.heap.size w1 w' := fun w1 hb1 => by
  have q := check_any s u pvs w1 (h.below hb1) hsz hlen hb
  rw [hc] at q
  exact q
 have hshort : ∀ p ∈ s.pools, PoolShort p := fun p hp => by
  obtain ⟨a, b, c, d⟩ := hsz p hp
  exact ⟨by omega, by omega, by omega, by omega⟩
 have HB : ∀ w1, Below w.heap.size w w1 → Calls Try.prog 36 #[.agg #[I64 s.now, .bool s.shut, valS u], valCall c] w1 fun e w' => ∃ R, e = .returned (.pointer (some ⟨R, 0, none⟩)) ∧ (∃ G cap pvs, RunV (fun i => w1.heap.size ≤ i) R c s [] (fun _ => True) (some ⟨G, 0, none⟩, s.pools.length, cap) (none, 0, 0) pvs w') ∧ w1.heap.size ≤ R ∧ Below w1.heap.size w1 w' :=
  fun w1 hb1 => begin_any c s u pvs w1 (h.below hb1) hg.len1 hlen hshort
 have HF : ∀ w1, Calls Try.prog 35 #[.agg #[.bool true, .bool false, .bool false, .bool false, .bool false, .bool true, .func (.func 54) #[] #[], .func (.func 58) #[] #[]], .agg #[I64 s.now, .bool s.shut, valS u], valCall c] w1 fun e w' => e = .returned (.bool (Md.badFields s c)) ∧ Below w1.heap.size w1 w' := fun w1 => by
  obtain ⟨ua, un, uc⟩ := u
  replace hul : un = s.pools.length := hul
  subst hul
  have q := fields_brk (.func (.func 54) #[] #[]) (.func (.func 58) #[] #[]) s.now s.shut ua s.pools.length uc c w1 hlen
  rw [← bad10 hk]
  exact q
 cases hFB : Md.badFields s c with
 | true =>
  rw [hFB] at HF
  exact (out_bad c s u w 10 54 58 true false false false false true (by decide) (by decide) hk rfl HCK HF).mono fun e w' q => end_err (oc_bad hc hFB) q
 | false =>
  rw [hFB] at HF
  by_cases hw : Md.wrong s c = 0
  · obtain ⟨o, ho, hdo⟩ := do10 hk hFB
    refine (out_do c s u w 10 54 58 true false false false false true (by decide) (by decide) hk rfl o HCK HF HB (enter_of Try.func54 (by kernel_rfl) rfl) (fun S R G cap pvs w1 hr => ?_) (enter_of Try.func58 (by kernel_rfl) rfl) (fun S R G cap pvs w1 hr => hdo S R G cap pvs w1 hr)).mono fun e w' q => end_ok ((oc_do hc hw).trans (by rw [ho])) q
    have q := wr10 hk hFB S R G cap pvs w1 hr
    rw [hw] at q
    exact q
  · exact (out_wrong c s u w 10 54 58 true false false false false true (by decide) (by decide) hk rfl (Md.wrong s c) hw HCK HF HB (enter_of Try.func54 (by kernel_rfl) rfl) (fun S R G cap pvs w1 hr => wr10 hk hFB S R G cap pvs w1 hr)).mono fun e w' q => end_err (oc_wrong hc hw) q
set_option maxHeartbeats 400000 in
set_option maxRecDepth 100000 in
theorem kind7 (c : Md.Call) (s : Md.State) (u : SlV) (pvs : List PoolV) (w : World) (h : PoolsRd w u pvs s.pools) (hsz : ∀ p ∈ s.pools, PoolSmall p) (hlen : s.pools.length ≤ 1000) (hb : Md.Bnd s) (hk : c.kind = 7) (hc : Md.check s = 0)
 (HPK : Md.Good s → c.kind = 7 → Md.badFields s c = false → ∀ w1, Below w.heap.size w w1 → Calls Try.prog 37 #[.agg #[I64 s.now, .bool s.shut, valS u], valCall c] w1 fun e w' => (∃ v, e = .returned v ∧ OutsRd w1.heap.size w' v (Md.picks s c)) ∧ Below w1.heap.size w1 w') :
 Calls Try.prog 20 #[.agg #[I64 s.now, .bool s.shut, valS u], valCall c] w fun e w' => OutEnd s c w e w' := by
 have hg := Md.check_ok.1 hc
 have hul : u.2.1 = s.pools.length := (read_len h.1).trans h.2.1
 have HCK : ∀ w1, Below w.heap.size w w1 → Calls Try.prog 11 #[.agg #[I64 s.now, .bool s.shut, valS u]] w1 fun e w' => e = .returned (I64 0) ∧ Below w1.heap.size w1 w' := fun w1 hb1 => by
  have q := check_any s u pvs w1 (h.below hb1) hsz hlen hb
  rw [hc] at q
  exact q
 have hshort : ∀ p ∈ s.pools, PoolShort p := fun p hp => by
  obtain ⟨a, b, c, d⟩ := hsz p hp
  exact ⟨by omega, by omega, by omega, by omega⟩
 have HB : ∀ w1, Below w.heap.size w w1 → Calls Try.prog 36 #[.agg #[I64 s.now, .bool s.shut, valS u], valCall c] w1 fun e w' => ∃ R, e = .returned (.pointer (some ⟨R, 0, none⟩)) ∧ (∃ G cap pvs, RunV (fun i => w1.heap.size ≤ i) R c s [] (fun _ => True) (some ⟨G, 0, none⟩, s.pools.length, cap) (none, 0, 0) pvs w') ∧ w1.heap.size ≤ R ∧ Below w1.heap.size w1 w' :=
  fun w1 hb1 => begin_any c s u pvs w1 (h.below hb1) hg.len1 hlen hshort
 have HF : ∀ w1, Calls Try.prog 35 #[.agg #[.bool false, .bool true, .bool false, .bool false, .bool true, .bool false, .func (.func 54) #[] #[], Value.nilFunc], .agg #[I64 s.now, .bool s.shut, valS u], valCall c] w1 fun e w' => e = .returned (.bool (Md.badFields s c)) ∧ Below w1.heap.size w1 w' := fun w1 => by
  obtain ⟨ua, un, uc⟩ := u
  replace hul : un = s.pools.length := hul
  subst hul
  have q := fields_cs (.func (.func 54) #[] #[]) (Value.nilFunc) s.now s.shut ua s.pools.length uc c w1 hlen
  rw [← bad7 hk]
  exact q
 cases hFB : Md.badFields s c with
 | true =>
  rw [hFB] at HF
  exact (out_bad7 c s u w 7 54 0 false true false false true false (by decide) (by decide) hk rfl HCK HF).mono fun e w' q => end_err (oc_bad hc hFB) q
 | false =>
  rw [hFB] at HF
  have hw : Md.wrong s c = 0 := by
   unfold Md.wrong
   rw [hFB, hk]
   rfl
  have ho : Md.act s c = Md.picks s c := by
   unfold Md.act
   rw [hk]
   rfl
  refine (out_picks c s u w 7 54 false true false false true false (by decide) (by decide) hk rfl (Md.picks s c) HCK HF HB (enter_of Try.func54 (by kernel_rfl) rfl) (fun S R G cap pvs w1 hr => ?_) (HPK hg hk hFB)).mono fun e w' q => end_ok ((oc_do hc hw).trans (by rw [ho])) q
  have q := wr7 hk hFB S R G cap pvs w1 hr
  rw [hw] at q
  exact q
theorem outcomes_of (c : Md.Call) (s : Md.State) (u : SlV) (pvs : List PoolV) (w : World) (h : PoolsRd w u pvs s.pools) (hsz : ∀ p ∈ s.pools, PoolSmall p) (hlen : s.pools.length ≤ 1000) (hb : Md.Bnd s)
 (HPK : Md.Good s → c.kind = 7 → Md.badFields s c = false → ∀ w1, Below w.heap.size w w1 → Calls Try.prog 37 #[.agg #[I64 s.now, .bool s.shut, valS u], valCall c] w1 fun e w' => (∃ v, e = .returned v ∧ OutsRd w1.heap.size w' v (Md.picks s c)) ∧ Below w1.heap.size w1 w') :
 Calls Try.prog 20 #[.agg #[I64 s.now, .bool s.shut, valS u], valCall c] w fun e w' => OutEnd s c w e w' := by
 by_cases hc : Md.check s = 0
 · by_cases hr : c.kind < 1 ∨ 11 ≤ c.kind
   · have hbf : Md.badFields s c = true := by
      unfold Md.badFields
      rcases hr with hr | hr
      · rw [decide_eq_true hr]
        simp
      · have : decide (10 < c.kind) = true := decide_eq_true (by omega)
        rw [this]
        simp
     have HCK : ∀ w1, Below w.heap.size w w1 → Calls Try.prog 11 #[.agg #[I64 s.now, .bool s.shut, valS u]] w1 fun e w' => e = .returned (I64 0) ∧ Below w1.heap.size w1 w' := fun w1 hb1 => by
      have q := check_any s u pvs w1 (h.below hb1) hsz hlen hb
      rw [hc] at q
      exact q
     exact (out_kind c s u w hr HCK).mono fun e w' q => end_err (oc_bad hc hbf) q
   · have hk : c.kind = 1 ∨ c.kind = 2 ∨ c.kind = 3 ∨ c.kind = 4 ∨ c.kind = 5 ∨ c.kind = 6 ∨ c.kind = 7 ∨ c.kind = 8 ∨ c.kind = 9 ∨ c.kind = 10 := by omega
     rcases hk with hk | hk | hk | hk | hk | hk | hk | hk | hk | hk
     · exact kind1 c s u pvs w h hsz hlen hb hk hc
     · exact kind2 c s u pvs w h hsz hlen hb hk hc
     · exact kind3 c s u pvs w h hsz hlen hb hk hc
     · exact kind4 c s u pvs w h hsz hlen hb hk hc
     · exact kind5 c s u pvs w h hsz hlen hb hk hc
     · exact kind6 c s u pvs w h hsz hlen hb hk hc
     · exact kind7 c s u pvs w h hsz hlen hb hk hc HPK
     · exact kind8 c s u pvs w h hsz hlen hb hk hc
     · exact kind9 c s u pvs w h hsz hlen hb hk hc
     · exact kind10 c s u pvs w h hsz hlen hb hk hc
 · refine (out_check c s u w (Md.check s) hc (fun w1 hb1 => check_any s u pvs w1 (h.below hb1) hsz hlen hb)).mono fun e w' q => end_err (oc_check hc) q
end Go.Proofs.Ytaicmiadgnpimaa
