/-
  Walks for layer 26 (model): what the functions of each kind of calls return, in a state that is one.
-/
import Derived.Test.YtaicmiadgnpimaaMw49
namespace Go.Proofs.Ytaicmiadgnpimaa
open Go.RowKit

theorem enter_of {f : FuncId} {fn : Func} {c : Code} (hf : Try.prog.funcs[f]? = some fn) (hname : (fn.name == "runtime.NumGoroutine") = false) (hb : fn.body = some c) (args : Array Value) (w : World) : (callFunc f args).run Try.prog w = .ok (.enter f args) w := by
  have h1 : fn.name ≠ "runtime.NumGoroutine" := by simpa using hname
  simp [callFunc, hf, h1, hb]
theorem back_of {s : Md.State} {c : Md.Call} (hbf : Md.badFields s c = false) (hu : (Md.uses c.kind).1 = true) : ∃ b : Nat, c.backend = (b : Int) ∧ b < s.pools.length := by
  unfold Md.badFields at hbf
  simp only [hu, Bool.true_and, Bool.or_eq_false_iff, decide_eq_false_iff_not] at hbf
  exact ⟨c.backend.toNat, by omega, by omega⟩
theorem pool_at {s : Md.State} {c : Md.Call} {b : Nat} (hb : c.backend = (b : Int)) (hlt : b < s.pools.length) : Md.pool s c.backend = s.pools[b] := by
  unfold Md.pool
  rw [hb, List.getD_eq_getElem?_getD, Int.toNat_natCast, List.getElem?_eq_getElem hlt]
  rfl
theorem setPool_at {s : Md.State} {c : Md.Call} {b : Nat} (hb : c.backend = (b : Int)) (p : Md.Pool) : Md.setPool s c.backend p = setP s b p := by
  unfold Md.setPool setP
  rw [hb, Int.toNat_natCast]
theorem fit_leave {s : Md.State} (hg : Md.Good s) : ∀ p ∈ s.pools, LeaveFit p := by
  intro p hm
  have h1 := hg.pool _ hm
  rw [Md.poolOk_iff] at h1
  obtain ⟨h2, h3, h4, h5, h6, h7⟩ := h1
  rw [Md.sizeOk_iff] at h2
  have h8 := Md.rangeOk_lim (hg.rng _ hm)
  unfold Md.limOk at h8
  simp only [Bool.and_eq_true, decide_eq_true_eq] at h8
  have h9 := hg.now
  unfold Md.isTime at h9
  simp only [Bool.and_eq_true, decide_eq_true_eq] at h9
  have h10 := (Md.idleOk_iff.1 h3).1
  refine ⟨by omega, by omega, fun x hx => ?_, ?_, ?_⟩
  · have := h10 x hx
    unfold Near
    omega
  · unfold Near
    omega
  · unfold Near
    omega
theorem near_now {s : Md.State} (hg : Md.Good s) : Near s.now := by
  have h9 := hg.now
  unfold Md.isTime at h9
  simp only [Bool.and_eq_true, decide_eq_true_eq] at h9
  unfold Near
  omega
theorem near_leases {s : Md.State} (hg : Md.Good s) {b : Nat} (hb : b < s.pools.length) : ∀ x ∈ s.pools[b].leases, Near x.2.2 := by
  intro x hx
  have h1 := hg.pool _ (List.getElem_mem hb)
  rw [Md.poolOk_iff] at h1
  have h4 := (Md.leasesOk_iff.1 h1.2.2.1).1 x hx
  have h9 := near_now hg
  unfold Near at h9 ⊢
  omega
theorem wr1 {s : Md.State} {c : Md.Call} (hg : Md.Good s) (hk : c.kind = 1) (hbf : Md.badFields s c = false) (S : Nat → Prop) (R G cap : Nat) (pvs : List PoolV) (w : World) (h : RunV S R c s [] (fun _ => True) (some ⟨G, 0, none⟩, s.pools.length, cap) (none, 0, 0) pvs w) :
    Calls Try.prog 44 #[.pointer (some ⟨R, 0, none⟩)] w fun e w' => e = .returned (I64 (Md.wrong s c)) ∧ Below w.heap.size w w' := by
  have q := known_any R G 0 cap s.pools c.call w (runCells_of h.blk).c2 (runCells_of h.blk).c5 (fun j hj => by rw [Nat.zero_add]; exact h.seen hj (fit_good hg hj)) (by have := hg.len2; omega)
  have e : Md.wrong s c = if (s.pools.flatMap Md.pcalls).contains c.call then 8 else 0 := by simp [Md.wrong, hbf, hk, Md.calls]
  rw [e]
  exact q
theorem wr2 {s : Md.State} {c : Md.Call} (hg : Md.Good s) (hk : c.kind = 2) (hbf : Md.badFields s c = false) (S : Nat → Prop) (R G cap : Nat) (pvs : List PoolV) (w : World) (h : RunV S R c s [] (fun _ => True) (some ⟨G, 0, none⟩, s.pools.length, cap) (none, 0, 0) pvs w) :
    Calls Try.prog 46 #[.pointer (some ⟨R, 0, none⟩)] w fun e w' => e = .returned (I64 (Md.wrong s c)) ∧ Below w.heap.size w w' := by
  obtain ⟨b, hb, hlt⟩ := back_of hbf (by rw [hk]; rfl)
  have q := undialled_any S R G s.pools.length cap b c s [] (fun _ => True) (none, 0, 0) pvs w h hb rfl hlt (fun j hj => fit_good hg hj) (by have := hg.len2; omega)
  have e : Md.wrong s c = if !Md.hasDial s.pools[b] c.call then 4 else if undR c.yes c.conn s.pools 0 then 8 else 0 := by
    unfold Md.wrong undR
    rw [pool_at hb hlt, hbf, hk, List.drop_zero]
    rfl
  rw [e]
  exact q
theorem wr3 {s : Md.State} {c : Md.Call} (hg : Md.Good s) (hk : c.kind = 3) (hbf : Md.badFields s c = false) (S : Nat → Prop) (R G cap : Nat) (pvs : List PoolV) (w : World) (h : RunV S R c s [] (fun _ => True) (some ⟨G, 0, none⟩, s.pools.length, cap) (none, 0, 0) pvs w) :
    Calls Try.prog 48 #[.pointer (some ⟨R, 0, none⟩)] w fun e w' => e = .returned (I64 (Md.wrong s c)) ∧ Below w.heap.size w w' := by
  obtain ⟨b, hb, hlt⟩ := back_of hbf (by rw [hk]; rfl)
  have q := unleased_any S R G s.pools.length cap b c s [] (fun _ => True) (none, 0, 0) pvs w h hb rfl hlt (fit_good hg hlt)
  have e : Md.wrong s c = if !Md.hasLease s.pools[b] c.call then 4 else 0 := by
    unfold Md.wrong
    rw [pool_at hb hlt, hbf, hk]
    rfl
  rw [e]
  exact q
theorem wr4 {s : Md.State} {c : Md.Call} (hg : Md.Good s) (hk : c.kind = 4) (hbf : Md.badFields s c = false) (S : Nat → Prop) (R G cap : Nat) (pvs : List PoolV) (w : World) (h : RunV S R c s [] (fun _ => True) (some ⟨G, 0, none⟩, s.pools.length, cap) (none, 0, 0) pvs w) :
    Calls Try.prog 50 #[.pointer (some ⟨R, 0, none⟩)] w fun e w' => e = .returned (I64 (Md.wrong s c)) ∧ Below w.heap.size w w' := by
  obtain ⟨b, hb, hlt⟩ := back_of hbf (by rw [hk]; rfl)
  have q := uncancelled_any S R G s.pools.length cap b c s [] (fun _ => True) (none, 0, 0) pvs w h hb rfl hlt (fit_good hg hlt)
  have e : Md.wrong s c = cancelE s.pools[b] c.call := by
    unfold Md.wrong cancelE
    rw [pool_at hb hlt, hbf, hk]
    rfl
  rw [e]
  exact q
theorem wr5 {s : Md.State} {c : Md.Call} (hk : c.kind = 5) (hbf : Md.badFields s c = false) (S : Nat → Prop) (R G cap : Nat) (pvs : List PoolV) (w : World) (h : RunV S R c s [] (fun _ => True) (some ⟨G, 0, none⟩, s.pools.length, cap) (none, 0, 0) pvs w) :
    Calls Try.prog 52 #[.pointer (some ⟨R, 0, none⟩)] w fun e w' => e = .returned (I64 (Md.wrong s c)) ∧ Below w.heap.size w w' := by
  have q := past_any R c s _ _ w (runCells_of h.blk)
  have e : Md.wrong s c = if c.time < s.now then 7 else 0 := by
    unfold Md.wrong
    rw [hbf, hk]
    rfl
  rw [e]
  exact q
theorem wr6 {s : Md.State} {c : Md.Call} (hk : c.kind = 6) (hbf : Md.badFields s c = false) (S : Nat → Prop) (R G cap : Nat) (pvs : List PoolV) (w : World) (_ : RunV S R c s [] (fun _ => True) (some ⟨G, 0, none⟩, s.pools.length, cap) (none, 0, 0) pvs w) :
    Calls Try.prog 54 #[.pointer (some ⟨R, 0, none⟩)] w fun e w' => e = .returned (I64 (Md.wrong s c)) ∧ Below w.heap.size w w' := by
  have e : Md.wrong s c = 0 := by
    unfold Md.wrong
    rw [hbf, hk]
    rfl
  rw [e]
  exact (fine_any R w).mono fun e w' q => ⟨q.1, by rw [q.2]; exact .refl _ _⟩
theorem wr7 {s : Md.State} {c : Md.Call} (hk : c.kind = 7) (hbf : Md.badFields s c = false) (S : Nat → Prop) (R G cap : Nat) (pvs : List PoolV) (w : World) (_ : RunV S R c s [] (fun _ => True) (some ⟨G, 0, none⟩, s.pools.length, cap) (none, 0, 0) pvs w) :
    Calls Try.prog 54 #[.pointer (some ⟨R, 0, none⟩)] w fun e w' => e = .returned (I64 (Md.wrong s c)) ∧ Below w.heap.size w w' := by
  have e : Md.wrong s c = 0 := by
    unfold Md.wrong
    rw [hbf, hk]
    rfl
  rw [e]
  exact (fine_any R w).mono fun e w' q => ⟨q.1, by rw [q.2]; exact .refl _ _⟩
theorem wr8 {s : Md.State} {c : Md.Call} (hk : c.kind = 8) (hbf : Md.badFields s c = false) (S : Nat → Prop) (R G cap : Nat) (pvs : List PoolV) (w : World) (_ : RunV S R c s [] (fun _ => True) (some ⟨G, 0, none⟩, s.pools.length, cap) (none, 0, 0) pvs w) :
    Calls Try.prog 54 #[.pointer (some ⟨R, 0, none⟩)] w fun e w' => e = .returned (I64 (Md.wrong s c)) ∧ Below w.heap.size w w' := by
  have e : Md.wrong s c = 0 := by
    unfold Md.wrong
    rw [hbf, hk]
    rfl
  rw [e]
  exact (fine_any R w).mono fun e w' q => ⟨q.1, by rw [q.2]; exact .refl _ _⟩
theorem wr9 {s : Md.State} {c : Md.Call} (hk : c.kind = 9) (hbf : Md.badFields s c = false) (S : Nat → Prop) (R G cap : Nat) (pvs : List PoolV) (w : World) (_ : RunV S R c s [] (fun _ => True) (some ⟨G, 0, none⟩, s.pools.length, cap) (none, 0, 0) pvs w) :
    Calls Try.prog 54 #[.pointer (some ⟨R, 0, none⟩)] w fun e w' => e = .returned (I64 (Md.wrong s c)) ∧ Below w.heap.size w w' := by
  have e : Md.wrong s c = 0 := by
    unfold Md.wrong
    rw [hbf, hk]
    rfl
  rw [e]
  exact (fine_any R w).mono fun e w' q => ⟨q.1, by rw [q.2]; exact .refl _ _⟩
theorem wr10 {s : Md.State} {c : Md.Call} (hk : c.kind = 10) (hbf : Md.badFields s c = false) (S : Nat → Prop) (R G cap : Nat) (pvs : List PoolV) (w : World) (_ : RunV S R c s [] (fun _ => True) (some ⟨G, 0, none⟩, s.pools.length, cap) (none, 0, 0) pvs w) :
    Calls Try.prog 54 #[.pointer (some ⟨R, 0, none⟩)] w fun e w' => e = .returned (I64 (Md.wrong s c)) ∧ Below w.heap.size w w' := by
  have e : Md.wrong s c = 0 := by
    unfold Md.wrong
    rw [hbf, hk]
    rfl
  rw [e]
  exact (fine_any R w).mono fun e w' q => ⟨q.1, by rw [q.2]; exact .refl _ _⟩
theorem do1 {s : Md.State} {c : Md.Call} (hg : Md.Good s) (hk : c.kind = 1) (hbf : Md.badFields s c = false) :
    ∃ o, Md.act s c = [o] ∧ ∀ (S : Nat → Prop) (R G cap : Nat) (pvs : List PoolV) (w : World), RunV S R c s [] (fun _ => True) (some ⟨G, 0, none⟩, s.pools.length, cap) (none, 0, 0) pvs w →
      Calls Try.prog 45 #[.pointer (some ⟨R, 0, none⟩)] w fun e w' => e = .returned (agg3 o.result) ∧ (∃ W, RunE S R c o.next o.effects W G s.pools.length cap w') ∧ Gb S w w' := by
  obtain ⟨b, hb, hlt⟩ := back_of hbf (by rw [hk]; rfl)
  refine ⟨⟨(Md.ask s.shut s.now s.pools[b] c).2, [], setP s b (Md.ask s.shut s.now s.pools[b] c).1⟩, ?_, fun S R G cap pvs w h => ?_⟩
  · unfold Md.act
    rw [hk]
    simp [pool_at hb hlt, setPool_at hb]
  · exact (ask_any S R G s.pools.length cap b c s [] (fun _ => True) (none, 0, 0) pvs w h hb rfl hlt (fit_good hg hlt) trivial).mono fun e w' q => ⟨q.1, ⟨_, q.2.1⟩, q.2.2⟩
theorem do2 {s : Md.State} {c : Md.Call} (hg : Md.Good s) (hk : c.kind = 2) (hbf : Md.badFields s c = false) (hw : Md.wrong s c = 0) :
    ∃ o, Md.act s c = [o] ∧ ∀ (S : Nat → Prop) (R G cap : Nat) (pvs : List PoolV) (w : World), RunV S R c s [] (fun _ => True) (some ⟨G, 0, none⟩, s.pools.length, cap) (none, 0, 0) pvs w →
      Calls Try.prog 47 #[.pointer (some ⟨R, 0, none⟩)] w fun e w' => e = .returned (agg3 o.result) ∧ (∃ W, RunE S R c o.next o.effects W G s.pools.length cap w') ∧ Gb S w w' := by
  obtain ⟨b, hb, hlt⟩ := back_of hbf (by rw [hk]; rfl)
  have hx : Md.hasDial s.pools[b] c.call = true := by
    unfold Md.wrong at hw
    rw [pool_at hb hlt, hbf, hk] at hw
    cases hd : Md.hasDial s.pools[b] c.call with
    | true => rfl
    | false =>
      rw [hd] at hw
      simp at hw
  refine ⟨⟨(Md.dialled s.shut s.now s.pools[b] c).2.2, (Md.dialled s.shut s.now s.pools[b] c).2.1, setP s b (Md.dialled s.shut s.now s.pools[b] c).1⟩, ?_, fun S R G cap pvs w h => ?_⟩
  · unfold Md.act
    rw [hk]
    simp [pool_at hb hlt, setPool_at hb]
  · exact (dialled_any S R G s.pools.length cap b c s [] (fun _ => True) (none, 0, 0) pvs w h hb rfl hlt (fit_good hg hlt) hx (near_now hg) (Nat.zero_le _)).mono fun e w' q => ⟨q.1, ⟨_, q.2.1⟩, q.2.2⟩
theorem do3 {s : Md.State} {c : Md.Call} (hg : Md.Good s) (hk : c.kind = 3) (hbf : Md.badFields s c = false) (hw : Md.wrong s c = 0) :
    ∃ o, Md.act s c = [o] ∧ ∀ (S : Nat → Prop) (R G cap : Nat) (pvs : List PoolV) (w : World), RunV S R c s [] (fun _ => True) (some ⟨G, 0, none⟩, s.pools.length, cap) (none, 0, 0) pvs w →
      Calls Try.prog 49 #[.pointer (some ⟨R, 0, none⟩)] w fun e w' => e = .returned (agg3 o.result) ∧ (∃ W, RunE S R c o.next o.effects W G s.pools.length cap w') ∧ Gb S w w' := by
  obtain ⟨b, hb, hlt⟩ := back_of hbf (by rw [hk]; rfl)
  have hx : Md.hasLease s.pools[b] c.call = true := by
    unfold Md.wrong at hw
    rw [pool_at hb hlt, hbf, hk] at hw
    cases hd : Md.hasLease s.pools[b] c.call with
    | true => rfl
    | false =>
      rw [hd] at hw
      simp at hw
  refine ⟨⟨(7, 0, 0), (Md.free s.shut s.now s.pools[b] c).2, setP s b (Md.free s.shut s.now s.pools[b] c).1⟩, ?_, fun S R G cap pvs w h => ?_⟩
  · unfold Md.act
    rw [hk]
    simp [pool_at hb hlt, setPool_at hb]
  · exact (free_any S R G s.pools.length cap b c s [] (fun _ => True) (none, 0, 0) pvs w h hb rfl hlt (fit_good hg hlt) hx (near_leases hg hlt) (Nat.zero_le _)).mono fun e w' q => ⟨q.1, ⟨_, q.2.1⟩, q.2.2⟩
theorem do4 {s : Md.State} {c : Md.Call} (hg : Md.Good s) (hk : c.kind = 4) (hbf : Md.badFields s c = false) (hw : Md.wrong s c = 0) :
    ∃ o, Md.act s c = [o] ∧ ∀ (S : Nat → Prop) (R G cap : Nat) (pvs : List PoolV) (w : World), RunV S R c s [] (fun _ => True) (some ⟨G, 0, none⟩, s.pools.length, cap) (none, 0, 0) pvs w →
      Calls Try.prog 51 #[.pointer (some ⟨R, 0, none⟩)] w fun e w' => e = .returned (agg3 o.result) ∧ (∃ W, RunE S R c o.next o.effects W G s.pools.length cap w') ∧ Gb S w w' := by
  obtain ⟨b, hb, hlt⟩ := back_of hbf (by rw [hk]; rfl)
  have hx : Md.hasDial s.pools[b] c.call = false → Md.hasWaiter s.pools[b] c.call = true := by
    intro hd
    unfold Md.wrong at hw
    rw [pool_at hb hlt, hbf, hk, hd] at hw
    cases he : Md.hasWaiter s.pools[b] c.call with
    | true => rfl
    | false =>
      rw [he] at hw
      simp at hw
      split at hw <;> simp at hw
  refine ⟨⟨(7, 0, 0), [], setP s b (Md.cancel s.pools[b] c)⟩, ?_, fun S R G cap pvs w h => ?_⟩
  · unfold Md.act
    rw [hk]
    simp [pool_at hb hlt, setPool_at hb]
  · exact (cancel_any S R G s.pools.length cap b c s [] (fun _ => True) (none, 0, 0) pvs w h hb rfl hlt (fit_good hg hlt) trivial hx).mono fun e w' q => ⟨q.1, ⟨_, q.2.1⟩, q.2.2⟩
theorem do5 {s : Md.State} {c : Md.Call} (hg : Md.Good s) (hk : c.kind = 5) :
    ∃ o, Md.act s c = [o] ∧ ∀ (S : Nat → Prop) (R G cap : Nat) (pvs : List PoolV) (w : World), RunV S R c s [] (fun _ => True) (some ⟨G, 0, none⟩, s.pools.length, cap) (none, 0, 0) pvs w →
      Calls Try.prog 53 #[.pointer (some ⟨R, 0, none⟩)] w fun e w' => e = .returned (agg3 o.result) ∧ (∃ W, RunE S R c o.next o.effects W G s.pools.length cap w') ∧ Gb S w w' := by
  refine ⟨⟨(7, 0, 0), (Md.leave 5 { s with now := c.time }).2, (Md.leave 5 { s with now := c.time }).1⟩, ?_, fun S R G cap pvs w h => ?_⟩
  · unfold Md.act
    rw [hk]
    rfl
  · exact (tick_any S R G s.pools.length cap c s [] (none, 0, 0) pvs w h rfl (by have := hg.len2; omega) (fit_leave hg) (Nat.zero_le _)).mono fun e w' q => ⟨q.1, ⟨_, q.2.1⟩, q.2.2⟩
theorem do6 {s : Md.State} {c : Md.Call} (hg : Md.Good s) (hk : c.kind = 6) :
    ∃ o, Md.act s c = [o] ∧ ∀ (S : Nat → Prop) (R G cap : Nat) (pvs : List PoolV) (w : World), RunV S R c s [] (fun _ => True) (some ⟨G, 0, none⟩, s.pools.length, cap) (none, 0, 0) pvs w →
      Calls Try.prog 55 #[.pointer (some ⟨R, 0, none⟩)] w fun e w' => e = .returned (agg3 o.result) ∧ (∃ W, RunE S R c o.next o.effects W G s.pools.length cap w') ∧ Gb S w w' := by
  refine ⟨⟨(7, 0, 0), (Md.leave 6 { s with shut := true }).2, (Md.leave 6 { s with shut := true }).1⟩, ?_, fun S R G cap pvs w h => ?_⟩
  · unfold Md.act
    rw [hk]
    rfl
  · exact (shut_any S R G s.pools.length cap c s [] (none, 0, 0) pvs w h rfl (by have := hg.len2; omega) (fit_leave hg) (Nat.zero_le _)).mono fun e w' q => ⟨q.1, ⟨_, q.2.1⟩, q.2.2⟩
theorem do8 {s : Md.State} {c : Md.Call} (hk : c.kind = 8) (hbf : Md.badFields s c = false) :
    ∃ o, Md.act s c = [o] ∧ ∀ (S : Nat → Prop) (R G cap : Nat) (pvs : List PoolV) (w : World), RunV S R c s [] (fun _ => True) (some ⟨G, 0, none⟩, s.pools.length, cap) (none, 0, 0) pvs w →
      Calls Try.prog 56 #[.pointer (some ⟨R, 0, none⟩)] w fun e w' => e = .returned (agg3 o.result) ∧ (∃ W, RunE S R c o.next o.effects W G s.pools.length cap w') ∧ Gb S w w' := by
  obtain ⟨b, hb, hlt⟩ := back_of hbf (by rw [hk]; rfl)
  refine ⟨⟨(7, 0, 0), [], setP s b (Md.report s.pools[b] c)⟩, ?_, fun S R G cap pvs w h => ?_⟩
  · unfold Md.act
    rw [hk]
    simp [pool_at hb hlt, setPool_at hb]
  · exact (report_any S R G s.pools.length cap b c s [] (fun _ => True) (none, 0, 0) pvs w h hb rfl hlt).mono fun e w' q => ⟨q.1, ⟨_, q.2.1⟩, q.2.2⟩
theorem do9 {s : Md.State} {c : Md.Call} (hk : c.kind = 9) (hbf : Md.badFields s c = false) :
    ∃ o, Md.act s c = [o] ∧ ∀ (S : Nat → Prop) (R G cap : Nat) (pvs : List PoolV) (w : World), RunV S R c s [] (fun _ => True) (some ⟨G, 0, none⟩, s.pools.length, cap) (none, 0, 0) pvs w →
      Calls Try.prog 57 #[.pointer (some ⟨R, 0, none⟩)] w fun e w' => e = .returned (agg3 o.result) ∧ (∃ W, RunE S R c o.next o.effects W G s.pools.length cap w') ∧ Gb S w w' := by
  obtain ⟨b, hb, hlt⟩ := back_of hbf (by rw [hk]; rfl)
  refine ⟨⟨(7, 0, 0), [], setP s b { s.pools[b] with up := c.yes }⟩, ?_, fun S R G cap pvs w h => ?_⟩
  · unfold Md.act
    rw [hk]
    simp [pool_at hb hlt, setPool_at hb]
  · exact (mark_any S R G s.pools.length cap b c s [] (fun _ => True) (none, 0, 0) pvs w h hb rfl hlt).mono fun e w' q => ⟨q.1, ⟨_, q.2.1⟩, q.2.2⟩
theorem do10 {s : Md.State} {c : Md.Call} (hk : c.kind = 10) (hbf : Md.badFields s c = false) :
    ∃ o, Md.act s c = [o] ∧ ∀ (S : Nat → Prop) (R G cap : Nat) (pvs : List PoolV) (w : World), RunV S R c s [] (fun _ => True) (some ⟨G, 0, none⟩, s.pools.length, cap) (none, 0, 0) pvs w →
      Calls Try.prog 58 #[.pointer (some ⟨R, 0, none⟩)] w fun e w' => e = .returned (agg3 o.result) ∧ (∃ W, RunE S R c o.next o.effects W G s.pools.length cap w') ∧ Gb S w w' := by
  obtain ⟨b, hb, hlt⟩ := back_of hbf (by rw [hk]; rfl)
  refine ⟨⟨(7, 0, 0), [], setP s b { s.pools[b] with breaker := c.breaker, probe := 0 }⟩, ?_, fun S R G cap pvs w h => ?_⟩
  · unfold Md.act
    rw [hk]
    simp [pool_at hb hlt, setPool_at hb]
  · exact (trip_any S R G s.pools.length cap b c s [] (fun _ => True) (none, 0, 0) pvs w h hb rfl hlt).mono fun e w' q => ⟨q.1, ⟨_, q.2.1⟩, q.2.2⟩
end Go.Proofs.Ytaicmiadgnpimaa
