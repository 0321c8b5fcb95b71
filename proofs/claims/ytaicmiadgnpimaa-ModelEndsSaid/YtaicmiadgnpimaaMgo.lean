/-
  Plain functions for layer 26 (model): states, calls, outcomes, over lists. No program in this text.
-/
import Derived.Lib.Hide
namespace Md

/-- Max, Queue, Idle, Age. -/
structure Lim where
 max : Int
 queue : Int
 idle : Int
 age : Int
/-- Conn, Born, Since. -/
abbrev Conn := Int × Int × Int
/-- Call, Conn, Born. -/
abbrev Lease := Int × Int × Int
/-- Call, Gone. -/
abbrev Dial := Int × Bool
/-- Call, Deadline. -/
abbrev Waiter := Int × Int
structure Pool where
 lim : Lim
 idle : List Conn
 leases : List Lease
 dials : List Dial
 waiters : List Waiter
 up : Bool
 breaker : Int
 probe : Int
structure State where
 now : Int
 shut : Bool
 pools : List Pool
structure Call where
 kind : Int
 backend : Int
 call : Int
 conn : Int
 time : Int
 yes : Bool
 skip : Int
 breaker : Int
/-- Kind, Backend, Conn. -/
abbrev Result := Int × Int × Int
/-- Kind, Backend, Call, Conn. -/
abbrev Effect := Int × Int × Int × Int
structure Outcome where
 result : Result
 effects : List Effect
 next : State

def isTime (t : Int) : Bool := decide (0 ≤ t) && decide (t ≤ 1000000000000)
def limOk (l : Lim) : Bool := decide (1 ≤ l.max) && decide (l.max ≤ 64) && decide (0 ≤ l.queue) && decide (l.queue ≤ 64) && decide (1 ≤ l.idle) && decide (l.idle ≤ 1000000000000) && decide (1 ≤ l.age) && decide (l.age ≤ 1000000000000)
def none0 : State := ⟨0, false, []⟩
def fresh (l : Lim) : Pool := ⟨l, [], [], [], [], true, 0, 0⟩
/-- New. -/
def new (l : List Lim) : State × Int :=
 if l.length < 1 ∨ 16 < l.length then (none0, 3) else if l.all limOk then (⟨0, false, l.map fresh⟩, 0) else (none0, 7)

def young (l : Lim) (c : Conn) (now : Int) : Bool := decide (now < c.2.2 + l.idle) && decide (now < c.2.1 + l.age)
def idleOk (l : Lim) (now : Int) : Int → List Conn → Bool
 | _, [] => true
 | last, c :: t => decide (0 ≤ c.2.1) && decide (c.2.1 ≤ c.2.2) && decide (last ≤ c.2.2) && decide (c.2.2 ≤ now) && young l c now && idleOk l now c.2.2 t
def leasesOk (now : Int) : Int → List Lease → Bool
 | _, [] => true
 | last, x :: t => decide (0 ≤ x.2.2) && decide (x.2.2 ≤ now) && decide (last < x.1) && leasesOk now x.1 t
def dialsOk : Int → List Dial → Bool
 | _, [] => true
 | last, x :: t => decide (last < x.1) && dialsOk x.1 t
def waitersOk (now : Int) (l : List Waiter) : Bool := l.all fun x => decide (now < x.2) && decide (x.2 ≤ 1000000000000)
def used (p : Pool) : Nat := p.leases.length + p.dials.length
def sizeOk (p : Pool) : Bool := decide (((used p + p.idle.length : Nat) : Int) ≤ p.lim.max) && decide ((p.waiters.length : Int) ≤ p.lim.queue) && (p.waiters.isEmpty || decide (p.lim.max ≤ (used p : Int)))
def probeOk (p : Pool) : Bool := p.probe == 0 || (p.breaker == 2 && decide (0 < p.probe))
def poolOk (p : Pool) (now : Int) : Bool := sizeOk p && idleOk p.lim now 0 p.idle && leasesOk now 0 p.leases && dialsOk 0 p.dials && waitersOk now p.waiters && probeOk p
def quietOk (s : State) (p : Pool) : Bool := !s.shut || (p.waiters.isEmpty && p.idle.isEmpty)
def pcalls (p : Pool) : List Int := p.leases.map (·.1) ++ p.dials.map (·.1) ++ p.waiters.map (·.1)
def pconns (p : Pool) : List Int := p.leases.map (·.2.1) ++ p.idle.map (·.1)
def calls (s : State) : List Int := s.pools.flatMap pcalls
def conns (s : State) : List Int := s.pools.flatMap pconns
/-- From 1 on, none twice. -/
def numsOk (l : List Int) : Bool := l.all (fun n => decide (1 ≤ n)) && decide l.Nodup
def rangeOk (p : Pool) : Bool := limOk p.lim && decide (0 ≤ p.breaker) && decide (p.breaker ≤ 2)
/-- Check. -/
def check (s : State) : Int :=
 if s.pools.length < 1 ∨ 16 < s.pools.length then 3
 else if !(isTime s.now && s.pools.all rangeOk) then 7
 else if !(s.pools.all fun p => poolOk p s.now && quietOk s p) then 6
 else if !(numsOk (calls s) && numsOk (conns s)) then 6
 else 0

def insLease (x : Lease) (l : List Lease) : List Lease := l.takeWhile (fun y => decide (y.1 < x.1)) ++ x :: l.dropWhile (fun y => decide (y.1 < x.1))
def insDial (c : Int) (l : List Dial) : List Dial := l.takeWhile (fun y => decide (y.1 < c)) ++ (c, false) :: l.dropWhile (fun y => decide (y.1 < c))
/-- A place is passed on. -/
def pass (b : Int) (p : Pool) : Pool × List Effect := match p.waiters with
 | [] => (p, [])
 | w :: ws => ({ p with waiters := ws, dials := insDial w.1 p.dials }, [(2, b, w.1, 0)])
/-- A connection is given to a backend. -/
def give (shut : Bool) (now b : Int) (p : Pool) (conn born : Int) (again : Bool) : Pool × List Effect :=
 if shut || decide (born + p.lim.age ≤ now) || !again then ((pass b p).1, (11, b, 0, conn) :: (pass b p).2)
 else match p.waiters with
 | w :: ws => ({ p with waiters := ws, leases := insLease (w.1, conn, born) p.leases }, [(1, b, w.1, conn)])
 | [] => ({ p with idle := p.idle ++ [(conn, born, now)] }, [])
def ask (shut : Bool) (now : Int) (p : Pool) (c : Call) : Pool × Result :=
 if shut then (p, (6, 0, 0))
 else if c.time ≤ now then (p, (5, 0, 0))
 else match p.idle.getLast? with
 | some x => ({ p with idle := p.idle.dropLast, leases := insLease (c.call, x.1, x.2.1) p.leases }, (1, 0, x.1))
 | none =>
  if (used p : Int) < p.lim.max then ({ p with dials := insDial c.call p.dials }, (2, 0, 0))
  else if (p.waiters.length : Int) < p.lim.queue then ({ p with waiters := p.waiters ++ [(c.call, c.time)] }, (3, 0, 0))
  else (p, (4, 0, 0))
def dialIx (p : Pool) (call : Int) : Nat := p.dials.findIdx (fun x => x.1 == call)
def leaseIx (p : Pool) (call : Int) : Nat := p.leases.findIdx (fun x => x.1 == call)
def waiterIx (p : Pool) (call : Int) : Nat := p.waiters.findIdx (fun x => x.1 == call)
def hasDial (p : Pool) (call : Int) : Bool := p.dials.any (fun x => x.1 == call)
def hasLease (p : Pool) (call : Int) : Bool := p.leases.any (fun x => x.1 == call)
def hasWaiter (p : Pool) (call : Int) : Bool := p.waiters.any (fun x => x.1 == call)
def gone (p : Pool) (call : Int) : Bool := (p.dials.find? (fun x => x.1 == call)).any (·.2)
def dialled (shut : Bool) (now : Int) (p : Pool) (c : Call) : Pool × List Effect × Result :=
 let g := gone p c.call
 let p1 := { p with dials := p.dials.eraseIdx (dialIx p c.call) }
 let r : Pool × List Effect :=
  if !c.yes then pass c.backend p1
  else if g then give shut now c.backend p1 c.conn now true
  else if shut then (p1, [(11, c.backend, 0, c.conn)])
  else ({ p1 with leases := insLease (c.call, c.conn, now) p1.leases }, [])
 (r.1, r.2, if g then (7, 0, 0) else if !c.yes then (10, 0, 0) else if shut then (6, 0, 0) else (1, 0, c.conn))
def free (shut : Bool) (now : Int) (p : Pool) (c : Call) : Pool × List Effect := match p.leases[leaseIx p c.call]? with
 | none => (p, [])
 | some x => give shut now c.backend { p with leases := p.leases.eraseIdx (leaseIx p c.call) } x.2.1 x.2.2 c.yes
def cancel (p : Pool) (c : Call) : Pool :=
 if hasDial p c.call then { p with dials := p.dials.modify (dialIx p c.call) (fun x => (x.1, true)) }
 else { p with waiters := p.waiters.eraseIdx (waiterIx p c.call) }
def stays (shut : Bool) (now : Int) (w : Waiter) : Bool := !shut && decide (now < w.2)
def leaveQ (shut : Bool) (now : Int) (p : Pool) : Pool := { p with waiters := p.waiters.filter (stays shut now), idle := p.idle.filter (fun c => !shut && young p.lim c now) }
def leaveE (kind : Int) (shut : Bool) (now : Int) (x : Pool × Nat) : List Effect :=
 ((x.1.waiters.filter (fun w => !stays shut now w)).map fun w => (kind, (x.2 : Int), w.1, (0 : Int))) ++ ((x.1.idle.filter (fun c => !(!shut && young x.1.lim c now))).map fun c => ((11 : Int), (x.2 : Int), (0 : Int), c.1))
def leave (kind : Int) (s : State) : State × List Effect := ({ s with pools := s.pools.map (leaveQ s.shut s.now) }, s.pools.zipIdx.flatMap (leaveE kind s.shut s.now))
def may (p : Pool) (b : Nat) (skip : Int) : Bool := p.up && (p.breaker == 0 || (p.breaker == 2 && p.probe == 0)) && decide (skip.toNat / 2 ^ b % 2 = 0)
def pickP (c : Call) (p : Pool) : Pool := if p.breaker == 2 then { p with probe := c.call } else p
def picks (s : State) (c : Call) : List Outcome :=
 if s.shut then [⟨(6, 0, 0), [], s⟩]
 else
  let l := s.pools.zipIdx.filter (fun x => may x.1 x.2 c.skip)
  if l.isEmpty then [⟨(9, 0, 0), [], s⟩]
  else l.map fun x => ⟨(8, x.2, 0), [], { s with pools := s.pools.set x.2 (pickP c x.1) }⟩
def report (p : Pool) (c : Call) : Pool := if p.probe == c.call then { p with probe := 0, breaker := if c.yes then 0 else 1 } else p

/-- Which fields a kind uses: backend, call, conn, time, skip, breaker. -/
def uses (k : Int) : Bool × Bool × Bool × Bool × Bool × Bool :=
 if k = 1 then (true, true, false, true, false, false)
 else if k = 2 then (true, true, true, false, false, false)
 else if k = 3 ∨ k = 4 ∨ k = 8 then (true, true, false, false, false, false)
 else if k = 5 then (false, false, false, true, false, false)
 else if k = 7 then (false, true, false, false, true, false)
 else if k = 9 then (true, false, false, false, false, false)
 else if k = 10 then (true, false, false, false, false, true)
 else (false, false, false, false, false, false)
def badFields (s : State) (c : Call) : Bool :=
 let u := uses c.kind
 decide (c.kind < 1) || decide (10 < c.kind) || (u.1 && (decide (c.backend < 0) || decide ((s.pools.length : Int) ≤ c.backend))) || (u.2.1 && decide (c.call < 1)) || (u.2.2.1 && c.yes && decide (c.conn < 1)) ||
  (u.2.2.2.1 && !isTime c.time) || (u.2.2.2.2.1 && (decide (c.skip < 0) || decide (65535 < c.skip))) || (u.2.2.2.2.2 && (decide (c.breaker < 0) || decide (2 < c.breaker)))
def pool (s : State) (b : Int) : Pool := s.pools.getD b.toNat (fresh ⟨0, 0, 0, 0⟩)
def wrong (s : State) (c : Call) : Int :=
 if badFields s c then 2
 else if c.kind = 1 then (if (calls s).contains c.call then 8 else 0)
 else if c.kind = 2 then (if !hasDial (pool s c.backend) c.call then 4 else if c.yes && (conns s).contains c.conn then 8 else 0)
 else if c.kind = 3 then (if !hasLease (pool s c.backend) c.call then 4 else 0)
 else if c.kind = 4 then
  (if hasLease (pool s c.backend) c.call || gone (pool s c.backend) c.call then 9
   else if !hasDial (pool s c.backend) c.call && !hasWaiter (pool s c.backend) c.call then 4 else 0)
 else if c.kind = 5 then (if c.time < s.now then 7 else 0)
 else 0
def setPool (s : State) (b : Int) (p : Pool) : State := { s with pools := s.pools.set b.toNat p }
def act (s : State) (c : Call) : List Outcome :=
 let p := pool s c.backend
 if c.kind = 1 then [⟨(ask s.shut s.now p c).2, [], setPool s c.backend (ask s.shut s.now p c).1⟩]
 else if c.kind = 2 then [⟨(dialled s.shut s.now p c).2.2, (dialled s.shut s.now p c).2.1, setPool s c.backend (dialled s.shut s.now p c).1⟩]
 else if c.kind = 3 then [⟨(7, 0, 0), (free s.shut s.now p c).2, setPool s c.backend (free s.shut s.now p c).1⟩]
 else if c.kind = 4 then [⟨(7, 0, 0), [], setPool s c.backend (cancel p c)⟩]
 else if c.kind = 5 then [⟨(7, 0, 0), (leave 5 { s with now := c.time }).2, (leave 5 { s with now := c.time }).1⟩]
 else if c.kind = 6 then [⟨(7, 0, 0), (leave 6 { s with shut := true }).2, (leave 6 { s with shut := true }).1⟩]
 else if c.kind = 7 then picks s c
 else if c.kind = 8 then [⟨(7, 0, 0), [], setPool s c.backend (report p c)⟩]
 else if c.kind = 9 then [⟨(7, 0, 0), [], setPool s c.backend { p with up := c.yes }⟩]
 else [⟨(7, 0, 0), [], setPool s c.backend { p with breaker := c.breaker, probe := 0 }⟩]
/-- Outcomes. -/
def outcomes (s : State) (c : Call) : List Outcome × Int :=
 if check s ≠ 0 then ([], check s) else if wrong s c ≠ 0 then ([], wrong s c) else (act s c, 0)
/-- Step. -/
def step (s : State) (c : Call) (r : Result) : State × List Effect × Int :=
 if (outcomes s c).2 ≠ 0 then (none0, [], (outcomes s c).2)
 else match (outcomes s c).1.find? (fun o => o.result == r) with
 | some o => (o.next, o.effects, 0)
 | none => (none0, [], 6)
/-- Where. -/
def whereP (call : Int) : Nat → List Pool → Option (Nat × Int)
 | _, [] => none
 | b, p :: t => if hasLease p call then some (b, 1) else if hasDial p call then some (b, 2) else if hasWaiter p call then some (b, 3) else whereP call (b + 1) t
def whereIs (s : State) (call : Int) : Int × Int × Int :=
 if check s ≠ 0 then (0, 0, check s) else if call < 1 then (0, 0, 2)
 else match whereP call 0 s.pools with
 | some x => (x.1, x.2, 0)
 | none => (0, 0, 4)
/-- Same. -/
def samePool (x y : Pool) : Bool :=
 x.lim.max == y.lim.max && x.lim.queue == y.lim.queue && x.lim.idle == y.lim.idle && x.lim.age == y.lim.age && x.up == y.up && x.breaker == y.breaker && x.probe == y.probe && x.idle == y.idle && x.leases == y.leases && x.dials == y.dials && x.waiters == y.waiters
def sameP : List Pool → List Pool → Bool
 | [], [] => true
 | x :: s, y :: t => samePool x y && sameP s t
 | _, _ => false
def same (a b : State) : Bool := a.now == b.now && a.shut == b.shut && sameP a.pools b.pools

/-! ### sameness is equality -/
end Md
namespace Md

/-- A state, as Check asks. -/
structure Good (s : State) : Prop where
 len1 : 1 ≤ s.pools.length
 len2 : s.pools.length ≤ 16
 now : isTime s.now = true
 rng : ∀ p ∈ s.pools, rangeOk p = true
 pool : ∀ p ∈ s.pools, poolOk p s.now = true
 quiet : ∀ p ∈ s.pools, quietOk s p = true
 calls : numsOk (calls s) = true
 conns : numsOk (conns s) = true
theorem check_ok {s : State} : check s = 0 ↔ Good s := by
 constructor
 · intro h
   unfold check at h
   split at h
   · cases h
   · rename_i h1
     split at h
     · cases h
     · rename_i h2
       split at h
       · cases h
       · rename_i h3
         split at h
         · cases h
         · rename_i h4
           simp only [Bool.not_eq_true', Bool.not_eq_false, Bool.and_eq_true] at h2 h3 h4
           have h3' : ∀ p ∈ s.pools, poolOk p s.now = true ∧ quietOk s p = true := fun p hp => by
            have := List.all_eq_true.1 h3 p hp
            simpa only [Bool.and_eq_true] using this
           exact ⟨by omega, by omega, h2.1, List.all_eq_true.1 h2.2, fun p hp => (h3' p hp).1, fun p hp => (h3' p hp).2, h4.1, h4.2⟩
 · intro h
   have h3 : (s.pools.all fun p => poolOk p s.now && quietOk s p) = true := List.all_eq_true.2 fun p hp => by rw [h.pool p hp, h.quiet p hp]; rfl
   have h2 : s.pools.all rangeOk = true := List.all_eq_true.2 h.rng
   unfold check
   rw [if_neg (by have := h.len1; have := h.len2; omega), h.now, h2, h3, h.calls, h.conns]
   rfl

/-! ### lists of numbers -/
theorem numsOk_iff {l : List Int} : numsOk l = true ↔ (∀ n ∈ l, 1 ≤ n) ∧ l.Nodup := by
 simp only [numsOk, Bool.and_eq_true, List.all_eq_true, decide_eq_true_eq]
theorem numsOk_perm {l m : List Int} (h : l.Perm m) (hl : numsOk l = true) : numsOk m = true := by
 rw [numsOk_iff] at hl ⊢
 exact ⟨fun n hn => hl.1 n (h.mem_iff.2 hn), h.nodup_iff.1 hl.2⟩
theorem numsOk_sub {a a' d R : List Int} (h : a.Perm (a' ++ d)) (hl : numsOk (a ++ R) = true) : numsOk (a' ++ R) = true := by
 rw [numsOk_iff] at hl ⊢
 have hp : (a ++ R).Perm (d ++ (a' ++ R)) := by
  refine (h.append_right R).trans ?_
  rw [← List.append_assoc]
  exact (List.perm_append_comm (l₁ := a') (l₂ := d)).append_right R
 exact ⟨fun n hn => hl.1 n (hp.mem_iff.2 (List.mem_append_right _ hn)), (List.nodup_append.1 (hp.nodup_iff.1 hl.2)).2.1⟩
theorem numsOk_add {a a' R : List Int} {c : Int} (h : a'.Perm (c :: a)) (hc : 1 ≤ c) (hn : c ∉ a ++ R) (hl : numsOk (a ++ R) = true) : numsOk (a' ++ R) = true := by
 rw [numsOk_iff] at hl ⊢
 have hp : (a' ++ R).Perm (c :: (a ++ R)) := by
  refine (h.append_right R).trans ?_
  rw [List.cons_append]
 refine ⟨fun n hm => ?_, hp.nodup_iff.2 (List.nodup_cons.2 ⟨hn, hl.2⟩)⟩
 rcases List.mem_cons.1 (hp.mem_iff.1 hm) with rfl | hm
 · exact hc
 · exact hl.1 n hm
theorem flat_set {f : Pool → List Int} {l : List Pool} {b : Nat} (hb : b < l.length) : ∃ R, (l.flatMap f).Perm (f l[b] ++ R) ∧ ∀ x, ((l.set b x).flatMap f).Perm (f x ++ R) := by
 have key : ∀ x, ((l.take b ++ x :: l.drop (b + 1)).flatMap f).Perm (f x ++ ((l.take b).flatMap f ++ (l.drop (b + 1)).flatMap f)) := by
  intro x
  rw [List.flatMap_append, List.flatMap_cons]
  rw [← List.append_assoc, ← List.append_assoc]
  exact (List.perm_append_comm (l₁ := (l.take b).flatMap f) (l₂ := f x)).append_right _
 refine ⟨(l.take b).flatMap f ++ (l.drop (b + 1)).flatMap f, ?_, fun x => ?_⟩
 · have h := key l[b]
   rw [← List.drop_eq_getElem_cons hb, List.take_append_drop] at h
   exact h
 · rw [List.set_eq_take_append_cons_drop, if_pos hb]
   exact key x

/-! ### sorted lists -/
theorem dialsOk_iff : ∀ {l : List Dial} {last : Int}, dialsOk last l = true ↔ (∀ x ∈ l, last < x.1) ∧ l.Pairwise (fun x y => x.1 < y.1)
 | [], last => by simp [dialsOk]
 | x :: t, last => by
  simp only [dialsOk, Bool.and_eq_true, decide_eq_true_eq, dialsOk_iff (l := t), List.pairwise_cons, List.forall_mem_cons]
  constructor
  · rintro ⟨h1, h2, h3⟩
    exact ⟨⟨h1, fun y hy => by have := h2 y hy; omega⟩, h2, h3⟩
  · rintro ⟨⟨h1, _⟩, h2, h3⟩
    exact ⟨h1, h2, h3⟩
theorem leasesOk_iff {now : Int} : ∀ {l : List Lease} {last : Int}, leasesOk now last l = true ↔ (∀ x ∈ l, 0 ≤ x.2.2 ∧ x.2.2 ≤ now) ∧ (∀ x ∈ l, last < x.1) ∧ l.Pairwise (fun x y => x.1 < y.1)
 | [], last => by simp [leasesOk]
 | x :: t, last => by
  simp only [leasesOk, Bool.and_eq_true, decide_eq_true_eq, leasesOk_iff (l := t), List.pairwise_cons, List.forall_mem_cons]
  constructor
  · rintro ⟨⟨⟨h0, h00⟩, h1⟩, h4, h2, h3⟩
    exact ⟨⟨⟨h0, h00⟩, h4⟩, ⟨h1, fun y hy => by have := h2 y hy; omega⟩, h2, h3⟩
  · rintro ⟨⟨⟨h0, h00⟩, h4⟩, ⟨h1, _⟩, h2, h3⟩
    exact ⟨⟨⟨h0, h00⟩, h1⟩, h4, h2, h3⟩
theorem idleOk_iff {lm : Lim} {now : Int} : ∀ {l : List Conn} {last : Int}, idleOk lm now last l = true ↔
 (∀ x ∈ l, 0 ≤ x.2.1 ∧ x.2.1 ≤ x.2.2 ∧ x.2.2 ≤ now ∧ young lm x now = true) ∧ (∀ x ∈ l, last ≤ x.2.2) ∧ l.Pairwise (fun x y => x.2.2 ≤ y.2.2)
 | [], last => by simp [idleOk]
 | x :: t, last => by
  simp only [idleOk, Bool.and_eq_true, decide_eq_true_eq, idleOk_iff (l := t), List.pairwise_cons, List.forall_mem_cons]
  constructor
  · rintro ⟨⟨⟨⟨⟨h0, h00⟩, h1⟩, h5⟩, h6⟩, h4, h2, h3⟩
    exact ⟨⟨⟨h0, h00, h5, h6⟩, h4⟩, ⟨h1, fun y hy => by have := h2 y hy; omega⟩, h2, h3⟩
  · rintro ⟨⟨⟨h0, h00, h5, h6⟩, h4⟩, ⟨h1, _⟩, h2, h3⟩
    exact ⟨⟨⟨⟨⟨h0, h00⟩, h1⟩, h5⟩, h6⟩, h4, h2, h3⟩
theorem ins_perm {α : Type} (q : α → Bool) (x : α) (l : List α) : (l.takeWhile q ++ x :: l.dropWhile q).Perm (x :: l) := by
 have h := List.perm_middle (a := x) (l₁ := l.takeWhile q) (l₂ := l.dropWhile q)
 rwa [List.takeWhile_append_dropWhile] at h
theorem ins_pairwise {α : Type} (k : α → Int) (x : α) : ∀ (l : List α), l.Pairwise (fun a b => k a < k b) → (∀ y ∈ l, k y ≠ k x) →
 (l.takeWhile (fun y => decide (k y < k x)) ++ x :: l.dropWhile (fun y => decide (k y < k x))).Pairwise (fun a b => k a < k b)
 | [], _, _ => by simp
 | a :: t, hs, hx => by
  obtain ⟨h1, h2⟩ := List.pairwise_cons.1 hs
  by_cases h : k a < k x
  · have ih := ins_pairwise k x t h2 (fun y hy => hx y (List.mem_cons_of_mem _ hy))
    have e : decide (k a < k x) = true := by simpa using h
    simp only [List.takeWhile_cons, List.dropWhile_cons, e, if_true, List.cons_append, List.pairwise_cons]
    refine ⟨fun y hy => ?_, ih⟩
    rcases List.mem_cons.1 ((ins_perm _ x t).mem_iff.1 hy) with rfl | hy
    · exact h
    · exact h1 y hy
  · have e : decide (k a < k x) = false := by simpa using h
    have hne := hx a (by simp)
    simp only [List.takeWhile_cons, List.dropWhile_cons, e, Bool.false_eq_true, if_false, List.nil_append, List.pairwise_cons]
    refine ⟨fun y hy => ?_, h1, h2⟩
    rcases List.mem_cons.1 hy with rfl | hy
    · omega
    · have := h1 y hy; omega
theorem insDial_perm (c : Int) (l : List Dial) : (insDial c l).Perm ((c, false) :: l) := ins_perm _ _ _
theorem insLease_perm (x : Lease) (l : List Lease) : (insLease x l).Perm (x :: l) := ins_perm _ _ _
theorem insDial_ok {c : Int} {l : List Dial} (h : dialsOk 0 l = true) (hc : 1 ≤ c) (hn : c ∉ l.map (·.1)) : dialsOk 0 (insDial c l) = true := by
 rw [dialsOk_iff] at h ⊢
 refine ⟨fun x hx => ?_, ins_pairwise (fun y : Dial => y.1) (c, false) l h.2 (fun y hy e => hn (List.mem_map.2 ⟨y, hy, e⟩))⟩
 rcases List.mem_cons.1 ((insDial_perm c l).mem_iff.1 hx) with rfl | hx
 · show 0 < c; omega
 · exact h.1 x hx
theorem insLease_ok {now : Int} {x : Lease} {l : List Lease} (h : leasesOk now 0 l = true) (hc : 1 ≤ x.1) (hb : 0 ≤ x.2.2 ∧ x.2.2 ≤ now) (hn : x.1 ∉ l.map (·.1)) : leasesOk now 0 (insLease x l) = true := by
 rw [leasesOk_iff] at h ⊢
 refine ⟨fun y hy => ?_, fun y hy => ?_, ins_pairwise (fun y : Lease => y.1) x l h.2.2 (fun y hy e => hn (List.mem_map.2 ⟨y, hy, e⟩))⟩
 · rcases List.mem_cons.1 ((insLease_perm x l).mem_iff.1 hy) with rfl | hy
   · exact hb
   · exact h.1 y hy
 · rcases List.mem_cons.1 ((insLease_perm x l).mem_iff.1 hy) with rfl | hy
   · show 0 < y.1; omega
   · exact h.2.1 y hy

/-! ### a place is free -/
/-- A backend in which one place is free. -/
structure Free1 (p : Pool) (now : Int) : Prop where
 size : ((used p + p.idle.length : Nat) : Int) + 1 ≤ p.lim.max
 queue : (p.waiters.length : Int) ≤ p.lim.queue
 full : p.waiters ≠ [] → p.lim.max ≤ (used p : Int) + 1
 idle : idleOk p.lim now 0 p.idle = true
 leases : leasesOk now 0 p.leases = true
 dials : dialsOk 0 p.dials = true
 waiters : waitersOk now p.waiters = true
 probe : probeOk p = true
theorem sizeOk_iff {p : Pool} : sizeOk p = true ↔ ((used p + p.idle.length : Nat) : Int) ≤ p.lim.max ∧ (p.waiters.length : Int) ≤ p.lim.queue ∧ (p.waiters ≠ [] → p.lim.max ≤ (used p : Int)) := by
 simp only [sizeOk, Bool.and_eq_true, decide_eq_true_eq, Bool.or_eq_true, List.isEmpty_iff]
 constructor
 · rintro ⟨⟨h1, h2⟩, h3⟩
   exact ⟨h1, h2, fun hw => h3.resolve_left hw⟩
 · rintro ⟨h1, h2, h3⟩
   refine ⟨⟨h1, h2⟩, ?_⟩
   by_cases hw : p.waiters = []
   · exact .inl hw
   · exact .inr (h3 hw)
theorem poolOk_iff {p : Pool} {now : Int} : poolOk p now = true ↔ sizeOk p = true ∧ idleOk p.lim now 0 p.idle = true ∧ leasesOk now 0 p.leases = true ∧ dialsOk 0 p.dials = true ∧ waitersOk now p.waiters = true ∧ probeOk p = true := by
 simp only [poolOk, Bool.and_eq_true, and_assoc]
/-- The calls of a backend: no two are the same. -/
theorem waiter_new {p : Pool} {w : Waiter} {ws : List Waiter} (hw : p.waiters = w :: ws) (hn : numsOk (pcalls p) = true) : 1 ≤ w.1 ∧ w.1 ∉ p.leases.map (·.1) ∧ w.1 ∉ p.dials.map (·.1) := by
 rw [numsOk_iff] at hn
 obtain ⟨h1, h2⟩ := hn
 unfold pcalls at h1 h2
 rw [hw] at h1 h2
 have hm : w.1 ∈ p.leases.map (·.1) ++ p.dials.map (·.1) ++ (w :: ws).map (·.1) := by simp
 refine ⟨h1 _ hm, fun h => ?_, fun h => ?_⟩
 · have := (List.nodup_append.1 h2).2.2 w.1 (List.mem_append_left _ h) w.1 (by simp)
   exact this rfl
 · have := (List.nodup_append.1 h2).2.2 w.1 (List.mem_append_right _ h) w.1 (by simp)
   exact this rfl
theorem pass_calls (b : Int) (p : Pool) : (pcalls (pass b p).1).Perm (pcalls p) := by
 unfold pass
 cases hw : p.waiters with
 | nil => exact List.Perm.refl _
 | cons w ws =>
  unfold pcalls
  rw [hw]
  have h1 : ((insDial w.1 p.dials).map (·.1)).Perm (w.1 :: p.dials.map (·.1)) := (insDial_perm w.1 p.dials).map _
  simp only [List.map_cons]
  refine (((h1.append_left (p.leases.map (·.1))).append_right (ws.map (·.1)))).trans ?_
  rw [List.append_assoc, List.append_assoc, List.cons_append]
  refine List.Perm.append_left _ ?_
  exact (List.perm_middle (a := w.1) (l₁ := p.dials.map (·.1)) (l₂ := ws.map (·.1))).symm
theorem pass_ok {b : Int} {p : Pool} {now : Int} (h : Free1 p now) (hn : numsOk (pcalls p) = true) : poolOk (pass b p).1 now = true := by
 unfold pass
 cases hw : p.waiters with
 | nil =>
  show poolOk p now = true
  rw [poolOk_iff, sizeOk_iff]
  exact ⟨⟨by have := h.size; omega, h.queue, fun hx => absurd hw hx⟩, h.idle, h.leases, h.dials, h.waiters, h.probe⟩
 | cons w ws =>
  obtain ⟨n1, n2, n3⟩ := waiter_new hw hn
  have hl := (insDial_perm w.1 p.dials).length_eq
  have hs := h.size
  have hq := h.queue
  have hf := h.full (by rw [hw]; simp)
  have hws := h.waiters
  rw [hw] at hq hws
  simp only [List.length_cons] at hl hq
  unfold waitersOk at hws
  rw [List.all_cons, Bool.and_eq_true] at hws
  rw [poolOk_iff, sizeOk_iff]
  unfold used at hs hf ⊢
  simp only
  refine ⟨⟨by rw [hl]; omega, by omega, fun _ => by rw [hl]; omega⟩, h.idle, h.leases, insDial_ok h.dials n1 n3, hws.2, h.probe⟩
theorem time_iff {t : Int} : isTime t = true ↔ 0 ≤ t ∧ t ≤ 1000000000000 := by simp only [isTime, Bool.and_eq_true, decide_eq_true_eq]
theorem lim_idle {l : Lim} (h : limOk l = true) : 1 ≤ l.max ∧ 1 ≤ l.idle ∧ 1 ≤ l.age := by
 simp only [limOk, Bool.and_eq_true, decide_eq_true_eq] at h
 exact ⟨h.1.1.1.1.1.1.1, h.1.1.1.2, h.1.2⟩
theorem give_ok {shut : Bool} {now b : Int} {p : Pool} {conn born : Int} {again : Bool} (h : Free1 p now) (hn : numsOk (pcalls p) = true) (hb : 0 ≤ born ∧ born ≤ now) (hnow : isTime now = true) (hl : limOk p.lim = true) :
 poolOk (give shut now b p conn born again).1 now = true := by
 unfold give
 split
 · exact pass_ok h hn
 · rename_i hc
   simp only [Bool.or_eq_true, decide_eq_true_eq, Bool.not_eq_true', not_or] at hc
   cases hw : p.waiters with
   | nil =>
    obtain ⟨l1, l2, l3⟩ := lim_idle hl
    obtain ⟨t1, t2⟩ := time_iff.1 hnow
    have hi := h.idle
    rw [idleOk_iff] at hi
    simp only
    rw [poolOk_iff, sizeOk_iff]
    refine ⟨⟨?_, by have := h.queue; rw [hw] at this; exact this, fun hx => absurd rfl hx⟩, ?_, h.leases, h.dials, by have := h.waiters; rw [hw] at this; exact this, h.probe⟩
    · have := h.size
      unfold used at this ⊢
      simp only [List.length_append, List.length_cons, List.length_nil]
      omega
    · simp only
      rw [idleOk_iff]
      refine ⟨fun x hx => ?_, fun x hx => ?_, ?_⟩
      · rcases List.mem_append.1 hx with hx | hx
        · exact hi.1 x hx
        · simp at hx; subst hx
          refine ⟨hb.1, hb.2, Int.le_refl _, ?_⟩
          simp only [young, Bool.and_eq_true, decide_eq_true_eq]
          exact ⟨by omega, by have := hc.1.2; omega⟩
      · rcases List.mem_append.1 hx with hx | hx
        · exact hi.2.1 x hx
        · simp at hx; subst hx; exact t1
      · rw [List.pairwise_append]
        refine ⟨hi.2.2, List.pairwise_singleton _ _, fun x hx y hy => ?_⟩
        simp at hy; subst hy
        exact (hi.1 x hx).2.2.1
   | cons w ws =>
    obtain ⟨n1, n2, n3⟩ := waiter_new hw hn
    have hll := (insLease_perm (w.1, conn, born) p.leases).length_eq
    have hs := h.size
    have hq := h.queue
    have hf := h.full (by rw [hw]; simp)
    have hws := h.waiters
    rw [hw] at hq hws
    simp only [List.length_cons] at hll hq
    unfold waitersOk at hws
    rw [List.all_cons, Bool.and_eq_true] at hws
    simp only
    rw [poolOk_iff, sizeOk_iff]
    unfold used at hs hf ⊢
    simp only
    exact ⟨⟨by rw [hll]; omega, by omega, fun _ => by rw [hll]; omega⟩, h.idle, insLease_ok h.leases n1 hb n2, h.dials, hws.2, h.probe⟩
theorem give_calls (shut : Bool) (now b : Int) (p : Pool) (conn born : Int) (again : Bool) : (pcalls (give shut now b p conn born again).1).Perm (pcalls p) := by
 unfold give
 split
 · exact pass_calls b p
 · cases hw : p.waiters with
   | nil =>
    unfold pcalls
    rw [hw]
   | cons w ws =>
    unfold pcalls
    rw [hw]
    have h1 : ((insLease (w.1, conn, born) p.leases).map (·.1)).Perm (w.1 :: p.leases.map (·.1)) := (insLease_perm _ _).map _
    simp only [List.map_cons]
    refine ((h1.append_right (p.dials.map (·.1))).append_right (ws.map (·.1))).trans ?_
    rw [List.append_assoc, List.append_assoc, List.cons_append, ← List.append_assoc, ← List.append_assoc]
    exact (List.perm_middle (a := w.1) (l₁ := p.leases.map (·.1) ++ p.dials.map (·.1)) (l₂ := ws.map (·.1))).symm
theorem pass_conns (b : Int) (p : Pool) : pconns (pass b p).1 = pconns p := by
 unfold pass pconns
 cases p.waiters <;> rfl
theorem give_conns (shut : Bool) (now b : Int) (p : Pool) (conn born : Int) (again : Bool) : (pconns (give shut now b p conn born again).1).Perm (pconns p) ∨ (pconns (give shut now b p conn born again).1).Perm (conn :: pconns p) := by
 unfold give
 split
 · exact .inl (by rw [pass_conns])
 · refine .inr ?_
   cases hw : p.waiters with
   | nil =>
    unfold pconns
    simp only [List.map_append, List.map_cons, List.map_nil]
    rw [← List.append_assoc]
    exact List.perm_append_singleton _ _
   | cons w ws =>
    unfold pconns
    have h1 : ((insLease (w.1, conn, born) p.leases).map (·.2.1)).Perm (conn :: p.leases.map (·.2.1)) := (insLease_perm _ _).map _
    exact h1.append_right _
theorem pass_lim (b : Int) (p : Pool) : (pass b p).1.lim = p.lim ∧ (pass b p).1.breaker = p.breaker ∧ (pass b p).1.probe = p.probe ∧ (pass b p).1.up = p.up := by
 unfold pass
 cases p.waiters <;> exact ⟨rfl, rfl, rfl, rfl⟩
theorem give_lim (shut : Bool) (now b : Int) (p : Pool) (conn born : Int) (again : Bool) : (give shut now b p conn born again).1.lim = p.lim ∧ (give shut now b p conn born again).1.breaker = p.breaker ∧ (give shut now b p conn born again).1.probe = p.probe ∧ (give shut now b p conn born again).1.up = p.up := by
 unfold give
 split
 · exact pass_lim b p
 · cases p.waiters <;> exact ⟨rfl, rfl, rfl, rfl⟩
theorem quietOk_iff {s : State} {p : Pool} : quietOk s p = true ↔ (s.shut = true → p.waiters = [] ∧ p.idle = []) := by
 simp only [quietOk, Bool.or_eq_true, Bool.not_eq_true', Bool.and_eq_true, List.isEmpty_iff]
 cases s.shut <;> simp
theorem pass_quiet {b : Int} {p : Pool} (h : p.waiters = [] ∧ p.idle = []) : (pass b p).1.waiters = [] ∧ (pass b p).1.idle = [] := by
 unfold pass; rw [h.1]; exact h
theorem give_quiet {now b : Int} {p : Pool} {conn born : Int} {again : Bool} (h : p.waiters = [] ∧ p.idle = []) : (give true now b p conn born again).1.waiters = [] ∧ (give true now b p conn born again).1.idle = [] := by
 unfold give
 rw [if_pos (by simp)]
 exact pass_quiet h

/-- One backend is another one. -/
theorem good_set {s : State} {b : Nat} {p' : Pool} (hg : Good s) (hb : b < s.pools.length) (hr : rangeOk p' = true) (hk : poolOk p' s.now = true) (hq : quietOk s p' = true)
 (hc : ∀ R, (∀ n, n ∈ calls s ↔ n ∈ pcalls s.pools[b] ++ R) → numsOk (pcalls s.pools[b] ++ R) = true → numsOk (pcalls p' ++ R) = true)
 (hd : ∀ R, (∀ n, n ∈ conns s ↔ n ∈ pconns s.pools[b] ++ R) → numsOk (pconns s.pools[b] ++ R) = true → numsOk (pconns p' ++ R) = true) : Good { s with pools := s.pools.set b p' } := by
 have hmem : ∀ {P : Pool → Prop}, (∀ p ∈ s.pools, P p) → P p' → ∀ p ∈ s.pools.set b p', P p := by
  intro P h1 h2 p hp
  rcases List.mem_or_eq_of_mem_set hp with hp | rfl
  · exact h1 p hp
  · exact h2
 refine ⟨by simpa using hg.len1, by simpa using hg.len2, hg.now, hmem hg.rng hr, hmem hg.pool hk, hmem hg.quiet hq, ?_, ?_⟩
 · obtain ⟨R, h1, h2⟩ := flat_set (f := pcalls) hb
   exact numsOk_perm (h2 p').symm (hc R (fun n => h1.mem_iff) (numsOk_perm h1 hg.calls))
 · obtain ⟨R, h1, h2⟩ := flat_set (f := pconns) hb
   exact numsOk_perm (h2 p').symm (hd R (fun n => h1.mem_iff) (numsOk_perm h1 hg.conns))
theorem pool_calls {s : State} {b : Nat} (hg : Good s) (hb : b < s.pools.length) : numsOk (pcalls s.pools[b]) = true := by
 obtain ⟨R, h1, _⟩ := flat_set (f := pcalls) hb
 have := numsOk_perm h1 hg.calls
 have h3 := numsOk_sub (a := R) (a' := []) (d := R) (R := pcalls s.pools[b]) (by simp) (numsOk_perm List.perm_append_comm this)
 simpa using h3
theorem same_nums {a a' R : List Int} (h : a'.Perm a) (hl : numsOk (a ++ R) = true) : numsOk (a' ++ R) = true := numsOk_perm (h.symm.append_right R) hl

/-! ### the calls, one by one -/
theorem ask_good {s : State} {b : Nat} {c : Call} (hg : Good s) (hb : b < s.pools.length) (hc : 1 ≤ c.call) (hn : c.call ∉ calls s) (ht : isTime c.time = true) :
 Good { s with pools := s.pools.set b (ask s.shut s.now s.pools[b] c).1 } := by
 have hm := List.getElem_mem hb
 have hr := hg.rng _ hm
 have hp := hg.pool _ hm
 have hq := hg.quiet _ hm
 have hself : Good { s with pools := s.pools.set b s.pools[b] } := by rw [List.set_getElem_self]; exact hg
 revert hself hr hp hq
 generalize hP : s.pools[b] = p
 intro hr hp hq hself
 unfold ask
 split
 · exact hself
 · rename_i hs
   have hsf : s.shut = false := by simpa using hs
   split
   · exact hself
   · rename_i hct
     have hpp := hp
     rw [poolOk_iff, sizeOk_iff] at hp
     obtain ⟨⟨z1, z2, z3⟩, z4, z5, z6, z7, z8⟩ := hp
     have hcall : ∀ R : List Int, (∀ n, n ∈ calls s ↔ n ∈ pcalls p ++ R) → c.call ∉ pcalls p ++ R := fun R h hx => hn ((h _).2 hx)
     have hcp : c.call ∉ pcalls p := by
      obtain ⟨R, h1, _⟩ := flat_set (f := pcalls) hb
      rw [hP] at h1
      exact fun hx => hn (h1.mem_iff.2 (List.mem_append_left _ hx))
     have hcl : c.call ∉ p.leases.map (·.1) := fun h => hcp (by unfold pcalls; exact List.mem_append_left _ (List.mem_append_left _ h))
     have hcd : c.call ∉ p.dials.map (·.1) := fun h => hcp (by unfold pcalls; exact List.mem_append_left _ (List.mem_append_right _ h))
     have hqq : ∀ q : Pool, quietOk s q = true := fun q => quietOk_iff.2 (fun h => by rw [hsf] at h; cases h)
     cases hi : p.idle.getLast? with
     | some x =>
      have hne : p.idle ≠ [] := by intro e; rw [e] at hi; cases hi
      have hx : p.idle.getLast hne = x := by rw [List.getLast?_eq_some_getLast hne] at hi; exact Option.some.inj hi
      have hsplit : p.idle.dropLast ++ [x] = p.idle := by rw [← hx]; exact List.dropLast_concat_getLast hne
      have hll := (insLease_perm (c.call, x.1, x.2.1) p.leases).length_eq
      have hdl : p.idle.dropLast.length + 1 = p.idle.length := by have := congrArg List.length hsplit; simpa using this
      rw [idleOk_iff] at z4
      have hxm : x ∈ p.idle := by rw [← hsplit]; simp
      have hxi := z4.1 x hxm
      simp only [List.length_cons] at hll
      have hw : p.waiters = [] := by
       by_cases h : p.waiters = []
       · exact h
       · have := z3 h
         unfold used at this z1
         omega
      refine good_set hg hb hr ?_ (hqq _) (fun R h1 h2 => ?_) (fun R h1 h2 => ?_)
      · rw [poolOk_iff, sizeOk_iff]
        refine ⟨⟨?_, z2, fun h => absurd hw h⟩, ?_, insLease_ok z5 hc ⟨hxi.1, by show x.2.1 ≤ s.now; omega⟩ hcl, z6, z7, z8⟩
        · unfold used at z1 ⊢
          simp only
          rw [hll]; omega
        · simp only
          rw [idleOk_iff]
          exact ⟨fun y hy => z4.1 y (List.dropLast_subset _ hy), fun y hy => z4.2.1 y (List.dropLast_subset _ hy), z4.2.2.sublist (List.dropLast_sublist _)⟩
      · rw [hP] at h1 h2
        refine numsOk_add ?_ hc (hcall R h1) h2
        unfold pcalls
        have h3 : ((insLease (c.call, x.1, x.2.1) p.leases).map (·.1)).Perm (c.call :: p.leases.map (·.1)) := (insLease_perm _ _).map _
        exact (h3.append_right _).append_right _
      · rw [hP] at h2
        refine same_nums ?_ h2
        unfold pconns
        have h3 : ((insLease (c.call, x.1, x.2.1) p.leases).map (·.2.1)).Perm (x.1 :: p.leases.map (·.2.1)) := (insLease_perm _ _).map _
        refine (h3.append_right _).trans ?_
        have h4 : p.idle.map (·.1) = p.idle.dropLast.map (·.1) ++ [x.1] := by have h9 := congrArg (List.map (·.1)) hsplit; rw [List.map_append] at h9; exact h9.symm
        simp only
        rw [h4, List.cons_append, ← List.append_assoc]
        exact (List.perm_append_singleton _ _).symm
     | none =>
      have hie : p.idle = [] := List.getLast?_eq_none_iff.1 hi
      have hil : p.idle.length = 0 := by rw [hie]; rfl
      simp only
      split
      · rename_i hu
        have hll := (insDial_perm c.call p.dials).length_eq
        simp only [List.length_cons] at hll
        refine good_set hg hb hr ?_ (hqq _) (fun R h1 h2 => ?_) (fun R h1 h2 => ?_)
        · rw [poolOk_iff, sizeOk_iff]
          refine ⟨⟨?_, z2, fun h => ?_⟩, z4, z5, insDial_ok z6 hc hcd, z7, z8⟩
          · unfold used at z1 hu ⊢
            simp only
            rw [hll]; omega
          · have := z3 h
            unfold used at this hu ⊢
            simp only
            rw [hll]; omega
        · rw [hP] at h1 h2
          refine numsOk_add ?_ hc (hcall R h1) h2
          unfold pcalls
          have h3 : ((insDial c.call p.dials).map (·.1)).Perm (c.call :: p.dials.map (·.1)) := (insDial_perm _ _).map _
          refine ((h3.append_left (p.leases.map (·.1))).append_right _).trans ?_
          have h4 := List.perm_middle (a := c.call) (l₁ := p.leases.map (·.1)) (l₂ := p.dials.map (·.1))
          exact h4.append_right _
        · rw [hP] at h2; exact h2
      · rename_i hu
        split
        · rename_i hw
          obtain ⟨t1, t2⟩ := time_iff.1 ht
          refine good_set hg hb hr ?_ (hqq _) (fun R h1 h2 => ?_) (fun R h1 h2 => ?_)
          · rw [poolOk_iff, sizeOk_iff]
            refine ⟨⟨z1, ?_, fun _ => ?_⟩, z4, z5, z6, ?_, z8⟩
            · simp only [List.length_append, List.length_cons, List.length_nil]; omega
            · show p.lim.max ≤ (used p : Int); omega
            · simp only [waitersOk, List.all_append, Bool.and_eq_true]
              exact ⟨z7, by simp; omega⟩
          · rw [hP] at h1 h2
            refine numsOk_add ?_ hc (hcall R h1) h2
            unfold pcalls
            simp only [List.map_append, List.map_cons, List.map_nil]
            rw [← List.append_assoc]
            exact List.perm_append_singleton _ _
          · rw [hP] at h2; exact h2
        · exact hself
end Md
namespace Md

theorem quiet_free {s : State} {p : Pool} (h : quietOk s p = true) (hs : s.shut = true) : p.waiters = [] ∧ p.idle = [] := quietOk_iff.1 h hs
theorem hasDial_at {p : Pool} {c : Int} (h : hasDial p c = true) : ∃ hi : dialIx p c < p.dials.length, p.dials[dialIx p c].1 = c := by
 unfold hasDial at h
 have hi : dialIx p c < p.dials.length := List.findIdx_lt_length_of_exists (by simpa using h)
 refine ⟨hi, ?_⟩
 have := List.findIdx_getElem (p := fun x : Dial => x.1 == c) (xs := p.dials) (w := hi)
 unfold dialIx
 simpa using this
theorem hasLease_at {p : Pool} {c : Int} (h : hasLease p c = true) : ∃ hi : leaseIx p c < p.leases.length, p.leases[leaseIx p c].1 = c := by
 unfold hasLease at h
 have hi : leaseIx p c < p.leases.length := List.findIdx_lt_length_of_exists (by simpa using h)
 refine ⟨hi, ?_⟩
 have := List.findIdx_getElem (p := fun x : Lease => x.1 == c) (xs := p.leases) (w := hi)
 unfold leaseIx
 simpa using this
theorem hasWaiter_at {p : Pool} {c : Int} (h : hasWaiter p c = true) : ∃ hi : waiterIx p c < p.waiters.length, p.waiters[waiterIx p c].1 = c := by
 unfold hasWaiter at h
 have hi : waiterIx p c < p.waiters.length := List.findIdx_lt_length_of_exists (by simpa using h)
 refine ⟨hi, ?_⟩
 have := List.findIdx_getElem (p := fun x : Waiter => x.1 == c) (xs := p.waiters) (w := hi)
 unfold waiterIx
 simpa using this
theorem erase_perm {α : Type} : ∀ {l : List α} {i : Nat} (h : i < l.length), l.Perm (l[i] :: l.eraseIdx i)
 | [], _, h => by simp at h
 | x :: t, 0, _ => by simp
 | x :: t, i + 1, h => by
  have ih := erase_perm (l := t) (i := i) (by simpa using h)
  simp only [List.getElem_cons_succ, List.eraseIdx_cons_succ]
  exact (ih.cons x).trans (List.Perm.swap _ _ _)

/-- A dial is gone: a place is free. -/
theorem undial {p : Pool} {c now : Int} (hp : poolOk p now = true) (hd : hasDial p c = true) : Free1 { p with dials := p.dials.eraseIdx (dialIx p c) } now ∧ (pcalls p).Perm (c :: pcalls { p with dials := p.dials.eraseIdx (dialIx p c) }) := by
 obtain ⟨hi, hc⟩ := hasDial_at hd
 rw [poolOk_iff, sizeOk_iff] at hp
 obtain ⟨⟨z1, z2, z3⟩, z4, z5, z6, z7, z8⟩ := hp
 have hl := (erase_perm hi).length_eq
 simp only [List.length_cons] at hl
 refine ⟨⟨?_, z2, fun h => ?_, z4, z5, ?_, z7, z8⟩, ?_⟩
 · unfold used at z1 ⊢; simp only; omega
 · have := z3 h; unfold used at this ⊢; simp only; omega
 · rw [dialsOk_iff] at z6 ⊢
   exact ⟨fun x hx => z6.1 x (List.eraseIdx_subset hx), z6.2.sublist (List.eraseIdx_sublist _ _)⟩
 · unfold pcalls
   have h1 := (erase_perm hi).map (·.1)
   rw [List.map_cons, hc] at h1
   refine ((h1.append_left (p.leases.map (·.1))).append_right _).trans ?_
   exact (List.perm_middle (a := c) (l₁ := p.leases.map (·.1)) (l₂ := (p.dials.eraseIdx (dialIx p c)).map (·.1))).append_right _
theorem unlease {p : Pool} {c now : Int} (hp : poolOk p now = true) (hd : hasLease p c = true) : ∃ hi : leaseIx p c < p.leases.length, Free1 { p with leases := p.leases.eraseIdx (leaseIx p c) } now ∧
 (pcalls p).Perm (c :: pcalls { p with leases := p.leases.eraseIdx (leaseIx p c) }) ∧ (pconns p).Perm (p.leases[leaseIx p c].2.1 :: pconns { p with leases := p.leases.eraseIdx (leaseIx p c) }) ∧
 0 ≤ p.leases[leaseIx p c].2.2 ∧ p.leases[leaseIx p c].2.2 ≤ now := by
 obtain ⟨hi, hc⟩ := hasLease_at hd
 rw [poolOk_iff, sizeOk_iff] at hp
 obtain ⟨⟨z1, z2, z3⟩, z4, z5, z6, z7, z8⟩ := hp
 have hl := (erase_perm hi).length_eq
 simp only [List.length_cons] at hl
 have hb := (leasesOk_iff.1 z5).1 _ (List.getElem_mem hi)
 refine ⟨hi, ⟨?_, z2, fun h => ?_, z4, ?_, z6, z7, z8⟩, ?_, ?_, hb.1, hb.2⟩
 · unfold used at z1 ⊢; simp only; omega
 · have := z3 h; unfold used at this ⊢; simp only; omega
 · rw [leasesOk_iff] at z5 ⊢
   exact ⟨fun x hx => z5.1 x (List.eraseIdx_subset hx), fun x hx => z5.2.1 x (List.eraseIdx_subset hx), z5.2.2.sublist (List.eraseIdx_sublist _ _)⟩
 · unfold pcalls
   have h1 := (erase_perm hi).map (·.1)
   rw [List.map_cons, hc] at h1
   exact (h1.append_right _).append_right _
 · unfold pconns
   have h1 := (erase_perm hi).map (·.2.1)
   rw [List.map_cons] at h1
   exact h1.append_right _
theorem numsOk_tail {c : Int} {a R : List Int} (h : numsOk (c :: a ++ R) = true) : numsOk (a ++ R) = true ∧ 1 ≤ c ∧ c ∉ a ++ R := by
 rw [numsOk_iff] at h ⊢
 rw [List.cons_append] at h
 obtain ⟨h1, h2⟩ := List.nodup_cons.1 h.2
 exact ⟨⟨fun n hn => h.1 n (List.mem_cons_of_mem _ hn), h2⟩, h.1 c (by simp), h1⟩
theorem rangeOk_of {p q : Pool} (h : rangeOk p = true) (h1 : q.lim = p.lim) (h2 : q.breaker = p.breaker) : rangeOk q = true := by
 unfold rangeOk at h ⊢; rw [h1, h2]; exact h
theorem rangeOk_lim {p : Pool} (h : rangeOk p = true) : limOk p.lim = true := by
 simp only [rangeOk, Bool.and_eq_true] at h; exact h.1.1
theorem dialled_good {s : State} {b : Nat} {c : Call} (hg : Good s) (hb : b < s.pools.length) (hd : hasDial s.pools[b] c.call = true) (hy : c.yes = true → 1 ≤ c.conn ∧ c.conn ∉ conns s) :
 Good { s with pools := s.pools.set b (dialled s.shut s.now s.pools[b] c).1 } := by
 have hm := List.getElem_mem hb
 have hr := hg.rng _ hm
 have hp := hg.pool _ hm
 have hq := hg.quiet _ hm
 have hpc := pool_calls hg hb
 obtain ⟨hf, hperm⟩ := undial hp hd
 have hnow := hg.now
 have hlim := rangeOk_lim hr
 have hcall1 : numsOk (pcalls { s.pools[b] with dials := s.pools[b].dials.eraseIdx (dialIx s.pools[b] c.call) }) = true := by
  have := numsOk_perm hperm hpc
  have h2 := (numsOk_tail (R := []) (by simpa using this)).1
  simpa using h2
 have hconns : ∀ R : List Int, (∀ n, n ∈ conns s ↔ n ∈ pconns s.pools[b] ++ R) → c.yes = true → c.conn ∉ pconns s.pools[b] ++ R := fun R h hyy hx => (hy hyy).2 ((h _).2 hx)
 have hquiet : s.shut = true → s.pools[b].waiters = [] ∧ s.pools[b].idle = [] := quiet_free hq
 unfold dialled
 generalize hP1 : ({ s.pools[b] with dials := s.pools[b].dials.eraseIdx (dialIx s.pools[b] c.call) } : Pool) = p1 at hf hperm hcall1
 have e1 : p1.lim = s.pools[b].lim := by rw [← hP1]
 have e2 : p1.breaker = s.pools[b].breaker := by rw [← hP1]
 have e3 : p1.waiters = s.pools[b].waiters := by rw [← hP1]
 have e4 : p1.idle = s.pools[b].idle := by rw [← hP1]
 have e5 : pconns p1 = pconns s.pools[b] := by rw [← hP1]; rfl
 have e6 : p1.leases = s.pools[b].leases := by rw [← hP1]
 simp only
 split
 · -- not yes: pass
   obtain ⟨l1, l2, _⟩ := pass_lim c.backend p1
   refine good_set hg hb (rangeOk_of hr (l1.trans e1) (l2.trans e2)) (pass_ok hf hcall1) (quietOk_iff.2 fun h => pass_quiet (by rw [e3, e4]; exact hquiet h)) (fun R _ h2 => ?_) (fun R _ h2 => ?_)
   · exact same_nums (pass_calls _ _) (numsOk_tail (numsOk_perm (hperm.append_right R) h2)).1
   · rw [pass_conns, e5]; exact h2
 · rename_i hyn
   have hyy : c.yes = true := by simpa using hyn
   obtain ⟨hc1, _⟩ := hy hyy
   split
   · -- gone: given
     obtain ⟨l1, l2, _⟩ := give_lim s.shut s.now c.backend p1 c.conn s.now true
     have ht := time_iff.1 hnow
     refine good_set hg hb (rangeOk_of hr (l1.trans e1) (l2.trans e2)) (give_ok hf hcall1 ⟨ht.1, Int.le_refl _⟩ hnow (by rw [e1]; exact hlim)) (quietOk_iff.2 fun h => ?_) (fun R _ h2 => ?_) (fun R h1 h2 => ?_)
     · rw [h]; exact give_quiet (by rw [e3, e4]; exact hquiet h)
     · exact same_nums (give_calls ..) (numsOk_tail (numsOk_perm (hperm.append_right R) h2)).1
     · rcases give_conns s.shut s.now c.backend p1 c.conn s.now true with h | h
       · rw [e5] at h; exact same_nums h h2
       · rw [e5] at h; exact numsOk_add h hc1 (hconns R h1 hyy) h2
   · split
     · rename_i hs
       obtain ⟨w1, w2⟩ := hquiet hs
       refine good_set hg hb (rangeOk_of hr e1 e2) ?_ (quietOk_iff.2 fun _ => by rw [e3, e4]; exact ⟨w1, w2⟩) (fun R _ h2 => ?_) (fun R _ h2 => by rw [e5]; exact h2)
       · show poolOk p1 s.now = true
         rw [poolOk_iff, sizeOk_iff]
         exact ⟨⟨by have := hf.size; omega, hf.queue, fun h => absurd (e3.trans w1) h⟩, hf.idle, hf.leases, hf.dials, hf.waiters, hf.probe⟩
       · exact (numsOk_tail (numsOk_perm (hperm.append_right R) h2)).1
     · rename_i hs
       have ht := time_iff.1 hnow
       have hsf : s.shut = false := by simpa using hs
       have htl := numsOk_tail (R := []) (by simpa using numsOk_perm hperm hpc)
       have hcl : c.call ∉ p1.leases.map (·.1) := fun h => htl.2.2 (by rw [List.append_nil]; unfold pcalls; exact List.mem_append_left _ (List.mem_append_left _ h))
       have hll := (insLease_perm (c.call, c.conn, s.now) p1.leases).length_eq
       simp only [List.length_cons] at hll
       refine good_set hg hb (rangeOk_of hr e1 e2) ?_ (quietOk_iff.2 fun h => by rw [hsf] at h; cases h) (fun R _ h2 => ?_) (fun R h1 h2 => ?_)
       · rw [poolOk_iff, sizeOk_iff]
         refine ⟨⟨?_, hf.queue, fun h => ?_⟩, hf.idle, insLease_ok hf.leases htl.2.1 ⟨ht.1, Int.le_refl _⟩ hcl, hf.dials, hf.waiters, hf.probe⟩
         · have := hf.size; unfold used at this ⊢; simp only; rw [hll]; omega
         · have := hf.full h; unfold used at this ⊢; simp only; rw [hll]; omega
       · have h3 : (pcalls { p1 with leases := insLease (c.call, c.conn, s.now) p1.leases }).Perm (c.call :: pcalls p1) := by
          unfold pcalls
          have h3 : ((insLease (c.call, c.conn, s.now) p1.leases).map (·.1)).Perm (c.call :: p1.leases.map (·.1)) := (insLease_perm _ _).map _
          exact (h3.append_right _).append_right _
         exact numsOk_perm ((h3.trans hperm.symm).symm.append_right R) h2
       · have h3 : (pconns { p1 with leases := insLease (c.call, c.conn, s.now) p1.leases }).Perm (c.conn :: pconns p1) := by
          unfold pconns
          have h3 : ((insLease (c.call, c.conn, s.now) p1.leases).map (·.2.1)).Perm (c.conn :: p1.leases.map (·.2.1)) := (insLease_perm _ _).map _
          exact h3.append_right _
         rw [e5] at h3
         exact numsOk_add h3 hc1 (hconns R h1 hyy) h2
theorem free_good {s : State} {b : Nat} {c : Call} (hg : Good s) (hb : b < s.pools.length) (hd : hasLease s.pools[b] c.call = true) :
 Good { s with pools := s.pools.set b (free s.shut s.now s.pools[b] c).1 } := by
 have hm := List.getElem_mem hb
 have hr := hg.rng _ hm
 have hp := hg.pool _ hm
 have hq := hg.quiet _ hm
 have hpc := pool_calls hg hb
 obtain ⟨hi, hf, hperm, hpconn, hb1, hb2⟩ := unlease hp hd
 have hnow := hg.now
 have hlim := rangeOk_lim hr
 have hquiet : s.shut = true → s.pools[b].waiters = [] ∧ s.pools[b].idle = [] := quiet_free hq
 unfold free
 rw [List.getElem?_eq_getElem hi]
 simp only
 generalize s.pools[b].leases[leaseIx s.pools[b] c.call] = x at hpconn hb1 hb2
 generalize hP1 : ({ s.pools[b] with leases := s.pools[b].leases.eraseIdx (leaseIx s.pools[b] c.call) } : Pool) = p1 at hf hperm hpconn
 have e1 : p1.lim = s.pools[b].lim := by rw [← hP1]
 have e2 : p1.breaker = s.pools[b].breaker := by rw [← hP1]
 have e3 : p1.waiters = s.pools[b].waiters := by rw [← hP1]
 have e4 : p1.idle = s.pools[b].idle := by rw [← hP1]
 have hcall1 : numsOk (pcalls p1) = true := by
  have h2 := (numsOk_tail (R := []) (by simpa using numsOk_perm hperm hpc)).1
  simpa using h2
 obtain ⟨l1, l2, _⟩ := give_lim s.shut s.now c.backend p1 x.2.1 x.2.2 c.yes
 refine good_set hg hb (rangeOk_of hr (l1.trans e1) (l2.trans e2)) (give_ok hf hcall1 ⟨hb1, hb2⟩ hnow (by rw [e1]; exact hlim)) (quietOk_iff.2 fun h => ?_) (fun R _ h2 => ?_) (fun R _ h2 => ?_)
 · rw [h]; exact give_quiet (by rw [e3, e4]; exact hquiet h)
 · exact same_nums (give_calls ..) (numsOk_tail (numsOk_perm (hperm.append_right R) h2)).1
 · have h3 := numsOk_perm (hpconn.append_right R) h2
   rcases give_conns s.shut s.now c.backend p1 x.2.1 x.2.2 c.yes with h | h
   · exact same_nums h (numsOk_tail h3).1
   · exact numsOk_perm (h.symm.append_right R) h3
theorem keys_ok : ∀ {l m : List Dial} {last : Int}, l.map (·.1) = m.map (·.1) → dialsOk last l = dialsOk last m
 | [], [], _, _ => rfl
 | [], _ :: _, _, h => by simp at h
 | _ :: _, [], _, h => by simp at h
 | x :: l, y :: m, last, h => by
  simp only [List.map_cons, List.cons.injEq] at h
  simp only [dialsOk, h.1, keys_ok h.2]
theorem modify_keys {f : Dial → Dial} (hf : ∀ x, (f x).1 = x.1) : ∀ (l : List Dial) (i : Nat), (l.modify i f).map (·.1) = l.map (·.1)
 | [], i => by simp
 | x :: l, 0 => by simp [hf]
 | x :: l, i + 1 => by simp [modify_keys hf l i]
theorem cancel_good {s : State} {b : Nat} {c : Call} (hg : Good s) (hb : b < s.pools.length) (hd : hasDial s.pools[b] c.call = true ∨ hasWaiter s.pools[b] c.call = true) :
 Good { s with pools := s.pools.set b (cancel s.pools[b] c) } := by
 have hm := List.getElem_mem hb
 have hr := hg.rng _ hm
 have hp := hg.pool _ hm
 have hq := hg.quiet _ hm
 have hpp := hp
 rw [poolOk_iff, sizeOk_iff] at hp
 obtain ⟨⟨z1, z2, z3⟩, z4, z5, z6, z7, z8⟩ := hp
 unfold cancel
 split
 · have hk := modify_keys (f := fun x : Dial => (x.1, true)) (fun _ => rfl) s.pools[b].dials (dialIx s.pools[b] c.call)
   have hl : (s.pools[b].dials.modify (dialIx s.pools[b] c.call) fun x => (x.1, true)).length = s.pools[b].dials.length := by simp
   refine good_set hg hb hr ?_ (quietOk_iff.2 fun h => quiet_free hq h) (fun R _ h2 => ?_) (fun R _ h2 => h2)
   · rw [poolOk_iff, sizeOk_iff]
     refine ⟨⟨?_, z2, fun h => ?_⟩, z4, z5, ?_, z7, z8⟩
     · unfold used at z1 ⊢; simp only; rw [hl]; exact z1
     · have := z3 h; unfold used at this ⊢; simp only; rw [hl]; exact this
     · exact (keys_ok hk).trans z6
   · unfold pcalls at h2 ⊢
     simp only
     rw [hk]; exact h2
 · rename_i hnd
   have hw := hd.resolve_left hnd
   obtain ⟨hi, hc⟩ := hasWaiter_at hw
   have hl := (erase_perm hi).length_eq
   simp only [List.length_cons] at hl
   refine good_set hg hb hr ?_ (quietOk_iff.2 fun h => ?_) (fun R _ h2 => ?_) (fun R _ h2 => h2)
   · rw [poolOk_iff, sizeOk_iff]
     refine ⟨⟨z1, by simp only; omega, fun h => z3 (fun e => ?_)⟩, z4, z5, z6, ?_, z8⟩
     · rw [e] at hi; simp at hi
     · unfold waitersOk at z7 ⊢
       rw [List.all_eq_true] at z7 ⊢
       exact fun x hx => z7 x (List.eraseIdx_subset hx)
   · obtain ⟨w1, w2⟩ := quiet_free hq h
     exact ⟨by simp only; rw [w1]; simp, w2⟩
   · have h1 := (erase_perm hi).map (·.1)
     rw [List.map_cons, hc] at h1
     have hperm : (pcalls s.pools[b]).Perm (c.call :: pcalls { s.pools[b] with waiters := s.pools[b].waiters.eraseIdx (waiterIx s.pools[b] c.call) }) := by
      unfold pcalls
      refine (h1.append_left _).trans ?_
      exact List.perm_middle
     exact (numsOk_tail (numsOk_perm (hperm.append_right R) h2)).1
theorem leave_good {s : State} {now : Int} {shut : Bool} (hg : Good s) (hn : s.now ≤ now) (ht : isTime now = true) : Good ⟨now, shut, s.pools.map (leaveQ shut now)⟩ := by
 have hmem : ∀ p ∈ s.pools.map (leaveQ shut now), ∃ q ∈ s.pools, p = leaveQ shut now q := fun p hp => by
  obtain ⟨q, hq, rfl⟩ := List.mem_map.1 hp; exact ⟨q, hq, rfl⟩
 have hsub : ∀ {f : Pool → List Int} (l : List Pool), (∀ p, (f (leaveQ shut now p)).Sublist (f p)) → ((l.map (leaveQ shut now)).flatMap f).Sublist (l.flatMap f) := by
  intro f l h
  induction l with
  | nil => exact List.Sublist.refl _
  | cons a t ih => simp only [List.map_cons, List.flatMap_cons]; exact (h a).append ih
 have hnums : ∀ {l m : List Int}, l.Sublist m → numsOk m = true → numsOk l = true := by
  intro l m h hm
  rw [numsOk_iff] at hm ⊢
  exact ⟨fun n hn => hm.1 n (h.subset hn), hm.2.sublist h⟩
 refine ⟨by simpa using hg.len1, by simpa using hg.len2, ht, fun p hp => ?_, fun p hp => ?_, fun p hp => ?_, ?_, ?_⟩
 · obtain ⟨q, hq, rfl⟩ := hmem p hp
   exact hg.rng q hq
 · obtain ⟨q, hq, rfl⟩ := hmem p hp
   have hk := hg.pool q hq
   rw [poolOk_iff, sizeOk_iff] at hk
   obtain ⟨⟨z1, z2, z3⟩, z4, z5, z6, z7, z8⟩ := hk
   rw [idleOk_iff] at z4
   rw [leasesOk_iff] at z5
   have w1 : (q.waiters.filter (stays shut now)).length ≤ q.waiters.length := List.length_filter_le _ _
   have w2 : (q.idle.filter (fun c => !shut && young q.lim c now)).length ≤ q.idle.length := List.length_filter_le _ _
   rw [poolOk_iff, sizeOk_iff]
   unfold leaveQ
   refine ⟨⟨?_, by simp only; omega, fun h => z3 (fun e => h (by simp only; rw [e]; rfl))⟩, ?_, ?_, z6, ?_, z8⟩
   · unfold used at z1 ⊢; simp only; omega
   · simp only
     rw [idleOk_iff]
     refine ⟨fun x hx => ?_, fun x hx => z4.2.1 x (List.mem_filter.1 hx).1, z4.2.2.sublist List.filter_sublist⟩
     obtain ⟨m1, m2⟩ := List.mem_filter.1 hx
     obtain ⟨a1, a2, a3, _⟩ := z4.1 x m1
     simp only [Bool.and_eq_true] at m2
     exact ⟨a1, a2, by omega, m2.2⟩
   · simp only
     rw [leasesOk_iff]
     exact ⟨fun x hx => by have := z5.1 x hx; omega, z5.2⟩
   · simp only
     unfold waitersOk at z7 ⊢
     rw [List.all_eq_true] at z7 ⊢
     intro x hx
     obtain ⟨m1, m2⟩ := List.mem_filter.1 hx
     have := z7 x m1
     simp only [stays, Bool.and_eq_true, decide_eq_true_eq] at m2 this ⊢
     exact ⟨m2.2, this.2⟩
 · obtain ⟨q, hq, rfl⟩ := hmem p hp
   rw [quietOk_iff]
   intro h
   have hs : shut = true := h
   subst hs
   unfold leaveQ stays
   simp
 · refine hnums (hsub s.pools fun p => ?_) hg.calls
   unfold pcalls leaveQ
   exact (List.Sublist.refl _).append (List.filter_sublist.map _)
 · refine hnums (hsub s.pools fun p => ?_) hg.conns
   unfold pconns leaveQ
   exact (List.Sublist.refl _).append (List.filter_sublist.map _)
theorem plain_good {s : State} {b : Nat} {p' : Pool} (hg : Good s) (hb : b < s.pools.length) (h1 : p'.lim = s.pools[b].lim) (h2 : p'.idle = s.pools[b].idle) (h3 : p'.leases = s.pools[b].leases) (h4 : p'.dials = s.pools[b].dials)
 (h5 : p'.waiters = s.pools[b].waiters) (h6 : 0 ≤ p'.breaker ∧ p'.breaker ≤ 2) (h7 : probeOk p' = true) : Good { s with pools := s.pools.set b p' } := by
 have hm := List.getElem_mem hb
 have hr := hg.rng _ hm
 have hp := hg.pool _ hm
 have hq := hg.quiet _ hm
 rw [poolOk_iff, sizeOk_iff] at hp
 obtain ⟨⟨z1, z2, z3⟩, z4, z5, z6, z7, z8⟩ := hp
 refine good_set hg hb ?_ ?_ (quietOk_iff.2 fun h => by rw [h5, h2]; exact quiet_free hq h) (fun R _ hx => ?_) (fun R _ hx => ?_)
 · simp only [rangeOk, Bool.and_eq_true, decide_eq_true_eq] at hr ⊢
   exact ⟨⟨by rw [h1]; exact hr.1.1, h6.1⟩, h6.2⟩
 · rw [poolOk_iff, sizeOk_iff]
   unfold used at z1 z3 ⊢
   rw [h1, h2, h3, h4, h5]
   exact ⟨⟨z1, z2, z3⟩, z4, z5, z6, z7, h7⟩
 · unfold pcalls at hx ⊢; rw [h3, h4, h5]; exact hx
 · unfold pconns at hx ⊢; rw [h3, h2]; exact hx
/-- WHAT OUTCOMES RETURNS ARE STATES. -/
theorem act_good {s : State} {c : Call} (hg : Good s) (hw : wrong s c = 0) : ∀ o ∈ act s c, Good o.next := by
 have hbf : badFields s c = false := by
  cases h : badFields s c with
  | false => rfl
  | true => unfold wrong at hw; rw [h] at hw; simp at hw
 have hw' := hw
 unfold wrong at hw'
 rw [hbf, if_neg (by simp)] at hw'
 unfold badFields at hbf
 simp only [Bool.or_eq_false_iff, decide_eq_false_iff_not] at hbf
 obtain ⟨⟨⟨⟨⟨⟨⟨k1, k2⟩, b1⟩, b2⟩, b3⟩, b4⟩, b5⟩, b6⟩ := hbf
 have hbk : (uses c.kind).1 = true → ∃ hb : c.backend.toNat < s.pools.length, pool s c.backend = s.pools[c.backend.toNat] := by
  intro h
  rw [h, Bool.true_and, Bool.or_eq_false_iff, decide_eq_false_iff_not, decide_eq_false_iff_not] at b1
  have hb : c.backend.toNat < s.pools.length := by omega
  exact ⟨hb, by unfold pool; rw [List.getD_eq_getElem?_getD, List.getElem?_eq_getElem hb]; rfl⟩
 have hone : ∀ {a : Outcome} {P : Outcome → Prop}, P a → ∀ o ∈ [a], P o := by
  intro a P h o ho; simp at ho; subst ho; exact h
 intro o ho
 unfold act at ho
 simp only at ho
 split at ho
 · rename_i hk
   obtain ⟨hb, hpl⟩ := hbk (by rw [hk]; rfl)
   rw [if_pos hk] at hw'
   have hcn : c.call ∉ calls s := by
    intro hx
    have : (calls s).contains c.call = true := List.contains_iff_mem.2 hx
    rw [this] at hw'; simp at hw'
   have hu : (uses c.kind).2.1 = true ∧ (uses c.kind).2.2.2.1 = true := by rw [hk]; exact ⟨rfl, rfl⟩
   rw [hu.1, Bool.true_and, decide_eq_false_iff_not] at b2
   rw [hu.2, Bool.true_and, Bool.not_eq_false'] at b4
   refine hone (P := fun o => Good o.next) ?_ o ho
   rw [hpl]
   exact ask_good hg hb (by omega) hcn b4
 · split at ho
   · rename_i hk1 hk
     obtain ⟨hb, hpl⟩ := hbk (by rw [hk]; rfl)
     rw [if_neg hk1, if_pos hk, hpl] at hw'
     have hd : hasDial s.pools[c.backend.toNat] c.call = true := by
      cases h : hasDial s.pools[c.backend.toNat] c.call with
      | true => rfl
      | false => rw [h] at hw'; simp at hw'
     have hu : (uses c.kind).2.2.1 = true := by rw [hk]; rfl
     refine hone (P := fun o => Good o.next) ?_ o ho
     rw [hpl]
     refine dialled_good hg hb hd (fun hy => ?_)
     rw [hu, hy, Bool.true_and, Bool.true_and, decide_eq_false_iff_not] at b3
     refine ⟨by omega, fun hx => ?_⟩
     have : (conns s).contains c.conn = true := List.contains_iff_mem.2 hx
     rw [hd, hy, this] at hw'; simp at hw'
   · split at ho
     · rename_i hk1 hk2 hk
       obtain ⟨hb, hpl⟩ := hbk (by rw [hk]; rfl)
       rw [if_neg hk1, if_neg hk2, if_pos hk, hpl] at hw'
       have hd : hasLease s.pools[c.backend.toNat] c.call = true := by
        cases h : hasLease s.pools[c.backend.toNat] c.call with
        | true => rfl
        | false => rw [h] at hw'; simp at hw'
       refine hone (P := fun o => Good o.next) ?_ o ho
       rw [hpl]
       exact free_good hg hb hd
     · split at ho
       · rename_i hk1 hk2 hk3 hk
         obtain ⟨hb, hpl⟩ := hbk (by rw [hk]; rfl)
         rw [if_neg hk1, if_neg hk2, if_neg hk3, if_pos hk, hpl] at hw'
         refine hone (P := fun o => Good o.next) ?_ o ho
         rw [hpl]
         refine cancel_good hg hb ?_
         cases h1 : hasDial s.pools[c.backend.toNat] c.call with
         | true => exact .inl rfl
         | false =>
          refine .inr ?_
          cases h2 : hasWaiter s.pools[c.backend.toNat] c.call with
          | true => rfl
          | false =>
           rw [h1, h2] at hw'
           split at hw' <;> simp at hw'
       · split at ho
         · rename_i hk1 hk2 hk3 hk4 hk
           rw [if_neg hk1, if_neg hk2, if_neg hk3, if_neg hk4, if_pos hk] at hw'
           have hu : (uses c.kind).2.2.2.1 = true := by rw [hk]; rfl
           rw [hu, Bool.true_and, Bool.not_eq_false'] at b4
           refine hone (P := fun o => Good o.next) ?_ o ho
           exact leave_good (s := s) (now := c.time) (shut := s.shut) hg (by split at hw' <;> omega) b4
         · split at ho
           · refine hone (P := fun o => Good o.next) ?_ o ho
             exact leave_good (s := s) (now := s.now) (shut := true) hg (Int.le_refl _) hg.now
           · split at ho
             · rename_i hk1 hk2 hk3 hk4 hk5 hk6 hk
               have hu : (uses c.kind).2.1 = true := by rw [hk]; rfl
               rw [hu, Bool.true_and, decide_eq_false_iff_not] at b2
               unfold picks at ho
               split at ho
               · exact hone (P := fun o => Good o.next) hg o ho
               · simp only at ho
                 split at ho
                 · exact hone (P := fun o => Good o.next) hg o ho
                 · obtain ⟨x, hx, rfl⟩ := List.mem_map.1 ho
                   obtain ⟨hx1, hx2⟩ := List.mem_filter.1 hx
                   obtain ⟨q, i⟩ := x
                   obtain ⟨hi, hq⟩ := List.mk_mem_zipIdx_iff_getElem?.1 hx1 |> (fun h => List.getElem?_eq_some_iff.1 h)
                   subst hq
                   have hr := hg.rng _ (List.getElem_mem hi)
                   have hp := hg.pool _ (List.getElem_mem hi)
                   rw [poolOk_iff] at hp
                   simp only [rangeOk, Bool.and_eq_true, decide_eq_true_eq] at hr
                   unfold pickP
                   show Good { s with pools := s.pools.set i _ }
                   split
                   · rename_i hbr
                     refine plain_good hg hi rfl rfl rfl rfl rfl ⟨hr.1.2, hr.2⟩ ?_
                     simp only [probeOk]
                     rw [hbr]
                     have : decide (0 < c.call) = true := by simp; omega
                     rw [this]; simp
                   · exact plain_good hg hi rfl rfl rfl rfl rfl ⟨hr.1.2, hr.2⟩ hp.2.2.2.2.2
             · have hlast : ∀ (hk : (uses c.kind).1 = true) (p' : Pool → Pool), (∀ p : Pool, (p' p).lim = p.lim ∧ (p' p).idle = p.idle ∧ (p' p).leases = p.leases ∧ (p' p).dials = p.dials ∧ (p' p).waiters = p.waiters) →
                (∀ p : Pool, rangeOk p = true → probeOk p = true → (0 ≤ (p' p).breaker ∧ (p' p).breaker ≤ 2) ∧ probeOk (p' p) = true) → Good (setPool s c.backend (p' (pool s c.backend))) := by
                intro hk p' h1 h2
                obtain ⟨hb, hpl⟩ := hbk hk
                rw [hpl]
                have hr := hg.rng _ (List.getElem_mem hb)
                have hp := hg.pool _ (List.getElem_mem hb)
                rw [poolOk_iff] at hp
                obtain ⟨a1, a2, a3, a4, a5⟩ := h1 s.pools[c.backend.toNat]
                obtain ⟨a6, a7⟩ := h2 _ hr hp.2.2.2.2.2
                exact plain_good hg hb a1 a2 a3 a4 a5 a6 a7
               split at ho
               · rename_i hk
                 refine hone (P := fun o => Good o.next) ?_ o ho
                 refine hlast (by rw [hk]; rfl) (fun p => report p c) (fun p => ?_) (fun p hr hp => ?_)
                 · unfold report; split <;> exact ⟨rfl, rfl, rfl, rfl, rfl⟩
                 · simp only [rangeOk, Bool.and_eq_true, decide_eq_true_eq] at hr
                   unfold report
                   split
                   · refine ⟨?_, by simp [probeOk]⟩
                     simp only; split <;> omega
                   · exact ⟨⟨hr.1.2, hr.2⟩, hp⟩
               · split at ho
                 · rename_i hk
                   refine hone (P := fun o => Good o.next) ?_ o ho
                   refine hlast (by rw [hk]; rfl) (fun p => { p with up := c.yes }) (fun p => ⟨rfl, rfl, rfl, rfl, rfl⟩) (fun p hr hp => ?_)
                   simp only [rangeOk, Bool.and_eq_true, decide_eq_true_eq] at hr
                   exact ⟨⟨hr.1.2, hr.2⟩, hp⟩
                 · rename_i n1 n2 n3 n4 n5 n6 n7 n8 n9
                   have hk : c.kind = 10 := by omega
                   have hu : (uses c.kind).2.2.2.2.2 = true := by rw [hk]; rfl
                   rw [hu, Bool.true_and, Bool.or_eq_false_iff, decide_eq_false_iff_not, decide_eq_false_iff_not] at b6
                   refine hone (P := fun o => Good o.next) ?_ o ho
                   exact hlast (by rw [hk]; rfl) (fun p => { p with breaker := c.breaker, probe := 0 }) (fun p => ⟨rfl, rfl, rfl, rfl, rfl⟩) (fun p hr hp => ⟨⟨by simp only; omega, by simp only; omega⟩, by simp [probeOk]⟩)
end Md
