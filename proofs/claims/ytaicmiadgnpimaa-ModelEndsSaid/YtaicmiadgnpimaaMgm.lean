/-
  Plain laws for layer 26 (model): what the statements without the reference ask of outcomes. No program in this text.
-/
import Derived.Test.YtaicmiadgnpimaaMgo
namespace Md

theorem outcomes_ok {s : State} {c : Call} (h : (outcomes s c).2 = 0) : check s = 0 ∧ wrong s c = 0 ∧ (outcomes s c).1 = act s c := by
 unfold outcomes at h ⊢
 split at h
 · rename_i h1; exact absurd h h1
 · rename_i h1
   rw [if_neg h1]
   split at h
   · rename_i h2; exact absurd h h2
   · rename_i h2
     rw [if_neg h2]
     exact ⟨by simpa using h1, by simpa using h2, rfl⟩
/-- P26.8: a call without an error has an outcome. -/
theorem act_ne (s : State) (c : Call) : act s c ≠ [] := by
 unfold act
 simp only
 repeat' split
 all_goals try simp
 unfold picks
 split
 · simp
 · simp only
   split
   · simp
   · rename_i h
     intro e
     rw [List.map_eq_nil_iff] at e
     rw [e] at h
     simp at h
theorem new_good {l : List Lim} (h : (new l).2 = 0) : check (new l).1 = 0 ∧ (new l).1.pools.length = l.length ∧ (new l).1.pools.map (·.lim) = l := by
 unfold new at h ⊢
 split at h
 · cases h
 · rename_i h1
   split at h
   · rename_i h2
     rw [if_neg h1, if_pos h2]
     refine ⟨check_ok.2 ⟨by simp; omega, by simp; omega, rfl, fun p hp => ?_, fun p hp => ?_, fun p hp => ?_, ?_, ?_⟩, by simp, ?_⟩
     · obtain ⟨x, hx, rfl⟩ := List.mem_map.1 hp
       have := List.all_eq_true.1 h2 x hx
       simp [rangeOk, fresh, this]
     · obtain ⟨x, hx, rfl⟩ := List.mem_map.1 hp
       have := List.all_eq_true.1 h2 x hx
       simp only [limOk, Bool.and_eq_true, decide_eq_true_eq] at this
       rw [poolOk_iff, sizeOk_iff]
       refine ⟨⟨?_, ?_, fun hx => absurd rfl hx⟩, rfl, rfl, rfl, rfl, rfl⟩
       · simp [used, fresh]; omega
       · simp [fresh]; omega
     · obtain ⟨x, hx, rfl⟩ := List.mem_map.1 hp
       rfl
     · have : calls { now := 0, shut := false, pools := l.map fresh } = [] := by
        unfold calls
        rw [List.flatMap_eq_nil_iff]
        intro p hp
        obtain ⟨x, hx, rfl⟩ := List.mem_map.1 hp
        rfl
       rw [this]; rfl
     · have : conns { now := 0, shut := false, pools := l.map fresh } = [] := by
        unfold conns
        rw [List.flatMap_eq_nil_iff]
        intro p hp
        obtain ⟨x, hx, rfl⟩ := List.mem_map.1 hp
        rfl
       rw [this]; rfl
     · rw [List.map_map]
       exact (List.map_congr_left (fun x _ => rfl)).trans (List.map_id _)
   · cases h

/-! ### limits and time -/
end Md
namespace Md

theorem good_limits {s : State} (h : Good s) {b : Nat} (hb : b < s.pools.length) : ((used s.pools[b] + s.pools[b].idle.length : Nat) : Int) ≤ s.pools[b].lim.max ∧ (s.pools[b].waiters.length : Int) ≤ s.pools[b].lim.queue ∧
 (s.pools[b].waiters ≠ [] → s.pools[b].lim.max ≤ (used s.pools[b] : Int) ∧ s.pools[b].idle = []) := by
 have hp := h.pool _ (List.getElem_mem hb)
 rw [poolOk_iff, sizeOk_iff] at hp
 obtain ⟨⟨z1, z2, z3⟩, _⟩ := hp
 refine ⟨z1, z2, fun hw => ⟨z3 hw, ?_⟩⟩
 have := z3 hw
 exact List.eq_nil_of_length_eq_zero (by omega)
theorem backend_ok {s : State} {c : Call} (hw : wrong s c = 0) (hu : (uses c.kind).1 = true) : ∃ hb : c.backend.toNat < s.pools.length, 0 ≤ c.backend ∧ pool s c.backend = s.pools[c.backend.toNat] := by
 have hbf : badFields s c = false := by
  cases h : badFields s c with
  | false => rfl
  | true => unfold wrong at hw; rw [h] at hw; simp at hw
 unfold badFields at hbf
 simp only [Bool.or_eq_false_iff, decide_eq_false_iff_not] at hbf
 obtain ⟨⟨⟨⟨⟨⟨⟨k1, k2⟩, b1⟩, _⟩, _⟩, _⟩, _⟩, _⟩ := hbf
 rw [hu, Bool.true_and, Bool.or_eq_false_iff, decide_eq_false_iff_not, decide_eq_false_iff_not] at b1
 have hb : c.backend.toNat < s.pools.length := by omega
 exact ⟨hb, by omega, by unfold pool; rw [List.getD_eq_getElem?_getD, List.getElem?_eq_getElem hb]; rfl⟩
/-! ### breakers and probes -/
end Md
namespace Md

def closedOf (l : List Effect) : List Int := (l.filter (fun e => e.1 == 11)).map (·.2.2.2)
theorem closedOf_app (l m : List Effect) : closedOf (l ++ m) = closedOf l ++ closedOf m := by simp [closedOf]
theorem pass_closed (b : Int) (p : Pool) : closedOf (pass b p).2 = [] := by
 unfold pass
 cases p.waiters <;> simp [closedOf]
theorem give_closed (shut : Bool) (now b : Int) (p : Pool) (conn born : Int) (again : Bool) : (conn :: pconns p).Perm (pconns (give shut now b p conn born again).1 ++ closedOf (give shut now b p conn born again).2) := by
 unfold give
 split
 · simp only
   have h : closedOf ((11, b, 0, conn) :: (pass b p).2) = [conn] := by
    have := pass_closed b p
    unfold closedOf at this ⊢
    simp only [List.filter_cons, beq_self_eq_true, if_true, List.map_cons, this]
   rw [h, pass_conns]
   exact (List.perm_append_singleton conn (pconns p)).symm
 · cases hw : p.waiters with
   | nil =>
    have h : closedOf ([] : List Effect) = [] := rfl
    simp only
    rw [h, List.append_nil]
    unfold pconns
    simp only [List.map_append, List.map_cons, List.map_nil]
    rw [← List.append_assoc]
    exact (List.perm_append_singleton _ _).symm
   | cons w ws =>
    have h : closedOf [((1 : Int), b, w.1, conn)] = [] := by simp [closedOf]
    simp only
    rw [h, List.append_nil]
    unfold pconns
    have h1 : ((insLease (w.1, conn, born) p.leases).map (·.2.1)).Perm (conn :: p.leases.map (·.2.1)) := (insLease_perm _ _).map _
    exact (h1.append_right _).symm
theorem dialled_closed (shut : Bool) (now : Int) (p : Pool) (c : Call) : ((if c.yes then [c.conn] else []) ++ pconns p).Perm (pconns (dialled shut now p c).1 ++ closedOf (dialled shut now p c).2.1) := by
 unfold dialled
 simp only
 have hp1 : pconns p = pconns { p with dials := p.dials.eraseIdx (dialIx p c.call) } := rfl
 cases hy : c.yes with
 | false =>
  simp only [Bool.not_false, if_true, Bool.false_eq_true, if_false, List.nil_append]
  rw [pass_closed, pass_conns, List.append_nil, hp1]
 | true =>
  simp only [Bool.not_true, Bool.false_eq_true, if_false, if_true, List.singleton_append]
  split
  · rw [hp1]; exact give_closed ..
  · split
    · have h : closedOf [((11 : Int), c.backend, (0 : Int), c.conn)] = [c.conn] := by simp [closedOf]
      simp only
      rw [h, hp1]
      exact (List.perm_append_singleton _ _).symm
    · have h : closedOf ([] : List Effect) = [] := rfl
      simp only
      rw [h, List.append_nil]
      unfold pconns
      have h1 : ((insLease (c.call, c.conn, now) p.leases).map (·.2.1)).Perm (c.conn :: p.leases.map (·.2.1)) := (insLease_perm _ _).map _
      exact (h1.append_right _).symm
theorem free_closed (shut : Bool) (now : Int) (p : Pool) (c : Call) : (pconns p).Perm (pconns (free shut now p c).1 ++ closedOf (free shut now p c).2) := by
 unfold free
 split
 · have h : closedOf ([] : List Effect) = [] := rfl
   simp only
   rw [h, List.append_nil]
 · rename_i x hx
   obtain ⟨hi, he⟩ := List.getElem?_eq_some_iff.1 hx
   have h1 := (erase_perm hi).map (·.2.1)
   rw [List.map_cons, he] at h1
   have h2 : (pconns p).Perm (x.2.1 :: pconns { p with leases := p.leases.eraseIdx (leaseIx p c.call) }) := by
    unfold pconns
    exact h1.append_right _
   exact h2.trans (give_closed ..)
theorem part_perm {α : Type} (q : α → Bool) : ∀ l : List α, l.Perm (l.filter q ++ l.filter (fun x => !q x))
 | [] => List.Perm.refl _
 | a :: t => by
  have ih := part_perm q t
  cases h : q a with
  | true => simp only [List.filter_cons, h, if_true, Bool.not_true, Bool.false_eq_true, if_false, List.cons_append]; exact ih.cons a
  | false =>
   simp only [List.filter_cons, h, if_true, Bool.not_false, Bool.false_eq_true, if_false]
   exact (ih.cons a).trans List.perm_middle.symm
theorem leave_closed1 {k : Int} (hk : k ≠ 11) (shut : Bool) (now : Int) (x : Pool × Nat) : (pconns x.1).Perm (pconns (leaveQ shut now x.1) ++ closedOf (leaveE k shut now x)) := by
 have h : closedOf (leaveE k shut now x) = (x.1.idle.filter (fun c => !(!shut && young x.1.lim c now))).map (·.1) := by
  unfold leaveE
  rw [closedOf_app]
  have h1 : closedOf ((x.1.waiters.filter fun w => !stays shut now w).map fun w => ((k, (x.2 : Int), w.1, (0 : Int)) : Effect)) = [] := by
   unfold closedOf
   rw [List.map_eq_nil_iff, List.filter_eq_nil_iff]
   intro e he
   obtain ⟨w, _, rfl⟩ := List.mem_map.1 he
   simpa using hk
  rw [h1, List.nil_append]
  unfold closedOf
  rw [List.filter_eq_self.2 (fun e he => by obtain ⟨w, _, rfl⟩ := List.mem_map.1 he; rfl), List.map_map]
  rfl
 rw [h]
 unfold pconns leaveQ
 simp only
 rw [List.append_assoc]
 refine List.Perm.append_left _ ?_
 have hp := (part_perm (fun c => !shut && young x.1.lim c now) x.1.idle).map (·.1)
 rwa [List.map_append] at hp
theorem leave_closed {k : Int} (hk : k ≠ 11) (shut : Bool) (now : Int) : ∀ (l : List Pool) (n : Nat), (l.flatMap pconns).Perm ((l.map (leaveQ shut now)).flatMap pconns ++ closedOf ((l.zipIdx n).flatMap (leaveE k shut now)))
 | [], _ => List.Perm.refl _
 | p :: t, n => by
  have ih := leave_closed hk shut now t (n + 1)
  have h1 := leave_closed1 hk shut now (p, n)
  simp only [List.zipIdx_cons, List.flatMap_cons, List.map_cons, closedOf_app]
  refine (h1.append ih).trans ?_
  simp only [List.append_assoc]
  refine List.Perm.append_left _ ?_
  rw [← List.append_assoc, ← List.append_assoc]
  exact List.perm_append_comm.append_right _
theorem set_closed {s : State} {b : Nat} {p' : Pool} {d cl : List Int} (hb : b < s.pools.length) (h : (d ++ pconns s.pools[b]).Perm (pconns p' ++ cl)) : (d ++ conns s).Perm (conns { s with pools := s.pools.set b p' } ++ cl) := by
 obtain ⟨R, h1, h2⟩ := flat_set (f := pconns) hb
 have e1 : (d ++ conns s).Perm ((d ++ pconns s.pools[b]) ++ R) := by
  rw [List.append_assoc]; exact h1.append_left d
 refine e1.trans ((h.append_right R).trans ?_)
 have e2 := (h2 p').append_right cl
 refine List.Perm.trans ?_ e2.symm
 rw [List.append_assoc, List.append_assoc]
 exact List.perm_append_comm.append_left _
/-- What a call dials and what is there, is there afterwards, or closed. -/
theorem act_closed {s : State} {c : Call} (hw : wrong s c = 0) : ∀ o ∈ act s c, ((if c.kind = 2 ∧ c.yes = true then [c.conn] else []) ++ conns s).Perm (conns o.next ++ closedOf o.effects) := by
 have hnil : closedOf ([] : List Effect) = [] := rfl
 intro o ho
 have hset : ∀ {p' : Pool} {d cl : List Int}, (uses c.kind).1 = true → (d ++ pconns (pool s c.backend)).Perm (pconns p' ++ cl) → (d ++ conns s).Perm (conns (setPool s c.backend p') ++ cl) := by
  intro p' d cl hu h
  obtain ⟨hb, h0, hp⟩ := backend_ok hw hu
  rw [hp] at h
  exact set_closed hb h
 unfold act at ho
 simp only at ho
 split at ho
 · rename_i hk
   simp at ho; subst ho
   rw [if_neg (by omega), hnil]
   refine hset (by rw [hk]; rfl) ?_
   generalize pool s c.backend = p
   rw [List.append_nil, List.nil_append]
   unfold ask
   split
   · exact List.Perm.refl _
   · split
     · exact List.Perm.refl _
     · split
       · rename_i x hx
         have hne : p.idle ≠ [] := by intro e; rw [e] at hx; cases hx
         have hl : p.idle.getLast hne = x := by rw [List.getLast?_eq_some_getLast hne] at hx; exact Option.some.inj hx
         have hsplit : p.idle.dropLast ++ [x] = p.idle := by rw [← hl]; exact List.dropLast_concat_getLast hne
         unfold pconns
         have h3 : ((insLease (c.call, x.1, x.2.1) p.leases).map (·.2.1)).Perm (x.1 :: p.leases.map (·.2.1)) := (insLease_perm _ _).map _
         refine List.Perm.symm ((h3.append_right _).trans ?_)
         have h4 : p.idle.map (·.1) = p.idle.dropLast.map (·.1) ++ [x.1] := by have h9 := congrArg (List.map (·.1)) hsplit; rw [List.map_append] at h9; exact h9.symm
         simp only
         rw [h4, List.cons_append, ← List.append_assoc]
         exact (List.perm_append_singleton _ _).symm
       · split
         · exact List.Perm.refl _
         · split <;> exact List.Perm.refl _
 split at ho
 · rename_i hk1 hk
   simp at ho; subst ho
   have e : (if c.kind = 2 ∧ c.yes = true then [c.conn] else []) = (if c.yes then [c.conn] else []) := by simp [hk]
   rw [e]
   exact hset (by rw [hk]; rfl) (dialled_closed ..)
 split at ho
 · rename_i hk1 hk2 hk
   simp at ho; subst ho
   rw [if_neg (by omega)]
   exact hset (d := []) (by rw [hk]; rfl) (free_closed ..)
 have hd : (if c.kind = 2 ∧ c.yes = true then [c.conn] else []) = ([] : List Int) := by
  rename_i h1 h2 h3
  rw [if_neg (fun h => h2 h.1)]
 rw [hd, List.nil_append]
 split at ho
 · rename_i hk
   simp at ho; subst ho
   rw [hnil, List.append_nil]
   have := hset (d := []) (cl := []) (p' := cancel (pool s c.backend) c) (by rw [hk]; rfl) (by
    rw [List.append_nil, List.nil_append]
    unfold cancel; split <;> exact List.Perm.refl _)
   simpa using this
 split at ho
 · simp at ho; subst ho
   exact leave_closed (by decide) s.shut c.time s.pools 0
 split at ho
 · simp at ho; subst ho
   exact leave_closed (by decide) true s.now s.pools 0
 split at ho
 · unfold picks at ho
   split at ho
   · simp at ho; subst ho; rw [hnil, List.append_nil]
   · simp only at ho
     split at ho
     · simp at ho; subst ho; rw [hnil, List.append_nil]
     · obtain ⟨x, hx, rfl⟩ := List.mem_map.1 ho
       obtain ⟨hx1, _⟩ := List.mem_filter.1 hx
       obtain ⟨q, i⟩ := x
       obtain ⟨hi, hq⟩ := List.getElem?_eq_some_iff.1 (List.mk_mem_zipIdx_iff_getElem?.1 hx1)
       have := set_closed (s := s) (b := i) (p' := pickP c q) (d := []) (cl := []) hi (by
        rw [List.append_nil, List.nil_append, hq]
        unfold pickP; split <;> exact List.Perm.refl _)
       rw [hnil]
       simpa using this
 have hlast : ∀ {p' : Pool}, (uses c.kind).1 = true → pconns p' = pconns (pool s c.backend) → (conns s).Perm (conns (setPool s c.backend p') ++ []) := by
  intro p' hu h
  have := hset (d := []) (cl := []) (p' := p') hu (by rw [h]; simp)
  simpa using this
 rename_i k1 k2 k3 k4 k5 k6 k7
 split at ho
 · rename_i hk
   simp at ho; subst ho
   rw [hnil]
   exact hlast (by rw [hk]; rfl) (by unfold report; split <;> rfl)
 split at ho
 · rename_i hk
   simp at ho; subst ho
   rw [hnil]
   exact hlast (by rw [hk]; rfl) rfl
 · rename_i hk8 hk9
   have hbf : badFields s c = false := by
    cases h : badFields s c with
    | false => rfl
    | true => unfold wrong at hw; rw [h] at hw; simp at hw
   unfold badFields at hbf
   simp only [Bool.or_eq_false_iff, decide_eq_false_iff_not] at hbf
   obtain ⟨⟨⟨⟨⟨⟨⟨q1, q2⟩, _⟩, _⟩, _⟩, _⟩, _⟩, _⟩ := hbf
   have hk : c.kind = 10 := by omega
   simp at ho; subst ho
   rw [hnil]
   exact hlast (by rw [hk]; rfl) rfl
end Md
namespace Md

/-- All calls and connections are numbers of 64 bits. -/
def Bnd (s : State) : Prop := (∀ n ∈ calls s, n ≤ 9223372036854775807) ∧ ∀ n ∈ conns s, n ≤ 9223372036854775807
theorem calls_set {l : List Pool} {i : Nat} {p : Pool} {n : Int} (h : n ∈ (l.set i p).flatMap pcalls) : n ∈ l.flatMap pcalls ∨ n ∈ pcalls p := by
 obtain ⟨q, hq, hn⟩ := List.mem_flatMap.1 h
 rcases List.mem_or_eq_of_mem_set hq with h1 | rfl
 · exact .inl (List.mem_flatMap.2 ⟨q, h1, hn⟩)
 · exact .inr hn
theorem pool_mem {s : State} {b : Int} {n : Int} (h : n ∈ pcalls (pool s b)) : n ∈ calls s := by
 unfold pool at h
 rw [List.getD_eq_getElem?_getD] at h
 cases e : s.pools[b.toNat]? with
 | none =>
  rw [e] at h
  simp [fresh, pcalls] at h
 | some p =>
  rw [e] at h
  exact List.mem_flatMap.2 ⟨p, List.mem_of_getElem? e, h⟩
theorem insLease_mem {x : Lease} {l : List Lease} {n : Int} (h : n ∈ (insLease x l).map (·.1)) : n = x.1 ∨ n ∈ l.map (·.1) := by
 have := ((insLease_perm x l).map (·.1)).mem_iff.1 h
 simpa using this
theorem insDial_mem {c : Int} {l : List Dial} {n : Int} (h : n ∈ (insDial c l).map (·.1)) : n = c ∨ n ∈ l.map (·.1) := by
 have := ((insDial_perm c l).map (·.1)).mem_iff.1 h
 simpa using this
theorem erase_mem {α : Type} {f : α → Int} {l : List α} {i : Nat} {n : Int} (h : n ∈ (l.eraseIdx i).map f) : n ∈ l.map f :=
 ((List.eraseIdx_sublist l i).map f).mem h
theorem mem_pcalls {p : Pool} {n : Int} : n ∈ pcalls p ↔ n ∈ p.leases.map (·.1) ∨ n ∈ p.dials.map (·.1) ∨ n ∈ p.waiters.map (·.1) := by
 unfold pcalls
 rw [List.mem_append, List.mem_append, or_assoc]
theorem ask_mem {shut : Bool} {now : Int} {p : Pool} {c : Call} {n : Int} (h : n ∈ pcalls (ask shut now p c).1) : n ∈ pcalls p ∨ n = c.call := by
 unfold ask at h
 split at h
 · exact .inl h
 · split at h
   · exact .inl h
   · split at h
     · rw [mem_pcalls] at h ⊢
       rcases h with h | h | h
       · rcases insLease_mem h with h | h
         · exact .inr h
         · exact .inl (.inl h)
       · exact .inl (.inr (.inl h))
       · exact .inl (.inr (.inr h))
     · split at h
       · rw [mem_pcalls] at h ⊢
         rcases h with h | h | h
         · exact .inl (.inl h)
         · rcases insDial_mem h with h | h
           · exact .inr h
           · exact .inl (.inr (.inl h))
         · exact .inl (.inr (.inr h))
       · split at h
         · rw [mem_pcalls] at h ⊢
           rcases h with h | h | h
           · exact .inl (.inl h)
           · exact .inl (.inr (.inl h))
           · rw [List.map_append, List.mem_append] at h
             rcases h with h | h
             · exact .inl (.inr (.inr h))
             · exact .inr (by simpa using h)
         · exact .inl h
theorem pass_mem {b : Int} {p : Pool} {n : Int} (h : n ∈ pcalls (pass b p).1) : n ∈ pcalls p := (pass_calls b p).mem_iff.1 h
theorem give_mem {shut : Bool} {now b : Int} {p : Pool} {conn born : Int} {again : Bool} {n : Int} (h : n ∈ pcalls (give shut now b p conn born again).1) : n ∈ pcalls p := (give_calls shut now b p conn born again).mem_iff.1 h
theorem undial_mem {p : Pool} {i : Nat} {n : Int} (h : n ∈ pcalls { p with dials := p.dials.eraseIdx i }) : n ∈ pcalls p := by
 rw [mem_pcalls] at h ⊢
 rcases h with h | h | h
 · exact .inl h
 · exact .inr (.inl (erase_mem h))
 · exact .inr (.inr h)
theorem unlease_mem {p : Pool} {i : Nat} {n : Int} (h : n ∈ pcalls { p with leases := p.leases.eraseIdx i }) : n ∈ pcalls p := by
 rw [mem_pcalls] at h ⊢
 rcases h with h | h | h
 · exact .inl (erase_mem h)
 · exact .inr (.inl h)
 · exact .inr (.inr h)
theorem dialled_mem {shut : Bool} {now : Int} {p : Pool} {c : Call} {n : Int} (h : n ∈ pcalls (dialled shut now p c).1) : n ∈ pcalls p ∨ n = c.call := by
 unfold dialled at h
 dsimp only at h
 split at h
 · exact .inl (undial_mem (pass_mem h))
 · split at h
   · exact .inl (undial_mem (give_mem h))
   · split at h
     · exact .inl (undial_mem h)
     · rw [mem_pcalls] at h
       rcases h with h | h | h
       · rcases insLease_mem h with h | h
         · exact .inr h
         · exact .inl (mem_pcalls.2 (.inl h))
       · exact .inl (mem_pcalls.2 (.inr (.inl (erase_mem h))))
       · exact .inl (mem_pcalls.2 (.inr (.inr h)))
theorem free_mem {shut : Bool} {now : Int} {p : Pool} {c : Call} {n : Int} (h : n ∈ pcalls (free shut now p c).1) : n ∈ pcalls p := by
 unfold free at h
 split at h
 · exact h
 · exact unlease_mem (give_mem h)
theorem cancel_mem {p : Pool} {c : Call} {n : Int} (h : n ∈ pcalls (cancel p c)) : n ∈ pcalls p := by
 unfold cancel at h
 split at h
 · rw [mem_pcalls] at h ⊢
   rcases h with h | h | h
   · exact .inl h
   · have h2 : n ∈ (p.dials.modify (dialIx p c.call) (fun x => (x.1, true))).map (·.1) := h
     rw [modify_keys (f := fun x => (x.1, true)) (fun x => rfl)] at h2
     exact .inr (.inl h2)
   · exact .inr (.inr h)
 · rw [mem_pcalls] at h ⊢
   rcases h with h | h | h
   · exact .inl h
   · exact .inr (.inl h)
   · exact .inr (.inr (erase_mem h))
theorem leave_mem {shut : Bool} {now : Int} {p : Pool} {n : Int} (h : n ∈ pcalls (leaveQ shut now p)) : n ∈ pcalls p := by
 rw [mem_pcalls] at h ⊢
 rcases h with h | h | h
 · exact .inl h
 · exact .inr (.inl h)
 · refine .inr (.inr ?_)
   unfold leaveQ at h
   exact ((List.filter_sublist (l := p.waiters)).map _).mem h
theorem leaves_mem {k : Int} {s : State} {n : Int} (h : n ∈ calls (leave k s).1) : n ∈ calls s := by
 unfold calls leave at h
 dsimp only at h
 obtain ⟨q, hq, hn⟩ := List.mem_flatMap.1 h
 obtain ⟨p, hp, rfl⟩ := List.mem_map.1 hq
 exact List.mem_flatMap.2 ⟨p, hp, leave_mem hn⟩
theorem pickP_calls (c : Call) (p : Pool) : pcalls (pickP c p) = pcalls p := by
 unfold pickP
 split <;> rfl
theorem report_calls (p : Pool) (c : Call) : pcalls (report p c) = pcalls p := by
 unfold report
 split <;> rfl
theorem setPool_mem {s : State} {b : Int} {p : Pool} {n : Int} {Q : Prop} (hp : n ∈ pcalls p → n ∈ pcalls (pool s b) ∨ Q) (h : n ∈ calls (setPool s b p)) : n ∈ calls s ∨ Q := by
 rcases calls_set h with h | h
 · exact .inl h
 · exact (hp h).imp pool_mem id
theorem act_calls {s : State} {c : Call} : ∀ o ∈ act s c, ∀ n ∈ calls o.next, n ∈ calls s ∨ n = c.call := by
 intro o ho n hn
 unfold act at ho
 dsimp only at ho
 split at ho
 · simp only [List.mem_singleton] at ho; subst ho
   exact setPool_mem (fun h => ask_mem h) hn
 split at ho
 · simp only [List.mem_singleton] at ho; subst ho
   exact setPool_mem (fun h => dialled_mem h) hn
 split at ho
 · simp only [List.mem_singleton] at ho; subst ho
   exact setPool_mem (fun h => .inl (free_mem h)) hn
 split at ho
 · simp only [List.mem_singleton] at ho; subst ho
   exact setPool_mem (fun h => .inl (cancel_mem h)) hn
 split at ho
 · simp only [List.mem_singleton] at ho; subst ho
   exact .inl (leaves_mem (k := 5) (s := { s with now := c.time }) hn)
 split at ho
 · simp only [List.mem_singleton] at ho; subst ho
   exact .inl (leaves_mem (k := 6) (s := { s with shut := true }) hn)
 split at ho
 · left
   unfold picks at ho
   split at ho
   · simp only [List.mem_singleton] at ho; subst ho
     exact hn
   · dsimp only at ho
     split at ho
     · simp only [List.mem_singleton] at ho; subst ho
       exact hn
     · obtain ⟨x, hx, rfl⟩ := List.mem_map.1 ho
       rcases calls_set hn with h | h
       · exact h
       · rw [pickP_calls] at h
         have hx1 := (List.mem_filter.1 hx).1
         obtain ⟨h1, h2⟩ := List.mem_zipIdx' hx1
         exact List.mem_flatMap.2 ⟨x.1, by rw [h2]; exact List.getElem_mem _, h⟩
 split at ho
 · simp only [List.mem_singleton] at ho; subst ho
   exact setPool_mem (fun h => .inl (by rw [report_calls] at h; exact h)) hn
 split at ho
 · simp only [List.mem_singleton] at ho; subst ho
   exact setPool_mem (p := { pool s c.backend with up := c.yes }) (fun h => .inl h) hn
 · simp only [List.mem_singleton] at ho; subst ho
   exact setPool_mem (p := { pool s c.backend with breaker := c.breaker, probe := 0 }) (fun h => .inl h) hn
theorem act_bnd {s : State} {c : Call} (hw : wrong s c = 0) (hb : Bnd s) (h1 : c.call ≤ 9223372036854775807) (h2 : c.conn ≤ 9223372036854775807) : ∀ o ∈ act s c, Bnd o.next := by
 intro o ho
 refine ⟨fun n hn => ?_, fun n hn => ?_⟩
 · rcases act_calls o ho n hn with h | rfl
   · exact hb.1 n h
   · exact h1
 · have h := (act_closed hw o ho).mem_iff.2 (List.mem_append_left _ hn)
   rcases List.mem_append.1 h with h | h
   · split at h
     · simp only [List.mem_singleton] at h
       subst h
       exact h2
     · cases h
   · exact hb.2 n h
end Md
namespace Md

theorem step_bad {s : State} {c : Call} {r : Result} (h : (outcomes s c).2 ≠ 0) : step s c r = (none0, [], (outcomes s c).2) := by
 unfold step; rw [if_pos h]
end Md
