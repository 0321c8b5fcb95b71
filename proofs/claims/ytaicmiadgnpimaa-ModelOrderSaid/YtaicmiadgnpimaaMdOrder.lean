/-
  Plain laws for layer 26 (model): what ModelOrder asks. No program in this text.
-/

import Derived.Test.YtaicmiadgnpimaaMgm
namespace Md

/-- The law's reckoning of effects on the list of those that wait; none: it says false. -/
def ordEff : List Int → List Effect → Option (List Int)
 | w, [] => some w
 | w, e :: t =>
  if e.1 = 1 ∨ e.1 = 2 then (if w.head? = some e.2.2.1 then ordEff w.tail t else none)
  else if e.1 = 5 ∨ e.1 = 6 then (if e.2.2.1 ∈ w then ordEff (w.erase e.2.2.1) t else none)
  else ordEff w t
def ordCall (w : List Int) (c : Call) (r : Result) : List Int :=
 let w1 := if c.kind = 1 ∧ r.1 = 3 then w ++ [c.call] else w
 if c.kind = 4 then w1.erase c.call else w1
def waitOf (p : Pool) : List Int := p.waiters.map (·.1)
theorem wait_nodup {p : Pool} (h : numsOk (pcalls p) = true) : (waitOf p).Nodup := by
 have := (numsOk_iff.1 h).2
 unfold pcalls at this
 exact (List.nodup_append.1 this).2.1
theorem ord_left {k : Int} (hk : k = 5 ∨ k = 6) (b : Int) (q : Waiter → Bool) (rest : List Effect) : ∀ (W : List Waiter) (K : List Int), (K ++ W.map (·.1)).Nodup →
 ordEff (K ++ W.map (·.1)) (((W.filter (fun w => !q w)).map fun w => ((k, b, w.1, 0) : Effect)) ++ rest) = ordEff (K ++ (W.filter q).map (·.1)) rest
 | [], K, _ => by simp
 | a :: W, K, hn => by
  cases ha : q a with
  | true =>
   have ih := ord_left hk b q rest W (K ++ [a.1]) (by simpa using hn)
   simp only [List.filter_cons, ha, Bool.not_true, Bool.false_eq_true, if_false, if_true, List.map_cons]
   simpa using ih
  | false =>
   have hn2 : (K ++ W.map (·.1)).Nodup := by
    rw [List.map_cons] at hn
    exact (List.nodup_append.2 ⟨(List.nodup_append.1 hn).1, (List.nodup_cons.1 (List.nodup_append.1 hn).2.1).2, fun x hx y hy => (List.nodup_append.1 hn).2.2 x hx y (List.mem_cons_of_mem _ hy)⟩)
   have hK : a.1 ∉ K := fun h => by
    rw [List.map_cons] at hn
    exact (List.nodup_append.1 hn).2.2 a.1 h a.1 (by simp) rfl
   have ih := ord_left hk b q rest W K hn2
   simp only [List.filter_cons, ha, Bool.not_false, Bool.false_eq_true, if_false, if_true, List.map_cons, List.cons_append]
   rw [ordEff, if_neg (by simp only; omega), if_pos hk, if_pos (by simp)]
   have he : (K ++ a.1 :: W.map (·.1)).erase a.1 = K ++ W.map (·.1) := by
    rw [List.erase_append_right _ hK]; simp
   simp only
   rw [he]
   exact ih
theorem ord_closed : ∀ (w : List Int) (l : List Effect), (∀ e ∈ l, e.1 = 11) → ordEff w l = some w
 | w, [], _ => rfl
 | w, e :: t, h => by
  have he := h e (by simp)
  rw [ordEff, if_neg (by omega), if_neg (by omega)]
  exact ord_closed w t (fun x hx => h x (by simp [hx]))
theorem ord_leave {k : Int} (hk : k = 5 ∨ k = 6) (shut : Bool) (now : Int) (p : Pool) (i : Nat) (hn : (waitOf p).Nodup) : ordEff (waitOf p) (leaveE k shut now (p, i)) = some (waitOf (leaveQ shut now p)) := by
 unfold leaveE waitOf
 have h := ord_left hk (i : Int) (stays shut now) ((p.idle.filter (fun c => !(!shut && young p.lim c now))).map fun c => ((11 : Int), (i : Int), (0 : Int), c.1)) p.waiters [] (by unfold waitOf at hn; simpa using hn)
 simp only [List.nil_append] at h
 rw [h, ord_closed _ _ (fun e he => by obtain ⟨c, _, rfl⟩ := List.mem_map.1 he; rfl)]
 rfl
theorem ord_pass (b : Int) (p : Pool) : ordEff (waitOf p) (pass b p).2 = some (waitOf (pass b p).1) := by
 unfold pass waitOf
 cases hw : p.waiters with
 | nil => simp [ordEff, hw]
 | cons w ws => simp [ordEff]
theorem ord_give (shut : Bool) (now b : Int) (p : Pool) (conn born : Int) (again : Bool) : ordEff (waitOf p) (give shut now b p conn born again).2 = some (waitOf (give shut now b p conn born again).1) := by
 unfold give
 split
 · simp only
   rw [ordEff, if_neg (by simp), if_neg (by simp)]
   exact ord_pass b p
 · unfold waitOf
   cases hw : p.waiters with
   | nil => simp [ordEff]
   | cons w ws => simp [ordEff]
theorem erase_at {l : List Int} {i : Nat} (hn : l.Nodup) (hi : i < l.length) : l.erase l[i] = l.eraseIdx i := by
 rw [List.erase_eq_eraseIdx]
 have : l.idxOf? l[i] = some i := by
  rw [List.idxOf?_eq_some_iff]
  refine ⟨hi, by simp, fun j hj => ?_⟩
  intro e
  exact List.pairwise_iff_getElem.1 hn j i (by omega) hi hj (by simpa using e)
 rw [this]
theorem map_erase : ∀ (l : List Waiter) (i : Nat), (l.eraseIdx i).map (·.1) = (l.map (·.1)).eraseIdx i
 | [], i => by simp
 | x :: t, 0 => by simp
 | x :: t, i + 1 => by simp [map_erase t i]
/-- ModelOrder: the list of those that wait is that of the next state. -/
theorem act_order {s : State} {c : Call} {p : Pool} (hs : s.pools = [p]) (hg : Good s) (hw : wrong s c = 0) : ∀ o ∈ act s c, ∃ q, o.next.pools = [q] ∧ ordEff (ordCall (waitOf p) c o.result) o.effects = some (waitOf q) := by
 have hb0 : 0 < s.pools.length := by rw [hs]; simp
 have hp0 : s.pools[0] = p := by simp [hs]
 have hpc := pool_calls hg hb0
 rw [hp0] at hpc
 have hnd := wait_nodup hpc
 have hback : (uses c.kind).1 = true → pool s c.backend = p ∧ c.backend.toNat = 0 := by
  intro hu
  obtain ⟨hb, h0, hpp⟩ := backend_ok hw hu
  have h1 : c.backend.toNat = 0 := by rw [hs] at hb; simpa using hb
  refine ⟨?_, h1⟩
  unfold pool
  rw [h1, hs]; rfl
 have hset : ∀ q, c.backend.toNat = 0 → (setPool s c.backend q).pools = [q] := by
  intro q h
  unfold setPool
  simp [hs, h]
 intro o ho
 unfold act at ho
 simp only at ho
 split at ho
 · rename_i hk
   obtain ⟨h1, h2⟩ := hback (by rw [hk]; rfl)
   simp at ho; subst ho
   rw [h1]
   refine ⟨_, hset _ h2, ?_⟩
   have ho' : ∀ r : Result, ordCall (waitOf p) c r = if r.1 = 3 then waitOf p ++ [c.call] else waitOf p := fun r => by unfold ordCall; simp [hk]
   rw [ho']
   unfold ask
   by_cases a1 : s.shut = true
   · simp [a1, ordEff]
   · by_cases a2 : c.time ≤ s.now
     · simp [a1, a2, ordEff]
     · cases a3 : p.idle.getLast? with
       | some x => simp [a1, a2, ordEff, waitOf]
       | none =>
        by_cases a4 : (used p : Int) < p.lim.max
        · simp [a1, a2, a4, ordEff, waitOf]
        · by_cases a5 : (p.waiters.length : Int) < p.lim.queue
          · simp [a1, a2, a4, a5, ordEff, waitOf]
          · simp [a1, a2, a4, a5, ordEff]
 split at ho
 · rename_i hk1 hk
   obtain ⟨h1, h2⟩ := hback (by rw [hk]; rfl)
   simp at ho; subst ho
   rw [h1]
   refine ⟨_, hset _ h2, ?_⟩
   have ho' : ∀ r, ordCall (waitOf p) c r = waitOf p := fun r => by unfold ordCall; simp [hk]
   rw [ho']
   unfold dialled
   simp only
   have hsame : waitOf p = waitOf { p with dials := p.dials.eraseIdx (dialIx p c.call) } := rfl
   rw [hsame]
   split
   · exact ord_pass _ _
   · split
     · exact ord_give ..
     · split
       · exact ord_closed _ _ (fun e he => by simp at he; subst he; rfl)
       · rfl
 split at ho
 · rename_i hk1 hk2 hk
   obtain ⟨h1, h2⟩ := hback (by rw [hk]; rfl)
   simp at ho; subst ho
   rw [h1]
   refine ⟨_, hset _ h2, ?_⟩
   have ho' : ∀ r, ordCall (waitOf p) c r = waitOf p := fun r => by unfold ordCall; simp [hk]
   rw [ho']
   unfold free
   split
   · rfl
   · have hsame : waitOf p = waitOf { p with leases := p.leases.eraseIdx (leaseIx p c.call) } := rfl
     rw [hsame]
     exact ord_give ..
 split at ho
 · rename_i hk1 hk2 hk3 hk
   obtain ⟨h1, h2⟩ := hback (by rw [hk]; rfl)
   simp at ho; subst ho
   rw [h1]
   refine ⟨_, hset _ h2, ?_⟩
   have ho' : ∀ r, ordCall (waitOf p) c r = (waitOf p).erase c.call := fun r => by unfold ordCall; simp [hk]
   rw [ho']
   show some ((waitOf p).erase c.call) = _
   unfold cancel
   split
   · rename_i hd
     obtain ⟨hi, hc⟩ := hasDial_at hd
     have hn : c.call ∉ waitOf p := by
      intro hx
      have hn2 := (numsOk_iff.1 hpc).2
      unfold pcalls at hn2
      exact (List.nodup_append.1 hn2).2.2 c.call (List.mem_append_right _ (List.mem_map.2 ⟨_, List.getElem_mem hi, hc⟩)) c.call hx rfl
     rw [List.erase_of_not_mem hn]
     rfl
   · rename_i hd
     by_cases hwt : hasWaiter p c.call = true
     · obtain ⟨hi, hc⟩ := hasWaiter_at hwt
       have hl : waiterIx p c.call < (waitOf p).length := by unfold waitOf; simpa using hi
       have he : (waitOf p)[waiterIx p c.call] = c.call := by
        show (p.waiters.map (·.1))[waiterIx p c.call]'(by simpa using hi) = c.call
        rw [List.getElem_map]; exact hc
       have h5 := erase_at hnd hl
       rw [he] at h5
       rw [h5]
       unfold waitOf
       simp only
       rw [map_erase]
     · have hx : wrong s c ≠ 0 := by
        unfold wrong
        have hb0' : badFields s c = false := by
         cases h : badFields s c with
         | false => rfl
         | true => unfold wrong at hw; rw [h] at hw; simp at hw
        rw [hb0', h1]
        have e1 : hasDial p c.call = false := by simpa using hd
        have e2 : hasWaiter p c.call = false := by simpa using hwt
        simp only [hk, e1, e2]
        simp
        split <;> omega
       exact absurd hw hx
 split at ho
 · rename_i hk1 hk2 hk3 hk4 hk
   simp at ho; subst ho
   have ho' : ∀ r, ordCall (waitOf p) c r = waitOf p := fun r => by unfold ordCall; simp [hk]
   rw [ho']
   refine ⟨leaveQ s.shut c.time p, by simp [leave, hs], ?_⟩
   have := ord_leave (k := 5) (.inl rfl) s.shut c.time p 0 hnd
   simpa [leave, hs] using this
 split at ho
 · rename_i hk1 hk2 hk3 hk4 hk5 hk
   simp at ho; subst ho
   have ho' : ∀ r, ordCall (waitOf p) c r = waitOf p := fun r => by unfold ordCall; simp [hk]
   rw [ho']
   refine ⟨leaveQ true s.now p, by simp [leave, hs], ?_⟩
   have := ord_leave (k := 6) (.inr rfl) true s.now p 0 hnd
   simpa [leave, hs] using this
 split at ho
 · rename_i hk1 hk2 hk3 hk4 hk5 hk6 hk
   have ho' : ∀ r, ordCall (waitOf p) c r = waitOf p := fun r => by unfold ordCall; simp [hk]
   rw [ho']
   unfold picks at ho
   split at ho
   · simp at ho; subst ho; exact ⟨p, hs, rfl⟩
   · simp only at ho
     split at ho
     · simp at ho; subst ho; exact ⟨p, hs, rfl⟩
     · obtain ⟨x, hx, rfl⟩ := List.mem_map.1 ho
       obtain ⟨hx1, _⟩ := List.mem_filter.1 hx
       obtain ⟨q, i⟩ := x
       have hq := List.mk_mem_zipIdx_iff_getElem?.1 hx1
       rw [hs] at hq
       have hi : i = 0 := by
        rcases Nat.eq_zero_or_pos i with h | h
        · exact h
        · rw [List.getElem?_eq_none (by simp; omega)] at hq; cases hq
       subst hi
       simp at hq
       subst hq
       refine ⟨pickP c p, by simp [hs], ?_⟩
       show some (waitOf p) = _
       unfold pickP; split <;> rfl
 have ho' : ∀ r, c.kind ≠ 4 → c.kind ≠ 1 → ordCall (waitOf p) c r = waitOf p := fun r h4 h1 => by unfold ordCall; simp [h4, h1]
 rename_i hk1 hk2 hk3 hk4 hk5 hk6 hk7
 split at ho
 · rename_i hk
   obtain ⟨h1, h2⟩ := hback (by rw [hk]; rfl)
   simp at ho; subst ho
   rw [h1, ho' _ hk4 hk1]
   refine ⟨_, hset _ h2, ?_⟩
   show some (waitOf p) = _
   unfold report; split <;> rfl
 split at ho
 · rename_i hk
   obtain ⟨h1, h2⟩ := hback (by rw [hk]; rfl)
   simp at ho; subst ho
   rw [h1, ho' _ hk4 hk1]
   exact ⟨_, hset _ h2, rfl⟩
 · rename_i hk8 hk9
   have hbf : badFields s c = false := by
    cases h : badFields s c with
    | false => rfl
    | true => unfold wrong at hw; rw [h] at hw; simp at hw
   unfold badFields at hbf
   simp only [Bool.or_eq_false_iff, decide_eq_false_iff_not] at hbf
   obtain ⟨⟨⟨⟨⟨⟨⟨q1, q2⟩, _⟩, _⟩, _⟩, _⟩, _⟩, _⟩ := hbf
   have hk : c.kind = 10 := by omega
   obtain ⟨h1, h2⟩ := hback (by rw [hk]; rfl)
   simp at ho; subst ho
   rw [h1, ho' _ hk4 hk1]
   exact ⟨_, hset _ h2, rfl⟩
end Md
