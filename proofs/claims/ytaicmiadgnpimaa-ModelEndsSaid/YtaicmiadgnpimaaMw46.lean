/-
  Walks for layer 26 (model): Check.
-/
import Derived.Test.YtaicmiadgnpimaaMw45
namespace Go.Proofs.Ytaicmiadgnpimaa
open Go.RowKit

def restE (now : Int) (shut : Bool) (Sa Sb : List Int) (l : List Md.Pool) : Bool := (l.all fun p => Md.poolOk p now && Md.quietOk ⟨now, shut, []⟩ p) && (Md.newOk Sa (l.flatMap Md.pcalls) && Md.newOk Sb (l.flatMap Md.pconns))
def seenA (p : Md.Pool) (Sa : List Int) : List Int := (p.waiters.map (·.1)).reverse ++ ((p.dials.map (·.1)).reverse ++ ((p.leases.map (·.1)).reverse ++ Sa))
def seenB (p : Md.Pool) (Sb : List Int) : List Int := (p.leases.map (·.2.1)).reverse ++ ((p.idle.map (·.1)).reverse ++ Sb)
theorem newOk_calls (p : Md.Pool) (Sa m : List Int) : Md.newOk Sa (Md.pcalls p ++ m) = ((Md.newOk Sa (p.leases.map (·.1)) && (Md.newOk ((p.leases.map (·.1)).reverse ++ Sa) (p.dials.map (·.1)) && Md.newOk ((p.dials.map (·.1)).reverse ++ ((p.leases.map (·.1)).reverse ++ Sa)) (p.waiters.map (·.1)))) && Md.newOk (seenA p Sa) m) := by
  unfold Md.pcalls seenA
  rw [List.append_assoc, List.append_assoc, Md.newOk_append, Md.newOk_append, Md.newOk_append]
  simp only [Bool.and_assoc]
theorem newOk_conns (p : Md.Pool) (Sb m : List Int) : Md.newOk Sb (Md.pconns p ++ m) = ((Md.newOk Sb (p.idle.map (·.1)) && Md.newOk ((p.idle.map (·.1)).reverse ++ Sb) (p.leases.map (·.2.1))) && Md.newOk (seenB p Sb) m) := by
  unfold Md.pconns
  rw [Md.newOk_append, Md.newOk_perm (List.perm_append_comm), Md.newOk_append]
  congr 1
  refine Md.newOk_congr (fun n => ?_) m
  unfold seenB
  simp only [List.reverse_append, List.mem_append, List.mem_reverse]
  constructor
  · rintro ((h | h) | h)
    · exact .inr (.inl h)
    · exact .inl h
    · exact .inr (.inr h)
  · rintro (h | h | h)
    · exact .inl (.inr h)
    · exact .inl (.inl h)
    · exact .inr h
theorem restE_cons (now : Int) (shut : Bool) (Sa Sb : List Int) (p : Md.Pool) (t : List Md.Pool) : restE now shut Sa Sb (p :: t) =
    ((Md.sizeOk p && (Md.quietOk ⟨now, shut, []⟩ p && Md.probeOk p)) && ((Md.idleOk p.lim now 0 p.idle && Md.newOk Sb (p.idle.map (·.1))) && (callersB now p Sa ((p.idle.map (·.1)).reverse ++ Sb) && restE now shut (seenA p Sa) (seenB p Sb) t))) := by
  unfold restE callersB
  rw [List.all_cons, List.flatMap_cons, List.flatMap_cons, newOk_calls, newOk_conns]
  unfold Md.poolOk
  generalize Md.sizeOk p = a1
  generalize Md.idleOk p.lim now 0 p.idle = a2
  generalize Md.leasesOk now 0 p.leases = a3
  generalize Md.dialsOk 0 p.dials = a4
  generalize Md.waitersOk now p.waiters = a5
  generalize Md.probeOk p = a6
  generalize Md.quietOk ⟨now, shut, []⟩ p = a7
  generalize Md.newOk Sa (p.leases.map (·.1)) = c1
  generalize Md.newOk ((p.leases.map (·.1)).reverse ++ Sa) (p.dials.map (·.1)) = c2
  generalize Md.newOk ((p.dials.map (·.1)).reverse ++ ((p.leases.map (·.1)).reverse ++ Sa)) (p.waiters.map (·.1)) = c3
  generalize Md.newOk Sb (p.idle.map (·.1)) = c4
  generalize Md.newOk ((p.idle.map (·.1)).reverse ++ Sb) (p.leases.map (·.2.1)) = c5
  generalize (t.all fun p => (Md.sizeOk p && Md.idleOk p.lim now 0 p.idle && Md.leasesOk now 0 p.leases && Md.dialsOk 0 p.dials && Md.waitersOk now p.waiters && Md.probeOk p) && Md.quietOk ⟨now, shut, []⟩ p) = d1
  cases a1 <;> simp
  cases a2 <;> simp
  cases a3 <;> simp
  cases a4 <;> simp
  cases a5 <;> simp
  cases a6 <;> simp
  cases a7 <;> simp
  cases c1 <;> simp
  cases c2 <;> simp
  cases c3 <;> simp
  cases c4 <;> simp
  cases c5 <;> simp
theorem check_rest (s : Md.State) (h1 : 1 ≤ s.pools.length) (h2 : s.pools.length ≤ 16) (h3 : (Md.isTime s.now && s.pools.all Md.rangeOk) = true) : Md.check s = if restE s.now s.shut [] [] s.pools = true then 0 else 6 := by
  unfold Md.check restE
  rw [if_neg (by omega), h3]
  have hq : ∀ p, Md.quietOk ⟨s.now, s.shut, []⟩ p = Md.quietOk s p := fun p => rfl
  simp only [hq, Md.newOk_nil]
  have hc : Md.calls s = s.pools.flatMap Md.pcalls := rfl
  have hd : Md.conns s = s.pools.flatMap Md.pconns := rfl
  rw [hc, hd]
  cases (s.pools.all fun p => Md.poolOk p s.now && Md.quietOk s p) <;> cases Md.numsOk (s.pools.flatMap Md.pcalls) <;> cases Md.numsOk (s.pools.flatMap Md.pconns) <;> rfl
/-- Where Check's loop stands. -/
structure CkAt (b1 b2 : Nat) (E : Bool) (s : Md.State) (k : Nat) (Sa Sb : List Int) (w0 wr : World) : Prop where
  own1 : SetOwn wr b1 (k * 300000) Sa
  own2 : SetOwn wr b2 (k * 300000) Sb
  gb : Gb (fun i => i = b1 ∨ i = b2) w0 wr
  eq : E = restE s.now s.shut Sa Sb (s.pools.drop k)
end Go.Proofs.Ytaicmiadgnpimaa
