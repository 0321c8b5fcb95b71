/-
  What the laws of layer 26 need: plain facts.
-/
import Derived.Test.YtaicmiadgnpimaaMgs
namespace Go.Proofs.Ytaicmiadgnpimaa
open Go.RowKit

theorem new_bnd {l : List Md.Lim} (h : (Md.new l).2 = 0) : Md.Bnd (Md.new l).1 := by
 have e : (Md.new l).1 = ⟨0, false, l.map Md.fresh⟩ := by
  unfold Md.new at h ⊢
  split
  · rename_i hq
    rw [if_pos hq] at h
    exact absurd h (by decide)
  · rename_i hq
    rw [if_neg hq] at h
    split
    · rfl
    · rename_i ha
      rw [if_neg ha] at h
      exact absurd h (by decide)
 rw [e]
 refine ⟨fun n hn => ?_, fun n hn => ?_⟩
 · simp only [Md.calls, List.mem_flatMap, List.mem_map] at hn
   obtain ⟨_, ⟨_, _, rfl⟩, hn⟩ := hn
   simp [Md.pcalls, Md.fresh] at hn
 · simp only [Md.conns, List.mem_flatMap, List.mem_map] at hn
   obtain ⟨_, ⟨_, _, rfl⟩, hn⟩ := hn
   simp [Md.pconns, Md.fresh] at hn
theorem new_short {l : List Md.Lim} (h : (Md.new l).2 = 0) : l.length ≤ 16 := by
 unfold Md.new at h
 split at h
 · exact absurd h (by decide)
 · omega
theorem flat_lenG {α β : Type} {f : α → List β} (n : Nat) : ∀ (l : List α), (∀ p ∈ l, (f p).length ≤ n) → (l.flatMap f).length ≤ l.length * n
 | [], _ => by simp
 | x :: t, h => by
  have h1 := h x (by simp)
  have h2 := flat_lenG n t (fun p hp => h p (by simp [hp]))
  rw [List.flatMap_cons, List.length_append, List.length_cons, Nat.succ_mul]
  omega
theorem pass_efl (b : Int) (p : Md.Pool) : (Md.pass b p).2.length ≤ 1 := by
 unfold Md.pass
 split <;> simp
theorem give_efl (shut : Bool) (now b : Int) (p : Md.Pool) (cn born : Int) (ag : Bool) : (Md.give shut now b p cn born ag).2.length ≤ 2 := by
 unfold Md.give
 split
 · have := pass_efl b p
   simp only [List.length_cons]
   omega
 · split <;> simp
theorem leave_efl {k : Int} {s : Md.State} (hs : ∀ p ∈ s.pools, PoolSmall p) (h16 : s.pools.length ≤ 16) : (Md.leave k s).2.length ≤ 4000000 := by
 unfold Md.leave
 have q := flat_lenG (f := Md.leaveE k s.shut s.now) 200000 s.pools.zipIdx (fun x hx => by
  have hm : x.1 ∈ s.pools := by
   obtain ⟨i, hi, e⟩ := List.getElem_of_mem hx
   rw [List.getElem_zipIdx] at e
   rw [← e]
   exact List.getElem_mem _
  obtain ⟨h1, _, _, h4⟩ := hs _ hm
  unfold Md.leaveE
  rw [List.length_append, List.length_map, List.length_map]
  have a1 := List.length_filter_le (fun w => !Md.stays s.shut s.now w) x.1.waiters
  have a2 := List.length_filter_le (fun c => !(!s.shut && Md.young x.1.lim c s.now)) x.1.idle
  omega)
 rw [List.length_zipIdx] at q
 show (s.pools.zipIdx.flatMap (Md.leaveE k s.shut s.now)).length ≤ 4000000
 omega
theorem effs_len {s : Md.State} {c : Md.Call} (hg : Md.Good s) : ∀ o ∈ Md.act s c, o.effects.length ≤ 4000000 := by
 intro o ho
 have hs := good_small hg
 unfold Md.act at ho
 split at ho
 · simp only [List.mem_singleton] at ho
   subst ho
   simp
 split at ho
 · simp only [List.mem_singleton] at ho
   subst ho
   unfold Md.dialled
   dsimp only
   split
   · exact Nat.le_trans (pass_efl _ _) (by decide)
   · split
     · exact Nat.le_trans (give_efl _ _ _ _ _ _ _) (by decide)
     · split <;> simp
 split at ho
 · simp only [List.mem_singleton] at ho
   subst ho
   unfold Md.free
   dsimp only
   split
   · simp
   · exact Nat.le_trans (give_efl _ _ _ _ _ _ _) (by decide)
 split at ho
 · simp only [List.mem_singleton] at ho
   subst ho
   simp
 split at ho
 · simp only [List.mem_singleton] at ho
   subst ho
   exact leave_efl (s := { s with now := c.time }) hs hg.len2
 split at ho
 · simp only [List.mem_singleton] at ho
   subst ho
   exact leave_efl (s := { s with shut := true }) hs hg.len2
 split at ho
 · unfold Md.picks at ho
   dsimp only at ho
   split at ho
   · simp only [List.mem_singleton] at ho
     subst ho
     simp
   · split at ho
     · simp only [List.mem_singleton] at ho
       subst ho
       simp
     · obtain ⟨_, _, rfl⟩ := List.mem_map.1 ho
       simp
 split at ho
 · simp only [List.mem_singleton] at ho
   subst ho
   simp
 split at ho
 · simp only [List.mem_singleton] at ho
   subst ho
   simp
 · simp only [List.mem_singleton] at ho
   subst ho
   simp
end Go.Proofs.Ytaicmiadgnpimaa
