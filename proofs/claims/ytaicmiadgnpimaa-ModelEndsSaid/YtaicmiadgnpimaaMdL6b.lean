/-
  What lies apart from a set of blocks reads alike in all worlds that differ there alone.
-/
import Derived.Test.YtaicmiadgnpimaaMdL6a
namespace Go.Proofs.Ytaicmiadgnpimaa
open Go.RowKit

open Classical in
/-- The world with the blocks of a set emptied. -/
noncomputable def garb (S : Nat → Prop) (w : World) : World := { w with heap := w.heap.mapIdx fun i o => if S i then .cells #[] 0 (0, 0) else o }
theorem garb_gb (S : Nat → Prop) (w : World) : Gb S w (garb S w) := by
 refine ⟨rfl, rfl, rfl, by simp [garb], fun i hi hn => ?_⟩
 simp [garb, hn, hi]
theorem garb_cell {S : Nat → Prop} {w : World} {b o : Nat} {v : Value} (h : (garb S w).cell? ⟨b, o, none⟩ = some v) : ¬ S b ∧ w.cell? ⟨b, o, none⟩ = some v := by
 have hb := cell_lt h
 have hbw : b < w.heap.size := by simpa [garb] using hb
 by_cases hs : S b
 · have e : (garb S w).heap[b]? = some (.cells #[] 0 (0, 0)) := by simp [garb, hs, hbw]
   rw [blk_cell e] at h
   simp at h
 · refine ⟨hs, ?_⟩
   have e : (garb S w).heap[b]? = w.heap[b]? := (garb_gb S w).block b hbw hs
   rw [← h]
   exact (World.cell?_of_block (a := ⟨b, o, none⟩) e).symm
theorem garb_reads {α : Type} {n : Nat} {enc : α → List Value} {S : Nat → Prop} {w w2 : World} {v : Value} {l : List α} (h : ReadsL n enc (garb S w) v l) (hg : Gb S w w2) : ReadsL n enc w2 v l := by
 rcases h with h | ⟨b, o, cap, hv, hlt, hc⟩
 · exact .inl h
 · refine .inr ⟨b, o, cap, hv, Nat.lt_of_lt_of_le (by simpa [garb] using hlt) hg.size, fun j hj i u hu => ?_⟩
   obtain ⟨h1, h2⟩ := garb_cell (hc j hj i u hu)
   exact (hg.cell (a := ⟨b, _, none⟩) (cell_lt h2) h1).trans h2
/-- One description of the backends serves all worlds that differ in S alone. -/
theorem lies_rd {S : Nat → Prop} {w : World} {u : SlV} {ps : List Md.Pool} (h : ∀ w2, Gb S w w2 → PoolsAt w2 (valS u) ps) : ∃ pvs, ∀ w2, Gb S w w2 → PoolsRd w2 u pvs ps := by
 obtain ⟨pvs, h1, h2, h3⟩ := rd_of (h _ (garb_gb S w))
 refine ⟨pvs, fun w2 hg => ⟨garb_reads h1 hg, h2, fun j a b => ?_⟩⟩
 have q := h3 j a b
 exact ⟨q.lim, q.up, q.breaker, q.probe, garb_reads q.idle hg, garb_reads q.leases hg, garb_reads q.dials hg, garb_reads q.waiters hg⟩
end Go.Proofs.Ytaicmiadgnpimaa
