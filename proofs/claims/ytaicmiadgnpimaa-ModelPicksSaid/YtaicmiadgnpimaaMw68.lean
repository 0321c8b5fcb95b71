/-
  Walks for layer 26 (model): what a law's loop holds of a state, beside variables of its own; plain facts of picks.
-/
import Derived.Test.YtaicmiadgnpimaaMgs
import Derived.Test.YtaicmiadgnpimaaMgm
namespace Md

/-- Which backends a call without an error names. -/
theorem kind_ok {s : State} {c : Call} (hw : wrong s c = 0) : 1 ≤ c.kind ∧ c.kind ≤ 10 := by
  have hbf : badFields s c = false := by
    cases h : badFields s c with
    | false => rfl
    | true => unfold wrong at hw; rw [h] at hw; simp at hw
  unfold badFields at hbf
  simp only [Bool.or_eq_false_iff, decide_eq_false_iff_not] at hbf
  obtain ⟨⟨⟨⟨⟨⟨⟨k1, k2⟩, _⟩, _⟩, _⟩, _⟩, _⟩, _⟩ := hbf
  omega
theorem uses_backend {k : Int} (h1 : 1 ≤ k) (h2 : k ≤ 10) (h5 : k ≠ 5) (h6 : k ≠ 6) (h7 : k ≠ 7) : (uses k).1 = true := by
  have h : k = 1 ∨ k = 2 ∨ k = 3 ∨ k = 4 ∨ k = 8 ∨ k = 9 ∨ k = 10 := by omega
  rcases h with rfl | rfl | rfl | rfl | rfl | rfl | rfl <;> rfl
theorem act7 {s : State} {c : Call} (hk : c.kind = 7) : act s c = picks s c := by
  unfold act
  dsimp only
  rw [if_neg (by omega), if_neg (by omega), if_neg (by omega), if_neg (by omega), if_neg (by omega), if_neg (by omega), if_pos hk]
theorem act8 {s : State} {c : Call} (hk : c.kind = 8) : act s c = [⟨(7, 0, 0), [], setPool s c.backend (report (pool s c.backend) c)⟩] := by
  unfold act
  dsimp only
  rw [if_neg (by omega), if_neg (by omega), if_neg (by omega), if_neg (by omega), if_neg (by omega), if_neg (by omega), if_neg (by omega), if_pos hk]
theorem act10 {s : State} {c : Call} (hk : c.kind = 10) : act s c = [⟨(7, 0, 0), [], setPool s c.backend { pool s c.backend with breaker := c.breaker, probe := 0 }⟩] := by
  unfold act
  dsimp only
  rw [if_neg (by omega), if_neg (by omega), if_neg (by omega), if_neg (by omega), if_neg (by omega), if_neg (by omega), if_neg (by omega), if_neg (by omega), if_neg (by omega)]
/-- A pick that was picked. -/
theorem pick_may {s : State} {c : Call} (hk : c.kind = 7) : ∀ o ∈ act s c, o.result.1 = 8 → ∃ b, ∃ hb : b < s.pools.length, o.result.2.1 = (b : Int) ∧ may s.pools[b] b c.skip = true ∧ o.next.pools = s.pools.set b (pickP c s.pools[b]) := by
  intro o ho hr
  rw [act7 hk] at ho
  unfold picks at ho
  dsimp only at ho
  split at ho
  · simp only [List.mem_singleton] at ho
    subst ho
    simp at hr
  · split at ho
    · simp only [List.mem_singleton] at ho
      subst ho
      simp at hr
    · obtain ⟨⟨p, b⟩, hx, rfl⟩ := List.mem_map.1 ho
      obtain ⟨hx, hm⟩ := List.mem_filter.1 hx
      obtain ⟨i, hi, e⟩ := List.getElem_of_mem hx
      rw [List.getElem_zipIdx] at e
      injection e with e1 e2
      have hib : b = i := by omega
      subst hib
      subst e1
      rw [List.length_zipIdx] at hi
      exact ⟨b, hi, rfl, hm, rfl⟩
theorem pick_not {s : State} {c : Call} (hk : c.kind = 7) : ∀ o ∈ act s c, o.result.1 ≠ 8 → o.next = s := by
  intro o ho hr
  rw [act7 hk] at ho
  unfold picks at ho
  dsimp only at ho
  split at ho
  · simp only [List.mem_singleton] at ho
    subst ho
    rfl
  · split at ho
    · simp only [List.mem_singleton] at ho
      subst ho
      rfl
    · obtain ⟨⟨p, b⟩, hx, rfl⟩ := List.mem_map.1 ho
      exact absurd rfl hr
/-- A pick's mask is in its range. -/
theorem skip_ok {s : State} {c : Call} (hw : wrong s c = 0) (hk : c.kind = 7) : 0 ≤ c.skip ∧ c.skip ≤ 65535 := by
  have hbf : badFields s c = false := by
    cases h : badFields s c with
    | false => rfl
    | true => unfold wrong at hw; rw [h] at hw; simp at hw
  unfold badFields at hbf
  rw [hk] at hbf
  have hu : uses 7 = (false, true, false, false, true, false) := rfl
  rw [hu] at hbf
  simp only [Bool.or_eq_false_iff, Bool.true_and, decide_eq_false_iff_not] at hbf
  obtain ⟨⟨_, h1, h2⟩, _⟩ := hbf
  omega
theorem skip_div {sk : Int} (h0 : 0 ≤ sk) (k : Nat) : sk / 2 ^ k = ((sk.toNat / 2 ^ k : Nat) : Int) := by
  obtain ⟨n, rfl⟩ : ∃ n : Nat, sk = n := ⟨sk.toNat, by omega⟩
  rw [Int.natCast_ediv]
  norm_cast
theorem skip_nn {sk : Int} (h0 : 0 ≤ sk) (k : Nat) : 0 ≤ sk / 2 ^ k := by rw [skip_div h0]; exact Int.natCast_nonneg _
theorem skip_rem {sk : Int} (h0 : 0 ≤ sk) (k : Nat) (h : sk.toNat / 2 ^ k % 2 = 0) : (sk / 2 ^ k % 2 == 1) = false := by
  rw [skip_div h0, beq_eq_false_iff_ne]
  omega
theorem skip_tmod {sk : Int} (h0 : 0 ≤ sk) (k : Nat) (h : sk.toNat / 2 ^ k % 2 = 0) : ((sk / 2 ^ k).tmod 2 == 1) = false := by
  rw [Int.tmod_eq_emod_of_nonneg (skip_nn h0 k)]
  exact skip_rem h0 k h
theorem act_report {s : State} {c : Call} (hk : c.kind = 8) : ∀ o ∈ act s c, o.next = setPool s c.backend (report (pool s c.backend) c) := by
  intro o ho
  rw [act8 hk, List.mem_singleton] at ho
  subst ho
  rfl
theorem act_trip {s : State} {c : Call} (hk : c.kind = 10) : ∀ o ∈ act s c, o.next = setPool s c.backend { pool s c.backend with breaker := c.breaker, probe := 0 } := by
  intro o ho
  rw [act10 hk, List.mem_singleton] at ho
  subst ho
  rfl
end Md
namespace Go.Proofs.Ytaicmiadgnpimaa
open Go.RowKit

/-- Where a law's loop stands: B: the blocks of its own variables; the state lies in block T of these, its backends in other blocks. -/
structure LawX (w5 : World) (B : Nat → Prop) (T : Nat) (s : Md.State) (u : SlV) (wr : World) : Prop where
  good : Md.Good s
  bnd : Md.Bnd s
  own : B T
  st : wr.heap[T]? = some (Z3 s.now s.shut (valS u))
  lies : ∀ w2, Gb B wr w2 → PoolsAt w2 (valS u) s.pools
  gb : Gb B w5 wr
theorem LawX.sta {w5 : World} {B : Nat → Prop} {T : Nat} {s : Md.State} {u : SlV} {wr : World} (h : LawX w5 B T s u wr) {w1 : World} (hb : Below wr.heap.size wr w1) : Sta w1 u s := ⟨h.good, h.bnd, h.lies w1 (.of_below hb)⟩
theorem LawX.below {w5 : World} {B : Nat → Prop} {T : Nat} {s : Md.State} {u : SlV} {wr : World} (h : LawX w5 B T s u wr) {w1 : World} (hb : Below wr.heap.size wr w1) : LawX w5 B T s u w1 :=
  ⟨h.good, h.bnd, h.own, (hb.block _ (lt_of_block h.st)).trans h.st, fun w2 hg => h.lies w2 ((Gb.of_below hb).trans hg), h.gb.trans (.of_below hb)⟩
/-- A store into another variable. -/
theorem LawX.set {w5 : World} {B : Nat → Prop} {T : Nat} {s : Md.State} {u : SlV} {wr : World} (h : LawX w5 B T s u wr) {x : Addr} (hx : B x.block) (hne : x.block ≠ T) (v : Value) : LawX w5 B T s u (wr.setCell x v) :=
  ⟨h.good, h.bnd, h.own, (setCell_heap hne).trans h.st, fun w2 hg => h.lies w2 (((Gb.refl B wr).setCell hx v).trans hg), h.gb.setCell hx v⟩
/-- The next state: an outcome of a call that has no error. -/
theorem LawX.next {w5 : World} {B : Nat → Prop} {T : Nat} {s : Md.State} {u : SlV} {wr wx wz : World} {c : Md.Call} {o : Md.Outcome} {nv : SlV} {X : Nat → Prop} (h : LawX w5 B T s u wr) (hE : (Md.outcomes s c).2 = 0) (ho : o ∈ Md.act s c) (h1 : c.call ≤ 9223372036854775807) (h2 : c.conn ≤ 9223372036854775807)
    (hb : Below wr.heap.size wr wx) (hx : ∀ w2, Gb X wx w2 → PoolsAt w2 (valS nv) o.next.pools) (hX : ∀ i, i < wr.heap.size → X i) (hz : Gb (fun i => B i ∧ i ≠ T ∧ i < wr.heap.size) wx wz) (hBlt : ∀ i, B i → i < wr.heap.size) :
    (wz.heap[T]? = some (Z3 s.now s.shut (valS u))) ∧ LawX w5 B T o.next nv (((wz.setCell ⟨T, 0, none⟩ (I64 o.next.now)).setCell ⟨T, 1, none⟩ (.bool o.next.shut)).setCell ⟨T, 2, none⟩ (valS nv)) := by
  have hl := Md.outcomes_ok hE
  have hlt := lt_of_block h.st
  have e1 : wz.heap[T]? = some (Z3 s.now s.shut (valS u)) := (hz.block _ (Nat.lt_of_lt_of_le hlt hb.size) (fun q => q.2.1 rfl)).trans ((hb.block _ hlt).trans h.st)
  have hXT := hX T hlt
  have hg : Gb X wx (((wz.setCell ⟨T, 0, none⟩ (I64 o.next.now)).setCell ⟨T, 1, none⟩ (.bool o.next.shut)).setCell ⟨T, 2, none⟩ (valS nv)) := (((hz.mono (fun i _ q => hX i q.2.2)).setCell (x := ⟨T, 0, none⟩) hXT _).setCell (x := ⟨T, 1, none⟩) hXT _).setCell (x := ⟨T, 2, none⟩) hXT _
  refine ⟨e1, Md.act_good h.good hl.2.1 o ho, Md.act_bnd hl.2.1 h.bnd h1 h2 o ho, h.own, ?_, fun w2 h2 => hx w2 (hg.trans (h2.mono fun i _ q => hX i (hBlt i q))), ?_⟩
  · have q := blk_set (blk_set (blk_set e1 0 (I64 o.next.now)) 1 (.bool o.next.shut)) 2 (valS nv)
    rw [q]
    simp [Z3]
  · exact ((((h.gb.trans (.of_below hb)).trans (hz.mono fun _ _ q => q.1)).setCell (x := ⟨T, 0, none⟩) h.own _).setCell (x := ⟨T, 1, none⟩) h.own _).setCell (x := ⟨T, 2, none⟩) h.own _
end Go.Proofs.Ytaicmiadgnpimaa
