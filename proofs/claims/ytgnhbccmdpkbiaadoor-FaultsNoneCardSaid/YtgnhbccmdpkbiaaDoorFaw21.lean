/-
  Walks for layer 3 (faults): First of the program and of the reference; Root of the reference.
-/
import Derived.Test.YtgnhbccmdpkbiaaDoorFaSh
import Derived.Test.YtgnhbccmdpkbiaaDoorFaL1
namespace Go.Proofs.YtgnhbccmdpkbiaaDoor
open Go.RowKit Go.Shelf

def hitN (k : Int) (x : Fa.Node) : Bool := x.joined == 0 && x.link.kind == k
theorem find_hit {k : Int} {L : List Fa.Node} {q : Nat} (hq : q < L.length) (hno : ∀ j, j < q → (hj : j < L.length) → hitN k L[j] = false) (hm : hitN k L[q] = true) : Fa.findL k L = some L[q].link := by
  have h1 : L = L.take q ++ L[q] :: L.drop (q + 1) := by rw [← List.drop_eq_getElem_cons hq, List.take_append_drop]
  have h2 : (L.take q).find? (hitN k) = none := by
    rw [List.find?_eq_none]
    intro x hx
    obtain ⟨j, hj, rfl⟩ := List.getElem_of_mem hx
    rw [List.length_take] at hj
    rw [List.getElem_take, hno j (by omega) (by omega)]
    decide
  have h3 : L.find? (hitN k) = some L[q] := by
    conv => lhs; rw [h1]
    rw [List.find?_append, h2, List.find?_cons, hm]
    rfl
  show (L.find? (hitN k)).map _ = _
  rw [h3]; rfl
theorem find_no {k : Int} {L : List Fa.Node} (hno : ∀ j (hj : j < L.length), hitN k L[j] = false) : Fa.findL k L = none := by
  have h3 : L.find? (hitN k) = none := by
    rw [List.find?_eq_none]
    intro x hx
    obtain ⟨j, hj, rfl⟩ := List.getElem_of_mem hx
    rw [hno j hj]
    decide
  show (L.find? (hitN k)).map _ = _
  rw [h3]; rfl
def firstR (k : Int) (L : List Fa.Node) : Fa.Link × Int := match Fa.findL k L with
  | some x => (x, 0)
  | none => (Fa.Link.zero, 4)
theorem first_hit {k : Int} {L : List Fa.Node} {x : Fa.Link} (h : Fa.findL k L = some x) : firstR k L = (x, 0) := by unfold firstR; rw [h]
theorem first_no {k : Int} {L : List Fa.Node} (h : Fa.findL k L = none) : firstR k L = (Fa.Link.zero, 4) := by unfold firstR; rw [h]
def FirstPost (k : Int) (L : List Fa.Node) (w : World) (e : Ending) (w' : World) : Prop := e = .returned (.tuple #[valLink (firstR k L).1, I64 (firstR k L).2]) ∧ Below w.heap.size w w'
theorem four_cells {w : World} {b : Nat} {v0 v1 v2 v3 : Value} {T : TypeId} (h : w.heap[b]? = some (.cells #[v0, v1, v2, v3] T (0, 0))) (u0 u1 u2 u3 : Value) :
    ((((w.setCell ⟨b, 0, none⟩ u0).setCell ⟨b, 1, none⟩ u1).setCell ⟨b, 2, none⟩ u2).setCell ⟨b, 3, none⟩ u3).heap[b]? = some (.cells #[u0, u1, u2, u3] T (0, 0)) :=
  blk_set (blk_set (blk_set (blk_set h 0 u0) 1 u1) 2 u2) 3 u3
theorem below_four {B b : Nat} {w0 w : World} (h : Below B w0 w) (hb : B ≤ b) (u0 u1 u2 u3 : Value) : Below B w0 ((((w.setCell ⟨b, 0, none⟩ u0).setCell ⟨b, 1, none⟩ u1).setCell ⟨b, 2, none⟩ u2).setCell ⟨b, 3, none⟩ u3) :=
  (((h.setCell hb u0).setCell hb u1).setCell hb u2).setCell hb u3

--!def RCELL(#1,#2) try simp only [Exit.inBlock, Exit.then]; have hfin := four_cells #1 #2; have z0 := blk_cell hfin 0; have z1 := blk_cell hfin 1; have z2 := blk_cell hfin 2; have z3 := blk_cell hfin 3; simp only [List.getElem?_toArray, List.getElem?_cons_succ, List.getElem?_cons_zero] at z0 z1 z2 z3
set_option maxHeartbeats 4000000 in
set_option maxRecDepth 100000 in
theorem pfirst_any (S : Nat → Prop) (t : Fa.F) (v : Value) (k : Int) (w : World) (h : Holds S w t [v]) (hok : t.ok) (hn : t.nodes ≤ 100000) : Calls Tryd.prog 7 #[v, I64 k] w (FirstPost k (t.chain 0) w) := by
  have hb0 := (Below.refl w.heap.size w).alloc (Nat.le_refl _) (.cells #[I64 0, .string ⟨#[]⟩, I64 0, I64 0] 24)
  have HB0 := Lib.hid hb0
  have HRB := Lib.hid (blk_new w (.cells #[I64 0, .string ⟨#[]⟩, I64 0, I64 0] 24))
  have HC := Lib.hid (chain_any S t v _ (h.below hb0) hok hn)
  have hne : t.chain 0 ≠ [] := fun e => by
    have h1 := Fa.chain_length t 0
    rw [e] at h1
    have := one_ne h
    simp at h1
    omega
  have hl : (t.chain 0).length ≤ 100000 := by rw [Fa.chain_length]; exact hn
  unfold ChainPost at HC
  generalize t.chain 0 = L at HC hne hl ⊢
  clear h hok hb0 hn
  go_enter Tryd.func7, Tryd.ntmps7
  go_wp2_with fail
  refine HC.out.mono ?_
  rintro e w1 ⟨sv, rfl, hown, hb1⟩
  obtain ⟨b, o, cap, rfl, hb, hc⟩ := (hown.reads encNode_len).form hne
  have HCC := Lib.hid hc
  have HB1 := Lib.hid (HB0.out.trans (hb1.mono HB0.out.size))
  have HR1 := Lib.hid ((hb1.block w.heap.size (by simp)).trans HRB.out)
  clear hc hown hb1 hne
  go_wp2
  go_loopw [21] (fun i wr => ∃ q : Nat, q ≤ L.length ∧ i = .int .i64 q ∧ Hid (Below w1.heap.size w1 wr) ∧ Hid (∀ j, j < q → (hj : j < L.length) → hitN k L[j] = false)) (fun i _ => L.length - (intOf i).toNat)
  case atStart => exact ⟨0, Nat.zero_le _, rfl, Below.refl _ _, fun j h => absurd h (Nat.not_lt_zero _)⟩
  case round =>
    obtain ⟨q, hq, rfl, hwr, hno⟩ := hrel
    have hrb := (hwr.out.block _ (lt_of_block HR1.out)).trans HR1.out
    have HBW := Lib.hid (HB1.out.trans (hwr.out.mono HB1.out.size))
    have r0 := blk_cell hrb 0
    have r1 := blk_cell hrb 1
    have r2 := blk_cell hrb 2
    have r3 := blk_cell hrb 3
    have s0 := blk_free hrb 0
    have s1 := blk_free hrb 1
    have s2 := blk_free hrb 2
    have s3 := blk_free hrb 3
    simp only [List.getElem?_toArray, List.getElem?_cons_succ, List.getElem?_cons_zero] at r0 r1 r2 r3
    have hne1 := lt_of_block hrb
    have HRBW := Lib.hid hrb
    clear hrb
    by_cases hlt : q < L.length
    · obtain ⟨p0, p1, p2, p3, p4, p5⟩ := cells1 hb hwr.out HCC.out q hlt
      have i1 : (q : Int) < (L.length : Int) := by omega
      have HN2 : hitN k L[q] = false → Hid (∀ j, j < q + 1 → (hj : j < L.length) → hitN k L[j] = false) := by
        intro h j hj hjl
        by_cases e : j = q
        · subst e; exact h
        · exact hno.out j (by omega) hjl
      have HAL := Lib.hid (hwr.out.alloc hwr.out.size (.cells #[I64 L[q].depth, I64 L[q].joined, I64 L[q].link.kind, .string L[q].link.op, I64 L[q].link.backend, I64 L[q].link.conn] 67))
      by_cases hj0 : L[q].joined = 0
      · have hje : (L[q].joined == 0) = true := by rw [beq_iff_eq]; exact hj0
        by_cases hk : L[q].link.kind = k
        · have HX := Lib.hid (first_hit (find_hit hlt hno.out (by simp [hitN, hj0, hk])))
          have hke : (L[q].link.kind == k) = true := by rw [beq_iff_eq]; exact hk
          clear HN2 hno hj0 hk HAL
          generalize L[q] = x at p0 p1 p2 p3 p4 p5 hje hke HX
          obtain ⟨dp, jn, ⟨kd, op, bk, cn⟩⟩ := x
          dsimp only at p0 p1 p2 p3 p4 p5 hje hke HX
          go_wp2
          have hfin := four_cells HRBW.out (I64 kd) (.string op) (I64 bk) (I64 cn)
          have HFIN := Lib.hid ((Below.heap_alloc _ (.cells #[I64 dp, I64 jn, I64 kd, .string op, I64 bk, I64 cn] 67) _ (lt_of_block hfin)).trans hfin)
          have z0 := blk_cell HFIN.out 0
          have z1 := blk_cell HFIN.out 1
          have z2 := blk_cell HFIN.out 2
          have z3 := blk_cell HFIN.out 3
          simp only [List.getElem?_toArray, List.getElem?_cons_succ, List.getElem?_cons_zero] at z0 z1 z2 z3
          clear hfin r0 r1 r2 r3 s0 s1 s2 s3 p0 p1 p2 p3 p4 p5
          try simp only [Exit.inBlock, Exit.then]
          refine bodyPost_ret (v := .tuple #[.agg #[I64 kd, .string op, I64 bk, I64 cn], I64 0]) (by rw [results_cell_tmp rfl]; go_simp) rfl ?_
          have hb4 := below_four HBW.out (Nat.le_refl _) (I64 kd) (.string op) (I64 bk) (I64 cn)
          exact ⟨by rw [HX.out]; rfl, hb4.alloc hb4.size _⟩
        · have hke : (L[q].link.kind == k) = false := by rw [beq_eq_false_iff_ne]; exact hk
          have HN := HN2 (by simp [hitN, hke])
          clear HN2 hno hj0 hk
          go_wp2
          case roundEnd => exact ⟨⟨q + 1, by omega, by go_num, HAL, HN⟩, by simp [intOf]; omega⟩
      · have hje : (L[q].joined == 0) = false := by rw [beq_eq_false_iff_ne]; exact hj0
        have HN := HN2 (by simp [hitN, hje])
        clear HN2 hno hj0
        go_wp2
        case roundEnd => exact ⟨⟨q + 1, by omega, by go_num, HAL, HN⟩, by simp [intOf]; omega⟩
    · have HX := Lib.hid (first_no (find_no (L := L) (k := k) (fun j hj => hno.out j (by omega) hj)))
      have i1 : ¬ (q : Int) < (L.length : Int) := by omega
      clear hno
      go_wp2
      have hfin := four_cells HRBW.out (I64 0) (.string ⟨#[]⟩) (I64 0) (I64 0)
      have HFIN := Lib.hid hfin
      have z0 := blk_cell HFIN.out 0
      have z1 := blk_cell HFIN.out 1
      have z2 := blk_cell HFIN.out 2
      have z3 := blk_cell HFIN.out 3
      simp only [List.getElem?_toArray, List.getElem?_cons_succ, List.getElem?_cons_zero] at z0 z1 z2 z3
      clear hfin r0 r1 r2 r3 s0 s1 s2 s3
      try simp only [Exit.inBlock, Exit.then]
      refine bodyPost_ret (v := .tuple #[.agg #[I64 0, .string ⟨#[]⟩, I64 0, I64 0], I64 4]) (by rw [results_cell_tmp rfl]; go_simp) rfl ?_
      exact ⟨by rw [HX.out]; rfl, below_four HBW.out (Nat.le_refl _) _ _ _ _⟩

/-- Root of the reference, of the chain of a fault. -/
theorem rootL_at : ∀ (L : List Fa.Node) (i : Nat) (hi : i < L.length), Fa.rootL (L.drop i) = if h : i + 1 < L.length then (if L[i].depth < L[i + 1].depth then Fa.rootL (L.drop (i + 1)) else L[i].link) else L[i].link := by
  intro L i hi
  rw [List.drop_eq_getElem_cons hi]
  by_cases h : i + 1 < L.length
  · rw [dif_pos h, List.drop_eq_getElem_cons h, Fa.rootL]
  · rw [dif_neg h, List.drop_of_length_le (by omega), Fa.rootL]
end Go.Proofs.YtgnhbccmdpkbiaaDoor
