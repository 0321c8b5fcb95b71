/-
  Walks for layer 3 (faults): Root.
-/
import Derived.Test.YtgnhbccmdpkbiaaGreatDoorFaw14
import Derived.Laws.ResultCell
namespace Go.Proofs.YtgnhbccmdpkbiaaGreatDoor
open Go.RowKit Go.Extern.Stop Go.Stop Go.Extern

/-- Where the loop of Root stands. -/
def RootInv (t : Fa.F) (w : World) (v : Value) (wr : World) : Prop := ∃ s : Fa.F, Holds (fun _ => True) wr s [v] ∧ s.ok ∧ s.root = t.root ∧ s.nodes ≤ t.nodes ∧ Below w.heap.size w wr ∧ wr.heap[w.heap.size]? = some (.cells #[I64 0, .string ⟨#[]⟩, I64 0, I64 0] 34 (0, 0)) ∧ ErrT wr
def AsLeaf (x : Fa.Link) (w : World) (tb : Nat) (e : Ending) (w' : World) : Prop := e = .returned (.bool true) ∧ ∃ p, w'.heap[p]? = some (.cells (linkCells x .nilIface 1 0) 86 (0, 0)) ∧ w.grownBy w' (some tb) ∧ w'.heap[tb]? = some (.cells #[.pointer (some ⟨p, 0, none⟩)] 55 (0, 0))
def AsMore (S : Nat → Prop) (c : Fa.F) (w : World) (tb : Nat) (e : Ending) (w' : World) : Prop := e = .returned (.bool true) ∧ ∃ x p cv, w'.heap[p]? = some (.cells (linkCells x cv (c.nodes + 1) c.hgt) 86 (0, 0)) ∧ Holds S w' c [cv] ∧ w.grownBy w' (some tb) ∧ w'.heap[tb]? = some (.cells #[.pointer (some ⟨p, 0, none⟩)] 55 (0, 0))
theorem AsPost.leaf {S : Nat → Prop} {s : Fa.F} {x : Fa.Link} {w w' : World} {tb : Nat} {e : Ending} (h : AsPost S s w tb e w') (hf : s.first = some (x, .nil)) : AsLeaf x w tb e w' := by
  obtain ⟨h1, x', c, p, cv, cs, p1, p2, p3, p4, p5, p6, p7⟩ := h
  rw [hf] at p1
  simp only [Option.some.injEq, Prod.mk.injEq] at p1
  obtain ⟨rfl, rfl⟩ := p1
  obtain rfl : cs = [] := p4
  rcases p5 with ⟨_, rfl⟩ | e
  · exact ⟨h1, p, p3, p6, p7⟩
  · cases e
theorem AsPost.more {S : Nat → Prop} {s c : Fa.F} {x : Fa.Link} {w w' : World} {tb : Nat} {e : Ending} (h : AsPost S s w tb e w') (hf : s.first = some (x, c)) (hc : c ≠ .nil) : AsMore S c w tb e w' := by
  obtain ⟨h1, x', c', p, cv, cs, p1, p2, p3, p4, p5, p6, p7⟩ := h
  rw [hf] at p1
  simp only [Option.some.injEq, Prod.mk.injEq] at p1
  obtain ⟨rfl, rfl⟩ := p1
  rcases p5 with ⟨rfl, _⟩ | rfl
  · exact absurd (by
      have := p4.len
      cases c with
      | nil => rfl
      | link _ _ _ => simp [Fa.F.len] at this
      | join _ _ => simp [Fa.F.len] at this) hc
  · exact ⟨h1, _, p, cv, p3, p4, p6, p7⟩
theorem ne_of_one {S : Nat → Prop} {w : World} {t : Fa.F} {v : Value} (h : Holds S w t [v]) : t ≠ .nil := fun e => by
  have := one_ne h
  rw [e] at this
  exact absurd this (by decide)
set_option maxHeartbeats 4000000 in
set_option maxRecDepth 100000 in
theorem root_any (t : Fa.F) (v : Value) (w : World) (h : Holds (fun _ => True) w t [v]) (hok : t.ok) (hn : t.nodes ≤ 100000) (hE : ErrT w) :
    Calls Tryz.prog 22 #[v] w fun e w' => e = .returned (.tuple #[valLink t.root, I64 0]) ∧ Below w.heap.size w w' := by
  have hb0 : Below w.heap.size w (w.alloc (.cells #[I64 0, .string ⟨#[]⟩, I64 0, I64 0] 34)) := (Below.refl _ _).alloc (Nat.le_refl _) _
  have HC := Lib.hid (chain_any (fun _ => True) t v _ (h.below hb0) hok hn)
  have HST : Hid (∀ w1, Below (w.heap.size + 1) (w.alloc (.cells #[I64 0, .string ⟨#[]⟩, I64 0, I64 0] 34)) w1 → RootInv t w v w1) := fun w1 hb => by
    have hb1 : Below w.heap.size w w1 := hb0.trans (hb.mono (by omega))
    exact ⟨t, h.below hb1, hok, rfl, Nat.le_refl _, hb1, (hb.block _ (by simp)).trans (blk_new _ _), hE.below hb1⟩
  have HL := Lib.hid (lt_of_block (blk_new w (.cells #[I64 0, .string ⟨#[]⟩, I64 0, I64 0] 34)))
  clear h hok hE hb0
  go_enter Tryz.func22, Tryz.ntmps22
  go_wp2_with (go_at_call 36; refine HC.out.mono ?_; rintro e w1 ⟨sv, rfl, _, hb1⟩; have HS1 := Lib.hid (HST.out w1 (by simpa using hb1)); clear hb1)
  go_loopw [0] (fun v wr => Hid (RootInv t w v wr)) (fun v wr => nodesAt wr v)
  case atStart => exact HS1
  case round =>
    obtain ⟨s, h, hok, hrt, hns, hb, hrb, hE⟩ := hrel.out
    have hba : Below wr.heap.size wr (wr.alloc (.cells #[.pointer none] 55)) := (Below.refl _ _).alloc (Nat.le_refl _) _
    have h' : Holds (fun b => b < wr.heap.size) (wr.alloc (.cells #[.pointer none] 55)) s [_] := (h.mono (fun b _ hl => hl)).below hba
    have HA := Lib.hid (asL_any (fun b => b < wr.heap.size) s _ _ wr.heap.size (.pointer none) h' hok (fun b hb => Nat.ne_of_lt hb) (blk_new _ _) (hE.below hba))
    have HNM := Lib.hid (nodesAt_holds h)
    have HB := Lib.hid hb
    have HRB := Lib.hid hrb
    have HEE := Lib.hid hE
    have HOK := Lib.hid hok
    have HRT := Lib.hid hrt
    have HNS := Lib.hid hns
    obtain ⟨⟨x, c⟩, hf⟩ := Fa.first_some hok (ne_of_one h)
    have hrf := Fa.root_first hok hf
    have hfo := Fa.first_ok hok hf
    have HFO := Lib.hid hfo
    have HLT := Lib.hid (lt_of_block hrb)
    have hba2 := Lib.hid hba
    obtain ⟨ty, p, rfl⟩ := h.iface
    by_cases hc : c = .nil
    · subst hc
      have HX := Lib.hid (show t.root = x from by rw [← hrt]; exact hrf.1 rfl)
      have HAL := Lib.hid (HA.out.mono (fun e w' h => h.leaf hf))
      obtain ⟨kd, op, bk, cn⟩ := x
      clear h h' hok hrt hns hb hrb hE hba hrel HA hrf hfo hf HST HC HS1
      go_wp2_with (go_at_call 25; refine HAL.out.mono ?_; rintro e w3 ⟨rfl, p3, q3, q6, q7⟩; have b0 := blk_cell q7 0; have k1 := blk_cell q3 1; have k2 := blk_cell q3 2; have k3 := blk_cell q3 3; have k4 := blk_cell q3 4; have k5 := blk_cell q3 5; have hr := (q6.block w.heap.size (by have := HLT.out; simp; omega) (fun e => by injection e with e; have := HLT.out; omega)).trans ((hba2.out.block _ HLT.out).trans HRB.out); have r0 := blk_cell hr 0; have r1 := blk_cell hr 1; have r2 := blk_cell hr 2; have r3 := blk_cell hr 3; have s0 := blk_free hr 0; have s1 := blk_free hr 1; have s2 := blk_free hr 2; have s3 := blk_free hr 3; simp only [linkCells, List.getElem?_toArray, List.getElem?_cons_succ, List.getElem?_cons_zero] at b0 k1 k2 k3 k4 k5 r0 r1 r2 r3; have HB3 := Lib.hid (HB.out.trans ((hba2.out.mono HB.out.size).grown q6 (by have := HB.out.size; simp; omega) (fun k hk => by injection hk with hk; have := HB.out.size; omega))); have HR3 := Lib.hid hr; clear hr q3 q6 q7)
      have hfin := blk_set (blk_set (blk_set (blk_set HR3.out 0 (I64 kd)) 1 (.string op)) 2 (I64 bk)) 3 (I64 cn)
      have z0 := blk_cell hfin 0
      have z1 := blk_cell hfin 1
      have z2 := blk_cell hfin 2
      have z3 := blk_cell hfin 3
      simp only [List.setIfInBounds_toArray, List.set_cons_zero, List.set_cons_succ, List.getElem?_toArray, List.getElem?_cons_succ, List.getElem?_cons_zero] at z0 z1 z2 z3
      clear hfin
      try simp only [Exit.inBlock, Exit.then]
      refine bodyPost_ret (v := .tuple #[.agg #[I64 kd, .string op, I64 bk, I64 cn], I64 0]) (by rw [results_cell_tmp rfl]; go_simp) rfl ?_
      exact ⟨by rw [HX.out]; rfl, (((HB3.out.setCell (Nat.le_refl _) _).setCell (Nat.le_refl _) _).setCell (Nat.le_refl _) _).setCell (Nat.le_refl _) _⟩
    · have HAM := Lib.hid (HA.out.mono (fun e w' h => h.more hf hc))
      have HRF := Lib.hid ((hrf.2 hc).symm.trans hrt)
      clear h h' hok hrt hns hb hrb hE hba hrel HA hf HST HC HS1 hc
      go_wp2_with (go_at_call 25; refine HAM.out.mono ?_; rintro e w3 ⟨rfl, x, p3, cv, q3, q5, q6, q7⟩; have b0 := blk_cell q7 0; have k5 := blk_cell q3 5; have HH5 := Lib.hid q5; obtain ⟨ty2, p2, rfl⟩ := q5.iface; have hr := (q6.block w.heap.size (by have := HLT.out; simp; omega) (fun e => by injection e with e; have := HLT.out; omega)).trans ((hba2.out.block _ HLT.out).trans HRB.out); have HR3 := Lib.hid hr; simp only [linkCells, List.getElem?_toArray, List.getElem?_cons_succ, List.getElem?_cons_zero] at b0 k5; have HQ6 := Lib.hid q6; have HB3 := Lib.hid (HB.out.trans ((hba2.out.mono HB.out.size).grown q6 (by have := HB.out.size; simp; omega) (fun k hk => by injection hk with hk; have := HB.out.size; omega))); clear hr q3 q5 q6 q7)
      case roundEnd =>
        refine ⟨⟨c, HH5.out.mono (fun _ _ _ => trivial), HFO.out.1, HRF.out, ?_, HB3.out, HR3.out, (HEE.out.below hba2.out).grown HQ6.out (cell_lt HEE.out)⟩, ?_⟩
        · have h1 := HFO.out.2.2.2
          have h2 := HNS.out
          omega
        · rw [nodesAt_holds HH5.out, HNM.out]
          exact HFO.out.2.2.2
end Go.Proofs.YtgnhbccmdpkbiaaGreatDoor
