/-
  Walks for layer 3 (faults): check, Wrap.
-/
import Derived.Test.YtgnhbccmdpkbiaaDoorFaw0
import Derived.Test.YtgnhbccmdpkbiaaDoorW5
namespace Go.Proofs.YtgnhbccmdpkbiaaDoor
open Go.RowKit

def checkE (x : Fa.Link) : Int := if Fa.okName x = false then 6 else if Fa.okNum x = false then 7 else 0
theorem numOut (k b c : Int) (o : ByteArray) (h : Fa.okNum ⟨k, o, b, c⟩ = false) : k < 1 ∨ (¬ k < 1 ∧ 17 ≤ k) ∨ (¬ k < 1 ∧ ¬ 17 ≤ k ∧ b < -1) ∨ (¬ k < 1 ∧ ¬ 17 ≤ k ∧ ¬ b < -1 ∧ 16 ≤ b) ∨
    (¬ k < 1 ∧ ¬ 17 ≤ k ∧ ¬ b < -1 ∧ ¬ 16 ≤ b ∧ c < 0) ∨ (¬ k < 1 ∧ ¬ 17 ≤ k ∧ ¬ b < -1 ∧ ¬ 16 ≤ b ∧ ¬ c < 0 ∧ 1000000000 < c) := by
  simp only [Fa.okNum, Bool.and_eq_false_iff, decide_eq_false_iff_not] at h
  omega
theorem numIn' (k b c : Int) (o : ByteArray) (h : Fa.okNum ⟨k, o, b, c⟩ = true) : ¬ k < 1 ∧ ¬ 17 ≤ k ∧ ¬ b < -1 ∧ ¬ 16 ≤ b ∧ ¬ c < 0 ∧ ¬ 1000000000 < c := by
  simp only [Fa.okNum, Bool.and_eq_true, decide_eq_true_eq] at h
  omega
theorem boxCells {w w1 : World} {k b c : Int} {o : ByteArray} {T : TypeId} (hb1 : Below (w.alloc (.cells #[I64 k, .string o, I64 b, I64 c] T)).heap.size (w.alloc (.cells #[I64 k, .string o, I64 b, I64 c] T)) w1) :
    w1.cell? ⟨w.heap.size, 0, none⟩ = some (I64 k) ∧ w1.cell? ⟨w.heap.size, 1, none⟩ = some (.string o) ∧ w1.cell? ⟨w.heap.size, 2, none⟩ = some (I64 b) ∧ w1.cell? ⟨w.heap.size, 3, none⟩ = some (I64 c) := by
  refine ⟨?_, ?_, ?_, ?_⟩
  all_goals exact (hb1.cell (p := ⟨w.heap.size, _, none⟩) (by simp)).trans (by rw [World.cell?_alloc_at _ _ _ _ rfl]; rfl)

set_option maxRecDepth 100000 in
theorem check_any (x : Fa.Link) (w : World) (hs : x.op.size ≤ maxLen) : Calls Tryd.prog 29 #[valLink x] w fun e w' => e = .returned (I64 (checkE x)) ∧ Below w.heap.size w w' := by
  obtain ⟨k, o, b, c⟩ := x
  have HB := Lib.hid (show Below w.heap.size w (w.alloc (.cells #[I64 k, .string o, I64 b, I64 c] 24)) from (Below.refl _ _).alloc (Nat.le_refl _) _)
  unfold valLink
  dsimp only at hs ⊢
  cases hn : Fa.okName ⟨k, o, b, c⟩ with
  | false =>
    have HS := Lib.hid (show checkE ⟨k, o, b, c⟩ = 6 from by simp [checkE, hn])
    have HW : Hid (∀ w, Calls Tryd.prog 40 #[.string o] w fun e w' => e = .returned (.bool false) ∧ Below w.heap.size w w') := fun w => by
      have h := name_any o w hs
      rw [show Wd.name o.data.toList = false from hn] at h
      exact h
    clear hn
    go_enter Tryd.func29, Tryd.ntmps29; go_wp2_with (go_at_call 40; refine (HW.out _).mono ?_; rintro e w1 ⟨rfl, hb1⟩; obtain ⟨c0, c1, c2, c3⟩ := boxCells hb1; have hb2 := HB.out.trans (hb1.mono HB.out.size); clear hb1); go_ret; exact ⟨by rw [HS.out]; rfl, hb2⟩
  | true =>
    have HW : Hid (∀ w, Calls Tryd.prog 40 #[.string o] w fun e w' => e = .returned (.bool true) ∧ Below w.heap.size w w') := fun w => by
      have h := name_any o w hs
      rw [show Wd.name o.data.toList = true from hn] at h
      exact h
    cases hq : Fa.okNum ⟨k, o, b, c⟩ with
    | true =>
      have HS := Lib.hid (show checkE ⟨k, o, b, c⟩ = 0 from by simp [checkE, hn, hq])
      obtain ⟨h1, h2, h3, h4, h5, h6⟩ := numIn' k b c o hq
      clear hn hq
      go_enter Tryd.func29, Tryd.ntmps29; go_wp2_with (go_at_call 40; refine (HW.out _).mono ?_; rintro e w1 ⟨rfl, hb1⟩; obtain ⟨c0, c1, c2, c3⟩ := boxCells hb1; have hb2 := HB.out.trans (hb1.mono HB.out.size); clear hb1); go_ret; exact ⟨by rw [HS.out]; rfl, hb2⟩
    | false =>
      have HS := Lib.hid (show checkE ⟨k, o, b, c⟩ = 7 from by simp [checkE, hn, hq])
      have h0 := numOut k b c o hq
      clear hn hq
      rcases h0 with h1 | ⟨h1, h2⟩ | ⟨h1, h2, h3⟩ | ⟨h1, h2, h3, h4⟩ | ⟨h1, h2, h3, h4, h5⟩ | ⟨h1, h2, h3, h4, h5, h6⟩
      · go_enter Tryd.func29, Tryd.ntmps29; go_wp2_with (go_at_call 40; refine (HW.out _).mono ?_; rintro e w1 ⟨rfl, hb1⟩; obtain ⟨c0, c1, c2, c3⟩ := boxCells hb1; have hb2 := HB.out.trans (hb1.mono HB.out.size); clear hb1); go_ret; exact ⟨by rw [HS.out]; rfl, hb2⟩
      · go_enter Tryd.func29, Tryd.ntmps29; go_wp2_with (go_at_call 40; refine (HW.out _).mono ?_; rintro e w1 ⟨rfl, hb1⟩; obtain ⟨c0, c1, c2, c3⟩ := boxCells hb1; have hb2 := HB.out.trans (hb1.mono HB.out.size); clear hb1); go_ret; exact ⟨by rw [HS.out]; rfl, hb2⟩
      · go_enter Tryd.func29, Tryd.ntmps29; go_wp2_with (go_at_call 40; refine (HW.out _).mono ?_; rintro e w1 ⟨rfl, hb1⟩; obtain ⟨c0, c1, c2, c3⟩ := boxCells hb1; have hb2 := HB.out.trans (hb1.mono HB.out.size); clear hb1); go_ret; exact ⟨by rw [HS.out]; rfl, hb2⟩
      · go_enter Tryd.func29, Tryd.ntmps29; go_wp2_with (go_at_call 40; refine (HW.out _).mono ?_; rintro e w1 ⟨rfl, hb1⟩; obtain ⟨c0, c1, c2, c3⟩ := boxCells hb1; have hb2 := HB.out.trans (hb1.mono HB.out.size); clear hb1); go_ret; exact ⟨by rw [HS.out]; rfl, hb2⟩
      · go_enter Tryd.func29, Tryd.ntmps29; go_wp2_with (go_at_call 40; refine (HW.out _).mono ?_; rintro e w1 ⟨rfl, hb1⟩; obtain ⟨c0, c1, c2, c3⟩ := boxCells hb1; have hb2 := HB.out.trans (hb1.mono HB.out.size); clear hb1); go_ret; exact ⟨by rw [HS.out]; rfl, hb2⟩
      · go_enter Tryd.func29, Tryd.ntmps29; go_wp2_with (go_at_call 40; refine (HW.out _).mono ?_; rintro e w1 ⟨rfl, hb1⟩; obtain ⟨c0, c1, c2, c3⟩ := boxCells hb1; have hb2 := HB.out.trans (hb1.mono HB.out.size); clear hb1); go_ret; exact ⟨by rw [HS.out]; rfl, hb2⟩

def wrapE (x : Fa.Link) (c : Fa.F) : Int := if checkE x = 0 then (if 40 < c.nodes + 1 ∨ 12 < c.hgt then 3 else 0) else checkE x
def WrapPost (x : Fa.Link) (c : Fa.F) (cv : Value) (w : World) (e : Ending) (w' : World) : Prop :=
  (wrapE x c ≠ 0 → e = .returned (.tuple #[.nilIface, I64 (wrapE x c)])) ∧
  (wrapE x c = 0 → ∃ b, e = .returned (.tuple #[linkPtr b, I64 0]) ∧ w.heap.size ≤ b ∧ w'.heap[b]? = some (.cells (linkCells x cv (c.nodes + 1) c.hgt) 35 (0, 0))) ∧ Below w.heap.size w w'
/-- What Wrap asks of a cause. -/
def CauseAt (S : Nat → Prop) (w : World) (c : Fa.F) (cv : Value) : Prop := c = .nil ∧ cv = .nilIface ∨ c ≠ .nil ∧ Holds S w c [cv]
theorem Holds.iface {S : Nat → Prop} {w : World} {t : Fa.F} {v : Value} (h : Holds S w t [v]) : ∃ ty p, v = .iface ty p := by
  rcases h.one with ⟨x, c, b, cv, cs, _, rfl, _⟩ | ⟨k, b, g, o, cap, ks, _, rfl, _⟩
  · exact ⟨_, _, rfl⟩
  · exact ⟨_, _, rfl⟩
theorem nodes_pos {t : Fa.F} (h : t ≠ .nil) : 1 ≤ t.nodes := by
  cases t with
  | nil => exact absurd rfl h
  | link _ _ _ => simp only [Fa.F.nodes]; omega
  | join _ _ => simp only [Fa.F.nodes]; omega
theorem hgt_pos {t : Fa.F} (h : t ≠ .nil) : 1 ≤ t.hgt := by
  cases t with
  | nil => exact absurd rfl h
  | link _ _ _ => simp only [Fa.F.hgt]; omega
  | join _ _ => simp only [Fa.F.hgt]; omega

set_option maxRecDepth 100000 in
theorem wrap_nil (x : Fa.Link) (w : World) (hs : x.op.size ≤ maxLen) : Calls Tryd.prog 10 #[valLink x, .nilIface] w (WrapPost x .nil .nilIface w) := by
  have HC := Lib.hid fun w => check_any x w hs
  have HX : Hid (wrapE x .nil = checkE x) := by
    show _ = _
    unfold wrapE
    split
    · rename_i h; rw [h]; rfl
    · rfl
  have HP : Hid (∀ b w', checkE x = 0 → w.heap.size ≤ b → Below w.heap.size w w' → w'.heap[b]? = some (.cells (linkCells x .nilIface 1 0) 35 (0, 0)) → WrapPost x .nil .nilIface w (.returned (.tuple #[linkPtr b, I64 0])) w') :=
    fun b w' h0 h1 h2 h3 => ⟨fun h => absurd (HX.out.trans h0) h, fun _ => ⟨b, rfl, h1, h3⟩, h2⟩
  have HQ : Hid (∀ w', checkE x ≠ 0 → Below w.heap.size w w' → WrapPost x .nil .nilIface w (.returned (.tuple #[.nilIface, I64 (checkE x)])) w') :=
    fun w' h0 h2 => ⟨fun _ => by rw [HX.out], fun h => absurd (HX.out.symm.trans h) h0, h2⟩
  clear HX
  obtain ⟨k, o, b, c⟩ := x
  unfold valLink linkCells at *
  dsimp only at HP hs ⊢
  have HB := Lib.hid (show Below w.heap.size w (w.alloc (.cells #[I64 k, .string o, I64 b, I64 c] 24)) from (Below.refl _ _).alloc (Nat.le_refl _) _)
  generalize WrapPost ⟨k, o, b, c⟩ .nil .nilIface w = R at HP HQ ⊢
  generalize checkE ⟨k, o, b, c⟩ = q at HC HP HQ
  have HP' := HP
  by_cases hq : q = 0
  · subst hq
    go_enter Tryd.func10, Tryd.ntmps10
    go_wp2_with (go_at_call 29; refine (HC.out _).mono ?_; rintro e w1 ⟨rfl, hb1⟩; obtain ⟨c0, c1, c2, c3⟩ := boxCells hb1; have hb2 := HB.out.trans (hb1.mono HB.out.size); clear hb1)
    exact HP.out _ _ (by trivial) hb2.size (hb2.alloc hb2.size _) (blk_new _ _)
  · have hq1 : (q != 0) = true := by rw [bne_iff_ne]; exact hq
    have HN := Lib.hid hq
    clear hq
    go_enter Tryd.func10, Tryd.ntmps10
    go_wp2_with (go_at_call 29; refine (HC.out _).mono ?_; rintro e w1 ⟨rfl, hb1⟩; obtain ⟨c0, c1, c2, c3⟩ := boxCells hb1; have hb2 := HB.out.trans (hb1.mono HB.out.size); clear hb1)
    exact HQ.out _ HN.out hb2

theorem carry4 {w w1 : World} {b : Nat} {v0 v1 v2 v3 : Value} (h : Below w.heap.size w w1) (c0 : w.cell? ⟨b, 0, none⟩ = some v0) (c1 : w.cell? ⟨b, 1, none⟩ = some v1) (c2 : w.cell? ⟨b, 2, none⟩ = some v2) (c3 : w.cell? ⟨b, 3, none⟩ = some v3) :
    w1.cell? ⟨b, 0, none⟩ = some v0 ∧ w1.cell? ⟨b, 1, none⟩ = some v1 ∧ w1.cell? ⟨b, 2, none⟩ = some v2 ∧ w1.cell? ⟨b, 3, none⟩ = some v3 := by
  have hl : b < w.heap.size := by
    rcases Nat.lt_or_ge b w.heap.size with h | h
    · exact h
    · simp [World.cell?, Array.getElem?_eq_none h] at c0
  exact ⟨(h.cell (p := ⟨b, _, none⟩) hl).trans c0, (h.cell (p := ⟨b, _, none⟩) hl).trans c1, (h.cell (p := ⟨b, _, none⟩) hl).trans c2, (h.cell (p := ⟨b, _, none⟩) hl).trans c3⟩
set_option maxRecDepth 100000 in
theorem wrap_some (S : Nat → Prop) (x : Fa.Link) (c : Fa.F) (cv : Value) (w : World) (hs : x.op.size ≤ maxLen) (h : Holds S w c [cv]) (hn : c.nodes ≤ 1000) : Calls Tryd.prog 10 #[valLink x, cv] w (WrapPost x c cv w) := by
  have HC := Lib.hid fun w => check_any x w hs
  have hne : c ≠ .nil := fun e => by subst e; cases h
  have HM : Hid (∀ w', w' = w.alloc (.cells #[I64 x.kind, .string x.op, I64 x.backend, I64 x.conn] 24) → Calls Tryd.prog 24 #[cv] w' fun e w'' => e = .returned (.tuple #[I64 c.nodes, I64 (c.hgt - 1 : Nat)]) ∧ Below w'.heap.size w' w'') :=
    fun w' e => measure_any S c cv w' (h.below (by subst e; exact (Below.refl _ _).alloc (Nat.le_refl _) _))
  have HX : Hid (wrapE x c = if checkE x = 0 then (if 40 < c.nodes + 1 ∨ 12 < c.hgt then 3 else 0) else checkE x) := rfl
  have HP : Hid (∀ b w', wrapE x c = 0 → w.heap.size ≤ b → Below w.heap.size w w' → w'.heap[b]? = some (.cells (linkCells x cv (c.nodes + 1) c.hgt) 35 (0, 0)) → WrapPost x c cv w (.returned (.tuple #[linkPtr b, I64 0])) w') :=
    fun b w' h0 h1 h2 h3 => ⟨fun h => absurd h0 h, fun _ => ⟨b, rfl, h1, h3⟩, h2⟩
  have HQ : Hid (∀ w' q, wrapE x c = q → q ≠ 0 → Below w.heap.size w w' → WrapPost x c cv w (.returned (.tuple #[.nilIface, I64 q])) w') :=
    fun w' q h0 h1 h2 => ⟨fun _ => by rw [h0], fun h => absurd (h0.symm.trans h) h1, h2⟩
  obtain ⟨ty, p, rfl⟩ := h.iface
  have hp := nodes_pos hne
  have hg := hgt_pos hne
  have hgn := Fa.hgt_le_nodes c
  clear h hne
  obtain ⟨k, o, b, cc⟩ := x
  unfold valLink
  unfold linkCells at HP
  dsimp only at HP hs HM ⊢
  have HB := Lib.hid (show Below w.heap.size w (w.alloc (.cells #[I64 k, .string o, I64 b, I64 cc] 24)) from (Below.refl _ _).alloc (Nat.le_refl _) _)
  generalize WrapPost ⟨k, o, b, cc⟩ c (.iface ty p) w = R at HP HQ ⊢
  generalize hE : wrapE ⟨k, o, b, cc⟩ c = E at HP HQ HX
  clear hE
  obtain ⟨m, hm⟩ : ∃ m, m = c.nodes := ⟨_, rfl⟩
  obtain ⟨d, hd⟩ : ∃ d, c.hgt = d + 1 := ⟨c.hgt - 1, by omega⟩
  rw [← hm] at HX HP HM hp hn
  rw [hd] at HX HP HM
  rw [Nat.add_sub_cancel] at HM
  have hd2 : d ≤ 1000 := by omega
  clear hg hgn hm hd
  unfold valLink at HC
  dsimp only at HC
  generalize checkE ⟨k, o, b, cc⟩ = q at HC HX
  have hm1 : ((m : Int) == 0) = false := by rw [beq_eq_false_iff_ne]; omega
  by_cases hq : q = 0
  · subst hq
    by_cases h4 : 40 < m + 1
    · have HE := Lib.hid (show E = 3 from by rw [HX.out, if_pos rfl, if_pos (.inl h4)])
      have i4 : (40 : Int) < (m : Int) + 1 := by omega
      go_enter Tryd.func10, Tryd.ntmps10
      go_wp2_with (first | (go_at_call 24; refine (HM.out _ (by rfl)).mono ?_; rintro e w1 ⟨rfl, hb1⟩; obtain ⟨c0, c1, c2, c3⟩ := boxCells hb1; have hb2 := HB.out.trans (hb1.mono HB.out.size); clear hb1) | (go_at_call 29; refine (HC.out _).mono ?_; rintro e w2 ⟨rfl, hb3⟩; obtain ⟨d0, d1, d2, d3⟩ := carry4 hb3 c0 c1 c2 c3; have hb4 := hb2.trans (hb3.mono hb2.size); clear hb3 c0 c1 c2 c3))
      exact HQ.out _ 3 HE.out (by decide) hb4
    · have i4 : ¬ (40 : Int) < (m : Int) + 1 := by omega
      by_cases h5 : 12 < d + 1
      · have HE := Lib.hid (show E = 3 from by rw [HX.out, if_pos rfl, if_pos (.inr h5)])
        have i5 : (12 : Int) < (d : Int) + 1 := by omega
        go_enter Tryd.func10, Tryd.ntmps10
        go_wp2_with (first | (go_at_call 24; refine (HM.out _ (by rfl)).mono ?_; rintro e w1 ⟨rfl, hb1⟩; obtain ⟨c0, c1, c2, c3⟩ := boxCells hb1; have hb2 := HB.out.trans (hb1.mono HB.out.size); clear hb1) | (go_at_call 29; refine (HC.out _).mono ?_; rintro e w2 ⟨rfl, hb3⟩; obtain ⟨d0, d1, d2, d3⟩ := carry4 hb3 c0 c1 c2 c3; have hb4 := hb2.trans (hb3.mono hb2.size); clear hb3 c0 c1 c2 c3))
        exact HQ.out _ 3 HE.out (by decide) hb4
      · have HE := Lib.hid (show E = 0 from by rw [HX.out, if_pos rfl, if_neg (by omega)])
        have i5 : ¬ (12 : Int) < (d : Int) + 1 := by omega
        go_enter Tryd.func10, Tryd.ntmps10
        go_wp2_with (first | (go_at_call 24; refine (HM.out _ (by rfl)).mono ?_; rintro e w1 ⟨rfl, hb1⟩; obtain ⟨c0, c1, c2, c3⟩ := boxCells hb1; have hb2 := HB.out.trans (hb1.mono HB.out.size); clear hb1) | (go_at_call 29; refine (HC.out _).mono ?_; rintro e w2 ⟨rfl, hb3⟩; obtain ⟨d0, d1, d2, d3⟩ := carry4 hb3 c0 c1 c2 c3; have hb4 := hb2.trans (hb3.mono hb2.size); clear hb3 c0 c1 c2 c3))
        exact HP.out _ _ HE.out hb4.size (hb4.alloc hb4.size _) (blk_new _ _)
  · have hq1 : (q != 0) = true := by rw [bne_iff_ne]; exact hq
    have HN := Lib.hid hq
    have HE := Lib.hid (show E = q from by rw [HX.out, if_neg hq])
    clear hq
    go_enter Tryd.func10, Tryd.ntmps10
    go_wp2_with (first | (go_at_call 24; refine (HM.out _ (by rfl)).mono ?_; rintro e w1 ⟨rfl, hb1⟩; obtain ⟨c0, c1, c2, c3⟩ := boxCells hb1; have hb2 := HB.out.trans (hb1.mono HB.out.size); clear hb1) | (go_at_call 29; refine (HC.out _).mono ?_; rintro e w2 ⟨rfl, hb3⟩; obtain ⟨d0, d1, d2, d3⟩ := carry4 hb3 c0 c1 c2 c3; have hb4 := hb2.trans (hb3.mono hb2.size); clear hb3 c0 c1 c2 c3))
    exact HQ.out _ _ HE.out HN.out hb4
end Go.Proofs.YtgnhbccmdpkbiaaDoor
