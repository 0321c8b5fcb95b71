/-
  What the law FaultsRound of layer 3 needs: contracts of Wrap, Join, Has at the faults that it makes.
-/
import Derived.Test.YtgnhbccmdpkbiaaGreatDoorFaL23
import Derived.Test.YtgnhbccmdpkbiaaGreatDoorFaXL
import Derived.Test.YtgnhbccmdpkbiaaGreatDoorFaJ12
import Derived.Test.YtgnhbccmdpkbiaaGreatDoorFaL9
namespace Go.Proofs.YtgnhbccmdpkbiaaGreatDoor
open Go.RowKit Go.Shelf

/-- What Has answers. -/
def hasB (t : Fa.F) (q : Nat) : Bool := decide (1 ≤ (q : Int)) && decide ((q : Int) < 17) && t.has q
theorem hasB_wrap {x : Fa.Link} {c : Fa.F} (h : wrapE x c = 0) (q : Nat) : hasB (.link x c .nil) q = (hasB c q || x.kind == (q : Int)) := by
  have hk : 1 ≤ x.kind ∧ x.kind < 17 := by
    unfold wrapE at h
    split at h
    · rename_i hc
      unfold checkE at hc
      split at hc
      · exact absurd hc (by decide)
      · split at hc
        · exact absurd hc (by decide)
        · rename_i _ h2
          have h3 : Fa.okNum x = true := by simpa using h2
          simp only [Fa.okNum, Bool.and_eq_true, decide_eq_true_eq] at h3
          omega
    · rename_i hc
      exact absurd h hc
  unfold hasB
  simp only [Fa.F.has, Bool.or_false]
  cases hke : (x.kind == (q : Int)) with
  | true =>
    have h1 : x.kind = q := by simpa using hke
    rw [decide_eq_true (by omega), decide_eq_true (by omega)]
    simp
  | false => simp
theorem has_app (k : Int) (t s : Fa.F) : (t.app s).has k = (t.has k || s.has k) := by
  induction t with
  | nil => simp [Fa.F.app, Fa.F.has]
  | link x c r _ ih => simp [Fa.F.app, Fa.F.has, ih, Bool.or_assoc]
  | join j r _ ih => simp [Fa.F.app, Fa.F.has, ih, Bool.or_assoc]
theorem hasB_join (t s : Fa.F) (q : Nat) : hasB (.join (t.app s) .nil) q = (hasB t q || hasB s q) := by
  unfold hasB
  simp only [Fa.F.has, Bool.or_false, has_app]
  cases (decide (1 ≤ (q : Int)) && decide ((q : Int) < 17)) <;> simp
theorem has_at (t : Fa.F) (v : Value) (q : Nat) (w : World) (h : Holds (fun _ => True) w t [v]) (hok : t.ok) : Calls Tryz.prog 23 #[v, I64 q] w fun e w' => e = .returned (.bool (hasB t q)) ∧ Below w.heap.size w w' :=
  has_any _ t v q w h hok
/-- Join of two faults. -/
theorem join2 (t s : Fa.F) (ra rb : Ref) (g : Nat) (w : World) (h1 : Holds (fun _ => True) w t [valE ra]) (h2 : Holds (fun _ => True) w s [valE rb]) (hn : t.nodes + s.nodes ≤ 1000) (hg : g < w.heap.size) (c0 : w.cell? ⟨g, 0, none⟩ = some (valE ra)) (c1 : w.cell? ⟨g, 1, none⟩ = some (valE rb)) :
    Calls Tryz.prog 18 #[.slice (some ⟨g, 0, none⟩) 2 2] w fun e w' => (joinE (t.app s) ≠ 0 → e = .returned (.tuple #[.nilIface, I64 (joinE (t.app s))])) ∧
      (joinE (t.app s) = 0 → ∃ ty pv, e = .returned (.tuple #[.iface ty pv, I64 0]) ∧ Holds (fun _ => True) w' (.join (t.app s) .nil) [.iface ty pv]) ∧ Below w.heap.size w w' := by
  refine (join_any (fun _ => True) (t.app s) [ra, rb] g 0 2 w (by simpa using h1.app h2) ⟨hg, fun j hj => ?_⟩ (by simp) (by rw [Fa.app_nodes]; omega)).mono ?_
  · match j, hj with
    | 0, _ => exact c0
    | 1, _ => exact c1
  · rintro e w' ⟨_, p2, p3, p4⟩
    refine ⟨fun h => p2 (by simp) h, fun h => ?_, p4⟩
    obtain ⟨b, g', cap, e1, _, _, e4, e5, e6⟩ := p3 (by simp) h
    refine ⟨_, _, e1, b, g', 0, cap, [valE ra, valE rb], [], rfl, trivial, e5, ⟨trivial, e4, fun j u hu => ?_⟩, ?_, rfl⟩
    · match j, hu with
      | 0, hu => simp at hu; subst hu; exact e6 0 (by simp)
      | 1, hu => simp at hu; subst hu; exact e6 1 (by simp)
    · have := (h1.app h2).below p4
      simpa using this
theorem join2_ok {t s : Fa.F} (h1 : t.ok) (h2 : s.ok) (hl : t.len = 1) (hl2 : s.len = 1) : (Fa.F.join (t.app s) .nil).ok :=
  ⟨by rw [Fa.app_len]; omega, by rw [Fa.app_len]; omega, (Fa.app_ok t s).2 ⟨h1, h2⟩, trivial⟩
/-- What the loop of the law reads: the kind of the link. -/
def XK (X : Nat) (kd : Int) (w : World) : Prop := w.cell? ⟨X, 0, none⟩ = some (I64 kd)
theorem XK.below {X : Nat} {kd : Int} {w w' : World} (h : XK X kd w) (hb : Below w.heap.size w w') : XK X kd w' := (hb.cell (p := ⟨X, _, none⟩) (cell_lt h)).trans h
end Go.Proofs.YtgnhbccmdpkbiaaGreatDoor
namespace Go.Proofs.YtgnhbccmdpkbiaaGreatDoor
open Go.RowKit Go.Shelf

set_option maxHeartbeats 8000000 in
set_option maxRecDepth 100000 in
set_option linter.unusedSimpArgs false in
theorem lawRound_a (v : Value) (l : List Fa.Node) (u : Value) (x : Fa.Link) (w : World) (hE : EnvT w) (h : NodesIn w v l) (hq : farL l = true) : Calls Tryz.prog 8 #[v, u, valLink x] w fun e w' => e = .returned (.bool true) ∧ Below w.heap.size w w' := by
  have HS : Hid (∀ w1, Below w.heap.size w w1 → Calls Tryz.prog 12 #[] w1 fun e w' => e = .returned (.bool true) ∧ Below w1.heap.size w1 w') := fun w1 hb => shown_any w1 (hE.f.below hb)
  have HBA := Lib.hid (show Below w.heap.size w (w.alloc (.cells #[I64 x.kind, .string x.op, I64 x.backend, I64 x.conn] 34)) from (Below.refl _ _).alloc (Nat.le_refl _) _)
  have HFl : Hid (∀ w1, Below w.heap.size w w1 → Calls Tryz.prog 11 #[v] w1 fun e w' => e = .returned (.bool true) ∧ w1 = w') := fun w1 hb => by
    have h1 := far_full v l w1 (h.1.below hb)
    rw [hq] at h1
    exact h1
  clear hq h hE
  obtain ⟨xk, xo, xb, xc⟩ := x
  unfold valLink
  dsimp only at HBA ⊢
  go_enter Tryz.func8, Tryz.ntmps8
  go_wp2_with fail
  refine (HFl.out _ HBA.out).mono ?_
  rintro e w1 ⟨rfl, rfl⟩
  go_wp2_with fail
  refine (HS.out _ HBA.out).mono ?_
  rintro e wz ⟨rfl, hx⟩
  have hbz := HBA.out.trans (hx.mono HBA.out.size)
  go_wp2
  go_ret
  exact ⟨rfl, hbz⟩
set_option maxHeartbeats 8000000 in
set_option maxRecDepth 100000 in
set_option linter.unusedSimpArgs false in
theorem lawRound_b (v : Value) (l : List Fa.Node) (u : Value) (m : List Fa.Node) (x : Fa.Link) (w : World) (hE : EnvT w) (h : NodesIn w v l) (h' : NodesIn w u m) (hq : farL l = false) (hq' : farL m = true) : Calls Tryz.prog 8 #[v, u, valLink x] w fun e w' => e = .returned (.bool true) ∧ Below w.heap.size w w' := by
  have HS : Hid (∀ w1, Below w.heap.size w w1 → Calls Tryz.prog 12 #[] w1 fun e w' => e = .returned (.bool true) ∧ Below w1.heap.size w1 w') := fun w1 hb => shown_any w1 (hE.f.below hb)
  have HBA := Lib.hid (show Below w.heap.size w (w.alloc (.cells #[I64 x.kind, .string x.op, I64 x.backend, I64 x.conn] 34)) from (Below.refl _ _).alloc (Nat.le_refl _) _)
  have HFl : Hid (∀ w1, Below w.heap.size w w1 → Calls Tryz.prog 11 #[v] w1 fun e w' => e = .returned (.bool false) ∧ w1 = w') := fun w1 hb => by
    have h1 := far_full v l w1 (h.1.below hb)
    rw [hq] at h1
    exact h1
  have HFm : Hid (∀ w1, Below w.heap.size w w1 → Calls Tryz.prog 11 #[u] w1 fun e w' => e = .returned (.bool true) ∧ w1 = w') := fun w1 hb => by
    have h1 := far_full u m w1 (h'.1.below hb)
    rw [hq'] at h1
    exact h1
  clear hq hq' h h' hE
  obtain ⟨xk, xo, xb, xc⟩ := x
  unfold valLink
  dsimp only at HBA ⊢
  go_enter Tryz.func8, Tryz.ntmps8
  go_wp2_with fail
  refine (HFl.out _ HBA.out).mono ?_
  rintro e w1 ⟨rfl, rfl⟩
  go_wp2_with fail
  refine (HFm.out _ HBA.out).mono ?_
  rintro e w1 ⟨rfl, rfl⟩
  go_wp2_with fail
  refine (HS.out _ HBA.out).mono ?_
  rintro e wz ⟨rfl, hx⟩
  have hbz := HBA.out.trans (hx.mono HBA.out.size)
  go_wp2
  go_ret
  exact ⟨rfl, hbz⟩
set_option maxHeartbeats 8000000 in
set_option maxRecDepth 100000 in
set_option linter.unusedSimpArgs false in
theorem lawRound_c (v : Value) (l : List Fa.Node) (u : Value) (m : List Fa.Node) (x : Fa.Link) (w : World) (hE : EnvT w) (h : NodesIn w v l) (h' : NodesIn w u m) (hq : farL l = false) (hq' : farL m = false) (hxs : 100 < x.op.size) : Calls Tryz.prog 8 #[v, u, valLink x] w fun e w' => e = .returned (.bool true) ∧ Below w.heap.size w w' := by
  have HS : Hid (∀ w1, Below w.heap.size w w1 → Calls Tryz.prog 12 #[] w1 fun e w' => e = .returned (.bool true) ∧ Below w1.heap.size w1 w') := fun w1 hb => shown_any w1 (hE.f.below hb)
  have HBA := Lib.hid (show Below w.heap.size w (w.alloc (.cells #[I64 x.kind, .string x.op, I64 x.backend, I64 x.conn] 34)) from (Below.refl _ _).alloc (Nat.le_refl _) _)
  have HFl : Hid (∀ w1, Below w.heap.size w w1 → Calls Tryz.prog 11 #[v] w1 fun e w' => e = .returned (.bool false) ∧ w1 = w') := fun w1 hb => by
    have h1 := far_full v l w1 (h.1.below hb)
    rw [hq] at h1
    exact h1
  have HFm : Hid (∀ w1, Below w.heap.size w w1 → Calls Tryz.prog 11 #[u] w1 fun e w' => e = .returned (.bool false) ∧ w1 = w') := fun w1 hb => by
    have h1 := far_full u m w1 (h'.1.below hb)
    rw [hq'] at h1
    exact h1
  clear hq hq' h h' hE
  obtain ⟨xk, xo, xb, xc⟩ := x
  unfold valLink
  dsimp only at HBA hxs ⊢
  go_enter Tryz.func8, Tryz.ntmps8
  go_wp2_with fail
  refine (HFl.out _ HBA.out).mono ?_
  rintro e w1 ⟨rfl, rfl⟩
  go_wp2_with fail
  refine (HFm.out _ HBA.out).mono ?_
  rintro e w1 ⟨rfl, rfl⟩
  go_wp2_with fail
  refine (HS.out _ HBA.out).mono ?_
  rintro e wz ⟨rfl, hx⟩
  have hbz := HBA.out.trans (hx.mono HBA.out.size)
  go_wp2
  go_ret
  exact ⟨rfl, hbz⟩
set_option maxHeartbeats 8000000 in
set_option maxRecDepth 100000 in
set_option linter.unusedSimpArgs false in
theorem lawRound_d (v : Value) (l : List Fa.Node) (u : Value) (m : List Fa.Node) (x : Fa.Link) (w : World) (hE : EnvT w) (h : NodesIn w v l) (h' : NodesIn w u m) (hq : farL l = false) (hq' : farL m = false) (hxs : ¬ 100 < x.op.size) (h0 : (Fa.build l).1 ≠ 0) : Calls Tryz.prog 8 #[v, u, valLink x] w fun e w' => e = .returned (.bool true) ∧ Below w.heap.size w w' := by
  obtain ⟨hl, hsz⟩ := far_sizes hq
  obtain ⟨hl', hsz'⟩ := far_sizes hq'
  have HS : Hid (∀ w1, Below w.heap.size w w1 → Calls Tryz.prog 12 #[] w1 fun e w' => e = .returned (.bool true) ∧ Below w1.heap.size w1 w') := fun w1 hb => shown_any w1 (hE.f.below hb)
  have HBA := Lib.hid (show Below w.heap.size w (w.alloc (.cells #[I64 x.kind, .string x.op, I64 x.backend, I64 x.conn] 34)) from (Below.refl _ _).alloc (Nat.le_refl _) _)
  have HFl : Hid (∀ w1, Below w.heap.size w w1 → Calls Tryz.prog 11 #[v] w1 fun e w' => e = .returned (.bool false) ∧ w1 = w') := fun w1 hb => by
    have h1 := far_full v l w1 (h.1.below hb)
    rw [hq] at h1
    exact h1
  have HFm : Hid (∀ w1, Below w.heap.size w w1 → Calls Tryz.prog 11 #[u] w1 fun e w' => e = .returned (.bool false) ∧ w1 = w') := fun w1 hb => by
    have h1 := far_full u m w1 (h'.1.below hb)
    rw [hq'] at h1
    exact h1
  have HRl : Hid (∀ w1, Below w.heap.size w w1 → Calls Tryz.prog 14 #[v] w1 fun e w' => e = .returned (I64 (Fa.build l).1) ∧ Below w1.heap.size w1 w') := fun w1 hb => by
    have h1 := rbuild_any v l w1 (h.1.below hb) (by omega) hsz
    exact h1
  have g4 : ((Fa.build l).1 != 0) = true := by rw [bne_iff_ne]; exact h0
  generalize (Fa.build l).1 = BC at HRl g4
  clear hq hq' h h' hE h0 hl hl' hsz hsz'
  obtain ⟨xk, xo, xb, xc⟩ := x
  unfold valLink
  dsimp only at HBA hxs ⊢
  go_enter Tryz.func8, Tryz.ntmps8
  go_wp2_with fail
  refine (HFl.out _ HBA.out).mono ?_
  rintro e w1 ⟨rfl, rfl⟩
  go_wp2_with fail
  refine (HFm.out _ HBA.out).mono ?_
  rintro e w1 ⟨rfl, rfl⟩
  go_wp2_with fail
  refine (HRl.out _ HBA.out).mono ?_
  rintro e w2 ⟨rfl, hx⟩
  have hb2 := HBA.out.trans (hx.mono HBA.out.size)
  clear hx
  go_wp2_with fail
  refine (HS.out _ hb2).mono ?_
  rintro e wz ⟨rfl, hx⟩
  have hbz := hb2.trans (hx.mono hb2.size)
  go_wp2
  go_ret
  exact ⟨rfl, hbz⟩
set_option maxHeartbeats 8000000 in
set_option maxRecDepth 100000 in
set_option linter.unusedSimpArgs false in
theorem lawRound_e (v : Value) (l : List Fa.Node) (u : Value) (m : List Fa.Node) (x : Fa.Link) (w : World) (hE : EnvT w) (h : NodesIn w v l) (h' : NodesIn w u m) (hq : farL l = false) (hq' : farL m = false) (hxs : ¬ 100 < x.op.size) (h0 : (Fa.build l).1 = 0) (h0' : (Fa.build m).1 ≠ 0) : Calls Tryz.prog 8 #[v, u, valLink x] w fun e w' => e = .returned (.bool true) ∧ Below w.heap.size w w' := by
  obtain ⟨hl, hsz⟩ := far_sizes hq
  obtain ⟨hl', hsz'⟩ := far_sizes hq'
  have HS : Hid (∀ w1, Below w.heap.size w w1 → Calls Tryz.prog 12 #[] w1 fun e w' => e = .returned (.bool true) ∧ Below w1.heap.size w1 w') := fun w1 hb => shown_any w1 (hE.f.below hb)
  have HBA := Lib.hid (show Below w.heap.size w (w.alloc (.cells #[I64 x.kind, .string x.op, I64 x.backend, I64 x.conn] 34)) from (Below.refl _ _).alloc (Nat.le_refl _) _)
  have HFl : Hid (∀ w1, Below w.heap.size w w1 → Calls Tryz.prog 11 #[v] w1 fun e w' => e = .returned (.bool false) ∧ w1 = w') := fun w1 hb => by
    have h1 := far_full v l w1 (h.1.below hb)
    rw [hq] at h1
    exact h1
  have HFm : Hid (∀ w1, Below w.heap.size w w1 → Calls Tryz.prog 11 #[u] w1 fun e w' => e = .returned (.bool false) ∧ w1 = w') := fun w1 hb => by
    have h1 := far_full u m w1 (h'.1.below hb)
    rw [hq'] at h1
    exact h1
  have HRl : Hid (∀ w1, Below w.heap.size w w1 → Calls Tryz.prog 14 #[v] w1 fun e w' => e = .returned (I64 0) ∧ Below w1.heap.size w1 w') := fun w1 hb => by
    have h1 := rbuild_any v l w1 (h.1.below hb) (by omega) hsz
    rw [h0] at h1
    exact h1
  have HRm : Hid (∀ w1, Below w.heap.size w w1 → Calls Tryz.prog 14 #[u] w1 fun e w' => e = .returned (I64 (Fa.build m).1) ∧ Below w1.heap.size w1 w') := fun w1 hb => by
    have h1 := rbuild_any u m w1 (h'.1.below hb) (by omega) hsz'
    exact h1
  have g4 : ((Fa.build m).1 != 0) = true := by rw [bne_iff_ne]; exact h0'
  generalize (Fa.build m).1 = BC at HRm g4
  clear hq hq' h h' hE h0 h0' hl hl' hsz hsz'
  obtain ⟨xk, xo, xb, xc⟩ := x
  unfold valLink
  dsimp only at HBA hxs ⊢
  go_enter Tryz.func8, Tryz.ntmps8
  go_wp2_with fail
  refine (HFl.out _ HBA.out).mono ?_
  rintro e w1 ⟨rfl, rfl⟩
  go_wp2_with fail
  refine (HFm.out _ HBA.out).mono ?_
  rintro e w1 ⟨rfl, rfl⟩
  go_wp2_with fail
  refine (HRl.out _ HBA.out).mono ?_
  rintro e w2 ⟨rfl, hx⟩
  have hb2 := HBA.out.trans (hx.mono HBA.out.size)
  clear hx
  go_wp2_with fail
  refine (HRm.out _ hb2).mono ?_
  rintro e w3 ⟨rfl, hx⟩
  have hb3 := hb2.trans (hx.mono hb2.size)
  clear hx
  go_wp2_with fail
  refine (HS.out _ hb3).mono ?_
  rintro e wz ⟨rfl, hx⟩
  have hbz := hb3.trans (hx.mono hb3.size)
  go_wp2
  go_ret
  exact ⟨rfl, hbz⟩
end Go.Proofs.YtgnhbccmdpkbiaaGreatDoor
namespace Go.Proofs.YtgnhbccmdpkbiaaGreatDoor
open Go.RowKit Go.Shelf

set_option maxHeartbeats 8000000 in
set_option maxRecDepth 100000 in
set_option linter.unusedSimpArgs false in
theorem lawRound_f00 (v : Value) (l : List Fa.Node) (u : Value) (m : List Fa.Node) (x : Fa.Link) (w : World) (hE : EnvT w) (h : NodesIn w v l) (h' : NodesIn w u m) (hq : farL l = false) (hq' : farL m = false) (hxs : ¬ 100 < x.op.size) (h0 : (Fa.build l).1 = 0) (h0' : (Fa.build m).1 = 0) (hw : wrapE x (Fa.build l).2 ≠ 0) (hj : joinE ((Fa.build l).2.app (Fa.build m).2) ≠ 0) : Calls Tryz.prog 8 #[v, u, valLink x] w fun e w' => e = .returned (.bool true) ∧ Below w.heap.size w w' := by
  obtain ⟨hl, hsz⟩ := far_sizes hq
  obtain ⟨hl', hsz'⟩ := far_sizes hq'
  have hsz100 := far_sizes100 hq
  have hxm : x.op.size ≤ maxLen := by unfold maxLen; omega
  have HS : Hid (∀ w1, Below w.heap.size w w1 → Calls Tryz.prog 12 #[] w1 fun e w' => e = .returned (.bool true) ∧ Below w1.heap.size w1 w') := fun w1 hb => shown_any w1 (hE.f.below hb)
  have HBA := Lib.hid (show Below w.heap.size w (w.alloc (.cells #[I64 x.kind, .string x.op, I64 x.backend, I64 x.conn] 34)) from (Below.refl _ _).alloc (Nat.le_refl _) _)
  have HFl : Hid (∀ w1, Below w.heap.size w w1 → Calls Tryz.prog 11 #[v] w1 fun e w' => e = .returned (.bool false) ∧ w1 = w') := fun w1 hb => by
    have h1 := far_full v l w1 (h.1.below hb)
    rw [hq] at h1
    exact h1
  have HFm : Hid (∀ w1, Below w.heap.size w w1 → Calls Tryz.prog 11 #[u] w1 fun e w' => e = .returned (.bool false) ∧ w1 = w') := fun w1 hb => by
    have h1 := far_full u m w1 (h'.1.below hb)
    rw [hq'] at h1
    exact h1
  have HRl : Hid (∀ w1, Below w.heap.size w w1 → Calls Tryz.prog 14 #[v] w1 fun e w' => e = .returned (I64 0) ∧ Below w1.heap.size w1 w') := fun w1 hb => by
    have h1 := rbuild_any v l w1 (h.1.below hb) (by omega) hsz
    rw [h0] at h1
    exact h1
  have HRm : Hid (∀ w1, Below w.heap.size w w1 → Calls Tryz.prog 14 #[u] w1 fun e w' => e = .returned (I64 0) ∧ Below w1.heap.size w1 w') := fun w1 hb => by
    have h1 := rbuild_any u m w1 (h'.1.below hb) (by omega) hsz'
    rw [h0'] at h1
    exact h1
  obtain ⟨b1, b2, b3, b4, b5⟩ := Fa.build_ok h0
  obtain ⟨c1, c2, c3, c4, c5⟩ := Fa.build_ok h0'
  have HBl : Hid (∀ w1, Below w.heap.size w w1 → Calls Tryz.prog 13 #[v] w1 fun e w' => ∃ rf, e = .returned (.tuple #[valE rf, I64 0]) ∧ Holds (fun _ => True) w' (Fa.build l).2 [valE rf] ∧ Below w1.heap.size w1 w') := fun w1 hb => (build_any v l w1 (h.below hb) (by omega) hsz).mono (fun e w' hp => by
    obtain ⟨_, p2, p3⟩ := hp
    obtain ⟨rf, e1, e2⟩ := p2 h0
    exact ⟨rf, e1, e2.mono (fun _ _ _ => trivial), p3⟩)
  have HBm : Hid (∀ w1, Below w.heap.size w w1 → Calls Tryz.prog 13 #[u] w1 fun e w' => ∃ rf, e = .returned (.tuple #[valE rf, I64 0]) ∧ Holds (fun _ => True) w' (Fa.build m).2 [valE rf] ∧ Below w1.heap.size w1 w') := fun w1 hb => (build_any u m w1 (h'.below hb) (by omega) hsz').mono (fun e w' hp => by
    obtain ⟨_, p2, p3⟩ := hp
    obtain ⟨rf, e1, e2⟩ := p2 h0'
    exact ⟨rf, e1, e2.mono (fun _ _ _ => trivial), p3⟩)
  have htl : (Fa.build l).2.txt.length ≤ 12000 := by
    have h1 := txt_bound (Fa.build l).2 0 (fun x hx => by rw [b1] at hx; exact (hsz100 x hx)) b2
    omega
  have HTX : Hid (∀ w1 rv, Below w.heap.size w w1 → Holds (fun _ => True) w1 (Fa.build l).2 [rv] → Calls Tryz.prog 30 #[rv] w1 fun e w' => e = .returned (.tuple #[S8 (Fa.build l).2.txt, I64 0]) ∧ Below w1.heap.size w1 w') := fun w1 rv hb hh => text_any _ rv w1 hh b2 (by omega) (hE.f.below hb)
  have HP : Hid (∀ w1, Below w.heap.size w w1 → Calls Tryz.prog 31 #[S8 (Fa.build l).2.txt] w1 fun e w' => ∃ rf, e = .returned (.tuple #[valE rf, I64 0]) ∧ Holds (fun _ => True) w' (Fa.build l).2 [valE rf] ∧ Below w1.heap.size w1 w') := fun w1 hb => (pparse_any _ w1 (hE.below hb) (by omega)).mono (fun e w' q => by
    have q2 := q.2
    rw [Fa.parse_build h0] at q2
    rcases q2 with q2 | q2
    · exact absurd rfl q2.1
    · obtain ⟨rf, e1, e2⟩ := q2.2
      exact ⟨rf, e1, e2, q.1⟩)
  have HIl : Hid (∀ w1 rv, Below w.heap.size w w1 → Holds (fun _ => True) w1 (Fa.build l).2 [rv] → Calls Tryz.prog 15 #[rv, v] w1 fun e w' => e = .returned (.bool true) ∧ Below w1.heap.size w1 w') := fun w1 rv hb hh => by
    have h1 := is_any _ _ rv v _ w1 hh b2 (by omega) (h.1.below hb) (by omega)
    rw [decide_eq_true b1] at h1
    exact h1
  have HIm : Hid (∀ w1 rv, Below w.heap.size w w1 → Holds (fun _ => True) w1 (Fa.build m).2 [rv] → Calls Tryz.prog 15 #[rv, u] w1 fun e w' => e = .returned (.bool true) ∧ Below w1.heap.size w1 w') := fun w1 rv hb hh => by
    have h1 := is_any _ _ rv u _ w1 hh c2 (by omega) (h'.1.below hb) (by omega)
    rw [decide_eq_true c1] at h1
    exact h1
  have HW : Hid (∀ w1 cv, Holds (fun _ => True) w1 (Fa.build l).2 [cv] → Calls Tryz.prog 16 #[valLink x, cv] w1 fun e w' => e = .returned (.tuple #[.nilIface, I64 (wrapE x (Fa.build l).2)]) ∧ Below w1.heap.size w1 w') := fun w1 cv hh => (wrap_law x _ cv w1 hxm (.inr ⟨fun e => by rw [e] at b3; exact absurd b3 (by decide), hh⟩) (by omega)).mono (fun e w' hp => ⟨hp.1 hw, hp.2.2⟩)
  have HJ : Hid (∀ w1 ra rb g, Holds (fun _ => True) w1 (Fa.build l).2 [valE ra] → Holds (fun _ => True) w1 (Fa.build m).2 [valE rb] → g < w1.heap.size → w1.cell? ⟨g, 0, none⟩ = some (valE ra) → w1.cell? ⟨g, 1, none⟩ = some (valE rb) → Calls Tryz.prog 18 #[.slice (some ⟨g, 0, none⟩) 2 2] w1 fun e w' => e = .returned (.tuple #[.nilIface, I64 (joinE ((Fa.build l).2.app (Fa.build m).2))]) ∧ Below w1.heap.size w1 w') := fun w1 ra rb g i1 i2 i3 i4 i5 => (join2 _ _ ra rb g w1 i1 i2 (by omega) i3 i4 i5).mono (fun e w' hp => ⟨hp.1 hj, hp.2.2⟩)
  have OKA := Lib.hid b2
  have OKB := Lib.hid c2
  generalize (Fa.build l).2.txt = T at HTX HP
  have gw : (wrapE x (Fa.build l).2 == 0) = false := by rw [beq_eq_false_iff_ne]; exact hw
  generalize wrapE x (Fa.build l).2 = EWc at HW gw
  have gj : (joinE ((Fa.build l).2.app (Fa.build m).2) == 0) = false := by rw [beq_eq_false_iff_ne]; exact hj
  generalize joinE ((Fa.build l).2.app (Fa.build m).2) = EJc at HJ gj
  clear hq hq' h h' hE h0 h0' hl hl' hsz hsz' hsz100 hxm htl b1 b2 b3 b4 b5 c1 c2 c3 c4 c5 hw hj
  generalize (Fa.build l).2 = ta at HBl HTX HP HIl HW HJ OKA
  generalize (Fa.build m).2 = tb at HBm HIm HJ OKB
  obtain ⟨xk, xo, xb, xc⟩ := x
  unfold valLink at *
  dsimp only at HBA hxs ⊢
  go_enter Tryz.func8, Tryz.ntmps8
  go_wp2_with fail
  refine (HFl.out _ HBA.out).mono ?_
  rintro e w1 ⟨rfl, rfl⟩
  go_wp2_with fail
  refine (HFm.out _ HBA.out).mono ?_
  rintro e w1 ⟨rfl, rfl⟩
  go_wp2_with fail
  refine (HRl.out _ HBA.out).mono ?_
  rintro e w2 ⟨rfl, hx⟩
  obtain ⟨d0, d1, d2, d3⟩ := boxCells hx
  have hb2 := HBA.out.trans (hx.mono HBA.out.size)
  clear hx
  go_wp2_with fail
  refine (HRm.out _ hb2).mono ?_
  rintro e w3 ⟨rfl, hx⟩
  obtain ⟨f0, f1, f2, f3⟩ := carry4 hx d0 d1 d2 d3
  have hb3 := hb2.trans (hx.mono hb2.size)
  clear hx hb2 d0 d1 d2 d3
  go_wp2_with fail
  refine (HBl.out _ hb3).mono ?_
  rintro e w4 ⟨ra, rfl, hha, hx⟩
  obtain ⟨d0, d1, d2, d3⟩ := carry4 hx f0 f1 f2 f3
  have hb4 := hb3.trans (hx.mono hb3.size)
  clear hx hb3 f0 f1 f2 f3
  obtain ⟨tya, pva, htya⟩ := valE_iface ra
  rw [htya] at hha ⊢
  have HTYa := Lib.hid htya
  clear htya
  go_wp2_with fail
  refine (HBm.out _ hb4).mono ?_
  rintro e w5 ⟨rb, rfl, hhb, hx⟩
  obtain ⟨f0, f1, f2, f3⟩ := carry4 hx d0 d1 d2 d3
  have hb5 := hb4.trans (hx.mono hb4.size)
  replace hha := hha.below hx
  clear hx hb4 d0 d1 d2 d3
  obtain ⟨tyb, pvb, htyb⟩ := valE_iface rb
  rw [htyb] at hhb ⊢
  have HTYb := Lib.hid htyb
  clear htyb
  go_wp2_with fail
  refine (HTX.out _ _ hb5 hha).mono ?_
  rintro e w6 ⟨rfl, hx⟩
  obtain ⟨d0, d1, d2, d3⟩ := carry4 hx f0 f1 f2 f3
  have hb6 := hb5.trans (hx.mono hb5.size)
  replace hha := hha.below hx
  replace hhb := hhb.below hx
  clear hx hb5 f0 f1 f2 f3
  go_wp2_with fail
  refine (HP.out _ hb6).mono ?_
  rintro e w7 ⟨rc, rfl, hhc, hx⟩
  obtain ⟨f0, f1, f2, f3⟩ := carry4 hx d0 d1 d2 d3
  have hb7 := hb6.trans (hx.mono hb6.size)
  replace hha := hha.below hx
  replace hhb := hhb.below hx
  clear hx hb6 d0 d1 d2 d3
  obtain ⟨tyc, pvc, htyc⟩ := valE_iface rc
  rw [htyc] at hhc ⊢
  have HTYc := Lib.hid htyc
  clear htyc
  go_wp2_with fail
  refine (HIl.out _ _ hb7 hhc).mono ?_
  rintro e w8 ⟨rfl, hx⟩
  obtain ⟨d0, d1, d2, d3⟩ := carry4 hx f0 f1 f2 f3
  have hb8 := hb7.trans (hx.mono hb7.size)
  replace hha := hha.below hx
  replace hhb := hhb.below hx
  clear hhc HTYc
  clear hx hb7 f0 f1 f2 f3
  go_wp2_with fail
  refine (HW.out _ _ hha).mono ?_
  rintro e w9 ⟨rfl, hx⟩
  obtain ⟨f0, f1, f2, f3⟩ := carry4 hx d0 d1 d2 d3
  have hb9 := hb8.trans (hx.mono hb8.size)
  replace hha := hha.below hx
  replace hhb := hhb.below hx
  clear hx hb8 d0 d1 d2 d3
  go_wp2_with fail
  have hba := (Below.refl w9.heap.size w9).alloc (Nat.le_refl _) (.cells #[.iface tya pva, .iface tyb pvb] 26)
  have hbn := blk_new w9 (.cells #[.iface tya pva, .iface tyb pvb] 26)
  have hga := hha.below hba
  have hgb := hhb.below hba
  have e0 := blk_cell hbn 0
  have e1 := blk_cell hbn 1
  simp only [List.getElem?_toArray, List.getElem?_cons_zero, List.getElem?_cons_succ] at e0 e1
  have hXK := (show XK w.heap.size xk w9 from f0).below hba
  have hbk := hb9.trans (hba.mono hb9.size)
  have hgs : w9.heap.size < (w9.alloc (.cells #[.iface tya pva, .iface tyb pvb] 26)).heap.size := by simp
  generalize w9.heap.size = GA at e0 e1 hgs hba ⊢
  generalize w9.alloc (.cells #[.iface tya pva, .iface tyb pvb] 26) = wa at e0 e1 hgs hga hgb hXK hbk ⊢
  refine (HJ.out _ ra rb _ (by rw [HTYa.out]; exact hga) (by rw [HTYb.out]; exact hgb) hgs (by rw [HTYa.out]; exact e0) (by rw [HTYb.out]; exact e1)).mono ?_
  rintro e wL ⟨rfl, hx⟩
  have hbL := hbk.trans (hx.mono hbk.size)
  have hla := hga.below hx
  have hlb := hgb.below hx
  have HXL := Lib.hid (hXK.below hx)
  have HBL := Lib.hid hbL
  have HHA : Hid (∀ w1 (q : Nat), Below wL.heap.size wL w1 → Calls Tryz.prog 23 #[.iface tya pva, I64 q] w1 fun e w' => e = .returned (.bool (hasB ta q)) ∧ Below w1.heap.size w1 w') := fun w1 q hb => has_at ta _ q w1 (hla.below hb) OKA.out
  have HHB : Hid (∀ w1 (q : Nat), Below wL.heap.size wL w1 → Calls Tryz.prog 23 #[.iface tyb pvb, I64 q] w1 fun e w' => e = .returned (.bool (hasB tb q)) ∧ Below w1.heap.size w1 w') := fun w1 q hb => has_at tb _ q w1 (hlb.below hb) OKB.out
  have HIA : Hid (∀ w1, Below wL.heap.size wL w1 → Calls Tryz.prog 15 #[.iface tya pva, v] w1 fun e w' => e = .returned (.bool true) ∧ Below w1.heap.size w1 w') := fun w1 hb => HIl.out w1 _ (HBL.out.trans (hb.mono HBL.out.size)) (hla.below hb)
  have HIB : Hid (∀ w1, Below wL.heap.size wL w1 → Calls Tryz.prog 15 #[.iface tyb pvb, u] w1 fun e w' => e = .returned (.bool true) ∧ Below w1.heap.size w1 w') := fun w1 hb => HIm.out w1 _ (HBL.out.trans (hb.mono HBL.out.size)) (hlb.below hb)
  have HSL : Hid (∀ w1, Below wL.heap.size wL w1 → Calls Tryz.prog 12 #[] w1 fun e w' => e = .returned (.bool true) ∧ Below w1.heap.size w1 w') := fun w1 hb => HS.out w1 (HBL.out.trans (hb.mono HBL.out.size))
  have HST := Lib.hid (Below.refl wL.heap.size wL)
  clear HFl HFm HS HRl HRm HBl HBm HTX HP HIl HIm HW HJ OKA OKB HTYa HTYb HBA hba hbn hga hgb e0 e1 hXK hbk hgs hbL hla hlb hx hha hhb hb9 f0 f1 f2 f3
  generalize hasB ta = fA at HHA
  generalize hasB tb = fB at HHB
  have HBX : Hid (∀ w1, Below wL.heap.size wL w1 → Below w.heap.size w w1) := fun w1 hb => HBL.out.trans (hb.mono HBL.out.size)
  clear HBL
  go_wp2
  go_loopw [19] (fun kv wr => ∃ q : Nat, q ≤ 18 ∧ kv = I64 q ∧ Hid (Below wL.heap.size wL wr)) (fun kv _ => 18 - (intOf kv).toNat)
  case atStart => exact ⟨0, Nat.zero_le _, rfl, HST⟩
  case round =>
    obtain ⟨q, hq, rfl, hbr⟩ := hrel
    by_cases hlt : q ≤ 17
    · have i1 : (q : Int) ≤ 17 := by omega
      have HQ : Hid (q + 1 ≤ 18) := (by omega : q + 1 ≤ 18)
      have hb0 := hbr.out
      clear hlt hq hbr
      go_wp2_with fail
      case roundEnd => exact ⟨⟨q + 1, HQ.out, by go_num, hb0⟩, by have := HQ.out; simp [intOf]; omega⟩
    · have i1 : ¬ (q : Int) ≤ 17 := by omega
      have hb0 := hbr.out
      clear hlt hq hbr
      go_wp2_with fail
      refine (HIA.out _ hb0).mono ?_
      rintro e y1 ⟨rfl, hy⟩
      have hb1 := hb0.trans (hy.mono hb0.size)
      clear hy
      go_wp2_with fail
      refine (HIB.out _ hb1).mono ?_
      rintro e y2 ⟨rfl, hy⟩
      have hb2 := hb1.trans (hy.mono hb1.size)
      clear hy
      go_wp2_with fail
      refine (HSL.out _ hb2).mono ?_
      rintro e y3 ⟨rfl, hy⟩
      have hb3 := hb2.trans (hy.mono hb2.size)
      clear hy
      go_wp2
      go_ret
      exact ⟨rfl, HBX.out _ hb3⟩
end Go.Proofs.YtgnhbccmdpkbiaaGreatDoor
namespace Go.Proofs.YtgnhbccmdpkbiaaGreatDoor
open Go.RowKit Go.Shelf

set_option maxHeartbeats 8000000 in
set_option maxRecDepth 100000 in
set_option linter.unusedSimpArgs false in
theorem lawRound_f01 (v : Value) (l : List Fa.Node) (u : Value) (m : List Fa.Node) (x : Fa.Link) (w : World) (hE : EnvT w) (h : NodesIn w v l) (h' : NodesIn w u m) (hq : farL l = false) (hq' : farL m = false) (hxs : ¬ 100 < x.op.size) (h0 : (Fa.build l).1 = 0) (h0' : (Fa.build m).1 = 0) (hw : wrapE x (Fa.build l).2 ≠ 0) (hj : joinE ((Fa.build l).2.app (Fa.build m).2) = 0) : Calls Tryz.prog 8 #[v, u, valLink x] w fun e w' => e = .returned (.bool true) ∧ Below w.heap.size w w' := by
  obtain ⟨hl, hsz⟩ := far_sizes hq
  obtain ⟨hl', hsz'⟩ := far_sizes hq'
  have hsz100 := far_sizes100 hq
  have hxm : x.op.size ≤ maxLen := by unfold maxLen; omega
  have HS : Hid (∀ w1, Below w.heap.size w w1 → Calls Tryz.prog 12 #[] w1 fun e w' => e = .returned (.bool true) ∧ Below w1.heap.size w1 w') := fun w1 hb => shown_any w1 (hE.f.below hb)
  have HBA := Lib.hid (show Below w.heap.size w (w.alloc (.cells #[I64 x.kind, .string x.op, I64 x.backend, I64 x.conn] 34)) from (Below.refl _ _).alloc (Nat.le_refl _) _)
  have HFl : Hid (∀ w1, Below w.heap.size w w1 → Calls Tryz.prog 11 #[v] w1 fun e w' => e = .returned (.bool false) ∧ w1 = w') := fun w1 hb => by
    have h1 := far_full v l w1 (h.1.below hb)
    rw [hq] at h1
    exact h1
  have HFm : Hid (∀ w1, Below w.heap.size w w1 → Calls Tryz.prog 11 #[u] w1 fun e w' => e = .returned (.bool false) ∧ w1 = w') := fun w1 hb => by
    have h1 := far_full u m w1 (h'.1.below hb)
    rw [hq'] at h1
    exact h1
  have HRl : Hid (∀ w1, Below w.heap.size w w1 → Calls Tryz.prog 14 #[v] w1 fun e w' => e = .returned (I64 0) ∧ Below w1.heap.size w1 w') := fun w1 hb => by
    have h1 := rbuild_any v l w1 (h.1.below hb) (by omega) hsz
    rw [h0] at h1
    exact h1
  have HRm : Hid (∀ w1, Below w.heap.size w w1 → Calls Tryz.prog 14 #[u] w1 fun e w' => e = .returned (I64 0) ∧ Below w1.heap.size w1 w') := fun w1 hb => by
    have h1 := rbuild_any u m w1 (h'.1.below hb) (by omega) hsz'
    rw [h0'] at h1
    exact h1
  obtain ⟨b1, b2, b3, b4, b5⟩ := Fa.build_ok h0
  obtain ⟨c1, c2, c3, c4, c5⟩ := Fa.build_ok h0'
  have HBl : Hid (∀ w1, Below w.heap.size w w1 → Calls Tryz.prog 13 #[v] w1 fun e w' => ∃ rf, e = .returned (.tuple #[valE rf, I64 0]) ∧ Holds (fun _ => True) w' (Fa.build l).2 [valE rf] ∧ Below w1.heap.size w1 w') := fun w1 hb => (build_any v l w1 (h.below hb) (by omega) hsz).mono (fun e w' hp => by
    obtain ⟨_, p2, p3⟩ := hp
    obtain ⟨rf, e1, e2⟩ := p2 h0
    exact ⟨rf, e1, e2.mono (fun _ _ _ => trivial), p3⟩)
  have HBm : Hid (∀ w1, Below w.heap.size w w1 → Calls Tryz.prog 13 #[u] w1 fun e w' => ∃ rf, e = .returned (.tuple #[valE rf, I64 0]) ∧ Holds (fun _ => True) w' (Fa.build m).2 [valE rf] ∧ Below w1.heap.size w1 w') := fun w1 hb => (build_any u m w1 (h'.below hb) (by omega) hsz').mono (fun e w' hp => by
    obtain ⟨_, p2, p3⟩ := hp
    obtain ⟨rf, e1, e2⟩ := p2 h0'
    exact ⟨rf, e1, e2.mono (fun _ _ _ => trivial), p3⟩)
  have htl : (Fa.build l).2.txt.length ≤ 12000 := by
    have h1 := txt_bound (Fa.build l).2 0 (fun x hx => by rw [b1] at hx; exact (hsz100 x hx)) b2
    omega
  have HTX : Hid (∀ w1 rv, Below w.heap.size w w1 → Holds (fun _ => True) w1 (Fa.build l).2 [rv] → Calls Tryz.prog 30 #[rv] w1 fun e w' => e = .returned (.tuple #[S8 (Fa.build l).2.txt, I64 0]) ∧ Below w1.heap.size w1 w') := fun w1 rv hb hh => text_any _ rv w1 hh b2 (by omega) (hE.f.below hb)
  have HP : Hid (∀ w1, Below w.heap.size w w1 → Calls Tryz.prog 31 #[S8 (Fa.build l).2.txt] w1 fun e w' => ∃ rf, e = .returned (.tuple #[valE rf, I64 0]) ∧ Holds (fun _ => True) w' (Fa.build l).2 [valE rf] ∧ Below w1.heap.size w1 w') := fun w1 hb => (pparse_any _ w1 (hE.below hb) (by omega)).mono (fun e w' q => by
    have q2 := q.2
    rw [Fa.parse_build h0] at q2
    rcases q2 with q2 | q2
    · exact absurd rfl q2.1
    · obtain ⟨rf, e1, e2⟩ := q2.2
      exact ⟨rf, e1, e2, q.1⟩)
  have HIl : Hid (∀ w1 rv, Below w.heap.size w w1 → Holds (fun _ => True) w1 (Fa.build l).2 [rv] → Calls Tryz.prog 15 #[rv, v] w1 fun e w' => e = .returned (.bool true) ∧ Below w1.heap.size w1 w') := fun w1 rv hb hh => by
    have h1 := is_any _ _ rv v _ w1 hh b2 (by omega) (h.1.below hb) (by omega)
    rw [decide_eq_true b1] at h1
    exact h1
  have HIm : Hid (∀ w1 rv, Below w.heap.size w w1 → Holds (fun _ => True) w1 (Fa.build m).2 [rv] → Calls Tryz.prog 15 #[rv, u] w1 fun e w' => e = .returned (.bool true) ∧ Below w1.heap.size w1 w') := fun w1 rv hb hh => by
    have h1 := is_any _ _ rv u _ w1 hh c2 (by omega) (h'.1.below hb) (by omega)
    rw [decide_eq_true c1] at h1
    exact h1
  have HW : Hid (∀ w1 cv, Holds (fun _ => True) w1 (Fa.build l).2 [cv] → Calls Tryz.prog 16 #[valLink x, cv] w1 fun e w' => e = .returned (.tuple #[.nilIface, I64 (wrapE x (Fa.build l).2)]) ∧ Below w1.heap.size w1 w') := fun w1 cv hh => (wrap_law x _ cv w1 hxm (.inr ⟨fun e => by rw [e] at b3; exact absurd b3 (by decide), hh⟩) (by omega)).mono (fun e w' hp => ⟨hp.1 hw, hp.2.2⟩)
  have HJ : Hid (∀ w1 ra rb g, Holds (fun _ => True) w1 (Fa.build l).2 [valE ra] → Holds (fun _ => True) w1 (Fa.build m).2 [valE rb] → g < w1.heap.size → w1.cell? ⟨g, 0, none⟩ = some (valE ra) → w1.cell? ⟨g, 1, none⟩ = some (valE rb) → Calls Tryz.prog 18 #[.slice (some ⟨g, 0, none⟩) 2 2] w1 fun e w' => ∃ ty pv, e = .returned (.tuple #[.iface ty pv, I64 0]) ∧ Holds (fun _ => True) w' (.join ((Fa.build l).2.app (Fa.build m).2) .nil) [.iface ty pv] ∧ Below w1.heap.size w1 w') := fun w1 ra rb g i1 i2 i3 i4 i5 => (join2 _ _ ra rb g w1 i1 i2 (by omega) i3 i4 i5).mono (fun e w' hp => by
    obtain ⟨ty, pv, q1, q2⟩ := hp.2.1 hj
    exact ⟨ty, pv, q1, q2, hp.2.2⟩)
  have OKA := Lib.hid b2
  have OKB := Lib.hid c2
  have OKJ := Lib.hid (join2_ok b2 c2 b3 c3)
  generalize (Fa.build l).2.txt = T at HTX HP
  have gw : (wrapE x (Fa.build l).2 == 0) = false := by rw [beq_eq_false_iff_ne]; exact hw
  generalize wrapE x (Fa.build l).2 = EWc at HW gw
  clear hq hq' h h' hE h0 h0' hl hl' hsz hsz' hsz100 hxm htl b1 b2 b3 b4 b5 c1 c2 c3 c4 c5 hw hj
  generalize (Fa.build l).2 = ta at HBl HTX HP HIl HW HJ OKA OKJ
  generalize (Fa.build m).2 = tb at HBm HIm HJ OKB OKJ
  obtain ⟨xk, xo, xb, xc⟩ := x
  unfold valLink at *
  dsimp only at HBA hxs ⊢
  go_enter Tryz.func8, Tryz.ntmps8
  go_wp2_with fail
  refine (HFl.out _ HBA.out).mono ?_
  rintro e w1 ⟨rfl, rfl⟩
  go_wp2_with fail
  refine (HFm.out _ HBA.out).mono ?_
  rintro e w1 ⟨rfl, rfl⟩
  go_wp2_with fail
  refine (HRl.out _ HBA.out).mono ?_
  rintro e w2 ⟨rfl, hx⟩
  obtain ⟨d0, d1, d2, d3⟩ := boxCells hx
  have hb2 := HBA.out.trans (hx.mono HBA.out.size)
  clear hx
  go_wp2_with fail
  refine (HRm.out _ hb2).mono ?_
  rintro e w3 ⟨rfl, hx⟩
  obtain ⟨f0, f1, f2, f3⟩ := carry4 hx d0 d1 d2 d3
  have hb3 := hb2.trans (hx.mono hb2.size)
  clear hx hb2 d0 d1 d2 d3
  go_wp2_with fail
  refine (HBl.out _ hb3).mono ?_
  rintro e w4 ⟨ra, rfl, hha, hx⟩
  obtain ⟨d0, d1, d2, d3⟩ := carry4 hx f0 f1 f2 f3
  have hb4 := hb3.trans (hx.mono hb3.size)
  clear hx hb3 f0 f1 f2 f3
  obtain ⟨tya, pva, htya⟩ := valE_iface ra
  rw [htya] at hha ⊢
  have HTYa := Lib.hid htya
  clear htya
  go_wp2_with fail
  refine (HBm.out _ hb4).mono ?_
  rintro e w5 ⟨rb, rfl, hhb, hx⟩
  obtain ⟨f0, f1, f2, f3⟩ := carry4 hx d0 d1 d2 d3
  have hb5 := hb4.trans (hx.mono hb4.size)
  replace hha := hha.below hx
  clear hx hb4 d0 d1 d2 d3
  obtain ⟨tyb, pvb, htyb⟩ := valE_iface rb
  rw [htyb] at hhb ⊢
  have HTYb := Lib.hid htyb
  clear htyb
  go_wp2_with fail
  refine (HTX.out _ _ hb5 hha).mono ?_
  rintro e w6 ⟨rfl, hx⟩
  obtain ⟨d0, d1, d2, d3⟩ := carry4 hx f0 f1 f2 f3
  have hb6 := hb5.trans (hx.mono hb5.size)
  replace hha := hha.below hx
  replace hhb := hhb.below hx
  clear hx hb5 f0 f1 f2 f3
  go_wp2_with fail
  refine (HP.out _ hb6).mono ?_
  rintro e w7 ⟨rc, rfl, hhc, hx⟩
  obtain ⟨f0, f1, f2, f3⟩ := carry4 hx d0 d1 d2 d3
  have hb7 := hb6.trans (hx.mono hb6.size)
  replace hha := hha.below hx
  replace hhb := hhb.below hx
  clear hx hb6 d0 d1 d2 d3
  obtain ⟨tyc, pvc, htyc⟩ := valE_iface rc
  rw [htyc] at hhc ⊢
  have HTYc := Lib.hid htyc
  clear htyc
  go_wp2_with fail
  refine (HIl.out _ _ hb7 hhc).mono ?_
  rintro e w8 ⟨rfl, hx⟩
  obtain ⟨d0, d1, d2, d3⟩ := carry4 hx f0 f1 f2 f3
  have hb8 := hb7.trans (hx.mono hb7.size)
  replace hha := hha.below hx
  replace hhb := hhb.below hx
  clear hhc HTYc
  clear hx hb7 f0 f1 f2 f3
  go_wp2_with fail
  refine (HW.out _ _ hha).mono ?_
  rintro e w9 ⟨rfl, hx⟩
  obtain ⟨f0, f1, f2, f3⟩ := carry4 hx d0 d1 d2 d3
  have hb9 := hb8.trans (hx.mono hb8.size)
  replace hha := hha.below hx
  replace hhb := hhb.below hx
  clear hx hb8 d0 d1 d2 d3
  go_wp2_with fail
  have hba := (Below.refl w9.heap.size w9).alloc (Nat.le_refl _) (.cells #[.iface tya pva, .iface tyb pvb] 26)
  have hbn := blk_new w9 (.cells #[.iface tya pva, .iface tyb pvb] 26)
  have hga := hha.below hba
  have hgb := hhb.below hba
  have e0 := blk_cell hbn 0
  have e1 := blk_cell hbn 1
  simp only [List.getElem?_toArray, List.getElem?_cons_zero, List.getElem?_cons_succ] at e0 e1
  have hXK := (show XK w.heap.size xk w9 from f0).below hba
  have hbk := hb9.trans (hba.mono hb9.size)
  have hgs : w9.heap.size < (w9.alloc (.cells #[.iface tya pva, .iface tyb pvb] 26)).heap.size := by simp
  generalize w9.heap.size = GA at e0 e1 hgs hba ⊢
  generalize w9.alloc (.cells #[.iface tya pva, .iface tyb pvb] 26) = wa at e0 e1 hgs hga hgb hXK hbk ⊢
  refine (HJ.out _ ra rb _ (by rw [HTYa.out]; exact hga) (by rw [HTYb.out]; exact hgb) hgs (by rw [HTYa.out]; exact e0) (by rw [HTYb.out]; exact e1)).mono ?_
  rintro e wL ⟨tyj, pvj, rfl, hhj, hx⟩
  have hbL := hbk.trans (hx.mono hbk.size)
  have hla := hga.below hx
  have hlb := hgb.below hx
  have HXL := Lib.hid (hXK.below hx)
  have HBL := Lib.hid hbL
  have HHA : Hid (∀ w1 (q : Nat), Below wL.heap.size wL w1 → Calls Tryz.prog 23 #[.iface tya pva, I64 q] w1 fun e w' => e = .returned (.bool (hasB ta q)) ∧ Below w1.heap.size w1 w') := fun w1 q hb => has_at ta _ q w1 (hla.below hb) OKA.out
  have HHB : Hid (∀ w1 (q : Nat), Below wL.heap.size wL w1 → Calls Tryz.prog 23 #[.iface tyb pvb, I64 q] w1 fun e w' => e = .returned (.bool (hasB tb q)) ∧ Below w1.heap.size w1 w') := fun w1 q hb => has_at tb _ q w1 (hlb.below hb) OKB.out
  have HIA : Hid (∀ w1, Below wL.heap.size wL w1 → Calls Tryz.prog 15 #[.iface tya pva, v] w1 fun e w' => e = .returned (.bool true) ∧ Below w1.heap.size w1 w') := fun w1 hb => HIl.out w1 _ (HBL.out.trans (hb.mono HBL.out.size)) (hla.below hb)
  have HIB : Hid (∀ w1, Below wL.heap.size wL w1 → Calls Tryz.prog 15 #[.iface tyb pvb, u] w1 fun e w' => e = .returned (.bool true) ∧ Below w1.heap.size w1 w') := fun w1 hb => HIm.out w1 _ (HBL.out.trans (hb.mono HBL.out.size)) (hlb.below hb)
  have HHJ : Hid (∀ w1 (q : Nat), Below wL.heap.size wL w1 → Calls Tryz.prog 23 #[.iface tyj pvj, I64 q] w1 fun e w' => e = .returned (.bool (hasB ta q || hasB tb q)) ∧ Below w1.heap.size w1 w') := fun w1 q hb => by
    have h1 := has_at _ _ q w1 (hhj.below hb) OKJ.out
    rw [hasB_join] at h1
    exact h1
  have HSL : Hid (∀ w1, Below wL.heap.size wL w1 → Calls Tryz.prog 12 #[] w1 fun e w' => e = .returned (.bool true) ∧ Below w1.heap.size w1 w') := fun w1 hb => HS.out w1 (HBL.out.trans (hb.mono HBL.out.size))
  have HST := Lib.hid (Below.refl wL.heap.size wL)
  clear HFl HFm HS HRl HRm HBl HBm HTX HP HIl HIm HW HJ OKA OKB HTYa HTYb HBA hba hbn hga hgb e0 e1 hXK hbk hgs hbL hla hlb hx hha hhb hb9 f0 f1 f2 f3 OKJ hhj
  generalize hasB ta = fA at HHA HHJ
  generalize hasB tb = fB at HHB HHJ
  have HBX : Hid (∀ w1, Below wL.heap.size wL w1 → Below w.heap.size w w1) := fun w1 hb => HBL.out.trans (hb.mono HBL.out.size)
  clear HBL
  go_wp2
  go_loopw [19] (fun kv wr => ∃ q : Nat, q ≤ 18 ∧ kv = I64 q ∧ Hid (Below wL.heap.size wL wr)) (fun kv _ => 18 - (intOf kv).toNat)
  case atStart => exact ⟨0, Nat.zero_le _, rfl, HST⟩
  case round =>
    obtain ⟨q, hq, rfl, hbr⟩ := hrel
    by_cases hlt : q ≤ 17
    · have i1 : (q : Int) ≤ 17 := by omega
      have HQ : Hid (q + 1 ≤ 18) := (by omega : q + 1 ≤ 18)
      have hb0 := hbr.out
      cases hfa : fA q with
      | true =>
        have KA : Hid (∀ w1, Below wL.heap.size wL w1 → Calls Tryz.prog 23 #[.iface tya pva, I64 q] w1 fun e w' => e = .returned (.bool true) ∧ Below w1.heap.size w1 w') := fun w1 hb => by
          have h1 := HHA.out w1 q hb
          rw [hfa] at h1
          exact h1
        have KJ : Hid (∀ w1, Below wL.heap.size wL w1 → Calls Tryz.prog 23 #[.iface tyj pvj, I64 q] w1 fun e w' => e = .returned (.bool true) ∧ Below w1.heap.size w1 w') := fun w1 hb => by
          have h1 := HHJ.out w1 q hb
          rw [hfa] at h1
          exact h1
        clear hlt hq hbr
        go_wp2_with fail
        refine (KJ.out _ hb0).mono ?_
        rintro e y1 ⟨rfl, hy⟩
        have hz1 := hb0.trans (hy.mono hb0.size)
        have x1 : y1.cell? ⟨w.heap.size, 0, none⟩ = some (I64 xk) := HXL.out.below hz1
        clear hy hb0
        go_wp2_with fail
        refine (KA.out _ hz1).mono ?_
        rintro e y2 ⟨rfl, hy⟩
        have hz2 := hz1.trans (hy.mono hz1.size)
        have x2 : y2.cell? ⟨w.heap.size, 0, none⟩ = some (I64 xk) := HXL.out.below hz2
        clear hy hz1 x1
        go_wp2_with fail
        case roundEnd => exact ⟨⟨q + 1, HQ.out, by go_num, hz2⟩, by have := HQ.out; simp [intOf]; omega⟩
      | false =>
        have KA : Hid (∀ w1, Below wL.heap.size wL w1 → Calls Tryz.prog 23 #[.iface tya pva, I64 q] w1 fun e w' => e = .returned (.bool false) ∧ Below w1.heap.size w1 w') := fun w1 hb => by
          have h1 := HHA.out w1 q hb
          rw [hfa] at h1
          exact h1
        have KJ : Hid (∀ w1, Below wL.heap.size wL w1 → Calls Tryz.prog 23 #[.iface tyj pvj, I64 q] w1 fun e w' => e = .returned (.bool (fB q)) ∧ Below w1.heap.size w1 w') := fun w1 hb => by
          have h1 := HHJ.out w1 q hb
          rw [hfa] at h1
          rw [Bool.false_or] at h1
          exact h1
        have KB : Hid (∀ w1, Below wL.heap.size wL w1 → Calls Tryz.prog 23 #[.iface tyb pvb, I64 q] w1 fun e w' => e = .returned (.bool (fB q)) ∧ Below w1.heap.size w1 w') := fun w1 hb => by
          have h1 := HHB.out w1 q hb
          skip
          exact h1
        generalize fB q = kb at KJ KB
        clear hlt hq hbr
        go_wp2_with fail
        refine (KJ.out _ hb0).mono ?_
        rintro e y1 ⟨rfl, hy⟩
        have hz1 := hb0.trans (hy.mono hb0.size)
        have x1 : y1.cell? ⟨w.heap.size, 0, none⟩ = some (I64 xk) := HXL.out.below hz1
        clear hy hb0
        go_wp2_with fail
        refine (KA.out _ hz1).mono ?_
        rintro e y2 ⟨rfl, hy⟩
        have hz2 := hz1.trans (hy.mono hz1.size)
        have x2 : y2.cell? ⟨w.heap.size, 0, none⟩ = some (I64 xk) := HXL.out.below hz2
        clear hy hz1 x1
        go_wp2_with fail
        refine (KB.out _ hz2).mono ?_
        rintro e y3 ⟨rfl, hy⟩
        have hz3 := hz2.trans (hy.mono hz2.size)
        have x3 : y3.cell? ⟨w.heap.size, 0, none⟩ = some (I64 xk) := HXL.out.below hz3
        clear hy hz2 x2
        go_wp2_with fail
        case roundEnd => exact ⟨⟨q + 1, HQ.out, by go_num, hz3⟩, by have := HQ.out; simp [intOf]; omega⟩
    · have i1 : ¬ (q : Int) ≤ 17 := by omega
      have hb0 := hbr.out
      clear hlt hq hbr
      go_wp2_with fail
      refine (HIA.out _ hb0).mono ?_
      rintro e y1 ⟨rfl, hy⟩
      have hb1 := hb0.trans (hy.mono hb0.size)
      clear hy
      go_wp2_with fail
      refine (HIB.out _ hb1).mono ?_
      rintro e y2 ⟨rfl, hy⟩
      have hb2 := hb1.trans (hy.mono hb1.size)
      clear hy
      go_wp2_with fail
      refine (HSL.out _ hb2).mono ?_
      rintro e y3 ⟨rfl, hy⟩
      have hb3 := hb2.trans (hy.mono hb2.size)
      clear hy
      go_wp2
      go_ret
      exact ⟨rfl, HBX.out _ hb3⟩
end Go.Proofs.YtgnhbccmdpkbiaaGreatDoor
namespace Go.Proofs.YtgnhbccmdpkbiaaGreatDoor
open Go.RowKit Go.Shelf

set_option maxHeartbeats 8000000 in
set_option maxRecDepth 100000 in
set_option linter.unusedSimpArgs false in
theorem lawRound_f10 (v : Value) (l : List Fa.Node) (u : Value) (m : List Fa.Node) (x : Fa.Link) (w : World) (hE : EnvT w) (h : NodesIn w v l) (h' : NodesIn w u m) (hq : farL l = false) (hq' : farL m = false) (hxs : ¬ 100 < x.op.size) (h0 : (Fa.build l).1 = 0) (h0' : (Fa.build m).1 = 0) (hw : wrapE x (Fa.build l).2 = 0) (hj : joinE ((Fa.build l).2.app (Fa.build m).2) ≠ 0) : Calls Tryz.prog 8 #[v, u, valLink x] w fun e w' => e = .returned (.bool true) ∧ Below w.heap.size w w' := by
  obtain ⟨hl, hsz⟩ := far_sizes hq
  obtain ⟨hl', hsz'⟩ := far_sizes hq'
  have hsz100 := far_sizes100 hq
  have hxm : x.op.size ≤ maxLen := by unfold maxLen; omega
  have HS : Hid (∀ w1, Below w.heap.size w w1 → Calls Tryz.prog 12 #[] w1 fun e w' => e = .returned (.bool true) ∧ Below w1.heap.size w1 w') := fun w1 hb => shown_any w1 (hE.f.below hb)
  have HBA := Lib.hid (show Below w.heap.size w (w.alloc (.cells #[I64 x.kind, .string x.op, I64 x.backend, I64 x.conn] 34)) from (Below.refl _ _).alloc (Nat.le_refl _) _)
  have HFl : Hid (∀ w1, Below w.heap.size w w1 → Calls Tryz.prog 11 #[v] w1 fun e w' => e = .returned (.bool false) ∧ w1 = w') := fun w1 hb => by
    have h1 := far_full v l w1 (h.1.below hb)
    rw [hq] at h1
    exact h1
  have HFm : Hid (∀ w1, Below w.heap.size w w1 → Calls Tryz.prog 11 #[u] w1 fun e w' => e = .returned (.bool false) ∧ w1 = w') := fun w1 hb => by
    have h1 := far_full u m w1 (h'.1.below hb)
    rw [hq'] at h1
    exact h1
  have HRl : Hid (∀ w1, Below w.heap.size w w1 → Calls Tryz.prog 14 #[v] w1 fun e w' => e = .returned (I64 0) ∧ Below w1.heap.size w1 w') := fun w1 hb => by
    have h1 := rbuild_any v l w1 (h.1.below hb) (by omega) hsz
    rw [h0] at h1
    exact h1
  have HRm : Hid (∀ w1, Below w.heap.size w w1 → Calls Tryz.prog 14 #[u] w1 fun e w' => e = .returned (I64 0) ∧ Below w1.heap.size w1 w') := fun w1 hb => by
    have h1 := rbuild_any u m w1 (h'.1.below hb) (by omega) hsz'
    rw [h0'] at h1
    exact h1
  obtain ⟨b1, b2, b3, b4, b5⟩ := Fa.build_ok h0
  obtain ⟨c1, c2, c3, c4, c5⟩ := Fa.build_ok h0'
  have HBl : Hid (∀ w1, Below w.heap.size w w1 → Calls Tryz.prog 13 #[v] w1 fun e w' => ∃ rf, e = .returned (.tuple #[valE rf, I64 0]) ∧ Holds (fun _ => True) w' (Fa.build l).2 [valE rf] ∧ Below w1.heap.size w1 w') := fun w1 hb => (build_any v l w1 (h.below hb) (by omega) hsz).mono (fun e w' hp => by
    obtain ⟨_, p2, p3⟩ := hp
    obtain ⟨rf, e1, e2⟩ := p2 h0
    exact ⟨rf, e1, e2.mono (fun _ _ _ => trivial), p3⟩)
  have HBm : Hid (∀ w1, Below w.heap.size w w1 → Calls Tryz.prog 13 #[u] w1 fun e w' => ∃ rf, e = .returned (.tuple #[valE rf, I64 0]) ∧ Holds (fun _ => True) w' (Fa.build m).2 [valE rf] ∧ Below w1.heap.size w1 w') := fun w1 hb => (build_any u m w1 (h'.below hb) (by omega) hsz').mono (fun e w' hp => by
    obtain ⟨_, p2, p3⟩ := hp
    obtain ⟨rf, e1, e2⟩ := p2 h0'
    exact ⟨rf, e1, e2.mono (fun _ _ _ => trivial), p3⟩)
  have htl : (Fa.build l).2.txt.length ≤ 12000 := by
    have h1 := txt_bound (Fa.build l).2 0 (fun x hx => by rw [b1] at hx; exact (hsz100 x hx)) b2
    omega
  have HTX : Hid (∀ w1 rv, Below w.heap.size w w1 → Holds (fun _ => True) w1 (Fa.build l).2 [rv] → Calls Tryz.prog 30 #[rv] w1 fun e w' => e = .returned (.tuple #[S8 (Fa.build l).2.txt, I64 0]) ∧ Below w1.heap.size w1 w') := fun w1 rv hb hh => text_any _ rv w1 hh b2 (by omega) (hE.f.below hb)
  have HP : Hid (∀ w1, Below w.heap.size w w1 → Calls Tryz.prog 31 #[S8 (Fa.build l).2.txt] w1 fun e w' => ∃ rf, e = .returned (.tuple #[valE rf, I64 0]) ∧ Holds (fun _ => True) w' (Fa.build l).2 [valE rf] ∧ Below w1.heap.size w1 w') := fun w1 hb => (pparse_any _ w1 (hE.below hb) (by omega)).mono (fun e w' q => by
    have q2 := q.2
    rw [Fa.parse_build h0] at q2
    rcases q2 with q2 | q2
    · exact absurd rfl q2.1
    · obtain ⟨rf, e1, e2⟩ := q2.2
      exact ⟨rf, e1, e2, q.1⟩)
  have HIl : Hid (∀ w1 rv, Below w.heap.size w w1 → Holds (fun _ => True) w1 (Fa.build l).2 [rv] → Calls Tryz.prog 15 #[rv, v] w1 fun e w' => e = .returned (.bool true) ∧ Below w1.heap.size w1 w') := fun w1 rv hb hh => by
    have h1 := is_any _ _ rv v _ w1 hh b2 (by omega) (h.1.below hb) (by omega)
    rw [decide_eq_true b1] at h1
    exact h1
  have HIm : Hid (∀ w1 rv, Below w.heap.size w w1 → Holds (fun _ => True) w1 (Fa.build m).2 [rv] → Calls Tryz.prog 15 #[rv, u] w1 fun e w' => e = .returned (.bool true) ∧ Below w1.heap.size w1 w') := fun w1 rv hb hh => by
    have h1 := is_any _ _ rv u _ w1 hh c2 (by omega) (h'.1.below hb) (by omega)
    rw [decide_eq_true c1] at h1
    exact h1
  have HW : Hid (∀ w1 cv, Holds (fun _ => True) w1 (Fa.build l).2 [cv] → Calls Tryz.prog 16 #[valLink x, cv] w1 fun e w' => ∃ bb, e = .returned (.tuple #[linkPtr bb, I64 0]) ∧ Holds (fun _ => True) w' (.link x (Fa.build l).2 .nil) [linkPtr bb] ∧ Below w1.heap.size w1 w') := fun w1 cv hh => (wrap_law x _ cv w1 hxm (.inr ⟨fun e => by rw [e] at b3; exact absurd b3 (by decide), hh⟩) (by omega)).mono (fun e w' hp => by
    obtain ⟨bb, q1, q2⟩ := hp.2.1 hw
    exact ⟨bb, q1, q2, hp.2.2⟩)
  have HJ : Hid (∀ w1 ra rb g, Holds (fun _ => True) w1 (Fa.build l).2 [valE ra] → Holds (fun _ => True) w1 (Fa.build m).2 [valE rb] → g < w1.heap.size → w1.cell? ⟨g, 0, none⟩ = some (valE ra) → w1.cell? ⟨g, 1, none⟩ = some (valE rb) → Calls Tryz.prog 18 #[.slice (some ⟨g, 0, none⟩) 2 2] w1 fun e w' => e = .returned (.tuple #[.nilIface, I64 (joinE ((Fa.build l).2.app (Fa.build m).2))]) ∧ Below w1.heap.size w1 w') := fun w1 ra rb g i1 i2 i3 i4 i5 => (join2 _ _ ra rb g w1 i1 i2 (by omega) i3 i4 i5).mono (fun e w' hp => ⟨hp.1 hj, hp.2.2⟩)
  have OKA := Lib.hid b2
  have OKB := Lib.hid c2
  have OKW := Lib.hid (wrap_okL hw (by omega) b2 (by omega)).1
  have EW := Lib.hid (hasB_wrap hw)
  generalize (Fa.build l).2.txt = T at HTX HP
  have gj : (joinE ((Fa.build l).2.app (Fa.build m).2) == 0) = false := by rw [beq_eq_false_iff_ne]; exact hj
  generalize joinE ((Fa.build l).2.app (Fa.build m).2) = EJc at HJ gj
  clear hq hq' h h' hE h0 h0' hl hl' hsz hsz' hsz100 hxm htl b1 b2 b3 b4 b5 c1 c2 c3 c4 c5 hw hj
  generalize (Fa.build l).2 = ta at HBl HTX HP HIl HW HJ OKA OKW EW
  generalize (Fa.build m).2 = tb at HBm HIm HJ OKB
  obtain ⟨xk, xo, xb, xc⟩ := x
  unfold valLink at *
  dsimp only at HBA hxs ⊢
  dsimp only at EW
  go_enter Tryz.func8, Tryz.ntmps8
  go_wp2_with fail
  refine (HFl.out _ HBA.out).mono ?_
  rintro e w1 ⟨rfl, rfl⟩
  go_wp2_with fail
  refine (HFm.out _ HBA.out).mono ?_
  rintro e w1 ⟨rfl, rfl⟩
  go_wp2_with fail
  refine (HRl.out _ HBA.out).mono ?_
  rintro e w2 ⟨rfl, hx⟩
  obtain ⟨d0, d1, d2, d3⟩ := boxCells hx
  have hb2 := HBA.out.trans (hx.mono HBA.out.size)
  clear hx
  go_wp2_with fail
  refine (HRm.out _ hb2).mono ?_
  rintro e w3 ⟨rfl, hx⟩
  obtain ⟨f0, f1, f2, f3⟩ := carry4 hx d0 d1 d2 d3
  have hb3 := hb2.trans (hx.mono hb2.size)
  clear hx hb2 d0 d1 d2 d3
  go_wp2_with fail
  refine (HBl.out _ hb3).mono ?_
  rintro e w4 ⟨ra, rfl, hha, hx⟩
  obtain ⟨d0, d1, d2, d3⟩ := carry4 hx f0 f1 f2 f3
  have hb4 := hb3.trans (hx.mono hb3.size)
  clear hx hb3 f0 f1 f2 f3
  obtain ⟨tya, pva, htya⟩ := valE_iface ra
  rw [htya] at hha ⊢
  have HTYa := Lib.hid htya
  clear htya
  go_wp2_with fail
  refine (HBm.out _ hb4).mono ?_
  rintro e w5 ⟨rb, rfl, hhb, hx⟩
  obtain ⟨f0, f1, f2, f3⟩ := carry4 hx d0 d1 d2 d3
  have hb5 := hb4.trans (hx.mono hb4.size)
  replace hha := hha.below hx
  clear hx hb4 d0 d1 d2 d3
  obtain ⟨tyb, pvb, htyb⟩ := valE_iface rb
  rw [htyb] at hhb ⊢
  have HTYb := Lib.hid htyb
  clear htyb
  go_wp2_with fail
  refine (HTX.out _ _ hb5 hha).mono ?_
  rintro e w6 ⟨rfl, hx⟩
  obtain ⟨d0, d1, d2, d3⟩ := carry4 hx f0 f1 f2 f3
  have hb6 := hb5.trans (hx.mono hb5.size)
  replace hha := hha.below hx
  replace hhb := hhb.below hx
  clear hx hb5 f0 f1 f2 f3
  go_wp2_with fail
  refine (HP.out _ hb6).mono ?_
  rintro e w7 ⟨rc, rfl, hhc, hx⟩
  obtain ⟨f0, f1, f2, f3⟩ := carry4 hx d0 d1 d2 d3
  have hb7 := hb6.trans (hx.mono hb6.size)
  replace hha := hha.below hx
  replace hhb := hhb.below hx
  clear hx hb6 d0 d1 d2 d3
  obtain ⟨tyc, pvc, htyc⟩ := valE_iface rc
  rw [htyc] at hhc ⊢
  have HTYc := Lib.hid htyc
  clear htyc
  go_wp2_with fail
  refine (HIl.out _ _ hb7 hhc).mono ?_
  rintro e w8 ⟨rfl, hx⟩
  obtain ⟨d0, d1, d2, d3⟩ := carry4 hx f0 f1 f2 f3
  have hb8 := hb7.trans (hx.mono hb7.size)
  replace hha := hha.below hx
  replace hhb := hhb.below hx
  clear hhc HTYc
  clear hx hb7 f0 f1 f2 f3
  go_wp2_with fail
  refine (HW.out _ _ hha).mono ?_
  rintro e w9 ⟨bw, rfl, hhw, hx⟩
  obtain ⟨f0, f1, f2, f3⟩ := carry4 hx d0 d1 d2 d3
  have hb9 := hb8.trans (hx.mono hb8.size)
  replace hha := hha.below hx
  replace hhb := hhb.below hx
  clear hx hb8 d0 d1 d2 d3
  unfold linkPtr at hhw ⊢
  go_wp2_with fail
  have hba := (Below.refl w9.heap.size w9).alloc (Nat.le_refl _) (.cells #[.iface tya pva, .iface tyb pvb] 26)
  have hbn := blk_new w9 (.cells #[.iface tya pva, .iface tyb pvb] 26)
  have hga := hha.below hba
  have hgb := hhb.below hba
  have e0 := blk_cell hbn 0
  have e1 := blk_cell hbn 1
  simp only [List.getElem?_toArray, List.getElem?_cons_zero, List.getElem?_cons_succ] at e0 e1
  have hgw := hhw.below hba
  have hXK := (show XK w.heap.size xk w9 from f0).below hba
  have hbk := hb9.trans (hba.mono hb9.size)
  have hgs : w9.heap.size < (w9.alloc (.cells #[.iface tya pva, .iface tyb pvb] 26)).heap.size := by simp
  generalize w9.heap.size = GA at e0 e1 hgs hba ⊢
  generalize w9.alloc (.cells #[.iface tya pva, .iface tyb pvb] 26) = wa at e0 e1 hgs hga hgb hXK hbk hgw ⊢
  refine (HJ.out _ ra rb _ (by rw [HTYa.out]; exact hga) (by rw [HTYb.out]; exact hgb) hgs (by rw [HTYa.out]; exact e0) (by rw [HTYb.out]; exact e1)).mono ?_
  rintro e wL ⟨rfl, hx⟩
  have hbL := hbk.trans (hx.mono hbk.size)
  have hla := hga.below hx
  have hlb := hgb.below hx
  have hlw := hgw.below hx
  have HXL := Lib.hid (hXK.below hx)
  have HBL := Lib.hid hbL
  have HHA : Hid (∀ w1 (q : Nat), Below wL.heap.size wL w1 → Calls Tryz.prog 23 #[.iface tya pva, I64 q] w1 fun e w' => e = .returned (.bool (hasB ta q)) ∧ Below w1.heap.size w1 w') := fun w1 q hb => has_at ta _ q w1 (hla.below hb) OKA.out
  have HHB : Hid (∀ w1 (q : Nat), Below wL.heap.size wL w1 → Calls Tryz.prog 23 #[.iface tyb pvb, I64 q] w1 fun e w' => e = .returned (.bool (hasB tb q)) ∧ Below w1.heap.size w1 w') := fun w1 q hb => has_at tb _ q w1 (hlb.below hb) OKB.out
  have HIA : Hid (∀ w1, Below wL.heap.size wL w1 → Calls Tryz.prog 15 #[.iface tya pva, v] w1 fun e w' => e = .returned (.bool true) ∧ Below w1.heap.size w1 w') := fun w1 hb => HIl.out w1 _ (HBL.out.trans (hb.mono HBL.out.size)) (hla.below hb)
  have HIB : Hid (∀ w1, Below wL.heap.size wL w1 → Calls Tryz.prog 15 #[.iface tyb pvb, u] w1 fun e w' => e = .returned (.bool true) ∧ Below w1.heap.size w1 w') := fun w1 hb => HIm.out w1 _ (HBL.out.trans (hb.mono HBL.out.size)) (hlb.below hb)
  have HHW : Hid (∀ w1 (q : Nat), Below wL.heap.size wL w1 → Calls Tryz.prog 23 #[.iface 55 (.pointer (some ⟨bw, 0, none⟩)), I64 q] w1 fun e w' => e = .returned (.bool (hasB ta q || xk == (q : Int))) ∧ Below w1.heap.size w1 w') := fun w1 q hb => by
    have h1 := has_at _ _ q w1 (hlw.below hb) OKW.out
    rw [EW.out] at h1
    exact h1
  have HSL : Hid (∀ w1, Below wL.heap.size wL w1 → Calls Tryz.prog 12 #[] w1 fun e w' => e = .returned (.bool true) ∧ Below w1.heap.size w1 w') := fun w1 hb => HS.out w1 (HBL.out.trans (hb.mono HBL.out.size))
  have HST := Lib.hid (Below.refl wL.heap.size wL)
  clear HFl HFm HS HRl HRm HBl HBm HTX HP HIl HIm HW HJ OKA OKB HTYa HTYb HBA hba hbn hga hgb e0 e1 hXK hbk hgs hbL hla hlb hx hha hhb hb9 f0 f1 f2 f3 OKW EW hhw hgw hlw
  generalize hasB ta = fA at HHA HHW
  generalize hasB tb = fB at HHB
  have HBX : Hid (∀ w1, Below wL.heap.size wL w1 → Below w.heap.size w w1) := fun w1 hb => HBL.out.trans (hb.mono HBL.out.size)
  clear HBL
  go_wp2
  go_loopw [19] (fun kv wr => ∃ q : Nat, q ≤ 18 ∧ kv = I64 q ∧ Hid (Below wL.heap.size wL wr)) (fun kv _ => 18 - (intOf kv).toNat)
  case atStart => exact ⟨0, Nat.zero_le _, rfl, HST⟩
  case round =>
    obtain ⟨q, hq, rfl, hbr⟩ := hrel
    by_cases hlt : q ≤ 17
    · have i1 : (q : Int) ≤ 17 := by omega
      have HQ : Hid (q + 1 ≤ 18) := (by omega : q + 1 ≤ 18)
      have hb0 := hbr.out
      cases hfa : fA q with
      | true =>
        have KA : Hid (∀ w1, Below wL.heap.size wL w1 → Calls Tryz.prog 23 #[.iface tya pva, I64 q] w1 fun e w' => e = .returned (.bool true) ∧ Below w1.heap.size w1 w') := fun w1 hb => by
          have h1 := HHA.out w1 q hb
          rw [hfa] at h1
          exact h1
        have KW : Hid (∀ w1, Below wL.heap.size wL w1 → Calls Tryz.prog 23 #[.iface 55 (.pointer (some ⟨bw, 0, none⟩)), I64 q] w1 fun e w' => e = .returned (.bool true) ∧ Below w1.heap.size w1 w') := fun w1 hb => by
          have h1 := HHW.out w1 q hb
          rw [hfa] at h1
          exact h1
        clear hlt hq hbr
        go_wp2_with fail
        refine (KW.out _ hb0).mono ?_
        rintro e y1 ⟨rfl, hy⟩
        have hz1 := hb0.trans (hy.mono hb0.size)
        have x1 : y1.cell? ⟨w.heap.size, 0, none⟩ = some (I64 xk) := HXL.out.below hz1
        clear hy hb0
        go_wp2_with fail
        refine (KA.out _ hz1).mono ?_
        rintro e y2 ⟨rfl, hy⟩
        have hz2 := hz1.trans (hy.mono hz1.size)
        have x2 : y2.cell? ⟨w.heap.size, 0, none⟩ = some (I64 xk) := HXL.out.below hz2
        clear hy hz1 x1
        go_wp2_with fail
        case roundEnd => exact ⟨⟨q + 1, HQ.out, by go_num, hz2⟩, by have := HQ.out; simp [intOf]; omega⟩
      | false =>
        have KA : Hid (∀ w1, Below wL.heap.size wL w1 → Calls Tryz.prog 23 #[.iface tya pva, I64 q] w1 fun e w' => e = .returned (.bool false) ∧ Below w1.heap.size w1 w') := fun w1 hb => by
          have h1 := HHA.out w1 q hb
          rw [hfa] at h1
          exact h1
        have KW : Hid (∀ w1, Below wL.heap.size wL w1 → Calls Tryz.prog 23 #[.iface 55 (.pointer (some ⟨bw, 0, none⟩)), I64 q] w1 fun e w' => e = .returned (.bool (xk == (q : Int))) ∧ Below w1.heap.size w1 w') := fun w1 hb => by
          have h1 := HHW.out w1 q hb
          rw [hfa] at h1
          rw [Bool.false_or] at h1
          exact h1
        generalize hke : (xk == (q : Int)) = ke at KW
        clear hlt hq hbr
        go_wp2_with fail
        refine (KW.out _ hb0).mono ?_
        rintro e y1 ⟨rfl, hy⟩
        have hz1 := hb0.trans (hy.mono hb0.size)
        have x1 : y1.cell? ⟨w.heap.size, 0, none⟩ = some (I64 xk) := HXL.out.below hz1
        clear hy hb0
        go_wp2_with fail
        refine (KA.out _ hz1).mono ?_
        rintro e y2 ⟨rfl, hy⟩
        have hz2 := hz1.trans (hy.mono hz1.size)
        have x2 : y2.cell? ⟨w.heap.size, 0, none⟩ = some (I64 xk) := HXL.out.below hz2
        clear hy hz1 x1
        go_wp2_with fail
        case roundEnd => exact ⟨⟨q + 1, HQ.out, by go_num, hz2⟩, by have := HQ.out; simp [intOf]; omega⟩
    · have i1 : ¬ (q : Int) ≤ 17 := by omega
      have hb0 := hbr.out
      clear hlt hq hbr
      go_wp2_with fail
      refine (HIA.out _ hb0).mono ?_
      rintro e y1 ⟨rfl, hy⟩
      have hb1 := hb0.trans (hy.mono hb0.size)
      clear hy
      go_wp2_with fail
      refine (HIB.out _ hb1).mono ?_
      rintro e y2 ⟨rfl, hy⟩
      have hb2 := hb1.trans (hy.mono hb1.size)
      clear hy
      go_wp2_with fail
      refine (HSL.out _ hb2).mono ?_
      rintro e y3 ⟨rfl, hy⟩
      have hb3 := hb2.trans (hy.mono hb2.size)
      clear hy
      go_wp2
      go_ret
      exact ⟨rfl, HBX.out _ hb3⟩
end Go.Proofs.YtgnhbccmdpkbiaaGreatDoor
namespace Go.Proofs.YtgnhbccmdpkbiaaGreatDoor
open Go.RowKit Go.Shelf

set_option maxHeartbeats 8000000 in
set_option maxRecDepth 100000 in
set_option linter.unusedSimpArgs false in
theorem lawRound_f11 (v : Value) (l : List Fa.Node) (u : Value) (m : List Fa.Node) (x : Fa.Link) (w : World) (hE : EnvT w) (h : NodesIn w v l) (h' : NodesIn w u m) (hq : farL l = false) (hq' : farL m = false) (hxs : ¬ 100 < x.op.size) (h0 : (Fa.build l).1 = 0) (h0' : (Fa.build m).1 = 0) (hw : wrapE x (Fa.build l).2 = 0) (hj : joinE ((Fa.build l).2.app (Fa.build m).2) = 0) : Calls Tryz.prog 8 #[v, u, valLink x] w fun e w' => e = .returned (.bool true) ∧ Below w.heap.size w w' := by
  obtain ⟨hl, hsz⟩ := far_sizes hq
  obtain ⟨hl', hsz'⟩ := far_sizes hq'
  have hsz100 := far_sizes100 hq
  have hxm : x.op.size ≤ maxLen := by unfold maxLen; omega
  have HS : Hid (∀ w1, Below w.heap.size w w1 → Calls Tryz.prog 12 #[] w1 fun e w' => e = .returned (.bool true) ∧ Below w1.heap.size w1 w') := fun w1 hb => shown_any w1 (hE.f.below hb)
  have HBA := Lib.hid (show Below w.heap.size w (w.alloc (.cells #[I64 x.kind, .string x.op, I64 x.backend, I64 x.conn] 34)) from (Below.refl _ _).alloc (Nat.le_refl _) _)
  have HFl : Hid (∀ w1, Below w.heap.size w w1 → Calls Tryz.prog 11 #[v] w1 fun e w' => e = .returned (.bool false) ∧ w1 = w') := fun w1 hb => by
    have h1 := far_full v l w1 (h.1.below hb)
    rw [hq] at h1
    exact h1
  have HFm : Hid (∀ w1, Below w.heap.size w w1 → Calls Tryz.prog 11 #[u] w1 fun e w' => e = .returned (.bool false) ∧ w1 = w') := fun w1 hb => by
    have h1 := far_full u m w1 (h'.1.below hb)
    rw [hq'] at h1
    exact h1
  have HRl : Hid (∀ w1, Below w.heap.size w w1 → Calls Tryz.prog 14 #[v] w1 fun e w' => e = .returned (I64 0) ∧ Below w1.heap.size w1 w') := fun w1 hb => by
    have h1 := rbuild_any v l w1 (h.1.below hb) (by omega) hsz
    rw [h0] at h1
    exact h1
  have HRm : Hid (∀ w1, Below w.heap.size w w1 → Calls Tryz.prog 14 #[u] w1 fun e w' => e = .returned (I64 0) ∧ Below w1.heap.size w1 w') := fun w1 hb => by
    have h1 := rbuild_any u m w1 (h'.1.below hb) (by omega) hsz'
    rw [h0'] at h1
    exact h1
  obtain ⟨b1, b2, b3, b4, b5⟩ := Fa.build_ok h0
  obtain ⟨c1, c2, c3, c4, c5⟩ := Fa.build_ok h0'
  have HBl : Hid (∀ w1, Below w.heap.size w w1 → Calls Tryz.prog 13 #[v] w1 fun e w' => ∃ rf, e = .returned (.tuple #[valE rf, I64 0]) ∧ Holds (fun _ => True) w' (Fa.build l).2 [valE rf] ∧ Below w1.heap.size w1 w') := fun w1 hb => (build_any v l w1 (h.below hb) (by omega) hsz).mono (fun e w' hp => by
    obtain ⟨_, p2, p3⟩ := hp
    obtain ⟨rf, e1, e2⟩ := p2 h0
    exact ⟨rf, e1, e2.mono (fun _ _ _ => trivial), p3⟩)
  have HBm : Hid (∀ w1, Below w.heap.size w w1 → Calls Tryz.prog 13 #[u] w1 fun e w' => ∃ rf, e = .returned (.tuple #[valE rf, I64 0]) ∧ Holds (fun _ => True) w' (Fa.build m).2 [valE rf] ∧ Below w1.heap.size w1 w') := fun w1 hb => (build_any u m w1 (h'.below hb) (by omega) hsz').mono (fun e w' hp => by
    obtain ⟨_, p2, p3⟩ := hp
    obtain ⟨rf, e1, e2⟩ := p2 h0'
    exact ⟨rf, e1, e2.mono (fun _ _ _ => trivial), p3⟩)
  have htl : (Fa.build l).2.txt.length ≤ 12000 := by
    have h1 := txt_bound (Fa.build l).2 0 (fun x hx => by rw [b1] at hx; exact (hsz100 x hx)) b2
    omega
  have HTX : Hid (∀ w1 rv, Below w.heap.size w w1 → Holds (fun _ => True) w1 (Fa.build l).2 [rv] → Calls Tryz.prog 30 #[rv] w1 fun e w' => e = .returned (.tuple #[S8 (Fa.build l).2.txt, I64 0]) ∧ Below w1.heap.size w1 w') := fun w1 rv hb hh => text_any _ rv w1 hh b2 (by omega) (hE.f.below hb)
  have HP : Hid (∀ w1, Below w.heap.size w w1 → Calls Tryz.prog 31 #[S8 (Fa.build l).2.txt] w1 fun e w' => ∃ rf, e = .returned (.tuple #[valE rf, I64 0]) ∧ Holds (fun _ => True) w' (Fa.build l).2 [valE rf] ∧ Below w1.heap.size w1 w') := fun w1 hb => (pparse_any _ w1 (hE.below hb) (by omega)).mono (fun e w' q => by
    have q2 := q.2
    rw [Fa.parse_build h0] at q2
    rcases q2 with q2 | q2
    · exact absurd rfl q2.1
    · obtain ⟨rf, e1, e2⟩ := q2.2
      exact ⟨rf, e1, e2, q.1⟩)
  have HIl : Hid (∀ w1 rv, Below w.heap.size w w1 → Holds (fun _ => True) w1 (Fa.build l).2 [rv] → Calls Tryz.prog 15 #[rv, v] w1 fun e w' => e = .returned (.bool true) ∧ Below w1.heap.size w1 w') := fun w1 rv hb hh => by
    have h1 := is_any _ _ rv v _ w1 hh b2 (by omega) (h.1.below hb) (by omega)
    rw [decide_eq_true b1] at h1
    exact h1
  have HIm : Hid (∀ w1 rv, Below w.heap.size w w1 → Holds (fun _ => True) w1 (Fa.build m).2 [rv] → Calls Tryz.prog 15 #[rv, u] w1 fun e w' => e = .returned (.bool true) ∧ Below w1.heap.size w1 w') := fun w1 rv hb hh => by
    have h1 := is_any _ _ rv u _ w1 hh c2 (by omega) (h'.1.below hb) (by omega)
    rw [decide_eq_true c1] at h1
    exact h1
  have HW : Hid (∀ w1 cv, Holds (fun _ => True) w1 (Fa.build l).2 [cv] → Calls Tryz.prog 16 #[valLink x, cv] w1 fun e w' => ∃ bb, e = .returned (.tuple #[linkPtr bb, I64 0]) ∧ Holds (fun _ => True) w' (.link x (Fa.build l).2 .nil) [linkPtr bb] ∧ Below w1.heap.size w1 w') := fun w1 cv hh => (wrap_law x _ cv w1 hxm (.inr ⟨fun e => by rw [e] at b3; exact absurd b3 (by decide), hh⟩) (by omega)).mono (fun e w' hp => by
    obtain ⟨bb, q1, q2⟩ := hp.2.1 hw
    exact ⟨bb, q1, q2, hp.2.2⟩)
  have HJ : Hid (∀ w1 ra rb g, Holds (fun _ => True) w1 (Fa.build l).2 [valE ra] → Holds (fun _ => True) w1 (Fa.build m).2 [valE rb] → g < w1.heap.size → w1.cell? ⟨g, 0, none⟩ = some (valE ra) → w1.cell? ⟨g, 1, none⟩ = some (valE rb) → Calls Tryz.prog 18 #[.slice (some ⟨g, 0, none⟩) 2 2] w1 fun e w' => ∃ ty pv, e = .returned (.tuple #[.iface ty pv, I64 0]) ∧ Holds (fun _ => True) w' (.join ((Fa.build l).2.app (Fa.build m).2) .nil) [.iface ty pv] ∧ Below w1.heap.size w1 w') := fun w1 ra rb g i1 i2 i3 i4 i5 => (join2 _ _ ra rb g w1 i1 i2 (by omega) i3 i4 i5).mono (fun e w' hp => by
    obtain ⟨ty, pv, q1, q2⟩ := hp.2.1 hj
    exact ⟨ty, pv, q1, q2, hp.2.2⟩)
  have OKA := Lib.hid b2
  have OKB := Lib.hid c2
  have OKW := Lib.hid (wrap_okL hw (by omega) b2 (by omega)).1
  have EW := Lib.hid (hasB_wrap hw)
  have OKJ := Lib.hid (join2_ok b2 c2 b3 c3)
  generalize (Fa.build l).2.txt = T at HTX HP
  clear hq hq' h h' hE h0 h0' hl hl' hsz hsz' hsz100 hxm htl b1 b2 b3 b4 b5 c1 c2 c3 c4 c5 hw hj
  generalize (Fa.build l).2 = ta at HBl HTX HP HIl HW HJ OKA OKW EW OKJ
  generalize (Fa.build m).2 = tb at HBm HIm HJ OKB OKJ
  obtain ⟨xk, xo, xb, xc⟩ := x
  unfold valLink at *
  dsimp only at HBA hxs ⊢
  dsimp only at EW
  go_enter Tryz.func8, Tryz.ntmps8
  go_wp2_with fail
  refine (HFl.out _ HBA.out).mono ?_
  rintro e w1 ⟨rfl, rfl⟩
  go_wp2_with fail
  refine (HFm.out _ HBA.out).mono ?_
  rintro e w1 ⟨rfl, rfl⟩
  go_wp2_with fail
  refine (HRl.out _ HBA.out).mono ?_
  rintro e w2 ⟨rfl, hx⟩
  obtain ⟨d0, d1, d2, d3⟩ := boxCells hx
  have hb2 := HBA.out.trans (hx.mono HBA.out.size)
  clear hx
  go_wp2_with fail
  refine (HRm.out _ hb2).mono ?_
  rintro e w3 ⟨rfl, hx⟩
  obtain ⟨f0, f1, f2, f3⟩ := carry4 hx d0 d1 d2 d3
  have hb3 := hb2.trans (hx.mono hb2.size)
  clear hx hb2 d0 d1 d2 d3
  go_wp2_with fail
  refine (HBl.out _ hb3).mono ?_
  rintro e w4 ⟨ra, rfl, hha, hx⟩
  obtain ⟨d0, d1, d2, d3⟩ := carry4 hx f0 f1 f2 f3
  have hb4 := hb3.trans (hx.mono hb3.size)
  clear hx hb3 f0 f1 f2 f3
  obtain ⟨tya, pva, htya⟩ := valE_iface ra
  rw [htya] at hha ⊢
  have HTYa := Lib.hid htya
  clear htya
  go_wp2_with fail
  refine (HBm.out _ hb4).mono ?_
  rintro e w5 ⟨rb, rfl, hhb, hx⟩
  obtain ⟨f0, f1, f2, f3⟩ := carry4 hx d0 d1 d2 d3
  have hb5 := hb4.trans (hx.mono hb4.size)
  replace hha := hha.below hx
  clear hx hb4 d0 d1 d2 d3
  obtain ⟨tyb, pvb, htyb⟩ := valE_iface rb
  rw [htyb] at hhb ⊢
  have HTYb := Lib.hid htyb
  clear htyb
  go_wp2_with fail
  refine (HTX.out _ _ hb5 hha).mono ?_
  rintro e w6 ⟨rfl, hx⟩
  obtain ⟨d0, d1, d2, d3⟩ := carry4 hx f0 f1 f2 f3
  have hb6 := hb5.trans (hx.mono hb5.size)
  replace hha := hha.below hx
  replace hhb := hhb.below hx
  clear hx hb5 f0 f1 f2 f3
  go_wp2_with fail
  refine (HP.out _ hb6).mono ?_
  rintro e w7 ⟨rc, rfl, hhc, hx⟩
  obtain ⟨f0, f1, f2, f3⟩ := carry4 hx d0 d1 d2 d3
  have hb7 := hb6.trans (hx.mono hb6.size)
  replace hha := hha.below hx
  replace hhb := hhb.below hx
  clear hx hb6 d0 d1 d2 d3
  obtain ⟨tyc, pvc, htyc⟩ := valE_iface rc
  rw [htyc] at hhc ⊢
  have HTYc := Lib.hid htyc
  clear htyc
  go_wp2_with fail
  refine (HIl.out _ _ hb7 hhc).mono ?_
  rintro e w8 ⟨rfl, hx⟩
  obtain ⟨d0, d1, d2, d3⟩ := carry4 hx f0 f1 f2 f3
  have hb8 := hb7.trans (hx.mono hb7.size)
  replace hha := hha.below hx
  replace hhb := hhb.below hx
  clear hhc HTYc
  clear hx hb7 f0 f1 f2 f3
  go_wp2_with fail
  refine (HW.out _ _ hha).mono ?_
  rintro e w9 ⟨bw, rfl, hhw, hx⟩
  obtain ⟨f0, f1, f2, f3⟩ := carry4 hx d0 d1 d2 d3
  have hb9 := hb8.trans (hx.mono hb8.size)
  replace hha := hha.below hx
  replace hhb := hhb.below hx
  clear hx hb8 d0 d1 d2 d3
  unfold linkPtr at hhw ⊢
  go_wp2_with fail
  have hba := (Below.refl w9.heap.size w9).alloc (Nat.le_refl _) (.cells #[.iface tya pva, .iface tyb pvb] 26)
  have hbn := blk_new w9 (.cells #[.iface tya pva, .iface tyb pvb] 26)
  have hga := hha.below hba
  have hgb := hhb.below hba
  have e0 := blk_cell hbn 0
  have e1 := blk_cell hbn 1
  simp only [List.getElem?_toArray, List.getElem?_cons_zero, List.getElem?_cons_succ] at e0 e1
  have hgw := hhw.below hba
  have hXK := (show XK w.heap.size xk w9 from f0).below hba
  have hbk := hb9.trans (hba.mono hb9.size)
  have hgs : w9.heap.size < (w9.alloc (.cells #[.iface tya pva, .iface tyb pvb] 26)).heap.size := by simp
  generalize w9.heap.size = GA at e0 e1 hgs hba ⊢
  generalize w9.alloc (.cells #[.iface tya pva, .iface tyb pvb] 26) = wa at e0 e1 hgs hga hgb hXK hbk hgw ⊢
  refine (HJ.out _ ra rb _ (by rw [HTYa.out]; exact hga) (by rw [HTYb.out]; exact hgb) hgs (by rw [HTYa.out]; exact e0) (by rw [HTYb.out]; exact e1)).mono ?_
  rintro e wL ⟨tyj, pvj, rfl, hhj, hx⟩
  have hbL := hbk.trans (hx.mono hbk.size)
  have hla := hga.below hx
  have hlb := hgb.below hx
  have hlw := hgw.below hx
  have HXL := Lib.hid (hXK.below hx)
  have HBL := Lib.hid hbL
  have HHA : Hid (∀ w1 (q : Nat), Below wL.heap.size wL w1 → Calls Tryz.prog 23 #[.iface tya pva, I64 q] w1 fun e w' => e = .returned (.bool (hasB ta q)) ∧ Below w1.heap.size w1 w') := fun w1 q hb => has_at ta _ q w1 (hla.below hb) OKA.out
  have HHB : Hid (∀ w1 (q : Nat), Below wL.heap.size wL w1 → Calls Tryz.prog 23 #[.iface tyb pvb, I64 q] w1 fun e w' => e = .returned (.bool (hasB tb q)) ∧ Below w1.heap.size w1 w') := fun w1 q hb => has_at tb _ q w1 (hlb.below hb) OKB.out
  have HIA : Hid (∀ w1, Below wL.heap.size wL w1 → Calls Tryz.prog 15 #[.iface tya pva, v] w1 fun e w' => e = .returned (.bool true) ∧ Below w1.heap.size w1 w') := fun w1 hb => HIl.out w1 _ (HBL.out.trans (hb.mono HBL.out.size)) (hla.below hb)
  have HIB : Hid (∀ w1, Below wL.heap.size wL w1 → Calls Tryz.prog 15 #[.iface tyb pvb, u] w1 fun e w' => e = .returned (.bool true) ∧ Below w1.heap.size w1 w') := fun w1 hb => HIm.out w1 _ (HBL.out.trans (hb.mono HBL.out.size)) (hlb.below hb)
  have HHW : Hid (∀ w1 (q : Nat), Below wL.heap.size wL w1 → Calls Tryz.prog 23 #[.iface 55 (.pointer (some ⟨bw, 0, none⟩)), I64 q] w1 fun e w' => e = .returned (.bool (hasB ta q || xk == (q : Int))) ∧ Below w1.heap.size w1 w') := fun w1 q hb => by
    have h1 := has_at _ _ q w1 (hlw.below hb) OKW.out
    rw [EW.out] at h1
    exact h1
  have HHJ : Hid (∀ w1 (q : Nat), Below wL.heap.size wL w1 → Calls Tryz.prog 23 #[.iface tyj pvj, I64 q] w1 fun e w' => e = .returned (.bool (hasB ta q || hasB tb q)) ∧ Below w1.heap.size w1 w') := fun w1 q hb => by
    have h1 := has_at _ _ q w1 (hhj.below hb) OKJ.out
    rw [hasB_join] at h1
    exact h1
  have HSL : Hid (∀ w1, Below wL.heap.size wL w1 → Calls Tryz.prog 12 #[] w1 fun e w' => e = .returned (.bool true) ∧ Below w1.heap.size w1 w') := fun w1 hb => HS.out w1 (HBL.out.trans (hb.mono HBL.out.size))
  have HST := Lib.hid (Below.refl wL.heap.size wL)
  clear HFl HFm HS HRl HRm HBl HBm HTX HP HIl HIm HW HJ OKA OKB HTYa HTYb HBA hba hbn hga hgb e0 e1 hXK hbk hgs hbL hla hlb hx hha hhb hb9 f0 f1 f2 f3 OKW EW hhw hgw hlw OKJ hhj
  generalize hasB ta = fA at HHA HHW HHJ
  generalize hasB tb = fB at HHB HHJ
  have HBX : Hid (∀ w1, Below wL.heap.size wL w1 → Below w.heap.size w w1) := fun w1 hb => HBL.out.trans (hb.mono HBL.out.size)
  clear HBL
  go_wp2
  go_loopw [19] (fun kv wr => ∃ q : Nat, q ≤ 18 ∧ kv = I64 q ∧ Hid (Below wL.heap.size wL wr)) (fun kv _ => 18 - (intOf kv).toNat)
  case atStart => exact ⟨0, Nat.zero_le _, rfl, HST⟩
  case round =>
    obtain ⟨q, hq, rfl, hbr⟩ := hrel
    by_cases hlt : q ≤ 17
    · have i1 : (q : Int) ≤ 17 := by omega
      have HQ : Hid (q + 1 ≤ 18) := (by omega : q + 1 ≤ 18)
      have hb0 := hbr.out
      cases hfa : fA q with
      | true =>
        have KA : Hid (∀ w1, Below wL.heap.size wL w1 → Calls Tryz.prog 23 #[.iface tya pva, I64 q] w1 fun e w' => e = .returned (.bool true) ∧ Below w1.heap.size w1 w') := fun w1 hb => by
          have h1 := HHA.out w1 q hb
          rw [hfa] at h1
          exact h1
        have KW : Hid (∀ w1, Below wL.heap.size wL w1 → Calls Tryz.prog 23 #[.iface 55 (.pointer (some ⟨bw, 0, none⟩)), I64 q] w1 fun e w' => e = .returned (.bool true) ∧ Below w1.heap.size w1 w') := fun w1 hb => by
          have h1 := HHW.out w1 q hb
          rw [hfa] at h1
          exact h1
        have KJ : Hid (∀ w1, Below wL.heap.size wL w1 → Calls Tryz.prog 23 #[.iface tyj pvj, I64 q] w1 fun e w' => e = .returned (.bool true) ∧ Below w1.heap.size w1 w') := fun w1 hb => by
          have h1 := HHJ.out w1 q hb
          rw [hfa] at h1
          exact h1
        clear hlt hq hbr
        go_wp2_with fail
        refine (KW.out _ hb0).mono ?_
        rintro e y1 ⟨rfl, hy⟩
        have hz1 := hb0.trans (hy.mono hb0.size)
        have x1 : y1.cell? ⟨w.heap.size, 0, none⟩ = some (I64 xk) := HXL.out.below hz1
        clear hy hb0
        go_wp2_with fail
        refine (KA.out _ hz1).mono ?_
        rintro e y2 ⟨rfl, hy⟩
        have hz2 := hz1.trans (hy.mono hz1.size)
        have x2 : y2.cell? ⟨w.heap.size, 0, none⟩ = some (I64 xk) := HXL.out.below hz2
        clear hy hz1 x1
        go_wp2_with fail
        refine (KJ.out _ hz2).mono ?_
        rintro e y3 ⟨rfl, hy⟩
        have hz3 := hz2.trans (hy.mono hz2.size)
        have x3 : y3.cell? ⟨w.heap.size, 0, none⟩ = some (I64 xk) := HXL.out.below hz3
        clear hy hz2 x2
        go_wp2_with fail
        refine (KA.out _ hz3).mono ?_
        rintro e y4 ⟨rfl, hy⟩
        have hz4 := hz3.trans (hy.mono hz3.size)
        have x4 : y4.cell? ⟨w.heap.size, 0, none⟩ = some (I64 xk) := HXL.out.below hz4
        clear hy hz3 x3
        go_wp2_with fail
        case roundEnd => exact ⟨⟨q + 1, HQ.out, by go_num, hz4⟩, by have := HQ.out; simp [intOf]; omega⟩
      | false =>
        have KA : Hid (∀ w1, Below wL.heap.size wL w1 → Calls Tryz.prog 23 #[.iface tya pva, I64 q] w1 fun e w' => e = .returned (.bool false) ∧ Below w1.heap.size w1 w') := fun w1 hb => by
          have h1 := HHA.out w1 q hb
          rw [hfa] at h1
          exact h1
        have KW : Hid (∀ w1, Below wL.heap.size wL w1 → Calls Tryz.prog 23 #[.iface 55 (.pointer (some ⟨bw, 0, none⟩)), I64 q] w1 fun e w' => e = .returned (.bool (xk == (q : Int))) ∧ Below w1.heap.size w1 w') := fun w1 hb => by
          have h1 := HHW.out w1 q hb
          rw [hfa] at h1
          rw [Bool.false_or] at h1
          exact h1
        have KJ : Hid (∀ w1, Below wL.heap.size wL w1 → Calls Tryz.prog 23 #[.iface tyj pvj, I64 q] w1 fun e w' => e = .returned (.bool (fB q)) ∧ Below w1.heap.size w1 w') := fun w1 hb => by
          have h1 := HHJ.out w1 q hb
          rw [hfa] at h1
          rw [Bool.false_or] at h1
          exact h1
        have KB : Hid (∀ w1, Below wL.heap.size wL w1 → Calls Tryz.prog 23 #[.iface tyb pvb, I64 q] w1 fun e w' => e = .returned (.bool (fB q)) ∧ Below w1.heap.size w1 w') := fun w1 hb => by
          have h1 := HHB.out w1 q hb
          skip
          exact h1
        generalize hke : (xk == (q : Int)) = ke at KW
        generalize fB q = kb at KJ KB
        clear hlt hq hbr
        go_wp2_with fail
        refine (KW.out _ hb0).mono ?_
        rintro e y1 ⟨rfl, hy⟩
        have hz1 := hb0.trans (hy.mono hb0.size)
        have x1 : y1.cell? ⟨w.heap.size, 0, none⟩ = some (I64 xk) := HXL.out.below hz1
        clear hy hb0
        go_wp2_with fail
        refine (KA.out _ hz1).mono ?_
        rintro e y2 ⟨rfl, hy⟩
        have hz2 := hz1.trans (hy.mono hz1.size)
        have x2 : y2.cell? ⟨w.heap.size, 0, none⟩ = some (I64 xk) := HXL.out.below hz2
        clear hy hz1 x1
        go_wp2_with fail
        refine (KJ.out _ hz2).mono ?_
        rintro e y3 ⟨rfl, hy⟩
        have hz3 := hz2.trans (hy.mono hz2.size)
        have x3 : y3.cell? ⟨w.heap.size, 0, none⟩ = some (I64 xk) := HXL.out.below hz3
        clear hy hz2 x2
        go_wp2_with fail
        refine (KA.out _ hz3).mono ?_
        rintro e y4 ⟨rfl, hy⟩
        have hz4 := hz3.trans (hy.mono hz3.size)
        have x4 : y4.cell? ⟨w.heap.size, 0, none⟩ = some (I64 xk) := HXL.out.below hz4
        clear hy hz3 x3
        go_wp2_with fail
        refine (KB.out _ hz4).mono ?_
        rintro e y5 ⟨rfl, hy⟩
        have hz5 := hz4.trans (hy.mono hz4.size)
        have x5 : y5.cell? ⟨w.heap.size, 0, none⟩ = some (I64 xk) := HXL.out.below hz5
        clear hy hz4 x4
        go_wp2_with fail
        case roundEnd => exact ⟨⟨q + 1, HQ.out, by go_num, hz5⟩, by have := HQ.out; simp [intOf]; omega⟩
    · have i1 : ¬ (q : Int) ≤ 17 := by omega
      have hb0 := hbr.out
      clear hlt hq hbr
      go_wp2_with fail
      refine (HIA.out _ hb0).mono ?_
      rintro e y1 ⟨rfl, hy⟩
      have hb1 := hb0.trans (hy.mono hb0.size)
      clear hy
      go_wp2_with fail
      refine (HIB.out _ hb1).mono ?_
      rintro e y2 ⟨rfl, hy⟩
      have hb2 := hb1.trans (hy.mono hb1.size)
      clear hy
      go_wp2_with fail
      refine (HSL.out _ hb2).mono ?_
      rintro e y3 ⟨rfl, hy⟩
      have hb3 := hb2.trans (hy.mono hb2.size)
      clear hy
      go_wp2
      go_ret
      exact ⟨rfl, HBX.out _ hb3⟩
end Go.Proofs.YtgnhbccmdpkbiaaGreatDoor
namespace Go.Proofs.YtgnhbccmdpkbiaaGreatDoor
open Go.RowKit Go.Shelf

theorem lawRound (v : Value) (l : List Fa.Node) (u : Value) (m : List Fa.Node) (x : Fa.Link) (w : World) (hE : EnvT w) (h : NodesIn w v l) (h' : NodesIn w u m) : Calls Tryz.prog 8 #[v, u, valLink x] w fun e w' => e = .returned (.bool true) ∧ Below w.heap.size w w' := by
  cases hq : farL l with
  | true => exact lawRound_a v l u x w hE h hq
  | false =>
    cases hq' : farL m with
    | true => exact lawRound_b v l u m x w hE h h' hq hq'
    | false =>
      by_cases hxs : 100 < x.op.size
      · exact lawRound_c v l u m x w hE h h' hq hq' hxs
      · by_cases h0 : (Fa.build l).1 = 0
        · by_cases h0' : (Fa.build m).1 = 0
          · by_cases hw : wrapE x (Fa.build l).2 = 0
            · by_cases hj : joinE ((Fa.build l).2.app (Fa.build m).2) = 0
              · exact lawRound_f11 v l u m x w hE h h' hq hq' hxs h0 h0' hw hj
              · exact lawRound_f10 v l u m x w hE h h' hq hq' hxs h0 h0' hw hj
            · by_cases hj : joinE ((Fa.build l).2.app (Fa.build m).2) = 0
              · exact lawRound_f01 v l u m x w hE h h' hq hq' hxs h0 h0' hw hj
              · exact lawRound_f00 v l u m x w hE h h' hq hq' hxs h0 h0' hw hj
          · exact lawRound_e v l u m x w hE h h' hq hq' hxs h0 h0'
        · exact lawRound_d v l u m x w hE h h' hq hq' hxs h0
end Go.Proofs.YtgnhbccmdpkbiaaGreatDoor
