/-
  What the law FaultsTexts needs of its two parsers: one result, over the plain parser.
-/
import Derived.Test.YtgnhbccmdpkbiaaGreatDoorFaX
import Derived.Test.YtgnhbccmdpkbiaaGreatDoorFaPa
import Derived.Test.YtgnhbccmdpkbiaaGreatDoorFaRd
import Derived.Test.YtgnhbccmdpkbiaaGreatDoorFaL1
namespace Go.Proofs.YtgnhbccmdpkbiaaGreatDoor
open Go.RowKit Go.Shelf

/-- A text that was read is a tree of one fault, within the limits. -/
theorem parse_good {s : List UInt8} (h : (Fa.parse s).1 = 0) : (Fa.parse s).2.ok ∧ (Fa.parse s).2.len = 1 ∧ (Fa.parse s).2.nodes ≤ 40 := by
  cases hp : Fa.ppT false s with
  | none =>
    rw [Fa.parse_none hp] at h
    exact absurd h (by decide)
  | some p =>
    obtain ⟨t, wd, r⟩ := p
    by_cases hr : r = []
    · subst hr
      obtain ⟨h1, h2, h3⟩ := Fa.parse_ok hp
      rw [Fa.parse_all hp] at h ⊢
      cases wd with
      | true => exact absurd h (show ¬ (7 : Int) = 0 by decide)
      | false =>
        simp only [Bool.false_eq_true, if_false] at h ⊢
        by_cases hb : Fa.big t = true
        · rw [if_pos hb] at h
          exact absurd h (by decide)
        · rw [if_neg hb]
          have hb2 : Fa.big t = false := by simpa using hb
          simp only [Fa.big, Bool.or_eq_false_iff, decide_eq_false_iff_not] at hb2
          exact ⟨Fa.read_ok h2 (h3 rfl) hb2.2, h1, by have := hb2.1.1; show t.nodes ≤ 40; omega⟩
    · rw [Fa.parse_more hp hr] at h
      exact absurd h (by decide)
end Go.Proofs.YtgnhbccmdpkbiaaGreatDoor
namespace Go.Proofs.YtgnhbccmdpkbiaaGreatDoor
open Go.RowKit Go.Shelf

theorem txtL_bound {x : Fa.Link} (h : x.op.size ≤ 100) (hk : Fa.okNum x = true) : (Fa.txtL x).length ≤ 170 := by
  simp only [Fa.okNum, Bool.and_eq_true, decide_eq_true_eq] at hk
  obtain ⟨⟨⟨⟨⟨n1, n2⟩, n3⟩, n4⟩, n5⟩, n6⟩ := hk
  have h1 := Lib.itoa_length_le x.backend (by omega) (by omega)
  have h2 := Lib.itoa_length_le x.conn (by omega) (by omega)
  have h3 := names_len x.kind.toNat
  have h4 : (Fa.txt1 x).length ≤ 100 := by unfold Fa.txt1; rw [Array.length_toList]; exact h
  have h5 : (Fa.txt2 x).length ≤ 25 := by
    unfold Fa.txt2
    split
    · decide
    · rw [List.length_append, show Fa.sOn.length = 4 from rfl]; omega
  have h6 : (Fa.txt3 x).length ≤ 27 := by
    unfold Fa.txt3
    split
    · decide
    · rw [List.length_append, show Fa.sOver.length = 6 from rfl]; omega
  unfold Fa.txtL Fa.nameOf
  simp only [List.length_append, List.length_cons, List.length_nil]
  omega
theorem txt_bound (t : Fa.F) : ∀ (d : Int), (∀ x ∈ t.chain d, x.link.op.size ≤ 100) → t.ok → t.txt.length ≤ 300 * t.nodes := by
  induction t with
  | nil => intro d h hok; exact Nat.le_refl _
  | link x c r ih1 ih2 =>
    intro d h hok
    have e1 := ih1 (d + 1) (fun y hy => h y (by simp [Fa.F.chain, hy])) hok.2.2.1
    have e2 := ih2 d (fun y hy => h y (by simp [Fa.F.chain, hy])) hok.2.2.2
    have e3 : (Fa.txtL x).length ≤ 170 := txtL_bound (h ⟨d, 0, x⟩ (by simp [Fa.F.chain])) hok.1
    cases c <;> cases r <;> simp only [Fa.F.txt, Fa.F.nodes, List.length_append, List.length_cons, List.length_nil] at e1 e2 ⊢ <;> omega
  | join k r ih1 ih2 =>
    intro d h hok
    have e1 := ih1 (d + 1) (fun y hy => h y (by simp [Fa.F.chain, hy])) hok.2.2.1
    have e2 := ih2 d (fun y hy => h y (by simp [Fa.F.chain, hy])) hok.2.2.2
    cases r <;> simp only [Fa.F.txt, Fa.F.nodes, List.length_append, List.length_cons, List.length_nil] at e1 e2 ⊢ <;> omega
end Go.Proofs.YtgnhbccmdpkbiaaGreatDoor
namespace Go.Proofs.YtgnhbccmdpkbiaaGreatDoor
open Go.RowKit Go.Shelf

set_option maxHeartbeats 8000000 in
set_option maxRecDepth 100000 in
set_option linter.unusedSimpArgs false in
theorem lawTexts_far (v : Value) (l : List Fa.Node) (s : List UInt8) (w : World) (hE : EnvF w) (h : NodesIn w v l) (hs : s.length ≤ 9223372036854775807) (hf : farL l = true ∨ 3000 < s.length) : Calls Tryz.prog 9 #[v, S8 s] w fun e w' => e = .returned (.bool true) ∧ Below w.heap.size w w' := by
  have HF := Lib.hid (far_full v l w h.1)
  have HS : Hid (∀ w1, Below w.heap.size w w1 → Calls Tryz.prog 12 #[] w1 fun e w' => e = .returned (.bool true) ∧ Below w1.heap.size w1 w') := fun w1 hb => shown_any w1 (hE.below hb)
  cases hq : farL l with
  | true =>
    rw [hq] at HF
    clear hq h hE hf
    go_enter Tryz.func9, Tryz.ntmps9
    go_wp2_with (first | (go_at_call 11; refine HF.out.mono ?_; rintro e w1 ⟨rfl, rfl⟩) | (go_at_call 12; refine (HS.out _ (Below.refl _ _)).mono ?_; rintro e w2 ⟨rfl, hb2⟩))
    go_ret
    exact ⟨rfl, hb2⟩
  | false =>
    have h3 : 3000 < s.length := by
      rcases hf with h | h
      · rw [hq] at h; exact absurd h (by decide)
      · exact h
    have h4 : (3000 : Int) < (s.length : Int) := by omega
    rw [hq] at HF
    clear hq h hE hf
    go_enter Tryz.func9, Tryz.ntmps9
    go_wp2_with (first | (go_at_call 11; refine HF.out.mono ?_; rintro e w1 ⟨rfl, rfl⟩) | (go_at_call 12; refine (HS.out _ (Below.refl _ _)).mono ?_; rintro e w2 ⟨rfl, hb2⟩))
    go_ret
    exact ⟨rfl, hb2⟩

set_option maxHeartbeats 8000000 in
set_option maxRecDepth 100000 in
set_option linter.unusedSimpArgs false in
theorem lawTexts_bad (v : Value) (l : List Fa.Node) (s : List UInt8) (w : World) (hE : EnvT w) (h : NodesIn w v l) (hs : s.length ≤ 3000) (hq : farL l = false) (hp : (Fa.parse s).1 ≠ 0) (h0 : (Fa.build l).1 ≠ 0) : Calls Tryz.prog 9 #[v, S8 s] w fun e w' => e = .returned (.bool true) ∧ Below w.heap.size w w' := by
  obtain ⟨hl, hsz⟩ := far_sizes hq
  have HF := Lib.hid (far_full v l w h.1)
  rw [hq] at HF
  have HS : Hid (∀ w1, Below w.heap.size w w1 → Calls Tryz.prog 12 #[] w1 fun e w' => e = .returned (.bool true) ∧ Below w1.heap.size w1 w') := fun w1 hb => shown_any w1 (hE.f.below hb)
  have HR : Hid (∀ w1, Below w.heap.size w w1 → Calls Tryz.prog 14 #[v] w1 fun e w' => e = .returned (I64 (Fa.build l).1) ∧ Below w1.heap.size w1 w') := fun w1 hb => rbuild_any v l w1 (h.1.below hb) (by omega) hsz
  have HP : Hid (Calls Tryz.prog 31 #[S8 s] w fun e w' => e = .returned (.tuple #[.nilIface, I64 (Fa.parse s).1]) ∧ Below w.heap.size w w') := (pparse_any s w hE (by omega)).mono (fun e w' q => by
    rcases q.2 with q2 | q2
    · exact ⟨q2.2, q.1⟩
    · exact absurd q2.1 hp)
  have HQ : Hid (∀ w1, Calls Tryz.prog 32 #[S8 s] w1 fun e w' => e = .returned (.tuple #[.slice none 0 0, I64 (Fa.parse s).1]) ∧ Below w1.heap.size w1 w') := fun w1 => (rparse_any s w1 (by omega)).mono (fun e w' q => by
    rcases q.2 with q2 | q2
    · exact ⟨q2.2, q.1⟩
    · exact absurd q2.1 hp)
  have g1 : ((Fa.parse s).1 == 0) = false := by rw [beq_eq_false_iff_ne]; exact hp
  have g2 : ((Fa.parse s).1 != 0) = true := by rw [bne_iff_ne]; exact hp
  have g3 : ((Fa.parse s).1 != (Fa.parse s).1) = false := by simp
  have g4 : ((Fa.build l).1 != 0) = true := by rw [bne_iff_ne]; exact h0
  have g5 : ¬ (3000 : Int) < (s.length : Int) := by omega
  generalize (Fa.parse s).1 = E at HP HQ g1 g2 g3
  generalize (Fa.build l).1 = BC at HR g4
  clear hq h hE hp h0 hl hsz
  go_enter Tryz.func9, Tryz.ntmps9
  go_wp2_with (go_at_call 11; refine HF.out.mono ?_; rintro e w1 ⟨rfl, rfl⟩)
  refine HP.out.mono ?_
  rintro e w2 ⟨rfl, hb2⟩
  go_wp2_with fail
  refine (HQ.out _).mono ?_
  rintro e w3 ⟨rfl, hx⟩
  have hb3 := hb2.trans (hx.mono hb2.size)
  clear hx hb2
  go_wp2_with fail
  refine (HR.out _ hb3).mono ?_
  rintro e w4 ⟨rfl, hx⟩
  have hb4 := hb3.trans (hx.mono hb3.size)
  clear hx hb3
  go_wp2_with fail
  refine (HS.out _ hb4).mono ?_
  rintro e w5 ⟨rfl, hx⟩
  have hb5 := hb4.trans (hx.mono hb4.size)
  clear hx hb4
  go_wp2
  go_ret
  exact ⟨rfl, hb5⟩

set_option maxHeartbeats 8000000 in
set_option maxRecDepth 100000 in
set_option linter.unusedSimpArgs false in
theorem lawTexts_read (v : Value) (l : List Fa.Node) (s : List UInt8) (w : World) (hE : EnvT w) (h : NodesIn w v l) (hs : s.length ≤ 3000) (hq : farL l = false) (hp : (Fa.parse s).1 = 0) (h0 : (Fa.build l).1 ≠ 0) : Calls Tryz.prog 9 #[v, S8 s] w fun e w' => e = .returned (.bool true) ∧ Below w.heap.size w w' := by
  obtain ⟨hl, hsz⟩ := far_sizes hq
  have HF := Lib.hid (far_full v l w h.1)
  rw [hq] at HF
  have HS : Hid (∀ w1, Below w.heap.size w w1 → Calls Tryz.prog 12 #[] w1 fun e w' => e = .returned (.bool true) ∧ Below w1.heap.size w1 w') := fun w1 hb => shown_any w1 (hE.f.below hb)
  have HR : Hid (∀ w1, Below w.heap.size w w1 → Calls Tryz.prog 14 #[v] w1 fun e w' => e = .returned (I64 (Fa.build l).1) ∧ Below w1.heap.size w1 w') := fun w1 hb => rbuild_any v l w1 (h.1.below hb) (by omega) hsz
  have g4 : ((Fa.build l).1 != 0) = true := by rw [bne_iff_ne]; exact h0
  generalize (Fa.build l).1 = BC at HR g4 h0
  obtain ⟨k1, k2, k3⟩ := parse_good hp
  have HP : Hid (Calls Tryz.prog 31 #[S8 s] w fun e w' => ∃ rf, e = .returned (.tuple #[valE rf, I64 0]) ∧ Holds (fun _ => True) w' (Fa.parse s).2 [valE rf] ∧ Below w.heap.size w w') := (pparse_any s w hE (by omega)).mono (fun e w' q => by
    rcases q.2 with q2 | q2
    · exact absurd hp q2.1
    · obtain ⟨rf, e1, e2⟩ := q2.2
      exact ⟨rf, e1, e2, q.1⟩)
  have HQ : Hid (∀ w1, Calls Tryz.prog 32 #[S8 s] w1 fun e w' => ∃ lv, e = .returned (.tuple #[lv, I64 0]) ∧ ReadsL 6 encNode w' lv ((Fa.parse s).2.chain 0) ∧ Below w1.heap.size w1 w') := fun w1 => (rparse_any s w1 (by omega)).mono (fun e w' q => by
    rcases q.2 with q2 | q2
    · exact absurd hp q2.1
    · obtain ⟨lv, e1, e2⟩ := q2.2
      exact ⟨lv, e1, e2, q.1⟩)
  have g5 : ¬ (3000 : Int) < (s.length : Int) := by omega
  generalize (Fa.parse s).2 = t at HP HQ k1 k2 k3
  have HI : Hid (∀ w1 rv v2, Holds (fun _ => True) w1 t [rv] → ReadsL 6 encNode w1 v2 (t.chain 0) → Calls Tryz.prog 15 #[rv, v2] w1 fun e w' => e = .returned (.bool true) ∧ Below w1.heap.size w1 w') := fun w1 rv v2 hh hr => by
    have h1 := is_any _ _ rv v2 _ w1 hh k1 (by omega) hr (by rw [Fa.chain_length]; omega)
    rw [decide_eq_true rfl] at h1
    exact h1
  clear hq h hE hp h0 hl hsz
  go_enter Tryz.func9, Tryz.ntmps9
  go_wp2_with (go_at_call 11; refine HF.out.mono ?_; rintro e w1 ⟨rfl, rfl⟩)
  refine HP.out.mono ?_
  rintro e w2 ⟨rf, rfl, hh2, hb2⟩
  go_wp2_with fail
  refine (HQ.out _).mono ?_
  rintro e w3 ⟨lv, rfl, hr3, hx⟩
  have hb3 := hb2.trans (hx.mono hb2.size)
  have hh3 := hh2.below hx
  clear hx hb2
  go_wp2_with fail
  refine (HI.out _ _ _ hh3 hr3).mono ?_
  rintro e w4 ⟨rfl, hx⟩
  have hb4 := hb3.trans (hx.mono hb3.size)
  clear hx hb3 hh3 hr3 hh2
  go_wp2_with fail
  refine (HR.out _ hb4).mono ?_
  rintro e w5 ⟨rfl, hx⟩
  have hb5 := hb4.trans (hx.mono hb4.size)
  clear hx hb4
  go_wp2_with fail
  refine (HS.out _ hb5).mono ?_
  rintro e w6 ⟨rfl, hx⟩
  have hb6 := hb5.trans (hx.mono hb5.size)
  clear hx hb5
  go_wp2
  go_ret
  exact ⟨rfl, hb6⟩
end Go.Proofs.YtgnhbccmdpkbiaaGreatDoor
