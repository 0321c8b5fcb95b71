/-
  Walks for layer 3 (faults): shown of the statements.
-/
import Derived.Test.YtgnhbccmdpkbiaaGreatDoorFaw19
import Derived.Test.YtgnhbccmdpkbiaaGreatDoorFaw15
import Derived.Deep.RegionHeld3
namespace Go.Proofs.YtgnhbccmdpkbiaaGreatDoor
open Go.RowKit Go.Shelf

theorem ex_fit : ∀ x ∈ exL, x.link.op.size ≤ maxLen := by
  intro x hx
  simp only [exL, List.mem_cons, List.not_mem_nil, or_false] at hx
  rcases hx with rfl | rfl | rfl | rfl <;> decide
theorem sBuild (g : Nat) (w : World) (h : NodesIn w (.slice (some ⟨g, 0, none⟩) 4 4) exL) : Calls Tryz.prog 13 #[.slice (some ⟨g, 0, none⟩) 4 4] w fun e w' => ∃ rf, e = .returned (.tuple #[valE rf, I64 0]) ∧ Holds (fun _ => True) w' exT [valE rf] ∧ Below w.heap.size w w' := by
  refine (build_any _ exL w h (by decide) ex_fit).mono ?_
  rintro e w' ⟨_, h2, h3⟩
  rw [ex_build] at h2
  obtain ⟨rf, e1, e2⟩ := h2 rfl
  exact ⟨rf, e1, e2.mono (fun _ _ _ => trivial), h3⟩
/-- The text that shown asks for. -/
def exS : List UInt8 := [40, 97, 116, 116, 101, 109, 112, 116, 32, 111, 110, 32, 49, 58, 32, 116, 114, 117, 110, 99, 97, 116, 101, 100, 59, 32, 114, 101, 97, 100, 32, 111, 118, 101, 114, 32, 55, 58, 32, 114, 101, 115, 101, 116, 32, 38, 32, 100, 105, 97, 108, 32, 111, 110, 32, 50, 58, 32, 114, 101, 102, 117, 115, 101, 100, 41]
theorem sh_step {W w w' : World} {RB : Nat} {a b c d : Value} (hb : Below w.heap.size w w') (h : w.cell? ⟨RB, 0, none⟩ = some a ∧ w.cell? ⟨RB, 1, none⟩ = some b ∧ w.cell? ⟨RB, 2, none⟩ = some c ∧ w.cell? ⟨RB, 3, none⟩ = some d ∧ Below W.heap.size W w) :
    w'.cell? ⟨RB, 0, none⟩ = some a ∧ w'.cell? ⟨RB, 1, none⟩ = some b ∧ w'.cell? ⟨RB, 2, none⟩ = some c ∧ w'.cell? ⟨RB, 3, none⟩ = some d ∧ Below W.heap.size W w' := by
  obtain ⟨h0, h1, h2, h3, h4⟩ := h
  have hl := cell_lt h0
  exact ⟨(hb.cell (p := ⟨RB, _, none⟩) hl).trans h0, (hb.cell (p := ⟨RB, _, none⟩) hl).trans h1, (hb.cell (p := ⟨RB, _, none⟩) hl).trans h2, (hb.cell (p := ⟨RB, _, none⟩) hl).trans h3, h4.trans (hb.mono h4.size)⟩
theorem sh_below {W w : World} {RB : Nat} {a b c d : Value} (h : w.cell? ⟨RB, 0, none⟩ = some a ∧ w.cell? ⟨RB, 1, none⟩ = some b ∧ w.cell? ⟨RB, 2, none⟩ = some c ∧ w.cell? ⟨RB, 3, none⟩ = some d ∧ Below W.heap.size W w) : Below W.heap.size W w := h.2.2.2.2
set_option maxHeartbeats 4000000 in
set_option maxRecDepth 100000 in
theorem shown_any (w : World) (hE : EnvF w) : Calls Tryz.prog 12 #[] w fun e w' => e = .returned (.bool true) ∧ Below w.heap.size w w' := by
  have HE := Lib.hid hE
  clear hE
  go_enter Tryz.func12, Tryz.ntmps12
  go_wp2_with fail
  refine (example_any _).mono ?_
  rintro e w1 ⟨g, rfl, hn1, hb1⟩
  go_wp2_with fail
  refine (sBuild g w1 hn1).mono ?_
  rintro e w2 ⟨rf, rfl, hh2, hx⟩
  have hb2 := hb1.trans (hx.mono hb1.size)
  obtain ⟨ty, pv, hty⟩ := valE_iface rf
  rw [hty] at hh2 ⊢
  clear hx hn1 hb1 hty
  have HT := Lib.hid (text_any exT _ w2 hh2 ex_ok (by rw [ex_txt]; decide) (HE.out.below hb2))
  go_wp2_with fail
  refine HT.out.mono ?_
  rintro e w3 ⟨rfl, hx⟩
  have hh3 := hh2.below hx
  have hb3 := hb2.trans (hx.mono hb2.size)
  clear hx hh2 hb2 HT
  rw [ex_txt]
  have HC := Lib.hid (chain_any _ exT _ w3 hh3 ex_ok (by decide))
  go_wp2_with fail
  refine HC.out.mono ?_
  rintro e w4 ⟨sv, rfl, hown4, hx⟩
  have hh4 := hh3.below hx
  have hb4 := hb3.trans (hx.mono hb3.size)
  rw [ex_chain] at hown4
  have hr4 := hown4.reads encNode_len
  clear hx hh3 hb3 HC hown4
  have HRT := Lib.hid (root_any exT _ w4 hh4 ex_ok (by decide) (HE.out.below hb4).et)
  rw [ex_root] at HRT
  unfold valLink at HRT
  dsimp only at HRT
  unfold nRead at HRT
  go_wp2_with fail
  refine HRT.out.mono ?_
  rintro e w5 ⟨rfl, hx⟩
  have hh5 := hh4.below hx
  have hb5 := hb4.trans (hx.mono hb4.size)
  have hr5 := hr4.below hx
  clear hx hh4 hb4 hr4 HRT
  go_wp2_with fail
  obtain ⟨RB, hRB⟩ : ∃ RB, RB = w5.heap.size := ⟨_, rfl⟩
  have hba : Below w5.heap.size w5 (w5.alloc (.cells #[I64 8, .string ⟨#[114, 101, 97, 100]⟩, I64 (-1), I64 7] 34)) := (Below.refl _ _).alloc (Nat.le_refl _) _
  have hh6 := hh5.below hba
  have hr6 := hr5.below hba
  have hb6 := hb5.trans (hba.mono hb5.size)
  have hcell := blk_new w5 (.cells #[I64 8, .string ⟨#[114, 101, 97, 100]⟩, I64 (-1), I64 7] 34)
  rw [← hRB] at hcell ⊢
  generalize w5.alloc (.cells #[I64 8, .string ⟨#[114, 101, 97, 100]⟩, I64 (-1), I64 7] 34) = W at hh6 hr6 hb6 hcell ⊢
  clear hh5 hr5 hb5 hba hRB
  have r0 := blk_cell hcell 0
  have r1 := blk_cell hcell 1
  have r2 := blk_cell hcell 2
  have r3 := blk_cell hcell 3
  simp only [List.getElem?_toArray, List.getElem?_cons_succ, List.getElem?_cons_zero] at r0 r1 r2 r3
  have hz : ∀ w, (Op.equalIn 10000 34 (.agg #[I64 8, .string ⟨#[114, 101, 97, 100]⟩, I64 (-1), I64 7]) (.agg #[I64 8, .string ⟨#[114, 101, 97, 100]⟩, I64 (-1), I64 7])).run Tryz.prog w = .ok true w := fun w => by
    have := aggL 9998 ⟨8, ⟨#[114, 101, 97, 100]⟩, -1, 7⟩ ⟨8, ⟨#[114, 101, 97, 100]⟩, -1, 7⟩ w
    rw [decide_eq_true rfl] at this
    exact this
  have e1 : Tryz.prog.eqGuardType Tryz.prog.depth 34 = false := by kernel_rfl
  have hz2 : ∀ w, (binOp .eql 34 (.agg #[I64 8, .string ⟨#[114, 101, 97, 100]⟩, I64 (-1), I64 7]) (.agg #[I64 8, .string ⟨#[114, 101, 97, 100]⟩, I64 (-1), I64 7])).run Tryz.prog w = .ok (.bool true) w := fun w => by
    have u := Tryz.underlying34
    go_simp
  have HSA : Hid (∀ w1 v, Below W.heap.size W w1 → NodesIn w1 v exL → Calls Tryz.prog 37 #[sv, v] w1 fun e w' => e = .returned (.bool true) ∧ Below w1.heap.size w1 w') := fun w1 v hb hn => by
    have h := same_any sv v exL exL w1 (hr6.below hb) hn.1 (by decide) (by decide)
    rw [decide_eq_true rfl] at h
    exact h
  have HH : Hid (∀ w1 k, Below W.heap.size W w1 → Calls Tryz.prog 23 #[.iface ty pv, I64 k] w1 fun e w' => e = .returned (.bool (decide (1 ≤ k) && decide (k < 17) && exT.has k)) ∧ Below w1.heap.size w1 w') := fun w1 k hb => has_any _ exT _ k w1 (hh6.below hb) ex_ok
  have H8 := Lib.hid (show (decide ((1 : Int) ≤ 8) && decide ((8 : Int) < 17) && exT.has 8) = true from by rw [ex_has8]; decide)
  have H4 := Lib.hid (show (decide ((1 : Int) ≤ 4) && decide ((4 : Int) < 17) && exT.has 4) = false from by rw [ex_has4]; decide)
  have HFR : Hid (∀ w1, Below W.heap.size W w1 → Calls Tryz.prog 38 #[.iface ty pv] w1 fun e w' => e = .returned (.bool true) ∧ Below w1.heap.size w1 w') := fun w1 hb => fresh_any _ _ w1 (hh6.below hb) (by decide) (HE.out.below (hb6.trans (hb.mono hb6.size)))
  have HB6 := Lib.hid hb6
  clear hh6 hr6 hb6 hcell
  go_region_held3 (fun w' => w'.cell? ⟨RB, 0, none⟩ = some (I64 8) ∧ w'.cell? ⟨RB, 1, none⟩ = some (.string ⟨#[114, 101, 97, 100]⟩) ∧ w'.cell? ⟨RB, 2, none⟩ = some (I64 (-1)) ∧ w'.cell? ⟨RB, 3, none⟩ = some (I64 7) ∧ Below W.heap.size W w') (first | exact ⟨r0, r1, r2, r3, (Below.refl _ _).drew⟩ | exact sh_step (by assumption) (by assumption)) (first | (go_at_call 34; refine (example_any _).mono ?_; rintro e wx ⟨gx, rfl, hnx, hbx⟩) | (go_at_call 37; refine (HSA.out _ _ (sh_below (by assumption)) (by assumption)).mono ?_; rintro e wx ⟨rfl, hbx⟩) | (go_at_call 35; refine (link_any _ _ _ _ _).mono ?_; rintro e wx ⟨rfl, hbx⟩) | (go_at_call 23; refine (HH.out _ _ (sh_below (by assumption))).mono ?_; rintro e wx ⟨rfl, hbx⟩; (first | rw [H8.out] | rw [H4.out])) | (go_at_call 38; refine (HFR.out _ (sh_below (by assumption))).mono ?_; rintro e wx ⟨rfl, hbx⟩))
  go_wp2
  go_ret
  exact ⟨rfl, HB6.out.trans (Below.mono (sh_below (by assumption)) HB6.out.size)⟩
end Go.Proofs.YtgnhbccmdpkbiaaGreatDoor
