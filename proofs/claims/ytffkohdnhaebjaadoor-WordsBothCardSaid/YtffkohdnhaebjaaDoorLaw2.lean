/-
  Walks: the statements WordsJoins, WordsBoth.
-/
import Derived.Test.YtffkohdnhaebjaaDoorW23
import Derived.Test.YtffkohdnhaebjaaDoorW24
import Derived.Test.YtffkohdnhaebjaaDoorW17
import Derived.Test.YtffkohdnhaebjaaDoorLaw1
namespace Go.Proofs.YtffkohdnhaebjaaDoor
open Go.RowKit Go.Shelf

set_option maxHeartbeats 2000000 in
set_option maxRecDepth 100000 in
theorem lawJoins (v : Value) (l : List Wd.Fld) (w : World) (hE : Env w) (h : ReadsF w v l ∧ l.length ≤ 5864062014805) : Calls Tryd.prog 6 #[v] w (TrueB w) := by
  obtain ⟨h1, hl⟩ := h
  have hb0 := Below.refl w.heap.size w
  have HF := Lib.hid (far_any v l w h1 hl)
  have H1 := Lib.hid fun (w' : World) (hb : Below w.heap.size w w') (hl : l.length ≤ 4294967296) => Join_any v l w' (hE.below hb) (h1.below hb) hl
  have H2 := Lib.hid fun (w' : World) (hb : Below w.heap.size w w') (hl : l.length ≤ 4294967296) => rJoin_any v l w' (h1.below hb) hl
  clear h1 hl
  cases hf : Wd.farL l with
  | true =>
    rw [hf] at HF
    clear hf
    go_enter Tryd.func6, Tryd.ntmps6
    go_wp2_with fail; refine (HF.out).mono ?_; rintro e w1 ⟨rfl, hx⟩; have hb1 := hb0.trans (hx.mono hb0.size); clear hx
    go_wp2_with fail; refine (shown_any _ (hE.below hb1)).mono ?_; rintro e w9 ⟨rfl, hx⟩; have hb9 := hb1.trans (hx.mono hb1.size); go_wp2; go_ret; exact ⟨rfl, hb9⟩
  | false =>
    have hl := (Wd.far_false hf).1
    rw [hf] at HF
    clear hf
    unfold joinEnd at H1 H2
    generalize Wd.join l = p at H1 H2
    obtain ⟨t, n⟩ := p
    dsimp only at H1 H2
    go_enter Tryd.func6, Tryd.ntmps6
    go_wp2_with fail; refine (HF.out).mono ?_; rintro e w1 ⟨rfl, hx⟩; have hb1 := hb0.trans (hx.mono hb0.size); clear hx
    go_wp2_with fail; refine (H1.out _ hb1 (by omega)).mono ?_; rintro e w2 ⟨rfl, hx⟩; have hb2 := hb1.trans (hx.mono hb1.size); clear hx
    go_wp2_with fail; refine (H2.out _ hb2 (by omega)).mono ?_; rintro e w3 ⟨rfl, hx⟩; have hb3 := hb2.trans (hx.mono hb2.size); clear hx
    go_wp2_with fail; refine (shown_any _ (hE.below hb3)).mono ?_; rintro e w9 ⟨rfl, hx⟩; have hb9 := hb3.trans (hx.mono hb3.size); go_wp2; go_ret; exact ⟨rfl, hb9⟩

def encFd (f : Wd.Fld) : List Value := [S8 f.1, .bool f.2]
theorem elF : ElT Tryd.prog 23 43 2 24 (.agg #[.string ⟨#[]⟩, .bool false]) encFd :=
  ⟨Tryd.underlying23, by kernel_rfl, rfl, by decide, fun _ => rfl, fun x u hu => by simp [encFd] at hu; rcases hu with rfl | rfl <;> rfl⟩
theorem ReadsF.cells {w : World} {v : Value} {l : List Wd.Fld} (h : ReadsF w v l) (hne : l ≠ []) : ∃ b o cap, v = .slice (some ⟨b, o, none⟩) l.length cap ∧ b < w.heap.size ∧
    ∀ j (hj : j < l.length) (i : Nat) (u : Value), (encFd l[j])[i]? = some u → w.cell? ⟨b, o + j * 2 + i, none⟩ = some u := by
  rcases h with ⟨_, _, _, h⟩ | ⟨b, o, cap, hv, hb, hc⟩
  · exact absurd h hne
  · refine ⟨b, o, cap, hv, hb, fun j hj i u hu => ?_⟩
    obtain ⟨h0, h1⟩ := hc j hj
    rw [Nat.mul_comm j 2]
    match i, hu with
    | 0, hu => simp [encFd] at hu; subst hu; exact h0
    | 1, hu => simp [encFd] at hu; subst hu; exact h1
theorem OwnL.empty (W : World) (B : Nat) (hB : B ≤ W.heap.size) : OwnL 43 2 encFd (W.alloc (.cells #[] 43)) B (.slice (some ⟨W.heap.size, 0, none⟩) 0 0) [] :=
  World.ownsRow_made W #[] 0 hB (by decide) rfl

theorem catL (a b : List UInt8) : (({ data := List.toArray a } : ByteArray) ++ { data := #[32] } ++ { data := List.toArray b }).toList = a ++ 32 :: b := by
  rw [show (⟨#[32]⟩ : ByteArray) = ⟨[32].toArray⟩ from rfl, bcat, bcat]
  simp

set_option maxHeartbeats 4000000 in
set_option maxRecDepth 100000 in
theorem lawBoth (v1 : Value) (l : List Wd.Fld) (v2 : Value) (m : List Wd.Fld) (w : World) (hE : Env w) (h : ReadsF w v1 l ∧ l.length ≤ 5864062014805) (h' : ReadsF w v2 m ∧ m.length ≤ 5864062014805) :
    Calls Tryd.prog 7 #[v1, v2] w (TrueB w) := by
  obtain ⟨h1, hl⟩ := h
  obtain ⟨h2, hm⟩ := h'
  have hb0 := Below.refl w.heap.size w
  have HF1 := Lib.hid fun (w' : World) (hb : Below w.heap.size w w') => far_any v1 l w' (h1.below hb) hl
  have HF2 := Lib.hid fun (w' : World) (hb : Below w.heap.size w w') => far_any v2 m w' (h2.below hb) hm
  cases hf1 : Wd.farL l with
  | true =>
    rw [hf1] at HF1
    clear hf1 h1 h2 hl hm
    go_enter Tryd.func7, Tryd.ntmps7
    go_wp2_with fail; refine (HF1.out _ hb0).mono ?_; rintro e w1 ⟨rfl, hx⟩; have hb1 := hb0.trans (hx.mono hb0.size); clear hx
    go_wp2_with fail; refine (shown_any _ (hE.below hb1)).mono ?_; rintro e w9 ⟨rfl, hx⟩; have hb9 := hb1.trans (hx.mono hb1.size); go_wp2; go_ret; exact ⟨rfl, hb9⟩
  | false =>
  rw [hf1] at HF1
  cases hf2 : Wd.farL m with
  | true =>
    rw [hf2] at HF2
    clear hf1 hf2 h1 h2 hl hm
    go_enter Tryd.func7, Tryd.ntmps7
    go_wp2_with fail; refine (HF1.out _ hb0).mono ?_; rintro e w1 ⟨rfl, hx⟩; have hb1 := hb0.trans (hx.mono hb0.size); clear hx
    go_wp2_with fail; refine (HF2.out _ hb1).mono ?_; rintro e w2 ⟨rfl, hx⟩; have hb2 := hb1.trans (hx.mono hb1.size); clear hx
    go_wp2_with fail; refine (shown_any _ (hE.below hb2)).mono ?_; rintro e w9 ⟨rfl, hx⟩; have hb9 := hb2.trans (hx.mono hb2.size); go_wp2; go_ret; exact ⟨rfl, hb9⟩
  | false =>
  rw [hf2] at HF2
  have hl70 := (Wd.far_false hf1).1
  have hm70 := (Wd.far_false hf2).1
  clear hf1 hf2 hl hm
  by_cases hz1 : l = []
  · obtain ⟨a1, c1, rfl⟩ : ∃ a c, v1 = .slice a 0 c := by
      rcases h1 with ⟨a, cap, rfl, _⟩ | ⟨b, o, cap, rfl, _⟩
      · exact ⟨_, _, rfl⟩
      · subst hz1; exact ⟨_, _, rfl⟩
    clear h1 h2 hz1 hl70 hm70
    go_enter Tryd.func7, Tryd.ntmps7
    go_wp2_with fail; refine (HF1.out _ hb0).mono ?_; rintro e w1 ⟨rfl, hx⟩; have hb1 := hb0.trans (hx.mono hb0.size); clear hx
    go_wp2_with fail; refine (HF2.out _ hb1).mono ?_; rintro e w2 ⟨rfl, hx⟩; have hb2 := hb1.trans (hx.mono hb1.size); clear hx
    go_wp2_with fail; refine (shown_any _ (hE.below hb2)).mono ?_; rintro e w9 ⟨rfl, hx⟩; have hb9 := hb2.trans (hx.mono hb2.size); go_wp2; go_ret; exact ⟨rfl, hb9⟩
  obtain ⟨b1, o1, cap1, rfl, hlt1, hc1⟩ := h1.cells hz1
  have hp1 : 0 < l.length := List.length_pos_iff.2 hz1
  have hn1 : ((l.length : Int) == 0) = false := by rw [beq_eq_false_iff_ne]; omega
  by_cases hz2 : m = []
  · obtain ⟨a2, c2, rfl⟩ : ∃ a c, v2 = .slice a 0 c := by
      rcases h2 with ⟨a, cap, rfl, _⟩ | ⟨b, o, cap, rfl, _⟩
      · exact ⟨_, _, rfl⟩
      · subst hz2; exact ⟨_, _, rfl⟩
    clear h1 h2 hz1 hz2 hl70 hm70 hc1 hp1
    go_enter Tryd.func7, Tryd.ntmps7
    go_wp2_with fail; refine (HF1.out _ hb0).mono ?_; rintro e w1 ⟨rfl, hx⟩; have hb1 := hb0.trans (hx.mono hb0.size); clear hx
    go_wp2_with fail; refine (HF2.out _ hb1).mono ?_; rintro e w2 ⟨rfl, hx⟩; have hb2 := hb1.trans (hx.mono hb1.size); clear hx
    go_wp2_with fail; refine (shown_any _ (hE.below hb2)).mono ?_; rintro e w9 ⟨rfl, hx⟩; have hb9 := hb2.trans (hx.mono hb2.size); go_wp2; go_ret; exact ⟨rfl, hb9⟩
  obtain ⟨b2, o2, cap2, rfl, hlt2, hc2⟩ := h2.cells hz2
  have hp2 : 0 < m.length := List.length_pos_iff.2 hz2
  have hn2 : ((m.length : Int) == 0) = false := by rw [beq_eq_false_iff_ne]; omega
  have hbad := @Wd.both_bad l m hz1 hz2
  have hbig := @Wd.both_big l m hz1 hz2
  have hgood := @Wd.both_good l m hz1 hz2
  have J1 := Lib.hid fun (w' : World) (hb : Below w.heap.size w w') (hl : l.length ≤ 4294967296) => Join_any _ l w' (hE.below hb) (h1.below hb) hl
  have J2 := Lib.hid fun (w' : World) (hb : Below w.heap.size w w') (hl : m.length ≤ 4294967296) => Join_any _ m w' (hE.below hb) (h2.below hb) hl
  have J3 := Lib.hid fun (w' : World) (hb : Below w.heap.size w w') (v : Value) (hr : ReadsF w' v (l ++ m)) (hl : (l ++ m).length ≤ 4294967296) => Join_any v (l ++ m) w' (hE.below hb) hr hl
  have D1 := Wd.join_len l
  have D2 := Wd.join_len m
  unfold joinEnd at J1 J2 J3
  generalize Wd.join l = p at J1 hbad hbig hgood D1
  generalize Wd.join m = q at J2 hbad hbig hgood D2
  generalize Wd.join (l ++ m) = r at J3 hbad hbig hgood
  obtain ⟨a, e⟩ := p
  obtain ⟨b, f⟩ := q
  obtain ⟨c, g⟩ := r
  dsimp only at J1 J2 J3 hbad hbig hgood D1 D2
  have HC1 := Lib.hid hc1
  have HC2 := Lib.hid hc2
  clear hc1 hc2 h1 h2 hz1 hz2
  have hbad := Lib.hid hbad
  have hbig := Lib.hid hbig
  have hgood := Lib.hid hgood
  go_enter Tryd.func7, Tryd.ntmps7
  go_wp2_with fail; refine (HF1.out _ hb0).mono ?_; rintro e w1 ⟨rfl, hx⟩; have hb1 := hb0.trans (hx.mono hb0.size); clear hx
  go_wp2_with fail; refine (HF2.out _ hb1).mono ?_; rintro e w2 ⟨rfl, hx⟩; have hb2 := hb1.trans (hx.mono hb1.size); clear hx
  go_wp2_with fail; refine (J1.out _ hb2 (by omega)).mono ?_; rintro e w3 ⟨rfl, hx⟩; have hb3 := hb2.trans (hx.mono hb2.size); clear hx
  go_wp2_with fail; refine (J2.out _ hb3 (by omega)).mono ?_; rintro e w4 ⟨rfl, hx⟩; have hb4 := hb3.trans (hx.mono hb3.size); clear hx
  have hb5 := hb4.alloc hb4.size (.cells #[] 43)
  have O5 := Lib.hid (OwnL.empty w4 w.heap.size hb4.size)
  go_wp2_with (first | (at_builtin; refine appLs elF _ rfl _ _ rfl w.heap.size _ [] l rfl O5.out b1 o1 cap1 rfl (fun j hj i u hu => (hb5.cell (p := ⟨b1, _, none⟩) hlt1).trans (HC1.out j hj i u hu)) (by unfold maxLen; simp; omega) (by simp; omega) hb5.size ?_; intro v6 w6 O6' hgr6; have hb6 := below_appL hb5 O5.out hgr6 hb5.size; have O6 := Lib.hid O6'; clear O6') | (at_builtin; refine appLs elF _ rfl _ _ rfl w.heap.size _ ([] ++ l) m rfl O6.out b2 o2 cap2 rfl (fun j hj i u hu => (hb6.cell (p := ⟨b2, _, none⟩) hlt2).trans (HC2.out j hj i u hu)) (by unfold maxLen; simp; omega) (by simp; omega) hb6.size ?_; intro v7 w7 O7 hgr7; have hb7 := below_appL hb6 O6.out hgr7 hb6.size; have R7 := Lib.hid (OwnF.reads (l := [] ++ l ++ m) O7); clear O7 hgr7 hgr6 O6 O5))
  refine (J3.out _ hb7 _ R7.out (by simp; omega)).mono ?_
  rintro e w8 ⟨rfl, hx⟩
  have hb8 := hb7.trans (hx.mono hb7.size)
  clear hx
  by_cases he : e = 0
  · subst he
    by_cases hf : f = 0
    · subst hf
      by_cases h64 : 64 < l.length + m.length
      · obtain ⟨rfl, rfl⟩ := Prod.mk.inj (hbig.out rfl rfl (.inl h64))
        have i1 : (64 : Int) < (l.length : Int) + (m.length : Int) := by omega
        clear hgood hbig hbad
        go_wp2_with fail; refine (shown_any _ (hE.below hb8)).mono ?_; rintro e w9 ⟨rfl, hx⟩; have hb9 := hb8.trans (hx.mono hb8.size); go_wp2; go_ret; exact ⟨rfl, hb9⟩
      · have i1 : ¬ (64 : Int) < (l.length : Int) + (m.length : Int) := by omega
        by_cases h8 : 8192 < List.length a + 1 + List.length b
        · obtain ⟨rfl, rfl⟩ := Prod.mk.inj (hbig.out rfl rfl (.inr h8))
          have i2 : (8192 : Int) < (List.length a : Int) + 1 + (List.length b : Int) := by omega
          clear hgood hbig hbad
          go_wp2_with fail; refine (shown_any _ (hE.below hb8)).mono ?_; rintro e w9 ⟨rfl, hx⟩; have hb9 := hb8.trans (hx.mono hb8.size); go_wp2; go_ret; exact ⟨rfl, hb9⟩
        · obtain ⟨rfl, rfl⟩ := Prod.mk.inj (hgood.out rfl rfl (by omega) (by omega))
          have i2 : ¬ (8192 : Int) < (List.length a : Int) + 1 + (List.length b : Int) := by omega
          have hcat := catL a b
          clear hgood hbig hbad
          go_wp2_with fail; refine (shown_any _ (hE.below hb8)).mono ?_; rintro e w9 ⟨rfl, hx⟩; have hb9 := hb8.trans (hx.mono hb8.size); go_wp2; go_ret; exact ⟨rfl, hb9⟩
    · have hg := hbad.out (.inr hf)
      have q1 : (f != 0) = true := by rw [bne_iff_ne]; exact hf
      have q2 : (g != 0) = true := by rw [bne_iff_ne]; exact hg
      clear hgood hbig hbad hf hg
      go_wp2_with fail; refine (shown_any _ (hE.below hb8)).mono ?_; rintro e w9 ⟨rfl, hx⟩; have hb9 := hb8.trans (hx.mono hb8.size); go_wp2; go_ret; exact ⟨rfl, hb9⟩
  · have hg := hbad.out (.inl he)
    have q1 : (e != 0) = true := by rw [bne_iff_ne]; exact he
    have q2 : (g != 0) = true := by rw [bne_iff_ne]; exact hg
    clear hgood hbig hbad he hg
    go_wp2_with fail; refine (shown_any _ (hE.below hb8)).mono ?_; rintro e w9 ⟨rfl, hx⟩; have hb9 := hb8.trans (hx.mono hb8.size); go_wp2; go_ret; exact ⟨rfl, hb9⟩
end Go.Proofs.YtffkohdnhaebjaaDoor
