/-
  The law FaultsTexts of layer 3: the arms where the list builds; the law.
-/
import Derived.Test.YtgnhbccmdpkbiaaGreatDoorFaXL
namespace Go.Proofs.YtgnhbccmdpkbiaaGreatDoor
open Go.RowKit Go.Shelf

theorem far_sizes100 {l : List Fa.Node} (h : farL l = false) : ∀ x ∈ l, x.link.op.size ≤ 100 := by
  simp only [farL, Bool.or_eq_false_iff, decide_eq_false_iff_not, List.any_eq_false, decide_eq_true_eq] at h
  intro x hx
  have := h.2 x hx
  omega
theorem Holds.ptr {S : Nat → Prop} {w : World} {t : Fa.F} {v : Value} (h : Holds S w t [v]) : (∃ p, v = .iface 55 p) ∨ (∃ p, v = .iface 89 p) := by
  rcases h.one with ⟨x, c, b, cv, cs, _, rfl, _⟩ | ⟨k, b, g, o, cap, ks, _, rfl, _⟩
  · exact .inl ⟨_, rfl⟩
  · exact .inr ⟨_, rfl⟩
set_option maxHeartbeats 8000000 in
set_option maxRecDepth 100000 in
set_option linter.unusedSimpArgs false in
theorem lawTexts_bad2 (v : Value) (l : List Fa.Node) (s : List UInt8) (w : World) (hE : EnvT w) (h : NodesIn w v l) (hs : s.length ≤ 3000) (hq : farL l = false) (hp : (Fa.parse s).1 ≠ 0) (h0 : (Fa.build l).1 = 0) : Calls Tryz.prog 9 #[v, S8 s] w fun e w' => e = .returned (.bool true) ∧ Below w.heap.size w w' := by
  obtain ⟨hl, hsz⟩ := far_sizes hq
  have hsz100 := far_sizes100 hq
  have HF := Lib.hid (far_full v l w h.1)
  rw [hq] at HF
  have HS : Hid (∀ w1, Below w.heap.size w w1 → Calls Tryz.prog 12 #[] w1 fun e w' => e = .returned (.bool true) ∧ Below w1.heap.size w1 w') := fun w1 hb => shown_any w1 (hE.f.below hb)
  have HR : Hid (∀ w1, Below w.heap.size w w1 → Calls Tryz.prog 14 #[v] w1 fun e w' => e = .returned (I64 (Fa.build l).1) ∧ Below w1.heap.size w1 w') := fun w1 hb => rbuild_any v l w1 (h.1.below hb) (by omega) hsz
  obtain ⟨b1, b2, b3, b4, b5⟩ := Fa.build_ok h0
  rw [h0] at HR
  have HB2 : Hid (∀ w1, Below w.heap.size w w1 → Calls Tryz.prog 13 #[v] w1 fun e w' => ∃ rf, e = .returned (.tuple #[valE rf, I64 0]) ∧ Holds (fun _ => True) w' (Fa.build l).2 [valE rf] ∧ Below w1.heap.size w1 w') := fun w1 hb => (build_any v l w1 (h.below hb) (by omega) hsz).mono (fun e w' hp => by
    obtain ⟨_, p2, p3⟩ := hp
    obtain ⟨rf, e1, e2⟩ := p2 h0
    exact ⟨rf, e1, e2.mono (fun _ _ _ => trivial), p3⟩)
  have g5 : ¬ (3000 : Int) < (s.length : Int) := by omega
  have htl : (Fa.build l).2.txt.length ≤ 1000000000000 := by
    have h1 := txt_bound (Fa.build l).2 0 (fun x hx => by rw [b1] at hx; exact (hsz100 x hx)) b2
    omega
  have HRT : Hid (∀ w1, Below w.heap.size w w1 → Calls Tryz.prog 33 #[v] w1 fun e w' => e = .returned (S8 (Fa.build l).2.txt) ∧ Below w1.heap.size w1 w') := fun w1 hb => rText_any v l w1 (h.1.below hb) h0 htl
  have HTX : Hid (∀ w1 rv, Below w.heap.size w w1 → Holds (fun _ => True) w1 (Fa.build l).2 [rv] → Calls Tryz.prog 30 #[rv] w1 fun e w' => e = .returned (.tuple #[S8 (Fa.build l).2.txt, I64 0]) ∧ Below w1.heap.size w1 w') := fun w1 rv hb hh => text_any _ rv w1 hh b2 htl (hE.f.below hb)
  have HEL : Hid (∀ w1 p, Below w.heap.size w w1 → Holds (fun _ => True) w1 (Fa.build l).2 [.iface 55 p] → Calls Tryz.prog 160 #[p] w1 fun e w' => e = .returned (S8 (Fa.build l).2.txt) ∧ Below w1.heap.size w1 w') := fun w1 p hb hh => errLink_any _ p w1 hh b2 htl (hE.f.below hb)
  have HEJ : Hid (∀ w1 p, Below w.heap.size w w1 → Holds (fun _ => True) w1 (Fa.build l).2 [.iface 89 p] → Calls Tryz.prog 163 #[p] w1 fun e w' => e = .returned (S8 (Fa.build l).2.txt) ∧ Below w1.heap.size w1 w') := fun w1 p hb hh => errJoin_any _ p w1 hh b2 htl (hE.f.below hb)
  generalize (Fa.build l).2.txt = T at HRT HTX HEL HEJ
  generalize (Fa.build l).2 = tb at HB2 HTX HEL HEJ
  have mL := mErrL
  have mJ := mErrJ
  have HP : Hid (Calls Tryz.prog 31 #[S8 s] w fun e w' => e = .returned (.tuple #[.nilIface, I64 (Fa.parse s).1]) ∧ Below w.heap.size w w') := (pparse_any s w hE (by omega)).mono (fun e w' q => by
    rcases q.2 with q2 | q2
    · exact ⟨q2.2, q.1⟩
    · exact absurd q2.1 hp)
  have HQ : Hid (∀ w1, Calls Tryz.prog 32 #[S8 s] w1 fun e w' => e = .returned (.tuple #[.slice none 0 0, I64 (Fa.parse s).1]) ∧ Below w1.heap.size w1 w') := fun w1 => (rparse_any s w1 (by omega)).mono (fun e w' q => by
    rcases q.2 with q2 | q2
    · exact ⟨q2.2, q.1⟩
    · exact absurd q2.1 hp)
  have g1 : ((Fa.parse s).1 == 0) = false := by rw [beq_eq_false_iff_ne]; exact hp
  have g2 : ((Fa.parse s).1 != 0) = true := by rw [bne_iff_ne]; exact hp
  have g3 : ((Fa.parse s).1 != (Fa.parse s).1) = false := by simp
  generalize (Fa.parse s).1 = E at HP HQ g1 g2 g3
  clear hq h hE hp h0 hl hsz hsz100 htl b1 b2 b3 b4 b5
  go_enter Tryz.func9, Tryz.ntmps9
  go_wp2_with (go_at_call 11; refine HF.out.mono ?_; rintro e w1 ⟨rfl, rfl⟩)
  refine HP.out.mono ?_
  rintro e w2 ⟨rfl, hb2⟩
  go_wp2_with fail
  refine (HQ.out _).mono ?_
  rintro e w3 ⟨rfl, hx⟩
  have hb4 := hb2.trans (hx.mono hb2.size)
  clear hx hb2
  go_wp2_with fail
  refine (HR.out _ hb4).mono ?_
  rintro e w4 ⟨rfl, hx⟩
  have hb5 := hb4.trans (hx.mono hb4.size)
  clear hx hb4
  go_wp2_with fail
  refine (HB2.out _ hb5).mono ?_
  rintro e w5 ⟨rf, rfl, hh5, hx⟩
  have hb6 := hb5.trans (hx.mono hb5.size)
  clear hx hb5
  rcases hh5.ptr with ⟨pv, hi⟩ | ⟨pv, hi⟩
  · rw [hi] at hh5 ⊢
    clear hi
    go_wp2_with fail
    refine (HTX.out _ _ hb6 hh5).mono ?_
    rintro e w6 ⟨rfl, hx⟩
    have hb7 := hb6.trans (hx.mono hb6.size)
    have hh6 := hh5.below hx
    clear hx hb6 hh5
    go_wp2_with fail
    refine (HRT.out _ hb7).mono ?_
    rintro e w7 ⟨rfl, hx⟩
    have hb8 := hb7.trans (hx.mono hb7.size)
    have hh7 := hh6.below hx
    clear hx hb7 hh6
    go_wp2_with fail
    refine (HEL.out _ _ hb8 hh7).mono ?_
    rintro e w8 ⟨rfl, hx⟩
    have hb9 := hb8.trans (hx.mono hb8.size)
    clear hx hb8 hh7
    go_wp2_with fail
    refine (HS.out _ hb9).mono ?_
    rintro e w9 ⟨rfl, hx⟩
    have hb10 := hb9.trans (hx.mono hb9.size)
    clear hx hb9
    go_wp2
    go_ret
    exact ⟨rfl, hb10⟩
  · rw [hi] at hh5 ⊢
    clear hi
    go_wp2_with fail
    refine (HTX.out _ _ hb6 hh5).mono ?_
    rintro e w6 ⟨rfl, hx⟩
    have hb7 := hb6.trans (hx.mono hb6.size)
    have hh6 := hh5.below hx
    clear hx hb6 hh5
    go_wp2_with fail
    refine (HRT.out _ hb7).mono ?_
    rintro e w7 ⟨rfl, hx⟩
    have hb8 := hb7.trans (hx.mono hb7.size)
    have hh7 := hh6.below hx
    clear hx hb7 hh6
    go_wp2_with fail
    refine (HEJ.out _ _ hb8 hh7).mono ?_
    rintro e w8 ⟨rfl, hx⟩
    have hb9 := hb8.trans (hx.mono hb8.size)
    clear hx hb8 hh7
    go_wp2_with fail
    refine (HS.out _ hb9).mono ?_
    rintro e w9 ⟨rfl, hx⟩
    have hb10 := hb9.trans (hx.mono hb9.size)
    clear hx hb9
    go_wp2
    go_ret
    exact ⟨rfl, hb10⟩
set_option maxHeartbeats 8000000 in
set_option maxRecDepth 100000 in
set_option linter.unusedSimpArgs false in
theorem lawTexts_read2 (v : Value) (l : List Fa.Node) (s : List UInt8) (w : World) (hE : EnvT w) (h : NodesIn w v l) (hs : s.length ≤ 3000) (hq : farL l = false) (hp : (Fa.parse s).1 = 0) (h0 : (Fa.build l).1 = 0) : Calls Tryz.prog 9 #[v, S8 s] w fun e w' => e = .returned (.bool true) ∧ Below w.heap.size w w' := by
  obtain ⟨hl, hsz⟩ := far_sizes hq
  have hsz100 := far_sizes100 hq
  have HF := Lib.hid (far_full v l w h.1)
  rw [hq] at HF
  have HS : Hid (∀ w1, Below w.heap.size w w1 → Calls Tryz.prog 12 #[] w1 fun e w' => e = .returned (.bool true) ∧ Below w1.heap.size w1 w') := fun w1 hb => shown_any w1 (hE.f.below hb)
  have HR : Hid (∀ w1, Below w.heap.size w w1 → Calls Tryz.prog 14 #[v] w1 fun e w' => e = .returned (I64 (Fa.build l).1) ∧ Below w1.heap.size w1 w') := fun w1 hb => rbuild_any v l w1 (h.1.below hb) (by omega) hsz
  obtain ⟨b1, b2, b3, b4, b5⟩ := Fa.build_ok h0
  rw [h0] at HR
  have HB2 : Hid (∀ w1, Below w.heap.size w w1 → Calls Tryz.prog 13 #[v] w1 fun e w' => ∃ rf, e = .returned (.tuple #[valE rf, I64 0]) ∧ Holds (fun _ => True) w' (Fa.build l).2 [valE rf] ∧ Below w1.heap.size w1 w') := fun w1 hb => (build_any v l w1 (h.below hb) (by omega) hsz).mono (fun e w' hp => by
    obtain ⟨_, p2, p3⟩ := hp
    obtain ⟨rf, e1, e2⟩ := p2 h0
    exact ⟨rf, e1, e2.mono (fun _ _ _ => trivial), p3⟩)
  have g5 : ¬ (3000 : Int) < (s.length : Int) := by omega
  have htl : (Fa.build l).2.txt.length ≤ 1000000000000 := by
    have h1 := txt_bound (Fa.build l).2 0 (fun x hx => by rw [b1] at hx; exact (hsz100 x hx)) b2
    omega
  have HRT : Hid (∀ w1, Below w.heap.size w w1 → Calls Tryz.prog 33 #[v] w1 fun e w' => e = .returned (S8 (Fa.build l).2.txt) ∧ Below w1.heap.size w1 w') := fun w1 hb => rText_any v l w1 (h.1.below hb) h0 htl
  have HTX : Hid (∀ w1 rv, Below w.heap.size w w1 → Holds (fun _ => True) w1 (Fa.build l).2 [rv] → Calls Tryz.prog 30 #[rv] w1 fun e w' => e = .returned (.tuple #[S8 (Fa.build l).2.txt, I64 0]) ∧ Below w1.heap.size w1 w') := fun w1 rv hb hh => text_any _ rv w1 hh b2 htl (hE.f.below hb)
  have HEL : Hid (∀ w1 p, Below w.heap.size w w1 → Holds (fun _ => True) w1 (Fa.build l).2 [.iface 55 p] → Calls Tryz.prog 160 #[p] w1 fun e w' => e = .returned (S8 (Fa.build l).2.txt) ∧ Below w1.heap.size w1 w') := fun w1 p hb hh => errLink_any _ p w1 hh b2 htl (hE.f.below hb)
  have HEJ : Hid (∀ w1 p, Below w.heap.size w w1 → Holds (fun _ => True) w1 (Fa.build l).2 [.iface 89 p] → Calls Tryz.prog 163 #[p] w1 fun e w' => e = .returned (S8 (Fa.build l).2.txt) ∧ Below w1.heap.size w1 w') := fun w1 p hb hh => errJoin_any _ p w1 hh b2 htl (hE.f.below hb)
  generalize (Fa.build l).2.txt = T at HRT HTX HEL HEJ
  generalize (Fa.build l).2 = tb at HB2 HTX HEL HEJ
  have mL := mErrL
  have mJ := mErrJ
  obtain ⟨k1, k2, k3⟩ := parse_good hp
  have HP : Hid (Calls Tryz.prog 31 #[S8 s] w fun e w' => ∃ rf, e = .returned (.tuple #[valE rf, I64 0]) ∧ Holds (fun _ => True) w' (Fa.parse s).2 [valE rf] ∧ Below w.heap.size w w') := (pparse_any s w hE (by omega)).mono (fun e w' q => by
    rcases q.2 with q2 | q2
    · exact absurd hp q2.1
    · obtain ⟨rf, e1, e2⟩ := q2.2
      exact ⟨rf, e1, e2, q.1⟩)
  have HQ : Hid (∀ w1, Calls Tryz.prog 32 #[S8 s] w1 fun e w' => ∃ lv, e = .returned (.tuple #[lv, I64 0]) ∧ ReadsL 6 encNode w' lv ((Fa.parse s).2.chain 0) ∧ Below w1.heap.size w1 w') := fun w1 => (rparse_any s w1 (by omega)).mono (fun e w' q => by
    rcases q.2 with q2 | q2
    · exact absurd hp q2.1
    · obtain ⟨lv, e1, e2⟩ := q2.2
      exact ⟨lv, e1, e2, q.1⟩)
  generalize (Fa.parse s).2 = t at HP HQ k1 k2 k3
  have HI : Hid (∀ w1 rv v2, Holds (fun _ => True) w1 t [rv] → ReadsL 6 encNode w1 v2 (t.chain 0) → Calls Tryz.prog 15 #[rv, v2] w1 fun e w' => e = .returned (.bool true) ∧ Below w1.heap.size w1 w') := fun w1 rv v2 hh hr => by
    have h1 := is_any _ _ rv v2 _ w1 hh k1 (by omega) hr (by rw [Fa.chain_length]; omega)
    rw [decide_eq_true rfl] at h1
    exact h1
  clear hq h hE hp h0 hl hsz hsz100 htl b1 b2 b3 b4 b5
  go_enter Tryz.func9, Tryz.ntmps9
  go_wp2_with (go_at_call 11; refine HF.out.mono ?_; rintro e w1 ⟨rfl, rfl⟩)
  refine HP.out.mono ?_
  rintro e w2 ⟨rg, rfl, hh2, hb2⟩
  go_wp2_with fail
  refine (HQ.out _).mono ?_
  rintro e w3 ⟨lv, rfl, hr3, hx⟩
  have hb3 := hb2.trans (hx.mono hb2.size)
  have hh3 := hh2.below hx
  clear hx hb2
  go_wp2_with fail
  refine (HI.out _ _ _ hh3 hr3).mono ?_
  rintro e w3b ⟨rfl, hx⟩
  have hb4 := hb3.trans (hx.mono hb3.size)
  clear hx hb3 hh3 hr3 hh2
  go_wp2_with fail
  refine (HR.out _ hb4).mono ?_
  rintro e w4 ⟨rfl, hx⟩
  have hb5 := hb4.trans (hx.mono hb4.size)
  clear hx hb4
  go_wp2_with fail
  refine (HB2.out _ hb5).mono ?_
  rintro e w5 ⟨rf, rfl, hh5, hx⟩
  have hb6 := hb5.trans (hx.mono hb5.size)
  clear hx hb5
  rcases hh5.ptr with ⟨pv, hi⟩ | ⟨pv, hi⟩
  · rw [hi] at hh5 ⊢
    clear hi
    go_wp2_with fail
    refine (HTX.out _ _ hb6 hh5).mono ?_
    rintro e w6 ⟨rfl, hx⟩
    have hb7 := hb6.trans (hx.mono hb6.size)
    have hh6 := hh5.below hx
    clear hx hb6 hh5
    go_wp2_with fail
    refine (HRT.out _ hb7).mono ?_
    rintro e w7 ⟨rfl, hx⟩
    have hb8 := hb7.trans (hx.mono hb7.size)
    have hh7 := hh6.below hx
    clear hx hb7 hh6
    go_wp2_with fail
    refine (HEL.out _ _ hb8 hh7).mono ?_
    rintro e w8 ⟨rfl, hx⟩
    have hb9 := hb8.trans (hx.mono hb8.size)
    clear hx hb8 hh7
    go_wp2_with fail
    refine (HS.out _ hb9).mono ?_
    rintro e w9 ⟨rfl, hx⟩
    have hb10 := hb9.trans (hx.mono hb9.size)
    clear hx hb9
    go_wp2
    go_ret
    exact ⟨rfl, hb10⟩
  · rw [hi] at hh5 ⊢
    clear hi
    go_wp2_with fail
    refine (HTX.out _ _ hb6 hh5).mono ?_
    rintro e w6 ⟨rfl, hx⟩
    have hb7 := hb6.trans (hx.mono hb6.size)
    have hh6 := hh5.below hx
    clear hx hb6 hh5
    go_wp2_with fail
    refine (HRT.out _ hb7).mono ?_
    rintro e w7 ⟨rfl, hx⟩
    have hb8 := hb7.trans (hx.mono hb7.size)
    have hh7 := hh6.below hx
    clear hx hb7 hh6
    go_wp2_with fail
    refine (HEJ.out _ _ hb8 hh7).mono ?_
    rintro e w8 ⟨rfl, hx⟩
    have hb9 := hb8.trans (hx.mono hb8.size)
    clear hx hb8 hh7
    go_wp2_with fail
    refine (HS.out _ hb9).mono ?_
    rintro e w9 ⟨rfl, hx⟩
    have hb10 := hb9.trans (hx.mono hb9.size)
    clear hx hb9
    go_wp2
    go_ret
    exact ⟨rfl, hb10⟩
theorem lawTexts (v : Value) (l : List Fa.Node) (s : List UInt8) (w : World) (hE : EnvT w) (h : NodesIn w v l) (hs : s.length ≤ 9223372036854775807) : Calls Tryz.prog 9 #[v, S8 s] w fun e w' => e = .returned (.bool true) ∧ Below w.heap.size w w' := by
  cases hq : farL l with
  | true => exact lawTexts_far v l s w hE.f h hs (.inl hq)
  | false =>
    by_cases h3 : 3000 < s.length
    · exact lawTexts_far v l s w hE.f h hs (.inr h3)
    · have hs3 : s.length ≤ 3000 := by omega
      by_cases hp : (Fa.parse s).1 = 0
      · by_cases h0 : (Fa.build l).1 = 0
        · exact lawTexts_read2 v l s w hE h hs3 hq hp h0
        · exact lawTexts_read v l s w hE h hs3 hq hp h0
      · by_cases h0 : (Fa.build l).1 = 0
        · exact lawTexts_bad2 v l s w hE h hs3 hq hp h0
        · exact lawTexts_bad v l s w hE h hs3 hq hp h0
theorem lawTextsB (v : Value) (l : List Fa.Node) (s : ByteArray) (w : World) (hE : EnvT w) (h : NodesIn w v l) (hs : s.size ≤ 140737488351232) : Calls Tryz.prog 9 #[v, .string s] w fun e w' => e = .returned (.bool true) ∧ Below w.heap.size w w' := by
  have h1 := lawTexts v l s.data.toList w hE h (by rw [Array.length_toList]; have : s.data.size = s.size := rfl; omega)
  have h2 : S8 s.data.toList = .string s := by unfold S8; congr
  rw [h2] at h1
  exact h1
end Go.Proofs.YtgnhbccmdpkbiaaGreatDoor
