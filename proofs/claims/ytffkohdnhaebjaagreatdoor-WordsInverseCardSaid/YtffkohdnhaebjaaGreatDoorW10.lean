/-
  Walks: Quote, both.
-/
import Derived.Test.YtffkohdnhaebjaaGreatDoorOwn
import Derived.Test.YtffkohdnhaebjaaGreatDoorW9
import Derived.Test.YtffkohdnhaebjaaGreatDoorPlain
import Derived.Test.YtffkohdnhaebjaaGreatDoorReg
namespace Go.Proofs.YtffkohdnhaebjaaGreatDoor
open Go.RowKit Go.Shelf

theorem esc_len (c : UInt8) : (Wd.esc c).length ≤ 4 := by
  unfold Wd.esc; split
  · simp
  · split <;> simp
theorem flat_len (l : List UInt8) : (l.flatMap Wd.esc).length ≤ 4 * l.length := by
  induction l with
  | nil => simp
  | cons c t ih => have := esc_len c; simp only [List.flatMap_cons, List.length_append, List.length_cons]; omega
theorem flat_snoc (s : ByteArray) (k : Nat) (h : k < s.size) : (s.data.toList.take (k + 1)).flatMap Wd.esc = (s.data.toList.take k).flatMap Wd.esc ++ Wd.esc s[k] := by
  rw [take_snoc s k h, List.flatMap_append]; simp
theorem flat_take_len (s : ByteArray) (k : Nat) : ((s.data.toList.take k).flatMap Wd.esc).length ≤ 4 * s.size := by
  have := flat_len (s.data.toList.take k)
  have h2 := List.length_take_le' k s.data.toList
  rw [size_list]; omega

theorem esc_plain {c : UInt8} (h : Wd.plain c = true) : Wd.esc c = [c] := by unfold Wd.esc; rw [h]; rfl
theorem esc_letter {c : UInt8} (h : Wd.plain c = false) (h2 : (Wd.letter c != 0) = true) : Wd.esc c = [92, Wd.letter c] := by
  unfold Wd.esc; rw [h, h2]; rfl
theorem esc_hex {c : UInt8} (h : Wd.plain c = false) (h2 : (Wd.letter c != 0) = false) : Wd.esc c = [92, 120, Wd.hexd (c / 16), Wd.hexd (c % 16)] := by
  unfold Wd.esc; rw [h, h2]; rfl

theorem hexix (n : Nat) (h : n < (⟨#[48, 49, 50, 51, 52, 53, 54, 55, 56, 57, 97, 98, 99, 100, 101, 102]⟩ : ByteArray).size) (c : UInt8) (hc : c.toNat = n) :
    Value.int .u8 ((((⟨#[48, 49, 50, 51, 52, 53, 54, 55, 56, 57, 97, 98, 99, 100, 101, 102]⟩ : ByteArray)[n]'h).toNat : Nat) : Int) = B8 (Wd.hexd c) := by
  have ht : ((⟨#[48, 49, 50, 51, 52, 53, 54, 55, 56, 57, 97, 98, 99, 100, 101, 102]⟩ : ByteArray)[n]?).getD 0 = Wd.hexd (UInt8.ofNat n) := hex_tab ⟨n, h⟩
  rw [getElem?_pos (⟨#[48, 49, 50, 51, 52, 53, 54, 55, 56, 57, 97, 98, 99, 100, 101, 102]⟩ : ByteArray) n h] at ht
  simp only [Option.getD_some] at ht
  rw [ht, ← hc]; simp

set_option maxHeartbeats 1000000 in
set_option maxRecDepth 100000 in
theorem quote_any (s : ByteArray) (w : World) (hE : Env w) (hs : s.size ≤ 1099511627776) : Calls Tryz.prog 19 #[.string s] w fun e w' => e = .returned (.string ⟨(Wd.quote s.data.toList).toArray⟩) ∧ Below w.heap.size w w' := by
  go_enter Tryz.func19, Tryz.ntmps19
  go_wp2_with (first | (refine mk8 _ rfl _ _ rfl w.heap.size _ (s.size + 2) rfl rfl (by omega) (by omega) (Nat.le_refl _) ?_; intro v0 w0 hown0 hgr0; have hbr0 := (Below.refl w.heap.size w).grown hgr0 (Nat.le_refl _) (fun k h => by cases h)) | (at_builtin; refine app8 _ rfl _ _ rfl w.heap.size _ _ [34] rfl (hown0.alloc _) ⟨w0.heap.size, 0, none⟩ 1 rfl (one_new w0 34) (by simp only [List.length_cons, List.length_nil]; omega) (by have h1 := hbr0.size; simp; omega) ?_; intro v' w2 hown2 hgr; have hbr2 := below_app (hbr0.alloc hbr0.size _) (hown0.alloc _) hgr (by have h1 := hbr0.size; simp; omega)))
  clear hgr hgr0 hbr0 hown0
  go_loopw [3, 16] (fun v i wr => ∃ k : Nat, k ≤ s.size ∧ i = .int .i64 k ∧ OwnB wr w.heap.size v (34 :: (s.data.toList.take k).flatMap Wd.esc) ∧ Below w.heap.size w wr) (fun _ i _ => s.size - (intOf i).toNat)
  case atStart =>
    refine ⟨0, Nat.zero_le _, rfl, ?_, ‹_›⟩
    have e : 34 :: (s.data.toList.take 0).flatMap Wd.esc = [34] := by simp
    rw [e]
    exact hown2
  case round =>
    clear hown2 hbr2
    obtain ⟨k, hk, rfl, hown, hbr⟩ := hrel
    by_cases hlt : k < s.size
    · have HF := Lib.hid (flat_snoc s k hlt)
      have hln := flat_take_len s k
      have hE2 := hE.below hbr
      have HE := Lib.hid hE
      clear hE
      generalize hg : (s.data.toList.take k).flatMap Wd.esc = acc at *
      have hlc := esc_len s[k]
      cases hp : Wd.plain s[k]
      · cases hl : (Wd.letter s[k] != 0)
        · have hl' : (((Wd.letter s[k]).toNat : Int) != 0) = false := by
            have e : Wd.letter s[k] = 0 := by simpa using hl
            rw [e]; rfl
          have HX := Lib.hid (esc_hex hp hl)
          clear hl
          have b0 : (0 : Int) ≤ s[k].toNat := by omega
          have b1 : (s[k].toNat : Int) < 256 := by have := s[k].toNat_lt; omega
          go_wp2_with (first | (go_at_call 44; refine (letterOf_any _ _ hE2).mono ?_; rintro e w1 ⟨rfl, hb1⟩; have hown1 := hown.below hb1; have hbr1 := hbr.trans (hb1.mono hbr.size)) | (go_at_call 45; refine (isPlain_any _ _).mono ?_; rintro e w' ⟨rfl, rfl⟩))
          -- REGION 8
          obtain ⟨v3, rfl⟩ : ∃ v3, v3 = u3 := ⟨_, rfl⟩
          refine wp_region_inv (fun a0 w0 D a wv => ∃ u24 u25 u26 u27 u28 u29 u30 u31 u32 u3 : Value, a = putAll a0 [(24, u24), (25, u25), (26, u26), (27, u27), (28, u28), (29, u29), (30, u30), (31, u31), (32, u32), (3, u3)] ∧ Hid ((D 9 → D 8) ∧ (D 9 → D 0) ∧ (D 8 → D 7) ∧ (¬ D 9 → u3 = v3) ∧ (¬ D 7 → wv = w0) ∧ (D 7 → ¬ D 8 → wv = w0.alloc (.cells #[B8 92, B8 120, B8 (Wd.hexd (s[k] / 16)), B8 (Wd.hexd (s[k] % 16))] 5))) ∧ Hid (D 0 → u24 = v3) ∧ Hid (D 1 → u25 = B8 s[k]) ∧ Hid (D 2 → u26 = B8 (s[k] / 16)) ∧ Hid (D 3 → u27 = B8 (Wd.hexd (s[k] / 16))) ∧ Hid (D 4 → u28 = B8 s[k]) ∧ Hid (D 5 → u29 = B8 (s[k] % 16)) ∧ Hid (D 6 → u30 = B8 (Wd.hexd (s[k] % 16))) ∧ Hid (D 7 → u31 = .slice (some ⟨w1.heap.size, 0, none⟩) 4 4) ∧ Hid (D 8 → OwnB wv w.heap.size u32 (34 :: acc ++ [92, 120, Wd.hexd (s[k] / 16), Wd.hexd (s[k] % 16)]) ∧ Below w.heap.size w wv) ∧ Hid (D 9 → OwnB wv w.heap.size u3 (34 :: acc ++ [92, 120, Wd.hexd (s[k] / 16), Wd.hexd (s[k] % 16)]) ∧ Below w.heap.size w wv)) rfl ?_ ?_ ?_
          ·
            simp only [putAll, List.setIfInBounds_toArray, List.set_cons_succ, List.set_cons_zero]
            exact ⟨_, _, _, _, _, _, _, _, _, _, rfl, by simp [Hid], fun h => h.elim, fun h => h.elim, fun h => h.elim, fun h => h.elim, fun h => h.elim, fun h => h.elim, fun h => h.elim, fun h => h.elim, fun h => h.elim, fun h => h.elim⟩
          ·
            simp only [putAll, List.setIfInBounds_toArray, List.set_cons_succ, List.set_cons_zero]
            refine StepsAll.cons ?_ (StepsAll.cons ?_ (StepsAll.cons ?_ (StepsAll.cons ?_ (StepsAll.cons ?_ (StepsAll.cons ?_ (StepsAll.cons ?_ (StepsAll.cons ?_ (StepsAll.cons ?_ (StepsAll.cons ?_ StepsAll.nil)))))))))
            · rintro D a wg ⟨u24, u25, u26, u27, u28, u29, u30, u31, u32, u3, rfl, hbr, f0, f1, f2, f3, f4, f5, f6, f7, f8, f9⟩ hnd hd
              clear hd
              have h39 := hbr.out.2.2.2.1 (fun h => hnd (hbr.out.2.1 h))
              subst h39
              go_wp2_with (fail)
              refine ⟨_, _, _, _, _, _, _, _, _, _, rfl, ?_, ?_, ?_, ?_, ?_, ?_, ?_, ?_, ?_, ?_, ?_⟩
              · (have hx := hbr.out; show _ ∧ _; simp at hx ⊢; exact ⟨hx.1, hx.2.2⟩)
              · first | exact rfl | exact fun _ => rfl
              · first | exact f1 | exact fun h => h.elim f1.out (fun e => absurd e (by decide))
              · first | exact f2 | exact fun h => h.elim f2.out (fun e => absurd e (by decide))
              · first | exact f3 | exact fun h => h.elim f3.out (fun e => absurd e (by decide))
              · first | exact f4 | exact fun h => h.elim f4.out (fun e => absurd e (by decide))
              · first | exact f5 | exact fun h => h.elim f5.out (fun e => absurd e (by decide))
              · first | exact f6 | exact fun h => h.elim f6.out (fun e => absurd e (by decide))
              · first | exact f7 | exact fun h => h.elim f7.out (fun e => absurd e (by decide))
              · first | exact f8 | exact fun h => h.elim f8.out (fun e => absurd e (by decide))
              · first | exact f9 | exact fun h => h.elim f9.out (fun e => absurd e (by decide))
            · rintro D a wg ⟨u24, u25, u26, u27, u28, u29, u30, u31, u32, u3, rfl, hbr, f0, f1, f2, f3, f4, f5, f6, f7, f8, f9⟩ hnd hd
              clear hd
              go_wp2_with (fail)
              refine ⟨_, _, _, _, _, _, _, _, _, _, rfl, ?_, ?_, ?_, ?_, ?_, ?_, ?_, ?_, ?_, ?_, ?_⟩
              · first | exact hbr | (have hx := hbr.out; show (_ → _) ∧ _; simpa using hx)
              · first | exact f0 | exact fun h => h.elim f0.out (fun e => absurd e (by decide))
              · first | exact rfl | exact fun _ => rfl
              · first | exact f2 | exact fun h => h.elim f2.out (fun e => absurd e (by decide))
              · first | exact f3 | exact fun h => h.elim f3.out (fun e => absurd e (by decide))
              · first | exact f4 | exact fun h => h.elim f4.out (fun e => absurd e (by decide))
              · first | exact f5 | exact fun h => h.elim f5.out (fun e => absurd e (by decide))
              · first | exact f6 | exact fun h => h.elim f6.out (fun e => absurd e (by decide))
              · first | exact f7 | exact fun h => h.elim f7.out (fun e => absurd e (by decide))
              · first | exact f8 | exact fun h => h.elim f8.out (fun e => absurd e (by decide))
              · first | exact f9 | exact fun h => h.elim f9.out (fun e => absurd e (by decide))
            · rintro D a wg ⟨u24, u25, u26, u27, u28, u29, u30, u31, u32, u3, rfl, hbr, f0, f1, f2, f3, f4, f5, f6, f7, f8, f9⟩ hnd hd
              have d1 := hd 1 (by decide)
              obtain rfl := f1.out d1
              clear hd
              go_wp2_with (fail)
              refine ⟨_, _, _, _, _, _, _, _, _, _, rfl, ?_, ?_, ?_, ?_, ?_, ?_, ?_, ?_, ?_, ?_, ?_⟩
              · first | exact hbr | (have hx := hbr.out; show (_ → _) ∧ _; simpa using hx)
              · first | exact f0 | exact fun h => h.elim f0.out (fun e => absurd e (by decide))
              · first | exact fun _ => rfl | exact rfl
              · first | exact rfl | exact fun _ => rfl
              · first | exact f3 | exact fun h => h.elim f3.out (fun e => absurd e (by decide))
              · first | exact f4 | exact fun h => h.elim f4.out (fun e => absurd e (by decide))
              · first | exact f5 | exact fun h => h.elim f5.out (fun e => absurd e (by decide))
              · first | exact f6 | exact fun h => h.elim f6.out (fun e => absurd e (by decide))
              · first | exact f7 | exact fun h => h.elim f7.out (fun e => absurd e (by decide))
              · first | exact f8 | exact fun h => h.elim f8.out (fun e => absurd e (by decide))
              · first | exact f9 | exact fun h => h.elim f9.out (fun e => absurd e (by decide))
            · rintro D a wg ⟨u24, u25, u26, u27, u28, u29, u30, u31, u32, u3, rfl, hbr, f0, f1, f2, f3, f4, f5, f6, f7, f8, f9⟩ hnd hd
              have d2 := hd 2 (by decide)
              obtain rfl := f2.out d2
              clear hd
              go_wp2_with (fail)
              refine ⟨_, _, _, _, _, _, _, _, _, _, rfl, ?_, ?_, ?_, ?_, ?_, ?_, ?_, ?_, ?_, ?_, ?_⟩
              · first | exact hbr | (have hx := hbr.out; show (_ → _) ∧ _; simpa using hx)
              · first | exact f0 | exact fun h => h.elim f0.out (fun e => absurd e (by decide))
              · first | exact f1 | exact fun h => h.elim f1.out (fun e => absurd e (by decide))
              · first | exact fun _ => rfl | exact rfl
              · first | exact hexix _ _ _ (by simp) | exact fun _ => hexix _ _ _ (by simp)
              · first | exact f4 | exact fun h => h.elim f4.out (fun e => absurd e (by decide))
              · first | exact f5 | exact fun h => h.elim f5.out (fun e => absurd e (by decide))
              · first | exact f6 | exact fun h => h.elim f6.out (fun e => absurd e (by decide))
              · first | exact f7 | exact fun h => h.elim f7.out (fun e => absurd e (by decide))
              · first | exact f8 | exact fun h => h.elim f8.out (fun e => absurd e (by decide))
              · first | exact f9 | exact fun h => h.elim f9.out (fun e => absurd e (by decide))
            · rintro D a wg ⟨u24, u25, u26, u27, u28, u29, u30, u31, u32, u3, rfl, hbr, f0, f1, f2, f3, f4, f5, f6, f7, f8, f9⟩ hnd hd
              clear hd
              go_wp2_with (fail)
              refine ⟨_, _, _, _, _, _, _, _, _, _, rfl, ?_, ?_, ?_, ?_, ?_, ?_, ?_, ?_, ?_, ?_, ?_⟩
              · first | exact hbr | (have hx := hbr.out; show (_ → _) ∧ _; simpa using hx)
              · first | exact f0 | exact fun h => h.elim f0.out (fun e => absurd e (by decide))
              · first | exact f1 | exact fun h => h.elim f1.out (fun e => absurd e (by decide))
              · first | exact f2 | exact fun h => h.elim f2.out (fun e => absurd e (by decide))
              · first | exact f3 | exact fun h => h.elim f3.out (fun e => absurd e (by decide))
              · first | exact rfl | exact fun _ => rfl
              · first | exact f5 | exact fun h => h.elim f5.out (fun e => absurd e (by decide))
              · first | exact f6 | exact fun h => h.elim f6.out (fun e => absurd e (by decide))
              · first | exact f7 | exact fun h => h.elim f7.out (fun e => absurd e (by decide))
              · first | exact f8 | exact fun h => h.elim f8.out (fun e => absurd e (by decide))
              · first | exact f9 | exact fun h => h.elim f9.out (fun e => absurd e (by decide))
            · rintro D a wg ⟨u24, u25, u26, u27, u28, u29, u30, u31, u32, u3, rfl, hbr, f0, f1, f2, f3, f4, f5, f6, f7, f8, f9⟩ hnd hd
              have d4 := hd 4 (by decide)
              obtain rfl := f4.out d4
              clear hd
              go_wp2_with (fail)
              refine ⟨_, _, _, _, _, _, _, _, _, _, rfl, ?_, ?_, ?_, ?_, ?_, ?_, ?_, ?_, ?_, ?_, ?_⟩
              · first | exact hbr | (have hx := hbr.out; show (_ → _) ∧ _; simpa using hx)
              · first | exact f0 | exact fun h => h.elim f0.out (fun e => absurd e (by decide))
              · first | exact f1 | exact fun h => h.elim f1.out (fun e => absurd e (by decide))
              · first | exact f2 | exact fun h => h.elim f2.out (fun e => absurd e (by decide))
              · first | exact f3 | exact fun h => h.elim f3.out (fun e => absurd e (by decide))
              · first | exact fun _ => rfl | exact rfl
              · first | exact rfl | exact fun _ => rfl
              · first | exact f6 | exact fun h => h.elim f6.out (fun e => absurd e (by decide))
              · first | exact f7 | exact fun h => h.elim f7.out (fun e => absurd e (by decide))
              · first | exact f8 | exact fun h => h.elim f8.out (fun e => absurd e (by decide))
              · first | exact f9 | exact fun h => h.elim f9.out (fun e => absurd e (by decide))
            · rintro D a wg ⟨u24, u25, u26, u27, u28, u29, u30, u31, u32, u3, rfl, hbr, f0, f1, f2, f3, f4, f5, f6, f7, f8, f9⟩ hnd hd
              have d5 := hd 5 (by decide)
              obtain rfl := f5.out d5
              clear hd
              go_wp2_with (fail)
              refine ⟨_, _, _, _, _, _, _, _, _, _, rfl, ?_, ?_, ?_, ?_, ?_, ?_, ?_, ?_, ?_, ?_, ?_⟩
              · first | exact hbr | (have hx := hbr.out; show (_ → _) ∧ _; simpa using hx)
              · first | exact f0 | exact fun h => h.elim f0.out (fun e => absurd e (by decide))
              · first | exact f1 | exact fun h => h.elim f1.out (fun e => absurd e (by decide))
              · first | exact f2 | exact fun h => h.elim f2.out (fun e => absurd e (by decide))
              · first | exact f3 | exact fun h => h.elim f3.out (fun e => absurd e (by decide))
              · first | exact f4 | exact fun h => h.elim f4.out (fun e => absurd e (by decide))
              · first | exact fun _ => rfl | exact rfl
              · first | exact hexix _ _ _ (by simp) | exact fun _ => hexix _ _ _ (by simp)
              · first | exact f7 | exact fun h => h.elim f7.out (fun e => absurd e (by decide))
              · first | exact f8 | exact fun h => h.elim f8.out (fun e => absurd e (by decide))
              · first | exact f9 | exact fun h => h.elim f9.out (fun e => absurd e (by decide))
            · rintro D a wg ⟨u24, u25, u26, u27, u28, u29, u30, u31, u32, u3, rfl, hbr, f0, f1, f2, f3, f4, f5, f6, f7, f8, f9⟩ hnd hd
              have d3 := hd 3 (by decide)
              obtain rfl := f3.out d3
              have d6 := hd 6 (by decide)
              obtain rfl := f6.out d6
              clear hd
              have h87 := hbr.out.2.2.1
              have h98 := hbr.out.1
              have hw0 := hbr.out.2.2.2.2.1 hnd
              subst hw0
              go_wp2_with (fail)
              refine ⟨_, _, _, _, _, _, _, _, _, _, rfl, ?_, ?_, ?_, ?_, ?_, ?_, ?_, ?_, ?_, ?_, ?_⟩
              · (show _; simp [Hid]; obtain ⟨x1, x2, x3, x4, x5, x6⟩ := hbr.out; exact ⟨x1, x2, x4, fun _ => rfl⟩)
              · first | exact f0 | exact fun h => h.elim f0.out (fun e => absurd e (by decide))
              · first | exact f1 | exact fun h => h.elim f1.out (fun e => absurd e (by decide))
              · first | exact f2 | exact fun h => h.elim f2.out (fun e => absurd e (by decide))
              · first | exact fun _ => rfl | exact rfl
              · first | exact f4 | exact fun h => h.elim f4.out (fun e => absurd e (by decide))
              · first | exact f5 | exact fun h => h.elim f5.out (fun e => absurd e (by decide))
              · first | exact fun _ => rfl | exact rfl
              · first | exact rfl | exact fun _ => rfl
              · exact fun h => absurd (h87 h) hnd
              · exact fun h => absurd (h87 (h98 h)) hnd
            · rintro D a wg ⟨u24, u25, u26, u27, u28, u29, u30, u31, u32, u3, rfl, hbr, f0, f1, f2, f3, f4, f5, f6, f7, f8, f9⟩ hnd hd
              have d0 := hd 0 (by decide)
              obtain rfl := f0.out d0
              have d7 := hd 7 (by decide)
              obtain rfl := f7.out d7
              clear hd
              have h98 := hbr.out.1
              have hw0 := hbr.out.2.2.2.2.2 d7 hnd
              subst hw0
              go_wp2_with (at_builtin; refine app8 _ rfl _ _ rfl w.heap.size _ _ [92, 120, Wd.hexd (s[k] / 16), Wd.hexd (s[k] % 16)] rfl (OwnB.drew (hown1.alloc _)) ⟨w1.heap.size, 0, none⟩ 4 rfl (four_new w1 92 120 (Wd.hexd (s[k] / 16)) (Wd.hexd (s[k] % 16))) (by simp only [List.length_cons, List.length_nil]; omega) (by have h1 := hbr1.size; simp; omega) ?_; intro v' w2 hown2 hgr; have hbr2 := below_app (hbr1.alloc hbr1.size _).drew (OwnB.drew (hown1.alloc _)) hgr (by have h1 := hbr1.size; simp; omega))
              refine ⟨_, _, _, _, _, _, _, _, _, _, rfl, ?_, ?_, ?_, ?_, ?_, ?_, ?_, ?_, ?_, ?_, ?_⟩
              · (show _; simp [Hid]; obtain ⟨x1, x2, x3, x4, x5, x6⟩ := hbr.out; exact ⟨x2, d7, x4, fun h => absurd d7 h⟩)
              · first | exact fun _ => rfl | exact rfl
              · first | exact f1 | exact fun h => h.elim f1.out (fun e => absurd e (by decide))
              · first | exact f2 | exact fun h => h.elim f2.out (fun e => absurd e (by decide))
              · first | exact f3 | exact fun h => h.elim f3.out (fun e => absurd e (by decide))
              · first | exact f4 | exact fun h => h.elim f4.out (fun e => absurd e (by decide))
              · first | exact f5 | exact fun h => h.elim f5.out (fun e => absurd e (by decide))
              · first | exact f6 | exact fun h => h.elim f6.out (fun e => absurd e (by decide))
              · first | exact fun _ => rfl | exact rfl
              · first | exact ⟨hown2, hbr2⟩ | exact fun _ => ⟨hown2, hbr2⟩
              · exact fun h => absurd (h98 h) hnd
            · rintro D a wg ⟨u24, u25, u26, u27, u28, u29, u30, u31, u32, u3, rfl, hbr, f0, f1, f2, f3, f4, f5, f6, f7, f8, f9⟩ hnd hd
              have d8 := hd 8 (by decide)
              obtain ⟨hown2, hbr2⟩ := f8.out d8
              have d0 := hd 0 (by decide)
              clear hd
              go_wp2_with (fail)
              refine ⟨_, _, _, _, _, _, _, _, _, _, rfl, ?_, ?_, ?_, ?_, ?_, ?_, ?_, ?_, ?_, ?_, ?_⟩
              · (show _; simp [Hid]; obtain ⟨x1, x2, x3, x4, x5, x6⟩ := hbr.out; exact ⟨d8, d0, x3, x5, x6⟩)
              · first | exact f0 | exact fun h => h.elim f0.out (fun e => absurd e (by decide))
              · first | exact f1 | exact fun h => h.elim f1.out (fun e => absurd e (by decide))
              · first | exact f2 | exact fun h => h.elim f2.out (fun e => absurd e (by decide))
              · first | exact f3 | exact fun h => h.elim f3.out (fun e => absurd e (by decide))
              · first | exact f4 | exact fun h => h.elim f4.out (fun e => absurd e (by decide))
              · first | exact f5 | exact fun h => h.elim f5.out (fun e => absurd e (by decide))
              · first | exact f6 | exact fun h => h.elim f6.out (fun e => absurd e (by decide))
              · first | exact f7 | exact fun h => h.elim f7.out (fun e => absurd e (by decide))
              · exact fun _ => ⟨hown2, hbr2⟩
              · first | exact ⟨hown2, hbr2⟩ | exact fun _ => ⟨hown2, hbr2⟩
          simp only [putAll, List.setIfInBounds_toArray, List.set_cons_succ, List.set_cons_zero]
          rintro D a wg hall ⟨u24, u25, u26, u27, u28, u29, u30, u31, u32, u3, rfl, hbr, f0, f1, f2, f3, f4, f5, f6, f7, f8, f9⟩
          obtain rfl := f0.out (hall 0 (by decide))
          obtain rfl := f1.out (hall 1 (by decide))
          obtain rfl := f2.out (hall 2 (by decide))
          obtain rfl := f3.out (hall 3 (by decide))
          obtain rfl := f4.out (hall 4 (by decide))
          obtain rfl := f5.out (hall 5 (by decide))
          obtain rfl := f6.out (hall 6 (by decide))
          obtain rfl := f7.out (hall 7 (by decide))
          obtain ⟨hown2, hbr2⟩ := f8.out (hall 8 (by decide))
          obtain ⟨hown3, hbr3⟩ := f9.out (hall 9 (by decide))
          clear hall f0 f1 f2 f3 f4 f5 f6 f7 f8 f9
          go_wp2
          go_roundw
          case rel => exact ⟨k + 1, by omega, by go_num, by rw [HF.out, HX.out]; exact hown3, hbr3⟩
          case measure => simp [intOf]; omega
        · have hl' : (((Wd.letter s[k]).toNat : Int) != 0) = true := by
            rw [bne_iff_ne] at hl ⊢
            intro e; apply hl; rw [← UInt8.toNat_inj]; simp; omega
          have HX := Lib.hid (esc_letter hp hl)
          clear hl
          go_wp2_with (first | (go_at_call 44; refine (letterOf_any _ _ hE2).mono ?_; rintro e w1 ⟨rfl, hb1⟩; have hown1 := hown.below hb1; have hbr1 := hbr.trans (hb1.mono hbr.size)) | (go_at_call 45; refine (isPlain_any _ _).mono ?_; rintro e w' ⟨rfl, rfl⟩) | (at_builtin; refine app8 _ rfl _ _ rfl w.heap.size _ _ [92, Wd.letter s[k]] rfl (hown1.alloc _) ⟨w1.heap.size, 0, none⟩ 2 rfl (two_new w1 (92) (Wd.letter s[k])) (by simp only [List.length_cons, List.length_nil]; omega) (by have h1 := hbr1.size; simp; omega) ?_; intro v' w2 hown2 hgr; have hbr2 := below_app (hbr1.alloc hbr1.size _) (hown1.alloc _) hgr (by have h1 := hbr1.size; simp; omega)))
          go_roundw
          case rel => exact ⟨k + 1, by omega, by go_num, by rw [HF.out, HX.out]; exact hown2, hbr2⟩
          case measure => simp [intOf]; omega
      · have HX := Lib.hid (esc_plain hp)
        go_wp2_with (first | (go_at_call 44; refine (letterOf_any _ _ hE2).mono ?_; rintro e w1 ⟨rfl, hb1⟩; have hown1 := hown.below hb1; have hbr1 := hbr.trans (hb1.mono hbr.size)) | (go_at_call 45; refine (isPlain_any _ _).mono ?_; rintro e w' ⟨rfl, rfl⟩) | (at_builtin; refine app8 _ rfl _ _ rfl w.heap.size _ _ [s[k]] rfl (hown1.alloc _) ⟨w1.heap.size, 0, none⟩ 1 rfl (one_new w1 s[k]) (by simp only [List.length_cons, List.length_nil]; omega) (by have h1 := hbr1.size; simp; omega) ?_; intro v' w2 hown2 hgr; have hbr2 := below_app (hbr1.alloc hbr1.size _) (hown1.alloc _) hgr (by have h1 := hbr1.size; simp; omega)))
        go_roundw
        case rel => exact ⟨k + 1, by omega, by go_num, by rw [HF.out, HX.out]; exact hown2, hbr2⟩
        case measure => simp [intOf]; omega
    · have hkk : k = s.size := by omega
      subst hkk
      have hln := flat_take_len s s.size
      have ht : s.data.toList.take s.size = s.data.toList := List.take_of_length_le (by simp)
      rw [ht] at hown hln
      have HF := Lib.hid (show Wd.quote s.data.toList = 34 :: s.data.toList.flatMap Wd.esc ++ [34] from rfl)
      generalize s.data.toList.flatMap Wd.esc = acc at *
      go_wp2_with (at_builtin; refine app8 _ rfl _ _ rfl w.heap.size _ _ [34] rfl (hown.alloc _) ⟨wr.heap.size, 0, none⟩ 1 rfl (one_new wr 34) (by simp only [List.length_cons, List.length_nil]; omega) (by have h1 := hbr.size; simp; omega) ?_; intro v' w2 hown2 hgr; have hbr2 := below_app (hbr.alloc hbr.size _) (hown.alloc _) hgr (by have h1 := hbr.size; simp; omega); have hcv := conv_own hown2)
      go_ret
      exact ⟨ret_str (by rw [HF.out]; rfl), ‹_›⟩
end Go.Proofs.YtffkohdnhaebjaaGreatDoor
