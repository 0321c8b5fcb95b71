/-
  Walks: the reference's Digits, by recursion.
-/
import Derived.Test.YtgnhbccmdpkbiaaGreatDoorW6
import Derived.Test.YtgnhbccmdpkbiaaGreatDoorReg
import Derived.Lib.ItoaLen
import Derived.Deep.RegionHeld3
import Derived.StillTailTactics
import Derived.Deep.RegionWith
import Derived.BigRegion
namespace Go.Proofs.YtgnhbccmdpkbiaaGreatDoor
open Go.RowKit Go.Shelf

theorem str1n (w : World) (x : Int) (h0 : 0 ≤ x) (h1 : x < 256) : (convert 108 9 (.slice (some ⟨w.heap.size, 0, none⟩) 1 1)).run Tryz.prog (w.alloc (.cells #[.int .u8 x] 5)) = .ok (.string ⟨#[UInt8.ofNat x.toNat]⟩) (w.alloc (.cells #[.int .u8 x] 5)) := by
  have e : Value.int .u8 x = B8 (UInt8.ofNat x.toNat) := by
    unfold B8; simp only [UInt8.toNat_ofNat']; congr 1; omega
  rw [e]; exact str1 w _

set_option maxHeartbeats 400000 in
set_option maxRecDepth 100000 in
theorem rdigits_small (n : Int) (h0 : 0 ≤ n) (h1 : n ≤ 9) (w : World) :
    Calls Tryz.prog 103 #[.int .i64 n] w fun e w' => e = .returned (.string ⟨(Lib.itoa n).toArray⟩) ∧ Below w.heap.size w w' := by
  have HF := Lib.hid (Wd.itoa_one n h0 h1)
  have s1 := fun w => str1n w (48 + n) (by omega) (by omega)
  go_enter Tryz.func103, Tryz.ntmps103
  go_wp2
  go_ret
  refine ⟨ret_str ?_, (Below.refl _ _).alloc (Nat.le_refl _) _⟩
  rw [HF.out]
  have e : (48 + n).toNat = 48 + n.toNat := by omega
  rw [e]
set_option maxHeartbeats 400000 in
set_option maxRecDepth 100000 in
theorem rdigits_neg (n : Int) (h0 : n < 0) (h1 : -9 ≤ n) (w : World) :
    Calls Tryz.prog 103 #[.int .i64 n] w fun e w' => e = .returned (.string ⟨(Lib.itoa n).toArray⟩) ∧ Below w.heap.size w w' := by
  have HF := Lib.hid (Wd.itoa_neg n h0)
  have hlen := Lib.itoa_length_le (-n) (by omega) (by omega)
  have hl8 : ((Lib.itoa (-n)).length : Int) ≤ 8388608 := by omega
  clear hlen
  go_enter Tryz.func103, Tryz.ntmps103
  go_wp2_with (go_at_call 103; refine (rdigits_small (-n) (by omega) (by omega) _).mono ?_; rintro e w1 ⟨rfl, hb⟩)
  go_ret
  refine ⟨ret_str ?_, ‹_›⟩
  rw [HF.out]
  apply ByteArray.ext; simp
theorem str1c (w : World) (b : Nat) (x : Int) (h0 : 0 ≤ x) (h1 : x < 256) (hc : w.cell? ⟨b, 0, none⟩ = some (.int .u8 x)) : (convert 108 9 (.slice (some ⟨b, 0, none⟩) 1 1)).run Tryz.prog w = .ok (.string ⟨#[UInt8.ofNat x.toNat]⟩) w :=
  run_convert_bytes_back (P := Tryz.prog) w 108 9 5 ⟨b, 0, none⟩ 1 [UInt8.ofNat x.toNat] Tryz.underlying108 Tryz.underlying5 Tryz.underlying9 (by
    intro j hj
    match j, hj with
    | 0, _ =>
      rw [show (⟨b, 0, none⟩ : Addr).add 0 = ⟨b, 0, none⟩ from rfl, hc]
      have e : ([UInt8.ofNat x.toNat][0].toNat : Int) = x := by simp; omega
      rw [e])

set_option maxHeartbeats 400000 in
set_option maxRecDepth 100000 in
theorem rdigits_step (n : Int) (h0 : -9223372036854775808 ≤ n) (h1 : n ≤ 9223372036854775807) (hb : 9 < n) (w : World)
   (ih : ∀ w, Calls Tryz.prog 103 #[.int .i64 (n.tdiv 10)] w fun e w' => e = .returned (.string ⟨(Lib.itoa (n.tdiv 10)).toArray⟩) ∧ Below w.heap.size w w') :
    Calls Tryz.prog 103 #[.int .i64 n] w fun e w' => e = .returned (.string ⟨(Lib.itoa n).toArray⟩) ∧ Below w.heap.size w w' := by
  have HF := Lib.hid (Wd.itoa_big n (.inl hb))
  have eq : n.tdiv 10 = n / 10 := Int.tdiv_eq_ediv_of_nonneg (by omega)
  rw [eq] at ih HF
  have hlen := Lib.itoa_length_le (n / 10) (by omega) (by omega)
  have hl8 : ((Lib.itoa (n / 10)).length : Int) ≤ 8388608 := by omega
  clear hlen
  have IH := Lib.hid ih
  clear ih eq
  have k0 : 0 ≤ n % 10 := by omega
  have k1 : n % 10 < 10 := by omega
  have q0 : 0 ≤ n / 10 := by omega
  have q1 : n / 10 ≤ n := by omega
  go_enter Tryz.func103, Tryz.ntmps103
  go_wp2
  refine wp_region_inv (fun a0 w0 D a w => ∃ u16 u17 u18 u19 u20 u21 u22 u23 u24 u2 : Value, a = putAll a0 [(16, u16), (17, u17), (18, u18), (19, u19), (20, u20), (21, u21), (22, u22), (23, u23), (24, u24), (2, u2)] ∧ Below w0.heap.size w0 w ∧ Hid (D 0 → u16 = .int .i64 n) ∧ Hid (D 1 → u17 = .int .i64 (n / 10)) ∧ Hid (D 2 → u18 = .string ⟨(Lib.itoa (n / 10)).toArray⟩) ∧ Hid (D 3 → u19 = .int .i64 (n % 10)) ∧ Hid (D 4 → u20 = .int .i64 (48 + n % 10)) ∧ Hid (D 5 → u21 = .int .u8 (48 + n % 10)) ∧ Hid (D 6 → ∃ b, u22 = .slice (some ⟨b, 0, none⟩) 1 1 ∧ b < w.heap.size ∧ w.cell? ⟨b, 0, none⟩ = some (.int .u8 (48 + n % 10))) ∧ Hid (D 7 → u23 = .string ⟨#[UInt8.ofNat (48 + n % 10).toNat]⟩) ∧ Hid (D 8 → u24 = .string (⟨(Lib.itoa (n / 10)).toArray⟩ ++ ⟨#[UInt8.ofNat (48 + n % 10).toNat]⟩)) ∧ Hid (D 9 → u2 = .string (⟨(Lib.itoa (n / 10)).toArray⟩ ++ ⟨#[UInt8.ofNat (48 + n % 10).toNat]⟩))) rfl ?_ ?_ ?_
  ·
    simp only [putAll, List.setIfInBounds_toArray, List.set_cons_succ, List.set_cons_zero]
    exact ⟨_, _, _, _, _, _, _, _, _, _, rfl, Below.refl _ _, fun h => h.elim, fun h => h.elim, fun h => h.elim, fun h => h.elim, fun h => h.elim, fun h => h.elim, fun h => h.elim, fun h => h.elim, fun h => h.elim, fun h => h.elim⟩
  ·
    simp only [putAll, List.setIfInBounds_toArray, List.set_cons_succ, List.set_cons_zero]
    refine StepsAll.cons ?_ (StepsAll.cons ?_ (StepsAll.cons ?_ (StepsAll.cons ?_ (StepsAll.cons ?_ (StepsAll.cons ?_ (StepsAll.cons ?_ (StepsAll.cons ?_ (StepsAll.cons ?_ (StepsAll.cons ?_ StepsAll.nil)))))))))
    · rintro D a wg ⟨u16, u17, u18, u19, u20, u21, u22, u23, u24, u2, rfl, hbr, f0, f1, f2, f3, f4, f5, f6, f7, f8, f9⟩ hnd hd
      clear hd
      go_wp2_with (go_at_call 103; refine (IH.out _).mono ?_; rintro e w1 ⟨rfl, hnew⟩)
      refine ⟨_, _, _, _, _, _, _, _, _, _, rfl, hbr, ?_, ?_, ?_, ?_, ?_, ?_, ?_, ?_, ?_, ?_⟩
      · first | exact rfl | exact fun _ => rfl
      · first | exact f1 | exact fun h => h.elim f1.out (fun e => absurd e (by decide))
      · first | exact f2 | exact fun h => h.elim f2.out (fun e => absurd e (by decide))
      · first | exact f3 | exact fun h => h.elim f3.out (fun e => absurd e (by decide))
      · first | exact f4 | exact fun h => h.elim f4.out (fun e => absurd e (by decide))
      · first | exact f5 | exact fun h => h.elim f5.out (fun e => absurd e (by decide))
      · first | exact f6 | exact fun h => h.elim f6.out (fun e => absurd e (by decide))
      · first | exact f7 | exact fun h => h.elim f7.out (fun e => absurd e (by decide))
      · first | exact f8 | exact fun h => h.elim f8.out (fun e => absurd e (by decide))
      · first | exact f9 | exact fun h => h.elim f9.out (fun e => absurd e (by decide))
    · rintro D a wg ⟨u16, u17, u18, u19, u20, u21, u22, u23, u24, u2, rfl, hbr, f0, f1, f2, f3, f4, f5, f6, f7, f8, f9⟩ hnd hd
      obtain rfl := f0.out (hd 0 (by decide))
      clear hd
      go_wp2_with (go_at_call 103; refine (IH.out _).mono ?_; rintro e w1 ⟨rfl, hnew⟩)
      refine ⟨_, _, _, _, _, _, _, _, _, _, rfl, hbr, ?_, ?_, ?_, ?_, ?_, ?_, ?_, ?_, ?_, ?_⟩
      · first | exact fun _ => rfl | exact rfl
      · first | exact rfl | exact fun _ => rfl
      · first | exact f2 | exact fun h => h.elim f2.out (fun e => absurd e (by decide))
      · first | exact f3 | exact fun h => h.elim f3.out (fun e => absurd e (by decide))
      · first | exact f4 | exact fun h => h.elim f4.out (fun e => absurd e (by decide))
      · first | exact f5 | exact fun h => h.elim f5.out (fun e => absurd e (by decide))
      · first | exact f6 | exact fun h => h.elim f6.out (fun e => absurd e (by decide))
      · first | exact f7 | exact fun h => h.elim f7.out (fun e => absurd e (by decide))
      · first | exact f8 | exact fun h => h.elim f8.out (fun e => absurd e (by decide))
      · first | exact f9 | exact fun h => h.elim f9.out (fun e => absurd e (by decide))
    · rintro D a wg ⟨u16, u17, u18, u19, u20, u21, u22, u23, u24, u2, rfl, hbr, f0, f1, f2, f3, f4, f5, f6, f7, f8, f9⟩ hnd hd
      obtain rfl := f1.out (hd 1 (by decide))
      clear hd
      go_wp2_with (go_at_call 103; refine (IH.out _).mono ?_; rintro e w1 ⟨rfl, hnew⟩)
      refine ⟨_, _, _, _, _, _, _, _, _, _, rfl, hbr.trans (hnew.mono hbr.size), ?_, ?_, ?_, ?_, ?_, ?_, ?_, ?_, ?_, ?_⟩
      · first | exact f0 | exact fun h => h.elim f0.out (fun e => absurd e (by decide))
      · first | exact fun _ => rfl | exact rfl
      · first | exact rfl | exact fun _ => rfl
      · first | exact f3 | exact fun h => h.elim f3.out (fun e => absurd e (by decide))
      · first | exact f4 | exact fun h => h.elim f4.out (fun e => absurd e (by decide))
      · first | exact f5 | exact fun h => h.elim f5.out (fun e => absurd e (by decide))
      · first | exact fun h => (let ⟨b, e1, e2, e3⟩ := (f6.out h); ⟨b, e1, Nat.lt_of_lt_of_le e2 hnew.size, (hnew.cell (p := ⟨b, 0, none⟩) e2).trans e3⟩) | exact fun h => h.elim (fun h1 => (let ⟨b, e1, e2, e3⟩ := (f6.out h1); ⟨b, e1, Nat.lt_of_lt_of_le e2 hnew.size, (hnew.cell (p := ⟨b, 0, none⟩) e2).trans e3⟩)) (fun e => absurd e (by decide))
      · first | exact f7 | exact fun h => h.elim f7.out (fun e => absurd e (by decide))
      · first | exact f8 | exact fun h => h.elim f8.out (fun e => absurd e (by decide))
      · first | exact f9 | exact fun h => h.elim f9.out (fun e => absurd e (by decide))
    · rintro D a wg ⟨u16, u17, u18, u19, u20, u21, u22, u23, u24, u2, rfl, hbr, f0, f1, f2, f3, f4, f5, f6, f7, f8, f9⟩ hnd hd
      clear hd
      go_wp2_with (go_at_call 103; refine (IH.out _).mono ?_; rintro e w1 ⟨rfl, hnew⟩)
      refine ⟨_, _, _, _, _, _, _, _, _, _, rfl, hbr, ?_, ?_, ?_, ?_, ?_, ?_, ?_, ?_, ?_, ?_⟩
      · first | exact f0 | exact fun h => h.elim f0.out (fun e => absurd e (by decide))
      · first | exact f1 | exact fun h => h.elim f1.out (fun e => absurd e (by decide))
      · first | exact f2 | exact fun h => h.elim f2.out (fun e => absurd e (by decide))
      · first | exact rfl | exact fun _ => rfl
      · first | exact f4 | exact fun h => h.elim f4.out (fun e => absurd e (by decide))
      · first | exact f5 | exact fun h => h.elim f5.out (fun e => absurd e (by decide))
      · first | exact f6 | exact fun h => h.elim f6.out (fun e => absurd e (by decide))
      · first | exact f7 | exact fun h => h.elim f7.out (fun e => absurd e (by decide))
      · first | exact f8 | exact fun h => h.elim f8.out (fun e => absurd e (by decide))
      · first | exact f9 | exact fun h => h.elim f9.out (fun e => absurd e (by decide))
    · rintro D a wg ⟨u16, u17, u18, u19, u20, u21, u22, u23, u24, u2, rfl, hbr, f0, f1, f2, f3, f4, f5, f6, f7, f8, f9⟩ hnd hd
      obtain rfl := f3.out (hd 3 (by decide))
      clear hd
      go_wp2_with (go_at_call 103; refine (IH.out _).mono ?_; rintro e w1 ⟨rfl, hnew⟩)
      refine ⟨_, _, _, _, _, _, _, _, _, _, rfl, hbr, ?_, ?_, ?_, ?_, ?_, ?_, ?_, ?_, ?_, ?_⟩
      · first | exact f0 | exact fun h => h.elim f0.out (fun e => absurd e (by decide))
      · first | exact f1 | exact fun h => h.elim f1.out (fun e => absurd e (by decide))
      · first | exact f2 | exact fun h => h.elim f2.out (fun e => absurd e (by decide))
      · first | exact fun _ => rfl | exact rfl
      · first | exact rfl | exact fun _ => rfl
      · first | exact f5 | exact fun h => h.elim f5.out (fun e => absurd e (by decide))
      · first | exact f6 | exact fun h => h.elim f6.out (fun e => absurd e (by decide))
      · first | exact f7 | exact fun h => h.elim f7.out (fun e => absurd e (by decide))
      · first | exact f8 | exact fun h => h.elim f8.out (fun e => absurd e (by decide))
      · first | exact f9 | exact fun h => h.elim f9.out (fun e => absurd e (by decide))
    · rintro D a wg ⟨u16, u17, u18, u19, u20, u21, u22, u23, u24, u2, rfl, hbr, f0, f1, f2, f3, f4, f5, f6, f7, f8, f9⟩ hnd hd
      obtain rfl := f4.out (hd 4 (by decide))
      clear hd
      go_wp2_with (go_at_call 103; refine (IH.out _).mono ?_; rintro e w1 ⟨rfl, hnew⟩)
      refine ⟨_, _, _, _, _, _, _, _, _, _, rfl, hbr, ?_, ?_, ?_, ?_, ?_, ?_, ?_, ?_, ?_, ?_⟩
      · first | exact f0 | exact fun h => h.elim f0.out (fun e => absurd e (by decide))
      · first | exact f1 | exact fun h => h.elim f1.out (fun e => absurd e (by decide))
      · first | exact f2 | exact fun h => h.elim f2.out (fun e => absurd e (by decide))
      · first | exact f3 | exact fun h => h.elim f3.out (fun e => absurd e (by decide))
      · first | exact fun _ => rfl | exact rfl
      · first | exact rfl | exact fun _ => rfl
      · first | exact f6 | exact fun h => h.elim f6.out (fun e => absurd e (by decide))
      · first | exact f7 | exact fun h => h.elim f7.out (fun e => absurd e (by decide))
      · first | exact f8 | exact fun h => h.elim f8.out (fun e => absurd e (by decide))
      · first | exact f9 | exact fun h => h.elim f9.out (fun e => absurd e (by decide))
    · rintro D a wg ⟨u16, u17, u18, u19, u20, u21, u22, u23, u24, u2, rfl, hbr, f0, f1, f2, f3, f4, f5, f6, f7, f8, f9⟩ hnd hd
      obtain rfl := f5.out (hd 5 (by decide))
      clear hd
      go_wp2_with (go_at_call 103; refine (IH.out _).mono ?_; rintro e w1 ⟨rfl, hnew⟩)
      refine ⟨_, _, _, _, _, _, _, _, _, _, rfl, hbr.alloc hbr.size _, ?_, ?_, ?_, ?_, ?_, ?_, ?_, ?_, ?_, ?_⟩
      · first | exact f0 | exact fun h => h.elim f0.out (fun e => absurd e (by decide))
      · first | exact f1 | exact fun h => h.elim f1.out (fun e => absurd e (by decide))
      · first | exact f2 | exact fun h => h.elim f2.out (fun e => absurd e (by decide))
      · first | exact f3 | exact fun h => h.elim f3.out (fun e => absurd e (by decide))
      · first | exact f4 | exact fun h => h.elim f4.out (fun e => absurd e (by decide))
      · first | exact fun _ => rfl | exact rfl
      · first | exact ⟨wg.heap.size, rfl, by simp, by rw [World.cell?_alloc_at _ _ _ _ rfl]; rfl⟩ | exact fun _ => ⟨wg.heap.size, rfl, by simp, by rw [World.cell?_alloc_at _ _ _ _ rfl]; rfl⟩
      · first | exact f7 | exact fun h => h.elim f7.out (fun e => absurd e (by decide))
      · first | exact f8 | exact fun h => h.elim f8.out (fun e => absurd e (by decide))
      · first | exact f9 | exact fun h => h.elim f9.out (fun e => absurd e (by decide))
    · rintro D a wg ⟨u16, u17, u18, u19, u20, u21, u22, u23, u24, u2, rfl, hbr, f0, f1, f2, f3, f4, f5, f6, f7, f8, f9⟩ hnd hd
      obtain ⟨b, rfl, hlt, hcell⟩ := f6.out (hd 6 (by decide))
      clear hd
      have s1 := str1c wg b _ (by omega) (by omega) hcell
      go_wp2_with (go_at_call 103; refine (IH.out _).mono ?_; rintro e w1 ⟨rfl, hnew⟩)
      refine ⟨_, _, _, _, _, _, _, _, _, _, rfl, hbr, ?_, ?_, ?_, ?_, ?_, ?_, ?_, ?_, ?_, ?_⟩
      · first | exact f0 | exact fun h => h.elim f0.out (fun e => absurd e (by decide))
      · first | exact f1 | exact fun h => h.elim f1.out (fun e => absurd e (by decide))
      · first | exact f2 | exact fun h => h.elim f2.out (fun e => absurd e (by decide))
      · first | exact f3 | exact fun h => h.elim f3.out (fun e => absurd e (by decide))
      · first | exact f4 | exact fun h => h.elim f4.out (fun e => absurd e (by decide))
      · first | exact f5 | exact fun h => h.elim f5.out (fun e => absurd e (by decide))
      · exact fun _ => ⟨b, rfl, hlt, hcell⟩
      · first | exact rfl | exact fun _ => rfl
      · first | exact f8 | exact fun h => h.elim f8.out (fun e => absurd e (by decide))
      · first | exact f9 | exact fun h => h.elim f9.out (fun e => absurd e (by decide))
    · rintro D a wg ⟨u16, u17, u18, u19, u20, u21, u22, u23, u24, u2, rfl, hbr, f0, f1, f2, f3, f4, f5, f6, f7, f8, f9⟩ hnd hd
      obtain rfl := f2.out (hd 2 (by decide))
      obtain rfl := f7.out (hd 7 (by decide))
      clear hd
      go_wp2_with (go_at_call 103; refine (IH.out _).mono ?_; rintro e w1 ⟨rfl, hnew⟩)
      refine ⟨_, _, _, _, _, _, _, _, _, _, rfl, hbr, ?_, ?_, ?_, ?_, ?_, ?_, ?_, ?_, ?_, ?_⟩
      · first | exact f0 | exact fun h => h.elim f0.out (fun e => absurd e (by decide))
      · first | exact f1 | exact fun h => h.elim f1.out (fun e => absurd e (by decide))
      · first | exact fun _ => rfl | exact rfl
      · first | exact f3 | exact fun h => h.elim f3.out (fun e => absurd e (by decide))
      · first | exact f4 | exact fun h => h.elim f4.out (fun e => absurd e (by decide))
      · first | exact f5 | exact fun h => h.elim f5.out (fun e => absurd e (by decide))
      · first | exact f6 | exact fun h => h.elim f6.out (fun e => absurd e (by decide))
      · first | exact fun _ => rfl | exact rfl
      · first | exact rfl | exact fun _ => rfl
      · first | exact f9 | exact fun h => h.elim f9.out (fun e => absurd e (by decide))
    · rintro D a wg ⟨u16, u17, u18, u19, u20, u21, u22, u23, u24, u2, rfl, hbr, f0, f1, f2, f3, f4, f5, f6, f7, f8, f9⟩ hnd hd
      obtain rfl := f8.out (hd 8 (by decide))
      clear hd
      go_wp2_with (go_at_call 103; refine (IH.out _).mono ?_; rintro e w1 ⟨rfl, hnew⟩)
      refine ⟨_, _, _, _, _, _, _, _, _, _, rfl, hbr, ?_, ?_, ?_, ?_, ?_, ?_, ?_, ?_, ?_, ?_⟩
      · first | exact f0 | exact fun h => h.elim f0.out (fun e => absurd e (by decide))
      · first | exact f1 | exact fun h => h.elim f1.out (fun e => absurd e (by decide))
      · first | exact f2 | exact fun h => h.elim f2.out (fun e => absurd e (by decide))
      · first | exact f3 | exact fun h => h.elim f3.out (fun e => absurd e (by decide))
      · first | exact f4 | exact fun h => h.elim f4.out (fun e => absurd e (by decide))
      · first | exact f5 | exact fun h => h.elim f5.out (fun e => absurd e (by decide))
      · first | exact f6 | exact fun h => h.elim f6.out (fun e => absurd e (by decide))
      · first | exact f7 | exact fun h => h.elim f7.out (fun e => absurd e (by decide))
      · first | exact fun _ => rfl | exact rfl
      · first | exact rfl | exact fun _ => rfl
  simp only [putAll, List.setIfInBounds_toArray, List.set_cons_succ, List.set_cons_zero]
  rintro D a wg hall ⟨u16, u17, u18, u19, u20, u21, u22, u23, u24, u2, rfl, hbr, f0, f1, f2, f3, f4, f5, f6, f7, f8, f9⟩
  obtain rfl := f0.out (hall 0 (by decide))
  obtain rfl := f1.out (hall 1 (by decide))
  obtain rfl := f2.out (hall 2 (by decide))
  obtain rfl := f3.out (hall 3 (by decide))
  obtain rfl := f4.out (hall 4 (by decide))
  obtain rfl := f5.out (hall 5 (by decide))
  obtain ⟨b, rfl, hlt, hcell⟩ := f6.out (hall 6 (by decide))
  obtain rfl := f7.out (hall 7 (by decide))
  obtain rfl := f8.out (hall 8 (by decide))
  obtain rfl := f9.out (hall 9 (by decide))
  clear hall f0 f1 f2 f3 f4 f5 f6 f7 f8 f9
  go_wp2
  go_ret
  have k48 : (48 + n % 10).toNat = 48 + n.natAbs % 10 := by omega
  refine ⟨ret_str ?_, Below.trans (Below.drew (Below.refl _ _)) hbr⟩
  rw [HF.out, ← k48]
  apply ByteArray.ext; simp

set_option maxHeartbeats 400000 in
set_option maxRecDepth 100000 in
theorem rdigits_step' (n : Int) (h0 : -9223372036854775808 ≤ n) (h1 : n ≤ 9223372036854775807) (hb : n < -9) (w : World)
   (ih : ∀ w, Calls Tryz.prog 103 #[.int .i64 (n.tdiv 10)] w fun e w' => e = .returned (.string ⟨(Lib.itoa (n.tdiv 10)).toArray⟩) ∧ Below w.heap.size w w') :
    Calls Tryz.prog 103 #[.int .i64 n] w fun e w' => e = .returned (.string ⟨(Lib.itoa n).toArray⟩) ∧ Below w.heap.size w w' := by
  have HF := Lib.hid (Wd.itoa_big n (.inr hb))
  have eq : n.tdiv 10 = -((-n) / 10) := by
    have e : n = -(-n) := by omega
    conv => lhs; rw [e]
    rw [Int.neg_tdiv, Int.tdiv_eq_ediv_of_nonneg (by omega)]
  have em : n.tmod 10 = -((-n) % 10) := by
    have e : n = -(-n) := by omega
    conv => lhs; rw [e]
    rw [Int.neg_tmod, Int.tmod_eq_emod_of_nonneg (by omega)]
  have hlen := Lib.itoa_length_le (-((-n) / 10)) (by omega) (by omega)
  have hl8 : ((Lib.itoa (-((-n) / 10))).length : Int) ≤ 8388608 := by omega
  clear hlen
  rw [eq] at ih HF
  have IH := Lib.hid ih
  clear ih
  have W1 : wrap64 (n.tdiv 10) = -((-n) / 10) := by rw [eq]; unfold wrap64; omega
  have q0 : 0 ≤ (-n) / 10 := by omega
  have k0 : 0 ≤ (-n) % 10 := by omega
  have k1 : (-n) % 10 < 10 := by omega
  by_cases kc : 0 < -n % 10
  · have kd : decide (0 < -n % 10) = true := by simpa using kc
    go_enter Tryz.func103, Tryz.ntmps103
    go_wp2
    refine wp_region_inv (fun a0 w0 D a w => ∃ u16 u17 u18 u19 u20 u21 u22 u23 u24 u2 : Value, a = putAll a0 [(16, u16), (17, u17), (18, u18), (19, u19), (20, u20), (21, u21), (22, u22), (23, u23), (24, u24), (2, u2)] ∧ Below w0.heap.size w0 w ∧ Hid (D 0 → u16 = .int .i64 n) ∧ Hid (D 1 → u17 = .int .i64 (-(-n / 10))) ∧ Hid (D 2 → u18 = .string ⟨(Lib.itoa (-(-n / 10))).toArray⟩) ∧ Hid (D 3 → u19 = .int .i64 ((-n % 10))) ∧ Hid (D 4 → u20 = .int .i64 (48 + (-n % 10))) ∧ Hid (D 5 → u21 = .int .u8 (48 + (-n % 10))) ∧ Hid (D 6 → ∃ b, u22 = .slice (some ⟨b, 0, none⟩) 1 1 ∧ b < w.heap.size ∧ w.cell? ⟨b, 0, none⟩ = some (.int .u8 (48 + (-n % 10)))) ∧ Hid (D 7 → u23 = .string ⟨#[UInt8.ofNat (48 + (-n % 10)).toNat]⟩) ∧ Hid (D 8 → u24 = .string (⟨(Lib.itoa (-(-n / 10))).toArray⟩ ++ ⟨#[UInt8.ofNat (48 + (-n % 10)).toNat]⟩)) ∧ Hid (D 9 → u2 = .string (⟨(Lib.itoa (-(-n / 10))).toArray⟩ ++ ⟨#[UInt8.ofNat (48 + (-n % 10)).toNat]⟩))) rfl ?_ ?_ ?_
    ·
      simp only [putAll, List.setIfInBounds_toArray, List.set_cons_succ, List.set_cons_zero]
      exact ⟨_, _, _, _, _, _, _, _, _, _, rfl, Below.refl _ _, fun h => h.elim, fun h => h.elim, fun h => h.elim, fun h => h.elim, fun h => h.elim, fun h => h.elim, fun h => h.elim, fun h => h.elim, fun h => h.elim, fun h => h.elim⟩
    ·
      simp only [putAll, List.setIfInBounds_toArray, List.set_cons_succ, List.set_cons_zero]
      refine StepsAll.cons ?_ (StepsAll.cons ?_ (StepsAll.cons ?_ (StepsAll.cons ?_ (StepsAll.cons ?_ (StepsAll.cons ?_ (StepsAll.cons ?_ (StepsAll.cons ?_ (StepsAll.cons ?_ (StepsAll.cons ?_ StepsAll.nil)))))))))
      · rintro D a wg ⟨u16, u17, u18, u19, u20, u21, u22, u23, u24, u2, rfl, hbr, f0, f1, f2, f3, f4, f5, f6, f7, f8, f9⟩ hnd hd
        clear hd
        go_wp2_with (go_at_call 103; refine (IH.out _).mono ?_; rintro e w1 ⟨rfl, hnew⟩)
        refine ⟨_, _, _, _, _, _, _, _, _, _, rfl, hbr, ?_, ?_, ?_, ?_, ?_, ?_, ?_, ?_, ?_, ?_⟩
        · first | exact rfl | exact fun _ => rfl
        · first | exact f1 | exact fun h => h.elim f1.out (fun e => absurd e (by decide))
        · first | exact f2 | exact fun h => h.elim f2.out (fun e => absurd e (by decide))
        · first | exact f3 | exact fun h => h.elim f3.out (fun e => absurd e (by decide))
        · first | exact f4 | exact fun h => h.elim f4.out (fun e => absurd e (by decide))
        · first | exact f5 | exact fun h => h.elim f5.out (fun e => absurd e (by decide))
        · first | exact f6 | exact fun h => h.elim f6.out (fun e => absurd e (by decide))
        · first | exact f7 | exact fun h => h.elim f7.out (fun e => absurd e (by decide))
        · first | exact f8 | exact fun h => h.elim f8.out (fun e => absurd e (by decide))
        · first | exact f9 | exact fun h => h.elim f9.out (fun e => absurd e (by decide))
      · rintro D a wg ⟨u16, u17, u18, u19, u20, u21, u22, u23, u24, u2, rfl, hbr, f0, f1, f2, f3, f4, f5, f6, f7, f8, f9⟩ hnd hd
        obtain rfl := f0.out (hd 0 (by decide))
        clear hd
        go_wp2_with (go_at_call 103; refine (IH.out _).mono ?_; rintro e w1 ⟨rfl, hnew⟩)
        refine ⟨_, _, _, _, _, _, _, _, _, _, rfl, hbr, ?_, ?_, ?_, ?_, ?_, ?_, ?_, ?_, ?_, ?_⟩
        · first | exact fun _ => rfl | exact rfl
        · first | exact rfl | exact fun _ => rfl
        · first | exact f2 | exact fun h => h.elim f2.out (fun e => absurd e (by decide))
        · first | exact f3 | exact fun h => h.elim f3.out (fun e => absurd e (by decide))
        · first | exact f4 | exact fun h => h.elim f4.out (fun e => absurd e (by decide))
        · first | exact f5 | exact fun h => h.elim f5.out (fun e => absurd e (by decide))
        · first | exact f6 | exact fun h => h.elim f6.out (fun e => absurd e (by decide))
        · first | exact f7 | exact fun h => h.elim f7.out (fun e => absurd e (by decide))
        · first | exact f8 | exact fun h => h.elim f8.out (fun e => absurd e (by decide))
        · first | exact f9 | exact fun h => h.elim f9.out (fun e => absurd e (by decide))
      · rintro D a wg ⟨u16, u17, u18, u19, u20, u21, u22, u23, u24, u2, rfl, hbr, f0, f1, f2, f3, f4, f5, f6, f7, f8, f9⟩ hnd hd
        obtain rfl := f1.out (hd 1 (by decide))
        clear hd
        go_wp2_with (go_at_call 103; refine (IH.out _).mono ?_; rintro e w1 ⟨rfl, hnew⟩)
        refine ⟨_, _, _, _, _, _, _, _, _, _, rfl, hbr.trans (hnew.mono hbr.size), ?_, ?_, ?_, ?_, ?_, ?_, ?_, ?_, ?_, ?_⟩
        · first | exact f0 | exact fun h => h.elim f0.out (fun e => absurd e (by decide))
        · first | exact fun _ => rfl | exact rfl
        · first | exact rfl | exact fun _ => rfl
        · first | exact f3 | exact fun h => h.elim f3.out (fun e => absurd e (by decide))
        · first | exact f4 | exact fun h => h.elim f4.out (fun e => absurd e (by decide))
        · first | exact f5 | exact fun h => h.elim f5.out (fun e => absurd e (by decide))
        · first | exact fun h => (let ⟨b, e1, e2, e3⟩ := (f6.out h); ⟨b, e1, Nat.lt_of_lt_of_le e2 hnew.size, (hnew.cell (p := ⟨b, 0, none⟩) e2).trans e3⟩) | exact fun h => h.elim (fun h1 => (let ⟨b, e1, e2, e3⟩ := (f6.out h1); ⟨b, e1, Nat.lt_of_lt_of_le e2 hnew.size, (hnew.cell (p := ⟨b, 0, none⟩) e2).trans e3⟩)) (fun e => absurd e (by decide))
        · first | exact f7 | exact fun h => h.elim f7.out (fun e => absurd e (by decide))
        · first | exact f8 | exact fun h => h.elim f8.out (fun e => absurd e (by decide))
        · first | exact f9 | exact fun h => h.elim f9.out (fun e => absurd e (by decide))
      · rintro D a wg ⟨u16, u17, u18, u19, u20, u21, u22, u23, u24, u2, rfl, hbr, f0, f1, f2, f3, f4, f5, f6, f7, f8, f9⟩ hnd hd
        clear hd
        go_wp2_with (go_at_call 103; refine (IH.out _).mono ?_; rintro e w1 ⟨rfl, hnew⟩)
        refine ⟨_, _, _, _, _, _, _, _, _, _, rfl, hbr, ?_, ?_, ?_, ?_, ?_, ?_, ?_, ?_, ?_, ?_⟩
        · first | exact f0 | exact fun h => h.elim f0.out (fun e => absurd e (by decide))
        · first | exact f1 | exact fun h => h.elim f1.out (fun e => absurd e (by decide))
        · first | exact f2 | exact fun h => h.elim f2.out (fun e => absurd e (by decide))
        · first | exact rfl | exact fun _ => rfl
        · first | exact f4 | exact fun h => h.elim f4.out (fun e => absurd e (by decide))
        · first | exact f5 | exact fun h => h.elim f5.out (fun e => absurd e (by decide))
        · first | exact f6 | exact fun h => h.elim f6.out (fun e => absurd e (by decide))
        · first | exact f7 | exact fun h => h.elim f7.out (fun e => absurd e (by decide))
        · first | exact f8 | exact fun h => h.elim f8.out (fun e => absurd e (by decide))
        · first | exact f9 | exact fun h => h.elim f9.out (fun e => absurd e (by decide))
      · rintro D a wg ⟨u16, u17, u18, u19, u20, u21, u22, u23, u24, u2, rfl, hbr, f0, f1, f2, f3, f4, f5, f6, f7, f8, f9⟩ hnd hd
        obtain rfl := f3.out (hd 3 (by decide))
        clear hd
        go_wp2_with (go_at_call 103; refine (IH.out _).mono ?_; rintro e w1 ⟨rfl, hnew⟩)
        refine ⟨_, _, _, _, _, _, _, _, _, _, rfl, hbr, ?_, ?_, ?_, ?_, ?_, ?_, ?_, ?_, ?_, ?_⟩
        · first | exact f0 | exact fun h => h.elim f0.out (fun e => absurd e (by decide))
        · first | exact f1 | exact fun h => h.elim f1.out (fun e => absurd e (by decide))
        · first | exact f2 | exact fun h => h.elim f2.out (fun e => absurd e (by decide))
        · first | exact fun _ => rfl | exact rfl
        · first | exact rfl | exact fun _ => rfl
        · first | exact f5 | exact fun h => h.elim f5.out (fun e => absurd e (by decide))
        · first | exact f6 | exact fun h => h.elim f6.out (fun e => absurd e (by decide))
        · first | exact f7 | exact fun h => h.elim f7.out (fun e => absurd e (by decide))
        · first | exact f8 | exact fun h => h.elim f8.out (fun e => absurd e (by decide))
        · first | exact f9 | exact fun h => h.elim f9.out (fun e => absurd e (by decide))
      · rintro D a wg ⟨u16, u17, u18, u19, u20, u21, u22, u23, u24, u2, rfl, hbr, f0, f1, f2, f3, f4, f5, f6, f7, f8, f9⟩ hnd hd
        obtain rfl := f4.out (hd 4 (by decide))
        clear hd
        go_wp2_with (go_at_call 103; refine (IH.out _).mono ?_; rintro e w1 ⟨rfl, hnew⟩)
        refine ⟨_, _, _, _, _, _, _, _, _, _, rfl, hbr, ?_, ?_, ?_, ?_, ?_, ?_, ?_, ?_, ?_, ?_⟩
        · first | exact f0 | exact fun h => h.elim f0.out (fun e => absurd e (by decide))
        · first | exact f1 | exact fun h => h.elim f1.out (fun e => absurd e (by decide))
        · first | exact f2 | exact fun h => h.elim f2.out (fun e => absurd e (by decide))
        · first | exact f3 | exact fun h => h.elim f3.out (fun e => absurd e (by decide))
        · first | exact fun _ => rfl | exact rfl
        · first | exact rfl | exact fun _ => rfl
        · first | exact f6 | exact fun h => h.elim f6.out (fun e => absurd e (by decide))
        · first | exact f7 | exact fun h => h.elim f7.out (fun e => absurd e (by decide))
        · first | exact f8 | exact fun h => h.elim f8.out (fun e => absurd e (by decide))
        · first | exact f9 | exact fun h => h.elim f9.out (fun e => absurd e (by decide))
      · rintro D a wg ⟨u16, u17, u18, u19, u20, u21, u22, u23, u24, u2, rfl, hbr, f0, f1, f2, f3, f4, f5, f6, f7, f8, f9⟩ hnd hd
        obtain rfl := f5.out (hd 5 (by decide))
        clear hd
        go_wp2_with (go_at_call 103; refine (IH.out _).mono ?_; rintro e w1 ⟨rfl, hnew⟩)
        refine ⟨_, _, _, _, _, _, _, _, _, _, rfl, hbr.alloc hbr.size _, ?_, ?_, ?_, ?_, ?_, ?_, ?_, ?_, ?_, ?_⟩
        · first | exact f0 | exact fun h => h.elim f0.out (fun e => absurd e (by decide))
        · first | exact f1 | exact fun h => h.elim f1.out (fun e => absurd e (by decide))
        · first | exact f2 | exact fun h => h.elim f2.out (fun e => absurd e (by decide))
        · first | exact f3 | exact fun h => h.elim f3.out (fun e => absurd e (by decide))
        · first | exact f4 | exact fun h => h.elim f4.out (fun e => absurd e (by decide))
        · first | exact fun _ => rfl | exact rfl
        · first | exact ⟨wg.heap.size, rfl, by simp, by rw [World.cell?_alloc_at _ _ _ _ rfl]; rfl⟩ | exact fun _ => ⟨wg.heap.size, rfl, by simp, by rw [World.cell?_alloc_at _ _ _ _ rfl]; rfl⟩
        · first | exact f7 | exact fun h => h.elim f7.out (fun e => absurd e (by decide))
        · first | exact f8 | exact fun h => h.elim f8.out (fun e => absurd e (by decide))
        · first | exact f9 | exact fun h => h.elim f9.out (fun e => absurd e (by decide))
      · rintro D a wg ⟨u16, u17, u18, u19, u20, u21, u22, u23, u24, u2, rfl, hbr, f0, f1, f2, f3, f4, f5, f6, f7, f8, f9⟩ hnd hd
        obtain ⟨b, rfl, hlt, hcell⟩ := f6.out (hd 6 (by decide))
        clear hd
        have s1 := str1c wg b _ (by omega) (by omega) hcell
        go_wp2_with (go_at_call 103; refine (IH.out _).mono ?_; rintro e w1 ⟨rfl, hnew⟩)
        refine ⟨_, _, _, _, _, _, _, _, _, _, rfl, hbr, ?_, ?_, ?_, ?_, ?_, ?_, ?_, ?_, ?_, ?_⟩
        · first | exact f0 | exact fun h => h.elim f0.out (fun e => absurd e (by decide))
        · first | exact f1 | exact fun h => h.elim f1.out (fun e => absurd e (by decide))
        · first | exact f2 | exact fun h => h.elim f2.out (fun e => absurd e (by decide))
        · first | exact f3 | exact fun h => h.elim f3.out (fun e => absurd e (by decide))
        · first | exact f4 | exact fun h => h.elim f4.out (fun e => absurd e (by decide))
        · first | exact f5 | exact fun h => h.elim f5.out (fun e => absurd e (by decide))
        · exact fun _ => ⟨b, rfl, hlt, hcell⟩
        · first | exact rfl | exact fun _ => rfl
        · first | exact f8 | exact fun h => h.elim f8.out (fun e => absurd e (by decide))
        · first | exact f9 | exact fun h => h.elim f9.out (fun e => absurd e (by decide))
      · rintro D a wg ⟨u16, u17, u18, u19, u20, u21, u22, u23, u24, u2, rfl, hbr, f0, f1, f2, f3, f4, f5, f6, f7, f8, f9⟩ hnd hd
        obtain rfl := f2.out (hd 2 (by decide))
        obtain rfl := f7.out (hd 7 (by decide))
        clear hd
        go_wp2_with (go_at_call 103; refine (IH.out _).mono ?_; rintro e w1 ⟨rfl, hnew⟩)
        refine ⟨_, _, _, _, _, _, _, _, _, _, rfl, hbr, ?_, ?_, ?_, ?_, ?_, ?_, ?_, ?_, ?_, ?_⟩
        · first | exact f0 | exact fun h => h.elim f0.out (fun e => absurd e (by decide))
        · first | exact f1 | exact fun h => h.elim f1.out (fun e => absurd e (by decide))
        · first | exact fun _ => rfl | exact rfl
        · first | exact f3 | exact fun h => h.elim f3.out (fun e => absurd e (by decide))
        · first | exact f4 | exact fun h => h.elim f4.out (fun e => absurd e (by decide))
        · first | exact f5 | exact fun h => h.elim f5.out (fun e => absurd e (by decide))
        · first | exact f6 | exact fun h => h.elim f6.out (fun e => absurd e (by decide))
        · first | exact fun _ => rfl | exact rfl
        · first | exact rfl | exact fun _ => rfl
        · first | exact f9 | exact fun h => h.elim f9.out (fun e => absurd e (by decide))
      · rintro D a wg ⟨u16, u17, u18, u19, u20, u21, u22, u23, u24, u2, rfl, hbr, f0, f1, f2, f3, f4, f5, f6, f7, f8, f9⟩ hnd hd
        obtain rfl := f8.out (hd 8 (by decide))
        clear hd
        go_wp2_with (go_at_call 103; refine (IH.out _).mono ?_; rintro e w1 ⟨rfl, hnew⟩)
        refine ⟨_, _, _, _, _, _, _, _, _, _, rfl, hbr, ?_, ?_, ?_, ?_, ?_, ?_, ?_, ?_, ?_, ?_⟩
        · first | exact f0 | exact fun h => h.elim f0.out (fun e => absurd e (by decide))
        · first | exact f1 | exact fun h => h.elim f1.out (fun e => absurd e (by decide))
        · first | exact f2 | exact fun h => h.elim f2.out (fun e => absurd e (by decide))
        · first | exact f3 | exact fun h => h.elim f3.out (fun e => absurd e (by decide))
        · first | exact f4 | exact fun h => h.elim f4.out (fun e => absurd e (by decide))
        · first | exact f5 | exact fun h => h.elim f5.out (fun e => absurd e (by decide))
        · first | exact f6 | exact fun h => h.elim f6.out (fun e => absurd e (by decide))
        · first | exact f7 | exact fun h => h.elim f7.out (fun e => absurd e (by decide))
        · first | exact fun _ => rfl | exact rfl
        · first | exact rfl | exact fun _ => rfl
    simp only [putAll, List.setIfInBounds_toArray, List.set_cons_succ, List.set_cons_zero]
    rintro D a wg hall ⟨u16, u17, u18, u19, u20, u21, u22, u23, u24, u2, rfl, hbr, f0, f1, f2, f3, f4, f5, f6, f7, f8, f9⟩
    obtain rfl := f0.out (hall 0 (by decide))
    obtain rfl := f1.out (hall 1 (by decide))
    obtain rfl := f2.out (hall 2 (by decide))
    obtain rfl := f3.out (hall 3 (by decide))
    obtain rfl := f4.out (hall 4 (by decide))
    obtain rfl := f5.out (hall 5 (by decide))
    obtain ⟨b, rfl, hlt, hcell⟩ := f6.out (hall 6 (by decide))
    obtain rfl := f7.out (hall 7 (by decide))
    obtain rfl := f8.out (hall 8 (by decide))
    obtain rfl := f9.out (hall 9 (by decide))
    clear hall f0 f1 f2 f3 f4 f5 f6 f7 f8 f9
    go_wp2
    go_ret
    have k48 : (48 + (-n % 10)).toNat = 48 + n.natAbs % 10 := by omega
    refine ⟨ret_str ?_, Below.trans (Below.drew (Below.refl _ _)) hbr⟩
    rw [HF.out, ← k48]
    apply ByteArray.ext; simp
  · have kd : decide (0 < -n % 10) = false := by simpa using kc
    have k2 : 0 ≤ -(-n % 10) := by omega
    go_enter Tryz.func103, Tryz.ntmps103
    go_wp2
    refine wp_region_inv (fun a0 w0 D a w => ∃ u16 u17 u18 u19 u20 u21 u22 u23 u24 u2 : Value, a = putAll a0 [(16, u16), (17, u17), (18, u18), (19, u19), (20, u20), (21, u21), (22, u22), (23, u23), (24, u24), (2, u2)] ∧ Below w0.heap.size w0 w ∧ Hid (D 0 → u16 = .int .i64 n) ∧ Hid (D 1 → u17 = .int .i64 (-(-n / 10))) ∧ Hid (D 2 → u18 = .string ⟨(Lib.itoa (-(-n / 10))).toArray⟩) ∧ Hid (D 3 → u19 = .int .i64 (-(-n % 10))) ∧ Hid (D 4 → u20 = .int .i64 (48 + -(-n % 10))) ∧ Hid (D 5 → u21 = .int .u8 (48 + -(-n % 10))) ∧ Hid (D 6 → ∃ b, u22 = .slice (some ⟨b, 0, none⟩) 1 1 ∧ b < w.heap.size ∧ w.cell? ⟨b, 0, none⟩ = some (.int .u8 (48 + -(-n % 10)))) ∧ Hid (D 7 → u23 = .string ⟨#[UInt8.ofNat (48 + -(-n % 10)).toNat]⟩) ∧ Hid (D 8 → u24 = .string (⟨(Lib.itoa (-(-n / 10))).toArray⟩ ++ ⟨#[UInt8.ofNat (48 + -(-n % 10)).toNat]⟩)) ∧ Hid (D 9 → u2 = .string (⟨(Lib.itoa (-(-n / 10))).toArray⟩ ++ ⟨#[UInt8.ofNat (48 + -(-n % 10)).toNat]⟩))) rfl ?_ ?_ ?_
    ·
      simp only [putAll, List.setIfInBounds_toArray, List.set_cons_succ, List.set_cons_zero]
      exact ⟨_, _, _, _, _, _, _, _, _, _, rfl, Below.refl _ _, fun h => h.elim, fun h => h.elim, fun h => h.elim, fun h => h.elim, fun h => h.elim, fun h => h.elim, fun h => h.elim, fun h => h.elim, fun h => h.elim, fun h => h.elim⟩
    ·
      simp only [putAll, List.setIfInBounds_toArray, List.set_cons_succ, List.set_cons_zero]
      refine StepsAll.cons ?_ (StepsAll.cons ?_ (StepsAll.cons ?_ (StepsAll.cons ?_ (StepsAll.cons ?_ (StepsAll.cons ?_ (StepsAll.cons ?_ (StepsAll.cons ?_ (StepsAll.cons ?_ (StepsAll.cons ?_ StepsAll.nil)))))))))
      · rintro D a wg ⟨u16, u17, u18, u19, u20, u21, u22, u23, u24, u2, rfl, hbr, f0, f1, f2, f3, f4, f5, f6, f7, f8, f9⟩ hnd hd
        clear hd
        go_wp2_with (go_at_call 103; refine (IH.out _).mono ?_; rintro e w1 ⟨rfl, hnew⟩)
        refine ⟨_, _, _, _, _, _, _, _, _, _, rfl, hbr, ?_, ?_, ?_, ?_, ?_, ?_, ?_, ?_, ?_, ?_⟩
        · first | exact rfl | exact fun _ => rfl
        · first | exact f1 | exact fun h => h.elim f1.out (fun e => absurd e (by decide))
        · first | exact f2 | exact fun h => h.elim f2.out (fun e => absurd e (by decide))
        · first | exact f3 | exact fun h => h.elim f3.out (fun e => absurd e (by decide))
        · first | exact f4 | exact fun h => h.elim f4.out (fun e => absurd e (by decide))
        · first | exact f5 | exact fun h => h.elim f5.out (fun e => absurd e (by decide))
        · first | exact f6 | exact fun h => h.elim f6.out (fun e => absurd e (by decide))
        · first | exact f7 | exact fun h => h.elim f7.out (fun e => absurd e (by decide))
        · first | exact f8 | exact fun h => h.elim f8.out (fun e => absurd e (by decide))
        · first | exact f9 | exact fun h => h.elim f9.out (fun e => absurd e (by decide))
      · rintro D a wg ⟨u16, u17, u18, u19, u20, u21, u22, u23, u24, u2, rfl, hbr, f0, f1, f2, f3, f4, f5, f6, f7, f8, f9⟩ hnd hd
        obtain rfl := f0.out (hd 0 (by decide))
        clear hd
        go_wp2_with (go_at_call 103; refine (IH.out _).mono ?_; rintro e w1 ⟨rfl, hnew⟩)
        refine ⟨_, _, _, _, _, _, _, _, _, _, rfl, hbr, ?_, ?_, ?_, ?_, ?_, ?_, ?_, ?_, ?_, ?_⟩
        · first | exact fun _ => rfl | exact rfl
        · first | exact rfl | exact fun _ => rfl
        · first | exact f2 | exact fun h => h.elim f2.out (fun e => absurd e (by decide))
        · first | exact f3 | exact fun h => h.elim f3.out (fun e => absurd e (by decide))
        · first | exact f4 | exact fun h => h.elim f4.out (fun e => absurd e (by decide))
        · first | exact f5 | exact fun h => h.elim f5.out (fun e => absurd e (by decide))
        · first | exact f6 | exact fun h => h.elim f6.out (fun e => absurd e (by decide))
        · first | exact f7 | exact fun h => h.elim f7.out (fun e => absurd e (by decide))
        · first | exact f8 | exact fun h => h.elim f8.out (fun e => absurd e (by decide))
        · first | exact f9 | exact fun h => h.elim f9.out (fun e => absurd e (by decide))
      · rintro D a wg ⟨u16, u17, u18, u19, u20, u21, u22, u23, u24, u2, rfl, hbr, f0, f1, f2, f3, f4, f5, f6, f7, f8, f9⟩ hnd hd
        obtain rfl := f1.out (hd 1 (by decide))
        clear hd
        go_wp2_with (go_at_call 103; refine (IH.out _).mono ?_; rintro e w1 ⟨rfl, hnew⟩)
        refine ⟨_, _, _, _, _, _, _, _, _, _, rfl, hbr.trans (hnew.mono hbr.size), ?_, ?_, ?_, ?_, ?_, ?_, ?_, ?_, ?_, ?_⟩
        · first | exact f0 | exact fun h => h.elim f0.out (fun e => absurd e (by decide))
        · first | exact fun _ => rfl | exact rfl
        · first | exact rfl | exact fun _ => rfl
        · first | exact f3 | exact fun h => h.elim f3.out (fun e => absurd e (by decide))
        · first | exact f4 | exact fun h => h.elim f4.out (fun e => absurd e (by decide))
        · first | exact f5 | exact fun h => h.elim f5.out (fun e => absurd e (by decide))
        · first | exact fun h => (let ⟨b, e1, e2, e3⟩ := (f6.out h); ⟨b, e1, Nat.lt_of_lt_of_le e2 hnew.size, (hnew.cell (p := ⟨b, 0, none⟩) e2).trans e3⟩) | exact fun h => h.elim (fun h1 => (let ⟨b, e1, e2, e3⟩ := (f6.out h1); ⟨b, e1, Nat.lt_of_lt_of_le e2 hnew.size, (hnew.cell (p := ⟨b, 0, none⟩) e2).trans e3⟩)) (fun e => absurd e (by decide))
        · first | exact f7 | exact fun h => h.elim f7.out (fun e => absurd e (by decide))
        · first | exact f8 | exact fun h => h.elim f8.out (fun e => absurd e (by decide))
        · first | exact f9 | exact fun h => h.elim f9.out (fun e => absurd e (by decide))
      · rintro D a wg ⟨u16, u17, u18, u19, u20, u21, u22, u23, u24, u2, rfl, hbr, f0, f1, f2, f3, f4, f5, f6, f7, f8, f9⟩ hnd hd
        clear hd
        go_wp2_with (go_at_call 103; refine (IH.out _).mono ?_; rintro e w1 ⟨rfl, hnew⟩)
        refine ⟨_, _, _, _, _, _, _, _, _, _, rfl, hbr, ?_, ?_, ?_, ?_, ?_, ?_, ?_, ?_, ?_, ?_⟩
        · first | exact f0 | exact fun h => h.elim f0.out (fun e => absurd e (by decide))
        · first | exact f1 | exact fun h => h.elim f1.out (fun e => absurd e (by decide))
        · first | exact f2 | exact fun h => h.elim f2.out (fun e => absurd e (by decide))
        · first | exact rfl | exact fun _ => rfl
        · first | exact f4 | exact fun h => h.elim f4.out (fun e => absurd e (by decide))
        · first | exact f5 | exact fun h => h.elim f5.out (fun e => absurd e (by decide))
        · first | exact f6 | exact fun h => h.elim f6.out (fun e => absurd e (by decide))
        · first | exact f7 | exact fun h => h.elim f7.out (fun e => absurd e (by decide))
        · first | exact f8 | exact fun h => h.elim f8.out (fun e => absurd e (by decide))
        · first | exact f9 | exact fun h => h.elim f9.out (fun e => absurd e (by decide))
      · rintro D a wg ⟨u16, u17, u18, u19, u20, u21, u22, u23, u24, u2, rfl, hbr, f0, f1, f2, f3, f4, f5, f6, f7, f8, f9⟩ hnd hd
        obtain rfl := f3.out (hd 3 (by decide))
        clear hd
        go_wp2_with (go_at_call 103; refine (IH.out _).mono ?_; rintro e w1 ⟨rfl, hnew⟩)
        refine ⟨_, _, _, _, _, _, _, _, _, _, rfl, hbr, ?_, ?_, ?_, ?_, ?_, ?_, ?_, ?_, ?_, ?_⟩
        · first | exact f0 | exact fun h => h.elim f0.out (fun e => absurd e (by decide))
        · first | exact f1 | exact fun h => h.elim f1.out (fun e => absurd e (by decide))
        · first | exact f2 | exact fun h => h.elim f2.out (fun e => absurd e (by decide))
        · first | exact fun _ => rfl | exact rfl
        · first | exact rfl | exact fun _ => rfl
        · first | exact f5 | exact fun h => h.elim f5.out (fun e => absurd e (by decide))
        · first | exact f6 | exact fun h => h.elim f6.out (fun e => absurd e (by decide))
        · first | exact f7 | exact fun h => h.elim f7.out (fun e => absurd e (by decide))
        · first | exact f8 | exact fun h => h.elim f8.out (fun e => absurd e (by decide))
        · first | exact f9 | exact fun h => h.elim f9.out (fun e => absurd e (by decide))
      · rintro D a wg ⟨u16, u17, u18, u19, u20, u21, u22, u23, u24, u2, rfl, hbr, f0, f1, f2, f3, f4, f5, f6, f7, f8, f9⟩ hnd hd
        obtain rfl := f4.out (hd 4 (by decide))
        clear hd
        go_wp2_with (go_at_call 103; refine (IH.out _).mono ?_; rintro e w1 ⟨rfl, hnew⟩)
        refine ⟨_, _, _, _, _, _, _, _, _, _, rfl, hbr, ?_, ?_, ?_, ?_, ?_, ?_, ?_, ?_, ?_, ?_⟩
        · first | exact f0 | exact fun h => h.elim f0.out (fun e => absurd e (by decide))
        · first | exact f1 | exact fun h => h.elim f1.out (fun e => absurd e (by decide))
        · first | exact f2 | exact fun h => h.elim f2.out (fun e => absurd e (by decide))
        · first | exact f3 | exact fun h => h.elim f3.out (fun e => absurd e (by decide))
        · first | exact fun _ => rfl | exact rfl
        · first | exact rfl | exact fun _ => rfl
        · first | exact f6 | exact fun h => h.elim f6.out (fun e => absurd e (by decide))
        · first | exact f7 | exact fun h => h.elim f7.out (fun e => absurd e (by decide))
        · first | exact f8 | exact fun h => h.elim f8.out (fun e => absurd e (by decide))
        · first | exact f9 | exact fun h => h.elim f9.out (fun e => absurd e (by decide))
      · rintro D a wg ⟨u16, u17, u18, u19, u20, u21, u22, u23, u24, u2, rfl, hbr, f0, f1, f2, f3, f4, f5, f6, f7, f8, f9⟩ hnd hd
        obtain rfl := f5.out (hd 5 (by decide))
        clear hd
        go_wp2_with (go_at_call 103; refine (IH.out _).mono ?_; rintro e w1 ⟨rfl, hnew⟩)
        refine ⟨_, _, _, _, _, _, _, _, _, _, rfl, hbr.alloc hbr.size _, ?_, ?_, ?_, ?_, ?_, ?_, ?_, ?_, ?_, ?_⟩
        · first | exact f0 | exact fun h => h.elim f0.out (fun e => absurd e (by decide))
        · first | exact f1 | exact fun h => h.elim f1.out (fun e => absurd e (by decide))
        · first | exact f2 | exact fun h => h.elim f2.out (fun e => absurd e (by decide))
        · first | exact f3 | exact fun h => h.elim f3.out (fun e => absurd e (by decide))
        · first | exact f4 | exact fun h => h.elim f4.out (fun e => absurd e (by decide))
        · first | exact fun _ => rfl | exact rfl
        · first | exact ⟨wg.heap.size, rfl, by simp, by rw [World.cell?_alloc_at _ _ _ _ rfl]; rfl⟩ | exact fun _ => ⟨wg.heap.size, rfl, by simp, by rw [World.cell?_alloc_at _ _ _ _ rfl]; rfl⟩
        · first | exact f7 | exact fun h => h.elim f7.out (fun e => absurd e (by decide))
        · first | exact f8 | exact fun h => h.elim f8.out (fun e => absurd e (by decide))
        · first | exact f9 | exact fun h => h.elim f9.out (fun e => absurd e (by decide))
      · rintro D a wg ⟨u16, u17, u18, u19, u20, u21, u22, u23, u24, u2, rfl, hbr, f0, f1, f2, f3, f4, f5, f6, f7, f8, f9⟩ hnd hd
        obtain ⟨b, rfl, hlt, hcell⟩ := f6.out (hd 6 (by decide))
        clear hd
        have s1 := str1c wg b _ (by omega) (by omega) hcell
        go_wp2_with (go_at_call 103; refine (IH.out _).mono ?_; rintro e w1 ⟨rfl, hnew⟩)
        refine ⟨_, _, _, _, _, _, _, _, _, _, rfl, hbr, ?_, ?_, ?_, ?_, ?_, ?_, ?_, ?_, ?_, ?_⟩
        · first | exact f0 | exact fun h => h.elim f0.out (fun e => absurd e (by decide))
        · first | exact f1 | exact fun h => h.elim f1.out (fun e => absurd e (by decide))
        · first | exact f2 | exact fun h => h.elim f2.out (fun e => absurd e (by decide))
        · first | exact f3 | exact fun h => h.elim f3.out (fun e => absurd e (by decide))
        · first | exact f4 | exact fun h => h.elim f4.out (fun e => absurd e (by decide))
        · first | exact f5 | exact fun h => h.elim f5.out (fun e => absurd e (by decide))
        · exact fun _ => ⟨b, rfl, hlt, hcell⟩
        · first | exact rfl | exact fun _ => rfl
        · first | exact f8 | exact fun h => h.elim f8.out (fun e => absurd e (by decide))
        · first | exact f9 | exact fun h => h.elim f9.out (fun e => absurd e (by decide))
      · rintro D a wg ⟨u16, u17, u18, u19, u20, u21, u22, u23, u24, u2, rfl, hbr, f0, f1, f2, f3, f4, f5, f6, f7, f8, f9⟩ hnd hd
        obtain rfl := f2.out (hd 2 (by decide))
        obtain rfl := f7.out (hd 7 (by decide))
        clear hd
        go_wp2_with (go_at_call 103; refine (IH.out _).mono ?_; rintro e w1 ⟨rfl, hnew⟩)
        refine ⟨_, _, _, _, _, _, _, _, _, _, rfl, hbr, ?_, ?_, ?_, ?_, ?_, ?_, ?_, ?_, ?_, ?_⟩
        · first | exact f0 | exact fun h => h.elim f0.out (fun e => absurd e (by decide))
        · first | exact f1 | exact fun h => h.elim f1.out (fun e => absurd e (by decide))
        · first | exact fun _ => rfl | exact rfl
        · first | exact f3 | exact fun h => h.elim f3.out (fun e => absurd e (by decide))
        · first | exact f4 | exact fun h => h.elim f4.out (fun e => absurd e (by decide))
        · first | exact f5 | exact fun h => h.elim f5.out (fun e => absurd e (by decide))
        · first | exact f6 | exact fun h => h.elim f6.out (fun e => absurd e (by decide))
        · first | exact fun _ => rfl | exact rfl
        · first | exact rfl | exact fun _ => rfl
        · first | exact f9 | exact fun h => h.elim f9.out (fun e => absurd e (by decide))
      · rintro D a wg ⟨u16, u17, u18, u19, u20, u21, u22, u23, u24, u2, rfl, hbr, f0, f1, f2, f3, f4, f5, f6, f7, f8, f9⟩ hnd hd
        obtain rfl := f8.out (hd 8 (by decide))
        clear hd
        go_wp2_with (go_at_call 103; refine (IH.out _).mono ?_; rintro e w1 ⟨rfl, hnew⟩)
        refine ⟨_, _, _, _, _, _, _, _, _, _, rfl, hbr, ?_, ?_, ?_, ?_, ?_, ?_, ?_, ?_, ?_, ?_⟩
        · first | exact f0 | exact fun h => h.elim f0.out (fun e => absurd e (by decide))
        · first | exact f1 | exact fun h => h.elim f1.out (fun e => absurd e (by decide))
        · first | exact f2 | exact fun h => h.elim f2.out (fun e => absurd e (by decide))
        · first | exact f3 | exact fun h => h.elim f3.out (fun e => absurd e (by decide))
        · first | exact f4 | exact fun h => h.elim f4.out (fun e => absurd e (by decide))
        · first | exact f5 | exact fun h => h.elim f5.out (fun e => absurd e (by decide))
        · first | exact f6 | exact fun h => h.elim f6.out (fun e => absurd e (by decide))
        · first | exact f7 | exact fun h => h.elim f7.out (fun e => absurd e (by decide))
        · first | exact fun _ => rfl | exact rfl
        · first | exact rfl | exact fun _ => rfl
    simp only [putAll, List.setIfInBounds_toArray, List.set_cons_succ, List.set_cons_zero]
    rintro D a wg hall ⟨u16, u17, u18, u19, u20, u21, u22, u23, u24, u2, rfl, hbr, f0, f1, f2, f3, f4, f5, f6, f7, f8, f9⟩
    obtain rfl := f0.out (hall 0 (by decide))
    obtain rfl := f1.out (hall 1 (by decide))
    obtain rfl := f2.out (hall 2 (by decide))
    obtain rfl := f3.out (hall 3 (by decide))
    obtain rfl := f4.out (hall 4 (by decide))
    obtain rfl := f5.out (hall 5 (by decide))
    obtain ⟨b, rfl, hlt, hcell⟩ := f6.out (hall 6 (by decide))
    obtain rfl := f7.out (hall 7 (by decide))
    obtain rfl := f8.out (hall 8 (by decide))
    obtain rfl := f9.out (hall 9 (by decide))
    clear hall f0 f1 f2 f3 f4 f5 f6 f7 f8 f9
    go_wp2
    go_ret
    have k48 : (48 + -(-n % 10)).toNat = 48 + n.natAbs % 10 := by omega
    refine ⟨ret_str ?_, Below.trans (Below.drew (Below.refl _ _)) hbr⟩
    rw [HF.out, ← k48]
    apply ByteArray.ext; simp

/-- The reference's Digits. -/
theorem rdigits_any : ∀ (k : Nat) (n : Int), n.natAbs ≤ k → -9223372036854775808 ≤ n → n ≤ 9223372036854775807 → ∀ w,
    Calls Tryz.prog 103 #[.int .i64 n] w fun e w' => e = .returned (.string ⟨(Lib.itoa n).toArray⟩) ∧ Below w.heap.size w w' := by
  intro k
  induction k with
  | zero =>
    intro n hk h0 h1 w
    exact rdigits_small n (by omega) (by omega) w
  | succ k ih =>
    intro n hk h0 h1 w
    have hq : (n.tdiv 10).natAbs = n.natAbs / 10 := by rw [Int.natAbs_tdiv]; rfl
    by_cases c1 : 9 < n
    · exact rdigits_step n h0 h1 c1 w (ih (n.tdiv 10) (by omega) (by omega) (by omega))
    by_cases c2 : n < -9
    · exact rdigits_step' n h0 h1 c2 w (ih (n.tdiv 10) (by omega) (by omega) (by omega))
    by_cases c3 : n < 0
    · exact rdigits_neg n c3 (by omega) w
    · exact rdigits_small n (by omega) (by omega) w
end Go.Proofs.YtgnhbccmdpkbiaaGreatDoor
