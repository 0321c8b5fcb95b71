/-
  Walks: words.follows.
-/
import Derived.Test.YtffkohdnhaebjaaGreatDoorW31
namespace Go.Proofs.YtffkohdnhaebjaaGreatDoor
open Go.RowKit Go.Shelf

theorem repeatL_eq (c : Nat) : Lib.repeatL [48] c = List.replicate c 48 := by
  induction c with
  | zero => rfl
  | succ c ih => rw [Lib.repeatL, ih, List.replicate_succ]; rfl
theorem rep0 (x : Int) (c : Nat) (hx : x = (c : Int)) (w : World) (hc : c ≤ 140737488355328) :
    Calls Tryz.prog 55 #[.string ⟨#[48]⟩, .int .i64 x] w fun e w' => e = .returned (S8 (List.replicate c 48)) ∧ Below w.heap.size w w' := by
  subst hx
  have h := Tryz.strings_Repeat ⟨#[48]⟩ c w (by omega) (by show 1 * c ≤ _; omega)
  rw [show (⟨#[48]⟩ : ByteArray).data.toList = [48] from rfl, repeatL_eq] at h
  exact h

set_option maxHeartbeats 8000000 in
set_option maxRecDepth 100000 in
theorem follows_any (s : ByteArray) (b : List UInt8) (w : World) (hT : Lib.Utf8Tabs 5 6 w) (hd : Wd.natDec s.data.toList = true) (hb : Wd.natDec b = true) (hs : s.size ≤ 8388608) (hbl : b.length ≤ 8388608) :
    Calls Tryz.prog 31 #[.string s, S8 b] w fun e w' => e = .returned (.bool (decide (Wd.natVal s.data.toList + 1 < Wd.natVal b))) ∧ Below w.heap.size w w' := by
  have HL := Lib.hid (lastIdx_any s w (by omega) hT hd)
  have HD := Lib.hid hd
  have HDB := Lib.hid hb
  clear hT hd hb
  go_enter Tryz.func31, Tryz.ntmps31
  go_wp2_with fail
  refine HL.out.mono ?_
  rintro e w1 ⟨⟨i, rfl, hi⟩, hb1⟩
  rcases hi.out with ⟨rfl, hall⟩ | ⟨m, hm, rfl, h9, hdr⟩
  · have hnx := next_all (s := s) (w := w1) (w' := w1) (Z := List.replicate s.size 48) hall rfl (Below.refl _ _)
    obtain ⟨⟨t, ht, n1, n2, n3⟩, _⟩ := hnx
    rw [← size_list] at n3
    have HX := Lib.hid ht
    have HV := Lib.hid (cmpS_lt n1 HDB.out)
    have HN2 := Lib.hid n2
    clear ht n1 n2 hall hi HL
    go_wp2_with fail
    refine (rep0 _ s.size (by omega) _ (by omega)).mono ?_
    rintro e w2 ⟨rfl, hx⟩
    have hb2 := hb1.trans (hx.mono hb1.size)
    clear hx
    have HCMP : Hid (∀ w, Calls Tryz.prog 30 #[.string ((⟨#[49]⟩ : ByteArray) ++ (⟨(List.replicate s.size (48 : UInt8)).toArray⟩ : ByteArray)), S8 b] w fun e w' => e = .returned (.int .i64 (cmpS t b)) ∧ w' = w) := fun w => by
      have e := HX.out
      injection e with e
      rw [e]
      exact compare_any t b w (by omega) (by omega)
    have hzl : (List.replicate s.size (48 : UInt8)).length ≤ 8388608 := by simp; omega
    generalize List.replicate s.size (48 : UInt8) = Z at *
    generalize cmpS t b = N at *
    clear HX
    go_wp2_with fail
    refine (HCMP.out _).mono ?_
    rintro e wz ⟨rfl, rfl⟩
    go_wp2
    go_ret
    refine ⟨ret_bool ?_, hb2⟩
    rw [Bool.eq_iff_iff, decide_eq_true_eq, decide_eq_true_eq, HV.out, HN2.out]
  · have hnx := next_at (s := s) (w := w1) (w' := w1) (m := m) (Z := List.replicate (s.size - (m + 1)) 48) hm HD.out hdr h9 rfl (Below.refl _ _)
    obtain ⟨⟨t, ht, n1, n2, n3⟩, _⟩ := hnx
    rw [← size_list] at n3
    have HX := Lib.hid ht
    have HV := Lib.hid (cmpS_lt n1 HDB.out)
    have HN2 := Lib.hid n2
    have hb0 : (s[m].toNat : Int) < 256 := by have := s[m].toNat_lt; omega
    have hb00 : (0 : Int) ≤ s[m].toNat := by omega
    have hb22 : (s[m].toNat : Int) + 1 < 256 := by
      have hd := (Wd.natDec_digits HD.out).1
      have hm2 : s[m] ∈ s.data.toList := by
        have : s.data.toList[m]'(by rw [← size_list]; exact hm) ∈ s.data.toList := List.getElem_mem _
        exact this
      have := Wd.digit_nat (List.all_eq_true.1 hd _ hm2)
      omega
    have HCMP : Hid (∀ w, Calls Tryz.prog 30 #[.string (s.extract 0 m ++ ⟨#[UInt8.ofNat (((s[m].toNat : Int) + 1)).toNat]⟩ ++ ⟨(List.replicate (s.size - (m + 1)) (48 : UInt8)).toArray⟩), S8 b] w fun e w' => e = .returned (.int .i64 (cmpS t b)) ∧ w' = w) := fun w => by
      have e := HX.out
      injection e with e
      rw [e]
      exact compare_any t b w (by omega) (by omega)
    have hzl : (List.replicate (s.size - (m + 1)) (48 : UInt8)).length ≤ 8388608 := by simp; omega
    clear ht n1 n2 hdr h9 hi HL HX
    have hrp := fun w => rep0 ((s.size : Int) - 1 - (m : Int)) (s.size - (m + 1)) (by omega) w (by omega)
    have HR := Lib.hid hrp
    clear hrp
    generalize List.replicate (s.size - (m + 1)) (48 : UInt8) = Z at *
    generalize cmpS t b = N at *
    go_wp2_with fail
    refine (HR.out _).mono ?_
    rintro e w2 ⟨rfl, hx⟩
    have hb2 := hb1.trans (hx.mono hb1.size)
    clear hx HR
    go_wp2_with fail
    refine wp_region_inv (fun a0 w0 D a wv => ∃ u22 u23 u24 u25 u26 u27 u28 u29 u30 u31 u32 u33 u34 u35 u36 u4 : Value, a = putAll a0 [(22, u22), (23, u23), (24, u24), (25, u25), (26, u26), (27, u27), (28, u28), (29, u29), (30, u30), (31, u31), (32, u32), (33, u33), (34, u34), (35, u35), (36, u36), (4, u4)] ∧ Below w0.heap.size w0 wv ∧ Hid (D 0 → u22 = .string s) ∧ Hid (D 1 → u23 = .int .i64 m) ∧ Hid (D 2 → u24 = .string (s.extract 0 m)) ∧ Hid (D 3 → u25 = .string s) ∧ Hid (D 4 → u26 = .int .i64 m) ∧ Hid (D 5 → u27 = .int .u8 s[m].toNat) ∧ Hid (D 6 → u28 = .int .u8 ((s[m].toNat : Int) + 1)) ∧ Hid (D 7 → ∃ bq, u29 = .slice (some ⟨bq, 0, none⟩) 1 1 ∧ bq < wv.heap.size ∧ wv.cell? ⟨bq, 0, none⟩ = some (.int .u8 ((s[m].toNat : Int) + 1))) ∧ Hid (D 8 → u30 = .string ⟨#[UInt8.ofNat (((s[m].toNat : Int) + 1)).toNat]⟩) ∧ Hid (D 9 → u31 = .string (s.extract 0 m ++ ⟨#[UInt8.ofNat (((s[m].toNat : Int) + 1)).toNat]⟩)) ∧ Hid (D 10 → u32 = .string ⟨Z.toArray⟩) ∧ Hid (D 11 → u33 = .string (s.extract 0 m ++ ⟨#[UInt8.ofNat (((s[m].toNat : Int) + 1)).toNat]⟩ ++ ⟨Z.toArray⟩)) ∧ Hid (D 12 → u34 = S8 b) ∧ Hid (D 13 → u35 = .int .i64 N) ∧ Hid (D 14 → u36 = .bool (decide (N < 0))) ∧ Hid (D 15 → u4 = .bool (decide (N < 0)))) rfl ?_ ?_ ?_
    ·
      simp only [putAll, List.setIfInBounds_toArray, List.set_cons_succ, List.set_cons_zero]
      exact ⟨_, _, _, _, _, _, _, _, _, _, _, _, _, _, _, _, rfl, Below.refl _ _, fun h => h.elim, fun h => h.elim, fun h => h.elim, fun h => h.elim, fun h => h.elim, fun h => h.elim, fun h => h.elim, fun h => h.elim, fun h => h.elim, fun h => h.elim, fun h => h.elim, fun h => h.elim, fun h => h.elim, fun h => h.elim, fun h => h.elim, fun h => h.elim⟩
    ·
      simp only [putAll, List.setIfInBounds_toArray, List.set_cons_succ, List.set_cons_zero]
      refine StepsAll.cons ?_ (StepsAll.cons ?_ (StepsAll.cons ?_ (StepsAll.cons ?_ (StepsAll.cons ?_ (StepsAll.cons ?_ (StepsAll.cons ?_ (StepsAll.cons ?_ (StepsAll.cons ?_ (StepsAll.cons ?_ (StepsAll.cons ?_ (StepsAll.cons ?_ (StepsAll.cons ?_ (StepsAll.cons ?_ (StepsAll.cons ?_ (StepsAll.cons ?_ StepsAll.nil)))))))))))))))
      · rintro D a wg ⟨u22, u23, u24, u25, u26, u27, u28, u29, u30, u31, u32, u33, u34, u35, u36, u4, rfl, hbr, f0, f1, f2, f3, f4, f5, f6, f7, f8, f9, f10, f11, f12, f13, f14, f15⟩ hnd hd
        clear hd
        go_wp2_with (first | (go_at_call 30; refine (HCMP.out _).mono ?_; rintro e wz ⟨rfl, rfl⟩))
        refine ⟨_, _, _, _, _, _, _, _, _, _, _, _, _, _, _, _, rfl, hbr, ?_, ?_, ?_, ?_, ?_, ?_, ?_, ?_, ?_, ?_, ?_, ?_, ?_, ?_, ?_, ?_⟩
        · first | exact rfl | exact fun _ => rfl
        · first | exact f1 | exact fun h => h.elim f1.out (fun e => absurd e (by decide))
        · first | exact f2 | exact fun h => h.elim f2.out (fun e => absurd e (by decide))
        · first | exact f3 | exact fun h => h.elim f3.out (fun e => absurd e (by decide))
        · first | exact f4 | exact fun h => h.elim f4.out (fun e => absurd e (by decide))
        · first | exact f5 | exact fun h => h.elim f5.out (fun e => absurd e (by decide))
        · first | exact f6 | exact fun h => h.elim f6.out (fun e => absurd e (by decide))
        · first | exact f7 | exact fun h => h.elim f7.out (fun e => absurd e (by decide))
        · first | exact f8 | exact fun h => h.elim f8.out (fun e => absurd e (by decide))
        · first | exact f9 | exact fun h => h.elim f9.out (fun e => absurd e (by decide))
        · first | exact f10 | exact fun h => h.elim f10.out (fun e => absurd e (by decide))
        · first | exact f11 | exact fun h => h.elim f11.out (fun e => absurd e (by decide))
        · first | exact f12 | exact fun h => h.elim f12.out (fun e => absurd e (by decide))
        · first | exact f13 | exact fun h => h.elim f13.out (fun e => absurd e (by decide))
        · first | exact f14 | exact fun h => h.elim f14.out (fun e => absurd e (by decide))
        · first | exact f15 | exact fun h => h.elim f15.out (fun e => absurd e (by decide))
      · rintro D a wg ⟨u22, u23, u24, u25, u26, u27, u28, u29, u30, u31, u32, u33, u34, u35, u36, u4, rfl, hbr, f0, f1, f2, f3, f4, f5, f6, f7, f8, f9, f10, f11, f12, f13, f14, f15⟩ hnd hd
        clear hd
        go_wp2_with (first | (go_at_call 30; refine (HCMP.out _).mono ?_; rintro e wz ⟨rfl, rfl⟩))
        refine ⟨_, _, _, _, _, _, _, _, _, _, _, _, _, _, _, _, rfl, hbr, ?_, ?_, ?_, ?_, ?_, ?_, ?_, ?_, ?_, ?_, ?_, ?_, ?_, ?_, ?_, ?_⟩
        · first | exact f0 | exact fun h => h.elim f0.out (fun e => absurd e (by decide))
        · first | exact rfl | exact fun _ => rfl
        · first | exact f2 | exact fun h => h.elim f2.out (fun e => absurd e (by decide))
        · first | exact f3 | exact fun h => h.elim f3.out (fun e => absurd e (by decide))
        · first | exact f4 | exact fun h => h.elim f4.out (fun e => absurd e (by decide))
        · first | exact f5 | exact fun h => h.elim f5.out (fun e => absurd e (by decide))
        · first | exact f6 | exact fun h => h.elim f6.out (fun e => absurd e (by decide))
        · first | exact f7 | exact fun h => h.elim f7.out (fun e => absurd e (by decide))
        · first | exact f8 | exact fun h => h.elim f8.out (fun e => absurd e (by decide))
        · first | exact f9 | exact fun h => h.elim f9.out (fun e => absurd e (by decide))
        · first | exact f10 | exact fun h => h.elim f10.out (fun e => absurd e (by decide))
        · first | exact f11 | exact fun h => h.elim f11.out (fun e => absurd e (by decide))
        · first | exact f12 | exact fun h => h.elim f12.out (fun e => absurd e (by decide))
        · first | exact f13 | exact fun h => h.elim f13.out (fun e => absurd e (by decide))
        · first | exact f14 | exact fun h => h.elim f14.out (fun e => absurd e (by decide))
        · first | exact f15 | exact fun h => h.elim f15.out (fun e => absurd e (by decide))
      · rintro D a wg ⟨u22, u23, u24, u25, u26, u27, u28, u29, u30, u31, u32, u33, u34, u35, u36, u4, rfl, hbr, f0, f1, f2, f3, f4, f5, f6, f7, f8, f9, f10, f11, f12, f13, f14, f15⟩ hnd hd
        have d0 := hd 0 (by decide)
        obtain rfl := f0.out d0
        have d1 := hd 1 (by decide)
        obtain rfl := f1.out d1
        clear hd
        go_wp2_with (first | (go_at_call 30; refine (HCMP.out _).mono ?_; rintro e wz ⟨rfl, rfl⟩))
        refine ⟨_, _, _, _, _, _, _, _, _, _, _, _, _, _, _, _, rfl, hbr, ?_, ?_, ?_, ?_, ?_, ?_, ?_, ?_, ?_, ?_, ?_, ?_, ?_, ?_, ?_, ?_⟩
        · first | exact fun _ => rfl | exact rfl
        · first | exact fun _ => rfl | exact rfl
        · first | exact rfl | exact fun _ => rfl
        · first | exact f3 | exact fun h => h.elim f3.out (fun e => absurd e (by decide))
        · first | exact f4 | exact fun h => h.elim f4.out (fun e => absurd e (by decide))
        · first | exact f5 | exact fun h => h.elim f5.out (fun e => absurd e (by decide))
        · first | exact f6 | exact fun h => h.elim f6.out (fun e => absurd e (by decide))
        · first | exact f7 | exact fun h => h.elim f7.out (fun e => absurd e (by decide))
        · first | exact f8 | exact fun h => h.elim f8.out (fun e => absurd e (by decide))
        · first | exact f9 | exact fun h => h.elim f9.out (fun e => absurd e (by decide))
        · first | exact f10 | exact fun h => h.elim f10.out (fun e => absurd e (by decide))
        · first | exact f11 | exact fun h => h.elim f11.out (fun e => absurd e (by decide))
        · first | exact f12 | exact fun h => h.elim f12.out (fun e => absurd e (by decide))
        · first | exact f13 | exact fun h => h.elim f13.out (fun e => absurd e (by decide))
        · first | exact f14 | exact fun h => h.elim f14.out (fun e => absurd e (by decide))
        · first | exact f15 | exact fun h => h.elim f15.out (fun e => absurd e (by decide))
      · rintro D a wg ⟨u22, u23, u24, u25, u26, u27, u28, u29, u30, u31, u32, u33, u34, u35, u36, u4, rfl, hbr, f0, f1, f2, f3, f4, f5, f6, f7, f8, f9, f10, f11, f12, f13, f14, f15⟩ hnd hd
        clear hd
        go_wp2_with (first | (go_at_call 30; refine (HCMP.out _).mono ?_; rintro e wz ⟨rfl, rfl⟩))
        refine ⟨_, _, _, _, _, _, _, _, _, _, _, _, _, _, _, _, rfl, hbr, ?_, ?_, ?_, ?_, ?_, ?_, ?_, ?_, ?_, ?_, ?_, ?_, ?_, ?_, ?_, ?_⟩
        · first | exact f0 | exact fun h => h.elim f0.out (fun e => absurd e (by decide))
        · first | exact f1 | exact fun h => h.elim f1.out (fun e => absurd e (by decide))
        · first | exact f2 | exact fun h => h.elim f2.out (fun e => absurd e (by decide))
        · first | exact rfl | exact fun _ => rfl
        · first | exact f4 | exact fun h => h.elim f4.out (fun e => absurd e (by decide))
        · first | exact f5 | exact fun h => h.elim f5.out (fun e => absurd e (by decide))
        · first | exact f6 | exact fun h => h.elim f6.out (fun e => absurd e (by decide))
        · first | exact f7 | exact fun h => h.elim f7.out (fun e => absurd e (by decide))
        · first | exact f8 | exact fun h => h.elim f8.out (fun e => absurd e (by decide))
        · first | exact f9 | exact fun h => h.elim f9.out (fun e => absurd e (by decide))
        · first | exact f10 | exact fun h => h.elim f10.out (fun e => absurd e (by decide))
        · first | exact f11 | exact fun h => h.elim f11.out (fun e => absurd e (by decide))
        · first | exact f12 | exact fun h => h.elim f12.out (fun e => absurd e (by decide))
        · first | exact f13 | exact fun h => h.elim f13.out (fun e => absurd e (by decide))
        · first | exact f14 | exact fun h => h.elim f14.out (fun e => absurd e (by decide))
        · first | exact f15 | exact fun h => h.elim f15.out (fun e => absurd e (by decide))
      · rintro D a wg ⟨u22, u23, u24, u25, u26, u27, u28, u29, u30, u31, u32, u33, u34, u35, u36, u4, rfl, hbr, f0, f1, f2, f3, f4, f5, f6, f7, f8, f9, f10, f11, f12, f13, f14, f15⟩ hnd hd
        clear hd
        go_wp2_with (first | (go_at_call 30; refine (HCMP.out _).mono ?_; rintro e wz ⟨rfl, rfl⟩))
        refine ⟨_, _, _, _, _, _, _, _, _, _, _, _, _, _, _, _, rfl, hbr, ?_, ?_, ?_, ?_, ?_, ?_, ?_, ?_, ?_, ?_, ?_, ?_, ?_, ?_, ?_, ?_⟩
        · first | exact f0 | exact fun h => h.elim f0.out (fun e => absurd e (by decide))
        · first | exact f1 | exact fun h => h.elim f1.out (fun e => absurd e (by decide))
        · first | exact f2 | exact fun h => h.elim f2.out (fun e => absurd e (by decide))
        · first | exact f3 | exact fun h => h.elim f3.out (fun e => absurd e (by decide))
        · first | exact rfl | exact fun _ => rfl
        · first | exact f5 | exact fun h => h.elim f5.out (fun e => absurd e (by decide))
        · first | exact f6 | exact fun h => h.elim f6.out (fun e => absurd e (by decide))
        · first | exact f7 | exact fun h => h.elim f7.out (fun e => absurd e (by decide))
        · first | exact f8 | exact fun h => h.elim f8.out (fun e => absurd e (by decide))
        · first | exact f9 | exact fun h => h.elim f9.out (fun e => absurd e (by decide))
        · first | exact f10 | exact fun h => h.elim f10.out (fun e => absurd e (by decide))
        · first | exact f11 | exact fun h => h.elim f11.out (fun e => absurd e (by decide))
        · first | exact f12 | exact fun h => h.elim f12.out (fun e => absurd e (by decide))
        · first | exact f13 | exact fun h => h.elim f13.out (fun e => absurd e (by decide))
        · first | exact f14 | exact fun h => h.elim f14.out (fun e => absurd e (by decide))
        · first | exact f15 | exact fun h => h.elim f15.out (fun e => absurd e (by decide))
      · rintro D a wg ⟨u22, u23, u24, u25, u26, u27, u28, u29, u30, u31, u32, u33, u34, u35, u36, u4, rfl, hbr, f0, f1, f2, f3, f4, f5, f6, f7, f8, f9, f10, f11, f12, f13, f14, f15⟩ hnd hd
        have d3 := hd 3 (by decide)
        obtain rfl := f3.out d3
        have d4 := hd 4 (by decide)
        obtain rfl := f4.out d4
        clear hd
        go_wp2_with (first | (go_at_call 30; refine (HCMP.out _).mono ?_; rintro e wz ⟨rfl, rfl⟩))
        refine ⟨_, _, _, _, _, _, _, _, _, _, _, _, _, _, _, _, rfl, hbr, ?_, ?_, ?_, ?_, ?_, ?_, ?_, ?_, ?_, ?_, ?_, ?_, ?_, ?_, ?_, ?_⟩
        · first | exact f0 | exact fun h => h.elim f0.out (fun e => absurd e (by decide))
        · first | exact f1 | exact fun h => h.elim f1.out (fun e => absurd e (by decide))
        · first | exact f2 | exact fun h => h.elim f2.out (fun e => absurd e (by decide))
        · first | exact fun _ => rfl | exact rfl
        · first | exact fun _ => rfl | exact rfl
        · first | exact rfl | exact fun _ => rfl
        · first | exact f6 | exact fun h => h.elim f6.out (fun e => absurd e (by decide))
        · first | exact f7 | exact fun h => h.elim f7.out (fun e => absurd e (by decide))
        · first | exact f8 | exact fun h => h.elim f8.out (fun e => absurd e (by decide))
        · first | exact f9 | exact fun h => h.elim f9.out (fun e => absurd e (by decide))
        · first | exact f10 | exact fun h => h.elim f10.out (fun e => absurd e (by decide))
        · first | exact f11 | exact fun h => h.elim f11.out (fun e => absurd e (by decide))
        · first | exact f12 | exact fun h => h.elim f12.out (fun e => absurd e (by decide))
        · first | exact f13 | exact fun h => h.elim f13.out (fun e => absurd e (by decide))
        · first | exact f14 | exact fun h => h.elim f14.out (fun e => absurd e (by decide))
        · first | exact f15 | exact fun h => h.elim f15.out (fun e => absurd e (by decide))
      · rintro D a wg ⟨u22, u23, u24, u25, u26, u27, u28, u29, u30, u31, u32, u33, u34, u35, u36, u4, rfl, hbr, f0, f1, f2, f3, f4, f5, f6, f7, f8, f9, f10, f11, f12, f13, f14, f15⟩ hnd hd
        have d5 := hd 5 (by decide)
        obtain rfl := f5.out d5
        clear hd
        go_wp2_with (first | (go_at_call 30; refine (HCMP.out _).mono ?_; rintro e wz ⟨rfl, rfl⟩))
        refine ⟨_, _, _, _, _, _, _, _, _, _, _, _, _, _, _, _, rfl, hbr, ?_, ?_, ?_, ?_, ?_, ?_, ?_, ?_, ?_, ?_, ?_, ?_, ?_, ?_, ?_, ?_⟩
        · first | exact f0 | exact fun h => h.elim f0.out (fun e => absurd e (by decide))
        · first | exact f1 | exact fun h => h.elim f1.out (fun e => absurd e (by decide))
        · first | exact f2 | exact fun h => h.elim f2.out (fun e => absurd e (by decide))
        · first | exact f3 | exact fun h => h.elim f3.out (fun e => absurd e (by decide))
        · first | exact f4 | exact fun h => h.elim f4.out (fun e => absurd e (by decide))
        · first | exact fun _ => rfl | exact rfl
        · first | exact rfl | exact fun _ => rfl
        · first | exact f7 | exact fun h => h.elim f7.out (fun e => absurd e (by decide))
        · first | exact f8 | exact fun h => h.elim f8.out (fun e => absurd e (by decide))
        · first | exact f9 | exact fun h => h.elim f9.out (fun e => absurd e (by decide))
        · first | exact f10 | exact fun h => h.elim f10.out (fun e => absurd e (by decide))
        · first | exact f11 | exact fun h => h.elim f11.out (fun e => absurd e (by decide))
        · first | exact f12 | exact fun h => h.elim f12.out (fun e => absurd e (by decide))
        · first | exact f13 | exact fun h => h.elim f13.out (fun e => absurd e (by decide))
        · first | exact f14 | exact fun h => h.elim f14.out (fun e => absurd e (by decide))
        · first | exact f15 | exact fun h => h.elim f15.out (fun e => absurd e (by decide))
      · rintro D a wg ⟨u22, u23, u24, u25, u26, u27, u28, u29, u30, u31, u32, u33, u34, u35, u36, u4, rfl, hbr, f0, f1, f2, f3, f4, f5, f6, f7, f8, f9, f10, f11, f12, f13, f14, f15⟩ hnd hd
        have d6 := hd 6 (by decide)
        obtain rfl := f6.out d6
        clear hd
        go_wp2_with (first | (go_at_call 30; refine (HCMP.out _).mono ?_; rintro e wz ⟨rfl, rfl⟩))
        refine ⟨_, _, _, _, _, _, _, _, _, _, _, _, _, _, _, _, rfl, hbr.alloc hbr.size _, ?_, ?_, ?_, ?_, ?_, ?_, ?_, ?_, ?_, ?_, ?_, ?_, ?_, ?_, ?_, ?_⟩
        · first | exact f0 | exact fun h => h.elim f0.out (fun e => absurd e (by decide))
        · first | exact f1 | exact fun h => h.elim f1.out (fun e => absurd e (by decide))
        · first | exact f2 | exact fun h => h.elim f2.out (fun e => absurd e (by decide))
        · first | exact f3 | exact fun h => h.elim f3.out (fun e => absurd e (by decide))
        · first | exact f4 | exact fun h => h.elim f4.out (fun e => absurd e (by decide))
        · first | exact f5 | exact fun h => h.elim f5.out (fun e => absurd e (by decide))
        · first | exact fun _ => rfl | exact rfl
        · first | exact ⟨wg.heap.size, rfl, by simp, by rw [World.cell?_alloc_at _ _ _ _ rfl]; rfl⟩ | exact fun _ => ⟨wg.heap.size, rfl, by simp, by rw [World.cell?_alloc_at _ _ _ _ rfl]; rfl⟩
        · first | exact f8 | exact fun h => h.elim f8.out (fun e => absurd e (by decide))
        · first | exact f9 | exact fun h => h.elim f9.out (fun e => absurd e (by decide))
        · first | exact f10 | exact fun h => h.elim f10.out (fun e => absurd e (by decide))
        · first | exact f11 | exact fun h => h.elim f11.out (fun e => absurd e (by decide))
        · first | exact f12 | exact fun h => h.elim f12.out (fun e => absurd e (by decide))
        · first | exact f13 | exact fun h => h.elim f13.out (fun e => absurd e (by decide))
        · first | exact f14 | exact fun h => h.elim f14.out (fun e => absurd e (by decide))
        · first | exact f15 | exact fun h => h.elim f15.out (fun e => absurd e (by decide))
      · rintro D a wg ⟨u22, u23, u24, u25, u26, u27, u28, u29, u30, u31, u32, u33, u34, u35, u36, u4, rfl, hbr, f0, f1, f2, f3, f4, f5, f6, f7, f8, f9, f10, f11, f12, f13, f14, f15⟩ hnd hd
        have d7 := hd 7 (by decide)
        obtain ⟨bq, rfl, hlt, hcell⟩ := f7.out d7
        clear hd
        have s1 := str1c wg bq _ (by omega) (by omega) hcell
        go_wp2_with (first | (go_at_call 30; refine (HCMP.out _).mono ?_; rintro e wz ⟨rfl, rfl⟩))
        refine ⟨_, _, _, _, _, _, _, _, _, _, _, _, _, _, _, _, rfl, hbr, ?_, ?_, ?_, ?_, ?_, ?_, ?_, ?_, ?_, ?_, ?_, ?_, ?_, ?_, ?_, ?_⟩
        · first | exact f0 | exact fun h => h.elim f0.out (fun e => absurd e (by decide))
        · first | exact f1 | exact fun h => h.elim f1.out (fun e => absurd e (by decide))
        · first | exact f2 | exact fun h => h.elim f2.out (fun e => absurd e (by decide))
        · first | exact f3 | exact fun h => h.elim f3.out (fun e => absurd e (by decide))
        · first | exact f4 | exact fun h => h.elim f4.out (fun e => absurd e (by decide))
        · first | exact f5 | exact fun h => h.elim f5.out (fun e => absurd e (by decide))
        · first | exact f6 | exact fun h => h.elim f6.out (fun e => absurd e (by decide))
        · exact fun _ => ⟨bq, rfl, hlt, hcell⟩
        · first | exact rfl | exact fun _ => rfl
        · first | exact f9 | exact fun h => h.elim f9.out (fun e => absurd e (by decide))
        · first | exact f10 | exact fun h => h.elim f10.out (fun e => absurd e (by decide))
        · first | exact f11 | exact fun h => h.elim f11.out (fun e => absurd e (by decide))
        · first | exact f12 | exact fun h => h.elim f12.out (fun e => absurd e (by decide))
        · first | exact f13 | exact fun h => h.elim f13.out (fun e => absurd e (by decide))
        · first | exact f14 | exact fun h => h.elim f14.out (fun e => absurd e (by decide))
        · first | exact f15 | exact fun h => h.elim f15.out (fun e => absurd e (by decide))
      · rintro D a wg ⟨u22, u23, u24, u25, u26, u27, u28, u29, u30, u31, u32, u33, u34, u35, u36, u4, rfl, hbr, f0, f1, f2, f3, f4, f5, f6, f7, f8, f9, f10, f11, f12, f13, f14, f15⟩ hnd hd
        have d2 := hd 2 (by decide)
        obtain rfl := f2.out d2
        have d8 := hd 8 (by decide)
        obtain rfl := f8.out d8
        clear hd
        go_wp2_with (first | (go_at_call 30; refine (HCMP.out _).mono ?_; rintro e wz ⟨rfl, rfl⟩))
        refine ⟨_, _, _, _, _, _, _, _, _, _, _, _, _, _, _, _, rfl, hbr, ?_, ?_, ?_, ?_, ?_, ?_, ?_, ?_, ?_, ?_, ?_, ?_, ?_, ?_, ?_, ?_⟩
        · first | exact f0 | exact fun h => h.elim f0.out (fun e => absurd e (by decide))
        · first | exact f1 | exact fun h => h.elim f1.out (fun e => absurd e (by decide))
        · first | exact fun _ => rfl | exact rfl
        · first | exact f3 | exact fun h => h.elim f3.out (fun e => absurd e (by decide))
        · first | exact f4 | exact fun h => h.elim f4.out (fun e => absurd e (by decide))
        · first | exact f5 | exact fun h => h.elim f5.out (fun e => absurd e (by decide))
        · first | exact f6 | exact fun h => h.elim f6.out (fun e => absurd e (by decide))
        · first | exact f7 | exact fun h => h.elim f7.out (fun e => absurd e (by decide))
        · first | exact fun _ => rfl | exact rfl
        · first | exact rfl | exact fun _ => rfl
        · first | exact f10 | exact fun h => h.elim f10.out (fun e => absurd e (by decide))
        · first | exact f11 | exact fun h => h.elim f11.out (fun e => absurd e (by decide))
        · first | exact f12 | exact fun h => h.elim f12.out (fun e => absurd e (by decide))
        · first | exact f13 | exact fun h => h.elim f13.out (fun e => absurd e (by decide))
        · first | exact f14 | exact fun h => h.elim f14.out (fun e => absurd e (by decide))
        · first | exact f15 | exact fun h => h.elim f15.out (fun e => absurd e (by decide))
      · rintro D a wg ⟨u22, u23, u24, u25, u26, u27, u28, u29, u30, u31, u32, u33, u34, u35, u36, u4, rfl, hbr, f0, f1, f2, f3, f4, f5, f6, f7, f8, f9, f10, f11, f12, f13, f14, f15⟩ hnd hd
        clear hd
        go_wp2_with (first | (go_at_call 30; refine (HCMP.out _).mono ?_; rintro e wz ⟨rfl, rfl⟩))
        refine ⟨_, _, _, _, _, _, _, _, _, _, _, _, _, _, _, _, rfl, hbr, ?_, ?_, ?_, ?_, ?_, ?_, ?_, ?_, ?_, ?_, ?_, ?_, ?_, ?_, ?_, ?_⟩
        · first | exact f0 | exact fun h => h.elim f0.out (fun e => absurd e (by decide))
        · first | exact f1 | exact fun h => h.elim f1.out (fun e => absurd e (by decide))
        · first | exact f2 | exact fun h => h.elim f2.out (fun e => absurd e (by decide))
        · first | exact f3 | exact fun h => h.elim f3.out (fun e => absurd e (by decide))
        · first | exact f4 | exact fun h => h.elim f4.out (fun e => absurd e (by decide))
        · first | exact f5 | exact fun h => h.elim f5.out (fun e => absurd e (by decide))
        · first | exact f6 | exact fun h => h.elim f6.out (fun e => absurd e (by decide))
        · first | exact f7 | exact fun h => h.elim f7.out (fun e => absurd e (by decide))
        · first | exact f8 | exact fun h => h.elim f8.out (fun e => absurd e (by decide))
        · first | exact f9 | exact fun h => h.elim f9.out (fun e => absurd e (by decide))
        · first | exact rfl | exact fun _ => rfl
        · first | exact f11 | exact fun h => h.elim f11.out (fun e => absurd e (by decide))
        · first | exact f12 | exact fun h => h.elim f12.out (fun e => absurd e (by decide))
        · first | exact f13 | exact fun h => h.elim f13.out (fun e => absurd e (by decide))
        · first | exact f14 | exact fun h => h.elim f14.out (fun e => absurd e (by decide))
        · first | exact f15 | exact fun h => h.elim f15.out (fun e => absurd e (by decide))
      · rintro D a wg ⟨u22, u23, u24, u25, u26, u27, u28, u29, u30, u31, u32, u33, u34, u35, u36, u4, rfl, hbr, f0, f1, f2, f3, f4, f5, f6, f7, f8, f9, f10, f11, f12, f13, f14, f15⟩ hnd hd
        have d9 := hd 9 (by decide)
        obtain rfl := f9.out d9
        have d10 := hd 10 (by decide)
        obtain rfl := f10.out d10
        clear hd
        go_wp2_with (first | (go_at_call 30; refine (HCMP.out _).mono ?_; rintro e wz ⟨rfl, rfl⟩))
        refine ⟨_, _, _, _, _, _, _, _, _, _, _, _, _, _, _, _, rfl, hbr, ?_, ?_, ?_, ?_, ?_, ?_, ?_, ?_, ?_, ?_, ?_, ?_, ?_, ?_, ?_, ?_⟩
        · first | exact f0 | exact fun h => h.elim f0.out (fun e => absurd e (by decide))
        · first | exact f1 | exact fun h => h.elim f1.out (fun e => absurd e (by decide))
        · first | exact f2 | exact fun h => h.elim f2.out (fun e => absurd e (by decide))
        · first | exact f3 | exact fun h => h.elim f3.out (fun e => absurd e (by decide))
        · first | exact f4 | exact fun h => h.elim f4.out (fun e => absurd e (by decide))
        · first | exact f5 | exact fun h => h.elim f5.out (fun e => absurd e (by decide))
        · first | exact f6 | exact fun h => h.elim f6.out (fun e => absurd e (by decide))
        · first | exact f7 | exact fun h => h.elim f7.out (fun e => absurd e (by decide))
        · first | exact f8 | exact fun h => h.elim f8.out (fun e => absurd e (by decide))
        · first | exact fun _ => rfl | exact rfl
        · first | exact fun _ => rfl | exact rfl
        · first | exact rfl | exact fun _ => rfl
        · first | exact f12 | exact fun h => h.elim f12.out (fun e => absurd e (by decide))
        · first | exact f13 | exact fun h => h.elim f13.out (fun e => absurd e (by decide))
        · first | exact f14 | exact fun h => h.elim f14.out (fun e => absurd e (by decide))
        · first | exact f15 | exact fun h => h.elim f15.out (fun e => absurd e (by decide))
      · rintro D a wg ⟨u22, u23, u24, u25, u26, u27, u28, u29, u30, u31, u32, u33, u34, u35, u36, u4, rfl, hbr, f0, f1, f2, f3, f4, f5, f6, f7, f8, f9, f10, f11, f12, f13, f14, f15⟩ hnd hd
        clear hd
        go_wp2_with (first | (go_at_call 30; refine (HCMP.out _).mono ?_; rintro e wz ⟨rfl, rfl⟩))
        refine ⟨_, _, _, _, _, _, _, _, _, _, _, _, _, _, _, _, rfl, hbr, ?_, ?_, ?_, ?_, ?_, ?_, ?_, ?_, ?_, ?_, ?_, ?_, ?_, ?_, ?_, ?_⟩
        · first | exact f0 | exact fun h => h.elim f0.out (fun e => absurd e (by decide))
        · first | exact f1 | exact fun h => h.elim f1.out (fun e => absurd e (by decide))
        · first | exact f2 | exact fun h => h.elim f2.out (fun e => absurd e (by decide))
        · first | exact f3 | exact fun h => h.elim f3.out (fun e => absurd e (by decide))
        · first | exact f4 | exact fun h => h.elim f4.out (fun e => absurd e (by decide))
        · first | exact f5 | exact fun h => h.elim f5.out (fun e => absurd e (by decide))
        · first | exact f6 | exact fun h => h.elim f6.out (fun e => absurd e (by decide))
        · first | exact f7 | exact fun h => h.elim f7.out (fun e => absurd e (by decide))
        · first | exact f8 | exact fun h => h.elim f8.out (fun e => absurd e (by decide))
        · first | exact f9 | exact fun h => h.elim f9.out (fun e => absurd e (by decide))
        · first | exact f10 | exact fun h => h.elim f10.out (fun e => absurd e (by decide))
        · first | exact f11 | exact fun h => h.elim f11.out (fun e => absurd e (by decide))
        · first | exact rfl | exact fun _ => rfl
        · first | exact f13 | exact fun h => h.elim f13.out (fun e => absurd e (by decide))
        · first | exact f14 | exact fun h => h.elim f14.out (fun e => absurd e (by decide))
        · first | exact f15 | exact fun h => h.elim f15.out (fun e => absurd e (by decide))
      · rintro D a wg ⟨u22, u23, u24, u25, u26, u27, u28, u29, u30, u31, u32, u33, u34, u35, u36, u4, rfl, hbr, f0, f1, f2, f3, f4, f5, f6, f7, f8, f9, f10, f11, f12, f13, f14, f15⟩ hnd hd
        have d11 := hd 11 (by decide)
        obtain rfl := f11.out d11
        have d12 := hd 12 (by decide)
        obtain rfl := f12.out d12
        clear hd
        go_wp2_with (first | (go_at_call 30; refine (HCMP.out _).mono ?_; rintro e wz ⟨rfl, rfl⟩))
        refine ⟨_, _, _, _, _, _, _, _, _, _, _, _, _, _, _, _, rfl, hbr, ?_, ?_, ?_, ?_, ?_, ?_, ?_, ?_, ?_, ?_, ?_, ?_, ?_, ?_, ?_, ?_⟩
        · first | exact f0 | exact fun h => h.elim f0.out (fun e => absurd e (by decide))
        · first | exact f1 | exact fun h => h.elim f1.out (fun e => absurd e (by decide))
        · first | exact f2 | exact fun h => h.elim f2.out (fun e => absurd e (by decide))
        · first | exact f3 | exact fun h => h.elim f3.out (fun e => absurd e (by decide))
        · first | exact f4 | exact fun h => h.elim f4.out (fun e => absurd e (by decide))
        · first | exact f5 | exact fun h => h.elim f5.out (fun e => absurd e (by decide))
        · first | exact f6 | exact fun h => h.elim f6.out (fun e => absurd e (by decide))
        · first | exact f7 | exact fun h => h.elim f7.out (fun e => absurd e (by decide))
        · first | exact f8 | exact fun h => h.elim f8.out (fun e => absurd e (by decide))
        · first | exact f9 | exact fun h => h.elim f9.out (fun e => absurd e (by decide))
        · first | exact f10 | exact fun h => h.elim f10.out (fun e => absurd e (by decide))
        · first | exact fun _ => rfl | exact rfl
        · first | exact fun _ => rfl | exact rfl
        · first | exact rfl | exact fun _ => rfl
        · first | exact f14 | exact fun h => h.elim f14.out (fun e => absurd e (by decide))
        · first | exact f15 | exact fun h => h.elim f15.out (fun e => absurd e (by decide))
      · rintro D a wg ⟨u22, u23, u24, u25, u26, u27, u28, u29, u30, u31, u32, u33, u34, u35, u36, u4, rfl, hbr, f0, f1, f2, f3, f4, f5, f6, f7, f8, f9, f10, f11, f12, f13, f14, f15⟩ hnd hd
        have d13 := hd 13 (by decide)
        obtain rfl := f13.out d13
        clear hd
        go_wp2_with (first | (go_at_call 30; refine (HCMP.out _).mono ?_; rintro e wz ⟨rfl, rfl⟩))
        refine ⟨_, _, _, _, _, _, _, _, _, _, _, _, _, _, _, _, rfl, hbr, ?_, ?_, ?_, ?_, ?_, ?_, ?_, ?_, ?_, ?_, ?_, ?_, ?_, ?_, ?_, ?_⟩
        · first | exact f0 | exact fun h => h.elim f0.out (fun e => absurd e (by decide))
        · first | exact f1 | exact fun h => h.elim f1.out (fun e => absurd e (by decide))
        · first | exact f2 | exact fun h => h.elim f2.out (fun e => absurd e (by decide))
        · first | exact f3 | exact fun h => h.elim f3.out (fun e => absurd e (by decide))
        · first | exact f4 | exact fun h => h.elim f4.out (fun e => absurd e (by decide))
        · first | exact f5 | exact fun h => h.elim f5.out (fun e => absurd e (by decide))
        · first | exact f6 | exact fun h => h.elim f6.out (fun e => absurd e (by decide))
        · first | exact f7 | exact fun h => h.elim f7.out (fun e => absurd e (by decide))
        · first | exact f8 | exact fun h => h.elim f8.out (fun e => absurd e (by decide))
        · first | exact f9 | exact fun h => h.elim f9.out (fun e => absurd e (by decide))
        · first | exact f10 | exact fun h => h.elim f10.out (fun e => absurd e (by decide))
        · first | exact f11 | exact fun h => h.elim f11.out (fun e => absurd e (by decide))
        · first | exact f12 | exact fun h => h.elim f12.out (fun e => absurd e (by decide))
        · first | exact fun _ => rfl | exact rfl
        · first | exact rfl | exact fun _ => rfl
        · first | exact f15 | exact fun h => h.elim f15.out (fun e => absurd e (by decide))
      · rintro D a wg ⟨u22, u23, u24, u25, u26, u27, u28, u29, u30, u31, u32, u33, u34, u35, u36, u4, rfl, hbr, f0, f1, f2, f3, f4, f5, f6, f7, f8, f9, f10, f11, f12, f13, f14, f15⟩ hnd hd
        have d14 := hd 14 (by decide)
        obtain rfl := f14.out d14
        clear hd
        go_wp2_with (first | (go_at_call 30; refine (HCMP.out _).mono ?_; rintro e wz ⟨rfl, rfl⟩))
        refine ⟨_, _, _, _, _, _, _, _, _, _, _, _, _, _, _, _, rfl, hbr, ?_, ?_, ?_, ?_, ?_, ?_, ?_, ?_, ?_, ?_, ?_, ?_, ?_, ?_, ?_, ?_⟩
        · first | exact f0 | exact fun h => h.elim f0.out (fun e => absurd e (by decide))
        · first | exact f1 | exact fun h => h.elim f1.out (fun e => absurd e (by decide))
        · first | exact f2 | exact fun h => h.elim f2.out (fun e => absurd e (by decide))
        · first | exact f3 | exact fun h => h.elim f3.out (fun e => absurd e (by decide))
        · first | exact f4 | exact fun h => h.elim f4.out (fun e => absurd e (by decide))
        · first | exact f5 | exact fun h => h.elim f5.out (fun e => absurd e (by decide))
        · first | exact f6 | exact fun h => h.elim f6.out (fun e => absurd e (by decide))
        · first | exact f7 | exact fun h => h.elim f7.out (fun e => absurd e (by decide))
        · first | exact f8 | exact fun h => h.elim f8.out (fun e => absurd e (by decide))
        · first | exact f9 | exact fun h => h.elim f9.out (fun e => absurd e (by decide))
        · first | exact f10 | exact fun h => h.elim f10.out (fun e => absurd e (by decide))
        · first | exact f11 | exact fun h => h.elim f11.out (fun e => absurd e (by decide))
        · first | exact f12 | exact fun h => h.elim f12.out (fun e => absurd e (by decide))
        · first | exact f13 | exact fun h => h.elim f13.out (fun e => absurd e (by decide))
        · first | exact fun _ => rfl | exact rfl
        · first | exact rfl | exact fun _ => rfl
    simp only [putAll, List.setIfInBounds_toArray, List.set_cons_succ, List.set_cons_zero]
    rintro D a wg hall ⟨u22, u23, u24, u25, u26, u27, u28, u29, u30, u31, u32, u33, u34, u35, u36, u4, rfl, hbr, f0, f1, f2, f3, f4, f5, f6, f7, f8, f9, f10, f11, f12, f13, f14, f15⟩
    obtain rfl := f0.out (hall 0 (by decide))
    obtain rfl := f1.out (hall 1 (by decide))
    obtain rfl := f2.out (hall 2 (by decide))
    obtain rfl := f3.out (hall 3 (by decide))
    obtain rfl := f4.out (hall 4 (by decide))
    obtain rfl := f5.out (hall 5 (by decide))
    obtain rfl := f6.out (hall 6 (by decide))
    obtain ⟨bq, rfl, hlt, hcell⟩ := f7.out (hall 7 (by decide))
    obtain rfl := f8.out (hall 8 (by decide))
    obtain rfl := f9.out (hall 9 (by decide))
    obtain rfl := f10.out (hall 10 (by decide))
    obtain rfl := f11.out (hall 11 (by decide))
    obtain rfl := f12.out (hall 12 (by decide))
    obtain rfl := f13.out (hall 13 (by decide))
    obtain rfl := f14.out (hall 14 (by decide))
    obtain rfl := f15.out (hall 15 (by decide))
    clear hall f0 f1 f2 f3 f4 f5 f6 f7 f8 f9 f10 f11 f12 f13 f14 f15
    go_wp2
    go_ret
    refine ⟨ret_bool ?_, hb2.trans ((Below.trans (Below.drew (Below.refl _ _)) hbr).mono hb2.size)⟩
    rw [Bool.eq_iff_iff, decide_eq_true_eq, decide_eq_true_eq, HV.out, HN2.out]
end Go.Proofs.YtffkohdnhaebjaaGreatDoor
