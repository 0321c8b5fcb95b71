/-
  Walks: the reference's next.
-/
import Derived.Test.YtffkohdnhaebjaaGreatDoorW27
import Derived.Test.YtffkohdnhaebjaaGreatDoorW8
import Derived.Test.YtffkohdnhaebjaaGreatDoorReg
import Derived.Test.YtffkohdnhaebjaaGreatDoorPcs
namespace Go.Proofs.YtffkohdnhaebjaaGreatDoor
open Go.RowKit Go.Shelf

theorem drop_nine {s : ByteArray} {m : Nat} (hm : m < s.size) (h : s.data.toList.drop (m + 1) = List.replicate (s.size - (m + 1)) 57) (h9 : s[m] = 57) : s.data.toList.drop m = List.replicate (s.size - m) 57 := by
  have hl : m < s.data.toList.length := by rw [← size_list]; exact hm
  rw [List.drop_eq_getElem_cons hl, h]
  have e : s.data.toList[m] = 57 := by rw [← h9]; rfl
  rw [e, show s.size - m = (s.size - (m + 1)) + 1 from by omega, List.replicate_succ]
theorem take_nine {s : ByteArray} {m : Nat} (hm : m < s.size) (h : s.data.toList.drop (m + 1) = List.replicate (s.size - (m + 1)) 57) : s.data.toList = s.data.toList.take m ++ s[m] :: List.replicate (s.size - (m + 1)) 57 := by
  have hl : m < s.data.toList.length := by rw [← size_list]; exact hm
  conv => lhs; rw [← List.take_append_drop m s.data.toList, List.drop_eq_getElem_cons hl, h]
  rfl
theorem rep_snoc (q : Nat) : Value.string ((⟨(List.replicate q (48 : UInt8)).toArray⟩ : ByteArray) ++ (⟨#[48]⟩ : ByteArray)) = S8 (List.replicate (q + 1) 48) := by
  rw [show (⟨#[48]⟩ : ByteArray) = ⟨[48].toArray⟩ from rfl, bcat, List.replicate_succ']
def NextPost (s : List UInt8) (w : World) (e : Ending) (w' : World) : Prop := (∃ t, e = .returned (S8 t) ∧ Wd.natDec t = true ∧ Wd.natVal t = Wd.natVal s + 1 ∧ t.length ≤ s.length + 1) ∧ Below w.heap.size w w'
theorem next_all {s : ByteArray} {w w' : World} {Z : List UInt8} (h : s.data.toList = List.replicate s.size 57) (hz : Z = List.replicate s.size 48) (hb : Below w.heap.size w w') :
    NextPost s.data.toList w (.returned (.string ((⟨#[49]⟩ : ByteArray) ++ (⟨Z.toArray⟩ : ByteArray)))) w' := by
  subst hz
  refine ⟨⟨49 :: List.replicate s.size 48, ?_, (Wd.next_none (k := s.size)).1, ?_, ?_⟩, hb⟩
  · rw [show (⟨#[49]⟩ : ByteArray) = ⟨[49].toArray⟩ from rfl, bcat]; rfl
  · rw [h]; exact Wd.next_none.2
  · rw [← size_list]; simp
theorem next_at {s : ByteArray} {w w' : World} {m : Nat} {Z : List UInt8} (hm : m < s.size) (hd : Wd.natDec s.data.toList = true) (h : s.data.toList.drop (m + 1) = List.replicate (s.size - (m + 1)) 57) (h9 : s[m] ≠ 57) (hz : Z = List.replicate (s.size - (m + 1)) 48) (hb : Below w.heap.size w w') :
    NextPost s.data.toList w (.returned (.string (s.extract 0 m ++ (⟨#[UInt8.ofNat ((s[m].toNat : Int) + 1).toNat]⟩ : ByteArray) ++ (⟨Z.toArray⟩ : ByteArray)))) w' := by
  subst hz
  have ht := take_nine hm h
  have hd2 := hd
  rw [ht] at hd2
  obtain ⟨n1, n2⟩ := Wd.next_some hd2 h9
  refine ⟨⟨_, ?_, n1, by rw [n2, ← ht], ?_⟩, hb⟩
  · have e1 : (s.extract 0 m) = ⟨(s.data.toList.take m).toArray⟩ := by
      apply ByteArray.ext; apply Array.ext'; simp
    have e2 : UInt8.ofNat ((s[m].toNat : Int) + 1).toNat = s[m] + 1 := by
      apply UInt8.toNat_inj.1
      rw [UInt8.toNat_ofNat', UInt8.toNat_add]
      simp
    rw [e1, e2, show (⟨#[s[m] + 1]⟩ : ByteArray) = ⟨[s[m] + 1].toArray⟩ from rfl, bcat, bcat]; simp
  · simp only [List.length_append, List.length_cons, List.length_replicate, List.length_take]
    rw [← size_list]; omega
--!def ZERO(#1) go_loop [4, 5] (fun z i => ∃ q : Nat, #1 + q ≤ s.size ∧ i = .int .i64 (((#1 + q : Nat)) : Int) ∧ z = S8 (List.replicate q 48)) (fun _ i => s.size - (intOf i).toNat)

set_option maxHeartbeats 4000000 in
set_option maxRecDepth 100000 in
theorem rnext_any (s : ByteArray) (w : World) (hd : Wd.natDec s.data.toList = true) (hs : s.size ≤ 281474976710656) :
    Calls Tryz.prog 36 #[.string s] w (NextPost s.data.toList w) := by
  have HD := Lib.hid hd
  clear hd
  go_enter Tryz.func36, Tryz.ntmps36
  go_wp2
  go_loop [3] (fun i => ∃ m : Nat, m ≤ s.size ∧ i = .int .i64 ((m : Int) - 1) ∧ Hid (s.data.toList.drop m = List.replicate (s.size - m) 57)) (fun i => (intOf i + 1).toNat)
  case atStart => exact ⟨s.size, Nat.le_refl _, rfl, by show _ = _; rw [Nat.sub_self, List.drop_eq_nil_of_le (by rw [← size_list]; omega)]; rfl⟩
  case round =>
    obtain ⟨m0, hm0, rfl, hdr⟩ := hrel
    by_cases h0 : m0 ≤ 0
    · have HA : Hid (s.data.toList = List.replicate s.size 57) := by
        have h1 := hdr.out
        obtain rfl : m0 = 0 := by omega
        show _ = _
        simpa using h1
      have i0 : ((m0 : Int) - 1) < 0 := by omega
      have i2 : ((m0 : Int) - 1) + 1 = m0 := by omega
      clear hdr
      go_wp2
      go_loop [4, 5] (fun z i => ∃ q : Nat, q ≤ s.size ∧ i = .int .i64 (q : Int) ∧ z = S8 (List.replicate q 48)) (fun _ i => s.size - (intOf i).toNat)
      case atStart => exact ⟨0, Nat.zero_le _, by congr 1; omega, rfl⟩
      case round =>
        obtain ⟨q, hq, rfl, rfl⟩ := hrel
        by_cases hlt : q < s.size
        · have j1 : (q : Int) < (s.size : Int) := by omega
          go_wp2
          go_round
          case rel => exact ⟨q + 1, by omega, by go_num, rep_snoc q⟩
          case measure => simp [intOf]; omega
        · go_wp2
          go_ret
          exact next_all HA.out (by congr 1; omega) (Below.refl _ _)
    · obtain ⟨m, rfl⟩ : ∃ m, m0 = m + 1 := ⟨m0 - 1, by omega⟩
      have e0 : (((m + 1 : Nat) : Int) - 1) = (m : Int) := by omega
      rw [e0]
      clear e0 h0
      have hm : m < s.size := by omega
      by_cases h9 : s[m] = 57
      · have HN := Lib.hid (drop_nine hm hdr.out h9)
        have g9 : ((s[m].toNat : Int) == 57) = true := by rw [h9]; rfl
        clear h9 hdr
        go_wp2
        go_round
        case rel => exact ⟨m, by omega, by go_num, HN⟩
        case measure => first | (simp [intOf]; done) | (simp [intOf]; omega)
      · have H9 := Lib.hid h9
        have g9 : ((s[m].toNat : Int) == 57) = false := by
          rw [beq_eq_false_iff_ne]
          intro e
          apply h9
          apply UInt8.toNat_inj.1
          have : s[m].toNat = 57 := by omega
          rw [this]; rfl
        clear h9
        go_wp2
        go_loop [4, 5] (fun z i => ∃ q : Nat, m + 1 + q ≤ s.size ∧ i = .int .i64 ((m + 1 + q : Nat) : Int) ∧ z = S8 (List.replicate q 48)) (fun _ i => s.size - (intOf i).toNat)
        case atStart => exact ⟨0, by omega, by go_num, rfl⟩
        case round =>
          obtain ⟨q, hq, rfl, rfl⟩ := hrel
          by_cases hlt : m + 1 + q < s.size
          · have j1 : ((m + 1 + q : Nat) : Int) < (s.size : Int) := by omega
            go_wp2
            go_round
            case rel => exact ⟨q + 1, by omega, by go_num, rep_snoc q⟩
            case measure => simp [intOf]; omega
          · have hqe : q = s.size - (m + 1) := by omega
            have HZ := Lib.hid (show List.replicate q (48 : UInt8) = List.replicate (s.size - (m + 1)) 48 from by rw [hqe])
            have hb0 : (s[m].toNat : Int) < 256 := by have := s[m].toNat_lt; omega
            have hb1 : (0 : Int) ≤ s[m].toNat := by omega
            have hb2 : (s[m].toNat : Int) + 1 < 256 := by
              have hd := (Wd.natDec_digits HD.out).1
              have hm2 : s[m] ∈ s.data.toList := by
                have : s.data.toList[m]'(by rw [← size_list]; exact hm) ∈ s.data.toList := List.getElem_mem _
                exact this
              have := Wd.digit_nat (List.all_eq_true.1 hd _ hm2)
              omega
            have hzl : (List.replicate q (48 : UInt8)).length ≤ 281474976710656 := by simp; omega
            clear hqe
            generalize List.replicate q (48 : UInt8) = Z at *
            go_wp2
            refine wp_region_inv (fun a0 w0 D a wv => ∃ u33 u34 u35 u36 u37 u38 u39 u40 u41 u42 u43 u44 u2 : Value, a = putAll a0 [(33, u33), (34, u34), (35, u35), (36, u36), (37, u37), (38, u38), (39, u39), (40, u40), (41, u41), (42, u42), (43, u43), (44, u44), (2, u2)] ∧ Below w0.heap.size w0 wv ∧ Hid (D 0 → u33 = .string s) ∧ Hid (D 1 → u34 = .int .i64 m) ∧ Hid (D 2 → u35 = .string (s.extract 0 m)) ∧ Hid (D 3 → u36 = .string s) ∧ Hid (D 4 → u37 = .int .i64 m) ∧ Hid (D 5 → u38 = .int .u8 s[m].toNat) ∧ Hid (D 6 → u39 = .int .u8 ((s[m].toNat : Int) + 1)) ∧ Hid (D 7 → ∃ b, u40 = .slice (some ⟨b, 0, none⟩) 1 1 ∧ b < wv.heap.size ∧ wv.cell? ⟨b, 0, none⟩ = some (.int .u8 ((s[m].toNat : Int) + 1))) ∧ Hid (D 8 → u41 = .string ⟨#[UInt8.ofNat (((s[m].toNat : Int) + 1)).toNat]⟩) ∧ Hid (D 9 → u42 = .string (s.extract 0 m ++ ⟨#[UInt8.ofNat (((s[m].toNat : Int) + 1)).toNat]⟩)) ∧ Hid (D 10 → u43 = .string ⟨Z.toArray⟩) ∧ Hid (D 11 → u44 = .string (s.extract 0 m ++ ⟨#[UInt8.ofNat (((s[m].toNat : Int) + 1)).toNat]⟩ ++ ⟨Z.toArray⟩)) ∧ Hid (D 12 → u2 = .string (s.extract 0 m ++ ⟨#[UInt8.ofNat (((s[m].toNat : Int) + 1)).toNat]⟩ ++ ⟨Z.toArray⟩))) rfl ?_ ?_ ?_
            ·
              simp only [putAll, List.setIfInBounds_toArray, List.set_cons_succ, List.set_cons_zero]
              exact ⟨_, _, _, _, _, _, _, _, _, _, _, _, _, rfl, Below.refl _ _, fun h => h.elim, fun h => h.elim, fun h => h.elim, fun h => h.elim, fun h => h.elim, fun h => h.elim, fun h => h.elim, fun h => h.elim, fun h => h.elim, fun h => h.elim, fun h => h.elim, fun h => h.elim, fun h => h.elim⟩
            ·
              simp only [putAll, List.setIfInBounds_toArray, List.set_cons_succ, List.set_cons_zero]
              refine StepsAll.cons ?_ (StepsAll.cons ?_ (StepsAll.cons ?_ (StepsAll.cons ?_ (StepsAll.cons ?_ (StepsAll.cons ?_ (StepsAll.cons ?_ (StepsAll.cons ?_ (StepsAll.cons ?_ (StepsAll.cons ?_ (StepsAll.cons ?_ (StepsAll.cons ?_ (StepsAll.cons ?_ StepsAll.nil))))))))))))
              · rintro D a wg ⟨u33, u34, u35, u36, u37, u38, u39, u40, u41, u42, u43, u44, u2, rfl, hbr, f0, f1, f2, f3, f4, f5, f6, f7, f8, f9, f10, f11, f12⟩ hnd hd
                clear hd
                go_wp2_with (fail)
                refine ⟨_, _, _, _, _, _, _, _, _, _, _, _, _, rfl, hbr, ?_, ?_, ?_, ?_, ?_, ?_, ?_, ?_, ?_, ?_, ?_, ?_, ?_⟩
                · first | exact rfl | exact fun _ => rfl
                · first | exact f1 | exact fun h => h.elim f1.out (fun e => absurd e (by decide))
                · first | exact f2 | exact fun h => h.elim f2.out (fun e => absurd e (by decide))
                · first | exact f3 | exact fun h => h.elim f3.out (fun e => absurd e (by decide))
                · first | exact f4 | exact fun h => h.elim f4.out (fun e => absurd e (by decide))
                · first | exact f5 | exact fun h => h.elim f5.out (fun e => absurd e (by decide))
                · first | exact f6 | exact fun h => h.elim f6.out (fun e => absurd e (by decide))
                · first | exact f7 | exact fun h => h.elim f7.out (fun e => absurd e (by decide))
                · first | exact f8 | exact fun h => h.elim f8.out (fun e => absurd e (by decide))
                · first | exact f9 | exact fun h => h.elim f9.out (fun e => absurd e (by decide))
                · first | exact f10 | exact fun h => h.elim f10.out (fun e => absurd e (by decide))
                · first | exact f11 | exact fun h => h.elim f11.out (fun e => absurd e (by decide))
                · first | exact f12 | exact fun h => h.elim f12.out (fun e => absurd e (by decide))
              · rintro D a wg ⟨u33, u34, u35, u36, u37, u38, u39, u40, u41, u42, u43, u44, u2, rfl, hbr, f0, f1, f2, f3, f4, f5, f6, f7, f8, f9, f10, f11, f12⟩ hnd hd
                clear hd
                go_wp2_with (fail)
                refine ⟨_, _, _, _, _, _, _, _, _, _, _, _, _, rfl, hbr, ?_, ?_, ?_, ?_, ?_, ?_, ?_, ?_, ?_, ?_, ?_, ?_, ?_⟩
                · first | exact f0 | exact fun h => h.elim f0.out (fun e => absurd e (by decide))
                · first | exact rfl | exact fun _ => rfl
                · first | exact f2 | exact fun h => h.elim f2.out (fun e => absurd e (by decide))
                · first | exact f3 | exact fun h => h.elim f3.out (fun e => absurd e (by decide))
                · first | exact f4 | exact fun h => h.elim f4.out (fun e => absurd e (by decide))
                · first | exact f5 | exact fun h => h.elim f5.out (fun e => absurd e (by decide))
                · first | exact f6 | exact fun h => h.elim f6.out (fun e => absurd e (by decide))
                · first | exact f7 | exact fun h => h.elim f7.out (fun e => absurd e (by decide))
                · first | exact f8 | exact fun h => h.elim f8.out (fun e => absurd e (by decide))
                · first | exact f9 | exact fun h => h.elim f9.out (fun e => absurd e (by decide))
                · first | exact f10 | exact fun h => h.elim f10.out (fun e => absurd e (by decide))
                · first | exact f11 | exact fun h => h.elim f11.out (fun e => absurd e (by decide))
                · first | exact f12 | exact fun h => h.elim f12.out (fun e => absurd e (by decide))
              · rintro D a wg ⟨u33, u34, u35, u36, u37, u38, u39, u40, u41, u42, u43, u44, u2, rfl, hbr, f0, f1, f2, f3, f4, f5, f6, f7, f8, f9, f10, f11, f12⟩ hnd hd
                have d0 := hd 0 (by decide)
                obtain rfl := f0.out d0
                have d1 := hd 1 (by decide)
                obtain rfl := f1.out d1
                clear hd
                go_wp2_with (fail)
                refine ⟨_, _, _, _, _, _, _, _, _, _, _, _, _, rfl, hbr, ?_, ?_, ?_, ?_, ?_, ?_, ?_, ?_, ?_, ?_, ?_, ?_, ?_⟩
                · first | exact fun _ => rfl | exact rfl
                · first | exact fun _ => rfl | exact rfl
                · first | exact rfl | exact fun _ => rfl
                · first | exact f3 | exact fun h => h.elim f3.out (fun e => absurd e (by decide))
                · first | exact f4 | exact fun h => h.elim f4.out (fun e => absurd e (by decide))
                · first | exact f5 | exact fun h => h.elim f5.out (fun e => absurd e (by decide))
                · first | exact f6 | exact fun h => h.elim f6.out (fun e => absurd e (by decide))
                · first | exact f7 | exact fun h => h.elim f7.out (fun e => absurd e (by decide))
                · first | exact f8 | exact fun h => h.elim f8.out (fun e => absurd e (by decide))
                · first | exact f9 | exact fun h => h.elim f9.out (fun e => absurd e (by decide))
                · first | exact f10 | exact fun h => h.elim f10.out (fun e => absurd e (by decide))
                · first | exact f11 | exact fun h => h.elim f11.out (fun e => absurd e (by decide))
                · first | exact f12 | exact fun h => h.elim f12.out (fun e => absurd e (by decide))
              · rintro D a wg ⟨u33, u34, u35, u36, u37, u38, u39, u40, u41, u42, u43, u44, u2, rfl, hbr, f0, f1, f2, f3, f4, f5, f6, f7, f8, f9, f10, f11, f12⟩ hnd hd
                clear hd
                go_wp2_with (fail)
                refine ⟨_, _, _, _, _, _, _, _, _, _, _, _, _, rfl, hbr, ?_, ?_, ?_, ?_, ?_, ?_, ?_, ?_, ?_, ?_, ?_, ?_, ?_⟩
                · first | exact f0 | exact fun h => h.elim f0.out (fun e => absurd e (by decide))
                · first | exact f1 | exact fun h => h.elim f1.out (fun e => absurd e (by decide))
                · first | exact f2 | exact fun h => h.elim f2.out (fun e => absurd e (by decide))
                · first | exact rfl | exact fun _ => rfl
                · first | exact f4 | exact fun h => h.elim f4.out (fun e => absurd e (by decide))
                · first | exact f5 | exact fun h => h.elim f5.out (fun e => absurd e (by decide))
                · first | exact f6 | exact fun h => h.elim f6.out (fun e => absurd e (by decide))
                · first | exact f7 | exact fun h => h.elim f7.out (fun e => absurd e (by decide))
                · first | exact f8 | exact fun h => h.elim f8.out (fun e => absurd e (by decide))
                · first | exact f9 | exact fun h => h.elim f9.out (fun e => absurd e (by decide))
                · first | exact f10 | exact fun h => h.elim f10.out (fun e => absurd e (by decide))
                · first | exact f11 | exact fun h => h.elim f11.out (fun e => absurd e (by decide))
                · first | exact f12 | exact fun h => h.elim f12.out (fun e => absurd e (by decide))
              · rintro D a wg ⟨u33, u34, u35, u36, u37, u38, u39, u40, u41, u42, u43, u44, u2, rfl, hbr, f0, f1, f2, f3, f4, f5, f6, f7, f8, f9, f10, f11, f12⟩ hnd hd
                clear hd
                go_wp2_with (fail)
                refine ⟨_, _, _, _, _, _, _, _, _, _, _, _, _, rfl, hbr, ?_, ?_, ?_, ?_, ?_, ?_, ?_, ?_, ?_, ?_, ?_, ?_, ?_⟩
                · first | exact f0 | exact fun h => h.elim f0.out (fun e => absurd e (by decide))
                · first | exact f1 | exact fun h => h.elim f1.out (fun e => absurd e (by decide))
                · first | exact f2 | exact fun h => h.elim f2.out (fun e => absurd e (by decide))
                · first | exact f3 | exact fun h => h.elim f3.out (fun e => absurd e (by decide))
                · first | exact rfl | exact fun _ => rfl
                · first | exact f5 | exact fun h => h.elim f5.out (fun e => absurd e (by decide))
                · first | exact f6 | exact fun h => h.elim f6.out (fun e => absurd e (by decide))
                · first | exact f7 | exact fun h => h.elim f7.out (fun e => absurd e (by decide))
                · first | exact f8 | exact fun h => h.elim f8.out (fun e => absurd e (by decide))
                · first | exact f9 | exact fun h => h.elim f9.out (fun e => absurd e (by decide))
                · first | exact f10 | exact fun h => h.elim f10.out (fun e => absurd e (by decide))
                · first | exact f11 | exact fun h => h.elim f11.out (fun e => absurd e (by decide))
                · first | exact f12 | exact fun h => h.elim f12.out (fun e => absurd e (by decide))
              · rintro D a wg ⟨u33, u34, u35, u36, u37, u38, u39, u40, u41, u42, u43, u44, u2, rfl, hbr, f0, f1, f2, f3, f4, f5, f6, f7, f8, f9, f10, f11, f12⟩ hnd hd
                have d3 := hd 3 (by decide)
                obtain rfl := f3.out d3
                have d4 := hd 4 (by decide)
                obtain rfl := f4.out d4
                clear hd
                go_wp2_with (fail)
                refine ⟨_, _, _, _, _, _, _, _, _, _, _, _, _, rfl, hbr, ?_, ?_, ?_, ?_, ?_, ?_, ?_, ?_, ?_, ?_, ?_, ?_, ?_⟩
                · first | exact f0 | exact fun h => h.elim f0.out (fun e => absurd e (by decide))
                · first | exact f1 | exact fun h => h.elim f1.out (fun e => absurd e (by decide))
                · first | exact f2 | exact fun h => h.elim f2.out (fun e => absurd e (by decide))
                · first | exact fun _ => rfl | exact rfl
                · first | exact fun _ => rfl | exact rfl
                · first | exact rfl | exact fun _ => rfl
                · first | exact f6 | exact fun h => h.elim f6.out (fun e => absurd e (by decide))
                · first | exact f7 | exact fun h => h.elim f7.out (fun e => absurd e (by decide))
                · first | exact f8 | exact fun h => h.elim f8.out (fun e => absurd e (by decide))
                · first | exact f9 | exact fun h => h.elim f9.out (fun e => absurd e (by decide))
                · first | exact f10 | exact fun h => h.elim f10.out (fun e => absurd e (by decide))
                · first | exact f11 | exact fun h => h.elim f11.out (fun e => absurd e (by decide))
                · first | exact f12 | exact fun h => h.elim f12.out (fun e => absurd e (by decide))
              · rintro D a wg ⟨u33, u34, u35, u36, u37, u38, u39, u40, u41, u42, u43, u44, u2, rfl, hbr, f0, f1, f2, f3, f4, f5, f6, f7, f8, f9, f10, f11, f12⟩ hnd hd
                have d5 := hd 5 (by decide)
                obtain rfl := f5.out d5
                clear hd
                go_wp2_with (fail)
                refine ⟨_, _, _, _, _, _, _, _, _, _, _, _, _, rfl, hbr, ?_, ?_, ?_, ?_, ?_, ?_, ?_, ?_, ?_, ?_, ?_, ?_, ?_⟩
                · first | exact f0 | exact fun h => h.elim f0.out (fun e => absurd e (by decide))
                · first | exact f1 | exact fun h => h.elim f1.out (fun e => absurd e (by decide))
                · first | exact f2 | exact fun h => h.elim f2.out (fun e => absurd e (by decide))
                · first | exact f3 | exact fun h => h.elim f3.out (fun e => absurd e (by decide))
                · first | exact f4 | exact fun h => h.elim f4.out (fun e => absurd e (by decide))
                · first | exact fun _ => rfl | exact rfl
                · first | exact rfl | exact fun _ => rfl
                · first | exact f7 | exact fun h => h.elim f7.out (fun e => absurd e (by decide))
                · first | exact f8 | exact fun h => h.elim f8.out (fun e => absurd e (by decide))
                · first | exact f9 | exact fun h => h.elim f9.out (fun e => absurd e (by decide))
                · first | exact f10 | exact fun h => h.elim f10.out (fun e => absurd e (by decide))
                · first | exact f11 | exact fun h => h.elim f11.out (fun e => absurd e (by decide))
                · first | exact f12 | exact fun h => h.elim f12.out (fun e => absurd e (by decide))
              · rintro D a wg ⟨u33, u34, u35, u36, u37, u38, u39, u40, u41, u42, u43, u44, u2, rfl, hbr, f0, f1, f2, f3, f4, f5, f6, f7, f8, f9, f10, f11, f12⟩ hnd hd
                have d6 := hd 6 (by decide)
                obtain rfl := f6.out d6
                clear hd
                go_wp2_with (fail)
                refine ⟨_, _, _, _, _, _, _, _, _, _, _, _, _, rfl, hbr.alloc hbr.size _, ?_, ?_, ?_, ?_, ?_, ?_, ?_, ?_, ?_, ?_, ?_, ?_, ?_⟩
                · first | exact f0 | exact fun h => h.elim f0.out (fun e => absurd e (by decide))
                · first | exact f1 | exact fun h => h.elim f1.out (fun e => absurd e (by decide))
                · first | exact f2 | exact fun h => h.elim f2.out (fun e => absurd e (by decide))
                · first | exact f3 | exact fun h => h.elim f3.out (fun e => absurd e (by decide))
                · first | exact f4 | exact fun h => h.elim f4.out (fun e => absurd e (by decide))
                · first | exact f5 | exact fun h => h.elim f5.out (fun e => absurd e (by decide))
                · first | exact fun _ => rfl | exact rfl
                · first | exact ⟨wg.heap.size, rfl, by simp, by rw [World.cell?_alloc_at _ _ _ _ rfl]; rfl⟩ | exact fun _ => ⟨wg.heap.size, rfl, by simp, by rw [World.cell?_alloc_at _ _ _ _ rfl]; rfl⟩
                · first | exact f8 | exact fun h => h.elim f8.out (fun e => absurd e (by decide))
                · first | exact f9 | exact fun h => h.elim f9.out (fun e => absurd e (by decide))
                · first | exact f10 | exact fun h => h.elim f10.out (fun e => absurd e (by decide))
                · first | exact f11 | exact fun h => h.elim f11.out (fun e => absurd e (by decide))
                · first | exact f12 | exact fun h => h.elim f12.out (fun e => absurd e (by decide))
              · rintro D a wg ⟨u33, u34, u35, u36, u37, u38, u39, u40, u41, u42, u43, u44, u2, rfl, hbr, f0, f1, f2, f3, f4, f5, f6, f7, f8, f9, f10, f11, f12⟩ hnd hd
                have d7 := hd 7 (by decide)
                obtain ⟨b, rfl, hlt, hcell⟩ := f7.out d7
                clear hd
                have s1 := str1c wg b _ (by omega) (by omega) hcell
                go_wp2_with (fail)
                refine ⟨_, _, _, _, _, _, _, _, _, _, _, _, _, rfl, hbr, ?_, ?_, ?_, ?_, ?_, ?_, ?_, ?_, ?_, ?_, ?_, ?_, ?_⟩
                · first | exact f0 | exact fun h => h.elim f0.out (fun e => absurd e (by decide))
                · first | exact f1 | exact fun h => h.elim f1.out (fun e => absurd e (by decide))
                · first | exact f2 | exact fun h => h.elim f2.out (fun e => absurd e (by decide))
                · first | exact f3 | exact fun h => h.elim f3.out (fun e => absurd e (by decide))
                · first | exact f4 | exact fun h => h.elim f4.out (fun e => absurd e (by decide))
                · first | exact f5 | exact fun h => h.elim f5.out (fun e => absurd e (by decide))
                · first | exact f6 | exact fun h => h.elim f6.out (fun e => absurd e (by decide))
                · exact fun _ => ⟨b, rfl, hlt, hcell⟩
                · first | exact rfl | exact fun _ => rfl
                · first | exact f9 | exact fun h => h.elim f9.out (fun e => absurd e (by decide))
                · first | exact f10 | exact fun h => h.elim f10.out (fun e => absurd e (by decide))
                · first | exact f11 | exact fun h => h.elim f11.out (fun e => absurd e (by decide))
                · first | exact f12 | exact fun h => h.elim f12.out (fun e => absurd e (by decide))
              · rintro D a wg ⟨u33, u34, u35, u36, u37, u38, u39, u40, u41, u42, u43, u44, u2, rfl, hbr, f0, f1, f2, f3, f4, f5, f6, f7, f8, f9, f10, f11, f12⟩ hnd hd
                have d2 := hd 2 (by decide)
                obtain rfl := f2.out d2
                have d8 := hd 8 (by decide)
                obtain rfl := f8.out d8
                clear hd
                go_wp2_with (fail)
                refine ⟨_, _, _, _, _, _, _, _, _, _, _, _, _, rfl, hbr, ?_, ?_, ?_, ?_, ?_, ?_, ?_, ?_, ?_, ?_, ?_, ?_, ?_⟩
                · first | exact f0 | exact fun h => h.elim f0.out (fun e => absurd e (by decide))
                · first | exact f1 | exact fun h => h.elim f1.out (fun e => absurd e (by decide))
                · first | exact fun _ => rfl | exact rfl
                · first | exact f3 | exact fun h => h.elim f3.out (fun e => absurd e (by decide))
                · first | exact f4 | exact fun h => h.elim f4.out (fun e => absurd e (by decide))
                · first | exact f5 | exact fun h => h.elim f5.out (fun e => absurd e (by decide))
                · first | exact f6 | exact fun h => h.elim f6.out (fun e => absurd e (by decide))
                · first | exact f7 | exact fun h => h.elim f7.out (fun e => absurd e (by decide))
                · first | exact fun _ => rfl | exact rfl
                · first | exact rfl | exact fun _ => rfl
                · first | exact f10 | exact fun h => h.elim f10.out (fun e => absurd e (by decide))
                · first | exact f11 | exact fun h => h.elim f11.out (fun e => absurd e (by decide))
                · first | exact f12 | exact fun h => h.elim f12.out (fun e => absurd e (by decide))
              · rintro D a wg ⟨u33, u34, u35, u36, u37, u38, u39, u40, u41, u42, u43, u44, u2, rfl, hbr, f0, f1, f2, f3, f4, f5, f6, f7, f8, f9, f10, f11, f12⟩ hnd hd
                clear hd
                go_wp2_with (fail)
                refine ⟨_, _, _, _, _, _, _, _, _, _, _, _, _, rfl, hbr, ?_, ?_, ?_, ?_, ?_, ?_, ?_, ?_, ?_, ?_, ?_, ?_, ?_⟩
                · first | exact f0 | exact fun h => h.elim f0.out (fun e => absurd e (by decide))
                · first | exact f1 | exact fun h => h.elim f1.out (fun e => absurd e (by decide))
                · first | exact f2 | exact fun h => h.elim f2.out (fun e => absurd e (by decide))
                · first | exact f3 | exact fun h => h.elim f3.out (fun e => absurd e (by decide))
                · first | exact f4 | exact fun h => h.elim f4.out (fun e => absurd e (by decide))
                · first | exact f5 | exact fun h => h.elim f5.out (fun e => absurd e (by decide))
                · first | exact f6 | exact fun h => h.elim f6.out (fun e => absurd e (by decide))
                · first | exact f7 | exact fun h => h.elim f7.out (fun e => absurd e (by decide))
                · first | exact f8 | exact fun h => h.elim f8.out (fun e => absurd e (by decide))
                · first | exact f9 | exact fun h => h.elim f9.out (fun e => absurd e (by decide))
                · first | exact rfl | exact fun _ => rfl
                · first | exact f11 | exact fun h => h.elim f11.out (fun e => absurd e (by decide))
                · first | exact f12 | exact fun h => h.elim f12.out (fun e => absurd e (by decide))
              · rintro D a wg ⟨u33, u34, u35, u36, u37, u38, u39, u40, u41, u42, u43, u44, u2, rfl, hbr, f0, f1, f2, f3, f4, f5, f6, f7, f8, f9, f10, f11, f12⟩ hnd hd
                have d9 := hd 9 (by decide)
                obtain rfl := f9.out d9
                have d10 := hd 10 (by decide)
                obtain rfl := f10.out d10
                clear hd
                go_wp2_with (fail)
                refine ⟨_, _, _, _, _, _, _, _, _, _, _, _, _, rfl, hbr, ?_, ?_, ?_, ?_, ?_, ?_, ?_, ?_, ?_, ?_, ?_, ?_, ?_⟩
                · first | exact f0 | exact fun h => h.elim f0.out (fun e => absurd e (by decide))
                · first | exact f1 | exact fun h => h.elim f1.out (fun e => absurd e (by decide))
                · first | exact f2 | exact fun h => h.elim f2.out (fun e => absurd e (by decide))
                · first | exact f3 | exact fun h => h.elim f3.out (fun e => absurd e (by decide))
                · first | exact f4 | exact fun h => h.elim f4.out (fun e => absurd e (by decide))
                · first | exact f5 | exact fun h => h.elim f5.out (fun e => absurd e (by decide))
                · first | exact f6 | exact fun h => h.elim f6.out (fun e => absurd e (by decide))
                · first | exact f7 | exact fun h => h.elim f7.out (fun e => absurd e (by decide))
                · first | exact f8 | exact fun h => h.elim f8.out (fun e => absurd e (by decide))
                · first | exact fun _ => rfl | exact rfl
                · first | exact fun _ => rfl | exact rfl
                · first | exact rfl | exact fun _ => rfl
                · first | exact f12 | exact fun h => h.elim f12.out (fun e => absurd e (by decide))
              · rintro D a wg ⟨u33, u34, u35, u36, u37, u38, u39, u40, u41, u42, u43, u44, u2, rfl, hbr, f0, f1, f2, f3, f4, f5, f6, f7, f8, f9, f10, f11, f12⟩ hnd hd
                have d11 := hd 11 (by decide)
                obtain rfl := f11.out d11
                clear hd
                go_wp2_with (fail)
                refine ⟨_, _, _, _, _, _, _, _, _, _, _, _, _, rfl, hbr, ?_, ?_, ?_, ?_, ?_, ?_, ?_, ?_, ?_, ?_, ?_, ?_, ?_⟩
                · first | exact f0 | exact fun h => h.elim f0.out (fun e => absurd e (by decide))
                · first | exact f1 | exact fun h => h.elim f1.out (fun e => absurd e (by decide))
                · first | exact f2 | exact fun h => h.elim f2.out (fun e => absurd e (by decide))
                · first | exact f3 | exact fun h => h.elim f3.out (fun e => absurd e (by decide))
                · first | exact f4 | exact fun h => h.elim f4.out (fun e => absurd e (by decide))
                · first | exact f5 | exact fun h => h.elim f5.out (fun e => absurd e (by decide))
                · first | exact f6 | exact fun h => h.elim f6.out (fun e => absurd e (by decide))
                · first | exact f7 | exact fun h => h.elim f7.out (fun e => absurd e (by decide))
                · first | exact f8 | exact fun h => h.elim f8.out (fun e => absurd e (by decide))
                · first | exact f9 | exact fun h => h.elim f9.out (fun e => absurd e (by decide))
                · first | exact f10 | exact fun h => h.elim f10.out (fun e => absurd e (by decide))
                · first | exact fun _ => rfl | exact rfl
                · first | exact rfl | exact fun _ => rfl
            simp only [putAll, List.setIfInBounds_toArray, List.set_cons_succ, List.set_cons_zero]
            rintro D a wg hall ⟨u33, u34, u35, u36, u37, u38, u39, u40, u41, u42, u43, u44, u2, rfl, hbr, f0, f1, f2, f3, f4, f5, f6, f7, f8, f9, f10, f11, f12⟩
            obtain rfl := f0.out (hall 0 (by decide))
            obtain rfl := f1.out (hall 1 (by decide))
            obtain rfl := f2.out (hall 2 (by decide))
            obtain rfl := f3.out (hall 3 (by decide))
            obtain rfl := f4.out (hall 4 (by decide))
            obtain rfl := f5.out (hall 5 (by decide))
            obtain rfl := f6.out (hall 6 (by decide))
            obtain ⟨b, rfl, hlt, hcell⟩ := f7.out (hall 7 (by decide))
            obtain rfl := f8.out (hall 8 (by decide))
            obtain rfl := f9.out (hall 9 (by decide))
            obtain rfl := f10.out (hall 10 (by decide))
            obtain rfl := f11.out (hall 11 (by decide))
            obtain rfl := f12.out (hall 12 (by decide))
            clear hall f0 f1 f2 f3 f4 f5 f6 f7 f8 f9 f10 f11 f12
            go_wp2
            go_ret
            exact next_at hm HD.out hdr.out H9.out HZ.out (Below.trans (Below.drew (Below.refl _ _)) hbr)
theorem rnext_l (x : List UInt8) (w : World) (hd : Wd.natDec x = true) (hs : x.length ≤ 281474976710656) : Calls Tryz.prog 36 #[S8 x] w (NextPost x w) := by
  have h := rnext_any ⟨x.toArray⟩ w (by simpa using hd) (by rw [size_mk]; exact hs)
  simpa using h
end Go.Proofs.YtffkohdnhaebjaaGreatDoor
