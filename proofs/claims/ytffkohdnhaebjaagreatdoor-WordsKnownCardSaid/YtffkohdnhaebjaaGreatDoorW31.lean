/-
  Walks: words.compare; the last byte of a decimal form that is no 9.
-/
import Derived.Test.YtffkohdnhaebjaaGreatDoorW28
import Derived.Test.YtffkohdnhaebjaaGreatDoorShelf
import Derived.Lib.TrimAscii
namespace Go.Proofs.YtffkohdnhaebjaaGreatDoor
open Go.RowKit Go.Shelf

def cmpS (a b : List UInt8) : Int := if a.length ≠ b.length then (a.length : Int) - (b.length : Int) else Lib.compareBytes a b
theorem cmpB : ∀ a b : List UInt8, (Lib.compareBytes a b < 0 ↔ a < b) ∧ (0 < Lib.compareBytes a b ↔ b < a)
  | [], [] => by simp [Lib.compareBytes]
  | [], _ :: _ => by simp [Lib.compareBytes]
  | _ :: _, [] => by simp [Lib.compareBytes]
  | x :: a, y :: b => by
    have ih := cmpB a b
    unfold Lib.compareBytes
    rw [List.cons_lt_cons_iff, List.cons_lt_cons_iff]
    by_cases h1 : x < y
    · have h2 : ¬ y < x := fun h => by have := UInt8.lt_iff_toNat_lt.1 h1; have := UInt8.lt_iff_toNat_lt.1 h; omega
      have h3 : y ≠ x := fun h => by subst h; exact h2 h1
      simp [h1, h2, h3]
    · by_cases h2 : y < x
      · have h3 : x ≠ y := fun h => by subst h; exact h1 h2
        simp [h1, h2, h3]
      · have h3 : x = y := by
          apply UInt8.toNat_inj.1
          have a1 : ¬ x.toNat < y.toNat := fun h => h1 (UInt8.lt_iff_toNat_lt.2 h)
          have a2 : ¬ y.toNat < x.toNat := fun h => h2 (UInt8.lt_iff_toNat_lt.2 h)
          omega
        subst h3
        simp [h1, ih]
theorem cmpS_lt {a b : List UInt8} (ha : Wd.natDec a = true) (hb : Wd.natDec b = true) : cmpS a b < 0 ↔ Wd.natVal a < Wd.natVal b := by
  have h := Wd.lessS_iff ha hb
  unfold Wd.lessS at h
  unfold cmpS
  by_cases hl : a.length = b.length
  · rw [if_neg (by omega)] at h ⊢
    rw [(cmpB a b).1]
    simpa using h
  · rw [if_pos hl] at h ⊢
    have h2 : a.length < b.length ↔ Wd.natVal a < Wd.natVal b := by simpa using h
    rw [← h2]; omega
theorem cmpS_gt {a b : List UInt8} (ha : Wd.natDec a = true) (hb : Wd.natDec b = true) : 0 < cmpS a b ↔ Wd.natVal b < Wd.natVal a := by
  have h := Wd.lessS_iff hb ha
  unfold Wd.lessS at h
  unfold cmpS
  by_cases hl : a.length = b.length
  · rw [if_neg (by omega)] at h
    rw [if_neg (by omega), (cmpB a b).2]
    simpa using h
  · rw [if_pos (fun e => hl e.symm)] at h
    rw [if_pos hl]
    have h2 : b.length < a.length ↔ Wd.natVal b < Wd.natVal a := by simpa using h
    rw [← h2]; omega

set_option maxHeartbeats 2000000 in
set_option maxRecDepth 100000 in
theorem compare_any (a b : List UInt8) (w : World) (ha : a.length ≤ 281474976710656) (hb : b.length ≤ 281474976710656) :
    Calls Tryz.prog 30 #[S8 a, S8 b] w fun e w' => e = .returned (.int .i64 (cmpS a b)) ∧ w' = w := by
  by_cases h : a.length = b.length
  · have hne : ((a.length : Int) != (b.length : Int)) = false := by rw [bne_eq_false_iff_eq]; omega
    have HS := Lib.hid (show cmpS a b = Lib.compareBytes a b from by unfold cmpS; rw [if_neg (by omega)])
    have HC := Lib.hid (fun w => Tryz.strings_Compare ⟨a.toArray⟩ ⟨b.toArray⟩ w)
    clear h
    go_enter Tryz.func30, Tryz.ntmps30
    go_wp2_with fail
    refine (HC.out _).mono ?_
    rintro e w' ⟨rfl, rfl⟩
    go_wp2
    go_ret
    refine ⟨?_, rfl⟩
    rw [HS.out]
    simp
  · have hne : ((a.length : Int) != (b.length : Int)) = true := by rw [bne_iff_ne]; omega
    have HS := Lib.hid (show cmpS a b = (a.length : Int) - (b.length : Int) from by unfold cmpS; rw [if_pos h])
    clear h
    go_enter Tryz.func30, Tryz.ntmps30
    go_wp2
    go_ret
    exact ⟨by rw [HS.out]; rfl, rfl⟩

def p9 (r : Nat) : Bool := ((r : Int) != 57)
theorem pred9 (w : World) : PredAt Tryz.prog 54 #[] encR p9 w := fun W r _ => by
  unfold FnGives
  go_enter Tryz.func54, Tryz.ntmps54
  go_wp2
  go_ret
  exact ⟨rfl, 0, rfl⟩
/-- What the last index is: of a form of digits. -/
def LastNo9 (s : ByteArray) (i : Int) : Prop := (i = -1 ∧ s.data.toList = List.replicate s.size 57) ∨
  ∃ (m : Nat) (hm : m < s.size), i = (m : Int) ∧ s[m] ≠ 57 ∧ s.data.toList.drop (m + 1) = List.replicate (s.size - (m + 1)) 57
theorem lif (s : ByteArray) (hd : ∀ x ∈ s.data.toList, x.toNat < 128) : ∀ (f i : Nat), i ≤ f → i ≤ s.size → s.data.toList.drop i = List.replicate (s.size - i) 57 → LastNo9 s (Lib.lastIdxFuncFrom p9 true s f i)
  | 0, i, hf, _, h => by
    obtain rfl : i = 0 := by omega
    refine .inl ⟨rfl, by simpa using h⟩
  | f + 1, i, hf, hi, h => by
    unfold Lib.lastIdxFuncFrom
    by_cases h0 : 0 < i
    · obtain ⟨j, rfl⟩ : ∃ j, i = j + 1 := ⟨i - 1, by omega⟩
      have hj : j < s.size := by omega
      have hl : j < s.data.toList.length := by rw [← size_list]; exact hj
      have hx : s[j].toNat < 128 := hd _ (by have : s.data.toList[j] ∈ s.data.toList := List.getElem_mem _
                                             exact this)
      have ht : s.data.toList.take (j + 1) = s.data.toList.take j ++ [s[j]] := by rw [List.take_succ_eq_append_getElem hl]; rfl
      rw [if_pos h0, ht, Lib.decodeLastL_ascii _ _ hx]
      by_cases h9 : s[j] = 57
      · have e : p9 s[j].toNat = false := by rw [h9]; rfl
        simp only [e, Bool.false_eq_true, if_false]
        exact lif s hd f j (by omega) (by omega) (drop_nine hj h h9)
      · have e : p9 s[j].toNat = true := by
          unfold p9
          rw [bne_iff_ne]
          intro e
          apply h9
          apply UInt8.toNat_inj.1
          have : s[j].toNat = 57 := by omega
          rw [this]; rfl
        simp only [e, if_true]
        exact .inr ⟨j, hj, by simp, h9, h⟩
    · rw [if_neg h0]
      obtain rfl : i = 0 := by omega
      exact .inl ⟨rfl, by simpa using h⟩
set_option maxHeartbeats 2000000 in
set_option maxRecDepth 100000 in
theorem lastIdx_any (s : ByteArray) (w : World) (hs : s.size ≤ 281474976710656) (hT : Lib.Utf8Tabs 5 6 w) (hd : Wd.natDec s.data.toList = true) :
    Calls Tryz.prog 53 #[.string s, .func (.func 54) #[] #[]] w fun e w' => (∃ i, e = .returned (.int .i64 i) ∧ Hid (LastNo9 s i)) ∧ Below w.heap.size w w' := by
  have hC := Tryz.strings_lastIndexFunc 54 #[] (enters_of Tryz.func54 (by kernel_rfl) rfl) p9 true s w (by omega) hT (pred9 w)
  have hx := lif s (fun x hx => by have := Wd.digit_nat (List.all_eq_true.1 (Wd.natDec_digits hd).1 x hx); omega) s.size s.size (Nat.le_refl _) (Nat.le_refl _) (by rw [Nat.sub_self, List.drop_eq_nil_of_le (by rw [← size_list]; omega)]; rfl)
  have HC := Lib.hid hC
  have HX := Lib.hid hx
  clear hC hx hd hT
  go_enter Tryz.func53, Tryz.ntmps53
  go_wp2_with (go_at_call 78; refine HC.out.mono ?_; rintro e w' ⟨rfl, hb⟩)
  go_ret
  exact ⟨⟨_, rfl, HX.out⟩, hb⟩
end Go.Proofs.YtffkohdnhaebjaaGreatDoor
