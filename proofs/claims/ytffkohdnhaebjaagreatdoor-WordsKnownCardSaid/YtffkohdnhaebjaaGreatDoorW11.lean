/-
  Walks: unescape.
-/
import Derived.Test.YtffkohdnhaebjaaGreatDoorOwn
import Derived.Test.YtffkohdnhaebjaaGreatDoorW9
import Derived.Test.YtffkohdnhaebjaaGreatDoorPlain
namespace Go.Proofs.YtffkohdnhaebjaaGreatDoor
open Go.RowKit Go.Shelf

def unescEnd (s : ByteArray) : Ending := .returned (.tuple #[B8 (Wd.unescV s.data.toList).1, .int .i64 ((Wd.unescV s.data.toList).2 : Int)])
theorem unescEnd_of {s : ByteArray} {c : UInt8} {n : Nat} (h : Wd.unescV s.data.toList = (c, n)) : unescEnd s = .returned (.tuple #[B8 c, .int .i64 (n : Int)]) := by unfold unescEnd; rw [h]

/-- Of the first n letters of the table none is c. -/
def unKey (i : Int) : UInt8 := if i = 0 then 34 else if i = 1 then 92 else if i = 2 then 110 else if i = 3 then 114 else 116
def NoU (c : UInt8) (n : Int) : Prop := 0 < n → ∀ i : Int, 0 ≤ i → i < n → c ≠ unKey i
theorem unl_34 {s : ByteArray} (hc : 0 < s.size) (hl : s.data.toList = s[0] :: s.data.toList.tail) (h : (34 == (s[0].toNat : Int)) = true) : Ending.returned (.tuple #[.int .u8 34, .int .i64 1]) = unescEnd s := by
  have e : s[0] = 34 := by rw [← UInt8.toNat_inj]; simp at h; simp; omega
  rw [unescEnd_of (c := 34) (n := 1) (by rw [hl, e]; exact Wd.unesc_letter (by decide))]; rfl
theorem nou_34 (c : UInt8) (h : NoU c 0) (h1 : (34 == (c.toNat : Int)) = false) : NoU c 1 := by
  intro _ i i0 i1
  by_cases hi : i = 0
  · subst hi; intro e; subst e; exact absurd h1 (by decide)
  · exact h (by omega) i i0 (by omega)
theorem unl_92 {s : ByteArray} (hc : 0 < s.size) (hl : s.data.toList = s[0] :: s.data.toList.tail) (h : (92 == (s[0].toNat : Int)) = true) : Ending.returned (.tuple #[.int .u8 92, .int .i64 1]) = unescEnd s := by
  have e : s[0] = 92 := by rw [← UInt8.toNat_inj]; simp at h; simp; omega
  rw [unescEnd_of (c := 92) (n := 1) (by rw [hl, e]; exact Wd.unesc_letter (by decide))]; rfl
theorem nou_92 (c : UInt8) (h : NoU c 1) (h1 : (92 == (c.toNat : Int)) = false) : NoU c 2 := by
  intro _ i i0 i1
  by_cases hi : i = 1
  · subst hi; intro e; subst e; exact absurd h1 (by decide)
  · exact h (by omega) i i0 (by omega)
theorem unl_110 {s : ByteArray} (hc : 0 < s.size) (hl : s.data.toList = s[0] :: s.data.toList.tail) (h : (110 == (s[0].toNat : Int)) = true) : Ending.returned (.tuple #[.int .u8 10, .int .i64 1]) = unescEnd s := by
  have e : s[0] = 110 := by rw [← UInt8.toNat_inj]; simp at h; simp; omega
  rw [unescEnd_of (c := 10) (n := 1) (by rw [hl, e]; exact Wd.unesc_letter (by decide))]; rfl
theorem nou_110 (c : UInt8) (h : NoU c 2) (h1 : (110 == (c.toNat : Int)) = false) : NoU c 3 := by
  intro _ i i0 i1
  by_cases hi : i = 2
  · subst hi; intro e; subst e; exact absurd h1 (by decide)
  · exact h (by omega) i i0 (by omega)
theorem unl_114 {s : ByteArray} (hc : 0 < s.size) (hl : s.data.toList = s[0] :: s.data.toList.tail) (h : (114 == (s[0].toNat : Int)) = true) : Ending.returned (.tuple #[.int .u8 13, .int .i64 1]) = unescEnd s := by
  have e : s[0] = 114 := by rw [← UInt8.toNat_inj]; simp at h; simp; omega
  rw [unescEnd_of (c := 13) (n := 1) (by rw [hl, e]; exact Wd.unesc_letter (by decide))]; rfl
theorem nou_114 (c : UInt8) (h : NoU c 3) (h1 : (114 == (c.toNat : Int)) = false) : NoU c 4 := by
  intro _ i i0 i1
  by_cases hi : i = 3
  · subst hi; intro e; subst e; exact absurd h1 (by decide)
  · exact h (by omega) i i0 (by omega)
theorem unl_116 {s : ByteArray} (hc : 0 < s.size) (hl : s.data.toList = s[0] :: s.data.toList.tail) (h : (116 == (s[0].toNat : Int)) = true) : Ending.returned (.tuple #[.int .u8 9, .int .i64 1]) = unescEnd s := by
  have e : s[0] = 116 := by rw [← UInt8.toNat_inj]; simp at h; simp; omega
  rw [unescEnd_of (c := 9) (n := 1) (by rw [hl, e]; exact Wd.unesc_letter (by decide))]; rfl
theorem nou_116 (c : UInt8) (h : NoU c 4) (h1 : (116 == (c.toNat : Int)) = false) : NoU c 5 := by
  intro _ i i0 i1
  by_cases hi : i = 4
  · subst hi; intro e; subst e; exact absurd h1 (by decide)
  · exact h (by omega) i i0 (by omega)
theorem nou_all (c : UInt8) (h : NoU c 5) : Wd.unletter c = none := by
  have h0 := h (by decide) 0 (by decide) (by decide)
  have h1 := h (by decide) 1 (by decide) (by decide)
  have h2 := h (by decide) 2 (by decide) (by decide)
  have h3 := h (by decide) 3 (by decide) (by decide)
  have h4 := h (by decide) 4 (by decide) (by decide)
  simp [unKey] at h0 h1 h2 h3 h4
  exact Wd.unletter_none ⟨h0, h1, h2, h3, h4⟩
theorem or_fin : ∀ a b : Fin 16, bits BinOp.or IntKind.i64 ((a.val : Int) * 16) (b.val : Int) % 256 = ((UInt8.ofNat a.val * 16 + UInt8.ofNat b.val).toNat : Int) := by decide +kernel
theorem or_hex (a b : UInt8) (ha : a.toNat < 16) (hb : b.toNat < 16) : bits BinOp.or IntKind.i64 ((a.toNat : Int) * 16) (b.toNat : Int) % 256 = ((a * 16 + b).toNat : Int) := by
  have := or_fin ⟨a.toNat, ha⟩ ⟨b.toNat, hb⟩
  simpa only [UInt8.ofNat_toNat] using this
theorem below_dn {B : Nat} {a w : World} (h : Below B a w) (n : Nat) : Below B a (w.drewN n) := ⟨h.os, h.tape, h.output, h.size, h.block⟩
theorem indexByte_any (s : ByteArray) (c : UInt8) (w : World) : Calls Tryz.prog 86 #[.string s, .int .u8 c.toNat] w fun e w' => e = .returned (.int .i64 (Lib.indexByte s.data.toList c)) ∧ w' = w := by
  have h := Tryz.strings_IndexByte s (c.toNat : Int) w
  have e : ((c.toNat : Int).toNat.toUInt8) = c := by simp
  rw [e] at h
  exact h

set_option maxHeartbeats 1000000 in
set_option maxRecDepth 100000 in
theorem unescape_any (s : ByteArray) (w : World) (hE : Env w) (hs : s.size ≤ maxLen) : Calls Tryz.prog 60 #[.string s] w fun e w' => e = unescEnd s ∧ Below w.heap.size w w' := by
  unfold maxLen at hs
  by_cases hz : s.size = 0
  · have hl : s.data.toList = [] := List.eq_nil_of_length_eq_zero (by rw [← size_list]; exact hz)
    have he : s.toList.isEmpty = true := by rw [Lib.toList_data, hl]; rfl
    have HF := Lib.hid (unescEnd_of (s := s) (c := 0) (n := 0) (by rw [hl]; rfl))
    clear hl
    go_enter Tryz.func60, Tryz.ntmps60
    go_wp2
    go_ret2
    exact ⟨HF.out.symm, Below.refl _ _⟩
  have hpos : 0 < s.size := by omega
  have hc := list_cons hpos
  have he : s.toList.isEmpty = false := by rw [Lib.toList_data, hc]; rfl
  have c0 := hE.esc 0 (by decide)
  have c1 := hE.esc 1 (by decide)
  have c2 := hE.esc 2 (by decide)
  have c3 := hE.esc 3 (by decide)
  have c4 := hE.esc 4 (by decide)
  have c5 := hE.esc 5 (by decide)
  have c6 := hE.esc 6 (by decide)
  have c7 := hE.esc 7 (by decide)
  have c8 := hE.esc 8 (by decide)
  have c9 := hE.esc 9 (by decide)
  simp only [List.getD_cons_zero, List.getD_cons_succ] at c0 c1 c2 c3 c4 c5 c6 c7 c8 c9
  have HC := Lib.hid hc
  clear hc
  go_enter Tryz.func60, Tryz.ntmps60
  go_wp2
  clear c0 c1 c2 c3 c4 c5 c6 c7 c8 c9
  go_loopw [12] (fun i wr => ∃ n : Int, 0 ≤ n ∧ n ≤ 5 ∧ i = .int .i64 n ∧ NoU s[0] n ∧ Below w.heap.size w wr) (fun i _ => 5 - (intOf i).toNat)
  case atStart => exact ⟨0, by decide, by decide, rfl, fun h => absurd h (by decide), Below.refl _ _⟩
  case round =>
    obtain ⟨n, h0, h5, rfl, hno, hbr⟩ := hrel
    have hn : n = 0 ∨ n = 1 ∨ n = 2 ∨ n = 3 ∨ n = 4 ∨ n = 5 := by omega
    rcases hn with rfl | rfl | rfl | rfl | rfl | rfl
    · have i1 := ix0
      go_wp2
      go_quiet (fail)
      go_wp2
      · go_ret2
        exact ⟨unl_34 hpos HC.out ‹_›, below_dn (hbr.alloc hbr.size _) _⟩
      · go_roundw
        case rel => exact ⟨1, by decide, by decide, rfl, nou_34 _ hno ‹_›, below_dn (hbr.alloc hbr.size _) _⟩
        case measure => simp [intOf]
    · have i1 := ix1
      go_wp2
      go_quiet (fail)
      go_wp2
      · go_ret2
        exact ⟨unl_92 hpos HC.out ‹_›, below_dn (hbr.alloc hbr.size _) _⟩
      · go_roundw
        case rel => exact ⟨2, by decide, by decide, rfl, nou_92 _ hno ‹_›, below_dn (hbr.alloc hbr.size _) _⟩
        case measure => simp [intOf]
    · have i1 := ix2
      go_wp2
      go_quiet (fail)
      go_wp2
      · go_ret2
        exact ⟨unl_110 hpos HC.out ‹_›, below_dn (hbr.alloc hbr.size _) _⟩
      · go_roundw
        case rel => exact ⟨3, by decide, by decide, rfl, nou_110 _ hno ‹_›, below_dn (hbr.alloc hbr.size _) _⟩
        case measure => simp [intOf]
    · have i1 := ix3
      go_wp2
      go_quiet (fail)
      go_wp2
      · go_ret2
        exact ⟨unl_114 hpos HC.out ‹_›, below_dn (hbr.alloc hbr.size _) _⟩
      · go_roundw
        case rel => exact ⟨4, by decide, by decide, rfl, nou_114 _ hno ‹_›, below_dn (hbr.alloc hbr.size _) _⟩
        case measure => simp [intOf]
    · have i1 := ix4
      go_wp2
      go_quiet (fail)
      go_wp2
      · go_ret2
        exact ⟨unl_116 hpos HC.out ‹_›, below_dn (hbr.alloc hbr.size _) _⟩
      · go_roundw
        case rel => exact ⟨5, by decide, by decide, rfl, nou_116 _ hno ‹_›, below_dn (hbr.alloc hbr.size _) _⟩
        case measure => simp [intOf]
    · have hul := nou_all _ hno
      have hE2 := Lib.hid (hE.below hbr)
      have HE := Lib.hid hE
      clear hno hE
      by_cases hx : s[0] = 120
      · have hx' : ((s[0].toNat : Int) != 120) = false := by rw [hx]; rfl
        by_cases hsh : s.size < 3
        · have HF := Lib.hid (unescEnd_of (s := s) (c := 0) (n := 0) (by rw [HC.out, hx]; exact Wd.unesc_short (by rw [List.length_tail, ← size_list]; omega)))
          clear hx hul
          go_wp2
          go_ret2
          exact ⟨HF.out.symm, hbr⟩
        · have hcc : s.data.toList = (120 : UInt8) :: s[1] :: s[2] :: s.data.toList.drop 3 := by
            have h1 : s.data.toList = s.data.toList.take 3 ++ s.data.toList.drop 3 := (List.take_append_drop 3 _).symm
            have h2 : s.data.toList.take 3 = [s[0], s[1], s[2]] := by
              rw [take_snoc s 2 (by omega), take_snoc s 1 (by omega), take_snoc s 0 (by omega)]; rfl
            rw [h2, hx] at h1; exact h1
          have hun := Wd.unesc_hex (h := s[1]) (k := s[2]) (t := s.data.toList.drop 3)
          rw [← hcc] at hun
          have HU := Lib.hid hun
          clear hun hcc hx hul
          have q1 : (1 : Int) < s.size := by omega
          have q2 : (2 : Int) < s.size := by omega
          cases h1 : Wd.hexv s[1] with
          | none =>
            have j1 : Lib.indexByte [48, 49, 50, 51, 52, 53, 54, 55, 56, 57, 97, 98, 99, 100, 101, 102] s[1] = -1 := Wd.ix_none h1
            have HF := Lib.hid (unescEnd_of (s := s) (c := 0) (n := 0) (by rw [HU.out, h1]))
            clear h1
            go_wp2
            go_quiet ((go_at_call 86; exact Calls.quiet_of_same (indexByte_any _ _ _)))
            go_wp2
            go_ret2
            exact ⟨HF.out.symm, below_dn hbr _⟩
          | some a =>
            have j1 : Lib.indexByte [48, 49, 50, 51, 52, 53, 54, 55, 56, 57, 97, 98, 99, 100, 101, 102] s[1] = (a.toNat : Int) := (Wd.ix_some h1).1
            have la : a.toNat < 16 := (Wd.ix_some h1).2
            cases h2 : Wd.hexv s[2] with
            | none =>
              have j2 : Lib.indexByte [48, 49, 50, 51, 52, 53, 54, 55, 56, 57, 97, 98, 99, 100, 101, 102] s[2] = -1 := Wd.ix_none h2
              have HF := Lib.hid (unescEnd_of (s := s) (c := 0) (n := 0) (by rw [HU.out, h1, h2]))
              clear h1 h2
              go_wp2
              go_quiet ((go_at_call 86; exact Calls.quiet_of_same (indexByte_any _ _ _)))
              go_wp2
              go_ret2
              exact ⟨HF.out.symm, below_dn hbr _⟩
            | some b =>
              have j2 : Lib.indexByte [48, 49, 50, 51, 52, 53, 54, 55, 56, 57, 97, 98, 99, 100, 101, 102] s[2] = (b.toNat : Int) := (Wd.ix_some h2).1
              have lb : b.toNat < 16 := (Wd.ix_some h2).2
              have hun := HU.out
              rw [h1, h2] at hun
              simp only [] at hun
              have HU2 := Lib.hid hun
              clear h1 h2 hun HU
              have hor := or_hex a b la lb
              obtain ⟨c, hcv⟩ : ∃ c, c = a * 16 + b := ⟨_, rfl⟩
              rw [← hcv] at hor HU2
              clear hcv
              cases hp : Wd.plain c
              · cases hl : (Wd.letter c != 0)
                · have hl' : (((Wd.letter c).toNat : Int) != 0) = false := by
                    have e : Wd.letter c = 0 := by simpa using hl
                    rw [e]; rfl
                  have HF := Lib.hid (unescEnd_of (s := s) (c := c) (n := 3) (by rw [HU2.out, hp, hl]; rfl))
                  clear hl
                  go_wp2
                  go_quiet ((go_at_call 86; exact Calls.quiet_of_same (indexByte_any _ _ _)))
                  go_wp2_with (first | (go_at_call 45; refine (isPlain_any c _).mono ?_; rintro e w' ⟨rfl, rfl⟩) | (go_at_call 44; refine (letterOf_any c _ (hE2.out.below (below_dn (Below.refl _ _) _))).mono ?_; rintro e w3 ⟨rfl, hb3⟩))
                  go_ret2
                  exact ⟨HF.out.symm, Below.trans (below_dn hbr _) (Below.mono ‹Below _ _ w3› (by have := hbr.size; simpa using this))⟩
                · have hl' : (((Wd.letter c).toNat : Int) != 0) = true := by
                    rw [bne_iff_ne] at hl ⊢
                    intro e; apply hl; rw [← UInt8.toNat_inj]; simp; omega
                  have HF := Lib.hid (unescEnd_of (s := s) (c := 0) (n := 0) (by rw [HU2.out, hp, hl]; rfl))
                  clear hl
                  go_wp2
                  go_quiet ((go_at_call 86; exact Calls.quiet_of_same (indexByte_any _ _ _)))
                  go_wp2_with (first | (go_at_call 45; refine (isPlain_any c _).mono ?_; rintro e w' ⟨rfl, rfl⟩) | (go_at_call 44; refine (letterOf_any c _ (hE2.out.below (below_dn (Below.refl _ _) _))).mono ?_; rintro e w3 ⟨rfl, hb3⟩))
                  go_ret2
                  exact ⟨HF.out.symm, Below.trans (below_dn hbr _) (Below.mono ‹Below _ _ w3› (by have := hbr.size; simpa using this))⟩
              · have HF := Lib.hid (unescEnd_of (s := s) (c := 0) (n := 0) (by rw [HU2.out, hp]; rfl))
                go_wp2
                go_quiet ((go_at_call 86; exact Calls.quiet_of_same (indexByte_any _ _ _)))
                go_wp2_with (first | (go_at_call 45; refine (isPlain_any c _).mono ?_; rintro e w' ⟨rfl, rfl⟩) | (go_at_call 44; refine (letterOf_any c _ (hE2.out.below (below_dn (Below.refl _ _) _))).mono ?_; rintro e w3 ⟨rfl, hb3⟩))
                go_ret2
                exact ⟨HF.out.symm, below_dn hbr _⟩
      · have hx' : ((s[0].toNat : Int) != 120) = true := by rw [bne_iff_ne]; intro e; apply hx; rw [← UInt8.toNat_inj]; simp; omega
        have HF := Lib.hid (unescEnd_of (s := s) (c := 0) (n := 0) (by rw [HC.out]; exact Wd.unesc_nox hul hx))
        clear hx hul
        go_wp2
        go_ret2
        exact ⟨HF.out.symm, hbr⟩
end Go.Proofs.YtffkohdnhaebjaaGreatDoor
