/-
  Walks: unquote, Unquote of words.
-/
import Derived.Test.YtffkohdnhaebjaaGreatDoorW11
import Derived.Test.YtffkohdnhaebjaaGreatDoorPlain
namespace Go.Proofs.YtffkohdnhaebjaaGreatDoor
open Go.RowKit Go.Shelf

def unqEnd (l : List UInt8) : Ending := match Wd.unq l with
  | some (t, r) => .returned (.tuple #[.string ⟨t.toArray⟩, .int .i64 ((l.length : Int) - r.length)])
  | none => .returned (.tuple #[.string ⟨#[]⟩, .int .i64 0])
theorem unqEnd_none {l : List UInt8} (h : Wd.unq l = none) : unqEnd l = .returned (.tuple #[.string ⟨#[]⟩, .int .i64 0]) := by unfold unqEnd; rw [h]
theorem unqEnd_some {l t r : List UInt8} (h : Wd.unq l = some (t, r)) : unqEnd l = .returned (.tuple #[.string ⟨t.toArray⟩, .int .i64 ((l.length : Int) - r.length)]) := by unfold unqEnd; rw [h]
/-- What is known behind k bytes: acc is read. -/
def UqRel (l acc : List UInt8) (k : Nat) : Prop := Wd.unq l = (Wd.U (l.drop k)).map fun r => (acc ++ r.1, r.2)
theorem drop_cons {s : ByteArray} {k : Nat} (h : k < s.size) : s.data.toList.drop k = s[k] :: s.data.toList.drop (k + 1) := by
  rw [List.drop_eq_getElem_cons (by rw [← size_list]; exact h)]; rfl
theorem uq_end {s : ByteArray} {acc : List UInt8} {k : Nat} (h : UqRel s.data.toList acc k) (hk : s.size ≤ k) : Wd.unq s.data.toList = none := by
  unfold UqRel at h
  rw [List.drop_eq_nil_of_le (by rw [← size_list]; exact hk)] at h
  rw [h]; rfl
theorem uq_quote {s : ByteArray} {acc : List UInt8} {k : Nat} (hk : k < s.size) (h : UqRel s.data.toList acc k) (hc : s[k] = 34) : Wd.unq s.data.toList = some (acc, s.data.toList.drop (k + 1)) := by
  unfold UqRel at h
  rw [h, drop_cons hk, hc, Wd.U_quote]; simp
theorem uq_bad {s : ByteArray} {acc : List UInt8} {k : Nat} (hk : k < s.size) (h : UqRel s.data.toList acc k) (h1 : s[k] ≠ 34) (h2 : s[k] ≠ 92) (hp : Wd.plain s[k] = false) : Wd.unq s.data.toList = none := by
  unfold UqRel at h
  rw [h, drop_cons hk, Wd.U_bad _ hp h1 h2]; rfl
theorem uq_plain {s : ByteArray} {acc : List UInt8} {k : Nat} (hk : k < s.size) (h : UqRel s.data.toList acc k) (h1 : s[k] ≠ 34) (h2 : s[k] ≠ 92) (hp : Wd.plain s[k] = true) : UqRel s.data.toList (acc ++ [s[k]]) (k + 1) := by
  unfold UqRel at h ⊢
  rw [h, drop_cons hk, Wd.U_plain _ hp h1 h2]
  cases Wd.U (s.data.toList.drop (k + 1)) <;> simp
theorem uq_back_none {s : ByteArray} {acc : List UInt8} {k : Nat} (hk : k < s.size) (h : UqRel s.data.toList acc k) (hc : s[k] = 92) (hu : (Wd.unescV (s.data.toList.drop (k + 1))).2 = 0) : Wd.unq s.data.toList = none := by
  unfold UqRel at h
  rw [h, drop_cons hk, hc, Wd.U_back, Wd.unescV_none hu]; rfl
theorem uq_back {s : ByteArray} {acc : List UInt8} {k : Nat} (hk : k < s.size) (h : UqRel s.data.toList acc k) (hc : s[k] = 92) (hu : (Wd.unescV (s.data.toList.drop (k + 1))).2 ≠ 0) :
    UqRel s.data.toList (acc ++ [(Wd.unescV (s.data.toList.drop (k + 1))).1]) (k + (Wd.unescV (s.data.toList.drop (k + 1))).2 + 1) ∧ k + (Wd.unescV (s.data.toList.drop (k + 1))).2 + 1 ≤ s.size := by
  have hs := Wd.unescV_some hu
  have hle := (Wd.unesc_le (x := (Wd.unescV (s.data.toList.drop (k + 1))).1) (k := (Wd.unescV (s.data.toList.drop (k + 1))).2) hs).2
  rw [List.length_drop, ← size_list] at hle
  refine ⟨?_, by omega⟩
  unfold UqRel at h ⊢
  rw [h, drop_cons hk, hc, Wd.U_back, hs]
  simp only [List.drop_drop]
  have e : k + 1 + (Wd.unescV (s.data.toList.drop (k + 1))).2 = k + (Wd.unescV (s.data.toList.drop (k + 1))).2 + 1 := by omega
  rw [e]
  cases Wd.U (s.data.toList.drop (k + (Wd.unescV (s.data.toList.drop (k + 1))).2 + 1)) <;> simp
theorem ext_drop (s : ByteArray) (k : Nat) : (s.extract k s.size).data.toList = s.data.toList.drop k := by
  rw [Lib.extract_data, List.take_of_length_le (by simp)]

set_option maxHeartbeats 1000000 in
set_option maxRecDepth 100000 in
theorem unquote_any (s : ByteArray) (w : World) (hE : Env w) (hs : s.size ≤ 1099511627776) : Calls Tryz.prog 39 #[.string s] w fun e w' => e = unqEnd s.data.toList ∧ Below w.heap.size w w' := by
  have hs63 : s.size ≤ maxLen := by unfold maxLen; omega
  by_cases hz : s.size = 0
  · have hl : s.data.toList = [] := List.eq_nil_of_length_eq_zero (by rw [← size_list]; exact hz)
    have he : s.toList.isEmpty = true := by rw [Lib.toList_data, hl]; rfl
    have HF := Lib.hid (unqEnd_none (l := s.data.toList) (by rw [hl]; rfl))
    clear hl
    go_enter Tryz.func39, Tryz.ntmps39
    go_wp2
    go_ret2
    exact ⟨HF.out.symm, Below.refl _ _⟩
  have hpos : 0 < s.size := by omega
  have hc := list_cons hpos
  have he : s.toList.isEmpty = false := by rw [Lib.toList_data, hc]; rfl
  by_cases h0 : s[0] = 34
  · have h0' : ((s[0].toNat : Int) != 34) = false := by rw [h0]; rfl
    have hrel0 : Hid (UqRel s.data.toList [] 1) := by
      show Wd.unq s.data.toList = _
      have e : s.data.toList.drop 1 = s.data.toList.tail := by simp
      rw [e, hc, h0, Wd.unq_U]
      simp
    clear hc h0
    go_enter Tryz.func39, Tryz.ntmps39
    go_wp2
    go_loopw [4, 5] (fun v i wr => ∃ (k : Nat) (acc : List UInt8), k ≤ s.size ∧ i = .int .i64 k ∧ acc.length ≤ k ∧ OwnB wr w.heap.size v acc ∧ Below w.heap.size w wr ∧ Hid (UqRel s.data.toList acc k)) (fun _ i _ => s.size - (intOf i).toNat)
    case atStart => exact ⟨1, [], hpos, rfl, by simp, OwnB.nil _ _, Below.refl _ _, hrel0⟩
    case round =>
      clear hrel0
      obtain ⟨k, acc, hk, rfl, hal, hown, hbr, hrl⟩ := hrel
      by_cases hlt : k < s.size
      · by_cases c34 : s[k] = 34
        · have c34' : ((s[k].toNat : Int) == 34) = true := by rw [c34]; rfl
          have HF := Lib.hid (unqEnd_some (uq_quote hlt hrl.out c34))
          have hcv := conv_own hown
          clear c34
          go_wp2
          go_ret2
          refine ⟨?_, hbr⟩
          rw [HF.out]
          have e : (s.data.toList.length : Int) - (s.data.toList.drop (k + 1)).length = (k : Int) + 1 := by rw [List.length_drop, ← size_list]; omega
          rw [e]
          rfl
        have c34' : ((s[k].toNat : Int) == 34) = false := by rw [beq_eq_false_iff_ne]; intro e; apply c34; rw [← UInt8.toNat_inj]; simp; omega
        by_cases c92 : s[k] = 92
        · have c92' : ((s[k].toNat : Int) == 92) = true := by rw [c92]; rfl
          have hN := fun h => unqEnd_none (uq_back_none hlt hrl.out c92 h)
          have hR := fun h => uq_back hlt hrl.out c92 h
          have hx : (s.extract (k + 1) s.size).data.toList = s.data.toList.drop (k + 1) := ext_drop s (k + 1)
          have hue : unescEnd (s.extract (k + 1) s.size) = .returned (.tuple #[B8 (Wd.unescV (s.data.toList.drop (k + 1))).1, .int .i64 ((Wd.unescV (s.data.toList.drop (k + 1))).2 : Int)]) := by unfold unescEnd; rw [hx]
          have hle := Nat.le_trans (show (s.extract (k + 1) s.size).size ≤ s.size by simp) hs63
          have hct := unescape_any (s.extract (k + 1) s.size) wr (hE.below hbr) hle
          rw [hue] at hct
          have HC := Lib.hid hct
          clear hct hx hue hle c92 c34
          generalize Wd.unescV (s.data.toList.drop (k + 1)) = q at *
          obtain ⟨x, n⟩ := q
          simp only at HC hN hR
          by_cases hn : n = 0
          · have HF := Lib.hid (hN hn)
            have hn' : ((n : Int) == 0) = true := by rw [hn]; rfl
            clear hN hR hn
            go_wp2_with (go_at_call 60; refine HC.out.mono ?_; rintro e w1 ⟨rfl, hb1⟩)
            go_ret2
            exact ⟨HF.out.symm, Below.trans hbr (Below.mono ‹Below _ _ w1› hbr.size)⟩
          · obtain ⟨hr1, hr2⟩ := hR hn
            have HR := Lib.hid hr1
            have hn' : ((n : Int) == 0) = false := by rw [beq_eq_false_iff_ne]; omega
            clear hN hR hr1
            go_wp2_with (first | (go_at_call 60; refine HC.out.mono ?_; rintro e w1 ⟨rfl, hb1⟩; have hown1 := hown.below hb1; have hbr1 := hbr.trans (hb1.mono hbr.size)) | (at_builtin; refine app8 _ rfl _ _ rfl w.heap.size _ _ [x] rfl (hown1.alloc _) ⟨w1.heap.size, 0, none⟩ 1 rfl (one_new w1 (x)) (by simp only [List.length_cons, List.length_nil]; omega) (by have h1 := hbr1.size; simp; omega) ?_; intro v' w2 hown2 hgr; have hbr2 := below_app (hbr1.alloc hbr1.size _) (hown1.alloc _) hgr (by have h1 := hbr1.size; simp; omega)))
            go_roundw
            case rel => exact ⟨k + n + 1, _, hr2, by go_num, by simp; omega, hown2, hbr2, HR⟩
            case measure => simp [intOf]; omega
        · have c92' : ((s[k].toNat : Int) == 92) = false := by rw [beq_eq_false_iff_ne]; intro e; apply c92; rw [← UInt8.toNat_inj]; simp; omega
          cases hp : Wd.plain s[k]
          · have HF := Lib.hid (unqEnd_none (uq_bad hlt hrl.out c34 c92 hp))
            clear c34 c92
            go_wp2_with (go_at_call 45; refine (isPlain_any _ _).mono ?_; rintro e w' ⟨rfl, rfl⟩)
            go_ret2
            exact ⟨HF.out.symm, hbr⟩
          · have HR := Lib.hid (uq_plain hlt hrl.out c34 c92 hp)
            clear c34 c92
            go_wp2_with (first | (go_at_call 45; refine (isPlain_any _ _).mono ?_; rintro e w' ⟨rfl, rfl⟩) | (at_builtin; refine app8 _ rfl _ _ rfl w.heap.size _ _ [s[k]] rfl (hown.alloc _) ⟨wr.heap.size, 0, none⟩ 1 rfl (one_new wr (s[k])) (by simp only [List.length_cons, List.length_nil]; omega) (by have h1 := hbr.size; simp; omega) ?_; intro v' w2 hown2 hgr; have hbr2 := below_app (hbr.alloc hbr.size _) (hown.alloc _) hgr (by have h1 := hbr.size; simp; omega)))
            go_roundw
            case rel => exact ⟨k + 1, _, hlt, by go_num, by simp; omega, hown2, hbr2, HR⟩
            case measure => simp [intOf]; omega
      · have HF := Lib.hid (unqEnd_none (uq_end hrl.out (by omega)))
        go_wp2
        go_ret2
        exact ⟨HF.out.symm, hbr⟩
  · have h0' : ((s[0].toNat : Int) != 34) = true := by rw [bne_iff_ne]; intro e; apply h0; rw [← UInt8.toNat_inj]; simp; omega
    have HF := Lib.hid (unqEnd_none (l := s.data.toList) (Wd.unq_no (by rw [hc]; simpa using h0)))
    clear hc h0
    go_enter Tryz.func39, Tryz.ntmps39
    go_wp2
    go_ret2
    exact ⟨HF.out.symm, Below.refl _ _⟩

def unquoteEnd (l : List UInt8) : Ending := match Wd.unquote l with
  | some t => .returned (.tuple #[.string ⟨t.toArray⟩, .int .i64 0])
  | none => .returned (.tuple #[.string ⟨#[]⟩, .int .i64 6])

set_option maxHeartbeats 1000000 in
set_option maxRecDepth 100000 in
theorem Unquote_any (s : ByteArray) (w : World) (hE : Env w) (hs : s.size ≤ 1099511627776) : Calls Tryz.prog 13 #[.string s] w fun e w' => e = unquoteEnd s.data.toList ∧ Below w.heap.size w w' := by
  have hct := unquote_any s w hE hs
  cases hu : Wd.unq s.data.toList with
  | none =>
    rw [unqEnd_none hu] at hct
    have HC := Lib.hid hct
    have HF := Lib.hid (show unquoteEnd s.data.toList = .returned (.tuple #[.string ⟨#[]⟩, .int .i64 6]) from by unfold unquoteEnd Wd.unquote; rw [hu])
    clear hct hu hE
    go_enter Tryz.func13, Tryz.ntmps13
    go_wp2_with (go_at_call 39; refine HC.out.mono ?_; rintro e w1 ⟨rfl, hb1⟩)
    go_ret2
    exact ⟨HF.out.symm, ‹_›⟩
  | some p =>
    obtain ⟨t, r⟩ := p
    rw [unqEnd_some hu] at hct
    have hlt := Wd.unq_rest hu
    have hsl := size_list s
    have HC := Lib.hid hct
    by_cases hr : r = []
    · subst hr
      have HF := Lib.hid (show unquoteEnd s.data.toList = .returned (.tuple #[.string ⟨t.toArray⟩, .int .i64 0]) from by unfold unquoteEnd Wd.unquote; rw [hu])
      have e : ((s.data.toList.length : Int) - ([] : List UInt8).length) = (s.size : Int) := by rw [hsl]; simp
      rw [e] at HC
      have p1 : ((s.size : Int) == 0) = false := by rw [beq_eq_false_iff_ne]; omega
      clear hct hu hE hsl hlt e
      go_enter Tryz.func13, Tryz.ntmps13
      go_wp2_with (go_at_call 39; refine HC.out.mono ?_; rintro e w1 ⟨rfl, hb1⟩)
      go_ret2
      exact ⟨HF.out.symm, ‹_›⟩
    · have HF := Lib.hid (show unquoteEnd s.data.toList = .returned (.tuple #[.string ⟨#[]⟩, .int .i64 6]) from by
        unfold unquoteEnd Wd.unquote; rw [hu]
        cases r with
        | nil => exact absurd rfl hr
        | cons => rfl)
      have hrl : 0 < r.length := List.length_pos_iff.2 hr
      obtain ⟨m, hm⟩ : ∃ m : Int, m = ((s.data.toList.length : Int) - r.length) := ⟨_, rfl⟩
      rw [← hm] at HC
      have m0 : 0 < m := by omega
      have m1 : m < s.size := by omega
      have p1 : (m == 0) = false := by rw [beq_eq_false_iff_ne]; omega
      clear hct hu hE hsl hlt hm
      go_enter Tryz.func13, Tryz.ntmps13
      go_wp2_with (go_at_call 39; refine HC.out.mono ?_; rintro e w1 ⟨rfl, hb1⟩)
      go_ret2
      exact ⟨HF.out.symm, ‹_›⟩
end Go.Proofs.YtffkohdnhaebjaaGreatDoor
