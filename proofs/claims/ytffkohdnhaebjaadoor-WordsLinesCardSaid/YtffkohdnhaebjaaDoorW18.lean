/-
  Walks: Lines of words and of the reference.
-/
import Derived.Test.YtffkohdnhaebjaaDoorW17
import Derived.Test.YtffkohdnhaebjaaDoorPlain10
import Derived.WalkSpells
namespace Go.Proofs.YtffkohdnhaebjaaDoor
open Go.RowKit Go.Shelf

theorem lines_big {l : List UInt8} (h : 1048576 < l.length) : Wd.lines l = ([], 3) := by unfold Wd.lines; rw [if_pos h]
theorem lines_nil {l : List UInt8} (h : l.length = 0) : Wd.lines l = ([], 0) := by rw [List.eq_nil_of_length_eq_zero h]; rfl
theorem lines_form {l : List UInt8} (h : ¬ 1048576 < l.length) (h0 : l.length ≠ 0) (h1 : l.getLast? ≠ some 10) : Wd.lines l = ([], 6) := by
  unfold Wd.lines; rw [if_neg h, if_neg (by intro e; rw [e] at h0; exact h0 rfl), if_pos h1]
theorem lines_many {l : List UInt8} (h : ¬ 1048576 < l.length) (h0 : l.length ≠ 0) (h1 : l.getLast? = some 10) (h2 : 5000 < (Wd.cutAt 10 l.dropLast).length) : Wd.lines l = ([], 3) := by
  unfold Wd.lines; rw [if_neg h, if_neg (by intro e; rw [e] at h0; exact h0 rfl), if_neg (by rw [h1]; simp), if_pos h2]
theorem lines_ok {l : List UInt8} (h : ¬ 1048576 < l.length) (h0 : l.length ≠ 0) (h1 : l.getLast? = some 10) (h2 : ¬ 5000 < (Wd.cutAt 10 l.dropLast).length) : Wd.lines l = (Wd.cutAt 10 l.dropLast, 0) := by
  unfold Wd.lines; rw [if_neg h, if_neg (by intro e; rw [e] at h0; exact h0 rfl), if_neg (by rw [h1]; simp), if_neg h2]
theorem suffix_last (l : List UInt8) : Lib.hasSuffix l [10] = decide (l.getLast? = some 10) := by
  unfold Lib.hasSuffix
  rw [Bool.eq_iff_iff, List.isSuffixOf_iff_suffix, decide_eq_true_eq]
  constructor
  · rintro ⟨t, rfl⟩; simp
  · intro h
    have hne : l ≠ [] := by intro e; rw [e] at h; simp at h
    refine ⟨l.dropLast, ?_⟩
    have e := List.dropLast_concat_getLast hne
    rw [List.getLast?_eq_some_getLast hne] at h
    rw [Option.some.inj h] at e
    exact e
theorem ext_last (s : ByteArray) : (s.extract 0 (s.size - 1)).data.toList = s.data.toList.dropLast := by
  simp
theorem reads_strs (W : World) (bs : List ByteArray) (T : TypeId) (c : Nat) : ReadsL 1 encS (W.alloc (.cells (bs.map Value.string).toArray T)) (.slice (some ⟨W.heap.size, 0, none⟩) (bs.map (·.data.toList)).length c) (bs.map (·.data.toList)) := by
  refine .inr ⟨W.heap.size, 0, c, rfl, by simp, fun j hj i u hu => ?_⟩
  match i, hu with
  | 0, hu =>
    have hj2 : j < bs.length := by simpa using hj
    simp [encS] at hu
    subst hu
    rw [World.cell?_alloc_at _ _ _ _ rfl]
    simp [hj2]
def LinesPost (l : List UInt8) (w : World) (e : Ending) (w' : World) : Prop := (∃ v, e = .returned (.tuple #[v, .int .i64 (Wd.lines l).2]) ∧ ReadsL 1 encS w' v (Wd.lines l).1) ∧ Below w.heap.size w w'
theorem LinesPost.bad {l : List UInt8} {w w' : World} {n : Int} (h : Wd.lines l = ([], n)) (hb : Below w.heap.size w w') : LinesPost l w (.returned (.tuple #[.slice none 0 0, .int .i64 n])) w' :=
  ⟨⟨_, by rw [h], by rw [h]; exact ReadsL.nil _⟩, hb⟩

set_option maxHeartbeats 1000000 in
set_option maxRecDepth 100000 in
theorem Lines_any (s : ByteArray) (w : World) (hE : Env w) (hs0 : s.size ≤ 140737488351232) : Calls Tryd.prog 44 #[.string s] w (LinesPost s.data.toList w) := by
  have hsl := size_list s
  by_cases hbig : 1048576 < s.size
  · have HS := Lib.hid (lines_big (l := s.data.toList) (by omega))
    clear hsl hE
    go_enter Tryd.func44, Tryd.ntmps44
    go_wp2
    go_ret2
    exact LinesPost.bad HS.out (Below.refl _ _)
  by_cases hz : s.size = 0
  · have HS := Lib.hid (lines_nil (l := s.data.toList) (by omega))
    have he : s.toList.isEmpty = true := by rw [Lib.toList_data, List.isEmpty_iff]; exact List.eq_nil_of_length_eq_zero (by omega)
    clear hsl hE
    go_enter Tryd.func44, Tryd.ntmps44
    go_wp2
    go_ret2
    exact LinesPost.bad HS.out (Below.refl _ _)
  have he : s.toList.isEmpty = false := by rw [Lib.toList_data]; rw [Bool.eq_false_iff]; intro h; rw [List.isEmpty_iff] at h; rw [h] at hsl; exact hz hsl
  have hsx := Tryd.strings_HasSuffix s ⟨#[10]⟩ w (by omega)
  rw [suffix_last] at hsx
  by_cases h10 : s.data.toList.getLast? = some 10
  · rw [decide_eq_true h10] at hsx
    have HX := Lib.hid hsx
    obtain ⟨m, hm⟩ := hE.mx
    have hsp := Tryd.strings_Split (s.extract 0 (s.size - 1)) ⟨#[10]⟩ m w (by have h : (s.extract 0 (s.size - 1)).size ≤ s.size := (by simp); omega) hm (by decide)
    have hdt := Lib.splitB_data ⟨#[10]⟩ 0 (Lib.countB (s.extract 0 (s.size - 1)) ⟨#[10]⟩) (s.extract 0 (s.size - 1))
    have hcn : Lib.countB (s.extract 0 (s.size - 1)) ⟨#[10]⟩ + 1 = (Wd.cutAt 10 s.data.toList.dropLast).length := by
      rw [Wd.count_cutAt]; unfold Lib.countB; rw [ext_last]
    have hdd : (Lib.splitB ⟨#[10]⟩ 0 (Lib.countB (s.extract 0 (s.size - 1)) ⟨#[10]⟩) (s.extract 0 (s.size - 1))).map (·.data.toList) = Wd.cutAt 10 s.data.toList.dropLast := by
      rw [hdt]; unfold Lib.countB; rw [ext_last]; exact Wd.splitK_cutAt 10 _
    rw [hcn] at hsp
    clear hdt hcn hsx
    generalize Lib.splitB ⟨#[10]⟩ 0 (Lib.countB (s.extract 0 (s.size - 1)) ⟨#[10]⟩) (s.extract 0 (s.size - 1)) = bs at hsp hdd
    have HP := Lib.hid hsp
    have HD := Lib.hid hdd
    clear hsp hdd hm hE
    by_cases h5 : 5000 < (Wd.cutAt 10 s.data.toList.dropLast).length
    · have HS := Lib.hid (lines_many (by omega) (by omega) h10 h5)
      clear hsl h10
      go_enter Tryd.func44, Tryd.ntmps44
      go_wp2_with (first | (go_at_call 68; refine HX.out.mono ?_; rintro e w1 ⟨rfl, rfl⟩) | (go_at_call 69; refine HP.out.mono ?_; rintro e w1 ⟨rfl, rfl⟩))
      go_ret2
      exact LinesPost.bad HS.out ((Below.refl _ _).alloc (Nat.le_refl _) _)
    · have HS := Lib.hid (lines_ok (by omega) (by omega) h10 h5)
      have hr := reads_strs w bs 9 (Wd.cutAt 10 s.data.toList.dropLast).length
      rw [HD.out] at hr
      have HR := Lib.hid hr
      clear hsl h10 hr
      go_enter Tryd.func44, Tryd.ntmps44
      go_wp2_with (first | (go_at_call 68; refine HX.out.mono ?_; rintro e w1 ⟨rfl, rfl⟩) | (go_at_call 69; refine HP.out.mono ?_; rintro e w1 ⟨rfl, rfl⟩))
      go_ret2
      exact ⟨⟨_, by rw [HS.out]; rfl, by rw [HS.out]; exact HR.out⟩, (Below.refl _ _).alloc (Nat.le_refl _) _⟩
  · rw [decide_eq_false h10] at hsx
    have HX := Lib.hid hsx
    have HS := Lib.hid (lines_form (by omega) (by omega) h10)
    clear hsl hE hsx h10
    go_enter Tryd.func44, Tryd.ntmps44
    go_wp2_with (go_at_call 68; refine HX.out.mono ?_; rintro e w1 ⟨rfl, rfl⟩)
    go_ret2
    exact LinesPost.bad HS.out (Below.refl _ _)

theorem pcs_take {s : ByteArray} {k : Nat} (h : k < s.size) : Wd.pcs 10 (s.data.toList.take (k + 1)) = if s[k] == 10 then ((Wd.pcs 10 (s.data.toList.take k)).1 ++ [(Wd.pcs 10 (s.data.toList.take k)).2], []) else ((Wd.pcs 10 (s.data.toList.take k)).1, (Wd.pcs 10 (s.data.toList.take k)).2 ++ [s[k]]) := by
  rw [take_snoc s k h, Wd.pcs_snoc]
/-- Where the piece that is not complete begins. -/
def FromAt (s : ByteArray) (k f : Nat) : Prop := f ≤ k ∧ (Wd.pcs 10 (s.data.toList.take k)).2 = (s.data.toList.take k).drop f
theorem from_step {s : ByteArray} {k f : Nat} (hk : k < s.size) (h : FromAt s k f) (hc : (s[k] == 10) = false) : FromAt s (k + 1) f := by
  refine ⟨by have := h.1; omega, ?_⟩
  rw [pcs_take hk, hc, take_snoc s k hk]
  simp only [Bool.false_eq_true, if_false]
  rw [h.2, List.drop_append_of_le_length]
  rw [List.length_take, ← size_list]
  have := h.1
  omega
theorem from_cut {s : ByteArray} {k : Nat} (hk : k < s.size) (hc : (s[k] == 10) = true) : FromAt s (k + 1) (k + 1) := by
  refine ⟨Nat.le_refl _, ?_⟩
  rw [pcs_take hk, hc]
  simp only [if_true]
  rw [List.drop_eq_nil_of_le]
  rw [List.length_take]; omega
theorem from_ext {s : ByteArray} {k f : Nat} (h : FromAt s k f) : (s.extract f k) = ⟨((Wd.pcs 10 (s.data.toList.take k)).2).toArray⟩ := by
  apply ByteArray.ext
  apply Array.ext'
  rw [h.2, List.drop_take]
  simp
theorem pcs_step {s : ByteArray} {k : Nat} (hk : k < s.size) (hc : (s[k] == 10) = false) : (Wd.pcs 10 (s.data.toList.take (k + 1))).1 = (Wd.pcs 10 (s.data.toList.take k)).1 := by
  rw [pcs_take hk, hc]; rfl
theorem pcs_cut {s : ByteArray} {k : Nat} (hk : k < s.size) (hc : (s[k] == 10) = true) : (Wd.pcs 10 (s.data.toList.take (k + 1))).1 = (Wd.pcs 10 (s.data.toList.take k)).1 ++ [(Wd.pcs 10 (s.data.toList.take k)).2] := by
  rw [pcs_take hk, hc]; rfl
theorem pcs_le (s : ByteArray) (k : Nat) : (Wd.pcs 10 (s.data.toList.take k)).1.length ≤ k := by
  have := Wd.pcs_len 10 (s.data.toList.take k)
  rw [List.length_take] at this
  omega

set_option maxHeartbeats 1000000 in
set_option maxRecDepth 100000 in
theorem rLines_any (s : ByteArray) (w : World) (hs0 : s.size ≤ 140737488351232) : Calls Tryd.prog 45 #[.string s] w (LinesPost s.data.toList w) := by
  have hsl := size_list s
  by_cases hbig : 1048576 < s.size
  · have HS := Lib.hid (lines_big (l := s.data.toList) (by omega))
    clear hsl
    go_enter Tryd.func45, Tryd.ntmps45
    go_wp2
    go_ret2
    exact LinesPost.bad HS.out (Below.refl _ _)
  by_cases hz : s.size = 0
  · have HS := Lib.hid (lines_nil (l := s.data.toList) (by omega))
    have he : s.toList.isEmpty = true := by rw [Lib.toList_data, List.isEmpty_iff]; exact List.eq_nil_of_length_eq_zero (by omega)
    clear hsl
    go_enter Tryd.func45, Tryd.ntmps45
    go_wp2
    go_ret2
    exact LinesPost.bad HS.out (Below.refl _ _)
  have he : s.toList.isEmpty = false := by rw [Lib.toList_data]; rw [Bool.eq_false_iff]; intro h; rw [List.isEmpty_iff] at h; rw [h] at hsl; exact hz hsl
  have hpos : 0 < s.size := by omega
  have hlast : s.data.toList.getLast? = some (s[s.size - 1]'(Nat.sub_lt hpos Nat.one_pos)) := by
    rw [List.getLast?_eq_getElem?, ← size_list, List.getElem?_eq_getElem (by rw [← size_list]; omega)]
    rfl
  by_cases h10 : s[s.size - 1]'(Nat.sub_lt hpos Nat.one_pos) = 10
  · have h10' : (((s[s.size - 1]'(Nat.sub_lt hpos Nat.one_pos)).toNat : Int) != 10) = false := by rw [h10]; rfl
    rw [h10] at hlast
    have hfin := Wd.pcs_last 10 s.data.toList hlast
    have HF := Lib.hid hfin
    have HL := Lib.hid hlast
    have HSL := Lib.hid hsl
    clear hfin hlast h10 hsl
    go_enter Tryd.func45, Tryd.ntmps45
    go_wp2
    go_loopw [4, 5, 6] (fun v f i wr => ∃ (k n : Nat), k ≤ s.size ∧ i = .int .i64 k ∧ f = .int .i64 n ∧ n ≤ k ∧ Hid (FromAt s k n) ∧ OwnL 9 1 encS wr w.heap.size v (Wd.pcs 10 (s.data.toList.take k)).1 ∧ Below w.heap.size w wr) (fun _ _ i _ => s.size - (intOf i).toNat)
    case atStart => exact ⟨0, 0, Nat.zero_le _, rfl, rfl, Nat.le_refl _, ⟨Nat.le_refl _, by simp [Wd.pcs]⟩, OwnL.nil _ _, Below.refl _ _⟩
    case round =>
      obtain ⟨k, n, hk, rfl, rfl, hnk, hfr, hown, hbr⟩ := hrel
      have hbs := hbr.size
      have hpl := pcs_le s k
      by_cases hlt : k < s.size
      · by_cases hc : (s[k] == 10) = true
        · have hc' : ((s[k].toNat : Int) == 10) = true := by rw [beq_iff_eq] at hc; rw [hc]; rfl
          have HS1 := Lib.hid (pcs_cut hlt hc)
          have HF1 := Lib.hid (from_cut hlt hc)
          have HE := Lib.hid (from_ext hfr.out)
          clear hc
          go_wp2_with (at_builtin; refine appL elS _ rfl _ _ rfl w.heap.size _ _ ((Wd.pcs 10 (s.data.toList.take k)).2) rfl (hown.alloc _) _ 1 rfl (newS _ _ _ _ (by rw [HE.out])) (by unfold maxLen; omega) (by omega) (by simp; omega) ?_; rintro v2 w2 hown2 hgr ⟨g2, c2, rfl⟩; have hbr2 := below_appL (hbr.alloc hbs _) (hown.alloc _) hgr (by simp; omega))
          go_roundw
          case rel => exact ⟨k + 1, k + 1, by omega, by go_num, by go_num, Nat.le_refl _, HF1, by rw [HS1.out]; exact hown2, hbr2⟩
          case measure => simp [intOf]; omega
        · have hc' : ((s[k].toNat : Int) == 10) = false := by rw [beq_eq_false_iff_ne]; intro e; apply hc; rw [beq_iff_eq, ← UInt8.toNat_inj]; simp; omega
          have HS1 := Lib.hid (pcs_step hlt (Bool.not_eq_true _ ▸ hc))
          have HF1 := Lib.hid (from_step hlt hfr.out (Bool.not_eq_true _ ▸ hc))
          clear hc
          go_wp2
          go_roundw
          case rel => exact ⟨k + 1, n, by omega, by go_num, rfl, by omega, HF1, by rw [HS1.out]; exact hown, hbr⟩
          case measure => simp [intOf]; omega
      · have eT : s.data.toList.take k = s.data.toList := List.take_of_length_le (by have := HSL.out; omega)
        rw [eT, HF.out] at hown
        rw [eT, HF.out] at hpl
        have hrd := hown.reads elS.len
        obtain ⟨a0, c0, hv⟩ := hrd.len
        subst hv
        by_cases h5 : 5000 < (Wd.cutAt 10 s.data.toList.dropLast).length
        · have HS := Lib.hid (lines_many (l := s.data.toList) (by have := HSL.out; omega) (by have := HSL.out; omega) HL.out h5)
          clear eT
          go_wp2
          go_ret2
          exact LinesPost.bad HS.out hbr
        · have HS := Lib.hid (lines_ok (l := s.data.toList) (by have := HSL.out; omega) (by have := HSL.out; omega) HL.out h5)
          clear eT
          go_wp2
          go_ret2
          exact ⟨⟨_, by rw [HS.out]; rfl, by rw [HS.out]; exact hrd⟩, hbr⟩
  · have h10' : (((s[s.size - 1]'(Nat.sub_lt hpos Nat.one_pos)).toNat : Int) != 10) = true := by rw [bne_iff_ne]; intro e; apply h10; rw [← UInt8.toNat_inj]; simp; omega
    have HS := Lib.hid (lines_form (l := s.data.toList) (by omega) (by omega) (by rw [hlast]; simpa using h10))
    clear hsl h10 hlast
    go_enter Tryd.func45, Tryd.ntmps45
    go_wp2
    go_ret2
    exact LinesPost.bad HS.out (Below.refl _ _)
end Go.Proofs.YtffkohdnhaebjaaDoor
