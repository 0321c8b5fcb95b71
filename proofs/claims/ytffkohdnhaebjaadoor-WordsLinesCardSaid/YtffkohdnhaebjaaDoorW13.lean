/-
  Walks: the reference's quoted, Unquote.
-/
import Derived.Test.YtffkohdnhaebjaaDoorW12
import Derived.Test.YtffkohdnhaebjaaDoorW10
import Derived.WalkSpells
namespace Go.Proofs.YtffkohdnhaebjaaDoor
open Go.RowKit Go.Shelf

theorem escaped_int (n : Int) (h0 : 0 ≤ n) (h1 : n < 256) (w : World) : Calls Tryd.prog 41 #[.int .u8 n] w fun e w' => e = .returned (.string ⟨(Wd.esc (UInt8.ofNat n.toNat)).toArray⟩) ∧ Below w.heap.size w w' := by
  have e : Value.int .u8 n = B8 (UInt8.ofNat n.toNat) := by
    unfold B8; simp only [UInt8.toNat_ofNat']; congr 1; omega
  rw [e]; exact escaped_any _ w

theorem uq_step {l acc : List UInt8} {k n : Nat} {x : UInt8} (h : UqRel l acc k) (hs : Wd.step1 (l.drop k) = some (x, n)) : UqRel l (acc ++ [x]) (k + n) := by
  unfold UqRel at h ⊢
  rw [h, Wd.U_step hs, List.drop_drop]
  cases Wd.U (l.drop (k + n)) <;> simp
theorem uq_stop {s : ByteArray} {acc : List UInt8} {k : Nat} (hk : k < s.size) (h : UqRel s.data.toList acc k) (hc : s[k] ≠ 34) (hs : Wd.step1 (s.data.toList.drop k) = none) : Wd.unq s.data.toList = none := by
  unfold UqRel at h
  rw [h]
  rw [drop_cons hk] at hs ⊢
  rw [Wd.U_stop hs hc]; rfl
theorem step_none {l : List UInt8} (h : ∀ c : Nat, c < 256 → ¬ (Wd.esc (UInt8.ofNat c) <+: l)) : Wd.step1 l = none := by
  cases hs : Wd.step1 l with
  | none => rfl
  | some p =>
    obtain ⟨x, k⟩ := p
    have := (Wd.prefix_of_step1 hs).1
    exact absurd (by simpa using this) (h x.toNat x.toNat_lt)
theorem prefix_len {s : ByteArray} {k : Nat} {f : List UInt8} (h : f <+: s.data.toList.drop k) : f.length ≤ s.size - k := by
  have := h.length_le
  rw [List.length_drop, ← size_list] at this; exact this
theorem prefix_eq {s : ByteArray} {k : Nat} {f : List UInt8} : ((s.extract k (k + f.length)).toList == f) = true ↔ f <+: s.data.toList.drop k := by
  rw [beq_iff_eq, Lib.extract_toList]
  have e : k + f.length - k = f.length := by omega
  rw [e]
  constructor
  · intro h; rw [← h]; exact List.take_prefix _ _
  · rintro ⟨r, hr⟩; rw [← hr]; simp
theorem esc_pos (c : UInt8) : 1 ≤ (Wd.esc c).length := by
  unfold Wd.esc; split
  · simp
  · split <;> simp

theorem one_new_int (w : World) (c : Nat) (hc : c < 256) : ∀ j (hj : j < [UInt8.ofNat c].length), (w.alloc (.cells #[.int .u8 (c : Int)] 5)).cell? ((⟨w.heap.size, 0, none⟩ : Addr).add j) = some (B8 [UInt8.ofNat c][j]) := by
  have e : Value.int .u8 (c : Int) = B8 (UInt8.ofNat c) := by
    unfold B8; simp only [UInt8.toNat_ofNat']; congr 1; omega
  rw [e]; exact one_new w _

/-- The inner loop's state: not found below c, or found. -/
def InQ (l : List UInt8) (k : Nat) (acc : List UInt8) (B : Nat) (v4 v5 v6 : Value) (c : Nat) (wr : World) : Prop :=
  (v6 = .bool false ∧ v5 = .int .i64 k ∧ OwnB wr B v4 acc ∧ ∀ j : Nat, j < c → ¬ (Wd.esc (UInt8.ofNat j) <+: l.drop k)) ∨
  (v6 = .bool true ∧ ∃ x n, Wd.step1 (l.drop k) = some (x, n) ∧ v5 = .int .i64 ((k : Int) + n) ∧ k + n ≤ l.length ∧ 1 ≤ n ∧ OwnB wr B v4 (acc ++ [x]))

set_option maxHeartbeats 2000000 in
set_option maxRecDepth 100000 in
theorem rquoted_any (s : ByteArray) (w : World) (hs : s.size ≤ 1099511627776) : Calls Tryd.prog 29 #[.string s] w fun e w' => e = unqEnd s.data.toList ∧ Below w.heap.size w w' := by
  by_cases hz : s.size = 0
  · have hl : s.data.toList = [] := List.eq_nil_of_length_eq_zero (by rw [← size_list]; exact hz)
    have he : ((s.size : Int) == 0) = true := by rw [hz]; rfl
    have HF := Lib.hid (unqEnd_none (l := s.data.toList) (by rw [hl]; rfl))
    clear hl hz
    go_enter Tryd.func29, Tryd.ntmps29
    go_wp2
    go_ret2
    exact ⟨HF.out.symm, Below.refl _ _⟩
  have hpos : 0 < s.size := by omega
  have hc := list_cons hpos
  have he : ((s.size : Int) == 0) = false := by rw [beq_eq_false_iff_ne]; omega
  by_cases h0 : s[0] = 34
  · have h0' : ((s[0].toNat : Int) != 34) = false := by rw [h0]; rfl
    have hrel0 : Hid (UqRel s.data.toList [] 1) := by
      show Wd.unq s.data.toList = _
      have e : s.data.toList.drop 1 = s.data.toList.tail := by simp
      rw [e, hc, h0, Wd.unq_U]
      simp
    clear hc h0
    go_enter Tryd.func29, Tryd.ntmps29
    go_wp2
    go_loopw [4, 5] (fun v i wr => ∃ (k : Nat) (acc : List UInt8), k ≤ s.size ∧ i = .int .i64 k ∧ acc.length ≤ k ∧ OwnB wr w.heap.size v acc ∧ Below w.heap.size w wr ∧ Hid (UqRel s.data.toList acc k)) (fun _ i _ => s.size - (intOf i).toNat)
    case atStart => exact ⟨1, [], hpos, rfl, by simp, OwnB.nil _ _, Below.refl _ _, hrel0⟩
    case round =>
      clear hrel0
      obtain ⟨k, acc, hk, rfl, hal, hown, hbr, hrl⟩ := hrel
      by_cases hlt : k < s.size
      · by_cases c34 : s[k] = 34
        · have c34' : ((s[k].toNat : Int) != 34) = false := by rw [c34]; rfl
          have HF := Lib.hid (unqEnd_some (uq_quote hlt hrl.out c34))
          have hcv := conv_own hown
          have hne : ((k : Int) == (s.size : Int)) = false := by rw [beq_eq_false_iff_ne]; omega
          clear c34
          go_wp2
          go_ret2
          refine ⟨?_, hbr⟩
          rw [HF.out]
          have e : (s.data.toList.length : Int) - (s.data.toList.drop (k + 1)).length = (k : Int) + 1 := by rw [List.length_drop, ← size_list]; omega
          rw [e]
          rfl
        have c34' : ((s[k].toNat : Int) != 34) = true := by rw [bne_iff_ne]; intro e; apply c34; rw [← UInt8.toNat_inj]; simp; omega
        obtain ⟨wo, rfl⟩ : ∃ wo : World, wo = wr := ⟨_, rfl⟩
        have HC := Lib.hid c34
        clear c34
        go_wp2
        go_loopw [4, 5, 6, 7] (fun v4 v5 v6 v7 wr => ∃ c : Nat, c ≤ 256 ∧ v7 = .int .i64 c ∧ Below w.heap.size w wr ∧ Hid (InQ s.data.toList k acc w.heap.size v4 v5 v6 c wr)) (fun _ _ v6 v7 _ => 256 - (intOf v7).toNat)
        case atStart => exact ⟨0, by decide, rfl, hbr, .inl ⟨rfl, rfl, hown, fun j h => absurd h (Nat.not_lt_zero _)⟩⟩
        case round =>
          clear hown hbr
          obtain ⟨c, hc256, rfl, hbr, hin⟩ := hrel
          rcases hin.out with ⟨rfl, rfl, hown, hnot⟩ | ⟨rfl, x, n, hst, rfl, hkn, hn1, hown⟩
          · have HN := Lib.hid hnot
            clear hnot hin
            by_cases hc : c < 256
            · have hl1 := esc_pos (UInt8.ofNat c)
              have hl4 := esc_len (UInt8.ofNat c)
              by_cases hp : Wd.esc (UInt8.ofNat c) <+: s.data.toList.drop k
              · have hlen := prefix_len hp
                have heq := prefix_eq.2 hp
                have hb2 : k + (Wd.esc (UInt8.ofNat c)).length ≤ s.size := by omega
                have HS := Lib.hid (Wd.step1_of_prefix hp)
                clear hp
                go_wp2_with (first | (go_at_call 41; refine (escaped_int _ (by omega) (by omega) _).mono ?_; rintro e w1 ⟨rfl, hb1⟩; have hown1 := hown.below hb1; have hbr1 := hbr.trans (hb1.mono hbr.size)) | (at_builtin; refine app8 _ rfl _ _ rfl w.heap.size _ _ [UInt8.ofNat c] rfl (hown1.alloc _) ⟨w1.heap.size, 0, none⟩ 1 rfl (one_new_int w1 c hc) (by simp only [List.length_cons, List.length_nil]; omega) (by have h1 := hbr1.size; simp; omega) ?_; intro v' w2 hown2 hgr; have hbr2 := below_app (hbr1.alloc hbr1.size _) (hown1.alloc _) hgr (by have h1 := hbr1.size; simp; omega)))
                go_roundw
                case rel =>
                  refine ⟨c + 1, by omega, by go_num, hbr2, .inr ⟨rfl, UInt8.ofNat c, _, HS.out, rfl, by rw [← size_list]; exact hb2, hl1, hown2⟩⟩
                case measure => simp [intOf]; omega
              · have HN2 : Hid (∀ j : Nat, j < c + 1 → ¬ (Wd.esc (UInt8.ofNat j) <+: s.data.toList.drop k)) := by
                  intro j hj
                  by_cases hjc : j = c
                  · subst hjc; exact hp
                  · exact HN.out j (by omega)
                by_cases hlen : (Wd.esc (UInt8.ofNat c)).length ≤ s.size - k
                · have heq : ((s.extract k (k + (Wd.esc (UInt8.ofNat c)).length)).toList == Wd.esc (UInt8.ofNat c)) = false := by
                    cases h : ((s.extract k (k + (Wd.esc (UInt8.ofNat c)).length)).toList == Wd.esc (UInt8.ofNat c))
                    · rfl
                    · exact absurd (prefix_eq.1 h) hp
                  have hb2 : k + (Wd.esc (UInt8.ofNat c)).length ≤ s.size := by omega
                  clear hp
                  go_wp2_with (go_at_call 41; refine (escaped_int _ (by omega) (by omega) _).mono ?_; rintro e w1 ⟨rfl, hb1⟩; have hown1 := hown.below hb1; have hbr1 := hbr.trans (hb1.mono hbr.size))
                  go_roundw
                  case rel => exact ⟨c + 1, by omega, by go_num, hbr1, .inl ⟨rfl, rfl, hown1, HN2⟩⟩
                  case measure => simp [intOf]; omega
                · clear hp
                  have hb2 : s.size < k + (Wd.esc (UInt8.ofNat c)).length := by omega
                  go_wp2_with (go_at_call 41; refine (escaped_int _ (by omega) (by omega) _).mono ?_; rintro e w1 ⟨rfl, hb1⟩; have hown1 := hown.below hb1; have hbr1 := hbr.trans (hb1.mono hbr.size))
                  go_roundw
                  case rel => exact ⟨c + 1, by omega, by go_num, hbr1, .inl ⟨rfl, rfl, hown1, HN2⟩⟩
                  case measure => simp [intOf]; omega
            · have hcc : c = 256 := by omega
              subst hcc
              have HF := Lib.hid (unqEnd_none (uq_stop hlt hrl.out HC.out (step_none HN.out)))
              go_wp2
              go_ret2
              exact ⟨HF.out.symm, hbr⟩
          · have HR := Lib.hid (uq_step hrl.out hst)
            have hkn2 : k + n ≤ s.size := by rw [size_list]; exact hkn
            clear hin hst hkn
            go_wp2
            all_goals
              go_roundw
              case rel => exact ⟨k + n, _, hkn2, by go_num, by simp; omega, hown, hbr, HR⟩
              case measure => simp [intOf]; omega
      · have HF := Lib.hid (unqEnd_none (uq_end hrl.out (by omega)))
        have hne : ((k : Int) == (s.size : Int)) = true := by rw [beq_iff_eq]; omega
        go_wp2
        go_ret2
        exact ⟨HF.out.symm, hbr⟩
  · have h0' : ((s[0].toNat : Int) != 34) = true := by rw [bne_iff_ne]; intro e; apply h0; rw [← UInt8.toNat_inj]; simp; omega
    have HF := Lib.hid (unqEnd_none (l := s.data.toList) (Wd.unq_no (by rw [hc]; simpa using h0)))
    clear hc h0
    go_enter Tryd.func29, Tryd.ntmps29
    go_wp2
    go_ret2
    exact ⟨HF.out.symm, Below.refl _ _⟩

set_option maxHeartbeats 1000000 in
set_option maxRecDepth 100000 in
theorem rUnquote_any (s : ByteArray) (w : World) (hs : s.size ≤ 1099511627776) : Calls Tryd.prog 20 #[.string s] w fun e w' => e = unquoteEnd s.data.toList ∧ Below w.heap.size w w' := by
  have hct := rquoted_any s w hs
  cases hu : Wd.unq s.data.toList with
  | none =>
    rw [unqEnd_none hu] at hct
    have HC := Lib.hid hct
    have HF := Lib.hid (show unquoteEnd s.data.toList = .returned (.tuple #[.string ⟨#[]⟩, .int .i64 6]) from by unfold unquoteEnd Wd.unquote; rw [hu])
    clear hct hu
    go_enter Tryd.func20, Tryd.ntmps20
    go_wp2_with (go_at_call 29; refine HC.out.mono ?_; rintro e w1 ⟨rfl, hb1⟩)
    go_ret2
    exact ⟨HF.out.symm, ‹_›⟩
  | some p =>
    obtain ⟨t, r⟩ := p
    rw [unqEnd_some hu] at hct
    have hlt := Wd.unq_rest hu
    have hsl := size_list s
    have HC := Lib.hid hct
    by_cases hr : r = []
    · subst hr
      have HF := Lib.hid (show unquoteEnd s.data.toList = .returned (.tuple #[.string ⟨t.toArray⟩, .int .i64 0]) from by unfold unquoteEnd Wd.unquote; rw [hu])
      have e : ((s.data.toList.length : Int) - ([] : List UInt8).length) = (s.size : Int) := by rw [hsl]; simp
      rw [e] at HC
      have p1 : ((s.size : Int) == 0) = false := by rw [beq_eq_false_iff_ne]; omega
      clear hct hu hsl hlt e
      go_enter Tryd.func20, Tryd.ntmps20
      go_wp2_with (go_at_call 29; refine HC.out.mono ?_; rintro e w1 ⟨rfl, hb1⟩)
      go_ret2
      exact ⟨HF.out.symm, ‹_›⟩
    · have HF := Lib.hid (show unquoteEnd s.data.toList = .returned (.tuple #[.string ⟨#[]⟩, .int .i64 6]) from by
        unfold unquoteEnd Wd.unquote; rw [hu]
        cases r with
        | nil => exact absurd rfl hr
        | cons => rfl)
      have hrl : 0 < r.length := List.length_pos_iff.2 hr
      obtain ⟨m, hm⟩ : ∃ m : Int, m = ((s.data.toList.length : Int) - r.length) := ⟨_, rfl⟩
      rw [← hm] at HC
      have m0 : 0 < m := by omega
      have m1 : m < s.size := by omega
      have p1 : (m == 0) = false := by rw [beq_eq_false_iff_ne]; omega
      have p2 : (m != (s.size : Int)) = true := by rw [bne_iff_ne]; omega
      clear hct hu hsl hlt hm
      go_enter Tryd.func20, Tryd.ntmps20
      go_wp2_with (go_at_call 29; refine HC.out.mono ?_; rintro e w1 ⟨rfl, hb1⟩)
      go_ret2
      exact ⟨HF.out.symm, ‹_›⟩
end Go.Proofs.YtffkohdnhaebjaaDoor
