/-
  Walks: the reference's Join.
-/
import Derived.Test.YtffkohdnhaebjaaDoorOwnF
import Derived.Test.YtffkohdnhaebjaaDoorW10
import Derived.Test.YtffkohdnhaebjaaDoorW2
import Derived.Test.YtffkohdnhaebjaaDoorGen
import Derived.Test.YtffkohdnhaebjaaDoorPlain8
namespace Go.Proofs.YtffkohdnhaebjaaDoor
open Go.RowKit Go.Shelf

def joinEnd (l : List Wd.Fld) : Ending := .returned (.tuple #[S8 (Wd.join l).1, .int .i64 (Wd.join l).2])
theorem join_long {l : List Wd.Fld} (h : 64 < l.length) : joinEnd l = .returned (.tuple #[.string ⟨#[]⟩, .int .i64 3]) := by unfold joinEnd Wd.join; rw [if_pos h]
theorem join_fld {l : List Wd.Fld} {k : Nat} (h : ¬ 64 < l.length) (hk : k < l.length) (h2 : 2000 < l[k].1.length) : joinEnd l = .returned (.tuple #[.string ⟨#[]⟩, .int .i64 3]) := by
  unfold joinEnd Wd.join; rw [if_neg h, if_pos]
  rw [List.any_eq_true]; exact ⟨l[k], List.getElem_mem _, by simpa using h2⟩
theorem no_any {l : List Wd.Fld} (h2 : ∀ j (hj : j < l.length), l[j].1.length ≤ 2000) : ¬ (l.any (fun f => decide (2000 < f.1.length))) = true := by
  rw [Bool.not_eq_true, List.any_eq_false]
  intro f hf
  obtain ⟨j, hj, rfl⟩ := List.getElem_of_mem hf
  have := h2 j hj
  simp; omega
theorem join_form {l : List Wd.Fld} {k : Nat} (h : ¬ 64 < l.length) (h2 : ∀ j (hj : j < l.length), l[j].1.length ≤ 2000) (hk : k < l.length) (h3 : Wd.okFld l[k] = false) :
    joinEnd l = .returned (.tuple #[.string ⟨#[]⟩, .int .i64 6]) := by
  unfold joinEnd Wd.join; rw [if_neg h, if_neg (no_any h2), if_pos]
  rw [Bool.not_eq_true', List.all_eq_false]; exact ⟨l[k], List.getElem_mem _, by simp [h3]⟩
theorem join_done {l : List Wd.Fld} (h : ¬ 64 < l.length) (h2 : ∀ j (hj : j < l.length), l[j].1.length ≤ 2000) (h3 : ∀ j (hj : j < l.length), Wd.okFld l[j] = true) :
    (8192 < (Lib.join (l.map Wd.word) [32]).length → joinEnd l = .returned (.tuple #[.string ⟨#[]⟩, .int .i64 3])) ∧
    (¬ 8192 < (Lib.join (l.map Wd.word) [32]).length → joinEnd l = .returned (.tuple #[S8 (Lib.join (l.map Wd.word) [32]), .int .i64 0])) := by
  have e : ¬ (!l.all Wd.okFld) = true := by
    rw [Bool.not_eq_true, Bool.not_eq_false', List.all_eq_true]
    intro f hf
    obtain ⟨j, hj, rfl⟩ := List.getElem_of_mem hf
    exact h3 j hj
  unfold joinEnd Wd.join; rw [if_neg h, if_neg (no_any h2), if_neg e]
  constructor
  · intro h4; rw [if_pos h4]
  · intro h4; rw [if_neg h4]
def joinK (l : List Wd.Fld) (k : Nat) : List UInt8 := Lib.join ((l.take k).map Wd.word) [32]
theorem joinK_zero (l : List Wd.Fld) : joinK l 0 = [] := by simp [joinK, Lib.join_nil]
theorem joinK_first {l : List Wd.Fld} (h : 0 < l.length) : joinK l 1 = Wd.word l[0] := by
  unfold joinK; rw [List.take_succ_eq_append_getElem h]; simp [Lib.join_one]
theorem joinK_next {l : List Wd.Fld} {k : Nat} (h : k < l.length) (h0 : 0 < k) : joinK l (k + 1) = joinK l k ++ [32] ++ Wd.word l[k] := by
  unfold joinK
  rw [List.take_succ_eq_append_getElem h, List.map_append, List.map_singleton, Wd.join_snoc, if_neg, List.append_assoc]
  intro e
  have := congrArg List.length e
  rw [List.length_map, List.length_take, List.length_nil] at this
  omega
theorem word_le (f : Wd.Fld) (h : f.1.length ≤ 2000) : (Wd.word f).length ≤ 8002 := by
  unfold Wd.word
  split
  · unfold Wd.quote
    have := flat_len f.1
    simp only [List.length_cons, List.length_append, List.length_nil]; omega
  · omega
theorem joinK_le {l : List Wd.Fld} (h2 : ∀ j (hj : j < l.length), l[j].1.length ≤ 2000) : ∀ k, k ≤ l.length → (joinK l k).length ≤ 8003 * k := by
  intro k
  induction k with
  | zero => intro _; rw [joinK_zero]; simp
  | succ k ih =>
    intro hk
    have h3 := word_le l[k] (h2 k (by omega))
    by_cases h0 : k = 0
    · subst h0; rw [joinK_first (by omega)]; omega
    · rw [joinK_next (by omega) (by omega), List.length_append, List.length_append]
      have := ih (by omega)
      simp only [List.length_cons, List.length_nil]; omega
theorem joinK_all {l : List Wd.Fld} {k : Nat} (h : l.length ≤ k) : joinK l k = Lib.join (l.map Wd.word) [32] := by unfold joinK; rw [List.take_of_length_le h]

theorem bcat (a b : List UInt8) : ((⟨a.toArray⟩ : ByteArray) ++ (⟨b.toArray⟩ : ByteArray)) = ⟨(a ++ b).toArray⟩ := by
  apply ByteArray.ext
  simp
theorem cat3 (a c : List UInt8) : Value.string ((⟨a.toArray⟩ : ByteArray) ++ (⟨#[32]⟩ : ByteArray) ++ (⟨c.toArray⟩ : ByteArray)) = S8 (a ++ [32] ++ c) := by
  have h : (⟨#[32]⟩ : ByteArray) = ⟨[32].toArray⟩ := rfl
  rw [h, bcat, bcat]
theorem cat0 {l : List Wd.Fld} {k : Nat} (hlt : k < l.length) (h0 : k = 0) : Value.string ((⟨(joinK l k).toArray⟩ : ByteArray) ++ (⟨(Wd.word l[k]).toArray⟩ : ByteArray)) = S8 (joinK l (k + 1)) := by
  subst h0
  rw [joinK_first hlt, joinK_zero, bcat]; rfl
theorem size_mk (x : List UInt8) : (⟨x.toArray⟩ : ByteArray).size = x.length := by
  show x.toArray.size = _
  simp
theorem rquote_l (x : List UInt8) (w : World) (hs : x.length ≤ 1099511627776) : Calls Tryd.prog 22 #[S8 x] w fun e w' => e = .returned (S8 (Wd.quote x)) ∧ Below w.heap.size w w' := by
  have h := rquote_any ⟨x.toArray⟩ w (by rw [size_mk]; exact hs)
  simpa using h
theorem rbare_l (x : List UInt8) (w : World) (hs : x.length ≤ maxLen) : Calls Tryd.prog 30 #[S8 x] w fun e w' => e = .returned (.bool (Wd.bare x)) ∧ w = w' := by
  have h := rbare_any ⟨x.toArray⟩ w (by rw [size_mk]; exact hs)
  simpa using h

set_option maxHeartbeats 2000000 in
set_option maxRecDepth 100000 in
theorem rJoin_any (v : Value) (l : List Wd.Fld) (w : World) (h1 : ReadsF w v l) (hl : l.length ≤ 4294967296) :
    Calls Tryd.prog 25 #[v] w fun e w' => e = joinEnd l ∧ Below w.heap.size w w' := by
  by_cases hlong : 64 < l.length
  · have HS := Lib.hid (join_long hlong)
    rcases h1 with ⟨a, cap, rfl, rfl⟩ | ⟨b, o, cap, rfl, hb, hc⟩
    · simp at hlong
    clear hc
    go_enter Tryd.func25, Tryd.ntmps25
    go_wp2
    go_ret2
    exact ⟨HS.out.symm, Below.refl _ _⟩
  rcases h1 with ⟨a, cap, rfl, rfl⟩ | ⟨b, o, cap, rfl, hb, hc⟩
  · have HS := Lib.hid (show joinEnd [] = .returned (.tuple #[.string ⟨#[]⟩, .int .i64 0]) from rfl)
    clear hlong hl
    go_enter Tryd.func25, Tryd.ntmps25
    go_wp2
    refine wp_loop_rounds 1 ?_
    rw [rounds_succ]
    go_wp2
    refine wp_loop_rounds 1 ?_
    rw [rounds_succ]
    go_wp2
    go_ret2
    exact ⟨HS.out.symm, Below.refl _ _⟩
  have hl64 : l.length ≤ 64 := by omega
  go_enter Tryd.func25, Tryd.ntmps25
  go_wp2
  go_loop [4] (fun i => ∃ k : Nat, k ≤ l.length ∧ i = .int .i64 k ∧ Hid (∀ j, j < k → (hj : j < l.length) → l[j].1.length ≤ 2000)) (fun i => l.length - (intOf i).toNat)
  case atStart => exact ⟨0, Nat.zero_le _, rfl, fun j h => absurd h (Nat.not_lt_zero _)⟩
  case round =>
    obtain ⟨k, hk, rfl, hno⟩ := hrel
    by_cases hlt : k < l.length
    · have c1 := (hc k hlt).1
      rw [Nat.mul_comm] at c1
      have hcs := Lib.hid hc
      clear hc
      have i1 : (k : Int) < (l.length : Int) := by omega
      by_cases hq : 2000 < l[k].1.length
      · have HS := Lib.hid (join_fld hlong hlt hq)
        go_wp2
        go_ret2
        exact ⟨HS.out.symm, Below.refl _ _⟩
      · have HN : Hid (∀ j, j < k + 1 → (hj : j < l.length) → l[j].1.length ≤ 2000) := by
          intro j hj hjl
          by_cases e : j = k
          · subst e; omega
          · exact hno.out j (by omega) hjl
        go_wp2
        go_round
        case rel => exact ⟨k + 1, by omega, by go_num, HN⟩
        case measure => simp [intOf]; omega
    · have hal : Hid (∀ j (hj : j < l.length), l[j].1.length ≤ 2000) := fun j hj => hno.out j (by omega) hj
      have hcs := Lib.hid hc
      clear hno hc
      go_wp2
      go_loopw [5, 6] (fun s i wr => ∃ k : Nat, k ≤ l.length ∧ i = .int .i64 k ∧ s = S8 (joinK l k) ∧ Below w.heap.size w wr ∧ Hid (∀ j, j < k → (hj : j < l.length) → Wd.okFld l[j] = true)) (fun _ i _ => l.length - (intOf i).toNat)
      case atStart => exact ⟨0, Nat.zero_le _, rfl, by rw [joinK_zero], Below.refl _ _, fun j h => absurd h (Nat.not_lt_zero _)⟩
      case round =>
        obtain ⟨k, hk, rfl, rfl, hbr, hno⟩ := hrel
        have hjl := joinK_le hal.out k hk
        by_cases hlt : k < l.length
        · have c1 := (hbr.cell (p := ⟨b, o + 2 * k, none⟩) hb).trans (hcs.out k hlt).1
          have c2 := (hbr.cell (p := ⟨b, o + 2 * k + 1, none⟩) hb).trans (hcs.out k hlt).2
          rw [Nat.mul_comm] at c1 c2
          have i1 : (k : Int) < (l.length : Int) := by omega
          have hwl := word_le l[k] (hal.out k hlt)
          have hfl := hal.out k hlt
          have hno2 : Wd.okFld l[k] = true → Hid (∀ j, j < k + 1 → (hj : j < l.length) → Wd.okFld l[j] = true) := by
            intro h j hj hjl
            by_cases e : j = k
            · subst e; exact h
            · exact hno.out j (by omega) hjl
          cases hq : l[k].2 with
          | true =>
            have HW := Lib.hid (show Wd.word l[k] = Wd.quote l[k].1 from by unfold Wd.word; rw [hq]; rfl)
            have HN := hno2 (by unfold Wd.okFld; rw [hq]; rfl)
            rw [hq] at c2
            clear hno2 hq
            have hql : (Wd.quote l[k].1).length ≤ 8002 := by rw [← HW.out]; exact hwl
            by_cases h0 : 0 < k
            · have HJ := Lib.hid (joinK_next hlt h0)
              go_wp2_with (go_at_call 22; refine (rquote_l _ _ (by omega)).mono ?_; rintro e w1 ⟨rfl, hb1⟩; have hbr1 := hbr.trans (hb1.mono hbr.size))
              go_roundw
              case rel => exact ⟨k + 1, by omega, by go_num, by rw [HJ.out, HW.out]; exact cat3 _ _, hbr1, HN⟩
              case measure => simp [intOf]; omega
            · have h00 : k ≤ 0 := by omega
              go_wp2_with (go_at_call 22; refine (rquote_l _ _ (by omega)).mono ?_; rintro e w1 ⟨rfl, hb1⟩; have hbr1 := hbr.trans (hb1.mono hbr.size))
              go_roundw
              case rel => exact ⟨k + 1, by omega, by go_num, by rw [← HW.out]; exact cat0 hlt (by omega), hbr1, HN⟩
              case measure => simp [intOf]; omega
          | false =>
            have HW := Lib.hid (show Wd.word l[k] = l[k].1 from by unfold Wd.word; rw [hq]; rfl)
            have hok : Wd.okFld l[k] = Wd.bare l[k].1 := by unfold Wd.okFld; rw [hq]; rfl
            rw [hq] at c2
            clear hq
            have hl62 : l[k].1.length ≤ maxLen := by unfold maxLen; omega
            cases hbv : Wd.bare l[k].1 with
            | false =>
              have HS := Lib.hid (join_form hlong hal.out hlt (hok.trans hbv))
              have HB := Lib.hid (rbare_l l[k].1 wr hl62)
              rw [hbv] at HB
              clear hno2 hok hbv
              go_wp2_with (go_at_call 30; refine HB.out.mono ?_; rintro e w1 ⟨rfl, rfl⟩)
              go_ret2
              exact ⟨HS.out.symm, hbr⟩
            | true =>
              have HN := hno2 (hok.trans hbv)
              have HB := Lib.hid (rbare_l l[k].1 wr hl62)
              rw [hbv] at HB
              clear hno2 hok hbv
              by_cases h0 : 0 < k
              · have HJ := Lib.hid (joinK_next hlt h0)
                go_wp2_with (go_at_call 30; refine HB.out.mono ?_; rintro e w1 ⟨rfl, rfl⟩)
                go_roundw
                case rel => exact ⟨k + 1, by omega, by go_num, by rw [HJ.out, HW.out]; exact cat3 _ _, hbr, HN⟩
                case measure => simp [intOf]; omega
              · have h00 : k ≤ 0 := by omega
                go_wp2_with (go_at_call 30; refine HB.out.mono ?_; rintro e w1 ⟨rfl, rfl⟩)
                go_roundw
                case rel => exact ⟨k + 1, by omega, by go_num, by rw [← HW.out]; exact cat0 hlt (by omega), hbr, HN⟩
                case measure => simp [intOf]; omega
        · have HD := Lib.hid (join_done hlong hal.out (fun j hj => hno.out j (by omega) hj))
          have HA := Lib.hid (joinK_all (l := l) (k := k) (by omega))
          by_cases h8 : 8192 < (joinK l k).length
          · have HS := Lib.hid (HD.out.1 (by rw [← HA.out]; exact h8))
            clear HD
            go_wp2
            go_ret2
            exact ⟨HS.out.symm, hbr⟩
          · have HS := Lib.hid (HD.out.2 (by rw [← HA.out]; exact h8))
            clear HD
            go_wp2
            go_ret2
            exact ⟨by rw [HS.out, ← HA.out]; rfl, hbr⟩
end Go.Proofs.YtffkohdnhaebjaaDoor
