/-
  A cell of an element of an owned slice is written. No program of its own.
-/
import Derived.Test.YtgnhbccmdpkbiaaGreatDoorGenAt
import Derived.Test.YtgnhbccmdpkbiaaGreatDoorFaP1
import Derived.Test.YtgnhbccmdpkbiaaGreatDoorFaTx
import Derived.Test.YtgnhbccmdpkbiaaGreatDoorW6
import Derived.Test.YtgnhbccmdpkbiaaGreatDoorFaNm
import Derived.Test.YtgnhbccmdpkbiaaGreatDoorFaw22
import Derived.Deep.DeepCutAuto
namespace Go.Proofs.YtgnhbccmdpkbiaaGreatDoor
open Go.RowKit

section
variable {α : Type} {P : Program} {S T : TypeId} {n b : Nat} {z : Value} {enc : α → List Value}
theorem flat_set (hl : ∀ x, (enc x).length = n) (l : List α) : ∀ (j : Nat) (hj : j < l.length) (i : Nat) (_ : i < n) (u : Value) (x' : α), enc x' = (enc l[j]).set i u → (l.set j x').flatMap enc = (l.flatMap enc).set (j * n + i) u := by
  induction l with
  | nil => intro j hj; simp at hj
  | cons x t ih =>
    intro j hj i hi u x' he
    cases j with
    | zero =>
      simp only [List.getElem_cons_zero] at he
      rw [List.set_cons_zero, List.flatMap_cons, List.flatMap_cons, he, Nat.zero_mul, Nat.zero_add, List.set_append_left _ _ (by rw [hl]; exact hi)]
    | succ j =>
      simp only [List.getElem_cons_succ] at he
      rw [List.set_cons_succ, List.flatMap_cons, List.flatMap_cons, ih j (by simpa using hj) i hi u x' he, List.set_append_right _ _ (by rw [hl, Nat.succ_mul]; omega), hl]
      congr 2
      rw [Nat.succ_mul]; omega
theorem OwnL.setAt (hl : ∀ x, (enc x).length = n) {w : World} {B g m c : Nat} {l : List α} (h : OwnL T n enc w B (.slice (some ⟨g, 0, none⟩) m c) l) {j : Nat} (hj : j < l.length) {i : Nat} (hi : i < n) {u : Value} {x' : α} (he : enc x' = (enc l[j]).set i u) :
    OwnL T n enc (w.setCell ⟨g, j * n + i, none⟩ u) B (.slice (some ⟨g, 0, none⟩) m c) (l.set j x') := by
  obtain ⟨h1, h2⟩ := h
  rcases h2 with ⟨h2, h3⟩ | ⟨g', cap, cur, hv, hb, hg, k1, k2, k3, k4⟩
  · omega
  · simp only [Value.slice.injEq, Option.some.injEq, Addr.mk.injEq, and_true] at hv
    obtain ⟨rfl, hm, rfl⟩ := hv
    refine ⟨?_, .inr ⟨g, c, cur.setIfInBounds (j * n + i) u, ?_, hb, blk_set hg _ _, ?_, k2, ?_, ?_⟩⟩
    · rw [flat_set hl l j hj i hi u x' he, List.length_set, List.length_set, h1]
    · rw [List.length_set, hm]
    · rw [List.length_set]; exact k1
    · simpa using k3
    · rw [flat_set hl l j hj i hi u x' he, ← k4, List.length_set, Array.toList_setIfInBounds, List.take_set]
end
end Go.Proofs.YtgnhbccmdpkbiaaGreatDoor
namespace Go.Proofs.YtgnhbccmdpkbiaaGreatDoor
open Go.RowKit Go.Shelf

/-- A reader: what is left, the nodes, whether a number is out of range. -/
def RS (w : World) (pb B : Nat) (lv : Value) (s : List UInt8) (L : List Fa.Node) (wd : Bool) : Prop :=
  w.heap[pb]? = some (.cells #[S8 s, lv, .bool wd] 118 (0, 0)) ∧ OwnL 52 6 encNode w B lv L ∧ pb < B ∧ B ≤ w.heap.size
theorem own_low {α : Type} {T : TypeId} {n B : Nat} {enc : α → List Value} {w : World} {v : Value} {l : List α} (h : OwnL T n enc w B v l) {a : Addr} (ha : a.block < B) (u : Value) : OwnL T n enc (w.setCell a u) B v l := ownsRow_setCell_below h ha u
theorem RS.set0 {w : World} {pb B : Nat} {lv : Value} {s r : List UInt8} {L : List Fa.Node} {wd : Bool} (h : RS w pb B lv s L wd) {x : ByteArray} (hx : x = ⟨r.toArray⟩) : RS (w.setCell ⟨pb, 0, none⟩ (.string x)) pb B lv r L wd := by
  subst hx
  obtain ⟨h1, h2, h3, h4⟩ := h
  exact ⟨blk_set h1 0 _, own_low h2 h3 _, h3, by simpa [World.setCell] using h4⟩
theorem RS.set2 {w : World} {pb B : Nat} {lv : Value} {s : List UInt8} {L : List Fa.Node} {wd : Bool} (h : RS w pb B lv s L wd) (q : Bool) : RS (w.setCell ⟨pb, 2, none⟩ (.bool q)) pb B lv s L q := by
  obtain ⟨h1, h2, h3, h4⟩ := h
  exact ⟨blk_set h1 2 _, own_low h2 h3 _, h3, by simpa [World.setCell] using h4⟩
theorem RS.below {w w' : World} {pb B : Nat} {lv : Value} {s : List UInt8} {L : List Fa.Node} {wd : Bool} (h : RS w pb B lv s L wd) (hb : Below w.heap.size w w') : RS w' pb B lv s L wd := by
  obtain ⟨h1, h2, h3, h4⟩ := h
  exact ⟨(hb.block _ (lt_of_block h1)).trans h1, h2.below hb, h3, Nat.le_trans h4 hb.size⟩
theorem RS.drew {w : World} {pb B : Nat} {lv : Value} {s : List UInt8} {L : List Fa.Node} {wd : Bool} (h : RS w pb B lv s L wd) : RS w.drew pb B lv s L wd := h
theorem gb_refl (w : World) (r : Option Nat) : w.grownBy w r := ⟨rfl, rfl, rfl, Nat.le_refl _, fun _ _ _ => rfl⟩
theorem ext_to (s : List UInt8) (k : Nat) : (⟨s.toArray⟩ : ByteArray).extract k s.length = ⟨(s.drop k).toArray⟩ := by
  apply ByteArray.ext
  apply Array.ext'
  rw [Lib.extract_data, List.take_of_length_le (by simp)]
theorem ext_up (s : List UInt8) (k : Nat) : (⟨s.toArray⟩ : ByteArray).extract 0 k = ⟨(s.take k).toArray⟩ := by
  apply ByteArray.ext
  apply Array.ext'
  rw [Lib.extract_data]
  simp
theorem pre_cases (p s : List UInt8) (hl : ¬ s.length < p.length) : (((⟨s.toArray⟩ : ByteArray).extract 0 p.length).toList == p) = (Fa.pre p s).isSome := by
  unfold Fa.pre
  rw [Lib.extract_toList, List.drop_zero, Nat.sub_zero]
  show (s.take p.length == p) = _
  by_cases h : p.isPrefixOf s = true
  · rw [if_pos h]
    obtain ⟨t, rfl⟩ := List.isPrefixOf_iff_prefix.1 h
    simp
  · rw [if_neg h]
    show _ = false
    rw [beq_eq_false_iff_ne]
    intro e
    exact h (List.isPrefixOf_iff_prefix.2 ⟨s.drop p.length, by conv => lhs; lhs; rw [← e]
                                                               exact List.take_append_drop _ _⟩)
theorem pre_some {p s : List UInt8} (h : (Fa.pre p s).isSome = true) : Fa.pre p s = some (s.drop p.length) := by
  unfold Fa.pre at h ⊢
  split
  · rfl
  · rename_i h2; rw [if_neg h2] at h; exact absurd h (by simp)
theorem pre_short {p s : List UInt8} (h : s.length < p.length) : Fa.pre p s = none := by
  unfold Fa.pre
  rw [if_neg]
  intro h2
  obtain ⟨t, rfl⟩ := List.isPrefixOf_iff_prefix.1 h2
  simp at h
  omega
def TakesPost (p s : List UInt8) (L : List Fa.Node) (wd : Bool) (pb B : Nat) (lv : Value) (w : World) (e : Ending) (w' : World) : Prop :=
  e = .returned (.bool (Fa.pre p s).isSome) ∧ RS w' pb B lv ((Fa.pre p s).getD s) L wd ∧ w.grownBy w' (some pb)
set_option maxRecDepth 100000 in
theorem takes_any (p s : List UInt8) (L : List Fa.Node) (wd : Bool) (pb B : Nat) (lv : Value) (w : World) (h : RS w pb B lv s L wd) (_ : s.length ≤ 1000000) (_ : p.length ≤ 1000) :
    Calls Tryz.prog 73 #[.pointer (some ⟨pb, 0, none⟩), S8 p] w (TakesPost p s L wd pb B lv w) := by
  have HR := Lib.hid h
  obtain ⟨h1, h2, h3, h4⟩ := h
  have c0 := blk_cell h1 0
  have f0 := blk_free h1 0
  have hz := size_arr
  simp only [List.getElem?_toArray, List.getElem?_cons_zero] at c0
  have HP : Hid (∀ b e w', (Fa.pre p s).isSome = b → e = .returned (.bool b) → RS w' pb B lv ((Fa.pre p s).getD s) L wd → w.grownBy w' (some pb) → TakesPost p s L wd pb B lv w e w') := fun b e w' h1 h2 h3 h4 => ⟨by rw [h2, h1], h3, h4⟩
  clear h1 h2 h3 h4
  by_cases hlen : s.length < p.length
  · have HX := Lib.hid (pre_short hlen)
    have i1 : (s.length : Int) < (p.length : Int) := by omega
    generalize TakesPost p s L wd pb B lv w = R at HP ⊢
    go_enter Tryz.func73, Tryz.ntmps73
    go_wp2
    exact HP.out false _ _ (by rw [HX.out]; rfl) rfl (by rw [HX.out]; exact HR.out) (gb_refl _ _)
  · have i1 : ¬ (s.length : Int) < (p.length : Int) := by omega
    have HX := Lib.hid (pre_cases p s hlen)
    have HD := Lib.hid (ext_to s p.length)
    generalize TakesPost p s L wd pb B lv w = R at HP ⊢
    cases hb : (Fa.pre p s).isSome with
    | true =>
      rw [hb] at HX
      have hx := HX.out
      have HE := Lib.hid (pre_some hb)
      have HB := Lib.hid hb
      clear hb
      go_enter Tryz.func73, Tryz.ntmps73
      go_wp2
      exact HP.out true _ _ HB.out rfl (by rw [HE.out]; exact HR.out.set0 HD.out) (gb_set _ _ _ _)
    | false =>
      rw [hb] at HX
      have hx := HX.out
      have HE : Hid (Fa.pre p s = none) := by
        show _ = _
        cases h : Fa.pre p s with
        | none => rfl
        | some _ => rw [h] at hb; exact absurd hb (by simp)
      have HB := Lib.hid hb
      clear hb
      go_enter Tryz.func73, Tryz.ntmps73
      go_wp2
      exact HP.out false _ _ HB.out rfl (by rw [HE.out]; exact HR.out) (gb_refl _ _)
theorem word_split {s : List UInt8} {q : Nat} (h1 : (s.take q).all Wd.nameCh = true) (h2 : Fa.stops (s.drop q) = true) : Fa.wordOf s = s.take q ∧ Fa.wordTl s = s.drop q := by
  have := Fa.word_app h1 h2
  rw [List.take_append_drop] at this
  exact this
theorem stops_at {s : List UInt8} {q : Nat} (hq : q < s.length) (h : Wd.nameCh s[q] = false) : Fa.stops (s.drop q) = true := by
  rw [List.drop_eq_getElem_cons hq]
  simp [Fa.stops, h]
theorem stops_end {s : List UInt8} {q : Nat} (hq : s.length ≤ q) : Fa.stops (s.drop q) = true := by
  rw [List.drop_of_length_le hq]; rfl
theorem take_all {s : List UInt8} {q : Nat} (hq : q < s.length) (h : (s.take q).all Wd.nameCh = true) (hc : Wd.nameCh s[q] = true) : (s.take (q + 1)).all Wd.nameCh = true := by
  rw [List.take_succ_eq_append_getElem hq, List.all_append, h]
  simp [hc]
theorem nameCh_nat (c : UInt8) : Wd.nameCh c = (decide (97 ≤ (c.toNat : Int)) && decide ((c.toNat : Int) ≤ 122) || decide (48 ≤ (c.toNat : Int)) && decide ((c.toNat : Int) ≤ 57) || decide ((c.toNat : Int) = 45)) := by
  unfold Wd.nameCh Wd.lower Wd.digit
  rw [Bool.eq_iff_iff]
  simp only [Bool.or_eq_true, Bool.and_eq_true, decide_eq_true_eq, beq_iff_eq, UInt8.le_iff_toNat_le, ← UInt8.toNat_inj]
  simp only [UInt8.reduceToNat]
  omega
theorem nameCh_t {c : UInt8} (h : (97 ≤ c.toNat ∧ c.toNat ≤ 122) ∨ (48 ≤ c.toNat ∧ c.toNat ≤ 57) ∨ c.toNat = 45) : Wd.nameCh c = true := by
  rw [nameCh_nat]
  simp only [Bool.or_eq_true, Bool.and_eq_true, decide_eq_true_eq]
  omega
theorem nameCh_f {c : UInt8} (h : ¬ ((97 ≤ c.toNat ∧ c.toNat ≤ 122) ∨ (48 ≤ c.toNat ∧ c.toNat ≤ 57) ∨ c.toNat = 45)) : Wd.nameCh c = false := by
  rw [nameCh_nat, ← Bool.not_eq_true]
  simp only [Bool.or_eq_true, Bool.and_eq_true, decide_eq_true_eq]
  omega
def WordPost (s : List UInt8) (L : List Fa.Node) (wd : Bool) (pb B : Nat) (lv : Value) (w : World) (e : Ending) (w' : World) : Prop :=
  e = .returned (S8 (Fa.wordOf s)) ∧ RS w' pb B lv (Fa.wordTl s) L wd ∧ w.grownBy w' (some pb)
set_option maxHeartbeats 4000000 in
set_option maxRecDepth 100000 in
theorem word_any (s : List UInt8) (L : List Fa.Node) (wd : Bool) (pb B : Nat) (lv : Value) (w : World) (h : RS w pb B lv s L wd) (hs : s.length ≤ 1000000) :
    Calls Tryz.prog 83 #[.pointer (some ⟨pb, 0, none⟩)] w (WordPost s L wd pb B lv w) := by
  have HR := Lib.hid h
  obtain ⟨h1, h2, h3, h4⟩ := h
  have c0 := blk_cell h1 0
  have f0 := blk_free h1 0
  simp only [List.getElem?_toArray, List.getElem?_cons_zero] at c0
  obtain ⟨sb, hsb⟩ : ∃ sb : ByteArray, sb = ⟨s.toArray⟩ := ⟨_, rfl⟩
  have hz : sb.size = s.length := by rw [hsb]; exact size_arr s
  have HG : Hid (∀ q (h1 : q < sb.size) (h2 : q < s.length), sb[q] = s[q]) := fun q h1 h2 => by subst hsb; rfl
  have HP : Hid (∀ q, q ≤ s.length → (s.take q).all Wd.nameCh = true → Fa.stops (s.drop q) = true → WordPost s L wd pb B lv w (.returned (.string (sb.extract 0 q))) (w.setCell ⟨pb, 0, none⟩ (.string (sb.extract q sb.size)))) := fun q _ h1 h2 => by
    obtain ⟨e1, e2⟩ := word_split h1 h2
    refine ⟨?_, ?_, (gb_set _ _ _ _)⟩
    · rw [e1, hsb, ext_up]
    · rw [e2, hz]
      refine HR.out.set0 ?_
      rw [hsb, ext_to]
  rw [show S8 s = .string sb from by rw [hsb]] at c0
  have HZ := Lib.hid hz
  have hs2 : sb.size ≤ 1000000 := by omega
  clear h1 h2 h3 h4 hsb hz hs
  generalize WordPost s L wd pb B lv w = R at HP ⊢
  go_enter Tryz.func83, Tryz.ntmps83
  go_wp2
  go_loop [3] (fun i => ∃ q : Nat, q ≤ sb.size ∧ i = .int .i64 q ∧ Hid ((s.take q).all Wd.nameCh = true)) (fun i => sb.size - (intOf i).toNat)
  case atStart => exact ⟨0, Nat.zero_le _, rfl, rfl⟩
  case round =>
    obtain ⟨q, hq, rfl, ha⟩ := hrel
    by_cases hlt : q < sb.size
    · have hql : q < s.length := by rw [← HZ.out]; exact hlt
      have hc := HG.out q hlt hql
      have HN : Hid (Wd.nameCh sb[q] = true → Hid ((s.take (q + 1)).all Wd.nameCh = true)) := fun h => take_all hql ha.out (by rw [← hc]; exact h)
      have HX : Hid (Wd.nameCh sb[q] = false → R (.returned (.string (sb.extract 0 q))) (w.setCell ⟨pb, 0, none⟩ (.string (sb.extract q sb.size)))) := fun h => HP.out q (Nat.le_of_lt hql) ha.out (stops_at hql (by rw [← hc]; exact h))
      have HQ : Hid (q + 1 ≤ sb.size) := hlt
      clear hc ha hql hq
      have hcr := sb[q].toNat_lt
      by_cases a1 : (97 : Int) ≤ (sb[q].toNat : Int)
      · by_cases a2 : (sb[q].toNat : Int) ≤ 122
        · have HY := HN.out (nameCh_t (by omega))
          clear HN HX
          go_wp2
          go_round
          case rel => exact ⟨q + 1, HQ.out, by go_num, HY⟩
          case measure => have := HQ.out; simp [intOf]; omega
        · have a3 : (48 : Int) ≤ (sb[q].toNat : Int) := by omega
          have a4 : ¬ (sb[q].toNat : Int) ≤ 57 := by omega
          have a5 : ((sb[q].toNat : Int) == 45) = false := by rw [beq_eq_false_iff_ne]; omega
          have HY := Lib.hid (HX.out (nameCh_f (by omega)))
          clear HN HX
          go_wp2
          all_goals first | exact HY.out | (exfalso; rename_i hh; revert hh; simp only [beq_iff_eq]; omega) | (exfalso; rename_i hh _; revert hh; simp only [beq_iff_eq]; omega)
      · by_cases a3 : (48 : Int) ≤ (sb[q].toNat : Int)
        · by_cases a4 : (sb[q].toNat : Int) ≤ 57
          · have HY := HN.out (nameCh_t (by omega))
            clear HN HX
            go_wp2
            go_round
            case rel => exact ⟨q + 1, HQ.out, by go_num, HY⟩
            case measure => have := HQ.out; simp [intOf]; omega
          · have a5 : ((sb[q].toNat : Int) == 45) = false := by rw [beq_eq_false_iff_ne]; omega
            have HY := Lib.hid (HX.out (nameCh_f (by omega)))
            clear HN HX
            go_wp2
            all_goals first | exact HY.out | (exfalso; rename_i hh; revert hh; simp only [beq_iff_eq]; omega) | (exfalso; rename_i hh _; revert hh; simp only [beq_iff_eq]; omega)
        · by_cases a5 : (sb[q].toNat : Int) = 45
          · have a6 : ((sb[q].toNat : Int) == 45) = true := by rw [beq_iff_eq]; exact a5
            have HY := HN.out (nameCh_t (by omega))
            clear HN HX a5
            go_wp2
            go_round
            case rel => exact ⟨q + 1, HQ.out, by go_num, HY⟩
            case measure => have := HQ.out; simp [intOf]; omega
          · have a6 : ((sb[q].toNat : Int) == 45) = false := by rw [beq_eq_false_iff_ne]; exact a5
            have HY := Lib.hid (HX.out (nameCh_f (by omega)))
            clear HN HX a5
            go_wp2
            exact HY.out
    · have HY := Lib.hid (HP.out q (by rw [← HZ.out]; exact hq) ha.out (stops_end (by rw [← HZ.out]; omega)))
      clear ha
      go_wp2
      exact HY.out
end Go.Proofs.YtgnhbccmdpkbiaaGreatDoor
namespace Go.Proofs.YtgnhbccmdpkbiaaGreatDoor
namespace Fa
theorem int_code (w : Str) (lo hi : Int) : (Wd.intOfStr w lo hi).2 = 0 ∨ (Wd.intOfStr w lo hi).2 = 6 ∨ (Wd.intOfStr w lo hi).2 = 7 := by
  unfold Wd.intOfStr
  split
  · split
    · exact .inl rfl
    · exact .inr (.inr rfl)
  · exact .inr (.inl rfl)
theorem numBad_six {w : Str} {lo hi : Int} (h : (Wd.intOfStr w lo hi).2 = 6) : numBad lo hi w = true := by unfold numBad; rw [decide_eq_true h]; rfl
theorem numBad_zero {w : Str} {lo hi : Int} (hlo : 0 ≤ lo) (h : (Wd.intOfStr w lo hi).2 = 0) : numBad lo hi w = false := by
  have hb := int_zero h
  have he : Wd.intOfStr w lo hi = ((Wd.intOfStr w lo hi).1, 0) := by rw [← h]
  have hit := Wd.itoa_int he
  generalize (Wd.intOfStr w lo hi).1 = k at hb hit
  have hd := Wd.natDec_digits (Wd.natDec_itoa (n := k) (by omega))
  have hv := Wd.natVal_itoa (n := k) (by omega)
  rw [hit] at hd hv
  unfold numBad
  rw [h]
  have e1 : (w.head? == some 45) = false := by
    cases w with
    | nil => rfl
    | cons c t =>
      have h5 := hd.1
      simp only [List.all_cons, Bool.and_eq_true] at h5
      have h6 := Wd.digit_ne h5.1
      rw [List.head?_cons, beq_eq_false_iff_ne]
      intro e
      injection e with e
      rw [e] at h6
      exact h6.2 rfl
  have e2 : (w == [48] && decide (0 < lo)) = false := by
    by_cases hl : 0 < lo
    · have : w ≠ [48] := by
        intro e
        rw [e] at hv
        have h7 : Wd.natVal [48] = 0 := rfl
        rw [h7] at hv
        omega
      rw [beq_eq_false_iff_ne.2 this]; rfl
    · rw [decide_eq_false hl, Bool.and_false]
  rw [e1, e2]
  rfl
theorem numBad_seven {w : Str} {lo hi : Int} (hhi : 0 ≤ hi) (h : (Wd.intOfStr w lo hi).2 = 7) : numBad lo hi w = (w.head? == some 45 || w == [48]) ∧ w ≠ [] ∧ (Wd.intOfStr w lo hi).1 = 0 := by
  refine ⟨?_, ?_, ?_⟩
  · unfold numBad
    rw [h]
    by_cases e : w = [48]
    · subst e
      have : 0 < lo := by
        unfold Wd.intOfStr at h
        rw [if_pos (by decide)] at h
        split at h
        · exact absurd h (by decide)
        · rename_i hh
          have h7 : Wd.intVal [48] = 0 := rfl
          rw [h7] at hh
          omega
      rw [decide_eq_true this]
      rfl
    · rw [beq_eq_false_iff_ne.2 e]
      simp
  · rintro rfl
    unfold Wd.intOfStr at h
    rw [if_neg (by decide)] at h
    exact absurd h (by decide)
  · unfold Wd.intOfStr at h ⊢
    split
    · rename_i hd
      rw [if_pos hd] at h
      split
      · rename_i h2; rw [if_pos h2] at h; exact absurd (show (0 : Int) = 7 from h) (by decide)
      · rfl
    · rfl
end Fa
open Go.RowKit Go.Shelf

def NumPost (lo hi : Int) (s : List UInt8) (L : List Fa.Node) (wd : Bool) (pb B : Nat) (lv : Value) (w : World) (e : Ending) (w' : World) : Prop := w.grownBy w' (some pb) ∧ match Fa.pnum lo hi s with
  | some (n, q, r) => e = .returned (.tuple #[I64 n, .bool true]) ∧ RS w' pb B lv r L (wd || q)
  | none => e = .returned (.tuple #[I64 0, .bool false]) ∧ RS w' pb B lv (Fa.wordTl s) L wd
theorem RS.cell2 {w : World} {pb B : Nat} {lv : Value} {s : List UInt8} {L : List Fa.Node} {wd : Bool} (h : RS w pb B lv s L wd) : w.cell? ⟨pb, 2, none⟩ = some (.bool wd) ∧ w.frozen? ⟨pb, 2, none⟩ = false := by
  obtain ⟨h1, h2, h3, h4⟩ := h
  exact ⟨blk_cell h1 2, blk_free h1 2⟩
theorem RS.pb_lt {w : World} {pb B : Nat} {lv : Value} {s : List UInt8} {L : List Fa.Node} {wd : Bool} (h : RS w pb B lv s L wd) : pb < w.heap.size := by
  obtain ⟨h1, h2, h3, h4⟩ := h
  exact lt_of_block h1
theorem wordOf_len (s : List UInt8) : (Fa.wordOf s).length ≤ s.length := by
  have h := congrArg List.length (List.takeWhile_append_dropWhile (p := Wd.nameCh) (l := s))
  rw [List.length_append] at h
  unfold Fa.wordOf
  omega
set_option maxHeartbeats 4000000 in
set_option maxRecDepth 100000 in
theorem number_any (lo hi : Int) (hlo : 0 ≤ lo) (hlo2 : lo ≤ 1) (hhi : 0 ≤ hi) (hhi2 : hi ≤ 1000000000) (s : List UInt8) (L : List Fa.Node) (wd : Bool) (pb B : Nat) (lv : Value) (w : World) (h : RS w pb B lv s L wd) (hs : s.length ≤ 1000000) :
    Calls Tryz.prog 84 #[.pointer (some ⟨pb, 0, none⟩), I64 lo, I64 hi] w (NumPost lo hi s L wd pb B lv w) := by
  have HW := Lib.hid (word_any s L wd pb B lv w h hs)
  obtain ⟨x, hx⟩ : ∃ x, x = Fa.wordOf s := ⟨_, rfl⟩
  have hxl : x.length ≤ 1000000 := by rw [hx]; exact Nat.le_trans (wordOf_len s) hs
  obtain ⟨sx, hsx⟩ : ∃ sx : ByteArray, sx = ⟨x.toArray⟩ := ⟨_, rfl⟩
  have hsz : sx.size = x.length := by rw [hsx, size_arr]
  have htl : sx.toList = x := by rw [hsx, Lib.toList_data]
  have HI := Lib.hid (fun w => rint_any sx lo hi w (by rw [hsz]; omega) (by omega) (by omega) (by omega) (by omega))
  have hie : intEnd sx lo hi = .returned (.tuple #[I64 (Wd.intOfStr x lo hi).1, I64 (Wd.intOfStr x lo hi).2]) := by rw [hsx]; rfl
  rw [hie] at HI
  have HP1 : Hid (Fa.numBad lo hi x = true → ∀ w', w.grownBy w' (some pb) → RS w' pb B lv (Fa.wordTl s) L wd → NumPost lo hi s L wd pb B lv w (.returned (.tuple #[I64 0, .bool false])) w') := fun hb w' h1 h2 => by
    refine ⟨h1, ?_⟩
    rw [show Fa.pnum lo hi s = none from by unfold Fa.pnum; rw [← hx, if_pos hb]]
    exact ⟨rfl, h2⟩
  have HP2 : Hid (Fa.numBad lo hi x = false → ∀ q w', q = (wd || decide ((Wd.intOfStr x lo hi).2 ≠ 0)) → w.grownBy w' (some pb) → RS w' pb B lv (Fa.wordTl s) L q → NumPost lo hi s L wd pb B lv w (.returned (.tuple #[I64 (Wd.intOfStr x lo hi).1, .bool true])) w') := fun hb q w' hq h1 h2 => by
    refine ⟨h1, ?_⟩
    rw [show Fa.pnum lo hi s = some ((Wd.intOfStr x lo hi).1, decide ((Wd.intOfStr x lo hi).2 ≠ 0), Fa.wordTl s) from by unfold Fa.pnum; rw [← hx, if_neg (by rw [hb]; simp)]]
    exact ⟨rfl, by rw [← hq]; exact h2⟩
  rw [show WordPost s L wd pb B lv w = fun e w' => e = .returned (.string sx) ∧ RS w' pb B lv (Fa.wordTl s) L wd ∧ w.grownBy w' (some pb) from by rw [hsx, hx]; rfl] at HW
  have n6 : (Wd.intOfStr x lo hi).2 = 6 → Fa.numBad lo hi x = true := Fa.numBad_six
  have n0 : (Wd.intOfStr x lo hi).2 = 0 → Fa.numBad lo hi x = false := Fa.numBad_zero hlo
  have n7 : (Wd.intOfStr x lo hi).2 = 7 → Fa.numBad lo hi x = (x.head? == some 45 || x == [48]) ∧ x ≠ [] ∧ (Wd.intOfStr x lo hi).1 = 0 := Fa.numBad_seven hhi
  have nc := Fa.int_code x lo hi
  generalize hio : Wd.intOfStr x lo hi = p at HI HP2 n6 n0 n7 nc
  obtain ⟨N, E⟩ := p
  dsimp only at HI HP2 n6 n0 n7 nc
  clear hio hie h hs hx
  generalize NumPost lo hi s L wd pb B lv w = R at HP1 HP2 ⊢
  rcases nc with rfl | rfl | rfl
  · have HX := Lib.hid (HP2.out (n0 rfl))
    clear n6 n0 n7 HP1 HP2 hsx hsz htl hxl
    cases wd with
    | true =>
      go_enter Tryz.func84, Tryz.ntmps84
      go_wp2_with (first | (go_at_call 83; refine HW.out.mono ?_; rintro e w1 ⟨rfl, hr1, hb1⟩; obtain ⟨d2, f2⟩ := hr1.cell2) | (go_at_call 102; refine (HI.out _).mono ?_; rintro e w2 ⟨rfl, rfl⟩))
      exact HX.out true _ rfl (gb_trans hb1 (gb_set _ _ _ _)) (hr1.set2 true)
    | false =>
      go_enter Tryz.func84, Tryz.ntmps84
      go_wp2_with (first | (go_at_call 83; refine HW.out.mono ?_; rintro e w1 ⟨rfl, hr1, hb1⟩; obtain ⟨d2, f2⟩ := hr1.cell2) | (go_at_call 102; refine (HI.out _).mono ?_; rintro e w2 ⟨rfl, rfl⟩))
      exact HX.out false _ rfl (gb_trans hb1 (gb_set _ _ _ _)) (hr1.set2 false)
  · have HX := Lib.hid (HP1.out (n6 rfl))
    clear n6 n0 n7 HP1 HP2 hsx hsz htl hxl
    go_enter Tryz.func84, Tryz.ntmps84
    go_wp2_with (first | (go_at_call 83; refine HW.out.mono ?_; rintro e w1 ⟨rfl, hr1, hb1⟩; obtain ⟨d2, f2⟩ := hr1.cell2) | (go_at_call 102; refine (HI.out _).mono ?_; rintro e w2 ⟨rfl, rfl⟩))
    exact HX.out _ hb1 hr1
  · obtain ⟨m1, m2, rfl⟩ := n7 rfl
    obtain ⟨c, t, rfl⟩ : ∃ c t, x = c :: t := by
      cases x with
      | nil => exact absurd rfl m2
      | cons c t => exact ⟨c, t, rfl⟩
    rw [List.head?_cons] at m1
    have hpos : 0 < sx.size := by rw [hsz]; simp
    have hc0 : sx[0] = c := by subst hsx; rfl
    by_cases hc : c = 45
    · have HX := Lib.hid (HP1.out (by rw [m1, hc]; rfl))
      have g1 : ((sx[0].toNat : Int) == 45) = true := by rw [hc0, hc]; rfl
      clear n6 n0 n7 HP1 HP2 m1 m2 hsx hsz htl hxl hc0 hc
      go_enter Tryz.func84, Tryz.ntmps84
      go_wp2_with (first | (go_at_call 83; refine HW.out.mono ?_; rintro e w1 ⟨rfl, hr1, hb1⟩; obtain ⟨d2, f2⟩ := hr1.cell2) | (go_at_call 102; refine (HI.out _).mono ?_; rintro e w2 ⟨rfl, rfl⟩))
      exact HX.out _ hb1 hr1
    · have g1 : ((sx[0].toNat : Int) == 45) = false := by
        rw [hc0, beq_eq_false_iff_ne]
        intro e
        exact hc (by rw [← UInt8.toNat_inj]; simp; omega)
      have m3 : ((some c : Option UInt8) == some 45) = false := by
        rw [beq_eq_false_iff_ne]
        intro e
        injection e with e
        exact hc e
      rw [m3, Bool.false_or] at m1
      cases hz : ((c :: t) == [48]) with
      | true =>
        have HX := Lib.hid (HP1.out (by rw [m1, hz]))
        have g2 : (sx.toList == [48]) = true := by rw [htl]; exact hz
        clear n6 n0 n7 HP1 HP2 m1 m2 m3 hz hc hc0 hsx hsz htl hxl
        go_enter Tryz.func84, Tryz.ntmps84
        go_wp2_with (first | (go_at_call 83; refine HW.out.mono ?_; rintro e w1 ⟨rfl, hr1, hb1⟩; obtain ⟨d2, f2⟩ := hr1.cell2) | (go_at_call 102; refine (HI.out _).mono ?_; rintro e w2 ⟨rfl, rfl⟩))
        exact HX.out _ hb1 hr1
      | false =>
        have HX := Lib.hid (HP2.out (by rw [m1, hz]))
        have g2 : (sx.toList == [48]) = false := by rw [htl]; exact hz
        clear n6 n0 n7 HP1 HP2 m1 m2 m3 hz hc hc0 hsx hsz htl hxl
        cases wd with
        | true =>
          go_enter Tryz.func84, Tryz.ntmps84
          go_wp2_with (first | (go_at_call 83; refine HW.out.mono ?_; rintro e w1 ⟨rfl, hr1, hb1⟩; obtain ⟨d2, f2⟩ := hr1.cell2) | (go_at_call 102; refine (HI.out _).mono ?_; rintro e w2 ⟨rfl, rfl⟩))
          exact HX.out true _ rfl (gb_trans hb1 (gb_set _ _ _ _)) (hr1.set2 true)
        | false =>
          go_enter Tryz.func84, Tryz.ntmps84
          go_wp2_with (first | (go_at_call 83; refine HW.out.mono ?_; rintro e w1 ⟨rfl, hr1, hb1⟩; obtain ⟨d2, f2⟩ := hr1.cell2) | (go_at_call 102; refine (HI.out _).mono ?_; rintro e w2 ⟨rfl, rfl⟩))
          exact HX.out true _ rfl (gb_trans hb1 (gb_set _ _ _ _)) (hr1.set2 true)
end Go.Proofs.YtgnhbccmdpkbiaaGreatDoor
namespace Go.Proofs.YtgnhbccmdpkbiaaGreatDoor
namespace Fa
def plinkB (s : Str) : Option (Int × Bool × Str) := if Wd.name (wordOf s) then popt sOn 0 15 (-1) (wordTl s) else none
def plinkA (s : Str) : Option (Int × Int × Bool × Str) := match plinkB s with
  | none => none
  | some (b, q1, r1) => match popt sOver 1 1000000000 0 r1 with
    | none => none
    | some (c, q2, r2) => some (b, c, q1 || q2, r2)
theorem plink_A (s : Str) : plink s = match plinkA s with
    | none => none
    | some (b, c, q, r2) => match pre [58, 32] r2 with
      | none => none
      | some r3 => if kindOf (wordOf r3) = 0 then none else some (⟨kindOf (wordOf r3), ⟨(wordOf s).toArray⟩, b, c⟩, q, wordTl r3) := by
  unfold plink plinkA plinkB
  by_cases h : Wd.name (wordOf s) = true
  · rw [if_pos h, if_pos h]
    cases popt sOn 0 15 (-1) (wordTl s) with
    | none => rfl
    | some p =>
      obtain ⟨b, q1, r1⟩ := p
      dsimp only
      cases popt sOver 1 1000000000 0 r1 with
      | none => rfl
      | some p => rfl
  · rw [if_neg h, if_neg h]
def RelB (s : Str) (wd is : Bool) (b : Int) (q : Bool) (r : Str) : Prop := r.length ≤ s.length ∧ match plinkB s with
  | some (b', q', r') => is = true ∧ b = b' ∧ q = (wd || q') ∧ r = r'
  | none => is = false
def RelA (s : Str) (wd is : Bool) (b c : Int) (q : Bool) (r : Str) : Prop := r.length ≤ s.length ∧ match plinkA s with
  | some (b', c', q', r') => is = true ∧ b = b' ∧ c = c' ∧ q = (wd || q') ∧ r = r'
  | none => is = false
theorem RelB.not {s r : Str} {wd : Bool} {b : Int} {q : Bool} (hn : Wd.name (wordOf s) = false) (hr : r.length ≤ s.length) : RelB s wd false b q r := by
  refine ⟨hr, ?_⟩
  rw [show plinkB s = none from by unfold plinkB; rw [hn]; rfl]
theorem RelB.skip {s : Str} {wd : Bool} (hn : Wd.name (wordOf s) = true) (hp : pre sOn (wordTl s) = none) : RelB s wd true (-1) wd (wordTl s) := by
  refine ⟨wordTl_len s, ?_⟩
  rw [show plinkB s = some (-1, false, wordTl s) from by unfold plinkB; rw [if_pos hn]; unfold popt; rw [hp]]
  exact ⟨rfl, rfl, by simp, rfl⟩
theorem RelB.good {s r r' : Str} {wd : Bool} {n : Int} {q : Bool} (hn : Wd.name (wordOf s) = true) (hp : pre sOn (wordTl s) = some r) (hq : pnum 0 15 r = some (n, q, r')) : RelB s wd true n (wd || q) r' := by
  have h1 := wordTl_len s
  have h2 := pre_len hp
  have h3 := pnum_len hq
  refine ⟨by omega, ?_⟩
  rw [show plinkB s = some (n, q, r') from by unfold plinkB; rw [if_pos hn]; unfold popt; rw [hp]; exact hq]
  exact ⟨rfl, rfl, rfl, rfl⟩
theorem RelB.bad {s r : Str} {wd : Bool} {b : Int} {q : Bool} (hn : Wd.name (wordOf s) = true) (hp : pre sOn (wordTl s) = some r) (hq : pnum 0 15 r = none) : RelB s wd false b q (wordTl r) := by
  have h1 := wordTl_len s
  have h2 := pre_len hp
  have h3 := wordTl_len r
  refine ⟨by omega, ?_⟩
  rw [show plinkB s = none from by unfold plinkB; rw [if_pos hn]; unfold popt; rw [hp]; exact hq]
theorem RelB.fail {s r r' : Str} {wd : Bool} {b b' c : Int} {q q' : Bool} (h : RelB s wd false b q r) (hr : r'.length ≤ r.length) : RelA s wd false b' c q' r' := by
  refine ⟨Nat.le_trans hr h.1, ?_⟩
  have h2 := h.2
  unfold plinkA
  cases hb : plinkB s with
  | none => rfl
  | some p => rw [hb] at h2; exact absurd h2.1 (by simp)
theorem RelB.pass {s r : Str} {wd : Bool} {b : Int} {q : Bool} (h : RelB s wd true b q r) (hp : pre sOver r = none) : RelA s wd true b 0 q r := by
  refine ⟨h.1, ?_⟩
  have h2 := h.2
  unfold plinkA
  cases hb : plinkB s with
  | none => rw [hb] at h2; exact absurd h2 (by simp)
  | some p =>
    obtain ⟨b', q', r'⟩ := p
    rw [hb] at h2
    obtain ⟨_, rfl, rfl, rfl⟩ := h2
    dsimp only
    unfold popt
    rw [hp]
    exact ⟨rfl, rfl, rfl, by simp, rfl⟩
theorem RelB.take {s r r1 r2 : Str} {wd : Bool} {b n : Int} {q q2 : Bool} (h : RelB s wd true b q r) (hp : pre sOver r = some r1) (hq : pnum 1 1000000000 r1 = some (n, q2, r2)) : RelA s wd true b n (q || q2) r2 := by
  have e1 := pre_len hp
  have e2 := pnum_len hq
  refine ⟨by have := h.1; omega, ?_⟩
  have h2 := h.2
  unfold plinkA
  cases hb : plinkB s with
  | none => rw [hb] at h2; exact absurd h2 (by simp)
  | some p =>
    obtain ⟨b', q', r'⟩ := p
    rw [hb] at h2
    obtain ⟨_, rfl, rfl, rfl⟩ := h2
    dsimp only
    unfold popt
    rw [hp]
    dsimp only
    rw [hq]
    exact ⟨rfl, rfl, rfl, by rw [Bool.or_assoc], rfl⟩
theorem RelB.stop {s r r1 : Str} {wd : Bool} {b b' c : Int} {q q' : Bool} (h : RelB s wd true b q r) (hp : pre sOver r = some r1) (hq : pnum 1 1000000000 r1 = none) : RelA s wd false b' c q' (wordTl r1) := by
  have e1 := pre_len hp
  have e2 := wordTl_len r1
  refine ⟨by have := h.1; omega, ?_⟩
  have h2 := h.2
  unfold plinkA
  cases hb : plinkB s with
  | none => rfl
  | some p =>
    obtain ⟨b2, q2, r2⟩ := p
    rw [hb] at h2
    obtain ⟨_, rfl, rfl, rfl⟩ := h2
    dsimp only
    unfold popt
    rw [hp]
    dsimp only
    rw [hq]
theorem link_true {s r r3 : Str} {wd : Bool} {b c : Int} {q : Bool} (hA : RelA s wd true b c q r) (hp : pre [58, 32] r = some r3) : ∃ q', q = (wd || q') ∧ plink s = if kindOf (wordOf r3) = 0 then none else some (⟨kindOf (wordOf r3), ⟨(wordOf s).toArray⟩, b, c⟩, q', wordTl r3) := by
  have h1 := hA.2
  rw [plink_A]
  cases ha : plinkA s with
  | none => rw [ha] at h1; exact absurd h1 (by simp)
  | some p =>
    obtain ⟨b', c', q', r'⟩ := p
    rw [ha] at h1
    obtain ⟨_, rfl, rfl, rfl, rfl⟩ := h1
    refine ⟨q', rfl, ?_⟩
    dsimp only
    rw [hp]
theorem link_false {s r : Str} {wd : Bool} {b c : Int} {q : Bool} (hA : RelA s wd false b c q r) : plink s = none := by
  have h1 := hA.2
  rw [plink_A]
  cases ha : plinkA s with
  | none => rfl
  | some p => rw [ha] at h1; exact absurd h1.1 (by simp)
end Fa
open Go.RowKit Go.Shelf

theorem RS.other {w : World} {pb B X i : Nat} {lv : Value} {s : List UInt8} {L : List Fa.Node} {wd : Bool} {u : Value} (h : RS w pb B lv s L wd) (hX : pb ≠ X) (hv : lv.ownBlock ≠ some X) : RS (w.setCell ⟨X, i, none⟩ u) pb B lv s L wd := by
  obtain ⟨h1, h2, h3, h4⟩ := h
  exact ⟨by rw [Below.heap_setCell _ _ _ _ hX]; exact h1, ownsRow_setCell_other h2 hv u, h3, by simpa [World.setCell] using h4⟩
/-- What link of the reader has in hand: the reader; its own link in block X, its result in block R0. -/
structure LSt (w0 : World) (pb B : Nat) (lv : Value) (L : List Fa.Node) (R0 X : Nat) (op : List UInt8) (k b c : Int) (q : Bool) (r : List UInt8) (w : World) : Prop where
  rs : RS w pb B lv r L q
  x : w.heap[X]? = some (.cells #[I64 k, S8 op, I64 b, I64 c] 34 (0, 0))
  res : w.heap[R0]? = some (.cells #[I64 0, .string ⟨#[]⟩, I64 0, I64 0] 34 (0, 0))
  gb : w0.grownBy w (some pb)
structure LFix (w0 : World) (pb : Nat) (lv : Value) (R0 X : Nat) : Prop where
  px : pb ≠ X
  pr : pb ≠ R0
  rx : R0 ≠ X
  vx : lv.ownBlock ≠ some X
  vr : lv.ownBlock ≠ some R0
  x : w0.heap.size ≤ X
  r : w0.heap.size ≤ R0
section
variable {w0 : World} {pb B : Nat} {lv : Value} {L : List Fa.Node} {R0 X : Nat} {op : List UInt8} {k b c : Int} {q : Bool} {r : List UInt8} {w : World}
theorem LSt.call (h : LSt w0 pb B lv L R0 X op k b c q r w) (f : LFix w0 pb lv R0 X) {w' : World} {q' : Bool} {r' : List UInt8} (hg : w.grownBy w' (some pb)) (hr : RS w' pb B lv r' L q') : LSt w0 pb B lv L R0 X op k b c q' r' w' :=
  ⟨hr, (hg.block X (lt_of_block h.x) (fun e => f.px (Option.some.inj e).symm)).trans h.x, (hg.block R0 (lt_of_block h.res) (fun e => f.pr (Option.some.inj e).symm)).trans h.res, gb_trans h.gb hg⟩
theorem LSt.below (h : LSt w0 pb B lv L R0 X op k b c q r w) (f : LFix w0 pb lv R0 X) {w' : World} (hb : Below w.heap.size w w') : LSt w0 pb B lv L R0 X op k b c q r w' := h.call f (gb_below hb) (h.rs.below hb)
theorem LSt.setK (h : LSt w0 pb B lv L R0 X op k b c q r w) (f : LFix w0 pb lv R0 X) (k' : Int) : LSt w0 pb B lv L R0 X op k' b c q r (w.setCell ⟨X, 0, none⟩ (I64 k')) :=
  ⟨h.rs.other f.px f.vx, blk_set h.x 0 _, by rw [Below.heap_setCell _ _ _ _ f.rx]; exact h.res, gb_other h.gb f.x⟩
theorem LSt.setB (h : LSt w0 pb B lv L R0 X op k b c q r w) (f : LFix w0 pb lv R0 X) (b' : Int) : LSt w0 pb B lv L R0 X op k b' c q r (w.setCell ⟨X, 2, none⟩ (I64 b')) :=
  ⟨h.rs.other f.px f.vx, blk_set h.x 2 _, by rw [Below.heap_setCell _ _ _ _ f.rx]; exact h.res, gb_other h.gb f.x⟩
theorem LSt.setC (h : LSt w0 pb B lv L R0 X op k b c q r w) (f : LFix w0 pb lv R0 X) (c' : Int) : LSt w0 pb B lv L R0 X op k b c' q r (w.setCell ⟨X, 3, none⟩ (I64 c')) :=
  ⟨h.rs.other f.px f.vx, blk_set h.x 3 _, by rw [Below.heap_setCell _ _ _ _ f.rx]; exact h.res, gb_other h.gb f.x⟩
theorem LSt.drew (h : LSt w0 pb B lv L R0 X op k b c q r w) : LSt w0 pb B lv L R0 X op k b c q r w.drew := ⟨h.rs, h.x, h.res, ⟨h.gb.os, h.gb.tape, h.gb.output, h.gb.size, h.gb.block⟩⟩
theorem LSt.cells (h : LSt w0 pb B lv L R0 X op k b c q r w) : (w.cell? ⟨X, 0, none⟩ = some (I64 k) ∧ w.cell? ⟨X, 1, none⟩ = some (S8 op) ∧ w.cell? ⟨X, 2, none⟩ = some (I64 b) ∧ w.cell? ⟨X, 3, none⟩ = some (I64 c)) ∧
    (w.frozen? ⟨X, 0, none⟩ = false ∧ w.frozen? ⟨X, 2, none⟩ = false ∧ w.frozen? ⟨X, 3, none⟩ = false) :=
  ⟨⟨blk_cell h.x 0, blk_cell h.x 1, blk_cell h.x 2, blk_cell h.x 3⟩, blk_free h.x 0, blk_free h.x 2, blk_free h.x 3⟩
end
section
variable {w0 : World} {pb B : Nat} {lv : Value} {L : List Fa.Node} {R0 X : Nat} {op : List UInt8} {k b c : Int} {q : Bool} {r : List UInt8} {w : World}
theorem LSt.resCells (h : LSt w0 pb B lv L R0 X op k b c q r w) : (w.cell? ⟨R0, 0, none⟩ = some (I64 0) ∧ w.cell? ⟨R0, 1, none⟩ = some (.string ⟨#[]⟩) ∧ w.cell? ⟨R0, 2, none⟩ = some (I64 0) ∧ w.cell? ⟨R0, 3, none⟩ = some (I64 0)) ∧
    (w.frozen? ⟨R0, 0, none⟩ = false ∧ w.frozen? ⟨R0, 1, none⟩ = false ∧ w.frozen? ⟨R0, 2, none⟩ = false ∧ w.frozen? ⟨R0, 3, none⟩ = false) :=
  ⟨⟨blk_cell h.res 0, blk_cell h.res 1, blk_cell h.res 2, blk_cell h.res 3⟩, blk_free h.res 0, blk_free h.res 1, blk_free h.res 2, blk_free h.res 3⟩
/-- The result is stored. -/
theorem LSt.out (h : LSt w0 pb B lv L R0 X op k b c q r w) (f : LFix w0 pb lv R0 X) (u0 u1 u2 u3 : Value) :
    RS ((((w.setCell ⟨R0, 0, none⟩ u0).setCell ⟨R0, 1, none⟩ u1).setCell ⟨R0, 2, none⟩ u2).setCell ⟨R0, 3, none⟩ u3) pb B lv r L q ∧ w0.grownBy ((((w.setCell ⟨R0, 0, none⟩ u0).setCell ⟨R0, 1, none⟩ u1).setCell ⟨R0, 2, none⟩ u2).setCell ⟨R0, 3, none⟩ u3) (some pb) ∧
    ((((w.setCell ⟨R0, 0, none⟩ u0).setCell ⟨R0, 1, none⟩ u1).setCell ⟨R0, 2, none⟩ u2).setCell ⟨R0, 3, none⟩ u3).heap[R0]? = some (.cells #[u0, u1, u2, u3] 34 (0, 0)) ∧
    ((((w.setCell ⟨R0, 0, none⟩ u0).setCell ⟨R0, 1, none⟩ u1).setCell ⟨R0, 2, none⟩ u2).setCell ⟨R0, 3, none⟩ u3).heap[X]? = some (.cells #[I64 k, S8 op, I64 b, I64 c] 34 (0, 0)) :=
  ⟨(((h.rs.other f.pr f.vr).other f.pr f.vr).other f.pr f.vr).other f.pr f.vr, gb_other (gb_other (gb_other (gb_other h.gb f.r) f.r) f.r) f.r, blk_set (blk_set (blk_set (blk_set h.res 0 u0) 1 u1) 2 u2) 3 u3, by
    rw [Below.heap_setCell _ _ _ _ (Ne.symm f.rx), Below.heap_setCell _ _ _ _ (Ne.symm f.rx), Below.heap_setCell _ _ _ _ (Ne.symm f.rx), Below.heap_setCell _ _ _ _ (Ne.symm f.rx)]
    exact h.x⟩
end
def LinkPost (s : List UInt8) (L : List Fa.Node) (wd : Bool) (pb B : Nat) (lv : Value) (w : World) (e : Ending) (w' : World) : Prop := w.grownBy w' (some pb) ∧ match Fa.plink s with
  | some (x, q, r) => e = .returned (.tuple #[valLink x, .bool true]) ∧ RS w' pb B lv r L (wd || q)
  | none => ∃ x r q, e = .returned (.tuple #[valLink x, .bool false]) ∧ RS w' pb B lv r L q ∧ r.length ≤ s.length
/-- The cells of the link that link has in hand. -/
def XS (X : Nat) (k : Int) (op : List UInt8) (b c : Int) (w : World) : Prop := w.cell? ⟨X, 0, none⟩ = some (I64 k) ∧ w.cell? ⟨X, 1, none⟩ = some (S8 op) ∧ w.cell? ⟨X, 2, none⟩ = some (I64 b) ∧ w.cell? ⟨X, 3, none⟩ = some (I64 c)
theorem XS.set {X R0 : Nat} {k : Int} {op : List UInt8} {b c : Int} {w : World} (h : XS X k op b c w) (hne : R0 ≠ X) {u0 u1 u2 u3 : Value} : XS X k op b c ((((w.setCell ⟨R0, 0, none⟩ u0).setCell ⟨R0, 1, none⟩ u1).setCell ⟨R0, 2, none⟩ u2).setCell ⟨R0, 3, none⟩ u3) := by
  have hg := gb_trans (gb_trans (gb_trans (gb_set w R0 0 u0) (gb_set _ R0 1 u1)) (gb_set _ R0 2 u2)) (gb_set _ R0 3 u3)
  obtain ⟨h0, h1, h2, h3⟩ := h
  have hl := cell_lt h0
  exact ⟨(gb_cell hg hl (Ne.symm hne)).trans h0, (gb_cell hg hl (Ne.symm hne)).trans h1, (gb_cell hg hl (Ne.symm hne)).trans h2, (gb_cell hg hl (Ne.symm hne)).trans h3⟩
theorem start_L {w w1 : World} {pb B : Nat} {lv : Value} {s op r : List UInt8} {L : List Fa.Node} {wd : Bool} (h : RS w pb B lv s L wd) (hg : (w.alloc (.cells #[I64 0, .string ⟨#[]⟩, I64 0, I64 0] 34)).grownBy w1 (some pb)) (h1 : RS w1 pb B lv r L wd) :
    LFix w pb lv w.heap.size w1.heap.size ∧ LSt w pb B lv L w.heap.size w1.heap.size op 0 (-1) 0 wd r (w1.alloc (.cells #[I64 0, S8 op, I64 (-1), I64 0] 34)) := by
  have hp := h.pb_lt
  have hs := hg.size
  simp at hs
  have hl : ∀ k, lv.ownBlock = some k → k < w.heap.size := fun k hk => (h.2.1.lt k hk).2
  have hb := (Below.refl w1.heap.size w1).alloc (Nat.le_refl _) (.cells #[I64 0, S8 op, I64 (-1), I64 0] 34)
  refine ⟨⟨by omega, by omega, by omega, fun e => ?_, fun e => ?_, by omega, Nat.le_refl _⟩, ⟨h1.below hb, blk_new _ _, ?_, ?_⟩⟩
  · have := hl _ e; omega
  · have := hl _ e; omega
  · refine (hb.block w.heap.size (by omega)).trans ((hg.block w.heap.size (by simp) (fun e => by injection e with e; omega)).trans (blk_new _ _))
  · exact gb_trans (gb_trans (gb_alloc w _ _) hg) (gb_below hb)
theorem end_bad {s : List UInt8} {L : List Fa.Node} {wd : Bool} {pb B : Nat} {lv : Value} {w w' : World} {v : Value} (hg : w.grownBy w' (some pb)) (hp : Fa.plink s = none) {k b c : Int} {op : ByteArray} (hv : v = .agg #[I64 k, .string op, I64 b, I64 c]) {r : List UInt8} {q : Bool} (hr : RS w' pb B lv r L q) (hl : r.length ≤ s.length) : LinkPost s L wd pb B lv w (.returned (.tuple #[v, .bool false])) w' := by
  refine ⟨hg, ?_⟩
  rw [hp]
  exact ⟨⟨k, op, b, c⟩, r, q, by rw [hv]; rfl, hr, hl⟩
theorem end_good {s : List UInt8} {L : List Fa.Node} {wd : Bool} {pb B : Nat} {lv : Value} {w w' : World} {x : Fa.Link} {q : Bool} {r : List UInt8} (hg : w.grownBy w' (some pb)) (hp : Fa.plink s = some (x, q, r)) (hr : RS w' pb B lv r L (wd || q)) : LinkPost s L wd pb B lv w (.returned (.tuple #[valLink x, .bool true])) w' := by
  refine ⟨hg, ?_⟩
  rw [hp]
  exact ⟨rfl, hr⟩
set_option maxHeartbeats 8000000 in
set_option maxRecDepth 100000 in
theorem rlink_any (s : List UInt8) (L : List Fa.Node) (wd : Bool) (pb B : Nat) (lv : Value) (w : World) (h : RS w pb B lv s L wd) (hs : s.length ≤ 1000000) :
    Calls Tryz.prog 74 #[.pointer (some ⟨pb, 0, none⟩)] w (LinkPost s L wd pb B lv w) := by
  have hb0 := (Below.refl w.heap.size w).alloc (Nat.le_refl _) (.cells #[I64 0, .string ⟨#[]⟩, I64 0, I64 0] 34)
  have HW := Lib.hid (word_any s L wd pb B lv _ (h.below hb0) hs)
  have HN := Lib.hid (fun w => rname_any ⟨(Fa.wordOf s).toArray⟩ w (by rw [size_arr]; have := wordOf_len s; unfold maxLen; omega))
  have hnl : Wd.name (⟨(Fa.wordOf s).toArray⟩ : ByteArray).data.toList = Wd.name (Fa.wordOf s) := rfl
  rw [hnl] at HN
  have HH := Lib.hid h
  have HS := Lib.hid hs
  have HTL := Lib.hid (Fa.wordTl_len s)
  have HTK : Hid (∀ (p r : List UInt8) (q : Bool) w, p.length ≤ 1000 → r.length ≤ s.length → RS w pb B lv r L q → Calls Tryz.prog 73 #[.pointer (some ⟨pb, 0, none⟩), S8 p] w (TakesPost p r L q pb B lv w)) := fun p r q w h1 h2 h3 => takes_any p r L q pb B lv w h3 (by omega) h1
  have HNU : Hid (∀ (lo hi : Int) (r : List UInt8) (q : Bool) w, 0 ≤ lo → lo ≤ 1 → 0 ≤ hi → hi ≤ 1000000000 → r.length ≤ s.length → RS w pb B lv r L q → Calls Tryz.prog 84 #[.pointer (some ⟨pb, 0, none⟩), I64 lo, I64 hi] w (NumPost lo hi r L q pb B lv w)) := fun lo hi r q w h1 h2 h3 h4 h5 h6 => number_any lo hi h1 h2 h3 h4 r L q pb B lv w h6 (by omega)
  clear h hs hnl hb0
  obtain ⟨R, hR⟩ : ∃ R, R = LinkPost s L wd pb B lv w := ⟨_, rfl⟩
  have HEQ := Lib.hid hR
  rw [← hR]
  clear hR
  go_enter Tryz.func74, Tryz.ntmps74
  go_wp2_with fail
  refine HW.out.mono ?_
  rintro e w1 ⟨rfl, hr1, hg1⟩
  obtain ⟨hfix, hst⟩ := start_L (op := Fa.wordOf s) HH.out hg1 hr1
  have HF := Lib.hid hfix
  obtain ⟨op, hop⟩ : ∃ op, op = Fa.wordOf s := ⟨_, rfl⟩
  have HOP := Lib.hid hop
  rw [← hop] at hst HN ⊢
  clear hop
  go_wp2_with fail
  refine (HN.out _).mono ?_
  rintro e w2 ⟨rfl, rfl⟩
  generalize w1.alloc (.cells #[I64 0, S8 op, I64 (-1), I64 0] 34) = w2 at hst ⊢
  generalize w1.heap.size = X at hst HF ⊢
  obtain ⟨R0, hR0⟩ : ∃ R0, R0 = w.heap.size := ⟨_, rfl⟩
  rw [← hR0] at hst HF ⊢
  clear hR0 hfix hr1 hg1
  obtain ⟨nm, hnm⟩ : ∃ nm, nm = Wd.name op := ⟨_, rfl⟩
  rw [← hnm]
  have HNM : Hid (nm = Wd.name (Fa.wordOf s)) := by rw [← HOP.out]; exact hnm
  clear hnm HN
  go_wp2_with fail
  refine (HTK.out Fa.sOn _ _ _ (by decide) HTL.out hst.rs).mono ?_
  rintro e w3 ⟨rfl, hr3, hg3⟩
  have hst3 := hst.call HF.out hg3 hr3
  clear hst hr3 hg3
  obtain ⟨tk, htk⟩ : ∃ tk, tk = (Fa.pre Fa.sOn (Fa.wordTl s)).isSome := ⟨_, rfl⟩
  rw [← htk]
  have HT := Lib.hid htk
  clear htk
  have HST := Lib.hid hst3
  clear hst3
  go_upto_if 19 with fail
  go_cut [5] (fun isv wx => ∃ (is : Bool) (b : Int) (q : Bool) (r : List UInt8), isv = .bool is ∧ Hid (LSt w pb B lv L R0 X op 0 b 0 q r wx) ∧ Hid (Fa.RelB s wd is b q r))
  case first =>
    cases tk with
    | false =>
      have hp : Fa.pre Fa.sOn (Fa.wordTl s) = none := by
        have := HT.out
        cases h : Fa.pre Fa.sOn (Fa.wordTl s) with
        | none => rfl
        | some _ => rw [h] at this; exact absurd this (by simp)
      have hst3 := HST.out
      rw [hp, Option.getD_none] at hst3
      have HS3 := Lib.hid hst3
      cases nm with
      | false =>
        have HX := Lib.hid (Fa.RelB.not (wd := wd) (b := -1) (q := wd) HNM.out.symm (Fa.wordTl_len s))
        clear hp hst3
        go_wp2_with fail
        go_meet
        exact ⟨false, -1, wd, _, rfl, HS3, HX⟩
      | true =>
        have HX := Lib.hid (Fa.RelB.skip (wd := wd) HNM.out.symm hp)
        clear hp hst3
        go_wp2_with fail
        go_meet
        exact ⟨true, -1, wd, _, rfl, HS3, HX⟩
    | true =>
      obtain ⟨r0, hp⟩ : ∃ r0, Fa.pre Fa.sOn (Fa.wordTl s) = some r0 := Option.isSome_iff_exists.1 HT.out.symm
      have hst3 := HST.out
      rw [hp, Option.getD_some] at hst3
      have hl0 : r0.length ≤ s.length := by have := Fa.pre_len hp; have := HTL.out; omega
      have HNB := Lib.hid (HNU.out 0 15 r0 wd w3 (by decide) (by decide) (by decide) (by decide) hl0 hst3.rs)
      have HS3 := Lib.hid hst3
      have HL0 := Lib.hid hl0
      have HPR := Lib.hid hp
      clear hp hst3 hl0
      unfold NumPost at HNB
      cases hq : Fa.pnum 0 15 r0 with
      | none =>
        rw [hq] at HNB
        cases nm with
        | false =>
          have HX := fun b => Lib.hid (Fa.RelB.not (wd := wd) (b := b) (q := wd) (r := Fa.wordTl r0) HNM.out.symm (Nat.le_trans (Fa.wordTl_len r0) HL0.out))
          clear hq
          go_wp2_with fail
          refine HNB.out.mono ?_
          rintro e w4 ⟨hg4, rfl, hr4⟩
          have hst4 := HS3.out.call HF.out hg4 hr4
          have HS4 := Lib.hid (hst4.setB HF.out 0)
          obtain ⟨⟨d0, d1, d2, d3⟩, f0, f2, f3⟩ := hst4.cells
          clear hst4 hg4 hr4
          go_wp2_with fail
          go_meet
          exact ⟨false, 0, wd, _, rfl, HS4, HX 0⟩
        | true =>
          have HX := fun b => Lib.hid (Fa.RelB.bad (wd := wd) (b := b) (q := wd) HNM.out.symm HPR.out hq)
          clear hq
          go_wp2_with fail
          refine HNB.out.mono ?_
          rintro e w4 ⟨hg4, rfl, hr4⟩
          have hst4 := HS3.out.call HF.out hg4 hr4
          have HS4 := Lib.hid (hst4.setB HF.out 0)
          obtain ⟨⟨d0, d1, d2, d3⟩, f0, f2, f3⟩ := hst4.cells
          clear hst4 hg4 hr4
          go_wp2_with fail
          go_meet
          exact ⟨false, 0, wd, _, rfl, HS4, HX 0⟩
      | some p =>
        obtain ⟨n, q2, r2⟩ := p
        rw [hq] at HNB
        have HX : Hid (Fa.RelB s wd nm n (wd || q2) r2) := by
          cases nm with
          | false => exact Fa.RelB.not HNM.out.symm (Nat.le_trans (Fa.pnum_len hq) HL0.out)
          | true => exact Fa.RelB.good HNM.out.symm HPR.out hq
        clear hq
        cases nm with
        | false =>
          go_wp2_with fail
          refine HNB.out.mono ?_
          rintro e w4 ⟨hg4, rfl, hr4⟩
          have hst4 := HS3.out.call HF.out hg4 hr4
          have HS4 := Lib.hid (hst4.setB HF.out n)
          obtain ⟨⟨d0, d1, d2, d3⟩, f0, f2, f3⟩ := hst4.cells
          clear hst4 hg4 hr4
          go_wp2_with fail
          go_meet
          exact ⟨false, n, _, _, rfl, HS4, HX⟩
        | true =>
          go_wp2_with fail
          refine HNB.out.mono ?_
          rintro e w4 ⟨hg4, rfl, hr4⟩
          have hst4 := HS3.out.call HF.out hg4 hr4
          have HS4 := Lib.hid (hst4.setB HF.out n)
          obtain ⟨⟨d0, d1, d2, d3⟩, f0, f2, f3⟩ := hst4.cells
          clear hst4 hg4 hr4
          go_wp2_with fail
          go_meet
          exact ⟨true, n, _, _, rfl, HS4, HX⟩
  case rest =>
  obtain ⟨is, b, q, r, rfl, HSB, HRB⟩ := hcut
  clear HST HT HNM
  have HLR := Lib.hid HRB.out.1
  go_wp2_with fail
  refine (HTK.out Fa.sOver r q _ (by decide) HLR.out HSB.out.rs).mono ?_
  rintro e w5 ⟨rfl, hr5, hg5⟩
  have hst5 := HSB.out.call HF.out hg5 hr5
  clear hr5 hg5 HSB
  obtain ⟨tk, htk⟩ : ∃ tk, tk = (Fa.pre Fa.sOver r).isSome := ⟨_, rfl⟩
  rw [← htk]
  have HT := Lib.hid htk
  clear htk
  have HST := Lib.hid hst5
  clear hst5
  go_upto_if 32 with fail
  go_cut [5] (fun isv wx => ∃ (is : Bool) (b c : Int) (q : Bool) (r : List UInt8), isv = .bool is ∧ Hid (LSt w pb B lv L R0 X op 0 b c q r wx) ∧ Hid (Fa.RelA s wd is b c q r))
  case first =>
    cases tk with
    | false =>
      have hp : Fa.pre Fa.sOver r = none := by
        have := HT.out
        cases h : Fa.pre Fa.sOver r with
        | none => rfl
        | some _ => rw [h] at this; exact absurd this (by simp)
      have hst3 := HST.out
      rw [hp, Option.getD_none] at hst3
      have HS3 := Lib.hid hst3
      cases is with
      | false =>
        have HX := Lib.hid (HRB.out.fail (b' := b) (c := 0) (q' := q) (r' := r) (Nat.le_refl _))
        clear hp hst3
        go_wp2_with fail
        go_meet
        exact ⟨false, b, 0, q, _, rfl, HS3, HX⟩
      | true =>
        have HX := Lib.hid (HRB.out.pass hp)
        clear hp hst3
        go_wp2_with fail
        go_meet
        exact ⟨true, b, 0, q, _, rfl, HS3, HX⟩
    | true =>
      obtain ⟨r0, hp⟩ : ∃ r0, Fa.pre Fa.sOver r = some r0 := Option.isSome_iff_exists.1 HT.out.symm
      have hst3 := HST.out
      rw [hp, Option.getD_some] at hst3
      have hl0 : r0.length ≤ s.length := by have := Fa.pre_len hp; have := HLR.out; omega
      have hl1 : r0.length ≤ r.length := by have := Fa.pre_len hp; omega
      have HNB := Lib.hid (HNU.out 1 1000000000 r0 q w5 (by decide) (by decide) (by decide) (by decide) hl0 hst3.rs)
      have HS3 := Lib.hid hst3
      have HL1 := Lib.hid hl1
      have HPR := Lib.hid hp
      clear hp hst3 hl0 hl1
      unfold NumPost at HNB
      cases hq : Fa.pnum 1 1000000000 r0 with
      | none =>
        rw [hq] at HNB
        have HX : Hid (Fa.RelA s wd false b 0 q (Fa.wordTl r0)) := by
          cases is with
          | false => exact HRB.out.fail (Nat.le_trans (Fa.wordTl_len r0) HL1.out)
          | true => exact HRB.out.stop HPR.out hq
        clear hq
        cases is with
        | false =>
          go_wp2_with fail
          refine HNB.out.mono ?_
          rintro e w6 ⟨hg4, rfl, hr4⟩
          have hst4 := HS3.out.call HF.out hg4 hr4
          have HS4 := Lib.hid (hst4.setC HF.out 0)
          obtain ⟨⟨d0, d1, d2, d3⟩, f0, f2, f3⟩ := hst4.cells
          clear hst4 hg4 hr4
          go_wp2_with fail
          go_meet
          exact ⟨false, b, 0, q, _, rfl, HS4, HX⟩
        | true =>
          go_wp2_with fail
          refine HNB.out.mono ?_
          rintro e w6 ⟨hg4, rfl, hr4⟩
          have hst4 := HS3.out.call HF.out hg4 hr4
          have HS4 := Lib.hid (hst4.setC HF.out 0)
          obtain ⟨⟨d0, d1, d2, d3⟩, f0, f2, f3⟩ := hst4.cells
          clear hst4 hg4 hr4
          go_wp2_with fail
          go_meet
          exact ⟨false, b, 0, q, _, rfl, HS4, HX⟩
      | some p =>
        obtain ⟨n, q2, r2⟩ := p
        rw [hq] at HNB
        have HX : Hid (Fa.RelA s wd is b n (q || q2) r2) := by
          cases is with
          | false => exact HRB.out.fail (Nat.le_trans (Fa.pnum_len hq) HL1.out)
          | true => exact HRB.out.take HPR.out hq
        clear hq
        cases is with
        | false =>
          go_wp2_with fail
          refine HNB.out.mono ?_
          rintro e w6 ⟨hg4, rfl, hr4⟩
          have hst4 := HS3.out.call HF.out hg4 hr4
          have HS4 := Lib.hid (hst4.setC HF.out n)
          obtain ⟨⟨d0, d1, d2, d3⟩, f0, f2, f3⟩ := hst4.cells
          clear hst4 hg4 hr4
          go_wp2_with fail
          go_meet
          exact ⟨false, b, n, _, _, rfl, HS4, HX⟩
        | true =>
          go_wp2_with fail
          refine HNB.out.mono ?_
          rintro e w6 ⟨hg4, rfl, hr4⟩
          have hst4 := HS3.out.call HF.out hg4 hr4
          have HS4 := Lib.hid (hst4.setC HF.out n)
          obtain ⟨⟨d0, d1, d2, d3⟩, f0, f2, f3⟩ := hst4.cells
          clear hst4 hg4 hr4
          go_wp2_with fail
          go_meet
          exact ⟨true, b, n, _, _, rfl, HS4, HX⟩
  case rest =>
  clear HST HT HRB HLR
  obtain ⟨is, b, c, q, r, rfl, HSB, HRA⟩ := hcut
  have HLR := Lib.hid HRA.out.1
  have HPL := Lib.hid (Fa.plink_A s)
  go_wp2_with fail
  refine (HTK.out [58, 32] r q _ (by decide) HLR.out HSB.out.rs).mono ?_
  rintro e w7 ⟨rfl, hr7, hg7⟩
  have hst7 := HSB.out.call HF.out hg7 hr7
  clear hr7 hg7 HSB HNU HTK
  cases hp : Fa.pre [58, 32] r with
  | none =>
    rw [hp] at hst7
    have hpl : Fa.plink s = none := by
      have h1 := HRA.out.2
      rw [HPL.out]
      cases ha : Fa.plinkA s with
      | none => rfl
      | some p =>
        obtain ⟨b', c', q', r'⟩ := p
        rw [ha] at h1
        obtain ⟨_, _, _, _, rfl⟩ := h1
        dsimp only
        rw [hp]
    obtain ⟨⟨d0, d1, d2, d3⟩, f0, f2, f3⟩ := hst7.cells
    obtain ⟨⟨e0, e1, e2, e3⟩, g0, g1, g2, g3⟩ := hst7.resCells
    obtain ⟨hr8, hg8, hz8, _⟩ := hst7.out HF.out (I64 0) (S8 op) (I64 b) (I64 c)
    have z0 := blk_cell hz8 0
    have z1 := blk_cell hz8 1
    have z2 := blk_cell hz8 2
    have z3 := blk_cell hz8 3
    simp only [List.getElem?_toArray, List.getElem?_cons_succ, List.getElem?_cons_zero] at z0 z1 z2 z3
    have HEND : Hid (R (.returned (.tuple #[.agg #[I64 0, S8 op, I64 b, I64 c], .bool false])) ((((w7.setCell ⟨R0, 0, none⟩ (I64 0)).setCell ⟨R0, 1, none⟩ (S8 op)).setCell ⟨R0, 2, none⟩ (I64 b)).setCell ⟨R0, 3, none⟩ (I64 c))) := by
      rw [HEQ.out]
      exact end_bad hg8 hpl rfl hr8 (by rw [Option.getD_none]; exact HLR.out)
    clear hst7 hz8 hr8 hg8 hpl hp
    go_wp2_with fail
    refine bodyPost_ret (v := .tuple #[.agg #[I64 0, S8 op, I64 b, I64 c], .bool false]) (by rw [results_cell_tmp rfl]; go_simp) rfl ?_
    exact HEND.out
  | some r3 =>
    rw [hp, Option.getD_some] at hst7
    have hl3 : r3.length ≤ s.length := by have := Fa.pre_len hp; have := HLR.out; omega
    have HWB := Lib.hid (word_any r3 L q pb B lv w7 hst7.rs (by have := HS.out; omega))
    have HL3 := Lib.hid hl3
    have HPR := Lib.hid hp
    have HS7 := Lib.hid hst7
    clear hp hl3 hst7
    go_wp2_with fail
    refine HWB.out.mono ?_
    rintro e w8 ⟨rfl, hr8, hg8⟩
    have hst8 := HS7.out.call HF.out hg8 hr8
    obtain ⟨x3, hx3⟩ : ∃ x3, x3 = Fa.wordOf r3 := ⟨_, rfl⟩
    rw [← hx3]
    have HX3 := Lib.hid hx3
    have HS8 : Hid (LSt w pb B lv L R0 X op ((Fa.kindUpTo x3 1 : Nat) : Int) b c q (Fa.wordTl r3) w8) := hst8
    clear hst8 hr8 hg8 hx3 HWB HS7
    go_wp2
    go_loopw [11] (fun kv wr => ∃ k : Nat, 1 ≤ k ∧ k ≤ 17 ∧ kv = .int .i64 k ∧ Hid (LSt w pb B lv L R0 X op ((Fa.kindUpTo x3 k : Nat) : Int) b c q (Fa.wordTl r3) wr)) (fun kv _ => 17 - (intOf kv).toNat)
    case atStart => exact ⟨1, Nat.le_refl _, by decide, rfl, HS8⟩
    case round =>
      obtain ⟨k, hk1, hk17, rfl, hst⟩ := hrel
      go_wp2_with fail
      refine (names_any _).mono ?_
      rintro e w9 ⟨gn, rfl, _, hx9⟩
      have hst9 := hst.out.below HF.out hx9
      clear hst hx9
      by_cases hlt : k < 17
      · have i1 : (k : Int) < 17 := by omega
        have HS9 := Lib.hid hst9
        clear hst9
        go_wp2_with fail
        refine (names_any _).mono ?_
        rintro e w10 ⟨gm, rfl, hnm, hx10⟩
        have hst10 := HS9.out.below HF.out hx10
        have n0 := hnm k hlt
        obtain ⟨nml, hnml⟩ : ∃ nml, nml = Fa.names.getD k [] := ⟨_, rfl⟩
        rw [← hnml] at n0
        have HKU : Hid (Fa.kindUpTo x3 (k + 1) = if nml = x3 then k else Fa.kindUpTo x3 k) := by
          show _ = _
          rw [Fa.kindUpTo, hnml]
          by_cases e : Fa.names.getD k [] = x3
          · rw [if_pos ⟨by omega, e⟩, if_pos e]
          · rw [if_neg (fun h => e h.2), if_neg e]
        obtain ⟨⟨d0, d1, d2, d3⟩, f0, f2, f3⟩ := hst10.cells
        by_cases hnx : nml = x3
        · have HS11 := hst10.setK HF.out (k : Int)
          have HU : Hid (LSt w pb B lv L R0 X op ((Fa.kindUpTo x3 (k + 1) : Nat) : Int) b c q (Fa.wordTl r3) (w10.setCell ⟨X, 0, none⟩ (I64 (k : Int)))) := by
            rw [HKU.out, if_pos hnx]
            exact HS11
          have hb : (nml == x3) = true := by rw [beq_iff_eq]; exact hnx
          clear hst10 HS11 hnm hx10 hnml hnx HS9
          go_wp2_with fail
          case roundEnd => exact ⟨⟨k + 1, by omega, by omega, by go_num, HU⟩, by simp [intOf]; omega⟩
        · have HU : Hid (LSt w pb B lv L R0 X op ((Fa.kindUpTo x3 (k + 1) : Nat) : Int) b c q (Fa.wordTl r3) w10) := by
            rw [HKU.out, if_neg hnx]
            exact hst10
          have hb : (nml == x3) = false := by rw [beq_eq_false_iff_ne]; exact hnx
          clear hst10 hnm hx10 hnml hnx HS9
          go_wp2_with fail
          case roundEnd => exact ⟨⟨k + 1, by omega, by omega, by go_num, HU⟩, by simp [intOf]; omega⟩
      · have i1 : ¬ (k : Int) < 17 := by omega
        have hk : k = 17 := by omega
        rw [hk] at hst9
        have HKK : Hid (Fa.kindOf x3 = Fa.kindUpTo x3 17) := rfl
        have hd := hst9.drew
        obtain ⟨⟨e0, e1, e2, e3⟩, g0, g1, g2, g3⟩ := hst9.resCells
        have hXS : XS X ((Fa.kindUpTo x3 17 : Nat) : Int) op b c w9.drew := hd.cells.1
        obtain ⟨hr8, hg8, hz8, _⟩ := hd.out HF.out (I64 ((Fa.kindUpTo x3 17 : Nat) : Int)) (S8 op) (I64 b) (I64 c)
        have z0 := blk_cell hz8 0
        have z1 := blk_cell hz8 1
        have z2 := blk_cell hz8 2
        have z3 := blk_cell hz8 3
        simp only [List.getElem?_toArray, List.getElem?_cons_succ, List.getElem?_cons_zero] at z0 z1 z2 z3
        have hneX := HF.out.rx
        have hlt3 : (Fa.wordTl r3).length ≤ s.length := Nat.le_trans (Fa.wordTl_len r3) HL3.out
        have hra := HRA.out
        have hop2 := HOP.out
        cases is with
        | false =>
          have HEND : Hid (R (.returned (.tuple #[.agg #[I64 ((Fa.kindUpTo x3 17 : Nat) : Int), S8 op, I64 b, I64 c], .bool false])) ((((w9.drew.setCell ⟨R0, 0, none⟩ (I64 ((Fa.kindUpTo x3 17 : Nat) : Int))).setCell ⟨R0, 1, none⟩ (S8 op)).setCell ⟨R0, 2, none⟩ (I64 b)).setCell ⟨R0, 3, none⟩ (I64 c))) := by
            rw [HEQ.out]
            exact end_bad hg8 (Fa.link_false hra) rfl hr8 hlt3
          generalize ((Fa.kindUpTo x3 17 : Nat) : Int) = KV at hXS z0 z1 z2 z3 HEND
          clear hst9 hd hr8 hg8 hz8 hlt3 hra hop2 hk HKK
          go_wp2_with fail
          refine wp_region_held_drew (S := XS X KV op b c) (by kernel_rfl) hXS (fun hHeld => ?_)
          refine wpAnyH_take (i := 0) (oi := _) (v := ?vv0_17) (dropAt (r := _) rfl) (by kernel_rfl) (by kernel_rfl) (by kernel_rfl) (fun _ _ _ h => h) (Or.inl ⟨by rfl, ?hv0_17⟩) hHeld ?rv0_17
          case hv0_17 => (intro w hSw; unfold XS at hSw; go_simp; first | done | with_reducible rfl)
          try simp only [Act.put, List.setIfInBounds_toArray, List.set_cons_zero, List.set_cons_succ]
          refine wpAnyH_take (i := 1) (oi := _) (v := ?vv1_18) (dropAt (r := _) rfl) (by kernel_rfl) (by kernel_rfl) (by kernel_rfl) (fun _ _ _ h => h) (Or.inl ⟨by rfl, ?hv1_18⟩) hHeld ?rv1_18
          case hv1_18 => (intro w hSw; unfold XS at hSw; go_simp; first | done | with_reducible rfl)
          try simp only [Act.put, List.setIfInBounds_toArray, List.set_cons_zero, List.set_cons_succ]
          refine wpAnyH_take (i := 2) (oi := _) (v := ?vv2_19) (dropAt (r := _) rfl) (by kernel_rfl) (by kernel_rfl) (by kernel_rfl) (fun _ _ _ h => h) (Or.inl ⟨by rfl, ?hv2_19⟩) hHeld ?rv2_19
          case hv2_19 => (intro w hSw; unfold XS at hSw; go_simp; first | done | with_reducible rfl)
          try simp only [Act.put, List.setIfInBounds_toArray, List.set_cons_zero, List.set_cons_succ]
          refine wpAnyH_take (i := 3) (oi := _) (v := undef) (dropAt (r := _) rfl) (by kernel_rfl) (by kernel_rfl) (by kernel_rfl) (fun _ _ _ h => h) (Or.inr ⟨rfl, rfl⟩) hHeld ?_
          try simp only [Act.put, List.setIfInBounds_toArray, List.set_cons_zero, List.set_cons_succ]
          refine wpAnyH_take (i := 4) (oi := _) (v := undef) (dropAt (r := _) rfl) (by kernel_rfl) (by kernel_rfl) (by kernel_rfl) (fun _ _ _ h => h) (Or.inr ⟨rfl, rfl⟩) hHeld ?_
          try simp only [Act.put, List.setIfInBounds_toArray, List.set_cons_zero, List.set_cons_succ]
          refine wpAnyH_take (i := 5) (oi := _) (v := undef) (dropAt (r := _) rfl) (by kernel_rfl) (by kernel_rfl) (by kernel_rfl) (fun _ _ _ h => h) (Or.inr ⟨rfl, rfl⟩) hHeld ?_
          try simp only [Act.put, List.setIfInBounds_toArray, List.set_cons_zero, List.set_cons_succ]
          refine wpAnyH_take (i := 6) (oi := _) (v := ?vv6_20) (dropAt (r := _) rfl) (by kernel_rfl) (by kernel_rfl) (by kernel_rfl) (fun _ _ _ h => h) (Or.inl ⟨by rfl, ?hv6_20⟩) hHeld ?rv6_20
          case hv6_20 => (intro w hSw; unfold XS at hSw; go_simp; first | done | with_reducible rfl)
          try simp only [Act.put, List.setIfInBounds_toArray, List.set_cons_zero, List.set_cons_succ]
          refine wpAnyH_ready (rs := [7]) (by kernel_rfl) (by simp) ?_
          refine AllReadyH.cons (o := _) (dropAt (r := _) rfl) (fun K hK => ?_) AllReadyH.nil
          go_simp
          refine hK.out _ _ (hHeld.set hneX) (fun hHeld2 => ?_)
          clear hK K
          try simp only [Act.put, List.setIfInBounds_toArray, List.set_cons_zero, List.set_cons_succ]
          refine wpAnyH_take (i := 8) (oi := _) (v := ?vv8_21) (dropAt (r := _) rfl) (by kernel_rfl) (by kernel_rfl) (by kernel_rfl) (fun _ _ _ h => h) (Or.inl ⟨by rfl, ?hv8_21⟩) hHeld2 ?rv8_21
          case hv8_21 => (intro w hSw; unfold XS at hSw; go_simp; first | done | with_reducible rfl)
          try simp only [Act.put, List.setIfInBounds_toArray, List.set_cons_zero, List.set_cons_succ]
          refine wpAnyH_done (by kernel_rfl) ?_ _
          go_wp2_with fail
          refine bodyPost_ret (v := .tuple #[.agg #[I64 KV, S8 op, I64 b, I64 c], .bool false]) (by rw [results_cell_tmp rfl]; go_simp) rfl ?_
          exact HEND.out
        | true =>
          obtain ⟨q', hq', hpl⟩ := Fa.link_true hra HPR.out
          rw [← HX3.out, HKK.out, ← hop2] at hpl
          by_cases hK : Fa.kindUpTo x3 17 = 0
          · rw [if_pos hK] at hpl
            have HEND : Hid (R (.returned (.tuple #[.agg #[I64 ((Fa.kindUpTo x3 17 : Nat) : Int), S8 op, I64 b, I64 c], .bool false])) ((((w9.drew.setCell ⟨R0, 0, none⟩ (I64 ((Fa.kindUpTo x3 17 : Nat) : Int))).setCell ⟨R0, 1, none⟩ (S8 op)).setCell ⟨R0, 2, none⟩ (I64 b)).setCell ⟨R0, 3, none⟩ (I64 c))) := by
              rw [HEQ.out]
              exact end_bad hg8 hpl rfl hr8 hlt3
            have i5 : ¬ (0 : Int) < ((Fa.kindUpTo x3 17 : Nat) : Int) := by omega
            generalize ((Fa.kindUpTo x3 17 : Nat) : Int) = KV at hXS z0 z1 z2 z3 HEND i5
            clear hst9 hd hr8 hg8 hz8 hlt3 hra hop2 hk HKK hpl hK hq'
            go_wp2_with fail
            refine wp_region_held_drew (S := XS X KV op b c) (by kernel_rfl) hXS (fun hHeld => ?_)
            refine wpAnyH_take (i := 0) (oi := _) (v := ?vv0_1) (dropAt (r := _) rfl) (by kernel_rfl) (by kernel_rfl) (by kernel_rfl) (fun _ _ _ h => h) (Or.inl ⟨by rfl, ?hv0_1⟩) hHeld ?rv0_1
            case hv0_1 => (intro w hSw; unfold XS at hSw; go_simp; first | done | with_reducible rfl)
            try simp only [Act.put, List.setIfInBounds_toArray, List.set_cons_zero, List.set_cons_succ]
            refine wpAnyH_take (i := 1) (oi := _) (v := ?vv1_2) (dropAt (r := _) rfl) (by kernel_rfl) (by kernel_rfl) (by kernel_rfl) (fun _ _ _ h => h) (Or.inl ⟨by rfl, ?hv1_2⟩) hHeld ?rv1_2
            case hv1_2 => (intro w hSw; unfold XS at hSw; go_simp; first | done | with_reducible rfl)
            try simp only [Act.put, List.setIfInBounds_toArray, List.set_cons_zero, List.set_cons_succ]
            refine wpAnyH_take (i := 2) (oi := _) (v := ?vv2_3) (dropAt (r := _) rfl) (by kernel_rfl) (by kernel_rfl) (by kernel_rfl) (fun _ _ _ h => h) (Or.inl ⟨by rfl, ?hv2_3⟩) hHeld ?rv2_3
            case hv2_3 => (intro w hSw; unfold XS at hSw; go_simp; first | done | with_reducible rfl)
            try simp only [Act.put, List.setIfInBounds_toArray, List.set_cons_zero, List.set_cons_succ]
            refine wpAnyH_take (i := 3) (oi := _) (v := ?vv3_4) (dropAt (r := _) rfl) (by kernel_rfl) (by kernel_rfl) (by kernel_rfl) (fun _ _ _ h => h) (Or.inl ⟨by rfl, ?hv3_4⟩) hHeld ?rv3_4
            case hv3_4 => (intro w hSw; unfold XS at hSw; go_simp; first | done | with_reducible rfl)
            try simp only [Act.put, List.setIfInBounds_toArray, List.set_cons_zero, List.set_cons_succ]
            refine wpAnyH_take (i := 4) (oi := _) (v := ?vv4_5) (dropAt (r := _) rfl) (by kernel_rfl) (by kernel_rfl) (by kernel_rfl) (fun _ _ _ h => h) (Or.inl ⟨by rfl, ?hv4_5⟩) hHeld ?rv4_5
            case hv4_5 => (intro w hSw; unfold XS at hSw; go_simp; first | done | with_reducible rfl)
            try simp only [Act.put, List.setIfInBounds_toArray, List.set_cons_zero, List.set_cons_succ]
            refine wpAnyH_take (i := 5) (oi := _) (v := ?vv5_6) (dropAt (r := _) rfl) (by kernel_rfl) (by kernel_rfl) (by kernel_rfl) (fun _ _ _ h => h) (Or.inl ⟨by rfl, ?hv5_6⟩) hHeld ?rv5_6
            case hv5_6 => (intro w hSw; unfold XS at hSw; go_simp; first | done | with_reducible rfl)
            try simp only [Act.put, List.setIfInBounds_toArray, List.set_cons_zero, List.set_cons_succ]
            refine wpAnyH_take (i := 6) (oi := _) (v := ?vv6_7) (dropAt (r := _) rfl) (by kernel_rfl) (by kernel_rfl) (by kernel_rfl) (fun _ _ _ h => h) (Or.inl ⟨by rfl, ?hv6_7⟩) hHeld ?rv6_7
            case hv6_7 => (intro w hSw; unfold XS at hSw; go_simp; first | done | with_reducible rfl)
            try simp only [Act.put, List.setIfInBounds_toArray, List.set_cons_zero, List.set_cons_succ]
            refine wpAnyH_ready (rs := [7]) (by kernel_rfl) (by simp) ?_
            refine AllReadyH.cons (o := _) (dropAt (r := _) rfl) (fun K hK => ?_) AllReadyH.nil
            go_simp
            refine hK.out _ _ (hHeld.set hneX) (fun hHeld2 => ?_)
            clear hK K
            try simp only [Act.put, List.setIfInBounds_toArray, List.set_cons_zero, List.set_cons_succ]
            refine wpAnyH_take (i := 8) (oi := _) (v := ?vv8_8) (dropAt (r := _) rfl) (by kernel_rfl) (by kernel_rfl) (by kernel_rfl) (fun _ _ _ h => h) (Or.inl ⟨by rfl, ?hv8_8⟩) hHeld2 ?rv8_8
            case hv8_8 => (intro w hSw; unfold XS at hSw; go_simp; first | done | with_reducible rfl)
            try simp only [Act.put, List.setIfInBounds_toArray, List.set_cons_zero, List.set_cons_succ]
            refine wpAnyH_done (by kernel_rfl) ?_ _
            go_wp2_with fail
            refine bodyPost_ret (v := .tuple #[.agg #[I64 KV, S8 op, I64 b, I64 c], .bool false]) (by rw [results_cell_tmp rfl]; go_simp) rfl ?_
            exact HEND.out
          · rw [if_neg hK] at hpl
            have HEND : Hid (R (.returned (.tuple #[.agg #[I64 ((Fa.kindUpTo x3 17 : Nat) : Int), S8 op, I64 b, I64 c], .bool true])) ((((w9.drew.setCell ⟨R0, 0, none⟩ (I64 ((Fa.kindUpTo x3 17 : Nat) : Int))).setCell ⟨R0, 1, none⟩ (S8 op)).setCell ⟨R0, 2, none⟩ (I64 b)).setCell ⟨R0, 3, none⟩ (I64 c))) := by
              rw [HEQ.out]
              exact end_good hg8 hpl (by rw [← hq']; exact hr8)
            have i5 : (0 : Int) < ((Fa.kindUpTo x3 17 : Nat) : Int) := by omega
            generalize ((Fa.kindUpTo x3 17 : Nat) : Int) = KV at hXS z0 z1 z2 z3 HEND i5
            clear hst9 hd hr8 hg8 hz8 hlt3 hra hop2 hk HKK hpl hK hq'
            go_wp2_with fail
            refine wp_region_held_drew (S := XS X KV op b c) (by kernel_rfl) hXS (fun hHeld => ?_)
            refine wpAnyH_take (i := 0) (oi := _) (v := ?vv0_9) (dropAt (r := _) rfl) (by kernel_rfl) (by kernel_rfl) (by kernel_rfl) (fun _ _ _ h => h) (Or.inl ⟨by rfl, ?hv0_9⟩) hHeld ?rv0_9
            case hv0_9 => (intro w hSw; unfold XS at hSw; go_simp; first | done | with_reducible rfl)
            try simp only [Act.put, List.setIfInBounds_toArray, List.set_cons_zero, List.set_cons_succ]
            refine wpAnyH_take (i := 1) (oi := _) (v := ?vv1_10) (dropAt (r := _) rfl) (by kernel_rfl) (by kernel_rfl) (by kernel_rfl) (fun _ _ _ h => h) (Or.inl ⟨by rfl, ?hv1_10⟩) hHeld ?rv1_10
            case hv1_10 => (intro w hSw; unfold XS at hSw; go_simp; first | done | with_reducible rfl)
            try simp only [Act.put, List.setIfInBounds_toArray, List.set_cons_zero, List.set_cons_succ]
            refine wpAnyH_take (i := 2) (oi := _) (v := ?vv2_11) (dropAt (r := _) rfl) (by kernel_rfl) (by kernel_rfl) (by kernel_rfl) (fun _ _ _ h => h) (Or.inl ⟨by rfl, ?hv2_11⟩) hHeld ?rv2_11
            case hv2_11 => (intro w hSw; unfold XS at hSw; go_simp; first | done | with_reducible rfl)
            try simp only [Act.put, List.setIfInBounds_toArray, List.set_cons_zero, List.set_cons_succ]
            refine wpAnyH_take (i := 3) (oi := _) (v := ?vv3_12) (dropAt (r := _) rfl) (by kernel_rfl) (by kernel_rfl) (by kernel_rfl) (fun _ _ _ h => h) (Or.inl ⟨by rfl, ?hv3_12⟩) hHeld ?rv3_12
            case hv3_12 => (intro w hSw; unfold XS at hSw; go_simp; first | done | with_reducible rfl)
            try simp only [Act.put, List.setIfInBounds_toArray, List.set_cons_zero, List.set_cons_succ]
            refine wpAnyH_take (i := 4) (oi := _) (v := ?vv4_13) (dropAt (r := _) rfl) (by kernel_rfl) (by kernel_rfl) (by kernel_rfl) (fun _ _ _ h => h) (Or.inl ⟨by rfl, ?hv4_13⟩) hHeld ?rv4_13
            case hv4_13 => (intro w hSw; unfold XS at hSw; go_simp; first | done | with_reducible rfl)
            try simp only [Act.put, List.setIfInBounds_toArray, List.set_cons_zero, List.set_cons_succ]
            refine wpAnyH_take (i := 5) (oi := _) (v := ?vv5_14) (dropAt (r := _) rfl) (by kernel_rfl) (by kernel_rfl) (by kernel_rfl) (fun _ _ _ h => h) (Or.inl ⟨by rfl, ?hv5_14⟩) hHeld ?rv5_14
            case hv5_14 => (intro w hSw; unfold XS at hSw; go_simp; first | done | with_reducible rfl)
            try simp only [Act.put, List.setIfInBounds_toArray, List.set_cons_zero, List.set_cons_succ]
            refine wpAnyH_take (i := 6) (oi := _) (v := ?vv6_15) (dropAt (r := _) rfl) (by kernel_rfl) (by kernel_rfl) (by kernel_rfl) (fun _ _ _ h => h) (Or.inl ⟨by rfl, ?hv6_15⟩) hHeld ?rv6_15
            case hv6_15 => (intro w hSw; unfold XS at hSw; go_simp; first | done | with_reducible rfl)
            try simp only [Act.put, List.setIfInBounds_toArray, List.set_cons_zero, List.set_cons_succ]
            refine wpAnyH_ready (rs := [7]) (by kernel_rfl) (by simp) ?_
            refine AllReadyH.cons (o := _) (dropAt (r := _) rfl) (fun K hK => ?_) AllReadyH.nil
            go_simp
            refine hK.out _ _ (hHeld.set hneX) (fun hHeld2 => ?_)
            clear hK K
            try simp only [Act.put, List.setIfInBounds_toArray, List.set_cons_zero, List.set_cons_succ]
            refine wpAnyH_take (i := 8) (oi := _) (v := ?vv8_16) (dropAt (r := _) rfl) (by kernel_rfl) (by kernel_rfl) (by kernel_rfl) (fun _ _ _ h => h) (Or.inl ⟨by rfl, ?hv8_16⟩) hHeld2 ?rv8_16
            case hv8_16 => (intro w hSw; unfold XS at hSw; go_simp; first | done | with_reducible rfl)
            try simp only [Act.put, List.setIfInBounds_toArray, List.set_cons_zero, List.set_cons_succ]
            refine wpAnyH_done (by kernel_rfl) ?_ _
            go_wp2_with fail
            refine bodyPost_ret (v := .tuple #[.agg #[I64 KV, S8 op, I64 b, I64 c], .bool true]) (by rw [results_cell_tmp rfl]; go_simp) rfl ?_
            exact HEND.out
end Go.Proofs.YtgnhbccmdpkbiaaGreatDoor
namespace Go.Proofs.YtgnhbccmdpkbiaaGreatDoor
namespace Fa
theorem pp_nodes : ∀ (f : Nat) (m : Bool) (l r : Str) (t : F) (w : Bool), pp f m l = some (t, w, r) → t.nodes + r.length ≤ l.length := by
  intro f
  induction f with
  | zero => intro m l r t w h; simp [pp] at h
  | succ f ih =>
    intro m l r t w h
    cases m with
    | false =>
      unfold pp at h
      split at h
      · rename_i r1 h1
        split at h
        · exact absurd h (by simp)
        · rename_i k w1 r' h2
          split at h
          · simp only [Option.some.injEq, Prod.mk.injEq] at h
            have := ih _ _ _ _ _ h2
            have := pre_len h1
            rw [← h.2.2, ← h.1]
            simp only [F.nodes]
            simp at this
            omega
          · exact absurd h (by simp)
      · split at h
        · exact absurd h (by simp)
        · rename_i x w1 r1 h2
          have a1 := plink_len h2
          split at h
          · simp only [Option.some.injEq, Prod.mk.injEq] at h
            rw [← h.2.2, ← h.1]
            simp only [F.nodes]
            omega
          · rename_i r2 h3
            have a2 := pre_len h3
            split at h
            · exact absurd h (by simp)
            · rename_i c w2 r3 h4
              have a3 := ih _ _ _ _ _ h4
              simp only [Option.some.injEq, Prod.mk.injEq] at h
              rw [← h.2.2, ← h.1]
              simp only [F.nodes]
              omega
    | true =>
      unfold pp at h
      split at h
      · exact absurd h (by simp)
      · rename_i t1 w1 r1 h1
        have a1 := ih _ _ _ _ _ h1
        split at h
        · rename_i r2 h2
          have a2 := pre_len h2
          simp only [Option.some.injEq, Prod.mk.injEq] at h
          rw [← h.2.2, ← h.1]
          omega
        · split at h
          · exact absurd h (by simp)
          · rename_i r2 h3
            have a3 := pre_len h3
            split at h
            · exact absurd h (by simp)
            · rename_i k w2 r3 h4
              have a4 := ih _ _ _ _ _ h4
              simp only [Option.some.injEq, Prod.mk.injEq] at h
              rw [← h.2.2, ← h.1, app_nodes]
              omega
theorem ppT_nodes {m : Bool} {l r : Str} {t : F} {w : Bool} (h : ppT m l = some (t, w, r)) : t.nodes + r.length ≤ l.length := pp_nodes _ _ _ _ _ _ h
/-- Where the loop over the faults of a join stands: k are read, r is left. -/
def Pend (s1 : Str) (k : F) (q : Bool) (r : Str) : Prop := k.nodes + r.length ≤ s1.length ∧ ppT true s1 = (ppT true r).map fun p => (k.app p.1, q || p.2.1, p.2.2)
theorem Pend.start (s1 : Str) : Pend s1 .nil false s1 := by
  refine ⟨by simp [F.nodes], ?_⟩
  cases ppT true s1 with
  | none => rfl
  | some p => simp [F.app]
theorem Pend.none {s1 r : Str} {k : F} {q : Bool} (h : Pend s1 k q r) (h1 : ppT false r = none) : ppT true s1 = none := by rw [h.2, ppT_kids, h1]; rfl
theorem Pend.stop {s1 r r3 : Str} {k t : F} {q q3 : Bool} (h : Pend s1 k q r) (h1 : ppT false r = some (t, q3, r3)) (h2 : pre [41] r3 = Option.none) (h3 : pre [32, 38, 32] r3 = Option.none) : ppT true s1 = Option.none := by
  rw [h.2, ppT_kids, h1]
  simp only [h2, h3]
  rfl
theorem Pend.last {s1 r r3 r4 : Str} {k t : F} {q q3 : Bool} (h : Pend s1 k q r) (h1 : ppT false r = some (t, q3, r3)) (h2 : pre [41] r3 = some r4) : ppT true s1 = some (k.app t, q || q3, r4) := by
  rw [h.2, ppT_kids, h1]
  simp only [h2]
  rfl
theorem Pend.next {s1 r r3 r4 : Str} {k t : F} {q q3 : Bool} (h : Pend s1 k q r) (h1 : ppT false r = some (t, q3, r3)) (h2 : pre [41] r3 = Option.none) (h3 : pre [32, 38, 32] r3 = some r4) : Pend s1 (k.app t) (q || q3) r4 := by
  have a1 := ppT_nodes h1
  have a2 := pre_len h3
  have a3 := h.1
  refine ⟨by rw [app_nodes]; omega, ?_⟩
  rw [h.2, ppT_kids, h1]
  simp only [h2, h3]
  cases ppT true r4 with
  | none => rfl
  | some p => simp [app_assoc, Bool.or_assoc]
end Fa
open Go.RowKit Go.Shelf

theorem cellAt {α : Type} {T : TypeId} {n B : Nat} {enc : α → List Value} (hl : ∀ x, (enc x).length = n) {w : World} {g m c : Nat} {l : List α} (h : OwnL T n enc w B (.slice (some ⟨g, 0, none⟩) m c) l) {j : Nat} (hj : j < l.length) {i : Nat} {u : Value} (hu : (enc l[j])[i]? = some u) : w.cell? ⟨g, j * n + i, none⟩ = some u ∧ w.frozen? ⟨g, j * n + i, none⟩ = false := by
  refine ⟨?_, ?_⟩
  · have c1 := World.ownsRow.cells (show w.ownsRow B T n _ _ _ from h) (g := g) rfl _ _ (flat_get hl l j hj i u hu)
    rw [addr_add0] at c1
    exact c1
  · rcases h.2 with ⟨hv, _⟩ | ⟨g', cap, cur, hv, _, hg, _⟩
    · exact absurd hv (by simp)
    · simp only [Value.slice.injEq, Option.some.injEq, Addr.mk.injEq, and_true] at hv
      obtain ⟨rfl, _, _⟩ := hv
      exact blk_free hg _
theorem RS.setNode {w : World} {pb B g m c : Nat} {s : List UInt8} {L : List Fa.Node} {wd : Bool} (h : RS w pb B (.slice (some ⟨g, 0, none⟩) m c) s L wd) {j : Nat} (hj : j < L.length) (n : Int) :
    RS (w.setCell ⟨g, j * 6 + 1, none⟩ (I64 n)) pb B (.slice (some ⟨g, 0, none⟩) m c) s (L.set j ⟨L[j].depth, n, L[j].link⟩) wd ∧ w.grownBy (w.setCell ⟨g, j * 6 + 1, none⟩ (I64 n)) (some g) ∧ pb < g := by
  obtain ⟨h1, h2, h3, h4⟩ := h
  have hg := (h2.lt g rfl).1
  refine ⟨⟨by rw [Below.heap_setCell _ _ _ _ (by show pb ≠ g; omega)]; exact h1, h2.setAt encNode_len hj (by omega) rfl, h3, by simpa [World.setCell] using h4⟩, gb_set _ _ _ _, by omega⟩
theorem set_at {L M : List Fa.Node} {x x' : Fa.Node} : (L ++ x :: M).set L.length x' = L ++ x' :: M := by
  rw [List.set_append_right _ _ (Nat.le_refl _), Nat.sub_self]
  rfl
theorem rs_push {W w9 : World} {pb B : Nat} {lv v9 : Value} {s : List UInt8} {L L' : List Fa.Node} {wd : Bool} (h : RS W pb B lv s L wd) {o : Obj} (hown9 : OwnL 52 6 encNode w9 B v9 L') (hgr9 : (W.alloc o).grownBy w9 lv.ownBlock) :
    RS (w9.setCell ⟨pb, 1, none⟩ v9) pb B v9 s L' wd ∧ Below pb W (w9.setCell ⟨pb, 1, none⟩ v9) ∧ w9.cell? ⟨pb, 1, none⟩ = some lv ∧ w9.frozen? ⟨pb, 1, none⟩ = false := by
  obtain ⟨h1, h2, h3, h4⟩ := h
  have hl := lt_of_block h1
  have hne : ∀ k, lv.ownBlock = some k → B ≤ k := fun k hk => (h2.lt k hk).1
  have hne2 : some pb ≠ lv.ownBlock := fun e => by have := hne pb e.symm; omega
  have hb1 : (W.alloc o).heap[pb]? = W.heap[pb]? := ((Below.refl W.heap.size W).alloc (Nat.le_refl _) o).block pb hl
  have h9 := (hgr9.block pb (by simp; omega) hne2).trans (hb1.trans h1)
  refine ⟨⟨blk_set h9 1 _, own_low hown9 h3 _, h3, ?_⟩, ?_, blk_cell h9 1, blk_free h9 1⟩
  · have := hgr9.size
    simp at this
    simp [World.setCell]
    omega
  · have e1 : Below pb W (W.alloc o) := (Below.refl pb W).alloc (Nat.le_of_lt hl) o
    exact (e1.grown hgr9 (by simp; omega) (fun k hk => by have := hne k hk; omega)).setCell (Nat.le_refl _) _
theorem RS.cell1 {w : World} {pb B : Nat} {lv : Value} {s : List UInt8} {L : List Fa.Node} {wd : Bool} (h : RS w pb B lv s L wd) : w.cell? ⟨pb, 1, none⟩ = some lv ∧ w.frozen? ⟨pb, 1, none⟩ = false := ⟨blk_cell h.1 1, blk_free h.1 1⟩
def RSE (w : World) (pb B : Nat) (s : List UInt8) (L : List Fa.Node) (wd : Bool) : Prop := ∃ lv, RS w pb B lv s L wd
def FPost (s : List UInt8) (L : List Fa.Node) (wd : Bool) (pb B : Nat) (d : Int) (w : World) (e : Ending) (w' : World) : Prop := Below pb w w' ∧ match Fa.ppT false s with
  | some (t, q, r) => e = .returned (.bool true) ∧ RSE w' pb B r (L ++ t.chain d) (wd || q)
  | none => e = .returned (.bool false)
def RFC (n : Nat) : Prop := ∀ (s : List UInt8) (L : List Fa.Node) (wd : Bool) (pb B : Nat) (d : Int) (w : World), s.length ≤ n → 0 ≤ d → d + s.length ≤ 2000000 → L.length + s.length ≤ 2000000 → s.length ≤ 1000000 → RSE w pb B s L wd →
  Calls Tryz.prog 56 #[.pointer (some ⟨pb, 0, none⟩), I64 d] w (FPost s L wd pb B d w)
/-- What the region that appends a node reads at any time: the link of the node, in block Y. -/
def NS (Y : Nat) (kd : Int) (op : ByteArray) (bk cn : Int) (w : World) : Prop := w.cell? ⟨Y, 0, none⟩ = some (I64 kd) ∧ w.cell? ⟨Y, 1, none⟩ = some (.string op) ∧ w.cell? ⟨Y, 2, none⟩ = some (I64 bk) ∧ w.cell? ⟨Y, 3, none⟩ = some (I64 cn)
theorem NS.grown {Y : Nat} {kd : Int} {op : ByteArray} {bk cn : Int} {w w' : World} {r : Option Nat} (h : NS Y kd op bk cn w) (hg : w.grownBy w' r) (hne : some Y ≠ r) : NS Y kd op bk cn w' := by
  obtain ⟨h0, h1, h2, h3⟩ := h
  have hl := cell_lt h0
  exact ⟨(gb_cell' hg hl hne).trans h0, (gb_cell' hg hl hne).trans h1, (gb_cell' hg hl hne).trans h2, (gb_cell' hg hl hne).trans h3⟩
theorem fp_none {s : List UInt8} {L : List Fa.Node} {wd : Bool} {pb B : Nat} {d : Int} {w w' : World} (hb : Below pb w w') (h : Fa.ppT false s = none) : FPost s L wd pb B d w (.returned (.bool false)) w' := by
  refine ⟨hb, ?_⟩
  rw [h]
theorem fp_some {s r : List UInt8} {L : List Fa.Node} {wd : Bool} {pb B : Nat} {d : Int} {w w' : World} {t : Fa.F} {q : Bool} (hb : Below pb w w') (h : Fa.ppT false s = some (t, q, r)) (hr : RSE w' pb B r (L ++ t.chain d) (wd || q)) : FPost s L wd pb B d w (.returned (.bool true)) w' := by
  refine ⟨hb, ?_⟩
  rw [h]
  exact ⟨rfl, hr⟩
/-- The texts of what is left: how long. -/
def strAt (w : World) (b : Nat) : Nat := match w.cell? ⟨b, 0, none⟩ with
  | some (.string s) => s.size
  | _ => 0
theorem strAt_rs {w : World} {pb B : Nat} {lv : Value} {s : List UInt8} {L : List Fa.Node} {wd : Bool} (h : RS w pb B lv s L wd) : strAt w pb = s.length := by
  have := blk_cell h.1 0
  unfold strAt
  rw [this]
  exact size_arr s
/-- What link hands on, whether there is one or not. -/
theorem link_both {s : List UInt8} {L : List Fa.Node} {wd : Bool} {pb B : Nat} {lv : Value} {w w' : World} {e : Ending} (h : LinkPost s L wd pb B lv w e w') :
    ∃ x r q is, e = .returned (.tuple #[valLink x, .bool is]) ∧ RS w' pb B lv r L q ∧ r.length ≤ s.length ∧ w.grownBy w' (some pb) ∧ (is = true → ∃ q', q = (wd || q') ∧ Fa.plink s = some (x, q', r)) ∧ (is = false → Fa.plink s = none) := by
  obtain ⟨hg, h⟩ := h
  cases hp : Fa.plink s with
  | none =>
    rw [hp] at h
    obtain ⟨x, r, q, h1, h2, h3⟩ := h
    exact ⟨x, r, q, false, h1, h2, h3, hg, fun h => absurd h (by simp), fun _ => rfl⟩
  | some p =>
    obtain ⟨x, q', r⟩ := p
    rw [hp] at h
    obtain ⟨h1, h2⟩ := h
    exact ⟨x, r, _, true, h1, h2, Nat.le_of_lt (Fa.plink_len hp), hg, fun _ => ⟨q', rfl, rfl⟩, fun h => absurd h (by simp)⟩
set_option maxHeartbeats 8000000 in
set_option maxRecDepth 100000 in
theorem rfault_link (n : Nat) (hI : ∀ m, m < n → RFC m) (s : List UInt8) (L : List Fa.Node) (wd : Bool) (pb B : Nat) (d : Int) (lv : Value) (w : World) (hn : s.length ≤ n) (h0 : 0 ≤ d) (hd : d + s.length ≤ 2000000) (hL : L.length + s.length ≤ 2000000) (hs : s.length ≤ 1000000) (h : RS w pb B lv s L wd) (hp : Fa.pre [40] s = none) :
    Calls Tryz.prog 56 #[.pointer (some ⟨pb, 0, none⟩), I64 d] w (FPost s L wd pb B d w) := by
  have HT := Lib.hid (takes_any [40] s L wd pb B lv w h hs (by decide))
  have HPB := Lib.hid h.pb_lt
  have HPL := Lib.hid (Fa.ppT_link hp)
  have HI := Lib.hid hI
  have HLN := Lib.hid hn
  have HD := Lib.hid hd
  have HLL := Lib.hid hL
  have HS := Lib.hid hs
  have hpb : pb < B := h.2.2.1
  have HPBB := Lib.hid hpb
  have HP := Lib.hid hp
  have hd1 : d ≤ 2000000 := by omega
  clear h hp hI hn hd hL hs hpb
  obtain ⟨R, hR⟩ : ∃ R, R = FPost s L wd pb B d w := ⟨_, rfl⟩
  have HEQ := Lib.hid hR
  rw [← hR]
  clear hR
  go_enter Tryz.func56, Tryz.ntmps56
  go_wp2_with fail
  refine HT.out.mono ?_
  rintro e w1 ⟨rfl, hr1, hg1⟩
  rw [HP.out, Option.getD_none] at hr1
  rw [HP.out]
  have HR1 := Lib.hid hr1
  have HG1 := Lib.hid hg1
  clear hr1 hg1 HT
  go_wp2_with fail
  refine (rlink_any s L wd pb B lv w1 HR1.out HS.out).mono ?_
  rintro e w2 hlp
  obtain ⟨x, r, q, is, rfl, hr2, hl2, hg2, hy, hno⟩ := link_both hlp
  obtain ⟨kd, op, bk, cn⟩ := x
  unfold valLink
  dsimp only
  have HY := Lib.hid hy
  have HNO := Lib.hid hno
  have HL2 := Lib.hid hl2
  have hbY := (Below.refl w2.heap.size w2).alloc (Nat.le_refl _) (.cells #[I64 kd, .string op, I64 bk, I64 cn] 34)
  have hr3 : RS (w2.alloc (.cells #[I64 kd, .string op, I64 bk, I64 cn] 34)).drew pb B lv r L q := (hr2.below hbY).drew
  have hyb := blk_new w2 (.cells #[I64 kd, .string op, I64 bk, I64 cn] 34)
  have hNS : NS w2.heap.size kd op bk cn (w2.alloc (.cells #[I64 kd, .string op, I64 bk, I64 cn] 34)).drew := ⟨blk_cell hyb 0, blk_cell hyb 1, blk_cell hyb 2, blk_cell hyb 3⟩
  have hpr := hr2.pb_lt
  have hYpb : w2.heap.size ≠ pb := by omega
  have hYv : some w2.heap.size ≠ lv.ownBlock := fun e => by have := (hr2.2.1.lt _ e.symm).2; omega
  have hb3 : Below pb w (w2.alloc (.cells #[I64 kd, .string op, I64 bk, I64 cn] 34)).drew :=
    ((((Below.refl pb w).grown HG1.out (Nat.le_of_lt HPB.out) (fun k h => by injection h with h; omega)).grown hg2 (Nat.le_of_lt HR1.out.pb_lt) (fun k h => by injection h with h; omega)).alloc (Nat.le_of_lt hpr) _).drew
  clear hy hno hlp hr2 hl2 hbY hyb hg2
  go_wp2_with fail
  generalize w2.heap.size = Y at hNS hYpb hYv ⊢
  refine wp_region_held_drew (S := NS Y kd op bk cn) (by kernel_rfl) hNS (fun hHeld => ?_)
  generalize (w2.alloc (.cells #[I64 kd, .string op, I64 bk, I64 cn] 34)).drew = W at hr3 hb3 hHeld ⊢
  have HR3 := Lib.hid hr3
  have HB3 := Lib.hid hb3
  obtain ⟨l1, g1⟩ := hr3.cell1
  have hown := hr3.2.1
  clear hr3 hb3 hNS
  refine wpAnyH_take (i := 0) (oi := _) (v := ?vv0_1) (dropAt (r := _) rfl) (by kernel_rfl) (by kernel_rfl) (by kernel_rfl) (fun _ _ _ h => h) (Or.inl ⟨by rfl, ?hv0_1⟩) hHeld ?rv0_1
  case hv0_1 => (intro w hSw; unfold NS at hSw; go_simp; first | done | with_reducible rfl)
  try simp only [Act.put, List.setIfInBounds_toArray, List.set_cons_zero, List.set_cons_succ]
  refine wpAnyH_take (i := 1) (oi := _) (v := ?vv1_2) (dropAt (r := _) rfl) (by kernel_rfl) (by kernel_rfl) (by kernel_rfl) (fun _ _ _ h => h) (Or.inl ⟨by rfl, ?hv1_2⟩) hHeld ?rv1_2
  case hv1_2 => (intro w hSw; unfold NS at hSw; go_simp; first | done | with_reducible rfl)
  try simp only [Act.put, List.setIfInBounds_toArray, List.set_cons_zero, List.set_cons_succ]
  refine wpAnyH_take (i := 2) (oi := _) (v := ?vv2_3) (dropAt (r := _) rfl) (by kernel_rfl) (by kernel_rfl) (by kernel_rfl) (fun _ _ _ h => h) (Or.inl ⟨by rfl, ?hv2_3⟩) hHeld ?rv2_3
  case hv2_3 => (intro w hSw; unfold NS at hSw; go_simp; first | done | with_reducible rfl)
  try simp only [Act.put, List.setIfInBounds_toArray, List.set_cons_zero, List.set_cons_succ]
  refine wpAnyH_take (i := 3) (oi := _) (v := ?vv3_4) (dropAt (r := _) rfl) (by kernel_rfl) (by kernel_rfl) (by kernel_rfl) (fun _ _ _ h => h) (Or.inl ⟨by rfl, ?hv3_4⟩) hHeld ?rv3_4
  case hv3_4 => (intro w hSw; unfold NS at hSw; go_simp; first | done | with_reducible rfl)
  try simp only [Act.put, List.setIfInBounds_toArray, List.set_cons_zero, List.set_cons_succ]
  refine wpAnyH_take (i := 5) (oi := _) (v := ?vv5_5) (dropAt (r := _) rfl) (by kernel_rfl) (by kernel_rfl) (by kernel_rfl) (fun _ _ _ h => h) (Or.inl ⟨by rfl, ?hv5_5⟩) hHeld ?rv5_5
  case hv5_5 => (intro w hSw; unfold NS at hSw; go_simp; first | done | with_reducible rfl)
  try simp only [Act.put, List.setIfInBounds_toArray, List.set_cons_zero, List.set_cons_succ]
  refine wpAnyH_take (i := 6) (oi := _) (v := ?vv6_6) (dropAt (r := _) rfl) (by kernel_rfl) (by kernel_rfl) (by kernel_rfl) (fun _ _ _ h => h) (Or.inl ⟨by rfl, ?hv6_6⟩) hHeld ?rv6_6
  case hv6_6 => (intro w hSw; unfold NS at hSw; go_simp; first | done | with_reducible rfl)
  try simp only [Act.put, List.setIfInBounds_toArray, List.set_cons_zero, List.set_cons_succ]
  refine wpAnyH_take (i := 7) (oi := _) (v := ?vv7_7) (dropAt (r := _) rfl) (by kernel_rfl) (by kernel_rfl) (by kernel_rfl) (fun _ _ _ h => h) (Or.inl ⟨by rfl, ?hv7_7⟩) hHeld ?rv7_7
  case hv7_7 => (intro w hSw; unfold NS at hSw; go_simp; first | done | with_reducible rfl)
  try simp only [Act.put, List.setIfInBounds_toArray, List.set_cons_zero, List.set_cons_succ]
  refine wpAnyH_ready (rs := [4, 8]) (by kernel_rfl) (by simp) ?_
  refine AllReadyH.cons (o := _) (dropAt (r := _) rfl) (fun K hK => ?_) (AllReadyH.cons (o := _) (dropAt (r := _) rfl) (fun K hK => ?_) AllReadyH.nil)
  · go_simp
    refine hK.out _ _ hHeld (fun hHeldL => ?_)
    clear hK K hHeldL
    try simp only [Act.put, List.setIfInBounds_toArray, List.set_cons_zero, List.set_cons_succ]
    refine wpAnyH_ready (rs := [8]) (by kernel_rfl) (by simp) ?_
    refine AllReadyH.cons (o := _) (dropAt (r := _) rfl) (fun K hK => ?_) AllReadyH.nil
    go_simp
    have l8 := (((Below.refl W.heap.size W).alloc (Nat.le_refl _) (.cells #[I64 d, I64 0, I64 kd, .string op, I64 bk, I64 cn] 52)).cell (p := ⟨pb, 1, none⟩) HR3.out.pb_lt).trans l1
    have hh8 := hHeld.grown (gb_alloc _ (.cells #[I64 d, I64 0, I64 kd, .string op, I64 bk, I64 cn] 52) none) (by simp)
    refine hK.out _ _ hh8 (fun hHeld8 => ?_)
    clear hK K
    try simp only [Act.put, List.setIfInBounds_toArray, List.set_cons_zero, List.set_cons_succ]
    refine wpAnyH_ready (rs := [9]) (by kernel_rfl) (by simp) ?_
    refine AllReadyH.cons (o := _) (dropAt (r := _) rfl) (fun K hK => ?_) AllReadyH.nil
    rw [if_pos (by rfl)]
    refine appLsR elN _ _ _ rfl B lv L [⟨d, 0, ⟨kd, op, bk, cn⟩⟩] rfl (hown.alloc _) _ rfl ((own_one W B HR3.out.2.2.2 ⟨d, 0, ⟨kd, op, bk, cn⟩⟩).reads encNode_len) (by have := HLL.out; rw [List.length_singleton]; unfold maxLen; omega) (by have := HLL.out; rw [List.length_singleton]; omega) (by have := HR3.out.2.2.2; simp; omega) ?_
    intro v9 w9 hown9 hgr9
    obtain ⟨gn9, cn9, rfl, -, -⟩ := own_form hown9 (by simp)
    have hh9 := hHeld8.grown hgr9 hYv
    obtain ⟨hr12, hb12, l9, g9⟩ := rs_push HR3.out hown9 hgr9
    refine hK.out _ _ hh9 (fun hHeld9 => ?_)
    clear hK K
    try simp only [Act.put, List.setIfInBounds_toArray, List.set_cons_zero, List.set_cons_succ]
    refine wpAnyH_take (i := 10) (oi := _) (v := ?vv10_8) (dropAt (r := _) rfl) (by kernel_rfl) (by kernel_rfl) (by kernel_rfl) (fun _ _ _ h => h) (Or.inl ⟨by rfl, ?hv10_8⟩) hHeld9 ?rv10_8
    case hv10_8 => (intro w hSw; unfold NS at hSw; go_simp; first | done | with_reducible rfl)
    try simp only [Act.put, List.setIfInBounds_toArray, List.set_cons_zero, List.set_cons_succ]
    refine wpAnyH_take (i := 11) (oi := _) (v := ?vv11_9) (dropAt (r := _) rfl) (by kernel_rfl) (by kernel_rfl) (by kernel_rfl) (fun _ _ _ h => h) (Or.inl ⟨by rfl, ?hv11_9⟩) hHeld9 ?rv11_9
    case hv11_9 => (intro w hSw; unfold NS at hSw; go_simp; first | done | with_reducible rfl)
    try simp only [Act.put, List.setIfInBounds_toArray, List.set_cons_zero, List.set_cons_succ]
    refine wpAnyH_ready (rs := [12]) (by kernel_rfl) (by simp) ?_
    refine AllReadyH.cons (o := _) (dropAt (r := _) rfl) (fun K hK => ?_) AllReadyH.nil
    go_simp
    refine hK.out _ _ (hh9.grown (gb_set _ _ _ _) (fun e => hYpb (Option.some.inj e))) (fun hHeld12 => ?_)
    clear hK K
    try simp only [Act.put, List.setIfInBounds_toArray, List.set_cons_zero, List.set_cons_succ]
    refine wpAnyH_done (by kernel_rfl) ?_ _
    rw [List.length_append, List.length_singleton] at hr12 hb12
    generalize w9.setCell ⟨pb, 1, none⟩ (.slice (some ⟨gn9, 0, none⟩) (L.length + 1) cn9) = wz at hr12 hb12 ⊢
    generalize Value.slice (some ⟨gn9, 0, none⟩) (L.length + 1) cn9 = vz at hr12 ⊢
    have HBZ := Lib.hid (HB3.out.trans hb12)
    clear hown9 hgr9 hh9 l9 g9 hh8 hHeld8 l1 g1 hHeld12 hHeld9 hown hYv hYpb hHeld hb12
    cases is with
    | false =>
      have hpn : Fa.ppT false s = none := by rw [HPL.out, HNO.out rfl]
      have HEND : Hid (R (.returned (.bool false)) wz) := by
        rw [HEQ.out]
        exact fp_none HBZ.out hpn
      clear hpn hr12
      go_wp2_with fail
      exact HEND.out
    | true =>
      obtain ⟨q', hq', hpk⟩ := HY.out rfl
      have HTT := Lib.hid (takes_any [59, 32] r _ q pb B _ wz hr12 (by have := HL2.out; have := HS.out; omega) (by decide))
      have HZL := Lib.hid hr12.pb_lt
      have HQ := Lib.hid hq'
      have HK := Lib.hid hpk
      clear hr12 hq' hpk
      go_wp2_with fail
      refine HTT.out.mono ?_
      rintro e w13 ⟨rfl, hr13, hg13⟩
      have hb13 : Below pb w w13 := HBZ.out.grown hg13 (Nat.le_of_lt HZL.out) (fun k h => by injection h with h; omega)
      cases hp2 : Fa.pre [59, 32] r with
      | none =>
        rw [hp2, Option.getD_none] at hr13
        have hpn : Fa.ppT false s = some (.link ⟨kd, op, bk, cn⟩ .nil .nil, q', r) := by
          rw [HPL.out, HK.out]
          simp only [hp2]
        have HEND : Hid (R (.returned (.bool true)) w13) := by
          rw [HEQ.out]
          exact fp_some hb13 hpn ⟨_, by rw [← HQ.out]; exact hr13⟩
        clear hr13 hg13 hpn hp2 HTT
        go_wp2_with fail
        exact HEND.out
      | some r2 =>
        rw [hp2, Option.getD_some] at hr13
        have hl2 := Fa.pre_len hp2
        have hl3 := HL2.out
        have hlk := Fa.plink_len HK.out
        have e1 := HLN.out
        have e2 := HD.out
        have e3 := HLL.out
        have e4 := HS.out
        simp only [List.length_cons, List.length_nil] at hl2
        have HC := Lib.hid (HI.out r2.length (by omega) r2 (L ++ [⟨d, 0, ⟨kd, op, bk, cn⟩⟩]) q pb B (d + 1) w13 (Nat.le_refl _) (by omega) (by omega) (by rw [List.length_append, List.length_singleton]; omega) (by omega) ⟨_, hr13⟩)
        have HB13 := Lib.hid hb13
        have HL13 := Lib.hid hr13.pb_lt
        have hpn : Fa.ppT false s = match Fa.ppT false r2 with
            | none => none
            | some (c, w2, r3) => some (.link ⟨kd, op, bk, cn⟩ c .nil, q' || w2, r3) := by
          rw [HPL.out, HK.out]
          simp only [hp2]
          cases Fa.ppT false r2 <;> rfl
        have HPN := Lib.hid hpn
        clear hr13 hg13 hpn hp2 HTT hb13 hl2 hl3 hlk e1 e2 e3 e4
        cases hpt : Fa.ppT false r2 with
        | none =>
          have HPT := Lib.hid hpt
          clear hpt
          go_wp2_with fail
          refine HC.out.mono ?_
          rintro e w14 ⟨hb14, hpost⟩
          rw [HPT.out] at hpost
          obtain rfl := hpost
          have HEND : Hid (R (.returned (.bool false)) w14) := by
            rw [HEQ.out]
            exact fp_none (HB13.out.trans hb14) (by rw [HPN.out, HPT.out])
          clear hb14
          go_wp2_with fail
          exact HEND.out
        | some p =>
          obtain ⟨c, q3, r3⟩ := p
          have HPT := Lib.hid hpt
          clear hpt
          go_wp2_with fail
          refine HC.out.mono ?_
          rintro e w14 ⟨hb14, hpost⟩
          rw [HPT.out] at hpost
          obtain ⟨rfl, hr14⟩ := hpost
          have HEND : Hid (R (.returned (.bool true)) w14) := by
            rw [HEQ.out]
            refine fp_some (HB13.out.trans hb14) (by rw [HPN.out, HPT.out]) ?_
            rw [← Bool.or_assoc, ← HQ.out]
            rw [List.append_assoc] at hr14
            rw [show Fa.F.chain (.link ⟨kd, op, bk, cn⟩ c .nil) d = [⟨d, 0, ⟨kd, op, bk, cn⟩⟩] ++ c.chain (d + 1) from by simp [Fa.F.chain]]
            exact hr14
          clear hb14 hr14
          go_wp2_with fail
          exact HEND.out
  · go_simp
    have l8 := (((Below.refl W.heap.size W).alloc (Nat.le_refl _) (.cells #[I64 d, I64 0, I64 kd, .string op, I64 bk, I64 cn] 52)).cell (p := ⟨pb, 1, none⟩) HR3.out.pb_lt).trans l1
    have hh8 := hHeld.grown (gb_alloc _ (.cells #[I64 d, I64 0, I64 kd, .string op, I64 bk, I64 cn] 52) none) (by simp)
    refine hK.out _ _ hh8 (fun hHeld8 => ?_)
    clear hK K
    try simp only [Act.put, List.setIfInBounds_toArray, List.set_cons_zero, List.set_cons_succ]
    refine wpAnyH_ready (rs := [4]) (by kernel_rfl) (by simp) ?_
    refine AllReadyH.cons (o := _) (dropAt (r := _) rfl) (fun K hK => ?_) AllReadyH.nil
    go_simp
    refine hK.out _ _ hHeld8 (fun hHeldL => ?_)
    clear hK K hHeldL
    try simp only [Act.put, List.setIfInBounds_toArray, List.set_cons_zero, List.set_cons_succ]
    refine wpAnyH_ready (rs := [9]) (by kernel_rfl) (by simp) ?_
    refine AllReadyH.cons (o := _) (dropAt (r := _) rfl) (fun K hK => ?_) AllReadyH.nil
    rw [if_pos (by rfl)]
    refine appLsR elN _ _ _ rfl B lv L [⟨d, 0, ⟨kd, op, bk, cn⟩⟩] rfl (hown.alloc _) _ rfl ((own_one W B HR3.out.2.2.2 ⟨d, 0, ⟨kd, op, bk, cn⟩⟩).reads encNode_len) (by have := HLL.out; rw [List.length_singleton]; unfold maxLen; omega) (by have := HLL.out; rw [List.length_singleton]; omega) (by have := HR3.out.2.2.2; simp; omega) ?_
    intro v9 w9 hown9 hgr9
    obtain ⟨gn9, cn9, rfl, -, -⟩ := own_form hown9 (by simp)
    have hh9 := hHeld8.grown hgr9 hYv
    obtain ⟨hr12, hb12, l9, g9⟩ := rs_push HR3.out hown9 hgr9
    refine hK.out _ _ hh9 (fun hHeld9 => ?_)
    clear hK K
    try simp only [Act.put, List.setIfInBounds_toArray, List.set_cons_zero, List.set_cons_succ]
    refine wpAnyH_take (i := 10) (oi := _) (v := ?vv10_10) (dropAt (r := _) rfl) (by kernel_rfl) (by kernel_rfl) (by kernel_rfl) (fun _ _ _ h => h) (Or.inl ⟨by rfl, ?hv10_10⟩) hHeld9 ?rv10_10
    case hv10_10 => (intro w hSw; unfold NS at hSw; go_simp; first | done | with_reducible rfl)
    try simp only [Act.put, List.setIfInBounds_toArray, List.set_cons_zero, List.set_cons_succ]
    refine wpAnyH_take (i := 11) (oi := _) (v := ?vv11_11) (dropAt (r := _) rfl) (by kernel_rfl) (by kernel_rfl) (by kernel_rfl) (fun _ _ _ h => h) (Or.inl ⟨by rfl, ?hv11_11⟩) hHeld9 ?rv11_11
    case hv11_11 => (intro w hSw; unfold NS at hSw; go_simp; first | done | with_reducible rfl)
    try simp only [Act.put, List.setIfInBounds_toArray, List.set_cons_zero, List.set_cons_succ]
    refine wpAnyH_ready (rs := [12]) (by kernel_rfl) (by simp) ?_
    refine AllReadyH.cons (o := _) (dropAt (r := _) rfl) (fun K hK => ?_) AllReadyH.nil
    go_simp
    refine hK.out _ _ (hh9.grown (gb_set _ _ _ _) (fun e => hYpb (Option.some.inj e))) (fun hHeld12 => ?_)
    clear hK K
    try simp only [Act.put, List.setIfInBounds_toArray, List.set_cons_zero, List.set_cons_succ]
    refine wpAnyH_done (by kernel_rfl) ?_ _
    rw [List.length_append, List.length_singleton] at hr12 hb12
    generalize w9.setCell ⟨pb, 1, none⟩ (.slice (some ⟨gn9, 0, none⟩) (L.length + 1) cn9) = wz at hr12 hb12 ⊢
    generalize Value.slice (some ⟨gn9, 0, none⟩) (L.length + 1) cn9 = vz at hr12 ⊢
    have HBZ := Lib.hid (HB3.out.trans hb12)
    clear hown9 hgr9 hh9 l9 g9 hh8 hHeld8 l1 g1 hHeld12 hHeld9 hown hYv hYpb hHeld hb12
    cases is with
    | false =>
      have hpn : Fa.ppT false s = none := by rw [HPL.out, HNO.out rfl]
      have HEND : Hid (R (.returned (.bool false)) wz) := by
        rw [HEQ.out]
        exact fp_none HBZ.out hpn
      clear hpn hr12
      go_wp2_with fail
      exact HEND.out
    | true =>
      obtain ⟨q', hq', hpk⟩ := HY.out rfl
      have HTT := Lib.hid (takes_any [59, 32] r _ q pb B _ wz hr12 (by have := HL2.out; have := HS.out; omega) (by decide))
      have HZL := Lib.hid hr12.pb_lt
      have HQ := Lib.hid hq'
      have HK := Lib.hid hpk
      clear hr12 hq' hpk
      go_wp2_with fail
      refine HTT.out.mono ?_
      rintro e w13 ⟨rfl, hr13, hg13⟩
      have hb13 : Below pb w w13 := HBZ.out.grown hg13 (Nat.le_of_lt HZL.out) (fun k h => by injection h with h; omega)
      cases hp2 : Fa.pre [59, 32] r with
      | none =>
        rw [hp2, Option.getD_none] at hr13
        have hpn : Fa.ppT false s = some (.link ⟨kd, op, bk, cn⟩ .nil .nil, q', r) := by
          rw [HPL.out, HK.out]
          simp only [hp2]
        have HEND : Hid (R (.returned (.bool true)) w13) := by
          rw [HEQ.out]
          exact fp_some hb13 hpn ⟨_, by rw [← HQ.out]; exact hr13⟩
        clear hr13 hg13 hpn hp2 HTT
        go_wp2_with fail
        exact HEND.out
      | some r2 =>
        rw [hp2, Option.getD_some] at hr13
        have hl2 := Fa.pre_len hp2
        have hl3 := HL2.out
        have hlk := Fa.plink_len HK.out
        have e1 := HLN.out
        have e2 := HD.out
        have e3 := HLL.out
        have e4 := HS.out
        simp only [List.length_cons, List.length_nil] at hl2
        have HC := Lib.hid (HI.out r2.length (by omega) r2 (L ++ [⟨d, 0, ⟨kd, op, bk, cn⟩⟩]) q pb B (d + 1) w13 (Nat.le_refl _) (by omega) (by omega) (by rw [List.length_append, List.length_singleton]; omega) (by omega) ⟨_, hr13⟩)
        have HB13 := Lib.hid hb13
        have HL13 := Lib.hid hr13.pb_lt
        have hpn : Fa.ppT false s = match Fa.ppT false r2 with
            | none => none
            | some (c, w2, r3) => some (.link ⟨kd, op, bk, cn⟩ c .nil, q' || w2, r3) := by
          rw [HPL.out, HK.out]
          simp only [hp2]
          cases Fa.ppT false r2 <;> rfl
        have HPN := Lib.hid hpn
        clear hr13 hg13 hpn hp2 HTT hb13 hl2 hl3 hlk e1 e2 e3 e4
        cases hpt : Fa.ppT false r2 with
        | none =>
          have HPT := Lib.hid hpt
          clear hpt
          go_wp2_with fail
          refine HC.out.mono ?_
          rintro e w14 ⟨hb14, hpost⟩
          rw [HPT.out] at hpost
          obtain rfl := hpost
          have HEND : Hid (R (.returned (.bool false)) w14) := by
            rw [HEQ.out]
            exact fp_none (HB13.out.trans hb14) (by rw [HPN.out, HPT.out])
          clear hb14
          go_wp2_with fail
          exact HEND.out
        | some p =>
          obtain ⟨c, q3, r3⟩ := p
          have HPT := Lib.hid hpt
          clear hpt
          go_wp2_with fail
          refine HC.out.mono ?_
          rintro e w14 ⟨hb14, hpost⟩
          rw [HPT.out] at hpost
          obtain ⟨rfl, hr14⟩ := hpost
          have HEND : Hid (R (.returned (.bool true)) w14) := by
            rw [HEQ.out]
            refine fp_some (HB13.out.trans hb14) (by rw [HPN.out, HPT.out]) ?_
            rw [← Bool.or_assoc, ← HQ.out]
            rw [List.append_assoc] at hr14
            rw [show Fa.F.chain (.link ⟨kd, op, bk, cn⟩ c .nil) d = [⟨d, 0, ⟨kd, op, bk, cn⟩⟩] ++ c.chain (d + 1) from by simp [Fa.F.chain]]
            exact hr14
          clear hb14 hr14
          go_wp2_with fail
          exact HEND.out
end Go.Proofs.YtgnhbccmdpkbiaaGreatDoor
namespace Go.Proofs.YtgnhbccmdpkbiaaGreatDoor
open Go.RowKit Go.Shelf

def JR (s1 : List UInt8) (L : List Fa.Node) (wd : Bool) (pb B : Nat) (d : Int) (w wr : World) : Prop :=
  ∃ lv k r q, RS wr pb B lv r (L ++ ⟨d, ((k : Fa.F).len : Nat), Fa.Link.zero⟩ :: k.chain (d + 1)) (wd || q) ∧ Fa.Pend s1 k q r ∧ Below pb w wr
theorem pend_len {s1 r : List UInt8} {k : Fa.F} {q : Bool} (h : Fa.Pend s1 k q r) : r.length ≤ s1.length ∧ k.len + r.length ≤ s1.length := by
  have h1 := h.1
  have h2 := Fa.len_le_nodes k
  omega
theorem chain_at {L : List Fa.Node} {d : Int} {k : Fa.F} : ∃ h : L.length < (L ++ (⟨d, (k.len : Nat), Fa.Link.zero⟩ : Fa.Node) :: k.chain (d + 1)).length, (L ++ (⟨d, (k.len : Nat), Fa.Link.zero⟩ : Fa.Node) :: k.chain (d + 1))[L.length] = ⟨d, (k.len : Nat), Fa.Link.zero⟩ := by
  refine ⟨by simp, ?_⟩
  rw [List.getElem_append_right (Nat.le_refl _)]
  simp
theorem push_kid {L : List Fa.Node} {d : Int} {k t : Fa.F} (ht : t.len = 1) {n : Int} (hn : n = (k.len : Nat) + 1) : ((L ++ (⟨d, (k.len : Nat), Fa.Link.zero⟩ : Fa.Node) :: k.chain (d + 1)) ++ t.chain (d + 1)).set L.length ⟨d, n, Fa.Link.zero⟩ = L ++ ⟨d, ((k.app t).len : Nat), Fa.Link.zero⟩ :: (k.app t).chain (d + 1) := by
  rw [List.append_assoc, List.cons_append, set_at, Fa.app_chain, Fa.app_len, ht, hn]
  rfl
set_option maxHeartbeats 8000000 in
set_option maxRecDepth 100000 in
theorem rfault_join (n : Nat) (hI : ∀ m, m < n → RFC m) (s s1 : List UInt8) (L : List Fa.Node) (wd : Bool) (pb B : Nat) (d : Int) (lv : Value) (w : World) (hn : s.length ≤ n) (h0 : 0 ≤ d) (hd : d + s.length ≤ 2000000) (hL : L.length + s.length ≤ 2000000) (hs : s.length ≤ 1000000) (h : RS w pb B lv s L wd) (hp : Fa.pre [40] s = some s1) :
    Calls Tryz.prog 56 #[.pointer (some ⟨pb, 0, none⟩), I64 d] w (FPost s L wd pb B d w) := by
  have HT := Lib.hid (takes_any [40] s L wd pb B lv w h hs (by decide))
  have HPB := Lib.hid h.pb_lt
  have HPL := Lib.hid (Fa.ppT_join hp)
  have hl1 := Fa.pre_len hp
  simp only [List.length_cons, List.length_nil] at hl1
  have HI := Lib.hid hI
  have HL1 := Lib.hid hl1
  have HLN := Lib.hid hn
  have HD := Lib.hid hd
  have HLL := Lib.hid hL
  have HS := Lib.hid hs
  have HP := Lib.hid hp
  have hd1 : d ≤ 2000000 := by omega
  obtain ⟨a, cap, hlv⟩ := (h.2.1.reads encNode_len).len
  subst hlv
  clear h hp hI hn hd hL hs hl1
  obtain ⟨R, hR⟩ : ∃ R, R = FPost s L wd pb B d w := ⟨_, rfl⟩
  have HEQ := Lib.hid hR
  rw [← hR]
  clear hR
  go_enter Tryz.func56, Tryz.ntmps56
  go_wp2_with fail
  refine HT.out.mono ?_
  rintro e w1 ⟨rfl, hr1, hg1⟩
  rw [HP.out, Option.getD_some] at hr1
  rw [HP.out]
  have hb1 : Below pb w w1 := (Below.refl pb w).grown hg1 (Nat.le_of_lt HPB.out) (fun k h => by injection h with h; omega)
  have HR1 := Lib.hid hr1
  have HB1 := Lib.hid hb1
  obtain ⟨l1, g1⟩ := hr1.cell1
  have HOW := Lib.hid hr1.2.1
  have HBW := Lib.hid hr1.2.2.2
  clear hr1 hg1 HT hb1
  go_wp2_with (at_builtin; refine appL elN _ rfl _ _ rfl B _ L ⟨d, 0, Fa.Link.zero⟩ rfl (HOW.out.alloc _) _ 1 rfl (newN _ ⟨d, 0, Fa.Link.zero⟩ _) (by have := HLL.out; unfold maxLen; omega) (by have := HLL.out; omega) (by have := HBW.out; simp; omega) ?_; rintro v4 w4 hown4 hgr4 ⟨g4, c4, rfl⟩; obtain ⟨hr5, hb5, l5, g5⟩ := rs_push HR1.out hown4 hgr4; have HR5 := Lib.hid hr5; have HB5 := Lib.hid hb5; clear hown4 hgr4 hr5 hb5)
  have HST : Hid (JR s1 L wd pb B d w (w4.setCell ⟨pb, 1, none⟩ (.slice (some ⟨g4, 0, none⟩) (L.length + 1) c4))) := ⟨_, .nil, s1, false, by rw [Bool.or_false]; exact HR5.out, Fa.Pend.start s1, HB1.out.trans HB5.out⟩
  clear l5 g5 l1 g1
  go_loopw [] (fun wr => Hid (JR s1 L wd pb B d w wr)) (fun wr => strAt wr pb)
  case atStart => exact HST
  case round =>
    obtain ⟨lv, k, r, q, hr, hpd, hb⟩ := hrel.out
    obtain ⟨hpl1, hpl2⟩ := pend_len hpd
    have e1 := HLN.out
    have e2 := HD.out
    have e3 := HLL.out
    have e4 := HS.out
    have e5 := HL1.out
    have e6 := hpd.1
    have HC := Lib.hid (HI.out r.length (by omega) r (L ++ ⟨d, (k.len : Nat), Fa.Link.zero⟩ :: k.chain (d + 1)) (wd || q) pb B (d + 1) wr (Nat.le_refl _) (by omega) (by omega) (by rw [List.length_append, List.length_cons, Fa.chain_length]; omega) (by omega) ⟨_, hr⟩)
    have HPD := Lib.hid hpd
    have HB := Lib.hid hb
    have HSA := Lib.hid (strAt_rs hr)
    have HPB2 := Lib.hid hr.pb_lt
    have hkl : (k.len : Int) ≤ 2000000 := by omega
    clear hr hpd hb hrel hpl1 hpl2 e1 e2 e3 e4 e5 e6
    cases hpt : Fa.ppT false r with
    | none =>
      have hsn : Fa.ppT false s = none := by rw [HPL.out, HPD.out.none hpt]
      have HSN := Lib.hid hsn
      have HPT := Lib.hid hpt
      clear hpt hsn
      go_wp2_with fail
      refine HC.out.mono ?_
      rintro e w5 ⟨hb5, hpost⟩
      rw [HPT.out] at hpost
      obtain rfl := hpost
      have HEND : Hid (R (.returned (.bool false)) w5) := by
        rw [HEQ.out]
        exact fp_none (HB.out.trans hb5) HSN.out
      clear hb5
      go_wp2_with fail
      exact HEND.out
    | some p =>
      obtain ⟨t, q3, r3⟩ := p
      have HPT := Lib.hid hpt
      have HTL := Lib.hid (Fa.parse_ok hpt).1
      have HTN := Lib.hid (Fa.ppT_nodes hpt)
      have HTR := Lib.hid (Fa.ppT_len hpt)
      clear hpt
      go_wp2_with fail
      refine HC.out.mono ?_
      rintro e w5 ⟨hb5, hpost⟩
      rw [HPT.out] at hpost
      obtain ⟨rfl, lv5, hr5⟩ := hpost
      have hb5w := HB.out.trans hb5
      obtain ⟨g5, c5, rfl, hgB, hgl⟩ := own_form hr5.2.1 (by simp; omega)
      obtain ⟨m5, hm5⟩ : ∃ m5, m5 = ((L ++ (⟨d, (k.len : Nat), Fa.Link.zero⟩ : Fa.Node) :: k.chain (d + 1)) ++ t.chain (d + 1)).length := ⟨_, rfl⟩
      rw [← hm5] at hr5
      obtain ⟨hat, hget⟩ := chain_at (L := L) (d := d) (k := k)
      have hat2 : L.length < ((L ++ (⟨d, (k.len : Nat), Fa.Link.zero⟩ : Fa.Node) :: k.chain (d + 1)) ++ t.chain (d + 1)).length := by rw [List.length_append]; omega
      have hget2 : ((L ++ (⟨d, (k.len : Nat), Fa.Link.zero⟩ : Fa.Node) :: k.chain (d + 1)) ++ t.chain (d + 1))[L.length] = ⟨d, (k.len : Nat), Fa.Link.zero⟩ := by rw [List.getElem_append_left hat, hget]
      obtain ⟨c1, f1⟩ := cellAt encNode_len hr5.2.1 hat2 (i := 1) (u := I64 (k.len : Nat)) (by rw [hget2]; rfl)
      obtain ⟨hr6, hg6, hpg⟩ := hr5.setNode hat2 ((k.len : Nat) + 1)
      rw [hget2] at hr6
      dsimp only at hr6
      rw [push_kid HTL.out rfl, Bool.or_assoc] at hr6
      have hb6 := hb5w.grown hg6 (Nat.le_of_lt hr5.pb_lt) (fun k h => by injection h with h; omega)
      obtain ⟨l5, y5⟩ := hr5.cell1
      have hbnd : (L.length : Int) < (m5 : Int) := by omega
      have HR6 := Lib.hid hr6
      have HB6 := Lib.hid hb6
      have e4 := HS.out
      have e5 := HL1.out
      have e6 := HPD.out.1
      have e7 := HTN.out
      have HT7 := Lib.hid (takes_any [41] r3 _ _ pb B _ _ hr6 (by omega) (by decide))
      clear hb5 hb5w hgB hgl hr5 hat hget hat2 hget2 hr6 hg6 hb6 e4 e5 e6 e7 hm5
      go_wp2_with fail
      refine HT7.out.mono ?_
      rintro e w7 ⟨rfl, hr7, hg7⟩
      have hb7 : Below pb w w7 := HB6.out.grown hg7 (Nat.le_of_lt HR6.out.pb_lt) (fun k h => by injection h with h; omega)
      have HB7 := Lib.hid hb7
      clear hg7 hb7 HT7
      cases hp4 : Fa.pre [41] r3 with
      | some r4 =>
        rw [hp4, Option.getD_some] at hr7
        have hlast := HPD.out.last HPT.out hp4
        have hps := HPL.out
        rw [hlast] at hps
        dsimp only at hps
        obtain ⟨hat, hget⟩ := chain_at (L := L) (d := d) (k := k.app t)
        obtain ⟨c8, _⟩ := cellAt encNode_len hr7.2.1 hat (i := 1) (u := I64 ((k.app t).len : Nat)) (by rw [hget]; rfl)
        obtain ⟨l8, _⟩ := hr7.cell1
        have HR7 := Lib.hid hr7
        have hkl2 : (((k.app t).len : Nat) : Int) ≤ 2000000 := by
          have h1 := Fa.app_len k t
          have h2 := HTL.out
          have h3 := HPD.out.1
          have h4 := Fa.len_le_nodes k
          have h5 := HL1.out
          have h6 := HS.out
          omega
        by_cases hK : 1 < (k.app t).len
        · rw [if_pos hK] at hps
          have HEND : Hid (R (.returned (.bool true)) w7) := by
            rw [HEQ.out]
            refine fp_some HB7.out hps ?_
            rw [show Fa.F.chain (.join (k.app t) .nil) d = ⟨d, ((k.app t).len : Nat), Fa.Link.zero⟩ :: (k.app t).chain (d + 1) from by simp [Fa.F.chain]]
            exact ⟨_, HR7.out⟩
          have i5 : (1 : Int) < (((k.app t).len : Nat) : Int) := by omega
          generalize (((k.app t).len : Nat) : Int) = KV at c8 i5 hkl2
          clear hr7 hlast hps hat hget hK hp4
          go_wp2_with fail
          exact HEND.out
        · rw [if_neg hK] at hps
          have i5 : ¬ (1 : Int) < (((k.app t).len : Nat) : Int) := by omega
          have HEND : Hid (R (.returned (.bool (decide ((1 : Int) < (((k.app t).len : Nat) : Int))))) w7) := by
            rw [HEQ.out, decide_eq_false i5]
            exact fp_none HB7.out hps
          generalize (((k.app t).len : Nat) : Int) = KV at c8 i5 hkl2 HEND
          clear hr7 hlast hps hat hget hK hp4
          go_wp2_with fail
          exact HEND.out
      | none =>
        rw [hp4, Option.getD_none] at hr7
        have HP4 := Lib.hid hp4
        have HT8 := Lib.hid (takes_any [32, 38, 32] r3 _ _ pb B _ w7 hr7 (by have := HTR.out; have := HPD.out.1; have := HL1.out; have := HS.out; omega) (by decide))
        have HPB7 := Lib.hid hr7.pb_lt
        clear hr7 hp4
        go_wp2_with fail
        refine HT8.out.mono ?_
        rintro e w8 ⟨rfl, hr8, hg8⟩
        have hb8 : Below pb w w8 := HB7.out.grown hg8 (Nat.le_of_lt HPB7.out) (fun k h => by injection h with h; omega)
        have HB8 := Lib.hid hb8
        clear hg8 hb8 HT8
        cases hp5 : Fa.pre [32, 38, 32] r3 with
        | none =>
          have hsn : Fa.ppT false s = none := by rw [HPL.out, HPD.out.stop HPT.out HP4.out hp5]
          have HEND : Hid (R (.returned (.bool false)) w8) := by
            rw [HEQ.out]
            exact fp_none HB8.out hsn
          clear hr8 hp5 hsn
          go_wp2_with fail
          exact HEND.out
        | some r4 =>
          rw [hp5, Option.getD_some] at hr8
          have HN : Hid (JR s1 L wd pb B d w w8) := ⟨_, k.app t, r4, q || q3, hr8, HPD.out.next HPT.out HP4.out hp5, HB8.out⟩
          have HM : Hid (strAt w8 pb < strAt wr pb) := by
            show _ < _
            rw [HSA.out, strAt_rs hr8]
            have h1 := Fa.pre_len hp5
            have h2 := HTR.out
            omega
          clear hr8 hp5
          go_wp2_with fail
          case roundEnd => exact ⟨HN, HM.out⟩
theorem rfault_all : ∀ n, RFC n := by
  intro n
  induction n using Nat.strongRecOn with
  | ind n ih =>
    intro s L wd pb B d w hn h0 hd hL hs h
    obtain ⟨lv, h⟩ := h
    cases hp : Fa.pre [40] s with
    | none => exact rfault_link n ih s L wd pb B d lv w hn h0 hd hL hs h hp
    | some s1 => exact rfault_join n ih s s1 L wd pb B d lv w hn h0 hd hL hs h hp
end Go.Proofs.YtgnhbccmdpkbiaaGreatDoor
namespace Go.Proofs.YtgnhbccmdpkbiaaGreatDoor
namespace Fa
theorem chain_wideJ {t : F} (d : Int) : ((t.chain d).any fun x => decide (8 < x.joined)) = t.wideJ := by
  induction t generalizing d with
  | nil => rfl
  | link x c r ihc ihr => simp [F.chain, F.wideJ, ihc (d + 1), ihr d]
  | join k r ihc ihr =>
    simp only [F.chain, F.wideJ, List.any_cons, List.any_append, ihc (d + 1), ihr d, Bool.or_assoc]
    congr 1
    rw [Bool.eq_iff_iff]
    simp only [decide_eq_true_eq]
    omega
theorem big_eq {t : F} (hne : t ≠ .nil) : big t = (limits (t.chain 0) || t.wideJ) := by
  unfold big
  rw [limits_chain hne, Bool.decide_or]
theorem parse_none {s : Str} (h : ppT false s = none) : parse s = (6, .nil) := by unfold parse; rw [h]
theorem parse_more {s r : Str} {t : F} {w : Bool} (h : ppT false s = some (t, w, r)) (hr : r ≠ []) : parse s = (6, .nil) := by
  unfold parse; rw [h]
  cases r with
  | nil => exact absurd rfl hr
  | cons _ _ => rfl
theorem parse_all {s : Str} {t : F} {w : Bool} (h : ppT false s = some (t, w, [])) : parse s = if w then (7, .nil) else if big t then (3, .nil) else (0, t) := by unfold parse; rw [h]
end Fa
open Go.RowKit Go.Shelf
def RParsePost (s : List UInt8) (w : World) (e : Ending) (w' : World) : Prop := Below w.heap.size w w' ∧
  (((Fa.parse s).1 ≠ 0 ∧ e = .returned (.tuple #[.slice none 0 0, I64 (Fa.parse s).1])) ∨ ((Fa.parse s).1 = 0 ∧ ∃ lv, e = .returned (.tuple #[lv, I64 0]) ∧ ReadsL 6 encNode w' lv ((Fa.parse s).2.chain 0)))
theorem rp_bad {s : List UInt8} {w w' : World} {E : Int} {t : Fa.F} (hb : Below w.heap.size w w') (h : Fa.parse s = (E, t)) (hE : E ≠ 0) : RParsePost s w (.returned (.tuple #[.slice none 0 0, I64 E])) w' := by
  refine ⟨hb, .inl ?_⟩
  rw [h]
  exact ⟨hE, rfl⟩
theorem rp_ok {s : List UInt8} {w w' : World} {t : Fa.F} {lv : Value} (hb : Below w.heap.size w w') (h : Fa.parse s = (0, t)) (hr : ReadsL 6 encNode w' lv (t.chain 0)) : RParsePost s w (.returned (.tuple #[lv, I64 0])) w' := by
  refine ⟨hb, .inr ?_⟩
  rw [h]
  exact ⟨rfl, lv, rfl, hr⟩
theorem rs_new (w : World) (s : List UInt8) : RS (w.alloc (.cells #[S8 s, .slice none 0 0, .bool false] 118)) w.heap.size (w.heap.size + 1) (.slice none 0 0) s [] false :=
  ⟨blk_new w _, OwnL.nil _ _, Nat.lt_succ_self _, by simp⟩
set_option maxHeartbeats 8000000 in
set_option maxRecDepth 100000 in
theorem rparse_any (s : List UInt8) (w : World) (hs : s.length ≤ 1000000) : Calls Tryz.prog 32 #[S8 s] w (RParsePost s w) := by
  have hb0 := (Below.refl w.heap.size w).alloc (Nat.le_refl _) (.cells #[S8 s, .slice none 0 0, .bool false] 118)
  have HC := Lib.hid (rfault_all s.length s [] false w.heap.size (w.heap.size + 1) 0 _ (Nat.le_refl _) (by decide) (by omega) (by simp; omega) hs ⟨_, rs_new w s⟩)
  have HB0 := Lib.hid hb0
  have HS := Lib.hid hs
  clear hb0 hs
  obtain ⟨R, hR⟩ : ∃ R, R = RParsePost s w := ⟨_, rfl⟩
  have HEQ := Lib.hid hR
  rw [← hR]
  clear hR
  cases hpt : Fa.ppT false s with
  | none =>
    have HPN := Lib.hid (Fa.parse_none hpt)
    have HPT := Lib.hid hpt
    clear hpt
    go_enter Tryz.func32, Tryz.ntmps32
    go_wp2_with fail
    refine HC.out.mono ?_
    rintro e w1 ⟨hb1, hpost⟩
    rw [HPT.out] at hpost
    obtain rfl := hpost
    have HEND : Hid (R (.returned (.tuple #[.slice none 0 0, I64 6])) w1) := by
      rw [HEQ.out]
      exact rp_bad (HB0.out.trans hb1) HPN.out (by decide)
    clear hb1
    go_wp2_with fail
    exact HEND.out
  | some p =>
    obtain ⟨t, q, r⟩ := p
    have HPT := Lib.hid hpt
    have HOK := Lib.hid (Fa.parse_ok hpt)
    have HND := Lib.hid (Fa.ppT_nodes hpt)
    have HPM : Hid (r ≠ [] → Fa.parse s = (6, .nil)) := Fa.parse_more hpt
    have HPA : Hid (r = [] → Fa.parse s = if q then (7, .nil) else if Fa.big t then (3, .nil) else (0, t)) := by
      intro hr
      subst hr
      exact Fa.parse_all hpt
    clear hpt
    go_enter Tryz.func32, Tryz.ntmps32
    go_wp2_with fail
    refine HC.out.mono ?_
    rintro e w1 ⟨hb1, hpost⟩
    rw [HPT.out] at hpost
    obtain ⟨rfl, lv, hr1⟩ := hpost
    rw [List.nil_append, Bool.false_or] at hr1
    have hb1w := HB0.out.trans hb1
    have HB1 := Lib.hid hb1w
    have c0 := blk_cell hr1.1 0
    have c1 := blk_cell hr1.1 1
    have c2 := blk_cell hr1.1 2
    simp only [List.getElem?_toArray, List.getElem?_cons_succ, List.getElem?_cons_zero] at c0 c1 c2
    have hne : t.chain 0 ≠ [] := by
      have h1 := HOK.out.1
      cases t with
      | nil => exact absurd h1 (by decide)
      | link _ _ _ => simp [Fa.F.chain]
      | join _ _ => simp [Fa.F.chain]
    obtain ⟨g, c, rfl, hgB, hgl⟩ := own_form hr1.2.1 (List.length_pos_iff.2 hne)
    have HRD := Lib.hid (hr1.2.1.reads encNode_len)
    have HOWN := Lib.hid hr1.2.1
    obtain ⟨n, hn⟩ : ∃ n, n = (t.chain 0).length := ⟨_, rfl⟩
    have hnb : n ≤ 1000000 := by
      rw [hn, Fa.chain_length]
      have := HND.out
      have := HS.out
      omega
    have HN := Lib.hid hn
    rw [← hn] at c1 HRD HOWN
    have HLM := Lib.hid (limits_any _ _ w1 HRD.out (by rw [← hn]; omega))
    have HBIG := Lib.hid (Fa.big_eq (t := t) (fun e => hne (by rw [e]; rfl)))
    have hex : r.isEmpty = true ∨ r.isEmpty = false := by cases r.isEmpty <;> simp
    clear hb1 hb1w hr1 hgB hgl hn hne
    rcases hex with hex | hex
    · have hr0 : r = [] := List.isEmpty_iff.1 hex
      have hpa := HPA.out hr0
      cases q with
      | true =>
        rw [if_pos rfl] at hpa
        have HEND : Hid (R (.returned (.tuple #[.slice none 0 0, I64 7])) w1) := by
          rw [HEQ.out]
          exact rp_bad HB1.out hpa (by decide)
        clear hpa hr0
        go_wp2_with fail
        exact HEND.out
      | false =>
        rw [if_neg (by simp)] at hpa
        have HPB := Lib.hid hpa
        clear hpa hr0
        cases hlim : Fa.limits (t.chain 0) with
        | true =>
          rw [hlim] at HLM
          have HEND : Hid (R (.returned (.tuple #[.slice none 0 0, I64 3])) w1) := by
            rw [HEQ.out]
            refine rp_bad HB1.out (t := .nil) ?_ (by decide)
            rw [HPB.out, if_pos (by rw [HBIG.out, hlim]; rfl)]
          clear hlim
          go_wp2_with fail
          refine HLM.out.mono ?_
          rintro e w2 ⟨rfl, rfl⟩
          go_wp2_with fail
          exact HEND.out
        | false =>
          rw [hlim] at HLM
          have HWJ : Hid (Fa.big t = t.wideJ) := by
            show _ = _
            rw [HBIG.out, hlim]; rfl
          have HCW := Lib.hid (Fa.chain_wideJ (t := t) 0)
          have hcells : ∀ q (hq : q < (t.chain 0).length), w1.cell? ⟨g, q * 6 + 1, none⟩ = some (I64 (t.chain 0)[q].joined) := fun q hq => (cellAt encNode_len HOWN.out hq rfl).1
          have HCL := Lib.hid hcells
          clear hlim hcells
          go_wp2_with fail
          refine HLM.out.mono ?_
          rintro e w2 ⟨rfl, rfl⟩
          go_wp2
          go_loopw [5] (fun iv wr => ∃ k : Nat, k ≤ n ∧ iv = I64 k ∧ wr = w1 ∧ Hid (∀ j, j < k → ∀ hj : j < (t.chain 0).length, ¬ 8 < (t.chain 0)[j].joined)) (fun iv _ => n - (intOf iv).toNat)
          case atStart => exact ⟨0, Nat.zero_le _, rfl, rfl, fun j h => absurd h (Nat.not_lt_zero _)⟩
          case round =>
            obtain ⟨k, hk, rfl, rfl, hno⟩ := hrel
            by_cases hlt : k < n
            · have hkl : k < (t.chain 0).length := by rw [← HN.out]; exact hlt
              have c5 := HCL.out k hkl
              have i1 : (k : Int) < (n : Int) := by omega
              by_cases h8 : 8 < (t.chain 0)[k].joined
              · have HEND : Hid (R (.returned (.tuple #[.slice none 0 0, I64 3])) wr) := by
                  rw [HEQ.out]
                  refine rp_bad HB1.out (t := .nil) ?_ (by decide)
                  rw [HPB.out, if_pos]
                  rw [HWJ.out, ← HCW.out, List.any_eq_true]
                  exact ⟨_, List.getElem_mem hkl, decide_eq_true h8⟩
                generalize (t.chain 0)[k].joined = jn at c5 h8
                clear hno hkl
                go_wp2_with fail
                exact HEND.out
              · have HNX : Hid (∀ j, j < k + 1 → ∀ hj : j < (t.chain 0).length, ¬ 8 < (t.chain 0)[j].joined) := by
                  intro j hj hjl
                  by_cases e : j = k
                  · subst e; exact h8
                  · exact hno.out j (by omega) hjl
                generalize (t.chain 0)[k].joined = jn at c5 h8
                clear hno hkl
                go_wp2_with fail
                case roundEnd => exact ⟨⟨k + 1, by omega, by first | trivial | go_num, by first | trivial | rfl, HNX⟩, by simp [intOf]; omega⟩
            · have i1 : ¬ (k : Int) < (n : Int) := by omega
              have HEND : Hid (R (.returned (.tuple #[.slice (some ⟨g, 0, none⟩) n c, I64 0])) wr) := by
                rw [HEQ.out]
                refine rp_ok HB1.out (t := t) ?_ HRD.out
                rw [HPB.out, if_neg]
                rw [HWJ.out, ← HCW.out, Bool.not_eq_true, List.any_eq_false]
                intro x hx
                obtain ⟨j, hj, rfl⟩ := List.mem_iff_getElem.1 hx
                have := hno.out j (by have := HN.out; omega) hj
                simpa using this
              clear hno
              go_wp2_with fail
              exact HEND.out
    · have hpm := HPM.out (fun e => by rw [e] at hex; exact absurd hex (by decide))
      have HEND : Hid (R (.returned (.tuple #[.slice none 0 0, I64 6])) w1) := by
        rw [HEQ.out]
        exact rp_bad HB1.out hpm (by decide)
      clear hpm
      go_wp2_with fail
      exact HEND.out
end Go.Proofs.YtgnhbccmdpkbiaaGreatDoor
