/-
  Walks for layer 3 (faults): the reference's tree and Build.
-/
import Derived.Test.YtgnhbccmdpkbiaaGreatDoorFaw1b
import Derived.Test.YtgnhbccmdpkbiaaGreatDoorFaw2
import Derived.Test.YtgnhbccmdpkbiaaGreatDoorW2
namespace Go.Proofs.YtgnhbccmdpkbiaaGreatDoor
open Go.RowKit

theorem aggZ6 (x : Fa.Link) (w : World) : (Op.equalIn 10000 34 (.agg #[I64 x.kind, .string x.op, I64 x.backend, I64 x.conn]) (.agg #[I64 0, .string ⟨#[]⟩, I64 0, I64 0])).run Tryz.prog w = .ok (Fa.isZero x) w := by
  exact aggL 9998 x Fa.Link.zero w
/-- Where the tree ends. -/
def endAt (n : Nat) : Option (Fa.F × List Fa.Node) → Int
  | none => -1
  | some (_, r) => (n : Int) - (r.length : Int)
def Fit6 (l : List Fa.Node) : Prop := l.length ≤ 40 ∧ ∀ x ∈ l, x.depth ≤ 12 ∧ x.link.op.size ≤ maxLen
theorem took_drop {t : Fa.F} {k j : Nat} {d : Int} {l r : List Fa.Node} (h : Fa.Took t k d (l.drop j) r) (hj : j ≤ l.length) : ∃ j', j ≤ j' ∧ j' ≤ l.length ∧ r = l.drop j' ∧ (l.length : Int) - (r.length : Int) = (j' : Int) := by
  obtain ⟨p, h1, _, _⟩ := h.part
  have h2 := congrArg List.length h1
  rw [List.length_drop, List.length_append] at h2
  refine ⟨j + p.length, by omega, by omega, ?_, by omega⟩
  have h3 : (l.drop j).drop p.length = r := by rw [h1, List.drop_left]
  rw [List.drop_drop] at h3
  exact h3.symm
theorem cells6 {w wr : World} {b o : Nat} {l : List Fa.Node} (hb : b < w.heap.size) (hwr : Below w.heap.size w wr)
    (hc : ∀ j (hj : j < l.length) (i : Nat) (u : Value), (encNode l[j])[i]? = some u → w.cell? ⟨b, o + j * 6 + i, none⟩ = some u) : ∀ j (hj : j < l.length) (i : Nat) (u : Value), (encNode l[j])[i]? = some u → wr.cell? ⟨b, o + j * 6 + i, none⟩ = some u :=
  fun j hj i u hu => (hwr.cell (p := ⟨b, _, none⟩) hb).trans (hc j hj i u hu)

def TreeC (f : Nat) : Prop := ∀ (l : List Fa.Node) (i : Nat) (d : Int) (w : World) (b o cap : Nat), i ≤ l.length → l.length - i < f → Fit6 l → 0 < l.length → 0 ≤ d → d ≤ 1000 → b < w.heap.size →
  (∀ j (hj : j < l.length) (i : Nat) (u : Value), (encNode l[j])[i]? = some u → w.cell? ⟨b, o + j * 6 + i, none⟩ = some u) →
  Calls Tryz.prog 41 #[.slice (some ⟨b, o, none⟩) l.length cap, I64 i, I64 d] w fun e w' => e = .returned (I64 (endAt l.length (Fa.tree f d (l.drop i)))) ∧ Below w.heap.size w w'

theorem ret_I {a b : Int} (h : a = b) : Ending.returned (I64 a) = .returned (I64 b) := by rw [h]
set_option maxHeartbeats 8000000 in
set_option maxRecDepth 100000 in
theorem tree_step (f : Nat) (hT : TreeC f) : TreeC (f + 1) := by
  intro l i d w b o cap hi hl hF hpos h0 h1 hb hc
  by_cases hil : i < l.length
  · obtain ⟨c0, c1, c2, c3, c4, c5⟩ := cells1 hb (Below.refl _ _) hc i hil
    have i1 : ¬ (l.length : Int) ≤ (i : Int) := by omega
    have i2 : (i : Int) < (l.length : Int) := by omega
    have hfx := hF.2 _ (List.getElem_mem hil)
    have hdr : l.drop i = l[i] :: l.drop (i + 1) := List.drop_eq_getElem_cons hil
    have HE : Hid (∀ res, Fa.tree (f + 1) d (l[i] :: l.drop (i + 1)) = res → endAt l.length (Fa.tree (f + 1) d (l.drop i)) = endAt l.length res) := fun res h => by rw [hdr, h]
    clear hdr
    have HC := Lib.hid hc
    have HF := Lib.hid hF
    have HT := Lib.hid hT
    have hl1 : i + 1 ≤ l.length := hil
    have hl40 : l.length ≤ 40 := hF.1
    generalize hx : l[i] = x at c0 c1 c2 c3 c4 c5 hfx HE
    clear hx hc hF hT
    obtain ⟨dp, jn, ⟨k, op, bk, c⟩⟩ := x
    dsimp only at c0 c1 c2 c3 c4 c5 hfx
    have HB := Lib.hid (show Below w.heap.size w (w.alloc (.cells #[I64 dp, I64 jn, I64 k, .string op, I64 bk, I64 c] 52)) from (Below.refl _ _).alloc (Nat.le_refl _) _)
    by_cases hd : dp = d
    · subst hd
      have hdl : dp ≤ 12 := hfx.1
      have hde : (dp != dp) = false := by simp
      by_cases hj : jn = 0
      · subst hj
        have HNM := Lib.hid fun w => rname_any op w hfx.2
        cases hn : Fa.okName ⟨k, op, bk, c⟩ with
        | false =>
          have HX := Lib.hid (HE.out none (by rw [Fa.tree, if_pos rfl, if_pos rfl, if_neg (by rw [hn]; decide)]))
          have HN := Lib.hid (show Wd.name op.data.toList = false from hn)
          clear hn hfx
          go_enter Tryz.func41, Tryz.ntmps41
          go_wp2_with (go_at_call 45; refine (HNM.out _).mono ?_; rintro e w1 ⟨rfl, rfl⟩; rw [HN.out])
          go_ret
          exact ⟨ret_I (by rw [HX.out]; rfl), HB.out⟩
        | true =>
          have HN := Lib.hid (show Wd.name op.data.toList = true from hn)
          have HTR : Hid (Fa.tree (f + 1) dp (⟨dp, 0, ⟨k, op, bk, c⟩⟩ :: l.drop (i + 1)) = if Fa.deeper dp (l.drop (i + 1)) then (match Fa.tree f (dp + 1) (l.drop (i + 1)) with
              | none => none
              | some (cc, rr) => some (.link (Fa.fix ⟨k, op, bk, c⟩) cc .nil, rr)) else some (.link (Fa.fix ⟨k, op, bk, c⟩) .nil .nil, l.drop (i + 1))) := by
            show _ = _
            rw [Fa.tree, if_pos rfl, if_pos rfl, if_pos hn]
            rfl
          clear hn hfx
          by_cases hi1 : i + 1 < l.length
          · have HDR := Lib.hid (List.drop_eq_getElem_cons hi1)
            obtain ⟨q0, _⟩ := cells1 hb HB.out HC.out (i + 1) hi1
            have i3 : (i : Int) + 1 < (l.length : Int) := by omega
            by_cases hdp : dp < (l[i + 1]).depth
            · have HX : Hid (endAt l.length (Fa.tree (f + 1) dp (l.drop i)) = endAt l.length (Fa.tree f (dp + 1) (l.drop (i + 1)))) := by
                show _ = _
                rw [HE.out _ (HTR.out.trans (if_pos (by rw [HDR.out]; simpa [Fa.deeper] using hdp)))]
                cases Fa.tree f (dp + 1) (l.drop (i + 1)) with
                | none => rfl
                | some p => rfl
              have HT1 : Hid (∀ w1, Below w.heap.size w w1 → Calls Tryz.prog 41 #[.slice (some ⟨b, o, none⟩) l.length cap, I64 ((i : Int) + 1), I64 (dp + 1)] w1 fun e w' => e = .returned (I64 (endAt l.length (Fa.tree f (dp + 1) (l.drop (i + 1))))) ∧ Below w1.heap.size w1 w') :=
                fun w1 hb1 => HT.out l (i + 1) (dp + 1) w1 b o cap hl1 (by omega) HF.out hpos (by omega) (by omega) (Nat.lt_of_lt_of_le hb hb1.size) (cells6 hb hb1 HC.out)
              go_enter Tryz.func41, Tryz.ntmps41
              go_wp2_with (first | (go_at_call 45; refine (HNM.out _).mono ?_; rintro e w1 ⟨rfl, rfl⟩; rw [HN.out]) | (go_at_call 41; refine (HT1.out _ HB.out).mono ?_; rintro e w1 ⟨rfl, hb1⟩))
              go_ret
              exact ⟨ret_I HX.out.symm, HB.out.trans (hb1.mono HB.out.size)⟩
            · have HX : Hid (endAt l.length (Fa.tree (f + 1) dp (l.drop i)) = (i : Int) + 1) := by
                show _ = _
                rw [HE.out _ (HTR.out.trans (if_neg (by rw [HDR.out]; simpa [Fa.deeper] using hdp)))]
                simp only [endAt, List.length_drop]
                omega
              go_enter Tryz.func41, Tryz.ntmps41
              go_wp2_with (go_at_call 45; refine (HNM.out _).mono ?_; rintro e w1 ⟨rfl, rfl⟩; rw [HN.out])
              go_ret
              exact ⟨ret_I HX.out.symm, HB.out⟩
          · have HX : Hid (endAt l.length (Fa.tree (f + 1) dp (l.drop i)) = (i : Int) + 1) := by
              show _ = _
              rw [HE.out _ (HTR.out.trans (if_neg (by rw [List.drop_of_length_le (by omega)]; simp [Fa.deeper])))]
              simp only [endAt, List.length_drop]
              omega
            have i3 : ¬ (i : Int) + 1 < (l.length : Int) := by omega
            go_enter Tryz.func41, Tryz.ntmps41
            go_wp2_with (go_at_call 45; refine (HNM.out _).mono ?_; rintro e w1 ⟨rfl, rfl⟩; rw [HN.out])
            go_ret
            exact ⟨ret_I HX.out.symm, HB.out⟩
      · have hje : (jn == 0) = false := by rw [beq_eq_false_iff_ne]; exact hj
        have HTR : Hid (Fa.tree (f + 1) dp (⟨dp, jn, ⟨k, op, bk, c⟩⟩ :: l.drop (i + 1)) = if Fa.badJoin ⟨dp, jn, ⟨k, op, bk, c⟩⟩ then none else match Fa.many (Fa.tree f (dp + 1)) jn.toNat (l.drop (i + 1)) with
            | none => none
            | some (k, r) => some (.join k .nil, r)) := by
          show _ = _
          rw [Fa.tree, if_pos rfl, if_neg hj]
          rfl
        have hz := aggZ6 ⟨k, op, bk, c⟩
        dsimp only at hz
        have e1 : Tryz.prog.eqGuardType Tryz.prog.depth 34 = false := by kernel_rfl
        clear hj
        cases hbj : Fa.badJoin ⟨dp, jn, ⟨k, op, bk, c⟩⟩ with
        | true =>
          have HX := Lib.hid (HE.out none (HTR.out.trans (if_pos hbj)))
          simp only [Fa.badJoin, Bool.or_eq_true, decide_eq_true_eq, Bool.not_eq_true'] at hbj
          by_cases h2 : jn < 2
          · clear hbj
            go_enter Tryz.func41, Tryz.ntmps41
            go_wp2
            go_ret
            exact ⟨ret_I (by rw [HX.out]; rfl), HB.out⟩
          · by_cases h8 : 8 < jn
            · clear hbj
              go_enter Tryz.func41, Tryz.ntmps41
              go_wp2
              go_ret
              exact ⟨ret_I (by rw [HX.out]; rfl), HB.out⟩
            · have hzz : Fa.isZero ⟨k, op, bk, c⟩ = false := by
                rcases hbj with (h | h) | h
                · exact absurd h h2
                · exact absurd h h8
                · exact h
              rw [hzz] at hz
              clear hbj hzz
              go_enter Tryz.func41, Tryz.ntmps41
              go_wp2
              go_ret
              exact ⟨ret_I (by rw [HX.out]; rfl), HB.out⟩
        | false =>
          have HTF := Lib.hid (HTR.out.trans (if_neg (by rw [hbj]; decide)))
          simp only [Fa.badJoin, Bool.or_eq_false_iff, decide_eq_false_iff_not, Bool.not_eq_false'] at hbj
          obtain ⟨⟨j2, j8⟩, hzz⟩ := hbj
          rw [hzz] at hz
          clear hzz
          obtain ⟨n, rfl⟩ : ∃ n : Nat, jn = n := ⟨jn.toNat, by omega⟩
          rw [Int.toNat_natCast] at HTF
          have HXN : Hid (Fa.many (Fa.tree f (dp + 1)) n (l.drop (i + 1)) = none → endAt l.length (Fa.tree (f + 1) dp (l.drop i)) = -1) := fun h => by
            rw [HE.out _ HTF.out, h]
            rfl
          have HXS : Hid (∀ t r, Fa.many (Fa.tree f (dp + 1)) n (l.drop (i + 1)) = some (t, r) → endAt l.length (Fa.tree (f + 1) dp (l.drop i)) = (l.length : Int) - (r.length : Int)) := fun t r h => by
            rw [HE.out _ HTF.out, h]
            rfl
          have HTT : Hid (∀ (j : Nat) w1, j ≤ l.length → i + 1 ≤ j → Below w.heap.size w w1 → Calls Tryz.prog 41 #[.slice (some ⟨b, o, none⟩) l.length cap, I64 (j : Int), I64 (dp + 1)] w1 fun e w' => e = .returned (I64 (endAt l.length (Fa.tree f (dp + 1) (l.drop j)))) ∧ Below w1.heap.size w1 w') :=
            fun j w1 hj1 hj2 hb1 => HT.out l j (dp + 1) w1 b o cap hj1 (by omega) HF.out hpos (by omega) (by omega) (Nat.lt_of_lt_of_le hb hb1.size) (cells6 hb hb1 HC.out)
          clear HTF HTR HE HT
          go_enter Tryz.func41, Tryz.ntmps41
          go_wp2

          go_loopw [1, 8] (fun at' kk wr => ∃ q j : Nat, q ≤ n ∧ kk = .int .i64 q ∧ at' = .int .i64 j ∧ j ≤ l.length ∧ i + 1 ≤ j ∧ Hid (Below (w.heap.size + 1) (w.alloc (.cells #[I64 dp, I64 n, I64 k, .string op, I64 bk, I64 c] 52)) wr) ∧ Hid (∃ t, Fa.many (Fa.tree f (dp + 1)) q (l.drop (i + 1)) = some (t, l.drop j))) (fun _ kk _ => n - (intOf kk).toNat)
          case atStart => exact ⟨0, i + 1, Nat.zero_le _, rfl, rfl, hl1, Nat.le_refl _, Below.refl _ _, .nil, rfl⟩
          case round =>
            obtain ⟨q, j, hq, rfl, rfl, hj1, hj2, hbr, hm⟩ := hrel
            have hbw : Below w.heap.size w wr := HB.out.trans (hbr.out.mono (by omega))
            have x1 := (hbr.out.cell (p := ⟨w.heap.size, 1, none⟩) (by simp)).trans (show _ = some (I64 (n : Int)) from by rw [World.cell?_alloc_at _ _ _ _ rfl]; rfl)
            by_cases hlt : q < n
            · have i3 : (q : Int) < (n : Int) := by omega
              have HC1 := Lib.hid (HTT.out j wr hj1 hj2 hbw)
              cases hTJ : Fa.tree f (dp + 1) (l.drop j) with
              | none =>
                rw [hTJ] at HC1
                have HX := Lib.hid (HXN.out (by obtain ⟨t, ht⟩ := hm.out; exact Fa.many_stop ht hTJ hlt))
                clear hTJ hm
                simp only [endAt] at HC1
                go_wp2_with (go_at_call 41; refine HC1.out.mono ?_; rintro e w3 ⟨rfl, hb3⟩)
                go_ret
                exact ⟨ret_I HX.out.symm, hbw.trans (hb3.mono hbw.size)⟩
              | some sr =>
                obtain ⟨s, r'⟩ := sr
                rw [hTJ] at HC1
                obtain ⟨j', g1, g2, rfl, g4⟩ := took_drop (Fa.tree_took _ _ _ _ _ hTJ) hj1
                have HX := Lib.hid (by obtain ⟨t, ht⟩ := hm.out; exact (⟨_, Fa.many_step ht hTJ⟩ : ∃ t, Fa.many (Fa.tree f (dp + 1)) (q + 1) (l.drop (i + 1)) = some (t, l.drop j')))
                simp only [endAt] at HC1
                rw [g4] at HC1
                have i4 : ¬ (j' : Int) < 0 := by omega
                clear hTJ hm g4
                go_wp2_with (go_at_call 41; refine HC1.out.mono ?_; rintro e w3 ⟨rfl, hb3⟩)
                case roundEnd =>
                  refine ⟨⟨q + 1, j', by omega, by go_num, rfl, g2, by omega, hbr.out.trans (hb3.mono (by have := hbr.out.size; simp at this; omega)), HX.out⟩, by simp [intOf]; omega⟩
            · have hqn : q = n := by omega
              have i3 : ¬ (q : Int) < (n : Int) := by omega
              have HX : Hid (endAt l.length (Fa.tree (f + 1) dp (l.drop i)) = (j : Int)) := by
                obtain ⟨t, ht⟩ := hm.out
                rw [hqn] at ht
                show _ = _
                rw [HXS.out t _ ht, List.length_drop]
                omega
              clear hm hqn
              go_wp2
              go_ret
              exact ⟨ret_I HX.out.symm, hbw⟩
    · have hde : (dp != d) = true := by rw [bne_iff_ne]; exact hd
      have HX := Lib.hid (HE.out none (by rw [Fa.tree, if_neg hd]))
      clear hd
      go_enter Tryz.func41, Tryz.ntmps41
      go_wp2
      go_ret
      exact ⟨ret_I (by rw [HX.out]; rfl), Below.refl _ _⟩
  · have i1 : (l.length : Int) ≤ (i : Int) := by omega
    have HX : Hid (endAt l.length (Fa.tree (f + 1) d (l.drop i)) = -1) := by
      show _ = _
      rw [List.drop_of_length_le (by omega)]
      simp [Fa.tree, endAt]
    clear hc hT hF
    go_enter Tryz.func41, Tryz.ntmps41
    go_wp2
    go_ret
    exact ⟨ret_I HX.out.symm, Below.refl _ _⟩
end Go.Proofs.YtgnhbccmdpkbiaaGreatDoor
