/-
  Walks for layer 3 (faults): Same of the reference; structs held against each other.
-/
import Derived.Test.YtgnhbccmdpkbiaaDoorFaw0
import Derived.Laws.StructEq
namespace Go.Proofs.YtgnhbccmdpkbiaaDoor
open Go.RowKit

theorem aggL (d : Nat) (x y : Fa.Link) (w : World) : (Op.equalIn (d + 2) 24 (valLink x) (valLink y)).run Tryd.prog w = .ok (decide (x = y)) w := by
  have u1 := Tryd.underlying9
  have a1 := Tryd.isAgg9
  have z1 := Tryd.sizeOf9
  have u2 := Tryd.underlying3
  have a2 := Tryd.isAgg3
  have z2 := Tryd.sizeOf3
  have u3 := Tryd.underlying2
  have a3 := Tryd.isAgg2
  have z3 := Tryd.sizeOf2
  have u4 := Tryd.underlying22
  have a4 := Tryd.isAgg22
  have z4 := Tryd.sizeOf22
  have e2 : Tryd.prog.stoodInHeld 24 = false := by kernel_rfl
  have e4 : Tryd.prog.underlying 24 = some (.struct (Tryd.prog.fieldsOf 24)) := by kernel_rfl
  obtain ⟨k, o, b, c⟩ := x
  obtain ⟨k', o', b', c'⟩ := y
  unfold valLink
  rw [show d + 2 = (d + 1) + 1 from rfl, run_equalIn_agg w (d + 1) _ _ _ e4 e2]
  simp only [Program.fieldsOf, Tryd.underlying24]
  go_simp
  simp only [Lib.toList_data]
  by_cases h1 : k = k' <;> by_cases h2 : o.data.toList = o'.data.toList <;> by_cases h3 : b = b' <;> by_cases h4 : c = c' <;> simp [h1, h2, h3, h4]
  all_goals first | exact fun e => absurd (congrArg (fun z => z.data.toList) e) h2 | exact Fa.ba_eq.1 h2
theorem aggN (x y : Fa.Node) (w : World) : (Op.equalIn 10000 67 (valNode x) (valNode y)).run Tryd.prog w = .ok (decide (x = y)) w := by
  have u2 := Tryd.underlying3
  have a2 := Tryd.isAgg3
  have z2 := Tryd.sizeOf3
  have a3 := Tryd.isAgg24
  have z3 := Tryd.sizeOf24
  have e2 : Tryd.prog.stoodInHeld 67 = false := by kernel_rfl
  have e4 : Tryd.prog.underlying 67 = some (.struct (Tryd.prog.fieldsOf 67)) := by kernel_rfl
  obtain ⟨d, j, l⟩ := x
  obtain ⟨d', j', l'⟩ := y
  obtain ⟨k, o, b, c⟩ := l
  obtain ⟨k', o', b', c'⟩ := l'
  unfold valNode
  rw [show (10000 : Nat) = 9999 + 1 from rfl, run_equalIn_agg w 9999 _ _ _ e4 e2]
  simp only [Program.fieldsOf, Tryd.underlying67]
  go_simp
  simp only [Lib.toList_data]
  by_cases h5 : d = d' <;> by_cases h6 : j = j' <;> by_cases h1 : k = k' <;> by_cases h2 : o.data.toList = o'.data.toList <;> by_cases h3 : b = b' <;> by_cases h4 : c = c' <;> simp [h1, h2, h3, h4, h5, h6]
  all_goals first | exact fun e => absurd (congrArg (fun z => z.data.toList) e) h2 | exact Fa.ba_eq.1 h2

theorem same_step {α : Type} {l m : List α} {k : Nat} (h : l.take k = m.take k) (h1 : k < l.length) (h2 : k < m.length) (e : l[k] = m[k]) : l.take (k + 1) = m.take (k + 1) := by
  rw [List.take_succ_eq_append_getElem h1, List.take_succ_eq_append_getElem h2, h, e]
theorem same_not {l m : List Fa.Node} {k : Nat} (h1 : k < l.length) (h2 : k < m.length) (e : l[k] ≠ m[k]) : decide (l = m) = false := by
  rw [decide_eq_false_iff_not]; intro h; subst h; exact e rfl
theorem same_len {l m : List Fa.Node} (e : l.length ≠ m.length) : decide (l = m) = false := by
  rw [decide_eq_false_iff_not]; intro h; subst h; exact e rfl
theorem same_all {l m : List Fa.Node} {k : Nat} (h : l.take k = m.take k) (h1 : l.length ≤ k) (h2 : m.length ≤ k) : decide (l = m) = true := by
  rw [List.take_of_length_le h1, List.take_of_length_le h2] at h; subst h; exact decide_eq_true rfl
theorem cells1 {w wr : World} {b o : Nat} {l : List Fa.Node} (hb : b < w.heap.size) (hwr : Below w.heap.size w wr)
    (hc : ∀ j (hj : j < l.length) (i : Nat) (u : Value), (encNode l[j])[i]? = some u → w.cell? ⟨b, o + j * 6 + i, none⟩ = some u) (k : Nat) (hk : k < l.length) :
    wr.cell? ⟨b, o + k * 6, none⟩ = some (I64 l[k].depth) ∧ wr.cell? ⟨b, o + k * 6 + 1, none⟩ = some (I64 l[k].joined) ∧ wr.cell? ⟨b, o + k * 6 + 2, none⟩ = some (I64 l[k].link.kind) ∧
    wr.cell? ⟨b, o + k * 6 + 3, none⟩ = some (.string l[k].link.op) ∧ wr.cell? ⟨b, o + k * 6 + 4, none⟩ = some (I64 l[k].link.backend) ∧ wr.cell? ⟨b, o + k * 6 + 5, none⟩ = some (I64 l[k].link.conn) :=
  ⟨(hwr.cell (p := ⟨b, _, none⟩) hb).trans (hc k hk 0 _ rfl), (hwr.cell (p := ⟨b, _, none⟩) hb).trans (hc k hk 1 _ rfl), (hwr.cell (p := ⟨b, _, none⟩) hb).trans (hc k hk 2 _ rfl),
   (hwr.cell (p := ⟨b, _, none⟩) hb).trans (hc k hk 3 _ rfl), (hwr.cell (p := ⟨b, _, none⟩) hb).trans (hc k hk 4 _ rfl), (hwr.cell (p := ⟨b, _, none⟩) hb).trans (hc k hk 5 _ rfl)⟩

set_option maxHeartbeats 1000000 in
set_option maxRecDepth 100000 in
theorem same_any (v1 v2 : Value) (l m : List Fa.Node) (w : World) (h1 : ReadsL 6 encNode w v1 l) (h2 : ReadsL 6 encNode w v2 m) (hl : l.length ≤ 4294967296) (hm : m.length ≤ 4294967296) :
    Calls Tryd.prog 21 #[v1, v2] w fun e w' => e = .returned (.bool (decide (l = m))) ∧ Below w.heap.size w w' := by
  obtain ⟨a1, c1, hv1⟩ := h1.len
  obtain ⟨a2, c2, hv2⟩ := h2.len
  by_cases hlen : l.length = m.length
  · have hne : ((l.length : Int) != (m.length : Int)) = false := by rw [bne_eq_false_iff_eq]; omega
    by_cases hz : l.length = 0
    · have HS := Lib.hid (same_all (l := l) (m := m) (k := 0) (by simp) (by omega) (by omega))
      have hz2 : m.length = 0 := by omega
      clear h1 h2 hlen
      rw [hz] at hv1
      rw [hz2] at hv2
      subst hv1 hv2
      clear hne hz hz2 hl hm
      go_enter Tryd.func21, Tryd.ntmps21
      go_wp2
      refine wp_loop_rounds 1 ?_
      rw [rounds_succ]
      go_wp2
      go_ret
      exact ⟨ret_b HS.out.symm, Below.refl _ _⟩
    · clear hv1 hv2
      rcases h1 with ⟨a, cap, rfl, rfl⟩ | ⟨b, o, cap, rfl, hb, hc⟩
      · exact absurd rfl hz
      rcases h2 with ⟨a2, cap2, rfl, rfl⟩ | ⟨b2, o2, cap2, rfl, hb2, hc2⟩
      · exact absurd hlen hz
      have hlh := Lib.hid hlen
      clear hlen
      have hcs := Lib.hid hc
      have hcs2 := Lib.hid hc2
      clear hc hc2
      go_enter Tryd.func21, Tryd.ntmps21
      go_wp2
      go_loopw [5] (fun i wr => ∃ k : Nat, k ≤ l.length ∧ i = .int .i64 k ∧ Below w.heap.size w wr ∧ Hid (l.take k = m.take k)) (fun i _ => l.length - (intOf i).toNat)
      case atStart => exact ⟨0, Nat.zero_le _, rfl, Below.refl _ _, by show _ = _; simp⟩
      case round =>
        obtain ⟨k, hk, rfl, hwr, ht⟩ := hrel
        by_cases hlt : k < l.length
        · have hlt2 : k < m.length := by have := hlh.out; omega
          obtain ⟨p1, p2, p3, p4, p5, p6⟩ := cells1 hb hwr hcs.out k hlt
          obtain ⟨q1, q2, q3, q4, q5, q6⟩ := cells1 hb2 hwr hcs2.out k hlt2
          have i1 : (k : Int) < (l.length : Int) := by omega
          have i2 : (k : Int) < (m.length : Int) := by omega
          have e1 : Tryd.prog.eqGuardType Tryd.prog.depth 67 = false := by kernel_rfl
          have hN := aggN l[k] m[k]
          unfold valNode at hN
          by_cases he : l[k] = m[k]
          · have HT := Lib.hid (same_step ht.out hlt hlt2 he)
            rw [decide_eq_true he] at hN
            clear he
            go_wp2
            go_quiet (fail)
            go_wp2
            go_roundw
            case rel => exact ⟨k + 1, by omega, by go_num, below_drewN hwr _, HT⟩
            case measure => simp [intOf]; omega
          · have HS := Lib.hid (same_not hlt hlt2 he)
            rw [decide_eq_false he] at hN
            clear he
            go_wp2
            go_quiet (fail)
            go_wp2
            go_ret
            exact ⟨ret_b HS.out.symm, below_drewN hwr _⟩
        · have HS := Lib.hid (same_all ht.out (by omega) (by have := hlh.out; omega))
          go_wp2
          go_ret
          exact ⟨ret_b HS.out.symm, hwr⟩
  · have HS := Lib.hid (same_len hlen)
    have hne : ((l.length : Int) != (m.length : Int)) = true := by rw [bne_iff_ne]; omega
    clear h1 h2 hlen
    subst hv1 hv2
    go_enter Tryd.func21, Tryd.ntmps21
    go_wp2
    go_ret
    exact ⟨ret_b HS.out.symm, Below.refl _ _⟩
end Go.Proofs.YtgnhbccmdpkbiaaDoor
