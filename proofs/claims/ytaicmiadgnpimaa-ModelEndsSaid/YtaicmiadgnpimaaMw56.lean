/-
  Walks for layer 26 (model): structs held against each other; SameEffects of the reference.
-/
import Derived.Test.YtaicmiadgnpimaaMw55
namespace Go.Proofs.Ytaicmiadgnpimaa
open Go.RowKit

def agg4 (x : Md.Effect) : Value := .agg #[I64 x.1, I64 x.2.1, I64 x.2.2.1, I64 x.2.2.2]
theorem eqE (d : Nat) (x y : Md.Effect) (w : World) : (Op.equalIn (d + 2) 51 (agg4 x) (agg4 y)).run Try.prog w = .ok (decide (x = y)) w := by
  have u0 := Try.underlying3
  have a0 := Try.isAgg3
  have z0 := Try.sizeOf3
  have u1 := Try.underlying2
  have a1 := Try.isAgg2
  have z1 := Try.sizeOf2
  have e2 : Try.prog.stoodInHeld 51 = false := by kernel_rfl
  have e4 : Try.prog.underlying 51 = some (.struct (Try.prog.fieldsOf 51)) := by kernel_rfl
  obtain ⟨p, q, r, s⟩ := x
  obtain ⟨p', q', r', s'⟩ := y
  unfold agg4
  rw [show d + 2 = (d + 1) + 1 from rfl, run_equalIn_agg w (d + 1) _ _ _ e4 e2]
  simp only [Program.fieldsOf, Try.underlying51]
  go_simp
  by_cases hp : p = p' <;> by_cases hq : q = q' <;> by_cases hr : r = r' <;> by_cases hs : s = s' <;> simp [hp, hq, hr, hs]
theorem same_step {α : Type} {l m : List α} {k : Nat} (h : l.take k = m.take k) (h1 : k < l.length) (h2 : k < m.length) (e : l[k] = m[k]) : l.take (k + 1) = m.take (k + 1) := by
  rw [List.take_succ_eq_append_getElem h1, List.take_succ_eq_append_getElem h2, h, e]
theorem same_not {α : Type} {l m : List α} {k : Nat} (h1 : k < l.length) (h2 : k < m.length) (e : l[k] ≠ m[k]) : l ≠ m := by
  intro h; subst h; exact e rfl
theorem same_all {α : Type} {l m : List α} {k : Nat} (h : l.take k = m.take k) (h1 : l.length ≤ k) (h2 : m.length ≤ k) : l = m := by
  rwa [List.take_of_length_le h1, List.take_of_length_le h2] at h
theorem cells4 {w wr : World} {b o : Nat} {l : List Md.Effect} (hb : b < w.heap.size) (hwr : Below w.heap.size w wr)
    (hc : ∀ j (hj : j < l.length) (i : Nat) (u : Value), (encEff l[j])[i]? = some u → w.cell? ⟨b, o + j * 4 + i, none⟩ = some u) (k : Nat) (hk : k < l.length) :
    wr.cell? ⟨b, o + k * 4, none⟩ = some (I64 l[k].1) ∧ wr.cell? ⟨b, o + k * 4 + 1, none⟩ = some (I64 l[k].2.1) ∧ wr.cell? ⟨b, o + k * 4 + 2, none⟩ = some (I64 l[k].2.2.1) ∧ wr.cell? ⟨b, o + k * 4 + 3, none⟩ = some (I64 l[k].2.2.2) :=
  ⟨(hwr.cell (p := ⟨b, _, none⟩) hb).trans (hc k hk 0 _ rfl), (hwr.cell (p := ⟨b, _, none⟩) hb).trans (hc k hk 1 _ rfl), (hwr.cell (p := ⟨b, _, none⟩) hb).trans (hc k hk 2 _ rfl), (hwr.cell (p := ⟨b, _, none⟩) hb).trans (hc k hk 3 _ rfl)⟩
set_option maxHeartbeats 1000000 in
set_option maxRecDepth 100000 in
theorem sameE_any (v1 v2 : Value) (l m : List Md.Effect) (w : World) (h1 : ReadsL 4 encEff w v1 l) (h2 : ReadsL 4 encEff w v2 m) (hl : l.length ≤ 4294967296) (hm : m.length ≤ 4294967296) :
    Calls Try.prog 23 #[v1, v2] w fun e w' => e = .returned (.bool (decide (l = m))) ∧ Below w.heap.size w w' := by
  obtain ⟨a1, c1, hv1⟩ := h1.len
  obtain ⟨a2, c2, hv2⟩ := h2.len
  by_cases hlen : l.length = m.length
  · have hne : ((l.length : Int) != (m.length : Int)) = false := by rw [bne_eq_false_iff_eq]; omega
    by_cases hz : l.length = 0
    · have HS := Lib.hid (decide_eq_true (same_all (l := l) (m := m) (k := 0) (by simp) (by omega) (by omega)))
      have hz2 : m.length = 0 := by omega
      clear h1 h2 hlen
      rw [hz] at hv1
      rw [hz2] at hv2
      subst hv1 hv2
      clear hne hz hz2 hl hm
      go_enter Try.func23, Try.ntmps23
      go_wp2
      refine wp_loop_rounds 1 ?_
      rw [rounds_succ]
      go_wp2
      go_ret
      exact ⟨ret_bool HS.out.symm, Below.refl _ _⟩
    · clear hv1 hv2
      rcases h1 with ⟨a, cap, rfl, rfl⟩ | ⟨b, o, cap, rfl, hb, hc⟩
      · exact absurd rfl hz
      rcases h2 with ⟨a2, cap2, rfl, rfl⟩ | ⟨b2, o2, cap2, rfl, hb2, hc2⟩
      · exact absurd hlen hz
      have hlh := Lib.hid hlen
      clear hlen
      have hcs := Lib.hid hc
      have hcs2 := Lib.hid hc2
      clear hc hc2
      go_enter Try.func23, Try.ntmps23
      go_wp2
      go_loopw [5] (fun i wr => ∃ k : Nat, k ≤ l.length ∧ i = .int .i64 k ∧ Below w.heap.size w wr ∧ Hid (l.take k = m.take k)) (fun i _ => l.length - (intOf i).toNat)
      case atStart => exact ⟨0, Nat.zero_le _, rfl, Below.refl _ _, by show _ = _; simp⟩
      case round =>
        obtain ⟨k, hk, rfl, hwr, ht⟩ := hrel
        by_cases hlt : k < l.length
        · have hlt2 : k < m.length := by have := hlh.out; omega
          obtain ⟨p1, p2, p3, p4⟩ := cells4 hb hwr hcs.out k hlt
          obtain ⟨q1, q2, q3, q4⟩ := cells4 hb2 hwr hcs2.out k hlt2
          have i1 : (k : Int) < (l.length : Int) := by omega
          have i2 : (k : Int) < (m.length : Int) := by omega
          have e1 : Try.prog.eqGuardType Try.prog.depth 51 = false := by kernel_rfl
          have hN := eqE 9998 l[k] m[k]
          unfold agg4 at hN
          by_cases he : l[k] = m[k]
          · have HT := Lib.hid (same_step ht.out hlt hlt2 he)
            rw [decide_eq_true he] at hN
            clear he
            go_wp2
            go_quiet (fail)
            go_wp2
            go_roundw
            case rel => exact ⟨k + 1, by omega, by go_num, below_drewN hwr _, HT⟩
            case measure => simp [intOf]; omega
          · have HS := Lib.hid (decide_eq_false (same_not hlt hlt2 he))
            rw [decide_eq_false he] at hN
            clear he
            go_wp2
            go_quiet (fail)
            go_wp2
            go_ret
            exact ⟨ret_bool HS.out.symm, below_drewN hwr _⟩
        · have HS := Lib.hid (decide_eq_true (same_all ht.out (by omega) (by have := hlh.out; omega)))
          go_wp2
          go_ret
          exact ⟨ret_bool HS.out.symm, hwr⟩
  · have HS := Lib.hid (decide_eq_false (show l ≠ m from fun e => hlen (by rw [e])))
    have hne : ((l.length : Int) != (m.length : Int)) = true := by rw [bne_iff_ne]; omega
    clear h1 h2 hlen
    subst hv1 hv2
    go_enter Try.func23, Try.ntmps23
    go_wp2
    go_ret
    exact ⟨ret_bool HS.out.symm, Below.refl _ _⟩
end Go.Proofs.Ytaicmiadgnpimaa
