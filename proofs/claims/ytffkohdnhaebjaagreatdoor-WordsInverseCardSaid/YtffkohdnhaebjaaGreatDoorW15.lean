/-
  Walks: the reference's Same.
-/
import Derived.Test.YtffkohdnhaebjaaGreatDoorW14
import Derived.Test.YtffkohdnhaebjaaGreatDoorGen
import Derived.Test.YtffkohdnhaebjaaGreatDoorW11
import Derived.BigQuiet
import Derived.Laws.StructEq
namespace Go.Proofs.YtffkohdnhaebjaaGreatDoor
open Go.RowKit Go.Shelf

theorem same_step {l m : List Wd.Fld} {k : Nat} (h : l.take k = m.take k) (h1 : k < l.length) (h2 : k < m.length) (e : l[k] = m[k]) : l.take (k + 1) = m.take (k + 1) := by
  rw [List.take_succ_eq_append_getElem h1, List.take_succ_eq_append_getElem h2, h, e]
theorem same_not {l m : List Wd.Fld} {k : Nat} (h1 : k < l.length) (h2 : k < m.length) (e : l[k] ≠ m[k]) : (l == m) = false := by
  rw [beq_eq_false_iff_ne]; intro h; subst h; exact e rfl
theorem same_len {l m : List Wd.Fld} (e : l.length ≠ m.length) : (l == m) = false := by
  rw [beq_eq_false_iff_ne]; intro h; subst h; exact e rfl
theorem same_all {l m : List Wd.Fld} {k : Nat} (h : l.take k = m.take k) (h1 : l.length ≤ k) (h2 : m.length ≤ k) : (l == m) = true := by
  rw [List.take_of_length_le h1, List.take_of_length_le h2] at h; subst h; exact beq_self_eq_true _
theorem aggF (a b : List UInt8) (x y : Bool) (w : World) : (Op.equalIn 10000 47 (.agg #[S8 a, .bool x]) (.agg #[S8 b, .bool y])).run Tryz.prog w = .ok (decide ((a, x) = (b, y))) w := by
  have u3 := Tryz.underlying9
  have a3 := Tryz.isAgg9
  have z3 := Tryz.sizeOf9
  have u4 := Tryz.underlying4
  have a4 := Tryz.isAgg4
  have z4 := Tryz.sizeOf4
  have e2 : Tryz.prog.stoodInHeld 47 = false := by kernel_rfl
  have e4 : Tryz.prog.underlying 47 = some (.struct (Tryz.prog.fieldsOf 47)) := by kernel_rfl
  rw [show (10000 : Nat) = 9999 + 1 from rfl, run_equalIn_agg w 9999 _ _ _ e4 e2]
  simp only [Program.fieldsOf, Tryz.underlying47]
  go_simp
  by_cases h1 : a = b <;> by_cases h2 : x = y <;> simp [h1, h2]

set_option maxHeartbeats 1000000 in
set_option maxRecDepth 100000 in
theorem rSame_any (v1 v2 : Value) (l m : List Wd.Fld) (w : World) (h1 : ReadsF w v1 l) (h2 : ReadsF w v2 m) (hl : l.length ≤ 4294967296) (hm : m.length ≤ 4294967296) :
    Calls Tryz.prog 18 #[v1, v2] w fun e w' => e = .returned (.bool (l == m)) ∧ Below w.heap.size w w' := by
  obtain ⟨a1, c1, hv1⟩ : ∃ a c, v1 = .slice a l.length c := by
    rcases h1 with ⟨a, cap, rfl, rfl⟩ | ⟨b, o, cap, rfl, _⟩
    · exact ⟨_, _, rfl⟩
    · exact ⟨_, _, rfl⟩
  obtain ⟨a2, c2, hv2⟩ : ∃ a c, v2 = .slice a m.length c := by
    rcases h2 with ⟨a, cap, rfl, rfl⟩ | ⟨b, o, cap, rfl, _⟩
    · exact ⟨_, _, rfl⟩
    · exact ⟨_, _, rfl⟩
  by_cases hlen : l.length = m.length
  · have hne : ((l.length : Int) != (m.length : Int)) = false := by rw [bne_eq_false_iff_eq]; omega
    by_cases hz : l.length = 0
    · have HS := Lib.hid (same_all (l := l) (m := m) (k := 0) (by simp) (by omega) (by omega))
      have hz2 : m.length = 0 := by omega
      clear h1 h2 hlen
      rw [hz] at hv1
      rw [hz2] at hv2
      subst hv1 hv2
      clear hne hz hz2 hl hm
      go_enter Tryz.func18, Tryz.ntmps18
      go_wp2
      refine wp_loop_rounds 1 ?_
      rw [rounds_succ]
      go_wp2
      go_ret
      exact ⟨ret_bool HS.out.symm, Below.refl _ _⟩
    · clear hv1 hv2
      rcases h1 with ⟨a, cap, rfl, rfl⟩ | ⟨b, o, cap, rfl, hb, hc⟩
      · exact absurd rfl hz
      rcases h2 with ⟨a2, cap2, rfl, rfl⟩ | ⟨b2, o2, cap2, rfl, hb2, hc2⟩
      · exact absurd hlen hz
      have hlh := Lib.hid hlen
      clear hlen
      go_enter Tryz.func18, Tryz.ntmps18
      go_wp2
      go_loopw [5] (fun i wr => ∃ k : Nat, k ≤ l.length ∧ i = .int .i64 k ∧ Below w.heap.size w wr ∧ Hid (l.take k = m.take k)) (fun i _ => l.length - (intOf i).toNat)
      case atStart => exact ⟨0, Nat.zero_le _, rfl, Below.refl _ _, by show _ = _; simp⟩
      case round =>
        obtain ⟨k, hk, rfl, hwr, ht⟩ := hrel
        by_cases hlt : k < l.length
        · have hlt2 : k < m.length := by have := hlh.out; omega
          have c1 := (hwr.cell (p := ⟨b, o + 2 * k, none⟩) hb).trans (hc k hlt).1
          have c2 := (hwr.cell (p := ⟨b, o + 2 * k + 1, none⟩) hb).trans (hc k hlt).2
          have d1 := (hwr.cell (p := ⟨b2, o2 + 2 * k, none⟩) hb2).trans (hc2 k hlt2).1
          have d2 := (hwr.cell (p := ⟨b2, o2 + 2 * k + 1, none⟩) hb2).trans (hc2 k hlt2).2
          rw [Nat.mul_comm] at c1 c2 d1 d2
          have i1 : (k : Int) < (l.length : Int) := by omega
          have i2 : (k : Int) < (m.length : Int) := by omega
          have e1 : Tryz.prog.eqGuardType Tryz.prog.depth 47 = false := by kernel_rfl
          clear hc hc2
          by_cases he : l[k] = m[k]
          · have HT := Lib.hid (same_step ht.out hlt hlt2 he)
            have he2 : (l[k].1, l[k].2) = (m[k].1, m[k].2) := by rw [he]
            have hq : ∀ W, (Op.equalIn 10000 47 (.agg #[S8 l[k].1, .bool l[k].2]) (.agg #[S8 m[k].1, .bool m[k].2])).run Tryz.prog W = .ok true W := fun W => by rw [aggF, decide_eq_true he2]
            clear he he2
            go_wp2
            go_quiet (fail)
            go_wp2
            go_roundw
            case rel => exact ⟨k + 1, by omega, by go_num, below_dn hwr _, HT⟩
            case measure => simp [intOf]; omega
          · have HS := Lib.hid (same_not hlt hlt2 he)
            have he2 : ¬ (l[k].1, l[k].2) = (m[k].1, m[k].2) := he
            have hq : ∀ W, (Op.equalIn 10000 47 (.agg #[S8 l[k].1, .bool l[k].2]) (.agg #[S8 m[k].1, .bool m[k].2])).run Tryz.prog W = .ok false W := fun W => by rw [aggF, decide_eq_false he2]
            clear he he2
            go_wp2
            go_quiet (fail)
            go_wp2
            go_ret
            exact ⟨ret_bool HS.out.symm, below_dn hwr _⟩
        · have HS := Lib.hid (same_all ht.out (by omega) (by have := hlh.out; omega))
          go_wp2
          go_ret
          exact ⟨ret_bool HS.out.symm, hwr⟩
  · have hne : ((l.length : Int) != (m.length : Int)) = true := by rw [bne_iff_ne]; omega
    have HS := Lib.hid (same_len hlen)
    clear h1 h2 hlen
    subst hv1 hv2
    go_enter Tryz.func18, Tryz.ntmps18
    go_wp2
    go_ret
    exact ⟨ret_bool HS.out.symm, Below.refl _ _⟩
end Go.Proofs.YtffkohdnhaebjaaGreatDoor
