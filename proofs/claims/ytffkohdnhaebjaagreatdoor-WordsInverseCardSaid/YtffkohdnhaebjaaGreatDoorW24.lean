/-
  Walks: far of the statements.
-/
import Derived.Test.YtffkohdnhaebjaaGreatDoorOwnF
import Derived.Test.YtffkohdnhaebjaaGreatDoorGen
import Derived.Test.YtffkohdnhaebjaaGreatDoorW16
import Derived.Test.YtffkohdnhaebjaaGreatDoorPlain
namespace Go.Proofs.YtffkohdnhaebjaaGreatDoor
open Go.RowKit Go.Shelf

set_option maxHeartbeats 2000000 in
set_option maxRecDepth 100000 in
theorem far_any (v : Value) (l : List Wd.Fld) (w : World) (h1 : ReadsF w v l) (hl : l.length ≤ 5864062014805) :
    Calls Tryz.prog 16 #[v] w fun e w' => e = .returned (.bool (Wd.farL l)) ∧ Below w.heap.size w w' := by
  have hl' := hl
  clear hl
  by_cases hlong : 70 < l.length
  · have HS := Lib.hid (Wd.far_len hlong)
    rcases h1 with ⟨a, cap, rfl, rfl⟩ | ⟨b, o, cap, rfl, hb, hc⟩
    · simp at hlong
    clear hc
    go_enter Tryz.func16, Tryz.ntmps16
    go_wp2
    go_ret
    exact ⟨ret_bool HS.out.symm, Below.refl _ _⟩
  rcases h1 with ⟨a, cap, rfl, rfl⟩ | ⟨b, o, cap, rfl, hb, hc⟩
  · have HS := Lib.hid (show Wd.farL [] = false from rfl)
    clear hlong hl'
    go_enter Tryz.func16, Tryz.ntmps16
    go_wp2
    refine wp_loop_rounds 1 ?_
    rw [rounds_succ]
    go_wp2
    go_ret
    exact ⟨ret_bool HS.out.symm, Below.refl _ _⟩
  have hl70 : l.length ≤ 70 := by omega
  clear hl'
  have hcs := Lib.hid hc
  clear hc
  go_enter Tryz.func16, Tryz.ntmps16
  go_wp2
  go_loop [3, 4] (fun n i => ∃ k : Nat, k ≤ l.length ∧ i = .int .i64 k ∧ n = .int .i64 (Wd.sumK l k) ∧ Hid (∀ j, j < k → (hj : j < l.length) → l[j].1.length ≤ 2100)) (fun _ i => l.length - (intOf i).toNat)
  case atStart => exact ⟨0, Nat.zero_le _, rfl, by rw [Wd.sumK_zero]; rfl, fun j h => absurd h (Nat.not_lt_zero _)⟩
  case round =>
    obtain ⟨k, hk, rfl, rfl, hno⟩ := hrel
    have hsm := Wd.sumK_le k hk hno.out
    by_cases hlt : k < l.length
    · have c1 := (hcs.out k hlt).1
      rw [Nat.mul_comm] at c1
      have i1 : (k : Int) < (l.length : Int) := by omega
      by_cases hq : 2100 < l[k].1.length
      · have HS := Lib.hid (Wd.far_fld hlt hq)
        go_wp2
        go_ret
        exact ⟨ret_bool HS.out.symm, Below.refl _ _⟩
      · have HN : Hid (∀ j, j < k + 1 → (hj : j < l.length) → l[j].1.length ≤ 2100) := by
          intro j hj hjl
          by_cases e : j = k
          · subst e; omega
          · exact hno.out j (by omega) hjl
        have HK := Lib.hid (Wd.sumK_next hlt)
        go_wp2
        go_round
        case rel => exact ⟨k + 1, by omega, by go_num, by rw [HK.out]; go_num, HN⟩
        case measure => simp [intOf]; omega
    · have HS := Lib.hid (Wd.far_no hlong (by omega) (fun j hj => hno.out j (by omega) hj) : Wd.farL l = decide (12000 < Wd.sumK l k))
      by_cases hq : 12000 < Wd.sumK l k
      · have i2 : (12000 : Int) < (Wd.sumK l k : Int) := by omega
        go_wp2
        go_ret
        exact ⟨ret_bool (by rw [HS.out]; simp [hq]), Below.refl _ _⟩
      · have i2 : ¬ (12000 : Int) < (Wd.sumK l k : Int) := by omega
        go_wp2
        go_ret
        exact ⟨ret_bool (by rw [HS.out]; simp [hq]), Below.refl _ _⟩
end Go.Proofs.YtffkohdnhaebjaaGreatDoor
