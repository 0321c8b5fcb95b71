/-
  Walks: the reference's less.
-/
import Derived.Test.YtffkohdnhaebjaaGreatDoorW17
import Derived.Test.YtffkohdnhaebjaaGreatDoorPlain
namespace Go.Proofs.YtffkohdnhaebjaaGreatDoor
open Go.RowKit Go.Shelf

theorem bytesLess_lt : ∀ (x y : List UInt8), Op.bytesLess x y = decide (x < y)
  | [], [] => rfl
  | [], _ :: _ => by simp [Op.bytesLess]
  | _ :: _, [] => by simp [Op.bytesLess]
  | a :: x, b :: y => by
    unfold Op.bytesLess
    rw [bytesLess_lt x y, Bool.eq_iff_iff]
    simp [List.cons_lt_cons_iff]

set_option maxHeartbeats 2000000 in
set_option maxRecDepth 100000 in
theorem rless_any (a b : List UInt8) (w : World) :
    Calls Tryz.prog 35 #[S8 a, S8 b] w fun e w' => e = .returned (.bool (Wd.lessS a b)) ∧ w' = w := by
  by_cases h : a.length = b.length
  · have hne : ((a.length : Int) != (b.length : Int)) = false := by rw [bne_eq_false_iff_eq]; omega
    have HS := Lib.hid (show Wd.lessS a b = decide (a < b) from by unfold Wd.lessS; rw [if_neg (by omega)])
    clear h
    go_enter Tryz.func35, Tryz.ntmps35
    go_wp2
    go_ret
    exact ⟨ret_bool (by rw [HS.out, bytesLess_lt]), rfl⟩
  · have hne : ((a.length : Int) != (b.length : Int)) = true := by rw [bne_iff_ne]; omega
    have HS := Lib.hid (show Wd.lessS a b = decide (a.length < b.length) from by unfold Wd.lessS; rw [if_pos h])
    clear h
    go_enter Tryz.func35, Tryz.ntmps35
    go_wp2
    go_ret
    exact ⟨ret_bool (by rw [HS.out]; first | done | simp), rfl⟩
end Go.Proofs.YtffkohdnhaebjaaGreatDoor
