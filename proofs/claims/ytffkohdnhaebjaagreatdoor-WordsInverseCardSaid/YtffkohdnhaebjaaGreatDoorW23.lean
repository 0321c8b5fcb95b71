/-
  Walks: shown of the statements.
-/
import Derived.Test.YtffkohdnhaebjaaGreatDoorW22
import Derived.Test.YtffkohdnhaebjaaGreatDoorW19
import Derived.Test.YtffkohdnhaebjaaGreatDoorW6
namespace Go.Proofs.YtffkohdnhaebjaaGreatDoor
open Go.RowKit Go.Shelf

theorem sh1 : Wd.split [103, 101, 116, 32, 47, 32, 34, 97, 32, 98, 34] = ([([103, 101, 116], false), ([47], false), ([97, 32, 98], true)], 0) := by decide +kernel
theorem sh2 : Wd.intOfStr [45, 49, 50] (-20) 20 = (-12, 0) := by decide +kernel
theorem sh3 : Wd.unquote [34, 97, 92, 110, 92, 120, 48, 48, 92, 34, 34] = some [97, 10, 0, 34] := by decide +kernel
theorem sh4 : Wd.name [119, 101, 98, 45, 49] = true := by decide +kernel
theorem sh5 : Wd.listTxt [1, 2, 3, 5, 8, 9] = ([49, 45, 51, 44, 53, 44, 56, 45, 57], 0) := by
  have e1 : Wd.runs [1, 2, 3, 5, 8, 9] = [(1, 3), (5, 5), (8, 9)] := by decide +kernel
  have i : ∀ n : Nat, n < 10 → Lib.itoa (n : Int) = [UInt8.ofNat (48 + n)] := fun n h => Wd.itoa_one n (by omega) (by omega)
  have h1 := i 1 (by omega)
  have h3 := i 3 (by omega)
  have h5 := i 5 (by omega)
  have h8 := i 8 (by omega)
  have h9 := i 9 (by omega)
  unfold Wd.listTxt
  rw [e1]
  simp only [List.map_cons, List.map_nil, Wd.runTxt]
  simp at h1 h3 h5 h8 h9
  rw [h1, h3, h5, h8, h9]
  decide +kernel

def shF : List Wd.Fld := [([103, 101, 116], false), ([47], false), ([97, 32, 98], true)]
theorem sSplit (w : World) (hE : Env w) : Calls Tryz.prog 14 #[.string ⟨#[103, 101, 116, 32, 47, 32, 34, 97, 32, 98, 34]⟩] w fun e w' => (∃ v, e = .returned (.tuple #[v, .int .i64 0]) ∧ ReadsF w' v shF) ∧ Below w.heap.size w w' := by
  refine (Split_any _ w hE (by decide)).mono ?_
  rintro e w' ⟨⟨v, h1, h2⟩, h3⟩
  have e0 : (⟨#[103, 101, 116, 32, 47, 32, 34, 97, 32, 98, 34]⟩ : ByteArray).data.toList = [103, 101, 116, 32, 47, 32, 34, 97, 32, 98, 34] := rfl
  rw [e0, sh1] at h1 h2
  exact ⟨⟨v, h1, h2⟩, h3⟩
theorem sInt (w : World) (hE : Env w) : Calls Tryz.prog 12 #[.string ⟨#[45, 49, 50]⟩, .int .i64 (-20), .int .i64 20] w fun e w' => e = .returned (.tuple #[.int .i64 (-12), .int .i64 0]) ∧ Below w.heap.size w w' := by
  refine (int_any _ _ _ w hE (by decide)).mono ?_
  rintro e w' ⟨h1, h2⟩
  refine ⟨?_, h2⟩
  rw [h1]
  unfold intEnd
  have e0 : (⟨#[45, 49, 50]⟩ : ByteArray).data.toList = [45, 49, 50] := rfl
  rw [e0, sh2]
theorem sUnq (w : World) (hE : Env w) : Calls Tryz.prog 13 #[.string ⟨#[34, 97, 92, 110, 92, 120, 48, 48, 92, 34, 34]⟩] w fun e w' => e = .returned (.tuple #[.string ⟨#[97, 10, 0, 34]⟩, .int .i64 0]) ∧ Below w.heap.size w w' := by
  refine (Unquote_any _ w hE (by decide)).mono ?_
  rintro e w' ⟨h1, h2⟩
  refine ⟨?_, h2⟩
  rw [h1]
  unfold unquoteEnd
  have e0 : (⟨#[34, 97, 92, 110, 92, 120, 48, 48, 92, 34, 34]⟩ : ByteArray).data.toList = [34, 97, 92, 110, 92, 120, 48, 48, 92, 34, 34] := rfl
  rw [e0, sh3]
theorem sName (w : World) : Calls Tryz.prog 15 #[.string ⟨#[119, 101, 98, 45, 49]⟩] w fun e w' => e = .returned (.bool true) ∧ Below w.heap.size w w' := by
  refine (name_any _ w (by decide)).mono ?_
  rintro e w' ⟨h1, h2⟩
  exact ⟨by rw [h1]; exact ret_bool sh4, h2⟩
theorem sList (w : World) (hE : Env w) : Calls Tryz.prog 7 #[.slice (some ⟨w.heap.size, 0, none⟩) 6 6] (w.alloc (.cells #[.int .i64 1, .int .i64 2, .int .i64 3, .int .i64 5, .int .i64 8, .int .i64 9] 3)) fun e w' =>
    e = .returned (.tuple #[.string ⟨#[49, 45, 51, 44, 53, 44, 56, 45, 57]⟩, .int .i64 0]) ∧ Below w.heap.size w w' := by
  have hb : Below w.heap.size w (w.alloc (.cells #[.int .i64 1, .int .i64 2, .int .i64 3, .int .i64 5, .int .i64 8, .int .i64 9] 3)) := (Below.refl _ _).alloc (Nat.le_refl _) _
  have hr : ReadsL 1 encI (w.alloc (.cells #[.int .i64 1, .int .i64 2, .int .i64 3, .int .i64 5, .int .i64 8, .int .i64 9] 3)) (.slice (some ⟨w.heap.size, 0, none⟩) 6 6) [1, 2, 3, 5, 8, 9] := by
    refine .inr ⟨w.heap.size, 0, 6, rfl, by simp, fun j hj i u hu => ?_⟩
    rw [World.cell?_alloc_at _ _ _ _ rfl]
    match i, hu with
    | 0, hu =>
      simp [encI] at hu
      subst hu
      match j, hj with
      | 0, _ => rfl
      | 1, _ => rfl
      | 2, _ => rfl
      | 3, _ => rfl
      | 4, _ => rfl
      | 5, _ => rfl
  refine (List_any _ _ _ (hE.below hb) hr (by decide)).mono ?_
  rintro e w' ⟨h1, h2⟩
  refine ⟨?_, hb.trans (h2.mono (by simp))⟩
  rw [h1]
  unfold listEnd
  rw [sh5]
theorem litF (W : World) : ReadsF (W.alloc (.cells #[.string ⟨#[103, 101, 116]⟩, .bool false, .string ⟨#[47]⟩, .bool false, .string ⟨#[97, 32, 98]⟩, .bool true] 47)) (.slice (some ⟨W.heap.size, 0, none⟩) 3 3) shF := by
  refine .inr ⟨W.heap.size, 0, 3, rfl, by simp, fun j hj => ?_⟩
  rw [World.cell?_alloc_at _ _ _ _ rfl, World.cell?_alloc_at _ _ _ _ rfl]
  match j, hj with
  | 0, _ => exact ⟨rfl, rfl⟩
  | 1, _ => exact ⟨rfl, rfl⟩
  | 2, _ => exact ⟨rfl, rfl⟩

set_option maxHeartbeats 2000000 in
set_option maxRecDepth 100000 in
theorem shown_any (w : World) (hE : Env w) : Calls Tryz.prog 6 #[] w fun e w' => e = .returned (.bool true) ∧ Below w.heap.size w w' := by
  go_enter Tryz.func6, Tryz.ntmps6
  go_wp2_with fail
  refine (sSplit w hE).mono ?_
  rintro e w1 ⟨⟨v, rfl, hr1⟩, hb1⟩
  have hv : ∃ a c, v = .slice a 3 c := by
    rcases hr1 with ⟨a, cap, rfl, h⟩ | ⟨b, o, cap, rfl, _⟩
    · cases h
    · exact ⟨_, _, rfl⟩
  go_wp2_with fail
  refine (sInt w1 (hE.below hb1)).mono ?_
  rintro e w2 ⟨rfl, hx⟩
  have hb2 := hb1.trans (hx.mono hb1.size)
  have hr2 := hr1.below hx
  clear hx hr1
  go_wp2_with fail
  refine (sList w2 (hE.below hb2)).mono ?_
  rintro e w3 ⟨rfl, hx⟩
  have hb3 := hb2.trans (hx.mono hb2.size)
  have hr3 := hr2.below hx
  clear hx hr2
  go_wp2_with fail
  refine (sUnq w3 (hE.below hb3)).mono ?_
  rintro e w4 ⟨rfl, hx⟩
  have hb4 := hb3.trans (hx.mono hb3.size)
  have hr4 := hr3.below hx
  clear hx hr3
  go_wp2_with fail
  have hb5 := hb4.alloc hb4.size (.cells #[.string ⟨#[103, 101, 116]⟩, .bool false, .string ⟨#[47]⟩, .bool false, .string ⟨#[97, 32, 98]⟩, .bool true] 47)
  have hr5 := hr4.below ((Below.refl _ _).alloc (Nat.le_refl _) (.cells #[.string ⟨#[103, 101, 116]⟩, .bool false, .string ⟨#[47]⟩, .bool false, .string ⟨#[97, 32, 98]⟩, .bool true] 47))
  refine (rSame_any _ _ shF shF _ hr5 (litF w4) (by decide) (by decide)).mono ?_
  rintro e w6 ⟨rfl, hx⟩
  have hb6 := hb5.trans (hx.mono hb5.size)
  have ht : (shF == shF) = true := by decide
  rw [ht]
  clear hx hr5 hr4 ht
  go_wp2_with fail
  refine (sName w6).mono ?_
  rintro e w7 ⟨rfl, hx⟩
  have hb7 := hb6.trans (hx.mono hb6.size)
  go_wp2
  go_ret
  exact ⟨rfl, hb7⟩
end Go.Proofs.YtffkohdnhaebjaaGreatDoor
