/-
  Walks: the reference's parts.
-/
import Derived.Test.YtffkohdnhaebjaaGreatDoorPcs
import Derived.Test.YtffkohdnhaebjaaGreatDoorPlain
namespace Go.Proofs.YtffkohdnhaebjaaGreatDoor
open Go.RowKit Go.Shelf

def PartsPost (c : UInt8) (l : List UInt8) (w : World) (e : Ending) (w' : World) : Prop := (∃ v, e = .returned v ∧ ReadsL 1 encS w' v (Wd.cutAt c l)) ∧ Below w.heap.size w w'

set_option maxHeartbeats 2000000 in
set_option maxRecDepth 100000 in
theorem parts_any (s : ByteArray) (c : UInt8) (w : World) (hs0 : s.size ≤ 4294967296) : Calls Tryz.prog 33 #[.string s, .int .u8 c.toNat] w (PartsPost c s.data.toList w) := by
  have hsl := size_list s
  have HSL := Lib.hid hsl
  clear hsl
  have b0 : (c.toNat : Int) < 256 := by have := c.toNat_lt; omega
  go_enter Tryz.func33, Tryz.ntmps33
  go_wp2
  go_loopw [5, 6, 7] (fun v f i wr => ∃ (k n : Nat), k ≤ s.size ∧ i = .int .i64 k ∧ f = .int .i64 n ∧ n ≤ k ∧ Hid (FromC c s k n) ∧ OwnL 9 1 encS wr w.heap.size v (Wd.pcs c (s.data.toList.take k)).1 ∧ Below w.heap.size w wr) (fun _ _ i _ => s.size - (intOf i).toNat)
  case atStart => exact ⟨0, 0, Nat.zero_le _, rfl, rfl, Nat.le_refl _, ⟨Nat.le_refl _, by simp [Wd.pcs]⟩, OwnL.nil _ _, Below.refl _ _⟩
  case round =>
    obtain ⟨k, n, hk, rfl, rfl, hnk, hfr, hown, hbr⟩ := hrel
    have hbs := hbr.size
    have hpl := pcC_le c s k
    by_cases hlt : k < s.size
    · by_cases hc : (s[k] == c) = true
      · have hc' : ((s[k].toNat : Int) == (c.toNat : Int)) = true := by rw [beq_iff_eq] at hc; rw [hc]; simp
        have HS1 := Lib.hid (pcC_cut hlt hc)
        have HF1 := Lib.hid (fromC_cut hlt hc)
        have HE := Lib.hid (fromC_ext hfr.out)
        clear hc
        go_wp2_with (at_builtin; refine appL elS _ rfl _ _ rfl w.heap.size _ _ ((Wd.pcs c (s.data.toList.take k)).2) rfl (hown.alloc _) _ 1 rfl (newS _ _ _ _ (by rw [HE.out])) (by unfold maxLen; omega) (by omega) (by simp; omega) ?_; rintro v2 w2 hown2 hgr ⟨g2, c2, rfl⟩; have hbr2 := below_appL (hbr.alloc hbs _) (hown.alloc _) hgr (by simp; omega))
        go_roundw
        case rel => exact ⟨k + 1, k + 1, by omega, by go_num, by go_num, Nat.le_refl _, HF1, by rw [HS1.out]; exact hown2, hbr2⟩
        case measure => simp [intOf]; omega
      · have hc' : ((s[k].toNat : Int) == (c.toNat : Int)) = false := by rw [beq_eq_false_iff_ne]; intro e; apply hc; rw [beq_iff_eq, ← UInt8.toNat_inj]; omega
        have HS1 := Lib.hid (pcC_step hlt (Bool.not_eq_true _ ▸ hc))
        have HF1 := Lib.hid (fromC_step hlt hfr.out (Bool.not_eq_true _ ▸ hc))
        clear hc
        go_wp2
        go_roundw
        case rel => exact ⟨k + 1, n, by omega, by go_num, rfl, by omega, HF1, by rw [HS1.out]; exact hown, hbr⟩
        case measure => simp [intOf]; omega
    · have hke : k = s.size := by omega
      subst hke
      have eT : s.data.toList.take s.size = s.data.toList := List.take_of_length_le (by have := HSL.out; omega)
      have HE := Lib.hid (fromC_ext hfr.out)
      rw [eT] at hown HE hpl
      have HC := Lib.hid (Wd.cutAt_pcs c s.data.toList)
      clear eT hfr
      go_wp2_with (at_builtin; refine appL elS _ rfl _ _ rfl w.heap.size _ _ ((Wd.pcs c s.data.toList).2) rfl (hown.alloc _) _ 1 rfl (newS _ _ _ _ (by rw [HE.out])) (by unfold maxLen; omega) (by omega) (by simp; omega) ?_; rintro v2 w2 hown2 hgr ⟨g2, c2, rfl⟩; have hbr2 := below_appL (hbr.alloc hbs _) (hown.alloc _) hgr (by simp; omega))
      go_ret
      exact ⟨⟨_, rfl, by rw [HC.out]; exact hown2.reads elS.len⟩, hbr2⟩
theorem parts_l (x : List UInt8) (c : UInt8) (w : World) (hs0 : x.length ≤ 4294967296) : Calls Tryz.prog 33 #[S8 x, .int .u8 c.toNat] w (PartsPost c x w) := by
  have h := parts_any ⟨x.toArray⟩ c w (by rw [size_mk]; exact hs0)
  simpa using h
end Go.Proofs.YtffkohdnhaebjaaGreatDoor
