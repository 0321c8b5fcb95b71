/-
  Walks for layer 3 (faults): errors.As at a **Joined.
-/
import Derived.Test.YtgnhbccmdpkbiaaGreatDoorFaw14
namespace Go.Proofs.YtgnhbccmdpkbiaaGreatDoor
open Go.RowKit Go.Extern.Stop Go.Stop Go.Extern

set_option maxHeartbeats 4000000 in
set_option maxRecDepth 100000 in
theorem as_hitJ (b tb tv : Nat) (old : Value) (w : World) (ht : w.heap[tb]? = some (.cells #[old] 89 (0, 0))) (hv : w.cell? ⟨tv, 0, none⟩ = some (.pointer (some ⟨tb, 0, none⟩))) :
    Calls Tryz.prog 50 #[joinPtr b, .iface 122 (.pointer (some ⟨tb, 0, none⟩)), .agg #[.pointer (some ⟨15, 122, none⟩), .pointer (some ⟨tv, 0, none⟩), .int .u64 150], .iface 127 (.agg #[.pointer (some ⟨15, 89, none⟩)])] w
      fun e w' => e = .returned (.bool true) ∧ w' = ((w.alloc (.cells #[.pointer (some ⟨15, 122, none⟩), .pointer (some ⟨tv, 0, none⟩), .int .u64 150] 95)).alloc (.cells #[.pointer (some ⟨b, 0, none⟩)] 89)).setCell ⟨tb, 0, none⟩ (.pointer (some ⟨b, 0, none⟩)) := by
  have h6 := @run_callFunc_extern Tryz.prog 47 _ (fun args => ReflectliteValue.unpack (args.getD 0 (.tuple #[]))) Tryz.func47 (by kernel_rfl) (by kernel_rfl) (by kernel_rfl) (by kernel_rfl)
  have h10 := @run_callFunc_extern Tryz.prog 51 _ ReflectliteType.typeOf Tryz.func51 (by kernel_rfl) (by kernel_rfl) (by kernel_rfl) (by kernel_rfl)
  have h35 := @run_callFunc_extern Tryz.prog 170 _ (ReflectliteType.relation "AssignableTo" ReflectliteType.assignableTo) Tryz.func170 (by kernel_rfl) (by kernel_rfl) (by kernel_rfl) (by kernel_rfl)
  have h11 := @run_callFunc_extern Tryz.prog 64 _ (ReflectliteValue.method (ReflectliteValue.valueError "reflectlite.Value.Elem" 0) ReflectliteValue.elem) Tryz.func64 (by kernel_rfl) (by kernel_rfl) (by kernel_rfl) (by kernel_rfl)
  have h12 := @run_callFunc_extern Tryz.prog 65 _ ReflectliteValue.set Tryz.func65 (by kernel_rfl) (by kernel_rfl) (by kernel_rfl) (by kernel_rfl)
  have tO := jn_typeOfP
  have mA := mAssA
  have a25 := jn_assignableP
  have v25 := jn_valueOfP
  have htl := lt_of_block ht
  have hvl := cell_lt hv
  have el := jn_elemVT ⟨tv, 0, none⟩ ⟨tb, 0, none⟩ (w.alloc (.cells #[.pointer (some ⟨15, 122, none⟩), .pointer (some ⟨tv, 0, none⟩), .int .u64 150] 95)) (by rw [World.cell?_alloc_lt _ _ ⟨tv, 0, none⟩ hvl]; exact hv)
  have st := jn_setP ⟨tb, 0, none⟩ ⟨w.heap.size + 1, 0, none⟩ ⟨b, 0, none⟩ old ((w.alloc (.cells #[.pointer (some ⟨15, 122, none⟩), .pointer (some ⟨tv, 0, none⟩), .int .u64 150] 95)).alloc (.cells #[.pointer (some ⟨b, 0, none⟩)] 89))
    (by rw [World.cell?_alloc_at _ _ _ _ (by simp)]; rfl)
    (by rw [World.cell?_alloc_lt _ _ ⟨tb, 0, none⟩ (by simp; omega), World.cell?_alloc_lt _ _ ⟨tb, 0, none⟩ htl]; exact blk_cell ht 0)
    (by rw [World.frozen?_alloc_old _ _ ⟨tb, 0, none⟩ (by simp; omega), World.frozen?_alloc_old _ _ ⟨tb, 0, none⟩ (Nat.ne_of_lt htl)]; exact blk_free ht 0)
  unfold joinPtr
  clear ht hv htl hvl
  go_enter Tryz.func50, Tryz.ntmps50
  go_wp2
  refine wp_loop_rounds 1 ?_
  rw [rounds_succ]
  go_wp2
  go_ret
  exact ⟨rfl, rfl⟩
set_option maxHeartbeats 4000000 in
set_option maxRecDepth 100000 in
/-- errors.As of a fault at a **Link. -/
theorem asJ_any (b : Nat) (w : World) (tb : Nat) (old : Value) (ht : w.heap[tb]? = some (.cells #[old] 89 (0, 0))) (hE : ErrT w) :
    Calls Tryz.prog 25 #[joinPtr b, .iface 122 (.pointer (some ⟨tb, 0, none⟩))] w fun e w' => e = .returned (.bool true) ∧ w.grownBy w' (some tb) ∧ w'.heap[tb]? = some (.cells #[.pointer (some ⟨b, 0, none⟩)] 89 (0, 0)) := by
  have htl := lt_of_block ht
  have hb0 : Below w.heap.size w ((w.alloc (.cells #[.pointer (some ⟨tb, 0, none⟩)] 122)).alloc (.cells #[.pointer (some ⟨15, 122, none⟩), .pointer (some ⟨w.heap.size, 0, none⟩), .int .u64 150] 95)) := ((Below.refl _ _).alloc (Nat.le_refl _) _).alloc (by simp) _
  have HB0 := Lib.hid hb0
  have HT := Lib.hid ht
  have HAS := Lib.hid (as_hitJ b tb w.heap.size old _ ((hb0.block tb htl).trans ht) (by rw [World.cell?_alloc_lt _ _ ⟨w.heap.size, 0, none⟩ (by simp), World.cell?_alloc_at _ _ _ _ rfl]; rfl))
  have h6 := @run_callFunc_extern Tryz.prog 47 _ (fun args => ReflectliteValue.unpack (args.getD 0 (.tuple #[]))) Tryz.func47 (by kernel_rfl) (by kernel_rfl) (by kernel_rfl) (by kernel_rfl)
  have h7 := @run_callFunc_extern Tryz.prog 48 _ (ReflectliteValue.methodAny (ReflectliteValue.valueError "reflectlite.Value.Type" 0) (fun t _ _ _ => ReflectliteType.toType t)) Tryz.func48 (by kernel_rfl) (by kernel_rfl) (by kernel_rfl) (by kernel_rfl)
  have h8 := @run_callFunc_extern Tryz.prog 49 _ (ReflectliteValue.method (ReflectliteValue.valueError "reflectlite.Value.IsNil" 0) ReflectliteValue.isNil) Tryz.func49 (by kernel_rfl) (by kernel_rfl) (by kernel_rfl) (by kernel_rfl)
  have h27 := @run_callFunc_extern Tryz.prog 155 _ kindE Tryz.func155 (by kernel_rfl) (by kernel_rfl) (by kernel_rfl) (by kernel_rfl)
  have h37 := @run_callFunc_extern Tryz.prog 172 _ (ReflectliteType.method ReflectliteType.elem) Tryz.func172 (by kernel_rfl) (by kernel_rfl) (by kernel_rfl) (by kernel_rfl)
  have h38 := @run_callFunc_extern Tryz.prog 173 _ (ReflectliteType.relation "Implements" ReflectliteType.implements_) Tryz.func173 (by kernel_rfl) (by kernel_rfl) (by kernel_rfl) (by kernel_rfl)
  have f6 := jn_valueOfT
  have f7 := jn_typeT
  have mK := mKindA
  have mE := mElemA
  have mI := mImplA
  have k27 := jn_kindT
  have k25 := jn_kindP
  have e27 := jn_elemT
  have i25 := jn_implementsP
  have n8 := jn_isNilT ⟨w.heap.size, 0, none⟩ ⟨tb, 0, none⟩ ((w.alloc (.cells #[.pointer (some ⟨tb, 0, none⟩)] 122)).alloc (.cells #[.pointer (some ⟨15, 122, none⟩), .pointer (some ⟨w.heap.size, 0, none⟩), .int .u64 150] 95)) (by rw [World.cell?_alloc_lt _ _ ⟨w.heap.size, 0, none⟩ (by simp), World.cell?_alloc_at _ _ _ _ rfl]; rfl)
  have hg2 : ((w.alloc (.cells #[.pointer (some ⟨tb, 0, none⟩)] 122)).alloc (.cells #[.pointer (some ⟨15, 122, none⟩), .pointer (some ⟨w.heap.size, 0, none⟩), .int .u64 150] 95)).cell? ⟨0, 0, none⟩ = some (.iface 127 (.agg #[.pointer (some ⟨15, 26, none⟩)])) := hE.below hb0
  unfold joinPtr at HAS ⊢
  have HTL := Lib.hid htl
  clear ht hE hb0 htl
  go_enter Tryz.func25, Tryz.ntmps25
  go_wp2_with (go_at_call 50; refine HAS.out.mono ?_; rintro e w3 ⟨rfl, _⟩)
  go_ret
  have hb1 := ((HB0.out.alloc HB0.out.size (.cells #[.pointer (some ⟨15, 122, none⟩), .pointer (some ⟨w.heap.size, 0, none⟩), .int .u64 150] 95)).alloc (by simp; omega) (.cells #[.pointer (some ⟨b, 0, none⟩)] 89))
  exact ⟨rfl, gb_trans (gb_below hb1) (gb_set _ _ _ _), blk_set ((hb1.block tb HTL.out).trans HT.out) 0 _⟩
end Go.Proofs.YtgnhbccmdpkbiaaGreatDoor
