/-
  What the law FaultsNone of layer 3 needs: Has at errors that are no faults; methods of nil pointers.
-/
import Derived.Test.YtgnhbccmdpkbiaaDoorFaN1
import Derived.Test.YtgnhbccmdpkbiaaDoorFaI1
namespace Go.Proofs.YtgnhbccmdpkbiaaDoor
open Go.RowKit Go.Extern.Stop Go.Stop Go.Extern

theorem linkIs_no (k : Int) (w : World) : Calls Tryd.prog 16 #[.pointer none, sent k] w fun e w' => e = .returned (.bool false) ∧ w' = w := by
  have t1 := taLS
  unfold sent
  go_enter Tryd.func16, Tryd.ntmps16
  go_wp2
  go_ret
  exact ⟨rfl, rfl⟩
theorem linkIs_zero (b : Nat) (k : Int) (w : World) (h : w.heap[b]? = some (.cells zLcells 35 (0, 0))) : Calls Tryd.prog 16 #[.pointer (some ⟨b, 0, none⟩), sent k] w fun e w' => e = .returned (.bool false) ∧ w' = w := by
  have k0 := blk_cell h 0
  simp only [zLcells, List.getElem?_toArray, List.getElem?_cons_zero] at k0
  have t1 := taLS
  clear h
  unfold sent
  go_enter Tryd.func16, Tryd.ntmps16
  go_wp2
  go_ret
  exact ⟨rfl, rfl⟩
theorem linkUn_no (w : World) : Calls Tryd.prog 14 #[.pointer none] w fun e w' => e = .returned .nilIface ∧ w' = w := by
  go_enter Tryd.func14, Tryd.ntmps14
  go_wp2
  go_ret
  exact ⟨rfl, rfl⟩
theorem linkUn_zero (b : Nat) (w : World) (h : w.heap[b]? = some (.cells zLcells 35 (0, 0))) : Calls Tryd.prog 14 #[.pointer (some ⟨b, 0, none⟩)] w fun e w' => e = .returned .nilIface ∧ w' = w := by
  have k5 := blk_cell h 5
  simp only [zLcells, List.getElem?_toArray, List.getElem?_cons_succ, List.getElem?_cons_zero] at k5
  clear h
  go_enter Tryd.func14, Tryd.ntmps14
  go_wp2
  go_ret
  exact ⟨rfl, rfl⟩
theorem joinUn_no (w : World) : Calls Tryd.prog 18 #[.pointer none] w fun e w' => e = .returned (.slice none 0 0) ∧ w' = w := by
  go_enter Tryd.func18, Tryd.ntmps18
  go_wp2
  go_ret
  exact ⟨rfl, rfl⟩
theorem joinUn_zero (b : Nat) (w : World) (h : w.heap[b]? = some (.cells zJcells 39 (0, 0))) : Calls Tryd.prog 18 #[.pointer (some ⟨b, 0, none⟩)] w fun e w' => e = .returned (.slice none 0 0) ∧ w' = w := by
  have k0 := blk_cell h 0
  simp only [zJcells, List.getElem?_toArray, List.getElem?_cons_zero] at k0
  clear h
  go_enter Tryd.func18, Tryd.ntmps18
  go_wp2
  go_ret
  exact ⟨rfl, rfl⟩
theorem results_cell_oneN {P : Program} {fn : Func} {p : Tmp} {ty : TypeId} (h : fn.results = #[.cell p ty]) (tmps : Array Value) (w : World) :
    (results fn tmps).run P w = ((asAddr (tmps.getD p undef)).run P w).andThen fun a w₁ => (loadVar ty a).run P w₁ := by
  simp only [results, h]
  simp [Sem.run_bind, Result.andThen]
theorem linkFault_no (w : World) : Calls Tryd.prog 15 #[.pointer none] w fun e w' => e = .returned (.agg #[I64 0, .string ⟨#[]⟩, I64 0, I64 0]) ∧ Below w.heap.size w w' := by
  go_enter Tryd.func15, Tryd.ntmps15
  go_wp2
  refine bodyPost_ret (v := .agg #[I64 0, .string ⟨#[]⟩, I64 0, I64 0]) (by rw [results_cell_oneN rfl]; go_simp) rfl ?_
  exact ⟨rfl, by first | exact Below.refl _ _ | exact (Below.refl _ _).alloc (Nat.le_refl _) _⟩
theorem linkErr_no (w : World) : Calls Tryd.prog 13 #[.pointer none] w fun e w' => e = .returned (.string ⟨#[]⟩) ∧ Below w.heap.size w w' := by
  have HT := Lib.hid (text_not noL w (.inr (.inl (.inr (.inl rfl)))))
  unfold noL at HT
  go_enter Tryd.func13, Tryd.ntmps13
  go_wp2_with fail
  refine HT.out.mono ?_
  rintro e w1 ⟨rfl, hb⟩
  go_wp2
  go_ret
  exact ⟨rfl, hb⟩
theorem joinErr_no (w : World) : Calls Tryd.prog 17 #[.pointer none] w fun e w' => e = .returned (.string ⟨#[]⟩) ∧ Below w.heap.size w w' := by
  have HT := Lib.hid (text_not noJ w (.inr (.inr (.inr rfl))))
  unfold noJ at HT
  go_enter Tryd.func17, Tryd.ntmps17
  go_wp2_with fail
  refine HT.out.mono ?_
  rintro e w1 ⟨rfl, hb⟩
  go_wp2
  go_ret
  exact ⟨rfl, hb⟩
theorem join_none (w : World) : Calls Tryd.prog 11 #[.slice none 0 0] w fun e w' => e = .returned (.tuple #[.nilIface, I64 4]) ∧ w' = w := by
  go_enter Tryd.func11, Tryd.ntmps11
  go_wp2
  go_ret2
  exact ⟨rfl, rfl⟩
set_option maxHeartbeats 4000000 in
set_option maxRecDepth 100000 in
theorem is_not (v : Value) (k : Int) (w : World) (h : BadV w v) : Calls Tryd.prog 42 #[v, sent k, .bool true] w fun e w' => e = .returned (.bool false) ∧ Below w.heap.size w w' := by
  have hty3 := fun (x y : Value) (w : World) => run_eql_iface_types (P := Tryd.prog) 33 62 x y Tryd.underlying28 (by decide) w
  have hty1 := fun (x y : Value) (w : World) => run_eql_iface_types (P := Tryd.prog) 26 62 x y Tryd.underlying28 (by decide) w
  have hty2 := fun (x y : Value) (w : World) => run_eql_iface_types (P := Tryd.prog) 36 62 x y Tryd.underlying28 (by decide) w
  have nIsF := noIsF
  have hUF := hasUnwrapF
  have m4 := mUnF
  have hIs := hasIsL
  have nIs := noIsJ
  have hU := hasUnwrapL
  have nU := noUnwrapJ
  have hUs := hasUnwrapsJ
  have m1 := mIsL
  have m2 := mUnL
  have m3 := mUnJ
  have HFU := Lib.hid foreign_unwrap
  have HS1 := Lib.hid fun w => linkIs_no k w
  have HU1 := Lib.hid linkUn_no
  rcases h with rfl | rfl | ⟨b, rfl, hb⟩ | ⟨b, rfl, hb⟩
  · unfold sent frn0 at *
    go_enter Tryd.func42, Tryd.ntmps42
    go_wp2
    go_loopw [0] (fun cur wr => cur = .iface 33 (.agg #[.nilIface]) ∧ wr = w) (fun _ _ => 0)
    case atStart => exact ⟨rfl, rfl⟩
    case round =>
      obtain ⟨rfl, rfl⟩ := hrel
      go_wp2_with (go_at_call 100; refine (HFU.out _ _).mono ?_; rintro e w1 ⟨rfl, hbx⟩)
      go_ret
      exact ⟨rfl, hbx⟩
  · unfold sent noL at *
    go_enter Tryd.func42, Tryd.ntmps42
    go_wp2
    go_loopw [0] (fun cur wr => cur = .iface 26 (.pointer none) ∧ wr = w) (fun _ _ => 0)
    case atStart => exact ⟨rfl, rfl⟩
    case round =>
      obtain ⟨rfl, rfl⟩ := hrel
      go_wp2_with (first | (go_at_call 16; refine (HS1.out _).mono ?_; rintro e w1 ⟨rfl, rfl⟩) | (go_at_call 14; refine (HU1.out _).mono ?_; rintro e w1 ⟨rfl, rfl⟩))
      go_ret
      exact ⟨rfl, Below.refl _ _⟩
  · have HSZ := Lib.hid (linkIs_zero b k w hb)
    have HUZ := Lib.hid (linkUn_zero b w hb)
    clear hb
    unfold sent zL at *
    go_enter Tryd.func42, Tryd.ntmps42
    go_wp2
    go_loopw [0] (fun cur wr => cur = .iface 26 (.pointer (some ⟨b, 0, none⟩)) ∧ wr = w) (fun _ _ => 0)
    case atStart => exact ⟨rfl, rfl⟩
    case round =>
      obtain ⟨rfl, rfl⟩ := hrel
      go_wp2_with (first | (go_at_call 16; refine HSZ.out.mono ?_; rintro e w1 ⟨rfl, rfl⟩) | (go_at_call 14; refine HUZ.out.mono ?_; rintro e w1 ⟨rfl, rfl⟩))
      go_ret
      exact ⟨rfl, Below.refl _ _⟩
  · have HUZ := Lib.hid (joinUn_zero b w hb)
    clear hb
    unfold sent zJ at *
    go_enter Tryd.func42, Tryd.ntmps42
    go_wp2
    go_loopw [0] (fun cur wr => cur = .iface 36 (.pointer (some ⟨b, 0, none⟩)) ∧ wr = w) (fun _ _ => 0)
    case atStart => exact ⟨rfl, rfl⟩
    case round =>
      obtain ⟨rfl, rfl⟩ := hrel
      go_wp2_with (go_at_call 18; refine HUZ.out.mono ?_; rintro e w1 ⟨rfl, rfl⟩)
      go_loopw [45] (fun i wr2 => i = .int .i64 0 ∧ wr2 = w1) (fun _ _ => 0)
      case atStart => exact ⟨rfl, rfl⟩
      case round =>
        obtain ⟨rfl, rfl⟩ := hrel
        go_wp2
        go_ret
        exact ⟨rfl, Below.refl _ _⟩
set_option maxRecDepth 100000 in
theorem errorsIs_not (v : Value) (k : Int) (w : World) (h : BadV w v) : Calls Tryd.prog 30 #[v, sent k] w fun e w' => e = .returned (.bool false) ∧ Below w.heap.size w w' := by
  have HI := Lib.hid (is_not v k w h)
  have h8 := @run_callFunc_extern Tryd.prog 41 _ Extern.ReflectliteType.typeOf Tryd.func41 (by kernel_rfl) (by kernel_rfl) (by kernel_rfl) (by kernel_rfl)
  have h32 := @run_callFunc_extern Tryd.prog 108 _ compE Tryd.func108 (by kernel_rfl) (by kernel_rfl) (by kernel_rfl) (by kernel_rfl)
  have tT := typeOfS
  have cT := comparableS
  have mR := mCompR
  have hv : ∃ ty p, v = .iface ty p := by
    rcases h with rfl | rfl | ⟨b, rfl, _⟩ | ⟨b, rfl, _⟩
    · exact ⟨_, _, rfl⟩
    · exact ⟨_, _, rfl⟩
    · exact ⟨_, _, rfl⟩
    · exact ⟨_, _, rfl⟩
  obtain ⟨ty, p, rfl⟩ := hv
  unfold sent at *
  clear h
  go_enter Tryd.func30, Tryd.ntmps30
  go_wp2_with (go_at_call 42; refine HI.out.mono ?_; rintro e w1 ⟨rfl, hb1⟩)
  go_ret
  exact ⟨rfl, hb1⟩
set_option maxRecDepth 100000 in
theorem has_not (v : Value) (k : Int) (w : World) (h : v = .nilIface ∨ BadV w v) : Calls Tryd.prog 12 #[v, I64 k] w fun e w' => e = .returned (.bool false) ∧ Below w.heap.size w w' := by
  by_cases hk : k < 1 ∨ 17 ≤ k
  · have HS := Lib.hid (sentinel_out k w hk)
    clear hk h
    go_enter Tryd.func12, Tryd.ntmps12
    go_wp2_with (go_at_call 5; refine HS.out.mono ?_; rintro e w1 ⟨rfl, rfl⟩)
    go_ret
    exact ⟨rfl, Below.refl _ _⟩
  · have HS := Lib.hid (sentinel_in k w (by omega) (by omega))
    rcases h with rfl | h
    · clear hk
      unfold sent at HS
      go_enter Tryd.func12, Tryd.ntmps12
      go_wp2_with (go_at_call 5; refine HS.out.mono ?_; rintro e w1 ⟨rfl, rfl⟩)
      go_ret
      exact ⟨rfl, Below.refl _ _⟩
    · have HI := Lib.hid (errorsIs_not v k w h)
      have hv : ∃ ty p, v = .iface ty p := by
        rcases h with rfl | rfl | ⟨b, rfl, _⟩ | ⟨b, rfl, _⟩
        · exact ⟨_, _, rfl⟩
        · exact ⟨_, _, rfl⟩
        · exact ⟨_, _, rfl⟩
        · exact ⟨_, _, rfl⟩
      obtain ⟨ty, p, rfl⟩ := hv
      clear hk h
      go_enter Tryd.func12, Tryd.ntmps12
      go_wp2_with (first | (go_at_call 5; refine HS.out.mono ?_; rintro e w1 ⟨rfl, rfl⟩) | (go_at_call 30; refine HI.out.mono ?_; rintro e w2 ⟨rfl, hb2⟩))
      go_ret
      exact ⟨rfl, hb2⟩
end Go.Proofs.YtgnhbccmdpkbiaaDoor
