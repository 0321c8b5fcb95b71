/-
  Layer 3 (faults): errors.As of a fault that errors of another package wrap, at a **Link.
-/
import Derived.Test.YtgnhbccmdpkbiaaGreatDoorFaI1
import Derived.Test.YtgnhbccmdpkbiaaGreatDoorFaw14
namespace Go.Proofs.YtgnhbccmdpkbiaaGreatDoor
open Go.RowKit Go.Extern.Stop Go.Stop Go.Extern

theorem fr_typeOf (v : Value) (w : World) : (ReflectliteType.typeOf #[.iface 54 v]).run Tryz.prog w = .ok (.iface 127 (.agg #[.pointer (some ⟨15, 54, none⟩)])) w := by kernel_rfl
theorem fr_ass (w : World) : (ReflectliteType.relation "AssignableTo" ReflectliteType.assignableTo #[.agg #[.pointer (some ⟨15, 54, none⟩)], .iface 127 (.agg #[.pointer (some ⟨15, 55, none⟩)])]).run Tryz.prog w = .ok (.bool false) w := by kernel_rfl
theorem fr_noAs (v : Value) (xT : TypeId) (w : World) : (Instr.typeAssert (.iface 54 v) xT 131 true).run Tryz.prog w = .ok (.tuple #[.nilIface, .bool false]) w := run_typeAssert_lacksB Tryz.underlying131 (by kernel_rfl) (by kernel_rfl) v xT w
set_option maxHeartbeats 4000000 in
set_option maxRecDepth 100000 in
set_option linter.unusedSimpArgs false in
theorem as_hit_o (b tb tv : Nat) (old : Value) (w : World) (ht : w.heap[tb]? = some (.cells #[old] 55 (0, 0))) (hv : w.cell? ⟨tv, 0, none⟩ = some (.pointer (some ⟨tb, 0, none⟩))) :
    Calls Tryz.prog 50 #[frn (frn (linkPtr b)), .iface 57 (.pointer (some ⟨tb, 0, none⟩)), .agg #[.pointer (some ⟨15, 57, none⟩), .pointer (some ⟨tv, 0, none⟩), .int .u64 150], .iface 127 (.agg #[.pointer (some ⟨15, 55, none⟩)])] w
      fun e w' => e = .returned (.bool true) ∧ ∃ w2, Below w.heap.size w w2 ∧ w' = (w2.alloc (.cells #[.pointer (some ⟨b, 0, none⟩)] 55)).setCell ⟨tb, 0, none⟩ (.pointer (some ⟨b, 0, none⟩)) := by
  have h10 := @run_callFunc_extern Tryz.prog 51 _ ReflectliteType.typeOf Tryz.func51 (by kernel_rfl) (by kernel_rfl) (by kernel_rfl) (by kernel_rfl)
  have h35 := @run_callFunc_extern Tryz.prog 170 _ (ReflectliteType.relation "AssignableTo" ReflectliteType.assignableTo) Tryz.func170 (by kernel_rfl) (by kernel_rfl) (by kernel_rfl) (by kernel_rfl)
  have mA := mAssA
  have tF := fr_typeOf
  have aF := fr_ass
  have nAsF := fr_noAs
  have hUF := hasUnwrapF
  have m4 := mUnF
  have HFU := Lib.hid foreign_unwrap
  have h6 := @run_callFunc_extern Tryz.prog 47 _ (fun args => ReflectliteValue.unpack (args.getD 0 (.tuple #[]))) Tryz.func47 (by kernel_rfl) (by kernel_rfl) (by kernel_rfl) (by kernel_rfl)
  have h11 := @run_callFunc_extern Tryz.prog 64 _ (ReflectliteValue.method (ReflectliteValue.valueError "reflectlite.Value.Elem" 0) ReflectliteValue.elem) Tryz.func64 (by kernel_rfl) (by kernel_rfl) (by kernel_rfl) (by kernel_rfl)
  have h12 := @run_callFunc_extern Tryz.prog 65 _ ReflectliteValue.set Tryz.func65 (by kernel_rfl) (by kernel_rfl) (by kernel_rfl) (by kernel_rfl)
  have tO := lk_typeOfP
  have a25 := lk_assignableP
  have v25 := lk_valueOfP
  have hb0 := (Below.refl w.heap.size w).alloc (Nat.le_refl _) (.cells #[.pointer (some ⟨15, 57, none⟩), .pointer (some ⟨tv, 0, none⟩), .int .u64 150] 95)
  have HB0 := Lib.hid hb0
  have HT := Lib.hid ht
  have HTL := Lib.hid (lt_of_block ht)
  have HV := Lib.hid hv
  have HVL := Lib.hid (cell_lt hv)
  unfold linkPtr frn
  clear ht hv hb0
  go_enter Tryz.func50, Tryz.ntmps50
  go_wp2
  refine wp_loop_rounds 3 ?_
  rw [rounds_succ]
  go_wp2_with (go_at_call 159; refine (HFU.out _ _).mono ?_; rintro e w1 ⟨rfl, hx1⟩)
  have hb1 := HB0.out.trans (hx1.mono HB0.out.size)
  have y0 := (hx1.cell (p := ⟨w.heap.size, 0, none⟩) (by simp)).trans (show _ = some (.pointer (some ⟨15, 57, none⟩)) from by rw [World.cell?_alloc_at _ _ _ _ rfl]; rfl)
  have y1 := (hx1.cell (p := ⟨w.heap.size, 1, none⟩) (by simp)).trans (show _ = some (.pointer (some ⟨tv, 0, none⟩)) from by rw [World.cell?_alloc_at _ _ _ _ rfl]; rfl)
  have y2 := (hx1.cell (p := ⟨w.heap.size, 2, none⟩) (by simp)).trans (show _ = some (.int .u64 150) from by rw [World.cell?_alloc_at _ _ _ _ rfl]; rfl)
  have HLB := Lib.hid (cell_lt y0)
  clear hx1
  rw [rounds_succ]
  go_wp2_with (go_at_call 159; refine (HFU.out _ _).mono ?_; rintro e w2 ⟨rfl, hx2⟩)
  have hb2 := hb1.trans (hx2.mono hb1.size)
  have z0 := (hx2.cell (p := ⟨w.heap.size, 0, none⟩) HLB.out).trans y0
  have z1 := (hx2.cell (p := ⟨w.heap.size, 1, none⟩) HLB.out).trans y1
  have z2 := (hx2.cell (p := ⟨w.heap.size, 2, none⟩) HLB.out).trans y2
  have HLB2 := Lib.hid (cell_lt z0)
  clear hx2 hb1 y0 y1 y2
  have HB2 := Lib.hid hb2
  clear hb2
  rw [rounds_succ]
  have hw2t := (HB2.out.block tb HTL.out).trans HT.out
  have hl2 := lt_of_block hw2t
  have el := lk_elemVT ⟨tv, 0, none⟩ ⟨tb, 0, none⟩ w2 ((HB2.out.cell (p := ⟨tv, 0, none⟩) HVL.out).trans HV.out)
  have st := lk_setP ⟨tb, 0, none⟩ ⟨w2.heap.size, 0, none⟩ ⟨b, 0, none⟩ old (w2.alloc (.cells #[.pointer (some ⟨b, 0, none⟩)] 55))
    (by rw [World.cell?_alloc_at _ _ _ _ (by simp)]; rfl)
    (by rw [World.cell?_alloc_lt _ _ ⟨tb, 0, none⟩ hl2]; exact blk_cell hw2t 0)
    (by rw [World.frozen?_alloc_old _ _ ⟨tb, 0, none⟩ (Nat.ne_of_lt hl2)]; exact blk_free hw2t 0)
  clear hw2t hl2
  go_wp2
  go_ret
  exact ⟨rfl, w2, HB2.out, rfl⟩
set_option maxHeartbeats 4000000 in
set_option maxRecDepth 100000 in
theorem as_outer (S : Nat → Prop) (t : Fa.F) (v : Value) (w : World) (tb tv : Nat) (old : Value) (h : Holds S w t [v]) (hok : t.ok) (hS : ∀ b, S b → b ≠ tb) (hne : tv ≠ tb)
    (ht : w.heap[tb]? = some (.cells #[old] 55 (0, 0))) (hv : w.cell? ⟨tv, 0, none⟩ = some (.pointer (some ⟨tb, 0, none⟩))) :
    Calls Tryz.prog 50 #[frn (frn v), .iface 57 (.pointer (some ⟨tb, 0, none⟩)), .agg #[.pointer (some ⟨15, 57, none⟩), .pointer (some ⟨tv, 0, none⟩), .int .u64 150], .iface 127 (.agg #[.pointer (some ⟨15, 55, none⟩)])] w (AsPost S t w tb) := by
  have hA := asC_all t.nodes
  have hn : t.nodes ≤ t.nodes := Nat.le_refl _
  have htl := lt_of_block ht
  have hvl := cell_lt hv
  rcases h.one with ⟨x, c, b, cv, cs, rfl, rfl, hbS, h2, h3, h4⟩ | ⟨j, b, g, o, cap, ks, rfl, rfl, hbS, h2, ⟨hg, hgl, h3⟩, h4⟩
  · refine (as_hit_o b tb tv old w ht hv).mono ?_
    rintro e w' ⟨rfl, w2, hb2, rfl⟩
    have hb := hb2.alloc hb2.size (.cells #[.pointer (some ⟨b, 0, none⟩)] 55)
    refine ⟨rfl, x, c, b, cv, cs, rfl, hbS, ?_, (h3.below hb).setT hS, h4, gb_trans (gb_below hb) (gb_set _ _ _ _), ?_⟩
    · rw [Below.heap_setCell _ _ _ _ (hS b hbS)]
      exact (hb.block b (lt_of_block h2)).trans h2
    · exact blk_set ((hb.block tb htl).trans ht) 0 _
  · obtain ⟨rs, hrs⟩ := h4.refs
    subst hrs
    have hlk : rs.length = j.kids.length := by
      have := h4.len
      rw [List.length_map] at this
      rw [this, Fa.kids_len]
    rw [List.length_map] at h2
    have hpos : 0 < rs.length := by rw [hlk, Fa.kids_len]; have := hok.1; omega
    have hl8 : rs.length ≤ 8 := by rw [hlk, Fa.kids_len]; have := hok.2.1; omega
    have hkp : 0 < j.kids.length := by omega
    have hkd := Fa.kids_nodes j _ (List.getElem_mem hkp)
    have hfk := first_kid hok hkp
    have hb0 := (Below.refl w.heap.size w).alloc (Nat.le_refl _) (.cells #[.pointer (some ⟨15, 57, none⟩), .pointer (some ⟨tv, 0, none⟩), .int .u64 150] 95)
    have HB0 := Lib.hid hb0
    have HE : ErrsAt w g o rs := ⟨hgl, fun i hi => h3 i _ (by rw [List.getElem?_map, List.getElem?_eq_getElem hi]; rfl)⟩
    have HJU : Hid (∀ w1, Below w.heap.size w w1 → Calls Tryz.prog 59 #[.pointer (some ⟨b, 0, none⟩)] w1 fun e w' => ∃ g' c', e = .returned (.slice (some ⟨g', 0, none⟩) rs.length c') ∧ OwnL 26 1 encE w' w1.heap.size (.slice (some ⟨g', 0, none⟩) rs.length c') rs ∧ Below w1.heap.size w1 w') := fun w1 hb =>
      join_unwrap b g o cap _ _ rs w1 ((hb.block b (lt_of_block h2)).trans h2) (HE.below hb) hpos (by omega)
    have HAS : Hid (∀ w1, Below w.heap.size w w1 → Calls Tryz.prog 50 #[valE rs[0], .iface 57 (.pointer (some ⟨tb, 0, none⟩)), .agg #[.pointer (some ⟨15, 57, none⟩), .pointer (some ⟨tv, 0, none⟩), .int .u64 150], .iface 127 (.agg #[.pointer (some ⟨15, 55, none⟩)])] w1 (AsPost S j.kids[0] w1 tb)) :=
      fun w1 hb => hA S j.kids[0] (valE rs[0]) w1 tb tv old (by have h1 := hkd.1; simp only [Fa.F.nodes]; omega) ((h4.elem 0 hkp hpos).below hb) (hkd.2.2 hok.2.2.1) hS hne ((hb.block tb htl).trans ht) ((hb.cell (p := ⟨tv, 0, none⟩) hvl).trans hv)
    have HP : Hid (∀ w1 w', Below w.heap.size w w1 → AsPost S j.kids[0] w1 tb (.returned (.bool true)) w' → AsPost S (.join j .nil) w tb (.returned (.bool true)) w') := fun w1 w' hb hp => by
      obtain ⟨_, x, c, p, cv, cs, p1, p2, p3, p4, p5, p6, p7⟩ := hp
      exact ⟨rfl, x, c, p, cv, cs, hfk.trans p1, p2, p3, p4, p5, gb_trans (gb_below hb) p6, p7⟩
    have h10 := @run_callFunc_extern Tryz.prog 51 _ ReflectliteType.typeOf Tryz.func51 (by kernel_rfl) (by kernel_rfl) (by kernel_rfl) (by kernel_rfl)
    have h35 := @run_callFunc_extern Tryz.prog 170 _ (ReflectliteType.relation "AssignableTo" ReflectliteType.assignableTo) Tryz.func170 (by kernel_rfl) (by kernel_rfl) (by kernel_rfl) (by kernel_rfl)
    have mA := mAssA
    have tF := fr_typeOf
    have aF := fr_ass
    have nAsF := fr_noAs
    have hUF := hasUnwrapF
    have m4 := mUnF
    have HFU := Lib.hid foreign_unwrap
    have tO := jn_typeOfP
    have aJ := assJL
    have nAs := noAsJ
    have nU := noUnwrapJ
    have hUs := hasUnwrapsJ
    have m3 := mUnJ
    have i0 : (0 : Int) < (rs.length : Int) := by omega
    unfold joinPtr frn
    clear h h2 h3 h4 hlk hfk hb0 HE hkd hA hok hn ht hv hS hl8
    go_enter Tryz.func50, Tryz.ntmps50
    go_wp2
    refine wp_loop_rounds 3 ?_
    rw [rounds_succ]
    go_wp2_with (go_at_call 159; refine (HFU.out _ _).mono ?_; rintro e w1 ⟨rfl, hx1⟩)
    have hb1 := HB0.out.trans (hx1.mono HB0.out.size)
    have y0 := (hx1.cell (p := ⟨w.heap.size, 0, none⟩) (by simp)).trans (show _ = some (.pointer (some ⟨15, 57, none⟩)) from by rw [World.cell?_alloc_at _ _ _ _ rfl]; rfl)
    have y1 := (hx1.cell (p := ⟨w.heap.size, 1, none⟩) (by simp)).trans (show _ = some (.pointer (some ⟨tv, 0, none⟩)) from by rw [World.cell?_alloc_at _ _ _ _ rfl]; rfl)
    have y2 := (hx1.cell (p := ⟨w.heap.size, 2, none⟩) (by simp)).trans (show _ = some (.int .u64 150) from by rw [World.cell?_alloc_at _ _ _ _ rfl]; rfl)
    have HLB := Lib.hid (cell_lt y0)
    clear hx1
    rw [rounds_succ]
    go_wp2_with (go_at_call 159; refine (HFU.out _ _).mono ?_; rintro e w2 ⟨rfl, hx2⟩)
    have hb2 := hb1.trans (hx2.mono hb1.size)
    have z0 := (hx2.cell (p := ⟨w.heap.size, 0, none⟩) HLB.out).trans y0
    have z1 := (hx2.cell (p := ⟨w.heap.size, 1, none⟩) HLB.out).trans y1
    have z2 := (hx2.cell (p := ⟨w.heap.size, 2, none⟩) HLB.out).trans y2
    have HLB2 := Lib.hid (cell_lt z0)
    clear hx2 hb1 y0 y1 y2
    have HB2 := Lib.hid hb2
    clear hb2
    rw [rounds_succ]
    go_wp2_with (go_at_call 59; refine (HJU.out _ HB2.out).mono ?_; rintro e w3 ⟨g1, c1, rfl, hown1, hb3⟩; have HB1 := Lib.hid (HB2.out.trans (hb3.mono HB2.out.size)); have e0 := own_errs hown1 0 hpos; have x0 := (hb3.cell (p := ⟨w.heap.size, 0, none⟩) HLB2.out).trans z0; have x1 := (hb3.cell (p := ⟨w.heap.size, 1, none⟩) HLB2.out).trans z1; have x2 := (hb3.cell (p := ⟨w.heap.size, 2, none⟩) HLB2.out).trans z2; obtain ⟨ty, pv, hty⟩ := valE_iface rs[0]; have HAA := Lib.hid (HAS.out w3 HB1.out); rw [hty] at e0 HAA; clear hown1 hb3 hty z0 z1 z2)
    refine wp_loop_rounds 1 ?_
    rw [rounds_succ]
    go_wp2_with (go_at_call 50; refine HAA.out.mono ?_; rintro e w5 hp; have HPP := Lib.hid hp; obtain rfl := hp.1; clear hp)
    go_ret
    exact HP.out _ _ HB1.out HPP.out
set_option maxHeartbeats 4000000 in
set_option maxRecDepth 100000 in
/-- errors.As of a fault at a **Link. -/
theorem asL_outer (S : Nat → Prop) (t : Fa.F) (v : Value) (w : World) (tb : Nat) (old : Value) (h : Holds S w t [v]) (hok : t.ok) (hS : ∀ b, S b → b ≠ tb) (ht : w.heap[tb]? = some (.cells #[old] 55 (0, 0))) (hE : ErrT w) :
    Calls Tryz.prog 25 #[frn (frn v), .iface 57 (.pointer (some ⟨tb, 0, none⟩))] w (AsPost S t w tb) := by
  have htl := lt_of_block ht
  have HP : Hid (∀ w1 w', Below w.heap.size w w1 → AsPost S t w1 tb (.returned (.bool true)) w' → AsPost S t w tb (.returned (.bool true)) w') := fun w1 w' hb hp => by
    obtain ⟨_, x, c, p, cv, cs, p1, p2, p3, p4, p5, p6, p7⟩ := hp
    exact ⟨rfl, x, c, p, cv, cs, p1, p2, p3, p4, p5, gb_trans (gb_below hb) p6, p7⟩
  have hb0 : Below w.heap.size w ((w.alloc (.cells #[.pointer (some ⟨tb, 0, none⟩)] 57)).alloc (.cells #[.pointer (some ⟨15, 57, none⟩), .pointer (some ⟨w.heap.size, 0, none⟩), .int .u64 150] 95)) := ((Below.refl _ _).alloc (Nat.le_refl _) _).alloc (by simp) _
  have HB0 := Lib.hid hb0
  have HAS := Lib.hid (as_outer S t v _ tb w.heap.size old (h.below hb0) hok hS (Nat.ne_of_gt htl) ((hb0.block tb htl).trans ht) (by rw [World.cell?_alloc_lt _ _ ⟨w.heap.size, 0, none⟩ (by simp), World.cell?_alloc_at _ _ _ _ rfl]; rfl))
  have h6 := @run_callFunc_extern Tryz.prog 47 _ (fun args => ReflectliteValue.unpack (args.getD 0 (.tuple #[]))) Tryz.func47 (by kernel_rfl) (by kernel_rfl) (by kernel_rfl) (by kernel_rfl)
  have h7 := @run_callFunc_extern Tryz.prog 48 _ (ReflectliteValue.methodAny (ReflectliteValue.valueError "reflectlite.Value.Type" 0) (fun t _ _ _ => ReflectliteType.toType t)) Tryz.func48 (by kernel_rfl) (by kernel_rfl) (by kernel_rfl) (by kernel_rfl)
  have h8 := @run_callFunc_extern Tryz.prog 49 _ (ReflectliteValue.method (ReflectliteValue.valueError "reflectlite.Value.IsNil" 0) ReflectliteValue.isNil) Tryz.func49 (by kernel_rfl) (by kernel_rfl) (by kernel_rfl) (by kernel_rfl)
  have h27 := @run_callFunc_extern Tryz.prog 155 _ kindE Tryz.func155 (by kernel_rfl) (by kernel_rfl) (by kernel_rfl) (by kernel_rfl)
  have h37 := @run_callFunc_extern Tryz.prog 172 _ (ReflectliteType.method ReflectliteType.elem) Tryz.func172 (by kernel_rfl) (by kernel_rfl) (by kernel_rfl) (by kernel_rfl)
  have h38 := @run_callFunc_extern Tryz.prog 173 _ (ReflectliteType.relation "Implements" ReflectliteType.implements_) Tryz.func173 (by kernel_rfl) (by kernel_rfl) (by kernel_rfl) (by kernel_rfl)
  have f6 := lk_valueOfT
  have f7 := lk_typeT
  have mK := mKindA
  have mE := mElemA
  have mI := mImplA
  have k27 := lk_kindT
  have k25 := lk_kindP
  have e27 := lk_elemT
  have i25 := lk_implementsP
  have n8 := lk_isNilT ⟨w.heap.size, 0, none⟩ ⟨tb, 0, none⟩ ((w.alloc (.cells #[.pointer (some ⟨tb, 0, none⟩)] 57)).alloc (.cells #[.pointer (some ⟨15, 57, none⟩), .pointer (some ⟨w.heap.size, 0, none⟩), .int .u64 150] 95)) (by rw [World.cell?_alloc_lt _ _ ⟨w.heap.size, 0, none⟩ (by simp), World.cell?_alloc_at _ _ _ _ rfl]; rfl)
  have hg2 : ((w.alloc (.cells #[.pointer (some ⟨tb, 0, none⟩)] 57)).alloc (.cells #[.pointer (some ⟨15, 57, none⟩), .pointer (some ⟨w.heap.size, 0, none⟩), .int .u64 150] 95)).cell? ⟨0, 0, none⟩ = some (.iface 127 (.agg #[.pointer (some ⟨15, 26, none⟩)])) := hE.below hb0
  unfold frn at *
  clear h hok hS ht hE hb0 htl
  go_enter Tryz.func25, Tryz.ntmps25
  go_wp2_with (go_at_call 50; refine HAS.out.mono ?_; rintro e w3 hp; have HPP := Lib.hid hp; obtain rfl := hp.1; clear hp)
  go_ret
  exact HP.out _ _ HB0.out HPP.out
end Go.Proofs.YtgnhbccmdpkbiaaGreatDoor
