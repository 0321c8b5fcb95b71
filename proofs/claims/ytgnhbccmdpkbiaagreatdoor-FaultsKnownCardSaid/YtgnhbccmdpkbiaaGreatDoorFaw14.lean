/-
  Walks for layer 3 (faults): errors.As of a fault; Root.
-/
import Derived.Test.YtgnhbccmdpkbiaaGreatDoorFaw13
import Derived.Test.YtgnhbccmdpkbiaaGreatDoorFaw10
import Derived.Test.YtgnhbccmdpkbiaaGreatDoorFaw11
namespace Go.Proofs.YtgnhbccmdpkbiaaGreatDoor
open Go.RowKit Go.Extern.Stop Go.Stop Go.Extern

theorem first_kid {j : Fa.F} (hok : (Fa.F.join j .nil).ok) (h : 0 < j.kids.length) : (Fa.F.join j .nil).first = (j.kids[0]).first := by
  obtain ⟨h1, _, h3, _⟩ := hok
  have e := Fa.kids_first j h3
  obtain ⟨p, hp⟩ := Fa.first_some h3 (fun e => by rw [e] at h1; exact absurd h1 (by decide))
  have e2 : j.kids.head? = some j.kids[0] := by rw [List.head?_eq_getElem?, List.getElem?_eq_getElem h]
  rw [e2] at e
  rw [Fa.F.first, hp]
  rw [hp] at e
  exact e
theorem Holds.setT {S : Nat → Prop} {w : World} {tb : Nat} {u : Value} {t : Fa.F} {vs : List Value} (h : Holds S w t vs) (hS : ∀ b, S b → b ≠ tb) : Holds S (w.setCell ⟨tb, 0, none⟩ u) t vs :=
  h.moved (fun b h1 _ => ⟨h1, Below.heap_setCell _ _ _ _ (hS b h1)⟩) (by simp [World.setCell])
set_option maxHeartbeats 4000000 in
set_option maxRecDepth 100000 in
theorem as_step (n : Nat) (hA : AsC n) : AsC (n + 1) := by
  intro S t v w tb tv old hn h hok hS hne ht hv
  have htl := lt_of_block ht
  have hvl := cell_lt hv
  rcases h.one with ⟨x, c, b, cv, cs, rfl, rfl, hbS, h2, h3, h4⟩ | ⟨j, b, g, o, cap, ks, rfl, rfl, hbS, h2, ⟨hg, hgl, h3⟩, h4⟩
  · refine (as_hit b tb tv old w ht hv).mono ?_
    rintro e w' ⟨rfl, rfl⟩
    have hb := ((Below.refl w.heap.size w).alloc (Nat.le_refl _) (.cells #[.pointer (some ⟨15, 57, none⟩), .pointer (some ⟨tv, 0, none⟩), .int .u64 150] 95)).alloc (by simp) (.cells #[.pointer (some ⟨b, 0, none⟩)] 55)
    refine ⟨rfl, x, c, b, cv, cs, rfl, hbS, ?_, (h3.below hb).setT hS, h4, gb_trans (gb_below hb) (gb_set _ _ _ _), ?_⟩
    · rw [Below.heap_setCell _ _ _ _ (hS b hbS)]
      exact (hb.block b (lt_of_block h2)).trans h2
    · exact blk_set ((hb.block tb htl).trans ht) 0 _
  · obtain ⟨rs, hrs⟩ := h4.refs
    subst hrs
    have hlk : rs.length = j.kids.length := by
      have := h4.len
      rw [List.length_map] at this
      rw [this, Fa.kids_len]
    rw [List.length_map] at h2
    have hpos : 0 < rs.length := by rw [hlk, Fa.kids_len]; have := hok.1; omega
    have hl8 : rs.length ≤ 8 := by rw [hlk, Fa.kids_len]; have := hok.2.1; omega
    have hkp : 0 < j.kids.length := by omega
    have hkd := Fa.kids_nodes j _ (List.getElem_mem hkp)
    have hfk := first_kid hok hkp
    have hb0 := (Below.refl w.heap.size w).alloc (Nat.le_refl _) (.cells #[.pointer (some ⟨15, 57, none⟩), .pointer (some ⟨tv, 0, none⟩), .int .u64 150] 95)
    have HB0 := Lib.hid hb0
    have HE : ErrsAt (w.alloc (.cells #[.pointer (some ⟨15, 57, none⟩), .pointer (some ⟨tv, 0, none⟩), .int .u64 150] 95)) g o rs := ErrsAt.below ⟨hgl, fun i hi => h3 i _ (by rw [List.getElem?_map, List.getElem?_eq_getElem hi]; rfl)⟩ hb0
    have HJU := Lib.hid (join_unwrap b g o cap _ _ rs _ ((hb0.block b (lt_of_block h2)).trans h2) HE hpos (by omega))
    have HAS : Hid (∀ w1, Below w.heap.size w w1 → Calls Tryz.prog 50 #[valE rs[0], .iface 57 (.pointer (some ⟨tb, 0, none⟩)), .agg #[.pointer (some ⟨15, 57, none⟩), .pointer (some ⟨tv, 0, none⟩), .int .u64 150], .iface 127 (.agg #[.pointer (some ⟨15, 55, none⟩)])] w1 (AsPost S j.kids[0] w1 tb)) :=
      fun w1 hb => hA S j.kids[0] (valE rs[0]) w1 tb tv old (by simp only [Fa.F.nodes] at hn; omega) ((h4.elem 0 hkp hpos).below hb) (hkd.2.2 hok.2.2.1) hS hne ((hb.block tb htl).trans ht) ((hb.cell (p := ⟨tv, 0, none⟩) hvl).trans hv)
    have HP : Hid (∀ w1 w', Below w.heap.size w w1 → AsPost S j.kids[0] w1 tb (.returned (.bool true)) w' → AsPost S (.join j .nil) w tb (.returned (.bool true)) w') := fun w1 w' hb hp => by
      obtain ⟨_, x, c, p, cv, cs, p1, p2, p3, p4, p5, p6, p7⟩ := hp
      exact ⟨rfl, x, c, p, cv, cs, hfk.trans p1, p2, p3, p4, p5, gb_trans (gb_below hb) p6, p7⟩
    have h10 := @run_callFunc_extern Tryz.prog 51 _ ReflectliteType.typeOf Tryz.func51 (by kernel_rfl) (by kernel_rfl) (by kernel_rfl) (by kernel_rfl)
    have h35 := @run_callFunc_extern Tryz.prog 170 _ (ReflectliteType.relation "AssignableTo" ReflectliteType.assignableTo) Tryz.func170 (by kernel_rfl) (by kernel_rfl) (by kernel_rfl) (by kernel_rfl)
    have tO := jn_typeOfP
    have mA := mAssA
    have aJ := assJL
    have nAs := noAsJ
    have nU := noUnwrapJ
    have hUs := hasUnwrapsJ
    have m3 := mUnJ
    have i0 : (0 : Int) < (rs.length : Int) := by omega
    unfold joinPtr
    clear h h2 h3 h4 hlk hfk hb0 HE hkd hA hok hn ht hv hS hl8
    go_enter Tryz.func50, Tryz.ntmps50
    go_wp2
    refine wp_loop_rounds 1 ?_
    rw [rounds_succ]
    go_wp2_with (go_at_call 59; refine HJU.out.mono ?_; rintro e w1 ⟨g1, c1, rfl, hown1, hb1⟩; have HB1 := Lib.hid (HB0.out.trans (hb1.mono HB0.out.size)); have e0 := own_errs hown1 0 hpos; have z0 := (hb1.cell (p := ⟨w.heap.size, 0, none⟩) (by simp)).trans (show _ = some (.pointer (some ⟨15, 57, none⟩)) from by rw [World.cell?_alloc_at _ _ _ _ rfl]; rfl); have z1 := (hb1.cell (p := ⟨w.heap.size, 1, none⟩) (by simp)).trans (show _ = some (.pointer (some ⟨tv, 0, none⟩)) from by rw [World.cell?_alloc_at _ _ _ _ rfl]; rfl); have z2 := (hb1.cell (p := ⟨w.heap.size, 2, none⟩) (by simp)).trans (show _ = some (.int .u64 150) from by rw [World.cell?_alloc_at _ _ _ _ rfl]; rfl); obtain ⟨ty, pv, hty⟩ := valE_iface rs[0]; have HAA := Lib.hid (HAS.out w1 HB1.out); rw [hty] at e0 HAA; clear hown1 hb1 hty)
    refine wp_loop_rounds 1 ?_
    rw [rounds_succ]
    go_wp2_with (go_at_call 50; refine HAA.out.mono ?_; rintro e w3 hp; have HPP := Lib.hid hp; obtain rfl := hp.1; clear hp)
    go_ret
    exact HP.out _ _ HB1.out HPP.out
theorem asC_all : ∀ n, AsC n := by
  intro n
  induction n with
  | zero =>
    intro S t v w tb tv old hn h
    have := one_ne h
    omega
  | succ n ih => exact as_step n ih

set_option maxHeartbeats 4000000 in
set_option maxRecDepth 100000 in
/-- errors.As of a fault at a **Link. -/
theorem asL_any (S : Nat → Prop) (t : Fa.F) (v : Value) (w : World) (tb : Nat) (old : Value) (h : Holds S w t [v]) (hok : t.ok) (hS : ∀ b, S b → b ≠ tb) (ht : w.heap[tb]? = some (.cells #[old] 55 (0, 0))) (hE : ErrT w) :
    Calls Tryz.prog 25 #[v, .iface 57 (.pointer (some ⟨tb, 0, none⟩))] w (AsPost S t w tb) := by
  have htl := lt_of_block ht
  have HP : Hid (∀ w1 w', Below w.heap.size w w1 → AsPost S t w1 tb (.returned (.bool true)) w' → AsPost S t w tb (.returned (.bool true)) w') := fun w1 w' hb hp => by
    obtain ⟨_, x, c, p, cv, cs, p1, p2, p3, p4, p5, p6, p7⟩ := hp
    exact ⟨rfl, x, c, p, cv, cs, p1, p2, p3, p4, p5, gb_trans (gb_below hb) p6, p7⟩
  have hb0 : Below w.heap.size w ((w.alloc (.cells #[.pointer (some ⟨tb, 0, none⟩)] 57)).alloc (.cells #[.pointer (some ⟨15, 57, none⟩), .pointer (some ⟨w.heap.size, 0, none⟩), .int .u64 150] 95)) := ((Below.refl _ _).alloc (Nat.le_refl _) _).alloc (by simp) _
  have HB0 := Lib.hid hb0
  have HAS := Lib.hid (asC_all t.nodes S t v _ tb w.heap.size old (Nat.le_refl _) (h.below hb0) hok hS (Nat.ne_of_gt htl) ((hb0.block tb htl).trans ht) (by rw [World.cell?_alloc_lt _ _ ⟨w.heap.size, 0, none⟩ (by simp), World.cell?_alloc_at _ _ _ _ rfl]; rfl))
  have h6 := @run_callFunc_extern Tryz.prog 47 _ (fun args => ReflectliteValue.unpack (args.getD 0 (.tuple #[]))) Tryz.func47 (by kernel_rfl) (by kernel_rfl) (by kernel_rfl) (by kernel_rfl)
  have h7 := @run_callFunc_extern Tryz.prog 48 _ (ReflectliteValue.methodAny (ReflectliteValue.valueError "reflectlite.Value.Type" 0) (fun t _ _ _ => ReflectliteType.toType t)) Tryz.func48 (by kernel_rfl) (by kernel_rfl) (by kernel_rfl) (by kernel_rfl)
  have h8 := @run_callFunc_extern Tryz.prog 49 _ (ReflectliteValue.method (ReflectliteValue.valueError "reflectlite.Value.IsNil" 0) ReflectliteValue.isNil) Tryz.func49 (by kernel_rfl) (by kernel_rfl) (by kernel_rfl) (by kernel_rfl)
  have h27 := @run_callFunc_extern Tryz.prog 155 _ kindE Tryz.func155 (by kernel_rfl) (by kernel_rfl) (by kernel_rfl) (by kernel_rfl)
  have h37 := @run_callFunc_extern Tryz.prog 172 _ (ReflectliteType.method ReflectliteType.elem) Tryz.func172 (by kernel_rfl) (by kernel_rfl) (by kernel_rfl) (by kernel_rfl)
  have h38 := @run_callFunc_extern Tryz.prog 173 _ (ReflectliteType.relation "Implements" ReflectliteType.implements_) Tryz.func173 (by kernel_rfl) (by kernel_rfl) (by kernel_rfl) (by kernel_rfl)
  have f6 := lk_valueOfT
  have f7 := lk_typeT
  have mK := mKindA
  have mE := mElemA
  have mI := mImplA
  have k27 := lk_kindT
  have k25 := lk_kindP
  have e27 := lk_elemT
  have i25 := lk_implementsP
  have n8 := lk_isNilT ⟨w.heap.size, 0, none⟩ ⟨tb, 0, none⟩ ((w.alloc (.cells #[.pointer (some ⟨tb, 0, none⟩)] 57)).alloc (.cells #[.pointer (some ⟨15, 57, none⟩), .pointer (some ⟨w.heap.size, 0, none⟩), .int .u64 150] 95)) (by rw [World.cell?_alloc_lt _ _ ⟨w.heap.size, 0, none⟩ (by simp), World.cell?_alloc_at _ _ _ _ rfl]; rfl)
  have hg2 : ((w.alloc (.cells #[.pointer (some ⟨tb, 0, none⟩)] 57)).alloc (.cells #[.pointer (some ⟨15, 57, none⟩), .pointer (some ⟨w.heap.size, 0, none⟩), .int .u64 150] 95)).cell? ⟨0, 0, none⟩ = some (.iface 127 (.agg #[.pointer (some ⟨15, 26, none⟩)])) := hE.below hb0
  obtain ⟨ty, p, rfl⟩ := h.iface
  clear h hok hS ht hE hb0 htl
  go_enter Tryz.func25, Tryz.ntmps25
  go_wp2_with (go_at_call 50; refine HAS.out.mono ?_; rintro e w3 hp; have HPP := Lib.hid hp; obtain rfl := hp.1; clear hp)
  go_ret
  exact HP.out _ _ HB0.out HPP.out
end Go.Proofs.YtgnhbccmdpkbiaaGreatDoor
