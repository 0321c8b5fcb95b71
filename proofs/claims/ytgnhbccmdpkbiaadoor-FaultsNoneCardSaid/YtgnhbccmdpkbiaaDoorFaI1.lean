/-
  Layer 3 (faults): errors.Is and Has of a fault that errors of another package wrap.
-/
import Derived.Test.YtgnhbccmdpkbiaaDoorFaw11
namespace Go.Proofs.YtgnhbccmdpkbiaaDoor
open Go.RowKit Go.Extern.Stop Go.Stop Go.Extern

/-- The error of the statements' own package around another. -/
def frn (v : Value) : Value := .iface 33 (.agg #[v])
theorem noIsF (v : Value) (xT : TypeId) (w : World) : (Instr.typeAssert (.iface 33 v) xT 117 true).run Tryd.prog w = .ok (.tuple #[.nilIface, .bool false]) w := run_typeAssert_lacksB Tryd.underlying117 (by kernel_rfl) (by kernel_rfl) v xT w
theorem hasUnwrapF (v : Value) (xT : TypeId) (w : World) : (Instr.typeAssert (.iface 33 v) xT 114 true).run Tryd.prog w = .ok (.tuple #[.iface 33 v, .bool true]) w := run_typeAssert_hasB Tryd.underlying114 (by kernel_rfl) v xT w
theorem mUnF (v : Value) (w : World) : (Go.method 283 33 v "Unwrap").run Tryd.prog w = .ok (100, v) w := by kernel_rfl
theorem foreign_unwrap (v : Value) (w : World) : Calls Tryd.prog 100 #[.agg #[v]] w fun e w' => e = .returned v ∧ Below w.heap.size w w' := by
  go_enter Tryd.func100, Tryd.ntmps100
  go_wp2
  go_ret
  exact ⟨rfl, (Below.refl _ _).alloc (Nat.le_refl _) _⟩
def lvl (v : Value) : Nat := match v with
  | .iface _ (.agg cs) => (match (cs[0]? : Option Value) with
    | some (.iface _ (.agg _)) => 2
    | _ => 1)
  | _ => 0
/-- What falls in each round of the loop of errors.is. -/
def mes (n : Nat) (w : World) (v : Value) : Nat := if lvl v = 0 then nodesAt w v else n + lvl v
theorem mes_holds {S : Nat → Prop} {w : World} {t : Fa.F} {v : Value} (n : Nat) (h : Holds S w t [v]) : mes n w v = t.nodes := by
  have h1 := nodesAt_holds h
  rcases h.one with ⟨x, c, b, cv, cs, rfl, rfl, _⟩ | ⟨k, b, g, o, cap, ks, rfl, rfl, _⟩
  · exact h1
  · exact h1
theorem Holds.ptr {S : Nat → Prop} {w : World} {t : Fa.F} {v : Value} (h : Holds S w t [v]) : ∃ ty p, v = .iface ty (.pointer p) := by
  rcases h.one with ⟨x, c, b, cv, cs, _, rfl, _⟩ | ⟨k, b, g, o, cap, ks, _, rfl, _⟩
  · exact ⟨_, _, rfl⟩
  · exact ⟨_, _, rfl⟩
def FInv (S : Nat → Prop) (t : Fa.F) (k : Int) (n : Nat) (w : World) (v0 cur : Value) (wr : World) : Prop :=
  (Below w.heap.size w wr ∧ (cur = frn (frn v0) ∨ cur = frn v0)) ∨ IsInv S t k n w cur wr

set_option maxHeartbeats 4000000 in
set_option maxRecDepth 100000 in
theorem is_outer (S : Nat → Prop) (t : Fa.F) (v : Value) (k : Int) (w : World) (h : Holds S w t [v]) (hok : t.ok) :
    Calls Tryd.prog 42 #[frn (frn v), sent k, .bool true] w fun e w' => e = .returned (.bool (t.has k)) ∧ Below w.heap.size w w' := by
  obtain ⟨n, hn⟩ : ∃ n, t.nodes ≤ n + 1 := ⟨t.nodes, by omega⟩
  have hI := isC_all n
  have HM0 := Lib.hid (mes_holds (n + 1) h)
  have HV0 : Hid (∃ ty p, v = .iface ty (.pointer p)) := h.ptr
  have HI := Lib.hid hI
  have HST : Hid (FInv S t k (n + 1) w v (frn (frn v)) w) := .inl ⟨Below.refl _ _, .inl rfl⟩
  have HSU : Hid (∀ wr, Below w.heap.size w wr → FInv S t k (n + 1) w v v wr) := fun wr hb => .inr ⟨t, h, hok, rfl, hn, hb⟩
  have HNN0 := Lib.hid hn
  have nIsF := noIsF
  have hUF := hasUnwrapF
  have m4 := mUnF
  have hty3 := fun (x y : Value) (w : World) => run_eql_iface_types (P := Tryd.prog) 33 62 x y Tryd.underlying28 (by decide) w
  have hIs := hasIsL
  have nIs := noIsJ
  have hU := hasUnwrapL
  have nU := noUnwrapJ
  have hUs := hasUnwrapsJ
  have m1 := mIsL
  have m2 := mUnL
  have m3 := mUnJ
  have hty1 := fun (x y : Value) (w : World) => run_eql_iface_types (P := Tryd.prog) 26 62 x y Tryd.underlying28 (by decide) w
  have hty2 := fun (x y : Value) (w : World) => run_eql_iface_types (P := Tryd.prog) 36 62 x y Tryd.underlying28 (by decide) w
  have HFU := Lib.hid foreign_unwrap
  clear h hok hn hI
  unfold sent frn at *
  go_enter Tryd.func42, Tryd.ntmps42
  go_wp2
  go_loopw [0] (fun cur wr => Hid (FInv S t k (n + 1) w v cur wr)) (fun cur _ => mes (n + 1) w cur)
  case atStart => exact HST
  case round =>
    rcases hrel.out with ⟨hb, rfl | rfl⟩ | ⟨s, h, hok, hhas, hn, hb⟩
    · have HB := Lib.hid hb
      unfold frn
      clear hb hrel
      go_wp2_with (go_at_call 100; refine (HFU.out _ _).mono ?_; rintro e w1 ⟨rfl, hbx⟩)
      case roundEnd =>
        refine ⟨.inl ⟨HB.out.trans (hbx.mono HB.out.size), .inr rfl⟩, ?_⟩
        obtain ⟨ty, p, rfl⟩ := HV0.out
        show n + 1 + 1 < n + 1 + 2
        omega
    · have HB := Lib.hid hb
      obtain ⟨ty, p, rfl⟩ := HV0.out
      unfold frn
      clear hb hrel
      go_wp2_with (go_at_call 100; refine (HFU.out _ _).mono ?_; rintro e w1 ⟨rfl, hbx⟩)
      case roundEnd =>
        refine ⟨HSU.out _ (HB.out.trans (hbx.mono HB.out.size)), ?_⟩
        rw [HM0.out]
        have h1 := HNN0.out
        show _ < n + 1 + 1
        omega
    rcases h.one with ⟨x, c, b, cv, cs, rfl, rfl, hbS, h2, h3, h4⟩ | ⟨j, b, g, o, cap, ks, rfl, rfl, hbS, h2, ⟨hg, hgl, h3⟩, h4⟩
    · have h2r := (hb.block b (lt_of_block h2)).trans h2
      have HLI := Lib.hid (link_is b x cv _ _ k wr h2r)
      have HLU := Lib.hid (link_unwrap b x cv _ _ wr h2r)
      have HB := Lib.hid hb
      unfold sent at HLI
      cases hk : (x.kind == k) with
      | true =>
        have HX := Lib.hid (show t.has k = true from by rw [← hhas]; simp [Fa.F.has, hk])
        rw [hk] at HLI
        unfold linkPtr
        clear h h2 h3 h4 hhas hk hb h2r hok hrel
        go_wp2_with (first | (go_at_call 16; refine HLI.out.mono ?_; rintro e w1 ⟨rfl, rfl⟩) | (go_at_call 14; refine HLU.out.mono ?_; rintro e w1 ⟨rfl, rfl⟩))
        go_ret
        exact ⟨ret_b HX.out.symm, HB.out⟩
      | false =>
        rw [hk] at HLI
        unfold linkPtr
        rcases h4 with ⟨rfl, rfl⟩ | rfl
        · obtain rfl : c = .nil := by
            have := h3.len
            cases c with
            | nil => rfl
            | link _ _ _ => simp [Fa.F.len] at this
            | join _ _ => simp [Fa.F.len] at this
          have HX := Lib.hid (show t.has k = false from by rw [← hhas]; simp [Fa.F.has, hk])
          clear h h2 h3 hhas hk hb h2r hok hrel
          go_wp2_with (first | (go_at_call 16; refine HLI.out.mono ?_; rintro e w1 ⟨rfl, rfl⟩) | (go_at_call 14; refine HLU.out.mono ?_; rintro e w1 ⟨rfl, rfl⟩))
          go_ret
          exact ⟨ret_b HX.out.symm, HB.out⟩
        · have HNX : Hid (FInv S t k (n + 1) w v cv wr) := .inr ⟨c, h3, hok.2.2.1, by rw [← hhas]; simp [Fa.F.has, hk], by simp only [Fa.F.nodes] at hn; omega, hb⟩
          have HMS : Hid (mes (n + 1) w cv < mes (n + 1) w (linkPtr b)) := by
            show _ < _
            rw [mes_holds _ h3, mes_holds _ h]
            simp only [Fa.F.nodes]
            omega
          obtain ⟨ty, p, rfl⟩ := h3.iface
          clear h h2 h3 hhas hk hb h2r hok hrel
          go_wp2_with (first | (go_at_call 16; refine HLI.out.mono ?_; rintro e w1 ⟨rfl, rfl⟩) | (go_at_call 14; refine HLU.out.mono ?_; rintro e w1 ⟨rfl, rfl⟩))
          case roundEnd => exact ⟨HNX, HMS.out⟩
    · obtain ⟨rs, hrs⟩ := h4.refs
      subst hrs
      have hlk : rs.length = j.kids.length := by
        have := h4.len
        rw [List.length_map] at this
        rw [this, Fa.kids_len]
      rw [List.length_map] at h2
      have hpos : 0 < rs.length := by rw [hlk, Fa.kids_len]; have := hok.1; omega
      have hl8 : rs.length ≤ 8 := by rw [hlk, Fa.kids_len]; have := hok.2.1; omega
      have h2r := (hb.block b (lt_of_block h2)).trans h2
      have HE : ErrsAt wr g o rs := ⟨Nat.lt_of_lt_of_le hgl hb.size, fun i hi => (hb.cell (p := ⟨g, _, none⟩) hgl).trans (h3 i _ (by rw [List.getElem?_map, List.getElem?_eq_getElem hi]; rfl))⟩
      have HJU := Lib.hid (join_unwrap b g o cap _ _ rs wr h2r HE hpos (by omega))
      have HB := Lib.hid hb
      have HLK := Lib.hid hlk
      have H4 := Lib.hid h4
      have HOK := Lib.hid hok
      have HNN := Lib.hid hn
      have HHS : Hid (t.has k = j.kids.any (·.has k)) := by
        show _ = _
        rw [← hhas, ← Fa.kids_has]
        simp [Fa.F.has]
      unfold joinPtr
      clear h h2 h3 h4 hhas hb h2r hok hrel HE hlk hn
      go_wp2_with (go_at_call 18; refine HJU.out.mono ?_; rintro e w1 ⟨g1, c1, rfl, hown1, hb1⟩)
      have HB1 := Lib.hid (HB.out.trans (hb1.mono HB.out.size))
      have HW1 : Hid (g1 < w1.heap.size ∧ ∀ i (hi : i < rs.length), w1.cell? ⟨g1, i, none⟩ = some (valE rs[i])) := ⟨(hown1.lt g1 rfl).2, own_errs hown1⟩
      clear hown1 hb1
      go_loopw [45] (fun i wr => ∃ q : Nat, q ≤ rs.length ∧ i = .int .i64 q ∧ Hid (Below w1.heap.size w1 wr) ∧ Hid ((j.kids.take q).any (·.has k) = false)) (fun i _ => rs.length - (intOf i).toNat)
      case atStart => exact ⟨0, Nat.zero_le _, rfl, Below.refl _ _, rfl⟩
      case round =>
        obtain ⟨q, hq, rfl, hbq, hnone⟩ := hrel
        by_cases hlt : q < rs.length
        · have hqk : q < j.kids.length := by have := HLK.out; omega
          have i1 : (q : Int) < (rs.length : Int) := by omega
          have hbw : Below w.heap.size w wr := HB1.out.trans (hbq.out.mono HB1.out.size)
          have c0 := (hbq.out.cell (p := ⟨g1, q, none⟩) HW1.out.1).trans (HW1.out.2 q hlt)
          have hkd := Fa.kids_nodes j _ (List.getElem_mem hqk)
          have HC := Lib.hid (HI.out S j.kids[q] (valE rs[q]) k wr (by have := HNN.out; simp only [Fa.F.nodes] at this; omega) ((H4.out.elem q hqk hlt).below hbw) (hkd.2.2 HOK.out.2.2.1))
          unfold sent at HC
          have HTK := Lib.hid (show (j.kids.take (q + 1)).any (·.has k) = (j.kids[q]).has k from by
            rw [List.take_succ_eq_append_getElem hqk, List.any_append, hnone.out]
            simp)
          clear hkd
          cases hk : (j.kids[q]).has k with
          | true =>
            have HX := Lib.hid (show t.has k = true from by
              rw [HHS.out, List.any_eq_true]
              exact ⟨_, List.getElem_mem hqk, hk⟩)
            rw [hk] at HC
            clear hk
            go_wp2_with (go_at_call 42; refine HC.out.mono ?_; rintro e w3 ⟨rfl, hb3⟩)
            go_ret
            exact ⟨ret_b HX.out.symm, hbw.trans (hb3.mono hbw.size)⟩
          | false =>
            rw [hk] at HC HTK
            clear hk
            go_wp2_with (go_at_call 42; refine HC.out.mono ?_; rintro e w3 ⟨rfl, hb3⟩)
            case roundEnd => exact ⟨⟨q + 1, by omega, by go_num, hbq.out.trans (hb3.mono hbq.out.size), HTK.out⟩, by simp [intOf]; omega⟩
        · have i1 : ¬ (q : Int) < (rs.length : Int) := by omega
          have HX := Lib.hid (show t.has k = false from by
            have h1 := hnone.out
            rw [List.take_of_length_le (by have := HLK.out; omega)] at h1
            rw [HHS.out, h1])
          have hbw : Below w.heap.size w wr := HB1.out.trans (hbq.out.mono HB1.out.size)
          clear hnone
          go_wp2
          go_ret
          exact ⟨ret_b HX.out.symm, hbw⟩
set_option maxRecDepth 100000 in
/-- errors.Is of a fault and a sentinel. -/
theorem errorsIs_outer (S : Nat → Prop) (t : Fa.F) (v : Value) (k : Int) (w : World) (h : Holds S w t [v]) (hok : t.ok) :
    Calls Tryd.prog 30 #[frn (frn v), sent k] w fun e w' => e = .returned (.bool (t.has k)) ∧ Below w.heap.size w w' := by
  have HI := Lib.hid (is_outer S t v k w h hok)
  have h8 := @run_callFunc_extern Tryd.prog 41 _ Extern.ReflectliteType.typeOf Tryd.func41 (by kernel_rfl) (by kernel_rfl) (by kernel_rfl) (by kernel_rfl)
  have h32 := @run_callFunc_extern Tryd.prog 108 _ compE Tryd.func108 (by kernel_rfl) (by kernel_rfl) (by kernel_rfl) (by kernel_rfl)
  have tT := typeOfS
  have cT := comparableS
  have mR := mCompR
  unfold sent frn at *
  clear h hok
  go_enter Tryd.func30, Tryd.ntmps30
  go_wp2_with (go_at_call 42; refine HI.out.mono ?_; rintro e w1 ⟨rfl, hb1⟩)
  go_ret
  exact ⟨ret_b rfl, hb1⟩
set_option maxRecDepth 100000 in
theorem has_outer (S : Nat → Prop) (t : Fa.F) (v : Value) (k : Int) (w : World) (h : Holds S w t [v]) (hok : t.ok) :
    Calls Tryd.prog 12 #[frn (frn v), I64 k] w fun e w' => e = .returned (.bool (decide (1 ≤ k) && decide (k < 17) && t.has k)) ∧ Below w.heap.size w w' := by
  by_cases hk : k < 1 ∨ 17 ≤ k
  · have HS := Lib.hid (sentinel_out k w hk)
    have HX := Lib.hid (show (decide (1 ≤ k) && decide (k < 17) && t.has k) = false from by
      rcases hk with h | h
      · rw [decide_eq_false (by omega)]; rfl
      · rw [decide_eq_false (show ¬ k < 17 by omega), Bool.and_false]; rfl)
    unfold frn at *
    clear hk h
    go_enter Tryd.func12, Tryd.ntmps12
    go_wp2_with (go_at_call 5; refine HS.out.mono ?_; rintro e w1 ⟨rfl, rfl⟩)
    go_ret
    exact ⟨ret_b HX.out.symm, Below.refl _ _⟩
  · have HS := Lib.hid (sentinel_in k w (by omega) (by omega))
    have HX := Lib.hid (show (decide (1 ≤ k) && decide (k < 17) && t.has k) = t.has k from by
      rw [decide_eq_true (by omega), decide_eq_true (by omega)]; simp)
    have HI := Lib.hid (errorsIs_outer S t v k w h hok)
    unfold frn at *
    clear hk h
    go_enter Tryd.func12, Tryd.ntmps12
    go_wp2_with (first | (go_at_call 5; refine HS.out.mono ?_; rintro e w1 ⟨rfl, rfl⟩) | (go_at_call 30; refine HI.out.mono ?_; rintro e w2 ⟨rfl, hb2⟩))
    go_ret
    exact ⟨ret_b HX.out.symm, hb2⟩
end Go.Proofs.YtgnhbccmdpkbiaaDoor
