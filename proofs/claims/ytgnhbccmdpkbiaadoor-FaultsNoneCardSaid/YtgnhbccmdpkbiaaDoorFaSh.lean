/-
  Walks for layer 3 (faults): errors.As at a **Joined.
-/
import Derived.Test.YtgnhbccmdpkbiaaDoorFaAs
import Derived.Test.YtgnhbccmdpkbiaaDoorFaw9
import Derived.Test.YtgnhbccmdpkbiaaDoorFaTx
import Derived.Laws.ResultCell
import Derived.Deep.RegionHeld3
namespace Go.Proofs.YtgnhbccmdpkbiaaDoor
open Go.RowKit Go.Extern.Stop Go.Stop Go.Extern

set_option maxHeartbeats 4000000 in
set_option maxRecDepth 100000 in
theorem as_hitJ (b tb tv : Nat) (old : Value) (w : World) (ht : w.heap[tb]? = some (.cells #[old] 36 (0, 0))) (hv : w.cell? ⟨tv, 0, none⟩ = some (.pointer (some ⟨tb, 0, none⟩))) :
    Calls Tryd.prog 35 #[joinPtr b, .iface 82 (.pointer (some ⟨tb, 0, none⟩)), .agg #[.pointer (some ⟨8, 82, none⟩), .pointer (some ⟨tv, 0, none⟩), .int .u64 150], .iface 107 (.agg #[.pointer (some ⟨8, 36, none⟩)])] w
      fun e w' => e = .returned (.bool true) ∧ w' = ((w.alloc (.cells #[.pointer (some ⟨8, 82, none⟩), .pointer (some ⟨tv, 0, none⟩), .int .u64 150] 86)).alloc (.cells #[.pointer (some ⟨b, 0, none⟩)] 36)).setCell ⟨tb, 0, none⟩ (.pointer (some ⟨b, 0, none⟩)) := by
  have h6 := @run_callFunc_extern Tryd.prog 32 _ (fun args => ReflectliteValue.unpack (args.getD 0 (.tuple #[]))) Tryd.func32 (by kernel_rfl) (by kernel_rfl) (by kernel_rfl) (by kernel_rfl)
  have h10 := @run_callFunc_extern Tryd.prog 41 _ ReflectliteType.typeOf Tryd.func41 (by kernel_rfl) (by kernel_rfl) (by kernel_rfl) (by kernel_rfl)
  have h35 := @run_callFunc_extern Tryd.prog 107 _ (ReflectliteType.relation "AssignableTo" ReflectliteType.assignableTo) Tryd.func107 (by kernel_rfl) (by kernel_rfl) (by kernel_rfl) (by kernel_rfl)
  have h11 := @run_callFunc_extern Tryd.prog 44 _ (ReflectliteValue.method (ReflectliteValue.valueError "reflectlite.Value.Elem" 0) ReflectliteValue.elem) Tryd.func44 (by kernel_rfl) (by kernel_rfl) (by kernel_rfl) (by kernel_rfl)
  have h12 := @run_callFunc_extern Tryd.prog 45 _ ReflectliteValue.set Tryd.func45 (by kernel_rfl) (by kernel_rfl) (by kernel_rfl) (by kernel_rfl)
  have tO := jn_typeOfP
  have mA := mAssA
  have a25 := jn_assignableP
  have v25 := jn_valueOfP
  have htl := lt_of_block ht
  have hvl := cell_lt hv
  have el := jn_elemVT ⟨tv, 0, none⟩ ⟨tb, 0, none⟩ (w.alloc (.cells #[.pointer (some ⟨8, 82, none⟩), .pointer (some ⟨tv, 0, none⟩), .int .u64 150] 86)) (by rw [World.cell?_alloc_lt _ _ ⟨tv, 0, none⟩ hvl]; exact hv)
  have st := jn_setP ⟨tb, 0, none⟩ ⟨w.heap.size + 1, 0, none⟩ ⟨b, 0, none⟩ old ((w.alloc (.cells #[.pointer (some ⟨8, 82, none⟩), .pointer (some ⟨tv, 0, none⟩), .int .u64 150] 86)).alloc (.cells #[.pointer (some ⟨b, 0, none⟩)] 36))
    (by rw [World.cell?_alloc_at _ _ _ _ (by simp)]; rfl)
    (by rw [World.cell?_alloc_lt _ _ ⟨tb, 0, none⟩ (by simp; omega), World.cell?_alloc_lt _ _ ⟨tb, 0, none⟩ htl]; exact blk_cell ht 0)
    (by rw [World.frozen?_alloc_old _ _ ⟨tb, 0, none⟩ (by simp; omega), World.frozen?_alloc_old _ _ ⟨tb, 0, none⟩ (Nat.ne_of_lt htl)]; exact blk_free ht 0)
  unfold joinPtr
  clear ht hv htl hvl
  go_enter Tryd.func35, Tryd.ntmps35
  go_wp2
  refine wp_loop_rounds 1 ?_
  rw [rounds_succ]
  go_wp2
  go_ret
  exact ⟨rfl, rfl⟩
set_option maxHeartbeats 4000000 in
set_option maxRecDepth 100000 in
/-- errors.As of a fault at a **Link. -/
theorem asJ_any (b : Nat) (w : World) (tb : Nat) (old : Value) (ht : w.heap[tb]? = some (.cells #[old] 36 (0, 0))) (hE : ErrT w) :
    Calls Tryd.prog 26 #[joinPtr b, .iface 82 (.pointer (some ⟨tb, 0, none⟩))] w fun e w' => e = .returned (.bool true) ∧ w.grownBy w' (some tb) ∧ w'.heap[tb]? = some (.cells #[.pointer (some ⟨b, 0, none⟩)] 36 (0, 0)) := by
  have htl := lt_of_block ht
  have hb0 : Below w.heap.size w ((w.alloc (.cells #[.pointer (some ⟨tb, 0, none⟩)] 82)).alloc (.cells #[.pointer (some ⟨8, 82, none⟩), .pointer (some ⟨w.heap.size, 0, none⟩), .int .u64 150] 86)) := ((Below.refl _ _).alloc (Nat.le_refl _) _).alloc (by simp) _
  have HB0 := Lib.hid hb0
  have HT := Lib.hid ht
  have HAS := Lib.hid (as_hitJ b tb w.heap.size old _ ((hb0.block tb htl).trans ht) (by rw [World.cell?_alloc_lt _ _ ⟨w.heap.size, 0, none⟩ (by simp), World.cell?_alloc_at _ _ _ _ rfl]; rfl))
  have h6 := @run_callFunc_extern Tryd.prog 32 _ (fun args => ReflectliteValue.unpack (args.getD 0 (.tuple #[]))) Tryd.func32 (by kernel_rfl) (by kernel_rfl) (by kernel_rfl) (by kernel_rfl)
  have h7 := @run_callFunc_extern Tryd.prog 33 _ (ReflectliteValue.methodAny (ReflectliteValue.valueError "reflectlite.Value.Type" 0) (fun t _ _ _ => ReflectliteType.toType t)) Tryd.func33 (by kernel_rfl) (by kernel_rfl) (by kernel_rfl) (by kernel_rfl)
  have h8 := @run_callFunc_extern Tryd.prog 34 _ (ReflectliteValue.method (ReflectliteValue.valueError "reflectlite.Value.IsNil" 0) ReflectliteValue.isNil) Tryd.func34 (by kernel_rfl) (by kernel_rfl) (by kernel_rfl) (by kernel_rfl)
  have h27 := @run_callFunc_extern Tryd.prog 96 _ kindE Tryd.func96 (by kernel_rfl) (by kernel_rfl) (by kernel_rfl) (by kernel_rfl)
  have h37 := @run_callFunc_extern Tryd.prog 109 _ (ReflectliteType.method ReflectliteType.elem) Tryd.func109 (by kernel_rfl) (by kernel_rfl) (by kernel_rfl) (by kernel_rfl)
  have h38 := @run_callFunc_extern Tryd.prog 110 _ (ReflectliteType.relation "Implements" ReflectliteType.implements_) Tryd.func110 (by kernel_rfl) (by kernel_rfl) (by kernel_rfl) (by kernel_rfl)
  have f6 := jn_valueOfT
  have f7 := jn_typeT
  have mK := mKindA
  have mE := mElemA
  have mI := mImplA
  have k27 := jn_kindT
  have k25 := jn_kindP
  have e27 := jn_elemT
  have i25 := jn_implementsP
  have n8 := jn_isNilT ⟨w.heap.size, 0, none⟩ ⟨tb, 0, none⟩ ((w.alloc (.cells #[.pointer (some ⟨tb, 0, none⟩)] 82)).alloc (.cells #[.pointer (some ⟨8, 82, none⟩), .pointer (some ⟨w.heap.size, 0, none⟩), .int .u64 150] 86)) (by rw [World.cell?_alloc_lt _ _ ⟨w.heap.size, 0, none⟩ (by simp), World.cell?_alloc_at _ _ _ _ rfl]; rfl)
  have hg2 : ((w.alloc (.cells #[.pointer (some ⟨tb, 0, none⟩)] 82)).alloc (.cells #[.pointer (some ⟨8, 82, none⟩), .pointer (some ⟨w.heap.size, 0, none⟩), .int .u64 150] 86)).cell? ⟨0, 0, none⟩ = some (.iface 107 (.agg #[.pointer (some ⟨8, 28, none⟩)])) := hE.below hb0
  unfold joinPtr at HAS ⊢
  have HTL := Lib.hid htl
  clear ht hE hb0 htl
  go_enter Tryd.func26, Tryd.ntmps26
  go_wp2_with (go_at_call 35; refine HAS.out.mono ?_; rintro e w3 ⟨rfl, _⟩)
  go_ret
  have hb1 := ((HB0.out.alloc HB0.out.size (.cells #[.pointer (some ⟨8, 82, none⟩), .pointer (some ⟨w.heap.size, 0, none⟩), .int .u64 150] 86)).alloc (by simp; omega) (.cells #[.pointer (some ⟨b, 0, none⟩)] 36))
  exact ⟨rfl, gb_trans (gb_below hb1) (gb_set _ _ _ _), blk_set ((hb1.block tb HTL.out).trans HT.out) 0 _⟩
end Go.Proofs.YtgnhbccmdpkbiaaDoor
namespace Go.Proofs.YtgnhbccmdpkbiaaDoor
open Go.RowKit

def nAttempt : ByteArray := ⟨#[97, 116, 116, 101, 109, 112, 116]⟩
def nRead : ByteArray := ⟨#[114, 101, 97, 100]⟩
def nDial : ByteArray := ⟨#[100, 105, 97, 108]⟩
def exL : List Fa.Node := [⟨0, 2, Fa.Link.zero⟩, ⟨1, 0, ⟨9, nAttempt, 1, 0⟩⟩, ⟨2, 0, ⟨8, nRead, -1, 7⟩⟩, ⟨1, 0, ⟨7, nDial, 2, 0⟩⟩]
def exT : Fa.F := .join (.link ⟨9, nAttempt, 1, 0⟩ (.link ⟨8, nRead, -1, 7⟩ .nil .nil) (.link ⟨7, nDial, 2, 0⟩ .nil .nil)) .nil
theorem ex_build : Fa.build exL = (0, exT) := by kernel_rfl
theorem ex_chain : exT.chain 0 = exL := by kernel_rfl
theorem ex_root : exT.root = ⟨8, nRead, -1, 7⟩ := by kernel_rfl
theorem ex_txt : exT.txt = [40, 97, 116, 116, 101, 109, 112, 116, 32, 111, 110, 32, 49, 58, 32, 116, 114, 117, 110, 99, 97, 116, 101, 100, 59, 32, 114, 101, 97, 100, 32, 111, 118, 101, 114, 32, 55, 58, 32, 114, 101, 115, 101, 116, 32, 38, 32, 100, 105, 97, 108, 32, 111, 110, 32, 50, 58, 32, 114, 101, 102, 117, 115, 101, 100, 41] := by kernel_rfl
theorem ex_has8 : exT.has 8 = true := by kernel_rfl
theorem ex_has4 : exT.has 4 = false := by kernel_rfl
theorem ex_ok : exT.ok := by
  refine ⟨by decide, by decide, ⟨by decide, by decide, ⟨by decide, by decide, trivial, trivial⟩, ⟨by decide, by decide, trivial, trivial⟩⟩, trivial⟩
theorem results_cell1 {fn : Func} {p : Tmp} {ty : TypeId} (h : fn.results = #[.cell p ty]) (tmps : Array Value) (P : Program) (w : World) :
    (results fn tmps).run P w = ((asAddr (tmps.getD p undef)).run P w).andThen fun a w₁ => (loadVar ty a).run P w₁ := by
  simp only [results, h]
  simp [Sem.run_bind, Result.andThen]
set_option maxRecDepth 100000 in
theorem link_any (s : ByteArray) (bk cn k : Int) (w : World) : Calls Tryd.prog 22 #[.string s, I64 bk, I64 cn, I64 k] w fun e w' => e = .returned (.agg #[I64 k, .string s, I64 bk, I64 cn]) ∧ Below w.heap.size w w' := by
  have hb0 := Lib.hid ((Below.refl w.heap.size w).alloc (Nat.le_refl _) (.cells #[I64 k, .string s, I64 bk, I64 cn] 24))
  go_enter Tryd.func22, Tryd.ntmps22
  go_wp2
  refine bodyPost_ret (v := .agg #[I64 k, .string s, I64 bk, I64 cn]) (by rw [results_cell1 rfl]; go_simp) rfl ?_
  exact ⟨rfl, hb0.out⟩
theorem own_free {T : TypeId} {B g c m : Nat} {w : World} {rs : List Ref} (h : OwnL T 1 encE w B (.slice (some ⟨g, 0, none⟩) m c) rs) : w.frozen? ⟨g, 0, none⟩ = false := by
  rcases h.2 with ⟨hn, _⟩ | ⟨g', cap, cur, hv, hbg, hg, _⟩
  · cases hn
  · cases hv
    exact blk_free hg 0
def ExPost (w : World) (e : Ending) (w' : World) : Prop := ∃ g, e = .returned (.slice (some ⟨g, 0, none⟩) 4 4) ∧ NodesIn w' (.slice (some ⟨g, 0, none⟩) 4 4) exL ∧ Below w.heap.size w w'
theorem ex_reads (w : World) : NodesIn (w.alloc (.cells #[I64 0, I64 2, I64 0, .string ⟨#[]⟩, I64 0, I64 0, I64 1, I64 0, I64 9, .string nAttempt, I64 1, I64 0, I64 2, I64 0, I64 8, .string nRead, I64 (-1), I64 7, I64 1, I64 0, I64 7, .string nDial, I64 2, I64 0] 67)) (.slice (some ⟨w.heap.size, 0, none⟩) 4 4) exL := by
  refine ⟨.inr ⟨w.heap.size, 0, 4, rfl, by simp, fun j hj i u hu => ?_⟩, _, _, rfl, Nat.le_refl _⟩
  rw [World.cell?_alloc_at _ _ _ _ rfl]
  have hj4 : j < 4 := hj
  match j, hj4 with
  | 0, _ | 1, _ | 2, _ | 3, _ =>
    match i, hu with
    | 0, hu | 1, hu | 2, hu | 3, hu | 4, hu | 5, hu => simp [exL, encNode, Fa.Link.zero] at hu; subst hu; rfl
set_option maxHeartbeats 2000000 in
set_option maxRecDepth 100000 in
theorem example_any (w : World) : Calls Tryd.prog 20 #[] w (ExPost w) := by
  have HR := Lib.hid ex_reads
  unfold nAttempt nRead nDial at HR
  go_enter Tryd.func20, Tryd.ntmps20
  go_wp2_with fail
  refine (link_any _ _ _ _ _).mono ?_
  rintro e w1 ⟨rfl, hb1⟩
  go_wp2_with fail
  refine (link_any _ _ _ _ _).mono ?_
  rintro e w2 ⟨rfl, hb2⟩
  go_wp2_with fail
  refine (link_any _ _ _ _ _).mono ?_
  rintro e w3 ⟨rfl, hb3⟩
  go_wp2
  go_ret
  have hb := (hb1.trans (hb2.mono hb1.size)).trans (hb3.mono (hb1.trans (hb2.mono hb1.size)).size)
  exact ⟨_, rfl, HR.out w3, hb.alloc hb.size _⟩

set_option maxHeartbeats 2000000 in
set_option maxRecDepth 100000 in
/-- fresh at a join of two. -/
theorem fresh_any (k : Fa.F) (v : Value) (w : World) (h : Holds (fun _ => True) w (.join k .nil) [v]) (hk : k.len = 2) (hE : EnvF w) : Calls Tryd.prog 23 #[v] w fun e w' => e = .returned (.bool true) ∧ Below w.heap.size w w' := by
  rcases h.one with ⟨x, c, b, cv, cs, e, _⟩ | ⟨k', b, g, o, cap, ks, e, rfl, hbS, h2, ⟨hg, hgl, h3⟩, h4⟩
  · cases e
  injection e with e _
  subst e
  obtain ⟨rs, hrs⟩ := h4.refs
  subst hrs
  have hl2 : rs.length = 2 := by
    have := h4.len
    rw [List.length_map, hk] at this
    exact this
  obtain ⟨r0, r1, rfl⟩ : ∃ r0 r1, rs = [r0, r1] := by
    match rs, hl2 with
    | [r0, r1], _ => exact ⟨r0, r1, rfl⟩
  have hb0 : Below w.heap.size w (w.alloc (.cells #[.pointer none] 36)) := (Below.refl _ _).alloc (Nat.le_refl _) _
  have HA := Lib.hid (asJ_any b (w.alloc (.cells #[.pointer none] 36)) w.heap.size (.pointer none) (blk_new _ _) (hE.below hb0).et)
  have HEr : Hid (ErrsAt w g o [r0, r1]) := ⟨hgl, fun i hi => h3 i _ (by rw [List.getElem?_map, List.getElem?_eq_getElem hi]; rfl)⟩
  have H2 := Lib.hid h2
  have HB0 := Lib.hid hb0
  have HU : Hid (∀ w1, Below w.heap.size w w1 → Calls Tryd.prog 18 #[.pointer (some ⟨b, 0, none⟩)] w1 fun e w' => ∃ g' c', e = .returned (.slice (some ⟨g', 0, none⟩) 2 c') ∧ OwnL 28 1 encE w' w1.heap.size (.slice (some ⟨g', 0, none⟩) 2 c') [r0, r1] ∧ Below w1.heap.size w1 w') := fun w1 hb =>
    join_unwrap b g o cap _ _ [r0, r1] w1 ((hb.block b (lt_of_block H2.out)).trans H2.out) (HEr.out.below hb) (by simp) (by simp)
  clear h h2 h3 h4 hE hb0 hl2
  unfold joinPtr at HA ⊢
  go_enter Tryd.func23, Tryd.ntmps23
  go_wp2_with fail
  refine HA.out.mono ?_
  rintro e w1 ⟨rfl, hg1, hx1⟩
  have HB1 := Lib.hid (HB0.out.grown hg1 (by simp) (fun k hk => by injection hk with hk; omega))
  have c1 := blk_cell hx1 0
  simp only [List.getElem?_toArray, List.getElem?_cons_zero] at c1
  have HX1 := Lib.hid hx1
  clear hg1 hx1
  go_wp2_with fail
  refine (HU.out _ HB1.out).mono ?_
  rintro e w2 ⟨g2, c2, rfl, hown2, hb2⟩
  have HB2 := Lib.hid (HB1.out.trans (hb2.mono HB1.out.size))
  have e0 := own_errs hown2 0 (by simp)
  have f0 := own_free hown2
  have x2 := (hb2.cell (p := ⟨w.heap.size, 0, none⟩) (lt_of_block HX1.out)).trans c1
  have hlt1 := lt_of_block HX1.out
  have hlt2 := (hown2.lt g2 rfl).1
  have hg2 : w.heap.size ≤ g2 := by omega
  have hne2 : w.heap.size ≠ g2 := by omega
  clear hown2 hb2 hlt2
  go_wp2_with fail
  refine (HU.out _ (HB2.out.setCell (p := ⟨g2, 0, none⟩) hg2 _)).mono ?_
  rintro e w3 ⟨g3, c3, rfl, hown3, hb3⟩
  have e3 := own_errs hown3 0 (by simp)
  obtain ⟨ty, pv, hty⟩ := valE_iface r0
  simp only [List.getElem_cons_zero] at e3
  rw [hty] at e3
  have HB3 := Lib.hid ((HB2.out.setCell (p := ⟨g2, 0, none⟩) hg2 .nilIface).trans (hb3.mono (HB2.out.setCell (p := ⟨g2, 0, none⟩) hg2 .nilIface).size))
  clear hown3 hb3 hty
  go_wp2
  go_ret
  exact ⟨rfl, HB3.out⟩
end Go.Proofs.YtgnhbccmdpkbiaaDoor
namespace Go.Proofs.YtgnhbccmdpkbiaaDoor
open Go.RowKit Go.Shelf

theorem ex_fit : ∀ x ∈ exL, x.link.op.size ≤ maxLen := by
  intro x hx
  simp only [exL, List.mem_cons, List.not_mem_nil, or_false] at hx
  rcases hx with rfl | rfl | rfl | rfl <;> decide
theorem sBuild (g : Nat) (w : World) (h : NodesIn w (.slice (some ⟨g, 0, none⟩) 4 4) exL) : Calls Tryd.prog 19 #[.slice (some ⟨g, 0, none⟩) 4 4] w fun e w' => ∃ rf, e = .returned (.tuple #[valE rf, I64 0]) ∧ Holds (fun _ => True) w' exT [valE rf] ∧ Below w.heap.size w w' := by
  refine (build_any _ exL w h (by decide) ex_fit).mono ?_
  rintro e w' ⟨_, h2, h3⟩
  rw [ex_build] at h2
  obtain ⟨rf, e1, e2⟩ := h2 rfl
  exact ⟨rf, e1, e2.mono (fun _ _ _ => trivial), h3⟩
/-- The text that shown asks for. -/
def exS : List UInt8 := [40, 97, 116, 116, 101, 109, 112, 116, 32, 111, 110, 32, 49, 58, 32, 116, 114, 117, 110, 99, 97, 116, 101, 100, 59, 32, 114, 101, 97, 100, 32, 111, 118, 101, 114, 32, 55, 58, 32, 114, 101, 115, 101, 116, 32, 38, 32, 100, 105, 97, 108, 32, 111, 110, 32, 50, 58, 32, 114, 101, 102, 117, 115, 101, 100, 41]
theorem sh_step {W w w' : World} {RB : Nat} {a b c d : Value} (hb : Below w.heap.size w w') (h : w.cell? ⟨RB, 0, none⟩ = some a ∧ w.cell? ⟨RB, 1, none⟩ = some b ∧ w.cell? ⟨RB, 2, none⟩ = some c ∧ w.cell? ⟨RB, 3, none⟩ = some d ∧ Below W.heap.size W w) :
    w'.cell? ⟨RB, 0, none⟩ = some a ∧ w'.cell? ⟨RB, 1, none⟩ = some b ∧ w'.cell? ⟨RB, 2, none⟩ = some c ∧ w'.cell? ⟨RB, 3, none⟩ = some d ∧ Below W.heap.size W w' := by
  obtain ⟨h0, h1, h2, h3, h4⟩ := h
  have hl := cell_lt h0
  exact ⟨(hb.cell (p := ⟨RB, _, none⟩) hl).trans h0, (hb.cell (p := ⟨RB, _, none⟩) hl).trans h1, (hb.cell (p := ⟨RB, _, none⟩) hl).trans h2, (hb.cell (p := ⟨RB, _, none⟩) hl).trans h3, h4.trans (hb.mono h4.size)⟩
theorem sh_below {W w : World} {RB : Nat} {a b c d : Value} (h : w.cell? ⟨RB, 0, none⟩ = some a ∧ w.cell? ⟨RB, 1, none⟩ = some b ∧ w.cell? ⟨RB, 2, none⟩ = some c ∧ w.cell? ⟨RB, 3, none⟩ = some d ∧ Below W.heap.size W w) : Below W.heap.size W w := h.2.2.2.2
set_option maxHeartbeats 4000000 in
set_option maxRecDepth 100000 in
theorem shown_any (w : World) (hE : EnvF w) : Calls Tryd.prog 4 #[] w fun e w' => e = .returned (.bool true) ∧ Below w.heap.size w w' := by
  have HE := Lib.hid hE
  clear hE
  go_enter Tryd.func4, Tryd.ntmps4
  go_wp2_with fail
  refine (example_any _).mono ?_
  rintro e w1 ⟨g, rfl, hn1, hb1⟩
  go_wp2_with fail
  refine (sBuild g w1 hn1).mono ?_
  rintro e w2 ⟨rf, rfl, hh2, hx⟩
  have hb2 := hb1.trans (hx.mono hb1.size)
  obtain ⟨ty, pv, hty⟩ := valE_iface rf
  rw [hty] at hh2 ⊢
  clear hx hn1 hb1 hty
  have HT := Lib.hid (text_any exT _ w2 hh2 ex_ok (by rw [ex_txt]; decide) (HE.out.below hb2))
  go_wp2_with fail
  refine HT.out.mono ?_
  rintro e w3 ⟨rfl, hx⟩
  have hh3 := hh2.below hx
  have hb3 := hb2.trans (hx.mono hb2.size)
  clear hx hh2 hb2 HT
  rw [ex_txt]
  have HC := Lib.hid (chain_any _ exT _ w3 hh3 ex_ok (by decide))
  go_wp2_with fail
  refine HC.out.mono ?_
  rintro e w4 ⟨sv, rfl, hown4, hx⟩
  have hh4 := hh3.below hx
  have hb4 := hb3.trans (hx.mono hb3.size)
  rw [ex_chain] at hown4
  have hr4 := hown4.reads encNode_len
  clear hx hh3 hb3 HC hown4
  have HRT := Lib.hid (root_any exT _ w4 hh4 ex_ok (by decide) (HE.out.below hb4).et)
  rw [ex_root] at HRT
  unfold valLink at HRT
  dsimp only at HRT
  unfold nRead at HRT
  go_wp2_with fail
  refine HRT.out.mono ?_
  rintro e w5 ⟨rfl, hx⟩
  have hh5 := hh4.below hx
  have hb5 := hb4.trans (hx.mono hb4.size)
  have hr5 := hr4.below hx
  clear hx hh4 hb4 hr4 HRT
  go_wp2_with fail
  obtain ⟨RB, hRB⟩ : ∃ RB, RB = w5.heap.size := ⟨_, rfl⟩
  have hba : Below w5.heap.size w5 (w5.alloc (.cells #[I64 8, .string ⟨#[114, 101, 97, 100]⟩, I64 (-1), I64 7] 24)) := (Below.refl _ _).alloc (Nat.le_refl _) _
  have hh6 := hh5.below hba
  have hr6 := hr5.below hba
  have hb6 := hb5.trans (hba.mono hb5.size)
  have hcell := blk_new w5 (.cells #[I64 8, .string ⟨#[114, 101, 97, 100]⟩, I64 (-1), I64 7] 24)
  rw [← hRB] at hcell ⊢
  generalize w5.alloc (.cells #[I64 8, .string ⟨#[114, 101, 97, 100]⟩, I64 (-1), I64 7] 24) = W at hh6 hr6 hb6 hcell ⊢
  clear hh5 hr5 hb5 hba hRB
  have r0 := blk_cell hcell 0
  have r1 := blk_cell hcell 1
  have r2 := blk_cell hcell 2
  have r3 := blk_cell hcell 3
  simp only [List.getElem?_toArray, List.getElem?_cons_succ, List.getElem?_cons_zero] at r0 r1 r2 r3
  have hz : ∀ w, (Op.equalIn 10000 24 (.agg #[I64 8, .string ⟨#[114, 101, 97, 100]⟩, I64 (-1), I64 7]) (.agg #[I64 8, .string ⟨#[114, 101, 97, 100]⟩, I64 (-1), I64 7])).run Tryd.prog w = .ok true w := fun w => by
    have := aggL 9998 ⟨8, ⟨#[114, 101, 97, 100]⟩, -1, 7⟩ ⟨8, ⟨#[114, 101, 97, 100]⟩, -1, 7⟩ w
    rw [decide_eq_true rfl] at this
    exact this
  have e1 : Tryd.prog.eqGuardType Tryd.prog.depth 24 = false := by kernel_rfl
  have hz2 : ∀ w, (binOp .eql 24 (.agg #[I64 8, .string ⟨#[114, 101, 97, 100]⟩, I64 (-1), I64 7]) (.agg #[I64 8, .string ⟨#[114, 101, 97, 100]⟩, I64 (-1), I64 7])).run Tryd.prog w = .ok (.bool true) w := fun w => by
    have u := Tryd.underlying24
    go_simp
  have HSA : Hid (∀ w1 v, Below W.heap.size W w1 → NodesIn w1 v exL → Calls Tryd.prog 21 #[sv, v] w1 fun e w' => e = .returned (.bool true) ∧ Below w1.heap.size w1 w') := fun w1 v hb hn => by
    have h := same_any sv v exL exL w1 (hr6.below hb) hn.1 (by decide) (by decide)
    rw [decide_eq_true rfl] at h
    exact h
  have HH : Hid (∀ w1 k, Below W.heap.size W w1 → Calls Tryd.prog 12 #[.iface ty pv, I64 k] w1 fun e w' => e = .returned (.bool (decide (1 ≤ k) && decide (k < 17) && exT.has k)) ∧ Below w1.heap.size w1 w') := fun w1 k hb => has_any _ exT _ k w1 (hh6.below hb) ex_ok
  have H8 := Lib.hid (show (decide ((1 : Int) ≤ 8) && decide ((8 : Int) < 17) && exT.has 8) = true from by rw [ex_has8]; decide)
  have H4 := Lib.hid (show (decide ((1 : Int) ≤ 4) && decide ((4 : Int) < 17) && exT.has 4) = false from by rw [ex_has4]; decide)
  have HFR : Hid (∀ w1, Below W.heap.size W w1 → Calls Tryd.prog 23 #[.iface ty pv] w1 fun e w' => e = .returned (.bool true) ∧ Below w1.heap.size w1 w') := fun w1 hb => fresh_any _ _ w1 (hh6.below hb) (by decide) (HE.out.below (hb6.trans (hb.mono hb6.size)))
  have HB6 := Lib.hid hb6
  clear hh6 hr6 hb6 hcell
  go_region_held3 (fun w' => w'.cell? ⟨RB, 0, none⟩ = some (I64 8) ∧ w'.cell? ⟨RB, 1, none⟩ = some (.string ⟨#[114, 101, 97, 100]⟩) ∧ w'.cell? ⟨RB, 2, none⟩ = some (I64 (-1)) ∧ w'.cell? ⟨RB, 3, none⟩ = some (I64 7) ∧ Below W.heap.size W w') (first | exact ⟨r0, r1, r2, r3, (Below.refl _ _).drew⟩ | exact sh_step (by assumption) (by assumption)) (first | (go_at_call 20; refine (example_any _).mono ?_; rintro e wx ⟨gx, rfl, hnx, hbx⟩) | (go_at_call 21; refine (HSA.out _ _ (sh_below (by assumption)) (by assumption)).mono ?_; rintro e wx ⟨rfl, hbx⟩) | (go_at_call 22; refine (link_any _ _ _ _ _).mono ?_; rintro e wx ⟨rfl, hbx⟩) | (go_at_call 12; refine (HH.out _ _ (sh_below (by assumption))).mono ?_; rintro e wx ⟨rfl, hbx⟩; (first | rw [H8.out] | rw [H4.out])) | (go_at_call 23; refine (HFR.out _ (sh_below (by assumption))).mono ?_; rintro e wx ⟨rfl, hbx⟩))
  go_wp2
  go_ret
  exact ⟨rfl, HB6.out.trans (Below.mono (sh_below (by assumption)) HB6.out.size)⟩
end Go.Proofs.YtgnhbccmdpkbiaaDoor
