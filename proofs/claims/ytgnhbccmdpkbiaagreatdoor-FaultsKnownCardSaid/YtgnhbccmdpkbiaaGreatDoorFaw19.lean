/-
  Walks for layer 3 (faults): fresh, link, Example of the statements.
-/
import Derived.Test.YtgnhbccmdpkbiaaGreatDoorFaw18
import Derived.Test.YtgnhbccmdpkbiaaGreatDoorFaw9
import Derived.Test.YtgnhbccmdpkbiaaGreatDoorFaw17
import Derived.Laws.ResultCell
namespace Go.Proofs.YtgnhbccmdpkbiaaGreatDoor
open Go.RowKit

def nAttempt : ByteArray := ⟨#[97, 116, 116, 101, 109, 112, 116]⟩
def nRead : ByteArray := ⟨#[114, 101, 97, 100]⟩
def nDial : ByteArray := ⟨#[100, 105, 97, 108]⟩
def exL : List Fa.Node := [⟨0, 2, Fa.Link.zero⟩, ⟨1, 0, ⟨9, nAttempt, 1, 0⟩⟩, ⟨2, 0, ⟨8, nRead, -1, 7⟩⟩, ⟨1, 0, ⟨7, nDial, 2, 0⟩⟩]
def exT : Fa.F := .join (.link ⟨9, nAttempt, 1, 0⟩ (.link ⟨8, nRead, -1, 7⟩ .nil .nil) (.link ⟨7, nDial, 2, 0⟩ .nil .nil)) .nil
theorem ex_build : Fa.build exL = (0, exT) := by kernel_rfl
theorem ex_chain : exT.chain 0 = exL := by kernel_rfl
theorem ex_root : exT.root = ⟨8, nRead, -1, 7⟩ := by kernel_rfl
theorem ex_txt : exT.txt = [40, 97, 116, 116, 101, 109, 112, 116, 32, 111, 110, 32, 49, 58, 32, 116, 114, 117, 110, 99, 97, 116, 101, 100, 59, 32, 114, 101, 97, 100, 32, 111, 118, 101, 114, 32, 55, 58, 32, 114, 101, 115, 101, 116, 32, 38, 32, 100, 105, 97, 108, 32, 111, 110, 32, 50, 58, 32, 114, 101, 102, 117, 115, 101, 100, 41] := by kernel_rfl
theorem ex_has8 : exT.has 8 = true := by kernel_rfl
theorem ex_has4 : exT.has 4 = false := by kernel_rfl
theorem ex_ok : exT.ok := by
  refine ⟨by decide, by decide, ⟨by decide, by decide, ⟨by decide, by decide, trivial, trivial⟩, ⟨by decide, by decide, trivial, trivial⟩⟩, trivial⟩
theorem results_cell1 {fn : Func} {p : Tmp} {ty : TypeId} (h : fn.results = #[.cell p ty]) (tmps : Array Value) (P : Program) (w : World) :
    (results fn tmps).run P w = ((asAddr (tmps.getD p undef)).run P w).andThen fun a w₁ => (loadVar ty a).run P w₁ := by
  simp only [results, h]
  simp [Sem.run_bind, Result.andThen]
set_option maxRecDepth 100000 in
theorem link_any (s : ByteArray) (bk cn k : Int) (w : World) : Calls Tryz.prog 35 #[.string s, I64 bk, I64 cn, I64 k] w fun e w' => e = .returned (.agg #[I64 k, .string s, I64 bk, I64 cn]) ∧ Below w.heap.size w w' := by
  have hb0 := Lib.hid ((Below.refl w.heap.size w).alloc (Nat.le_refl _) (.cells #[I64 k, .string s, I64 bk, I64 cn] 34))
  go_enter Tryz.func35, Tryz.ntmps35
  go_wp2
  refine bodyPost_ret (v := .agg #[I64 k, .string s, I64 bk, I64 cn]) (by rw [results_cell1 rfl]; go_simp) rfl ?_
  exact ⟨rfl, hb0.out⟩
theorem own_free {T : TypeId} {B g c m : Nat} {w : World} {rs : List Ref} (h : OwnL T 1 encE w B (.slice (some ⟨g, 0, none⟩) m c) rs) : w.frozen? ⟨g, 0, none⟩ = false := by
  rcases h.2 with ⟨hn, _⟩ | ⟨g', cap, cur, hv, hbg, hg, _⟩
  · cases hn
  · cases hv
    exact blk_free hg 0
def ExPost (w : World) (e : Ending) (w' : World) : Prop := ∃ g, e = .returned (.slice (some ⟨g, 0, none⟩) 4 4) ∧ NodesIn w' (.slice (some ⟨g, 0, none⟩) 4 4) exL ∧ Below w.heap.size w w'
theorem ex_reads (w : World) : NodesIn (w.alloc (.cells #[I64 0, I64 2, I64 0, .string ⟨#[]⟩, I64 0, I64 0, I64 1, I64 0, I64 9, .string nAttempt, I64 1, I64 0, I64 2, I64 0, I64 8, .string nRead, I64 (-1), I64 7, I64 1, I64 0, I64 7, .string nDial, I64 2, I64 0] 52)) (.slice (some ⟨w.heap.size, 0, none⟩) 4 4) exL := by
  refine ⟨.inr ⟨w.heap.size, 0, 4, rfl, by simp, fun j hj i u hu => ?_⟩, _, _, rfl, Nat.le_refl _⟩
  rw [World.cell?_alloc_at _ _ _ _ rfl]
  have hj4 : j < 4 := hj
  match j, hj4 with
  | 0, _ | 1, _ | 2, _ | 3, _ =>
    match i, hu with
    | 0, hu | 1, hu | 2, hu | 3, hu | 4, hu | 5, hu => simp [exL, encNode, Fa.Link.zero] at hu; subst hu; rfl
set_option maxHeartbeats 2000000 in
set_option maxRecDepth 100000 in
theorem example_any (w : World) : Calls Tryz.prog 34 #[] w (ExPost w) := by
  have HR := Lib.hid ex_reads
  unfold nAttempt nRead nDial at HR
  go_enter Tryz.func34, Tryz.ntmps34
  go_wp2_with fail
  refine (link_any _ _ _ _ _).mono ?_
  rintro e w1 ⟨rfl, hb1⟩
  go_wp2_with fail
  refine (link_any _ _ _ _ _).mono ?_
  rintro e w2 ⟨rfl, hb2⟩
  go_wp2_with fail
  refine (link_any _ _ _ _ _).mono ?_
  rintro e w3 ⟨rfl, hb3⟩
  go_wp2
  go_ret
  have hb := (hb1.trans (hb2.mono hb1.size)).trans (hb3.mono (hb1.trans (hb2.mono hb1.size)).size)
  exact ⟨_, rfl, HR.out w3, hb.alloc hb.size _⟩

set_option maxHeartbeats 2000000 in
set_option maxRecDepth 100000 in
/-- fresh at a join of two. -/
theorem fresh_any (k : Fa.F) (v : Value) (w : World) (h : Holds (fun _ => True) w (.join k .nil) [v]) (hk : k.len = 2) (hE : EnvF w) : Calls Tryz.prog 38 #[v] w fun e w' => e = .returned (.bool true) ∧ Below w.heap.size w w' := by
  rcases h.one with ⟨x, c, b, cv, cs, e, _⟩ | ⟨k', b, g, o, cap, ks, e, rfl, hbS, h2, ⟨hg, hgl, h3⟩, h4⟩
  · cases e
  injection e with e _
  subst e
  obtain ⟨rs, hrs⟩ := h4.refs
  subst hrs
  have hl2 : rs.length = 2 := by
    have := h4.len
    rw [List.length_map, hk] at this
    exact this
  obtain ⟨r0, r1, rfl⟩ : ∃ r0 r1, rs = [r0, r1] := by
    match rs, hl2 with
    | [r0, r1], _ => exact ⟨r0, r1, rfl⟩
  have hb0 : Below w.heap.size w (w.alloc (.cells #[.pointer none] 89)) := (Below.refl _ _).alloc (Nat.le_refl _) _
  have HA := Lib.hid (asJ_any b (w.alloc (.cells #[.pointer none] 89)) w.heap.size (.pointer none) (blk_new _ _) (hE.below hb0).et)
  have HEr : Hid (ErrsAt w g o [r0, r1]) := ⟨hgl, fun i hi => h3 i _ (by rw [List.getElem?_map, List.getElem?_eq_getElem hi]; rfl)⟩
  have H2 := Lib.hid h2
  have HB0 := Lib.hid hb0
  have HU : Hid (∀ w1, Below w.heap.size w w1 → Calls Tryz.prog 59 #[.pointer (some ⟨b, 0, none⟩)] w1 fun e w' => ∃ g' c', e = .returned (.slice (some ⟨g', 0, none⟩) 2 c') ∧ OwnL 26 1 encE w' w1.heap.size (.slice (some ⟨g', 0, none⟩) 2 c') [r0, r1] ∧ Below w1.heap.size w1 w') := fun w1 hb =>
    join_unwrap b g o cap _ _ [r0, r1] w1 ((hb.block b (lt_of_block H2.out)).trans H2.out) (HEr.out.below hb) (by simp) (by simp)
  clear h h2 h3 h4 hE hb0 hl2
  unfold joinPtr at HA ⊢
  go_enter Tryz.func38, Tryz.ntmps38
  go_wp2_with fail
  refine HA.out.mono ?_
  rintro e w1 ⟨rfl, hg1, hx1⟩
  have HB1 := Lib.hid (HB0.out.grown hg1 (by simp) (fun k hk => by injection hk with hk; omega))
  have c1 := blk_cell hx1 0
  simp only [List.getElem?_toArray, List.getElem?_cons_zero] at c1
  have HX1 := Lib.hid hx1
  clear hg1 hx1
  go_wp2_with fail
  refine (HU.out _ HB1.out).mono ?_
  rintro e w2 ⟨g2, c2, rfl, hown2, hb2⟩
  have HB2 := Lib.hid (HB1.out.trans (hb2.mono HB1.out.size))
  have e0 := own_errs hown2 0 (by simp)
  have f0 := own_free hown2
  have x2 := (hb2.cell (p := ⟨w.heap.size, 0, none⟩) (lt_of_block HX1.out)).trans c1
  have hlt1 := lt_of_block HX1.out
  have hlt2 := (hown2.lt g2 rfl).1
  have hg2 : w.heap.size ≤ g2 := by omega
  have hne2 : w.heap.size ≠ g2 := by omega
  clear hown2 hb2 hlt2
  go_wp2_with fail
  refine (HU.out _ (HB2.out.setCell (p := ⟨g2, 0, none⟩) hg2 _)).mono ?_
  rintro e w3 ⟨g3, c3, rfl, hown3, hb3⟩
  have e3 := own_errs hown3 0 (by simp)
  obtain ⟨ty, pv, hty⟩ := valE_iface r0
  simp only [List.getElem_cons_zero] at e3
  rw [hty] at e3
  have HB3 := Lib.hid ((HB2.out.setCell (p := ⟨g2, 0, none⟩) hg2 .nilIface).trans (hb3.mono (HB2.out.setCell (p := ⟨g2, 0, none⟩) hg2 .nilIface).size))
  clear hown3 hb3 hty
  go_wp2
  go_ret
  exact ⟨rfl, HB3.out⟩
end Go.Proofs.YtgnhbccmdpkbiaaGreatDoor
