/-
  Arguments of the laws of layer 26, opened: lists of limits, lists of acts.
-/
import Derived.Test.YtaicmiadgnpimaaMgs
import Derived.Test.YtaicmiadgnpimaaPost
import Derived.Deep.Slices
import Derived.Deep.DeepHandedRow
import Derived.SizedLaws
namespace Go.Proofs.Ytaicmiadgnpimaa
open Go Go.RowKit Go.ChangeShapes Go.WideShapes Go.Deep

theorem own : ownKnob Try.prog.godebug = none := by kernel_rfl
theorem laidOut : laidOutB Try.prog = true := by kernel_rfl
theorem wf_i64 {n : Int} (h : (Lit.int .i64 n).wf = true) : -9223372036854775808 ≤ n ∧ n ≤ 9223372036854775807 := by
 unfold Lit.wf at h
 simp only [Bool.and_eq_true, decide_eq_true_eq] at h
 exact h
theorem wf_u8 {n : Int} (h : (Lit.int .u8 n).wf = true) : 0 ≤ n ∧ n ≤ 255 := by
 unfold Lit.wf at h
 simp only [Bool.and_eq_true, decide_eq_true_eq] at h
 exact h
theorem pick_list {α : Type} (d : α) (n : Nat) (p : Nat → α → Prop) (h : ∀ i, i < n → ∃ x, p i x) : ∃ l : List α, l.length = n ∧ ∀ j (hj : j < l.length), p j l[j] := by
 refine ⟨(List.range n).map fun i => if hi : i < n then Classical.choose (h i hi) else d, by simp, fun j hj => ?_⟩
 have hj' : j < n := by simpa using hj
 simp only [List.getElem_map, List.getElem_range]
 rw [dif_pos hj']
 exact Classical.choose_spec (h j hj')
/-- A row of structs, from what is known of each. -/
theorem reads_of {α : Type} {n : Nat} {enc : α → List Value} (hl : ∀ x, (enc x).length = n) (hn : 0 < n) {W : World} {a' : Addr} {len cap : Nat} {p : α → Prop} (key : ∀ i, i < len → ∃ x : α, p x ∧ ∀ j u, (enc x)[j]? = some u → W.cell? ((a'.add (i * n)).add j) = some u) :
 ∃ l : List α, ReadsL n enc W (.slice (some a') len cap) l ∧ l.length = len ∧ ∀ x ∈ l, p x := by
 rcases Nat.eq_zero_or_pos len with hz | hpos
 · exact ⟨[], .inl ⟨some a', cap, by rw [hz], rfl⟩, hz.symm, fun x hx => by cases hx⟩
 · obtain ⟨x0, _, h0⟩ := key 0 hpos
   obtain ⟨l, hll, hlp⟩ := pick_list x0 len _ key
   refine ⟨l, ?_, hll, fun x hx => ?_⟩
   · obtain ⟨b, o, spot⟩ := a'
     obtain ⟨u, hu⟩ : ∃ u, (enc x0)[0]? = some u := ⟨(enc x0)[0]'(by rw [hl]; exact hn), List.getElem?_eq_getElem _⟩
     have g0 := h0 0 u hu
     have hspot : spot = none := by simpa [Addr.add] using World.cell?_spot g0
     subst hspot
     have hb : b < W.heap.size := cell_lt (o := o) (v := u) (by simpa [Addr.add] using g0)
     refine .inr ⟨b, o, cap, by rw [hll], hb, fun j hj i v hv => ?_⟩
     have q := (hlp j hj).2 i v hv
     have e : (⟨b, o, none⟩ : Addr).add (j * n) = ⟨b, o + j * n, none⟩ := by unfold Addr.add; split <;> simp_all
     have e2 : (⟨b, o + j * n, none⟩ : Addr).add i = ⟨b, o + j * n + i, none⟩ := by unfold Addr.add; split <;> simp_all
     rwa [e, e2] at q
   · obtain ⟨i, hi, rfl⟩ := List.getElem_of_mem hx
     exact (hlp i hi).1
set_option maxHeartbeats 2000000 in
set_option maxRecDepth 100000 in
theorem open_lims {H : Type} {enc : TypeId × Value → H} {W : World} {base b0 : Nat} {sp : Nat → Bool} {held : Bool} {r : Reach} {v : Value} {d : DataW H} {ps : List MemPlace} (hval : Value.okWide Try.prog W r b0 22 v)
 (h : DataW.Trod enc Try.prog W base sp held 22 v d ps) : ∃ (u : SlV) (l : List Md.Lim), v = valS u ∧ ReadsL 4 encLim W (valS u) l := by
 obtain ⟨a, len, cap, rfl⟩ := okWide_slice Try.underlying22 hval
 obtain ⟨fuel, hf⟩ := h
 rcases open_slice Try.underlying22 hf with ⟨h0, _⟩ | ⟨a', len', cap', m, n, D, Pl, hcs, _, hl, hm, hmm, hd, hi⟩
 · simp [Value.cells] at h0
   obtain ⟨rfl, rfl, rfl⟩ := h0
   exact ⟨(none, 0, 0), [], rfl, .nil W⟩
 · simp [Value.cells] at hcs
   obtain ⟨rfl, rfl, rfl⟩ := hcs
   have hC : Try.prog.cellsOf 42 = 4 := by kernel_rfl
   rw [hC] at hi
   have hle : len ≤ m := by rw [hmm]; split <;> omega
   obtain ⟨l, h1, h2, h3⟩ := reads_of (n := 4) (enc := encLim) (W := W) (a' := a') (len := len) (cap := cap) (p := fun _ => True) (fun _ => rfl) (by decide) (fun i hil => by
    obtain ⟨cs', hc, ht'⟩ := hi i (by omega)
    obtain ⟨ys, n', hn', hy, hlen, hyl, hg⟩ := DataW.trod_struct Try.underlying42 ht'
    obtain ⟨_, hcl, hat⟩ := World.cells?_some hc
    match cs', hcl with
    | [u0, u1, u2, u3], _ =>
     have c0 := hat 0 (by omega)
     have c1 := hat 1 (by omega)
     have c2 := hat 2 (by omega)
     have c3 := hat 3 (by omega)
     have k0 : Try.prog.cellsOf 3 = 1 := by kernel_rfl
     have k1 : Try.prog.cellsOf 2 = 1 := by kernel_rfl
     have gg0 := hg 0 _ rfl
     have gg1 := hg 1 _ rfl
     have gg2 := hg 2 _ rfl
     have gg3 := hg 3 _ rfl
     simp only [List.getElem_toArray, List.getElem_cons_zero, List.getElem_cons_succ, k0, k1] at gg0 gg1 gg2 gg3
     match ys, hyl with
     | [y0, y1, y2, y3], _ =>
     simp only [List.drop_zero, List.drop_succ_cons, List.take_succ_cons, List.take_zero, List.getElem?_cons_zero, List.getElem?_cons_succ] at gg0 gg1 gg2 gg3
     obtain ⟨z0, e0, _, _⟩ := DataW.trod_int Try.underlying3 gg0
     obtain ⟨z1, e1, _, _⟩ := DataW.trod_int Try.underlying3 gg1
     obtain ⟨z2, e2, _, _⟩ := DataW.trod_int Try.underlying2 gg2
     obtain ⟨z3, e3, _, _⟩ := DataW.trod_int Try.underlying2 gg3
     simp at e0 e1 e2 e3
     subst e0 e1 e2 e3
     exact ⟨⟨z0, z1, z2, z3⟩, trivial, fun j u hu => by
      match j, hu with
      | 0, hu => simp [encLim] at hu; subst hu; exact (by simpa [Addr.add] using c0)
      | 1, hu => simp [encLim] at hu; subst hu; exact c1
      | 2, hu => simp [encLim] at hu; subst hu; exact c2
      | 3, hu => simp [encLim] at hu; subst hu; exact c3
      | _ + 4, hu => simp [encLim] at hu⟩)
   exact ⟨(some a', len, cap), l, rfl, h1⟩
set_option maxHeartbeats 4000000 in
set_option maxRecDepth 100000 in
theorem open_acts {H : Type} {enc : TypeId × Value → H} {W : World} {base b0 : Nat} {sp : Nat → Bool} {held : Bool} {r : Reach} {v : Value} {d : DataW H} {ps : List MemPlace} (hval : Value.okWide Try.prog W r b0 23 v)
 (h : DataW.Trod enc Try.prog W base sp held 23 v d ps) : ∃ (u : SlV) (l : List (Md.Call × Int)), v = valS u ∧ ReadsL 9 encAct W (valS u) l ∧ ∀ x ∈ l, ActIn x := by
 obtain ⟨a, len, cap, rfl⟩ := okWide_slice Try.underlying23 hval
 obtain ⟨fuel, hf⟩ := h
 rcases open_slice Try.underlying23 hf with ⟨h0, _⟩ | ⟨a', len', cap', m, n, D, Pl, hcs, _, hl, hm, hmm, hd, hi⟩
 · simp [Value.cells] at h0
   obtain ⟨rfl, rfl, rfl⟩ := h0
   exact ⟨(none, 0, 0), [], rfl, .nil W, fun x hx => by cases hx⟩
 · simp [Value.cells] at hcs
   obtain ⟨rfl, rfl, rfl⟩ := hcs
   have hC : Try.prog.cellsOf 38 = 9 := by kernel_rfl
   rw [hC] at hi
   have hle : len ≤ m := by rw [hmm]; split <;> omega
   obtain ⟨l, h1, h2, h3⟩ := reads_of (n := 9) (enc := encAct) (W := W) (a' := a') (len := len) (cap := cap) (p := ActIn) (fun _ => rfl) (by decide) (fun i hil => by
    obtain ⟨cs', hc, ht'⟩ := hi i (by omega)
    obtain ⟨ys, n', hn', hy, hlen, hyl, hg⟩ := DataW.trod_struct Try.underlying38 ht'
    obtain ⟨_, hcl, hat⟩ := World.cells?_some hc
    match cs', hcl with
    | [u0, u1, u2, u3, u4, u5, u6, u7, u8], _ =>
     have c0 := hat 0 (by omega)
     have c1 := hat 1 (by omega)
     have c2 := hat 2 (by omega)
     have c3 := hat 3 (by omega)
     have c4 := hat 4 (by omega)
     have c5 := hat 5 (by omega)
     have c6 := hat 6 (by omega)
     have c7 := hat 7 (by omega)
     have c8 := hat 8 (by omega)
     have k0 : Try.prog.cellsOf 3 = 1 := by kernel_rfl
     have k1 : Try.prog.cellsOf 2 = 1 := by kernel_rfl
     have k2 : Try.prog.cellsOf 4 = 1 := by kernel_rfl
     have k3 : Try.prog.cellsOf 5 = 1 := by kernel_rfl
     have k4 : Try.prog.cellsOf 36 = 8 := by kernel_rfl
     have gg0 := hg 0 _ rfl
     have gg1 := hg 1 _ rfl
     simp only [List.getElem_toArray, List.getElem_cons_zero, List.getElem_cons_succ, k3, k4] at gg0 gg1
     match ys, hyl with
     | [y0, y1], _ =>
     simp only [List.drop_zero, List.drop_succ_cons, List.take_succ_cons, List.take_zero, List.getElem?_cons_zero, List.getElem?_cons_succ] at gg0 gg1
     obtain ⟨z8, e8, _, w8⟩ := DataW.trod_int Try.underlying5 gg1
     obtain ⟨xs, n2, _, _, _, hxl, hg2⟩ := DataW.trod_struct Try.underlying36 gg0
     have m0 := hg2 0 _ rfl
     have m1 := hg2 1 _ rfl
     have m2 := hg2 2 _ rfl
     have m3 := hg2 3 _ rfl
     have m4 := hg2 4 _ rfl
     have m5 := hg2 5 _ rfl
     have m6 := hg2 6 _ rfl
     have m7 := hg2 7 _ rfl
     simp only [List.getElem_toArray, List.getElem_cons_zero, List.getElem_cons_succ, k0, k1, k2] at m0 m1 m2 m3 m4 m5 m6 m7
     match xs, hxl with
     | [x0, x1, x2, x3, x4, x5, x6, x7], _ =>
     simp only [List.drop_zero, List.drop_succ_cons, List.take_succ_cons, List.take_zero, List.getElem?_cons_zero, List.getElem?_cons_succ] at m0 m1 m2 m3 m4 m5 m6 m7
     obtain ⟨z0, e0, _, w0⟩ := DataW.trod_int Try.underlying3 m0
     obtain ⟨z1, e1, _, w1⟩ := DataW.trod_int Try.underlying3 m1
     obtain ⟨z2, e2, _, w2⟩ := DataW.trod_int Try.underlying2 m2
     obtain ⟨z3, e3, _, w3⟩ := DataW.trod_int Try.underlying2 m3
     obtain ⟨z4, e4, _, w4⟩ := DataW.trod_int Try.underlying2 m4
     obtain ⟨z5, e5, _⟩ := DataW.trod_bool Try.underlying4 m5
     obtain ⟨z6, e6, _, w6⟩ := DataW.trod_int Try.underlying3 m6
     obtain ⟨z7, e7, _, w7⟩ := DataW.trod_int Try.underlying3 m7
     simp at e0 e1 e2 e3 e4 e5 e6 e7 e8
     subst e0 e1 e2 e3 e4 e5 e6 e7 e8
     exact ⟨(⟨z0, z1, z2, z3, z4, z5, z6, z7⟩, z8), ⟨(wf_i64 w2).2, (wf_i64 w3).2, (wf_u8 w8).1, (wf_u8 w8).2⟩, fun j u hu => by
      match j, hu with
      | 0, hu => simp [encAct, callCells] at hu; subst hu; exact (by simpa [Addr.add] using c0)
      | 1, hu => simp [encAct, callCells] at hu; subst hu; exact c1
      | 2, hu => simp [encAct, callCells] at hu; subst hu; exact c2
      | 3, hu => simp [encAct, callCells] at hu; subst hu; exact c3
      | 4, hu => simp [encAct, callCells] at hu; subst hu; exact c4
      | 5, hu => simp [encAct, callCells] at hu; subst hu; exact c5
      | 6, hu => simp [encAct, callCells] at hu; subst hu; exact c6
      | 7, hu => simp [encAct, callCells] at hu; subst hu; exact c7
      | 8, hu => simp [encAct, callCells] at hu; subst hu; exact c8
      | _ + 9, hu => simp [encAct, callCells] at hu⟩)
   exact ⟨(some a', len, cap), l, rfl, h1, h3⟩
end Go.Proofs.Ytaicmiadgnpimaa
