/-
  The law FaultsIs of layer 3, walked.
-/
import Derived.Test.YtgnhbccmdpkbiaaGreatDoorFaL5
import Derived.Test.YtgnhbccmdpkbiaaGreatDoorFaw23
namespace Go.Proofs.YtgnhbccmdpkbiaaGreatDoor
open Go.RowKit Go.Shelf

/-- What the law's loop knows behind q nodes: whether a link has the kind; the index of the first link. -/
def HFInv (k : Int) (l : List Fa.Node) (q : Nat) (H : Bool) (f : Int) : Prop := H = (l.take q).any (hitN k) ∧
  ((f = -1 ∧ ∀ x ∈ l.take q, x.joined ≠ 0) ∨ ∃ (i : Nat) (hi : i < l.length), f = i ∧ l[i].joined = 0 ∧ ∀ x ∈ l.take i, x.joined ≠ 0)
theorem HFInv.start (k : Int) (l : List Fa.Node) : HFInv k l 0 false (-1) := ⟨rfl, .inl ⟨rfl, fun x hx => by simp at hx⟩⟩
theorem HFInv.join {k : Int} {l : List Fa.Node} {q : Nat} {H : Bool} {f : Int} (h : HFInv k l q H f) (hq : q < l.length) (hj : l[q].joined ≠ 0) : HFInv k l (q + 1) H f := by
  obtain ⟨h1, h2⟩ := h
  refine ⟨?_, ?_⟩
  · rw [List.take_succ_eq_append_getElem hq, List.any_append, ← h1]
    simp [hitN, hj]
  · rcases h2 with ⟨rfl, h2⟩ | h2
    · refine .inl ⟨rfl, fun x hx => ?_⟩
      rw [List.take_succ_eq_append_getElem hq, List.mem_append, List.mem_singleton] at hx
      rcases hx with hx | rfl
      · exact h2 x hx
      · exact hj
    · exact .inr h2
theorem HFInv.link {k : Int} {l : List Fa.Node} {q : Nat} {H H' : Bool} {f f' : Int} (h : HFInv k l q H f) (hq : q < l.length) (hj : l[q].joined = 0) (hH : H' = (H || l[q].link.kind == k)) (hf : f' = if f < 0 then (q : Int) else f) : HFInv k l (q + 1) H' f' := by
  obtain ⟨h1, h2⟩ := h
  refine ⟨?_, ?_⟩
  · rw [List.take_succ_eq_append_getElem hq, List.any_append, ← h1, hH]
    simp [hitN, hj]
  · rcases h2 with ⟨rfl, h2⟩ | ⟨i, hi, rfl, h3, h4⟩
    · rw [if_pos (by decide)] at hf
      exact .inr ⟨q, hq, hf, hj, h2⟩
    · rw [if_neg (by omega)] at hf
      exact .inr ⟨i, hi, hf, h3, h4⟩
theorem HFInv.last {k : Int} {l : List Fa.Node} {H : Bool} {f : Int} (h : HFInv k l l.length H f) {x : Fa.Link} {t : Fa.F} {c : Fa.F} (hok : t.ok) (hc : t.chain 0 = l) (hf : t.first = some (x, c)) :
    H = t.has k ∧ ∃ (i : Nat) (hi : i < l.length), f = i ∧ l[i].link = x := by
  obtain ⟨h1, h2⟩ := h
  refine ⟨?_, ?_⟩
  · rw [h1, List.take_length, Fa.has_chain k t 0 hok, hc]; rfl
  · have h3 := Fa.first_find hok 0
    rw [hc, hf] at h3
    rcases h2 with ⟨_, h2⟩ | ⟨i, hi, h5, h6, h7⟩
    · rw [List.take_length] at h2
      have : (l.find? fun x => x.joined == 0) = none := List.find?_eq_none.2 fun y hy => by simpa using h2 y hy
      rw [this] at h3
      exact absurd h3 (by simp)
    · refine ⟨i, hi, h5, ?_⟩
      have h8 : (l.find? fun x => x.joined == 0) = some l[i] := by
        have e := List.take_append_drop i l
        have e0 := List.drop_eq_getElem_cons hi
        generalize l[i] = y at h6 e0 ⊢
        rw [← e, List.find?_append]
        have e1 : ((l.take i).find? fun x => x.joined == 0) = none := List.find?_eq_none.2 fun y hy => by simpa using h7 y hy
        rw [e1, Option.none_or, e0, List.find?_cons]
        simp [h6]
      rw [h8] at h3
      simpa using h3.symm
/-- Blocks of the law: O holds the outer error, A and B the links that errors.As finds. -/
def boxW (w : World) (v : Value) : World := ((w.alloc (.cells #[frn v] 54)).alloc (.cells #[.pointer none] 55)).alloc (.cells #[.pointer none] 55)
theorem boxW_below (w : World) (v : Value) : Below w.heap.size w (boxW w v) := (((Below.refl w.heap.size w).alloc (Nat.le_refl _) _).alloc (by simp) _).alloc (by simp; omega) _
theorem boxW_size (w : World) (v : Value) : (boxW w v).heap.size = w.heap.size + 3 := by simp [boxW]
theorem boxW_o (w : World) (v : Value) : (boxW w v).heap[w.heap.size]? = some (.cells #[frn v] 54 (0, 0)) := by
  have h1 := blk_new w (.cells #[frn v] 54)
  have h2 := (Below.refl (w.heap.size + 1) (w.alloc (.cells #[frn v] 54))).alloc (by simp) (.cells #[.pointer none] 55)
  have h3 := h2.alloc (by simp) (.cells #[.pointer none] 55)
  exact (h3.block w.heap.size (by omega)).trans h1
theorem boxW_a (w : World) (v : Value) : (boxW w v).heap[w.heap.size + 1]? = some (.cells #[.pointer none] 55 (0, 0)) := by
  have h1 := blk_new (w.alloc (.cells #[frn v] 54)) (.cells #[.pointer none] 55)
  have e : (w.alloc (.cells #[frn v] 54)).heap.size = w.heap.size + 1 := by simp
  rw [e] at h1
  have h3 := (Below.refl (w.heap.size + 2) ((w.alloc (.cells #[frn v] 54)).alloc (.cells #[.pointer none] 55))).alloc (by simp) (.cells #[.pointer none] 55)
  exact (h3.block (w.heap.size + 1) (by omega)).trans h1
theorem boxW_b (w : World) (v : Value) : (boxW w v).heap[w.heap.size + 2]? = some (.cells #[.pointer none] 55 (0, 0)) := by
  have h1 := blk_new ((w.alloc (.cells #[frn v] 54)).alloc (.cells #[.pointer none] 55)) (.cells #[.pointer none] 55)
  have e : ((w.alloc (.cells #[frn v] 54)).alloc (.cells #[.pointer none] 55)).heap.size = w.heap.size + 2 := by simp
  rw [e] at h1
  exact h1
/-- What the region of the law may read at any time: the outer error, the first link's cells. -/
def Seen (O g a : Nat) (v : Value) (kd : Int) (op : ByteArray) (bk cn : Int) (w' : World) : Prop :=
  w'.cell? ⟨O, 0, none⟩ = some (.iface 54 (.agg #[v])) ∧ w'.cell? ⟨g, a, none⟩ = some (I64 kd) ∧ w'.cell? ⟨g, a + 1, none⟩ = some (.string op) ∧ w'.cell? ⟨g, a + 2, none⟩ = some (I64 bk) ∧ w'.cell? ⟨g, a + 3, none⟩ = some (I64 cn)
theorem Seen.grown {O g a : Nat} {v : Value} {kd : Int} {op : ByteArray} {bk cn : Int} {w w' : World} {r : Option Nat} (h : Seen O g a v kd op bk cn w) (hg : w.grownBy w' r) (h1 : some O ≠ r) (h2 : some g ≠ r) : Seen O g a v kd op bk cn w' := by
  obtain ⟨s0, s1, s2, s3, s4⟩ := h
  have l0 := cell_lt s0
  have l1 := cell_lt s1
  exact ⟨(gb_cell' hg l0 h1).trans s0, (gb_cell' hg l1 h2).trans s1, (gb_cell' hg l1 h2).trans s2, (gb_cell' hg l1 h2).trans s3, (gb_cell' hg l1 h2).trans s4⟩
theorem Seen.below {O g a : Nat} {v : Value} {kd : Int} {op : ByteArray} {bk cn : Int} {w w' : World} (h : Seen O g a v kd op bk cn w) (hb : Below w.heap.size w w') : Seen O g a v kd op bk cn w' := h.grown (gb_below (r := none) hb) (by simp) (by simp)
def Hit (x : Fa.Link) (w : World) (p : Nat) : Prop := ∃ cv n d, w.heap[p]? = some (.cells (linkCells x cv n d) 86 (0, 0))
theorem Hit.grown {x : Fa.Link} {w w' : World} {p : Nat} {r : Option Nat} (h : Hit x w p) (hg : w.grownBy w' r) (hr : some p ≠ r) : Hit x w' p := by
  obtain ⟨cv, n, d, h⟩ := h
  exact ⟨cv, n, d, (hg.block p (lt_of_block h) hr).trans h⟩
theorem fault_hit {x : Fa.Link} {w : World} {p : Nat} (h : Hit x w p) : Calls Tryz.prog 26 #[.pointer (some ⟨p, 0, none⟩)] w fun e w' => e = .returned (.agg #[I64 x.kind, .string x.op, I64 x.backend, I64 x.conn]) ∧ Below w.heap.size w w' := by
  obtain ⟨cv, n, d, h⟩ := h
  exact fault_any p x cv n d w h
/-- What errors.As has found. -/
def FoundAt (O : Nat) (x : Fa.Link) (tb : Nat) (w : World) (e : Ending) (w' : World) : Prop :=
  e = .returned (.bool true) ∧ ∃ p, p < O ∧ Hit x w' p ∧ w'.heap[tb]? = some (.cells #[.pointer (some ⟨p, 0, none⟩)] 55 (0, 0)) ∧ w.grownBy w' (some tb)
theorem AsPost.found {O : Nat} {t c : Fa.F} {x : Fa.Link} {w w' : World} {tb : Nat} {e : Ending} (h : AsPost (fun b => b < O) t w tb e w') (hf : t.first = some (x, c)) : FoundAt O x tb w e w' := by
  obtain ⟨h1, x', c', p, cv, cs, p1, p2, p3, p4, p5, p6, p7⟩ := h
  rw [hf] at p1
  simp only [Option.some.injEq, Prod.mk.injEq] at p1
  obtain ⟨rfl, rfl⟩ := p1
  exact ⟨h1, p, p2, ⟨_, _, _, p3⟩, p7, p6⟩
structure BoxF (O : Nat) (t : Fa.F) (v : Value) (W : World) : Prop where
  size : W.heap.size = O + 3
  o : W.heap[O]? = some (.cells #[.iface 54 (.agg #[v])] 54 (0, 0))
  a : W.heap[O + 1]? = some (.cells #[.pointer none] 55 (0, 0))
  b : W.heap[O + 1 + 1]? = some (.cells #[.pointer none] 55 (0, 0))
  hh : Holds (fun b => b < O) W t [v]
theorem boxF {w : World} {t : Fa.F} {v : Value} (h : Holds (fun _ => True) w t [v]) : BoxF w.heap.size t v (boxW w v).drew :=
  ⟨boxW_size w v, boxW_o w v, boxW_a w v, boxW_b w v, (h.mono (fun _ _ hl => hl)).below (w := w) (w' := (boxW w v).drew) (boxW_below w v).drew⟩
set_option maxHeartbeats 8000000 in
set_option maxRecDepth 100000 in
set_option linter.unusedSimpArgs false in
theorem lawIs (v : Value) (l : List Fa.Node) (k : Int) (w : World) (hE : EnvF w) (h : NodesIn w v l) : Calls Tryz.prog 7 #[v, I64 k] w fun e w' => e = .returned (.bool true) ∧ Below w.heap.size w w' := by
  have HF := Lib.hid (far_full v l w h.1)
  have HS : Hid (∀ w1, Below w.heap.size w w1 → Calls Tryz.prog 12 #[] w1 fun e w' => e = .returned (.bool true) ∧ Below w1.heap.size w1 w') := fun w1 hb => shown_any w1 (hE.below hb)
  cases hq : farL l with
  | true =>
    rw [hq] at HF
    clear hq h hE
    go_enter Tryz.func7, Tryz.ntmps7
    go_wp2_with (first | (go_at_call 11; refine HF.out.mono ?_; rintro e w1 ⟨rfl, rfl⟩) | (go_at_call 12; refine (HS.out _ (Below.refl _ _)).mono ?_; rintro e w2 ⟨rfl, hb2⟩))
    go_ret
    exact ⟨rfl, hb2⟩
  | false =>
  rw [hq] at HF
  obtain ⟨hl, hs⟩ := far_sizes hq
  have HR := Lib.hid (rbuild_any v l w h.1 (by omega) hs)
  by_cases h0 : (Fa.build l).1 = 0
  case neg =>
    have hE1 : ((Fa.build l).1 != 0) = true := by simpa using h0
    generalize (Fa.build l).1 = bc at HR hE1
    clear hq h hE h0 hl hs
    go_enter Tryz.func7, Tryz.ntmps7
    go_wp2_with (first | (go_at_call 11; refine HF.out.mono ?_; rintro e w1 ⟨rfl, rfl⟩) | (go_at_call 14; refine HR.out.mono ?_; rintro e w2 ⟨rfl, hb2⟩) | (go_at_call 12; refine (HS.out _ hb2).mono ?_; rintro e w3 ⟨rfl, hb3⟩))
    go_ret
    exact ⟨rfl, hb2.trans (hb3.mono hb2.size)⟩
  obtain ⟨b1, b2, b3, b4, b5⟩ := Fa.build_ok h0
  have hne : l ≠ [] := fun e => by
    subst e
    exact absurd h0 (by decide)
  rw [h0] at HR
  obtain ⟨g, o, cap, hv, hgl, hcells⟩ := h.1.form hne
  obtain ⟨xc, hf⟩ := Fa.first_some b2 (fun e => by rw [e] at b3; exact absurd b3 (by decide))
  obtain ⟨x, c⟩ := xc
  have HB2 : Hid (∀ w1, Below w.heap.size w w1 → Calls Tryz.prog 13 #[v] w1 fun e w' => ∃ rf, e = .returned (.tuple #[valE rf, I64 0]) ∧ Holds (fun _ => True) w' (Fa.build l).2 [valE rf] ∧ Below w1.heap.size w1 w') := fun w1 hb => (build_any v l w1 (h.below hb) (by omega) hs).mono (fun e w' hp => by
    obtain ⟨_, p2, p3⟩ := hp
    obtain ⟨rf, e1, e2⟩ := p2 h0
    exact ⟨rf, e1, e2.mono (fun _ _ _ => trivial), p3⟩)
  obtain ⟨t, ht⟩ : ∃ t, t = (Fa.build l).2 := ⟨_, rfl⟩
  rw [← ht] at b1 b2 b3 b4 b5 hf HB2
  have HST := Lib.hid (HFInv.start k l)
  have HSJ : Hid (∀ q H f, HFInv k l q H f → ∀ hq : q < l.length, l[q].joined ≠ 0 → HFInv k l (q + 1) H f) := fun q H f hi hq hj => hi.join hq hj
  have HSL : Hid (∀ q H f, HFInv k l q H f → ∀ hq : q < l.length, l[q].joined = 0 → ∀ H' f', H' = (H || l[q].link.kind == k) → f' = (if f < 0 then (q : Int) else f) → HFInv k l (q + 1) H' f') := fun q H f hi hq hj H' f' h1 h2 => hi.link hq hj h1 h2
  have HOK := Lib.hid b2
  have HFI := Lib.hid hf
  have HE := Lib.hid hE
  have HG := Lib.hid hgl
  have HC := Lib.hid (ReadsL.cell0 hcells)
  obtain ⟨n, hn⟩ : ∃ n, n = l.length := ⟨_, rfl⟩
  rw [← hn] at hv hl
  have HLAST : Hid (∀ H f, HFInv k l n H f → H = t.has k ∧ ∃ (i : Nat) (hi : i < l.length), f = i ∧ l[i].link = x) := fun H f hi => by
    rw [hn] at hi
    exact hi.last b2 b1 hf
  have HNL : Hid (n = l.length) := hn
  subst hv
  clear hq h hE h0 hs b1 b2 b3 b4 b5 hne hf hgl hcells ht hn
  go_enter Tryz.func7, Tryz.ntmps7
  go_wp2_with fail
  refine HF.out.mono ?_
  rintro e w1 ⟨rfl, rfl⟩
  go_wp2_with fail
  refine HR.out.mono ?_
  rintro e w2 ⟨rfl, hb2⟩
  go_wp2_with fail
  refine (HB2.out _ hb2).mono ?_
  rintro e w3 ⟨rf, rfl, hh3, hx⟩
  have hb3 := hb2.trans (hx.mono hb2.size)
  obtain ⟨ty, pv, hty⟩ := valE_iface rf
  rw [hty] at hh3 ⊢
  have HH3 := Lib.hid hh3
  have HB3 := Lib.hid hb3
  have HC3 : Hid (∀ (q : Nat) (hq : q < l.length), w3.cell? ⟨g, o + q * 6 + 1, none⟩ = some (I64 l[q].joined) ∧ w3.cell? ⟨g, o + q * 6 + 2, none⟩ = some (I64 l[q].link.kind)) := fun q hq =>
    ⟨(hb3.cell (p := ⟨g, _, none⟩) HG.out).trans (HC.out q hq).2.1, (hb3.cell (p := ⟨g, _, none⟩) HG.out).trans (HC.out q hq).2.2.1⟩
  have hg3 : g < w3.heap.size := Nat.lt_of_lt_of_le HG.out hb3.size
  clear hty hx hb2 hh3 hb3
  go_wp2
  go_loopw [7, 8, 9] (fun hv fv iv wr => ∃ (q : Nat) (H : Bool) (f : Int), q ≤ n ∧ hv = .bool H ∧ fv = I64 f ∧ iv = I64 q ∧ wr = w3 ∧ Hid (HFInv k l q H f)) (fun _ _ iv _ => n - (intOf iv).toNat)
  case atStart => exact ⟨0, false, -1, Nat.zero_le _, rfl, rfl, rfl, rfl, HST⟩
  case round =>
    obtain ⟨q, H, f, hq, rfl, rfl, rfl, rfl, hi⟩ := hrel
    by_cases hlt : q < n
    · have i1 : (q : Int) < (n : Int) := by omega
      have hql : q < l.length := by rw [← HNL.out]; exact hlt
      obtain ⟨c1, c2⟩ := HC3.out q hql
      have HQ : Hid (q + 1 ≤ n) := hlt
      by_cases hj : l[q].joined = 0
      · have hje : (l[q].joined == 0) = true := by rw [beq_iff_eq]; exact hj
        have HX := Lib.hid (fun H' f' h1 h2 => HSL.out q H f hi.out hql hj H' f' h1 h2)
        clear hj hi
        generalize l[q].joined = jn at c1 hje
        generalize l[q].link.kind = kn at c2 HX
        cases H with
        | true =>
          by_cases hf0 : f < 0
          · have HY := Lib.hid (HX.out true (q : Int) (by rfl) (by rw [if_pos hf0]))
            clear HX hql hlt hq
            go_wp2
            case roundEnd => exact ⟨⟨q + 1, true, q, HQ.out, (by first | trivial | rfl | go_num), (by first | trivial | rfl | go_num), (by first | trivial | rfl | go_num), (by first | trivial | rfl | go_num), HY⟩, by have := HQ.out; simp [intOf]; omega⟩
          · have HY := Lib.hid (HX.out true f (by rfl) (by rw [if_neg hf0]))
            clear HX hql hlt hq
            go_wp2
            case roundEnd => exact ⟨⟨q + 1, true, f, HQ.out, (by first | trivial | rfl | go_num), (by first | trivial | rfl | go_num), (by first | trivial | rfl | go_num), (by first | trivial | rfl | go_num), HY⟩, by have := HQ.out; simp [intOf]; omega⟩
        | false =>
          cases hke : (kn == k) with
          | true =>
            by_cases hf0 : f < 0
            · have HY := Lib.hid (HX.out true (q : Int) (by rw [hke]; rfl) (by rw [if_pos hf0]))
              clear HX hql hlt hq
              go_wp2
              case roundEnd => exact ⟨⟨q + 1, true, q, HQ.out, (by first | trivial | rfl | go_num), (by first | trivial | rfl | go_num), (by first | trivial | rfl | go_num), (by first | trivial | rfl | go_num), HY⟩, by have := HQ.out; simp [intOf]; omega⟩
            · have HY := Lib.hid (HX.out true f (by rw [hke]; rfl) (by rw [if_neg hf0]))
              clear HX hql hlt hq
              go_wp2
              case roundEnd => exact ⟨⟨q + 1, true, f, HQ.out, (by first | trivial | rfl | go_num), (by first | trivial | rfl | go_num), (by first | trivial | rfl | go_num), (by first | trivial | rfl | go_num), HY⟩, by have := HQ.out; simp [intOf]; omega⟩
          | false =>
            by_cases hf0 : f < 0
            · have HY := Lib.hid (HX.out false (q : Int) (by rw [hke]; rfl) (by rw [if_pos hf0]))
              clear HX hql hlt hq
              go_wp2
              case roundEnd => exact ⟨⟨q + 1, false, q, HQ.out, (by first | trivial | rfl | go_num), (by first | trivial | rfl | go_num), (by first | trivial | rfl | go_num), (by first | trivial | rfl | go_num), HY⟩, by have := HQ.out; simp [intOf]; omega⟩
            · have HY := Lib.hid (HX.out false f (by rw [hke]; rfl) (by rw [if_neg hf0]))
              clear HX hql hlt hq
              go_wp2
              case roundEnd => exact ⟨⟨q + 1, false, f, HQ.out, (by first | trivial | rfl | go_num), (by first | trivial | rfl | go_num), (by first | trivial | rfl | go_num), (by first | trivial | rfl | go_num), HY⟩, by have := HQ.out; simp [intOf]; omega⟩
      · have hje : (l[q].joined == 0) = false := by rw [beq_eq_false_iff_ne]; exact hj
        have HY := Lib.hid (HSJ.out q H f hi.out hql hj)
        clear hj hi
        generalize l[q].joined = jn at c1 hje
        generalize l[q].link.kind = kn at c2
        clear hql hlt hq
        go_wp2
        case roundEnd => exact ⟨⟨q + 1, H, f, HQ.out, (by first | trivial | rfl | go_num), (by first | trivial | rfl | go_num), (by first | trivial | rfl | go_num), (by first | trivial | rfl | go_num), HY⟩, by have := HQ.out; simp [intOf]; omega⟩
    · have i1 : ¬ (q : Int) < (n : Int) := by omega
      have e : q = n := by omega
      have hi2 := hi.out
      rw [e] at hi2
      obtain ⟨hH, i, hil, rfl, hli⟩ := HLAST.out H f hi2
      clear hi hi2 e hq hlt
      go_wp2
      have hcell := HC.out i hil
      have hg3w := HG.out
      have HXE : Hid (x = x) := rfl
      rw [hli] at hcell
      obtain ⟨kd, op, bk, cn⟩ := x
      obtain ⟨-, -, s1, s2, s3, s4⟩ := hcell
      dsimp only at s1 s2 s3 s4
      have hbx := boxW_below wr (.iface ty pv)
      have hF := boxF HH3.out
      have hbW : Below w.heap.size w (boxW wr (.iface ty pv)).drew := HB3.out.trans (hbx.mono HB3.out.size).drew
      have hseen : Seen wr.heap.size g (o + i * 6 + 2) (.iface ty pv) kd op bk cn (boxW wr (.iface ty pv)).drew :=
        ⟨blk_cell hF.o 0, (hbW.cell (p := ⟨g, _, none⟩) hg3w).trans s1, (hbW.cell (p := ⟨g, _, none⟩) hg3w).trans s2, (hbW.cell (p := ⟨g, _, none⟩) hg3w).trans s3, (hbW.cell (p := ⟨g, _, none⟩) hg3w).trans s4⟩
      have hwO := HB3.out.size
      refine (show Code.wp _ _ _ _ (boxW wr (.iface ty pv)) from ?_)
      have hilb : i < n := by rw [HNL.out]; exact hil
      have i2 : ((i : Nat) : Int) < (n : Int) := by omega
      have i3 : ¬ ((i : Nat) : Int) < 0 := by omega
      refine wp_region_held_drew (S := Seen wr.heap.size g (o + i * 6 + 2) (.iface ty pv) kd op bk cn) (by kernel_rfl) hseen (fun hHeld => ?_)
      generalize (boxW wr (.iface ty pv)).drew = Wd at hF hbW hHeld ⊢
      clear hbx hseen s1 s2 s3 s4
      have hEW := HE.out.below hbW
      generalize wr.heap.size = O at hg3 hF hHeld hwO ⊢
      have h10 := hEW.big
      have hetO : 0 < O := by
        have h1 := HE.out.big
        have h2 : 0 < 10 := by decide
        omega
      have HAS1 : Hid (Calls Tryz.prog 25 #[.iface ty pv, .iface 57 (.pointer (some ⟨O + 1, 0, none⟩))] Wd (FoundAt O ⟨kd, op, bk, cn⟩ (O + 1) Wd)) :=
        (asL_any (fun b => b < O) t _ Wd (O + 1) (.pointer none) hF.hh HOK.out (fun b hb => Nat.ne_of_lt (Nat.lt_of_lt_of_le hb (by omega))) hF.a hEW.et).mono (fun e w' hp => hp.found HFI.out)
      have HAS2 : Hid (∀ w5, Wd.grownBy w5 (some (O + 1)) → Calls Tryz.prog 25 #[.iface 54 (.agg #[.iface 54 (.agg #[.iface ty pv])]), .iface 57 (.pointer (some ⟨O + 1 + 1, 0, none⟩))] w5 (FoundAt O ⟨kd, op, bk, cn⟩ (O + 1 + 1) w5)) := fun w5 hg5 =>
        (asL_outer (fun b => b < O) t (.iface ty pv) w5 (O + 1 + 1) (.pointer none) (hF.hh.grown hg5 (fun b h1 _ => ⟨h1, fun e => by injection e with e; exact absurd (e ▸ h1 : O + 1 < O) (by omega)⟩)) HOK.out (fun b hb => Nat.ne_of_lt (Nat.lt_of_lt_of_le hb (by omega))) ((hg5.block _ (by rw [hF.size]; omega) (fun e => by injection e with e; omega)).trans hF.b) (hEW.et.grown hg5 (by omega))).mono (fun e w' hp => hp.found HFI.out)
      have HIL := Lib.hid hil
      clear HST HSJ HSL HC HLAST HC3 hH hli HR HF HB2 hetO h10
      have hBX := link_self ⟨kd, op, bk, cn⟩
      dsimp only at hBX
      have e1 : Tryz.prog.eqGuardType Tryz.prog.depth 34 = false := by kernel_rfl
      refine wpAnyH_take (i := 0) (oi := _) (v := ?vv0_1) (dropAt (r := _) rfl) (by kernel_rfl) (by kernel_rfl) (by kernel_rfl) (fun _ _ _ h => h) (Or.inl ⟨by rfl, ?hv0_1⟩) hHeld ?rv0_1
      case hv0_1 => (intro w hSw; unfold Seen at hSw; go_simp; first | done | with_reducible rfl)
      try simp only [Act.put, List.setIfInBounds_toArray, List.set_cons_zero, List.set_cons_succ]
      refine wpAnyH_take (i := 1) (oi := _) (v := ?vv1_2) (dropAt (r := _) rfl) (by kernel_rfl) (by kernel_rfl) (by kernel_rfl) (fun _ _ _ h => h) (Or.inl ⟨by rfl, ?hv1_2⟩) hHeld ?rv1_2
      case hv1_2 => (intro w hSw; unfold Seen at hSw; go_simp; first | done | with_reducible rfl)
      try simp only [Act.put, List.setIfInBounds_toArray, List.set_cons_zero, List.set_cons_succ]
      refine wpAnyH_ready (rs := [2]) (by kernel_rfl) (by simp) ?_
      refine AllReadyH.cons (o := _) (dropAt (r := _) rfl) (fun K hK => ?_) AllReadyH.nil
      go_simp
      go_at_call 25
      refine HAS1.out.mono ?_
      rintro e w5 ⟨rfl, p1, hp1, hl1, hA5, hg5⟩
      have hs5 := hHeld.grown hg5 (fun e => by injection e with e; omega) (fun e => by injection e with e; omega)
      have HS5 := Lib.hid hs5
      refine hK.out _ _ hs5 (fun hHeld5 => ?_)
      clear hK K
      try simp only [Act.put, List.setIfInBounds_toArray, List.set_cons_zero, List.set_cons_succ]
      refine wpAnyH_take (i := 3) (oi := _) (v := ?vv3_3) (dropAt (r := _) rfl) (by kernel_rfl) (by kernel_rfl) (by kernel_rfl) (fun _ _ _ h => h) (Or.inl ⟨by rfl, ?hv3_3⟩) hHeld5 ?rv3_3
      case hv3_3 => (intro w hSw; unfold Seen at hSw; go_simp; first | done | with_reducible rfl)
      try simp only [Act.put, List.setIfInBounds_toArray, List.set_cons_zero, List.set_cons_succ]
      refine wpAnyH_take (i := 4) (oi := _) (v := ?vv4_4) (dropAt (r := _) rfl) (by kernel_rfl) (by kernel_rfl) (by kernel_rfl) (fun _ _ _ h => h) (Or.inl ⟨by rfl, ?hv4_4⟩) hHeld5 ?rv4_4
      case hv4_4 => (intro w hSw; unfold Seen at hSw; go_simp; first | done | with_reducible rfl)
      try simp only [Act.put, List.setIfInBounds_toArray, List.set_cons_zero, List.set_cons_succ]
      refine wpAnyH_take (i := 5) (oi := _) (v := ?vv5_5) (dropAt (r := _) rfl) (by kernel_rfl) (by kernel_rfl) (by kernel_rfl) (fun _ _ _ h => h) (Or.inl ⟨by rfl, ?hv5_5⟩) hHeld5 ?rv5_5
      case hv5_5 => (intro w hSw; unfold Seen at hSw; go_simp; first | done | with_reducible rfl)
      try simp only [Act.put, List.setIfInBounds_toArray, List.set_cons_zero, List.set_cons_succ]
      refine wpAnyH_take (i := 6) (oi := _) (v := ?vv6_6) (dropAt (r := _) rfl) (by kernel_rfl) (by kernel_rfl) (by kernel_rfl) (fun _ _ _ h => h) (Or.inl ⟨by rfl, ?hv6_6⟩) hHeld5 ?rv6_6
      case hv6_6 => (intro w hSw; unfold Seen at hSw; go_simp; first | done | with_reducible rfl)
      try simp only [Act.put, List.setIfInBounds_toArray, List.set_cons_zero, List.set_cons_succ]
      refine wpAnyH_take (i := 7) (oi := _) (v := ?vv7_7) (dropAt (r := _) rfl) (by kernel_rfl) (by kernel_rfl) (by kernel_rfl) (fun _ _ _ h => h) (Or.inl ⟨by rfl, ?hv7_7⟩) hHeld5 ?rv7_7
      case hv7_7 => (intro w hSw; unfold Seen at hSw; go_simp; first | done | with_reducible rfl)
      try simp only [Act.put, List.setIfInBounds_toArray, List.set_cons_zero, List.set_cons_succ]
      refine wpAnyH_ready (rs := [8]) (by kernel_rfl) (by simp) ?_
      refine AllReadyH.cons (o := _) (dropAt (r := _) rfl) (fun K hK => ?_) AllReadyH.nil
      unfold Seen at hHeld5
      go_simp
      go_at_call 25
      refine (HAS2.out _ hg5).mono ?_
      rintro e w6 ⟨rfl, p2, hp2, hl2, hB6, hg6⟩
      have hs6 := HS5.out.grown hg6 (fun e => by injection e with e; omega) (fun e => by injection e with e; omega)
      have HS6 := Lib.hid hs6
      have hl1b := hl1.grown hg6 (fun e => by injection e with e; omega)
      have hA6 := (hg6.block _ (lt_of_block hA5) (fun e => by injection e with e; omega)).trans hA5
      clear hA5 hl1 hHeld5
      refine hK.out _ _ hs6 (fun hHeld6 => ?_)
      clear hK K
      try simp only [Act.put, List.setIfInBounds_toArray, List.set_cons_zero, List.set_cons_succ]
      have a0 := blk_cell hA6 0
      have b0 := blk_cell hB6 0
      simp only [List.getElem?_toArray, List.getElem?_cons_zero] at a0 b0
      refine wpAnyH_take (i := 9) (oi := _) (v := ?vv9_8) (dropAt (r := _) rfl) (by kernel_rfl) (by kernel_rfl) (by kernel_rfl) (fun _ _ _ h => h) (Or.inl ⟨by rfl, ?hv9_8⟩) hHeld6 ?rv9_8
      case hv9_8 => (intro w hSw; unfold Seen at hSw; go_simp; first | done | with_reducible rfl)
      try simp only [Act.put, List.setIfInBounds_toArray, List.set_cons_zero, List.set_cons_succ]
      refine wpAnyH_take (i := 10) (oi := _) (v := ?vv10_9) (dropAt (r := _) rfl) (by kernel_rfl) (by kernel_rfl) (by kernel_rfl) (fun _ _ _ h => h) (Or.inl ⟨by rfl, ?hv10_9⟩) hHeld6 ?rv10_9
      case hv10_9 => (intro w hSw; unfold Seen at hSw; go_simp; first | done | with_reducible rfl)
      try simp only [Act.put, List.setIfInBounds_toArray, List.set_cons_zero, List.set_cons_succ]
      refine wpAnyH_take (i := 11) (oi := _) (v := ?vv11_10) (dropAt (r := _) rfl) (by kernel_rfl) (by kernel_rfl) (by kernel_rfl) (fun _ _ _ h => h) (Or.inl ⟨by rfl, ?hv11_10⟩) hHeld6 ?rv11_10
      case hv11_10 => (intro w hSw; unfold Seen at hSw; go_simp; first | done | with_reducible rfl)
      try simp only [Act.put, List.setIfInBounds_toArray, List.set_cons_zero, List.set_cons_succ]
      refine wpAnyH_take (i := 12) (oi := _) (v := ?vv12_11) (dropAt (r := _) rfl) (by kernel_rfl) (by kernel_rfl) (by kernel_rfl) (fun _ _ _ h => h) (Or.inl ⟨by rfl, ?hv12_11⟩) hHeld6 ?rv12_11
      case hv12_11 => (intro w hSw; unfold Seen at hSw; go_simp; first | done | with_reducible rfl)
      try simp only [Act.put, List.setIfInBounds_toArray, List.set_cons_zero, List.set_cons_succ]
      refine wpAnyH_take (i := 13) (oi := _) (v := ?vv13_12) (dropAt (r := _) rfl) (by kernel_rfl) (by kernel_rfl) (by kernel_rfl) (fun _ _ _ h => h) (Or.inl ⟨by rfl, ?hv13_12⟩) hHeld6 ?rv13_12
      case hv13_12 => (intro w hSw; unfold Seen at hSw; go_simp; first | done | with_reducible rfl)
      try simp only [Act.put, List.setIfInBounds_toArray, List.set_cons_zero, List.set_cons_succ]
      refine wpAnyH_take (i := 14) (oi := _) (v := ?vv14_13) (dropAt (r := _) rfl) (by kernel_rfl) (by kernel_rfl) (by kernel_rfl) (fun _ _ _ h => h) (Or.inl ⟨by rfl, ?hv14_13⟩) hHeld6 ?rv14_13
      case hv14_13 => (intro w hSw; unfold Seen at hSw; go_simp; first | done | with_reducible rfl)
      try simp only [Act.put, List.setIfInBounds_toArray, List.set_cons_zero, List.set_cons_succ]
      refine wpAnyH_take (i := 15) (oi := _) (v := ?vv15_14) (dropAt (r := _) rfl) (by kernel_rfl) (by kernel_rfl) (by kernel_rfl) (fun _ _ _ h => h) (Or.inl ⟨by rfl, ?hv15_14⟩) hHeld6 ?rv15_14
      case hv15_14 => (intro w hSw; unfold Seen at hSw; go_simp; first | done | with_reducible rfl)
      try simp only [Act.put, List.setIfInBounds_toArray, List.set_cons_zero, List.set_cons_succ]
      refine wpAnyH_take (i := 18) (oi := _) (v := ?vv18_15) (dropAt (r := _) rfl) (by kernel_rfl) (by kernel_rfl) (by kernel_rfl) (fun _ _ _ h => h) (Or.inl ⟨by rfl, ?hv18_15⟩) hHeld6 ?rv18_15
      case hv18_15 => (intro w hSw; unfold Seen at hSw; go_simp; first | done | with_reducible rfl)
      try simp only [Act.put, List.setIfInBounds_toArray, List.set_cons_zero, List.set_cons_succ]
      refine wpAnyH_take (i := 19) (oi := _) (v := ?vv19_16) (dropAt (r := _) rfl) (by kernel_rfl) (by kernel_rfl) (by kernel_rfl) (fun _ _ _ h => h) (Or.inl ⟨by rfl, ?hv19_16⟩) hHeld6 ?rv19_16
      case hv19_16 => (intro w hSw; unfold Seen at hSw; go_simp; first | done | with_reducible rfl)
      try simp only [Act.put, List.setIfInBounds_toArray, List.set_cons_zero, List.set_cons_succ]
      refine wpAnyH_take (i := 20) (oi := _) (v := ?vv20_17) (dropAt (r := _) rfl) (by kernel_rfl) (by kernel_rfl) (by kernel_rfl) (fun _ _ _ h => h) (Or.inl ⟨by rfl, ?hv20_17⟩) hHeld6 ?rv20_17
      case hv20_17 => (intro w hSw; unfold Seen at hSw; go_simp; first | done | with_reducible rfl)
      try simp only [Act.put, List.setIfInBounds_toArray, List.set_cons_zero, List.set_cons_succ]
      refine wpAnyH_take (i := 21) (oi := _) (v := ?vv21_18) (dropAt (r := _) rfl) (by kernel_rfl) (by kernel_rfl) (by kernel_rfl) (fun _ _ _ h => h) (Or.inl ⟨by rfl, ?hv21_18⟩) hHeld6 ?rv21_18
      case hv21_18 => (intro w hSw; unfold Seen at hSw; go_simp; first | done | with_reducible rfl)
      try simp only [Act.put, List.setIfInBounds_toArray, List.set_cons_zero, List.set_cons_succ]
      refine wpAnyH_take (i := 22) (oi := _) (v := ?vv22_19) (dropAt (r := _) rfl) (by kernel_rfl) (by kernel_rfl) (by kernel_rfl) (fun _ _ _ h => h) (Or.inl ⟨by rfl, ?hv22_19⟩) hHeld6 ?rv22_19
      case hv22_19 => (intro w hSw; unfold Seen at hSw; go_simp; first | done | with_reducible rfl)
      try simp only [Act.put, List.setIfInBounds_toArray, List.set_cons_zero, List.set_cons_succ]
      refine wpAnyH_ready (rs := [16]) (by kernel_rfl) (by simp) ?_
      refine AllReadyH.cons (o := _) (dropAt (r := _) rfl) (fun K hK => ?_) AllReadyH.nil
      go_simp
      refine hK.out _ _ hHeld6 (fun hHeld6b => ?_)
      clear hK K hHeld6b
      try simp only [Act.put, List.setIfInBounds_toArray, List.set_cons_zero, List.set_cons_succ]
      refine wpAnyH_ready (rs := [17]) (by kernel_rfl) (by simp) ?_
      refine AllReadyH.cons (o := _) (dropAt (r := _) rfl) (fun K hK => ?_) AllReadyH.nil
      go_simp
      go_at_call 26
      refine (fault_hit hl1b).mono ?_
      rintro e w7 ⟨rfl, hx7⟩
      have hs7 := HS6.out.below hx7
      have HS7 := Lib.hid hs7
      refine hK.out _ _ hs7 (fun hHeld7 => ?_)
      clear hK K
      try simp only [Act.put, List.setIfInBounds_toArray, List.set_cons_zero, List.set_cons_succ]
      have b7 := (hx7.cell (p := ⟨_, 0, none⟩) (cell_lt b0)).trans b0
      have hl2b := hl2.grown (gb_below (r := none) hx7) (by simp)
      refine wpAnyH_take (i := 23) (oi := _) (v := ?vv23_20) (dropAt (r := _) rfl) (by kernel_rfl) (by kernel_rfl) (by kernel_rfl) (fun _ _ _ h => h) (Or.inl ⟨by rfl, ?hv23_20⟩) hHeld7 ?rv23_20
      case hv23_20 => (intro w hSw; unfold Seen at hSw; go_simp; first | done | with_reducible rfl)
      try simp only [Act.put, List.setIfInBounds_toArray, List.set_cons_zero, List.set_cons_succ]
      refine wpAnyH_take (i := 24) (oi := _) (v := ?vv24_21) (dropAt (r := _) rfl) (by kernel_rfl) (by kernel_rfl) (by kernel_rfl) (fun _ _ _ h => h) (Or.inl ⟨by rfl, ?hv24_21⟩) hHeld7 ?rv24_21
      case hv24_21 => (intro w hSw; unfold Seen at hSw; go_simp; first | done | with_reducible rfl)
      try simp only [Act.put, List.setIfInBounds_toArray, List.set_cons_zero, List.set_cons_succ]
      refine wpAnyH_take (i := 25) (oi := _) (v := ?vv25_22) (dropAt (r := _) rfl) (by kernel_rfl) (by kernel_rfl) (by kernel_rfl) (fun _ _ _ h => h) (Or.inl ⟨by rfl, ?hv25_22⟩) hHeld7 ?rv25_22
      case hv25_22 => (intro w hSw; unfold Seen at hSw; go_simp; first | done | with_reducible rfl)
      try simp only [Act.put, List.setIfInBounds_toArray, List.set_cons_zero, List.set_cons_succ]
      refine wpAnyH_take (i := 28) (oi := _) (v := ?vv28_23) (dropAt (r := _) rfl) (by kernel_rfl) (by kernel_rfl) (by kernel_rfl) (fun _ _ _ h => h) (Or.inl ⟨by rfl, ?hv28_23⟩) hHeld7 ?rv28_23
      case hv28_23 => (intro w hSw; unfold Seen at hSw; go_simp; first | done | with_reducible rfl)
      try simp only [Act.put, List.setIfInBounds_toArray, List.set_cons_zero, List.set_cons_succ]
      refine wpAnyH_take (i := 29) (oi := _) (v := ?vv29_24) (dropAt (r := _) rfl) (by kernel_rfl) (by kernel_rfl) (by kernel_rfl) (fun _ _ _ h => h) (Or.inl ⟨by rfl, ?hv29_24⟩) hHeld7 ?rv29_24
      case hv29_24 => (intro w hSw; unfold Seen at hSw; go_simp; first | done | with_reducible rfl)
      try simp only [Act.put, List.setIfInBounds_toArray, List.set_cons_zero, List.set_cons_succ]
      refine wpAnyH_take (i := 30) (oi := _) (v := ?vv30_25) (dropAt (r := _) rfl) (by kernel_rfl) (by kernel_rfl) (by kernel_rfl) (fun _ _ _ h => h) (Or.inl ⟨by rfl, ?hv30_25⟩) hHeld7 ?rv30_25
      case hv30_25 => (intro w hSw; unfold Seen at hSw; go_simp; first | done | with_reducible rfl)
      try simp only [Act.put, List.setIfInBounds_toArray, List.set_cons_zero, List.set_cons_succ]
      refine wpAnyH_take (i := 31) (oi := _) (v := ?vv31_26) (dropAt (r := _) rfl) (by kernel_rfl) (by kernel_rfl) (by kernel_rfl) (fun _ _ _ h => h) (Or.inl ⟨by rfl, ?hv31_26⟩) hHeld7 ?rv31_26
      case hv31_26 => (intro w hSw; unfold Seen at hSw; go_simp; first | done | with_reducible rfl)
      try simp only [Act.put, List.setIfInBounds_toArray, List.set_cons_zero, List.set_cons_succ]
      refine wpAnyH_take (i := 32) (oi := _) (v := ?vv32_27) (dropAt (r := _) rfl) (by kernel_rfl) (by kernel_rfl) (by kernel_rfl) (fun _ _ _ h => h) (Or.inl ⟨by rfl, ?hv32_27⟩) hHeld7 ?rv32_27
      case hv32_27 => (intro w hSw; unfold Seen at hSw; go_simp; first | done | with_reducible rfl)
      try simp only [Act.put, List.setIfInBounds_toArray, List.set_cons_zero, List.set_cons_succ]
      refine wpAnyH_ready (rs := [26]) (by kernel_rfl) (by simp) ?_
      refine AllReadyH.cons (o := _) (dropAt (r := _) rfl) (fun K hK => ?_) AllReadyH.nil
      go_simp
      refine hK.out _ _ hHeld7 (fun hHeld7b => ?_)
      clear hK K hHeld7b
      try simp only [Act.put, List.setIfInBounds_toArray, List.set_cons_zero, List.set_cons_succ]
      refine wpAnyH_ready (rs := [27]) (by kernel_rfl) (by simp) ?_
      refine AllReadyH.cons (o := _) (dropAt (r := _) rfl) (fun K hK => ?_) AllReadyH.nil
      go_simp
      go_at_call 26
      refine (fault_hit hl2b).mono ?_
      rintro e w8 ⟨rfl, hx8⟩
      have hs8 := HS7.out.below hx8
      refine hK.out _ _ hs8 (fun hHeld8 => ?_)
      clear hK K
      try simp only [Act.put, List.setIfInBounds_toArray, List.set_cons_zero, List.set_cons_succ]
      refine wpAnyH_take (i := 33) (oi := _) (v := ?vv33_28) (dropAt (r := _) rfl) (by kernel_rfl) (by kernel_rfl) (by kernel_rfl) (fun _ _ _ h => h) (Or.inl ⟨by rfl, ?hv33_28⟩) hHeld8 ?rv33_28
      case hv33_28 => (intro w hSw; unfold Seen at hSw; go_simp; first | done | with_reducible rfl)
      try simp only [Act.put, List.setIfInBounds_toArray, List.set_cons_zero, List.set_cons_succ]
      refine wpAnyH_take (i := 34) (oi := _) (v := ?vv34_29) (dropAt (r := _) rfl) (by kernel_rfl) (by kernel_rfl) (by kernel_rfl) (fun _ _ _ h => h) (Or.inl ⟨by rfl, ?hv34_29⟩) hHeld8 ?rv34_29
      case hv34_29 => (intro w hSw; unfold Seen at hSw; go_simp; first | done | with_reducible rfl)
      try simp only [Act.put, List.setIfInBounds_toArray, List.set_cons_zero, List.set_cons_succ]
      refine wpAnyH_done (by kernel_rfl) ?_ _
      have hgb : ∀ r b, b < O → O < r → (some b : Option Nat) ≠ some r := fun r b h1 h2 e => by injection e with e; omega
      have hh8 : Holds (fun _ => True) w8 t [.iface ty pv] := ((((hF.hh.grown (S' := fun b => b < O) hg5 (fun b h1 _ => ⟨h1, hgb _ b h1 (by omega)⟩)).grown (S' := fun b => b < O) hg6 (fun b h1 _ => ⟨h1, hgb _ b h1 (by omega)⟩)).below hx7).below hx8).mono (fun _ _ _ => trivial)
      have hb6 : Below w.heap.size w w6 := (hbW.grown hg5 hbW.size (fun k h => by injection h with h; omega)).grown hg6 (Nat.le_trans hbW.size hg5.size) (fun k h => by injection h with h; omega)
      have hb7 := hb6.trans (hx7.mono hb6.size)
      have hb8 := hb7.trans (hx8.mono hb7.size)
      obtain ⟨o8, _⟩ := HS7.out.below hx8
      have HB8 := Lib.hid hb8
      have hE8 := HE.out.below hb8
      have HH8 := Lib.hid hh8
      have HHA : Hid (∀ w1, Below w8.heap.size w8 w1 → Calls Tryz.prog 23 #[.iface ty pv, I64 k] w1 fun e w' => e = .returned (.bool (decide (1 ≤ k) && decide (k < 17) && t.has k)) ∧ Below w1.heap.size w1 w') := fun w1 hb => has_any _ t _ k w1 (HH8.out.below hb) HOK.out
      have HHO : Hid (∀ w1, Below w8.heap.size w8 w1 → Calls Tryz.prog 23 #[.iface 54 (.agg #[.iface 54 (.agg #[.iface ty pv])]), I64 k] w1 fun e w' => e = .returned (.bool (decide (1 ≤ k) && decide (k < 17) && t.has k)) ∧ Below w1.heap.size w1 w') := fun w1 hb => has_outer _ t _ k w1 (HH8.out.below hb) HOK.out
      have HS2 : Hid (∀ w1, Below w8.heap.size w8 w1 → Calls Tryz.prog 12 #[] w1 fun e w' => e = .returned (.bool true) ∧ Below w1.heap.size w1 w') := fun w1 hb => HS.out w1 (hb8.trans (hb.mono hb8.size))
      clear hh8 hb6 hb7 hb8 hgb hx7 hx8 hs7 hs8 HS7 HS6 HS5 hl1b hl2 hl2b hA6 hB6 a0 b0 b7 hp1 hp2 hg5 hg6 hF hbW hEW hwO HAS1 HAS2 HS hHeld hHeld6 hHeld7 hHeld8 hs5 hs6 hBX HIL hil hilb i2 i3 HFI HXE hg3 hg3w
      by_cases hk : k < 1 ∨ 17 ≤ k
      · have HSN := Lib.hid (fun w => sentinel_out k w hk)
        have hkb : (decide (1 ≤ k) && decide (k < 17) && t.has k) = false := by
          rcases hk with h | h
          · rw [decide_eq_false (show ¬ 1 ≤ k by omega)]; rfl
          · rw [decide_eq_false (show ¬ k < 17 by omega), Bool.and_false]; rfl
        rw [hkb] at HHA HHO
        clear hkb hk
        go_wp2_with fail
        refine (HSN.out _).mono ?_
        rintro e w9 ⟨rfl, rfl⟩
        go_wp2_with fail
        refine (HHA.out _ (Below.refl _ _)).mono ?_
        rintro e w10 ⟨rfl, hx10⟩
        have o10 := (hx10.cell (p := ⟨O, 0, none⟩) (cell_lt o8)).trans o8
        go_wp2_with fail
        refine (HHO.out _ hx10).mono ?_
        rintro e w11 ⟨rfl, hx11⟩
        have hb11 := hx10.trans (hx11.mono hx10.size)
        go_wp2_with fail
        refine (HS2.out _ hb11).mono ?_
        rintro e w12 ⟨rfl, hx12⟩
        have hb12 := hb11.trans (hx12.mono hb11.size)
        go_wp2
        go_ret
        exact ⟨rfl, HB8.out.trans (hb12.mono HB8.out.size)⟩
      · have HSN := Lib.hid (fun w => sentinel_in k w (fun h => hk (.inl h)) (fun h => hk (.inr h)))
        obtain ⟨kn, rfl⟩ : ∃ kn : Nat, k = kn := ⟨k.toNat, by omega⟩
        have hk17 : kn < 17 := by omega
        have hk1 : ¬ (kn : Int) < 1 := fun h => hk (.inl h)
        have hk2 : ¬ (17 : Int) ≤ (kn : Int) := fun h => hk (.inr h)
        have HSE : Hid (∀ w1, Below w8.heap.size w8 w1 → Calls Tryz.prog 167 #[.int .i64 kn] w1 fun e w' => e = .returned (S8 (Fa.names.getD kn [])) ∧ w' = w1) := fun w1 hb => sentErr_any kn hk17 w1 (hE8.below hb)
        have hkb : (decide (1 ≤ (kn : Int)) && decide ((kn : Int) < 17) && t.has kn) = t.has kn := by
          rw [decide_eq_true (by omega), decide_eq_true (by omega)]; rfl
        rw [hkb] at HHA HHO
        have HIA : Hid (∀ w1, Below w8.heap.size w8 w1 → Calls Tryz.prog 29 #[.iface ty pv, .iface 104 (I64 kn)] w1 fun e w' => e = .returned (.bool (t.has kn)) ∧ Below w1.heap.size w1 w') := fun w1 hb => errorsIs_any _ t _ kn w1 (HH8.out.below hb) HOK.out
        have HIO : Hid (∀ w1, Below w8.heap.size w8 w1 → Calls Tryz.prog 29 #[.iface 54 (.agg #[.iface 54 (.agg #[.iface ty pv])]), .iface 104 (I64 kn)] w1 fun e w' => e = .returned (.bool (t.has kn)) ∧ Below w1.heap.size w1 w') := fun w1 hb => errorsIs_outer _ t _ kn w1 (HH8.out.below hb) HOK.out
        have HK17 := Lib.hid hk17
        have m5 := mErrS
        have i1k : (0 : Int) ≤ (kn : Int) := by omega
        have i2k : (kn : Int) < 17 := by omega
        unfold sent at HSN
        obtain ⟨nml, hnml⟩ : ∃ nml, nml = Fa.names.getD kn [] := ⟨_, rfl⟩
        rw [← hnml] at HSE
        have HNM := Lib.hid hnml
        clear hkb hk hE8 hnml
        generalize t.has kn = HB at HHA HHO HIA HIO ⊢
        go_wp2_with fail
        refine (HSN.out _).mono ?_
        rintro e w9 ⟨rfl, rfl⟩
        go_wp2_with fail
        refine (HSE.out _ (Below.refl _ _)).mono ?_
        rintro e w10 ⟨rfl, rfl⟩
        go_wp2_with fail
        refine (names_any _).mono ?_
        rintro e w11 ⟨gn, rfl, hnm, hx11⟩
        have n0 := hnm kn HK17.out
        have o11 := (hx11.cell (p := ⟨O, 0, none⟩) (cell_lt o8)).trans o8
        clear hnm
        rw [← HNM.out] at n0
        go_wp2_with fail
        refine (HIA.out _ hx11).mono ?_
        rintro e w12 ⟨rfl, hx⟩
        have hb12 := hx11.trans (hx.mono hx11.size)
        have o12 := (hx.cell (p := ⟨O, 0, none⟩) (cell_lt o11)).trans o11
        clear hx
        go_wp2_with fail
        refine (HIO.out _ hb12).mono ?_
        rintro e w13 ⟨rfl, hx⟩
        have hb13 := hb12.trans (hx.mono hb12.size)
        have o13 := (hx.cell (p := ⟨O, 0, none⟩) (cell_lt o12)).trans o12
        clear hx
        go_wp2_with fail
        refine (HHA.out _ hb13).mono ?_
        rintro e w14 ⟨rfl, hx⟩
        have hb14 := hb13.trans (hx.mono hb13.size)
        have o14 := (hx.cell (p := ⟨O, 0, none⟩) (cell_lt o13)).trans o13
        clear hx
        go_wp2_with fail
        refine (HHO.out _ hb14).mono ?_
        rintro e w15 ⟨rfl, hx⟩
        have hb15 := hb14.trans (hx.mono hb14.size)
        clear hx
        go_wp2_with fail
        refine (HS2.out _ hb15).mono ?_
        rintro e w16 ⟨rfl, hx⟩
        have hb16 := hb15.trans (hx.mono hb15.size)
        go_wp2
        go_ret
        exact ⟨rfl, HB8.out.trans (hb16.mono HB8.out.size)⟩
end Go.Proofs.YtgnhbccmdpkbiaaGreatDoor
