/-
  Opener: what a row's argument [][]api.FaNode reads as.
-/
import Derived.Test.YtgnhbccmdpkbiaaGreatDoorFaWit
import Derived.Test.YtgnhbccmdpkbiaaGreatDoorFaL4
namespace Go.Proofs.YtgnhbccmdpkbiaaGreatDoor
open Go.RowKit Go.ChangeShapes Go.WideShapes Go.Deep

set_option maxHeartbeats 2000000 in
set_option maxRecDepth 100000 in
theorem open_nodes_c {H : Type} {enc : TypeId × Value → H} {W : World} {base : Nat} {sp : Nat → Bool} {held : Bool} {u : Value} {d : DataW H} {ps : List MemPlace} {fuel : Nat}
    (hf : DataW.trod enc Tryz.prog W base sp held fuel 22 [u] = some (d, ps)) : ∃ l : List Fa.Node, NodesIn W u l := by
  rcases open_slice Tryz.underlying22 hf with ⟨h0, _⟩ | ⟨a', len', cap', m, n, D, Pl, hcs, _, hl, hm, hmm, hd, hi⟩
  · simp at h0
    subst h0
    exact ⟨[], .inl ⟨none, 0, rfl, rfl⟩, none, 0, rfl, Nat.le_refl _⟩
  · simp at hcs
    subst hcs
    have hC : Tryz.prog.cellsOf 52 = 6 := by kernel_rfl
    rw [hC] at hi
    have hle : len' ≤ m := by rw [hmm]; split <;> omega
    have key : ∀ i, i < len' → ∃ f : Fa.Node, W.cell? (a'.add (i * 6)) = some (I64 f.depth) ∧ W.cell? ((a'.add (i * 6)).add 1) = some (I64 f.joined) ∧ W.cell? ((a'.add (i * 6)).add 2) = some (I64 f.link.kind) ∧ W.cell? ((a'.add (i * 6)).add 3) = some (.string f.link.op) ∧ W.cell? ((a'.add (i * 6)).add 4) = some (I64 f.link.backend) ∧ W.cell? ((a'.add (i * 6)).add 5) = some (I64 f.link.conn) := by
      intro i hil
      obtain ⟨cs', hc, ht'⟩ := hi i (by omega)
      obtain ⟨ys, n', hn', hy, hlen, hyl, hg⟩ := DataW.trod_struct Tryz.underlying52 ht'
      obtain ⟨_, hcl, hat⟩ := World.cells?_some hc
      match cs', hcl with
      | [u0, u1, u2, u3, u4, u5], _ =>
        have c0 := hat 0 (by omega)
        have c1 := hat 1 (by omega)
        have c2 := hat 2 (by omega)
        have c3 := hat 3 (by omega)
        have c4 := hat 4 (by omega)
        have c5 := hat 5 (by omega)
        have k0 : Tryz.prog.cellsOf 3 = 1 := by kernel_rfl
        have k1 : Tryz.prog.cellsOf 34 = 4 := by kernel_rfl
        have k2 : Tryz.prog.cellsOf 9 = 1 := by kernel_rfl
        have k3 : Tryz.prog.cellsOf 2 = 1 := by kernel_rfl
        have k4 : Tryz.prog.cellsOf 32 = 1 := by kernel_rfl
        have g0 := hg 0 _ rfl
        have g1 := hg 1 _ rfl
        have g2 := hg 2 _ rfl
        simp only [List.getElem_toArray, List.getElem_cons_zero, List.getElem_cons_succ, k0, k1] at g0 g1 g2
        match ys, hyl with
        | [y0, y1, y2], _ =>
          simp only [List.drop_zero, List.drop_succ_cons, List.take_succ_cons, List.take_zero, List.getElem?_cons_zero, List.getElem?_cons_succ] at g0 g1 g2
          obtain ⟨z0, e0, _, _⟩ := DataW.trod_int Tryz.underlying3 g0
          obtain ⟨z1, e1, _, _⟩ := DataW.trod_int Tryz.underlying3 g1
          obtain ⟨xs, n2, _, _, _, hxl, hg2⟩ := DataW.trod_struct Tryz.underlying34 g2
          have m0 := hg2 0 _ rfl
          have m1 := hg2 1 _ rfl
          have m2 := hg2 2 _ rfl
          have m3 := hg2 3 _ rfl
          simp only [List.getElem_toArray, List.getElem_cons_zero, List.getElem_cons_succ, k0, k2, k3, k4] at m0 m1 m2 m3
          match xs, hxl with
          | [x0, x1, x2, x3], _ =>
            simp only [List.drop_zero, List.drop_succ_cons, List.take_succ_cons, List.take_zero, List.getElem?_cons_zero, List.getElem?_cons_succ] at m0 m1 m2 m3
            obtain ⟨z2, e2, _, _⟩ := DataW.trod_int Tryz.underlying32 m0
            obtain ⟨z3, e3, _, _⟩ := DataW.trod_string Tryz.underlying9 m1
            obtain ⟨z4, e4, _, _⟩ := DataW.trod_int Tryz.underlying3 m2
            obtain ⟨z5, e5, _, _⟩ := DataW.trod_int Tryz.underlying2 m3
            simp at e0 e1 e2 e3 e4 e5
            subst e0 e1 e2 e3 e4 e5
            exact ⟨⟨z0, z1, ⟨z2, z3, z4, z5⟩⟩, by simpa [Addr.add] using c0, by simpa using c1, by simpa using c2, by simpa using c3, by simpa using c4, by simpa using c5⟩
    obtain ⟨l, hll, hlp⟩ := pick_list ⟨0, 0, Fa.Link.zero⟩ len' _ key
    refine ⟨l, ?_, some a', cap', by rw [hll], by omega⟩
    rcases Nat.eq_zero_or_pos len' with hz | hpos
    · exact .inl ⟨some a', cap', by rw [hz], List.eq_nil_of_length_eq_zero (by omega)⟩
    · obtain ⟨b, o, spot⟩ := a'
      obtain ⟨f0, g0, _⟩ := key 0 hpos
      have hspot : spot = none := by simpa [Addr.add] using World.cell?_spot g0
      subst hspot
      have hb : b < W.heap.size := cell_lt (o := o) (v := I64 f0.depth) (by simpa [Addr.add] using g0)
      refine .inr ⟨b, o, cap', by rw [hll], hb, fun j hj i u hu => ?_⟩
      obtain ⟨p0, p1, p2, p3, p4, p5⟩ := hlp j hj
      have e : (⟨b, o, none⟩ : Addr).add (j * 6) = ⟨b, o + j * 6, none⟩ := by unfold Addr.add; split <;> simp_all
      rw [e] at p0 p1 p2 p3 p4 p5
      match i, hu with
      | 0, hu => simp [encNode] at hu; subst hu; exact p0
      | 1, hu => simp [encNode] at hu; subst hu; simpa [Addr.add] using p1
      | 2, hu => simp [encNode] at hu; subst hu; simpa [Addr.add] using p2
      | 3, hu => simp [encNode] at hu; subst hu; simpa [Addr.add] using p3
      | 4, hu => simp [encNode] at hu; subst hu; simpa [Addr.add] using p4
      | 5, hu => simp [encNode] at hu; subst hu; simpa [Addr.add] using p5

set_option maxRecDepth 100000 in
theorem open_chains {H : Type} {enc : TypeId × Value → H} {W : World} {base b0 : Nat} {sp : Nat → Bool} {held : Bool} {r : Reach} {v : Value} {d : DataW H} {ps : List MemPlace} (hval : Value.okWide Tryz.prog W r b0 39 v)
    (h : DataW.Trod enc Tryz.prog W base sp held 39 v d ps) : ∃ (us : List SlV) (Ls : List (List Fa.Node)), ChainsIn W v us Ls := by
  obtain ⟨a, len, cap, rfl⟩ := okWide_slice Tryz.underlying39 hval
  obtain ⟨fuel, hf⟩ := h
  have hf' : DataW.trod enc Tryz.prog W base sp held fuel 39 [.slice a len cap] = some (d, ps) := hf
  have hC : Tryz.prog.cellsOf 22 = 1 := by kernel_rfl
  rcases open_slice1 Tryz.underlying39 hC hf' with ⟨h0, _⟩ | ⟨a', len', cap', m, n, V, D, Pl, hcs, _, hl, hm, hmm, hd, hi⟩
  · simp at h0
    obtain ⟨rfl, rfl, rfl⟩ := h0
    exact ⟨[], [], .inl ⟨none, 0, rfl, rfl⟩, rfl, fun j h1 => absurd h1 (by simp)⟩
  · simp at hcs
    obtain ⟨rfl, rfl, rfl⟩ := hcs
    have hle : len ≤ m := by rw [hmm]; split <;> omega
    have key : ∀ i, i < len → ∃ z : SlV × List Fa.Node, W.cell? (a'.add i) = some (valS z.1) ∧ NodesIn W (valS z.1) z.2 := by
      intro i hil
      obtain ⟨hc, ht⟩ := hi i (by omega)
      obtain ⟨l, hl⟩ := open_nodes_c ht
      obtain ⟨b, c, e, _⟩ := hl.2
      refine ⟨((b, l.length, c), l), ?_, ?_⟩
      · rw [hc, e]; rfl
      · rw [e] at hl
        exact hl
    obtain ⟨l, hll, hlp⟩ := pick_list ((((none, 0, 0) : SlV), ([] : List Fa.Node)) : SlV × List Fa.Node) len _ key
    refine ⟨l.map (·.1), l.map (·.2), ?_, by simp, fun j h1 h2 => by simpa using (hlp j (by simpa using h1)).2⟩
    rcases Nat.eq_zero_or_pos len with hz | hpos
    · refine .inl ⟨some a', cap, by rw [hz], ?_⟩
      rw [List.eq_nil_of_length_eq_zero (show l.length = 0 by omega)]; rfl
    · obtain ⟨b, o, spot⟩ := a'
      obtain ⟨f0, g0, _⟩ := key 0 hpos
      have hspot : spot = none := by simpa [Addr.add] using World.cell?_spot g0
      subst hspot
      have hb : b < W.heap.size := cell_lt (o := o) (v := valS f0.1) (by simpa [Addr.add] using g0)
      refine .inr ⟨b, o, cap, by rw [List.length_map, hll], hb, fun j hj i u hu => ?_⟩
      have hj' : j < l.length := by simpa using hj
      have p0 := (hlp j hj').1
      have e : (⟨b, o, none⟩ : Addr).add j = ⟨b, o + j, none⟩ := by unfold Addr.add; split <;> simp_all
      rw [e] at p0
      match i, hu with
      | 0, hu =>
        simp [encS] at hu
        subst hu
        simpa using p0
end Go.Proofs.YtgnhbccmdpkbiaaGreatDoor
