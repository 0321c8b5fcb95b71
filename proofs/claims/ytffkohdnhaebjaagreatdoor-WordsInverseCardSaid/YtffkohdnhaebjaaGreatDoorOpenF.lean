/-
  Openers: what a row's argument []api.Field reads as.
-/
import Derived.Test.YtffkohdnhaebjaaGreatDoorOwnF
import Derived.Deep.Slices
import Derived.Deep.Fields
import Derived.ChangeSame
import Derived.SizedLaws
namespace Go.Proofs.YtffkohdnhaebjaaGreatDoor
open Go.RowKit Go.ChangeShapes Go.WideShapes Go.Deep

theorem cell_lt {W : World} {a : Addr} {v : Value} (h : W.cell? a = some v) : a.block < W.heap.size := by
  rcases Nat.lt_or_ge a.block W.heap.size with h1 | h1
  · exact h1
  · simp [World.cell?, Array.getElem?_eq_none h1] at h
theorem pick_list {α : Type} (d : α) (n : Nat) (p : Nat → α → Prop) (h : ∀ i, i < n → ∃ x, p i x) : ∃ l : List α, l.length = n ∧ ∀ j (hj : j < l.length), p j l[j] := by
  refine ⟨(List.range n).map fun i => if hi : i < n then Classical.choose (h i hi) else d, by simp, fun j hj => ?_⟩
  have hj' : j < n := by simpa using hj
  simp only [List.getElem_map, List.getElem_range]
  rw [dif_pos hj']
  exact Classical.choose_spec (h j hj')

set_option maxRecDepth 100000 in
theorem open_fields {H : Type} {enc : TypeId × Value → H} {W : World} {base b0 : Nat} {sp : Nat → Bool} {held : Bool} {r : Reach} {v : Value} {d : DataW H} {ps : List MemPlace} (hval : Value.okWide Tryz.prog W r b0 34 v)
    (h : DataW.Trod enc Tryz.prog W base sp held 34 v d ps) : ∃ l : List Wd.Fld, ReadsF W v l ∧ (l.length = 0 ∨ ∃ es sp, d = .slice es sp ∧ es.length = l.length) := by
  obtain ⟨a, len, cap, rfl⟩ := okWide_slice Tryz.underlying34 hval
  obtain ⟨fuel, hf⟩ := h
  rcases open_slice Tryz.underlying34 hf with ⟨h0, _⟩ | ⟨a', len', cap', m, n, D, Pl, hcs, _, hl, hm, hmm, hd, hi⟩
  · simp [Value.cells] at h0
    obtain ⟨rfl, rfl, rfl⟩ := h0
    exact ⟨[], .inl ⟨none, 0, rfl, rfl⟩, .inl rfl⟩
  · simp [Value.cells] at hcs
    obtain ⟨rfl, rfl, rfl⟩ := hcs
    have hC : Tryz.prog.cellsOf 47 = 2 := by kernel_rfl
    rw [hC] at hi
    have hle : len ≤ m := by rw [hmm]; split <;> omega
    have key : ∀ i, i < len → ∃ f : Wd.Fld, W.cell? (a'.add (i * 2)) = some (S8 f.1) ∧ W.cell? ((a'.add (i * 2)).add 1) = some (.bool f.2) := by
      intro i hil
      obtain ⟨cs', hc, ht'⟩ := hi i (by omega)
      obtain ⟨ys, n', hn', hy, hlen, hyl, hg⟩ := DataW.trod_struct Tryz.underlying47 ht'
      obtain ⟨_, hcl, hat⟩ := World.cells?_some hc
      match cs', hcl with
      | [u0, u1], _ =>
        have c0 := hat 0 (by omega)
        have c1 := hat 1 (by omega)
        have k0 : Tryz.prog.cellsOf 9 = 1 := by kernel_rfl
        have k1 : Tryz.prog.cellsOf 4 = 1 := by kernel_rfl
        have g0 := hg 0 _ rfl
        have g1 := hg 1 _ rfl
        simp only [List.getElem_toArray, List.getElem_cons_zero, List.getElem_cons_succ, k0, k1] at g0 g1
        match ys, hyl with
        | [y0, y1], _ =>
          simp only [List.drop_zero, List.drop_succ_cons, List.take_succ_cons, List.take_zero, List.getElem?_cons_zero, List.getElem?_cons_succ] at g0 g1
          obtain ⟨s, e0, _, _⟩ := DataW.trod_string Tryz.underlying9 g0
          obtain ⟨b, e1, _⟩ := DataW.trod_bool Tryz.underlying4 g1
          simp at e0 e1
          subst e0 e1
          refine ⟨(s.data.toList, b), ?_, by simpa using c1⟩
          have : S8 s.data.toList = .string s := by unfold S8; congr
          rw [this]
          simpa [Addr.add] using c0
    obtain ⟨l, hll, hlp⟩ := pick_list ([], false) len _ key
    refine ⟨l, ?_, .inr ⟨_, _, congrArg (·.1) hd, by simp [hll]⟩⟩
    rcases Nat.eq_zero_or_pos len with hz | hpos
    · refine .inl ⟨some a', cap, by rw [hz], List.eq_nil_of_length_eq_zero (by omega)⟩
    · obtain ⟨b, o, spot⟩ := a'
      obtain ⟨f0, g0, _⟩ := key 0 hpos
      have hspot : spot = none := by simpa [Addr.add] using World.cell?_spot g0
      subst hspot
      have hb : b < W.heap.size := by simpa [Addr.add] using cell_lt g0
      refine .inr ⟨b, o, cap, by rw [hll], hb, fun j hj => ?_⟩
      obtain ⟨p0, p1⟩ := hlp j hj
      have e : (⟨b, o, none⟩ : Addr).add (j * 2) = ⟨b, o + 2 * j, none⟩ := by unfold Addr.add; split <;> simp_all; omega
      rw [e] at p0 p1
      exact ⟨p0, by simpa [Addr.add] using p1⟩
theorem reach_fields {H : Type} {ts : List TypeId} {ds : List (DataW H)} {i : Nat} {d : DataW H} {n : Nat} (h : (DataW.weightsEach Tryz.prog ts ds).all (· ≤ reachBytes) = true) (ht : ts[i]? = some 34) (hd : ds[i]? = some d)
    (hn : n = 0 ∨ ∃ es sp, d = .slice es sp ∧ es.length = n) : n ≤ 5864062014805 := by
  rcases hn with rfl | ⟨es, sp, rfl, rfl⟩
  · omega
  · have h1 := sized_slice h ht hd Tryz.underlying34
    rw [show Tryz.prog.bytesOf 47 = 24 from by kernel_rfl] at h1
    have : reachBytes < 2 ^ 47 := reachBytes_lt
    omega
end Go.Proofs.YtffkohdnhaebjaaGreatDoor
