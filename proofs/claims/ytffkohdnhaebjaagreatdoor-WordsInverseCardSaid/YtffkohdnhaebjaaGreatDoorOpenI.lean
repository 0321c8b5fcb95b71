/-
  Openers: what a row's argument []int reads as, and one that is a struct of such a list and a number.
-/
import Derived.Test.YtffkohdnhaebjaaGreatDoorOpenF
import Derived.Test.YtffkohdnhaebjaaGreatDoorW19
namespace Go.Proofs.YtffkohdnhaebjaaGreatDoor
open Go.RowKit Go.ChangeShapes Go.WideShapes Go.Deep

set_option maxRecDepth 100000 in
theorem open_ints_c {H : Type} {enc : TypeId × Value → H} {W : World} {base : Nat} {sp : Nat → Bool} {held : Bool} {u : Value} {d : DataW H} {ps : List MemPlace} {fuel : Nat}
    (hf : DataW.trod enc Tryz.prog W base sp held fuel 22 [u] = some (d, ps)) : ∃ l : List Int, ReadsL 1 encI W u l ∧ (l.length = 0 ∨ ∃ es sp, d = .slice es sp ∧ es.length = l.length) := by
  have hC : Tryz.prog.cellsOf 3 = 1 := by kernel_rfl
  rcases open_slice1 Tryz.underlying22 hC hf with ⟨h0, _⟩ | ⟨a', len', cap', m, n, V, D, Pl, hcs, _, hl, hm, hmm, hd, hi⟩
  · simp at h0
    subst h0
    exact ⟨[], .inl ⟨none, 0, rfl, rfl⟩, .inl rfl⟩
  · simp at hcs
    subst hcs
    have hle : len' ≤ m := by rw [hmm]; split <;> omega
    have key : ∀ i, i < len' → ∃ z : Int, W.cell? (a'.add i) = some (.int .i64 z) := by
      intro i hil
      obtain ⟨hc, ht⟩ := hi i (by omega)
      obtain ⟨z, hz, _⟩ := DataW.trod_int Tryz.underlying3 ht
      simp at hz
      exact ⟨z, by rw [hc, hz]⟩
    obtain ⟨l, hll, hlp⟩ := pick_list (0 : Int) len' _ key
    refine ⟨l, ?_, .inr ⟨_, _, congrArg (·.1) hd, by simp [hll]⟩⟩
    rcases Nat.eq_zero_or_pos len' with hz | hpos
    · refine .inl ⟨some a', cap', by rw [hz], List.eq_nil_of_length_eq_zero (by omega)⟩
    · obtain ⟨b, o, spot⟩ := a'
      obtain ⟨f0, g0⟩ := key 0 hpos
      have hspot : spot = none := by simpa [Addr.add] using World.cell?_spot g0
      subst hspot
      have hb : b < W.heap.size := by simpa [Addr.add] using cell_lt g0
      refine .inr ⟨b, o, cap', by rw [hll], hb, fun j hj i u hu => ?_⟩
      have p0 := hlp j hj
      have e : (⟨b, o, none⟩ : Addr).add j = ⟨b, o + j, none⟩ := by unfold Addr.add; split <;> simp_all
      rw [e] at p0
      match i, hu with
      | 0, hu =>
        simp [encI] at hu
        subst hu
        simpa using p0
set_option maxRecDepth 100000 in
theorem open_ints {H : Type} {enc : TypeId × Value → H} {W : World} {base b0 : Nat} {sp : Nat → Bool} {held : Bool} {r : Reach} {v : Value} {d : DataW H} {ps : List MemPlace} (hval : Value.okWide Tryz.prog W r b0 22 v)
    (h : DataW.Trod enc Tryz.prog W base sp held 22 v d ps) : ∃ l : List Int, ReadsL 1 encI W v l ∧ (l.length = 0 ∨ ∃ es sp, d = .slice es sp ∧ es.length = l.length) := by
  obtain ⟨a, len, cap, rfl⟩ := okWide_slice Tryz.underlying22 hval
  obtain ⟨fuel, hf⟩ := h
  exact open_ints_c hf
set_option maxRecDepth 100000 in
theorem open_numbers {H : Type} {enc : TypeId × Value → H} {W : World} {base b0 : Nat} {sp : Nat → Bool} {held : Bool} {r : Reach} {v : Value} {d : DataW H} {ps : List MemPlace} (hval : Value.okWide Tryz.prog W r b0 39 v)
    (h : DataW.Trod enc Tryz.prog W base sp held 39 v d ps) : ∃ (u : Value) (m : List Int) (n : Int) (dL dN : DataW H), v = .agg #[u, .int .i64 n] ∧ ReadsL 1 encI W u m ∧ (Lit.int .i64 n).wf = true ∧ d = .agg [dL, dN] ∧
      (m.length = 0 ∨ ∃ es sp, dL = .slice es sp ∧ es.length = m.length) := by
  obtain ⟨cs, rfl, hcs⟩ := okWide_struct Tryz.underlying39 hval
  obtain ⟨fuel, hf⟩ := h
  have hf' : DataW.trod enc Tryz.prog W base sp held fuel 39 cs.toList = some (d, ps) := hf
  obtain ⟨y0, y1, k, hx, hl, h0, h1⟩ := trod_struct2 Tryz.underlying39 hf'
  have hC : Tryz.prog.cellsOf 39 = 2 := by kernel_rfl
  have k0 : Tryz.prog.cellsOf 22 = 1 := by kernel_rfl
  have k1 : Tryz.prog.cellsOf 2 = 1 := by kernel_rfl
  rw [hC] at hl hcs
  obtain ⟨c0, c1, hcc⟩ : ∃ c0 c1, cs = #[c0, c1] := by
    refine ⟨cs[0], cs[1], ?_⟩
    apply Array.ext
    · simpa using hcs
    · intro i h1 h2
      match i, h1 with
      | 0, _ => rfl
      | 1, _ => rfl
      | i + 2, h1 => omega
  subst hcc
  simp only [k0, k1, List.drop_zero, List.drop_succ_cons, List.take_succ_cons, List.take_zero] at h0 h1
  obtain ⟨m, hm, hd⟩ := open_ints_c (d := y0.1) (ps := y0.2) h0
  obtain ⟨n, hn, _, hw⟩ := DataW.trod_int Tryz.underlying2 h1
  simp at hn
  subst hn
  refine ⟨c0, m, n, y0.1, y1.1, rfl, hm, hw, ?_, hd⟩
  exact congrArg Prod.fst hx
theorem reach_ints {H : Type} {ts : List TypeId} {ds : List (DataW H)} {i : Nat} {d : DataW H} {n : Nat} (h : (DataW.weightsEach Tryz.prog ts ds).all (· ≤ reachBytes) = true) (ht : ts[i]? = some 22) (hd : ds[i]? = some d)
    (hn : n = 0 ∨ ∃ es sp, d = .slice es sp ∧ es.length = n) : n ≤ 17592186044416 := by
  rcases hn with rfl | ⟨es, sp, rfl, rfl⟩
  · omega
  · have h1 := sized_slice h ht hd Tryz.underlying22
    rw [show Tryz.prog.bytesOf 3 = 8 from by kernel_rfl] at h1
    have : reachBytes < 2 ^ 47 := reachBytes_lt
    omega
set_option maxRecDepth 100000 in
theorem reach_numbers {H : Type} {ts : List TypeId} {ds : List (DataW H)} {i : Nat} {dL dN : DataW H} {n : Nat} (h : (DataW.weightsEach Tryz.prog ts ds).all (· ≤ reachBytes) = true) (ht : ts[i]? = some 39) (hd : ds[i]? = some (.agg [dL, dN]))
    (hn : n = 0 ∨ ∃ es sp, dL = .slice es sp ∧ es.length = n) : n ≤ 17592186044416 := by
  refine reach_ints (ts := [22, 2]) (ds := [dL, dN]) (i := 0) ?_ rfl rfl hn
  rw [List.all_eq_true] at h ⊢
  intro x hx
  exact h x (DataW.weights_mem_each ht hd x (by simp only [DataW.weights, Tryz.underlying39]; exact hx))
end Go.Proofs.YtffkohdnhaebjaaGreatDoor
