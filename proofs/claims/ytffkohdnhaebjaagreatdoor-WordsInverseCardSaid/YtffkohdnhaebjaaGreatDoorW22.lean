/-
  Walks: words.Split.
-/
import Derived.Test.YtffkohdnhaebjaaGreatDoorW21
import Derived.Test.YtffkohdnhaebjaaGreatDoorW15
namespace Go.Proofs.YtffkohdnhaebjaaGreatDoor
open Go.RowKit Go.Shelf
attribute [local go_sem] Oper.semAt_some

set_option maxHeartbeats 400000 in
theorem fields_any (s : ByteArray) (w : World) : Calls Tryz.prog 40 #[.string s] w fun e w' =>
    e = .returned (.func (.func 61) #[] #[.pointer (some ⟨w.heap.size, 0, none⟩)]) ∧ w' = w.alloc (.cells #[.string s] 9) := by
  go_enter Tryz.func40, Tryz.ntmps40
  go_wp2
  go_ret
  exact ⟨rfl, rfl⟩
def SplitPost (l : List UInt8) (w : World) (e : Ending) (w' : World) : Prop := (∃ v, e = .returned (.tuple #[v, .int .i64 (Wd.split l).2]) ∧ ReadsF w' v (Wd.split l).1) ∧ Below w.heap.size w w'
theorem SplitPost.bad {l : List UInt8} {w w' : World} {n : Int} (h : Wd.split l = ([], n)) (hb : Below w.heap.size w w') : SplitPost l w (.returned (.tuple #[.slice none 0 0, .int .i64 n])) w' :=
  ⟨⟨_, by rw [h], by rw [h]; exact ReadsF.nil _⟩, hb⟩

/-- Between two rounds of words.Split: what its own cells hold. -/
def SI (w : World) (pre : List (Wd.Fld × Bool)) (W : World) : Prop := ∃ (acc : List Wd.Fld) (v : Value), pre = acc.map (·, true) ∧
  W.heap[w.heap.size]? = some (.cells #[.slice none 0 0] 34 (0, 0)) ∧ W.heap[w.heap.size + 1]? = some (.cells #[.int .i64 0] 24 (0, 0)) ∧
  W.heap[w.heap.size + 1 + 1]? = some (.cells #[v] 34 (0, 0)) ∧ W.heap[w.heap.size + 1 + 1 + 1]? = some (.cells #[.bool (longs acc)] 4 (0, 0)) ∧
  OwnF W (w.heap.size + 8) v acc ∧ Below w.heap.size w W
def SX (w : World) (c : Code) (pre : List (Wd.Fld × Bool)) (W : World) : Prop := c = .ret ∧ (∃ (acc : List Wd.Fld) (f : Wd.Fld), pre = acc.map (·, true) ++ [(f, false)]) ∧
  W.heap[w.heap.size]? = some (.cells #[.slice none 0 0] 34 (0, 0)) ∧ W.heap[w.heap.size + 1]? = some (.cells #[.int .i64 6] 24 (0, 0)) ∧ Below w.heap.size w W
theorem gr_blk {W W' : World} {k i : Nat} {o : Obj} (h : W.grownBy W' (some k)) (ho : W.heap[i]? = some o) (hne : i ≠ k) : W'.heap[i]? = some o :=
  (h.block i (lt_of_block ho) (fun e => hne (by cases e; rfl))).trans ho
theorem OwnF.gr {W W' : World} {k B : Nat} {v : Value} {l : List Wd.Fld} (h : OwnF W B v l) (hg : W.grownBy W' (some k)) (hk : k < B) : OwnF W' B v l := by
  refine ⟨h.1, ?_⟩
  rcases h.2 with hn | ⟨g, cap, cur, rfl, hbg, hh, rest⟩
  · exact .inl hn
  · exact .inr ⟨g, cap, cur, rfl, hbg, gr_blk hg hh (by omega), rest⟩
theorem SI.gr {w : World} {pre : List (Wd.Fld × Bool)} {W W' : World} {k : Nat} (h : SI w pre W) (hg : W.grownBy W' (some k)) (h1 : w.heap.size + 5 ≤ k) (h2 : k < w.heap.size + 8) : SI w pre W' := by
  obtain ⟨acc, v, rfl, a0, a1, a2, a3, ho, hb⟩ := h
  exact ⟨acc, v, rfl, gr_blk hg a0 (by omega), gr_blk hg a1 (by omega), gr_blk hg a2 (by omega), gr_blk hg a3 (by omega), ho.gr hg h2, hb.grown hg hb.size (fun j e => by cases e; omega)⟩
theorem SX.gr {w : World} {c : Code} {pre : List (Wd.Fld × Bool)} {W W' : World} {k : Nat} (h : SX w c pre W) (hg : W.grownBy W' (some k)) (h1 : w.heap.size + 5 ≤ k) : SX w c pre W' := by
  obtain ⟨rfl, hp, a0, a1, hb⟩ := h
  exact ⟨rfl, hp, gr_blk hg a0 (by omega), gr_blk hg a1 (by omega), hb.grown hg hb.size (fun j e => by cases e; omega)⟩
/-- What stands behind the assignment to the loop's variables. -/
def SA (w : World) (s : ByteArray) (x : Wd.Fld × Bool) (a : Act) (W : World) : Prop := ∃ Bx, w.heap.size + 7 ≤ Bx ∧ W.heap[Bx]? = some (.cells #[S8 x.1.1, .bool x.1.2] 47 (0, 0)) ∧
  a = { tmps := #[.string s, undef, .pointer (some ⟨w.heap.size, 0, none⟩), .pointer (some ⟨w.heap.size + 1, 0, none⟩), .pointer (some ⟨w.heap.size + 1 + 1, 0, none⟩), .pointer (some ⟨w.heap.size + 1 + 1 + 1, 0, none⟩),
    .pointer (some ⟨Bx, 0, none⟩), .bool x.2, .bool (decide (8192 < (s.size : Int))), .string s, .int .i64 s.size, .bool (decide (8192 < (s.size : Int))), .bool false, .string s, .bool false, .string s,
    .func (.func 61) #[] #[.pointer (some ⟨w.heap.size + 1 + 1 + 1 + 1, 0, none⟩)], .agg #[S8 x.1.1, .bool x.1.2], .bool x.2, undef, undef, undef, undef, undef, undef, undef, undef, undef, undef, undef, undef, undef, undef, undef, undef, undef, undef, undef, undef], defers := [] }
theorem cell_put {W : World} {b i k : Nat} {o : Obj} (hne : b ≠ k) : (W.putObj k o).cell? ⟨b, i, none⟩ = W.cell? ⟨b, i, none⟩ := World.cell?_of_block (World.putObj_heap_other hne)
theorem heap_set2 {W : World} {b k i : Nat} {o : Obj} {u : Value} (h : W.heap[b]? = some o) (hne : b ≠ k) : (W.setCell ⟨k, i, none⟩ u).heap[b]? = some o := (Below.heap_setCell W ⟨k, i, none⟩ u b hne).trans h
/-- The end of words.Split: the results' cells, the mark of the loop. -/
theorem split_end {w W : World} {D : Nat} {v : Value} {n : Int} {R : Ending → World → Prop} {a : Act} {tp : Array Value} {e : Exit} (he : e = .normal ∨ e = .ret) (ha : a = { tmps := tp, defers := [{ target := .collected D, args := #[] }] })
    (h2 : tp[2]?.getD undef = .pointer (some ⟨w.heap.size, 0, none⟩)) (h3 : tp[3]?.getD undef = .pointer (some ⟨w.heap.size + 1, 0, none⟩))
    (hD : W.heap[D]? = some (.deferred (some []))) (r0 : W.heap[w.heap.size]? = some (.cells #[v] 34 (0, 0))) (r1 : W.heap[w.heap.size + 1]? = some (.cells #[.int .i64 n] 24 (0, 0)))
    (hv : v.cells.size = 1) (hs : ∃ a n c, v = .slice a n c) (hDw : w.heap.size + 1 < D) (hR : R (.returned (.tuple #[v, .int .i64 n])) (W.putObj D (.deferred none))) : bodyPostM Fence.wide 3 Tryz.prog Tryz.f14 R e a W := by
  subst ha
  have c0 : (W.putObj D (.deferred none)).cell? ⟨w.heap.size, 0, none⟩ = some v := (cell_put (by omega)).trans (blk_cell r0 0)
  have c1 : (W.putObj D (.deferred none)).cell? ⟨w.heap.size + 1, 0, none⟩ = some (.int .i64 n) := (cell_put (by omega)).trans (blk_cell r1 0)
  obtain ⟨a0, n0, cc, rfl⟩ := hs
  have hres : (results Tryz.f14 tp).run Tryz.prog (W.putObj D (.deferred none)) = .ok (.tuple #[.slice a0 n0 cc, .int .i64 n]) (W.putObj D (.deferred none)) := by
    simp [results, Tryz.results14, go_sem, h2, h3, c0, c1]
  rcases he with rfl | rfl
  · exact ⟨by simp, .inl ⟨_, _, rfl, run_takeDeferred hD, _, hres, hR⟩⟩
  · exact ⟨by simp, .inl ⟨_, _, rfl, run_takeDeferred hD, _, hres, hR⟩⟩
theorem split_err {l : List UInt8} (h0 : l ≠ []) (h1 : l.length ≤ 8192) (h : Wd.F l = none) : Wd.split l = ([], 6) := by
  unfold Wd.split
  rw [if_neg (by omega), if_neg h0, Wd.fields_F, h]
theorem split_fin {l : List UInt8} {acc : List Wd.Fld} (h0 : l ≠ []) (h1 : l.length ≤ 8192) (h : Wd.F l = some acc) : Wd.split l = if longs acc || 64 < acc.length then ([], 3) else (acc, 0) := by
  unfold Wd.split
  rw [if_neg (by omega), if_neg h0, Wd.fields_F, h]
  rfl

set_option maxHeartbeats 1000000 in
set_option maxRecDepth 100000 in
theorem Split_any (s : ByteArray) (w : World) (hE : Env w) (hs0 : s.size ≤ 140737488351232) : Calls Tryz.prog 14 #[.string s] w (SplitPost s.data.toList w) := by
  by_cases hbig : 8192 < s.size
  · have HS := Lib.hid (show Wd.split s.data.toList = ([], 3) from by unfold Wd.split; rw [if_pos (by rw [← size_list]; exact hbig)])
    clear hE
    go_enter Tryz.func14, Tryz.ntmps14
    go_wp2
    refine bodyPost_ret (v := .tuple #[.slice none 0 0, .int .i64 3]) (by simp [results, Tryz.results14, go_sem]) rfl ?_
    exact SplitPost.bad HS.out (((Below.refl _ _).alloc (Nat.le_refl _) _).alloc (by simp) _)
  by_cases hz : s.size = 0
  · have hl : s.data.toList = [] := List.eq_nil_of_length_eq_zero (by rw [← size_list]; exact hz)
    have HS := Lib.hid (show Wd.split s.data.toList = ([], 0) from by rw [hl]; rfl)
    have he : s.toList.isEmpty = true := by rw [Lib.toList_data, hl]; rfl
    clear hl hE
    go_enter Tryz.func14, Tryz.ntmps14
    go_wp2
    refine bodyPost_ret (v := .tuple #[.slice none 0 0, .int .i64 0]) (by simp [results, Tryz.results14, go_sem]) rfl ?_
    exact SplitPost.bad HS.out (((Below.refl _ _).alloc (Nat.le_refl _) _).alloc (by simp) _)
  have hpos : 0 < s.size := by omega
  have hc := list_cons hpos
  have he : s.toList.isEmpty = false := by rw [Lib.toList_data, hc]; rfl
  have he2 : ¬ s.toList = [] := by rw [Lib.toList_data, hc]; simp
  have hne : Hid (s.data.toList ≠ []) := by rw [hc]; exact List.cons_ne_nil _ _
  have hll : Hid (s.data.toList.length ≤ 8192) := by show _ ≤ _; rw [← size_list]; omega
  clear hc
  refine (callsIn_wide (n := 3)).1 ?_
  refine callsIn_of_wp_marks Tryz.func14 rfl trivial ?_ rfl
  simp only [Tryz.ntmps14, List.size_toArray, List.length_cons, List.length_nil, Nat.reduceAdd, Nat.reduceSub, Array.replicate_succ, Array.replicate_zero, List.push_toArray, List.append_toArray, List.nil_append, List.cons_append]
  gi_wp2_with (refine ⟨trivial, ?_⟩; gi_at_call 40; refine (callsIn_wide.2 (fields_any _ _)).mono ?_; rintro e w' ⟨rfl, rfl⟩)
  obtain ⟨wL, hwL⟩ : ∃ wL, wL = (((((w.alloc (.cells #[.slice none 0 0] 34)).alloc (.cells #[.int .i64 0] 24)).alloc (.cells #[.slice none 0 0] 34)).alloc (.cells #[.bool false] 4)).alloc (.cells #[.string s] 9)) := ⟨_, rfl⟩
  rw [← hwL]
  have hsz : wL.heap.size = w.heap.size + 5 := by rw [hwL]; simp
  have hbL : Below w.heap.size w wL := by rw [hwL]; exact (((((Below.refl _ _).alloc (Nat.le_refl _) _).alloc (by simp) _).alloc (by simp <;> omega) _).alloc (by simp <;> omega) _).alloc (by simp <;> omega) _
  have hEL : Env wL := hE.below hbL
  have hcL : wL.cell? ⟨w.heap.size + 1 + 1 + 1 + 1, 0, none⟩ = some (.string s) := by
    rw [hwL]; rw [World.cell?_alloc_at _ _ _ _ (by simp)]; rfl
  have p0 : wL.heap[w.heap.size]? = some (.cells #[.slice none 0 0] 34 (0, 0)) := by
    rw [hwL, Below.heap_alloc _ _ _ (by simp <;> omega), Below.heap_alloc _ _ _ (by simp <;> omega), Below.heap_alloc _ _ _ (by simp <;> omega), Below.heap_alloc _ _ _ (by simp)]; exact blk_new _ _
  have p1 : wL.heap[w.heap.size + 1]? = some (.cells #[.int .i64 0] 24 (0, 0)) := by
    rw [hwL, Below.heap_alloc _ _ _ (by simp <;> omega), Below.heap_alloc _ _ _ (by simp <;> omega), Below.heap_alloc _ _ _ (by simp)]
    have h := blk_new (w.alloc (.cells #[.slice none 0 0] 34)) (.cells #[.int .i64 0] 24)
    rwa [World.size_alloc] at h
  have p2 : wL.heap[w.heap.size + 1 + 1]? = some (.cells #[.slice none 0 0] 34 (0, 0)) := by
    rw [hwL, Below.heap_alloc _ _ _ (by simp <;> omega), Below.heap_alloc _ _ _ (by simp)]
    have h := blk_new ((w.alloc (.cells #[.slice none 0 0] 34)).alloc (.cells #[.int .i64 0] 24)) (.cells #[.slice none 0 0] 34)
    rwa [World.size_alloc, World.size_alloc] at h
  have p3 : wL.heap[w.heap.size + 1 + 1 + 1]? = some (.cells #[.bool false] 4 (0, 0)) := by
    rw [hwL, Below.heap_alloc _ _ _ (by simp)]
    have h := blk_new (((w.alloc (.cells #[.slice none 0 0] 34)).alloc (.cells #[.int .i64 0] 24)).alloc (.cells #[.slice none 0 0] 34)) (.cells #[.bool false] 4)
    rwa [World.size_alloc, World.size_alloc, World.size_alloc] at h
  clear hwL
  have hI0 : SI w [] wL := ⟨[], .slice none 0 0, rfl, p0, p1, p2, p3, OwnF.nil _ _, hbL⟩
  have HPL := Lib.hid (Wd.prod_len s.data.toList)
  refine wpIn_range_own (gf := 61) (lb := #[.pointer (some ⟨w.heap.size + 1 + 1 + 1 + 1, 0, none⟩)]) rfl (by omega) rfl trivial (enters_of Tryz.func61 (by kernel_rfl) rfl)
    (encs := encF) (fun _ => rfl) (S := fun ys => ys = Wd.prod s.data.toList) (Sp := fun pre => pre <+: Wd.prod s.data.toList) (N := (Wd.prod s.data.toList).length)
    (SI w) (SX w) (KpF w.heap.size (w.heap.size + 7)) (SA w s) ?bI ?bX ?bA ?bK (fun _ _ _ => KpF.t) ?cI ?cX ?h0 ?hseq ?assign ?body ?done ?stop
  case bI => exact fun pre W l o h hl => h.gr (grownBy_putObj' _ _ _) (by omega) (by omega)
  case bX => exact fun c pre W l o h hl => h.gr (grownBy_putObj' _ _ _) (by omega)
  case bA =>
    rintro x a' pre W l o ⟨Bx, h1, h2, h3⟩ hl
    exact ⟨Bx, h1, (World.putObj_heap_other (by omega)).trans h2, h3⟩
  case bK => exact fun W l o hl => ⟨⟨rfl, rfl, rfl, by simp, fun k hk => World.putObj_heap_other (by omega)⟩, fun _ => World.putObj_heap_other (by omega)⟩
  case cI => exact fun pre W W' h hg => h.gr hg (by omega) (by omega)
  case cX => exact fun c pre W W' h hg => h.gr hg (by omega)
  case h0 => exact fun L => (hI0.gr (World.grownBy_alloc wL _ (some (w.heap.size + 5))) (by omega) (by omega)).gr (World.grownBy_alloc _ _ (some (w.heap.size + 5))) (by omega) (by omega)
  case hseq =>
    intro W1 J Jx hz1 hb1 hcJ hcX hY hJ0
    have h7 : W1.heap.size = w.heap.size + 7 := by omega
    have hcl : Closed W1.heap.size J := by rw [hz1]; exact hcJ
    have hfin := fields1_in 2 (by omega) w.heap.size (wL.heap.size + 1) (w.heap.size + 1 + 1 + 1 + 1) hE.big s.data.toList hll.out J Jx W1 (hEL.below hb1) (by omega) hcl
      (by rw [h7]; exact hY) hJ0 (by rw [hb1.cell (p := ⟨_, 0, none⟩) (show w.heap.size + 1 + 1 + 1 + 1 < wL.heap.size by omega), hcL])
    exact hfin
  case assign =>
    intro pre x W K hsW hi hK
    obtain ⟨acc, v, rfl, q0, q1, q2, q3, ho, hb⟩ := hi
    have hi : SI w _ W := ⟨acc, v, rfl, q0, q1, q2, q3, ho, hb⟩
    dsimp only [encF]
    gi_wp2
    have hgr : W.grownBy (W.alloc (.cells #[S8 x.1.1, .bool x.1.2] 47)) (some (w.heap.size + 5)) := World.grownBy_alloc _ _ _
    exact hK _ _ (fun k h1 h2 => Below.heap_alloc _ _ _ (by omega)) ⟨(Below.refl _ _).alloc hb.size _, fun h => Below.heap_alloc _ _ _ h⟩ (hi.gr hgr (by omega) (by omega)) ⟨W.heap.size, by omega, blk_new _ _, rfl⟩
  case body =>
    rintro pre x a' W hsW ⟨acc, v, rfl, q0, q1, q2, q3, ho, hb⟩ ⟨Bx, hBx, hx, rfl⟩ hlen
    have c0 : W.cell? ⟨w.heap.size, 0, none⟩ = some (.slice none 0 0) := blk_cell q0 0
    have c1 : W.cell? ⟨w.heap.size + 1, 0, none⟩ = some (.int .i64 0) := blk_cell q1 0
    have c2 : W.cell? ⟨w.heap.size + 1 + 1, 0, none⟩ = some v := blk_cell q2 0
    have c3 : W.cell? ⟨w.heap.size + 1 + 1 + 1, 0, none⟩ = some (.bool (longs acc)) := blk_cell q3 0
    have f0 := blk_free q0 0
    have f1 := blk_free q1 0
    have f2 := blk_free q2 0
    have f3 := blk_free q3 0
    have x0 : W.cell? ⟨Bx, 0, none⟩ = some (S8 x.1.1) := blk_cell hx 0
    have x1 : W.cell? ⟨Bx, 1, none⟩ = some (.bool x.1.2) := blk_cell hx 1
    obtain ⟨⟨t, q⟩, is⟩ := x
    cases is with
    | false =>
      gi_wp2
      have hk2 : ∀ i, i ≠ w.heap.size → i ≠ w.heap.size + 1 → ((W.setCell ⟨w.heap.size, 0, none⟩ (.slice none 0 0)).setCell ⟨w.heap.size + 1, 0, none⟩ (.int .i64 6)).heap[i]? = W.heap[i]? :=
        fun i h1 h2 => (Below.heap_setCell _ _ _ i h2).trans (Below.heap_setCell _ _ _ i h1)
      exact ⟨fun k h1 h2 => hk2 k (by omega) (by omega), rfl, ⟨acc, (t, q), rfl⟩, heap_set2 (blk_set q0 0 _) (by omega), blk_set (heap_set2 q1 (by omega)) 0 _,
        (hb.setCell (p := ⟨w.heap.size, 0, none⟩) (Nat.le_refl _) _).setCell (p := ⟨w.heap.size + 1, 0, none⟩) (Nat.le_succ _) _⟩
    | true =>
      obtain ⟨i0, hi, hz0, hz1, hz2⟩ := info_parts infoF
      have hBl := lt_of_block hx
      have ho2 : ∀ u, OwnF ((W.setCell ⟨w.heap.size + 1 + 1 + 1, 0, none⟩ u).alloc (.cells #[S8 t, .bool q] 47)) (w.heap.size + 8) v acc := fun u => (ho.gr (grownBy_setCell' W (w.heap.size + 1 + 1 + 1) u) (by omega)).alloc _
      have hcl : ∀ u, ∀ j y, [S8 t, Value.bool q][j]? = some y → ((W.setCell ⟨w.heap.size + 1 + 1 + 1, 0, none⟩ u).alloc (.cells #[S8 t, .bool q] 47)).cell? ((⟨W.heap.size, 0, none⟩ : Addr).add j) = some y := by
        intro u j y hy
        have h := newF (W.setCell ⟨w.heap.size + 1 + 1 + 1, 0, none⟩ u) (S8 t) (.bool q) 47
        rw [World.size_setCell] at h
        rw [addr_add0]
        match j, hy with
        | 0, hy => simp at hy; subst hy; exact h.1
        | 1, hy => simp at hy; subst hy; exact h.2
      have hone : ∀ u ∈ [S8 t, Value.bool q], u.oneCell' = true := by
        intro u hu; simp at hu; rcases hu with rfl | rfl <;> rfl
      have hal : acc.length + 1 ≤ 8193 := by
        have h1 := HPL.out; have h2 := hll.out
        rw [List.length_map] at hlen; omega
      have hvl := fun k hk => (ho.lt k hk).1
      have HLS := Lib.hid (longs_snoc acc (t, q))
      have hfin : ∀ (u : Value) (lo : Bool) (w1 : World) (g' cap' : Nat), u = .bool lo → longs (acc ++ [(t, q)]) = lo → ((W.setCell ⟨w.heap.size + 1 + 1 + 1, 0, none⟩ u).alloc (.cells #[S8 t, .bool q] 47)).grownBy w1 v.ownBlock →
          w1.ownsRow (w.heap.size + 8) 47 2 (.slice (some ⟨g', 0, none⟩) (acc.length + 1) cap') (acc.length + 1) (fcells acc ++ [S8 t, .bool q]) →
          w1.cell? ⟨w.heap.size + 1 + 1, 0, none⟩ = some v ∧ w1.frozen? ⟨w.heap.size + 1 + 1, 0, none⟩ = false ∧
          Hid (postR (w.heap.size + 5) (KpF w.heap.size (w.heap.size + 7)) (SI w) (SX w) (acc.map (·, true) ++ [((t, q), true)]) W .normal { tmps := #[], defers := [] } (w1.setCell ⟨w.heap.size + 1 + 1, 0, none⟩ (.slice (some ⟨g', 0, none⟩) (acc.length + 1) cap'))) := by
        intro u lo w1 g' cap' hu hlo hg hown
        subst hu
        have hk1 : ∀ i o, i < w.heap.size + 8 → i ≠ w.heap.size + 1 + 1 + 1 → W.heap[i]? = some o → w1.heap[i]? = some o := by
          intro i o h1 h2 h3
          have h4 := heap_set2 (i := 0) (u := .bool lo) h3 h2
          exact (hg.block i (by rw [World.size_alloc]; have := lt_of_block h4; omega) (fun e => by have := hvl i e.symm; omega)).trans ((Below.heap_alloc _ _ _ (lt_of_block h4)).trans h4)
        have hk3 : w1.heap[w.heap.size + 1 + 1 + 1]? = some (.cells #[.bool lo] 4 (0, 0)) := by
          have h4 := blk_set q3 0 (.bool lo)
          exact (hg.block _ (by rw [World.size_alloc]; have := lt_of_block h4; omega) (fun e => by have := hvl _ e.symm; omega)).trans ((Below.heap_alloc _ _ _ (lt_of_block h4)).trans h4)
        have r2 := hk1 _ _ (by omega) (by omega) q2
        refine ⟨blk_cell r2 0, blk_free r2 0, ?_⟩
        have hkeep : ∀ i o, i < w.heap.size + 8 → i ≠ w.heap.size + 1 + 1 + 1 → i ≠ w.heap.size + 1 + 1 → W.heap[i]? = some o → (w1.setCell ⟨w.heap.size + 1 + 1, 0, none⟩ (.slice (some ⟨g', 0, none⟩) (acc.length + 1) cap')).heap[i]? = some o :=
          fun i o h1 h2 h3 h4 => heap_set2 (hk1 i o h1 h2 h4) h3
        have hget : ∀ i, i < W.heap.size → ∃ o, W.heap[i]? = some o := fun i h => ⟨_, Array.getElem?_eq_getElem h⟩
        have hbW : ∀ A, Below w.heap.size A W → Below w.heap.size A (w1.setCell ⟨w.heap.size + 1 + 1, 0, none⟩ (.slice (some ⟨g', 0, none⟩) (acc.length + 1) cap')) := fun A hA =>
          ((((hA.setCell (p := ⟨w.heap.size + 1 + 1 + 1, 0, none⟩) (by show w.heap.size ≤ w.heap.size + 1 + 1 + 1; omega) _).alloc (by rw [World.size_setCell]; omega) _).grown hg (by rw [World.size_alloc, World.size_setCell]; omega) (fun k hk => by have := hvl k hk; omega)).setCell (p := ⟨w.heap.size + 1 + 1, 0, none⟩) (by show w.heap.size ≤ w.heap.size + 1 + 1; omega) _)
        have hown2 : OwnF w1 (w.heap.size + 8) (.slice (some ⟨g', 0, none⟩) (acc.length + 1) cap') (acc ++ [(t, q)]) := by
          unfold OwnF; rw [List.length_append, fcells_snoc]; exact hown
        show RecK _ _ _ ∧ KpF _ _ _ _ ∧ SI w _ _
        refine ⟨fun k h1 h2 => ?_, ⟨hbW W (Below.refl _ _), fun h => ?_⟩, acc ++ [(t, q)], _, by simp, hkeep _ _ (by omega) (by omega) (by omega) q0, hkeep _ _ (by omega) (by omega) (by omega) q1, blk_set r2 0 _, heap_set2 (by rw [hlo]; exact hk3) (by omega), hown2.gr (grownBy_setCell' w1 (w.heap.size + 1 + 1) _) (by omega), hbW w hb⟩
        · obtain ⟨o, ho⟩ := hget k (by omega)
          rw [ho]; exact hkeep k o (by omega) (by omega) (by omega) ho
        · obtain ⟨o, ho⟩ := hget _ h
          rw [ho]; exact hkeep _ o (by omega) (by omega) (by omega) ho
      have HFIN := Lib.hid hfin
      have hv : ∃ a c, v = .slice a acc.length c := by
        rcases ho.reads with ⟨a, cap, rfl, rfl⟩ | ⟨b, o, cap, rfl, _⟩
        · exact ⟨_, _, rfl⟩
        · exact ⟨_, _, rfl⟩
      clear hfin
      cases hlo : longs acc with
      | true =>
        rw [hlo] at c3
        have HLO := Lib.hid hlo
        clear hlo hv
        gi_wp2_with (gi_at_builtin; refine wpListIn_append_own _ rfl _ _ 34 rfl (w.heap.size + 8) 47 i0 (.agg #[.string ⟨#[]⟩, .bool false]) 2 24 Tryz.underlying34 hi hz0 hz1 hz2 rfl (by decide) _ _ _ rfl (ho2 _) ⟨W.heap.size, 0, none⟩ 1 1 [S8 t, .bool q] rfl rfl (hcl _) hone (by unfold maxLen; omega) (by omega) (by simp; omega) ?_; intro v' w1 hown' hgrow _; obtain ⟨g', cap', rfl⟩ := ownsRow_succ hown'; obtain ⟨d2, e2, HP⟩ := HFIN.out _ true w1 g' cap' rfl (by rw [HLS.out, HLO.out]; rfl) hgrow hown')
        exact HP.out
      | false =>
        rw [hlo] at c3
        have HLO := Lib.hid hlo
        clear hlo hv
        gi_wp2_with (gi_at_builtin; refine wpListIn_append_own _ rfl _ _ 34 rfl (w.heap.size + 8) 47 i0 (.agg #[.string ⟨#[]⟩, .bool false]) 2 24 Tryz.underlying34 hi hz0 hz1 hz2 rfl (by decide) _ _ _ rfl (ho2 _) ⟨W.heap.size, 0, none⟩ 1 1 [S8 t, .bool q] rfl rfl (hcl _) hone (by unfold maxLen; omega) (by omega) (by simp; omega) ?_; intro v' w1 hown' hgrow _; obtain ⟨g', cap', rfl⟩ := ownsRow_succ hown'; obtain ⟨d2, e2, HP⟩ := HFIN.out (.bool (decide (2000 < (t.length : Int)))) (decide (2000 < (t.length : Int))) w1 g' cap' rfl (by rw [HLS.out, HLO.out, Bool.false_or]; exact decide_eq_decide.2 (by show 2000 < t.length ↔ _; omega)) hgrow hown')
        exact HP.out
  case done =>
    rintro ys W rfl ⟨acc, v, hacc, q0, q1, q2, q3, ho, hb⟩ hD
    have HF := Lib.hid (split_fin hne.out hll.out (Wd.prod_all hacc))
    have hr := ho.reads
    rw [hsz] at hD ⊢
    clear hsz
    have c0 : W.cell? ⟨w.heap.size, 0, none⟩ = some (.slice none 0 0) := blk_cell q0 0
    have c1 : W.cell? ⟨w.heap.size + 1, 0, none⟩ = some (.int .i64 0) := blk_cell q1 0
    have c2 : W.cell? ⟨w.heap.size + 1 + 1, 0, none⟩ = some v := blk_cell q2 0
    have c3 : W.cell? ⟨w.heap.size + 1 + 1 + 1, 0, none⟩ = some (.bool (longs acc)) := blk_cell q3 0
    have f0 := blk_free q0 0
    have f1 := blk_free q1 0
    have hv : ∃ a c, v = .slice a acc.length c := by
      rcases hr with ⟨a, cap, rfl, rfl⟩ | ⟨b, o, cap, rfl, _⟩
      · exact ⟨_, _, rfl⟩
      · exact ⟨_, _, rfl⟩
    obtain ⟨a0, cv, rfl⟩ := hv
    cases hlo : longs acc with
    | true =>
      rw [hlo] at c3
      have HS := Lib.hid (show Wd.split s.data.toList = ([], 3) from by rw [HF.out, hlo]; rfl)
      clear hacc hlo
      gi_wp2
      have hD2 := heap_set2 (i := 0) (u := .int .i64 3) (heap_set2 (i := 0) (u := .slice none 0 0) hD (show w.heap.size + 5 ≠ w.heap.size by omega)) (show w.heap.size + 5 ≠ w.heap.size + 1 by omega)
      refine split_end (w := w) (.inr rfl) rfl rfl rfl hD2 (heap_set2 (blk_set q0 0 _) (by omega)) (blk_set (heap_set2 q1 (by omega)) 0 _) rfl ⟨_, _, _, rfl⟩ (by omega) ?_
      exact SplitPost.bad HS.out (((hb.setCell (p := ⟨w.heap.size, 0, none⟩) (Nat.le_refl _) _).setCell (p := ⟨w.heap.size + 1, 0, none⟩) (Nat.le_succ _) _).grown (grownBy_putObj' _ _ _) (by simpa using hb.size) (fun j e => by cases e; omega))
    | false =>
      rw [hlo] at c3
      by_cases h64 : 64 < acc.length
      · have HS := Lib.hid (show Wd.split s.data.toList = ([], 3) from by rw [HF.out, hlo, if_pos]; simpa using h64)
        clear hacc hlo
        gi_wp2
        have hD2 := heap_set2 (i := 0) (u := .int .i64 3) (heap_set2 (i := 0) (u := .slice none 0 0) hD (show w.heap.size + 5 ≠ w.heap.size by omega)) (show w.heap.size + 5 ≠ w.heap.size + 1 by omega)
        refine split_end (w := w) (.inr rfl) rfl rfl rfl hD2 (heap_set2 (blk_set q0 0 _) (by omega)) (blk_set (heap_set2 q1 (by omega)) 0 _) rfl ⟨_, _, _, rfl⟩ (by omega) ?_
        exact SplitPost.bad HS.out (((hb.setCell (p := ⟨w.heap.size, 0, none⟩) (Nat.le_refl _) _).setCell (p := ⟨w.heap.size + 1, 0, none⟩) (Nat.le_succ _) _).grown (grownBy_putObj' _ _ _) (by simpa using hb.size) (fun j e => by cases e; omega))
      · have HS := Lib.hid (show Wd.split s.data.toList = (acc, 0) from by rw [HF.out, hlo, if_neg]; simpa using h64)
        clear hacc hlo
        gi_wp2
        have hD2 := heap_set2 (i := 0) (u := .int .i64 0) (heap_set2 (i := 0) (u := .slice a0 acc.length cv) hD (show w.heap.size + 5 ≠ w.heap.size by omega)) (show w.heap.size + 5 ≠ w.heap.size + 1 by omega)
        refine split_end (w := w) (.inr rfl) rfl rfl rfl hD2 (heap_set2 (blk_set q0 0 _) (by omega)) (blk_set (heap_set2 q1 (by omega)) 0 _) rfl ⟨_, _, _, rfl⟩ (by omega) ?_
        refine ⟨⟨_, by rw [HS.out], ?_⟩, ((hb.setCell (p := ⟨w.heap.size, 0, none⟩) (Nat.le_refl _) _).setCell (p := ⟨w.heap.size + 1, 0, none⟩) (Nat.le_succ _) _).grown (grownBy_putObj' _ _ _) (by simpa using hb.size) (fun j e => by cases e; omega)⟩
        rw [HS.out]
        exact (((ho.gr (grownBy_setCell' W w.heap.size _) (by omega)).gr (grownBy_setCell' _ (w.heap.size + 1) _) (by omega)).gr (grownBy_putObj' _ _ _) (by omega)).reads
  case stop =>
    rintro c pre W hpre ⟨rfl, ⟨acc, f, rfl⟩, q0, q1, hb⟩ hD
    have HS := Lib.hid (split_err hne.out hll.out (Wd.prod_stop hpre))
    rw [hsz] at hD ⊢
    clear hsz
    have c0 : W.cell? ⟨w.heap.size, 0, none⟩ = some (.slice none 0 0) := blk_cell q0 0
    have c1 : W.cell? ⟨w.heap.size + 1, 0, none⟩ = some (.int .i64 6) := blk_cell q1 0
    gi_wp2
    refine split_end (w := w) (.inr rfl) rfl rfl rfl hD q0 q1 rfl ⟨_, _, _, rfl⟩ (by omega) ?_
    exact SplitPost.bad HS.out (hb.grown (grownBy_putObj' _ _ _) hb.size (fun j e => by cases e; omega))
end Go.Proofs.YtffkohdnhaebjaaGreatDoor
