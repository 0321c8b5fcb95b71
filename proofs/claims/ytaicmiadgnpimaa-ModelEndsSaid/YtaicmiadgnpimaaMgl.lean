/-
  Walks for layer 26 (model): picks.
-/
import Derived.Test.YtaicmiadgnpimaaMw50
namespace Go.Proofs.Ytaicmiadgnpimaa
open Go.RowKit

theorem encO_len (x : OutV) : (encO x).length = 7 := rfl
theorem elOut : ElT Try.prog 72 78 7 88 (.agg #[I64 0, I64 0, I64 0, .slice none 0 0, I64 0, .bool false, .slice none 0 0]) encO :=
  ⟨Try.underlying72, by kernel_rfl, rfl, by decide, encO_len, fun x u hu => by simp [encO, valS] at hu; rcases hu with rfl | rfl | rfl | rfl | rfl | rfl | rfl <;> rfl⟩
set_option maxHeartbeats 8000000 in
set_option maxRecDepth 100000 in
set_option linter.unusedVariables false in
set_option linter.unusedSimpArgs false in
theorem picks_shut (c : Md.Call) (s : Md.State) (u : SlV) (w : World) (hs : s.shut = true)
    (HB : ∀ w1, Below w.heap.size w w1 → Calls Try.prog 36 #[.agg #[I64 s.now, .bool s.shut, valS u], valCall c] w1 fun e w' => ∃ R, e = .returned (.pointer (some ⟨R, 0, none⟩)) ∧ (∃ G cap pvs, RunV (fun i => w1.heap.size ≤ i) R c s [] (fun _ => True) (some ⟨G, 0, none⟩, s.pools.length, cap) (none, 0, 0) pvs w') ∧ w1.heap.size ≤ R ∧ Below w1.heap.size w1 w') :
    Calls Try.prog 37 #[.agg #[I64 s.now, .bool s.shut, valS u], valCall c] w fun e w' => (∃ v, e = .returned v ∧ OutsRd w.heap.size w' v (Md.picks s c)) ∧ Below w.heap.size w w' := by
  have hl : Md.picks s c = [⟨(6, 0, 0), [], s⟩] := by
    unfold Md.picks
    rw [if_pos hs]
  rw [hl]
  have HB' := Lib.hid HB
  clear HB
  obtain ⟨hbA, hcc⟩ := cc_new s u c w
  unfold OB3 OB8 at hbA hcc
  obtain ⟨⟨ua, un, uc⟩, hu0⟩ : ∃ x, x = u := ⟨_, rfl⟩
  obtain ⟨wA, hwA⟩ : ∃ x, x = (w.alloc (.cells #[I64 s.now, .bool s.shut, valS u] 26)).alloc (.cells #[I64 c.kind, I64 c.backend, I64 c.call, I64 c.conn, I64 c.time, .bool c.yes, I64 c.skip, I64 c.breaker] 36) := ⟨_, rfl⟩
  obtain ⟨B, hB⟩ : ∃ x, x = w.heap.size := ⟨_, rfl⟩
  rw [← hwA] at hbA hcc
  have HBA := Lib.hid hbA
  have HCC := Lib.hid hcc
  rw [← hB] at HCC
  have HBs := Lib.hid hB
  unfold valCall at *
  subst hu0
  unfold valS at *
  dsimp only at *
  clear hbA hcc
  obtain ⟨o0, o1, o2, o3, o4, o5, o6, o7, o8, o9, o10⟩ := HCC.out wA (Below.refl _ _)
  unfold valS at o2
  dsimp only at o2
  rw [hs] at o1 hwA HB' ⊢
  have HS := Lib.hid hs
  clear hl hs
  go_enter Try.func37, Try.ntmps37
  go_wp2_with fail
  simp only [← hwA, ← hB]
  clear hwA hB
  clear o0 o1 o2 o3 o4 o5 o6 o7 o8 o9 o10
  refine wp_region_held_drew (S := fun w1 => Hid (Below wA.heap.size wA w1)) (by kernel_rfl) (Below.refl _ _).drew (fun hHeld => ?_)
  refine tk 1 (v := ?vv1_1) (dropAt rfl) (Or.inl ⟨by rfl, ?hv1_1⟩) hHeld ?rv1_1
  case hv1_1 => (intro w hSw; obtain ⟨o0, o1, o2, o3, o4, o5, o6, o7, o8, o9, o10⟩ := HCC.out _ hSw.out; unfold valS at o2; dsimp only at o2; rw [HS.out] at o1; go_simp; first | done | with_reducible rfl)
  try simp only [Act.put, pu2, pu3, pu4]
  refine tk 2 (v := ?vv2_2) (dropAt rfl) (Or.inl ⟨by rfl, ?hv2_2⟩) hHeld ?rv2_2
  case hv2_2 => (intro w hSw; obtain ⟨o0, o1, o2, o3, o4, o5, o6, o7, o8, o9, o10⟩ := HCC.out _ hSw.out; unfold valS at o2; dsimp only at o2; rw [HS.out] at o1; go_simp; first | done | with_reducible rfl)
  try simp only [Act.put, pu2, pu3, pu4]
  refine wpAnyH_ready (rs := [0]) (by kernel_rfl) (by simp) ?_
  refine AllReadyH.cons (o := _) (dropAt (r := _) rfl) (fun K hK => ?_) AllReadyH.nil
  go_simp
  refine (is_any 6 _).mono ?_
  rintro e w3 ⟨rfl, hb3⟩
  have hb3A : Below wA.heap.size wA w3 := hHeld.out.trans (hb3.mono hHeld.out.size)
  refine hK.out _ _ hb3A (fun hHeld3 => ?_)
  clear hK K hb3
  try simp only [Act.put, pu2, pu3, pu4]
  refine wpAnyH_ready (rs := [3]) (by kernel_rfl) (by simp) ?_
  refine AllReadyH.cons (o := _) (dropAt (r := _) rfl) (fun K hK => ?_) AllReadyH.nil
  go_simp
  refine (HB'.out w3 (HBA.out.trans (hb3A.mono HBA.out.size))).mono ?_
  rintro e w4 ⟨R, rfl, ⟨G, cap, pvs, hrun⟩, hR, hb4⟩
  have hb4A : Below wA.heap.size wA w4 := hb3A.trans (hb4.mono hb3A.size)
  have HB4 := Lib.hid hb4A
  have HFIN : Hid ((∃ v, Ending.returned (.slice (some ⟨w4.heap.size, 0, none⟩) 1 1) = .returned v ∧ OutsRd w.heap.size (w4.alloc (.cells #[I64 6, I64 0, I64 0, .slice none 0 0, I64 s.now, .bool true, .slice (some ⟨G, 0, none⟩) s.pools.length cap] 78)) v [⟨(6, 0, 0), [], s⟩]) ∧ Below w.heap.size w (w4.alloc (.cells #[I64 6, I64 0, I64 0, .slice none 0 0, I64 s.now, .bool true, .slice (some ⟨G, 0, none⟩) s.pools.length cap] 78))) := by
    have hq3 := HBA.out.trans (hb3A.mono HBA.out.size)
    obtain ⟨ev, -, hp⟩ := (RunV.toE hrun).stateM (M := w.heap.size) (fun k hk => Nat.le_trans hq3.size hk)
    have hq := HBA.out.trans (hb4A.mono HBA.out.size)
    exact ⟨⟨_, rfl, OutsRd.one (o := ⟨(6, 0, 0), [], s⟩) (x := ((6, 0, 0), (none, 0, 0), s.now, true, (some ⟨G, 0, none⟩, s.pools.length, cap))) (fun w2 hg => ⟨rfl, .nil _, rfl, HS.out.symm, (hp w2 hg).1⟩) hq.size _⟩, hq.alloc hq.size _⟩
  have HB5 := Lib.hid (hb4A.alloc hb4A.size (.cells #[I64 6, I64 0, I64 0, .slice none 0 0, I64 s.now, .bool true, .slice (some ⟨G, 0, none⟩) s.pools.length cap] 78))
  have hrc := runCells_of hrun.blk
  have c0 := hrc.c0
  have c1 := hrc.c1
  have c2 := hrc.c2
  rw [HS.out] at c1
  unfold valS at c2
  dsimp only at c2
  clear hrc hrun hR hb4
  refine hK.out _ _ hb4A (fun hHeld4 => ?_)
  clear hK K hb4A hb3A
  try simp only [Act.put, pu2, pu3, pu4]
  refine tk 4 (v := ?vv4_3) (dropAt rfl) (Or.inl ⟨by rfl, ?hv4_3⟩) hHeld4 ?rv4_3
  case hv4_3 => (intro w hSw; go_simp; first | done | with_reducible rfl)
  try simp only [Act.put, pu2, pu3, pu4]
  refine tk 5 (v := ?vv5_4) (dropAt rfl) (Or.inl ⟨by rfl, ?hv5_4⟩) hHeld4 ?rv5_4
  case hv5_4 => (intro w hSw; go_simp; first | done | with_reducible rfl)
  try simp only [Act.put, pu2, pu3, pu4]
  refine wpAnyH_ready (rs := [6]) (by kernel_rfl) (by simp) ?_
  refine AllReadyH.cons (o := _) (dropAt (r := _) rfl) (fun K hK => ?_) AllReadyH.nil
  go_simp
  refine hK.out _ _ HB4 (fun hHeld5 => ?_)
  clear hK K
  try simp only [Act.put, pu2, pu3, pu4]
  refine tk 7 (v := ?vv7_5) (dropAt rfl) (Or.inl ⟨by rfl, ?hv7_5⟩) hHeld5 ?rv7_5
  case hv7_5 => (intro w hSw; go_simp; first | done | with_reducible rfl)
  try simp only [Act.put, pu2, pu3, pu4]
  refine wpAnyH_ready (rs := [8]) (by kernel_rfl) (by simp) ?_
  refine AllReadyH.cons (o := _) (dropAt (r := _) rfl) (fun K hK => ?_) AllReadyH.nil
  go_simp
  refine hK.out _ _ HB5 (fun hHeld6 => ?_)
  clear hK K
  try simp only [Act.put, pu2, pu3, pu4]
  refine tk 9 (v := ?vv9_6) (dropAt rfl) (Or.inl ⟨by rfl, ?hv9_6⟩) hHeld6 ?rv9_6
  case hv9_6 => (intro w hSw; go_simp; first | done | with_reducible rfl)
  try simp only [Act.put, pu2, pu3, pu4]
  refine wpAnyH_done (by kernel_rfl) ?_ _
  clear c0 c1 c2
  go_wp2_with fail
  go_ret
  exact HFIN.out
end Go.Proofs.Ytaicmiadgnpimaa
namespace Go.Proofs.Ytaicmiadgnpimaa
open Go.RowKit

def outOf (s : Md.State) (c : Md.Call) (x : Md.Pool × Nat) : Md.Outcome := ⟨(8, x.2, 0), [], { s with pools := s.pools.set x.2 (Md.pickP c x.1) }⟩
def outK (s : Md.State) (c : Md.Call) (k : Nat) : List Md.Outcome := ((s.pools.zipIdx.take k).filter (fun x => Md.may x.1 x.2 c.skip)).map (outOf s c)
theorem outK_zero (s : Md.State) (c : Md.Call) : outK s c 0 = [] := by simp [outK]
theorem outK_succ (s : Md.State) (c : Md.Call) {k : Nat} (hk : k < s.pools.length) : outK s c (k + 1) = outK s c k ++ (if Md.may s.pools[k] k c.skip then [outOf s c (s.pools[k], k)] else []) := by
  have hz : k < s.pools.zipIdx.length := by simpa using hk
  unfold outK
  rw [List.take_succ_eq_append_getElem hz, List.filter_append, List.map_append]
  have e : s.pools.zipIdx[k] = (s.pools[k], k) := by simp
  rw [e]
  by_cases hm : Md.may s.pools[k] k c.skip = true
  · simp [hm]
  · simp [hm]
theorem outK_skip (s : Md.State) (c : Md.Call) {k : Nat} (hk : k < s.pools.length) (hm : Md.may s.pools[k] k c.skip = false) : outK s c (k + 1) = outK s c k := by
  rw [outK_succ s c hk, hm]
  simp
theorem outK_pick (s : Md.State) (c : Md.Call) {k : Nat} (hk : k < s.pools.length) (hm : Md.may s.pools[k] k c.skip = true) : outK s c (k + 1) = outK s c k ++ [outOf s c (s.pools[k], k)] := by
  rw [outK_succ s c hk, hm]
  simp
theorem outK_all (s : Md.State) (c : Md.Call) (hs : s.shut = false) : Md.picks s c = if (outK s c s.pools.length).isEmpty then [⟨(9, 0, 0), [], s⟩] else outK s c s.pools.length := by
  have ht : s.pools.zipIdx.take s.pools.length = s.pools.zipIdx := List.take_of_length_le (by simp)
  unfold Md.picks outK
  rw [if_neg (by rw [hs]; exact Bool.false_ne_true), ht]
  simp only [List.isEmpty_map]
  rfl
theorem and_one (a : Nat) (ha : a < 18446744073709551616) : bits .and .i64 (a : Int) 1 = ((a % 2 : Nat) : Int) := by
  have h1 : (BitVec.ofInt 64 (a : Int)).toNat = a := by
    rw [BitVec.ofInt_natCast, BitVec.toNat_ofNat]
    exact Nat.mod_eq_of_lt (by omega)
  show IntKind.i64.wrap ((BitVec.ofInt 64 (a : Int) &&& BitVec.ofInt 64 (1 : Int)).toNat : Int) = _
  have h2 : (BitVec.ofInt 64 (1 : Int)).toNat = 1 := by decide
  rw [BitVec.toNat_and, h1, h2, Nat.and_one_is_mod, IntKind.wrap_i64]
  omega
/-- The skip's bit, as the program asks for it. -/
theorem skip_bit {sk : Int} (h0 : 0 ≤ sk) (h1 : sk ≤ 65535) (k : Nat) : bits .and .i64 (sk / 2 ^ k) 1 = ((sk.toNat / 2 ^ k % 2 : Nat) : Int) := by
  obtain ⟨n, rfl⟩ : ∃ n : Nat, sk = n := ⟨sk.toNat, by omega⟩
  have e : ((n : Int) / 2 ^ k) = ((n / 2 ^ k : Nat) : Int) := by
    rw [Int.natCast_ediv]
    norm_cast
  rw [e, and_one _ (by have := Nat.div_le_self n (2 ^ k); omega)]
  rfl
theorem OwnL.gb {α : Type} {T : TypeId} {n B : Nat} {enc : α → List Value} {w w2 : World} {v : Value} {l : List α} (h : OwnL T n enc w B v l) (hg : Gb (fun i => i < B) w w2) : OwnL T n enc w2 B v l := by
  obtain ⟨h1, h2⟩ := h
  refine ⟨h1, ?_⟩
  rcases h2 with h2 | ⟨g, cap, cur, e1, e2, e3, e4⟩
  · exact .inl h2
  · exact .inr ⟨g, cap, cur, e1, e2, (hg.block g (Array.getElem?_eq_some_iff.1 e3).1 (by omega)).trans e3, e4⟩
/-- Where the loop of picks stands: the outcomes of the first k backends lie in the row of v, which the walk owns; they stay as long as only that row changes. -/
structure PkAt (s : Md.State) (c : Md.Call) (wA : World) (k : Nat) (xs : List OutV) (v : Value) (wr : World) : Prop where
  own : OwnL 78 7 encO wr wA.heap.size v xs
  len : xs.length = (outK s c k).length
  rd : ∀ w', Gb (fun i => v.ownBlock = some i ∨ i < wA.heap.size) wr w' → ∀ j (h : j < xs.length) (h' : j < (outK s c k).length), OutRd w' xs[j] (outK s c k)[j]
  bel : Below wA.heap.size wA wr
theorem PkAt.start (s : Md.State) (c : Md.Call) (wA : World) : PkAt s c wA 0 [] (.slice none 0 0) wA :=
  ⟨.nil _ _, by rw [outK_zero]; rfl, fun _ _ _ h => absurd h (Nat.not_lt_zero _), .refl _ _⟩
theorem PkAt.below {s : Md.State} {c : Md.Call} {wA wr w2 : World} {k : Nat} {xs : List OutV} {v : Value} (h : PkAt s c wA k xs v wr) (hb : Below wr.heap.size wr w2) : PkAt s c wA k xs v w2 :=
  ⟨h.own.below hb, h.len, fun w' hg => h.rd w' ((Gb.of_below hb).trans hg), h.bel.trans (hb.mono h.bel.size)⟩
theorem PkAt.skip {s : Md.State} {c : Md.Call} {wA wr : World} {k : Nat} {xs : List OutV} {v : Value} (h : PkAt s c wA k xs v wr) (hk : k < s.pools.length) (hm : Md.may s.pools[k] k c.skip = false) : PkAt s c wA (k + 1) xs v wr := by
  have e := outK_skip s c hk hm
  exact ⟨h.own, by rw [e]; exact h.len, fun w' hg j hj hj' => by
    have hj2 : j < (outK s c k).length := by rw [← e]; exact hj'
    have q := h.rd w' hg j hj hj2
    simpa only [e] using q, h.bel⟩
theorem PkAt.pick {s : Md.State} {c : Md.Call} {wA wr w5 w6 w7 : World} {k M R G cap : Nat} {W : Nat → Prop} {xs : List OutV} {v : Value} (h : PkAt s c wA k xs v wr) (hk : k < s.pools.length) (hm : Md.may s.pools[k] k c.skip = true)
    (hM : wr.heap.size ≤ M) (hb5 : Below wr.heap.size wr w5) (hE : RunE (fun i => M ≤ i) R c (outOf s c (s.pools[k], k)).next [] W G s.pools.length cap w5) (hb6 : Below w5.heap.size w5 w6) {x : OutV}
    (hx : x = ((8, (k : Int), 0), (none, 0, 0), s.now, s.shut, (some ⟨G, 0, none⟩, s.pools.length, cap))) {g' c' : Nat}
    (ho : OwnL 78 7 encO w7 wA.heap.size (.slice (some ⟨g', 0, none⟩) (xs.length + 1) c') (xs ++ [x])) (hg : w6.grownBy w7 v.ownBlock) (hat : some g' = v.ownBlock ∨ g' = w6.heap.size) :
    PkAt s c wA (k + 1) (xs ++ [x]) (.slice (some ⟨g', 0, none⟩) (xs.length + 1) c') w7 := by
  have h56 := hb6.size
  have hr5 := hb5.size
  have ho6 : OwnL 78 7 encO w6 wA.heap.size v xs := (h.own.below hb5).below hb6
  have hb6A : Below wA.heap.size wA w6 := (h.bel.trans (hb5.mono h.bel.size)).trans (hb6.mono (Nat.le_trans h.bel.size hr5))
  have e := outK_pick s c hk hm
  refine ⟨ho, by rw [e, List.length_append, List.length_append, h.len]; rfl, fun w' hgb => ?_, below_appL hb6A ho6 hg hb6A.size⟩
  have hown : ∀ i, v.ownBlock = some i → i < wr.heap.size := fun i hi => (h.own.lt i hi).2
  have hgb' : ∀ i, i < w7.heap.size → i ≠ g' → ¬ i < wA.heap.size → w'.heap[i]? = w7.heap[i]? := fun i hi hne hnA => hgb.block i hi (fun q => by
    rcases q with q | q
    · exact hne (by simp [Value.ownBlock] at q; exact q.symm)
    · exact hnA q)
  have h67 : w6.heap.size ≤ w7.heap.size := hg.size
  have hG : Gb (fun i => v.ownBlock = some i ∨ i < wA.heap.size) wr w' := by
    refine ⟨hgb.os.trans (hg.os.trans (hb6.os.trans hb5.os)), hgb.tape.trans (hg.tape.trans (hb6.tape.trans hb5.tape)), hgb.output.trans (hg.output.trans (hb6.output.trans hb5.output)), by have := hgb.size; omega, fun i hi hn => ?_⟩
    have hne : i ≠ g' := by
      rcases hat with q | q
      · exact fun e2 => hn (.inl (by rw [e2]; exact q.symm))
      · omega
    exact (hgb' i (by omega) hne (fun q => hn (.inr q))).trans ((hg.block i (by omega) (fun q => hn (.inl q.symm))).trans ((hb6.block i (by omega)).trans (hb5.block i hi)))
  have hE6 := hE.below hb6
  have hE' : RunE (fun i => M ≤ i) R c (outOf s c (s.pools[k], k)).next [] W G s.pools.length cap w' := by
    obtain ⟨ev, pvs, hv⟩ := hE6
    refine ⟨ev, pvs, hv.outside (T := fun i => i = g' ∨ v.ownBlock = some i ∨ i < wA.heap.size) ⟨hgb.os.trans hg.os, hgb.tape.trans hg.tape, hgb.output.trans hg.output, Nat.le_trans h67 hgb.size, fun i hi hn => ?_⟩ (fun i hi hMi hT => ?_)⟩
    · exact (hgb' i (by omega) (fun q => hn (.inl q)) (fun q => hn (.inr (.inr q)))).trans (hg.block i hi (fun q => hn (.inr (.inl q.symm))))
    · rcases hT with q | q | q
      · rcases hat with z | z
        · have := hown g' z.symm
          omega
        · omega
      · have := hown i q
        omega
      · have := h.bel.size
        omega
  intro j hj hj'
  have hxo : OutRd w' x (outOf s c (s.pools[k], k)) := by
    obtain ⟨ev, _, hp, _⟩ := hE'.state
    rw [hx]
    exact ⟨rfl, .nil _, rfl, rfl, hp⟩
  have q := h.rd w' hG
  have ej : (outK s c (k + 1))[j] = (outK s c k ++ [outOf s c (s.pools[k], k)])[j]'(by rw [← e]; exact hj') := by simp only [e]
  rw [ej]
  by_cases hlt : j < xs.length
  · rw [List.getElem_append_left hlt, List.getElem_append_left (by rw [← h.len]; exact hlt)]
    exact q j hlt (by rw [← h.len]; exact hlt)
  · have hj1 : j = xs.length := by rw [List.length_append] at hj; simp at hj; omega
    subst hj1
    have e1 : (xs ++ [x])[xs.length] = x := by simp
    have e2 : (outK s c k ++ [outOf s c (s.pools[k], k)])[xs.length]'(by rw [← e]; exact hj') = outOf s c (s.pools[k], k) := by
      rw [List.getElem_append_right (by rw [h.len]; exact Nat.le_refl _)]
      simp
    rw [e1, e2]
    exact hxo
/-- Behind the last backend. -/
theorem PkAt.outs {s : Md.State} {c : Md.Call} {wA wr : World} {k : Nat} {xs : List OutV} {v : Value} (h : PkAt s c wA k xs v wr) : OutsRd wA.heap.size wr v (outK s c k) :=
  ⟨xs, h.len, fun w2 hg => ⟨(h.own.gb hg).reads encO_len, h.rd w2 (hg.mono (fun _ _ q => .inr q))⟩⟩
end Go.Proofs.Ytaicmiadgnpimaa
