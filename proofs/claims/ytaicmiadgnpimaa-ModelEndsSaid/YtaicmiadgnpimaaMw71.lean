/-
  Walks for layer 26 (model): fresh and ended, the functions of the law ModelEnds.
-/
import Derived.Test.YtaicmiadgnpimaaMcn
import Derived.Test.YtaicmiadgnpimaaMw69
import Derived.Test.YtaicmiadgnpimaaMdL0
import Derived.Deep.DeepCutAuto
import Derived.Deep.AppendLies
namespace Go.Proofs.Ytaicmiadgnpimaa
open Go.RowKit

/-- How many numbers of a list are n or more. -/
def cge (l : List Int) (n : Int) : Nat := (l.filter (fun x => decide (n ≤ x))).length
theorem cge_le (l : List Int) (n : Int) : cge l n ≤ l.length := List.length_filter_le _ _
theorem cge_mono (n : Int) : ∀ l : List Int, cge l (n + 1) ≤ cge l n
 | [] => Nat.le_refl _
 | x :: t => by
  have ih := cge_mono n t
  unfold cge at *
  rw [List.filter_cons, List.filter_cons]
  by_cases h1 : n + 1 ≤ x
  · rw [if_pos (by simpa using h1), if_pos (by simp; omega)]
    simpa using ih
  · rw [if_neg (by simpa using h1)]
    split
    · simp only [List.length_cons]
      omega
    · exact ih
theorem cge_step {n : Int} : ∀ {l : List Int}, n ∈ l → cge l (n + 1) + 1 ≤ cge l n
 | x :: t, h => by
  have hm := cge_mono n t
  by_cases hx : x = n
  · subst hx
    unfold cge at *
    rw [List.filter_cons, List.filter_cons, if_neg (by simp; omega), if_pos (by simp)]
    simp only [List.length_cons]
    omega
  · have ht : n ∈ t := by
     rcases List.mem_cons.1 h with q | q
     · exact absurd q.symm hx
     · exact q
    have ih := cge_step ht
    unfold cge at *
    rw [List.filter_cons, List.filter_cons]
    by_cases h1 : n + 1 ≤ x
    · rw [if_pos (by simpa using h1), if_pos (by simp; omega)]
      simp only [List.length_cons]
      omega
    · rw [if_neg (by simpa using h1), if_neg (by simp; omega)]
      exact ih
theorem notin_take {l : List Int} {k : Nat} {n : Int} (hk : k < l.length) (h1 : n ∉ l.take k) (h2 : l[k] ≠ n) : n ∉ l.take (k + 1) := by
 rw [List.take_succ_eq_append_getElem hk]
 simp only [List.mem_append, List.mem_singleton, not_or]
 exact ⟨h1, fun q => h2 q.symm⟩
set_option maxHeartbeats 4000000 in
set_option maxRecDepth 100000 in
set_option linter.unusedVariables false in
set_option linter.unusedSimpArgs false in
theorem fresh_any (s : Md.State) (u : SlV) (w : World) (h : Sta w u s) :
 Calls Try.prog 17 #[.agg #[I64 s.now, .bool s.shut, valS u]] w fun e w' => ∃ n : Int, e = .returned (I64 n) ∧ 1 ≤ n ∧ n ≤ 5000000 ∧ n ∉ Md.conns s ∧ Below w.heap.size w w' := by
 have hal := (Below.refl w.heap.size w).alloc (Nat.le_refl _) (.cells #[I64 s.now, .bool s.shut, valS u] 26)
 have HCN := Lib.hid (conns_any s u _ (h.below hal))
 have hcl := conns_len h.good
 have HAL := Lib.hid hal
 obtain ⟨ua, un, uc⟩ := u
 unfold valS at *
 dsimp only at *
 clear h hal
 go_enter Try.func17, Try.ntmps17
 go_wp2_with fail
 refine HCN.out.mono ?_
 rintro e w2 ⟨v, rfl, hr, hb2⟩
 have HB2 := Lib.hid (HAL.out.trans (hb2.mono HAL.out.size))
 obtain ⟨va, cap, hv⟩ := hr.len
 have HR := Lib.hid hr
 obtain ⟨l, hl⟩ : ∃ x, x = Md.conns s := ⟨_, rfl⟩
 rw [← hl] at hcl hv HR
 have HLE := Lib.hid hl
 clear hl hr hb2
 obtain ⟨L, hL⟩ : ∃ x, x = l.length := ⟨_, rfl⟩
 rw [← hL] at hcl hv
 have HL := Lib.hid hL
 have hge := cge_le l 1
 rw [← hL] at hge
 clear hL
 subst hv
 go_wp2_with fail
 go_loopw [4, 5] (fun nv iv wr => ∃ n : Int, ∃ i : Nat, 1 ≤ n ∧ n - 1 + (cge l n : Int) ≤ (L : Int) ∧ i ≤ L ∧ nv = .int .i64 n ∧ iv = .int .i64 i ∧ Hid (n ∉ l.take i) ∧ Hid (Below w2.heap.size w2 wr)) (fun nv iv _ => cge l (intOf nv) * (L + 1) + (L - (intOf iv).toNat))
 case atStart => exact ⟨1, 0, by omega, by omega, Nat.zero_le _, rfl, rfl, Lib.hid (by simp), Lib.hid (Below.refl _ _)⟩
 case round =>
  obtain ⟨n, i, hn1, hnc, hi, rfl, rfl, HN, HB⟩ := hrel
  by_cases hlt : i < L
  · have hil : i < l.length := by rw [← HL.out]; exact hlt
    obtain ⟨g, o, cp, e, hg, hc⟩ := HR.out.form (by intro e; rw [e] at hil; simp at hil)
    injection e with e1 e2 e3
    subst e1
    have hc0 := hc i hil 0 _ rfl
    rw [Nat.mul_one, Nat.add_zero] at hc0
    have c0 : wr.cell? ⟨g, o + i, none⟩ = some (I64 l[i]) := (HB.out.cell (p := ⟨g, _, none⟩) hg).trans hc0
    have hiI : (i : Int) < (L : Int) := by omega
    have hwn : IntKind.i64.wrap (n + 1) = n + 1 := by rw [IntKind.wrap_i64]; omega
    clear hc hc0 hg e2 e3
    by_cases he : l[i] = n
    · have hst := cge_step (l := l) (n := n) (by rw [← he]; exact List.getElem_mem hil)
      rw [he] at c0
      have hee : (n == n) = true := by simp
      clear he
      go_wp2_with fail
      refine ⟨⟨n + 1, 0, by omega, by omega, Nat.zero_le _, rfl, rfl, Lib.hid (by simp), HB⟩, ?_⟩
      simp only [intOf]
      have q := Nat.mul_le_mul_right (L + 1) hst
      rw [Nat.add_mul, Nat.one_mul] at q
      simp
      omega
    · have hee : (l[i] == n) = false := by rw [beq_eq_false_iff_ne]; exact he
      have HN2 := Lib.hid (notin_take hil HN.out he)
      generalize l[i] = z at c0 hee
      clear he
      go_wp2_with fail
      refine ⟨⟨n, i + 1, hn1, hnc, hlt, rfl, by rw [show (i : Int) + 1 = ((i + 1 : Nat) : Int) by omega], HN2, HB⟩, ?_⟩
      simp [intOf]
      omega
  · have hin : ¬ (i : Int) < (L : Int) := by omega
    have hnl : n ∉ l := by
     have q := HN.out
     rw [List.take_of_length_le (by have := HL.out; omega)] at q
     exact q
    rw [HLE.out] at hnl
    have HNL := Lib.hid hnl
    clear hnl
    go_wp2_with fail
    go_ret
    exact ⟨n, rfl, hn1, by omega, HNL.out, HB2.out.trans (HB.out.mono HB2.out.size)⟩
/-- What ended leaves behind: the next state s2, what is open. -/
structure EndPost (s : Md.State) (c : Md.Call) (S : Nat → Prop) (v : SlV) (K B : Nat) (w : World) (s2 : Md.State) (nv v2 : SlV) (O2 : List Int) (w' : World) : Prop where
 next : (s2 = s ∧ (Md.outcomes s c).2 ≠ 0) ∨ ((Md.outcomes s c).2 = 0 ∧ ∃ o ∈ Md.act s c, s2 = o.next)
 good : Md.Good s2
 bnd : Md.Bnd s2
 lies : ∀ w2, Gb (fun i => S i ∨ (valS v2).ownBlock = some i) w' w2 → PoolsAt w2 (valS nv) s2.pools
 blk : w'.heap[K]? = some (.cells #[valS v2] 54 (0, 0))
 own : OwnL 2 1 encI w' B (valS v2) O2
 perm : O2.Perm (Md.conns s2)
 gb : Gb (fun i => i = K ∨ (valS v).ownBlock = some i) w w'
 place : ∀ i, (valS v2).ownBlock = some i → (valS v).ownBlock = some i ∨ w.heap.size ≤ i
def EndE (s : Md.State) (c : Md.Call) (S : Nat → Prop) (v : SlV) (K B : Nat) (w : World) (e : Ending) (w' : World) : Prop := ∃ (s2 : Md.State) (nv v2 : SlV) (O2 : List Int), e = .returned (.tuple #[.agg #[I64 s2.now, .bool s2.shut, valS nv], .bool true]) ∧ EndPost s c S v K B w s2 nv v2 O2 w'
theorem EndE.mk {s : Md.State} {c : Md.Call} {S : Nat → Prop} {v : SlV} {K B : Nat} {w : World} {e : Ending} {w' : World} (s2 : Md.State) (nv v2 : SlV) (O2 : List Int) (h1 : e = .returned (.tuple #[.agg #[I64 s2.now, .bool s2.shut, valS nv], .bool true])) (h2 : EndPost s c S v K B w s2 nv v2 O2 w') : EndE s c S v K B w e w' := ⟨s2, nv, v2, O2, h1, h2⟩
theorem OwnL.gb_ne {α : Type} {T : TypeId} {n B r : Nat} {enc : α → List Value} {w w2 : World} {v : Value} {l : List α} (h : OwnL T n enc w B v l) (hg : Gb (fun i => i = r) w w2) (hn : ∀ i, v.ownBlock = some i → i ≠ r) : OwnL T n enc w2 B v l := by
 refine ⟨h.1, h.2.imp id ?_⟩
 rintro ⟨g, cap, cur, e, h1, h2, h3⟩
 exact ⟨g, cap, cur, e, h1, hg.blk h2 (hn g (by rw [e]; rfl)), h3⟩
theorem OwnL.mono0 {α : Type} {T : TypeId} {n B C : Nat} {enc : α → List Value} {w : World} {v : Value} {l : List α} (h : OwnL T n enc w B v l) (hc : C ≤ B) : OwnL T n enc w C v l :=
 ⟨h.1, h.2.imp id fun ⟨g, cap, cur, h1, h2, h3⟩ => ⟨g, cap, cur, h1, Nat.le_trans hc h2, h3⟩⟩
theorem closed_len (l : List Md.Effect) : (Md.closedOf l).length ≤ l.length := by
 unfold Md.closedOf
 rw [List.length_map]
 exact List.length_filter_le _ _
theorem closed_cons (k b c n : Int) (t : List Md.Effect) : Md.closedOf ((k, b, c, n) :: t) = if (k == 11) = true then n :: Md.closedOf t else Md.closedOf t := by
 unfold Md.closedOf
 rw [List.filter_cons]
 split <;> rfl
theorem perm_out {V A R : List Int} {n : Int} (h : V.Perm (A ++ n :: R)) : n ∈ V ∧ (V.erase n).Perm (A ++ R) := by
 have h1 : V.Perm (n :: (A ++ R)) := h.trans List.perm_middle
 refine ⟨h1.mem_iff.2 (by simp), ?_⟩
 have q := h1.erase n
 rwa [List.erase_cons_head] at q
/-- append(v, n), and where the new slice lies. -/
theorem appIK {o : Oper} {a : Act} {K : Act → World → Prop} {Q : Exit → Act → World → Prop} (w : World) (s x : Operand)
 (ho : o.op = .call { callee := .builtin .append, args := #[s, x], argTypes := #[54, 54] }) (B : Nat) (v : Value) (l : List Int) (n : Int) (hs : a.eval s = v) (hown : OwnL 2 1 encI w B v l) (g c : Nat) (hx : a.eval x = .slice (some ⟨g, 0, none⟩) 1 c)
 (h0 : w.cell? ⟨g, 0, none⟩ = some (I64 n)) (hlen : l.length ≤ 10000000) (hbase : B ≤ w.heap.size)
 (h : ∀ g' c' w', OwnL 2 1 encI w' B (.slice (some ⟨g', 0, none⟩) (l.length + 1) c') (l ++ [n]) → w.grownBy w' v.ownBlock → (v.ownBlock = some g' ∨ g' = w.heap.size) → K (a.put o.dst (.slice (some ⟨g', 0, none⟩) (l.length + 1) c')) w') : o.wp Try.prog a w K Q := by
 obtain ⟨i0, hi, hz0, hz1, hz2⟩ := info_parts (elI).info
 refine wp_append_lies w s x 54 ho B 2 i0 (I64 0) 1 8 (elI).und hi hz0 hz1 hz2 (elI).zc (elI).pos v l.length (l.flatMap encI) hs hown ⟨g, 0, none⟩ 1 c [I64 n] hx rfl ?_ (by intro u hu; simp at hu; subst hu; rfl) (by omega) (by unfold maxLen; omega) (by omega) hbase w.heap.size rfl ?_
 · intro j u hu
   cases j with
   | zero =>
    simp at hu
    subst hu
    rw [addr_add0]
    exact h0
   | succ j => simp at hu
 · intro g' c' w' h1 h2 h3 _
   refine h g' c' w' ?_ h2 h3
   unfold OwnL
   rw [List.length_append, List.flatMap_append]
   exact h1
set_option maxHeartbeats 8000000 in
set_option maxRecDepth 100000 in
set_option linter.unusedVariables false in
set_option linter.unusedSimpArgs false in
theorem ended_no (c : Md.Call) (pk : Int) (s : Md.State) (u v : SlV) (O : List Int) (K B : Nat) (S : Nat → Prop) (w : World) (h : Sta w u s) (hS : ∀ w2, Gb S w w2 → PoolsAt w2 (valS u) s.pools) (hlt : ∀ i, S i → i < w.heap.size) (hSK : S K) (hSv : ∀ i, (valS v).ownBlock = some i → S i) (hk : w.heap[K]? = some (.cells #[valS v] 54 (0, 0))) (hKB : K < B) (hB : B ≤ w.heap.size) (ho : OwnL 2 1 encI w B (valS v) O) (hO : O.Perm (Md.conns s)) (hp0 : 0 ≤ pk) (hp1 : pk ≤ 255) (h1 : c.call ≤ 9223372036854775807) (h2 : c.conn ≤ 9223372036854775807) (hE : (Md.outcomes s c).2 ≠ 0) :
 Calls Try.prog 16 #[.agg #[I64 s.now, .bool s.shut, valS u], vAct c pk, .pointer (some ⟨K, 0, none⟩)] w fun e w' => EndE s c S v K B w e w' := by
 obtain ⟨ua, un, uc⟩ := u
 have hfn := four_new w (.cells #[I64 s.now, .bool s.shut, .slice ua un uc] 26) (.cells #[I64 c.kind, I64 c.backend, I64 c.call, I64 c.conn, I64 c.time, .bool c.yes, I64 c.skip, I64 c.breaker, .int .u8 pk] 38) (.cells #[I64 0, .bool false, .slice none 0 0] 26) (.cells #[I64 0, .bool false, .slice none 0 0] 26)
 obtain ⟨wA, hwA⟩ : ∃ x, x = (((w.alloc (.cells #[I64 s.now, .bool s.shut, .slice ua un uc] 26)).alloc (.cells #[I64 c.kind, I64 c.backend, I64 c.call, I64 c.conn, I64 c.time, .bool c.yes, I64 c.skip, I64 c.breaker, .int .u8 pk] 38)).alloc (.cells #[I64 0, .bool false, .slice none 0 0] 26)) := ⟨_, rfl⟩
 have hA : Below w.heap.size w wA ∧ wA.heap[w.heap.size]? = some (.cells #[I64 s.now, .bool s.shut, .slice ua un uc] 26) ∧ wA.heap[w.heap.size + 1]? = some (.cells #[I64 c.kind, I64 c.backend, I64 c.call, I64 c.conn, I64 c.time, .bool c.yes, I64 c.skip, I64 c.breaker, .int .u8 pk] 38) ∧ wA.heap[w.heap.size + 1 + 1]? = some (.cells #[I64 0, .bool false, .slice none 0 0] 26) ∧ wA.heap.size = w.heap.size + 3 := by
  have a1 := (((Below.refl w.heap.size w).alloc (Nat.le_refl _) (.cells #[I64 s.now, .bool s.shut, .slice ua un uc] 26)).alloc (by simp) (.cells #[I64 c.kind, I64 c.backend, I64 c.call, I64 c.conn, I64 c.time, .bool c.yes, I64 c.skip, I64 c.breaker, .int .u8 pk] 38)).alloc (by simp; omega) (.cells #[I64 0, .bool false, .slice none 0 0] 26)
  rw [hwA]
  refine ⟨a1, ?_, ?_, ?_, by simp⟩
  · rw [alloc_get, if_neg (by simp; omega), alloc_get, if_neg (by simp), alloc_get, if_pos rfl]
  · rw [alloc_get, if_neg (by simp), alloc_get, if_pos (by simp)]
  · rw [alloc_get, if_pos (by simp)]
 have HA := Lib.hid hA
 clear hA hfn
 have HP := Lib.hid (played_no c pk s (ua, un, uc) wA (h.below HA.out.1) hE)
 have HG := Lib.hid h.good
 have HBN := Lib.hid h.bnd
 have HS := Lib.hid hS
 have HK := Lib.hid hk
 have HO := Lib.hid ho
 have HPE := Lib.hid hO
 have HE := Lib.hid hE
 obtain ⟨nn, hnn⟩ : ∃ x, x = s.now := ⟨_, rfl⟩
 obtain ⟨ns, hns⟩ : ∃ x, x = s.shut := ⟨_, rfl⟩
 have HNN := Lib.hid hnn
 have HNS := Lib.hid hns
 obtain ⟨B3, hB3⟩ : ∃ x, x = w.heap.size := ⟨_, rfl⟩
 have HB3 := Lib.hid hB3
 unfold vAct valS at *
 dsimp only at *
 rw [← hnn, ← hns] at HP hwA HA ⊢
 rw [← hB3] at HA
 clear hnn hns h hS hk ho hO hE
 go_enter Try.func16, Try.ntmps16
 go_wp2_with fail
 simp only [← hwA, ← hB3]
 clear hwA hB3
 refine HP.out.mono ?_
 rintro e w3 ⟨rfl, hb3⟩
 dsimp only
 go_upto_region 3 with fail
 have ha := ((Below.refl w3.heap.size w3).alloc (Nat.le_refl _) (.cells #[I64 nn, .bool ns, .slice ua un uc] 26)).alloc (by simp) (.cells #[I64 0, I64 0, I64 0] 31)
 obtain ⟨w4, hw4⟩ : ∃ x, x = (w3.alloc (.cells #[I64 nn, .bool ns, .slice ua un uc] 26)).alloc (.cells #[I64 0, I64 0, I64 0] 31) := ⟨_, rfl⟩
 rw [← hw4] at ha
 simp only [← hw4]
 have hb4 : Below wA.heap.size wA w4 := hb3.trans (ha.mono hb3.size)
 clear hw4 ha hb3
 have HB4 := Lib.hid hb4
 have k0 := (hb4.block _ (lt_of_block HA.out.2.1)).trans HA.out.2.1
 have k2 := (hb4.block _ (lt_of_block HA.out.2.2.2.1)).trans HA.out.2.2.2.1
 have HK2 := Lib.hid k2
 have x0 := blk_cell k0 0
 have x1 := blk_cell k0 1
 have x2 := blk_cell k0 2
 have fx0 := blk_free k0 0
 have fx1 := blk_free k0 1
 have fx2 := blk_free k0 2
 simp only [List.getElem?_toArray, List.getElem?_cons_succ, List.getElem?_cons_zero] at x0 x1 x2
 have y0 := blk_cell k2 0
 have y1 := blk_cell k2 1
 have y2 := blk_cell k2 2
 have fy0 := blk_free k2 0
 have fy1 := blk_free k2 1
 have fy2 := blk_free k2 2
 simp only [List.getElem?_toArray, List.getElem?_cons_succ, List.getElem?_cons_zero] at y0 y1 y2
 clear k0 k2 hb4
 go_wp2_with fail
 have hq := blk_set (blk_set (blk_set HK2.out 0 (I64 nn)) 1 (.bool ns)) 2 (.slice ua un uc)
 have z0 := blk_cell hq 0
 have z1 := blk_cell hq 1
 have z2 := blk_cell hq 2
 simp only [List.setIfInBounds_toArray, List.set_cons_zero, List.set_cons_succ, List.getElem?_toArray, List.getElem?_cons_succ, List.getElem?_cons_zero] at z0 z1 z2
 clear hq
 refine bodyPost_ret (v := .tuple #[.agg #[I64 nn, .bool ns, .slice ua un uc], .bool true]) (by rw [results_cell_tmp1 rfl]; go_simp) rfl ?_
 have hbw := HA.out.1.trans (HB4.out.mono (by have := HA.out.2.2.2.2; omega))
 have hle : w.heap.size ≤ B3 + 1 + 1 := by have := HB3.out; omega
 rw [HB3.out] at hbw
 have hbF : Below w.heap.size w (((w4.setCell ⟨B3 + 1 + 1, 0, none⟩ (I64 nn)).setCell ⟨B3 + 1 + 1, 1, none⟩ (.bool ns)).setCell ⟨B3 + 1 + 1, 2, none⟩ (.slice ua un uc)) := (((hbw.setCell (p := ⟨B3 + 1 + 1, 0, none⟩) hle _).setCell (p := ⟨B3 + 1 + 1, 1, none⟩) hle _).setCell (p := ⟨B3 + 1 + 1, 2, none⟩) hle _)
 refine EndE.mk s (ua, un, uc) v O (by rw [← HNN.out, ← HNS.out]; rfl) ⟨.inl ⟨rfl, HE.out⟩, HG.out, HBN.out, fun w2 hg => HS.out w2 ((Gb.of_below hbF).then hg (fun i hi q => q.elim id (hSv i))), (hbF.block K (lt_of_block HK.out)).trans HK.out, HO.out.below hbF, HPE.out, .of_below hbF, fun i q => .inl q⟩
set_option maxHeartbeats 8000000 in
set_option maxRecDepth 100000 in
set_option linter.unusedVariables false in
set_option linter.unusedSimpArgs false in
theorem ended_ok (c : Md.Call) (pk : Int) (s : Md.State) (u v : SlV) (O : List Int) (K B : Nat) (S : Nat → Prop) (w : World) (h : Sta w u s) (hS : ∀ w2, Gb S w w2 → PoolsAt w2 (valS u) s.pools) (hlt : ∀ i, S i → i < w.heap.size) (hSK : S K) (hSv : ∀ i, (valS v).ownBlock = some i → S i) (hk : w.heap[K]? = some (.cells #[valS v] 54 (0, 0))) (hKB : K < B) (hB : B ≤ w.heap.size) (ho : OwnL 2 1 encI w B (valS v) O) (hO : O.Perm (Md.conns s)) (hp0 : 0 ≤ pk) (hp1 : pk ≤ 255) (h1 : c.call ≤ 9223372036854775807) (h2 : c.conn ≤ 9223372036854775807) (hE : (Md.outcomes s c).2 = 0) :
 Calls Try.prog 16 #[.agg #[I64 s.now, .bool s.shut, valS u], vAct c pk, .pointer (some ⟨K, 0, none⟩)] w fun e w' => EndE s c S v K B w e w' := by
 obtain ⟨ua, un, uc⟩ := u
 have hfn := four_new w (.cells #[I64 s.now, .bool s.shut, .slice ua un uc] 26) (.cells #[I64 c.kind, I64 c.backend, I64 c.call, I64 c.conn, I64 c.time, .bool c.yes, I64 c.skip, I64 c.breaker, .int .u8 pk] 38) (.cells #[I64 0, .bool false, .slice none 0 0] 26) (.cells #[I64 0, .bool false, .slice none 0 0] 26)
 obtain ⟨wA, hwA⟩ : ∃ x, x = (((w.alloc (.cells #[I64 s.now, .bool s.shut, .slice ua un uc] 26)).alloc (.cells #[I64 c.kind, I64 c.backend, I64 c.call, I64 c.conn, I64 c.time, .bool c.yes, I64 c.skip, I64 c.breaker, .int .u8 pk] 38)).alloc (.cells #[I64 0, .bool false, .slice none 0 0] 26)) := ⟨_, rfl⟩
 have hA : Below w.heap.size w wA ∧ wA.heap[w.heap.size]? = some (.cells #[I64 s.now, .bool s.shut, .slice ua un uc] 26) ∧ wA.heap[w.heap.size + 1]? = some (.cells #[I64 c.kind, I64 c.backend, I64 c.call, I64 c.conn, I64 c.time, .bool c.yes, I64 c.skip, I64 c.breaker, .int .u8 pk] 38) ∧ wA.heap[w.heap.size + 1 + 1]? = some (.cells #[I64 0, .bool false, .slice none 0 0] 26) ∧ wA.heap.size = w.heap.size + 3 := by
  have a1 := (((Below.refl w.heap.size w).alloc (Nat.le_refl _) (.cells #[I64 s.now, .bool s.shut, .slice ua un uc] 26)).alloc (by simp) (.cells #[I64 c.kind, I64 c.backend, I64 c.call, I64 c.conn, I64 c.time, .bool c.yes, I64 c.skip, I64 c.breaker, .int .u8 pk] 38)).alloc (by simp; omega) (.cells #[I64 0, .bool false, .slice none 0 0] 26)
  rw [hwA]
  refine ⟨a1, ?_, ?_, ?_, by simp⟩
  · rw [alloc_get, if_neg (by simp; omega), alloc_get, if_neg (by simp), alloc_get, if_pos rfl]
  · rw [alloc_get, if_neg (by simp), alloc_get, if_pos (by simp)]
  · rw [alloc_get, if_pos (by simp)]
 have HA := Lib.hid hA
 clear hA hfn
 have HP := Lib.hid (played_ok c pk s (ua, un, uc) wA (h.below HA.out.1) hE hp0 hp1)
 have HG := Lib.hid h.good
 have HBN := Lib.hid h.bnd
 have HK := Lib.hid hk
 have HO := Lib.hid ho
 have hcl := fun o (q : o ∈ Md.act s c) => Md.act_closed (Md.outcomes_ok hE).2.1 o q
 have HCLO := Lib.hid hcl
 have HPE := Lib.hid hO
 have HE := Lib.hid hE
 have hol : ∀ i, (fun i => i = K ∨ (valS v).ownBlock = some i) i → i < w.heap.size := fun i q => by
  rcases q with q | q
  · rw [q]
    exact lt_of_block hk
  · exact (ho.lt i q).2
 have HOL := Lib.hid hol
 have hcO := conns_len h.good
 have hOl := hO.length_eq
 have hO9 : O.length ≤ 4000000 := by omega
 obtain ⟨nn, hnn⟩ : ∃ x, x = s.now := ⟨_, rfl⟩
 obtain ⟨ns, hns⟩ : ∃ x, x = s.shut := ⟨_, rfl⟩
 obtain ⟨B3, hB3⟩ : ∃ x, x = w.heap.size := ⟨_, rfl⟩
 have HB3 := Lib.hid hB3
 unfold vAct at *
 unfold valS at HP
 dsimp only at HP
 rw [← hnn, ← hns] at HP hwA HA ⊢
 rw [← hB3] at HA
 obtain ⟨va0, vn0, vc0⟩ := v
 try unfold valS at *
 dsimp only at *
 clear hnn hns h hS hk ho hO hE hol hcl hcO hOl
 go_enter Try.func16, Try.ntmps16
 go_wp2_with fail
 simp only [← hwA, ← hB3]
 clear hwA hB3
 refine HP.out.mono ?_
 rintro e w3 ⟨⟨⟨r1, r2, r3⟩, es, nx⟩, hoa, ⟨na, nN, nc⟩, ⟨ea, en, ec⟩, rfl, hl, hb3⟩
 unfold agg3
 dsimp only at hl ⊢
 have HOA := Lib.hid hoa
 have hpe := HCLO.out _ hoa
 dsimp only at hpe
 have HPN := Lib.hid hpe
 have hel := effs_len HG.out _ hoa
 dsimp only at hel
 have hen : en = es.length := read_len (u := (ea, en, ec)) (hl w3 (.refl _ _)).2
 have HEN := Lib.hid hen
 have hen9 : en ≤ 4000000 := by rw [hen]; exact hel
 have HLE := Lib.hid hl
 obtain ⟨mn, hmn⟩ : ∃ x, x = nx.now := ⟨_, rfl⟩
 obtain ⟨ms, hms⟩ : ∃ x, x = nx.shut := ⟨_, rfl⟩
 have HMN := Lib.hid hmn
 have HMS := Lib.hid hms
 rw [← hmn, ← hms]
 clear hmn hms hoa hpe hel hen hl
 go_upto_region 4 with fail
 have ha := ((Below.refl w3.heap.size w3).alloc (Nat.le_refl _) (.cells #[I64 mn, .bool ms, .slice na nN nc] 26)).alloc (by simp) (.cells #[I64 r1, I64 r2, I64 r3] 31)
 have hz8 : ((w3.alloc (.cells #[I64 mn, .bool ms, .slice na nN nc] 26)).alloc (.cells #[I64 r1, I64 r2, I64 r3] 31)).heap[w3.heap.size]? = some (.cells #[I64 mn, .bool ms, .slice na nN nc] 26) := by rw [alloc_get, if_neg (by simp), alloc_get, if_pos rfl]
 obtain ⟨w4, hw4⟩ : ∃ x, x = (w3.alloc (.cells #[I64 mn, .bool ms, .slice na nN nc] 26)).alloc (.cells #[I64 r1, I64 r2, I64 r3] 31) := ⟨_, rfl⟩
 obtain ⟨T8, hT8⟩ : ∃ x, x = w3.heap.size := ⟨_, rfl⟩
 rw [← hw4] at ha hz8
 rw [← hT8] at hz8
 simp only [← hw4, ← hT8]
 have HB34 := Lib.hid ha
 have hb4 : Below wA.heap.size wA w4 := hb3.trans (ha.mono hb3.size)
 have HT8 : Hid (wA.heap.size ≤ T8) := by
  show _ ≤ _
  rw [hT8]
  exact hb3.size
 have HT8E := Lib.hid hT8
 clear hw4 ha hb3 hT8
 have HB4 := Lib.hid hb4
 have HZ8 := Lib.hid hz8
 have HAT : Hid (∀ w1, Gb (fun i => i = K ∨ (Value.slice va0 vn0 vc0).ownBlock = some i) w4 w1 → C8 (B3 + 1) 0 c w1 ∧ S3 T8 mn ms (.slice na nN nc) w1 ∧ w1.heap[B3 + 1 + 1]? = some (.cells #[I64 0, .bool false, .slice none 0 0] 26 (0, 0))) := fun w1 hg => by
  have hb := HB3.out
  have hs := HA.out.2.2.2.2
  have ht := HT8.out
  have k1 := hg.blk ((HB4.out.block _ (lt_of_block HA.out.2.2.1)).trans HA.out.2.2.1) (fun q => by have := HOL.out _ q; omega)
  have k2 := hg.blk ((HB4.out.block _ (lt_of_block HA.out.2.2.2.1)).trans HA.out.2.2.2.1) (fun q => by have := HOL.out _ q; omega)
  have k8 := hg.blk HZ8.out (fun q => by have := HOL.out _ q; omega)
  exact ⟨⟨blk_cell k1 0, blk_cell k1 1, blk_cell k1 2, blk_cell k1 3, blk_cell k1 4, blk_cell k1 5, blk_cell k1 6, blk_cell k1 7⟩, ⟨blk_cell k8 0, blk_cell k8 1, blk_cell k8 2⟩, k2⟩
 have HBW : Hid (Below w.heap.size w w4) := by
  have q := HA.out.1.trans (HB4.out.mono (by have := HA.out.2.2.2.2; omega))
  rw [HB3.out] at q
  exact q
 have HKO : Hid (w4.heap[K]? = some (.cells #[.slice va0 vn0 vc0] 54 (0, 0)) ∧ OwnL 2 1 encI w4 B (.slice va0 vn0 vc0) O) := ⟨(HBW.out.block K (lt_of_block HK.out)).trans HK.out, HO.out.below HBW.out⟩
 clear hz8 hb4
 obtain ⟨c9, ⟨n0, n1, n2⟩, -⟩ := HAT.out w4 (.refl _ _)
 unfold C8 at c9
 simp only [Nat.zero_add] at c9
 obtain ⟨c90, c91, c92, c93, c94, c95, c96, c97⟩ := c9
 go_cut [34] (fun v wx => v = .bool (c.kind == 2 && c.yes) ∧ wx = w4)
 case first =>
  as_aux_lemma =>
   by_cases hk : c.kind = 2
   · have b1 : (c.kind == 2) = true := by rw [beq_iff_eq]; exact hk
     clear hk
     go_wp2_with fail
     go_meet
     exact ⟨by rw [b1]; rfl, rfl⟩
   · have b1 : (c.kind == 2) = false := by rw [beq_eq_false_iff_ne]; exact hk
     clear hk
     go_wp2_with fail
     go_meet
     exact ⟨by rw [b1]; rfl, rfl⟩
 case rest =>
  obtain ⟨rfl, hwx⟩ := hcut
  have hwx2 := hwx.symm
  subst hwx2
  clear hwx n0 n1 n2 c90 c91 c92 c93 c94 c95 c96 c97
  obtain ⟨bb, hbb⟩ : ∃ x, x = (c.kind == 2 && c.yes) := ⟨_, rfl⟩
  rw [← hbb]
  have HBB := Lib.hid hbb
  clear hbb
  go_upto_if 34 with fail
  go_cut [] (fun wx => ∃ va vn vc V, Hid (wx.heap[K]? = some (.cells #[.slice va vn vc] 54 (0, 0)) ∧ OwnL 2 1 encI wx B (.slice va vn vc) V ∧ V.Perm (Md.conns nx ++ Md.closedOf es) ∧ Gb (fun i => i = K ∨ (Value.slice va0 vn0 vc0).ownBlock = some i) w4 wx ∧ ∀ i, (Value.slice va vn vc).ownBlock = some i → (fun i => i = K ∨ (Value.slice va0 vn0 vc0).ownBlock = some i) i ∨ w4.heap.size ≤ i))
  case first =>
   as_aux_lemma =>
    cases bb with
    | true =>
     have hb : (c.kind == 2 && c.yes) = true := HBB.out.symm
     have hpp : (O ++ [c.conn]).Perm (Md.conns nx ++ Md.closedOf es) := by
      have q := HPN.out
      simp only [Bool.and_eq_true, beq_iff_eq] at hb
      rw [if_pos hb] at q
      exact (List.perm_append_comm.trans (HPE.out.append_left [c.conn])).trans q
     have HPP := Lib.hid hpp
     clear hpp hb
     go_wp2_with fail
     have HCS : Hid (∀ w1, Gb (fun i => (Value.slice va0 vn0 vc0).ownBlock = some i) w4 w1 → (w1.heap[K]? = some (.cells #[.slice va0 vn0 vc0] 54 (0, 0)) ∧ w1.cell? ⟨K, 0, none⟩ = some (.slice va0 vn0 vc0)) ∧ C8 (B3 + 1) 0 c w1) := fun w1 hg => by
      have hne : ¬ (Value.slice va0 vn0 vc0).ownBlock = some K := fun q => by have := (HO.out.lt K q).1; omega
      have k0 := hg.blk HKO.out.1 hne
      exact ⟨⟨k0, blk_cell k0 0⟩, (HAT.out w1 (hg.mono fun i _ q => .inr q)).1⟩
     refine wp_region_heldM_drew (S := fun w1 => Hid (Gb (fun i => (Value.slice va0 vn0 vc0).ownBlock = some i) w4 w1)) 10 (by kernel_rfl) (Gb.of_below (Below.refl _ _).drew) (fun hH0 => ?_)
     refine wpAnyM_take (i := 0) (oi := _) (v := ?vm0_1) (dropAt rfl) (by kernel_rfl) (by kernel_rfl) (by kernel_rfl) (by kernel_rfl) (fun _ _ _ h => h) (Or.inl ⟨by rfl, ?hm0_1⟩) hH0 ?rm0_1
     case hm0_1 => (intro w hSw; obtain ⟨⟨-, kk⟩, c9⟩ := HCS.out _ hSw.out; unfold C8 at c9; simp only [Nat.zero_add] at c9; obtain ⟨c90, c91, c92, c93, c94, c95, c96, c97⟩ := c9; go_simp; first | done | with_reducible rfl)
     try simp only [Act.put, pu2, pu3, pu4]
     refine wpAnyM_take (i := 1) (oi := _) (v := ?vm1_2) (dropAt rfl) (by kernel_rfl) (by kernel_rfl) (by kernel_rfl) (by kernel_rfl) (fun _ _ _ h => h) (Or.inl ⟨by rfl, ?hm1_2⟩) hH0 ?rm1_2
     case hm1_2 => (intro w hSw; obtain ⟨⟨-, kk⟩, c9⟩ := HCS.out _ hSw.out; unfold C8 at c9; simp only [Nat.zero_add] at c9; obtain ⟨c90, c91, c92, c93, c94, c95, c96, c97⟩ := c9; go_simp; first | done | with_reducible rfl)
     try simp only [Act.put, pu2, pu3, pu4]
     refine wpAnyM_take (i := 2) (oi := _) (v := ?vm2_3) (dropAt rfl) (by kernel_rfl) (by kernel_rfl) (by kernel_rfl) (by kernel_rfl) (fun _ _ _ h => h) (Or.inl ⟨by rfl, ?hm2_3⟩) hH0 ?rm2_3
     case hm2_3 => (intro w hSw; obtain ⟨⟨-, kk⟩, c9⟩ := HCS.out _ hSw.out; unfold C8 at c9; simp only [Nat.zero_add] at c9; obtain ⟨c90, c91, c92, c93, c94, c95, c96, c97⟩ := c9; go_simp; first | done | with_reducible rfl)
     try simp only [Act.put, pu2, pu3, pu4]
     refine wpAnyM_take (i := 3) (oi := _) (v := ?vm3_4) (dropAt rfl) (by kernel_rfl) (by kernel_rfl) (by kernel_rfl) (by kernel_rfl) (fun _ _ _ h => h) (Or.inl ⟨by rfl, ?hm3_4⟩) hH0 ?rm3_4
     case hm3_4 => (intro w hSw; obtain ⟨⟨-, kk⟩, c9⟩ := HCS.out _ hSw.out; unfold C8 at c9; simp only [Nat.zero_add] at c9; obtain ⟨c90, c91, c92, c93, c94, c95, c96, c97⟩ := c9; go_simp; first | done | with_reducible rfl)
     try simp only [Act.put, pu2, pu3, pu4]
     refine wpAnyM_take (i := 4) (oi := _) (v := ?vm4_5) (dropAt rfl) (by kernel_rfl) (by kernel_rfl) (by kernel_rfl) (by kernel_rfl) (fun _ _ _ h => h) (Or.inl ⟨by rfl, ?hm4_5⟩) hH0 ?rm4_5
     case hm4_5 => (intro w hSw; obtain ⟨⟨-, kk⟩, c9⟩ := HCS.out _ hSw.out; unfold C8 at c9; simp only [Nat.zero_add] at c9; obtain ⟨c90, c91, c92, c93, c94, c95, c96, c97⟩ := c9; go_simp; first | done | with_reducible rfl)
     try simp only [Act.put, pu2, pu3, pu4]
     refine wpAnyM_take (i := 5) (oi := _) (v := ?vm5_6) (dropAt rfl) (by kernel_rfl) (by kernel_rfl) (by kernel_rfl) (by kernel_rfl) (fun _ _ _ h => h) (Or.inl ⟨by rfl, ?hm5_6⟩) hH0 ?rm5_6
     case hm5_6 => (intro w hSw; obtain ⟨⟨-, kk⟩, c9⟩ := HCS.out _ hSw.out; unfold C8 at c9; simp only [Nat.zero_add] at c9; obtain ⟨c90, c91, c92, c93, c94, c95, c96, c97⟩ := c9; go_simp; first | done | with_reducible rfl)
     try simp only [Act.put, pu2, pu3, pu4]
     refine wpAnyM_take (i := 6) (oi := _) (v := ?vm6_7) (dropAt rfl) (by kernel_rfl) (by kernel_rfl) (by kernel_rfl) (by kernel_rfl) (fun _ _ _ h => h) (Or.inl ⟨by rfl, ?hm6_7⟩) hH0 ?rm6_7
     case hm6_7 => (intro w hSw; obtain ⟨⟨-, kk⟩, c9⟩ := HCS.out _ hSw.out; unfold C8 at c9; simp only [Nat.zero_add] at c9; obtain ⟨c90, c91, c92, c93, c94, c95, c96, c97⟩ := c9; go_simp; first | done | with_reducible rfl)
     try simp only [Act.put, pu2, pu3, pu4]
     refine wpAnyM_ready (rs := [7]) (by kernel_rfl) (by simp) ?_
     refine AllReadyM.cons (o := _) (dropAt rfl) (fun K_ hK => ?_) AllReadyM.nil
     go_simp
     have ha := ((Below.refl w4.heap.size w4).alloc (Nat.le_refl _) (.cells #[I64 c.conn] 2)).drew
     have hb8 : ((w4.alloc (.cells #[I64 c.conn] 2)).drew).heap[w4.heap.size]? = some (.cells #[I64 c.conn] 2 (0, 0)) := blk_new w4 _
     obtain ⟨wa, hwa⟩ : ∃ x, x = (w4.alloc (.cells #[I64 c.conn] 2)).drew := ⟨_, rfl⟩
     rw [← hwa] at ha hb8
     have HA6 := Lib.hid ha
     have HR8 := Lib.hid (show wa.cell? ⟨w4.heap.size, 0, none⟩ = some (I64 c.conn) from blk_cell hb8 0)
     have HG6 : Hid (Gb (fun i => (Value.slice va0 vn0 vc0).ownBlock = some i) w4 wa) := Gb.of_below ha
     show K_ _ ((w4.alloc (.cells #[I64 c.conn] 2)).drew)
     rw [← hwa]
     refine hK.out _ _ HG6 (fun hH7 => ?_)
     clear hK K_ ha hwa hb8
     try simp only [Act.put, pu2, pu3, pu4]
     refine wpAnyM_ready (rs := [8]) (by kernel_rfl) (by simp) ?_
     refine AllReadyM.cons (o := _) (dropAt rfl) (fun K_ hK => ?_) AllReadyM.nil
     rw [if_pos (by rfl)]
     refine appIK wa _ _ rfl B _ O c.conn rfl (HKO.out.2.below HA6.out) w4.heap.size 1 rfl HR8.out (by omega) (by have a1 := HA6.out.size; have a2 := HBW.out.size; omega) ?_
     intro qg qc w7 hown7 hgr7 hat7
     have HG7 : Hid (Gb (fun i => (Value.slice va0 vn0 vc0).ownBlock = some i) w4 w7) := HG6.out.trans (Gb.of_grown hgr7 fun k q => q)
     have HO7 := Lib.hid hown7
     have hnew : ∀ i, (Value.slice (some ⟨qg, 0, none⟩) (O.length + 1) qc).ownBlock = some i → (fun i => i = K ∨ (Value.slice va0 vn0 vc0).ownBlock = some i) i ∨ w4.heap.size ≤ i := fun i q => by
      have q2 : qg = i := by injection q
      rcases hat7 with h | h
      · exact .inl (.inr (by rw [← q2]; exact h))
      · exact .inr (by have := HA6.out.size; omega)
     have HNEW := Lib.hid hnew
     refine hK.out _ _ HG7 (fun hH8 => ?_)
     clear hK K_ hown7 hgr7 hat7 hnew
     try simp only [Act.put, pu2, pu3, pu4]
     refine wpAnyM_take (i := 9) (oi := _) (v := ?vm9_8) (dropAt rfl) (by kernel_rfl) (by kernel_rfl) (by kernel_rfl) (by kernel_rfl) (fun _ _ _ h => h) (Or.inl ⟨by rfl, ?hm9_8⟩) hH8 ?rm9_8
     case hm9_8 => (intro w hSw; go_simp; first | done | with_reducible rfl)
     try simp only [Act.put, pu2, pu3, pu4]
     obtain ⟨⟨hk7, kk⟩, -⟩ := HCS.out w7 hH8.out
     have fk := blk_free hk7 0
     have HK7 := Lib.hid hk7
     clear hk7
     refine wpAnyM_ready (rs := [10]) (by kernel_rfl) (by simp) ?_
     refine AllReadyM.late (by decide) (o := _) (dropAt rfl) (fun K_ hK => ?_) AllReadyM.nil
     go_simp
     refine hK.out _ _ ?_
     clear hK K_
     try simp only [Act.put, pu2, pu3, pu4]
     refine wpAnyM_done (by kernel_rfl) ?_ _
     go_wp2_with fail
     go_meet
     refine ⟨some ⟨qg, 0, none⟩, O.length + 1, qc, O ++ [c.conn], ?_, HO7.out.gb ((Gb.refl (fun i => i < B) w7).setCell (x := ⟨K, 0, none⟩) hKB _), HPP.out, (HG7.out.mono (fun i _ q => .inr q)).setCell (x := ⟨K, 0, none⟩) (.inl rfl) _, HNEW.out⟩
     have q := blk_set HK7.out 0 (.slice (some ⟨qg, 0, none⟩) (O.length + 1) qc)
     simpa using q
    | false =>
     have hb : (c.kind == 2 && c.yes) = false := HBB.out.symm
     have hpp : O.Perm (Md.conns nx ++ Md.closedOf es) := by
      have q := HPN.out
      rw [if_neg (by rintro ⟨q1, q2⟩; rw [q1, q2] at hb; cases hb), List.nil_append] at q
      exact HPE.out.trans q
     have HPP := Lib.hid hpp
     clear hpp hb
     go_wp2_with fail
     go_meet
     exact ⟨va0, vn0, vc0, O, HKO.out.1, HKO.out.2, HPP.out, .refl _ _, fun i q => .inl (.inr q)⟩
  case rest =>
   obtain ⟨xa, xn, xc, X, HX⟩ := hcut
   obtain ⟨w5, hw5⟩ : ∃ x, x = wc := ⟨_, rfl⟩
   subst hw5
   go_wp2_with fail
   go_loopw [12, 13, 14] (fun kv _ _ wr => ∃ k : Nat, ∃ va vn vc V, k ≤ en ∧ kv = .int .i64 k ∧ Hid (wr.heap[K]? = some (.cells #[.slice va vn vc] 54 (0, 0)) ∧ OwnL 2 1 encI wr B (.slice va vn vc) V ∧ V.Perm (Md.conns nx ++ Md.closedOf (es.drop k)) ∧ Gb (fun i => i = K ∨ (Value.slice va0 vn0 vc0).ownBlock = some i) w4 wr ∧ ∀ i, (Value.slice va vn vc).ownBlock = some i → (fun i => i = K ∨ (Value.slice va0 vn0 vc0).ownBlock = some i) i ∨ w4.heap.size ≤ i)) (fun kv _ _ _ => en - (intOf kv).toNat)
   case atStart => exact ⟨0, xa, xn, xc, X, Nat.zero_le _, rfl, HX⟩
   case round =>
    obtain ⟨w6, hw6⟩ : ∃ x, x = wr := ⟨_, rfl⟩
    subst hw6
    obtain ⟨k, va, vn, vc, V, hkN, rfl, HV⟩ := hrel
    by_cases hlk : k < en
    · have hkl : k < es.length := by rw [← HEN.out]; exact hlk
      obtain ⟨ge, oe, ce, e, _, hce⟩ := (HLE.out w6 ((Gb.of_below HB34.out).then HV.out.2.2.2.1 (fun i hi q => by have h1 := HOL.out _ q; have h2 := HA.out.2.2.2.2; have h3 := HB3.out; show i < wA.heap.size; omega))).2.form (by intro e; rw [e] at hkl; simp at hkl)
      injection e with f1 f2 f3
      replace f1 : ea = some ⟨ge, oe, none⟩ := f1
      subst f1
      clear f2 f3
      have hre := hce k hkl
      have hpv := HV.out.2.2.1
      rw [List.drop_eq_getElem_cons hkl] at hpv
      generalize es[k] = ef at hre hpv
      obtain ⟨ek, eb, ec1, ec2⟩ := ef
      have rr : ∀ j v, (encEff (ek, eb, ec1, ec2))[j]? = some v → w6.cell? ⟨ge, oe + k * 4 + j, none⟩ = some v := hre
      have k0 : w6.cell? ⟨ge, oe + k * 4, none⟩ = some (I64 ek) := rr 0 _ rfl
      have k3 : w6.cell? ⟨ge, oe + k * 4 + 3, none⟩ = some (I64 ec2) := rr 3 _ rfl
      have hkI : (k : Int) < (en : Int) := by omega
      rw [closed_cons] at hpv
      clear hre hce rr hkl
      by_cases h11 : ek = 11
      · have hb : (ek == 11) = true := by rw [beq_iff_eq]; exact h11
        have hbn : (ek != 11) = false := by rw [bne_eq_false_iff_eq]; exact h11
        rw [if_pos hb] at hpv
        obtain ⟨hmem, hper⟩ := perm_out hpv
        have HPV := Lib.hid hper
        have hVl : V.length ≤ 10000000 := by
         have q := hpv.length_eq
         have h1 := conns_len (Md.act_good HG.out (Md.outcomes_ok HE.out).2.1 _ HOA.out)
         have h2 := closed_len (es.drop (k + 1))
         have h3 := HEN.out
         rw [List.length_append, List.length_cons] at q
         rw [List.length_drop] at h2
         dsimp only at h1
         omega
        have HWO := Lib.hid (fun (w1 : World) (hb1 : Below w6.heap.size w6 w1) => without_own (va, vn, vc) V ec2 B w1 (OwnO.of (HV.out.2.1.below hb1)) hmem hVl)
        have HCW : Hid (∀ w1, Below w6.heap.size w6 w1 → w1.cell? ⟨K, 0, none⟩ = some (.slice va vn vc) ∧ w1.cell? ⟨ge, oe + k * 4 + 3, none⟩ = some (I64 ec2)) := fun w1 h1 => ⟨blk_cell ((h1.block _ (lt_of_block HV.out.1)).trans HV.out.1) 0, (h1.cell (p := ⟨ge, _, none⟩) (cell_lt k3)).trans k3⟩
        clear hpv hper hmem hVl h11
        go_wp2_with fail
        clear k0 k3
        refine wp_region_held_drew (S := fun w1 => Hid (Below w6.heap.size w6 w1)) (by kernel_rfl) ((Below.refl _ _).drew) (fun hH0 => ?_)
        refine tk 0 (v := ?vv0_1) (dropAt rfl) (Or.inl ⟨by rfl, ?hv0_1⟩) hH0 ?rv0_1
        case hv0_1 => (intro w hSw; obtain ⟨kk, k3⟩ := HCW.out _ hSw.out; go_simp; first | done | with_reducible rfl)
        try simp only [Act.put, pu2, pu3, pu4]
        refine tk 1 (v := ?vv1_2) (dropAt rfl) (Or.inl ⟨by rfl, ?hv1_2⟩) hH0 ?rv1_2
        case hv1_2 => (intro w hSw; obtain ⟨kk, k3⟩ := HCW.out _ hSw.out; go_simp; first | done | with_reducible rfl)
        try simp only [Act.put, pu2, pu3, pu4]
        refine tk 2 (v := ?vv2_3) (dropAt rfl) (Or.inl ⟨by rfl, ?hv2_3⟩) hH0 ?rv2_3
        case hv2_3 => (intro w hSw; obtain ⟨kk, k3⟩ := HCW.out _ hSw.out; go_simp; first | done | with_reducible rfl)
        try simp only [Act.put, pu2, pu3, pu4]
        refine tk 3 (v := ?vv3_4) (dropAt rfl) (Or.inl ⟨by rfl, ?hv3_4⟩) hH0 ?rv3_4
        case hv3_4 => (intro w hSw; obtain ⟨kk, k3⟩ := HCW.out _ hSw.out; go_simp; first | done | with_reducible rfl)
        try simp only [Act.put, pu2, pu3, pu4]
        refine tk 4 (v := ?vv4_5) (dropAt rfl) (Or.inl ⟨by rfl, ?hv4_5⟩) hH0 ?rv4_5
        case hv4_5 => (intro w hSw; obtain ⟨kk, k3⟩ := HCW.out _ hSw.out; go_simp; first | done | with_reducible rfl)
        try simp only [Act.put, pu2, pu3, pu4]
        refine tk 5 (v := ?vv5_6) (dropAt rfl) (Or.inl ⟨by rfl, ?hv5_6⟩) hH0 ?rv5_6
        case hv5_6 => (intro w hSw; obtain ⟨kk, k3⟩ := HCW.out _ hSw.out; go_simp; first | done | with_reducible rfl)
        try simp only [Act.put, pu2, pu3, pu4]
        refine tk 6 (v := ?vv6_7) (dropAt rfl) (Or.inl ⟨by rfl, ?hv6_7⟩) hH0 ?rv6_7
        case hv6_7 => (intro w hSw; obtain ⟨kk, k3⟩ := HCW.out _ hSw.out; go_simp; first | done | with_reducible rfl)
        try simp only [Act.put, pu2, pu3, pu4]
        refine tk 7 (v := ?vv7_8) (dropAt rfl) (Or.inl ⟨by rfl, ?hv7_8⟩) hH0 ?rv7_8
        case hv7_8 => (intro w hSw; obtain ⟨kk, k3⟩ := HCW.out _ hSw.out; go_simp; first | done | with_reducible rfl)
        try simp only [Act.put, pu2, pu3, pu4]
        refine wpAnyH_ready (rs := [8]) (by kernel_rfl) (by simp) ?_
        refine AllReadyH.cons (o := _) (dropAt rfl) (fun K_ hK => ?_) AllReadyH.nil
        go_simp
        refine (HWO.out _ hH0.out).mono ?_
        rintro e w7 ⟨⟨qa, qn, qc⟩, rfl, ho7, hb7⟩
        unfold valS
        dsimp only
        have HO7 := Lib.hid ho7
        have hB7 : Hid (Below w6.heap.size w6 w7) := hH0.out.trans (hb7.mono hH0.out.size)
        have HZ7 := Lib.hid hb7.size
        refine hK.out _ _ hB7 (fun hH7 => ?_)
        clear hK K_ ho7 hb7
        try simp only [Act.put, pu2, pu3, pu4]
        refine tk 9 (v := ?vv9_9) (dropAt rfl) (Or.inl ⟨by rfl, ?hv9_9⟩) hH7 ?rv9_9
        case hv9_9 => (intro w hSw; go_simp; first | done | with_reducible rfl)
        try simp only [Act.put, pu2, pu3, pu4]
        refine tk 10 (v := ?vv10_10) (dropAt rfl) (Or.inl ⟨by rfl, ?hv10_10⟩) hH7 ?rv10_10
        case hv10_10 => (intro w hSw; go_simp; first | done | with_reducible rfl)
        try simp only [Act.put, pu2, pu3, pu4]
        refine tk 11 (v := ?vv11_11) (dropAt rfl) (Or.inl ⟨by rfl, ?hv11_11⟩) hH7 ?rv11_11
        case hv11_11 => (intro w hSw; go_simp; first | done | with_reducible rfl)
        try simp only [Act.put, pu2, pu3, pu4]
        refine tk 12 (v := ?vv12_12) (dropAt rfl) (Or.inl ⟨by rfl, ?hv12_12⟩) hH7 ?rv12_12
        case hv12_12 => (intro w hSw; go_simp; first | done | with_reducible rfl)
        try simp only [Act.put, pu2, pu3, pu4]
        refine tk 13 (v := ?vv13_13) (dropAt rfl) (Or.inl ⟨by rfl, ?hv13_13⟩) hH7 ?rv13_13
        case hv13_13 => (intro w hSw; go_simp; first | done | with_reducible rfl)
        try simp only [Act.put, pu2, pu3, pu4]
        refine wpAnyH_done (by kernel_rfl) ?_ _
        have hk7 := (hB7.out.block _ (lt_of_block HV.out.1)).trans HV.out.1
        have kk := blk_cell hk7 0
        simp only [List.getElem?_toArray, List.getElem?_cons_succ, List.getElem?_cons_zero] at kk
        have fk := blk_free hk7 0
        have HK7 := Lib.hid hk7
        clear hk7
        go_wp2_with fail
        refine ⟨⟨k + 1, qa, qn, qc, V.erase ec2, hlk, by rw [show (k : Int) + 1 = ((k + 1 : Nat) : Int) by omega], ?_⟩, ?_⟩
        · have hk1 := blk_set HK7.out 0 (.slice qa qn qc)
          refine ⟨by simpa using hk1, ?_, HPV.out, (HV.out.2.2.2.1.trans (.of_below hB7.out)).setCell (x := ⟨K, 0, none⟩) (.inl rfl) _, fun i q => .inr ?_⟩
          · have q := HO7.out.gb ((Gb.refl (fun i => i < w6.drew.heap.size) w7).setCell (x := ⟨K, 0, none⟩) (by have := lt_of_block HV.out.1; exact this) (.slice qa qn qc))
            exact q.mono0 (by have a1 := HV.out.2.2.2.1.size; have a2 := HBW.out.size; show B ≤ w6.heap.size; omega)
          · have q1 := (HO7.out.lt i q).1
            have a1 := HV.out.2.2.2.1.size
            have q2 : w6.heap.size ≤ i := q1
            omega
        · simp [intOf]
          omega
      · have hb : (ek == 11) = false := by rw [beq_eq_false_iff_ne]; exact h11
        have hbn : (ek != 11) = true := by rw [bne_iff_ne]; exact h11
        rw [if_neg (by rw [hb]; exact Bool.false_ne_true)] at hpv
        have HPV := Lib.hid hpv
        clear h11 hpv
        go_wp2_with fail
        refine ⟨⟨k + 1, va, vn, vc, V, hlk, by rw [show (k : Int) + 1 = ((k + 1 : Nat) : Int) by omega], ?_⟩, ?_⟩
        · exact ⟨HV.out.1, HV.out.2.1, HPV.out, HV.out.2.2.2⟩
        · simp [intOf]
          omega
    · have hkn : ¬ (k : Int) < (en : Int) := by omega
      have hpv := HV.out.2.2.1
      rw [List.drop_eq_nil_of_le (by have := HEN.out; omega)] at hpv
      have hpv2 : V.Perm (Md.conns nx) := by simpa [Md.closedOf] using hpv
      have HPV := Lib.hid hpv2
      obtain ⟨-, ⟨n0, n1, n2⟩, k2⟩ := HAT.out w6 HV.out.2.2.2.1
      have HK2 := Lib.hid k2
      have y0 := blk_cell k2 0
      have y1 := blk_cell k2 1
      have y2 := blk_cell k2 2
      have fy0 := blk_free k2 0
      have fy1 := blk_free k2 1
      have fy2 := blk_free k2 2
      simp only [List.getElem?_toArray, List.getElem?_cons_succ, List.getElem?_cons_zero] at y0 y1 y2
      clear k2 hpv hpv2
      go_wp2_with fail
      have hq := blk_set (blk_set (blk_set HK2.out 0 (I64 mn)) 1 (.bool ms)) 2 (.slice na nN nc)
      have z0 := blk_cell hq 0
      have z1 := blk_cell hq 1
      have z2 := blk_cell hq 2
      simp only [List.setIfInBounds_toArray, List.set_cons_zero, List.set_cons_succ, List.getElem?_toArray, List.getElem?_cons_succ, List.getElem?_cons_zero] at z0 z1 z2
      clear hq
      refine bodyPost_ret (v := .tuple #[.agg #[I64 mn, .bool ms, .slice na nN nc], .bool true]) (by rw [results_cell_tmp1 rfl]; go_simp) rfl ?_
      have hb3e := HB3.out
      have hgF : Gb (fun i => i = B3 + 1 + 1) w6 (((w6.setCell ⟨B3 + 1 + 1, 0, none⟩ (I64 mn)).setCell ⟨B3 + 1 + 1, 1, none⟩ (.bool ms)).setCell ⟨B3 + 1 + 1, 2, none⟩ (.slice na nN nc)) := ((((Gb.refl (fun i => i = B3 + 1 + 1) w6).setCell (x := ⟨B3 + 1 + 1, 0, none⟩) rfl _).setCell (x := ⟨B3 + 1 + 1, 1, none⟩) rfl _).setCell (x := ⟨B3 + 1 + 1, 2, none⟩) rfl _)
      have hKlt := lt_of_block HK.out
      have hob : ∀ i, (Value.slice va vn vc).ownBlock = some i → i ≠ B3 + 1 + 1 := fun i q => by
       rcases HV.out.2.2.2.2 i q with h | h
       · have := HOL.out _ h
         omega
       · have a1 := HB4.out.size
         have a2 := HA.out.2.2.2.2
         omega
      refine EndE.mk nx (na, nN, nc) (va, vn, vc) V (by rw [← HMN.out, ← HMS.out]; rfl) ⟨.inr ⟨HE.out, _, HOA.out, rfl⟩, Md.act_good HG.out (Md.outcomes_ok HE.out).2.1 _ HOA.out, Md.act_bnd (Md.outcomes_ok HE.out).2.1 HBN.out h1 h2 _ HOA.out, fun w2 hg => (HLE.out w2 ?_).1, hgF.blk HV.out.1 (by omega), ?_, HPV.out, ?_, fun i q => ?_⟩
      · have g1 := (Gb.of_below HB34.out).then HV.out.2.2.2.1 (S := fun i => i < wA.heap.size) (fun i hi q => by have h1 := HOL.out _ q; have h2 := HA.out.2.2.2.2; omega)
        have g2 := g1.then hgF (fun i hi q => by have h2 := HA.out.2.2.2.2; omega)
        refine g2.then hg (fun i hi q => ?_)
        have h2 := HA.out.2.2.2.2
        rcases q with q | q
        · have := hlt i q
          omega
        · rcases HV.out.2.2.2.2 i q with h | h
          · have := HOL.out _ h
            omega
          · have := HB34.out.size
            omega
      · exact (HV.out.2.1).gb_ne hgF hob
      · have g1 := (Gb.of_below HBW.out).then HV.out.2.2.2.1 (S := (fun i => i = K ∨ (Value.slice va0 vn0 vc0).ownBlock = some i)) (fun i hi q => q)
        exact g1.then hgF (fun i hi q => by omega)
      · rcases HV.out.2.2.2.2 i q with h | h
        · rcases h with h | h
          · have := (HV.out.2.1.lt i q).1
            omega
          · exact .inl h
        · exact .inr (Nat.le_trans HBW.out.size h)
end Go.Proofs.Ytaicmiadgnpimaa
