/-
  Walks for layer 26 (model): a connection is given back.
-/
import Derived.Test.YtaicmiadgnpimaaMga
namespace Go.Proofs.Ytaicmiadgnpimaa
open Go.RowKit

set_option maxHeartbeats 2000000 in
set_option maxRecDepth 100000 in
set_option linter.unusedSimpArgs false in
theorem give_close (S : Nat → Prop) (R G n cap b : Nat) (c : Md.Call) (s : Md.State) (es : List Md.Effect) (W : Nat → Prop) (ev : SlV) (pvs : List PoolV) (conn born : Int) (again : Bool) (w : World) (h : RunV S R c s es W (some ⟨G, 0, none⟩, n, cap) ev pvs w) (hb : c.backend = (b : Int)) (hn : n = s.pools.length) (hbn : b < s.pools.length)
 (hs : List.Pairwise (fun (x y : Md.Dial) => x.1 < y.1) s.pools[b].dials) (hl : s.pools[b].dials.length ≤ 1000000) (hel : es.length ≤ 900000) (hpos : ∀ x ∈ s.pools[b].waiters, 1 ≤ x.1)
 (hbo : -4611686018427387904 ≤ born ∧ born ≤ 4611686018427387903) (hag : -4611686018427387904 ≤ s.pools[b].lim.age ∧ s.pools[b].lim.age ≤ 4611686018427387903) (hcl : (s.shut || decide (born + s.pools[b].lim.age ≤ s.now) || !again) = true) :
 Calls Try.prog 76 #[.pointer (some ⟨R, 0, none⟩), I64 conn, I64 born, .bool again] w fun e w' => e = .returned (.tuple #[]) ∧ RunE S R c (setP s b (Md.give s.shut s.now c.backend s.pools[b] conn born again).1) (es ++ (Md.give s.shut s.now c.backend s.pools[b] conn born again).2) (fun j => W j ∧ j ≠ b) G n cap w' ∧ Gb S w w' := by
 have hbp : b < pvs.length := by rw [h.len]; exact hbn
 have HP := Lib.hid (pool_any R G n cap b c s ev w (runCells_of h.blk) hb (by omega))
 have HC : Hid (∀ w1, Below w.heap.size w w1 → w1.cell? ⟨R, 0, none⟩ = some (I64 s.now) ∧ w1.cell? ⟨R, 1, none⟩ = some (.bool s.shut) ∧ w1.cell? ⟨R, 4, none⟩ = some (I64 c.backend) ∧ w1.cell? ⟨G, b * 11 + 3, none⟩ = some (I64 s.pools[b].lim.age)) := fun w1 hb1 => by
  have h1 := runCells_of (h.below hb1).blk
  have h2 := ((h.below hb1).cells hbp).c3
  rw [(h.each b hbp hbn).lim] at h2
  exact ⟨h1.c0, h1.c1, h1.c4, h2⟩
 have e1 : Md.give s.shut s.now c.backend s.pools[b] conn born again = ((Md.pass c.backend s.pools[b]).1, (11, c.backend, 0, conn) :: (Md.pass c.backend s.pools[b]).2) := by unfold Md.give; rw [if_pos hcl]
 rw [e1]
 dsimp only
 have HE : Hid (∀ w1, Below w.heap.size w w1 → Calls Try.prog 77 #[.pointer (some ⟨R, 0, none⟩), I64 11, I64 c.backend, I64 0, I64 conn] w1 fun e w' => e = .returned (.tuple #[]) ∧ (∃ ev', RunV S R c s (es ++ [(11, c.backend, 0, conn)]) W (some ⟨G, 0, none⟩, n, cap) ev' pvs w') ∧ Gb S w1 w') := fun w1 hb1 =>
  effect_any S R c s es W _ ev pvs 11 c.backend 0 conn w1 (h.below hb1) (by omega)
 have HPS : Hid (∀ w1 ev', RunV S R c s (es ++ [(11, c.backend, 0, conn)]) W (some ⟨G, 0, none⟩, n, cap) ev' pvs w1 → Calls Try.prog 75 #[.pointer (some ⟨R, 0, none⟩)] w1 fun e w' => e = .returned (.tuple #[]) ∧ RunE S R c (setP s b (Md.pass c.backend s.pools[b]).1) (es ++ (11, c.backend, 0, conn) :: (Md.pass c.backend s.pools[b]).2) (fun j => W j ∧ j ≠ b) G n cap w' ∧ Gb S w1 w') := fun w1 ev' h1 => by
  have q := pass_any S R G n cap b c s _ W ev' pvs w1 h1 hb hn hbn hs hl (by simp; omega) hpos
  rw [List.append_assoc] at q
  exact q
 generalize setP s b (Md.pass c.backend s.pools[b]).1 = s2 at HPS ⊢
 generalize es ++ (11, c.backend, 0, conn) :: (Md.pass c.backend s.pools[b]).2 = es2 at HPS ⊢
 have hw1 : IntKind.i64.wrap (born + s.pools[b].lim.age) = born + s.pools[b].lim.age := by rw [IntKind.wrap_i64]; omega
 generalize s.pools[b].lim.age = age at HC hcl hw1
 generalize s.shut = sh at HC hcl
 generalize s.now = nw at HC hcl
 clear h hb hn hs hl hel hpos e1 hbo hag
 cases again with
 | false =>
  clear hcl
  go_enter Try.func76, Try.ntmps76
  go_wp2_with fail
  refine HP.out.mono ?_
  rintro e w1 ⟨rfl, hb1⟩
  obtain ⟨k0, k1, k4, k3⟩ := HC.out w1 hb1
  go_wp2
  go_quiet (fail)
  go_wp2_with fail
  refine (HE.out _ (below_drewN hb1 _)).mono ?_
  rintro e w2 ⟨rfl, ⟨ev2, hr2⟩, hg2⟩
  go_wp2_with fail
  refine (HPS.out w2 ev2 hr2).mono ?_
  rintro e w3 ⟨rfl, hr3, hg3⟩
  go_wp2
  refine bodyPost_ret (results_none rfl _ _ _) rfl ?_
  exact ⟨rfl, hr3, ((Gb.of_below (S := S) (below_drewN hb1 _)).trans hg2).trans hg3⟩
 | true =>
  cases sh with
  | true =>
   clear hcl
   go_enter Try.func76, Try.ntmps76
   go_wp2_with fail
   refine HP.out.mono ?_
   rintro e w1 ⟨rfl, hb1⟩
   obtain ⟨k0, k1, k4, k3⟩ := HC.out w1 hb1
   go_wp2
   go_quiet (fail)
   go_wp2_with fail
   refine (HE.out _ (below_drewN hb1 _)).mono ?_
   rintro e w2 ⟨rfl, ⟨ev2, hr2⟩, hg2⟩
   go_wp2_with fail
   refine (HPS.out w2 ev2 hr2).mono ?_
   rintro e w3 ⟨rfl, hr3, hg3⟩
   go_wp2
   refine bodyPost_ret (results_none rfl _ _ _) rfl ?_
   exact ⟨rfl, hr3, ((Gb.of_below (S := S) (below_drewN hb1 _)).trans hg2).trans hg3⟩
  | false =>
   have hold : born + age ≤ nw := by simpa using hcl
   clear hcl
   go_enter Try.func76, Try.ntmps76
   go_wp2_with fail
   refine HP.out.mono ?_
   rintro e w1 ⟨rfl, hb1⟩
   obtain ⟨k0, k1, k4, k3⟩ := HC.out w1 hb1
   go_wp2
   go_quiet (fail)
   go_wp2_with fail
   refine (HE.out _ (below_drewN hb1 _)).mono ?_
   rintro e w2 ⟨rfl, ⟨ev2, hr2⟩, hg2⟩
   go_wp2_with fail
   refine (HPS.out w2 ev2 hr2).mono ?_
   rintro e w3 ⟨rfl, hr3, hg3⟩
   go_wp2
   refine bodyPost_ret (results_none rfl _ _ _) rfl ?_
   exact ⟨rfl, hr3, ((Gb.of_below (S := S) (below_drewN hb1 _)).trans hg2).trans hg3⟩
set_option maxHeartbeats 2000000 in
set_option maxRecDepth 100000 in
set_option linter.unusedSimpArgs false in
theorem give_wait (S : Nat → Prop) (R G n cap b : Nat) (c : Md.Call) (s : Md.State) (es : List Md.Effect) (W : Nat → Prop) (ev : SlV) (pvs : List PoolV) (conn born : Int) (x : Md.Waiter) (xs : List Md.Waiter) (w : World) (h : RunV S R c s es W (some ⟨G, 0, none⟩, n, cap) ev pvs w) (hb : c.backend = (b : Int)) (hn : n = s.pools.length) (hbn : b < s.pools.length)
 (hs2 : List.Pairwise (fun (x y : Md.Lease) => x.1 < y.1) s.pools[b].leases) (hl2 : s.pools[b].leases.length ≤ 1000000) (hel : es.length ≤ 900000)
 (hbo : -4611686018427387904 ≤ born ∧ born ≤ 4611686018427387903) (hag : -4611686018427387904 ≤ s.pools[b].lim.age ∧ s.pools[b].lim.age ≤ 4611686018427387903) (hsh : s.shut = false) (hyo : s.now < born + s.pools[b].lim.age) (hw : s.pools[b].waiters = x :: xs) (hx1 : 1 ≤ x.1) :
 Calls Try.prog 76 #[.pointer (some ⟨R, 0, none⟩), I64 conn, I64 born, .bool true] w fun e w' => e = .returned (.tuple #[]) ∧ RunE S R c (setP s b (Md.give s.shut s.now c.backend s.pools[b] conn born true).1) (es ++ (Md.give s.shut s.now c.backend s.pools[b] conn born true).2) (fun j => W j ∧ j ≠ b) G n cap w' ∧ Gb S w w' := by
 have hbp : b < pvs.length := by rw [h.len]; exact hbn
 have HP := Lib.hid (pool_any R G n cap b c s ev w (runCells_of h.blk) hb (by omega))
 have HC : Hid (∀ w1, Below w.heap.size w w1 → w1.cell? ⟨R, 0, none⟩ = some (I64 s.now) ∧ w1.cell? ⟨R, 1, none⟩ = some (.bool s.shut) ∧ w1.cell? ⟨R, 4, none⟩ = some (I64 c.backend) ∧ w1.cell? ⟨G, b * 11 + 3, none⟩ = some (I64 s.pools[b].lim.age)) := fun w1 hb1 => by
  have h1 := runCells_of (h.below hb1).blk
  have h2 := ((h.below hb1).cells hbp).c3
  rw [(h.each b hbp hbn).lim] at h2
  exact ⟨h1.c0, h1.c1, h1.c4, h2⟩
 have e1 : Md.give s.shut s.now c.backend s.pools[b] conn born true = ({ s.pools[b] with waiters := xs, leases := Md.insLease (x.1, conn, born) s.pools[b].leases }, [(1, c.backend, x.1, conn)]) := by
  unfold Md.give
  rw [hsh, hw, if_neg (by simpa using hyo)]
 rw [e1]
 dsimp only
 rw [hsh] at HC
 have HN : Hid (∀ w1, Below w.heap.size w w1 → Calls Try.prog 94 #[.pointer (some ⟨R, 0, none⟩)] w1 fun e w' => e = .returned (I64 x.1) ∧ (∃ pvs', RunV S R c (setP s b { s.pools[b] with waiters := xs }) es (fun j => W j ∧ j ≠ b) (some ⟨G, 0, none⟩, n, cap) ev pvs' w') ∧ Gb S w1 w') := fun w1 hb1 =>
  next_cons S R G n cap b c s es W ev pvs x xs w1 (h.below hb1) hb hn hbn hw
 have HL : Hid (∀ w1 pvs1, RunV S R c (setP s b { s.pools[b] with waiters := xs }) es (fun j => W j ∧ j ≠ b) (some ⟨G, 0, none⟩, n, cap) ev pvs1 w1 → Calls Try.prog 68 #[.pointer (some ⟨R, 0, none⟩), valLease (x.1, conn, born)] w1 fun e w' => e = .returned (.tuple #[]) ∧ (∃ pvs', RunV S R c (setP s b { s.pools[b] with waiters := xs, leases := Md.insLease (x.1, conn, born) s.pools[b].leases }) es (fun j => W j ∧ j ≠ b) (some ⟨G, 0, none⟩, n, cap) ev pvs' w') ∧ Gb S w1 w') := fun w1 pvs1 h1 => by
  have hbn1 : b < (setP s b { s.pools[b] with waiters := xs }).pools.length := by rw [setP_len]; exact hbn
  have q := lease_any S R G n cap b c _ es _ ev pvs1 (x.1, conn, born) w1 h1 hb (by rw [setP_len]; exact hn) hbn1 (by rw [setP_get]; exact hs2) (by rw [setP_get]; exact hl2)
  rw [setP_get, setP_set] at q
  exact q
 have HE : Hid (∀ w1 pvs1, RunV S R c (setP s b { s.pools[b] with waiters := xs, leases := Md.insLease (x.1, conn, born) s.pools[b].leases }) es (fun j => W j ∧ j ≠ b) (some ⟨G, 0, none⟩, n, cap) ev pvs1 w1 → w1.cell? ⟨R, 4, none⟩ = some (I64 c.backend) ∧ Calls Try.prog 77 #[.pointer (some ⟨R, 0, none⟩), I64 1, I64 c.backend, I64 x.1, I64 conn] w1 fun e w' => e = .returned (.tuple #[]) ∧ RunE S R c (setP s b { s.pools[b] with waiters := xs, leases := Md.insLease (x.1, conn, born) s.pools[b].leases }) (es ++ [(1, c.backend, x.1, conn)]) (fun j => W j ∧ j ≠ b) G n cap w' ∧ Gb S w1 w') := fun w1 pvs1 h1 =>
  ⟨(runCells_of h1.blk).c4, (effect_any S R c _ es _ _ ev pvs1 1 c.backend x.1 conn w1 h1 (by omega)).mono (fun e w' q => by
   obtain ⟨q1, ⟨ev', q2⟩, q3⟩ := q
   exact ⟨q1, ⟨ev', pvs1, q2⟩, q3⟩)⟩
 generalize setP s b { s.pools[b] with waiters := xs, leases := Md.insLease (x.1, conn, born) s.pools[b].leases } = s2 at HL HE ⊢
 generalize setP s b { s.pools[b] with waiters := xs } = s1 at HN HL
 have hw1 : IntKind.i64.wrap (born + s.pools[b].lim.age) = born + s.pools[b].lim.age := by rw [IntKind.wrap_i64]; omega
 generalize s.pools[b].lim.age = age at HC hyo hw1
 generalize s.now = nw at HC hyo
 obtain ⟨xc, xd⟩ := x
 have hpos : (0 : Int) < xc := by have h9 := hx1; dsimp only at h9; omega
 unfold valLease at HL
 dsimp only at HN HL HE ⊢
 clear h hb hn hs2 hl2 hel e1 hbo hag hsh hw hx1
 go_enter Try.func76, Try.ntmps76
 go_wp2_with fail
 refine HP.out.mono ?_
 rintro e w1 ⟨rfl, hb1⟩
 obtain ⟨k0, k1, k4, k3⟩ := HC.out w1 hb1
 go_wp2
 go_quiet (fail)
 go_wp2_with fail
 refine (HN.out _ (below_drewN hb1 _)).mono ?_
 rintro e w2 ⟨rfl, ⟨pvs2, hr2⟩, hg2⟩
 go_wp2_with fail
 refine (HL.out w2 pvs2 hr2).mono ?_
 rintro e w3 ⟨rfl, ⟨pvs3, hr3⟩, hg3⟩
 obtain ⟨c4, HE3⟩ := HE.out w3 pvs3 hr3
 go_wp2_with fail
 refine HE3.mono ?_
 rintro e w4 ⟨rfl, hr4, hg4⟩
 go_wp2
 refine bodyPost_ret (results_none rfl _ _ _) rfl ?_
 exact ⟨rfl, hr4, (((Gb.of_below (S := S) (below_drewN hb1 _)).trans hg2).trans hg3).trans hg4⟩
end Go.Proofs.Ytaicmiadgnpimaa
namespace Go.Proofs.Ytaicmiadgnpimaa
open Go.RowKit

section
variable {α : Type} {P : Program} {S T : TypeId} {n b : Nat} {z : Value} {enc : α → List Value}
/-- append(v, x) as a run. -/
theorem run_appL (E : ElT P S T n b z enc) (w : World) (B : Nat) (v : Value) (l : List α) (f : α) (hown : OwnL T n enc w B v l) (g : Nat) (c : Nat)
 (h0 : ∀ i u, (enc f)[i]? = some u → w.cell? ⟨g, i, none⟩ = some u) (hlen : l.length + 1 ≤ maxLen) (hby : (l.length + 1) * b ≤ 140737488355328) (hbase : B ≤ w.heap.size) (ty : TypeId) :
 ∃ g' c' w', (Builtin.append_ #[S, S] ty #[v, .slice (some ⟨g, 0, none⟩) 1 c]).run P w = .ok (.slice (some ⟨g', 0, none⟩) (l.length + 1) c') w' ∧ OwnL T n enc w' B (.slice (some ⟨g', 0, none⟩) (l.length + 1) c') (l ++ [f]) ∧ w.grownBy w' v.ownBlock ∧ (some g' = v.ownBlock ∨ g' = w.heap.size) := by
 obtain ⟨i0, hi, hz0, hz1, hz2⟩ := info_parts E.info
 obtain ⟨v', w', hr, h1, h2, _, hat⟩ := run_append_own_at (P := P) w B S ty T i0 z n b E.und hi hz0 hz1 hz2 E.zc E.pos v l.length (l.flatMap enc) hown ⟨g, 0, none⟩ 1 c (enc f) (by rw [E.len, Nat.one_mul]) (fun j u hu => by
  rw [addr_add0]
  exact h0 j u hu) (E.one f) hlen hby hbase
 have hw : OwnL T n enc w' B v' (l ++ [f]) := by
  unfold OwnL
  rw [List.length_append, List.flatMap_append]
  simpa using h1
 rcases h1.2 with ⟨_, h0⟩ | ⟨g', cap, cur, hv, _⟩
 · omega
 · subst hv
   refine ⟨g', cap, w', hr, hw, h2, ?_⟩
   rcases hat with e | e
   · exact .inl e
   · exact .inr (by injection e)
end
theorem step_append_runI {P : Program} {ops : Array Oper} {o : Oper} {a : Act} {w : World} {K : Act → World → Prop} {Q : Exit → Act → World → Prop} {E : Prop}
 (hg : o.guard = none) (d x : Operand) (dT sT : TypeId) (hop : o.op = Op.call { callee := Callee.builtin Builtin.append, args := #[d, x], argTypes := #[dT, sT] })
 (v u : Value) (hd : a.eval d = v) (hx : a.eval x = u) {v' : Value} {w' : World} (hr : (Builtin.append_ #[dT, sT] o.type #[v, u]).run P w = .ok v' w') (hK : K (a.put o.dst v') w') :
 if Region.wanted o (yielded ops a.tmps) = true then Oper.wp P o a w K Q else E := by
 have hw : Region.wanted o (yielded ops a.tmps) = true := by simp [Region.wanted, hg]
 rw [if_pos hw]
 unfold Oper.wp
 simp [execOp, hop, resolve, invoke, builtin, hd, hx, hr, Result.andThen]
 exact hK

def ISeen (R : Nat) (k : Int) (w : World) : Prop := w.cell? ⟨R, 0, none⟩ = some (I64 k)
set_option maxHeartbeats 4000000 in
set_option maxRecDepth 100000 in
set_option linter.unusedSimpArgs false in
theorem give_idle (S : Nat → Prop) (R G n cap b : Nat) (c : Md.Call) (s : Md.State) (es : List Md.Effect) (W : Nat → Prop) (ev : SlV) (pvs : List PoolV) (conn born : Int) (w : World) (h : RunV S R c s es W (some ⟨G, 0, none⟩, n, cap) ev pvs w) (hb : c.backend = (b : Int)) (hn : n = s.pools.length) (hbn : b < s.pools.length)
 (hl3 : s.pools[b].idle.length ≤ 1000000)
 (hbo : -4611686018427387904 ≤ born ∧ born ≤ 4611686018427387903) (hag : -4611686018427387904 ≤ s.pools[b].lim.age ∧ s.pools[b].lim.age ≤ 4611686018427387903) (hsh : s.shut = false) (hyo : s.now < born + s.pools[b].lim.age) (hw : s.pools[b].waiters = []) :
 Calls Try.prog 76 #[.pointer (some ⟨R, 0, none⟩), I64 conn, I64 born, .bool true] w fun e w' => e = .returned (.tuple #[]) ∧ RunE S R c (setP s b (Md.give s.shut s.now c.backend s.pools[b] conn born true).1) (es ++ (Md.give s.shut s.now c.backend s.pools[b] conn born true).2) (fun j => W j ∧ j ≠ b) G n cap w' ∧ Gb S w w' := by
 have hbp : b < pvs.length := by rw [h.len]; exact hbn
 have HP := Lib.hid (pool_any R G n cap b c s ev w (runCells_of h.blk) hb (by omega))
 have HC : Hid (∀ w1, Below w.heap.size w w1 → w1.cell? ⟨R, 0, none⟩ = some (I64 s.now) ∧ w1.cell? ⟨R, 1, none⟩ = some (.bool s.shut) ∧ w1.cell? ⟨R, 4, none⟩ = some (I64 c.backend) ∧ w1.cell? ⟨G, b * 11 + 3, none⟩ = some (I64 s.pools[b].lim.age)) := fun w1 hb1 => by
  have h1 := runCells_of (h.below hb1).blk
  have h2 := ((h.below hb1).cells hbp).c3
  rw [(h.each b hbp hbn).lim] at h2
  exact ⟨h1.c0, h1.c1, h1.c4, h2⟩
 have e1 : Md.give s.shut s.now c.backend s.pools[b] conn born true = ({ s.pools[b] with idle := s.pools[b].idle ++ [(conn, born, s.now)] }, []) := by
  unfold Md.give
  rw [hsh, if_neg (by simpa using hyo)]
  split
  · rename_i e
    rw [hw] at e
    cases e
  · rfl
 rw [e1]
 dsimp only
 rw [List.append_nil]
 rw [hsh] at HC
 have HN : Hid (∀ w1, Below w.heap.size w w1 → Calls Try.prog 94 #[.pointer (some ⟨R, 0, none⟩)] w1 fun e w' => e = .returned (I64 0) ∧ Below w.heap.size w w') := fun w1 hb1 =>
  (next_nil S R G n cap b c s es W ev pvs w1 (h.below hb1) hb hn hbn hw).mono (fun e w' q => ⟨q.1, hb1.trans (q.2.mono hb1.size)⟩)
 have HA : Hid (∀ w1, Below w.heap.size w w1 → ∃ u' w3, (Builtin.append_ #[43, 43] 43 #[valS pvs[b].vI, .slice (some ⟨w1.heap.size, 0, none⟩) 1 1]).run Try.prog (w1.alloc (.cells #[I64 conn, I64 born, I64 s.now] 100)) = .ok (valS u') w3 ∧ ISeen R s.now w3 ∧ w3.cell? ⟨G, b * 11 + 4, none⟩ = some (valS pvs[b].vI) ∧ w3.frozen? ⟨G, b * 11 + 4, none⟩ = false ∧ ISeen R s.now (w3.setCell ⟨G, b * 11 + 4, none⟩ (valS u')) ∧
  RunE S R c (setP s b { s.pools[b] with idle := s.pools[b].idle ++ [(conn, born, s.now)] }) es (fun j => W j ∧ j ≠ b) G n cap (w3.setCell ⟨G, b * 11 + 4, none⟩ (valS u')) ∧ Gb S w (w3.setCell ⟨G, b * 11 + 4, none⟩ (valS u'))) := fun w1 hb1 => by
  have hal := (Below.refl w1.heap.size w1).alloc (Nat.le_refl _) (.cells #[I64 conn, I64 born, I64 s.now] 100)
  have h1 := (h.below hb1).below hal
  have hq1 := h1.each b hbp hbn
  obtain ⟨g', c', w3, hr, ho, hg, hat⟩ := run_appL (P := Try.prog) elConn (w1.alloc (.cells #[I64 conn, I64 born, I64 s.now] 100)) 0 (valS pvs[b].vI) s.pools[b].idle (conn, born, s.now) hq1.idle w1.heap.size 1 (cells_new (enc := encConn) w1 (conn, born, s.now) #[I64 conn, I64 born, I64 s.now] 100 rfl) (by unfold maxLen; omega) (by omega) (Nat.zero_le _) 43
  rw [valS_own] at hg hat
  have hmem : ∀ k, obS pvs[b].vI = some k → some k ∈ owns R (some ⟨G, 0, none⟩, n, cap) ev pvs := fun k hk => by
   unfold owns
   exact List.mem_cons_of_mem _ (List.mem_cons_of_mem _ (List.mem_cons_of_mem _ (mem_flat hbp (by rw [← hk]; simp [ob4]))))
  have hGne : some G ≠ obS pvs[b].vI := fun e => by
   refine (h.sep.row (k := G) rfl).2.2 b hbp ?_
   rw [e]
   simp [ob4]
  have hR2 := h1.setI hbp hbn hg (u := (some ⟨g', 0, none⟩, s.pools[b].idle.length + 1, c')) ho (by
   rcases hat with e | e
   · exact .inl e
   · refine .inr fun k' hk => ?_
     injection hk with hk
     exact Nat.le_of_eq (e.symm.trans hk))
  have hRne : some R ≠ obS pvs[b].vI := fun e => by
   have h9 := mem_flat hbp (x := obS pvs[b].vI) (by simp [ob4])
   rw [← e] at h9
   obtain ⟨j, hj⟩ := List.mem_iff_getElem?.1 h9
   have := h.sep 0 (3 + j) R (by simp [owns]) (by rw [show 3 + j = j + 3 by omega]; simpa [owns] using hj)
   omega
  have hpc := (h1.cells hbp).kept hg hGne
  have g1 : Gb S w (w1.alloc (.cells #[I64 conn, I64 born, I64 s.now] 100)) := (Gb.of_below (S := S) (hb1.mono (Nat.le_refl _))).trans (.of_below hal)
  exact ⟨(some ⟨g', 0, none⟩, s.pools[b].idle.length + 1, c'), w3, hr, (runCells_of (h1.blk_kept hg hRne)).c0, hpc.c4, hpc.fr 4, (runCells_of hR2.blk).c0, ⟨_, _, hR2.impW (fun j x => x.1)⟩, (g1.trans (.of_grown hg fun k hk => h.sub k (hmem k hk))).setCell (h.sub G (by simp [owns, obS])) _⟩
 have HX : Hid (∀ w1, Below w.heap.size w w1 → w1.cell? ⟨G, b * 11 + 4, none⟩ = some (valS pvs[b].vI)) := fun w1 hb1 => ((h.below hb1).cells hbp).c4
 generalize setP s b { s.pools[b] with idle := s.pools[b].idle ++ [(conn, born, s.now)] } = s2 at HA ⊢
 have hw1 : IntKind.i64.wrap (born + s.pools[b].lim.age) = born + s.pools[b].lim.age := by rw [IntKind.wrap_i64]; omega
 generalize s.pools[b].lim.age = age at HC hyo hw1
 generalize s.now = nw at HC hyo HA
 obtain ⟨u, hu⟩ : ∃ u, u = pvs[b].vI := ⟨_, rfl⟩
 rw [← hu] at HA HX
 obtain ⟨ua, un, uc⟩ := u
 unfold valS at HA HX
 dsimp only at HA HX
 clear hu h hb hn hl3 e1 hbo hag hsh hw
 go_enter Try.func76, Try.ntmps76
 go_wp2_with fail
 refine HP.out.mono ?_
 rintro e w1 ⟨rfl, hb1⟩
 obtain ⟨k0, k1, k4, k3⟩ := HC.out w1 hb1
 go_wp2
 go_quiet (fail)
 go_wp2_with fail
 refine (HN.out _ (below_drewN hb1 _)).mono ?_
 rintro e w2 ⟨rfl, hb2⟩
 go_wp2
 have hd2 := hb2.drew
 have hI : ISeen R nw w2.drew := (HC.out _ hd2).1
 have hx2 := HX.out _ hd2
 refine wp_region_held_drew (S := ISeen R nw) (by kernel_rfl) hI (fun hHeld => ?_)
 refine tk 0 (v := ?vv0_1) (dropAt rfl) (Or.inl ⟨by rfl, ?hv0_1⟩) hHeld ?rv0_1
 case hv0_1 => (intro w hSw; unfold ISeen at hSw; go_simp; first | done | with_reducible rfl)
 try simp only [Act.put, pu2, pu3, pu4]
 refine tk 1 (v := ?vv1_2) (dropAt rfl) (Or.inl ⟨by rfl, ?hv1_2⟩) hHeld ?rv1_2
 case hv1_2 => (intro w hSw; unfold ISeen at hSw; go_simp; first | done | with_reducible rfl)
 try simp only [Act.put, pu2, pu3, pu4]
 refine tk 2 (v := ?vv2_3) (dropAt rfl) (Or.inl ⟨by rfl, ?hv2_3⟩) hHeld ?rv2_3
 case hv2_3 => (intro w hSw; unfold ISeen at hSw; go_simp; first | done | with_reducible rfl)
 try simp only [Act.put, pu2, pu3, pu4]
 refine tk 3 (v := ?vv3_4) (dropAt rfl) (Or.inl ⟨by rfl, ?hv3_4⟩) hHeld ?rv3_4
 case hv3_4 => (intro w hSw; unfold ISeen at hSw; go_simp; first | done | with_reducible rfl)
 try simp only [Act.put, pu2, pu3, pu4]
 refine tk 5 (v := ?vv5_5) (dropAt rfl) (Or.inl ⟨by rfl, ?hv5_5⟩) hHeld ?rv5_5
 case hv5_5 => (intro w hSw; unfold ISeen at hSw; go_simp; first | done | with_reducible rfl)
 try simp only [Act.put, pu2, pu3, pu4]
 refine tk 6 (v := ?vv6_6) (dropAt rfl) (Or.inl ⟨by rfl, ?hv6_6⟩) hHeld ?rv6_6
 case hv6_6 => (intro w hSw; unfold ISeen at hSw; go_simp; first | done | with_reducible rfl)
 try simp only [Act.put, pu2, pu3, pu4]
 refine tk 7 (v := ?vv7_7) (dropAt rfl) (Or.inl ⟨by rfl, ?hv7_7⟩) hHeld ?rv7_7
 case hv7_7 => (intro w hSw; unfold ISeen at hSw; go_simp; first | done | with_reducible rfl)
 try simp only [Act.put, pu2, pu3, pu4]
 refine tk 8 (v := ?vv8_8) (dropAt rfl) (Or.inl ⟨by rfl, ?hv8_8⟩) hHeld ?rv8_8
 case hv8_8 => (intro w hSw; unfold ISeen at hSw; go_simp; first | done | with_reducible rfl)
 try simp only [Act.put, pu2, pu3, pu4]
 refine tk 9 (v := ?vv9_9) (dropAt rfl) (Or.inl ⟨by rfl, ?hv9_9⟩) hHeld ?rv9_9
 case hv9_9 => (intro w hSw; unfold ISeen at hSw; go_simp; first | done | with_reducible rfl)
 try simp only [Act.put, pu2, pu3, pu4]
 refine tk 10 (v := ?vv10_10) (dropAt rfl) (Or.inl ⟨by rfl, ?hv10_10⟩) hHeld ?rv10_10
 case hv10_10 => (intro w hSw; unfold ISeen at hSw; go_simp; first | done | with_reducible rfl)
 try simp only [Act.put, pu2, pu3, pu4]
 refine tk 11 (v := ?vv11_11) (dropAt rfl) (Or.inl ⟨by rfl, ?hv11_11⟩) hHeld ?rv11_11
 case hv11_11 => (intro w hSw; unfold ISeen at hSw; go_simp; first | done | with_reducible rfl)
 try simp only [Act.put, pu2, pu3, pu4]
 refine tk 12 (v := ?vv12_12) (dropAt rfl) (Or.inl ⟨by rfl, ?hv12_12⟩) hHeld ?rv12_12
 case hv12_12 => (intro w hSw; unfold ISeen at hSw; go_simp; first | done | with_reducible rfl)
 try simp only [Act.put, pu2, pu3, pu4]
 refine wpAnyH_ready (rs := [4, 13]) (by kernel_rfl) (by simp) ?_
 refine AllReadyH.cons (o := _) (dropAt (r := _) rfl) (fun K hK => ?_) (AllReadyH.cons (o := _) (dropAt (r := _) rfl) (fun K hK => ?_) AllReadyH.nil)
 · go_simp
   refine hK.out _ _ hHeld (fun hHeldb => ?_)
   clear hK K hHeldb
   try simp only [Act.put, pu2, pu3, pu4]
   refine wpAnyH_ready (rs := [13]) (by kernel_rfl) (by simp) ?_
   refine AllReadyH.cons (o := _) (dropAt (r := _) rfl) (fun K hK => ?_) AllReadyH.nil
   go_simp
   refine hK.out _ _ (show ISeen R nw (w2.drew.alloc (.cells #[I64 conn, I64 born, I64 nw] 100)) from (HC.out _ (hd2.alloc hd2.size (.cells #[I64 conn, I64 born, I64 nw] 100))).1) (fun hHeldc => ?_)
   clear hK K hHeldc
   try simp only [Act.put, pu2, pu3, pu4]
   refine wpAnyH_ready (rs := [14]) (by kernel_rfl) (by simp) ?_
   refine AllReadyH.cons (o := _) (dropAt (r := _) rfl) (fun K hK => ?_) AllReadyH.nil
   obtain ⟨⟨va, vn, vc⟩, w3, hr, hi3, k5, f5, hi4, hR, hG⟩ := HA.out _ hd2
   refine step_append_runI rfl _ _ 43 43 rfl _ _ (by simp [Act.eval, Act.put]) (by simp [Act.eval, Act.put]) hr ?_
   refine hK.out _ _ hi3 (fun hHeld4 => ?_)
   clear hK K hr
   try simp only [Act.put, pu2, pu3, pu4]
   refine tk 15 (v := ?vv15_13) (dropAt rfl) (Or.inl ⟨by rfl, ?hv15_13⟩) hHeld4 ?rv15_13
   case hv15_13 => (intro w hSw; unfold ISeen at hSw; go_simp; first | done | with_reducible rfl)
   try simp only [Act.put, pu2, pu3, pu4]
   refine tk 16 (v := ?vv16_14) (dropAt rfl) (Or.inl ⟨by rfl, ?hv16_14⟩) hHeld4 ?rv16_14
   case hv16_14 => (intro w hSw; unfold ISeen at hSw; go_simp; first | done | with_reducible rfl)
   try simp only [Act.put, pu2, pu3, pu4]
   dsimp only at hi4 hR hG
   refine wpAnyH_ready (rs := [17]) (by kernel_rfl) (by simp) ?_
   refine AllReadyH.cons (o := _) (dropAt (r := _) rfl) (fun K hK => ?_) AllReadyH.nil
   go_simp
   refine hK.out _ _ hi4 (fun hHeld5 => ?_)
   clear hK K
   try simp only [Act.put, pu2, pu3, pu4]
   refine wpAnyH_done (by kernel_rfl) ?_ _
   go_wp2
   go_end0
   exact ⟨rfl, hR, hG⟩
 · go_simp
   refine hK.out _ _ (show ISeen R nw (w2.drew.alloc (.cells #[I64 conn, I64 born, I64 nw] 100)) from (HC.out _ (hd2.alloc hd2.size (.cells #[I64 conn, I64 born, I64 nw] 100))).1) (fun hHeldc => ?_)
   clear hK K hHeldc
   try simp only [Act.put, pu2, pu3, pu4]
   have hx4 := HX.out _ (hb2.alloc hb2.size (.cells #[I64 conn, I64 born, I64 nw] 100))
   refine wpAnyH_ready (rs := [4]) (by kernel_rfl) (by simp) ?_
   refine AllReadyH.cons (o := _) (dropAt (r := _) rfl) (fun K hK => ?_) AllReadyH.nil
   go_simp
   refine hK.out _ _ (show ISeen R nw (w2.drew.alloc (.cells #[I64 conn, I64 born, I64 nw] 100)) from (HC.out _ (hd2.alloc hd2.size (.cells #[I64 conn, I64 born, I64 nw] 100))).1) (fun hHeldd => ?_)
   clear hK K hHeldd
   try simp only [Act.put, pu2, pu3, pu4]
   refine wpAnyH_ready (rs := [14]) (by kernel_rfl) (by simp) ?_
   refine AllReadyH.cons (o := _) (dropAt (r := _) rfl) (fun K hK => ?_) AllReadyH.nil
   obtain ⟨⟨va, vn, vc⟩, w3, hr, hi3, k5, f5, hi4, hR, hG⟩ := HA.out _ hd2
   refine step_append_runI rfl _ _ 43 43 rfl _ _ (by simp [Act.eval, Act.put]) (by simp [Act.eval, Act.put]) hr ?_
   refine hK.out _ _ hi3 (fun hHeld4 => ?_)
   clear hK K hr
   try simp only [Act.put, pu2, pu3, pu4]
   refine tk 15 (v := ?vv15_15) (dropAt rfl) (Or.inl ⟨by rfl, ?hv15_15⟩) hHeld4 ?rv15_15
   case hv15_15 => (intro w hSw; unfold ISeen at hSw; go_simp; first | done | with_reducible rfl)
   try simp only [Act.put, pu2, pu3, pu4]
   refine tk 16 (v := ?vv16_16) (dropAt rfl) (Or.inl ⟨by rfl, ?hv16_16⟩) hHeld4 ?rv16_16
   case hv16_16 => (intro w hSw; unfold ISeen at hSw; go_simp; first | done | with_reducible rfl)
   try simp only [Act.put, pu2, pu3, pu4]
   dsimp only at hi4 hR hG
   refine wpAnyH_ready (rs := [17]) (by kernel_rfl) (by simp) ?_
   refine AllReadyH.cons (o := _) (dropAt (r := _) rfl) (fun K hK => ?_) AllReadyH.nil
   go_simp
   refine hK.out _ _ hi4 (fun hHeld5 => ?_)
   clear hK K
   try simp only [Act.put, pu2, pu3, pu4]
   refine wpAnyH_done (by kernel_rfl) ?_ _
   go_wp2
   go_end0
   exact ⟨rfl, hR, hG⟩
end Go.Proofs.Ytaicmiadgnpimaa
namespace Go.Proofs.Ytaicmiadgnpimaa
open Go.RowKit

/-- What the changing calls ask of a backend. -/
structure PoolFit (p : Md.Pool) : Prop where
 ds : List.Pairwise (fun (x y : Md.Dial) => x.1 < y.1) p.dials
 dl : p.dials.length ≤ 1000000
 ls : List.Pairwise (fun (x y : Md.Lease) => x.1 < y.1) p.leases
 ll : p.leases.length ≤ 1000000
 il : p.idle.length ≤ 1000000
 wl : p.waiters.length ≤ 1000000
 wp : ∀ x ∈ p.waiters, 1 ≤ x.1
 ag : -4611686018427387904 ≤ p.lim.age ∧ p.lim.age ≤ 4611686018427387903
theorem give_any (S : Nat → Prop) (R G n cap b : Nat) (c : Md.Call) (s : Md.State) (es : List Md.Effect) (W : Nat → Prop) (ev : SlV) (pvs : List PoolV) (conn born : Int) (again : Bool) (w : World) (h : RunV S R c s es W (some ⟨G, 0, none⟩, n, cap) ev pvs w) (hb : c.backend = (b : Int)) (hn : n = s.pools.length) (hbn : b < s.pools.length)
 (hf : PoolFit s.pools[b]) (hel : es.length ≤ 900000) (hbo : -4611686018427387904 ≤ born ∧ born ≤ 4611686018427387903) :
 Calls Try.prog 76 #[.pointer (some ⟨R, 0, none⟩), I64 conn, I64 born, .bool again] w fun e w' => e = .returned (.tuple #[]) ∧ RunE S R c (setP s b (Md.give s.shut s.now c.backend s.pools[b] conn born again).1) (es ++ (Md.give s.shut s.now c.backend s.pools[b] conn born again).2) (fun j => W j ∧ j ≠ b) G n cap w' ∧ Gb S w w' := by
 cases hcl : (s.shut || decide (born + s.pools[b].lim.age ≤ s.now) || !again) with
 | true => exact give_close S R G n cap b c s es W ev pvs conn born again w h hb hn hbn hf.ds hf.dl hel hf.wp hbo hf.ag hcl
 | false =>
  simp only [Bool.or_eq_false_iff, Bool.not_eq_false', decide_eq_false_iff_not] at hcl
  obtain ⟨⟨h1, h2⟩, rfl⟩ := hcl
  cases hw : s.pools[b].waiters with
  | cons x xs => exact give_wait S R G n cap b c s es W ev pvs conn born x xs w h hb hn hbn hf.ls hf.ll hel hbo hf.ag h1 (by omega) hw (hf.wp x (by rw [hw]; simp))
  | nil => exact give_idle S R G n cap b c s es W ev pvs conn born w h hb hn hbn hf.il hbo hf.ag h1 (by omega) hw
theorem results_cell_oneN {P : Program} {fn : Func} {p : Tmp} {ty : TypeId} (h : fn.results = #[.cell p ty]) (tmps : Array Value) (w : World) :
 (results fn tmps).run P w = ((asAddr (tmps.getD p undef)).run P w).andThen fun a w₁ => (loadVar ty a).run P w₁ := by
 simp only [results, h]
 simp [Sem.run_bind, Result.andThen]
/-- A result without a number. -/
theorem is_any (k : Int) (w : World) : Calls Try.prog 64 #[I64 k] w fun e w' => e = .returned (.agg #[I64 k, I64 0, I64 0]) ∧ Below w.heap.size w w' := by
 go_enter Try.func64, Try.ntmps64
 go_wp2
 refine bodyPost_ret (v := .agg #[I64 k, I64 0, I64 0]) (by rw [results_cell_oneN rfl]; go_simp) rfl ?_
 exact ⟨rfl, (Below.refl _ _).alloc (Nat.le_refl _) _⟩
theorem fine_any (R : Nat) (w : World) : Calls Try.prog 54 #[.pointer (some ⟨R, 0, none⟩)] w fun e w' => e = .returned (I64 0) ∧ w' = w := by
 go_enter Try.func54, Try.ntmps54
 go_wp2
 go_ret
 exact ⟨rfl, rfl⟩
theorem past_any (R : Nat) (c : Md.Call) (s : Md.State) (vp ev : SlV) (w : World) (h : RunCells w R c s vp ev) : Calls Try.prog 52 #[.pointer (some ⟨R, 0, none⟩)] w fun e w' => e = .returned (I64 (if c.time < s.now then 7 else 0)) ∧ Below w.heap.size w w' := by
 have c0 := h.c0
 have c7 := h.c7
 clear h
 by_cases ht : c.time < s.now
 · rw [if_pos ht]
   go_enter Try.func52, Try.ntmps52
   go_wp2
   go_quiet (fail)
   go_wp2
   go_ret
   exact ⟨rfl, below_drewN (Below.refl _ _) _⟩
 · rw [if_neg ht]
   go_enter Try.func52, Try.ntmps52
   go_wp2
   go_quiet (fail)
   go_wp2
   go_ret
   exact ⟨rfl, below_drewN (Below.refl _ _) _⟩
end Go.Proofs.Ytaicmiadgnpimaa
