/-
  Laws of no program: append of a slice that reads as a list (perhaps empty) to a row of one's own.
-/
import Derived.Test.YtaicmiadgnpimaaMdLib
import Derived.Test.YtaicmiadgnpimaaMw38
import Derived.OrdersHeld
import Derived.Deep.RegionHeld
namespace Go.Proofs.Ytaicmiadgnpimaa
open Go.RowKit Go.Shelf

section
variable {α : Type} {P : Program} {S T : TypeId} {n b : Nat} {z : Value} {enc : α → List Value}
/-- append(v, m...) at one operation: the source reads as m. -/
theorem appLsK (E : ElT P S T n b z enc) {o : Oper} {a : Act} {K : Act → World → Prop} {Q : Exit → Act → World → Prop} (w : World) (s x : Operand)
 (ho : o.op = .call { callee := .builtin .append, args := #[s, x], argTypes := #[S, S] })
 (B : Nat) (v : Value) (l m : List α) (hs : a.eval s = v) (hown : OwnL T n enc w B v l) (g off c : Nat) (hx : a.eval x = .slice (some ⟨g, off, none⟩) m.length c)
 (h0 : ∀ j (hj : j < m.length) i u, (enc m[j])[i]? = some u → w.cell? ⟨g, off + j * n + i, none⟩ = some u) (hlen : l.length + m.length ≤ maxLen) (hby : (l.length + m.length) * b ≤ 140737488355328) (hbase : B ≤ w.heap.size)
 (h : ∀ v' w', OwnL T n enc w' B v' (l ++ m) → w.grownBy w' v.ownBlock → K (a.put o.dst v') w') : o.wp P a w K Q := by
 obtain ⟨i0, hi, hz0, hz1, hz2⟩ := info_parts E.info
 refine wp_append_own w s x S ho B T i0 z n b E.und hi hz0 hz1 hz2 E.zc E.pos v l.length (l.flatMap enc) hs hown ⟨g, off, none⟩ m.length c (m.flatMap enc) hx (flat_length E.len m) ?_ ?_ hlen hby hbase ?_
 · intro j u hu
   have hj : j < m.length * n := by rw [← flat_length E.len m]; exact (List.getElem?_eq_some_iff.1 hu).1
   have hd : j / n < m.length := Nat.div_lt_of_lt_mul (by rw [Nat.mul_comm]; exact hj)
   have hm : j / n * n + j % n = j := Nat.div_add_mod' j n
   have hlt : j % n < (enc m[j / n]).length := by rw [E.len]; exact Nat.mod_lt _ E.pos
   have e := flat_get E.len m (j / n) hd (j % n) _ (List.getElem?_eq_getElem hlt)
   rw [hm, hu] at e
   have c1 := h0 (j / n) hd (j % n) u (by rw [List.getElem?_eq_getElem hlt]; exact e.symm)
   have ea : (⟨g, off, none⟩ : Addr).add j = ⟨g, off + j, none⟩ := by unfold Addr.add; split <;> simp_all
   rw [ea]
   rw [Nat.add_assoc, hm] at c1
   exact c1
 · intro u hu
   obtain ⟨y, _, hy⟩ := List.mem_flatMap.1 hu
   exact E.one y u hy
 · intro v' w' h1 h2 _
   refine h v' w' ?_ h2
   unfold OwnL
   rw [List.length_append, List.flatMap_append]
   exact h1
/-- The same where the source is any slice that reads as m (perhaps nil). -/
theorem appLsR (E : ElT P S T n b z enc) {o : Oper} {a : Act} {K : Act → World → Prop} {Q : Exit → Act → World → Prop} (w : World) (s x : Operand)
 (ho : o.op = .call { callee := .builtin .append, args := #[s, x], argTypes := #[S, S] })
 (B : Nat) (v : Value) (l m : List α) (hs : a.eval s = v) (hown : OwnL T n enc w B v l) (vx : Value) (hx : a.eval x = vx) (hr : ReadsL n enc w vx m)
 (hlen : l.length + m.length ≤ maxLen) (hby : (l.length + m.length) * b ≤ 140737488355328) (hbase : B ≤ w.heap.size)
 (h : ∀ v' w', OwnL T n enc w' B v' (l ++ m) → w.grownBy w' v.ownBlock → K (a.put o.dst v') w') : o.wp P a w K Q := by
 rcases hr with ⟨ad, c, rfl, rfl⟩ | ⟨g, off, c, rfl, hg, hc⟩
 · obtain ⟨i0, hi, hz0, hz1, hz2⟩ := info_parts E.info
   cases ad with
   | some ad =>
    refine wp_append_own w s x S ho B T i0 z n b E.und hi hz0 hz1 hz2 E.zc E.pos v l.length (l.flatMap enc) hs hown ad 0 c [] hx (by simp) (fun j u hu => by simp at hu) (fun u hu => by simp at hu) hlen hby hbase ?_
    intro v' w' h1 h2 _
    refine h v' w' ?_ h2
    rw [List.append_nil] at h1 ⊢
    exact h1
   | none =>
    have key : (Builtin.append_ #[S, S] o.type #[v, .slice none 0 c]).run P w = .ok v w := by
     rcases hown.2 with ⟨rfl, h0⟩ | ⟨g, cap, cur, rfl, hbg, hg, hnc, hcm, hcs, htake⟩
     · simp [Builtin.append_, run_underlying E.und, sizeOf, typeInfo, hi, Builtin.lenOf, Builtin.firstCells]
     · simp [Builtin.append_, run_underlying E.und, sizeOf, typeInfo, hi, Builtin.lenOf, Builtin.firstCells, hnc, storeCells]
    unfold Oper.wp execOp
    simp only [ho, resolve, invoke, builtin, Sem.run_bind, Sem.run_pure, Result.andThen_ok, List.map_toArray, List.map_cons, List.map_nil, hs, hx, key]
    refine h v w ?_ ⟨rfl, rfl, rfl, Nat.le_refl _, fun _ _ _ => rfl⟩
    rw [List.append_nil]
    exact hown
 · exact appLsK E w s x ho B v l m hs hown g off c hx hc hlen hby hbase h
theorem appLsRw (E : ElT P S T n b z enc) {ops : Array Oper} {rest : List Oper} {o : Oper} {a : Act} {Q : Exit → Act → World → Prop} (w : World) (hgd : o.guard = none) (s x : Operand)
 (ho : o.op = .call { callee := .builtin .append, args := #[s, x], argTypes := #[S, S] })
 (B : Nat) (v : Value) (l m : List α) (hs : a.eval s = v) (hown : OwnL T n enc w B v l) (vx : Value) (hx : a.eval x = vx) (hr : ReadsL n enc w vx m)
 (hlen : l.length + m.length ≤ maxLen) (hby : (l.length + m.length) * b ≤ 140737488355328) (hbase : B ≤ w.heap.size)
 (h : ∀ v' w', OwnL T n enc w' B v' (l ++ m) → w.grownBy w' v.ownBlock → wpList P ops Q rest (a.put o.dst v') w') : wpList P ops Q (o :: rest) a w :=
 wpList_plain hgd fun _ hK => appLsR E w s x ho B v l m hs hown vx hx hr hlen hby hbase fun v' w' h1 h2 => hK _ _ (h v' w' h1 h2)
end
end Go.Proofs.Ytaicmiadgnpimaa
namespace Go.Proofs.Ytaicmiadgnpimaa
open Go.RowKit

theorem own_empty {α : Type} (T : TypeId) (n : Nat) (enc : α → List Value) (w : World) : OwnL T n enc (w.alloc (.cells #[] T)) w.heap.size (.slice (some ⟨w.heap.size, 0, none⟩) 0 0) ([] : List α) :=
 ⟨by simp, .inr ⟨w.heap.size, 0, #[], rfl, Nat.le_refl _, blk_new w _, Nat.le_refl _, by unfold maxLen; omega, by simp, by simp⟩⟩
theorem own_any_base {α : Type} {T : TypeId} {n B : Nat} {enc : α → List Value} {w : World} {v : Value} {l : List α} (h : OwnL T n enc w B v l) : ∃ u, v = valS u ∧ OwnL T n enc w B (valS u) l := by
 obtain ⟨u, e, _⟩ := own_slice h
 exact ⟨u, e, e ▸ h⟩
theorem own_base0 {α : Type} {T : TypeId} {n B : Nat} {enc : α → List Value} {w : World} {v : Value} {l : List α} (h : OwnL T n enc w B v l) : OwnL T n enc w 0 v l := by
 refine ⟨h.1, h.2.imp id ?_⟩
 rintro ⟨g, cap, cur, e1, e2, e3⟩
 exact ⟨g, cap, cur, e1, Nat.zero_le _, e3⟩
set_option maxHeartbeats 1000000 in
set_option maxRecDepth 100000 in
theorem cloneConn (u : SlV) (l : List Md.Conn) (w : World) (h : ReadsL 3 encConn w (valS u) l) (hl : l.length ≤ 1000000) :
 Calls Try.prog 60 #[valS u] w fun e w' => ∃ u', e = .returned (valS u') ∧ OwnL 100 3 encConn w' w.heap.size (valS u') l ∧ Below w.heap.size w w' := by
 have HR := Lib.hid h
 have hnil := fun (w : World) a n c => Go.Lib.run_eql_slice_nil (P := Try.prog) w 43 100 a n c 0 0 Try.underlying43
 obtain ⟨a, k, c⟩ := u
 cases a with
 | none =>
  have hl0 : l = [] := by
   rcases h with ⟨a, cap, e1, e2⟩ | ⟨b, o, cap, e1, e2, e3⟩
   · exact e2
   · unfold valS at e1
     cases e1
  subst hl0
  have hk : k = 0 := by
   obtain ⟨a, cap, e⟩ := h.len
   unfold valS at e
   injection e
  subst hk
  clear h HR
  unfold valS
  dsimp only
  go_enter Try.func60, Try.ntmps60
  go_wp2
  go_ret
  exact ⟨(none, 0, 0), rfl, OwnL.nil _ _, Below.refl _ _⟩
 | some ad =>
  have HB := Lib.hid ((Below.refl w.heap.size w).alloc (Nat.le_refl _) (.cells #[] 100))
  have HE := Lib.hid (own_empty 100 3 encConn w)
  unfold valS at HR ⊢
  dsimp only at HR ⊢
  clear h
  go_enter Try.func60, Try.ntmps60
  go_wp2_with (at_builtin; refine appLsRw elConn _ rfl _ _ rfl w.heap.size _ _ _ rfl HE.out _ rfl (HR.out.below HB.out) (by unfold maxLen; simp; omega) (by simp; omega) (by simp) ?_; rintro v2 w2 hown hgr; rw [List.nil_append] at hown; obtain ⟨u2, rfl, hown2⟩ := own_any_base hown; clear hown)
  go_ret
  exact ⟨u2, rfl, hown2, HB.out.grown hgr (by simp) (fun k hk => by injection hk with hk; exact Nat.le_of_eq hk)⟩
set_option maxHeartbeats 1000000 in
set_option maxRecDepth 100000 in
theorem cloneLease (u : SlV) (l : List Md.Lease) (w : World) (h : ReadsL 3 encLease w (valS u) l) (hl : l.length ≤ 1000000) :
 Calls Try.prog 61 #[valS u] w fun e w' => ∃ u', e = .returned (valS u') ∧ OwnL 69 3 encLease w' w.heap.size (valS u') l ∧ Below w.heap.size w w' := by
 have HR := Lib.hid h
 have hnil := fun (w : World) a n c => Go.Lib.run_eql_slice_nil (P := Try.prog) w 44 69 a n c 0 0 Try.underlying44
 obtain ⟨a, k, c⟩ := u
 cases a with
 | none =>
  have hl0 : l = [] := by
   rcases h with ⟨a, cap, e1, e2⟩ | ⟨b, o, cap, e1, e2, e3⟩
   · exact e2
   · unfold valS at e1
     cases e1
  subst hl0
  have hk : k = 0 := by
   obtain ⟨a, cap, e⟩ := h.len
   unfold valS at e
   injection e
  subst hk
  clear h HR
  unfold valS
  dsimp only
  go_enter Try.func61, Try.ntmps61
  go_wp2
  go_ret
  exact ⟨(none, 0, 0), rfl, OwnL.nil _ _, Below.refl _ _⟩
 | some ad =>
  have HB := Lib.hid ((Below.refl w.heap.size w).alloc (Nat.le_refl _) (.cells #[] 69))
  have HE := Lib.hid (own_empty 69 3 encLease w)
  unfold valS at HR ⊢
  dsimp only at HR ⊢
  clear h
  go_enter Try.func61, Try.ntmps61
  go_wp2_with (at_builtin; refine appLsRw elLease _ rfl _ _ rfl w.heap.size _ _ _ rfl HE.out _ rfl (HR.out.below HB.out) (by unfold maxLen; simp; omega) (by simp; omega) (by simp) ?_; rintro v2 w2 hown hgr; rw [List.nil_append] at hown; obtain ⟨u2, rfl, hown2⟩ := own_any_base hown; clear hown)
  go_ret
  exact ⟨u2, rfl, hown2, HB.out.grown hgr (by simp) (fun k hk => by injection hk with hk; exact Nat.le_of_eq hk)⟩
set_option maxHeartbeats 1000000 in
set_option maxRecDepth 100000 in
theorem cloneDial (u : SlV) (l : List Md.Dial) (w : World) (h : ReadsL 2 encDial w (valS u) l) (hl : l.length ≤ 1000000) :
 Calls Try.prog 62 #[valS u] w fun e w' => ∃ u', e = .returned (valS u') ∧ OwnL 66 2 encDial w' w.heap.size (valS u') l ∧ Below w.heap.size w w' := by
 have HR := Lib.hid h
 have hnil := fun (w : World) a n c => Go.Lib.run_eql_slice_nil (P := Try.prog) w 45 66 a n c 0 0 Try.underlying45
 obtain ⟨a, k, c⟩ := u
 cases a with
 | none =>
  have hl0 : l = [] := by
   rcases h with ⟨a, cap, e1, e2⟩ | ⟨b, o, cap, e1, e2, e3⟩
   · exact e2
   · unfold valS at e1
     cases e1
  subst hl0
  have hk : k = 0 := by
   obtain ⟨a, cap, e⟩ := h.len
   unfold valS at e
   injection e
  subst hk
  clear h HR
  unfold valS
  dsimp only
  go_enter Try.func62, Try.ntmps62
  go_wp2
  go_ret
  exact ⟨(none, 0, 0), rfl, OwnL.nil _ _, Below.refl _ _⟩
 | some ad =>
  have HB := Lib.hid ((Below.refl w.heap.size w).alloc (Nat.le_refl _) (.cells #[] 66))
  have HE := Lib.hid (own_empty 66 2 encDial w)
  unfold valS at HR ⊢
  dsimp only at HR ⊢
  clear h
  go_enter Try.func62, Try.ntmps62
  go_wp2_with (at_builtin; refine appLsRw elDial _ rfl _ _ rfl w.heap.size _ _ _ rfl HE.out _ rfl (HR.out.below HB.out) (by unfold maxLen; simp; omega) (by simp; omega) (by simp) ?_; rintro v2 w2 hown hgr; rw [List.nil_append] at hown; obtain ⟨u2, rfl, hown2⟩ := own_any_base hown; clear hown)
  go_ret
  exact ⟨u2, rfl, hown2, HB.out.grown hgr (by simp) (fun k hk => by injection hk with hk; exact Nat.le_of_eq hk)⟩
set_option maxHeartbeats 1000000 in
set_option maxRecDepth 100000 in
theorem cloneWaiter (u : SlV) (l : List Md.Waiter) (w : World) (h : ReadsL 2 encWaiter w (valS u) l) (hl : l.length ≤ 1000000) :
 Calls Try.prog 63 #[valS u] w fun e w' => ∃ u', e = .returned (valS u') ∧ OwnL 58 2 encWaiter w' w.heap.size (valS u') l ∧ Below w.heap.size w w' := by
 have HR := Lib.hid h
 have hnil := fun (w : World) a n c => Go.Lib.run_eql_slice_nil (P := Try.prog) w 46 58 a n c 0 0 Try.underlying46
 obtain ⟨a, k, c⟩ := u
 cases a with
 | none =>
  have hl0 : l = [] := by
   rcases h with ⟨a, cap, e1, e2⟩ | ⟨b, o, cap, e1, e2, e3⟩
   · exact e2
   · unfold valS at e1
     cases e1
  subst hl0
  have hk : k = 0 := by
   obtain ⟨a, cap, e⟩ := h.len
   unfold valS at e
   injection e
  subst hk
  clear h HR
  unfold valS
  dsimp only
  go_enter Try.func63, Try.ntmps63
  go_wp2
  go_ret
  exact ⟨(none, 0, 0), rfl, OwnL.nil _ _, Below.refl _ _⟩
 | some ad =>
  have HB := Lib.hid ((Below.refl w.heap.size w).alloc (Nat.le_refl _) (.cells #[] 58))
  have HE := Lib.hid (own_empty 58 2 encWaiter w)
  unfold valS at HR ⊢
  dsimp only at HR ⊢
  clear h
  go_enter Try.func63, Try.ntmps63
  go_wp2_with (at_builtin; refine appLsRw elWaiter _ rfl _ _ rfl w.heap.size _ _ _ rfl HE.out _ rfl (HR.out.below HB.out) (by unfold maxLen; simp; omega) (by simp; omega) (by simp) ?_; rintro v2 w2 hown hgr; rw [List.nil_append] at hown; obtain ⟨u2, rfl, hown2⟩ := own_any_base hown; clear hown)
  go_ret
  exact ⟨u2, rfl, hown2, HB.out.grown hgr (by simp) (fun k hk => by injection hk with hk; exact Nat.le_of_eq hk)⟩
set_option maxHeartbeats 1000000 in
set_option maxRecDepth 100000 in
theorem clonePool (u : SlV) (l : List PoolV) (w : World) (h : ReadsL 11 encP w (valS u) l) (hl : l.length ≤ 1000000) :
 Calls Try.prog 59 #[valS u] w fun e w' => ∃ u', e = .returned (valS u') ∧ OwnL 48 11 encP w' w.heap.size (valS u') l ∧ Below w.heap.size w w' := by
 have HR := Lib.hid h
 have hnil := fun (w : World) a n c => Go.Lib.run_eql_slice_nil (P := Try.prog) w 24 48 a n c 0 0 Try.underlying24
 obtain ⟨a, k, c⟩ := u
 cases a with
 | none =>
  have hl0 : l = [] := by
   rcases h with ⟨a, cap, e1, e2⟩ | ⟨b, o, cap, e1, e2, e3⟩
   · exact e2
   · unfold valS at e1
     cases e1
  subst hl0
  have hk : k = 0 := by
   obtain ⟨a, cap, e⟩ := h.len
   unfold valS at e
   injection e
  subst hk
  clear h HR
  unfold valS
  dsimp only
  go_enter Try.func59, Try.ntmps59
  go_wp2
  go_ret
  exact ⟨(none, 0, 0), rfl, OwnL.nil _ _, Below.refl _ _⟩
 | some ad =>
  have HB := Lib.hid ((Below.refl w.heap.size w).alloc (Nat.le_refl _) (.cells #[] 48))
  have HE := Lib.hid (own_empty 48 11 encP w)
  unfold valS at HR ⊢
  dsimp only at HR ⊢
  clear h
  go_enter Try.func59, Try.ntmps59
  go_wp2_with (at_builtin; refine appLsRw elP _ rfl _ _ rfl w.heap.size _ _ _ rfl HE.out _ rfl (HR.out.below HB.out) (by unfold maxLen; simp; omega) (by simp; omega) (by simp) ?_; rintro v2 w2 hown hgr; rw [List.nil_append] at hown; obtain ⟨u2, rfl, hown2⟩ := own_any_base hown; clear hown)
  go_ret
  exact ⟨u2, rfl, hown2, HB.out.grown hgr (by simp) (fun k hk => by injection hk with hk; exact Nat.le_of_eq hk)⟩
end Go.Proofs.Ytaicmiadgnpimaa
namespace Go

section
variable {P : Program} {ops : Array Oper} {Q : Exit → Act → World → Prop} {md : Region.Mode} {S : World → Prop} {m : Nat}

/-- Whatever order is picked, S holds behind each operation ahead of number m. -/
def wpAnyM (P : Program) (md : Region.Mode) (ops : Array Oper) (Q : Exit → Act → World → Prop) (S : World → Prop) (m : Nat) : Nat → Array Bool → Act → World → Prop
 | 0, listed, a, w => Region.ready md ops listed = [] ∧ Q .normal a w
 | fuel + 1, listed, a, w =>
  (Region.ready md ops listed = [] → Q .normal a w) ∧
  ∀ i ∈ Region.ready md ops listed, wpOp P ops Q i (fun a' w' => (i < m → S w') ∧ wpAnyM P md ops Q S m fuel (listed.setIfInBounds i true) a' w') a w
theorem wpAny_of_M : ∀ (fuel : Nat) (listed : Array Bool) (a : Act) (w : World), wpAnyM P md ops Q S m fuel listed a w → wpAny P md ops Q fuel listed a w
 | 0, _, _, _, h => h
 | fuel + 1, _, _, _, h => ⟨h.1, fun i hi => wpOp_mono (fun a' w' h' => wpAny_of_M fuel _ a' w' h'.2) (h.2 i hi)⟩
/-- All from number m on wait for number i. -/
def Region.lateWait (md : Region.Mode) (ops : Array Oper) (m i : Nat) : Bool := (List.range ops.size).all fun j => decide (j < m) || match ops[j]? with
 | some o => o.after.any fun e => Region.binds md e && e.on == i
 | none => true
theorem Region.lateWait_spec {i : Nat} (h : Region.lateWait md ops m i = true) : ∀ (j : Nat) (oj : Oper), ops[j]? = some oj → m ≤ j → ∃ e ∈ oj.after, Region.binds md e = true ∧ e.on = i := by
 intro j oj hj hm
 have hlt : j < ops.size := by
  rcases Nat.lt_or_ge j ops.size with h1 | h1
  · exact h1
  · rw [Array.getElem?_eq_none h1] at hj
    cases hj
 have h1 := List.all_eq_true.1 h j (List.mem_range.2 hlt)
 rw [hj] at h1
 simp only [Bool.or_eq_true, decide_eq_true_eq] at h1
 rcases h1 with h1 | h1
 · omega
 · obtain ⟨e, he, hb⟩ := Array.any_eq_true'.1 h1
   simp only [Bool.and_eq_true, beq_iff_eq] at hb
   exact ⟨e, he, hb.1, hb.2⟩
theorem wpAnyM_first {i : Nat} {oi : Oper} {v : Value} (hi : ops[i]? = some oi) (hsel : ∀ (j : Nat) (o : Oper) cs b, ops[j]? = some o → o.op ≠ .select cs b)
 (hQ : ∀ c a w, Q (.panic c) (a.put oi.dst v) w → Q (.panic c) a w) (hlate : ∀ (j : Nat) (oj : Oper), ops[j]? = some oj → m ≤ j → ∃ e ∈ oj.after, Region.binds md e = true ∧ e.on = i) :
 ∀ (fuel : Nat) (listed : Array Bool) (a : Act) (w : World),
  (∀ j oj, ops[j]? = some oj → j ≠ i → listed.getD j true = false → (∀ e ∈ oj.after, Region.binds md e = true → e.on ≠ i) → oi.apart ops oj = true) →
  i ∈ Region.ready md ops listed → YieldsIf P ops S oi v a → S w →
  wpAnyM P md ops Q S m fuel (listed.setIfInBounds i true) (a.put oi.dst v) w → wpAnyM P md ops Q S m (fuel + 1) listed a w := by
 intro fuel
 induction fuel with
 | zero =>
  intro listed a w _ hr hy hS H
  refine ⟨fun h => (by rw [h] at hr; cases hr), fun j hj => ?_⟩
  by_cases hji : j = i
  · subst hji; exact hy.wpOp hi hS ⟨fun _ => hS, H⟩
  · have := ready_mono hj hji
    rw [H.1] at this
    cases this
 | succ fuel ih =>
  intro listed a w hfree hr hy hS H
  refine ⟨fun h => (by rw [h] at hr; cases hr), fun j hj => ?_⟩
  by_cases hji : j = i
  · subst hji; exact hy.wpOp hi hS ⟨fun _ => hS, H⟩
  · have h1 := H.2 j (ready_mono hj hji)
    obtain ⟨hjun, oj, hoj, hall⟩ := mem_ready.1 hj
    have hnot : ∀ e ∈ oj.after, Region.binds md e = true → e.on ≠ i := fun e he hb heq => by
     have h1 := hall e he hb
     have h0 := (mem_ready.1 hr).1
     rw [heq] at h1
     rcases Nat.lt_or_ge i listed.size with h' | h'
     · simp [h'] at h0 h1; rw [h0] at h1; cases h1
     · simp [Array.getElem?_eq_none h'] at h1
    have hjm : j < m := by
     rcases Nat.lt_or_ge j m with h' | h'
     · exact h'
     · obtain ⟨e, he, hb, heq⟩ := hlate j oj hoj h'
       exact absurd heq (hnot e he hb)
    have h2 := wpOp_putIf hoj (hfree j oj hoj hji hjun hnot) (fun cs b => hsel i oi cs b hi) (fun cs b => hsel j oj cs b hoj) hQ hy h1
    have hfree' : ∀ k ok, ops[k]? = some ok → k ≠ i → (listed.setIfInBounds j true).getD k true = false →
     (∀ e ∈ ok.after, Region.binds md e = true → e.on ≠ i) → oi.apart ops ok = true := fun k ok hk hki hun hno => by
     refine hfree k ok hk hki ?_ hno
     by_cases hjk : j = k
     · subst hjk; exact hjun
     · rw [getD_set_ne true hjk] at hun; exact hun
    refine wpOp_mono (fun a' w' h3 => ⟨h3.2.1, ih (listed.setIfInBounds j true) a' w' hfree' (ready_mono hr (Ne.symm hji)) h3.1 (h3.2.1 hjm) ?_⟩) h2
    rw [Array.setIfInBounds_comm _ _ hji]
    exact h3.2.2
theorem wpAnyM_take {i : Nat} {oi : Oper} {v : Value} {fuel : Nat} {listed : Array Bool} {a : Act} {w : World} (hi : ops[i]? = some oi)
 (hs : Region.noSelect ops = true) (hf : Region.free md ops listed i = true) (hr : (Region.ready md ops listed).contains i = true) (hw : Region.lateWait md ops m i = true)
 (hQ : ∀ c a w, Q (.panic c) (a.put oi.dst v) w → Q (.panic c) a w) (hy : YieldsIf P ops S oi v a) (hS : S w)
 (h : wpAnyM P md ops Q S m fuel (listed.setIfInBounds i true) (a.put oi.dst v) w) : wpAnyM P md ops Q S m (fuel + 1) listed a w :=
 wpAnyM_first hi (Region.noSelect_spec hs) hQ (Region.lateWait_spec hw) fuel listed a w (Region.free_spec hi hf) (by simpa using hr) hy hS h
theorem wpAnyM_all {rs : List Nat} {fuel : Nat} {listed : Array Bool} {a : Act} {w : World} (hr : Region.ready md ops listed = rs) (hne : rs ≠ [])
 (h : ∀ i ∈ rs, wpOp P ops Q i (fun a' w' => (i < m → S w') ∧ wpAnyM P md ops Q S m fuel (listed.setIfInBounds i true) a' w') a w) : wpAnyM P md ops Q S m (fuel + 1) listed a w :=
 ⟨fun h0 => absurd (hr ▸ h0) hne, hr ▸ h⟩
theorem wpAnyM_done {listed : Array Bool} {a : Act} {w : World} (hr : Region.ready md ops listed = []) (h : Q .normal a w) :
 ∀ fuel, wpAnyM P md ops Q S m fuel listed a w
 | 0 => ⟨hr, h⟩
 | _ + 1 => ⟨fun _ => h, by rw [hr]; simp⟩
theorem wp_region_heldM {id : Nat} {a : Act} {w : World} (m : Nat) (hm : P.follows .mixedOrders = true)
 (h : wpAnyM P .any ops Q S m ops.size (Array.replicate ops.size false) a { w with drawn := w.drawn + 1 }) : (Code.region id ops true).wp P Q a w :=
 wp_region_any hm (wpAny_of_M _ _ _ _ h)
theorem wp_region_heldM_drew {id : Nat} {a : Act} {w : World} (m : Nat) (hm : P.follows .mixedOrders = true) (hS : S w.drew)
 (h : S w.drew → wpAnyM P .any ops Q S m ops.size (Array.replicate ops.size false) a w.drew) : (Code.region id ops true).wp P Q a w :=
 wp_region_heldM m hm (h hS)
def AllReadyM (P : Program) (md : Region.Mode) (ops : Array Oper) (Q : Exit → Act → World → Prop) (S : World → Prop) (m fuel : Nat) (listed : Array Bool) (a : Act) (w : World) (rs : List Nat) : Prop :=
 ∀ i ∈ rs, wpOp P ops Q i (fun a' w' => (i < m → S w') ∧ wpAnyM P md ops Q S m fuel (listed.setIfInBounds i true) a' w') a w
theorem AllReadyM.nil {fuel : Nat} {listed : Array Bool} {a : Act} {w : World} : AllReadyM P md ops Q S m fuel listed a w [] := fun _ h => by cases h
/-- An early operation: S is shown behind it. -/
theorem AllReadyM.cons {fuel : Nat} {listed : Array Bool} {a : Act} {w : World} {i : Nat} {o : Oper} {rs : List Nat} (ho : ops[i]? = some o)
 (h : ∀ K' : Act → World → Prop, Shut (∀ a w, S w → (S w → wpAnyM P md ops Q S m fuel (listed.setIfInBounds i true) a w) → K' a w) → if Region.wanted o (yielded ops a.tmps) = true then Oper.wp P o a w K' Q else K' (a.put o.dst undef) w)
 (hs : AllReadyM P md ops Q S m fuel listed a w rs) : AllReadyM P md ops Q S m fuel listed a w (i :: rs) := fun j hj => by
 rcases List.mem_cons.1 hj with rfl | hj
 · exact wpOp_step ho (fun K' hK => h K' (fun a w hS hW => hK a w ⟨fun _ => hS, hW hS⟩))
 · exact hs j hj
/-- A late operation: nothing is shown. -/
theorem AllReadyM.late {fuel : Nat} {listed : Array Bool} {a : Act} {w : World} {i : Nat} {o : Oper} {rs : List Nat} (hi : ¬ i < m) (ho : ops[i]? = some o)
 (h : ∀ K' : Act → World → Prop, Shut (∀ a w, wpAnyM P md ops Q S m fuel (listed.setIfInBounds i true) a w → K' a w) → if Region.wanted o (yielded ops a.tmps) = true then Oper.wp P o a w K' Q else K' (a.put o.dst undef) w)
 (hs : AllReadyM P md ops Q S m fuel listed a w rs) : AllReadyM P md ops Q S m fuel listed a w (i :: rs) := fun j hj => by
 rcases List.mem_cons.1 hj with rfl | hj
 · exact wpOp_step ho (fun K' hK => h K' (fun a w hW => hK a w ⟨fun h => absurd h hi, hW⟩))
 · exact hs j hj
theorem wpAnyM_ready {rs : List Nat} {fuel : Nat} {listed : Array Bool} {a : Act} {w : World} (hr : Region.ready md ops listed = rs) (hne : rs ≠ [])
 (h : AllReadyM P md ops Q S m fuel listed a w rs) : wpAnyM P md ops Q S m (fuel + 1) listed a w := wpAnyM_all hr hne h
end
end Go
namespace Go.Proofs.Ytaicmiadgnpimaa
open Go.RowKit

/-- How a backend that is only read lies. -/
structure PoolRd (w : World) (pv : PoolV) (p : Md.Pool) : Prop where
 lim : pv.lim = p.lim
 up : pv.up = p.up
 breaker : pv.breaker = p.breaker
 probe : pv.probe = p.probe
 idle : ReadsL 3 encConn w (valS pv.vI) p.idle
 leases : ReadsL 3 encLease w (valS pv.vL) p.leases
 dials : ReadsL 2 encDial w (valS pv.vD) p.dials
 waiters : ReadsL 2 encWaiter w (valS pv.vW) p.waiters
theorem PoolRd.below {w w' : World} {pv : PoolV} {p : Md.Pool} (h : PoolRd w pv p) (hb : Below w.heap.size w w') : PoolRd w' pv p :=
 ⟨h.lim, h.up, h.breaker, h.probe, h.idle.below hb, h.leases.below hb, h.dials.below hb, h.waiters.below hb⟩
theorem PoolOwn.rd {w : World} {W : Prop} {pv : PoolV} {p : Md.Pool} (h : PoolOwn w W pv p) : PoolRd w pv p :=
 ⟨h.lim, h.up, h.breaker, h.probe, h.idle.reads encConn_len, h.leases.reads encLease_len, h.dials.reads encDial_len, h.waiters⟩
theorem slv_of {α : Type} {n : Nat} {enc : α → List Value} {w : World} {v : Value} {l : List α} (h : ReadsL n enc w v l) : ∃ u : SlV, v = valS u := by
 obtain ⟨a, cap, e⟩ := h.len
 exact ⟨(a, l.length, cap), e⟩
theorem PoolAt.rd {w : World} {cs : List Value} {p : Md.Pool} (h : PoolAt w cs p) : ∃ pv, cs = encP pv ∧ PoolRd w pv p := by
 obtain ⟨vI, vL, vD, vW, hcs, r1, r2, r3, r4⟩ := h
 obtain ⟨u1, rfl⟩ := slv_of r1
 obtain ⟨u2, rfl⟩ := slv_of r2
 obtain ⟨u3, rfl⟩ := slv_of r3
 obtain ⟨u4, rfl⟩ := slv_of r4
 exact ⟨⟨p.lim, u1, u2, u3, u4, p.up, p.breaker, p.probe⟩, hcs, rfl, rfl, rfl, rfl, r1, r2, r3, r4⟩
theorem PoolRd.at_ {w : World} {pv : PoolV} {p : Md.Pool} (h : PoolRd w pv p) : PoolAt w (encP pv) p := by
 obtain ⟨lim, vI, vL, vD, vW, up, br, pr⟩ := pv
 obtain ⟨e1, e2, e3, e4, r1, r2, r3, r4⟩ := h
 dsimp only at e1 e2 e3 e4 r1 r2 r3 r4
 subst e1 e2 e3 e4
 exact ⟨_, _, _, _, rfl, r1, r2, r3, r4⟩
/-- Backends that are only read: their row and what it holds. -/
def PoolsRd (w : World) (u : SlV) (pvs : List PoolV) (ps : List Md.Pool) : Prop := ReadsL 11 encP w (valS u) pvs ∧ pvs.length = ps.length ∧ ∀ j (h : j < pvs.length) (h' : j < ps.length), PoolRd w pvs[j] ps[j]
theorem PoolsRd.below {w w' : World} {u : SlV} {pvs : List PoolV} {ps : List Md.Pool} (h : PoolsRd w u pvs ps) (hb : Below w.heap.size w w') : PoolsRd w' u pvs ps :=
 ⟨h.1.below hb, h.2.1, fun j a b => (h.2.2 j a b).below hb⟩
theorem list_choose {α : Type} (n : Nat) (P : Nat → α → Prop) (h : ∀ j, j < n → ∃ x, P j x) : ∃ l : List α, l.length = n ∧ ∀ j (hj : j < l.length), P j l[j] := by
 induction n with
 | zero => exact ⟨[], rfl, fun j hj => absurd hj (by simp)⟩
 | succ n ih =>
  obtain ⟨l, h1, h2⟩ := ih (fun j hj => h j (by omega))
  obtain ⟨x, hx⟩ := h n (by omega)
  refine ⟨l ++ [x], by simp [h1], fun j hj => ?_⟩
  rw [List.length_append, List.length_singleton] at hj
  by_cases hjn : j < l.length
  · rw [List.getElem_append_left hjn]
    exact h2 j hjn
  · have e : j = n := by omega
    subst e
    rw [List.getElem_append_right (by omega)]
    simpa [h1] using hx
theorem PoolsAt.rd {w : World} {v : Value} {ps : List Md.Pool} (h : PoolsAt w v ps) : ∃ u pvs, v = valS u ∧ PoolsRd w u pvs ps := by
 rcases h with ⟨a, cap, rfl, rfl⟩ | ⟨b, o, cap, rfl, hb, hc⟩
 · exact ⟨(a, 0, cap), [], rfl, .inl ⟨_, _, rfl, rfl⟩, rfl, fun j h _ => absurd h (by simp)⟩
 · obtain ⟨pvs, hl, hp⟩ := list_choose ps.length (fun j pv => ∃ hj : j < ps.length, PoolRd w pv ps[j] ∧ ∀ i u, (encP pv)[i]? = some u → w.cell? ⟨b, o + j * 11 + i, none⟩ = some u) (fun j hj => by
    obtain ⟨cs, h1, h2⟩ := hc j hj
    obtain ⟨pv, rfl, h3⟩ := h1.rd
    exact ⟨pv, hj, h3, h2⟩)
   refine ⟨(some ⟨b, o, none⟩, ps.length, cap), pvs, rfl, .inr ⟨b, o, cap, by rw [hl]; rfl, hb, fun j hj i u hu => ?_⟩, hl, fun j h1 h2 => ?_⟩
   · obtain ⟨_, _, h3⟩ := hp j hj
     exact h3 i u hu
   · obtain ⟨_, h3, _⟩ := hp j h1
     exact h3
theorem PoolsRd.at_ {w : World} {u : SlV} {pvs : List PoolV} {ps : List Md.Pool} (h : PoolsRd w u pvs ps) : PoolsAt w (valS u) ps := by
 obtain ⟨h1, h2, h3⟩ := h
 rcases h1 with ⟨a, cap, e, rfl⟩ | ⟨b, o, cap, e, hb, hc⟩
 · refine .inl ⟨a, cap, e, ?_⟩
   simp only [List.length_nil] at h2
   exact List.eq_nil_of_length_eq_zero h2.symm
 · refine .inr ⟨b, o, cap, by rw [e, h2], hb, fun j hj => ?_⟩
   have hj' : j < pvs.length := by omega
   exact ⟨encP pvs[j], (h3 j hj' hj).at_, fun i u hu => hc j hj' i u hu⟩
/-- What a run holds is a state. -/
theorem RunE.state {S : Nat → Prop} {R : Nat} {c : Md.Call} {s : Md.State} {es : List Md.Effect} {W : Nat → Prop} {G n cap : Nat} {w : World} (h : RunE S R c s es W G n cap w) : ∃ ev : SlV, w.heap[R]? = some (.cells (runCells s c (some ⟨G, 0, none⟩, n, cap) ev) 112 (0, 0)) ∧ PoolsAt w (.slice (some ⟨G, 0, none⟩) n cap) s.pools ∧ ReadsL 4 encEff w (valS ev) es := by
 obtain ⟨ev, pvs, h⟩ := h
 refine ⟨ev, h.blk, ?_, h.effs.reads encEff_len⟩
 have hr : PoolsRd w (some ⟨G, 0, none⟩, n, cap) pvs s.pools := ⟨h.pools.reads encP_len, h.len, fun j a b => (h.each j a b).rd⟩
 exact hr.at_
theorem Sep.snoc {l : List (Option Nat)} (h : Sep l) {v : Option Nat} (hv : ∀ k, v = some k → some k ∉ l) : Sep (l ++ [v]) := by
 intro i j k hi hj
 rcases Nat.lt_or_ge i l.length with h1 | h1
 · rw [List.getElem?_append_left h1] at hi
   rcases Nat.lt_or_ge j l.length with h2 | h2
   · rw [List.getElem?_append_left h2] at hj
     exact h i j k hi hj
   · rw [List.getElem?_append_right h2] at hj
     have h3 := List.mem_of_getElem? hj
     simp only [List.mem_singleton] at h3
     exact absurd (List.mem_of_getElem? hi) (hv k h3.symm)
 · rw [List.getElem?_append_right h1] at hi
   have h3 := List.mem_of_getElem? hi
   simp only [List.mem_singleton] at h3
   rcases Nat.lt_or_ge j l.length with h2 | h2
   · rw [List.getElem?_append_left h2] at hj
     exact absurd (List.mem_of_getElem? hj) (hv k h3.symm)
   · have h4 := (List.getElem?_eq_some_iff.1 hi).1
     rw [List.getElem?_append_right h2] at hj
     have h5 := (List.getElem?_eq_some_iff.1 hj).1
     simp only [List.length_singleton] at h4 h5
     omega
theorem Sep.consR {l : List (Option Nat)} (h : Sep l) {R : Nat} (hv : some R ∉ l) : Sep (some R :: l) := by
 intro i j k hi hj
 cases i with
 | zero =>
  cases j with
  | zero => rfl
  | succ j =>
   simp only [List.getElem?_cons_zero, List.getElem?_cons_succ, Option.some.injEq] at hi hj
   subst hi
   exact absurd (List.mem_of_getElem? hj) hv
 | succ i =>
  cases j with
  | zero =>
   simp only [List.getElem?_cons_zero, List.getElem?_cons_succ, Option.some.injEq] at hi hj
   subst hj
   exact absurd (List.mem_of_getElem? hi) hv
  | succ j =>
   simp only [List.getElem?_cons_succ] at hi hj
   rw [h i j k hi hj]
def putP (pv : PoolV) (u1 u2 u3 u4 : SlV) : PoolV := { pv with vI := u1, vL := u2, vD := u3, vW := u4 }
def ownsB (G : Nat) (pvs : List PoolV) (k : Nat) : List (Option Nat) := some G :: none :: (pvs.take k).flatMap ob4
/-- The state's copy, its first k backends copied whole. w: the world at the start; M: from here on all is new. -/
structure BgAt (w w0 : World) (M G n cap : Nat) (s : Md.State) (k : Nat) (pvs : List PoolV) (wr : World) : Prop where
 pools : OwnL 48 11 encP wr 0 (valS (some ⟨G, 0, none⟩, n, cap)) pvs
 len : pvs.length = s.pools.length
 done : ∀ j (h : j < pvs.length) (h' : j < s.pools.length), j < k → PoolOwn wr True pvs[j] s.pools[j]
 rest : ∀ j (h : j < pvs.length) (h' : j < s.pools.length), k ≤ j → PoolRd w pvs[j] s.pools[j]
 sep : Sep (ownsB G pvs k)
 new : ∀ i, some i ∈ ownsB G pvs k → M ≤ i ∧ i < wr.heap.size
 below : Below w.heap.size w wr
 fix : Below M w0 wr
/-- The clones' values go into the row. -/
theorem BgAt.step {w w0 : World} {M G n cap : Nat} {s : Md.State} {k : Nat} {pvs : List PoolV} {wr a1 a2 a3 a4 : World} (h : BgAt w w0 M G n cap s k pvs wr) (hM : w.heap.size ≤ M) (hk : k < pvs.length) (hk' : k < s.pools.length) {u1 u2 u3 u4 : SlV}
 (o1 : OwnL 100 3 encConn a1 wr.heap.size (valS u1) s.pools[k].idle) (b1 : Below wr.heap.size wr a1)
 (o2 : OwnL 69 3 encLease a2 a1.heap.size (valS u2) s.pools[k].leases) (b2 : Below a1.heap.size a1 a2)
 (o3 : OwnL 66 2 encDial a3 a2.heap.size (valS u3) s.pools[k].dials) (b3 : Below a2.heap.size a2 a3)
 (o4 : OwnL 58 2 encWaiter a4 a3.heap.size (valS u4) s.pools[k].waiters) (b4 : Below a3.heap.size a3 a4) :
 BgAt w w0 M G n cap s (k + 1) (pvs.set k (putP pvs[k] u1 u2 u3 u4)) ((((a4.setCell ⟨G, k * 11 + 4, none⟩ (valS u1)).setCell ⟨G, k * 11 + 5, none⟩ (valS u2)).setCell ⟨G, k * 11 + 6, none⟩ (valS u3)).setCell ⟨G, k * 11 + 7, none⟩ (valS u4)) := by
 have hG := (h.new G (by simp [ownsB])).2
 have hMG := (h.new G (by simp [ownsB])).1
 have hwM : M ≤ wr.heap.size := by omega
 have b34 : Below a2.heap.size a2 a4 := b3.trans (b4.mono b3.size)
 have b24 : Below a1.heap.size a1 a4 := b2.trans (b34.mono b2.size)
 have b14 : Below wr.heap.size wr a4 := b1.trans (b24.mono b1.size)
 have hgs := grown_trans3 (grown_trans3 (grown_trans3 (setCell_grown a4 ⟨G, k * 11 + 4, none⟩ (valS u1)) (setCell_grown _ ⟨G, k * 11 + 5, none⟩ (valS u2))) (setCell_grown _ ⟨G, k * 11 + 6, none⟩ (valS u3))) (setCell_grown _ ⟨G, k * 11 + 7, none⟩ (valS u4))
 have hlt1 : ∀ i, obS u1 = some i → wr.heap.size ≤ i ∧ i < a1.heap.size := fun i hi => o1.lt i (by rw [valS_own]; exact hi)
 have hlt2 : ∀ i, obS u2 = some i → a1.heap.size ≤ i ∧ i < a2.heap.size := fun i hi => o2.lt i (by rw [valS_own]; exact hi)
 have hlt3 : ∀ i, obS u3 = some i → a2.heap.size ≤ i ∧ i < a3.heap.size := fun i hi => o3.lt i (by rw [valS_own]; exact hi)
 have hlt4 : ∀ i, obS u4 = some i → a3.heap.size ≤ i ∧ i < a4.heap.size := fun i hi => o4.lt i (by rw [valS_own]; exact hi)
 have s1 := b1.size
 have s2 := b2.size
 have s3 := b3.size
 have s4 := b4.size
 have hob : ob4 (putP pvs[k] u1 u2 u3 u4) = [obS u1, obS u2, obS u3, obS u4] := rfl
 have htk : (pvs.set k (putP pvs[k] u1 u2 u3 u4)).take (k + 1) = pvs.take k ++ [(putP pvs[k] u1 u2 u3 u4)] := by
  rw [List.take_succ_eq_append_getElem (by simpa using hk), List.getElem_set_self, List.take_set_of_le (Nat.le_refl _)]
 have how : ownsB G (pvs.set k (putP pvs[k] u1 u2 u3 u4)) (k + 1) = ownsB G pvs k ++ [obS u1] ++ [obS u2] ++ [obS u3] ++ [obS u4] := by
  unfold ownsB
  rw [htk, List.flatMap_append]
  simp [hob]
 have hne : ∀ {α : Type} {T : TypeId} {m : Nat} {enc : α → List Value} {u : SlV} {l : List α} {x : World}, OwnL T m enc x 0 (valS u) l → Below x.heap.size x a4 → (∀ i, obS u = some i → wr.heap.size ≤ i) → OwnL T m enc ((((a4.setCell ⟨G, k * 11 + 4, none⟩ (valS u1)).setCell ⟨G, k * 11 + 5, none⟩ (valS u2)).setCell ⟨G, k * 11 + 6, none⟩ (valS u3)).setCell ⟨G, k * 11 + 7, none⟩ (valS u4)) 0 (valS u) l := fun {α T m enc u l x} ho hb hi => by
  refine (ho.below hb).kept hgs ?_
  rw [valS_own]
  cases e : obS u with
  | none => exact .inl rfl
  | some i =>
   refine .inr fun e2 => ?_
   have := hi i e
   injection e2 with e2
   replace e2 : i = G := e2
   omega
 refine ⟨?_, by simp [h.len], fun j h1 h2 hj => ?_, fun j h1 h2 hj => ?_, ?_, fun i hi => ?_, ?_, ?_⟩
 · have hp := h.pools.below b14
   have p1 := own_setAt encP_len hp hk (i := 4) (u := valS u1) (x' := { pvs[k] with vI := u1 }) (by decide) rfl
   have p2 := own_setAt encP_len p1 (j := k) (by simpa using hk) (i := 5) (u := valS u2) (x' := { pvs[k] with vI := u1, vL := u2 }) (by decide) (by rw [List.getElem_set_self]; rfl)
   rw [List.set_set] at p2
   have p3 := own_setAt encP_len p2 (j := k) (by simpa using hk) (i := 6) (u := valS u3) (x' := { pvs[k] with vI := u1, vL := u2, vD := u3 }) (by decide) (by rw [List.getElem_set_self]; rfl)
   rw [List.set_set] at p3
   have p4 := own_setAt encP_len p3 (j := k) (by simpa using hk) (i := 7) (u := valS u4) (x' := (putP pvs[k] u1 u2 u3 u4)) (by decide) (by rw [List.getElem_set_self]; rfl)
   rw [List.set_set] at p4
   exact p4
 · by_cases hjk : j = k
   · subst hjk
     have q := h.rest j hk hk' (Nat.le_refl _)
     rw [List.getElem_set_self]
     have w4 := hne (own_base0 o4) (Below.refl _ _) (fun i hi => by have := hlt4 i hi; omega)
     exact ⟨q.lim, q.up, q.breaker, q.probe, hne (own_base0 o1) b24 (fun i hi => (hlt1 i hi).1), hne (own_base0 o2) b34 (fun i hi => by have := hlt2 i hi; omega), hne (own_base0 o3) b4 (fun i hi => by have := hlt3 i hi; omega), w4.reads encWaiter_len, fun _ => w4, fun i hi => Nat.lt_of_lt_of_le (hlt4 i hi).2 hgs.size, own_cap w4⟩
   · rw [List.getElem_set_ne (Ne.symm hjk)]
     rw [List.length_set] at h1
     have q := (h.done j h1 h2 (by omega)).kept (row := none) ⟨b14.os, b14.tape, b14.output, b14.size, fun i hi _ => b14.block i hi⟩ (fun k hk => by cases hk)
     refine q.kept hgs (fun i hi hm => ?_)
     injection hi with hi
     subst hi
     obtain ⟨x, hx, e⟩ := ob4_ix hm
     have hmem : some (G : Nat) ∈ (pvs.take k).flatMap ob4 := List.mem_flatMap.2 ⟨pvs[j], by rw [List.mem_take_iff_getElem]; exact ⟨j, by omega, rfl⟩, hm⟩
     obtain ⟨y, hy⟩ := List.mem_iff_getElem?.1 hmem
     have := h.sep 0 (y + 2) G (by simp [ownsB]) (by simpa [ownsB] using hy)
     omega
 · rw [List.length_set] at h1
   rw [List.getElem_set_ne (by omega)]
   exact h.rest j h1 h2 (by omega)
 · rw [how]
   have n0 : ∀ i, some i ∈ ownsB G pvs k → i < wr.heap.size := fun i hi => (h.new i hi).2
   refine (((h.sep.snoc fun i hi hm => ?_).snoc fun i hi hm => ?_).snoc fun i hi hm => ?_).snoc fun i hi hm => ?_
   · have := n0 i hm
     have := hlt1 i hi
     omega
   · have q := hlt2 i hi
     rcases List.mem_append.1 hm with hm | hm
     · have := n0 i hm
       omega
     · simp only [List.mem_singleton] at hm
       have := hlt1 i hm.symm
       omega
   · have q := hlt3 i hi
     simp only [List.mem_append, List.mem_singleton] at hm
     rcases hm with (hm | hm) | hm
     · have := n0 i hm
       omega
     · have := hlt1 i hm.symm
       omega
     · have := hlt2 i hm.symm
       omega
   · have q := hlt4 i hi
     simp only [List.mem_append, List.mem_singleton] at hm
     rcases hm with ((hm | hm) | hm) | hm
     · have := n0 i hm
       omega
     · have := hlt1 i hm.symm
       omega
     · have := hlt2 i hm.symm
       omega
     · have := hlt3 i hm.symm
       omega
 · have hsz := hgs.size
   rw [how] at hi
   simp only [List.mem_append, List.mem_singleton] at hi
   rcases hi with (((hi | hi) | hi) | hi) | hi
   · have := h.new i hi
     omega
   · have := hlt1 i hi.symm
     omega
   · have := hlt2 i hi.symm
     omega
   · have := hlt3 i hi.symm
     omega
   · have := hlt4 i hi.symm
     omega
 · refine (h.below.trans (b14.mono (by omega))).grown hgs (by omega) (fun i hi => ?_)
   injection hi with hi
   replace hi : G = i := hi
   omega
 · refine (h.fix.trans (b14.mono hwM)).grown hgs (by omega) (fun i hi => ?_)
   injection hi with hi
   replace hi : G = i := hi
   omega
/-- The run at the end: its block R is new. -/
theorem BgAt.run {w w0 : World} {M G n cap : Nat} {s : Md.State} {pvs : List PoolV} {wr : World} (h : BgAt w w0 M G n cap s s.pools.length pvs wr) (hM : w.heap.size ≤ M) (c : Md.Call) :
 RunV (fun i => w.heap.size ≤ i) wr.heap.size c s [] (fun _ => True) (some ⟨G, 0, none⟩, n, cap) (none, 0, 0) pvs (wr.alloc (.cells (runCells s c (some ⟨G, 0, none⟩, n, cap) (none, 0, 0)) 112)) := by
 have hal := (Below.refl wr.heap.size wr).alloc (Nat.le_refl _) (.cells (runCells s c (some ⟨G, 0, none⟩, n, cap) (none, 0, 0)) 112)
 have hown : owns wr.heap.size (some ⟨G, 0, none⟩, n, cap) (none, 0, 0) pvs = some wr.heap.size :: ownsB G pvs s.pools.length := by
  unfold owns ownsB
  rw [List.take_of_length_le (by rw [h.len]; exact Nat.le_refl _)]
  rfl
 refine ⟨blk_new wr _, h.pools.below hal, OwnL.nil _ _, h.len, fun j h1 h2 => ?_, ?_, fun k hk => ?_, fun k hk => ?_⟩
 · exact (h.done j h1 h2 h2).kept (row := none) ⟨hal.os, hal.tape, hal.output, hal.size, fun i hi _ => hal.block i hi⟩ (fun k hk => by cases hk)
 · rw [hown]
   exact h.sep.consR (fun hm => Nat.lt_irrefl _ (h.new _ hm).2)
 · rw [hown] at hk
   rcases List.mem_cons.1 hk with hk | hk
   · injection hk with hk
     rw [hk]
     exact h.below.size
   · exact Nat.le_trans hM (h.new _ hk).1
 · exact Nat.le_trans h.below.size (Nat.le_trans hal.size hk)
end Go.Proofs.Ytaicmiadgnpimaa
