/-
  Walks for layer 3 (faults): deeper of the reference; what the chain of a tree says of its limits.
-/
import Derived.Test.YtgnhbccmdpkbiaaGreatDoorFaw21
namespace Go.Proofs.YtgnhbccmdpkbiaaGreatDoor
open Go.RowKit Go.Shelf

namespace Fa
def deep (x : Node) : Node := ⟨x.depth + 1, x.joined, x.link⟩
theorem chain_deep (t : F) : ∀ d, (t.chain d).map deep = t.chain (d + 1) := by
  induction t with
  | nil => intro d; rfl
  | link x c r h1 h2 => intro d; simp only [F.chain, List.map_cons, List.map_append, h1, h2, deep]
  | join k r h1 h2 => intro d; simp only [F.chain, List.map_cons, List.map_append, h1, h2, deep]
theorem chain_depths (t : F) : ∀ d, ∀ x ∈ t.chain d, d ≤ x.depth ∧ x.depth + 1 ≤ d + t.hgt := by
  induction t with
  | nil => intro d x hx; simp [F.chain] at hx
  | link y c r h1 h2 =>
    intro d x hx
    simp only [F.chain, List.mem_cons, List.mem_append] at hx
    simp only [F.hgt]
    rcases hx with rfl | hx | hx
    · dsimp only; omega
    · have := h1 _ x hx; omega
    · have := h2 _ x hx; omega
  | join k r h1 h2 =>
    intro d x hx
    simp only [F.chain, List.mem_cons, List.mem_append] at hx
    simp only [F.hgt]
    rcases hx with rfl | hx | hx
    · dsimp only; omega
    · have := h1 _ x hx; omega
    · have := h2 _ x hx; omega
theorem chain_top (t : F) (hne : t ≠ .nil) : ∀ d, ∃ x ∈ t.chain d, x.depth + 1 = d + t.hgt := by
  induction t with
  | nil => exact absurd rfl hne
  | link y c r h1 h2 =>
    intro d
    simp only [F.chain, F.hgt]
    by_cases hr : r.hgt ≤ c.hgt + 1
    · by_cases hc : c = .nil
      · subst hc
        refine ⟨⟨d, 0, y⟩, by simp, ?_⟩
        simp only [F.hgt] at hr ⊢
        omega
      · obtain ⟨x, hx, hd⟩ := h1 hc (d + 1)
        refine ⟨x, by simp [hx], ?_⟩
        omega
    · have hrn : r ≠ .nil := fun e => by subst e; simp [F.hgt] at hr
      obtain ⟨x, hx, hd⟩ := h2 hrn d
      refine ⟨x, by simp [hx], ?_⟩
      omega
  | join k r h1 h2 =>
    intro d
    simp only [F.chain, F.hgt]
    by_cases hr : r.hgt ≤ k.hgt + 1
    · by_cases hc : k = .nil
      · subst hc
        refine ⟨⟨d, F.nil.len, Link.zero⟩, by simp, ?_⟩
        simp only [F.hgt] at hr ⊢
        omega
      · obtain ⟨x, hx, hd⟩ := h1 hc (d + 1)
        refine ⟨x, by simp [hx], ?_⟩
        omega
    · have hrn : r ≠ .nil := fun e => by subst e; simp [F.hgt] at hr
      obtain ⟨x, hx, hd⟩ := h2 hrn d
      refine ⟨x, by simp [hx], ?_⟩
      omega
theorem limits_chain {t : F} (hne : t ≠ .nil) : limits (t.chain 0) = decide (40 < t.nodes ∨ 13 < t.hgt) := by
  rw [Bool.eq_iff_iff]
  unfold limits
  simp only [Bool.or_eq_true, decide_eq_true_eq, List.any_eq_true, chain_length]
  constructor
  · rintro (h | ⟨x, hx, hd⟩)
    · exact .inl h
    · have := chain_depths t 0 x hx
      exact .inr (by omega)
  · rintro (h | h)
    · exact .inl h
    · obtain ⟨x, hx, hd⟩ := chain_top t hne 0
      exact .inr ⟨x, hx, by omega⟩
end Fa

theorem dropAt {α : Type} {l : List α} {i : Nat} {o : α} {r : List α} (h : l.drop i = o :: r) : l.toArray[i]? = some o := by
  rw [List.getElem?_toArray, ← List.head?_drop, h]; rfl
def DeepPost (l : List Fa.Node) (w : World) (e : Ending) (w' : World) : Prop :=
  ∃ v', e = .returned v' ∧ OwnL 52 6 encNode w' w.heap.size v' (l.map Fa.deep) ∧ Below w.heap.size w w'
theorem newN3 (W : World) (x : Fa.Node) (T : TypeId) (g : Nat) (hg : g = W.heap.size) : ∀ i u, (encNode x)[i]? = some u → (W.alloc (.cells #[I64 x.depth, I64 x.joined, I64 x.link.kind, .string x.link.op, I64 x.link.backend, I64 x.link.conn] T)).cell? ⟨g, i, none⟩ = some u := by
  subst hg
  exact newN W x T

set_option maxHeartbeats 4000000 in
set_option maxRecDepth 100000 in
theorem deeper_any (v : Value) (L : List Fa.Node) (w : World) (h : ReadsL 6 encNode w v L) (hl : L.length ≤ 100000) (hd : ∀ x ∈ L, 0 ≤ x.depth ∧ x.depth ≤ 1000000) : Calls Tryz.prog 46 #[v] w (DeepPost L w) := by
  rcases h with ⟨a, cap, rfl, rfl⟩ | ⟨b, o, cap, rfl, hb, hc⟩
  · clear hl hd
    go_enter Tryz.func46, Tryz.ntmps46
    go_wp2
    refine wp_loop_rounds 1 ?_
    rw [rounds_succ]
    go_wp2
    go_ret
    exact ⟨_, rfl, OwnL.nil _ _, Below.refl _ _⟩
  have HC := Lib.hid hc
  have HD := Lib.hid hd
  clear hc hd
  go_enter Tryz.func46, Tryz.ntmps46
  go_wp2
  go_loopw [3, 4] (fun u i wr => ∃ q : Nat, q ≤ L.length ∧ i = .int .i64 q ∧ OwnL 52 6 encNode wr w.heap.size u ((L.take q).map Fa.deep) ∧ Below w.heap.size w wr) (fun _ i _ => L.length - (intOf i).toNat)
  case atStart => exact ⟨0, Nat.zero_le _, rfl, OwnL.nil _ _, Below.refl _ _⟩
  case round =>
    obtain ⟨q, hq, rfl, ho, hbw⟩ := hrel
    by_cases hlt : q < L.length
    · obtain ⟨p0, p1, p2, p3, p4, p5⟩ := cells1 hb hbw HC.out q hlt
      have i1 : (q : Int) < (L.length : Int) := by omega
      have hd := HD.out L[q] (List.getElem_mem hlt)
      have HT : Hid ((L.take (q + 1)).map Fa.deep = (L.take q).map Fa.deep ++ [Fa.deep L[q]]) := by
        show _ = _
        rw [List.take_succ_eq_append_getElem hlt, List.map_append]; rfl
      have hlen : ((L.take q).map Fa.deep).length = q := by rw [List.length_map, List.length_take]; omega
      generalize L[q] = x at p0 p1 p2 p3 p4 p5 hd HT
      obtain ⟨dp, jn, ⟨kd, op, bk, cn⟩⟩ := x
      dsimp only at p0 p1 p2 p3 p4 p5 hd
      have HO := Lib.hid ho
      have HW := Lib.hid hbw
      have HL := Lib.hid hlen
      clear ho hbw hlen hlt
      have HLs := Lib.hid (show q + 1 ≤ L.length from by omega)
      go_wp2_with (at_builtin; refine appL elN _ rfl _ _ rfl w.heap.size _ _ ⟨dp + 1, jn, ⟨kd, op, bk, cn⟩⟩ rfl ((HO.out.alloc _).alloc _) _ 1 rfl (newN3 _ ⟨dp + 1, jn, ⟨kd, op, bk, cn⟩⟩ _ _ (by simp)) (by rw [HL.out]; unfold maxLen; omega) (by rw [HL.out]; omega) (by have := HW.out.size; simp; omega) ?_; rintro v4 w4 hown4 hgr4 ⟨g4, c4, rfl⟩)
      case roundEnd =>
        refine ⟨⟨q + 1, HLs.out, by go_num, by rw [HT.out]; have h := hown4; rw [HL.out] at h; exact h, ?_⟩, by simp [intOf]; omega⟩
        have hs := HW.out.size
        refine below_appL ((HW.out.alloc hs _).alloc (by simp; omega) _) ((HO.out.alloc _).alloc _) hgr4 (by simp; omega)
    · have hqe : q = L.length := by omega
      have i1 : ¬ (q : Int) < (L.length : Int) := by omega
      rw [hqe, List.take_length] at ho
      have HO := Lib.hid ho
      have HW := Lib.hid hbw
      clear ho hqe hbw
      go_wp2
      go_ret
      exact ⟨_, rfl, HO.out, HW.out⟩
end Go.Proofs.YtgnhbccmdpkbiaaGreatDoor
namespace Go.Proofs.YtgnhbccmdpkbiaaGreatDoor
open Go.RowKit Go.Shelf

section
variable {α : Type} {P : Program} {S T : TypeId} {n b : Nat} {z : Value} {enc : α → List Value}
/-- append(v, m...) at one operation: the source reads as m. -/
theorem appLsK (E : ElT P S T n b z enc) {o : Oper} {a : Act} {K : Act → World → Prop} {Q : Exit → Act → World → Prop} (w : World) (s x : Operand)
    (ho : o.op = .call { callee := .builtin .append, args := #[s, x], argTypes := #[S, S] })
    (B : Nat) (v : Value) (l m : List α) (hs : a.eval s = v) (hown : OwnL T n enc w B v l) (g off c : Nat) (hx : a.eval x = .slice (some ⟨g, off, none⟩) m.length c)
    (h0 : ∀ j (hj : j < m.length) i u, (enc m[j])[i]? = some u → w.cell? ⟨g, off + j * n + i, none⟩ = some u) (hlen : l.length + m.length ≤ maxLen) (hby : (l.length + m.length) * b ≤ 140737488355328) (hbase : B ≤ w.heap.size)
    (h : ∀ v' w', OwnL T n enc w' B v' (l ++ m) → w.grownBy w' v.ownBlock → K (a.put o.dst v') w') : o.wp P a w K Q := by
  obtain ⟨i0, hi, hz0, hz1, hz2⟩ := info_parts E.info
  refine wp_append_own w s x S ho B T i0 z n b E.und hi hz0 hz1 hz2 E.zc E.pos v l.length (l.flatMap enc) hs hown ⟨g, off, none⟩ m.length c (m.flatMap enc) hx (flat_length E.len m) ?_ ?_ hlen hby hbase ?_
  · intro j u hu
    have hj : j < m.length * n := by rw [← flat_length E.len m]; exact (List.getElem?_eq_some_iff.1 hu).1
    have hd : j / n < m.length := Nat.div_lt_of_lt_mul (by rw [Nat.mul_comm]; exact hj)
    have hm : j / n * n + j % n = j := Nat.div_add_mod' j n
    have hlt : j % n < (enc m[j / n]).length := by rw [E.len]; exact Nat.mod_lt _ E.pos
    have e := flat_get E.len m (j / n) hd (j % n) _ (List.getElem?_eq_getElem hlt)
    rw [hm, hu] at e
    have c1 := h0 (j / n) hd (j % n) u (by rw [List.getElem?_eq_getElem hlt]; exact e.symm)
    have ea : (⟨g, off, none⟩ : Addr).add j = ⟨g, off + j, none⟩ := by unfold Addr.add; split <;> simp_all
    rw [ea]
    rw [Nat.add_assoc, hm] at c1
    exact c1
  · intro u hu
    obtain ⟨y, _, hy⟩ := List.mem_flatMap.1 hu
    exact E.one y u hy
  · intro v' w' h1 h2 _
    refine h v' w' ?_ h2
    unfold OwnL
    rw [List.length_append, List.flatMap_append]
    exact h1
/-- The same where the source is any slice that reads as m (perhaps nil). -/
theorem appLsR (E : ElT P S T n b z enc) {o : Oper} {a : Act} {K : Act → World → Prop} {Q : Exit → Act → World → Prop} (w : World) (s x : Operand)
    (ho : o.op = .call { callee := .builtin .append, args := #[s, x], argTypes := #[S, S] })
    (B : Nat) (v : Value) (l m : List α) (hs : a.eval s = v) (hown : OwnL T n enc w B v l) (vx : Value) (hx : a.eval x = vx) (hr : ReadsL n enc w vx m)
    (hlen : l.length + m.length ≤ maxLen) (hby : (l.length + m.length) * b ≤ 140737488355328) (hbase : B ≤ w.heap.size)
    (h : ∀ v' w', OwnL T n enc w' B v' (l ++ m) → w.grownBy w' v.ownBlock → K (a.put o.dst v') w') : o.wp P a w K Q := by
  rcases hr with ⟨ad, c, rfl, rfl⟩ | ⟨g, off, c, rfl, hg, hc⟩
  · obtain ⟨i0, hi, hz0, hz1, hz2⟩ := info_parts E.info
    cases ad with
    | some ad =>
      refine wp_append_own w s x S ho B T i0 z n b E.und hi hz0 hz1 hz2 E.zc E.pos v l.length (l.flatMap enc) hs hown ad 0 c [] hx (by simp) (fun j u hu => by simp at hu) (fun u hu => by simp at hu) hlen hby hbase ?_
      intro v' w' h1 h2 _
      refine h v' w' ?_ h2
      rw [List.append_nil] at h1 ⊢
      exact h1
    | none =>
      have key : (Builtin.append_ #[S, S] o.type #[v, .slice none 0 c]).run P w = .ok v w := by
        rcases hown.2 with ⟨rfl, h0⟩ | ⟨g, cap, cur, rfl, hbg, hg, hnc, hcm, hcs, htake⟩
        · simp [Builtin.append_, run_underlying E.und, sizeOf, typeInfo, hi, Builtin.lenOf, Builtin.firstCells]
        · simp [Builtin.append_, run_underlying E.und, sizeOf, typeInfo, hi, Builtin.lenOf, Builtin.firstCells, hnc, storeCells]
      unfold Oper.wp execOp
      simp only [ho, resolve, invoke, builtin, Sem.run_bind, Sem.run_pure, Result.andThen_ok, List.map_toArray, List.map_cons, List.map_nil, hs, hx, key]
      refine h v w ?_ ⟨rfl, rfl, rfl, Nat.le_refl _, fun _ _ _ => rfl⟩
      rw [List.append_nil]
      exact hown
  · exact appLsK E w s x ho B v l m hs hown g off c hx hc hlen hby hbase h
end
/-- A slice of one node, just made. -/
theorem own_one (w : World) (B : Nat) (hB : B ≤ w.heap.size) (x : Fa.Node) : OwnL 52 6 encNode (w.alloc (.cells #[I64 x.depth, I64 x.joined, I64 x.link.kind, .string x.link.op, I64 x.link.backend, I64 x.link.conn] 52)) B (.slice (some ⟨w.heap.size, 0, none⟩) 1 1) [x] :=
  ⟨rfl, .inr ⟨w.heap.size, 1, _, rfl, hB, blk_new w _, Nat.le_refl _, by decide, rfl, rfl⟩⟩

theorem s4_step {W w w' : World} {a : Nat} {u0 u1 u2 u3 : Value} (hb : Below w.heap.size w w') (h : (w.cell? ⟨a, 0, none⟩ = some u0 ∧ w.cell? ⟨a, 1, none⟩ = some u1 ∧ w.cell? ⟨a, 2, none⟩ = some u2 ∧ w.cell? ⟨a, 3, none⟩ = some u3) ∧ Below W.heap.size W w) :
    (w'.cell? ⟨a, 0, none⟩ = some u0 ∧ w'.cell? ⟨a, 1, none⟩ = some u1 ∧ w'.cell? ⟨a, 2, none⟩ = some u2 ∧ w'.cell? ⟨a, 3, none⟩ = some u3) ∧ Below W.heap.size W w' :=
  have hl := cell_lt h.1.1
  ⟨⟨(hb.cell (p := ⟨a, _, none⟩) hl).trans h.1.1, (hb.cell (p := ⟨a, _, none⟩) hl).trans h.1.2.1, (hb.cell (p := ⟨a, _, none⟩) hl).trans h.1.2.2.1, (hb.cell (p := ⟨a, _, none⟩) hl).trans h.1.2.2.2⟩, h.2.trans (hb.mono h.2.size)⟩
theorem s4_grown {W w w' : World} {a : Nat} {u0 u1 u2 u3 : Value} {r : Option Nat} (hg : w.grownBy w' r) (ha : some a ≠ r) (hr : ∀ k, r = some k → W.heap.size ≤ k) (h : (w.cell? ⟨a, 0, none⟩ = some u0 ∧ w.cell? ⟨a, 1, none⟩ = some u1 ∧ w.cell? ⟨a, 2, none⟩ = some u2 ∧ w.cell? ⟨a, 3, none⟩ = some u3) ∧ Below W.heap.size W w) :
    (w'.cell? ⟨a, 0, none⟩ = some u0 ∧ w'.cell? ⟨a, 1, none⟩ = some u1 ∧ w'.cell? ⟨a, 2, none⟩ = some u2 ∧ w'.cell? ⟨a, 3, none⟩ = some u3) ∧ Below W.heap.size W w' :=
  have hl := cell_lt h.1.1
  ⟨⟨(gb_cell2 hg hl ha).trans h.1.1, (gb_cell2 hg hl ha).trans h.1.2.1, (gb_cell2 hg hl ha).trans h.1.2.2.1, (gb_cell2 hg hl ha).trans h.1.2.2.2⟩, h.2.grown hg h.2.size hr⟩
def wrapN (x : Fa.Link) (l : List Fa.Node) : List Fa.Node := ⟨0, 0, x⟩ :: l.map Fa.deep
def RWrapPost (x : Fa.Link) (l : List Fa.Node) (w : World) (e : Ending) (w' : World) : Prop :=
  (checkE x ≠ 0 → e = .returned (.tuple #[.slice none 0 0, I64 (checkE x)])) ∧
  (checkE x = 0 → Fa.limits (wrapN x l) = true → e = .returned (.tuple #[.slice none 0 0, I64 3])) ∧
  (checkE x = 0 → Fa.limits (wrapN x l) = false → ∃ v', e = .returned (.tuple #[v', I64 0]) ∧ ReadsL 6 encNode w' v' (wrapN x l)) ∧ Below w.heap.size w w'

theorem rwrap_bad (x : Fa.Link) (l : List Fa.Node) (w w' : World) {e : Ending} (hc : checkE x ≠ 0) (he : e = .returned (.tuple #[.slice none 0 0, I64 (checkE x)])) (hb : Below w.heap.size w w') : RWrapPost x l w e w' :=
  ⟨fun _ => he, fun h => absurd h hc, fun h => absurd h hc, hb⟩
set_option maxHeartbeats 4000000 in
set_option maxRecDepth 100000 in
set_option linter.unusedSimpArgs false in
theorem rwrap_any (x : Fa.Link) (v : Value) (l : List Fa.Node) (w : World) (hs : x.op.size ≤ maxLen) (h : ReadsL 6 encNode w v l) (hl : l.length ≤ 100000) (hd : ∀ y ∈ l, 0 ≤ y.depth ∧ y.depth ≤ 1000000) :
    Calls Tryz.prog 17 #[valLink x, v] w (RWrapPost x l w) := by
  have HB := Lib.hid (show Below w.heap.size w (w.alloc (.cells #[I64 x.kind, .string x.op, I64 x.backend, I64 x.conn] 34)) from (Below.refl _ _).alloc (Nat.le_refl _) _)
  have HN := Lib.hid fun w => rname_any x.op w hs
  have HM := Lib.hid fun w => numbers_any x w
  have HX := Lib.hid fun w' (e : Ending) (hc : checkE x ≠ 0) (he : e = .returned (.tuple #[.slice none 0 0, I64 (checkE x)])) (hb : Below w.heap.size w w') => rwrap_bad x l w w' hc he hb
  by_cases hn : Fa.okName x = true
  · by_cases hm : Fa.okNum x = true
    · have hc : checkE x = 0 := by unfold checkE; rw [hn, hm]; rfl
      have HP1 : Hid (∀ w', Fa.limits (wrapN x l) = true → Below w.heap.size w w' → RWrapPost x l w (.returned (.tuple #[.slice none 0 0, I64 3])) w') := fun w' h1 hb => ⟨fun h => absurd hc h, fun _ _ => rfl, fun _ h => absurd (h1.symm.trans h) (by decide), hb⟩
      have HP2 : Hid (∀ v' w', Fa.limits (wrapN x l) = false → ReadsL 6 encNode w' v' (wrapN x l) → Below w.heap.size w w' → RWrapPost x l w (.returned (.tuple #[v', I64 0])) w') := fun v' w' h1 hr hb => ⟨fun h => absurd hc h, fun _ h => absurd (h.symm.trans h1) (by decide), fun _ _ => ⟨_, rfl, hr⟩, hb⟩
      obtain ⟨k, o, b, c⟩ := x
      unfold valLink at *
      dsimp only at HB HN HM hs ⊢
      rw [hm] at HM
      rw [show Wd.name o.data.toList = true from hn] at HN
      have HD : Hid (∀ w', Below w.heap.size w w' → Calls Tryz.prog 46 #[v] w' (DeepPost l w')) := fun w' hb => deeper_any v l w' (h.below hb) hl hd
      have HL := Lib.hid (show (l.map Fa.deep).length ≤ 100000 from by rw [List.length_map]; exact hl)
      have HW := Lib.hid (show wrapN ⟨k, o, b, c⟩ l = [⟨0, 0, ⟨k, o, b, c⟩⟩] ++ l.map Fa.deep from rfl)
      clear h hl hd hn hm hc HX
      generalize RWrapPost ⟨k, o, b, c⟩ l w = R at HP1 HP2 ⊢
      go_enter Tryz.func17, Tryz.ntmps17
      go_wp2_with (first | (go_at_call 45; refine (HN.out _).mono ?_; rintro e w1 ⟨rfl, rfl⟩) | (go_at_call 42; refine (HM.out _).mono ?_; rintro e w2 ⟨rfl, hb2⟩))
      obtain ⟨c0, c1, c2, c3⟩ := boxCells hb2
      have hb3 := HB.out.trans (hb2.mono HB.out.size)
      clear hb2
      refine wp_region_held_drew (S := (fun w' => (w'.cell? ⟨w.heap.size, 0, none⟩ = some (I64 k) ∧ w'.cell? ⟨w.heap.size, 1, none⟩ = some (.string o) ∧ w'.cell? ⟨w.heap.size, 2, none⟩ = some (I64 b) ∧ w'.cell? ⟨w.heap.size, 3, none⟩ = some (I64 c)) ∧ Below w.heap.size w w')) (by kernel_rfl) ⟨⟨c0, c1, c2, c3⟩, hb3.drew⟩ (fun hHeld => ?_)
      refine wpAnyH_take (i := 0) (oi := _) (v := ?v0) (dropAt (r := _) rfl) (by kernel_rfl) (by kernel_rfl) (by kernel_rfl) (fun _ _ _ h => h) (Or.inl ⟨by rfl, ?h0⟩) hHeld ?r0
      case h0 => (intro w hSw; (try dsimp only at hSw); go_simp; first | done | with_reducible rfl)
      try simp only [Act.put, List.setIfInBounds_toArray, List.set_cons_zero, List.set_cons_succ]
      refine wpAnyH_take (i := 1) (oi := _) (v := ?v1) (dropAt (r := _) rfl) (by kernel_rfl) (by kernel_rfl) (by kernel_rfl) (fun _ _ _ h => h) (Or.inl ⟨by rfl, ?h1⟩) hHeld ?r1
      case h1 => (intro w hSw; (try dsimp only at hSw); go_simp; first | done | with_reducible rfl)
      try simp only [Act.put, List.setIfInBounds_toArray, List.set_cons_zero, List.set_cons_succ]
      refine wpAnyH_take (i := 3) (oi := _) (v := ?v3) (dropAt (r := _) rfl) (by kernel_rfl) (by kernel_rfl) (by kernel_rfl) (fun _ _ _ h => h) (Or.inl ⟨by rfl, ?h3⟩) hHeld ?r3
      case h3 => (intro w hSw; (try dsimp only at hSw); go_simp; first | done | with_reducible rfl)
      try simp only [Act.put, List.setIfInBounds_toArray, List.set_cons_zero, List.set_cons_succ]
      refine wpAnyH_ready (rs := [2, 4]) (by kernel_rfl) (by simp) ?_
      refine AllReadyH.cons (o := _) (dropAt (r := _) rfl) (fun K hK => ?_) (AllReadyH.cons (o := _) (dropAt (r := _) rfl) (fun K hK => ?_) AllReadyH.nil)
      · go_simp
        have hx0 : Below w2.heap.size w2 (w2.alloc (.cells #[I64 0, I64 0, I64 k, .string o, I64 b, I64 c] 52)) := (Below.refl w2.heap.size w2).alloc (Nat.le_refl _) _
        have hx1 : Below w2.drew.heap.size w2.drew (w2.alloc (.cells #[I64 0, I64 0, I64 k, .string o, I64 b, I64 c] 52)).drew := ⟨hx0.os, hx0.tape, hx0.output, hx0.size, hx0.block⟩
        have hown1 : OwnL 52 6 encNode (w2.alloc (.cells #[I64 0, I64 0, I64 k, .string o, I64 b, I64 c] 52)).drew w.heap.size (.slice (some ⟨w2.heap.size, 0, none⟩) 1 1) [⟨0, 0, ⟨k, o, b, c⟩⟩] := own_one w2 w.heap.size hb3.size ⟨0, 0, ⟨k, o, b, c⟩⟩
        refine hK.out _ _ (s4_step hx1 hHeld) (fun hHeld1 => ?_)
        clear hK K
        try simp only [Act.put, List.setIfInBounds_toArray, List.set_cons_zero, List.set_cons_succ]
        refine wpAnyH_ready (rs := [4]) (by kernel_rfl) (by simp) ?_
        refine AllReadyH.cons (o := _) (dropAt (r := _) rfl) (fun K hK => ?_) AllReadyH.nil
        go_simp
        go_at_call 46
        refine (HD.out _ hHeld1.2).mono ?_
        rintro e w5 ⟨vd, rfl, hod, hx5⟩
        have hdr := hod.reads encNode_len
        have hlt6 : w.heap.size < w2.heap.size := cell_lt hHeld.1.1
        have hown5 := hown1.below hx5
        have hHeld5 := s4_step hx5 hHeld1
        refine hK.out _ _ hHeld5 (fun hHeld5b => ?_)
        clear hK K hHeld5b
        try simp only [Act.put, List.setIfInBounds_toArray, List.set_cons_zero, List.set_cons_succ]
        refine wpAnyH_ready (rs := [5]) (by kernel_rfl) (by simp) ?_
        refine AllReadyH.cons (o := _) (dropAt (r := _) rfl) (fun K hK => ?_) AllReadyH.nil
        rw [if_pos (by rfl)]
        refine appLsR elN _ _ _ rfl w.heap.size _ [⟨0, 0, ⟨k, o, b, c⟩⟩] (l.map Fa.deep) rfl hown5 vd rfl hdr (by have := HL.out; rw [List.length_singleton]; unfold maxLen; omega) (by have := HL.out; rw [List.length_singleton]; omega) hHeld5.2.size ?_
        intro v6 w6 hown6 hgr6
        have h6 := s4_grown hgr6 ?hne6 (fun q hq => (OwnL.lt hown5 q hq).1) hHeld5
        case hne6 => (intro e; exact absurd (Option.some.inj e) (Nat.ne_of_lt hlt6))
        refine hK.out _ _ h6 (fun hHeld6 => ?_)
        clear hK K
        try simp only [Act.put, List.setIfInBounds_toArray, List.set_cons_zero, List.set_cons_succ]
        refine wpAnyH_take (i := 6) (oi := _) (v := ?v6) (dropAt (r := _) rfl) (by kernel_rfl) (by kernel_rfl) (by kernel_rfl) (fun _ _ _ h => h) (Or.inl ⟨by rfl, ?h6⟩) hHeld6 ?r6
        case h6 => (intro w hSw; (try dsimp only at hSw); go_simp; first | done | with_reducible rfl)
        try simp only [Act.put, List.setIfInBounds_toArray, List.set_cons_zero, List.set_cons_succ]
        refine wpAnyH_done (by kernel_rfl) ?_ _
        have hr6 := hown6.reads encNode_len
        rw [← HW.out] at hr6
        have hb6 := h6.2
        clear hown6 hgr6 hHeld6 h6
        try simp only [Exit.then]
        have hl6 : (wrapN ⟨k, o, b, c⟩ l).length ≤ 4294967296 := by
          have h1 := HL.out
          have h2 := congrArg List.length HW.out
          rw [List.length_append, List.length_singleton] at h2
          omega
        cases hq : Fa.limits (wrapN ⟨k, o, b, c⟩ l) with
        | true =>
          have HLM := Lib.hid (limits_any _ _ _ hr6 hl6)
          rw [hq] at HLM
          have HR := Lib.hid (HP1.out _ hq hb6)
          clear hr6 hb6 hl6 hq
          go_wp2_with (go_at_call 40; refine HLM.out.mono ?_; rintro e w7 ⟨rfl, rfl⟩)
          exact HR.out
        | false =>
          have HLM := Lib.hid (limits_any _ _ _ hr6 hl6)
          rw [hq] at HLM
          have HR := Lib.hid (HP2.out _ _ hq hr6 hb6)
          clear hr6 hb6 hl6 hq
          go_wp2_with (go_at_call 40; refine HLM.out.mono ?_; rintro e w7 ⟨rfl, rfl⟩)
          exact HR.out
      · go_simp
        go_at_call 46
        refine (HD.out _ hHeld.2).mono ?_
        rintro e w5 ⟨vd, rfl, hod, hx5⟩
        have hlt6 : w.heap.size < w5.heap.size := Nat.lt_of_lt_of_le (cell_lt hHeld.1.1) hx5.size
        have hHeld5 := s4_step hx5 hHeld
        refine hK.out _ _ hHeld5 (fun hHeld5b => ?_)
        clear hK K hHeld5b
        try simp only [Act.put, List.setIfInBounds_toArray, List.set_cons_zero, List.set_cons_succ]
        refine wpAnyH_ready (rs := [2]) (by kernel_rfl) (by simp) ?_
        refine AllReadyH.cons (o := _) (dropAt (r := _) rfl) (fun K hK => ?_) AllReadyH.nil
        go_simp
        have hx1 : Below w5.heap.size w5 (w5.alloc (.cells #[I64 0, I64 0, I64 k, .string o, I64 b, I64 c] 52)) := (Below.refl w5.heap.size w5).alloc (Nat.le_refl _) _
        have hown1 : OwnL 52 6 encNode (w5.alloc (.cells #[I64 0, I64 0, I64 k, .string o, I64 b, I64 c] 52)) w.heap.size (.slice (some ⟨w5.heap.size, 0, none⟩) 1 1) [⟨0, 0, ⟨k, o, b, c⟩⟩] := own_one w5 w.heap.size hHeld5.2.size ⟨0, 0, ⟨k, o, b, c⟩⟩
        have hdr := (hod.reads encNode_len).below hx1
        have hHeld1 := s4_step hx1 hHeld5
        refine hK.out _ _ hHeld1 (fun hHeld1b => ?_)
        clear hK K hHeld1b
        try simp only [Act.put, List.setIfInBounds_toArray, List.set_cons_zero, List.set_cons_succ]
        refine wpAnyH_ready (rs := [5]) (by kernel_rfl) (by simp) ?_
        refine AllReadyH.cons (o := _) (dropAt (r := _) rfl) (fun K hK => ?_) AllReadyH.nil
        rw [if_pos (by rfl)]
        refine appLsR elN _ _ _ rfl w.heap.size _ [⟨0, 0, ⟨k, o, b, c⟩⟩] (l.map Fa.deep) rfl hown1 vd rfl hdr (by have := HL.out; rw [List.length_singleton]; unfold maxLen; omega) (by have := HL.out; rw [List.length_singleton]; omega) hHeld1.2.size ?_
        intro v6 w6 hown6 hgr6
        have h6 := s4_grown hgr6 ?hne6b (fun q hq => (OwnL.lt hown1 q hq).1) hHeld1
        case hne6b => (intro e; exact absurd (Option.some.inj e) (Nat.ne_of_lt hlt6))
        refine hK.out _ _ h6 (fun hHeld6 => ?_)
        clear hK K
        try simp only [Act.put, List.setIfInBounds_toArray, List.set_cons_zero, List.set_cons_succ]
        refine wpAnyH_take (i := 6) (oi := _) (v := ?v6b) (dropAt (r := _) rfl) (by kernel_rfl) (by kernel_rfl) (by kernel_rfl) (fun _ _ _ h => h) (Or.inl ⟨by rfl, ?h6b⟩) hHeld6 ?r6b
        case h6b => (intro w hSw; (try dsimp only at hSw); go_simp; first | done | with_reducible rfl)
        try simp only [Act.put, List.setIfInBounds_toArray, List.set_cons_zero, List.set_cons_succ]
        refine wpAnyH_done (by kernel_rfl) ?_ _
        have hr6 := hown6.reads encNode_len
        rw [← HW.out] at hr6
        have hb6 := h6.2
        clear hown6 hgr6 hHeld6 h6
        try simp only [Exit.then]
        have hl6 : (wrapN ⟨k, o, b, c⟩ l).length ≤ 4294967296 := by
          have h1 := HL.out
          have h2 := congrArg List.length HW.out
          rw [List.length_append, List.length_singleton] at h2
          omega
        cases hq : Fa.limits (wrapN ⟨k, o, b, c⟩ l) with
        | true =>
          have HLM := Lib.hid (limits_any _ _ _ hr6 hl6)
          rw [hq] at HLM
          have HR := Lib.hid (HP1.out _ hq hb6)
          clear hr6 hb6 hl6 hq
          go_wp2_with (go_at_call 40; refine HLM.out.mono ?_; rintro e w7 ⟨rfl, rfl⟩)
          exact HR.out
        | false =>
          have HLM := Lib.hid (limits_any _ _ _ hr6 hl6)
          rw [hq] at HLM
          have HR := Lib.hid (HP2.out _ _ hq hr6 hb6)
          clear hr6 hb6 hl6 hq
          go_wp2_with (go_at_call 40; refine HLM.out.mono ?_; rintro e w7 ⟨rfl, rfl⟩)
          exact HR.out
    · have hm' : Fa.okNum x = false := by simpa using hm
      have hc : checkE x = 7 := by unfold checkE; rw [hn, hm']; rfl
      rw [hc] at HX
      rw [hm'] at HM
      rw [show Wd.name x.op.data.toList = true from hn] at HN
      clear h hl hd hn hm hm' hc
      generalize RWrapPost x l w = R at HX ⊢
      obtain ⟨k, o, b, c⟩ := x
      unfold valLink at *
      dsimp only at HB HN HM hs ⊢
      go_enter Tryz.func17, Tryz.ntmps17
      go_wp2_with (first | (go_at_call 45; refine (HN.out _).mono ?_; rintro e w1 ⟨rfl, rfl⟩) | (go_at_call 42; refine (HM.out _).mono ?_; rintro e w2 ⟨rfl, hb2⟩))
      exact HX.out _ _ (by decide) rfl (HB.out.trans (hb2.mono HB.out.size))
  · have hn' : Fa.okName x = false := by simpa using hn
    have hc : checkE x = 6 := by unfold checkE; rw [hn']; rfl
    rw [hc] at HX
    rw [show Wd.name x.op.data.toList = false from hn'] at HN
    clear h hl hd hn hn' hc HM
    generalize RWrapPost x l w = R at HX ⊢
    obtain ⟨k, o, b, c⟩ := x
    unfold valLink at *
    dsimp only at HB HN hs ⊢
    go_enter Tryz.func17, Tryz.ntmps17
    go_wp2_with (go_at_call 45; refine (HN.out _).mono ?_; rintro e w1 ⟨rfl, rfl⟩)
    exact HX.out _ _ (by decide) rfl HB.out
end Go.Proofs.YtgnhbccmdpkbiaaGreatDoor
