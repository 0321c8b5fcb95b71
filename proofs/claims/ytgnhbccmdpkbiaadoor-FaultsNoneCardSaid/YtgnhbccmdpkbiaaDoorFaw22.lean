/-
  Walks for layer 3 (faults): deeper of the reference; what the chain of a tree says of its limits.
-/
import Derived.Test.YtgnhbccmdpkbiaaDoorFaw21
namespace Go.Proofs.YtgnhbccmdpkbiaaDoor
open Go.RowKit Go.Shelf

namespace Fa
def deep (x : Node) : Node := ⟨x.depth + 1, x.joined, x.link⟩
theorem chain_deep (t : F) : ∀ d, (t.chain d).map deep = t.chain (d + 1) := by
  induction t with
  | nil => intro d; rfl
  | link x c r h1 h2 => intro d; simp only [F.chain, List.map_cons, List.map_append, h1, h2, deep]
  | join k r h1 h2 => intro d; simp only [F.chain, List.map_cons, List.map_append, h1, h2, deep]
theorem chain_depths (t : F) : ∀ d, ∀ x ∈ t.chain d, d ≤ x.depth ∧ x.depth + 1 ≤ d + t.hgt := by
  induction t with
  | nil => intro d x hx; simp [F.chain] at hx
  | link y c r h1 h2 =>
    intro d x hx
    simp only [F.chain, List.mem_cons, List.mem_append] at hx
    simp only [F.hgt]
    rcases hx with rfl | hx | hx
    · dsimp only; omega
    · have := h1 _ x hx; omega
    · have := h2 _ x hx; omega
  | join k r h1 h2 =>
    intro d x hx
    simp only [F.chain, List.mem_cons, List.mem_append] at hx
    simp only [F.hgt]
    rcases hx with rfl | hx | hx
    · dsimp only; omega
    · have := h1 _ x hx; omega
    · have := h2 _ x hx; omega
theorem chain_top (t : F) (hne : t ≠ .nil) : ∀ d, ∃ x ∈ t.chain d, x.depth + 1 = d + t.hgt := by
  induction t with
  | nil => exact absurd rfl hne
  | link y c r h1 h2 =>
    intro d
    simp only [F.chain, F.hgt]
    by_cases hr : r.hgt ≤ c.hgt + 1
    · by_cases hc : c = .nil
      · subst hc
        refine ⟨⟨d, 0, y⟩, by simp, ?_⟩
        simp only [F.hgt] at hr ⊢
        omega
      · obtain ⟨x, hx, hd⟩ := h1 hc (d + 1)
        refine ⟨x, by simp [hx], ?_⟩
        omega
    · have hrn : r ≠ .nil := fun e => by subst e; simp [F.hgt] at hr
      obtain ⟨x, hx, hd⟩ := h2 hrn d
      refine ⟨x, by simp [hx], ?_⟩
      omega
  | join k r h1 h2 =>
    intro d
    simp only [F.chain, F.hgt]
    by_cases hr : r.hgt ≤ k.hgt + 1
    · by_cases hc : k = .nil
      · subst hc
        refine ⟨⟨d, F.nil.len, Link.zero⟩, by simp, ?_⟩
        simp only [F.hgt] at hr ⊢
        omega
      · obtain ⟨x, hx, hd⟩ := h1 hc (d + 1)
        refine ⟨x, by simp [hx], ?_⟩
        omega
    · have hrn : r ≠ .nil := fun e => by subst e; simp [F.hgt] at hr
      obtain ⟨x, hx, hd⟩ := h2 hrn d
      refine ⟨x, by simp [hx], ?_⟩
      omega
theorem limits_chain {t : F} (hne : t ≠ .nil) : limits (t.chain 0) = decide (40 < t.nodes ∨ 13 < t.hgt) := by
  rw [Bool.eq_iff_iff]
  unfold limits
  simp only [Bool.or_eq_true, decide_eq_true_eq, List.any_eq_true, chain_length]
  constructor
  · rintro (h | ⟨x, hx, hd⟩)
    · exact .inl h
    · have := chain_depths t 0 x hx
      exact .inr (by omega)
  · rintro (h | h)
    · exact .inl h
    · obtain ⟨x, hx, hd⟩ := chain_top t hne 0
      exact .inr ⟨x, hx, by omega⟩
end Fa

theorem dropAt {α : Type} {l : List α} {i : Nat} {o : α} {r : List α} (h : l.drop i = o :: r) : l.toArray[i]? = some o := by
  rw [List.getElem?_toArray, ← List.head?_drop, h]; rfl
def DeepPost (l : List Fa.Node) (w : World) (e : Ending) (w' : World) : Prop :=
  ∃ v', e = .returned v' ∧ OwnL 67 6 encNode w' w.heap.size v' (l.map Fa.deep) ∧ Below w.heap.size w w'
theorem newN3 (W : World) (x : Fa.Node) (T : TypeId) (g : Nat) (hg : g = W.heap.size) : ∀ i u, (encNode x)[i]? = some u → (W.alloc (.cells #[I64 x.depth, I64 x.joined, I64 x.link.kind, .string x.link.op, I64 x.link.backend, I64 x.link.conn] T)).cell? ⟨g, i, none⟩ = some u := by
  subst hg
  exact newN W x T

end Go.Proofs.YtgnhbccmdpkbiaaDoor
namespace Go.Proofs.YtgnhbccmdpkbiaaDoor
open Go.RowKit Go.Shelf

section
variable {α : Type} {P : Program} {S T : TypeId} {n b : Nat} {z : Value} {enc : α → List Value}
/-- append(v, m...) at one operation: the source reads as m. -/
theorem appLsK (E : ElT P S T n b z enc) {o : Oper} {a : Act} {K : Act → World → Prop} {Q : Exit → Act → World → Prop} (w : World) (s x : Operand)
    (ho : o.op = .call { callee := .builtin .append, args := #[s, x], argTypes := #[S, S] })
    (B : Nat) (v : Value) (l m : List α) (hs : a.eval s = v) (hown : OwnL T n enc w B v l) (g off c : Nat) (hx : a.eval x = .slice (some ⟨g, off, none⟩) m.length c)
    (h0 : ∀ j (hj : j < m.length) i u, (enc m[j])[i]? = some u → w.cell? ⟨g, off + j * n + i, none⟩ = some u) (hlen : l.length + m.length ≤ maxLen) (hby : (l.length + m.length) * b ≤ 140737488355328) (hbase : B ≤ w.heap.size)
    (h : ∀ v' w', OwnL T n enc w' B v' (l ++ m) → w.grownBy w' v.ownBlock → K (a.put o.dst v') w') : o.wp P a w K Q := by
  obtain ⟨i0, hi, hz0, hz1, hz2⟩ := info_parts E.info
  refine wp_append_own w s x S ho B T i0 z n b E.und hi hz0 hz1 hz2 E.zc E.pos v l.length (l.flatMap enc) hs hown ⟨g, off, none⟩ m.length c (m.flatMap enc) hx (flat_length E.len m) ?_ ?_ hlen hby hbase ?_
  · intro j u hu
    have hj : j < m.length * n := by rw [← flat_length E.len m]; exact (List.getElem?_eq_some_iff.1 hu).1
    have hd : j / n < m.length := Nat.div_lt_of_lt_mul (by rw [Nat.mul_comm]; exact hj)
    have hm : j / n * n + j % n = j := Nat.div_add_mod' j n
    have hlt : j % n < (enc m[j / n]).length := by rw [E.len]; exact Nat.mod_lt _ E.pos
    have e := flat_get E.len m (j / n) hd (j % n) _ (List.getElem?_eq_getElem hlt)
    rw [hm, hu] at e
    have c1 := h0 (j / n) hd (j % n) u (by rw [List.getElem?_eq_getElem hlt]; exact e.symm)
    have ea : (⟨g, off, none⟩ : Addr).add j = ⟨g, off + j, none⟩ := by unfold Addr.add; split <;> simp_all
    rw [ea]
    rw [Nat.add_assoc, hm] at c1
    exact c1
  · intro u hu
    obtain ⟨y, _, hy⟩ := List.mem_flatMap.1 hu
    exact E.one y u hy
  · intro v' w' h1 h2 _
    refine h v' w' ?_ h2
    unfold OwnL
    rw [List.length_append, List.flatMap_append]
    exact h1
/-- The same where the source is any slice that reads as m (perhaps nil). -/
theorem appLsR (E : ElT P S T n b z enc) {o : Oper} {a : Act} {K : Act → World → Prop} {Q : Exit → Act → World → Prop} (w : World) (s x : Operand)
    (ho : o.op = .call { callee := .builtin .append, args := #[s, x], argTypes := #[S, S] })
    (B : Nat) (v : Value) (l m : List α) (hs : a.eval s = v) (hown : OwnL T n enc w B v l) (vx : Value) (hx : a.eval x = vx) (hr : ReadsL n enc w vx m)
    (hlen : l.length + m.length ≤ maxLen) (hby : (l.length + m.length) * b ≤ 140737488355328) (hbase : B ≤ w.heap.size)
    (h : ∀ v' w', OwnL T n enc w' B v' (l ++ m) → w.grownBy w' v.ownBlock → K (a.put o.dst v') w') : o.wp P a w K Q := by
  rcases hr with ⟨ad, c, rfl, rfl⟩ | ⟨g, off, c, rfl, hg, hc⟩
  · obtain ⟨i0, hi, hz0, hz1, hz2⟩ := info_parts E.info
    cases ad with
    | some ad =>
      refine wp_append_own w s x S ho B T i0 z n b E.und hi hz0 hz1 hz2 E.zc E.pos v l.length (l.flatMap enc) hs hown ad 0 c [] hx (by simp) (fun j u hu => by simp at hu) (fun u hu => by simp at hu) hlen hby hbase ?_
      intro v' w' h1 h2 _
      refine h v' w' ?_ h2
      rw [List.append_nil] at h1 ⊢
      exact h1
    | none =>
      have key : (Builtin.append_ #[S, S] o.type #[v, .slice none 0 c]).run P w = .ok v w := by
        rcases hown.2 with ⟨rfl, h0⟩ | ⟨g, cap, cur, rfl, hbg, hg, hnc, hcm, hcs, htake⟩
        · simp [Builtin.append_, run_underlying E.und, sizeOf, typeInfo, hi, Builtin.lenOf, Builtin.firstCells]
        · simp [Builtin.append_, run_underlying E.und, sizeOf, typeInfo, hi, Builtin.lenOf, Builtin.firstCells, hnc, storeCells]
      unfold Oper.wp execOp
      simp only [ho, resolve, invoke, builtin, Sem.run_bind, Sem.run_pure, Result.andThen_ok, List.map_toArray, List.map_cons, List.map_nil, hs, hx, key]
      refine h v w ?_ ⟨rfl, rfl, rfl, Nat.le_refl _, fun _ _ _ => rfl⟩
      rw [List.append_nil]
      exact hown
  · exact appLsK E w s x ho B v l m hs hown g off c hx hc hlen hby hbase h
end
/-- A slice of one node, just made. -/
theorem own_one (w : World) (B : Nat) (hB : B ≤ w.heap.size) (x : Fa.Node) : OwnL 67 6 encNode (w.alloc (.cells #[I64 x.depth, I64 x.joined, I64 x.link.kind, .string x.link.op, I64 x.link.backend, I64 x.link.conn] 67)) B (.slice (some ⟨w.heap.size, 0, none⟩) 1 1) [x] :=
  ⟨rfl, .inr ⟨w.heap.size, 1, _, rfl, hB, blk_new w _, Nat.le_refl _, by decide, rfl, rfl⟩⟩

theorem s4_step {W w w' : World} {a : Nat} {u0 u1 u2 u3 : Value} (hb : Below w.heap.size w w') (h : (w.cell? ⟨a, 0, none⟩ = some u0 ∧ w.cell? ⟨a, 1, none⟩ = some u1 ∧ w.cell? ⟨a, 2, none⟩ = some u2 ∧ w.cell? ⟨a, 3, none⟩ = some u3) ∧ Below W.heap.size W w) :
    (w'.cell? ⟨a, 0, none⟩ = some u0 ∧ w'.cell? ⟨a, 1, none⟩ = some u1 ∧ w'.cell? ⟨a, 2, none⟩ = some u2 ∧ w'.cell? ⟨a, 3, none⟩ = some u3) ∧ Below W.heap.size W w' :=
  have hl := cell_lt h.1.1
  ⟨⟨(hb.cell (p := ⟨a, _, none⟩) hl).trans h.1.1, (hb.cell (p := ⟨a, _, none⟩) hl).trans h.1.2.1, (hb.cell (p := ⟨a, _, none⟩) hl).trans h.1.2.2.1, (hb.cell (p := ⟨a, _, none⟩) hl).trans h.1.2.2.2⟩, h.2.trans (hb.mono h.2.size)⟩
theorem s4_grown {W w w' : World} {a : Nat} {u0 u1 u2 u3 : Value} {r : Option Nat} (hg : w.grownBy w' r) (ha : some a ≠ r) (hr : ∀ k, r = some k → W.heap.size ≤ k) (h : (w.cell? ⟨a, 0, none⟩ = some u0 ∧ w.cell? ⟨a, 1, none⟩ = some u1 ∧ w.cell? ⟨a, 2, none⟩ = some u2 ∧ w.cell? ⟨a, 3, none⟩ = some u3) ∧ Below W.heap.size W w) :
    (w'.cell? ⟨a, 0, none⟩ = some u0 ∧ w'.cell? ⟨a, 1, none⟩ = some u1 ∧ w'.cell? ⟨a, 2, none⟩ = some u2 ∧ w'.cell? ⟨a, 3, none⟩ = some u3) ∧ Below W.heap.size W w' :=
  have hl := cell_lt h.1.1
  ⟨⟨(gb_cell2 hg hl ha).trans h.1.1, (gb_cell2 hg hl ha).trans h.1.2.1, (gb_cell2 hg hl ha).trans h.1.2.2.1, (gb_cell2 hg hl ha).trans h.1.2.2.2⟩, h.2.grown hg h.2.size hr⟩
def wrapN (x : Fa.Link) (l : List Fa.Node) : List Fa.Node := ⟨0, 0, x⟩ :: l.map Fa.deep
def RWrapPost (x : Fa.Link) (l : List Fa.Node) (w : World) (e : Ending) (w' : World) : Prop :=
  (checkE x ≠ 0 → e = .returned (.tuple #[.slice none 0 0, I64 (checkE x)])) ∧
  (checkE x = 0 → Fa.limits (wrapN x l) = true → e = .returned (.tuple #[.slice none 0 0, I64 3])) ∧
  (checkE x = 0 → Fa.limits (wrapN x l) = false → ∃ v', e = .returned (.tuple #[v', I64 0]) ∧ ReadsL 6 encNode w' v' (wrapN x l)) ∧ Below w.heap.size w w'

theorem rwrap_bad (x : Fa.Link) (l : List Fa.Node) (w w' : World) {e : Ending} (hc : checkE x ≠ 0) (he : e = .returned (.tuple #[.slice none 0 0, I64 (checkE x)])) (hb : Below w.heap.size w w') : RWrapPost x l w e w' :=
  ⟨fun _ => he, fun h => absurd h hc, fun h => absurd h hc, hb⟩
end Go.Proofs.YtgnhbccmdpkbiaaDoor
