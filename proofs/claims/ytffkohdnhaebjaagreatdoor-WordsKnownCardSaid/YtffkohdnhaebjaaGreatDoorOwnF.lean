/-
  Slices of fields: owned by the call (OwnF), read (ReadsF).
-/
import Derived.Test.YtffkohdnhaebjaaGreatDoorOwn
import Derived.Test.YtffkohdnhaebjaaGreatDoorPlain
namespace Go.Proofs.YtffkohdnhaebjaaGreatDoor
open Go.RowKit Go.Shelf

abbrev S8 (l : List UInt8) : Value := .string ⟨l.toArray⟩
def fcells (l : List Wd.Fld) : List Value := l.flatMap fun f => [S8 f.1, .bool f.2]
def OwnF (w : World) (B : Nat) (v : Value) (l : List Wd.Fld) : Prop := w.ownsRow B 47 2 v l.length (fcells l)
theorem infoF : (Tryz.prog.info? 47).map (fun i => (i.zero, i.size, i.bytes)) = some (some (.agg #[.string ⟨#[]⟩, .bool false]), 2, 24) := by kernel_rfl
theorem fcells_length (l : List Wd.Fld) : (fcells l).length = l.length * 2 := by
  unfold fcells; induction l with
  | nil => rfl
  | cons f t ih => simp only [List.flatMap_cons, List.length_append, List.length_cons, List.length_nil, ih]; omega
theorem fcells_get (l : List Wd.Fld) : ∀ (j : Nat) (hj : j < l.length), (fcells l)[2 * j]? = some (S8 l[j].1) ∧ (fcells l)[2 * j + 1]? = some (.bool l[j].2) := by
  induction l with
  | nil => intro j hj; simp at hj
  | cons f t ih =>
    intro j hj
    cases j with
    | zero => exact ⟨rfl, rfl⟩
    | succ j =>
      have := ih j (by simpa using hj)
      have e : fcells (f :: t) = S8 f.1 :: .bool f.2 :: fcells t := rfl
      rw [e, show 2 * (j + 1) = 2 * j + 1 + 1 from by omega]
      simpa using this
theorem fcells_snoc (l : List Wd.Fld) (f : Wd.Fld) : fcells (l ++ [f]) = fcells l ++ [S8 f.1, .bool f.2] := by
  unfold fcells; rw [List.flatMap_append]; rfl

theorem OwnF.nil (w : World) (B : Nat) : OwnF w B (.slice none 0 0) [] := World.ownsRow_nil w B _ 2
theorem OwnF.alloc {w : World} {B : Nat} {v : Value} {l : List Wd.Fld} (h : OwnF w B v l) (o : Obj) : OwnF (w.alloc o) B v l := World.ownsRow.alloc h o
theorem OwnF.drew {w : World} {B : Nat} {v : Value} {l : List Wd.Fld} (h : OwnF w B v l) : OwnF w.drew B v l := h
theorem OwnF.lt {w : World} {B : Nat} {v : Value} {l : List Wd.Fld} (h : OwnF w B v l) : ∀ k, v.ownBlock = some k → B ≤ k ∧ k < w.heap.size := World.ownsRow.lt h
theorem OwnF.below {w w' : World} {B : Nat} {v : Value} {l : List Wd.Fld} (h : OwnF w B v l) (hb : Below w.heap.size w w') : OwnF w' B v l := by
  refine ⟨h.1, ?_⟩
  rcases h.2 with hn | ⟨g, cap, cur, rfl, hbg, hg, rest⟩
  · exact .inl hn
  · refine .inr ⟨g, cap, cur, rfl, hbg, ?_, rest⟩
    rw [hb.block g (Array.getElem?_eq_some_iff.1 hg).1]; exact hg

/-- The slice value v reads as the fields l. -/
def ReadsF (w : World) (v : Value) (l : List Wd.Fld) : Prop :=
  (∃ a cap, v = .slice a 0 cap ∧ l = []) ∨ ∃ b o cap, v = .slice (some ⟨b, o, none⟩) l.length cap ∧ b < w.heap.size ∧
    ∀ j (hj : j < l.length), w.cell? ⟨b, o + 2 * j, none⟩ = some (S8 l[j].1) ∧ w.cell? ⟨b, o + 2 * j + 1, none⟩ = some (.bool l[j].2)
theorem ReadsF.below {w w' : World} {v : Value} {l : List Wd.Fld} (h : ReadsF w v l) (hb : Below w.heap.size w w') : ReadsF w' v l := by
  rcases h with h | ⟨b, o, cap, hv, hlt, hc⟩
  · exact .inl h
  · exact .inr ⟨b, o, cap, hv, Nat.lt_of_lt_of_le hlt hb.size, fun j hj => ⟨(hb.cell (p := ⟨b, _, none⟩) hlt).trans (hc j hj).1, (hb.cell (p := ⟨b, _, none⟩) hlt).trans (hc j hj).2⟩⟩
theorem OwnF.reads {w : World} {B : Nat} {v : Value} {l : List Wd.Fld} (h : OwnF w B v l) : ReadsF w v l := by
  rcases h.2 with ⟨hn, h0⟩ | ⟨g, cap, cur, hv, hbg, hg, h1, h2, h3, h4⟩
  · exact .inl ⟨none, 0, hn, List.eq_nil_of_length_eq_zero h0⟩
  · refine .inr ⟨g, 0, cap, hv, (Array.getElem?_eq_some_iff.1 hg).1, fun j hj => ?_⟩
    have hcs := World.ownsRow.cells h (g := g) (by rw [hv]; rfl)
    have e : ∀ n, (⟨g, 0, none⟩ : Addr).add n = ⟨g, n, none⟩ := by intro n; unfold Addr.add; split <;> simp_all
    have f := fcells_get l j hj
    have c1 := hcs _ _ f.1
    have c2 := hcs _ _ f.2
    rw [e] at c1 c2
    rw [Nat.zero_add]
    exact ⟨c1, c2⟩
theorem ReadsF.nil (w : World) : ReadsF w (.slice none 0 0) [] := .inl ⟨none, 0, rfl, rfl⟩

/-- append(v, f) for one field. -/
theorem appF {ops : Array Oper} {rest : List Oper} {o : Oper} {a : Act} {Q : Exit → Act → World → Prop} (w : World) (hgd : o.guard = none) (s x : Operand) (ho : o.op = .call { callee := .builtin .append, args := #[s, x], argTypes := #[34, 34] })
    (B : Nat) (v : Value) (l : List Wd.Fld) (f : Wd.Fld) (hs : a.eval s = v) (hown : OwnF w B v l) (g : Nat) (c : Nat) (hx : a.eval x = .slice (some ⟨g, 0, none⟩) 1 c)
    (h0 : w.cell? ⟨g, 0, none⟩ = some (S8 f.1)) (h1 : w.cell? ⟨g, 1, none⟩ = some (.bool f.2)) (hlen : l.length + 1 ≤ 4294967296) (hbase : B ≤ w.heap.size)
    (h : ∀ v' w', OwnF w' B v' (l ++ [f]) → w.grownBy w' v.ownBlock → (∃ g' c', v' = .slice (some ⟨g', 0, none⟩) (l.length + 1) c') → wpList Tryz.prog ops Q rest (a.put o.dst v') w') : wpList Tryz.prog ops Q (o :: rest) a w := by
  obtain ⟨i0, hi, hz0, hz1, hz2⟩ := info_parts infoF
  refine wpList_append_own w hgd s x 34 ho B 47 i0 (.agg #[.string ⟨#[]⟩, .bool false]) 2 24 Tryz.underlying34 hi hz0 hz1 hz2 rfl (by decide) v l.length (fcells l) hs hown ⟨g, 0, none⟩ 1 c [S8 f.1, .bool f.2] hx rfl ?_ ?_ (by unfold maxLen; omega) (by omega) hbase ?_
  · intro j u hu
    match j, hu with
    | 0, hu => simp at hu; subst hu; exact h0
    | 1, hu => simp at hu; subst hu; exact h1
  · intro u hu
    simp at hu
    rcases hu with rfl | rfl <;> rfl
  · intro v' w' h1 h2 _
    have hw : OwnF w' B v' (l ++ [f]) := by
      unfold OwnF; rw [List.length_append, fcells_snoc]; exact h1
    refine h v' w' hw h2 ?_
    rcases h1.2 with ⟨_, h0⟩ | ⟨g', cap, cur, hv, _⟩
    · omega
    · exact ⟨g', cap, hv⟩
theorem below_appF {B : Nat} {w0 w w' : World} {v : Value} {l : List Wd.Fld} (hb : Below B w0 w) (ho : OwnF w B v l) (hg : w.grownBy w' v.ownBlock) (hB : B ≤ w.heap.size) : Below B w0 w' :=
  hb.grown hg hB fun k hk => (ho.lt k hk).1
end Go.Proofs.YtffkohdnhaebjaaGreatDoor
