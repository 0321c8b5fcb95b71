/-
  Slices of elements of one type, over any program: owned by the call (OwnL), read (ReadsL). No program of its own.
-/
import Derived.WalkKit
namespace Go.Proofs.Ytaicmiadgnpimaa
open Go.RowKit

/-- What a slice's element is: the slice's type S, the element's type T, its n cells and b bytes, and how a datum is laid. -/
structure ElT (P : Program) (S T : TypeId) (n b : Nat) (z : Value) {α : Type} (enc : α → List Value) : Prop where
  und : P.underlying S = some (.slice T)
  info : (P.info? T).map (fun i => (i.zero, i.size, i.bytes)) = some (some z, n, b)
  zc : z.cells.size = n
  pos : 0 < n
  len : ∀ x, (enc x).length = n
  one : ∀ x, ∀ u ∈ enc x, u.oneCell' = true

section
variable {α : Type} {P : Program} {S T : TypeId} {n b : Nat} {z : Value} {enc : α → List Value}

def OwnL (T : TypeId) (n : Nat) (enc : α → List Value) (w : World) (B : Nat) (v : Value) (l : List α) : Prop := w.ownsRow B T n v l.length (l.flatMap enc)
theorem OwnL.nil (w : World) (B : Nat) : OwnL T n enc w B (.slice none 0 0) [] := World.ownsRow_nil w B _ n
theorem OwnL.alloc {w : World} {B : Nat} {v : Value} {l : List α} (h : OwnL T n enc w B v l) (o : Obj) : OwnL T n enc (w.alloc o) B v l := World.ownsRow.alloc h o
theorem OwnL.drew {w : World} {B : Nat} {v : Value} {l : List α} (h : OwnL T n enc w B v l) : OwnL T n enc w.drew B v l := h
theorem OwnL.lt {w : World} {B : Nat} {v : Value} {l : List α} (h : OwnL T n enc w B v l) : ∀ k, v.ownBlock = some k → B ≤ k ∧ k < w.heap.size := World.ownsRow.lt h
theorem OwnL.below {w w' : World} {B : Nat} {v : Value} {l : List α} (h : OwnL T n enc w B v l) (hb : Below w.heap.size w w') : OwnL T n enc w' B v l := by
  refine ⟨h.1, ?_⟩
  rcases h.2 with hn | ⟨g, cap, cur, rfl, hbg, hg, rest⟩
  · exact .inl hn
  · refine .inr ⟨g, cap, cur, rfl, hbg, ?_, rest⟩
    rw [hb.block g (Array.getElem?_eq_some_iff.1 hg).1]; exact hg

theorem flat_length (hl : ∀ x, (enc x).length = n) (l : List α) : (l.flatMap enc).length = l.length * n := by
  induction l with
  | nil => simp
  | cons x t ih => simp only [List.flatMap_cons, List.length_append, ih, hl, List.length_cons, Nat.succ_mul]; omega
theorem flat_get (hl : ∀ x, (enc x).length = n) (l : List α) : ∀ (j : Nat) (hj : j < l.length) (i : Nat) (u : Value), (enc l[j])[i]? = some u → (l.flatMap enc)[j * n + i]? = some u := by
  induction l with
  | nil => intro j hj; simp at hj
  | cons x t ih =>
    intro j hj i u hu
    rw [List.flatMap_cons]
    cases j with
    | zero =>
      have hi : i < (enc x).length := (List.getElem?_eq_some_iff.1 hu).1
      rw [Nat.zero_mul, Nat.zero_add, List.getElem?_append_left hi]
      exact hu
    | succ j =>
      rw [List.getElem?_append_right (by rw [hl, Nat.succ_mul]; omega), hl, show (j + 1) * n + i - n = j * n + i from by rw [Nat.succ_mul]; omega]
      exact ih j (by simpa using hj) i u (by simpa using hu)

/-- The slice value v reads as the list l. -/
def ReadsL (n : Nat) (enc : α → List Value) (w : World) (v : Value) (l : List α) : Prop :=
  (∃ a cap, v = .slice a 0 cap ∧ l = []) ∨ ∃ b o cap, v = .slice (some ⟨b, o, none⟩) l.length cap ∧ b < w.heap.size ∧
    ∀ j (hj : j < l.length) (i : Nat) (u : Value), (enc l[j])[i]? = some u → w.cell? ⟨b, o + j * n + i, none⟩ = some u
theorem ReadsL.nil (w : World) : ReadsL n enc w (.slice none 0 0) [] := .inl ⟨none, 0, rfl, rfl⟩
theorem ReadsL.below {w w' : World} {v : Value} {l : List α} (h : ReadsL n enc w v l) (hb : Below w.heap.size w w') : ReadsL n enc w' v l := by
  rcases h with h | ⟨b, o, cap, hv, hlt, hc⟩
  · exact .inl h
  · exact .inr ⟨b, o, cap, hv, Nat.lt_of_lt_of_le hlt hb.size, fun j hj i u hu => (hb.cell (p := ⟨b, _, none⟩) hlt).trans (hc j hj i u hu)⟩
theorem addr_add0 (g n : Nat) : (⟨g, 0, none⟩ : Addr).add n = ⟨g, n, none⟩ := by unfold Addr.add; split <;> simp_all
theorem OwnL.reads (hl : ∀ x, (enc x).length = n) {w : World} {B : Nat} {v : Value} {l : List α} (h : OwnL T n enc w B v l) : ReadsL n enc w v l := by
  rcases h.2 with ⟨hn, h0⟩ | ⟨g, cap, cur, hv, hbg, hg, h1, h2, h3, h4⟩
  · exact .inl ⟨none, 0, hn, List.eq_nil_of_length_eq_zero h0⟩
  · refine .inr ⟨g, 0, cap, hv, (Array.getElem?_eq_some_iff.1 hg).1, fun j hj i u hu => ?_⟩
    have hcs := World.ownsRow.cells h (g := g) (by rw [hv]; rfl)
    have c1 := hcs _ _ (flat_get hl l j hj i u hu)
    rw [addr_add0] at c1
    rw [Nat.zero_add]
    exact c1
/-- What the walk asks of a slice that reads as l: its value; its cells. -/
theorem ReadsL.form {w : World} {v : Value} {l : List α} (h : ReadsL n enc w v l) (hne : l ≠ []) : ∃ b o cap, v = .slice (some ⟨b, o, none⟩) l.length cap ∧ b < w.heap.size ∧
    ∀ j (hj : j < l.length) (i : Nat) (u : Value), (enc l[j])[i]? = some u → w.cell? ⟨b, o + j * n + i, none⟩ = some u := by
  rcases h with ⟨_, _, _, h⟩ | h
  · exact absurd h hne
  · exact h
theorem ReadsL.len {w : World} {v : Value} {l : List α} (h : ReadsL n enc w v l) : ∃ a cap, v = .slice a l.length cap := by
  rcases h with ⟨a, cap, hv, rfl⟩ | ⟨b, o, cap, hv, _⟩
  · exact ⟨a, cap, hv⟩
  · exact ⟨_, cap, hv⟩

theorem below_appL {B : Nat} {w0 w w' : World} {v : Value} {l : List α} (hb : Below B w0 w) (ho : OwnL T n enc w B v l) (hg : w.grownBy w' v.ownBlock) (hB : B ≤ w.heap.size) : Below B w0 w' :=
  hb.grown hg hB fun k hk => (ho.lt k hk).1
end

/-- A block whose cells are known whole. -/
theorem blk_cell {w : World} {b : Nat} {cs : Array Value} {T : TypeId} (h : w.heap[b]? = some (.cells cs T (0, 0))) (i : Nat) : w.cell? ⟨b, i, none⟩ = cs[i]? := by simp [World.cell?, h]
theorem blk_free {w : World} {b : Nat} {cs : Array Value} {T : TypeId} (h : w.heap[b]? = some (.cells cs T (0, 0))) (i : Nat) : w.frozen? ⟨b, i, none⟩ = false := by simp [World.frozen?, h]
theorem blk_set {w : World} {b : Nat} {cs : Array Value} {T : TypeId} (h : w.heap[b]? = some (.cells cs T (0, 0))) (i : Nat) (u : Value) : (w.setCell ⟨b, i, none⟩ u).heap[b]? = some (.cells (cs.setIfInBounds i u) T (0, 0)) := by
  have hlt := lt_of_block h
  have h' : w.heap[b] = .cells cs T (0, 0) := by simpa [Array.getElem?_eq_getElem hlt] using h
  show (w.heap.modify b _)[b]? = _
  rw [Array.getElem?_eq_getElem (by simpa using hlt), Array.getElem_modify_self, h']
  rfl
theorem blk_new (w : World) (o : Obj) : (w.alloc o).heap[w.heap.size]? = some o := by
  show (w.heap.push _)[w.heap.size]? = some _
  simp
end Go.Proofs.Ytaicmiadgnpimaa
