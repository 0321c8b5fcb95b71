/-
  Walks for layer 3 (faults): how its data lie; the small functions.
-/
import Derived.Test.YtgnhbccmdpkbiaaDoorProg
import Derived.Test.YtgnhbccmdpkbiaaDoorFaPlain
import Derived.Test.YtgnhbccmdpkbiaaDoorGen
import Derived.Below
import Derived.WalkKit
import Derived.WalkSmall
import Derived.WalkLawsBesides
import Derived.Test.YtgnhbccmdpkbiaaDoorText3
import Derived.IntWalk
import Derived.BigQuiet
import Derived.Lib.Hide
import Derived.Deep.QuietTactic
namespace Go.Proofs.YtgnhbccmdpkbiaaDoor
open Go.RowKit

theorem ret_b {a b : Bool} (h : a = b) : Ending.returned (.bool a) = .returned (.bool b) := by rw [h]
theorem ret_i {k : IntKind} {a b : Int} (h : a = b) : Ending.returned (.int k a) = .returned (.int k b) := by rw [h]

abbrev I64 (n : Int) : Value := .int .i64 n
def encLink (x : Fa.Link) : List Value := [I64 x.kind, .string x.op, I64 x.backend, I64 x.conn]
def encNode (x : Fa.Node) : List Value := [I64 x.depth, I64 x.joined, I64 x.link.kind, .string x.link.op, I64 x.link.backend, I64 x.link.conn]
def valLink (x : Fa.Link) : Value := .agg #[I64 x.kind, .string x.op, I64 x.backend, I64 x.conn]
def valNode (x : Fa.Node) : Value := .agg #[I64 x.depth, I64 x.joined, I64 x.link.kind, .string x.link.op, I64 x.link.backend, I64 x.link.conn]
theorem encNode_len (x : Fa.Node) : (encNode x).length = 6 := rfl
def encV (v : Value) : List Value := [v]

def linkPtr (b : Nat) : Value := .iface 26 (.pointer (some ⟨b, 0, none⟩))
def joinPtr (b : Nat) : Value := .iface 36 (.pointer (some ⟨b, 0, none⟩))
def linkCells (x : Fa.Link) (cv : Value) (n d : Nat) : Array Value := #[.bool true, I64 x.kind, .string x.op, I64 x.backend, I64 x.conn, cv, I64 n, I64 d]
def joinCells (sv : Value) (n d : Nat) : Array Value := #[sv, I64 n, I64 d]
/-- The values vs are the trees of a forest, in blocks of S. -/
def Holds (S : Nat → Prop) (w : World) : Fa.F → List Value → Prop
  | .nil, vs => vs = []
  | .link x c r, vs => ∃ b cv cs vs', vs = linkPtr b :: vs' ∧ S b ∧ w.heap[b]? = some (.cells (linkCells x cv (c.nodes + 1) c.hgt) 35 (0, 0)) ∧ Holds S w c cs ∧ (cs = [] ∧ cv = .nilIface ∨ cs = [cv]) ∧ Holds S w r vs'
  | .join k r, vs => ∃ b g o cap ks vs', vs = joinPtr b :: vs' ∧ S b ∧ w.heap[b]? = some (.cells (joinCells (.slice (some ⟨g, o, none⟩) ks.length cap) (k.nodes + 1) k.hgt) 39 (0, 0)) ∧
      (S g ∧ g < w.heap.size ∧ ∀ (j : Nat) u, ks[j]? = some u → w.cell? ⟨g, o + j, none⟩ = some u) ∧ Holds S w k ks ∧ Holds S w r vs'
theorem Holds.moved {S S' : Nat → Prop} {w w' : World} {t : Fa.F} {vs : List Value} (h : Holds S w t vs) (hS : ∀ b, S b → b < w.heap.size → S' b ∧ w'.heap[b]? = w.heap[b]?) (hs : w.heap.size ≤ w'.heap.size) : Holds S' w' t vs := by
  induction t generalizing vs with
  | nil => exact h
  | link x c r ihc ihr =>
    obtain ⟨b, cv, cs, vs', h1, hb, h2, h3, h4, h5⟩ := h
    have hl := hS b hb (Array.getElem?_eq_some_iff.1 h2).1
    exact ⟨b, cv, cs, vs', h1, hl.1, hl.2.trans h2, ihc h3, h4, ihr h5⟩
  | join k r ihc ihr =>
    obtain ⟨b, g, o, cap, ks, vs', h1, hb, h2, ⟨hg, hgl, h3⟩, h4, h5⟩ := h
    have hl := hS b hb (Array.getElem?_eq_some_iff.1 h2).1
    have hl2 := hS g hg hgl
    refine ⟨b, g, o, cap, ks, vs', h1, hl.1, hl.2.trans h2, ⟨hl2.1, Nat.lt_of_lt_of_le hgl hs, fun j u hj => ?_⟩, ihc h4, ihr h5⟩
    have := h3 j u hj
    unfold World.cell? at this ⊢
    simp only at this ⊢
    rw [hl2.2]
    exact this
theorem Holds.below {S : Nat → Prop} {w w' : World} {t : Fa.F} {vs : List Value} (h : Holds S w t vs) (hb : Below w.heap.size w w') : Holds S w' t vs :=
  h.moved (fun b h1 h2 => ⟨h1, hb.block b h2⟩) hb.size
theorem Holds.mono {S S' : Nat → Prop} {w : World} {t : Fa.F} {vs : List Value} (h : Holds S w t vs) (hS : ∀ b, S b → b < w.heap.size → S' b) : Holds S' w t vs :=
  h.moved (fun b h1 h2 => ⟨hS b h1 h2, rfl⟩) (Nat.le_refl _)
theorem Holds.len {S : Nat → Prop} {w : World} {t : Fa.F} {vs : List Value} (h : Holds S w t vs) : vs.length = t.len := by
  induction t generalizing vs with
  | nil => obtain rfl := h; rfl
  | link x c r _ ihr =>
    obtain ⟨b, cv, cs, vs', rfl, _, _, _, _, h5⟩ := h
    simp [Fa.F.len, ihr h5]
  | join k r _ ihr =>
    obtain ⟨b, g, o, cap, ks, vs', rfl, _, _, _, _, h5⟩ := h
    simp [Fa.F.len, ihr h5]
theorem Holds.app {S : Nat → Prop} {w : World} {t s : Fa.F} {vs us : List Value} (h : Holds S w t vs) (h' : Holds S w s us) : Holds S w (t.app s) (vs ++ us) := by
  induction t generalizing vs with
  | nil => obtain rfl := h; exact h'
  | link x c r _ ihr =>
    obtain ⟨b, cv, cs, vs', rfl, hb, h2, h3, h4, h5⟩ := h
    exact ⟨b, cv, cs, _, rfl, hb, h2, h3, h4, ihr h5⟩
  | join k r _ ihr =>
    obtain ⟨b, g, o, cap, ks, vs', rfl, hb, h2, h3, h4, h5⟩ := h
    exact ⟨b, g, o, cap, ks, _, rfl, hb, h2, h3, h4, ihr h5⟩
theorem len_one {r : Fa.F} {n : Nat} (h : n = r.len + n) : r = .nil := by
  cases r with
  | nil => rfl
  | link _ _ _ => simp only [Fa.F.len] at h; omega
  | join _ _ => simp only [Fa.F.len] at h; omega
/-- One fault: its value, and what its block holds. -/
theorem Holds.one {S : Nat → Prop} {w : World} {t : Fa.F} {v : Value} (h : Holds S w t [v]) : (∃ x c b cv cs, t = .link x c .nil ∧ v = linkPtr b ∧ S b ∧ w.heap[b]? = some (.cells (linkCells x cv (c.nodes + 1) c.hgt) 35 (0, 0)) ∧ Holds S w c cs ∧ (cs = [] ∧ cv = .nilIface ∨ cs = [cv])) ∨
    (∃ k b g o cap ks, t = .join k .nil ∧ v = joinPtr b ∧ S b ∧ w.heap[b]? = some (.cells (joinCells (.slice (some ⟨g, o, none⟩) ks.length cap) (k.nodes + 1) k.hgt) 39 (0, 0)) ∧
      (S g ∧ g < w.heap.size ∧ ∀ (j : Nat) u, ks[j]? = some u → w.cell? ⟨g, o + j, none⟩ = some u) ∧ Holds S w k ks) := by
  have hl := h.len
  cases t with
  | nil => cases h
  | link x c r =>
    obtain ⟨b, cv, cs, vs', h1, hb, h2, h3, h4, h5⟩ := h
    injection h1 with e1 e2
    subst e2
    obtain rfl : r = .nil := len_one (n := 1) (by simpa [Fa.F.len] using hl)
    exact .inl ⟨x, c, b, cv, cs, rfl, e1, hb, h2, h3, h4⟩
  | join k r =>
    obtain ⟨b, g, o, cap, ks, vs', h1, hb, h2, h3, h4, h5⟩ := h
    injection h1 with e1 e2
    subst e2
    obtain rfl : r = .nil := len_one (n := 1) (by simpa [Fa.F.len] using hl)
    exact .inr ⟨k, b, g, o, cap, ks, rfl, e1, hb, h2, h3, h4⟩
theorem Holds.kid {S : Nat → Prop} {w : World} {t : Fa.F} {vs : List Value} (h : Holds S w t vs) : ∀ (i : Nat) (hi : i < t.kids.length), ∃ v, vs[i]? = some v ∧ Holds S w t.kids[i] [v] := by
  induction t generalizing vs with
  | nil => intro i hi; cases hi
  | link x c r _ ihr =>
    obtain ⟨b, cv, cs, vs', rfl, hb, h2, h3, h4, h5⟩ := h
    intro i hi
    cases i with
    | zero => exact ⟨_, rfl, b, cv, cs, [], rfl, hb, h2, h3, h4, rfl⟩
    | succ i => exact ihr h5 i (by simpa [Fa.F.kids] using hi)
  | join k r _ ihr =>
    obtain ⟨b, g, o, cap, ks, vs', rfl, hb, h2, h3, h4, h5⟩ := h
    intro i hi
    cases i with
    | zero => exact ⟨_, rfl, b, g, o, cap, ks, [], rfl, hb, h2, h3, h4, rfl⟩
    | succ i => exact ihr h5 i (by simpa [Fa.F.kids] using hi)


theorem numIn (x : Fa.Link) (h : Fa.okNum x = true) : 1 ≤ x.kind ∧ x.kind < 17 ∧ -1 ≤ x.backend ∧ x.backend < 16 ∧ 0 ≤ x.conn ∧ x.conn ≤ 1000000000 := by
  simp only [Fa.okNum, Bool.and_eq_true, decide_eq_true_eq] at h
  omega
theorem num_eq (k b c : Int) (o : ByteArray) : Fa.okNum ⟨k, o, b, c⟩ = (decide (1 ≤ k) && decide (k < 17) && decide (-1 ≤ b) && decide (b < 16) && decide (0 ≤ c) && decide (c ≤ 1000000000)) := rfl

theorem limits_len {l : List Fa.Node} (h : 40 < l.length) : Fa.limits l = true := by simp [Fa.limits, h]
theorem limits_deep {l : List Fa.Node} {k : Nat} (hk : k < l.length) (h : 12 < l[k].depth) : Fa.limits l = true := by
  simp only [Fa.limits, Bool.or_eq_true, List.any_eq_true, decide_eq_true_eq]
  exact .inr ⟨l[k], List.getElem_mem _, h⟩
theorem limits_no {l : List Fa.Node} (h : ¬ 40 < l.length) (h2 : ∀ j (hj : j < l.length), l[j].depth ≤ 12) : Fa.limits l = false := by
  simp only [Fa.limits, Bool.or_eq_false_iff, decide_eq_false_iff_not, List.any_eq_false, decide_eq_true_eq]
  refine ⟨h, fun x hx => ?_⟩
  obtain ⟨j, hj, rfl⟩ := List.getElem_of_mem hx
  have := h2 j hj
  omega
def farL (l : List Fa.Node) : Bool := decide (60 < l.length) || l.any fun x => decide (100 < x.link.op.size)
theorem far_len {l : List Fa.Node} (h : 60 < l.length) : farL l = true := by simp [farL, h]
theorem far_op {l : List Fa.Node} {k : Nat} (hk : k < l.length) (h : 100 < l[k].link.op.size) : farL l = true := by
  simp only [farL, Bool.or_eq_true, List.any_eq_true, decide_eq_true_eq]
  exact .inr ⟨l[k], List.getElem_mem _, h⟩
theorem far_no {l : List Fa.Node} (h : ¬ 60 < l.length) (h2 : ∀ j (hj : j < l.length), l[j].link.op.size ≤ 100) : farL l = false := by
  simp only [farL, Bool.or_eq_false_iff, decide_eq_false_iff_not, List.any_eq_false, decide_eq_true_eq]
  refine ⟨h, fun x hx => ?_⟩
  obtain ⟨j, hj, rfl⟩ := List.getElem_of_mem hx
  have := h2 j hj
  omega

/-! ### Type switches over the two kinds of faults -/
theorem taLL (v : Value) (w : World) : (Instr.typeAssert (.iface 26 v) 28 26 true).run Tryd.prog w = .ok (.tuple #[v, .bool true]) w := by kernel_rfl
theorem taJL (v : Value) (w : World) : (Instr.typeAssert (.iface 36 v) 28 26 true).run Tryd.prog w = .ok (.tuple #[.pointer none, .bool false]) w := by kernel_rfl
theorem taJJ (v : Value) (w : World) : (Instr.typeAssert (.iface 36 v) 28 36 true).run Tryd.prog w = .ok (.tuple #[v, .bool true]) w := by kernel_rfl
theorem taLJ (v : Value) (w : World) : (Instr.typeAssert (.iface 26 v) 28 36 true).run Tryd.prog w = .ok (.tuple #[.pointer none, .bool false]) w := by kernel_rfl
theorem taNL (w : World) : (Instr.typeAssert .nilIface 28 26 true).run Tryd.prog w = .ok (.tuple #[.pointer none, .bool false]) w := by kernel_rfl
theorem taNJ (w : World) : (Instr.typeAssert .nilIface 28 36 true).run Tryd.prog w = .ok (.tuple #[.pointer none, .bool false]) w := by kernel_rfl

theorem hgtJ {k : Fa.F} : (Fa.F.join k .nil).hgt - 1 = k.hgt := by simp [Fa.F.hgt]
set_option maxRecDepth 100000 in
/-- measure at one fault. -/
theorem measure_any (S : Nat → Prop) (t : Fa.F) (v : Value) (w : World) (h : Holds S w t [v]) : Calls Tryd.prog 24 #[v] w fun e w' => e = .returned (.tuple #[I64 t.nodes, I64 (t.hgt - 1 : Nat)]) ∧ Below w.heap.size w w' := by
  rcases h.one with ⟨x, c, b, cv, cs, rfl, rfl, hb, h2, h3, h4⟩ | ⟨k, b, g, o, cap, ks, rfl, rfl, hb, h2, h3, h4⟩
  · have c0 := blk_cell h2 0
    have c1 := blk_cell h2 6
    have c2 := blk_cell h2 7
    simp only [linkCells] at c0 c1 c2
    have HN := Lib.hid (show (Fa.F.link x c .nil).nodes = c.nodes + 1 from by simp [Fa.F.nodes])
    have HH := Lib.hid (show (Fa.F.link x c .nil).hgt - 1 = c.hgt from by simp [Fa.F.hgt])
    clear h2 h3 h4 h hb
    unfold linkPtr
    have t1 := taLL
    go_enter Tryd.func24, Tryd.ntmps24
    go_wp2
    go_quiet (fail)
    go_wp2
    go_ret2
    exact ⟨by rw [HN.out, HH.out]; simp, below_drewN (Below.refl _ _) _⟩
  · have c1 := blk_cell h2 1
    have c2 := blk_cell h2 2
    simp only [joinCells] at c1 c2
    have HN := Lib.hid (show (Fa.F.join k .nil).nodes = k.nodes + 1 from by simp [Fa.F.nodes])
    have HH := Lib.hid (show (Fa.F.join k .nil).hgt - 1 = k.hgt from by simp [Fa.F.hgt])
    clear h2 h3 h4 h hb
    unfold joinPtr
    have t1 := taJL
    have t2 := taJJ
    go_enter Tryd.func24, Tryd.ntmps24
    go_wp2
    go_quiet (fail)
    go_wp2
    go_ret2
    exact ⟨by rw [HN.out, HH.out]; simp, below_drewN (Below.refl _ _) _⟩

theorem ReadsL.cell0 {w : World} {b o : Nat} {l : List Fa.Node} (hc : ∀ j (hj : j < l.length) (i : Nat) (u : Value), (encNode l[j])[i]? = some u → w.cell? ⟨b, o + j * 6 + i, none⟩ = some u) (k : Nat) (hk : k < l.length) :
    w.cell? ⟨b, o + k * 6, none⟩ = some (I64 l[k].depth) ∧ w.cell? ⟨b, o + k * 6 + 1, none⟩ = some (I64 l[k].joined) ∧ w.cell? ⟨b, o + k * 6 + 2, none⟩ = some (I64 l[k].link.kind) ∧
    w.cell? ⟨b, o + k * 6 + 2 + 1, none⟩ = some (.string l[k].link.op) ∧ w.cell? ⟨b, o + k * 6 + 2 + 2, none⟩ = some (I64 l[k].link.backend) ∧ w.cell? ⟨b, o + k * 6 + 2 + 3, none⟩ = some (I64 l[k].link.conn) :=
  ⟨hc k hk 0 _ rfl, hc k hk 1 _ rfl, hc k hk 2 _ rfl, hc k hk 3 _ rfl, hc k hk 4 _ rfl, hc k hk 5 _ rfl⟩

end Go.Proofs.YtgnhbccmdpkbiaaDoor
