/-
  Layer 3 (faults): trees of faults and their chains. No program of its own.
-/
import Derived.Test.YtgnhbccmdpkbiaaDoorPlain
namespace Go.Proofs.YtgnhbccmdpkbiaaDoor
namespace Fa

structure Link where
  kind : Int
  op : ByteArray
  backend : Int
  conn : Int
structure Node where
  depth : Int
  joined : Int
  link : Link
theorem ba_eq {a b : ByteArray} : a.data.toList = b.data.toList ↔ a = b :=
  ⟨fun h => ByteArray.ext (Array.toList_inj.1 h), fun h => by rw [h]⟩
instance : DecidableEq Link := fun x y => decidable_of_iff (x.kind = y.kind ∧ x.op.data.toList = y.op.data.toList ∧ x.backend = y.backend ∧ x.conn = y.conn) (by
  obtain ⟨k, o, b, c⟩ := x
  obtain ⟨k', o', b', c'⟩ := y
  simp
  intro _ _ _
  exact ⟨fun h => ByteArray.ext h, fun h => by rw [h]⟩)
instance : DecidableEq Node := fun x y => decidable_of_iff (x.depth = y.depth ∧ x.joined = y.joined ∧ x.link = y.link) (by
  obtain ⟨d, j, l⟩ := x
  obtain ⟨d', j', l'⟩ := y
  simp)
def Link.zero : Link := ⟨0, ByteArray.empty, 0, 0⟩

/-- A forest: the trees of faults that stand one behind the other. A link has a cause (a forest of at most one tree), a join has children. -/
inductive F where
  | nil
  | link (x : Link) (c r : F)
  | join (k r : F)
def F.len : F → Nat
  | .nil => 0
  | .link _ _ r => r.len + 1
  | .join _ r => r.len + 1
def F.nodes : F → Nat
  | .nil => 0
  | .link _ c r => c.nodes + 1 + r.nodes
  | .join k r => k.nodes + 1 + r.nodes
/-- One more than the greatest depth. -/
def F.hgt : F → Nat
  | .nil => 0
  | .link _ c r => max (c.hgt + 1) r.hgt
  | .join k r => max (k.hgt + 1) r.hgt
def F.chain : F → Int → List Node
  | .nil, _ => []
  | .link x c r, d => ⟨d, 0, x⟩ :: (c.chain (d + 1) ++ r.chain d)
  | .join k r, d => ⟨d, k.len, Link.zero⟩ :: (k.chain (d + 1) ++ r.chain d)
def F.app : F → F → F
  | .nil, s => s
  | .link x c r, s => .link x c (r.app s)
  | .join k r, s => .join k (r.app s)

def okNum (x : Link) : Bool := decide (1 ≤ x.kind) && decide (x.kind < 17) && decide (-1 ≤ x.backend) && decide (x.backend < 16) && decide (0 ≤ x.conn) && decide (x.conn ≤ 1000000000)
def okName (x : Link) : Bool := Wd.name x.op.data.toList
def fix (x : Link) : Link := if okNum x then x else ⟨1, x.op, 0, 0⟩
def isZero (x : Link) : Bool := decide (x = Link.zero)
def badJoin (x : Node) : Bool := decide (x.joined < 2) || decide (8 < x.joined) || !isZero x.link
/-- The next node stands deeper. -/
def deeper (d : Int) : List Node → Bool
  | [] => false
  | y :: _ => decide (d < y.depth)

/-- What every link of a fault that was made has. -/
def F.ok : F → Prop
  | .nil => True
  | .link x c r => okNum x = true ∧ c.len ≤ 1 ∧ c.ok ∧ r.ok
  | .join k r => 2 ≤ k.len ∧ k.len ≤ 8 ∧ k.ok ∧ r.ok

def many (g : List Node → Option (F × List Node)) : Nat → List Node → Option (F × List Node)
  | 0, l => some (.nil, l)
  | k + 1, l => match g l with
    | none => none
    | some (t, r) => match many g k r with
      | none => none
      | some (s, r') => some (t.app s, r')
/-- The tree of depth d with which a list of nodes begins, and what is left. -/
def tree : Nat → Int → List Node → Option (F × List Node)
  | 0, _, _ => none
  | _ + 1, _, [] => none
  | f + 1, d, x :: l =>
    if x.depth = d then
      if x.joined = 0 then
        if okName x.link then
          if deeper d l then match tree f (d + 1) l with
            | none => none
            | some (c, r) => some (.link (fix x.link) c .nil, r)
          else some (.link (fix x.link) .nil .nil, l)
        else none
      else if badJoin x then none
      else match many (tree f (d + 1)) x.joined.toNat l with
        | none => none
        | some (k, r) => some (.join k .nil, r)
    else none
def wideN (x : Node) : Bool := x.joined == 0 && !okNum x.link
/-- What Build answers: the error; the tree. -/
def limits (l : List Node) : Bool := decide (40 < l.length) || l.any fun x => decide (12 < x.depth)
def build (l : List Node) : Int × F :=
  if limits l then (3, .nil)
  else match tree (l.length + 1) 0 l with
    | some (t, []) => if l.any wideN then (7, .nil) else (0, t)
    | _ => (6, .nil)

theorem app_nil (t : F) : t.app .nil = t := by
  induction t with
  | nil => rfl
  | link x c r _ ih => simp [F.app, ih]
  | join k r _ ih => simp [F.app, ih]
theorem app_len (t s : F) : (t.app s).len = t.len + s.len := by
  induction t with
  | nil => simp [F.app, F.len]
  | link x c r _ ih => simp only [F.app, F.len, ih]; omega
  | join k r _ ih => simp only [F.app, F.len, ih]; omega
theorem app_nodes (t s : F) : (t.app s).nodes = t.nodes + s.nodes := by
  induction t with
  | nil => simp [F.app, F.nodes]
  | link x c r _ ih => simp only [F.app, F.nodes, ih]; omega
  | join k r _ ih => simp only [F.app, F.nodes, ih]; omega
theorem app_hgt (t s : F) : (t.app s).hgt = max t.hgt s.hgt := by
  induction t with
  | nil => simp [F.app, F.hgt]
  | link x c r _ ih => simp only [F.app, F.hgt, ih]; omega
  | join k r _ ih => simp only [F.app, F.hgt, ih]; omega
theorem app_chain (t s : F) (d : Int) : (t.app s).chain d = t.chain d ++ s.chain d := by
  induction t generalizing d with
  | nil => rfl
  | link x c r _ ih => simp [F.app, F.chain, ih]
  | join k r _ ih => simp [F.app, F.chain, ih]
theorem app_ok (t s : F) : (t.app s).ok ↔ t.ok ∧ s.ok := by
  induction t with
  | nil => simp [F.app, F.ok]
  | link x c r _ ih => simp [F.app, F.ok, ih, and_assoc]
  | join k r _ ih => simp [F.app, F.ok, ih, and_assoc]
theorem app_assoc (t s u : F) : (t.app s).app u = t.app (s.app u) := by
  induction t with
  | nil => rfl
  | link x c r _ ih => simp [F.app, ih]
  | join k r _ ih => simp [F.app, ih]
theorem chain_length (t : F) (d : Int) : (t.chain d).length = t.nodes := by
  induction t generalizing d with
  | nil => rfl
  | link x c r ihc ihr => simp only [F.chain, List.length_cons, List.length_append, ihc, ihr, F.nodes]; omega
  | join k r ihc ihr => simp only [F.chain, List.length_cons, List.length_append, ihc, ihr, F.nodes]; omega
theorem len_le_nodes (t : F) : t.len ≤ t.nodes := by
  induction t with
  | nil => exact Nat.le_refl _
  | link x c r _ ih => simp only [F.len, F.nodes]; omega
  | join k r _ ih => simp only [F.len, F.nodes]; omega
theorem hgt_le_nodes (t : F) : t.hgt ≤ t.nodes := by
  induction t with
  | nil => exact Nat.le_refl _
  | link x c r _ ih => simp only [F.hgt, F.nodes]; omega
  | join k r _ ih => simp only [F.hgt, F.nodes]; omega
theorem okNum_one (op : ByteArray) : okNum ⟨1, op, 0, 0⟩ = true := by simp [okNum]
theorem fix_ok (x : Link) : okNum (fix x) = true := by
  unfold fix
  split
  · assumption
  · exact okNum_one _

/-- What a run of many trees that each obey a law obeys. -/
structure Took (t : F) (k : Nat) (d : Int) (l r : List Node) : Prop where
  len : t.len = k
  part : ∃ p, l = p ++ r ∧ p.length = t.nodes ∧ ((p.any wideN) = false → p = t.chain d)
  ok : t.ok
  deep : (∀ x ∈ l, x.depth ≤ 12) → t ≠ .nil → d + t.hgt ≤ 13
theorem Took.nil (d : Int) (l : List Node) : Took .nil 0 d l l := ⟨rfl, ⟨[], rfl, rfl, fun _ => rfl⟩, trivial, fun _ h => absurd rfl h⟩
theorem Took.app {t s : F} {j k : Nat} {d : Int} {l r r' : List Node} (h1 : Took t j d l r) (h2 : Took s k d r r') : Took (t.app s) (j + k) d l r' := by
  obtain ⟨a1, ⟨p, a2, a3, a4⟩, a5, a6⟩ := h1
  obtain ⟨b1, ⟨q, b2, b3, b4⟩, b5, b6⟩ := h2
  refine ⟨by rw [app_len, a1, b1], ⟨p ++ q, by rw [a2, b2]; simp, by rw [List.length_append, app_nodes, a3, b3], fun h => ?_⟩, (app_ok t s).2 ⟨a5, b5⟩, fun h hne => ?_⟩
  · rw [List.any_append, Bool.or_eq_false_iff] at h
    rw [app_chain, ← a4 h.1, ← b4 h.2]
  · have hr : ∀ x ∈ r, x.depth ≤ 12 := fun x hx => h x (by rw [a2]; exact List.mem_append_right _ hx)
    rw [app_hgt]
    by_cases ht : t = .nil
    · subst ht
      have : s ≠ .nil := fun e => hne (by rw [e]; rfl)
      have := b6 hr this
      simp only [F.hgt]
      omega
    · have h1 := a6 h ht
      by_cases hs : s = .nil
      · subst hs
        simp only [F.hgt]
        omega
      · have := b6 hr hs
        omega
theorem many_took {g : List Node → Option (F × List Node)} {d : Int} (hg : ∀ l t r, g l = some (t, r) → Took t 1 d l r) : ∀ (k : Nat) (l : List Node) (t : F) (r : List Node), many g k l = some (t, r) → Took t k d l r := by
  intro k
  induction k with
  | zero =>
    intro l t r h
    simp only [many, Option.some.injEq, Prod.mk.injEq] at h
    obtain ⟨rfl, rfl⟩ := h
    exact Took.nil d l
  | succ k ih =>
    intro l t r h
    unfold many at h
    split at h
    · exact absurd h (by simp)
    · rename_i t1 r1 h1
      split at h
      · exact absurd h (by simp)
      · rename_i s r2 h2
        simp only [Option.some.injEq, Prod.mk.injEq] at h
        obtain ⟨rfl, rfl⟩ := h
        have := (hg _ _ _ h1).app (ih _ _ _ h2)
        rw [Nat.add_comm] at this
        exact this
theorem isZero_eq {x : Link} (h : isZero x = true) : x = Link.zero := of_decide_eq_true h
theorem tree_took : ∀ (f : Nat) (d : Int) (l : List Node) (t : F) (r : List Node), tree f d l = some (t, r) → Took t 1 d l r := by
  intro f
  induction f with
  | zero => intro d l t r h; simp [tree] at h
  | succ f ih =>
    intro d l t r h
    cases l with
    | nil => simp [tree] at h
    | cons x l =>
      unfold tree at h
      split at h
      · rename_i hd
        split at h
        · rename_i hj
          split at h
          · split at h
            · split at h
              · exact absurd h (by simp)
              · rename_i c r1 h1
                simp only [Option.some.injEq, Prod.mk.injEq] at h
                obtain ⟨rfl, rfl⟩ := h
                obtain ⟨a1, ⟨p, a2, a3, a4⟩, a5, a6⟩ := ih _ _ _ _ h1
                refine ⟨rfl, ⟨x :: p, by rw [a2]; rfl, by simp [F.nodes, a3], fun hw => ?_⟩, ⟨fix_ok _, by omega, a5, trivial⟩, fun hx _ => ?_⟩
                · rw [List.any_cons, Bool.or_eq_false_iff] at hw
                  have hok : okNum x.link = true := by
                    have := hw.1
                    simp only [wideN, hj, beq_self_eq_true, Bool.true_and, Bool.not_eq_false'] at this
                    exact this
                  obtain ⟨xd, xj, xl⟩ := x
                  dsimp only at hd hj hok
                  subst hd; subst hj
                  simp [F.chain, fix, hok, ← a4 hw.2]
                · have := a6 (fun y hy => hx y (List.mem_cons_of_mem _ hy)) (fun e => by rw [e] at a1; exact absurd a1 (by simp [F.len]))
                  simp only [F.hgt]
                  omega
            · simp only [Option.some.injEq, Prod.mk.injEq] at h
              obtain ⟨rfl, rfl⟩ := h
              refine ⟨rfl, ⟨[x], rfl, rfl, fun hw => ?_⟩, ⟨fix_ok _, by simp [F.len], trivial, trivial⟩, fun hx _ => ?_⟩
              · have hok : okNum x.link = true := by
                  simp only [List.any_cons, List.any_nil, Bool.or_false, wideN, hj, beq_self_eq_true, Bool.true_and, Bool.not_eq_false'] at hw
                  exact hw
                obtain ⟨xd, xj, xl⟩ := x
                dsimp only at hd hj hok
                subst hd; subst hj
                simp [F.chain, fix, hok]
              · have := hx x (by simp)
                simp only [F.hgt]
                omega
          · exact absurd h (by simp)
        · rename_i hj
          split at h
          · exact absurd h (by simp)
          · rename_i hb
            split at h
            · exact absurd h (by simp)
            · rename_i k r1 h1
              simp only [Option.some.injEq, Prod.mk.injEq] at h
              obtain ⟨rfl, rfl⟩ := h
              obtain ⟨a1, ⟨p, a2, a3, a4⟩, a5, a6⟩ := many_took (ih (d + 1)) _ _ _ _ h1
              simp only [badJoin, Bool.or_eq_true, decide_eq_true_eq, Bool.not_eq_true', not_or, Int.not_lt, Bool.not_eq_false] at hb
              refine ⟨rfl, ⟨x :: p, by rw [a2]; rfl, by simp [F.nodes, a3], fun hw => ?_⟩, ⟨by omega, by omega, a5, trivial⟩, fun hx _ => ?_⟩
              · rw [List.any_cons, Bool.or_eq_false_iff] at hw
                have hz := isZero_eq hb.2
                obtain ⟨xd, xj, xl⟩ := x
                dsimp only at hd hj hz hb a1
                subst hd; subst hz
                have e : ((k.len : Nat) : Int) = xj := by omega
                simp [F.chain, ← a4 hw.2, e]
              · have := a6 (fun y hy => hx y (List.mem_cons_of_mem _ hy)) (fun e => by rw [e] at a1; simp only [F.len] at a1; omega)
                simp only [F.hgt]
                omega
      · exact absurd h (by simp)

/-- A chain that Build takes is the chain of the tree that it makes. -/
theorem build_ok {l : List Node} (h : (build l).1 = 0) : (build l).2.chain 0 = l ∧ (build l).2.ok ∧ (build l).2.len = 1 ∧ (build l).2.nodes ≤ 40 ∧ (build l).2.hgt ≤ 13 := by
  unfold build at h ⊢
  split at h
  · exact absurd h (by decide)
  · rename_i hl
    rw [if_neg hl]
    simp only [limits, Bool.or_eq_true, decide_eq_true_eq, List.any_eq_true, not_or, not_exists, not_and, Int.not_lt, Nat.not_lt] at hl
    split at h
    · rename_i t ht
      split at h
      · exact absurd h (by decide)
      · rename_i hw
        rw [if_neg hw]
        obtain ⟨a1, ⟨p, a2, a3, a4⟩, a5, a6⟩ := tree_took _ _ _ _ _ ht
        rw [List.append_nil] at a2
        subst a2
        dsimp only
        have h6 := a6 (fun x hx => hl.2 x hx) (fun e => by rw [e] at a1; exact absurd a1 (by simp [F.len]))
        refine ⟨(a4 (by simpa using hw)).symm, a5, a1, by omega, by omega⟩
    · exact absurd h (by decide)
end Fa
end Go.Proofs.YtgnhbccmdpkbiaaDoor
namespace Go.Proofs.YtgnhbccmdpkbiaaDoor
namespace Fa

def F.has (k : Int) : F → Bool
  | .nil => false
  | .link x c r => x.kind == k || c.has k || r.has k
  | .join j r => j.has k || r.has k
/-- The first link of a forest, in preorder, and its cause. -/
def F.first : F → Option (Link × F)
  | .nil => none
  | .link x c _ => some (x, c)
  | .join k r => match k.first with
    | some p => some p
    | none => r.first
def F.root : F → Link
  | .nil => Link.zero
  | .link x .nil _ => x
  | .link _ c _ => c.root
  | .join k _ => k.root
def findL (k : Int) (l : List Node) : Option Link := (l.find? fun x => x.joined == 0 && x.link.kind == k).map (·.link)
def rootL : List Node → Link
  | [] => Link.zero
  | [x] => x.link
  | x :: y :: r => if x.depth < y.depth then rootL (y :: r) else x.link

theorem has_chain (k : Int) (t : F) (d : Int) (hk : t.ok) : t.has k = (t.chain d).any fun x => x.joined == 0 && x.link.kind == k := by
  induction t generalizing d with
  | nil => rfl
  | link x c r ihc ihr =>
    obtain ⟨_, _, h3, h4⟩ := hk
    simp [F.has, F.chain, ihc (d + 1) h3, ihr d h4, Bool.or_assoc]
  | join j r ihc ihr =>
    obtain ⟨h1, _, h3, h4⟩ := hk
    have e : (((j.len : Nat) : Int) == 0) = false := by simp; omega
    simp only [F.has, F.chain, List.any_cons, List.any_append, e, Bool.false_and, Bool.false_or, ihc (d + 1) h3, ihr d h4]
theorem first_some {t : F} (hk : t.ok) (hne : t ≠ .nil) : ∃ p, t.first = some p := by
  induction t with
  | nil => exact absurd rfl hne
  | link x c r _ _ => exact ⟨_, rfl⟩
  | join j r ihc _ =>
    obtain ⟨h1, _, h3, _⟩ := hk
    obtain ⟨p, hp⟩ := ihc h3 (fun e => by rw [e] at h1; exact absurd h1 (by decide))
    exact ⟨p, by simp [F.first, hp]⟩
theorem first_find {t : F} (hk : t.ok) (d : Int) : t.first.map (·.1) = ((t.chain d).find? fun x => x.joined == 0).map (·.link) := by
  induction t generalizing d with
  | nil => rfl
  | link x c r _ _ => simp [F.first, F.chain]
  | join j r ihc ihr =>
    obtain ⟨h1, _, h3, h4⟩ := hk
    have e : (((j.len : Nat) : Int) == 0) = false := by simp; omega
    have hj := ihc h3 (d + 1)
    have hr := ihr h4 d
    simp only [F.first, F.chain, List.find?_cons, e, List.find?_append]
    cases hf : j.first with
    | none =>
      rw [hf] at hj
      simp only [Option.map_none] at hj
      have := Option.map_eq_none_iff.1 hj.symm
      rw [this, hr]; rfl
    | some p =>
      rw [hf] at hj
      obtain ⟨q, hq⟩ : ∃ q, ((j.chain (d + 1)).find? fun x => x.joined == 0) = some q := by
        cases hh : ((j.chain (d + 1)).find? fun x => x.joined == 0) with
        | none => rw [hh] at hj; simp at hj
        | some q => exact ⟨q, rfl⟩
      rw [hq] at hj ⊢
      simpa using hj
theorem root_first {t : F} (hk : t.ok) {x : Link} {c : F} (h : t.first = some (x, c)) : (c = .nil → t.root = x) ∧ (c ≠ .nil → t.root = c.root) := by
  induction t with
  | nil => simp [F.first] at h
  | link y d r _ _ =>
    simp only [F.first, Option.some.injEq, Prod.mk.injEq] at h
    obtain ⟨rfl, rfl⟩ := h
    cases d with
    | nil => simp [F.root]
    | link _ _ _ => simp [F.root]
    | join _ _ => simp [F.root]
  | join j r ihc _ =>
    obtain ⟨h1, _, h3, _⟩ := hk
    obtain ⟨p, hp⟩ := first_some h3 (fun e => by rw [e] at h1; exact absurd h1 (by decide))
    simp only [F.first, hp] at h
    rw [F.root]
    exact ihc h3 (hp.trans h)
theorem first_ok {t : F} (hk : t.ok) {x : Link} {c : F} (h : t.first = some (x, c)) : c.ok ∧ c.len ≤ 1 ∧ okNum x = true ∧ c.nodes < t.nodes := by
  induction t with
  | nil => simp [F.first] at h
  | link y d r _ _ =>
    simp only [F.first, Option.some.injEq, Prod.mk.injEq] at h
    obtain ⟨rfl, rfl⟩ := h
    exact ⟨hk.2.2.1, hk.2.1, hk.1, by simp only [F.nodes]; omega⟩
  | join j r ihc _ =>
    obtain ⟨h1, _, h3, _⟩ := hk
    obtain ⟨p, hp⟩ := first_some h3 (fun e => by rw [e] at h1; exact absurd h1 (by decide))
    simp only [F.first, hp] at h
    have := ihc h3 (hp.trans h)
    exact ⟨this.1, this.2.1, this.2.2.1, by have := this.2.2.2; simp only [F.nodes]; omega⟩
theorem chain_head {t : F} (hne : t ≠ .nil) (d : Int) : ∃ x l, t.chain d = x :: l ∧ x.depth = d := by
  cases t with
  | nil => exact absurd rfl hne
  | link x c r => exact ⟨_, _, rfl, rfl⟩
  | join k r => exact ⟨_, _, rfl, rfl⟩
theorem rootL_chain {t : F} (hk : t.ok) (hne : t ≠ .nil) (d : Int) (rest : List Node) (hr : deeper d rest = false) : rootL (t.chain d ++ rest) = t.root := by
  induction t generalizing d rest with
  | nil => exact absurd rfl hne
  | link x c r ihc ihr =>
    obtain ⟨_, _, h3, h4⟩ := hk
    have h5 : deeper d (r.chain d ++ rest) = false := by
      by_cases e : r = .nil
      · subst e; simpa [F.chain] using hr
      · obtain ⟨y, l, hy, hd⟩ := chain_head e d
        rw [hy]; simp [deeper, hd]
    by_cases e : c = .nil
    · subst e
      show rootL (⟨d, 0, x⟩ :: ([] ++ r.chain d ++ rest)) = x
      rw [List.nil_append]
      cases hl : r.chain d ++ rest with
      | nil => rfl
      | cons y l =>
        rw [hl] at h5
        simp only [deeper, decide_eq_false_iff_not] at h5
        simp [rootL, h5]
    · have h6 : deeper (d + 1) (r.chain d ++ rest) = false := by
        cases hl : r.chain d ++ rest with
        | nil => rfl
        | cons y l =>
          rw [hl] at h5
          simp only [deeper, decide_eq_false_iff_not] at h5 ⊢
          omega
      have := ihc h3 e (d + 1) _ h6
      obtain ⟨y, l, hy, hd⟩ := chain_head e (d + 1)
      show rootL (⟨d, 0, x⟩ :: (c.chain (d + 1) ++ r.chain d ++ rest)) = _
      rw [List.append_assoc]
      rw [hy] at this ⊢
      rw [List.cons_append] at this ⊢
      rw [rootL, if_pos (show d < y.depth by omega), this]
      cases c with
      | nil => exact absurd rfl e
      | link _ _ _ => rfl
      | join _ _ => rfl
  | join j r ihc ihr =>
    obtain ⟨h1, _, h3, h4⟩ := hk
    have h5 : deeper (d + 1) (r.chain d ++ rest) = false := by
      by_cases e : r = .nil
      · subst e
        cases rest with
        | nil => rfl
        | cons y l =>
          simp only [deeper, decide_eq_false_iff_not] at hr
          show decide (d + 1 < y.depth) = false
          simp; omega
      · obtain ⟨y, l, hy, hd⟩ := chain_head e d
        rw [hy]; simp [deeper, hd]; omega
    have e : j ≠ .nil := fun e => by rw [e] at h1; exact absurd h1 (by decide)
    have := ihc h3 e (d + 1) _ h5
    obtain ⟨y, l, hy, hd⟩ := chain_head e (d + 1)
    show rootL (⟨d, _, Link.zero⟩ :: (j.chain (d + 1) ++ r.chain d ++ rest)) = _
    rw [List.append_assoc]
    rw [hy] at this ⊢
    rw [List.cons_append] at this ⊢
    rw [rootL, if_pos (show d < y.depth by omega), this]
    rfl

/-! ### Texts -/
def sOn : List UInt8 := [32, 111, 110, 32]
def sOver : List UInt8 := [32, 111, 118, 101, 114, 32]
def names : List (List UInt8) := [[], [115, 104, 117, 116, 100, 111, 119, 110], [110, 111, 45, 98, 97, 99, 107, 101, 110, 100], [113, 117, 101, 117, 101, 45, 102, 117, 108, 108], [100, 101, 97, 100, 108, 105, 110, 101], [99, 97, 110, 99, 101, 108, 101, 100], [100, 105, 97, 108], [114, 101, 102, 117, 115, 101, 100], [114, 101, 115, 101, 116], [116, 114, 117, 110, 99, 97, 116, 101, 100], [109, 97, 108, 102, 111, 114, 109, 101, 100], [116, 111, 111, 45, 108, 97, 114, 103, 101], [115, 117, 114, 112, 108, 117, 115], [111, 112, 101, 110], [100, 111, 119, 110], [99, 108, 111, 115, 101, 100], [101, 120, 104, 97, 117, 115, 116, 101, 100]]
def nameOf (k : Int) : List UInt8 := names.getD k.toNat []
def txt1 (x : Link) : List UInt8 := x.op.data.toList
def txt2 (x : Link) : List UInt8 := if x.backend = -1 then [] else sOn ++ Go.Lib.itoa x.backend
def txt3 (x : Link) : List UInt8 := if x.conn = 0 then [] else sOver ++ Go.Lib.itoa x.conn
def txtL (x : Link) : List UInt8 := txt1 x ++ txt2 x ++ txt3 x ++ ([58, 32] ++ nameOf x.kind)
def F.txt : F → List UInt8
  | .nil => []
  | .link x c r => txtL x ++ (match c with | .nil => [] | c => [59, 32] ++ c.txt) ++ (match r with | .nil => [] | r => [32, 38, 32] ++ r.txt)
  | .join k r => [40] ++ k.txt ++ [41] ++ (match r with | .nil => [] | r => [32, 38, 32] ++ r.txt)
end Fa
end Go.Proofs.YtgnhbccmdpkbiaaDoor
namespace Go.Proofs.YtgnhbccmdpkbiaaDoor
namespace Fa
/-- The trees of a forest, one by one. -/
def F.kids : F → List F
  | .nil => []
  | .link x c r => .link x c .nil :: r.kids
  | .join k r => .join k .nil :: r.kids
theorem kids_len (t : F) : t.kids.length = t.len := by
  induction t with
  | nil => rfl
  | link x c r _ ih => simp [F.kids, F.len, ih]
  | join k r _ ih => simp [F.kids, F.len, ih]
theorem kids_chain (t : F) (d : Int) : t.chain d = t.kids.flatMap (·.chain d) := by
  induction t with
  | nil => rfl
  | link x c r _ ih => simp [F.kids, F.chain, ih]
  | join k r _ ih => simp [F.kids, F.chain, ih]
theorem kids_nodes (t : F) : ∀ s ∈ t.kids, s.nodes ≤ t.nodes ∧ s.len = 1 ∧ (t.ok → s.ok) := by
  induction t with
  | nil => intro s hs; cases hs
  | link x c r _ ih =>
    intro s hs
    rcases List.mem_cons.1 hs with rfl | hs
    · exact ⟨by simp only [F.nodes]; omega, rfl, fun h => ⟨h.1, h.2.1, h.2.2.1, trivial⟩⟩
    · have := ih s hs
      exact ⟨by simp only [F.nodes]; omega, this.2.1, fun h => this.2.2 h.2.2.2⟩
  | join k r _ ih =>
    intro s hs
    rcases List.mem_cons.1 hs with rfl | hs
    · exact ⟨by simp only [F.nodes]; omega, rfl, fun h => ⟨h.1, h.2.1, h.2.2.1, trivial⟩⟩
    · have := ih s hs
      exact ⟨by simp only [F.nodes]; omega, this.2.1, fun h => this.2.2 h.2.2.2⟩
theorem kids_has (k : Int) (t : F) : t.has k = t.kids.any (·.has k) := by
  induction t with
  | nil => rfl
  | link x c r _ ih => simp [F.kids, F.has, ih]
  | join j r _ ih => simp [F.kids, F.has, ih]
theorem kids_first (t : F) (hk : t.ok) : t.first = (t.kids.head?).bind (·.first) := by
  cases t with
  | nil => rfl
  | link x c r => rfl
  | join j r =>
    obtain ⟨h1, _, h3, _⟩ := hk
    obtain ⟨p, hp⟩ := first_some h3 (fun e => by rw [e] at h1; exact absurd h1 (by decide))
    simp [F.kids, F.first, hp]
end Fa
end Go.Proofs.YtgnhbccmdpkbiaaDoor
namespace Go.Proofs.YtgnhbccmdpkbiaaDoor
namespace Fa
def sumN (k : F) (i : Nat) : Nat := ((k.kids.take i).map (·.nodes)).sum
def maxH : List F → Nat
  | [] => 0
  | t :: l => max t.hgt (maxH l)
theorem maxH_append (l m : List F) : maxH (l ++ m) = max (maxH l) (maxH m) := by
  induction l with
  | nil => simp [maxH]
  | cons t l ih => simp only [List.cons_append, maxH, ih]; omega
theorem sumN_zero (k : F) : sumN k 0 = 0 := rfl
theorem sumN_next (k : F) {i : Nat} (h : i < k.kids.length) : sumN k (i + 1) = sumN k i + k.kids[i].nodes := by
  unfold sumN
  rw [List.take_succ_eq_append_getElem h, List.map_append, List.sum_append]
  rfl
theorem kids_sum (k : F) : (k.kids.map (·.nodes)).sum = k.nodes := by
  induction k with
  | nil => rfl
  | link x c r _ ih => simp only [F.kids, List.map_cons, List.sum_cons, ih, F.nodes]; try omega
  | join j r _ ih => simp only [F.kids, List.map_cons, List.sum_cons, ih, F.nodes]; try omega
theorem sumN_all (k : F) {i : Nat} (h : k.kids.length ≤ i) : sumN k i = k.nodes := by
  unfold sumN; rw [List.take_of_length_le h, kids_sum]
theorem kids_max (k : F) : maxH k.kids = k.hgt := by
  induction k with
  | nil => rfl
  | link x c r _ ih => simp [F.kids, maxH, ih, F.hgt]
  | join j r _ ih => simp [F.kids, maxH, ih, F.hgt]
theorem maxH_next (k : F) {i : Nat} (h : i < k.kids.length) : maxH (k.kids.take (i + 1)) = max (maxH (k.kids.take i)) k.kids[i].hgt := by
  rw [List.take_succ_eq_append_getElem h, maxH_append]
  simp [maxH]
theorem maxH_all (k : F) {i : Nat} (h : k.kids.length ≤ i) : maxH (k.kids.take i) = k.hgt := by
  rw [List.take_of_length_le h, kids_max]
theorem maxH_take (k : F) (i : Nat) : maxH (k.kids.take i) ≤ k.hgt := by
  have h := maxH_append (k.kids.take i) (k.kids.drop i)
  rw [List.take_append_drop, kids_max] at h
  omega
theorem kid_ne {k : F} {i : Nat} (h : i < k.kids.length) : 1 ≤ k.kids[i].nodes ∧ 1 ≤ k.kids[i].hgt ∧ k.kids[i].nodes ≤ k.nodes ∧ k.kids[i].hgt ≤ k.hgt := by
  have h1 := kids_nodes k _ (List.getElem_mem h)
  have h2 := len_le_nodes k.kids[i]
  have h3 : k.kids[i] ≠ .nil := fun e => by rw [e] at h1; exact absurd h1.2.1 (by decide)
  have h4 : 1 ≤ k.kids[i].hgt := by
    revert h3
    cases k.kids[i] with
    | nil => intro h; exact absurd rfl h
    | link _ _ _ => intro _; simp only [F.hgt]; omega
    | join _ _ => intro _; simp only [F.hgt]; omega
  have h5 : ∀ l : List F, ∀ t ∈ l, t.hgt ≤ maxH l := by
    intro l
    induction l with
    | nil => intro t ht; cases ht
    | cons a l ih =>
      intro t ht
      simp only [maxH]
      rcases List.mem_cons.1 ht with rfl | ht
      · omega
      · have := ih t ht; omega
  have h6 := h5 k.kids _ (List.getElem_mem h)
  rw [kids_max] at h6
  exact ⟨by omega, h4, h1.1, h6⟩
end Fa
end Go.Proofs.YtgnhbccmdpkbiaaDoor
namespace Go.Proofs.YtgnhbccmdpkbiaaDoor
namespace Fa
theorem many_snoc (g : List Node → Option (F × List Node)) (q : Nat) (l : List Node) : many g (q + 1) l = match many g q l with
    | none => none
    | some (t, r) => match g r with
      | none => none
      | some (s, r') => some (t.app s, r') := by
  induction q generalizing l with
  | zero =>
    rw [many]
    cases h : g l with
    | none => simp [many, h]
    | some p =>
      obtain ⟨t, r⟩ := p
      simp [many, h, app_nil, F.app]
  | succ q ih =>
    rw [many]
    cases h : g l with
    | none => simp [many, h]
    | some p =>
      obtain ⟨t, r⟩ := p
      simp only
      rw [ih r]
      conv => rhs; rw [many]
      rw [h]
      simp only
      cases h2 : many g q r with
      | none => simp
      | some p2 =>
        obtain ⟨t2, r2⟩ := p2
        simp only
        cases h3 : g r2 with
        | none => simp
        | some p3 =>
          obtain ⟨t3, r3⟩ := p3
          simp [app_assoc]
theorem many_none {g : List Node → Option (F × List Node)} {q n : Nat} {l : List Node} (h : many g q l = none) (hn : q ≤ n) : many g n l = none := by
  obtain ⟨m, rfl⟩ := Nat.exists_eq_add_of_le hn
  clear hn
  induction m with
  | zero => exact h
  | succ m ih => rw [← Nat.add_assoc, many_snoc, ih]
theorem many_stop {g : List Node → Option (F × List Node)} {q n : Nat} {l r : List Node} {t : F} (h : many g q l = some (t, r)) (h2 : g r = none) (hn : q < n) : many g n l = none :=
  many_none (q := q + 1) (by rw [many_snoc, h]; simp [h2]) hn
theorem many_step {g : List Node → Option (F × List Node)} {q : Nat} {l r r' : List Node} {t s : F} (h : many g q l = some (t, r)) (h2 : g r = some (s, r')) : many g (q + 1) l = some (t.app s, r') := by
  rw [many_snoc, h]; simp [h2]
end Fa
end Go.Proofs.YtgnhbccmdpkbiaaDoor
