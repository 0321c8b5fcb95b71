/-
  Layer 3 (faults): the texts of faults, read: what Parse of the program and of the reference compute. No program of its own.
-/
import Derived.Test.YtgnhbccmdpkbiaaGreatDoorFaPlain
namespace Go.Proofs.YtgnhbccmdpkbiaaGreatDoor
namespace Fa

abbrev Str := List UInt8
def pre (p l : Str) : Option Str := if p.isPrefixOf l then some (l.drop p.length) else none
def wordOf (l : Str) : Str := l.takeWhile Wd.nameCh
def wordTl (l : Str) : Str := l.dropWhile Wd.nameCh
def numBad (lo hi : Int) (w : Str) : Bool := decide ((Wd.intOfStr w lo hi).2 = 6) || w.head? == some 45 || (w == [48] && decide (0 < lo))
/-- A number, whether it is out of range, and what is left. -/
def pnum (lo hi : Int) (l : Str) : Option (Int × Bool × Str) :=
  if numBad lo hi (wordOf l) then none else some ((Wd.intOfStr (wordOf l) lo hi).1, decide ((Wd.intOfStr (wordOf l) lo hi).2 ≠ 0), wordTl l)
def popt (p : Str) (lo hi dflt : Int) (l : Str) : Option (Int × Bool × Str) := match pre p l with
  | none => some (dflt, false, l)
  | some r => pnum lo hi r
def kindUpTo (w : Str) : Nat → Nat
  | 0 => 0
  | k + 1 => if k ≠ 0 ∧ names.getD k [] = w then k else kindUpTo w k
def kindOf (w : Str) : Nat := kindUpTo w 17
/-- A link, whether a number of it is out of range, and what is left. -/
def plink (l : Str) : Option (Link × Bool × Str) :=
  if Wd.name (wordOf l) then match popt sOn 0 15 (-1) (wordTl l) with
    | none => none
    | some (b, w1, r1) => match popt sOver 1 1000000000 0 r1 with
      | none => none
      | some (c, w2, r2) => match pre [58, 32] r2 with
        | none => none
        | some r3 => if kindOf (wordOf r3) = 0 then none else some (⟨kindOf (wordOf r3), ⟨(wordOf l).toArray⟩, b, c⟩, w1 || w2, wordTl r3)
  else none
/-- A fault (false), or the faults of a join from its first one on (true). -/
def pp : Nat → Bool → Str → Option (F × Bool × Str)
  | 0, _, _ => none
  | f + 1, false, l => match pre [40] l with
    | some r => match pp f true r with
      | none => none
      | some (k, w, r') => if 1 < k.len then some (.join k .nil, w, r') else none
    | none => match plink l with
      | none => none
      | some (x, w, r) => match pre [59, 32] r with
        | none => some (.link x .nil .nil, w, r)
        | some r2 => match pp f false r2 with
          | none => none
          | some (c, w2, r3) => some (.link x c .nil, w || w2, r3)
  | f + 1, true, l => match pp f false l with
    | none => none
    | some (t, w, r) => match pre [41] r with
      | some r2 => some (t, w, r2)
      | none => match pre [32, 38, 32] r with
        | none => none
        | some r2 => match pp f true r2 with
          | none => none
          | some (k, w2, r3) => some (t.app k, w || w2, r3)
def msr (m : Bool) (l : Str) : Nat := 2 * l.length + (if m then 1 else 0)
def ppT (m : Bool) (l : Str) : Option (F × Bool × Str) := pp (msr m l + 1) m l
/-- A join has more than 8 faults. -/
def F.wideJ : F → Bool
  | .nil => false
  | .link _ c r => c.wideJ || r.wideJ
  | .join k r => decide (8 < k.len) || k.wideJ || r.wideJ
def big (t : F) : Bool := decide (40 < t.nodes) || decide (13 < t.hgt) || t.wideJ
def parse (s : Str) : Int × F := match ppT false s with
  | some (t, w, []) => if w then (7, .nil) else if big t then (3, .nil) else (0, t)
  | _ => (6, .nil)

theorem pre_len {p l r : Str} (h : pre p l = some r) : r.length + p.length = l.length := by
  unfold pre at h
  split at h
  · rename_i hp
    obtain ⟨q, rfl⟩ := List.isPrefixOf_iff_prefix.1 hp
    simp only [Option.some.injEq] at h
    subst h
    simp; omega
  · exact absurd h (by simp)
theorem wordTl_len (l : Str) : (wordTl l).length ≤ l.length := by
  have h := congrArg List.length (List.takeWhile_append_dropWhile (p := Wd.nameCh) (l := l))
  rw [List.length_append] at h
  unfold wordTl
  omega
theorem pnum_len {lo hi : Int} {l r : Str} {n : Int} {w : Bool} (h : pnum lo hi l = some (n, w, r)) : r.length ≤ l.length := by
  unfold pnum at h
  split at h
  · exact absurd h (by simp)
  · simp only [Option.some.injEq, Prod.mk.injEq] at h
    rw [← h.2.2]
    exact wordTl_len l
theorem popt_len {p : Str} {lo hi d : Int} {l r : Str} {n : Int} {w : Bool} (h : popt p lo hi d l = some (n, w, r)) : r.length ≤ l.length := by
  unfold popt at h
  split at h
  · simp only [Option.some.injEq, Prod.mk.injEq] at h
    rw [← h.2.2]
    exact Nat.le_refl _
  · rename_i q hq
    have h1 := pnum_len h
    have h2 := pre_len hq
    omega
theorem plink_len {l r : Str} {x : Link} {w : Bool} (h : plink l = some (x, w, r)) : r.length < l.length := by
  unfold plink at h
  split at h
  · split at h
    · exact absurd h (by simp)
    · rename_i b w1 r1 h1
      split at h
      · exact absurd h (by simp)
      · rename_i c w2 r2 h2
        split at h
        · exact absurd h (by simp)
        · rename_i r3 h3
          split at h
          · exact absurd h (by simp)
          · simp only [Option.some.injEq, Prod.mk.injEq] at h
            have a1 := popt_len h1
            have a2 := popt_len h2
            have a3 := pre_len h3
            have a4 := wordTl_len r3
            have a5 := wordTl_len l
            rw [← h.2.2]
            simp at a3
            omega
  · exact absurd h (by simp)
theorem pp_len : ∀ (f : Nat) (m : Bool) (l r : Str) (t : F) (w : Bool), pp f m l = some (t, w, r) → r.length < l.length := by
  intro f
  induction f with
  | zero => intro m l r t w h; simp [pp] at h
  | succ f ih =>
    intro m l r t w h
    cases m with
    | false =>
      unfold pp at h
      split at h
      · rename_i r1 h1
        split at h
        · exact absurd h (by simp)
        · rename_i k w1 r' h2
          split at h
          · simp only [Option.some.injEq, Prod.mk.injEq] at h
            have := ih _ _ _ _ _ h2
            have := pre_len h1
            rw [← h.2.2]
            omega
          · exact absurd h (by simp)
      · split at h
        · exact absurd h (by simp)
        · rename_i x w1 r1 h2
          have a1 := plink_len h2
          split at h
          · simp only [Option.some.injEq, Prod.mk.injEq] at h
            rw [← h.2.2]
            exact a1
          · rename_i r2 h3
            have a2 := pre_len h3
            split at h
            · exact absurd h (by simp)
            · rename_i c w2 r3 h4
              have a3 := ih _ _ _ _ _ h4
              simp only [Option.some.injEq, Prod.mk.injEq] at h
              rw [← h.2.2]
              omega
    | true =>
      unfold pp at h
      split at h
      · exact absurd h (by simp)
      · rename_i t1 w1 r1 h1
        have a1 := ih _ _ _ _ _ h1
        split at h
        · rename_i r2 h2
          have a2 := pre_len h2
          simp only [Option.some.injEq, Prod.mk.injEq] at h
          rw [← h.2.2]
          omega
        · split at h
          · exact absurd h (by simp)
          · rename_i r2 h3
            have a3 := pre_len h3
            split at h
            · exact absurd h (by simp)
            · rename_i k w2 r3 h4
              have a4 := ih _ _ _ _ _ h4
              simp only [Option.some.injEq, Prod.mk.injEq] at h
              rw [← h.2.2]
              omega
theorem pp_fuel : ∀ (n : Nat) (m : Bool) (l : Str) (f g : Nat), msr m l ≤ n → msr m l < f → msr m l < g → pp f m l = pp g m l := by
  intro n
  induction n using Nat.strongRecOn with
  | ind n ih =>
    intro m l f g hn hf hg
    obtain ⟨f, rfl⟩ : ∃ f', f = f' + 1 := ⟨f - 1, by omega⟩
    obtain ⟨g, rfl⟩ : ∃ g', g = g' + 1 := ⟨g - 1, by omega⟩
    cases m with
    | false =>
      unfold pp
      cases h1 : pre [40] l with
      | some r =>
        have a1 := pre_len h1
        simp only [List.length_cons, List.length_nil] at a1
        simp only [msr, Bool.false_eq_true, if_false] at hn hf hg
        have e := ih (n - 1) (by omega) true r f g (by simp only [msr, if_true]; omega) (by simp only [msr, if_true]; omega) (by simp only [msr, if_true]; omega)
        simp only [e]
      | none =>
        simp only
        cases h2 : plink l with
        | none => rfl
        | some p =>
          obtain ⟨x, w, r⟩ := p
          simp only
          cases h3 : pre [59, 32] r with
          | none => rfl
          | some r2 =>
            have a1 := plink_len h2
            have a2 := pre_len h3
            simp only [List.length_cons, List.length_nil] at a2
            simp only [msr, Bool.false_eq_true, if_false] at hn hf hg
            have e := ih (n - 1) (by omega) false r2 f g (by simp only [msr, Bool.false_eq_true, if_false]; omega) (by simp only [msr, Bool.false_eq_true, if_false]; omega) (by simp only [msr, Bool.false_eq_true, if_false]; omega)
            simp only [e]
    | true =>
      simp only [msr, if_true] at hn hf hg
      have e := ih (n - 1) (by omega) false l f g (by simp only [msr, Bool.false_eq_true, if_false]; omega) (by simp only [msr, Bool.false_eq_true, if_false]; omega) (by simp only [msr, Bool.false_eq_true, if_false]; omega)
      unfold pp
      rw [e]
      cases h1 : pp g false l with
      | none => rfl
      | some p =>
        obtain ⟨t, w, r⟩ := p
        simp only
        cases h2 : pre [41] r with
        | some r2 => rfl
        | none =>
          simp only
          cases h3 : pre [32, 38, 32] r with
          | none => rfl
          | some r2 =>
            have a1 := pp_len _ _ _ _ _ _ h1
            have a2 := pre_len h3
            simp only [List.length_cons, List.length_nil] at a2
            have e2 := ih (n - 1) (by omega) true r2 f g (by simp only [msr, if_true]; omega) (by simp only [msr, if_true]; omega) (by simp only [msr, if_true]; omega)
            simp only [e2]
theorem ppT_of {f : Nat} {m : Bool} {l : Str} (h : msr m l < f) : pp f m l = ppT m l := pp_fuel (msr m l) m l _ _ (Nat.le_refl _) h (Nat.lt_succ_self _)
theorem ppT_len {m : Bool} {l r : Str} {t : F} {w : Bool} (h : ppT m l = some (t, w, r)) : r.length < l.length := pp_len _ _ _ _ _ _ h
theorem ppT_join {l r : Str} (h : pre [40] l = some r) : ppT false l = match ppT true r with
    | none => none
    | some (k, w, r') => if 1 < k.len then some (.join k .nil, w, r') else none := by
  have a1 := pre_len h
  simp only [List.length_cons, List.length_nil] at a1
  rw [ppT, pp, h]
  simp only
  rw [ppT_of (m := true) (l := r) (by simp only [msr, if_true, Bool.false_eq_true, if_false]; omega)]
theorem ppT_link {l : Str} (h : pre [40] l = none) : ppT false l = match plink l with
    | none => none
    | some (x, w, r) => match pre [59, 32] r with
      | none => some (.link x .nil .nil, w, r)
      | some r2 => match ppT false r2 with
        | none => none
        | some (c, w2, r3) => some (.link x c .nil, w || w2, r3) := by
  rw [ppT, pp, h]
  simp only
  cases h2 : plink l with
  | none => rfl
  | some p =>
    obtain ⟨x, w, r⟩ := p
    simp only
    cases h3 : pre [59, 32] r with
    | none => rfl
    | some r2 =>
      have a1 := plink_len h2
      have a2 := pre_len h3
      simp only [List.length_cons, List.length_nil] at a2
      simp only
      rw [ppT_of (m := false) (l := r2) (by simp only [msr, Bool.false_eq_true, if_false]; omega)]
theorem ppT_kids (l : Str) : ppT true l = match ppT false l with
    | none => none
    | some (t, w, r) => match pre [41] r with
      | some r2 => some (t, w, r2)
      | none => match pre [32, 38, 32] r with
        | none => none
        | some r2 => match ppT true r2 with
          | none => none
          | some (k, w2, r3) => some (t.app k, w || w2, r3) := by
  rw [ppT, pp, ppT_of (m := false) (l := l) (by simp only [msr, if_true, Bool.false_eq_true, if_false]; omega)]
  cases h1 : ppT false l with
  | none => rfl
  | some p =>
    obtain ⟨t, w, r⟩ := p
    simp only
    cases h2 : pre [41] r with
    | some r2 => rfl
    | none =>
      simp only
      cases h3 : pre [32, 38, 32] r with
      | none => rfl
      | some r2 =>
        have a1 := ppT_len h1
        have a2 := pre_len h3
        simp only [List.length_cons, List.length_nil] at a2
        simp only
        rw [ppT_of (m := true) (l := r2) (by simp only [msr, if_true]; omega)]

/-- What a tree has that was read: names, kinds, joins of two faults or more. -/
def F.read : F → Prop
  | .nil => True
  | .link x c r => okName x = true ∧ c.len ≤ 1 ∧ c.read ∧ r.read
  | .join k r => 2 ≤ k.len ∧ k.read ∧ r.read
def F.nums : F → Prop
  | .nil => True
  | .link x c r => okNum x = true ∧ c.nums ∧ r.nums
  | .join k r => k.nums ∧ r.nums
theorem app_read (t s : F) : (t.app s).read ↔ t.read ∧ s.read := by
  induction t with
  | nil => simp [F.app, F.read]
  | link x c r _ ih => simp [F.app, F.read, ih, and_assoc]
  | join k r _ ih => simp [F.app, F.read, ih, and_assoc]
theorem app_nums (t s : F) : (t.app s).nums ↔ t.nums ∧ s.nums := by
  induction t with
  | nil => simp [F.app, F.nums]
  | link x c r _ ih => simp [F.app, F.nums, ih, and_assoc]
  | join k r _ ih => simp [F.app, F.nums, ih, and_assoc]
theorem app_wideJ (t s : F) : (t.app s).wideJ = (t.wideJ || s.wideJ) := by
  induction t with
  | nil => simp [F.app, F.wideJ]
  | link x c r _ ih => simp [F.app, F.wideJ, ih, Bool.or_assoc]
  | join k r _ ih => simp [F.app, F.wideJ, ih, Bool.or_assoc]
theorem read_ok {t : F} (h1 : t.read) (h2 : t.nums) (h3 : t.wideJ = false) : t.ok := by
  induction t with
  | nil => trivial
  | link x c r ihc ihr =>
    simp only [F.wideJ, Bool.or_eq_false_iff] at h3
    exact ⟨h2.1, h1.2.1, ihc h1.2.2.1 h2.2.1 h3.1, ihr h1.2.2.2 h2.2.2 h3.2⟩
  | join k r ihc ihr =>
    simp only [F.wideJ, Bool.or_eq_false_iff, decide_eq_false_iff_not, Nat.not_lt] at h3
    exact ⟨h1.1, h3.1.1, ihc h1.2.1 h2.1 h3.1.2, ihr h1.2.2 h2.2 h3.2⟩
theorem kindUpTo_lt (w : Str) (n : Nat) : kindUpTo w n ≤ n - 1 := by
  induction n with
  | zero => exact Nat.le_refl _
  | succ k ih =>
    unfold kindUpTo
    split <;> omega
theorem kindOf_lt (w : Str) : kindOf w < 17 := by
  have := kindUpTo_lt w 17
  unfold kindOf
  omega
theorem int_zero {w : Str} {lo hi : Int} (h : (Wd.intOfStr w lo hi).2 = 0) : lo ≤ (Wd.intOfStr w lo hi).1 ∧ (Wd.intOfStr w lo hi).1 ≤ hi := by
  unfold Wd.intOfStr at h ⊢
  split
  · rename_i hd
    rw [if_pos hd] at h
    split
    · rename_i hr; exact ⟨hr.2.2.1, hr.2.2.2⟩
    · rename_i hr; rw [if_neg hr] at h; exact absurd h (by decide)
  · rename_i hd
    rw [if_neg hd] at h
    exact absurd h (by decide)
theorem popt_in {p : Str} {lo hi d : Int} {l r : Str} {n : Int} (h : popt p lo hi d l = some (n, false, r)) : n = d ∨ lo ≤ n ∧ n ≤ hi := by
  unfold popt at h
  split at h
  · simp only [Option.some.injEq, Prod.mk.injEq] at h
    exact .inl h.1.symm
  · unfold pnum at h
    split at h
    · exact absurd h (by simp)
    · simp only [Option.some.injEq, Prod.mk.injEq, decide_eq_false_iff_not, Decidable.not_not] at h
      have := int_zero h.2.1
      rw [h.1] at this
      exact .inr this
theorem plink_ok {l r : Str} {x : Link} {w : Bool} (h : plink l = some (x, w, r)) : okName x = true ∧ (w = false → okNum x = true) := by
  unfold plink at h
  split at h
  · rename_i hn
    split at h
    · exact absurd h (by simp)
    · rename_i b w1 r1 h1
      split at h
      · exact absurd h (by simp)
      · rename_i c w2 r2 h2
        split at h
        · exact absurd h (by simp)
        · rename_i r3 h3
          split at h
          · exact absurd h (by simp)
          · rename_i hk
            simp only [Option.some.injEq, Prod.mk.injEq] at h
            obtain ⟨rfl, rfl, _⟩ := h
            refine ⟨hn, fun hw => ?_⟩
            simp only [Bool.or_eq_false_iff] at hw
            obtain ⟨rfl, rfl⟩ := hw
            have a1 := popt_in h1
            have a2 := popt_in h2
            have a3 := kindOf_lt (wordOf r3)
            simp only [okNum, Bool.and_eq_true, decide_eq_true_eq]
            refine ⟨⟨⟨⟨⟨?_, ?_⟩, ?_⟩, ?_⟩, ?_⟩, ?_⟩ <;> omega
  · exact absurd h (by simp)
theorem pp_ok : ∀ (f : Nat) (m : Bool) (l r : Str) (t : F) (w : Bool), pp f m l = some (t, w, r) → (m = false → t.len = 1) ∧ 1 ≤ t.len ∧ t.read ∧ (w = false → t.nums) := by
  intro f
  induction f with
  | zero => intro m l r t w h; simp [pp] at h
  | succ f ih =>
    intro m l r t w h
    cases m with
    | false =>
      unfold pp at h
      split at h
      · rename_i r1 h1
        split at h
        · exact absurd h (by simp)
        · rename_i k w1 r' h2
          split at h
          · rename_i hk
            simp only [Option.some.injEq, Prod.mk.injEq] at h
            obtain ⟨rfl, rfl, rfl⟩ := h
            obtain ⟨_, _, a3, a4⟩ := ih _ _ _ _ _ h2
            exact ⟨fun _ => rfl, Nat.le_refl _, ⟨hk, a3, trivial⟩, fun hw => ⟨a4 hw, trivial⟩⟩
          · exact absurd h (by simp)
      · split at h
        · exact absurd h (by simp)
        · rename_i x w1 r1 h2
          obtain ⟨a1, a2⟩ := plink_ok h2
          split at h
          · simp only [Option.some.injEq, Prod.mk.injEq] at h
            obtain ⟨rfl, rfl, rfl⟩ := h
            exact ⟨fun _ => rfl, Nat.le_refl _, ⟨a1, Nat.zero_le _, trivial, trivial⟩, fun hw => ⟨a2 hw, trivial, trivial⟩⟩
          · rename_i r2 h3
            split at h
            · exact absurd h (by simp)
            · rename_i c w2 r3 h4
              obtain ⟨b1, b2, b3, b4⟩ := ih _ _ _ _ _ h4
              simp only [Option.some.injEq, Prod.mk.injEq] at h
              obtain ⟨rfl, rfl, rfl⟩ := h
              refine ⟨fun _ => rfl, Nat.le_refl _, ⟨a1, Nat.le_of_eq (b1 rfl), b3, trivial⟩, fun hw => ?_⟩
              simp only [Bool.or_eq_false_iff] at hw
              exact ⟨a2 hw.1, b4 hw.2, trivial⟩
    | true =>
      unfold pp at h
      split at h
      · exact absurd h (by simp)
      · rename_i t1 w1 r1 h1
        obtain ⟨a1, a2, a3, a4⟩ := ih _ _ _ _ _ h1
        split at h
        · simp only [Option.some.injEq, Prod.mk.injEq] at h
          obtain ⟨rfl, rfl, rfl⟩ := h
          exact ⟨fun h => absurd h (by simp), a2, a3, a4⟩
        · split at h
          · exact absurd h (by simp)
          · split at h
            · exact absurd h (by simp)
            · rename_i k w2 r3 h4
              obtain ⟨b1, b2, b3, b4⟩ := ih _ _ _ _ _ h4
              simp only [Option.some.injEq, Prod.mk.injEq] at h
              obtain ⟨rfl, rfl, rfl⟩ := h
              refine ⟨fun h => absurd h (by simp), by rw [app_len]; omega, (app_read _ _).2 ⟨a3, b3⟩, fun hw => ?_⟩
              simp only [Bool.or_eq_false_iff] at hw
              exact (app_nums _ _).2 ⟨a4 hw.1, b4 hw.2⟩
theorem parse_ok {s : Str} {t : F} {r : Str} {w : Bool} (h : ppT false s = some (t, w, r)) : t.len = 1 ∧ t.read ∧ (w = false → t.nums) := by
  obtain ⟨a1, _, a3, a4⟩ := pp_ok _ _ _ _ _ _ h
  exact ⟨a1 rfl, a3, a4⟩

/-- The chain of a tree is read back as the tree. -/
theorem deeper_chain {t : F} {d : Int} {rest : List Node} (h : deeper d rest = false) : deeper d (t.chain d ++ rest) = false := by
  by_cases e : t = .nil
  · subst e; exact h
  · obtain ⟨y, l, hy, hd⟩ := chain_head e d
    rw [hy]
    simp [deeper, hd]
theorem deeper_up {d : Int} {rest : List Node} (h : deeper d rest = false) : deeper (d + 1) rest = false := by
  cases rest with
  | nil => rfl
  | cons y l =>
    simp only [deeper, decide_eq_false_iff_not] at h ⊢
    omega
theorem many_one {g : List Node → Option (F × List Node)} {l r : List Node} {t : F} (h : many g 1 l = some (t, r)) : g l = some (t, r) := by
  unfold many at h
  cases hg : g l with
  | none => rw [hg] at h; exact absurd h (by simp)
  | some p =>
    obtain ⟨s, q⟩ := p
    rw [hg] at h
    simp only [many, Option.some.injEq, Prod.mk.injEq] at h
    rw [app_nil] at h
    rw [h.1, h.2]
theorem tree_chain {t : F} (h1 : t.read) (h2 : t.nums) (h3 : t.wideJ = false) : ∀ (f : Nat) (d : Int) (rest : List Node), t.nodes < f → deeper d rest = false → many (tree f d) t.len (t.chain d ++ rest) = some (t, rest) := by
  induction t with
  | nil => intro f d rest _ _; rfl
  | link x c r ihc ihr =>
    intro f d rest hf hd
    simp only [F.wideJ, Bool.or_eq_false_iff] at h3
    simp only [F.nodes] at hf
    obtain ⟨f, rfl⟩ : ∃ f', f = f' + 1 := ⟨f - 1, by omega⟩
    have hd2 : deeper d (r.chain d ++ rest) = false := deeper_chain hd
    have hr := ihr h1.2.2.2 h2.2.2 h3.2 (f + 1) d rest (by omega) hd
    have ht : tree (f + 1) d (⟨d, 0, x⟩ :: (c.chain (d + 1) ++ (r.chain d ++ rest))) = some (.link x c .nil, r.chain d ++ rest) := by
      rw [tree, if_pos rfl, if_pos rfl, if_pos h1.1]
      have hfx : fix x = x := by unfold fix; rw [if_pos h2.1]
      by_cases e : c = .nil
      · subst e
        show (if deeper d (r.chain d ++ rest) = true then _ else _) = _
        rw [hd2, if_neg (by simp), hfx]
        rfl
      · have hcl : c.len = 1 := by
          have := h1.2.1
          cases c with
          | nil => exact absurd rfl e
          | link _ _ _ => simp only [F.len] at this ⊢; omega
          | join _ _ => simp only [F.len] at this ⊢; omega
        have hc := ihc h1.2.2.1 h2.2.1 h3.1 f (d + 1) (r.chain d ++ rest) (by omega) (deeper_up hd2)
        rw [hcl] at hc
        have hdp : deeper d (c.chain (d + 1) ++ (r.chain d ++ rest)) = true := by
          obtain ⟨y, l, hy, hd3⟩ := chain_head e (d + 1)
          rw [hy]
          simp only [List.cons_append, deeper, decide_eq_true_eq]
          omega
        rw [hdp, if_pos rfl, many_one hc, hfx]
    show many (tree (f + 1) d) (r.len + 1) (⟨d, 0, x⟩ :: (c.chain (d + 1) ++ r.chain d ++ rest)) = _
    rw [List.append_assoc, many, ht]
    simp only
    rw [hr]
    rfl
  | join k r ihc ihr =>
    intro f d rest hf hd
    simp only [F.wideJ, Bool.or_eq_false_iff, decide_eq_false_iff_not, Nat.not_lt] at h3
    simp only [F.nodes] at hf
    obtain ⟨f, rfl⟩ : ∃ f', f = f' + 1 := ⟨f - 1, by omega⟩
    have hd2 : deeper d (r.chain d ++ rest) = false := deeper_chain hd
    have hr := ihr h1.2.2 h2.2 h3.2 (f + 1) d rest (by omega) hd
    have hk := ihc h1.2.1 h2.1 h3.1.2 f (d + 1) (r.chain d ++ rest) (by omega) (deeper_up hd2)
    have h2k := h1.1
    have ht : tree (f + 1) d (⟨d, k.len, Link.zero⟩ :: (k.chain (d + 1) ++ (r.chain d ++ rest))) = some (.join k .nil, r.chain d ++ rest) := by
      have hb : badJoin ⟨d, k.len, Link.zero⟩ = false := by
        have e2 : ¬ ((k.len : Nat) : Int) < 2 := by omega
        have e3 : ¬ (8 : Int) < ((k.len : Nat) : Int) := by omega
        simp [badJoin, e2, e3, isZero]
      rw [tree, if_pos rfl, if_neg (show ¬ ((k.len : Nat) : Int) = 0 by omega), if_neg (by rw [hb]; simp)]
      show (match many (tree f (d + 1)) ((k.len : Nat) : Int).toNat _ with | none => none | some (k, r) => some (F.join k .nil, r)) = _
      rw [Int.toNat_natCast, hk]
    show many (tree (f + 1) d) (r.len + 1) (⟨d, k.len, Link.zero⟩ :: (k.chain (d + 1) ++ r.chain d ++ rest)) = _
    rw [List.append_assoc, many, ht]
    simp only
    rw [hr]
    rfl
theorem chain_below (t : F) (d : Int) : ∀ x ∈ t.chain d, x.depth ≤ d + t.hgt - 1 := by
  induction t generalizing d with
  | nil => intro x hx; cases hx
  | link y c r ihc ihr =>
    intro x hx
    simp only [F.chain, List.mem_cons, List.mem_append] at hx
    simp only [F.hgt]
    rcases hx with rfl | hx | hx
    · show d ≤ _
      omega
    · have := ihc (d + 1) x hx
      omega
    · have := ihr d x hx
      omega
  | join k r ihc ihr =>
    intro x hx
    simp only [F.chain, List.mem_cons, List.mem_append] at hx
    simp only [F.hgt]
    rcases hx with rfl | hx | hx
    · show d ≤ _
      omega
    · have := ihc (d + 1) x hx
      omega
    · have := ihr d x hx
      omega
theorem chain_wide {t : F} (h1 : t.read) (h2 : t.nums) (d : Int) : (t.chain d).any wideN = false := by
  induction t generalizing d with
  | nil => rfl
  | link x c r ihc ihr => simp [F.chain, wideN, h2.1, ihc h1.2.2.1 h2.2.1 (d + 1), ihr h1.2.2.2 h2.2.2 d]
  | join k r ihc ihr =>
    have e : (((k.len : Nat) : Int) == 0) = false := by
      have := h1.1
      simp; omega
    simp [F.chain, wideN, e, ihc h1.2.1 h2.1 (d + 1), ihr h1.2.2 h2.2 d]
/-- Build of the chain of a tree that was read, and that exceeds no limit. -/
theorem build_chain {t : F} (hl : t.len = 1) (h1 : t.read) (h2 : t.nums) (hb : big t = false) : build (t.chain 0) = (0, t) := by
  simp only [big, Bool.or_eq_false_iff, decide_eq_false_iff_not, Nat.not_lt] at hb
  have h := tree_chain h1 h2 hb.2 ((t.chain 0).length + 1) 0 [] (by rw [chain_length]; omega) rfl
  rw [hl, List.append_nil] at h
  have hlim : limits (t.chain 0) = false := by
    unfold limits
    rw [Bool.or_eq_false_iff]
    refine ⟨by rw [chain_length]; simpa using hb.1.1, ?_⟩
    rw [List.any_eq_false]
    intro x hx
    have := chain_below t 0 x hx
    simp only [decide_eq_true_eq]
    omega
  unfold build
  rw [if_neg (by rw [hlim]; simp), many_one h]
  simp only
  rw [if_neg (by rw [chain_wide h1 h2]; simp)]
end Fa
end Go.Proofs.YtgnhbccmdpkbiaaGreatDoor
