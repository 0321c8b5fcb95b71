/-
  Layer 3 (faults): the texts of faults, read: what Parse of the program and of the reference compute. No program of its own.
-/
import Derived.Test.YtgnhbccmdpkbiaaGreatDoorFaPlain
namespace Go.Proofs.YtgnhbccmdpkbiaaGreatDoor
namespace Fa

abbrev Str := List UInt8
def pre (p l : Str) : Option Str := if p.isPrefixOf l then some (l.drop p.length) else none
def wordOf (l : Str) : Str := l.takeWhile Wd.nameCh
def wordTl (l : Str) : Str := l.dropWhile Wd.nameCh
def numBad (lo hi : Int) (w : Str) : Bool := decide ((Wd.intOfStr w lo hi).2 = 6) || w.head? == some 45 || (w == [48] && decide (0 < lo))
/-- A number, whether it is out of range, and what is left. -/
def pnum (lo hi : Int) (l : Str) : Option (Int × Bool × Str) :=
  if numBad lo hi (wordOf l) then none else some ((Wd.intOfStr (wordOf l) lo hi).1, decide ((Wd.intOfStr (wordOf l) lo hi).2 ≠ 0), wordTl l)
def popt (p : Str) (lo hi dflt : Int) (l : Str) : Option (Int × Bool × Str) := match pre p l with
  | none => some (dflt, false, l)
  | some r => pnum lo hi r
def kindUpTo (w : Str) : Nat → Nat
  | 0 => 0
  | k + 1 => if k ≠ 0 ∧ names.getD k [] = w then k else kindUpTo w k
def kindOf (w : Str) : Nat := kindUpTo w 17
/-- A link, whether a number of it is out of range, and what is left. -/
def plink (l : Str) : Option (Link × Bool × Str) :=
  if Wd.name (wordOf l) then match popt sOn 0 15 (-1) (wordTl l) with
    | none => none
    | some (b, w1, r1) => match popt sOver 1 1000000000 0 r1 with
      | none => none
      | some (c, w2, r2) => match pre [58, 32] r2 with
        | none => none
        | some r3 => if kindOf (wordOf r3) = 0 then none else some (⟨kindOf (wordOf r3), ⟨(wordOf l).toArray⟩, b, c⟩, w1 || w2, wordTl r3)
  else none
/-- A fault (false), or the faults of a join from its first one on (true). -/
def pp : Nat → Bool → Str → Option (F × Bool × Str)
  | 0, _, _ => none
  | f + 1, false, l => match pre [40] l with
    | some r => match pp f true r with
      | none => none
      | some (k, w, r') => if 1 < k.len then some (.join k .nil, w, r') else none
    | none => match plink l with
      | none => none
      | some (x, w, r) => match pre [59, 32] r with
        | none => some (.link x .nil .nil, w, r)
        | some r2 => match pp f false r2 with
          | none => none
          | some (c, w2, r3) => some (.link x c .nil, w || w2, r3)
  | f + 1, true, l => match pp f false l with
    | none => none
    | some (t, w, r) => match pre [41] r with
      | some r2 => some (t, w, r2)
      | none => match pre [32, 38, 32] r with
        | none => none
        | some r2 => match pp f true r2 with
          | none => none
          | some (k, w2, r3) => some (t.app k, w || w2, r3)
def msr (m : Bool) (l : Str) : Nat := 2 * l.length + (if m then 1 else 0)
def ppT (m : Bool) (l : Str) : Option (F × Bool × Str) := pp (msr m l + 1) m l
/-- A join has more than 8 faults. -/
def F.wideJ : F → Bool
  | .nil => false
  | .link _ c r => c.wideJ || r.wideJ
  | .join k r => decide (8 < k.len) || k.wideJ || r.wideJ
def big (t : F) : Bool := decide (40 < t.nodes) || decide (13 < t.hgt) || t.wideJ
def parse (s : Str) : Int × F := match ppT false s with
  | some (t, w, []) => if w then (7, .nil) else if big t then (3, .nil) else (0, t)
  | _ => (6, .nil)

theorem pre_len {p l r : Str} (h : pre p l = some r) : r.length + p.length = l.length := by
  unfold pre at h
  split at h
  · rename_i hp
    obtain ⟨q, rfl⟩ := List.isPrefixOf_iff_prefix.1 hp
    simp only [Option.some.injEq] at h
    subst h
    simp; omega
  · exact absurd h (by simp)
theorem wordTl_len (l : Str) : (wordTl l).length ≤ l.length := by
  have h := congrArg List.length (List.takeWhile_append_dropWhile (p := Wd.nameCh) (l := l))
  rw [List.length_append] at h
  unfold wordTl
  omega
theorem pnum_len {lo hi : Int} {l r : Str} {n : Int} {w : Bool} (h : pnum lo hi l = some (n, w, r)) : r.length ≤ l.length := by
  unfold pnum at h
  split at h
  · exact absurd h (by simp)
  · simp only [Option.some.injEq, Prod.mk.injEq] at h
    rw [← h.2.2]
    exact wordTl_len l
theorem popt_len {p : Str} {lo hi d : Int} {l r : Str} {n : Int} {w : Bool} (h : popt p lo hi d l = some (n, w, r)) : r.length ≤ l.length := by
  unfold popt at h
  split at h
  · simp only [Option.some.injEq, Prod.mk.injEq] at h
    rw [← h.2.2]
    exact Nat.le_refl _
  · rename_i q hq
    have h1 := pnum_len h
    have h2 := pre_len hq
    omega
theorem plink_len {l r : Str} {x : Link} {w : Bool} (h : plink l = some (x, w, r)) : r.length < l.length := by
  unfold plink at h
  split at h
  · split at h
    · exact absurd h (by simp)
    · rename_i b w1 r1 h1
      split at h
      · exact absurd h (by simp)
      · rename_i c w2 r2 h2
        split at h
        · exact absurd h (by simp)
        · rename_i r3 h3
          split at h
          · exact absurd h (by simp)
          · simp only [Option.some.injEq, Prod.mk.injEq] at h
            have a1 := popt_len h1
            have a2 := popt_len h2
            have a3 := pre_len h3
            have a4 := wordTl_len r3
            have a5 := wordTl_len l
            rw [← h.2.2]
            simp at a3
            omega
  · exact absurd h (by simp)
theorem pp_len : ∀ (f : Nat) (m : Bool) (l r : Str) (t : F) (w : Bool), pp f m l = some (t, w, r) → r.length < l.length := by
  intro f
  induction f with
  | zero => intro m l r t w h; simp [pp] at h
  | succ f ih =>
    intro m l r t w h
    cases m with
    | false =>
      unfold pp at h
      split at h
      · rename_i r1 h1
        split at h
        · exact absurd h (by simp)
        · rename_i k w1 r' h2
          split at h
          · simp only [Option.some.injEq, Prod.mk.injEq] at h
            have := ih _ _ _ _ _ h2
            have := pre_len h1
            rw [← h.2.2]
            omega
          · exact absurd h (by simp)
      · split at h
        · exact absurd h (by simp)
        · rename_i x w1 r1 h2
          have a1 := plink_len h2
          split at h
          · simp only [Option.some.injEq, Prod.mk.injEq] at h
            rw [← h.2.2]
            exact a1
          · rename_i r2 h3
            have a2 := pre_len h3
            split at h
            · exact absurd h (by simp)
            · rename_i c w2 r3 h4
              have a3 := ih _ _ _ _ _ h4
              simp only [Option.some.injEq, Prod.mk.injEq] at h
              rw [← h.2.2]
              omega
    | true =>
      unfold pp at h
      split at h
      · exact absurd h (by simp)
      · rename_i t1 w1 r1 h1
        have a1 := ih _ _ _ _ _ h1
        split at h
        · rename_i r2 h2
          have a2 := pre_len h2
          simp only [Option.some.injEq, Prod.mk.injEq] at h
          rw [← h.2.2]
          omega
        · split at h
          · exact absurd h (by simp)
          · rename_i r2 h3
            have a3 := pre_len h3
            split at h
            · exact absurd h (by simp)
            · rename_i k w2 r3 h4
              have a4 := ih _ _ _ _ _ h4
              simp only [Option.some.injEq, Prod.mk.injEq] at h
              rw [← h.2.2]
              omega
theorem pp_fuel : ∀ (n : Nat) (m : Bool) (l : Str) (f g : Nat), msr m l ≤ n → msr m l < f → msr m l < g → pp f m l = pp g m l := by
  intro n
  induction n using Nat.strongRecOn with
  | ind n ih =>
    intro m l f g hn hf hg
    obtain ⟨f, rfl⟩ : ∃ f', f = f' + 1 := ⟨f - 1, by omega⟩
    obtain ⟨g, rfl⟩ : ∃ g', g = g' + 1 := ⟨g - 1, by omega⟩
    cases m with
    | false =>
      unfold pp
      cases h1 : pre [40] l with
      | some r =>
        have a1 := pre_len h1
        simp only [List.length_cons, List.length_nil] at a1
        simp only [msr, Bool.false_eq_true, if_false] at hn hf hg
        have e := ih (n - 1) (by omega) true r f g (by simp only [msr, if_true]; omega) (by simp only [msr, if_true]; omega) (by simp only [msr, if_true]; omega)
        simp only [e]
      | none =>
        simp only
        cases h2 : plink l with
        | none => rfl
        | some p =>
          obtain ⟨x, w, r⟩ := p
          simp only
          cases h3 : pre [59, 32] r with
          | none => rfl
          | some r2 =>
            have a1 := plink_len h2
            have a2 := pre_len h3
            simp only [List.length_cons, List.length_nil] at a2
            simp only [msr, Bool.false_eq_true, if_false] at hn hf hg
            have e := ih (n - 1) (by omega) false r2 f g (by simp only [msr, Bool.false_eq_true, if_false]; omega) (by simp only [msr, Bool.false_eq_true, if_false]; omega) (by simp only [msr, Bool.false_eq_true, if_false]; omega)
            simp only [e]
    | true =>
      simp only [msr, if_true] at hn hf hg
      have e := ih (n - 1) (by omega) false l f g (by simp only [msr, Bool.false_eq_true, if_false]; omega) (by simp only [msr, Bool.false_eq_true, if_false]; omega) (by simp only [msr, Bool.false_eq_true, if_false]; omega)
      unfold pp
      rw [e]
      cases h1 : pp g false l with
      | none => rfl
      | some p =>
        obtain ⟨t, w, r⟩ := p
        simp only
        cases h2 : pre [41] r with
        | some r2 => rfl
        | none =>
          simp only
          cases h3 : pre [32, 38, 32] r with
          | none => rfl
          | some r2 =>
            have a1 := pp_len _ _ _ _ _ _ h1
            have a2 := pre_len h3
            simp only [List.length_cons, List.length_nil] at a2
            have e2 := ih (n - 1) (by omega) true r2 f g (by simp only [msr, if_true]; omega) (by simp only [msr, if_true]; omega) (by simp only [msr, if_true]; omega)
            simp only [e2]
theorem ppT_of {f : Nat} {m : Bool} {l : Str} (h : msr m l < f) : pp f m l = ppT m l := pp_fuel (msr m l) m l _ _ (Nat.le_refl _) h (Nat.lt_succ_self _)
theorem ppT_len {m : Bool} {l r : Str} {t : F} {w : Bool} (h : ppT m l = some (t, w, r)) : r.length < l.length := pp_len _ _ _ _ _ _ h
theorem ppT_join {l r : Str} (h : pre [40] l = some r) : ppT false l = match ppT true r with
    | none => none
    | some (k, w, r') => if 1 < k.len then some (.join k .nil, w, r') else none := by
  have a1 := pre_len h
  simp only [List.length_cons, List.length_nil] at a1
  rw [ppT, pp, h]
  simp only
  rw [ppT_of (m := true) (l := r) (by simp only [msr, if_true, Bool.false_eq_true, if_false]; omega)]
theorem ppT_link {l : Str} (h : pre [40] l = none) : ppT false l = match plink l with
    | none => none
    | some (x, w, r) => match pre [59, 32] r with
      | none => some (.link x .nil .nil, w, r)
      | some r2 => match ppT false r2 with
        | none => none
        | some (c, w2, r3) => some (.link x c .nil, w || w2, r3) := by
  rw [ppT, pp, h]
  simp only
  cases h2 : plink l with
  | none => rfl
  | some p =>
    obtain ⟨x, w, r⟩ := p
    simp only
    cases h3 : pre [59, 32] r with
    | none => rfl
    | some r2 =>
      have a1 := plink_len h2
      have a2 := pre_len h3
      simp only [List.length_cons, List.length_nil] at a2
      simp only
      rw [ppT_of (m := false) (l := r2) (by simp only [msr, Bool.false_eq_true, if_false]; omega)]
theorem ppT_kids (l : Str) : ppT true l = match ppT false l with
    | none => none
    | some (t, w, r) => match pre [41] r with
      | some r2 => some (t, w, r2)
      | none => match pre [32, 38, 32] r with
        | none => none
        | some r2 => match ppT true r2 with
          | none => none
          | some (k, w2, r3) => some (t.app k, w || w2, r3) := by
  rw [ppT, pp, ppT_of (m := false) (l := l) (by simp only [msr, if_true, Bool.false_eq_true, if_false]; omega)]
  cases h1 : ppT false l with
  | none => rfl
  | some p =>
    obtain ⟨t, w, r⟩ := p
    simp only
    cases h2 : pre [41] r with
    | some r2 => rfl
    | none =>
      simp only
      cases h3 : pre [32, 38, 32] r with
      | none => rfl
      | some r2 =>
        have a1 := ppT_len h1
        have a2 := pre_len h3
        simp only [List.length_cons, List.length_nil] at a2
        simp only
        rw [ppT_of (m := true) (l := r2) (by simp only [msr, if_true]; omega)]

/-- What a tree has that was read: names, kinds, joins of two faults or more. -/
def F.read : F → Prop
  | .nil => True
  | .link x c r => okName x = true ∧ c.len ≤ 1 ∧ c.read ∧ r.read
  | .join k r => 2 ≤ k.len ∧ k.read ∧ r.read
def F.nums : F → Prop
  | .nil => True
  | .link x c r => okNum x = true ∧ c.nums ∧ r.nums
  | .join k r => k.nums ∧ r.nums
theorem app_read (t s : F) : (t.app s).read ↔ t.read ∧ s.read := by
  induction t with
  | nil => simp [F.app, F.read]
  | link x c r _ ih => simp [F.app, F.read, ih, and_assoc]
  | join k r _ ih => simp [F.app, F.read, ih, and_assoc]
theorem app_nums (t s : F) : (t.app s).nums ↔ t.nums ∧ s.nums := by
  induction t with
  | nil => simp [F.app, F.nums]
  | link x c r _ ih => simp [F.app, F.nums, ih, and_assoc]
  | join k r _ ih => simp [F.app, F.nums, ih, and_assoc]
theorem app_wideJ (t s : F) : (t.app s).wideJ = (t.wideJ || s.wideJ) := by
  induction t with
  | nil => simp [F.app, F.wideJ]
  | link x c r _ ih => simp [F.app, F.wideJ, ih, Bool.or_assoc]
  | join k r _ ih => simp [F.app, F.wideJ, ih, Bool.or_assoc]
theorem read_ok {t : F} (h1 : t.read) (h2 : t.nums) (h3 : t.wideJ = false) : t.ok := by
  induction t with
  | nil => trivial
  | link x c r ihc ihr =>
    simp only [F.wideJ, Bool.or_eq_false_iff] at h3
    exact ⟨h2.1, h1.2.1, ihc h1.2.2.1 h2.2.1 h3.1, ihr h1.2.2.2 h2.2.2 h3.2⟩
  | join k r ihc ihr =>
    simp only [F.wideJ, Bool.or_eq_false_iff, decide_eq_false_iff_not, Nat.not_lt] at h3
    exact ⟨h1.1, h3.1.1, ihc h1.2.1 h2.1 h3.1.2, ihr h1.2.2 h2.2 h3.2⟩
theorem kindUpTo_lt (w : Str) (n : Nat) : kindUpTo w n ≤ n - 1 := by
  induction n with
  | zero => exact Nat.le_refl _
  | succ k ih =>
    unfold kindUpTo
    split <;> omega
theorem kindOf_lt (w : Str) : kindOf w < 17 := by
  have := kindUpTo_lt w 17
  unfold kindOf
  omega
theorem int_zero {w : Str} {lo hi : Int} (h : (Wd.intOfStr w lo hi).2 = 0) : lo ≤ (Wd.intOfStr w lo hi).1 ∧ (Wd.intOfStr w lo hi).1 ≤ hi := by
  unfold Wd.intOfStr at h ⊢
  split
  · rename_i hd
    rw [if_pos hd] at h
    split
    · rename_i hr; exact ⟨hr.2.2.1, hr.2.2.2⟩
    · rename_i hr; rw [if_neg hr] at h; exact absurd h (by decide)
  · rename_i hd
    rw [if_neg hd] at h
    exact absurd h (by decide)
theorem popt_in {p : Str} {lo hi d : Int} {l r : Str} {n : Int} (h : popt p lo hi d l = some (n, false, r)) : n = d ∨ lo ≤ n ∧ n ≤ hi := by
  unfold popt at h
  split at h
  · simp only [Option.some.injEq, Prod.mk.injEq] at h
    exact .inl h.1.symm
  · unfold pnum at h
    split at h
    · exact absurd h (by simp)
    · simp only [Option.some.injEq, Prod.mk.injEq, decide_eq_false_iff_not, Decidable.not_not] at h
      have := int_zero h.2.1
      rw [h.1] at this
      exact .inr this
theorem plink_ok {l r : Str} {x : Link} {w : Bool} (h : plink l = some (x, w, r)) : okName x = true ∧ (w = false → okNum x = true) := by
  unfold plink at h
  split at h
  · rename_i hn
    split at h
    · exact absurd h (by simp)
    · rename_i b w1 r1 h1
      split at h
      · exact absurd h (by simp)
      · rename_i c w2 r2 h2
        split at h
        · exact absurd h (by simp)
        · rename_i r3 h3
          split at h
          · exact absurd h (by simp)
          · rename_i hk
            simp only [Option.some.injEq, Prod.mk.injEq] at h
            obtain ⟨rfl, rfl, _⟩ := h
            refine ⟨hn, fun hw => ?_⟩
            simp only [Bool.or_eq_false_iff] at hw
            obtain ⟨rfl, rfl⟩ := hw
            have a1 := popt_in h1
            have a2 := popt_in h2
            have a3 := kindOf_lt (wordOf r3)
            simp only [okNum, Bool.and_eq_true, decide_eq_true_eq]
            refine ⟨⟨⟨⟨⟨?_, ?_⟩, ?_⟩, ?_⟩, ?_⟩, ?_⟩ <;> omega
  · exact absurd h (by simp)
theorem pp_ok : ∀ (f : Nat) (m : Bool) (l r : Str) (t : F) (w : Bool), pp f m l = some (t, w, r) → (m = false → t.len = 1) ∧ 1 ≤ t.len ∧ t.read ∧ (w = false → t.nums) := by
  intro f
  induction f with
  | zero => intro m l r t w h; simp [pp] at h
  | succ f ih =>
    intro m l r t w h
    cases m with
    | false =>
      unfold pp at h
      split at h
      · rename_i r1 h1
        split at h
        · exact absurd h (by simp)
        · rename_i k w1 r' h2
          split at h
          · rename_i hk
            simp only [Option.some.injEq, Prod.mk.injEq] at h
            obtain ⟨rfl, rfl, rfl⟩ := h
            obtain ⟨_, _, a3, a4⟩ := ih _ _ _ _ _ h2
            exact ⟨fun _ => rfl, Nat.le_refl _, ⟨hk, a3, trivial⟩, fun hw => ⟨a4 hw, trivial⟩⟩
          · exact absurd h (by simp)
      · split at h
        · exact absurd h (by simp)
        · rename_i x w1 r1 h2
          obtain ⟨a1, a2⟩ := plink_ok h2
          split at h
          · simp only [Option.some.injEq, Prod.mk.injEq] at h
            obtain ⟨rfl, rfl, rfl⟩ := h
            exact ⟨fun _ => rfl, Nat.le_refl _, ⟨a1, Nat.zero_le _, trivial, trivial⟩, fun hw => ⟨a2 hw, trivial, trivial⟩⟩
          · rename_i r2 h3
            split at h
            · exact absurd h (by simp)
            · rename_i c w2 r3 h4
              obtain ⟨b1, b2, b3, b4⟩ := ih _ _ _ _ _ h4
              simp only [Option.some.injEq, Prod.mk.injEq] at h
              obtain ⟨rfl, rfl, rfl⟩ := h
              refine ⟨fun _ => rfl, Nat.le_refl _, ⟨a1, Nat.le_of_eq (b1 rfl), b3, trivial⟩, fun hw => ?_⟩
              simp only [Bool.or_eq_false_iff] at hw
              exact ⟨a2 hw.1, b4 hw.2, trivial⟩
    | true =>
      unfold pp at h
      split at h
      · exact absurd h (by simp)
      · rename_i t1 w1 r1 h1
        obtain ⟨a1, a2, a3, a4⟩ := ih _ _ _ _ _ h1
        split at h
        · simp only [Option.some.injEq, Prod.mk.injEq] at h
          obtain ⟨rfl, rfl, rfl⟩ := h
          exact ⟨fun h => absurd h (by simp), a2, a3, a4⟩
        · split at h
          · exact absurd h (by simp)
          · split at h
            · exact absurd h (by simp)
            · rename_i k w2 r3 h4
              obtain ⟨b1, b2, b3, b4⟩ := ih _ _ _ _ _ h4
              simp only [Option.some.injEq, Prod.mk.injEq] at h
              obtain ⟨rfl, rfl, rfl⟩ := h
              refine ⟨fun h => absurd h (by simp), by rw [app_len]; omega, (app_read _ _).2 ⟨a3, b3⟩, fun hw => ?_⟩
              simp only [Bool.or_eq_false_iff] at hw
              exact (app_nums _ _).2 ⟨a4 hw.1, b4 hw.2⟩
theorem parse_ok {s : Str} {t : F} {r : Str} {w : Bool} (h : ppT false s = some (t, w, r)) : t.len = 1 ∧ t.read ∧ (w = false → t.nums) := by
  obtain ⟨a1, _, a3, a4⟩ := pp_ok _ _ _ _ _ _ h
  exact ⟨a1 rfl, a3, a4⟩

/-- The chain of a tree is read back as the tree. -/
theorem deeper_chain {t : F} {d : Int} {rest : List Node} (h : deeper d rest = false) : deeper d (t.chain d ++ rest) = false := by
  by_cases e : t = .nil
  · subst e; exact h
  · obtain ⟨y, l, hy, hd⟩ := chain_head e d
    rw [hy]
    simp [deeper, hd]
theorem deeper_up {d : Int} {rest : List Node} (h : deeper d rest = false) : deeper (d + 1) rest = false := by
  cases rest with
  | nil => rfl
  | cons y l =>
    simp only [deeper, decide_eq_false_iff_not] at h ⊢
    omega
theorem many_one {g : List Node → Option (F × List Node)} {l r : List Node} {t : F} (h : many g 1 l = some (t, r)) : g l = some (t, r) := by
  unfold many at h
  cases hg : g l with
  | none => rw [hg] at h; exact absurd h (by simp)
  | some p =>
    obtain ⟨s, q⟩ := p
    rw [hg] at h
    simp only [many, Option.some.injEq, Prod.mk.injEq] at h
    rw [app_nil] at h
    rw [h.1, h.2]
theorem tree_chain {t : F} (h1 : t.read) (h2 : t.nums) (h3 : t.wideJ = false) : ∀ (f : Nat) (d : Int) (rest : List Node), t.nodes < f → deeper d rest = false → many (tree f d) t.len (t.chain d ++ rest) = some (t, rest) := by
  induction t with
  | nil => intro f d rest _ _; rfl
  | link x c r ihc ihr =>
    intro f d rest hf hd
    simp only [F.wideJ, Bool.or_eq_false_iff] at h3
    simp only [F.nodes] at hf
    obtain ⟨f, rfl⟩ : ∃ f', f = f' + 1 := ⟨f - 1, by omega⟩
    have hd2 : deeper d (r.chain d ++ rest) = false := deeper_chain hd
    have hr := ihr h1.2.2.2 h2.2.2 h3.2 (f + 1) d rest (by omega) hd
    have ht : tree (f + 1) d (⟨d, 0, x⟩ :: (c.chain (d + 1) ++ (r.chain d ++ rest))) = some (.link x c .nil, r.chain d ++ rest) := by
      rw [tree, if_pos rfl, if_pos rfl, if_pos h1.1]
      have hfx : fix x = x := by unfold fix; rw [if_pos h2.1]
      by_cases e : c = .nil
      · subst e
        show (if deeper d (r.chain d ++ rest) = true then _ else _) = _
        rw [hd2, if_neg (by simp), hfx]
        rfl
      · have hcl : c.len = 1 := by
          have := h1.2.1
          cases c with
          | nil => exact absurd rfl e
          | link _ _ _ => simp only [F.len] at this ⊢; omega
          | join _ _ => simp only [F.len] at this ⊢; omega
        have hc := ihc h1.2.2.1 h2.2.1 h3.1 f (d + 1) (r.chain d ++ rest) (by omega) (deeper_up hd2)
        rw [hcl] at hc
        have hdp : deeper d (c.chain (d + 1) ++ (r.chain d ++ rest)) = true := by
          obtain ⟨y, l, hy, hd3⟩ := chain_head e (d + 1)
          rw [hy]
          simp only [List.cons_append, deeper, decide_eq_true_eq]
          omega
        rw [hdp, if_pos rfl, many_one hc, hfx]
    show many (tree (f + 1) d) (r.len + 1) (⟨d, 0, x⟩ :: (c.chain (d + 1) ++ r.chain d ++ rest)) = _
    rw [List.append_assoc, many, ht]
    simp only
    rw [hr]
    rfl
  | join k r ihc ihr =>
    intro f d rest hf hd
    simp only [F.wideJ, Bool.or_eq_false_iff, decide_eq_false_iff_not, Nat.not_lt] at h3
    simp only [F.nodes] at hf
    obtain ⟨f, rfl⟩ : ∃ f', f = f' + 1 := ⟨f - 1, by omega⟩
    have hd2 : deeper d (r.chain d ++ rest) = false := deeper_chain hd
    have hr := ihr h1.2.2 h2.2 h3.2 (f + 1) d rest (by omega) hd
    have hk := ihc h1.2.1 h2.1 h3.1.2 f (d + 1) (r.chain d ++ rest) (by omega) (deeper_up hd2)
    have h2k := h1.1
    have ht : tree (f + 1) d (⟨d, k.len, Link.zero⟩ :: (k.chain (d + 1) ++ (r.chain d ++ rest))) = some (.join k .nil, r.chain d ++ rest) := by
      have hb : badJoin ⟨d, k.len, Link.zero⟩ = false := by
        have e2 : ¬ ((k.len : Nat) : Int) < 2 := by omega
        have e3 : ¬ (8 : Int) < ((k.len : Nat) : Int) := by omega
        simp [badJoin, e2, e3, isZero]
      rw [tree, if_pos rfl, if_neg (show ¬ ((k.len : Nat) : Int) = 0 by omega), if_neg (by rw [hb]; simp)]
      show (match many (tree f (d + 1)) ((k.len : Nat) : Int).toNat _ with | none => none | some (k, r) => some (F.join k .nil, r)) = _
      rw [Int.toNat_natCast, hk]
    show many (tree (f + 1) d) (r.len + 1) (⟨d, k.len, Link.zero⟩ :: (k.chain (d + 1) ++ r.chain d ++ rest)) = _
    rw [List.append_assoc, many, ht]
    simp only
    rw [hr]
    rfl
theorem chain_below (t : F) (d : Int) : ∀ x ∈ t.chain d, x.depth ≤ d + t.hgt - 1 := by
  induction t generalizing d with
  | nil => intro x hx; cases hx
  | link y c r ihc ihr =>
    intro x hx
    simp only [F.chain, List.mem_cons, List.mem_append] at hx
    simp only [F.hgt]
    rcases hx with rfl | hx | hx
    · show d ≤ _
      omega
    · have := ihc (d + 1) x hx
      omega
    · have := ihr d x hx
      omega
  | join k r ihc ihr =>
    intro x hx
    simp only [F.chain, List.mem_cons, List.mem_append] at hx
    simp only [F.hgt]
    rcases hx with rfl | hx | hx
    · show d ≤ _
      omega
    · have := ihc (d + 1) x hx
      omega
    · have := ihr d x hx
      omega
theorem chain_wide {t : F} (h1 : t.read) (h2 : t.nums) (d : Int) : (t.chain d).any wideN = false := by
  induction t generalizing d with
  | nil => rfl
  | link x c r ihc ihr => simp [F.chain, wideN, h2.1, ihc h1.2.2.1 h2.2.1 (d + 1), ihr h1.2.2.2 h2.2.2 d]
  | join k r ihc ihr =>
    have e : (((k.len : Nat) : Int) == 0) = false := by
      have := h1.1
      simp; omega
    simp [F.chain, wideN, e, ihc h1.2.1 h2.1 (d + 1), ihr h1.2.2 h2.2 d]
/-- Build of the chain of a tree that was read, and that exceeds no limit. -/
theorem build_chain {t : F} (hl : t.len = 1) (h1 : t.read) (h2 : t.nums) (hb : big t = false) : build (t.chain 0) = (0, t) := by
  simp only [big, Bool.or_eq_false_iff, decide_eq_false_iff_not, Nat.not_lt] at hb
  have h := tree_chain h1 h2 hb.2 ((t.chain 0).length + 1) 0 [] (by rw [chain_length]; omega) rfl
  rw [hl, List.append_nil] at h
  have hlim : limits (t.chain 0) = false := by
    unfold limits
    rw [Bool.or_eq_false_iff]
    refine ⟨by rw [chain_length]; simpa using hb.1.1, ?_⟩
    rw [List.any_eq_false]
    intro x hx
    have := chain_below t 0 x hx
    simp only [decide_eq_true_eq]
    omega
  unfold build
  rw [if_neg (by rw [hlim]; simp), many_one h]
  simp only
  rw [if_neg (by rw [chain_wide h1 h2]; simp)]
end Fa
end Go.Proofs.YtgnhbccmdpkbiaaGreatDoor
namespace Go.Proofs.YtgnhbccmdpkbiaaGreatDoor
namespace Fa

/-- What may stand behind a word. -/
def stops (l : Str) : Bool := match l with
  | [] => true
  | c :: _ => !Wd.nameCh c
theorem word_app {a b : Str} (ha : a.all Wd.nameCh = true) (hb : stops b = true) : wordOf (a ++ b) = a ∧ wordTl (a ++ b) = b := by
  unfold wordOf wordTl
  have h2 : b.takeWhile Wd.nameCh = [] ∧ b.dropWhile Wd.nameCh = b := by
    cases b with
    | nil => exact ⟨rfl, rfl⟩
    | cons c t =>
      simp only [stops, Bool.not_eq_true'] at hb
      simp [hb]
  induction a with
  | nil => exact h2
  | cons c a ih =>
    simp only [List.all_cons, Bool.and_eq_true] at ha
    have := ih ha.2
    rw [List.cons_append, List.takeWhile_cons, List.dropWhile_cons, if_pos ha.1, if_pos ha.1, this.1, this.2]
    exact ⟨rfl, rfl⟩
theorem pre_app (p r : Str) : pre p (p ++ r) = some r := by
  unfold pre
  rw [if_pos (List.isPrefixOf_iff_prefix.2 ⟨r, rfl⟩), List.drop_left]
theorem names_ch : ∀ i : Fin 17, (names.getD i.val []).all Wd.nameCh = true := by decide +kernel
theorem names_one : ∀ i : Fin 17, i.val ≠ 0 → kindOf (names.getD i.val []) = i.val := by decide +kernel
theorem nameOf_ch {k : Int} (h1 : 1 ≤ k) (h2 : k < 17) : (nameOf k).all Wd.nameCh = true := names_ch ⟨k.toNat, by omega⟩
theorem kind_name {k : Int} (h1 : 1 ≤ k) (h2 : k < 17) : ((kindOf (nameOf k) : Nat) : Int) = k := by
  have := names_one ⟨k.toNat, by omega⟩ (by show k.toNat ≠ 0; omega)
  unfold nameOf
  rw [this]
  show ((k.toNat : Nat) : Int) = k
  omega
theorem digit_name {l : Str} (h : l.all Wd.digit = true) : l.all Wd.nameCh = true := by
  rw [List.all_eq_true] at h ⊢
  intro c hc
  simp [Wd.nameCh, h c hc]
theorem itoa_ch {n : Int} (h : 0 ≤ n) : (Go.Lib.itoa n).all Wd.nameCh = true := digit_name (Wd.natDec_digits (Wd.natDec_itoa h)).1
theorem int_itoa {n lo hi : Int} (h1 : lo ≤ n) (h2 : n ≤ hi) (h3 : 0 ≤ n) (h4 : n ≤ 1000000000) : Wd.intOfStr (Go.Lib.itoa n) lo hi = (n, 0) := by
  obtain ⟨a, b⟩ := Wd.decimal_itoa n
  unfold Wd.intOfStr
  rw [if_pos a, b, if_pos ⟨by omega, by omega, h1, h2⟩]
theorem numBad_itoa {n lo hi : Int} (h1 : lo ≤ n) (h2 : n ≤ hi) (h3 : 0 ≤ n) (h4 : n ≤ 1000000000) : numBad lo hi (Go.Lib.itoa n) = false := by
  have hd := Wd.natDec_digits (Wd.natDec_itoa h3)
  unfold numBad
  rw [int_itoa h1 h2 h3 h4]
  have e1 : ((Go.Lib.itoa n).head? == some 45) = false := by
    cases hl : Go.Lib.itoa n with
    | nil => rfl
    | cons c t =>
      have h5 := hd.1
      rw [hl] at h5
      simp only [List.all_cons, Bool.and_eq_true] at h5
      have h6 := Wd.digit_ne h5.1
      rw [List.head?_cons, beq_eq_false_iff_ne]
      intro e
      injection e with e
      rw [e] at h6
      exact h6.2 rfl
  have e2 : (Go.Lib.itoa n == [48] && decide (0 < lo)) = false := by
    by_cases hlo : 0 < lo
    · have : Go.Lib.itoa n ≠ [48] := by
        intro e
        have := Wd.natVal_itoa h3
        rw [e] at this
        have h7 : Wd.natVal [48] = 0 := rfl
        rw [h7] at this
        omega
      rw [beq_eq_false_iff_ne.2 this]; rfl
    · rw [decide_eq_false hlo, Bool.and_false]
  rw [e1, e2]
  rfl
theorem pnum_itoa {n lo hi : Int} {r : Str} (h1 : lo ≤ n) (h2 : n ≤ hi) (h3 : 0 ≤ n) (h4 : n ≤ 1000000000) (hr : stops r = true) : pnum lo hi (Go.Lib.itoa n ++ r) = some (n, false, r) := by
  obtain ⟨a, b⟩ := word_app (itoa_ch h3) hr
  unfold pnum
  rw [a, b, numBad_itoa h1 h2 h3 h4, int_itoa h1 h2 h3 h4]
  rfl
theorem stops_sOn (r : Str) : stops (sOn ++ r) = true := rfl
theorem stops_sOver (r : Str) : stops (sOver ++ r) = true := rfl
theorem stops_col (r : Str) : stops ([58, 32] ++ r) = true := rfl
theorem on_over (r : Str) : pre sOn (sOver ++ r) = none := rfl
theorem on_col (r : Str) : pre sOn ([58, 32] ++ r) = none := rfl
theorem over_col (r : Str) : pre sOver ([58, 32] ++ r) = none := rfl
/-- The text of a link, behind which no word and no cause goes on. -/
theorem plink_txt {x : Link} {rest : Str} (hn : okName x = true) (hk : okNum x = true) (hr : stops rest = true) : plink (txtL x ++ rest) = some (x, false, rest) := by
  obtain ⟨k, o, b, c⟩ := x
  simp only [okNum, Bool.and_eq_true, decide_eq_true_eq] at hk
  obtain ⟨⟨⟨⟨⟨k1, k2⟩, b1⟩, b2⟩, c1⟩, c2⟩ := hk
  have hch : o.data.toList.all Wd.nameCh = true := by
    unfold okName Wd.name at hn
    dsimp only at hn
    split at hn
    · exact absurd hn (by simp)
    · rename_i ch t he
      simp only [Bool.and_eq_true] at hn
      exact hn.2
  obtain ⟨T3, hT3⟩ : ∃ T, T = [58, 32] ++ (nameOf k ++ rest) := ⟨_, rfl⟩
  obtain ⟨T2, hT2⟩ : ∃ T, T = txt3 ⟨k, o, b, c⟩ ++ T3 := ⟨_, rfl⟩
  obtain ⟨T1, hT1⟩ : ∃ T, T = txt2 ⟨k, o, b, c⟩ ++ T2 := ⟨_, rfl⟩
  have e0 : txtL ⟨k, o, b, c⟩ ++ rest = o.data.toList ++ T1 := by
    rw [hT1, hT2, hT3]
    simp [txtL, txt1]
  have s3 : stops T3 = true := by rw [hT3]; rfl
  have s2 : stops T2 = true := by
    rw [hT2]
    unfold txt3
    split
    · exact s3
    · rfl
  have s1 : stops T1 = true := by
    rw [hT1]
    unfold txt2
    split
    · exact s2
    · rfl
  obtain ⟨a1, a2⟩ := word_app hch s1
  have p2 : popt sOver 1 1000000000 0 T2 = some (c, false, T3) := by
    rw [hT2]
    unfold popt txt3
    by_cases hc : c = 0
    · subst hc
      rw [if_pos rfl, List.nil_append, hT3, over_col]
    · rw [if_neg hc, List.append_assoc, pre_app]
      have c3 : 1 ≤ c := by omega
      exact pnum_itoa c3 c2 c1 c2 s3
  have p1 : popt sOn 0 15 (-1) T1 = some (b, false, T2) := by
    rw [hT1]
    unfold popt txt2
    by_cases hb : b = -1
    · subst hb
      have : pre sOn T2 = none := by
        rw [hT2]
        unfold txt3
        split
        · rw [List.nil_append, hT3, on_col]
        · rw [List.append_assoc, on_over]
      rw [if_pos rfl, List.nil_append, this]
    · rw [if_neg hb, List.append_assoc, pre_app]
      have b3 : 0 ≤ b := by omega
      have b4 : b ≤ 15 := by omega
      have b5 : b ≤ 1000000000 := by omega
      exact pnum_itoa b3 b4 b3 b5 s2
  obtain ⟨n1, n2⟩ := word_app (nameOf_ch k1 k2) hr
  rw [e0]
  unfold plink
  rw [a1, a2, if_pos (show Wd.name o.data.toList = true from hn), p1]
  simp only
  rw [p2]
  simp only
  rw [hT3, pre_app]
  simp only
  rw [n1, n2]
  have hk0 := kind_name k1 k2
  rw [if_neg (by omega), hk0]
  rfl
/-- What may stand behind a fault: the end, or what goes on a join. -/
def ends (l : Str) : Bool := match l with
  | [] => true
  | c :: _ => c == 41 || c == 32 && !(sOn.isPrefixOf l || sOver.isPrefixOf l)
theorem txtL_head {x : Link} (hn : okName x = true) (r : Str) : pre [40] (txtL x ++ r) = none := by
  unfold okName Wd.name at hn
  have e : ∃ c t, x.op.data.toList = c :: t ∧ Wd.lower c = true := by
    split at hn
    · exact absurd hn (by simp)
    · rename_i ch t he
      simp only [Bool.and_eq_true] at hn
      exact ⟨ch, t, he, hn.1.2⟩
  obtain ⟨c, t, he, hc⟩ := e
  have : txtL x ++ r = c :: (t ++ (txt2 x ++ (txt3 x ++ ([58, 32] ++ (nameOf x.kind ++ r))))) := by
    simp [txtL, txt1, he]
  rw [this]
  unfold pre
  rw [if_neg]
  simp only [List.isPrefixOf, Bool.and_true, beq_iff_eq]
  rintro rfl
  exact absurd hc (by decide)
def txtC (c : F) : Str := match c with | .nil => [] | c => [59, 32] ++ c.txt
def txtR (r : F) : Str := match r with | .nil => [] | r => [32, 38, 32] ++ r.txt
theorem txt_link (x : Link) (c r : F) : (F.link x c r).txt = txtL x ++ txtC c ++ txtR r := by cases c <;> cases r <;> simp [F.txt, txtC, txtR]
theorem txt_join (k r : F) : (F.join k r).txt = [40] ++ k.txt ++ [41] ++ txtR r := by cases r <;> simp [F.txt, txtR]
theorem txtC_ne {c : F} (h : c ≠ .nil) : txtC c = [59, 32] ++ c.txt := by
  cases c with
  | nil => exact absurd rfl h
  | link _ _ _ => rfl
  | join _ _ => rfl
theorem txtR_ne {c : F} (h : c ≠ .nil) : txtR c = [32, 38, 32] ++ c.txt := by
  cases c with
  | nil => exact absurd rfl h
  | link _ _ _ => rfl
  | join _ _ => rfl
theorem app_ne {t s : F} (h : s ≠ .nil) : t.app s ≠ .nil := by
  cases t with
  | nil => exact h
  | link _ _ _ => simp [F.app]
  | join _ _ => simp [F.app]
theorem txtR_app {r s : F} (hs : s ≠ .nil) (ih : r ≠ .nil → (r.app s).txt = r.txt ++ [32, 38, 32] ++ s.txt) : txtR (r.app s) = txtR r ++ [32, 38, 32] ++ s.txt := by
  by_cases e : r = .nil
  · subst e
    show txtR s = [] ++ [32, 38, 32] ++ s.txt
    rw [txtR_ne hs, List.nil_append]
  · rw [txtR_ne (app_ne hs), ih e, txtR_ne e]
    simp
/-- The texts of the trees of a forest, with what parts them. -/
theorem txt_app {t s : F} (h1 : t ≠ .nil) (h2 : s ≠ .nil) : (t.app s).txt = t.txt ++ [32, 38, 32] ++ s.txt := by
  induction t with
  | nil => exact absurd rfl h1
  | link x c r _ ih =>
    show (F.link x c (r.app s)).txt = _
    rw [txt_link, txt_link, txtR_app h2 ih]
    simp
  | join k r _ ih =>
    show (F.join k (r.app s)).txt = _
    rw [txt_join, txt_join, txtR_app h2 ih]
    simp
/-- Reading the text of a forest whose trees obey the rules, up to the parenthesis that ends it; of one tree, up to what ends it. -/
theorem read_txt {t : F} (h1 : t.read) (h2 : t.nums) : (t.len = 1 → ∀ rest, stops rest = true → pre [59, 32] rest = none → ppT false (t.txt ++ rest) = some (t, false, rest)) ∧ (1 ≤ t.len → ∀ rest, ppT true (t.txt ++ ([41] ++ rest)) = some (t, false, rest)) := by
  induction t with
  | nil => exact ⟨fun h => absurd h (by simp [F.len]), fun h => absurd h (by simp [F.len])⟩
  | link x c r ihc ihr =>
    obtain ⟨n1, n2, n3, n4⟩ := h1
    obtain ⟨m1, m2, m3⟩ := h2
    have hone : ∀ rest, stops rest = true → pre [59, 32] rest = none → ppT false ((F.link x c .nil).txt ++ rest) = some (.link x c .nil, false, rest) := by
      intro rest hs hp
      cases hc : c with
      | nil =>
        have e : (F.link x .nil .nil).txt ++ rest = txtL x ++ rest := by simp [F.txt]
        rw [e, ppT_link (txtL_head n1 _), plink_txt n1 m1 hs]
        simp only
        rw [hp]
      | link y d q =>
        rw [← hc]
        have hlen : c.len = 1 := by rw [hc] at n2 ⊢; simp only [F.len] at n2 ⊢; omega
        have e : (F.link x c .nil).txt ++ rest = txtL x ++ ([59, 32] ++ (c.txt ++ rest)) := by rw [hc]; simp [F.txt]
        rw [e, ppT_link (txtL_head n1 _), plink_txt n1 m1 rfl]
        simp only
        rw [pre_app]
        simp only
        rw [(ihc n3 m2).1 hlen rest hs hp]
        rfl
      | join y q =>
        rw [← hc]
        have hlen : c.len = 1 := by rw [hc] at n2 ⊢; simp only [F.len] at n2 ⊢; omega
        have e : (F.link x c .nil).txt ++ rest = txtL x ++ ([59, 32] ++ (c.txt ++ rest)) := by rw [hc]; simp [F.txt]
        rw [e, ppT_link (txtL_head n1 _), plink_txt n1 m1 rfl]
        simp only
        rw [pre_app]
        simp only
        rw [(ihc n3 m2).1 hlen rest hs hp]
        rfl
    refine ⟨fun hl rest hs hp => ?_, fun _ rest => ?_⟩
    · have hr : r = .nil := by
        cases r with
        | nil => rfl
        | link _ _ _ => simp only [F.len] at hl; omega
        | join _ _ => simp only [F.len] at hl; omega
      rw [hr]
      exact hone rest hs hp
    · by_cases hr : r = .nil
      · rw [hr, ppT_kids, hone _ rfl rfl]
        simp only
        rw [pre_app]
      · have hl : 1 ≤ r.len := by
          cases r with
          | nil => exact absurd rfl hr
          | link _ _ _ => simp only [F.len]; omega
          | join _ _ => simp only [F.len]; omega
        have e : (F.link x c r).txt ++ ([41] ++ rest) = (F.link x c .nil).txt ++ ([32, 38, 32] ++ (r.txt ++ ([41] ++ rest))) := by
          have := txt_app (t := .link x c .nil) (s := r) (by simp) hr
          rw [show (F.link x c .nil).app r = .link x c r from rfl] at this
          rw [this]
          simp
        rw [e, ppT_kids, hone _ rfl rfl]
        simp only
        rw [show pre [41] ([32, 38, 32] ++ (r.txt ++ ([41] ++ rest))) = none from rfl]
        simp only
        rw [pre_app]
        simp only
        rw [(ihr n4 m3).2 hl rest]
        rfl
  | join k r ihc ihr =>
    obtain ⟨n1, n2, n3⟩ := h1
    obtain ⟨m1, m2⟩ := h2
    have hone : ∀ rest, ppT false ((F.join k .nil).txt ++ rest) = some (.join k .nil, false, rest) := by
      intro rest
      have e : (F.join k .nil).txt ++ rest = [40] ++ (k.txt ++ ([41] ++ rest)) := by simp [F.txt]
      rw [e, ppT_join (pre_app [40] _), (ihc n2 m1).2 (by omega) rest]
      simp only
      rw [if_pos (by omega)]
    refine ⟨fun hl rest _ _ => ?_, fun _ rest => ?_⟩
    · have hr : r = .nil := by
        cases r with
        | nil => rfl
        | link _ _ _ => simp only [F.len] at hl; omega
        | join _ _ => simp only [F.len] at hl; omega
      rw [hr]
      exact hone rest
    · by_cases hr : r = .nil
      · rw [hr, ppT_kids, hone _]
        simp only
        rw [pre_app]
      · have hl : 1 ≤ r.len := by
          cases r with
          | nil => exact absurd rfl hr
          | link _ _ _ => simp only [F.len]; omega
          | join _ _ => simp only [F.len]; omega
        have e : (F.join k r).txt ++ ([41] ++ rest) = (F.join k .nil).txt ++ ([32, 38, 32] ++ (r.txt ++ ([41] ++ rest))) := by
          have := txt_app (t := .join k .nil) (s := r) (by simp) hr
          rw [show (F.join k .nil).app r = .join k r from rfl] at this
          rw [this]
          simp
        rw [e, ppT_kids, hone _]
        simp only
        rw [show pre [41] ([32, 38, 32] ++ (r.txt ++ ([41] ++ rest))) = none from rfl]
        simp only
        rw [pre_app]
        simp only
        rw [(ihr n3 m2).2 hl rest]
        rfl
/-- Parse of the text of a fault. -/
theorem parse_txt {t : F} (hl : t.len = 1) (h1 : t.read) (h2 : t.nums) (hb : big t = false) : parse t.txt = (0, t) := by
  have h := (read_txt h1 h2).1 hl [] rfl rfl
  rw [List.append_nil] at h
  unfold parse
  rw [h]
  simp only
  rw [if_neg (by simp), if_neg (by rw [hb]; simp)]
theorem tree_read : ∀ (f : Nat) (d : Int) (l r : List Node) (t : F), tree f d l = some (t, r) → t.read := by
  intro f
  induction f with
  | zero => intro d l r t h; simp [tree] at h
  | succ f ih =>
    intro d l r t h
    have hm : ∀ (k : Nat) (l r : List Node) (t : F), many (tree f (d + 1)) k l = some (t, r) → t.read := by
      intro k
      induction k with
      | zero =>
        intro l r t h
        simp only [many, Option.some.injEq, Prod.mk.injEq] at h
        rw [← h.1]
        trivial
      | succ k ihk =>
        intro l r t h
        unfold many at h
        split at h
        · exact absurd h (by simp)
        · rename_i t1 r1 h1
          split at h
          · exact absurd h (by simp)
          · rename_i s r2 h2
            simp only [Option.some.injEq, Prod.mk.injEq] at h
            rw [← h.1]
            exact (app_read _ _).2 ⟨ih _ _ _ _ h1, ihk _ _ _ h2⟩
    cases l with
    | nil => simp [tree] at h
    | cons x l =>
      have hk := (tree_took _ _ _ _ _ h).len
      unfold tree at h
      split at h
      · split at h
        · split at h
          · rename_i hn
            have hn2 : okName (fix x.link) = true := by
              unfold fix
              split
              · exact hn
              · exact hn
            split at h
            · split at h
              · exact absurd h (by simp)
              · rename_i c r1 h1
                have h1l := (tree_took _ _ _ _ _ h1).len
                simp only [Option.some.injEq, Prod.mk.injEq] at h
                rw [← h.1]
                exact ⟨hn2, by omega, ih _ _ _ _ h1, trivial⟩
            · simp only [Option.some.injEq, Prod.mk.injEq] at h
              rw [← h.1]
              exact ⟨hn2, Nat.zero_le _, trivial, trivial⟩
          · exact absurd h (by simp)
        · split at h
          · exact absurd h (by simp)
          · rename_i hb
            split at h
            · exact absurd h (by simp)
            · rename_i k r1 h1
              have h1l := (many_took (tree_took f (d + 1)) _ _ _ _ h1).len
              simp only [Option.some.injEq, Prod.mk.injEq] at h
              simp only [badJoin, Bool.or_eq_true, decide_eq_true_eq, not_or, Int.not_lt] at hb
              rw [← h.1]
              exact ⟨by omega, hm _ _ _ _ h1, trivial⟩
      · exact absurd h (by simp)
theorem ok_nums {t : F} (h : t.ok) : t.nums ∧ t.wideJ = false := by
  induction t with
  | nil => exact ⟨trivial, rfl⟩
  | link x c r ihc ihr =>
    have a := ihc h.2.2.1
    have b := ihr h.2.2.2
    exact ⟨⟨h.1, a.1, b.1⟩, by simp [F.wideJ, a.2, b.2]⟩
  | join k r ihc ihr =>
    have a := ihc h.2.2.1
    have b := ihr h.2.2.2
    have h8 := h.2.1
    exact ⟨⟨a.1, b.1⟩, by simp [F.wideJ, a.2, b.2]; omega⟩
theorem build_read {l : List Node} (h : (build l).1 = 0) : (build l).2.read := by
  unfold build at h ⊢
  split at h
  · exact absurd h (by decide)
  · rename_i hl
    rw [if_neg hl]
    split at h
    · rename_i t ht
      split at h
      · exact absurd h (by decide)
      · rename_i hw
        rw [if_neg hw]
        exact tree_read _ _ _ _ _ ht
    · exact absurd h (by decide)
/-- Parse of the text of a fault that Build made. -/
theorem parse_build {l : List Node} (h : (build l).1 = 0) : parse (build l).2.txt = (0, (build l).2) := by
  obtain ⟨b1, b2, b3, b4, b5⟩ := build_ok h
  have hn := ok_nums b2
  refine parse_txt b3 (build_read h) hn.1 ?_
  simp only [big, hn.2, Bool.or_false, Bool.or_eq_false_iff, decide_eq_false_iff_not, Nat.not_lt]
  exact ⟨b4, b5⟩
end Fa
end Go.Proofs.YtgnhbccmdpkbiaaGreatDoor
