/-
  A region that draws its order may be walked in the order of its text: part 1: which operations may change places. No program in this text.
-/
import Derived.Orders
import Derived.Stop.Looks
import Derived.WalkKit
namespace Go

/-- What yields in one world yields the same in every world, and does nothing else. -/
def Sem.Blind (P : Program) {α : Type} (s : Sem α) : Prop := ∀ w v w', s.run P w = .ok v w' → ∀ w1, s.run P w1 = .ok v w1
/-- What yields leaves the world as it was. -/
def Sem.Keeps (P : Program) {α : Type} (s : Sem α) : Prop := ∀ w v w', s.run P w = .ok v w' → w' = w
/-- What never yields. -/
def Sem.Never (P : Program) {α : Type} (s : Sem α) : Prop := ∀ w v w', s.run P w ≠ .ok v w'

section
variable {P : Program} {α β : Type}
theorem Sem.Blind.keeps {s : Sem α} (h : s.Blind P) : s.Keeps P := fun w v w' e => by
  have := (h w v w' e w).symm.trans e
  injection this with _ h2
  exact h2.symm
theorem Sem.Never.blind {s : Sem α} (h : s.Never P) : s.Blind P := fun w v w' e => absurd e (h w v w')
theorem blind_pure (a : α) : (pure a : Sem α).Blind P := fun w v w' e w1 => by
  have e1 : (pure a : Sem α).run P w = .ok a w := rfl
  rw [e1] at e
  injection e with e2 _
  subst e2; rfl
theorem never_halt (h : Halt) : (Sem.halt h : Sem α).Never P := fun w v w' e => by
  have e1 : (Sem.halt h : Sem α).run P w = .halt h w := rfl
  rw [e1] at e; cases e
theorem never_stuck (s : String) : (stuck s : Sem α).Never P := never_halt _
theorem never_unsupported (u : Unsupported) : (unsupported u : Sem α).Never P := never_halt _
theorem never_goPanic (v : Value) : (goPanic v : Sem α).Never P := never_halt _
theorem run_bind_ok {x : Sem α} {f : α → Sem β} {w w' : World} {b : β} (e : (x >>= f).run P w = .ok b w') : ∃ a w1, x.run P w = .ok a w1 ∧ (f a).run P w1 = .ok b w' := by
  rw [Sem.run_bind] at e
  generalize x.run P w = r at e
  cases r with
  | ok a w1 => exact ⟨a, w1, rfl, e⟩
  | halt h w1 => cases e
theorem run_bind_of {x : Sem α} {f : α → Sem β} {w w1 w' : World} {a : α} {b : β} (e : x.run P w = .ok a w1) (e' : (f a).run P w1 = .ok b w') : (x >>= f).run P w = .ok b w' := by
  rw [Sem.run_bind, e]; exact e'
theorem Sem.Blind.bind {x : Sem α} {f : α → Sem β} (hx : x.Blind P) (hf : ∀ a, (f a).Blind P) : (x >>= f).Blind P := fun w v w' e w1 => by
  obtain ⟨a, w2, e1, e2⟩ := run_bind_ok e
  exact run_bind_of (hx _ _ _ e1 w1) (hf a _ _ _ e2 w1)
theorem Sem.Keeps.bind {x : Sem α} {f : α → Sem β} (hx : x.Keeps P) (hf : ∀ a, (f a).Keeps P) : (x >>= f).Keeps P := fun w v w' e => by
  obtain ⟨a, w2, e1, e2⟩ := run_bind_ok e
  exact (hf a _ _ _ e2).trans (hx _ _ _ e1)
theorem Sem.Never.bind_right {x : Sem α} {f : α → Sem β} (hf : ∀ a, (f a).Never P) : (x >>= f).Never P := fun w v w' e => by
  obtain ⟨a, w2, _, e2⟩ := run_bind_ok e
  exact hf a _ _ _ e2
theorem Sem.Never.bind {x : Sem α} {f : α → Sem β} (hx : x.Never P) : (x >>= f).Never P := fun w v w' e => by
  obtain ⟨a, w2, e1, _⟩ := run_bind_ok e
  exact hx _ _ _ e1
theorem Sem.Looks.keeps {s : Sem α} (h : s.Looks) : s.Keeps P := fun _ _ _ e => h.ok e

theorem blind_program : (program : Sem Program).Blind P := fun w v w' e w1 => by
  have e1 : ∀ w, (program : Sem Program).run P w = .ok P w := fun _ => rfl
  rw [e1] at e ⊢
  injection e with e2 _
  subst e2; rfl
/-- The program is the one at hand. -/
theorem blind_program_bind {f : Program → Sem β} (hf : (f P).Blind P) : (program >>= f).Blind P := fun w v w' e w1 => by
  have e1 : ∀ w, (program : Sem Program).run P w = .ok P w := fun _ => rfl
  rw [Sem.run_bind, e1] at e ⊢
  exact hf _ _ _ e w1
theorem blind_underlying (t : TypeId) : (underlying t).Blind P := by
  unfold underlying
  refine blind_program_bind ?_
  split
  · exact blind_pure _
  · exact (never_stuck _).blind
/-- .. a type's own shape. -/
theorem blind_underlying_bind {t : TypeId} {f : TypeDesc → Sem β} (hf : ∀ d, P.underlying t = some d → (f d).Blind P) : (underlying t >>= f).Blind P := fun w v w' e w1 => by
  have e1 : ∀ w d w', (underlying t).run P w = .ok d w' → P.underlying t = some d ∧ w' = w := by
    intro w d w' h
    unfold underlying at h
    have e0 : ∀ (g : Program → Sem TypeDesc) w, (program >>= g).run P w = (g P).run P w := fun _ _ => rfl
    rw [e0] at h
    split at h
    · rename_i d' hd
      have e3 : (pure d' : Sem TypeDesc).run P w = .ok d' w := rfl
      rw [e3] at h
      injection h with h1 h2
      exact ⟨by rw [hd, h1], h2.symm⟩
    · exact absurd h (never_stuck _ _ _ _)
  obtain ⟨d, w2, h1, h2⟩ := run_bind_ok e
  obtain ⟨h3, rfl⟩ := e1 _ _ _ h1
  exact run_bind_of (blind_underlying t _ _ _ h1 w1) (hf d h3 _ _ _ h2 w1)
theorem blind_typeInfo (t : TypeId) : (typeInfo t).Blind P := by
  unfold typeInfo
  refine blind_program_bind ?_
  split
  · exact blind_pure _
  · exact (never_stuck _).blind
theorem blind_sizeOf (t : TypeId) : (sizeOf t).Blind P := by
  unfold sizeOf
  exact (blind_typeInfo t).bind fun _ => blind_pure _
theorem blind_isAgg (t : TypeId) : (isAgg t).Blind P := by
  unfold isAgg
  refine (blind_underlying t).bind fun d => ?_
  split <;> exact blind_pure _
theorem blind_asBool (v : Value) : (asBool v).Blind P := by
  unfold asBool
  split
  · exact blind_pure _
  · exact (never_stuck _).blind
theorem blind_asAgg (v : Value) : (asAgg v).Blind P := by
  unfold asAgg
  split
  · exact blind_pure _
  · exact (never_stuck _).blind
theorem blind_asIntOf (v : Value) : (asIntOf v).Blind P := by
  unfold asIntOf
  split
  · exact blind_pure _
  · exact (never_unsupported _).blind
  · exact (never_stuck _).blind
theorem never_runtimePanic (e : RuntimeError) : (runtimePanic e : Sem α).Never P := by
  unfold runtimePanic
  refine Sem.Never.bind_right fun p => ?_
  dsimp only
  split
  · exact never_goPanic _
  · exact never_goPanic _
  · exact never_goPanic _
  · exact never_goPanic _
  · exact Sem.Never.bind_right fun r => Sem.Never.bind_right fun r => never_goPanic _
  · exact Sem.Never.bind_right fun r => Sem.Never.bind_right fun r => never_goPanic _
  · exact never_goPanic _
theorem never_boundsPanic (k : IntKind) (x y : Int) (c : BoundsCode) : (boundsPanic k x y c : Sem α).Never P := by
  unfold boundsPanic
  dsimp only
  split <;> exact Sem.Never.bind_right fun _ => never_runtimePanic _
theorem blind_part (t : TypeId) (cs : Array Value) (off : Nat) : (part t cs off).Blind P := by
  unfold part
  refine (blind_isAgg t).bind fun b => ?_
  split
  · exact (blind_sizeOf t).bind fun _ => blind_pure _
  · split
    · exact blind_pure _
    · exact (never_stuck _).blind
theorem blind_sureAddr (v : Value) : (Instr.sureAddr v).Blind P := by
  unfold Instr.sureAddr
  split
  · exact blind_pure _
  · exact (never_stuck _).blind

/-! ### The operations -/
/-- A number, a truth value, a text, or nothing. -/
def plainV : Value → Bool
  | .int _ _ => true
  | .bool _ => true
  | .string _ => true
  | .tuple _ => true
  | _ => false
def notFunc : Value → Bool
  | .func _ _ _ => false
  | _ => true
def nilV : Value → Bool
  | .pointer none => true
  | .nilIface => true
  | .slice none _ _ => true
  | .map none => true
  | .nilFunc => true
  | _ => false

theorem blind_intArith (op : BinOp) (k : IntKind) (x y : Int) : (Op.intArith op k x y).Blind P := by
  unfold Op.intArith; split <;> first | exact blind_pure _ | exact (never_stuck _).blind
theorem blind_intBits (op : BinOp) (k : IntKind) (x y : Int) : (Op.intBits op k x y).Blind P := by
  unfold Op.intBits; dsimp only; split <;> first | exact blind_pure _ | exact (never_stuck _).blind
theorem blind_intCmp (op : BinOp) (x y : Int) : (Op.intCmp op x y).Blind P := by
  unfold Op.intCmp; split <;> first | exact blind_pure _ | exact (never_stuck _).blind
theorem blind_intDiv (op : BinOp) (k : IntKind) (x y : Int) : (Op.intDiv op k x y).Blind P := by
  unfold Op.intDiv
  split
  · exact (never_runtimePanic _).blind
  · split <;> first | exact blind_pure _ | exact (never_stuck _).blind
theorem blind_shift (op : BinOp) (k yk : IntKind) (x y : Int) : (Op.shift op k x yk y).Blind P := by
  unfold Op.shift
  split
  · exact (never_runtimePanic _).blind
  · dsimp only; split <;> first | exact blind_pure _ | exact (never_stuck _).blind
theorem blind_stringOp (op : BinOp) (x y : ByteArray) : (Op.stringOp op x y).Blind P := by
  unfold Op.stringOp
  dsimp only
  split
  · split
    · exact (never_unsupported _).blind
    · exact blind_pure _
  all_goals first | exact blind_pure _ | exact (never_stuck _).blind
theorem blind_unary (op : UnOp) (x : Value) : (Op.unary op x).Blind P := by
  unfold Op.unary
  split <;> first | exact blind_intArith _ _ _ _ | exact blind_intBits _ _ _ _ | exact blind_pure _ | exact (never_stuck _).blind | exact (never_unsupported _).blind

theorem blind_equal_plain (d : Nat) (t : TypeId) (x y : Value) (hx : plainV x = true) (hy : plainV y = true) : (Op.equalIn d t x y).Blind P := by
  cases d with
  | zero => exact (never_unsupported _).blind
  | succ d =>
    unfold Op.equalIn
    refine (blind_underlying t).bind fun u => ?_
    cases x <;> first | cases hx | skip
    all_goals cases y <;> first | cases hy | skip
    all_goals split <;> first
      | exact blind_pure _
      | exact (never_stuck _).blind
      | exact (never_unsupported _).blind
      | (rename_i h1 h2; cases h1; done)
      | (rename_i h1 h2; cases h2; done)
      | skip
    all_goals (split <;> first | exact blind_pure _ | exact (never_stuck _).blind)
theorem blind_eqGuard_plain (op : BinOp) (t : TypeId) (x y : Operand) (a b : Value) (ha : plainV a = true) : (eqGuard op t x y a b).Blind P := by
  unfold eqGuard
  split
  all_goals first
    | exact blind_pure _
    | (simp only [Bool.not_true, Bool.false_eq_true, if_false]
       split
       · cases ha
       · cases ha
       · exact blind_pure _)
theorem blind_ite {c : Prop} [Decidable c] {x y : Sem α} (hx : x.Blind P) (hy : y.Blind P) : (if c then x else y).Blind P := by split; exact hx; exact hy
theorem blind_binOp_int (op : BinOp) (t : TypeId) (k k' : IntKind) (a b : Int) : (binOp op t (.int k a) (.int k' b)).Blind P := by
  cases op
  case shl => exact blind_shift .shl k k' a b
  case shr => exact blind_shift .shr k k' a b
  all_goals first
    | exact blind_ite (never_stuck _).blind (blind_intArith _ _ _ _)
    | exact blind_ite (never_stuck _).blind (blind_intDiv _ _ _ _)
    | exact blind_ite (never_stuck _).blind (blind_intBits _ _ _ _)
    | exact blind_ite (never_stuck _).blind (blind_intCmp _ _ _)
theorem blind_binOp_string (op : BinOp) (t : TypeId) (a b : ByteArray) : (binOp op t (.string a) (.string b)).Blind P := by
  have e : binOp op t (.string a) (.string b) = Op.stringOp op a b := by cases op <;> rfl
  rw [e]; exact blind_stringOp _ _ _
theorem blind_binOp_plain (op : BinOp) (t : TypeId) (x y : Value) (hx : plainV x = true) (hy : plainV y = true) : (binOp op t x y).Blind P := by
  have he : (Op.equal t x y).Blind P := blind_equal_plain _ _ _ _ hx hy
  cases x <;> first | cases hx | skip
  all_goals cases y <;> first | cases hy | skip
  case int.refl.int.refl => exact blind_binOp_int _ _ _ _ _ _
  case string.refl.string.refl => exact blind_binOp_string _ _ _ _
  all_goals cases op
  all_goals first
    | exact he.bind fun _ => blind_pure _
    | exact (never_stuck _).blind
theorem blind_binOp_nil (op : BinOp) (hop : op = .eql ∨ op = .neq) (t : TypeId) (x y : Value) (h : nilV x = true ∨ nilV y = true) : (binOp op t x y).Blind P := by
  have he : (Op.equal t x y).Blind P := by
    unfold Op.equal Op.maxDepth Op.equalIn
    refine (blind_underlying t).bind fun u => ?_
    rcases h with h | h
    · cases x <;> first | cases h | skip
      all_goals (try (rename_i a; cases a <;> first | cases h | skip))
      all_goals split <;> first
        | exact blind_pure _
        | exact (never_stuck _).blind
        | exact (never_unsupported _).blind
        | (rename_i h1 h2; cases h1; done)
        | (rename_i h1 h2; cases h2; done)
        | skip
      all_goals first | contradiction | (rename_i h1; simp at h1; done) | (rename_i h1 h2; simp at h1 h2; done) | (rename_i h1; cases h1; unfold samePointer; split <;> first | exact blind_pure _ | contradiction | (rename_i h2 h3; cases h2; done)) | (rename_i a b _ h1; cases h1; cases a <;> exact blind_pure _) | (rename_i a b h1; cases h1; cases a <;> exact blind_pure _) | (rename_i a b h1; cases h1; cases b <;> exact blind_pure _)
    · cases y <;> first | cases h | skip
      all_goals (try (rename_i a; cases a <;> first | cases h | skip))
      all_goals split <;> first
        | exact blind_pure _
        | exact (never_stuck _).blind
        | exact (never_unsupported _).blind
        | skip
      all_goals first | contradiction | (rename_i h1; simp at h1; done) | (rename_i h1 h2; simp at h1 h2; done) | (rename_i h1; cases h1; unfold samePointer; split <;> first | exact blind_pure _ | contradiction | (rename_i h2 h3; cases h2; done)) | (rename_i a b _ h1; cases h1; cases a <;> exact blind_pure _) | (rename_i a b h1; cases h1; cases a <;> exact blind_pure _) | (rename_i a b h1; cases h1; cases b <;> exact blind_pure _)
  rcases hop with rfl | rfl <;> unfold binOp <;> split
  all_goals first
    | exact he.bind fun _ => blind_pure _
    | skip
  all_goals simp_all [nilV]

theorem blind_indexAt (t : TypeId) (x ix : Value) : (Instr.indexAt t x ix).Blind P := by
  unfold Instr.indexAt
  refine (blind_asIntOf ix).bind fun k => ?_
  obtain ⟨k, i⟩ := k
  dsimp only
  refine (blind_underlying t).bind fun u => ?_
  have key : ∀ (b : Option Addr × Nat × TypeId), (do
      let tiny := b.2.1 ≤ 1 && (match ← underlying t with | .array .. => true | _ => false)
      match b.1 with
      | some a =>
        if 0 ≤ i ∧ i < b.2.1 then pure (Value.pointer (some (a.add (i.toNat * (← sizeOf b.2.2)))))
        else if tiny then unsupported (.noEntry "op/indexAddr.an index out of range at an array of length 0 or 1 (ledger 616)")
        else boundsPanic k i b.2.1 .index
      | none => boundsPanic k i 0 .index : Sem Value).Blind P := by
    rintro ⟨b, l, e⟩
    refine (blind_underlying t).bind fun u => ?_
    dsimp only
    split
    · refine blind_ite ?_ (blind_ite (never_unsupported _).blind (never_boundsPanic _ _ _ _).blind)
      exact (blind_sizeOf _).bind fun _ => blind_pure _
    · exact (never_boundsPanic _ _ _ _).blind
  split
  · exact (blind_sureAddr _).bind fun a => (blind_pure (some a, _, _)).bind key
  · exact (blind_pure _).bind key
  · exact Sem.Blind.bind (never_stuck _).blind key
theorem blind_index (t : TypeId) (x ix : Value) : (Instr.index t x ix).Blind P := by
  unfold Instr.index
  refine (blind_asIntOf ix).bind fun k => ?_
  obtain ⟨k, i⟩ := k
  dsimp only
  refine (blind_underlying t).bind fun u => ?_
  split
  · exact blind_ite ((blind_sizeOf _).bind fun _ => blind_part _ _ _) (never_boundsPanic _ _ _ _).blind
  · split
    · exact blind_pure _
    · exact (never_boundsPanic _ _ _ _).blind
  · exact (never_stuck _).blind
theorem blind_field (t : TypeId) (x : Value) (f : Nat) : (Instr.field t x f).Blind P := by
  unfold Instr.field
  refine (blind_underlying t).bind fun u => ?_
  split
  · split
    · exact (blind_asAgg _).bind fun _ => blind_part _ _ _
    · exact (never_stuck _).blind
  · exact (never_stuck _).blind
theorem blind_extract (x : Value) (i : Nat) : (Instr.extract x i).Blind P := by
  unfold Instr.extract
  split
  · split
    · exact blind_pure _
    · exact (never_stuck _).blind
  · exact (never_stuck _).blind
theorem keeps_loadVar (t : TypeId) (a : Addr) : (loadVar t a).Keeps P := by
  unfold loadVar
  refine (blind_isAgg t).keeps.bind fun b => ?_
  split
  · exact (blind_sizeOf t).keeps.bind fun n => (loadCells_looks a n).keeps.bind fun _ => (blind_pure _).keeps
  · exact (load_looks a _).keeps
theorem keeps_loadAt (t : TypeId) (x : Value) : (Instr.loadAt t x).Keeps P := by
  unfold Instr.loadAt
  exact (blind_sureAddr x).keeps.bind fun a => keeps_loadVar t a
theorem looks_shape (r : Nat) : (shape r).Looks := fun _ => trivial
theorem looks_getObj (r : Nat) : (getObj r).Looks := fun _ => trivial
theorem looks_viewAt (r : Nat) : (viewAt r).Looks := by
  unfold viewAt
  refine (looks_shape r).bind fun o => ?_
  split
  · trivial
  · exact (looks_getObj r).bind fun o => by split <;> trivial
theorem looks_noView (a : Addr) : (noView a).Looks := by
  unfold noView
  exact (looks_viewAt _).bind fun o => by split <;> trivial
theorem looks_byteOf (a : Addr) : (byteOf a).Looks := by
  unfold byteOf
  split
  · exact trivial
  · refine program_looks.bind fun p => (looks_noView a).bind fun _ => (looks_shape _).bind fun s => ?_
    split
    · dsimp only
      split
      · exact trivial
      · split <;> exact trivial
    · exact trivial
theorem keeps_fieldAt (s : TypeId) (x : Value) (f : Nat) : (Instr.fieldAt s x f).Keeps P := by
  unfold Instr.fieldAt
  refine (blind_underlying s).keeps.bind fun u => ?_
  split
  · split
    · refine (blind_sureAddr x).keeps.bind fun a => Sem.Keeps.bind ?_ fun _ => (blind_pure _).keeps
      unfold fieldPlace
      refine (blind_sizeOf _).keeps.bind fun n => ?_
      split
      · unfold partAt
        refine (looks_byteOf _).keeps.bind fun b => (looks_byteOf _).keeps.bind fun b => (blind_pure _).keeps
      · exact (blind_pure _).keeps
    · exact (never_stuck _).blind.keeps
  · exact (never_stuck _).blind.keeps
theorem keeps_len (ts : Array TypeId) (t : TypeId) (xs : Array Value) : (Builtin.len_ ts t xs).Keeps P := by
  unfold Builtin.len_
  split
  · refine (blind_underlying _).keeps.bind fun u => ?_
    split
    · exact (blind_pure _).keeps
    · exact (blind_pure _).keeps
    · refine (blind_underlying _).keeps.bind fun u => ?_
      split
      · exact (blind_pure _).keeps
      · exact (never_stuck _).blind.keeps
    · exact (blind_pure _).keeps
    · exact (blind_pure _).keeps
    · exact (blind_pure _).keeps
    · exact Sem.Looks.keeps ((looks_getObj _).bind fun o => by split <;> trivial)
    · exact Sem.Looks.keeps ((looks_getObj _).bind fun o => by split <;> trivial)
    · exact (never_stuck _).blind.keeps
  · exact (never_stuck _).blind.keeps
theorem blind_len_slice {ts : Array TypeId} {t u e : TypeId} {xs : Array Value} (h0 : ts[0]? = some u) (hu : P.underlying u = some (.slice e)) : (Builtin.len_ ts t xs).Blind P := by
  unfold Builtin.len_
  split
  · rename_i t' x h
    refine blind_underlying_bind fun d hd => ?_
    have e1 : t' = u := by
      have := congrArg Prod.fst h
      simpa [h0] using this.symm
    rw [e1, hu] at hd
    injection hd with hd
    subst hd
    split <;> first | exact blind_pure _ | exact (never_stuck _).blind | (rename_i h1 _; cases h1; done) | (rename_i h1; cases h1; done) | (rename_i h1 _ _; cases h1; done)
  · exact (never_stuck _).blind
theorem blind_convert_int {src dst : TypeId} {k ks : IntKind} (hs : P.underlying src = some (.int ks)) (hd : P.underlying dst = some (.int k)) (x : Value) (hx : plainV x = true) : (convert src dst x).Blind P := by
  unfold convert
  refine blind_underlying_bind fun s h' => blind_underlying_bind fun d h => ?_
  rw [hs] at h'
  injection h' with h'
  subst h'
  rw [hd] at h
  injection h with h
  subst h
  cases x <;> first | cases hx | skip
  all_goals split <;> first
    | exact blind_pure _
    | exact (never_unsupported _).blind
    | contradiction
    | (rename_i h1; cases h1; done)
    | (rename_i h1 _; cases h1; done)
    | skip
end
end Go
