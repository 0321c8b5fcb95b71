/-
  A region that draws its order may be walked in the order of its text: part 2: the law. No program in this text.
-/
import Derived.Test.YtgnhbccmdpkbiaaDoorText
import Derived.Test.YtgnhbccmdpkbiaaDoorReg
namespace Go

/-- An operation, run: a value or nothing; blind (true) or keeping the world (false). -/
def OpIs (P : Program) (b : Bool) (s : Sem Next) : Prop := (∀ w n w', s.run P w = .ok n w' → ∃ v, n = .value v) ∧ (bif b then s.Blind P else s.Keeps P)

section
variable {P : Program}
theorem opIs_value {b : Bool} {s : Sem Value} (h : bif b then s.Blind P else s.Keeps P) : OpIs P b (do pure (.value (← s))) := by
  refine ⟨fun w n w' e => ?_, ?_⟩
  · obtain ⟨v, w1, _, e2⟩ := run_bind_ok e
    have e3 : (pure (Next.value v) : Sem Next).run P w1 = .ok (.value v) w1 := rfl
    rw [e3] at e2
    injection e2 with e4 _
    exact ⟨v, e4.symm⟩
  · cases b
    · exact Sem.Keeps.bind h fun _ => (blind_pure _).keeps
    · exact Sem.Blind.bind h fun _ => blind_pure _
theorem OpIs.keeps {b : Bool} {s : Sem Next} (h : OpIs P b s) : s.Keeps P := by
  cases b
  · exact h.2
  · exact Sem.Blind.keeps h.2

/-- An operand that must be a number, a truth value or a text: the slot it lies in. -/
def Operand.slots : Operand → List Tmp
  | .tmp t => [t]
  | _ => []
def Operand.plainB : Operand → Bool
  | .tmp _ => true
  | .const v => plainV v
  | _ => false
def Operand.nilB : Operand → Bool
  | .const v => nilV v
  | _ => false
def intType (P : Program) (t : TypeId) : Bool := match P.underlying t with | some (.int _) => true | _ => false
def sliceType (P : Program) (t : TypeId) : Bool := match P.underlying t with | some (.slice _) => true | _ => false
def eqOp : BinOp → Bool
  | .eql | .neq => true
  | _ => false
/-- What an operation is, by its text: blind, keeping the world, or neither; and the slots that must be plain. -/
def Op.calm (P : Program) : Op → Option (Bool × List Tmp)
  | .move _ | .assign _ | .pick _ _ _ | .extract _ _ | .unOp _ _ _ | .field _ _ _ | .index _ _ _ | .indexAddr _ _ _ => some (true, [])
  | .load _ _ | .fieldAddr _ _ _ => some (false, [])
  | .binOp op _ x y _ => if eqOp op && (x.nilB || y.nilB) then some (true, []) else if x.plainB && y.plainB then some (true, x.slots ++ y.slots) else none
  | .convert s d x => if intType P s && intType P d && x.plainB then some (true, x.slots) else none
  | .call { callee := .builtin .len, args := _, argTypes := ts } => some ((match ts[0]? with | some t => sliceType P t | none => false), [])
  | _ => none

/-- The slots hold plain values. -/
def plainAt (a : Act) (ds : List Tmp) : Prop := ∀ d ∈ ds, plainV (a.tmps.getD d undef) = true

theorem plain_operand {a : Act} {x : Operand} (h : x.plainB = true) (hp : plainAt a x.slots) : plainV (a.eval x) = true := by
  cases x with
  | tmp t => exact hp t (by simp [Operand.slots])
  | const v => exact h
  | global g => cases h
  | func f => cases h
theorem nil_operand {a : Act} {x : Operand} (h : x.nilB = true) : nilV (a.eval x) = true := by
  cases x with
  | const v => exact h
  | _ => cases h

theorem blind_eqGuard_nil (op : BinOp) (t : TypeId) (x y : Operand) (a : Act) (h : x.nilB = true ∨ y.nilB = true) : (eqGuard op t x y (a.eval x) (a.eval y)).Blind P := by
  unfold eqGuard
  split
  all_goals first
    | exact blind_pure _
    | (simp only [Bool.not_true, Bool.false_eq_true, if_false]
       split
       · rcases h with h | h
         · cases x <;> first | cases h | exact blind_pure _
         · cases y <;> first | cases h | (cases x <;> exact blind_pure _)
       · rename_i h1 h2
         rcases h with h | h
         · have := nil_operand (a := a) h; rw [h1] at this; cases this
         · have := nil_operand (a := a) h; rw [h2] at this; cases this
       · exact blind_pure _)

theorem calm_is {o : Oper} {b : Bool} {ds : List Tmp} {a : Act} (h : o.op.calm P = some (b, ds)) (hp : plainAt a ds) : OpIs P b (execOp a.eval o) := by
  obtain ⟨dst, op, type, pos, after, guard⟩ := o
  have pv : ∀ v : Value, OpIs P true (pure (.value v)) := fun v => opIs_value (s := pure v) (blind_pure v)
  cases op with
  | move x => cases h; exact pv _
  | assign x => cases h; exact pv _
  | pick c x y =>
    cases h
    refine ⟨fun w n w' e => ?_, (blind_asBool _).bind fun _ => blind_pure _⟩
    obtain ⟨v, w1, _, e2⟩ := run_bind_ok e
    injection e2 with e4 _
    exact ⟨_, e4.symm⟩
  | extract t i => cases h; exact opIs_value (blind_extract _ _)
  | unOp op t x => cases h; exact opIs_value (blind_unary _ _)
  | field t x f => cases h; exact opIs_value (blind_field _ _ _)
  | index t x i => cases h; exact opIs_value (blind_index _ _ _)
  | indexAddr t x i => cases h; exact opIs_value (blind_indexAt _ _ _)
  | load t x => cases h; exact opIs_value (keeps_loadAt _ _)
  | fieldAddr t x f => cases h; exact opIs_value (keeps_fieldAt _ _ _)
  | binOp op t x y yt =>
    simp only [Op.calm] at h
    split at h
    · rename_i hc
      cases h
      simp only [Bool.and_eq_true, Bool.or_eq_true] at hc
      refine opIs_value (b := true) (s := do eqGuard op t x y (a.eval x) (a.eval y); binOp op t (a.eval x) (a.eval y)) ?_
      refine (blind_eqGuard_nil op t x y a hc.2).bind fun _ => blind_binOp_nil op ?_ t _ _ (hc.2.imp nil_operand nil_operand)
      have := hc.1
      cases op <;> first | exact .inl rfl | exact .inr rfl | cases this
    · split at h
      · rename_i hc
        cases h
        simp only [Bool.and_eq_true] at hc
        have hx := plain_operand hc.1 (fun d hd => hp d (List.mem_append_left _ hd))
        have hy := plain_operand hc.2 (fun d hd => hp d (List.mem_append_right _ hd))
        exact opIs_value (b := true) (s := do eqGuard op t x y (a.eval x) (a.eval y); binOp op t (a.eval x) (a.eval y)) ((blind_eqGuard_plain op t x y _ _ hx).bind fun _ => blind_binOp_plain op t _ _ hx hy)
      · cases h
  | convert s d x =>
    simp only [Op.calm] at h
    split at h
    · rename_i hc
      cases h
      simp only [Bool.and_eq_true] at hc
      have hx := plain_operand hc.2 hp
      have h1 := hc.1.1
      have h2 := hc.1.2
      unfold intType at h1 h2
      split at h1
      · rename_i e1
        split at h2
        · rename_i e2
          exact opIs_value (b := true) (blind_convert_int e1 e2 _ hx)
        · cases h2
      · cases h1
    · cases h
  | call c =>
    obtain ⟨callee, args, ts⟩ := c
    cases callee with
    | builtin bi =>
      have hb : bi = .len := by cases bi <;> first | rfl | cases h
      subst hb
      simp only [Op.calm, Option.some.injEq, Prod.mk.injEq] at h
      obtain ⟨h, _⟩ := h
      subst h
      have e : execOp a.eval ⟨dst, .call ⟨.builtin .len, args, ts⟩, type, pos, after, guard⟩ = (do pure (.value (← Builtin.len_ ts type (args.map a.eval)))) := rfl
      rw [e]
      refine opIs_value ?_
      cases h0 : ts[0]? with
      | none => exact keeps_len _ _ _
      | some t =>
        dsimp only
        cases hu : sliceType P t
        · exact keeps_len _ _ _
        · unfold sliceType at hu
          split at hu
          · rename_i e1
            exact blind_len_slice h0 e1
          · cases hu
    | _ => cases h
  | _ => cases h

/-! ### Two operations change places -/
variable {ops : Array Oper} {Q : Exit → Act → World → Prop}
/-- What is asked of a region: that it comes to its end. -/
def AtEnd (Q : Exit → Act → World → Prop) : Exit → Act → World → Prop
  | .normal, a, w => Q .normal a w
  | _, _, _ => False
theorem not_letsOut : ¬ LetsOut (AtEnd Q) := fun ⟨_, _, h⟩ => h

/-- A step to a value. -/
def StepsTo (P : Program) (ops : Array Oper) (o : Oper) (a : Act) (w : World) (v : Value) (w' : World) : Prop :=
  (Region.wanted o (yielded ops a.tmps) = true ∧ (execOp a.eval o).run P w = .ok (.value v) w') ∨ (Region.wanted o (yielded ops a.tmps) = false ∧ v = undef ∧ w' = w)

theorem StepsTo.wpOp {i : Nat} {o : Oper} {a : Act} {w w' : World} {v : Value} {K : Act → World → Prop} (ho : ops[i]? = some o) (h : StepsTo P ops o a w v w') (hk : K (a.put o.dst v) w') :
    wpOp P ops Q i K a w := by
  unfold Go.wpOp
  simp only [ho]
  rcases h with ⟨h1, h2⟩ | ⟨h1, rfl, rfl⟩
  · rw [if_pos h1]; left; unfold Oper.wp; rw [h2]; exact hk
  · rw [if_neg (by rw [h1]; exact Bool.false_ne_true)]; exact hk
theorem stepsTo_of {i : Nat} {o : Oper} {a : Act} {w : World} {K : Act → World → Prop} {b : Bool} (ho : ops[i]? = some o) (hc : OpIs P b (execOp a.eval o)) (h : wpOp P ops (AtEnd Q) i K a w) :
    ∃ v, StepsTo P ops o a w v w ∧ K (a.put o.dst v) w := by
  unfold Go.wpOp at h
  simp only [ho] at h
  split at h
  · rename_i hw
    rcases h with h | h
    · unfold Oper.wp at h
      generalize hr : (execOp a.eval o).run P w = r at h
      cases r with
      | ok n w' =>
        obtain ⟨v, rfl⟩ := hc.1 _ _ _ hr
        have := hc.keeps _ _ _ hr
        subst this
        exact ⟨v, .inl ⟨hw, hr⟩, h⟩
      | halt x w' => cases x <;> exact h.elim
    · exact absurd h.2 not_letsOut
  · rename_i hw
    exact ⟨undef, .inr ⟨by simpa using hw, rfl, rfl⟩, h⟩
theorem StepsTo.yields {o : Oper} {a : Act} {w : World} {v : Value} (hc : OpIs P true (execOp a.eval o)) (h : StepsTo P ops o a w v w) : Yields P ops o v a :=
  h.imp (fun ⟨h1, h2⟩ => ⟨h1, hc.2 _ _ _ h2⟩) (fun ⟨h1, h2, _⟩ => ⟨h1, h2⟩)
/-- A step is the same where another slot is written. -/
theorem StepsTo.put {o o' : Oper} {a : Act} {w w' : World} {v u : Value} (hs : ∀ cs b, o.op ≠ .select cs b) (hd : ∀ d, o'.dst = some d → d ∉ o.looksAt ops) : StepsTo P ops o (a.put o'.dst u) w v w' ↔ StepsTo P ops o a w v w' := by
  unfold StepsTo
  rw [execOp_put o hs a o'.dst u hd, wanted_put o a o'.dst u hd]

/-- Some end of a step. -/
theorem outcome {i : Nat} {o : Oper} {a : Act} {w : World} {K : Act → World → Prop} (ho : ops[i]? = some o) (h : wpOp P ops (AtEnd Q) i K a w) :
    ∃ u ds w', K ({ a with defers := ds }.put o.dst u) w' := by
  unfold Go.wpOp at h
  simp only [ho] at h
  split at h
  · rcases h with h | h
    · unfold Oper.wp at h
      generalize (execOp a.eval o).run P w = r at h
      cases r with
      | ok n w' =>
        cases n <;> simp only [Oper.upon] at h
        case value v => exact ⟨v, a.defers, w', h⟩
        case skip => exact ⟨undef, a.defers, w', h⟩
        case defer d => exact ⟨undef, d :: a.defers, w', h⟩
        case enter f args =>
          obtain ⟨e, w'', fr, hr, _⟩ := h []
          cases e with
          | returned v => exact ⟨v, a.defers, w'', hr⟩
          | panicked c => exact hr.elim
          | outgrown => exact absurd hr not_letsOut
        case row row args =>
          obtain ⟨v, w'', hr, _⟩ := h default []
          exact ⟨v, a.defers, w'', hr⟩
      | halt x w' => cases x <;> exact h.elim
    · exact absurd h.2 not_letsOut
  · exact ⟨undef, a.defers, w, h⟩

/-- An operation, behind one that is apart from it and yields v wherever. -/
theorem wpOp_unput {j : Nat} {oi oj : Oper} {v : Value} (hj : ops[j]? = some oj) (hap : oj.apart ops oi = true)
    (hsi : ∀ cs b, oi.op ≠ .select cs b) (hsj : ∀ cs b, oj.op ≠ .select cs b) {K : Act → World → Prop} {a : Act} {w : World}
    (hy : Yields P ops oi v a) (h : wpOp P ops (AtEnd Q) j K a w) :
    wpOp P ops (AtEnd Q) j (fun a' w' => ∃ a1, a' = a1.put oi.dst v ∧ Yields P ops oi v a1 ∧ K a1 w') (a.put oi.dst v) w := by
  obtain ⟨h1, h2, h3⟩ := Oper.apart_spec hap
  have keep : ∀ (a : Act), Yields P ops oi v a → ∀ u, Yields P ops oi v (a.put oj.dst u) := fun a hy u =>
    hy.of_same (execOp_put oi hsi a oj.dst u h1) (wanted_put oi a oj.dst u h1)
  have keepD : ∀ d, Yields P ops oi v { a with defers := d :: a.defers } := fun d => hy.of_same rfl rfl
  have h2' : ∀ d, oi.dst = some d → oj.dst ≠ some d := fun d hd hd' => h2 d hd' hd
  unfold wpOp at *
  simp only [hj] at *
  rw [wanted_put oj a oi.dst v h3]
  split
  · rename_i hw
    simp only [hw, if_true] at h
    rcases h with h | ⟨_, hlets⟩
    case inr => exact absurd hlets not_letsOut
    refine .inl ?_
    unfold Oper.wp at *
    rw [execOp_put oj hsj a oi.dst v h3]
    generalize (execOp a.eval oj).run P w = r at *
    cases r with
    | ok n w' =>
      cases n <;> simp only [Oper.upon] at h ⊢
      case value u => exact ⟨_, Act.put_comm a v u h2', keep a hy u, h⟩
      case skip => exact ⟨_, Act.put_comm a v undef h2', keep a hy _, h⟩
      case defer d =>
        refine ⟨_, ?_, keep _ (keepD d) _, h⟩
        rw [Act.put_defers a oi.dst v d]
        exact Act.put_comm _ v undef h2'
      case enter f args =>
        refine Calls.mono h fun e w'' he => ?_
        cases e with
        | returned u => exact ⟨_, Act.put_comm a v u h2', keep a hy u, he⟩
        | panicked c => exact he
        | outgrown => exact he
      case row row args => exact Rows.mono h fun u w'' he => ⟨_, Act.put_comm a v u h2', keep a hy u, he⟩
    | halt x w' =>
      cases x <;> simp only [Oper.upon] at h ⊢
      case panic u => exact h
  · rename_i hw
    simp only [hw] at h
    exact ⟨_, Act.put_comm a v undef h2', keep a hy _, h⟩
theorem Yields.then {i : Nat} {o : Oper} {a : Act} {w : World} {v : Value} {K : Act → World → Prop} (ho : ops[i]? = some o) (hy : Yields P ops o v a) (h : Go.wpOp P ops (AtEnd Q) i K a w) : K (a.put o.dst v) w := by
  unfold Go.wpOp at h
  simp only [ho] at h
  rcases hy with ⟨h1, h2⟩ | ⟨h1, rfl⟩
  · rw [if_pos h1] at h
    rcases h with h | h
    · unfold Oper.wp at h; rw [h2 w] at h; exact h
    · exact absurd h.2 not_letsOut
  · rw [if_neg (by rw [h1]; exact Bool.false_ne_true)] at h; exact h

/-- Two operations that are apart change places: one is blind, or both keep the world. -/
theorem swap {t i : Nat} {ot oi : Oper} (ht : ops[t]? = some ot) (hi : ops[i]? = some oi) (hap : ot.apart ops oi = true) (hst : ∀ cs b, ot.op ≠ .select cs b) (hsi : ∀ cs b, oi.op ≠ .select cs b)
    {K : Act → World → Prop} {a : Act} {w : World}
    (hc : OpIs P true (execOp a.eval ot) ∨ OpIs P true (execOp a.eval oi) ∨ (OpIs P false (execOp a.eval ot) ∧ OpIs P false (execOp a.eval oi)))
    (h : wpOp P ops (AtEnd Q) t (wpOp P ops (AtEnd Q) i K) a w) : wpOp P ops (AtEnd Q) i (wpOp P ops (AtEnd Q) t K) a w := by
  obtain ⟨h1, h2, h3⟩ := Oper.apart_spec hap
  rcases hc with hc | hc | ⟨hct, hci⟩
  · obtain ⟨v, hs, hk⟩ := stepsTo_of ht hc h
    have hy := hs.yields hc
    have := wpOp_put (Q := AtEnd Q) hi hap hst hsi (fun _ _ _ h => h) hy hk
    exact wpOp_mono (fun a' w' ⟨hy', hk'⟩ => hy'.wpOp ht hk') this
  · obtain ⟨u, ds, w', hk⟩ := outcome ht h
    have e1 : execOp ({ a with defers := ds }.put ot.dst u).eval oi = execOp a.eval oi := execOp_put (ops := ops) oi hsi { a with defers := ds } ot.dst u h1
    obtain ⟨v, hs, _⟩ := stepsTo_of hi (by rw [e1]; exact hc) hk
    have hy : Yields P ops oi v a := (hs.yields (by rw [e1]; exact hc)).of_same e1.symm (wanted_put oi { a with defers := ds } ot.dst u h1).symm
    refine hy.wpOp hi ?_
    refine wpOp_mono ?_ (wpOp_unput ht hap hsi hst hy h)
    rintro a' w' ⟨a1, rfl, hy1, hk1⟩
    exact hy1.then hi hk1
  · obtain ⟨v, hs, hk⟩ := stepsTo_of ht hct h
    have e1 : execOp (a.put ot.dst v).eval oi = execOp a.eval oi := execOp_put (ops := ops) oi hsi a ot.dst v h1
    obtain ⟨u, hs2, hk2⟩ := stepsTo_of hi (by rw [e1]; exact hci) hk
    refine StepsTo.wpOp hi ((StepsTo.put hsi h1).1 hs2) (StepsTo.wpOp ht ((StepsTo.put hst h3).2 hs) ?_)
    rw [← Act.put_comm a v u h2]
    exact hk2
end
end Go
