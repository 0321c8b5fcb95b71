/-
  A region that draws its order, by an invariant: each operation is shown once, from whatever set of operations that holds its own premises. No program in this text.
-/
import Derived.WalkKit
namespace Go

def StepQ (Q : Exit → Act → World → Prop) (R : Act → World → Prop) : Exit → Act → World → Prop
  | .normal, a, w => R a w
  | .exit i, a, w => Q (.exit i) a w
  | .goto i, a, w => Q (.goto i) a w
  | .ret, a, w => Q .ret a w
  | .panic c, a, w => Q (.panic c) a w
  | .outgrown, a, w => Q .outgrown a w

def Needs (D : Nat → Prop) (o : Oper) : Prop := ∀ j, o.after.toList.any (fun e => Region.binds .any e && e.on == j) = true → D j

def StepsAll (P : Program) (ops : Array Oper) (Q : Exit → Act → World → Prop) (I : (Nat → Prop) → Act → World → Prop) : Nat → List Oper → Prop
  | _, [] => True
  | i, o :: r => (∀ D a w, I D a w → ¬ D i → Needs D o → wpList P ops (StepQ Q (I (fun j => D j ∨ j = i))) [o] a w) ∧ StepsAll P ops Q I (i + 1) r
theorem StepsAll.nil {P ops Q I i} : StepsAll P ops Q I i [] := trivial
theorem StepsAll.cons {P ops Q I i o r} (h : ∀ D a w, I D a w → ¬ D i → Needs D o → wpList P ops (StepQ Q (I (fun j => D j ∨ j = i))) [o] a w) (hr : StepsAll P ops Q I (i + 1) r) : StepsAll P ops Q I i (o :: r) := ⟨h, hr⟩

theorem StepsAll.get {P ops Q I} : ∀ (l : List Oper) (k : Nat), StepsAll P ops Q I k l → ∀ i o, l[i]? = some o →
    ∀ D a w, I D a w → ¬ D (k + i) → Needs D o → wpList P ops (StepQ Q (I (fun j => D j ∨ j = k + i))) [o] a w
  | [], _, _, i, o, ho => by simp at ho
  | x :: l, k, h, 0, o, ho => by
    simp at ho; subst ho; exact h.1
  | x :: l, k, h, i + 1, o, ho => by
    have := StepsAll.get l (k + 1) h.2 i o (by simpa using ho)
    have e : k + (i + 1) = k + 1 + i := by omega
    rw [e]; exact this

/-- What a list of operations' numbers must be, from a set that is done. -/
def Valid (ops : Array Oper) : (Nat → Prop) → List Nat → Prop
  | D, [] => ∀ i, i < ops.size → D i
  | D, i :: r => (∃ o, ops[i]? = some o ∧ ¬ D i ∧ Needs D o) ∧ Valid ops (fun j => D j ∨ j = i) r
theorem Valid.congr {ops : Array Oper} : ∀ {l : List Nat} {D D' : Nat → Prop}, (∀ j, D j ↔ D' j) → Valid ops D l → Valid ops D' l
  | [], _, _, h, v => fun i hi => (h i).1 (v i hi)
  | _ :: _, _, _, h, ⟨⟨o, ho, hd, hn⟩, v⟩ => ⟨⟨o, ho, fun x => hd ((h _).2 x), fun j hj => (h j).1 (hn j hj)⟩, Valid.congr (fun j => or_congr (h j) Iff.rfl) v⟩

theorem wpOps_inv {P : Program} {ops : Array Oper} {Q : Exit → Act → World → Prop} {I : (Nat → Prop) → Act → World → Prop}
    (hs : StepsAll P ops Q I 0 ops.toList) (hend : ∀ D a w, (∀ i, i < ops.size → D i) → I D a w → Q .normal a w) :
    ∀ (l : List Nat) (D : Nat → Prop) a w, Valid ops D l → I D a w → wpOps P ops Q l a w
  | [], D, a, w, hv, hi => hend D a w hv hi
  | i :: r, D, a, w, ⟨⟨o, ho, hd, hn⟩, hv⟩, hi => by
    have h := StepsAll.get ops.toList 0 hs i o (by simpa using ho) D a w hi (by simpa using hd) hn
    rw [Nat.zero_add] at h
    have rec_ := wpOps_inv hs hend r (fun j => D j ∨ j = i)
    simp only [wpOps, ho]
    simp only [wpList] at h
    have hstep : ∀ a' w', StepQ Q (I (fun j => D j ∨ j = i)) .normal a' w' → wpOps P ops Q r a' w' := fun a' w' h' => rec_ a' w' hv h'
    split at h
    · rename_i hw
      rw [if_pos hw]
      rcases h with h | ⟨h, a₀, w₀, hq⟩
      · left
        unfold Oper.wp at h ⊢
        revert h
        generalize (execOp a.eval o).run P w = rr
        intro h
        cases rr with
        | ok x w' =>
          cases x with
          | value v => exact hstep _ _ h
          | skip => exact hstep _ _ h
          | defer d => exact hstep _ _ h
          | enter f args =>
            refine Calls.mono (show Calls P f args w' _ from h) ?_
            intro e w'' h'
            cases e with
            | returned v => exact hstep _ _ h'
            | panicked chain => exact h'
            | outgrown =>
              obtain ⟨a₁, w₁, h₁⟩ := h'
              exact ⟨a₁, w₁, h₁⟩
          | row row args =>
            refine Rows.mono (show Rows P row args w' _ from h) ?_
            intro v w'' h'
            exact hstep _ _ h'
          | _ => exact h
        | halt x w' =>
          cases x <;> exact h
      · right
        exact ⟨h, a₀, w₀, hq⟩
    · rename_i hw
      rw [if_neg hw]
      exact hstep _ _ h

/-- The closed check: every edge binds and leads back. -/
def edgesBack (ops : List Oper) (i : Nat) : Bool := match ops with
  | [] => true
  | o :: r => (o.after.toList.all fun e => decide (e.on < i)) && edgesBack r (i + 1)
theorem edgesBack_get : ∀ (l : List Oper) (k : Nat), edgesBack l k = true → ∀ i o, l[i]? = some o → ∀ e ∈ o.after.toList, e.on < k + i
  | [], _, _, i, o, ho => by simp at ho
  | x :: l, k, h, 0, o, ho => by
    simp at ho; subst ho
    simp only [edgesBack, Bool.and_eq_true, List.all_eq_true] at h
    intro e he; have := h.1 e he; simpa using this
  | x :: l, k, h, i + 1, o, ho => by
    simp only [edgesBack, Bool.and_eq_true] at h
    have := edgesBack_get l (k + 1) h.2 i o (by simpa using ho)
    intro e he; have := this e he
    omega

theorem binds_any {m : Region.Mode} {e : Edge} (h : Region.binds .any e = true) : Region.binds m e = true := by
  unfold Region.binds at h ⊢; cases hg : e.ground <;> simp_all

theorem go_valid {ops : Array Oper} (m : Region.Mode) (h : edgesBack ops.toList 0 = true) :
    ∀ (fuel t : Nat) (listed : Array Bool) (acc : List Nat), listed.size = ops.size → (listed.toList.filter (!·)).length ≤ fuel →
      ∃ rest, Region.linearise.go m ops fuel t listed acc = acc.reverse ++ rest ∧ Valid ops (fun i => listed[i]? = some true) rest
  | 0, t, listed, acc, hsz, hf => by
    refine ⟨[], by simp [Region.linearise.go], ?_⟩
    intro i hi
    have hl : i < listed.size := by omega
    rw [Array.getElem?_eq_getElem hl]
    congr 1
    cases hv : listed[i] with
    | true => rfl
    | false =>
      exfalso
      have hm : listed[i] ∈ listed.toList.filter (!·) := List.mem_filter.2 ⟨by simp, by simp [hv]⟩
      have hne : listed.toList.filter (!·) ≠ [] := List.ne_nil_of_mem hm
      exact hne (List.eq_nil_of_length_eq_zero (by omega))
  | fuel + 1, t, listed, acc, hsz, hf => by
    unfold Region.linearise.go
    simp only
    generalize hrs : (List.range ops.size).filter (fun i => !listed.getD i true && ((ops[i]?).map (·.after.all fun e => !Region.binds m e || listed.getD e.on false)).getD false) = rs
    cases hget : rs[t % rs.length]? with
    | none =>
      have hnil : rs = [] := by
        cases rs with
        | nil => rfl
        | cons x r =>
          exfalso
          rw [List.getElem?_eq_none_iff] at hget
          have := Nat.mod_lt t (show 0 < (x :: r).length by simp)
          omega
      refine ⟨[], by simp, ?_⟩
      -- no operation is left: by strong induction on its number
      intro i
      induction i using Nat.strongRecOn with
      | ind i ih =>
        intro hi
        have hl : i < listed.size := by omega
        rw [Array.getElem?_eq_getElem hl]
        congr 1
        cases hv : listed[i] with
        | true => rfl
        | false =>
          exfalso
          have hmem : i ∈ rs := by
            rw [← hrs]
            refine List.mem_filter.2 ⟨List.mem_range.2 hi, ?_⟩
            have ho : ops[i]? = some ops[i] := Array.getElem?_eq_getElem hi
            have hlg : listed.getD i true = false := by rw [Array.getD_eq_getD_getElem?, Array.getElem?_eq_getElem hl, hv]; rfl
            simp only [hlg, Bool.not_false, Bool.true_and, ho, Option.map_some, Option.getD_some]
            rw [Array.all_eq_true']
            intro e he
            have hb := edgesBack_get ops.toList 0 h i ops[i] (by simp [hi]) e (by simpa using he)
            have hlt : e.on < i := by omega
            have hd := ih e.on hlt (by omega)
            rw [Array.getD_eq_getD_getElem?, hd]; simp
          rw [hnil] at hmem; cases hmem
    | some i =>
      simp only
      have hmem : i ∈ rs := List.mem_of_getElem? hget
      rw [← hrs] at hmem
      obtain ⟨hr, hcond⟩ := List.mem_filter.1 hmem
      have hi : i < ops.size := List.mem_range.1 hr
      have hl : i < listed.size := by omega
      simp only [Bool.and_eq_true, Bool.not_eq_true'] at hcond
      obtain ⟨hfalse, hdeps⟩ := hcond
      have hv : listed[i] = false := by
        rw [Array.getD_eq_getD_getElem?, Array.getElem?_eq_getElem hl] at hfalse; simpa using hfalse
      have ho : ops[i]? = some ops[i] := Array.getElem?_eq_getElem hi
      rw [ho] at hdeps
      simp only [Option.map_some, Option.getD_some, Array.all_eq_true'] at hdeps
      have hcount : ((listed.setIfInBounds i true).toList.filter (!·)).length ≤ fuel := by
        have e : (listed.setIfInBounds i true).toList = listed.toList.set i true := by simp
        rw [e]
        have key : ∀ (l : List Bool) (i : Nat) (hi : i < l.length), l[i] = false → ((l.set i true).filter (!·)).length + 1 = (l.filter (!·)).length := by
          intro l
          induction l with
          | nil => intro i hi; simp at hi
          | cons b r ih =>
            intro i hi hb
            cases i with
            | zero => simp at hb; subst hb; simp
            | succ i =>
              have := ih i (by simpa using hi) (by simpa using hb)
              simp only [List.set_cons_succ, List.filter_cons]
              cases b <;> simp <;> omega
        have := key listed.toList i (by simpa using hl) (by simpa using hv)
        omega
      obtain ⟨rest, hgo, hval⟩ := go_valid m h fuel (t / rs.length) (listed.setIfInBounds i true) (i :: acc) (by simpa using hsz) hcount
      refine ⟨i :: rest, by rw [hgo]; simp, ⟨ops[i], ho, by simp [Array.getElem?_eq_getElem hl, hv], ?_⟩, ?_⟩
      · intro j hj
        simp only [List.any_eq_true] at hj
        obtain ⟨e, he0, hej⟩ := hj
        have he : e ∈ ops[i].after := by simpa using he0
        have hb := edgesBack_get ops.toList 0 h i ops[i] (by simp [hi]) e (by simpa using he)
        simp only [Bool.and_eq_true] at hej
        have hej' : e.on = j := by simpa using hej.2
        have hbm := binds_any (m := m) hej.1
        have := hdeps e he
        simp only [hbm, Bool.not_true, Bool.false_or] at this
        subst hej'
        rw [Array.getD_eq_getD_getElem?] at this
        cases hx : listed[e.on]? with
        | none => rw [hx] at this; simp at this
        | some b => rw [hx] at this; simp at this; rw [this]
      · refine Valid.congr ?_ hval
        intro j
        rw [Array.getElem?_setIfInBounds]
        by_cases hji : i = j
        · subst hji; simp [hl]
        · rw [if_neg hji]; exact ⟨.inl, fun h => h.elim id (fun e => absurd e.symm hji)⟩

theorem wp_region_inv {P : Program} {id : Nat} {l : List Oper} {Q : Exit → Act → World → Prop} {a : Act} {w : World}
    (I : Act → World → (Nat → Prop) → Act → World → Prop) (hb : edgesBack l 0 = true)
    (h0 : I a w.drew (fun _ => False) a w.drew) (hs : StepsAll P l.toArray Q (I a w.drew) 0 l)
    (hend : ∀ D a' w', (∀ i, i < l.length → D i) → I a w.drew D a' w' → Q .normal a' w') : (Code.region id l.toArray true).wp P Q a w := by
  refine wp_region_draw fun t => ?_
  have hb' : edgesBack l.toArray.toList 0 = true := by simpa using hb
  have key : ∀ m t, wpOps P l.toArray Q (Region.linearise m l.toArray t) a w.drew := by
    intro m t
    unfold Region.linearise
    obtain ⟨rest, hgo, hval⟩ := go_valid m hb' l.toArray.size t (Array.replicate l.toArray.size false) [] (by simp) (by
      refine Nat.le_trans (List.length_filter_le _ _) ?_; simp)
    rw [hgo, List.reverse_nil, List.nil_append]
    refine wpOps_inv (I := I a w.drew) (by simpa using hs) (fun D a' w' hall hi => hend D a' w' (by simpa using hall) hi) rest (fun _ => False) a w.drew ?_ h0
    refine Valid.congr ?_ hval
    intro j
    rw [Array.getElem?_replicate]
    split <;> simp
  unfold Region.schedule
  split
  · exact key _ _
  · exact key _ _

/-- The frame with some slots written anew. -/
def putAll (a : Act) : List (Nat × Value) → Act
  | [] => a
  | (t, v) :: r => putAll { a with tmps := a.tmps.setIfInBounds t v } r
end Go
