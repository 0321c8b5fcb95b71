/-
  A region that draws its order, as in the text before, where an edge that binds one compiler alone may lead ahead: each order has ranks of its own. No program in this text.
-/
import Derived.Test.YtffkohdnhaebjaaGreatDoorReg
namespace Go

/-- The closed check: every edge that binds leads to a lesser rank. -/
def edgesRank (m : Region.Mode) (r : Nat → Nat) (n : Nat) (ops : List Oper) (i : Nat) : Bool := match ops with
  | [] => true
  | o :: t => (o.after.toList.all fun e => !Region.binds m e || (decide (e.on < n) && decide (r e.on < r i))) && edgesRank m r n t (i + 1)
theorem edgesRank_get {m : Region.Mode} {r : Nat → Nat} {n : Nat} : ∀ (l : List Oper) (k : Nat), edgesRank m r n l k = true → ∀ i o, l[i]? = some o → ∀ e ∈ o.after.toList, Region.binds m e = true → e.on < n ∧ r e.on < r (k + i)
  | [], _, _, i, o, ho => by simp at ho
  | x :: l, k, h, 0, o, ho => by
    simp at ho; subst ho
    simp only [edgesRank, Bool.and_eq_true, List.all_eq_true] at h
    intro e he hbe; have := h.1 e he; rw [hbe] at this; simpa using this
  | x :: l, k, h, i + 1, o, ho => by
    simp only [edgesRank, Bool.and_eq_true] at h
    intro e he hbe
    have := edgesRank_get l (k + 1) h.2 i o (by simpa using ho) e he hbe
    rw [show k + 1 + i = k + (i + 1) by omega] at this
    exact this

theorem go_valid_r {ops : Array Oper} (m : Region.Mode) (r : Nat → Nat) (h : edgesRank m r ops.size ops.toList 0 = true) :
    ∀ (fuel t : Nat) (listed : Array Bool) (acc : List Nat), listed.size = ops.size → (listed.toList.filter (!·)).length ≤ fuel →
      ∃ rest, Region.linearise.go m ops fuel t listed acc = acc.reverse ++ rest ∧ Valid ops (fun i => listed[i]? = some true) rest
  | 0, t, listed, acc, hsz, hf => by
    refine ⟨[], by simp [Region.linearise.go], ?_⟩
    intro i hi
    have hl : i < listed.size := by omega
    rw [Array.getElem?_eq_getElem hl]
    congr 1
    cases hv : listed[i] with
    | true => rfl
    | false =>
      exfalso
      have hm : listed[i] ∈ listed.toList.filter (!·) := List.mem_filter.2 ⟨by simp, by simp [hv]⟩
      have hne : listed.toList.filter (!·) ≠ [] := List.ne_nil_of_mem hm
      exact hne (List.eq_nil_of_length_eq_zero (by omega))
  | fuel + 1, t, listed, acc, hsz, hf => by
    unfold Region.linearise.go
    simp only
    generalize hrs : (List.range ops.size).filter (fun i => !listed.getD i true && ((ops[i]?).map (·.after.all fun e => !Region.binds m e || listed.getD e.on false)).getD false) = rs
    cases hget : rs[t % rs.length]? with
    | none =>
      have hnil : rs = [] := by
        cases rs with
        | nil => rfl
        | cons x r =>
          exfalso
          rw [List.getElem?_eq_none_iff] at hget
          have := Nat.mod_lt t (show 0 < (x :: r).length by simp)
          omega
      refine ⟨[], by simp, ?_⟩
      -- no operation is left: by strong induction on its number
      have key : ∀ n i, r i = n → i < ops.size → listed[i]? = some true := by
       intro n
       induction n using Nat.strongRecOn with
       | ind n ih =>
        intro i hn hi
        have hl : i < listed.size := by omega
        rw [Array.getElem?_eq_getElem hl]
        congr 1
        cases hv : listed[i] with
        | true => rfl
        | false =>
          exfalso
          have hmem : i ∈ rs := by
            rw [← hrs]
            refine List.mem_filter.2 ⟨List.mem_range.2 hi, ?_⟩
            have ho : ops[i]? = some ops[i] := Array.getElem?_eq_getElem hi
            have hlg : listed.getD i true = false := by rw [Array.getD_eq_getD_getElem?, Array.getElem?_eq_getElem hl, hv]; rfl
            simp only [hlg, Bool.not_false, Bool.true_and, ho, Option.map_some, Option.getD_some]
            rw [Array.all_eq_true']
            intro e he
            cases hbe : Region.binds m e with
            | false => simp
            | true =>
              obtain ⟨hon, hlt⟩ := edgesRank_get ops.toList 0 h i ops[i] (by simp [hi]) e (by simpa using he) hbe
              have hd := ih (r e.on) (by rw [← hn]; simpa using hlt) e.on rfl hon
              rw [Array.getD_eq_getD_getElem?, hd]; simp
          rw [hnil] at hmem; cases hmem
      exact fun i hi => key _ i rfl hi
    | some i =>
      simp only
      have hmem : i ∈ rs := List.mem_of_getElem? hget
      rw [← hrs] at hmem
      obtain ⟨hr, hcond⟩ := List.mem_filter.1 hmem
      have hi : i < ops.size := List.mem_range.1 hr
      have hl : i < listed.size := by omega
      simp only [Bool.and_eq_true, Bool.not_eq_true'] at hcond
      obtain ⟨hfalse, hdeps⟩ := hcond
      have hv : listed[i] = false := by
        rw [Array.getD_eq_getD_getElem?, Array.getElem?_eq_getElem hl] at hfalse; simpa using hfalse
      have ho : ops[i]? = some ops[i] := Array.getElem?_eq_getElem hi
      rw [ho] at hdeps
      simp only [Option.map_some, Option.getD_some, Array.all_eq_true'] at hdeps
      have hcount : ((listed.setIfInBounds i true).toList.filter (!·)).length ≤ fuel := by
        have e : (listed.setIfInBounds i true).toList = listed.toList.set i true := by simp
        rw [e]
        have key : ∀ (l : List Bool) (i : Nat) (hi : i < l.length), l[i] = false → ((l.set i true).filter (!·)).length + 1 = (l.filter (!·)).length := by
          intro l
          induction l with
          | nil => intro i hi; simp at hi
          | cons b r ih =>
            intro i hi hb
            cases i with
            | zero => simp at hb; subst hb; simp
            | succ i =>
              have := ih i (by simpa using hi) (by simpa using hb)
              simp only [List.set_cons_succ, List.filter_cons]
              cases b <;> simp <;> omega
        have := key listed.toList i (by simpa using hl) (by simpa using hv)
        omega
      obtain ⟨rest, hgo, hval⟩ := go_valid_r m r h fuel (t / rs.length) (listed.setIfInBounds i true) (i :: acc) (by simpa using hsz) hcount
      refine ⟨i :: rest, by rw [hgo]; simp, ⟨ops[i], ho, by simp [Array.getElem?_eq_getElem hl, hv], ?_⟩, ?_⟩
      · intro j hj
        simp only [List.any_eq_true] at hj
        obtain ⟨e, he0, hej⟩ := hj
        have he : e ∈ ops[i].after := by simpa using he0
        simp only [Bool.and_eq_true] at hej
        have hej' : e.on = j := by simpa using hej.2
        have hbm := binds_any (m := m) hej.1
        have := hdeps e he
        simp only [hbm, Bool.not_true, Bool.false_or] at this
        subst hej'
        rw [Array.getD_eq_getD_getElem?] at this
        cases hx : listed[e.on]? with
        | none => rw [hx] at this; simp at this
        | some b => rw [hx] at this; simp at this; rw [this]
      · refine Valid.congr ?_ hval
        intro j
        rw [Array.getElem?_setIfInBounds]
        by_cases hji : i = j
        · subst hji; simp [hl]
        · rw [if_neg hji]; exact ⟨.inl, fun h => h.elim id (fun e => absurd e.symm hji)⟩

theorem wp_region_inv_r {P : Program} {id : Nat} {l : List Oper} {Q : Exit → Act → World → Prop} {a : Act} {w : World}
    (I : Act → World → (Nat → Prop) → Act → World → Prop) (r : Region.Mode → Nat → Nat) (hb : ∀ m, edgesRank m (r m) l.length l 0 = true)
    (h0 : I a w.drew (fun _ => False) a w.drew) (hs : StepsAll P l.toArray Q (I a w.drew) 0 l)
    (hend : ∀ D a' w', (∀ i, i < l.length → D i) → I a w.drew D a' w' → Q .normal a' w') : (Code.region id l.toArray true).wp P Q a w := by
  refine wp_region_draw fun t => ?_
  have hb' : ∀ m, edgesRank m (r m) l.toArray.size l.toArray.toList 0 = true := by simpa using hb
  have key : ∀ m t, wpOps P l.toArray Q (Region.linearise m l.toArray t) a w.drew := by
    intro m t
    unfold Region.linearise
    obtain ⟨rest, hgo, hval⟩ := go_valid_r m (r m) (hb' m) l.toArray.size t (Array.replicate l.toArray.size false) [] (by simp) (by
      refine Nat.le_trans (List.length_filter_le _ _) ?_; simp)
    rw [hgo, List.reverse_nil, List.nil_append]
    refine wpOps_inv (I := I a w.drew) (by simpa using hs) (fun D a' w' hall hi => hend D a' w' (by simpa using hall) hi) rest (fun _ => False) a w.drew ?_ h0
    refine Valid.congr ?_ hval
    intro j
    rw [Array.getElem?_replicate]
    split <;> simp
  unfold Region.schedule
  split
  · exact key _ _
  · exact key _ _
end Go
