/-
  A region that draws its order may be walked in the order of its text: part 3: the region. No program in this text.
-/
import Derived.Test.YtgnhbccmdpkbiaaDoorText2
namespace Go

section
variable {P : Program} {ops : Array Oper} {Q : Exit → Act → World → Prop}

/-- What an operation waits for, as a number's bits. -/
def predMask (ms : List Nat) (o : Oper) : Nat := o.after.toList.foldl (fun m e => if Region.binds .any e then (m ||| 2 ^ e.on) ||| ms.getD e.on 0 else m) 0
def masksGo : List Oper → List Nat → List Nat
  | [], ms => ms
  | o :: r, ms => masksGo r (ms ++ [predMask ms o])

def ClosedD (ops : Array Oper) (D : Nat → Prop) : Prop := ∀ i o, ops[i]? = some o → D i → Needs D o

theorem fold_bit (ms : List Nat) (t : Nat) : ∀ (l : List Edge) (m : Nat), (l.foldl (fun m e => if Region.binds .any e then (m ||| 2 ^ e.on) ||| ms.getD e.on 0 else m) m).testBit t = true →
    m.testBit t = true ∨ ∃ e ∈ l, Region.binds .any e = true ∧ (e.on = t ∨ (ms.getD e.on 0).testBit t = true)
  | [], m, h => .inl h
  | e :: l, m, h => by
    rw [List.foldl_cons] at h
    rcases fold_bit ms t l _ h with h | ⟨e', he', hb⟩
    · split at h
      · rename_i hb
        rw [Nat.testBit_or, Nat.testBit_or, Nat.testBit_two_pow] at h
        simp only [Bool.or_eq_true, decide_eq_true_eq] at h
        rcases h with (h | h) | h
        · exact .inl h
        · exact .inr ⟨e, by simp, hb, .inl h⟩
        · exact .inr ⟨e, by simp, hb, .inr h⟩
      · exact .inl h
    · exact .inr ⟨e', by simp [he'], hb⟩

def MasksOk (ops : Array Oper) (ms : List Nat) : Prop := ∀ j o, j < ms.length → ops[j]? = some o → ∀ D, ClosedD ops D → Needs D o → ∀ t, (ms.getD j 0).testBit t = true → D t

theorem masksGo_ok : ∀ (l : List Oper) (ms : List Nat), (∀ j, l[j]? = ops[ms.length + j]?) → MasksOk ops ms → MasksOk ops (masksGo l ms)
  | [], ms, _, h => h
  | o :: r, ms, hl, h => by
    have h0 : ops[ms.length]? = some o := by simpa using (hl 0).symm
    refine masksGo_ok r (ms ++ [predMask ms o]) (fun j => by have := hl (j + 1); simpa [Nat.add_assoc, Nat.add_comm 1 j] using this) ?_
    intro j o' hj ho' D hD hN t ht
    simp only [List.length_append, List.length_cons, List.length_nil] at hj
    by_cases hjl : j < ms.length
    · refine h j o' hjl ho' D hD hN t ?_
      rwa [List.getD_eq_getElem?_getD, List.getElem?_append_left hjl, ← List.getD_eq_getElem?_getD] at ht
    · have hje : j = ms.length := by omega
      subst hje
      have : o' = o := Option.some.inj (ho'.symm.trans h0)
      subst this
      have ht' : (predMask ms o').testBit t = true := by simpa [List.getD_eq_getElem?_getD] using ht
      rcases fold_bit ms t _ _ ht' with hz | ⟨e, he, hb, hc⟩
      · simp at hz
      · have hDe : D e.on := hN e.on (List.any_eq_true.2 ⟨e, he, by simp [hb]⟩)
        rcases hc with rfl | hc
        · exact hDe
        · have hlt : e.on < ms.length := by
            rcases Nat.lt_or_ge e.on ms.length with h' | h'
            · exact h'
            · rw [List.getD_eq_getElem?_getD, List.getElem?_eq_none h'] at hc; simp at hc
          have hsz : ms.length < ops.size := (Array.getElem?_eq_some_iff.1 h0).1
          have hlt' : e.on < ops.size := by omega
          exact h e.on ops[e.on] hlt (Array.getElem?_eq_getElem hlt') D hD (hD _ _ (Array.getElem?_eq_getElem hlt') hDe) t hc
def masks (l : List Oper) : List Nat := masksGo l []
theorem masks_length : ∀ (l : List Oper) (ms : List Nat), (masksGo l ms).length = ms.length + l.length
  | [], ms => rfl
  | o :: r, ms => by rw [masksGo, masks_length r]; simp; omega
theorem masks_ok : MasksOk ops (masks ops.toList) := masksGo_ok ops.toList [] (by simp) (fun j o hj => by simp at hj)

def okKinds : Option (Bool × List Tmp) → Option (Bool × List Tmp) → Bool
  | some (true, _), _ => true
  | _, some (true, _) => true
  | some _, some _ => true
  | _, _ => false
def calmSlots (P : Program) (o : Oper) : List Tmp := match o.op.calm P with | some (_, ds) => ds | none => []

/-- May the region be walked in the order of its text? -/
def pairB (P : Program) (ops : Array Oper) (ms : List Nat) (i t : Nat) (oi ot : Oper) : Bool := (ms.getD i 0).testBit t || (ot.apart ops oi && okKinds (ot.op.calm P) (oi.op.calm P))
def pairsB (P : Program) (ops : Array Oper) (ms : List Nat) (i : Nat) (oi : Oper) : Nat → List Oper → Bool
  | _, [] => true
  | t, ot :: r => (decide (i ≤ t) || pairB P ops ms i t oi ot) && pairsB P ops ms i oi (t + 1) r
def writersB (ms : List Nat) (i : Nat) (d : Tmp) : Nat → List Oper → Bool
  | _, [] => true
  | j, oj :: r => (oj.dst != some d || (ms.getD i 0).testBit j) && writersB ms i d (j + 1) r
def eachB (P : Program) (ops : Array Oper) (ms : List Nat) (l : List Oper) : Nat → List Oper → Bool
  | _, [] => true
  | i, oi :: r => pairsB P ops ms i oi 0 l && (calmSlots P oi).all (fun d => writersB ms i d 0 l) && eachB P ops ms l (i + 1) r
def textB (P : Program) (l : List Oper) : Bool := Region.noSelect l.toArray && edgesBack l 0 && eachB P l.toArray (masks l) l 0 l

theorem pairsB_get {ms : List Nat} {i : Nat} {oi : Oper} : ∀ (l : List Oper) (k : Nat), pairsB P ops ms i oi k l = true → ∀ t ot, l[t]? = some ot → k + t < i → pairB P ops ms i (k + t) oi ot = true
  | [], _, _, t, ot, h, _ => by simp at h
  | o :: r, k, hB, 0, ot, h, hlt => by
    simp only [pairsB, Bool.and_eq_true, Bool.or_eq_true, decide_eq_true_eq] at hB
    simp at h; subst h
    exact hB.1.resolve_left (by omega)
  | o :: r, k, hB, t + 1, ot, h, hlt => by
    simp only [pairsB, Bool.and_eq_true] at hB
    have := pairsB_get r (k + 1) hB.2 t ot (by simpa using h) (by omega)
    rwa [show k + 1 + t = k + (t + 1) by omega] at this
theorem writersB_get {ms : List Nat} {i : Nat} {d : Tmp} : ∀ (l : List Oper) (k : Nat), writersB ms i d k l = true → ∀ j oj, l[j]? = some oj → oj.dst = some d → (ms.getD i 0).testBit (k + j) = true
  | [], _, _, j, oj, h, _ => by simp at h
  | o :: r, k, hB, 0, oj, h, hd => by
    simp only [writersB, Bool.and_eq_true, Bool.or_eq_true] at hB
    simp at h; subst h
    refine hB.1.resolve_left ?_
    simp [hd]
  | o :: r, k, hB, j + 1, oj, h, hd => by
    simp only [writersB, Bool.and_eq_true] at hB
    have := writersB_get r (k + 1) hB.2 j oj (by simpa using h) hd
    rwa [show k + 1 + j = k + (j + 1) by omega] at this
theorem eachB_get {ms : List Nat} {l : List Oper} : ∀ (r : List Oper) (k : Nat), eachB P ops ms l k r = true → ∀ i oi, r[i]? = some oi →
    pairsB P ops ms (k + i) oi 0 l = true ∧ ∀ d ∈ calmSlots P oi, writersB ms (k + i) d 0 l = true
  | [], _, _, i, oi, h => by simp at h
  | o :: r, k, hB, 0, oi, h => by
    simp only [eachB, Bool.and_eq_true, List.all_eq_true] at hB
    simp at h; subst h
    exact hB.1
  | o :: r, k, hB, i + 1, oi, h => by
    simp only [eachB, Bool.and_eq_true] at hB
    have := eachB_get r (k + 1) hB.2 i oi (by simpa using h)
    rwa [show k + 1 + i = k + (i + 1) by omega] at this

/-- What the check says. -/
structure TextOk (P : Program) (ops : Array Oper) : Prop where
  sel : Region.noSelect ops = true
  back : edgesBack ops.toList 0 = true
  pair : ∀ i oi t ot, ops[i]? = some oi → ops[t]? = some ot → t < i → ((masks ops.toList).getD i 0).testBit t = false → ot.apart ops oi = true ∧ okKinds (ot.op.calm P) (oi.op.calm P) = true
  writer : ∀ i oi d, ops[i]? = some oi → d ∈ calmSlots P oi → ∀ j oj, ops[j]? = some oj → oj.dst = some d → ((masks ops.toList).getD i 0).testBit j = true
theorem textB_ok {l : List Oper} (h : textB P l = true) : TextOk P l.toArray := by
  simp only [textB, Bool.and_eq_true] at h
  obtain ⟨⟨h1, h2⟩, h3⟩ := h
  refine ⟨h1, by simpa using h2, fun i oi t ot hi ht hlt hm => ?_, fun i oi d hi hd j oj hj hdj => ?_⟩
  · have h4 := (eachB_get l 0 h3 i oi (by simpa using hi)).1
    have h5 := pairsB_get l 0 h4 t ot (by simpa using ht) (by omega)
    simp only [Nat.zero_add, pairB, Bool.or_eq_true, Bool.and_eq_true] at h5
    refine h5.resolve_left ?_
    simpa using hm
  · have h4 := (eachB_get l 0 h3 i oi (by simpa using hi)).2 d hd
    have h5 := writersB_get l 0 h4 j oj (by simpa using hj) hdj
    simpa using h5

/-! ### The walk in the order of the text serves every order -/
/-- The slots that must be plain at the end. -/
def plains (P : Program) (l : List Oper) : List Tmp := l.flatMap (calmSlots P)
def TextQ (P : Program) (l : List Oper) (Q : Exit → Act → World → Prop) : Exit → Act → World → Prop :=
  AtEnd fun _ a w => plainAt a (plains P l) ∧ Q .normal a w

theorem fin {Q' : Exit → Act → World → Prop} : ∀ (l : List Nat) (a : Act) (w : World), wpOps P ops (AtEnd Q') l a w →
    ∃ af wf, Q' .normal af wf ∧ ∀ d, (∀ i ∈ l, ∀ o, ops[i]? = some o → o.dst ≠ some d) → af.tmps.getD d undef = a.tmps.getD d undef
  | [], a, w, h => ⟨a, w, h, fun _ _ => rfl⟩
  | i :: l, a, w, h => by
    rw [wpOps_cons] at h
    cases ho : ops[i]? with
    | none =>
      unfold wpOp at h
      simp only [ho] at h
      obtain ⟨af, wf, hq, hk⟩ := fin l a w h
      exact ⟨af, wf, hq, fun d hd => hk d fun j hj => hd j (by simp [hj])⟩
    | some o =>
      obtain ⟨u, ds, w', hk⟩ := outcome ho h
      obtain ⟨af, wf, hq, hf⟩ := fin l _ _ hk
      refine ⟨af, wf, hq, fun d hd => (hf d fun j hj => hd j (by simp [hj])).trans ?_⟩
      have hne := hd i (by simp) o ho
      cases hdst : o.dst with
      | none => rfl
      | some d' =>
        have hdd : d' ≠ d := fun e => hne (by rw [hdst, e])
        simp [Act.put, Array.getElem?_setIfInBounds_ne hdd]

theorem is_false_of {s : Sem Next} (h : ∃ b, OpIs P b s) : OpIs P false s := by
  obtain ⟨b, h⟩ := h
  exact ⟨h.1, h.keeps⟩

theorem front (ok : TextOk P ops) {i : Nat} {oi : Oper} (hi : ops[i]? = some oi) : ∀ (T1 T2 : List Nat) (a : Act) (w : World), (T1 ++ i :: T2).Pairwise (· < ·) →
    (∀ j ∈ T1 ++ i :: T2, j < ops.size) → (∀ j, ((masks ops.toList).getD i 0).testBit j = true → j ∉ T1 ++ i :: T2) →
    wpOps P ops (TextQ P ops.toList Q) (T1 ++ i :: T2) a w → wpOps P ops (TextQ P ops.toList Q) (i :: (T1 ++ T2)) a w
  | [], T2, a, w, _, _, _, h => h
  | t :: T1, T2, a, w, hs, hsz, hm, h => by
    have hs' : (T1 ++ i :: T2).Pairwise (· < ·) := (List.pairwise_cons.1 hs).2
    have htl : ∀ j ∈ T1 ++ i :: T2, t < j := (List.pairwise_cons.1 hs).1
    have hti : t < i := htl i (by simp)
    have htsz : t < ops.size := hsz t (by simp)
    have ht : ops[t]? = some ops[t] := Array.getElem?_eq_getElem htsz
    have hmt : ((masks ops.toList).getD i 0).testBit t = false := by
      cases hx : ((masks ops.toList).getD i 0).testBit t with
      | false => rfl
      | true => exact absurd (by simp) (hm t hx)
    obtain ⟨hap, hk⟩ := ok.pair i oi t _ hi ht hti hmt
    rw [List.cons_append, wpOps_cons] at h
    have h2 : wpOp P ops (TextQ P ops.toList Q) t (wpOp P ops (TextQ P ops.toList Q) i (wpOps P ops (TextQ P ops.toList Q) (T1 ++ T2))) a w :=
      wpOp_mono (fun a' w' h' => by
        have := front ok hi T1 T2 a' w' hs' (fun j hj => hsz j (by simp at hj ⊢; rcases hj with h | h | h <;> simp [h])) (fun j hj hx => hm j hj (List.mem_cons_of_mem _ hx)) h'
        rwa [wpOps_cons] at this) h
    have hall : wpOps P ops (TextQ P ops.toList Q) (t :: i :: (T1 ++ T2)) a w := by
      rw [wpOps_cons]
      exact wpOp_mono (fun a' w' h' => by rw [wpOps_cons]; exact h') h2
    obtain ⟨af, wf, ⟨hpl, _⟩, hkeep⟩ := fin _ a w hall
    have hpt : plainAt a (calmSlots P ops[t]) := by
      intro d hd
      rw [← hkeep d]
      · exact hpl d (List.mem_flatMap.2 ⟨ops[t], by simp, hd⟩)
      · intro j hj oj hoj hdj
        have hb := ok.writer t _ d ht hd j oj hoj hdj
        have hjt : j < t := masks_ok t _ (by rw [masks, masks_length]; simpa using htsz) ht (fun x => x < t)
          (fun x ox hox hx y hy => by
            obtain ⟨e, he, hey⟩ := List.any_eq_true.1 hy
            have := edgesBack_get ops.toList 0 ok.back x ox (by simpa using hox) e he
            simp only [Bool.and_eq_true, beq_iff_eq] at hey
            omega)
          (fun y hy => by
            obtain ⟨e, he, hey⟩ := List.any_eq_true.1 hy
            have := edgesBack_get ops.toList 0 ok.back t ops[t] (by simp [htsz]) e he
            simp only [Bool.and_eq_true, beq_iff_eq] at hey
            omega) j hb
        have hge : t ≤ j := by
          simp only [List.mem_cons, List.mem_append] at hj
          rcases hj with rfl | rfl | hj | hj
          · exact Nat.le_refl _
          · omega
          · exact Nat.le_of_lt (htl j (by simp [hj]))
          · exact Nat.le_of_lt (htl j (by simp [hj]))
        omega
    have hpi : plainAt a (calmSlots P oi) := by
      intro d hd
      rw [← hkeep d]
      · exact hpl d (List.mem_flatMap.2 ⟨oi, by simpa using Array.mem_of_getElem? hi, hd⟩)
      · intro j hj oj hoj hdj
        refine hm j (ok.writer i oi d hi hd j oj hoj hdj) ?_
        simp only [List.mem_cons, List.mem_append] at hj ⊢
        rcases hj with h | h | h | h <;> simp [h]
    have ct : ∀ b ds, ops[t].op.calm P = some (b, ds) → OpIs P b (execOp a.eval ops[t]) := fun b ds e => calm_is e (by have := hpt; unfold calmSlots at this; rwa [e] at this)
    have ci : ∀ b ds, oi.op.calm P = some (b, ds) → OpIs P b (execOp a.eval oi) := fun b ds e => calm_is e (by have := hpi; unfold calmSlots at this; rwa [e] at this)
    rw [wpOps_cons]
    have h3 := swap (Q := fun _ a w => plainAt a (plains P ops.toList) ∧ Q .normal a w) ht hi hap (fun cs b => Region.noSelect_spec ok.sel t _ cs b ht) (fun cs b => Region.noSelect_spec ok.sel i _ cs b hi) ?_ h2
    · exact wpOp_mono (fun a' w' h' => by rw [List.cons_append, wpOps_cons]; exact h') h3
    · cases e1 : ops[t].op.calm P with
      | none =>
        cases e2 : oi.op.calm P with
        | none => rw [e1, e2] at hk; cases hk
        | some p =>
          obtain ⟨b, ds⟩ := p
          cases b
          · rw [e1, e2] at hk; cases hk
          · exact .inr (.inl (ci _ _ e2))
      | some p =>
        obtain ⟨b, ds⟩ := p
        cases b
        · cases e2 : oi.op.calm P with
          | none => rw [e1, e2] at hk; cases hk
          | some p2 => exact .inr (.inr ⟨is_false_of ⟨_, ct _ _ e1⟩, is_false_of ⟨_, ci _ _ e2⟩⟩)
        · exact .inl (ct _ _ e1)

theorem wpOp_atEnd {Q' : Exit → Act → World → Prop} {i : Nat} {K : Act → World → Prop} {a : Act} {w : World} (h : wpOp P ops (AtEnd Q') i K a w) : wpOp P ops Q i K a w := by
  unfold wpOp at *
  split
  · simpa [*] using h
  · rename_i o ho
    simp only [ho] at h
    split
    · rename_i hw
      simp only [hw, if_true] at h
      rcases h with h | h
      · left
        unfold Oper.wp at *
        generalize (execOp a.eval o).run P w = r at *
        cases r with
        | ok n w' =>
          cases n <;> simp only [Oper.upon] at h ⊢
          case enter f args =>
            refine Calls.mono h fun e w'' he => ?_
            cases e with
            | returned v => exact he
            | panicked c => exact he.elim
            | outgrown => exact absurd he not_letsOut
          all_goals exact h
        | halt x w' =>
          cases x <;> simp only [Oper.upon] at h ⊢
          case panic u => exact h.elim
      · exact absurd h.2 not_letsOut
    · rename_i hw
      simp only [hw] at h
      exact h

theorem text_any (ok : TextOk P ops) : ∀ (l : List Nat) (D : Nat → Prop) (T : List Nat) (a : Act) (w : World), Valid ops D l → ClosedD ops D → T.Pairwise (· < ·) → (∀ j, j ∈ T ↔ j < ops.size ∧ ¬ D j) →
    wpOps P ops (TextQ P ops.toList Q) T a w → wpOps P ops Q l a w
  | [], D, T, a, w, hv, _, _, hT, h => by
    have : T = [] := by
      cases T with
      | nil => rfl
      | cons x r =>
        have := (hT x).1 (by simp)
        exact absurd (hv x this.1) this.2
    subst this
    exact h.2
  | i :: r, D, T, a, w, ⟨⟨o, ho, hd, hn⟩, hv⟩, hc, hs, hT, h => by
    have hisz : i < ops.size := (Array.getElem?_eq_some_iff.1 ho).1
    obtain ⟨T1, T2, rfl⟩ := List.append_of_mem ((hT i).2 ⟨hisz, hd⟩)
    have hf := front ok ho T1 T2 a w hs (fun j hj => ((hT j).1 hj).1) (fun j hj hx => by
      have := masks_ok i o (by rw [masks, masks_length]; simpa using hisz) ho D hc hn j hj
      exact ((hT j).1 hx).2 this) h
    rw [wpOps_cons] at hf ⊢
    refine wpOp_atEnd (wpOp_mono (fun a' w' h' => ?_) hf)
    have hs2 : (T1 ++ T2).Pairwise (· < ·) := hs.sublist (List.Sublist.append_left (List.sublist_cons_self _ _) _)
    have hni : i ∉ T1 ++ T2 := by
      intro hx
      have h1 := List.pairwise_append.1 hs
      rcases List.mem_append.1 hx with hx | hx
      · exact absurd (h1.2.2 i hx i (by simp)) (Nat.lt_irrefl _)
      · exact absurd ((List.pairwise_cons.1 h1.2.1).1 i hx) (Nat.lt_irrefl _)
    refine text_any ok r (fun j => D j ∨ j = i) (T1 ++ T2) a' w' hv ?_ hs2 (fun j => ?_) h'
    · intro x ox hox hx y hy
      rcases hx with hx | rfl
      · exact .inl (hc x ox hox hx y hy)
      · have : ox = o := Option.some.inj (hox.symm.trans ho)
        subst this
        exact .inl (hn y hy)
    · constructor
      · intro hj
        have := (hT j).1 (by simp only [List.mem_append, List.mem_cons] at hj ⊢; rcases hj with h | h <;> simp [h])
        exact ⟨this.1, fun hx => hx.elim this.2 (fun e => hni (e ▸ hj))⟩
      · rintro ⟨h1, h2⟩
        have := (hT j).2 ⟨h1, fun hx => h2 (.inl hx)⟩
        simp only [List.mem_append, List.mem_cons] at this ⊢
        rcases this with h | h | h
        · exact .inl h
        · exact absurd (.inr h) h2
        · exact .inr h

/-- **A region that draws its order, walked in the order of its text.** -/
theorem wp_region_text {id : Nat} {l : List Oper} {a : Act} {w : World} (hB : textB P l = true) (h : wpList P l.toArray (TextQ P l Q) l a w.drew) : (Code.region id l.toArray true).wp P Q a w := by
  have ok := textB_ok hB
  refine wp_region_draw fun t => ?_
  have h' : wpOps P l.toArray (TextQ P l.toArray.toList Q) (List.range l.toArray.size) a w.drew := by
    have e := wpOps_eq_wpList (P := P) (ops := l.toArray) (Q := TextQ P l.toArray.toList Q) l 0 (by simp)
    rw [List.range_eq_range']
    rw [show l.toArray.size = l.length by simp, e]
    exact h
  have key : ∀ m t, wpOps P l.toArray Q (Region.linearise m l.toArray t) a w.drew := by
    intro m t
    unfold Region.linearise
    obtain ⟨rest, hgo, hval⟩ := go_valid m ok.back l.toArray.size t (Array.replicate l.toArray.size false) [] (by simp) (by
      refine Nat.le_trans (List.length_filter_le _ _) ?_; simp)
    rw [hgo, List.reverse_nil, List.nil_append]
    refine text_any ok rest (fun _ => False) (List.range l.toArray.size) a w.drew ?_ (fun _ _ _ hx => hx.elim) List.pairwise_lt_range (fun j => by simp) h'
    refine Valid.congr ?_ hval
    intro j
    rw [Array.getElem?_replicate]
    split <;> simp
  unfold Region.schedule
  split
  · exact key _ _
  · exact key _ _
theorem textQ_normal {l : List Oper} {a : Act} {w : World} (h1 : ((plains P l).all fun d => plainV (a.tmps.getD d undef)) = true) (h2 : Q .normal a w) : TextQ P l Q .normal a w :=
  ⟨fun d hd => (List.all_eq_true.1 h1) d hd, h2⟩
end
end Go
