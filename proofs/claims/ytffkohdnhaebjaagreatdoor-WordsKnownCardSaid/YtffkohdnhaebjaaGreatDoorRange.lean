/-
  A range over a function whose iterator keeps state of its own in one block (the first that it lays): over any program.
-/
import Derived.RangeFuncNested
import Derived.RangeFuncCalls
namespace Go.Proofs.YtffkohdnhaebjaaGreatDoor
open Go Go.RowKit

/-- The two blocks of book-keeping stand. -/
def RecK (B : Nat) (W W' : World) : Prop := ∀ k, B ≤ k → k < B + 2 → W'.heap[k]? = W.heap[k]?
def postR {α : Type} (B : Nat) (Kp : World → World → Prop) (I : List α → World → Prop) (Ix : Code → List α → World → Prop) (xs : List α) (W : World) : Exit → Act → World → Prop
  | .normal, _, W' => RecK B W W' ∧ Kp W W' ∧ I xs W'
  | .ret, _, W' => RecK B W W' ∧ Ix .ret xs W'
  | .exit id, _, W' => RecK B W W' ∧ Ix (.exit id) xs W'
  | .goto t, _, W' => RecK B W W' ∧ Ix (.goto t) xs W'
  | .panic _, _, _ => False
  | .outgrown, _, _ => False
def Closed {α : Type} (B : Nat) (J : List α → World → Prop) : Prop := ∀ pre W W', J pre W → W.grownBy W' (some B) → J pre W'
def Books {α : Type} (B : Nat) (J : List α → World → Prop) : Prop := ∀ pre W l o, J pre W → l = B ∨ l = B + 1 → J pre (W.putObj l o)

section
variable {F : Fence} {n : Nat} {P : Program}
theorem wpIn_range_own {α : Type} {g : Operand} {ps : Array Tmp} {assign body : Code} {Q : Exit → Act → World → Prop} {a : Act} {w : World}
    (hro : F.round = none) (h1 : 1 ≤ n) {gf : Nat} {lb : Array Value} (hg : a.eval g = .func (.func gf) #[] lb) (hF : F.fn gf) (eg : ∀ args w, (callFunc gf args).run P w = .ok (.enter gf args) w)
    {encs : α → Array Value} (hps : ∀ x, (encs x).size = ps.size) {S Sp : List α → Prop} {N : Nat}
    (I : List α → World → Prop) (Ix : Code → List α → World → Prop) (Kp : World → World → Prop) (Ax : α → Act → World → Prop)
    (bI : Books w.heap.size I) (bX : ∀ c, Books w.heap.size (Ix c)) (bA : ∀ x a', Books w.heap.size (fun (_ : List α) W => Ax x a' W)) (bK : ∀ W l o, l = w.heap.size ∨ l = w.heap.size + 1 → Kp W (W.putObj l o))
    (tK : ∀ A B C, Kp A B → Kp B C → Kp A C) (cI : Closed (w.heap.size + 2) I) (cX : ∀ c, Closed (w.heap.size + 2) (Ix c))
    (h0 : ∀ L, I [] ((w.alloc (.deferred (some []))).alloc (.loop L)))
    (hseq : ∀ (W1 : World) (J Jx : List α → World → Prop), W1.heap.size = w.heap.size + 2 → Below w.heap.size w W1 → Closed (w.heap.size + 2) J → Closed (w.heap.size + 2) Jx →
      (∀ pre x W, J pre W → pre.length < N → YieldAt F (n - 1 - 1) P (w.heap.size + 1) (encs x) W fun e W' =>
        (e = .returned (.bool true) ∧ J (pre ++ [x]) W' ∧ Kp W W') ∨ (e = .returned (.bool false) ∧ Jx (pre ++ [x]) W')) →
      J [] W1 → CallsIn F (n - 1) P gf (#[.func (.yield (w.heap.size + 1)) #[] #[]] ++ lb) W1 fun e W' => (∃ v, e = .returned v) ∧ ((∃ xs, S xs ∧ J xs W') ∨ (∃ pre, Sp pre ∧ Jx pre W')))
    (hassign : ∀ (pre : List α) (x : α) (W : World) (K : Act → World → Prop), w.heap.size + 2 ≤ W.heap.size → I pre W → (∀ a' W', RecK w.heap.size W W' → Kp W W' → I pre W' → Ax x a' W' → K a' W') →
      assign.wpIn (F.inRound (w.heap.size + 1)) (n - 1 - 1) P (Exit.then K (fun _ _ _ => False)) { tmps := (ps.zip (encs x)).foldl (fun t (p, v) => t.setIfInBounds p v) a.tmps, defers := [] } W)
    (hbody : ∀ (pre : List α) (x : α) (a' : Act) (W : World), w.heap.size + 2 ≤ W.heap.size → I pre W → Ax x a' W → pre.length < N →
      body.wpIn (F.inRound (w.heap.size + 1)) (n - 1 - 1) P (postR w.heap.size Kp I Ix (pre ++ [x]) W) a' W)
    (hdone : ∀ (xs : List α) (W : World), S xs → I xs W → W.heap[w.heap.size]? = some (.deferred (some [])) → Q .normal { a with defers := { target := .collected w.heap.size, args := #[] } :: a.defers } W)
    (hstop : ∀ (c : Code) (pre : List α) (W : World), Sp pre → Ix c pre W → W.heap[w.heap.size]? = some (.deferred (some [])) → c.wpIn F n P Q { a with defers := { target := .collected w.heap.size, args := #[] } :: a.defers } W) :
    (Code.rangeFunc g ps assign body).wpIn F n P Q a w := by
  refine wpIn_rangeFunc (fun fn hfn => ?_)
  rw [hro]
  -- the loop's record: only its state and the pending jump ever change
  let R : LoopState → Option Code → Loop := fun st pe => { state := st, pending := pe, fn, tmps := a.tmps, params := ps, assign, body, defers := w.heap.size }
  have hL : ∀ st pe, (R st pe).fn = fn ∧ (R st pe).params = ps := fun _ _ => ⟨rfl, rfl⟩
  let W1 : World := (w.alloc (.deferred (some []))).alloc (.loop (R .ready none))
  have z1 : W1.heap.size = w.heap.size + 2 := by simp [W1]
  have l1 : W1.heap[w.heap.size + 1]? = some (.loop (R .ready none)) := by
    have h := World.alloc_heap_new (w.alloc (.deferred (some []))) (.loop (R .ready none))
    rwa [World.size_alloc] at h
  have d1 : W1.heap[w.heap.size]? = some (.deferred (some [])) := (Below.heap_alloc _ _ _ (by simp)).trans (World.alloc_heap_new w _)
  have b1 : Below w.heap.size w W1 := ((Below.refl _ w).alloc (Nat.le_refl _) _).alloc (by simp) _
  refine ⟨w.heap.size + 1, [{ target := .collected w.heap.size, args := #[] }], W1, { target := .fn (.func gf) lb, args := #[.func (.yield (w.heap.size + 1)) #[] #[]] }, W1, gf,
    #[.func (.yield (w.heap.size + 1)) #[] #[]] ++ lb, W1, run_enterLoop_outer _ _ _ _ _, ?_, ?_, ?_, fun _ => h1, ?_⟩
  · simp only [resolve, hg]
    simp [go_sem]
  · intro f' hf'
    simp [Target.leads] at hf'
    subst hf'
    exact hF
  · simp [invoke, go_sem, eg]
  have same : ∀ {W W' : World} {k : Nat}, W.grownBy W' (some (w.heap.size + 2)) → k < w.heap.size + 2 → k < W.heap.size → W'.heap[k]? = W.heap[k]? := fun hg hk hs => hg.block _ hs (fun e => by cases e; omega)
  have lt_of : ∀ {W : World} {k : Nat} {o : Obj}, W.heap[k]? = some o → k < W.heap.size := fun h => (Array.getElem?_eq_some_iff.1 h).1
  refine (hseq W1 (fun pre W => I pre W ∧ W.heap[w.heap.size + 1]? = some (.loop (R .ready none)) ∧ W.heap[w.heap.size]? = some (.deferred (some [])))
    (fun pre W => ∃ c, Ix c pre W ∧ W.heap[w.heap.size + 1]? = some (.loop (R .done (some c))) ∧ W.heap[w.heap.size]? = some (.deferred (some []))) z1 b1
    (fun pre W W' hs hg => ⟨cI pre W W' hs.1 hg, (same hg (by omega) (lt_of hs.2.1)).trans hs.2.1, (same hg (by omega) (lt_of hs.2.2)).trans hs.2.2⟩)
    (fun pre W W' hs hg => by
      obtain ⟨c, h1, h2, h3⟩ := hs
      exact ⟨c, cX c pre W W' h1 hg, (same hg (by omega) (lt_of h2)).trans h2, (same hg (by omega) (lt_of h3)).trans h3⟩)
    ?_ ⟨h0 _, l1, d1⟩).mono ?_
  · rintro pre x W ⟨hi, hl, hd⟩ hlen
    refine ⟨fn, _, assign, body, run_yield (P := P) (args := encs x) hl (hps x), roundIn_of_wpIn hfn (hassign pre x W _ (by have := lt_of hl; omega) hi ?_)⟩
    intro a' V hr hk hi' hax
    have hl' := (hr (w.heap.size + 1) (by omega) (by omega)).trans hl
    have hd' := (hr w.heap.size (by omega) (by omega)).trans hd
    refine ⟨_, run_beginRound hl' rfl, ?_⟩
    have hl2 : (V.putObj (w.heap.size + 1) (.loop (R .busy none))).heap[w.heap.size + 1]? = some (.loop (R .busy none)) := World.putObj_heap_same (lt_of hl')
    have hd2 : (V.putObj (w.heap.size + 1) (.loop (R .busy none))).heap[w.heap.size]? = some (.deferred (some [])) := (World.putObj_heap_other (by omega)).trans hd'
    refine wpIn_mono (hbody pre x a' (V.putObj (w.heap.size + 1) (.loop (R .busy none))) (by have := lt_of hl2; omega) (bI _ _ _ _ hi' (.inr rfl)) (bA x a' [] _ _ _ hax (.inr rfl)) hlen) ?_
    have fin : ∀ (jump : Option Code) (X : World), RecK w.heap.size (V.putObj (w.heap.size + 1) (.loop (R .busy none))) X →
        (Instr.endRound (w.heap.size + 1) jump).run P X = .ok (.bool jump.isNone) (X.putObj (w.heap.size + 1) (.loop (R (if jump.isNone then .ready else .done) jump))) ∧
        (X.putObj (w.heap.size + 1) (.loop (R (if jump.isNone then .ready else .done) jump))).heap[w.heap.size + 1]? = some (.loop (R (if jump.isNone then .ready else .done) jump)) ∧
        (X.putObj (w.heap.size + 1) (.loop (R (if jump.isNone then .ready else .done) jump))).heap[w.heap.size]? = some (.deferred (some [])) := by
      intro jump X hX
      have hx1 := (hX (w.heap.size + 1) (by omega) (by omega)).trans hl2
      have hx2 := (hX w.heap.size (by omega) (by omega)).trans hd2
      exact ⟨run_endRound (P := P) jump hx1, World.putObj_heap_same (lt_of hx1), (World.putObj_heap_other (by omega)).trans hx2⟩
    rintro e a3 X hp
    cases e with
    | normal =>
      obtain ⟨h2, h3, h4⟩ := hp
      obtain ⟨q1, q2, q3⟩ := fin none X h2
      exact ⟨_, _, q1, .inl ⟨rfl, ⟨bI _ _ _ _ h4 (.inr rfl), q2, q3⟩, tK _ _ _ hk (tK _ _ _ (bK _ _ _ (.inr rfl)) (tK _ _ _ h3 (bK _ _ _ (.inr rfl))))⟩⟩
    | ret =>
      obtain ⟨h2, h4⟩ := hp
      obtain ⟨q1, q2, q3⟩ := fin (some .ret) X h2
      exact ⟨_, _, q1, .inr ⟨rfl, .ret, bX _ _ _ _ _ h4 (.inr rfl), q2, q3⟩⟩
    | exit id =>
      obtain ⟨h2, h4⟩ := hp
      obtain ⟨q1, q2, q3⟩ := fin (some (.exit id)) X h2
      exact ⟨_, _, q1, .inr ⟨rfl, .exit id, bX _ _ _ _ _ h4 (.inr rfl), q2, q3⟩⟩
    | goto t =>
      obtain ⟨h2, h4⟩ := hp
      obtain ⟨q1, q2, q3⟩ := fin (some (.goto t)) X h2
      exact ⟨_, _, q1, .inr ⟨rfl, .goto t, bX _ _ _ _ _ h4 (.inr rfl), q2, q3⟩⟩
    | panic ch => exact hp.elim
    | outgrown => exact hp.elim
  · rintro e X ⟨⟨v, rfl⟩, hx⟩
    rcases hx with ⟨xs, hS, hi, hl, hd⟩ | ⟨pre, hS, c, hi, hl, hd⟩
    · exact ⟨none, _, run_endLoop (P := P) hl (by simp [R]), hdone xs _ hS (bI _ _ _ _ hi (.inr rfl)) ((World.putObj_heap_other (by omega)).trans hd)⟩
    · exact ⟨some c, _, run_endLoop (P := P) hl (by simp [R]), hstop c pre _ hS (bX _ _ _ _ _ hi (.inr rfl)) ((World.putObj_heap_other (by omega)).trans hd)⟩
end
end Go.Proofs.YtffkohdnhaebjaaGreatDoor
