/-
  A scope in which the run jumps to its labels, forward and back: over any program, inside a fence.
-/
import Derived.ScopeJumps
import Derived.ControlIn
namespace Go.Proofs.YtffkohdnhaebjaaGreatDoor
open Go

/-- As Q; by a goto to a label of c: J of that label. -/
def jumpsTo (c : Code) (J : Nat → Act → World → Prop) (Q : Exit → Act → World → Prop) : Exit → Act → World → Prop
  | .goto l, a, w => (findLabel c l).isSome = true ∧ J l a w
  | e, a, w => Q e a w

section
variable {F : Fence} {n : Nat} {P : Program} {a : Act} {w : World} {Q : Exit → Act → World → Prop}
theorem stepR_scope' {b : Frame} {k : List Item} {cs : List Frame} {c : Code} : step P (lone (b.atR a (.code (.scope c) :: k)) cs w) = .next (lone (b.atR a (.code c :: .inScope c :: k)) cs w) :=
  step_lone_go (by simp [stepG, stepG.exec, Frame.atR])
theorem stepR_inScope' {b : Frame} {k : List Item} {cs : List Frame} {c : Code} : step P (lone (b.atR a (.inScope c :: k)) cs w) = .next (lone (b.atR a k) cs w) :=
  step_lone_go (by simp [stepG, stepG.exec, Frame.atR])

theorem wpIn_scope_jumps {c : Code} (J : Nat → Act → World → Prop) (μ : Nat → Act → World → Nat) (hro : F.round = none)
    (first : c.wpIn F n P (jumpsTo c J Q) a w)
    (pass : ∀ l rest a w, findLabel c l = some rest → J l a w → rest.wpIn F n P (jumpsTo c (fun l' a' w' => J l' a' w' ∧ μ l' a' w' < μ l a w) Q) a w) : (Code.scope c).wpIn F n P Q a w := by
  intro b k cs hb hfn hr
  have hro' : b.roundOf = none := hb.trans hro
  have calm : ∀ {a w k}, (lone (b.atR a k) cs w).fenced P F → (lone (b.atR a k) cs w).fenced P F := fun h => h
  have key : ∀ m l rest a w, μ l a w = m → findLabel c l = some rest → J l a w → ∃ e a' w', Q e a' w' ∧ ArrivesIn (Machine.fenced P F) P (lone (b.atR a (.code rest :: .inScope c :: k)) cs w) b k cs e a' w' := by
    intro m
    induction m using Nat.strongRecOn with
    | _ m ih =>
      intro l rest a w hm hf hJ
      obtain ⟨e, a₁, w₁, hq, harr⟩ := pass l rest a w hf hJ b (.inScope c :: k) cs hb hfn hr
      cases e with
      | normal => exact ⟨.normal, a₁, w₁, hq, StepsIn.trans harr (.one (fenced_calm hfn hr rfl) stepR_inScope')⟩
      | exit id => exact ⟨.exit id, a₁, w₁, hq, fun k' hk => harr.1 k' (by simp [exitTo, hk]), fun h => by rw [hro'] at h; simp at h⟩
      | goto l' =>
        obtain ⟨hs, hJ', hlt⟩ := hq
        obtain ⟨rest', hf'⟩ := Option.isSome_iff_exists.1 hs
        obtain ⟨e₂, a₂, w₂, hq₂, harr₂⟩ := ih _ (by omega) l' rest' a₁ w₁ rfl hf' hJ'
        exact ⟨e₂, a₂, w₂, hq₂, .of_steps (harr.1 _ (by simp [gotoIn, hf'])) harr₂⟩
      | ret => exact ⟨_, a₁, w₁, hq, harr⟩
      | panic ch => exact ⟨_, a₁, w₁, hq, harr⟩
      | outgrown => exact ⟨_, a₁, w₁, hq, harr⟩
  have h0 : (lone (b.atR a (.code (.scope c) :: k)) cs w).fenced P F := fenced_calm hfn hr rfl
  obtain ⟨e, a₁, w₁, hq, harr⟩ := first b (.inScope c :: k) cs hb hfn hr
  cases e with
  | normal => exact ⟨.normal, a₁, w₁, hq, .head h0 stepR_scope' (StepsIn.trans harr (.one (fenced_calm hfn hr rfl) stepR_inScope'))⟩
  | exit id => exact ⟨.exit id, a₁, w₁, hq, fun k' hk => .head h0 stepR_scope' (harr.1 k' (by simp [exitTo, hk])), fun h => by rw [hro'] at h; simp at h⟩
  | goto l =>
    obtain ⟨hs, hJ⟩ := hq
    obtain ⟨rest, hf⟩ := Option.isSome_iff_exists.1 hs
    obtain ⟨e₂, a₂, w₂, hq₂, harr₂⟩ := key _ l rest a₁ w₁ rfl hf hJ
    exact ⟨e₂, a₂, w₂, hq₂, .of_steps (.head h0 stepR_scope' (harr.1 _ (by simp [gotoIn, hf]))) harr₂⟩
  | ret => exact ⟨_, a₁, w₁, hq, .of_steps (.one h0 stepR_scope') harr⟩
  | panic ch => exact ⟨_, a₁, w₁, hq, .of_steps (.one h0 stepR_scope') harr⟩
  | outgrown => exact ⟨_, a₁, w₁, hq, .of_steps (.one h0 stepR_scope') harr⟩
end
end Go.Proofs.YtffkohdnhaebjaaGreatDoor
