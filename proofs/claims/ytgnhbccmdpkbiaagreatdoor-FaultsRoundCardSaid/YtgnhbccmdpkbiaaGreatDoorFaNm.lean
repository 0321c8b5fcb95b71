/-
  Layer 3 (faults): Names of the reference.
-/
import Derived.Test.YtgnhbccmdpkbiaaGreatDoorFaTx
namespace Go.Proofs.YtgnhbccmdpkbiaaGreatDoor
open Go.RowKit Go.Shelf
def NamesPost (w : World) (e : Ending) (w' : World) : Prop := ∃ g, e = .returned (.slice (some ⟨g, 0, none⟩) 17 17) ∧ (∀ k, k < 17 → w'.cell? ⟨g, k, none⟩ = some (S8 (Fa.names.getD k []))) ∧ Below w.heap.size w w'
set_option maxRecDepth 100000 in
theorem names_any (w : World) : Calls Tryz.prog 28 #[] w (NamesPost w) := by
  have HB := Lib.hid (fun o => (Below.refl w.heap.size w).alloc (Nat.le_refl _) o)
  go_enter Tryz.func28, Tryz.ntmps28
  go_wp2
  go_ret
  refine ⟨w.heap.size, rfl, fun k hk => ?_, HB.out _⟩
  rw [World.cell?_alloc_at _ _ _ _ rfl]
  match k, hk with
  | 0, _ => rfl
  | 1, _ => rfl
  | 2, _ => rfl
  | 3, _ => rfl
  | 4, _ => rfl
  | 5, _ => rfl
  | 6, _ => rfl
  | 7, _ => rfl
  | 8, _ => rfl
  | 9, _ => rfl
  | 10, _ => rfl
  | 11, _ => rfl
  | 12, _ => rfl
  | 13, _ => rfl
  | 14, _ => rfl
  | 15, _ => rfl
  | 16, _ => rfl
  | n + 17, h => exact absurd h (by omega)
end Go.Proofs.YtgnhbccmdpkbiaaGreatDoor
