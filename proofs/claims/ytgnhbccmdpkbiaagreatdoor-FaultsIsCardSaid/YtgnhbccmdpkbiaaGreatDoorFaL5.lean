/-
  The law FaultsIs of layer 3: what its functions answer.
-/
import Derived.Test.YtgnhbccmdpkbiaaGreatDoorFaI2
import Derived.Test.YtgnhbccmdpkbiaaGreatDoorFaL2
import Derived.Test.YtgnhbccmdpkbiaaGreatDoorFaP1
namespace Go.Proofs.YtgnhbccmdpkbiaaGreatDoor
open Go.RowKit Go.Shelf

theorem results_cell_one {P : Program} {fn : Func} {p : Tmp} {ty : TypeId} (h : fn.results = #[.cell p ty]) (tmps : Array Value) (w : World) :
    (results fn tmps).run P w = ((asAddr (tmps.getD p undef)).run P w).andThen fun a w₁ => (loadVar ty a).run P w₁ := by
  simp only [results, h]
  simp [Sem.run_bind, Result.andThen]
/-- (*Link).Fault. -/
theorem fault_any (b : Nat) (x : Fa.Link) (cv : Value) (n d : Nat) (w : World) (h : w.heap[b]? = some (.cells (linkCells x cv n d) 86 (0, 0))) :
    Calls Tryz.prog 26 #[.pointer (some ⟨b, 0, none⟩)] w fun e w' => e = .returned (valLink x) ∧ Below w.heap.size w w' := by
  have hl := lt_of_block h
  have c1 := blk_cell h 1
  have c2 := blk_cell h 2
  have c3 := blk_cell h 3
  have c4 := blk_cell h 4
  obtain ⟨k, o, bk, cn⟩ := x
  unfold valLink linkCells at *
  simp only [List.getElem?_toArray, List.getElem?_cons_succ, List.getElem?_cons_zero] at c1 c2 c3 c4
  clear h
  go_enter Tryz.func26, Tryz.ntmps26
  go_wp2
  refine bodyPost_ret (v := .agg #[I64 k, .string o, I64 bk, I64 cn]) (by rw [results_cell_one rfl]; go_simp) rfl ?_
  exact ⟨rfl, (Below.refl _ _).alloc (Nat.le_refl _) _⟩
def NamesPost (w : World) (e : Ending) (w' : World) : Prop := ∃ g, e = .returned (.slice (some ⟨g, 0, none⟩) 17 17) ∧ (∀ k, k < 17 → w'.cell? ⟨g, k, none⟩ = some (S8 (Fa.names.getD k []))) ∧ Below w.heap.size w w'
set_option maxRecDepth 100000 in
theorem names_any (w : World) : Calls Tryz.prog 28 #[] w (NamesPost w) := by
  have HB := Lib.hid (fun o => (Below.refl w.heap.size w).alloc (Nat.le_refl _) o)
  go_enter Tryz.func28, Tryz.ntmps28
  go_wp2
  go_ret
  refine ⟨w.heap.size, rfl, fun k hk => ?_, HB.out _⟩
  rw [World.cell?_alloc_at _ _ _ _ rfl]
  match k, hk with
  | 0, _ => rfl
  | 1, _ => rfl
  | 2, _ => rfl
  | 3, _ => rfl
  | 4, _ => rfl
  | 5, _ => rfl
  | 6, _ => rfl
  | 7, _ => rfl
  | 8, _ => rfl
  | 9, _ => rfl
  | 10, _ => rfl
  | 11, _ => rfl
  | 12, _ => rfl
  | 13, _ => rfl
  | 14, _ => rfl
  | 15, _ => rfl
  | 16, _ => rfl
  | n + 17, h => exact absurd h (by omega)
theorem sentErr_any (k : Nat) (hk : k < 17) (w : World) (hE : EnvF w) : Calls Tryz.prog 167 #[.int .i64 k] w fun e w' => e = .returned (S8 (Fa.names.getD k [])) ∧ w' = w := by
  have c0 := hE.nm k hk
  have i1 : (0 : Int) ≤ k := by omega
  have i2 : (k : Int) < 17 := by omega
  generalize S8 (Fa.names.getD k []) = u at c0 ⊢
  clear hE
  go_enter Tryz.func167, Tryz.ntmps167
  go_wp2
  go_ret
  exact ⟨rfl, rfl⟩
theorem mErrS (v : Value) (w : World) : (Go.method 348 104 v "Error").run Tryz.prog w = .ok (167, v) w := by kernel_rfl
end Go.Proofs.YtgnhbccmdpkbiaaGreatDoor
