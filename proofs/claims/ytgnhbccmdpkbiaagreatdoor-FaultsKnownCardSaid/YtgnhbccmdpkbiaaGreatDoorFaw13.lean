/-
  Walks for layer 3 (faults): errors.As at a **Link.
-/
import Derived.Test.YtgnhbccmdpkbiaaGreatDoorFaw12
import Derived.Test.YtgnhbccmdpkbiaaGreatDoorFaw3
namespace Go.Proofs.YtgnhbccmdpkbiaaGreatDoor
open Go.RowKit Go.Extern.Stop Go.Stop Go.Extern

def hTT : Value := .pointer (some ⟨15, 57, none⟩)
def hT : Value := .pointer (some ⟨15, 55, none⟩)
/-- What errors.errorType holds. -/
def ErrT (w : World) : Prop := w.cell? ⟨0, 0, none⟩ = some (.iface 127 (.agg #[.pointer (some ⟨15, 26, none⟩)]))
theorem cell_lt {w : World} {b o : Nat} {v : Value} (h : w.cell? ⟨b, o, none⟩ = some v) : b < w.heap.size := by
  rcases Nat.lt_or_ge b w.heap.size with h1 | h1
  · exact h1
  · simp [World.cell?, Array.getElem?_eq_none h1] at h
theorem ErrT.below {w w' : World} (h : ErrT w) (hb : Below w.heap.size w w') : ErrT w' := (hb.cell (p := ⟨_, _, none⟩) (cell_lt h)).trans h
theorem ErrT.grown {w w' : World} {b : Nat} (h : ErrT w) (hg : w.grownBy w' (some b)) (hb : 0 < b) : ErrT w' := (gb_cell hg (cell_lt h) (Nat.ne_of_lt hb)).trans h
/-- What errors.As and errors.as leave behind. -/
def AsPost (S : Nat → Prop) (t : Fa.F) (w : World) (tb : Nat) (e : Ending) (w' : World) : Prop :=
  e = .returned (.bool true) ∧ ∃ x c p cv cs, t.first = some (x, c) ∧ S p ∧ w'.heap[p]? = some (.cells (linkCells x cv (c.nodes + 1) c.hgt) 86 (0, 0)) ∧ Holds S w' c cs ∧ (cs = [] ∧ cv = .nilIface ∨ cs = [cv]) ∧
    w.grownBy w' (some tb) ∧ w'.heap[tb]? = some (.cells #[.pointer (some ⟨p, 0, none⟩)] 55 (0, 0))
def AsC (n : Nat) : Prop := ∀ (S : Nat → Prop) (t : Fa.F) (v : Value) (w : World) (tb tv : Nat) (old : Value), t.nodes ≤ n → Holds S w t [v] → t.ok → (∀ b, S b → b ≠ tb) → tv ≠ tb →
  w.heap[tb]? = some (.cells #[old] 55 (0, 0)) → w.cell? ⟨tv, 0, none⟩ = some (.pointer (some ⟨tb, 0, none⟩)) →
  Calls Tryz.prog 50 #[v, .iface 57 (.pointer (some ⟨tb, 0, none⟩)), .agg #[.pointer (some ⟨15, 57, none⟩), .pointer (some ⟨tv, 0, none⟩), .int .u64 150], .iface 127 (.agg #[.pointer (some ⟨15, 55, none⟩)])] w (AsPost S t w tb)

set_option maxHeartbeats 4000000 in
set_option maxRecDepth 100000 in
theorem as_hit (b tb tv : Nat) (old : Value) (w : World) (ht : w.heap[tb]? = some (.cells #[old] 55 (0, 0))) (hv : w.cell? ⟨tv, 0, none⟩ = some (.pointer (some ⟨tb, 0, none⟩))) :
    Calls Tryz.prog 50 #[linkPtr b, .iface 57 (.pointer (some ⟨tb, 0, none⟩)), .agg #[.pointer (some ⟨15, 57, none⟩), .pointer (some ⟨tv, 0, none⟩), .int .u64 150], .iface 127 (.agg #[.pointer (some ⟨15, 55, none⟩)])] w
      fun e w' => e = .returned (.bool true) ∧ w' = ((w.alloc (.cells #[.pointer (some ⟨15, 57, none⟩), .pointer (some ⟨tv, 0, none⟩), .int .u64 150] 95)).alloc (.cells #[.pointer (some ⟨b, 0, none⟩)] 55)).setCell ⟨tb, 0, none⟩ (.pointer (some ⟨b, 0, none⟩)) := by
  have h6 := @run_callFunc_extern Tryz.prog 47 _ (fun args => ReflectliteValue.unpack (args.getD 0 (.tuple #[]))) Tryz.func47 (by kernel_rfl) (by kernel_rfl) (by kernel_rfl) (by kernel_rfl)
  have h10 := @run_callFunc_extern Tryz.prog 51 _ ReflectliteType.typeOf Tryz.func51 (by kernel_rfl) (by kernel_rfl) (by kernel_rfl) (by kernel_rfl)
  have h35 := @run_callFunc_extern Tryz.prog 170 _ (ReflectliteType.relation "AssignableTo" ReflectliteType.assignableTo) Tryz.func170 (by kernel_rfl) (by kernel_rfl) (by kernel_rfl) (by kernel_rfl)
  have h11 := @run_callFunc_extern Tryz.prog 64 _ (ReflectliteValue.method (ReflectliteValue.valueError "reflectlite.Value.Elem" 0) ReflectliteValue.elem) Tryz.func64 (by kernel_rfl) (by kernel_rfl) (by kernel_rfl) (by kernel_rfl)
  have h12 := @run_callFunc_extern Tryz.prog 65 _ ReflectliteValue.set Tryz.func65 (by kernel_rfl) (by kernel_rfl) (by kernel_rfl) (by kernel_rfl)
  have tO := lk_typeOfP
  have mA := mAssA
  have a25 := lk_assignableP
  have v25 := lk_valueOfP
  have htl := lt_of_block ht
  have hvl := cell_lt hv
  have el := lk_elemVT ⟨tv, 0, none⟩ ⟨tb, 0, none⟩ (w.alloc (.cells #[.pointer (some ⟨15, 57, none⟩), .pointer (some ⟨tv, 0, none⟩), .int .u64 150] 95)) (by rw [World.cell?_alloc_lt _ _ ⟨tv, 0, none⟩ hvl]; exact hv)
  have st := lk_setP ⟨tb, 0, none⟩ ⟨w.heap.size + 1, 0, none⟩ ⟨b, 0, none⟩ old ((w.alloc (.cells #[.pointer (some ⟨15, 57, none⟩), .pointer (some ⟨tv, 0, none⟩), .int .u64 150] 95)).alloc (.cells #[.pointer (some ⟨b, 0, none⟩)] 55))
    (by rw [World.cell?_alloc_at _ _ _ _ (by simp)]; rfl)
    (by rw [World.cell?_alloc_lt _ _ ⟨tb, 0, none⟩ (by simp; omega), World.cell?_alloc_lt _ _ ⟨tb, 0, none⟩ htl]; exact blk_cell ht 0)
    (by rw [World.frozen?_alloc_old _ _ ⟨tb, 0, none⟩ (by simp; omega), World.frozen?_alloc_old _ _ ⟨tb, 0, none⟩ (Nat.ne_of_lt htl)]; exact blk_free ht 0)
  unfold linkPtr
  clear ht hv htl hvl
  go_enter Tryz.func50, Tryz.ntmps50
  go_wp2
  refine wp_loop_rounds 1 ?_
  rw [rounds_succ]
  go_wp2
  go_ret
  exact ⟨rfl, rfl⟩
end Go.Proofs.YtgnhbccmdpkbiaaGreatDoor
