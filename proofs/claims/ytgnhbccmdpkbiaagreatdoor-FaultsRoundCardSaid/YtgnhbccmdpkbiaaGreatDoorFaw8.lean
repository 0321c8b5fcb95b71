/-
  Walks for layer 3 (faults): Sentinel, Is, Unwrap; errors.Is; Has.
-/
import Derived.Test.YtgnhbccmdpkbiaaGreatDoorFaw2
import Derived.LaidEql
import Derived.Stop.Asserts
import Derived.RowKitTokens
namespace Go.Proofs.YtgnhbccmdpkbiaaGreatDoor
open Go.RowKit Go.Extern.Stop Go.Stop Go.Extern

def sent (k : Int) : Value := .iface 104 (I64 k)
theorem taLS (v : Value) (w : World) : (Instr.typeAssert (.iface 104 v) 26 104 true).run Tryz.prog w = .ok (.tuple #[v, .bool true]) w := by kernel_rfl
theorem hasIsL (v : Value) (xT : TypeId) (w : World) : (Instr.typeAssert (.iface 55 v) xT 137 true).run Tryz.prog w = .ok (.tuple #[.iface 55 v, .bool true]) w := run_typeAssert_hasB Tryz.underlying137 (by kernel_rfl) v xT w
theorem noIsJ (v : Value) (xT : TypeId) (w : World) : (Instr.typeAssert (.iface 89 v) xT 137 true).run Tryz.prog w = .ok (.tuple #[.nilIface, .bool false]) w := run_typeAssert_lacksB Tryz.underlying137 (by kernel_rfl) (by kernel_rfl) v xT w
theorem hasUnwrapL (v : Value) (xT : TypeId) (w : World) : (Instr.typeAssert (.iface 55 v) xT 134 true).run Tryz.prog w = .ok (.tuple #[.iface 55 v, .bool true]) w := run_typeAssert_hasB Tryz.underlying134 (by kernel_rfl) v xT w
theorem noUnwrapJ (v : Value) (xT : TypeId) (w : World) : (Instr.typeAssert (.iface 89 v) xT 134 true).run Tryz.prog w = .ok (.tuple #[.nilIface, .bool false]) w := run_typeAssert_lacksB Tryz.underlying134 (by kernel_rfl) (by kernel_rfl) v xT w
theorem hasUnwrapsJ (v : Value) (xT : TypeId) (w : World) : (Instr.typeAssert (.iface 89 v) xT 136 true).run Tryz.prog w = .ok (.tuple #[.iface 89 v, .bool true]) w := run_typeAssert_hasB Tryz.underlying136 (by kernel_rfl) v xT w
theorem mIsL (v : Value) (w : World) : (Go.method 348 55 v "Is").run Tryz.prog w = .ok (161, v) w := by kernel_rfl
theorem mUnL (v : Value) (w : World) : (Go.method 348 55 v "Unwrap").run Tryz.prog w = .ok (162, v) w := by kernel_rfl
theorem mUnJ (v : Value) (w : World) : (Go.method 348 89 v "Unwrap").run Tryz.prog w = .ok (59, v) w := by kernel_rfl
theorem typeOfS (v : Value) (w : World) : (Extern.ReflectliteType.typeOf #[.iface 104 v]).run Tryz.prog w = .ok (.iface 127 (.agg #[.pointer (some ⟨15, 104, none⟩)])) w := by kernel_rfl
/-- The model's entry for Comparable, under one name. -/
def compE : Array Value → Sem Value := Extern.ReflectliteType.method fun t => do Extern.Rtype.noPackHeld "Comparable" t; pure (.bool (← typeInfo t).comparable)
theorem comparableS (w : World) : (compE #[.agg #[.pointer (some ⟨15, 104, none⟩)]]).run Tryz.prog w = .ok (.bool true) w := by kernel_rfl
theorem mCompR (v : Value) (w : World) : (Go.method 348 127 v "Comparable").run Tryz.prog w = .ok (171, v) w := by kernel_rfl

theorem sentinel_in (k : Int) (w : World) (h1 : ¬ k < 1) (h2 : ¬ 17 ≤ k) : Calls Tryz.prog 27 #[I64 k] w fun e w' => e = .returned (.tuple #[sent k, I64 0]) ∧ w' = w := by
  go_enter Tryz.func27, Tryz.ntmps27
  go_wp2
  go_ret2
  exact ⟨rfl, rfl⟩
theorem sentinel_out (k : Int) (w : World) (h : k < 1 ∨ 17 ≤ k) : Calls Tryz.prog 27 #[I64 k] w fun e w' => e = .returned (.tuple #[.nilIface, I64 7]) ∧ w' = w := by
  by_cases h1 : k < 1
  · clear h
    go_enter Tryz.func27, Tryz.ntmps27
    go_wp2
    go_ret2
    exact ⟨rfl, rfl⟩
  · have h2 : 17 ≤ k := by omega
    clear h
    go_enter Tryz.func27, Tryz.ntmps27
    go_wp2
    go_ret2
    exact ⟨rfl, rfl⟩
theorem link_is (b : Nat) (x : Fa.Link) (cv : Value) (n d : Nat) (k : Int) (w : World) (h : w.heap[b]? = some (.cells (linkCells x cv n d) 86 (0, 0))) :
    Calls Tryz.prog 161 #[.pointer (some ⟨b, 0, none⟩), sent k] w fun e w' => e = .returned (.bool (x.kind == k)) ∧ w' = w := by
  have k0 := blk_cell h 0
  have k1 := blk_cell h 1
  simp only [linkCells, List.getElem?_toArray, List.getElem?_cons_succ, List.getElem?_cons_zero] at k0 k1
  have t1 := taLS
  clear h
  unfold sent
  go_enter Tryz.func161, Tryz.ntmps161
  go_wp2
  go_ret
  exact ⟨rfl, rfl⟩
theorem link_unwrap (b : Nat) (x : Fa.Link) (cv : Value) (n d : Nat) (w : World) (h : w.heap[b]? = some (.cells (linkCells x cv n d) 86 (0, 0))) :
    Calls Tryz.prog 162 #[.pointer (some ⟨b, 0, none⟩)] w fun e w' => e = .returned cv ∧ w' = w := by
  have k5 := blk_cell h 5
  simp only [linkCells, List.getElem?_toArray, List.getElem?_cons_succ, List.getElem?_cons_zero] at k5
  clear h
  go_enter Tryz.func162, Tryz.ntmps162
  go_wp2
  go_ret
  exact ⟨rfl, rfl⟩
/-- What a Joined hands out is a copy of its own. -/
theorem join_unwrap (b g o cap n d : Nat) (rs : List Ref) (w : World) (h : w.heap[b]? = some (.cells (joinCells (.slice (some ⟨g, o, none⟩) rs.length cap) n d) 91 (0, 0))) (he : ErrsAt w g o rs) (hp : 0 < rs.length) (hl : rs.length ≤ 1000000) :
    Calls Tryz.prog 59 #[.pointer (some ⟨b, 0, none⟩)] w fun e w' => ∃ g' c', e = .returned (.slice (some ⟨g', 0, none⟩) rs.length c') ∧ OwnL 26 1 encE w' w.heap.size (.slice (some ⟨g', 0, none⟩) rs.length c') rs ∧ Below w.heap.size w w' := by
  have k0 := blk_cell h 0
  simp only [joinCells, List.getElem?_toArray, List.getElem?_cons_zero] at k0
  have hz : ((rs.length : Int) == 0) = false := by rw [beq_eq_false_iff_ne]; omega
  have HE := Lib.hid he
  clear h he
  go_enter Tryz.func59, Tryz.ntmps59
  go_wp2_with (at_builtin; refine appLs elE _ rfl _ _ rfl w.heap.size (.slice none 0 0) [] rs rfl (OwnL.nil _ _) g o cap rfl HE.out.cells (by unfold maxLen; simp; omega) (by simp; omega) (Nat.le_refl _) ?_; rintro v2 w2 hown hgr; rw [List.nil_append] at hown; obtain ⟨g2, c2, hv2, hg21, hg22⟩ := own_form hown hp; subst hv2)
  go_ret
  exact ⟨_, _, rfl, hown, (Below.refl _ _).grown hgr (Nat.le_refl _) (fun k hk => by cases hk)⟩
end Go.Proofs.YtgnhbccmdpkbiaaGreatDoor
