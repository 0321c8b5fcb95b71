/-
  Walks for layer 3 (faults): Sentinel, Is, Unwrap; errors.Is; Has.
-/
import Derived.Test.YtgnhbccmdpkbiaaDoorFaw2
import Derived.LaidEql
import Derived.Stop.Asserts
import Derived.RowKitTokens
namespace Go.Proofs.YtgnhbccmdpkbiaaDoor
open Go.RowKit Go.Extern.Stop Go.Stop Go.Extern

def sent (k : Int) : Value := .iface 62 (I64 k)
theorem taLS (v : Value) (w : World) : (Instr.typeAssert (.iface 62 v) 28 62 true).run Tryd.prog w = .ok (.tuple #[v, .bool true]) w := by kernel_rfl
theorem hasIsL (v : Value) (xT : TypeId) (w : World) : (Instr.typeAssert (.iface 26 v) xT 117 true).run Tryd.prog w = .ok (.tuple #[.iface 26 v, .bool true]) w := run_typeAssert_hasB Tryd.underlying117 (by kernel_rfl) v xT w
theorem noIsJ (v : Value) (xT : TypeId) (w : World) : (Instr.typeAssert (.iface 36 v) xT 117 true).run Tryd.prog w = .ok (.tuple #[.nilIface, .bool false]) w := run_typeAssert_lacksB Tryd.underlying117 (by kernel_rfl) (by kernel_rfl) v xT w
theorem hasUnwrapL (v : Value) (xT : TypeId) (w : World) : (Instr.typeAssert (.iface 26 v) xT 114 true).run Tryd.prog w = .ok (.tuple #[.iface 26 v, .bool true]) w := run_typeAssert_hasB Tryd.underlying114 (by kernel_rfl) v xT w
theorem noUnwrapJ (v : Value) (xT : TypeId) (w : World) : (Instr.typeAssert (.iface 36 v) xT 114 true).run Tryd.prog w = .ok (.tuple #[.nilIface, .bool false]) w := run_typeAssert_lacksB Tryd.underlying114 (by kernel_rfl) (by kernel_rfl) v xT w
theorem hasUnwrapsJ (v : Value) (xT : TypeId) (w : World) : (Instr.typeAssert (.iface 36 v) xT 115 true).run Tryd.prog w = .ok (.tuple #[.iface 36 v, .bool true]) w := run_typeAssert_hasB Tryd.underlying115 (by kernel_rfl) v xT w
theorem mIsL (v : Value) (w : World) : (Go.method 283 26 v "Is").run Tryd.prog w = .ok (16, v) w := by kernel_rfl
theorem mUnL (v : Value) (w : World) : (Go.method 283 26 v "Unwrap").run Tryd.prog w = .ok (14, v) w := by kernel_rfl
theorem mUnJ (v : Value) (w : World) : (Go.method 283 36 v "Unwrap").run Tryd.prog w = .ok (18, v) w := by kernel_rfl
theorem typeOfS (v : Value) (w : World) : (Extern.ReflectliteType.typeOf #[.iface 62 v]).run Tryd.prog w = .ok (.iface 107 (.agg #[.pointer (some ⟨8, 62, none⟩)])) w := by kernel_rfl
/-- The model's entry for Comparable, under one name. -/
def compE : Array Value → Sem Value := Extern.ReflectliteType.method fun t => do Extern.Rtype.noPackHeld "Comparable" t; pure (.bool (← typeInfo t).comparable)
theorem comparableS (w : World) : (compE #[.agg #[.pointer (some ⟨8, 62, none⟩)]]).run Tryd.prog w = .ok (.bool true) w := by kernel_rfl
theorem mCompR (v : Value) (w : World) : (Go.method 283 107 v "Comparable").run Tryd.prog w = .ok (108, v) w := by kernel_rfl

theorem sentinel_in (k : Int) (w : World) (h1 : ¬ k < 1) (h2 : ¬ 17 ≤ k) : Calls Tryd.prog 5 #[I64 k] w fun e w' => e = .returned (.tuple #[sent k, I64 0]) ∧ w' = w := by
  go_enter Tryd.func5, Tryd.ntmps5
  go_wp2
  go_ret2
  exact ⟨rfl, rfl⟩
theorem sentinel_out (k : Int) (w : World) (h : k < 1 ∨ 17 ≤ k) : Calls Tryd.prog 5 #[I64 k] w fun e w' => e = .returned (.tuple #[.nilIface, I64 7]) ∧ w' = w := by
  by_cases h1 : k < 1
  · clear h
    go_enter Tryd.func5, Tryd.ntmps5
    go_wp2
    go_ret2
    exact ⟨rfl, rfl⟩
  · have h2 : 17 ≤ k := by omega
    clear h
    go_enter Tryd.func5, Tryd.ntmps5
    go_wp2
    go_ret2
    exact ⟨rfl, rfl⟩
theorem link_is (b : Nat) (x : Fa.Link) (cv : Value) (n d : Nat) (k : Int) (w : World) (h : w.heap[b]? = some (.cells (linkCells x cv n d) 35 (0, 0))) :
    Calls Tryd.prog 16 #[.pointer (some ⟨b, 0, none⟩), sent k] w fun e w' => e = .returned (.bool (x.kind == k)) ∧ w' = w := by
  have k0 := blk_cell h 0
  have k1 := blk_cell h 1
  simp only [linkCells, List.getElem?_toArray, List.getElem?_cons_succ, List.getElem?_cons_zero] at k0 k1
  have t1 := taLS
  clear h
  unfold sent
  go_enter Tryd.func16, Tryd.ntmps16
  go_wp2
  go_ret
  exact ⟨rfl, rfl⟩
theorem link_unwrap (b : Nat) (x : Fa.Link) (cv : Value) (n d : Nat) (w : World) (h : w.heap[b]? = some (.cells (linkCells x cv n d) 35 (0, 0))) :
    Calls Tryd.prog 14 #[.pointer (some ⟨b, 0, none⟩)] w fun e w' => e = .returned cv ∧ w' = w := by
  have k5 := blk_cell h 5
  simp only [linkCells, List.getElem?_toArray, List.getElem?_cons_succ, List.getElem?_cons_zero] at k5
  clear h
  go_enter Tryd.func14, Tryd.ntmps14
  go_wp2
  go_ret
  exact ⟨rfl, rfl⟩
/-- What a Joined hands out is a copy of its own. -/
theorem join_unwrap (b g o cap n d : Nat) (rs : List Ref) (w : World) (h : w.heap[b]? = some (.cells (joinCells (.slice (some ⟨g, o, none⟩) rs.length cap) n d) 39 (0, 0))) (he : ErrsAt w g o rs) (hp : 0 < rs.length) (hl : rs.length ≤ 1000000) :
    Calls Tryd.prog 18 #[.pointer (some ⟨b, 0, none⟩)] w fun e w' => ∃ g' c', e = .returned (.slice (some ⟨g', 0, none⟩) rs.length c') ∧ OwnL 28 1 encE w' w.heap.size (.slice (some ⟨g', 0, none⟩) rs.length c') rs ∧ Below w.heap.size w w' := by
  have k0 := blk_cell h 0
  simp only [joinCells, List.getElem?_toArray, List.getElem?_cons_zero] at k0
  have hz : ((rs.length : Int) == 0) = false := by rw [beq_eq_false_iff_ne]; omega
  have HE := Lib.hid he
  clear h he
  go_enter Tryd.func18, Tryd.ntmps18
  go_wp2_with (at_builtin; refine appLs elE _ rfl _ _ rfl w.heap.size (.slice none 0 0) [] rs rfl (OwnL.nil _ _) g o cap rfl HE.out.cells (by unfold maxLen; simp; omega) (by simp; omega) (Nat.le_refl _) ?_; rintro v2 w2 hown hgr; rw [List.nil_append] at hown; obtain ⟨g2, c2, hv2, hg21, hg22⟩ := own_form hown hp; subst hv2)
  go_ret
  exact ⟨_, _, rfl, hown, (Below.refl _ _).grown hgr (Nat.le_refl _) (fun k hk => by cases hk)⟩
end Go.Proofs.YtgnhbccmdpkbiaaDoor
