/-
  Layer 3 (faults): closed facts on the model's entries for internal/reflectlite at the two targets of errors.As: a pointer to a *Link, a pointer to a *Joined. (After the worked toy 'toyas'.)
-/
import Derived.Test.YtgnhbccmdpkbiaaDoorFaw8
import Derived.Test.YtgnhbccmdpkbiaaDoorFaw3
import Derived.Test.YtgnhbccmdpkbiaaDoorFaw10
import Derived.Test.YtgnhbccmdpkbiaaDoorFaw11
import Derived.Laws.ResultCell
namespace Go.Proofs.YtgnhbccmdpkbiaaDoor
open Go.RowKit Go.Extern.Stop Go.Stop Go.Extern

/-- The model's entry for Kind, under one name. -/
def kindE : Array Value → Sem Value := ReflectliteType.abiMethod fun t => do pure (.int .u8 (← Rtype.kind t))
theorem rlm (z : Sem Value) (f : TypeId → Addr → Nat → Nat → Sem Value) (v : Value) :
    ReflectliteValue.method z f #[v] = (do match ← ReflectliteValue.parts v with | none => z | some (t, a, fl) => f t a fl (fl % 32)) := rfl
theorem rls (v x : Value) : ReflectliteValue.set #[v, x] = (do
    let (some (dst, a, fl), some (src, b, _)) := (← ReflectliteValue.parts v, ← ReflectliteValue.parts x)
      | unsupported (.noEntry "extern/(internal/reflectlite.Value).Set.zeroValue")
    if fl / ReflectliteValue.flagAddr % 2 == 0 then unsupported (.noEntry "extern/(internal/reflectlite.Value).Set.unaddressable")
    let val ← loadVar src b
    if ← Rtype.directlyAssignable dst src then storeVar dst a val
    else if ← Rtype.implements dst src then
      if (← Rtype.kind src) == 20 then
        match val with
        | .nilIface => unsupported (.noEntry "extern/reflectlite: a nil value of one interface type handed on as a value of another")
        | _ => storeVar dst a val
      else storeVar dst a (.iface src val)
    else panicString ("reflectlite.Set: value of type " ++ (← Rtype.spelt src) ++ " is not assignable to type " ++ (← Rtype.spelt dst))
    pure (.tuple #[])) := rfl
theorem mKindA (h : Value) (w : World) : (Go.method 283 107 (.agg #[h]) "Kind").run Tryd.prog w = .ok (96, h) w := by kernel_rfl
theorem mElemA (h : Value) (w : World) : (Go.method 283 107 (.agg #[h]) "Elem").run Tryd.prog w = .ok (109, .agg #[h]) w := by kernel_rfl
theorem mImplA (h : Value) (w : World) : (Go.method 283 107 (.agg #[h]) "Implements").run Tryd.prog w = .ok (110, .agg #[h]) w := by kernel_rfl
theorem mAssA (h : Value) (w : World) : (Go.method 283 107 (.agg #[h]) "AssignableTo").run Tryd.prog w = .ok (107, .agg #[h]) w := by kernel_rfl
theorem assJL (w : World) : (ReflectliteType.relation "AssignableTo" ReflectliteType.assignableTo #[.agg #[.pointer (some ⟨8, 36, none⟩)], .iface 107 (.agg #[.pointer (some ⟨8, 26, none⟩)])]).run Tryd.prog w = .ok (.bool false) w := by kernel_rfl
theorem noAsJ (v : Value) (xT : TypeId) (w : World) : (Instr.typeAssert (.iface 36 v) xT 111 true).run Tryd.prog w = .ok (.tuple #[.nilIface, .bool false]) w := run_typeAssert_lacksB Tryd.underlying111 (by kernel_rfl) (by kernel_rfl) v xT w

theorem lk_valueOfT (t : Addr) (w : World) : (ReflectliteValue.unpack (.iface 69 (.pointer (some t)))).run Tryd.prog w
    = .ok (.agg #[.pointer (some ⟨8, 69, none⟩), .pointer (some ⟨w.heap.size, 0, none⟩), .int .u64 150]) (w.alloc (.cells #[.pointer (some t)] 69)) := by kernel_rfl
theorem lk_typeT (a : Addr) (w : World) : (ReflectliteValue.methodAny (ReflectliteValue.valueError "reflectlite.Value.Type" 0) (fun t _ _ _ => ReflectliteType.toType t) #[.agg #[.pointer (some ⟨8, 69, none⟩), .pointer (some a), .int .u64 150]]).run Tryd.prog w
    = .ok (.iface 107 (.agg #[.pointer (some ⟨8, 69, none⟩)])) w := by kernel_rfl
theorem lk_kindT (w : World) : (kindE #[.pointer (some ⟨8, 69, none⟩)]).run Tryd.prog w = .ok (.int .u8 22) w := by kernel_rfl
theorem lk_kindP (w : World) : (kindE #[.pointer (some ⟨8, 26, none⟩)]).run Tryd.prog w = .ok (.int .u8 22) w := by kernel_rfl
theorem lk_partsT (a : Addr) (w : World) : (ReflectliteValue.parts (.agg #[.pointer (some ⟨8, 69, none⟩), .pointer (some a), .int .u64 150])).run Tryd.prog w = .ok (some (69, a, 150)) w := by kernel_rfl
/-- (Value).IsNil at the Value of a pointer that is not nil. -/
theorem lk_isNilT (a p : Addr) (W : World) (ha : W.cell? a = some (.pointer (some p))) :
    (ReflectliteValue.method (ReflectliteValue.valueError "reflectlite.Value.IsNil" 0) ReflectliteValue.isNil #[.agg #[.pointer (some ⟨8, 69, none⟩), .pointer (some a), .int .u64 150]]).run Tryd.prog W = .ok (.bool false) W := by
  rw [rlm]
  simp only [Sem.run_bind, lk_partsT, Result.andThen]
  simp [ReflectliteValue.isNil, loadVar, isAgg, underlying, Tryd.underlying69, ha, Result.andThen]
theorem lk_elemT (w : World) : (ReflectliteType.method ReflectliteType.elem #[.agg #[.pointer (some ⟨8, 69, none⟩)]]).run Tryd.prog w = .ok (.iface 107 (.agg #[.pointer (some ⟨8, 26, none⟩)])) w := by kernel_rfl
theorem lk_implementsP (w : World) : (ReflectliteType.relation "Implements" ReflectliteType.implements_ #[.agg #[.pointer (some ⟨8, 26, none⟩)], .iface 107 (.agg #[.pointer (some ⟨8, 28, none⟩)])]).run Tryd.prog w = .ok (.bool true) w := by kernel_rfl
theorem lk_typeOfP (v : Value) (w : World) : (ReflectliteType.typeOf #[.iface 26 v]).run Tryd.prog w = .ok (.iface 107 (.agg #[.pointer (some ⟨8, 26, none⟩)])) w := by kernel_rfl
theorem lk_assignableP (w : World) : (ReflectliteType.relation "AssignableTo" ReflectliteType.assignableTo #[.agg #[.pointer (some ⟨8, 26, none⟩)], .iface 107 (.agg #[.pointer (some ⟨8, 26, none⟩)])]).run Tryd.prog w = .ok (.bool true) w := by kernel_rfl
theorem lk_valueOfP (e : Addr) (w : World) : (ReflectliteValue.unpack (.iface 26 (.pointer (some e)))).run Tryd.prog w
    = .ok (.agg #[.pointer (some ⟨8, 26, none⟩), .pointer (some ⟨w.heap.size, 0, none⟩), .int .u64 150]) (w.alloc (.cells #[.pointer (some e)] 26)) := by kernel_rfl
theorem lk_elemOfT (w : World) : (Rtype.elem? 69).run Tryd.prog w = .ok (some 26) w := by kernel_rfl
theorem lk_mkP (p : Addr) (w : World) : (ReflectliteValue.mk 26 p ReflectliteValue.flagAddr).run Tryd.prog w = .ok (.agg #[.pointer (some ⟨8, 26, none⟩), .pointer (some p), .int .u64 406]) w := by kernel_rfl
/-- (Value).Elem: the Value of the variable that is pointed to, addressable. -/
theorem lk_elemVT (a p : Addr) (W : World) (ha : W.cell? a = some (.pointer (some p))) :
    (ReflectliteValue.method (ReflectliteValue.valueError "reflectlite.Value.Elem" 0) ReflectliteValue.elem #[.agg #[.pointer (some ⟨8, 69, none⟩), .pointer (some a), .int .u64 150]]).run Tryd.prog W
      = .ok (.agg #[.pointer (some ⟨8, 26, none⟩), .pointer (some p), .int .u64 406]) W := by
  rw [rlm]
  simp only [Sem.run_bind, lk_partsT, Result.andThen]
  simp [ReflectliteValue.elem, loadVar, isAgg, underlying, Tryd.underlying69, ha, Result.andThen, lk_elemOfT, lk_mkP]
theorem lk_partsPa (a : Addr) (w : World) : (ReflectliteValue.parts (.agg #[.pointer (some ⟨8, 26, none⟩), .pointer (some a), .int .u64 406])).run Tryd.prog w = .ok (some (26, a, 406)) w := by kernel_rfl
theorem lk_partsP (a : Addr) (w : World) : (ReflectliteValue.parts (.agg #[.pointer (some ⟨8, 26, none⟩), .pointer (some a), .int .u64 150])).run Tryd.prog w = .ok (some (26, a, 150)) w := by kernel_rfl
theorem lk_directP (w : World) : (Rtype.directlyAssignable 26 26).run Tryd.prog w = .ok true w := by kernel_rfl
theorem lk_sizeP (w : World) : (sizeOf 26).run Tryd.prog w = .ok 1 w := by kernel_rfl
/-- (Value).Set: the variable at 'ta' gets what the Value's own variable 'b' holds. -/
theorem lk_setP (ta b e : Addr) (old : Value) (W : World) (hb : W.cell? b = some (.pointer (some e))) (ht : W.cell? ta = some old) (hf : W.frozen? ta = false) :
    (ReflectliteValue.set #[.agg #[.pointer (some ⟨8, 26, none⟩), .pointer (some ta), .int .u64 406], .agg #[.pointer (some ⟨8, 26, none⟩), .pointer (some b), .int .u64 150]]).run Tryd.prog W
      = .ok (.tuple #[]) (W.setCell ta (.pointer (some e))) := by
  rw [rls]
  simp only [Sem.run_bind, lk_partsPa, lk_partsP, Result.andThen]
  simp [ReflectliteValue.flagAddr, loadVar, isAgg, underlying, Tryd.underlying26, hb, Result.andThen, lk_directP, storeVar, Value.cells, storeCells, Addr.add]
  rw [run_store Tryd.prog W ta _ _ (by rfl)]
  simp [ht, hf]

theorem jn_valueOfT (t : Addr) (w : World) : (ReflectliteValue.unpack (.iface 82 (.pointer (some t)))).run Tryd.prog w
    = .ok (.agg #[.pointer (some ⟨8, 82, none⟩), .pointer (some ⟨w.heap.size, 0, none⟩), .int .u64 150]) (w.alloc (.cells #[.pointer (some t)] 82)) := by kernel_rfl
theorem jn_typeT (a : Addr) (w : World) : (ReflectliteValue.methodAny (ReflectliteValue.valueError "reflectlite.Value.Type" 0) (fun t _ _ _ => ReflectliteType.toType t) #[.agg #[.pointer (some ⟨8, 82, none⟩), .pointer (some a), .int .u64 150]]).run Tryd.prog w
    = .ok (.iface 107 (.agg #[.pointer (some ⟨8, 82, none⟩)])) w := by kernel_rfl
theorem jn_kindT (w : World) : (kindE #[.pointer (some ⟨8, 82, none⟩)]).run Tryd.prog w = .ok (.int .u8 22) w := by kernel_rfl
theorem jn_kindP (w : World) : (kindE #[.pointer (some ⟨8, 36, none⟩)]).run Tryd.prog w = .ok (.int .u8 22) w := by kernel_rfl
theorem jn_partsT (a : Addr) (w : World) : (ReflectliteValue.parts (.agg #[.pointer (some ⟨8, 82, none⟩), .pointer (some a), .int .u64 150])).run Tryd.prog w = .ok (some (82, a, 150)) w := by kernel_rfl
/-- (Value).IsNil at the Value of a pointer that is not nil. -/
theorem jn_isNilT (a p : Addr) (W : World) (ha : W.cell? a = some (.pointer (some p))) :
    (ReflectliteValue.method (ReflectliteValue.valueError "reflectlite.Value.IsNil" 0) ReflectliteValue.isNil #[.agg #[.pointer (some ⟨8, 82, none⟩), .pointer (some a), .int .u64 150]]).run Tryd.prog W = .ok (.bool false) W := by
  rw [rlm]
  simp only [Sem.run_bind, jn_partsT, Result.andThen]
  simp [ReflectliteValue.isNil, loadVar, isAgg, underlying, Tryd.underlying82, ha, Result.andThen]
theorem jn_elemT (w : World) : (ReflectliteType.method ReflectliteType.elem #[.agg #[.pointer (some ⟨8, 82, none⟩)]]).run Tryd.prog w = .ok (.iface 107 (.agg #[.pointer (some ⟨8, 36, none⟩)])) w := by kernel_rfl
theorem jn_implementsP (w : World) : (ReflectliteType.relation "Implements" ReflectliteType.implements_ #[.agg #[.pointer (some ⟨8, 36, none⟩)], .iface 107 (.agg #[.pointer (some ⟨8, 28, none⟩)])]).run Tryd.prog w = .ok (.bool true) w := by kernel_rfl
theorem jn_typeOfP (v : Value) (w : World) : (ReflectliteType.typeOf #[.iface 36 v]).run Tryd.prog w = .ok (.iface 107 (.agg #[.pointer (some ⟨8, 36, none⟩)])) w := by kernel_rfl
theorem jn_assignableP (w : World) : (ReflectliteType.relation "AssignableTo" ReflectliteType.assignableTo #[.agg #[.pointer (some ⟨8, 36, none⟩)], .iface 107 (.agg #[.pointer (some ⟨8, 36, none⟩)])]).run Tryd.prog w = .ok (.bool true) w := by kernel_rfl
theorem jn_valueOfP (e : Addr) (w : World) : (ReflectliteValue.unpack (.iface 36 (.pointer (some e)))).run Tryd.prog w
    = .ok (.agg #[.pointer (some ⟨8, 36, none⟩), .pointer (some ⟨w.heap.size, 0, none⟩), .int .u64 150]) (w.alloc (.cells #[.pointer (some e)] 36)) := by kernel_rfl
theorem jn_elemOfT (w : World) : (Rtype.elem? 82).run Tryd.prog w = .ok (some 36) w := by kernel_rfl
theorem jn_mkP (p : Addr) (w : World) : (ReflectliteValue.mk 36 p ReflectliteValue.flagAddr).run Tryd.prog w = .ok (.agg #[.pointer (some ⟨8, 36, none⟩), .pointer (some p), .int .u64 406]) w := by kernel_rfl
/-- (Value).Elem: the Value of the variable that is pointed to, addressable. -/
theorem jn_elemVT (a p : Addr) (W : World) (ha : W.cell? a = some (.pointer (some p))) :
    (ReflectliteValue.method (ReflectliteValue.valueError "reflectlite.Value.Elem" 0) ReflectliteValue.elem #[.agg #[.pointer (some ⟨8, 82, none⟩), .pointer (some a), .int .u64 150]]).run Tryd.prog W
      = .ok (.agg #[.pointer (some ⟨8, 36, none⟩), .pointer (some p), .int .u64 406]) W := by
  rw [rlm]
  simp only [Sem.run_bind, jn_partsT, Result.andThen]
  simp [ReflectliteValue.elem, loadVar, isAgg, underlying, Tryd.underlying82, ha, Result.andThen, jn_elemOfT, jn_mkP]
theorem jn_partsPa (a : Addr) (w : World) : (ReflectliteValue.parts (.agg #[.pointer (some ⟨8, 36, none⟩), .pointer (some a), .int .u64 406])).run Tryd.prog w = .ok (some (36, a, 406)) w := by kernel_rfl
theorem jn_partsP (a : Addr) (w : World) : (ReflectliteValue.parts (.agg #[.pointer (some ⟨8, 36, none⟩), .pointer (some a), .int .u64 150])).run Tryd.prog w = .ok (some (36, a, 150)) w := by kernel_rfl
theorem jn_directP (w : World) : (Rtype.directlyAssignable 36 36).run Tryd.prog w = .ok true w := by kernel_rfl
theorem jn_sizeP (w : World) : (sizeOf 36).run Tryd.prog w = .ok 1 w := by kernel_rfl
/-- (Value).Set: the variable at 'ta' gets what the Value's own variable 'b' holds. -/
theorem jn_setP (ta b e : Addr) (old : Value) (W : World) (hb : W.cell? b = some (.pointer (some e))) (ht : W.cell? ta = some old) (hf : W.frozen? ta = false) :
    (ReflectliteValue.set #[.agg #[.pointer (some ⟨8, 36, none⟩), .pointer (some ta), .int .u64 406], .agg #[.pointer (some ⟨8, 36, none⟩), .pointer (some b), .int .u64 150]]).run Tryd.prog W
      = .ok (.tuple #[]) (W.setCell ta (.pointer (some e))) := by
  rw [rls]
  simp only [Sem.run_bind, jn_partsPa, jn_partsP, Result.andThen]
  simp [ReflectliteValue.flagAddr, loadVar, isAgg, underlying, Tryd.underlying36, hb, Result.andThen, jn_directP, storeVar, Value.cells, storeCells, Addr.add]
  rw [run_store Tryd.prog W ta _ _ (by rfl)]
  simp [ht, hf]
end Go.Proofs.YtgnhbccmdpkbiaaDoor
namespace Go.Proofs.YtgnhbccmdpkbiaaDoor
open Go.RowKit Go.Extern.Stop Go.Stop Go.Extern

def hTT : Value := .pointer (some ⟨8, 69, none⟩)
def hT : Value := .pointer (some ⟨8, 26, none⟩)
/-- What errors.errorType holds. -/
def ErrT (w : World) : Prop := w.cell? ⟨0, 0, none⟩ = some (.iface 107 (.agg #[.pointer (some ⟨8, 28, none⟩)]))
theorem cell_lt {w : World} {b o : Nat} {v : Value} (h : w.cell? ⟨b, o, none⟩ = some v) : b < w.heap.size := by
  rcases Nat.lt_or_ge b w.heap.size with h1 | h1
  · exact h1
  · simp [World.cell?, Array.getElem?_eq_none h1] at h
theorem ErrT.below {w w' : World} (h : ErrT w) (hb : Below w.heap.size w w') : ErrT w' := (hb.cell (p := ⟨_, _, none⟩) (cell_lt h)).trans h
theorem ErrT.grown {w w' : World} {b : Nat} (h : ErrT w) (hg : w.grownBy w' (some b)) (hb : 0 < b) : ErrT w' := (gb_cell hg (cell_lt h) (Nat.ne_of_lt hb)).trans h
/-- What errors.As and errors.as leave behind. -/
def AsPost (S : Nat → Prop) (t : Fa.F) (w : World) (tb : Nat) (e : Ending) (w' : World) : Prop :=
  e = .returned (.bool true) ∧ ∃ x c p cv cs, t.first = some (x, c) ∧ S p ∧ w'.heap[p]? = some (.cells (linkCells x cv (c.nodes + 1) c.hgt) 35 (0, 0)) ∧ Holds S w' c cs ∧ (cs = [] ∧ cv = .nilIface ∨ cs = [cv]) ∧
    w.grownBy w' (some tb) ∧ w'.heap[tb]? = some (.cells #[.pointer (some ⟨p, 0, none⟩)] 26 (0, 0))
def AsC (n : Nat) : Prop := ∀ (S : Nat → Prop) (t : Fa.F) (v : Value) (w : World) (tb tv : Nat) (old : Value), t.nodes ≤ n → Holds S w t [v] → t.ok → (∀ b, S b → b ≠ tb) → tv ≠ tb →
  w.heap[tb]? = some (.cells #[old] 26 (0, 0)) → w.cell? ⟨tv, 0, none⟩ = some (.pointer (some ⟨tb, 0, none⟩)) →
  Calls Tryd.prog 35 #[v, .iface 69 (.pointer (some ⟨tb, 0, none⟩)), .agg #[.pointer (some ⟨8, 69, none⟩), .pointer (some ⟨tv, 0, none⟩), .int .u64 150], .iface 107 (.agg #[.pointer (some ⟨8, 26, none⟩)])] w (AsPost S t w tb)

set_option maxHeartbeats 4000000 in
set_option maxRecDepth 100000 in
theorem as_hit (b tb tv : Nat) (old : Value) (w : World) (ht : w.heap[tb]? = some (.cells #[old] 26 (0, 0))) (hv : w.cell? ⟨tv, 0, none⟩ = some (.pointer (some ⟨tb, 0, none⟩))) :
    Calls Tryd.prog 35 #[linkPtr b, .iface 69 (.pointer (some ⟨tb, 0, none⟩)), .agg #[.pointer (some ⟨8, 69, none⟩), .pointer (some ⟨tv, 0, none⟩), .int .u64 150], .iface 107 (.agg #[.pointer (some ⟨8, 26, none⟩)])] w
      fun e w' => e = .returned (.bool true) ∧ w' = ((w.alloc (.cells #[.pointer (some ⟨8, 69, none⟩), .pointer (some ⟨tv, 0, none⟩), .int .u64 150] 86)).alloc (.cells #[.pointer (some ⟨b, 0, none⟩)] 26)).setCell ⟨tb, 0, none⟩ (.pointer (some ⟨b, 0, none⟩)) := by
  have h6 := @run_callFunc_extern Tryd.prog 32 _ (fun args => ReflectliteValue.unpack (args.getD 0 (.tuple #[]))) Tryd.func32 (by kernel_rfl) (by kernel_rfl) (by kernel_rfl) (by kernel_rfl)
  have h10 := @run_callFunc_extern Tryd.prog 41 _ ReflectliteType.typeOf Tryd.func41 (by kernel_rfl) (by kernel_rfl) (by kernel_rfl) (by kernel_rfl)
  have h35 := @run_callFunc_extern Tryd.prog 107 _ (ReflectliteType.relation "AssignableTo" ReflectliteType.assignableTo) Tryd.func107 (by kernel_rfl) (by kernel_rfl) (by kernel_rfl) (by kernel_rfl)
  have h11 := @run_callFunc_extern Tryd.prog 44 _ (ReflectliteValue.method (ReflectliteValue.valueError "reflectlite.Value.Elem" 0) ReflectliteValue.elem) Tryd.func44 (by kernel_rfl) (by kernel_rfl) (by kernel_rfl) (by kernel_rfl)
  have h12 := @run_callFunc_extern Tryd.prog 45 _ ReflectliteValue.set Tryd.func45 (by kernel_rfl) (by kernel_rfl) (by kernel_rfl) (by kernel_rfl)
  have tO := lk_typeOfP
  have mA := mAssA
  have a25 := lk_assignableP
  have v25 := lk_valueOfP
  have htl := lt_of_block ht
  have hvl := cell_lt hv
  have el := lk_elemVT ⟨tv, 0, none⟩ ⟨tb, 0, none⟩ (w.alloc (.cells #[.pointer (some ⟨8, 69, none⟩), .pointer (some ⟨tv, 0, none⟩), .int .u64 150] 86)) (by rw [World.cell?_alloc_lt _ _ ⟨tv, 0, none⟩ hvl]; exact hv)
  have st := lk_setP ⟨tb, 0, none⟩ ⟨w.heap.size + 1, 0, none⟩ ⟨b, 0, none⟩ old ((w.alloc (.cells #[.pointer (some ⟨8, 69, none⟩), .pointer (some ⟨tv, 0, none⟩), .int .u64 150] 86)).alloc (.cells #[.pointer (some ⟨b, 0, none⟩)] 26))
    (by rw [World.cell?_alloc_at _ _ _ _ (by simp)]; rfl)
    (by rw [World.cell?_alloc_lt _ _ ⟨tb, 0, none⟩ (by simp; omega), World.cell?_alloc_lt _ _ ⟨tb, 0, none⟩ htl]; exact blk_cell ht 0)
    (by rw [World.frozen?_alloc_old _ _ ⟨tb, 0, none⟩ (by simp; omega), World.frozen?_alloc_old _ _ ⟨tb, 0, none⟩ (Nat.ne_of_lt htl)]; exact blk_free ht 0)
  unfold linkPtr
  clear ht hv htl hvl
  go_enter Tryd.func35, Tryd.ntmps35
  go_wp2
  refine wp_loop_rounds 1 ?_
  rw [rounds_succ]
  go_wp2
  go_ret
  exact ⟨rfl, rfl⟩
end Go.Proofs.YtgnhbccmdpkbiaaDoor
namespace Go.Proofs.YtgnhbccmdpkbiaaDoor
open Go.RowKit Go.Extern.Stop Go.Stop Go.Extern

theorem first_kid {j : Fa.F} (hok : (Fa.F.join j .nil).ok) (h : 0 < j.kids.length) : (Fa.F.join j .nil).first = (j.kids[0]).first := by
  obtain ⟨h1, _, h3, _⟩ := hok
  have e := Fa.kids_first j h3
  obtain ⟨p, hp⟩ := Fa.first_some h3 (fun e => by rw [e] at h1; exact absurd h1 (by decide))
  have e2 : j.kids.head? = some j.kids[0] := by rw [List.head?_eq_getElem?, List.getElem?_eq_getElem h]
  rw [e2] at e
  rw [Fa.F.first, hp]
  rw [hp] at e
  exact e
theorem Holds.setT {S : Nat → Prop} {w : World} {tb : Nat} {u : Value} {t : Fa.F} {vs : List Value} (h : Holds S w t vs) (hS : ∀ b, S b → b ≠ tb) : Holds S (w.setCell ⟨tb, 0, none⟩ u) t vs :=
  h.moved (fun b h1 _ => ⟨h1, Below.heap_setCell _ _ _ _ (hS b h1)⟩) (by simp [World.setCell])
set_option maxHeartbeats 4000000 in
set_option maxRecDepth 100000 in
theorem as_step (n : Nat) (hA : AsC n) : AsC (n + 1) := by
  intro S t v w tb tv old hn h hok hS hne ht hv
  have htl := lt_of_block ht
  have hvl := cell_lt hv
  rcases h.one with ⟨x, c, b, cv, cs, rfl, rfl, hbS, h2, h3, h4⟩ | ⟨j, b, g, o, cap, ks, rfl, rfl, hbS, h2, ⟨hg, hgl, h3⟩, h4⟩
  · refine (as_hit b tb tv old w ht hv).mono ?_
    rintro e w' ⟨rfl, rfl⟩
    have hb := ((Below.refl w.heap.size w).alloc (Nat.le_refl _) (.cells #[.pointer (some ⟨8, 69, none⟩), .pointer (some ⟨tv, 0, none⟩), .int .u64 150] 86)).alloc (by simp) (.cells #[.pointer (some ⟨b, 0, none⟩)] 26)
    refine ⟨rfl, x, c, b, cv, cs, rfl, hbS, ?_, (h3.below hb).setT hS, h4, gb_trans (gb_below hb) (gb_set _ _ _ _), ?_⟩
    · rw [Below.heap_setCell _ _ _ _ (hS b hbS)]
      exact (hb.block b (lt_of_block h2)).trans h2
    · exact blk_set ((hb.block tb htl).trans ht) 0 _
  · obtain ⟨rs, hrs⟩ := h4.refs
    subst hrs
    have hlk : rs.length = j.kids.length := by
      have := h4.len
      rw [List.length_map] at this
      rw [this, Fa.kids_len]
    rw [List.length_map] at h2
    have hpos : 0 < rs.length := by rw [hlk, Fa.kids_len]; have := hok.1; omega
    have hl8 : rs.length ≤ 8 := by rw [hlk, Fa.kids_len]; have := hok.2.1; omega
    have hkp : 0 < j.kids.length := by omega
    have hkd := Fa.kids_nodes j _ (List.getElem_mem hkp)
    have hfk := first_kid hok hkp
    have hb0 := (Below.refl w.heap.size w).alloc (Nat.le_refl _) (.cells #[.pointer (some ⟨8, 69, none⟩), .pointer (some ⟨tv, 0, none⟩), .int .u64 150] 86)
    have HB0 := Lib.hid hb0
    have HE : ErrsAt (w.alloc (.cells #[.pointer (some ⟨8, 69, none⟩), .pointer (some ⟨tv, 0, none⟩), .int .u64 150] 86)) g o rs := ErrsAt.below ⟨hgl, fun i hi => h3 i _ (by rw [List.getElem?_map, List.getElem?_eq_getElem hi]; rfl)⟩ hb0
    have HJU := Lib.hid (join_unwrap b g o cap _ _ rs _ ((hb0.block b (lt_of_block h2)).trans h2) HE hpos (by omega))
    have HAS : Hid (∀ w1, Below w.heap.size w w1 → Calls Tryd.prog 35 #[valE rs[0], .iface 69 (.pointer (some ⟨tb, 0, none⟩)), .agg #[.pointer (some ⟨8, 69, none⟩), .pointer (some ⟨tv, 0, none⟩), .int .u64 150], .iface 107 (.agg #[.pointer (some ⟨8, 26, none⟩)])] w1 (AsPost S j.kids[0] w1 tb)) :=
      fun w1 hb => hA S j.kids[0] (valE rs[0]) w1 tb tv old (by simp only [Fa.F.nodes] at hn; omega) ((h4.elem 0 hkp hpos).below hb) (hkd.2.2 hok.2.2.1) hS hne ((hb.block tb htl).trans ht) ((hb.cell (p := ⟨tv, 0, none⟩) hvl).trans hv)
    have HP : Hid (∀ w1 w', Below w.heap.size w w1 → AsPost S j.kids[0] w1 tb (.returned (.bool true)) w' → AsPost S (.join j .nil) w tb (.returned (.bool true)) w') := fun w1 w' hb hp => by
      obtain ⟨_, x, c, p, cv, cs, p1, p2, p3, p4, p5, p6, p7⟩ := hp
      exact ⟨rfl, x, c, p, cv, cs, hfk.trans p1, p2, p3, p4, p5, gb_trans (gb_below hb) p6, p7⟩
    have h10 := @run_callFunc_extern Tryd.prog 41 _ ReflectliteType.typeOf Tryd.func41 (by kernel_rfl) (by kernel_rfl) (by kernel_rfl) (by kernel_rfl)
    have h35 := @run_callFunc_extern Tryd.prog 107 _ (ReflectliteType.relation "AssignableTo" ReflectliteType.assignableTo) Tryd.func107 (by kernel_rfl) (by kernel_rfl) (by kernel_rfl) (by kernel_rfl)
    have tO := jn_typeOfP
    have mA := mAssA
    have aJ := assJL
    have nAs := noAsJ
    have nU := noUnwrapJ
    have hUs := hasUnwrapsJ
    have m3 := mUnJ
    have i0 : (0 : Int) < (rs.length : Int) := by omega
    unfold joinPtr
    clear h h2 h3 h4 hlk hfk hb0 HE hkd hA hok hn ht hv hS hl8
    go_enter Tryd.func35, Tryd.ntmps35
    go_wp2
    refine wp_loop_rounds 1 ?_
    rw [rounds_succ]
    go_wp2_with (go_at_call 18; refine HJU.out.mono ?_; rintro e w1 ⟨g1, c1, rfl, hown1, hb1⟩; have HB1 := Lib.hid (HB0.out.trans (hb1.mono HB0.out.size)); have e0 := own_errs hown1 0 hpos; have z0 := (hb1.cell (p := ⟨w.heap.size, 0, none⟩) (by simp)).trans (show _ = some (.pointer (some ⟨8, 69, none⟩)) from by rw [World.cell?_alloc_at _ _ _ _ rfl]; rfl); have z1 := (hb1.cell (p := ⟨w.heap.size, 1, none⟩) (by simp)).trans (show _ = some (.pointer (some ⟨tv, 0, none⟩)) from by rw [World.cell?_alloc_at _ _ _ _ rfl]; rfl); have z2 := (hb1.cell (p := ⟨w.heap.size, 2, none⟩) (by simp)).trans (show _ = some (.int .u64 150) from by rw [World.cell?_alloc_at _ _ _ _ rfl]; rfl); obtain ⟨ty, pv, hty⟩ := valE_iface rs[0]; have HAA := Lib.hid (HAS.out w1 HB1.out); rw [hty] at e0 HAA; clear hown1 hb1 hty)
    refine wp_loop_rounds 1 ?_
    rw [rounds_succ]
    go_wp2_with (go_at_call 35; refine HAA.out.mono ?_; rintro e w3 hp; have HPP := Lib.hid hp; obtain rfl := hp.1; clear hp)
    go_ret
    exact HP.out _ _ HB1.out HPP.out
theorem asC_all : ∀ n, AsC n := by
  intro n
  induction n with
  | zero =>
    intro S t v w tb tv old hn h
    have := one_ne h
    omega
  | succ n ih => exact as_step n ih

set_option maxHeartbeats 4000000 in
set_option maxRecDepth 100000 in
/-- errors.As of a fault at a **Link. -/
theorem asL_any (S : Nat → Prop) (t : Fa.F) (v : Value) (w : World) (tb : Nat) (old : Value) (h : Holds S w t [v]) (hok : t.ok) (hS : ∀ b, S b → b ≠ tb) (ht : w.heap[tb]? = some (.cells #[old] 26 (0, 0))) (hE : ErrT w) :
    Calls Tryd.prog 26 #[v, .iface 69 (.pointer (some ⟨tb, 0, none⟩))] w (AsPost S t w tb) := by
  have htl := lt_of_block ht
  have HP : Hid (∀ w1 w', Below w.heap.size w w1 → AsPost S t w1 tb (.returned (.bool true)) w' → AsPost S t w tb (.returned (.bool true)) w') := fun w1 w' hb hp => by
    obtain ⟨_, x, c, p, cv, cs, p1, p2, p3, p4, p5, p6, p7⟩ := hp
    exact ⟨rfl, x, c, p, cv, cs, p1, p2, p3, p4, p5, gb_trans (gb_below hb) p6, p7⟩
  have hb0 : Below w.heap.size w ((w.alloc (.cells #[.pointer (some ⟨tb, 0, none⟩)] 69)).alloc (.cells #[.pointer (some ⟨8, 69, none⟩), .pointer (some ⟨w.heap.size, 0, none⟩), .int .u64 150] 86)) := ((Below.refl _ _).alloc (Nat.le_refl _) _).alloc (by simp) _
  have HB0 := Lib.hid hb0
  have HAS := Lib.hid (asC_all t.nodes S t v _ tb w.heap.size old (Nat.le_refl _) (h.below hb0) hok hS (Nat.ne_of_gt htl) ((hb0.block tb htl).trans ht) (by rw [World.cell?_alloc_lt _ _ ⟨w.heap.size, 0, none⟩ (by simp), World.cell?_alloc_at _ _ _ _ rfl]; rfl))
  have h6 := @run_callFunc_extern Tryd.prog 32 _ (fun args => ReflectliteValue.unpack (args.getD 0 (.tuple #[]))) Tryd.func32 (by kernel_rfl) (by kernel_rfl) (by kernel_rfl) (by kernel_rfl)
  have h7 := @run_callFunc_extern Tryd.prog 33 _ (ReflectliteValue.methodAny (ReflectliteValue.valueError "reflectlite.Value.Type" 0) (fun t _ _ _ => ReflectliteType.toType t)) Tryd.func33 (by kernel_rfl) (by kernel_rfl) (by kernel_rfl) (by kernel_rfl)
  have h8 := @run_callFunc_extern Tryd.prog 34 _ (ReflectliteValue.method (ReflectliteValue.valueError "reflectlite.Value.IsNil" 0) ReflectliteValue.isNil) Tryd.func34 (by kernel_rfl) (by kernel_rfl) (by kernel_rfl) (by kernel_rfl)
  have h27 := @run_callFunc_extern Tryd.prog 96 _ kindE Tryd.func96 (by kernel_rfl) (by kernel_rfl) (by kernel_rfl) (by kernel_rfl)
  have h37 := @run_callFunc_extern Tryd.prog 109 _ (ReflectliteType.method ReflectliteType.elem) Tryd.func109 (by kernel_rfl) (by kernel_rfl) (by kernel_rfl) (by kernel_rfl)
  have h38 := @run_callFunc_extern Tryd.prog 110 _ (ReflectliteType.relation "Implements" ReflectliteType.implements_) Tryd.func110 (by kernel_rfl) (by kernel_rfl) (by kernel_rfl) (by kernel_rfl)
  have f6 := lk_valueOfT
  have f7 := lk_typeT
  have mK := mKindA
  have mE := mElemA
  have mI := mImplA
  have k27 := lk_kindT
  have k25 := lk_kindP
  have e27 := lk_elemT
  have i25 := lk_implementsP
  have n8 := lk_isNilT ⟨w.heap.size, 0, none⟩ ⟨tb, 0, none⟩ ((w.alloc (.cells #[.pointer (some ⟨tb, 0, none⟩)] 69)).alloc (.cells #[.pointer (some ⟨8, 69, none⟩), .pointer (some ⟨w.heap.size, 0, none⟩), .int .u64 150] 86)) (by rw [World.cell?_alloc_lt _ _ ⟨w.heap.size, 0, none⟩ (by simp), World.cell?_alloc_at _ _ _ _ rfl]; rfl)
  have hg2 : ((w.alloc (.cells #[.pointer (some ⟨tb, 0, none⟩)] 69)).alloc (.cells #[.pointer (some ⟨8, 69, none⟩), .pointer (some ⟨w.heap.size, 0, none⟩), .int .u64 150] 86)).cell? ⟨0, 0, none⟩ = some (.iface 107 (.agg #[.pointer (some ⟨8, 28, none⟩)])) := hE.below hb0
  obtain ⟨ty, p, rfl⟩ := h.iface
  clear h hok hS ht hE hb0 htl
  go_enter Tryd.func26, Tryd.ntmps26
  go_wp2_with (go_at_call 35; refine HAS.out.mono ?_; rintro e w3 hp; have HPP := Lib.hid hp; obtain rfl := hp.1; clear hp)
  go_ret
  exact HP.out _ _ HB0.out HPP.out
end Go.Proofs.YtgnhbccmdpkbiaaDoor
namespace Go.Proofs.YtgnhbccmdpkbiaaDoor
open Go.RowKit Go.Extern.Stop Go.Stop Go.Extern

/-- Where the loop of Root stands. -/
def RootInv (t : Fa.F) (w : World) (v : Value) (wr : World) : Prop := ∃ s : Fa.F, Holds (fun _ => True) wr s [v] ∧ s.ok ∧ s.root = t.root ∧ s.nodes ≤ t.nodes ∧ Below w.heap.size w wr ∧ wr.heap[w.heap.size]? = some (.cells #[I64 0, .string ⟨#[]⟩, I64 0, I64 0] 24 (0, 0)) ∧ ErrT wr
def AsLeaf (x : Fa.Link) (w : World) (tb : Nat) (e : Ending) (w' : World) : Prop := e = .returned (.bool true) ∧ ∃ p, w'.heap[p]? = some (.cells (linkCells x .nilIface 1 0) 35 (0, 0)) ∧ w.grownBy w' (some tb) ∧ w'.heap[tb]? = some (.cells #[.pointer (some ⟨p, 0, none⟩)] 26 (0, 0))
def AsMore (S : Nat → Prop) (c : Fa.F) (w : World) (tb : Nat) (e : Ending) (w' : World) : Prop := e = .returned (.bool true) ∧ ∃ x p cv, w'.heap[p]? = some (.cells (linkCells x cv (c.nodes + 1) c.hgt) 35 (0, 0)) ∧ Holds S w' c [cv] ∧ w.grownBy w' (some tb) ∧ w'.heap[tb]? = some (.cells #[.pointer (some ⟨p, 0, none⟩)] 26 (0, 0))
theorem AsPost.leaf {S : Nat → Prop} {s : Fa.F} {x : Fa.Link} {w w' : World} {tb : Nat} {e : Ending} (h : AsPost S s w tb e w') (hf : s.first = some (x, .nil)) : AsLeaf x w tb e w' := by
  obtain ⟨h1, x', c, p, cv, cs, p1, p2, p3, p4, p5, p6, p7⟩ := h
  rw [hf] at p1
  simp only [Option.some.injEq, Prod.mk.injEq] at p1
  obtain ⟨rfl, rfl⟩ := p1
  obtain rfl : cs = [] := p4
  rcases p5 with ⟨_, rfl⟩ | e
  · exact ⟨h1, p, p3, p6, p7⟩
  · cases e
theorem AsPost.more {S : Nat → Prop} {s c : Fa.F} {x : Fa.Link} {w w' : World} {tb : Nat} {e : Ending} (h : AsPost S s w tb e w') (hf : s.first = some (x, c)) (hc : c ≠ .nil) : AsMore S c w tb e w' := by
  obtain ⟨h1, x', c', p, cv, cs, p1, p2, p3, p4, p5, p6, p7⟩ := h
  rw [hf] at p1
  simp only [Option.some.injEq, Prod.mk.injEq] at p1
  obtain ⟨rfl, rfl⟩ := p1
  rcases p5 with ⟨rfl, _⟩ | rfl
  · exact absurd (by
      have := p4.len
      cases c with
      | nil => rfl
      | link _ _ _ => simp [Fa.F.len] at this
      | join _ _ => simp [Fa.F.len] at this) hc
  · exact ⟨h1, _, p, cv, p3, p4, p6, p7⟩
theorem ne_of_one {S : Nat → Prop} {w : World} {t : Fa.F} {v : Value} (h : Holds S w t [v]) : t ≠ .nil := fun e => by
  have := one_ne h
  rw [e] at this
  exact absurd this (by decide)
set_option maxHeartbeats 4000000 in
set_option maxRecDepth 100000 in
theorem root_any (t : Fa.F) (v : Value) (w : World) (h : Holds (fun _ => True) w t [v]) (hok : t.ok) (hn : t.nodes ≤ 100000) (hE : ErrT w) :
    Calls Tryd.prog 8 #[v] w fun e w' => e = .returned (.tuple #[valLink t.root, I64 0]) ∧ Below w.heap.size w w' := by
  have hb0 : Below w.heap.size w (w.alloc (.cells #[I64 0, .string ⟨#[]⟩, I64 0, I64 0] 24)) := (Below.refl _ _).alloc (Nat.le_refl _) _
  have HC := Lib.hid (chain_any (fun _ => True) t v _ (h.below hb0) hok hn)
  have HST : Hid (∀ w1, Below (w.heap.size + 1) (w.alloc (.cells #[I64 0, .string ⟨#[]⟩, I64 0, I64 0] 24)) w1 → RootInv t w v w1) := fun w1 hb => by
    have hb1 : Below w.heap.size w w1 := hb0.trans (hb.mono (by omega))
    exact ⟨t, h.below hb1, hok, rfl, Nat.le_refl _, hb1, (hb.block _ (by simp)).trans (blk_new _ _), hE.below hb1⟩
  have HL := Lib.hid (lt_of_block (blk_new w (.cells #[I64 0, .string ⟨#[]⟩, I64 0, I64 0] 24)))
  clear h hok hE hb0
  go_enter Tryd.func8, Tryd.ntmps8
  go_wp2_with (go_at_call 6; refine HC.out.mono ?_; rintro e w1 ⟨sv, rfl, _, hb1⟩; have HS1 := Lib.hid (HST.out w1 (by simpa using hb1)); clear hb1)
  go_loopw [0] (fun v wr => Hid (RootInv t w v wr)) (fun v wr => nodesAt wr v)
  case atStart => exact HS1
  case round =>
    obtain ⟨s, h, hok, hrt, hns, hb, hrb, hE⟩ := hrel.out
    have hba : Below wr.heap.size wr (wr.alloc (.cells #[.pointer none] 26)) := (Below.refl _ _).alloc (Nat.le_refl _) _
    have h' : Holds (fun b => b < wr.heap.size) (wr.alloc (.cells #[.pointer none] 26)) s [_] := (h.mono (fun b _ hl => hl)).below hba
    have HA := Lib.hid (asL_any (fun b => b < wr.heap.size) s _ _ wr.heap.size (.pointer none) h' hok (fun b hb => Nat.ne_of_lt hb) (blk_new _ _) (hE.below hba))
    have HNM := Lib.hid (nodesAt_holds h)
    have HB := Lib.hid hb
    have HRB := Lib.hid hrb
    have HEE := Lib.hid hE
    have HOK := Lib.hid hok
    have HRT := Lib.hid hrt
    have HNS := Lib.hid hns
    obtain ⟨⟨x, c⟩, hf⟩ := Fa.first_some hok (ne_of_one h)
    have hrf := Fa.root_first hok hf
    have hfo := Fa.first_ok hok hf
    have HFO := Lib.hid hfo
    have HLT := Lib.hid (lt_of_block hrb)
    have hba2 := Lib.hid hba
    obtain ⟨ty, p, rfl⟩ := h.iface
    by_cases hc : c = .nil
    · subst hc
      have HX := Lib.hid (show t.root = x from by rw [← hrt]; exact hrf.1 rfl)
      have HAL := Lib.hid (HA.out.mono (fun e w' h => h.leaf hf))
      obtain ⟨kd, op, bk, cn⟩ := x
      clear h h' hok hrt hns hb hrb hE hba hrel HA hrf hfo hf HST HC HS1
      go_wp2_with (go_at_call 26; refine HAL.out.mono ?_; rintro e w3 ⟨rfl, p3, q3, q6, q7⟩; have b0 := blk_cell q7 0; have k1 := blk_cell q3 1; have k2 := blk_cell q3 2; have k3 := blk_cell q3 3; have k4 := blk_cell q3 4; have k5 := blk_cell q3 5; have hr := (q6.block w.heap.size (by have := HLT.out; simp; omega) (fun e => by injection e with e; have := HLT.out; omega)).trans ((hba2.out.block _ HLT.out).trans HRB.out); have r0 := blk_cell hr 0; have r1 := blk_cell hr 1; have r2 := blk_cell hr 2; have r3 := blk_cell hr 3; have s0 := blk_free hr 0; have s1 := blk_free hr 1; have s2 := blk_free hr 2; have s3 := blk_free hr 3; simp only [linkCells, List.getElem?_toArray, List.getElem?_cons_succ, List.getElem?_cons_zero] at b0 k1 k2 k3 k4 k5 r0 r1 r2 r3; have HB3 := Lib.hid (HB.out.trans ((hba2.out.mono HB.out.size).grown q6 (by have := HB.out.size; simp; omega) (fun k hk => by injection hk with hk; have := HB.out.size; omega))); have HR3 := Lib.hid hr; clear hr q3 q6 q7)
      have hfin := blk_set (blk_set (blk_set (blk_set HR3.out 0 (I64 kd)) 1 (.string op)) 2 (I64 bk)) 3 (I64 cn)
      have z0 := blk_cell hfin 0
      have z1 := blk_cell hfin 1
      have z2 := blk_cell hfin 2
      have z3 := blk_cell hfin 3
      simp only [List.setIfInBounds_toArray, List.set_cons_zero, List.set_cons_succ, List.getElem?_toArray, List.getElem?_cons_succ, List.getElem?_cons_zero] at z0 z1 z2 z3
      clear hfin
      try simp only [Exit.inBlock, Exit.then]
      refine bodyPost_ret (v := .tuple #[.agg #[I64 kd, .string op, I64 bk, I64 cn], I64 0]) (by rw [results_cell_tmp rfl]; go_simp) rfl ?_
      exact ⟨by rw [HX.out]; rfl, (((HB3.out.setCell (Nat.le_refl _) _).setCell (Nat.le_refl _) _).setCell (Nat.le_refl _) _).setCell (Nat.le_refl _) _⟩
    · have HAM := Lib.hid (HA.out.mono (fun e w' h => h.more hf hc))
      have HRF := Lib.hid ((hrf.2 hc).symm.trans hrt)
      clear h h' hok hrt hns hb hrb hE hba hrel HA hf HST HC HS1 hc
      go_wp2_with (go_at_call 26; refine HAM.out.mono ?_; rintro e w3 ⟨rfl, x, p3, cv, q3, q5, q6, q7⟩; have b0 := blk_cell q7 0; have k5 := blk_cell q3 5; have HH5 := Lib.hid q5; obtain ⟨ty2, p2, rfl⟩ := q5.iface; have hr := (q6.block w.heap.size (by have := HLT.out; simp; omega) (fun e => by injection e with e; have := HLT.out; omega)).trans ((hba2.out.block _ HLT.out).trans HRB.out); have HR3 := Lib.hid hr; simp only [linkCells, List.getElem?_toArray, List.getElem?_cons_succ, List.getElem?_cons_zero] at b0 k5; have HQ6 := Lib.hid q6; have HB3 := Lib.hid (HB.out.trans ((hba2.out.mono HB.out.size).grown q6 (by have := HB.out.size; simp; omega) (fun k hk => by injection hk with hk; have := HB.out.size; omega))); clear hr q3 q5 q6 q7)
      case roundEnd =>
        refine ⟨⟨c, HH5.out.mono (fun _ _ _ => trivial), HFO.out.1, HRF.out, ?_, HB3.out, HR3.out, (HEE.out.below hba2.out).grown HQ6.out (cell_lt HEE.out)⟩, ?_⟩
        · have h1 := HFO.out.2.2.2
          have h2 := HNS.out
          omega
        · rw [nodesAt_holds HH5.out, HNM.out]
          exact HFO.out.2.2.2
end Go.Proofs.YtgnhbccmdpkbiaaDoor
