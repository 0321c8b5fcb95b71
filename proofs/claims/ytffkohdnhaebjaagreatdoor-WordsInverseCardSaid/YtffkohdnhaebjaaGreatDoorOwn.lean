/-
  Byte slices that a call makes for itself: OwnB; append, make, conversion to a string.
-/
import Derived.Test.YtffkohdnhaebjaaGreatDoorW5
import Derived.OwnWalk
import Derived.Lib.AppendStr
import Derived.Maps.AppendAt
namespace Go.Proofs.YtffkohdnhaebjaaGreatDoor
open Go.RowKit Go.Shelf

/-- The slice v owns the bytes l in a row of its own from block B on. -/
def OwnB (w : World) (B : Nat) (v : Value) (l : List UInt8) : Prop := w.ownsRow B 5 1 v l.length (l.map B8)
theorem info5 : (Tryz.prog.info? 5).map (fun i => (i.zero, i.size, i.bytes)) = some (some (.int .u8 0), 1, 1) := by kernel_rfl

theorem OwnB.nil (w : World) (B : Nat) : OwnB w B (.slice none 0 0) [] := World.ownsRow_nil w B 5 1
theorem OwnB.alloc {w : World} {B : Nat} {v : Value} {l : List UInt8} (h : OwnB w B v l) (o : Obj) : OwnB (w.alloc o) B v l := World.ownsRow.alloc h o
theorem OwnB.drew {w : World} {B : Nat} {v : Value} {l : List UInt8} (h : OwnB w B v l) : OwnB w.drew B v l := h
theorem OwnB.lt {w : World} {B : Nat} {v : Value} {l : List UInt8} (h : OwnB w B v l) : ∀ k, v.ownBlock = some k → B ≤ k ∧ k < w.heap.size := World.ownsRow.lt h
/-- It stays owned while nothing that was there is touched. -/
theorem OwnB.below {w w' : World} {B : Nat} {v : Value} {l : List UInt8} (h : OwnB w B v l) (hb : Below w.heap.size w w') : OwnB w' B v l := by
  refine ⟨h.1, ?_⟩
  rcases h.2 with hn | ⟨g, cap, cur, rfl, hbg, hg, rest⟩
  · exact .inl hn
  · refine .inr ⟨g, cap, cur, rfl, hbg, ?_, rest⟩
    rw [hb.block g (Array.getElem?_eq_some_iff.1 hg).1]; exact hg
theorem OwnB.form {w : World} {B : Nat} {v : Value} {l : List UInt8} (h : OwnB w B v l) : (v = .slice none 0 0 ∧ l = []) ∨ ∃ g cap, v = .slice (some ⟨g, 0, none⟩) l.length cap ∧ B ≤ g ∧ g < w.heap.size ∧ ∀ j, (hj : j < l.length) → w.cell? ⟨g, j, none⟩ = some (B8 l[j]) := by
  rcases h.2 with ⟨hn, h0⟩ | ⟨g, cap, cur, hv, hbg, hg, h1, h2, h3, h4⟩
  · exact .inl ⟨hn, List.eq_nil_of_length_eq_zero h0⟩
  · refine .inr ⟨g, cap, hv, hbg, (Array.getElem?_eq_some_iff.1 hg).1, fun j hj => ?_⟩
    have hc := World.ownsRow.cells h (g := g) (by rw [hv]; rfl) j (B8 l[j]) (by simp [hj])
    have e : (⟨g, 0, none⟩ : Addr).add j = ⟨g, j, none⟩ := by unfold Addr.add; split <;> simp_all
    rwa [e] at hc

/-- A new slice of one byte owns it. -/
theorem own_one {w : World} {B : Nat} (x : UInt8) (hB : B ≤ w.heap.size) : OwnB (w.alloc (.cells #[B8 x] 5)) B (.slice (some ⟨w.heap.size, 0, none⟩) 1 1) [x] :=
  ⟨rfl, .inr ⟨w.heap.size, 1, #[B8 x], rfl, hB, heap_alloc_new w _, Nat.le_refl _, by decide, rfl, rfl⟩⟩

theorem conv_own {w : World} {B : Nat} {v : Value} {l : List UInt8} (h : OwnB w B v l) : (convert 49 9 v).run Tryz.prog w = .ok (.string ⟨l.toArray⟩) w := by
  rcases h.form with ⟨rfl, rfl⟩ | ⟨g, cap, rfl, _, _, hc⟩
  · exact run_convert_bytes_nil (P := Tryz.prog) w 49 5 Tryz.underlying49 Tryz.underlying5 0 0 9 Tryz.underlying9
  · refine run_convert_bytes_back (P := Tryz.prog) w 49 9 5 ⟨g, 0, none⟩ cap l Tryz.underlying49 Tryz.underlying5 Tryz.underlying9 fun j hj => ?_
    have e : (⟨g, 0, none⟩ : Addr).add j = ⟨g, j, none⟩ := by unfold Addr.add; split <;> simp_all
    rw [e]; exact hc j hj

section
variable {ops : Array Oper} {rest : List Oper} {o : Oper} {a : Act} {Q : Exit → Act → World → Prop}
theorem OwnB.grown {w' : World} {B : Nat} {v' : Value} {l m : List UInt8} (h : w'.ownsRow B 5 1 v' (l.length + m.length) (l.map B8 ++ m.map B8)) : OwnB w' B v' (l ++ m) := by
  unfold OwnB; rw [List.length_append, List.map_append]; exact h

/-- append(v, x..) where x is a fresh slice of the bytes m. -/
theorem app8 (w : World) (hgd : o.guard = none) (s x : Operand) (ho : o.op = .call { callee := .builtin .append, args := #[s, x], argTypes := #[49, 49] })
    (B : Nat) (v : Value) (l m : List UInt8) (hs : a.eval s = v) (hown : OwnB w B v l) (ad : Addr) (c : Nat) (hx : a.eval x = .slice (some ad) m.length c)
    (hnews : ∀ j (hj : j < m.length), w.cell? (ad.add j) = some (B8 m[j])) (hlen : l.length + m.length ≤ 140737488355328) (hbase : B ≤ w.heap.size)
    (h : ∀ v' w', OwnB w' B v' (l ++ m) → w.grownBy w' v.ownBlock → wpList Tryz.prog ops Q rest (a.put o.dst v') w') : wpList Tryz.prog ops Q (o :: rest) a w := by
  obtain ⟨i0, hi, hz0, hz1, hz2⟩ := info_parts info5
  refine wpList_append_own w hgd s x 49 ho B 5 i0 (.int .u8 0) 1 1 Tryz.underlying49 hi hz0 hz1 hz2 rfl (by decide) v l.length (l.map B8) hs hown ad m.length c (m.map B8) hx (by simp) ?_ ?_ (by unfold maxLen; omega) (by omega) hbase ?_
  · intro j u hu
    rw [List.getElem?_map, Option.map_eq_some_iff] at hu
    obtain ⟨y, hy, rfl⟩ := hu
    obtain ⟨hj, rfl⟩ := List.getElem?_eq_some_iff.1 hy
    exact hnews j hj
  · intro u hu
    obtain ⟨y, _, rfl⟩ := List.mem_map.1 hu
    rfl
  · intro v' w' h1 h2 _
    exact h v' w' (OwnB.grown h1) h2

/-- append(v, s...) where s is a string. -/
theorem app8s (w : World) (hgd : o.guard = none) (s x : Operand) (ho : o.op = .call { callee := .builtin .append, args := #[s, x], argTypes := #[49, 9] })
    (B : Nat) (v : Value) (l m : List UInt8) (hs : a.eval s = v) (hown : OwnB w B v l) (hx : a.eval x = .string ⟨m.toArray⟩)
    (hlen : l.length + m.length ≤ 140737488355328) (hbase : B ≤ w.heap.size)
    (h : ∀ v' w', OwnB w' B v' (l ++ m) → w.grownBy w' v.ownBlock → wpList Tryz.prog ops Q rest (a.put o.dst v') w') : wpList Tryz.prog ops Q (o :: rest) a w := by
  obtain ⟨i0, hi, hz0, hz1, hz2⟩ := info_parts info5
  have hsz : (⟨m.toArray⟩ : ByteArray).size = m.length := by simp [ByteArray.size]
  refine Lib.wpList_append_own_string w hgd s x 49 9 ho B 5 i0 Tryz.underlying49 Tryz.underlying9 hi hz0 hz1 hz2 v l.length (l.map B8) hs hown ⟨m.toArray⟩ hx (by unfold maxLen; omega) (by omega) hbase ?_
  intro v' w' h1 h2 _
  refine h v' w' ?_ h2
  rw [hsz] at h1
  have e : Lib.strCells ⟨m.toArray⟩ = m.map B8 := by simp [Lib.strCells]
  rw [e] at h1
  exact OwnB.grown h1
end

/-- Below across an append on an owned slice. -/
theorem below_app {B : Nat} {w0 w w' : World} {v : Value} {l : List UInt8} (hb : Below B w0 w) (ho : OwnB w B v l) (hg : w.grownBy w' v.ownBlock) (hB : B ≤ w.heap.size) : Below B w0 w' :=
  hb.grown hg hB fun k hk => (ho.lt k hk).1
theorem one_new (w : World) (x : UInt8) : ∀ j (hj : j < [x].length), (w.alloc (.cells #[B8 x] 5)).cell? ((⟨w.heap.size, 0, none⟩ : Addr).add j) = some (B8 [x][j]) := by
  intro j hj
  match j, hj with
  | 0, _ => rw [show (⟨w.heap.size, 0, none⟩ : Addr).add 0 = ⟨w.heap.size, 0, none⟩ from rfl, World.cell?_alloc_at _ _ _ _ rfl]; rfl
theorem two_new (w : World) (x y : UInt8) : ∀ j (hj : j < [x, y].length), (w.alloc (.cells #[B8 x, B8 y] 5)).cell? ((⟨w.heap.size, 0, none⟩ : Addr).add j) = some (B8 [x, y][j]) := by
  intro j hj
  match j, hj with
  | 0, _ => rw [show (⟨w.heap.size, 0, none⟩ : Addr).add 0 = ⟨w.heap.size, 0, none⟩ from rfl, World.cell?_alloc_at _ _ _ _ rfl]; rfl
  | 1, _ => rw [show (⟨w.heap.size, 0, none⟩ : Addr).add 1 = ⟨w.heap.size, 1, none⟩ from rfl, World.cell?_alloc_at _ _ _ _ rfl]; rfl
theorem four_new (w : World) (x y z u : UInt8) : ∀ j (hj : j < [x, y, z, u].length), (w.alloc (.cells #[B8 x, B8 y, B8 z, B8 u] 5)).cell? ((⟨w.heap.size, 0, none⟩ : Addr).add j) = some (B8 [x, y, z, u][j]) := by
  intro j hj
  match j, hj with
  | 0, _ => rw [show (⟨w.heap.size, 0, none⟩ : Addr).add 0 = ⟨w.heap.size, 0, none⟩ from rfl, World.cell?_alloc_at _ _ _ _ rfl]; rfl
  | 1, _ => rw [show (⟨w.heap.size, 0, none⟩ : Addr).add 1 = ⟨w.heap.size, 1, none⟩ from rfl, World.cell?_alloc_at _ _ _ _ rfl]; rfl
  | 2, _ => rw [show (⟨w.heap.size, 0, none⟩ : Addr).add 2 = ⟨w.heap.size, 2, none⟩ from rfl, World.cell?_alloc_at _ _ _ _ rfl]; rfl
  | 3, _ => rw [show (⟨w.heap.size, 0, none⟩ : Addr).add 3 = ⟨w.heap.size, 3, none⟩ from rfl, World.cell?_alloc_at _ _ _ _ rfl]; rfl
/-- make([]byte, 0, n). -/
theorem mk8 {ops : Array Oper} {rest : List Oper} {o : Oper} {a : Act} {Q : Exit → Act → World → Prop} (w : World) (hg : o.guard = none) (l c : Operand) (hop : o.op = Op.makeSlice 49 l c)
    (B : Nat) (C : Int) (n : Nat) (hl : a.eval l = .int .i64 0) (hc : a.eval c = .int .i64 C) (hC : C = (n : Int)) (b2 : n ≤ 281474976710656) (b4 : B ≤ w.heap.size)
    (hK : ∀ v w', OwnB w' B v [] → w.grownBy w' none → wpList Tryz.prog ops Q rest (a.put o.dst v) w') : wpList Tryz.prog ops Q (o :: rest) a w := by
  obtain ⟨i0, hi, hz0, hz1, hz2⟩ := info_parts info5
  exact wpList_make_own w hg l c 49 hop B 5 i0 (.int .u8 0) 1 Tryz.underlying49 hi hz0 hz1 .i64 .i64 C n hl hc hC (by rw [hz2]; omega) (by unfold maxLen; omega) b4 fun w' h1 h2 => hK _ w' h1 h2
end Go.Proofs.YtffkohdnhaebjaaGreatDoor
