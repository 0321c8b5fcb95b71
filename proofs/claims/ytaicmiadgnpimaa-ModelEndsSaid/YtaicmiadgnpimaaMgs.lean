/-
  Walks for layer 26 (model): Conns and Calls of the reference.
-/
import Derived.Test.YtaicmiadgnpimaaMgr
import Derived.Test.YtaicmiadgnpimaaMgm
namespace Go.Proofs.Ytaicmiadgnpimaa
open Go.RowKit

def encI (x : Int) : List Value := [I64 x]
theorem encI_len (x : Int) : (encI x).length = 1 := rfl
theorem elI : ElT Try.prog 54 2 1 8 (I64 0) encI :=
 ⟨Try.underlying54, by kernel_rfl, rfl, by decide, encI_len, fun x u hu => by simp [encI] at hu; subst hu; rfl⟩
/-- What played answers: nothing was done, or an outcome that lies in blocks that are not in X. -/
def PlPost (s : Md.State) (c : Md.Call) (X : Nat → Prop) (nn : Int) (ns : Bool) (nv : SlV) (r : Md.Result) (ev : SlV) (dn : Bool) (w' : World) : Prop :=
 (dn = false ∧ (Md.outcomes s c).2 ≠ 0) ∨ (dn = true ∧ (Md.outcomes s c).2 = 0 ∧ ∃ o ∈ Md.act s c, nn = o.next.now ∧ ns = o.next.shut ∧ r = o.result ∧ ∀ w2, Gb X w' w2 → PoolsAt w2 (valS nv) o.next.pools ∧ ReadsL 4 encEff w2 (valS ev) o.effects)
theorem PlPost.imp {s : Md.State} {c : Md.Call} {X Y : Nat → Prop} {nn : Int} {ns : Bool} {nv : SlV} {r : Md.Result} {ev : SlV} {dn : Bool} {w' w2 : World} (h : PlPost s c X nn ns nv r ev dn w') (hx : ∀ w3, Gb Y w2 w3 → Gb X w' w3) : PlPost s c Y nn ns nv r ev dn w2 := by
 rcases h with h | ⟨h1, h2, o, ho, e1, e2, e3, e4⟩
 · exact .inl h
 · exact .inr ⟨h1, h2, o, ho, e1, e2, e3, fun w3 h3 => e4 w3 (hx w3 h3)⟩
/-- A state's, a result's block. -/
def Z3 (nn : Int) (ns : Bool) (v : Value) : Obj := .cells #[I64 nn, .bool ns, v] 26 (0, 0)
def Q3 (a b c : Int) : Obj := .cells #[I64 a, I64 b, I64 c] 31 (0, 0)
/-- Behind 'next, r, effects, done := played(s, l[i])': the blocks of next and r. -/
structure RegOut (wr : World) (s : Md.State) (c : Md.Call) (nn : Int) (ns : Bool) (nv : SlV) (r : Md.Result) (ev : SlV) (dn : Bool) (T8 T9 : Nat) (wx : World) : Prop where
 b8 : wx.heap[T8]? = some (Z3 nn ns (valS nv))
 b9 : wx.heap[T9]? = some (Q3 r.1 r.2.1 r.2.2)
 bel : Below wr.heap.size wr wx
 ne : T8 ≠ T9
 l8 : wr.heap.size ≤ T8
 l9 : wr.heap.size ≤ T9
 post : PlPost s c (fun i => i < wr.heap.size ∨ i = T8 ∨ i = T9) nn ns nv r ev dn wx
theorem RegOut.make {wr wc w3 wy : World} {s : Md.State} {c : Md.Call} {nn : Int} {ns : Bool} {nv : SlV} {r : Md.Result} {ev : SlV} {dn : Bool} {T8 T9 : Nat} (hc : Below wr.heap.size wr wc) (hp : PlPost s c (fun i => i < wc.heap.size) nn ns nv r ev dn w3) (h3 : Below wc.heap.size wc w3) (h4 : Below w3.heap.size w3 wy)
 (b8 : wy.heap[T8]? = some (Z3 0 false (.slice none 0 0))) (b9 : wy.heap[T9]? = some (Q3 0 0 0)) (ne : T8 ≠ T9) (l8 : wr.heap.size ≤ T8) (l9 : wr.heap.size ≤ T9) (i8 : T8 < wc.heap.size ∨ w3.heap.size ≤ T8) (i9 : T9 < wc.heap.size ∨ w3.heap.size ≤ T9) :
 RegOut wr s c nn ns nv r ev dn T8 T9 ((((((wy.setCell ⟨T8, 0, none⟩ (I64 nn)).setCell ⟨T8, 1, none⟩ (.bool ns)).setCell ⟨T8, 2, none⟩ (valS nv)).setCell ⟨T9, 0, none⟩ (I64 r.1)).setCell ⟨T9, 1, none⟩ (I64 r.2.1)).setCell ⟨T9, 2, none⟩ (I64 r.2.2)) := by
 have hby : Below wr.heap.size wr wy := (hc.trans (h3.mono hc.size)).trans (h4.mono (Nat.le_trans hc.size h3.size))
 have q8 := blk_set (blk_set (blk_set b8 0 (I64 nn)) 1 (.bool ns)) 2 (valS nv)
 have q9 := (set3_other (w := wy) (P := T8) (j := T9) (x := I64 nn) (y := .bool ns) (z := valS nv) ne).trans b9
 have r8 := (set3_other (w := ((wy.setCell ⟨T8, 0, none⟩ (I64 nn)).setCell ⟨T8, 1, none⟩ (.bool ns)).setCell ⟨T8, 2, none⟩ (valS nv)) (P := T9) (j := T8) (x := I64 r.1) (y := I64 r.2.1) (z := I64 r.2.2) (Ne.symm ne)).trans q8
 have r9 := blk_set (blk_set (blk_set q9 0 (I64 r.1)) 1 (I64 r.2.1)) 2 (I64 r.2.2)
 have g1 : Gb (fun i => i < wc.heap.size ∨ w3.heap.size ≤ i) w3 ((((((wy.setCell ⟨T8, 0, none⟩ (I64 nn)).setCell ⟨T8, 1, none⟩ (.bool ns)).setCell ⟨T8, 2, none⟩ (valS nv)).setCell ⟨T9, 0, none⟩ (I64 r.1)).setCell ⟨T9, 1, none⟩ (I64 r.2.1)).setCell ⟨T9, 2, none⟩ (I64 r.2.2)) :=
  ((((((Gb.of_below h4).setCell (x := ⟨T8, 0, none⟩) i8 _).setCell (x := ⟨T8, 1, none⟩) i8 _).setCell (x := ⟨T8, 2, none⟩) i8 _).setCell (x := ⟨T9, 0, none⟩) i9 _).setCell (x := ⟨T9, 1, none⟩) i9 _).setCell (x := ⟨T9, 2, none⟩) i9 _
 refine ⟨?_, ?_, ?_, ne, l8, l9, hp.imp fun w4 h => ?_⟩
 · rw [r8]
   simp [Z3]
 · rw [r9]
   simp [Q3]
 · exact (((((hby.setCell (p := ⟨T8, 0, none⟩) l8 _).setCell (p := ⟨T8, 1, none⟩) l8 _).setCell (p := ⟨T8, 2, none⟩) l8 _).setCell (p := ⟨T9, 0, none⟩) l9 _).setCell (p := ⟨T9, 1, none⟩) l9 _).setCell (p := ⟨T9, 2, none⟩) l9 _
 · refine (g1.mono fun i hi q => ?_).then h fun i hi q => ?_
   · rcases q with q | q
     · exact q
     · omega
   · have hcs := hc.size
     rcases q with q | q | q
     · exact Nat.lt_of_lt_of_le q hcs
     · rcases i8 with z | z <;> omega
     · rcases i9 with z | z <;> omega
/-- Where a law's loop stands: the state lies in block T, its backends in other blocks. -/
structure LawAt (w5 : World) (T : Nat) (s : Md.State) (u : SlV) (wr : World) : Prop where
 good : Md.Good s
 bnd : Md.Bnd s
 st : wr.heap[T]? = some (Z3 s.now s.shut (valS u))
 lies : ∀ w2, Gb (fun i => i = T) wr w2 → PoolsAt w2 (valS u) s.pools
 gb : Gb (fun i => i = T) w5 wr
theorem LawAt.sta {w5 : World} {T : Nat} {s : Md.State} {u : SlV} {wr : World} (h : LawAt w5 T s u wr) {w1 : World} (hb : Below wr.heap.size wr w1) : Sta w1 u s := ⟨h.good, h.bnd, h.lies w1 (.of_below hb)⟩
theorem LawAt.below {w5 : World} {T : Nat} {s : Md.State} {u : SlV} {wr : World} (h : LawAt w5 T s u wr) {w1 : World} (hb : Below wr.heap.size wr w1) : LawAt w5 T s u w1 :=
 ⟨h.good, h.bnd, (hb.block _ (lt_of_block h.st)).trans h.st, fun w2 hg => h.lies w2 ((Gb.of_below hb).trans hg), h.gb.trans (.of_below hb)⟩
theorem LawAt.start {w w4 w5 : World} {T : Nat} {s : Md.State} {u : SlV} (hg : Md.Good s) (hb : Md.Bnd s) (hl : ∀ w2, Gb (fun i => i < w.heap.size) w4 w2 → PoolsAt w2 (valS u) s.pools) (h5 : Below w4.heap.size w4 w5) (hT4 : w4.heap.size ≤ T) (hst : w5.heap[T]? = some (Z3 s.now s.shut (valS u))) : LawAt w5 T s u w5 :=
 ⟨hg, hb, hst, fun w2 h2 => hl w2 ((Gb.of_below h5).then h2 (fun i hi (q : i = T) => by omega)), .refl _ _⟩
/-- The next state: an outcome of a call that has no error. -/
theorem LawAt.next {w5 : World} {T : Nat} {s : Md.State} {u : SlV} {wr wx wz : World} {c : Md.Call} {o : Md.Outcome} {nv : SlV} {X : Nat → Prop} (h : LawAt w5 T s u wr) (hE : (Md.outcomes s c).2 = 0) (ho : o ∈ Md.act s c) (h1 : c.call ≤ 9223372036854775807) (h2 : c.conn ≤ 9223372036854775807)
 (hb : Below wr.heap.size wr wx) (hx : ∀ w2, Gb X wx w2 → PoolsAt w2 (valS nv) o.next.pools) (hX : ∀ i, i < wr.heap.size → X i) (hz : Below wx.heap.size wx wz) :
 (wz.heap[T]? = some (Z3 s.now s.shut (valS u))) ∧ LawAt w5 T o.next nv (((wz.setCell ⟨T, 0, none⟩ (I64 o.next.now)).setCell ⟨T, 1, none⟩ (.bool o.next.shut)).setCell ⟨T, 2, none⟩ (valS nv)) := by
 have hl := Md.outcomes_ok hE
 have hlt := lt_of_block h.st
 have hbz := hb.trans (hz.mono hb.size)
 have e1 : wz.heap[T]? = some (Z3 s.now s.shut (valS u)) := (hbz.block _ hlt).trans h.st
 have hXT := hX T hlt
 have hg : Gb X wx (((wz.setCell ⟨T, 0, none⟩ (I64 o.next.now)).setCell ⟨T, 1, none⟩ (.bool o.next.shut)).setCell ⟨T, 2, none⟩ (valS nv)) := (((Gb.of_below hz).setCell (x := ⟨T, 0, none⟩) hXT _).setCell (x := ⟨T, 1, none⟩) hXT _).setCell (x := ⟨T, 2, none⟩) hXT _
 refine ⟨e1, Md.act_good h.good hl.2.1 o ho, Md.act_bnd hl.2.1 h.bnd h1 h2 o ho, ?_, fun w2 h2 => hx w2 (hg.trans (h2.mono fun i _ (q : i = T) => q ▸ hXT)), ?_⟩
 · have q := blk_set (blk_set (blk_set e1 0 (I64 o.next.now)) 1 (.bool o.next.shut)) 2 (valS nv)
   rw [q]
   simp [Z3]
 · exact (((h.gb.trans (.of_below hbz)).setCell (x := ⟨T, 0, none⟩) rfl _).setCell (x := ⟨T, 1, none⟩) rfl _).setCell (x := ⟨T, 2, none⟩) rfl _
/-- Acts as they lie. -/
def encAct (x : Md.Call × Int) : List Value := callCells x.1 ++ [.int .u8 x.2]
/-- What Go's types say of an act. -/
structure ActIn (x : Md.Call × Int) : Prop where
 call : x.1.call ≤ 9223372036854775807
 conn : x.1.conn ≤ 9223372036854775807
 p0 : 0 ≤ x.2
 p1 : x.2 ≤ 255
end Go.Proofs.Ytaicmiadgnpimaa
