/-
  What the law ModelEnds of layer 26 holds: the state in block T, the open connections in the variable K.
-/
import Derived.Test.YtaicmiadgnpimaaMw71
import Derived.Test.YtaicmiadgnpimaaMdEnd2
namespace Go.Proofs.Ytaicmiadgnpimaa
open Go.RowKit

structure LawE (w5 : World) (T K : Nat) (s : Md.State) (u v : SlV) (O : List Int) (wr : World) : Prop where
 good : Md.Good s
 bnd : Md.Bnd s
 tlt : T < w5.heap.size
 klt : K < w5.heap.size
 st : wr.heap[T]? = some (Z3 s.now s.shut (valS u))
 blk : wr.heap[K]? = some (.cells #[valS v] 54 (0, 0))
 own : OwnL 2 1 encI wr w5.heap.size (valS v) O
 perm : O.Perm (Md.conns s)
 lies : ∀ w2, Gb (fun i => (i = T ∨ i = K) ∨ (valS v).ownBlock = some i) wr w2 → PoolsAt w2 (valS u) s.pools
 gb : Gb (fun i => i = T ∨ i = K) w5 wr
theorem LawE.sta {w5 : World} {T K : Nat} {s : Md.State} {u v : SlV} {O : List Int} {wr : World} (h : LawE w5 T K s u v O wr) {w1 : World} (hb : Below wr.heap.size wr w1) : Sta w1 u s := ⟨h.good, h.bnd, h.lies w1 (.of_below hb)⟩
theorem LawE.below {w5 : World} {T K : Nat} {s : Md.State} {u v : SlV} {O : List Int} {wr : World} (h : LawE w5 T K s u v O wr) {w1 : World} (hb : Below wr.heap.size wr w1) : LawE w5 T K s u v O w1 :=
 ⟨h.good, h.bnd, h.tlt, h.klt, (hb.block _ (lt_of_block h.st)).trans h.st, (hb.block _ (lt_of_block h.blk)).trans h.blk, h.own.below hb, h.perm, fun w2 hg => h.lies w2 ((Gb.of_below hb).trans hg), h.gb.trans (.of_below hb)⟩
/-- Behind a call of ended, its state in a new block N. -/
structure EndOut (w5 : World) (T K : Nat) (s : Md.State) (c : Md.Call) (v : SlV) (wr : World) (s2 : Md.State) (nv v2 : SlV) (O2 : List Int) (N : Nat) (wx : World) : Prop where
 b : wx.heap[N]? = some (Z3 s2.now s2.shut (valS nv))
 le : wr.heap.size ≤ N
 next : (s2 = s ∧ (Md.outcomes s c).2 ≠ 0) ∨ ((Md.outcomes s c).2 = 0 ∧ ∃ o ∈ Md.act s c, s2 = o.next)
 good : Md.Good s2
 bnd : Md.Bnd s2
 blk : wx.heap[K]? = some (.cells #[valS v2] 54 (0, 0))
 own : OwnL 2 1 encI wx w5.heap.size (valS v2) O2
 perm : O2.Perm (Md.conns s2)
 lies : ∀ w2, Gb (fun i => ((i = T ∨ i = K) ∨ (valS v2).ownBlock = some i) ∨ i = N) wx w2 → PoolsAt w2 (valS nv) s2.pools
 gb : Gb (fun i => i = K ∨ (valS v).ownBlock = some i) wr wx
 place : ∀ i, (valS v2).ownBlock = some i → (valS v).ownBlock = some i ∨ wr.heap.size ≤ i
/-- The contract of ended, out of the law's own state; N: a block laid ahead of the call for what it returns. -/
theorem ended_law {w5 : World} {T K : Nat} {s : Md.State} {u v : SlV} {O : List Int} {wr : World} (h : LawE w5 T K s u v O wr) (c : Md.Call) (pk : Int) (w1 : World) (hb : Below wr.heap.size wr w1) (P : Nat → Prop) (hP : ∀ i, P i → wr.heap.size ≤ i ∧ i < w1.heap.size) (hp0 : 0 ≤ pk) (hp1 : pk ≤ 255) (h1 : c.call ≤ 9223372036854775807) (h2 : c.conn ≤ 9223372036854775807) :
 Calls Try.prog 16 #[.agg #[I64 s.now, .bool s.shut, valS u], vAct c pk, .pointer (some ⟨K, 0, none⟩)] w1 fun e w' => EndE s c (fun i => ((i = T ∨ i = K) ∨ (valS v).ownBlock = some i) ∨ P i) v K w5.heap.size w1 e w' := by
 have hbk := h.below hb
 have hS : ∀ w2, Gb (fun i => ((i = T ∨ i = K) ∨ (valS v).ownBlock = some i) ∨ P i) w1 w2 → PoolsAt w2 (valS u) s.pools := fun w2 hg => h.lies w2 ((Gb.of_below hb).then hg (fun i hi q => by
  rcases q with q | q
  · exact q
  · have := hP i q
    omega))
 have hlt : ∀ i, (((i = T ∨ i = K) ∨ (valS v).ownBlock = some i) ∨ P i) → i < w1.heap.size := fun i q => by
  rcases q with ((q | q) | q) | q
  · rw [q]
    exact lt_of_block hbk.st
  · rw [q]
    exact lt_of_block hbk.blk
  · exact (hbk.own.lt i q).2
  · exact (hP i q).2
 have hB : w5.heap.size ≤ w1.heap.size := Nat.le_trans h.gb.size hb.size
 by_cases hE : (Md.outcomes s c).2 = 0
 · exact ended_ok c pk s u v O K w5.heap.size _ w1 (h.sta hb) hS hlt (.inl (.inl (.inr rfl))) (fun i q => .inl (.inr q)) hbk.blk h.klt hB hbk.own h.perm hp0 hp1 h1 h2 hE
 · exact ended_no c pk s u v O K w5.heap.size _ w1 (h.sta hb) hS hlt (.inl (.inl (.inr rfl))) (fun i q => .inl (.inr q)) hbk.blk h.klt hB hbk.own h.perm hp0 hp1 h1 h2 hE
/-- What was returned is laid in block N (laid ahead of the call, or behind it). -/
theorem EndOut.make {w5 : World} {T K : Nat} {s : Md.State} {u v : SlV} {O : List Int} {wr w1 w' wy : World} (h : LawE w5 T K s u v O wr) {c : Md.Call} {s2 : Md.State} {nv v2 : SlV} {O2 : List Int} {N : Nat} {S : Nat → Prop} (hb : Below wr.heap.size wr w1) (hN : wr.heap.size ≤ N)
 (hp : EndPost s c S v K w5.heap.size w1 s2 nv v2 O2 w') (hy : Below w'.heap.size w' wy) (hbn : wy.heap[N]? = some (Z3 0 false (.slice none 0 0))) (hS : ∀ i, ((i = T ∨ i = K) ∨ (valS v).ownBlock = some i) → S i) (hi : (N < w1.heap.size ∧ S N) ∨ w'.heap.size ≤ N) :
 EndOut w5 T K s c v wr s2 nv v2 O2 N (((wy.setCell ⟨N, 0, none⟩ (I64 s2.now)).setCell ⟨N, 1, none⟩ (.bool s2.shut)).setCell ⟨N, 2, none⟩ (valS nv)) := by
 have hz : Gb (fun i => i = N) wy (((wy.setCell ⟨N, 0, none⟩ (I64 s2.now)).setCell ⟨N, 1, none⟩ (.bool s2.shut)).setCell ⟨N, 2, none⟩ (valS nv)) := (((Gb.refl (fun i => i = N) wy).setCell (x := ⟨N, 0, none⟩) rfl _).setCell (x := ⟨N, 1, none⟩) rfl _).setCell (x := ⟨N, 2, none⟩) rfl _
 have hTr := lt_of_block h.st
 have hKr := lt_of_block h.blk
 have hown : ∀ i, (valS v2).ownBlock = some i → i ≠ N := fun i q e => by
  have q1 := hp.own.lt i q
  rcases hi with hi | hi
  · rcases hp.place i q with h3 | h3
    · have := (h.own.lt i h3).2
      omega
    · omega
  · omega
 refine ⟨?_, hN, hp.next, hp.good, hp.bnd, hz.blk ((hy.block _ (lt_of_block hp.blk)).trans hp.blk) (by omega), (hp.own.below hy).gb_ne hz hown, hp.perm, fun w2 hg => ?_, ?_, fun i q => (hp.place i q).imp id (fun z => Nat.le_trans hb.size z)⟩
 · have q := blk_set (blk_set (blk_set hbn 0 (I64 s2.now)) 1 (.bool s2.shut)) 2 (valS nv)
   rw [q]
   simp [Z3]
 · refine hp.lies w2 (((Gb.of_below hy).then hz (S := fun i => S i ∨ (valS v2).ownBlock = some i) (fun i hl (q : i = N) => ?_)).then hg (fun i hl q => ?_))
   · rcases hi with hi | hi
     · exact .inl (by rw [q]; exact hi.2)
     · omega
   · rcases q with (q | q) | q
     · exact .inl (hS i (.inl q))
     · exact .inr q
     · rcases hi with hi | hi
       · exact .inl (by rw [q]; exact hi.2)
       · omega
 · have g1 := ((Gb.of_below hb).then hp.gb (S := fun i => i = K ∨ (valS v).ownBlock = some i) (fun i hl q => q)).trans (.of_below hy)
   exact g1.then hz (fun i hl q => by omega)
/-- The same where the block is laid behind the call, at once. -/
theorem EndOut.laid {w5 : World} {T K : Nat} {s : Md.State} {u v : SlV} {O : List Int} {wr w1 w' : World} (_h : LawE w5 T K s u v O wr) {c : Md.Call} {s2 : Md.State} {nv v2 : SlV} {O2 : List Int} {S : Nat → Prop} (hb : Below wr.heap.size wr w1) (hp : EndPost s c S v K w5.heap.size w1 s2 nv v2 O2 w') (hS : ∀ i, ((i = T ∨ i = K) ∨ (valS v).ownBlock = some i) → S i) :
 EndOut w5 T K s c v wr s2 nv v2 O2 w'.heap.size (w'.alloc (.cells #[I64 s2.now, .bool s2.shut, valS nv] 26)) := by
 have ha := (Below.refl w'.heap.size w').alloc (Nat.le_refl _) (.cells #[I64 s2.now, .bool s2.shut, valS nv] 26)
 refine ⟨blk_new w' _, Nat.le_trans hb.size hp.gb.size, hp.next, hp.good, hp.bnd, (ha.block _ (lt_of_block hp.blk)).trans hp.blk, hp.own.below ha, hp.perm, fun w2 hg => ?_, ?_, fun i q => (hp.place i q).imp id (fun z => Nat.le_trans hb.size z)⟩
 · refine hp.lies w2 ((Gb.of_below ha).then hg (fun i hl q => ?_))
   rcases q with (q | q) | q
   · exact .inl (hS i (.inl q))
   · exact .inr q
   · omega
 · exact ((Gb.of_below hb).then hp.gb (S := fun i => i = K ∨ (valS v).ownBlock = some i) (fun i hl q => q)).trans (.of_below ha)
/-- The state is stored into the law's variable. -/
theorem EndOut.law {w5 : World} {T K : Nat} {s : Md.State} {u v : SlV} {O : List Int} {wr wz : World} (h : LawE w5 T K s u v O wr) {c : Md.Call} {s2 : Md.State} {nv v2 : SlV} {O2 : List Int} {N : Nat} {wx : World} (hTK : T ≠ K) (ho : EndOut w5 T K s c v wr s2 nv v2 O2 N wx) (hz : Below wx.heap.size wx wz) :
 (wz.heap[T]? = some (Z3 s.now s.shut (valS u))) ∧ LawE w5 T K s2 nv v2 O2 (((wz.setCell ⟨T, 0, none⟩ (I64 s2.now)).setCell ⟨T, 1, none⟩ (.bool s2.shut)).setCell ⟨T, 2, none⟩ (valS nv)) := by
 have hTr := lt_of_block h.st
 have hnv : (valS v).ownBlock ≠ some T := fun q => by
  have := (h.own.lt T q).1
  have := h.tlt
  omega
 have e0 : wx.heap[T]? = some (Z3 s.now s.shut (valS u)) := ho.gb.blk h.st (fun q => by
  rcases q with q | q
  · exact hTK q
  · exact hnv q)
 have e1 : wz.heap[T]? = some (Z3 s.now s.shut (valS u)) := (hz.block _ (lt_of_block e0)).trans e0
 have hg : Gb (fun i => i = T) wz (((wz.setCell ⟨T, 0, none⟩ (I64 s2.now)).setCell ⟨T, 1, none⟩ (.bool s2.shut)).setCell ⟨T, 2, none⟩ (valS nv)) := (((Gb.refl (fun i => i = T) wz).setCell (x := ⟨T, 0, none⟩) rfl _).setCell (x := ⟨T, 1, none⟩) rfl _).setCell (x := ⟨T, 2, none⟩) rfl _
 refine ⟨e1, ho.good, ho.bnd, h.tlt, h.klt, ?_, hg.blk ((hz.block _ (lt_of_block ho.blk)).trans ho.blk) (fun q => hTK q.symm), (ho.own.below hz).gb_ne hg (fun i q e => ?_), ho.perm, fun w2 h2 => ho.lies w2 ?_, ?_⟩
 · have q := blk_set (blk_set (blk_set e1 0 (I64 s2.now)) 1 (.bool s2.shut)) 2 (valS nv)
   rw [q]
   simp [Z3]
 · have := (ho.own.lt i q).1
   have := h.tlt
   omega
 · exact ((Gb.of_below hz).trans (hg.mono fun i _ (q : i = T) => .inl (.inl (.inl q)))).trans (h2.mono fun i _ q => .inl q)
 · have g1 := h.gb.then ho.gb (fun i hi q => by
    rcases q with q | q
    · exact .inr q
    · have := (h.own.lt i q).1
      omega)
   exact (g1.trans (.of_below hz)).trans (hg.mono fun i _ q => .inl q)
/-- In the round of one backend, begun in world wB with the open connections in vb: what the law holds, and what stands of wB. -/
structure RdE (w5 wB : World) (T : Nat) (vb : SlV) (s : Md.State) (u v : SlV) (O : List Int) (wr : World) : Prop where
 law : LawE w5 T (T + 1) s u v O wr
 gb : Gb (fun i => (i = T ∨ i = T + 1) ∨ (valS vb).ownBlock = some i) wB wr
 place : ∀ i, (valS v).ownBlock = some i → (valS vb).ownBlock = some i ∨ wB.heap.size ≤ i
theorem RdE.below {w5 wB : World} {T : Nat} {vb : SlV} {s : Md.State} {u v : SlV} {O : List Int} {wr w1 : World} (h : RdE w5 wB T vb s u v O wr) (hb : Below wr.heap.size wr w1) : RdE w5 wB T vb s u v O w1 := ⟨h.law.below hb, h.gb.trans (.of_below hb), h.place⟩
theorem RdE.next {w5 wB : World} {T : Nat} {vb : SlV} {s : Md.State} {u v : SlV} {O : List Int} {wr wz : World} (h : RdE w5 wB T vb s u v O wr) {c : Md.Call} {s2 : Md.State} {nv v2 : SlV} {O2 : List Int} {N : Nat} {wx : World} (ho : EndOut w5 T (T + 1) s c v wr s2 nv v2 O2 N wx) (hz : Below wx.heap.size wx wz) :
 (wz.heap[T]? = some (Z3 s.now s.shut (valS u))) ∧ RdE w5 wB T vb s2 nv v2 O2 (((wz.setCell ⟨T, 0, none⟩ (I64 s2.now)).setCell ⟨T, 1, none⟩ (.bool s2.shut)).setCell ⟨T, 2, none⟩ (valS nv)) := by
 obtain ⟨h1, h2⟩ := EndOut.law h.law (by omega) ho hz
 refine ⟨h1, h2, ?_, fun i q => ?_⟩
 · have g1 := (h.gb.then ho.gb (fun i hi q => by
    rcases q with q | q
    · exact .inl (.inr q)
    · rcases h.place i q with z | z
      · exact .inr z
      · omega)).trans (.of_below hz)
   exact ((g1.setCell (x := ⟨T, 0, none⟩) (.inl (.inl rfl)) _).setCell (x := ⟨T, 1, none⟩) (.inl (.inl rfl)) _).setCell (x := ⟨T, 2, none⟩) (.inl (.inl rfl)) _
 · rcases ho.place i q with z | z
   · exact h.place i z
   · exact .inr (Nat.le_trans h.gb.size z)
theorem RdE.gbl {w5 wB : World} {T : Nat} {vb : SlV} {s : Md.State} {u v : SlV} {O : List Int} {wr w1 : World} (h : RdE w5 wB T vb s u v O wr) (hg : Gb (fun i => i = T + 1 ∨ (valS v).ownBlock = some i) wr w1) : Gb (fun i => (i = T ∨ i = T + 1) ∨ (valS vb).ownBlock = some i) wB w1 :=
 h.gb.then hg (fun i hi q => by
  rcases q with q | q
  · exact .inl (.inr q)
  · rcases h.place i q with z | z
    · exact .inr z
    · omega)
theorem reads_at {α : Type} {n : Nat} {enc : α → List Value} {w : World} {g o N cp : Nat} {l : List α} (h : ReadsL n enc w (.slice (some ⟨g, o, none⟩) N cp) l) {m : Nat} (hm : m < l.length) {u : Value} (hu : (enc l[m])[0]? = some u) : w.cell? ⟨g, o + m * n, none⟩ = some u := by
 obtain ⟨g', o', c', e, _, hc⟩ := h.form (by intro e; rw [e] at hm; simp at hm)
 injection e with f1 f2 f3
 injection f1 with f4
 injection f4 with f5 f6
 subst f5
 subst f6
 exact hc m hm 0 u hu
/-- The call that reports a dial, laid in a new block N. -/
structure DlB (s : Md.State) (b : Nat) (cl cn : Int) (yes : Bool) (wr : World) (N : Nat) (wx : World) : Prop where
 blk : wx.heap[N]? = some (.cells #[I64 2, I64 b, I64 cl, I64 cn, I64 0, .bool yes, I64 0, I64 0] 36 (0, 0))
 below : Below wr.heap.size wr wx
 pos : 1 ≤ cn
 top : cn ≤ 5000000
 new : cn ∉ Md.conns s
end Go.Proofs.Ytaicmiadgnpimaa
