/-
  Layer 26 (model): what a run owns, and how it lies.
-/
import Derived.Test.YtaicmiadgnpimaaMw1
import Derived.Test.YtaicmiadgnpimaaGenAt
namespace Go.Proofs.Ytaicmiadgnpimaa
open Go.RowKit

/-! ### Only blocks of S differ -/
structure Gb (S : Nat → Prop) (w w' : World) : Prop where
 os : w'.os = w.os
 tape : w'.tape = w.tape
 output : w'.output = w.output
 size : w.heap.size ≤ w'.heap.size
 block : ∀ i, i < w.heap.size → ¬ S i → w'.heap[i]? = w.heap[i]?
theorem Gb.refl (S : Nat → Prop) (w : World) : Gb S w w := ⟨rfl, rfl, rfl, Nat.le_refl _, fun _ _ _ => rfl⟩
theorem Gb.trans {S : Nat → Prop} {a b c : World} (h : Gb S a b) (k : Gb S b c) : Gb S a c :=
 ⟨k.os.trans h.os, k.tape.trans h.tape, k.output.trans h.output, Nat.le_trans h.size k.size, fun i hi hn => (k.block i (Nat.lt_of_lt_of_le hi h.size) hn).trans (h.block i hi hn)⟩
theorem Gb.mono {S T : Nat → Prop} {a b : World} (h : Gb S a b) (hs : ∀ k, k < a.heap.size → S k → T k) : Gb T a b :=
 ⟨h.os, h.tape, h.output, h.size, fun i hi hn => h.block i hi (fun x => hn (hs i hi x))⟩
theorem Gb.of_below {S : Nat → Prop} {w w' : World} (h : Below w.heap.size w w') : Gb S w w' := ⟨h.os, h.tape, h.output, h.size, fun i hi _ => h.block i hi⟩
theorem Gb.of_grown {S : Nat → Prop} {w w' : World} {row : Option Nat} (h : w.grownBy w' row) (hr : ∀ k, row = some k → S k) : Gb S w w' :=
 ⟨h.os, h.tape, h.output, h.size, fun i hi hn => h.block i hi (fun e => hn (hr i e.symm))⟩
theorem Gb.alloc {S : Nat → Prop} {a b : World} (h : Gb S a b) (o : Obj) : Gb S a (b.alloc o) := h.trans (.of_below ((Below.refl _ _).alloc (Nat.le_refl _) o))
theorem Gb.setCell {S : Nat → Prop} {a b : World} (h : Gb S a b) {x : Addr} (hx : S x.block) (u : Value) : Gb S a (b.setCell x u) := by
 refine h.trans (.of_grown (row := some x.block) ?_ (fun k hk => by injection hk with hk; exact hk ▸ hx))
 have hb := (Below.refl x.block b).setCell (Nat.le_refl _) u
 refine ⟨hb.os, hb.tape, hb.output, hb.size, fun i hi hne => ?_⟩
 have hne' : i ≠ x.block := fun e => hne (by rw [e])
 unfold World.setCell
 simp [Array.getElem?_modify, Ne.symm hne']
theorem Gb.below {S : Nat → Prop} {B : Nat} {w w' : World} (h : Gb S w w') (hB : B ≤ w.heap.size) (hS : ∀ k, S k → B ≤ k) : Below B w w' :=
 ⟨h.os, h.tape, h.output, h.size, fun i hi => h.block i (Nat.lt_of_lt_of_le hi hB) (fun x => Nat.lt_irrefl _ (Nat.lt_of_lt_of_le hi (hS i x)))⟩
theorem Gb.cell {S : Nat → Prop} {w w' : World} (h : Gb S w w') {a : Addr} (hl : a.block < w.heap.size) (hn : ¬ S a.block) : w'.cell? a = w.cell? a := World.cell?_of_block (h.block _ hl hn)

/-! ### Owned blocks lie apart -/
def Sep (l : List (Option Nat)) : Prop := ∀ i j k : Nat, l[i]? = some (some k) → l[j]? = some (some k) → i = j
theorem Sep.set {l : List (Option Nat)} (h : Sep l) {i : Nat} {v : Option Nat} (hv : ∀ k : Nat, v = some k → l[i]? = some (some k) ∨ ∀ j : Nat, l[j]? ≠ some (some k)) : Sep (l.set i v) := by
 intro a b k ha hb
 rw [List.getElem?_set] at ha hb
 by_cases hai : i = a
 · by_cases hbi : i = b
   · omega
   · rw [if_pos hai] at ha
     rw [if_neg hbi] at hb
     split at ha
     · injection ha with ha
       rcases hv k ha with h1 | h1
       · exact absurd (h _ _ _ h1 hb) hbi
       · exact absurd hb (h1 b)
     · cases ha
 · by_cases hbi : i = b
   · rw [if_neg hai] at ha
     rw [if_pos hbi] at hb
     split at hb
     · injection hb with hb
       rcases hv k hb with h1 | h1
       · exact absurd (h _ _ _ h1 ha) hai
       · exact absurd ha (h1 a)
     · cases hb
   · rw [if_neg hai] at ha
     rw [if_neg hbi] at hb
     exact h a b k ha hb
theorem flat_setG {α β : Type} {n : Nat} {enc : α → List β} (hl : ∀ x, (enc x).length = n) (l : List α) : ∀ (j : Nat) (hj : j < l.length) (i : Nat) (_ : i < n) (u : β) (x' : α), enc x' = (enc l[j]).set i u → (l.set j x').flatMap enc = (l.flatMap enc).set (j * n + i) u := by
 induction l with
 | nil => intro j hj; exact absurd hj (by simp)
 | cons x l ih =>
  intro j hj i hi u x' he
  cases j with
  | zero =>
   simp only [List.set_cons_zero, List.flatMap_cons, List.getElem_cons_zero] at he ⊢
   rw [he, Nat.zero_mul, Nat.zero_add, List.set_append_left _ _ (by rw [hl]; exact hi)]
  | succ j =>
   simp only [List.set_cons_succ, List.flatMap_cons, List.getElem_cons_succ, List.length_cons] at he hj ⊢
   rw [ih j (by omega) i hi u x' he, List.set_append_right _ _ (by rw [hl, Nat.succ_mul]; omega), hl]
   congr 2
   rw [Nat.succ_mul]; omega

theorem flat_getG {α β : Type} {n : Nat} {enc : α → List β} (hl : ∀ x, (enc x).length = n) (l : List α) : ∀ (j : Nat) (hj : j < l.length) (i : Nat) (u : β), (enc l[j])[i]? = some u → (l.flatMap enc)[j * n + i]? = some u := by
 induction l with
 | nil => intro j hj; exact absurd hj (by simp)
 | cons x l ih =>
  intro j hj i u hu
  have hi : i < n := by
   have := (List.getElem?_eq_some_iff.1 hu).1
   rw [hl] at this
   exact this
  cases j with
  | zero =>
   simp only [List.getElem_cons_zero, List.flatMap_cons] at hu ⊢
   rw [Nat.zero_mul, Nat.zero_add, List.getElem?_append_left (by rw [hl]; exact hi)]
   exact hu
  | succ j =>
   simp only [List.getElem_cons_succ, List.flatMap_cons, List.length_cons] at hu hj ⊢
   rw [List.getElem?_append_right (by rw [hl, Nat.succ_mul]; omega), hl]
   have h1 := ih j (by omega) i u hu
   rw [show (j + 1) * n + i - n = j * n + i by rw [Nat.succ_mul]; omega]
   exact h1
/-! ### Backends as they lie -/
abbrev SlV := Option Addr × Nat × Nat
def valS (u : SlV) : Value := .slice u.1 u.2.1 u.2.2
def obS (u : SlV) : Option Nat := u.1.map (·.block)
theorem valS_own (u : SlV) : (valS u).ownBlock = obS u := by
 obtain ⟨a, n, c⟩ := u
 cases a <;> rfl
/-- A backend: its scalars and its four slices. -/
structure PoolV where
 lim : Md.Lim
 vI : SlV
 vL : SlV
 vD : SlV
 vW : SlV
 up : Bool
 breaker : Int
 probe : Int
def encP (p : PoolV) : List Value := [I64 p.lim.max, I64 p.lim.queue, I64 p.lim.idle, I64 p.lim.age, valS p.vI, valS p.vL, valS p.vD, valS p.vW, .bool p.up, I64 p.breaker, I64 p.probe]
def ob4 (p : PoolV) : List (Option Nat) := [obS p.vI, obS p.vL, obS p.vD, obS p.vW]
theorem encP_len (p : PoolV) : (encP p).length = 11 := rfl
theorem ob4_len (p : PoolV) : (ob4 p).length = 4 := rfl
theorem encConn_len (p : Md.Conn) : (encConn p).length = 3 := rfl
theorem encLease_len (p : Md.Lease) : (encLease p).length = 3 := rfl
theorem encDial_len (p : Md.Dial) : (encDial p).length = 2 := rfl
theorem encWaiter_len (p : Md.Waiter) : (encWaiter p).length = 2 := rfl
theorem encEff_len (p : Md.Effect) : (encEff p).length = 4 := rfl
theorem elP : ElT Try.prog 24 48 11 (4 * 8 + 4 * 24 + 8 + 8 + 8) (.agg #[I64 0, I64 0, I64 0, I64 0, .slice none 0 0, .slice none 0 0, .slice none 0 0, .slice none 0 0, .bool false, I64 0, I64 0]) encP :=
 ⟨Try.underlying24, by kernel_rfl, rfl, by decide, encP_len, fun x u hu => by simp [encP] at hu; rcases hu with rfl | rfl | rfl | rfl | rfl | rfl | rfl | rfl | rfl | rfl | rfl <;> rfl⟩
theorem elConn : ElT Try.prog 43 100 3 24 (.agg #[I64 0, I64 0, I64 0]) encConn :=
 ⟨Try.underlying43, by kernel_rfl, rfl, by decide, encConn_len, fun x u hu => by simp [encConn] at hu; rcases hu with rfl | rfl | rfl <;> rfl⟩
theorem elLease : ElT Try.prog 44 69 3 24 (.agg #[I64 0, I64 0, I64 0]) encLease :=
 ⟨Try.underlying44, by kernel_rfl, rfl, by decide, encLease_len, fun x u hu => by simp [encLease] at hu; rcases hu with rfl | rfl | rfl <;> rfl⟩
theorem elDial : ElT Try.prog 45 66 2 16 (.agg #[I64 0, .bool false]) encDial :=
 ⟨Try.underlying45, by kernel_rfl, rfl, by decide, encDial_len, fun x u hu => by simp [encDial] at hu; rcases hu with rfl | rfl <;> rfl⟩
theorem elWaiter : ElT Try.prog 46 58 2 16 (.agg #[I64 0, I64 0]) encWaiter :=
 ⟨Try.underlying46, by kernel_rfl, rfl, by decide, encWaiter_len, fun x u hu => by simp [encWaiter] at hu; rcases hu with rfl | rfl <;> rfl⟩
theorem elEff : ElT Try.prog 32 51 4 32 (.agg #[I64 0, I64 0, I64 0, I64 0]) encEff :=
 ⟨Try.underlying32, by kernel_rfl, rfl, by decide, encEff_len, fun x u hu => by simp [encEff] at hu; rcases hu with rfl | rfl | rfl | rfl <;> rfl⟩

theorem ReadsL.kept {α : Type} {n : Nat} {enc : α → List Value} {w w' : World} {v : Value} {l : List α} {row : Option Nat} (h : ReadsL n enc w v l) (hg : w.grownBy w' row) (hne : v.ownBlock = none ∨ v.ownBlock ≠ row) : ReadsL n enc w' v l := by
 rcases h with ⟨a, cap, rfl, rfl⟩ | ⟨b, o, cap, rfl, hb, hc⟩
 · exact .inl ⟨a, cap, rfl, rfl⟩
 · refine .inr ⟨b, o, cap, rfl, Nat.lt_of_lt_of_le hb hg.size, fun j hj i u hu => ?_⟩
   have hne' : some b ≠ row := by
    rcases hne with h | h
    · cases h
    · exact h
   exact (World.cell?_of_block (a := ⟨b, _, none⟩) (hg.block b hb hne')).trans (hc j hj i u hu)
/-- How a backend lies; W: its waiters lie in a row of their own. -/
structure PoolOwn (w : World) (W : Prop) (pv : PoolV) (p : Md.Pool) : Prop where
 lim : pv.lim = p.lim
 up : pv.up = p.up
 breaker : pv.breaker = p.breaker
 probe : pv.probe = p.probe
 idle : OwnL 100 3 encConn w 0 (valS pv.vI) p.idle
 leases : OwnL 69 3 encLease w 0 (valS pv.vL) p.leases
 dials : OwnL 66 2 encDial w 0 (valS pv.vD) p.dials
 waiters : ReadsL 2 encWaiter w (valS pv.vW) p.waiters
 wown : W → OwnL 58 2 encWaiter w 0 (valS pv.vW) p.waiters
 wlt : ∀ k, obS pv.vW = some k → k < w.heap.size
 wcap : p.waiters.length ≤ pv.vW.2.2
theorem apart_of {l : List (Option Nat)} {row : Option Nat} {u : SlV} (h : ∀ k, row = some k → some k ∉ l) (hu : obS u ∈ l) : (valS u).ownBlock = none ∨ (valS u).ownBlock ≠ row := by
 rw [valS_own]
 cases e : obS u with
 | none => exact .inl rfl
 | some k => exact .inr fun e2 => h k e2.symm (e ▸ hu)
theorem PoolOwn.kept {w w' : World} {W : Prop} {pv : PoolV} {p : Md.Pool} {row : Option Nat} (h : PoolOwn w W pv p) (hg : w.grownBy w' row) (hr : ∀ k, row = some k → some k ∉ ob4 pv) : PoolOwn w' W pv p :=
 ⟨h.lim, h.up, h.breaker, h.probe, h.idle.kept hg (apart_of hr (by simp [ob4])), h.leases.kept hg (apart_of hr (by simp [ob4])), h.dials.kept hg (apart_of hr (by simp [ob4])), h.waiters.kept hg (apart_of hr (by simp [ob4])), fun x => (h.wown x).kept hg (apart_of hr (by simp [ob4])), fun k hk => Nat.lt_of_lt_of_le (h.wlt k hk) hg.size, h.wcap⟩
def callCells (c : Md.Call) : List Value := [I64 c.kind, I64 c.backend, I64 c.call, I64 c.conn, I64 c.time, .bool c.yes, I64 c.skip, I64 c.breaker]
def runCells (s : Md.State) (c : Md.Call) (vp ev : SlV) : Array Value := #[I64 s.now, .bool s.shut, valS vp, I64 c.kind, I64 c.backend, I64 c.call, I64 c.conn, I64 c.time, .bool c.yes, I64 c.skip, I64 c.breaker, valS ev]
def owns (R : Nat) (vp ev : SlV) (pvs : List PoolV) : List (Option Nat) := some R :: obS vp :: obS ev :: pvs.flatMap ob4
/-- A run: its block R, the backends' row, the effects' row, and what the backends hold; all of it in blocks of S, and S has all blocks to come. -/
structure RunV (S : Nat → Prop) (R : Nat) (c : Md.Call) (s : Md.State) (es : List Md.Effect) (W : Nat → Prop) (vp ev : SlV) (pvs : List PoolV) (w : World) : Prop where
 blk : w.heap[R]? = some (.cells (runCells s c vp ev) 112 (0, 0))
 pools : OwnL 48 11 encP w 0 (valS vp) pvs
 effs : OwnL 51 4 encEff w 0 (valS ev) es
 len : pvs.length = s.pools.length
 each : ∀ j (h : j < pvs.length) (h' : j < s.pools.length), PoolOwn w (W j) pvs[j] s.pools[j]
 sep : Sep (owns R vp ev pvs)
 sub : ∀ k, some k ∈ owns R vp ev pvs → S k
 fresh : ∀ k, w.heap.size ≤ k → S k
theorem mem_flat {pvs : List PoolV} {j : Nat} (h : j < pvs.length) {x : Option Nat} (hx : x ∈ ob4 pvs[j]) : x ∈ pvs.flatMap ob4 := List.mem_flatMap.2 ⟨_, List.getElem_mem h, hx⟩
theorem RunV.kept {S : Nat → Prop} {R : Nat} {c : Md.Call} {s : Md.State} {es : List Md.Effect} {W : Nat → Prop} {vp ev : SlV} {pvs : List PoolV} {w w' : World} {row : Option Nat} (h : RunV S R c s es W vp ev pvs w) (hg : w.grownBy w' row)
 (hr : ∀ k, row = some k → some k ∉ owns R vp ev pvs) : RunV S R c s es W vp ev pvs w' := by
 have hR : R < w.heap.size := (Array.getElem?_eq_some_iff.1 h.blk).1
 refine ⟨(hg.block R hR (fun e => hr R e.symm (by simp [owns]))).trans h.blk, h.pools.kept hg (apart_of hr (by simp [owns])), h.effs.kept hg (apart_of hr (by simp [owns])), h.len, fun j h1 h2 => (h.each j h1 h2).kept hg (fun k hk hm => hr k hk ?_), h.sep, h.sub, fun k hk => h.fresh k (Nat.le_trans hg.size hk)⟩
 unfold owns
 exact List.mem_cons_of_mem _ (List.mem_cons_of_mem _ (List.mem_cons_of_mem _ (mem_flat h1 hm)))
theorem RunV.below {S : Nat → Prop} {R : Nat} {c : Md.Call} {s : Md.State} {es : List Md.Effect} {W : Nat → Prop} {vp ev : SlV} {pvs : List PoolV} {w w' : World} (h : RunV S R c s es W vp ev pvs w) (hb : Below w.heap.size w w') : RunV S R c s es W vp ev pvs w' :=
 h.kept (row := none) ⟨hb.os, hb.tape, hb.output, hb.size, fun k hk _ => hb.block k hk⟩ (fun k hk => by cases hk)
/-- What is outside of S does not matter to a run. -/
theorem RunV.outside {S T : Nat → Prop} {R : Nat} {c : Md.Call} {s : Md.State} {es : List Md.Effect} {W : Nat → Prop} {vp ev : SlV} {pvs : List PoolV} {w w' : World} (h : RunV S R c s es W vp ev pvs w) (hg : Gb T w w') (hT : ∀ k, k < w.heap.size → S k → ¬ T k) : RunV S R c s es W vp ev pvs w' := by
 have hk : ∀ k, some k ∈ owns R vp ev pvs → k < w.heap.size → w'.heap[k]? = w.heap[k]? := fun k hm hl => hg.block k hl (hT k hl (h.sub k hm))
 have hO : ∀ {α : Type} {T : TypeId} {n : Nat} {enc : α → List Value} {u : SlV} {l : List α}, obS u ∈ owns R vp ev pvs → OwnL T n enc w 0 (valS u) l → OwnL T n enc w' 0 (valS u) l := fun {α T n enc u l} hm ho => by
  obtain ⟨h1, h2⟩ := ho
  refine ⟨h1, ?_⟩
  rcases h2 with h2 | ⟨g, cap, cur, e1, e2, e3, e4⟩
  · exact .inl h2
  · refine .inr ⟨g, cap, cur, e1, e2, ?_, e4⟩
    have hob : obS u = some g := by rw [← valS_own, e1]; rfl
    exact (hk g (hob ▸ hm) (Array.getElem?_eq_some_iff.1 e3).1).trans e3
 have hR : ∀ {α : Type} {n : Nat} {enc : α → List Value} {u : SlV} {l : List α}, obS u ∈ owns R vp ev pvs → ReadsL n enc w (valS u) l → ReadsL n enc w' (valS u) l := fun {α n enc u l} hm hr => by
  rcases hr with ⟨a, cap, e1, e2⟩ | ⟨b, o, cap, e1, e2, e3⟩
  · exact .inl ⟨a, cap, e1, e2⟩
  · refine .inr ⟨b, o, cap, e1, Nat.lt_of_lt_of_le e2 hg.size, fun j hj i x hx => ?_⟩
    have hob : obS u = some b := by rw [← valS_own, e1]; rfl
    exact (World.cell?_of_block (a := ⟨b, _, none⟩) (hk b (hob ▸ hm) e2)).trans (e3 j hj i x hx)
 have hm4 : ∀ j (h1 : j < pvs.length) x, x ∈ ob4 pvs[j] → x ∈ owns R vp ev pvs := fun j h1 x hx => List.mem_cons_of_mem _ (List.mem_cons_of_mem _ (List.mem_cons_of_mem _ (mem_flat h1 hx)))
 refine ⟨(hk R (by simp [owns]) (Array.getElem?_eq_some_iff.1 h.blk).1).trans h.blk, hO (by simp [owns]) h.pools, hO (by simp [owns]) h.effs, h.len, fun j h1 h2 => ?_, h.sep, h.sub, fun k hk => h.fresh k (Nat.le_trans hg.size hk)⟩
 have q := h.each j h1 h2
 exact ⟨q.lim, q.up, q.breaker, q.probe, hO (hm4 j h1 _ (by simp [ob4])) q.idle, hO (hm4 j h1 _ (by simp [ob4])) q.leases, hO (hm4 j h1 _ (by simp [ob4])) q.dials, hR (hm4 j h1 _ (by simp [ob4])) q.waiters, fun x => hO (hm4 j h1 _ (by simp [ob4])) (q.wown x), fun k hk => Nat.lt_of_lt_of_le (q.wlt k hk) hg.size, q.wcap⟩
/-! ### What the walk reads of a run -/
theorem own_cells {α : Type} {T : TypeId} {n : Nat} {enc : α → List Value} (hl : ∀ x, (enc x).length = n) {w : World} {B g m c : Nat} {l : List α} (h : OwnL T n enc w B (.slice (some ⟨g, 0, none⟩) m c) l) {j : Nat} (hj : j < l.length) {i : Nat} {u : Value} (hu : (enc l[j])[i]? = some u) :
 w.cell? ⟨g, j * n + i, none⟩ = some u ∧ w.frozen? ⟨g, j * n + i, none⟩ = false ∧ g < w.heap.size := by
 have h1 := World.ownsRow.cells (show w.ownsRow B T n _ _ _ from h) (g := g) rfl _ _ (flat_get hl l j hj i u hu)
 rw [addr_add0] at h1
 refine ⟨h1, ?_, (h.lt g rfl).2⟩
 rcases h.2 with ⟨e, _⟩ | ⟨g', cap, cur, e1, _, e3, _⟩
 · cases e
 · injection e1 with e1 _ _
   injection e1 with e1
   injection e1 with e1 _ _
   subst e1
   exact blk_free e3 _
theorem own_slice {α : Type} {T : TypeId} {n B : Nat} {enc : α → List Value} {w : World} {v : Value} {l : List α} (h : OwnL T n enc w B v l) : ∃ u : SlV, v = valS u ∧ u.2.1 = l.length := by
 rcases h.2 with ⟨e, h0⟩ | ⟨g, cap, cur, e, _⟩
 · exact ⟨(none, 0, 0), e, h0.symm⟩
 · exact ⟨(some ⟨g, 0, none⟩, l.length, cap), e, rfl⟩
theorem own_form0 {α : Type} {T : TypeId} {n B : Nat} {enc : α → List Value} {w : World} {u : SlV} {l : List α} (h : OwnL T n enc w B (valS u) l) (hp : 0 < l.length) : ∃ g c, u = (some ⟨g, 0, none⟩, l.length, c) := by
 obtain ⟨a, m, c⟩ := u
 rcases h.2 with ⟨_, h0⟩ | ⟨g, cap, cur, e, _⟩
 · omega
 · refine ⟨g, cap, ?_⟩
   unfold valS at e
   injection e with e1 e2 e3
   subst e1 e2 e3
   rfl
theorem own_cap {α : Type} {T : TypeId} {n B : Nat} {enc : α → List Value} {w : World} {u : SlV} {l : List α} (h : OwnL T n enc w B (valS u) l) : l.length ≤ u.2.2 := by
 obtain ⟨a, m, c⟩ := u
 rcases h.2 with ⟨e, h0⟩ | ⟨g, cap, cur, e, _, _, e4, _⟩
 · rw [h0]; exact Nat.zero_le _
 · unfold valS at e
   injection e with _ _ e3
   exact Nat.le_trans e4 (Nat.le_of_eq e3.symm)
theorem RunV.form {S : Nat → Prop} {R : Nat} {c : Md.Call} {s : Md.State} {es : List Md.Effect} {W : Nat → Prop} {vp ev : SlV} {pvs : List PoolV} {w : World} (h : RunV S R c s es W vp ev pvs w) (hp : 0 < s.pools.length) : ∃ G cap, vp = (some ⟨G, 0, none⟩, s.pools.length, cap) := by
 obtain ⟨g, c, e⟩ := own_form0 h.pools (by rw [h.len]; exact hp)
 exact ⟨g, c, by rw [e, h.len]⟩
/-- A pool's eleven cells, and that they may be stored into. -/
structure PoolCells (w : World) (G o : Nat) (pv : PoolV) : Prop where
 lt : G < w.heap.size
 c0 : w.cell? ⟨G, o, none⟩ = some (I64 pv.lim.max)
 c1 : w.cell? ⟨G, o + 1, none⟩ = some (I64 pv.lim.queue)
 c2 : w.cell? ⟨G, o + 2, none⟩ = some (I64 pv.lim.idle)
 c3 : w.cell? ⟨G, o + 3, none⟩ = some (I64 pv.lim.age)
 c4 : w.cell? ⟨G, o + 4, none⟩ = some (valS pv.vI)
 c5 : w.cell? ⟨G, o + 5, none⟩ = some (valS pv.vL)
 c6 : w.cell? ⟨G, o + 6, none⟩ = some (valS pv.vD)
 c7 : w.cell? ⟨G, o + 7, none⟩ = some (valS pv.vW)
 c8 : w.cell? ⟨G, o + 8, none⟩ = some (.bool pv.up)
 c9 : w.cell? ⟨G, o + 9, none⟩ = some (I64 pv.breaker)
 c10 : w.cell? ⟨G, o + 10, none⟩ = some (I64 pv.probe)
 fr : ∀ i, w.frozen? ⟨G, o + i, none⟩ = false
theorem RunV.cells {S : Nat → Prop} {R : Nat} {c : Md.Call} {s : Md.State} {es : List Md.Effect} {W : Nat → Prop} {G n cap : Nat} {ev : SlV} {pvs : List PoolV} {w : World} (h : RunV S R c s es W (some ⟨G, 0, none⟩, n, cap) ev pvs w) {b : Nat} (hb : b < pvs.length) : PoolCells w G (b * 11) pvs[b] := by
 have hc : ∀ i u, (encP pvs[b])[i]? = some u → w.cell? ⟨G, b * 11 + i, none⟩ = some u := fun i u hu => (own_cells encP_len h.pools hb hu).1
 have h0 := own_cells encP_len h.pools hb (i := 0) (u := I64 pvs[b].lim.max) rfl
 refine ⟨h0.2.2, h0.1, hc 1 _ rfl, hc 2 _ rfl, hc 3 _ rfl, hc 4 _ rfl, hc 5 _ rfl, hc 6 _ rfl, hc 7 _ rfl, hc 8 _ rfl, hc 9 _ rfl, hc 10 _ rfl, fun i => ?_⟩
 rcases h.pools.2 with ⟨e, _⟩ | ⟨g', cap, cur, e1, _, e3, _⟩
 · cases e
 · injection e1 with e1 _ _
   injection e1 with e1
   injection e1 with e1 _ _
   subst e1
   exact blk_free e3 _
theorem PoolCells.kept {w w' : World} {G o : Nat} {pv : PoolV} {row : Option Nat} (h : PoolCells w G o pv) (hg : w.grownBy w' row) (hne : some G ≠ row) : PoolCells w' G o pv := by
 have hc : ∀ x, w'.cell? ⟨G, x, none⟩ = w.cell? ⟨G, x, none⟩ := fun x => World.cell?_of_block (a := ⟨G, x, none⟩) (hg.block G h.lt hne)
 have hf : ∀ x, w'.frozen? ⟨G, x, none⟩ = w.frozen? ⟨G, x, none⟩ := fun x => World.frozen?_of_block (a := ⟨G, x, none⟩) (hg.block G h.lt hne)
 exact ⟨Nat.lt_of_lt_of_le h.lt hg.size, (hc _).trans h.c0, (hc _).trans h.c1, (hc _).trans h.c2, (hc _).trans h.c3, (hc _).trans h.c4, (hc _).trans h.c5, (hc _).trans h.c6, (hc _).trans h.c7, (hc _).trans h.c8, (hc _).trans h.c9, (hc _).trans h.c10, fun i => (hf _).trans (h.fr i)⟩
/-- The run's block stays, whatever happens to rows of backends. -/
theorem RunV.blk_kept {S : Nat → Prop} {R : Nat} {c : Md.Call} {s : Md.State} {es : List Md.Effect} {W : Nat → Prop} {vp ev : SlV} {pvs : List PoolV} {w w' : World} {row : Option Nat} (h : RunV S R c s es W vp ev pvs w) (hg : w.grownBy w' row) (hne : some R ≠ row) : w'.heap[R]? = some (.cells (runCells s c vp ev) 112 (0, 0)) :=
 (hg.block R (Array.getElem?_eq_some_iff.1 h.blk).1 hne).trans h.blk

/-! ### What happens to a run -/
theorem owns_at {R : Nat} {vp ev : SlV} {pvs : List PoolV} {b i : Nat} (hb : b < pvs.length) {x : Option Nat} (hx : (ob4 pvs[b])[i]? = some x) : (owns R vp ev pvs)[3 + (b * 4 + i)]? = some x := by
 unfold owns
 rw [show 3 + (b * 4 + i) = (b * 4 + i) + 1 + 1 + 1 by omega]
 simp only [List.getElem?_cons_succ]
 have h1 := flat_getG ob4_len pvs b hb i x hx
 exact h1
theorem setCell_grown (w : World) (a : Addr) (u : Value) : w.grownBy (w.setCell a u) (some a.block) := by
 refine ⟨rfl, rfl, rfl, by simp [World.setCell], fun i hi hne => ?_⟩
 have hne' : a.block ≠ i := fun e => hne (by rw [e])
 unfold World.setCell
 simp [Array.getElem?_modify, hne']
theorem own_setAt {α : Type} {T : TypeId} {n : Nat} {enc : α → List Value} (hl : ∀ x, (enc x).length = n) {w : World} {B g m c : Nat} {l : List α} (h : OwnL T n enc w B (.slice (some ⟨g, 0, none⟩) m c) l) {j : Nat} (hj : j < l.length) {i : Nat} (hi : i < n) {u : Value} {x' : α} (he : enc x' = (enc l[j]).set i u) :
 OwnL T n enc (w.setCell ⟨g, j * n + i, none⟩ u) B (.slice (some ⟨g, 0, none⟩) m c) (l.set j x') := by
 obtain ⟨h1, h2⟩ := h
 rcases h2 with ⟨h2, h3⟩ | ⟨g', cap, cur, hv, hb, hg, k1, k2, k3, k4⟩
 · omega
 · simp only [Value.slice.injEq, Option.some.injEq, Addr.mk.injEq, and_true] at hv
   obtain ⟨rfl, hm, rfl⟩ := hv
   refine ⟨?_, .inr ⟨g, c, cur.setIfInBounds (j * n + i) u, ?_, hb, blk_set hg _ _, ?_, k2, ?_, ?_⟩⟩
   · rw [flat_setG hl l j hj i hi u x' he, List.length_set, List.length_set, h1]
   · rw [List.length_set, hm]
   · rw [List.length_set]; exact k1
   · simpa using k3
   · rw [flat_setG hl l j hj i hi u x' he, ← k4, List.length_set, Array.toList_setIfInBounds, List.take_set]
theorem ob4_ix {pv : PoolV} {k : Nat} (h : some k ∈ ob4 pv) : ∃ i, i < 4 ∧ (ob4 pv)[i]? = some (some k) := by
 obtain ⟨i, hi, e⟩ := List.getElem_of_mem h
 exact ⟨i, by simpa [ob4] using hi, by rw [List.getElem?_eq_getElem hi, e]⟩
/-- A block of a backend's slices is no other owned block. -/
theorem Sep.ne {R : Nat} {vp ev : SlV} {pvs : List PoolV} (h : Sep (owns R vp ev pvs)) {b : Nat} (hb : b < pvs.length) {k : Nat} (hk : some k ∈ ob4 pvs[b]) :
 k ≠ R ∧ obS vp ≠ some k ∧ obS ev ≠ some k ∧ ∀ j (hj : j < pvs.length), j ≠ b → some k ∉ ob4 pvs[j] := by
 obtain ⟨i, hi, e⟩ := ob4_ix hk
 have e2 := owns_at (R := R) (vp := vp) (ev := ev) hb e
 refine ⟨fun x => ?_, fun x => ?_, fun x => ?_, fun j hj hne hm => ?_⟩
 · have := h 0 _ k (by simp [owns, x]) e2
   omega
 · have := h 1 _ k (by simp [owns, x]) e2
   omega
 · have := h 2 _ k (by simp [owns, x]) e2
   omega
 · obtain ⟨i', hi', e'⟩ := ob4_ix hm
   have := h _ _ k (owns_at (R := R) (vp := vp) (ev := ev) hj e') e2
   omega
theorem Sep.row {R : Nat} {vp ev : SlV} {pvs : List PoolV} (h : Sep (owns R vp ev pvs)) {k : Nat} (hk : obS vp = some k) : k ≠ R ∧ obS ev ≠ some k ∧ ∀ j (hj : j < pvs.length), some k ∉ ob4 pvs[j] := by
 refine ⟨fun x => ?_, fun x => ?_, fun j hj hm => ?_⟩
 · have := h 0 1 k (by simp [owns, x]) (by simp [owns, hk])
   omega
 · have := h 2 1 k (by simp [owns, x]) (by simp [owns, hk])
   omega
 · exact (h.ne hj hm).2.1 hk
theorem PoolOwn.imp {w : World} {W W' : Prop} {pv : PoolV} {p : Md.Pool} (h : PoolOwn w W pv p) (hi : W' → W) : PoolOwn w W' pv p :=
 ⟨h.lim, h.up, h.breaker, h.probe, h.idle, h.leases, h.dials, h.waiters, fun x => h.wown (hi x), h.wlt, h.wcap⟩
/-- One backend changes: in its slices' blocks (row) and in its cells (world w2). -/
theorem RunV.upd {S : Nat → Prop} {R : Nat} {c : Md.Call} {s : Md.State} {es : List Md.Effect} {W W' : Nat → Prop} {G n cap : Nat} {ev : SlV} {pvs : List PoolV} {w w1 w2 : World} {row : Option Nat}
 (h : RunV S R c s es W (some ⟨G, 0, none⟩, n, cap) ev pvs w) (hg : w.grownBy w1 row) {b : Nat} (hb : b < pvs.length) (hrow : ∀ k, row = some k → some k ∈ ob4 pvs[b])
 {pv' : PoolV} {p' : Md.Pool} (hown : ∀ k, some k ∈ ob4 pv' → some k ∈ ob4 pvs[b] ∨ w.heap.size ≤ k) (hsep : Sep (owns R (some ⟨G, 0, none⟩, n, cap) ev (pvs.set b pv')))
 (hp : PoolOwn w1 (W' b) pv' p') (hW : ∀ j, j ≠ b → W' j → W j) (hG : OwnL 48 11 encP w2 0 (valS (some ⟨G, 0, none⟩, n, cap)) (pvs.set b pv')) (hg2 : w1.grownBy w2 (some G)) :
 RunV S R c { s with pools := s.pools.set b p' } es W' (some ⟨G, 0, none⟩, n, cap) ev (pvs.set b pv') w2 := by
 have hGe : obS (some ⟨G, 0, none⟩, n, cap) = some G := rfl
 have hrs : ∀ k, row = some k → k ≠ R ∧ obS ev ≠ some k ∧ ∀ j (hj : j < pvs.length), j ≠ b → some k ∉ ob4 pvs[j] := fun k hk => by
  obtain ⟨a1, a2, a3, a4⟩ := h.sep.ne hb (hrow k hk)
  exact ⟨a1, a3, a4⟩
 have hGs := h.sep.row hGe
 have hGs' := hsep.row hGe
 have hR := (Array.getElem?_eq_some_iff.1 h.blk).1
 have hk1 : (valS ev).ownBlock = none ∨ (valS ev).ownBlock ≠ row := by
  rw [valS_own]
  cases e : obS ev with
  | none => exact .inl rfl
  | some k => exact .inr fun e2 => (hrs k e2.symm).2.1 e
 have hk2 : (valS ev).ownBlock = none ∨ (valS ev).ownBlock ≠ some G := by
  rw [valS_own]
  exact .inr hGs.2.1
 refine ⟨?_, hG, (h.effs.kept hg hk1).kept hg2 hk2, by simp [h.len], fun j h1 h2 => ?_, hsep, fun k hk => ?_, fun k hk => h.fresh k (Nat.le_trans (Nat.le_trans hg.size hg2.size) hk)⟩
 · rw [hg2.block R (Nat.lt_of_lt_of_le hR hg.size) (fun e => hGs.1 (by injection e with e; exact e.symm)), hg.block R hR (fun e => (hrs R e.symm).1 rfl)]
   exact h.blk
 · rw [List.length_set] at h1 h2
   by_cases hj : j = b
   · subst hj
     have h3 := hp.kept hg2 (fun k hk hm => by
      injection hk with hk
      subst hk
      have := hGs'.2.2 j (by simpa using h1)
      rw [List.getElem_set_self] at this
      exact this hm)
     simpa using h3
   · have h3 := ((h.each j h1 h2).imp (hW j hj)).kept hg (fun k hk => (hrs k hk).2.2 j h1 hj)
     have h4 := h3.kept hg2 (fun k hk hm => by
      injection hk with hk
      subst hk
      exact hGs.2.2 j h1 hm)
     rw [List.getElem_set_ne (Ne.symm hj), List.getElem_set_ne (Ne.symm hj)]
     exact h4
 · unfold owns at hk
   simp only [List.mem_cons, List.mem_flatMap] at hk
   have hold : ∀ k, some k ∈ owns R (some ⟨G, 0, none⟩, n, cap) ev pvs → S k := h.sub
   rcases hk with hk | hk | hk | ⟨pv, hpv, hk⟩
   · exact hold k (by simp [owns, hk])
   · exact hold k (by simp [owns, hk])
   · exact hold k (by simp [owns, hk])
   · rcases List.mem_or_eq_of_mem_set hpv with hm | rfl
     · exact hold k (by
        unfold owns
        exact List.mem_cons_of_mem _ (List.mem_cons_of_mem _ (List.mem_cons_of_mem _ (List.mem_flatMap.2 ⟨pv, hm, hk⟩))))
     · rcases hown k hk with hm | hm
       · exact hold k (by
          unfold owns
          exact List.mem_cons_of_mem _ (List.mem_cons_of_mem _ (List.mem_cons_of_mem _ (mem_flat hb hm))))
       · exact h.fresh k hm
/-! ### One slice of a backend is replaced -/
theorem RunV.lt {S : Nat → Prop} {R : Nat} {c : Md.Call} {s : Md.State} {es : List Md.Effect} {W : Nat → Prop} {vp ev : SlV} {pvs : List PoolV} {w : World} (h : RunV S R c s es W vp ev pvs w) : ∀ k, some k ∈ owns R vp ev pvs → k < w.heap.size := by
 intro k hk
 unfold owns at hk
 simp only [List.mem_cons, List.mem_flatMap] at hk
 have hO : ∀ {α : Type} {T : TypeId} {n : Nat} {enc : α → List Value} {u : SlV} {l : List α}, OwnL T n enc w 0 (valS u) l → obS u = some k → k < w.heap.size := fun ho e => (ho.lt k (by rw [valS_own]; exact e)).2
 rcases hk with hk | hk | hk | ⟨pv, hpv, hk⟩
 · injection hk with hk
   exact hk ▸ (Array.getElem?_eq_some_iff.1 h.blk).1
 · exact hO h.pools hk.symm
 · exact hO h.effs hk.symm
 · obtain ⟨j, hj, rfl⟩ := List.getElem_of_mem hpv
   have q := h.each j hj (by rw [← h.len]; exact hj)
   simp only [ob4, List.mem_cons, List.mem_nil_iff, or_false] at hk
   rcases hk with hk | hk | hk | hk
   · exact hO q.idle hk.symm
   · exact hO q.leases hk.symm
   · exact hO q.dials hk.symm
   · exact q.wlt k hk.symm
theorem RunV.sep_set {S : Nat → Prop} {R : Nat} {c : Md.Call} {s : Md.State} {es : List Md.Effect} {W : Nat → Prop} {vp ev : SlV} {pvs : List PoolV} {w : World} (h : RunV S R c s es W vp ev pvs w) {b f : Nat} (hb : b < pvs.length) (hf : f < 4) {u : Option Nat} {pv' : PoolV} (he : ob4 pv' = (ob4 pvs[b]).set f u)
 (hu : (ob4 pvs[b])[f]? = some u ∨ ∀ k, u = some k → w.heap.size ≤ k) : Sep (owns R vp ev (pvs.set b pv')) ∧ ∀ k, some k ∈ ob4 pv' → some k ∈ ob4 pvs[b] ∨ w.heap.size ≤ k := by
 have e : owns R vp ev (pvs.set b pv') = (owns R vp ev pvs).set (3 + (b * 4 + f)) u := by
  unfold owns
  rw [flat_setG ob4_len pvs b hb f hf u pv' he, show 3 + (b * 4 + f) = (b * 4 + f) + 1 + 1 + 1 by omega]
  simp only [List.set_cons_succ]
 refine ⟨?_, fun k hk => ?_⟩
 · rw [e]
   refine h.sep.set fun k hk => ?_
   rcases hu with hu | hu
   · subst hk
     exact .inl (owns_at hb hu)
   · refine .inr fun j hj => ?_
     have h1 := h.lt k (List.mem_of_getElem? hj)
     have h2 := hu k hk
     omega
 · rw [he] at hk
   rcases List.mem_or_eq_of_mem_set hk with hm | hm
   · exact .inl hm
   · rcases hu with hu | hu
     · exact .inl (List.mem_of_getElem? (hm ▸ hu))
     · exact .inr (hu k hm.symm)
theorem RunV.apart4 {S : Nat → Prop} {R : Nat} {c : Md.Call} {s : Md.State} {es : List Md.Effect} {W : Nat → Prop} {vp ev : SlV} {pvs : List PoolV} {w : World} (h : RunV S R c s es W vp ev pvs w) {b f g : Nat} (hb : b < pvs.length) {u v : SlV} (hu : (ob4 pvs[b])[f]? = some (obS u)) (hv : (ob4 pvs[b])[g]? = some (obS v)) (hne : f ≠ g) :
 (valS u).ownBlock = none ∨ (valS u).ownBlock ≠ obS v := by
 rw [valS_own]
 cases e : obS u with
 | none => exact .inl rfl
 | some k =>
  refine .inr fun e2 => hne ?_
  have := h.sep _ _ k (owns_at (R := R) (vp := vp) (ev := ev) hb (e ▸ hu)) (owns_at (R := R) (vp := vp) (ev := ev) hb (e2 ▸ hv))
  omega
theorem RunV.setI {S : Nat → Prop} {R : Nat} {c : Md.Call} {s : Md.State} {es : List Md.Effect} {W : Nat → Prop} {G n cap : Nat} {ev : SlV} {pvs : List PoolV} {w w1 : World} (h : RunV S R c s es W (some ⟨G, 0, none⟩, n, cap) ev pvs w) {b : Nat} (hb : b < pvs.length) (hb' : b < s.pools.length) (hg : w.grownBy w1 (obS pvs[b].vI)) {u : SlV} {l : List Md.Conn} (ho : OwnL 100 3 encConn w1 0 (valS u) l)
 (hu : obS u = obS pvs[b].vI ∨ ∀ k, obS u = some k → w.heap.size ≤ k) : RunV S R c { s with pools := s.pools.set b { s.pools[b] with idle := l } } es W (some ⟨G, 0, none⟩, n, cap) ev (pvs.set b { pvs[b] with vI := u }) (w1.setCell ⟨G, b * 11 + 4, none⟩ (valS u)) := by
 have hq := h.each b hb hb'
 obtain ⟨h1, h2⟩ := h.sep_set hb (f := 0) (by decide) (u := obS u) (pv' := { pvs[b] with vI := u }) rfl (hu.imp (fun e => by rw [e]; rfl) id)
 have hGr : (valS (some ⟨G, 0, none⟩, n, cap)).ownBlock = none ∨ (valS (some ⟨G, 0, none⟩, n, cap)).ownBlock ≠ obS pvs[b].vI := by
  rw [valS_own]
  refine .inr fun e => (h.sep.row (k := G) rfl).2.2 b hb ?_
  show some G ∈ ob4 pvs[b]
  have e2 : some G = obS pvs[b].vI := e
  rw [e2]
  simp [ob4]
 refine h.upd (W' := W) hg hb (fun k hk => by rw [← hk]; simp [ob4]) h2 h1 ?_ (fun j hj hw => hw) (own_setAt encP_len (h.pools.kept hg hGr) hb (i := 4) (by decide) rfl) (setCell_grown w1 ⟨G, _, none⟩ _)
 exact ⟨hq.lim, hq.up, hq.breaker, hq.probe, ho, hq.leases.kept hg (h.apart4 hb (f := 1) (g := 0) rfl rfl (by decide)), hq.dials.kept hg (h.apart4 hb (f := 2) (g := 0) rfl rfl (by decide)), hq.waiters.kept hg (h.apart4 hb (f := 3) (g := 0) rfl rfl (by decide)), fun y => (hq.wown y).kept hg (h.apart4 hb (f := 3) (g := 0) rfl rfl (by decide)), fun k hk => Nat.lt_of_lt_of_le (hq.wlt k hk) hg.size, hq.wcap⟩
theorem RunV.setL {S : Nat → Prop} {R : Nat} {c : Md.Call} {s : Md.State} {es : List Md.Effect} {W : Nat → Prop} {G n cap : Nat} {ev : SlV} {pvs : List PoolV} {w w1 : World} (h : RunV S R c s es W (some ⟨G, 0, none⟩, n, cap) ev pvs w) {b : Nat} (hb : b < pvs.length) (hb' : b < s.pools.length) (hg : w.grownBy w1 (obS pvs[b].vL)) {u : SlV} {l : List Md.Lease} (ho : OwnL 69 3 encLease w1 0 (valS u) l)
 (hu : obS u = obS pvs[b].vL ∨ ∀ k, obS u = some k → w.heap.size ≤ k) : RunV S R c { s with pools := s.pools.set b { s.pools[b] with leases := l } } es W (some ⟨G, 0, none⟩, n, cap) ev (pvs.set b { pvs[b] with vL := u }) (w1.setCell ⟨G, b * 11 + 5, none⟩ (valS u)) := by
 have hq := h.each b hb hb'
 obtain ⟨h1, h2⟩ := h.sep_set hb (f := 1) (by decide) (u := obS u) (pv' := { pvs[b] with vL := u }) rfl (hu.imp (fun e => by rw [e]; rfl) id)
 have hGr : (valS (some ⟨G, 0, none⟩, n, cap)).ownBlock = none ∨ (valS (some ⟨G, 0, none⟩, n, cap)).ownBlock ≠ obS pvs[b].vL := by
  rw [valS_own]
  refine .inr fun e => (h.sep.row (k := G) rfl).2.2 b hb ?_
  show some G ∈ ob4 pvs[b]
  have e2 : some G = obS pvs[b].vL := e
  rw [e2]
  simp [ob4]
 refine h.upd (W' := W) hg hb (fun k hk => by rw [← hk]; simp [ob4]) h2 h1 ?_ (fun j hj hw => hw) (own_setAt encP_len (h.pools.kept hg hGr) hb (i := 5) (by decide) rfl) (setCell_grown w1 ⟨G, _, none⟩ _)
 exact ⟨hq.lim, hq.up, hq.breaker, hq.probe, hq.idle.kept hg (h.apart4 hb (f := 0) (g := 1) rfl rfl (by decide)), ho, hq.dials.kept hg (h.apart4 hb (f := 2) (g := 1) rfl rfl (by decide)), hq.waiters.kept hg (h.apart4 hb (f := 3) (g := 1) rfl rfl (by decide)), fun y => (hq.wown y).kept hg (h.apart4 hb (f := 3) (g := 1) rfl rfl (by decide)), fun k hk => Nat.lt_of_lt_of_le (hq.wlt k hk) hg.size, hq.wcap⟩
theorem RunV.setD {S : Nat → Prop} {R : Nat} {c : Md.Call} {s : Md.State} {es : List Md.Effect} {W : Nat → Prop} {G n cap : Nat} {ev : SlV} {pvs : List PoolV} {w w1 : World} (h : RunV S R c s es W (some ⟨G, 0, none⟩, n, cap) ev pvs w) {b : Nat} (hb : b < pvs.length) (hb' : b < s.pools.length) (hg : w.grownBy w1 (obS pvs[b].vD)) {u : SlV} {l : List Md.Dial} (ho : OwnL 66 2 encDial w1 0 (valS u) l)
 (hu : obS u = obS pvs[b].vD ∨ ∀ k, obS u = some k → w.heap.size ≤ k) : RunV S R c { s with pools := s.pools.set b { s.pools[b] with dials := l } } es W (some ⟨G, 0, none⟩, n, cap) ev (pvs.set b { pvs[b] with vD := u }) (w1.setCell ⟨G, b * 11 + 6, none⟩ (valS u)) := by
 have hq := h.each b hb hb'
 obtain ⟨h1, h2⟩ := h.sep_set hb (f := 2) (by decide) (u := obS u) (pv' := { pvs[b] with vD := u }) rfl (hu.imp (fun e => by rw [e]; rfl) id)
 have hGr : (valS (some ⟨G, 0, none⟩, n, cap)).ownBlock = none ∨ (valS (some ⟨G, 0, none⟩, n, cap)).ownBlock ≠ obS pvs[b].vD := by
  rw [valS_own]
  refine .inr fun e => (h.sep.row (k := G) rfl).2.2 b hb ?_
  show some G ∈ ob4 pvs[b]
  have e2 : some G = obS pvs[b].vD := e
  rw [e2]
  simp [ob4]
 refine h.upd (W' := W) hg hb (fun k hk => by rw [← hk]; simp [ob4]) h2 h1 ?_ (fun j hj hw => hw) (own_setAt encP_len (h.pools.kept hg hGr) hb (i := 6) (by decide) rfl) (setCell_grown w1 ⟨G, _, none⟩ _)
 exact ⟨hq.lim, hq.up, hq.breaker, hq.probe, hq.idle.kept hg (h.apart4 hb (f := 0) (g := 2) rfl rfl (by decide)), hq.leases.kept hg (h.apart4 hb (f := 1) (g := 2) rfl rfl (by decide)), ho, hq.waiters.kept hg (h.apart4 hb (f := 3) (g := 2) rfl rfl (by decide)), fun y => (hq.wown y).kept hg (h.apart4 hb (f := 3) (g := 2) rfl rfl (by decide)), fun k hk => Nat.lt_of_lt_of_le (hq.wlt k hk) hg.size, hq.wcap⟩
theorem RunV.setW {S : Nat → Prop} {R : Nat} {c : Md.Call} {s : Md.State} {es : List Md.Effect} {W : Nat → Prop} {G n cap : Nat} {ev : SlV} {pvs : List PoolV} {w w1 : World} (h : RunV S R c s es W (some ⟨G, 0, none⟩, n, cap) ev pvs w) {b : Nat} (hb : b < pvs.length) (hb' : b < s.pools.length) (hg : w.grownBy w1 (obS pvs[b].vW)) {u : SlV} {l : List Md.Waiter} (ho : OwnL 58 2 encWaiter w1 0 (valS u) l)
 (hu : obS u = obS pvs[b].vW ∨ ∀ k, obS u = some k → w.heap.size ≤ k) : RunV S R c { s with pools := s.pools.set b { s.pools[b] with waiters := l } } es W (some ⟨G, 0, none⟩, n, cap) ev (pvs.set b { pvs[b] with vW := u }) (w1.setCell ⟨G, b * 11 + 7, none⟩ (valS u)) := by
 have hq := h.each b hb hb'
 obtain ⟨h1, h2⟩ := h.sep_set hb (f := 3) (by decide) (u := obS u) (pv' := { pvs[b] with vW := u }) rfl (hu.imp (fun e => by rw [e]; rfl) id)
 have hGr : (valS (some ⟨G, 0, none⟩, n, cap)).ownBlock = none ∨ (valS (some ⟨G, 0, none⟩, n, cap)).ownBlock ≠ obS pvs[b].vW := by
  rw [valS_own]
  refine .inr fun e => (h.sep.row (k := G) rfl).2.2 b hb ?_
  show some G ∈ ob4 pvs[b]
  have e2 : some G = obS pvs[b].vW := e
  rw [e2]
  simp [ob4]
 refine h.upd (W' := W) hg hb (fun k hk => by rw [← hk]; simp [ob4]) h2 h1 ?_ (fun j hj hw => hw) (own_setAt encP_len (h.pools.kept hg hGr) hb (i := 7) (by decide) rfl) (setCell_grown w1 ⟨G, _, none⟩ _)
 exact ⟨hq.lim, hq.up, hq.breaker, hq.probe, hq.idle.kept hg (h.apart4 hb (f := 0) (g := 3) rfl rfl (by decide)), hq.leases.kept hg (h.apart4 hb (f := 1) (g := 3) rfl rfl (by decide)), hq.dials.kept hg (h.apart4 hb (f := 2) (g := 3) rfl rfl (by decide)), ho.reads encWaiter_len, fun _ => ho, fun k hk => (ho.lt k (by rw [valS_own]; exact hk)).2, own_cap ho⟩
theorem RunV.setWr {S : Nat → Prop} {R : Nat} {c : Md.Call} {s : Md.State} {es : List Md.Effect} {W : Nat → Prop} {G n cap : Nat} {ev : SlV} {pvs : List PoolV} {w w1 : World} (h : RunV S R c s es W (some ⟨G, 0, none⟩, n, cap) ev pvs w) {b : Nat} (hb : b < pvs.length) (hb' : b < s.pools.length) (hg : w.grownBy w1 (obS pvs[b].vW)) {u : SlV} {l : List Md.Waiter} (ho : ReadsL 2 encWaiter w1 (valS u) l)
 (hu : obS u = obS pvs[b].vW ∨ ∀ k, obS u = some k → w.heap.size ≤ k) (hul : ∀ k, obS u = some k → k < w1.heap.size) (hucap : l.length ≤ u.2.2) : RunV S R c { s with pools := s.pools.set b { s.pools[b] with waiters := l } } es (fun j => W j ∧ j ≠ b) (some ⟨G, 0, none⟩, n, cap) ev (pvs.set b { pvs[b] with vW := u }) (w1.setCell ⟨G, b * 11 + 7, none⟩ (valS u)) := by
 have hq := h.each b hb hb'
 obtain ⟨h1, h2⟩ := h.sep_set hb (f := 3) (by decide) (u := obS u) (pv' := { pvs[b] with vW := u }) rfl (hu.imp (fun e => by rw [e]; rfl) id)
 have hGr : (valS (some ⟨G, 0, none⟩, n, cap)).ownBlock = none ∨ (valS (some ⟨G, 0, none⟩, n, cap)).ownBlock ≠ obS pvs[b].vW := by
  rw [valS_own]
  refine .inr fun e => (h.sep.row (k := G) rfl).2.2 b hb ?_
  show some G ∈ ob4 pvs[b]
  have e2 : some G = obS pvs[b].vW := e
  rw [e2]
  simp [ob4]
 refine h.upd (W' := (fun j => W j ∧ j ≠ b)) hg hb (fun k hk => by rw [← hk]; simp [ob4]) h2 h1 ?_ (fun j hj hw => hw.1) (own_setAt encP_len (h.pools.kept hg hGr) hb (i := 7) (by decide) rfl) (setCell_grown w1 ⟨G, _, none⟩ _)
 exact ⟨hq.lim, hq.up, hq.breaker, hq.probe, hq.idle.kept hg (h.apart4 hb (f := 0) (g := 3) rfl rfl (by decide)), hq.leases.kept hg (h.apart4 hb (f := 1) (g := 3) rfl rfl (by decide)), hq.dials.kept hg (h.apart4 hb (f := 2) (g := 3) rfl rfl (by decide)), ho, fun y => absurd rfl y.2, hul, hucap⟩
theorem RunV.setE {S : Nat → Prop} {R : Nat} {c : Md.Call} {s : Md.State} {es es' : List Md.Effect} {W : Nat → Prop} {vp ev : SlV} {pvs : List PoolV} {w w1 : World} (h : RunV S R c s es W vp ev pvs w) (hg : w.grownBy w1 (obS ev)) {u : SlV} (ho : OwnL 51 4 encEff w1 0 (valS u) es')
 (hu : obS u = obS ev ∨ ∀ k, obS u = some k → w.heap.size ≤ k) : RunV S R c s es' W vp u pvs (w1.setCell ⟨R, 11, none⟩ (valS u)) := by
 have hR := (Array.getElem?_eq_some_iff.1 h.blk).1
 have e0 : owns R vp u pvs = (owns R vp ev pvs).set 2 (obS u) := rfl
 have hs : Sep (owns R vp u pvs) := by
  rw [e0]
  refine h.sep.set fun k hk => ?_
  rcases hu with hu | hu
  · exact .inl (by rw [← hk, hu]; rfl)
  · refine .inr fun j hj => ?_
    have h1 := h.lt k (List.mem_of_getElem? hj)
    have h2 := hu k hk
    omega
 have hr1 : ∀ k, obS ev = some k → k ≠ R ∧ obS vp ≠ some k ∧ ∀ j (hj : j < pvs.length), some k ∉ ob4 pvs[j] := fun k hk => by
  refine ⟨fun x => ?_, fun x => ?_, fun j hj hm => (h.sep.ne hj hm).2.2.1 hk⟩
  · have := h.sep 0 2 k (by simp [owns, x]) (by simp [owns, hk])
    omega
  · have := h.sep 1 2 k (by simp [owns, x]) (by simp [owns, hk])
    omega
 have hg2 := setCell_grown w1 ⟨R, 11, none⟩ (valS u)
 have hR2 : ∀ k, some k ∈ owns R vp u pvs → k = R → ∀ i, (owns R vp u pvs)[i]? = some (some k) → i = 0 := fun k _ hk i hi => hs i 0 k hi (by simp [owns, hk])
 have hb := (hg.block R hR (fun e => (hr1 R e.symm).1 rfl)).trans h.blk
 refine ⟨?_, (h.pools.kept hg ?_).kept hg2 ?_, ho.kept hg2 ?_, h.len, fun j h1 h2 => ((h.each j h1 h2).kept hg (fun k hk => (hr1 k hk).2.2 j h1)).kept hg2 (fun k hk hm => ?_), hs, fun k hk => ?_, fun k hk => h.fresh k (Nat.le_trans (Nat.le_trans hg.size hg2.size) hk)⟩
 · exact blk_set hb 11 (valS u)
 · rw [valS_own]
   cases e : obS vp with
   | none => exact .inl rfl
   | some k => exact .inr fun e2 => (hr1 k e2.symm).2.1 e
 · rw [valS_own]
   refine .inr fun e => ?_
   have := h.sep 0 1 R (by simp [owns]) (by simp [owns]; exact e)
   omega
 · rw [valS_own]
   refine .inr fun e => ?_
   have := hs 0 2 R (by simp [owns]) (by simp [owns]; exact e)
   omega
 · injection hk with hk
   subst hk
   exact (h.sep.ne h1 hm).1 rfl
 · rw [e0] at hk
   rcases List.mem_or_eq_of_mem_set hk with hm | hm
   · exact h.sub k hm
   · rcases hu with hu | hu
     · exact h.sub k (by simp [owns]; exact .inr (.inr (.inl (hm.trans hu))))
     · exact h.fresh k (hu k hm.symm)
/-- The time or the mark of the end is set. -/
theorem RunV.setR {S : Nat → Prop} {R : Nat} {c : Md.Call} {s s' : Md.State} {es : List Md.Effect} {W : Nat → Prop} {vp ev : SlV} {pvs : List PoolV} {w : World} (h : RunV S R c s es W vp ev pvs w) {i : Nat} {v : Value} (hp : s'.pools = s.pools) (he : (runCells s c vp ev).setIfInBounds i v = runCells s' c vp ev) : RunV S R c s' es W vp ev pvs (w.setCell ⟨R, i, none⟩ v) := by
 have hg2 := setCell_grown w ⟨R, i, none⟩ v
 have h1 : ∀ {u : SlV} {j : Nat}, j ≠ 0 → (owns R vp ev pvs)[j]? = some (obS u) → (valS u).ownBlock = none ∨ (valS u).ownBlock ≠ some R := fun {u j} hj hu => by
  rw [valS_own]
  refine .inr fun e => hj ?_
  exact h.sep j 0 R (by rw [hu, e]) (by simp [owns])
 refine ⟨?_, h.pools.kept hg2 (h1 (j := 1) (by decide) rfl), h.effs.kept hg2 (h1 (j := 2) (by decide) rfl), by rw [hp]; exact h.len, fun j a b => ?_, h.sep, h.sub, fun k hk => h.fresh k (Nat.le_trans hg2.size hk)⟩
 · rw [← he]
   exact blk_set h.blk i v
 · have q := (h.each j a (by rw [← hp]; exact b)).kept hg2 (fun k hk hm => by
    injection hk with hk
    subst hk
    exact (h.sep.ne a hm).1 rfl)
   have e : s'.pools[j] = s.pools[j]'(by rw [← hp]; exact b) := by simp [hp]
   rw [e]
   exact q
end Go.Proofs.Ytaicmiadgnpimaa
