/-
  Walks for layer 26 (model): what is wrong with an end of a dial.
-/
import Derived.Test.YtaicmiadgnpimaaMgc
import Derived.Deep.RegionLaw
namespace Go.Proofs.Ytaicmiadgnpimaa
open Go.RowKit

theorem ixPureLease (u : SlV) (l : List Md.Lease) (p : Md.Lease → Bool) (g : Nat) (lb : Array Value) (w : World) (hr : ReadsL 3 encLease w (valS u) l)
 (hcall : ∀ y w1, Below w.heap.size w w1 → Calls Try.prog g (#[valLease y] ++ lb) w1 fun e w' => e = .returned (.bool (p y)) ∧ Below w.heap.size w w')
 (eg : ∀ args w, (callFunc g args).run Try.prog w = .ok (.enter g args) w) (hl : l.length ≤ 1000000) :
 Calls Try.prog 81 #[valS u, .func (.func g) #[] lb] w fun e w' => e = .returned (I64 (ixI p l)) ∧ Below w.heap.size w w' := by
 refine (ixLease u l p g lb (fun _ w1 => Below w.heap.size w w1) w (Below.refl _ _) (fun k w1 h => hr.below h) (fun k hk w1 h => hcall _ _ h) eg hl).mono ?_
 rintro e w' (⟨k, h1, h2, h3, h4⟩ | ⟨h2, h3, h4⟩)
 · unfold ixI
   rw [h2, if_pos h1]
   exact ⟨h3, h4⟩
 · unfold ixI
   rw [if_neg (by omega)]
   exact ⟨h3, h4⟩
theorem ctLease (u : SlV) (l : List Md.Lease) (p : Md.Lease → Bool) (g : Nat) (lb : Array Value) (w : World) (hr : ReadsL 3 encLease w (valS u) l)
 (hcall : ∀ y w1, Below w.heap.size w w1 → Calls Try.prog g (#[valLease y] ++ lb) w1 fun e w' => e = .returned (.bool (p y)) ∧ Below w.heap.size w w')
 (eg : ∀ args w, (callFunc g args).run Try.prog w = .ok (.enter g args) w) (hl : l.length ≤ 1000000) :
 Calls Try.prog 70 #[valS u, .func (.func g) #[] lb] w fun e w' => e = .returned (.bool (l.any p)) ∧ Below w.heap.size w w' := by
 have HI := Lib.hid (ixPureLease u l p g lb w hr hcall eg hl)
 have hn := ixI_neg p l
 have e : l.any p = decide (0 ≤ ixI p l) := by
  cases ha : l.any p with
  | false => exact (decide_eq_false (by have := hn.2 ha; omega)).symm
  | true => exact (decide_eq_true (Int.not_lt.1 fun h => by rw [hn.1 h] at ha; cases ha)).symm
 rw [e]
 generalize ixI p l = i at HI ⊢
 clear e hn hr hcall
 go_enter Try.func70, Try.ntmps70
 go_wp2_with fail
 refine HI.out.mono ?_
 rintro e w1 ⟨rfl, hb1⟩
 go_wp2
 go_ret
 exact ⟨rfl, hb1⟩
set_option maxRecDepth 100000 in
theorem und1 (y : Md.Lease) (X R : Nat) (cn : Int) (w : World) (hx : w.cell? ⟨X, 0, none⟩ = some (.pointer (some ⟨R, 0, none⟩))) (h6 : w.cell? ⟨R, 6, none⟩ = some (I64 cn)) : Calls Try.prog 71 (#[valLease y] ++ #[.pointer (some ⟨X, 0, none⟩)]) w fun e w' => e = .returned (.bool (y.2.1 == cn)) ∧ Below w.heap.size w w' := by
 have HB := Lib.hid ((Below.refl w.heap.size w).alloc (Nat.le_refl _) (.cells #[I64 y.1, I64 y.2.1, I64 y.2.2] 69))
 have hx1 := (HB.out.cell (p := ⟨X, 0, none⟩) (cell_lt hx)).trans hx
 have h61 := (HB.out.cell (p := ⟨R, 6, none⟩) (cell_lt h6)).trans h6
 clear hx h6
 unfold valLease
 simp only [List.append_toArray, List.cons_append, List.nil_append]
 go_enter Try.func71, Try.ntmps71
 go_wp2
 go_quiet (fail)
 go_wp2
 go_ret
 exact ⟨rfl, below_drewN HB.out _⟩
theorem ixPureConn (u : SlV) (l : List Md.Conn) (p : Md.Conn → Bool) (g : Nat) (lb : Array Value) (w : World) (hr : ReadsL 3 encConn w (valS u) l)
 (hcall : ∀ y w1, Below w.heap.size w w1 → Calls Try.prog g (#[valConn y] ++ lb) w1 fun e w' => e = .returned (.bool (p y)) ∧ Below w.heap.size w w')
 (eg : ∀ args w, (callFunc g args).run Try.prog w = .ok (.enter g args) w) (hl : l.length ≤ 1000000) :
 Calls Try.prog 93 #[valS u, .func (.func g) #[] lb] w fun e w' => e = .returned (I64 (ixI p l)) ∧ Below w.heap.size w w' := by
 refine (ixConn u l p g lb (fun _ w1 => Below w.heap.size w w1) w (Below.refl _ _) (fun k w1 h => hr.below h) (fun k hk w1 h => hcall _ _ h) eg hl).mono ?_
 rintro e w' (⟨k, h1, h2, h3, h4⟩ | ⟨h2, h3, h4⟩)
 · unfold ixI
   rw [h2, if_pos h1]
   exact ⟨h3, h4⟩
 · unfold ixI
   rw [if_neg (by omega)]
   exact ⟨h3, h4⟩
theorem ctConn (u : SlV) (l : List Md.Conn) (p : Md.Conn → Bool) (g : Nat) (lb : Array Value) (w : World) (hr : ReadsL 3 encConn w (valS u) l)
 (hcall : ∀ y w1, Below w.heap.size w w1 → Calls Try.prog g (#[valConn y] ++ lb) w1 fun e w' => e = .returned (.bool (p y)) ∧ Below w.heap.size w w')
 (eg : ∀ args w, (callFunc g args).run Try.prog w = .ok (.enter g args) w) (hl : l.length ≤ 1000000) :
 Calls Try.prog 72 #[valS u, .func (.func g) #[] lb] w fun e w' => e = .returned (.bool (l.any p)) ∧ Below w.heap.size w w' := by
 have HI := Lib.hid (ixPureConn u l p g lb w hr hcall eg hl)
 have hn := ixI_neg p l
 have e : l.any p = decide (0 ≤ ixI p l) := by
  cases ha : l.any p with
  | false => exact (decide_eq_false (by have := hn.2 ha; omega)).symm
  | true => exact (decide_eq_true (Int.not_lt.1 fun h => by rw [hn.1 h] at ha; cases ha)).symm
 rw [e]
 generalize ixI p l = i at HI ⊢
 clear e hn hr hcall
 go_enter Try.func72, Try.ntmps72
 go_wp2_with fail
 refine HI.out.mono ?_
 rintro e w1 ⟨rfl, hb1⟩
 go_wp2
 go_ret
 exact ⟨rfl, hb1⟩
set_option maxRecDepth 100000 in
theorem und2 (y : Md.Conn) (X R : Nat) (cn : Int) (w : World) (hx : w.cell? ⟨X, 0, none⟩ = some (.pointer (some ⟨R, 0, none⟩))) (h6 : w.cell? ⟨R, 6, none⟩ = some (I64 cn)) : Calls Try.prog 73 (#[valConn y] ++ #[.pointer (some ⟨X, 0, none⟩)]) w fun e w' => e = .returned (.bool (y.1 == cn)) ∧ Below w.heap.size w w' := by
 have HB := Lib.hid ((Below.refl w.heap.size w).alloc (Nat.le_refl _) (.cells #[I64 y.1, I64 y.2.1, I64 y.2.2] 100))
 have hx1 := (HB.out.cell (p := ⟨X, 0, none⟩) (cell_lt hx)).trans hx
 have h61 := (HB.out.cell (p := ⟨R, 6, none⟩) (cell_lt h6)).trans h6
 clear hx h6
 unfold valConn
 simp only [List.append_toArray, List.cons_append, List.nil_append]
 go_enter Try.func73, Try.ntmps73
 go_wp2
 go_quiet (fail)
 go_wp2
 go_ret
 exact ⟨rfl, below_drewN HB.out _⟩
end Go.Proofs.Ytaicmiadgnpimaa
namespace Go.Proofs.Ytaicmiadgnpimaa
open Go.RowKit

/-- What undialled looks at. -/
def USeen (X R : Nat) (w0 : World) (cl : Int) (w : World) : Prop := Hid (Below w0.heap.size w0 w) ∧ w.cell? ⟨X, 0, none⟩ = some (.pointer (some ⟨R, 0, none⟩)) ∧ w.cell? ⟨R, 5, none⟩ = some (I64 cl)
/-- Whether the connection is there, from backend k on. -/
def undR (yes : Bool) (cn : Int) (l : List Md.Pool) (k : Nat) : Bool := yes && ((l.drop k).flatMap Md.pconns).contains cn
theorem undR_at (yes : Bool) (cn : Int) (l : List Md.Pool) (k : Nat) (hk : k < l.length) : undR yes cn l k = (yes && (l[k].leases.any (fun y => y.2.1 == cn) || l[k].idle.any (fun y => y.1 == cn)) || undR yes cn l (k + 1)) := by
 unfold undR
 rw [List.drop_eq_getElem_cons hk, List.flatMap_cons, List.contains_append]
 have e : (Md.pconns l[k]).contains cn = (l[k].leases.any (fun y => y.2.1 == cn) || l[k].idle.any (fun y => y.1 == cn)) := by
  unfold Md.pconns
  simp only [List.contains_eq_any_beq, List.any_append, List.any_map]
  congr 1
  · congr 1; funext x; exact BEq.comm
  · congr 1; funext x; exact BEq.comm
 rw [e]
 cases yes <;> simp
theorem undR_end (yes : Bool) (cn : Int) (l : List Md.Pool) : undR yes cn l l.length = false := by
 unfold undR
 rw [List.drop_length]
 cases yes <;> rfl
set_option maxHeartbeats 4000000 in
set_option maxRecDepth 100000 in
theorem undialled_any (S : Nat → Prop) (R G n cap b : Nat) (c : Md.Call) (s : Md.State) (es : List Md.Effect) (W : Nat → Prop) (ev : SlV) (pvs : List PoolV) (w : World) (h : RunV S R c s es W (some ⟨G, 0, none⟩, n, cap) ev pvs w) (hb : c.backend = (b : Int)) (hn : n = s.pools.length) (hbn : b < s.pools.length) (hff : ∀ j (hj : j < s.pools.length), PoolFit s.pools[j]) (hl : s.pools.length ≤ 1000000) :
 Calls Try.prog 46 #[.pointer (some ⟨R, 0, none⟩)] w fun e w' => e = .returned (I64 (if !Md.hasDial s.pools[b] c.call then 4 else if undR c.yes c.conn s.pools 0 then 8 else 0)) ∧ Below w.heap.size w w' := by
 have hb0 := (Below.refl w.heap.size w).alloc (Nat.le_refl _) (.cells #[.pointer (some ⟨R, 0, none⟩)] 108)
 have HB0 := Lib.hid hb0
 obtain ⟨w0, hw0⟩ : ∃ w0, w0 = w.alloc (.cells #[.pointer (some ⟨R, 0, none⟩)] 108) := ⟨_, rfl⟩
 have hlt : w.heap.size < w0.heap.size := by rw [hw0]; simp
 have hx : w0.cell? ⟨w.heap.size, 0, none⟩ = some (.pointer (some ⟨R, 0, none⟩)) := by rw [hw0]; exact blk_cell (blk_new w _) 0
 rw [← hw0] at HB0 hb0
 have h0 := h.below hb0
 have HP : Hid (∀ w1, Below w0.heap.size w0 w1 → Calls Try.prog 67 #[.pointer (some ⟨R, 0, none⟩)] w1 fun e w' => e = .returned (.pointer (some ⟨G, b * 11, none⟩)) ∧ Below w0.heap.size w0 w') := fun w1 hb1 =>
  (pool_any R G n cap b c s ev w1 (runCells_of (h0.below hb1).blk) hb (by omega)).mono fun e w' q => ⟨q.1, hb1.trans (q.2.mono hb1.size)⟩
 have HF : Hid (∀ w1, Below w0.heap.size w0 w1 → Calls Try.prog 66 #[.pointer (some ⟨G, b * 11, none⟩), I64 c.call] w1 fun e w' => e = .returned (.tuple #[I64 (ixI (fun y => y.1 == c.call) s.pools[b].leases), I64 (ixI (fun y => y.1 == c.call) s.pools[b].dials), I64 (ixI (fun y => y.1 == c.call) s.pools[b].waiters)]) ∧ Below w0.heap.size w0 w') := fun w1 hb1 =>
  (find_pool ((h0.seen hbn (hff b hbn)).below hb1) c.call).mono fun e w' q => ⟨q.1, hb1.trans (q.2.mono hb1.size)⟩
 have HC : Hid (∀ w1, Below w0.heap.size w0 w1 → USeen w.heap.size R w0 c.call w1) := fun w1 hb1 => ⟨Lib.hid hb1, (hb1.cell (p := ⟨_, 0, none⟩) hlt).trans hx, (runCells_of (h0.below hb1).blk).c5⟩
 have HS := Lib.hid (HC.out w0.drew (Below.refl _ _).drew)
 have HR : Hid (∀ w1, Below w0.heap.size w0 w1 → w1.cell? ⟨w.heap.size, 0, none⟩ = some (.pointer (some ⟨R, 0, none⟩)) ∧ w1.cell? ⟨R, 2, none⟩ = some (.slice (some ⟨G, 0, none⟩) n cap) ∧ w1.cell? ⟨R, 8, none⟩ = some (.bool c.yes)) := fun w1 hb1 => ⟨(hb1.cell (p := ⟨_, 0, none⟩) hlt).trans hx, (runCells_of (h0.below hb1).blk).c2, (runCells_of (h0.below hb1).blk).c8⟩
 have HCT : Hid (∀ w1, Below w0.heap.size w0 w1 → ∀ k (hk : k < s.pools.length) (hk' : k < pvs.length), PoolCells w1 G (k * 11) pvs[k] ∧
  (Calls Try.prog 70 #[valS pvs[k].vL, .func (.func 71) #[] #[.pointer (some ⟨w.heap.size, 0, none⟩)]] w1 fun e w' => e = .returned (.bool (s.pools[k].leases.any (fun y => y.2.1 == c.conn))) ∧ Below w1.heap.size w1 w') ∧
  (Calls Try.prog 72 #[valS pvs[k].vI, .func (.func 73) #[] #[.pointer (some ⟨w.heap.size, 0, none⟩)]] w1 fun e w' => e = .returned (.bool (s.pools[k].idle.any (fun y => y.1 == c.conn))) ∧ Below w1.heap.size w1 w')) := fun w1 hb1 k hk hk' => by
  have h1 := h0.below hb1
  have hx1 := (hb1.cell (p := ⟨_, 0, none⟩) hlt).trans hx
  have h6 := (runCells_of h1.blk).c6
  have hq := h1.each k hk' hk
  refine ⟨h1.cells hk', ctLease _ _ _ _ _ _ (hq.leases.reads encLease_len) (fun y w2 hb2 => (und1 y w.heap.size R c.conn w2 ((hb2.cell (p := ⟨_, 0, none⟩) (cell_lt hx1)).trans hx1) ((hb2.cell (p := ⟨_, 6, none⟩) (cell_lt h6)).trans h6)).mono fun e w' q => ⟨q.1, hb2.trans (q.2.mono hb2.size)⟩) (fun args w => by kernel_rfl) (hff k hk).ll,
   ctConn _ _ _ _ _ _ (hq.idle.reads encConn_len) (fun y w2 hb2 => (und2 y w.heap.size R c.conn w2 ((hb2.cell (p := ⟨_, 0, none⟩) (cell_lt hx1)).trans hx1) ((hb2.cell (p := ⟨_, 6, none⟩) (cell_lt h6)).trans h6)).mono fun e w' q => ⟨q.1, hb2.trans (q.2.mono hb2.size)⟩) (fun args w => by kernel_rfl) (hff k hk).il⟩
 have e2 := ixI_neg (fun y => y.1 == c.call) s.pools[b].dials
 have hld : Md.hasDial s.pools[b] c.call = s.pools[b].dials.any (fun y => y.1 == c.call) := rfl
 rw [hld]
 clear hld
 have hpl := h.len
 generalize (s.pools[b].dials.any fun y => y.1 == c.call) = b2 at e2 ⊢
 generalize ixI (fun y => y.1 == c.call) s.pools[b].leases = i1 at HF
 generalize ixI (fun y => y.1 == c.call) s.pools[b].dials = i2 at HF e2
 generalize ixI (fun y => y.1 == c.call) s.pools[b].waiters = i3 at HF
 generalize c.call = cl at HC HS HF
 cases b2 with
 | false =>
  have i2n : i2 < 0 := e2.2 rfl
  rw [if_pos (show (!false) = true from rfl)]
  clear e2 h h0 hb hn hff hx hlt hb0 HCT
  go_enter Try.func46, Try.ntmps46
  go_wp2
  rw [← hw0]
  clear hw0
  refine wp_region_quietC (C := USeen w.heap.size R w0 cl) (by kernel_rfl) (by kernel_rfl) HS.out ?_
  refine wpQuiet_step (fun K hK => ?_)
  refine qwant (by rfl) ?_
  refine ⟨?vq1, ?hq1, ?rq1⟩
  case hq1 => (intro w hSw; unfold USeen at hSw; obtain ⟨hSb, hS1, hS2⟩ := hSw; go_simp; first | done | with_reducible rfl)
  refine hK _ ?_
  clear hK K
  try simp only [Act.put, pu2, pu3, pu4]
  refine wpQuiet_step (fun K hK => ?_)
  refine qwant (by rfl) ?_
  refine ⟨.pointer (some ⟨G, b * 11, none⟩), ?hq2, ?rq2⟩
  case hq2 => (intro w hSw; unfold USeen at hSw; obtain ⟨hSb, hS1, hS2⟩ := hSw; go_simp; exact (HP.out _ hSb.out).mono (fun e w1 q => ⟨q.1, HC.out w1 q.2⟩))
  refine hK _ ?_
  clear hK K
  try simp only [Act.put, pu2, pu3, pu4]
  refine wpQuiet_step (fun K hK => ?_)
  refine qwant (by rfl) ?_
  refine ⟨?vq3, ?hq3, ?rq3⟩
  case hq3 => (intro w hSw; unfold USeen at hSw; obtain ⟨hSb, hS1, hS2⟩ := hSw; go_simp; first | done | with_reducible rfl)
  refine hK _ ?_
  clear hK K
  try simp only [Act.put, pu2, pu3, pu4]
  refine wpQuiet_step (fun K hK => ?_)
  refine qwant (by rfl) ?_
  refine ⟨?vq4, ?hq4, ?rq4⟩
  case hq4 => (intro w hSw; unfold USeen at hSw; obtain ⟨hSb, hS1, hS2⟩ := hSw; go_simp; first | done | with_reducible rfl)
  refine hK _ ?_
  clear hK K
  try simp only [Act.put, pu2, pu3, pu4]
  refine wpQuiet_step (fun K hK => ?_)
  refine qwant (by rfl) ?_
  refine ⟨?vq5, ?hq5, ?rq5⟩
  case hq5 => (intro w hSw; unfold USeen at hSw; obtain ⟨hSb, hS1, hS2⟩ := hSw; go_simp; first | done | with_reducible rfl)
  refine hK _ ?_
  clear hK K
  try simp only [Act.put, pu2, pu3, pu4]
  refine wpQuiet_step (fun K hK => ?_)
  refine qwant (by rfl) ?_
  refine ⟨?vq6, ?hq6, ?rq6⟩
  case hq6 => (intro w hSw; unfold USeen at hSw; obtain ⟨hSb, hS1, hS2⟩ := hSw; go_simp; first | done | with_reducible rfl)
  refine hK _ ?_
  clear hK K
  try simp only [Act.put, pu2, pu3, pu4]
  refine wpQuiet_step (fun K hK => ?_)
  refine qwant (by rfl) ?_
  refine ⟨?vq7, ?hq7, ?rq7⟩
  case hq7 => (intro w hSw; unfold USeen at hSw; obtain ⟨hSb, hS1, hS2⟩ := hSw; go_simp; first | done | with_reducible rfl)
  refine hK _ ?_
  clear hK K
  try simp only [Act.put, pu2, pu3, pu4]
  refine wpQuiet_step (fun K hK => ?_)
  refine qwant (by rfl) ?_
  refine ⟨.tuple #[I64 i1, I64 i2, I64 i3], ?hq8, ?rq8⟩
  case hq8 => (intro w hSw; unfold USeen at hSw; obtain ⟨hSb, hS1, hS2⟩ := hSw; go_simp; exact (HF.out _ hSb.out).mono (fun e w1 q => ⟨q.1, HC.out w1 q.2⟩))
  refine hK _ ?_
  clear hK K
  try simp only [Act.put, pu2, pu3, pu4]
  refine wpQuiet_step (fun K hK => ?_)
  refine qwant (by rfl) ?_
  refine ⟨?vq9, ?hq9, ?rq9⟩
  case hq9 => (intro w hSw; unfold USeen at hSw; obtain ⟨hSb, hS1, hS2⟩ := hSw; go_simp; first | done | with_reducible rfl)
  refine hK _ ?_
  clear hK K
  try simp only [Act.put, pu2, pu3, pu4]
  refine wpQuiet_step (fun K hK => ?_)
  refine qwant (by rfl) ?_
  refine ⟨?vq10, ?hq10, ?rq10⟩
  case hq10 => (intro w hSw; unfold USeen at hSw; obtain ⟨hSb, hS1, hS2⟩ := hSw; go_simp; first | done | with_reducible rfl)
  refine hK _ ?_
  clear hK K
  try simp only [Act.put, pu2, pu3, pu4]
  refine wpQuiet_step (fun K hK => ?_)
  refine qwant (by rfl) ?_
  refine ⟨?vq11, ?hq11, ?rq11⟩
  case hq11 => (intro w hSw; unfold USeen at hSw; obtain ⟨hSb, hS1, hS2⟩ := hSw; go_simp; first | done | with_reducible rfl)
  refine hK _ ?_
  clear hK K
  try simp only [Act.put, pu2, pu3, pu4]
  refine wpQuiet_step (fun K hK => ?_)
  refine qwant (by rfl) ?_
  refine ⟨?vq12, ?hq12, ?rq12⟩
  case hq12 => (intro w hSw; unfold USeen at hSw; obtain ⟨hSb, hS1, hS2⟩ := hSw; go_simp; first | done | with_reducible rfl)
  refine hK _ ?_
  clear hK K
  try simp only [Act.put, pu2, pu3, pu4]
  refine wpQuiet_step (fun K hK => ?_)
  refine qwant (by rfl) ?_
  refine ⟨?vq13, ?hq13, ?rq13⟩
  case hq13 => (intro w hSw; unfold USeen at hSw; obtain ⟨hSb, hS1, hS2⟩ := hSw; go_simp; first | done | with_reducible rfl)
  refine hK _ ?_
  clear hK K
  try simp only [Act.put, pu2, pu3, pu4]
  refine wpQuiet_step (fun K hK => ?_)
  refine qwant (by rfl) ?_
  refine ⟨?vq14, ?hq14, ?rq14⟩
  case hq14 => (intro w hSw; unfold USeen at hSw; obtain ⟨hSb, hS1, hS2⟩ := hSw; go_simp; first | done | with_reducible rfl)
  refine hK _ ?_
  clear hK K
  try simp only [Act.put, pu2, pu3, pu4]
  refine wpQuiet_step (fun K hK => ?_)
  refine qwant (by rfl) ?_
  refine ⟨?vq15, ?hq15, ?rq15⟩
  case hq15 => (intro w hSw; unfold USeen at hSw; obtain ⟨hSb, hS1, hS2⟩ := hSw; go_simp; first | done | with_reducible rfl)
  refine hK _ ?_
  clear hK K
  try simp only [Act.put, pu2, pu3, pu4]
  refine wpQuiet_nil ?_
  rintro w9 ⟨hb9, hx9, _⟩
  go_wp2
  go_ret
  exact ⟨rfl, HB0.out.trans (hb9.out.mono HB0.out.size)⟩
 | true =>
  have i2p : 0 ≤ i2 := Int.not_lt.1 fun h => by simp at e2; omega
  rw [if_neg (show ¬ (!true) = true by simp)]
  have HAT := Lib.hid (undR_at c.yes c.conn s.pools)
  have HEN := Lib.hid (undR_end c.yes c.conn s.pools)
  have H0 : Hid (undR c.yes c.conn s.pools 0 = undR c.yes c.conn s.pools 0) := rfl
  obtain ⟨res, hres⟩ : ∃ res, res = undR c.yes c.conn s.pools 0 := ⟨_, rfl⟩
  rw [← hres] at H0 ⊢
  have H0' : Hid (res = undR c.yes c.conn s.pools 0) := hres
  have HN := Lib.hid hn
  have HPL := Lib.hid hpl
  generalize c.yes = yes at HR HAT HEN H0'
  clear e2 h h0 hb hff hx hlt hb0 H0 hres hpl
  rw [← hn] at hl
  clear hn
  go_enter Try.func46, Try.ntmps46
  go_wp2
  rw [← hw0]
  clear hw0
  refine wp_region_quietC (C := USeen w.heap.size R w0 cl) (by kernel_rfl) (by kernel_rfl) HS.out ?_
  refine wpQuiet_step (fun K hK => ?_)
  refine qwant (by rfl) ?_
  refine ⟨?vq16, ?hq16, ?rq16⟩
  case hq16 => (intro w hSw; unfold USeen at hSw; obtain ⟨hSb, hS1, hS2⟩ := hSw; go_simp; first | done | with_reducible rfl)
  refine hK _ ?_
  clear hK K
  try simp only [Act.put, pu2, pu3, pu4]
  refine wpQuiet_step (fun K hK => ?_)
  refine qwant (by rfl) ?_
  refine ⟨.pointer (some ⟨G, b * 11, none⟩), ?hq17, ?rq17⟩
  case hq17 => (intro w hSw; unfold USeen at hSw; obtain ⟨hSb, hS1, hS2⟩ := hSw; go_simp; exact (HP.out _ hSb.out).mono (fun e w1 q => ⟨q.1, HC.out w1 q.2⟩))
  refine hK _ ?_
  clear hK K
  try simp only [Act.put, pu2, pu3, pu4]
  refine wpQuiet_step (fun K hK => ?_)
  refine qwant (by rfl) ?_
  refine ⟨?vq18, ?hq18, ?rq18⟩
  case hq18 => (intro w hSw; unfold USeen at hSw; obtain ⟨hSb, hS1, hS2⟩ := hSw; go_simp; first | done | with_reducible rfl)
  refine hK _ ?_
  clear hK K
  try simp only [Act.put, pu2, pu3, pu4]
  refine wpQuiet_step (fun K hK => ?_)
  refine qwant (by rfl) ?_
  refine ⟨?vq19, ?hq19, ?rq19⟩
  case hq19 => (intro w hSw; unfold USeen at hSw; obtain ⟨hSb, hS1, hS2⟩ := hSw; go_simp; first | done | with_reducible rfl)
  refine hK _ ?_
  clear hK K
  try simp only [Act.put, pu2, pu3, pu4]
  refine wpQuiet_step (fun K hK => ?_)
  refine qwant (by rfl) ?_
  refine ⟨?vq20, ?hq20, ?rq20⟩
  case hq20 => (intro w hSw; unfold USeen at hSw; obtain ⟨hSb, hS1, hS2⟩ := hSw; go_simp; first | done | with_reducible rfl)
  refine hK _ ?_
  clear hK K
  try simp only [Act.put, pu2, pu3, pu4]
  refine wpQuiet_step (fun K hK => ?_)
  refine qwant (by rfl) ?_
  refine ⟨?vq21, ?hq21, ?rq21⟩
  case hq21 => (intro w hSw; unfold USeen at hSw; obtain ⟨hSb, hS1, hS2⟩ := hSw; go_simp; first | done | with_reducible rfl)
  refine hK _ ?_
  clear hK K
  try simp only [Act.put, pu2, pu3, pu4]
  refine wpQuiet_step (fun K hK => ?_)
  refine qwant (by rfl) ?_
  refine ⟨?vq22, ?hq22, ?rq22⟩
  case hq22 => (intro w hSw; unfold USeen at hSw; obtain ⟨hSb, hS1, hS2⟩ := hSw; go_simp; first | done | with_reducible rfl)
  refine hK _ ?_
  clear hK K
  try simp only [Act.put, pu2, pu3, pu4]
  refine wpQuiet_step (fun K hK => ?_)
  refine qwant (by rfl) ?_
  refine ⟨.tuple #[I64 i1, I64 i2, I64 i3], ?hq23, ?rq23⟩
  case hq23 => (intro w hSw; unfold USeen at hSw; obtain ⟨hSb, hS1, hS2⟩ := hSw; go_simp; exact (HF.out _ hSb.out).mono (fun e w1 q => ⟨q.1, HC.out w1 q.2⟩))
  refine hK _ ?_
  clear hK K
  try simp only [Act.put, pu2, pu3, pu4]
  refine wpQuiet_step (fun K hK => ?_)
  refine qwant (by rfl) ?_
  refine ⟨?vq24, ?hq24, ?rq24⟩
  case hq24 => (intro w hSw; unfold USeen at hSw; obtain ⟨hSb, hS1, hS2⟩ := hSw; go_simp; first | done | with_reducible rfl)
  refine hK _ ?_
  clear hK K
  try simp only [Act.put, pu2, pu3, pu4]
  refine wpQuiet_step (fun K hK => ?_)
  refine qwant (by rfl) ?_
  refine ⟨?vq25, ?hq25, ?rq25⟩
  case hq25 => (intro w hSw; unfold USeen at hSw; obtain ⟨hSb, hS1, hS2⟩ := hSw; go_simp; first | done | with_reducible rfl)
  refine hK _ ?_
  clear hK K
  try simp only [Act.put, pu2, pu3, pu4]
  refine wpQuiet_step (fun K hK => ?_)
  refine qwant (by rfl) ?_
  refine ⟨?vq26, ?hq26, ?rq26⟩
  case hq26 => (intro w hSw; unfold USeen at hSw; obtain ⟨hSb, hS1, hS2⟩ := hSw; go_simp; first | done | with_reducible rfl)
  refine hK _ ?_
  clear hK K
  try simp only [Act.put, pu2, pu3, pu4]
  refine wpQuiet_step (fun K hK => ?_)
  refine qwant (by rfl) ?_
  refine ⟨?vq27, ?hq27, ?rq27⟩
  case hq27 => (intro w hSw; unfold USeen at hSw; obtain ⟨hSb, hS1, hS2⟩ := hSw; go_simp; first | done | with_reducible rfl)
  refine hK _ ?_
  clear hK K
  try simp only [Act.put, pu2, pu3, pu4]
  refine wpQuiet_step (fun K hK => ?_)
  refine qwant (by rfl) ?_
  refine ⟨?vq28, ?hq28, ?rq28⟩
  case hq28 => (intro w hSw; unfold USeen at hSw; obtain ⟨hSb, hS1, hS2⟩ := hSw; go_simp; first | done | with_reducible rfl)
  refine hK _ ?_
  clear hK K
  try simp only [Act.put, pu2, pu3, pu4]
  refine wpQuiet_step (fun K hK => ?_)
  refine qwant (by rfl) ?_
  refine ⟨?vq29, ?hq29, ?rq29⟩
  case hq29 => (intro w hSw; unfold USeen at hSw; obtain ⟨hSb, hS1, hS2⟩ := hSw; go_simp; first | done | with_reducible rfl)
  refine hK _ ?_
  clear hK K
  try simp only [Act.put, pu2, pu3, pu4]
  refine wpQuiet_step (fun K hK => ?_)
  refine qwant (by rfl) ?_
  refine ⟨?vq30, ?hq30, ?rq30⟩
  case hq30 => (intro w hSw; unfold USeen at hSw; obtain ⟨hSb, hS1, hS2⟩ := hSw; go_simp; first | done | with_reducible rfl)
  refine hK _ ?_
  clear hK K
  try simp only [Act.put, pu2, pu3, pu4]
  refine wpQuiet_nil ?_
  rintro w9 ⟨hb9, hx9, _⟩
  have hr9 := HR.out w9 hb9.out
  obtain ⟨_, k2, _⟩ := hr9
  have HB9 := Lib.hid hb9.out
  go_wp2
  go_loopw [7, 28] (fun _ jv wr => ∃ k : Nat, k ≤ n ∧ jv = .int .i64 k ∧ Hid (Below w0.heap.size w0 wr) ∧ Hid (res = undR yes c.conn s.pools k)) (fun _ jv _ => n - (intOf jv).toNat)
  case atStart => exact ⟨0, Nat.zero_le _, rfl, HB9, H0'⟩
  case round =>
   obtain ⟨k, hkn, rfl, HB, HI⟩ := hrel
   by_cases hlt : k < n
   · have hq : k < s.pools.length := by rw [← HN.out]; exact hlt
     have hq' : k < pvs.length := by rw [HPL.out]; exact hq
     obtain ⟨pc, _, _⟩ := HCT.out wr HB.out k hq hq'
     have HCTk := Lib.hid (fun w1 hb1 => (HCT.out w1 hb1 k hq hq').2)
     have hat := HI.out.trans (HAT.out k hq)
     have ilt : (k : Int) < (n : Int) := by omega
     have HKN : Hid (k < n) := Lib.hid hlt
     generalize (s.pools[k].leases.any fun y => y.2.1 == c.conn) = bL at HCTk hat
     generalize (s.pools[k].idle.any fun y => y.1 == c.conn) = bI at HCTk hat
     generalize pvs[k] = pv at pc HCTk
     obtain ⟨⟨p0, p1, p2, p3⟩, ⟨i1', i2', i3'⟩, ⟨l1, l2, l3⟩, ⟨d1, d2, d3⟩, ⟨e1, e2, e3⟩, p8, p9, p10⟩ := pv
     obtain ⟨_, c0, c1, c2, c3, c4, c5, c6, c7, c8, c9, c10, _⟩ := pc
     unfold valS at HCTk c4 c5 c6 c7
     dsimp only at HCTk c0 c1 c2 c3 c4 c5 c6 c7 c8 c9 c10
     have hbw := HB.out.alloc HB.out.size (.cells #[I64 p0, I64 p1, I64 p2, I64 p3, .slice i1' i2' i3', .slice l1 l2 l3, .slice d1 d2 d3, .slice e1 e2 e3, .bool p8, I64 p9, I64 p10] 48)
     have HBW := Lib.hid hbw
     obtain ⟨x1, r2, y8⟩ := HR.out _ hbw
     obtain ⟨x1', r2', y8'⟩ := HR.out wr HB.out
     have HNW := Lib.hid (blk_new wr (.cells #[I64 p0, I64 p1, I64 p2, I64 p3, .slice i1' i2' i3', .slice l1 l2 l3, .slice d1 d2 d3, .slice e1 e2 e3, .bool p8, I64 p9, I64 p10] 48))
     clear hbw hlt HI
     cases yes with
     | false =>
      have HRE : Hid (res = undR false c.conn s.pools (k + 1)) := Lib.hid (by rw [hat]; simp)
      clear hat
      go_wp2
      case roundEnd =>
       refine ⟨⟨k + 1, HKN.out, by rw [show (k : Int) + 1 = ((k + 1 : Nat) : Int) by omega], HBW, HRE⟩, ?_⟩
       simp [intOf]
       omega
     | true =>
      have hcl := (HCTk.out _ HBW.out).1
      cases bL with
      | true =>
       obtain rfl : res = true := by rw [hat]; simp
       clear hat H0'
       go_wp2_with fail
       refine hcl.mono ?_
       rintro e w3 ⟨rfl, hb3⟩
       go_wp2
       go_ret
       exact ⟨rfl, HB0.out.trans ((HBW.out.trans (hb3.mono HBW.out.size)).mono HB0.out.size)⟩
      | false =>
       cases bI with
       | true =>
        obtain rfl : res = true := by rw [hat]; simp
        clear hat H0'
        go_wp2_with fail
        refine hcl.mono ?_
        rintro e w3 ⟨rfl, hb3⟩
        have hb4 := HBW.out.trans (hb3.mono HBW.out.size)
        have HB4 := Lib.hid hb4
        have hcl2 := (HCTk.out _ hb4).2
        have y4 := (hb3.cell (p := ⟨wr.heap.size, 4, none⟩) (by simp)).trans (blk_cell HNW.out 4)
        obtain ⟨x3, _, _⟩ := HR.out _ hb4
        clear hb4 hb3
        go_wp2_with fail
        refine hcl2.mono ?_
        rintro e w5 ⟨rfl, hb5⟩
        go_wp2
        go_ret
        exact ⟨rfl, HB0.out.trans ((HB4.out.trans (hb5.mono HB4.out.size)).mono HB0.out.size)⟩
       | false =>
        have HRE : Hid (res = undR true c.conn s.pools (k + 1)) := Lib.hid (by rw [hat]; simp)
        clear hat
        go_wp2_with fail
        refine hcl.mono ?_
        rintro e w3 ⟨rfl, hb3⟩
        have hb4 := HBW.out.trans (hb3.mono HBW.out.size)
        have HB4 := Lib.hid hb4
        have hcl2 := (HCTk.out _ hb4).2
        have y4 := (hb3.cell (p := ⟨wr.heap.size, 4, none⟩) (by simp)).trans (blk_cell HNW.out 4)
        obtain ⟨x3, _, _⟩ := HR.out _ hb4
        clear hb4 hb3
        go_wp2_with fail
        refine hcl2.mono ?_
        rintro e w5 ⟨rfl, hb5⟩
        go_wp2
        case roundEnd =>
         refine ⟨⟨k + 1, HKN.out, by rw [show (k : Int) + 1 = ((k + 1 : Nat) : Int) by omega], Lib.hid (HB4.out.trans (hb5.mono HB4.out.size)), HRE⟩, ?_⟩
         simp [intOf]
         omega
   · have hkn2 : k = n := by omega
     subst hkn2
     obtain rfl : res = false := HI.out.trans (by rw [HN.out]; exact HEN.out)
     clear HI H0'
     go_wp2
     go_ret
     exact ⟨rfl, HB0.out.trans (HB.out.mono HB0.out.size)⟩
end Go.Proofs.Ytaicmiadgnpimaa
namespace Go.Proofs.Ytaicmiadgnpimaa
open Go.RowKit Go.Lib

theorem erase_flat {α : Type} {enc : α → List Value} (l : List α) (k : Nat) : (l.eraseIdx k).flatMap enc = (l.take k).flatMap enc ++ (l.drop (k + 1)).flatMap enc := by
 rw [List.eraseIdx_eq_take_drop_succ, List.flatMap_append]
theorem del_list {cur A D Z : List Value} {a d z : Nat} (hA : A.length = a) (hD : D.length = d) (hZ : Z.length = z) (hc : cur.take a = A) (hl : a + d + z ≤ cur.length) :
 let c1 := cur.take a ++ D ++ cur.drop (a + D.length)
 let c2 := c1.take (a + d) ++ Z ++ c1.drop (a + d + z)
 c1.length = cur.length ∧ c2.length = cur.length ∧ c2.take (a + d) = A ++ D := by
 intro c1 c2
 have h0 : c1.length = cur.length := by
  show (cur.take a ++ D ++ cur.drop (a + D.length)).length = _
  rw [hc]
  simp only [List.length_append, List.length_drop, hA, hD]
  omega
 have h1 : c1.take (a + d) = A ++ D := by
  show (cur.take a ++ D ++ cur.drop (a + D.length)).take (a + d) = _
  have h3 : (A ++ D).length = a + d := by simp only [List.length_append, hA, hD]
  rw [hc, List.take_append_of_le_length (by omega), List.take_of_length_le (by omega)]
 refine ⟨h0, ?_, ?_⟩
 · show (c1.take (a + d) ++ Z ++ c1.drop (a + d + z)).length = _
   simp only [List.length_append, List.length_take, List.length_drop, h0, hZ]
   omega
 · show (c1.take (a + d) ++ Z ++ c1.drop (a + d + z)).take (a + d) = _
   have h3 : (c1.take (a + d)).length = a + d := by rw [List.length_take, h0]; omega
   rw [List.append_assoc, List.take_append_of_le_length (by omega), List.take_take, Nat.min_self, h1]
section
variable {α : Type} {P : Program} {S T : TypeId} {n b : Nat} {z : Value} {enc : α → List Value}
theorem del_runs (E : ElT P S T n b z enc) (hz1 : ∀ v ∈ z.cells, v.oneCell' = true) (w : World) (g cap : Nat) (l : List α) (k j : Nat) (hj : j = k + 1) (hk : k < l.length) (h : OwnL T n enc w 0 (.slice (some ⟨g, 0, none⟩) l.length cap) l) :
 ∃ W1 W2, (∀ ty a c, a = ⟨g, j * n, none⟩ ∨ l.length - j = 0 → (Builtin.append_ #[S, S] ty #[.slice (some ⟨g, 0, none⟩) k cap, .slice (some a) (l.length - j) c]).run P w.drew = .ok (.slice (some ⟨g, 0, none⟩) (k + (l.length - j)) cap) W1) ∧
  (∀ ty c, (Builtin.clear_ #[S] ty #[.slice (some ⟨g, (k + (l.length - j)) * n, none⟩) (l.length - (k + (l.length - j))) c]).run P W1 = .ok (.tuple #[]) W2) ∧
  OwnL T n enc W2 0 (.slice (some ⟨g, 0, none⟩) (k + (l.length - j)) cap) (l.eraseIdx k) ∧ w.grownBy W2 (some g) := by
 obtain ⟨i0, hi, hz0, hi1, hi2⟩ := info_parts E.info
 obtain ⟨cur, hg, hn, hc5, hc6, hc7⟩ : ∃ cur : Array Value, w.heap[g]? = some (.cells cur T (0, 0)) ∧ l.length ≤ cap ∧ cap ≤ maxLen ∧ cur.size = cap * n ∧ cur.toList.take (l.length * n) = l.flatMap enc := by
  rcases h.2 with ⟨e, _⟩ | ⟨g', cap', cur, e, _, e3, e4, e5, e6, e7⟩
  · cases e
  · injection e with e1 e2 e3'
    injection e1 with e1
    injection e1 with e1 _ _
    subst e1 e3'
    exact ⟨cur, e3, e4, e5, e6, e7⟩
 have hcl : cur.toList.length = cap * n := Array.length_toList.trans hc6
 have hA : ((l.take k).flatMap enc).length = k * n := by rw [flat_length E.len, List.length_take, Nat.min_eq_left (by omega)]
 have hD : ((l.drop j).flatMap enc).length = (l.length - j) * n := by rw [flat_length E.len, List.length_drop]
 have hcA : cur.toList.take (k * n) = (l.take k).flatMap enc := by
  rw [← flat_take E.len l k (by omega), ← hc7, List.take_take, Nat.min_eq_left (Nat.mul_le_mul_right _ (by omega))]
 have hm1 : k * n + (l.length - j) * n = (k + (l.length - j)) * n := (Nat.add_mul ..).symm
 have hm2 : (k + (l.length - j)) * n + (l.length - (k + (l.length - j))) * n = l.length * n := by rw [← Nat.add_mul]; congr 1; omega
 have hm3 : l.length * n ≤ cap * n := Nat.mul_le_mul_right _ hn
 have hZ : (Builtin.zeroCells z.cells (l.length - (k + (l.length - j)))).toList.length = (l.length - (k + (l.length - j))) * n := by rw [Array.length_toList, size_zeroCells, E.zc]
 obtain ⟨q0, q1, q2⟩ := del_list (cur := cur.toList) hA hD hZ hcA (by rw [hcl, hm1, hm2]; exact hm3)
 have hgd : w.drew.heap[g]? = some (.cells cur T (0, 0)) := hg
 have h1D : ∀ v ∈ (l.drop j).flatMap enc, v.oneCell' = true := fun v hv => by
  obtain ⟨y, _, hy⟩ := List.mem_flatMap.1 hv
  exact E.one y v hy
 have hDc : ∀ q v, ((l.drop j).flatMap enc)[q]? = some v → w.drew.cell? ((⟨g, j * n, none⟩ : Addr).add q) = some v := fun q v hq => by
  rw [Addr.add_lit, blk_cell hgd, ← Array.getElem?_toList]
  rw [← flat_drop E.len l j (by omega), ← hc7, List.getElem?_drop, List.getElem?_take] at hq
  split at hq
  · exact hq
  · cases hq
 obtain ⟨c1, hc1⟩ : ∃ c1, c1 = cur.toList.take (k * n) ++ (l.drop j).flatMap enc ++ cur.toList.drop (k * n + ((l.drop j).flatMap enc).length) := ⟨_, rfl⟩
 rw [← hc1] at q0 q1 q2
 have hg1 : (w.drew.setRow g c1.toArray).heap[g]? = some (.cells c1.toArray T (0, 0)) := setRow_heap _ g _ _ _ _ hgd
 refine ⟨w.drew.setRow g c1.toArray, _, ?_, fun ty c => run_clear_rowK (P := P) _ S T ty z E.und (fun w => by simp [zeroValue, typeInfo, hi, hz0]) hz1 (by rw [E.zc]; exact E.pos) g ((k + (l.length - j)) * n) _ c c1.toArray T hg1 (by omega) (by rw [E.zc, List.size_toArray, q0, hcl, hm2]; exact hm3), ?_, ?_⟩
 · intro ty a c ha
   have h9 := run_append_room (P := P) w.drew S ty T i0 E.und hi g k cap cur hgd a (l.length - j) c ((l.drop j).flatMap enc) (by rw [hD, hi1]) (fun q v hq => by
    rcases ha with rfl | ha
    · exact hDc q v hq
    · have h0 : (l.drop j).flatMap enc = [] := List.eq_nil_of_length_eq_zero (by rw [hD, ha, Nat.zero_mul])
      rw [h0] at hq
      simp at hq) h1D (by omega) (by rw [hi1, hD, hc6, hm1]; exact Nat.le_trans (by rw [← hm2]; exact Nat.le_add_right _ _) hm3)
   rw [h9, hc1, hi1]
 · have hel : (l.eraseIdx k).length = k + (l.length - j) := by rw [List.length_eraseIdx, if_pos hk]; omega
   refine ⟨by rw [flat_length E.len], .inr ⟨g, cap, _, by rw [hel], Nat.zero_le _, setRow_heap _ g _ _ _ _ hg1, by rw [hel]; omega, hc5, ?_, ?_⟩⟩
   · rw [List.size_toArray, E.zc, hm2, ← hcl, ← q1, hm1, hm2]
   · rw [hel, E.zc, erase_flat, ← hj, ← q2, hm1, hm2]
 · exact grown_trans3 (grown_trans3 (drew_grown w _) (setRow_grown _ g _)) (setRow_grown _ g _)
end
set_option maxHeartbeats 4000000 in
set_option maxRecDepth 100000 in
theorem delDial_any (g cap k : Nat) (l : List Md.Dial) (w : World) (h : OwnL 66 2 encDial w 0 (.slice (some ⟨g, 0, none⟩) l.length cap) l) (hk : k < l.length) (hl : l.length ≤ 1000000) :
 Calls Try.prog 74 #[.slice (some ⟨g, 0, none⟩) l.length cap, I64 k, I64 ((k : Int) + 1)] w fun e w' => e = .returned (.slice (some ⟨g, 0, none⟩) (l.eraseIdx k).length cap) ∧ OwnL 66 2 encDial w' 0 (.slice (some ⟨g, 0, none⟩) (l.eraseIdx k).length cap) (l.eraseIdx k) ∧ w.grownBy w' (some g) := by
 obtain ⟨j, hj⟩ : ∃ j, j = k + 1 := ⟨_, rfl⟩
 rw [show (k : Int) + 1 = ((j : Nat) : Int) by omega]
 have hcap : l.length ≤ cap := by
  rcases h.2 with ⟨e, _⟩ | ⟨g', cap', cur, e, _, e3, e4, e5, e6, e7⟩
  · cases e
  · injection e with e1 e2 e3'
    subst e3'
    exact e4
 obtain ⟨W1, W2, ha, hcl, ho, hgr⟩ := del_runs elDial (fun v hv => elDial.one (0, false) v (Array.mem_def.1 hv)) w g cap l k j hj hk h
 have hel : (l.eraseIdx k).length = k + (l.length - j) := by rw [List.length_eraseIdx, if_pos hk]; omega
 have HFIN := Lib.hid (And.intro ho hgr)
 rw [← hel] at HFIN ha hcl
 have hel2 : (l.eraseIdx k).length + 1 = l.length := by omega
 generalize hN : (l.eraseIdx k).length = m at HFIN ha hcl hel2 ⊢
 have HA := Lib.hid ha
 have HCL := Lib.hid hcl
 obtain ⟨n, hn⟩ : ∃ n, n = l.length := ⟨_, rfl⟩
 rw [← hn] at HA HCL hl hk hcap hel hel2 ⊢
 clear ha hcl h ho hgr hN hn
 have i1 : (k : Int) ≤ (j : Int) := by omega
 have i2 : (j : Int) ≤ (n : Int) := by omega
 have i3 : ¬ (k : Int) = (j : Int) := by omega
 have i4 : (k : Int) ≤ (cap : Int) := by omega
 have i5 : (n : Int) ≤ (cap : Int) := by omega
 have i6 : (m : Int) ≤ (n : Int) := by omega
 have i7 : ((k : Int) == (j : Int)) = false := by rw [beq_eq_false_iff_ne]; exact i3
 have i8 : ¬ cap = m := by omega
 have i9 : ¬ cap = k := by omega
 have mixed : Try.prog.follows Departure.mixedOrders = true := by kernel_rfl
 by_cases hjc : cap = j
 · have hnj : n - j = 0 := by omega
   subst hjc
   clear hj
   rw [hnj] at HA
   go_enter Try.func74, Try.ntmps74
   go_wp2
   go_region_law_o (refine step_append_runI rfl _ _ 45 45 rfl _ _ (by simp [Act.eval, Act.put]) (by simp [Act.eval, Act.put]) (HA.out _ ⟨g, 0, none⟩ 0 (by simp)) ?_)
   have hcl1 := HCL.out 0 (cap - m)
   go_wp2
   go_ret
   exact ⟨rfl, HFIN.out⟩
 · clear hj
   go_enter Try.func74, Try.ntmps74
   go_wp2
   go_region_law_o (refine step_append_runI rfl _ _ 45 45 rfl _ _ (by simp [Act.eval, Act.put]) (by simp [Act.eval, Act.put]) (HA.out _ ⟨g, j * 2, none⟩ (cap - j) (by simp)) ?_)
   have hcl1 := HCL.out 0 (cap - m)
   go_wp2
   go_ret
   exact ⟨rfl, HFIN.out⟩
set_option maxHeartbeats 4000000 in
set_option maxRecDepth 100000 in
theorem delLease_any (g cap k : Nat) (l : List Md.Lease) (w : World) (h : OwnL 69 3 encLease w 0 (.slice (some ⟨g, 0, none⟩) l.length cap) l) (hk : k < l.length) (hl : l.length ≤ 1000000) :
 Calls Try.prog 78 #[.slice (some ⟨g, 0, none⟩) l.length cap, I64 k, I64 ((k : Int) + 1)] w fun e w' => e = .returned (.slice (some ⟨g, 0, none⟩) (l.eraseIdx k).length cap) ∧ OwnL 69 3 encLease w' 0 (.slice (some ⟨g, 0, none⟩) (l.eraseIdx k).length cap) (l.eraseIdx k) ∧ w.grownBy w' (some g) := by
 obtain ⟨j, hj⟩ : ∃ j, j = k + 1 := ⟨_, rfl⟩
 rw [show (k : Int) + 1 = ((j : Nat) : Int) by omega]
 have hcap : l.length ≤ cap := by
  rcases h.2 with ⟨e, _⟩ | ⟨g', cap', cur, e, _, e3, e4, e5, e6, e7⟩
  · cases e
  · injection e with e1 e2 e3'
    subst e3'
    exact e4
 obtain ⟨W1, W2, ha, hcl, ho, hgr⟩ := del_runs elLease (fun v hv => elLease.one (0, 0, 0) v (Array.mem_def.1 hv)) w g cap l k j hj hk h
 have hel : (l.eraseIdx k).length = k + (l.length - j) := by rw [List.length_eraseIdx, if_pos hk]; omega
 have HFIN := Lib.hid (And.intro ho hgr)
 rw [← hel] at HFIN ha hcl
 have hel2 : (l.eraseIdx k).length + 1 = l.length := by omega
 generalize hN : (l.eraseIdx k).length = m at HFIN ha hcl hel2 ⊢
 have HA := Lib.hid ha
 have HCL := Lib.hid hcl
 obtain ⟨n, hn⟩ : ∃ n, n = l.length := ⟨_, rfl⟩
 rw [← hn] at HA HCL hl hk hcap hel hel2 ⊢
 clear ha hcl h ho hgr hN hn
 have i1 : (k : Int) ≤ (j : Int) := by omega
 have i2 : (j : Int) ≤ (n : Int) := by omega
 have i3 : ¬ (k : Int) = (j : Int) := by omega
 have i4 : (k : Int) ≤ (cap : Int) := by omega
 have i5 : (n : Int) ≤ (cap : Int) := by omega
 have i6 : (m : Int) ≤ (n : Int) := by omega
 have i7 : ((k : Int) == (j : Int)) = false := by rw [beq_eq_false_iff_ne]; exact i3
 have i8 : ¬ cap = m := by omega
 have i9 : ¬ cap = k := by omega
 have mixed : Try.prog.follows Departure.mixedOrders = true := by kernel_rfl
 by_cases hjc : cap = j
 · have hnj : n - j = 0 := by omega
   subst hjc
   clear hj
   rw [hnj] at HA
   go_enter Try.func78, Try.ntmps78
   go_wp2
   go_region_law_o (refine step_append_runI rfl _ _ 44 44 rfl _ _ (by simp [Act.eval, Act.put]) (by simp [Act.eval, Act.put]) (HA.out _ ⟨g, 0, none⟩ 0 (by simp)) ?_)
   have hcl1 := HCL.out 0 (cap - m)
   go_wp2
   go_ret
   exact ⟨rfl, HFIN.out⟩
 · clear hj
   go_enter Try.func78, Try.ntmps78
   go_wp2
   go_region_law_o (refine step_append_runI rfl _ _ 44 44 rfl _ _ (by simp [Act.eval, Act.put]) (by simp [Act.eval, Act.put]) (HA.out _ ⟨g, j * 3, none⟩ (cap - j) (by simp)) ?_)
   have hcl1 := HCL.out 0 (cap - m)
   go_wp2
   go_ret
   exact ⟨rfl, HFIN.out⟩
set_option maxHeartbeats 4000000 in
set_option maxRecDepth 100000 in
theorem delWaiter_any (g cap k : Nat) (l : List Md.Waiter) (w : World) (h : OwnL 58 2 encWaiter w 0 (.slice (some ⟨g, 0, none⟩) l.length cap) l) (hk : k < l.length) (hl : l.length ≤ 1000000) :
 Calls Try.prog 79 #[.slice (some ⟨g, 0, none⟩) l.length cap, I64 k, I64 ((k : Int) + 1)] w fun e w' => e = .returned (.slice (some ⟨g, 0, none⟩) (l.eraseIdx k).length cap) ∧ OwnL 58 2 encWaiter w' 0 (.slice (some ⟨g, 0, none⟩) (l.eraseIdx k).length cap) (l.eraseIdx k) ∧ w.grownBy w' (some g) := by
 obtain ⟨j, hj⟩ : ∃ j, j = k + 1 := ⟨_, rfl⟩
 rw [show (k : Int) + 1 = ((j : Nat) : Int) by omega]
 have hcap : l.length ≤ cap := by
  rcases h.2 with ⟨e, _⟩ | ⟨g', cap', cur, e, _, e3, e4, e5, e6, e7⟩
  · cases e
  · injection e with e1 e2 e3'
    subst e3'
    exact e4
 obtain ⟨W1, W2, ha, hcl, ho, hgr⟩ := del_runs elWaiter (fun v hv => elWaiter.one (0, 0) v (Array.mem_def.1 hv)) w g cap l k j hj hk h
 have hel : (l.eraseIdx k).length = k + (l.length - j) := by rw [List.length_eraseIdx, if_pos hk]; omega
 have HFIN := Lib.hid (And.intro ho hgr)
 rw [← hel] at HFIN ha hcl
 have hel2 : (l.eraseIdx k).length + 1 = l.length := by omega
 generalize hN : (l.eraseIdx k).length = m at HFIN ha hcl hel2 ⊢
 have HA := Lib.hid ha
 have HCL := Lib.hid hcl
 obtain ⟨n, hn⟩ : ∃ n, n = l.length := ⟨_, rfl⟩
 rw [← hn] at HA HCL hl hk hcap hel hel2 ⊢
 clear ha hcl h ho hgr hN hn
 have i1 : (k : Int) ≤ (j : Int) := by omega
 have i2 : (j : Int) ≤ (n : Int) := by omega
 have i3 : ¬ (k : Int) = (j : Int) := by omega
 have i4 : (k : Int) ≤ (cap : Int) := by omega
 have i5 : (n : Int) ≤ (cap : Int) := by omega
 have i6 : (m : Int) ≤ (n : Int) := by omega
 have i7 : ((k : Int) == (j : Int)) = false := by rw [beq_eq_false_iff_ne]; exact i3
 have i8 : ¬ cap = m := by omega
 have i9 : ¬ cap = k := by omega
 have mixed : Try.prog.follows Departure.mixedOrders = true := by kernel_rfl
 by_cases hjc : cap = j
 · have hnj : n - j = 0 := by omega
   subst hjc
   clear hj
   rw [hnj] at HA
   go_enter Try.func79, Try.ntmps79
   go_wp2
   go_region_law_o (refine step_append_runI rfl _ _ 46 46 rfl _ _ (by simp [Act.eval, Act.put]) (by simp [Act.eval, Act.put]) (HA.out _ ⟨g, 0, none⟩ 0 (by simp)) ?_)
   have hcl1 := HCL.out 0 (cap - m)
   go_wp2
   go_ret
   exact ⟨rfl, HFIN.out⟩
 · clear hj
   go_enter Try.func79, Try.ntmps79
   go_wp2
   go_region_law_o (refine step_append_runI rfl _ _ 46 46 rfl _ _ (by simp [Act.eval, Act.put]) (by simp [Act.eval, Act.put]) (HA.out _ ⟨g, j * 2, none⟩ (cap - j) (by simp)) ?_)
   have hcl1 := HCL.out 0 (cap - m)
   go_wp2
   go_ret
   exact ⟨rfl, HFIN.out⟩
end Go.Proofs.Ytaicmiadgnpimaa
