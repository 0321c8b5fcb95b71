/-
  Walks for layer 26 (model): how its data lie; the small functions.
-/
import Derived.Test.YtaicmiadgnpimaaProg
import Derived.Test.YtaicmiadgnpimaaMgo
import Derived.Test.YtaicmiadgnpimaaGen
import Derived.Below
import Derived.WalkKit
import Derived.WalkSmall
import Derived.IntWalk
import Derived.BigQuiet
namespace Go.Proofs.Ytaicmiadgnpimaa
open Go.RowKit

abbrev I64 (n : Int) : Value := .int .i64 n
def encLim (l : Md.Lim) : List Value := [I64 l.max, I64 l.queue, I64 l.idle, I64 l.age]
def encConn (c : Md.Conn) : List Value := [I64 c.1, I64 c.2.1, I64 c.2.2]
def encLease (c : Md.Lease) : List Value := [I64 c.1, I64 c.2.1, I64 c.2.2]
def encDial (c : Md.Dial) : List Value := [I64 c.1, .bool c.2]
def encWaiter (c : Md.Waiter) : List Value := [I64 c.1, I64 c.2]
def encEff (c : Md.Effect) : List Value := [I64 c.1, I64 c.2.1, I64 c.2.2.1, I64 c.2.2.2]
/-- The eleven cells of a backend. -/
def PoolAt (w : World) (cs : List Value) (p : Md.Pool) : Prop := ∃ vI vL vD vW, cs = encLim p.lim ++ [vI, vL, vD, vW, .bool p.up, I64 p.breaker, I64 p.probe] ∧
  ReadsL 3 encConn w vI p.idle ∧ ReadsL 3 encLease w vL p.leases ∧ ReadsL 2 encDial w vD p.dials ∧ ReadsL 2 encWaiter w vW p.waiters
theorem PoolAt.below {w w' : World} {cs : List Value} {p : Md.Pool} (h : PoolAt w cs p) (hb : Below w.heap.size w w') : PoolAt w' cs p := by
  obtain ⟨vI, vL, vD, vW, h0, h1, h2, h3, h4⟩ := h
  exact ⟨vI, vL, vD, vW, h0, h1.below hb, h2.below hb, h3.below hb, h4.below hb⟩
/-- A slice of backends. -/
def PoolsAt (w : World) (v : Value) (ps : List Md.Pool) : Prop := (∃ a cap, v = .slice a 0 cap ∧ ps = []) ∨ ∃ b o cap, v = .slice (some ⟨b, o, none⟩) ps.length cap ∧ b < w.heap.size ∧
  ∀ j (hj : j < ps.length), ∃ cs, PoolAt w cs ps[j] ∧ ∀ (i : Nat) (u : Value), cs[i]? = some u → w.cell? ⟨b, o + j * 11 + i, none⟩ = some u
theorem PoolsAt.below {w w' : World} {v : Value} {ps : List Md.Pool} (h : PoolsAt w v ps) (hb : Below w.heap.size w w') : PoolsAt w' v ps := by
  rcases h with h | ⟨b, o, cap, hv, hlt, hc⟩
  · exact .inl h
  · refine .inr ⟨b, o, cap, hv, Nat.lt_of_lt_of_le hlt hb.size, fun j hj => ?_⟩
    obtain ⟨cs, h1, h2⟩ := hc j hj
    exact ⟨cs, h1.below hb, fun i u hu => (hb.cell (p := ⟨b, _, none⟩) hlt).trans (h2 i u hu)⟩
theorem PoolsAt.len {w : World} {v : Value} {ps : List Md.Pool} (h : PoolsAt w v ps) : ∃ a cap, v = .slice a ps.length cap := by
  rcases h with ⟨a, cap, hv, rfl⟩ | ⟨b, o, cap, hv, _⟩
  · exact ⟨a, cap, hv⟩
  · exact ⟨_, cap, hv⟩
/-- A state. -/
def StateAt (w : World) (v : Value) (s : Md.State) : Prop := ∃ vp, v = .agg #[I64 s.now, .bool s.shut, vp] ∧ PoolsAt w vp s.pools
theorem StateAt.below {w w' : World} {v : Value} {s : Md.State} (h : StateAt w v s) (hb : Below w.heap.size w w') : StateAt w' v s := by
  obtain ⟨vp, h1, h2⟩ := h
  exact ⟨vp, h1, h2.below hb⟩
def valLim (l : Md.Lim) : Value := .agg #[I64 l.max, I64 l.queue, I64 l.idle, I64 l.age]
def valConn (c : Md.Conn) : Value := .agg #[I64 c.1, I64 c.2.1, I64 c.2.2]

theorem ret_bool {a b : Bool} (h : a = b) : Ending.returned (.bool a) = .returned (.bool b) := by rw [h]
theorem outside_any (n lo hi : Int) (w : World) : Calls Try.prog 30 #[I64 n, I64 lo, I64 hi] w fun e w' => e = .returned (.bool (decide (n < lo) || decide (hi < n))) ∧ w' = w := by
  by_cases h1 : n < lo
  · go_enter Try.func30, Try.ntmps30
    go_wp2
    go_ret
    exact ⟨ret_bool (by simp [h1]), rfl⟩
  · by_cases h2 : hi < n
    all_goals
      go_enter Try.func30, Try.ntmps30
      go_wp2
      go_ret
      exact ⟨ret_bool (by first | rfl | simp_all), rfl⟩
theorem limOk_out (mx qu id ag : Int) : (!Md.limOk ⟨mx, qu, id, ag⟩) = ((decide (mx < 1) || decide (64 < mx)) || (decide (qu < 0) || decide (64 < qu)) || (decide (id < 1) || decide (1000000000000 < id)) || (decide (ag < 1) || decide (1000000000000 < ag))) := by
  rw [Bool.eq_iff_iff]
  simp only [Md.limOk, Bool.not_eq_true', Bool.and_eq_false_iff, Bool.or_eq_true, decide_eq_true_eq, decide_eq_false_iff_not]
  omega
set_option maxRecDepth 100000 in
theorem wrong_any (l : Md.Lim) (w : World) : Calls Try.prog 29 #[valLim l] w fun e w' => e = .returned (.bool (!Md.limOk l)) ∧ Below w.heap.size w w' := by
  obtain ⟨mx, qu, id, ag⟩ := l
  have hb0 : Below w.heap.size w (w.alloc (.cells #[I64 mx, I64 qu, I64 id, I64 ag] 42)) := (Below.refl _ _).alloc (Nat.le_refl _) _
  have HL := Lib.hid (limOk_out mx qu id ag)
  unfold valLim
  dsimp only
  go_enter Try.func29, Try.ntmps29
  go_wp2_with fail
  refine (outside_any _ _ _ _).mono ?_; rintro e w' ⟨rfl, rfl⟩
  generalize (decide (mx < 1) || decide (64 < mx)) = q1 at HL ⊢
  cases q1 with
  | true =>
    go_wp2
    go_ret
    exact ⟨ret_bool (by rw [HL.out]; rfl), hb0⟩
  | false =>
  go_wp2_with fail
  refine (outside_any _ _ _ _).mono ?_; rintro e w' ⟨rfl, rfl⟩
  generalize (decide (qu < 0) || decide (64 < qu)) = q2 at HL ⊢
  cases q2 with
  | true =>
    go_wp2
    go_ret
    exact ⟨ret_bool (by rw [HL.out]; rfl), hb0⟩
  | false =>
  go_wp2_with fail
  refine (outside_any _ _ _ _).mono ?_; rintro e w' ⟨rfl, rfl⟩
  generalize (decide (id < 1) || decide (1000000000000 < id)) = q3 at HL ⊢
  cases q3 with
  | true =>
    go_wp2
    go_ret
    exact ⟨ret_bool (by rw [HL.out]; rfl), hb0⟩
  | false =>
  go_wp2_with fail
  refine (outside_any _ _ _ _).mono ?_; rintro e w' ⟨rfl, rfl⟩
  generalize (decide (ag < 1) || decide (1000000000000 < ag)) = q4 at HL ⊢
  go_wp2
  go_ret
  exact ⟨ret_bool (by rw [HL.out]; cases q4 <;> rfl), hb0⟩
def valPool (p : Md.Pool) (vI vL vD vW : Value) : Value := .agg #[I64 p.lim.max, I64 p.lim.queue, I64 p.lim.idle, I64 p.lim.age, vI, vL, vD, vW, .bool p.up, I64 p.breaker, I64 p.probe]
set_option maxRecDepth 100000 in
/-- The test of Check: limits and breaker. -/
theorem bad_any (p : Md.Pool) (vI vL vD vW : Value) (w : World) : Calls Try.prog 28 #[valPool p vI vL vD vW] w fun e w' => e = .returned (.bool (!Md.rangeOk p)) ∧ Below w.heap.size w w' := by
  obtain ⟨⟨mx, qu, id, ag⟩, idle, leases, dials, waiters, up, br, pr⟩ := p
  have hb0 : Below w.heap.size w (w.alloc (.cells #[I64 mx, I64 qu, I64 id, I64 ag, vI, vL, vD, vW, .bool up, I64 br, I64 pr] 48)) := (Below.refl _ _).alloc (Nat.le_refl _) _
  have HL : Hid ((!Md.rangeOk ⟨⟨mx, qu, id, ag⟩, idle, leases, dials, waiters, up, br, pr⟩) = ((!Md.limOk ⟨mx, qu, id, ag⟩) || (decide (br < 0) || decide (2 < br)))) := by
    show _ = _
    unfold Md.rangeOk
    cases Md.limOk ⟨mx, qu, id, ag⟩ with
    | false => simp
    | true =>
      rw [Bool.eq_iff_iff]
      simp only [Bool.true_and, Bool.not_true, Bool.false_or, Bool.not_eq_true', Bool.and_eq_false_iff, Bool.or_eq_true, decide_eq_true_eq, decide_eq_false_iff_not]
      omega
  have HW := Lib.hid fun w => wrong_any ⟨mx, qu, id, ag⟩ w
  unfold valLim at HW
  dsimp only at HW
  unfold valPool
  dsimp only
  go_enter Try.func28, Try.ntmps28
  go_wp2_with fail
  refine (HW.out _).mono ?_
  rintro e w1 ⟨rfl, hx⟩
  have hb1 := hb0.trans (hx.mono hb0.size)
  have c9 : w1.cell? ⟨w.heap.size, 9, none⟩ = some (I64 br) := (hx.cell (p := ⟨w.heap.size, 9, none⟩) (by simp)).trans (by rw [World.cell?_alloc_at _ _ _ _ rfl]; rfl)
  clear hx hb0 HW
  generalize (!Md.limOk ⟨mx, qu, id, ag⟩) = q1 at HL ⊢
  cases q1 with
  | true =>
    go_wp2
    go_ret
    exact ⟨ret_bool (by rw [HL.out]; rfl), hb1⟩
  | false =>
  go_wp2_with fail
  refine (outside_any _ _ _ _).mono ?_; rintro e w' ⟨rfl, rfl⟩
  generalize (decide (br < 0) || decide (2 < br)) = q2 at HL ⊢
  go_wp2
  go_ret
  exact ⟨ret_bool (by rw [HL.out]; cases q2 <;> rfl), hb1⟩
theorem old_eq (l : Md.Lim) (c : Md.Conn) (now : Int) : (!Md.young l c now) = (decide (c.2.2 + l.idle ≤ now) || decide (c.2.1 + l.age ≤ now)) := by
  rw [Bool.eq_iff_iff]
  simp only [Md.young, Bool.not_eq_true', Bool.and_eq_false_iff, Bool.or_eq_true, decide_eq_true_eq, decide_eq_false_iff_not]
  omega
set_option maxRecDepth 100000 in
/-- old: times of a connection and limits that do not pass the range of int64. -/
theorem old_any (l : Md.Lim) (c : Md.Conn) (now : Int) (w : World) (h1 : -4611686018427387904 ≤ c.2.2 ∧ c.2.2 ≤ 4611686018427387903) (h2 : -4611686018427387904 ≤ c.2.1 ∧ c.2.1 ≤ 4611686018427387903)
    (h3 : -4611686018427387904 ≤ l.idle ∧ l.idle ≤ 4611686018427387903) (h4 : -4611686018427387904 ≤ l.age ∧ l.age ≤ 4611686018427387903) :
    Calls Try.prog 42 #[valLim l, valConn c, I64 now] w fun e w' => e = .returned (.bool (!Md.young l c now)) ∧ Below w.heap.size w w' := by
  have HL := Lib.hid (old_eq l c now)
  obtain ⟨mx, qu, id, ag⟩ := l
  obtain ⟨cn, bo, si⟩ := c
  dsimp only at HL h1 h2 h3 h4
  have hb0 : Below w.heap.size w ((w.alloc (.cells #[I64 mx, I64 qu, I64 id, I64 ag] 42)).alloc (.cells #[I64 cn, I64 bo, I64 si] 100)) := ((Below.refl _ _).alloc (Nat.le_refl _) _).alloc (by simp) _
  unfold valLim valConn
  dsimp only
  by_cases hs : si + id ≤ now
  · have HS := Lib.hid (show (decide (si + id ≤ now) || decide (bo + ag ≤ now)) = true from by simp [hs])
    go_enter Try.func42, Try.ntmps42
    go_wp2
    go_ret
    exact ⟨ret_bool (by rw [HL.out, HS.out]), hb0⟩
  · by_cases hs2 : bo + ag ≤ now
    · have HS := Lib.hid (show (decide (si + id ≤ now) || decide (bo + ag ≤ now)) = true from by simp [hs2])
      go_enter Try.func42, Try.ntmps42
      go_wp2
      go_ret
      exact ⟨ret_bool (by rw [HL.out, HS.out]), hb0⟩
    · have HS := Lib.hid (show (decide (si + id ≤ now) || decide (bo + ag ≤ now)) = false from by simp [hs, hs2])
      go_enter Try.func42, Try.ntmps42
      go_wp2
      go_ret
      exact ⟨ret_bool (by rw [HL.out, HS.out]), hb0⟩
end Go.Proofs.Ytaicmiadgnpimaa
