/-
  Walks: words.fields, its function literal, words.Split.
-/
import Derived.Test.YtffkohdnhaebjaaGreatDoorW20
import Derived.Test.YtffkohdnhaebjaaGreatDoorW14
namespace Go.Proofs.YtffkohdnhaebjaaGreatDoor
open Go.RowKit Go.Shelf
attribute [local go_sem] Oper.semAt_some

set_option maxRecDepth 100000 in
set_option maxHeartbeats 1000000 in
theorem fields1_in (n : Nat) (hn : 1 ≤ n) (n₀ yl Bn : Nat) (h9 : 9 ≤ n₀) (line : List UInt8) (hline : line.length ≤ 8192) (J Jx : List (Wd.Fld × Bool) → World → Prop) (W1 : World) (hE : Env W1)
    (hnf : n₀ ≤ W1.heap.size) (hcl : Closed W1.heap.size J)
    (hY : ∀ pre x W, J pre W → pre.length < (Wd.prod line).length → YieldAt Fence.wide (n - 1) Tryz.prog yl (encF x) W fun e W' =>
      (e = .returned (.bool true) ∧ J (pre ++ [x]) W' ∧ KpF n₀ W1.heap.size W W') ∨ (e = .returned (.bool false) ∧ Jx (pre ++ [x]) W'))
    (h0 : J [] W1) (hc : W1.cell? ⟨Bn, 0, none⟩ = some (S8 line)) :
    CallsIn Fence.wide n Tryz.prog 61 #[.func (.yield yl) #[] #[], .pointer (some ⟨Bn, 0, none⟩)] W1 (QF J Jx line) := by
  refine callsIn_of_wp Tryz.func61 rfl trivial ?_ rfl
  simp only [Tryz.ntmps61, List.size_toArray, List.length_cons, List.length_nil, Nat.reduceAdd, Nat.reduceSub, Array.replicate_succ, Array.replicate_zero, List.push_toArray, List.append_toArray, List.nil_append, List.cons_append]
  refine wpIn_scope_jumps (c := codeF) (JF n₀ W1.heap.size yl Bn line J W1) muF rfl ?first ?pass
  case pass =>
    intro l rest a w hf hj
    obtain ⟨X0, hX0⟩ : ∃ X, findLabel codeF 0 = some (Code.skip.seq X) := ⟨_, rfl⟩
    obtain ⟨X1, hX1⟩ : ∃ X, findLabel codeF 1 = some (Code.skip.seq X) := ⟨_, rfl⟩
    have hl : l = 1 ∨ l = 0 := by
      obtain ⟨u2, u5, u6, u7, u8, u9, u10, u11, u12, u13, u14, u15, u16, u17, u18, u19, u20, u21, u22, u23, u24, u25, u26, u27, u28, u29, u30, u31, u32, u33, u34, u35, u36, u37, u38, u39, u40, u41, u42, u43, u44, u45, u46, u47, u48, u49, u50, u51, u52, u53, u54, u55, u56, s, x, q, pre, _, _, _, _, _, _, h⟩ := hj
      rcases h with h | h
      · exact .inl h
      · exact .inr h.1
    rcases hl with rfl | rfl
    · obtain rfl : rest = Code.skip.seq X1 := Option.some.inj (hf.symm.trans hX1)
      exact wpIn_seq (wpIn_skip (headF n hn n₀ W1.heap.size yl Bn h9 line hline J Jx W1 hE hcl hnf hY X1 hX1 a w hj))
    · obtain rfl : rest = Code.skip.seq X0 := Option.some.inj (hf.symm.trans hX0)
      exact wpIn_seq (wpIn_skip (tailF n hn n₀ W1.heap.size yl Bn line hline J Jx W1 hY X0 hX0 a w hj))
  case first =>
    simp only [codeF, Tryz.f61]
    gi_wp2
    refine wpIn_label ?_
    gi_step
    gi_step
    refine wpIn_mono (headF n hn n₀ W1.heap.size yl Bn h9 line hline J Jx W1 hE hcl hnf hY _ rfl _ _ ?_) (fun e a w h => jumps_mono (fun l a w hj => hj.1) e a w h)
    exact ⟨_, _, _, _, _, _, _, _, _, _, _, _, _, _, _, _, _, _, _, _, _, _, _, _, _, _, _, _, _, _, _, _, _, _, _, _, _, _, _, _, _, _, _, _, _, _, _, _, _, _, _, _, _, ⟨line.toArray⟩, [], false, [], rfl, by simp, hcl _ _ _ h0 (World.grownBy_alloc _ _ _), blk_new _ _, (Below.refl _ _).alloc hnf _, by rw [size_mk]; exact Nat.le_refl _, .inl rfl⟩
end Go.Proofs.YtffkohdnhaebjaaGreatDoor
