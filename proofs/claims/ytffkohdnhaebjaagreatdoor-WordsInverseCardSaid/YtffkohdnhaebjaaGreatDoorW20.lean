/-
  Walks: the iterator over the fields of a line (words.fields and its function literal).
-/
import Derived.RangeFuncNested
import Derived.RangeFuncBound
import Derived.RangeFuncCalls
import Derived.RangeFuncLeaves
import Derived.Shelf.Abstract
import Derived.Shelf.RegionOpen
import Derived.WalkKit
import Derived.OwnWalkIn
import Derived.TacticsInMore
import Derived.LoopNIn
import Derived.LoopIn
import Derived.Test.YtffkohdnhaebjaaGreatDoorScope
import Derived.Test.YtffkohdnhaebjaaGreatDoorRange
import Derived.Test.YtffkohdnhaebjaaGreatDoorPlain
import Derived.Test.YtffkohdnhaebjaaGreatDoorW12
import Derived.Test.YtffkohdnhaebjaaGreatDoorW17
import Derived.Test.YtffkohdnhaebjaaGreatDoorOwnF
import Derived.Test.YtffkohdnhaebjaaGreatDoorGen
import Derived.Test.YtffkohdnhaebjaaGreatDoorW2
namespace Go.Proofs.YtffkohdnhaebjaaGreatDoor
open Go.RowKit Go.Shelf
attribute [local go_sem] Oper.semAt_some

theorem Env.below9 {n₀ : Nat} {w w' : World} (h : Env w) (hb : Below n₀ w w') (h9 : 9 ≤ n₀) : Env w' := by
  have hc : ∀ b o, b < 9 → w'.cell? ⟨b, o, none⟩ = w.cell? ⟨b, o, none⟩ := fun b o hlt => hb.cell (p := ⟨b, o, none⟩) (Nat.lt_of_lt_of_le hlt h9)
  refine ⟨Nat.le_trans h.big hb.size, fun j hj => (hc 0 j (by omega)).trans (h.esc j hj), ?_, ?_, ?_, ?_⟩
  · obtain ⟨ev, h1, h2⟩ := h.syn; exact ⟨ev, (hc 2 0 (by omega)).trans h1, h2⟩
  · obtain ⟨ev, h1, h2⟩ := h.rng; exact ⟨ev, (hc 3 0 (by omega)).trans h1, h2⟩
  · exact var?_below hb g3 (by omega) h.tab
  · obtain ⟨m, h1⟩ := h.mx; exact ⟨m, (hc 1 0 (by omega)).trans h1⟩

/-- What a round keeps: what lay below n₀, and the iterator's own block. -/
def KpF (n₀ fb : Nat) (W W' : World) : Prop := Below n₀ W W' ∧ (fb < W.heap.size → W'.heap[fb]? = W.heap[fb]?)
theorem KpF.t {n₀ fb : Nat} {A B C : World} (h : KpF n₀ fb A B) (k : KpF n₀ fb B C) : KpF n₀ fb A C :=
  ⟨h.1.trans k.1, fun hl => (k.2 (Nat.lt_of_lt_of_le hl h.1.size)).trans (h.2 hl)⟩
def encF (p : Wd.Fld × Bool) : Array Value := #[.agg #[S8 p.1.1, .bool p.1.2], .bool p.2]

theorem grown_below {W W' : World} (hb : Below W.heap.size W W') (row : Option Nat) : W.grownBy W' row := ⟨hb.os, hb.tape, hb.output, hb.size, fun k hk _ => hb.block k hk⟩
theorem grown_set {W W' : World} {fb : Nat} (h : W.grownBy W' (some fb)) (i : Nat) (v : Value) : W.grownBy (W'.setCell ⟨fb, i, none⟩ v) (some fb) :=
  ⟨h.os, h.tape, h.output, by rw [World.size_setCell]; exact h.size, fun k hk hne => (Below.heap_setCell W' ⟨fb, i, none⟩ v k (fun e => hne (by rw [e]))).trans (h.block k hk hne)⟩
theorem grown_dn {W W' : World} {row : Option Nat} (h : W.grownBy W' row) (n : Nat) : W.grownBy (W'.drewN n) row := ⟨h.os, h.tape, h.output, h.size, h.block⟩
theorem below_dn' {B : Nat} {a w : World} (h : Below B a w) (n : Nat) : Below B a (w.drewN n) := ⟨h.os, h.tape, h.output, h.size, h.block⟩
/-- What holds at the labels of the iterator: 1: a field begins; 0: one has been read. -/
def JF (n₀ fb yl Bn : Nat) (line : List UInt8) (J : List (Wd.Fld × Bool) → World → Prop) (Wz : World) (i : Nat) (a : Act) (W : World) : Prop :=
  ∃ (u2 u5 u6 u7 u8 u9 u10 u11 u12 u13 u14 u15 u16 u17 u18 u19 u20 u21 u22 u23 u24 u25 u26 u27 u28 u29 u30 u31 u32 u33 u34 u35 u36 u37 u38 u39 u40 u41 u42 u43 u44 u45 u46 u47 u48 u49 u50 u51 u52 u53 u54 u55 u56 : Value) (s : ByteArray) (x : List UInt8) (q : Bool) (pre : List (Wd.Fld × Bool)),
    a = { tmps := #[.func (.yield yl) #[] #[], .pointer (some ⟨Bn, 0, none⟩), u2, .string s, .pointer (some ⟨fb, 0, none⟩), u5, u6, u7, u8, u9, u10, u11, u12, u13, u14, u15, u16, u17, u18, u19, u20, u21, u22, u23, u24, u25, u26, u27, u28, u29, u30, u31, u32, u33, u34, u35, u36, u37, u38, u39, u40, u41, u42, u43, u44, u45, u46, u47, u48, u49, u50, u51, u52, u53, u54, u55, u56], defers := [] } ∧
    Wd.prod line = pre ++ Wd.prod s.data.toList ∧ J pre W ∧ W.heap[fb]? = some (.cells #[S8 x, .bool q] 47 (0, 0)) ∧ Below n₀ Wz W ∧ s.size ≤ line.length ∧
    (i = 1 ∨ (i = 0 ∧ ∃ n : Nat, u5 = .int .i64 n ∧ n ≤ s.size ∧ Wd.field1 s.data.toList = some ((x, q), s.data.toList.drop n)))
def muF (i : Nat) (a : Act) (_ : World) : Nat := (match a.tmps.getD 3 undef with | .string s => 2 * s.size | _ => 0) + i

noncomputable def codeF : Code := match (Tryz.f61).body with | some (.scope c) => c | _ => .skip
def QF (J Jx : List (Wd.Fld × Bool) → World → Prop) (line : List UInt8) (e : Ending) (W' : World) : Prop := (∃ v, e = .returned v) ∧ ((∃ ys, ys = Wd.prod line ∧ J ys W') ∨ (∃ pre, pre <+: Wd.prod line ∧ Jx pre W'))

set_option maxRecDepth 100000 in
set_option maxHeartbeats 1000000 in
theorem tailF (n : Nat) (hn : 1 ≤ n) (n₀ fb yl Bn : Nat) (line : List UInt8) (hline : line.length ≤ 8192) (J Jx : List (Wd.Fld × Bool) → World → Prop) (Wz : World)
    (hY : ∀ pre x W, J pre W → pre.length < (Wd.prod line).length → YieldAt Fence.wide (n - 1) Tryz.prog yl (encF x) W fun e W' =>
      (e = .returned (.bool true) ∧ J (pre ++ [x]) W' ∧ KpF n₀ fb W W') ∨ (e = .returned (.bool false) ∧ Jx (pre ++ [x]) W'))
    (rest : Code) (hrest : findLabel codeF 0 = some (Code.skip.seq rest)) (a : Act) (W : World) (h : JF n₀ fb yl Bn line J Wz 0 a W) :
    rest.wpIn Fence.wide n Tryz.prog (jumpsTo codeF (fun l' a' w' => JF n₀ fb yl Bn line J Wz l' a' w' ∧ muF l' a' w' < muF 0 a W) (bodyPost Tryz.prog Tryz.f61 (QF J Jx line))) a W := by
  obtain ⟨u2, u5, u6, u7, u8, u9, u10, u11, u12, u13, u14, u15, u16, u17, u18, u19, u20, u21, u22, u23, u24, u25, u26, u27, u28, u29, u30, u31, u32, u33, u34, u35, u36, u37, u38, u39, u40, u41, u42, u43, u44, u45, u46, u47, u48, u49, u50, u51, u52, u53, u54, u55, u56, s, x, q, pre, rfl, hp, hJ, hfb, hbz, hrl, h⟩ := h
  rcases h with h | ⟨_, k, rfl, hk, hf1⟩
  · simp at h
  simp only [codeF, Tryz.f61, findLabel, Nat.reduceBEq, beq_self_eq_true, Bool.false_eq_true, ↓reduceIte, Option.some.injEq, Code.seq.injEq, true_and] at hrest
  subst hrest
  have c0 : W.cell? ⟨fb, 0, none⟩ = some (S8 x) := blk_cell hfb 0
  have c1 : W.cell? ⟨fb, 1, none⟩ = some (.bool q) := blk_cell hfb 1
  have f0 := blk_free hfb 0
  have f1 := blk_free hfb 1
  have hrl2 : s.size ≤ 8192 := by omega
  have hxd : (s.extract k s.size).data.toList = s.data.toList.drop k := ext_drop s k
  cases hd : s.data.toList.drop k with
  | nil =>
    have he1 : (s.extract k s.size).toList.isEmpty = true := by rw [Lib.toList_data, hxd, hd]; rfl
    have he2 : (s.extract k s.size).toList = [] := by rw [Lib.toList_data, hxd, hd]
    rw [hd] at hf1
    have HP := Lib.hid (Wd.prod_last hf1)
    rw [HP.out] at hp
    have hlen : pre.length < (Wd.prod line).length := by rw [hp]; simp
    obtain ⟨fn, tmps, assign, body, hy, hR⟩ := hY pre ((x, q), true) W hJ hlen
    dsimp only [encF] at hy
    have HH := Lib.hid hp
    have HF := Lib.hid hf1
    clear hp hf1 hxd hd hlen
    gi_wp2
    refine hR.mono ?_
    rintro e W' (⟨rfl, hJ', hk'⟩ | ⟨rfl, hJx'⟩)
    · gi_wp2
      refine bodyPost_ret (results_none rfl _ _ _) rfl ?_
      exact ⟨⟨_, rfl⟩, .inl ⟨_, HH.out.symm, hJ'⟩⟩
    · gi_wp2
      refine bodyPost_ret (results_none rfl _ _ _) rfl ?_
      exact ⟨⟨_, rfl⟩, .inr ⟨_, by rw [HH.out]; exact List.prefix_refl _, hJx'⟩⟩
  | cons c t =>
    have hd0 := hd
    have hks : k < s.size := by
      rcases Nat.lt_or_ge k s.size with h | h
      · exact h
      · rw [List.drop_eq_nil_of_le (by rw [← size_list]; exact h)] at hd; cases hd
    have he1 : (s.extract k s.size).toList.isEmpty = false := by rw [Lib.toList_data, hxd, hd]; rfl
    have he2 : ¬ (s.extract k s.size).toList = [] := by rw [Lib.toList_data, hxd, hd]; simp
    have hgc : ∀ h, (s.extract k s.size)[0]'h = c := by
      intro h
      have e : (s.extract k s.size).data.toList[0]? = some c := by rw [hxd, hd]; rfl
      rw [List.getElem?_eq_getElem (by rw [← size_list]; exact h)] at e
      exact Option.some.inj e
    rw [hd] at hf1
    by_cases hc : c = 32
    · subst hc
      have HP := Lib.hid (Wd.prod_next hf1)
      rw [HP.out] at hp
      have hlen : pre.length < (Wd.prod line).length := by rw [hp]; simp
      obtain ⟨fn, tmps, assign, body, hy, hR⟩ := hY pre ((x, q), true) W hJ hlen
      dsimp only [encF] at hy
      have hne : ∀ h, ((((s.extract k s.size)[0]'h).toNat : Int) != 32) = false := by
        intro h; rw [hgc h]; rfl
      have HH := Lib.hid hp
      have HD := Lib.hid hd0
      have HX := Lib.hid hxd
      clear hp hf1 hxd hd hlen hd0 hgc
      gi_wp2
      refine hR.mono ?_
      rintro e W' (⟨rfl, hJ', hk'⟩ | ⟨rfl, hJx'⟩)
      · gi_wp2
        have hsz : (s.extract k s.size).size = s.size - k := by simp
        have hs2 : ((s.extract k s.size).extract 1 (s.size - k)).data.toList = t := by
          have h := ext_drop (s.extract k s.size) 1
          rw [HX.out, HD.out, hsz] at h
          exact h
        have hsz2 : ((s.extract k s.size).extract 1 (s.size - k)).size = s.size - k - 1 := by simp
        refine wpIn_goto (show (findLabel codeF 1).isSome = true ∧ JF n₀ fb yl Bn line J Wz 1 _ _ ∧ muF 1 _ _ < muF 0 _ _ from ⟨by kernel_rfl, ?_, ?_⟩)
        · exact ⟨_, _, _, _, _, _, _, _, _, _, _, _, _, _, _, _, _, _, _, _, _, _, _, _, _, _, _, _, _, _, _, _, _, _, _, _, _, _, _, _, _, _, _, _, _, _, _, _, _, _, _, _, _, _, x, q, _, rfl, by rw [HH.out, hs2]; simp, hJ', (hk'.2 (lt_of_block hfb)).trans hfb, hbz.trans hk'.1, by rw [hsz2]; omega, .inl rfl⟩
        · show 2 * ((s.extract k s.size).extract 1 (s.size - k)).size + 1 < 2 * s.size + 0
          rw [hsz2]; omega
      · gi_wp2
        refine bodyPost_ret (results_none rfl _ _ _) rfl ?_
        exact ⟨⟨_, rfl⟩, .inr ⟨_, by rw [HH.out]; simp, hJx'⟩⟩
    · have HP := Lib.hid (Wd.prod_bad hf1 hc)
      rw [HP.out] at hp
      have hlen : pre.length < (Wd.prod line).length := by rw [hp]; simp
      obtain ⟨fn, tmps, assign, body, hy, hR⟩ := hY pre Wd.bad W hJ hlen
      dsimp only [encF, Wd.bad] at hy
      have hne : ∀ h, ((((s.extract k s.size)[0]'h).toNat : Int) != 32) = true := by
        intro h; rw [hgc h, bne_iff_ne]; intro e; apply hc; rw [← UInt8.toNat_inj]; simp; omega
      have HH := Lib.hid hp
      clear hp hf1 hxd hd hlen hd0 hgc
      gi_wp2
      refine hR.mono ?_
      rintro e W' (⟨rfl, hJ', hk'⟩ | ⟨rfl, hJx'⟩)
      · gi_wp2
        refine bodyPost_ret (results_none rfl _ _ _) rfl ?_
        exact ⟨⟨_, rfl⟩, .inl ⟨_, HH.out.symm, hJ'⟩⟩
      · gi_wp2
        refine bodyPost_ret (results_none rfl _ _ _) rfl ?_
        exact ⟨⟨_, rfl⟩, .inr ⟨_, by rw [HH.out]; exact List.prefix_refl _, hJx'⟩⟩

theorem jumps_mono {c : Code} {J J' : Nat → Act → World → Prop} {Q : Exit → Act → World → Prop} (h : ∀ l a w, J l a w → J' l a w) : ∀ e a w, jumpsTo c J Q e a w → jumpsTo c J' Q e a w := by
  intro e a w hq
  cases e with
  | goto l => exact ⟨hq.1, h _ _ _ hq.2⟩
  | _ => exact hq

set_option maxRecDepth 100000 in
set_option maxHeartbeats 1000000 in
theorem headF (n : Nat) (hn : 1 ≤ n) (n₀ fb yl Bn : Nat) (h9 : 9 ≤ n₀) (line : List UInt8) (hline : line.length ≤ 8192) (J Jx : List (Wd.Fld × Bool) → World → Prop) (Wz : World) (hE : Env Wz)
    (hcl : Closed fb J) (hnf : n₀ ≤ fb)
    (hY : ∀ pre x W, J pre W → pre.length < (Wd.prod line).length → YieldAt Fence.wide (n - 1) Tryz.prog yl (encF x) W fun e W' =>
      (e = .returned (.bool true) ∧ J (pre ++ [x]) W' ∧ KpF n₀ fb W W') ∨ (e = .returned (.bool false) ∧ Jx (pre ++ [x]) W'))
    (rest : Code) (hrest : findLabel codeF 1 = some (Code.skip.seq rest)) (a : Act) (W : World) (h : JF n₀ fb yl Bn line J Wz 1 a W) :
    rest.wpIn Fence.wide n Tryz.prog (jumpsTo codeF (fun l' a' w' => JF n₀ fb yl Bn line J Wz l' a' w' ∧ muF l' a' w' < muF 1 a W) (bodyPost Tryz.prog Tryz.f61 (QF J Jx line))) a W := by
  obtain ⟨u2, u5, u6, u7, u8, u9, u10, u11, u12, u13, u14, u15, u16, u17, u18, u19, u20, u21, u22, u23, u24, u25, u26, u27, u28, u29, u30, u31, u32, u33, u34, u35, u36, u37, u38, u39, u40, u41, u42, u43, u44, u45, u46, u47, u48, u49, u50, u51, u52, u53, u54, u55, u56, s, x, q, pre, rfl, hp, hJ, hfb, hbz, hrl, h⟩ := h
  simp only [codeF, Tryz.f61, findLabel, beq_self_eq_true, ↓reduceIte, Option.some.injEq, Code.seq.injEq, true_and] at hrest
  subst hrest
  clear h
  have c0 : W.cell? ⟨fb, 0, none⟩ = some (S8 x) := blk_cell hfb 0
  have c1 : W.cell? ⟨fb, 1, none⟩ = some (.bool q) := blk_cell hfb 1
  have f0 := blk_free hfb 0
  have f1 := blk_free hfb 1
  have hrl2 : s.size ≤ 8192 := by omega
  have hct := unquote_any s W (hE.below9 hbz h9) (by omega)
  cases hu : Wd.unq s.data.toList with
  | some p =>
    obtain ⟨y, r⟩ := p
    rw [unqEnd_some hu] at hct
    have hf1 := Wd.field1_unq hu
    have hlt := Wd.unq_rest hu
    rw [← size_list] at hlt hct
    obtain ⟨k, hk⟩ : ∃ k : Nat, k = s.size - r.length := ⟨_, rfl⟩
    have e1 : ((s.size : Int) - (r.length : Int)) = (k : Int) := by omega
    rw [e1] at hct
    have hr : r = s.data.toList.drop k := by
      have := Wd.drop_of_suffix (Wd.unq_suffix hu)
      rw [← size_list, ← hk] at this
      exact this
    rw [hr] at hf1
    have HC := Lib.hid hct
    have HF := Lib.hid hf1
    have hk0 : 0 < k := by omega
    have hk1 : k ≤ s.size := by omega
    have HP := Lib.hid hp
    clear hct hf1 hu hlt e1 hr hk hp
    gi_wp2_with (refine ⟨trivial, ?_⟩; gi_at_call 39; refine (callsIn_wide.2 HC.out).mono ?_; rintro e w1 ⟨rfl, hb1⟩; have hfb1 := (hb1.block fb (lt_of_block hfb)).trans hfb; have g0 : w1.cell? ⟨fb, 0, none⟩ = some (S8 x) := blk_cell hfb1 0; have g1 : w1.cell? ⟨fb, 1, none⟩ = some (.bool q) := blk_cell hfb1 1; have k0 := blk_free hfb1 0; have k1 := blk_free hfb1 1)
    refine wpIn_goto (show (findLabel codeF 0).isSome = true ∧ JF n₀ fb yl Bn line J Wz 0 _ _ ∧ muF 0 _ _ < muF 1 _ _ from ⟨by kernel_rfl, ?_, ?_⟩)
    · have hbn : Below n₀ W w1 := hb1.mono (by have := lt_of_block hfb; omega)
      exact ⟨_, _, _, _, _, _, _, _, _, _, _, _, _, _, _, _, _, _, _, _, _, _, _, _, _, _, _, _, _, _, _, _, _, _, _, _, _, _, _, _, _, _, _, _, _, _, _, _, _, _, _, _, _, _, y, true, pre, rfl, HP.out, hcl _ _ _ hJ (grown_set (grown_set (grown_below hb1 _) 0 _) 1 _), blk_set (blk_set hfb1 0 _) 1 _, ((hbz.trans hbn).setCell (p := ⟨fb, 0, none⟩) hnf _).setCell (p := ⟨fb, 1, none⟩) hnf _, hrl, .inr ⟨rfl, k, rfl, hk1, HF.out⟩⟩
    · show 2 * s.size + 0 < 2 * s.size + 1
      omega
  | none =>
    rw [unqEnd_none hu] at hct
    have HC := Lib.hid hct
    obtain ⟨mx, hmx⟩ := (hE.below9 hbz h9).mx
    have hmb : 1 < W.heap.size := by have := (hE.below9 hbz h9).big; omega
    obtain ⟨x0, hx0⟩ : ∃ x0, x0 = s.data.toList.take (Wd.wlen s.data.toList) := ⟨_, rfl⟩
    have hcut : (Lib.cut s.data.toList [32]).1 = x0 := by rw [hx0, Wd.cut_take, Wd.takeWhile_take]; rfl
    have hxl : x0.length = Wd.wlen s.data.toList := by rw [hx0, List.length_take]; have := Wd.wlen_le s.data.toList; omega
    have hwl := Wd.wlen_le s.data.toList
    rw [← size_list] at hwl
    have hx8 : x0.length ≤ 8192 := by omega
    have HCt : ∀ W' : World, W'.cell? ⟨1, 0, none⟩ = some (.int .i64 mx) → Hid (Calls Tryz.prog 28 #[.string s, .string ⟨#[32]⟩] W' fun e w' => (∃ y b, e = .returned (.tuple #[S8 x0, y, b])) ∧ ∃ n, w' = W'.drewN n) := by
      intro W' hm
      have h := Tryz.strings_Cut s ⟨#[32]⟩ mx W' (by omega) hm
      refine h.mono ?_
      rintro e w' ⟨rfl, hn⟩
      exact ⟨⟨_, _, by rw [← hcut]⟩, hn⟩
    have HCt2 := Lib.hid HCt
    cases hbv : Wd.bare x0 with
    | true =>
      have hf1 := Wd.field1_bare hu (by rw [← hx0]; exact hbv)
      rw [← hx0] at hf1
      have HF := Lib.hid hf1
      have HP := Lib.hid hp
      have HB := Lib.hid (fun W' => bare_l x0 W' (by unfold maxLen; omega))
      rw [hbv] at HB
      have HXL := Lib.hid hxl
      clear hct hf1 hu hcut hbv hp hx0 HCt hxl hwl
      gi_wp2_with (first | (refine ⟨trivial, ?_⟩; gi_at_call 39; refine (callsIn_wide.2 HC.out).mono ?_; rintro e w1 ⟨rfl, hb1⟩; have hfb1 := (hb1.block fb (lt_of_block hfb)).trans hfb; have g0 : w1.cell? ⟨fb, 0, none⟩ = some (S8 x) := blk_cell hfb1 0; have g1 : w1.cell? ⟨fb, 1, none⟩ = some (.bool q) := blk_cell hfb1 1; have k0 := blk_free hfb1 0; have k1 := blk_free hfb1 1))
      refine ⟨trivial, ?_⟩
      have hbn : Below n₀ W w1 := hb1.mono (by have := lt_of_block hfb; omega)
      have hm1 : w1.cell? ⟨1, 0, none⟩ = some (.int .i64 mx) := (hb1.cell (p := ⟨1, 0, none⟩) hmb).trans hmx
      have hgr := grown_set (fb := fb) (grown_set (fb := fb) (grown_below hb1 _) 0 (.string ⟨#[]⟩)) 1 (.bool false)
      have hB2 := ((hbz.trans hbn).setCell (p := ⟨fb, 0, none⟩) hnf (.string ⟨#[]⟩)).setCell (p := ⟨fb, 1, none⟩) hnf (.bool false)
      have hfb2 : (((w1.setCell ⟨fb, 0, none⟩ (.string ⟨#[]⟩)).setCell ⟨fb, 1, none⟩ (.bool false))).heap[fb]? = some (.cells #[.string ⟨#[]⟩, .bool false] 47 (0, 0)) := blk_set (blk_set hfb1 0 _) 1 _
      have hm2 : (((w1.setCell ⟨fb, 0, none⟩ (.string ⟨#[]⟩)).setCell ⟨fb, 1, none⟩ (.bool false))).cell? ⟨1, 0, none⟩ = some (.int .i64 mx) := by
        rw [World.cell?_setCell_other _ _ _ _ (fun e => by have := congrArg Addr.block e; simp at this; omega), World.cell?_setCell_other _ _ _ _ (fun e => by have := congrArg Addr.block e; simp at this; omega)]
        exact hm1
      clear g0 g1 k0 k1 hfb1 hm1 hbn
      generalize ((w1.setCell ⟨fb, 0, none⟩ (.string ⟨#[]⟩)).setCell ⟨fb, 1, none⟩ (.bool false)) = W2 at *
      refine (callsIn_wide.2 (HCt2.out _ hm2).out).mono ?_
      rintro e w3 ⟨⟨y1, b1, rfl⟩, n3, rfl⟩
      have hfb3 : (W2.drewN n3).heap[fb]? = some (.cells #[.string ⟨#[]⟩, .bool false] 47 (0, 0)) := hfb2
      have hgr3 := grown_dn hgr n3
      have hB3 := below_dn' hB2 n3
      clear hfb2 hgr hB2 hm2
      generalize W2.drewN n3 = W3 at *
      have g0 : W3.cell? ⟨fb, 0, none⟩ = some (.string ⟨#[]⟩) := blk_cell hfb3 0
      have g1 : W3.cell? ⟨fb, 1, none⟩ = some (.bool false) := blk_cell hfb3 1
      have k0 := blk_free hfb3 0
      have k1 := blk_free hfb3 1
      gi_wp2_with (refine ⟨trivial, ?_⟩; gi_at_call 42; refine (callsIn_wide.2 (HB.out _)).mono ?_; rintro e w4 ⟨rfl, rfl⟩)
      refine wpIn_label ?_
      gi_step
      gi_step
      refine wpIn_mono (tailF n hn n₀ fb yl Bn line hline J Jx Wz hY _ (by kernel_rfl) _ _ ?_) (fun e a w h => jumps_mono (fun l a w hj => ⟨hj.1, ?_⟩) e a w h)
      · exact ⟨_, _, _, _, _, _, _, _, _, _, _, _, _, _, _, _, _, _, _, _, _, _, _, _, _, _, _, _, _, _, _, _, _, _, _, _, _, _, _, _, _, _, _, _, _, _, _, _, _, _, _, _, _, _, x0, false, pre, rfl, HP.out, hcl _ _ _ hJ (grown_set hgr3 0 _), blk_set hfb3 0 _, hB3.setCell (p := ⟨fb, 0, none⟩) hnf _, hrl, .inr ⟨rfl, x0.length, rfl, by have h1 := HXL.out; have h2 := Wd.wlen_le s.data.toList; rw [← size_list] at h2; omega, by rw [HXL.out]; exact HF.out⟩⟩
      · refine Nat.lt_of_lt_of_le hj.2 ?_
        show 2 * s.size + 0 ≤ 2 * s.size + 1
        omega
    | false =>
      have hf1 := Wd.field1_no hu (by rw [← hx0]; exact hbv)
      have hpn := Wd.prod_none hf1
      rw [hpn] at hp
      have hlen : pre.length < (Wd.prod line).length := by rw [hp]; simp
      have HB := Lib.hid (fun W' => bare_l x0 W' (by unfold maxLen; omega))
      rw [hbv] at HB
      have HXL := Lib.hid hxl
      have HH := Lib.hid hp
      have HLN := Lib.hid hlen
      clear hct hf1 hu hcut hbv hp hx0 HCt hxl hwl hpn hlen
      gi_wp2_with (first | (refine ⟨trivial, ?_⟩; gi_at_call 39; refine (callsIn_wide.2 HC.out).mono ?_; rintro e w1 ⟨rfl, hb1⟩; have hfb1 := (hb1.block fb (lt_of_block hfb)).trans hfb; have g0 : w1.cell? ⟨fb, 0, none⟩ = some (S8 x) := blk_cell hfb1 0; have g1 : w1.cell? ⟨fb, 1, none⟩ = some (.bool q) := blk_cell hfb1 1; have k0 := blk_free hfb1 0; have k1 := blk_free hfb1 1))
      refine ⟨trivial, ?_⟩
      have hbn : Below n₀ W w1 := hb1.mono (by have := lt_of_block hfb; omega)
      have hm1 : w1.cell? ⟨1, 0, none⟩ = some (.int .i64 mx) := (hb1.cell (p := ⟨1, 0, none⟩) hmb).trans hmx
      have hgr := grown_set (fb := fb) (grown_set (fb := fb) (grown_below hb1 _) 0 (.string ⟨#[]⟩)) 1 (.bool false)
      have hB2 := ((hbz.trans hbn).setCell (p := ⟨fb, 0, none⟩) hnf (.string ⟨#[]⟩)).setCell (p := ⟨fb, 1, none⟩) hnf (.bool false)
      have hfb2 : (((w1.setCell ⟨fb, 0, none⟩ (.string ⟨#[]⟩)).setCell ⟨fb, 1, none⟩ (.bool false))).heap[fb]? = some (.cells #[.string ⟨#[]⟩, .bool false] 47 (0, 0)) := blk_set (blk_set hfb1 0 _) 1 _
      have hm2 : (((w1.setCell ⟨fb, 0, none⟩ (.string ⟨#[]⟩)).setCell ⟨fb, 1, none⟩ (.bool false))).cell? ⟨1, 0, none⟩ = some (.int .i64 mx) := by
        rw [World.cell?_setCell_other _ _ _ _ (fun e => by have := congrArg Addr.block e; simp at this; omega), World.cell?_setCell_other _ _ _ _ (fun e => by have := congrArg Addr.block e; simp at this; omega)]
        exact hm1
      clear g0 g1 k0 k1 hfb1 hm1 hbn
      generalize ((w1.setCell ⟨fb, 0, none⟩ (.string ⟨#[]⟩)).setCell ⟨fb, 1, none⟩ (.bool false)) = W2 at *
      refine (callsIn_wide.2 (HCt2.out _ hm2).out).mono ?_
      rintro e w3 ⟨⟨y1, b1, rfl⟩, n3, rfl⟩
      have hfb3 : (W2.drewN n3).heap[fb]? = some (.cells #[.string ⟨#[]⟩, .bool false] 47 (0, 0)) := hfb2
      have hgr3 := grown_dn hgr n3
      have hB3 := below_dn' hB2 n3
      clear hfb2 hgr hB2 hm2
      generalize W2.drewN n3 = W3 at *
      have g0 : W3.cell? ⟨fb, 0, none⟩ = some (.string ⟨#[]⟩) := blk_cell hfb3 0
      have g1 : W3.cell? ⟨fb, 1, none⟩ = some (.bool false) := blk_cell hfb3 1
      have k0 := blk_free hfb3 0
      have k1 := blk_free hfb3 1
      obtain ⟨fn, tmps, assign, body, hy, hR⟩ := hY pre Wd.bad _ (hcl _ _ _ hJ (grown_set hgr3 0 (S8 x0))) HLN.out
      dsimp only [encF, Wd.bad] at hy
      gi_wp2_with (refine ⟨trivial, ?_⟩; gi_at_call 42; refine (callsIn_wide.2 (HB.out _)).mono ?_; rintro e w4 ⟨rfl, rfl⟩)
      refine hR.mono ?_
      rintro e W' (⟨rfl, hJ', hk'⟩ | ⟨rfl, hJx'⟩)
      · gi_wp2
        refine bodyPost_ret (results_none rfl _ _ _) rfl ?_
        exact ⟨⟨_, rfl⟩, .inl ⟨_, HH.out.symm, hJ'⟩⟩
      · gi_wp2
        refine bodyPost_ret (results_none rfl _ _ _) rfl ?_
        exact ⟨⟨_, rfl⟩, .inr ⟨_, by rw [HH.out]; exact List.prefix_refl _, hJx'⟩⟩
end Go.Proofs.YtffkohdnhaebjaaGreatDoor
