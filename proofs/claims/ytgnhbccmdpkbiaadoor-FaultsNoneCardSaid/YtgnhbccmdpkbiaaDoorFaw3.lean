/-
  Walks for layer 3 (faults): the builder.
-/
import Derived.Test.YtgnhbccmdpkbiaaDoorFaw2
import Derived.Test.YtgnhbccmdpkbiaaDoorFaw1b
import Derived.Test.YtgnhbccmdpkbiaaDoorGenAt
namespace Go.Proofs.YtgnhbccmdpkbiaaDoor
open Go.RowKit

theorem gb_trans {w w1 w2 : World} {r : Option Nat} (h1 : w.grownBy w1 r) (h2 : w1.grownBy w2 r) : w.grownBy w2 r :=
  ⟨h2.os.trans h1.os, h2.tape.trans h1.tape, h2.output.trans h1.output, Nat.le_trans h1.size h2.size, fun k hk hne => (h2.block k (Nat.lt_of_lt_of_le hk h1.size) hne).trans (h1.block k hk hne)⟩
theorem gb_below {w w1 : World} {r : Option Nat} (h : Below w.heap.size w w1) : w.grownBy w1 r := ⟨h.os, h.tape, h.output, h.size, fun k hk _ => h.block k hk⟩
theorem gb_alloc (w : World) (o : Obj) (r : Option Nat) : w.grownBy (w.alloc o) r := gb_below ((Below.refl _ _).alloc (Nat.le_refl _) o)
theorem _root_.Go.World.grownBy.grown_alloc {w w1 : World} {r : Option Nat} (h : w.grownBy w1 r) (o : Obj) : w.grownBy (w1.alloc o) r := gb_trans h (gb_alloc w1 o r)
theorem gb_set (w : World) (b i : Nat) (u : Value) : w.grownBy (w.setCell ⟨b, i, none⟩ u) (some b) :=
  ⟨rfl, rfl, rfl, by simp [World.setCell], fun k _ hk => Below.heap_setCell _ _ _ k (fun e => hk (by rw [e]))⟩
theorem gb_cell {w w1 : World} {bb g i : Nat} (h : w.grownBy w1 (some bb)) (hg : g < w.heap.size) (hne : g ≠ bb) : w1.cell? ⟨g, i, none⟩ = w.cell? ⟨g, i, none⟩ := by
  unfold World.cell?
  simp only
  rw [h.block g hg (fun e => hne (Option.some.inj e))]

/-- What a builder still has to read: the slice value sv reads as l; its block lies below B. -/
def Rd (w : World) (B : Nat) (sv : Value) (l : List Fa.Node) : Prop := (∃ a cap, sv = .slice a 0 cap ∧ l = []) ∨ ∃ g o cap, sv = .slice (some ⟨g, o, none⟩) l.length cap ∧ l.length ≤ cap ∧ g < B ∧ g < w.heap.size ∧
    ∀ j (hj : j < l.length) (i : Nat) (u : Value), (encNode l[j])[i]? = some u → w.cell? ⟨g, o + j * 6 + i, none⟩ = some u
theorem gb_cell' {w w1 : World} {r : Option Nat} {g i : Nat} (h : w.grownBy w1 r) (hg : g < w.heap.size) (hne : some g ≠ r) : w1.cell? ⟨g, i, none⟩ = w.cell? ⟨g, i, none⟩ := by
  unfold World.cell?
  simp only
  rw [h.block g hg hne]
theorem Rd.grown' {w w' : World} {B : Nat} {r : Option Nat} {sv : Value} {l : List Fa.Node} (h : Rd w B sv l) (hg : w.grownBy w' r) (hr : ∀ k, r = some k → B ≤ k) : Rd w' B sv l := by
  rcases h with h | ⟨g, o, cap, h1, h2, h3, h4, h5⟩
  · exact .inl h
  · exact .inr ⟨g, o, cap, h1, h2, h3, Nat.lt_of_lt_of_le h4 hg.size, fun j hj i u hu => (gb_cell' hg h4 (fun e => by have := hr g e.symm; omega)).trans (h5 j hj i u hu)⟩
theorem Rd.grown {w w' : World} {bb : Nat} {sv : Value} {l : List Fa.Node} (h : Rd w bb sv l) (hg : w.grownBy w' (some bb)) : Rd w' bb sv l :=
  h.grown' hg fun k hk => by cases hk; exact Nat.le_refl _
theorem Rd.len {w : World} {B : Nat} {sv : Value} {l : List Fa.Node} (h : Rd w B sv l) : ∃ a cap, sv = .slice a l.length cap := by
  rcases h with ⟨a, cap, rfl, rfl⟩ | ⟨g, o, cap, rfl, _⟩
  · exact ⟨a, cap, rfl⟩
  · exact ⟨_, cap, rfl⟩
theorem Holds.grown {S S' : Nat → Prop} {w w' : World} {t : Fa.F} {vs : List Value} {r : Option Nat} (h : Holds S w t vs) (hg : w.grownBy w' r) (hS : ∀ b, S b → b < w.heap.size → S' b ∧ some b ≠ r) : Holds S' w' t vs :=
  h.moved (fun b h1 h2 => ⟨(hS b h1 h2).1, hg.block b h2 (hS b h1 h2).2⟩) hg.size

/-- The block of a builder. -/
def BAt (w : World) (bb : Nat) (sv : Value) (wd : Bool) : Prop := w.heap[bb]? = some (.cells #[sv, .bool wd] 80 (0, 0))
/-- What next and join leave behind. -/
def ResPost (res : Option (Fa.F × List Fa.Node)) (l : List Fa.Node) (w : World) (bb : Nat) (wd : Bool) (e : Ending) (w' : World) : Prop :=
  w.grownBy w' (some bb) ∧ match res with
  | none => e = .returned .nilIface
  | some (t, r) => ∃ p sv' rf, e = .returned (valE rf) ∧ l = p ++ r ∧ Holds (fun b => w.heap.size ≤ b) w' t [valE rf] ∧ BAt w' bb sv' (wd || p.any Fa.wideN) ∧ Rd w' bb sv' r
def Fit (l : List Fa.Node) : Prop := l.length ≤ 40 ∧ ∀ x ∈ l, x.depth ≤ 12 ∧ x.link.op.size ≤ maxLen
def NextC (f : Nat) : Prop := ∀ (d : Int) (l : List Fa.Node) (w : World) (bb : Nat) (sv : Value) (wd : Bool), l.length < f → Fit l → 0 ≤ d → d ≤ 1000 → BAt w bb sv wd → Rd w bb sv l →
  Calls Tryd.prog 31 #[.pointer (some ⟨bb, 0, none⟩), I64 d] w (ResPost (Fa.tree f d l) l w bb wd)

theorem BAt.grown {w w' : World} {bb : Nat} {sv : Value} {wd : Bool} {r : Option Nat} (h : BAt w bb sv wd) (hg : w.grownBy w' r) (hr : some bb ≠ r) : BAt w' bb sv wd :=
  (hg.block bb (lt_of_block h) hr).trans h
theorem own_ne {α : Type} {T : TypeId} {n B bb : Nat} {enc : α → List Value} {w : World} {v : Value} {l : List α} (h : OwnL T n enc w B v l) (hb : bb < B) : v.ownBlock = none ∨ v.ownBlock ≠ some bb := by
  cases e : v.ownBlock with
  | none => exact .inl rfl
  | some k =>
    refine .inr fun e2 => ?_
    have h1 := (h.lt k e).1
    injection e2 with e3
    omega
theorem own_gt {α : Type} {T : TypeId} {n B b : Nat} {enc : α → List Value} {w : World} {v : Value} {l : List α} (h : OwnL T n enc w B v l) (hb : w.heap.size ≤ b) : some b ≠ v.ownBlock := by
  intro e
  have := (h.lt b e.symm).2
  omega
theorem apart_blk {v v' : Value} {W : World} (hat : ∀ v2, Apart2 v v2 → (∀ k, v2.ownBlock = some k → k < W.heap.size) → Apart2 v' v2) {b : Nat} (hb : b < W.heap.size) (hne : some b ≠ v.ownBlock) : some b ≠ v'.ownBlock := by
  intro e
  refine hat (.slice (some ⟨b, 0, none⟩) 0 0) (fun k h1 h2 => ?_) (fun k h => ?_) b e.symm rfl
  · have e2 : some b = some k := h2
    exact hne (e2.trans h1.symm)
  · have e2 : some b = some k := h
    injection e2 with e3
    omega
theorem own_ne' {α : Type} {T : TypeId} {n B bb : Nat} {enc : α → List Value} {w : World} {v : Value} {l : List α} (h : OwnL T n enc w B v l) (hb : bb < B) : some bb ≠ v.ownBlock := by
  rcases own_ne h hb with e | e
  · rw [e]; simp
  · exact fun h => e h.symm
theorem gb_own {w w1 w2 : World} {bb : Nat} {r : Option Nat} (h1 : w.grownBy w1 (some bb)) (h2 : w1.grownBy w2 r) (hr : ∀ k, r = some k → w.heap.size ≤ k) : w.grownBy w2 (some bb) :=
  ⟨h2.os.trans h1.os, h2.tape.trans h1.tape, h2.output.trans h1.output, Nat.le_trans h1.size h2.size, fun k hk hne => (h2.block k (Nat.lt_of_lt_of_le hk h1.size) (fun e => by have := hr k e.symm; omega)).trans (h1.block k hk hne)⟩
theorem valE_iface (rf : Ref) : ∃ ty p, valE rf = .iface ty p := ⟨_, _, rfl⟩
theorem newE (W : World) (v : Value) (T : TypeId) (rf : Ref) (h : valE rf = v) : ∀ i u, (encE rf)[i]? = some u → (W.alloc (.cells #[v] T)).cell? ⟨W.heap.size, i, none⟩ = some u := by
  intro i u hu
  match i, hu with
  | 0, hu => simp [encE] at hu; subst hu; rw [World.cell?_alloc_at _ _ _ _ rfl, h]; rfl
theorem aggZ (x : Fa.Link) (w : World) : (Op.equalIn 10000 24 (.agg #[I64 x.kind, .string x.op, I64 x.backend, I64 x.conn]) (.agg #[I64 0, .string ⟨#[]⟩, I64 0, I64 0])).run Tryd.prog w = .ok (Fa.isZero x) w := by
  exact aggL 9998 x Fa.Link.zero w

/-- Where the loop of join stands behind q trees. -/
def JInv (g : List Fa.Node → Option (Fa.F × List Fa.Node)) (l : List Fa.Node) (w : World) (bb : Nat) (wd : Bool) (q : Nat) (v : Value) (wr : World) : Prop := ∃ t r p sv rs, Fa.many g q l = some (t, r) ∧ l = p ++ r ∧ w.grownBy wr (some bb) ∧ w.heap.size + 1 ≤ wr.heap.size ∧
  BAt wr bb sv (wd || p.any Fa.wideN) ∧ Rd wr bb sv r ∧ OwnL 28 1 encE wr (w.heap.size + 1) v rs ∧ rs.length = q ∧ Holds (fun b => w.heap.size ≤ b ∧ some b ≠ v.ownBlock) wr t (rs.map valE)

set_option maxHeartbeats 2000000 in
set_option maxRecDepth 100000 in
theorem bjoin_any (f : Nat) (hN : NextC f) (x : Fa.Node) (d : Int) (l : List Fa.Node) (w : World) (bb : Nat) (sv : Value) (wd : Bool) (hl : l.length < f) (hl9 : l.length + 1 ≤ 40) (hF : Fit l) (h0 : 0 ≤ d) (h1 : d ≤ 12) (hB : BAt w bb sv wd) (hR : Rd w bb sv l) :
    Calls Tryd.prog 43 #[.pointer (some ⟨bb, 0, none⟩), valNode x, I64 d] w
      (ResPost (if Fa.badJoin x then none else match Fa.many (Fa.tree f (d + 1)) x.joined.toNat l with
        | none => none
        | some (k, r) => some (.join k .nil, r)) l w bb wd) := by
  cases hbj : Fa.badJoin x with
  | true =>
    have HP : Hid (∀ w', w.grownBy w' (some bb) → ResPost (if true = true then none else match Fa.many (Fa.tree f (d + 1)) x.joined.toNat l with
        | none => none
        | some (k, r) => some (.join k .nil, r)) l w bb wd (.returned .nilIface) w') := fun w' h => ⟨h, rfl⟩
    have hz := aggZ x.link
    have e1 : Tryd.prog.eqGuardType Tryd.prog.depth 24 = false := by kernel_rfl
    clear hB hR hN
    generalize ResPost _ l w bb wd = R at HP ⊢
    simp only [Fa.badJoin, Bool.or_eq_true, decide_eq_true_eq, Bool.not_eq_true'] at hbj
    obtain ⟨dp, jn, ⟨k, o, b, c⟩⟩ := x
    unfold valNode
    dsimp only at hbj hz ⊢
    have HB := Lib.hid (gb_alloc w (.cells #[I64 dp, I64 jn, I64 k, .string o, I64 b, I64 c] 67) (some bb))
    by_cases h2 : jn < 2
    · clear hbj
      go_enter Tryd.func43, Tryd.ntmps43
      go_wp2
      exact HP.out _ HB.out
    · by_cases h8 : 8 < jn
      · clear hbj
        go_enter Tryd.func43, Tryd.ntmps43
        go_wp2
        exact HP.out _ HB.out
      · have hzz : Fa.isZero ⟨k, o, b, c⟩ = false := by
          rcases hbj with (h | h) | h
          · exact absurd h h2
          · exact absurd h h8
          · exact h
        rw [hzz] at hz
        clear hbj hzz
        go_enter Tryd.func43, Tryd.ntmps43
        go_wp2
        exact HP.out _ HB.out
  | false =>
    have hbl : bb < w.heap.size := lt_of_block hB
    obtain ⟨dp, jn, lk⟩ := x
    have hbj2 := hbj
    simp only [Fa.badJoin, Bool.or_eq_false_iff, decide_eq_false_iff_not, Bool.not_eq_false'] at hbj
    obtain ⟨⟨j2, j8⟩, hzz⟩ := hbj
    have hlz := Fa.isZero_eq hzz
    subst hlz
    obtain ⟨n, rfl⟩ : ∃ n : Nat, jn = n := ⟨jn.toNat, by omega⟩
    have hz : ∀ w, (Op.equalIn 10000 24 (.agg #[I64 0, .string ⟨#[]⟩, I64 0, I64 0]) (.agg #[I64 0, .string ⟨#[]⟩, I64 0, I64 0])).run Tryd.prog w = .ok true w := fun w => by
      have := aggZ Fa.Link.zero w
      rw [hzz] at this
      exact this
    have e1 : Tryd.prog.eqGuardType Tryd.prog.depth 24 = false := by kernel_rfl
    dsimp only
    rw [if_neg (by simp), Int.toNat_natCast]
    clear hbj2 hzz
    have HP0 : Hid (∀ w', Fa.many (Fa.tree f (d + 1)) n l = none → w.grownBy w' (some bb) → ResPost (match Fa.many (Fa.tree f (d + 1)) n l with
        | none => none
        | some (k, r) => some (.join k .nil, r)) l w bb wd (.returned .nilIface) w') := fun w' h1 h2 => by rw [h1]; exact ⟨h2, rfl⟩
    have HP1 : Hid (∀ w' t r e, Fa.many (Fa.tree f (d + 1)) n l = some (t, r) → ResPost (some (.join t .nil, r)) l w bb wd e w' → ResPost (match Fa.many (Fa.tree f (d + 1)) n l with
        | none => none
        | some (k, r) => some (.join k .nil, r)) l w bb wd e w') := fun w' t r e h1 h2 => by rw [h1]; exact h2
    have HST : Hid (∀ o, JInv (Fa.tree f (d + 1)) l w bb wd 0 (.slice none 0 0) (w.alloc o)) := fun o =>
      ⟨.nil, l, [], sv, [], rfl, rfl, gb_alloc _ _ _, by simp, by rw [show ([] : List Fa.Node).any Fa.wideN = false from rfl, Bool.or_false]; exact hB.grown (gb_alloc w o none) (by simp), hR.grown (gb_alloc _ _ _), OwnL.nil _ _, rfl, rfl⟩
    have HF := Lib.hid hF
    have HN := Lib.hid hN
    have HL := Lib.hid hl
    have HBL := Lib.hid hbl
    have HL9 := Lib.hid hl9
    generalize hM : ResPost (match Fa.many (Fa.tree f (d + 1)) n l with
        | none => none
        | some (k, r) => some (.join k .nil, r)) l w bb wd = R at HP0 HP1 ⊢
    clear hM hB hR hN hF hl hl9 hbl
    show Calls Tryd.prog 43 #[.pointer (some ⟨bb, 0, none⟩), .agg #[I64 dp, I64 n, I64 0, .string ⟨#[]⟩, I64 0, I64 0], I64 d] w R
    go_enter Tryd.func43, Tryd.ntmps43
    go_wp2
    go_loopw [7, 27] (fun v i wr => ∃ q : Nat, q ≤ n ∧ i = .int .i64 q ∧ Hid (JInv (Fa.tree f (d + 1)) l w bb wd q v wr)) (fun _ i _ => n - (intOf i).toNat)
    case atStart => exact ⟨0, Nat.zero_le _, rfl, HST.out _⟩
    case round =>
      obtain ⟨q, hq, rfl, hj⟩ := hrel
      by_cases hlt : q < n
      · have i1 : (q : Int) < (n : Int) := by omega
        obtain ⟨t, r, p, sv1, rs, hm, hp, hg, hsx, hb, hr, hown, hlen, hh⟩ := hj.out
        have hFr : Fit r := ⟨by have := HF.out.1; rw [hp, List.length_append] at this; omega, fun y hy => HF.out.2 y (by rw [hp]; exact List.mem_append_right _ hy)⟩
        have hlr : r.length < f := by have := HL.out; rw [hp, List.length_append] at this; omega
        have HC := Lib.hid (HN.out (d + 1) r wr bb sv1 _ hlr hFr (by omega) (by omega) hb hr)
        clear hFr hlr
        cases hT : Fa.tree f (d + 1) r with
        | none =>
          rw [hT] at HC
          have HX := Lib.hid (Fa.many_stop hm hT hlt)
          have HG := Lib.hid hg
          clear hm hp hg hsx hb hr hown hlen hh hT
          go_wp2_with (go_at_call 31; refine HC.out.mono ?_; rintro e w3 ⟨hg3, rfl⟩)
          exact HP0.out _ HX.out (gb_trans HG.out hg3)
        | some sr =>
          obtain ⟨s, r'⟩ := sr
          rw [hT] at HC
          have HX := Lib.hid (Fa.many_step hm hT)
          have HG := Lib.hid hg
          have HSX := Lib.hid hsx
          have HO := Lib.hid hown
          have HH := Lib.hid hh
          have HQ := Lib.hid hlen
          have HPP := Lib.hid hp
          clear hm hp hg hsx hb hr hown hlen hh hT
          go_wp2_with (first | (go_at_call 31; refine HC.out.mono ?_; rintro e w3 ⟨hg3, p2, sv2, rf, rfl, hp2, hh2, hb2, hr2⟩; obtain ⟨ty, pv, hty⟩ := valE_iface rf; have HTY := Lib.hid hty; rw [hty]; clear hty) | (at_builtin; refine appL_at elE _ rfl _ _ rfl (w.heap.size + 1) _ rs rf rfl ((OwnL.kept HO.out hg3 (own_ne HO.out (by have := HBL.out; omega))).alloc _) _ 1 rfl (newE _ _ _ rf HTY.out) (by have := HQ.out; unfold maxLen; omega) (by have := HQ.out; omega) (by have h1 := HG.out.size; have h2 := hg3.size; have h3 := HSX.out; simp; omega) ?_; rintro v4 w4 hown4 hgr4 ⟨g4, c4, rfl⟩ hat4))
          case roundEnd =>
            have hsz := HG.out.size
            have hsz3 := hg3.size
            have hl0 := HO.out.lt
            have hga := gb_alloc w3 (.cells #[.iface ty pv] 28) none
            refine ⟨⟨q + 1, by omega, by go_num, t.app s, r', p ++ p2, sv2, rs ++ [rf], HX.out, by rw [HPP.out, hp2, List.append_assoc], ?_, ?_, ?_, ?_, hown4, by simp [HQ.out], ?_⟩, by simp [intOf]; omega⟩
            · exact gb_own ((gb_trans HG.out hg3).grown_alloc _) hgr4 (fun k hk => by have := (hl0 k hk).1; omega)
            · have h1 := hgr4.size
              have h2 := HSX.out
              simp at h1
              omega
            · rw [List.any_append, ← Bool.or_assoc]
              exact (hb2.grown hga (by simp)).grown hgr4 (own_ne' HO.out (by have := HBL.out; omega))
            · exact (hr2.grown' hga (by simp)).grown' hgr4 (fun k hk => by have := (hl0 k hk).1; have := HBL.out; omega)
            · rw [List.map_append]
              refine Holds.app ?_ ?_
              · exact ((HH.out.grown (S' := fun b => w.heap.size ≤ b ∧ some b ≠ Value.ownBlock _) hg3 (fun b h1 h2 => ⟨h1, fun e => by injection e with e; have := HBL.out; omega⟩)).grown (S' := fun b => w.heap.size ≤ b ∧ some b ≠ Value.ownBlock _) hga (fun b h1 h2 => ⟨h1, by simp⟩)).grown hgr4 (fun b h1 h2 => ⟨⟨h1.1, apart_blk hat4 h2 h1.2⟩, h1.2⟩)
              · exact (hh2.grown hga (S' := fun b => wr.heap.size ≤ b) (fun b h1 h2 => ⟨h1, by simp⟩)).grown hgr4 (fun b h1 h2 => ⟨⟨Nat.le_trans hsz h1, apart_blk hat4 h2 (own_gt HO.out h1)⟩, own_gt HO.out h1⟩)
      · obtain ⟨t, r, p, sv1, rs, hm, hp, hg, hsx, hb, hr, hown, hlen, hh⟩ := hj.out
        have hqn : q = n := by omega
        have hT := Fa.many_took (Fa.tree_took f (d + 1)) _ _ _ _ hm
        have hpos : 0 < rs.length := by omega
        obtain ⟨g0, c0, hv0, hg01, hg02⟩ := own_form hown hpos
        have hdep : d + 1 + t.hgt ≤ 13 := hT.deep (fun x hx => (HF.out.2 x hx).1) (fun e => by have := hT.len; rw [e] at this; simp only [Fa.F.len] at this; omega)
        obtain ⟨pp, hpp1, hpp2, _⟩ := hT.part
        have hnod : t.nodes + 1 ≤ 40 := by
          have h1 := HL9.out
          rw [hpp1, List.length_append] at h1
          omega
        have hjE : joinE t = 0 := by
          unfold joinE
          rw [if_neg]
          have := hT.len
          omega
        subst hv0
        have HJ : Hid (Calls Tryd.prog 11 #[.slice (some ⟨g0, 0, none⟩) rs.length c0] wr fun e w' => ∃ b, e = .returned (.tuple #[joinPtr b, I64 0]) ∧ Below wr.heap.size wr w' ∧ Holds (fun b => w.heap.size ≤ b) w' (.join t .nil) [valE (true, b)]) := by
          refine (join_any _ t rs g0 0 c0 wr hh ⟨hg02, fun j hj => by rw [Nat.zero_add]; exact own_errs hown j hj⟩ hpos (by omega)).mono ?_
          rintro e w' ⟨_, _, h3, hbw⟩
          obtain ⟨b, g, cap, rfl, hb1, hb2, hb3, hb4, hb5⟩ := h3 (by omega) hjE
          have hsz := hg.size
          refine ⟨b, rfl, hbw, b, g, 0, cap, rs.map valE, [], rfl, Nat.le_trans hsz hb1, by rw [List.length_map]; exact hb4, ⟨Nat.le_trans hsz hb2, hb3, fun j u hj => ?_⟩, (hh.below hbw).mono (fun b h _ => h.1), rfl⟩
          rw [List.getElem?_map] at hj
          cases hjj : rs[j]? with
          | none => rw [hjj] at hj; cases hj
          | some y =>
            rw [hjj] at hj
            obtain ⟨hjl, rfl⟩ := List.getElem?_eq_some_iff.1 hjj
            rw [Nat.zero_add, hb5 j hjl]
            exact hj
        have HM := Lib.hid hm
        have HG := Lib.hid hg
        have HB := Lib.hid hb
        have HR := Lib.hid hr
        have HP := Lib.hid hp
        have HQ := Lib.hid hqn
        have i1 : ¬ (q : Int) < (n : Int) := by omega
        clear hm hp hg hsx hb hr hown hlen hh hqn hT hpos hg01 hg02 hdep hpp1 hpp2 hnod hjE hj
        go_wp2_with (go_at_call 11; refine HJ.out.mono ?_; rintro e w3 ⟨b3, rfl, hb3, hh3⟩)
        refine HP1.out _ t r _ (by rw [← HQ.out]; exact HM.out) ⟨gb_trans HG.out (gb_below hb3), p, sv1, (true, b3), rfl, HP.out, hh3, HB.out.grown (gb_below (r := none) hb3) (by simp), HR.out.grown (gb_below hb3)⟩
end Go.Proofs.YtgnhbccmdpkbiaaDoor
