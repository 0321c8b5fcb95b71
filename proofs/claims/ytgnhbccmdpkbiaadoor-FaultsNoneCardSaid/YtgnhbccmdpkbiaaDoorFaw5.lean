/-
  Walks for layer 3 (faults): the chain of a fault.
-/
import Derived.Test.YtgnhbccmdpkbiaaDoorFaw2
import Derived.Test.YtgnhbccmdpkbiaaDoorGenAt
namespace Go.Proofs.YtgnhbccmdpkbiaaDoor
open Go.RowKit

theorem elN : ElT Tryd.prog 41 67 6 56 (.agg #[I64 0, I64 0, I64 0, .string ⟨#[]⟩, I64 0, I64 0]) encNode :=
  ⟨Tryd.underlying41, by kernel_rfl, rfl, by decide, fun _ => rfl, fun x u hu => by
    simp only [encNode, List.mem_cons, List.not_mem_nil, or_false] at hu
    rcases hu with rfl | rfl | rfl | rfl | rfl | rfl <;> rfl⟩
theorem newN (W : World) (x : Fa.Node) (T : TypeId) : ∀ i u, (encNode x)[i]? = some u → (W.alloc (.cells #[I64 x.depth, I64 x.joined, I64 x.link.kind, .string x.link.op, I64 x.link.backend, I64 x.link.conn] T)).cell? ⟨W.heap.size, i, none⟩ = some u := by
  intro i u hu
  rw [World.cell?_alloc_at _ _ _ _ rfl]
  match i, hu with
  | 0, hu | 1, hu | 2, hu | 3, hu | 4, hu | 5, hu => simp [encNode] at hu; subst hu; rfl
theorem gbo_trans {w w2 w3 : World} {r r2 : Option Nat} (h1 : w.grownBy w2 r) (h2 : w2.grownBy w3 r2) (h : ∀ b, b < w.heap.size → some b ≠ r → some b ≠ r2) : w.grownBy w3 r :=
  ⟨h2.os.trans h1.os, h2.tape.trans h1.tape, h2.output.trans h1.output, Nat.le_trans h1.size h2.size, fun k hk hne => (h2.block k (Nat.lt_of_lt_of_le hk h1.size) (h k hk hne)).trans (h1.block k hk hne)⟩
theorem gb_below2 {w w1 : World} {r : Option Nat} (h : Below w.heap.size w w1) : w.grownBy w1 r := ⟨h.os, h.tape, h.output, h.size, fun k hk _ => h.block k hk⟩
theorem gb_alloc2 (w : World) (o : Obj) (r : Option Nat) : w.grownBy (w.alloc o) r := gb_below2 ((Below.refl _ _).alloc (Nat.le_refl _) o)
theorem apart_blk2 {v v' : Value} {W : World} (hat : ∀ v2, Apart2 v v2 → (∀ k, v2.ownBlock = some k → k < W.heap.size) → Apart2 v' v2) {b : Nat} (hb : b < W.heap.size) (hne : some b ≠ v.ownBlock) : some b ≠ v'.ownBlock := by
  intro e
  refine hat (.slice (some ⟨b, 0, none⟩) 0 0) (fun k h1 h2 => ?_) (fun k h => ?_) b e.symm rfl
  · have e2 : some b = some k := h2
    exact hne (e2.trans h1.symm)
  · have e2 : some b = some k := h
    injection e2 with e3
    omega

theorem gb_cell2 {w w1 : World} {r : Option Nat} {g i : Nat} (h : w.grownBy w1 r) (hg : g < w.heap.size) (hne : some g ≠ r) : w1.cell? ⟨g, i, none⟩ = w.cell? ⟨g, i, none⟩ := by
  unfold World.cell?
  simp only
  rw [h.block g hg hne]
/-- What walk leaves behind: the slice has grown by the chain. -/
def WalkPost (t : Fa.F) (d : Int) (v : Value) (L : List Fa.Node) (w : World) (B : Nat) (e : Ending) (w' : World) : Prop :=
  ∃ v', e = .returned v' ∧ OwnL 67 6 encNode w' B v' (L ++ t.chain d) ∧ w.grownBy w' v.ownBlock ∧ ∀ b, b < w.heap.size → some b ≠ v.ownBlock → some b ≠ v'.ownBlock
def WalkC (n : Nat) : Prop := ∀ (t : Fa.F) (d : Int) (v : Value) (L : List Fa.Node) (w : World) (B : Nat) (err : Value) (S : Nat → Prop), t.nodes ≤ n → Holds S w t [err] → t.ok →
  OwnL 67 6 encNode w B v L → (∀ b, S b → some b ≠ v.ownBlock) → 0 ≤ d → d + t.hgt ≤ 1000000 → L.length + t.nodes ≤ 1000000 → B ≤ w.heap.size →
  Calls Tryd.prog 25 #[v, err, I64 d] w (WalkPost t d v L w B)
theorem holds_nil {S : Nat → Prop} {w : World} {c : Fa.F} (h : Holds S w c []) : c = .nil := by
  have := h.len
  cases c with
  | nil => rfl
  | link _ _ _ => simp [Fa.F.len] at this
  | join _ _ => simp [Fa.F.len] at this

/-- Where the loop of walk stands behind q children. -/
def WalkInv (k : Fa.F) (d : Int) (v : Value) (L : List Fa.Node) (w : World) (B q : Nat) (rs : List Ref) (u : Value) (wr : World) : Prop :=
  OwnL 67 6 encNode wr B u (L ++ [⟨d, rs.length, Fa.Link.zero⟩] ++ (k.kids.take q).flatMap (fun t => t.chain (d + 1))) ∧ w.grownBy wr v.ownBlock ∧ ∀ b, b < w.heap.size → some b ≠ v.ownBlock → some b ≠ u.ownBlock
theorem flat_nodes (k : Fa.F) (d : Int) {q : Nat} (h : q < k.kids.length) : ((k.kids.take q).flatMap (fun t => t.chain d)).length + k.kids[q].nodes ≤ k.nodes := by
  have h1 := congrArg List.length (show k.kids.flatMap (fun t => t.chain d) = (k.kids.take q).flatMap (fun t => t.chain d) ++ ((k.kids[q]).chain d ++ (k.kids.drop (q + 1)).flatMap (fun t => t.chain d)) from by
    conv => lhs; rw [← List.take_append_drop q k.kids, List.drop_eq_getElem_cons h]
    rw [List.flatMap_append, List.flatMap_cons])
  rw [← Fa.kids_chain, Fa.chain_length, List.length_append, List.length_append, Fa.chain_length] at h1
  omega

set_option maxHeartbeats 2000000 in
set_option maxRecDepth 100000 in
theorem walk_step (n : Nat) (hW : WalkC n) : WalkC (n + 1) := by
  intro t d v L w B err S hn h hok hown hS h0 hd hL hB
  rcases h.one with ⟨x, c, b, cv, cs, rfl, rfl, hb, h2, h3, h4⟩ | ⟨k, b, g, o, cap, ks, rfl, rfl, hb, h2, ⟨hg, hgl, h3⟩, h4⟩
  · have k1 := blk_cell h2 1
    have k2 := blk_cell h2 2
    have k3 := blk_cell h2 3
    have k4 := blk_cell h2 4
    have k5 := blk_cell h2 5
    simp only [linkCells, List.getElem?_toArray, List.getElem?_cons_succ, List.getElem?_cons_zero] at k1 k2 k3 k4 k5
    have hbl := lt_of_block h2
    have hbS := hS b hb
    have t1 := taLL
    obtain ⟨q, op, bk, cn⟩ := x
    simp only [Fa.F.nodes] at hn hL
    simp only [Fa.F.hgt] at hd
    dsimp only at k1 k2 k3 k4
    have hL1 : L.length ≤ 1000000 := by omega
    have HO := Lib.hid hown
    have HS := Lib.hid hS
    have H3 := Lib.hid h3
    clear h h2 hown hS
    unfold linkPtr
    rcases h4 with ⟨rfl, rfl⟩ | rfl
    · obtain rfl := holds_nil h3
      clear h3 hW
      go_enter Tryd.func25, Tryd.ntmps25
      go_wp2_with (at_builtin; refine appL_at elN _ rfl _ _ rfl B _ L ⟨d, 0, ⟨q, op, bk, cn⟩⟩ rfl (HO.out.alloc _) _ 1 rfl (newN _ ⟨d, 0, ⟨q, op, bk, cn⟩⟩ _) (by unfold maxLen; omega) (by omega) (by simp; omega) ?_; rintro v4 w4 hown4 hgr4 ⟨g4, c4, rfl⟩ hat4; have m5 := (gb_cell2 hgr4 (by simp; omega) hbS).trans ((World.cell?_alloc_lt _ _ ⟨b, 5, none⟩ hbl).trans k5))
      go_ret
      exact ⟨_, rfl, hown4, gbo_trans (gb_alloc2 _ _ _) hgr4 (fun _ _ h => h), fun b h1 h2 => apart_blk2 hat4 (by simp; omega) h2⟩
    · obtain ⟨ty, p, rfl⟩ := h3.iface
      simp only [Fa.F.ok] at hok
      have HW : Hid (∀ (v : Value) (w4 : World), OwnL 67 6 encNode w4 B v (L ++ [⟨d, 0, ⟨q, op, bk, cn⟩⟩]) → Holds (fun b => S b ∧ b < w.heap.size) w4 c [.iface ty p] → (∀ b, S b ∧ b < w.heap.size → some b ≠ v.ownBlock) → B ≤ w4.heap.size →
          Calls Tryd.prog 25 #[v, .iface ty p, I64 (d + 1)] w4 (WalkPost c (d + 1) v (L ++ [⟨d, 0, ⟨q, op, bk, cn⟩⟩]) w4 B)) :=
        fun v w4 a1 a2 a3 a4 => hW c (d + 1) v _ w4 B _ _ (by omega) a2 hok.2.2.1 a1 a3 (by omega) (by omega) (by simp; omega) a4
      have hd2 : d ≤ 1000000 := by omega
      clear h3 hW hok
      go_enter Tryd.func25, Tryd.ntmps25
      go_wp2_with (first | (at_builtin; refine appL_at elN _ rfl _ _ rfl B _ L ⟨d, 0, ⟨q, op, bk, cn⟩⟩ rfl (HO.out.alloc _) _ 1 rfl (newN _ ⟨d, 0, ⟨q, op, bk, cn⟩⟩ _) (by unfold maxLen; omega) (by omega) (by simp; omega) ?_; rintro v4 w4 hown4 hgr4 ⟨g4, c4, rfl⟩ hat4; have m5 := (gb_cell2 hgr4 (by simp; omega) hbS).trans ((World.cell?_alloc_lt _ _ ⟨b, 5, none⟩ hbl).trans k5)) | (go_at_call 25; refine (HW.out _ _ hown4 (H3.out.moved (fun b h1 h2 => ⟨⟨h1, h2⟩, (hgr4.block b (by simp; omega) (HS.out b h1)).trans (Below.heap_alloc _ _ _ h2)⟩) (by have := hgr4.size; simp at this; omega)) (fun b h => apart_blk2 hat4 (by simp; omega) (HS.out b h.1)) (by have := hgr4.size; simp at this; omega)).mono ?_; rintro e w5 ⟨v5, rfl, hown5, hgr5, hap5⟩))
      go_ret
      have hsz := hgr4.size
      simp at hsz
      refine ⟨_, rfl, ?_, gbo_trans (gbo_trans (gb_alloc2 _ _ _) hgr4 (fun _ _ h => h)) hgr5 (fun b h1 h2 => apart_blk2 hat4 (by simp; omega) h2), fun b h1 h2 => hap5 b (by omega) (apart_blk2 hat4 (by simp; omega) h2)⟩
      simpa [Fa.F.chain] using hown5
  · obtain ⟨rs, hrs⟩ := h4.refs
    subst hrs
    have hlk : rs.length = k.kids.length := by
      have := h4.len
      rw [List.length_map] at this
      rw [this, Fa.kids_len]
    rw [List.length_map] at h2
    have k0 := blk_cell h2 0
    simp only [joinCells, List.getElem?_toArray, List.getElem?_cons_zero] at k0
    have hbl := lt_of_block h2
    have hbS := hS b hb
    have hgS := hS g hg
    have t1 := taJL
    have t2 := taJJ
    have hkl := Fa.len_le_nodes k
    simp only [Fa.F.nodes] at hn hL
    simp only [Fa.F.hgt] at hd
    simp only [Fa.F.ok] at hok
    have hL1 : L.length ≤ 1000000 := by omega
    have hr1 : rs.length ≤ 1000000 := by rw [hlk, Fa.kids_len]; omega
    have HLK := Lib.hid hlk
    have HLK2 := Lib.hid (show ((rs.length : Nat) : Int) = ((k.len : Nat) : Int) from by rw [hlk, Fa.kids_len])
    have HO := Lib.hid hown
    have HS := Lib.hid hS
    have H4 := Lib.hid h4
    have HE : Hid (∀ (j : Nat) (hj : j < rs.length), w.cell? ⟨g, o + j, none⟩ = some (valE rs[j])) := fun j hj => h3 j _ (by rw [List.getElem?_map, List.getElem?_eq_getElem hj]; rfl)
    have HW : Hid (∀ (q : Nat) (hq : q < k.kids.length) (r : Ref) (v : Value) (M : List Fa.Node) (w4 : World), OwnL 67 6 encNode w4 B v M → M.length + k.kids[q].nodes ≤ 1000000 → Holds (fun b => S b ∧ b < w.heap.size) w4 k.kids[q] [valE r] → (∀ b, S b ∧ b < w.heap.size → some b ≠ v.ownBlock) → B ≤ w4.heap.size →
          Calls Tryd.prog 25 #[v, valE r, I64 (d + 1)] w4 (WalkPost k.kids[q] (d + 1) v M w4 B)) :=
      fun q hq r v M w4 a1 a5 a2 a3 a4 => by
        obtain ⟨n1, n2, n3, n4⟩ := Fa.kid_ne hq
        have n5 := Fa.kids_nodes k _ (List.getElem_mem hq)
        exact hW k.kids[q] (d + 1) v M w4 B _ _ (by omega) a2 (n5.2.2 hok.2.2.1) a1 a3 (by omega) (by omega) a5 a4
    have hd2 : d ≤ 1000000 := by omega
    have HLL : Hid (L.length + k.nodes + 1 ≤ 1000000) := by show _ ≤ _; omega
    clear h h2 hown hS h3 h4 hlk hW hok hkl hn hL hd
    unfold joinPtr
    go_enter Tryd.func25, Tryd.ntmps25
    go_wp2_with (at_builtin; refine appL_at elN _ rfl _ _ rfl B _ L ⟨d, rs.length, Fa.Link.zero⟩ rfl (HO.out.alloc _) _ 1 rfl (newN _ ⟨d, rs.length, Fa.Link.zero⟩ _) (by unfold maxLen; omega) (by omega) (by simp; omega) ?_; rintro v4 w4 hown4 hgr4 ⟨g4, c4, rfl⟩ hat4; have m0 := (gb_cell2 hgr4 (by simp; omega) hbS).trans ((World.cell?_alloc_lt _ _ ⟨b, 0, none⟩ hbl).trans k0))
    have hgw : w.grownBy w4 v.ownBlock := gbo_trans (gb_alloc2 _ _ _) hgr4 (fun _ _ h => h)
    have hapw : ∀ b, b < w.heap.size → some b ≠ v.ownBlock → some b ≠ Value.ownBlock (.slice (some ⟨g4, 0, none⟩) (L.length + 1) c4) := fun b h1 h2 => apart_blk2 hat4 (by simp; omega) h2
    have HST : Hid (WalkInv k d v L w B 0 rs (.slice (some ⟨g4, 0, none⟩) (L.length + 1) c4) w4) := ⟨by
      rw [show (k.kids.take 0).flatMap (fun t => t.chain (d + 1)) = [] from rfl, List.append_nil]
      exact hown4, hgw, hapw⟩
    clear hown4 hgr4 hat4 m0 hgw hapw
    go_loopw [0, 55] (fun u i wr => ∃ q : Nat, q ≤ rs.length ∧ i = .int .i64 q ∧ Hid (WalkInv k d v L w B q rs u wr)) (fun _ i _ => rs.length - (intOf i).toNat)
    case atStart => exact ⟨0, Nat.zero_le _, rfl, HST⟩
    case round =>
      obtain ⟨q, hq, rfl, hj⟩ := hrel
      by_cases hlt : q < rs.length
      · have hqk : q < k.kids.length := by have := HLK.out; omega
        have i1 : (q : Int) < (rs.length : Int) := by omega
        obtain ⟨j1, j2, j3⟩ := hj.out
        have c1 := (gb_cell2 (i := o + q) j2 hgl hgS).trans (HE.out q hlt)
        have hHq : Holds (fun b => S b ∧ b < w.heap.size) wr k.kids[q] [valE rs[q]] := (H4.out.elem q hqk hlt).moved (fun b h1 h2 => ⟨⟨h1, h2⟩, j2.block b h2 (HS.out b h1)⟩) j2.size
        have hml : (L ++ ([⟨d, rs.length, Fa.Link.zero⟩] : List Fa.Node) ++ (k.kids.take q).flatMap (fun (t : Fa.F) => t.chain (d + 1))).length + k.kids[q].nodes ≤ 1000000 := by
          have h1 := HLL.out
          have h2 := flat_nodes k (d + 1) hqk
          rw [List.length_append, List.length_append, List.length_singleton]
          omega
        have HQ := Lib.hid (HW.out q hqk rs[q] _ _ wr j1 hml hHq (fun b h => j3 b h.2 (HS.out b h.1)) (Nat.le_trans hB j2.size))
        have HJ2 := Lib.hid j2
        have HJ3 := Lib.hid j3
        clear j1 j2 j3 hHq hml hj
        go_wp2_with (go_at_call 25; refine HQ.out.mono ?_; rintro e w5 ⟨v5, rfl, hown5, hgr5, hap5⟩)
        case roundEnd =>
          refine ⟨⟨q + 1, by omega, by go_num, ?_, gbo_trans HJ2.out hgr5 HJ3.out, fun b h1 h2 => hap5 b (Nat.lt_of_lt_of_le h1 HJ2.out.size) (HJ3.out b h1 h2)⟩, by simp [intOf]; omega⟩
          rw [List.take_succ_eq_append_getElem hqk, List.flatMap_append, List.flatMap_singleton, ← List.append_assoc]
          exact hown5
      · obtain ⟨j1, j2, j3⟩ := hj.out
        have hqe : k.kids.length ≤ q := by have := HLK.out; omega
        rw [List.take_of_length_le hqe, ← Fa.kids_chain] at j1
        have HJ1 := Lib.hid j1
        have HJ2 := Lib.hid j2
        have HJ3 := Lib.hid j3
        have i1 : ¬ (q : Int) < (rs.length : Int) := by omega
        clear j1 j2 j3 hj hqe
        go_wp2
        go_ret
        refine ⟨_, rfl, ?_, HJ2.out, HJ3.out⟩
        have h1 := HJ1.out
        rw [HLK2.out] at h1
        simpa [Fa.F.chain] using h1
theorem walkC_all : ∀ n, WalkC n := by
  intro n
  induction n with
  | zero =>
    intro t d v L w B err S hn h
    exfalso
    rcases h.one with ⟨x, c, b, cv, cs, rfl, _⟩ | ⟨k, b, g, o, cap, ks, rfl, _⟩
    · simp only [Fa.F.nodes] at hn; omega
    · simp only [Fa.F.nodes] at hn; omega
  | succ n ih => exact walk_step n ih
end Go.Proofs.YtgnhbccmdpkbiaaDoor
