/-
  Walks for layer 3 (faults): write of a join; Text.
-/
import Derived.Test.YtgnhbccmdpkbiaaGreatDoorFaw16
namespace Go.Proofs.YtgnhbccmdpkbiaaGreatDoor
open Go.RowKit Go.Shelf

/-- The text of the first q trees of a forest, as write has written them. -/
def txtK (k : Fa.F) (q : Nat) : List UInt8 := Lib.join ((k.kids.take q).map (·.txt)) [32, 38, 32]
theorem tail_cons (a : List UInt8) (l : List (List UInt8)) (sep : List UInt8) : Lib.joinTail sep (a :: l) = sep ++ Lib.join (a :: l) sep := by
  rw [Lib.join_cons]; simp [Lib.joinTail]
/-- What stands behind a tree: the rest of the forest. -/
def moreT (r : Fa.F) : List UInt8 := match r with | .nil => [] | r => [32, 38, 32] ++ r.txt
theorem txt_link (x : Fa.Link) (c r : Fa.F) : (Fa.F.link x c r).txt = (Fa.F.link x c .nil).txt ++ moreT r := by
  cases r <;> cases c <;> simp [Fa.F.txt, moreT]
theorem txt_join (k r : Fa.F) : (Fa.F.join k r).txt = (Fa.F.join k .nil).txt ++ moreT r := by
  cases r <;> simp [Fa.F.txt, moreT]
theorem txt_join1 (k : Fa.F) : (Fa.F.join k .nil).txt = [40] ++ k.txt ++ [41] := by simp [Fa.F.txt]
theorem txt_more (r : Fa.F) (h : r.txt = Lib.join (r.kids.map (·.txt)) [32, 38, 32]) : moreT r = Lib.joinTail [32, 38, 32] (r.kids.map (·.txt)) := by
  cases r with
  | nil => rfl
  | link x c r' =>
    show [32, 38, 32] ++ (Fa.F.link x c r').txt = _
    rw [h, Fa.F.kids, List.map_cons, tail_cons]
  | join k r' =>
    show [32, 38, 32] ++ (Fa.F.join k r').txt = _
    rw [h, Fa.F.kids, List.map_cons, tail_cons]
theorem txt_kids (k : Fa.F) : k.txt = Lib.join (k.kids.map (·.txt)) [32, 38, 32] := by
  induction k with
  | nil => rfl
  | link x c r _ ih => rw [txt_link, txt_more r ih, Fa.F.kids, List.map_cons, Lib.join_cons]
  | join j r _ ih => rw [txt_join, txt_more r ih, Fa.F.kids, List.map_cons, Lib.join_cons]
theorem txt_op (x : Fa.Link) (c : Fa.F) : x.op.size ≤ (Fa.F.link x c .nil).txt.length := by
  have e : x.op.data.toList.length = x.op.size := by rw [Array.length_toList]; rfl
  cases c <;> simp only [Fa.F.txt, Fa.txtL, Fa.txt1, List.length_append] <;> omega
def txtP (k : Fa.F) (q : Nat) : List UInt8 := if q = 0 then [] else 40 :: txtK k q
theorem txtP_first {k : Fa.F} (h : 0 < k.kids.length) : txtP k 1 = ([40] : List UInt8) ++ (k.kids[0]).txt := by
  unfold txtP txtK
  rw [if_neg (by decide), List.take_succ_eq_append_getElem h]
  simp [Lib.join_one]
theorem txtP_next {k : Fa.F} {q : Nat} (h : q < k.kids.length) (hq : q ≠ 0) : txtP k (q + 1) = txtP k q ++ [32, 38, 32] ++ (k.kids[q]).txt := by
  unfold txtP txtK
  rw [if_neg (by omega), if_neg hq, List.take_succ_eq_append_getElem h, List.map_append, List.map_singleton, Wd.join_snoc, if_neg]
  · simp
  · intro e
    have := congrArg List.length e
    rw [List.length_map, List.length_take, List.length_nil] at this
    omega
theorem txtP_all {k : Fa.F} {q : Nat} (h : k.kids.length ≤ q) (hq : q ≠ 0) : txtP k q = [40] ++ k.txt := by
  unfold txtP txtK
  rw [if_neg hq, List.take_of_length_le h, txt_kids]; rfl
theorem txtP_le {k : Fa.F} : ∀ q, q ≤ k.kids.length → (txtP k q).length ≤ k.txt.length + 1 := by
  intro q hq
  by_cases h0 : q = 0
  · subst h0; simp [txtP]
  · have h1 : k.kids.map (·.txt) = (k.kids.take q).map (·.txt) ++ (k.kids.drop q).map (·.txt) := by rw [← List.map_append, List.take_append_drop]
    have h2 : txtP k q = 40 :: txtK k q := by unfold txtP; rw [if_neg h0]
    rw [h2, txt_kids, h1]
    unfold txtK
    cases hk : (k.kids.take q).map (·.txt) with
    | nil => simp [Lib.join_nil]
    | cons a l =>
      rw [List.cons_append, Lib.join_cons, Lib.join_cons]
      simp [Lib.joinTail]
theorem txt_one_le {k : Fa.F} {q : Nat} (h : q < k.kids.length) : (q ≠ 0 → (txtP k q).length + 3 + (k.kids[q]).txt.length ≤ k.txt.length + 1) ∧ (q = 0 → (k.kids[q]).txt.length ≤ k.txt.length) := by
  have h1 := txtP_le (k := k) (q + 1) h
  constructor
  · intro h0
    rw [txtP_next h h0] at h1
    simp at h1 ⊢
    omega
  · intro h0
    subst h0
    rw [txtP_first h] at h1
    simp at h1 ⊢
    omega

theorem ne_nilF {S : Nat → Prop} {w : World} {t : Fa.F} {v : Value} (h : Holds S w t [v]) : t ≠ .nil := fun e => by
  have := one_ne h
  rw [e] at this
  exact absurd this (by decide)

set_option maxHeartbeats 8000000 in
set_option maxRecDepth 100000 in
theorem wr_step (n : Nat) (hWr : WrC n) : WrC (n + 1) := by
  intro B bb L t v w hn h hok hI hL hBw hB10 hE
  rcases h.one with ⟨x, c, b, cv, cs, rfl, rfl, hbB, h2, h3, h4⟩ | ⟨k, b, g, o, cap, ks, rfl, rfl, hbB, h2, ⟨hg, hgl, h3⟩, h4⟩
  · obtain ⟨n1, n2, n3, n4, n5, n6⟩ := numIn x hok.1
    have hop := txt_op x c
    simp only [Fa.F.nodes] at hn
    obtain ⟨kd, op, bk, cn⟩ := x
    dsimp only at n1 n2 n3 n4 n5 n6 hop
    obtain ⟨kn, rfl⟩ : ∃ kn : Nat, kd = kn := ⟨kd.toNat, by omega⟩
    by_cases hbk : bk = -1
    · by_cases hcn : cn = 0
      · rcases h4 with ⟨rfl, rfl⟩ | rfl
        · exact wr_000 n hWr B bb L kn op bk cn c b _ _ _ w (by omega) ⟨n3, by omega⟩ ⟨n5, n6⟩ (by omega) hbB h2 hI (by omega) hBw hB10 hE hbk hcn ⟨holds_nil h3, rfl⟩
        · exact wr_001 n hWr B bb L kn op bk cn c b cv _ _ w (by omega) ⟨n3, by omega⟩ ⟨n5, n6⟩ (by omega) hbB h2 hI (by omega) hBw hB10 hE hbk hcn ⟨ne_nilF h3, h3, hok.2.2.1, by omega, hL⟩
      · rcases h4 with ⟨rfl, rfl⟩ | rfl
        · exact wr_010 n hWr B bb L kn op bk cn c b _ _ _ w (by omega) ⟨n3, by omega⟩ ⟨n5, n6⟩ (by omega) hbB h2 hI (by omega) hBw hB10 hE hbk hcn ⟨holds_nil h3, rfl⟩
        · exact wr_011 n hWr B bb L kn op bk cn c b cv _ _ w (by omega) ⟨n3, by omega⟩ ⟨n5, n6⟩ (by omega) hbB h2 hI (by omega) hBw hB10 hE hbk hcn ⟨ne_nilF h3, h3, hok.2.2.1, by omega, hL⟩
    · by_cases hcn : cn = 0
      · rcases h4 with ⟨rfl, rfl⟩ | rfl
        · exact wr_100 n hWr B bb L kn op bk cn c b _ _ _ w (by omega) ⟨n3, by omega⟩ ⟨n5, n6⟩ (by omega) hbB h2 hI (by omega) hBw hB10 hE hbk hcn ⟨holds_nil h3, rfl⟩
        · exact wr_101 n hWr B bb L kn op bk cn c b cv _ _ w (by omega) ⟨n3, by omega⟩ ⟨n5, n6⟩ (by omega) hbB h2 hI (by omega) hBw hB10 hE hbk hcn ⟨ne_nilF h3, h3, hok.2.2.1, by omega, hL⟩
      · rcases h4 with ⟨rfl, rfl⟩ | rfl
        · exact wr_110 n hWr B bb L kn op bk cn c b _ _ _ w (by omega) ⟨n3, by omega⟩ ⟨n5, n6⟩ (by omega) hbB h2 hI (by omega) hBw hB10 hE hbk hcn ⟨holds_nil h3, rfl⟩
        · exact wr_111 n hWr B bb L kn op bk cn c b cv _ _ w (by omega) ⟨n3, by omega⟩ ⟨n5, n6⟩ (by omega) hbB h2 hI (by omega) hBw hB10 hE hbk hcn ⟨ne_nilF h3, h3, hok.2.2.1, by omega, hL⟩
  · obtain ⟨rs, hrs⟩ := h4.refs
    subst hrs
    have hlk : rs.length = k.kids.length := by
      have := h4.len
      rw [List.length_map] at this
      rw [this, Fa.kids_len]
    rw [List.length_map] at h2
    have hk2 : 2 ≤ rs.length := by rw [hlk, Fa.kids_len]; exact hok.1
    have hk8 : rs.length ≤ 8 := by rw [hlk, Fa.kids_len]; exact hok.2.1
    have k0 := blk_cell h2 0
    simp only [joinCells, List.getElem?_toArray, List.getElem?_cons_zero] at k0
    have t1 := taJL
    have t2 := taJJ
    have HLK := Lib.hid hlk
    have HE : Hid (∀ (j : Nat) (hj : j < rs.length), w.cell? ⟨g, o + j, none⟩ = some (valE rs[j])) := fun j hj => h3 j _ (by rw [List.getElem?_map, List.getElem?_eq_getElem hj]; rfl)
    have HTX := Lib.hid (txt_join1 k)
    have hLL : L.length + (k.txt.length + 2) ≤ 1000000000000 := by
      rw [txt_join1] at hL
      simp only [List.length_append, List.length_cons, List.length_nil] at hL
      omega
    have HW : Hid (∀ (q : Nat) (hq : q < k.kids.length) (hr : q < rs.length) (M : List UInt8) (w1 : World), IsB B bb M w1 → M.length + (k.kids[q]).txt.length ≤ 1000000000000 → Below B w w1 → Calls Tryz.prog 53 #[.pointer (some ⟨bb, 0, none⟩), valE rs[q]] w1 fun e w' => e = .returned (.tuple #[]) ∧ IsB B bb (M ++ (k.kids[q]).txt) w' ∧ Below B w1 w') := fun q hq hr M w1 hi hm hb => by
      have n5 := Fa.kids_nodes k _ (List.getElem_mem hq)
      simp only [Fa.F.nodes] at hn
      exact hWr B bb M k.kids[q] (valE rs[q]) w1 (by omega) ((h4.elem q hq hr).moved (fun b h1 _ => ⟨h1, hb.block b h1⟩) hb.size) (n5.2.2 hok.2.2.1) hi hm (Nat.le_trans hBw hb.size) hB10 (hE.belowB hB10 hb)
    have HI0 : Hid (IsB B bb (L ++ txtP k 0) w) := by show IsB _ _ _ _; simpa [txtP] using hI
    unfold joinPtr
    clear h h2 h3 h4 hok hn hL hI hE hlk hWr
    go_enter Tryz.func53, Tryz.ntmps53
    go_wp2
    go_loopw [80] (fun i wr => ∃ q : Nat, q ≤ rs.length ∧ i = .int .i64 q ∧ Hid (Below B w wr) ∧ Hid (IsB B bb (L ++ txtP k q) wr)) (fun i _ => rs.length - (intOf i).toNat)
    case atStart => exact ⟨0, Nat.zero_le _, rfl, Below.refl _ _, HI0⟩
    case round =>
      obtain ⟨q, hq, rfl, hbr, hir⟩ := hrel
      by_cases hlt : q < rs.length
      · have hqk : q < k.kids.length := by have := HLK.out; omega
        have i1 : (q : Int) < (rs.length : Int) := by omega
        have c1 := (hbr.out.cell (p := ⟨g, o + q, none⟩) hg).trans (HE.out q hlt)
        have hle := txt_one_le hqk
        have hpl := txtP_le (k := k) q (by omega)
        have HLE := Lib.hid hle
        have HPL := Lib.hid hpl
        clear hle hpl
        by_cases hq0 : q = 0
        · have hle := HLE.out.2 hq0
          subst hq0
          rw [Nat.add_zero] at c1
          have HL2 := Lib.hid hle
          clear hle
          have HX := Lib.hid (txtP_first (k := k) hqk)
          have HWB : Hid (Calls Tryz.prog 69 #[.pointer (some ⟨bb, 0, none⟩), .int .u8 40] wr fun e w' => e = .returned .nilIface ∧ IsB B bb (L ++ txtP k 0 ++ [40]) w' ∧ Below B wr w') := wByte B bb _ 40 wr hir.out (by simp [txtP]; omega) (Nat.le_trans hBw hbr.out.size)
          go_wp2_with (first | (go_at_call 69; refine HWB.out.mono ?_; rintro e w1 ⟨rfl, hi1, hb1⟩) | (go_at_call 53; refine (HW.out 0 hqk hlt _ _ hi1 (by have := HL2.out; simp [txtP] at this ⊢; omega) (hbr.out.trans hb1)).mono ?_; rintro e w2 ⟨rfl, hi2, hb2⟩))
          case roundEnd =>
            refine ⟨⟨0 + 1, by omega, by go_num, (hbr.out.trans hb1).trans hb2, ?_⟩, by simp [intOf]; omega⟩
            show IsB _ _ _ _
            rw [HX.out]
            simpa [txtP] using hi2
        · have HX := Lib.hid (txtP_next (k := k) hqk hq0)
          have HL2 := Lib.hid (HLE.out.1 hq0)
          have hqe : ((q : Int) == 0) = false := by rw [beq_eq_false_iff_ne]; omega
          have HWB : Hid (Calls Tryz.prog 66 #[.pointer (some ⟨bb, 0, none⟩), .string ⟨#[32, 38, 32]⟩] wr fun e w' => (∃ n, e = .returned (.tuple #[.int .i64 n, .nilIface])) ∧ IsB B bb (L ++ txtP k q ++ [32, 38, 32]) w' ∧ Below B wr w') := wStr B bb _ ⟨#[32, 38, 32]⟩ wr hir.out (by
              have h1 := HPL.out
              show _ + 3 ≤ _
              simp
              omega) (Nat.le_trans hBw hbr.out.size)
          clear hq0
          go_wp2_with (first | (go_at_call 66; refine HWB.out.mono ?_; rintro e w1 ⟨⟨n1, rfl⟩, hi1, hb1⟩) | (go_at_call 53; refine (HW.out q hqk hlt _ _ hi1 (by have := HL2.out; simp at this ⊢; omega) (hbr.out.trans hb1)).mono ?_; rintro e w2 ⟨rfl, hi2, hb2⟩))
          case roundEnd =>
            refine ⟨⟨q + 1, by omega, by go_num, (hbr.out.trans hb1).trans hb2, ?_⟩, by simp [intOf]; omega⟩
            show IsB _ _ _ _
            rw [HX.out]
            simpa using hi2
      · have i1 : ¬ (q : Int) < (rs.length : Int) := by omega
        have HX := Lib.hid (txtP_all (k := k) (q := q) (by have := HLK.out; omega) (by omega))
        have HWB : Hid (Calls Tryz.prog 69 #[.pointer (some ⟨bb, 0, none⟩), .int .u8 41] wr fun e w' => e = .returned .nilIface ∧ IsB B bb (L ++ txtP k q ++ [41]) w' ∧ Below B wr w') := wByte B bb _ 41 wr hir.out (by rw [HX.out]; simp; omega) (Nat.le_trans hBw hbr.out.size)
        go_wp2_with (go_at_call 69; refine HWB.out.mono ?_; rintro e w1 ⟨rfl, hi1, hb1⟩)
        go_end0
        refine ⟨rfl, ?_, hbr.out.trans hb1⟩
        rw [HTX.out]
        rw [HX.out] at hi1
        simpa using hi1
theorem wrC_all : ∀ n, WrC n := by
  intro n
  induction n with
  | zero =>
    intro B bb L t v w hn h
    have := one_ne h
    omega
  | succ n ih => exact wr_step n ih
def TextPost (t : Fa.F) (w : World) (e : Ending) (w' : World) : Prop := e = .returned (.tuple #[S8 t.txt, I64 0]) ∧ Below w.heap.size w w'
set_option maxHeartbeats 2000000 in
set_option maxRecDepth 100000 in
theorem text_any (t : Fa.F) (v : Value) (w : World) (h : Holds (fun _ => True) w t [v]) (hok : t.ok) (hl : t.txt.length ≤ 1000000000000) (hE : EnvF w) : Calls Tryz.prog 30 #[v] w (TextPost t w) := by
  have HM := Lib.hid (measure_any _ t v w h)
  have hp := one_ne h
  have HW : Hid (∀ w1, Below w.heap.size w w1 → Calls Tryz.prog 53 #[.pointer (some ⟨w1.heap.size, 0, none⟩), v] (w1.alloc (.cells #[.pointer none, .slice none 0 0] 110)) fun e w' => e = .returned (.tuple #[]) ∧ IsB w1.heap.size w1.heap.size t.txt w' ∧ Below w1.heap.size (w1.alloc (.cells #[.pointer none, .slice none 0 0] 110)) w') := fun w1 hb => by
    have hb2 : Below w1.heap.size w1 (w1.alloc (.cells #[.pointer none, .slice none 0 0] 110)) := (Below.refl _ _).alloc (Nat.le_refl _) _
    have h1 := wrC_all t.nodes w1.heap.size w1.heap.size [] t v _ (Nat.le_refl _) (((h.below hb).mono (fun b _ h => h)).below hb2) hok (isB_newF w1) (by simpa using hl) hb2.size (Nat.le_trans hE.big hb.size) ((hE.below hb).below hb2)
    simpa using h1
  have HST : Hid (∀ w1 w2 : World, IsB w1.heap.size w1.heap.size t.txt w2 → w1.heap.size ≤ w2.heap.size → Calls Tryz.prog 54 #[.pointer (some ⟨w1.heap.size, 0, none⟩)] w2 fun e w' => e = .returned (S8 t.txt) ∧ Below w1.heap.size w2 w') := fun w1 w2 hi hs => Tryz.Builder_String_any _ _ _ w2 hi hs
  obtain ⟨ty, p, rfl⟩ := h.iface
  have hm1 : ((t.nodes : Int) == 0) = false := by rw [beq_eq_false_iff_ne]; omega
  generalize t.hgt - 1 = d at HM
  clear h hok hE hp
  go_enter Tryz.func30, Tryz.ntmps30
  go_wp2_with (first | (go_at_call 43; refine HM.out.mono ?_; rintro e w1 ⟨rfl, hb1⟩) | (go_at_call 53; refine (HW.out _ hb1).mono ?_; rintro e w2 ⟨rfl, hi2, hb2⟩; have hs2 := hb2.size; simp at hs2) | (go_at_call 54; refine (HST.out _ _ hi2 (by omega)).mono ?_; rintro e w3 ⟨rfl, hb3⟩))
  go_ret2
  exact ⟨rfl, hb1.trans ((((((Below.refl w1.heap.size w1).alloc (Nat.le_refl _) _).trans hb2).trans hb3)).mono hb1.size)⟩
end Go.Proofs.YtgnhbccmdpkbiaaGreatDoor
