/-
  Walks for layer 3 (faults): write of a fault; Text.
-/
import Derived.Test.YtgnhbccmdpkbiaaGreatDoorShelfB
import Derived.Test.YtgnhbccmdpkbiaaGreatDoorFaw14
import Derived.Test.YtgnhbccmdpkbiaaGreatDoorPlain
import Derived.Test.YtgnhbccmdpkbiaaGreatDoorShelf
import Derived.Lib.ItoaLen
namespace Go.Proofs.YtgnhbccmdpkbiaaGreatDoor
open Go.RowKit Go.Shelf

abbrev S8 (l : List UInt8) : Value := .string ⟨l.toArray⟩
/-- WHAT THE VARIABLES HOLD. -/
structure EnvF (w : World) : Prop where
  big : 10 ≤ w.heap.size
  nm : ∀ k, k < 17 → w.cell? ⟨1, k, none⟩ = some (S8 (Fa.names.getD k []))
  tab : Lib.TabIs Tryz.prog w "internal/strconv.uint64pow10" .u64 Lib.pow10Tab
  et : ErrT w
theorem gpow : Tryz.prog.globalNamed "internal/strconv.uint64pow10" = some 2 := by kernel_rfl
theorem EnvF.below {w w' : World} (h : EnvF w) (hb : Below w.heap.size w w') : EnvF w' :=
  ⟨Nat.le_trans h.big hb.size, fun k hk => (hb.cell (p := ⟨_, _, none⟩) (Nat.lt_of_lt_of_le (by show 1 < 10; decide) h.big)).trans (h.nm k hk), var?_below hb gpow (Nat.lt_of_lt_of_le (by decide) h.big) h.tab, h.et.below hb⟩
theorem EnvF.belowB {B : Nat} {w w' : World} (h : EnvF w) (hB : 10 ≤ B) (hb : Below B w w') : EnvF w' :=
  ⟨Nat.le_trans h.big hb.size, fun k hk => (hb.cell (p := ⟨_, _, none⟩) (Nat.lt_of_lt_of_le (by show 1 < 10; decide) hB)).trans (h.nm k hk), var?_below hb gpow (Nat.lt_of_lt_of_le (by decide) hB) h.tab, (hb.cell (p := ⟨_, _, none⟩) (Nat.lt_of_lt_of_le (by decide) hB)).trans h.et⟩
theorem below_growF {w w' : World} (h : ∃ k os, w' = Sort.grow (w.drewN k) os) : Below w.heap.size w w' := by
  obtain ⟨k, os, rfl⟩ := h
  refine ⟨rfl, rfl, rfl, ?_, ?_⟩
  · simp [Sort.grow]
  · intro j hj; simp [Sort.grow, Array.getElem?_append, hj]
theorem itoaF (n : Int) (h0 : -1000000000 ≤ n) (h1 : n ≤ 1000000000) (w : World) (hE : EnvF w) : Calls Tryz.prog 67 #[.int .i64 n] w fun e w' => e = .returned (S8 (Lib.itoa n)) ∧ Below w.heap.size w w' := by
  refine (Tryz.strconv_Itoa n (by omega) (by omega) w hE.tab).mono ?_
  rintro e w' ⟨h1, h2⟩
  exact ⟨h1, below_growF h2⟩
theorem formatF (n : Int) (h0 : -1000000000 ≤ n) (h1 : n ≤ 1000000000) (w : World) (hE : EnvF w) : Calls Tryz.prog 68 #[.int .i64 n, .int .i64 10] w fun e w' => e = .returned (S8 (Lib.itoa n)) ∧ Below w.heap.size w w' := by
  refine (Tryz.strconv_FormatInt_10 n (by omega) (by omega) w hE.tab).mono ?_
  rintro e w' ⟨h1, h2⟩
  exact ⟨h1, below_growF h2⟩
theorem size_arr (l : List UInt8) : (⟨l.toArray⟩ : ByteArray).size = l.length := by
  show l.toArray.size = _
  simp
theorem hzs : (⟨#[32, 111, 110, 32]⟩ : ByteArray).size = 4 ∧ (⟨#[32, 111, 118, 101, 114, 32]⟩ : ByteArray).size = 6 ∧ (⟨#[58, 32]⟩ : ByteArray).size = 2 ∧ (⟨#[59, 32]⟩ : ByteArray).size = 2 ∧ ∀ l : List UInt8, (⟨l.toArray⟩ : ByteArray).size = l.length := ⟨rfl, rfl, rfl, rfl, size_arr⟩
theorem sdefs : Fa.sOn = [32, 111, 110, 32] ∧ Fa.sOver = [32, 111, 118, 101, 114, 32] := ⟨rfl, rfl⟩
theorem isB_newF (w : World) : IsB w.heap.size w.heap.size [] (w.alloc (.cells #[.pointer none, .slice none 0 0] 110)) := by
  refine .inl ⟨Nat.le_refl _, .slice none 0 0, ?_, World.ownsRow_nil _ _ _ _, by simp [Value.ownBlock]⟩
  show (w.heap.push _)[w.heap.size]? = some _
  simp
theorem isB_belowF {B b : Nat} {l : List UInt8} {w w' : World} (h : IsB B b l w) (hb : Below w.heap.size w w') : IsB B b l w' := by
  have go : ∀ p, Lib.BuilderAt 110 5 B b p (Lib.byteCells l) w → Lib.BuilderAt 110 5 B b p (Lib.byteCells l) w' := by
    rintro p ⟨h1, v, h2, h3, h4⟩
    refine ⟨h1, v, ?_, ?_, h4⟩
    · rw [hb.block b (Array.getElem?_eq_some_iff.1 h2).1]; exact h2
    · refine ⟨h3.1, ?_⟩
      rcases h3.2 with hn | ⟨g, cap, cur, rfl, hbg, hg, rest⟩
      · exact .inl hn
      · refine .inr ⟨g, cap, cur, rfl, hbg, ?_, rest⟩
        rw [hb.block g (Array.getElem?_eq_some_iff.1 hg).1]; exact hg
  rcases h with h | h
  · exact .inl (go _ h)
  · exact .inr (go _ h)
theorem lcells {B b kn : Nat} {op : ByteArray} {bk cn : Int} {cv : Value} {n d : Nat} {w w1 : World} (hb : Below B w w1) (hbB : b < B) (h : w.heap[b]? = some (.cells (linkCells ⟨(kn : Int), op, bk, cn⟩ cv n d) 86 (0, 0))) :
    w1.cell? ⟨b, 1, none⟩ = some (I64 (kn : Int)) ∧ w1.cell? ⟨b, 2, none⟩ = some (.string op) ∧ w1.cell? ⟨b, 3, none⟩ = some (I64 bk) ∧ w1.cell? ⟨b, 4, none⟩ = some (I64 cn) ∧ w1.cell? ⟨b, 5, none⟩ = some cv := by
  have h' := (hb.block b hbB).trans h
  exact ⟨blk_cell h' 1, blk_cell h' 2, blk_cell h' 3, blk_cell h' 4, blk_cell h' 5⟩
theorem names_len (k : Nat) : (Fa.names.getD k []).length ≤ 10 := by
  rcases Nat.lt_or_ge k 17 with h | h
  · have hk : ∀ k : Fin 17, (Fa.names.getD k.1 []).length ≤ 10 := by decide
    exact hk ⟨k, h⟩
  · rw [List.getD_eq_getElem?_getD, List.getElem?_eq_none (by simpa [Fa.names] using h)]; decide

def WrC (n : Nat) : Prop := ∀ (B bb : Nat) (L : List UInt8) (t : Fa.F) (v : Value) (w : World), t.nodes ≤ n → Holds (fun b => b < B) w t [v] → t.ok → IsB B bb L w → L.length + t.txt.length ≤ 1000000000000 → B ≤ w.heap.size → 10 ≤ B → EnvF w →
  Calls Tryz.prog 53 #[.pointer (some ⟨bb, 0, none⟩), v] w fun e w' => e = .returned (.tuple #[]) ∧ IsB B bb (L ++ t.txt) w' ∧ Below B w w'

set_option maxHeartbeats 4000000 in
set_option maxRecDepth 100000 in
theorem wr_111 (n : Nat) (hWr : WrC n) (B bb : Nat) (L : List UInt8) (kn : Nat) (op : ByteArray) (bk cn : Int) (c : Fa.F) (b : Nat) (cv : Value) (nn dd : Nat) (w : World) (hk : kn < 17) (hk1 : -1 ≤ bk ∧ bk < 16) (hk2 : 0 ≤ cn ∧ cn ≤ 1000000000) (hop : op.size ≤ 1000000000000)
    (hbB : b < B) (h2 : w.heap[b]? = some (.cells (linkCells ⟨(kn : Int), op, bk, cn⟩ cv nn dd) 86 (0, 0))) (hI : IsB B bb L w) (hL : L.length ≤ 1000000000000) (hBw : B ≤ w.heap.size) (hB10 : 10 ≤ B) (hE : EnvF w)
    (hbk : bk ≠ -1) (hcn : cn ≠ 0) (hcv : c ≠ .nil ∧ Holds (fun b => b < B) w c [cv] ∧ c.ok ∧ c.nodes ≤ n ∧ L.length + (Fa.F.link ⟨(kn : Int), op, bk, cn⟩ c .nil).txt.length ≤ 1000000000000) :
    Calls Tryz.prog 53 #[.pointer (some ⟨bb, 0, none⟩), linkPtr b] w fun e w' => e = .returned (.tuple #[]) ∧ IsB B bb (L ++ (Fa.F.link ⟨(kn : Int), op, bk, cn⟩ c .nil).txt) w' ∧ Below B w w' := by
  have _hu : True := (fun _ _ _ => trivial) hWr hk1 hk2
  have t1 := taLL
  have hop2 : op.data.size ≤ 1000000000000 := hop
  have H2 := Lib.hid h2
  have HNM : Hid (∀ w1, Below B w w1 → w1.cell? ⟨1, kn, none⟩ = some (S8 (Fa.names.getD kn []))) := fun w1 hb => (hE.belowB hB10 hb).nm kn hk
  have hnl := names_len kn
  have HNE : Hid (Fa.nameOf (kn : Int) = Fa.names.getD kn []) := by show _ = _; simp [Fa.nameOf]
  have HIT : Hid (∀ w1, Below B w w1 → Calls Tryz.prog 67 #[.int .i64 bk] w1 fun e w' => e = .returned (S8 (Lib.itoa bk)) ∧ Below w1.heap.size w1 w') := fun w1 hb => itoaF bk (by omega) (by omega) w1 (hE.belowB hB10 hb)
  have HFM : Hid (∀ w1, Below B w w1 → Calls Tryz.prog 68 #[.int .i64 cn, .int .i64 10] w1 fun e w' => e = .returned (S8 (Lib.itoa cn)) ∧ Below w1.heap.size w1 w') := fun w1 hb => formatF cn (by omega) (by omega) w1 (hE.belowB hB10 hb)
  have hil := Lib.itoa_length_le bk (by omega) (by omega)
  have hil2 := Lib.itoa_length_le cn (by omega) (by omega)
  have hbR := Below.refl B w
  obtain ⟨hc0, hc1, hc2, hc3, hc4⟩ := hcv
  have HTX : Hid ((Fa.F.link ⟨(kn : Int), op, bk, cn⟩ c .nil).txt = Fa.txtL ⟨(kn : Int), op, bk, cn⟩ ++ ([59, 32] ++ c.txt)) := by
    show _ = _
    cases c with
    | nil => exact absurd rfl hc0
    | link _ _ _ => simp [Fa.F.txt]
    | join _ _ => simp [Fa.F.txt]
  have HW : Hid (∀ (M : List UInt8) (w1 : World), M = L ++ Fa.txtL ⟨(kn : Int), op, bk, cn⟩ ++ [59, 32] → IsB B bb M w1 → Below B w w1 → Calls Tryz.prog 53 #[.pointer (some ⟨bb, 0, none⟩), cv] w1 fun e w' => e = .returned (.tuple #[]) ∧ IsB B bb (M ++ c.txt) w' ∧ Below B w1 w') := fun M w1 hM hi hb =>
    hWr B bb M c cv w1 hc3 (hc1.moved (fun b h1 _ => ⟨h1, hb.block b h1⟩) hb.size) hc2 hi (by
      rw [HTX.out] at hc4
      rw [hM]
      simp only [List.length_append] at hc4 ⊢
      omega) (Nat.le_trans hBw hb.size) hB10 (hE.belowB hB10 hb)
  obtain ⟨ty, pv, rfl⟩ := hc1.iface
  clear hc0 hc1 hc2 hc3 hc4
  have hb1 : (bk != -1) = true := by rw [bne_iff_ne]; exact hbk
  have HBK := Lib.hid (show Fa.txt2 ⟨(kn : Int), op, bk, cn⟩ = Fa.sOn ++ Lib.itoa bk from if_neg hbk)
  have hc1 : (cn != 0) = true := by rw [bne_iff_ne]; exact hcn
  have HCN := Lib.hid (show Fa.txt3 ⟨(kn : Int), op, bk, cn⟩ = Fa.sOver ++ Lib.itoa cn from if_neg hcn)
  obtain ⟨k1_0, k2_0, k3_0, k4_0, k5_0⟩ := lcells hbR hbB h2
  have HTL : Hid (Fa.txtL ⟨(kn : Int), op, bk, cn⟩ = op.data.toList ++ Fa.txt2 ⟨(kn : Int), op, bk, cn⟩ ++ Fa.txt3 ⟨(kn : Int), op, bk, cn⟩ ++ ([58, 32] ++ Fa.names.getD kn [])) := by
    show _ = _
    unfold Fa.txtL
    rw [HNE.out]
    rfl
  generalize Fa.names.getD kn [] = nmv at HNM HNE HTL hnl
  clear h2 hE hbk hcn hk1 hk2 hWr
  unfold linkPtr
  go_enter Tryz.func53, Tryz.ntmps53
  go_wp2_with fail
  refine (wStr _ _ _ _ _ hI (by first | (simp [hzs]; omega) | omega) (Nat.le_trans hBw hbR.size)).mono ?_
  rintro e w1 ⟨⟨n1, rfl⟩, hi1, hx1⟩
  have hb1 := hbR.trans hx1
  obtain ⟨k1_1, k2_1, k3_1, k4_1, k5_1⟩ := lcells hb1 hbB H2.out
  clear hx1
  go_wp2_with fail
  refine (HIT.out _ hb1).mono ?_
  rintro e w2 ⟨rfl, hx2⟩
  have hi2 := isB_belowF hi1 hx2
  have hb2 := hb1.trans (hx2.mono (Nat.le_trans hBw hb1.size))
  obtain ⟨k1_2, k2_2, k3_2, k4_2, k5_2⟩ := lcells hb2 hbB H2.out
  clear k1_1 k2_1 k3_1 k4_1 k5_1 hx2
  go_wp2_with fail
  refine (wStr _ _ _ _ _ hi2 (by first | (simp [hzs]; omega) | omega) (Nat.le_trans hBw hb2.size)).mono ?_
  rintro e w3 ⟨⟨n3, rfl⟩, hi3, hx3⟩
  have hb3 := hb2.trans hx3
  obtain ⟨k1_3, k2_3, k3_3, k4_3, k5_3⟩ := lcells hb3 hbB H2.out
  clear k1_2 k2_2 k3_2 k4_2 k5_2
  clear hx3
  go_wp2_with fail
  refine (HFM.out _ hb3).mono ?_
  rintro e w4 ⟨rfl, hx4⟩
  have hi4 := isB_belowF hi3 hx4
  have hb4 := hb3.trans (hx4.mono (Nat.le_trans hBw hb3.size))
  obtain ⟨k1_4, k2_4, k3_4, k4_4, k5_4⟩ := lcells hb4 hbB H2.out
  clear k1_3 k2_3 k3_3 k4_3 k5_3 hx4
  go_wp2_with fail
  refine (wStr _ _ _ _ _ hi4 (by first | (simp [hzs]; omega) | omega) (Nat.le_trans hBw hb4.size)).mono ?_
  rintro e w5 ⟨⟨n5, rfl⟩, hi5, hx5⟩
  have hb5 := hb4.trans hx5
  obtain ⟨k1_5, k2_5, k3_5, k4_5, k5_5⟩ := lcells hb5 hbB H2.out
  clear k1_4 k2_4 k3_4 k4_4 k5_4
  clear hx5
  have nm := HNM.out _ hb5
  go_wp2_with fail
  refine (wStr _ _ _ _ _ hi5 (by first | (simp [hzs]; omega) | omega) (Nat.le_trans hBw hb5.size)).mono ?_
  rintro e w6 ⟨⟨n6, rfl⟩, hi6, hx6⟩
  have hb6 := hb5.trans hx6
  obtain ⟨k1_6, k2_6, k3_6, k4_6, k5_6⟩ := lcells hb6 hbB H2.out
  clear k1_5 k2_5 k3_5 k4_5 k5_5
  clear hx6
  clear nm
  go_wp2_with fail
  refine (wStr _ _ _ _ _ hi6 (by first | (simp [hzs]; omega) | omega) (Nat.le_trans hBw hb6.size)).mono ?_
  rintro e w7 ⟨⟨n7, rfl⟩, hi7, hx7⟩
  have hb7 := hb6.trans hx7
  obtain ⟨k1_7, k2_7, k3_7, k4_7, k5_7⟩ := lcells hb7 hbB H2.out
  clear k1_6 k2_6 k3_6 k4_6 k5_6
  clear hx7
  go_wp2_with fail
  refine (HW.out _ _ (by rw [HTL.out, HBK.out, HCN.out]; simp [sdefs]) hi7 hb7).mono ?_
  rintro e w8 ⟨rfl, hi8, hx8⟩
  have hb8 := hb7.trans hx8
  go_wp2
  go_end0
  exact ⟨rfl, by rw [HTX.out, HTL.out, HBK.out, HCN.out]; simpa [sdefs] using hi8, hb8⟩

set_option maxHeartbeats 4000000 in
set_option maxRecDepth 100000 in
theorem wr_110 (n : Nat) (hWr : WrC n) (B bb : Nat) (L : List UInt8) (kn : Nat) (op : ByteArray) (bk cn : Int) (c : Fa.F) (b : Nat) (cv : Value) (nn dd : Nat) (w : World) (hk : kn < 17) (hk1 : -1 ≤ bk ∧ bk < 16) (hk2 : 0 ≤ cn ∧ cn ≤ 1000000000) (hop : op.size ≤ 1000000000000)
    (hbB : b < B) (h2 : w.heap[b]? = some (.cells (linkCells ⟨(kn : Int), op, bk, cn⟩ cv nn dd) 86 (0, 0))) (hI : IsB B bb L w) (hL : L.length ≤ 1000000000000) (hBw : B ≤ w.heap.size) (hB10 : 10 ≤ B) (hE : EnvF w)
    (hbk : bk ≠ -1) (hcn : cn ≠ 0) (hcv : c = .nil ∧ cv = .nilIface) :
    Calls Tryz.prog 53 #[.pointer (some ⟨bb, 0, none⟩), linkPtr b] w fun e w' => e = .returned (.tuple #[]) ∧ IsB B bb (L ++ (Fa.F.link ⟨(kn : Int), op, bk, cn⟩ c .nil).txt) w' ∧ Below B w w' := by
  have _hu : True := (fun _ _ _ => trivial) hWr hk1 hk2
  have t1 := taLL
  have hop2 : op.data.size ≤ 1000000000000 := hop
  have H2 := Lib.hid h2
  have HNM : Hid (∀ w1, Below B w w1 → w1.cell? ⟨1, kn, none⟩ = some (S8 (Fa.names.getD kn []))) := fun w1 hb => (hE.belowB hB10 hb).nm kn hk
  have hnl := names_len kn
  have HNE : Hid (Fa.nameOf (kn : Int) = Fa.names.getD kn []) := by show _ = _; simp [Fa.nameOf]
  have HIT : Hid (∀ w1, Below B w w1 → Calls Tryz.prog 67 #[.int .i64 bk] w1 fun e w' => e = .returned (S8 (Lib.itoa bk)) ∧ Below w1.heap.size w1 w') := fun w1 hb => itoaF bk (by omega) (by omega) w1 (hE.belowB hB10 hb)
  have HFM : Hid (∀ w1, Below B w w1 → Calls Tryz.prog 68 #[.int .i64 cn, .int .i64 10] w1 fun e w' => e = .returned (S8 (Lib.itoa cn)) ∧ Below w1.heap.size w1 w') := fun w1 hb => formatF cn (by omega) (by omega) w1 (hE.belowB hB10 hb)
  have hil := Lib.itoa_length_le bk (by omega) (by omega)
  have hil2 := Lib.itoa_length_le cn (by omega) (by omega)
  have hbR := Below.refl B w
  obtain ⟨rfl, rfl⟩ := hcv
  have HTX : Hid ((Fa.F.link ⟨(kn : Int), op, bk, cn⟩ .nil .nil).txt = Fa.txtL ⟨(kn : Int), op, bk, cn⟩) := by show _ = _; simp [Fa.F.txt]
  have hb1 : (bk != -1) = true := by rw [bne_iff_ne]; exact hbk
  have HBK := Lib.hid (show Fa.txt2 ⟨(kn : Int), op, bk, cn⟩ = Fa.sOn ++ Lib.itoa bk from if_neg hbk)
  have hc1 : (cn != 0) = true := by rw [bne_iff_ne]; exact hcn
  have HCN := Lib.hid (show Fa.txt3 ⟨(kn : Int), op, bk, cn⟩ = Fa.sOver ++ Lib.itoa cn from if_neg hcn)
  obtain ⟨k1_0, k2_0, k3_0, k4_0, k5_0⟩ := lcells hbR hbB h2
  have HTL : Hid (Fa.txtL ⟨(kn : Int), op, bk, cn⟩ = op.data.toList ++ Fa.txt2 ⟨(kn : Int), op, bk, cn⟩ ++ Fa.txt3 ⟨(kn : Int), op, bk, cn⟩ ++ ([58, 32] ++ Fa.names.getD kn [])) := by
    show _ = _
    unfold Fa.txtL
    rw [HNE.out]
    rfl
  clear hWr
  generalize Fa.names.getD kn [] = nmv at HNM HNE HTL hnl
  clear h2 hE hbk hcn hk1 hk2
  unfold linkPtr
  go_enter Tryz.func53, Tryz.ntmps53
  go_wp2_with fail
  refine (wStr _ _ _ _ _ hI (by first | (simp [hzs]; omega) | omega) (Nat.le_trans hBw hbR.size)).mono ?_
  rintro e w1 ⟨⟨n1, rfl⟩, hi1, hx1⟩
  have hb1 := hbR.trans hx1
  obtain ⟨k1_1, k2_1, k3_1, k4_1, k5_1⟩ := lcells hb1 hbB H2.out
  clear hx1
  go_wp2_with fail
  refine (HIT.out _ hb1).mono ?_
  rintro e w2 ⟨rfl, hx2⟩
  have hi2 := isB_belowF hi1 hx2
  have hb2 := hb1.trans (hx2.mono (Nat.le_trans hBw hb1.size))
  obtain ⟨k1_2, k2_2, k3_2, k4_2, k5_2⟩ := lcells hb2 hbB H2.out
  clear k1_1 k2_1 k3_1 k4_1 k5_1 hx2
  go_wp2_with fail
  refine (wStr _ _ _ _ _ hi2 (by first | (simp [hzs]; omega) | omega) (Nat.le_trans hBw hb2.size)).mono ?_
  rintro e w3 ⟨⟨n3, rfl⟩, hi3, hx3⟩
  have hb3 := hb2.trans hx3
  obtain ⟨k1_3, k2_3, k3_3, k4_3, k5_3⟩ := lcells hb3 hbB H2.out
  clear k1_2 k2_2 k3_2 k4_2 k5_2
  clear hx3
  go_wp2_with fail
  refine (HFM.out _ hb3).mono ?_
  rintro e w4 ⟨rfl, hx4⟩
  have hi4 := isB_belowF hi3 hx4
  have hb4 := hb3.trans (hx4.mono (Nat.le_trans hBw hb3.size))
  obtain ⟨k1_4, k2_4, k3_4, k4_4, k5_4⟩ := lcells hb4 hbB H2.out
  clear k1_3 k2_3 k3_3 k4_3 k5_3 hx4
  go_wp2_with fail
  refine (wStr _ _ _ _ _ hi4 (by first | (simp [hzs]; omega) | omega) (Nat.le_trans hBw hb4.size)).mono ?_
  rintro e w5 ⟨⟨n5, rfl⟩, hi5, hx5⟩
  have hb5 := hb4.trans hx5
  obtain ⟨k1_5, k2_5, k3_5, k4_5, k5_5⟩ := lcells hb5 hbB H2.out
  clear k1_4 k2_4 k3_4 k4_4 k5_4
  clear hx5
  have nm := HNM.out _ hb5
  go_wp2_with fail
  refine (wStr _ _ _ _ _ hi5 (by first | (simp [hzs]; omega) | omega) (Nat.le_trans hBw hb5.size)).mono ?_
  rintro e w6 ⟨⟨n6, rfl⟩, hi6, hx6⟩
  have hb6 := hb5.trans hx6
  obtain ⟨k1_6, k2_6, k3_6, k4_6, k5_6⟩ := lcells hb6 hbB H2.out
  clear k1_5 k2_5 k3_5 k4_5 k5_5
  clear hx6
  clear nm
  go_wp2
  go_end0
  exact ⟨rfl, by rw [HTX.out, HTL.out, HBK.out, HCN.out]; simpa [sdefs] using hi6, hb6⟩

set_option maxHeartbeats 4000000 in
set_option maxRecDepth 100000 in
theorem wr_101 (n : Nat) (hWr : WrC n) (B bb : Nat) (L : List UInt8) (kn : Nat) (op : ByteArray) (bk cn : Int) (c : Fa.F) (b : Nat) (cv : Value) (nn dd : Nat) (w : World) (hk : kn < 17) (hk1 : -1 ≤ bk ∧ bk < 16) (hk2 : 0 ≤ cn ∧ cn ≤ 1000000000) (hop : op.size ≤ 1000000000000)
    (hbB : b < B) (h2 : w.heap[b]? = some (.cells (linkCells ⟨(kn : Int), op, bk, cn⟩ cv nn dd) 86 (0, 0))) (hI : IsB B bb L w) (hL : L.length ≤ 1000000000000) (hBw : B ≤ w.heap.size) (hB10 : 10 ≤ B) (hE : EnvF w)
    (hbk : bk ≠ -1) (hcn : cn = 0) (hcv : c ≠ .nil ∧ Holds (fun b => b < B) w c [cv] ∧ c.ok ∧ c.nodes ≤ n ∧ L.length + (Fa.F.link ⟨(kn : Int), op, bk, cn⟩ c .nil).txt.length ≤ 1000000000000) :
    Calls Tryz.prog 53 #[.pointer (some ⟨bb, 0, none⟩), linkPtr b] w fun e w' => e = .returned (.tuple #[]) ∧ IsB B bb (L ++ (Fa.F.link ⟨(kn : Int), op, bk, cn⟩ c .nil).txt) w' ∧ Below B w w' := by
  have _hu : True := (fun _ _ _ => trivial) hWr hk1 hk2
  have t1 := taLL
  have hop2 : op.data.size ≤ 1000000000000 := hop
  have H2 := Lib.hid h2
  have HNM : Hid (∀ w1, Below B w w1 → w1.cell? ⟨1, kn, none⟩ = some (S8 (Fa.names.getD kn []))) := fun w1 hb => (hE.belowB hB10 hb).nm kn hk
  have hnl := names_len kn
  have HNE : Hid (Fa.nameOf (kn : Int) = Fa.names.getD kn []) := by show _ = _; simp [Fa.nameOf]
  have HIT : Hid (∀ w1, Below B w w1 → Calls Tryz.prog 67 #[.int .i64 bk] w1 fun e w' => e = .returned (S8 (Lib.itoa bk)) ∧ Below w1.heap.size w1 w') := fun w1 hb => itoaF bk (by omega) (by omega) w1 (hE.belowB hB10 hb)
  have hil := Lib.itoa_length_le bk (by omega) (by omega)
  have hbR := Below.refl B w
  obtain ⟨hc0, hc1, hc2, hc3, hc4⟩ := hcv
  have HTX : Hid ((Fa.F.link ⟨(kn : Int), op, bk, cn⟩ c .nil).txt = Fa.txtL ⟨(kn : Int), op, bk, cn⟩ ++ ([59, 32] ++ c.txt)) := by
    show _ = _
    cases c with
    | nil => exact absurd rfl hc0
    | link _ _ _ => simp [Fa.F.txt]
    | join _ _ => simp [Fa.F.txt]
  have HW : Hid (∀ (M : List UInt8) (w1 : World), M = L ++ Fa.txtL ⟨(kn : Int), op, bk, cn⟩ ++ [59, 32] → IsB B bb M w1 → Below B w w1 → Calls Tryz.prog 53 #[.pointer (some ⟨bb, 0, none⟩), cv] w1 fun e w' => e = .returned (.tuple #[]) ∧ IsB B bb (M ++ c.txt) w' ∧ Below B w1 w') := fun M w1 hM hi hb =>
    hWr B bb M c cv w1 hc3 (hc1.moved (fun b h1 _ => ⟨h1, hb.block b h1⟩) hb.size) hc2 hi (by
      rw [HTX.out] at hc4
      rw [hM]
      simp only [List.length_append] at hc4 ⊢
      omega) (Nat.le_trans hBw hb.size) hB10 (hE.belowB hB10 hb)
  obtain ⟨ty, pv, rfl⟩ := hc1.iface
  clear hc0 hc1 hc2 hc3 hc4
  have hb1 : (bk != -1) = true := by rw [bne_iff_ne]; exact hbk
  have HBK := Lib.hid (show Fa.txt2 ⟨(kn : Int), op, bk, cn⟩ = Fa.sOn ++ Lib.itoa bk from if_neg hbk)
  have hc1 : (cn != 0) = false := by rw [bne_eq_false_iff_eq]; exact hcn
  have HCN := Lib.hid (show Fa.txt3 ⟨(kn : Int), op, bk, cn⟩ = [] from if_pos hcn)
  obtain ⟨k1_0, k2_0, k3_0, k4_0, k5_0⟩ := lcells hbR hbB h2
  have HTL : Hid (Fa.txtL ⟨(kn : Int), op, bk, cn⟩ = op.data.toList ++ Fa.txt2 ⟨(kn : Int), op, bk, cn⟩ ++ Fa.txt3 ⟨(kn : Int), op, bk, cn⟩ ++ ([58, 32] ++ Fa.names.getD kn [])) := by
    show _ = _
    unfold Fa.txtL
    rw [HNE.out]
    rfl
  generalize Fa.names.getD kn [] = nmv at HNM HNE HTL hnl
  clear h2 hE hbk hcn hk1 hk2 hWr
  unfold linkPtr
  go_enter Tryz.func53, Tryz.ntmps53
  go_wp2_with fail
  refine (wStr _ _ _ _ _ hI (by first | (simp [hzs]; omega) | omega) (Nat.le_trans hBw hbR.size)).mono ?_
  rintro e w1 ⟨⟨n1, rfl⟩, hi1, hx1⟩
  have hb1 := hbR.trans hx1
  obtain ⟨k1_1, k2_1, k3_1, k4_1, k5_1⟩ := lcells hb1 hbB H2.out
  clear hx1
  go_wp2_with fail
  refine (HIT.out _ hb1).mono ?_
  rintro e w2 ⟨rfl, hx2⟩
  have hi2 := isB_belowF hi1 hx2
  have hb2 := hb1.trans (hx2.mono (Nat.le_trans hBw hb1.size))
  obtain ⟨k1_2, k2_2, k3_2, k4_2, k5_2⟩ := lcells hb2 hbB H2.out
  clear k1_1 k2_1 k3_1 k4_1 k5_1 hx2
  go_wp2_with fail
  refine (wStr _ _ _ _ _ hi2 (by first | (simp [hzs]; omega) | omega) (Nat.le_trans hBw hb2.size)).mono ?_
  rintro e w3 ⟨⟨n3, rfl⟩, hi3, hx3⟩
  have hb3 := hb2.trans hx3
  obtain ⟨k1_3, k2_3, k3_3, k4_3, k5_3⟩ := lcells hb3 hbB H2.out
  clear k1_2 k2_2 k3_2 k4_2 k5_2
  clear hx3
  have nm := HNM.out _ hb3
  go_wp2_with fail
  refine (wStr _ _ _ _ _ hi3 (by first | (simp [hzs]; omega) | omega) (Nat.le_trans hBw hb3.size)).mono ?_
  rintro e w4 ⟨⟨n4, rfl⟩, hi4, hx4⟩
  have hb4 := hb3.trans hx4
  obtain ⟨k1_4, k2_4, k3_4, k4_4, k5_4⟩ := lcells hb4 hbB H2.out
  clear k1_3 k2_3 k3_3 k4_3 k5_3
  clear hx4
  clear nm
  go_wp2_with fail
  refine (wStr _ _ _ _ _ hi4 (by first | (simp [hzs]; omega) | omega) (Nat.le_trans hBw hb4.size)).mono ?_
  rintro e w5 ⟨⟨n5, rfl⟩, hi5, hx5⟩
  have hb5 := hb4.trans hx5
  obtain ⟨k1_5, k2_5, k3_5, k4_5, k5_5⟩ := lcells hb5 hbB H2.out
  clear k1_4 k2_4 k3_4 k4_4 k5_4
  clear hx5
  go_wp2_with fail
  refine (HW.out _ _ (by rw [HTL.out, HBK.out, HCN.out]; simp [sdefs]) hi5 hb5).mono ?_
  rintro e w6 ⟨rfl, hi6, hx6⟩
  have hb6 := hb5.trans hx6
  go_wp2
  go_end0
  exact ⟨rfl, by rw [HTX.out, HTL.out, HBK.out, HCN.out]; simpa [sdefs] using hi6, hb6⟩

set_option maxHeartbeats 4000000 in
set_option maxRecDepth 100000 in
theorem wr_100 (n : Nat) (hWr : WrC n) (B bb : Nat) (L : List UInt8) (kn : Nat) (op : ByteArray) (bk cn : Int) (c : Fa.F) (b : Nat) (cv : Value) (nn dd : Nat) (w : World) (hk : kn < 17) (hk1 : -1 ≤ bk ∧ bk < 16) (hk2 : 0 ≤ cn ∧ cn ≤ 1000000000) (hop : op.size ≤ 1000000000000)
    (hbB : b < B) (h2 : w.heap[b]? = some (.cells (linkCells ⟨(kn : Int), op, bk, cn⟩ cv nn dd) 86 (0, 0))) (hI : IsB B bb L w) (hL : L.length ≤ 1000000000000) (hBw : B ≤ w.heap.size) (hB10 : 10 ≤ B) (hE : EnvF w)
    (hbk : bk ≠ -1) (hcn : cn = 0) (hcv : c = .nil ∧ cv = .nilIface) :
    Calls Tryz.prog 53 #[.pointer (some ⟨bb, 0, none⟩), linkPtr b] w fun e w' => e = .returned (.tuple #[]) ∧ IsB B bb (L ++ (Fa.F.link ⟨(kn : Int), op, bk, cn⟩ c .nil).txt) w' ∧ Below B w w' := by
  have _hu : True := (fun _ _ _ => trivial) hWr hk1 hk2
  have t1 := taLL
  have hop2 : op.data.size ≤ 1000000000000 := hop
  have H2 := Lib.hid h2
  have HNM : Hid (∀ w1, Below B w w1 → w1.cell? ⟨1, kn, none⟩ = some (S8 (Fa.names.getD kn []))) := fun w1 hb => (hE.belowB hB10 hb).nm kn hk
  have hnl := names_len kn
  have HNE : Hid (Fa.nameOf (kn : Int) = Fa.names.getD kn []) := by show _ = _; simp [Fa.nameOf]
  have HIT : Hid (∀ w1, Below B w w1 → Calls Tryz.prog 67 #[.int .i64 bk] w1 fun e w' => e = .returned (S8 (Lib.itoa bk)) ∧ Below w1.heap.size w1 w') := fun w1 hb => itoaF bk (by omega) (by omega) w1 (hE.belowB hB10 hb)
  have hil := Lib.itoa_length_le bk (by omega) (by omega)
  have hbR := Below.refl B w
  obtain ⟨rfl, rfl⟩ := hcv
  have HTX : Hid ((Fa.F.link ⟨(kn : Int), op, bk, cn⟩ .nil .nil).txt = Fa.txtL ⟨(kn : Int), op, bk, cn⟩) := by show _ = _; simp [Fa.F.txt]
  have hb1 : (bk != -1) = true := by rw [bne_iff_ne]; exact hbk
  have HBK := Lib.hid (show Fa.txt2 ⟨(kn : Int), op, bk, cn⟩ = Fa.sOn ++ Lib.itoa bk from if_neg hbk)
  have hc1 : (cn != 0) = false := by rw [bne_eq_false_iff_eq]; exact hcn
  have HCN := Lib.hid (show Fa.txt3 ⟨(kn : Int), op, bk, cn⟩ = [] from if_pos hcn)
  obtain ⟨k1_0, k2_0, k3_0, k4_0, k5_0⟩ := lcells hbR hbB h2
  have HTL : Hid (Fa.txtL ⟨(kn : Int), op, bk, cn⟩ = op.data.toList ++ Fa.txt2 ⟨(kn : Int), op, bk, cn⟩ ++ Fa.txt3 ⟨(kn : Int), op, bk, cn⟩ ++ ([58, 32] ++ Fa.names.getD kn [])) := by
    show _ = _
    unfold Fa.txtL
    rw [HNE.out]
    rfl
  clear hWr
  generalize Fa.names.getD kn [] = nmv at HNM HNE HTL hnl
  clear h2 hE hbk hcn hk1 hk2
  unfold linkPtr
  go_enter Tryz.func53, Tryz.ntmps53
  go_wp2_with fail
  refine (wStr _ _ _ _ _ hI (by first | (simp [hzs]; omega) | omega) (Nat.le_trans hBw hbR.size)).mono ?_
  rintro e w1 ⟨⟨n1, rfl⟩, hi1, hx1⟩
  have hb1 := hbR.trans hx1
  obtain ⟨k1_1, k2_1, k3_1, k4_1, k5_1⟩ := lcells hb1 hbB H2.out
  clear hx1
  go_wp2_with fail
  refine (HIT.out _ hb1).mono ?_
  rintro e w2 ⟨rfl, hx2⟩
  have hi2 := isB_belowF hi1 hx2
  have hb2 := hb1.trans (hx2.mono (Nat.le_trans hBw hb1.size))
  obtain ⟨k1_2, k2_2, k3_2, k4_2, k5_2⟩ := lcells hb2 hbB H2.out
  clear k1_1 k2_1 k3_1 k4_1 k5_1 hx2
  go_wp2_with fail
  refine (wStr _ _ _ _ _ hi2 (by first | (simp [hzs]; omega) | omega) (Nat.le_trans hBw hb2.size)).mono ?_
  rintro e w3 ⟨⟨n3, rfl⟩, hi3, hx3⟩
  have hb3 := hb2.trans hx3
  obtain ⟨k1_3, k2_3, k3_3, k4_3, k5_3⟩ := lcells hb3 hbB H2.out
  clear k1_2 k2_2 k3_2 k4_2 k5_2
  clear hx3
  have nm := HNM.out _ hb3
  go_wp2_with fail
  refine (wStr _ _ _ _ _ hi3 (by first | (simp [hzs]; omega) | omega) (Nat.le_trans hBw hb3.size)).mono ?_
  rintro e w4 ⟨⟨n4, rfl⟩, hi4, hx4⟩
  have hb4 := hb3.trans hx4
  obtain ⟨k1_4, k2_4, k3_4, k4_4, k5_4⟩ := lcells hb4 hbB H2.out
  clear k1_3 k2_3 k3_3 k4_3 k5_3
  clear hx4
  clear nm
  go_wp2
  go_end0
  exact ⟨rfl, by rw [HTX.out, HTL.out, HBK.out, HCN.out]; simpa [sdefs] using hi4, hb4⟩

set_option maxHeartbeats 4000000 in
set_option maxRecDepth 100000 in
theorem wr_011 (n : Nat) (hWr : WrC n) (B bb : Nat) (L : List UInt8) (kn : Nat) (op : ByteArray) (bk cn : Int) (c : Fa.F) (b : Nat) (cv : Value) (nn dd : Nat) (w : World) (hk : kn < 17) (hk1 : -1 ≤ bk ∧ bk < 16) (hk2 : 0 ≤ cn ∧ cn ≤ 1000000000) (hop : op.size ≤ 1000000000000)
    (hbB : b < B) (h2 : w.heap[b]? = some (.cells (linkCells ⟨(kn : Int), op, bk, cn⟩ cv nn dd) 86 (0, 0))) (hI : IsB B bb L w) (hL : L.length ≤ 1000000000000) (hBw : B ≤ w.heap.size) (hB10 : 10 ≤ B) (hE : EnvF w)
    (hbk : bk = -1) (hcn : cn ≠ 0) (hcv : c ≠ .nil ∧ Holds (fun b => b < B) w c [cv] ∧ c.ok ∧ c.nodes ≤ n ∧ L.length + (Fa.F.link ⟨(kn : Int), op, bk, cn⟩ c .nil).txt.length ≤ 1000000000000) :
    Calls Tryz.prog 53 #[.pointer (some ⟨bb, 0, none⟩), linkPtr b] w fun e w' => e = .returned (.tuple #[]) ∧ IsB B bb (L ++ (Fa.F.link ⟨(kn : Int), op, bk, cn⟩ c .nil).txt) w' ∧ Below B w w' := by
  have _hu : True := (fun _ _ _ => trivial) hWr hk1 hk2
  have t1 := taLL
  have hop2 : op.data.size ≤ 1000000000000 := hop
  have H2 := Lib.hid h2
  have HNM : Hid (∀ w1, Below B w w1 → w1.cell? ⟨1, kn, none⟩ = some (S8 (Fa.names.getD kn []))) := fun w1 hb => (hE.belowB hB10 hb).nm kn hk
  have hnl := names_len kn
  have HNE : Hid (Fa.nameOf (kn : Int) = Fa.names.getD kn []) := by show _ = _; simp [Fa.nameOf]
  have HFM : Hid (∀ w1, Below B w w1 → Calls Tryz.prog 68 #[.int .i64 cn, .int .i64 10] w1 fun e w' => e = .returned (S8 (Lib.itoa cn)) ∧ Below w1.heap.size w1 w') := fun w1 hb => formatF cn (by omega) (by omega) w1 (hE.belowB hB10 hb)
  have hil2 := Lib.itoa_length_le cn (by omega) (by omega)
  have hbR := Below.refl B w
  obtain ⟨hc0, hc1, hc2, hc3, hc4⟩ := hcv
  have HTX : Hid ((Fa.F.link ⟨(kn : Int), op, bk, cn⟩ c .nil).txt = Fa.txtL ⟨(kn : Int), op, bk, cn⟩ ++ ([59, 32] ++ c.txt)) := by
    show _ = _
    cases c with
    | nil => exact absurd rfl hc0
    | link _ _ _ => simp [Fa.F.txt]
    | join _ _ => simp [Fa.F.txt]
  have HW : Hid (∀ (M : List UInt8) (w1 : World), M = L ++ Fa.txtL ⟨(kn : Int), op, bk, cn⟩ ++ [59, 32] → IsB B bb M w1 → Below B w w1 → Calls Tryz.prog 53 #[.pointer (some ⟨bb, 0, none⟩), cv] w1 fun e w' => e = .returned (.tuple #[]) ∧ IsB B bb (M ++ c.txt) w' ∧ Below B w1 w') := fun M w1 hM hi hb =>
    hWr B bb M c cv w1 hc3 (hc1.moved (fun b h1 _ => ⟨h1, hb.block b h1⟩) hb.size) hc2 hi (by
      rw [HTX.out] at hc4
      rw [hM]
      simp only [List.length_append] at hc4 ⊢
      omega) (Nat.le_trans hBw hb.size) hB10 (hE.belowB hB10 hb)
  obtain ⟨ty, pv, rfl⟩ := hc1.iface
  clear hc0 hc1 hc2 hc3 hc4
  have hb1 : (bk != -1) = false := by rw [bne_eq_false_iff_eq]; exact hbk
  have HBK := Lib.hid (show Fa.txt2 ⟨(kn : Int), op, bk, cn⟩ = [] from if_pos hbk)
  have hc1 : (cn != 0) = true := by rw [bne_iff_ne]; exact hcn
  have HCN := Lib.hid (show Fa.txt3 ⟨(kn : Int), op, bk, cn⟩ = Fa.sOver ++ Lib.itoa cn from if_neg hcn)
  obtain ⟨k1_0, k2_0, k3_0, k4_0, k5_0⟩ := lcells hbR hbB h2
  have HTL : Hid (Fa.txtL ⟨(kn : Int), op, bk, cn⟩ = op.data.toList ++ Fa.txt2 ⟨(kn : Int), op, bk, cn⟩ ++ Fa.txt3 ⟨(kn : Int), op, bk, cn⟩ ++ ([58, 32] ++ Fa.names.getD kn [])) := by
    show _ = _
    unfold Fa.txtL
    rw [HNE.out]
    rfl
  generalize Fa.names.getD kn [] = nmv at HNM HNE HTL hnl
  clear h2 hE hbk hcn hk1 hk2 hWr
  unfold linkPtr
  go_enter Tryz.func53, Tryz.ntmps53
  go_wp2_with fail
  refine (wStr _ _ _ _ _ hI (by first | (simp [hzs]; omega) | omega) (Nat.le_trans hBw hbR.size)).mono ?_
  rintro e w1 ⟨⟨n1, rfl⟩, hi1, hx1⟩
  have hb1 := hbR.trans hx1
  obtain ⟨k1_1, k2_1, k3_1, k4_1, k5_1⟩ := lcells hb1 hbB H2.out
  clear hx1
  go_wp2_with fail
  refine (HFM.out _ hb1).mono ?_
  rintro e w2 ⟨rfl, hx2⟩
  have hi2 := isB_belowF hi1 hx2
  have hb2 := hb1.trans (hx2.mono (Nat.le_trans hBw hb1.size))
  obtain ⟨k1_2, k2_2, k3_2, k4_2, k5_2⟩ := lcells hb2 hbB H2.out
  clear k1_1 k2_1 k3_1 k4_1 k5_1 hx2
  go_wp2_with fail
  refine (wStr _ _ _ _ _ hi2 (by first | (simp [hzs]; omega) | omega) (Nat.le_trans hBw hb2.size)).mono ?_
  rintro e w3 ⟨⟨n3, rfl⟩, hi3, hx3⟩
  have hb3 := hb2.trans hx3
  obtain ⟨k1_3, k2_3, k3_3, k4_3, k5_3⟩ := lcells hb3 hbB H2.out
  clear k1_2 k2_2 k3_2 k4_2 k5_2
  clear hx3
  have nm := HNM.out _ hb3
  go_wp2_with fail
  refine (wStr _ _ _ _ _ hi3 (by first | (simp [hzs]; omega) | omega) (Nat.le_trans hBw hb3.size)).mono ?_
  rintro e w4 ⟨⟨n4, rfl⟩, hi4, hx4⟩
  have hb4 := hb3.trans hx4
  obtain ⟨k1_4, k2_4, k3_4, k4_4, k5_4⟩ := lcells hb4 hbB H2.out
  clear k1_3 k2_3 k3_3 k4_3 k5_3
  clear hx4
  clear nm
  go_wp2_with fail
  refine (wStr _ _ _ _ _ hi4 (by first | (simp [hzs]; omega) | omega) (Nat.le_trans hBw hb4.size)).mono ?_
  rintro e w5 ⟨⟨n5, rfl⟩, hi5, hx5⟩
  have hb5 := hb4.trans hx5
  obtain ⟨k1_5, k2_5, k3_5, k4_5, k5_5⟩ := lcells hb5 hbB H2.out
  clear k1_4 k2_4 k3_4 k4_4 k5_4
  clear hx5
  go_wp2_with fail
  refine (HW.out _ _ (by rw [HTL.out, HBK.out, HCN.out]; simp [sdefs]) hi5 hb5).mono ?_
  rintro e w6 ⟨rfl, hi6, hx6⟩
  have hb6 := hb5.trans hx6
  go_wp2
  go_end0
  exact ⟨rfl, by rw [HTX.out, HTL.out, HBK.out, HCN.out]; simpa [sdefs] using hi6, hb6⟩

set_option maxHeartbeats 4000000 in
set_option maxRecDepth 100000 in
theorem wr_010 (n : Nat) (hWr : WrC n) (B bb : Nat) (L : List UInt8) (kn : Nat) (op : ByteArray) (bk cn : Int) (c : Fa.F) (b : Nat) (cv : Value) (nn dd : Nat) (w : World) (hk : kn < 17) (hk1 : -1 ≤ bk ∧ bk < 16) (hk2 : 0 ≤ cn ∧ cn ≤ 1000000000) (hop : op.size ≤ 1000000000000)
    (hbB : b < B) (h2 : w.heap[b]? = some (.cells (linkCells ⟨(kn : Int), op, bk, cn⟩ cv nn dd) 86 (0, 0))) (hI : IsB B bb L w) (hL : L.length ≤ 1000000000000) (hBw : B ≤ w.heap.size) (hB10 : 10 ≤ B) (hE : EnvF w)
    (hbk : bk = -1) (hcn : cn ≠ 0) (hcv : c = .nil ∧ cv = .nilIface) :
    Calls Tryz.prog 53 #[.pointer (some ⟨bb, 0, none⟩), linkPtr b] w fun e w' => e = .returned (.tuple #[]) ∧ IsB B bb (L ++ (Fa.F.link ⟨(kn : Int), op, bk, cn⟩ c .nil).txt) w' ∧ Below B w w' := by
  have _hu : True := (fun _ _ _ => trivial) hWr hk1 hk2
  have t1 := taLL
  have hop2 : op.data.size ≤ 1000000000000 := hop
  have H2 := Lib.hid h2
  have HNM : Hid (∀ w1, Below B w w1 → w1.cell? ⟨1, kn, none⟩ = some (S8 (Fa.names.getD kn []))) := fun w1 hb => (hE.belowB hB10 hb).nm kn hk
  have hnl := names_len kn
  have HNE : Hid (Fa.nameOf (kn : Int) = Fa.names.getD kn []) := by show _ = _; simp [Fa.nameOf]
  have HFM : Hid (∀ w1, Below B w w1 → Calls Tryz.prog 68 #[.int .i64 cn, .int .i64 10] w1 fun e w' => e = .returned (S8 (Lib.itoa cn)) ∧ Below w1.heap.size w1 w') := fun w1 hb => formatF cn (by omega) (by omega) w1 (hE.belowB hB10 hb)
  have hil2 := Lib.itoa_length_le cn (by omega) (by omega)
  have hbR := Below.refl B w
  obtain ⟨rfl, rfl⟩ := hcv
  have HTX : Hid ((Fa.F.link ⟨(kn : Int), op, bk, cn⟩ .nil .nil).txt = Fa.txtL ⟨(kn : Int), op, bk, cn⟩) := by show _ = _; simp [Fa.F.txt]
  have hb1 : (bk != -1) = false := by rw [bne_eq_false_iff_eq]; exact hbk
  have HBK := Lib.hid (show Fa.txt2 ⟨(kn : Int), op, bk, cn⟩ = [] from if_pos hbk)
  have hc1 : (cn != 0) = true := by rw [bne_iff_ne]; exact hcn
  have HCN := Lib.hid (show Fa.txt3 ⟨(kn : Int), op, bk, cn⟩ = Fa.sOver ++ Lib.itoa cn from if_neg hcn)
  obtain ⟨k1_0, k2_0, k3_0, k4_0, k5_0⟩ := lcells hbR hbB h2
  have HTL : Hid (Fa.txtL ⟨(kn : Int), op, bk, cn⟩ = op.data.toList ++ Fa.txt2 ⟨(kn : Int), op, bk, cn⟩ ++ Fa.txt3 ⟨(kn : Int), op, bk, cn⟩ ++ ([58, 32] ++ Fa.names.getD kn [])) := by
    show _ = _
    unfold Fa.txtL
    rw [HNE.out]
    rfl
  clear hWr
  generalize Fa.names.getD kn [] = nmv at HNM HNE HTL hnl
  clear h2 hE hbk hcn hk1 hk2
  unfold linkPtr
  go_enter Tryz.func53, Tryz.ntmps53
  go_wp2_with fail
  refine (wStr _ _ _ _ _ hI (by first | (simp [hzs]; omega) | omega) (Nat.le_trans hBw hbR.size)).mono ?_
  rintro e w1 ⟨⟨n1, rfl⟩, hi1, hx1⟩
  have hb1 := hbR.trans hx1
  obtain ⟨k1_1, k2_1, k3_1, k4_1, k5_1⟩ := lcells hb1 hbB H2.out
  clear hx1
  go_wp2_with fail
  refine (HFM.out _ hb1).mono ?_
  rintro e w2 ⟨rfl, hx2⟩
  have hi2 := isB_belowF hi1 hx2
  have hb2 := hb1.trans (hx2.mono (Nat.le_trans hBw hb1.size))
  obtain ⟨k1_2, k2_2, k3_2, k4_2, k5_2⟩ := lcells hb2 hbB H2.out
  clear k1_1 k2_1 k3_1 k4_1 k5_1 hx2
  go_wp2_with fail
  refine (wStr _ _ _ _ _ hi2 (by first | (simp [hzs]; omega) | omega) (Nat.le_trans hBw hb2.size)).mono ?_
  rintro e w3 ⟨⟨n3, rfl⟩, hi3, hx3⟩
  have hb3 := hb2.trans hx3
  obtain ⟨k1_3, k2_3, k3_3, k4_3, k5_3⟩ := lcells hb3 hbB H2.out
  clear k1_2 k2_2 k3_2 k4_2 k5_2
  clear hx3
  have nm := HNM.out _ hb3
  go_wp2_with fail
  refine (wStr _ _ _ _ _ hi3 (by first | (simp [hzs]; omega) | omega) (Nat.le_trans hBw hb3.size)).mono ?_
  rintro e w4 ⟨⟨n4, rfl⟩, hi4, hx4⟩
  have hb4 := hb3.trans hx4
  obtain ⟨k1_4, k2_4, k3_4, k4_4, k5_4⟩ := lcells hb4 hbB H2.out
  clear k1_3 k2_3 k3_3 k4_3 k5_3
  clear hx4
  clear nm
  go_wp2
  go_end0
  exact ⟨rfl, by rw [HTX.out, HTL.out, HBK.out, HCN.out]; simpa [sdefs] using hi4, hb4⟩

set_option maxHeartbeats 4000000 in
set_option maxRecDepth 100000 in
theorem wr_001 (n : Nat) (hWr : WrC n) (B bb : Nat) (L : List UInt8) (kn : Nat) (op : ByteArray) (bk cn : Int) (c : Fa.F) (b : Nat) (cv : Value) (nn dd : Nat) (w : World) (hk : kn < 17) (hk1 : -1 ≤ bk ∧ bk < 16) (hk2 : 0 ≤ cn ∧ cn ≤ 1000000000) (hop : op.size ≤ 1000000000000)
    (hbB : b < B) (h2 : w.heap[b]? = some (.cells (linkCells ⟨(kn : Int), op, bk, cn⟩ cv nn dd) 86 (0, 0))) (hI : IsB B bb L w) (hL : L.length ≤ 1000000000000) (hBw : B ≤ w.heap.size) (hB10 : 10 ≤ B) (hE : EnvF w)
    (hbk : bk = -1) (hcn : cn = 0) (hcv : c ≠ .nil ∧ Holds (fun b => b < B) w c [cv] ∧ c.ok ∧ c.nodes ≤ n ∧ L.length + (Fa.F.link ⟨(kn : Int), op, bk, cn⟩ c .nil).txt.length ≤ 1000000000000) :
    Calls Tryz.prog 53 #[.pointer (some ⟨bb, 0, none⟩), linkPtr b] w fun e w' => e = .returned (.tuple #[]) ∧ IsB B bb (L ++ (Fa.F.link ⟨(kn : Int), op, bk, cn⟩ c .nil).txt) w' ∧ Below B w w' := by
  have _hu : True := (fun _ _ _ => trivial) hWr hk1 hk2
  have t1 := taLL
  have hop2 : op.data.size ≤ 1000000000000 := hop
  have H2 := Lib.hid h2
  have HNM : Hid (∀ w1, Below B w w1 → w1.cell? ⟨1, kn, none⟩ = some (S8 (Fa.names.getD kn []))) := fun w1 hb => (hE.belowB hB10 hb).nm kn hk
  have hnl := names_len kn
  have HNE : Hid (Fa.nameOf (kn : Int) = Fa.names.getD kn []) := by show _ = _; simp [Fa.nameOf]
  have hbR := Below.refl B w
  obtain ⟨hc0, hc1, hc2, hc3, hc4⟩ := hcv
  have HTX : Hid ((Fa.F.link ⟨(kn : Int), op, bk, cn⟩ c .nil).txt = Fa.txtL ⟨(kn : Int), op, bk, cn⟩ ++ ([59, 32] ++ c.txt)) := by
    show _ = _
    cases c with
    | nil => exact absurd rfl hc0
    | link _ _ _ => simp [Fa.F.txt]
    | join _ _ => simp [Fa.F.txt]
  have HW : Hid (∀ (M : List UInt8) (w1 : World), M = L ++ Fa.txtL ⟨(kn : Int), op, bk, cn⟩ ++ [59, 32] → IsB B bb M w1 → Below B w w1 → Calls Tryz.prog 53 #[.pointer (some ⟨bb, 0, none⟩), cv] w1 fun e w' => e = .returned (.tuple #[]) ∧ IsB B bb (M ++ c.txt) w' ∧ Below B w1 w') := fun M w1 hM hi hb =>
    hWr B bb M c cv w1 hc3 (hc1.moved (fun b h1 _ => ⟨h1, hb.block b h1⟩) hb.size) hc2 hi (by
      rw [HTX.out] at hc4
      rw [hM]
      simp only [List.length_append] at hc4 ⊢
      omega) (Nat.le_trans hBw hb.size) hB10 (hE.belowB hB10 hb)
  obtain ⟨ty, pv, rfl⟩ := hc1.iface
  clear hc0 hc1 hc2 hc3 hc4
  have hb1 : (bk != -1) = false := by rw [bne_eq_false_iff_eq]; exact hbk
  have HBK := Lib.hid (show Fa.txt2 ⟨(kn : Int), op, bk, cn⟩ = [] from if_pos hbk)
  have hc1 : (cn != 0) = false := by rw [bne_eq_false_iff_eq]; exact hcn
  have HCN := Lib.hid (show Fa.txt3 ⟨(kn : Int), op, bk, cn⟩ = [] from if_pos hcn)
  obtain ⟨k1_0, k2_0, k3_0, k4_0, k5_0⟩ := lcells hbR hbB h2
  have HTL : Hid (Fa.txtL ⟨(kn : Int), op, bk, cn⟩ = op.data.toList ++ Fa.txt2 ⟨(kn : Int), op, bk, cn⟩ ++ Fa.txt3 ⟨(kn : Int), op, bk, cn⟩ ++ ([58, 32] ++ Fa.names.getD kn [])) := by
    show _ = _
    unfold Fa.txtL
    rw [HNE.out]
    rfl
  generalize Fa.names.getD kn [] = nmv at HNM HNE HTL hnl
  clear h2 hE hbk hcn hk1 hk2 hWr
  unfold linkPtr
  go_enter Tryz.func53, Tryz.ntmps53
  go_wp2_with fail
  refine (wStr _ _ _ _ _ hI (by first | (simp [hzs]; omega) | omega) (Nat.le_trans hBw hbR.size)).mono ?_
  rintro e w1 ⟨⟨n1, rfl⟩, hi1, hx1⟩
  have hb1 := hbR.trans hx1
  obtain ⟨k1_1, k2_1, k3_1, k4_1, k5_1⟩ := lcells hb1 hbB H2.out
  clear hx1
  have nm := HNM.out _ hb1
  go_wp2_with fail
  refine (wStr _ _ _ _ _ hi1 (by first | (simp [hzs]; omega) | omega) (Nat.le_trans hBw hb1.size)).mono ?_
  rintro e w2 ⟨⟨n2, rfl⟩, hi2, hx2⟩
  have hb2 := hb1.trans hx2
  obtain ⟨k1_2, k2_2, k3_2, k4_2, k5_2⟩ := lcells hb2 hbB H2.out
  clear k1_1 k2_1 k3_1 k4_1 k5_1
  clear hx2
  clear nm
  go_wp2_with fail
  refine (wStr _ _ _ _ _ hi2 (by first | (simp [hzs]; omega) | omega) (Nat.le_trans hBw hb2.size)).mono ?_
  rintro e w3 ⟨⟨n3, rfl⟩, hi3, hx3⟩
  have hb3 := hb2.trans hx3
  obtain ⟨k1_3, k2_3, k3_3, k4_3, k5_3⟩ := lcells hb3 hbB H2.out
  clear k1_2 k2_2 k3_2 k4_2 k5_2
  clear hx3
  go_wp2_with fail
  refine (HW.out _ _ (by rw [HTL.out, HBK.out, HCN.out]; simp) hi3 hb3).mono ?_
  rintro e w4 ⟨rfl, hi4, hx4⟩
  have hb4 := hb3.trans hx4
  go_wp2
  go_end0
  exact ⟨rfl, by rw [HTX.out, HTL.out, HBK.out, HCN.out]; simpa using hi4, hb4⟩

set_option maxHeartbeats 4000000 in
set_option maxRecDepth 100000 in
theorem wr_000 (n : Nat) (hWr : WrC n) (B bb : Nat) (L : List UInt8) (kn : Nat) (op : ByteArray) (bk cn : Int) (c : Fa.F) (b : Nat) (cv : Value) (nn dd : Nat) (w : World) (hk : kn < 17) (hk1 : -1 ≤ bk ∧ bk < 16) (hk2 : 0 ≤ cn ∧ cn ≤ 1000000000) (hop : op.size ≤ 1000000000000)
    (hbB : b < B) (h2 : w.heap[b]? = some (.cells (linkCells ⟨(kn : Int), op, bk, cn⟩ cv nn dd) 86 (0, 0))) (hI : IsB B bb L w) (hL : L.length ≤ 1000000000000) (hBw : B ≤ w.heap.size) (hB10 : 10 ≤ B) (hE : EnvF w)
    (hbk : bk = -1) (hcn : cn = 0) (hcv : c = .nil ∧ cv = .nilIface) :
    Calls Tryz.prog 53 #[.pointer (some ⟨bb, 0, none⟩), linkPtr b] w fun e w' => e = .returned (.tuple #[]) ∧ IsB B bb (L ++ (Fa.F.link ⟨(kn : Int), op, bk, cn⟩ c .nil).txt) w' ∧ Below B w w' := by
  have _hu : True := (fun _ _ _ => trivial) hWr hk1 hk2
  have t1 := taLL
  have hop2 : op.data.size ≤ 1000000000000 := hop
  have H2 := Lib.hid h2
  have HNM : Hid (∀ w1, Below B w w1 → w1.cell? ⟨1, kn, none⟩ = some (S8 (Fa.names.getD kn []))) := fun w1 hb => (hE.belowB hB10 hb).nm kn hk
  have hnl := names_len kn
  have HNE : Hid (Fa.nameOf (kn : Int) = Fa.names.getD kn []) := by show _ = _; simp [Fa.nameOf]
  have hbR := Below.refl B w
  obtain ⟨rfl, rfl⟩ := hcv
  have HTX : Hid ((Fa.F.link ⟨(kn : Int), op, bk, cn⟩ .nil .nil).txt = Fa.txtL ⟨(kn : Int), op, bk, cn⟩) := by show _ = _; simp [Fa.F.txt]
  have hb1 : (bk != -1) = false := by rw [bne_eq_false_iff_eq]; exact hbk
  have HBK := Lib.hid (show Fa.txt2 ⟨(kn : Int), op, bk, cn⟩ = [] from if_pos hbk)
  have hc1 : (cn != 0) = false := by rw [bne_eq_false_iff_eq]; exact hcn
  have HCN := Lib.hid (show Fa.txt3 ⟨(kn : Int), op, bk, cn⟩ = [] from if_pos hcn)
  obtain ⟨k1_0, k2_0, k3_0, k4_0, k5_0⟩ := lcells hbR hbB h2
  have HTL : Hid (Fa.txtL ⟨(kn : Int), op, bk, cn⟩ = op.data.toList ++ Fa.txt2 ⟨(kn : Int), op, bk, cn⟩ ++ Fa.txt3 ⟨(kn : Int), op, bk, cn⟩ ++ ([58, 32] ++ Fa.names.getD kn [])) := by
    show _ = _
    unfold Fa.txtL
    rw [HNE.out]
    rfl
  clear hWr
  generalize Fa.names.getD kn [] = nmv at HNM HNE HTL hnl
  clear h2 hE hbk hcn hk1 hk2
  unfold linkPtr
  go_enter Tryz.func53, Tryz.ntmps53
  go_wp2_with fail
  refine (wStr _ _ _ _ _ hI (by first | (simp [hzs]; omega) | omega) (Nat.le_trans hBw hbR.size)).mono ?_
  rintro e w1 ⟨⟨n1, rfl⟩, hi1, hx1⟩
  have hb1 := hbR.trans hx1
  obtain ⟨k1_1, k2_1, k3_1, k4_1, k5_1⟩ := lcells hb1 hbB H2.out
  clear hx1
  have nm := HNM.out _ hb1
  go_wp2_with fail
  refine (wStr _ _ _ _ _ hi1 (by first | (simp [hzs]; omega) | omega) (Nat.le_trans hBw hb1.size)).mono ?_
  rintro e w2 ⟨⟨n2, rfl⟩, hi2, hx2⟩
  have hb2 := hb1.trans hx2
  obtain ⟨k1_2, k2_2, k3_2, k4_2, k5_2⟩ := lcells hb2 hbB H2.out
  clear k1_1 k2_1 k3_1 k4_1 k5_1
  clear hx2
  clear nm
  go_wp2
  go_end0
  exact ⟨rfl, by rw [HTX.out, HTL.out, HBK.out, HCN.out]; simpa using hi2, hb2⟩
end Go.Proofs.YtgnhbccmdpkbiaaGreatDoor
