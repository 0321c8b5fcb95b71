/-
  Walks for layer 3 (faults): write of a fault; Text.
-/
import Derived.Test.YtgnhbccmdpkbiaaDoorShelfB
import Derived.Test.YtgnhbccmdpkbiaaDoorFaAs
import Derived.Test.YtgnhbccmdpkbiaaDoorPlain
import Derived.Test.YtgnhbccmdpkbiaaDoorShelf
import Derived.Lib.ItoaLen
namespace Go.Proofs.YtgnhbccmdpkbiaaDoor
open Go.RowKit Go.Shelf

abbrev S8 (l : List UInt8) : Value := .string ⟨l.toArray⟩
/-- WHAT THE VARIABLES HOLD. -/
structure EnvF (w : World) : Prop where
  big : 8 ≤ w.heap.size
  nm : ∀ k, k < 17 → w.cell? ⟨1, k, none⟩ = some (S8 (Fa.names.getD k []))
  tab : Lib.TabIs Tryd.prog w "internal/strconv.uint64pow10" .u64 Lib.pow10Tab
  et : ErrT w
theorem gpow : Tryd.prog.globalNamed "internal/strconv.uint64pow10" = some 2 := by kernel_rfl
theorem EnvF.below {w w' : World} (h : EnvF w) (hb : Below w.heap.size w w') : EnvF w' :=
  ⟨Nat.le_trans h.big hb.size, fun k hk => (hb.cell (p := ⟨_, _, none⟩) (Nat.lt_of_lt_of_le (by show 1 < 8; decide) h.big)).trans (h.nm k hk), var?_below hb gpow (Nat.lt_of_lt_of_le (by decide) h.big) h.tab, h.et.below hb⟩
theorem EnvF.belowB {B : Nat} {w w' : World} (h : EnvF w) (hB : 8 ≤ B) (hb : Below B w w') : EnvF w' :=
  ⟨Nat.le_trans h.big hb.size, fun k hk => (hb.cell (p := ⟨_, _, none⟩) (Nat.lt_of_lt_of_le (by show 1 < 8; decide) hB)).trans (h.nm k hk), var?_below hb gpow (Nat.lt_of_lt_of_le (by decide) hB) h.tab, (hb.cell (p := ⟨_, _, none⟩) (Nat.lt_of_lt_of_le (by decide) hB)).trans h.et⟩
theorem below_growF {w w' : World} (h : ∃ k os, w' = Sort.grow (w.drewN k) os) : Below w.heap.size w w' := by
  obtain ⟨k, os, rfl⟩ := h
  refine ⟨rfl, rfl, rfl, ?_, ?_⟩
  · simp [Sort.grow]
  · intro j hj; simp [Sort.grow, Array.getElem?_append, hj]
theorem itoaF (n : Int) (h0 : -1000000000 ≤ n) (h1 : n ≤ 1000000000) (w : World) (hE : EnvF w) : Calls Tryd.prog 37 #[.int .i64 n] w fun e w' => e = .returned (S8 (Lib.itoa n)) ∧ Below w.heap.size w w' := by
  refine (Tryd.strconv_Itoa n (by omega) (by omega) w hE.tab).mono ?_
  rintro e w' ⟨h1, h2⟩
  exact ⟨h1, below_growF h2⟩
theorem formatF (n : Int) (h0 : -1000000000 ≤ n) (h1 : n ≤ 1000000000) (w : World) (hE : EnvF w) : Calls Tryd.prog 38 #[.int .i64 n, .int .i64 10] w fun e w' => e = .returned (S8 (Lib.itoa n)) ∧ Below w.heap.size w w' := by
  refine (Tryd.strconv_FormatInt_10 n (by omega) (by omega) w hE.tab).mono ?_
  rintro e w' ⟨h1, h2⟩
  exact ⟨h1, below_growF h2⟩
theorem size_arr (l : List UInt8) : (⟨l.toArray⟩ : ByteArray).size = l.length := by
  show l.toArray.size = _
  simp
theorem hzs : (⟨#[32, 111, 110, 32]⟩ : ByteArray).size = 4 ∧ (⟨#[32, 111, 118, 101, 114, 32]⟩ : ByteArray).size = 6 ∧ (⟨#[58, 32]⟩ : ByteArray).size = 2 ∧ (⟨#[59, 32]⟩ : ByteArray).size = 2 ∧ ∀ l : List UInt8, (⟨l.toArray⟩ : ByteArray).size = l.length := ⟨rfl, rfl, rfl, rfl, size_arr⟩
theorem sdefs : Fa.sOn = [32, 111, 110, 32] ∧ Fa.sOver = [32, 111, 118, 101, 114, 32] := ⟨rfl, rfl⟩
theorem isB_newF (w : World) : IsB w.heap.size w.heap.size [] (w.alloc (.cells #[.pointer none, .slice none 0 0] 73)) := by
  refine .inl ⟨Nat.le_refl _, .slice none 0 0, ?_, World.ownsRow_nil _ _ _ _, by simp [Value.ownBlock]⟩
  show (w.heap.push _)[w.heap.size]? = some _
  simp
theorem isB_belowF {B b : Nat} {l : List UInt8} {w w' : World} (h : IsB B b l w) (hb : Below w.heap.size w w') : IsB B b l w' := by
  have go : ∀ p, Lib.BuilderAt 73 5 B b p (Lib.byteCells l) w → Lib.BuilderAt 73 5 B b p (Lib.byteCells l) w' := by
    rintro p ⟨h1, v, h2, h3, h4⟩
    refine ⟨h1, v, ?_, ?_, h4⟩
    · rw [hb.block b (Array.getElem?_eq_some_iff.1 h2).1]; exact h2
    · refine ⟨h3.1, ?_⟩
      rcases h3.2 with hn | ⟨g, cap, cur, rfl, hbg, hg, rest⟩
      · exact .inl hn
      · refine .inr ⟨g, cap, cur, rfl, hbg, ?_, rest⟩
        rw [hb.block g (Array.getElem?_eq_some_iff.1 hg).1]; exact hg
  rcases h with h | h
  · exact .inl (go _ h)
  · exact .inr (go _ h)
theorem lcells {B b kn : Nat} {op : ByteArray} {bk cn : Int} {cv : Value} {n d : Nat} {w w1 : World} (hb : Below B w w1) (hbB : b < B) (h : w.heap[b]? = some (.cells (linkCells ⟨(kn : Int), op, bk, cn⟩ cv n d) 35 (0, 0))) :
    w1.cell? ⟨b, 1, none⟩ = some (I64 (kn : Int)) ∧ w1.cell? ⟨b, 2, none⟩ = some (.string op) ∧ w1.cell? ⟨b, 3, none⟩ = some (I64 bk) ∧ w1.cell? ⟨b, 4, none⟩ = some (I64 cn) ∧ w1.cell? ⟨b, 5, none⟩ = some cv := by
  have h' := (hb.block b hbB).trans h
  exact ⟨blk_cell h' 1, blk_cell h' 2, blk_cell h' 3, blk_cell h' 4, blk_cell h' 5⟩
theorem names_len (k : Nat) : (Fa.names.getD k []).length ≤ 10 := by
  rcases Nat.lt_or_ge k 17 with h | h
  · have hk : ∀ k : Fin 17, (Fa.names.getD k.1 []).length ≤ 10 := by decide
    exact hk ⟨k, h⟩
  · rw [List.getD_eq_getElem?_getD, List.getElem?_eq_none (by simpa [Fa.names] using h)]; decide

def WrC (n : Nat) : Prop := ∀ (B bb : Nat) (L : List UInt8) (t : Fa.F) (v : Value) (w : World), t.nodes ≤ n → Holds (fun b => b < B) w t [v] → t.ok → IsB B bb L w → L.length + t.txt.length ≤ 1000000000000 → B ≤ w.heap.size → 8 ≤ B → EnvF w →
  Calls Tryd.prog 27 #[.pointer (some ⟨bb, 0, none⟩), v] w fun e w' => e = .returned (.tuple #[]) ∧ IsB B bb (L ++ t.txt) w' ∧ Below B w w'

set_option maxHeartbeats 4000000 in
set_option maxRecDepth 100000 in
theorem wr_111 (n : Nat) (hWr : WrC n) (B bb : Nat) (L : List UInt8) (kn : Nat) (op : ByteArray) (bk cn : Int) (c : Fa.F) (b : Nat) (cv : Value) (nn dd : Nat) (w : World) (hk : kn < 17) (hk1 : -1 ≤ bk ∧ bk < 16) (hk2 : 0 ≤ cn ∧ cn ≤ 1000000000) (hop : op.size ≤ 1000000000000)
    (hbB : b < B) (h2 : w.heap[b]? = some (.cells (linkCells ⟨(kn : Int), op, bk, cn⟩ cv nn dd) 35 (0, 0))) (hI : IsB B bb L w) (hL : L.length ≤ 1000000000000) (hBw : B ≤ w.heap.size) (hB10 : 8 ≤ B) (hE : EnvF w)
    (hbk : bk ≠ -1) (hcn : cn ≠ 0) (hcv : c ≠ .nil ∧ Holds (fun b => b < B) w c [cv] ∧ c.ok ∧ c.nodes ≤ n ∧ L.length + (Fa.F.link ⟨(kn : Int), op, bk, cn⟩ c .nil).txt.length ≤ 1000000000000) :
    Calls Tryd.prog 27 #[.pointer (some ⟨bb, 0, none⟩), linkPtr b] w fun e w' => e = .returned (.tuple #[]) ∧ IsB B bb (L ++ (Fa.F.link ⟨(kn : Int), op, bk, cn⟩ c .nil).txt) w' ∧ Below B w w' := by
  have _hu : True := (fun _ _ _ => trivial) hWr hk1 hk2
  have t1 := taLL
  have hop2 : op.data.size ≤ 1000000000000 := hop
  have H2 := Lib.hid h2
  have HNM : Hid (∀ w1, Below B w w1 → w1.cell? ⟨1, kn, none⟩ = some (S8 (Fa.names.getD kn []))) := fun w1 hb => (hE.belowB hB10 hb).nm kn hk
  have hnl := names_len kn
  have HNE : Hid (Fa.nameOf (kn : Int) = Fa.names.getD kn []) := by show _ = _; simp [Fa.nameOf]
  have HIT : Hid (∀ w1, Below B w w1 → Calls Tryd.prog 37 #[.int .i64 bk] w1 fun e w' => e = .returned (S8 (Lib.itoa bk)) ∧ Below w1.heap.size w1 w') := fun w1 hb => itoaF bk (by omega) (by omega) w1 (hE.belowB hB10 hb)
  have HFM : Hid (∀ w1, Below B w w1 → Calls Tryd.prog 38 #[.int .i64 cn, .int .i64 10] w1 fun e w' => e = .returned (S8 (Lib.itoa cn)) ∧ Below w1.heap.size w1 w') := fun w1 hb => formatF cn (by omega) (by omega) w1 (hE.belowB hB10 hb)
  have hil := Lib.itoa_length_le bk (by omega) (by omega)
  have hil2 := Lib.itoa_length_le cn (by omega) (by omega)
  have hbR := Below.refl B w
  obtain ⟨hc0, hc1, hc2, hc3, hc4⟩ := hcv
  have HTX : Hid ((Fa.F.link ⟨(kn : Int), op, bk, cn⟩ c .nil).txt = Fa.txtL ⟨(kn : Int), op, bk, cn⟩ ++ ([59, 32] ++ c.txt)) := by
    show _ = _
    cases c with
    | nil => exact absurd rfl hc0
    | link _ _ _ => simp [Fa.F.txt]
    | join _ _ => simp [Fa.F.txt]
  have HW : Hid (∀ (M : List UInt8) (w1 : World), M = L ++ Fa.txtL ⟨(kn : Int), op, bk, cn⟩ ++ [59, 32] → IsB B bb M w1 → Below B w w1 → Calls Tryd.prog 27 #[.pointer (some ⟨bb, 0, none⟩), cv] w1 fun e w' => e = .returned (.tuple #[]) ∧ IsB B bb (M ++ c.txt) w' ∧ Below B w1 w') := fun M w1 hM hi hb =>
    hWr B bb M c cv w1 hc3 (hc1.moved (fun b h1 _ => ⟨h1, hb.block b h1⟩) hb.size) hc2 hi (by
      rw [HTX.out] at hc4
      rw [hM]
      simp only [List.length_append] at hc4 ⊢
      omega) (Nat.le_trans hBw hb.size) hB10 (hE.belowB hB10 hb)
  obtain ⟨ty, pv, rfl⟩ := hc1.iface
  clear hc0 hc1 hc2 hc3 hc4
  have hb1 : (bk != -1) = true := by rw [bne_iff_ne]; exact hbk
  have HBK := Lib.hid (show Fa.txt2 ⟨(kn : Int), op, bk, cn⟩ = Fa.sOn ++ Lib.itoa bk from if_neg hbk)
  have hc1 : (cn != 0) = true := by rw [bne_iff_ne]; exact hcn
  have HCN := Lib.hid (show Fa.txt3 ⟨(kn : Int), op, bk, cn⟩ = Fa.sOver ++ Lib.itoa cn from if_neg hcn)
  obtain ⟨k1_0, k2_0, k3_0, k4_0, k5_0⟩ := lcells hbR hbB h2
  have HTL : Hid (Fa.txtL ⟨(kn : Int), op, bk, cn⟩ = op.data.toList ++ Fa.txt2 ⟨(kn : Int), op, bk, cn⟩ ++ Fa.txt3 ⟨(kn : Int), op, bk, cn⟩ ++ ([58, 32] ++ Fa.names.getD kn [])) := by
    show _ = _
    unfold Fa.txtL
    rw [HNE.out]
    rfl
  generalize Fa.names.getD kn [] = nmv at HNM HNE HTL hnl
  clear h2 hE hbk hcn hk1 hk2 hWr
  unfold linkPtr
  go_enter Tryd.func27, Tryd.ntmps27
  go_wp2_with fail
  refine (wStr _ _ _ _ _ hI (by first | (simp [hzs]; omega) | omega) (Nat.le_trans hBw hbR.size)).mono ?_
  rintro e w1 ⟨⟨n1, rfl⟩, hi1, hx1⟩
  have hb1 := hbR.trans hx1
  obtain ⟨k1_1, k2_1, k3_1, k4_1, k5_1⟩ := lcells hb1 hbB H2.out
  clear hx1
  go_wp2_with fail
  refine (HIT.out _ hb1).mono ?_
  rintro e w2 ⟨rfl, hx2⟩
  have hi2 := isB_belowF hi1 hx2
  have hb2 := hb1.trans (hx2.mono (Nat.le_trans hBw hb1.size))
  obtain ⟨k1_2, k2_2, k3_2, k4_2, k5_2⟩ := lcells hb2 hbB H2.out
  clear k1_1 k2_1 k3_1 k4_1 k5_1 hx2
  go_wp2_with fail
  refine (wStr _ _ _ _ _ hi2 (by first | (simp [hzs]; omega) | omega) (Nat.le_trans hBw hb2.size)).mono ?_
  rintro e w3 ⟨⟨n3, rfl⟩, hi3, hx3⟩
  have hb3 := hb2.trans hx3
  obtain ⟨k1_3, k2_3, k3_3, k4_3, k5_3⟩ := lcells hb3 hbB H2.out
  clear k1_2 k2_2 k3_2 k4_2 k5_2
  clear hx3
  go_wp2_with fail
  refine (HFM.out _ hb3).mono ?_
  rintro e w4 ⟨rfl, hx4⟩
  have hi4 := isB_belowF hi3 hx4
  have hb4 := hb3.trans (hx4.mono (Nat.le_trans hBw hb3.size))
  obtain ⟨k1_4, k2_4, k3_4, k4_4, k5_4⟩ := lcells hb4 hbB H2.out
  clear k1_3 k2_3 k3_3 k4_3 k5_3 hx4
  go_wp2_with fail
  refine (wStr _ _ _ _ _ hi4 (by first | (simp [hzs]; omega) | omega) (Nat.le_trans hBw hb4.size)).mono ?_
  rintro e w5 ⟨⟨n5, rfl⟩, hi5, hx5⟩
  have hb5 := hb4.trans hx5
  obtain ⟨k1_5, k2_5, k3_5, k4_5, k5_5⟩ := lcells hb5 hbB H2.out
  clear k1_4 k2_4 k3_4 k4_4 k5_4
  clear hx5
  have nm := HNM.out _ hb5
  go_wp2_with fail
  refine (wStr _ _ _ _ _ hi5 (by first | (simp [hzs]; omega) | omega) (Nat.le_trans hBw hb5.size)).mono ?_
  rintro e w6 ⟨⟨n6, rfl⟩, hi6, hx6⟩
  have hb6 := hb5.trans hx6
  obtain ⟨k1_6, k2_6, k3_6, k4_6, k5_6⟩ := lcells hb6 hbB H2.out
  clear k1_5 k2_5 k3_5 k4_5 k5_5
  clear hx6
  clear nm
  go_wp2_with fail
  refine (wStr _ _ _ _ _ hi6 (by first | (simp [hzs]; omega) | omega) (Nat.le_trans hBw hb6.size)).mono ?_
  rintro e w7 ⟨⟨n7, rfl⟩, hi7, hx7⟩
  have hb7 := hb6.trans hx7
  obtain ⟨k1_7, k2_7, k3_7, k4_7, k5_7⟩ := lcells hb7 hbB H2.out
  clear k1_6 k2_6 k3_6 k4_6 k5_6
  clear hx7
  go_wp2_with fail
  refine (HW.out _ _ (by rw [HTL.out, HBK.out, HCN.out]; simp [sdefs]) hi7 hb7).mono ?_
  rintro e w8 ⟨rfl, hi8, hx8⟩
  have hb8 := hb7.trans hx8
  go_wp2
  go_end0
  exact ⟨rfl, by rw [HTX.out, HTL.out, HBK.out, HCN.out]; simpa [sdefs] using hi8, hb8⟩

set_option maxHeartbeats 4000000 in
set_option maxRecDepth 100000 in
theorem wr_110 (n : Nat) (hWr : WrC n) (B bb : Nat) (L : List UInt8) (kn : Nat) (op : ByteArray) (bk cn : Int) (c : Fa.F) (b : Nat) (cv : Value) (nn dd : Nat) (w : World) (hk : kn < 17) (hk1 : -1 ≤ bk ∧ bk < 16) (hk2 : 0 ≤ cn ∧ cn ≤ 1000000000) (hop : op.size ≤ 1000000000000)
    (hbB : b < B) (h2 : w.heap[b]? = some (.cells (linkCells ⟨(kn : Int), op, bk, cn⟩ cv nn dd) 35 (0, 0))) (hI : IsB B bb L w) (hL : L.length ≤ 1000000000000) (hBw : B ≤ w.heap.size) (hB10 : 8 ≤ B) (hE : EnvF w)
    (hbk : bk ≠ -1) (hcn : cn ≠ 0) (hcv : c = .nil ∧ cv = .nilIface) :
    Calls Tryd.prog 27 #[.pointer (some ⟨bb, 0, none⟩), linkPtr b] w fun e w' => e = .returned (.tuple #[]) ∧ IsB B bb (L ++ (Fa.F.link ⟨(kn : Int), op, bk, cn⟩ c .nil).txt) w' ∧ Below B w w' := by
  have _hu : True := (fun _ _ _ => trivial) hWr hk1 hk2
  have t1 := taLL
  have hop2 : op.data.size ≤ 1000000000000 := hop
  have H2 := Lib.hid h2
  have HNM : Hid (∀ w1, Below B w w1 → w1.cell? ⟨1, kn, none⟩ = some (S8 (Fa.names.getD kn []))) := fun w1 hb => (hE.belowB hB10 hb).nm kn hk
  have hnl := names_len kn
  have HNE : Hid (Fa.nameOf (kn : Int) = Fa.names.getD kn []) := by show _ = _; simp [Fa.nameOf]
  have HIT : Hid (∀ w1, Below B w w1 → Calls Tryd.prog 37 #[.int .i64 bk] w1 fun e w' => e = .returned (S8 (Lib.itoa bk)) ∧ Below w1.heap.size w1 w') := fun w1 hb => itoaF bk (by omega) (by omega) w1 (hE.belowB hB10 hb)
  have HFM : Hid (∀ w1, Below B w w1 → Calls Tryd.prog 38 #[.int .i64 cn, .int .i64 10] w1 fun e w' => e = .returned (S8 (Lib.itoa cn)) ∧ Below w1.heap.size w1 w') := fun w1 hb => formatF cn (by omega) (by omega) w1 (hE.belowB hB10 hb)
  have hil := Lib.itoa_length_le bk (by omega) (by omega)
  have hil2 := Lib.itoa_length_le cn (by omega) (by omega)
  have hbR := Below.refl B w
  obtain ⟨rfl, rfl⟩ := hcv
  have HTX : Hid ((Fa.F.link ⟨(kn : Int), op, bk, cn⟩ .nil .nil).txt = Fa.txtL ⟨(kn : Int), op, bk, cn⟩) := by show _ = _; simp [Fa.F.txt]
  have hb1 : (bk != -1) = true := by rw [bne_iff_ne]; exact hbk
  have HBK := Lib.hid (show Fa.txt2 ⟨(kn : Int), op, bk, cn⟩ = Fa.sOn ++ Lib.itoa bk from if_neg hbk)
  have hc1 : (cn != 0) = true := by rw [bne_iff_ne]; exact hcn
  have HCN := Lib.hid (show Fa.txt3 ⟨(kn : Int), op, bk, cn⟩ = Fa.sOver ++ Lib.itoa cn from if_neg hcn)
  obtain ⟨k1_0, k2_0, k3_0, k4_0, k5_0⟩ := lcells hbR hbB h2
  have HTL : Hid (Fa.txtL ⟨(kn : Int), op, bk, cn⟩ = op.data.toList ++ Fa.txt2 ⟨(kn : Int), op, bk, cn⟩ ++ Fa.txt3 ⟨(kn : Int), op, bk, cn⟩ ++ ([58, 32] ++ Fa.names.getD kn [])) := by
    show _ = _
    unfold Fa.txtL
    rw [HNE.out]
    rfl
  clear hWr
  generalize Fa.names.getD kn [] = nmv at HNM HNE HTL hnl
  clear h2 hE hbk hcn hk1 hk2
  unfold linkPtr
  go_enter Tryd.func27, Tryd.ntmps27
  go_wp2_with fail
  refine (wStr _ _ _ _ _ hI (by first | (simp [hzs]; omega) | omega) (Nat.le_trans hBw hbR.size)).mono ?_
  rintro e w1 ⟨⟨n1, rfl⟩, hi1, hx1⟩
  have hb1 := hbR.trans hx1
  obtain ⟨k1_1, k2_1, k3_1, k4_1, k5_1⟩ := lcells hb1 hbB H2.out
  clear hx1
  go_wp2_with fail
  refine (HIT.out _ hb1).mono ?_
  rintro e w2 ⟨rfl, hx2⟩
  have hi2 := isB_belowF hi1 hx2
  have hb2 := hb1.trans (hx2.mono (Nat.le_trans hBw hb1.size))
  obtain ⟨k1_2, k2_2, k3_2, k4_2, k5_2⟩ := lcells hb2 hbB H2.out
  clear k1_1 k2_1 k3_1 k4_1 k5_1 hx2
  go_wp2_with fail
  refine (wStr _ _ _ _ _ hi2 (by first | (simp [hzs]; omega) | omega) (Nat.le_trans hBw hb2.size)).mono ?_
  rintro e w3 ⟨⟨n3, rfl⟩, hi3, hx3⟩
  have hb3 := hb2.trans hx3
  obtain ⟨k1_3, k2_3, k3_3, k4_3, k5_3⟩ := lcells hb3 hbB H2.out
  clear k1_2 k2_2 k3_2 k4_2 k5_2
  clear hx3
  go_wp2_with fail
  refine (HFM.out _ hb3).mono ?_
  rintro e w4 ⟨rfl, hx4⟩
  have hi4 := isB_belowF hi3 hx4
  have hb4 := hb3.trans (hx4.mono (Nat.le_trans hBw hb3.size))
  obtain ⟨k1_4, k2_4, k3_4, k4_4, k5_4⟩ := lcells hb4 hbB H2.out
  clear k1_3 k2_3 k3_3 k4_3 k5_3 hx4
  go_wp2_with fail
  refine (wStr _ _ _ _ _ hi4 (by first | (simp [hzs]; omega) | omega) (Nat.le_trans hBw hb4.size)).mono ?_
  rintro e w5 ⟨⟨n5, rfl⟩, hi5, hx5⟩
  have hb5 := hb4.trans hx5
  obtain ⟨k1_5, k2_5, k3_5, k4_5, k5_5⟩ := lcells hb5 hbB H2.out
  clear k1_4 k2_4 k3_4 k4_4 k5_4
  clear hx5
  have nm := HNM.out _ hb5
  go_wp2_with fail
  refine (wStr _ _ _ _ _ hi5 (by first | (simp [hzs]; omega) | omega) (Nat.le_trans hBw hb5.size)).mono ?_
  rintro e w6 ⟨⟨n6, rfl⟩, hi6, hx6⟩
  have hb6 := hb5.trans hx6
  obtain ⟨k1_6, k2_6, k3_6, k4_6, k5_6⟩ := lcells hb6 hbB H2.out
  clear k1_5 k2_5 k3_5 k4_5 k5_5
  clear hx6
  clear nm
  go_wp2
  go_end0
  exact ⟨rfl, by rw [HTX.out, HTL.out, HBK.out, HCN.out]; simpa [sdefs] using hi6, hb6⟩

set_option maxHeartbeats 4000000 in
set_option maxRecDepth 100000 in
theorem wr_101 (n : Nat) (hWr : WrC n) (B bb : Nat) (L : List UInt8) (kn : Nat) (op : ByteArray) (bk cn : Int) (c : Fa.F) (b : Nat) (cv : Value) (nn dd : Nat) (w : World) (hk : kn < 17) (hk1 : -1 ≤ bk ∧ bk < 16) (hk2 : 0 ≤ cn ∧ cn ≤ 1000000000) (hop : op.size ≤ 1000000000000)
    (hbB : b < B) (h2 : w.heap[b]? = some (.cells (linkCells ⟨(kn : Int), op, bk, cn⟩ cv nn dd) 35 (0, 0))) (hI : IsB B bb L w) (hL : L.length ≤ 1000000000000) (hBw : B ≤ w.heap.size) (hB10 : 8 ≤ B) (hE : EnvF w)
    (hbk : bk ≠ -1) (hcn : cn = 0) (hcv : c ≠ .nil ∧ Holds (fun b => b < B) w c [cv] ∧ c.ok ∧ c.nodes ≤ n ∧ L.length + (Fa.F.link ⟨(kn : Int), op, bk, cn⟩ c .nil).txt.length ≤ 1000000000000) :
    Calls Tryd.prog 27 #[.pointer (some ⟨bb, 0, none⟩), linkPtr b] w fun e w' => e = .returned (.tuple #[]) ∧ IsB B bb (L ++ (Fa.F.link ⟨(kn : Int), op, bk, cn⟩ c .nil).txt) w' ∧ Below B w w' := by
  have _hu : True := (fun _ _ _ => trivial) hWr hk1 hk2
  have t1 := taLL
  have hop2 : op.data.size ≤ 1000000000000 := hop
  have H2 := Lib.hid h2
  have HNM : Hid (∀ w1, Below B w w1 → w1.cell? ⟨1, kn, none⟩ = some (S8 (Fa.names.getD kn []))) := fun w1 hb => (hE.belowB hB10 hb).nm kn hk
  have hnl := names_len kn
  have HNE : Hid (Fa.nameOf (kn : Int) = Fa.names.getD kn []) := by show _ = _; simp [Fa.nameOf]
  have HIT : Hid (∀ w1, Below B w w1 → Calls Tryd.prog 37 #[.int .i64 bk] w1 fun e w' => e = .returned (S8 (Lib.itoa bk)) ∧ Below w1.heap.size w1 w') := fun w1 hb => itoaF bk (by omega) (by omega) w1 (hE.belowB hB10 hb)
  have hil := Lib.itoa_length_le bk (by omega) (by omega)
  have hbR := Below.refl B w
  obtain ⟨hc0, hc1, hc2, hc3, hc4⟩ := hcv
  have HTX : Hid ((Fa.F.link ⟨(kn : Int), op, bk, cn⟩ c .nil).txt = Fa.txtL ⟨(kn : Int), op, bk, cn⟩ ++ ([59, 32] ++ c.txt)) := by
    show _ = _
    cases c with
    | nil => exact absurd rfl hc0
    | link _ _ _ => simp [Fa.F.txt]
    | join _ _ => simp [Fa.F.txt]
  have HW : Hid (∀ (M : List UInt8) (w1 : World), M = L ++ Fa.txtL ⟨(kn : Int), op, bk, cn⟩ ++ [59, 32] → IsB B bb M w1 → Below B w w1 → Calls Tryd.prog 27 #[.pointer (some ⟨bb, 0, none⟩), cv] w1 fun e w' => e = .returned (.tuple #[]) ∧ IsB B bb (M ++ c.txt) w' ∧ Below B w1 w') := fun M w1 hM hi hb =>
    hWr B bb M c cv w1 hc3 (hc1.moved (fun b h1 _ => ⟨h1, hb.block b h1⟩) hb.size) hc2 hi (by
      rw [HTX.out] at hc4
      rw [hM]
      simp only [List.length_append] at hc4 ⊢
      omega) (Nat.le_trans hBw hb.size) hB10 (hE.belowB hB10 hb)
  obtain ⟨ty, pv, rfl⟩ := hc1.iface
  clear hc0 hc1 hc2 hc3 hc4
  have hb1 : (bk != -1) = true := by rw [bne_iff_ne]; exact hbk
  have HBK := Lib.hid (show Fa.txt2 ⟨(kn : Int), op, bk, cn⟩ = Fa.sOn ++ Lib.itoa bk from if_neg hbk)
  have hc1 : (cn != 0) = false := by rw [bne_eq_false_iff_eq]; exact hcn
  have HCN := Lib.hid (show Fa.txt3 ⟨(kn : Int), op, bk, cn⟩ = [] from if_pos hcn)
  obtain ⟨k1_0, k2_0, k3_0, k4_0, k5_0⟩ := lcells hbR hbB h2
  have HTL : Hid (Fa.txtL ⟨(kn : Int), op, bk, cn⟩ = op.data.toList ++ Fa.txt2 ⟨(kn : Int), op, bk, cn⟩ ++ Fa.txt3 ⟨(kn : Int), op, bk, cn⟩ ++ ([58, 32] ++ Fa.names.getD kn [])) := by
    show _ = _
    unfold Fa.txtL
    rw [HNE.out]
    rfl
  generalize Fa.names.getD kn [] = nmv at HNM HNE HTL hnl
  clear h2 hE hbk hcn hk1 hk2 hWr
  unfold linkPtr
  go_enter Tryd.func27, Tryd.ntmps27
  go_wp2_with fail
  refine (wStr _ _ _ _ _ hI (by first | (simp [hzs]; omega) | omega) (Nat.le_trans hBw hbR.size)).mono ?_
  rintro e w1 ⟨⟨n1, rfl⟩, hi1, hx1⟩
  have hb1 := hbR.trans hx1
  obtain ⟨k1_1, k2_1, k3_1, k4_1, k5_1⟩ := lcells hb1 hbB H2.out
  clear hx1
  go_wp2_with fail
  refine (HIT.out _ hb1).mono ?_
  rintro e w2 ⟨rfl, hx2⟩
  have hi2 := isB_belowF hi1 hx2
  have hb2 := hb1.trans (hx2.mono (Nat.le_trans hBw hb1.size))
  obtain ⟨k1_2, k2_2, k3_2, k4_2, k5_2⟩ := lcells hb2 hbB H2.out
  clear k1_1 k2_1 k3_1 k4_1 k5_1 hx2
  go_wp2_with fail
  refine (wStr _ _ _ _ _ hi2 (by first | (simp [hzs]; omega) | omega) (Nat.le_trans hBw hb2.size)).mono ?_
  rintro e w3 ⟨⟨n3, rfl⟩, hi3, hx3⟩
  have hb3 := hb2.trans hx3
  obtain ⟨k1_3, k2_3, k3_3, k4_3, k5_3⟩ := lcells hb3 hbB H2.out
  clear k1_2 k2_2 k3_2 k4_2 k5_2
  clear hx3
  have nm := HNM.out _ hb3
  go_wp2_with fail
  refine (wStr _ _ _ _ _ hi3 (by first | (simp [hzs]; omega) | omega) (Nat.le_trans hBw hb3.size)).mono ?_
  rintro e w4 ⟨⟨n4, rfl⟩, hi4, hx4⟩
  have hb4 := hb3.trans hx4
  obtain ⟨k1_4, k2_4, k3_4, k4_4, k5_4⟩ := lcells hb4 hbB H2.out
  clear k1_3 k2_3 k3_3 k4_3 k5_3
  clear hx4
  clear nm
  go_wp2_with fail
  refine (wStr _ _ _ _ _ hi4 (by first | (simp [hzs]; omega) | omega) (Nat.le_trans hBw hb4.size)).mono ?_
  rintro e w5 ⟨⟨n5, rfl⟩, hi5, hx5⟩
  have hb5 := hb4.trans hx5
  obtain ⟨k1_5, k2_5, k3_5, k4_5, k5_5⟩ := lcells hb5 hbB H2.out
  clear k1_4 k2_4 k3_4 k4_4 k5_4
  clear hx5
  go_wp2_with fail
  refine (HW.out _ _ (by rw [HTL.out, HBK.out, HCN.out]; simp [sdefs]) hi5 hb5).mono ?_
  rintro e w6 ⟨rfl, hi6, hx6⟩
  have hb6 := hb5.trans hx6
  go_wp2
  go_end0
  exact ⟨rfl, by rw [HTX.out, HTL.out, HBK.out, HCN.out]; simpa [sdefs] using hi6, hb6⟩

set_option maxHeartbeats 4000000 in
set_option maxRecDepth 100000 in
theorem wr_100 (n : Nat) (hWr : WrC n) (B bb : Nat) (L : List UInt8) (kn : Nat) (op : ByteArray) (bk cn : Int) (c : Fa.F) (b : Nat) (cv : Value) (nn dd : Nat) (w : World) (hk : kn < 17) (hk1 : -1 ≤ bk ∧ bk < 16) (hk2 : 0 ≤ cn ∧ cn ≤ 1000000000) (hop : op.size ≤ 1000000000000)
    (hbB : b < B) (h2 : w.heap[b]? = some (.cells (linkCells ⟨(kn : Int), op, bk, cn⟩ cv nn dd) 35 (0, 0))) (hI : IsB B bb L w) (hL : L.length ≤ 1000000000000) (hBw : B ≤ w.heap.size) (hB10 : 8 ≤ B) (hE : EnvF w)
    (hbk : bk ≠ -1) (hcn : cn = 0) (hcv : c = .nil ∧ cv = .nilIface) :
    Calls Tryd.prog 27 #[.pointer (some ⟨bb, 0, none⟩), linkPtr b] w fun e w' => e = .returned (.tuple #[]) ∧ IsB B bb (L ++ (Fa.F.link ⟨(kn : Int), op, bk, cn⟩ c .nil).txt) w' ∧ Below B w w' := by
  have _hu : True := (fun _ _ _ => trivial) hWr hk1 hk2
  have t1 := taLL
  have hop2 : op.data.size ≤ 1000000000000 := hop
  have H2 := Lib.hid h2
  have HNM : Hid (∀ w1, Below B w w1 → w1.cell? ⟨1, kn, none⟩ = some (S8 (Fa.names.getD kn []))) := fun w1 hb => (hE.belowB hB10 hb).nm kn hk
  have hnl := names_len kn
  have HNE : Hid (Fa.nameOf (kn : Int) = Fa.names.getD kn []) := by show _ = _; simp [Fa.nameOf]
  have HIT : Hid (∀ w1, Below B w w1 → Calls Tryd.prog 37 #[.int .i64 bk] w1 fun e w' => e = .returned (S8 (Lib.itoa bk)) ∧ Below w1.heap.size w1 w') := fun w1 hb => itoaF bk (by omega) (by omega) w1 (hE.belowB hB10 hb)
  have hil := Lib.itoa_length_le bk (by omega) (by omega)
  have hbR := Below.refl B w
  obtain ⟨rfl, rfl⟩ := hcv
  have HTX : Hid ((Fa.F.link ⟨(kn : Int), op, bk, cn⟩ .nil .nil).txt = Fa.txtL ⟨(kn : Int), op, bk, cn⟩) := by show _ = _; simp [Fa.F.txt]
  have hb1 : (bk != -1) = true := by rw [bne_iff_ne]; exact hbk
  have HBK := Lib.hid (show Fa.txt2 ⟨(kn : Int), op, bk, cn⟩ = Fa.sOn ++ Lib.itoa bk from if_neg hbk)
  have hc1 : (cn != 0) = false := by rw [bne_eq_false_iff_eq]; exact hcn
  have HCN := Lib.hid (show Fa.txt3 ⟨(kn : Int), op, bk, cn⟩ = [] from if_pos hcn)
  obtain ⟨k1_0, k2_0, k3_0, k4_0, k5_0⟩ := lcells hbR hbB h2
  have HTL : Hid (Fa.txtL ⟨(kn : Int), op, bk, cn⟩ = op.data.toList ++ Fa.txt2 ⟨(kn : Int), op, bk, cn⟩ ++ Fa.txt3 ⟨(kn : Int), op, bk, cn⟩ ++ ([58, 32] ++ Fa.names.getD kn [])) := by
    show _ = _
    unfold Fa.txtL
    rw [HNE.out]
    rfl
  clear hWr
  generalize Fa.names.getD kn [] = nmv at HNM HNE HTL hnl
  clear h2 hE hbk hcn hk1 hk2
  unfold linkPtr
  go_enter Tryd.func27, Tryd.ntmps27
  go_wp2_with fail
  refine (wStr _ _ _ _ _ hI (by first | (simp [hzs]; omega) | omega) (Nat.le_trans hBw hbR.size)).mono ?_
  rintro e w1 ⟨⟨n1, rfl⟩, hi1, hx1⟩
  have hb1 := hbR.trans hx1
  obtain ⟨k1_1, k2_1, k3_1, k4_1, k5_1⟩ := lcells hb1 hbB H2.out
  clear hx1
  go_wp2_with fail
  refine (HIT.out _ hb1).mono ?_
  rintro e w2 ⟨rfl, hx2⟩
  have hi2 := isB_belowF hi1 hx2
  have hb2 := hb1.trans (hx2.mono (Nat.le_trans hBw hb1.size))
  obtain ⟨k1_2, k2_2, k3_2, k4_2, k5_2⟩ := lcells hb2 hbB H2.out
  clear k1_1 k2_1 k3_1 k4_1 k5_1 hx2
  go_wp2_with fail
  refine (wStr _ _ _ _ _ hi2 (by first | (simp [hzs]; omega) | omega) (Nat.le_trans hBw hb2.size)).mono ?_
  rintro e w3 ⟨⟨n3, rfl⟩, hi3, hx3⟩
  have hb3 := hb2.trans hx3
  obtain ⟨k1_3, k2_3, k3_3, k4_3, k5_3⟩ := lcells hb3 hbB H2.out
  clear k1_2 k2_2 k3_2 k4_2 k5_2
  clear hx3
  have nm := HNM.out _ hb3
  go_wp2_with fail
  refine (wStr _ _ _ _ _ hi3 (by first | (simp [hzs]; omega) | omega) (Nat.le_trans hBw hb3.size)).mono ?_
  rintro e w4 ⟨⟨n4, rfl⟩, hi4, hx4⟩
  have hb4 := hb3.trans hx4
  obtain ⟨k1_4, k2_4, k3_4, k4_4, k5_4⟩ := lcells hb4 hbB H2.out
  clear k1_3 k2_3 k3_3 k4_3 k5_3
  clear hx4
  clear nm
  go_wp2
  go_end0
  exact ⟨rfl, by rw [HTX.out, HTL.out, HBK.out, HCN.out]; simpa [sdefs] using hi4, hb4⟩

set_option maxHeartbeats 4000000 in
set_option maxRecDepth 100000 in
theorem wr_011 (n : Nat) (hWr : WrC n) (B bb : Nat) (L : List UInt8) (kn : Nat) (op : ByteArray) (bk cn : Int) (c : Fa.F) (b : Nat) (cv : Value) (nn dd : Nat) (w : World) (hk : kn < 17) (hk1 : -1 ≤ bk ∧ bk < 16) (hk2 : 0 ≤ cn ∧ cn ≤ 1000000000) (hop : op.size ≤ 1000000000000)
    (hbB : b < B) (h2 : w.heap[b]? = some (.cells (linkCells ⟨(kn : Int), op, bk, cn⟩ cv nn dd) 35 (0, 0))) (hI : IsB B bb L w) (hL : L.length ≤ 1000000000000) (hBw : B ≤ w.heap.size) (hB10 : 8 ≤ B) (hE : EnvF w)
    (hbk : bk = -1) (hcn : cn ≠ 0) (hcv : c ≠ .nil ∧ Holds (fun b => b < B) w c [cv] ∧ c.ok ∧ c.nodes ≤ n ∧ L.length + (Fa.F.link ⟨(kn : Int), op, bk, cn⟩ c .nil).txt.length ≤ 1000000000000) :
    Calls Tryd.prog 27 #[.pointer (some ⟨bb, 0, none⟩), linkPtr b] w fun e w' => e = .returned (.tuple #[]) ∧ IsB B bb (L ++ (Fa.F.link ⟨(kn : Int), op, bk, cn⟩ c .nil).txt) w' ∧ Below B w w' := by
  have _hu : True := (fun _ _ _ => trivial) hWr hk1 hk2
  have t1 := taLL
  have hop2 : op.data.size ≤ 1000000000000 := hop
  have H2 := Lib.hid h2
  have HNM : Hid (∀ w1, Below B w w1 → w1.cell? ⟨1, kn, none⟩ = some (S8 (Fa.names.getD kn []))) := fun w1 hb => (hE.belowB hB10 hb).nm kn hk
  have hnl := names_len kn
  have HNE : Hid (Fa.nameOf (kn : Int) = Fa.names.getD kn []) := by show _ = _; simp [Fa.nameOf]
  have HFM : Hid (∀ w1, Below B w w1 → Calls Tryd.prog 38 #[.int .i64 cn, .int .i64 10] w1 fun e w' => e = .returned (S8 (Lib.itoa cn)) ∧ Below w1.heap.size w1 w') := fun w1 hb => formatF cn (by omega) (by omega) w1 (hE.belowB hB10 hb)
  have hil2 := Lib.itoa_length_le cn (by omega) (by omega)
  have hbR := Below.refl B w
  obtain ⟨hc0, hc1, hc2, hc3, hc4⟩ := hcv
  have HTX : Hid ((Fa.F.link ⟨(kn : Int), op, bk, cn⟩ c .nil).txt = Fa.txtL ⟨(kn : Int), op, bk, cn⟩ ++ ([59, 32] ++ c.txt)) := by
    show _ = _
    cases c with
    | nil => exact absurd rfl hc0
    | link _ _ _ => simp [Fa.F.txt]
    | join _ _ => simp [Fa.F.txt]
  have HW : Hid (∀ (M : List UInt8) (w1 : World), M = L ++ Fa.txtL ⟨(kn : Int), op, bk, cn⟩ ++ [59, 32] → IsB B bb M w1 → Below B w w1 → Calls Tryd.prog 27 #[.pointer (some ⟨bb, 0, none⟩), cv] w1 fun e w' => e = .returned (.tuple #[]) ∧ IsB B bb (M ++ c.txt) w' ∧ Below B w1 w') := fun M w1 hM hi hb =>
    hWr B bb M c cv w1 hc3 (hc1.moved (fun b h1 _ => ⟨h1, hb.block b h1⟩) hb.size) hc2 hi (by
      rw [HTX.out] at hc4
      rw [hM]
      simp only [List.length_append] at hc4 ⊢
      omega) (Nat.le_trans hBw hb.size) hB10 (hE.belowB hB10 hb)
  obtain ⟨ty, pv, rfl⟩ := hc1.iface
  clear hc0 hc1 hc2 hc3 hc4
  have hb1 : (bk != -1) = false := by rw [bne_eq_false_iff_eq]; exact hbk
  have HBK := Lib.hid (show Fa.txt2 ⟨(kn : Int), op, bk, cn⟩ = [] from if_pos hbk)
  have hc1 : (cn != 0) = true := by rw [bne_iff_ne]; exact hcn
  have HCN := Lib.hid (show Fa.txt3 ⟨(kn : Int), op, bk, cn⟩ = Fa.sOver ++ Lib.itoa cn from if_neg hcn)
  obtain ⟨k1_0, k2_0, k3_0, k4_0, k5_0⟩ := lcells hbR hbB h2
  have HTL : Hid (Fa.txtL ⟨(kn : Int), op, bk, cn⟩ = op.data.toList ++ Fa.txt2 ⟨(kn : Int), op, bk, cn⟩ ++ Fa.txt3 ⟨(kn : Int), op, bk, cn⟩ ++ ([58, 32] ++ Fa.names.getD kn [])) := by
    show _ = _
    unfold Fa.txtL
    rw [HNE.out]
    rfl
  generalize Fa.names.getD kn [] = nmv at HNM HNE HTL hnl
  clear h2 hE hbk hcn hk1 hk2 hWr
  unfold linkPtr
  go_enter Tryd.func27, Tryd.ntmps27
  go_wp2_with fail
  refine (wStr _ _ _ _ _ hI (by first | (simp [hzs]; omega) | omega) (Nat.le_trans hBw hbR.size)).mono ?_
  rintro e w1 ⟨⟨n1, rfl⟩, hi1, hx1⟩
  have hb1 := hbR.trans hx1
  obtain ⟨k1_1, k2_1, k3_1, k4_1, k5_1⟩ := lcells hb1 hbB H2.out
  clear hx1
  go_wp2_with fail
  refine (HFM.out _ hb1).mono ?_
  rintro e w2 ⟨rfl, hx2⟩
  have hi2 := isB_belowF hi1 hx2
  have hb2 := hb1.trans (hx2.mono (Nat.le_trans hBw hb1.size))
  obtain ⟨k1_2, k2_2, k3_2, k4_2, k5_2⟩ := lcells hb2 hbB H2.out
  clear k1_1 k2_1 k3_1 k4_1 k5_1 hx2
  go_wp2_with fail
  refine (wStr _ _ _ _ _ hi2 (by first | (simp [hzs]; omega) | omega) (Nat.le_trans hBw hb2.size)).mono ?_
  rintro e w3 ⟨⟨n3, rfl⟩, hi3, hx3⟩
  have hb3 := hb2.trans hx3
  obtain ⟨k1_3, k2_3, k3_3, k4_3, k5_3⟩ := lcells hb3 hbB H2.out
  clear k1_2 k2_2 k3_2 k4_2 k5_2
  clear hx3
  have nm := HNM.out _ hb3
  go_wp2_with fail
  refine (wStr _ _ _ _ _ hi3 (by first | (simp [hzs]; omega) | omega) (Nat.le_trans hBw hb3.size)).mono ?_
  rintro e w4 ⟨⟨n4, rfl⟩, hi4, hx4⟩
  have hb4 := hb3.trans hx4
  obtain ⟨k1_4, k2_4, k3_4, k4_4, k5_4⟩ := lcells hb4 hbB H2.out
  clear k1_3 k2_3 k3_3 k4_3 k5_3
  clear hx4
  clear nm
  go_wp2_with fail
  refine (wStr _ _ _ _ _ hi4 (by first | (simp [hzs]; omega) | omega) (Nat.le_trans hBw hb4.size)).mono ?_
  rintro e w5 ⟨⟨n5, rfl⟩, hi5, hx5⟩
  have hb5 := hb4.trans hx5
  obtain ⟨k1_5, k2_5, k3_5, k4_5, k5_5⟩ := lcells hb5 hbB H2.out
  clear k1_4 k2_4 k3_4 k4_4 k5_4
  clear hx5
  go_wp2_with fail
  refine (HW.out _ _ (by rw [HTL.out, HBK.out, HCN.out]; simp [sdefs]) hi5 hb5).mono ?_
  rintro e w6 ⟨rfl, hi6, hx6⟩
  have hb6 := hb5.trans hx6
  go_wp2
  go_end0
  exact ⟨rfl, by rw [HTX.out, HTL.out, HBK.out, HCN.out]; simpa [sdefs] using hi6, hb6⟩

set_option maxHeartbeats 4000000 in
set_option maxRecDepth 100000 in
theorem wr_010 (n : Nat) (hWr : WrC n) (B bb : Nat) (L : List UInt8) (kn : Nat) (op : ByteArray) (bk cn : Int) (c : Fa.F) (b : Nat) (cv : Value) (nn dd : Nat) (w : World) (hk : kn < 17) (hk1 : -1 ≤ bk ∧ bk < 16) (hk2 : 0 ≤ cn ∧ cn ≤ 1000000000) (hop : op.size ≤ 1000000000000)
    (hbB : b < B) (h2 : w.heap[b]? = some (.cells (linkCells ⟨(kn : Int), op, bk, cn⟩ cv nn dd) 35 (0, 0))) (hI : IsB B bb L w) (hL : L.length ≤ 1000000000000) (hBw : B ≤ w.heap.size) (hB10 : 8 ≤ B) (hE : EnvF w)
    (hbk : bk = -1) (hcn : cn ≠ 0) (hcv : c = .nil ∧ cv = .nilIface) :
    Calls Tryd.prog 27 #[.pointer (some ⟨bb, 0, none⟩), linkPtr b] w fun e w' => e = .returned (.tuple #[]) ∧ IsB B bb (L ++ (Fa.F.link ⟨(kn : Int), op, bk, cn⟩ c .nil).txt) w' ∧ Below B w w' := by
  have _hu : True := (fun _ _ _ => trivial) hWr hk1 hk2
  have t1 := taLL
  have hop2 : op.data.size ≤ 1000000000000 := hop
  have H2 := Lib.hid h2
  have HNM : Hid (∀ w1, Below B w w1 → w1.cell? ⟨1, kn, none⟩ = some (S8 (Fa.names.getD kn []))) := fun w1 hb => (hE.belowB hB10 hb).nm kn hk
  have hnl := names_len kn
  have HNE : Hid (Fa.nameOf (kn : Int) = Fa.names.getD kn []) := by show _ = _; simp [Fa.nameOf]
  have HFM : Hid (∀ w1, Below B w w1 → Calls Tryd.prog 38 #[.int .i64 cn, .int .i64 10] w1 fun e w' => e = .returned (S8 (Lib.itoa cn)) ∧ Below w1.heap.size w1 w') := fun w1 hb => formatF cn (by omega) (by omega) w1 (hE.belowB hB10 hb)
  have hil2 := Lib.itoa_length_le cn (by omega) (by omega)
  have hbR := Below.refl B w
  obtain ⟨rfl, rfl⟩ := hcv
  have HTX : Hid ((Fa.F.link ⟨(kn : Int), op, bk, cn⟩ .nil .nil).txt = Fa.txtL ⟨(kn : Int), op, bk, cn⟩) := by show _ = _; simp [Fa.F.txt]
  have hb1 : (bk != -1) = false := by rw [bne_eq_false_iff_eq]; exact hbk
  have HBK := Lib.hid (show Fa.txt2 ⟨(kn : Int), op, bk, cn⟩ = [] from if_pos hbk)
  have hc1 : (cn != 0) = true := by rw [bne_iff_ne]; exact hcn
  have HCN := Lib.hid (show Fa.txt3 ⟨(kn : Int), op, bk, cn⟩ = Fa.sOver ++ Lib.itoa cn from if_neg hcn)
  obtain ⟨k1_0, k2_0, k3_0, k4_0, k5_0⟩ := lcells hbR hbB h2
  have HTL : Hid (Fa.txtL ⟨(kn : Int), op, bk, cn⟩ = op.data.toList ++ Fa.txt2 ⟨(kn : Int), op, bk, cn⟩ ++ Fa.txt3 ⟨(kn : Int), op, bk, cn⟩ ++ ([58, 32] ++ Fa.names.getD kn [])) := by
    show _ = _
    unfold Fa.txtL
    rw [HNE.out]
    rfl
  clear hWr
  generalize Fa.names.getD kn [] = nmv at HNM HNE HTL hnl
  clear h2 hE hbk hcn hk1 hk2
  unfold linkPtr
  go_enter Tryd.func27, Tryd.ntmps27
  go_wp2_with fail
  refine (wStr _ _ _ _ _ hI (by first | (simp [hzs]; omega) | omega) (Nat.le_trans hBw hbR.size)).mono ?_
  rintro e w1 ⟨⟨n1, rfl⟩, hi1, hx1⟩
  have hb1 := hbR.trans hx1
  obtain ⟨k1_1, k2_1, k3_1, k4_1, k5_1⟩ := lcells hb1 hbB H2.out
  clear hx1
  go_wp2_with fail
  refine (HFM.out _ hb1).mono ?_
  rintro e w2 ⟨rfl, hx2⟩
  have hi2 := isB_belowF hi1 hx2
  have hb2 := hb1.trans (hx2.mono (Nat.le_trans hBw hb1.size))
  obtain ⟨k1_2, k2_2, k3_2, k4_2, k5_2⟩ := lcells hb2 hbB H2.out
  clear k1_1 k2_1 k3_1 k4_1 k5_1 hx2
  go_wp2_with fail
  refine (wStr _ _ _ _ _ hi2 (by first | (simp [hzs]; omega) | omega) (Nat.le_trans hBw hb2.size)).mono ?_
  rintro e w3 ⟨⟨n3, rfl⟩, hi3, hx3⟩
  have hb3 := hb2.trans hx3
  obtain ⟨k1_3, k2_3, k3_3, k4_3, k5_3⟩ := lcells hb3 hbB H2.out
  clear k1_2 k2_2 k3_2 k4_2 k5_2
  clear hx3
  have nm := HNM.out _ hb3
  go_wp2_with fail
  refine (wStr _ _ _ _ _ hi3 (by first | (simp [hzs]; omega) | omega) (Nat.le_trans hBw hb3.size)).mono ?_
  rintro e w4 ⟨⟨n4, rfl⟩, hi4, hx4⟩
  have hb4 := hb3.trans hx4
  obtain ⟨k1_4, k2_4, k3_4, k4_4, k5_4⟩ := lcells hb4 hbB H2.out
  clear k1_3 k2_3 k3_3 k4_3 k5_3
  clear hx4
  clear nm
  go_wp2
  go_end0
  exact ⟨rfl, by rw [HTX.out, HTL.out, HBK.out, HCN.out]; simpa [sdefs] using hi4, hb4⟩

set_option maxHeartbeats 4000000 in
set_option maxRecDepth 100000 in
theorem wr_001 (n : Nat) (hWr : WrC n) (B bb : Nat) (L : List UInt8) (kn : Nat) (op : ByteArray) (bk cn : Int) (c : Fa.F) (b : Nat) (cv : Value) (nn dd : Nat) (w : World) (hk : kn < 17) (hk1 : -1 ≤ bk ∧ bk < 16) (hk2 : 0 ≤ cn ∧ cn ≤ 1000000000) (hop : op.size ≤ 1000000000000)
    (hbB : b < B) (h2 : w.heap[b]? = some (.cells (linkCells ⟨(kn : Int), op, bk, cn⟩ cv nn dd) 35 (0, 0))) (hI : IsB B bb L w) (hL : L.length ≤ 1000000000000) (hBw : B ≤ w.heap.size) (hB10 : 8 ≤ B) (hE : EnvF w)
    (hbk : bk = -1) (hcn : cn = 0) (hcv : c ≠ .nil ∧ Holds (fun b => b < B) w c [cv] ∧ c.ok ∧ c.nodes ≤ n ∧ L.length + (Fa.F.link ⟨(kn : Int), op, bk, cn⟩ c .nil).txt.length ≤ 1000000000000) :
    Calls Tryd.prog 27 #[.pointer (some ⟨bb, 0, none⟩), linkPtr b] w fun e w' => e = .returned (.tuple #[]) ∧ IsB B bb (L ++ (Fa.F.link ⟨(kn : Int), op, bk, cn⟩ c .nil).txt) w' ∧ Below B w w' := by
  have _hu : True := (fun _ _ _ => trivial) hWr hk1 hk2
  have t1 := taLL
  have hop2 : op.data.size ≤ 1000000000000 := hop
  have H2 := Lib.hid h2
  have HNM : Hid (∀ w1, Below B w w1 → w1.cell? ⟨1, kn, none⟩ = some (S8 (Fa.names.getD kn []))) := fun w1 hb => (hE.belowB hB10 hb).nm kn hk
  have hnl := names_len kn
  have HNE : Hid (Fa.nameOf (kn : Int) = Fa.names.getD kn []) := by show _ = _; simp [Fa.nameOf]
  have hbR := Below.refl B w
  obtain ⟨hc0, hc1, hc2, hc3, hc4⟩ := hcv
  have HTX : Hid ((Fa.F.link ⟨(kn : Int), op, bk, cn⟩ c .nil).txt = Fa.txtL ⟨(kn : Int), op, bk, cn⟩ ++ ([59, 32] ++ c.txt)) := by
    show _ = _
    cases c with
    | nil => exact absurd rfl hc0
    | link _ _ _ => simp [Fa.F.txt]
    | join _ _ => simp [Fa.F.txt]
  have HW : Hid (∀ (M : List UInt8) (w1 : World), M = L ++ Fa.txtL ⟨(kn : Int), op, bk, cn⟩ ++ [59, 32] → IsB B bb M w1 → Below B w w1 → Calls Tryd.prog 27 #[.pointer (some ⟨bb, 0, none⟩), cv] w1 fun e w' => e = .returned (.tuple #[]) ∧ IsB B bb (M ++ c.txt) w' ∧ Below B w1 w') := fun M w1 hM hi hb =>
    hWr B bb M c cv w1 hc3 (hc1.moved (fun b h1 _ => ⟨h1, hb.block b h1⟩) hb.size) hc2 hi (by
      rw [HTX.out] at hc4
      rw [hM]
      simp only [List.length_append] at hc4 ⊢
      omega) (Nat.le_trans hBw hb.size) hB10 (hE.belowB hB10 hb)
  obtain ⟨ty, pv, rfl⟩ := hc1.iface
  clear hc0 hc1 hc2 hc3 hc4
  have hb1 : (bk != -1) = false := by rw [bne_eq_false_iff_eq]; exact hbk
  have HBK := Lib.hid (show Fa.txt2 ⟨(kn : Int), op, bk, cn⟩ = [] from if_pos hbk)
  have hc1 : (cn != 0) = false := by rw [bne_eq_false_iff_eq]; exact hcn
  have HCN := Lib.hid (show Fa.txt3 ⟨(kn : Int), op, bk, cn⟩ = [] from if_pos hcn)
  obtain ⟨k1_0, k2_0, k3_0, k4_0, k5_0⟩ := lcells hbR hbB h2
  have HTL : Hid (Fa.txtL ⟨(kn : Int), op, bk, cn⟩ = op.data.toList ++ Fa.txt2 ⟨(kn : Int), op, bk, cn⟩ ++ Fa.txt3 ⟨(kn : Int), op, bk, cn⟩ ++ ([58, 32] ++ Fa.names.getD kn [])) := by
    show _ = _
    unfold Fa.txtL
    rw [HNE.out]
    rfl
  generalize Fa.names.getD kn [] = nmv at HNM HNE HTL hnl
  clear h2 hE hbk hcn hk1 hk2 hWr
  unfold linkPtr
  go_enter Tryd.func27, Tryd.ntmps27
  go_wp2_with fail
  refine (wStr _ _ _ _ _ hI (by first | (simp [hzs]; omega) | omega) (Nat.le_trans hBw hbR.size)).mono ?_
  rintro e w1 ⟨⟨n1, rfl⟩, hi1, hx1⟩
  have hb1 := hbR.trans hx1
  obtain ⟨k1_1, k2_1, k3_1, k4_1, k5_1⟩ := lcells hb1 hbB H2.out
  clear hx1
  have nm := HNM.out _ hb1
  go_wp2_with fail
  refine (wStr _ _ _ _ _ hi1 (by first | (simp [hzs]; omega) | omega) (Nat.le_trans hBw hb1.size)).mono ?_
  rintro e w2 ⟨⟨n2, rfl⟩, hi2, hx2⟩
  have hb2 := hb1.trans hx2
  obtain ⟨k1_2, k2_2, k3_2, k4_2, k5_2⟩ := lcells hb2 hbB H2.out
  clear k1_1 k2_1 k3_1 k4_1 k5_1
  clear hx2
  clear nm
  go_wp2_with fail
  refine (wStr _ _ _ _ _ hi2 (by first | (simp [hzs]; omega) | omega) (Nat.le_trans hBw hb2.size)).mono ?_
  rintro e w3 ⟨⟨n3, rfl⟩, hi3, hx3⟩
  have hb3 := hb2.trans hx3
  obtain ⟨k1_3, k2_3, k3_3, k4_3, k5_3⟩ := lcells hb3 hbB H2.out
  clear k1_2 k2_2 k3_2 k4_2 k5_2
  clear hx3
  go_wp2_with fail
  refine (HW.out _ _ (by rw [HTL.out, HBK.out, HCN.out]; simp) hi3 hb3).mono ?_
  rintro e w4 ⟨rfl, hi4, hx4⟩
  have hb4 := hb3.trans hx4
  go_wp2
  go_end0
  exact ⟨rfl, by rw [HTX.out, HTL.out, HBK.out, HCN.out]; simpa using hi4, hb4⟩

set_option maxHeartbeats 4000000 in
set_option maxRecDepth 100000 in
theorem wr_000 (n : Nat) (hWr : WrC n) (B bb : Nat) (L : List UInt8) (kn : Nat) (op : ByteArray) (bk cn : Int) (c : Fa.F) (b : Nat) (cv : Value) (nn dd : Nat) (w : World) (hk : kn < 17) (hk1 : -1 ≤ bk ∧ bk < 16) (hk2 : 0 ≤ cn ∧ cn ≤ 1000000000) (hop : op.size ≤ 1000000000000)
    (hbB : b < B) (h2 : w.heap[b]? = some (.cells (linkCells ⟨(kn : Int), op, bk, cn⟩ cv nn dd) 35 (0, 0))) (hI : IsB B bb L w) (hL : L.length ≤ 1000000000000) (hBw : B ≤ w.heap.size) (hB10 : 8 ≤ B) (hE : EnvF w)
    (hbk : bk = -1) (hcn : cn = 0) (hcv : c = .nil ∧ cv = .nilIface) :
    Calls Tryd.prog 27 #[.pointer (some ⟨bb, 0, none⟩), linkPtr b] w fun e w' => e = .returned (.tuple #[]) ∧ IsB B bb (L ++ (Fa.F.link ⟨(kn : Int), op, bk, cn⟩ c .nil).txt) w' ∧ Below B w w' := by
  have _hu : True := (fun _ _ _ => trivial) hWr hk1 hk2
  have t1 := taLL
  have hop2 : op.data.size ≤ 1000000000000 := hop
  have H2 := Lib.hid h2
  have HNM : Hid (∀ w1, Below B w w1 → w1.cell? ⟨1, kn, none⟩ = some (S8 (Fa.names.getD kn []))) := fun w1 hb => (hE.belowB hB10 hb).nm kn hk
  have hnl := names_len kn
  have HNE : Hid (Fa.nameOf (kn : Int) = Fa.names.getD kn []) := by show _ = _; simp [Fa.nameOf]
  have hbR := Below.refl B w
  obtain ⟨rfl, rfl⟩ := hcv
  have HTX : Hid ((Fa.F.link ⟨(kn : Int), op, bk, cn⟩ .nil .nil).txt = Fa.txtL ⟨(kn : Int), op, bk, cn⟩) := by show _ = _; simp [Fa.F.txt]
  have hb1 : (bk != -1) = false := by rw [bne_eq_false_iff_eq]; exact hbk
  have HBK := Lib.hid (show Fa.txt2 ⟨(kn : Int), op, bk, cn⟩ = [] from if_pos hbk)
  have hc1 : (cn != 0) = false := by rw [bne_eq_false_iff_eq]; exact hcn
  have HCN := Lib.hid (show Fa.txt3 ⟨(kn : Int), op, bk, cn⟩ = [] from if_pos hcn)
  obtain ⟨k1_0, k2_0, k3_0, k4_0, k5_0⟩ := lcells hbR hbB h2
  have HTL : Hid (Fa.txtL ⟨(kn : Int), op, bk, cn⟩ = op.data.toList ++ Fa.txt2 ⟨(kn : Int), op, bk, cn⟩ ++ Fa.txt3 ⟨(kn : Int), op, bk, cn⟩ ++ ([58, 32] ++ Fa.names.getD kn [])) := by
    show _ = _
    unfold Fa.txtL
    rw [HNE.out]
    rfl
  clear hWr
  generalize Fa.names.getD kn [] = nmv at HNM HNE HTL hnl
  clear h2 hE hbk hcn hk1 hk2
  unfold linkPtr
  go_enter Tryd.func27, Tryd.ntmps27
  go_wp2_with fail
  refine (wStr _ _ _ _ _ hI (by first | (simp [hzs]; omega) | omega) (Nat.le_trans hBw hbR.size)).mono ?_
  rintro e w1 ⟨⟨n1, rfl⟩, hi1, hx1⟩
  have hb1 := hbR.trans hx1
  obtain ⟨k1_1, k2_1, k3_1, k4_1, k5_1⟩ := lcells hb1 hbB H2.out
  clear hx1
  have nm := HNM.out _ hb1
  go_wp2_with fail
  refine (wStr _ _ _ _ _ hi1 (by first | (simp [hzs]; omega) | omega) (Nat.le_trans hBw hb1.size)).mono ?_
  rintro e w2 ⟨⟨n2, rfl⟩, hi2, hx2⟩
  have hb2 := hb1.trans hx2
  obtain ⟨k1_2, k2_2, k3_2, k4_2, k5_2⟩ := lcells hb2 hbB H2.out
  clear k1_1 k2_1 k3_1 k4_1 k5_1
  clear hx2
  clear nm
  go_wp2
  go_end0
  exact ⟨rfl, by rw [HTX.out, HTL.out, HBK.out, HCN.out]; simpa using hi2, hb2⟩
end Go.Proofs.YtgnhbccmdpkbiaaDoor
namespace Go.Proofs.YtgnhbccmdpkbiaaDoor
open Go.RowKit Go.Shelf

/-- The text of the first q trees of a forest, as write has written them. -/
def txtK (k : Fa.F) (q : Nat) : List UInt8 := Lib.join ((k.kids.take q).map (·.txt)) [32, 38, 32]
theorem tail_cons (a : List UInt8) (l : List (List UInt8)) (sep : List UInt8) : Lib.joinTail sep (a :: l) = sep ++ Lib.join (a :: l) sep := by
  rw [Lib.join_cons]; simp [Lib.joinTail]
/-- What stands behind a tree: the rest of the forest. -/
def moreT (r : Fa.F) : List UInt8 := match r with | .nil => [] | r => [32, 38, 32] ++ r.txt
theorem txt_link (x : Fa.Link) (c r : Fa.F) : (Fa.F.link x c r).txt = (Fa.F.link x c .nil).txt ++ moreT r := by
  cases r <;> cases c <;> simp [Fa.F.txt, moreT]
theorem txt_join (k r : Fa.F) : (Fa.F.join k r).txt = (Fa.F.join k .nil).txt ++ moreT r := by
  cases r <;> simp [Fa.F.txt, moreT]
theorem txt_join1 (k : Fa.F) : (Fa.F.join k .nil).txt = [40] ++ k.txt ++ [41] := by simp [Fa.F.txt]
theorem txt_more (r : Fa.F) (h : r.txt = Lib.join (r.kids.map (·.txt)) [32, 38, 32]) : moreT r = Lib.joinTail [32, 38, 32] (r.kids.map (·.txt)) := by
  cases r with
  | nil => rfl
  | link x c r' =>
    show [32, 38, 32] ++ (Fa.F.link x c r').txt = _
    rw [h, Fa.F.kids, List.map_cons, tail_cons]
  | join k r' =>
    show [32, 38, 32] ++ (Fa.F.join k r').txt = _
    rw [h, Fa.F.kids, List.map_cons, tail_cons]
theorem txt_kids (k : Fa.F) : k.txt = Lib.join (k.kids.map (·.txt)) [32, 38, 32] := by
  induction k with
  | nil => rfl
  | link x c r _ ih => rw [txt_link, txt_more r ih, Fa.F.kids, List.map_cons, Lib.join_cons]
  | join j r _ ih => rw [txt_join, txt_more r ih, Fa.F.kids, List.map_cons, Lib.join_cons]
theorem txt_op (x : Fa.Link) (c : Fa.F) : x.op.size ≤ (Fa.F.link x c .nil).txt.length := by
  have e : x.op.data.toList.length = x.op.size := by rw [Array.length_toList]; rfl
  cases c <;> simp only [Fa.F.txt, Fa.txtL, Fa.txt1, List.length_append] <;> omega
def txtP (k : Fa.F) (q : Nat) : List UInt8 := if q = 0 then [] else 40 :: txtK k q
theorem txtP_first {k : Fa.F} (h : 0 < k.kids.length) : txtP k 1 = ([40] : List UInt8) ++ (k.kids[0]).txt := by
  unfold txtP txtK
  rw [if_neg (by decide), List.take_succ_eq_append_getElem h]
  simp [Lib.join_one]
theorem txtP_next {k : Fa.F} {q : Nat} (h : q < k.kids.length) (hq : q ≠ 0) : txtP k (q + 1) = txtP k q ++ [32, 38, 32] ++ (k.kids[q]).txt := by
  unfold txtP txtK
  rw [if_neg (by omega), if_neg hq, List.take_succ_eq_append_getElem h, List.map_append, List.map_singleton, Wd.join_snoc, if_neg]
  · simp
  · intro e
    have := congrArg List.length e
    rw [List.length_map, List.length_take, List.length_nil] at this
    omega
theorem txtP_all {k : Fa.F} {q : Nat} (h : k.kids.length ≤ q) (hq : q ≠ 0) : txtP k q = [40] ++ k.txt := by
  unfold txtP txtK
  rw [if_neg hq, List.take_of_length_le h, txt_kids]; rfl
theorem txtP_le {k : Fa.F} : ∀ q, q ≤ k.kids.length → (txtP k q).length ≤ k.txt.length + 1 := by
  intro q hq
  by_cases h0 : q = 0
  · subst h0; simp [txtP]
  · have h1 : k.kids.map (·.txt) = (k.kids.take q).map (·.txt) ++ (k.kids.drop q).map (·.txt) := by rw [← List.map_append, List.take_append_drop]
    have h2 : txtP k q = 40 :: txtK k q := by unfold txtP; rw [if_neg h0]
    rw [h2, txt_kids, h1]
    unfold txtK
    cases hk : (k.kids.take q).map (·.txt) with
    | nil => simp [Lib.join_nil]
    | cons a l =>
      rw [List.cons_append, Lib.join_cons, Lib.join_cons]
      simp [Lib.joinTail]
theorem txt_one_le {k : Fa.F} {q : Nat} (h : q < k.kids.length) : (q ≠ 0 → (txtP k q).length + 3 + (k.kids[q]).txt.length ≤ k.txt.length + 1) ∧ (q = 0 → (k.kids[q]).txt.length ≤ k.txt.length) := by
  have h1 := txtP_le (k := k) (q + 1) h
  constructor
  · intro h0
    rw [txtP_next h h0] at h1
    simp at h1 ⊢
    omega
  · intro h0
    subst h0
    rw [txtP_first h] at h1
    simp at h1 ⊢
    omega

theorem ne_nilF {S : Nat → Prop} {w : World} {t : Fa.F} {v : Value} (h : Holds S w t [v]) : t ≠ .nil := fun e => by
  have := one_ne h
  rw [e] at this
  exact absurd this (by decide)

set_option maxHeartbeats 8000000 in
set_option maxRecDepth 100000 in
theorem wr_step (n : Nat) (hWr : WrC n) : WrC (n + 1) := by
  intro B bb L t v w hn h hok hI hL hBw hB10 hE
  rcases h.one with ⟨x, c, b, cv, cs, rfl, rfl, hbB, h2, h3, h4⟩ | ⟨k, b, g, o, cap, ks, rfl, rfl, hbB, h2, ⟨hg, hgl, h3⟩, h4⟩
  · obtain ⟨n1, n2, n3, n4, n5, n6⟩ := numIn x hok.1
    have hop := txt_op x c
    simp only [Fa.F.nodes] at hn
    obtain ⟨kd, op, bk, cn⟩ := x
    dsimp only at n1 n2 n3 n4 n5 n6 hop
    obtain ⟨kn, rfl⟩ : ∃ kn : Nat, kd = kn := ⟨kd.toNat, by omega⟩
    by_cases hbk : bk = -1
    · by_cases hcn : cn = 0
      · rcases h4 with ⟨rfl, rfl⟩ | rfl
        · exact wr_000 n hWr B bb L kn op bk cn c b _ _ _ w (by omega) ⟨n3, by omega⟩ ⟨n5, n6⟩ (by omega) hbB h2 hI (by omega) hBw hB10 hE hbk hcn ⟨holds_nil h3, rfl⟩
        · exact wr_001 n hWr B bb L kn op bk cn c b cv _ _ w (by omega) ⟨n3, by omega⟩ ⟨n5, n6⟩ (by omega) hbB h2 hI (by omega) hBw hB10 hE hbk hcn ⟨ne_nilF h3, h3, hok.2.2.1, by omega, hL⟩
      · rcases h4 with ⟨rfl, rfl⟩ | rfl
        · exact wr_010 n hWr B bb L kn op bk cn c b _ _ _ w (by omega) ⟨n3, by omega⟩ ⟨n5, n6⟩ (by omega) hbB h2 hI (by omega) hBw hB10 hE hbk hcn ⟨holds_nil h3, rfl⟩
        · exact wr_011 n hWr B bb L kn op bk cn c b cv _ _ w (by omega) ⟨n3, by omega⟩ ⟨n5, n6⟩ (by omega) hbB h2 hI (by omega) hBw hB10 hE hbk hcn ⟨ne_nilF h3, h3, hok.2.2.1, by omega, hL⟩
    · by_cases hcn : cn = 0
      · rcases h4 with ⟨rfl, rfl⟩ | rfl
        · exact wr_100 n hWr B bb L kn op bk cn c b _ _ _ w (by omega) ⟨n3, by omega⟩ ⟨n5, n6⟩ (by omega) hbB h2 hI (by omega) hBw hB10 hE hbk hcn ⟨holds_nil h3, rfl⟩
        · exact wr_101 n hWr B bb L kn op bk cn c b cv _ _ w (by omega) ⟨n3, by omega⟩ ⟨n5, n6⟩ (by omega) hbB h2 hI (by omega) hBw hB10 hE hbk hcn ⟨ne_nilF h3, h3, hok.2.2.1, by omega, hL⟩
      · rcases h4 with ⟨rfl, rfl⟩ | rfl
        · exact wr_110 n hWr B bb L kn op bk cn c b _ _ _ w (by omega) ⟨n3, by omega⟩ ⟨n5, n6⟩ (by omega) hbB h2 hI (by omega) hBw hB10 hE hbk hcn ⟨holds_nil h3, rfl⟩
        · exact wr_111 n hWr B bb L kn op bk cn c b cv _ _ w (by omega) ⟨n3, by omega⟩ ⟨n5, n6⟩ (by omega) hbB h2 hI (by omega) hBw hB10 hE hbk hcn ⟨ne_nilF h3, h3, hok.2.2.1, by omega, hL⟩
  · obtain ⟨rs, hrs⟩ := h4.refs
    subst hrs
    have hlk : rs.length = k.kids.length := by
      have := h4.len
      rw [List.length_map] at this
      rw [this, Fa.kids_len]
    rw [List.length_map] at h2
    have hk2 : 2 ≤ rs.length := by rw [hlk, Fa.kids_len]; exact hok.1
    have hk8 : rs.length ≤ 8 := by rw [hlk, Fa.kids_len]; exact hok.2.1
    have k0 := blk_cell h2 0
    simp only [joinCells, List.getElem?_toArray, List.getElem?_cons_zero] at k0
    have t1 := taJL
    have t2 := taJJ
    have HLK := Lib.hid hlk
    have HE : Hid (∀ (j : Nat) (hj : j < rs.length), w.cell? ⟨g, o + j, none⟩ = some (valE rs[j])) := fun j hj => h3 j _ (by rw [List.getElem?_map, List.getElem?_eq_getElem hj]; rfl)
    have HTX := Lib.hid (txt_join1 k)
    have hLL : L.length + (k.txt.length + 2) ≤ 1000000000000 := by
      rw [txt_join1] at hL
      simp only [List.length_append, List.length_cons, List.length_nil] at hL
      omega
    have HW : Hid (∀ (q : Nat) (hq : q < k.kids.length) (hr : q < rs.length) (M : List UInt8) (w1 : World), IsB B bb M w1 → M.length + (k.kids[q]).txt.length ≤ 1000000000000 → Below B w w1 → Calls Tryd.prog 27 #[.pointer (some ⟨bb, 0, none⟩), valE rs[q]] w1 fun e w' => e = .returned (.tuple #[]) ∧ IsB B bb (M ++ (k.kids[q]).txt) w' ∧ Below B w1 w') := fun q hq hr M w1 hi hm hb => by
      have n5 := Fa.kids_nodes k _ (List.getElem_mem hq)
      simp only [Fa.F.nodes] at hn
      exact hWr B bb M k.kids[q] (valE rs[q]) w1 (by omega) ((h4.elem q hq hr).moved (fun b h1 _ => ⟨h1, hb.block b h1⟩) hb.size) (n5.2.2 hok.2.2.1) hi hm (Nat.le_trans hBw hb.size) hB10 (hE.belowB hB10 hb)
    have HI0 : Hid (IsB B bb (L ++ txtP k 0) w) := by show IsB _ _ _ _; simpa [txtP] using hI
    unfold joinPtr
    clear h h2 h3 h4 hok hn hL hI hE hlk hWr
    go_enter Tryd.func27, Tryd.ntmps27
    go_wp2
    go_loopw [80] (fun i wr => ∃ q : Nat, q ≤ rs.length ∧ i = .int .i64 q ∧ Hid (Below B w wr) ∧ Hid (IsB B bb (L ++ txtP k q) wr)) (fun i _ => rs.length - (intOf i).toNat)
    case atStart => exact ⟨0, Nat.zero_le _, rfl, Below.refl _ _, HI0⟩
    case round =>
      obtain ⟨q, hq, rfl, hbr, hir⟩ := hrel
      by_cases hlt : q < rs.length
      · have hqk : q < k.kids.length := by have := HLK.out; omega
        have i1 : (q : Int) < (rs.length : Int) := by omega
        have c1 := (hbr.out.cell (p := ⟨g, o + q, none⟩) hg).trans (HE.out q hlt)
        have hle := txt_one_le hqk
        have hpl := txtP_le (k := k) q (by omega)
        have HLE := Lib.hid hle
        have HPL := Lib.hid hpl
        clear hle hpl
        by_cases hq0 : q = 0
        · have hle := HLE.out.2 hq0
          subst hq0
          rw [Nat.add_zero] at c1
          have HL2 := Lib.hid hle
          clear hle
          have HX := Lib.hid (txtP_first (k := k) hqk)
          have HWB : Hid (Calls Tryd.prog 39 #[.pointer (some ⟨bb, 0, none⟩), .int .u8 40] wr fun e w' => e = .returned .nilIface ∧ IsB B bb (L ++ txtP k 0 ++ [40]) w' ∧ Below B wr w') := wByte B bb _ 40 wr hir.out (by simp [txtP]; omega) (Nat.le_trans hBw hbr.out.size)
          go_wp2_with (first | (go_at_call 39; refine HWB.out.mono ?_; rintro e w1 ⟨rfl, hi1, hb1⟩) | (go_at_call 27; refine (HW.out 0 hqk hlt _ _ hi1 (by have := HL2.out; simp [txtP] at this ⊢; omega) (hbr.out.trans hb1)).mono ?_; rintro e w2 ⟨rfl, hi2, hb2⟩))
          case roundEnd =>
            refine ⟨⟨0 + 1, by omega, by go_num, (hbr.out.trans hb1).trans hb2, ?_⟩, by simp [intOf]; omega⟩
            show IsB _ _ _ _
            rw [HX.out]
            simpa [txtP] using hi2
        · have HX := Lib.hid (txtP_next (k := k) hqk hq0)
          have HL2 := Lib.hid (HLE.out.1 hq0)
          have hqe : ((q : Int) == 0) = false := by rw [beq_eq_false_iff_ne]; omega
          have HWB : Hid (Calls Tryd.prog 36 #[.pointer (some ⟨bb, 0, none⟩), .string ⟨#[32, 38, 32]⟩] wr fun e w' => (∃ n, e = .returned (.tuple #[.int .i64 n, .nilIface])) ∧ IsB B bb (L ++ txtP k q ++ [32, 38, 32]) w' ∧ Below B wr w') := wStr B bb _ ⟨#[32, 38, 32]⟩ wr hir.out (by
              have h1 := HPL.out
              show _ + 3 ≤ _
              simp
              omega) (Nat.le_trans hBw hbr.out.size)
          clear hq0
          go_wp2_with (first | (go_at_call 36; refine HWB.out.mono ?_; rintro e w1 ⟨⟨n1, rfl⟩, hi1, hb1⟩) | (go_at_call 27; refine (HW.out q hqk hlt _ _ hi1 (by have := HL2.out; simp at this ⊢; omega) (hbr.out.trans hb1)).mono ?_; rintro e w2 ⟨rfl, hi2, hb2⟩))
          case roundEnd =>
            refine ⟨⟨q + 1, by omega, by go_num, (hbr.out.trans hb1).trans hb2, ?_⟩, by simp [intOf]; omega⟩
            show IsB _ _ _ _
            rw [HX.out]
            simpa using hi2
      · have i1 : ¬ (q : Int) < (rs.length : Int) := by omega
        have HX := Lib.hid (txtP_all (k := k) (q := q) (by have := HLK.out; omega) (by omega))
        have HWB : Hid (Calls Tryd.prog 39 #[.pointer (some ⟨bb, 0, none⟩), .int .u8 41] wr fun e w' => e = .returned .nilIface ∧ IsB B bb (L ++ txtP k q ++ [41]) w' ∧ Below B wr w') := wByte B bb _ 41 wr hir.out (by rw [HX.out]; simp; omega) (Nat.le_trans hBw hbr.out.size)
        go_wp2_with (go_at_call 39; refine HWB.out.mono ?_; rintro e w1 ⟨rfl, hi1, hb1⟩)
        go_end0
        refine ⟨rfl, ?_, hbr.out.trans hb1⟩
        rw [HTX.out]
        rw [HX.out] at hi1
        simpa using hi1
theorem wrC_all : ∀ n, WrC n := by
  intro n
  induction n with
  | zero =>
    intro B bb L t v w hn h
    have := one_ne h
    omega
  | succ n ih => exact wr_step n ih
def TextPost (t : Fa.F) (w : World) (e : Ending) (w' : World) : Prop := e = .returned (.tuple #[S8 t.txt, I64 0]) ∧ Below w.heap.size w w'
set_option maxHeartbeats 2000000 in
set_option maxRecDepth 100000 in
theorem text_any (t : Fa.F) (v : Value) (w : World) (h : Holds (fun _ => True) w t [v]) (hok : t.ok) (hl : t.txt.length ≤ 1000000000000) (hE : EnvF w) : Calls Tryd.prog 9 #[v] w (TextPost t w) := by
  have HM := Lib.hid (measure_any _ t v w h)
  have hp := one_ne h
  have HW : Hid (∀ w1, Below w.heap.size w w1 → Calls Tryd.prog 27 #[.pointer (some ⟨w1.heap.size, 0, none⟩), v] (w1.alloc (.cells #[.pointer none, .slice none 0 0] 73)) fun e w' => e = .returned (.tuple #[]) ∧ IsB w1.heap.size w1.heap.size t.txt w' ∧ Below w1.heap.size (w1.alloc (.cells #[.pointer none, .slice none 0 0] 73)) w') := fun w1 hb => by
    have hb2 : Below w1.heap.size w1 (w1.alloc (.cells #[.pointer none, .slice none 0 0] 73)) := (Below.refl _ _).alloc (Nat.le_refl _) _
    have h1 := wrC_all t.nodes w1.heap.size w1.heap.size [] t v _ (Nat.le_refl _) (((h.below hb).mono (fun b _ h => h)).below hb2) hok (isB_newF w1) (by simpa using hl) hb2.size (Nat.le_trans hE.big hb.size) ((hE.below hb).below hb2)
    simpa using h1
  have HST : Hid (∀ w1 w2 : World, IsB w1.heap.size w1.heap.size t.txt w2 → w1.heap.size ≤ w2.heap.size → Calls Tryd.prog 28 #[.pointer (some ⟨w1.heap.size, 0, none⟩)] w2 fun e w' => e = .returned (S8 t.txt) ∧ Below w1.heap.size w2 w') := fun w1 w2 hi hs => Tryd.Builder_String_any _ _ _ w2 hi hs
  obtain ⟨ty, p, rfl⟩ := h.iface
  have hm1 : ((t.nodes : Int) == 0) = false := by rw [beq_eq_false_iff_ne]; omega
  generalize t.hgt - 1 = d at HM
  clear h hok hE hp
  go_enter Tryd.func9, Tryd.ntmps9
  go_wp2_with (first | (go_at_call 24; refine HM.out.mono ?_; rintro e w1 ⟨rfl, hb1⟩) | (go_at_call 27; refine (HW.out _ hb1).mono ?_; rintro e w2 ⟨rfl, hi2, hb2⟩; have hs2 := hb2.size; simp at hs2) | (go_at_call 28; refine (HST.out _ _ hi2 (by omega)).mono ?_; rintro e w3 ⟨rfl, hb3⟩))
  go_ret2
  exact ⟨rfl, hb1.trans ((((((Below.refl w1.heap.size w1).alloc (Nat.le_refl _) _).trans hb2).trans hb3)).mono hb1.size)⟩
end Go.Proofs.YtgnhbccmdpkbiaaDoor
