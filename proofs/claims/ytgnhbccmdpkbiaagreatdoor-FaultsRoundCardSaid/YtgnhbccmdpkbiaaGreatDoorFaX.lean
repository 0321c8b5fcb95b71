/-
  Walks for layer 3 (faults): digits and text of the reference.
-/
import Derived.Test.YtgnhbccmdpkbiaaGreatDoorFaNm
import Derived.Test.YtgnhbccmdpkbiaaGreatDoorW8
import Derived.Test.YtgnhbccmdpkbiaaGreatDoorFaw22
import Derived.Test.YtgnhbccmdpkbiaaGreatDoorFaTx
import Derived.Test.YtgnhbccmdpkbiaaGreatDoorFaw6
import Derived.BigQuiet
namespace Go.Proofs.YtgnhbccmdpkbiaaGreatDoor
open Go.RowKit Go.Shelf

theorem digits_any (n : Int) (h0 : -9223372036854775808 ≤ n) (h1 : n ≤ 9223372036854775807) (w : World) : Calls Tryz.prog 85 #[.int .i64 n] w fun e w' => e = .returned (S8 (Lib.itoa n)) ∧ Below w.heap.size w w' := by
  have HD := Lib.hid (fun w => rdigits_any n.natAbs n (Nat.le_refl _) h0 h1 w)
  clear h0 h1
  go_enter Tryz.func85, Tryz.ntmps85
  go_wp2_with (go_at_call 103; refine (HD.out _).mono ?_; rintro e w1 ⟨rfl, hb⟩)
  go_ret
  exact ⟨rfl, hb⟩

def XT (X : Nat) (k : Int) (op : ByteArray) (b c : Int) (w : World) : Prop := w.cell? ⟨X, 0, none⟩ = some (I64 k) ∧ w.cell? ⟨X, 1, none⟩ = some (.string op) ∧ w.cell? ⟨X, 2, none⟩ = some (I64 b) ∧ w.cell? ⟨X, 3, none⟩ = some (I64 c)
theorem XT.below {X : Nat} {k : Int} {op : ByteArray} {b c : Int} {w w' : World} (h : XT X k op b c w) (hb : Below w.heap.size w w') : XT X k op b c w' := by
  obtain ⟨h0, h1, h2, h3⟩ := h
  have hl := cell_lt h0
  exact ⟨(hb.cell hl).trans h0, (hb.cell hl).trans h1, (hb.cell hl).trans h2, (hb.cell hl).trans h3⟩
def linkV (x : Fa.Link) : Value := .agg #[I64 x.kind, .string x.op, I64 x.backend, I64 x.conn]
theorem xt_new (w : World) (k : Int) (op : ByteArray) (b c : Int) : XT w.heap.size k op b c (w.alloc (.cells #[I64 k, .string op, I64 b, I64 c] 34)) := by
  have h := blk_new w (.cells #[I64 k, .string op, I64 b, I64 c] 34)
  exact ⟨blk_cell h 0, blk_cell h 1, blk_cell h 2, blk_cell h 3⟩
theorem XT.drew1 {X : Nat} {k : Int} {op : ByteArray} {b c : Int} {w : World} (h : XT X k op b c w) : XT X k op b c w.drew := h
def XTN (X : Nat) (k : Int) (op : ByteArray) (b c : Int) (g kn : Nat) (nm : List UInt8) (w : World) : Prop := XT X k op b c w ∧ w.cell? ⟨g, kn, none⟩ = some (S8 nm)
set_option linter.unusedSimpArgs false in
set_option maxHeartbeats 4000000 in
set_option maxRecDepth 100000 in
theorem rtext_11 (kn : Nat) (op : ByteArray) (bk cn : Int) (w : World) (hk : kn < 17) (hbk : bk ≠ -1) (hcn : cn ≠ 0) (hb0 : -9223372036854775808 ≤ bk) (hb1 : bk ≤ 9223372036854775807) (hc0 : -9223372036854775808 ≤ cn) (hc1 : cn ≤ 9223372036854775807) (hop : op.data.size ≤ 1000000000000) :
    Calls Tryz.prog 75 #[.agg #[I64 (kn : Int), .string op, I64 bk, I64 cn]] w fun e w' => e = .returned (.string ⟨(Fa.txtL ⟨(kn : Int), op, bk, cn⟩).toArray⟩) ∧ Below w.heap.size w w' := by
  have hX := xt_new w (kn : Int) op bk cn
  have hB := (Below.refl w.heap.size w).alloc (Nat.le_refl _) (.cells #[I64 (kn : Int), .string op, I64 bk, I64 cn] 34)
  have HK := Lib.hid hk
  have HNE : Hid (Fa.nameOf (kn : Int) = Fa.names.getD kn []) := by show _ = _; simp [Fa.nameOf]
  have hil := Lib.itoa_length_le bk (by omega) (by omega)
  have hil2 := Lib.itoa_length_le cn (by omega) (by omega)
  have hnl := names_len kn
  have hnl2 := hnl
  rw [List.getD_eq_getElem?_getD] at hnl2
  have hop2 : op.size ≤ 1000000000000 := hop
  have HDB := Lib.hid (fun w => digits_any bk hb0 hb1 w)
  have HDC := Lib.hid (fun w => digits_any cn hc0 hc1 w)
  have b1 : (bk != -1) = true := by rw [bne_iff_ne]; exact hbk
  have HBK := Lib.hid (show Fa.txt2 ⟨(kn : Int), op, bk, cn⟩ = Fa.sOn ++ Lib.itoa bk from if_neg hbk)
  have c1 : (cn != 0) = true := by rw [bne_iff_ne]; exact hcn
  have HCN := Lib.hid (show Fa.txt3 ⟨(kn : Int), op, bk, cn⟩ = Fa.sOver ++ Lib.itoa cn from if_neg hcn)
  have i0 : ¬ (kn : Int) < 0 := by omega
  have i1 : (kn : Int) < 17 := by omega
  have hq : (Fa.txtL ⟨(kn : Int), op, bk, cn⟩) = op.data.toList ++ Fa.txt2 ⟨(kn : Int), op, bk, cn⟩ ++ Fa.txt3 ⟨(kn : Int), op, bk, cn⟩ ++ ([58, 32] ++ Fa.names.getD kn []) := by
    unfold Fa.txtL
    rw [HNE.out]
    rfl
  have HQ := Lib.hid hq
  clear hbk hcn hb0 hb1 hc0 hc1 hk hq HNE
  obtain ⟨x0, x1, x2, x3⟩ := id hX
  go_enter Tryz.func75, Tryz.ntmps75
  go_wp2_with fail
  refine (HDB.out _).mono ?_
  rintro e w1 ⟨rfl, hx⟩
  replace hB := hB.trans (hx.mono hB.size)
  replace hX := hX.below hx
  clear hx x0 x1 x2 x3
  obtain ⟨x0, x1, x2, x3⟩ := id hX
  go_wp2_with fail
  refine (HDC.out _).mono ?_
  rintro e w2 ⟨rfl, hx⟩
  replace hB := hB.trans (hx.mono hB.size)
  replace hX := hX.below hx
  clear hx x0 x1 x2 x3
  obtain ⟨x0, x1, x2, x3⟩ := id hX
  go_wp2_with fail
  have HS3 : Hid ((op ++ ⟨#[32, 111, 110, 32]⟩ ++ ⟨(Lib.itoa bk).toArray⟩ ++ ⟨#[32, 111, 118, 101, 114, 32]⟩ ++ ⟨(Lib.itoa cn).toArray⟩ : ByteArray).data.toList = op.data.toList ++ Fa.txt2 ⟨(kn : Int), op, bk, cn⟩ ++ Fa.txt3 ⟨(kn : Int), op, bk, cn⟩) := by
    show _ = _
    rw [HBK.out, HCN.out]
    simp [Fa.sOn, Fa.sOver]
  have hs3z : (op ++ ⟨#[32, 111, 110, 32]⟩ ++ ⟨(Lib.itoa bk).toArray⟩ ++ ⟨#[32, 111, 118, 101, 114, 32]⟩ ++ ⟨(Lib.itoa cn).toArray⟩ : ByteArray).size ≤ 1000000000100 := by
    have e : (op ++ ⟨#[32, 111, 110, 32]⟩ ++ ⟨(Lib.itoa bk).toArray⟩ ++ ⟨#[32, 111, 118, 101, 114, 32]⟩ ++ ⟨(Lib.itoa cn).toArray⟩ : ByteArray).size = (op ++ ⟨#[32, 111, 110, 32]⟩ ++ ⟨(Lib.itoa bk).toArray⟩ ++ ⟨#[32, 111, 118, 101, 114, 32]⟩ ++ ⟨(Lib.itoa cn).toArray⟩ : ByteArray).data.toList.length := by rw [Array.length_toList]; rfl
    have e2 : op.data.toList.length = op.size := by rw [Array.length_toList]; rfl
    rw [e, HS3.out, HBK.out, HCN.out, List.length_append, List.length_append, e2]
    simp only [List.length_append, List.length_nil, show Fa.sOn.length = 4 from rfl, show Fa.sOver.length = 6 from rfl]
    omega
  generalize (op ++ ⟨#[32, 111, 110, 32]⟩ ++ ⟨(Lib.itoa bk).toArray⟩ ++ ⟨#[32, 111, 118, 101, 114, 32]⟩ ++ ⟨(Lib.itoa cn).toArray⟩ : ByteArray) = s3 at hs3z HS3 ⊢
  refine wp_region_held_drew (S := XT w.heap.size (kn : Int) op bk cn) (by kernel_rfl) hX.drew1 (fun hHeld => ?_)
  have HB := Lib.hid hB.drew
  clear hB x0 x1 x2 x3
  have HX := Lib.hid hX.drew1
  clear hX
  refine wpAnyH_take (i := 0) (oi := _) (v := ?vv0_1) (dropAt (r := _) rfl) (by kernel_rfl) (by kernel_rfl) (by kernel_rfl) (fun _ _ _ h => h) (Or.inl ⟨by rfl, ?hv0_1⟩) hHeld ?rv0_1
  case hv0_1 => (intro w hSw; unfold XT at hSw; go_simp; first | done | with_reducible rfl | (rw [if_neg (by omega)]; done) | (rw [if_neg (by omega)]; with_reducible rfl))
  try simp only [Act.put, List.setIfInBounds_toArray, List.set_cons_zero, List.set_cons_succ]
  refine wpAnyH_take (i := 1) (oi := _) (v := ?vv1_2) (dropAt (r := _) rfl) (by kernel_rfl) (by kernel_rfl) (by kernel_rfl) (fun _ _ _ h => h) (Or.inl ⟨by rfl, ?hv1_2⟩) hHeld ?rv1_2
  case hv1_2 => (intro w hSw; unfold XT at hSw; go_simp; first | done | with_reducible rfl | (rw [if_neg (by omega)]; done) | (rw [if_neg (by omega)]; with_reducible rfl))
  try simp only [Act.put, List.setIfInBounds_toArray, List.set_cons_zero, List.set_cons_succ]
  refine wpAnyH_take (i := 3) (oi := _) (v := ?vv3_3) (dropAt (r := _) rfl) (by kernel_rfl) (by kernel_rfl) (by kernel_rfl) (fun _ _ _ h => h) (Or.inl ⟨by rfl, ?hv3_3⟩) hHeld ?rv3_3
  case hv3_3 => (intro w hSw; unfold XT at hSw; go_simp; first | done | with_reducible rfl | (rw [if_neg (by omega)]; done) | (rw [if_neg (by omega)]; with_reducible rfl))
  try simp only [Act.put, List.setIfInBounds_toArray, List.set_cons_zero, List.set_cons_succ]
  refine wpAnyH_take (i := 4) (oi := _) (v := ?vv4_4) (dropAt (r := _) rfl) (by kernel_rfl) (by kernel_rfl) (by kernel_rfl) (fun _ _ _ h => h) (Or.inl ⟨by rfl, ?hv4_4⟩) hHeld ?rv4_4
  case hv4_4 => (intro w hSw; unfold XT at hSw; go_simp; first | done | with_reducible rfl | (rw [if_neg (by omega)]; done) | (rw [if_neg (by omega)]; with_reducible rfl))
  try simp only [Act.put, List.setIfInBounds_toArray, List.set_cons_zero, List.set_cons_succ]
  refine wpAnyH_ready (rs := [2]) (by kernel_rfl) (by simp) ?_
  refine AllReadyH.cons (o := _) (dropAt (r := _) rfl) (fun K hK => ?_) AllReadyH.nil
  go_simp
  go_at_call 28
  refine (names_any _).mono ?_
  rintro e w3 ⟨gn, rfl, hnm, hx⟩
  have n0 := hnm kn HK.out
  have hs3 := HX.out.below hx
  have hs3n : XTN w.heap.size (kn : Int) op bk cn gn kn (Fa.names.getD kn []) w3 := ⟨hs3, n0⟩
  clear n0 hnm
  refine hK.out _ _ hs3 (fun hHeld3 => ?_)
  clear hK K
  try simp only [Act.put, List.setIfInBounds_toArray, List.set_cons_zero, List.set_cons_succ]
  refine wpAnyH_take (i := 5) (oi := _) (v := ?vv5_5) (dropAt (r := _) rfl) (by kernel_rfl) (by kernel_rfl) (by kernel_rfl) (fun _ _ _ h => h) (Or.inl ⟨by rfl, ?hv5_5⟩) hHeld3 ?rv5_5
  case hv5_5 => (intro w hSw; unfold XT at hSw; go_simp; first | done | with_reducible rfl | (rw [if_neg (by omega)]; done) | (rw [if_neg (by omega)]; with_reducible rfl))
  try simp only [Act.put, List.setIfInBounds_toArray, List.set_cons_zero, List.set_cons_succ]
  refine wpAnyH_ready (rs := [6]) (by kernel_rfl) (by simp) ?_
  refine AllReadyH.cons (o := _) (dropAt (r := _) rfl) (fun K hK => ?_) AllReadyH.nil
  go_simp
  obtain ⟨_, n0⟩ := id hs3n
  go_simp
  refine hK.out _ _ hs3 (fun hHeld4 => ?_)
  clear hK K
  try simp only [Act.put, List.setIfInBounds_toArray, List.set_cons_zero, List.set_cons_succ]
  refine wpAnyH_take (i := 7) (oi := _) (v := ?vv7_6) (dropAt (r := _) rfl) (by kernel_rfl) (by kernel_rfl) (by kernel_rfl) (fun _ _ _ h => h) (Or.inl ⟨by rfl, ?hv7_6⟩) hHeld4 ?rv7_6
  case hv7_6 => (intro w hSw; unfold XT at hSw; go_simp; first | done | with_reducible rfl | (rw [if_neg (by omega)]; done) | (rw [if_neg (by omega)]; with_reducible rfl))
  try simp only [Act.put, List.setIfInBounds_toArray, List.set_cons_zero, List.set_cons_succ]
  refine wpAnyH_take (i := 8) (oi := _) (v := ?vv8_7) (dropAt (r := _) rfl) (by kernel_rfl) (by kernel_rfl) (by kernel_rfl) (fun _ _ _ h => h) (Or.inl ⟨by rfl, ?hv8_7⟩) hHeld4 ?rv8_7
  case hv8_7 => (intro w hSw; unfold XT at hSw; go_simp; first | done | with_reducible rfl | (rw [if_neg (by omega)]; done) | (rw [if_neg (by omega)]; with_reducible rfl))
  try simp only [Act.put, List.setIfInBounds_toArray, List.set_cons_zero, List.set_cons_succ]
  refine wpAnyH_done (by kernel_rfl) ?_ _
  have hb := HB.out.trans (hx.mono HB.out.size)
  go_wp2
  go_ret
  refine ⟨ret_str ?_, hb⟩
  rw [HQ.out, ← HS3.out]
  apply ByteArray.ext; simp
set_option linter.unusedSimpArgs false in
set_option maxHeartbeats 4000000 in
set_option maxRecDepth 100000 in
theorem rtext_10 (kn : Nat) (op : ByteArray) (bk cn : Int) (w : World) (hk : kn < 17) (hbk : bk ≠ -1) (hcn : cn = 0) (hb0 : -9223372036854775808 ≤ bk) (hb1 : bk ≤ 9223372036854775807) (hc0 : -9223372036854775808 ≤ cn) (hc1 : cn ≤ 9223372036854775807) (hop : op.data.size ≤ 1000000000000) :
    Calls Tryz.prog 75 #[.agg #[I64 (kn : Int), .string op, I64 bk, I64 cn]] w fun e w' => e = .returned (.string ⟨(Fa.txtL ⟨(kn : Int), op, bk, cn⟩).toArray⟩) ∧ Below w.heap.size w w' := by
  have hX := xt_new w (kn : Int) op bk cn
  have hB := (Below.refl w.heap.size w).alloc (Nat.le_refl _) (.cells #[I64 (kn : Int), .string op, I64 bk, I64 cn] 34)
  have HK := Lib.hid hk
  have HNE : Hid (Fa.nameOf (kn : Int) = Fa.names.getD kn []) := by show _ = _; simp [Fa.nameOf]
  have hil := Lib.itoa_length_le bk (by omega) (by omega)
  have hil2 := Lib.itoa_length_le cn (by omega) (by omega)
  have hnl := names_len kn
  have hnl2 := hnl
  rw [List.getD_eq_getElem?_getD] at hnl2
  have hop2 : op.size ≤ 1000000000000 := hop
  have HDB := Lib.hid (fun w => digits_any bk hb0 hb1 w)
  have HDC := Lib.hid (fun w => digits_any cn hc0 hc1 w)
  have b1 : (bk != -1) = true := by rw [bne_iff_ne]; exact hbk
  have HBK := Lib.hid (show Fa.txt2 ⟨(kn : Int), op, bk, cn⟩ = Fa.sOn ++ Lib.itoa bk from if_neg hbk)
  have c1 : (cn != 0) = false := by subst hcn; rfl
  have HCN := Lib.hid (show Fa.txt3 ⟨(kn : Int), op, bk, cn⟩ = [] from if_pos hcn)
  have i0 : ¬ (kn : Int) < 0 := by omega
  have i1 : (kn : Int) < 17 := by omega
  have hq : (Fa.txtL ⟨(kn : Int), op, bk, cn⟩) = op.data.toList ++ Fa.txt2 ⟨(kn : Int), op, bk, cn⟩ ++ Fa.txt3 ⟨(kn : Int), op, bk, cn⟩ ++ ([58, 32] ++ Fa.names.getD kn []) := by
    unfold Fa.txtL
    rw [HNE.out]
    rfl
  have HQ := Lib.hid hq
  clear hbk hcn hb0 hb1 hc0 hc1 hk hq HNE
  obtain ⟨x0, x1, x2, x3⟩ := id hX
  go_enter Tryz.func75, Tryz.ntmps75
  go_wp2_with fail
  refine (HDB.out _).mono ?_
  rintro e w1 ⟨rfl, hx⟩
  replace hB := hB.trans (hx.mono hB.size)
  replace hX := hX.below hx
  clear hx x0 x1 x2 x3
  obtain ⟨x0, x1, x2, x3⟩ := id hX
  go_wp2_with fail
  have HS3 : Hid ((op ++ ⟨#[32, 111, 110, 32]⟩ ++ ⟨(Lib.itoa bk).toArray⟩ : ByteArray).data.toList = op.data.toList ++ Fa.txt2 ⟨(kn : Int), op, bk, cn⟩ ++ Fa.txt3 ⟨(kn : Int), op, bk, cn⟩) := by
    show _ = _
    rw [HBK.out, HCN.out]
    simp [Fa.sOn, Fa.sOver]
  have hs3z : (op ++ ⟨#[32, 111, 110, 32]⟩ ++ ⟨(Lib.itoa bk).toArray⟩ : ByteArray).size ≤ 1000000000100 := by
    have e : (op ++ ⟨#[32, 111, 110, 32]⟩ ++ ⟨(Lib.itoa bk).toArray⟩ : ByteArray).size = (op ++ ⟨#[32, 111, 110, 32]⟩ ++ ⟨(Lib.itoa bk).toArray⟩ : ByteArray).data.toList.length := by rw [Array.length_toList]; rfl
    have e2 : op.data.toList.length = op.size := by rw [Array.length_toList]; rfl
    rw [e, HS3.out, HBK.out, HCN.out, List.length_append, List.length_append, e2]
    simp only [List.length_append, List.length_nil, show Fa.sOn.length = 4 from rfl, show Fa.sOver.length = 6 from rfl]
    omega
  generalize (op ++ ⟨#[32, 111, 110, 32]⟩ ++ ⟨(Lib.itoa bk).toArray⟩ : ByteArray) = s3 at hs3z HS3 ⊢
  refine wp_region_held_drew (S := XT w.heap.size (kn : Int) op bk cn) (by kernel_rfl) hX.drew1 (fun hHeld => ?_)
  have HB := Lib.hid hB.drew
  clear hB x0 x1 x2 x3
  have HX := Lib.hid hX.drew1
  clear hX
  refine wpAnyH_take (i := 0) (oi := _) (v := ?vv0_1) (dropAt (r := _) rfl) (by kernel_rfl) (by kernel_rfl) (by kernel_rfl) (fun _ _ _ h => h) (Or.inl ⟨by rfl, ?hv0_1⟩) hHeld ?rv0_1
  case hv0_1 => (intro w hSw; unfold XT at hSw; go_simp; first | done | with_reducible rfl | (rw [if_neg (by omega)]; done) | (rw [if_neg (by omega)]; with_reducible rfl))
  try simp only [Act.put, List.setIfInBounds_toArray, List.set_cons_zero, List.set_cons_succ]
  refine wpAnyH_take (i := 1) (oi := _) (v := ?vv1_2) (dropAt (r := _) rfl) (by kernel_rfl) (by kernel_rfl) (by kernel_rfl) (fun _ _ _ h => h) (Or.inl ⟨by rfl, ?hv1_2⟩) hHeld ?rv1_2
  case hv1_2 => (intro w hSw; unfold XT at hSw; go_simp; first | done | with_reducible rfl | (rw [if_neg (by omega)]; done) | (rw [if_neg (by omega)]; with_reducible rfl))
  try simp only [Act.put, List.setIfInBounds_toArray, List.set_cons_zero, List.set_cons_succ]
  refine wpAnyH_take (i := 3) (oi := _) (v := ?vv3_3) (dropAt (r := _) rfl) (by kernel_rfl) (by kernel_rfl) (by kernel_rfl) (fun _ _ _ h => h) (Or.inl ⟨by rfl, ?hv3_3⟩) hHeld ?rv3_3
  case hv3_3 => (intro w hSw; unfold XT at hSw; go_simp; first | done | with_reducible rfl | (rw [if_neg (by omega)]; done) | (rw [if_neg (by omega)]; with_reducible rfl))
  try simp only [Act.put, List.setIfInBounds_toArray, List.set_cons_zero, List.set_cons_succ]
  refine wpAnyH_take (i := 4) (oi := _) (v := ?vv4_4) (dropAt (r := _) rfl) (by kernel_rfl) (by kernel_rfl) (by kernel_rfl) (fun _ _ _ h => h) (Or.inl ⟨by rfl, ?hv4_4⟩) hHeld ?rv4_4
  case hv4_4 => (intro w hSw; unfold XT at hSw; go_simp; first | done | with_reducible rfl | (rw [if_neg (by omega)]; done) | (rw [if_neg (by omega)]; with_reducible rfl))
  try simp only [Act.put, List.setIfInBounds_toArray, List.set_cons_zero, List.set_cons_succ]
  refine wpAnyH_ready (rs := [2]) (by kernel_rfl) (by simp) ?_
  refine AllReadyH.cons (o := _) (dropAt (r := _) rfl) (fun K hK => ?_) AllReadyH.nil
  go_simp
  go_at_call 28
  refine (names_any _).mono ?_
  rintro e w3 ⟨gn, rfl, hnm, hx⟩
  have n0 := hnm kn HK.out
  have hs3 := HX.out.below hx
  have hs3n : XTN w.heap.size (kn : Int) op bk cn gn kn (Fa.names.getD kn []) w3 := ⟨hs3, n0⟩
  clear n0 hnm
  refine hK.out _ _ hs3 (fun hHeld3 => ?_)
  clear hK K
  try simp only [Act.put, List.setIfInBounds_toArray, List.set_cons_zero, List.set_cons_succ]
  refine wpAnyH_take (i := 5) (oi := _) (v := ?vv5_5) (dropAt (r := _) rfl) (by kernel_rfl) (by kernel_rfl) (by kernel_rfl) (fun _ _ _ h => h) (Or.inl ⟨by rfl, ?hv5_5⟩) hHeld3 ?rv5_5
  case hv5_5 => (intro w hSw; unfold XT at hSw; go_simp; first | done | with_reducible rfl | (rw [if_neg (by omega)]; done) | (rw [if_neg (by omega)]; with_reducible rfl))
  try simp only [Act.put, List.setIfInBounds_toArray, List.set_cons_zero, List.set_cons_succ]
  refine wpAnyH_ready (rs := [6]) (by kernel_rfl) (by simp) ?_
  refine AllReadyH.cons (o := _) (dropAt (r := _) rfl) (fun K hK => ?_) AllReadyH.nil
  go_simp
  obtain ⟨_, n0⟩ := id hs3n
  go_simp
  refine hK.out _ _ hs3 (fun hHeld4 => ?_)
  clear hK K
  try simp only [Act.put, List.setIfInBounds_toArray, List.set_cons_zero, List.set_cons_succ]
  refine wpAnyH_take (i := 7) (oi := _) (v := ?vv7_6) (dropAt (r := _) rfl) (by kernel_rfl) (by kernel_rfl) (by kernel_rfl) (fun _ _ _ h => h) (Or.inl ⟨by rfl, ?hv7_6⟩) hHeld4 ?rv7_6
  case hv7_6 => (intro w hSw; unfold XT at hSw; go_simp; first | done | with_reducible rfl | (rw [if_neg (by omega)]; done) | (rw [if_neg (by omega)]; with_reducible rfl))
  try simp only [Act.put, List.setIfInBounds_toArray, List.set_cons_zero, List.set_cons_succ]
  refine wpAnyH_take (i := 8) (oi := _) (v := ?vv8_7) (dropAt (r := _) rfl) (by kernel_rfl) (by kernel_rfl) (by kernel_rfl) (fun _ _ _ h => h) (Or.inl ⟨by rfl, ?hv8_7⟩) hHeld4 ?rv8_7
  case hv8_7 => (intro w hSw; unfold XT at hSw; go_simp; first | done | with_reducible rfl | (rw [if_neg (by omega)]; done) | (rw [if_neg (by omega)]; with_reducible rfl))
  try simp only [Act.put, List.setIfInBounds_toArray, List.set_cons_zero, List.set_cons_succ]
  refine wpAnyH_done (by kernel_rfl) ?_ _
  have hb := HB.out.trans (hx.mono HB.out.size)
  go_wp2
  go_ret
  refine ⟨ret_str ?_, hb⟩
  rw [HQ.out, ← HS3.out]
  apply ByteArray.ext; simp
set_option linter.unusedSimpArgs false in
set_option maxHeartbeats 4000000 in
set_option maxRecDepth 100000 in
theorem rtext_01 (kn : Nat) (op : ByteArray) (bk cn : Int) (w : World) (hk : kn < 17) (hbk : bk = -1) (hcn : cn ≠ 0) (hb0 : -9223372036854775808 ≤ bk) (hb1 : bk ≤ 9223372036854775807) (hc0 : -9223372036854775808 ≤ cn) (hc1 : cn ≤ 9223372036854775807) (hop : op.data.size ≤ 1000000000000) :
    Calls Tryz.prog 75 #[.agg #[I64 (kn : Int), .string op, I64 bk, I64 cn]] w fun e w' => e = .returned (.string ⟨(Fa.txtL ⟨(kn : Int), op, bk, cn⟩).toArray⟩) ∧ Below w.heap.size w w' := by
  have hX := xt_new w (kn : Int) op bk cn
  have hB := (Below.refl w.heap.size w).alloc (Nat.le_refl _) (.cells #[I64 (kn : Int), .string op, I64 bk, I64 cn] 34)
  have HK := Lib.hid hk
  have HNE : Hid (Fa.nameOf (kn : Int) = Fa.names.getD kn []) := by show _ = _; simp [Fa.nameOf]
  have hil := Lib.itoa_length_le bk (by omega) (by omega)
  have hil2 := Lib.itoa_length_le cn (by omega) (by omega)
  have hnl := names_len kn
  have hnl2 := hnl
  rw [List.getD_eq_getElem?_getD] at hnl2
  have hop2 : op.size ≤ 1000000000000 := hop
  have HDB := Lib.hid (fun w => digits_any bk hb0 hb1 w)
  have HDC := Lib.hid (fun w => digits_any cn hc0 hc1 w)
  have b1 : (bk != -1) = false := by subst hbk; rfl
  have HBK := Lib.hid (show Fa.txt2 ⟨(kn : Int), op, bk, cn⟩ = [] from if_pos hbk)
  have c1 : (cn != 0) = true := by rw [bne_iff_ne]; exact hcn
  have HCN := Lib.hid (show Fa.txt3 ⟨(kn : Int), op, bk, cn⟩ = Fa.sOver ++ Lib.itoa cn from if_neg hcn)
  have i0 : ¬ (kn : Int) < 0 := by omega
  have i1 : (kn : Int) < 17 := by omega
  have hq : (Fa.txtL ⟨(kn : Int), op, bk, cn⟩) = op.data.toList ++ Fa.txt2 ⟨(kn : Int), op, bk, cn⟩ ++ Fa.txt3 ⟨(kn : Int), op, bk, cn⟩ ++ ([58, 32] ++ Fa.names.getD kn []) := by
    unfold Fa.txtL
    rw [HNE.out]
    rfl
  have HQ := Lib.hid hq
  clear hbk hcn hb0 hb1 hc0 hc1 hk hq HNE
  obtain ⟨x0, x1, x2, x3⟩ := id hX
  go_enter Tryz.func75, Tryz.ntmps75
  go_wp2_with fail
  refine (HDC.out _).mono ?_
  rintro e w2 ⟨rfl, hx⟩
  replace hB := hB.trans (hx.mono hB.size)
  replace hX := hX.below hx
  clear hx x0 x1 x2 x3
  obtain ⟨x0, x1, x2, x3⟩ := id hX
  go_wp2_with fail
  have HS3 : Hid ((op ++ ⟨#[32, 111, 118, 101, 114, 32]⟩ ++ ⟨(Lib.itoa cn).toArray⟩ : ByteArray).data.toList = op.data.toList ++ Fa.txt2 ⟨(kn : Int), op, bk, cn⟩ ++ Fa.txt3 ⟨(kn : Int), op, bk, cn⟩) := by
    show _ = _
    rw [HBK.out, HCN.out]
    simp [Fa.sOn, Fa.sOver]
  have hs3z : (op ++ ⟨#[32, 111, 118, 101, 114, 32]⟩ ++ ⟨(Lib.itoa cn).toArray⟩ : ByteArray).size ≤ 1000000000100 := by
    have e : (op ++ ⟨#[32, 111, 118, 101, 114, 32]⟩ ++ ⟨(Lib.itoa cn).toArray⟩ : ByteArray).size = (op ++ ⟨#[32, 111, 118, 101, 114, 32]⟩ ++ ⟨(Lib.itoa cn).toArray⟩ : ByteArray).data.toList.length := by rw [Array.length_toList]; rfl
    have e2 : op.data.toList.length = op.size := by rw [Array.length_toList]; rfl
    rw [e, HS3.out, HBK.out, HCN.out, List.length_append, List.length_append, e2]
    simp only [List.length_append, List.length_nil, show Fa.sOn.length = 4 from rfl, show Fa.sOver.length = 6 from rfl]
    omega
  generalize (op ++ ⟨#[32, 111, 118, 101, 114, 32]⟩ ++ ⟨(Lib.itoa cn).toArray⟩ : ByteArray) = s3 at hs3z HS3 ⊢
  refine wp_region_held_drew (S := XT w.heap.size (kn : Int) op bk cn) (by kernel_rfl) hX.drew1 (fun hHeld => ?_)
  have HB := Lib.hid hB.drew
  clear hB x0 x1 x2 x3
  have HX := Lib.hid hX.drew1
  clear hX
  refine wpAnyH_take (i := 0) (oi := _) (v := ?vv0_1) (dropAt (r := _) rfl) (by kernel_rfl) (by kernel_rfl) (by kernel_rfl) (fun _ _ _ h => h) (Or.inl ⟨by rfl, ?hv0_1⟩) hHeld ?rv0_1
  case hv0_1 => (intro w hSw; unfold XT at hSw; go_simp; first | done | with_reducible rfl | (rw [if_neg (by omega)]; done) | (rw [if_neg (by omega)]; with_reducible rfl))
  try simp only [Act.put, List.setIfInBounds_toArray, List.set_cons_zero, List.set_cons_succ]
  refine wpAnyH_take (i := 1) (oi := _) (v := ?vv1_2) (dropAt (r := _) rfl) (by kernel_rfl) (by kernel_rfl) (by kernel_rfl) (fun _ _ _ h => h) (Or.inl ⟨by rfl, ?hv1_2⟩) hHeld ?rv1_2
  case hv1_2 => (intro w hSw; unfold XT at hSw; go_simp; first | done | with_reducible rfl | (rw [if_neg (by omega)]; done) | (rw [if_neg (by omega)]; with_reducible rfl))
  try simp only [Act.put, List.setIfInBounds_toArray, List.set_cons_zero, List.set_cons_succ]
  refine wpAnyH_take (i := 3) (oi := _) (v := ?vv3_3) (dropAt (r := _) rfl) (by kernel_rfl) (by kernel_rfl) (by kernel_rfl) (fun _ _ _ h => h) (Or.inl ⟨by rfl, ?hv3_3⟩) hHeld ?rv3_3
  case hv3_3 => (intro w hSw; unfold XT at hSw; go_simp; first | done | with_reducible rfl | (rw [if_neg (by omega)]; done) | (rw [if_neg (by omega)]; with_reducible rfl))
  try simp only [Act.put, List.setIfInBounds_toArray, List.set_cons_zero, List.set_cons_succ]
  refine wpAnyH_take (i := 4) (oi := _) (v := ?vv4_4) (dropAt (r := _) rfl) (by kernel_rfl) (by kernel_rfl) (by kernel_rfl) (fun _ _ _ h => h) (Or.inl ⟨by rfl, ?hv4_4⟩) hHeld ?rv4_4
  case hv4_4 => (intro w hSw; unfold XT at hSw; go_simp; first | done | with_reducible rfl | (rw [if_neg (by omega)]; done) | (rw [if_neg (by omega)]; with_reducible rfl))
  try simp only [Act.put, List.setIfInBounds_toArray, List.set_cons_zero, List.set_cons_succ]
  refine wpAnyH_ready (rs := [2]) (by kernel_rfl) (by simp) ?_
  refine AllReadyH.cons (o := _) (dropAt (r := _) rfl) (fun K hK => ?_) AllReadyH.nil
  go_simp
  go_at_call 28
  refine (names_any _).mono ?_
  rintro e w3 ⟨gn, rfl, hnm, hx⟩
  have n0 := hnm kn HK.out
  have hs3 := HX.out.below hx
  have hs3n : XTN w.heap.size (kn : Int) op bk cn gn kn (Fa.names.getD kn []) w3 := ⟨hs3, n0⟩
  clear n0 hnm
  refine hK.out _ _ hs3 (fun hHeld3 => ?_)
  clear hK K
  try simp only [Act.put, List.setIfInBounds_toArray, List.set_cons_zero, List.set_cons_succ]
  refine wpAnyH_take (i := 5) (oi := _) (v := ?vv5_5) (dropAt (r := _) rfl) (by kernel_rfl) (by kernel_rfl) (by kernel_rfl) (fun _ _ _ h => h) (Or.inl ⟨by rfl, ?hv5_5⟩) hHeld3 ?rv5_5
  case hv5_5 => (intro w hSw; unfold XT at hSw; go_simp; first | done | with_reducible rfl | (rw [if_neg (by omega)]; done) | (rw [if_neg (by omega)]; with_reducible rfl))
  try simp only [Act.put, List.setIfInBounds_toArray, List.set_cons_zero, List.set_cons_succ]
  refine wpAnyH_ready (rs := [6]) (by kernel_rfl) (by simp) ?_
  refine AllReadyH.cons (o := _) (dropAt (r := _) rfl) (fun K hK => ?_) AllReadyH.nil
  go_simp
  obtain ⟨_, n0⟩ := id hs3n
  go_simp
  refine hK.out _ _ hs3 (fun hHeld4 => ?_)
  clear hK K
  try simp only [Act.put, List.setIfInBounds_toArray, List.set_cons_zero, List.set_cons_succ]
  refine wpAnyH_take (i := 7) (oi := _) (v := ?vv7_6) (dropAt (r := _) rfl) (by kernel_rfl) (by kernel_rfl) (by kernel_rfl) (fun _ _ _ h => h) (Or.inl ⟨by rfl, ?hv7_6⟩) hHeld4 ?rv7_6
  case hv7_6 => (intro w hSw; unfold XT at hSw; go_simp; first | done | with_reducible rfl | (rw [if_neg (by omega)]; done) | (rw [if_neg (by omega)]; with_reducible rfl))
  try simp only [Act.put, List.setIfInBounds_toArray, List.set_cons_zero, List.set_cons_succ]
  refine wpAnyH_take (i := 8) (oi := _) (v := ?vv8_7) (dropAt (r := _) rfl) (by kernel_rfl) (by kernel_rfl) (by kernel_rfl) (fun _ _ _ h => h) (Or.inl ⟨by rfl, ?hv8_7⟩) hHeld4 ?rv8_7
  case hv8_7 => (intro w hSw; unfold XT at hSw; go_simp; first | done | with_reducible rfl | (rw [if_neg (by omega)]; done) | (rw [if_neg (by omega)]; with_reducible rfl))
  try simp only [Act.put, List.setIfInBounds_toArray, List.set_cons_zero, List.set_cons_succ]
  refine wpAnyH_done (by kernel_rfl) ?_ _
  have hb := HB.out.trans (hx.mono HB.out.size)
  go_wp2
  go_ret
  refine ⟨ret_str ?_, hb⟩
  rw [HQ.out, ← HS3.out]
  apply ByteArray.ext; simp
set_option linter.unusedSimpArgs false in
set_option maxHeartbeats 4000000 in
set_option maxRecDepth 100000 in
theorem rtext_00 (kn : Nat) (op : ByteArray) (bk cn : Int) (w : World) (hk : kn < 17) (hbk : bk = -1) (hcn : cn = 0) (hb0 : -9223372036854775808 ≤ bk) (hb1 : bk ≤ 9223372036854775807) (hc0 : -9223372036854775808 ≤ cn) (hc1 : cn ≤ 9223372036854775807) (hop : op.data.size ≤ 1000000000000) :
    Calls Tryz.prog 75 #[.agg #[I64 (kn : Int), .string op, I64 bk, I64 cn]] w fun e w' => e = .returned (.string ⟨(Fa.txtL ⟨(kn : Int), op, bk, cn⟩).toArray⟩) ∧ Below w.heap.size w w' := by
  have hX := xt_new w (kn : Int) op bk cn
  have hB := (Below.refl w.heap.size w).alloc (Nat.le_refl _) (.cells #[I64 (kn : Int), .string op, I64 bk, I64 cn] 34)
  have HK := Lib.hid hk
  have HNE : Hid (Fa.nameOf (kn : Int) = Fa.names.getD kn []) := by show _ = _; simp [Fa.nameOf]
  have hil := Lib.itoa_length_le bk (by omega) (by omega)
  have hil2 := Lib.itoa_length_le cn (by omega) (by omega)
  have hnl := names_len kn
  have hnl2 := hnl
  rw [List.getD_eq_getElem?_getD] at hnl2
  have hop2 : op.size ≤ 1000000000000 := hop
  have HDB := Lib.hid (fun w => digits_any bk hb0 hb1 w)
  have HDC := Lib.hid (fun w => digits_any cn hc0 hc1 w)
  have b1 : (bk != -1) = false := by subst hbk; rfl
  have HBK := Lib.hid (show Fa.txt2 ⟨(kn : Int), op, bk, cn⟩ = [] from if_pos hbk)
  have c1 : (cn != 0) = false := by subst hcn; rfl
  have HCN := Lib.hid (show Fa.txt3 ⟨(kn : Int), op, bk, cn⟩ = [] from if_pos hcn)
  have i0 : ¬ (kn : Int) < 0 := by omega
  have i1 : (kn : Int) < 17 := by omega
  have hq : (Fa.txtL ⟨(kn : Int), op, bk, cn⟩) = op.data.toList ++ Fa.txt2 ⟨(kn : Int), op, bk, cn⟩ ++ Fa.txt3 ⟨(kn : Int), op, bk, cn⟩ ++ ([58, 32] ++ Fa.names.getD kn []) := by
    unfold Fa.txtL
    rw [HNE.out]
    rfl
  have HQ := Lib.hid hq
  clear hbk hcn hb0 hb1 hc0 hc1 hk hq HNE
  obtain ⟨x0, x1, x2, x3⟩ := id hX
  go_enter Tryz.func75, Tryz.ntmps75
  go_wp2_with fail
  have HS3 : Hid ((op : ByteArray).data.toList = op.data.toList ++ Fa.txt2 ⟨(kn : Int), op, bk, cn⟩ ++ Fa.txt3 ⟨(kn : Int), op, bk, cn⟩) := by
    show _ = _
    rw [HBK.out, HCN.out]
    simp [Fa.sOn, Fa.sOver]
  have hs3z : (op : ByteArray).size ≤ 1000000000100 := by
    have e : (op : ByteArray).size = (op : ByteArray).data.toList.length := by rw [Array.length_toList]; rfl
    have e2 : op.data.toList.length = op.size := by rw [Array.length_toList]; rfl
    rw [e, HS3.out, HBK.out, HCN.out, List.length_append, List.length_append, e2]
    simp only [List.length_append, List.length_nil, show Fa.sOn.length = 4 from rfl, show Fa.sOver.length = 6 from rfl]
    omega
  skip
  refine wp_region_held_drew (S := XT w.heap.size (kn : Int) op bk cn) (by kernel_rfl) hX.drew1 (fun hHeld => ?_)
  have HB := Lib.hid hB.drew
  clear hB x0 x1 x2 x3
  have HX := Lib.hid hX.drew1
  clear hX
  refine wpAnyH_take (i := 0) (oi := _) (v := ?vv0_1) (dropAt (r := _) rfl) (by kernel_rfl) (by kernel_rfl) (by kernel_rfl) (fun _ _ _ h => h) (Or.inl ⟨by rfl, ?hv0_1⟩) hHeld ?rv0_1
  case hv0_1 => (intro w hSw; unfold XT at hSw; go_simp; first | done | with_reducible rfl | (rw [if_neg (by omega)]; done) | (rw [if_neg (by omega)]; with_reducible rfl))
  try simp only [Act.put, List.setIfInBounds_toArray, List.set_cons_zero, List.set_cons_succ]
  refine wpAnyH_take (i := 1) (oi := _) (v := ?vv1_2) (dropAt (r := _) rfl) (by kernel_rfl) (by kernel_rfl) (by kernel_rfl) (fun _ _ _ h => h) (Or.inl ⟨by rfl, ?hv1_2⟩) hHeld ?rv1_2
  case hv1_2 => (intro w hSw; unfold XT at hSw; go_simp; first | done | with_reducible rfl | (rw [if_neg (by omega)]; done) | (rw [if_neg (by omega)]; with_reducible rfl))
  try simp only [Act.put, List.setIfInBounds_toArray, List.set_cons_zero, List.set_cons_succ]
  refine wpAnyH_take (i := 3) (oi := _) (v := ?vv3_3) (dropAt (r := _) rfl) (by kernel_rfl) (by kernel_rfl) (by kernel_rfl) (fun _ _ _ h => h) (Or.inl ⟨by rfl, ?hv3_3⟩) hHeld ?rv3_3
  case hv3_3 => (intro w hSw; unfold XT at hSw; go_simp; first | done | with_reducible rfl | (rw [if_neg (by omega)]; done) | (rw [if_neg (by omega)]; with_reducible rfl))
  try simp only [Act.put, List.setIfInBounds_toArray, List.set_cons_zero, List.set_cons_succ]
  refine wpAnyH_take (i := 4) (oi := _) (v := ?vv4_4) (dropAt (r := _) rfl) (by kernel_rfl) (by kernel_rfl) (by kernel_rfl) (fun _ _ _ h => h) (Or.inl ⟨by rfl, ?hv4_4⟩) hHeld ?rv4_4
  case hv4_4 => (intro w hSw; unfold XT at hSw; go_simp; first | done | with_reducible rfl | (rw [if_neg (by omega)]; done) | (rw [if_neg (by omega)]; with_reducible rfl))
  try simp only [Act.put, List.setIfInBounds_toArray, List.set_cons_zero, List.set_cons_succ]
  refine wpAnyH_ready (rs := [2]) (by kernel_rfl) (by simp) ?_
  refine AllReadyH.cons (o := _) (dropAt (r := _) rfl) (fun K hK => ?_) AllReadyH.nil
  go_simp
  go_at_call 28
  refine (names_any _).mono ?_
  rintro e w3 ⟨gn, rfl, hnm, hx⟩
  have n0 := hnm kn HK.out
  have hs3 := HX.out.below hx
  have hs3n : XTN w.heap.size (kn : Int) op bk cn gn kn (Fa.names.getD kn []) w3 := ⟨hs3, n0⟩
  clear n0 hnm
  refine hK.out _ _ hs3 (fun hHeld3 => ?_)
  clear hK K
  try simp only [Act.put, List.setIfInBounds_toArray, List.set_cons_zero, List.set_cons_succ]
  refine wpAnyH_take (i := 5) (oi := _) (v := ?vv5_5) (dropAt (r := _) rfl) (by kernel_rfl) (by kernel_rfl) (by kernel_rfl) (fun _ _ _ h => h) (Or.inl ⟨by rfl, ?hv5_5⟩) hHeld3 ?rv5_5
  case hv5_5 => (intro w hSw; unfold XT at hSw; go_simp; first | done | with_reducible rfl | (rw [if_neg (by omega)]; done) | (rw [if_neg (by omega)]; with_reducible rfl))
  try simp only [Act.put, List.setIfInBounds_toArray, List.set_cons_zero, List.set_cons_succ]
  refine wpAnyH_ready (rs := [6]) (by kernel_rfl) (by simp) ?_
  refine AllReadyH.cons (o := _) (dropAt (r := _) rfl) (fun K hK => ?_) AllReadyH.nil
  go_simp
  obtain ⟨_, n0⟩ := id hs3n
  go_simp
  refine hK.out _ _ hs3 (fun hHeld4 => ?_)
  clear hK K
  try simp only [Act.put, List.setIfInBounds_toArray, List.set_cons_zero, List.set_cons_succ]
  refine wpAnyH_take (i := 7) (oi := _) (v := ?vv7_6) (dropAt (r := _) rfl) (by kernel_rfl) (by kernel_rfl) (by kernel_rfl) (fun _ _ _ h => h) (Or.inl ⟨by rfl, ?hv7_6⟩) hHeld4 ?rv7_6
  case hv7_6 => (intro w hSw; unfold XT at hSw; go_simp; first | done | with_reducible rfl | (rw [if_neg (by omega)]; done) | (rw [if_neg (by omega)]; with_reducible rfl))
  try simp only [Act.put, List.setIfInBounds_toArray, List.set_cons_zero, List.set_cons_succ]
  refine wpAnyH_take (i := 8) (oi := _) (v := ?vv8_7) (dropAt (r := _) rfl) (by kernel_rfl) (by kernel_rfl) (by kernel_rfl) (fun _ _ _ h => h) (Or.inl ⟨by rfl, ?hv8_7⟩) hHeld4 ?rv8_7
  case hv8_7 => (intro w hSw; unfold XT at hSw; go_simp; first | done | with_reducible rfl | (rw [if_neg (by omega)]; done) | (rw [if_neg (by omega)]; with_reducible rfl))
  try simp only [Act.put, List.setIfInBounds_toArray, List.set_cons_zero, List.set_cons_succ]
  refine wpAnyH_done (by kernel_rfl) ?_ _
  have hb := HB.out.trans (hx.mono HB.out.size)
  go_wp2
  go_ret
  refine ⟨ret_str ?_, hb⟩
  rw [HQ.out, ← HS3.out]
  apply ByteArray.ext; simp
theorem rtext_any (kn : Nat) (op : ByteArray) (bk cn : Int) (w : World) (hk : kn < 17) (hb0 : -9223372036854775808 ≤ bk) (hb1 : bk ≤ 9223372036854775807) (hc0 : -9223372036854775808 ≤ cn) (hc1 : cn ≤ 9223372036854775807) (hop : op.data.size ≤ 1000000000000) :
    Calls Tryz.prog 75 #[.agg #[I64 (kn : Int), .string op, I64 bk, I64 cn]] w fun e w' => e = .returned (.string ⟨(Fa.txtL ⟨(kn : Int), op, bk, cn⟩).toArray⟩) ∧ Below w.heap.size w w' := by
  by_cases h1 : bk = -1 <;> by_cases h2 : cn = 0
  · exact rtext_00 kn op bk cn w hk h1 h2 hb0 hb1 hc0 hc1 hop
  · exact rtext_01 kn op bk cn w hk h1 h2 hb0 hb1 hc0 hc1 hop
  · exact rtext_10 kn op bk cn w hk h1 h2 hb0 hb1 hc0 hc1 hop
  · exact rtext_11 kn op bk cn w hk h1 h2 hb0 hb1 hc0 hc1 hop
end Go.Proofs.YtgnhbccmdpkbiaaGreatDoor
namespace Go.Proofs.YtgnhbccmdpkbiaaGreatDoor
open Go.RowKit Go.Shelf

/-- What the loop over the faults of a join has written behind q of them. -/
def sP (k : Fa.F) (q : Nat) : List UInt8 := 40 :: txtK k q
theorem sP_zero (k : Fa.F) : sP k 0 = [40] := by simp [sP, txtK, Lib.join]
theorem sP_P {k : Fa.F} {q : Nat} (h : q ≠ 0) : sP k q = txtP k q := by unfold sP txtP; rw [if_neg h]
theorem sP_first {k : Fa.F} (h : 0 < k.kids.length) : sP k 1 = ([40] : List UInt8) ++ (k.kids[0]).txt := by rw [sP_P (by decide), txtP_first h]
theorem sP_next {k : Fa.F} {q : Nat} (h : q < k.kids.length) (hq : q ≠ 0) : sP k (q + 1) = sP k q ++ [32, 38, 32] ++ (k.kids[q]).txt := by rw [sP_P (by omega), sP_P hq, txtP_next h hq]
theorem sP_all {k : Fa.F} {q : Nat} (h : k.kids.length ≤ q) (hq : q ≠ 0) : sP k q = [40] ++ k.txt := by rw [sP_P hq, txtP_all h hq]
theorem kid_drop {k : Fa.F} {q : Nat} (h : q < k.kids.length) (d : Int) {l rest : List Fa.Node} {j : Nat} (hd : l.drop j = k.chain d ++ rest) (hr : Fa.deeper d rest = false) :
    ∃ rest', l.drop (j + Fa.sumN k q) = (k.kids[q]).chain d ++ rest' ∧ Fa.deeper d rest' = false := by
  have e1 : k.chain d = ((k.kids.take q).flatMap (·.chain d)) ++ ((k.kids[q]).chain d ++ (k.kids.drop (q + 1)).flatMap (·.chain d)) := by
    have e := (List.take_append_drop q k.kids).symm
    rw [List.drop_eq_getElem_cons h] at e
    exact (Fa.kids_chain k d).trans ((congrArg (List.flatMap (fun x => x.chain d)) e).trans (by rw [List.flatMap_append, List.flatMap_cons]))
  have e2 : ((k.kids.take q).flatMap (·.chain d)).length = Fa.sumN k q := by
    simp only [List.length_flatMap, Fa.chain_length]; rfl
  refine ⟨(k.kids.drop (q + 1)).flatMap (·.chain d) ++ rest, ?_, ?_⟩
  · rw [← List.drop_drop, hd, e1, ← e2]
    simp [List.append_assoc]
  · cases hk : k.kids.drop (q + 1) with
    | nil => simpa using hr
    | cons s r =>
      have hm : s ∈ k.kids := List.mem_of_mem_drop (by rw [hk]; exact List.mem_cons_self)
      have hs := (Fa.kids_nodes k s hm).2.1
      obtain ⟨x, m, hx, hd⟩ := Fa.chain_head (t := s) (fun e => by rw [e] at hs; exact absurd hs (by decide)) d
      simp [hx, Fa.deeper, hd]

def WriC (n : Nat) : Prop := ∀ (l : List Fa.Node) (i : Nat) (d : Int) (t : Fa.F) (rest : List Fa.Node) (w : World) (b o cap : Nat), t.nodes ≤ n → t.len = 1 → t.ok → l.drop i = t.chain d ++ rest → Fa.deeper d rest = false → l.length ≤ 40 → t.txt.length ≤ 1000000000000 → b < w.heap.size →
  (∀ j (hj : j < l.length) (i : Nat) (u : Value), (encNode l[j])[i]? = some u → w.cell? ⟨b, o + j * 6 + i, none⟩ = some u) →
  Calls Tryz.prog 57 #[.slice (some ⟨b, o, none⟩) l.length cap, I64 i] w fun e w' => e = .returned (.tuple #[S8 t.txt, I64 ((i : Int) + (t.nodes : Int))]) ∧ Below w.heap.size w w'
theorem ret_SI {s s' : List UInt8} {a a' : Int} (h : s = s') (h' : a = a') : Ending.returned (.tuple #[S8 s, I64 a]) = .returned (.tuple #[S8 s', I64 a']) := by rw [h, h']

set_option maxHeartbeats 8000000 in
set_option maxRecDepth 100000 in
theorem wri_leaf (l : List Fa.Node) (i : Nat) (d : Int) (kn : Nat) (op : ByteArray) (bk cn : Int) (w : World) (b o cap : Nat) (hi : i < l.length) (hx : l[i] = ⟨d, 0, ⟨(kn : Int), op, bk, cn⟩⟩) (hk : kn < 17) (hb0 : -1 ≤ bk) (hb1 : bk < 16) (hc0 : 0 ≤ cn) (hc1 : cn ≤ 1000000000) (hop : op.data.size ≤ 1000000000000)
    (hn : ∀ h : i + 1 < l.length, ¬ d < (l[i + 1]'h).depth) (hl : l.length ≤ 40) (hb : b < w.heap.size) (hc : ∀ j (hj : j < l.length) (i : Nat) (u : Value), (encNode l[j])[i]? = some u → w.cell? ⟨b, o + j * 6 + i, none⟩ = some u) :
    Calls Tryz.prog 57 #[.slice (some ⟨b, o, none⟩) l.length cap, I64 i] w fun e w' => e = .returned (.tuple #[.string ⟨(Fa.txtL ⟨(kn : Int), op, bk, cn⟩).toArray⟩, I64 ((i : Int) + 1)]) ∧ Below w.heap.size w w' := by
  obtain ⟨c0, c1, c2, c3, c4, c5⟩ := cells1 hb (Below.refl _ _) hc i hi
  have i1 : ¬ (l.length : Int) ≤ (i : Int) := by omega
  have i2 : (i : Int) < (l.length : Int) := by omega
  rw [hx] at c0 c1 c2 c3 c4 c5
  dsimp only at c0 c1 c2 c3 c4 c5
  have HC := Lib.hid hc
  have HT := Lib.hid (fun w => rtext_any kn op bk cn w hk (by omega) (by omega) (by omega) (by omega) hop)
  have HB := Lib.hid (show Below w.heap.size w (w.alloc (.cells #[I64 d, I64 0, I64 (kn : Int), .string op, I64 bk, I64 cn] 52)) from (Below.refl _ _).alloc (Nat.le_refl _) _)
  have hnew := blk_new w (.cells #[I64 d, I64 0, I64 (kn : Int), .string op, I64 bk, I64 cn] 52)
  have HN := Lib.hid hn
  clear hx hc hn hb0 hb1 hc0 hc1 hop hk
  go_enter Tryz.func57, Tryz.ntmps57
  go_wp2_with fail
  refine (HT.out _).mono ?_
  rintro e w1 ⟨rfl, hx⟩
  have hB1 := HB.out.trans (hx.mono HB.out.size)
  have k0 := blk_cell ((hx.block w.heap.size (by simp)).trans hnew) 0
  clear c0 c1 c2 c3 c4 c5
  by_cases h1 : i + 1 < l.length
  · obtain ⟨q0, _⟩ := cells1 hb hB1 HC.out (i + 1) h1
    have hg0 : (i : Int) + 1 < (l.length : Int) := by omega
    have hg1 : decide ((i : Int) + 1 < (l.length : Int)) = true := decide_eq_true hg0
    have hg2 : decide (d < (l[i + 1]).depth) = false := decide_eq_false (by have := HN.out h1; omega)
    have hg3 : ¬ d < (l[i + 1]).depth := by have := HN.out h1; omega
    generalize (l[i + 1]).depth = D at q0 hg2 hg3
    clear hx hnew HC HN
    go_wp2_with fail
    go_quiet (fail)
    go_wp2
    go_ret2
    exact ⟨rfl, below_drewN hB1 _⟩
  · have hg0 : ¬ (i : Int) + 1 < (l.length : Int) := by omega
    have hg1 : decide ((i : Int) + 1 < (l.length : Int)) = false := decide_eq_false hg0
    clear hx hnew HC HN
    go_wp2_with fail
    go_quiet (fail)
    go_wp2
    go_ret2
    exact ⟨rfl, below_drewN hB1 _⟩

set_option maxHeartbeats 8000000 in
set_option maxRecDepth 100000 in
theorem wri_more (l : List Fa.Node) (i : Nat) (d : Int) (kn : Nat) (op : ByteArray) (bk cn : Int) (T : List UInt8) (m : Nat) (w : World) (b o cap : Nat) (hi : i + 1 < l.length) (hx : l[i] = ⟨d, 0, ⟨(kn : Int), op, bk, cn⟩⟩) (hk : kn < 17) (hb0 : -1 ≤ bk) (hb1 : bk < 16) (hc0 : 0 ≤ cn) (hc1 : cn ≤ 1000000000) (hop : op.data.size ≤ 1000000000000)
    (hn : d < (l[i + 1]).depth) (hl : l.length ≤ 40) (hT : T.length ≤ 1000000000000) (hTL : (Fa.txtL ⟨(kn : Int), op, bk, cn⟩).length ≤ 1000000000000) (hb : b < w.heap.size) (hc : ∀ j (hj : j < l.length) (i : Nat) (u : Value), (encNode l[j])[i]? = some u → w.cell? ⟨b, o + j * 6 + i, none⟩ = some u)
    (hW : ∀ w1, Below w.heap.size w w1 → Calls Tryz.prog 57 #[.slice (some ⟨b, o, none⟩) l.length cap, I64 ((i : Int) + 1)] w1 fun e w' => e = .returned (.tuple #[S8 T, I64 ((i : Int) + 1 + (m : Int))]) ∧ Below w1.heap.size w1 w') :
    Calls Tryz.prog 57 #[.slice (some ⟨b, o, none⟩) l.length cap, I64 i] w fun e w' => e = .returned (.tuple #[S8 (Fa.txtL ⟨(kn : Int), op, bk, cn⟩ ++ [59, 32] ++ T), I64 ((i : Int) + 1 + (m : Int))]) ∧ Below w.heap.size w w' := by
  obtain ⟨c0, c1, c2, c3, c4, c5⟩ := cells1 hb (Below.refl _ _) hc i (by omega)
  have i1 : ¬ (l.length : Int) ≤ (i : Int) := by omega
  have i2 : (i : Int) < (l.length : Int) := by omega
  rw [hx] at c0 c1 c2 c3 c4 c5
  dsimp only at c0 c1 c2 c3 c4 c5
  have HC := Lib.hid hc
  have HW := Lib.hid hW
  have HT := Lib.hid (fun w => rtext_any kn op bk cn w hk (by omega) (by omega) (by omega) (by omega) hop)
  have HB := Lib.hid (show Below w.heap.size w (w.alloc (.cells #[I64 d, I64 0, I64 (kn : Int), .string op, I64 bk, I64 cn] 52)) from (Below.refl _ _).alloc (Nat.le_refl _) _)
  have hnew := blk_new w (.cells #[I64 d, I64 0, I64 (kn : Int), .string op, I64 bk, I64 cn] 52)
  generalize Fa.txtL ⟨(kn : Int), op, bk, cn⟩ = TL at HT hTL ⊢
  clear hx hc hb0 hb1 hc0 hc1 hop hk hW
  go_enter Tryz.func57, Tryz.ntmps57
  go_wp2_with fail
  refine (HT.out _).mono ?_
  rintro e w1 ⟨rfl, hx⟩
  have hB1 := HB.out.trans (hx.mono HB.out.size)
  have k0 := blk_cell ((hx.block w.heap.size (by simp)).trans hnew) 0
  clear c0 c1 c2 c3 c4 c5
  obtain ⟨q0, _⟩ := cells1 hb hB1 HC.out (i + 1) hi
  have hg0 : (i : Int) + 1 < (l.length : Int) := by omega
  have hg1 : decide ((i : Int) + 1 < (l.length : Int)) = true := decide_eq_true hg0
  have hg2 : decide (d < (l[i + 1]).depth) = true := decide_eq_true hn
  generalize (l[i + 1]).depth = D at q0 hg2 hn
  clear hx hnew HC
  go_wp2_with fail
  go_quiet (fail)
  go_wp2_with fail
  have hBq := below_drewN hB1 nq
  refine (HW.out _ hBq).mono ?_
  rintro e w2 ⟨rfl, hx2⟩
  have hB2 := hBq.trans (hx2.mono hBq.size)
  clear hx2 k0 q0
  go_wp2
  go_ret2
  exact ⟨ret_SI (by simp) rfl, hB2⟩
end Go.Proofs.YtgnhbccmdpkbiaaGreatDoor
namespace Go.Proofs.YtgnhbccmdpkbiaaGreatDoor
open Go.RowKit Go.Shelf

theorem str_S8 {a : ByteArray} {l : List UInt8} (h : a.data.toList = l) : Value.string a = S8 l := by
  subst h
  show _ = Value.string ⟨_⟩
  rw [Array.toArray_toList]
set_option maxHeartbeats 8000000 in
set_option maxRecDepth 100000 in
theorem wri_join (l : List Fa.Node) (i : Nat) (d : Int) (k : Fa.F) (w : World) (b o cap : Nat) (hi : i < l.length) (hx : l[i] = ⟨d, (k.kids.length : Int), Fa.Link.zero⟩) (hn2 : 2 ≤ k.kids.length) (hn8 : k.kids.length ≤ 8)
    (hl : l.length ≤ 40) (hm : k.nodes ≤ 100) (hT : k.txt.length ≤ 1000000000000) (hb : b < w.heap.size) (hc : ∀ j (hj : j < l.length) (i : Nat) (u : Value), (encNode l[j])[i]? = some u → w.cell? ⟨b, o + j * 6 + i, none⟩ = some u)
    (hW : ∀ (q : Nat) (hq : q < k.kids.length) w1, Below w.heap.size w w1 → Calls Tryz.prog 57 #[.slice (some ⟨b, o, none⟩) l.length cap, I64 ((i + 1 + Fa.sumN k q : Nat) : Int)] w1 fun e w' => e = .returned (.tuple #[S8 (k.kids[q]).txt, I64 ((i + 1 + Fa.sumN k (q + 1) : Nat) : Int)]) ∧ Below w1.heap.size w1 w') :
    Calls Tryz.prog 57 #[.slice (some ⟨b, o, none⟩) l.length cap, I64 i] w fun e w' => e = .returned (.tuple #[S8 ([40] ++ k.txt ++ [41]), I64 ((i + 1 + k.nodes : Nat) : Int)]) ∧ Below w.heap.size w w' := by
  obtain ⟨c0, c1, c2, c3, c4, c5⟩ := cells1 hb (Below.refl _ _) hc i hi
  have i1 : ¬ (l.length : Int) ≤ (i : Int) := by omega
  have i2 : (i : Int) < (l.length : Int) := by omega
  rw [hx] at c0 c1 c2 c3 c4 c5
  dsimp only [Fa.Link.zero] at c0 c1 c2 c3 c4 c5
  have HW := Lib.hid hW
  have HB := Lib.hid (show Below w.heap.size w (w.alloc (.cells #[I64 d, I64 (k.kids.length : Int), I64 0, .string ByteArray.empty, I64 0, I64 0] 52)) from (Below.refl _ _).alloc (Nat.le_refl _) _)
  have hnew := blk_new w (.cells #[I64 d, I64 (k.kids.length : Int), I64 0, .string ByteArray.empty, I64 0, I64 0] 52)
  have HS0 := Lib.hid (sP_zero k)
  have HSF := Lib.hid (fun h => sP_first (k := k) h)
  have HSN := Lib.hid (fun (q : Nat) (h : q < k.kids.length) (hq : q ≠ 0) => sP_next h hq)
  have HSA := Lib.hid (sP_all (k := k) (q := k.kids.length) (Nat.le_refl _) (by omega))
  have HSL : Hid (∀ q, q ≤ k.kids.length → (sP k q).length ≤ 1000000000010) := fun q hq => by
    by_cases h0 : q = 0
    · subst h0; rw [sP_zero]; decide
    · rw [sP_P h0]; have := txtP_le q hq; omega
  have HTL : Hid (∀ (q : Nat) (h : q < k.kids.length), (k.kids[q]).txt.length ≤ 1000000000000) := fun q h => by
    have := txt_one_le h
    by_cases h0 : q = 0
    · have := this.2 h0; omega
    · have := this.1 h0; omega
  have HSU : Hid (i + 1 + Fa.sumN k k.kids.length = i + 1 + k.nodes) := by show _ = _; rw [Fa.sumN_all k (Nat.le_refl _)]
  have HSZ := Lib.hid (Fa.sumN_zero k)
  have HSM : Hid (∀ q, q ≤ k.kids.length → Fa.sumN k q ≤ 100) := fun q hq => by
    have h1 := Fa.kids_sum k
    rw [← List.take_append_drop q k.kids, List.map_append, List.sum_append] at h1
    unfold Fa.sumN
    omega
  obtain ⟨n, hN⟩ : ∃ n, n = k.kids.length := ⟨_, rfl⟩
  have hne : ((n : Int) == 0) = false := by rw [beq_eq_false_iff_ne]; omega
  rw [← hN] at c1 HB hnew hn2 hn8
  have HN := Lib.hid hN
  clear hx hc hW hN
  go_enter Tryz.func57, Tryz.ntmps57
  go_wp2_with fail
  go_loopw [1, 10, 11] (fun at' s kk wr => ∃ q : Nat, q ≤ n ∧ kk = .int .i64 q ∧ at' = .int .i64 ((i + 1 + Fa.sumN k q : Nat) : Int) ∧ s = S8 (sP k q) ∧ Hid (Below (w.heap.size + 1) (w.alloc (.cells #[I64 d, I64 (n : Int), I64 0, .string ByteArray.empty, I64 0, I64 0] 52)) wr)) (fun _ _ kk _ => n - (intOf kk).toNat)
  case atStart => exact ⟨0, Nat.zero_le _, rfl, by rw [HSZ.out]; rfl, by rw [HS0.out], Below.refl _ _⟩
  case round =>
    obtain ⟨q, hq, rfl, rfl, rfl, hbr⟩ := hrel
    have hbw : Below w.heap.size w wr := HB.out.trans (hbr.out.mono (by omega))
    have x1 := blk_cell ((hbr.out.block w.heap.size (by simp)).trans hnew) 1
    by_cases hlt : q < n
    · have i3 : (q : Int) < (n : Int) := by omega
      have hqk : q < k.kids.length := by rw [← HN.out]; exact hlt
      have HC1 := Lib.hid (HW.out q hqk wr hbw)
      have hs1 := HSL.out q (by omega)
      have hs2 := HTL.out q hqk
      have hs3 := HSM.out q (by omega)
      have hs4 := HSM.out (q + 1) (by omega)
      have HG : Hid (q = 0 → sP k 1 = ([40] : List UInt8) ++ (k.kids[q]).txt) := fun h => by subst h; exact HSF.out hqk
      have HG2 : Hid (q ≠ 0 → sP k (q + 1) = sP k q ++ [32, 38, 32] ++ (k.kids[q]).txt) := fun h => HSN.out q hqk h
      have HG0 : Hid (q = 0 → sP k q = [40]) := fun h => by subst h; exact HS0.out
      generalize (k.kids[q]).txt = T at HC1 hs2 HG HG2
      generalize hS : sP k q = S at hs1 HG0 HG2
      generalize hU : i + 1 + Fa.sumN k (q + 1) = U at HC1
      have HSS := Lib.hid hS
      have HU := Lib.hid hU
      clear hS hU hqk hs3 hs4
      by_cases h0 : q = 0
      · have j0 : ¬ (0 : Int) < (q : Int) := by omega
        have H0 := Lib.hid h0
        clear h0
        go_wp2_with fail
        refine HC1.out.mono ?_
        rintro e w3 ⟨rfl, hb3⟩
        have hbr3 := hbr.out.trans (hb3.mono (by have := hbr.out.size; simp at this; omega))
        clear hb3 x1
        go_wp2_with fail
        case roundEnd =>
          refine ⟨⟨q + 1, by omega, by go_num, by rw [HU.out], ?_, hbr3⟩, by simp [intOf]; omega⟩
          have e : sP k (q + 1) = [40] ++ T := by rw [H0.out]; exact HG.out H0.out
          rw [HG0.out H0.out, e]
          exact str_S8 (by simp)
      · have j0 : (0 : Int) < (q : Int) := by omega
        have H0 := Lib.hid h0
        clear h0
        go_wp2_with fail
        refine HC1.out.mono ?_
        rintro e w3 ⟨rfl, hb3⟩
        have hbr3 := hbr.out.trans (hb3.mono (by have := hbr.out.size; simp at this; omega))
        clear hb3 x1
        go_wp2_with fail
        case roundEnd =>
          refine ⟨⟨q + 1, by omega, by go_num, by rw [HU.out], ?_, hbr3⟩, by simp [intOf]; omega⟩
          rw [HG2.out H0.out]
          exact str_S8 (by simp)
    · have hqn : q = n := by omega
      have i3 : ¬ (q : Int) < (n : Int) := by omega
      have HX : Hid (sP k q = [40] ++ k.txt) := by show _ = _; rw [hqn, HN.out]; exact HSA.out
      have HX2 : Hid (i + 1 + Fa.sumN k q = i + 1 + k.nodes) := by show _ = _; rw [hqn, HN.out]; exact HSU.out
      have hs1 := HSL.out q (by rw [hqn, HN.out]; exact Nat.le_refl _)
      clear hqn
      go_wp2
      go_ret2
      exact ⟨ret_SI (by simp [HX.out]) (by have := HX2.out; omega), hbw⟩
end Go.Proofs.YtgnhbccmdpkbiaaGreatDoor
namespace Go.Proofs.YtgnhbccmdpkbiaaGreatDoor
open Go.RowKit Go.Shelf

theorem deeper_next {d : Int} {l : List Fa.Node} (h : Fa.deeper d l = false) : Fa.deeper (d + 1) l = false := by
  cases l with
  | nil => rfl
  | cons y m =>
    simp only [Fa.deeper, decide_eq_false_iff_not] at h ⊢
    omega
theorem txt_cause {x : Fa.Link} {c : Fa.F} (h : c ≠ .nil) : (Fa.F.link x c .nil).txt = Fa.txtL x ++ [59, 32] ++ c.txt := by
  cases c with
  | nil => exact absurd rfl h
  | link _ _ _ => simp [Fa.F.txt]
  | join _ _ => simp [Fa.F.txt]
theorem len_nil {t : Fa.F} (h : t.len = 0) : t = .nil := by
  cases t with
  | nil => rfl
  | link _ _ _ => exact absurd h (by simp [Fa.F.len])
  | join _ _ => exact absurd h (by simp [Fa.F.len])
theorem wri_any : ∀ n, WriC n := by
  intro n
  induction n with
  | zero =>
    intro l i d t rest w b o cap hn h1
    have := Fa.len_le_nodes t
    omega
  | succ n ih =>
    intro l i d t rest w b o cap hn h1 hok hd hr hl hT hb hc
    have hne : t.chain d ≠ [] := fun e => by
      have h2 := Fa.chain_length t d
      have h3 := Fa.len_le_nodes t
      rw [e, List.length_nil] at h2
      omega
    have hil : i < l.length := by
      rcases Nat.lt_or_ge i l.length with h | h
      · exact h
      · rw [List.drop_of_length_le h] at hd
        exact absurd (List.append_eq_nil_iff.1 hd.symm).1 hne
    have e0 := List.drop_eq_getElem_cons hil
    cases t with
    | nil => exact absurd rfl hne
    | link x c r =>
      obtain rfl := len_nil (t := r) (by simpa [Fa.F.len] using h1)
      have hd' : l[i] :: l.drop (i + 1) = ⟨d, 0, x⟩ :: (c.chain (d + 1) ++ rest) := by rw [← e0, hd]; simp [Fa.F.chain]
      injection hd' with hx hdr
      obtain ⟨ok1, ok2, ok3, _⟩ := hok
      have hop := txt_op x c
      have hnum := ok1
      obtain ⟨k, op, bk, cn⟩ := x
      simp only [Fa.okNum, Bool.and_eq_true, decide_eq_true_eq] at hnum
      obtain ⟨⟨⟨⟨⟨n1, n2⟩, n3⟩, n4⟩, n5⟩, n6⟩ := hnum
      obtain ⟨kn, rfl⟩ : ∃ kn : Nat, k = kn := ⟨k.toNat, by omega⟩
      have hop2 : op.data.size ≤ 1000000000000 := Nat.le_trans hop hT
      by_cases hcn : c = .nil
      · subst hcn
        have hdr2 : l.drop (i + 1) = rest := hdr
        have hn2 : ∀ h : i + 1 < l.length, ¬ d < (l[i + 1]'h).depth := fun h => by
          rw [← hdr2, List.drop_eq_getElem_cons h] at hr
          simpa [Fa.deeper] using hr
        refine (wri_leaf l i d kn op bk cn w b o cap hil hx (by omega) n3 n4 n5 n6 hop2 hn2 hl hb hc).mono ?_
        rintro e w' ⟨rfl, hb'⟩
        exact ⟨ret_SI (by simp [Fa.F.txt]) (by simp [Fa.F.nodes]), hb'⟩
      · have hcl : c.len = 1 := by
          have : c.len ≠ 0 := fun h => hcn (len_nil h)
          omega
        obtain ⟨y, m, hy, hyd⟩ := Fa.chain_head hcn (d + 1)
        have hi1 : i + 1 < l.length := by
          rcases Nat.lt_or_ge (i + 1) l.length with h | h
          · exact h
          · rw [List.drop_of_length_le h, hy] at hdr
            exact absurd hdr (by simp)
        have hdy : d < (l[i + 1]).depth := by
          have h2 := hdr
          rw [List.drop_eq_getElem_cons hi1, hy] at h2
          injection h2 with h3 _
          rw [h3, hyd]
          omega
        have htx := txt_cause (x := ⟨(kn : Int), op, bk, cn⟩) hcn
        have htl := congrArg List.length htx
        simp only [List.length_append] at htl
        have hnd : c.nodes ≤ n := by simp only [Fa.F.nodes] at hn; omega
        refine (wri_more l i d kn op bk cn c.txt c.nodes w b o cap hi1 hx (by omega) n3 n4 n5 n6 hop2 hdy hl (by omega) (by omega) hb hc (fun w1 hb1 => ?_)).mono ?_
        · exact ih l (i + 1) (d + 1) c rest w1 b o cap hnd hcl ok3 hdr (deeper_next hr) hl (by omega) (Nat.lt_of_lt_of_le hb hb1.size) (cells6 hb hb1 hc)
        · rintro e w' ⟨rfl, hb'⟩
          exact ⟨ret_SI htx.symm (by simp only [Fa.F.nodes]; omega), hb'⟩
    | join k r =>
      obtain rfl := len_nil (t := r) (by simpa [Fa.F.len] using h1)
      have hd' : l[i] :: l.drop (i + 1) = ⟨d, (k.len : Int), Fa.Link.zero⟩ :: (k.chain (d + 1) ++ rest) := by rw [← e0, hd]; simp [Fa.F.chain]
      injection hd' with hx hdr
      obtain ⟨ok1, ok2, ok3, _⟩ := hok
      rw [← Fa.kids_len] at hx ok1 ok2
      have htx := txt_join1 k
      have htl := congrArg List.length htx
      simp only [List.length_append] at htl
      have hnd : k.nodes ≤ n := by simp only [Fa.F.nodes] at hn; omega
      have hdl := congrArg List.length hdr
      rw [List.length_drop, List.length_append, Fa.chain_length] at hdl
      refine (wri_join l i d k w b o cap hil hx ok1 ok2 hl (by omega) (by omega) hb hc (fun q hq w1 hb1 => ?_)).mono ?_
      · obtain ⟨rest', g1, g2⟩ := kid_drop hq (d + 1) hdr (deeper_next hr)
        have hk := Fa.kids_nodes k _ (List.getElem_mem hq)
        have hkt : (k.kids[q]).txt.length ≤ 1000000000000 := by
          have := txt_one_le hq
          by_cases h0 : q = 0
          · have := this.2 h0; omega
          · have := this.1 h0; omega
        refine (ih l (i + 1 + Fa.sumN k q) (d + 1) (k.kids[q]) rest' w1 b o cap (Nat.le_trans hk.1 hnd) hk.2.1 (hk.2.2 ok3) g1 g2 hl hkt (Nat.lt_of_lt_of_le hb hb1.size) (cells6 hb hb1 hc)).mono ?_
        rintro e w' ⟨rfl, hb'⟩
        exact ⟨ret_SI rfl (by rw [Fa.sumN_next k hq]; omega), hb'⟩
      · rintro e w' ⟨rfl, hb'⟩
        exact ⟨ret_SI htx.symm (by simp only [Fa.F.nodes]; omega), hb'⟩

/-- Text of the reference. -/
theorem rText_any (v : Value) (l : List Fa.Node) (w : World) (h : ReadsL 6 encNode w v l) (h0 : (Fa.build l).1 = 0) (hT : (Fa.build l).2.txt.length ≤ 1000000000000) :
    Calls Tryz.prog 33 #[v] w fun e w' => e = .returned (S8 (Fa.build l).2.txt) ∧ Below w.heap.size w w' := by
  obtain ⟨b1, b2, b3, b4, b5⟩ := Fa.build_ok h0
  have hne : l ≠ [] := fun e => by
    subst e
    exact absurd h0 (by decide)
  have hll : l.length ≤ 40 := by rw [← b1, Fa.chain_length]; exact b4
  obtain ⟨g, o, cap, rfl, hgl, hcells⟩ := h.form hne
  have HW := Lib.hid (wri_any _ l 0 0 (Fa.build l).2 [] w g o cap (Nat.le_refl _) b3 b2 (by rw [List.drop_zero, List.append_nil, b1]) rfl hll hT hgl hcells)
  generalize (Fa.build l).2.txt = T at HW ⊢
  clear b1 b2 b3 b4 b5 hne hll hcells h h0 hT
  go_enter Tryz.func33, Tryz.ntmps33
  go_wp2_with fail
  refine HW.out.mono ?_
  rintro e w1 ⟨rfl, hb⟩
  go_wp2
  go_ret
  exact ⟨rfl, hb⟩
end Go.Proofs.YtgnhbccmdpkbiaaGreatDoor
namespace Go.Proofs.YtgnhbccmdpkbiaaGreatDoor
open Go.RowKit Go.Shelf

theorem errLink_any (t : Fa.F) (p : Value) (w : World) (h : Holds (fun _ => True) w t [.iface 55 p]) (hok : t.ok) (hl : t.txt.length ≤ 1000000000000) (hE : EnvF w) :
    Calls Tryz.prog 160 #[p] w fun e w' => e = .returned (S8 t.txt) ∧ Below w.heap.size w w' := by
  have HT := Lib.hid (text_any t _ w h hok hl hE)
  clear h hok hl hE
  go_enter Tryz.func160, Tryz.ntmps160
  go_wp2_with fail
  refine HT.out.mono ?_
  rintro e w1 ⟨rfl, hb⟩
  go_wp2
  go_ret
  exact ⟨rfl, hb⟩
theorem errJoin_any (t : Fa.F) (p : Value) (w : World) (h : Holds (fun _ => True) w t [.iface 89 p]) (hok : t.ok) (hl : t.txt.length ≤ 1000000000000) (hE : EnvF w) :
    Calls Tryz.prog 163 #[p] w fun e w' => e = .returned (S8 t.txt) ∧ Below w.heap.size w w' := by
  have HT := Lib.hid (text_any t _ w h hok hl hE)
  clear h hok hl hE
  go_enter Tryz.func163, Tryz.ntmps163
  go_wp2_with fail
  refine HT.out.mono ?_
  rintro e w1 ⟨rfl, hb⟩
  go_wp2
  go_ret
  exact ⟨rfl, hb⟩
theorem mErrL (v : Value) (w : World) : (Go.method 348 55 v "Error").run Tryz.prog w = .ok (160, v) w := by kernel_rfl
theorem mErrJ (v : Value) (w : World) : (Go.method 348 89 v "Error").run Tryz.prog w = .ok (163, v) w := by kernel_rfl
end Go.Proofs.YtgnhbccmdpkbiaaGreatDoor
