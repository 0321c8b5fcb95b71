/-
  Walks for layer 3 (faults): Join.
-/
import Derived.Test.YtgnhbccmdpkbiaaDoorFaw1
namespace Go.Proofs.YtgnhbccmdpkbiaaDoor
open Go.RowKit

/-- A fault's value, by what it points to. -/
abbrev Ref := Bool × Nat
def valE (r : Ref) : Value := .iface (if r.1 then 36 else 26) (.pointer (some ⟨r.2, 0, none⟩))
def encE (r : Ref) : List Value := [valE r]
theorem elE : ElT Tryd.prog 37 28 1 16 .nilIface encE :=
  ⟨Tryd.underlying37, by kernel_rfl, rfl, by decide, fun _ => rfl, fun x u hu => by simp [encE] at hu; subst hu; rfl⟩
theorem Holds.refs {S : Nat → Prop} {w : World} {t : Fa.F} {vs : List Value} (h : Holds S w t vs) : ∃ rs : List Ref, vs = rs.map valE := by
  induction t generalizing vs with
  | nil => exact ⟨[], h⟩
  | link x c r _ ihr =>
    obtain ⟨b, cv, cs, vs', rfl, _, _, _, _, h5⟩ := h
    obtain ⟨rs, rfl⟩ := ihr h5
    exact ⟨(false, b) :: rs, rfl⟩
  | join k r _ ihr =>
    obtain ⟨b, g, o, cap, ks, vs', rfl, _, _, _, _, h5⟩ := h
    obtain ⟨rs, rfl⟩ := ihr h5
    exact ⟨(true, b) :: rs, rfl⟩
theorem Holds.elem {S : Nat → Prop} {w : World} {t : Fa.F} {rs : List Ref} (h : Holds S w t (rs.map valE)) (i : Nat) (hi : i < t.kids.length) (hr : i < rs.length) : Holds S w t.kids[i] [valE rs[i]] := by
  obtain ⟨v, h1, h2⟩ := h.kid i hi
  rw [List.getElem?_map, List.getElem?_eq_getElem hr] at h1
  simp only [Option.map_some, Option.some.injEq] at h1
  rw [h1]; exact h2
/-- A slice of errors reads as these. -/
def ErrsAt (w : World) (g o : Nat) (rs : List Ref) : Prop := g < w.heap.size ∧ ∀ (j : Nat) (hj : j < rs.length), w.cell? ⟨g, o + j, none⟩ = some (valE rs[j])
theorem ErrsAt.below {w w' : World} {g o : Nat} {rs : List Ref} (h : ErrsAt w g o rs) (hb : Below w.heap.size w w') : ErrsAt w' g o rs :=
  ⟨Nat.lt_of_lt_of_le h.1 hb.size, fun j hj => (hb.cell (p := ⟨g, _, none⟩) h.1).trans (h.2 j hj)⟩

theorem ErrsAt.cells {w : World} {g o : Nat} {rs : List Ref} (h : ErrsAt w g o rs) : ∀ j (hj : j < rs.length) (i : Nat) u, (encE rs[j])[i]? = some u → w.cell? ⟨g, o + j * 1 + i, none⟩ = some u := by
  intro j hj i u hu
  match i, hu with
  | 0, hu =>
    simp [encE] at hu
    subst hu
    rw [Nat.mul_one]
    exact h.2 j hj
theorem own_form {α : Type} {T : TypeId} {n B : Nat} {enc : α → List Value} {w : World} {v : Value} {l : List α} (h : OwnL T n enc w B v l) (hp : 0 < l.length) : ∃ g c, v = .slice (some ⟨g, 0, none⟩) l.length c ∧ B ≤ g ∧ g < w.heap.size := by
  rcases h.2 with ⟨_, h0⟩ | ⟨g, cap, cur, rfl, hbg, hg, _⟩
  · omega
  · exact ⟨g, cap, rfl, hbg, (Array.getElem?_eq_some_iff.1 hg).1⟩
theorem own_errs {T : TypeId} {B g c m : Nat} {w : World} {rs : List Ref} (h : OwnL T 1 encE w B (.slice (some ⟨g, 0, none⟩) m c) rs) : ∀ j (hj : j < rs.length), w.cell? ⟨g, j, none⟩ = some (valE rs[j]) := by
  intro j hj
  have c1 := World.ownsRow.cells (show w.ownsRow B T 1 _ _ _ from h) (g := g) rfl _ _ (flat_get elE.len rs j hj 0 (valE rs[j]) rfl)
  rw [addr_add0] at c1
  simpa using c1

def joinE (k : Fa.F) : Int := if 8 < k.len ∨ 40 < k.nodes + 1 ∨ 12 < k.hgt then 3 else 0
def JoinPost (k : Fa.F) (rs : List Ref) (w : World) (e : Ending) (w' : World) : Prop :=
  (∀ (h : rs.length = 1), e = .returned (.tuple #[valE (rs[0]'(by omega)), I64 0])) ∧
  (rs.length ≠ 1 → joinE k ≠ 0 → e = .returned (.tuple #[.nilIface, I64 (joinE k)])) ∧
  (rs.length ≠ 1 → joinE k = 0 → ∃ b g cap, e = .returned (.tuple #[joinPtr b, I64 0]) ∧ w.heap.size ≤ b ∧ w.heap.size ≤ g ∧ g < w'.heap.size ∧
    w'.heap[b]? = some (.cells (joinCells (.slice (some ⟨g, 0, none⟩) rs.length cap) (k.nodes + 1) k.hgt) 39 (0, 0)) ∧ ∀ j (hj : j < rs.length), w'.cell? ⟨g, j, none⟩ = some (valE rs[j])) ∧ Below w.heap.size w w'
theorem joinE_vals (k : Fa.F) : joinE k = 0 ∨ joinE k = 3 := by unfold joinE; split <;> simp

set_option maxHeartbeats 1000000 in
set_option maxRecDepth 100000 in
theorem join_any (S : Nat → Prop) (k : Fa.F) (rs : List Ref) (g o cap : Nat) (w : World) (h : Holds S w k (rs.map valE)) (he : ErrsAt w g o rs) (hpos : 0 < rs.length) (hn : k.nodes ≤ 1000000) :
    Calls Tryd.prog 11 #[.slice (some ⟨g, o, none⟩) rs.length cap] w (JoinPost k rs w) := by
  have hlk : rs.length = k.kids.length := by
    have := h.len
    rw [List.length_map] at this
    rw [this, Fa.kids_len]
  have hlk2 : rs.length = k.len := by rw [hlk, Fa.kids_len]
  have hln := Fa.len_le_nodes k
  have hHn := Fa.hgt_le_nodes k
  have hlen : rs.length ≤ 1000000 := by omega
  have hz : ((rs.length : Int) == 0) = false := by rw [beq_eq_false_iff_ne]; omega
  have H := Lib.hid h
  have HE := Lib.hid he
  have HL := Lib.hid hlk
  have HL2 := Lib.hid hlk2
  clear h he hlk hlk2 hln
  go_enter Tryd.func11, Tryd.ntmps11
  go_wp2_with (at_builtin; refine appLs elE _ rfl _ _ rfl w.heap.size (.slice none 0 0) [] rs rfl (OwnL.nil _ _) g o cap rfl HE.out.cells (by unfold maxLen; simp; omega) (by simp; omega) (Nat.le_refl _) ?_; rintro v2 w2 hown hgr; rw [List.nil_append] at hown; obtain ⟨g2, c2, hv2, hg21, hg22⟩ := own_form hown hpos; subst hv2)
  have hbw : Below w.heap.size w w2 := (Below.refl _ _).grown hgr (Nat.le_refl _) (fun k hk => by cases hk)
  have HO := Lib.hid hown
  clear hown hgr
  go_loopw [18] (fun i wr => ∃ q : Nat, q ≤ rs.length ∧ i = .int .i64 q ∧ Hid (Below w2.heap.size w2 wr) ∧ Hid (wr.heap[w2.heap.size]? = some (.cells #[.slice (some ⟨g2, 0, none⟩) rs.length c2, I64 (min (1 + Fa.sumN k q) 41 : Nat), I64 (Fa.maxH (k.kids.take q))] 39 (0, 0)))) (fun i _ => rs.length - (intOf i).toNat)
  case atStart => exact ⟨0, Nat.zero_le _, rfl, (Below.refl _ _).alloc (Nat.le_refl _) _, blk_new _ _⟩
  case round =>
    obtain ⟨q, hq, rfl, hbr, hblk⟩ := hrel
    by_cases hlt : q < rs.length
    · have hqk : q < k.kids.length := by have := HL.out; omega
      have i1 : (q : Int) < (rs.length : Int) := by omega
      have hb0 : Below w.heap.size w wr := hbw.trans (hbr.out.mono hbw.size)
      have c1 := (HE.out.below hb0).2 q hlt
      have HM := Lib.hid (measure_any S k.kids[q] (valE rs[q]) wr ((H.out.elem q hqk hlt).below hb0))
      obtain ⟨n1, n2, n3, n4⟩ := Fa.kid_ne hqk
      have HS1 := Lib.hid (Fa.sumN_next k hqk)
      have HS2 := Lib.hid (Fa.maxH_next k hqk)
      obtain ⟨m, hm⟩ : ∃ m, m = k.kids[q].nodes := ⟨_, rfl⟩
      obtain ⟨d, hd⟩ : ∃ d, k.kids[q].hgt = d + 1 := ⟨k.kids[q].hgt - 1, by omega⟩
      rw [← hm] at HM HS1 n1 n3
      rw [hd] at HM HS2 n4
      rw [Nat.add_sub_cancel] at HM
      have hm1 : ((m : Int) == 0) = false := by rw [beq_eq_false_iff_ne]; omega
      clear hm hd n2 hqk
      obtain ⟨s, hs⟩ : ∃ s, s = min (1 + Fa.sumN k q) 41 := ⟨_, rfl⟩
      obtain ⟨t, ht⟩ : ∃ t, t = Fa.maxH (k.kids.take q) := ⟨_, rfl⟩
      have hs1 : s ≤ 41 := by omega
      have ht1 : t ≤ 1000000 := by
        have := Fa.maxH_take k q
        omega
      rw [← hs, ← ht] at hblk
      have HS3 := Lib.hid hs
      have HT3 := Lib.hid ht
      clear hs ht hb0
      go_wp2_with (go_at_call 24; refine HM.out.mono ?_; rintro e w3 ⟨rfl, hb3⟩; have HB3 := Lib.hid ((hb3.block w2.heap.size (lt_of_block hblk.out)).trans hblk.out); have b1 := blk_cell HB3.out 1; have b2 := blk_cell HB3.out 2; have b3 := blk_free HB3.out 1; have b4 := blk_free HB3.out 2; simp only [List.getElem?_toArray, List.getElem?_cons_succ, List.getElem?_cons_zero] at b1 b2)
      case roundEnd =>
      have hbs : Below w2.heap.size w2 w3 := hbr.out.trans (hb3.mono hbr.out.size)
      refine ⟨⟨q + 1, by omega, by go_num, (hbs.setCell (Nat.le_refl _) _).setCell (Nat.le_refl _) _, ?_⟩, by simp [intOf]; omega⟩
      show _ = _
      rw [blk_set (blk_set HB3.out 1 _) 2 _]
      have e1 : (min ((s : Int) + (m : Int)) 41) = ((min (1 + Fa.sumN k (q + 1)) 41 : Nat) : Int) := by
        have h1 := HS1.out
        have h2 := HS3.out
        omega
      have e2 : (max (t : Int) ((d : Int) + 1)) = ((Fa.maxH (k.kids.take (q + 1)) : Nat) : Int) := by
        have h1 := HS2.out
        have h2 := HT3.out
        omega
      rw [e1, e2]
      rfl
    · have hqe : k.kids.length ≤ q := by have := HL.out; omega
      have hb0 : Below w.heap.size w wr := hbw.trans (hbr.out.mono hbw.size)
      have hblk2 := hblk.out
      rw [Fa.sumN_all k hqe, Fa.maxH_all k hqe] at hblk2
      have b1 := blk_cell hblk2 1
      have b2 := blk_cell hblk2 2
      simp only [List.getElem?_toArray, List.getElem?_cons_succ, List.getElem?_cons_zero] at b1 b2
      have HBK := Lib.hid hblk2
      have hl2 := HL2.out
      have HOE : Hid (∀ j (hj : j < rs.length), wr.cell? ⟨g2, j, none⟩ = some (valE rs[j])) := fun j hj => (hbr.out.cell (p := ⟨g2, _, none⟩) hg22).trans (own_errs HO.out j hj)
      have HSZ := Lib.hid hbr.out.size
      have HJ : Hid (joinE k = if 8 < rs.length ∨ 40 < k.nodes + 1 ∨ 12 < k.hgt then 3 else 0) := by rw [hl2]; rfl
      clear hblk hblk2 hqe hl2 hbr
      by_cases h1 : rs.length = 1
      · have hl1 : ((rs.length : Int) == 1) = true := by rw [beq_iff_eq]; omega
        have c0 := (HE.out.below hb0).2 0 (by omega)
        rw [Nat.add_zero] at c0
        have H1 := Lib.hid h1
        clear h1
        go_wp2
        go_ret2
        exact ⟨fun _ => rfl, fun h => absurd H1.out h, fun h => absurd H1.out h, hb0⟩
      · have hl1 : ((rs.length : Int) == 1) = false := by rw [beq_eq_false_iff_ne]; omega
        have H1 := Lib.hid h1
        clear h1
        by_cases h8 : 8 < rs.length
        · have HX := Lib.hid (show joinE k = 3 from by rw [HJ.out, if_pos (.inl h8)])
          have i8 : (8 : Int) < (rs.length : Int) := by omega
          go_wp2
          go_ret2
          exact ⟨fun h => absurd h H1.out, fun _ _ => by rw [HX.out]; rfl, fun _ h => absurd (HX.out.symm.trans h) (by decide), hb0⟩
        · have i8 : ¬ (8 : Int) < (rs.length : Int) := by omega
          by_cases h40 : 40 < k.nodes + 1
          · have HX := Lib.hid (show joinE k = 3 from by rw [HJ.out, if_pos (.inr (.inl h40))])
            have e4 : min (1 + k.nodes) 41 = 41 := by omega
            rw [e4] at b1
            clear e4
            go_wp2
            go_ret2
            exact ⟨fun h => absurd h H1.out, fun _ _ => by rw [HX.out]; rfl, fun _ h => absurd (HX.out.symm.trans h) (by decide), hb0⟩
          · have e4 : min (1 + k.nodes) 41 = k.nodes + 1 := by omega
            rw [e4] at b1 HBK
            clear e4
            have i40 : ¬ (40 : Int) < (k.nodes : Int) + 1 := by omega
            by_cases h12 : 12 < k.hgt
            · have HX := Lib.hid (show joinE k = 3 from by rw [HJ.out, if_pos (.inr (.inr h12))])
              have i12 : (12 : Int) < (k.hgt : Int) := by omega
              go_wp2
              go_ret2
              exact ⟨fun h => absurd h H1.out, fun _ _ => by rw [HX.out]; rfl, fun _ h => absurd (HX.out.symm.trans h) (by decide), hb0⟩
            · have HX := Lib.hid (show joinE k = 0 from by rw [HJ.out, if_neg (by omega)])
              have i12 : ¬ (12 : Int) < (k.hgt : Int) := by omega
              go_wp2
              go_ret2
              exact ⟨fun h => absurd h H1.out, fun _ h => absurd HX.out h, fun _ _ => ⟨w2.heap.size, g2, c2, rfl, hbw.size, hg21, Nat.lt_of_lt_of_le hg22 HSZ.out, HBK.out, HOE.out⟩, hb0⟩
end Go.Proofs.YtgnhbccmdpkbiaaDoor
