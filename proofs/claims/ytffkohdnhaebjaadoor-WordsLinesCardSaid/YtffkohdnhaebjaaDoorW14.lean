/-
  Walks: the reference's Split.
-/
import Derived.Test.YtffkohdnhaebjaaDoorW13
import Derived.Test.YtffkohdnhaebjaaDoorW2
import Derived.Test.YtffkohdnhaebjaaDoorOwnF
import Derived.WalkSpells
namespace Go.Proofs.YtffkohdnhaebjaaDoor
open Go.RowKit Go.Shelf

def splitErr (n : Int) : Ending := .returned (.tuple #[.slice none 0 0, .int .i64 n])
/-- What is known behind k bytes of a line: the fields acc are read. -/
def FRel (l : List UInt8) (acc : List Wd.Fld) (k : Nat) : Prop := Wd.F l = (Wd.F (l.drop k)).map (acc ++ ·)
def longs (acc : List Wd.Fld) : Bool := acc.any fun f => 2000 < f.1.length
theorem split_none {l : List UInt8} {acc : List Wd.Fld} {k : Nat} (h0 : l ≠ []) (h1 : l.length ≤ 8192) (h : FRel l acc k) (hn : Wd.field1 (l.drop k) = none) : Wd.split l = ([], 6) := by
  unfold FRel at h
  rw [Wd.F_none hn] at h
  have e : Wd.fields l = none := h
  unfold Wd.split
  rw [if_neg (by omega), if_neg h0, e]
theorem split_bad {l : List UInt8} {acc : List Wd.Fld} {k : Nat} {f : Wd.Fld} {c : UInt8} {r : List UInt8} (h0 : l ≠ []) (h1 : l.length ≤ 8192) (h : FRel l acc k) (hn : Wd.field1 (l.drop k) = some (f, c :: r)) (hc : c ≠ 32) : Wd.split l = ([], 6) := by
  unfold FRel at h
  rw [Wd.F_bad hn hc] at h
  have e : Wd.fields l = none := h
  unfold Wd.split
  rw [if_neg (by omega), if_neg h0, e]
theorem split_last {l : List UInt8} {acc : List Wd.Fld} {k : Nat} {f : Wd.Fld} (h0 : l ≠ []) (h1 : l.length ≤ 8192) (h : FRel l acc k) (hn : Wd.field1 (l.drop k) = some (f, [])) :
    Wd.split l = if longs (acc ++ [f]) || 64 < (acc ++ [f]).length then ([], 3) else (acc ++ [f], 0) := by
  unfold FRel at h
  rw [Wd.F_last hn] at h
  have e : Wd.fields l = some (acc ++ [f]) := h
  unfold Wd.split
  rw [if_neg (by omega), if_neg h0, e]
  rfl
theorem frel_next {l : List UInt8} {acc : List Wd.Fld} {k : Nat} {f : Wd.Fld} {r : List UInt8} (h : FRel l acc k) (hn : Wd.field1 (l.drop k) = some (f, 32 :: r)) :
    FRel l (acc ++ [f]) (l.length - r.length) := by
  unfold FRel at h ⊢
  have hsuf : r = l.drop (l.length - r.length) := by
    apply Wd.drop_of_suffix
    have := Wd.field1_suffix hn
    exact ((List.suffix_cons _ _).trans this).trans (List.drop_suffix _ _)
  rw [Wd.F_next hn] at h
  rw [h, ← hsuf]
  cases Wd.F r <;> simp
theorem longs_snoc (acc : List Wd.Fld) (f : Wd.Fld) : longs (acc ++ [f]) = (longs acc || decide (2000 < f.1.length)) := by
  unfold longs; simp

theorem newF (W : World) (x y : Value) (T : TypeId) : (W.alloc (.cells #[x, y] T)).cell? ⟨W.heap.size, 0, none⟩ = some x ∧ (W.alloc (.cells #[x, y] T)).cell? ⟨W.heap.size, 1, none⟩ = some y := by
  constructor
  · rw [World.cell?_alloc_at _ _ _ _ rfl]; rfl
  · rw [World.cell?_alloc_at _ _ _ _ rfl]; rfl
theorem newF2 (W : World) (o : Obj) (x y : Value) (T : TypeId) : ((W.alloc o).alloc (.cells #[x, y] T)).cell? ⟨W.heap.size + 1, 0, none⟩ = some x ∧ ((W.alloc o).alloc (.cells #[x, y] T)).cell? ⟨W.heap.size + 1, 1, none⟩ = some y := by
  have e : W.heap.size + 1 = (W.alloc o).heap.size := by simp
  rw [e]
  exact newF _ x y T
theorem keptF {w1 w2 : World} {B : Nat} {v : Value} {l : List Wd.Fld} {x y : Value} {T : TypeId} {o : Obj} (h : OwnF w1 B v l) (hg : ((w1.alloc (.cells #[x, y] T)).alloc o).grownBy w2 v.ownBlock) : w2.cell? ⟨w1.heap.size, 0, none⟩ = some x := by
  have hb := hg.block w1.heap.size (by simp; omega) (fun e => Nat.lt_irrefl _ (h.lt _ e.symm).2)
  rw [World.cell?_of_block (a := ⟨w1.heap.size, 0, none⟩) hb, World.cell?_alloc_lt _ _ _ (by simp)]
  exact (newF w1 x y T).1
theorem wlen_of {l : List UInt8} {n : Nat} (hn : n ≤ l.length) (h1 : ∀ j, j < n → l[j]? ≠ some 32) (h2 : n = l.length ∨ l[n]? = some 32) : Wd.wlen l = n := by
  refine Wd.wlen_eq hn (fun j hj => ?_) (fun h => ?_)
  · have := h1 j hj
    rw [List.getElem?_eq_getElem (by omega)] at this
    simpa using this
  · rcases h2 with h2 | h2
    · omega
    · rw [List.getElem?_eq_getElem h] at h2
      simpa using h2
theorem rest_of {l r : List UInt8} {k n : Nat} (h : r <:+ l.drop k) (hn : n = l.length - k - r.length) : r = l.drop (k + n) := by
  have := Wd.drop_of_suffix h
  rw [List.length_drop, List.drop_drop, ← hn] at this
  exact this
theorem split3 {l : List UInt8} {acc : List Wd.Fld} {f : Wd.Fld} (h : Wd.split l = if longs (acc ++ [f]) || 64 < (acc ++ [f]).length then ([], 3) else (acc ++ [f], 0)) (hl : longs (acc ++ [f]) = true ∨ 64 < acc.length + 1) : Wd.split l = ([], 3) := by
  rw [h, if_pos]
  rcases hl with hl | hl
  · rw [hl]; rfl
  · simp [hl]
theorem split0 {l : List UInt8} {acc : List Wd.Fld} {f : Wd.Fld} (h : Wd.split l = if longs (acc ++ [f]) || 64 < (acc ++ [f]).length then ([], 3) else (acc ++ [f], 0)) (h1 : longs (acc ++ [f]) = false) (h2 : ¬ 64 < acc.length + 1) : Wd.split l = (acc ++ [f], 0) := by
  rw [h, if_neg]
  rw [h1]; simp; omega

set_option maxHeartbeats 3000000 in
set_option maxRecDepth 100000 in
theorem rSplit_any (s : ByteArray) (w : World) : Calls Tryd.prog 11 #[.string s] w fun e w' => (∃ v, e = .returned (.tuple #[v, .int .i64 (Wd.split s.data.toList).2]) ∧ ReadsF w' v (Wd.split s.data.toList).1) ∧ Below w.heap.size w w' := by
  by_cases hbig : 8192 < s.size
  · have HS := Lib.hid (show Wd.split s.data.toList = ([], 3) from by unfold Wd.split; rw [if_pos (by rw [← size_list]; exact hbig)])
    go_enter Tryd.func11, Tryd.ntmps11
    go_wp2
    go_ret2
    exact ⟨⟨.slice none 0 0, by rw [HS.out]; rfl, by rw [HS.out]; exact ReadsF.nil _⟩, Below.refl _ _⟩
  by_cases hz : s.size = 0
  · have hl : s.data.toList = [] := List.eq_nil_of_length_eq_zero (by rw [← size_list]; exact hz)
    have HS := Lib.hid (show Wd.split s.data.toList = ([], 0) from by rw [hl]; rfl)
    have he : s.toList.isEmpty = true := by rw [Lib.toList_data, hl]; rfl
    clear hl
    go_enter Tryd.func11, Tryd.ntmps11
    go_wp2
    go_ret2
    exact ⟨⟨.slice none 0 0, by rw [HS.out]; rfl, by rw [HS.out]; exact ReadsF.nil _⟩, Below.refl _ _⟩
  have hpos : 0 < s.size := by omega
  have hc := list_cons hpos
  have he : s.toList.isEmpty = false := by rw [Lib.toList_data, hc]; rfl
  have hne : Hid (s.data.toList ≠ []) := by rw [hc]; exact List.cons_ne_nil _ _
  have hll : Hid (s.data.toList.length ≤ 8192) := by show _ ≤ _; rw [← size_list]; omega
  clear hc
  go_enter Tryd.func11, Tryd.ntmps11
  go_wp2
  go_loopw [4, 5, 6] (fun v u i wr => ∃ (k : Nat) (acc : List Wd.Fld) (lo : Bool), k ≤ s.size ∧ i = .int .i64 k ∧ u = .bool lo ∧ Hid (longs acc = lo) ∧ acc.length ≤ k ∧ OwnF wr w.heap.size v acc ∧ Below w.heap.size w wr ∧ Hid (FRel s.data.toList acc k)) (fun _ _ i _ => s.size + 1 - (intOf i).toNat)
  case atStart => exact ⟨0, [], false, Nat.zero_le _, rfl, rfl, rfl, Nat.le_refl _, OwnF.nil _ _, Below.refl _ _, (by show Wd.F _ = _; simp)⟩
  case round =>
    obtain ⟨k, acc, lo, hk, rfl, rfl, hlo, hal, hown, hbr, hrl⟩ := hrel
    have hx : (s.extract k s.size).data.toList = s.data.toList.drop k := ext_drop s k
    have hct := rquoted_any (s.extract k s.size) wr (by have h : (s.extract k s.size).size ≤ s.size := (by simp); omega)
    rw [hx] at hct
    cases hu : Wd.unq (s.data.toList.drop k) with
    | some p =>
      obtain ⟨t, r⟩ := p
      rw [unqEnd_some hu] at hct
      have hlt := Wd.unq_rest hu
      have hdl : (s.data.toList.drop k).length = s.size - k := by rw [List.length_drop, size_list]
      rw [hdl] at hlt hct
      have HC := Lib.hid hct
      have HF1 := Lib.hid (Wd.field1_unq hu)
      obtain ⟨n, hn⟩ : ∃ n : Nat, n = s.size - k - r.length := ⟨_, rfl⟩
      have e1 : (((s.size - k : Nat) : Int) - (r.length : Int)) = (n : Int) := by omega
      rw [e1] at HC
      have hn0 : ((n : Int) == 0) = false := by rw [beq_eq_false_iff_ne]; omega
      have hn1 : k + n ≤ s.size := by omega
      have hpn : 0 < n := by omega
      have hrr := rest_of (n := n) (Wd.unq_suffix hu) (by rw [← size_list]; exact hn)
      clear hct hx hu e1 hn hlt hdl
      have hlt2 : k + n ≤ s.size := hn1
      by_cases hend : k + n = s.size
      · have hr0 : r = [] := by rw [hrr]; exact List.drop_eq_nil_of_le (by rw [← size_list]; omega)
        subst hr0
        have HS := split_last hne.out hll.out hrl.out HF1.out
        have hE1 : ((k : Int) + (n : Int) == (s.size : Int)) = true := by rw [beq_iff_eq]; omega
        cases lo with
        | true =>
          have HS3 := Lib.hid (split3 HS (.inl (by rw [longs_snoc, hlo.out]; rfl)))
          clear HS hrr
          go_wp2_with (first | (go_at_call 29; refine HC.out.mono ?_; rintro e w1 ⟨rfl, hb1⟩; have hown1 := hown.below hb1; have hbr1 := hbr.trans (hb1.mono hbr.size); have hsz1 := hbr1.size) | (at_builtin; refine appF _ rfl _ _ rfl w.heap.size _ _ (t, true) rfl ((hown1.alloc _).alloc _) _ 1 rfl (newF2 _ _ _ _ _).1 (newF2 _ _ _ _ _).2 (by omega) (by simp; omega) ?_; rintro v2 w2 hown2 hgr ⟨g2, c2, rfl⟩; have hcell := keptF hown1 hgr; have hbr2 := below_appF ((hbr1.alloc hsz1 _).alloc (by simp; omega) _) ((hown1.alloc _).alloc _) hgr (by simp; omega)))
          go_ret2
          exact ⟨⟨.slice none 0 0, by rw [HS3.out]; rfl, by rw [HS3.out]; exact ReadsF.nil _⟩, hbr2⟩
        | false =>
          by_cases hq : 2000 < t.length
          · have HS3 := Lib.hid (split3 HS (.inl (by rw [longs_snoc, hlo.out]; simpa using hq)))
            clear HS hrr
            go_wp2_with (first | (go_at_call 29; refine HC.out.mono ?_; rintro e w1 ⟨rfl, hb1⟩; have hown1 := hown.below hb1; have hbr1 := hbr.trans (hb1.mono hbr.size); have hsz1 := hbr1.size) | (at_builtin; refine appF _ rfl _ _ rfl w.heap.size _ _ (t, true) rfl ((hown1.alloc _).alloc _) _ 1 rfl (newF2 _ _ _ _ _).1 (newF2 _ _ _ _ _).2 (by omega) (by simp; omega) ?_; rintro v2 w2 hown2 hgr ⟨g2, c2, rfl⟩; have hcell := keptF hown1 hgr; have hbr2 := below_appF ((hbr1.alloc hsz1 _).alloc (by simp; omega) _) ((hown1.alloc _).alloc _) hgr (by simp; omega)))
            go_ret2
            exact ⟨⟨.slice none 0 0, by rw [HS3.out]; rfl, by rw [HS3.out]; exact ReadsF.nil _⟩, hbr2⟩
          · by_cases h64 : 64 < acc.length + 1
            · have HS3 := Lib.hid (split3 HS (.inr h64))
              clear HS hrr
              go_wp2_with (first | (go_at_call 29; refine HC.out.mono ?_; rintro e w1 ⟨rfl, hb1⟩; have hown1 := hown.below hb1; have hbr1 := hbr.trans (hb1.mono hbr.size); have hsz1 := hbr1.size) | (at_builtin; refine appF _ rfl _ _ rfl w.heap.size _ _ (t, true) rfl ((hown1.alloc _).alloc _) _ 1 rfl (newF2 _ _ _ _ _).1 (newF2 _ _ _ _ _).2 (by omega) (by simp; omega) ?_; rintro v2 w2 hown2 hgr ⟨g2, c2, rfl⟩; have hcell := keptF hown1 hgr; have hbr2 := below_appF ((hbr1.alloc hsz1 _).alloc (by simp; omega) _) ((hown1.alloc _).alloc _) hgr (by simp; omega)))
              go_ret2
              exact ⟨⟨.slice none 0 0, by rw [HS3.out]; rfl, by rw [HS3.out]; exact ReadsF.nil _⟩, hbr2⟩
            · have HS0 := Lib.hid (split0 HS (by rw [longs_snoc, hlo.out]; simpa using hq) h64)
              clear HS hrr
              go_wp2_with (first | (go_at_call 29; refine HC.out.mono ?_; rintro e w1 ⟨rfl, hb1⟩; have hown1 := hown.below hb1; have hbr1 := hbr.trans (hb1.mono hbr.size); have hsz1 := hbr1.size) | (at_builtin; refine appF _ rfl _ _ rfl w.heap.size _ _ (t, true) rfl ((hown1.alloc _).alloc _) _ 1 rfl (newF2 _ _ _ _ _).1 (newF2 _ _ _ _ _).2 (by omega) (by simp; omega) ?_; rintro v2 w2 hown2 hgr ⟨g2, c2, rfl⟩; have hcell := keptF hown1 hgr; have hbr2 := below_appF ((hbr1.alloc hsz1 _).alloc (by simp; omega) _) ((hown1.alloc _).alloc _) hgr (by simp; omega)))
              go_ret2
              exact ⟨⟨_, by rw [HS0.out]; rfl, by rw [HS0.out]; exact hown2.reads⟩, hbr2⟩
      · have hlt3 : k + n < s.size := by omega
        have hE1 : ((k : Int) + (n : Int) == (s.size : Int)) = false := by rw [beq_eq_false_iff_ne]; omega
        rw [drop_cons hlt3] at hrr
        by_cases hc32 : s[k + n] = 32
        · have hE2 : ((s[k + n].toNat : Int) != 32) = false := by rw [hc32]; rfl
          rw [hrr, hc32] at HF1
          have HR := frel_next hrl.out HF1.out
          rw [List.length_drop, ← size_list, show s.size - (s.size - (k + n + 1)) = k + n + 1 from by omega] at HR
          have HL := Lib.hid (longs_snoc acc (t, true))
          rw [hlo.out] at HL
          have HR2 := Lib.hid HR
          clear HR hrr hc32
          cases lo
          all_goals
            go_wp2_with (first | (go_at_call 29; refine HC.out.mono ?_; rintro e w1 ⟨rfl, hb1⟩; have hown1 := hown.below hb1; have hbr1 := hbr.trans (hb1.mono hbr.size); have hsz1 := hbr1.size) | (at_builtin; refine appF _ rfl _ _ rfl w.heap.size _ _ (t, true) rfl ((hown1.alloc _).alloc _) _ 1 rfl (newF2 _ _ _ _ _).1 (newF2 _ _ _ _ _).2 (by omega) (by simp; omega) ?_; rintro v2 w2 hown2 hgr ⟨g2, c2, rfl⟩; have hcell := keptF hown1 hgr; have hbr2 := below_appF ((hbr1.alloc hsz1 _).alloc (by simp; omega) _) ((hown1.alloc _).alloc _) hgr (by simp; omega)))
            go_roundw
            case rel => exact ⟨k + n + 1, acc ++ [(t, true)], _, by omega, by go_num, rfl, (by show _ = _; rw [HL.out]; first | rfl | (simp; first | done | omega)), (by simp; omega), hown2, hbr2, HR2⟩
            case measure => simp [intOf]; omega
        · have hE2 : ((s[k + n].toNat : Int) != 32) = true := by rw [bne_iff_ne]; intro e; apply hc32; rw [← UInt8.toNat_inj]; simp; omega
          rw [hrr] at HF1
          have HS := Lib.hid (split_bad hne.out hll.out hrl.out HF1.out hc32)
          clear hrr hc32
          cases lo
          all_goals
            go_wp2_with (first | (go_at_call 29; refine HC.out.mono ?_; rintro e w1 ⟨rfl, hb1⟩; have hown1 := hown.below hb1; have hbr1 := hbr.trans (hb1.mono hbr.size); have hsz1 := hbr1.size) | (at_builtin; refine appF _ rfl _ _ rfl w.heap.size _ _ (t, true) rfl ((hown1.alloc _).alloc _) _ 1 rfl (newF2 _ _ _ _ _).1 (newF2 _ _ _ _ _).2 (by omega) (by simp; omega) ?_; rintro v2 w2 hown2 hgr ⟨g2, c2, rfl⟩; have hcell := keptF hown1 hgr; have hbr2 := below_appF ((hbr1.alloc hsz1 _).alloc (by simp; omega) _) ((hown1.alloc _).alloc _) hgr (by simp; omega)))
            go_ret2
            exact ⟨⟨.slice none 0 0, by rw [HS.out]; rfl, by rw [HS.out]; exact ReadsF.nil _⟩, hbr2⟩
    | none =>
      rw [unqEnd_none hu] at hct
      have HC := Lib.hid hct
      have HU := Lib.hid hu
      clear hct hx hu
      go_wp2_with (go_at_call 29; refine HC.out.mono ?_; rintro e w1 ⟨rfl, hb1⟩; have hown1 := hown.below hb1; have hbr1 := hbr.trans (hb1.mono hbr.size); have hsz1 := hbr1.size)
      go_loop [8] (fun i => ∃ n : Nat, k + n ≤ s.size ∧ i = .int .i64 n ∧ Hid (∀ j, j < n → (s.data.toList.drop k)[j]? ≠ some 32)) (fun i => s.size - (intOf i).toNat)
      case atStart => exact ⟨0, hk, rfl, fun j h => absurd h (Nat.not_lt_zero _)⟩
      case round =>
        obtain ⟨n, hn1, rfl, hno⟩ := hrel
        have hdg : ∀ h : k + n < s.size, (s.data.toList.drop k)[n]? = some s[k + n] := by
          intro h
          rw [List.getElem?_drop, List.getElem?_eq_getElem (by rw [← size_list]; exact h)]
          rfl
        by_cases hgo : ∃ h : k + n < s.size, s[k + n] ≠ 32
        · obtain ⟨hlt, hne2⟩ := hgo
          have hI1 : ((s[k + n].toNat : Int) != 32) = true := by rw [bne_iff_ne]; intro e; apply hne2; rw [← UInt8.toNat_inj]; simp; omega
          have HN : Hid (∀ j, j < n + 1 → (s.data.toList.drop k)[j]? ≠ some 32) := by
            intro j hj
            by_cases hjn : j = n
            · subst hjn; rw [hdg hlt]; simpa using hne2
            · exact hno.out j (by omega)
          clear hne2 hdg
          go_wp2
          go_round
          case rel => exact ⟨n + 1, by omega, by go_num, HN⟩
          case measure => simp [intOf]; omega
        · have hsp : ∀ h : k + n < s.size, s[k + n] = 32 := fun h => Classical.byContradiction fun e => hgo ⟨h, e⟩
          have hdl : (s.data.toList.drop k).length = s.size - k := by rw [List.length_drop, size_list]
          have hW : Wd.wlen (s.data.toList.drop k) = n := by
            refine wlen_of (by omega) hno.out ?_
            by_cases h : k + n < s.size
            · exact .inr (by rw [hdg h, hsp h])
            · exact .inl (by omega)
          have hx : (s.extract k (k + n)).data.toList = (s.data.toList.drop k).take n := by
            rw [Lib.extract_data, Nat.add_sub_cancel_left]
          have hxs : (s.extract k (k + n)).size = n := by simp; omega
          have hxl : (s.extract k (k + n)).data.toList.length = n := by rw [← size_list]; exact hxs
          have hcb := fun W => rbare_any (s.extract k (k + n)) W (by unfold maxLen; omega)
          cases hb : Wd.bare (s.extract k (k + n)).data.toList with
          | false =>
            have HS := Lib.hid (split_none hne.out hll.out hrl.out (Wd.field1_no HU.out (by rw [hW, ← hx]; exact hb)))
            have HB : Hid (∀ W, Calls Tryd.prog 30 #[.string (s.extract k (k + n))] W fun e w' => e = .returned (.bool false) ∧ W = w') := by
              intro W; have := hcb W; rw [hb] at this; exact this
            clear hcb hb hx hW hdl hdg hgo
            by_cases hlt3 : k + n < s.size
            · have hI2 : ((s[k + n].toNat : Int) != 32) = false := by rw [hsp hlt3]; rfl
              go_wp2_with (go_at_call 30; refine (HB.out _).mono ?_; rintro e w' ⟨rfl, rfl⟩)
              go_ret2
              exact ⟨⟨.slice none 0 0, by rw [HS.out]; rfl, by rw [HS.out]; exact ReadsF.nil _⟩, hbr1.alloc hsz1 _⟩
            · have hge : ¬ k + n < s.size := hlt3
              go_wp2_with (go_at_call 30; refine (HB.out _).mono ?_; rintro e w' ⟨rfl, rfl⟩)
              go_ret2
              exact ⟨⟨.slice none 0 0, by rw [HS.out]; rfl, by rw [HS.out]; exact ReadsF.nil _⟩, hbr1.alloc hsz1 _⟩
          | true =>
            have HB : Hid (∀ W, Calls Tryd.prog 30 #[.string (s.extract k (k + n))] W fun e w' => e = .returned (.bool true) ∧ W = w') := by
              intro W; have := hcb W; rw [hb] at this; exact this
            have hf1 := Wd.field1_bare HU.out (by rw [hW, ← hx]; exact hb)
            rw [hW, ← hx, List.drop_drop] at hf1
            have hpn : 0 < n := by
              rcases Nat.eq_zero_or_pos n with h | h
              · subst h; rw [hx] at hb; simp [Wd.bare] at hb
              · exact h
            obtain ⟨r, hrr⟩ : ∃ r, r = s.data.toList.drop (k + n) := ⟨_, rfl⟩
            rw [← hrr] at hf1
            have HF1 := Lib.hid hf1
            clear hcb hb hx hW hdl hdg hgo hf1
            have hlt2 : k + n ≤ s.size := hn1
            by_cases hend : k + n = s.size
            · have hr0 : r = [] := by rw [hrr]; exact List.drop_eq_nil_of_le (by rw [← size_list]; omega)
              subst hr0
              have HS := split_last hne.out hll.out hrl.out HF1.out
              have hE1 : ((k : Int) + (n : Int) == (s.size : Int)) = true := by rw [beq_iff_eq]; omega
              have hge : ¬ k + n < s.size := by omega
              clear hend
              cases lo with
              | true =>
                have HS3 := Lib.hid (split3 HS (.inl (by rw [longs_snoc, hlo.out]; rfl)))
                clear HS hrr
                go_wp2_with (first | (go_at_call 30; refine (HB.out _).mono ?_; rintro e w' ⟨rfl, rfl⟩) | (at_builtin; refine appF _ rfl _ _ rfl w.heap.size _ _ ((s.extract k (k + n)).data.toList, false) rfl ((hown1.alloc _).alloc _) _ 1 rfl (newF2 _ _ _ _ _).1 (newF2 _ _ _ _ _).2 (by omega) (by simp; omega) ?_; rintro v2 w2 hown2 hgr ⟨g2, c2, rfl⟩; have hcell := keptF hown1 hgr; have hbr2 := below_appF ((hbr1.alloc hsz1 _).alloc (by simp; omega) _) ((hown1.alloc _).alloc _) hgr (by simp; omega)))
                go_ret2
                exact ⟨⟨.slice none 0 0, by rw [HS3.out]; rfl, by rw [HS3.out]; exact ReadsF.nil _⟩, hbr2⟩
              | false =>
                by_cases hq : 2000 < n
                · have HS3 := Lib.hid (split3 HS (.inl (by rw [longs_snoc, hlo.out, hxl]; simpa using hq)))
                  clear HS hrr
                  go_wp2_with (first | (go_at_call 30; refine (HB.out _).mono ?_; rintro e w' ⟨rfl, rfl⟩) | (at_builtin; refine appF _ rfl _ _ rfl w.heap.size _ _ ((s.extract k (k + n)).data.toList, false) rfl ((hown1.alloc _).alloc _) _ 1 rfl (newF2 _ _ _ _ _).1 (newF2 _ _ _ _ _).2 (by omega) (by simp; omega) ?_; rintro v2 w2 hown2 hgr ⟨g2, c2, rfl⟩; have hcell := keptF hown1 hgr; have hbr2 := below_appF ((hbr1.alloc hsz1 _).alloc (by simp; omega) _) ((hown1.alloc _).alloc _) hgr (by simp; omega)))
                  go_ret2
                  exact ⟨⟨.slice none 0 0, by rw [HS3.out]; rfl, by rw [HS3.out]; exact ReadsF.nil _⟩, hbr2⟩
                · by_cases h64 : 64 < acc.length + 1
                  · have HS3 := Lib.hid (split3 HS (.inr h64))
                    clear HS hrr
                    go_wp2_with (first | (go_at_call 30; refine (HB.out _).mono ?_; rintro e w' ⟨rfl, rfl⟩) | (at_builtin; refine appF _ rfl _ _ rfl w.heap.size _ _ ((s.extract k (k + n)).data.toList, false) rfl ((hown1.alloc _).alloc _) _ 1 rfl (newF2 _ _ _ _ _).1 (newF2 _ _ _ _ _).2 (by omega) (by simp; omega) ?_; rintro v2 w2 hown2 hgr ⟨g2, c2, rfl⟩; have hcell := keptF hown1 hgr; have hbr2 := below_appF ((hbr1.alloc hsz1 _).alloc (by simp; omega) _) ((hown1.alloc _).alloc _) hgr (by simp; omega)))
                    go_ret2
                    exact ⟨⟨.slice none 0 0, by rw [HS3.out]; rfl, by rw [HS3.out]; exact ReadsF.nil _⟩, hbr2⟩
                  · have HS0 := Lib.hid (split0 HS (by rw [longs_snoc, hlo.out, hxl]; simpa using hq) h64)
                    clear HS hrr
                    go_wp2_with (first | (go_at_call 30; refine (HB.out _).mono ?_; rintro e w' ⟨rfl, rfl⟩) | (at_builtin; refine appF _ rfl _ _ rfl w.heap.size _ _ ((s.extract k (k + n)).data.toList, false) rfl ((hown1.alloc _).alloc _) _ 1 rfl (newF2 _ _ _ _ _).1 (newF2 _ _ _ _ _).2 (by omega) (by simp; omega) ?_; rintro v2 w2 hown2 hgr ⟨g2, c2, rfl⟩; have hcell := keptF hown1 hgr; have hbr2 := below_appF ((hbr1.alloc hsz1 _).alloc (by simp; omega) _) ((hown1.alloc _).alloc _) hgr (by simp; omega)))
                    go_ret2
                    exact ⟨⟨_, by rw [HS0.out]; rfl, by rw [HS0.out]; exact hown2.reads⟩, hbr2⟩
            · have hlt3 : k + n < s.size := by omega
              have hI2 : ((s[k + n].toNat : Int) != 32) = false := by rw [hsp hlt3]; rfl
              have hE1 : ((k : Int) + (n : Int) == (s.size : Int)) = false := by rw [beq_eq_false_iff_ne]; omega
              rw [drop_cons hlt3] at hrr
              by_cases hc32 : s[k + n] = 32
              · have hE2 : ((s[k + n].toNat : Int) != 32) = false := by rw [hc32]; rfl
                rw [hrr, hc32] at HF1
                have HR := frel_next hrl.out HF1.out
                rw [List.length_drop, ← size_list, show s.size - (s.size - (k + n + 1)) = k + n + 1 from by omega] at HR
                have HL := Lib.hid (longs_snoc acc ((s.extract k (k + n)).data.toList, false))
                rw [hlo.out, hxl] at HL
                have HR2 := Lib.hid HR
                clear HR hrr hc32
                cases lo
                all_goals
                  go_wp2_with (first | (go_at_call 30; refine (HB.out _).mono ?_; rintro e w' ⟨rfl, rfl⟩) | (at_builtin; refine appF _ rfl _ _ rfl w.heap.size _ _ ((s.extract k (k + n)).data.toList, false) rfl ((hown1.alloc _).alloc _) _ 1 rfl (newF2 _ _ _ _ _).1 (newF2 _ _ _ _ _).2 (by omega) (by simp; omega) ?_; rintro v2 w2 hown2 hgr ⟨g2, c2, rfl⟩; have hcell := keptF hown1 hgr; have hbr2 := below_appF ((hbr1.alloc hsz1 _).alloc (by simp; omega) _) ((hown1.alloc _).alloc _) hgr (by simp; omega)))
                  go_roundw
                  case rel => exact ⟨k + n + 1, acc ++ [((s.extract k (k + n)).data.toList, false)], _, by omega, by go_num, rfl, (by show _ = _; rw [HL.out]; first | rfl | (simp; first | done | omega)), (by simp; omega), hown2, hbr2, HR2⟩
                  case measure => simp [intOf]; omega
              · exact absurd (hsp hlt3) hc32
end Go.Proofs.YtffkohdnhaebjaaDoor
