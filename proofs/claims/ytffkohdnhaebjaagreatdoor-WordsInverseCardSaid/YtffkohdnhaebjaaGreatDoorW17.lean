/-
  Walks: words.Join.
-/
import Derived.Test.YtffkohdnhaebjaaGreatDoorW16
import Derived.Test.YtffkohdnhaebjaaGreatDoorShelf
namespace Go.Proofs.YtffkohdnhaebjaaGreatDoor
open Go.RowKit Go.Shelf

def encS (x : List UInt8) : List Value := [S8 x]
theorem elS : ElT Tryz.prog 61 9 1 16 (.string ⟨#[]⟩) encS :=
  ⟨Tryz.underlying61, by kernel_rfl, rfl, by decide, fun _ => rfl, fun x u hu => by simp [encS] at hu; subst hu; rfl⟩
theorem newS (W : World) (x : Value) (T : TypeId) (y : List UInt8) (h : x = S8 y) : ∀ i u, (encS y)[i]? = some u → (W.alloc (.cells #[x] T)).cell? ⟨W.heap.size, i, none⟩ = some u := by
  intro i u hu
  match i, hu with
  | 0, hu => simp [encS] at hu; subst hu; rw [World.cell?_alloc_at _ _ _ _ rfl, h]; rfl
theorem newS2 (W : World) (o : Obj) (x : Value) (T : TypeId) (y : List UInt8) (h : x = S8 y) : ∀ i u, (encS y)[i]? = some u → ((W.alloc o).alloc (.cells #[x] T)).cell? ⟨W.heap.size + 1, i, none⟩ = some u := by
  have e : W.heap.size + 1 = (W.alloc o).heap.size := by simp
  rw [e]; exact newS _ x T y h
/-- What strings.Join asks of a slice of strings that the call owns. -/
theorem OwnL.strs {w : World} {B g c : Nat} {l : List (List UInt8)} (h : OwnL 9 1 encS w B (.slice (some ⟨g, 0, none⟩) l.length c) l) :
    g < w.heap.size ∧ l.length ≤ c ∧ ∀ (j : Nat) x, (l.map fun y => (⟨y.toArray⟩ : ByteArray))[j]? = some x → w.cell? ⟨g, 0 + j, none⟩ = some (.string x) := by
  rcases h.2 with ⟨hn, h0⟩ | ⟨g', cap, cur, hv, hbg, hg, h1, h2, h3, h4⟩
  · cases hn
  · cases hv
    refine ⟨(Array.getElem?_eq_some_iff.1 hg).1, h1, fun j x hx => ?_⟩
    rw [List.getElem?_map] at hx
    cases hj : l[j]? with
    | none => rw [hj] at hx; simp at hx
    | some y =>
      rw [hj] at hx
      simp at hx
      subst hx
      obtain ⟨hjl, e⟩ := List.getElem?_eq_some_iff.1 hj
      have c1 := World.ownsRow.cells (show w.ownsRow B 9 1 _ _ _ from h) (g := g) rfl _ _ (flat_get elS.len l j hjl 0 (S8 y) (by rw [e]; rfl))
      rw [addr_add0] at c1
      simpa using c1
theorem quote_l (x : List UInt8) (w : World) (hE : Env w) (hs : x.length ≤ 1099511627776) : Calls Tryz.prog 19 #[S8 x] w fun e w' => e = .returned (S8 (Wd.quote x)) ∧ Below w.heap.size w w' := by
  have h := quote_any ⟨x.toArray⟩ w hE (by rw [size_mk]; exact hs)
  simpa using h
theorem bare_l (x : List UInt8) (w : World) (hs : x.length ≤ maxLen) : Calls Tryz.prog 42 #[S8 x] w fun e w' => e = .returned (.bool (Wd.bare x)) ∧ w = w' := by
  have h := isBare_any ⟨x.toArray⟩ w (by rw [size_mk]; exact hs)
  simpa using h
theorem joinS (g c B : Nat) (l : List (List UInt8)) (w : World) (h : OwnL 9 1 encS w B (.slice (some ⟨g, 0, none⟩) l.length c) l) (hn : l.length ≤ 4294967296) (hl : (Lib.join l [32]).length ≤ 140737488355328) :
    Calls Tryz.prog 43 #[.slice (some ⟨g, 0, none⟩) l.length c, .string ⟨#[32]⟩] w fun e w' => e = .returned (S8 (Lib.join l [32])) ∧ Below w.heap.size w w' := by
  obtain ⟨h1, h2, h3⟩ := h.strs
  have em : (l.map fun y => (⟨y.toArray⟩ : ByteArray)).map (·.data.toList) = l := by rw [List.map_map]; simp [Function.comp_def]
  have ej : Lib.join ((l.map fun y => (⟨y.toArray⟩ : ByteArray)).map (·.data.toList)) (⟨#[32]⟩ : ByteArray).data.toList = Lib.join l [32] := by rw [em]
  have hj := Tryz.strings_Join g 0 c (l.map fun y => (⟨y.toArray⟩ : ByteArray)) ⟨#[32]⟩ w h3 h1 (by rw [List.length_map]; omega) (by rw [List.length_map]; exact h2) (by rw [ej]; exact hl)
  rw [ej, List.length_map] at hj
  exact hj
def formOf (l : List Wd.Fld) (k : Nat) : Int := if (l.take k).all Wd.okFld then 0 else 6
theorem formOf_zero (l : List Wd.Fld) : formOf l 0 = 0 := by simp [formOf]
theorem formOf_ok {l : List Wd.Fld} {k : Nat} (hk : k < l.length) (h : Wd.okFld l[k] = true) : formOf l (k + 1) = formOf l k := by
  have e : (l.take (k + 1)).all Wd.okFld = (l.take k).all Wd.okFld := by
    rw [List.take_succ_eq_append_getElem hk, List.all_append, List.all_cons, List.all_nil, h, Bool.and_true, Bool.and_true]
  unfold formOf; rw [e]
theorem formOf_bad {l : List Wd.Fld} {k : Nat} (hk : k < l.length) (h : Wd.okFld l[k] = false) : formOf l (k + 1) = 6 := by
  have e : (l.take (k + 1)).all Wd.okFld = false := by
    rw [List.take_succ_eq_append_getElem hk, List.all_append, List.all_cons, List.all_nil, h, Bool.false_and, Bool.and_false]
  unfold formOf; rw [e]; rfl
theorem formOf_all {l : List Wd.Fld} {k : Nat} (hk : l.length ≤ k) : (formOf l k = 0 ∧ ∀ j (hj : j < l.length), Wd.okFld l[j] = true) ∨ (formOf l k = 6 ∧ ∃ j, ∃ hj : j < l.length, Wd.okFld l[j] = false) := by
  unfold formOf
  rw [List.take_of_length_le hk]
  by_cases h : l.all Wd.okFld = true
  · exact .inl ⟨by rw [if_pos h], fun j hj => by rw [List.all_eq_true] at h; exact h _ (List.getElem_mem _)⟩
  · refine .inr ⟨by rw [if_neg h], ?_⟩
    rw [Bool.not_eq_true, List.all_eq_false] at h
    obtain ⟨x, hx, hn⟩ := h
    obtain ⟨j, hj, rfl⟩ := List.getElem_of_mem hx
    exact ⟨j, hj, by simpa using hn⟩

set_option maxHeartbeats 2000000 in
set_option maxRecDepth 100000 in
theorem Join_any (v : Value) (l : List Wd.Fld) (w : World) (hE : Env w) (h1 : ReadsF w v l) (hl : l.length ≤ 4294967296) :
    Calls Tryz.prog 17 #[v] w fun e w' => e = joinEnd l ∧ Below w.heap.size w w' := by
  by_cases hlong : 64 < l.length
  · have HS := Lib.hid (join_long hlong)
    rcases h1 with ⟨a, cap, rfl, rfl⟩ | ⟨b, o, cap, rfl, hb, hc⟩
    · simp at hlong
    clear hc hE
    go_enter Tryz.func17, Tryz.ntmps17
    go_wp2
    go_ret2
    exact ⟨HS.out.symm, Below.refl _ _⟩
  rcases h1 with ⟨a, cap, rfl, rfl⟩ | ⟨b, o, cap, rfl, hb, hc⟩
  · have HS := Lib.hid (show joinEnd [] = .returned (.tuple #[.string ⟨#[]⟩, .int .i64 0]) from rfl)
    clear hlong hl hE
    go_enter Tryz.func17, Tryz.ntmps17
    go_wp2
    refine wp_loop_rounds 1 ?_
    rw [rounds_succ]
    go_wp2_with (go_at_call 43; refine (Tryz.strings_Join_none _ _ _ _).mono ?_; rintro e w1 ⟨rfl, rfl⟩)
    go_ret2
    exact ⟨HS.out.symm, Below.refl _ _⟩
  have hl64 : l.length ≤ 64 := by omega
  have hcs := Lib.hid hc
  clear hc
  go_enter Tryz.func17, Tryz.ntmps17
  go_wp2
  go_loopw [4, 5, 15] (fun fo v i wr => ∃ k : Nat, k ≤ l.length ∧ i = .int .i64 k ∧ fo = .int .i64 (formOf l k) ∧ OwnL 9 1 encS wr w.heap.size v ((l.take k).map Wd.word) ∧ Below w.heap.size w wr ∧ Hid (∀ j, j < k → (hj : j < l.length) → l[j].1.length ≤ 2000)) (fun _ _ i _ => l.length - (intOf i).toNat)
  case atStart => exact ⟨0, Nat.zero_le _, rfl, by rw [formOf_zero], OwnL.nil _ _, Below.refl _ _, fun j h => absurd h (Nat.not_lt_zero _)⟩
  case round =>
    obtain ⟨k, hk, rfl, rfl, hown, hbr, hno⟩ := hrel
    have hbs := hbr.size
    by_cases hlt : k < l.length
    · have c1 := (hbr.cell (p := ⟨b, o + 2 * k, none⟩) hb).trans (hcs.out k hlt).1
      have c2 := (hbr.cell (p := ⟨b, o + 2 * k + 1, none⟩) hb).trans (hcs.out k hlt).2
      rw [Nat.mul_comm] at c1 c2
      have i1 : (k : Int) < (l.length : Int) := by omega
      by_cases hq : 2000 < l[k].1.length
      · have HS := Lib.hid (join_fld hlong hlt hq)
        go_wp2
        go_ret2
        exact ⟨HS.out.symm, hbr.alloc hbs _⟩
      · have HN : Hid (∀ j, j < k + 1 → (hj : j < l.length) → l[j].1.length ≤ 2000) := by
          intro j hj hjl
          by_cases e : j = k
          · subst e; omega
          · exact hno.out j (by omega) hjl
        have HT : Hid ((l.take (k + 1)).map Wd.word = (l.take k).map Wd.word ++ [Wd.word l[k]]) := by
          show _ = _
          rw [List.take_succ_eq_append_getElem hlt, List.map_append]; rfl
        have HL : Hid (((l.take k).map Wd.word).length = k) := by show _ = _; rw [List.length_map, List.length_take]; omega
        have hfl : l[k].1.length ≤ 2000 := by omega
        cases hq2 : l[k].2 with
        | true =>
          have HW := Lib.hid (show Wd.word l[k] = Wd.quote l[k].1 from by unfold Wd.word; rw [hq2]; rfl)
          have HF := Lib.hid (formOf_ok hlt (show Wd.okFld l[k] = true from by unfold Wd.okFld; rw [hq2]; rfl))
          have HQ := Lib.hid (quote_l l[k].1 (wr.alloc (.cells #[S8 l[k].1, .bool true] 47)) ((hE.below hbr).below ((Below.refl _ _).alloc (Nat.le_refl _) _)) (by omega))
          rw [hq2] at c2
          clear hq2
          go_wp2_with (first | (go_at_call 19; refine HQ.out.mono ?_; rintro e w1 ⟨rfl, hb1⟩; have hown1 := (hown.alloc _).below hb1; have hbr1 := (hbr.alloc hbs _).trans (hb1.mono (by simp; omega)); have hbs1 := hbr1.size) | (at_builtin; refine appL elS _ rfl _ _ rfl w.heap.size _ _ (Wd.word l[k]) rfl (hown1.alloc _) _ 1 rfl (newS _ _ _ _ (by rw [HW.out])) (by rw [List.length_map, List.length_take]; unfold maxLen; omega) (by rw [List.length_map, List.length_take]; omega) (by simp; omega) ?_; rintro v2 w2 hown2 hgr ⟨g2, c2, rfl⟩; have hbr2 := below_appL (hbr1.alloc hbs1 _) (hown1.alloc _) hgr (by simp; omega)))
          go_roundw
          case rel => exact ⟨k + 1, by omega, by go_num, by rw [HF.out], by rw [HL.out] at hown2; rw [HT.out]; exact hown2, hbr2, HN⟩
          case measure => simp [intOf]; omega
        | false =>
          have HW := Lib.hid (show Wd.word l[k] = l[k].1 from by unfold Wd.word; rw [hq2]; rfl)
          have hok : Wd.okFld l[k] = Wd.bare l[k].1 := by unfold Wd.okFld; rw [hq2]; rfl
          have HB := Lib.hid (bare_l l[k].1 (wr.alloc (.cells #[S8 l[k].1, .bool false] 47)) (by unfold maxLen; omega))
          rw [hq2] at c2
          clear hq2
          cases hbv : Wd.bare l[k].1
          all_goals
            rw [hbv] at HB hok
            have HF := Lib.hid hok
            clear hok hbv
            go_wp2_with (first | (go_at_call 42; refine HB.out.mono ?_; rintro e w1 ⟨rfl, rfl⟩) | (at_builtin; refine appL elS _ rfl _ _ rfl w.heap.size _ _ (Wd.word l[k]) rfl ((hown.alloc _).alloc _) _ 1 rfl (newS2 _ _ _ _ _ (by rw [HW.out])) (by rw [List.length_map, List.length_take]; unfold maxLen; omega) (by rw [List.length_map, List.length_take]; omega) (by simp; omega) ?_; rintro v2 w2 hown2 hgr ⟨g2, c2, rfl⟩; have hbr2 := below_appL ((hbr.alloc hbs _).alloc (by simp; omega) _) ((hown.alloc _).alloc _) hgr (by simp; omega)))
            go_roundw
            case rel => exact ⟨k + 1, by omega, by go_num, (by first | rw [formOf_ok hlt HF.out] | rw [formOf_bad hlt HF.out]), by rw [HL.out] at hown2; rw [HT.out]; exact hown2, hbr2, HN⟩
            case measure => simp [intOf]; omega
    · have hal : ∀ j (hj : j < l.length), l[j].1.length ≤ 2000 := fun j hj => hno.out j (by omega) hj
      have hjk := joinK_le hal l.length (Nat.le_refl _)
      rw [joinK_all (Nat.le_refl _)] at hjk
      have eT : l.take k = l := List.take_of_length_le (by omega)
      rw [eT] at hown
      have hkl : k = l.length := by omega
      by_cases hz : l.length = 0
      · have hl0 : l = [] := List.eq_nil_of_length_eq_zero hz
        have HS := Lib.hid (show joinEnd l = .returned (.tuple #[.string ⟨#[]⟩, .int .i64 0]) from by rw [hl0]; rfl)
        have hf : formOf l k = 0 := by rw [hl0]; simp [formOf]
        have hv : ∃ a c, u5 = .slice a 0 c := by
          rcases hown.2 with ⟨h, _⟩ | ⟨g, cap', cur, h, _⟩
          · exact ⟨_, _, h⟩
          · exact ⟨_, _, by rw [h, hl0]; rfl⟩
        obtain ⟨a0, c0, rfl⟩ := hv
        rw [hf]
        clear hno hown hf hl0 hkl eT hjk hal
        go_wp2_with (go_at_call 43; refine (Tryz.strings_Join_none _ _ _ _).mono ?_; rintro e w1 ⟨rfl, rfl⟩)
        go_ret2
        exact ⟨HS.out.symm, hbr⟩
      · have hv : ∃ g c, u5 = .slice (some ⟨g, 0, none⟩) l.length c := by
          rcases hown.2 with ⟨_, h⟩ | ⟨g, cap', cur, h, _⟩
          · rw [List.length_map] at h; exact absurd h hz
          · exact ⟨g, cap', by rw [h, List.length_map]⟩
        obtain ⟨g0, c0, rfl⟩ := hv
        have hj := joinS g0 c0 w.heap.size (l.map Wd.word) wr (by rw [List.length_map]; exact hown) (by rw [List.length_map]; omega) (by omega)
        rw [List.length_map] at hj
        have HJ := Lib.hid hj
        have hfa := formOf_all (l := l) (k := k) (by omega)
        clear hj
        rcases hfa with ⟨hf, hall⟩ | ⟨hf, j, hj, hbad⟩
        · have HD := Lib.hid (join_done hlong hal hall)
          rw [hf]
          clear hno hown hf hkl eT hal hall
          by_cases h8 : 8192 < (Lib.join (l.map Wd.word) [32]).length
          · have HS := Lib.hid (HD.out.1 h8)
            clear HD
            go_wp2_with (go_at_call 43; refine HJ.out.mono ?_; rintro e w1 ⟨rfl, hb1⟩; have hbr1 := hbr.trans (hb1.mono hbs))
            go_ret2
            exact ⟨HS.out.symm, hbr1⟩
          · have HS := Lib.hid (HD.out.2 h8)
            clear HD
            go_wp2_with (go_at_call 43; refine HJ.out.mono ?_; rintro e w1 ⟨rfl, hb1⟩; have hbr1 := hbr.trans (hb1.mono hbs))
            go_ret2
            exact ⟨by rw [HS.out]; rfl, hbr1⟩
        · have HS := Lib.hid (join_form hlong hal hj hbad)
          rw [hf]
          clear hno hown hf hkl eT hal hbad
          go_wp2_with (go_at_call 43; refine HJ.out.mono ?_; rintro e w1 ⟨rfl, hb1⟩; have hbr1 := hbr.trans (hb1.mono hbs))
          go_ret2
          exact ⟨HS.out.symm, hbr1⟩
end Go.Proofs.YtffkohdnhaebjaaGreatDoor
