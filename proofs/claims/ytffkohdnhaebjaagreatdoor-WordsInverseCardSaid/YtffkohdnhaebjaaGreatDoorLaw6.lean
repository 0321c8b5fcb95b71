/-
  Walks: the statement WordsInverse.
-/
import Derived.Test.YtffkohdnhaebjaaGreatDoorLaw4
import Derived.Test.YtffkohdnhaebjaaGreatDoorPlainB
import Derived.Test.YtffkohdnhaebjaaGreatDoorW24
import Derived.Test.YtffkohdnhaebjaaGreatDoorW15
import Derived.Test.YtffkohdnhaebjaaGreatDoorReg3
import Derived.Deep.DeepCutAuto
import Derived.Deep.Cut
namespace Go.Proofs.YtffkohdnhaebjaaGreatDoor
open Go.RowKit Go.Shelf

theorem sS8 (s : ByteArray) : S8 s.data.toList = .string s := by unfold S8; congr
theorem int_rng {l : List UInt8} {lo hi k : Int} (h : Wd.intOfStr l lo hi = (k, 0)) : lo ≤ k ∧ k ≤ hi := by
  unfold Wd.intOfStr at h
  split at h
  · split at h
    · rename_i hx
      simp only [Prod.mk.injEq, and_true] at h
      rw [← h]; exact ⟨hx.2.2.1, hx.2.2.2⟩
    · simp at h
  · simp at h
theorem split_fld (l : List UInt8) : (Wd.split l).1.length ≤ 64 := split_le l

set_option maxHeartbeats 16000000 in
set_option maxRecDepth 100000 in
theorem lawInverse (s : ByteArray) (v : Value) (l : List Wd.Fld) (u : Value) (m : List Int) (n : Int) (w : World) (hE : EnvP w) (h : ReadsF w v l ∧ l.length ≤ 5864062014805) (h' : ReadsL 1 encI w u m ∧ m.length ≤ 17592186044416)
    (hn1 : -9223372036854775808 ≤ n) (hn2 : n ≤ 9223372036854775807) (hs0 : s.size ≤ 140737488351232) :
    Calls Tryz.prog 5 #[.string s, v, .agg #[u, .int .i64 n]] w (TrueB w) := by
  obtain ⟨h1, hl⟩ := h
  obtain ⟨h2, hm⟩ := h'
  have hb0 : Below w.heap.size w (w.alloc (.cells #[u, .int .i64 n] 39)) := (Below.refl _ _).alloc (Nat.le_refl _) _
  have c0 : (w.alloc (.cells #[u, .int .i64 n] 39)).cell? ⟨w.heap.size, 0, none⟩ = some u := by rw [World.cell?_alloc_at _ _ _ _ rfl]; rfl
  have c1 : (w.alloc (.cells #[u, .int .i64 n] 39)).cell? ⟨w.heap.size, 1, none⟩ = some (.int .i64 n) := by rw [World.cell?_alloc_at _ _ _ _ rfl]; rfl
  have hsz : w.heap.size < (w.alloc (.cells #[u, .int .i64 n] 39)).heap.size := by simp
  have hE0 := hE.below hb0
  have h1' := h1.below hb0
  have h2' := h2.below hb0
  obtain ⟨ua, uc, rfl⟩ := h2.len
  clear h1 h2 hE
  go_enter Tryz.func5, Tryz.ntmps5
  by_cases hbig : 3000 < s.size
  · clear c0 c1 h1' h2'
    go_wp2_with fail
    refine (shown_any _ hE0.env).mono ?_
    rintro e w99 ⟨rfl, hx⟩
    go_wp2
    go_ret
    exact ⟨rfl, hb0.trans (hx.mono (Nat.le_of_lt hsz))⟩
  have i0 : ¬ (3000 : Int) < (s.size : Int) := by omega
  go_wp2_with fail
  generalize w.alloc (.cells #[.slice ua m.length uc, .int .i64 n] 39) = w0 at *
  refine (far_any v l _ h1' hl).mono ?_
  rintro e w1 ⟨rfl, hb1⟩
  cases hf : Wd.farL l with
  | true =>
    clear c0 c1 h1' h2' hf
    go_wp2_with fail; refine (shown_any _ (hE0.env.below hb1)).mono ?_; rintro e w99 ⟨rfl, hx⟩; have hb99 := hb1.trans (hx.mono hb1.size); go_wp2; go_ret; exact ⟨rfl, hb0.trans (hb99.mono (Nat.le_of_lt hsz))⟩
  | false =>
  have hl70 := (Wd.far_false hf).1
  have k0 := (hb1.cell (p := ⟨w.heap.size, 0, none⟩) hsz).trans c0
  clear hf hl
  by_cases hm5 : 510 < m.length
  · clear c0 c1 h1' h2'
    go_wp2_with fail; refine (shown_any _ (hE0.env.below hb1)).mono ?_; rintro e w99 ⟨rfl, hx⟩; have hb99 := hb1.trans (hx.mono hb1.size); go_wp2; go_ret; exact ⟨rfl, hb0.trans (hb99.mono (Nat.le_of_lt hsz))⟩
  have i5 : ¬ (510 : Int) < (m.length : Int) := by omega
  -- Split, Join
  have HSP := Lib.hid fun (w' : World) (hb : Below w0.heap.size w0 w') => Split_any s w' (hE0.env.below hb) (by omega)
  have HJN := Lib.hid fun (x : Value) (f : List Wd.Fld) (w' : World) (hb : Below w0.heap.size w0 w') (hr : ReadsF w' x f) (hf : f.length ≤ 4294967296) => Join_any x f w' (hE0.env.below hb) hr hf
  have HJS := Lib.hid (fun f => @Wd.join_split s.data.toList f)
  have hle := split_le s.data.toList
  unfold SplitPost at HSP
  unfold joinEnd at HJN
  generalize Wd.split s.data.toList = p at HSP HJS hle
  obtain ⟨f, e1⟩ := p
  dsimp only at HSP hle
  go_wp2_with fail
  refine (HSP.out _ hb1).mono ?_
  rintro e w2 ⟨⟨vf, rfl, hrf⟩, hx⟩
  have hb2 := hb1.trans (hx.mono hb1.size)
  clear hx HSP hb1 k0
  go_upto_if 45 with fail
  go_cut [6] (fun r wx => r = .bool false ∧ Below w0.heap.size w0 wx)
  case first =>
    by_cases he : e1 = 0
    · subst he
      have hj := HJS.out _ rfl
      go_wp2_with fail
      refine (HJN.out _ f _ hb2 hrf (by omega)).mono ?_
      rw [hj]
      dsimp only
      rw [sS8]
      rintro e w3 ⟨rfl, hx⟩
      have hb3 := hb2.trans (hx.mono hb2.size)
      go_wp2_with fail
      go_meet
      exact ⟨rfl, hb3⟩
    · have he' : (e1 == 0) = false := by rw [beq_eq_false_iff_ne]; exact he
      go_wp2_with fail
      go_meet
      exact ⟨rfl, hb2⟩
  case rest =>
  obtain ⟨rfl, hb3⟩ := hcut
  clear hb2 hrf hle HJS
  have hjl := Wd.join_len l
  have HSJ := Lib.hid (fun t => @Wd.split_join l t)
  have HJL := Lib.hid fun (w' : World) (hb : Below w0.heap.size w0 w') => HJN.out v l w' hb (h1'.below hb) (by omega)
  have HSM := Lib.hid fun (x : Value) (w' : World) (hb : Below w0.heap.size w0 w') (hr : ReadsF w' x l) => rSame_any x v l l w' hr (h1'.below hb) (by omega) (by omega)
  generalize Wd.join l = p at hjl HSJ HJL
  obtain ⟨t, e2⟩ := p
  dsimp only at hjl HJL
  clear HJN
  go_wp2_with fail
  refine (HJL.out _ hb3).mono ?_
  rintro e w4 ⟨rfl, hx⟩
  have hb4 := hb3.trans (hx.mono hb3.size)
  clear hx HJL hb3
  go_upto_if 64 with fail
  go_cut [6] (fun r wx => r = .bool false ∧ Below w0.heap.size w0 wx)
  case first =>
    by_cases he : e2 = 0
    · subst he
      have hj := HSJ.out _ rfl
      have HST := Split_any ⟨t.toArray⟩ w4 (hE0.env.below hb4) (by rw [size_mk]; omega)
      unfold SplitPost at HST
      rw [show (⟨t.toArray⟩ : ByteArray).data.toList = t from by simp, hj] at HST
      have HST := Lib.hid HST
      go_wp2_with fail
      refine HST.out.mono ?_
      rintro e w5 ⟨⟨vg, rfl, hrg⟩, hx⟩
      have hb5 := hb4.trans (hx.mono hb4.size)
      go_wp2_with fail
      refine (HSM.out _ _ hb5 hrg).mono ?_
      rw [show (l == l) = true from by simp]
      rintro e w6 ⟨rfl, hx6⟩
      have hb6 := hb5.trans (hx6.mono hb5.size)
      go_wp2_with fail
      go_meet
      exact ⟨rfl, hb6⟩
    · have he' : (e2 == 0) = false := by rw [beq_eq_false_iff_ne]; exact he
      go_wp2_with fail
      go_meet
      exact ⟨rfl, hb4⟩
  case rest =>
  obtain ⟨rfl, hb5⟩ := hcut
  clear hb4 hjl HSJ HSM h1'
  -- Quote, Unquote
  have hql := Wd.quote_len s.data.toList
  rw [← size_list] at hql
  have HQ := Lib.hid fun (w' : World) (hb : Below w0.heap.size w0 w') => quote_any s w' (hE0.env.below hb) (by omega)
  have hUQ : ∀ (w' : World) (hb : Below w0.heap.size w0 w'), Calls Tryz.prog 13 #[.string ⟨(Wd.quote s.data.toList).toArray⟩] w' fun e w'' => e = .returned (.tuple #[.string s, .int .i64 0]) ∧ Below w'.heap.size w' w'' := by
    intro w' hb
    have hx := Unquote_any ⟨(Wd.quote s.data.toList).toArray⟩ w' (hE0.env.below hb) (by rw [size_mk]; omega)
    unfold unquoteEnd at hx
    rw [show (⟨(Wd.quote s.data.toList).toArray⟩ : ByteArray).data.toList = Wd.quote s.data.toList from by simp, Wd.unquote_quote] at hx
    exact hx
  have HUQ := Lib.hid hUQ
  clear hUQ
  generalize (⟨(Wd.quote s.data.toList).toArray⟩ : ByteArray) = qs at HQ HUQ
  clear hql
  have hU : ∃ (t : ByteArray) (g : Int), unquoteEnd s.data.toList = .returned (.tuple #[.string t, .int .i64 g]) ∧ (g = 0 → t.size ≤ 3000 ∧ (⟨(Wd.quote t.data.toList).toArray⟩ : ByteArray) = s) := by
    unfold unquoteEnd
    cases hu : Wd.unquote s.data.toList with
    | none => exact ⟨_, _, rfl, fun h => by omega⟩
    | some t =>
      refine ⟨⟨t.toArray⟩, 0, rfl, fun _ => ?_⟩
      have hq := Wd.quote_unquote hu
      have e0 : (⟨t.toArray⟩ : ByteArray).data.toList = t := by simp
      refine ⟨?_, by rw [e0, hq]⟩
      have h3 := congrArg List.length hq
      rw [← size_list] at h3
      have h4 : t.length ≤ (t.flatMap Wd.esc).length := by
        clear hq hu h3 e0
        induction t with
        | nil => simp
        | cons c r ih =>
          have hp : 1 ≤ (Wd.esc c).length := by unfold Wd.esc; split <;> (try split) <;> simp
          simp only [List.flatMap_cons, List.length_append, List.length_cons]
          omega
      simp only [Wd.quote, List.length_cons, List.length_append] at h3
      rw [size_mk]; omega
  obtain ⟨tu, g, hue, hug⟩ := hU
  have HU := Lib.hid fun (w' : World) (hb : Below w0.heap.size w0 w') => Unquote_any s w' (hE0.env.below hb) (by omega)
  rw [hue] at HU
  have HUG := Lib.hid hug
  clear hue hug
  go_wp2_with fail
  refine (HQ.out _ hb5).mono ?_
  rintro e w6 ⟨rfl, hx⟩
  have hb6 := hb5.trans (hx.mono hb5.size)
  go_wp2_with fail
  refine (HUQ.out _ hb6).mono ?_
  rintro e w7 ⟨rfl, hx7⟩
  have hb7 := hb6.trans (hx7.mono hb6.size)
  clear hx hx7 HQ HUQ hb5 hb6
  go_wp2_with fail
  refine (HU.out _ hb7).mono ?_
  rintro e w8 ⟨rfl, hx⟩
  have hb8 := hb7.trans (hx.mono hb7.size)
  clear hx HU hb7
  go_upto_region 15 with fail
  go_cut [105] (fun r wx => r = .bool false ∧ Below w0.heap.size w0 wx)
  case first =>
    by_cases he : g = 0
    · subst he
      obtain ⟨htl, htq⟩ := HUG.out rfl
      have HQT := quote_any tu w8 (hE0.env.below hb8) (by omega)
      rw [htq] at HQT
      have HQT := Lib.hid HQT
      go_wp2_with fail
      refine HQT.out.mono ?_
      rintro e w9 ⟨rfl, hx⟩
      have hb9 := hb8.trans (hx.mono hb8.size)
      go_wp2_with fail
      go_meet
      exact ⟨rfl, hb9⟩
    · have he' : (g == 0) = false := by rw [beq_eq_false_iff_ne]; exact he
      go_wp2_with fail
      go_meet
      exact ⟨rfl, hb8⟩
  case rest =>
  obtain ⟨rfl, hb9⟩ := hcut
  clear hb8 HUG
  -- List, ParseList
  have htl := Wd.listTxt_len m
  have HPL := Lib.hid (fun t => @Wd.parse_list m t)
  have HLI := Lib.hid fun (w' : World) (hb : Below w0.heap.size w0 w') => List_any _ m w' (hE0.env.below hb) (h2'.below hb) (by omega)
  have HLM := Lib.hid fun (x : Value) (w' : World) (hb : Below w0.heap.size w0 w') (hr : ReadsL 1 encI w' x m) => lists_same x _ m w' hr (h2'.below hb) (by omega)
  unfold listEnd at HLI
  generalize Wd.listTxt m = p at htl HPL HLI
  obtain ⟨tx, e3⟩ := p
  dsimp only at htl HLI
  have k0 := (hb9.cell (p := ⟨w.heap.size, 0, none⟩) hsz).trans c0
  go_wp2_with fail
  refine (HLI.out _ hb9).mono ?_
  rintro e w10 ⟨rfl, hx⟩
  have hb10 := hb9.trans (hx.mono hb9.size)
  clear hx HLI hb9 k0
  go_upto_if 113 with fail
  go_cut [6] (fun r wx => r = .bool false ∧ Below w0.heap.size w0 wx)
  case first =>
    by_cases he : e3 = 0
    · subst he
      have hj := HPL.out _ rfl
      have HST := ParseList_any ⟨tx.toArray⟩ w10 (hE0.below hb10) (by rw [size_mk]; omega)
      unfold ParsePost at HST
      rw [show (⟨tx.toArray⟩ : ByteArray).data.toList = tx from by simp, hj] at HST
      have HST := Lib.hid HST
      go_wp2_with fail
      refine HST.out.mono ?_
      rintro e w11 ⟨⟨vg, rfl, hrg⟩, hx⟩
      have hb11 := hb10.trans (hx.mono hb10.size)
      have k0 := (hb11.cell (p := ⟨w.heap.size, 0, none⟩) hsz).trans c0
      go_wp2_with fail
      refine (HLM.out _ _ hb11 hrg).mono ?_
      rintro e w12 ⟨rfl, hx12⟩
      have hb12 := hb11.trans (hx12.mono hb11.size)
      go_wp2_with fail
      go_meet
      exact ⟨rfl, hb12⟩
    · have he' : (e3 == 0) = false := by rw [beq_eq_false_iff_ne]; exact he
      go_wp2_with fail
      go_meet
      exact ⟨rfl, hb10⟩
  case rest =>
  obtain ⟨rfl, hb11⟩ := hcut
  clear hb10 htl HPL HLM h2' c0
  have hpl := parse_le s.data.toList
  have HLP := Lib.hid (fun t => @Wd.list_parse s.data.toList t)
  have HPA := Lib.hid fun (w' : World) (hb : Below w0.heap.size w0 w') => ParseList_any s w' (hE0.below hb) (by omega)
  unfold ParsePost at HPA
  generalize Wd.parseList s.data.toList = p at hpl HLP HPA
  obtain ⟨ml, e4⟩ := p
  dsimp only at hpl HPA
  go_wp2_with fail
  refine (HPA.out _ hb11).mono ?_
  rintro e w12 ⟨⟨vm, rfl, hrm⟩, hx⟩
  have hb12 := hb11.trans (hx.mono hb11.size)
  clear hx HPA hb11
  go_upto_if 134 with fail
  go_cut [6] (fun r wx => r = .bool false ∧ Below w0.heap.size w0 wx)
  case first =>
    by_cases he : e4 = 0
    · subst he
      have hj := HLP.out _ rfl
      have HLI := List_any vm ml w12 (hE0.env.below hb12) hrm (by omega)
      unfold listEnd at HLI
      rw [hj] at HLI
      dsimp only at HLI
      rw [sS8] at HLI
      have HLI := Lib.hid HLI
      go_wp2_with fail
      refine HLI.out.mono ?_
      rintro e w13 ⟨rfl, hx⟩
      have hb13 := hb12.trans (hx.mono hb12.size)
      go_wp2_with fail
      go_meet
      exact ⟨rfl, hb13⟩
    · have he' : (e4 == 0) = false := by rw [beq_eq_false_iff_ne]; exact he
      go_wp2_with fail
      go_meet
      exact ⟨rfl, hb12⟩
  case rest =>
  obtain ⟨rfl, hb13⟩ := hcut
  clear hb12 hpl HLP hrm
  -- Int, Digits
  have HDG := Lib.hid fun (w' : World) (hE : EnvP w') => digits_any n hn1 hn2 w' hE.env
  have hil := Lib.itoa_length_le n hn1 hn2
  have hIN : ∀ (w' : World) (hE : EnvP w'), Calls Tryz.prog 12 #[.string ⟨(Lib.itoa n).toArray⟩, .int .i64 n, .int .i64 n] w' fun e w'' => e = .returned (.tuple #[.int .i64 n, .int .i64 0]) ∧ Below w'.heap.size w' w'' := by
    intro w' hE
    have hx := int_any ⟨(Lib.itoa n).toArray⟩ n n w' hE.env (by rw [size_mk]; omega)
    unfold intEnd at hx
    rw [show (⟨(Lib.itoa n).toArray⟩ : ByteArray).data.toList = Lib.itoa n from by simp, Wd.int_itoa hn1 hn2] at hx
    exact hx
  have HIN := Lib.hid hIN
  have hEr : EnvP wc.drew := (hE0.below hb13).below (Below.drew (Below.refl _ _))
  have k1 := (hb13.cell (p := ⟨w.heap.size, 1, none⟩) hsz).trans c1
  have hszr : w.heap.size < wc.heap.size := Nat.lt_of_lt_of_le hsz hb13.size
  clear hIN hil
  go_wp2_with fail
  refine wp_region_inv_r (fun a0 w0 D a wv => ∃ u148 u149 u150 u151 u152 u153 u154 u155 u147 u156 u157 u23 u8 : Value, a = putAll a0 [(148, u148), (149, u149), (150, u150), (151, u151), (152, u152), (153, u153), (154, u154), (155, u155), (147, u147), (156, u156), (157, u157), (23, u23), (8, u8)] ∧ Below w0.heap.size w0 wv ∧ Hid (D 0 → u148 = .pointer (some ⟨w.heap.size, 1, none⟩)) ∧ Hid (D 1 → u149 = .int .i64 n) ∧ Hid (D 2 → u150 = .string ⟨(Lib.itoa n).toArray⟩) ∧ Hid (D 3 → u151 = .pointer (some ⟨w.heap.size, 1, none⟩)) ∧ Hid (D 4 → u152 = .int .i64 n) ∧ Hid (D 5 → u153 = .pointer (some ⟨w.heap.size, 1, none⟩)) ∧ Hid (D 6 → u154 = .int .i64 n) ∧ Hid (D 7 → u155 = .tuple #[.int .i64 n, .int .i64 0]) ∧ Hid (D 8 → u147 = .tuple #[.int .i64 n, .int .i64 0]) ∧ Hid (D 9 → u156 = .int .i64 n) ∧ Hid (D 10 → u157 = .int .i64 0) ∧ Hid (D 11 → u23 = .int .i64 n) ∧ Hid (D 12 → u8 = .int .i64 0)) (fun m i => match m with | .gc => (if i = 10 then 11 else if i = 11 then 10 else i) | _ => i) (by intro m; cases m <;> rfl) ?_ ?_ ?_
  ·
    simp only [putAll, List.setIfInBounds_toArray, List.set_cons_succ, List.set_cons_zero]
    exact ⟨_, _, _, _, _, _, _, _, _, _, _, _, _, rfl, Below.refl _ _, fun h => h.elim, fun h => h.elim, fun h => h.elim, fun h => h.elim, fun h => h.elim, fun h => h.elim, fun h => h.elim, fun h => h.elim, fun h => h.elim, fun h => h.elim, fun h => h.elim, fun h => h.elim, fun h => h.elim⟩
  ·
    simp only [putAll, List.setIfInBounds_toArray, List.set_cons_succ, List.set_cons_zero]
    refine StepsAll.cons ?_ (StepsAll.cons ?_ (StepsAll.cons ?_ (StepsAll.cons ?_ (StepsAll.cons ?_ (StepsAll.cons ?_ (StepsAll.cons ?_ (StepsAll.cons ?_ (StepsAll.cons ?_ (StepsAll.cons ?_ (StepsAll.cons ?_ (StepsAll.cons ?_ (StepsAll.cons ?_ StepsAll.nil))))))))))))
    · rintro D a wg ⟨u148, u149, u150, u151, u152, u153, u154, u155, u147, u156, u157, u23, u8, rfl, hbr, f0, f1, f2, f3, f4, f5, f6, f7, f8, f9, f10, f11, f12⟩ hnd hd
      clear hd
      go_wp2_with (first | (go_at_call 20; refine (HDG.out _ (hEr.below hbr)).mono ?_; rintro e wn ⟨rfl, hnew⟩) | (go_at_call 12; refine (HIN.out _ (hEr.below hbr)).mono ?_; rintro e wn ⟨rfl, hnew⟩))
      refine ⟨_, _, _, _, _, _, _, _, _, _, _, _, _, rfl, hbr, ?_, ?_, ?_, ?_, ?_, ?_, ?_, ?_, ?_, ?_, ?_, ?_, ?_⟩
      · first | exact rfl | exact fun _ => rfl
      · first | exact f1 | exact fun h => h.elim f1.out (fun e => absurd e (by decide))
      · first | exact f2 | exact fun h => h.elim f2.out (fun e => absurd e (by decide))
      · first | exact f3 | exact fun h => h.elim f3.out (fun e => absurd e (by decide))
      · first | exact f4 | exact fun h => h.elim f4.out (fun e => absurd e (by decide))
      · first | exact f5 | exact fun h => h.elim f5.out (fun e => absurd e (by decide))
      · first | exact f6 | exact fun h => h.elim f6.out (fun e => absurd e (by decide))
      · first | exact f7 | exact fun h => h.elim f7.out (fun e => absurd e (by decide))
      · first | exact f8 | exact fun h => h.elim f8.out (fun e => absurd e (by decide))
      · first | exact f9 | exact fun h => h.elim f9.out (fun e => absurd e (by decide))
      · first | exact f10 | exact fun h => h.elim f10.out (fun e => absurd e (by decide))
      · first | exact f11 | exact fun h => h.elim f11.out (fun e => absurd e (by decide))
      · first | exact f12 | exact fun h => h.elim f12.out (fun e => absurd e (by decide))
    · rintro D a wg ⟨u148, u149, u150, u151, u152, u153, u154, u155, u147, u156, u157, u23, u8, rfl, hbr, f0, f1, f2, f3, f4, f5, f6, f7, f8, f9, f10, f11, f12⟩ hnd hd
      have d0 := hd 0 (by decide)
      obtain rfl := f0.out d0
      clear hd
      have k1x := (hbr.cell (p := ⟨w.heap.size, 1, none⟩) hszr).trans k1
      go_wp2_with (first | (go_at_call 20; refine (HDG.out _ (hEr.below hbr)).mono ?_; rintro e wn ⟨rfl, hnew⟩) | (go_at_call 12; refine (HIN.out _ (hEr.below hbr)).mono ?_; rintro e wn ⟨rfl, hnew⟩))
      refine ⟨_, _, _, _, _, _, _, _, _, _, _, _, _, rfl, hbr, ?_, ?_, ?_, ?_, ?_, ?_, ?_, ?_, ?_, ?_, ?_, ?_, ?_⟩
      · first | exact fun _ => rfl | exact rfl
      · first | exact rfl | exact fun _ => rfl
      · first | exact f2 | exact fun h => h.elim f2.out (fun e => absurd e (by decide))
      · first | exact f3 | exact fun h => h.elim f3.out (fun e => absurd e (by decide))
      · first | exact f4 | exact fun h => h.elim f4.out (fun e => absurd e (by decide))
      · first | exact f5 | exact fun h => h.elim f5.out (fun e => absurd e (by decide))
      · first | exact f6 | exact fun h => h.elim f6.out (fun e => absurd e (by decide))
      · first | exact f7 | exact fun h => h.elim f7.out (fun e => absurd e (by decide))
      · first | exact f8 | exact fun h => h.elim f8.out (fun e => absurd e (by decide))
      · first | exact f9 | exact fun h => h.elim f9.out (fun e => absurd e (by decide))
      · first | exact f10 | exact fun h => h.elim f10.out (fun e => absurd e (by decide))
      · first | exact f11 | exact fun h => h.elim f11.out (fun e => absurd e (by decide))
      · first | exact f12 | exact fun h => h.elim f12.out (fun e => absurd e (by decide))
    · rintro D a wg ⟨u148, u149, u150, u151, u152, u153, u154, u155, u147, u156, u157, u23, u8, rfl, hbr, f0, f1, f2, f3, f4, f5, f6, f7, f8, f9, f10, f11, f12⟩ hnd hd
      have d1 := hd 1 (by decide)
      obtain rfl := f1.out d1
      clear hd
      go_wp2_with (first | (go_at_call 20; refine (HDG.out _ (hEr.below hbr)).mono ?_; rintro e wn ⟨rfl, hnew⟩) | (go_at_call 12; refine (HIN.out _ (hEr.below hbr)).mono ?_; rintro e wn ⟨rfl, hnew⟩))
      refine ⟨_, _, _, _, _, _, _, _, _, _, _, _, _, rfl, hbr.trans (hnew.mono hbr.size), ?_, ?_, ?_, ?_, ?_, ?_, ?_, ?_, ?_, ?_, ?_, ?_, ?_⟩
      · first | exact f0 | exact fun h => h.elim f0.out (fun e => absurd e (by decide))
      · first | exact fun _ => rfl | exact rfl
      · first | exact rfl | exact fun _ => rfl
      · first | exact f3 | exact fun h => h.elim f3.out (fun e => absurd e (by decide))
      · first | exact f4 | exact fun h => h.elim f4.out (fun e => absurd e (by decide))
      · first | exact f5 | exact fun h => h.elim f5.out (fun e => absurd e (by decide))
      · first | exact f6 | exact fun h => h.elim f6.out (fun e => absurd e (by decide))
      · first | exact f7 | exact fun h => h.elim f7.out (fun e => absurd e (by decide))
      · first | exact f8 | exact fun h => h.elim f8.out (fun e => absurd e (by decide))
      · first | exact f9 | exact fun h => h.elim f9.out (fun e => absurd e (by decide))
      · first | exact f10 | exact fun h => h.elim f10.out (fun e => absurd e (by decide))
      · first | exact f11 | exact fun h => h.elim f11.out (fun e => absurd e (by decide))
      · first | exact f12 | exact fun h => h.elim f12.out (fun e => absurd e (by decide))
    · rintro D a wg ⟨u148, u149, u150, u151, u152, u153, u154, u155, u147, u156, u157, u23, u8, rfl, hbr, f0, f1, f2, f3, f4, f5, f6, f7, f8, f9, f10, f11, f12⟩ hnd hd
      clear hd
      go_wp2_with (first | (go_at_call 20; refine (HDG.out _ (hEr.below hbr)).mono ?_; rintro e wn ⟨rfl, hnew⟩) | (go_at_call 12; refine (HIN.out _ (hEr.below hbr)).mono ?_; rintro e wn ⟨rfl, hnew⟩))
      refine ⟨_, _, _, _, _, _, _, _, _, _, _, _, _, rfl, hbr, ?_, ?_, ?_, ?_, ?_, ?_, ?_, ?_, ?_, ?_, ?_, ?_, ?_⟩
      · first | exact f0 | exact fun h => h.elim f0.out (fun e => absurd e (by decide))
      · first | exact f1 | exact fun h => h.elim f1.out (fun e => absurd e (by decide))
      · first | exact f2 | exact fun h => h.elim f2.out (fun e => absurd e (by decide))
      · first | exact rfl | exact fun _ => rfl
      · first | exact f4 | exact fun h => h.elim f4.out (fun e => absurd e (by decide))
      · first | exact f5 | exact fun h => h.elim f5.out (fun e => absurd e (by decide))
      · first | exact f6 | exact fun h => h.elim f6.out (fun e => absurd e (by decide))
      · first | exact f7 | exact fun h => h.elim f7.out (fun e => absurd e (by decide))
      · first | exact f8 | exact fun h => h.elim f8.out (fun e => absurd e (by decide))
      · first | exact f9 | exact fun h => h.elim f9.out (fun e => absurd e (by decide))
      · first | exact f10 | exact fun h => h.elim f10.out (fun e => absurd e (by decide))
      · first | exact f11 | exact fun h => h.elim f11.out (fun e => absurd e (by decide))
      · first | exact f12 | exact fun h => h.elim f12.out (fun e => absurd e (by decide))
    · rintro D a wg ⟨u148, u149, u150, u151, u152, u153, u154, u155, u147, u156, u157, u23, u8, rfl, hbr, f0, f1, f2, f3, f4, f5, f6, f7, f8, f9, f10, f11, f12⟩ hnd hd
      have d3 := hd 3 (by decide)
      obtain rfl := f3.out d3
      clear hd
      have k1x := (hbr.cell (p := ⟨w.heap.size, 1, none⟩) hszr).trans k1
      go_wp2_with (first | (go_at_call 20; refine (HDG.out _ (hEr.below hbr)).mono ?_; rintro e wn ⟨rfl, hnew⟩) | (go_at_call 12; refine (HIN.out _ (hEr.below hbr)).mono ?_; rintro e wn ⟨rfl, hnew⟩))
      refine ⟨_, _, _, _, _, _, _, _, _, _, _, _, _, rfl, hbr, ?_, ?_, ?_, ?_, ?_, ?_, ?_, ?_, ?_, ?_, ?_, ?_, ?_⟩
      · first | exact f0 | exact fun h => h.elim f0.out (fun e => absurd e (by decide))
      · first | exact f1 | exact fun h => h.elim f1.out (fun e => absurd e (by decide))
      · first | exact f2 | exact fun h => h.elim f2.out (fun e => absurd e (by decide))
      · first | exact fun _ => rfl | exact rfl
      · first | exact rfl | exact fun _ => rfl
      · first | exact f5 | exact fun h => h.elim f5.out (fun e => absurd e (by decide))
      · first | exact f6 | exact fun h => h.elim f6.out (fun e => absurd e (by decide))
      · first | exact f7 | exact fun h => h.elim f7.out (fun e => absurd e (by decide))
      · first | exact f8 | exact fun h => h.elim f8.out (fun e => absurd e (by decide))
      · first | exact f9 | exact fun h => h.elim f9.out (fun e => absurd e (by decide))
      · first | exact f10 | exact fun h => h.elim f10.out (fun e => absurd e (by decide))
      · first | exact f11 | exact fun h => h.elim f11.out (fun e => absurd e (by decide))
      · first | exact f12 | exact fun h => h.elim f12.out (fun e => absurd e (by decide))
    · rintro D a wg ⟨u148, u149, u150, u151, u152, u153, u154, u155, u147, u156, u157, u23, u8, rfl, hbr, f0, f1, f2, f3, f4, f5, f6, f7, f8, f9, f10, f11, f12⟩ hnd hd
      clear hd
      go_wp2_with (first | (go_at_call 20; refine (HDG.out _ (hEr.below hbr)).mono ?_; rintro e wn ⟨rfl, hnew⟩) | (go_at_call 12; refine (HIN.out _ (hEr.below hbr)).mono ?_; rintro e wn ⟨rfl, hnew⟩))
      refine ⟨_, _, _, _, _, _, _, _, _, _, _, _, _, rfl, hbr, ?_, ?_, ?_, ?_, ?_, ?_, ?_, ?_, ?_, ?_, ?_, ?_, ?_⟩
      · first | exact f0 | exact fun h => h.elim f0.out (fun e => absurd e (by decide))
      · first | exact f1 | exact fun h => h.elim f1.out (fun e => absurd e (by decide))
      · first | exact f2 | exact fun h => h.elim f2.out (fun e => absurd e (by decide))
      · first | exact f3 | exact fun h => h.elim f3.out (fun e => absurd e (by decide))
      · first | exact f4 | exact fun h => h.elim f4.out (fun e => absurd e (by decide))
      · first | exact rfl | exact fun _ => rfl
      · first | exact f6 | exact fun h => h.elim f6.out (fun e => absurd e (by decide))
      · first | exact f7 | exact fun h => h.elim f7.out (fun e => absurd e (by decide))
      · first | exact f8 | exact fun h => h.elim f8.out (fun e => absurd e (by decide))
      · first | exact f9 | exact fun h => h.elim f9.out (fun e => absurd e (by decide))
      · first | exact f10 | exact fun h => h.elim f10.out (fun e => absurd e (by decide))
      · first | exact f11 | exact fun h => h.elim f11.out (fun e => absurd e (by decide))
      · first | exact f12 | exact fun h => h.elim f12.out (fun e => absurd e (by decide))
    · rintro D a wg ⟨u148, u149, u150, u151, u152, u153, u154, u155, u147, u156, u157, u23, u8, rfl, hbr, f0, f1, f2, f3, f4, f5, f6, f7, f8, f9, f10, f11, f12⟩ hnd hd
      have d5 := hd 5 (by decide)
      obtain rfl := f5.out d5
      clear hd
      have k1x := (hbr.cell (p := ⟨w.heap.size, 1, none⟩) hszr).trans k1
      go_wp2_with (first | (go_at_call 20; refine (HDG.out _ (hEr.below hbr)).mono ?_; rintro e wn ⟨rfl, hnew⟩) | (go_at_call 12; refine (HIN.out _ (hEr.below hbr)).mono ?_; rintro e wn ⟨rfl, hnew⟩))
      refine ⟨_, _, _, _, _, _, _, _, _, _, _, _, _, rfl, hbr, ?_, ?_, ?_, ?_, ?_, ?_, ?_, ?_, ?_, ?_, ?_, ?_, ?_⟩
      · first | exact f0 | exact fun h => h.elim f0.out (fun e => absurd e (by decide))
      · first | exact f1 | exact fun h => h.elim f1.out (fun e => absurd e (by decide))
      · first | exact f2 | exact fun h => h.elim f2.out (fun e => absurd e (by decide))
      · first | exact f3 | exact fun h => h.elim f3.out (fun e => absurd e (by decide))
      · first | exact f4 | exact fun h => h.elim f4.out (fun e => absurd e (by decide))
      · first | exact fun _ => rfl | exact rfl
      · first | exact rfl | exact fun _ => rfl
      · first | exact f7 | exact fun h => h.elim f7.out (fun e => absurd e (by decide))
      · first | exact f8 | exact fun h => h.elim f8.out (fun e => absurd e (by decide))
      · first | exact f9 | exact fun h => h.elim f9.out (fun e => absurd e (by decide))
      · first | exact f10 | exact fun h => h.elim f10.out (fun e => absurd e (by decide))
      · first | exact f11 | exact fun h => h.elim f11.out (fun e => absurd e (by decide))
      · first | exact f12 | exact fun h => h.elim f12.out (fun e => absurd e (by decide))
    · rintro D a wg ⟨u148, u149, u150, u151, u152, u153, u154, u155, u147, u156, u157, u23, u8, rfl, hbr, f0, f1, f2, f3, f4, f5, f6, f7, f8, f9, f10, f11, f12⟩ hnd hd
      have d2 := hd 2 (by decide)
      obtain rfl := f2.out d2
      have d4 := hd 4 (by decide)
      obtain rfl := f4.out d4
      have d6 := hd 6 (by decide)
      obtain rfl := f6.out d6
      clear hd
      go_wp2_with (first | (go_at_call 20; refine (HDG.out _ (hEr.below hbr)).mono ?_; rintro e wn ⟨rfl, hnew⟩) | (go_at_call 12; refine (HIN.out _ (hEr.below hbr)).mono ?_; rintro e wn ⟨rfl, hnew⟩))
      refine ⟨_, _, _, _, _, _, _, _, _, _, _, _, _, rfl, hbr.trans (hnew.mono hbr.size), ?_, ?_, ?_, ?_, ?_, ?_, ?_, ?_, ?_, ?_, ?_, ?_, ?_⟩
      · first | exact f0 | exact fun h => h.elim f0.out (fun e => absurd e (by decide))
      · first | exact f1 | exact fun h => h.elim f1.out (fun e => absurd e (by decide))
      · first | exact fun _ => rfl | exact rfl
      · first | exact f3 | exact fun h => h.elim f3.out (fun e => absurd e (by decide))
      · first | exact fun _ => rfl | exact rfl
      · first | exact f5 | exact fun h => h.elim f5.out (fun e => absurd e (by decide))
      · first | exact fun _ => rfl | exact rfl
      · first | exact rfl | exact fun _ => rfl
      · first | exact f8 | exact fun h => h.elim f8.out (fun e => absurd e (by decide))
      · first | exact f9 | exact fun h => h.elim f9.out (fun e => absurd e (by decide))
      · first | exact f10 | exact fun h => h.elim f10.out (fun e => absurd e (by decide))
      · first | exact f11 | exact fun h => h.elim f11.out (fun e => absurd e (by decide))
      · first | exact f12 | exact fun h => h.elim f12.out (fun e => absurd e (by decide))
    · rintro D a wg ⟨u148, u149, u150, u151, u152, u153, u154, u155, u147, u156, u157, u23, u8, rfl, hbr, f0, f1, f2, f3, f4, f5, f6, f7, f8, f9, f10, f11, f12⟩ hnd hd
      have d7 := hd 7 (by decide)
      obtain rfl := f7.out d7
      clear hd
      go_wp2_with (first | (go_at_call 20; refine (HDG.out _ (hEr.below hbr)).mono ?_; rintro e wn ⟨rfl, hnew⟩) | (go_at_call 12; refine (HIN.out _ (hEr.below hbr)).mono ?_; rintro e wn ⟨rfl, hnew⟩))
      refine ⟨_, _, _, _, _, _, _, _, _, _, _, _, _, rfl, hbr, ?_, ?_, ?_, ?_, ?_, ?_, ?_, ?_, ?_, ?_, ?_, ?_, ?_⟩
      · first | exact f0 | exact fun h => h.elim f0.out (fun e => absurd e (by decide))
      · first | exact f1 | exact fun h => h.elim f1.out (fun e => absurd e (by decide))
      · first | exact f2 | exact fun h => h.elim f2.out (fun e => absurd e (by decide))
      · first | exact f3 | exact fun h => h.elim f3.out (fun e => absurd e (by decide))
      · first | exact f4 | exact fun h => h.elim f4.out (fun e => absurd e (by decide))
      · first | exact f5 | exact fun h => h.elim f5.out (fun e => absurd e (by decide))
      · first | exact f6 | exact fun h => h.elim f6.out (fun e => absurd e (by decide))
      · first | exact fun _ => rfl | exact rfl
      · first | exact rfl | exact fun _ => rfl
      · first | exact f9 | exact fun h => h.elim f9.out (fun e => absurd e (by decide))
      · first | exact f10 | exact fun h => h.elim f10.out (fun e => absurd e (by decide))
      · first | exact f11 | exact fun h => h.elim f11.out (fun e => absurd e (by decide))
      · first | exact f12 | exact fun h => h.elim f12.out (fun e => absurd e (by decide))
    · rintro D a wg ⟨u148, u149, u150, u151, u152, u153, u154, u155, u147, u156, u157, u23, u8, rfl, hbr, f0, f1, f2, f3, f4, f5, f6, f7, f8, f9, f10, f11, f12⟩ hnd hd
      have d8 := hd 8 (by decide)
      obtain rfl := f8.out d8
      clear hd
      go_wp2_with (first | (go_at_call 20; refine (HDG.out _ (hEr.below hbr)).mono ?_; rintro e wn ⟨rfl, hnew⟩) | (go_at_call 12; refine (HIN.out _ (hEr.below hbr)).mono ?_; rintro e wn ⟨rfl, hnew⟩))
      refine ⟨_, _, _, _, _, _, _, _, _, _, _, _, _, rfl, hbr, ?_, ?_, ?_, ?_, ?_, ?_, ?_, ?_, ?_, ?_, ?_, ?_, ?_⟩
      · first | exact f0 | exact fun h => h.elim f0.out (fun e => absurd e (by decide))
      · first | exact f1 | exact fun h => h.elim f1.out (fun e => absurd e (by decide))
      · first | exact f2 | exact fun h => h.elim f2.out (fun e => absurd e (by decide))
      · first | exact f3 | exact fun h => h.elim f3.out (fun e => absurd e (by decide))
      · first | exact f4 | exact fun h => h.elim f4.out (fun e => absurd e (by decide))
      · first | exact f5 | exact fun h => h.elim f5.out (fun e => absurd e (by decide))
      · first | exact f6 | exact fun h => h.elim f6.out (fun e => absurd e (by decide))
      · first | exact f7 | exact fun h => h.elim f7.out (fun e => absurd e (by decide))
      · first | exact fun _ => rfl | exact rfl
      · first | exact rfl | exact fun _ => rfl
      · first | exact f10 | exact fun h => h.elim f10.out (fun e => absurd e (by decide))
      · first | exact f11 | exact fun h => h.elim f11.out (fun e => absurd e (by decide))
      · first | exact f12 | exact fun h => h.elim f12.out (fun e => absurd e (by decide))
    · rintro D a wg ⟨u148, u149, u150, u151, u152, u153, u154, u155, u147, u156, u157, u23, u8, rfl, hbr, f0, f1, f2, f3, f4, f5, f6, f7, f8, f9, f10, f11, f12⟩ hnd hd
      have d8 := hd 8 (by decide)
      obtain rfl := f8.out d8
      clear hd
      go_wp2_with (first | (go_at_call 20; refine (HDG.out _ (hEr.below hbr)).mono ?_; rintro e wn ⟨rfl, hnew⟩) | (go_at_call 12; refine (HIN.out _ (hEr.below hbr)).mono ?_; rintro e wn ⟨rfl, hnew⟩))
      refine ⟨_, _, _, _, _, _, _, _, _, _, _, _, _, rfl, hbr, ?_, ?_, ?_, ?_, ?_, ?_, ?_, ?_, ?_, ?_, ?_, ?_, ?_⟩
      · first | exact f0 | exact fun h => h.elim f0.out (fun e => absurd e (by decide))
      · first | exact f1 | exact fun h => h.elim f1.out (fun e => absurd e (by decide))
      · first | exact f2 | exact fun h => h.elim f2.out (fun e => absurd e (by decide))
      · first | exact f3 | exact fun h => h.elim f3.out (fun e => absurd e (by decide))
      · first | exact f4 | exact fun h => h.elim f4.out (fun e => absurd e (by decide))
      · first | exact f5 | exact fun h => h.elim f5.out (fun e => absurd e (by decide))
      · first | exact f6 | exact fun h => h.elim f6.out (fun e => absurd e (by decide))
      · first | exact f7 | exact fun h => h.elim f7.out (fun e => absurd e (by decide))
      · first | exact fun _ => rfl | exact rfl
      · first | exact f9 | exact fun h => h.elim f9.out (fun e => absurd e (by decide))
      · first | exact rfl | exact fun _ => rfl
      · first | exact f11 | exact fun h => h.elim f11.out (fun e => absurd e (by decide))
      · first | exact f12 | exact fun h => h.elim f12.out (fun e => absurd e (by decide))
    · rintro D a wg ⟨u148, u149, u150, u151, u152, u153, u154, u155, u147, u156, u157, u23, u8, rfl, hbr, f0, f1, f2, f3, f4, f5, f6, f7, f8, f9, f10, f11, f12⟩ hnd hd
      have d9 := hd 9 (by decide)
      obtain rfl := f9.out d9
      clear hd
      go_wp2_with (first | (go_at_call 20; refine (HDG.out _ (hEr.below hbr)).mono ?_; rintro e wn ⟨rfl, hnew⟩) | (go_at_call 12; refine (HIN.out _ (hEr.below hbr)).mono ?_; rintro e wn ⟨rfl, hnew⟩))
      refine ⟨_, _, _, _, _, _, _, _, _, _, _, _, _, rfl, hbr, ?_, ?_, ?_, ?_, ?_, ?_, ?_, ?_, ?_, ?_, ?_, ?_, ?_⟩
      · first | exact f0 | exact fun h => h.elim f0.out (fun e => absurd e (by decide))
      · first | exact f1 | exact fun h => h.elim f1.out (fun e => absurd e (by decide))
      · first | exact f2 | exact fun h => h.elim f2.out (fun e => absurd e (by decide))
      · first | exact f3 | exact fun h => h.elim f3.out (fun e => absurd e (by decide))
      · first | exact f4 | exact fun h => h.elim f4.out (fun e => absurd e (by decide))
      · first | exact f5 | exact fun h => h.elim f5.out (fun e => absurd e (by decide))
      · first | exact f6 | exact fun h => h.elim f6.out (fun e => absurd e (by decide))
      · first | exact f7 | exact fun h => h.elim f7.out (fun e => absurd e (by decide))
      · first | exact f8 | exact fun h => h.elim f8.out (fun e => absurd e (by decide))
      · first | exact fun _ => rfl | exact rfl
      · first | exact f10 | exact fun h => h.elim f10.out (fun e => absurd e (by decide))
      · first | exact rfl | exact fun _ => rfl
      · first | exact f12 | exact fun h => h.elim f12.out (fun e => absurd e (by decide))
    · rintro D a wg ⟨u148, u149, u150, u151, u152, u153, u154, u155, u147, u156, u157, u23, u8, rfl, hbr, f0, f1, f2, f3, f4, f5, f6, f7, f8, f9, f10, f11, f12⟩ hnd hd
      have d10 := hd 10 (by decide)
      obtain rfl := f10.out d10
      clear hd
      go_wp2_with (first | (go_at_call 20; refine (HDG.out _ (hEr.below hbr)).mono ?_; rintro e wn ⟨rfl, hnew⟩) | (go_at_call 12; refine (HIN.out _ (hEr.below hbr)).mono ?_; rintro e wn ⟨rfl, hnew⟩))
      refine ⟨_, _, _, _, _, _, _, _, _, _, _, _, _, rfl, hbr, ?_, ?_, ?_, ?_, ?_, ?_, ?_, ?_, ?_, ?_, ?_, ?_, ?_⟩
      · first | exact f0 | exact fun h => h.elim f0.out (fun e => absurd e (by decide))
      · first | exact f1 | exact fun h => h.elim f1.out (fun e => absurd e (by decide))
      · first | exact f2 | exact fun h => h.elim f2.out (fun e => absurd e (by decide))
      · first | exact f3 | exact fun h => h.elim f3.out (fun e => absurd e (by decide))
      · first | exact f4 | exact fun h => h.elim f4.out (fun e => absurd e (by decide))
      · first | exact f5 | exact fun h => h.elim f5.out (fun e => absurd e (by decide))
      · first | exact f6 | exact fun h => h.elim f6.out (fun e => absurd e (by decide))
      · first | exact f7 | exact fun h => h.elim f7.out (fun e => absurd e (by decide))
      · first | exact f8 | exact fun h => h.elim f8.out (fun e => absurd e (by decide))
      · first | exact f9 | exact fun h => h.elim f9.out (fun e => absurd e (by decide))
      · first | exact fun _ => rfl | exact rfl
      · first | exact f11 | exact fun h => h.elim f11.out (fun e => absurd e (by decide))
      · first | exact rfl | exact fun _ => rfl
  simp only [putAll, List.setIfInBounds_toArray, List.set_cons_succ, List.set_cons_zero]
  rintro D a wg hall ⟨u148, u149, u150, u151, u152, u153, u154, u155, u147, u156, u157, u23, u8, rfl, hbr, f0, f1, f2, f3, f4, f5, f6, f7, f8, f9, f10, f11, f12⟩
  obtain rfl := f0.out (hall 0 (by decide))
  obtain rfl := f1.out (hall 1 (by decide))
  obtain rfl := f2.out (hall 2 (by decide))
  obtain rfl := f3.out (hall 3 (by decide))
  obtain rfl := f4.out (hall 4 (by decide))
  obtain rfl := f5.out (hall 5 (by decide))
  obtain rfl := f6.out (hall 6 (by decide))
  obtain rfl := f7.out (hall 7 (by decide))
  obtain rfl := f8.out (hall 8 (by decide))
  obtain rfl := f9.out (hall 9 (by decide))
  obtain rfl := f10.out (hall 10 (by decide))
  obtain rfl := f11.out (hall 11 (by decide))
  obtain rfl := f12.out (hall 12 (by decide))
  clear hall f0 f1 f2 f3 f4 f5 f6 f7 f8 f9 f10 f11 f12
  have hb14 : Below w0.heap.size w0 wg := (Below.drew hb13).trans (hbr.mono hb13.size)
  clear hbr hb13 k1 hEr HDG HIN hszr
  have HI2 := Lib.hid fun (w' : World) (hb : Below w0.heap.size w0 w') => int_any s (-9223372036854775808) 9223372036854775807 w' (hE0.env.below hb) (by omega)
  have HIT := Lib.hid (fun k => @Wd.itoa_int s.data.toList (-9223372036854775808) 9223372036854775807 k)
  have HRG := Lib.hid (fun k => @int_rng s.data.toList (-9223372036854775808) 9223372036854775807 k)
  unfold intEnd at HI2
  generalize Wd.intOfStr s.data.toList (-9223372036854775808) 9223372036854775807 = p at HI2 HIT HRG
  obtain ⟨k, g2⟩ := p
  dsimp only at HI2
  go_wp2_with fail
  refine (HI2.out _ hb14).mono ?_
  rintro e w15 ⟨rfl, hx⟩
  have hb15 := hb14.trans (hx.mono hb14.size)
  have k1 := (hb15.cell (p := ⟨w.heap.size, 1, none⟩) hsz).trans c1
  clear hx HI2 hb14 c1
  by_cases he : g2 = 0
  · subst he
    have hit := HIT.out _ rfl
    obtain ⟨r1, r2⟩ := HRG.out _ rfl
    have HDK := digits_any k r1 r2 w15 (hE0.env.below hb15)
    rw [hit, show (⟨s.data.toList.toArray⟩ : ByteArray) = s from by congr] at HDK
    have HDK := Lib.hid HDK
    clear hit r1 r2 HIT HRG
    go_wp2_with fail
    refine HDK.out.mono ?_
    rintro e w16 ⟨rfl, hx⟩
    have hb16 := hb15.trans (hx.mono hb15.size)
    clear hx HDK
    go_wp2_with fail; refine (shown_any _ (hE0.env.below hb16)).mono ?_; rintro e w99 ⟨rfl, hx⟩; have hb99 := hb16.trans (hx.mono hb16.size); go_wp2; go_ret; exact ⟨rfl, hb0.trans (hb99.mono (Nat.le_of_lt hsz))⟩
  · have he' : (g2 != 0) = true := by rw [bne_iff_ne]; exact he
    clear HIT HRG he
    go_wp2_with fail; refine (shown_any _ (hE0.env.below hb15)).mono ?_; rintro e w99 ⟨rfl, hx⟩; have hb99 := hb15.trans (hx.mono hb15.size); go_wp2; go_ret; exact ⟨rfl, hb0.trans (hb99.mono (Nat.le_of_lt hsz))⟩
end Go.Proofs.YtffkohdnhaebjaaGreatDoor
