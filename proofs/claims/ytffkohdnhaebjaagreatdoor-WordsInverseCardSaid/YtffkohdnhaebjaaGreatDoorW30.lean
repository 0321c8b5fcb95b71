/-
  Walks: the reference's ParseList: the runs.
-/
import Derived.Test.YtffkohdnhaebjaaGreatDoorW28
import Derived.Test.YtffkohdnhaebjaaGreatDoorW29
import Derived.Test.YtffkohdnhaebjaaGreatDoorW19
import Derived.Test.YtffkohdnhaebjaaGreatDoorW3
import Derived.Test.YtffkohdnhaebjaaGreatDoorW7
import Derived.Test.YtffkohdnhaebjaaGreatDoorGenAt
import Derived.Test.YtffkohdnhaebjaaGreatDoorPlain
import Derived.BigQuiet
namespace Go.Proofs.YtffkohdnhaebjaaGreatDoor
open Go.RowKit Go.Shelf

theorem piece_len {c : UInt8} : ∀ {l : List UInt8}, ∀ p ∈ Wd.cutAt c l, p.length ≤ l.length
  | [], p, hp => by simp [Wd.cutAt] at hp; subst hp; simp
  | y :: t, p, hp => by
    by_cases h : y = c
    · subst h
      rw [Wd.cutAt_cons_eq] at hp
      rcases List.mem_cons.1 hp with rfl | hp
      · simp
      · have := piece_len p hp
        simp only [List.length_cons]; omega
    · cases e : Wd.cutAt c t with
      | nil => exact absurd e (Wd.cutAt_ne c t)
      | cons q r =>
        rw [Wd.cutAt_cons_ne t h e] at hp
        rcases List.mem_cons.1 hp with rfl | hp
        · have := piece_len q (by rw [e]; simp)
          simp only [List.length_cons]; omega
        · have := piece_len p (by rw [e]; simp [hp])
          simp only [List.length_cons]; omega
theorem cut_len (c : UInt8) (l : List UInt8) : (Wd.cutAt c l).length ≤ l.length + 1 := by
  rw [Wd.cutAt_pcs, List.length_append]
  have := Wd.pcs_len c l
  simp only [List.length_cons, List.length_nil]; omega
def lastS (E : List (List UInt8 × List UInt8)) : List UInt8 := match E.getLast? with
  | none => []
  | some p => p.2
theorem rdec_l (x : List UInt8) (w : World) (hs : x.length ≤ maxLen) (h : ∀ y ∈ x, y ≠ 45) : Calls Tryz.prog 34 #[S8 x] w fun e w' => e = .returned (.bool (Wd.natDec x)) ∧ w' = w := by
  refine (rdecimal_any ⟨x.toArray⟩ w (by rw [size_mk]; exact hs)).mono ?_
  rintro e w' ⟨rfl, rfl⟩
  refine ⟨?_, rfl⟩
  rw [show (⟨x.toArray⟩ : ByteArray).data.toList = x from by simp, Wd.decimal_no h]
def ParsePost (l : List UInt8) (w : World) (e : Ending) (w' : World) : Prop := (∃ v, e = .returned (.tuple #[v, .int .i64 (Wd.parseList l).2]) ∧ ReadsL 1 encI w' v (Wd.parseList l).1) ∧ Below w.heap.size w w'
theorem ParsePost.bad {l : List UInt8} {w w' : World} {n : Int} (h : Wd.parseList l = ([], n)) (hb : Below w.heap.size w w') : ParsePost l w (.returned (.tuple #[.slice none 0 0, .int .i64 n])) w' :=
  ⟨⟨_, by rw [h], by rw [h]; exact ReadsL.nil _⟩, hb⟩
theorem ReadsL.cellsS {w : World} {v : Value} {l : List (List UInt8)} (h : ReadsL 1 encS w v l) (hne : l ≠ []) : ∃ b o cap, v = .slice (some ⟨b, o, none⟩) l.length cap ∧ b < w.heap.size ∧
    Hid (∀ j (hj : j < l.length), w.cell? ⟨b, o + j, none⟩ = some (S8 l[j])) := by
  obtain ⟨b, o, cap, hv, hb, hc⟩ := h.form hne
  refine ⟨b, o, cap, hv, hb, fun j hj => ?_⟩
  have := hc j hj 0 _ rfl
  simpa using this

theorem lastS_snoc (E : List (List UInt8 × List UInt8)) (p : List UInt8 × List UInt8) : lastS (E ++ [p]) = p.2 := by simp [lastS]
theorem len_snoc {E : List (List UInt8 × List UInt8)} {p : List UInt8 × List UInt8} (h : ∀ q ∈ E, q.2.length ≤ 1048576) (hp : p.2.length ≤ 1048576) : Hid (∀ q ∈ E ++ [p], q.2.length ≤ 1048576) := by
  intro q hq
  rcases List.mem_append.1 hq with hq | hq
  · exact h q hq
  · simp at hq; subst hq; exact hp
theorem last_of {rs : List (List UInt8)} {k N : Nat} {E : List (List UInt8 × List UInt8)} (h : Wd.PRel rs k E) (hl : ∀ p ∈ E, p.2.length ≤ N) (h0 : 0 < k) : Hid (Wd.natDec (lastS E) = true) ∧ (lastS E).length ≤ N ∧ E.getLast?.map (·.2) = some (lastS E) := by
  cases e : E.getLast? with
  | none =>
    rw [List.getLast?_eq_none_iff] at e
    have := h.len
    rw [e] at this
    simp at this; omega
  | some p =>
    have hm : p ∈ E := List.mem_of_getLast? e
    have hs : lastS E = p.2 := by unfold lastS; rw [e]
    refine ⟨by rw [hs]; exact (h.good p hm).2.1, by rw [hs]; exact hl p hm, by rw [hs]; rfl⟩

theorem encI_len (x : Int) : (encI x).length = 1 := rfl
theorem elI : ElT Tryz.prog 22 3 1 8 (.int .i64 0) encI :=
  ⟨Tryz.underlying22, by kernel_rfl, rfl, by decide, fun _ => rfl, fun x u hu => by simp [encI] at hu; subst hu; rfl⟩
theorem newI (W : World) (x : Value) (T : TypeId) (y : Int) (h : x = .int .i64 y) : ∀ i u, (encI y)[i]? = some u → (W.alloc (.cells #[x] T)).cell? ⟨W.heap.size, i, none⟩ = some u := by
  intro i u hu
  match i, hu with
  | 0, hu => simp [encI] at hu; subst hu; rw [World.cell?_alloc_at _ _ _ _ rfl, h]; rfl
theorem rint_l (x : List UInt8) (w : World) (hd : Wd.natDec x = true) (hv : Wd.natVal x ≤ 1000000000) (hs : x.length ≤ 1048576) :
    Calls Tryz.prog 37 #[S8 x, .int .i64 0, .int .i64 1000000000] w fun e w' => e = .returned (.tuple #[.int .i64 (Wd.natVal x), .int .i64 0]) ∧ w' = w := by
  refine (rint_any ⟨x.toArray⟩ 0 1000000000 w (by rw [size_mk]; omega) (by omega) (by omega) (by omega) (by omega)).mono ?_
  rintro e w' ⟨rfl, rfl⟩
  refine ⟨?_, rfl⟩
  unfold intEnd
  rw [show (⟨x.toArray⟩ : ByteArray).data.toList = x from by simp, Wd.int_nat hd hv]
theorem rless_max (L : List UInt8) (w : World) (h : Wd.natDec L = true) :
    Calls Tryz.prog 35 #[S8 (Lib.itoa 1000000000), S8 L] w fun e w' => e = .returned (.bool (decide (1000000000 < Wd.natVal L))) ∧ w' = w := by
  have hx := rless_any (Lib.itoa 1000000000) L w
  have e : Wd.natVal (Lib.itoa 1000000000) = 1000000000 := by rw [Wd.natVal_itoa (by omega)]; rfl
  rw [Wd.lessS_iff (Wd.natDec_itoa (by omega)) h, e] at hx
  exact hx
theorem intsEnd_long {l : List UInt8} {w w' : World} (h : Wd.parseList l = ([], 3)) (hb : Below w.heap.size w w') : ParsePost l w (.returned (.tuple #[.slice none 0 0, .int .i64 3])) w' := ParsePost.bad h hb

set_option maxHeartbeats 40000000 in
set_option maxRecDepth 100000 in
theorem rParseList_any (s : ByteArray) (w : World) (hs0 : s.size ≤ 1048576) : Calls Tryz.prog 10 #[.string s] w (ParsePost s.data.toList w) := by
  by_cases h45 : s.data.toList = [45]
  · obtain rfl : s = ⟨#[45]⟩ := ByteArray.ext (Array.ext' h45)
    clear h45
    go_enter Tryz.func10, Tryz.ntmps10
    go_wp2
    go_ret2
    exact ParsePost.bad rfl (Below.refl _ _)
  have q45 : (s.toList == [45]) = false := by rw [Lib.toList_data]; exact beq_eq_false_iff_ne.2 h45
  have hne := Wd.cutAt_ne 44 s.data.toList
  have hcl := cut_len 44 s.data.toList
  have hpl := fun p hp => piece_len (c := 44) (l := s.data.toList) p hp
  rw [← size_list] at hcl hpl
  have H45 := Lib.hid h45
  have HPL := Lib.hid hpl
  have HNE := Lib.hid hne
  have HB := Lib.hid (@Wd.parse_bad s.data.toList h45)
  have HRNG := Lib.hid (fun E => @Wd.parse_range s.data.toList E h45)
  have HLNG := Lib.hid (fun E => @Wd.parse_long s.data.toList E h45)
  have HOK := Lib.hid (fun E => @Wd.parse_ok s.data.toList E h45)
  clear h45 hpl hne
  go_enter Tryz.func10, Tryz.ntmps10
  go_wp2_with fail
  refine (parts_any s 44 _ (by omega)).mono ?_
  rintro e w1 ⟨⟨v7, rfl, hr7⟩, hb1⟩
  obtain ⟨b7, o7, cap7, rfl, hlt7, hc7⟩ := hr7.cellsS HNE.out
  clear hr7
  have hrl0 := List.length_pos_iff.2 HNE.out
  generalize hrs : Wd.cutAt 44 s.data.toList = rs at *
  clear hrs HNE
  go_wp2
  go_loopw [4, 5, 6, 8] (fun la f g i wr => ∃ (k : Nat) (E : List (List UInt8 × List UInt8)), k ≤ rs.length ∧ i = .int .i64 k ∧ Hid (Wd.PRel rs k E) ∧ Hid (∀ p ∈ E, p.2.length ≤ 1048576) ∧ la = S8 (lastS E) ∧ OwnL 9 1 encS wr w1.heap.size f (E.map (·.1)) ∧ OwnL 9 1 encS wr w1.heap.size g (E.map (·.2)) ∧ Apart2 f g ∧ Below w1.heap.size w1 wr) (fun _ _ _ i _ => rs.length - (intOf i).toNat)
  case atStart => exact ⟨0, [], Nat.zero_le _, rfl, Wd.PRel.zero rs, by intro p hp; simp at hp, rfl, OwnL.nil _ _, OwnL.nil _ _, Apart2.nil _ _, Below.refl _ _⟩
  case round =>
    obtain ⟨k, E, hk, rfl, hP, hPL0, rfl, hof, hog, hap, hbr⟩ := hrel
    by_cases hlt : k < rs.length
    · have i1 : (k : Int) < (rs.length : Int) := by omega
      have c7 := (hbr.cell (p := ⟨b7, o7 + k, none⟩) hlt7).trans (hc7.out k hlt)
      have hrl := HPL.out rs[k] (List.getElem_mem _)
      go_wp2_with fail
      refine (parts_l rs[k] 45 _ (by omega)).mono ?_
      rintro e w2 ⟨⟨v9, rfl, hr9⟩, hb2⟩
      obtain ⟨b9, o9, cap9, rfl, hlt9, hc9⟩ := hr9.cellsS (Wd.cutAt_ne _ _)
      have hof2 := hof.below hb2
      have hog2 := hog.below hb2
      have hbr2 := hbr.trans (hb2.mono hbr.size)
      have hpl9 : Hid (∀ p ∈ Wd.cutAt 45 rs[k], p.length ≤ rs[k].length) := piece_len
      have hno9 : Hid (∀ p ∈ Wd.cutAt 45 rs[k], ∀ x ∈ p, x ≠ 45) := Wd.cutAt_pieces
      clear hr9 hof hog hb2
      have hpos9 := List.length_pos_iff.2 (Wd.cutAt_ne 45 rs[k])
      have hE1 := @Wd.ends1_one rs[k]
      have hE2 := @Wd.ends1_two rs[k]
      have hE3 := @Wd.ends1_many rs[k]
      revert hpos9 hc9 hpl9 hno9 hE1 hE2 hE3
      generalize Wd.cutAt 45 rs[k] = P
      intro hc9 hpl9 hno9 hpos9 hE1 hE2 hE3
      by_cases hm : 2 < P.length
      · have HS := Lib.hid (HB.out (hP.out.bad hlt (hE3 hm)))
        clear hE1 hE2 hE3 hc9 hpl9 hno9
        have i2 : (2 : Int) < (P.length : Int) := by omega
        go_wp2
        go_quiet (fail)
        go_wp2
        go_ret2
        exact ParsePost.bad HS.out (hb1.trans ((below_dn hbr2 _).mono hb1.size))
      · rcases P with _ | ⟨pa, _ | ⟨pb, _ | ⟨d, P⟩⟩⟩
        · simp at hpos9
        ·
          have c9 := hc9.out 0 (by simp)
          have hal := hpl9.out pa (by simp)
          have hdc := fun w => rdec_l pa w (by unfold maxLen; omega) (hno9.out pa (by simp))
          have he := hE1 rfl
          simp only [List.getElem_cons_zero, Nat.add_zero] at c9
          simp only [List.length_cons, List.length_nil, Nat.zero_add]
          cases hd : Wd.natDec pa with
          | false =>
            rw [hd] at hdc he
            have HS := Lib.hid (HB.out (hP.out.bad hlt (by simpa using he)))
            have HD := Lib.hid hdc
            clear hE1 hE2 hE3 hc9 hpl9 hno9 hdc he hd
            go_wp2
            go_quiet (first | (go_at_call 34; refine Calls.quiet_of_same (HD.out _)))
            go_wp2
            go_ret2
            exact ParsePost.bad HS.out (hb1.trans ((below_dn hbr2 _).mono hb1.size))
          | true =>
            rw [hd] at hdc he
            have HD := Lib.hid hdc
            have HE := Lib.hid (show Wd.ends1 rs[k] = some (pa, pa) from by simpa using he)
            have HN := Lib.hid hd
            clear hE1 hE2 hE3 hc9 hpl9 hno9 hdc he hd
            go_wp2
            go_quiet (first | (go_at_call 34; refine Calls.quiet_of_same (HD.out _)))
            obtain ⟨n1, rfl⟩ : ∃ n1, n1 = nq := ⟨_, rfl⟩
            have HLN : 0 < k → Hid (Wd.natDec (lastS E) = true) ∧ (lastS E).length ≤ 1048576 ∧ E.getLast?.map (·.2) = some (lastS E) := fun h0 => last_of hP.out hPL0.out h0
            have hal0 : pa.length ≤ 1048576 := by omega
            by_cases h0 : 0 < k
            · obtain ⟨HNL, hll, hgl⟩ := HLN h0
              have i3 : (0 : Int) < (k : Int) := by omega
              have hAF : Wd.after (E.getLast?.map (·.2)) pa = decide (Wd.natVal (lastS E) + 1 < Wd.natVal pa) := by rw [hgl]; rfl
              clear HLN hgl
              cases hB : decide (Wd.natVal (lastS E) + 1 < Wd.natVal pa) with
              | false =>
                rw [hB] at hAF
                have HLE : Hid (∀ t, Wd.natDec t = true → Wd.natVal t = Wd.natVal (lastS E) + 1 → ∀ w, Calls Tryz.prog 35 #[S8 t, S8 pa] w fun e w' => e = .returned (.bool false) ∧ w' = w) := fun t h1 h2 w => by have h := rless_any t pa w; rw [Wd.lessS_iff h1 HN.out, h2, hB] at h; exact h
                clear hB
                have HS := Lib.hid (HB.out (hP.out.not hlt HE.out hAF))
                clear hAF
                obtain ⟨L, hL⟩ : ∃ L, L = lastS E := ⟨_, rfl⟩
                have HLL := Lib.hid hL
                rw [← hL] at HNL HLE hll
                rw [← hL]
                clear hL
                go_wp2_with fail
                refine wp_region_inv (fun a0 w0 D a wv => ∃ u64 u65 u66 u67 u68 u69 u70 u71 u72 u73 u74 : Value, a = putAll a0 [(64, u64), (65, u65), (66, u66), (67, u67), (68, u68), (69, u69), (70, u70), (71, u71), (72, u72), (73, u73), (74, u74)] ∧ Below w0.heap.size w0 wv ∧ Hid (D 0 → u64 = .int .i64 k) ∧ Hid (D 1 → u65 = .bool true) ∧ Hid (D 2 → u66 = .bool true) ∧ Hid (D 3 → u67 = S8 L) ∧ Hid (D 4 → ∃ t, u68 = S8 t ∧ Wd.natDec t = true ∧ Wd.natVal t = Wd.natVal L + 1 ∧ t.length ≤ L.length + 1) ∧ Hid (D 5 → u69 = .slice (some ⟨b9, o9, none⟩) 1 cap9) ∧ Hid (D 6 → u70 = .pointer (some ⟨b9, o9, none⟩)) ∧ Hid (D 7 → u71 = S8 pa) ∧ Hid (D 8 → u72 = .bool false) ∧ Hid (D 9 → u73 = .bool true) ∧ Hid (D 10 → u74 = .bool true)) rfl ?_ ?_ ?_
                ·
                  simp only [putAll, List.setIfInBounds_toArray, List.set_cons_succ, List.set_cons_zero]
                  exact ⟨_, _, _, _, _, _, _, _, _, _, _, rfl, Below.refl _ _, fun h => h.elim, fun h => h.elim, fun h => h.elim, fun h => h.elim, fun h => h.elim, fun h => h.elim, fun h => h.elim, fun h => h.elim, fun h => h.elim, fun h => h.elim, fun h => h.elim⟩
                ·
                  simp only [putAll, List.setIfInBounds_toArray, List.set_cons_succ, List.set_cons_zero]
                  refine StepsAll.cons ?_ (StepsAll.cons ?_ (StepsAll.cons ?_ (StepsAll.cons ?_ (StepsAll.cons ?_ (StepsAll.cons ?_ (StepsAll.cons ?_ (StepsAll.cons ?_ (StepsAll.cons ?_ (StepsAll.cons ?_ (StepsAll.cons ?_ StepsAll.nil))))))))))
                  · rintro D a wg ⟨u64, u65, u66, u67, u68, u69, u70, u71, u72, u73, u74, rfl, hbr, f0, f1, f2, f3, f4, f5, f6, f7, f8, f9, f10⟩ hnd hd
                    clear hd
                    go_wp2_with (first | (go_at_call 36; refine (rnext_l _ _ HNL.out (by omega)).mono ?_; rintro e wn ⟨⟨t, rfl, ht1, ht2, ht3⟩, hnew⟩) | (go_at_call 35; refine (HLE.out _ ht1 ht2 _).mono ?_; rintro e wz ⟨rfl, rfl⟩))
                    refine ⟨_, _, _, _, _, _, _, _, _, _, _, rfl, hbr, ?_, ?_, ?_, ?_, ?_, ?_, ?_, ?_, ?_, ?_, ?_⟩
                    · first | exact rfl | exact fun _ => rfl
                    · first | exact f1 | exact fun h => h.elim f1.out (fun e => absurd e (by decide))
                    · first | exact f2 | exact fun h => h.elim f2.out (fun e => absurd e (by decide))
                    · first | exact f3 | exact fun h => h.elim f3.out (fun e => absurd e (by decide))
                    · first | exact f4 | exact fun h => h.elim f4.out (fun e => absurd e (by decide))
                    · first | exact f5 | exact fun h => h.elim f5.out (fun e => absurd e (by decide))
                    · first | exact f6 | exact fun h => h.elim f6.out (fun e => absurd e (by decide))
                    · first | exact f7 | exact fun h => h.elim f7.out (fun e => absurd e (by decide))
                    · first | exact f8 | exact fun h => h.elim f8.out (fun e => absurd e (by decide))
                    · first | exact f9 | exact fun h => h.elim f9.out (fun e => absurd e (by decide))
                    · first | exact f10 | exact fun h => h.elim f10.out (fun e => absurd e (by decide))
                  · rintro D a wg ⟨u64, u65, u66, u67, u68, u69, u70, u71, u72, u73, u74, rfl, hbr, f0, f1, f2, f3, f4, f5, f6, f7, f8, f9, f10⟩ hnd hd
                    have d0 := hd 0 (by decide)
                    obtain rfl := f0.out d0
                    clear hd
                    go_wp2_with (first | (go_at_call 36; refine (rnext_l _ _ HNL.out (by omega)).mono ?_; rintro e wn ⟨⟨t, rfl, ht1, ht2, ht3⟩, hnew⟩) | (go_at_call 35; refine (HLE.out _ ht1 ht2 _).mono ?_; rintro e wz ⟨rfl, rfl⟩))
                    refine ⟨_, _, _, _, _, _, _, _, _, _, _, rfl, hbr, ?_, ?_, ?_, ?_, ?_, ?_, ?_, ?_, ?_, ?_, ?_⟩
                    · first | exact fun _ => rfl | exact rfl
                    · first | exact rfl | exact fun _ => rfl
                    · first | exact f2 | exact fun h => h.elim f2.out (fun e => absurd e (by decide))
                    · first | exact f3 | exact fun h => h.elim f3.out (fun e => absurd e (by decide))
                    · first | exact f4 | exact fun h => h.elim f4.out (fun e => absurd e (by decide))
                    · first | exact f5 | exact fun h => h.elim f5.out (fun e => absurd e (by decide))
                    · first | exact f6 | exact fun h => h.elim f6.out (fun e => absurd e (by decide))
                    · first | exact f7 | exact fun h => h.elim f7.out (fun e => absurd e (by decide))
                    · first | exact f8 | exact fun h => h.elim f8.out (fun e => absurd e (by decide))
                    · first | exact f9 | exact fun h => h.elim f9.out (fun e => absurd e (by decide))
                    · first | exact f10 | exact fun h => h.elim f10.out (fun e => absurd e (by decide))
                  · rintro D a wg ⟨u64, u65, u66, u67, u68, u69, u70, u71, u72, u73, u74, rfl, hbr, f0, f1, f2, f3, f4, f5, f6, f7, f8, f9, f10⟩ hnd hd
                    have d1 := hd 1 (by decide)
                    obtain rfl := f1.out d1
                    clear hd
                    go_wp2_with (first | (go_at_call 36; refine (rnext_l _ _ HNL.out (by omega)).mono ?_; rintro e wn ⟨⟨t, rfl, ht1, ht2, ht3⟩, hnew⟩) | (go_at_call 35; refine (HLE.out _ ht1 ht2 _).mono ?_; rintro e wz ⟨rfl, rfl⟩))
                    refine ⟨_, _, _, _, _, _, _, _, _, _, _, rfl, hbr, ?_, ?_, ?_, ?_, ?_, ?_, ?_, ?_, ?_, ?_, ?_⟩
                    · first | exact f0 | exact fun h => h.elim f0.out (fun e => absurd e (by decide))
                    · first | exact fun _ => rfl | exact rfl
                    · first | exact rfl | exact fun _ => rfl
                    · first | exact f3 | exact fun h => h.elim f3.out (fun e => absurd e (by decide))
                    · first | exact f4 | exact fun h => h.elim f4.out (fun e => absurd e (by decide))
                    · first | exact f5 | exact fun h => h.elim f5.out (fun e => absurd e (by decide))
                    · first | exact f6 | exact fun h => h.elim f6.out (fun e => absurd e (by decide))
                    · first | exact f7 | exact fun h => h.elim f7.out (fun e => absurd e (by decide))
                    · first | exact f8 | exact fun h => h.elim f8.out (fun e => absurd e (by decide))
                    · first | exact f9 | exact fun h => h.elim f9.out (fun e => absurd e (by decide))
                    · first | exact f10 | exact fun h => h.elim f10.out (fun e => absurd e (by decide))
                  · rintro D a wg ⟨u64, u65, u66, u67, u68, u69, u70, u71, u72, u73, u74, rfl, hbr, f0, f1, f2, f3, f4, f5, f6, f7, f8, f9, f10⟩ hnd hd
                    have d2 := hd 2 (by decide)
                    obtain rfl := f2.out d2
                    clear hd
                    go_wp2_with (first | (go_at_call 36; refine (rnext_l _ _ HNL.out (by omega)).mono ?_; rintro e wn ⟨⟨t, rfl, ht1, ht2, ht3⟩, hnew⟩) | (go_at_call 35; refine (HLE.out _ ht1 ht2 _).mono ?_; rintro e wz ⟨rfl, rfl⟩))
                    refine ⟨_, _, _, _, _, _, _, _, _, _, _, rfl, hbr, ?_, ?_, ?_, ?_, ?_, ?_, ?_, ?_, ?_, ?_, ?_⟩
                    · first | exact f0 | exact fun h => h.elim f0.out (fun e => absurd e (by decide))
                    · first | exact f1 | exact fun h => h.elim f1.out (fun e => absurd e (by decide))
                    · first | exact fun _ => rfl | exact rfl
                    · first | exact rfl | exact fun _ => rfl
                    · first | exact f4 | exact fun h => h.elim f4.out (fun e => absurd e (by decide))
                    · first | exact f5 | exact fun h => h.elim f5.out (fun e => absurd e (by decide))
                    · first | exact f6 | exact fun h => h.elim f6.out (fun e => absurd e (by decide))
                    · first | exact f7 | exact fun h => h.elim f7.out (fun e => absurd e (by decide))
                    · first | exact f8 | exact fun h => h.elim f8.out (fun e => absurd e (by decide))
                    · first | exact f9 | exact fun h => h.elim f9.out (fun e => absurd e (by decide))
                    · first | exact f10 | exact fun h => h.elim f10.out (fun e => absurd e (by decide))
                  · rintro D a wg ⟨u64, u65, u66, u67, u68, u69, u70, u71, u72, u73, u74, rfl, hbr, f0, f1, f2, f3, f4, f5, f6, f7, f8, f9, f10⟩ hnd hd
                    have d3 := hd 3 (by decide)
                    obtain rfl := f3.out d3
                    have d2 := hd 2 (by decide)
                    obtain rfl := f2.out d2
                    clear hd
                    go_wp2_with (first | (go_at_call 36; refine (rnext_l _ _ HNL.out (by omega)).mono ?_; rintro e wn ⟨⟨t, rfl, ht1, ht2, ht3⟩, hnew⟩) | (go_at_call 35; refine (HLE.out _ ht1 ht2 _).mono ?_; rintro e wz ⟨rfl, rfl⟩))
                    refine ⟨_, _, _, _, _, _, _, _, _, _, _, rfl, hbr.trans (hnew.mono hbr.size), ?_, ?_, ?_, ?_, ?_, ?_, ?_, ?_, ?_, ?_, ?_⟩
                    · first | exact f0 | exact fun h => h.elim f0.out (fun e => absurd e (by decide))
                    · first | exact f1 | exact fun h => h.elim f1.out (fun e => absurd e (by decide))
                    · first | exact fun _ => rfl | exact rfl
                    · first | exact fun _ => rfl | exact rfl
                    · first | exact ⟨t, rfl, ht1, ht2, ht3⟩ | exact fun _ => ⟨t, rfl, ht1, ht2, ht3⟩
                    · first | exact f5 | exact fun h => h.elim f5.out (fun e => absurd e (by decide))
                    · first | exact f6 | exact fun h => h.elim f6.out (fun e => absurd e (by decide))
                    · first | exact f7 | exact fun h => h.elim f7.out (fun e => absurd e (by decide))
                    · first | exact f8 | exact fun h => h.elim f8.out (fun e => absurd e (by decide))
                    · first | exact f9 | exact fun h => h.elim f9.out (fun e => absurd e (by decide))
                    · first | exact f10 | exact fun h => h.elim f10.out (fun e => absurd e (by decide))
                  · rintro D a wg ⟨u64, u65, u66, u67, u68, u69, u70, u71, u72, u73, u74, rfl, hbr, f0, f1, f2, f3, f4, f5, f6, f7, f8, f9, f10⟩ hnd hd
                    have d2 := hd 2 (by decide)
                    obtain rfl := f2.out d2
                    clear hd
                    go_wp2_with (first | (go_at_call 36; refine (rnext_l _ _ HNL.out (by omega)).mono ?_; rintro e wn ⟨⟨t, rfl, ht1, ht2, ht3⟩, hnew⟩) | (go_at_call 35; refine (HLE.out _ ht1 ht2 _).mono ?_; rintro e wz ⟨rfl, rfl⟩))
                    refine ⟨_, _, _, _, _, _, _, _, _, _, _, rfl, hbr, ?_, ?_, ?_, ?_, ?_, ?_, ?_, ?_, ?_, ?_, ?_⟩
                    · first | exact f0 | exact fun h => h.elim f0.out (fun e => absurd e (by decide))
                    · first | exact f1 | exact fun h => h.elim f1.out (fun e => absurd e (by decide))
                    · first | exact fun _ => rfl | exact rfl
                    · first | exact f3 | exact fun h => h.elim f3.out (fun e => absurd e (by decide))
                    · first | exact f4 | exact fun h => h.elim f4.out (fun e => absurd e (by decide))
                    · first | exact rfl | exact fun _ => rfl
                    · first | exact f6 | exact fun h => h.elim f6.out (fun e => absurd e (by decide))
                    · first | exact f7 | exact fun h => h.elim f7.out (fun e => absurd e (by decide))
                    · first | exact f8 | exact fun h => h.elim f8.out (fun e => absurd e (by decide))
                    · first | exact f9 | exact fun h => h.elim f9.out (fun e => absurd e (by decide))
                    · first | exact f10 | exact fun h => h.elim f10.out (fun e => absurd e (by decide))
                  · rintro D a wg ⟨u64, u65, u66, u67, u68, u69, u70, u71, u72, u73, u74, rfl, hbr, f0, f1, f2, f3, f4, f5, f6, f7, f8, f9, f10⟩ hnd hd
                    have d5 := hd 5 (by decide)
                    obtain rfl := f5.out d5
                    have d2 := hd 2 (by decide)
                    obtain rfl := f2.out d2
                    clear hd
                    go_wp2_with (first | (go_at_call 36; refine (rnext_l _ _ HNL.out (by omega)).mono ?_; rintro e wn ⟨⟨t, rfl, ht1, ht2, ht3⟩, hnew⟩) | (go_at_call 35; refine (HLE.out _ ht1 ht2 _).mono ?_; rintro e wz ⟨rfl, rfl⟩))
                    refine ⟨_, _, _, _, _, _, _, _, _, _, _, rfl, hbr, ?_, ?_, ?_, ?_, ?_, ?_, ?_, ?_, ?_, ?_, ?_⟩
                    · first | exact f0 | exact fun h => h.elim f0.out (fun e => absurd e (by decide))
                    · first | exact f1 | exact fun h => h.elim f1.out (fun e => absurd e (by decide))
                    · first | exact fun _ => rfl | exact rfl
                    · first | exact f3 | exact fun h => h.elim f3.out (fun e => absurd e (by decide))
                    · first | exact f4 | exact fun h => h.elim f4.out (fun e => absurd e (by decide))
                    · first | exact fun _ => rfl | exact rfl
                    · first | exact rfl | exact fun _ => rfl
                    · first | exact f7 | exact fun h => h.elim f7.out (fun e => absurd e (by decide))
                    · first | exact f8 | exact fun h => h.elim f8.out (fun e => absurd e (by decide))
                    · first | exact f9 | exact fun h => h.elim f9.out (fun e => absurd e (by decide))
                    · first | exact f10 | exact fun h => h.elim f10.out (fun e => absurd e (by decide))
                  · rintro D a wg ⟨u64, u65, u66, u67, u68, u69, u70, u71, u72, u73, u74, rfl, hbr, f0, f1, f2, f3, f4, f5, f6, f7, f8, f9, f10⟩ hnd hd
                    have d6 := hd 6 (by decide)
                    obtain rfl := f6.out d6
                    have d2 := hd 2 (by decide)
                    obtain rfl := f2.out d2
                    clear hd
                    have cA := (hbr.cell (p := ⟨b9, o9, none⟩) hlt9).trans c9
                    go_wp2_with (first | (go_at_call 36; refine (rnext_l _ _ HNL.out (by omega)).mono ?_; rintro e wn ⟨⟨t, rfl, ht1, ht2, ht3⟩, hnew⟩) | (go_at_call 35; refine (HLE.out _ ht1 ht2 _).mono ?_; rintro e wz ⟨rfl, rfl⟩))
                    refine ⟨_, _, _, _, _, _, _, _, _, _, _, rfl, hbr, ?_, ?_, ?_, ?_, ?_, ?_, ?_, ?_, ?_, ?_, ?_⟩
                    · first | exact f0 | exact fun h => h.elim f0.out (fun e => absurd e (by decide))
                    · first | exact f1 | exact fun h => h.elim f1.out (fun e => absurd e (by decide))
                    · first | exact fun _ => rfl | exact rfl
                    · first | exact f3 | exact fun h => h.elim f3.out (fun e => absurd e (by decide))
                    · first | exact f4 | exact fun h => h.elim f4.out (fun e => absurd e (by decide))
                    · first | exact f5 | exact fun h => h.elim f5.out (fun e => absurd e (by decide))
                    · first | exact fun _ => rfl | exact rfl
                    · first | exact rfl | exact fun _ => rfl
                    · first | exact f8 | exact fun h => h.elim f8.out (fun e => absurd e (by decide))
                    · first | exact f9 | exact fun h => h.elim f9.out (fun e => absurd e (by decide))
                    · first | exact f10 | exact fun h => h.elim f10.out (fun e => absurd e (by decide))
                  · rintro D a wg ⟨u64, u65, u66, u67, u68, u69, u70, u71, u72, u73, u74, rfl, hbr, f0, f1, f2, f3, f4, f5, f6, f7, f8, f9, f10⟩ hnd hd
                    have d4 := hd 4 (by decide)
                    obtain ⟨t, rfl, ht1, ht2, ht3⟩ := f4.out d4
                    have d7 := hd 7 (by decide)
                    obtain rfl := f7.out d7
                    have d2 := hd 2 (by decide)
                    obtain rfl := f2.out d2
                    clear hd
                    go_wp2_with (first | (go_at_call 36; refine (rnext_l _ _ HNL.out (by omega)).mono ?_; rintro e wn ⟨⟨t, rfl, ht1, ht2, ht3⟩, hnew⟩) | (go_at_call 35; refine (HLE.out _ ht1 ht2 _).mono ?_; rintro e wz ⟨rfl, rfl⟩))
                    refine ⟨_, _, _, _, _, _, _, _, _, _, _, rfl, hbr, ?_, ?_, ?_, ?_, ?_, ?_, ?_, ?_, ?_, ?_, ?_⟩
                    · first | exact f0 | exact fun h => h.elim f0.out (fun e => absurd e (by decide))
                    · first | exact f1 | exact fun h => h.elim f1.out (fun e => absurd e (by decide))
                    · first | exact fun _ => rfl | exact rfl
                    · first | exact f3 | exact fun h => h.elim f3.out (fun e => absurd e (by decide))
                    · exact fun _ => ⟨t, rfl, ht1, ht2, ht3⟩
                    · first | exact f5 | exact fun h => h.elim f5.out (fun e => absurd e (by decide))
                    · first | exact f6 | exact fun h => h.elim f6.out (fun e => absurd e (by decide))
                    · first | exact fun _ => rfl | exact rfl
                    · first | exact rfl | exact fun _ => rfl
                    · first | exact f9 | exact fun h => h.elim f9.out (fun e => absurd e (by decide))
                    · first | exact f10 | exact fun h => h.elim f10.out (fun e => absurd e (by decide))
                  · rintro D a wg ⟨u64, u65, u66, u67, u68, u69, u70, u71, u72, u73, u74, rfl, hbr, f0, f1, f2, f3, f4, f5, f6, f7, f8, f9, f10⟩ hnd hd
                    have d8 := hd 8 (by decide)
                    obtain rfl := f8.out d8
                    have d2 := hd 2 (by decide)
                    obtain rfl := f2.out d2
                    clear hd
                    go_wp2_with (first | (go_at_call 36; refine (rnext_l _ _ HNL.out (by omega)).mono ?_; rintro e wn ⟨⟨t, rfl, ht1, ht2, ht3⟩, hnew⟩) | (go_at_call 35; refine (HLE.out _ ht1 ht2 _).mono ?_; rintro e wz ⟨rfl, rfl⟩))
                    refine ⟨_, _, _, _, _, _, _, _, _, _, _, rfl, hbr, ?_, ?_, ?_, ?_, ?_, ?_, ?_, ?_, ?_, ?_, ?_⟩
                    · first | exact f0 | exact fun h => h.elim f0.out (fun e => absurd e (by decide))
                    · first | exact f1 | exact fun h => h.elim f1.out (fun e => absurd e (by decide))
                    · first | exact fun _ => rfl | exact rfl
                    · first | exact f3 | exact fun h => h.elim f3.out (fun e => absurd e (by decide))
                    · first | exact f4 | exact fun h => h.elim f4.out (fun e => absurd e (by decide))
                    · first | exact f5 | exact fun h => h.elim f5.out (fun e => absurd e (by decide))
                    · first | exact f6 | exact fun h => h.elim f6.out (fun e => absurd e (by decide))
                    · first | exact f7 | exact fun h => h.elim f7.out (fun e => absurd e (by decide))
                    · first | exact fun _ => rfl | exact rfl
                    · first | exact rfl | exact fun _ => rfl
                    · first | exact f10 | exact fun h => h.elim f10.out (fun e => absurd e (by decide))
                  · rintro D a wg ⟨u64, u65, u66, u67, u68, u69, u70, u71, u72, u73, u74, rfl, hbr, f0, f1, f2, f3, f4, f5, f6, f7, f8, f9, f10⟩ hnd hd
                    have d2 := hd 2 (by decide)
                    obtain rfl := f2.out d2
                    have d9 := hd 9 (by decide)
                    obtain rfl := f9.out d9
                    clear hd
                    go_wp2_with (first | (go_at_call 36; refine (rnext_l _ _ HNL.out (by omega)).mono ?_; rintro e wn ⟨⟨t, rfl, ht1, ht2, ht3⟩, hnew⟩) | (go_at_call 35; refine (HLE.out _ ht1 ht2 _).mono ?_; rintro e wz ⟨rfl, rfl⟩))
                    refine ⟨_, _, _, _, _, _, _, _, _, _, _, rfl, hbr, ?_, ?_, ?_, ?_, ?_, ?_, ?_, ?_, ?_, ?_, ?_⟩
                    · first | exact f0 | exact fun h => h.elim f0.out (fun e => absurd e (by decide))
                    · first | exact f1 | exact fun h => h.elim f1.out (fun e => absurd e (by decide))
                    · first | exact fun _ => rfl | exact rfl
                    · first | exact f3 | exact fun h => h.elim f3.out (fun e => absurd e (by decide))
                    · first | exact f4 | exact fun h => h.elim f4.out (fun e => absurd e (by decide))
                    · first | exact f5 | exact fun h => h.elim f5.out (fun e => absurd e (by decide))
                    · first | exact f6 | exact fun h => h.elim f6.out (fun e => absurd e (by decide))
                    · first | exact f7 | exact fun h => h.elim f7.out (fun e => absurd e (by decide))
                    · first | exact f8 | exact fun h => h.elim f8.out (fun e => absurd e (by decide))
                    · first | exact fun _ => rfl | exact rfl
                    · first | exact rfl | exact fun _ => rfl
                simp only [putAll, List.setIfInBounds_toArray, List.set_cons_succ, List.set_cons_zero]
                rintro D a wg hall ⟨u64, u65, u66, u67, u68, u69, u70, u71, u72, u73, u74, rfl, hbr, f0, f1, f2, f3, f4, f5, f6, f7, f8, f9, f10⟩
                obtain rfl := f0.out (hall 0 (by decide))
                obtain rfl := f1.out (hall 1 (by decide))
                obtain rfl := f2.out (hall 2 (by decide))
                obtain rfl := f3.out (hall 3 (by decide))
                obtain ⟨t, rfl, ht1, ht2, ht3⟩ := f4.out (hall 4 (by decide))
                obtain rfl := f5.out (hall 5 (by decide))
                obtain rfl := f6.out (hall 6 (by decide))
                obtain rfl := f7.out (hall 7 (by decide))
                obtain rfl := f8.out (hall 8 (by decide))
                obtain rfl := f9.out (hall 9 (by decide))
                obtain rfl := f10.out (hall 10 (by decide))
                clear hall f0 f1 f2 f3 f4 f5 f6 f7 f8 f9 f10
                have h2g := Below.trans (Below.drew (below_dn (Below.refl w2.heap.size w2) n1)) hbr
                clear hbr
                go_wp2
                go_ret2
                exact ParsePost.bad HS.out (hb1.trans ((hbr2.trans (h2g.mono hbr2.size)).mono hb1.size))
              | true =>
                rw [hB] at hAF
                have HLE : Hid (∀ t, Wd.natDec t = true → Wd.natVal t = Wd.natVal (lastS E) + 1 → ∀ w, Calls Tryz.prog 35 #[S8 t, S8 pa] w fun e w' => e = .returned (.bool true) ∧ w' = w) := fun t h1 h2 w => by have h := rless_any t pa w; rw [Wd.lessS_iff h1 HN.out, h2, hB] at h; exact h
                clear hB
                have HAF := hAF
                obtain ⟨L, hL⟩ : ∃ L, L = lastS E := ⟨_, rfl⟩
                have HLL := Lib.hid hL
                rw [← hL] at HNL HLE hll
                rw [← hL]
                clear hL
                go_wp2_with fail
                refine wp_region_inv (fun a0 w0 D a wv => ∃ u64 u65 u66 u67 u68 u69 u70 u71 u72 u73 u74 : Value, a = putAll a0 [(64, u64), (65, u65), (66, u66), (67, u67), (68, u68), (69, u69), (70, u70), (71, u71), (72, u72), (73, u73), (74, u74)] ∧ Below w0.heap.size w0 wv ∧ Hid (D 0 → u64 = .int .i64 k) ∧ Hid (D 1 → u65 = .bool true) ∧ Hid (D 2 → u66 = .bool true) ∧ Hid (D 3 → u67 = S8 L) ∧ Hid (D 4 → ∃ t, u68 = S8 t ∧ Wd.natDec t = true ∧ Wd.natVal t = Wd.natVal L + 1 ∧ t.length ≤ L.length + 1) ∧ Hid (D 5 → u69 = .slice (some ⟨b9, o9, none⟩) 1 cap9) ∧ Hid (D 6 → u70 = .pointer (some ⟨b9, o9, none⟩)) ∧ Hid (D 7 → u71 = S8 pa) ∧ Hid (D 8 → u72 = .bool true) ∧ Hid (D 9 → u73 = .bool false) ∧ Hid (D 10 → u74 = .bool false)) rfl ?_ ?_ ?_
                ·
                  simp only [putAll, List.setIfInBounds_toArray, List.set_cons_succ, List.set_cons_zero]
                  exact ⟨_, _, _, _, _, _, _, _, _, _, _, rfl, Below.refl _ _, fun h => h.elim, fun h => h.elim, fun h => h.elim, fun h => h.elim, fun h => h.elim, fun h => h.elim, fun h => h.elim, fun h => h.elim, fun h => h.elim, fun h => h.elim, fun h => h.elim⟩
                ·
                  simp only [putAll, List.setIfInBounds_toArray, List.set_cons_succ, List.set_cons_zero]
                  refine StepsAll.cons ?_ (StepsAll.cons ?_ (StepsAll.cons ?_ (StepsAll.cons ?_ (StepsAll.cons ?_ (StepsAll.cons ?_ (StepsAll.cons ?_ (StepsAll.cons ?_ (StepsAll.cons ?_ (StepsAll.cons ?_ (StepsAll.cons ?_ StepsAll.nil))))))))))
                  · rintro D a wg ⟨u64, u65, u66, u67, u68, u69, u70, u71, u72, u73, u74, rfl, hbr, f0, f1, f2, f3, f4, f5, f6, f7, f8, f9, f10⟩ hnd hd
                    clear hd
                    go_wp2_with (first | (go_at_call 36; refine (rnext_l _ _ HNL.out (by omega)).mono ?_; rintro e wn ⟨⟨t, rfl, ht1, ht2, ht3⟩, hnew⟩) | (go_at_call 35; refine (HLE.out _ ht1 ht2 _).mono ?_; rintro e wz ⟨rfl, rfl⟩))
                    refine ⟨_, _, _, _, _, _, _, _, _, _, _, rfl, hbr, ?_, ?_, ?_, ?_, ?_, ?_, ?_, ?_, ?_, ?_, ?_⟩
                    · first | exact rfl | exact fun _ => rfl
                    · first | exact f1 | exact fun h => h.elim f1.out (fun e => absurd e (by decide))
                    · first | exact f2 | exact fun h => h.elim f2.out (fun e => absurd e (by decide))
                    · first | exact f3 | exact fun h => h.elim f3.out (fun e => absurd e (by decide))
                    · first | exact f4 | exact fun h => h.elim f4.out (fun e => absurd e (by decide))
                    · first | exact f5 | exact fun h => h.elim f5.out (fun e => absurd e (by decide))
                    · first | exact f6 | exact fun h => h.elim f6.out (fun e => absurd e (by decide))
                    · first | exact f7 | exact fun h => h.elim f7.out (fun e => absurd e (by decide))
                    · first | exact f8 | exact fun h => h.elim f8.out (fun e => absurd e (by decide))
                    · first | exact f9 | exact fun h => h.elim f9.out (fun e => absurd e (by decide))
                    · first | exact f10 | exact fun h => h.elim f10.out (fun e => absurd e (by decide))
                  · rintro D a wg ⟨u64, u65, u66, u67, u68, u69, u70, u71, u72, u73, u74, rfl, hbr, f0, f1, f2, f3, f4, f5, f6, f7, f8, f9, f10⟩ hnd hd
                    have d0 := hd 0 (by decide)
                    obtain rfl := f0.out d0
                    clear hd
                    go_wp2_with (first | (go_at_call 36; refine (rnext_l _ _ HNL.out (by omega)).mono ?_; rintro e wn ⟨⟨t, rfl, ht1, ht2, ht3⟩, hnew⟩) | (go_at_call 35; refine (HLE.out _ ht1 ht2 _).mono ?_; rintro e wz ⟨rfl, rfl⟩))
                    refine ⟨_, _, _, _, _, _, _, _, _, _, _, rfl, hbr, ?_, ?_, ?_, ?_, ?_, ?_, ?_, ?_, ?_, ?_, ?_⟩
                    · first | exact fun _ => rfl | exact rfl
                    · first | exact rfl | exact fun _ => rfl
                    · first | exact f2 | exact fun h => h.elim f2.out (fun e => absurd e (by decide))
                    · first | exact f3 | exact fun h => h.elim f3.out (fun e => absurd e (by decide))
                    · first | exact f4 | exact fun h => h.elim f4.out (fun e => absurd e (by decide))
                    · first | exact f5 | exact fun h => h.elim f5.out (fun e => absurd e (by decide))
                    · first | exact f6 | exact fun h => h.elim f6.out (fun e => absurd e (by decide))
                    · first | exact f7 | exact fun h => h.elim f7.out (fun e => absurd e (by decide))
                    · first | exact f8 | exact fun h => h.elim f8.out (fun e => absurd e (by decide))
                    · first | exact f9 | exact fun h => h.elim f9.out (fun e => absurd e (by decide))
                    · first | exact f10 | exact fun h => h.elim f10.out (fun e => absurd e (by decide))
                  · rintro D a wg ⟨u64, u65, u66, u67, u68, u69, u70, u71, u72, u73, u74, rfl, hbr, f0, f1, f2, f3, f4, f5, f6, f7, f8, f9, f10⟩ hnd hd
                    have d1 := hd 1 (by decide)
                    obtain rfl := f1.out d1
                    clear hd
                    go_wp2_with (first | (go_at_call 36; refine (rnext_l _ _ HNL.out (by omega)).mono ?_; rintro e wn ⟨⟨t, rfl, ht1, ht2, ht3⟩, hnew⟩) | (go_at_call 35; refine (HLE.out _ ht1 ht2 _).mono ?_; rintro e wz ⟨rfl, rfl⟩))
                    refine ⟨_, _, _, _, _, _, _, _, _, _, _, rfl, hbr, ?_, ?_, ?_, ?_, ?_, ?_, ?_, ?_, ?_, ?_, ?_⟩
                    · first | exact f0 | exact fun h => h.elim f0.out (fun e => absurd e (by decide))
                    · first | exact fun _ => rfl | exact rfl
                    · first | exact rfl | exact fun _ => rfl
                    · first | exact f3 | exact fun h => h.elim f3.out (fun e => absurd e (by decide))
                    · first | exact f4 | exact fun h => h.elim f4.out (fun e => absurd e (by decide))
                    · first | exact f5 | exact fun h => h.elim f5.out (fun e => absurd e (by decide))
                    · first | exact f6 | exact fun h => h.elim f6.out (fun e => absurd e (by decide))
                    · first | exact f7 | exact fun h => h.elim f7.out (fun e => absurd e (by decide))
                    · first | exact f8 | exact fun h => h.elim f8.out (fun e => absurd e (by decide))
                    · first | exact f9 | exact fun h => h.elim f9.out (fun e => absurd e (by decide))
                    · first | exact f10 | exact fun h => h.elim f10.out (fun e => absurd e (by decide))
                  · rintro D a wg ⟨u64, u65, u66, u67, u68, u69, u70, u71, u72, u73, u74, rfl, hbr, f0, f1, f2, f3, f4, f5, f6, f7, f8, f9, f10⟩ hnd hd
                    have d2 := hd 2 (by decide)
                    obtain rfl := f2.out d2
                    clear hd
                    go_wp2_with (first | (go_at_call 36; refine (rnext_l _ _ HNL.out (by omega)).mono ?_; rintro e wn ⟨⟨t, rfl, ht1, ht2, ht3⟩, hnew⟩) | (go_at_call 35; refine (HLE.out _ ht1 ht2 _).mono ?_; rintro e wz ⟨rfl, rfl⟩))
                    refine ⟨_, _, _, _, _, _, _, _, _, _, _, rfl, hbr, ?_, ?_, ?_, ?_, ?_, ?_, ?_, ?_, ?_, ?_, ?_⟩
                    · first | exact f0 | exact fun h => h.elim f0.out (fun e => absurd e (by decide))
                    · first | exact f1 | exact fun h => h.elim f1.out (fun e => absurd e (by decide))
                    · first | exact fun _ => rfl | exact rfl
                    · first | exact rfl | exact fun _ => rfl
                    · first | exact f4 | exact fun h => h.elim f4.out (fun e => absurd e (by decide))
                    · first | exact f5 | exact fun h => h.elim f5.out (fun e => absurd e (by decide))
                    · first | exact f6 | exact fun h => h.elim f6.out (fun e => absurd e (by decide))
                    · first | exact f7 | exact fun h => h.elim f7.out (fun e => absurd e (by decide))
                    · first | exact f8 | exact fun h => h.elim f8.out (fun e => absurd e (by decide))
                    · first | exact f9 | exact fun h => h.elim f9.out (fun e => absurd e (by decide))
                    · first | exact f10 | exact fun h => h.elim f10.out (fun e => absurd e (by decide))
                  · rintro D a wg ⟨u64, u65, u66, u67, u68, u69, u70, u71, u72, u73, u74, rfl, hbr, f0, f1, f2, f3, f4, f5, f6, f7, f8, f9, f10⟩ hnd hd
                    have d3 := hd 3 (by decide)
                    obtain rfl := f3.out d3
                    have d2 := hd 2 (by decide)
                    obtain rfl := f2.out d2
                    clear hd
                    go_wp2_with (first | (go_at_call 36; refine (rnext_l _ _ HNL.out (by omega)).mono ?_; rintro e wn ⟨⟨t, rfl, ht1, ht2, ht3⟩, hnew⟩) | (go_at_call 35; refine (HLE.out _ ht1 ht2 _).mono ?_; rintro e wz ⟨rfl, rfl⟩))
                    refine ⟨_, _, _, _, _, _, _, _, _, _, _, rfl, hbr.trans (hnew.mono hbr.size), ?_, ?_, ?_, ?_, ?_, ?_, ?_, ?_, ?_, ?_, ?_⟩
                    · first | exact f0 | exact fun h => h.elim f0.out (fun e => absurd e (by decide))
                    · first | exact f1 | exact fun h => h.elim f1.out (fun e => absurd e (by decide))
                    · first | exact fun _ => rfl | exact rfl
                    · first | exact fun _ => rfl | exact rfl
                    · first | exact ⟨t, rfl, ht1, ht2, ht3⟩ | exact fun _ => ⟨t, rfl, ht1, ht2, ht3⟩
                    · first | exact f5 | exact fun h => h.elim f5.out (fun e => absurd e (by decide))
                    · first | exact f6 | exact fun h => h.elim f6.out (fun e => absurd e (by decide))
                    · first | exact f7 | exact fun h => h.elim f7.out (fun e => absurd e (by decide))
                    · first | exact f8 | exact fun h => h.elim f8.out (fun e => absurd e (by decide))
                    · first | exact f9 | exact fun h => h.elim f9.out (fun e => absurd e (by decide))
                    · first | exact f10 | exact fun h => h.elim f10.out (fun e => absurd e (by decide))
                  · rintro D a wg ⟨u64, u65, u66, u67, u68, u69, u70, u71, u72, u73, u74, rfl, hbr, f0, f1, f2, f3, f4, f5, f6, f7, f8, f9, f10⟩ hnd hd
                    have d2 := hd 2 (by decide)
                    obtain rfl := f2.out d2
                    clear hd
                    go_wp2_with (first | (go_at_call 36; refine (rnext_l _ _ HNL.out (by omega)).mono ?_; rintro e wn ⟨⟨t, rfl, ht1, ht2, ht3⟩, hnew⟩) | (go_at_call 35; refine (HLE.out _ ht1 ht2 _).mono ?_; rintro e wz ⟨rfl, rfl⟩))
                    refine ⟨_, _, _, _, _, _, _, _, _, _, _, rfl, hbr, ?_, ?_, ?_, ?_, ?_, ?_, ?_, ?_, ?_, ?_, ?_⟩
                    · first | exact f0 | exact fun h => h.elim f0.out (fun e => absurd e (by decide))
                    · first | exact f1 | exact fun h => h.elim f1.out (fun e => absurd e (by decide))
                    · first | exact fun _ => rfl | exact rfl
                    · first | exact f3 | exact fun h => h.elim f3.out (fun e => absurd e (by decide))
                    · first | exact f4 | exact fun h => h.elim f4.out (fun e => absurd e (by decide))
                    · first | exact rfl | exact fun _ => rfl
                    · first | exact f6 | exact fun h => h.elim f6.out (fun e => absurd e (by decide))
                    · first | exact f7 | exact fun h => h.elim f7.out (fun e => absurd e (by decide))
                    · first | exact f8 | exact fun h => h.elim f8.out (fun e => absurd e (by decide))
                    · first | exact f9 | exact fun h => h.elim f9.out (fun e => absurd e (by decide))
                    · first | exact f10 | exact fun h => h.elim f10.out (fun e => absurd e (by decide))
                  · rintro D a wg ⟨u64, u65, u66, u67, u68, u69, u70, u71, u72, u73, u74, rfl, hbr, f0, f1, f2, f3, f4, f5, f6, f7, f8, f9, f10⟩ hnd hd
                    have d5 := hd 5 (by decide)
                    obtain rfl := f5.out d5
                    have d2 := hd 2 (by decide)
                    obtain rfl := f2.out d2
                    clear hd
                    go_wp2_with (first | (go_at_call 36; refine (rnext_l _ _ HNL.out (by omega)).mono ?_; rintro e wn ⟨⟨t, rfl, ht1, ht2, ht3⟩, hnew⟩) | (go_at_call 35; refine (HLE.out _ ht1 ht2 _).mono ?_; rintro e wz ⟨rfl, rfl⟩))
                    refine ⟨_, _, _, _, _, _, _, _, _, _, _, rfl, hbr, ?_, ?_, ?_, ?_, ?_, ?_, ?_, ?_, ?_, ?_, ?_⟩
                    · first | exact f0 | exact fun h => h.elim f0.out (fun e => absurd e (by decide))
                    · first | exact f1 | exact fun h => h.elim f1.out (fun e => absurd e (by decide))
                    · first | exact fun _ => rfl | exact rfl
                    · first | exact f3 | exact fun h => h.elim f3.out (fun e => absurd e (by decide))
                    · first | exact f4 | exact fun h => h.elim f4.out (fun e => absurd e (by decide))
                    · first | exact fun _ => rfl | exact rfl
                    · first | exact rfl | exact fun _ => rfl
                    · first | exact f7 | exact fun h => h.elim f7.out (fun e => absurd e (by decide))
                    · first | exact f8 | exact fun h => h.elim f8.out (fun e => absurd e (by decide))
                    · first | exact f9 | exact fun h => h.elim f9.out (fun e => absurd e (by decide))
                    · first | exact f10 | exact fun h => h.elim f10.out (fun e => absurd e (by decide))
                  · rintro D a wg ⟨u64, u65, u66, u67, u68, u69, u70, u71, u72, u73, u74, rfl, hbr, f0, f1, f2, f3, f4, f5, f6, f7, f8, f9, f10⟩ hnd hd
                    have d6 := hd 6 (by decide)
                    obtain rfl := f6.out d6
                    have d2 := hd 2 (by decide)
                    obtain rfl := f2.out d2
                    clear hd
                    have cA := (hbr.cell (p := ⟨b9, o9, none⟩) hlt9).trans c9
                    go_wp2_with (first | (go_at_call 36; refine (rnext_l _ _ HNL.out (by omega)).mono ?_; rintro e wn ⟨⟨t, rfl, ht1, ht2, ht3⟩, hnew⟩) | (go_at_call 35; refine (HLE.out _ ht1 ht2 _).mono ?_; rintro e wz ⟨rfl, rfl⟩))
                    refine ⟨_, _, _, _, _, _, _, _, _, _, _, rfl, hbr, ?_, ?_, ?_, ?_, ?_, ?_, ?_, ?_, ?_, ?_, ?_⟩
                    · first | exact f0 | exact fun h => h.elim f0.out (fun e => absurd e (by decide))
                    · first | exact f1 | exact fun h => h.elim f1.out (fun e => absurd e (by decide))
                    · first | exact fun _ => rfl | exact rfl
                    · first | exact f3 | exact fun h => h.elim f3.out (fun e => absurd e (by decide))
                    · first | exact f4 | exact fun h => h.elim f4.out (fun e => absurd e (by decide))
                    · first | exact f5 | exact fun h => h.elim f5.out (fun e => absurd e (by decide))
                    · first | exact fun _ => rfl | exact rfl
                    · first | exact rfl | exact fun _ => rfl
                    · first | exact f8 | exact fun h => h.elim f8.out (fun e => absurd e (by decide))
                    · first | exact f9 | exact fun h => h.elim f9.out (fun e => absurd e (by decide))
                    · first | exact f10 | exact fun h => h.elim f10.out (fun e => absurd e (by decide))
                  · rintro D a wg ⟨u64, u65, u66, u67, u68, u69, u70, u71, u72, u73, u74, rfl, hbr, f0, f1, f2, f3, f4, f5, f6, f7, f8, f9, f10⟩ hnd hd
                    have d4 := hd 4 (by decide)
                    obtain ⟨t, rfl, ht1, ht2, ht3⟩ := f4.out d4
                    have d7 := hd 7 (by decide)
                    obtain rfl := f7.out d7
                    have d2 := hd 2 (by decide)
                    obtain rfl := f2.out d2
                    clear hd
                    go_wp2_with (first | (go_at_call 36; refine (rnext_l _ _ HNL.out (by omega)).mono ?_; rintro e wn ⟨⟨t, rfl, ht1, ht2, ht3⟩, hnew⟩) | (go_at_call 35; refine (HLE.out _ ht1 ht2 _).mono ?_; rintro e wz ⟨rfl, rfl⟩))
                    refine ⟨_, _, _, _, _, _, _, _, _, _, _, rfl, hbr, ?_, ?_, ?_, ?_, ?_, ?_, ?_, ?_, ?_, ?_, ?_⟩
                    · first | exact f0 | exact fun h => h.elim f0.out (fun e => absurd e (by decide))
                    · first | exact f1 | exact fun h => h.elim f1.out (fun e => absurd e (by decide))
                    · first | exact fun _ => rfl | exact rfl
                    · first | exact f3 | exact fun h => h.elim f3.out (fun e => absurd e (by decide))
                    · exact fun _ => ⟨t, rfl, ht1, ht2, ht3⟩
                    · first | exact f5 | exact fun h => h.elim f5.out (fun e => absurd e (by decide))
                    · first | exact f6 | exact fun h => h.elim f6.out (fun e => absurd e (by decide))
                    · first | exact fun _ => rfl | exact rfl
                    · first | exact rfl | exact fun _ => rfl
                    · first | exact f9 | exact fun h => h.elim f9.out (fun e => absurd e (by decide))
                    · first | exact f10 | exact fun h => h.elim f10.out (fun e => absurd e (by decide))
                  · rintro D a wg ⟨u64, u65, u66, u67, u68, u69, u70, u71, u72, u73, u74, rfl, hbr, f0, f1, f2, f3, f4, f5, f6, f7, f8, f9, f10⟩ hnd hd
                    have d8 := hd 8 (by decide)
                    obtain rfl := f8.out d8
                    have d2 := hd 2 (by decide)
                    obtain rfl := f2.out d2
                    clear hd
                    go_wp2_with (first | (go_at_call 36; refine (rnext_l _ _ HNL.out (by omega)).mono ?_; rintro e wn ⟨⟨t, rfl, ht1, ht2, ht3⟩, hnew⟩) | (go_at_call 35; refine (HLE.out _ ht1 ht2 _).mono ?_; rintro e wz ⟨rfl, rfl⟩))
                    refine ⟨_, _, _, _, _, _, _, _, _, _, _, rfl, hbr, ?_, ?_, ?_, ?_, ?_, ?_, ?_, ?_, ?_, ?_, ?_⟩
                    · first | exact f0 | exact fun h => h.elim f0.out (fun e => absurd e (by decide))
                    · first | exact f1 | exact fun h => h.elim f1.out (fun e => absurd e (by decide))
                    · first | exact fun _ => rfl | exact rfl
                    · first | exact f3 | exact fun h => h.elim f3.out (fun e => absurd e (by decide))
                    · first | exact f4 | exact fun h => h.elim f4.out (fun e => absurd e (by decide))
                    · first | exact f5 | exact fun h => h.elim f5.out (fun e => absurd e (by decide))
                    · first | exact f6 | exact fun h => h.elim f6.out (fun e => absurd e (by decide))
                    · first | exact f7 | exact fun h => h.elim f7.out (fun e => absurd e (by decide))
                    · first | exact fun _ => rfl | exact rfl
                    · first | exact rfl | exact fun _ => rfl
                    · first | exact f10 | exact fun h => h.elim f10.out (fun e => absurd e (by decide))
                  · rintro D a wg ⟨u64, u65, u66, u67, u68, u69, u70, u71, u72, u73, u74, rfl, hbr, f0, f1, f2, f3, f4, f5, f6, f7, f8, f9, f10⟩ hnd hd
                    have d2 := hd 2 (by decide)
                    obtain rfl := f2.out d2
                    have d9 := hd 9 (by decide)
                    obtain rfl := f9.out d9
                    clear hd
                    go_wp2_with (first | (go_at_call 36; refine (rnext_l _ _ HNL.out (by omega)).mono ?_; rintro e wn ⟨⟨t, rfl, ht1, ht2, ht3⟩, hnew⟩) | (go_at_call 35; refine (HLE.out _ ht1 ht2 _).mono ?_; rintro e wz ⟨rfl, rfl⟩))
                    refine ⟨_, _, _, _, _, _, _, _, _, _, _, rfl, hbr, ?_, ?_, ?_, ?_, ?_, ?_, ?_, ?_, ?_, ?_, ?_⟩
                    · first | exact f0 | exact fun h => h.elim f0.out (fun e => absurd e (by decide))
                    · first | exact f1 | exact fun h => h.elim f1.out (fun e => absurd e (by decide))
                    · first | exact fun _ => rfl | exact rfl
                    · first | exact f3 | exact fun h => h.elim f3.out (fun e => absurd e (by decide))
                    · first | exact f4 | exact fun h => h.elim f4.out (fun e => absurd e (by decide))
                    · first | exact f5 | exact fun h => h.elim f5.out (fun e => absurd e (by decide))
                    · first | exact f6 | exact fun h => h.elim f6.out (fun e => absurd e (by decide))
                    · first | exact f7 | exact fun h => h.elim f7.out (fun e => absurd e (by decide))
                    · first | exact f8 | exact fun h => h.elim f8.out (fun e => absurd e (by decide))
                    · first | exact fun _ => rfl | exact rfl
                    · first | exact rfl | exact fun _ => rfl
                simp only [putAll, List.setIfInBounds_toArray, List.set_cons_succ, List.set_cons_zero]
                rintro D a wg hall ⟨u64, u65, u66, u67, u68, u69, u70, u71, u72, u73, u74, rfl, hbr, f0, f1, f2, f3, f4, f5, f6, f7, f8, f9, f10⟩
                obtain rfl := f0.out (hall 0 (by decide))
                obtain rfl := f1.out (hall 1 (by decide))
                obtain rfl := f2.out (hall 2 (by decide))
                obtain rfl := f3.out (hall 3 (by decide))
                obtain ⟨t, rfl, ht1, ht2, ht3⟩ := f4.out (hall 4 (by decide))
                obtain rfl := f5.out (hall 5 (by decide))
                obtain rfl := f6.out (hall 6 (by decide))
                obtain rfl := f7.out (hall 7 (by decide))
                obtain rfl := f8.out (hall 8 (by decide))
                obtain rfl := f9.out (hall 9 (by decide))
                obtain rfl := f10.out (hall 10 (by decide))
                clear hall f0 f1 f2 f3 f4 f5 f6 f7 f8 f9 f10
                have h2g := Below.trans (Below.drew (below_dn (Below.refl w2.heap.size w2) n1)) hbr
                clear hbr
                have hEl := hP.out.len
                have hof3 := hof2.below h2g
                have hog3 := hog2.below h2g
                have hbr3 := hbr2.trans (h2g.mono hbr2.size)
                have gc9 := (h2g.cell (p := ⟨b9, o9, none⟩) hlt9).trans c9
                have hlo6 := hog3.lt
                have HST := Lib.hid (hP.out.step hlt HE.out HAF)
                have hsz3 := hbr3.size
                clear hP c7 hof2 hog2 hbr2 h2g
                go_wp2_with (first | (at_builtin; refine appL_at elS _ rfl _ _ rfl w1.heap.size _ _ pa rfl (hof3.alloc _) _ 1 rfl (newS _ _ _ _ rfl) (by rw [List.length_map]; unfold maxLen; omega) (by rw [List.length_map]; omega) (by simp; omega) ?_; rintro v5 w5 hof5 hgr5 ⟨g5, cc5, rfl⟩ hat5; have hbr5 := below_appL (hbr3.alloc hsz3 _) (hof3.alloc _) hgr5 (by simp; omega); have hap5 := hat5 _ hap (fun i h => by have := (hlo6 i h).2; simp; omega); have hog5 := (hog3.alloc _).kept hgr5 hap.ne; have hsz5 := hbr5.size; have hlo5 := hof5.lt; clear hof3 hgr5 hat5) | (at_builtin; refine appL_at elS _ rfl _ _ rfl w1.heap.size _ _ pa rfl (hog5.alloc _) _ 1 rfl (newS _ _ _ _ rfl) (by rw [List.length_map]; unfold maxLen; omega) (by rw [List.length_map]; omega) (by simp; omega) ?_; rintro v6 w6 hog6 hgr6 ⟨g6, cc6, rfl⟩ hat6; have hbr6 := below_appL (hbr5.alloc hsz5 _) (hog5.alloc _) hgr6 (by simp; omega); have hap6 := hat6 _ hap5.symm (fun i h => by have := (hlo5 i h).2; simp; omega); have hof6 := (hof5.alloc _).kept hgr6 hap5.symm.ne; clear hgr6 hat6))
                go_roundw
                case rel => exact ⟨k + 1, E ++ [(pa, pa)], by omega, by go_num, HST, len_snoc hPL0.out (by omega), by rw [lastS_snoc], by simpa [hEl] using hof6, by simpa [hEl] using hog6, hap6.symm, hbr6⟩
                case measure => simp [intOf]; omega
            · have hE0 : E = [] := List.eq_nil_of_length_eq_zero (by have := hP.out.len; omega)
              have HAF : Wd.after (E.getLast?.map (·.2)) pa = true := by rw [hE0]; rfl
              have g0 : decide ((0 : Int) < (k : Int)) = false := by simp; omega
              clear HLN hE0
              go_wp2_with fail
              go_quiet (fail)
              have h2g := below_dn (Below.refl w2.heap.size w2) (n1 + nq)
              have hEl := hP.out.len
              have hof3 := hof2.below h2g
              have hog3 := hog2.below h2g
              have hbr3 := hbr2.trans (h2g.mono hbr2.size)
              have gc9 := (h2g.cell (p := ⟨b9, o9, none⟩) hlt9).trans c9
              have hlo6 := hog2.lt
              have HST := Lib.hid (hP.out.step hlt HE.out HAF)
              have hsz3 := hbr2.size
              clear hP c7 hof2 hog2 hbr2 h2g
              go_wp2_with (first | (at_builtin; refine appL_at elS _ rfl _ _ rfl w1.heap.size _ _ pa rfl (hof3.alloc _) _ 1 rfl (newS _ _ _ _ rfl) (by rw [List.length_map]; unfold maxLen; omega) (by rw [List.length_map]; omega) (by simp; omega) ?_; rintro v5 w5 hof5 hgr5 ⟨g5, cc5, rfl⟩ hat5; have hbr5 := below_appL (hbr3.alloc hsz3 _) (hof3.alloc _) hgr5 (by simp; omega); have hap5 := hat5 _ hap (fun i h => by have := (hlo6 i h).2; simp; omega); have hog5 := (hog3.alloc _).kept hgr5 hap.ne; have hsz5 := hbr5.size; have hlo5 := hof5.lt; clear hof3 hgr5 hat5) | (at_builtin; refine appL_at elS _ rfl _ _ rfl w1.heap.size _ _ pa rfl (hog5.alloc _) _ 1 rfl (newS _ _ _ _ rfl) (by rw [List.length_map]; unfold maxLen; omega) (by rw [List.length_map]; omega) (by simp; omega) ?_; rintro v6 w6 hog6 hgr6 ⟨g6, cc6, rfl⟩ hat6; have hbr6 := below_appL (hbr5.alloc hsz5 _) (hog5.alloc _) hgr6 (by simp; omega); have hap6 := hat6 _ hap5.symm (fun i h => by have := (hlo5 i h).2; simp; omega); have hof6 := (hof5.alloc _).kept hgr6 hap5.symm.ne; clear hgr6 hat6))
              go_roundw
              case rel => exact ⟨k + 1, E ++ [(pa, pa)], by omega, by go_num, HST, len_snoc hPL0.out (by omega), by rw [lastS_snoc], by simpa [hEl] using hof6, by simpa [hEl] using hog6, hap6.symm, hbr6⟩
              case measure => simp [intOf]; omega
        · have c9 := hc9.out 0 (by simp)
          have c9b := hc9.out 1 (by simp)
          have hal := hpl9.out pa (by simp)
          have hbl := hpl9.out pb (by simp)
          have hdc := fun w => rdec_l pa w (by unfold maxLen; omega) (hno9.out pa (by simp))
          have hdb := fun w => rdec_l pb w (by unfold maxLen; omega) (hno9.out pb (by simp))
          have hls := fun w => rless_any pa pb w
          have he := hE2 rfl
          simp only [List.getElem_cons_zero, List.getElem_cons_succ, Nat.add_zero] at c9 c9b
          simp only [List.length_cons, List.length_nil, Nat.zero_add, Nat.reduceAdd]
          cases hd : Wd.natDec pa with
          | false =>
            rw [hd] at hdc he
            have HS := Lib.hid (HB.out (hP.out.bad hlt (by simpa using he)))
            have HD := Lib.hid hdc
            clear hE1 hE2 hE3 hc9 hpl9 hno9 hdc he hd hdb hls
            go_wp2
            go_quiet (first | (go_at_call 34; refine Calls.quiet_of_same (HD.out _)))
            go_wp2
            go_ret2
            exact ParsePost.bad HS.out (hb1.trans ((below_dn hbr2 _).mono hb1.size))
          | true =>
          cases hd2 : Wd.natDec pb with
          | false =>
            rw [hd] at hdc he
            rw [hd2] at hdb he
            have HS := Lib.hid (HB.out (hP.out.bad hlt (by simpa using he)))
            have HD := Lib.hid hdc
            have HD2 := Lib.hid hdb
            clear hE1 hE2 hE3 hc9 hpl9 hno9 hdc he hd hdb hls hd2
            go_wp2
            go_quiet (first | (go_at_call_of 34 (S8 pa); refine Calls.quiet_of_same (HD.out _)) | (go_at_call_of 34 (S8 pb); refine Calls.quiet_of_same (HD2.out _)))
            go_wp2
            go_ret2
            exact ParsePost.bad HS.out (hb1.trans ((below_dn hbr2 _).mono hb1.size))
          | true =>
          rw [Wd.lessS_iff hd hd2] at hls
          cases hd3 : decide (Wd.natVal pa < Wd.natVal pb) with
          | false =>
            rw [hd] at hdc he
            rw [hd2] at hdb he
            rw [hd3] at hls he
            have HS := Lib.hid (HB.out (hP.out.bad hlt (by simpa using he)))
            have HD := Lib.hid hdc
            have HD2 := Lib.hid hdb
            have HL := Lib.hid hls
            clear hE1 hE2 hE3 hc9 hpl9 hno9 hdc he hd hdb hls hd2 hd3
            go_wp2
            go_quiet (first | (go_at_call_of 34 (S8 pa); refine Calls.quiet_of_same (HD.out _)) | (go_at_call_of 34 (S8 pb); refine Calls.quiet_of_same (HD2.out _)) | (go_at_call 35; refine Calls.quiet_of_same (HL.out _)))
            go_wp2
            go_ret2
            exact ParsePost.bad HS.out (hb1.trans ((below_dn hbr2 _).mono hb1.size))
          | true =>
            rw [hd] at hdc he
            rw [hd2] at hdb he
            rw [hd3] at hls he
            have HD := Lib.hid hdc
            have HD2 := Lib.hid hdb
            have HL := Lib.hid hls
            have HE := Lib.hid (show Wd.ends1 rs[k] = some (pa, pb) from by simpa using he)
            have HN := Lib.hid hd
            clear hE1 hE2 hE3 hc9 hpl9 hno9 hdc he hd hdb hls hd2 hd3
            go_wp2
            go_quiet (first | (go_at_call_of 34 (S8 pa); refine Calls.quiet_of_same (HD.out _)) | (go_at_call_of 34 (S8 pb); refine Calls.quiet_of_same (HD2.out _)) | (go_at_call 35; refine Calls.quiet_of_same (HL.out _)))
            obtain ⟨n1, rfl⟩ : ∃ n1, n1 = nq := ⟨_, rfl⟩
            have HLN : 0 < k → Hid (Wd.natDec (lastS E) = true) ∧ (lastS E).length ≤ 1048576 ∧ E.getLast?.map (·.2) = some (lastS E) := fun h0 => last_of hP.out hPL0.out h0
            have hal0 : pa.length ≤ 1048576 := by omega
            have hbl0 : pb.length ≤ 1048576 := by omega
            by_cases h0 : 0 < k
            · obtain ⟨HNL, hll, hgl⟩ := HLN h0
              have i3 : (0 : Int) < (k : Int) := by omega
              have hAF : Wd.after (E.getLast?.map (·.2)) pa = decide (Wd.natVal (lastS E) + 1 < Wd.natVal pa) := by rw [hgl]; rfl
              clear HLN hgl
              cases hB : decide (Wd.natVal (lastS E) + 1 < Wd.natVal pa) with
              | false =>
                rw [hB] at hAF
                have HLE : Hid (∀ t, Wd.natDec t = true → Wd.natVal t = Wd.natVal (lastS E) + 1 → ∀ w, Calls Tryz.prog 35 #[S8 t, S8 pa] w fun e w' => e = .returned (.bool false) ∧ w' = w) := fun t h1 h2 w => by have h := rless_any t pa w; rw [Wd.lessS_iff h1 HN.out, h2, hB] at h; exact h
                clear hB
                have HS := Lib.hid (HB.out (hP.out.not hlt HE.out hAF))
                clear hAF
                obtain ⟨L, hL⟩ : ∃ L, L = lastS E := ⟨_, rfl⟩
                have HLL := Lib.hid hL
                rw [← hL] at HNL HLE hll
                rw [← hL]
                clear hL
                go_wp2_with fail
                refine wp_region_inv (fun a0 w0 D a wv => ∃ u64 u65 u66 u67 u68 u69 u70 u71 u72 u73 u74 : Value, a = putAll a0 [(64, u64), (65, u65), (66, u66), (67, u67), (68, u68), (69, u69), (70, u70), (71, u71), (72, u72), (73, u73), (74, u74)] ∧ Below w0.heap.size w0 wv ∧ Hid (D 0 → u64 = .int .i64 k) ∧ Hid (D 1 → u65 = .bool true) ∧ Hid (D 2 → u66 = .bool true) ∧ Hid (D 3 → u67 = S8 L) ∧ Hid (D 4 → ∃ t, u68 = S8 t ∧ Wd.natDec t = true ∧ Wd.natVal t = Wd.natVal L + 1 ∧ t.length ≤ L.length + 1) ∧ Hid (D 5 → u69 = .slice (some ⟨b9, o9, none⟩) 2 cap9) ∧ Hid (D 6 → u70 = .pointer (some ⟨b9, o9, none⟩)) ∧ Hid (D 7 → u71 = S8 pa) ∧ Hid (D 8 → u72 = .bool false) ∧ Hid (D 9 → u73 = .bool true) ∧ Hid (D 10 → u74 = .bool true)) rfl ?_ ?_ ?_
                ·
                  simp only [putAll, List.setIfInBounds_toArray, List.set_cons_succ, List.set_cons_zero]
                  exact ⟨_, _, _, _, _, _, _, _, _, _, _, rfl, Below.refl _ _, fun h => h.elim, fun h => h.elim, fun h => h.elim, fun h => h.elim, fun h => h.elim, fun h => h.elim, fun h => h.elim, fun h => h.elim, fun h => h.elim, fun h => h.elim, fun h => h.elim⟩
                ·
                  simp only [putAll, List.setIfInBounds_toArray, List.set_cons_succ, List.set_cons_zero]
                  refine StepsAll.cons ?_ (StepsAll.cons ?_ (StepsAll.cons ?_ (StepsAll.cons ?_ (StepsAll.cons ?_ (StepsAll.cons ?_ (StepsAll.cons ?_ (StepsAll.cons ?_ (StepsAll.cons ?_ (StepsAll.cons ?_ (StepsAll.cons ?_ StepsAll.nil))))))))))
                  · rintro D a wg ⟨u64, u65, u66, u67, u68, u69, u70, u71, u72, u73, u74, rfl, hbr, f0, f1, f2, f3, f4, f5, f6, f7, f8, f9, f10⟩ hnd hd
                    clear hd
                    go_wp2_with (first | (go_at_call 36; refine (rnext_l _ _ HNL.out (by omega)).mono ?_; rintro e wn ⟨⟨t, rfl, ht1, ht2, ht3⟩, hnew⟩) | (go_at_call 35; refine (HLE.out _ ht1 ht2 _).mono ?_; rintro e wz ⟨rfl, rfl⟩))
                    refine ⟨_, _, _, _, _, _, _, _, _, _, _, rfl, hbr, ?_, ?_, ?_, ?_, ?_, ?_, ?_, ?_, ?_, ?_, ?_⟩
                    · first | exact rfl | exact fun _ => rfl
                    · first | exact f1 | exact fun h => h.elim f1.out (fun e => absurd e (by decide))
                    · first | exact f2 | exact fun h => h.elim f2.out (fun e => absurd e (by decide))
                    · first | exact f3 | exact fun h => h.elim f3.out (fun e => absurd e (by decide))
                    · first | exact f4 | exact fun h => h.elim f4.out (fun e => absurd e (by decide))
                    · first | exact f5 | exact fun h => h.elim f5.out (fun e => absurd e (by decide))
                    · first | exact f6 | exact fun h => h.elim f6.out (fun e => absurd e (by decide))
                    · first | exact f7 | exact fun h => h.elim f7.out (fun e => absurd e (by decide))
                    · first | exact f8 | exact fun h => h.elim f8.out (fun e => absurd e (by decide))
                    · first | exact f9 | exact fun h => h.elim f9.out (fun e => absurd e (by decide))
                    · first | exact f10 | exact fun h => h.elim f10.out (fun e => absurd e (by decide))
                  · rintro D a wg ⟨u64, u65, u66, u67, u68, u69, u70, u71, u72, u73, u74, rfl, hbr, f0, f1, f2, f3, f4, f5, f6, f7, f8, f9, f10⟩ hnd hd
                    have d0 := hd 0 (by decide)
                    obtain rfl := f0.out d0
                    clear hd
                    go_wp2_with (first | (go_at_call 36; refine (rnext_l _ _ HNL.out (by omega)).mono ?_; rintro e wn ⟨⟨t, rfl, ht1, ht2, ht3⟩, hnew⟩) | (go_at_call 35; refine (HLE.out _ ht1 ht2 _).mono ?_; rintro e wz ⟨rfl, rfl⟩))
                    refine ⟨_, _, _, _, _, _, _, _, _, _, _, rfl, hbr, ?_, ?_, ?_, ?_, ?_, ?_, ?_, ?_, ?_, ?_, ?_⟩
                    · first | exact fun _ => rfl | exact rfl
                    · first | exact rfl | exact fun _ => rfl
                    · first | exact f2 | exact fun h => h.elim f2.out (fun e => absurd e (by decide))
                    · first | exact f3 | exact fun h => h.elim f3.out (fun e => absurd e (by decide))
                    · first | exact f4 | exact fun h => h.elim f4.out (fun e => absurd e (by decide))
                    · first | exact f5 | exact fun h => h.elim f5.out (fun e => absurd e (by decide))
                    · first | exact f6 | exact fun h => h.elim f6.out (fun e => absurd e (by decide))
                    · first | exact f7 | exact fun h => h.elim f7.out (fun e => absurd e (by decide))
                    · first | exact f8 | exact fun h => h.elim f8.out (fun e => absurd e (by decide))
                    · first | exact f9 | exact fun h => h.elim f9.out (fun e => absurd e (by decide))
                    · first | exact f10 | exact fun h => h.elim f10.out (fun e => absurd e (by decide))
                  · rintro D a wg ⟨u64, u65, u66, u67, u68, u69, u70, u71, u72, u73, u74, rfl, hbr, f0, f1, f2, f3, f4, f5, f6, f7, f8, f9, f10⟩ hnd hd
                    have d1 := hd 1 (by decide)
                    obtain rfl := f1.out d1
                    clear hd
                    go_wp2_with (first | (go_at_call 36; refine (rnext_l _ _ HNL.out (by omega)).mono ?_; rintro e wn ⟨⟨t, rfl, ht1, ht2, ht3⟩, hnew⟩) | (go_at_call 35; refine (HLE.out _ ht1 ht2 _).mono ?_; rintro e wz ⟨rfl, rfl⟩))
                    refine ⟨_, _, _, _, _, _, _, _, _, _, _, rfl, hbr, ?_, ?_, ?_, ?_, ?_, ?_, ?_, ?_, ?_, ?_, ?_⟩
                    · first | exact f0 | exact fun h => h.elim f0.out (fun e => absurd e (by decide))
                    · first | exact fun _ => rfl | exact rfl
                    · first | exact rfl | exact fun _ => rfl
                    · first | exact f3 | exact fun h => h.elim f3.out (fun e => absurd e (by decide))
                    · first | exact f4 | exact fun h => h.elim f4.out (fun e => absurd e (by decide))
                    · first | exact f5 | exact fun h => h.elim f5.out (fun e => absurd e (by decide))
                    · first | exact f6 | exact fun h => h.elim f6.out (fun e => absurd e (by decide))
                    · first | exact f7 | exact fun h => h.elim f7.out (fun e => absurd e (by decide))
                    · first | exact f8 | exact fun h => h.elim f8.out (fun e => absurd e (by decide))
                    · first | exact f9 | exact fun h => h.elim f9.out (fun e => absurd e (by decide))
                    · first | exact f10 | exact fun h => h.elim f10.out (fun e => absurd e (by decide))
                  · rintro D a wg ⟨u64, u65, u66, u67, u68, u69, u70, u71, u72, u73, u74, rfl, hbr, f0, f1, f2, f3, f4, f5, f6, f7, f8, f9, f10⟩ hnd hd
                    have d2 := hd 2 (by decide)
                    obtain rfl := f2.out d2
                    clear hd
                    go_wp2_with (first | (go_at_call 36; refine (rnext_l _ _ HNL.out (by omega)).mono ?_; rintro e wn ⟨⟨t, rfl, ht1, ht2, ht3⟩, hnew⟩) | (go_at_call 35; refine (HLE.out _ ht1 ht2 _).mono ?_; rintro e wz ⟨rfl, rfl⟩))
                    refine ⟨_, _, _, _, _, _, _, _, _, _, _, rfl, hbr, ?_, ?_, ?_, ?_, ?_, ?_, ?_, ?_, ?_, ?_, ?_⟩
                    · first | exact f0 | exact fun h => h.elim f0.out (fun e => absurd e (by decide))
                    · first | exact f1 | exact fun h => h.elim f1.out (fun e => absurd e (by decide))
                    · first | exact fun _ => rfl | exact rfl
                    · first | exact rfl | exact fun _ => rfl
                    · first | exact f4 | exact fun h => h.elim f4.out (fun e => absurd e (by decide))
                    · first | exact f5 | exact fun h => h.elim f5.out (fun e => absurd e (by decide))
                    · first | exact f6 | exact fun h => h.elim f6.out (fun e => absurd e (by decide))
                    · first | exact f7 | exact fun h => h.elim f7.out (fun e => absurd e (by decide))
                    · first | exact f8 | exact fun h => h.elim f8.out (fun e => absurd e (by decide))
                    · first | exact f9 | exact fun h => h.elim f9.out (fun e => absurd e (by decide))
                    · first | exact f10 | exact fun h => h.elim f10.out (fun e => absurd e (by decide))
                  · rintro D a wg ⟨u64, u65, u66, u67, u68, u69, u70, u71, u72, u73, u74, rfl, hbr, f0, f1, f2, f3, f4, f5, f6, f7, f8, f9, f10⟩ hnd hd
                    have d3 := hd 3 (by decide)
                    obtain rfl := f3.out d3
                    have d2 := hd 2 (by decide)
                    obtain rfl := f2.out d2
                    clear hd
                    go_wp2_with (first | (go_at_call 36; refine (rnext_l _ _ HNL.out (by omega)).mono ?_; rintro e wn ⟨⟨t, rfl, ht1, ht2, ht3⟩, hnew⟩) | (go_at_call 35; refine (HLE.out _ ht1 ht2 _).mono ?_; rintro e wz ⟨rfl, rfl⟩))
                    refine ⟨_, _, _, _, _, _, _, _, _, _, _, rfl, hbr.trans (hnew.mono hbr.size), ?_, ?_, ?_, ?_, ?_, ?_, ?_, ?_, ?_, ?_, ?_⟩
                    · first | exact f0 | exact fun h => h.elim f0.out (fun e => absurd e (by decide))
                    · first | exact f1 | exact fun h => h.elim f1.out (fun e => absurd e (by decide))
                    · first | exact fun _ => rfl | exact rfl
                    · first | exact fun _ => rfl | exact rfl
                    · first | exact ⟨t, rfl, ht1, ht2, ht3⟩ | exact fun _ => ⟨t, rfl, ht1, ht2, ht3⟩
                    · first | exact f5 | exact fun h => h.elim f5.out (fun e => absurd e (by decide))
                    · first | exact f6 | exact fun h => h.elim f6.out (fun e => absurd e (by decide))
                    · first | exact f7 | exact fun h => h.elim f7.out (fun e => absurd e (by decide))
                    · first | exact f8 | exact fun h => h.elim f8.out (fun e => absurd e (by decide))
                    · first | exact f9 | exact fun h => h.elim f9.out (fun e => absurd e (by decide))
                    · first | exact f10 | exact fun h => h.elim f10.out (fun e => absurd e (by decide))
                  · rintro D a wg ⟨u64, u65, u66, u67, u68, u69, u70, u71, u72, u73, u74, rfl, hbr, f0, f1, f2, f3, f4, f5, f6, f7, f8, f9, f10⟩ hnd hd
                    have d2 := hd 2 (by decide)
                    obtain rfl := f2.out d2
                    clear hd
                    go_wp2_with (first | (go_at_call 36; refine (rnext_l _ _ HNL.out (by omega)).mono ?_; rintro e wn ⟨⟨t, rfl, ht1, ht2, ht3⟩, hnew⟩) | (go_at_call 35; refine (HLE.out _ ht1 ht2 _).mono ?_; rintro e wz ⟨rfl, rfl⟩))
                    refine ⟨_, _, _, _, _, _, _, _, _, _, _, rfl, hbr, ?_, ?_, ?_, ?_, ?_, ?_, ?_, ?_, ?_, ?_, ?_⟩
                    · first | exact f0 | exact fun h => h.elim f0.out (fun e => absurd e (by decide))
                    · first | exact f1 | exact fun h => h.elim f1.out (fun e => absurd e (by decide))
                    · first | exact fun _ => rfl | exact rfl
                    · first | exact f3 | exact fun h => h.elim f3.out (fun e => absurd e (by decide))
                    · first | exact f4 | exact fun h => h.elim f4.out (fun e => absurd e (by decide))
                    · first | exact rfl | exact fun _ => rfl
                    · first | exact f6 | exact fun h => h.elim f6.out (fun e => absurd e (by decide))
                    · first | exact f7 | exact fun h => h.elim f7.out (fun e => absurd e (by decide))
                    · first | exact f8 | exact fun h => h.elim f8.out (fun e => absurd e (by decide))
                    · first | exact f9 | exact fun h => h.elim f9.out (fun e => absurd e (by decide))
                    · first | exact f10 | exact fun h => h.elim f10.out (fun e => absurd e (by decide))
                  · rintro D a wg ⟨u64, u65, u66, u67, u68, u69, u70, u71, u72, u73, u74, rfl, hbr, f0, f1, f2, f3, f4, f5, f6, f7, f8, f9, f10⟩ hnd hd
                    have d5 := hd 5 (by decide)
                    obtain rfl := f5.out d5
                    have d2 := hd 2 (by decide)
                    obtain rfl := f2.out d2
                    clear hd
                    go_wp2_with (first | (go_at_call 36; refine (rnext_l _ _ HNL.out (by omega)).mono ?_; rintro e wn ⟨⟨t, rfl, ht1, ht2, ht3⟩, hnew⟩) | (go_at_call 35; refine (HLE.out _ ht1 ht2 _).mono ?_; rintro e wz ⟨rfl, rfl⟩))
                    refine ⟨_, _, _, _, _, _, _, _, _, _, _, rfl, hbr, ?_, ?_, ?_, ?_, ?_, ?_, ?_, ?_, ?_, ?_, ?_⟩
                    · first | exact f0 | exact fun h => h.elim f0.out (fun e => absurd e (by decide))
                    · first | exact f1 | exact fun h => h.elim f1.out (fun e => absurd e (by decide))
                    · first | exact fun _ => rfl | exact rfl
                    · first | exact f3 | exact fun h => h.elim f3.out (fun e => absurd e (by decide))
                    · first | exact f4 | exact fun h => h.elim f4.out (fun e => absurd e (by decide))
                    · first | exact fun _ => rfl | exact rfl
                    · first | exact rfl | exact fun _ => rfl
                    · first | exact f7 | exact fun h => h.elim f7.out (fun e => absurd e (by decide))
                    · first | exact f8 | exact fun h => h.elim f8.out (fun e => absurd e (by decide))
                    · first | exact f9 | exact fun h => h.elim f9.out (fun e => absurd e (by decide))
                    · first | exact f10 | exact fun h => h.elim f10.out (fun e => absurd e (by decide))
                  · rintro D a wg ⟨u64, u65, u66, u67, u68, u69, u70, u71, u72, u73, u74, rfl, hbr, f0, f1, f2, f3, f4, f5, f6, f7, f8, f9, f10⟩ hnd hd
                    have d6 := hd 6 (by decide)
                    obtain rfl := f6.out d6
                    have d2 := hd 2 (by decide)
                    obtain rfl := f2.out d2
                    clear hd
                    have cA := (hbr.cell (p := ⟨b9, o9, none⟩) hlt9).trans c9
                    go_wp2_with (first | (go_at_call 36; refine (rnext_l _ _ HNL.out (by omega)).mono ?_; rintro e wn ⟨⟨t, rfl, ht1, ht2, ht3⟩, hnew⟩) | (go_at_call 35; refine (HLE.out _ ht1 ht2 _).mono ?_; rintro e wz ⟨rfl, rfl⟩))
                    refine ⟨_, _, _, _, _, _, _, _, _, _, _, rfl, hbr, ?_, ?_, ?_, ?_, ?_, ?_, ?_, ?_, ?_, ?_, ?_⟩
                    · first | exact f0 | exact fun h => h.elim f0.out (fun e => absurd e (by decide))
                    · first | exact f1 | exact fun h => h.elim f1.out (fun e => absurd e (by decide))
                    · first | exact fun _ => rfl | exact rfl
                    · first | exact f3 | exact fun h => h.elim f3.out (fun e => absurd e (by decide))
                    · first | exact f4 | exact fun h => h.elim f4.out (fun e => absurd e (by decide))
                    · first | exact f5 | exact fun h => h.elim f5.out (fun e => absurd e (by decide))
                    · first | exact fun _ => rfl | exact rfl
                    · first | exact rfl | exact fun _ => rfl
                    · first | exact f8 | exact fun h => h.elim f8.out (fun e => absurd e (by decide))
                    · first | exact f9 | exact fun h => h.elim f9.out (fun e => absurd e (by decide))
                    · first | exact f10 | exact fun h => h.elim f10.out (fun e => absurd e (by decide))
                  · rintro D a wg ⟨u64, u65, u66, u67, u68, u69, u70, u71, u72, u73, u74, rfl, hbr, f0, f1, f2, f3, f4, f5, f6, f7, f8, f9, f10⟩ hnd hd
                    have d4 := hd 4 (by decide)
                    obtain ⟨t, rfl, ht1, ht2, ht3⟩ := f4.out d4
                    have d7 := hd 7 (by decide)
                    obtain rfl := f7.out d7
                    have d2 := hd 2 (by decide)
                    obtain rfl := f2.out d2
                    clear hd
                    go_wp2_with (first | (go_at_call 36; refine (rnext_l _ _ HNL.out (by omega)).mono ?_; rintro e wn ⟨⟨t, rfl, ht1, ht2, ht3⟩, hnew⟩) | (go_at_call 35; refine (HLE.out _ ht1 ht2 _).mono ?_; rintro e wz ⟨rfl, rfl⟩))
                    refine ⟨_, _, _, _, _, _, _, _, _, _, _, rfl, hbr, ?_, ?_, ?_, ?_, ?_, ?_, ?_, ?_, ?_, ?_, ?_⟩
                    · first | exact f0 | exact fun h => h.elim f0.out (fun e => absurd e (by decide))
                    · first | exact f1 | exact fun h => h.elim f1.out (fun e => absurd e (by decide))
                    · first | exact fun _ => rfl | exact rfl
                    · first | exact f3 | exact fun h => h.elim f3.out (fun e => absurd e (by decide))
                    · exact fun _ => ⟨t, rfl, ht1, ht2, ht3⟩
                    · first | exact f5 | exact fun h => h.elim f5.out (fun e => absurd e (by decide))
                    · first | exact f6 | exact fun h => h.elim f6.out (fun e => absurd e (by decide))
                    · first | exact fun _ => rfl | exact rfl
                    · first | exact rfl | exact fun _ => rfl
                    · first | exact f9 | exact fun h => h.elim f9.out (fun e => absurd e (by decide))
                    · first | exact f10 | exact fun h => h.elim f10.out (fun e => absurd e (by decide))
                  · rintro D a wg ⟨u64, u65, u66, u67, u68, u69, u70, u71, u72, u73, u74, rfl, hbr, f0, f1, f2, f3, f4, f5, f6, f7, f8, f9, f10⟩ hnd hd
                    have d8 := hd 8 (by decide)
                    obtain rfl := f8.out d8
                    have d2 := hd 2 (by decide)
                    obtain rfl := f2.out d2
                    clear hd
                    go_wp2_with (first | (go_at_call 36; refine (rnext_l _ _ HNL.out (by omega)).mono ?_; rintro e wn ⟨⟨t, rfl, ht1, ht2, ht3⟩, hnew⟩) | (go_at_call 35; refine (HLE.out _ ht1 ht2 _).mono ?_; rintro e wz ⟨rfl, rfl⟩))
                    refine ⟨_, _, _, _, _, _, _, _, _, _, _, rfl, hbr, ?_, ?_, ?_, ?_, ?_, ?_, ?_, ?_, ?_, ?_, ?_⟩
                    · first | exact f0 | exact fun h => h.elim f0.out (fun e => absurd e (by decide))
                    · first | exact f1 | exact fun h => h.elim f1.out (fun e => absurd e (by decide))
                    · first | exact fun _ => rfl | exact rfl
                    · first | exact f3 | exact fun h => h.elim f3.out (fun e => absurd e (by decide))
                    · first | exact f4 | exact fun h => h.elim f4.out (fun e => absurd e (by decide))
                    · first | exact f5 | exact fun h => h.elim f5.out (fun e => absurd e (by decide))
                    · first | exact f6 | exact fun h => h.elim f6.out (fun e => absurd e (by decide))
                    · first | exact f7 | exact fun h => h.elim f7.out (fun e => absurd e (by decide))
                    · first | exact fun _ => rfl | exact rfl
                    · first | exact rfl | exact fun _ => rfl
                    · first | exact f10 | exact fun h => h.elim f10.out (fun e => absurd e (by decide))
                  · rintro D a wg ⟨u64, u65, u66, u67, u68, u69, u70, u71, u72, u73, u74, rfl, hbr, f0, f1, f2, f3, f4, f5, f6, f7, f8, f9, f10⟩ hnd hd
                    have d2 := hd 2 (by decide)
                    obtain rfl := f2.out d2
                    have d9 := hd 9 (by decide)
                    obtain rfl := f9.out d9
                    clear hd
                    go_wp2_with (first | (go_at_call 36; refine (rnext_l _ _ HNL.out (by omega)).mono ?_; rintro e wn ⟨⟨t, rfl, ht1, ht2, ht3⟩, hnew⟩) | (go_at_call 35; refine (HLE.out _ ht1 ht2 _).mono ?_; rintro e wz ⟨rfl, rfl⟩))
                    refine ⟨_, _, _, _, _, _, _, _, _, _, _, rfl, hbr, ?_, ?_, ?_, ?_, ?_, ?_, ?_, ?_, ?_, ?_, ?_⟩
                    · first | exact f0 | exact fun h => h.elim f0.out (fun e => absurd e (by decide))
                    · first | exact f1 | exact fun h => h.elim f1.out (fun e => absurd e (by decide))
                    · first | exact fun _ => rfl | exact rfl
                    · first | exact f3 | exact fun h => h.elim f3.out (fun e => absurd e (by decide))
                    · first | exact f4 | exact fun h => h.elim f4.out (fun e => absurd e (by decide))
                    · first | exact f5 | exact fun h => h.elim f5.out (fun e => absurd e (by decide))
                    · first | exact f6 | exact fun h => h.elim f6.out (fun e => absurd e (by decide))
                    · first | exact f7 | exact fun h => h.elim f7.out (fun e => absurd e (by decide))
                    · first | exact f8 | exact fun h => h.elim f8.out (fun e => absurd e (by decide))
                    · first | exact fun _ => rfl | exact rfl
                    · first | exact rfl | exact fun _ => rfl
                simp only [putAll, List.setIfInBounds_toArray, List.set_cons_succ, List.set_cons_zero]
                rintro D a wg hall ⟨u64, u65, u66, u67, u68, u69, u70, u71, u72, u73, u74, rfl, hbr, f0, f1, f2, f3, f4, f5, f6, f7, f8, f9, f10⟩
                obtain rfl := f0.out (hall 0 (by decide))
                obtain rfl := f1.out (hall 1 (by decide))
                obtain rfl := f2.out (hall 2 (by decide))
                obtain rfl := f3.out (hall 3 (by decide))
                obtain ⟨t, rfl, ht1, ht2, ht3⟩ := f4.out (hall 4 (by decide))
                obtain rfl := f5.out (hall 5 (by decide))
                obtain rfl := f6.out (hall 6 (by decide))
                obtain rfl := f7.out (hall 7 (by decide))
                obtain rfl := f8.out (hall 8 (by decide))
                obtain rfl := f9.out (hall 9 (by decide))
                obtain rfl := f10.out (hall 10 (by decide))
                clear hall f0 f1 f2 f3 f4 f5 f6 f7 f8 f9 f10
                have h2g := Below.trans (Below.drew (below_dn (Below.refl w2.heap.size w2) n1)) hbr
                clear hbr
                go_wp2
                go_ret2
                exact ParsePost.bad HS.out (hb1.trans ((hbr2.trans (h2g.mono hbr2.size)).mono hb1.size))
              | true =>
                rw [hB] at hAF
                have HLE : Hid (∀ t, Wd.natDec t = true → Wd.natVal t = Wd.natVal (lastS E) + 1 → ∀ w, Calls Tryz.prog 35 #[S8 t, S8 pa] w fun e w' => e = .returned (.bool true) ∧ w' = w) := fun t h1 h2 w => by have h := rless_any t pa w; rw [Wd.lessS_iff h1 HN.out, h2, hB] at h; exact h
                clear hB
                have HAF := hAF
                obtain ⟨L, hL⟩ : ∃ L, L = lastS E := ⟨_, rfl⟩
                have HLL := Lib.hid hL
                rw [← hL] at HNL HLE hll
                rw [← hL]
                clear hL
                go_wp2_with fail
                refine wp_region_inv (fun a0 w0 D a wv => ∃ u64 u65 u66 u67 u68 u69 u70 u71 u72 u73 u74 : Value, a = putAll a0 [(64, u64), (65, u65), (66, u66), (67, u67), (68, u68), (69, u69), (70, u70), (71, u71), (72, u72), (73, u73), (74, u74)] ∧ Below w0.heap.size w0 wv ∧ Hid (D 0 → u64 = .int .i64 k) ∧ Hid (D 1 → u65 = .bool true) ∧ Hid (D 2 → u66 = .bool true) ∧ Hid (D 3 → u67 = S8 L) ∧ Hid (D 4 → ∃ t, u68 = S8 t ∧ Wd.natDec t = true ∧ Wd.natVal t = Wd.natVal L + 1 ∧ t.length ≤ L.length + 1) ∧ Hid (D 5 → u69 = .slice (some ⟨b9, o9, none⟩) 2 cap9) ∧ Hid (D 6 → u70 = .pointer (some ⟨b9, o9, none⟩)) ∧ Hid (D 7 → u71 = S8 pa) ∧ Hid (D 8 → u72 = .bool true) ∧ Hid (D 9 → u73 = .bool false) ∧ Hid (D 10 → u74 = .bool false)) rfl ?_ ?_ ?_
                ·
                  simp only [putAll, List.setIfInBounds_toArray, List.set_cons_succ, List.set_cons_zero]
                  exact ⟨_, _, _, _, _, _, _, _, _, _, _, rfl, Below.refl _ _, fun h => h.elim, fun h => h.elim, fun h => h.elim, fun h => h.elim, fun h => h.elim, fun h => h.elim, fun h => h.elim, fun h => h.elim, fun h => h.elim, fun h => h.elim, fun h => h.elim⟩
                ·
                  simp only [putAll, List.setIfInBounds_toArray, List.set_cons_succ, List.set_cons_zero]
                  refine StepsAll.cons ?_ (StepsAll.cons ?_ (StepsAll.cons ?_ (StepsAll.cons ?_ (StepsAll.cons ?_ (StepsAll.cons ?_ (StepsAll.cons ?_ (StepsAll.cons ?_ (StepsAll.cons ?_ (StepsAll.cons ?_ (StepsAll.cons ?_ StepsAll.nil))))))))))
                  · rintro D a wg ⟨u64, u65, u66, u67, u68, u69, u70, u71, u72, u73, u74, rfl, hbr, f0, f1, f2, f3, f4, f5, f6, f7, f8, f9, f10⟩ hnd hd
                    clear hd
                    go_wp2_with (first | (go_at_call 36; refine (rnext_l _ _ HNL.out (by omega)).mono ?_; rintro e wn ⟨⟨t, rfl, ht1, ht2, ht3⟩, hnew⟩) | (go_at_call 35; refine (HLE.out _ ht1 ht2 _).mono ?_; rintro e wz ⟨rfl, rfl⟩))
                    refine ⟨_, _, _, _, _, _, _, _, _, _, _, rfl, hbr, ?_, ?_, ?_, ?_, ?_, ?_, ?_, ?_, ?_, ?_, ?_⟩
                    · first | exact rfl | exact fun _ => rfl
                    · first | exact f1 | exact fun h => h.elim f1.out (fun e => absurd e (by decide))
                    · first | exact f2 | exact fun h => h.elim f2.out (fun e => absurd e (by decide))
                    · first | exact f3 | exact fun h => h.elim f3.out (fun e => absurd e (by decide))
                    · first | exact f4 | exact fun h => h.elim f4.out (fun e => absurd e (by decide))
                    · first | exact f5 | exact fun h => h.elim f5.out (fun e => absurd e (by decide))
                    · first | exact f6 | exact fun h => h.elim f6.out (fun e => absurd e (by decide))
                    · first | exact f7 | exact fun h => h.elim f7.out (fun e => absurd e (by decide))
                    · first | exact f8 | exact fun h => h.elim f8.out (fun e => absurd e (by decide))
                    · first | exact f9 | exact fun h => h.elim f9.out (fun e => absurd e (by decide))
                    · first | exact f10 | exact fun h => h.elim f10.out (fun e => absurd e (by decide))
                  · rintro D a wg ⟨u64, u65, u66, u67, u68, u69, u70, u71, u72, u73, u74, rfl, hbr, f0, f1, f2, f3, f4, f5, f6, f7, f8, f9, f10⟩ hnd hd
                    have d0 := hd 0 (by decide)
                    obtain rfl := f0.out d0
                    clear hd
                    go_wp2_with (first | (go_at_call 36; refine (rnext_l _ _ HNL.out (by omega)).mono ?_; rintro e wn ⟨⟨t, rfl, ht1, ht2, ht3⟩, hnew⟩) | (go_at_call 35; refine (HLE.out _ ht1 ht2 _).mono ?_; rintro e wz ⟨rfl, rfl⟩))
                    refine ⟨_, _, _, _, _, _, _, _, _, _, _, rfl, hbr, ?_, ?_, ?_, ?_, ?_, ?_, ?_, ?_, ?_, ?_, ?_⟩
                    · first | exact fun _ => rfl | exact rfl
                    · first | exact rfl | exact fun _ => rfl
                    · first | exact f2 | exact fun h => h.elim f2.out (fun e => absurd e (by decide))
                    · first | exact f3 | exact fun h => h.elim f3.out (fun e => absurd e (by decide))
                    · first | exact f4 | exact fun h => h.elim f4.out (fun e => absurd e (by decide))
                    · first | exact f5 | exact fun h => h.elim f5.out (fun e => absurd e (by decide))
                    · first | exact f6 | exact fun h => h.elim f6.out (fun e => absurd e (by decide))
                    · first | exact f7 | exact fun h => h.elim f7.out (fun e => absurd e (by decide))
                    · first | exact f8 | exact fun h => h.elim f8.out (fun e => absurd e (by decide))
                    · first | exact f9 | exact fun h => h.elim f9.out (fun e => absurd e (by decide))
                    · first | exact f10 | exact fun h => h.elim f10.out (fun e => absurd e (by decide))
                  · rintro D a wg ⟨u64, u65, u66, u67, u68, u69, u70, u71, u72, u73, u74, rfl, hbr, f0, f1, f2, f3, f4, f5, f6, f7, f8, f9, f10⟩ hnd hd
                    have d1 := hd 1 (by decide)
                    obtain rfl := f1.out d1
                    clear hd
                    go_wp2_with (first | (go_at_call 36; refine (rnext_l _ _ HNL.out (by omega)).mono ?_; rintro e wn ⟨⟨t, rfl, ht1, ht2, ht3⟩, hnew⟩) | (go_at_call 35; refine (HLE.out _ ht1 ht2 _).mono ?_; rintro e wz ⟨rfl, rfl⟩))
                    refine ⟨_, _, _, _, _, _, _, _, _, _, _, rfl, hbr, ?_, ?_, ?_, ?_, ?_, ?_, ?_, ?_, ?_, ?_, ?_⟩
                    · first | exact f0 | exact fun h => h.elim f0.out (fun e => absurd e (by decide))
                    · first | exact fun _ => rfl | exact rfl
                    · first | exact rfl | exact fun _ => rfl
                    · first | exact f3 | exact fun h => h.elim f3.out (fun e => absurd e (by decide))
                    · first | exact f4 | exact fun h => h.elim f4.out (fun e => absurd e (by decide))
                    · first | exact f5 | exact fun h => h.elim f5.out (fun e => absurd e (by decide))
                    · first | exact f6 | exact fun h => h.elim f6.out (fun e => absurd e (by decide))
                    · first | exact f7 | exact fun h => h.elim f7.out (fun e => absurd e (by decide))
                    · first | exact f8 | exact fun h => h.elim f8.out (fun e => absurd e (by decide))
                    · first | exact f9 | exact fun h => h.elim f9.out (fun e => absurd e (by decide))
                    · first | exact f10 | exact fun h => h.elim f10.out (fun e => absurd e (by decide))
                  · rintro D a wg ⟨u64, u65, u66, u67, u68, u69, u70, u71, u72, u73, u74, rfl, hbr, f0, f1, f2, f3, f4, f5, f6, f7, f8, f9, f10⟩ hnd hd
                    have d2 := hd 2 (by decide)
                    obtain rfl := f2.out d2
                    clear hd
                    go_wp2_with (first | (go_at_call 36; refine (rnext_l _ _ HNL.out (by omega)).mono ?_; rintro e wn ⟨⟨t, rfl, ht1, ht2, ht3⟩, hnew⟩) | (go_at_call 35; refine (HLE.out _ ht1 ht2 _).mono ?_; rintro e wz ⟨rfl, rfl⟩))
                    refine ⟨_, _, _, _, _, _, _, _, _, _, _, rfl, hbr, ?_, ?_, ?_, ?_, ?_, ?_, ?_, ?_, ?_, ?_, ?_⟩
                    · first | exact f0 | exact fun h => h.elim f0.out (fun e => absurd e (by decide))
                    · first | exact f1 | exact fun h => h.elim f1.out (fun e => absurd e (by decide))
                    · first | exact fun _ => rfl | exact rfl
                    · first | exact rfl | exact fun _ => rfl
                    · first | exact f4 | exact fun h => h.elim f4.out (fun e => absurd e (by decide))
                    · first | exact f5 | exact fun h => h.elim f5.out (fun e => absurd e (by decide))
                    · first | exact f6 | exact fun h => h.elim f6.out (fun e => absurd e (by decide))
                    · first | exact f7 | exact fun h => h.elim f7.out (fun e => absurd e (by decide))
                    · first | exact f8 | exact fun h => h.elim f8.out (fun e => absurd e (by decide))
                    · first | exact f9 | exact fun h => h.elim f9.out (fun e => absurd e (by decide))
                    · first | exact f10 | exact fun h => h.elim f10.out (fun e => absurd e (by decide))
                  · rintro D a wg ⟨u64, u65, u66, u67, u68, u69, u70, u71, u72, u73, u74, rfl, hbr, f0, f1, f2, f3, f4, f5, f6, f7, f8, f9, f10⟩ hnd hd
                    have d3 := hd 3 (by decide)
                    obtain rfl := f3.out d3
                    have d2 := hd 2 (by decide)
                    obtain rfl := f2.out d2
                    clear hd
                    go_wp2_with (first | (go_at_call 36; refine (rnext_l _ _ HNL.out (by omega)).mono ?_; rintro e wn ⟨⟨t, rfl, ht1, ht2, ht3⟩, hnew⟩) | (go_at_call 35; refine (HLE.out _ ht1 ht2 _).mono ?_; rintro e wz ⟨rfl, rfl⟩))
                    refine ⟨_, _, _, _, _, _, _, _, _, _, _, rfl, hbr.trans (hnew.mono hbr.size), ?_, ?_, ?_, ?_, ?_, ?_, ?_, ?_, ?_, ?_, ?_⟩
                    · first | exact f0 | exact fun h => h.elim f0.out (fun e => absurd e (by decide))
                    · first | exact f1 | exact fun h => h.elim f1.out (fun e => absurd e (by decide))
                    · first | exact fun _ => rfl | exact rfl
                    · first | exact fun _ => rfl | exact rfl
                    · first | exact ⟨t, rfl, ht1, ht2, ht3⟩ | exact fun _ => ⟨t, rfl, ht1, ht2, ht3⟩
                    · first | exact f5 | exact fun h => h.elim f5.out (fun e => absurd e (by decide))
                    · first | exact f6 | exact fun h => h.elim f6.out (fun e => absurd e (by decide))
                    · first | exact f7 | exact fun h => h.elim f7.out (fun e => absurd e (by decide))
                    · first | exact f8 | exact fun h => h.elim f8.out (fun e => absurd e (by decide))
                    · first | exact f9 | exact fun h => h.elim f9.out (fun e => absurd e (by decide))
                    · first | exact f10 | exact fun h => h.elim f10.out (fun e => absurd e (by decide))
                  · rintro D a wg ⟨u64, u65, u66, u67, u68, u69, u70, u71, u72, u73, u74, rfl, hbr, f0, f1, f2, f3, f4, f5, f6, f7, f8, f9, f10⟩ hnd hd
                    have d2 := hd 2 (by decide)
                    obtain rfl := f2.out d2
                    clear hd
                    go_wp2_with (first | (go_at_call 36; refine (rnext_l _ _ HNL.out (by omega)).mono ?_; rintro e wn ⟨⟨t, rfl, ht1, ht2, ht3⟩, hnew⟩) | (go_at_call 35; refine (HLE.out _ ht1 ht2 _).mono ?_; rintro e wz ⟨rfl, rfl⟩))
                    refine ⟨_, _, _, _, _, _, _, _, _, _, _, rfl, hbr, ?_, ?_, ?_, ?_, ?_, ?_, ?_, ?_, ?_, ?_, ?_⟩
                    · first | exact f0 | exact fun h => h.elim f0.out (fun e => absurd e (by decide))
                    · first | exact f1 | exact fun h => h.elim f1.out (fun e => absurd e (by decide))
                    · first | exact fun _ => rfl | exact rfl
                    · first | exact f3 | exact fun h => h.elim f3.out (fun e => absurd e (by decide))
                    · first | exact f4 | exact fun h => h.elim f4.out (fun e => absurd e (by decide))
                    · first | exact rfl | exact fun _ => rfl
                    · first | exact f6 | exact fun h => h.elim f6.out (fun e => absurd e (by decide))
                    · first | exact f7 | exact fun h => h.elim f7.out (fun e => absurd e (by decide))
                    · first | exact f8 | exact fun h => h.elim f8.out (fun e => absurd e (by decide))
                    · first | exact f9 | exact fun h => h.elim f9.out (fun e => absurd e (by decide))
                    · first | exact f10 | exact fun h => h.elim f10.out (fun e => absurd e (by decide))
                  · rintro D a wg ⟨u64, u65, u66, u67, u68, u69, u70, u71, u72, u73, u74, rfl, hbr, f0, f1, f2, f3, f4, f5, f6, f7, f8, f9, f10⟩ hnd hd
                    have d5 := hd 5 (by decide)
                    obtain rfl := f5.out d5
                    have d2 := hd 2 (by decide)
                    obtain rfl := f2.out d2
                    clear hd
                    go_wp2_with (first | (go_at_call 36; refine (rnext_l _ _ HNL.out (by omega)).mono ?_; rintro e wn ⟨⟨t, rfl, ht1, ht2, ht3⟩, hnew⟩) | (go_at_call 35; refine (HLE.out _ ht1 ht2 _).mono ?_; rintro e wz ⟨rfl, rfl⟩))
                    refine ⟨_, _, _, _, _, _, _, _, _, _, _, rfl, hbr, ?_, ?_, ?_, ?_, ?_, ?_, ?_, ?_, ?_, ?_, ?_⟩
                    · first | exact f0 | exact fun h => h.elim f0.out (fun e => absurd e (by decide))
                    · first | exact f1 | exact fun h => h.elim f1.out (fun e => absurd e (by decide))
                    · first | exact fun _ => rfl | exact rfl
                    · first | exact f3 | exact fun h => h.elim f3.out (fun e => absurd e (by decide))
                    · first | exact f4 | exact fun h => h.elim f4.out (fun e => absurd e (by decide))
                    · first | exact fun _ => rfl | exact rfl
                    · first | exact rfl | exact fun _ => rfl
                    · first | exact f7 | exact fun h => h.elim f7.out (fun e => absurd e (by decide))
                    · first | exact f8 | exact fun h => h.elim f8.out (fun e => absurd e (by decide))
                    · first | exact f9 | exact fun h => h.elim f9.out (fun e => absurd e (by decide))
                    · first | exact f10 | exact fun h => h.elim f10.out (fun e => absurd e (by decide))
                  · rintro D a wg ⟨u64, u65, u66, u67, u68, u69, u70, u71, u72, u73, u74, rfl, hbr, f0, f1, f2, f3, f4, f5, f6, f7, f8, f9, f10⟩ hnd hd
                    have d6 := hd 6 (by decide)
                    obtain rfl := f6.out d6
                    have d2 := hd 2 (by decide)
                    obtain rfl := f2.out d2
                    clear hd
                    have cA := (hbr.cell (p := ⟨b9, o9, none⟩) hlt9).trans c9
                    go_wp2_with (first | (go_at_call 36; refine (rnext_l _ _ HNL.out (by omega)).mono ?_; rintro e wn ⟨⟨t, rfl, ht1, ht2, ht3⟩, hnew⟩) | (go_at_call 35; refine (HLE.out _ ht1 ht2 _).mono ?_; rintro e wz ⟨rfl, rfl⟩))
                    refine ⟨_, _, _, _, _, _, _, _, _, _, _, rfl, hbr, ?_, ?_, ?_, ?_, ?_, ?_, ?_, ?_, ?_, ?_, ?_⟩
                    · first | exact f0 | exact fun h => h.elim f0.out (fun e => absurd e (by decide))
                    · first | exact f1 | exact fun h => h.elim f1.out (fun e => absurd e (by decide))
                    · first | exact fun _ => rfl | exact rfl
                    · first | exact f3 | exact fun h => h.elim f3.out (fun e => absurd e (by decide))
                    · first | exact f4 | exact fun h => h.elim f4.out (fun e => absurd e (by decide))
                    · first | exact f5 | exact fun h => h.elim f5.out (fun e => absurd e (by decide))
                    · first | exact fun _ => rfl | exact rfl
                    · first | exact rfl | exact fun _ => rfl
                    · first | exact f8 | exact fun h => h.elim f8.out (fun e => absurd e (by decide))
                    · first | exact f9 | exact fun h => h.elim f9.out (fun e => absurd e (by decide))
                    · first | exact f10 | exact fun h => h.elim f10.out (fun e => absurd e (by decide))
                  · rintro D a wg ⟨u64, u65, u66, u67, u68, u69, u70, u71, u72, u73, u74, rfl, hbr, f0, f1, f2, f3, f4, f5, f6, f7, f8, f9, f10⟩ hnd hd
                    have d4 := hd 4 (by decide)
                    obtain ⟨t, rfl, ht1, ht2, ht3⟩ := f4.out d4
                    have d7 := hd 7 (by decide)
                    obtain rfl := f7.out d7
                    have d2 := hd 2 (by decide)
                    obtain rfl := f2.out d2
                    clear hd
                    go_wp2_with (first | (go_at_call 36; refine (rnext_l _ _ HNL.out (by omega)).mono ?_; rintro e wn ⟨⟨t, rfl, ht1, ht2, ht3⟩, hnew⟩) | (go_at_call 35; refine (HLE.out _ ht1 ht2 _).mono ?_; rintro e wz ⟨rfl, rfl⟩))
                    refine ⟨_, _, _, _, _, _, _, _, _, _, _, rfl, hbr, ?_, ?_, ?_, ?_, ?_, ?_, ?_, ?_, ?_, ?_, ?_⟩
                    · first | exact f0 | exact fun h => h.elim f0.out (fun e => absurd e (by decide))
                    · first | exact f1 | exact fun h => h.elim f1.out (fun e => absurd e (by decide))
                    · first | exact fun _ => rfl | exact rfl
                    · first | exact f3 | exact fun h => h.elim f3.out (fun e => absurd e (by decide))
                    · exact fun _ => ⟨t, rfl, ht1, ht2, ht3⟩
                    · first | exact f5 | exact fun h => h.elim f5.out (fun e => absurd e (by decide))
                    · first | exact f6 | exact fun h => h.elim f6.out (fun e => absurd e (by decide))
                    · first | exact fun _ => rfl | exact rfl
                    · first | exact rfl | exact fun _ => rfl
                    · first | exact f9 | exact fun h => h.elim f9.out (fun e => absurd e (by decide))
                    · first | exact f10 | exact fun h => h.elim f10.out (fun e => absurd e (by decide))
                  · rintro D a wg ⟨u64, u65, u66, u67, u68, u69, u70, u71, u72, u73, u74, rfl, hbr, f0, f1, f2, f3, f4, f5, f6, f7, f8, f9, f10⟩ hnd hd
                    have d8 := hd 8 (by decide)
                    obtain rfl := f8.out d8
                    have d2 := hd 2 (by decide)
                    obtain rfl := f2.out d2
                    clear hd
                    go_wp2_with (first | (go_at_call 36; refine (rnext_l _ _ HNL.out (by omega)).mono ?_; rintro e wn ⟨⟨t, rfl, ht1, ht2, ht3⟩, hnew⟩) | (go_at_call 35; refine (HLE.out _ ht1 ht2 _).mono ?_; rintro e wz ⟨rfl, rfl⟩))
                    refine ⟨_, _, _, _, _, _, _, _, _, _, _, rfl, hbr, ?_, ?_, ?_, ?_, ?_, ?_, ?_, ?_, ?_, ?_, ?_⟩
                    · first | exact f0 | exact fun h => h.elim f0.out (fun e => absurd e (by decide))
                    · first | exact f1 | exact fun h => h.elim f1.out (fun e => absurd e (by decide))
                    · first | exact fun _ => rfl | exact rfl
                    · first | exact f3 | exact fun h => h.elim f3.out (fun e => absurd e (by decide))
                    · first | exact f4 | exact fun h => h.elim f4.out (fun e => absurd e (by decide))
                    · first | exact f5 | exact fun h => h.elim f5.out (fun e => absurd e (by decide))
                    · first | exact f6 | exact fun h => h.elim f6.out (fun e => absurd e (by decide))
                    · first | exact f7 | exact fun h => h.elim f7.out (fun e => absurd e (by decide))
                    · first | exact fun _ => rfl | exact rfl
                    · first | exact rfl | exact fun _ => rfl
                    · first | exact f10 | exact fun h => h.elim f10.out (fun e => absurd e (by decide))
                  · rintro D a wg ⟨u64, u65, u66, u67, u68, u69, u70, u71, u72, u73, u74, rfl, hbr, f0, f1, f2, f3, f4, f5, f6, f7, f8, f9, f10⟩ hnd hd
                    have d2 := hd 2 (by decide)
                    obtain rfl := f2.out d2
                    have d9 := hd 9 (by decide)
                    obtain rfl := f9.out d9
                    clear hd
                    go_wp2_with (first | (go_at_call 36; refine (rnext_l _ _ HNL.out (by omega)).mono ?_; rintro e wn ⟨⟨t, rfl, ht1, ht2, ht3⟩, hnew⟩) | (go_at_call 35; refine (HLE.out _ ht1 ht2 _).mono ?_; rintro e wz ⟨rfl, rfl⟩))
                    refine ⟨_, _, _, _, _, _, _, _, _, _, _, rfl, hbr, ?_, ?_, ?_, ?_, ?_, ?_, ?_, ?_, ?_, ?_, ?_⟩
                    · first | exact f0 | exact fun h => h.elim f0.out (fun e => absurd e (by decide))
                    · first | exact f1 | exact fun h => h.elim f1.out (fun e => absurd e (by decide))
                    · first | exact fun _ => rfl | exact rfl
                    · first | exact f3 | exact fun h => h.elim f3.out (fun e => absurd e (by decide))
                    · first | exact f4 | exact fun h => h.elim f4.out (fun e => absurd e (by decide))
                    · first | exact f5 | exact fun h => h.elim f5.out (fun e => absurd e (by decide))
                    · first | exact f6 | exact fun h => h.elim f6.out (fun e => absurd e (by decide))
                    · first | exact f7 | exact fun h => h.elim f7.out (fun e => absurd e (by decide))
                    · first | exact f8 | exact fun h => h.elim f8.out (fun e => absurd e (by decide))
                    · first | exact fun _ => rfl | exact rfl
                    · first | exact rfl | exact fun _ => rfl
                simp only [putAll, List.setIfInBounds_toArray, List.set_cons_succ, List.set_cons_zero]
                rintro D a wg hall ⟨u64, u65, u66, u67, u68, u69, u70, u71, u72, u73, u74, rfl, hbr, f0, f1, f2, f3, f4, f5, f6, f7, f8, f9, f10⟩
                obtain rfl := f0.out (hall 0 (by decide))
                obtain rfl := f1.out (hall 1 (by decide))
                obtain rfl := f2.out (hall 2 (by decide))
                obtain rfl := f3.out (hall 3 (by decide))
                obtain ⟨t, rfl, ht1, ht2, ht3⟩ := f4.out (hall 4 (by decide))
                obtain rfl := f5.out (hall 5 (by decide))
                obtain rfl := f6.out (hall 6 (by decide))
                obtain rfl := f7.out (hall 7 (by decide))
                obtain rfl := f8.out (hall 8 (by decide))
                obtain rfl := f9.out (hall 9 (by decide))
                obtain rfl := f10.out (hall 10 (by decide))
                clear hall f0 f1 f2 f3 f4 f5 f6 f7 f8 f9 f10
                have h2g := Below.trans (Below.drew (below_dn (Below.refl w2.heap.size w2) n1)) hbr
                clear hbr
                have hEl := hP.out.len
                have hof3 := hof2.below h2g
                have hog3 := hog2.below h2g
                have hbr3 := hbr2.trans (h2g.mono hbr2.size)
                have gc9 := (h2g.cell (p := ⟨b9, o9, none⟩) hlt9).trans c9
                have gc9b := (h2g.cell (p := ⟨b9, o9 + 1, none⟩) hlt9).trans c9b
                have hlo6 := hog3.lt
                have HST := Lib.hid (hP.out.step hlt HE.out HAF)
                have hsz3 := hbr3.size
                clear hP c7 hof2 hog2 hbr2 h2g
                go_wp2_with (first | (at_builtin; refine appL_at elS _ rfl _ _ rfl w1.heap.size _ _ pa rfl (hof3.alloc _) _ 1 rfl (newS _ _ _ _ rfl) (by rw [List.length_map]; unfold maxLen; omega) (by rw [List.length_map]; omega) (by simp; omega) ?_; rintro v5 w5 hof5 hgr5 ⟨g5, cc5, rfl⟩ hat5; have hbr5 := below_appL (hbr3.alloc hsz3 _) (hof3.alloc _) hgr5 (by simp; omega); have hap5 := hat5 _ hap (fun i h => by have := (hlo6 i h).2; simp; omega); have hog5 := (hog3.alloc _).kept hgr5 hap.ne; have hsz5 := hbr5.size; have hlo5 := hof5.lt; clear hof3 hgr5 hat5) | (at_builtin; refine appL_at elS _ rfl _ _ rfl w1.heap.size _ _ pb rfl (hog5.alloc _) _ 1 rfl (newS _ _ _ _ rfl) (by rw [List.length_map]; unfold maxLen; omega) (by rw [List.length_map]; omega) (by simp; omega) ?_; rintro v6 w6 hog6 hgr6 ⟨g6, cc6, rfl⟩ hat6; have hbr6 := below_appL (hbr5.alloc hsz5 _) (hog5.alloc _) hgr6 (by simp; omega); have hap6 := hat6 _ hap5.symm (fun i h => by have := (hlo5 i h).2; simp; omega); have hof6 := (hof5.alloc _).kept hgr6 hap5.symm.ne; clear hgr6 hat6))
                go_roundw
                case rel => exact ⟨k + 1, E ++ [(pa, pb)], by omega, by go_num, HST, len_snoc hPL0.out (by omega), by rw [lastS_snoc], by simpa [hEl] using hof6, by simpa [hEl] using hog6, hap6.symm, hbr6⟩
                case measure => simp [intOf]; omega
            · have hE0 : E = [] := List.eq_nil_of_length_eq_zero (by have := hP.out.len; omega)
              have HAF : Wd.after (E.getLast?.map (·.2)) pa = true := by rw [hE0]; rfl
              have g0 : decide ((0 : Int) < (k : Int)) = false := by simp; omega
              clear HLN hE0
              go_wp2_with fail
              go_quiet (fail)
              have h2g := below_dn (Below.refl w2.heap.size w2) (n1 + nq)
              have hEl := hP.out.len
              have hof3 := hof2.below h2g
              have hog3 := hog2.below h2g
              have hbr3 := hbr2.trans (h2g.mono hbr2.size)
              have gc9 := (h2g.cell (p := ⟨b9, o9, none⟩) hlt9).trans c9
              have gc9b := (h2g.cell (p := ⟨b9, o9 + 1, none⟩) hlt9).trans c9b
              have hlo6 := hog2.lt
              have HST := Lib.hid (hP.out.step hlt HE.out HAF)
              have hsz3 := hbr2.size
              clear hP c7 hof2 hog2 hbr2 h2g
              go_wp2_with (first | (at_builtin; refine appL_at elS _ rfl _ _ rfl w1.heap.size _ _ pa rfl (hof3.alloc _) _ 1 rfl (newS _ _ _ _ rfl) (by rw [List.length_map]; unfold maxLen; omega) (by rw [List.length_map]; omega) (by simp; omega) ?_; rintro v5 w5 hof5 hgr5 ⟨g5, cc5, rfl⟩ hat5; have hbr5 := below_appL (hbr3.alloc hsz3 _) (hof3.alloc _) hgr5 (by simp; omega); have hap5 := hat5 _ hap (fun i h => by have := (hlo6 i h).2; simp; omega); have hog5 := (hog3.alloc _).kept hgr5 hap.ne; have hsz5 := hbr5.size; have hlo5 := hof5.lt; clear hof3 hgr5 hat5) | (at_builtin; refine appL_at elS _ rfl _ _ rfl w1.heap.size _ _ pb rfl (hog5.alloc _) _ 1 rfl (newS _ _ _ _ rfl) (by rw [List.length_map]; unfold maxLen; omega) (by rw [List.length_map]; omega) (by simp; omega) ?_; rintro v6 w6 hog6 hgr6 ⟨g6, cc6, rfl⟩ hat6; have hbr6 := below_appL (hbr5.alloc hsz5 _) (hog5.alloc _) hgr6 (by simp; omega); have hap6 := hat6 _ hap5.symm (fun i h => by have := (hlo5 i h).2; simp; omega); have hof6 := (hof5.alloc _).kept hgr6 hap5.symm.ne; clear hgr6 hat6))
              go_roundw
              case rel => exact ⟨k + 1, E ++ [(pa, pb)], by omega, by go_num, HST, len_snoc hPL0.out (by omega), by rw [lastS_snoc], by simpa [hEl] using hof6, by simpa [hEl] using hog6, hap6.symm, hbr6⟩
              case measure => simp [intOf]; omega
        · simp at hm
    · have hdone := hP.out.done (by omega)
      have hEl := hP.out.len
      have hEk : E.length = rs.length := by omega
      obtain ⟨HNL, hll, hgl⟩ := last_of hP.out hPL0.out (by omega : 0 < k)
      have hlO : Wd.lastOf E = Wd.natVal (lastS E) := Wd.lastOf_L hgl
      have HGD := Lib.hid hP.out.good
      have H1 := Lib.hid (HRNG.out E hdone)
      have H2 := Lib.hid (HLNG.out E hdone)
      have H3 := Lib.hid (HOK.out E hdone)
      have HLS := Lib.hid fun w => rless_max (lastS E) w HNL.out
      rw [hlO] at H1 H2 H3
      have HLO := Lib.hid hlO
      have i1 : ¬ (k : Int) < (rs.length : Int) := by omega
      clear HRNG HLNG HOK HB hdone hEl hgl hlO hP hlt hap HNL
      generalize lastS E = L at *
      clear hll
      go_wp2_with fail
      refine (rdigits_any _ 1000000000 (Nat.le_refl _) (by omega) (by omega) _).mono ?_
      rintro e w2 ⟨rfl, hx⟩
      have hbr2 := hbr.trans (hx.mono hbr.size)
      have hof2 := hof.below hx
      have hog2 := hog.below hx
      clear hx hbr hof hog
      go_wp2_with fail
      refine (HLS.out _).mono ?_
      rintro e w3 ⟨rfl, rfl⟩
      by_cases hr : 1000000000 < Wd.natVal L
      · have hr' : decide (1000000000 < Wd.natVal L) = true := by simpa using hr
        have HS := Lib.hid (H1.out hr)
        clear hr
        go_wp2
        go_ret2
        exact ParsePost.bad HS.out (hb1.trans (hbr2.mono hb1.size))
      have hr' : decide (1000000000 < Wd.natVal L) = false := by simpa using hr
      have hne1 : E.map (·.1) ≠ [] := by intro e; have := congrArg List.length e; rw [List.length_map, List.length_nil] at this; omega
      have hne2 : E.map (·.2) ≠ [] := by intro e; have := congrArg List.length e; rw [List.length_map, List.length_nil] at this; omega
      have H2 := Lib.hid (H2.out hr)
      have H3 := Lib.hid (H3.out hr)
      have HR := Lib.hid hr
      obtain ⟨bf, of_, capf, rfl, hltf, hcf⟩ := (hof2.reads elS.len).cellsS hne1
      obtain ⟨bg, og, capg, rfl, hltg, hcg⟩ := (hog2.reads elS.len).cellsS hne2
      clear hof2 hog2 hne1 hne2 H1 HLS hr
      go_wp2
      go_loopw [10, 11] (fun out i wr => ∃ (k : Nat), k ≤ rs.length ∧ i = .int .i64 k ∧ OwnL 3 1 encI wr w3.heap.size out (Wd.expand (E.take k)) ∧ (Wd.expand (E.take k)).length ≤ 500 ∧ Below w3.heap.size w3 wr) (fun _ i _ => rs.length - (intOf i).toNat)
      case atStart => exact ⟨0, Nat.zero_le _, rfl, by simpa [Wd.expand] using OwnL.nil _ _, by simp [Wd.expand], Below.refl _ _⟩
      case round =>
        obtain ⟨k, hk, rfl, hown, hlen, hbr⟩ := hrel
        by_cases hlt : k < rs.length
        · have i1 : (k : Int) < (rs.length : Int) := by omega
          have hke : k < E.length := by omega
          have hmem := List.getElem_mem hke
          obtain ⟨g1, g2, g3, g4⟩ := HGD.out _ hmem
          have hl2 := hPL0.out _ hmem
          have hl1 := Wd.len_of_val g1 g2 g3
          have hlo : Wd.lastOf E = Wd.natVal L := HLO.out
          have hrr : Wd.lastOf E ≤ 1000000000 := by rw [hlo]; exact Nat.le_of_not_lt HR.out
          have cf := (hbr.cell (p := ⟨bf, of_ + k, none⟩) hltf).trans (hcf.out k (by simpa using hke))
          have cg := (hbr.cell (p := ⟨bg, og + k, none⟩) hltg).trans (hcg.out k (by simpa using hke))
          have HX := Lib.hid (Wd.expand_take_succ hke)
          have HLG := Lib.hid (@Wd.long_of E k hke)
          rw [List.getElem_map] at cf cg
          generalize E[k] = p at *
          have I1 := Lib.hid fun w => rint_l p.1 w g1 (by omega) (by omega)
          have I2 := Lib.hid fun w => rint_l p.2 w g2 (by omega) (by omega)
          clear hlo hmem g1 g2 hl1 hl2
          have HT := fun j => @Wd.nums_take p j
          have HA := fun j => @Wd.nums_all p j
          have HNN := Wd.nums_len p
          have ha : Wd.natVal p.1 ≤ 1000000000 := by omega
          have hb : Wd.natVal p.2 ≤ 1000000000 := by omega
          clear hrr g4
          generalize Wd.natVal p.1 = a at *
          generalize Wd.natVal p.2 = b at *
          generalize Wd.nums p = N at *
          generalize hEX : Wd.expand (E.take k) = X at *
          clear hEX
          have HT := Lib.hid HT
          have HA := Lib.hid HA
          have HNN := Lib.hid HNN
          go_wp2_with fail
          refine (I1.out _).mono ?_
          rintro e w4 ⟨rfl, rfl⟩
          go_wp2_with fail
          refine (I2.out _).mono ?_
          rintro e w5 ⟨rfl, rfl⟩
          clear cf cg I1 I2
          go_wp2
          go_loopw [10, 16] (fun out n wr => ∃ (j : Nat), a + j ≤ b + 1 ∧ n = .int .i64 ((a : Int) + (j : Int)) ∧ OwnL 3 1 encI wr w3.heap.size out (X ++ N.take j) ∧ (X ++ N.take j).length ≤ 500 ∧ Below w3.heap.size w3 wr) (fun _ n _ => b + 1 - (intOf n).toNat)
          case atStart => exact ⟨0, by omega, by simp, by simpa using hown, by simpa using hlen, hbr⟩
          case round =>
            obtain ⟨j, hj, rfl, hown, hlen, hbr⟩ := hrel
            have hsz := hbr.size
            obtain ⟨pa, pc, hpv⟩ := (hown.reads encI_len).len
            by_cases hjl : a + j ≤ b
            · have i2 : (a : Int) + (j : Int) ≤ (b : Int) := by omega
              have ht := HT.out j hjl
              have HS0 : (X ++ N.take j).length = 500 → Hid (Wd.parseList s.data.toList = ([], 3)) := fun h5 => Lib.hid (H2.out (HLG.out (by have := HNN.out; simp only [List.length_append, List.length_take] at h5 ⊢; omega)))
              have HT2 : Hid (X ++ N.take (j + 1) = (X ++ N.take j) ++ [(a : Int) + (j : Int)]) := by show _ = _; rw [ht, List.append_assoc]
              clear ht
              generalize X ++ N.take j = Y at *
              by_cases h5 : Y.length = 500
              · have h5' : ((Y.length : Int) == 500) = true := by rw [beq_iff_eq]; omega
                have HS := HS0 h5
                clear h5 HS0
                subst hpv
                go_wp2
                go_ret2
                exact ParsePost.bad HS.out (hb1.trans ((hbr2.trans (hbr.mono hbr2.size)).mono hb1.size))
              · have h5' : ((Y.length : Int) == 500) = false := by rw [beq_eq_false_iff_ne]; omega
                have hl9 : Y.length + 1 ≤ 500 := by omega
                clear h5 HS0
                subst hpv
                go_wp2_with (at_builtin; refine appL elI _ rfl _ _ rfl w3.heap.size _ _ ((a : Int) + (j : Int)) rfl (hown.alloc _) _ 1 rfl (newI _ _ _ _ rfl) (by unfold maxLen; omega) (by omega) (by simp; omega) ?_; rintro v2 w2 hown2 hgr ⟨g2, c2, rfl⟩; have hbr2 := below_appL (hbr.alloc hsz _) (hown.alloc _) hgr (by simp; omega))
                go_roundw
                case rel => exact ⟨j + 1, by omega, by go_num, by rw [HT2.out]; exact hown2, by rw [HT2.out]; simp; omega, hbr2⟩
                case measure => simp [intOf]; omega
            · have i2 : ¬ (a : Int) + (j : Int) ≤ (b : Int) := by omega
              have he := HA.out j (by omega)
              rw [he] at hown hlen
              clear he
              go_wp2
              go_roundw
              case rel => exact ⟨k + 1, by omega, by go_num, by rw [HX.out]; exact hown, by rw [HX.out]; exact hlen, hbr⟩
              case measure => simp [intOf]; omega
        · have hk2 : E.take k = E := List.take_of_length_le (by omega)
          rw [hk2] at hown hlen
          have HS := Lib.hid (H3.out (by omega))
          clear hk2 H3 H2
          go_wp2
          go_ret2
          exact ⟨⟨_, by rw [HS.out]; rfl, by rw [HS.out]; exact hown.reads encI_len⟩, hb1.trans ((hbr2.trans (hbr.mono hbr2.size)).mono hb1.size)⟩
end Go.Proofs.YtffkohdnhaebjaaGreatDoor
