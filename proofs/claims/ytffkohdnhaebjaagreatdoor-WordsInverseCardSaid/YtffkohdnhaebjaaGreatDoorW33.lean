/-
  Walks: words.ParseList: the runs.
-/
import Derived.Test.YtffkohdnhaebjaaGreatDoorW30
import Derived.Test.YtffkohdnhaebjaaGreatDoorW32
import Derived.Test.YtffkohdnhaebjaaGreatDoorW18
import Derived.Test.YtffkohdnhaebjaaGreatDoorPlain
namespace Go.Proofs.YtffkohdnhaebjaaGreatDoor
open Go.RowKit Go.Shelf

structure EnvP (w : World) : Prop where
  env : Env w
  tabs : Lib.Utf8Tabs 5 6 w
theorem EnvP.below {w w' : World} (h : EnvP w) (hb : Below w.heap.size w w') : EnvP w' := by
  have hc : ∀ b o, b < 9 → w'.cell? ⟨b, o, none⟩ = w.cell? ⟨b, o, none⟩ := fun b o hlt => hb.cell (p := ⟨b, o, none⟩) (Nat.lt_of_lt_of_le hlt h.env.big)
  refine ⟨h.env.below hb, ⟨fun c hlt => (hc _ _ (by omega)).trans (h.tabs.1 c hlt), fun i hlt => ⟨(hc _ _ (by omega)).trans (h.tabs.2 i hlt).1, (hc _ _ (by omega)).trans (h.tabs.2 i hlt).2⟩⟩⟩
theorem splitComma (s : ByteArray) (w : World) (hE : Env w) (hs : s.size ≤ 1048576) :
    Calls Tryz.prog 27 #[.string s, .string ⟨#[44]⟩] w fun e w' => (∃ v, e = .returned v ∧ ReadsL 1 encS w' v (Wd.cutAt 44 s.data.toList)) ∧ Below w.heap.size w w' := by
  obtain ⟨m, hm⟩ := hE.mx
  have hsp := Tryz.strings_Split s ⟨#[44]⟩ m w (by omega) hm (by decide)
  have hdt := Lib.splitB_data ⟨#[44]⟩ 0 (Lib.countB s ⟨#[44]⟩) s
  have hcn : Lib.countB s ⟨#[44]⟩ + 1 = (Wd.cutAt 44 s.data.toList).length := (Wd.count_cutAt 44 s.data.toList).symm
  have hdd : (Lib.splitB ⟨#[44]⟩ 0 (Lib.countB s ⟨#[44]⟩) s).map (·.data.toList) = Wd.cutAt 44 s.data.toList := by
    rw [hdt]; exact Wd.splitK_cutAt 44 _
  refine hsp.mono ?_
  rintro e w' ⟨rfl, rfl⟩
  refine ⟨⟨_, rfl, ?_⟩, (Below.refl _ _).alloc (Nat.le_refl _) _⟩
  have hr := reads_strs w (Lib.splitB ⟨#[44]⟩ 0 (Lib.countB s ⟨#[44]⟩) s) 9 (Lib.countB s ⟨#[44]⟩ + 1)
  rw [hdd, ← hcn] at hr
  exact hr
theorem below_dn0 (w : World) (n : Nat) : Below w.heap.size w (w.drewN n) := below_dn (Below.refl _ _) n
theorem cutDash (x : List UInt8) (w : World) (hE : Env w) (hs : x.length ≤ 1048576) (a b : List UInt8) (q : Bool) (h : Lib.cut x [45] = (a, b, q)) :
    Calls Tryz.prog 28 #[S8 x, .string ⟨#[45]⟩] w fun e w' => e = .returned (.tuple #[S8 a, S8 b, .bool q]) ∧ Below w.heap.size w w' := by
  obtain ⟨m, hm⟩ := hE.mx
  have hc := Tryz.strings_Cut ⟨x.toArray⟩ ⟨#[45]⟩ m w (by rw [size_mk]; omega) hm
  refine hc.mono ?_
  rintro e w' ⟨rfl, n, rfl⟩
  refine ⟨?_, below_dn0 w n⟩
  have e0 : (⟨x.toArray⟩ : ByteArray).data.toList = x := by simp
  have e1 : (⟨#[45]⟩ : ByteArray).data.toList = [45] := rfl
  rw [e0, e1, h]
theorem isDec_l (x : List UInt8) (w : World) (hs : x.length ≤ 1048576) : Calls Tryz.prog 29 #[S8 x] w fun e w' => e = .returned (.bool (Wd.decimal x)) ∧ Below w.heap.size w w' := by
  have h := isDecimal_any ⟨x.toArray⟩ w (by rw [size_mk]; unfold maxLen; omega)
  rw [show (⟨x.toArray⟩ : ByteArray).data.toList = x from by simp] at h
  exact h
theorem atoi_l (x : List UInt8) (w : World) (hd : Wd.natDec x = true) (hv : Wd.natVal x ≤ 1000000000) (hs : x.length ≤ 1048576) :
    Calls Tryz.prog 32 #[S8 x] w fun e w' => e = .returned (.tuple #[.int .i64 (Wd.natVal x), .nilIface]) ∧ Below w.heap.size w w' := by
  have h := Tryz.strconv_Atoi_ok ⟨x.toArray⟩ (by rw [size_mk]; omega) (Wd.natVal x) (by rw [show (⟨x.toArray⟩ : ByteArray).data.toList = x from by simp]; exact Wd.atoi_dec hd hv) w
  refine h.mono ?_
  rintro e w' ⟨rfl, h2⟩
  refine ⟨rfl, ?_⟩
  rcases h2 with rfl | ⟨t, rfl⟩
  · exact Below.refl _ _
  · exact Lib.bytesWorld_below _ _ _
theorem follow_l (a b : List UInt8) (w : World) (hE : EnvP w) (ha : Wd.natDec a = true) (hb : Wd.natDec b = true) (hs : a.length ≤ 8388608) (hbl : b.length ≤ 8388608) :
    Calls Tryz.prog 31 #[S8 a, S8 b] w fun e w' => e = .returned (.bool (decide (Wd.natVal a + 1 < Wd.natVal b))) ∧ Below w.heap.size w w' := by
  have e0 : (⟨a.toArray⟩ : ByteArray).data.toList = a := by simp
  have h := follows_any ⟨a.toArray⟩ b w hE.tabs (by rw [e0]; exact ha) hb (by rw [size_mk]; exact hs) hbl
  rw [e0] at h
  exact h
def encP (p : List UInt8 × List UInt8) : List Value := [S8 p.1, S8 p.2]
theorem elP : ElT Tryz.prog 60 67 2 32 (.agg #[.string ⟨#[]⟩, .string ⟨#[]⟩]) encP :=
  ⟨Tryz.underlying60, by kernel_rfl, rfl, by decide, fun _ => rfl, fun x u hu => by simp [encP] at hu; rcases hu with rfl | rfl <;> rfl⟩
theorem newP (W : World) (T : TypeId) (p : List UInt8 × List UInt8) : ∀ i u, (encP p)[i]? = some u → (W.alloc (.cells #[S8 p.1, S8 p.2] T)).cell? ⟨W.heap.size, i, none⟩ = some u := by
  intro i u hu
  match i, hu with
  | 0, hu => simp [encP] at hu; subst hu; rw [World.cell?_alloc_at _ _ _ _ rfl]; rfl
  | 1, hu => simp [encP] at hu; subst hu; rw [World.cell?_alloc_at _ _ _ _ rfl]; rfl

theorem heads_of {d1 : Bool} {B : List UInt8} {c : UInt8} (h : (!d1 || !Wd.decimal B) = false) (hc : c = B.headD 0) : ∃ t, B = c :: t := by
  cases B with
  | nil => simp [Wd.decimal, Wd.natDec] at h
  | cons x t => subst hc; exact ⟨t, rfl⟩
theorem z_eq {c : UInt8} : ((c.toNat : Int) == 45) = (c == 45) := by
  rw [Bool.eq_iff_iff, beq_iff_eq, beq_iff_eq]
  constructor
  · intro h; rw [← UInt8.toNat_inj]; show c.toNat = 45; omega
  · intro h; rw [h]; rfl
theorem run_cut {r a b : List UInt8} (hen : Wd.ends1 r = if Wd.natDec a && Wd.natDec b && decide (Wd.natVal a < Wd.natVal b) then some (a, b) else none) {d1 d2 : Bool} {c : UInt8} {z : Bool} {N : Int} {g q7 q12 q21 : Bool}
    (h1 : d1 = Wd.natDec a) (h2 : d2 = Wd.decimal b) (h3 : c = b.headD 0) (h4 : z = ((c.toNat : Int) == 45)) (h5 : N = cmpS a b) (h6 : g = decide (0 ≤ N)) (h7 : q7 = (!d1 || !d2)) (h8 : q12 = (q7 || z)) (h9 : q21 = (q12 || (true && g))) :
    (q21 = true → Wd.ends1 r = none) ∧ (q21 = false → Wd.ends1 r = some (a, b) ∧ Wd.natDec a = true) := by
  rw [z_eq] at h4
  have key : q21 = !(Wd.natDec a && Wd.natDec b && decide (Wd.natVal a < Wd.natVal b)) := by
    subst h9 h8 h7 h6 h4 h1 h2
    cases ha : Wd.natDec a with
    | false => simp
    | true =>
      cases hb : Wd.decimal b with
      | false =>
        have hn : Wd.natDec b = false := by
          cases hx : Wd.natDec b with
          | false => rfl
          | true => rw [Wd.decimal_nat hx] at hb; cases hb
        rw [hn]; simp
      | true =>
        obtain ⟨t, rfl⟩ := heads_of (d1 := true) (by rw [hb]; rfl) h3
        by_cases hc : c = 45
        · have hn := Wd.dec_minus (b := c :: t) (by simp [hc])
          rw [hn, hc]; simp
        · have hn : Wd.natDec (c :: t) = true := by rw [← Wd.dec_head (by simpa using hc)]; exact hb
          have hcl := cmpS_lt ha hn
          have e : (c == 45) = false := by simpa using hc
          rw [hn, e, h5]
          by_cases hl : Wd.natVal a < Wd.natVal (c :: t)
          · have : cmpS a (c :: t) < 0 := hcl.2 hl
            have h0 : decide (0 ≤ cmpS a (c :: t)) = false := by simp; omega
            rw [h0]; simp [hl]
          · have : ¬ cmpS a (c :: t) < 0 := fun h => hl (hcl.1 h)
            have h0 : decide (0 ≤ cmpS a (c :: t)) = true := by simp; omega
            rw [h0]; simp [hl]
  refine ⟨fun h => ?_, fun h => ?_⟩
  · rw [key] at h
    rw [hen, if_neg (by rw [Bool.not_eq_true]; simpa only [Bool.not_eq_true'] using h)]
  · rw [key] at h
    have h' : (Wd.natDec a && Wd.natDec b && decide (Wd.natVal a < Wd.natVal b)) = true := by simpa using h
    rw [hen, if_pos h']
    simp only [Bool.and_eq_true] at h'
    exact ⟨rfl, h'.1.1⟩
theorem run_one {r : List UInt8} (hno : ∀ x ∈ r, x ≠ 45) (hen : Wd.ends1 r = if Wd.natDec r then some (r, r) else none) {d1 d2 : Bool} {c : UInt8} {z : Bool} {g q7 q12 q21 : Bool}
    (h1 : d1 = Wd.natDec r) (h2 : d2 = Wd.decimal r) (h3 : c = r.headD 0) (h4 : z = ((c.toNat : Int) == 45)) (h7 : q7 = (!d1 || !d2)) (h8 : q12 = (q7 || z)) (h9 : q21 = (q12 || (false && g))) :
    (q21 = true → Wd.ends1 r = none) ∧ (q21 = false → Wd.ends1 r = some (r, r) ∧ Wd.natDec r = true) := by
  rw [z_eq] at h4
  have key : q21 = !Wd.natDec r := by
    subst h9 h8 h7 h4 h1 h2
    rw [Wd.decimal_no hno]
    cases hd : Wd.natDec r with
    | false => simp
    | true =>
      obtain ⟨t, rfl⟩ := heads_of (d1 := true) (by rw [Wd.decimal_no hno, hd]; rfl) h3
      have e : (c == 45) = false := by simpa using hno c (by simp)
      rw [e]; rfl
  refine ⟨fun h => ?_, fun h => ?_⟩
  · rw [key] at h
    rw [hen, if_neg (by simpa using h)]
  · rw [key] at h
    have h' : Wd.natDec r = true := by simpa using h
    exact ⟨by rw [hen, if_pos h'], h'⟩
theorem itoa9_len : (Lib.itoa 1000000000).length ≤ 20 := by
  rw [Wd.itoa_nat (by omega), Lib.decDigits_length, Lib.nDigits_unique 9 _ (by decide) (by decide)]; omega
theorem last_eq {rs : List (List UInt8)} {k : Nat} {E : List (List UInt8 × List UInt8)} (h : Wd.PRel rs k E) (h0 : 0 < k) : E.getLast?.map (·.2) = some (lastS E) := by
  cases e : E.getLast? with
  | none =>
    rw [List.getLast?_eq_none_iff] at e
    have := h.len
    rw [e] at this
    simp at this; omega
  | some p => unfold lastS; rw [e]; rfl
theorem run_bad {rs : List (List UInt8)} {k : Nat} {E : List (List UInt8 × List UInt8)} {A B : List UInt8} {P : Prop} (hP : Wd.PRel rs k E) (hlt : k < rs.length) (hB : Wd.prunsF none rs = none → P) {p v q21 q31 : Bool}
    (hbad : q21 = true → Wd.ends1 rs[k] = none) (hgood : q21 = false → Wd.ends1 rs[k] = some (A, B)) (hp : p = decide ((0 : Int) < (k : Int))) (hv : v = decide (Wd.natVal (lastS E) + 1 < Wd.natVal A)) (hq : q31 = (q21 || (p && !v))) (h : q31 = true) : P := by
  cases q21 with
  | true => exact hB (hP.bad hlt (hbad rfl))
  | false =>
    rw [h] at hq
    have hpv : p = true ∧ v = false := by simpa using hq.symm
    have h0 : 0 < k := by have := hpv.1; rw [hp] at this; simpa using this
    have hgl := last_eq hP h0
    exact hB (hP.not hlt (hgood rfl) (by rw [hgl]; rw [← hpv.2, hv]; rfl))
theorem run_good {rs : List (List UInt8)} {k : Nat} {E : List (List UInt8 × List UInt8)} {A B : List UInt8} {X : Option (List UInt8 × List UInt8)} (hP : Wd.PRel rs k E) {p v q21 q31 : Bool}
    (hgood : q21 = false → X = some (A, B)) (hp : p = decide ((0 : Int) < (k : Int))) (hv : v = decide (Wd.natVal (lastS E) + 1 < Wd.natVal A)) (hq : q31 = (q21 || (p && !v))) (h : q31 = false) :
    X = some (A, B) ∧ Wd.after (E.getLast?.map (·.2)) A = true := by
  rw [h] at hq
  have hq' := hq.symm
  rw [Bool.or_eq_false_iff] at hq'
  refine ⟨hgood hq'.1, ?_⟩
  by_cases h0 : 0 < k
  · have hgl := last_eq hP h0
    have hp1 : p = true := by rw [hp]; simpa using h0
    rw [hp1] at hq'
    have hv1 : v = true := by simpa using hq'.2
    rw [hgl]
    rw [← hv1, hv]; rfl
  · have hE0 : E = [] := List.eq_nil_of_length_eq_zero (by have := hP.len; omega)
    rw [hE0]; rfl

set_option maxHeartbeats 40000000 in
set_option maxRecDepth 100000 in
theorem ParseList_any (s : ByteArray) (w : World) (hE : EnvP w) (hs0 : s.size ≤ 1048576) : Calls Tryz.prog 9 #[.string s] w (ParsePost s.data.toList w) := by
  by_cases h45 : s.data.toList = [45]
  · obtain rfl : s = ⟨#[45]⟩ := ByteArray.ext (Array.ext' h45)
    clear h45
    go_enter Tryz.func9, Tryz.ntmps9
    go_wp2
    go_ret2
    exact ParsePost.bad rfl (Below.refl _ _)
  have q45 : (s.toList == [45]) = false := by rw [Lib.toList_data]; exact beq_eq_false_iff_ne.2 h45
  have hne := Wd.cutAt_ne 44 s.data.toList
  have hcl := cut_len 44 s.data.toList
  have hpl := fun p hp => piece_len (c := 44) (l := s.data.toList) p hp
  rw [← size_list] at hcl hpl
  have H45 := Lib.hid h45
  have HPL := Lib.hid hpl
  have HNE := Lib.hid hne
  have HB := Lib.hid (@Wd.parse_bad s.data.toList h45)
  have HRNG := Lib.hid (fun E => @Wd.parse_range s.data.toList E h45)
  have HLNG := Lib.hid (fun E => @Wd.parse_long s.data.toList E h45)
  have HOK := Lib.hid (fun E => @Wd.parse_ok s.data.toList E h45)
  clear h45 hpl hne
  go_enter Tryz.func9, Tryz.ntmps9
  go_wp2_with fail
  refine (splitComma s _ hE.env (by omega)).mono ?_
  rintro e w1 ⟨⟨v7, rfl, hr7⟩, hb1⟩
  have hE1 := hE.below hb1
  obtain ⟨b7, o7, cap7, rfl, hlt7, hc7⟩ := hr7.cellsS HNE.out
  clear hr7 hE
  have hrl0 := List.length_pos_iff.2 HNE.out
  generalize hrs : Wd.cutAt 44 s.data.toList = rs at *
  clear hrs HNE
  go_wp2
  go_loopw [4, 5, 24] (fun la f i wr => ∃ (k : Nat) (E : List (List UInt8 × List UInt8)), k ≤ rs.length ∧ i = .int .i64 k ∧ Hid (Wd.PRel rs k E) ∧ Hid (∀ p ∈ E, p.2.length ≤ 1048576) ∧ la = S8 (lastS E) ∧ OwnL 67 2 encP wr w1.heap.size f E ∧ Below w1.heap.size w1 wr) (fun _ _ i _ => rs.length - (intOf i).toNat)
  case atStart => exact ⟨0, [], Nat.zero_le _, rfl, Wd.PRel.zero rs, by intro p hp; simp at hp, rfl, OwnL.nil _ _, Below.refl _ _⟩
  case round =>
    obtain ⟨k, E, hk, rfl, hP, hPL0, rfl, hof, hbr⟩ := hrel
    by_cases hlt : k < rs.length
    · have i1 : (k : Int) < (rs.length : Int) := by omega
      have c7 := (hbr.cell (p := ⟨b7, o7 + k, none⟩) hlt7).trans (hc7.out k hlt)
      have hrl : rs[k].length ≤ 1048576 := Nat.le_trans (HPL.out rs[k] (List.getElem_mem _)) (by omega)
      have hEr := hE1.below hbr
      rcases Wd.cut_at 45 rs[k] with ⟨fs, es, he, ha, hcut⟩ | ⟨ha, hcut⟩
      · have hal : fs.length ≤ 1048576 := by have := congrArg List.length he; simp at this; omega
        have hbl : es.length ≤ 1048576 := by have := congrArg List.length he; simp at this; omega
        have hen : Wd.ends1 rs[k] = if Wd.natDec fs && Wd.natDec es && decide (Wd.natVal fs < Wd.natVal es) then some (fs, es) else none := by rw [he]; exact Wd.ends1_cut ha
        have HCT := Lib.hid (cutDash rs[k] _ hEr.env hrl fs es true hcut)
        have hda : ∀ w, Calls Tryz.prog 29 #[S8 fs] w fun e w' => e = .returned (.bool (Wd.natDec fs)) ∧ Below w.heap.size w w' := fun w => by rw [← Wd.decimal_no ha]; exact isDec_l fs w hal
        have hdb := fun w => isDec_l es w hbl
        have hen : ∀ (d1 d2 : Bool) (c : UInt8) (z : Bool) (N : Int) (g q7 q12 q21 : Bool), d1 = Wd.natDec fs → d2 = Wd.decimal es → c = es.headD 0 → z = ((c.toNat : Int) == 45) → N = cmpS fs es → g = decide (0 ≤ N) → q7 = (!d1 || !d2) → q12 = (q7 || z) → q21 = (q12 || (true && g)) →
            (q21 = true → Wd.ends1 rs[k] = none) ∧ (q21 = false → Wd.ends1 rs[k] = some (fs, es) ∧ Wd.natDec fs = true) := fun _ _ _ _ _ _ _ _ _ h1 h2 h3 h4 h5 h6 h7 h8 h9 => run_cut hen h1 h2 h3 h4 h5 h6 h7 h8 h9
        clear he ha hcut
        go_wp2_with fail
        refine HCT.out.mono ?_
        rintro e w2 ⟨rfl, hb2⟩
        have hof2 := hof.below hb2
        have hbr2 := hbr.trans (hb2.mono hbr.size)
        have hE2 := hEr.below hb2
        clear hof hbr hb2 HCT hEr
        go_wp2_with fail
        obtain ⟨d1, hd1⟩ : ∃ d1, d1 = Wd.natDec fs := ⟨_, rfl⟩
        obtain ⟨d2, hd2⟩ : ∃ d2, d2 = Wd.decimal es := ⟨_, rfl⟩
        obtain ⟨c, hc⟩ : ∃ c : UInt8, c = (es).headD 0 := ⟨_, rfl⟩
        obtain ⟨z, hz⟩ : ∃ z, z = ((c.toNat : Int) == 45) := ⟨_, rfl⟩
        obtain ⟨N, hN⟩ : ∃ N, N = cmpS fs es := ⟨_, rfl⟩
        obtain ⟨g, hg⟩ : ∃ g, g = decide (0 ≤ N) := ⟨_, rfl⟩
        obtain ⟨p, hp⟩ : ∃ p, p = decide ((0 : Int) < (k : Int)) := ⟨_, rfl⟩
        obtain ⟨v, hv⟩ : ∃ v, v = decide (Wd.natVal (lastS E) + 1 < Wd.natVal fs) := ⟨_, rfl⟩
        have hdec := hen _ _ _ _ _ _ _ _ _ hd1 hd2 hc hz hN hg rfl rfl rfl
        have HC10 : Hid ((!d1 || !d2) = false → ∃ t, es = c :: t) := fun h => heads_of (by rw [hd2] at h; exact h) hc
        have HFOL : Hid (p = true → (((!d1 || !d2) || z) || (true && g)) = false → ∀ w, EnvP w → Calls Tryz.prog 31 #[S8 (lastS E), S8 fs] w fun e w' => e = .returned (.bool v) ∧ Below w.heap.size w w') := by
          intro h1 h2 w hE
          obtain ⟨HNL, hll, _⟩ := last_of hP.out hPL0.out (by rw [hp] at h1; simpa using h1)
          rw [hv]
          exact follow_l (lastS E) fs w hE HNL.out (hdec.2 h2).2 (by omega) (by omega)
        have HS : Hid (((((!d1 || !d2) || z) || (true && g)) || (p && !v)) = true → Wd.parseList s.data.toList = ([], 6)) := fun h => run_bad hP.out hlt HB.out hdec.1 (fun h => (hdec.2 h).1) hp hv rfl h
        have HGO : Hid (((((!d1 || !d2) || z) || (true && g)) || (p && !v)) = false → Wd.ends1 rs[k] = some (fs, es) ∧ Wd.after (E.getLast?.map (·.2)) fs = true) := fun h => run_good hP.out (fun h => (hdec.2 h).1) hp hv rfl h
        have HDA : Hid (∀ w, Calls Tryz.prog 29 #[S8 fs] w fun e w' => e = .returned (.bool d1) ∧ Below w.heap.size w w') := fun w => by rw [hd1]; exact hda w
        have HDB : Hid (∀ w, Calls Tryz.prog 29 #[S8 es] w fun e w' => e = .returned (.bool d2) ∧ Below w.heap.size w w') := fun w => by rw [hd2]; exact isDec_l _ w hbl
        have HCMP : Hid (∀ w, Calls Tryz.prog 30 #[S8 fs, S8 es] w fun e w' => e = .returned (.int .i64 N) ∧ w' = w) := fun w => by rw [hN]; exact compare_any _ _ w (by omega) (by omega)
        clear hdec hd1 hd2 hc hN hv hda hen
        obtain ⟨L, hL⟩ : ∃ L, L = lastS E := ⟨_, rfl⟩
        have HLL := Lib.hid hL
        rw [← hL] at HFOL
        rw [← hL]
        clear hL
        go_wp2_with fail
        refine (HDA.out _).mono ?_
        rintro e wa ⟨rfl, hA⟩
        cases d1 with
        | false =>
          have HS := Lib.hid (HS.out rfl)
          go_wp2
          go_ret2
          exact ParsePost.bad HS.out (hb1.trans ((hbr2.trans ((hA).mono hbr2.size)).mono hb1.size))
        | true =>
        go_wp2_with fail
        refine (HDB.out _).mono ?_
        rintro e wb ⟨rfl, hB⟩
        cases d2 with
        | false =>
          have HS := Lib.hid (HS.out rfl)
          go_wp2
          go_ret2
          exact ParsePost.bad HS.out (hb1.trans ((hbr2.trans ((hA.trans (hB.mono hA.size)).mono hbr2.size)).mono hb1.size))
        | true =>
        obtain ⟨t, rfl⟩ := HC10.out rfl
        cases z with
        | true =>
          replace hz : (((((⟨(c :: t).toArray⟩ : ByteArray)[0]'(by rw [size_mk]; simp)).toNat : Nat) : Int) == 45) = true := hz.symm
          have HS := Lib.hid (HS.out rfl)
          go_wp2
          go_ret2
          exact ParsePost.bad HS.out (hb1.trans ((hbr2.trans ((hA.trans (hB.mono hA.size)).mono hbr2.size)).mono hb1.size))
        | false =>
        replace hz : (((((⟨(c :: t).toArray⟩ : ByteArray)[0]'(by rw [size_mk]; simp)).toNat : Nat) : Int) == 45) = false := hz.symm
        go_wp2_with fail
        refine (HCMP.out _).mono ?_
        rintro e wc ⟨rfl, rfl⟩
        cases g with
        | true =>
          have iN : (0 : Int) ≤ N := by simpa using hg.symm
          clear hg
          have HS := Lib.hid (HS.out rfl)
          go_wp2
          go_ret2
          exact ParsePost.bad HS.out (hb1.trans ((hbr2.trans ((hA.trans (hB.mono hA.size)).mono hbr2.size)).mono hb1.size))
        | false =>
        have iN : ¬ (0 : Int) ≤ N := by simpa using hg.symm
        clear hg
        cases p with
        | false =>
          have i3 : ¬ (0 : Int) < (k : Int) := by simpa using hp.symm
          clear hp
          obtain ⟨HE, HAF⟩ := HGO.out rfl
          have hgg := hA.trans (hB.mono hA.size)
          have hof3 := hof2.below hgg
          have hbr3 := hbr2.trans (hgg.mono hbr2.size)
          have hsz3 := hbr3.size
          have hEl := hP.out.len
          have HST := Lib.hid (hP.out.step hlt HE HAF)
          clear hP c7 hof2 hbr2 hgg HE HAF HGO HS HFOL HDA HDB HCMP
          go_wp2_with (at_builtin; refine appL elP _ rfl _ _ rfl w1.heap.size _ _ (fs, (c :: t)) rfl (hof3.alloc _) _ 1 rfl (newP _ _ (fs, (c :: t))) (by unfold maxLen; omega) (by omega) (by simp; omega) ?_; rintro v5 w5 hof5 hgr5 ⟨g5, cc5, rfl⟩; have hbr5 := below_appL (hbr3.alloc hsz3 _) (hof3.alloc _) hgr5 (by simp; omega))
          go_roundw
          case rel => exact ⟨k + 1, E ++ [(fs, (c :: t))], by omega, by go_num, HST, len_snoc hPL0.out hbl, by rw [lastS_snoc], by simpa [hEl] using hof5, hbr5⟩
          case measure => simp [intOf]; omega
        | true =>
        have i3 : (0 : Int) < (k : Int) := by simpa using hp.symm
        clear hp
        go_wp2_with fail
        refine (HFOL.out (by first | trivial | rfl) (by first | trivial | rfl | simp) _ (hE2.below (hA.trans (hB.mono hA.size)))).mono ?_
        rintro e wd ⟨rfl, hC⟩
        cases v with
        | false =>
          have HS := Lib.hid (HS.out rfl)
          go_wp2
          go_ret2
          exact ParsePost.bad HS.out (hb1.trans ((hbr2.trans (((hA.trans (hB.mono hA.size)).trans (hC.mono (hA.trans (hB.mono hA.size)).size)).mono hbr2.size)).mono hb1.size))
        | true =>
          obtain ⟨HE, HAF⟩ := HGO.out rfl
          have hgg := (hA.trans (hB.mono hA.size)).trans (hC.mono (hA.trans (hB.mono hA.size)).size)
          have hof3 := hof2.below hgg
          have hbr3 := hbr2.trans (hgg.mono hbr2.size)
          have hsz3 := hbr3.size
          have hEl := hP.out.len
          have HST := Lib.hid (hP.out.step hlt HE HAF)
          clear hP c7 hof2 hbr2 hgg HE HAF HGO HS HFOL HDA HDB HCMP
          go_wp2_with (at_builtin; refine appL elP _ rfl _ _ rfl w1.heap.size _ _ (fs, (c :: t)) rfl (hof3.alloc _) _ 1 rfl (newP _ _ (fs, (c :: t))) (by unfold maxLen; omega) (by omega) (by simp; omega) ?_; rintro v5 w5 hof5 hgr5 ⟨g5, cc5, rfl⟩; have hbr5 := below_appL (hbr3.alloc hsz3 _) (hof3.alloc _) hgr5 (by simp; omega))
          go_roundw
          case rel => exact ⟨k + 1, E ++ [(fs, (c :: t))], by omega, by go_num, HST, len_snoc hPL0.out hbl, by rw [lastS_snoc], by simpa [hEl] using hof5, hbr5⟩
          case measure => simp [intOf]; omega
      · have hen := Wd.ends1_nocut ha
        have HCT := Lib.hid (cutDash rs[k] _ hEr.env hrl rs[k] [] false hcut)
        have hda : ∀ w, Calls Tryz.prog 29 #[S8 rs[k]] w fun e w' => e = .returned (.bool (Wd.natDec rs[k])) ∧ Below w.heap.size w w' := fun w => by rw [← Wd.decimal_no ha]; exact isDec_l rs[k] w hrl
        have hen : ∀ (d1 d2 : Bool) (c : UInt8) (z : Bool) (N : Int) (g q7 q12 q21 : Bool), d1 = Wd.natDec rs[k] → d2 = Wd.decimal rs[k] → c = (rs[k]).headD 0 → z = ((c.toNat : Int) == 45) → N = cmpS rs[k] rs[k] → g = decide (0 ≤ N) → q7 = (!d1 || !d2) → q12 = (q7 || z) → q21 = (q12 || (false && g)) →
            (q21 = true → Wd.ends1 rs[k] = none) ∧ (q21 = false → Wd.ends1 rs[k] = some (rs[k], rs[k]) ∧ Wd.natDec rs[k] = true) := fun _ _ _ _ _ _ _ _ _ h1 h2 h3 h4 _ _ h7 h8 h9 => run_one ha hen h1 h2 h3 h4 h7 h8 h9
        clear ha hcut
        go_wp2_with fail
        refine HCT.out.mono ?_
        rintro e w2 ⟨rfl, hb2⟩
        have hof2 := hof.below hb2
        have hbr2 := hbr.trans (hb2.mono hbr.size)
        have hE2 := hEr.below hb2
        clear hof hbr hb2 HCT hEr
        go_wp2_with fail
        have hbl := hrl
        obtain ⟨r, hr⟩ : ∃ r, r = rs[k] := ⟨_, rfl⟩
        have HR := Lib.hid hr
        have hen' : ∀ (d1 d2 : Bool) (c : UInt8) (z : Bool) (N : Int) (g q7 q12 q21 : Bool), d1 = Wd.natDec r → d2 = Wd.decimal r → c = r.headD 0 → z = ((c.toNat : Int) == 45) → N = cmpS r r → g = decide (0 ≤ N) → q7 = (!d1 || !d2) → q12 = (q7 || z) → q21 = (q12 || (false && g)) →
            (q21 = true → Wd.ends1 rs[k] = none) ∧ (q21 = false → Wd.ends1 rs[k] = some (r, r) ∧ Wd.natDec r = true) := by rw [hr]; exact hen
        clear hen
        have hen := hen'
        clear hen'
        rw [← hr] at hda hrl hbl c7
        rw [← hr]
        clear hr
        obtain ⟨d1, hd1⟩ : ∃ d1, d1 = Wd.natDec r := ⟨_, rfl⟩
        obtain ⟨d2, hd2⟩ : ∃ d2, d2 = Wd.decimal r := ⟨_, rfl⟩
        obtain ⟨c, hc⟩ : ∃ c : UInt8, c = (r).headD 0 := ⟨_, rfl⟩
        obtain ⟨z, hz⟩ : ∃ z, z = ((c.toNat : Int) == 45) := ⟨_, rfl⟩
        obtain ⟨N, hN⟩ : ∃ N, N = cmpS r r := ⟨_, rfl⟩
        obtain ⟨g, hg⟩ : ∃ g, g = decide (0 ≤ N) := ⟨_, rfl⟩
        obtain ⟨p, hp⟩ : ∃ p, p = decide ((0 : Int) < (k : Int)) := ⟨_, rfl⟩
        obtain ⟨v, hv⟩ : ∃ v, v = decide (Wd.natVal (lastS E) + 1 < Wd.natVal r) := ⟨_, rfl⟩
        have hdec := hen _ _ _ _ _ _ _ _ _ hd1 hd2 hc hz hN hg rfl rfl rfl
        have HC10 : Hid ((!d1 || !d2) = false → ∃ t, r = c :: t) := fun h => heads_of (by rw [hd2] at h; exact h) hc
        have HFOL : Hid (p = true → (((!d1 || !d2) || z) || (false && g)) = false → ∀ w, EnvP w → Calls Tryz.prog 31 #[S8 (lastS E), S8 r] w fun e w' => e = .returned (.bool v) ∧ Below w.heap.size w w') := by
          intro h1 h2 w hE
          obtain ⟨HNL, hll, _⟩ := last_of hP.out hPL0.out (by rw [hp] at h1; simpa using h1)
          rw [hv]
          exact follow_l (lastS E) r w hE HNL.out (hdec.2 h2).2 (by omega) (by omega)
        have HS : Hid (((((!d1 || !d2) || z) || (false && g)) || (p && !v)) = true → Wd.parseList s.data.toList = ([], 6)) := fun h => run_bad hP.out hlt HB.out hdec.1 (fun h => (hdec.2 h).1) hp hv rfl h
        have HGO : Hid (((((!d1 || !d2) || z) || (false && g)) || (p && !v)) = false → Wd.ends1 rs[k] = some (r, r) ∧ Wd.after (E.getLast?.map (·.2)) r = true) := fun h => run_good hP.out (fun h => (hdec.2 h).1) hp hv rfl h
        have HDA : Hid (∀ w, Calls Tryz.prog 29 #[S8 r] w fun e w' => e = .returned (.bool d1) ∧ Below w.heap.size w w') := fun w => by rw [hd1]; exact hda w
        have HDB : Hid (∀ w, Calls Tryz.prog 29 #[S8 r] w fun e w' => e = .returned (.bool d2) ∧ Below w.heap.size w w') := fun w => by rw [hd2]; exact isDec_l _ w hbl
        have HCMP : Hid (∀ w, Calls Tryz.prog 30 #[S8 r, S8 r] w fun e w' => e = .returned (.int .i64 N) ∧ w' = w) := fun w => by rw [hN]; exact compare_any _ _ w (by omega) (by omega)
        clear hdec hd1 hd2 hc hN hv hda hen
        obtain ⟨L, hL⟩ : ∃ L, L = lastS E := ⟨_, rfl⟩
        have HLL := Lib.hid hL
        rw [← hL] at HFOL
        rw [← hL]
        clear hL
        go_wp2_with fail
        refine (HDA.out _).mono ?_
        rintro e wa ⟨rfl, hA⟩
        cases d1 with
        | false =>
          have HS := Lib.hid (HS.out rfl)
          go_wp2
          go_ret2
          exact ParsePost.bad HS.out (hb1.trans ((hbr2.trans ((hA).mono hbr2.size)).mono hb1.size))
        | true =>
        go_wp2_with fail
        refine (HDB.out _).mono ?_
        rintro e wb ⟨rfl, hB⟩
        cases d2 with
        | false =>
          have HS := Lib.hid (HS.out rfl)
          go_wp2
          go_ret2
          exact ParsePost.bad HS.out (hb1.trans ((hbr2.trans ((hA.trans (hB.mono hA.size)).mono hbr2.size)).mono hb1.size))
        | true =>
        obtain ⟨t, rfl⟩ := HC10.out rfl
        cases z with
        | true =>
          replace hz : (((((⟨(c :: t).toArray⟩ : ByteArray)[0]'(by rw [size_mk]; simp)).toNat : Nat) : Int) == 45) = true := hz.symm
          have HS := Lib.hid (HS.out rfl)
          go_wp2
          go_ret2
          exact ParsePost.bad HS.out (hb1.trans ((hbr2.trans ((hA.trans (hB.mono hA.size)).mono hbr2.size)).mono hb1.size))
        | false =>
        replace hz : (((((⟨(c :: t).toArray⟩ : ByteArray)[0]'(by rw [size_mk]; simp)).toNat : Nat) : Int) == 45) = false := hz.symm
        clear hg
        cases p with
        | false =>
          have i3 : ¬ (0 : Int) < (k : Int) := by simpa using hp.symm
          clear hp
          obtain ⟨HE, HAF⟩ := HGO.out rfl
          have hgg := hA.trans (hB.mono hA.size)
          have hof3 := hof2.below hgg
          have hbr3 := hbr2.trans (hgg.mono hbr2.size)
          have hsz3 := hbr3.size
          have hEl := hP.out.len
          have HST := Lib.hid (hP.out.step hlt HE HAF)
          clear hP c7 hof2 hbr2 hgg HE HAF HGO HS HFOL HDA HDB HCMP
          go_wp2_with (at_builtin; refine appL elP _ rfl _ _ rfl w1.heap.size _ _ ((c :: t), (c :: t)) rfl (hof3.alloc _) _ 1 rfl (newP _ _ ((c :: t), (c :: t))) (by unfold maxLen; omega) (by omega) (by simp; omega) ?_; rintro v5 w5 hof5 hgr5 ⟨g5, cc5, rfl⟩; have hbr5 := below_appL (hbr3.alloc hsz3 _) (hof3.alloc _) hgr5 (by simp; omega))
          go_roundw
          case rel => exact ⟨k + 1, E ++ [((c :: t), (c :: t))], by omega, by go_num, HST, len_snoc hPL0.out hbl, by rw [lastS_snoc], by simpa [hEl] using hof5, hbr5⟩
          case measure => simp [intOf]; omega
        | true =>
        have i3 : (0 : Int) < (k : Int) := by simpa using hp.symm
        clear hp
        go_wp2_with fail
        refine (HFOL.out (by first | trivial | rfl) (by first | trivial | rfl | simp) _ (hE2.below (hA.trans (hB.mono hA.size)))).mono ?_
        rintro e wd ⟨rfl, hC⟩
        cases v with
        | false =>
          have HS := Lib.hid (HS.out rfl)
          go_wp2
          go_ret2
          exact ParsePost.bad HS.out (hb1.trans ((hbr2.trans (((hA.trans (hB.mono hA.size)).trans (hC.mono (hA.trans (hB.mono hA.size)).size)).mono hbr2.size)).mono hb1.size))
        | true =>
          obtain ⟨HE, HAF⟩ := HGO.out rfl
          have hgg := (hA.trans (hB.mono hA.size)).trans (hC.mono (hA.trans (hB.mono hA.size)).size)
          have hof3 := hof2.below hgg
          have hbr3 := hbr2.trans (hgg.mono hbr2.size)
          have hsz3 := hbr3.size
          have hEl := hP.out.len
          have HST := Lib.hid (hP.out.step hlt HE HAF)
          clear hP c7 hof2 hbr2 hgg HE HAF HGO HS HFOL HDA HDB HCMP
          go_wp2_with (at_builtin; refine appL elP _ rfl _ _ rfl w1.heap.size _ _ ((c :: t), (c :: t)) rfl (hof3.alloc _) _ 1 rfl (newP _ _ ((c :: t), (c :: t))) (by unfold maxLen; omega) (by omega) (by simp; omega) ?_; rintro v5 w5 hof5 hgr5 ⟨g5, cc5, rfl⟩; have hbr5 := below_appL (hbr3.alloc hsz3 _) (hof3.alloc _) hgr5 (by simp; omega))
          go_roundw
          case rel => exact ⟨k + 1, E ++ [((c :: t), (c :: t))], by omega, by go_num, HST, len_snoc hPL0.out hbl, by rw [lastS_snoc], by simpa [hEl] using hof5, hbr5⟩
          case measure => simp [intOf]; omega
    · have hdone := hP.out.done (by omega)
      have hEl := hP.out.len
      have hEk : E.length = rs.length := by omega
      have hk0 : 0 < k := by omega
      obtain ⟨HNL, hll, hgl⟩ := last_of hP.out hPL0.out hk0
      have hlO : Wd.lastOf E = Wd.natVal (lastS E) := Wd.lastOf_L hgl
      have HGD := Lib.hid hP.out.good
      have H1 := Lib.hid (HRNG.out E hdone)
      have H2 := Lib.hid (HLNG.out E hdone)
      have H3 := Lib.hid (HOK.out E hdone)
      have hcm := fun w => compare_any (lastS E) (Lib.itoa 1000000000) w (by omega) (Nat.le_trans itoa9_len (by omega))
      have hcl := cmpS_gt HNL.out (Wd.natDec_itoa (n := 1000000000) (by omega))
      rw [Wd.natVal_itoa (by omega)] at hcl
      rw [hlO] at H1 H2 H3
      have HLO := Lib.hid hlO
      have hEr := hE1.below hbr
      have i1 : ¬ (k : Int) < (rs.length : Int) := by omega
      clear HRNG HLNG HOK HB hdone hEl hgl hlO hP hlt HNL
      generalize lastS E = L at *
      generalize cmpS L (Lib.itoa 1000000000) = N at *
      have HCM := Lib.hid hcm
      have HCL := Lib.hid hcl
      clear hll hcm hcl
      go_wp2_with fail
      refine (itoa_any 1000000000 (by omega) (by omega) _ hEr.env).mono ?_
      rintro e w2 ⟨rfl, hx⟩
      have hbr2 := hbr.trans (hx.mono hbr.size)
      have hof2 := hof.below hx
      clear hx hbr hof hEr
      go_wp2_with fail
      refine (HCM.out _).mono ?_
      rintro e w3 ⟨rfl, rfl⟩
      by_cases hr : 1000000000 < Wd.natVal L
      · have iN : (0 : Int) < N := HCL.out.2 (by simpa using hr)
        have HS := Lib.hid (H1.out hr)
        clear hr
        go_wp2
        go_ret2
        exact ParsePost.bad HS.out (hb1.trans (hbr2.mono hb1.size))
      have iN : ¬ (0 : Int) < N := fun h => hr (by simpa using HCL.out.1 h)
      have hne1 : E ≠ [] := by intro e; rw [e] at hEk; simp at hEk; omega
      have H2 := Lib.hid (H2.out hr)
      have H3 := Lib.hid (H3.out hr)
      have HR := Lib.hid hr
      obtain ⟨bf, of_, capf, rfl, hltf, hcf⟩ := (hof2.reads elP.len).form hne1
      have HCF := Lib.hid hcf
      clear hof2 hne1 H1 HCM HCL hr hcf
      go_wp2
      go_loopw [11, 84] (fun out i wr => ∃ (k : Nat), k ≤ E.length ∧ i = .int .i64 k ∧ OwnL 3 1 encI wr w3.heap.size out (Wd.expand (E.take k)) ∧ (Wd.expand (E.take k)).length ≤ 500 ∧ Below w3.heap.size w3 wr) (fun _ i _ => E.length - (intOf i).toNat)
      case atStart => exact ⟨0, Nat.zero_le _, rfl, by simpa [Wd.expand] using OwnL.nil _ _, by simp [Wd.expand], Below.refl _ _⟩
      case round =>
        obtain ⟨k, hk, rfl, hown, hlen, hbr⟩ := hrel
        by_cases hke : k < E.length
        · have i1 : (k : Int) < (E.length : Int) := by omega
          have hmem := List.getElem_mem hke
          obtain ⟨g1, g2, g3, g4⟩ := HGD.out _ hmem
          have hl2 := hPL0.out _ hmem
          have hl1 := Wd.len_of_val g1 g2 g3
          have hlo : Wd.lastOf E = Wd.natVal L := HLO.out
          have hrr : Wd.lastOf E ≤ 1000000000 := by rw [hlo]; exact Nat.le_of_not_lt HR.out
          have cf := (hbr.cell (p := ⟨bf, of_ + k * 2, none⟩) hltf).trans (HCF.out k hke 0 _ rfl)
          have cg := (hbr.cell (p := ⟨bf, of_ + k * 2 + 1, none⟩) hltf).trans (HCF.out k hke 1 _ rfl)
          have HX := Lib.hid (Wd.expand_take_succ hke)
          have HLG := Lib.hid (@Wd.long_of E k hke)
          generalize E[k] = p at *
          have I1 := Lib.hid fun w => atoi_l p.1 w g1 (by omega) (by omega)
          have I2 := Lib.hid fun w => atoi_l p.2 w g2 (by omega) (by omega)
          clear hlo hmem g1 g2 hl1 hl2
          have HT := fun j => @Wd.nums_take p j
          have HA := fun j => @Wd.nums_all p j
          have HNN := Wd.nums_len p
          have ha : Wd.natVal p.1 ≤ 1000000000 := by omega
          have hb : Wd.natVal p.2 ≤ 1000000000 := by omega
          clear hrr g4
          generalize Wd.natVal p.1 = a at *
          generalize Wd.natVal p.2 = b at *
          generalize Wd.nums p = Nn at *
          generalize hEX : Wd.expand (E.take k) = X at *
          clear hEX
          have HT := Lib.hid HT
          have HA := Lib.hid HA
          have HNN := Lib.hid HNN
          go_wp2_with fail
          refine (I1.out _).mono ?_
          rintro e w4 ⟨rfl, h4⟩
          have hbr4 : Below w3.heap.size w3 w4 := (hbr.alloc hbr.size _).trans (h4.mono (hbr.alloc hbr.size _).size)
          have hown4 := (hown.alloc _).below h4
          have cx : w4.cell? ⟨wr.heap.size, 1, none⟩ = some (S8 p.2) := (h4.cell (p := ⟨wr.heap.size, 1, none⟩) (by simp)).trans (by rw [World.cell?_alloc_at _ _ _ _ rfl]; rfl)
          clear hown hbr cf cg I1 h4
          go_wp2_with fail
          refine (I2.out _).mono ?_
          rintro e w5 ⟨rfl, h5⟩
          have hbr5 := hbr4.trans (h5.mono hbr4.size)
          have hown5 := hown4.below h5
          clear hbr4 hown4 h5 cx I2
          obtain ⟨pa, pc, hpv⟩ := (hown5.reads encI_len).len
          subst hpv
          by_cases h6 : (500 : Int) - (X.length : Int) ≤ (b : Int) - (a : Int)
          · have HS := Lib.hid (H2.out (HLG.out (by have := HNN.out; simp only [List.length_append]; omega)))
            go_wp2
            go_ret2
            exact ParsePost.bad HS.out (hb1.trans ((hbr2.trans (hbr5.mono hbr2.size)).mono hb1.size))
          go_wp2
          go_loopw [11, 18] (fun out n wr => ∃ (j : Nat), a + j ≤ b + 1 ∧ n = .int .i64 ((a : Int) + (j : Int)) ∧ OwnL 3 1 encI wr w3.heap.size out (X ++ Nn.take j) ∧ (X ++ Nn.take j).length ≤ X.length + j ∧ Below w3.heap.size w3 wr) (fun _ n _ => b + 1 - (intOf n).toNat)
          case atStart => exact ⟨0, by omega, by simp, by simpa using hown5, by simp, hbr5⟩
          case round =>
            obtain ⟨j, hj, rfl, hown, hlen2, hbr⟩ := hrel
            have hsz := hbr.size
            by_cases hjl : a + j ≤ b
            · have i2 : (a : Int) + (j : Int) ≤ (b : Int) := by omega
              have ht := HT.out j hjl
              have HT2 : Hid (X ++ Nn.take (j + 1) = (X ++ Nn.take j) ++ [(a : Int) + (j : Int)]) := by show _ = _; rw [ht, List.append_assoc]
              clear ht
              generalize X ++ Nn.take j = Y at *
              have hl9 : Y.length + 1 ≤ 501 := by omega
              go_wp2_with (at_builtin; refine appL elI _ rfl _ _ rfl w3.heap.size _ _ ((a : Int) + (j : Int)) rfl (hown.alloc _) _ 1 rfl (newI _ _ _ _ rfl) (by unfold maxLen; omega) (by omega) (by simp; omega) ?_; rintro v2 w2 hown2 hgr ⟨g2, c2, rfl⟩; have hbr2 := below_appL (hbr.alloc hsz _) (hown.alloc _) hgr (by simp; omega))
              go_roundw
              case rel => exact ⟨j + 1, by omega, by go_num, by rw [HT2.out]; exact hown2, by rw [HT2.out]; simp; omega, hbr2⟩
              case measure => simp [intOf]; omega
            · have i2 : ¬ (a : Int) + (j : Int) ≤ (b : Int) := by omega
              have he := HA.out j (by omega)
              rw [he] at hown
              have hle : (X ++ Nn).length ≤ 500 := by have := HNN.out; simp only [List.length_append]; omega
              clear he
              go_wp2
              go_roundw
              case rel => exact ⟨k + 1, by omega, by go_num, by rw [HX.out]; exact hown, by rw [HX.out]; exact hle, hbr⟩
              case measure => simp [intOf]; omega
        · have hk2 : E.take k = E := List.take_of_length_le (by omega)
          rw [hk2] at hown hlen
          have HS := Lib.hid (H3.out (by omega))
          have i1 : ¬ (k : Int) < (E.length : Int) := by omega
          clear hk2 H3 H2
          go_wp2
          go_ret2
          exact ⟨⟨_, by rw [HS.out]; rfl, by rw [HS.out]; exact hown.reads encI_len⟩, hb1.trans ((hbr2.trans (hbr.mono hbr2.size)).mono hb1.size)⟩
end Go.Proofs.YtffkohdnhaebjaaGreatDoor
