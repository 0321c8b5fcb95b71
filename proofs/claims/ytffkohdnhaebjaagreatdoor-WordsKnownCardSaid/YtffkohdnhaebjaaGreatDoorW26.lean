/-
  Walks: the reference's List.
-/
import Derived.Test.YtffkohdnhaebjaaGreatDoorW19
import Derived.Test.YtffkohdnhaebjaaGreatDoorW8
namespace Go.Proofs.YtffkohdnhaebjaaGreatDoor
open Go.RowKit Go.Shelf

theorem cat_a (out x : List UInt8) : Value.string ((⟨out.toArray⟩ : ByteArray) ++ (⟨x.toArray⟩ : ByteArray)) = S8 (out ++ x) := by rw [bcat]
theorem cat_b (out x : List UInt8) : Value.string ((⟨out.toArray⟩ : ByteArray) ++ (⟨#[44]⟩ : ByteArray) ++ (⟨x.toArray⟩ : ByteArray)) = S8 (out ++ [44] ++ x) := by
  rw [show (⟨#[44]⟩ : ByteArray) = ⟨[44].toArray⟩ from rfl, bcat, bcat]
theorem cat_c (out x y : List UInt8) : Value.string ((⟨out.toArray⟩ : ByteArray) ++ (⟨x.toArray⟩ : ByteArray) ++ (⟨#[45]⟩ : ByteArray) ++ (⟨y.toArray⟩ : ByteArray)) = S8 (out ++ (x ++ 45 :: y)) := by
  rw [show (⟨#[45]⟩ : ByteArray) = ⟨[45].toArray⟩ from rfl, bcat, bcat, bcat]; simp
theorem cat_d (out x y : List UInt8) : Value.string ((⟨out.toArray⟩ : ByteArray) ++ (⟨#[44]⟩ : ByteArray) ++ (⟨x.toArray⟩ : ByteArray) ++ (⟨#[45]⟩ : ByteArray) ++ (⟨y.toArray⟩ : ByteArray)) = S8 (out ++ [44] ++ (x ++ 45 :: y)) := by
  rw [show (⟨#[45]⟩ : ByteArray) = ⟨[45].toArray⟩ from rfl, show (⟨#[44]⟩ : ByteArray) = ⟨[44].toArray⟩ from rfl, bcat, bcat, bcat, bcat]; simp
theorem incr_of {l : List Int} (h : ∀ j, (hj : j + 1 < l.length) → l[j] < l[j + 1]) : Wd.incr l = true := (Wd.incr_iff l).2 h
theorem incr_not {l : List Int} {j : Nat} (hj : j + 1 < l.length) (h : ¬ l[j] < l[j + 1]) : Wd.incr l = false := by
  rw [← Bool.not_eq_true, Wd.incr_iff]
  exact fun g => h (g j hj)
theorem incr_not' {l : List Int} {k : Nat} (h1 : 1 ≤ k) (hk : k < l.length) (h : l[k] ≤ l[k - 1]) : Wd.incr l = false := by
  obtain ⟨j, rfl⟩ : ∃ j, k = j + 1 := ⟨k - 1, by omega⟩
  exact incr_not hk (by have : l[j + 1] ≤ l[j] := h
                        omega)

set_option maxHeartbeats 8000000 in
set_option maxRecDepth 100000 in
theorem rList_any (v : Value) (l : List Int) (w : World) (h1 : ReadsL 1 encI w v l) (hl : l.length ≤ 4294967296) :
    Calls Tryz.prog 8 #[v] w fun e w' => e = listEnd l ∧ Below w.heap.size w w' := by
  by_cases hlong : 500 < l.length
  · have HS := Lib.hid (list_long hlong)
    obtain ⟨a, cap, rfl⟩ := h1.len
    clear h1
    go_enter Tryz.func8, Tryz.ntmps8
    go_wp2
    go_ret2
    exact ⟨HS.out.symm, Below.refl _ _⟩
  by_cases hz : l.length = 0
  · obtain ⟨a, cap, rfl⟩ := h1.len
    have hl0 := List.eq_nil_of_length_eq_zero hz
    subst hl0
    have HS := Lib.hid (show listEnd [] = .returned (.tuple #[.string ⟨#[45]⟩, .int .i64 0]) from rfl)
    clear h1 hlong hl hz
    go_enter Tryz.func8, Tryz.ntmps8
    go_wp2
    refine wp_loop_rounds 1 ?_
    rw [rounds_succ]
    go_wp2
    refine wp_loop_rounds 1 ?_
    rw [rounds_succ]
    go_wp2
    go_ret2
    exact ⟨HS.out.symm, Below.refl _ _⟩
  have hpos : 0 < l.length := by omega
  have hl5 : l.length ≤ 500 := by omega
  have hnz : ((l.length : Int) == 0) = false := by rw [beq_eq_false_iff_ne]; omega
  obtain ⟨b, o, cap, rfl, hb, hc⟩ := h1.form (by intro e; rw [e] at hpos; exact absurd hpos (by simp))
  have hcs : Hid (∀ j, (hj : j < l.length) → w.cell? ⟨b, o + j, none⟩ = some (.int .i64 l[j])) := by
    intro j hj
    have := hc j hj 0 (.int .i64 l[j]) rfl
    simpa using this
  clear hc h1
  go_enter Tryz.func8, Tryz.ntmps8
  go_wp2
  go_loop [4] (fun i => ∃ k : Nat, k ≤ l.length ∧ i = .int .i64 k ∧ Hid (∀ j, j < k → (hj : j < l.length) → 0 ≤ l[j] ∧ l[j] ≤ 1000000000)) (fun i => l.length - (intOf i).toNat)
  case atStart => exact ⟨0, Nat.zero_le _, rfl, fun j h => absurd h (Nat.not_lt_zero _)⟩
  case round =>
    obtain ⟨k, hk, rfl, hno⟩ := hrel
    by_cases hlt : k < l.length
    · have i1 : (k : Int) < (l.length : Int) := by omega
      have c1 := hcs.out k hlt
      by_cases hr : l[k] < 0 ∨ 1000000000 < l[k]
      · have HS := Lib.hid (list_range hlong hlt hr)
        rcases hr with hr | hr
        · go_wp2
          go_ret2
          exact ⟨HS.out.symm, Below.refl _ _⟩
        · have hr2 : 0 ≤ l[k] := by omega
          go_wp2
          go_ret2
          exact ⟨HS.out.symm, Below.refl _ _⟩
      · have hr1 : 0 ≤ l[k] := by omega
        have hr2 : l[k] ≤ 1000000000 := by omega
        have HN : Hid (∀ j, j < k + 1 → (hj : j < l.length) → 0 ≤ l[j] ∧ l[j] ≤ 1000000000) := by
          intro j hj hjl
          by_cases e : j = k
          · subst e; exact ⟨hr1, hr2⟩
          · exact hno.out j (by omega) hjl
        clear hr
        go_wp2
        go_round
        case rel => exact ⟨k + 1, by omega, by go_num, HN⟩
        case measure => simp [intOf]; omega
    · have hal : Hid (∀ j (hj : j < l.length), 0 ≤ l[j] ∧ l[j] ≤ 1000000000) := fun j hj => hno.out j (by omega) hj
      clear hno
      go_wp2
      go_loopw [5] (fun i wr => ∃ (k n : Nat), 1 ≤ k ∧ k ≤ l.length ∧ i = .int .i64 k ∧ wr = w.drewN n ∧ Hid (∀ j, j + 1 < k → (hj : j + 1 < l.length) → l[j] < l[j + 1])) (fun i _ => l.length - (intOf i).toNat)
      case atStart => exact ⟨1, 0, Nat.le_refl _, hpos, rfl, rfl, fun j h => absurd h (by omega)⟩
      case round =>
        obtain ⟨k, n, hk1, hkl, rfl, rfl, hin⟩ := hrel
        by_cases hlt : k < l.length
        · have i1 : (k : Int) < (l.length : Int) := by omega
          have c1 := hcs.out k hlt
          have c0 := hcs.out (k - 1) (by omega)
          by_cases hle : l[k] ≤ l[k - 1]
          · have HS := Lib.hid (list_form hlong hal.out (incr_not' hk1 hlt hle))
            have w1 : IntKind.i64.wrap ((k : Int) - 1) = (k : Int) - 1 := IntWalk.i64_in _ (by omega)
            have w3 : 0 ≤ (k : Int) - 1 := by omega
            have w4 : ((k : Int) - 1).toNat = k - 1 := by omega
            go_wp2
            go_quiet (fail)
            go_wp2
            go_ret2
            exact ⟨HS.out.symm, below_dn (below_dn (Below.refl _ _) _) _⟩
          · have HI : Hid (∀ j, j + 1 < k + 1 → (hj : j + 1 < l.length) → l[j] < l[j + 1]) := by
              intro j hj hjl
              by_cases e : j + 1 = k
              · subst e
                have : ¬ l[j + 1] ≤ l[j] := hle
                omega
              · exact hin.out j (by omega) hjl
            have hgt : l[k - 1] < l[k] := by omega
            clear hle hin
            have w1 : IntKind.i64.wrap ((k : Int) - 1) = (k : Int) - 1 := IntWalk.i64_in _ (by omega)
            have w3 : 0 ≤ (k : Int) - 1 := by omega
            have w4 : ((k : Int) - 1).toNat = k - 1 := by omega
            go_wp2
            go_quiet (fail)
            clear w1 w4
            go_wp2
            go_roundw
            case rel => exact ⟨k + 1, _, by omega, by omega, by go_num, by first | rfl | exact World.drewN_drewN _ _ _, HI⟩
            case measure => simp [intOf]; omega
        · have HL := Lib.hid ((list_ok hlong hal.out (incr_of fun j hj => hin.out j (by omega) hj)).2 hz)
          clear hin
          have hbk : Below w.heap.size w (w.drewN n) := below_dn (Below.refl _ _) _
          go_wp2
          go_loopw [6, 7] (fun s i wr => ∃ (m : Nat) (out : List UInt8), m ≤ l.length ∧ i = .int .i64 m ∧ s = S8 out ∧ Below w.heap.size w wr ∧ Hid (LRel l m out) ∧ out.length ≤ 44 * m ∧ (0 < m ↔ 0 < out.length)) (fun _ i _ => l.length - (intOf i).toNat)
          case atStart => exact ⟨0, [], Nat.zero_le _, rfl, rfl, hbk, LRel.zero l, by simp, by simp⟩
          case round =>
            obtain ⟨m, out, hm, rfl, rfl, hbr, hlr, hol, hpo⟩ := hrel
            obtain ⟨wo, rfl⟩ : ∃ wo : World, wo = wr := ⟨_, rfl⟩
            have hcw : Hid (∀ j, (hj : j < l.length) → wo.cell? ⟨b, o + j, none⟩ = some (.int .i64 l[j])) := fun j hj => (hbr.cell (p := ⟨b, o + j, none⟩) hb).trans (hcs.out j hj)
            by_cases hlt : m < l.length
            · have i1 : (m : Int) < (l.length : Int) := by omega
              go_wp2
              go_loopw [8] (fun i wr => ∃ (p n : Nat), m ≤ p ∧ p < l.length ∧ i = .int .i64 p ∧ Hid (Chain l m p) ∧ wr = wo.drewN n) (fun i _ => l.length - (intOf i).toNat)
              case atStart => exact ⟨m, 0, Nat.le_refl _, hlt, rfl, fun j a b _ => absurd b (by omega), rfl⟩
              case round =>
                obtain ⟨p, n, hmp, hpl, rfl, hch, rfl⟩ := hrel
                have hp := hal.out p hpl
                have d1 := hcw.out p hpl
                have w1 : IntKind.i64.wrap ((p : Int) + 1) = (p : Int) + 1 := IntWalk.i64_in _ (by omega)
                have w3 : 0 ≤ (p : Int) + 1 := by omega
                have w4 : ((p : Int) + 1).toNat = p + 1 := by omega
                have w5 : ((p : Int)).toNat = p := by omega
                by_cases hgo : ∃ h1 : p + 1 < l.length, l[p + 1] = l[p] + 1
                · obtain ⟨h1, he⟩ := hgo
                  have d2 := hcw.out (p + 1) h1
                  have g1 : decide ((p : Int) + 1 < (l.length : Int)) = true := by simp; omega
                  have w2 : IntKind.i64.wrap (l[p] + 1) = l[p] + 1 := IntWalk.i64_in _ (by omega)
                  have g2 : (l[p + 1] == l[p] + 1) = true := by rw [beq_iff_eq]; exact he
                  have HC : Hid (Chain l m (p + 1)) := by
                    intro j a c d
                    by_cases e : j = p
                    · subst e; exact he
                    · exact hch.out j a (by omega) d
                  clear he
                  go_wp2
                  go_quiet (fail)
                  clear w1 w2 w4 w5
                  go_wp2
                  go_roundw
                  case rel => exact ⟨p + 1, _, by omega, h1, by go_num, HC, by first | rfl | exact World.drewN_drewN _ _ _⟩
                  case measure => simp [intOf]; omega
                · have hx : ∀ h : p + 1 < l.length, l[p + 1] ≠ l[p] + 1 := fun h e => hgo ⟨h, e⟩
                  have HLR := Lib.hid (hlr.out.step hmp hpl hch.out hx)
                  have hcl := chain_le hmp hpl hch.out
                  have hm0 := hal.out m hlt
                  have hrt := runTxt_le l[m] l[p] hm0.1 hm0.2 hp.1 hp.2
                  have hi1 := Lib.itoa_length_le l[m] (by omega) (by omega)
                  have hi0 := itoa_pos l[m]
                  have hi2 := Lib.itoa_length_le l[p] (by omega) (by omega)
                  have HX := Lib.hid hx
                  have hbn : Hid (∀ k, Below w.heap.size w (wo.drewN k)) := fun k => below_dn hbr k
                  have hRT1 : p = m → Hid (Wd.runTxt (l[m], l[p]) = Lib.itoa l[m]) := fun e => runTxt_one (by subst e; rfl)
                  have hRT2 : m < p → l[m] < l[p] ∧ Hid (Wd.runTxt (l[m], l[p]) = Lib.itoa l[m] ++ (45 :: Lib.itoa l[p])) := fun e => ⟨by omega, runTxt_two (by omega)⟩
                  have hqq : p = m ∨ m < p := by omega
                  clear hx hgo hch hlr hcl
                  have HQ := Lib.hid hqq
                  clear hqq
                  by_cases h1 : p + 1 < l.length
                  · have d2 := hcw.out (p + 1) h1
                    have g1 : decide ((p : Int) + 1 < (l.length : Int)) = true := by simp; omega
                    have w2 : IntKind.i64.wrap (l[p] + 1) = l[p] + 1 := IntWalk.i64_in _ (by omega)
                    have g2 : (l[p + 1] == l[p] + 1) = false := by rw [beq_eq_false_iff_ne]; exact HX.out h1
                    go_wp2
                    go_quiet (fail)
                    clear w1 w2 w4 w5
                    obtain ⟨W, hW⟩ : ∃ W, W = (wo.drewN n).drewN nq := ⟨_, rfl⟩
                    rw [← hW]
                    have hbrW : Below w.heap.size w W := by rw [hW]; exact below_dn (hbn.out _) _
                    have cW := (hbrW.cell (p := ⟨b, o + m, none⟩) hb).trans (hcs.out m hlt)
                    clear hW hbn d1 g1 HX
                    rcases HQ.out with hpm | hpm
                    · have HR := hRT1 hpm
                      subst hpm
                      clear hRT1 hRT2
                      by_cases h0 : 0 < p
                      · have ho : out.isEmpty = false := by have := hpo.1 h0; cases out with
                          | nil => exact absurd this (by simp)
                          | cons => rfl
                        have HL3 := HLR.out
                        rw [if_neg (by omega), HR.out] at HL3
                        have HL4 := Lib.hid HL3
                        clear HL3
                        go_wp2_with fail; refine (rdigits_any _ _ (Nat.le_refl _) (by omega) (by omega) _).mono ?_; rintro e w3 ⟨rfl, hbx⟩; have hbr3 := hbrW.trans (hbx.mono hbrW.size); clear hbx
                        go_wp2
                        exact ⟨⟨p + 1, _, by omega, by go_num, cat_b _ _, hbr3, HL4, by simp; omega, by first | (simp; done) | (simp; omega)⟩, by simp [intOf]; omega⟩
                      · obtain rfl : out = [] := List.eq_nil_of_length_eq_zero (by omega)
                        have HL3 := HLR.out
                        rw [if_pos (by omega), HR.out] at HL3
                        have HL4 := Lib.hid HL3
                        clear HL3
                        have h00 : p ≤ 0 := by omega
                        clear h0 hpo
                        go_wp2_with fail; refine (rdigits_any _ _ (Nat.le_refl _) (by omega) (by omega) _).mono ?_; rintro e w3 ⟨rfl, hbx⟩; have hbr3 := hbrW.trans (hbx.mono hbrW.size); clear hbx
                        go_wp2
                        exact ⟨⟨p + 1, Lib.itoa l[p], by omega, by go_num, by first | rfl | exact cat_a [] _, hbr3, HL4, by omega, by simp; omega⟩, by simp [intOf]; omega⟩
                    · obtain ⟨hlt3, HR⟩ := hRT2 hpm
                      clear hRT1 hRT2
                      by_cases h0 : 0 < m
                      · have ho : out.isEmpty = false := by have := hpo.1 h0; cases out with
                          | nil => exact absurd this (by simp)
                          | cons => rfl
                        have HL3 := HLR.out
                        rw [if_neg (by omega), HR.out] at HL3
                        have HL4 := Lib.hid HL3
                        clear HL3
                        go_wp2_with fail; refine (rdigits_any _ _ (Nat.le_refl _) (by omega) (by omega) _).mono ?_; rintro e w3 ⟨rfl, hbx⟩; have hbr3 := hbrW.trans (hbx.mono hbrW.size); clear hbx
                        have cP := (hbr3.cell (p := ⟨b, o + p, none⟩) hb).trans (hcs.out p hpl)
                        go_wp2_with fail; refine (rdigits_any _ _ (Nat.le_refl _) (by omega) (by omega) _).mono ?_; rintro e w4 ⟨rfl, hbx⟩; have hbr4 := hbr3.trans (hbx.mono hbr3.size); clear hbx
                        go_wp2
                        exact ⟨⟨p + 1, _, by omega, by go_num, cat_d _ _ _, hbr4, HL4, by simp; omega, by first | (simp; done) | (simp; omega)⟩, by simp [intOf]; omega⟩
                      · obtain rfl : out = [] := List.eq_nil_of_length_eq_zero (by omega)
                        have HL3 := HLR.out
                        rw [if_pos (by omega), HR.out] at HL3
                        have HL4 := Lib.hid HL3
                        clear HL3
                        have h00 : m ≤ 0 := by omega
                        clear h0 hpo
                        go_wp2_with fail; refine (rdigits_any _ _ (Nat.le_refl _) (by omega) (by omega) _).mono ?_; rintro e w3 ⟨rfl, hbx⟩; have hbr3 := hbrW.trans (hbx.mono hbrW.size); clear hbx
                        have cP := (hbr3.cell (p := ⟨b, o + p, none⟩) hb).trans (hcs.out p hpl)
                        go_wp2_with fail; refine (rdigits_any _ _ (Nat.le_refl _) (by omega) (by omega) _).mono ?_; rintro e w4 ⟨rfl, hbx⟩; have hbr4 := hbr3.trans (hbx.mono hbr3.size); clear hbx
                        go_wp2
                        exact ⟨⟨p + 1, _, by omega, by go_num, cat_c [] _ _, hbr4, by simpa using HL4, by simp; omega, by first | (simp; done) | (simp; omega)⟩, by simp [intOf]; omega⟩
                  · have g1 : decide ((p : Int) + 1 < (l.length : Int)) = false := by simp; omega
                    go_wp2
                    go_quiet (fail)
                    clear w1 w4 w5
                    obtain ⟨W, hW⟩ : ∃ W, W = (wo.drewN n).drewN nq := ⟨_, rfl⟩
                    rw [← hW]
                    have hbrW : Below w.heap.size w W := by rw [hW]; exact below_dn (hbn.out _) _
                    have cW := (hbrW.cell (p := ⟨b, o + m, none⟩) hb).trans (hcs.out m hlt)
                    clear hW hbn d1 g1 HX
                    rcases HQ.out with hpm | hpm
                    · have HR := hRT1 hpm
                      subst hpm
                      clear hRT1 hRT2
                      by_cases h0 : 0 < p
                      · have ho : out.isEmpty = false := by have := hpo.1 h0; cases out with
                          | nil => exact absurd this (by simp)
                          | cons => rfl
                        have HL3 := HLR.out
                        rw [if_neg (by omega), HR.out] at HL3
                        have HL4 := Lib.hid HL3
                        clear HL3
                        go_wp2_with fail; refine (rdigits_any _ _ (Nat.le_refl _) (by omega) (by omega) _).mono ?_; rintro e w3 ⟨rfl, hbx⟩; have hbr3 := hbrW.trans (hbx.mono hbrW.size); clear hbx
                        go_wp2
                        exact ⟨⟨p + 1, _, by omega, by go_num, cat_b _ _, hbr3, HL4, by simp; omega, by first | (simp; done) | (simp; omega)⟩, by simp [intOf]; omega⟩
                      · obtain rfl : out = [] := List.eq_nil_of_length_eq_zero (by omega)
                        have HL3 := HLR.out
                        rw [if_pos (by omega), HR.out] at HL3
                        have HL4 := Lib.hid HL3
                        clear HL3
                        have h00 : p ≤ 0 := by omega
                        clear h0 hpo
                        go_wp2_with fail; refine (rdigits_any _ _ (Nat.le_refl _) (by omega) (by omega) _).mono ?_; rintro e w3 ⟨rfl, hbx⟩; have hbr3 := hbrW.trans (hbx.mono hbrW.size); clear hbx
                        go_wp2
                        exact ⟨⟨p + 1, Lib.itoa l[p], by omega, by go_num, by first | rfl | exact cat_a [] _, hbr3, HL4, by omega, by simp; omega⟩, by simp [intOf]; omega⟩
                    · obtain ⟨hlt3, HR⟩ := hRT2 hpm
                      clear hRT1 hRT2
                      by_cases h0 : 0 < m
                      · have ho : out.isEmpty = false := by have := hpo.1 h0; cases out with
                          | nil => exact absurd this (by simp)
                          | cons => rfl
                        have HL3 := HLR.out
                        rw [if_neg (by omega), HR.out] at HL3
                        have HL4 := Lib.hid HL3
                        clear HL3
                        go_wp2_with fail; refine (rdigits_any _ _ (Nat.le_refl _) (by omega) (by omega) _).mono ?_; rintro e w3 ⟨rfl, hbx⟩; have hbr3 := hbrW.trans (hbx.mono hbrW.size); clear hbx
                        have cP := (hbr3.cell (p := ⟨b, o + p, none⟩) hb).trans (hcs.out p hpl)
                        go_wp2_with fail; refine (rdigits_any _ _ (Nat.le_refl _) (by omega) (by omega) _).mono ?_; rintro e w4 ⟨rfl, hbx⟩; have hbr4 := hbr3.trans (hbx.mono hbr3.size); clear hbx
                        go_wp2
                        exact ⟨⟨p + 1, _, by omega, by go_num, cat_d _ _ _, hbr4, HL4, by simp; omega, by first | (simp; done) | (simp; omega)⟩, by simp [intOf]; omega⟩
                      · obtain rfl : out = [] := List.eq_nil_of_length_eq_zero (by omega)
                        have HL3 := HLR.out
                        rw [if_pos (by omega), HR.out] at HL3
                        have HL4 := Lib.hid HL3
                        clear HL3
                        have h00 : m ≤ 0 := by omega
                        clear h0 hpo
                        go_wp2_with fail; refine (rdigits_any _ _ (Nat.le_refl _) (by omega) (by omega) _).mono ?_; rintro e w3 ⟨rfl, hbx⟩; have hbr3 := hbrW.trans (hbx.mono hbrW.size); clear hbx
                        have cP := (hbr3.cell (p := ⟨b, o + p, none⟩) hb).trans (hcs.out p hpl)
                        go_wp2_with fail; refine (rdigits_any _ _ (Nat.le_refl _) (by omega) (by omega) _).mono ?_; rintro e w4 ⟨rfl, hbx⟩; have hbr4 := hbr3.trans (hbx.mono hbr3.size); clear hbx
                        go_wp2
                        exact ⟨⟨p + 1, _, by omega, by go_num, cat_c [] _ _, hbr4, by simpa using HL4, by simp; omega, by first | (simp; done) | (simp; omega)⟩, by simp [intOf]; omega⟩
            · have HD := LRel.done (l := l) (out := out) (by obtain rfl : m = l.length := by omega
                                                             exact hlr.out)
              have HH := Lib.hid (HL.out.trans (by rw [← HD]))
              clear HD
              go_wp2
              go_ret2
              exact ⟨HH.out.symm, hbr⟩
end Go.Proofs.YtffkohdnhaebjaaGreatDoor
