/-
  Walks for layer 26 (model): slices.ContainsFunc at backends and at limits.
-/
import Derived.Test.YtaicmiadgnpimaaMw44
namespace Go.Proofs.Ytaicmiadgnpimaa
open Go.RowKit

set_option maxHeartbeats 2000000 in
set_option maxRecDepth 100000 in
theorem ixPool (u : SlV) (l : List PoolV) (p : PoolV → Bool) (g : Nat) (lb : Array Value) (J : Nat → World → Prop) (w : World) (h0 : J 0 w) (hr : ∀ k w1, J k w1 → ReadsL 11 encP w1 (valS u) l)
 (hcall : ∀ k (hk : k < l.length) w1, J k w1 → Calls Try.prog g (#[valPV l[k]] ++ lb) w1 fun e w' => e = .returned (.bool (p l[k])) ∧ J (k + 1) w')
 (eg : ∀ args w, (callFunc g args).run Try.prog w = .ok (.enter g args) w) (hl : l.length ≤ 1000000) :
 Calls Try.prog 41 #[valS u, .func (.func g) #[] lb] w fun e w' => (∃ k, k < l.length ∧ l.findIdx p = k ∧ e = .returned (I64 k) ∧ J (k + 1) w') ∨ (l.findIdx p = l.length ∧ e = .returned (I64 (-1)) ∧ J l.length w') := by
 have H0 := Lib.hid h0
 by_cases hne : l = []
 · obtain ⟨a, cap, hv⟩ := (hr 0 w h0).len
   rw [hv]
   subst hne
   clear hv h0 hr hcall
   go_enter Try.func41, Try.ntmps41
   go_wp2
   go_loopw [5, 8] (fun _ jv wr => jv = .int .i64 0 ∧ wr = w) (fun _ _ _ => 0)
   case atStart => exact ⟨rfl, rfl⟩
   case round =>
    obtain ⟨rfl, rfl⟩ := hrel
    go_wp2
    go_ret
    exact .inr ⟨rfl, rfl, H0.out⟩
 · obtain ⟨b, o, cap, hv, hb, hc⟩ := (hr 0 w h0).form hne
   have HC : Hid (∀ k w1, J k w1 → ∀ q (hq : q < l.length), w1.cell? ⟨b, o + q * 11, none⟩ = some (I64 l[q].lim.max) ∧ w1.cell? ⟨b, o + q * 11 + 1, none⟩ = some (I64 l[q].lim.queue) ∧ w1.cell? ⟨b, o + q * 11 + 2, none⟩ = some (I64 l[q].lim.idle) ∧ w1.cell? ⟨b, o + q * 11 + 3, none⟩ = some (I64 l[q].lim.age) ∧ w1.cell? ⟨b, o + q * 11 + 4, none⟩ = some (valS l[q].vI) ∧ w1.cell? ⟨b, o + q * 11 + 5, none⟩ = some (valS l[q].vL) ∧ w1.cell? ⟨b, o + q * 11 + 6, none⟩ = some (valS l[q].vD) ∧ w1.cell? ⟨b, o + q * 11 + 7, none⟩ = some (valS l[q].vW) ∧ w1.cell? ⟨b, o + q * 11 + 8, none⟩ = some (.bool l[q].up) ∧ w1.cell? ⟨b, o + q * 11 + 9, none⟩ = some (I64 l[q].breaker) ∧ w1.cell? ⟨b, o + q * 11 + 10, none⟩ = some (I64 l[q].probe)) := fun k w1 hj q hq => by
    obtain ⟨b', o', cap', hv', hb', hc'⟩ := (hr k w1 hj).form hne
    rw [hv] at hv'
    injection hv' with e1 _ _
    injection e1 with e1
    injection e1 with e1 e2 _
    subst e1 e2
    have e : ∀ i x, (encP l[q])[i]? = some x → w1.cell? ⟨b, o + q * 11 + i, none⟩ = some x := fun i x hx => hc' q hq i x hx
    exact ⟨e 0 _ rfl, e 1 _ rfl, e 2 _ rfl, e 3 _ rfl, e 4 _ rfl, e 5 _ rfl, e 6 _ rfl, e 7 _ rfl, e 8 _ rfl, e 9 _ rfl, e 10 _ rfl⟩
   rw [hv]
   have HCALL := Lib.hid hcall
   obtain ⟨n, hn⟩ : ∃ n, n = l.length := ⟨_, rfl⟩
   have HN := Lib.hid hn
   rw [← hn] at hl ⊢
   clear hv hb hc h0 hr hcall hne hn
   go_enter Try.func41, Try.ntmps41
   go_wp2
   go_loopw [5, 8] (fun _ jv wr => ∃ k : Nat, k ≤ n ∧ jv = .int .i64 k ∧ Hid (J k wr) ∧ Hid (∀ j (hj : j < l.length), j < k → p l[j] = false)) (fun _ jv _ => n - (intOf jv).toNat)
   case atStart => exact ⟨0, Nat.zero_le _, rfl, H0, fun j hj h => absurd h (Nat.not_lt_zero _)⟩
   case round =>
    obtain ⟨k, hkn, rfl, HJ, HI⟩ := hrel
    by_cases hlt : k < n
    · have hq : k < l.length := by rw [← HN.out]; exact hlt
      have hcc := HC.out k wr HJ.out k hq
      have hcall := HCALL.out k hq wr HJ.out
      have HHIT := Lib.hid (fun h => findIdx_hit p l k hq h HI.out)
      have HMISS : Hid (p l[k] = false → ∀ j (hj : j < l.length), j < k + 1 → p l[j] = false) := fun h j hj hjk => by
       rcases Nat.lt_or_ge j k with h1 | h1
       · exact HI.out j hj h1
       · have : j = k := by omega
         subst this
         exact h
      generalize l[k] = y at hcc hcall HHIT HMISS
      cases hpy : p y with
      | true =>
       rw [hpy] at hcall HHIT
       clear hpy HMISS HI
       obtain ⟨⟨y0, y1, y2, y3⟩, ⟨a4, b4, c4⟩, ⟨a5, b5, c5⟩, ⟨a6, b6, c6⟩, ⟨a7, b7, c7⟩, y8, y9, yt⟩ := y
       unfold valPV valS at hcall
       unfold valS at hcc
       dsimp only at hcc hcall
       obtain ⟨p0, p1, p2, p3, p4, p5, p6, p7, p8, p9, p10⟩ := hcc
       go_wp2_with (go_at_fn g; refine hcall.mono ?_; rintro e w' ⟨rfl, hj⟩)
       go_ret
       exact .inl ⟨k, hlt, HHIT.out (by simp), rfl, hj⟩
      | false =>
       rw [hpy] at hcall HMISS
       clear hpy HHIT HI
       obtain ⟨⟨y0, y1, y2, y3⟩, ⟨a4, b4, c4⟩, ⟨a5, b5, c5⟩, ⟨a6, b6, c6⟩, ⟨a7, b7, c7⟩, y8, y9, yt⟩ := y
       unfold valPV valS at hcall
       unfold valS at hcc
       dsimp only at hcc hcall
       obtain ⟨p0, p1, p2, p3, p4, p5, p6, p7, p8, p9, p10⟩ := hcc
       go_wp2_with (go_at_fn g; refine hcall.mono ?_; rintro e w' ⟨rfl, hj⟩)
       case roundEnd =>
        refine ⟨⟨k + 1, hlt, by rw [show (k : Int) + 1 = ((k + 1 : Nat) : Int) by omega], Lib.hid hj, HMISS.out (by simp)⟩, ?_⟩
        simp [intOf]
        omega
    · have hkn2 : k = n := by omega
      subst hkn2
      have HF := Lib.hid (findIdx_miss p l (fun j hj => HI.out j hj (by rw [HN.out]; exact hj)))
      clear HI
      go_wp2
      go_ret
      exact .inr ⟨HF.out.trans HN.out.symm, rfl, HJ.out⟩
theorem ctPool (u : SlV) (l : List PoolV) (p : PoolV → Bool) (g : Nat) (lb : Array Value) (w : World) (hr : ReadsL 11 encP w (valS u) l)
 (hcall : ∀ y w1, Below w.heap.size w w1 → Calls Try.prog g (#[valPV y] ++ lb) w1 fun e w' => e = .returned (.bool (p y)) ∧ Below w.heap.size w w')
 (eg : ∀ args w, (callFunc g args).run Try.prog w = .ok (.enter g args) w) (hl : l.length ≤ 1000000) :
 Calls Try.prog 31 #[valS u, .func (.func g) #[] lb] w fun e w' => e = .returned (.bool (l.any p)) ∧ Below w.heap.size w w' := by
 have HI : Hid (Calls Try.prog 41 #[valS u, .func (.func g) #[] lb] w fun e w' => e = .returned (I64 (ixI p l)) ∧ Below w.heap.size w w') := by
  refine Lib.hid ((ixPool u l p g lb (fun _ w1 => Below w.heap.size w w1) w (Below.refl _ _) (fun k w1 h => hr.below h) (fun k hk w1 h => hcall _ _ h) eg hl).mono ?_)
  rintro e w' (⟨k, h1, h2, h3, h4⟩ | ⟨h2, h3, h4⟩)
  · unfold ixI
    rw [h2, if_pos h1]
    exact ⟨h3, h4⟩
  · unfold ixI
    rw [if_neg (by omega)]
    exact ⟨h3, h4⟩
 have hn := ixI_neg p l
 have e : l.any p = decide (0 ≤ ixI p l) := by
  cases ha : l.any p with
  | false => exact (decide_eq_false (by have := hn.2 ha; omega)).symm
  | true => exact (decide_eq_true (Int.not_lt.1 fun h => by rw [hn.1 h] at ha; cases ha)).symm
 rw [e]
 obtain ⟨ua, un, uc⟩ := u
 unfold valS at HI ⊢
 dsimp only at HI ⊢
 generalize ixI p l = i at HI ⊢
 clear e hn hr hcall
 go_enter Try.func31, Try.ntmps31
 go_wp2_with fail
 refine HI.out.mono ?_
 rintro e w1 ⟨rfl, hb1⟩
 go_wp2
 go_ret
 exact ⟨rfl, hb1⟩
set_option maxHeartbeats 2000000 in
set_option maxRecDepth 100000 in
theorem ixLim (u : SlV) (l : List Md.Lim) (p : Md.Lim → Bool) (g : Nat) (lb : Array Value) (J : Nat → World → Prop) (w : World) (h0 : J 0 w) (hr : ∀ k w1, J k w1 → ReadsL 4 encLim w1 (valS u) l)
 (hcall : ∀ k (hk : k < l.length) w1, J k w1 → Calls Try.prog g (#[valLim l[k]] ++ lb) w1 fun e w' => e = .returned (.bool (p l[k])) ∧ J (k + 1) w')
 (eg : ∀ args w, (callFunc g args).run Try.prog w = .ok (.enter g args) w) (hl : l.length ≤ 1000000) :
 Calls Try.prog 65 #[valS u, .func (.func g) #[] lb] w fun e w' => (∃ k, k < l.length ∧ l.findIdx p = k ∧ e = .returned (I64 k) ∧ J (k + 1) w') ∨ (l.findIdx p = l.length ∧ e = .returned (I64 (-1)) ∧ J l.length w') := by
 have H0 := Lib.hid h0
 by_cases hne : l = []
 · obtain ⟨a, cap, hv⟩ := (hr 0 w h0).len
   rw [hv]
   subst hne
   clear hv h0 hr hcall
   go_enter Try.func65, Try.ntmps65
   go_wp2
   go_loopw [5, 8] (fun _ jv wr => jv = .int .i64 0 ∧ wr = w) (fun _ _ _ => 0)
   case atStart => exact ⟨rfl, rfl⟩
   case round =>
    obtain ⟨rfl, rfl⟩ := hrel
    go_wp2
    go_ret
    exact .inr ⟨rfl, rfl, H0.out⟩
 · obtain ⟨b, o, cap, hv, hb, hc⟩ := (hr 0 w h0).form hne
   have HC : Hid (∀ k w1, J k w1 → ∀ q (hq : q < l.length), w1.cell? ⟨b, o + q * 4, none⟩ = some (I64 l[q].max) ∧ w1.cell? ⟨b, o + q * 4 + 1, none⟩ = some (I64 l[q].queue) ∧ w1.cell? ⟨b, o + q * 4 + 2, none⟩ = some (I64 l[q].idle) ∧ w1.cell? ⟨b, o + q * 4 + 3, none⟩ = some (I64 l[q].age)) := fun k w1 hj q hq => by
    obtain ⟨b', o', cap', hv', hb', hc'⟩ := (hr k w1 hj).form hne
    rw [hv] at hv'
    injection hv' with e1 _ _
    injection e1 with e1
    injection e1 with e1 e2 _
    subst e1 e2
    have e : ∀ i x, (encLim l[q])[i]? = some x → w1.cell? ⟨b, o + q * 4 + i, none⟩ = some x := fun i x hx => hc' q hq i x hx
    exact ⟨e 0 _ rfl, e 1 _ rfl, e 2 _ rfl, e 3 _ rfl⟩
   rw [hv]
   have HCALL := Lib.hid hcall
   obtain ⟨n, hn⟩ : ∃ n, n = l.length := ⟨_, rfl⟩
   have HN := Lib.hid hn
   rw [← hn] at hl ⊢
   clear hv hb hc h0 hr hcall hne hn
   go_enter Try.func65, Try.ntmps65
   go_wp2
   go_loopw [5, 8] (fun _ jv wr => ∃ k : Nat, k ≤ n ∧ jv = .int .i64 k ∧ Hid (J k wr) ∧ Hid (∀ j (hj : j < l.length), j < k → p l[j] = false)) (fun _ jv _ => n - (intOf jv).toNat)
   case atStart => exact ⟨0, Nat.zero_le _, rfl, H0, fun j hj h => absurd h (Nat.not_lt_zero _)⟩
   case round =>
    obtain ⟨k, hkn, rfl, HJ, HI⟩ := hrel
    by_cases hlt : k < n
    · have hq : k < l.length := by rw [← HN.out]; exact hlt
      have hcc := HC.out k wr HJ.out k hq
      have hcall := HCALL.out k hq wr HJ.out
      have HHIT := Lib.hid (fun h => findIdx_hit p l k hq h HI.out)
      have HMISS : Hid (p l[k] = false → ∀ j (hj : j < l.length), j < k + 1 → p l[j] = false) := fun h j hj hjk => by
       rcases Nat.lt_or_ge j k with h1 | h1
       · exact HI.out j hj h1
       · have : j = k := by omega
         subst this
         exact h
      generalize l[k] = y at hcc hcall HHIT HMISS
      cases hpy : p y with
      | true =>
       rw [hpy] at hcall HHIT
       clear hpy HMISS HI
       obtain ⟨y0, y1, y2, y3⟩ := y
       unfold valLim at hcall
       dsimp only at hcc hcall
       obtain ⟨p0, p1, p2, p3⟩ := hcc
       go_wp2_with (go_at_fn g; refine hcall.mono ?_; rintro e w' ⟨rfl, hj⟩)
       go_ret
       exact .inl ⟨k, hlt, HHIT.out (by simp), rfl, hj⟩
      | false =>
       rw [hpy] at hcall HMISS
       clear hpy HHIT HI
       obtain ⟨y0, y1, y2, y3⟩ := y
       unfold valLim at hcall
       dsimp only at hcc hcall
       obtain ⟨p0, p1, p2, p3⟩ := hcc
       go_wp2_with (go_at_fn g; refine hcall.mono ?_; rintro e w' ⟨rfl, hj⟩)
       case roundEnd =>
        refine ⟨⟨k + 1, hlt, by rw [show (k : Int) + 1 = ((k + 1 : Nat) : Int) by omega], Lib.hid hj, HMISS.out (by simp)⟩, ?_⟩
        simp [intOf]
        omega
    · have hkn2 : k = n := by omega
      subst hkn2
      have HF := Lib.hid (findIdx_miss p l (fun j hj => HI.out j hj (by rw [HN.out]; exact hj)))
      clear HI
      go_wp2
      go_ret
      exact .inr ⟨HF.out.trans HN.out.symm, rfl, HJ.out⟩
theorem ctLim (u : SlV) (l : List Md.Lim) (p : Md.Lim → Bool) (g : Nat) (lb : Array Value) (w : World) (hr : ReadsL 4 encLim w (valS u) l)
 (hcall : ∀ y w1, Below w.heap.size w w1 → Calls Try.prog g (#[valLim y] ++ lb) w1 fun e w' => e = .returned (.bool (p y)) ∧ Below w.heap.size w w')
 (eg : ∀ args w, (callFunc g args).run Try.prog w = .ok (.enter g args) w) (hl : l.length ≤ 1000000) :
 Calls Try.prog 39 #[valS u, .func (.func g) #[] lb] w fun e w' => e = .returned (.bool (l.any p)) ∧ Below w.heap.size w w' := by
 have HI : Hid (Calls Try.prog 65 #[valS u, .func (.func g) #[] lb] w fun e w' => e = .returned (I64 (ixI p l)) ∧ Below w.heap.size w w') := by
  refine Lib.hid ((ixLim u l p g lb (fun _ w1 => Below w.heap.size w w1) w (Below.refl _ _) (fun k w1 h => hr.below h) (fun k hk w1 h => hcall _ _ h) eg hl).mono ?_)
  rintro e w' (⟨k, h1, h2, h3, h4⟩ | ⟨h2, h3, h4⟩)
  · unfold ixI
    rw [h2, if_pos h1]
    exact ⟨h3, h4⟩
  · unfold ixI
    rw [if_neg (by omega)]
    exact ⟨h3, h4⟩
 have hn := ixI_neg p l
 have e : l.any p = decide (0 ≤ ixI p l) := by
  cases ha : l.any p with
  | false => exact (decide_eq_false (by have := hn.2 ha; omega)).symm
  | true => exact (decide_eq_true (Int.not_lt.1 fun h => by rw [hn.1 h] at ha; cases ha)).symm
 rw [e]
 obtain ⟨ua, un, uc⟩ := u
 unfold valS at HI ⊢
 dsimp only at HI ⊢
 generalize ixI p l = i at HI ⊢
 clear e hn hr hcall
 go_enter Try.func39, Try.ntmps39
 go_wp2_with fail
 refine HI.out.mono ?_
 rintro e w1 ⟨rfl, hb1⟩
 go_wp2
 go_ret
 exact ⟨rfl, hb1⟩
/-- The test of Check over all backends. -/
theorem badP_any (u : SlV) (pvs : List PoolV) (ps : List Md.Pool) (w : World) (h : PoolsRd w u pvs ps) (hl : ps.length ≤ 1000) :
 Calls Try.prog 31 #[valS u, .func (.func 28) #[] #[]] w fun e w' => e = .returned (.bool (!ps.all Md.rangeOk)) ∧ Below w.heap.size w w' := by
 have e : (!ps.all Md.rangeOk) = pvs.any (fun pv => !Md.rangeOk ⟨pv.lim, [], [], [], [], pv.up, pv.breaker, pv.probe⟩) := by
  have hq : ∀ j (h1 : j < pvs.length) (h2 : j < ps.length), Md.rangeOk ⟨pvs[j].lim, [], [], [], [], pvs[j].up, pvs[j].breaker, pvs[j].probe⟩ = Md.rangeOk ps[j] := fun j h1 h2 => by
   have q := h.2.2 j h1 h2
   unfold Md.rangeOk
   rw [q.lim, q.breaker]
  rw [← List.not_all_eq_any_not]
  congr 1
  rw [Bool.eq_iff_iff, List.all_eq_true, List.all_eq_true]
  constructor
  · intro ha x hx
    obtain ⟨j, hj, rfl⟩ := List.getElem_of_mem hx
    rw [hq j hj (by rw [← h.2.1]; exact hj)]
    exact ha _ (List.getElem_mem _)
  · intro ha x hx
    obtain ⟨j, hj, rfl⟩ := List.getElem_of_mem hx
    rw [← hq j (by rw [h.2.1]; exact hj) hj]
    exact ha _ (List.getElem_mem _)
 rw [e]
 refine ctPool u pvs _ _ _ w h.1 (fun y w1 hb1 => ?_) (fun args w => by kernel_rfl) (by have := h.2.1; omega)
 refine (bad_any ⟨y.lim, [], [], [], [], y.up, y.breaker, y.probe⟩ (valS y.vI) (valS y.vL) (valS y.vD) (valS y.vW) w1).mono ?_
 rintro e w' ⟨rfl, hb⟩
 exact ⟨rfl, hb1.trans (hb.mono hb1.size)⟩
/-- The test of New over all limits. -/
theorem wrongL_any (u : SlV) (l : List Md.Lim) (w : World) (h : ReadsL 4 encLim w (valS u) l) (hl : l.length ≤ 1000000) :
 Calls Try.prog 39 #[valS u, .func (.func 29) #[] #[]] w fun e w' => e = .returned (.bool (!l.all Md.limOk)) ∧ Below w.heap.size w w' := by
 rw [List.not_all_eq_any_not]
 refine ctLim u l _ _ _ w h (fun y w1 hb1 => ?_) (fun args w => by kernel_rfl) hl
 refine (wrong_any y w1).mono ?_
 rintro e w' ⟨rfl, hb⟩
 exact ⟨rfl, hb1.trans (hb.mono hb1.size)⟩
end Go.Proofs.Ytaicmiadgnpimaa
