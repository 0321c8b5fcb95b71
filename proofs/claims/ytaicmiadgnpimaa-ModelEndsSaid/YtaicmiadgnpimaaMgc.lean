/-
  Walks for layer 26 (model): slices.IndexFunc, slices.ContainsFunc.
-/
import Derived.Test.YtaicmiadgnpimaaMgb
import Derived.Deep.QuietTactic
namespace Go.Proofs.Ytaicmiadgnpimaa
open Go.RowKit

theorem findIdx_hit {α : Type} (p : α → Bool) (l : List α) (k : Nat) (hk : k < l.length) (h : p l[k] = true) (hb : ∀ j (hj : j < l.length), j < k → p l[j] = false) : l.findIdx p = k := by
 rw [List.findIdx_eq hk]
 exact ⟨h, fun j hj => hb j (by omega) hj⟩
theorem findIdx_miss {α : Type} (p : α → Bool) (l : List α) (hb : ∀ j (hj : j < l.length), p l[j] = false) : l.findIdx p = l.length := by
 rw [List.findIdx_eq_length]
 intro x hx
 obtain ⟨j, hj, rfl⟩ := List.mem_iff_getElem.1 hx
 exact hb j hj
set_option maxHeartbeats 2000000 in
set_option maxRecDepth 100000 in
theorem ixLease (u : SlV) (l : List Md.Lease) (p : Md.Lease → Bool) (g : Nat) (lb : Array Value) (J : Nat → World → Prop) (w : World) (h0 : J 0 w) (hr : ∀ k w1, J k w1 → ReadsL 3 encLease w1 (valS u) l)
 (hcall : ∀ k (hk : k < l.length) w1, J k w1 → Calls Try.prog g (#[valLease l[k]] ++ lb) w1 fun e w' => e = .returned (.bool (p l[k])) ∧ J (k + 1) w')
 (eg : ∀ args w, (callFunc g args).run Try.prog w = .ok (.enter g args) w) (hl : l.length ≤ 1000000) :
 Calls Try.prog 81 #[valS u, .func (.func g) #[] lb] w fun e w' => (∃ k, k < l.length ∧ l.findIdx p = k ∧ e = .returned (I64 k) ∧ J (k + 1) w') ∨ (l.findIdx p = l.length ∧ e = .returned (I64 (-1)) ∧ J l.length w') := by
 have H0 := Lib.hid h0
 by_cases hne : l = []
 · obtain ⟨a, cap, hv⟩ := (hr 0 w h0).len
   rw [hv]
   subst hne
   clear hv h0 hr hcall
   go_enter Try.func81, Try.ntmps81
   go_wp2
   go_loopw [5, 8] (fun _ jv wr => jv = .int .i64 0 ∧ wr = w) (fun _ _ _ => 0)
   case atStart => exact ⟨rfl, rfl⟩
   case round =>
    obtain ⟨rfl, rfl⟩ := hrel
    go_wp2
    go_ret
    exact .inr ⟨rfl, rfl, H0.out⟩
 · obtain ⟨b, o, cap, hv, hb, hc⟩ := (hr 0 w h0).form hne
   have HC : Hid (∀ k w1, J k w1 → ∀ q (hq : q < l.length), w1.cell? ⟨b, o + q * 3, none⟩ = some (I64 l[q].1) ∧ w1.cell? ⟨b, o + q * 3 + 1, none⟩ = some (I64 l[q].2.1) ∧ w1.cell? ⟨b, o + q * 3 + 2, none⟩ = some (I64 l[q].2.2)) := fun k w1 hj q hq => by
    obtain ⟨b', o', cap', hv', hb', hc'⟩ := (hr k w1 hj).form hne
    rw [hv] at hv'
    injection hv' with e1 _ _
    injection e1 with e1
    injection e1 with e1 e2 _
    subst e1 e2
    have e : ∀ i x, (encLease l[q])[i]? = some x → w1.cell? ⟨b, o + q * 3 + i, none⟩ = some x := fun i x hx => hc' q hq i x hx
    exact ⟨e 0 _ rfl, e 1 _ rfl, e 2 _ rfl⟩
   rw [hv]
   have HCALL := Lib.hid hcall
   obtain ⟨n, hn⟩ : ∃ n, n = l.length := ⟨_, rfl⟩
   have HN := Lib.hid hn
   rw [← hn] at hl ⊢
   clear hv hb hc h0 hr hcall hne hn
   go_enter Try.func81, Try.ntmps81
   go_wp2
   go_loopw [5, 8] (fun _ jv wr => ∃ k : Nat, k ≤ n ∧ jv = .int .i64 k ∧ Hid (J k wr) ∧ Hid (∀ j (hj : j < l.length), j < k → p l[j] = false)) (fun _ jv _ => n - (intOf jv).toNat)
   case atStart => exact ⟨0, Nat.zero_le _, rfl, H0, fun j hj h => absurd h (Nat.not_lt_zero _)⟩
   case round =>
    obtain ⟨k, hkn, rfl, HJ, HI⟩ := hrel
    by_cases hlt : k < n
    · have hq : k < l.length := by rw [← HN.out]; exact hlt
      have hcc := HC.out k wr HJ.out k hq
      have hcall := HCALL.out k hq wr HJ.out
      have HHIT := Lib.hid (fun h => findIdx_hit p l k hq h HI.out)
      have HMISS : Hid (p l[k] = false → ∀ j (hj : j < l.length), j < k + 1 → p l[j] = false) := fun h j hj hjk => by
       rcases Nat.lt_or_ge j k with h1 | h1
       · exact HI.out j hj h1
       · have : j = k := by omega
         subst this
         exact h
      generalize l[k] = y at hcc hcall HHIT HMISS
      cases hpy : p y with
      | true =>
       rw [hpy] at hcall HHIT
       clear hpy HMISS HI
       obtain ⟨y0, y1, y2⟩ := y
       unfold valLease at hcall
       dsimp only at hcc hcall
       obtain ⟨p0, p1, p2⟩ := hcc
       go_wp2_with (go_at_fn g; refine hcall.mono ?_; rintro e w' ⟨rfl, hj⟩)
       go_ret
       exact .inl ⟨k, hlt, HHIT.out (by simp), rfl, hj⟩
      | false =>
       rw [hpy] at hcall HMISS
       clear hpy HHIT HI
       obtain ⟨y0, y1, y2⟩ := y
       unfold valLease at hcall
       dsimp only at hcc hcall
       obtain ⟨p0, p1, p2⟩ := hcc
       go_wp2_with (go_at_fn g; refine hcall.mono ?_; rintro e w' ⟨rfl, hj⟩)
       case roundEnd =>
        refine ⟨⟨k + 1, hlt, by rw [show (k : Int) + 1 = ((k + 1 : Nat) : Int) by omega], Lib.hid hj, HMISS.out (by simp)⟩, ?_⟩
        simp [intOf]
        omega
    · have hkn2 : k = n := by omega
      subst hkn2
      have HF := Lib.hid (findIdx_miss p l (fun j hj => HI.out j hj (by rw [HN.out]; exact hj)))
      clear HI
      go_wp2
      go_ret
      exact .inr ⟨HF.out.trans HN.out.symm, rfl, HJ.out⟩
set_option maxHeartbeats 2000000 in
set_option maxRecDepth 100000 in
theorem ixDial (u : SlV) (l : List Md.Dial) (p : Md.Dial → Bool) (g : Nat) (lb : Array Value) (J : Nat → World → Prop) (w : World) (h0 : J 0 w) (hr : ∀ k w1, J k w1 → ReadsL 2 encDial w1 (valS u) l)
 (hcall : ∀ k (hk : k < l.length) w1, J k w1 → Calls Try.prog g (#[valDial l[k]] ++ lb) w1 fun e w' => e = .returned (.bool (p l[k])) ∧ J (k + 1) w')
 (eg : ∀ args w, (callFunc g args).run Try.prog w = .ok (.enter g args) w) (hl : l.length ≤ 1000000) :
 Calls Try.prog 83 #[valS u, .func (.func g) #[] lb] w fun e w' => (∃ k, k < l.length ∧ l.findIdx p = k ∧ e = .returned (I64 k) ∧ J (k + 1) w') ∨ (l.findIdx p = l.length ∧ e = .returned (I64 (-1)) ∧ J l.length w') := by
 have H0 := Lib.hid h0
 by_cases hne : l = []
 · obtain ⟨a, cap, hv⟩ := (hr 0 w h0).len
   rw [hv]
   subst hne
   clear hv h0 hr hcall
   go_enter Try.func83, Try.ntmps83
   go_wp2
   go_loopw [5, 8] (fun _ jv wr => jv = .int .i64 0 ∧ wr = w) (fun _ _ _ => 0)
   case atStart => exact ⟨rfl, rfl⟩
   case round =>
    obtain ⟨rfl, rfl⟩ := hrel
    go_wp2
    go_ret
    exact .inr ⟨rfl, rfl, H0.out⟩
 · obtain ⟨b, o, cap, hv, hb, hc⟩ := (hr 0 w h0).form hne
   have HC : Hid (∀ k w1, J k w1 → ∀ q (hq : q < l.length), w1.cell? ⟨b, o + q * 2, none⟩ = some (I64 l[q].1) ∧ w1.cell? ⟨b, o + q * 2 + 1, none⟩ = some (.bool l[q].2)) := fun k w1 hj q hq => by
    obtain ⟨b', o', cap', hv', hb', hc'⟩ := (hr k w1 hj).form hne
    rw [hv] at hv'
    injection hv' with e1 _ _
    injection e1 with e1
    injection e1 with e1 e2 _
    subst e1 e2
    have e : ∀ i x, (encDial l[q])[i]? = some x → w1.cell? ⟨b, o + q * 2 + i, none⟩ = some x := fun i x hx => hc' q hq i x hx
    exact ⟨e 0 _ rfl, e 1 _ rfl⟩
   rw [hv]
   have HCALL := Lib.hid hcall
   obtain ⟨n, hn⟩ : ∃ n, n = l.length := ⟨_, rfl⟩
   have HN := Lib.hid hn
   rw [← hn] at hl ⊢
   clear hv hb hc h0 hr hcall hne hn
   go_enter Try.func83, Try.ntmps83
   go_wp2
   go_loopw [5, 8] (fun _ jv wr => ∃ k : Nat, k ≤ n ∧ jv = .int .i64 k ∧ Hid (J k wr) ∧ Hid (∀ j (hj : j < l.length), j < k → p l[j] = false)) (fun _ jv _ => n - (intOf jv).toNat)
   case atStart => exact ⟨0, Nat.zero_le _, rfl, H0, fun j hj h => absurd h (Nat.not_lt_zero _)⟩
   case round =>
    obtain ⟨k, hkn, rfl, HJ, HI⟩ := hrel
    by_cases hlt : k < n
    · have hq : k < l.length := by rw [← HN.out]; exact hlt
      have hcc := HC.out k wr HJ.out k hq
      have hcall := HCALL.out k hq wr HJ.out
      have HHIT := Lib.hid (fun h => findIdx_hit p l k hq h HI.out)
      have HMISS : Hid (p l[k] = false → ∀ j (hj : j < l.length), j < k + 1 → p l[j] = false) := fun h j hj hjk => by
       rcases Nat.lt_or_ge j k with h1 | h1
       · exact HI.out j hj h1
       · have : j = k := by omega
         subst this
         exact h
      generalize l[k] = y at hcc hcall HHIT HMISS
      cases hpy : p y with
      | true =>
       rw [hpy] at hcall HHIT
       clear hpy HMISS HI
       obtain ⟨y0, y1⟩ := y
       unfold valDial at hcall
       dsimp only at hcc hcall
       obtain ⟨p0, p1⟩ := hcc
       go_wp2_with (go_at_fn g; refine hcall.mono ?_; rintro e w' ⟨rfl, hj⟩)
       go_ret
       exact .inl ⟨k, hlt, HHIT.out (by simp), rfl, hj⟩
      | false =>
       rw [hpy] at hcall HMISS
       clear hpy HHIT HI
       obtain ⟨y0, y1⟩ := y
       unfold valDial at hcall
       dsimp only at hcc hcall
       obtain ⟨p0, p1⟩ := hcc
       go_wp2_with (go_at_fn g; refine hcall.mono ?_; rintro e w' ⟨rfl, hj⟩)
       case roundEnd =>
        refine ⟨⟨k + 1, hlt, by rw [show (k : Int) + 1 = ((k + 1 : Nat) : Int) by omega], Lib.hid hj, HMISS.out (by simp)⟩, ?_⟩
        simp [intOf]
        omega
    · have hkn2 : k = n := by omega
      subst hkn2
      have HF := Lib.hid (findIdx_miss p l (fun j hj => HI.out j hj (by rw [HN.out]; exact hj)))
      clear HI
      go_wp2
      go_ret
      exact .inr ⟨HF.out.trans HN.out.symm, rfl, HJ.out⟩
def valWaiter (y : Md.Waiter) : Value := .agg #[I64 y.1, I64 y.2]
set_option maxHeartbeats 2000000 in
set_option maxRecDepth 100000 in
theorem ixWaiter (u : SlV) (l : List Md.Waiter) (p : Md.Waiter → Bool) (g : Nat) (lb : Array Value) (J : Nat → World → Prop) (w : World) (h0 : J 0 w) (hr : ∀ k w1, J k w1 → ReadsL 2 encWaiter w1 (valS u) l)
 (hcall : ∀ k (hk : k < l.length) w1, J k w1 → Calls Try.prog g (#[valWaiter l[k]] ++ lb) w1 fun e w' => e = .returned (.bool (p l[k])) ∧ J (k + 1) w')
 (eg : ∀ args w, (callFunc g args).run Try.prog w = .ok (.enter g args) w) (hl : l.length ≤ 1000000) :
 Calls Try.prog 85 #[valS u, .func (.func g) #[] lb] w fun e w' => (∃ k, k < l.length ∧ l.findIdx p = k ∧ e = .returned (I64 k) ∧ J (k + 1) w') ∨ (l.findIdx p = l.length ∧ e = .returned (I64 (-1)) ∧ J l.length w') := by
 have H0 := Lib.hid h0
 by_cases hne : l = []
 · obtain ⟨a, cap, hv⟩ := (hr 0 w h0).len
   rw [hv]
   subst hne
   clear hv h0 hr hcall
   go_enter Try.func85, Try.ntmps85
   go_wp2
   go_loopw [5, 8] (fun _ jv wr => jv = .int .i64 0 ∧ wr = w) (fun _ _ _ => 0)
   case atStart => exact ⟨rfl, rfl⟩
   case round =>
    obtain ⟨rfl, rfl⟩ := hrel
    go_wp2
    go_ret
    exact .inr ⟨rfl, rfl, H0.out⟩
 · obtain ⟨b, o, cap, hv, hb, hc⟩ := (hr 0 w h0).form hne
   have HC : Hid (∀ k w1, J k w1 → ∀ q (hq : q < l.length), w1.cell? ⟨b, o + q * 2, none⟩ = some (I64 l[q].1) ∧ w1.cell? ⟨b, o + q * 2 + 1, none⟩ = some (I64 l[q].2)) := fun k w1 hj q hq => by
    obtain ⟨b', o', cap', hv', hb', hc'⟩ := (hr k w1 hj).form hne
    rw [hv] at hv'
    injection hv' with e1 _ _
    injection e1 with e1
    injection e1 with e1 e2 _
    subst e1 e2
    have e : ∀ i x, (encWaiter l[q])[i]? = some x → w1.cell? ⟨b, o + q * 2 + i, none⟩ = some x := fun i x hx => hc' q hq i x hx
    exact ⟨e 0 _ rfl, e 1 _ rfl⟩
   rw [hv]
   have HCALL := Lib.hid hcall
   obtain ⟨n, hn⟩ : ∃ n, n = l.length := ⟨_, rfl⟩
   have HN := Lib.hid hn
   rw [← hn] at hl ⊢
   clear hv hb hc h0 hr hcall hne hn
   go_enter Try.func85, Try.ntmps85
   go_wp2
   go_loopw [5, 8] (fun _ jv wr => ∃ k : Nat, k ≤ n ∧ jv = .int .i64 k ∧ Hid (J k wr) ∧ Hid (∀ j (hj : j < l.length), j < k → p l[j] = false)) (fun _ jv _ => n - (intOf jv).toNat)
   case atStart => exact ⟨0, Nat.zero_le _, rfl, H0, fun j hj h => absurd h (Nat.not_lt_zero _)⟩
   case round =>
    obtain ⟨k, hkn, rfl, HJ, HI⟩ := hrel
    by_cases hlt : k < n
    · have hq : k < l.length := by rw [← HN.out]; exact hlt
      have hcc := HC.out k wr HJ.out k hq
      have hcall := HCALL.out k hq wr HJ.out
      have HHIT := Lib.hid (fun h => findIdx_hit p l k hq h HI.out)
      have HMISS : Hid (p l[k] = false → ∀ j (hj : j < l.length), j < k + 1 → p l[j] = false) := fun h j hj hjk => by
       rcases Nat.lt_or_ge j k with h1 | h1
       · exact HI.out j hj h1
       · have : j = k := by omega
         subst this
         exact h
      generalize l[k] = y at hcc hcall HHIT HMISS
      cases hpy : p y with
      | true =>
       rw [hpy] at hcall HHIT
       clear hpy HMISS HI
       obtain ⟨y0, y1⟩ := y
       unfold valWaiter at hcall
       dsimp only at hcc hcall
       obtain ⟨p0, p1⟩ := hcc
       go_wp2_with (go_at_fn g; refine hcall.mono ?_; rintro e w' ⟨rfl, hj⟩)
       go_ret
       exact .inl ⟨k, hlt, HHIT.out (by simp), rfl, hj⟩
      | false =>
       rw [hpy] at hcall HMISS
       clear hpy HHIT HI
       obtain ⟨y0, y1⟩ := y
       unfold valWaiter at hcall
       dsimp only at hcc hcall
       obtain ⟨p0, p1⟩ := hcc
       go_wp2_with (go_at_fn g; refine hcall.mono ?_; rintro e w' ⟨rfl, hj⟩)
       case roundEnd =>
        refine ⟨⟨k + 1, hlt, by rw [show (k : Int) + 1 = ((k + 1 : Nat) : Int) by omega], Lib.hid hj, HMISS.out (by simp)⟩, ?_⟩
        simp [intOf]
        omega
    · have hkn2 : k = n := by omega
      subst hkn2
      have HF := Lib.hid (findIdx_miss p l (fun j hj => HI.out j hj (by rw [HN.out]; exact hj)))
      clear HI
      go_wp2
      go_ret
      exact .inr ⟨HF.out.trans HN.out.symm, rfl, HJ.out⟩
set_option maxHeartbeats 2000000 in
set_option maxRecDepth 100000 in
theorem ixConn (u : SlV) (l : List Md.Conn) (p : Md.Conn → Bool) (g : Nat) (lb : Array Value) (J : Nat → World → Prop) (w : World) (h0 : J 0 w) (hr : ∀ k w1, J k w1 → ReadsL 3 encConn w1 (valS u) l)
 (hcall : ∀ k (hk : k < l.length) w1, J k w1 → Calls Try.prog g (#[valConn l[k]] ++ lb) w1 fun e w' => e = .returned (.bool (p l[k])) ∧ J (k + 1) w')
 (eg : ∀ args w, (callFunc g args).run Try.prog w = .ok (.enter g args) w) (hl : l.length ≤ 1000000) :
 Calls Try.prog 93 #[valS u, .func (.func g) #[] lb] w fun e w' => (∃ k, k < l.length ∧ l.findIdx p = k ∧ e = .returned (I64 k) ∧ J (k + 1) w') ∨ (l.findIdx p = l.length ∧ e = .returned (I64 (-1)) ∧ J l.length w') := by
 have H0 := Lib.hid h0
 by_cases hne : l = []
 · obtain ⟨a, cap, hv⟩ := (hr 0 w h0).len
   rw [hv]
   subst hne
   clear hv h0 hr hcall
   go_enter Try.func93, Try.ntmps93
   go_wp2
   go_loopw [5, 8] (fun _ jv wr => jv = .int .i64 0 ∧ wr = w) (fun _ _ _ => 0)
   case atStart => exact ⟨rfl, rfl⟩
   case round =>
    obtain ⟨rfl, rfl⟩ := hrel
    go_wp2
    go_ret
    exact .inr ⟨rfl, rfl, H0.out⟩
 · obtain ⟨b, o, cap, hv, hb, hc⟩ := (hr 0 w h0).form hne
   have HC : Hid (∀ k w1, J k w1 → ∀ q (hq : q < l.length), w1.cell? ⟨b, o + q * 3, none⟩ = some (I64 l[q].1) ∧ w1.cell? ⟨b, o + q * 3 + 1, none⟩ = some (I64 l[q].2.1) ∧ w1.cell? ⟨b, o + q * 3 + 2, none⟩ = some (I64 l[q].2.2)) := fun k w1 hj q hq => by
    obtain ⟨b', o', cap', hv', hb', hc'⟩ := (hr k w1 hj).form hne
    rw [hv] at hv'
    injection hv' with e1 _ _
    injection e1 with e1
    injection e1 with e1 e2 _
    subst e1 e2
    have e : ∀ i x, (encConn l[q])[i]? = some x → w1.cell? ⟨b, o + q * 3 + i, none⟩ = some x := fun i x hx => hc' q hq i x hx
    exact ⟨e 0 _ rfl, e 1 _ rfl, e 2 _ rfl⟩
   rw [hv]
   have HCALL := Lib.hid hcall
   obtain ⟨n, hn⟩ : ∃ n, n = l.length := ⟨_, rfl⟩
   have HN := Lib.hid hn
   rw [← hn] at hl ⊢
   clear hv hb hc h0 hr hcall hne hn
   go_enter Try.func93, Try.ntmps93
   go_wp2
   go_loopw [5, 8] (fun _ jv wr => ∃ k : Nat, k ≤ n ∧ jv = .int .i64 k ∧ Hid (J k wr) ∧ Hid (∀ j (hj : j < l.length), j < k → p l[j] = false)) (fun _ jv _ => n - (intOf jv).toNat)
   case atStart => exact ⟨0, Nat.zero_le _, rfl, H0, fun j hj h => absurd h (Nat.not_lt_zero _)⟩
   case round =>
    obtain ⟨k, hkn, rfl, HJ, HI⟩ := hrel
    by_cases hlt : k < n
    · have hq : k < l.length := by rw [← HN.out]; exact hlt
      have hcc := HC.out k wr HJ.out k hq
      have hcall := HCALL.out k hq wr HJ.out
      have HHIT := Lib.hid (fun h => findIdx_hit p l k hq h HI.out)
      have HMISS : Hid (p l[k] = false → ∀ j (hj : j < l.length), j < k + 1 → p l[j] = false) := fun h j hj hjk => by
       rcases Nat.lt_or_ge j k with h1 | h1
       · exact HI.out j hj h1
       · have : j = k := by omega
         subst this
         exact h
      generalize l[k] = y at hcc hcall HHIT HMISS
      cases hpy : p y with
      | true =>
       rw [hpy] at hcall HHIT
       clear hpy HMISS HI
       obtain ⟨y0, y1, y2⟩ := y
       unfold valConn at hcall
       dsimp only at hcc hcall
       obtain ⟨p0, p1, p2⟩ := hcc
       go_wp2_with (go_at_fn g; refine hcall.mono ?_; rintro e w' ⟨rfl, hj⟩)
       go_ret
       exact .inl ⟨k, hlt, HHIT.out (by simp), rfl, hj⟩
      | false =>
       rw [hpy] at hcall HMISS
       clear hpy HHIT HI
       obtain ⟨y0, y1, y2⟩ := y
       unfold valConn at hcall
       dsimp only at hcc hcall
       obtain ⟨p0, p1, p2⟩ := hcc
       go_wp2_with (go_at_fn g; refine hcall.mono ?_; rintro e w' ⟨rfl, hj⟩)
       case roundEnd =>
        refine ⟨⟨k + 1, hlt, by rw [show (k : Int) + 1 = ((k + 1 : Nat) : Int) by omega], Lib.hid hj, HMISS.out (by simp)⟩, ?_⟩
        simp [intOf]
        omega
    · have hkn2 : k = n := by omega
      subst hkn2
      have HF := Lib.hid (findIdx_miss p l (fun j hj => HI.out j hj (by rw [HN.out]; exact hj)))
      clear HI
      go_wp2
      go_ret
      exact .inr ⟨HF.out.trans HN.out.symm, rfl, HJ.out⟩
end Go.Proofs.Ytaicmiadgnpimaa
namespace Go.Proofs.Ytaicmiadgnpimaa
open Go.RowKit

/-- A region that draws its order, over a class of worlds. -/
theorem wp_region_quietC {P : Program} {C : World → Prop} {id : Nat} {Q : Exit → Act → World → Prop} {a : Act} {w : World} {l : List Oper} (hm : P.follows .mixedOrders = true) (hB : Region.lexB .any l.toArray = true) (hC : C w.drew)
 (h : wpQuiet P l.toArray C (fun a' => ∀ w', C w' → Q .normal a' w') l a) : (Code.region id l.toArray true).wp P Q a w :=
 wp_region_quiet (C := C) hm hB hC (by simpa using h)
theorem qwant {P : Program} {o : Oper} {a : Act} {C : World → Prop} {K : Act → Prop} {ys : Nat → Option Bool} {E : Prop} (hw : Region.wanted o ys = true) (h : o.quiet P a C K) : if Region.wanted o ys then o.quiet P a C K else E := by
 rw [if_pos hw]
 exact h
theorem cell_lt {w : World} {b o : Nat} {v : Value} (h : w.cell? ⟨b, o, none⟩ = some v) : b < w.heap.size := by
 rcases Nat.lt_or_ge b w.heap.size with h1 | h1
 · exact h1
 · simp [World.cell?, Array.getElem?_eq_none h1] at h
/-- Where a call stands in a list; -1: nowhere. -/
def ixI {α : Type} (p : α → Bool) (l : List α) : Int := if l.findIdx p < l.length then ((l.findIdx p : Nat) : Int) else -1
theorem ixI_neg {α : Type} (p : α → Bool) (l : List α) : ixI p l < 0 ↔ l.any p = false := by
 unfold ixI
 constructor
 · intro h
   split at h
   · omega
   · rename_i h2
     have h3 := Nat.le_antisymm List.findIdx_le_length (Nat.not_lt.1 h2)
     rw [List.any_eq_false]
     intro x hx
     rw [List.findIdx_eq_length] at h3
     simpa using h3 x hx
 · intro h
   rw [if_neg]
   · omega
   · intro h2
     have h3 := List.findIdx_getElem (w := h2)
     rw [List.any_eq_false] at h
     exact h _ (List.getElem_mem h2) h3
set_option maxRecDepth 100000 in
theorem find1 (y : Md.Lease) (X : Nat) (cl : Int) (w : World) (hx : w.cell? ⟨X, 0, none⟩ = some (I64 cl)) : Calls Try.prog 82 (#[valLease y] ++ #[.pointer (some ⟨X, 0, none⟩)]) w fun e w' => e = .returned (.bool (y.1 == cl)) ∧ Below w.heap.size w w' := by
 have HB := Lib.hid ((Below.refl w.heap.size w).alloc (Nat.le_refl _) (.cells #[I64 y.1, I64 y.2.1, I64 y.2.2] 69))
 have hx1 := (HB.out.cell (p := ⟨X, 0, none⟩) (cell_lt hx)).trans hx
 clear hx
 unfold valLease
 simp only [List.append_toArray, List.cons_append, List.nil_append]
 go_enter Try.func82, Try.ntmps82
 go_wp2
 go_ret
 exact ⟨rfl, HB.out⟩
set_option maxRecDepth 100000 in
theorem ixFindLease (u : SlV) (l : List Md.Lease) (X : Nat) (cl : Int) (w : World) (hr : ReadsL 3 encLease w (valS u) l) (hlt : X < w.heap.size) (hx : w.cell? ⟨X, 0, none⟩ = some (I64 cl)) (hl : l.length ≤ 1000000) :
 Calls Try.prog 81 #[valS u, .func (.func 82) #[] #[.pointer (some ⟨X, 0, none⟩)]] w fun e w' => e = .returned (I64 (ixI (fun y => y.1 == cl) l)) ∧ Below w.heap.size w w' := by
 refine (ixLease u l (fun y => y.1 == cl) _ _ (fun _ w1 => Below w.heap.size w w1) w (Below.refl _ _) (fun k w1 h => hr.below h) (fun k hk w1 h => (find1 l[k] X cl w1 ((h.cell (p := ⟨X, 0, none⟩) hlt).trans hx)).mono fun e w' q => ⟨q.1, h.trans (q.2.mono h.size)⟩) (fun args w => by kernel_rfl) hl).mono ?_
 rintro e w' (⟨k, h1, h2, h3, h4⟩ | ⟨h2, h3, h4⟩)
 · unfold ixI
   rw [h2, if_pos h1]
   exact ⟨h3, h4⟩
 · unfold ixI
   rw [if_neg (by omega)]
   exact ⟨h3, h4⟩
set_option maxRecDepth 100000 in
theorem find2 (y : Md.Dial) (X : Nat) (cl : Int) (w : World) (hx : w.cell? ⟨X, 0, none⟩ = some (I64 cl)) : Calls Try.prog 84 (#[valDial y] ++ #[.pointer (some ⟨X, 0, none⟩)]) w fun e w' => e = .returned (.bool (y.1 == cl)) ∧ Below w.heap.size w w' := by
 have HB := Lib.hid ((Below.refl w.heap.size w).alloc (Nat.le_refl _) (.cells #[I64 y.1, .bool y.2] 66))
 have hx1 := (HB.out.cell (p := ⟨X, 0, none⟩) (cell_lt hx)).trans hx
 clear hx
 unfold valDial
 simp only [List.append_toArray, List.cons_append, List.nil_append]
 go_enter Try.func84, Try.ntmps84
 go_wp2
 go_ret
 exact ⟨rfl, HB.out⟩
set_option maxRecDepth 100000 in
theorem ixFindDial (u : SlV) (l : List Md.Dial) (X : Nat) (cl : Int) (w : World) (hr : ReadsL 2 encDial w (valS u) l) (hlt : X < w.heap.size) (hx : w.cell? ⟨X, 0, none⟩ = some (I64 cl)) (hl : l.length ≤ 1000000) :
 Calls Try.prog 83 #[valS u, .func (.func 84) #[] #[.pointer (some ⟨X, 0, none⟩)]] w fun e w' => e = .returned (I64 (ixI (fun y => y.1 == cl) l)) ∧ Below w.heap.size w w' := by
 refine (ixDial u l (fun y => y.1 == cl) _ _ (fun _ w1 => Below w.heap.size w w1) w (Below.refl _ _) (fun k w1 h => hr.below h) (fun k hk w1 h => (find2 l[k] X cl w1 ((h.cell (p := ⟨X, 0, none⟩) hlt).trans hx)).mono fun e w' q => ⟨q.1, h.trans (q.2.mono h.size)⟩) (fun args w => by kernel_rfl) hl).mono ?_
 rintro e w' (⟨k, h1, h2, h3, h4⟩ | ⟨h2, h3, h4⟩)
 · unfold ixI
   rw [h2, if_pos h1]
   exact ⟨h3, h4⟩
 · unfold ixI
   rw [if_neg (by omega)]
   exact ⟨h3, h4⟩
set_option maxRecDepth 100000 in
theorem find3 (y : Md.Waiter) (X : Nat) (cl : Int) (w : World) (hx : w.cell? ⟨X, 0, none⟩ = some (I64 cl)) : Calls Try.prog 86 (#[valWaiter y] ++ #[.pointer (some ⟨X, 0, none⟩)]) w fun e w' => e = .returned (.bool (y.1 == cl)) ∧ Below w.heap.size w w' := by
 have HB := Lib.hid ((Below.refl w.heap.size w).alloc (Nat.le_refl _) (.cells #[I64 y.1, I64 y.2] 58))
 have hx1 := (HB.out.cell (p := ⟨X, 0, none⟩) (cell_lt hx)).trans hx
 clear hx
 unfold valWaiter
 simp only [List.append_toArray, List.cons_append, List.nil_append]
 go_enter Try.func86, Try.ntmps86
 go_wp2
 go_ret
 exact ⟨rfl, HB.out⟩
set_option maxRecDepth 100000 in
theorem ixFindWaiter (u : SlV) (l : List Md.Waiter) (X : Nat) (cl : Int) (w : World) (hr : ReadsL 2 encWaiter w (valS u) l) (hlt : X < w.heap.size) (hx : w.cell? ⟨X, 0, none⟩ = some (I64 cl)) (hl : l.length ≤ 1000000) :
 Calls Try.prog 85 #[valS u, .func (.func 86) #[] #[.pointer (some ⟨X, 0, none⟩)]] w fun e w' => e = .returned (I64 (ixI (fun y => y.1 == cl) l)) ∧ Below w.heap.size w w' := by
 refine (ixWaiter u l (fun y => y.1 == cl) _ _ (fun _ w1 => Below w.heap.size w w1) w (Below.refl _ _) (fun k w1 h => hr.below h) (fun k hk w1 h => (find3 l[k] X cl w1 ((h.cell (p := ⟨X, 0, none⟩) hlt).trans hx)).mono fun e w' q => ⟨q.1, h.trans (q.2.mono h.size)⟩) (fun args w => by kernel_rfl) hl).mono ?_
 rintro e w' (⟨k, h1, h2, h3, h4⟩ | ⟨h2, h3, h4⟩)
 · unfold ixI
   rw [h2, if_pos h1]
   exact ⟨h3, h4⟩
 · unfold ixI
   rw [if_neg (by omega)]
   exact ⟨h3, h4⟩
/-- What find looks at. -/
def FSeen (G o : Nat) (w0 : World) (v1 v2 v3 : Value) (w : World) : Prop := Hid (Below w0.heap.size w0 w) ∧ w.cell? ⟨G, o + 5, none⟩ = some v1 ∧ w.cell? ⟨G, o + 6, none⟩ = some v2 ∧ w.cell? ⟨G, o + 7, none⟩ = some v3
set_option maxHeartbeats 4000000 in
set_option maxRecDepth 100000 in
theorem find_any (G o : Nat) (u1 u2 u3 : SlV) (l1 : List Md.Lease) (l2 : List Md.Dial) (l3 : List Md.Waiter) (cl : Int) (w : World) (k1 : w.cell? ⟨G, o + 5, none⟩ = some (valS u1)) (k2 : w.cell? ⟨G, o + 6, none⟩ = some (valS u2)) (k3 : w.cell? ⟨G, o + 7, none⟩ = some (valS u3))
 (r1 : ReadsL 3 encLease w (valS u1) l1) (r2 : ReadsL 2 encDial w (valS u2) l2) (r3 : ReadsL 2 encWaiter w (valS u3) l3) (h1 : l1.length ≤ 1000000) (h2 : l2.length ≤ 1000000) (h3 : l3.length ≤ 1000000) :
 Calls Try.prog 66 #[.pointer (some ⟨G, o, none⟩), I64 cl] w fun e w' => e = .returned (.tuple #[I64 (ixI (fun y => y.1 == cl) l1), I64 (ixI (fun y => y.1 == cl) l2), I64 (ixI (fun y => y.1 == cl) l3)]) ∧ Below w.heap.size w w' := by
 have hG : G < w.heap.size := cell_lt k1
 have hb0 := (Below.refl w.heap.size w).alloc (Nat.le_refl _) (.cells #[I64 cl] 2)
 have HB0 := Lib.hid hb0
 obtain ⟨w0, hw0⟩ : ∃ w0, w0 = w.alloc (.cells #[I64 cl] 2) := ⟨_, rfl⟩
 have hlt : w.heap.size < w0.heap.size := by rw [hw0]; simp
 have hx : w0.cell? ⟨w.heap.size, 0, none⟩ = some (I64 cl) := by rw [hw0]; exact blk_cell (blk_new w _) 0
 rw [← hw0] at HB0 hb0
 have HC : Hid (∀ w1, Below w0.heap.size w0 w1 → FSeen G o w0 (valS u1) (valS u2) (valS u3) w1) := fun w1 hb1 => by
  have hb := hb0.trans (hb1.mono hb0.size)
  exact ⟨Lib.hid hb1, (hb.cell (p := ⟨G, _, none⟩) hG).trans k1, (hb.cell (p := ⟨G, _, none⟩) hG).trans k2, (hb.cell (p := ⟨G, _, none⟩) hG).trans k3⟩
 have HI1 : Hid (∀ w1, Below w0.heap.size w0 w1 → _) := fun w1 hb1 => ixFindLease u1 l1 w.heap.size cl w1 (r1.below (hb0.trans (hb1.mono hb0.size))) (Nat.lt_of_lt_of_le hlt hb1.size) ((hb1.cell (p := ⟨_, 0, none⟩) hlt).trans hx) h1
 have HI2 : Hid (∀ w1, Below w0.heap.size w0 w1 → _) := fun w1 hb1 => ixFindDial u2 l2 w.heap.size cl w1 (r2.below (hb0.trans (hb1.mono hb0.size))) (Nat.lt_of_lt_of_le hlt hb1.size) ((hb1.cell (p := ⟨_, 0, none⟩) hlt).trans hx) h2
 have HI3 : Hid (∀ w1, Below w0.heap.size w0 w1 → _) := fun w1 hb1 => ixFindWaiter u3 l3 w.heap.size cl w1 (r3.below (hb0.trans (hb1.mono hb0.size))) (Nat.lt_of_lt_of_le hlt hb1.size) ((hb1.cell (p := ⟨_, 0, none⟩) hlt).trans hx) h3
 have HS := Lib.hid (HC.out w0.drew (Below.refl _ _).drew)
 generalize ixI (fun y => y.1 == cl) l1 = i1 at HI1 ⊢
 generalize ixI (fun y => y.1 == cl) l2 = i2 at HI2 ⊢
 generalize ixI (fun y => y.1 == cl) l3 = i3 at HI3 ⊢
 obtain ⟨a1, n1, c1⟩ := u1
 obtain ⟨a2, n2, c2⟩ := u2
 obtain ⟨a3, n3, c3⟩ := u3
 unfold valS at HI1 HI2 HI3 HC HS
 dsimp only at HI1 HI2 HI3 HC HS
 clear r1 r2 r3 k1 k2 k3 h1 h2 h3 hx hlt hb0 hG
 go_enter Try.func66, Try.ntmps66
 go_wp2
 rw [← hw0]
 clear hw0
 refine wp_region_quietC (C := FSeen G o w0 (.slice a1 n1 c1) (.slice a2 n2 c2) (.slice a3 n3 c3)) (by kernel_rfl) (by kernel_rfl) HS.out ?_
 refine wpQuiet_step (fun K hK => ?_)
 refine qwant (by rfl) ?_
 refine ⟨?vq1, ?hq1, ?rq1⟩
 case hq1 => (intro w hSw; unfold FSeen at hSw; obtain ⟨hSb, hS1, hS2, hS3⟩ := hSw; go_simp; first | done | with_reducible rfl)
 refine hK _ ?_
 clear hK K
 try simp only [Act.put, pu2, pu3, pu4]
 refine wpQuiet_step (fun K hK => ?_)
 refine qwant (by rfl) ?_
 refine ⟨?vq2, ?hq2, ?rq2⟩
 case hq2 => (intro w hSw; unfold FSeen at hSw; obtain ⟨hSb, hS1, hS2, hS3⟩ := hSw; go_simp; first | done | with_reducible rfl)
 refine hK _ ?_
 clear hK K
 try simp only [Act.put, pu2, pu3, pu4]
 refine wpQuiet_step (fun K hK => ?_)
 refine qwant (by rfl) ?_
 refine ⟨?vq3, ?hq3, ?rq3⟩
 case hq3 => (intro w hSw; unfold FSeen at hSw; obtain ⟨hSb, hS1, hS2, hS3⟩ := hSw; go_simp; first | done | with_reducible rfl)
 refine hK _ ?_
 clear hK K
 try simp only [Act.put, pu2, pu3, pu4]
 refine wpQuiet_step (fun K hK => ?_)
 refine qwant (by rfl) ?_
 refine ⟨?vq4, ?hq4, ?rq4⟩
 case hq4 => (intro w hSw; unfold FSeen at hSw; obtain ⟨hSb, hS1, hS2, hS3⟩ := hSw; go_simp; first | done | with_reducible rfl)
 refine hK _ ?_
 clear hK K
 try simp only [Act.put, pu2, pu3, pu4]
 refine wpQuiet_step (fun K hK => ?_)
 refine qwant (by rfl) ?_
 refine ⟨?vq5, ?hq5, ?rq5⟩
 case hq5 => (intro w hSw; unfold FSeen at hSw; obtain ⟨hSb, hS1, hS2, hS3⟩ := hSw; go_simp; first | done | with_reducible rfl)
 refine hK _ ?_
 clear hK K
 try simp only [Act.put, pu2, pu3, pu4]
 refine wpQuiet_step (fun K hK => ?_)
 refine qwant (by rfl) ?_
 refine ⟨I64 i1, ?hq6, ?rq6⟩
 case hq6 => (intro w hSw; unfold FSeen at hSw; obtain ⟨hSb, hS1, hS2, hS3⟩ := hSw; go_simp; exact (HI1.out w hSb.out).mono (fun e w1 q => ⟨q.1, HC.out w1 (hSb.out.trans (q.2.mono hSb.out.size))⟩))
 refine hK _ ?_
 clear hK K
 try simp only [Act.put, pu2, pu3, pu4]
 refine wpQuiet_step (fun K hK => ?_)
 refine qwant (by rfl) ?_
 refine ⟨?vq7, ?hq7, ?rq7⟩
 case hq7 => (intro w hSw; unfold FSeen at hSw; obtain ⟨hSb, hS1, hS2, hS3⟩ := hSw; go_simp; first | done | with_reducible rfl)
 refine hK _ ?_
 clear hK K
 try simp only [Act.put, pu2, pu3, pu4]
 refine wpQuiet_step (fun K hK => ?_)
 refine qwant (by rfl) ?_
 refine ⟨?vq8, ?hq8, ?rq8⟩
 case hq8 => (intro w hSw; unfold FSeen at hSw; obtain ⟨hSb, hS1, hS2, hS3⟩ := hSw; go_simp; first | done | with_reducible rfl)
 refine hK _ ?_
 clear hK K
 try simp only [Act.put, pu2, pu3, pu4]
 refine wpQuiet_step (fun K hK => ?_)
 refine qwant (by rfl) ?_
 refine ⟨?vq9, ?hq9, ?rq9⟩
 case hq9 => (intro w hSw; unfold FSeen at hSw; obtain ⟨hSb, hS1, hS2, hS3⟩ := hSw; go_simp; first | done | with_reducible rfl)
 refine hK _ ?_
 clear hK K
 try simp only [Act.put, pu2, pu3, pu4]
 refine wpQuiet_step (fun K hK => ?_)
 refine qwant (by rfl) ?_
 refine ⟨?vq10, ?hq10, ?rq10⟩
 case hq10 => (intro w hSw; unfold FSeen at hSw; obtain ⟨hSb, hS1, hS2, hS3⟩ := hSw; go_simp; first | done | with_reducible rfl)
 refine hK _ ?_
 clear hK K
 try simp only [Act.put, pu2, pu3, pu4]
 refine wpQuiet_step (fun K hK => ?_)
 refine qwant (by rfl) ?_
 refine ⟨?vq11, ?hq11, ?rq11⟩
 case hq11 => (intro w hSw; unfold FSeen at hSw; obtain ⟨hSb, hS1, hS2, hS3⟩ := hSw; go_simp; first | done | with_reducible rfl)
 refine hK _ ?_
 clear hK K
 try simp only [Act.put, pu2, pu3, pu4]
 refine wpQuiet_step (fun K hK => ?_)
 refine qwant (by rfl) ?_
 refine ⟨I64 i2, ?hq12, ?rq12⟩
 case hq12 => (intro w hSw; unfold FSeen at hSw; obtain ⟨hSb, hS1, hS2, hS3⟩ := hSw; go_simp; exact (HI2.out w hSb.out).mono (fun e w1 q => ⟨q.1, HC.out w1 (hSb.out.trans (q.2.mono hSb.out.size))⟩))
 refine hK _ ?_
 clear hK K
 try simp only [Act.put, pu2, pu3, pu4]
 refine wpQuiet_step (fun K hK => ?_)
 refine qwant (by rfl) ?_
 refine ⟨?vq13, ?hq13, ?rq13⟩
 case hq13 => (intro w hSw; unfold FSeen at hSw; obtain ⟨hSb, hS1, hS2, hS3⟩ := hSw; go_simp; first | done | with_reducible rfl)
 refine hK _ ?_
 clear hK K
 try simp only [Act.put, pu2, pu3, pu4]
 refine wpQuiet_step (fun K hK => ?_)
 refine qwant (by rfl) ?_
 refine ⟨?vq14, ?hq14, ?rq14⟩
 case hq14 => (intro w hSw; unfold FSeen at hSw; obtain ⟨hSb, hS1, hS2, hS3⟩ := hSw; go_simp; first | done | with_reducible rfl)
 refine hK _ ?_
 clear hK K
 try simp only [Act.put, pu2, pu3, pu4]
 refine wpQuiet_step (fun K hK => ?_)
 refine qwant (by rfl) ?_
 refine ⟨?vq15, ?hq15, ?rq15⟩
 case hq15 => (intro w hSw; unfold FSeen at hSw; obtain ⟨hSb, hS1, hS2, hS3⟩ := hSw; go_simp; first | done | with_reducible rfl)
 refine hK _ ?_
 clear hK K
 try simp only [Act.put, pu2, pu3, pu4]
 refine wpQuiet_step (fun K hK => ?_)
 refine qwant (by rfl) ?_
 refine ⟨?vq16, ?hq16, ?rq16⟩
 case hq16 => (intro w hSw; unfold FSeen at hSw; obtain ⟨hSb, hS1, hS2, hS3⟩ := hSw; go_simp; first | done | with_reducible rfl)
 refine hK _ ?_
 clear hK K
 try simp only [Act.put, pu2, pu3, pu4]
 refine wpQuiet_step (fun K hK => ?_)
 refine qwant (by rfl) ?_
 refine ⟨?vq17, ?hq17, ?rq17⟩
 case hq17 => (intro w hSw; unfold FSeen at hSw; obtain ⟨hSb, hS1, hS2, hS3⟩ := hSw; go_simp; first | done | with_reducible rfl)
 refine hK _ ?_
 clear hK K
 try simp only [Act.put, pu2, pu3, pu4]
 refine wpQuiet_step (fun K hK => ?_)
 refine qwant (by rfl) ?_
 refine ⟨I64 i3, ?hq18, ?rq18⟩
 case hq18 => (intro w hSw; unfold FSeen at hSw; obtain ⟨hSb, hS1, hS2, hS3⟩ := hSw; go_simp; exact (HI3.out w hSb.out).mono (fun e w1 q => ⟨q.1, HC.out w1 (hSb.out.trans (q.2.mono hSb.out.size))⟩))
 refine hK _ ?_
 clear hK K
 try simp only [Act.put, pu2, pu3, pu4]
 refine wpQuiet_step (fun K hK => ?_)
 refine qwant (by rfl) ?_
 refine ⟨?vq19, ?hq19, ?rq19⟩
 case hq19 => (intro w hSw; unfold FSeen at hSw; obtain ⟨hSb, hS1, hS2, hS3⟩ := hSw; go_simp; first | done | with_reducible rfl)
 refine hK _ ?_
 clear hK K
 try simp only [Act.put, pu2, pu3, pu4]
 refine wpQuiet_step (fun K hK => ?_)
 refine qwant (by rfl) ?_
 refine ⟨?vq20, ?hq20, ?rq20⟩
 case hq20 => (intro w hSw; unfold FSeen at hSw; obtain ⟨hSb, hS1, hS2, hS3⟩ := hSw; go_simp; first | done | with_reducible rfl)
 refine hK _ ?_
 clear hK K
 try simp only [Act.put, pu2, pu3, pu4]
 refine wpQuiet_step (fun K hK => ?_)
 refine qwant (by rfl) ?_
 refine ⟨?vq21, ?hq21, ?rq21⟩
 case hq21 => (intro w hSw; unfold FSeen at hSw; obtain ⟨hSb, hS1, hS2, hS3⟩ := hSw; go_simp; first | done | with_reducible rfl)
 refine hK _ ?_
 clear hK K
 try simp only [Act.put, pu2, pu3, pu4]
 refine wpQuiet_nil ?_
 rintro w9 ⟨hb9, _, _, _⟩
 go_wp2
 go_ret3
 exact ⟨rfl, HB0.out.trans (hb9.out.mono HB0.out.size)⟩
end Go.Proofs.Ytaicmiadgnpimaa
namespace Go.Proofs.Ytaicmiadgnpimaa
open Go.RowKit

/-- What find may look at. -/
def PoolSeen (w : World) (G o : Nat) (p : Md.Pool) : Prop := ∃ u1 u2 u3 : SlV, w.cell? ⟨G, o + 5, none⟩ = some (valS u1) ∧ w.cell? ⟨G, o + 6, none⟩ = some (valS u2) ∧ w.cell? ⟨G, o + 7, none⟩ = some (valS u3) ∧
 ReadsL 3 encLease w (valS u1) p.leases ∧ ReadsL 2 encDial w (valS u2) p.dials ∧ ReadsL 2 encWaiter w (valS u3) p.waiters ∧ p.leases.length ≤ 1000000 ∧ p.dials.length ≤ 1000000 ∧ p.waiters.length ≤ 1000000
theorem PoolSeen.below {w w' : World} {G o : Nat} {p : Md.Pool} (h : PoolSeen w G o p) (hb : Below w.heap.size w w') : PoolSeen w' G o p := by
 obtain ⟨u1, u2, u3, k1, k2, k3, r1, r2, r3, h4⟩ := h
 have hG := cell_lt k1
 exact ⟨u1, u2, u3, (hb.cell (p := ⟨G, _, none⟩) hG).trans k1, (hb.cell (p := ⟨G, _, none⟩) hG).trans k2, (hb.cell (p := ⟨G, _, none⟩) hG).trans k3, r1.below hb, r2.below hb, r3.below hb, h4⟩
theorem find_pool {w : World} {G o : Nat} {p : Md.Pool} (h : PoolSeen w G o p) (cl : Int) :
 Calls Try.prog 66 #[.pointer (some ⟨G, o, none⟩), I64 cl] w fun e w' => e = .returned (.tuple #[I64 (ixI (fun y => y.1 == cl) p.leases), I64 (ixI (fun y => y.1 == cl) p.dials), I64 (ixI (fun y => y.1 == cl) p.waiters)]) ∧ Below w.heap.size w w' := by
 obtain ⟨u1, u2, u3, k1, k2, k3, r1, r2, r3, h4, h5, h6⟩ := h
 exact find_any G o u1 u2 u3 _ _ _ cl w k1 k2 k3 r1 r2 r3 h4 h5 h6
theorem RunV.seen {S : Nat → Prop} {R : Nat} {c : Md.Call} {s : Md.State} {es : List Md.Effect} {W : Nat → Prop} {G n cap : Nat} {ev : SlV} {pvs : List PoolV} {w : World} (h : RunV S R c s es W (some ⟨G, 0, none⟩, n, cap) ev pvs w) {b : Nat} (hb : b < s.pools.length) (hf : PoolFit s.pools[b]) : PoolSeen w G (b * 11) s.pools[b] := by
 have hbp : b < pvs.length := by rw [h.len]; exact hb
 have hq := h.each b hbp hb
 have hc := h.cells hbp
 exact ⟨_, _, _, hc.c5, hc.c6, hc.c7, hq.leases.reads encLease_len, hq.dials.reads encDial_len, hq.waiters, hf.ll, hf.dl, hf.wl⟩
def whereV : Option (Nat × Int) → Value
 | none => .tuple #[I64 0, I64 0, .bool false]
 | some (b, r) => .tuple #[I64 b, I64 r, .bool true]
theorem whereP_at (cl : Int) (l : List Md.Pool) (k : Nat) (hk : k < l.length) : Md.whereP cl k (l.drop k) = (if Md.hasLease l[k] cl then some (k, 1) else if Md.hasDial l[k] cl then some (k, 2) else if Md.hasWaiter l[k] cl then some (k, 3) else Md.whereP cl (k + 1) (l.drop (k + 1))) := by
 rw [List.drop_eq_getElem_cons hk]
 rfl
set_option maxHeartbeats 4000000 in
set_option maxRecDepth 100000 in
theorem where_any (R G o cap : Nat) (l : List Md.Pool) (cl : Int) (w : World) (k2 : w.cell? ⟨R, 2, none⟩ = some (.slice (some ⟨G, o, none⟩) l.length cap)) (hp : ∀ j (hj : j < l.length), PoolSeen w G (o + j * 11) l[j]) (hl : l.length ≤ 1000000) :
 Calls Try.prog 40 #[.pointer (some ⟨R, 0, none⟩), I64 cl] w fun e w' => e = .returned (whereV (Md.whereP cl 0 l)) ∧ Below w.heap.size w w' := by
 have HC : Hid (∀ w1, Below w.heap.size w w1 → w1.cell? ⟨R, 2, none⟩ = some (.slice (some ⟨G, o, none⟩) l.length cap)) := fun w1 hb1 => (hb1.cell (p := ⟨R, _, none⟩) (cell_lt k2)).trans k2
 have HF : Hid (∀ w1, Below w.heap.size w w1 → ∀ j (hj : j < l.length), _) := fun w1 hb1 j hj => find_pool ((hp j hj).below hb1) cl
 have HW := Lib.hid (whereP_at cl l)
 have HE : Hid (l.length = 0 → Md.whereP cl 0 l = none) := fun h => by
  rw [List.eq_nil_of_length_eq_zero h]
  rfl
 have HD : Hid (∀ k, Md.whereP cl k (l.drop l.length) = none) := fun k => by
  rw [List.drop_length]
  rfl
 have H0 : Hid (Md.whereP cl 0 l = Md.whereP cl 0 (l.drop 0)) := rfl
 have HS := Lib.hid (Below.refl w.heap.size w)
 obtain ⟨n, hn⟩ : ∃ n, n = l.length := ⟨_, rfl⟩
 have HN := Lib.hid hn
 rw [← hn] at hl HC k2
 generalize Md.whereP cl 0 l = res at H0 ⊢
 clear hp hn HE
 go_enter Try.func40, Try.ntmps40
 go_wp2
 go_loopw [7, 8, 9, 10, 17] (fun _ _ _ _ jv wr => ∃ k : Nat, k ≤ n ∧ jv = .int .i64 k ∧ Hid (Below w.heap.size w wr) ∧ Hid (res = Md.whereP cl k (l.drop k))) (fun _ _ _ _ jv _ => n - (intOf jv).toNat)
 case atStart => exact ⟨0, Nat.zero_le _, rfl, HS, H0⟩
 case round =>
  obtain ⟨k, hkn, rfl, HB, HR⟩ := hrel
  by_cases hlt : k < n
  · have hq : k < l.length := by rw [← HN.out]; exact hlt
    have hcc := HC.out wr HB.out
    have hcall := HF.out wr HB.out k hq
    have hwh := HR.out.trans (HW.out k hq)
    have e1 := ixI_neg (fun y => y.1 == cl) l[k].leases
    have e2 := ixI_neg (fun y => y.1 == cl) l[k].dials
    have e3 := ixI_neg (fun y => y.1 == cl) l[k].waiters
    unfold Md.hasLease Md.hasDial Md.hasWaiter at hwh
    generalize ixI (fun y => y.1 == cl) l[k].leases = i1 at hcall e1
    generalize ixI (fun y => y.1 == cl) l[k].dials = i2 at hcall e2
    generalize ixI (fun y => y.1 == cl) l[k].waiters = i3 at hcall e3
    generalize (l[k].leases.any fun y => y.1 == cl) = b1 at hwh e1
    generalize (l[k].dials.any fun y => y.1 == cl) = b2 at hwh e2
    generalize (l[k].waiters.any fun y => y.1 == cl) = b3 at hwh e3
    have ilt : (k : Int) < (n : Int) := by omega
    clear hlt HR
    cases b1 with
    | true =>
     have i1p : 0 ≤ i1 := Int.not_lt.1 fun h => by simp at e1; omega
     have HH := Lib.hid hwh
     clear e1 e2 e3 hwh
     go_wp2_with fail
     refine hcall.mono ?_
     rintro e w1 ⟨rfl, hb1⟩
     go_wp2
     go_ret3
     rw [HH.out]
     exact ⟨rfl, HB.out.trans (hb1.mono HB.out.size)⟩
    | false =>
     have i1n : i1 < 0 := e1.2 rfl
     cases b2 with
     | true =>
      have i2p : 0 ≤ i2 := Int.not_lt.1 fun h => by simp at e2; omega
      have HH := Lib.hid hwh
      clear e1 e2 e3 hwh
      go_wp2_with fail
      refine hcall.mono ?_
      rintro e w1 ⟨rfl, hb1⟩
      go_wp2
      go_ret3
      rw [HH.out]
      exact ⟨rfl, HB.out.trans (hb1.mono HB.out.size)⟩
     | false =>
      have i2n : i2 < 0 := e2.2 rfl
      cases b3 with
      | true =>
       have i3p : 0 ≤ i3 := Int.not_lt.1 fun h => by simp at e3; omega
       have HH := Lib.hid hwh
       clear e1 e2 e3 hwh
       go_wp2_with fail
       refine hcall.mono ?_
       rintro e w1 ⟨rfl, hb1⟩
       go_wp2
       go_ret3
       rw [HH.out]
       exact ⟨rfl, HB.out.trans (hb1.mono HB.out.size)⟩
      | false =>
       have i3n : i3 < 0 := e3.2 rfl
       have HH := Lib.hid hwh
       have HKN : Hid (k < n) := Lib.hid (by omega)
       clear e1 e2 e3 hwh
       go_wp2_with fail
       refine hcall.mono ?_
       rintro e w1 ⟨rfl, hb1⟩
       go_wp2
       case roundEnd =>
        refine ⟨⟨k + 1, HKN.out, by rw [show (k : Int) + 1 = ((k + 1 : Nat) : Int) by omega], Lib.hid (HB.out.trans (hb1.mono HB.out.size)), Lib.hid HH.out⟩, ?_⟩
        simp [intOf]
        omega
  · have hkn2 : k = n := by omega
    subst hkn2
    have HH : Hid (res = none) := Lib.hid (HR.out.trans (by rw [HN.out]; exact HD.out _))
    clear HR
    go_wp2
    go_ret3
    rw [HH.out]
    exact ⟨rfl, HB.out⟩
end Go.Proofs.Ytaicmiadgnpimaa
namespace Go.Proofs.Ytaicmiadgnpimaa
open Go.RowKit

theorem whereP_some (cl : Int) : ∀ (l : List Md.Pool) (k : Nat), (Md.whereP cl k l).isSome = (l.flatMap Md.pcalls).contains cl
 | [], _ => rfl
 | p :: t, k => by
  have ih := whereP_some cl t (k + 1)
  have e : (Md.pcalls p).contains cl = (Md.hasLease p cl || Md.hasDial p cl || Md.hasWaiter p cl) := by
   unfold Md.pcalls Md.hasLease Md.hasDial Md.hasWaiter
   simp only [List.contains_eq_any_beq, List.any_append, List.any_map]
   congr 1
   · congr 1
     · congr 1; funext x; exact BEq.comm
     · congr 1; funext x; exact BEq.comm
   · congr 1; funext x; exact BEq.comm
  rw [List.flatMap_cons, List.contains_append, e, ← ih, show Md.whereP cl k (p :: t) = (if Md.hasLease p cl then some (k, 1) else if Md.hasDial p cl then some (k, 2) else if Md.hasWaiter p cl then some (k, 3) else Md.whereP cl (k + 1) t) from rfl]
  cases Md.hasLease p cl <;> cases Md.hasDial p cl <;> cases Md.hasWaiter p cl <;> simp
set_option maxRecDepth 100000 in
theorem known_any (R G o cap : Nat) (l : List Md.Pool) (cl : Int) (w : World) (k2 : w.cell? ⟨R, 2, none⟩ = some (.slice (some ⟨G, o, none⟩) l.length cap)) (k5 : w.cell? ⟨R, 5, none⟩ = some (I64 cl)) (hp : ∀ j (hj : j < l.length), PoolSeen w G (o + j * 11) l[j]) (hl : l.length ≤ 1000000) :
 Calls Try.prog 44 #[.pointer (some ⟨R, 0, none⟩)] w fun e w' => e = .returned (I64 (if (l.flatMap Md.pcalls).contains cl then 8 else 0)) ∧ Below w.heap.size w w' := by
 have HWH := Lib.hid (where_any R G o cap l cl w k2 hp hl)
 rw [← whereP_some cl l 0]
 clear k2 hp hl
 cases hres : Md.whereP cl 0 l with
 | none =>
  rw [hres] at HWH
  unfold whereV at HWH
  dsimp only [Option.isSome] at HWH ⊢
  rw [if_neg (by simp)]
  clear hres
  go_enter Try.func44, Try.ntmps44
  go_wp2_with fail
  refine HWH.out.mono ?_
  rintro e w1 ⟨rfl, hb1⟩
  go_wp2
  go_ret
  exact ⟨rfl, hb1⟩
 | some x =>
  obtain ⟨xb, xr⟩ := x
  rw [hres] at HWH
  unfold whereV at HWH
  dsimp only [Option.isSome] at HWH ⊢
  rw [if_pos rfl]
  clear hres
  go_enter Try.func44, Try.ntmps44
  go_wp2_with fail
  refine HWH.out.mono ?_
  rintro e w1 ⟨rfl, hb1⟩
  go_wp2
  go_ret
  exact ⟨rfl, hb1⟩
/-- A world in which the call's number can be read. -/
def CSeen (R : Nat) (w0 : World) (cl : Int) (w : World) : Prop := Hid (Below w0.heap.size w0 w) ∧ w.cell? ⟨R, 5, none⟩ = some (I64 cl)
set_option maxHeartbeats 2000000 in
set_option maxRecDepth 100000 in
theorem unleased_any (S : Nat → Prop) (R G n cap b : Nat) (c : Md.Call) (s : Md.State) (es : List Md.Effect) (W : Nat → Prop) (ev : SlV) (pvs : List PoolV) (w : World) (h : RunV S R c s es W (some ⟨G, 0, none⟩, n, cap) ev pvs w) (hb : c.backend = (b : Int)) (hn : n = s.pools.length) (hbn : b < s.pools.length) (hf : PoolFit s.pools[b]) :
 Calls Try.prog 48 #[.pointer (some ⟨R, 0, none⟩)] w fun e w' => e = .returned (I64 (if !Md.hasLease s.pools[b] c.call then 4 else 0)) ∧ Below w.heap.size w w' := by
 have HP : Hid (∀ w1, Below w.heap.size w w1 → Calls Try.prog 67 #[.pointer (some ⟨R, 0, none⟩)] w1 fun e w' => e = .returned (.pointer (some ⟨G, b * 11, none⟩)) ∧ Below w.heap.size w w') := fun w1 hb1 =>
  (pool_any R G n cap b c s ev w1 (runCells_of (h.below hb1).blk) hb (by omega)).mono fun e w' q => ⟨q.1, hb1.trans (q.2.mono hb1.size)⟩
 have hse := h.seen hbn hf
 have HF : Hid (∀ w1, Below w.heap.size w w1 → Calls Try.prog 66 #[.pointer (some ⟨G, b * 11, none⟩), I64 c.call] w1 fun e w' => e = .returned (.tuple #[I64 (ixI (fun y => y.1 == c.call) s.pools[b].leases), I64 (ixI (fun y => y.1 == c.call) s.pools[b].dials), I64 (ixI (fun y => y.1 == c.call) s.pools[b].waiters)]) ∧ Below w.heap.size w w') := fun w1 hb1 =>
  (find_pool (hse.below hb1) c.call).mono fun e w' q => ⟨q.1, hb1.trans (q.2.mono hb1.size)⟩
 have HC : Hid (∀ w1, Below w.heap.size w w1 → CSeen R w c.call w1) := fun w1 hb1 => ⟨Lib.hid hb1, (runCells_of (h.below hb1).blk).c5⟩
 have HS := Lib.hid (HC.out w.drew (Below.refl _ _).drew)
 have e1 := ixI_neg (fun y => y.1 == c.call) s.pools[b].leases
 have hl : Md.hasLease s.pools[b] c.call = s.pools[b].leases.any (fun y => y.1 == c.call) := rfl
 rw [hl]
 generalize (s.pools[b].leases.any fun y => y.1 == c.call) = b1 at e1 ⊢
 generalize ixI (fun y => y.1 == c.call) s.pools[b].leases = i1 at HF e1
 generalize ixI (fun y => y.1 == c.call) s.pools[b].dials = i2 at HF
 generalize ixI (fun y => y.1 == c.call) s.pools[b].waiters = i3 at HF
 generalize c.call = cl at HC HS HF
 clear hse hl h hb hn hf
 cases b1 with
 | true =>
  have i1p : 0 ≤ i1 := Int.not_lt.1 fun h => by simp at e1; omega
  rw [if_neg (by simp)]
  clear e1
  go_enter Try.func48, Try.ntmps48
  go_wp2
  refine wp_region_quietC (C := CSeen R w cl) (by kernel_rfl) (by kernel_rfl) HS.out ?_
  refine wpQuiet_step (fun K hK => ?_)
  refine qwant (by rfl) ?_
  refine ⟨?vq1, ?hq1, ?rq1⟩
  case hq1 => (intro w hSw; unfold CSeen at hSw; obtain ⟨hSb, hS1⟩ := hSw; go_simp; first | done | with_reducible rfl)
  refine hK _ ?_
  clear hK K
  try simp only [Act.put, pu2, pu3, pu4]
  refine wpQuiet_step (fun K hK => ?_)
  refine qwant (by rfl) ?_
  refine ⟨.pointer (some ⟨G, b * 11, none⟩), ?hq2, ?rq2⟩
  case hq2 => (intro w hSw; unfold CSeen at hSw; obtain ⟨hSb, hS1⟩ := hSw; go_simp; exact (HP.out _ hSb.out).mono (fun e w1 q => ⟨q.1, HC.out w1 q.2⟩))
  refine hK _ ?_
  clear hK K
  try simp only [Act.put, pu2, pu3, pu4]
  refine wpQuiet_step (fun K hK => ?_)
  refine qwant (by rfl) ?_
  refine ⟨?vq3, ?hq3, ?rq3⟩
  case hq3 => (intro w hSw; unfold CSeen at hSw; obtain ⟨hSb, hS1⟩ := hSw; go_simp; first | done | with_reducible rfl)
  refine hK _ ?_
  clear hK K
  try simp only [Act.put, pu2, pu3, pu4]
  refine wpQuiet_step (fun K hK => ?_)
  refine qwant (by rfl) ?_
  refine ⟨?vq4, ?hq4, ?rq4⟩
  case hq4 => (intro w hSw; unfold CSeen at hSw; obtain ⟨hSb, hS1⟩ := hSw; go_simp; first | done | with_reducible rfl)
  refine hK _ ?_
  clear hK K
  try simp only [Act.put, pu2, pu3, pu4]
  refine wpQuiet_step (fun K hK => ?_)
  refine qwant (by rfl) ?_
  refine ⟨?vq5, ?hq5, ?rq5⟩
  case hq5 => (intro w hSw; unfold CSeen at hSw; obtain ⟨hSb, hS1⟩ := hSw; go_simp; first | done | with_reducible rfl)
  refine hK _ ?_
  clear hK K
  try simp only [Act.put, pu2, pu3, pu4]
  refine wpQuiet_step (fun K hK => ?_)
  refine qwant (by rfl) ?_
  refine ⟨?vq6, ?hq6, ?rq6⟩
  case hq6 => (intro w hSw; unfold CSeen at hSw; obtain ⟨hSb, hS1⟩ := hSw; go_simp; first | done | with_reducible rfl)
  refine hK _ ?_
  clear hK K
  try simp only [Act.put, pu2, pu3, pu4]
  refine wpQuiet_step (fun K hK => ?_)
  refine qwant (by rfl) ?_
  refine ⟨?vq7, ?hq7, ?rq7⟩
  case hq7 => (intro w hSw; unfold CSeen at hSw; obtain ⟨hSb, hS1⟩ := hSw; go_simp; first | done | with_reducible rfl)
  refine hK _ ?_
  clear hK K
  try simp only [Act.put, pu2, pu3, pu4]
  refine wpQuiet_step (fun K hK => ?_)
  refine qwant (by rfl) ?_
  refine ⟨.tuple #[I64 i1, I64 i2, I64 i3], ?hq8, ?rq8⟩
  case hq8 => (intro w hSw; unfold CSeen at hSw; obtain ⟨hSb, hS1⟩ := hSw; go_simp; exact (HF.out _ hSb.out).mono (fun e w1 q => ⟨q.1, HC.out w1 q.2⟩))
  refine hK _ ?_
  clear hK K
  try simp only [Act.put, pu2, pu3, pu4]
  refine wpQuiet_step (fun K hK => ?_)
  refine qwant (by rfl) ?_
  refine ⟨?vq9, ?hq9, ?rq9⟩
  case hq9 => (intro w hSw; unfold CSeen at hSw; obtain ⟨hSb, hS1⟩ := hSw; go_simp; first | done | with_reducible rfl)
  refine hK _ ?_
  clear hK K
  try simp only [Act.put, pu2, pu3, pu4]
  refine wpQuiet_step (fun K hK => ?_)
  refine qwant (by rfl) ?_
  refine ⟨?vq10, ?hq10, ?rq10⟩
  case hq10 => (intro w hSw; unfold CSeen at hSw; obtain ⟨hSb, hS1⟩ := hSw; go_simp; first | done | with_reducible rfl)
  refine hK _ ?_
  clear hK K
  try simp only [Act.put, pu2, pu3, pu4]
  refine wpQuiet_step (fun K hK => ?_)
  refine qwant (by rfl) ?_
  refine ⟨?vq11, ?hq11, ?rq11⟩
  case hq11 => (intro w hSw; unfold CSeen at hSw; obtain ⟨hSb, hS1⟩ := hSw; go_simp; first | done | with_reducible rfl)
  refine hK _ ?_
  clear hK K
  try simp only [Act.put, pu2, pu3, pu4]
  refine wpQuiet_step (fun K hK => ?_)
  refine qwant (by rfl) ?_
  refine ⟨?vq12, ?hq12, ?rq12⟩
  case hq12 => (intro w hSw; unfold CSeen at hSw; obtain ⟨hSb, hS1⟩ := hSw; go_simp; first | done | with_reducible rfl)
  refine hK _ ?_
  clear hK K
  try simp only [Act.put, pu2, pu3, pu4]
  refine wpQuiet_step (fun K hK => ?_)
  refine qwant (by rfl) ?_
  refine ⟨?vq13, ?hq13, ?rq13⟩
  case hq13 => (intro w hSw; unfold CSeen at hSw; obtain ⟨hSb, hS1⟩ := hSw; go_simp; first | done | with_reducible rfl)
  refine hK _ ?_
  clear hK K
  try simp only [Act.put, pu2, pu3, pu4]
  refine wpQuiet_step (fun K hK => ?_)
  refine qwant (by rfl) ?_
  refine ⟨?vq14, ?hq14, ?rq14⟩
  case hq14 => (intro w hSw; unfold CSeen at hSw; obtain ⟨hSb, hS1⟩ := hSw; go_simp; first | done | with_reducible rfl)
  refine hK _ ?_
  clear hK K
  try simp only [Act.put, pu2, pu3, pu4]
  refine wpQuiet_step (fun K hK => ?_)
  refine qwant (by rfl) ?_
  refine ⟨?vq15, ?hq15, ?rq15⟩
  case hq15 => (intro w hSw; unfold CSeen at hSw; obtain ⟨hSb, hS1⟩ := hSw; go_simp; first | done | with_reducible rfl)
  refine hK _ ?_
  clear hK K
  try simp only [Act.put, pu2, pu3, pu4]
  refine wpQuiet_nil ?_
  rintro w9 ⟨hb9, _⟩
  go_wp2
  go_ret
  exact ⟨rfl, hb9.out⟩
 | false =>
  have i1n : i1 < 0 := e1.2 rfl
  rw [if_pos (show (!false) = true from rfl)]
  clear e1
  go_enter Try.func48, Try.ntmps48
  go_wp2
  refine wp_region_quietC (C := CSeen R w cl) (by kernel_rfl) (by kernel_rfl) HS.out ?_
  refine wpQuiet_step (fun K hK => ?_)
  refine qwant (by rfl) ?_
  refine ⟨?vq16, ?hq16, ?rq16⟩
  case hq16 => (intro w hSw; unfold CSeen at hSw; obtain ⟨hSb, hS1⟩ := hSw; go_simp; first | done | with_reducible rfl)
  refine hK _ ?_
  clear hK K
  try simp only [Act.put, pu2, pu3, pu4]
  refine wpQuiet_step (fun K hK => ?_)
  refine qwant (by rfl) ?_
  refine ⟨.pointer (some ⟨G, b * 11, none⟩), ?hq17, ?rq17⟩
  case hq17 => (intro w hSw; unfold CSeen at hSw; obtain ⟨hSb, hS1⟩ := hSw; go_simp; exact (HP.out _ hSb.out).mono (fun e w1 q => ⟨q.1, HC.out w1 q.2⟩))
  refine hK _ ?_
  clear hK K
  try simp only [Act.put, pu2, pu3, pu4]
  refine wpQuiet_step (fun K hK => ?_)
  refine qwant (by rfl) ?_
  refine ⟨?vq18, ?hq18, ?rq18⟩
  case hq18 => (intro w hSw; unfold CSeen at hSw; obtain ⟨hSb, hS1⟩ := hSw; go_simp; first | done | with_reducible rfl)
  refine hK _ ?_
  clear hK K
  try simp only [Act.put, pu2, pu3, pu4]
  refine wpQuiet_step (fun K hK => ?_)
  refine qwant (by rfl) ?_
  refine ⟨?vq19, ?hq19, ?rq19⟩
  case hq19 => (intro w hSw; unfold CSeen at hSw; obtain ⟨hSb, hS1⟩ := hSw; go_simp; first | done | with_reducible rfl)
  refine hK _ ?_
  clear hK K
  try simp only [Act.put, pu2, pu3, pu4]
  refine wpQuiet_step (fun K hK => ?_)
  refine qwant (by rfl) ?_
  refine ⟨?vq20, ?hq20, ?rq20⟩
  case hq20 => (intro w hSw; unfold CSeen at hSw; obtain ⟨hSb, hS1⟩ := hSw; go_simp; first | done | with_reducible rfl)
  refine hK _ ?_
  clear hK K
  try simp only [Act.put, pu2, pu3, pu4]
  refine wpQuiet_step (fun K hK => ?_)
  refine qwant (by rfl) ?_
  refine ⟨?vq21, ?hq21, ?rq21⟩
  case hq21 => (intro w hSw; unfold CSeen at hSw; obtain ⟨hSb, hS1⟩ := hSw; go_simp; first | done | with_reducible rfl)
  refine hK _ ?_
  clear hK K
  try simp only [Act.put, pu2, pu3, pu4]
  refine wpQuiet_step (fun K hK => ?_)
  refine qwant (by rfl) ?_
  refine ⟨?vq22, ?hq22, ?rq22⟩
  case hq22 => (intro w hSw; unfold CSeen at hSw; obtain ⟨hSb, hS1⟩ := hSw; go_simp; first | done | with_reducible rfl)
  refine hK _ ?_
  clear hK K
  try simp only [Act.put, pu2, pu3, pu4]
  refine wpQuiet_step (fun K hK => ?_)
  refine qwant (by rfl) ?_
  refine ⟨.tuple #[I64 i1, I64 i2, I64 i3], ?hq23, ?rq23⟩
  case hq23 => (intro w hSw; unfold CSeen at hSw; obtain ⟨hSb, hS1⟩ := hSw; go_simp; exact (HF.out _ hSb.out).mono (fun e w1 q => ⟨q.1, HC.out w1 q.2⟩))
  refine hK _ ?_
  clear hK K
  try simp only [Act.put, pu2, pu3, pu4]
  refine wpQuiet_step (fun K hK => ?_)
  refine qwant (by rfl) ?_
  refine ⟨?vq24, ?hq24, ?rq24⟩
  case hq24 => (intro w hSw; unfold CSeen at hSw; obtain ⟨hSb, hS1⟩ := hSw; go_simp; first | done | with_reducible rfl)
  refine hK _ ?_
  clear hK K
  try simp only [Act.put, pu2, pu3, pu4]
  refine wpQuiet_step (fun K hK => ?_)
  refine qwant (by rfl) ?_
  refine ⟨?vq25, ?hq25, ?rq25⟩
  case hq25 => (intro w hSw; unfold CSeen at hSw; obtain ⟨hSb, hS1⟩ := hSw; go_simp; first | done | with_reducible rfl)
  refine hK _ ?_
  clear hK K
  try simp only [Act.put, pu2, pu3, pu4]
  refine wpQuiet_step (fun K hK => ?_)
  refine qwant (by rfl) ?_
  refine ⟨?vq26, ?hq26, ?rq26⟩
  case hq26 => (intro w hSw; unfold CSeen at hSw; obtain ⟨hSb, hS1⟩ := hSw; go_simp; first | done | with_reducible rfl)
  refine hK _ ?_
  clear hK K
  try simp only [Act.put, pu2, pu3, pu4]
  refine wpQuiet_step (fun K hK => ?_)
  refine qwant (by rfl) ?_
  refine ⟨?vq27, ?hq27, ?rq27⟩
  case hq27 => (intro w hSw; unfold CSeen at hSw; obtain ⟨hSb, hS1⟩ := hSw; go_simp; first | done | with_reducible rfl)
  refine hK _ ?_
  clear hK K
  try simp only [Act.put, pu2, pu3, pu4]
  refine wpQuiet_step (fun K hK => ?_)
  refine qwant (by rfl) ?_
  refine ⟨?vq28, ?hq28, ?rq28⟩
  case hq28 => (intro w hSw; unfold CSeen at hSw; obtain ⟨hSb, hS1⟩ := hSw; go_simp; first | done | with_reducible rfl)
  refine hK _ ?_
  clear hK K
  try simp only [Act.put, pu2, pu3, pu4]
  refine wpQuiet_step (fun K hK => ?_)
  refine qwant (by rfl) ?_
  refine ⟨?vq29, ?hq29, ?rq29⟩
  case hq29 => (intro w hSw; unfold CSeen at hSw; obtain ⟨hSb, hS1⟩ := hSw; go_simp; first | done | with_reducible rfl)
  refine hK _ ?_
  clear hK K
  try simp only [Act.put, pu2, pu3, pu4]
  refine wpQuiet_step (fun K hK => ?_)
  refine qwant (by rfl) ?_
  refine ⟨?vq30, ?hq30, ?rq30⟩
  case hq30 => (intro w hSw; unfold CSeen at hSw; obtain ⟨hSb, hS1⟩ := hSw; go_simp; first | done | with_reducible rfl)
  refine hK _ ?_
  clear hK K
  try simp only [Act.put, pu2, pu3, pu4]
  refine wpQuiet_nil ?_
  rintro w9 ⟨hb9, _⟩
  go_wp2
  go_ret
  exact ⟨rfl, hb9.out⟩
end Go.Proofs.Ytaicmiadgnpimaa
namespace Go.Proofs.Ytaicmiadgnpimaa
open Go.RowKit

theorem find_findIdx {α : Type} (q : α → Bool) : ∀ l : List α, l.find? q = l[l.findIdx q]?
 | [] => rfl
 | x :: t => by
  rw [List.find?_cons, List.findIdx_cons]
  cases h : q x <;> simp [find_findIdx q t]
theorem ixI_pos {α : Type} (p : α → Bool) (l : List α) (h : l.any p = true) : ∃ k, ∃ hk : k < l.length, l.findIdx p = k ∧ ixI p l = (k : Int) ∧ p l[k] = true := by
 have h1 : l.findIdx p < l.length := List.findIdx_lt_length.2 (by simpa using h)
 exact ⟨_, h1, rfl, by unfold ixI; rw [if_pos h1], List.findIdx_getElem (w := h1)⟩
theorem gone_some (p : Md.Pool) (cl : Int) (k : Nat) (hk : k < p.dials.length) (h : p.dials.findIdx (fun x => x.1 == cl) = k) : Md.gone p cl = p.dials[k].2 := by
 unfold Md.gone
 rw [find_findIdx, h, List.getElem?_eq_getElem hk]
 rfl
theorem gone_none (p : Md.Pool) (cl : Int) (h : p.dials.any (fun x => x.1 == cl) = false) : Md.gone p cl = false := by
 unfold Md.gone
 rw [List.find?_eq_none.2 (fun x hx => by rw [List.any_eq_false] at h; exact h x hx)]
 rfl
/-- What a cancelling is told. -/
def cancelE (p : Md.Pool) (cl : Int) : Int := if Md.hasLease p cl || Md.gone p cl then 9 else if !Md.hasDial p cl && !Md.hasWaiter p cl then 4 else 0
set_option maxHeartbeats 4000000 in
set_option maxRecDepth 100000 in
theorem uncancelled_any (S : Nat → Prop) (R G n cap b : Nat) (c : Md.Call) (s : Md.State) (es : List Md.Effect) (W : Nat → Prop) (ev : SlV) (pvs : List PoolV) (w : World) (h : RunV S R c s es W (some ⟨G, 0, none⟩, n, cap) ev pvs w) (hb : c.backend = (b : Int)) (hn : n = s.pools.length) (hbn : b < s.pools.length) (hf : PoolFit s.pools[b]) :
 Calls Try.prog 50 #[.pointer (some ⟨R, 0, none⟩)] w fun e w' => e = .returned (I64 (cancelE s.pools[b] c.call)) ∧ Below w.heap.size w w' := by
 have HP : Hid (∀ w1, Below w.heap.size w w1 → Calls Try.prog 67 #[.pointer (some ⟨R, 0, none⟩)] w1 fun e w' => e = .returned (.pointer (some ⟨G, b * 11, none⟩)) ∧ Below w.heap.size w w') := fun w1 hb1 =>
  (pool_any R G n cap b c s ev w1 (runCells_of (h.below hb1).blk) hb (by omega)).mono fun e w' q => ⟨q.1, hb1.trans (q.2.mono hb1.size)⟩
 have hse := h.seen hbn hf
 have HF : Hid (∀ w1, Below w.heap.size w w1 → Calls Try.prog 66 #[.pointer (some ⟨G, b * 11, none⟩), I64 c.call] w1 fun e w' => e = .returned (.tuple #[I64 (ixI (fun y => y.1 == c.call) s.pools[b].leases), I64 (ixI (fun y => y.1 == c.call) s.pools[b].dials), I64 (ixI (fun y => y.1 == c.call) s.pools[b].waiters)]) ∧ Below w.heap.size w w') := fun w1 hb1 =>
  (find_pool (hse.below hb1) c.call).mono fun e w' q => ⟨q.1, hb1.trans (q.2.mono hb1.size)⟩
 have HC : Hid (∀ w1, Below w.heap.size w w1 → w1.cell? ⟨R, 5, none⟩ = some (I64 c.call)) := fun w1 hb1 => (runCells_of (h.below hb1).blk).c5
 have HST := Lib.hid (Below.refl w.heap.size w)
 have e1 := ixI_neg (fun y => y.1 == c.call) s.pools[b].leases
 have e2 := ixI_neg (fun y => y.1 == c.call) s.pools[b].dials
 have p2 := ixI_pos (fun y => y.1 == c.call) s.pools[b].dials
 have e3 := ixI_neg (fun y => y.1 == c.call) s.pools[b].waiters
 have hgs := gone_some s.pools[b] c.call
 have hgn := gone_none s.pools[b] c.call
 have hbp : b < pvs.length := by rw [h.len]; exact hbn
 have hqd := (h.each b hbp hbn).dials.reads encDial_len
 have hcd : ∀ w1, Below w.heap.size w w1 → w1.cell? ⟨G, b * 11 + 6, none⟩ = some (valS pvs[b].vD) := fun w1 hb1 => ((h.below hb1).cells hbp).c6
 unfold cancelE Md.hasLease Md.hasDial Md.hasWaiter
 generalize Md.gone s.pools[b] c.call = g at hgs hgn ⊢
 generalize (s.pools[b].leases.any fun y => y.1 == c.call) = b1 at e1 ⊢
 generalize (s.pools[b].waiters.any fun y => y.1 == c.call) = b3 at e3 ⊢
 generalize ixI (fun y => y.1 == c.call) s.pools[b].leases = i1 at HF e1
 generalize ixI (fun y => y.1 == c.call) s.pools[b].waiters = i3 at HF e3
 generalize hi2 : ixI (fun y => y.1 == c.call) s.pools[b].dials = i2 at HF e2 p2
 generalize hb2' : (s.pools[b].dials.any fun y => y.1 == c.call) = b2 at e2 p2 hgn ⊢
 cases b1 with
 | true =>
  have i1p : 0 ≤ i1 := Int.not_lt.1 fun h => by simp at e1; omega
  rw [if_pos (by simp)]
  clear hse h hb hn hf e1 e2 e3 p2 hgs hgn hqd hcd hi2 hb2'
  generalize c.call = cl at HC HF
  go_enter Try.func50, Try.ntmps50
  go_wp2_with fail
  refine (HP.out _ HST.out).mono ?_
  rintro e w1 ⟨rfl, hb1⟩
  have c5 := HC.out w1 hb1
  go_wp2_with fail
  refine (HF.out _ hb1).mono ?_
  rintro e w2 ⟨rfl, hb2⟩
  go_wp2
  go_ret
  exact ⟨rfl, hb2⟩
 | false =>
  have i1n : i1 < 0 := e1.2 rfl
  cases b2 with
  | false =>
   have i2n : i2 < 0 := e2.2 rfl
   have hg := hgn rfl
   subst hg
   cases b3 with
   | true =>
    have i3p : 0 ≤ i3 := Int.not_lt.1 fun h => by simp at e3; omega
    rw [if_neg (by simp), if_neg (by simp)]
    clear hse h hb hn hf e1 e2 e3 p2 hgs hgn hqd hcd hi2 hb2'
    generalize c.call = cl at HC HF
    go_enter Try.func50, Try.ntmps50
    go_wp2_with fail
    refine (HP.out _ HST.out).mono ?_
    rintro e w1 ⟨rfl, hb1⟩
    have c5 := HC.out w1 hb1
    go_wp2_with fail
    refine (HF.out _ hb1).mono ?_
    rintro e w2 ⟨rfl, hb2⟩
    go_wp2
    go_ret
    exact ⟨rfl, hb2⟩
   | false =>
    have i3n : i3 < 0 := e3.2 rfl
    rw [if_neg (by simp), if_pos (by simp)]
    clear hse h hb hn hf e1 e2 e3 p2 hgs hgn hqd hcd hi2 hb2'
    generalize c.call = cl at HC HF
    go_enter Try.func50, Try.ntmps50
    go_wp2_with fail
    refine (HP.out _ HST.out).mono ?_
    rintro e w1 ⟨rfl, hb1⟩
    have c5 := HC.out w1 hb1
    go_wp2_with fail
    refine (HF.out _ hb1).mono ?_
    rintro e w2 ⟨rfl, hb2⟩
    go_wp2
    go_ret
    exact ⟨rfl, hb2⟩
  | true =>
   obtain ⟨k, hk, hk1, rfl, hpk⟩ := p2 rfl
   clear hpk
   have hg := hgs k hk hk1
   obtain ⟨gb, go, gc, hv, hlt, hc⟩ := hqd.form (by intro e; rw [e] at hk; simp at hk)
   have HD : Hid (∀ w1, Below w.heap.size w w1 → w1.cell? ⟨G, b * 11 + 6, none⟩ = some (.slice (some ⟨gb, go, none⟩) s.pools[b].dials.length gc) ∧ w1.cell? ⟨gb, go + k * 2 + 1, none⟩ = some (.bool g)) := fun w1 hb1 => by
    refine ⟨(hcd w1 hb1).trans (by rw [hv]), ?_⟩
    rw [hg]
    exact (hb1.cell (p := ⟨gb, _, none⟩) hlt).trans (hc k hk 1 (.bool s.pools[b].dials[k].2) rfl)
   clear hg hgs hgn
   have hkz : (k : Int) < (s.pools[b].dials.length : Int) := by omega
   clear hc hk
   generalize s.pools[b].dials.length = nd at hkz HD
   cases g with
   | true =>
    rw [if_pos (by simp)]
    clear hse h hb hn hf e1 e2 e3 p2 hqd hcd hi2 hb2' hv hlt hk1
    generalize c.call = cl at HC HF
    go_enter Try.func50, Try.ntmps50
    go_wp2_with fail
    refine (HP.out _ HST.out).mono ?_
    rintro e w1 ⟨rfl, hb1⟩
    have c5 := HC.out w1 hb1
    go_wp2_with fail
    refine (HF.out _ hb1).mono ?_
    rintro e w2 ⟨rfl, hb2⟩
    obtain ⟨d1, d2⟩ := HD.out w2 hb2
    go_wp2
    go_ret
    exact ⟨rfl, hb2⟩
   | false =>
    rw [if_neg (by simp), if_neg (by simp)]
    clear hse h hb hn hf e1 e2 e3 p2 hqd hcd hi2 hb2' hv hlt hk1
    generalize c.call = cl at HC HF
    go_enter Try.func50, Try.ntmps50
    go_wp2_with fail
    refine (HP.out _ HST.out).mono ?_
    rintro e w1 ⟨rfl, hb1⟩
    have c5 := HC.out w1 hb1
    go_wp2_with fail
    refine (HF.out _ hb1).mono ?_
    rintro e w2 ⟨rfl, hb2⟩
    obtain ⟨d1, d2⟩ := HD.out w2 hb2
    go_wp2
    go_ret
    exact ⟨rfl, hb2⟩
end Go.Proofs.Ytaicmiadgnpimaa
