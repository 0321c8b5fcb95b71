/-
  Walks for layer 26 (model): the backend of a run's call; effects.
-/
import Derived.Test.YtaicmiadgnpimaaMdRun
import Derived.Test.YtaicmiadgnpimaaMdLib
import Derived.WalkKit
import Derived.BigQuiet
import Derived.Lib.Hide
import Derived.Deep.QuietTactic
import Derived.Deep.RegionHeld3
import Derived.IntWalk
import Derived.Test.YtaicmiadgnpimaaMw5
namespace Go.Proofs.Ytaicmiadgnpimaa
open Go.RowKit

/-- The cells of a run's block. -/
structure RunCells (w : World) (R : Nat) (c : Md.Call) (s : Md.State) (vp ev : SlV) : Prop where
 lt : R < w.heap.size
 c0 : w.cell? ⟨R, 0, none⟩ = some (I64 s.now)
 c1 : w.cell? ⟨R, 1, none⟩ = some (.bool s.shut)
 c2 : w.cell? ⟨R, 2, none⟩ = some (valS vp)
 c3 : w.cell? ⟨R, 3, none⟩ = some (I64 c.kind)
 c4 : w.cell? ⟨R, 4, none⟩ = some (I64 c.backend)
 c5 : w.cell? ⟨R, 5, none⟩ = some (I64 c.call)
 c6 : w.cell? ⟨R, 6, none⟩ = some (I64 c.conn)
 c7 : w.cell? ⟨R, 7, none⟩ = some (I64 c.time)
 c8 : w.cell? ⟨R, 8, none⟩ = some (.bool c.yes)
 c9 : w.cell? ⟨R, 9, none⟩ = some (I64 c.skip)
 c10 : w.cell? ⟨R, 10, none⟩ = some (I64 c.breaker)
 c11 : w.cell? ⟨R, 11, none⟩ = some (valS ev)
 fr : ∀ i, w.frozen? ⟨R, i, none⟩ = false
theorem runCells_of {w : World} {R : Nat} {c : Md.Call} {s : Md.State} {vp ev : SlV} (h : w.heap[R]? = some (.cells (runCells s c vp ev) 112 (0, 0))) : RunCells w R c s vp ev :=
 ⟨(Array.getElem?_eq_some_iff.1 h).1, blk_cell h 0, blk_cell h 1, blk_cell h 2, blk_cell h 3, blk_cell h 4, blk_cell h 5, blk_cell h 6, blk_cell h 7, blk_cell h 8, blk_cell h 9, blk_cell h 10, blk_cell h 11, blk_free h⟩

set_option maxRecDepth 100000 in
theorem pool_any (R G n cap b : Nat) (c : Md.Call) (s : Md.State) (ev : SlV) (w : World) (h : RunCells w R c s (some ⟨G, 0, none⟩, n, cap) ev) (hb : c.backend = (b : Int)) (hn : b < n) :
 Calls Try.prog 67 #[.pointer (some ⟨R, 0, none⟩)] w fun e w' => e = .returned (.pointer (some ⟨G, b * 11, none⟩)) ∧ Below w.heap.size w w' := by
 obtain ⟨_, _, _, c2, _, c4, _, _, _, _, _, _, _, _⟩ := h
 rw [hb] at c4
 unfold valS at c2
 dsimp only at c2
 have i1 : (b : Int) < (n : Int) := by omega
 clear hb
 go_enter Try.func67, Try.ntmps67
 go_wp2
 go_quiet (fail)
 go_wp2
 go_ret
 exact ⟨by simp, below_drewN (Below.refl _ _) _⟩
theorem cells_new {α : Type} {enc : α → List Value} (w : World) (f : α) (cs : Array Value) (T : TypeId) (he : cs.toList = enc f) : ∀ i u, (enc f)[i]? = some u → (w.alloc (.cells cs T)).cell? ⟨w.heap.size, i, none⟩ = some u := by
 intro i u hu
 rw [blk_cell (blk_new w _) i, ← Array.getElem?_toList, he]
 exact hu
set_option maxRecDepth 100000 in
theorem effect_any (S : Nat → Prop) (R : Nat) (c : Md.Call) (s : Md.State) (es : List Md.Effect) (W : Nat → Prop) (vp ev : SlV) (pvs : List PoolV) (k b cl cn : Int) (w : World) (h : RunV S R c s es W vp ev pvs w) (hl : es.length ≤ 1000000) :
 Calls Try.prog 77 #[.pointer (some ⟨R, 0, none⟩), I64 k, I64 b, I64 cl, I64 cn] w fun e w' => e = .returned (.tuple #[]) ∧ (∃ ev', RunV S R c s (es ++ [(k, b, cl, cn)]) W vp ev' pvs w') ∧ Gb S w w' := by
 have hc := runCells_of h.blk
 have hb0 := (Below.refl w.heap.size w).alloc (Nat.le_refl _) (.cells #[I64 k, I64 b, I64 cl, I64 cn] 51)
 have h0 := h.below hb0
 have H0 := Lib.hid h0
 have HNEW := Lib.hid (cells_new (enc := encEff) w (k, b, cl, cn) #[I64 k, I64 b, I64 cl, I64 cn] 51 rfl)
 have HF : Hid (∀ w1, (w.alloc (.cells #[I64 k, I64 b, I64 cl, I64 cn] 51)).grownBy w1 (obS ev) → RunCells w1 R c s vp ev) := fun w1 hg => runCells_of (h0.blk_kept hg (fun e => by
  have := h.sep 0 2 R (by simp [owns]) (by simp [owns]; exact e.symm)
  omega))
 have c11 := hc.c11
 have hlt := hc.lt
 clear hc h h0 hb0
 go_enter Try.func77, Try.ntmps77
 go_wp2_with (at_builtin; refine appL_own elEff _ rfl _ _ rfl 0 (valS ev) es (k, b, cl, cn) rfl H0.out.effs w.heap.size 1 rfl HNEW.out (by unfold maxLen; omega) (by omega) (Nat.zero_le _) ?_; rintro g' c' w1 hown hgr hat; rw [valS_own] at hgr hat; have q := HF.out w1 hgr; have k11 := q.c11; have f11 := q.fr 11; clear q)
 go_end0
 have hR : S R := H0.out.sub R (by simp [owns])
 refine ⟨rfl, ⟨(some ⟨g', 0, none⟩, es.length + 1, c'), H0.out.setE hgr (u := (some ⟨g', 0, none⟩, es.length + 1, c')) hown ?_⟩, ?_⟩
 · rcases hat with e | e
   · exact .inl e
   · refine .inr fun k' hk => ?_
     injection hk with hk
     exact Nat.le_of_eq (e.symm.trans hk)
 · refine ((((Gb.refl S w).alloc _).trans (.of_grown hgr fun k' hk => H0.out.sub k' ?_))).setCell hR _
   rw [← hk]
   simp [owns]
end Go.Proofs.Ytaicmiadgnpimaa
namespace Go.Proofs.Ytaicmiadgnpimaa
open Go.RowKit

def cmpI (a b : Int) : Int := if a < b then -1 else if b < a then 1 else 0
theorem isNaN_any (a : Int) (w : World) : Calls Try.prog 104 #[I64 a] w fun e w' => e = .returned (.bool false) ∧ w' = w := by
 go_enter Try.func104, Try.ntmps104
 go_wp2
 go_ret
 exact ⟨by simp, rfl⟩
theorem compare_any (a b : Int) (w : World) : Calls Try.prog 99 #[I64 a, I64 b] w fun e w' => e = .returned (I64 (cmpI a b)) ∧ w' = w := by
 by_cases h1 : a < b
 · have HX := Lib.hid (show cmpI a b = -1 from by simp [cmpI, h1])
   go_enter Try.func99, Try.ntmps99
   go_wp2_with (go_at_call 104; refine (isNaN_any _ _).mono ?_; rintro e w' ⟨rfl, rfl⟩)
   go_ret
   exact ⟨by rw [HX.out]; rfl, rfl⟩
 · by_cases h2 : b < a
   · have HX := Lib.hid (show cmpI a b = 1 from by simp [cmpI, h1, h2])
     go_enter Try.func99, Try.ntmps99
     go_wp2_with (go_at_call 104; refine (isNaN_any _ _).mono ?_; rintro e w' ⟨rfl, rfl⟩)
     go_ret
     exact ⟨by rw [HX.out]; rfl, rfl⟩
   · have HX := Lib.hid (show cmpI a b = 0 from by simp [cmpI, h1, h2])
     go_enter Try.func99, Try.ntmps99
     go_wp2_with (go_at_call 104; refine (isNaN_any _ _).mono ?_; rintro e w' ⟨rfl, rfl⟩)
     go_ret
     exact ⟨by rw [HX.out]; rfl, rfl⟩
theorem cmpI_neg (a b : Int) : (cmpI a b < 0) = (a < b) := by
 unfold cmpI
 split
 · rename_i h; simp [h]
 · rename_i h; split <;> simp [h]
theorem takeWhile_len {α : Type} (p : α → Bool) (l : List α) (i : Nat) (hi : i ≤ l.length) (h1 : ∀ j (hj : j < l.length), j < i → p l[j] = true) (h2 : ∀ j (hj : j < l.length), i ≤ j → p l[j] = false) : (l.takeWhile p).length = i ∧ l.takeWhile p = l.take i ∧ l.dropWhile p = l.drop i := by
 induction l generalizing i with
 | nil => simp at hi; subst hi; simp
 | cons x l ih =>
  cases i with
  | zero =>
   have := h2 0 (by simp) (Nat.zero_le _)
   simp only [List.getElem_cons_zero] at this
   simp [this]
  | succ i =>
   have hx := h1 0 (by simp) (by omega)
   simp only [List.getElem_cons_zero] at hx
   obtain ⟨a, b, c⟩ := ih i (by simpa using hi) (fun j hj hji => by
    have := h1 (j + 1) (by simpa using hj) (by omega)
    simpa using this) (fun j hj hji => by
    have := h2 (j + 1) (by simpa using hj) (by omega)
    simpa using this)
   exact ⟨by simp [hx, a], by simp [hx, b], by simp [hx, c]⟩
def valLease (y : Md.Lease) : Value := .agg #[I64 y.1, I64 y.2.1, I64 y.2.2]
theorem byCall_any (y : Md.Lease) (t : Int) (w : World) : Calls Try.prog 88 #[valLease y, I64 t] w fun e w' => e = .returned (I64 (cmpI y.1 t)) ∧ Below w.heap.size w w' := by
 have HB := Lib.hid ((Below.refl w.heap.size w).alloc (Nat.le_refl _) (.cells #[I64 y.1, I64 y.2.1, I64 y.2.2] 69))
 unfold valLease
 go_enter Try.func88, Try.ntmps88
 go_wp2_with (go_at_call 99; refine (compare_any _ _ _).mono ?_; rintro e w' ⟨rfl, rfl⟩)
 go_ret
 exact ⟨rfl, HB.out⟩
set_option maxHeartbeats 4000000 in
set_option maxRecDepth 100000 in
theorem bsLease_any (u : SlV) (l : List Md.Lease) (t : Int) (w : World) (h : ReadsL 3 encLease w (valS u) l) (hs : ∀ a b (ha : a < l.length) (hb : b < l.length), a ≤ b → l[b].1 < t → l[a].1 < t) (hl : l.length ≤ 1000000) :
 Calls Try.prog 87 #[valS u, I64 t, .func (.func 88) #[] #[]] w fun e w' => ∃ f, e = .returned (.tuple #[I64 (l.takeWhile (fun y => decide (y.1 < t))).length, .bool f]) ∧ Below w.heap.size w w' := by
 have HE : Hid (∀ i, i ≤ l.length → (∀ j (hj : j < l.length), j < i → l[j].1 < t) → (∀ j (hj : j < l.length), i ≤ j → t ≤ l[j].1) → (l.takeWhile (fun y => decide (y.1 < t))).length = i) := fun i hi h1 h2 =>
  (takeWhile_len (fun y : Md.Lease => decide (y.1 < t)) l i hi (fun j hj hji => decide_eq_true (h1 j hj hji)) (fun j hj hji => decide_eq_false (by have := h2 j hj hji; omega))).1
 generalize (l.takeWhile (fun y => decide (y.1 < t))).length = cnt at HE ⊢
 by_cases hne : l = []
 · subst hne
   obtain ⟨a, cap, hv⟩ := h.len
   rw [hv]
   have e0 := HE.out 0 (Nat.zero_le _) (fun j hj => absurd hj (by simp)) (fun j hj => absurd hj (by simp))
   subst e0
   clear hv h hs HE
   go_enter Try.func87, Try.ntmps87
   go_wp2
   go_loopw [9, 10] (fun iv jv wr => iv = .int .i64 0 ∧ jv = .int .i64 0 ∧ wr = w) (fun _ _ _ => 0)
   case atStart => exact ⟨rfl, rfl, rfl⟩
   case round =>
    obtain ⟨rfl, rfl, rfl⟩ := hrel
    go_wp2
    go_ret2
    exact ⟨false, rfl, Below.refl _ _⟩
 · obtain ⟨b, o, cap, hv, hb, hc⟩ := h.form hne
   rw [hv]
   have HC : Hid (∀ w1, Below w.heap.size w w1 → ∀ q (hq : q < l.length), w1.cell? ⟨b, o + q * 3, none⟩ = some (I64 l[q].1) ∧ w1.cell? ⟨b, o + q * 3 + 1, none⟩ = some (I64 l[q].2.1) ∧ w1.cell? ⟨b, o + q * 3 + 2, none⟩ = some (I64 l[q].2.2)) := fun w1 hb1 q hq => by
    have e : ∀ i x, (encLease l[q])[i]? = some x → w1.cell? ⟨b, o + q * 3 + i, none⟩ = some x := fun i x hx => (hb1.cell (p := ⟨b, _, none⟩) hb).trans (hc q hq i x hx)
    exact ⟨e 0 _ rfl, e 1 _ rfl, e 2 _ rfl⟩
   have HBY : Hid (∀ (y : Md.Lease) (w1 : World), Calls Try.prog 88 #[.agg #[I64 y.1, I64 y.2.1, I64 y.2.2], I64 t] w1 fun e w' => e = .returned (I64 (cmpI y.1 t)) ∧ Below w1.heap.size w1 w') := fun y w1 => byCall_any y t w1
   have HS := Lib.hid hs
   have HST := Lib.hid (Below.refl w.heap.size w)
   obtain ⟨n, hn⟩ : ∃ n, n = l.length := ⟨_, rfl⟩
   have HN := Lib.hid hn
   rw [← hn] at hl ⊢
   clear hv hb hc h hs hne hn
   go_enter Try.func87, Try.ntmps87
   go_wp2
   go_loopw [9, 10] (fun iv jv wr => ∃ lo hi : Nat, iv = .int .i64 lo ∧ jv = .int .i64 hi ∧ lo ≤ hi ∧ hi ≤ n ∧ Hid (Below w.heap.size w wr) ∧ Hid ((∀ j (hj : j < l.length), j < lo → l[j].1 < t) ∧ (∀ j (hj : j < l.length), hi ≤ j → t ≤ l[j].1))) (fun iv jv _ => (intOf jv).toNat - (intOf iv).toNat)
   case atStart => exact ⟨0, n, rfl, rfl, Nat.zero_le _, Nat.le_refl _, HST, fun j hj h => absurd h (Nat.not_lt_zero _), fun j hj h => absurd (Nat.lt_of_lt_of_le hj (HN.out ▸ h)) (Nat.lt_irrefl _)⟩
   case round =>
    obtain ⟨lo, hi, rfl, rfl, hlh, hin, hbr, HI⟩ := hrel
    by_cases hlt : lo < hi
    · have hq : (lo + hi) / 2 < l.length := by rw [← HN.out]; omega
      have hcc := HC.out wr hbr.out ((lo + hi) / 2) hq
      obtain ⟨y, hy⟩ : ∃ y, y = l[(lo + hi) / 2] := ⟨_, rfl⟩
      rw [← hy] at hcc
      have HY := Lib.hid hy
      clear hy
      have hby := HBY.out y wr
      obtain ⟨yc, y1, y2⟩ := y
      dsimp only at hcc hby HY
      obtain ⟨p0, p1, p2⟩ := hcc
      by_cases hyx : yc < t
      · have hx1 : cmpI yc t < 0 := by rw [cmpI_neg]; exact hyx
        generalize cmpI yc t = z at hby hx1
        have HYX : Hid (yc < t) := hyx
        clear hyx
        go_wp2_with fail
        refine hby.mono ?_
        rintro e w' ⟨rfl, hx⟩
        go_wp2
        case roundEnd =>
         refine ⟨⟨(lo + hi) / 2 + 1, hi, by rw [show ((lo : Int) + (hi : Int)) / 2 + 1 = (((lo + hi) / 2 + 1 : Nat) : Int) by omega], rfl, by omega, hin, Lib.hid (hbr.out.trans (hx.mono hbr.out.size)), ⟨fun j hj hjl => HS.out j ((lo + hi) / 2) hj hq (by omega) (by rw [← HY.out]; exact HYX.out), HI.out.2⟩⟩, ?_⟩
         simp [intOf]
         omega
      · have hx1 : ¬ cmpI yc t < 0 := by rw [cmpI_neg]; exact hyx
        generalize cmpI yc t = z at hby hx1
        have HYX : Hid (¬ yc < t) := hyx
        clear hyx
        go_wp2_with fail
        refine hby.mono ?_
        rintro e w' ⟨rfl, hx⟩
        go_wp2
        case roundEnd =>
         refine ⟨⟨lo, (lo + hi) / 2, rfl, by rw [show ((lo : Int) + (hi : Int)) / 2 = (((lo + hi) / 2 : Nat) : Int) by omega], by omega, by omega, Lib.hid (hbr.out.trans (hx.mono hbr.out.size)), ⟨HI.out.1, fun j hj hjl => Int.not_lt.1 fun hlt2 => by
          have h8 := HS.out ((lo + hi) / 2) j hq hj hjl hlt2
          rw [← HY.out] at h8
          have h9 := HYX.out
          dsimp only at h8
          omega⟩⟩, ?_⟩
         simp [intOf]
         omega
    · obtain rfl : hi = lo := by omega
      have ecnt := HE.out hi (by rw [← HN.out]; exact hin) HI.out.1 HI.out.2
      subst ecnt
      by_cases hcn : cnt < n
      · have hq : cnt < l.length := by rw [← HN.out]; exact hcn
        have hcc := HC.out wr hbr.out cnt hq
        generalize l[cnt] = y at hcc
        have hby := HBY.out y wr
        obtain ⟨yc, y1, y2⟩ := y
        dsimp only at hcc hby
        obtain ⟨p0, p1, p2⟩ := hcc
        generalize cmpI yc t = z at hby
        cases hz : (z == 0) with
        | true =>
         go_wp2_with fail
         refine hby.mono ?_
         rintro e w' ⟨rfl, hx⟩
         go_wp2
         go_ret2
         exact ⟨_, rfl, hbr.out.trans (hx.mono hbr.out.size)⟩
        | false =>
         go_wp2_with fail
         refine hby.mono ?_
         rintro e w' ⟨rfl, hx⟩
         go_wp2
         go_ret2
         exact ⟨_, rfl, hbr.out.trans (hx.mono hbr.out.size)⟩
      · go_wp2
        go_ret2
        exact ⟨_, rfl, hbr.out⟩
def valDial (y : Md.Dial) : Value := .agg #[I64 y.1, .bool y.2]
theorem byDial_any (y : Md.Dial) (t : Int) (w : World) : Calls Try.prog 91 #[valDial y, I64 t] w fun e w' => e = .returned (I64 (cmpI y.1 t)) ∧ Below w.heap.size w w' := by
 have HB := Lib.hid ((Below.refl w.heap.size w).alloc (Nat.le_refl _) (.cells #[I64 y.1, .bool y.2] 66))
 unfold valDial
 go_enter Try.func91, Try.ntmps91
 go_wp2_with (go_at_call 99; refine (compare_any _ _ _).mono ?_; rintro e w' ⟨rfl, rfl⟩)
 go_ret
 exact ⟨rfl, HB.out⟩
set_option maxHeartbeats 4000000 in
set_option maxRecDepth 100000 in
theorem bsDial_any (u : SlV) (l : List Md.Dial) (t : Int) (w : World) (h : ReadsL 2 encDial w (valS u) l) (hs : ∀ a b (ha : a < l.length) (hb : b < l.length), a ≤ b → l[b].1 < t → l[a].1 < t) (hl : l.length ≤ 1000000) :
 Calls Try.prog 90 #[valS u, I64 t, .func (.func 91) #[] #[]] w fun e w' => ∃ f, e = .returned (.tuple #[I64 (l.takeWhile (fun y => decide (y.1 < t))).length, .bool f]) ∧ Below w.heap.size w w' := by
 have HE : Hid (∀ i, i ≤ l.length → (∀ j (hj : j < l.length), j < i → l[j].1 < t) → (∀ j (hj : j < l.length), i ≤ j → t ≤ l[j].1) → (l.takeWhile (fun y => decide (y.1 < t))).length = i) := fun i hi h1 h2 =>
  (takeWhile_len (fun y : Md.Dial => decide (y.1 < t)) l i hi (fun j hj hji => decide_eq_true (h1 j hj hji)) (fun j hj hji => decide_eq_false (by have := h2 j hj hji; omega))).1
 generalize (l.takeWhile (fun y => decide (y.1 < t))).length = cnt at HE ⊢
 by_cases hne : l = []
 · subst hne
   obtain ⟨a, cap, hv⟩ := h.len
   rw [hv]
   have e0 := HE.out 0 (Nat.zero_le _) (fun j hj => absurd hj (by simp)) (fun j hj => absurd hj (by simp))
   subst e0
   clear hv h hs HE
   go_enter Try.func90, Try.ntmps90
   go_wp2
   go_loopw [9, 10] (fun iv jv wr => iv = .int .i64 0 ∧ jv = .int .i64 0 ∧ wr = w) (fun _ _ _ => 0)
   case atStart => exact ⟨rfl, rfl, rfl⟩
   case round =>
    obtain ⟨rfl, rfl, rfl⟩ := hrel
    go_wp2
    go_ret2
    exact ⟨false, rfl, Below.refl _ _⟩
 · obtain ⟨b, o, cap, hv, hb, hc⟩ := h.form hne
   rw [hv]
   have HC : Hid (∀ w1, Below w.heap.size w w1 → ∀ q (hq : q < l.length), w1.cell? ⟨b, o + q * 2, none⟩ = some (I64 l[q].1) ∧ w1.cell? ⟨b, o + q * 2 + 1, none⟩ = some (.bool l[q].2)) := fun w1 hb1 q hq => by
    have e : ∀ i x, (encDial l[q])[i]? = some x → w1.cell? ⟨b, o + q * 2 + i, none⟩ = some x := fun i x hx => (hb1.cell (p := ⟨b, _, none⟩) hb).trans (hc q hq i x hx)
    exact ⟨e 0 _ rfl, e 1 _ rfl⟩
   have HBY : Hid (∀ (y : Md.Dial) (w1 : World), Calls Try.prog 91 #[.agg #[I64 y.1, .bool y.2], I64 t] w1 fun e w' => e = .returned (I64 (cmpI y.1 t)) ∧ Below w1.heap.size w1 w') := fun y w1 => byDial_any y t w1
   have HS := Lib.hid hs
   have HST := Lib.hid (Below.refl w.heap.size w)
   obtain ⟨n, hn⟩ : ∃ n, n = l.length := ⟨_, rfl⟩
   have HN := Lib.hid hn
   rw [← hn] at hl ⊢
   clear hv hb hc h hs hne hn
   go_enter Try.func90, Try.ntmps90
   go_wp2
   go_loopw [9, 10] (fun iv jv wr => ∃ lo hi : Nat, iv = .int .i64 lo ∧ jv = .int .i64 hi ∧ lo ≤ hi ∧ hi ≤ n ∧ Hid (Below w.heap.size w wr) ∧ Hid ((∀ j (hj : j < l.length), j < lo → l[j].1 < t) ∧ (∀ j (hj : j < l.length), hi ≤ j → t ≤ l[j].1))) (fun iv jv _ => (intOf jv).toNat - (intOf iv).toNat)
   case atStart => exact ⟨0, n, rfl, rfl, Nat.zero_le _, Nat.le_refl _, HST, fun j hj h => absurd h (Nat.not_lt_zero _), fun j hj h => absurd (Nat.lt_of_lt_of_le hj (HN.out ▸ h)) (Nat.lt_irrefl _)⟩
   case round =>
    obtain ⟨lo, hi, rfl, rfl, hlh, hin, hbr, HI⟩ := hrel
    by_cases hlt : lo < hi
    · have hq : (lo + hi) / 2 < l.length := by rw [← HN.out]; omega
      have hcc := HC.out wr hbr.out ((lo + hi) / 2) hq
      obtain ⟨y, hy⟩ : ∃ y, y = l[(lo + hi) / 2] := ⟨_, rfl⟩
      rw [← hy] at hcc
      have HY := Lib.hid hy
      clear hy
      have hby := HBY.out y wr
      obtain ⟨yc, y1⟩ := y
      dsimp only at hcc hby HY
      obtain ⟨p0, p1⟩ := hcc
      by_cases hyx : yc < t
      · have hx1 : cmpI yc t < 0 := by rw [cmpI_neg]; exact hyx
        generalize cmpI yc t = z at hby hx1
        have HYX : Hid (yc < t) := hyx
        clear hyx
        go_wp2_with fail
        refine hby.mono ?_
        rintro e w' ⟨rfl, hx⟩
        go_wp2
        case roundEnd =>
         refine ⟨⟨(lo + hi) / 2 + 1, hi, by rw [show ((lo : Int) + (hi : Int)) / 2 + 1 = (((lo + hi) / 2 + 1 : Nat) : Int) by omega], rfl, by omega, hin, Lib.hid (hbr.out.trans (hx.mono hbr.out.size)), ⟨fun j hj hjl => HS.out j ((lo + hi) / 2) hj hq (by omega) (by rw [← HY.out]; exact HYX.out), HI.out.2⟩⟩, ?_⟩
         simp [intOf]
         omega
      · have hx1 : ¬ cmpI yc t < 0 := by rw [cmpI_neg]; exact hyx
        generalize cmpI yc t = z at hby hx1
        have HYX : Hid (¬ yc < t) := hyx
        clear hyx
        go_wp2_with fail
        refine hby.mono ?_
        rintro e w' ⟨rfl, hx⟩
        go_wp2
        case roundEnd =>
         refine ⟨⟨lo, (lo + hi) / 2, rfl, by rw [show ((lo : Int) + (hi : Int)) / 2 = (((lo + hi) / 2 : Nat) : Int) by omega], by omega, by omega, Lib.hid (hbr.out.trans (hx.mono hbr.out.size)), ⟨HI.out.1, fun j hj hjl => Int.not_lt.1 fun hlt2 => by
          have h8 := HS.out ((lo + hi) / 2) j hq hj hjl hlt2
          rw [← HY.out] at h8
          have h9 := HYX.out
          dsimp only at h8
          omega⟩⟩, ?_⟩
         simp [intOf]
         omega
    · obtain rfl : hi = lo := by omega
      have ecnt := HE.out hi (by rw [← HN.out]; exact hin) HI.out.1 HI.out.2
      subst ecnt
      by_cases hcn : cnt < n
      · have hq : cnt < l.length := by rw [← HN.out]; exact hcn
        have hcc := HC.out wr hbr.out cnt hq
        generalize l[cnt] = y at hcc
        have hby := HBY.out y wr
        obtain ⟨yc, y1⟩ := y
        dsimp only at hcc hby
        obtain ⟨p0, p1⟩ := hcc
        generalize cmpI yc t = z at hby
        cases hz : (z == 0) with
        | true =>
         go_wp2_with fail
         refine hby.mono ?_
         rintro e w' ⟨rfl, hx⟩
         go_wp2
         go_ret2
         exact ⟨_, rfl, hbr.out.trans (hx.mono hbr.out.size)⟩
        | false =>
         go_wp2_with fail
         refine hby.mono ?_
         rintro e w' ⟨rfl, hx⟩
         go_wp2
         go_ret2
         exact ⟨_, rfl, hbr.out.trans (hx.mono hbr.out.size)⟩
      · go_wp2
        go_ret2
        exact ⟨_, rfl, hbr.out⟩
end Go.Proofs.Ytaicmiadgnpimaa
namespace Go.Proofs.Ytaicmiadgnpimaa
open Go.RowKit

theorem pair_mono {α : Type} (key : α → Int) {l : List α} (h : l.Pairwise (fun x y => key x < key y)) (t : Int) : ∀ a b (ha : a < l.length) (hb : b < l.length), a ≤ b → key l[b] < t → key l[a] < t := by
 intro a b ha hb hab hk
 rcases Nat.lt_or_ge a b with hlt | hge
 · have := List.pairwise_iff_getElem.1 h a b ha hb hlt
   omega
 · obtain rfl : a = b := by omega
   exact hk
theorem take_while_at {α : Type} (p : α → Bool) (l : List α) : l.takeWhile p = l.take (l.takeWhile p).length ∧ l.dropWhile p = l.drop (l.takeWhile p).length := by
 have h := List.takeWhile_append_dropWhile (p := p) (l := l)
 constructor
 · have h2 := congrArg (List.take (l.takeWhile p).length) h
   rw [List.take_left] at h2
   exact h2
 · have h2 := congrArg (List.drop (l.takeWhile p).length) h
   rw [List.drop_left] at h2
   exact h2
def setP (s : Md.State) (b : Nat) (p : Md.Pool) : Md.State := { s with pools := s.pools.set b p }
set_option maxHeartbeats 4000000 in
set_option maxRecDepth 100000 in
theorem dial_any (S : Nat → Prop) (R G n cap b : Nat) (c : Md.Call) (s : Md.State) (es : List Md.Effect) (W : Nat → Prop) (ev : SlV) (pvs : List PoolV) (cl : Int) (w : World) (h : RunV S R c s es W (some ⟨G, 0, none⟩, n, cap) ev pvs w) (hb : c.backend = (b : Int)) (hn : n = s.pools.length) (hbn : b < s.pools.length)
 (hs : List.Pairwise (fun (x y : Md.Dial) => x.1 < y.1) s.pools[b].dials) (hl : s.pools[b].dials.length ≤ 1000000) :
 Calls Try.prog 69 #[.pointer (some ⟨R, 0, none⟩), I64 cl] w fun e w' => e = .returned (.tuple #[]) ∧ (∃ pvs', RunV S R c (setP s b { s.pools[b] with dials := Md.insDial cl s.pools[b].dials }) es W (some ⟨G, 0, none⟩, n, cap) ev pvs' w') ∧ Gb S w w' := by
 have hbp : b < pvs.length := by rw [h.len]; exact hbn
 have hq := h.each b hbp hbn
 have HP := Lib.hid (pool_any R G n cap b c s ev w (runCells_of h.blk) hb (by omega))
 have HH := Lib.hid h
 have HBS : Hid (∀ w1, Below w.heap.size w w1 → Calls Try.prog 90 #[valS pvs[b].vD, I64 cl, .func (.func 91) #[] #[]] w1 fun e w' => ∃ f, e = .returned (.tuple #[I64 (s.pools[b].dials.takeWhile (fun y => decide (y.1 < cl))).length, .bool f]) ∧ Below w1.heap.size w1 w') := fun w1 hb1 =>
  bsDial_any pvs[b].vD _ cl w1 ((hq.dials.reads encDial_len).below hb1) (pair_mono (fun y : Md.Dial => y.1) hs cl) hl
 have HC : Hid (∀ w1, Below w.heap.size w w1 → w1.cell? ⟨G, b * 11 + 6, none⟩ = some (valS pvs[b].vD)) := fun w1 hb1 => ((h.below hb1).cells hbp).c6
 have HI : Hid (∀ w1, Below w.heap.size w w1 → Calls Try.prog 92 #[valS pvs[b].vD, I64 (s.pools[b].dials.takeWhile (fun y => decide (y.1 < cl))).length, .slice (some ⟨w1.heap.size, 0, none⟩) 1 1] (w1.alloc (.cells #[I64 cl, .bool false] 66)) fun e w' =>
  ∃ u', e = .returned (valS u') ∧ w'.cell? ⟨G, b * 11 + 6, none⟩ = some (valS pvs[b].vD) ∧ w'.frozen? ⟨G, b * 11 + 6, none⟩ = false ∧ (∃ pvs', RunV S R c (setP s b { s.pools[b] with dials := Md.insDial cl s.pools[b].dials }) es W (some ⟨G, 0, none⟩, n, cap) ev pvs' (w'.setCell ⟨G, b * 11 + 6, none⟩ (valS u'))) ∧ Gb S w (w'.setCell ⟨G, b * 11 + 6, none⟩ (valS u'))) := fun w1 hb1 => by
  have hal := (Below.refl w1.heap.size w1).alloc (Nat.le_refl _) (.cells #[I64 cl, .bool false] 66)
  have h1 := (h.below hb1).below hal
  have hq1 := h1.each b hbp hbn
  have hlt1 := (h.below hb1).lt
  have hmem : ∀ k, obS pvs[b].vD = some k → some k ∈ owns R (some ⟨G, 0, none⟩, n, cap) ev pvs := fun k hk => by
   unfold owns
   exact List.mem_cons_of_mem _ (List.mem_cons_of_mem _ (List.mem_cons_of_mem _ (mem_flat hbp (by rw [← hk]; simp [ob4]))))
  have htw := take_while_at (fun y : Md.Dial => decide (y.1 < cl)) s.pools[b].dials
  refine (insDial_any pvs[b].vD s.pools[b].dials _ (cl, false) w1.heap.size _ hq1.dials (by have := congrArg List.length htw.1; rw [List.length_take] at this; omega) 66 (blk_new w1 _) (fun e => absurd (hlt1 _ (hmem _ e)) (Nat.lt_irrefl _)) hl).mono ?_
  rintro e w' ⟨u', rfl, ho, hg, hu⟩
  rw [← htw.1, ← htw.2] at ho
  have hGne : some G ≠ obS pvs[b].vD := fun e => by
   refine (h.sep.row (k := G) rfl).2.2 b hbp ?_
   rw [e]
   simp [ob4]
  have hpc := (h1.cells hbp).kept hg hGne
  refine ⟨u', rfl, hpc.c6, hpc.fr 6, ⟨_, h1.setD hbp hbn hg ho hu⟩, ?_⟩
  have g1 : Gb S w (w1.alloc (.cells #[I64 cl, .bool false] 66)) := (Gb.of_below (S := S) (hb1.mono (Nat.le_refl _))).trans (.of_below hal)
  exact (g1.trans (.of_grown hg fun k hk => h.sub k (hmem k hk))).setCell (h.sub G (by simp [owns, obS])) _
 generalize (s.pools[b].dials.takeWhile (fun y => decide (y.1 < cl))).length = at0 at HBS HI
 generalize setP s b { s.pools[b] with dials := Md.insDial cl s.pools[b].dials } = s2 at HI ⊢
 obtain ⟨u, hu⟩ : ∃ u, u = pvs[b].vD := ⟨_, rfl⟩
 rw [← hu] at HBS HI HC
 obtain ⟨ua, un, uc⟩ := u
 unfold valS at HBS HI HC
 dsimp only at HBS HI HC
 clear hu hq hs hl hb hn h
 go_enter Try.func69, Try.ntmps69
 go_wp2_with fail
 refine HP.out.mono ?_
 rintro e w1 ⟨rfl, hb1⟩
 have c6 := HC.out w1 hb1
 go_wp2_with fail
 refine (HBS.out w1 hb1).mono ?_
 rintro e w2 ⟨f, rfl, hx⟩
 have hb2 := hb1.trans (hx.mono hb1.size)
 have c6b := HC.out w2 hb2
 clear hx hb1 c6
 go_wp2_with fail
 refine (HI.out w2 hb2).mono ?_
 rintro e w3 ⟨⟨va, vn, vc⟩, rfl, k6, f6, hR, hG⟩
 go_wp2
 go_end0
 exact ⟨rfl, hR, hG⟩
end Go.Proofs.Ytaicmiadgnpimaa
namespace Go.Proofs.Ytaicmiadgnpimaa
open Go.RowKit

theorem dropAt {α : Type} {l : List α} {i : Nat} {o : α} {r : List α} (h : l.drop i = o :: r) : l.toArray[i]? = some o := by
 have h1 := congrArg (·[0]?) h
 simpa [List.getElem?_drop] using h1
theorem pu2 {α : Type} (l : List α) (i : Nat) (a : α) : l.toArray.setIfInBounds i a = (l.set i a).toArray := List.setIfInBounds_toArray ..
theorem pu3 {α : Type} (x : α) (l : List α) (a : α) : (x :: l).set 0 a = a :: l := List.set_cons_zero ..
theorem pu4 {α : Type} (x : α) (l : List α) (n : Nat) (a : α) : (x :: l).set (n + 1) a = x :: l.set n a := List.set_cons_succ ..
/-- An operation that neither reads nor writes what others write is taken first. -/
theorem tk {P : Program} {ops : Array Oper} {Q : Exit → Act → World → Prop} {md : Region.Mode} {S : World → Prop} {oi : Oper} {v : Value} {fuel : Nat} {listed : Array Bool} {a : Act} {w : World} (i : Nat) (hi : ops[i]? = some oi)
 (hy : YieldsIf P ops S oi v a) (hS : S w) (h : wpAnyH P md ops Q S fuel (listed.setIfInBounds i true) (a.put oi.dst v) w) (hQ : ∀ c a w, Q (.panic c) (a.put oi.dst v) w → Q (.panic c) a w := by exact fun _ _ _ h => h)
 (hs : Region.noSelect ops = true := by kernel_rfl) (hf : Region.free md ops listed i = true := by kernel_rfl) (hr : (Region.ready md ops listed).contains i = true := by kernel_rfl) : wpAnyH P md ops Q S (fuel + 1) listed a w :=
 wpAnyH_take hi hs hf hr hQ hy hS h
def XSeen (X : Nat) (x : Md.Lease) (w : World) : Prop := w.cell? ⟨X, 0, none⟩ = some (I64 x.1) ∧ w.cell? ⟨X, 1, none⟩ = some (I64 x.2.1) ∧ w.cell? ⟨X, 2, none⟩ = some (I64 x.2.2)
theorem XSeen.grown {X : Nat} {x : Md.Lease} {w w' : World} {row : Option Nat} (h : XSeen X x w) (hg : w.grownBy w' row) (hn : some X ≠ row) : XSeen X x w' := by
 obtain ⟨h0, h1, h2⟩ := h
 have hl : X < w.heap.size := by
  rcases Nat.lt_or_ge X w.heap.size with h | h
  · exact h
  · simp [World.cell?, Array.getElem?_eq_none h] at h0
 have hc : ∀ i, w'.cell? ⟨X, i, none⟩ = w.cell? ⟨X, i, none⟩ := fun i => World.cell?_of_block (a := ⟨X, i, none⟩) (hg.block X hl hn)
 exact ⟨(hc _).trans h0, (hc _).trans h1, (hc _).trans h2⟩
theorem XSeen.below {X : Nat} {x : Md.Lease} {w w' : World} (h : XSeen X x w) (hb : Below w.heap.size w w') : XSeen X x w' :=
 h.grown (row := none) ⟨hb.os, hb.tape, hb.output, hb.size, fun k hk _ => hb.block k hk⟩ (by simp)
def LSeen (G o X : Nat) (a : Option Addr) (n c : Nat) (k : Int) (w : World) : Prop := w.cell? ⟨G, o, none⟩ = some (.slice a n c) ∧ w.cell? ⟨X, 0, none⟩ = some (I64 k)
set_option maxHeartbeats 4000000 in
set_option maxRecDepth 100000 in
set_option linter.unusedSimpArgs false in
theorem lease_any (S : Nat → Prop) (R G n cap b : Nat) (c : Md.Call) (s : Md.State) (es : List Md.Effect) (W : Nat → Prop) (ev : SlV) (pvs : List PoolV) (x : Md.Lease) (w : World) (h : RunV S R c s es W (some ⟨G, 0, none⟩, n, cap) ev pvs w) (hb : c.backend = (b : Int)) (hn : n = s.pools.length) (hbn : b < s.pools.length)
 (hs : List.Pairwise (fun (x y : Md.Lease) => x.1 < y.1) s.pools[b].leases) (hl : s.pools[b].leases.length ≤ 1000000) :
 Calls Try.prog 68 #[.pointer (some ⟨R, 0, none⟩), valLease x] w fun e w' => e = .returned (.tuple #[]) ∧ (∃ pvs', RunV S R c (setP s b { s.pools[b] with leases := Md.insLease x s.pools[b].leases }) es W (some ⟨G, 0, none⟩, n, cap) ev pvs' w') ∧ Gb S w w' := by
 have hbp : b < pvs.length := by rw [h.len]; exact hbn
 have hq := h.each b hbp hbn
 have hW0 := (Below.refl w.heap.size w).alloc (Nat.le_refl _) (.cells #[I64 x.1, I64 x.2.1, I64 x.2.2] 69)
 have HP := Lib.hid (pool_any R G n cap b c s ev _ (runCells_of (h.below hW0).blk) hb (by omega))
 have HB0 := Lib.hid hW0
 have HXX : Hid (∀ w1, Below (w.alloc (.cells #[I64 x.1, I64 x.2.1, I64 x.2.2] 69)).heap.size (w.alloc (.cells #[I64 x.1, I64 x.2.1, I64 x.2.2] 69)) w1 → XSeen w.heap.size x w1) := fun w1 hb1 => by
  have hblk := blk_new w (.cells #[I64 x.1, I64 x.2.1, I64 x.2.2] 69)
  have hlt : w.heap.size < (w.alloc (.cells #[I64 x.1, I64 x.2.1, I64 x.2.2] 69)).heap.size := by simp
  exact ⟨(hb1.cell (p := ⟨_, 0, none⟩) hlt).trans (blk_cell hblk 0), (hb1.cell (p := ⟨_, 1, none⟩) hlt).trans (blk_cell hblk 1), (hb1.cell (p := ⟨_, 2, none⟩) hlt).trans (blk_cell hblk 2)⟩
 have HH := Lib.hid h
 have HBS : Hid (∀ w1, Below w.heap.size w w1 → Calls Try.prog 87 #[valS pvs[b].vL, I64 x.1, .func (.func 88) #[] #[]] w1 fun e w' => ∃ f, e = .returned (.tuple #[I64 (s.pools[b].leases.takeWhile (fun y => decide (y.1 < x.1))).length, .bool f]) ∧ Below w1.heap.size w1 w') := fun w1 hb1 =>
  bsLease_any pvs[b].vL _ x.1 w1 ((hq.leases.reads encLease_len).below hb1) (pair_mono (fun y : Md.Lease => y.1) hs x.1) hl
 have HC : Hid (∀ w1, Below w.heap.size w w1 → w1.cell? ⟨G, b * 11 + 5, none⟩ = some (valS pvs[b].vL)) := fun w1 hb1 => ((h.below hb1).cells hbp).c5
 have HI : Hid (∀ w1, Below w.heap.size w w1 → XSeen w.heap.size x w1 → Calls Try.prog 89 #[valS pvs[b].vL, I64 (s.pools[b].leases.takeWhile (fun y => decide (y.1 < x.1))).length, .slice (some ⟨w1.heap.size, 0, none⟩) 1 1] (w1.alloc (.cells #[I64 x.1, I64 x.2.1, I64 x.2.2] 69)) fun e w' =>
  ∃ u', e = .returned (valS u') ∧ XSeen w.heap.size x w' ∧ w'.cell? ⟨G, b * 11 + 5, none⟩ = some (valS pvs[b].vL) ∧ w'.frozen? ⟨G, b * 11 + 5, none⟩ = false ∧ (∃ pvs', RunV S R c (setP s b { s.pools[b] with leases := Md.insLease x s.pools[b].leases }) es W (some ⟨G, 0, none⟩, n, cap) ev pvs' (w'.setCell ⟨G, b * 11 + 5, none⟩ (valS u'))) ∧ Gb S w (w'.setCell ⟨G, b * 11 + 5, none⟩ (valS u'))) := fun w1 hb1 hx1 => by
  have hal := (Below.refl w1.heap.size w1).alloc (Nat.le_refl _) (.cells #[I64 x.1, I64 x.2.1, I64 x.2.2] 69)
  have h1 := (h.below hb1).below hal
  have hq1 := h1.each b hbp hbn
  have hlt1 := (h.below hb1).lt
  have hmem : ∀ k, obS pvs[b].vL = some k → some k ∈ owns R (some ⟨G, 0, none⟩, n, cap) ev pvs := fun k hk => by
   unfold owns
   exact List.mem_cons_of_mem _ (List.mem_cons_of_mem _ (List.mem_cons_of_mem _ (mem_flat hbp (by rw [← hk]; simp [ob4]))))
  have htw := take_while_at (fun y : Md.Lease => decide (y.1 < x.1)) s.pools[b].leases
  refine (insLease_any pvs[b].vL s.pools[b].leases _ x w1.heap.size _ hq1.leases (by have := congrArg List.length htw.1; rw [List.length_take] at this; omega) 69 (blk_new w1 _) (fun e => absurd (hlt1 _ (hmem _ e)) (Nat.lt_irrefl _)) hl).mono ?_
  rintro e w' ⟨u', rfl, ho, hg, hu⟩
  rw [← htw.1, ← htw.2] at ho
  have hGne : some G ≠ obS pvs[b].vL := fun e => by
   refine (h.sep.row (k := G) rfl).2.2 b hbp ?_
   rw [e]
   simp [ob4]
  have hpc := (h1.cells hbp).kept hg hGne
  have hx2 := hx1.below hal
  have hwl : ∀ k, obS pvs[b].vL = some k → w.heap.size ≠ k := fun k hk e => absurd (h.lt k (hmem k hk)) (by omega)
  have hx3 : XSeen w.heap.size x w' := hx2.grown hg (fun e => hwl _ e.symm rfl)
  refine ⟨u', rfl, hx3, hpc.c5, hpc.fr 5, ⟨_, h1.setL hbp hbn hg ho hu⟩, ?_⟩
  have g1 : Gb S w (w1.alloc (.cells #[I64 x.1, I64 x.2.1, I64 x.2.2] 69)) := (Gb.of_below (S := S) (hb1.mono (Nat.le_refl _))).trans (.of_below hal)
  exact (g1.trans (.of_grown hg fun k hk => h.sub k (hmem k hk))).setCell (h.sub G (by simp [owns, obS])) _
 generalize (s.pools[b].leases.takeWhile (fun y => decide (y.1 < x.1))).length = at0 at HBS HI
 generalize setP s b { s.pools[b] with leases := Md.insLease x s.pools[b].leases } = s2 at HI ⊢
 obtain ⟨u, hu⟩ : ∃ u, u = pvs[b].vL := ⟨_, rfl⟩
 rw [← hu] at HBS HI HC
 obtain ⟨ua, un, uc⟩ := u
 unfold valS at HBS HI HC
 obtain ⟨xc, x1, x2⟩ := x
 unfold valLease
 dsimp only at HBS HI HC HP HB0 HXX ⊢
 have HGN : Hid (G ≠ w.heap.size) := fun e => absurd (h.lt G (by simp [owns, obS])) (by omega)
 clear hu hq hs hl hb hn h hW0
 go_enter Try.func68, Try.ntmps68
 go_wp2_with fail
 refine HP.out.mono ?_
 rintro e w1 ⟨rfl, hb1⟩
 go_wp2
 have hv1 := hb1.drew
 have hd1 := HB0.out.trans (hv1.mono (Nat.le_trans (Nat.le_refl _) HB0.out.size))
 have hL1 : LSeen G (b * 11 + 5) w.heap.size ua un uc xc w1.drew := ⟨HC.out _ hd1, (HXX.out _ hv1).1⟩
 refine wp_region_held_drew (S := LSeen G (b * 11 + 5) w.heap.size ua un uc xc) (by kernel_rfl) hL1 (fun hHeld => ?_)
 refine tk 0 (v := ?vv0_1) (dropAt rfl) (Or.inl ⟨by rfl, ?hv0_1⟩) hHeld ?rv0_1
 case hv0_1 => (intro w hSw; unfold LSeen at hSw; go_simp; first | done | with_reducible rfl)
 try simp only [Act.put, pu2, pu3, pu4]
 refine tk 1 (v := ?vv1_2) (dropAt rfl) (Or.inl ⟨by rfl, ?hv1_2⟩) hHeld ?rv1_2
 case hv1_2 => (intro w hSw; unfold LSeen at hSw; go_simp; first | done | with_reducible rfl)
 try simp only [Act.put, pu2, pu3, pu4]
 refine tk 2 (v := ?vv2_3) (dropAt rfl) (Or.inl ⟨by rfl, ?hv2_3⟩) hHeld ?rv2_3
 case hv2_3 => (intro w hSw; unfold LSeen at hSw; go_simp; first | done | with_reducible rfl)
 try simp only [Act.put, pu2, pu3, pu4]
 refine tk 3 (v := ?vv3_4) (dropAt rfl) (Or.inl ⟨by rfl, ?hv3_4⟩) hHeld ?rv3_4
 case hv3_4 => (intro w hSw; unfold LSeen at hSw; go_simp; first | done | with_reducible rfl)
 try simp only [Act.put, pu2, pu3, pu4]
 refine tk 4 (v := ?vv4_5) (dropAt rfl) (Or.inl ⟨by rfl, ?hv4_5⟩) hHeld ?rv4_5
 case hv4_5 => (intro w hSw; unfold LSeen at hSw; go_simp; first | done | with_reducible rfl)
 try simp only [Act.put, pu2, pu3, pu4]
 refine tk 5 (v := ?vv5_6) (dropAt rfl) (Or.inl ⟨by rfl, ?hv5_6⟩) hHeld ?rv5_6
 case hv5_6 => (intro w hSw; unfold LSeen at hSw; go_simp; first | done | with_reducible rfl)
 try simp only [Act.put, pu2, pu3, pu4]
 refine wpAnyH_ready (rs := [6]) (by kernel_rfl) (by simp) ?_
 refine AllReadyH.cons (o := _) (dropAt (r := _) rfl) (fun K hK => ?_) AllReadyH.nil
 go_simp
 refine (HBS.out _ hd1).mono ?_
 rintro e w2 ⟨f, rfl, hx⟩
 have hb2 := hd1.trans (hx.mono hd1.size)
 have hv2 := hv1.trans (hx.mono hv1.size)
 have hL2 : LSeen G (b * 11 + 5) w.heap.size ua un uc xc w2 := ⟨HC.out w2 hb2, (HXX.out w2 hv2).1⟩
 refine hK.out _ _ hL2 (fun hHeld2 => ?_)
 clear hK K hx
 try simp only [Act.put, pu2, pu3, pu4]
 refine tk 7 (v := ?vv7_7) (dropAt rfl) (Or.inl ⟨by rfl, ?hv7_7⟩) hHeld2 ?rv7_7
 case hv7_7 => (intro w hSw; unfold LSeen at hSw; go_simp; first | done | with_reducible rfl)
 try simp only [Act.put, pu2, pu3, pu4]
 refine tk 8 (v := ?vv8_8) (dropAt rfl) (Or.inl ⟨by rfl, ?hv8_8⟩) hHeld2 ?rv8_8
 case hv8_8 => (intro w hSw; unfold LSeen at hSw; go_simp; first | done | with_reducible rfl)
 try simp only [Act.put, pu2, pu3, pu4]
 refine tk 9 (v := ?vv9_9) (dropAt rfl) (Or.inl ⟨by rfl, ?hv9_9⟩) hHeld2 ?rv9_9
 case hv9_9 => (intro w hSw; unfold LSeen at hSw; go_simp; first | done | with_reducible rfl)
 try simp only [Act.put, pu2, pu3, pu4]
 refine tk 10 (v := ?vv10_10) (dropAt rfl) (Or.inl ⟨by rfl, ?hv10_10⟩) hHeld2 ?rv10_10
 case hv10_10 => (intro w hSw; unfold LSeen at hSw; go_simp; first | done | with_reducible rfl)
 try simp only [Act.put, pu2, pu3, pu4]
 refine tk 11 (v := ?vv11_11) (dropAt rfl) (Or.inl ⟨by rfl, ?hv11_11⟩) hHeld2 ?rv11_11
 case hv11_11 => (intro w hSw; unfold LSeen at hSw; go_simp; first | done | with_reducible rfl)
 try simp only [Act.put, pu2, pu3, pu4]
 refine wpAnyH_done (by kernel_rfl) ?_ _
 go_wp2
 have hd3 := hb2.drew
 have hc3 := HC.out _ hd3
 refine wp_region_held_drew (S := XSeen w.heap.size (xc, x1, x2)) (by kernel_rfl) (HXX.out _ hv2.drew) (fun hHeld3 => ?_)
 refine tk 0 (v := ?vv0_12) (dropAt rfl) (Or.inl ⟨by rfl, ?hv0_12⟩) hHeld3 ?rv0_12
 case hv0_12 => (intro w hSw; unfold XSeen at hSw; go_simp; first | done | with_reducible rfl)
 try simp only [Act.put, pu2, pu3, pu4]
 refine tk 1 (v := ?vv1_13) (dropAt rfl) (Or.inl ⟨by rfl, ?hv1_13⟩) hHeld3 ?rv1_13
 case hv1_13 => (intro w hSw; unfold XSeen at hSw; go_simp; first | done | with_reducible rfl)
 try simp only [Act.put, pu2, pu3, pu4]
 refine tk 2 (v := ?vv2_14) (dropAt rfl) (Or.inl ⟨by rfl, ?hv2_14⟩) hHeld3 ?rv2_14
 case hv2_14 => (intro w hSw; unfold XSeen at hSw; go_simp; first | done | with_reducible rfl)
 try simp only [Act.put, pu2, pu3, pu4]
 refine tk 3 (v := ?vv3_15) (dropAt rfl) (Or.inl ⟨by rfl, ?hv3_15⟩) hHeld3 ?rv3_15
 case hv3_15 => (intro w hSw; unfold XSeen at hSw; go_simp; first | done | with_reducible rfl)
 try simp only [Act.put, pu2, pu3, pu4]
 refine tk 5 (v := ?vv5_16) (dropAt rfl) (Or.inl ⟨by rfl, ?hv5_16⟩) hHeld3 ?rv5_16
 case hv5_16 => (intro w hSw; unfold XSeen at hSw; go_simp; first | done | with_reducible rfl)
 try simp only [Act.put, pu2, pu3, pu4]
 refine tk 6 (v := ?vv6_17) (dropAt rfl) (Or.inl ⟨by rfl, ?hv6_17⟩) hHeld3 ?rv6_17
 case hv6_17 => (intro w hSw; unfold XSeen at hSw; go_simp; first | done | with_reducible rfl)
 try simp only [Act.put, pu2, pu3, pu4]
 refine wpAnyH_ready (rs := [4, 7]) (by kernel_rfl) (by simp) ?_
 refine AllReadyH.cons (o := _) (dropAt (r := _) rfl) (fun K hK => ?_) (AllReadyH.cons (o := _) (dropAt (r := _) rfl) (fun K hK => ?_) AllReadyH.nil)
 · go_simp
   refine hK.out _ _ hHeld3 (fun hHeld3b => ?_)
   clear hK K hHeld3b
   try simp only [Act.put, pu2, pu3, pu4]
   refine wpAnyH_ready (rs := [7]) (by kernel_rfl) (by simp) ?_
   refine AllReadyH.cons (o := _) (dropAt (r := _) rfl) (fun K hK => ?_) AllReadyH.nil
   go_simp
   refine hK.out _ _ (hHeld3.below ((Below.refl _ _).alloc (Nat.le_refl _) (.cells #[I64 xc, I64 x1, I64 x2] 69))) (fun hHeld3c => ?_)
   clear hK K hHeld3c
   try simp only [Act.put, pu2, pu3, pu4]
   refine wpAnyH_ready (rs := [8]) (by kernel_rfl) (by simp) ?_
   refine AllReadyH.cons (o := _) (dropAt (r := _) rfl) (fun K hK => ?_) AllReadyH.nil
   go_simp
   refine (HI.out w2.drew hd3 hHeld3).mono ?_
   rintro e w3 ⟨⟨va, vn, vc⟩, rfl, hx3, k5, f5, hR, hG⟩
   refine hK.out _ _ hx3 (fun hHeld4 => ?_)
   clear hK K
   try simp only [Act.put, pu2, pu3, pu4]
   refine tk 9 (v := ?vv9_18) (dropAt rfl) (Or.inl ⟨by rfl, ?hv9_18⟩) hHeld4 ?rv9_18
   case hv9_18 => (intro w hSw; unfold XSeen at hSw; go_simp; first | done | with_reducible rfl)
   try simp only [Act.put, pu2, pu3, pu4]
   refine tk 10 (v := ?vv10_19) (dropAt rfl) (Or.inl ⟨by rfl, ?hv10_19⟩) hHeld4 ?rv10_19
   case hv10_19 => (intro w hSw; unfold XSeen at hSw; go_simp; first | done | with_reducible rfl)
   try simp only [Act.put, pu2, pu3, pu4]
   refine wpAnyH_ready (rs := [11]) (by kernel_rfl) (by simp) ?_
   refine AllReadyH.cons (o := _) (dropAt (r := _) rfl) (fun K hK => ?_) AllReadyH.nil
   go_simp
   refine hK.out _ _ (hx3.grown (setCell_grown w3 ⟨G, _, none⟩ _) (fun e => HGN.out (by injection e with e; exact e.symm))) (fun hHeld5 => ?_)
   clear hK K
   try simp only [Act.put, pu2, pu3, pu4]
   refine wpAnyH_done (by kernel_rfl) ?_ _
   go_wp2
   go_end0
   exact ⟨rfl, hR, hG⟩
 · go_simp
   refine hK.out _ _ (hHeld3.below ((Below.refl _ _).alloc (Nat.le_refl _) (.cells #[I64 xc, I64 x1, I64 x2] 69))) (fun hHeld3c => ?_)
   clear hK K hHeld3c
   try simp only [Act.put, pu2, pu3, pu4]
   have hc4 := HC.out _ (hb2.alloc hb2.size (.cells #[I64 xc, I64 x1, I64 x2] 69))
   refine wpAnyH_ready (rs := [4]) (by kernel_rfl) (by simp) ?_
   refine AllReadyH.cons (o := _) (dropAt (r := _) rfl) (fun K hK => ?_) AllReadyH.nil
   go_simp
   refine hK.out _ _ (hHeld3.below ((Below.refl _ _).alloc (Nat.le_refl _) (.cells #[I64 xc, I64 x1, I64 x2] 69))) (fun hHeld3d => ?_)
   clear hK K hHeld3d
   try simp only [Act.put, pu2, pu3, pu4]
   refine wpAnyH_ready (rs := [8]) (by kernel_rfl) (by simp) ?_
   refine AllReadyH.cons (o := _) (dropAt (r := _) rfl) (fun K hK => ?_) AllReadyH.nil
   go_simp
   refine (HI.out w2.drew hd3 hHeld3).mono ?_
   rintro e w3 ⟨⟨va, vn, vc⟩, rfl, hx3, k5, f5, hR, hG⟩
   refine hK.out _ _ hx3 (fun hHeld4 => ?_)
   clear hK K
   try simp only [Act.put, pu2, pu3, pu4]
   refine tk 9 (v := ?vv9_20) (dropAt rfl) (Or.inl ⟨by rfl, ?hv9_20⟩) hHeld4 ?rv9_20
   case hv9_20 => (intro w hSw; unfold XSeen at hSw; go_simp; first | done | with_reducible rfl)
   try simp only [Act.put, pu2, pu3, pu4]
   refine tk 10 (v := ?vv10_21) (dropAt rfl) (Or.inl ⟨by rfl, ?hv10_21⟩) hHeld4 ?rv10_21
   case hv10_21 => (intro w hSw; unfold XSeen at hSw; go_simp; first | done | with_reducible rfl)
   try simp only [Act.put, pu2, pu3, pu4]
   refine wpAnyH_ready (rs := [11]) (by kernel_rfl) (by simp) ?_
   refine AllReadyH.cons (o := _) (dropAt (r := _) rfl) (fun K hK => ?_) AllReadyH.nil
   go_simp
   refine hK.out _ _ (hx3.grown (setCell_grown w3 ⟨G, _, none⟩ _) (fun e => HGN.out (by injection e with e; exact e.symm))) (fun hHeld5 => ?_)
   clear hK K
   try simp only [Act.put, pu2, pu3, pu4]
   refine wpAnyH_done (by kernel_rfl) ?_ _
   go_wp2
   go_end0
   exact ⟨rfl, hR, hG⟩
end Go.Proofs.Ytaicmiadgnpimaa
namespace Go.Proofs.Ytaicmiadgnpimaa
open Go.RowKit

set_option maxRecDepth 100000 in
theorem next_nil (S : Nat → Prop) (R G n cap b : Nat) (c : Md.Call) (s : Md.State) (es : List Md.Effect) (W : Nat → Prop) (ev : SlV) (pvs : List PoolV) (w : World) (h : RunV S R c s es W (some ⟨G, 0, none⟩, n, cap) ev pvs w) (hb : c.backend = (b : Int)) (hn : n = s.pools.length) (hbn : b < s.pools.length)
 (hw : s.pools[b].waiters = []) :
 Calls Try.prog 94 #[.pointer (some ⟨R, 0, none⟩)] w fun e w' => e = .returned (I64 0) ∧ Below w.heap.size w w' := by
 have hbp : b < pvs.length := by rw [h.len]; exact hbn
 have HP := Lib.hid (pool_any R G n cap b c s ev w (runCells_of h.blk) hb (by omega))
 obtain ⟨a, k, hv⟩ := (h.each b hbp hbn).waiters.len
 rw [hw] at hv
 have HC : Hid (∀ w1, Below w.heap.size w w1 → w1.cell? ⟨G, b * 11 + 7, none⟩ = some (.slice a 0 k)) := fun w1 hb1 => by
  have h1 := ((h.below hb1).cells hbp).c7
  rw [hv] at h1
  exact h1
 clear hv hw h hb hn
 go_enter Try.func94, Try.ntmps94
 go_wp2_with fail
 refine HP.out.mono ?_
 rintro e w1 ⟨rfl, hb1⟩
 have c7 := HC.out w1 hb1
 go_wp2
 go_ret
 exact ⟨rfl, hb1⟩
set_option maxHeartbeats 1000000 in
set_option maxRecDepth 100000 in
theorem next_cons (S : Nat → Prop) (R G n cap b : Nat) (c : Md.Call) (s : Md.State) (es : List Md.Effect) (W : Nat → Prop) (ev : SlV) (pvs : List PoolV) (x : Md.Waiter) (xs : List Md.Waiter) (w : World) (h : RunV S R c s es W (some ⟨G, 0, none⟩, n, cap) ev pvs w) (hb : c.backend = (b : Int)) (hn : n = s.pools.length) (hbn : b < s.pools.length)
 (hw : s.pools[b].waiters = x :: xs) :
 Calls Try.prog 94 #[.pointer (some ⟨R, 0, none⟩)] w fun e w' => e = .returned (I64 x.1) ∧ (∃ pvs', RunV S R c (setP s b { s.pools[b] with waiters := xs }) es (fun j => W j ∧ j ≠ b) (some ⟨G, 0, none⟩, n, cap) ev pvs' w') ∧ Gb S w w' := by
 have hbp : b < pvs.length := by rw [h.len]; exact hbn
 have HP := Lib.hid (pool_any R G n cap b c s ev w (runCells_of h.blk) hb (by omega))
 have hq := h.each b hbp hbn
 obtain ⟨g, o, k, hv, hg, hc⟩ := hq.waiters.form (by rw [hw]; simp)
 rw [hw] at hc hv
 have HC : Hid (∀ w1, Below w.heap.size w w1 → w1.cell? ⟨G, b * 11 + 7, none⟩ = some (.slice (some ⟨g, o, none⟩) (xs.length + 1) k) ∧ w1.frozen? ⟨G, b * 11 + 7, none⟩ = false ∧ w1.cell? ⟨g, o, none⟩ = some (I64 x.1)) := fun w1 hb1 => by
  have h1 := (h.below hb1).cells hbp
  have h2 := h1.c7
  rw [hv] at h2
  refine ⟨h2, h1.fr 7, ?_⟩
  have h3 := hc 0 (by simp) 0 (I64 x.1) rfl
  exact (hb1.cell (p := ⟨g, _, none⟩) hg).trans (by simpa using h3)
 have HR : Hid (∀ w1 u, Below w.heap.size w w1 → obS u = some g → xs.length ≤ u.2.2 → ReadsL 2 encWaiter w1 (valS u) xs → (∃ pvs', RunV S R c (setP s b { s.pools[b] with waiters := xs }) es (fun j => W j ∧ j ≠ b) (some ⟨G, 0, none⟩, n, cap) ev pvs' (w1.setCell ⟨G, b * 11 + 7, none⟩ (valS u))) ∧ Gb S w (w1.setCell ⟨G, b * 11 + 7, none⟩ (valS u))) := fun w1 u hb1 hu huc hr => by
  have hob : obS pvs[b].vW = some g := by rw [← valS_own, hv]; rfl
  refine ⟨⟨_, h.setWr hbp hbn (w1 := w1) ⟨hb1.os, hb1.tape, hb1.output, hb1.size, fun k hk _ => hb1.block k hk⟩ hr (.inl (hu.trans hob.symm)) (fun k hk => ?_) huc⟩, ?_⟩
  · rw [hu] at hk
    injection hk with hk
    exact Nat.lt_of_lt_of_le (hk ▸ hg) hb1.size
  · exact (Gb.of_below (S := S) hb1).setCell (h.sub G (by simp [owns, obS])) _
 have HT : Hid (∀ w1, Below w.heap.size w w1 → ∀ k', ReadsL 2 encWaiter w1 (.slice (some ⟨g, o + 2, none⟩) xs.length k') xs) := fun w1 hb1 k' => .inr ⟨g, o + 2, k', rfl, Nat.lt_of_lt_of_le hg hb1.size, fun j hj i y hy => by
  have h3 := hc (j + 1) (by simpa using hj) i y (by simpa using hy)
  rw [show o + (j + 1) * 2 + i = o + 2 + j * 2 + i by omega] at h3
  exact (hb1.cell (p := ⟨g, _, none⟩) hg).trans h3⟩
 generalize setP s b { s.pools[b] with waiters := xs } = s2 at HR ⊢
 have hkc := hq.wcap
 rw [hw] at hkc
 have hvu : pvs[b].vW.2.2 = k := by
  unfold valS at hv
  injection hv with _ _ e3
 rw [hvu, List.length_cons] at hkc
 obtain ⟨m, hm⟩ : ∃ m, m = xs.length := ⟨_, rfl⟩
 have HM := Lib.hid hm
 rw [← hm] at HC HT hkc
 have HKC := Lib.hid hkc
 obtain ⟨xc, xd⟩ := x
 dsimp only at HC ⊢
 clear hv hw h hb hn hq hc hg hm hvu hkc
 have i1 : (0 : Int) < (m : Int) + 1 := by omega
 have i2 : (1 : Int) ≤ (m : Int) + 1 := by omega
 go_enter Try.func94, Try.ntmps94
 go_wp2_with fail
 refine HP.out.mono ?_
 rintro e w1 ⟨rfl, hb1⟩
 obtain ⟨c7, f7, k0⟩ := HC.out w1 hb1
 by_cases hk1 : k = 1
 · have hm0 : m = 0 := by have := HKC.out; omega
   subst hk1 hm0
   have hxs : xs = [] := List.eq_nil_of_length_eq_zero HM.out.symm
   obtain ⟨q1, q2⟩ := HR.out w1 (some ⟨g, o, none⟩, 0, 0) hb1 rfl (by rw [hxs]; exact Nat.le_refl _) (by rw [hxs]; exact .inl ⟨_, _, rfl, rfl⟩)
   go_wp2
   go_ret
   exact ⟨rfl, q1, q2⟩
 · obtain ⟨q1, q2⟩ := HR.out w1 (some ⟨g, o + 2, none⟩, m, k - 1) hb1 rfl (by rw [← HM.out]; have := HKC.out; show m ≤ k - 1; omega) (by have h9 := HT.out w1 hb1 (k - 1); exact h9)
   go_wp2
   go_ret
   exact ⟨rfl, q1, q2⟩
end Go.Proofs.Ytaicmiadgnpimaa
namespace Go.Proofs.Ytaicmiadgnpimaa
open Go.RowKit

/-- A run, its rows left open. -/
def RunE (S : Nat → Prop) (R : Nat) (c : Md.Call) (s : Md.State) (es : List Md.Effect) (W : Nat → Prop) (G n cap : Nat) (w : World) : Prop := ∃ ev pvs, RunV S R c s es W (some ⟨G, 0, none⟩, n, cap) ev pvs w
theorem RunV.impW {S : Nat → Prop} {R : Nat} {c : Md.Call} {s : Md.State} {es : List Md.Effect} {W W' : Nat → Prop} {vp ev : SlV} {pvs : List PoolV} {w : World} (h : RunV S R c s es W vp ev pvs w) (hi : ∀ j, W' j → W j) : RunV S R c s es W' vp ev pvs w :=
 ⟨h.blk, h.pools, h.effs, h.len, fun j h1 h2 => (h.each j h1 h2).imp (hi j), h.sep, h.sub, h.fresh⟩
theorem setP_len (s : Md.State) (b : Nat) (p : Md.Pool) : (setP s b p).pools.length = s.pools.length := by simp [setP]
theorem setP_get (s : Md.State) (b : Nat) (p : Md.Pool) (h : b < (setP s b p).pools.length) : (setP s b p).pools[b] = p := by simp [setP]
theorem setP_set (s : Md.State) (b : Nat) (p q : Md.Pool) : setP (setP s b p) b q = setP s b q := by simp [setP]
theorem setP_self (s : Md.State) (b : Nat) (h : b < s.pools.length) : setP s b s.pools[b] = s := by simp [setP]

set_option maxHeartbeats 1000000 in
set_option maxRecDepth 100000 in
theorem pass_any (S : Nat → Prop) (R G n cap b : Nat) (c : Md.Call) (s : Md.State) (es : List Md.Effect) (W : Nat → Prop) (ev : SlV) (pvs : List PoolV) (w : World) (h : RunV S R c s es W (some ⟨G, 0, none⟩, n, cap) ev pvs w) (hb : c.backend = (b : Int)) (hn : n = s.pools.length) (hbn : b < s.pools.length)
 (hs : List.Pairwise (fun (x y : Md.Dial) => x.1 < y.1) s.pools[b].dials) (hl : s.pools[b].dials.length ≤ 1000000) (hel : es.length ≤ 1000000) (hpos : ∀ x ∈ s.pools[b].waiters, 1 ≤ x.1) :
 Calls Try.prog 75 #[.pointer (some ⟨R, 0, none⟩)] w fun e w' => e = .returned (.tuple #[]) ∧ RunE S R c (setP s b (Md.pass c.backend s.pools[b]).1) (es ++ (Md.pass c.backend s.pools[b]).2) (fun j => W j ∧ j ≠ b) G n cap w' ∧ Gb S w w' := by
 cases hw : s.pools[b].waiters with
 | nil =>
  have HN := Lib.hid (next_nil S R G n cap b c s es W ev pvs w h hb hn hbn hw)
  have e1 : Md.pass c.backend s.pools[b] = (s.pools[b], []) := by unfold Md.pass; rw [hw]
  rw [e1]
  dsimp only
  rw [setP_self s b hbn, List.append_nil]
  have HH : Hid (∀ w1, Below w.heap.size w w1 → RunE S R c s es (fun j => W j ∧ j ≠ b) G n cap w1) := fun w1 hb1 => ⟨ev, pvs, (h.below hb1).impW (fun j x => x.1)⟩
  clear h hb hn hs hl hel hpos hw e1
  go_enter Try.func75, Try.ntmps75
  go_wp2_with fail
  refine HN.out.mono ?_
  rintro e w1 ⟨rfl, hb1⟩
  go_wp2
  go_end0
  exact ⟨rfl, HH.out w1 hb1, .of_below hb1⟩
 | cons x xs =>
  have hx1 : (0 : Int) < x.1 := by
   have := hpos x (by rw [hw]; simp)
   omega
  have HN := Lib.hid (next_cons S R G n cap b c s es W ev pvs x xs w h hb hn hbn hw)
  have e1 : Md.pass c.backend s.pools[b] = ({ s.pools[b] with waiters := xs, dials := Md.insDial x.1 s.pools[b].dials }, [(2, c.backend, x.1, 0)]) := by unfold Md.pass; rw [hw]
  rw [e1]
  dsimp only
  have HD : Hid (∀ w1 pvs1, RunV S R c (setP s b { s.pools[b] with waiters := xs }) es (fun j => W j ∧ j ≠ b) (some ⟨G, 0, none⟩, n, cap) ev pvs1 w1 → Calls Try.prog 69 #[.pointer (some ⟨R, 0, none⟩), I64 x.1] w1 fun e w' => e = .returned (.tuple #[]) ∧ (∃ pvs', RunV S R c (setP s b { s.pools[b] with waiters := xs, dials := Md.insDial x.1 s.pools[b].dials }) es (fun j => W j ∧ j ≠ b) (some ⟨G, 0, none⟩, n, cap) ev pvs' w') ∧ Gb S w1 w') := fun w1 pvs1 h1 => by
   have hbn1 : b < (setP s b { s.pools[b] with waiters := xs }).pools.length := by rw [setP_len]; exact hbn
   have q := dial_any S R G n cap b c _ es _ ev pvs1 x.1 w1 h1 hb (by rw [setP_len]; exact hn) hbn1 (by rw [setP_get]; exact hs) (by rw [setP_get]; exact hl)
   rw [setP_get, setP_set] at q
   exact q
  have HE : Hid (∀ w1 pvs1, RunV S R c (setP s b { s.pools[b] with waiters := xs, dials := Md.insDial x.1 s.pools[b].dials }) es (fun j => W j ∧ j ≠ b) (some ⟨G, 0, none⟩, n, cap) ev pvs1 w1 → w1.cell? ⟨R, 4, none⟩ = some (I64 c.backend) ∧ Calls Try.prog 77 #[.pointer (some ⟨R, 0, none⟩), I64 2, I64 c.backend, I64 x.1, I64 0] w1 fun e w' => e = .returned (.tuple #[]) ∧ RunE S R c (setP s b { s.pools[b] with waiters := xs, dials := Md.insDial x.1 s.pools[b].dials }) (es ++ [(2, c.backend, x.1, 0)]) (fun j => W j ∧ j ≠ b) G n cap w' ∧ Gb S w1 w') := fun w1 pvs1 h1 =>
   ⟨(runCells_of h1.blk).c4, (effect_any S R c _ es _ _ ev pvs1 2 c.backend x.1 0 w1 h1 hel).mono (fun e w' q => by
    obtain ⟨q1, ⟨ev', q2⟩, q3⟩ := q
    exact ⟨q1, ⟨ev', pvs1, q2⟩, q3⟩)⟩
  generalize setP s b { s.pools[b] with waiters := xs, dials := Md.insDial x.1 s.pools[b].dials } = s2 at HD HE ⊢
  generalize setP s b { s.pools[b] with waiters := xs } = s1 at HN HD
  obtain ⟨xc, xd⟩ := x
  dsimp only at HN HD HE hx1 ⊢
  clear h hb hn hs hl hel hpos hw e1
  go_enter Try.func75, Try.ntmps75
  go_wp2_with fail
  refine HN.out.mono ?_
  rintro e w1 ⟨rfl, ⟨pvs1, hr1⟩, hg1⟩
  go_wp2_with fail
  refine (HD.out w1 pvs1 hr1).mono ?_
  rintro e w2 ⟨rfl, ⟨pvs2, hr2⟩, hg2⟩
  obtain ⟨c4, HE2⟩ := HE.out w2 pvs2 hr2
  go_wp2_with fail
  refine HE2.mono ?_
  rintro e w3 ⟨rfl, hr3, hg3⟩
  go_wp2
  go_end0
  exact ⟨rfl, hr3, (hg1.trans hg2).trans hg3⟩
end Go.Proofs.Ytaicmiadgnpimaa
