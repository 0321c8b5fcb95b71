/-
  Walks for layer 3 (faults): the program's parser: take, word, number.
-/
import Derived.Test.YtgnhbccmdpkbiaaGreatDoorFaRd
import Derived.Test.YtgnhbccmdpkbiaaGreatDoorFaInt
import Derived.BigQuiet
import Derived.Test.YtgnhbccmdpkbiaaGreatDoorFaw10
namespace Go.Proofs.YtgnhbccmdpkbiaaGreatDoor
open Go.RowKit Go.Shelf

/-- A parser: what is left, the nodes, whether a number is out of range, whether a limit is exceeded. -/
def PS (w : World) (pb B : Nat) (lv : Value) (s : List UInt8) (L : List Fa.Node) (wd tl : Bool) : Prop :=
  w.heap[pb]? = some (.cells #[S8 s, lv, .bool wd, .bool tl] 114 (0, 0)) ∧ OwnL 52 6 encNode w B lv L ∧ pb < B ∧ B ≤ w.heap.size
section
variable {w w' : World} {pb B : Nat} {lv : Value} {s r : List UInt8} {L : List Fa.Node} {wd tl : Bool}
theorem PS.set0 (h : PS w pb B lv s L wd tl) {x : ByteArray} (hx : x = ⟨r.toArray⟩) : PS (w.setCell ⟨pb, 0, none⟩ (.string x)) pb B lv r L wd tl := by
  subst hx
  obtain ⟨h1, h2, h3, h4⟩ := h
  exact ⟨blk_set h1 0 _, own_low h2 h3 _, h3, by simpa [World.setCell] using h4⟩
theorem PS.set2 (h : PS w pb B lv s L wd tl) (q : Bool) : PS (w.setCell ⟨pb, 2, none⟩ (.bool q)) pb B lv s L q tl := by
  obtain ⟨h1, h2, h3, h4⟩ := h
  exact ⟨blk_set h1 2 _, own_low h2 h3 _, h3, by simpa [World.setCell] using h4⟩
theorem PS.set3 (h : PS w pb B lv s L wd tl) (q : Bool) : PS (w.setCell ⟨pb, 3, none⟩ (.bool q)) pb B lv s L wd q := by
  obtain ⟨h1, h2, h3, h4⟩ := h
  exact ⟨blk_set h1 3 _, own_low h2 h3 _, h3, by simpa [World.setCell] using h4⟩
theorem PS.below (h : PS w pb B lv s L wd tl) (hb : Below w.heap.size w w') : PS w' pb B lv s L wd tl := by
  obtain ⟨h1, h2, h3, h4⟩ := h
  exact ⟨(hb.block _ (lt_of_block h1)).trans h1, h2.below hb, h3, Nat.le_trans h4 hb.size⟩
theorem PS.drew (h : PS w pb B lv s L wd tl) : PS w.drew pb B lv s L wd tl := h
theorem PS.pb_lt (h : PS w pb B lv s L wd tl) : pb < w.heap.size := lt_of_block h.1
theorem PS.other {X i : Nat} {u : Value} (h : PS w pb B lv s L wd tl) (hX : pb ≠ X) (hv : lv.ownBlock ≠ some X) : PS (w.setCell ⟨X, i, none⟩ u) pb B lv s L wd tl := by
  obtain ⟨h1, h2, h3, h4⟩ := h
  exact ⟨by rw [Below.heap_setCell _ _ _ _ hX]; exact h1, ownsRow_setCell_other h2 hv u, h3, by simpa [World.setCell] using h4⟩
theorem PS.cells (h : PS w pb B lv s L wd tl) : (w.cell? ⟨pb, 0, none⟩ = some (S8 s) ∧ w.cell? ⟨pb, 1, none⟩ = some lv ∧ w.cell? ⟨pb, 2, none⟩ = some (.bool wd) ∧ w.cell? ⟨pb, 3, none⟩ = some (.bool tl)) ∧
    (w.frozen? ⟨pb, 0, none⟩ = false ∧ w.frozen? ⟨pb, 1, none⟩ = false ∧ w.frozen? ⟨pb, 2, none⟩ = false ∧ w.frozen? ⟨pb, 3, none⟩ = false) :=
  ⟨⟨blk_cell h.1 0, blk_cell h.1 1, blk_cell h.1 2, blk_cell h.1 3⟩, blk_free h.1 0, blk_free h.1 1, blk_free h.1 2, blk_free h.1 3⟩
theorem PS.setNode {g m c : Nat} (h : PS w pb B (.slice (some ⟨g, 0, none⟩) m c) s L wd tl) {j : Nat} (hj : j < L.length) (n : Int) :
    PS (w.setCell ⟨g, j * 6 + 1, none⟩ (I64 n)) pb B (.slice (some ⟨g, 0, none⟩) m c) s (L.set j ⟨L[j].depth, n, L[j].link⟩) wd tl ∧ w.grownBy (w.setCell ⟨g, j * 6 + 1, none⟩ (I64 n)) (some g) ∧ pb < g := by
  obtain ⟨h1, h2, h3, h4⟩ := h
  have hg := (h2.lt g rfl).1
  refine ⟨⟨by rw [Below.heap_setCell _ _ _ _ (by show pb ≠ g; omega)]; exact h1, h2.setAt encNode_len hj (by omega) rfl, h3, by simpa [World.setCell] using h4⟩, gb_set _ _ _ _, by omega⟩
theorem ps_push {W w9 : World} {v9 : Value} {L' : List Fa.Node} (h : PS W pb B lv s L wd tl) {o : Obj} (hown9 : OwnL 52 6 encNode w9 B v9 L') (hgr9 : (W.alloc o).grownBy w9 lv.ownBlock) :
    PS (w9.setCell ⟨pb, 1, none⟩ v9) pb B v9 s L' wd tl ∧ Below pb W (w9.setCell ⟨pb, 1, none⟩ v9) ∧ w9.cell? ⟨pb, 1, none⟩ = some lv ∧ w9.frozen? ⟨pb, 1, none⟩ = false := by
  obtain ⟨h1, h2, h3, h4⟩ := h
  have hl := lt_of_block h1
  have hne : ∀ k, lv.ownBlock = some k → B ≤ k := fun k hk => (h2.lt k hk).1
  have hne2 : some pb ≠ lv.ownBlock := fun e => by have := hne pb e.symm; omega
  have hb1 : (W.alloc o).heap[pb]? = W.heap[pb]? := ((Below.refl W.heap.size W).alloc (Nat.le_refl _) o).block pb hl
  have h9 := (hgr9.block pb (by simp; omega) hne2).trans (hb1.trans h1)
  refine ⟨⟨blk_set h9 1 _, own_low hown9 h3 _, h3, ?_⟩, ?_, blk_cell h9 1, blk_free h9 1⟩
  · have := hgr9.size
    simp at this
    simp [World.setCell]
    omega
  · have e1 : Below pb W (W.alloc o) := (Below.refl pb W).alloc (Nat.le_of_lt hl) o
    exact (e1.grown hgr9 (by simp; omega) (fun k hk => by have := hne k hk; omega)).setCell (Nat.le_refl _) _
end
/-- strings.CutPrefix. -/
theorem hasPre {p s : List UInt8} : Lib.hasPrefix s p = (Fa.pre p s).isSome := by
  unfold Lib.hasPrefix Fa.pre
  split
  · rename_i h; rw [h]; rfl
  · rename_i h; rw [Bool.not_eq_true] at h; rw [h]; rfl
def CutPost (p s : List UInt8) (w : World) (e : Ending) (w' : World) : Prop := e = .returned (.tuple #[S8 ((Fa.pre p s).getD s), .bool (Fa.pre p s).isSome]) ∧ w' = w
theorem cutPre_lite (p s : List UInt8) (w : World) : Calls Tryz.prog 98 #[S8 s, S8 p] w (CutPost p s w) := by
  have HH := Lib.hid (Tryz.«stringslite_HasPrefix» ⟨s.toArray⟩ ⟨p.toArray⟩ w)
  have e0 : Lib.hasPrefix (⟨s.toArray⟩ : ByteArray).data.toList (⟨p.toArray⟩ : ByteArray).data.toList = (Fa.pre p s).isSome := hasPre
  rw [e0] at HH
  have hz := size_arr
  have HP : Hid (∀ (b : Bool) (x : ByteArray) (w' : World), (Fa.pre p s).isSome = b → x = ⟨((Fa.pre p s).getD s).toArray⟩ → w' = w → CutPost p s w (.returned (.tuple #[.string x, .bool b])) w') := fun b x w' h1 h2 h3 => ⟨by rw [h2, h1], h3⟩
  cases hb : (Fa.pre p s).isSome with
  | true =>
    have he := pre_some hb
    have hl : p.length ≤ s.length := by
      have := Fa.pre_len he
      omega
    have i1 : (p.length : Int) ≤ (s.length : Int) := by omega
    have HX : Hid ((⟨s.toArray⟩ : ByteArray).extract p.length s.length = ⟨((Fa.pre p s).getD s).toArray⟩) := by
      show _ = _
      rw [he, Option.getD_some, ext_to]
    have HB := Lib.hid hb
    rw [hb] at HH
    clear hb he e0
    generalize CutPost p s w = R at HP ⊢
    go_enter Tryz.func98, Tryz.ntmps98
    go_wp2_with (go_at_call 113; refine HH.out.mono ?_; rintro e w1 ⟨rfl, rfl⟩)
    exact HP.out true _ _ HB.out HX.out rfl
  | false =>
    have he : Fa.pre p s = none := by
      cases h : Fa.pre p s with
      | none => rfl
      | some _ => rw [h] at hb; exact absurd hb (by simp)
    have HX : Hid ((⟨s.toArray⟩ : ByteArray) = ⟨((Fa.pre p s).getD s).toArray⟩) := by
      show _ = _
      rw [he, Option.getD_none]
    have HB := Lib.hid hb
    rw [hb] at HH
    clear hb he e0
    generalize CutPost p s w = R at HP ⊢
    go_enter Tryz.func98, Tryz.ntmps98
    go_wp2_with (go_at_call 113; refine HH.out.mono ?_; rintro e w1 ⟨rfl, rfl⟩)
    exact HP.out false _ _ HB.out HX.out rfl
theorem cutPre_any (p s : List UInt8) (w : World) : Calls Tryz.prog 80 #[S8 s, S8 p] w (CutPost p s w) := by
  have HC := Lib.hid (cutPre_lite p s w)
  unfold CutPost at *
  go_enter Tryz.func80, Tryz.ntmps80
  go_wp2_with (go_at_call 98; refine HC.out.mono ?_; rintro e w1 ⟨rfl, rfl⟩)
  go_ret2
  exact ⟨rfl, rfl⟩
def TakePost (p s : List UInt8) (L : List Fa.Node) (wd tl : Bool) (pb B : Nat) (lv : Value) (w : World) (e : Ending) (w' : World) : Prop :=
  e = .returned (.bool (Fa.pre p s).isSome) ∧ PS w' pb B lv ((Fa.pre p s).getD s) L wd tl ∧ w.grownBy w' (some pb)
theorem take_any (p s : List UInt8) (L : List Fa.Node) (wd tl : Bool) (pb B : Nat) (lv : Value) (w : World) (h : PS w pb B lv s L wd tl) :
    Calls Tryz.prog 70 #[.pointer (some ⟨pb, 0, none⟩), S8 p] w (TakePost p s L wd tl pb B lv w) := by
  have HR := Lib.hid h
  have HC := Lib.hid (cutPre_any p s w)
  obtain ⟨⟨c0, _⟩, f0, _⟩ := h.cells
  obtain ⟨r, hr⟩ : ∃ r, r = (Fa.pre p s).getD s := ⟨_, rfl⟩
  obtain ⟨b, hb⟩ : ∃ b, b = (Fa.pre p s).isSome := ⟨_, rfl⟩
  unfold CutPost TakePost at *
  rw [← hr, ← hb] at HC ⊢
  clear h hr hb
  go_enter Tryz.func70, Tryz.ntmps70
  go_wp2_with (go_at_call 80; refine HC.out.mono ?_; rintro e w1 ⟨rfl, rfl⟩)
  go_ret
  exact ⟨rfl, HR.out.set0 rfl, gb_set _ _ _ _⟩
theorem trimLeft_any (s : List UInt8) (w : World) : Calls Tryz.prog 99 #[S8 s, .string ⟨#[97,98,99,100,101,102,103,104,105,106,107,108,109,110,111,112,113,114,115,116,117,118,119,120,121,122,48,49,50,51,52,53,54,55,56,57,45]⟩] w fun e w' => e = .returned (S8 (Fa.wordTl s)) ∧ Below w.heap.size w w' := by
  refine (Any.strings_TrimLeft_laid Tryz.lays161 (by kernel_rfl) ⟨s.toArray⟩ ⟨#[97,98,99,100,101,102,103,104,105,106,107,108,109,110,111,112,113,114,115,116,117,118,119,120,121,122,48,49,50,51,52,53,54,55,56,57,45]⟩ w (by decide) (ascii_of_all (by decide))).mono ?_
  rintro e w' ⟨rfl, hb⟩
  refine ⟨?_, hb⟩
  have : Lib.trimLeftS s Wd.hyph = Fa.wordTl s := by
    unfold Lib.trimLeftS Fa.wordTl
    congr 1
    funext c
    exact Wd.hyph_contains c
  show Ending.returned (.string ⟨(Lib.trimLeftS s Wd.hyph).toArray⟩) = _
  rw [this]
def PWordPost (s : List UInt8) (L : List Fa.Node) (wd tl : Bool) (pb B : Nat) (lv : Value) (w : World) (e : Ending) (w' : World) : Prop :=
  e = .returned (S8 (Fa.wordOf s)) ∧ PS w' pb B lv (Fa.wordTl s) L wd tl ∧ w.grownBy w' (some pb)
theorem word_parts (s : List UInt8) : (Fa.wordOf s).length + (Fa.wordTl s).length = s.length ∧ s.take (Fa.wordOf s).length = Fa.wordOf s := by
  have h := List.takeWhile_append_dropWhile (p := Wd.nameCh) (l := s)
  have h2 := congrArg List.length h
  rw [List.length_append] at h2
  refine ⟨h2, ?_⟩
  have e : (s.takeWhile Wd.nameCh ++ s.dropWhile Wd.nameCh).take (s.takeWhile Wd.nameCh).length = s.takeWhile Wd.nameCh := List.take_left
  rw [h] at e
  exact e
set_option maxHeartbeats 4000000 in
set_option maxRecDepth 100000 in
theorem pword_any (s : List UInt8) (L : List Fa.Node) (wd tl : Bool) (pb B : Nat) (lv : Value) (w : World) (h : PS w pb B lv s L wd tl) (hs : s.length ≤ 1000000) :
    Calls Tryz.prog 81 #[.pointer (some ⟨pb, 0, none⟩)] w (PWordPost s L wd tl pb B lv w) := by
  have HR := Lib.hid h
  have HT := Lib.hid (trimLeft_any s w)
  obtain ⟨⟨c0, _⟩, _⟩ := h.cells
  obtain ⟨e1, e2⟩ := word_parts s
  obtain ⟨k, hk⟩ : ∃ k, k = (Fa.wordOf s).length := ⟨_, rfl⟩
  obtain ⟨x1, hx1⟩ : ∃ x1, x1 = Fa.wordTl s := ⟨_, rfl⟩
  have hz := size_arr
  rw [← hk, ← hx1] at e1
  rw [← hk] at e2
  have i1 : (k : Int) ≤ (s.length : Int) := by omega
  have hw : IntKind.i64.wrap ((s.length : Int) - (x1.length : Int)) = (k : Int) := by
    rw [show (s.length : Int) - (x1.length : Int) = (k : Int) from by omega, IntKind.wrap_i64]
    omega
  have HX : Hid ((⟨s.toArray⟩ : ByteArray).extract 0 k = ⟨(Fa.wordOf s).toArray⟩) := by
    show _ = _
    rw [ext_up, e2]
  have HX1 := Lib.hid hx1
  rw [← hx1] at HT
  obtain ⟨R, hR⟩ : ∃ R, R = PWordPost s L wd tl pb B lv w := ⟨_, rfl⟩
  have HEQ := Lib.hid hR
  rw [← hR]
  clear hR h e1 e2 hk hx1
  go_enter Tryz.func81, Tryz.ntmps81
  go_wp2_with fail
  refine HT.out.mono ?_
  rintro e w1 ⟨rfl, hb1⟩
  have hr1 := HR.out.below hb1
  have HR1 := Lib.hid hr1
  have HG1 := Lib.hid (gb_below (r := some pb) hb1)
  obtain ⟨⟨d0, d1, d2, d3⟩, f0, f1, f2, f3⟩ := hr1.cells
  clear hr1 hb1
  go_wp2_with fail
  go_quiet (fail)
  go_wp2_with fail
  rw [HEQ.out]
  refine ⟨?_, ?_, ?_⟩
  · show Ending.returned (.string ((⟨s.toArray⟩ : ByteArray).extract 0 k)) = _
    rw [HX.out]
  · have h2 : PS (w1.drewN nq) pb B lv s L wd tl := HR1.out
    rw [← HX1.out]
    exact h2.set0 rfl
  · have h3 : w.grownBy (w1.drewN nq) (some pb) := ⟨HG1.out.os, HG1.out.tape, HG1.out.output, HG1.out.size, HG1.out.block⟩
    exact gb_trans h3 (gb_set _ _ _ _)
end Go.Proofs.YtgnhbccmdpkbiaaGreatDoor
namespace Go.Proofs.YtgnhbccmdpkbiaaGreatDoor
open Go.RowKit Go.Shelf

def PNumPost (lo hi : Int) (s : List UInt8) (L : List Fa.Node) (wd tl : Bool) (pb B : Nat) (lv : Value) (w : World) (e : Ending) (w' : World) : Prop := w.grownBy w' (some pb) ∧ match Fa.pnum lo hi s with
  | some (n, q, r) => e = .returned (.tuple #[I64 n, .bool true]) ∧ PS w' pb B lv r L (wd || q) tl
  | none => e = .returned (.tuple #[I64 0, .bool false]) ∧ PS w' pb B lv (Fa.wordTl s) L wd tl
theorem hasMinus (x : List UInt8) : Lib.hasPrefix x [45] = (x.head? == some 45) := by
  cases x with
  | nil => rfl
  | cons c t =>
    simp only [Lib.hasPrefix, List.isPrefixOf, Bool.and_true, List.head?_cons]
    rw [Bool.eq_iff_iff, beq_iff_eq, beq_iff_eq]
    constructor
    · intro h; rw [h]
    · intro h; injection h with h; exact h.symm
set_option maxHeartbeats 4000000 in
set_option maxRecDepth 100000 in
theorem pnumber_any (lo hi : Int) (hlo : 0 ≤ lo) (s : List UInt8) (L : List Fa.Node) (wd tl : Bool) (pb B : Nat) (lv : Value) (w : World) (hE : EnvT w) (hpb10 : 10 ≤ pb) (h : PS w pb B lv s L wd tl) (hs : s.length ≤ 1000000) :
    Calls Tryz.prog 82 #[.pointer (some ⟨pb, 0, none⟩), I64 lo, I64 hi] w (PNumPost lo hi s L wd tl pb B lv w) := by
  have HW := Lib.hid (pword_any s L wd tl pb B lv w h hs)
  obtain ⟨x, hx⟩ : ∃ x, x = Fa.wordOf s := ⟨_, rfl⟩
  have hxl : x.length ≤ 1000000 := by rw [hx]; exact Nat.le_trans (wordOf_len s) hs
  obtain ⟨sx, hsx⟩ : ∃ sx : ByteArray, sx = ⟨x.toArray⟩ := ⟨_, rfl⟩
  have hsz : sx.size = x.length := by rw [hsx, size_arr]
  have htl : sx.toList = x := by rw [hsx, Lib.toList_data]
  have hdl : sx.data.toList = x := by rw [hsx]
  have HI : Hid (∀ w1, w.grownBy w1 (some pb) → Calls Tryz.prog 100 #[.string sx, I64 lo, I64 hi] w1 fun e w' => e = .returned (.tuple #[I64 (Wd.intOfStr x lo hi).1, I64 (Wd.intOfStr x lo hi).2]) ∧ Below w1.heap.size w1 w') := fun w1 hg => by
    have hb : Below 10 w w1 := (Below.refl 10 w).grown hg hE.f.big (fun k hk => by injection hk with hk; omega)
    refine (intT_any sx lo hi w1 (hE.belowB (Nat.le_refl _) hb) (by rw [hsz]; omega)).mono ?_
    rintro e w' ⟨rfl, h2⟩
    refine ⟨?_, h2⟩
    unfold intEnd
    rw [hdl]
  have HH : Hid (∀ w1, Calls Tryz.prog 101 #[.string sx, .string ⟨#[45]⟩] w1 fun e w' => e = .returned (.bool (x.head? == some 45)) ∧ w' = w1) := fun w1 => by
    have h1 := Tryz.«strings_HasPrefix» sx ⟨#[45]⟩ w1
    rw [hdl, hasMinus] at h1
    exact h1
  have HP1 : Hid (Fa.numBad lo hi x = true → ∀ w', w.grownBy w' (some pb) → PS w' pb B lv (Fa.wordTl s) L wd tl → PNumPost lo hi s L wd tl pb B lv w (.returned (.tuple #[I64 0, .bool false])) w') := fun hb w' h1 h2 => by
    refine ⟨h1, ?_⟩
    rw [show Fa.pnum lo hi s = none from by unfold Fa.pnum; rw [← hx, if_pos hb]]
    exact ⟨rfl, h2⟩
  have HP2 : Hid (Fa.numBad lo hi x = false → ∀ q w', q = (wd || decide ((Wd.intOfStr x lo hi).2 ≠ 0)) → w.grownBy w' (some pb) → PS w' pb B lv (Fa.wordTl s) L q tl → PNumPost lo hi s L wd tl pb B lv w (.returned (.tuple #[I64 (Wd.intOfStr x lo hi).1, .bool true])) w') := fun hb q w' hq h1 h2 => by
    refine ⟨h1, ?_⟩
    rw [show Fa.pnum lo hi s = some ((Wd.intOfStr x lo hi).1, decide ((Wd.intOfStr x lo hi).2 ≠ 0), Fa.wordTl s) from by unfold Fa.pnum; rw [← hx, if_neg (by rw [hb]; simp)]]
    exact ⟨rfl, by rw [← hq]; exact h2⟩
  rw [show PWordPost s L wd tl pb B lv w = fun e w' => e = .returned (.string sx) ∧ PS w' pb B lv (Fa.wordTl s) L wd tl ∧ w.grownBy w' (some pb) from by rw [hsx, hx]; rfl] at HW
  have n6 : (Wd.intOfStr x lo hi).2 = 6 → Fa.numBad lo hi x = true := Fa.numBad_six
  have nc := Fa.int_code x lo hi
  have nb : Fa.numBad lo hi x = (decide ((Wd.intOfStr x lo hi).2 = 6) || (x.head? == some 45) || (x == [48] && decide (0 < lo))) := rfl
  generalize hio : Wd.intOfStr x lo hi = p at HI HP2 n6 nc nb
  obtain ⟨N, E⟩ := p
  dsimp only at HI HP2 n6 nc nb
  clear hio h hs hx hE
  generalize PNumPost lo hi s L wd tl pb B lv w = R at HP1 HP2 ⊢
  have hg2 : (sx.toList == [48]) = (x == [48]) := by rw [htl]
  by_cases h6 : E = 6
  · subst h6
    have HX := Lib.hid (HP1.out (n6 rfl))
    clear n6 nb nc HP1 HP2 hsx hsz htl hxl hg2 hdl HH
    go_enter Tryz.func82, Tryz.ntmps82
    go_wp2_with fail
    refine HW.out.mono ?_
    rintro e w1 ⟨rfl, hr1, hg1⟩
    go_wp2_with fail
    refine (HI.out _ hg1).mono ?_
    rintro e w2 ⟨rfl, hb2⟩
    have HEND := Lib.hid (HX.out _ (gb_trans hg1 (gb_below hb2)) (hr1.below hb2))
    clear hr1 hg1 hb2
    go_wp2_with fail
    exact HEND.out
  · have hE6 : (E == 6) = false := by rw [beq_eq_false_iff_ne]; exact h6
    rw [decide_eq_false h6, Bool.false_or] at nb
    generalize hm : (x.head? == some 45) = m at HH nb
    generalize hzz : (x == [48]) = z at nb hg2
    clear hm hzz h6 n6
    have hE0 : E = 0 ∨ E = 7 := by
      rcases nc with h | h | h
      · exact .inl h
      · rw [h] at hE6; exact absurd hE6 (by decide)
      · exact .inr h
    cases m with
    | true =>
      have HX := Lib.hid (HP1.out (by rw [nb]; rfl))
      clear nb nc HP1 HP2 hsx hsz htl hxl hg2 hE0 hdl
      go_enter Tryz.func82, Tryz.ntmps82
      go_wp2_with fail
      refine HW.out.mono ?_
      rintro e w1 ⟨rfl, hr1, hg1⟩
      go_wp2_with fail
      refine (HI.out _ hg1).mono ?_
      rintro e w2 ⟨rfl, hb2⟩
      have HEND := Lib.hid (HX.out _ (gb_trans hg1 (gb_below hb2)) (hr1.below hb2))
      clear hr1 hg1 hb2
      go_wp2_with fail
      refine (HH.out _).mono ?_
      rintro e w3 ⟨rfl, rfl⟩
      go_wp2_with fail
      exact HEND.out
    | false =>
      rw [Bool.false_or] at nb
      by_cases hbad : z = true ∧ 0 < lo
      · obtain ⟨rfl, hl⟩ := hbad
        have HX := Lib.hid (HP1.out (by rw [nb, decide_eq_true hl]; rfl))
        clear nb nc HP1 HP2 hsx hsz htl hxl hE0 hdl
        go_enter Tryz.func82, Tryz.ntmps82
        go_wp2_with fail
        refine HW.out.mono ?_
        rintro e w1 ⟨rfl, hr1, hg1⟩
        go_wp2_with fail
        refine (HI.out _ hg1).mono ?_
        rintro e w2 ⟨rfl, hb2⟩
        have HEND := Lib.hid (HX.out _ (gb_trans hg1 (gb_below hb2)) (hr1.below hb2))
        clear hr1 hg1 hb2
        go_wp2_with fail
        refine (HH.out _).mono ?_
        rintro e w3 ⟨rfl, rfl⟩
        go_wp2_with fail
        exact HEND.out
      · have hnb : Fa.numBad lo hi x = false := by
          rw [nb]
          cases z with
          | false => rfl
          | true =>
            rw [decide_eq_false (fun h => hbad ⟨rfl, h⟩)]; rfl
        have HX := Lib.hid (HP2.out hnb)
        have hzl : z = false ∨ (z = true ∧ ¬ 0 < lo) := by
          cases z with
          | false => exact .inl rfl
          | true => exact .inr ⟨rfl, fun h => hbad ⟨rfl, h⟩⟩
        clear nb nc HP1 HP2 hsx hsz htl hxl hdl hnb hbad
        rcases hE0 with rfl | rfl
        · have HY : Hid (∀ w', w.grownBy w' (some pb) → PS w' pb B lv (Fa.wordTl s) L wd tl → R (.returned (.tuple #[I64 N, .bool true])) w') := fun w' h1 h2 => HX.out wd w' (by simp) h1 h2
          clear HX
          rcases hzl with rfl | ⟨rfl, hl⟩
          · go_enter Tryz.func82, Tryz.ntmps82
            go_wp2_with fail
            refine HW.out.mono ?_
            rintro e w1 ⟨rfl, hr1, hg1⟩
            go_wp2_with fail
            refine (HI.out _ hg1).mono ?_
            rintro e w2 ⟨rfl, hb2⟩
            have HEND := Lib.hid (HY.out _ (gb_trans hg1 (gb_below hb2)) (hr1.below hb2))
            clear hr1 hg1 hb2
            go_wp2_with fail
            refine (HH.out _).mono ?_
            rintro e w3 ⟨rfl, rfl⟩
            go_wp2_with fail
            exact HEND.out
          · go_enter Tryz.func82, Tryz.ntmps82
            go_wp2_with fail
            refine HW.out.mono ?_
            rintro e w1 ⟨rfl, hr1, hg1⟩
            go_wp2_with fail
            refine (HI.out _ hg1).mono ?_
            rintro e w2 ⟨rfl, hb2⟩
            have HEND := Lib.hid (HY.out _ (gb_trans hg1 (gb_below hb2)) (hr1.below hb2))
            clear hr1 hg1 hb2
            go_wp2_with fail
            refine (HH.out _).mono ?_
            rintro e w3 ⟨rfl, rfl⟩
            go_wp2_with fail
            exact HEND.out
        · have HY : Hid (∀ w', w.grownBy w' (some pb) → PS w' pb B lv (Fa.wordTl s) L true tl → R (.returned (.tuple #[I64 N, .bool true])) w') := fun w' h1 h2 => HX.out true w' (by simp) h1 h2
          clear HX
          rcases hzl with rfl | ⟨rfl, hl⟩
          · go_enter Tryz.func82, Tryz.ntmps82
            go_wp2_with fail
            refine HW.out.mono ?_
            rintro e w1 ⟨rfl, hr1, hg1⟩
            go_wp2_with fail
            refine (HI.out _ hg1).mono ?_
            rintro e w2 ⟨rfl, hb2⟩
            have hr2 := hr1.below hb2
            obtain ⟨⟨d0, d1, d2, d3⟩, f0, f1, f2, f3⟩ := hr2.cells
            have HEND := Lib.hid (HY.out _ (gb_trans (gb_trans hg1 (gb_below hb2)) (gb_set _ pb 2 (.bool true))) (hr2.set2 true))
            clear hr1 hg1 hb2 hr2
            go_wp2_with fail
            refine (HH.out _).mono ?_
            rintro e w3 ⟨rfl, rfl⟩
            go_wp2_with fail
            exact HEND.out
          · go_enter Tryz.func82, Tryz.ntmps82
            go_wp2_with fail
            refine HW.out.mono ?_
            rintro e w1 ⟨rfl, hr1, hg1⟩
            go_wp2_with fail
            refine (HI.out _ hg1).mono ?_
            rintro e w2 ⟨rfl, hb2⟩
            have hr2 := hr1.below hb2
            obtain ⟨⟨d0, d1, d2, d3⟩, f0, f1, f2, f3⟩ := hr2.cells
            have HEND := Lib.hid (HY.out _ (gb_trans (gb_trans hg1 (gb_below hb2)) (gb_set _ pb 2 (.bool true))) (hr2.set2 true))
            clear hr1 hg1 hb2 hr2
            go_wp2_with fail
            refine (HH.out _).mono ?_
            rintro e w3 ⟨rfl, rfl⟩
            go_wp2_with fail
            exact HEND.out
end Go.Proofs.YtgnhbccmdpkbiaaGreatDoor
namespace Go.Proofs.YtgnhbccmdpkbiaaGreatDoor
open Go.RowKit Go.Shelf

def PNodePost (x : Fa.Node) (s : List UInt8) (L : List Fa.Node) (wd tl : Bool) (pb B : Nat) (lv : Value) (w : World) (e : Ending) (w' : World) : Prop := Below pb w w' ∧
  ((L.length = 40 ∨ 12 < x.depth) ∧ e = .returned (I64 (-1)) ∧ PS w' pb B lv s L wd true ∨ ¬ (L.length = 40 ∨ 12 < x.depth) ∧ e = .returned (I64 (L.length : Int)) ∧ ∃ lv', PS w' pb B lv' s (L ++ [x]) wd tl)
theorem pn_full {x : Fa.Node} {s : List UInt8} {L : List Fa.Node} {wd tl : Bool} {pb B : Nat} {lv : Value} {w w' : World} (hb : Below pb w w') (hc : L.length = 40 ∨ 12 < x.depth) (hr : PS w' pb B lv s L wd true) : PNodePost x s L wd tl pb B lv w (.returned (I64 (-1))) w' := ⟨hb, .inl ⟨hc, rfl, hr⟩⟩
theorem pn_add {x : Fa.Node} {s : List UInt8} {L : List Fa.Node} {wd tl : Bool} {pb B : Nat} {lv v : Value} {w w' : World} (hb : Below pb w w') (hc : ¬ (L.length = 40 ∨ 12 < x.depth)) (hr : PS w' pb B v s (L ++ [x]) wd tl) : PNodePost x s L wd tl pb B lv w (.returned (I64 (L.length : Int))) w' := ⟨hb, .inr ⟨hc, rfl, v, hr⟩⟩
def NS6 (Y : Nat) (d jn kd : Int) (op : ByteArray) (bk cn : Int) (w : World) : Prop := w.cell? ⟨Y, 0, none⟩ = some (I64 d) ∧ w.cell? ⟨Y, 1, none⟩ = some (I64 jn) ∧ w.cell? ⟨Y, 2, none⟩ = some (I64 kd) ∧ w.cell? ⟨Y, 3, none⟩ = some (.string op) ∧ w.cell? ⟨Y, 4, none⟩ = some (I64 bk) ∧ w.cell? ⟨Y, 5, none⟩ = some (I64 cn)
theorem NS6.grown {Y : Nat} {d jn kd : Int} {op : ByteArray} {bk cn : Int} {w w' : World} {r : Option Nat} (h : NS6 Y d jn kd op bk cn w) (hg : w.grownBy w' r) (hne : some Y ≠ r) : NS6 Y d jn kd op bk cn w' := by
  obtain ⟨h0, h1, h2, h3, h4, h5⟩ := h
  have hl := cell_lt h0
  exact ⟨(gb_cell' hg hl hne).trans h0, (gb_cell' hg hl hne).trans h1, (gb_cell' hg hl hne).trans h2, (gb_cell' hg hl hne).trans h3, (gb_cell' hg hl hne).trans h4, (gb_cell' hg hl hne).trans h5⟩
set_option maxHeartbeats 8000000 in
set_option maxRecDepth 100000 in
theorem pnode_any (x : Fa.Node) (s : List UInt8) (L : List Fa.Node) (wd tl : Bool) (pb B : Nat) (lv : Value) (w : World) (h : PS w pb B lv s L wd tl) (hL : L.length ≤ 40) :
    Calls Tryz.prog 72 #[.pointer (some ⟨pb, 0, none⟩), valNode x] w (PNodePost x s L wd tl pb B lv w) := by
  obtain ⟨d, jn, ⟨kd, op, bk, cn⟩⟩ := x
  obtain ⟨a, cap, hlv⟩ := (h.2.1.reads encNode_len).len
  subst hlv
  unfold valNode
  dsimp only
  have hbY := (Below.refl w.heap.size w).alloc (Nat.le_refl _) (.cells #[I64 d, I64 jn, I64 kd, .string op, I64 bk, I64 cn] 52)
  have hr1 := h.below hbY
  have hyb := blk_new w (.cells #[I64 d, I64 jn, I64 kd, .string op, I64 bk, I64 cn] 52)
  have hb1 : Below pb w (w.alloc (.cells #[I64 d, I64 jn, I64 kd, .string op, I64 bk, I64 cn] 52)) := (Below.refl pb w).alloc (Nat.le_of_lt h.pb_lt) _
  have hYpb : w.heap.size ≠ pb := Nat.ne_of_gt h.pb_lt
  have hYv : some w.heap.size ≠ Value.ownBlock (.slice a L.length cap) := fun e => by have := (h.2.1.lt _ e.symm).2; omega
  have HLL := Lib.hid hL
  obtain ⟨⟨c0, c1, c2, c3⟩, f0, f1, f2, f3⟩ := hr1.cells
  obtain ⟨R, hR⟩ : ∃ R, R = PNodePost ⟨d, jn, ⟨kd, op, bk, cn⟩⟩ s L wd tl pb B (.slice a L.length cap) w := ⟨_, rfl⟩
  have HEQ := Lib.hid hR
  rw [← hR]
  clear hR
  have HR1 := Lib.hid hr1
  have HB1 := Lib.hid hb1
  have HYB := Lib.hid hyb
  clear h hL hbY hr1 hyb hb1
  by_cases h40 : L.length = 40
  · have g1 : ((L.length : Int) == 40) = true := by rw [beq_iff_eq]; omega
    have HEND : Hid (R (.returned (I64 (-1))) ((w.alloc (.cells #[I64 d, I64 jn, I64 kd, .string op, I64 bk, I64 cn] 52)).setCell ⟨pb, 3, none⟩ (.bool true))) := by
      rw [HEQ.out]
      exact pn_full (HB1.out.setCell (Nat.le_refl _) _) (.inl h40) (HR1.out.set3 true)
    clear h40
    go_enter Tryz.func72, Tryz.ntmps72
    go_wp2_with fail
    exact HEND.out
  · have g1 : ((L.length : Int) == 40) = false := by rw [beq_eq_false_iff_ne]; omega
    by_cases h12 : 12 < d
    · have HEND : Hid (R (.returned (I64 (-1))) ((w.alloc (.cells #[I64 d, I64 jn, I64 kd, .string op, I64 bk, I64 cn] 52)).setCell ⟨pb, 3, none⟩ (.bool true))) := by
        rw [HEQ.out]
        exact pn_full (HB1.out.setCell (Nat.le_refl _) _) (.inr h12) (HR1.out.set3 true)
      clear h40
      go_enter Tryz.func72, Tryz.ntmps72
      go_wp2_with fail
      exact HEND.out
    · have HNO : Hid (¬ (L.length = 40 ∨ 12 < d)) := fun h => h.elim h40 h12
      clear h40
      go_enter Tryz.func72, Tryz.ntmps72
      go_wp2_with fail
      have hNS : NS6 w.heap.size d jn kd op bk cn (w.alloc (.cells #[I64 d, I64 jn, I64 kd, .string op, I64 bk, I64 cn] 52)).drew := ⟨blk_cell HYB.out 0, blk_cell HYB.out 1, blk_cell HYB.out 2, blk_cell HYB.out 3, blk_cell HYB.out 4, blk_cell HYB.out 5⟩
      have hr3 := HR1.out.drew
      have hb3 := HB1.out.drew
      refine wp_region_held_drew (S := NS6 w.heap.size d jn kd op bk cn) (by kernel_rfl) hNS (fun hHeld => ?_)
      generalize w.heap.size = Y at hNS hYpb hYv hHeld ⊢
      generalize (w.alloc (.cells #[I64 d, I64 jn, I64 kd, .string op, I64 bk, I64 cn] 52)).drew = W at hr3 hb3 hHeld ⊢
      have HR3 := Lib.hid hr3
      have HB3 := Lib.hid hb3
      obtain ⟨⟨_, l1, _⟩, ⟨_, g1, _⟩⟩ := hr3.cells
      have hown := hr3.2.1
      clear hr3 hb3 hNS c0 c1 c2 c3 f0 f1 f2 f3
      refine wpAnyH_take (i := 0) (oi := _) (v := ?vv0_1) (dropAt (r := _) rfl) (by kernel_rfl) (by kernel_rfl) (by kernel_rfl) (fun _ _ _ h => h) (Or.inl ⟨by rfl, ?hv0_1⟩) hHeld ?rv0_1
      case hv0_1 => (intro w hSw; unfold NS6 at hSw; go_simp; first | done | with_reducible rfl)
      try simp only [Act.put, List.setIfInBounds_toArray, List.set_cons_zero, List.set_cons_succ]
      refine wpAnyH_take (i := 1) (oi := _) (v := ?vv1_2) (dropAt (r := _) rfl) (by kernel_rfl) (by kernel_rfl) (by kernel_rfl) (fun _ _ _ h => h) (Or.inl ⟨by rfl, ?hv1_2⟩) hHeld ?rv1_2
      case hv1_2 => (intro w hSw; unfold NS6 at hSw; go_simp; first | done | with_reducible rfl)
      try simp only [Act.put, List.setIfInBounds_toArray, List.set_cons_zero, List.set_cons_succ]
      refine wpAnyH_take (i := 2) (oi := _) (v := ?vv2_3) (dropAt (r := _) rfl) (by kernel_rfl) (by kernel_rfl) (by kernel_rfl) (fun _ _ _ h => h) (Or.inl ⟨by rfl, ?hv2_3⟩) hHeld ?rv2_3
      case hv2_3 => (intro w hSw; unfold NS6 at hSw; go_simp; first | done | with_reducible rfl)
      try simp only [Act.put, List.setIfInBounds_toArray, List.set_cons_zero, List.set_cons_succ]
      refine wpAnyH_take (i := 3) (oi := _) (v := ?vv3_4) (dropAt (r := _) rfl) (by kernel_rfl) (by kernel_rfl) (by kernel_rfl) (fun _ _ _ h => h) (Or.inl ⟨by rfl, ?hv3_4⟩) hHeld ?rv3_4
      case hv3_4 => (intro w hSw; unfold NS6 at hSw; go_simp; first | done | with_reducible rfl)
      try simp only [Act.put, List.setIfInBounds_toArray, List.set_cons_zero, List.set_cons_succ]
      refine wpAnyH_take (i := 5) (oi := _) (v := ?vv5_5) (dropAt (r := _) rfl) (by kernel_rfl) (by kernel_rfl) (by kernel_rfl) (fun _ _ _ h => h) (Or.inl ⟨by rfl, ?hv5_5⟩) hHeld ?rv5_5
      case hv5_5 => (intro w hSw; unfold NS6 at hSw; go_simp; first | done | with_reducible rfl)
      try simp only [Act.put, List.setIfInBounds_toArray, List.set_cons_zero, List.set_cons_succ]
      refine wpAnyH_ready (rs := [4, 6]) (by kernel_rfl) (by simp) ?_
      refine AllReadyH.cons (o := _) (dropAt (r := _) rfl) (fun K hK => ?_) (AllReadyH.cons (o := _) (dropAt (r := _) rfl) (fun K hK => ?_) AllReadyH.nil)
      · go_simp
        refine hK.out _ _ hHeld (fun hHeldL => ?_)
        clear hK K hHeldL
        try simp only [Act.put, List.setIfInBounds_toArray, List.set_cons_zero, List.set_cons_succ]
        refine wpAnyH_ready (rs := [6]) (by kernel_rfl) (by simp) ?_
        refine AllReadyH.cons (o := _) (dropAt (r := _) rfl) (fun K hK => ?_) AllReadyH.nil
        go_simp
        have l8 := (((Below.refl W.heap.size W).alloc (Nat.le_refl _) (.cells #[I64 d, I64 jn, I64 kd, .string op, I64 bk, I64 cn] 52)).cell (p := ⟨pb, 1, none⟩) HR3.out.pb_lt).trans l1
        have hh8 := hHeld.grown (gb_alloc _ (.cells #[I64 d, I64 jn, I64 kd, .string op, I64 bk, I64 cn] 52) none) (by simp)
        refine hK.out _ _ hh8 (fun hHeld8 => ?_)
        clear hK K
        try simp only [Act.put, List.setIfInBounds_toArray, List.set_cons_zero, List.set_cons_succ]
        refine wpAnyH_ready (rs := [7]) (by kernel_rfl) (by simp) ?_
        refine AllReadyH.cons (o := _) (dropAt (r := _) rfl) (fun K hK => ?_) AllReadyH.nil
        rw [if_pos (by rfl)]
        refine appLsR elN _ _ _ rfl B _ L [⟨d, jn, ⟨kd, op, bk, cn⟩⟩] rfl (hown.alloc _) _ rfl ((own_one W B HR3.out.2.2.2 ⟨d, jn, ⟨kd, op, bk, cn⟩⟩).reads encNode_len) (by have := HLL.out; rw [List.length_singleton]; unfold maxLen; omega) (by have := HLL.out; rw [List.length_singleton]; omega) (by have := HR3.out.2.2.2; simp; omega) ?_
        intro v9 w9 hown9 hgr9
        obtain ⟨gn9, cn9, rfl, -, -⟩ := own_form hown9 (by simp)
        have hh9 := hHeld8.grown hgr9 hYv
        obtain ⟨hr12, hb12, l9, g9⟩ := ps_push HR3.out hown9 hgr9
        refine hK.out _ _ hh9 (fun hHeld9 => ?_)
        clear hK K
        try simp only [Act.put, List.setIfInBounds_toArray, List.set_cons_zero, List.set_cons_succ]
        refine wpAnyH_take (i := 8) (oi := _) (v := ?vv8_6) (dropAt (r := _) rfl) (by kernel_rfl) (by kernel_rfl) (by kernel_rfl) (fun _ _ _ h => h) (Or.inl ⟨by rfl, ?hv8_6⟩) hHeld9 ?rv8_6
        case hv8_6 => (intro w hSw; unfold NS6 at hSw; go_simp; first | done | with_reducible rfl)
        try simp only [Act.put, List.setIfInBounds_toArray, List.set_cons_zero, List.set_cons_succ]
        refine wpAnyH_take (i := 9) (oi := _) (v := ?vv9_7) (dropAt (r := _) rfl) (by kernel_rfl) (by kernel_rfl) (by kernel_rfl) (fun _ _ _ h => h) (Or.inl ⟨by rfl, ?hv9_7⟩) hHeld9 ?rv9_7
        case hv9_7 => (intro w hSw; unfold NS6 at hSw; go_simp; first | done | with_reducible rfl)
        try simp only [Act.put, List.setIfInBounds_toArray, List.set_cons_zero, List.set_cons_succ]
        refine wpAnyH_ready (rs := [10]) (by kernel_rfl) (by simp) ?_
        refine AllReadyH.cons (o := _) (dropAt (r := _) rfl) (fun K hK => ?_) AllReadyH.nil
        go_simp
        refine hK.out _ _ (hh9.grown (gb_set _ _ _ _) (fun e => hYpb (Option.some.inj e))) (fun hHeld12 => ?_)
        clear hK K
        try simp only [Act.put, List.setIfInBounds_toArray, List.set_cons_zero, List.set_cons_succ]
        refine wpAnyH_done (by kernel_rfl) ?_ _
        rw [List.length_append, List.length_singleton] at hr12 hb12
        generalize w9.setCell ⟨pb, 1, none⟩ (.slice (some ⟨gn9, 0, none⟩) (L.length + 1) cn9) = wz at hr12 hb12 ⊢
        have HRZ := Lib.hid hr12
        have HBZ := Lib.hid (HB3.out.trans hb12)
        obtain ⟨⟨_, z1, _⟩, _⟩ := hr12.cells
        clear hown9 hgr9 hh9 l9 g9 hh8 hHeld8 l1 g1 hHeld12 hHeld9 hown hYv hYpb hHeld hb12 hr12
        have HEND : Hid (R (.returned (I64 (L.length : Int))) wz) := by
          rw [HEQ.out]
          exact pn_add HBZ.out HNO.out HRZ.out
        have hb40 : (L.length : Int) ≤ 40 := by have := HLL.out; omega
        go_wp2_with fail
        exact HEND.out
      · go_simp
        have l8 := (((Below.refl W.heap.size W).alloc (Nat.le_refl _) (.cells #[I64 d, I64 jn, I64 kd, .string op, I64 bk, I64 cn] 52)).cell (p := ⟨pb, 1, none⟩) HR3.out.pb_lt).trans l1
        have hh8 := hHeld.grown (gb_alloc _ (.cells #[I64 d, I64 jn, I64 kd, .string op, I64 bk, I64 cn] 52) none) (by simp)
        refine hK.out _ _ hh8 (fun hHeld8 => ?_)
        clear hK K
        try simp only [Act.put, List.setIfInBounds_toArray, List.set_cons_zero, List.set_cons_succ]
        refine wpAnyH_ready (rs := [4]) (by kernel_rfl) (by simp) ?_
        refine AllReadyH.cons (o := _) (dropAt (r := _) rfl) (fun K hK => ?_) AllReadyH.nil
        go_simp
        refine hK.out _ _ hHeld8 (fun hHeldL => ?_)
        clear hK K hHeldL
        try simp only [Act.put, List.setIfInBounds_toArray, List.set_cons_zero, List.set_cons_succ]
        refine wpAnyH_ready (rs := [7]) (by kernel_rfl) (by simp) ?_
        refine AllReadyH.cons (o := _) (dropAt (r := _) rfl) (fun K hK => ?_) AllReadyH.nil
        rw [if_pos (by rfl)]
        refine appLsR elN _ _ _ rfl B _ L [⟨d, jn, ⟨kd, op, bk, cn⟩⟩] rfl (hown.alloc _) _ rfl ((own_one W B HR3.out.2.2.2 ⟨d, jn, ⟨kd, op, bk, cn⟩⟩).reads encNode_len) (by have := HLL.out; rw [List.length_singleton]; unfold maxLen; omega) (by have := HLL.out; rw [List.length_singleton]; omega) (by have := HR3.out.2.2.2; simp; omega) ?_
        intro v9 w9 hown9 hgr9
        obtain ⟨gn9, cn9, rfl, -, -⟩ := own_form hown9 (by simp)
        have hh9 := hHeld8.grown hgr9 hYv
        obtain ⟨hr12, hb12, l9, g9⟩ := ps_push HR3.out hown9 hgr9
        refine hK.out _ _ hh9 (fun hHeld9 => ?_)
        clear hK K
        try simp only [Act.put, List.setIfInBounds_toArray, List.set_cons_zero, List.set_cons_succ]
        refine wpAnyH_take (i := 8) (oi := _) (v := ?vv8_8) (dropAt (r := _) rfl) (by kernel_rfl) (by kernel_rfl) (by kernel_rfl) (fun _ _ _ h => h) (Or.inl ⟨by rfl, ?hv8_8⟩) hHeld9 ?rv8_8
        case hv8_8 => (intro w hSw; unfold NS6 at hSw; go_simp; first | done | with_reducible rfl)
        try simp only [Act.put, List.setIfInBounds_toArray, List.set_cons_zero, List.set_cons_succ]
        refine wpAnyH_take (i := 9) (oi := _) (v := ?vv9_9) (dropAt (r := _) rfl) (by kernel_rfl) (by kernel_rfl) (by kernel_rfl) (fun _ _ _ h => h) (Or.inl ⟨by rfl, ?hv9_9⟩) hHeld9 ?rv9_9
        case hv9_9 => (intro w hSw; unfold NS6 at hSw; go_simp; first | done | with_reducible rfl)
        try simp only [Act.put, List.setIfInBounds_toArray, List.set_cons_zero, List.set_cons_succ]
        refine wpAnyH_ready (rs := [10]) (by kernel_rfl) (by simp) ?_
        refine AllReadyH.cons (o := _) (dropAt (r := _) rfl) (fun K hK => ?_) AllReadyH.nil
        go_simp
        refine hK.out _ _ (hh9.grown (gb_set _ _ _ _) (fun e => hYpb (Option.some.inj e))) (fun hHeld12 => ?_)
        clear hK K
        try simp only [Act.put, List.setIfInBounds_toArray, List.set_cons_zero, List.set_cons_succ]
        refine wpAnyH_done (by kernel_rfl) ?_ _
        rw [List.length_append, List.length_singleton] at hr12 hb12
        generalize w9.setCell ⟨pb, 1, none⟩ (.slice (some ⟨gn9, 0, none⟩) (L.length + 1) cn9) = wz at hr12 hb12 ⊢
        have HRZ := Lib.hid hr12
        have HBZ := Lib.hid (HB3.out.trans hb12)
        obtain ⟨⟨_, z1, _⟩, _⟩ := hr12.cells
        clear hown9 hgr9 hh9 l9 g9 hh8 hHeld8 l1 g1 hHeld12 hHeld9 hown hYv hYpb hHeld hb12 hr12
        have HEND : Hid (R (.returned (I64 (L.length : Int))) wz) := by
          rw [HEQ.out]
          exact pn_add HBZ.out HNO.out HRZ.out
        have hb40 : (L.length : Int) ≤ 40 := by have := HLL.out; omega
        go_wp2_with fail
        exact HEND.out
end Go.Proofs.YtgnhbccmdpkbiaaGreatDoor
namespace Go.Proofs.YtgnhbccmdpkbiaaGreatDoor
open Go.RowKit Go.Shelf

structure PLSt (w0 : World) (pb B : Nat) (lv : Value) (L : List Fa.Node) (tl : Bool) (R0 : Nat) (op : List UInt8) (k b c : Int) (q : Bool) (r : List UInt8) (w : World) : Prop where
  ps : PS w pb B lv r L q tl
  res : w.heap[R0]? = some (.cells #[I64 k, S8 op, I64 b, I64 c] 34 (0, 0))
  gb : w0.grownBy w (some pb)
structure PLFix (w0 : World) (pb : Nat) (lv : Value) (R0 : Nat) : Prop where
  pr : pb ≠ R0
  vr : lv.ownBlock ≠ some R0
  r : w0.heap.size ≤ R0
section
variable {w0 : World} {pb B : Nat} {lv : Value} {L : List Fa.Node} {tl : Bool} {R0 : Nat} {op : List UInt8} {k b c : Int} {q : Bool} {r : List UInt8} {w : World}
theorem PLSt.call (h : PLSt w0 pb B lv L tl R0 op k b c q r w) (f : PLFix w0 pb lv R0) {w' : World} {q' : Bool} {r' : List UInt8} (hg : w.grownBy w' (some pb)) (hr : PS w' pb B lv r' L q' tl) : PLSt w0 pb B lv L tl R0 op k b c q' r' w' :=
  ⟨hr, (hg.block R0 (lt_of_block h.res) (fun e => f.pr (Option.some.inj e).symm)).trans h.res, gb_trans h.gb hg⟩
theorem PLSt.below (h : PLSt w0 pb B lv L tl R0 op k b c q r w) (f : PLFix w0 pb lv R0) {w' : World} (hb : Below w.heap.size w w') : PLSt w0 pb B lv L tl R0 op k b c q r w' := h.call f (gb_below hb) (h.ps.below hb)
theorem PLSt.setK (h : PLSt w0 pb B lv L tl R0 op k b c q r w) (f : PLFix w0 pb lv R0) (k' : Int) : PLSt w0 pb B lv L tl R0 op k' b c q r (w.setCell ⟨R0, 0, none⟩ (I64 k')) := ⟨h.ps.other f.pr f.vr, blk_set h.res 0 _, gb_other h.gb f.r⟩
theorem PLSt.setB (h : PLSt w0 pb B lv L tl R0 op k b c q r w) (f : PLFix w0 pb lv R0) (b' : Int) : PLSt w0 pb B lv L tl R0 op k b' c q r (w.setCell ⟨R0, 2, none⟩ (I64 b')) := ⟨h.ps.other f.pr f.vr, blk_set h.res 2 _, gb_other h.gb f.r⟩
theorem PLSt.setC (h : PLSt w0 pb B lv L tl R0 op k b c q r w) (f : PLFix w0 pb lv R0) (c' : Int) : PLSt w0 pb B lv L tl R0 op k b c' q r (w.setCell ⟨R0, 3, none⟩ (I64 c')) := ⟨h.ps.other f.pr f.vr, blk_set h.res 3 _, gb_other h.gb f.r⟩
theorem PLSt.cells (h : PLSt w0 pb B lv L tl R0 op k b c q r w) : (w.cell? ⟨R0, 0, none⟩ = some (I64 k) ∧ w.cell? ⟨R0, 1, none⟩ = some (S8 op) ∧ w.cell? ⟨R0, 2, none⟩ = some (I64 b) ∧ w.cell? ⟨R0, 3, none⟩ = some (I64 c)) ∧
    (w.frozen? ⟨R0, 0, none⟩ = false ∧ w.frozen? ⟨R0, 1, none⟩ = false ∧ w.frozen? ⟨R0, 2, none⟩ = false ∧ w.frozen? ⟨R0, 3, none⟩ = false) :=
  ⟨⟨blk_cell h.res 0, blk_cell h.res 1, blk_cell h.res 2, blk_cell h.res 3⟩, blk_free h.res 0, blk_free h.res 1, blk_free h.res 2, blk_free h.res 3⟩
theorem PLSt.set4 (h : PLSt w0 pb B lv L tl R0 op k b c q r w) (f : PLFix w0 pb lv R0) (k' b' c' : Int) (op' : List UInt8) :
    PLSt w0 pb B lv L tl R0 op' k' b' c' q r ((((w.setCell ⟨R0, 0, none⟩ (I64 k')).setCell ⟨R0, 1, none⟩ (S8 op')).setCell ⟨R0, 2, none⟩ (I64 b')).setCell ⟨R0, 3, none⟩ (I64 c')) :=
  ⟨(((h.ps.other f.pr f.vr).other f.pr f.vr).other f.pr f.vr).other f.pr f.vr, blk_set (blk_set (blk_set (blk_set h.res 0 (I64 k')) 1 (S8 op')) 2 (I64 b')) 3 (I64 c'), gb_other (gb_other (gb_other (gb_other h.gb f.r) f.r) f.r) f.r⟩
end
def PLinkPost (s : List UInt8) (L : List Fa.Node) (wd tl : Bool) (pb B : Nat) (lv : Value) (w : World) (e : Ending) (w' : World) : Prop := w.grownBy w' (some pb) ∧ match Fa.plink s with
  | some (x, q, r) => e = .returned (.tuple #[valLink x, .bool true]) ∧ PS w' pb B lv r L (wd || q) tl
  | none => ∃ x, e = .returned (.tuple #[valLink x, .bool false])
theorem pl_bad {s : List UInt8} {L : List Fa.Node} {wd tl : Bool} {pb B : Nat} {lv : Value} {w w' : World} (hg : w.grownBy w' (some pb)) (hp : Fa.plink s = none) {k b c : Int} {op : ByteArray} : PLinkPost s L wd tl pb B lv w (.returned (.tuple #[.agg #[I64 k, .string op, I64 b, I64 c], .bool false])) w' := by
  refine ⟨hg, ?_⟩
  rw [hp]
  exact ⟨⟨k, op, b, c⟩, rfl⟩
theorem pl_good {s : List UInt8} {L : List Fa.Node} {wd tl : Bool} {pb B : Nat} {lv : Value} {w w' : World} {x : Fa.Link} {q : Bool} {r : List UInt8} (hg : w.grownBy w' (some pb)) (hp : Fa.plink s = some (x, q, r)) (hr : PS w' pb B lv r L (wd || q) tl) : PLinkPost s L wd tl pb B lv w (.returned (.tuple #[valLink x, .bool true])) w' := by
  refine ⟨hg, ?_⟩
  rw [hp]
  exact ⟨rfl, hr⟩
theorem start_P {w w1 : World} {pb B : Nat} {lv : Value} {s r : List UInt8} {L : List Fa.Node} {wd tl : Bool} (h : PS w pb B lv s L wd tl) (hg : (w.alloc (.cells #[I64 0, .string ⟨#[]⟩, I64 0, I64 0] 34)).grownBy w1 (some pb)) (h1 : PS w1 pb B lv r L wd tl) :
    PLFix w pb lv w.heap.size ∧ PLSt w pb B lv L tl w.heap.size [] 0 0 0 wd r w1 := by
  have hp := h.pb_lt
  have hl : ∀ k, lv.ownBlock = some k → k < w.heap.size := fun k hk => (h.2.1.lt k hk).2
  refine ⟨⟨by omega, fun e => ?_, Nat.le_refl _⟩, ⟨h1, ?_, gb_trans (gb_alloc w _ _) hg⟩⟩
  · have := hl _ e; omega
  · exact (hg.block w.heap.size (by simp) (fun e => by injection e with e; omega)).trans (blk_new _ _)
theorem idx_names (k : Nat) (hk : k < 17) (w : World) : (Instr.index 143 (.agg #[.string ⟨#[]⟩, .string ⟨#[115, 104, 117, 116, 100, 111, 119, 110]⟩, .string ⟨#[110, 111, 45, 98, 97, 99, 107, 101, 110, 100]⟩, .string ⟨#[113, 117, 101, 117, 101, 45, 102, 117, 108, 108]⟩, .string ⟨#[100, 101, 97, 100, 108, 105, 110, 101]⟩, .string ⟨#[99, 97, 110, 99, 101, 108, 101, 100]⟩, .string ⟨#[100, 105, 97, 108]⟩, .string ⟨#[114, 101, 102, 117, 115, 101, 100]⟩, .string ⟨#[114, 101, 115, 101, 116]⟩, .string ⟨#[116, 114, 117, 110, 99, 97, 116, 101, 100]⟩, .string ⟨#[109, 97, 108, 102, 111, 114, 109, 101, 100]⟩, .string ⟨#[116, 111, 111, 45, 108, 97, 114, 103, 101]⟩, .string ⟨#[115, 117, 114, 112, 108, 117, 115]⟩, .string ⟨#[111, 112, 101, 110]⟩, .string ⟨#[100, 111, 119, 110]⟩, .string ⟨#[99, 108, 111, 115, 101, 100]⟩, .string ⟨#[101, 120, 104, 97, 117, 115, 116, 101, 100]⟩]) (.int .i64 k)).run Tryz.prog w = .ok (S8 (Fa.names.getD k [])) w := by
  rcases (by omega : k = 0 ∨ k = 1 ∨ k = 2 ∨ k = 3 ∨ k = 4 ∨ k = 5 ∨ k = 6 ∨ k = 7 ∨ k = 8 ∨ k = 9 ∨ k = 10 ∨ k = 11 ∨ k = 12 ∨ k = 13 ∨ k = 14 ∨ k = 15 ∨ k = 16) with rfl | rfl | rfl | rfl | rfl | rfl | rfl | rfl | rfl | rfl | rfl | rfl | rfl | rfl | rfl | rfl | rfl
  all_goals kernel_rfl
set_option maxHeartbeats 8000000 in
set_option maxRecDepth 100000 in
theorem plink_any (s : List UInt8) (L : List Fa.Node) (wd tl : Bool) (pb B : Nat) (lv : Value) (w : World) (hE : EnvT w) (hpb10 : 10 ≤ pb) (h : PS w pb B lv s L wd tl) (hs : s.length ≤ 1000000) :
    Calls Tryz.prog 71 #[.pointer (some ⟨pb, 0, none⟩)] w (PLinkPost s L wd tl pb B lv w) := by
  have hb0 := (Below.refl w.heap.size w).alloc (Nat.le_refl _) (.cells #[I64 0, .string ⟨#[]⟩, I64 0, I64 0] 34)
  have HW := Lib.hid (pword_any s L wd tl pb B lv _ (h.below hb0) hs)
  have HN := Lib.hid (fun w => name_any ⟨(Fa.wordOf s).toArray⟩ w (by rw [size_arr]; have := wordOf_len s; unfold maxLen; omega))
  have hnl : Wd.name (⟨(Fa.wordOf s).toArray⟩ : ByteArray).data.toList = Wd.name (Fa.wordOf s) := rfl
  rw [hnl] at HN
  have HH := Lib.hid h
  have HS := Lib.hid hs
  have HTL := Lib.hid (Fa.wordTl_len s)
  have HEN : Hid (∀ w1, w.grownBy w1 (some pb) → EnvT w1) := fun w1 hg => hE.belowB (Nat.le_refl _) ((Below.refl 10 w).grown hg hE.f.big (fun k hk => by injection hk with hk; omega))
  have HNU : Hid (∀ (lo hi : Int) (r : List UInt8) (q : Bool) w1, 0 ≤ lo → r.length ≤ s.length → w.grownBy w1 (some pb) → PS w1 pb B lv r L q tl → Calls Tryz.prog 82 #[.pointer (some ⟨pb, 0, none⟩), I64 lo, I64 hi] w1 (PNumPost lo hi r L q tl pb B lv w1)) := fun lo hi r q w1 h1 h5 hg h6 => pnumber_any lo hi h1 r L q tl pb B lv w1 (HEN.out w1 hg) hpb10 h6 (by omega)
  have HPL := Lib.hid (Fa.plink_A s)
  clear h hs hnl hb0 hE
  obtain ⟨R, hR⟩ : ∃ R, R = PLinkPost s L wd tl pb B lv w := ⟨_, rfl⟩
  have HEQ := Lib.hid hR
  rw [← hR]
  clear hR
  go_enter Tryz.func71, Tryz.ntmps71
  go_wp2_with fail
  refine HW.out.mono ?_
  rintro e w1 ⟨rfl, hr1, hg1⟩
  obtain ⟨hfix, hst0⟩ := start_P HH.out hg1 hr1
  have HF := Lib.hid hfix
  obtain ⟨op, hop⟩ : ∃ op, op = Fa.wordOf s := ⟨_, rfl⟩
  have HOP := Lib.hid hop
  rw [← hop] at HN ⊢
  have hst := hst0.set4 hfix 0 (-1) 0 op
  obtain ⟨⟨y0, y1, y2, y3⟩, x0, x1, x2, x3⟩ := hst0.cells
  obtain ⟨⟨d0, d1, d2, d3⟩, f0, f1, f2, f3⟩ := hst.cells
  generalize w.heap.size = R0 at hst hst0 HF hfix y0 y1 y2 y3 x0 x1 x2 x3 d0 d1 d2 d3 f0 f1 f2 f3 ⊢
  have HST := Lib.hid hst
  clear hop hst hst0 hr1 hg1 hfix
  go_wp2_with fail
  refine (HN.out _).mono ?_
  rintro e w2 ⟨rfl, hx2⟩
  have hst2 := HST.out.below HF.out hx2
  have HST2 := Lib.hid hst2
  clear hx2 hst2 d0 d1 d2 d3 f0 f1 f2 f3 y0 y1 y2 y3 x0 x1 x2 x3 HST
  cases hnm : Wd.name op with
  | false =>
    have hpn : Fa.plink s = none := by
      rw [HPL.out]
      unfold Fa.plinkA Fa.plinkB
      rw [← HOP.out, hnm]
      rfl
    have hst9 := HST2.out
    have HEND : Hid (∀ w', w.grownBy w' (some pb) → R (.returned (.tuple #[.agg #[I64 0, S8 op, I64 (-1), I64 0], .bool false])) w') := fun w' hg => by
      rw [HEQ.out]
      exact pl_bad hg hpn
    have hsc := hst9.set4 HF.out 0 (-1) 0 op
    obtain ⟨⟨m0, m1, m2, m3⟩, o0, o1, o2, o3⟩ := hst9.cells
    obtain ⟨⟨z0, z1, z2, z3⟩, _⟩ := hsc.cells
    have HGB := Lib.hid hsc.gb
    clear hst9 hsc
    go_wp2_with fail
    refine bodyPost_ret (v := .tuple #[.agg #[I64 0, S8 op, I64 (-1), I64 0], .bool false]) (by rw [results_cell_tmp rfl]; go_simp) rfl ?_
    exact HEND.out _ HGB.out
  | true =>
    have HNM : Hid (Wd.name (Fa.wordOf s) = true) := by rw [← HOP.out]; exact hnm
    have HTK2 := Lib.hid (take_any Fa.sOn _ _ _ _ pb B lv w2 HST2.out.ps)
    clear hnm
    go_wp2_with fail
    refine HTK2.out.mono ?_
    rintro e w3 ⟨rfl, hr3, hg3⟩
    have hst3 := HST2.out.call HF.out hg3 hr3
    have HST3 := Lib.hid hst3
    clear hst3 hr3 hg3 HTK2 HST2
    obtain ⟨tk, htk⟩ : ∃ tk, tk = (Fa.pre Fa.sOn (Fa.wordTl s)).isSome := ⟨_, rfl⟩
    rw [← htk]
    have HT := Lib.hid htk
    clear htk
    go_upto_if 18 with fail
    go_cut [] (fun wx => ∃ (b : Int) (q : Bool) (r : List UInt8), Hid (PLSt w pb B lv L tl R0 op 0 b 0 q r wx) ∧ Hid (Fa.RelB s wd true b q r))
    case first =>
      cases tk with
      | false =>
        have hp : Fa.pre Fa.sOn (Fa.wordTl s) = none := by
          have := HT.out
          cases h : Fa.pre Fa.sOn (Fa.wordTl s) with
          | none => rfl
          | some _ => rw [h] at this; exact absurd this (by simp)
        have hst3 := HST3.out
        rw [hp, Option.getD_none] at hst3
        have HS3 := Lib.hid hst3
        have HX := Lib.hid (Fa.RelB.skip (wd := wd) HNM.out hp)
        clear hp hst3
        go_wp2_with fail
        go_meet
        exact ⟨-1, wd, _, HS3, HX⟩
      | true =>
        obtain ⟨r0, hp⟩ : ∃ r0, Fa.pre Fa.sOn (Fa.wordTl s) = some r0 := Option.isSome_iff_exists.1 HT.out.symm
        have hst3 := HST3.out
        rw [hp, Option.getD_some] at hst3
        have hl0 : r0.length ≤ s.length := by have := Fa.pre_len hp; have := HTL.out; omega
        have HNB := Lib.hid (HNU.out 0 15 r0 wd w3 (by decide) hl0 hst3.gb hst3.ps)
        have HS3 := Lib.hid hst3
        have HPR := Lib.hid hp
        clear hp hst3 hl0
        unfold PNumPost at HNB
        cases hq : Fa.pnum 0 15 r0 with
        | none =>
          rw [hq] at HNB
          have hpn : Fa.plink s = none := Fa.link_false (wd := wd) (b := 0) (c := 0) (q := wd) (r := Fa.wordTl r0) ((Fa.RelB.bad (b := 0) (q := wd) HNM.out HPR.out hq).fail (Nat.le_refl _))
          have HPN := Lib.hid hpn
          clear hq hpn
          go_wp2_with fail
          refine HNB.out.mono ?_
          rintro e w4 ⟨hg4, rfl, hr4⟩
          have hst9 := HS3.out.call HF.out hg4 hr4
          have HEND : Hid (∀ w', w.grownBy w' (some pb) → R (.returned (.tuple #[.agg #[I64 0, S8 op, I64 (-1), I64 0], .bool false])) w') := fun w' hg => by
            rw [HEQ.out]
            exact pl_bad hg HPN.out
          have hsc := hst9.set4 HF.out 0 (-1) 0 op
          obtain ⟨⟨m0, m1, m2, m3⟩, o0, o1, o2, o3⟩ := hst9.cells
          obtain ⟨⟨z0, z1, z2, z3⟩, _⟩ := hsc.cells
          have HGB := Lib.hid hsc.gb
          clear hst9 hsc hg4 hr4
          go_wp2_with fail
          refine bodyPost_ret (v := .tuple #[.agg #[I64 0, S8 op, I64 (-1), I64 0], .bool false]) (by rw [results_cell_tmp rfl]; go_simp) rfl ?_
          exact HEND.out _ HGB.out
        | some p =>
          obtain ⟨n, q2, r2⟩ := p
          rw [hq] at HNB
          have HX := Lib.hid (Fa.RelB.good (wd := wd) HNM.out HPR.out hq)
          clear hq
          go_wp2_with fail
          refine HNB.out.mono ?_
          rintro e w4 ⟨hg4, rfl, hr4⟩
          have hst4 := HS3.out.call HF.out hg4 hr4
          have HS4 := Lib.hid (hst4.setB HF.out n)
          obtain ⟨⟨d0, d1, d2, d3⟩, f0, f1, f2, f3⟩ := hst4.cells
          clear hst4 hg4 hr4
          go_wp2_with fail
          go_meet
          exact ⟨n, _, _, HS4, HX⟩
    case rest =>
    obtain ⟨b, q, r, HSB, HRB⟩ := hcut
    clear HST3 HT HNM
    have HLR := Lib.hid HRB.out.1
    have HTK5 := Lib.hid (take_any Fa.sOver _ _ _ _ pb B lv _ HSB.out.ps)
    go_wp2_with fail
    refine HTK5.out.mono ?_
    rintro e w5 ⟨rfl, hr5, hg5⟩
    have hst5 := HSB.out.call HF.out hg5 hr5
    have HST5 := Lib.hid hst5
    clear hr5 hg5 HSB hst5 HTK5
    obtain ⟨tk, htk⟩ : ∃ tk, tk = (Fa.pre Fa.sOver r).isSome := ⟨_, rfl⟩
    rw [← htk]
    have HT := Lib.hid htk
    clear htk
    go_upto_if 30 with fail
    go_cut [3] (fun _ wx => ∃ (b c : Int) (q : Bool) (r : List UInt8), Hid (PLSt w pb B lv L tl R0 op 0 b c q r wx) ∧ Hid (Fa.RelA s wd true b c q r))
    case first =>
      cases tk with
      | false =>
        have hp : Fa.pre Fa.sOver r = none := by
          have := HT.out
          cases h : Fa.pre Fa.sOver r with
          | none => rfl
          | some _ => rw [h] at this; exact absurd this (by simp)
        have hst3 := HST5.out
        rw [hp, Option.getD_none] at hst3
        have HS3 := Lib.hid hst3
        have HX := Lib.hid (HRB.out.pass hp)
        clear hp hst3
        go_wp2_with fail
        go_meet
        exact ⟨b, 0, q, _, HS3, HX⟩
      | true =>
        obtain ⟨r0, hp⟩ : ∃ r0, Fa.pre Fa.sOver r = some r0 := Option.isSome_iff_exists.1 HT.out.symm
        have hst3 := HST5.out
        rw [hp, Option.getD_some] at hst3
        have hl0 : r0.length ≤ s.length := by have := Fa.pre_len hp; have := HLR.out; omega
        have HNB := Lib.hid (HNU.out 1 1000000000 r0 q w5 (by decide) hl0 hst3.gb hst3.ps)
        have HS3 := Lib.hid hst3
        have HPR := Lib.hid hp
        clear hp hst3 hl0
        unfold PNumPost at HNB
        cases hq : Fa.pnum 1 1000000000 r0 with
        | none =>
          rw [hq] at HNB
          have hpn : Fa.plink s = none := Fa.link_false (HRB.out.stop (b' := 0) (c := 0) (q' := q) HPR.out hq)
          have HPN := Lib.hid hpn
          clear hq hpn
          go_wp2_with fail
          refine HNB.out.mono ?_
          rintro e w6 ⟨hg4, rfl, hr4⟩
          have hstc := HS3.out.call HF.out hg4 hr4
          obtain ⟨⟨d0, d1, d2, d3⟩, f0, f1, f2, f3⟩ := hstc.cells
          have HSC := Lib.hid (hstc.setC HF.out 0)
          clear hstc hg4 hr4
          have hst9 := HSC.out
          have HEND : Hid (∀ w', w.grownBy w' (some pb) → R (.returned (.tuple #[.agg #[I64 0, S8 op, I64 b, I64 0], .bool false])) w') := fun w' hg => by
            rw [HEQ.out]
            exact pl_bad hg HPN.out
          have hsc := hst9.set4 HF.out 0 b 0 op
          obtain ⟨⟨m0, m1, m2, m3⟩, o0, o1, o2, o3⟩ := hst9.cells
          obtain ⟨⟨z0, z1, z2, z3⟩, _⟩ := hsc.cells
          have HGB := Lib.hid hsc.gb
          clear hst9 hsc
          go_wp2_with fail
          refine bodyPost_ret (v := .tuple #[.agg #[I64 0, S8 op, I64 b, I64 0], .bool false]) (by rw [results_cell_tmp rfl]; go_simp) rfl ?_
          exact HEND.out _ HGB.out
        | some p =>
          obtain ⟨n, q2, r2⟩ := p
          rw [hq] at HNB
          have HX := Lib.hid (HRB.out.take HPR.out hq)
          clear hq
          go_wp2_with fail
          refine HNB.out.mono ?_
          rintro e w6 ⟨hg4, rfl, hr4⟩
          have hst4 := HS3.out.call HF.out hg4 hr4
          have HS4 := Lib.hid (hst4.setC HF.out n)
          obtain ⟨⟨d0, d1, d2, d3⟩, f0, f1, f2, f3⟩ := hst4.cells
          clear hst4 hg4 hr4
          go_wp2_with fail
          go_meet
          exact ⟨b, n, _, _, HS4, HX⟩
    case rest =>
    clear HST5 HT HRB HLR
    obtain ⟨b, c, q, r, HSB, HRA⟩ := hcut
    have HLR := Lib.hid HRA.out.1
    have HTK7 := Lib.hid (take_any [58, 32] _ _ _ _ pb B lv _ HSB.out.ps)
    go_wp2_with fail
    refine HTK7.out.mono ?_
    rintro e w7 ⟨rfl, hr7, hg7⟩
    have hst7 := HSB.out.call HF.out hg7 hr7
    clear hr7 hg7 HSB HNU HTK7
    cases hp : Fa.pre [58, 32] r with
    | none =>
      rw [hp] at hst7
      have hpl : Fa.plink s = none := by
        have h1 := HRA.out.2
        rw [HPL.out]
        cases ha : Fa.plinkA s with
        | none => rfl
        | some p =>
          obtain ⟨b', c', q', r'⟩ := p
          rw [ha] at h1
          obtain ⟨_, _, _, _, rfl⟩ := h1
          dsimp only
          rw [hp]
      have HPN := Lib.hid hpl
      clear hp hpl
      have hst9 := hst7
      have HEND : Hid (∀ w', w.grownBy w' (some pb) → R (.returned (.tuple #[.agg #[I64 0, S8 op, I64 b, I64 c], .bool false])) w') := fun w' hg => by
        rw [HEQ.out]
        exact pl_bad hg HPN.out
      have hsc := hst9.set4 HF.out 0 b c op
      obtain ⟨⟨m0, m1, m2, m3⟩, o0, o1, o2, o3⟩ := hst9.cells
      obtain ⟨⟨z0, z1, z2, z3⟩, _⟩ := hsc.cells
      have HGB := Lib.hid hsc.gb
      clear hst9 hsc hst7
      go_wp2_with fail
      refine bodyPost_ret (v := .tuple #[.agg #[I64 0, S8 op, I64 b, I64 c], .bool false]) (by rw [results_cell_tmp rfl]; go_simp) rfl ?_
      exact HEND.out _ HGB.out
    | some r3 =>
      rw [hp, Option.getD_some] at hst7
      have hl3 : r3.length ≤ s.length := by have := Fa.pre_len hp; have := HLR.out; omega
      have HWB := Lib.hid (pword_any r3 L q tl pb B lv w7 hst7.ps (by have := HS.out; omega))
      have HL3 := Lib.hid hl3
      have HPR := Lib.hid hp
      have HS7 := Lib.hid hst7
      clear hp hl3 hst7
      go_wp2_with fail
      refine HWB.out.mono ?_
      rintro e w8 ⟨rfl, hr8, hg8⟩
      have hst8 := HS7.out.call HF.out hg8 hr8
      have hen := (HEN.out w8 hst8.gb).f
      have n0 := hen.nm 0 (by decide)
      have n1 := hen.nm 1 (by decide)
      have n2 := hen.nm 2 (by decide)
      have n3 := hen.nm 3 (by decide)
      have n4 := hen.nm 4 (by decide)
      have n5 := hen.nm 5 (by decide)
      have n6 := hen.nm 6 (by decide)
      have n7 := hen.nm 7 (by decide)
      have n8 := hen.nm 8 (by decide)
      have n9 := hen.nm 9 (by decide)
      have n10 := hen.nm 10 (by decide)
      have n11 := hen.nm 11 (by decide)
      have n12 := hen.nm 12 (by decide)
      have n13 := hen.nm 13 (by decide)
      have n14 := hen.nm 14 (by decide)
      have n15 := hen.nm 15 (by decide)
      have n16 := hen.nm 16 (by decide)
      simp only [Fa.names, List.getD_cons_zero, List.getD_cons_succ] at n0 n1 n2 n3 n4 n5 n6 n7 n8 n9 n10 n11 n12 n13 n14 n15 n16
      obtain ⟨x3, hx3⟩ : ∃ x3, x3 = Fa.wordOf r3 := ⟨_, rfl⟩
      rw [← hx3]
      have HX3 := Lib.hid hx3
      have HS8 : Hid (PLSt w pb B lv L tl R0 op ((Fa.kindUpTo x3 0 : Nat) : Int) b c q (Fa.wordTl r3) w8) := hst8
      clear hst8 hr8 hg8 hx3 HWB HS7 hen
      go_wp2
      clear n0 n1 n2 n3 n4 n5 n6 n7 n8 n9 n10 n11 n12 n13 n14 n15 n16
      have HST : Hid (PLSt w pb B lv L tl R0 op ((Fa.kindUpTo x3 0 : Nat) : Int) b c q (Fa.wordTl r3) w8) := HS8
      go_loopw [47] (fun kv wr => ∃ k : Nat, k ≤ 17 ∧ kv = .int .i64 k ∧ Hid (PLSt w pb B lv L tl R0 op ((Fa.kindUpTo x3 k : Nat) : Int) b c q (Fa.wordTl r3) wr)) (fun kv _ => 17 - (intOf kv).toNat)
      case atStart => exact ⟨0, by decide, rfl, HST⟩
      case round =>
        obtain ⟨k, hk17, rfl, hst⟩ := hrel
        by_cases hlt : k < 17
        · have i1 : (k : Int) < 17 := by omega
          have ixk := idx_names k hlt
          obtain ⟨nml, hnml⟩ : ∃ nml, nml = Fa.names.getD k [] := ⟨_, rfl⟩
          rw [← hnml] at ixk
          have HKU : Hid (Fa.kindUpTo x3 (k + 1) = if k ≠ 0 ∧ nml = x3 then k else Fa.kindUpTo x3 k) := by rw [hnml]; rfl
          obtain ⟨⟨d0, d1, d2, d3⟩, f0, f1, f2, f3⟩ := hst.out.cells
          by_cases hnx : nml = x3
          · have hb : (nml == x3) = true := by rw [beq_iff_eq]; exact hnx
            by_cases hk0 : k = 0
            · have i2 : ¬ (0 : Int) < (k : Int) := by omega
              have HU : Hid (PLSt w pb B lv L tl R0 op ((Fa.kindUpTo x3 (k + 1) : Nat) : Int) b c q (Fa.wordTl r3) wr) := by
                rw [HKU.out, if_neg (fun h => h.1 hk0)]
                exact hst.out
              clear hnml hnx hk0
              go_wp2_with fail
              case roundEnd => exact ⟨⟨k + 1, by omega, by go_num, HU⟩, by simp [intOf]; omega⟩
            · have i2 : (0 : Int) < (k : Int) := by omega
              have HU : Hid (PLSt w pb B lv L tl R0 op ((Fa.kindUpTo x3 (k + 1) : Nat) : Int) b c q (Fa.wordTl r3) (wr.setCell ⟨R0, 0, none⟩ (I64 (k : Int)))) := by
                rw [HKU.out, if_pos ⟨hk0, hnx⟩]
                exact hst.out.setK HF.out (k : Int)
              clear hnml hnx hk0
              go_wp2_with fail
              case roundEnd => exact ⟨⟨k + 1, by omega, by go_num, HU⟩, by simp [intOf]; omega⟩
          · have hb : (nml == x3) = false := by rw [beq_eq_false_iff_ne]; exact hnx
            have HU : Hid (PLSt w pb B lv L tl R0 op ((Fa.kindUpTo x3 (k + 1) : Nat) : Int) b c q (Fa.wordTl r3) wr) := by
              rw [HKU.out, if_neg (fun h => hnx h.2)]
              exact hst.out
            clear hnml hnx
            go_wp2_with fail
            case roundEnd => exact ⟨⟨k + 1, by omega, by go_num, HU⟩, by simp [intOf]; omega⟩
        · have i1 : ¬ (k : Int) < 17 := by omega
          have hk : k = 17 := by omega
          have hst9 := hst.out
          rw [hk] at hst9
          have HKK : Hid (Fa.kindOf x3 = Fa.kindUpTo x3 17) := rfl
          obtain ⟨q', hq', hpl⟩ := Fa.link_true HRA.out HPR.out
          rw [← HX3.out, HKK.out, ← HOP.out] at hpl
          have HQ := Lib.hid hq'
          clear hk hq'
          by_cases hK : Fa.kindUpTo x3 17 = 0
          · rw [if_pos hK] at hpl
            have i5 : ¬ (0 : Int) < ((Fa.kindUpTo x3 17 : Nat) : Int) := by omega
            have hsc := hst9.set4 HF.out ((Fa.kindUpTo x3 17 : Nat) : Int) b c op
            obtain ⟨⟨m0, m1, m2, m3⟩, o0, o1, o2, o3⟩ := hst9.cells
            obtain ⟨⟨z0, z1, z2, z3⟩, _⟩ := hsc.cells
            have HSC := Lib.hid hsc
            have HEND : Hid (R (.returned (.tuple #[.agg #[I64 ((Fa.kindUpTo x3 17 : Nat) : Int), S8 op, I64 b, I64 c], .bool (decide ((0 : Int) < ((Fa.kindUpTo x3 17 : Nat) : Int)))])) ((((wr.setCell ⟨R0, 0, none⟩ (I64 ((Fa.kindUpTo x3 17 : Nat) : Int))).setCell ⟨R0, 1, none⟩ (S8 op)).setCell ⟨R0, 2, none⟩ (I64 b)).setCell ⟨R0, 3, none⟩ (I64 c))) := by
              rw [HEQ.out]
              rw [decide_eq_false i5]
              exact pl_bad HSC.out.gb hpl
            generalize ((Fa.kindUpTo x3 17 : Nat) : Int) = KV at m0 z0 z1 z2 z3 HEND i5
            clear hst9 hsc hpl hK HSC
            go_wp2_with fail
            refine bodyPost_ret (v := .tuple #[.agg #[I64 KV, S8 op, I64 b, I64 c], .bool (decide ((0 : Int) < KV))]) (by rw [results_cell_tmp rfl]; go_simp) rfl ?_
            exact HEND.out
          · rw [if_neg hK] at hpl
            have i5 : (0 : Int) < ((Fa.kindUpTo x3 17 : Nat) : Int) := by omega
            have hsc := hst9.set4 HF.out ((Fa.kindUpTo x3 17 : Nat) : Int) b c op
            obtain ⟨⟨m0, m1, m2, m3⟩, o0, o1, o2, o3⟩ := hst9.cells
            obtain ⟨⟨z0, z1, z2, z3⟩, _⟩ := hsc.cells
            have HSC := Lib.hid hsc
            have HEND : Hid (R (.returned (.tuple #[.agg #[I64 ((Fa.kindUpTo x3 17 : Nat) : Int), S8 op, I64 b, I64 c], .bool true])) ((((wr.setCell ⟨R0, 0, none⟩ (I64 ((Fa.kindUpTo x3 17 : Nat) : Int))).setCell ⟨R0, 1, none⟩ (S8 op)).setCell ⟨R0, 2, none⟩ (I64 b)).setCell ⟨R0, 3, none⟩ (I64 c))) := by
              rw [HEQ.out]
              exact pl_good HSC.out.gb hpl (by rw [← HQ.out]; exact HSC.out.ps)
            generalize ((Fa.kindUpTo x3 17 : Nat) : Int) = KV at m0 z0 z1 z2 z3 HEND i5
            clear hst9 hsc hpl hK HSC
            go_wp2_with fail
            refine bodyPost_ret (v := .tuple #[.agg #[I64 KV, S8 op, I64 b, I64 c], .bool true]) (by rw [results_cell_tmp rfl]; go_simp) rfl ?_
            exact HEND.out
end Go.Proofs.YtgnhbccmdpkbiaaGreatDoor
namespace Go.Proofs.YtgnhbccmdpkbiaaGreatDoor
namespace Fa
/-- A tree of depth d has its place behind a list. -/
def fits (L : List Node) (d : Int) (t : F) : Prop := L.length + t.nodes ≤ 40 ∧ d + t.hgt ≤ 13 ∧ t.wideJ = false
/-- Behind a tree: its nodes stand there, or the mark of what is too long is set. -/
def Out (L : List Node) (d : Int) (tl : Bool) (t : F) (L' : List Node) (tl' : Bool) : Prop := L'.length ≤ 40 ∧
  ((tl' = false ∧ tl = false ∧ fits L d t ∧ L' = L ++ t.chain d) ∨ (tl' = true ∧ (tl = true ∨ ¬ fits L d t) ∧ ∃ M, L' = L ++ M))
/-- A node is put, or it is too long. -/
def Put (L : List Node) (tl : Bool) (x : Node) (L1 : List Node) (tl1 : Bool) : Prop := L1.length ≤ 40 ∧
  ((¬ (L.length = 40 ∨ 12 < x.depth) ∧ L1 = L ++ [x] ∧ tl1 = tl) ∨ ((L.length = 40 ∨ 12 < x.depth) ∧ L1 = L ∧ tl1 = true))
theorem Put.leaf {L L1 : List Node} {tl tl1 : Bool} {d : Int} {x : Link} (h : Put L tl ⟨d, 0, x⟩ L1 tl1) (hL : L.length ≤ 40) : Out L d tl (.link x .nil .nil) L1 tl1 := by
  obtain ⟨h0, ⟨h1, h2, h3⟩ | ⟨h1, h2, h3⟩⟩ := h
  · refine ⟨h0, ?_⟩
    dsimp only at h1
    have hf : fits L d (.link x .nil .nil) := by
      refine ⟨?_, ?_, rfl⟩
      · simp only [F.nodes]; omega
      · simp only [F.hgt]; omega
    cases tl with
    | false => exact .inl ⟨h3, rfl, hf, by rw [h2]; rfl⟩
    | true => exact .inr ⟨h3, .inl rfl, _, h2⟩
  · refine ⟨h0, .inr ⟨h3, .inr ?_, [], by rw [h2, List.append_nil]⟩⟩
    rintro ⟨f1, f2, _⟩
    simp only [F.nodes] at f1
    simp only [F.hgt] at f2
    dsimp only at h1
    rcases h1 with h1 | h1 <;> omega
theorem Put.link {L L1 L2 : List Node} {tl tl1 tl2 : Bool} {d : Int} {x : Link} {c : F} (h : Put L tl ⟨d, 0, x⟩ L1 tl1) (hc : 1 ≤ c.len) (h2 : Out L1 (d + 1) tl1 c L2 tl2) : Out L d tl (.link x c .nil) L2 tl2 := by
  obtain ⟨h0, hp⟩ := h
  obtain ⟨g0, hg⟩ := h2
  refine ⟨g0, ?_⟩
  have hn : 1 ≤ c.nodes := Nat.le_trans hc (len_le_nodes c)
  rcases hp with ⟨h1, h2, h3⟩ | ⟨h1, h2, h3⟩
  · subst h2; subst h3
    dsimp only at h1
    have hiff : fits (L ++ [(⟨d, 0, x⟩ : Node)]) (d + 1) c ↔ fits L d (.link x c .nil) := by
      unfold fits
      simp only [List.length_append, List.length_singleton, F.nodes, F.hgt, F.wideJ, Bool.or_false]
      constructor
      · rintro ⟨a, b, e⟩; exact ⟨by omega, by omega, e⟩
      · rintro ⟨a, b, e⟩; exact ⟨by omega, by omega, e⟩
    rcases hg with ⟨a, b, e, f⟩ | ⟨a, b, M, f⟩
    · exact .inl ⟨a, b, hiff.1 e, by rw [f]; simp [F.chain]⟩
    · exact .inr ⟨a, b.imp id (fun h k => h (hiff.2 k)), ⟨d, 0, x⟩ :: M, by rw [f]; simp⟩
  · subst h2; subst h3
    rcases hg with ⟨_, b, _⟩ | ⟨a, _, M, f⟩
    · exact absurd b (by simp)
    · refine .inr ⟨a, .inr ?_, M, f⟩
      rintro ⟨f1, f2, _⟩
      simp only [F.nodes] at f1
      simp only [F.hgt] at f2
      dsimp only at h1
      rcases h1 with h1 | h1 <;> omega
def fitsP (L : List Node) (d : Int) (k : F) : Prop := L.length + k.nodes + 1 ≤ 40 ∧ d + ((k.hgt + 1 : Nat) : Int) ≤ 13 ∧ k.wideJ = false
/-- Where the loop over the faults of a join stands. -/
def OutK (L : List Node) (d : Int) (tl : Bool) (at' : Int) (k : F) (L2 : List Node) (tl2 : Bool) : Prop := L2.length ≤ 40 ∧ (at' = -1 ∨ at' = (L.length : Int) ∧ L.length < L2.length) ∧
  ((tl2 = false ∧ tl = false ∧ at' = (L.length : Int) ∧ fitsP L d k ∧ L2 = L ++ (⟨d, 0, Link.zero⟩ : Node) :: k.chain (d + 1)) ∨ (tl2 = true ∧ (tl = true ∨ ¬ fitsP L d k) ∧ ∃ M, L2 = L ++ M))
theorem OutK.push {L : List Node} {d : Int} {tl : Bool} (hL : L.length ≤ 40) (hc : ¬ (L.length = 40 ∨ 12 < d)) : OutK L d tl (L.length : Int) .nil (L ++ [⟨d, 0, Link.zero⟩]) tl := by
  refine ⟨by simp; omega, .inr ⟨rfl, by simp⟩, ?_⟩
  cases tl with
  | false => exact .inl ⟨rfl, rfl, rfl, ⟨by simp only [F.nodes]; omega, by simp only [F.hgt]; omega, rfl⟩, rfl⟩
  | true => exact .inr ⟨rfl, .inl rfl, _, rfl⟩
theorem OutK.full {L : List Node} {d : Int} {tl : Bool} (hL : L.length ≤ 40) (hc : L.length = 40 ∨ 12 < d) : OutK L d tl (-1) .nil L true := by
  refine ⟨hL, .inl rfl, .inr ⟨rfl, .inr ?_, [], by simp⟩⟩
  rintro ⟨f1, f2, _⟩
  simp only [F.nodes] at f1
  simp only [F.hgt] at f2
  rcases hc with h | h <;> omega
theorem OutK.next {L L2 L3 : List Node} {d at' : Int} {tl tl2 tl3 : Bool} {k t : F} (h : OutK L d tl at' k L2 tl2) (h2 : Out L2 (d + 1) tl2 t L3 tl3) : OutK L d tl at' (k.app t) L3 tl3 := by
  obtain ⟨h0, h1, hp⟩ := h
  obtain ⟨g0, hg⟩ := h2
  have hext : L2.length ≤ L3.length := by
    rcases hg with ⟨_, _, _, f⟩ | ⟨_, _, M, f⟩ <;> · rw [f, List.length_append]; omega
  refine ⟨g0, h1.imp id (fun ⟨x, y⟩ => ⟨x, by omega⟩), ?_⟩
  have hmono : fitsP L d (k.app t) → fitsP L d k := by
    unfold fitsP
    rw [app_nodes, app_hgt, app_wideJ, Bool.or_eq_false_iff]
    rintro ⟨a, b, c, _⟩
    exact ⟨by omega, by omega, c⟩
  rcases hp with ⟨rfl, rfl, ha, hf, rfl⟩ | ⟨rfl, hb, M, rfl⟩
  · have hiff : fits (L ++ (⟨d, 0, Link.zero⟩ : Node) :: k.chain (d + 1)) (d + 1) t ↔ fitsP L d (k.app t) := by
      obtain ⟨p1, p2, p3⟩ := hf
      unfold fits fitsP
      rw [app_nodes, app_hgt, app_wideJ, Bool.or_eq_false_iff, List.length_append, List.length_cons, chain_length]
      constructor
      · rintro ⟨a, b, c⟩; exact ⟨by omega, by omega, p3, c⟩
      · rintro ⟨a, b, _, c⟩; exact ⟨by omega, by omega, c⟩
    rcases hg with ⟨a, b, e, f⟩ | ⟨a, b, M, f⟩
    · exact .inl ⟨a, rfl, ha, hiff.1 e, by rw [f, app_chain]; simp⟩
    · refine .inr ⟨a, .inr ?_, (⟨d, 0, Link.zero⟩ : Node) :: k.chain (d + 1) ++ M, by rw [f]; simp⟩
      rcases b with b | b
      · exact absurd b (by simp)
      · exact fun h => b (hiff.2 h)
  · rcases hg with ⟨_, b, _⟩ | ⟨a, _, M2, f⟩
    · exact absurd b (by simp)
    · exact .inr ⟨a, hb.imp id (fun h g => h (hmono g)), M ++ M2, by rw [f]; simp⟩
/-- The join's number of faults is entered. -/
theorem OutK.done {L L2 : List Node} {d : Int} {tl tl2 : Bool} {k : F} (h : OutK L d tl (L.length : Int) k L2 tl2) (x : Node) (hx : x = ⟨d, (k.len : Nat), Link.zero⟩ ∨ tl2 = true) : Out L d tl (.join k .nil) (L2.set L.length x) (tl2 || decide (8 < k.len)) := by
  obtain ⟨h0, h1, hp⟩ := h
  refine ⟨by rw [List.length_set]; exact h0, ?_⟩
  have hff : fits L d (.join k .nil) ↔ fitsP L d k ∧ ¬ 8 < k.len := by
    unfold fits fitsP
    simp only [F.nodes, F.hgt, F.wideJ, Bool.or_false, Bool.or_eq_false_iff, decide_eq_false_iff_not]
    constructor
    · rintro ⟨a, b, c, e⟩; exact ⟨⟨by omega, by omega, e⟩, c⟩
    · rintro ⟨⟨a, b, e⟩, c⟩; exact ⟨by omega, by omega, c, e⟩
  rcases hp with ⟨rfl, rfl, ha, hf, rfl⟩ | ⟨rfl, hb, M, rfl⟩
  · rw [Bool.false_or]
    have hset : (L ++ (⟨d, 0, Link.zero⟩ : Node) :: k.chain (d + 1)).set L.length x = L ++ x :: k.chain (d + 1) := by
      rw [List.set_append_right _ _ (Nat.le_refl _), Nat.sub_self]
      rfl
    rw [hset]
    by_cases h8 : 8 < k.len
    · exact .inr ⟨decide_eq_true h8, .inr (fun h => (hff.1 h).2 h8), _, rfl⟩
    · refine .inl ⟨decide_eq_false h8, rfl, hff.2 ⟨hf, h8⟩, ?_⟩
      rcases hx with rfl | hx
      · simp [F.chain]
      · exact absurd hx (by simp)
  · refine .inr ⟨by simp, hb.imp id (fun h g => h (hff.1 g).1), M.set 0 x, ?_⟩
    rw [List.set_append_right _ _ (Nat.le_refl _), Nat.sub_self]
theorem OutK.done' {L L2 : List Node} {d : Int} {tl tl2 : Bool} {k : F} (h : OutK L d tl (-1) k L2 tl2) : Out L d tl (.join k .nil) L2 (tl2 || decide (8 < k.len)) := by
  obtain ⟨h0, h1, hp⟩ := h
  refine ⟨h0, ?_⟩
  rcases hp with ⟨_, _, ha, _⟩ | ⟨rfl, hb, M, rfl⟩
  · exact absurd ha (by omega)
  · refine .inr ⟨by simp, hb.imp id (fun h g => h ?_), M, rfl⟩
    obtain ⟨a, b, c⟩ := g
    simp only [F.nodes] at a
    simp only [F.hgt] at b
    simp only [F.wideJ, Bool.or_false, Bool.or_eq_false_iff] at c
    exact ⟨by omega, by omega, c.2⟩
/-- Where the loop over links stands: whatever comes of what is left comes of the whole. -/
def Goes (s : Str) (L : List Node) (d : Int) (wd tl : Bool) (r : Str) (L1 : List Node) (d1 : Int) (wd1 tl1 : Bool) : Prop := r.length ≤ s.length ∧ d1 + r.length ≤ d + s.length ∧ d ≤ d1 ∧ (ppT false r = none → ppT false s = none) ∧
  ∀ t q r' L' tl', ppT false r = some (t, q, r') → Out L1 d1 tl1 t L' tl' → ∃ t2 q2, ppT false s = some (t2, q2, r') ∧ (wd1 || q) = (wd || q2) ∧ Out L d tl t2 L' tl'
theorem Goes.start (s : Str) (L : List Node) (d : Int) (wd tl : Bool) : Goes s L d wd tl s L d wd tl := ⟨Nat.le_refl _, Int.le_refl _, Int.le_refl _, fun h => h, fun t q _ _ _ h1 h2 => ⟨t, q, h1, rfl, h2⟩⟩
theorem Goes.fail {s r : Str} {L L1 : List Node} {d d1 : Int} {wd tl wd1 tl1 : Bool} (h : Goes s L d wd tl r L1 d1 wd1 tl1) (h1 : pre [40] r = none) (h2 : plink r = none) : ppT false s = none := h.2.2.2.1 (by rw [ppT_link h1, h2])
theorem Goes.leaf {s r r1 : Str} {L L1 L2 : List Node} {d d1 : Int} {wd tl wd1 tl1 tl2 q : Bool} {x : Link} (h : Goes s L d wd tl r L1 d1 wd1 tl1) (h1 : pre [40] r = none) (h2 : plink r = some (x, q, r1)) (h3 : pre [59, 32] r1 = none) (hp : Put L1 tl1 ⟨d1, 0, x⟩ L2 tl2) (hL : L1.length ≤ 40) :
    ∃ t2 q2, ppT false s = some (t2, q2, r1) ∧ (wd1 || q) = (wd || q2) ∧ Out L d tl t2 L2 tl2 := by
  refine h.2.2.2.2 (.link x .nil .nil) q r1 L2 tl2 ?_ (hp.leaf hL)
  rw [ppT_link h1, h2]
  simp only [h3]
theorem Goes.link {s r r1 r2 : Str} {L L1 L2 : List Node} {d d1 : Int} {wd tl wd1 tl1 tl2 q : Bool} {x : Link} (h : Goes s L d wd tl r L1 d1 wd1 tl1) (h1 : pre [40] r = none) (h2 : plink r = some (x, q, r1)) (h3 : pre [59, 32] r1 = some r2) (hp : Put L1 tl1 ⟨d1, 0, x⟩ L2 tl2) :
    Goes s L d wd tl r2 L2 (d1 + 1) (wd1 || q) tl2 := by
  have e1 := plink_len h2
  have e2 := pre_len h3
  simp only [List.length_cons, List.length_nil] at e2
  have e3 := h.1
  have e4 := h.2.1
  have e5 := h.2.2.1
  refine ⟨by omega, by omega, by omega, fun hn => h.2.2.2.1 ?_, fun t q3 r' L' tl' ht ho => ?_⟩
  · rw [ppT_link h1, h2]
    simp only [h3, hn]
  · have hl := (parse_ok ht).1
    obtain ⟨t2, q2, a, b, c⟩ := h.2.2.2.2 (.link x t .nil) (q || q3) r' L' tl' (by rw [ppT_link h1, h2]; simp only [h3, ht]) (hp.link (by omega) ho)
    exact ⟨t2, q2, a, by rw [Bool.or_assoc]; exact b, c⟩
end Fa
end Go.Proofs.YtgnhbccmdpkbiaaGreatDoor
namespace Go.Proofs.YtgnhbccmdpkbiaaGreatDoor
namespace Fa
theorem Goes.join {s r s1 r4 : Str} {L L1 L4 : List Node} {d d1 : Int} {wd tl wd1 tl1 tl4 q : Bool} {k : F} (h : Goes s L d wd tl r L1 d1 wd1 tl1) (h1 : pre [40] r = some s1) (h2 : ppT true s1 = some (k, q, r4)) (hk : 1 < k.len) (ho : Out L1 d1 tl1 (.join k .nil) L4 tl4) :
    ∃ t2 q2, ppT false s = some (t2, q2, r4) ∧ (wd1 || q) = (wd || q2) ∧ Out L d tl t2 L4 tl4 := by
  refine h.2.2.2.2 (.join k .nil) q r4 L4 tl4 ?_ ho
  rw [ppT_join h1, h2]
  simp only [if_pos hk]
theorem Goes.one {s r s1 r4 : Str} {L L1 : List Node} {d d1 : Int} {wd tl wd1 tl1 q : Bool} {k : F} (h : Goes s L d wd tl r L1 d1 wd1 tl1) (h1 : pre [40] r = some s1) (h2 : ppT true s1 = some (k, q, r4)) (hk : ¬ 1 < k.len) : ppT false s = none := h.2.2.2.1 (by
  rw [ppT_join h1, h2]
  simp only [if_neg hk])
theorem Goes.no {s r s1 : Str} {L L1 : List Node} {d d1 : Int} {wd tl wd1 tl1 : Bool} (h : Goes s L d wd tl r L1 d1 wd1 tl1) (h1 : pre [40] r = some s1) (h2 : ppT true s1 = none) : ppT false s = none := h.2.2.2.1 (by rw [ppT_join h1, h2])
end Fa
open Go.RowKit Go.Shelf

def PSE (w : World) (pb B : Nat) (s : List UInt8) (L : List Fa.Node) (wd tl : Bool) : Prop := ∃ lv, PS w pb B lv s L wd tl
def PFPost (s : List UInt8) (L : List Fa.Node) (wd tl : Bool) (pb B : Nat) (d : Int) (w : World) (e : Ending) (w' : World) : Prop := Below pb w w' ∧ match Fa.ppT false s with
  | some (t, q, r) => e = .returned (.bool true) ∧ ∃ L' tl', PSE w' pb B r L' (wd || q) tl' ∧ Fa.Out L d tl t L' tl'
  | none => e = .returned (.bool false)
def PFC (n : Nat) : Prop := ∀ (s : List UInt8) (L : List Fa.Node) (wd tl : Bool) (pb B : Nat) (d : Int) (w : World), s.length ≤ n → 0 ≤ d → d + s.length ≤ 2000000 → L.length ≤ 40 → s.length ≤ 1000000 → 10 ≤ pb → EnvT w → PSE w pb B s L wd tl →
  Calls Tryz.prog 55 #[.pointer (some ⟨pb, 0, none⟩), I64 d] w (PFPost s L wd tl pb B d w)
theorem pf_none {s : List UInt8} {L : List Fa.Node} {wd tl : Bool} {pb B : Nat} {d : Int} {w w' : World} (hb : Below pb w w') (h : Fa.ppT false s = none) : PFPost s L wd tl pb B d w (.returned (.bool false)) w' := by
  refine ⟨hb, ?_⟩
  rw [h]
theorem pf_some {s r : List UInt8} {L L' : List Fa.Node} {wd tl wd1 tl' : Bool} {pb B : Nat} {d : Int} {w w' : World} {q : Bool} (hb : Below pb w w') (h : ∃ t2 q2, Fa.ppT false s = some (t2, q2, r) ∧ (wd1 || q) = (wd || q2) ∧ Fa.Out L d tl t2 L' tl') (hr : PSE w' pb B r L' (wd1 || q) tl') : PFPost s L wd tl pb B d w (.returned (.bool true)) w' := by
  obtain ⟨t2, q2, h1, h2, h3⟩ := h
  refine ⟨hb, ?_⟩
  rw [h1]
  exact ⟨rfl, L', tl', by rw [← h2]; exact hr, h3⟩
theorem strAt_ps {w : World} {pb B : Nat} {lv : Value} {s : List UInt8} {L : List Fa.Node} {wd tl : Bool} (h : PS w pb B lv s L wd tl) : strAt w pb = s.length := by
  have := blk_cell h.1 0
  unfold strAt
  rw [this]
  exact size_arr s
/-- Where the loop over links stands. -/
def LJ (s : List UInt8) (L : List Fa.Node) (d : Int) (wd tl : Bool) (pb B : Nat) (w : World) (d1 : Int) (wr : World) : Prop := ∃ r L1 wd1 tl1, PSE wr pb B r L1 wd1 tl1 ∧ Fa.Goes s L d wd tl r L1 d1 wd1 tl1 ∧ L1.length ≤ 40 ∧ Below pb w wr
/-- Where the loop over the faults of a join stands. -/
def KJ (L1 : List Fa.Node) (d1 : Int) (wd1 tl1 : Bool) (s1 : List UInt8) (m : Int) (pb B : Nat) (w : World) (n : Int) (wr : World) : Prop := ∃ k q r L3 tl3, n = ((Fa.F.len k : Nat) : Int) ∧ PSE wr pb B r L3 (wd1 || q) tl3 ∧ Fa.Pend s1 k q r ∧ Fa.OutK L1 d1 tl1 m k L3 tl3 ∧ Below pb w wr
theorem Fa.OutK.node {L L2 : List Fa.Node} {d : Int} {tl tl2 : Bool} {k : Fa.F} (h : Fa.OutK L d tl (L.length : Int) k L2 tl2) (hl : L.length < L2.length) {n : Int} (hn : n = ((k.len : Nat) : Int)) : (⟨L2[L.length].depth, n, L2[L.length].link⟩ : Fa.Node) = ⟨d, (k.len : Nat), Fa.Link.zero⟩ ∨ tl2 = true := by
  obtain ⟨_, _, ⟨_, _, _, _, rfl⟩ | ⟨h1, _⟩⟩ := h
  · left
    rw [hn]
    have : (L ++ (⟨d, 0, Fa.Link.zero⟩ : Fa.Node) :: k.chain (d + 1))[L.length] = ⟨d, 0, Fa.Link.zero⟩ := by
      rw [List.getElem_append_right (Nat.le_refl _)]
      simp
    rw [this]
  · exact .inr h1
theorem pn_put {x : Fa.Node} {s : List UInt8} {L : List Fa.Node} {wd tl : Bool} {pb B : Nat} {lv : Value} {w w' : World} {e : Ending} (h : PNodePost x s L wd tl pb B lv w e w') (hL : L.length ≤ 40) : ∃ m L1 tl1, e = .returned (I64 m) ∧ PSE w' pb B s L1 wd tl1 ∧ Fa.Put L tl x L1 tl1 ∧ Below pb w w' ∧ L1.length ≤ 40 ∧
    (x = ⟨x.depth, 0, Fa.Link.zero⟩ → Fa.OutK L x.depth tl m .nil L1 tl1) := by
  obtain ⟨hb, ⟨hc, he, hr⟩ | ⟨hc, he, lv', hr⟩⟩ := h
  · exact ⟨-1, L, true, he, ⟨_, hr⟩, ⟨hL, .inr ⟨hc, rfl, rfl⟩⟩, hb, hL, fun _ => Fa.OutK.full hL hc⟩
  · refine ⟨_, _, tl, he, ⟨_, hr⟩, ⟨by simp; omega, .inl ⟨hc, rfl, rfl⟩⟩, hb, by simp; omega, fun hx => ?_⟩
    have := Fa.OutK.push (d := x.depth) (tl := tl) hL hc
    rw [← hx] at this
    exact this
set_option maxHeartbeats 8000000 in
set_option maxRecDepth 100000 in
theorem pfault_step (n : Nat) (hI : ∀ m, m < n → PFC m) : PFC n := by
  intro s L wd tl pb B d w hn h0 hd hL hs hpb10 hE h
  have HPB : Hid (pb < w.heap.size) := by
    obtain ⟨lv, h⟩ := h
    exact h.pb_lt
  have HST : Hid (LJ s L d wd tl pb B w d w) := ⟨s, L, wd, tl, h, Fa.Goes.start s L d wd tl, hL, Below.refl _ _⟩
  have HI := Lib.hid hI
  have HLN := Lib.hid hn
  have HD := Lib.hid hd
  have HS := Lib.hid hs
  have HP10 := Lib.hid hpb10
  have HEN : Hid (∀ w1, Below pb w w1 → EnvT w1) := fun w1 hb => hE.belowB hpb10 hb
  clear h hI hn hd hL hs hpb10 hE
  obtain ⟨R, hR⟩ : ∃ R, R = PFPost s L wd tl pb B d w := ⟨_, rfl⟩
  have HEQ := Lib.hid hR
  rw [← hR]
  clear hR
  go_enter Tryz.func55, Tryz.ntmps55
  go_wp2
  go_loopw [1] (fun dv wr => ∃ d1 : Int, dv = .int .i64 d1 ∧ Hid (LJ s L d wd tl pb B w d1 wr)) (fun _ wr => strAt wr pb)
  case atStart => exact ⟨d, rfl, HST⟩
  case round =>
    obtain ⟨d1, rfl, hlj⟩ := hrel
    obtain ⟨r, L1, wd1, tl1, ⟨lv, hps⟩, hgo, hl1, hb1⟩ := hlj.out
    have HGO := Lib.hid hgo
    have HL1 := Lib.hid hl1
    have HB1 := Lib.hid hb1
    have HSA := Lib.hid (strAt_ps hps)
    have HPB1 := Lib.hid hps.pb_lt
    have hrs : r.length ≤ s.length := hgo.1
    have HRS := Lib.hid hrs
    have hd1 : d1 ≤ 2000000 ∧ 0 ≤ d1 := by
      have h1 := hgo.2.1
      have h2 := hgo.2.2.1
      have h3 := HD.out
      omega
    obtain ⟨hd1a, hd1b⟩ := hd1
    have HTK := Lib.hid (take_any [40] r L1 wd1 tl1 pb B lv wr hps)
    clear hps hgo hl1 hb1 hlj hrs
    go_wp2_with fail
    refine HTK.out.mono ?_
    rintro e w1 ⟨rfl, hr1, hg1⟩
    have hb2 := HB1.out.grown hg1 (Nat.le_of_lt HPB1.out) (fun k h => by injection h with h; omega)
    have HB2 := Lib.hid hb2
    clear hb2 hg1 HTK
    cases hp : Fa.pre [40] r with
    | none =>
      rw [hp, Option.getD_none] at hr1
      have HLK := Lib.hid (plink_any r L1 wd1 tl1 pb B lv w1 (HEN.out w1 HB2.out) HP10.out hr1 (by have := HRS.out; have := HS.out; omega))
      have HP := Lib.hid hp
      have HPB2 := Lib.hid hr1.pb_lt
      clear hr1 hp
      unfold PLinkPost at HLK
      cases hlk : Fa.plink r with
      | none =>
        rw [hlk] at HLK
        have hsn := HGO.out.fail HP.out hlk
        have HSN := Lib.hid hsn
        clear hsn hlk
        go_wp2_with fail
        refine HLK.out.mono ?_
        rintro e w2 ⟨hg2, ⟨⟨kd, op, bk, cn⟩, rfl⟩⟩
        have HEND : Hid (∀ w', Below pb w w' → R (.returned (.bool false)) w') := fun w' hb => by
          rw [HEQ.out]
          exact pf_none hb HSN.out
        have hb3 := HB2.out.grown hg2 (Nat.le_of_lt HPB2.out) (fun k h => by injection h with h; omega)
        have HB3 := Lib.hid hb3
        have hs3 := hg2.size
        have HS3 := Lib.hid hs3
        unfold valLink
        dsimp only
        clear hg2 hb3 hs3
        go_wp2_with fail
        exact HEND.out _ (HB3.out.alloc (by have := HS3.out; have := HPB2.out; omega) _)
      | some p =>
        obtain ⟨x, q, r1⟩ := p
        rw [hlk] at HLK
        have HLKS := Lib.hid hlk
        clear hlk
        go_wp2_with fail
        refine HLK.out.mono ?_
        rintro e w2 ⟨hg2, rfl, hr2⟩
        have hb3 := HB2.out.grown hg2 (Nat.le_of_lt HPB2.out) (fun k h => by injection h with h; omega)
        obtain ⟨kd, op, bk, cn⟩ := x
        unfold valLink
        dsimp only
        have hbY := (Below.refl w2.heap.size w2).alloc (Nat.le_refl _) (.cells #[I64 kd, .string op, I64 bk, I64 cn] 34)
        have hr3 := hr2.below hbY
        have hb4 := hb3.trans (hbY.mono (Nat.le_of_lt hr2.pb_lt))
        have HND := Lib.hid (pnode_any ⟨d1, 0, ⟨kd, op, bk, cn⟩⟩ r1 L1 (wd1 || q) tl1 pb B lv _ hr3 HL1.out)
        have HB4 := Lib.hid hb4
        clear hg2 hr2 hb3 hbY hr3 hb4
        go_wp2_with fail
        refine HND.out.mono ?_
        rintro e w5 hpn
        obtain ⟨m, L2, tl2, rfl, ⟨lv5, hr5⟩, hput, hx5, hl2, _⟩ := pn_put hpn HL1.out
        have hb5 := HB4.out.trans hx5
        have HB5 := Lib.hid hb5
        have HPB5 := Lib.hid hr5.pb_lt
        have HPUT := Lib.hid hput
        have HL2 := Lib.hid hl2
        have HTK6 := Lib.hid (take_any [59, 32] r1 L2 (wd1 || q) tl2 pb B lv5 w5 hr5)
        clear hpn hr5 hput hx5 hl2 hb5 HND
        go_wp2_with fail
        refine HTK6.out.mono ?_
        rintro e w6 ⟨rfl, hr6, hg6⟩
        have hb6 := HB5.out.grown hg6 (Nat.le_of_lt HPB5.out) (fun k h => by injection h with h; omega)
        have HB6 := Lib.hid hb6
        clear hg6 hb6 HTK6
        cases hp2 : Fa.pre [59, 32] r1 with
        | none =>
          rw [hp2, Option.getD_none] at hr6
          have hgl := HGO.out.leaf HP.out HLKS.out hp2 HPUT.out HL1.out
          have HEND : Hid (R (.returned (.bool true)) w6) := by
            rw [HEQ.out]
            exact pf_some HB6.out hgl ⟨_, hr6⟩
          clear hr6 hp2 hgl
          go_wp2_with fail
          exact HEND.out
        | some r2 =>
          rw [hp2, Option.getD_some] at hr6
          have hgl := HGO.out.link HP.out HLKS.out hp2 HPUT.out
          have HN : Hid (LJ s L d wd tl pb B w (d1 + 1) w6) := ⟨r2, L2, _, tl2, ⟨_, hr6⟩, hgl, HL2.out, HB6.out⟩
          have HM : Hid (strAt w6 pb < strAt wr pb) := by
            show _ < _
            rw [HSA.out, strAt_ps hr6]
            have h1 := Fa.pre_len hp2
            have h2 := Fa.plink_len HLKS.out
            omega
          clear hr6 hp2 hgl
          go_wp2_with fail
          case roundEnd => exact ⟨⟨d1 + 1, by first | rfl | go_num, HN⟩, HM.out⟩
    | some s1 =>
      rw [hp, Option.getD_some] at hr1
      have HP := Lib.hid hp
      have HR1 := Lib.hid hr1
      have HND := Lib.hid (pnode_any ⟨d1, 0, Fa.Link.zero⟩ s1 L1 wd1 tl1 pb B lv w1 hr1 HL1.out)
      clear hp hr1
      go_wp2_with fail
      refine HND.out.mono ?_
      rintro e w5 hpn
      obtain ⟨m, L2, tl2, rfl, ⟨lv5, hr5⟩, hput, hx5, hl2, hok⟩ := pn_put hpn HL1.out
      have hb5 := HB2.out.trans hx5
      have HJ0 : Hid (KJ L1 d1 wd1 tl1 s1 m pb B w 0 w5) := ⟨.nil, false, s1, L2, tl2, rfl, ⟨lv5, by rw [Bool.or_false]; exact hr5⟩, Fa.Pend.start s1, hok rfl, hb5⟩
      have hs1 := Fa.pre_len HP.out
      simp only [List.length_cons, List.length_nil] at hs1
      have HS1 := Lib.hid hs1
      clear hpn hr5 hput hx5 hl2 hok hb5 HND hs1
      go_wp2
      go_loopw [8] (fun mv wr => ∃ n : Int, mv = .int .i64 n ∧ Hid (KJ L1 d1 wd1 tl1 s1 m pb B w n wr)) (fun _ wr => strAt wr pb)
      case atStart => exact ⟨0, rfl, HJ0⟩
      case round =>
        obtain ⟨nk, rfl, hkj⟩ := hrel
        obtain ⟨k, q, r2, L3, tl3, hnk, ⟨lv3, hr3⟩, hpd, hok3, hb3⟩ := hkj.out
        obtain ⟨hpl1, hpl2⟩ := pend_len hpd
        have e1 := HLN.out
        have e2 := HD.out
        have e4 := HS.out
        have e5 := HS1.out
        have e6 := HGO.out.2.1
        have e7 := HRS.out
        have HC := Lib.hid (HI.out r2.length (by omega) r2 L3 (wd1 || q) tl3 pb B (d1 + 1) wr (Nat.le_refl _) (by omega) (by omega) hok3.1 (by omega) HP10.out (HEN.out _ hb3) ⟨_, hr3⟩)
        have HPD := Lib.hid hpd
        have HOK3 := Lib.hid hok3
        have HB3 := Lib.hid hb3
        have HSA2 := Lib.hid (strAt_ps hr3)
        have HPB3 := Lib.hid hr3.pb_lt
        have hkl : 0 ≤ nk ∧ nk ≤ 2000000 := by omega
        obtain ⟨hkl1, hkl2⟩ := hkl
        have HNK := Lib.hid hnk
        clear hr3 hpd hok3 hb3 hkj hpl1 hpl2 e1 e2 e4 e5 e6 e7 hnk
        cases hpt : Fa.ppT false r2 with
        | none =>
          have hsn := HGO.out.no HP.out (HPD.out.none hpt)
          have HSN := Lib.hid hsn
          have HPT := Lib.hid hpt
          clear hpt hsn
          go_wp2_with fail
          refine HC.out.mono ?_
          rintro e w6 ⟨hb6, hpost⟩
          rw [HPT.out] at hpost
          obtain rfl := hpost
          have HEND : Hid (R (.returned (.bool false)) w6) := by
            rw [HEQ.out]
            exact pf_none (HB3.out.trans hb6) HSN.out
          clear hb6
          go_wp2_with fail
          exact HEND.out
        | some p =>
          obtain ⟨t, q3, r3⟩ := p
          have HPT := Lib.hid hpt
          have HTL := Lib.hid (Fa.parse_ok hpt).1
          have HTR := Lib.hid (Fa.ppT_len hpt)
          clear hpt
          go_wp2_with fail
          refine HC.out.mono ?_
          rintro e w6 ⟨hb6, hpost⟩
          rw [HPT.out] at hpost
          obtain ⟨rfl, L4, tl4, ⟨lv4, hr6⟩, hout4⟩ := hpost
          have hb6w := HB3.out.trans hb6
          have HB6 := Lib.hid hb6w
          have HOK4 := Lib.hid (HOK3.out.next hout4)
          have HPB6 := Lib.hid hr6.pb_lt
          have hkv : nk + 1 = (((k.app t).len : Nat) : Int) := by
            have h1 := Fa.app_len k t
            have h2 := HTL.out
            have h3 := HNK.out
            omega
          have HKV := Lib.hid hkv
          have HT7 := Lib.hid (take_any [41] r3 L4 _ tl4 pb B lv4 w6 hr6)
          clear hb6 hb6w hout4 hr6 hkv
          go_wp2_with fail
          refine HT7.out.mono ?_
          rintro e w7 ⟨rfl, hr7, hg7⟩
          have hb7 := HB6.out.grown hg7 (Nat.le_of_lt HPB6.out) (fun k h => by injection h with h; omega)
          have HB7 := Lib.hid hb7
          clear hg7 hb7 HT7
          cases hp4 : Fa.pre [41] r3 with
          | some r4 =>
            rw [hp4, Option.getD_some, Bool.or_assoc] at hr7
            have hlast := HPD.out.last HPT.out hp4
            have hat := HOK4.out.2.1
            clear hp4
            have hkv := HKV.out
            obtain ⟨KV, hKV⟩ : ∃ KV, KV = nk + 1 := ⟨_, rfl⟩
            rw [← hKV] at hkv
            have hw64 : KV ≤ 2000001 ∧ 0 ≤ KV := by omega
            by_cases hK8 : 8 < (k.app t).len
            · have i8 : (8 : Int) < nk + 1 := by omega
              have hK1 : 1 < (k.app t).len := by omega
              have i7 : (1 : Int) < nk + 1 := by omega
              rcases hat with hat | hat
              · skip
                have hr8 := hr7.set3 true
                have hb8 : Below pb w (w7.setCell ⟨pb, 3, none⟩ (.bool true)) := HB7.out.setCell (Nat.le_refl _) _
                obtain ⟨⟨y0, y1, y2, y3⟩, x0, x1, x2, x3⟩ := hr7.cells
                have hr9 := hr8
                have hb9 := hb8
                subst hat
                have hout := HOK4.out.done'
                rw [decide_eq_true hK8, Bool.or_true] at hout
                have HEND : Hid (R (.returned (.bool true)) (w7.setCell ⟨pb, 3, none⟩ (.bool true))) := by
                  rw [HEQ.out]
                  exact pf_some hb9 (HGO.out.join HP.out hlast hK1 hout) ⟨_, hr9⟩
                clear hr7 hr8 hr9 hb8 hb9 hlast hout hK8 hK1
                go_wp2_with fail
                exact HEND.out
              · skip
                have hr8 := hr7.set3 true
                have hb8 : Below pb w (w7.setCell ⟨pb, 3, none⟩ (.bool true)) := HB7.out.setCell (Nat.le_refl _) _
                obtain ⟨⟨y0, y1, y2, y3⟩, x0, x1, x2, x3⟩ := hr7.cells
                obtain ⟨hm1, hm2⟩ := hat
                obtain ⟨g, c, rfl, hgB, hgl⟩ := own_form hr8.2.1 (Nat.lt_of_le_of_lt (Nat.zero_le _) hm2)
                obtain ⟨m5, hm5⟩ : ∃ m5, m5 = L4.length := ⟨_, rfl⟩
                rw [← hm5] at hr8 hr7
                obtain ⟨c8, f8⟩ := cellAt encNode_len hr8.2.1 hm2 (i := 1) (u := I64 L4[L1.length].joined) rfl
                obtain ⟨hr9, hg9, _⟩ := hr8.setNode hm2 (nk + 1)
                have hb9 := hb8.grown hg9 (Nat.le_of_lt hr8.pb_lt) (fun k h => by injection h with h; omega)
                obtain ⟨⟨z0, z1, z2, z3⟩, _⟩ := hr8.cells
                have hbnd : (L1.length : Int) < (m5 : Int) := by omega
                have i9 : ¬ (L1.length : Int) < 0 := by omega
                have i10 : (0 : Int) ≤ (L1.length : Int) := by omega
                subst hm1
                have hout := HOK4.out.done _ (Fa.OutK.node HOK4.out hm2 HKV.out)
                rw [decide_eq_true hK8, Bool.or_true] at hout
                have HEND : Hid (R (.returned (.bool true)) ((w7.setCell ⟨pb, 3, none⟩ (.bool true)).setCell ⟨g, L1.length * 6 + 1, none⟩ (I64 (nk + 1)))) := by
                  rw [HEQ.out]
                  exact pf_some hb9 (HGO.out.join HP.out hlast hK1 hout) ⟨_, hr9⟩
                generalize L4[L1.length].joined = jv at c8
                clear hr7 hr8 hr9 hb8 hb9 hlast hout hK8 hK1 hgB hgl hm2 hg9 hm5
                go_wp2_with fail
                exact HEND.out
            · have i8 : ¬ (8 : Int) < nk + 1 := by omega
              by_cases hK1 : 1 < (k.app t).len
              · have i7 : (1 : Int) < nk + 1 := by omega
                rcases hat with hat | hat
                · skip
                  have hr8 := hr7
                  have hb8 := HB7.out
                  have hr9 := hr8
                  have hb9 := hb8
                  subst hat
                  have hout := HOK4.out.done'
                  rw [decide_eq_false hK8, Bool.or_false] at hout
                  have HEND : Hid (R (.returned (.bool true)) w7) := by
                    rw [HEQ.out]
                    exact pf_some hb9 (HGO.out.join HP.out hlast hK1 hout) ⟨_, hr9⟩
                  clear hr7 hr8 hr9 hb8 hb9 hlast hout hK8 hK1
                  go_wp2_with fail
                  exact HEND.out
                · skip
                  have hr8 := hr7
                  have hb8 := HB7.out
                  obtain ⟨hm1, hm2⟩ := hat
                  obtain ⟨g, c, rfl, hgB, hgl⟩ := own_form hr8.2.1 (Nat.lt_of_le_of_lt (Nat.zero_le _) hm2)
                  obtain ⟨m5, hm5⟩ : ∃ m5, m5 = L4.length := ⟨_, rfl⟩
                  rw [← hm5] at hr8 hr7
                  obtain ⟨c8, f8⟩ := cellAt encNode_len hr8.2.1 hm2 (i := 1) (u := I64 L4[L1.length].joined) rfl
                  obtain ⟨hr9, hg9, _⟩ := hr8.setNode hm2 (nk + 1)
                  have hb9 := hb8.grown hg9 (Nat.le_of_lt hr8.pb_lt) (fun k h => by injection h with h; omega)
                  obtain ⟨⟨z0, z1, z2, z3⟩, _⟩ := hr8.cells
                  have hbnd : (L1.length : Int) < (m5 : Int) := by omega
                  have i9 : ¬ (L1.length : Int) < 0 := by omega
                  have i10 : (0 : Int) ≤ (L1.length : Int) := by omega
                  subst hm1
                  have hout := HOK4.out.done _ (Fa.OutK.node HOK4.out hm2 HKV.out)
                  rw [decide_eq_false hK8, Bool.or_false] at hout
                  have HEND : Hid (R (.returned (.bool true)) (w7.setCell ⟨g, L1.length * 6 + 1, none⟩ (I64 (nk + 1)))) := by
                    rw [HEQ.out]
                    exact pf_some hb9 (HGO.out.join HP.out hlast hK1 hout) ⟨_, hr9⟩
                  generalize L4[L1.length].joined = jv at c8
                  clear hr7 hr8 hr9 hb8 hb9 hlast hout hK8 hK1 hgB hgl hm2 hg9 hm5
                  go_wp2_with fail
                  exact HEND.out
              · have i7 : ¬ (1 : Int) < nk + 1 := by omega
                rcases hat with hat | hat
                · skip
                  have hr8 := hr7
                  have hb8 := HB7.out
                  have hr9 := hr8
                  have hb9 := hb8
                  subst hat
                  have hout := HOK4.out.done'
                  rw [decide_eq_false hK8, Bool.or_false] at hout
                  have HEND : Hid (R (.returned (.bool (decide ((1 : Int) < (nk + 1))))) w7) := by
                    rw [HEQ.out, decide_eq_false i7]
                    exact pf_none hb9 (HGO.out.one HP.out hlast hK1)
                  clear hr7 hr8 hr9 hb8 hb9 hlast hout hK8 hK1
                  go_wp2_with fail
                  exact HEND.out
                · skip
                  have hr8 := hr7
                  have hb8 := HB7.out
                  obtain ⟨hm1, hm2⟩ := hat
                  obtain ⟨g, c, rfl, hgB, hgl⟩ := own_form hr8.2.1 (Nat.lt_of_le_of_lt (Nat.zero_le _) hm2)
                  obtain ⟨m5, hm5⟩ : ∃ m5, m5 = L4.length := ⟨_, rfl⟩
                  rw [← hm5] at hr8 hr7
                  obtain ⟨c8, f8⟩ := cellAt encNode_len hr8.2.1 hm2 (i := 1) (u := I64 L4[L1.length].joined) rfl
                  obtain ⟨hr9, hg9, _⟩ := hr8.setNode hm2 (nk + 1)
                  have hb9 := hb8.grown hg9 (Nat.le_of_lt hr8.pb_lt) (fun k h => by injection h with h; omega)
                  obtain ⟨⟨z0, z1, z2, z3⟩, _⟩ := hr8.cells
                  have hbnd : (L1.length : Int) < (m5 : Int) := by omega
                  have i9 : ¬ (L1.length : Int) < 0 := by omega
                  have i10 : (0 : Int) ≤ (L1.length : Int) := by omega
                  subst hm1
                  have hout := HOK4.out.done _ (Fa.OutK.node HOK4.out hm2 HKV.out)
                  rw [decide_eq_false hK8, Bool.or_false] at hout
                  have HEND : Hid (R (.returned (.bool (decide ((1 : Int) < (nk + 1))))) (w7.setCell ⟨g, L1.length * 6 + 1, none⟩ (I64 (nk + 1)))) := by
                    rw [HEQ.out, decide_eq_false i7]
                    exact pf_none hb9 (HGO.out.one HP.out hlast hK1)
                  generalize L4[L1.length].joined = jv at c8
                  clear hr7 hr8 hr9 hb8 hb9 hlast hout hK8 hK1 hgB hgl hm2 hg9 hm5
                  go_wp2_with fail
                  exact HEND.out
          | none =>
            rw [hp4, Option.getD_none] at hr7
            have HP4 := Lib.hid hp4
            have HT8 := Lib.hid (take_any [32, 38, 32] r3 L4 _ tl4 pb B lv4 w7 hr7)
            have HPB7 := Lib.hid hr7.pb_lt
            clear hr7 hp4
            go_wp2_with fail
            refine HT8.out.mono ?_
            rintro e w8 ⟨rfl, hr8, hg8⟩
            have hb8 := HB7.out.grown hg8 (Nat.le_of_lt HPB7.out) (fun k h => by injection h with h; omega)
            have HB8 := Lib.hid hb8
            clear hg8 hb8 HT8
            cases hp5 : Fa.pre [32, 38, 32] r3 with
            | none =>
              have hsn := HGO.out.no HP.out (HPD.out.stop HPT.out HP4.out hp5)
              have HEND : Hid (R (.returned (.bool false)) w8) := by
                rw [HEQ.out]
                exact pf_none HB8.out hsn
              clear hr8 hp5 hsn
              go_wp2_with fail
              exact HEND.out
            | some r4 =>
              rw [hp5, Option.getD_some, Bool.or_assoc] at hr8
              have HN : Hid (KJ L1 d1 wd1 tl1 s1 m pb B w (nk + 1) w8) := ⟨k.app t, q || q3, r4, L4, tl4, HKV.out, ⟨_, hr8⟩, HPD.out.next HPT.out HP4.out hp5, HOK4.out, HB8.out⟩
              have HM : Hid (strAt w8 pb < strAt wr pb) := by
                show _ < _
                rw [HSA2.out, strAt_ps hr8]
                have h1 := Fa.pre_len hp5
                have h2 := HTR.out
                omega
              clear hr8 hp5
              go_wp2_with fail
              case roundEnd => exact ⟨⟨nk + 1, by first | rfl | go_num, HN⟩, HM.out⟩
theorem pfault_all : ∀ n, PFC n := by
  intro n
  induction n using Nat.strongRecOn with
  | ind n ih => exact pfault_step n ih
end Go.Proofs.YtgnhbccmdpkbiaaGreatDoor
namespace Go.Proofs.YtgnhbccmdpkbiaaGreatDoor
namespace Fa
theorem chain_ops {t : F} (h : t.read) (d : Int) : ∀ x ∈ t.chain d, x.link.op.size ≤ 16 := by
  induction t generalizing d with
  | nil => intro x hx; cases hx
  | link y c r ihc ihr =>
    intro x hx
    simp only [F.chain, List.mem_cons, List.mem_append] at hx
    rcases hx with rfl | hx | hx
    · have h1 := h.1
      unfold okName Wd.name at h1
      show y.op.size ≤ 16
      rw [size_list]
      split at h1
      · exact absurd h1 (by simp)
      · simp only [Bool.and_eq_true, decide_eq_true_eq] at h1
        exact h1.1.1
    · exact ihc h.2.2.1 _ x hx
    · exact ihr h.2.2.2 _ x hx
  | join k r ihc ihr =>
    intro x hx
    simp only [F.chain, List.mem_cons, List.mem_append] at hx
    rcases hx with rfl | hx | hx
    · exact Nat.zero_le _
    · exact ihc h.2.1 _ x hx
    · exact ihr h.2.2 _ x hx
theorem fits_big {t : F} : fits [] 0 t ↔ big t = false := by
  unfold fits big
  simp only [List.length_nil, Bool.or_eq_false_iff, decide_eq_false_iff_not]
  constructor
  · rintro ⟨a, b, c⟩; exact ⟨⟨by omega, by omega⟩, c⟩
  · rintro ⟨⟨a, b⟩, c⟩; exact ⟨by omega, by omega, c⟩
end Fa
open Go.RowKit Go.Shelf
theorem own_nodes {w : World} {B : Nat} {v : Value} {l : List Fa.Node} (h : OwnL 52 6 encNode w B v l) : NodesIn w v l := by
  refine ⟨h.reads encNode_len, ?_⟩
  rcases h.2 with ⟨rfl, h0⟩ | ⟨g, cap, cur, rfl, _, _, h1, _⟩
  · exact ⟨none, 0, by rw [h0], by omega⟩
  · exact ⟨_, cap, rfl, h1⟩
def PParsePost (s : List UInt8) (w : World) (e : Ending) (w' : World) : Prop := Below w.heap.size w w' ∧
  (((Fa.parse s).1 ≠ 0 ∧ e = .returned (.tuple #[.nilIface, I64 (Fa.parse s).1])) ∨ ((Fa.parse s).1 = 0 ∧ ∃ rf, e = .returned (.tuple #[valE rf, I64 0]) ∧ Holds (fun _ => True) w' (Fa.parse s).2 [valE rf]))
theorem pp_bad {s : List UInt8} {w w' : World} {E : Int} {t : Fa.F} (hb : Below w.heap.size w w') (h : Fa.parse s = (E, t)) (hE : E ≠ 0) : PParsePost s w (.returned (.tuple #[.nilIface, I64 E])) w' := by
  refine ⟨hb, .inl ?_⟩
  rw [h]
  exact ⟨hE, rfl⟩
theorem pp_ok' {s : List UInt8} {w w' : World} {t : Fa.F} {rf : Ref} (hb : Below w.heap.size w w') (h : Fa.parse s = (0, t)) (hr : Holds (fun _ => True) w' t [valE rf]) : PParsePost s w (.returned (.tuple #[valE rf, I64 0])) w' := by
  refine ⟨hb, .inr ?_⟩
  rw [h]
  exact ⟨rfl, rf, rfl, hr⟩
theorem ps_new (w : World) (s : List UInt8) : PS (w.alloc (.cells #[S8 s, .slice none 0 0, .bool false, .bool false] 114)) w.heap.size (w.heap.size + 1) (.slice none 0 0) s [] false false :=
  ⟨blk_new w _, OwnL.nil _ _, Nat.lt_succ_self _, by simp⟩
set_option maxHeartbeats 8000000 in
set_option maxRecDepth 100000 in
theorem pparse_any (s : List UInt8) (w : World) (hE : EnvT w) (hs : s.length ≤ 1000000) : Calls Tryz.prog 31 #[S8 s] w (PParsePost s w) := by
  have hb0 := (Below.refl w.heap.size w).alloc (Nat.le_refl _) (.cells #[S8 s, .slice none 0 0, .bool false, .bool false] 114)
  have HC := Lib.hid (pfault_all s.length s [] false false w.heap.size (w.heap.size + 1) 0 _ (Nat.le_refl _) (by decide) (by omega) (by simp) hs hE.f.big (hE.below hb0) ⟨_, ps_new w s⟩)
  have HB0 := Lib.hid hb0
  clear hb0 hs hE
  obtain ⟨R, hR⟩ : ∃ R, R = PParsePost s w := ⟨_, rfl⟩
  have HEQ := Lib.hid hR
  rw [← hR]
  clear hR
  cases hpt : Fa.ppT false s with
  | none =>
    have HPN := Lib.hid (Fa.parse_none hpt)
    have HPT := Lib.hid hpt
    clear hpt
    go_enter Tryz.func31, Tryz.ntmps31
    go_wp2_with fail
    refine HC.out.mono ?_
    rintro e w1 ⟨hb1, hpost⟩
    rw [HPT.out] at hpost
    obtain rfl := hpost
    have HEND : Hid (R (.returned (.tuple #[.nilIface, I64 6])) w1) := by
      rw [HEQ.out]
      exact pp_bad (HB0.out.trans hb1) HPN.out (by decide)
    clear hb1
    go_wp2_with fail
    exact HEND.out
  | some p =>
    obtain ⟨t, q, r⟩ := p
    have HPT := Lib.hid hpt
    have HOK := Lib.hid (Fa.parse_ok hpt)
    have HPM : Hid (r ≠ [] → Fa.parse s = (6, .nil)) := Fa.parse_more hpt
    have HPA : Hid (r = [] → Fa.parse s = if q then (7, .nil) else if Fa.big t then (3, .nil) else (0, t)) := by
      intro hr
      subst hr
      exact Fa.parse_all hpt
    clear hpt
    go_enter Tryz.func31, Tryz.ntmps31
    go_wp2_with fail
    refine HC.out.mono ?_
    rintro e w1 ⟨hb1, hpost⟩
    rw [HPT.out] at hpost
    obtain ⟨rfl, L', tl', ⟨lv, hr1⟩, hout⟩ := hpost
    rw [Bool.false_or] at hr1
    have hb1w := HB0.out.trans hb1
    have HB1 := Lib.hid hb1w
    obtain ⟨⟨c0, c1, c2, c3⟩, _⟩ := hr1.cells
    have HR1 := Lib.hid hr1
    have HOUT := Lib.hid hout
    have hex : r.isEmpty = true ∨ r.isEmpty = false := by cases r.isEmpty <;> simp
    clear hb1 hb1w hr1 hout
    rcases hex with hex | hex
    · have hr0 : r = [] := List.isEmpty_iff.1 hex
      have hpa := HPA.out hr0
      cases q with
      | true =>
        rw [if_pos rfl] at hpa
        have HEND : Hid (R (.returned (.tuple #[.nilIface, I64 7])) w1) := by
          rw [HEQ.out]
          exact pp_bad HB1.out hpa (by decide)
        clear hpa hr0
        go_wp2_with fail
        exact HEND.out
      | false =>
        rw [if_neg (by simp)] at hpa
        cases tl' with
        | true =>
          have hbig : Fa.big t = true := by
            rcases HOUT.out.2 with ⟨h, _⟩ | ⟨_, h, _⟩
            · exact absurd h (by simp)
            · rcases h with h | h
              · exact absurd h (by simp)
              · cases hb : Fa.big t with
                | true => rfl
                | false => exact absurd (Fa.fits_big.2 hb) h
          rw [if_pos hbig] at hpa
          have HEND : Hid (R (.returned (.tuple #[.nilIface, I64 3])) w1) := by
            rw [HEQ.out]
            exact pp_bad HB1.out hpa (by decide)
          clear hpa hr0 hbig
          go_wp2_with fail
          exact HEND.out
        | false =>
          have hh : Fa.fits [] 0 t ∧ L' = t.chain 0 := by
            rcases HOUT.out.2 with ⟨_, _, h1, h2⟩ | ⟨h, _⟩
            · exact ⟨h1, by simpa using h2⟩
            · exact absurd h (by simp)
          obtain ⟨hf, rfl⟩ := hh
          have hbig := Fa.fits_big.1 hf
          rw [if_neg (by rw [hbig]; simp)] at hpa
          have hbc := Fa.build_chain HOK.out.1 HOK.out.2.1 (HOK.out.2.2 rfl) hbig
          have HBA := Lib.hid (build_any lv (t.chain 0) w1 (own_nodes HR1.out.2.1) (by have := HOUT.out.1; omega) (fun x hx => Nat.le_trans (Fa.chain_ops HOK.out.2.1 0 x hx) (by unfold maxLen; omega)))
          have HBC := Lib.hid hbc
          have HPB := Lib.hid hpa
          clear hpa hr0 hbig hf hbc
          go_wp2_with fail
          refine HBA.out.mono ?_
          rintro e w2 ⟨_, h2, hx2⟩
          obtain ⟨rf, rfl, hh2⟩ := h2 (by rw [HBC.out])
          rw [HBC.out] at hh2
          have HEND : Hid (R (.returned (.tuple #[valE rf, I64 0])) w2) := by
            rw [HEQ.out]
            exact pp_ok' (HB1.out.trans (hx2.mono HB1.out.size)) HPB.out (hh2.mono (fun _ _ _ => trivial))
          clear hh2 hx2 h2
          obtain ⟨ty, pv, hty⟩ := valE_iface rf
          rw [hty] at HEND ⊢
          clear hty
          go_wp2_with fail
          exact HEND.out
    · have hpm := HPM.out (fun e => by rw [e] at hex; exact absurd hex (by decide))
      have HEND : Hid (R (.returned (.tuple #[.nilIface, I64 6])) w1) := by
        rw [HEQ.out]
        exact pp_bad HB1.out hpm (by decide)
      clear hpm
      go_wp2_with fail
      exact HEND.out
end Go.Proofs.YtgnhbccmdpkbiaaGreatDoor
