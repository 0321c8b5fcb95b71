/-
  Walks: words.List.
-/
import Derived.Test.YtffkohdnhaebjaaGreatDoorShelfB
import Derived.Test.YtffkohdnhaebjaaGreatDoorW17
import Derived.Test.YtffkohdnhaebjaaGreatDoorW6
import Derived.Test.YtffkohdnhaebjaaGreatDoorPlain
import Derived.Lib.ItoaLen
import Derived.BigQuiet
import Derived.IntWalk
namespace Go.Proofs.YtffkohdnhaebjaaGreatDoor
open Go.RowKit Go.Shelf

theorem Env.below2 {w w' : World} (h : Env w) (hb : Below w.heap.size w w') : Env w' := h.below hb
theorem isB_new (w : World) : IsB w.heap.size w.heap.size [] (w.alloc (.cells #[.pointer none, .slice none 0 0] 51)) := by
  refine .inl ⟨Nat.le_refl _, .slice none 0 0, ?_, World.ownsRow_nil _ _ _ _, by simp [Value.ownBlock]⟩
  show (w.heap.push _)[w.heap.size]? = some _
  simp
theorem isB_below {B b : Nat} {l : List UInt8} {w w' : World} (h : IsB B b l w) (hb : Below w.heap.size w w') : IsB B b l w' := by
  have go : ∀ p, Lib.BuilderAt 51 5 B b p (Lib.byteCells l) w → Lib.BuilderAt 51 5 B b p (Lib.byteCells l) w' := by
    rintro p ⟨h1, v, h2, h3, h4⟩
    refine ⟨h1, v, ?_, ?_, h4⟩
    · rw [hb.block b (Array.getElem?_eq_some_iff.1 h2).1]; exact h2
    · refine ⟨h3.1, ?_⟩
      rcases h3.2 with hn | ⟨g, cap, cur, rfl, hbg, hg, rest⟩
      · exact .inl hn
      · refine .inr ⟨g, cap, cur, rfl, hbg, ?_, rest⟩
        rw [hb.block g (Array.getElem?_eq_some_iff.1 hg).1]; exact hg
  rcases h with h | h
  · exact .inl (go _ h)
  · exact .inr (go _ h)
theorem below_dn {B : Nat} {a w : World} (h : Below B a w) (n : Nat) : Below B a (w.drewN n) := ⟨h.os, h.tape, h.output, h.size, h.block⟩
theorem itoa_pos (n : Int) : 0 < (Lib.itoa n).length := by
  unfold Lib.itoa
  split
  · simp
  · rw [Lib.decDigits_length, Lib.nDigits]
    split <;> omega
theorem itoa_any (n : Int) (h0 : 0 ≤ n) (h1 : n ≤ 1000000000) (w : World) (hE : Env w) :
    Calls Tryz.prog 24 #[.int .i64 n] w fun e w' => e = .returned (S8 (Lib.itoa n)) ∧ Below w.heap.size w w' := by
  refine (Tryz.strconv_Itoa n (by omega) (by omega) w hE.tab).mono ?_
  rintro e w' ⟨h1, h2⟩
  exact ⟨h1, below_grow h2⟩

def encI (n : Int) : List Value := [.int .i64 n]
def listEnd (l : List Int) : Ending := .returned (.tuple #[S8 (Wd.listTxt l).1, .int .i64 (Wd.listTxt l).2])
theorem list_long {l : List Int} (h : 500 < l.length) : listEnd l = .returned (.tuple #[.string ⟨#[]⟩, .int .i64 3]) := by unfold listEnd Wd.listTxt; rw [if_pos h]
theorem list_range {l : List Int} {k : Nat} (h : ¬ 500 < l.length) (hk : k < l.length) (h2 : l[k] < 0 ∨ 1000000000 < l[k]) : listEnd l = .returned (.tuple #[.string ⟨#[]⟩, .int .i64 7]) := by
  unfold listEnd Wd.listTxt; rw [if_neg h, if_pos]
  rw [List.any_eq_true]; exact ⟨l[k], List.getElem_mem _, by simpa using h2⟩
theorem list_none {l : List Int} (h2 : ∀ j (hj : j < l.length), 0 ≤ l[j] ∧ l[j] ≤ 1000000000) : ¬ (l.any (fun n => decide (n < 0) || decide (1000000000 < n))) = true := by
  rw [Bool.not_eq_true, List.any_eq_false]
  intro f hf
  obtain ⟨j, hj, rfl⟩ := List.getElem_of_mem hf
  have := h2 j hj
  simp; omega
theorem list_form {l : List Int} (h : ¬ 500 < l.length) (h2 : ∀ j (hj : j < l.length), 0 ≤ l[j] ∧ l[j] ≤ 1000000000) (h3 : Wd.incr l = false) : listEnd l = .returned (.tuple #[.string ⟨#[]⟩, .int .i64 6]) := by
  unfold listEnd Wd.listTxt; rw [if_neg h, if_neg (list_none h2), h3]; rfl
theorem list_ok {l : List Int} (h : ¬ 500 < l.length) (h2 : ∀ j (hj : j < l.length), 0 ≤ l[j] ∧ l[j] ≤ 1000000000) (h3 : Wd.incr l = true) :
    (l.length = 0 → listEnd l = .returned (.tuple #[.string ⟨#[45]⟩, .int .i64 0])) ∧ (l.length ≠ 0 → listEnd l = .returned (.tuple #[S8 (Lib.join ((Wd.runs l).map Wd.runTxt) [44]), .int .i64 0])) := by
  unfold listEnd Wd.listTxt; rw [if_neg h, if_neg (list_none h2), h3]
  constructor
  · intro h0; rw [List.eq_nil_of_length_eq_zero h0]; rfl
  · intro h0; rw [if_neg (by simp), if_neg (by intro e; rw [e] at h0; exact h0 rfl)]
def inF (l : List Int) (k : Nat) : Int := if Wd.incr (l.take k) then 0 else 6
theorem inF_zero (l : List Int) : inF l 0 = 0 := by simp [inF, Wd.incr]
theorem incr_snoc (l : List Int) (x : Int) : Wd.incr (l ++ [x]) = (Wd.incr l && (match l.getLast? with | none => true | some y => decide (y < x))) := by
  induction l with
  | nil => simp [Wd.incr]
  | cons a t ih =>
    cases t with
    | nil => simp [Wd.incr]
    | cons b t =>
      rw [List.cons_append, List.cons_append]
      rw [List.cons_append] at ih
      simp only [Wd.incr]
      rw [ih, Bool.and_assoc]
      simp [List.getLast?_cons_cons]
theorem take_last {l : List Int} {k : Nat} (hk : k < l.length) (h0 : 0 < k) : (l.take k).getLast? = some l[k - 1] := by
  rw [List.getLast?_eq_getElem?, List.length_take, List.getElem?_take]
  rw [if_pos (by omega), List.getElem?_eq_getElem (by omega)]
  congr 2; omega
theorem inF_ok {l : List Int} {k : Nat} (hk : k < l.length) (h : (h0 : 0 < k) → l[k - 1] < l[k]) : inF l (k + 1) = inF l k := by
  unfold inF
  rw [List.take_succ_eq_append_getElem hk, incr_snoc]
  by_cases h0 : 0 < k
  · rw [take_last hk h0]; simp [h h0]
  · obtain rfl : k = 0 := by omega
    simp [Wd.incr]
theorem inF_bad {l : List Int} {k : Nat} (hk : k < l.length) (h0 : 0 < k) (h : ¬ l[k - 1] < l[k]) : inF l (k + 1) = 6 := by
  unfold inF
  rw [List.take_succ_eq_append_getElem hk, incr_snoc, take_last hk h0]
  simp [h]
theorem inF_all {l : List Int} {k : Nat} (hk : l.length ≤ k) : (inF l k = 0 ∧ Wd.incr l = true) ∨ (inF l k = 6 ∧ Wd.incr l = false) := by
  unfold inF
  rw [List.take_of_length_le hk]
  cases Wd.incr l
  · exact .inr ⟨rfl, rfl⟩
  · exact .inl ⟨rfl, rfl⟩
/-- What the runs up to place k are, and the text. -/
def LRel (l : List Int) (k : Nat) (out : List UInt8) : Prop := ∃ R, Wd.runs l = R ++ Wd.runs (l.drop k) ∧ out = Lib.join (R.map Wd.runTxt) [44] ∧ (R = [] ↔ k = 0)
def Chain (l : List Int) (k m : Nat) : Prop := ∀ j, k ≤ j → (hj : j < m) → (hl : j + 1 < l.length) → l[j + 1] = l[j] + 1
theorem LRel.zero (l : List Int) : LRel l 0 [] := ⟨[], by simp, rfl, by simp⟩
theorem LRel.step {l : List Int} {k m : Nat} {out : List UInt8} (h : LRel l k out) (hkm : k ≤ m) (hm : m < l.length) (hc : Chain l k m) (hx : ∀ h : m + 1 < l.length, l[m + 1] ≠ l[m] + 1) :
    LRel l (m + 1) (if k = 0 then Wd.runTxt (l[k], l[m]) else out ++ [44] ++ Wd.runTxt (l[k], l[m])) := by
  obtain ⟨R, h1, h2, h3⟩ := h
  refine ⟨R ++ [(l[k], l[m])], ?_, ?_, by simp⟩
  · rw [h1, Wd.runs_step l (m - k) k m rfl hkm hm (fun j a b => hc j a b (by omega)) hx (by omega)]; simp
  · rw [List.map_append, List.map_singleton, Wd.join_snoc, h2]
    by_cases hk : k = 0
    · rw [if_pos hk, if_pos (by rw [h3.2 hk]; rfl)]
    · rw [if_neg hk, if_neg (by intro e; exact hk (h3.1 (by simpa using e)))]; simp
theorem LRel.done {l : List Int} {out : List UInt8} (h : LRel l l.length out) : out = Lib.join ((Wd.runs l).map Wd.runTxt) [44] := by
  obtain ⟨R, h1, h2, _⟩ := h
  rw [h1, h2]; simp [Wd.runs]
theorem runTxt_le (a b : Int) (h0 : 0 ≤ a) (h1 : a ≤ 1000000000) (h2 : 0 ≤ b) (h3 : b ≤ 1000000000) : (Wd.runTxt (a, b)).length ≤ 43 := by
  unfold Wd.runTxt
  have := Lib.itoa_length_le a (by omega) (by omega)
  have := Lib.itoa_length_le b (by omega) (by omega)
  dsimp only
  split
  · omega
  · simp only [List.length_append, List.length_cons]; omega
theorem runTxt_one {a b : Int} (h : a = b) : Wd.runTxt (a, b) = Lib.itoa a := by unfold Wd.runTxt; rw [if_pos h]
theorem runTxt_two {a b : Int} (h : a < b) : Wd.runTxt (a, b) = Lib.itoa a ++ (45 :: Lib.itoa b) := by unfold Wd.runTxt; rw [if_neg (by simp; omega)]
theorem chain_le {l : List Int} {k : Nat} : ∀ {m : Nat} (hkm : k ≤ m) (hm : m < l.length) (_ : Chain l k m), l[m] = l[k] + ((m - k : Nat) : Int) := by
  intro m
  induction m with
  | zero => intro hkm hm _; obtain rfl : k = 0 := by omega
            simp
  | succ m ih =>
    intro hkm hm hc
    by_cases e : k = m + 1
    · subst e; simp
    · have := ih (by omega) (by omega) (fun j a b c => hc j a (by omega) c)
      have h2 := hc m (by omega) (by omega) hm
      rw [h2, this]; omega
theorem wStr_l (B b : Nat) (l x : List UInt8) (w : World) (h : IsB B b l w) (hl : l.length + x.length ≤ 140737488355328) (hB : B ≤ w.heap.size) :
    Calls Tryz.prog 23 #[.pointer (some ⟨b, 0, none⟩), S8 x] w fun e w' => (∃ n, e = .returned (.tuple #[.int .i64 n, .nilIface])) ∧ IsB B b (l ++ x) w' ∧ Below B w w' := by
  have h := wStr B b l ⟨x.toArray⟩ w h (by rw [size_mk]; exact hl) hB
  simpa using h
theorem wStr_m (B b : Nat) (l x : List UInt8) (w : World) (h : IsB B b l w) (hl : l.length + x.length + 1 ≤ 140737488355328) (hB : B ≤ w.heap.size) :
    Calls Tryz.prog 23 #[.pointer (some ⟨b, 0, none⟩), .string ((⟨#[45]⟩ : ByteArray) ++ (⟨x.toArray⟩ : ByteArray))] w fun e w' => (∃ n, e = .returned (.tuple #[.int .i64 n, .nilIface])) ∧ IsB B b (l ++ 45 :: x) w' ∧ Below B w w' := by
  have e : ((⟨#[45]⟩ : ByteArray) ++ (⟨x.toArray⟩ : ByteArray)) = ⟨(45 :: x).toArray⟩ := by
    have h := bcat [45] x
    exact h
  rw [e]
  exact wStr_l B b l (45 :: x) w h (by rw [List.length_cons]; omega) hB

set_option maxHeartbeats 8000000 in
set_option maxRecDepth 100000 in
theorem List_any (v : Value) (l : List Int) (w : World) (hE : Env w) (h1 : ReadsL 1 encI w v l) (hl : l.length ≤ 4294967296) :
    Calls Tryz.prog 7 #[v] w fun e w' => e = listEnd l ∧ Below w.heap.size w w' := by
  by_cases hlong : 500 < l.length
  · have HS := Lib.hid (list_long hlong)
    obtain ⟨a, cap, rfl⟩ := h1.len
    clear h1 hE
    go_enter Tryz.func7, Tryz.ntmps7
    go_wp2
    go_ret2
    exact ⟨HS.out.symm, Below.refl _ _⟩
  by_cases hz : l.length = 0
  · obtain ⟨a, cap, rfl⟩ := h1.len
    have hl0 := List.eq_nil_of_length_eq_zero hz
    subst hl0
    have HS := Lib.hid (show listEnd [] = .returned (.tuple #[.string ⟨#[45]⟩, .int .i64 0]) from rfl)
    clear h1 hE hlong hl hz
    go_enter Tryz.func7, Tryz.ntmps7
    go_wp2
    refine wp_loop_rounds 1 ?_
    rw [rounds_succ]
    go_wp2
    refine wp_loop_rounds 1 ?_
    rw [rounds_succ]
    go_wp2
    go_ret2
    exact ⟨HS.out.symm, (Below.refl _ _).alloc (Nat.le_refl _) _⟩
  have hpos : 0 < l.length := by omega
  have hl5 : l.length ≤ 500 := by omega
  obtain ⟨b, o, cap, rfl, hb, hc⟩ := h1.form (by intro e; rw [e] at hpos; exact absurd hpos (by simp))
  have hcs : Hid (∀ j, (hj : j < l.length) → w.cell? ⟨b, o + j, none⟩ = some (.int .i64 l[j])) := by
    intro j hj
    have := hc j hj 0 (.int .i64 l[j]) rfl
    simpa using this
  clear hc h1
  have hbw := Lib.hid (isB_new w)
  go_enter Tryz.func7, Tryz.ntmps7
  go_wp2
  go_loop [4, 6] (fun fo i => ∃ k : Nat, k ≤ l.length ∧ i = .int .i64 k ∧ fo = .int .i64 (inF l k) ∧ Hid (∀ j, j < k → (hj : j < l.length) → 0 ≤ l[j] ∧ l[j] ≤ 1000000000)) (fun _ i => l.length - (intOf i).toNat)
  case atStart => exact ⟨0, Nat.zero_le _, rfl, by rw [inF_zero], fun j h => absurd h (Nat.not_lt_zero _)⟩
  case round =>
    obtain ⟨k, hk, rfl, rfl, hno⟩ := hrel
    by_cases hlt : k < l.length
    · have i1 : (k : Int) < (l.length : Int) := by omega
      have c1 : (w.alloc (.cells #[.pointer none, .slice none 0 0] 51)).cell? ⟨b, o + k, none⟩ = some (.int .i64 l[k]) := by
        rw [World.cell?_alloc_lt _ _ _ hb]; exact hcs.out k hlt
      by_cases hr : l[k] < 0 ∨ 1000000000 < l[k]
      · have HS := Lib.hid (list_range hlong hlt hr)
        rcases hr with hr | hr
        · go_wp2
          go_ret2
          exact ⟨HS.out.symm, (Below.refl _ _).alloc (Nat.le_refl _) _⟩
        · have hr2 : 0 ≤ l[k] := by omega
          go_wp2
          go_ret2
          exact ⟨HS.out.symm, (Below.refl _ _).alloc (Nat.le_refl _) _⟩
      · have hr1 : 0 ≤ l[k] := by omega
        have hr2 : l[k] ≤ 1000000000 := by omega
        have HN : Hid (∀ j, j < k + 1 → (hj : j < l.length) → 0 ≤ l[j] ∧ l[j] ≤ 1000000000) := by
          intro j hj hjl
          by_cases e : j = k
          · subst e; exact ⟨hr1, hr2⟩
          · exact hno.out j (by omega) hjl
        clear hr
        by_cases h0 : 0 < k
        · have c0 : (w.alloc (.cells #[.pointer none, .slice none 0 0] 51)).cell? ⟨b, o + (k - 1), none⟩ = some (.int .i64 l[k - 1]) := by
            rw [World.cell?_alloc_lt _ _ _ hb]; exact hcs.out (k - 1) (by omega)
          by_cases hlt2 : l[k - 1] < l[k]
          · have HI := Lib.hid (inF_ok hlt (fun _ => hlt2))
            go_wp2
            go_round
            case rel => exact ⟨k + 1, by omega, by go_num, by rw [HI.out], HN⟩
            case measure => simp [intOf]; omega
          · have HI := Lib.hid (inF_bad hlt h0 hlt2)
            have hle : l[k] ≤ l[k - 1] := by omega
            clear hlt2
            go_wp2
            go_round
            case rel => exact ⟨k + 1, by omega, by go_num, by rw [HI.out], HN⟩
            case measure => simp [intOf]; omega
        · have HI := Lib.hid (inF_ok hlt (fun h => absurd h h0))
          have h00 : k ≤ 0 := by omega
          clear h0
          go_wp2
          go_round
          case rel => exact ⟨k + 1, by omega, by go_num, by rw [HI.out], HN⟩
          case measure => simp [intOf]; omega
    · have hal : ∀ j (hj : j < l.length), 0 ≤ l[j] ∧ l[j] ≤ 1000000000 := fun j hj => hno.out j (by omega) hj
      have hia := inF_all (l := l) (k := k) (by omega)
      clear hno
      rcases hia with ⟨hi, hin⟩ | ⟨hi, hin⟩
      · have HL := Lib.hid ((list_ok hlong hal hin).2 hz)
        rw [hi]
        have HAL := Lib.hid hal
        clear hi hin hal
        go_wp2
        go_loopw [8] (fun i wr => ∃ (m : Nat) (out : List UInt8), m ≤ l.length ∧ i = .int .i64 m ∧ IsB w.heap.size w.heap.size out wr ∧ Below w.heap.size w wr ∧ w.heap.size ≤ wr.heap.size ∧ Hid (LRel l m out) ∧ out.length ≤ 44 * m ∧ (0 < m ↔ 0 < out.length)) (fun i _ => l.length - (intOf i).toNat)
        case atStart => exact ⟨0, [], Nat.zero_le _, rfl, hbw.out, (Below.refl _ _).alloc (Nat.le_refl _) _, by simp, LRel.zero l, by simp, by simp⟩
        case round =>
          obtain ⟨m, out, hm, rfl, hbd, hbr, hws, hlr, hol, hpo⟩ := hrel
          obtain ⟨wo, rfl⟩ : ∃ wo : World, wo = wr := ⟨_, rfl⟩
          have hcw : Hid (∀ j, (hj : j < l.length) → wo.cell? ⟨b, o + j, none⟩ = some (.int .i64 l[j])) := fun j hj => (hbr.cell (p := ⟨b, o + j, none⟩) hb).trans (hcs.out j hj)
          by_cases hlt : m < l.length
          · have c1 := hcw.out m hlt
            have i1 : (m : Int) < (l.length : Int) := by omega
            go_wp2
            go_loopw [8] (fun i wr => ∃ (p n : Nat), m ≤ p ∧ p < l.length ∧ i = .int .i64 p ∧ Hid (Chain l m p) ∧ wr = wo.drewN n) (fun i _ => l.length - (intOf i).toNat)
            case atStart => exact ⟨m, 0, Nat.le_refl _, hlt, rfl, fun j a b _ => absurd b (by omega), rfl⟩
            case round =>
              obtain ⟨p, n, hmp, hpl, rfl, hch, rfl⟩ := hrel
              have hp := HAL.out p hpl
              have d1 := hcw.out p hpl
              have w1 : IntKind.i64.wrap ((p : Int) + 1) = (p : Int) + 1 := IntWalk.i64_in _ (by omega)
              have w3 : 0 ≤ (p : Int) + 1 := by omega
              have w4 : ((p : Int) + 1).toNat = p + 1 := by omega
              have w5 : ((p : Int)).toNat = p := by omega
              by_cases hgo : ∃ h1 : p + 1 < l.length, l[p + 1] = l[p] + 1
              · obtain ⟨h1, he⟩ := hgo
                have d2 := hcw.out (p + 1) h1
                have g1 : decide ((p : Int) + 1 < (l.length : Int)) = true := by simp; omega
                have w2 : IntKind.i64.wrap (l[p] + 1) = l[p] + 1 := IntWalk.i64_in _ (by omega)
                have g2 : (l[p + 1] == l[p] + 1) = true := by rw [beq_iff_eq]; exact he
                have HC : Hid (Chain l m (p + 1)) := by
                  intro j a c d
                  by_cases e : j = p
                  · subst e; exact he
                  · exact hch.out j a (by omega) d
                clear he
                go_wp2
                go_quiet (fail)
                clear w1 w2 w4 w5
                go_wp2
                go_roundw
                case rel => exact ⟨p + 1, _, by omega, h1, by go_num, HC, by first | rfl | exact World.drewN_drewN _ _ _⟩
                case measure => simp [intOf]; omega
              · have hx : ∀ h : p + 1 < l.length, l[p + 1] ≠ l[p] + 1 := fun h e => hgo ⟨h, e⟩
                have HLR := Lib.hid (hlr.out.step hmp hpl hch.out hx)
                have hcl := chain_le hmp hpl hch.out
                have hm0 := HAL.out m hlt
                have hrt := runTxt_le l[m] l[p] hm0.1 hm0.2 hp.1 hp.2
                have hi1 := Lib.itoa_length_le l[m] (by omega) (by omega)
                have hi0 := itoa_pos l[m]
                have hi2 := Lib.itoa_length_le l[p] (by omega) (by omega)
                have HX := Lib.hid hx
                have HBn : Hid (∀ k, IsB w.heap.size w.heap.size out (wo.drewN k)) := fun k => isB_below hbd (below_dn (Below.refl _ _) k)
                have hEn : Hid (∀ k, Env (wo.drewN k)) := fun k => (hE.below hbr).below (below_dn (Below.refl _ _) k)
                have hbn : Hid (∀ k, Below w.heap.size w (wo.drewN k)) := fun k => below_dn hbr k
                have hRT1 : p = m → Hid (Wd.runTxt (l[m], l[p]) = Lib.itoa l[m]) := fun e => runTxt_one (by subst e; rfl)
                have hRT2 : m < p → l[m] < l[p] ∧ Hid (Wd.runTxt (l[m], l[p]) = Lib.itoa l[m] ++ (45 :: Lib.itoa l[p])) := fun e => ⟨by omega, runTxt_two (by omega)⟩
                have hqq : p = m ∨ m < p := by omega
                clear hx hgo hch hlr hcl
                have HQ := Lib.hid hqq
                clear hqq
                by_cases h1 : p + 1 < l.length
                · have d2 := hcw.out (p + 1) h1
                  have g1 : decide ((p : Int) + 1 < (l.length : Int)) = true := by simp; omega
                  have w2 : IntKind.i64.wrap (l[p] + 1) = l[p] + 1 := IntWalk.i64_in _ (by omega)
                  have g2 : (l[p + 1] == l[p] + 1) = false := by rw [beq_eq_false_iff_ne]; exact HX.out h1
                  go_wp2
                  go_quiet (fail)
                  clear w1 w2 w4 w5
                  go_wp2_with fail
                  obtain ⟨W, hW⟩ : ∃ W, W = wo.drewN (n + nq) := ⟨_, rfl⟩
                  rw [← hW]
                  have hbW : IsB w.heap.size w.heap.size out W := by rw [hW]; exact HBn.out _
                  have hbrW : Below w.heap.size w W := by rw [hW]; exact hbn.out _
                  clear hW HBn hEn hbn d1 c1 g1 HX
                  rcases HQ.out with hpm | hpm
                  · have HR := hRT1 hpm
                    subst hpm
                    clear hRT1 hRT2
                    by_cases h0 : 0 < p
                    · have ho : 0 < out.length := hpo.1 h0
                      refine (bLen _ _ _ _ hbW).mono ?_; rintro e w0 ⟨rfl, rfl⟩; go_wp2_with fail
                      refine (wByte _ _ _ 44 _ hbW (by omega) hbrW.size).mono ?_; rintro e w1 ⟨rfl, hb1, hbx⟩; have hbr1 := hbrW.trans hbx; clear hbx
                      go_wp2_with fail; refine (itoa_any _ (by omega) (by omega) _ (hE.below hbr1)).mono ?_; rintro e w2 ⟨rfl, hbx⟩; have hb2 := isB_below hb1 hbx; have hbr2 := hbr1.trans (hbx.mono hbr1.size); clear hbx
                      go_wp2_with fail; refine (wStr_l _ _ _ _ _ hb2 (by first | omega | (simp; done) | (simp; omega)) hbr2.size).mono ?_; rintro e w3 ⟨⟨n0, rfl⟩, hb3, hbx⟩; have hbr3 := hbr2.trans hbx; clear hbx
                      have f3 := (hbr3.cell (p := ⟨b, o + p, none⟩) hb).trans (hcs.out p hpl)
                      go_wp2
                      go_roundw
                      have HL3 := HLR.out
                      rw [if_neg (by omega), HR.out] at HL3
                      case rel => exact ⟨p + 1, _, by omega, by go_num, hb3, hbr3, hbr3.size, by show LRel _ _ _; simpa using HL3, by first | omega | (simp; done) | (simp; omega), by first | omega | (simp; done) | (simp; omega)⟩
                      case measure => simp [intOf]; omega
                    · have h00 : p ≤ 0 := by omega
                      have ho : out.length ≤ 0 := by omega
                      refine (bLen _ _ _ _ hbW).mono ?_; rintro e w0 ⟨rfl, rfl⟩; go_wp2_with fail
                      have hb1 := hbW
                      have hbr1 := hbrW
                      go_wp2_with fail; refine (itoa_any _ (by omega) (by omega) _ (hE.below hbr1)).mono ?_; rintro e w2 ⟨rfl, hbx⟩; have hb2 := isB_below hb1 hbx; have hbr2 := hbr1.trans (hbx.mono hbr1.size); clear hbx
                      go_wp2_with fail; refine (wStr_l _ _ _ _ _ hb2 (by first | omega | (simp; done) | (simp; omega)) hbr2.size).mono ?_; rintro e w3 ⟨⟨n0, rfl⟩, hb3, hbx⟩; have hbr3 := hbr2.trans hbx; clear hbx
                      have f3 := (hbr3.cell (p := ⟨b, o + p, none⟩) hb).trans (hcs.out p hpl)
                      go_wp2
                      go_roundw
                      have HL3 := HLR.out
                      rw [if_pos (by omega), HR.out] at HL3
                      case rel => exact ⟨p + 1, _, by omega, by go_num, hb3, hbr3, hbr3.size, by rw [List.eq_nil_of_length_eq_zero (by omega : out.length = 0)]; show LRel _ _ _; simpa using HL3, by first | omega | (simp; done) | (simp; omega), by first | omega | (simp; done) | (simp; omega)⟩
                      case measure => simp [intOf]; omega
                  · obtain ⟨hlt3, HR⟩ := hRT2 hpm
                    clear hRT1 hRT2
                    by_cases h0 : 0 < m
                    · have ho : 0 < out.length := hpo.1 h0
                      refine (bLen _ _ _ _ hbW).mono ?_; rintro e w0 ⟨rfl, rfl⟩; go_wp2_with fail
                      refine (wByte _ _ _ 44 _ hbW (by omega) hbrW.size).mono ?_; rintro e w1 ⟨rfl, hb1, hbx⟩; have hbr1 := hbrW.trans hbx; clear hbx
                      go_wp2_with fail; refine (itoa_any _ (by omega) (by omega) _ (hE.below hbr1)).mono ?_; rintro e w2 ⟨rfl, hbx⟩; have hb2 := isB_below hb1 hbx; have hbr2 := hbr1.trans (hbx.mono hbr1.size); clear hbx
                      go_wp2_with fail; refine (wStr_l _ _ _ _ _ hb2 (by first | omega | (simp; done) | (simp; omega)) hbr2.size).mono ?_; rintro e w3 ⟨⟨n0, rfl⟩, hb3, hbx⟩; have hbr3 := hbr2.trans hbx; clear hbx
                      have f3 := (hbr3.cell (p := ⟨b, o + p, none⟩) hb).trans (hcs.out p hpl)
                      go_wp2_with fail; refine (itoa_any _ (by omega) (by omega) _ (hE.below hbr3)).mono ?_; rintro e w4 ⟨rfl, hbx⟩; have hb4 := isB_below hb3 hbx; have hbr4 := hbr3.trans (hbx.mono hbr3.size); clear hbx
                      go_wp2_with fail; refine (wStr_m _ _ _ _ _ hb4 (by first | omega | (simp; done) | (simp; omega)) hbr4.size).mono ?_; rintro e w5 ⟨⟨n0, rfl⟩, hb5, hbx⟩; have hbr5 := hbr4.trans hbx; clear hbx
                      go_wp2
                      go_roundw
                      have HL3 := HLR.out
                      rw [if_neg (by omega), HR.out] at HL3
                      case rel => exact ⟨p + 1, _, by omega, by go_num, hb5, hbr5, hbr5.size, by show LRel _ _ _; simpa using HL3, by first | omega | (simp; done) | (simp; omega), by first | omega | (simp; done) | (simp; omega)⟩
                      case measure => simp [intOf]; omega
                    · have h00 : m ≤ 0 := by omega
                      have ho : out.length ≤ 0 := by omega
                      refine (bLen _ _ _ _ hbW).mono ?_; rintro e w0 ⟨rfl, rfl⟩; go_wp2_with fail
                      have hb1 := hbW
                      have hbr1 := hbrW
                      go_wp2_with fail; refine (itoa_any _ (by omega) (by omega) _ (hE.below hbr1)).mono ?_; rintro e w2 ⟨rfl, hbx⟩; have hb2 := isB_below hb1 hbx; have hbr2 := hbr1.trans (hbx.mono hbr1.size); clear hbx
                      go_wp2_with fail; refine (wStr_l _ _ _ _ _ hb2 (by first | omega | (simp; done) | (simp; omega)) hbr2.size).mono ?_; rintro e w3 ⟨⟨n0, rfl⟩, hb3, hbx⟩; have hbr3 := hbr2.trans hbx; clear hbx
                      have f3 := (hbr3.cell (p := ⟨b, o + p, none⟩) hb).trans (hcs.out p hpl)
                      go_wp2_with fail; refine (itoa_any _ (by omega) (by omega) _ (hE.below hbr3)).mono ?_; rintro e w4 ⟨rfl, hbx⟩; have hb4 := isB_below hb3 hbx; have hbr4 := hbr3.trans (hbx.mono hbr3.size); clear hbx
                      go_wp2_with fail; refine (wStr_m _ _ _ _ _ hb4 (by first | omega | (simp; done) | (simp; omega)) hbr4.size).mono ?_; rintro e w5 ⟨⟨n0, rfl⟩, hb5, hbx⟩; have hbr5 := hbr4.trans hbx; clear hbx
                      go_wp2
                      go_roundw
                      have HL3 := HLR.out
                      rw [if_pos (by omega), HR.out] at HL3
                      case rel => exact ⟨p + 1, _, by omega, by go_num, hb5, hbr5, hbr5.size, by rw [List.eq_nil_of_length_eq_zero (by omega : out.length = 0)]; show LRel _ _ _; simpa using HL3, by first | omega | (simp; done) | (simp; omega), by first | omega | (simp; done) | (simp; omega)⟩
                      case measure => simp [intOf]; omega
                · have g1 : decide ((p : Int) + 1 < (l.length : Int)) = false := by simp; omega
                  go_wp2
                  go_quiet (fail)
                  clear w1 w4 w5
                  go_wp2_with fail
                  obtain ⟨W, hW⟩ : ∃ W, W = wo.drewN (n + nq) := ⟨_, rfl⟩
                  rw [← hW]
                  have hbW : IsB w.heap.size w.heap.size out W := by rw [hW]; exact HBn.out _
                  have hbrW : Below w.heap.size w W := by rw [hW]; exact hbn.out _
                  clear hW HBn hEn hbn d1 c1 g1 HX
                  rcases HQ.out with hpm | hpm
                  · have HR := hRT1 hpm
                    subst hpm
                    clear hRT1 hRT2
                    by_cases h0 : 0 < p
                    · have ho : 0 < out.length := hpo.1 h0
                      refine (bLen _ _ _ _ hbW).mono ?_; rintro e w0 ⟨rfl, rfl⟩; go_wp2_with fail
                      refine (wByte _ _ _ 44 _ hbW (by omega) hbrW.size).mono ?_; rintro e w1 ⟨rfl, hb1, hbx⟩; have hbr1 := hbrW.trans hbx; clear hbx
                      go_wp2_with fail; refine (itoa_any _ (by omega) (by omega) _ (hE.below hbr1)).mono ?_; rintro e w2 ⟨rfl, hbx⟩; have hb2 := isB_below hb1 hbx; have hbr2 := hbr1.trans (hbx.mono hbr1.size); clear hbx
                      go_wp2_with fail; refine (wStr_l _ _ _ _ _ hb2 (by first | omega | (simp; done) | (simp; omega)) hbr2.size).mono ?_; rintro e w3 ⟨⟨n0, rfl⟩, hb3, hbx⟩; have hbr3 := hbr2.trans hbx; clear hbx
                      have f3 := (hbr3.cell (p := ⟨b, o + p, none⟩) hb).trans (hcs.out p hpl)
                      go_wp2
                      go_roundw
                      have HL3 := HLR.out
                      rw [if_neg (by omega), HR.out] at HL3
                      case rel => exact ⟨p + 1, _, by omega, by go_num, hb3, hbr3, hbr3.size, by show LRel _ _ _; simpa using HL3, by first | omega | (simp; done) | (simp; omega), by first | omega | (simp; done) | (simp; omega)⟩
                      case measure => simp [intOf]; omega
                    · have h00 : p ≤ 0 := by omega
                      have ho : out.length ≤ 0 := by omega
                      refine (bLen _ _ _ _ hbW).mono ?_; rintro e w0 ⟨rfl, rfl⟩; go_wp2_with fail
                      have hb1 := hbW
                      have hbr1 := hbrW
                      go_wp2_with fail; refine (itoa_any _ (by omega) (by omega) _ (hE.below hbr1)).mono ?_; rintro e w2 ⟨rfl, hbx⟩; have hb2 := isB_below hb1 hbx; have hbr2 := hbr1.trans (hbx.mono hbr1.size); clear hbx
                      go_wp2_with fail; refine (wStr_l _ _ _ _ _ hb2 (by first | omega | (simp; done) | (simp; omega)) hbr2.size).mono ?_; rintro e w3 ⟨⟨n0, rfl⟩, hb3, hbx⟩; have hbr3 := hbr2.trans hbx; clear hbx
                      have f3 := (hbr3.cell (p := ⟨b, o + p, none⟩) hb).trans (hcs.out p hpl)
                      go_wp2
                      go_roundw
                      have HL3 := HLR.out
                      rw [if_pos (by omega), HR.out] at HL3
                      case rel => exact ⟨p + 1, _, by omega, by go_num, hb3, hbr3, hbr3.size, by rw [List.eq_nil_of_length_eq_zero (by omega : out.length = 0)]; show LRel _ _ _; simpa using HL3, by first | omega | (simp; done) | (simp; omega), by first | omega | (simp; done) | (simp; omega)⟩
                      case measure => simp [intOf]; omega
                  · obtain ⟨hlt3, HR⟩ := hRT2 hpm
                    clear hRT1 hRT2
                    by_cases h0 : 0 < m
                    · have ho : 0 < out.length := hpo.1 h0
                      refine (bLen _ _ _ _ hbW).mono ?_; rintro e w0 ⟨rfl, rfl⟩; go_wp2_with fail
                      refine (wByte _ _ _ 44 _ hbW (by omega) hbrW.size).mono ?_; rintro e w1 ⟨rfl, hb1, hbx⟩; have hbr1 := hbrW.trans hbx; clear hbx
                      go_wp2_with fail; refine (itoa_any _ (by omega) (by omega) _ (hE.below hbr1)).mono ?_; rintro e w2 ⟨rfl, hbx⟩; have hb2 := isB_below hb1 hbx; have hbr2 := hbr1.trans (hbx.mono hbr1.size); clear hbx
                      go_wp2_with fail; refine (wStr_l _ _ _ _ _ hb2 (by first | omega | (simp; done) | (simp; omega)) hbr2.size).mono ?_; rintro e w3 ⟨⟨n0, rfl⟩, hb3, hbx⟩; have hbr3 := hbr2.trans hbx; clear hbx
                      have f3 := (hbr3.cell (p := ⟨b, o + p, none⟩) hb).trans (hcs.out p hpl)
                      go_wp2_with fail; refine (itoa_any _ (by omega) (by omega) _ (hE.below hbr3)).mono ?_; rintro e w4 ⟨rfl, hbx⟩; have hb4 := isB_below hb3 hbx; have hbr4 := hbr3.trans (hbx.mono hbr3.size); clear hbx
                      go_wp2_with fail; refine (wStr_m _ _ _ _ _ hb4 (by first | omega | (simp; done) | (simp; omega)) hbr4.size).mono ?_; rintro e w5 ⟨⟨n0, rfl⟩, hb5, hbx⟩; have hbr5 := hbr4.trans hbx; clear hbx
                      go_wp2
                      go_roundw
                      have HL3 := HLR.out
                      rw [if_neg (by omega), HR.out] at HL3
                      case rel => exact ⟨p + 1, _, by omega, by go_num, hb5, hbr5, hbr5.size, by show LRel _ _ _; simpa using HL3, by first | omega | (simp; done) | (simp; omega), by first | omega | (simp; done) | (simp; omega)⟩
                      case measure => simp [intOf]; omega
                    · have h00 : m ≤ 0 := by omega
                      have ho : out.length ≤ 0 := by omega
                      refine (bLen _ _ _ _ hbW).mono ?_; rintro e w0 ⟨rfl, rfl⟩; go_wp2_with fail
                      have hb1 := hbW
                      have hbr1 := hbrW
                      go_wp2_with fail; refine (itoa_any _ (by omega) (by omega) _ (hE.below hbr1)).mono ?_; rintro e w2 ⟨rfl, hbx⟩; have hb2 := isB_below hb1 hbx; have hbr2 := hbr1.trans (hbx.mono hbr1.size); clear hbx
                      go_wp2_with fail; refine (wStr_l _ _ _ _ _ hb2 (by first | omega | (simp; done) | (simp; omega)) hbr2.size).mono ?_; rintro e w3 ⟨⟨n0, rfl⟩, hb3, hbx⟩; have hbr3 := hbr2.trans hbx; clear hbx
                      have f3 := (hbr3.cell (p := ⟨b, o + p, none⟩) hb).trans (hcs.out p hpl)
                      go_wp2_with fail; refine (itoa_any _ (by omega) (by omega) _ (hE.below hbr3)).mono ?_; rintro e w4 ⟨rfl, hbx⟩; have hb4 := isB_below hb3 hbx; have hbr4 := hbr3.trans (hbx.mono hbr3.size); clear hbx
                      go_wp2_with fail; refine (wStr_m _ _ _ _ _ hb4 (by first | omega | (simp; done) | (simp; omega)) hbr4.size).mono ?_; rintro e w5 ⟨⟨n0, rfl⟩, hb5, hbx⟩; have hbr5 := hbr4.trans hbx; clear hbx
                      go_wp2
                      go_roundw
                      have HL3 := HLR.out
                      rw [if_pos (by omega), HR.out] at HL3
                      case rel => exact ⟨p + 1, _, by omega, by go_num, hb5, hbr5, hbr5.size, by rw [List.eq_nil_of_length_eq_zero (by omega : out.length = 0)]; show LRel _ _ _; simpa using HL3, by first | omega | (simp; done) | (simp; omega), by first | omega | (simp; done) | (simp; omega)⟩
                      case measure => simp [intOf]; omega
          · have hdn := Lib.hid (LRel.done (show LRel l l.length out from by have e : m = l.length := by omega
                                                                             rw [← e]; exact hlr.out))
            go_wp2_with fail
            refine (bStr _ _ _ _ hbd hbr.size).mono ?_
            rintro e w1 ⟨rfl, hb1⟩
            have hbr1 := hbr.trans hb1
            go_wp2
            go_ret2
            exact ⟨by rw [HL.out, ← hdn.out]; rfl, hbr1⟩
      · have HS := Lib.hid (list_form hlong hal hin)
        rw [hi]
        clear hi hin hal
        go_wp2
        refine wp_loop_rounds 1 ?_
        rw [rounds_succ]
        go_wp2
        go_ret2
        exact ⟨HS.out.symm, (Below.refl _ _).alloc (Nat.le_refl _) _⟩
end Go.Proofs.YtffkohdnhaebjaaGreatDoor
