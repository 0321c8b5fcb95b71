/-
  Layer 26 (model): a map of numbers to bools that the call made, as a list of the numbers that were met.
-/
import Derived.Maps.OwnOps
import Derived.Maps.OwnSet
import Derived.Maps.Views
import Derived.Test.YtaicmiadgnpimaaMw1
import Derived.Test.YtaicmiadgnpimaaMgo
import Derived.Test.YtaicmiadgnpimaaMw41
namespace Go.Proofs.Ytaicmiadgnpimaa
open Go.RowKit
open Go.Maps (Keyed)

theorem keyI : Keyed Try.prog 2 := Go.Maps.int_keyed (q := .i64) Try.underlying2
/-- A number of 64 bits. -/
def In64 (x : Int) : Prop := -9223372036854775808 ≤ x ∧ x ≤ 9223372036854775807
theorem wf_in64 {x : Int} (h : In64 x) : (Lit.int .i64 x).wf = true := by
 have h1 : IntKind.min .i64 = -9223372036854775808 := by decide
 have h2 : IntKind.max .i64 = 9223372036854775807 := by decide
 show (decide (IntKind.min .i64 ≤ x) && decide (x ≤ IntKind.max .i64)) = true
 rw [h1, h2, Bool.and_eq_true, decide_eq_true_eq, decide_eq_true_eq]
 exact h
/-- The map in block b holds the numbers of a list. -/
def SetOwn (w : World) (b n : Nat) (l : List Int) : Prop := ∃ D : DataW Nat, w.ownsMap Try.prog 2 (plainElem Try.prog 4) b n D ∧ Go.Maps.IsMap D ∧ ∀ x, In64 x → D.atKey (.int .i64 x) (.lit (.bool false)) = .lit (.bool (l.contains x))
theorem SetOwn.made (w : World) : SetOwn (w.alloc (.map #[] 0)) w.heap.size 0 [] := by
 refine ⟨.map [], World.ownsMap_made w _ _ _, ⟨[], rfl⟩, fun x _ => ?_⟩
 rfl
theorem SetOwn.lt {w : World} {b n : Nat} {l : List Int} (h : SetOwn w b n l) : b < w.heap.size := by
 obtain ⟨D, h1, _⟩ := h
 exact h1.lt
theorem SetOwn.kept {w w' : World} {b n : Nat} {l : List Int} {row : Option Nat} (h : SetOwn w b n l) (hg : w.grownBy w' row) (hne : some b ≠ row) : SetOwn w' b n l := by
 obtain ⟨D, h1, h2⟩ := h
 exact ⟨D, h1.kept hg hne, h2⟩
theorem SetOwn.mono {w : World} {b n n' : Nat} {l : List Int} (h : SetOwn w b n l) (hn : n ≤ n') : SetOwn w b n' l := by
 obtain ⟨D, h1, h2⟩ := h
 exact ⟨D, h1.mono hn, h2⟩
theorem plainElem_bool_inv {H : Type} {P : Program} {e : TypeId} (he : P.underlying e = some .bool) {v : Value} {z : DataW H × List MemPlace} (h : plainElem P e v = some z) : ∃ x, v = .bool x ∧ z = (.lit (.bool x), []) := by
 unfold plainElem at h
 rw [he] at h
 cases v <;> simp at h
 exact ⟨_, rfl, h.symm⟩
theorem zero_bool (w : World) : (zeroValue 4).run Try.prog w = .ok (.bool false) w := by kernel_rfl
theorem SetOwn.look {w : World} {b n : Nat} {l : List Int} (h : SetOwn w b n l) {x : Int} (hx : In64 x) : (Instr.lookup 95 (.map (some b)) (I64 x) false).run Try.prog w = .ok (.bool (l.contains x)) w := by
 obtain ⟨D, h1, _, h3⟩ := h
 obtain ⟨v, ps, hrun, hv⟩ := h1.lookup keyI Try.underlying95 (zero_bool w) (plainElem_bool Try.underlying4 false) (key := I64 x) (Go.Maps.keyOf_int_mk Try.underlying2 (wf_in64 hx))
 obtain ⟨y, rfl, hy⟩ := plainElem_bool_inv Try.underlying4 hv
 rw [h3 x hx] at hy
 simp only [Prod.mk.injEq, DataW.lit.injEq, Lit.bool.injEq] at hy
 rw [hrun, hy.1]
theorem contains_cons_ne {l : List Int} {x y : Int} (h : y ≠ x) : (x :: l).contains y = l.contains y := by
 simp [h]
theorem SetOwn.store {w : World} {b n : Nat} {l : List Int} (h : SetOwn w b n l) {x : Int} (hx : In64 x) (hn : n < maxLen) : ∃ w', (Instr.mapUpdate 95 (.map (some b)) (I64 x) (.bool true)).run Try.prog w = .ok () w' ∧ SetOwn w' b (n + 1) (x :: l) ∧ w.grownBy w' (some b) := by
 obtain ⟨D, h1, h2, h3⟩ := h
 have hk := Go.Maps.keyOf_int_mk Try.underlying2 (wf_in64 hx)
 obtain ⟨w', hrun, hown, hg⟩ := h1.update keyI Try.underlying95 hn (key := I64 x) hk (plainElem_bool Try.underlying4 true)
 refine ⟨w', hrun, ⟨_, hown, h2.put _ _, fun y hy => ?_⟩, hg⟩
 by_cases e : y = x
 · subst e
   rw [Go.Maps.atKey_put_same h2 (keyI.key hk)]
   simp
 · rw [Go.Maps.atKey_put_other (by simpa using e), h3 y hy, contains_cons_ne e]
end Go.Proofs.Ytaicmiadgnpimaa
namespace Md

/-- Are the numbers of a list, from 1 on, new to a set, each at its turn? -/
def newOk : List Int → List Int → Bool
 | _, [] => true
 | S, n :: t => (decide (1 ≤ n) && !decide (n ∈ S)) && newOk (n :: S) t
theorem newOk_iff : ∀ (l S : List Int), newOk S l = true ↔ (∀ n ∈ l, 1 ≤ n) ∧ l.Nodup ∧ ∀ n ∈ l, n ∉ S
 | [], S => by simp [newOk]
 | n :: t, S => by
  simp only [newOk, Bool.and_eq_true, decide_eq_true_eq, Bool.not_eq_true', decide_eq_false_iff_not, newOk_iff t, List.nodup_cons, List.forall_mem_cons]
  constructor
  · rintro ⟨⟨h1, h2⟩, h3, h4, h5⟩
    exact ⟨⟨h1, h3⟩, ⟨fun hn => h5 n hn (by simp), h4⟩, h2, fun m hm hx => h5 m hm (List.mem_cons_of_mem _ hx)⟩
  · rintro ⟨⟨h1, h3⟩, ⟨h6, h4⟩, h2, h5⟩
    exact ⟨⟨h1, h2⟩, h3, h4, fun m hm hx => (List.mem_cons.1 hx).elim (fun e => h6 (e ▸ hm)) (h5 m hm)⟩
theorem newOk_nil (l : List Int) : newOk [] l = numsOk l := by
 rw [Bool.eq_iff_iff, newOk_iff, numsOk_iff]
 simp
theorem newOk_append : ∀ (l m S : List Int), newOk S (l ++ m) = (newOk S l && newOk (l.reverse ++ S) m)
 | [], m, S => by simp [newOk]
 | n :: t, m, S => by
  simp only [List.cons_append, newOk, newOk_append t m, List.reverse_cons, List.append_assoc, List.nil_append, Bool.and_assoc]
theorem newOk_congr {S T : List Int} (h : ∀ n, n ∈ S ↔ n ∈ T) (l : List Int) : newOk S l = newOk T l := by
 rw [Bool.eq_iff_iff, newOk_iff, newOk_iff]
 simp only [h]
theorem newOk_perm {l m : List Int} (h : l.Perm m) (S : List Int) : newOk S l = newOk S m := by
 rw [Bool.eq_iff_iff, newOk_iff, newOk_iff]
 simp only [h.mem_iff, h.nodup_iff]
end Md
namespace Go.Proofs.Ytaicmiadgnpimaa
open Go.RowKit

theorem contains_dec (l : List Int) (x : Int) : l.contains x = decide (x ∈ l) := by
 rw [Bool.eq_iff_iff]
 simp
set_option maxRecDepth 100000 in
theorem first_any (b n : Nat) (l : List Int) (x : Int) (w : World) (h : SetOwn w b n l) (hx : x ≤ 9223372036854775807) (hn : n < 1000000000) :
 Calls Try.prog 43 #[.map (some b), I64 x] w fun e w' => e = .returned (.bool (decide (1 ≤ x) && !decide (x ∈ l))) ∧ ((decide (1 ≤ x) && !decide (x ∈ l)) = true → SetOwn w' b (n + 1) (x :: l)) ∧ w.grownBy w' (some b) := by
 have hrf : w.grownBy w (some b) := ⟨rfl, rfl, rfl, Nat.le_refl _, fun _ _ _ => rfl⟩
 by_cases h1 : x < 1
 · have e1 : (decide (1 ≤ x) && !decide (x ∈ l)) = false := by
    have : ¬ 1 ≤ x := by omega
    simp [this]
   rw [e1]
   have HR := Lib.hid hrf
   clear h hrf e1
   go_enter Try.func43, Try.ntmps43
   go_wp2
   go_ret
   first
    | exact ⟨rfl, fun h => (by cases h), HR.out⟩
    | exact ⟨rfl, HR.out⟩
 · have hi : In64 x := ⟨by omega, hx⟩
   have hlk := h.look hi
   rw [contains_dec] at hlk
   have h1' : 1 ≤ x := by omega
   have e1 : (decide (1 ≤ x) && !decide (x ∈ l)) = !decide (x ∈ l) := by simp [h1']
   rw [e1]
   obtain ⟨w', hst, hs, hg⟩ := h.store hi (by unfold maxLen; omega)
   have HS := Lib.hid hs
   have HG := Lib.hid hg
   have HR := Lib.hid hrf
   cases hm : decide (x ∈ l) with
   | true =>
    rw [hm] at hlk
    clear h hs hg hrf hi e1 hst hm
    go_enter Try.func43, Try.ntmps43
    go_wp2
    go_ret
    first
    | exact ⟨rfl, fun h => (by cases h), HR.out⟩
    | exact ⟨rfl, HR.out⟩
   | false =>
    rw [hm] at hlk
    clear h hs hg hrf hi e1 hm
    go_enter Try.func43, Try.ntmps43
    go_wp2
    go_ret
    first
    | exact ⟨rfl, fun _ => HS.out, HG.out⟩
    | exact ⟨rfl, HS.out, HG.out⟩
/-- A slice of cells is none of a map's block. -/
theorem reads_map {α : Type} {m : Nat} {enc : α → List Value} (hl : ∀ x, (enc x).length = m) (hm : 0 < m) {w w' : World} {v : Value} {l : List α} {b n : Nat} {S : List Int} (h : ReadsL m enc w v l) (hs : SetOwn w b n S) (hg : w.grownBy w' (some b)) : ReadsL m enc w' v l := by
 rcases h with ⟨a, cap, e1, e2⟩ | ⟨g, o, cap, e1, e2, e3⟩
 · exact .inl ⟨a, cap, e1, e2⟩
 · cases l with
   | nil => exact .inl ⟨_, cap, e1, rfl⟩
   | cons x t =>
    refine (ReadsL.kept (l := x :: t) (.inr ⟨g, o, cap, e1, e2, e3⟩) hg ?_)
    rw [e1]
    refine .inr fun e => ?_
    replace e : some g = some b := e
    injection e with e
    subst e
    obtain ⟨D, ⟨es, clock, hb, _⟩, _⟩ := hs
    have hlen := hl x
    obtain ⟨u, hu⟩ : ∃ u, (enc x)[0]? = some u := ⟨_, List.getElem?_eq_getElem (by omega)⟩
    have hc := e3 0 (by simp) 0 u hu
    simp [World.cell?, hb] at hc
theorem take_map_rev {α : Type} (f : α → Int) (l : List α) (k : Nat) (hk : k < l.length) (S : List Int) : ((l.take (k + 1)).map f).reverse ++ S = f l[k] :: (((l.take k).map f).reverse ++ S) := by
 rw [List.take_succ_eq_append_getElem hk, List.map_append, List.reverse_append, List.append_assoc]
 rfl
end Go.Proofs.Ytaicmiadgnpimaa
