/-
  Walks for layer 26 (model): slices of numbers at some place in a block of the law's own (waiting = waiting[1:]; append); the law's function without.
-/
import Derived.Test.YtaicmiadgnpimaaMgs
import Derived.Test.YtaicmiadgnpimaaMgi
import Derived.ArgAppend
namespace Go.Proofs.Ytaicmiadgnpimaa
open Go.RowKit

def blkO (u : SlV) : Option Nat := u.1.map (·.block)
theorem blkO_eq (u : SlV) : (valS u).ownBlock = blkO u := by
 obtain ⟨a, n, c⟩ := u
 cases a <;> rfl
structure OwnO (w : World) (B : Nat) (u : SlV) (l : List Int) : Prop where
 len : u.2.1 = l.length
 cap : l.length ≤ u.2.2
 lies : u = (none, 0, 0) ∨ ∃ g o cs, u.1 = some ⟨g, o, none⟩ ∧ B ≤ g ∧ w.heap[g]? = some (.cells cs 2 (0, 0)) ∧ o + u.2.2 ≤ cs.size ∧ ∀ j (_ : j < l.length), cs[o + j]? = some (I64 l[j])
theorem OwnO.nil (w : World) (B : Nat) : OwnO w B (none, 0, 0) [] := ⟨rfl, Nat.le_refl _, .inl rfl⟩
theorem flat_encI (l : List Int) : l.flatMap encI = l.map I64 := by
 induction l with
 | nil => rfl
 | cons x t ih =>
  rw [List.flatMap_cons, List.map_cons, ih]
  rfl
theorem OwnO.of {w : World} {B : Nat} {u : SlV} {l : List Int} (h : OwnL 2 1 encI w B (valS u) l) : OwnO w B u l := by
 obtain ⟨a, n, c⟩ := u
 have hf := flat_encI l
 rcases h.2 with ⟨e, h0⟩ | ⟨g, cap, cur, e, hB, hg, h1, _, h3, h4⟩
 · unfold valS at e
   injection e with e1 e2 e3
   dsimp only at e1 e2 e3
   subst e1 e2 e3
   exact ⟨h0.symm, by rw [h0]; exact Nat.le_refl _, .inl rfl⟩
 · unfold valS at e
   injection e with e1 e2 e3
   dsimp only at e1 e2 e3
   subst e1 e2 e3
   refine ⟨rfl, h1, .inr ⟨g, 0, cur, rfl, hB, hg, by dsimp only; omega, fun j hj => ?_⟩⟩
   have q : (cur.toList.take (l.length * 1))[j]? = (l.map I64)[j]? := by rw [h4, hf]
   rw [List.getElem?_take_of_lt (by omega)] at q
   rw [Nat.zero_add, ← Array.getElem?_toList, q]
   simp [hj]
theorem OwnO.mono {w : World} {B C : Nat} {u : SlV} {l : List Int} (h : OwnO w B u l) (hc : C ≤ B) : OwnO w C u l :=
 ⟨h.len, h.cap, h.lies.imp id fun ⟨g, o, cs, h1, h2, h3⟩ => ⟨g, o, cs, h1, Nat.le_trans hc h2, h3⟩⟩
theorem OwnO.at {w : World} {B : Nat} {u : SlV} {l : List Int} (h : OwnO w B u l) {g : Nat} (hg : blkO u = some g) : B ≤ g ∧ g < w.heap.size := by
 rcases h.lies with e | ⟨g', o, cs, h1, h2, h3, _⟩
 · rw [e] at hg
   cases hg
 · unfold blkO at hg
   rw [h1] at hg
   injection hg with hg
   subst hg
   exact ⟨h2, lt_of_block h3⟩
theorem OwnO.gb {w w2 : World} {B : Nat} {u : SlV} {l : List Int} {S : Nat → Prop} (h : OwnO w B u l) (hg : Gb S w w2) (hn : ∀ g, blkO u = some g → ¬ S g) : OwnO w2 B u l := by
 refine ⟨h.len, h.cap, h.lies.imp id ?_⟩
 rintro ⟨g, o, cs, h1, h2, h3, h4⟩
 exact ⟨g, o, cs, h1, h2, hg.blk h3 (hn g (by unfold blkO; rw [h1]; rfl)), h4⟩
theorem OwnO.below {w w2 : World} {B : Nat} {u : SlV} {l : List Int} (h : OwnO w B u l) (hb : Below w.heap.size w w2) : OwnO w2 B u l := h.gb (Gb.of_below (S := fun _ => False) hb) fun _ _ q => q
/-- What the walk asks of one that is not empty. -/
theorem OwnO.form {w : World} {B : Nat} {u : SlV} {l : List Int} (h : OwnO w B u l) (hne : l ≠ []) : ∃ g o cap, u = (some ⟨g, o, none⟩, l.length, cap) ∧ l.length ≤ cap ∧ g < w.heap.size ∧ (∀ j (_ : j < l.length), w.cell? ⟨g, o + j, none⟩ = some (I64 l[j])) := by
 obtain ⟨a, n, c⟩ := u
 have hl := h.len
 have hc := h.cap
 rcases h.lies with e | ⟨g, o, cs, h1, h2, h3, h4, h5⟩
 · rw [e] at hl
   exact absurd (List.eq_nil_of_length_eq_zero hl.symm) hne
 · dsimp only at hl hc h1 h4
   subst hl h1
   exact ⟨g, o, c, rfl, hc, lt_of_block h3, fun j hj => (blk_cell h3 _).trans (h5 j hj)⟩
theorem OwnO.reads {w : World} {B : Nat} {u : SlV} {l : List Int} (h : OwnO w B u l) : ReadsL 1 encI w (valS u) l := by
 by_cases hne : l = []
 · subst hne
   obtain ⟨a, n, c⟩ := u
   have hl := h.len
   dsimp only [List.length_nil] at hl
   subst hl
   exact .inl ⟨a, c, rfl, rfl⟩
 · obtain ⟨g, o, cap, rfl, _, hlt, hc⟩ := h.form hne
   refine .inr ⟨g, o, cap, rfl, hlt, fun j hj i v hv => ?_⟩
   cases i with
   | zero =>
    simp [encI] at hv
    subst hv
    rw [Nat.mul_one]
    exact hc j hj
   | succ i => simp [encI] at hv
/-- A beginning, and an end, of one. -/
theorem take_reads {w : World} {g o cap k : Nat} {l : List Int} (hlt : g < w.heap.size) (hc : ∀ j (_ : j < l.length), w.cell? ⟨g, o + j, none⟩ = some (I64 l[j])) (hk : k ≤ l.length) : ReadsL 1 encI w (.slice (some ⟨g, o, none⟩) k cap) (l.take k) := by
 have e : (l.take k).length = k := by rw [List.length_take]; omega
 refine .inr ⟨g, o, cap, by rw [e], hlt, fun j hj i v hv => ?_⟩
 rw [e] at hj
 cases i with
 | zero =>
  simp [encI] at hv
  subst hv
  rw [Nat.mul_one]
  exact hc j (by omega)
 | succ i => simp [encI] at hv
theorem drop_reads {w : World} {g o o2 n cap k : Nat} {l : List Int} (hlt : g < w.heap.size) (hc : ∀ j (_ : j < l.length), w.cell? ⟨g, o + j, none⟩ = some (I64 l[j])) (hk : k ≤ l.length) (hn : n = l.length - k) (ho : k < l.length → o2 = o + k) : ReadsL 1 encI w (.slice (some ⟨g, o2, none⟩) n cap) (l.drop k) := by
 have e : (l.drop k).length = l.length - k := by rw [List.length_drop]
 subst hn
 by_cases hkl : k < l.length
 · refine .inr ⟨g, o2, cap, by rw [e], hlt, fun j hj i v hv => ?_⟩
   rw [e] at hj
   rw [ho hkl]
   cases i with
   | zero =>
    simp [encI] at hv
    subst hv
    have q := hc (k + j) (by omega)
    rw [Nat.mul_one, Nat.add_zero, Nat.add_assoc]
    exact q
   | succ i => simp [encI] at hv
 · refine .inl ⟨some ⟨g, o2, none⟩, cap, ?_, List.drop_eq_nil_of_le (by omega)⟩
   rw [show l.length - k = 0 by omega]
theorem OwnO.tail {w : World} {B g o o2 n cap c2 : Nat} {x : Int} {t : List Int} (h : OwnO w B (some ⟨g, o, none⟩, n, cap) (x :: t)) (hc2 : c2 = cap - 1) (ho : 1 < cap → o2 = o + 1) (ho1 : cap = 1 → o2 = o) : OwnO w B (some ⟨g, o2, none⟩, t.length, c2) t := by
 have hl := h.len
 have hc := h.cap
 dsimp only [List.length_cons] at hl hc
 rcases h.lies with e | ⟨g', o', cs, h1, h2, h3, h4, h5⟩
 · cases e
 · dsimp only at h1 h4
   injection h1 with h1
   injection h1 with e1 e2
   subst e1 e2
   refine ⟨rfl, by dsimp only; omega, .inr ⟨g, o2, cs, rfl, h2, h3, ?_, fun j hj => ?_⟩⟩
   · dsimp only
     by_cases q : cap = 1
     · rw [ho1 q]
       omega
     · rw [ho (by omega)]
       omega
   · have q := h5 (j + 1) (by simpa using hj)
     rw [ho (by omega), Nat.add_assoc, Nat.add_comm 1 j]
     simpa using q
/-- append(v, n): in its place, or in a new block. -/
theorem appO {ops : Array Oper} {rest : List Oper} {o : Oper} {a : Act} {Q : Exit → Act → World → Prop} (w : World) (hgd : o.guard = none) (s x : Operand)
 (ho : o.op = .call { callee := .builtin .append, args := #[s, x], argTypes := #[54, 54] })
 (B : Nat) (u : SlV) (l : List Int) (n : Int) (hs : a.eval s = valS u) (hown : OwnO w B u l) (g c : Nat) (hx : a.eval x = .slice (some ⟨g, 0, none⟩) 1 c)
 (h0 : w.cell? ⟨g, 0, none⟩ = some (I64 n)) (hlen : l.length ≤ 10000000) (hbase : B ≤ w.heap.size)
 (h : ∀ u' w', OwnO w' B u' (l ++ [n]) → Gb (fun i => blkO u = some i) w w' → (∀ g', blkO u' = some g' → blkO u = some g' ∨ w.heap.size ≤ g') → wpList Try.prog ops Q rest (a.put o.dst (valS u')) w') : wpList Try.prog ops Q (o :: rest) a w := by
 obtain ⟨i0, hi, hz0, hz1, hz2⟩ := info_parts (elI).info
 have hmap := flat_encI
 have hgrow : ∀ v' w', w'.ownsRow w.heap.size 2 1 v' (l.length + 1) (l.map I64 ++ [I64 n]) → w.grownBy w' none → wpList Try.prog ops Q rest (a.put o.dst v') w' := fun v' w' h1 h2 => by
  have hw : OwnL 2 1 encI w' w.heap.size v' (l ++ [n]) := by
   unfold OwnL
   rw [List.length_append, hmap, List.map_append]
   simpa using h1
  obtain ⟨u', rfl, hw'⟩ := own_any_base hw
  refine h u' w' ((OwnO.of hw').mono hbase) (Gb.of_grown h2 fun k hk => by cases hk) (fun g' hg' => .inr ((OwnO.of hw').at hg').1)
 obtain ⟨ua, un, uc⟩ := u
 rcases hown.lies with e | ⟨gb, ob, cs, h1, h2, h3, h4, h5⟩
 · injection e with e1 e2
   injection e2 with e2 e3
   subst e1 e2 e3
   have hl0 : l = [] := List.eq_nil_of_length_eq_zero hown.len.symm
   subst hl0
   refine wpList_append_own w hgd s x 54 ho w.heap.size 2 i0 (I64 0) 1 8 (elI).und hi hz0 hz1 hz2 (elI).zc (elI).pos (.slice none 0 0) 0 [] hs (World.ownsRow_nil w _ _ 1) ⟨g, 0, none⟩ 1 c [I64 n] hx rfl ?_ (by intro u hu; simp at hu; subst hu; rfl) (by unfold maxLen; omega) (by omega) (Nat.le_refl _) ?_
   · intro j u hu
     cases j with
     | zero =>
      simp at hu
      subst hu
      rw [addr_add0]
      exact h0
     | succ j => simp at hu
   · intro v' w' q1 q2 _
     exact hgrow v' w' (by simpa using q1) q2
 · have hl := hown.len
   have hc := hown.cap
   dsimp only at hl hc h1 h4
   subst hl h1
   refine wpList_append_arg w hgd s x 54 ho 2 i0 (I64 0) 1 8 (elI).und hi hz0 hz1 hz2 (elI).zc (elI).pos gb ob l.length uc (l.map I64) hs (by simp) ?_ ⟨g, 0, none⟩ 1 c [I64 n] hx rfl ?_ (by intro u hu; simp at hu; subst hu; rfl) ?_ (by unfold maxLen; omega) (by omega) ?_ ?_
   · intro j u hu
     have hj : j < l.length := by
      have := (List.getElem?_eq_some_iff.1 hu).1
      simpa using this
     rw [blk_cell h3, h5 j hj]
     simpa [hj] using hu
   · intro j u hu
     cases j with
     | zero =>
      simp at hu
      subst hu
      rw [addr_add0]
      exact h0
     | succ j => simp at hu
   · intro hroom j hj
     simp at hj
     subst hj
     exact ⟨by rw [blk_cell h3]; simp; omega, blk_free h3 _⟩
   · intro hroom
     have hset := blk_set h3 (ob + l.length) (I64 n)
     have e : w.setCells gb (ob + l.length * 1) [I64 n] = w.setCell ⟨gb, ob + l.length, none⟩ (I64 n) := by
      rw [Nat.mul_one]
      rfl
     rw [e]
     refine h (some ⟨gb, ob, none⟩, l.length + 1, uc) _ ⟨by simp, by simpa using hroom, .inr ⟨gb, ob, _, rfl, h2, hset, by simpa using h4, fun j hj => ?_⟩⟩ ((Gb.refl (fun i => blkO (some ⟨gb, ob, none⟩, l.length, uc) = some i) w).setCell (x := ⟨gb, ob + l.length, none⟩) rfl _) (fun g' hg' => .inl hg')
     by_cases q : j = l.length
     · subst q
       rw [Array.getElem?_setIfInBounds_self_of_lt (by omega)]
       simp
     · have hj2 : j < l.length := by
        simp at hj
        omega
       rw [Array.getElem?_setIfInBounds_ne (by omega), h5 j hj2]
       simp [hj2]
   · intro _ v' w' q1 q2
     exact hgrow v' w' q1 q2
theorem erase_at_ix {l : List Int} {k : Nat} {n : Int} (hk : k < l.length) (h1 : n ∉ l.take k) (h2 : l[k] = n) : l.erase n = l.take k ++ l.drop (k + 1) := by
 have e : l = l.take k ++ n :: l.drop (k + 1) := by
  rw [← h2, List.getElem_cons_drop, List.take_append_drop]
 conv => lhs; rw [e]
 rw [List.erase_append_right _ h1, List.erase_cons_head]
theorem notin_succ {l : List Int} {k : Nat} {n : Int} (hk : k < l.length) (h1 : n ∉ l.take k) (h2 : l[k] ≠ n) : n ∉ l.take (k + 1) := by
 rw [List.take_succ_eq_append_getElem hk]
 simp only [List.mem_append, List.mem_singleton, not_or]
 exact ⟨h1, fun q => h2 q.symm⟩
-- WITHOUT: what follows is printed by tools/mkWo.py
set_option maxHeartbeats 4000000 in
set_option maxRecDepth 100000 in
set_option linter.unusedVariables false in
set_option linter.unusedSimpArgs false in
theorem without_no (u : SlV) (l : List Int) (n : Int) (B : Nat) (w : World) (h : OwnO w B u l) (hm : n ∉ l) (hl : l.length ≤ 10000000) :
 Calls Try.prog 14 #[valS u, I64 n] w fun e w' => e = .returned (.tuple #[valS u, .bool false]) ∧ w' = w := by
 by_cases hne : l = []
 · subst hne
   obtain ⟨a, n0, c⟩ := u
   have hl0 := h.len
   dsimp only [List.length_nil] at hl0
   subst hl0
   clear h hm hl
   unfold valS
   dsimp only
   go_enter Try.func14, Try.ntmps14
   go_wp2_with fail
   go_loopw [6] (fun iv wr => iv = .int .i64 0 ∧ wr = w) (fun _ _ => 0)
   case atStart => exact ⟨rfl, rfl⟩
   case round =>
    obtain ⟨rfl, hwr⟩ := hrel
    subst hwr
    go_wp2_with fail
    go_ret2
    exact ⟨rfl, rfl⟩
 · obtain ⟨g, o, cap, rfl, hcap, hlt, hc⟩ := h.form (hne)
   have HC := Lib.hid hc
   obtain ⟨L, hL⟩ : ∃ x, x = l.length := ⟨_, rfl⟩
   rw [← hL] at hcap hl ⊢
   have HL := Lib.hid hL
   clear hc hL h
   unfold valS
   dsimp only
   go_enter Try.func14, Try.ntmps14
   go_wp2_with fail
   go_loopw [6] (fun iv wr => ∃ k : Nat, k ≤ L ∧ iv = .int .i64 k ∧ Hid (n ∉ l.take k) ∧ wr = w) (fun iv _ => L - (intOf iv).toNat)
   case atStart => exact ⟨0, Nat.zero_le _, rfl, Lib.hid (by simp), rfl⟩
   case round =>
    obtain ⟨k, hk, rfl, HN, hwr⟩ := hrel
    subst hwr
    by_cases hlt2 : k < L
    · have hkl : k < l.length := by rw [← HL.out]; exact hlt2
      have c0 : wr.cell? ⟨g, o + k, none⟩ = some (I64 l[k]) := HC.out k hkl
      have hkI : (k : Int) < (L : Int) := by omega
      have he : l[k] ≠ n := fun e => hm (e ▸ List.getElem_mem hkl)
      have heb : (l[k] == n) = false := by rw [beq_eq_false_iff_ne]; exact he
      have HN2 := Lib.hid (notin_succ hkl HN.out he)
      generalize l[k] = z at c0 heb
      clear he
      go_wp2_with fail
      refine ⟨⟨k + 1, hlt2, by rw [show (k : Int) + 1 = ((k + 1 : Nat) : Int) by omega], HN2, trivial⟩, ?_⟩
      simp [intOf]
      omega
    · have hkn : ¬ (k : Int) < (L : Int) := by omega
      go_wp2_with fail
      go_ret2
      exact ⟨rfl, rfl⟩
set_option maxHeartbeats 4000000 in
set_option maxRecDepth 100000 in
set_option linter.unusedVariables false in
set_option linter.unusedSimpArgs false in
theorem without_yes (u : SlV) (l : List Int) (n : Int) (B : Nat) (w : World) (h : OwnO w B u l) (hm : n ∈ l) (hl : l.length ≤ 10000000) :
 Calls Try.prog 14 #[valS u, I64 n] w fun e w' => ∃ u', e = .returned (.tuple #[valS u', .bool true]) ∧ OwnO w' w.heap.size u' (l.erase n) ∧ Below w.heap.size w w' := by
 obtain ⟨g, o, cap, rfl, hcap, hlt, hc⟩ := h.form (List.ne_nil_of_mem hm)
 have HC := Lib.hid hc
 obtain ⟨L, hL⟩ : ∃ x, x = l.length := ⟨_, rfl⟩
 rw [← hL] at hcap hl ⊢
 have HL := Lib.hid hL
 clear hc hL h
 unfold valS
 dsimp only
 go_enter Try.func14, Try.ntmps14
 go_wp2_with fail
 go_loopw [6] (fun iv wr => ∃ k : Nat, k ≤ L ∧ iv = .int .i64 k ∧ Hid (n ∉ l.take k) ∧ wr = w) (fun iv _ => L - (intOf iv).toNat)
 case atStart => exact ⟨0, Nat.zero_le _, rfl, Lib.hid (by simp), rfl⟩
 case round =>
  obtain ⟨k, hk, rfl, HN, hwr⟩ := hrel
  subst hwr
  by_cases hlt2 : k < L
  · have hkl : k < l.length := by rw [← HL.out]; exact hlt2
    have c0 : wr.cell? ⟨g, o + k, none⟩ = some (I64 l[k]) := HC.out k hkl
    have hkI : (k : Int) < (L : Int) := by omega
    by_cases he : l[k] = n
    · have hkc : k ≤ cap := by omega
      have HOE := Lib.hid (own_empty 2 1 encI wr)
      have h1 := take_reads (cap := cap) hlt HC.out (k := k) (by omega)
      have HT := Lib.hid h1
      have HE := Lib.hid (erase_at_ix hkl HN.out he)
      rw [he] at c0
      have heb : (n == n) = true := by simp
      have hkcI : (k : Int) ≤ (cap : Int) := by omega
      have hk1c : (k : Int) + 1 ≤ (cap : Int) := by omega
      have hk1L : (k : Int) + 1 ≤ (L : Int) := by omega
      have hlt0 : (0 : Int) ≤ (k : Int) := by omega
      have hwk : IntKind.i64.wrap ((k : Int) + 1) = ((k + 1 : Nat) : Int) := by rw [IntKind.wrap_i64]; omega
      have hk1p : (0 : Int) ≤ (k : Int) + 1 := by omega
      have h2 : ReadsL 1 encI wr (.slice (if cap = k + 1 then some ⟨g, o, none⟩ else some ⟨g, o + (k + 1), none⟩) (L - (k + 1)) (cap - (k + 1))) (l.drop (k + 1)) := by
       have q := HL.out
       split
       · exact drop_reads hlt HC.out (by omega) (by omega) (fun q => by omega)
       · exact drop_reads hlt HC.out (by omega) (by omega) (fun _ => rfl)
      have HD := Lib.hid h2
      clear he h1 h2
      go_wp2_with fail
      refine wp_region_held_drew (S := fun w1 => Hid (Below wr.heap.size wr w1)) (by kernel_rfl) ((Below.refl _ _).drew) (fun hH0 => ?_)
      refine wpAnyH_take (i := 1) (oi := _) (v := ?vv1_1) (dropAt (r := _) rfl) (by kernel_rfl) (by kernel_rfl) (by kernel_rfl) (fun _ _ _ h => h) (Or.inl ⟨by rfl, ?hv1_1⟩) hH0 ?rv1_1
      case hv1_1 => (intro w hSw; go_simp; first | done | with_reducible rfl)
      try simp only [Act.put, List.setIfInBounds_toArray, List.set_cons_zero, List.set_cons_succ]
      refine wpAnyH_take (i := 2) (oi := _) (v := ?vv2_2) (dropAt (r := _) rfl) (by kernel_rfl) (by kernel_rfl) (by kernel_rfl) (fun _ _ _ h => h) (Or.inl ⟨by rfl, ?hv2_2⟩) hH0 ?rv2_2
      case hv2_2 => (intro w hSw; go_simp; first | done | with_reducible rfl)
      try simp only [Act.put, List.setIfInBounds_toArray, List.set_cons_zero, List.set_cons_succ]
      refine wpAnyH_take (i := 3) (oi := _) (v := ?vv3_3) (dropAt (r := _) rfl) (by kernel_rfl) (by kernel_rfl) (by kernel_rfl) (fun _ _ _ h => h) (Or.inl ⟨by rfl, ?hv3_3⟩) hH0 ?rv3_3
      case hv3_3 => (intro w hSw; go_simp; first | done | with_reducible rfl)
      try simp only [Act.put, List.setIfInBounds_toArray, List.set_cons_zero, List.set_cons_succ]
      refine wpAnyH_take (i := 5) (oi := _) (v := ?vv5_4) (dropAt (r := _) rfl) (by kernel_rfl) (by kernel_rfl) (by kernel_rfl) (fun _ _ _ h => h) (Or.inl ⟨by rfl, ?hv5_4⟩) hH0 ?rv5_4
      case hv5_4 => (intro w hSw; go_simp; first | done | with_reducible rfl)
      try simp only [Act.put, List.setIfInBounds_toArray, List.set_cons_zero, List.set_cons_succ]
      refine wpAnyH_take (i := 6) (oi := _) (v := ?vv6_5) (dropAt (r := _) rfl) (by kernel_rfl) (by kernel_rfl) (by kernel_rfl) (fun _ _ _ h => h) (Or.inl ⟨by rfl, ?hv6_5⟩) hH0 ?rv6_5
      case hv6_5 => (intro w hSw; go_simp; first | done | with_reducible rfl)
      try simp only [Act.put, List.setIfInBounds_toArray, List.set_cons_zero, List.set_cons_succ]
      refine wpAnyH_take (i := 7) (oi := _) (v := ?vv7_6) (dropAt (r := _) rfl) (by kernel_rfl) (by kernel_rfl) (by kernel_rfl) (fun _ _ _ h => h) (Or.inl ⟨by rfl, ?hv7_6⟩) hH0 ?rv7_6
      case hv7_6 => (intro w hSw; go_simp; first | done | with_reducible rfl)
      try simp only [Act.put, List.setIfInBounds_toArray, List.set_cons_zero, List.set_cons_succ]
      refine wpAnyH_take (i := 8) (oi := _) (v := ?vv8_7) (dropAt (r := _) rfl) (by kernel_rfl) (by kernel_rfl) (by kernel_rfl) (fun _ _ _ h => h) (Or.inl ⟨by rfl, ?hv8_7⟩) hH0 ?rv8_7
      case hv8_7 => (intro w hSw; go_simp; first | done | with_reducible rfl)
      try simp only [Act.put, List.setIfInBounds_toArray, List.set_cons_zero, List.set_cons_succ]
      refine wpAnyH_ready (rs := [0]) (by kernel_rfl) (by simp) ?_
      refine AllReadyH.cons (o := _) (dropAt (r := _) rfl) (fun K hK => ?_) AllReadyH.nil
      go_simp
      obtain ⟨wa, hwa⟩ : ∃ x, x = (wr.alloc (.cells #[] 2)).drew := ⟨_, rfl⟩
      have hb1 : Below wr.heap.size wr wa := by
       rw [hwa]
       exact ((Below.refl _ _).alloc (Nat.le_refl _) _).drew
      have HB1 := Lib.hid hb1
      have HO1 : Hid (OwnL 2 1 encI wa wr.heap.size (.slice (some ⟨wr.heap.size, 0, none⟩) 0 0) []) := by
       rw [hwa]
       exact HOE.out.drew
      show K _ (wr.alloc (.cells #[] 2)).drew
      rw [← hwa]
      refine hK.out _ _ HB1 (fun hH1 => ?_)
      clear hK K hwa hb1
      try simp only [Act.put, List.setIfInBounds_toArray, List.set_cons_zero, List.set_cons_succ]
      refine wpAnyH_ready (rs := [4]) (by kernel_rfl) (by simp) ?_
      refine AllReadyH.cons (o := _) (dropAt (r := _) rfl) (fun K hK => ?_) AllReadyH.nil
      rw [if_pos (by rfl)]
      refine appLsR elI wa _ _ rfl wr.heap.size _ [] (l.take k) rfl HO1.out _ rfl (HT.out.below HB1.out) (by rw [List.length_take]; unfold maxLen; simp; omega) (by rw [List.length_take]; simp; omega) HB1.out.size ?_
      intro v2 w2 hown2 hgr2
      rw [List.nil_append] at hown2
      have HB2 := Lib.hid (below_appL HB1.out HO1.out hgr2 HB1.out.size)
      have HO2 := Lib.hid hown2
      refine hK.out _ _ HB2 (fun hH2 => ?_)
      clear hK K hown2 hgr2
      try simp only [Act.put, List.setIfInBounds_toArray, List.set_cons_zero, List.set_cons_succ]
      refine wpAnyH_ready (rs := [9]) (by kernel_rfl) (by simp) ?_
      refine AllReadyH.cons (o := _) (dropAt (r := _) rfl) (fun K hK => ?_) AllReadyH.nil
      rw [if_pos (by rfl)]
      refine appLsR elI w2 _ _ rfl wr.heap.size v2 (l.take k) (l.drop (k + 1)) rfl HO2.out _ rfl (HD.out.below HB2.out) (by have := HL.out; rw [List.length_take, List.length_drop]; unfold maxLen; omega) (by have := HL.out; rw [List.length_take, List.length_drop]; omega) HB2.out.size ?_
      intro v3 w3 hown3 hgr3
      have HB3 := Lib.hid (below_appL HB2.out HO2.out hgr3 HB2.out.size)
      obtain ⟨⟨a3, n3, c3⟩, rfl, ho3⟩ := own_any_base hown3
      rw [← HE.out] at ho3
      have HO3 := Lib.hid (OwnO.of ho3)
      unfold valS
      dsimp only
      refine hK.out _ _ HB3 (fun hH3 => ?_)
      clear hK K hown3 hgr3 ho3
      try simp only [Act.put, List.setIfInBounds_toArray, List.set_cons_zero, List.set_cons_succ]
      refine wpAnyH_take (i := 10) (oi := _) (v := ?vv10_8) (dropAt (r := _) rfl) (by kernel_rfl) (by kernel_rfl) (by kernel_rfl) (fun _ _ _ h => h) (Or.inl ⟨by rfl, ?hv10_8⟩) hH3 ?rv10_8
      case hv10_8 => (intro w hSw; go_simp; first | done | with_reducible rfl)
      try simp only [Act.put, List.setIfInBounds_toArray, List.set_cons_zero, List.set_cons_succ]
      refine wpAnyH_take (i := 11) (oi := _) (v := ?vv11_9) (dropAt (r := _) rfl) (by kernel_rfl) (by kernel_rfl) (by kernel_rfl) (fun _ _ _ h => h) (Or.inl ⟨by rfl, ?hv11_9⟩) hH3 ?rv11_9
      case hv11_9 => (intro w hSw; go_simp; first | done | with_reducible rfl)
      try simp only [Act.put, List.setIfInBounds_toArray, List.set_cons_zero, List.set_cons_succ]
      refine wpAnyH_done (by kernel_rfl) ?_ _
      go_wp2_with fail
      all_goals
       go_ret2
       exact ⟨a3, n3, c3, rfl, HO3.out, HB3.out⟩
    · have heb : (l[k] == n) = false := by rw [beq_eq_false_iff_ne]; exact he
      have HN2 := Lib.hid (notin_succ hkl HN.out he)
      generalize l[k] = z at c0 heb
      clear he
      go_wp2_with fail
      refine ⟨⟨k + 1, hlt2, by rw [show (k : Int) + 1 = ((k + 1 : Nat) : Int) by omega], HN2, trivial⟩, ?_⟩
      simp [intOf]
      omega
  · refine absurd hm ?_
    have q := HN.out
    rw [List.take_of_length_le (by have := HL.out; omega)] at q
    exact q
end Go.Proofs.Ytaicmiadgnpimaa
