/-
  Walks for layer 26 (model): slices of numbers at some place in a block of the law's own (waiting = waiting[1:]; append); the law's function without.
-/
import Derived.Test.YtaicmiadgnpimaaMgs
import Derived.Test.YtaicmiadgnpimaaMgi
import Derived.ArgAppend
namespace Go.Proofs.Ytaicmiadgnpimaa
open Go.RowKit

def blkO (u : SlV) : Option Nat := u.1.map (·.block)
structure OwnO (w : World) (B : Nat) (u : SlV) (l : List Int) : Prop where
 len : u.2.1 = l.length
 cap : l.length ≤ u.2.2
 lies : u = (none, 0, 0) ∨ ∃ g o cs, u.1 = some ⟨g, o, none⟩ ∧ B ≤ g ∧ w.heap[g]? = some (.cells cs 2 (0, 0)) ∧ o + u.2.2 ≤ cs.size ∧ ∀ j (_ : j < l.length), cs[o + j]? = some (I64 l[j])
theorem OwnO.nil (w : World) (B : Nat) : OwnO w B (none, 0, 0) [] := ⟨rfl, Nat.le_refl _, .inl rfl⟩
theorem flat_encI (l : List Int) : l.flatMap encI = l.map I64 := by
 induction l with
 | nil => rfl
 | cons x t ih =>
  rw [List.flatMap_cons, List.map_cons, ih]
  rfl
theorem OwnO.of {w : World} {B : Nat} {u : SlV} {l : List Int} (h : OwnL 2 1 encI w B (valS u) l) : OwnO w B u l := by
 obtain ⟨a, n, c⟩ := u
 have hf := flat_encI l
 rcases h.2 with ⟨e, h0⟩ | ⟨g, cap, cur, e, hB, hg, h1, _, h3, h4⟩
 · unfold valS at e
   injection e with e1 e2 e3
   dsimp only at e1 e2 e3
   subst e1 e2 e3
   exact ⟨h0.symm, by rw [h0]; exact Nat.le_refl _, .inl rfl⟩
 · unfold valS at e
   injection e with e1 e2 e3
   dsimp only at e1 e2 e3
   subst e1 e2 e3
   refine ⟨rfl, h1, .inr ⟨g, 0, cur, rfl, hB, hg, by dsimp only; omega, fun j hj => ?_⟩⟩
   have q : (cur.toList.take (l.length * 1))[j]? = (l.map I64)[j]? := by rw [h4, hf]
   rw [List.getElem?_take_of_lt (by omega)] at q
   rw [Nat.zero_add, ← Array.getElem?_toList, q]
   simp [hj]
theorem OwnO.mono {w : World} {B C : Nat} {u : SlV} {l : List Int} (h : OwnO w B u l) (hc : C ≤ B) : OwnO w C u l :=
 ⟨h.len, h.cap, h.lies.imp id fun ⟨g, o, cs, h1, h2, h3⟩ => ⟨g, o, cs, h1, Nat.le_trans hc h2, h3⟩⟩
theorem OwnO.at {w : World} {B : Nat} {u : SlV} {l : List Int} (h : OwnO w B u l) {g : Nat} (hg : blkO u = some g) : B ≤ g ∧ g < w.heap.size := by
 rcases h.lies with e | ⟨g', o, cs, h1, h2, h3, _⟩
 · rw [e] at hg
   cases hg
 · unfold blkO at hg
   rw [h1] at hg
   injection hg with hg
   subst hg
   exact ⟨h2, lt_of_block h3⟩
theorem OwnO.gb {w w2 : World} {B : Nat} {u : SlV} {l : List Int} {S : Nat → Prop} (h : OwnO w B u l) (hg : Gb S w w2) (hn : ∀ g, blkO u = some g → ¬ S g) : OwnO w2 B u l := by
 refine ⟨h.len, h.cap, h.lies.imp id ?_⟩
 rintro ⟨g, o, cs, h1, h2, h3, h4⟩
 exact ⟨g, o, cs, h1, h2, hg.blk h3 (hn g (by unfold blkO; rw [h1]; rfl)), h4⟩
theorem OwnO.below {w w2 : World} {B : Nat} {u : SlV} {l : List Int} (h : OwnO w B u l) (hb : Below w.heap.size w w2) : OwnO w2 B u l := h.gb (Gb.of_below (S := fun _ => False) hb) fun _ _ q => q
/-- What the walk asks of one that is not empty. -/
theorem OwnO.form {w : World} {B : Nat} {u : SlV} {l : List Int} (h : OwnO w B u l) (hne : l ≠ []) : ∃ g o cap, u = (some ⟨g, o, none⟩, l.length, cap) ∧ l.length ≤ cap ∧ g < w.heap.size ∧ (∀ j (_ : j < l.length), w.cell? ⟨g, o + j, none⟩ = some (I64 l[j])) := by
 obtain ⟨a, n, c⟩ := u
 have hl := h.len
 have hc := h.cap
 rcases h.lies with e | ⟨g, o, cs, h1, h2, h3, h4, h5⟩
 · rw [e] at hl
   exact absurd (List.eq_nil_of_length_eq_zero hl.symm) hne
 · dsimp only at hl hc h1 h4
   subst hl h1
   exact ⟨g, o, c, rfl, hc, lt_of_block h3, fun j hj => (blk_cell h3 _).trans (h5 j hj)⟩
theorem OwnO.reads {w : World} {B : Nat} {u : SlV} {l : List Int} (h : OwnO w B u l) : ReadsL 1 encI w (valS u) l := by
 by_cases hne : l = []
 · subst hne
   obtain ⟨a, n, c⟩ := u
   have hl := h.len
   dsimp only [List.length_nil] at hl
   subst hl
   exact .inl ⟨a, c, rfl, rfl⟩
 · obtain ⟨g, o, cap, rfl, _, hlt, hc⟩ := h.form hne
   refine .inr ⟨g, o, cap, rfl, hlt, fun j hj i v hv => ?_⟩
   cases i with
   | zero =>
    simp [encI] at hv
    subst hv
    rw [Nat.mul_one]
    exact hc j hj
   | succ i => simp [encI] at hv
/-- A beginning, and an end, of one. -/
theorem take_reads {w : World} {g o cap k : Nat} {l : List Int} (hlt : g < w.heap.size) (hc : ∀ j (_ : j < l.length), w.cell? ⟨g, o + j, none⟩ = some (I64 l[j])) (hk : k ≤ l.length) : ReadsL 1 encI w (.slice (some ⟨g, o, none⟩) k cap) (l.take k) := by
 have e : (l.take k).length = k := by rw [List.length_take]; omega
 refine .inr ⟨g, o, cap, by rw [e], hlt, fun j hj i v hv => ?_⟩
 rw [e] at hj
 cases i with
 | zero =>
  simp [encI] at hv
  subst hv
  rw [Nat.mul_one]
  exact hc j (by omega)
 | succ i => simp [encI] at hv
theorem drop_reads {w : World} {g o o2 n cap k : Nat} {l : List Int} (hlt : g < w.heap.size) (hc : ∀ j (_ : j < l.length), w.cell? ⟨g, o + j, none⟩ = some (I64 l[j])) (hk : k ≤ l.length) (hn : n = l.length - k) (ho : k < l.length → o2 = o + k) : ReadsL 1 encI w (.slice (some ⟨g, o2, none⟩) n cap) (l.drop k) := by
 have e : (l.drop k).length = l.length - k := by rw [List.length_drop]
 subst hn
 by_cases hkl : k < l.length
 · refine .inr ⟨g, o2, cap, by rw [e], hlt, fun j hj i v hv => ?_⟩
   rw [e] at hj
   rw [ho hkl]
   cases i with
   | zero =>
    simp [encI] at hv
    subst hv
    have q := hc (k + j) (by omega)
    rw [Nat.mul_one, Nat.add_zero, Nat.add_assoc]
    exact q
   | succ i => simp [encI] at hv
 · refine .inl ⟨some ⟨g, o2, none⟩, cap, ?_, List.drop_eq_nil_of_le (by omega)⟩
   rw [show l.length - k = 0 by omega]
theorem erase_at_ix {l : List Int} {k : Nat} {n : Int} (hk : k < l.length) (h1 : n ∉ l.take k) (h2 : l[k] = n) : l.erase n = l.take k ++ l.drop (k + 1) := by
 have e : l = l.take k ++ n :: l.drop (k + 1) := by
  rw [← h2, List.getElem_cons_drop, List.take_append_drop]
 conv => lhs; rw [e]
 rw [List.erase_append_right _ h1, List.erase_cons_head]
theorem notin_succ {l : List Int} {k : Nat} {n : Int} (hk : k < l.length) (h1 : n ∉ l.take k) (h2 : l[k] ≠ n) : n ∉ l.take (k + 1) := by
 rw [List.take_succ_eq_append_getElem hk]
 simp only [List.mem_append, List.mem_singleton, not_or]
 exact ⟨h1, fun q => h2 q.symm⟩
-- WITHOUT: what follows is printed by tools/mkWo.py
set_option maxHeartbeats 4000000 in
set_option maxRecDepth 100000 in
set_option linter.unusedVariables false in
set_option linter.unusedSimpArgs false in
theorem without_own (u : SlV) (l : List Int) (n : Int) (B : Nat) (w : World) (h : OwnO w B u l) (hm : n ∈ l) (hl : l.length ≤ 10000000) :
 Calls Try.prog 14 #[valS u, I64 n] w fun e w' => ∃ u', e = .returned (.tuple #[valS u', .bool true]) ∧ OwnL 2 1 encI w' w.heap.size (valS u') (l.erase n) ∧ Below w.heap.size w w' := by
 obtain ⟨g, o, cap, rfl, hcap, hlt, hc⟩ := h.form (List.ne_nil_of_mem hm)
 have HC := Lib.hid hc
 obtain ⟨L, hL⟩ : ∃ x, x = l.length := ⟨_, rfl⟩
 rw [← hL] at hcap hl ⊢
 have HL := Lib.hid hL
 clear hc hL h
 unfold valS
 dsimp only
 go_enter Try.func14, Try.ntmps14
 go_wp2_with fail
 go_loopw [6] (fun iv wr => ∃ k : Nat, k ≤ L ∧ iv = .int .i64 k ∧ Hid (n ∉ l.take k) ∧ wr = w) (fun iv _ => L - (intOf iv).toNat)
 case atStart => exact ⟨0, Nat.zero_le _, rfl, Lib.hid (by simp), rfl⟩
 case round =>
  obtain ⟨k, hk, rfl, HN, hwr⟩ := hrel
  subst hwr
  by_cases hlt2 : k < L
  · have hkl : k < l.length := by rw [← HL.out]; exact hlt2
    have c0 : wr.cell? ⟨g, o + k, none⟩ = some (I64 l[k]) := HC.out k hkl
    have hkI : (k : Int) < (L : Int) := by omega
    by_cases he : l[k] = n
    · have hkc : k ≤ cap := by omega
      have HOE := Lib.hid (own_empty 2 1 encI wr)
      have h1 := take_reads (cap := cap) hlt HC.out (k := k) (by omega)
      have HT := Lib.hid h1
      have HE := Lib.hid (erase_at_ix hkl HN.out he)
      rw [he] at c0
      have heb : (n == n) = true := by simp
      have hkcI : (k : Int) ≤ (cap : Int) := by omega
      have hk1c : (k : Int) + 1 ≤ (cap : Int) := by omega
      have hk1L : (k : Int) + 1 ≤ (L : Int) := by omega
      have hlt0 : (0 : Int) ≤ (k : Int) := by omega
      have hwk : IntKind.i64.wrap ((k : Int) + 1) = ((k + 1 : Nat) : Int) := by rw [IntKind.wrap_i64]; omega
      have hk1p : (0 : Int) ≤ (k : Int) + 1 := by omega
      have h2 : ReadsL 1 encI wr (.slice (if cap = k + 1 then some ⟨g, o, none⟩ else some ⟨g, o + (k + 1), none⟩) (L - (k + 1)) (cap - (k + 1))) (l.drop (k + 1)) := by
       have q := HL.out
       split
       · exact drop_reads hlt HC.out (by omega) (by omega) (fun q => by omega)
       · exact drop_reads hlt HC.out (by omega) (by omega) (fun _ => rfl)
      have HD := Lib.hid h2
      clear he h1 h2
      go_wp2_with fail
      refine wp_region_held_drew (S := fun w1 => Hid (Below wr.heap.size wr w1)) (by kernel_rfl) ((Below.refl _ _).drew) (fun hH0 => ?_)
      refine tk 1 (v := ?vv1_1) (dropAt rfl) (Or.inl ⟨by rfl, ?hv1_1⟩) hH0 ?rv1_1
      case hv1_1 => (intro w hSw; go_simp; first | done | with_reducible rfl)
      try simp only [Act.put, pu2, pu3, pu4]
      refine tk 2 (v := ?vv2_2) (dropAt rfl) (Or.inl ⟨by rfl, ?hv2_2⟩) hH0 ?rv2_2
      case hv2_2 => (intro w hSw; go_simp; first | done | with_reducible rfl)
      try simp only [Act.put, pu2, pu3, pu4]
      refine tk 3 (v := ?vv3_3) (dropAt rfl) (Or.inl ⟨by rfl, ?hv3_3⟩) hH0 ?rv3_3
      case hv3_3 => (intro w hSw; go_simp; first | done | with_reducible rfl)
      try simp only [Act.put, pu2, pu3, pu4]
      refine tk 5 (v := ?vv5_4) (dropAt rfl) (Or.inl ⟨by rfl, ?hv5_4⟩) hH0 ?rv5_4
      case hv5_4 => (intro w hSw; go_simp; first | done | with_reducible rfl)
      try simp only [Act.put, pu2, pu3, pu4]
      refine tk 6 (v := ?vv6_5) (dropAt rfl) (Or.inl ⟨by rfl, ?hv6_5⟩) hH0 ?rv6_5
      case hv6_5 => (intro w hSw; go_simp; first | done | with_reducible rfl)
      try simp only [Act.put, pu2, pu3, pu4]
      refine tk 7 (v := ?vv7_6) (dropAt rfl) (Or.inl ⟨by rfl, ?hv7_6⟩) hH0 ?rv7_6
      case hv7_6 => (intro w hSw; go_simp; first | done | with_reducible rfl)
      try simp only [Act.put, pu2, pu3, pu4]
      refine tk 8 (v := ?vv8_7) (dropAt rfl) (Or.inl ⟨by rfl, ?hv8_7⟩) hH0 ?rv8_7
      case hv8_7 => (intro w hSw; go_simp; first | done | with_reducible rfl)
      try simp only [Act.put, pu2, pu3, pu4]
      refine wpAnyH_ready (rs := [0]) (by kernel_rfl) (by simp) ?_
      refine AllReadyH.cons (o := _) (dropAt rfl) (fun K hK => ?_) AllReadyH.nil
      go_simp
      obtain ⟨wa, hwa⟩ : ∃ x, x = (wr.alloc (.cells #[] 2)).drew := ⟨_, rfl⟩
      have hb1 : Below wr.heap.size wr wa := by
       rw [hwa]
       exact ((Below.refl _ _).alloc (Nat.le_refl _) _).drew
      have HB1 := Lib.hid hb1
      have HO1 : Hid (OwnL 2 1 encI wa wr.heap.size (.slice (some ⟨wr.heap.size, 0, none⟩) 0 0) []) := by
       rw [hwa]
       exact HOE.out.drew
      show K _ (wr.alloc (.cells #[] 2)).drew
      rw [← hwa]
      refine hK.out _ _ HB1 (fun hH1 => ?_)
      clear hK K hwa hb1
      try simp only [Act.put, pu2, pu3, pu4]
      refine wpAnyH_ready (rs := [4]) (by kernel_rfl) (by simp) ?_
      refine AllReadyH.cons (o := _) (dropAt rfl) (fun K hK => ?_) AllReadyH.nil
      rw [if_pos (by rfl)]
      refine appLsR elI wa _ _ rfl wr.heap.size _ [] (l.take k) rfl HO1.out _ rfl (HT.out.below HB1.out) (by rw [List.length_take]; unfold maxLen; simp; omega) (by rw [List.length_take]; simp; omega) HB1.out.size ?_
      intro v2 w2 hown2 hgr2
      rw [List.nil_append] at hown2
      have HB2 := Lib.hid (below_appL HB1.out HO1.out hgr2 HB1.out.size)
      have HO2 := Lib.hid hown2
      refine hK.out _ _ HB2 (fun hH2 => ?_)
      clear hK K hown2 hgr2
      try simp only [Act.put, pu2, pu3, pu4]
      refine wpAnyH_ready (rs := [9]) (by kernel_rfl) (by simp) ?_
      refine AllReadyH.cons (o := _) (dropAt rfl) (fun K hK => ?_) AllReadyH.nil
      rw [if_pos (by rfl)]
      refine appLsR elI w2 _ _ rfl wr.heap.size v2 (l.take k) (l.drop (k + 1)) rfl HO2.out _ rfl (HD.out.below HB2.out) (by have := HL.out; rw [List.length_take, List.length_drop]; unfold maxLen; omega) (by have := HL.out; rw [List.length_take, List.length_drop]; omega) HB2.out.size ?_
      intro v3 w3 hown3 hgr3
      have HB3 := Lib.hid (below_appL HB2.out HO2.out hgr3 HB2.out.size)
      obtain ⟨⟨a3, n3, c3⟩, rfl, ho3⟩ := own_any_base hown3
      rw [← HE.out] at ho3
      have HO3 := Lib.hid ho3
      unfold valS
      dsimp only
      refine hK.out _ _ HB3 (fun hH3 => ?_)
      clear hK K hown3 hgr3 ho3
      try simp only [Act.put, pu2, pu3, pu4]
      refine tk 10 (v := ?vv10_8) (dropAt rfl) (Or.inl ⟨by rfl, ?hv10_8⟩) hH3 ?rv10_8
      case hv10_8 => (intro w hSw; go_simp; first | done | with_reducible rfl)
      try simp only [Act.put, pu2, pu3, pu4]
      refine tk 11 (v := ?vv11_9) (dropAt rfl) (Or.inl ⟨by rfl, ?hv11_9⟩) hH3 ?rv11_9
      case hv11_9 => (intro w hSw; go_simp; first | done | with_reducible rfl)
      try simp only [Act.put, pu2, pu3, pu4]
      refine wpAnyH_done (by kernel_rfl) ?_ _
      go_wp2_with fail
      all_goals
       go_ret2
       exact ⟨a3, n3, c3, rfl, HO3.out, HB3.out⟩
    · have heb : (l[k] == n) = false := by rw [beq_eq_false_iff_ne]; exact he
      have HN2 := Lib.hid (notin_succ hkl HN.out he)
      generalize l[k] = z at c0 heb
      clear he
      go_wp2_with fail
      refine ⟨⟨k + 1, hlt2, by rw [show (k : Int) + 1 = ((k + 1 : Nat) : Int) by omega], HN2, trivial⟩, ?_⟩
      simp [intOf]
      omega
  · refine absurd hm ?_
    have q := HN.out
    rw [List.take_of_length_le (by have := HL.out; omega)] at q
    exact q
end Go.Proofs.Ytaicmiadgnpimaa
