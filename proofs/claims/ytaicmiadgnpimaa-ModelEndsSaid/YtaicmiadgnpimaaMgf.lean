/-
  Walks for layer 26 (model): slices.DeleteFunc, over a predicate with a state.
-/
import Derived.Test.YtaicmiadgnpimaaMgd
import Derived.Deep.RegionLaw
namespace Go.Proofs.Ytaicmiadgnpimaa
open Go.RowKit

theorem own_take {α : Type} {T : TypeId} {n B : Nat} {enc : α → List Value} (hl : ∀ x, (enc x).length = n) {w : World} {g cap : Nat} {l : List α} (h : OwnL T n enc w B (.slice (some ⟨g, 0, none⟩) l.length cap) l) (m : Nat) (hm : m ≤ l.length) : OwnL T n enc w B (.slice (some ⟨g, 0, none⟩) m cap) (l.take m) := by
 obtain ⟨h1, h2⟩ := h
 have e1 : (l.take m).length = m := by rw [List.length_take]; omega
 rcases h2 with ⟨h2, h3⟩ | ⟨g', cap', cur, hv, hb, hg, k1, k2, k3, k4⟩
 · cases h2
 · injection hv with v1 v2 v3
   injection v1 with v1
   injection v1 with v1 _ _
   subst v1 v3
   refine ⟨by rw [← flat_take hl l m hm, List.length_take, h1, e1]; exact Nat.min_eq_left (Nat.mul_le_mul_right _ hm), .inr ⟨g, cap, cur, by rw [e1], hb, hg, by omega, k2, k3, ?_⟩⟩
   rw [← flat_take hl l m hm, ← k4, List.take_take, e1, Nat.min_eq_left (Nat.mul_le_mul_right _ hm)]
theorem filter_take {α : Type} (q : α → Bool) (l : List α) (k : Nat) (hk : k < l.length) : (l.take (k + 1)).filter q = (l.take k).filter q ++ (if q l[k] = true then [l[k]] else []) := by
 rw [List.take_succ_eq_append_getElem hk, List.filter_append]
 cases h : q l[k] <;> simp [h]
/-- Where the rows stand while elements are moved up. -/
structure DfAt {α : Type} (q : α → Bool) (l l' : List α) (i j : Nat) : Prop where
 len : l'.length = l.length
 ij : i < j
 jl : j ≤ l.length
 front : l'.take i = (l.take j).filter q
 rest : l'.drop j = l.drop j
theorem DfAt.fl {α : Type} {q : α → Bool} {l l' : List α} {i j : Nat} (h : DfAt q l l' i j) : ((l.take j).filter q).length = i := by
 have h1 := congrArg List.length h.front
 rw [List.length_take] at h1
 have := h.len
 have := h.ij
 have := h.jl
 omega
theorem DfAt.at_j {α : Type} {q : α → Bool} {l l' : List α} {i j : Nat} (h : DfAt q l l' i j) (hj : j < l.length) : l'[j]? = some l[j] := by
 have h1 := congrArg (fun m => m[0]?) h.rest
 simp only [List.getElem?_drop, Nat.add_zero] at h1
 rw [h1, List.getElem?_eq_getElem hj]
theorem DfAt.drop {α : Type} {q : α → Bool} {l l' : List α} {i j : Nat} (h : DfAt q l l' i j) (hj : j < l.length) (hq : q l[j] = false) : DfAt q l l' i (j + 1) := by
 refine ⟨h.len, by have := h.ij; omega, hj, ?_, ?_⟩
 · rw [filter_take q l j hj, hq, h.front]
   simp
 · have := congrArg (List.drop 1) h.rest
   simpa [List.drop_drop] using this
theorem DfAt.keep {α : Type} {q : α → Bool} {l l' : List α} {i j : Nat} (h : DfAt q l l' i j) (hj : j < l.length) (hq : q l[j] = true) : DfAt q l (l'.set i l[j]) (i + 1) (j + 1) := by
 have hij := h.ij
 have hl := h.len
 refine ⟨by simp [hl], by omega, hj, ?_, ?_⟩
 · rw [filter_take q l j hj, hq, ← h.front, List.take_succ_eq_append_getElem (by simp; omega)]
   simp [List.take_set_of_le]
 · rw [List.drop_set_of_lt (by omega)]
   have := congrArg (List.drop 1) h.rest
   simpa [List.drop_drop] using this
theorem DfAt.start {α : Type} (q : α → Bool) (l : List α) (i : Nat) (hi : i < l.length) (h1 : l.findIdx (fun x => !q x) = i) : DfAt q l l i (i + 1) := by
 refine ⟨rfl, by omega, hi, ?_, rfl⟩
 have hq : q l[i] = false := by
  subst h1
  have := List.findIdx_getElem (w := hi)
  simpa using this
 rw [filter_take q l i hi, hq]
 simp only [Bool.false_eq_true, if_false, List.append_nil]
 refine (List.filter_eq_self.2 fun x hx => ?_).symm
 obtain ⟨k, hk, rfl⟩ := List.getElem_of_mem hx
 rw [List.length_take] at hk
 rw [List.getElem_take]
 have := List.not_of_lt_findIdx (p := fun x => !q x) (xs := l) (i := k) (by omega)
 simpa using this
theorem filter_all_of {α : Type} (q : α → Bool) (l : List α) (h : l.findIdx (fun x => !q x) = l.length) : l.filter q = l := by
 refine List.filter_eq_self.2 fun x hx => ?_
 rw [List.findIdx_eq_length] at h
 have := h x hx
 simpa using this
theorem own_put2 {α : Type} {T : TypeId} {enc : α → List Value} (hl : ∀ x, (enc x).length = 2) {w : World} {B g m c : Nat} {l : List α} (h : OwnL T 2 enc w B (.slice (some ⟨g, 0, none⟩) m c) l) {j : Nat} (hj : j < l.length) {u0 u1 : Value} (mid x' : α) (h0 : enc mid = (enc l[j]).set 0 u0) (h1 : enc x' = (enc mid).set 1 u1) :
 OwnL T 2 enc ((w.setCell ⟨g, j * 2, none⟩ u0).setCell ⟨g, j * 2 + 1, none⟩ u1) B (.slice (some ⟨g, 0, none⟩) m c) (l.set j x') := by
 have a := own_setAt hl h hj (i := 0) (by decide) h0
 have b := own_setAt hl a (j := j) (by simpa using hj) (i := 1) (u := u1) (x' := x') (by decide) (by rw [List.getElem_set_self]; exact h1)
 rw [List.set_set] at b
 exact b
theorem own_put3 {α : Type} {T : TypeId} {enc : α → List Value} (hl : ∀ x, (enc x).length = 3) {w : World} {B g m c : Nat} {l : List α} (h : OwnL T 3 enc w B (.slice (some ⟨g, 0, none⟩) m c) l) {j : Nat} (hj : j < l.length) {u0 u1 u2 : Value} (m0 m1 x' : α) (h0 : enc m0 = (enc l[j]).set 0 u0) (h1 : enc m1 = (enc m0).set 1 u1) (h2 : enc x' = (enc m1).set 2 u2) :
 OwnL T 3 enc (((w.setCell ⟨g, j * 3, none⟩ u0).setCell ⟨g, j * 3 + 1, none⟩ u1).setCell ⟨g, j * 3 + 2, none⟩ u2) B (.slice (some ⟨g, 0, none⟩) m c) (l.set j x') := by
 have a := own_setAt hl h hj (i := 0) (by decide) h0
 have b := own_setAt hl a (j := j) (by simpa using hj) (i := 1) (u := u1) (x' := m1) (by decide) (by rw [List.getElem_set_self]; exact h1)
 rw [List.set_set] at b
 have d := own_setAt hl b (j := j) (by simpa using hj) (i := 2) (u := u2) (x' := x') (by decide) (by rw [List.getElem_set_self]; exact h2)
 rw [List.set_set] at d
 exact d
theorem zeroCells_flat {α : Type} {enc : α → List Value} {k : Nat} (hl : ∀ x, (enc x).length = k) (hk : 0 < k) {z : Array Value} {x : α} (hx : enc x = z.toList) (m : Nat) : (Builtin.zeroCells z m).toList = (List.replicate m x).flatMap enc := by
 have hz : z.size = k := by rw [← hl x, hx, Array.length_toList]
 apply List.ext_getElem?
 intro i
 have h1 : ((List.replicate m x).flatMap enc).length = m * k := by rw [flat_length hl, List.length_replicate]
 rcases Nat.lt_or_ge i (m * k) with hi | hi
 · have hd : i / k < m := Nat.div_lt_of_lt_mul (by rw [Nat.mul_comm]; exact hi)
   have hm : i / k * k + i % k = i := Nat.div_add_mod' i k
   have hr : i % k < k := Nat.mod_lt _ hk
   have e := flat_get hl (List.replicate m x) (i / k) (by simpa using hd) (i % k) _ (List.getElem?_eq_getElem (by rw [hl]; exact hr))
   rw [hm] at e
   rw [e, Array.getElem?_toList]
   unfold Builtin.zeroCells
   rw [Array.getElem?_map, Array.getElem?_range, if_pos (by rw [hz]; exact hi)]
   simp only [Option.map_some, Option.some.injEq, List.getElem_replicate]
   rw [hz, getElem!_pos z (i % k) (by omega)]
   have := Array.getElem_toList (xs := z) (i := i % k) (by rw [Array.length_toList, hz]; exact hr)
   rw [← this]
   congr 1
   exact hx.symm
 · rw [List.getElem?_eq_none (l := (Builtin.zeroCells z m).toList) (by rw [Array.length_toList, size_zeroCells, hz]; exact hi), List.getElem?_eq_none (by rw [h1]; exact hi)]
section
variable {α : Type} {P : Program} {S T : TypeId} {n b : Nat} {z : Value} {enc : α → List Value}
theorem df_clear (E : ElT P S T n b z enc) (hz1 : ∀ v ∈ z.cells, v.oneCell' = true) {x0 : α} (hx : enc x0 = z.cells.toList) (w : World) (g cap i : Nat) (l : List α) (hi : i < l.length) (h : OwnL T n enc w 0 (.slice (some ⟨g, 0, none⟩) l.length cap) l) :
 ∃ W2, (∀ ty c, (Builtin.clear_ #[S] ty #[.slice (some ⟨g, i * n, none⟩) (l.length - i) c]).run P w = .ok (.tuple #[]) W2) ∧ OwnL T n enc W2 0 (.slice (some ⟨g, 0, none⟩) l.length cap) (l.take i ++ List.replicate (l.length - i) x0) ∧ w.grownBy W2 (some g) := by
 obtain ⟨i0, hi0, hz0, hi1, hi2⟩ := info_parts E.info
 obtain ⟨cur, hg, hn, hc5, hc6, hc7⟩ : ∃ cur : Array Value, w.heap[g]? = some (.cells cur T (0, 0)) ∧ l.length ≤ cap ∧ cap ≤ maxLen ∧ cur.size = cap * n ∧ cur.toList.take (l.length * n) = l.flatMap enc := by
  rcases h.2 with ⟨e, _⟩ | ⟨g', cap', cur, e, _, e3, e4, e5, e6, e7⟩
  · cases e
  · injection e with e1 e2 e3'
    injection e1 with e1
    injection e1 with e1 _ _
    subst e1 e3'
    exact ⟨cur, e3, e4, e5, e6, e7⟩
 have hcl : cur.toList.length = cap * n := Array.length_toList.trans hc6
 have hm2 : i * n + (l.length - i) * n = l.length * n := by rw [← Nat.add_mul]; congr 1; omega
 have hm3 : l.length * n ≤ cap * n := Nat.mul_le_mul_right _ hn
 have hZ := zeroCells_flat E.len E.pos hx (l.length - i)
 have hZl : (Builtin.zeroCells z.cells (l.length - i)).toList.length = (l.length - i) * n := by rw [Array.length_toList, size_zeroCells, E.zc]
 have hcA : cur.toList.take (i * n) = (l.take i).flatMap enc := by
  rw [← flat_take E.len l i (by omega), ← hc7, List.take_take, Nat.min_eq_left (Nat.mul_le_mul_right _ (by omega))]
 have hel : (l.take i ++ List.replicate (l.length - i) x0).length = l.length := by simp only [List.length_append, List.length_take, List.length_replicate]; omega
 have hAl : ((l.take i).flatMap enc).length = i * n := by rw [flat_length E.len, List.length_take, Nat.min_eq_left (by omega)]
 refine ⟨_, fun ty c => run_clear_rowK (P := P) _ S T ty z E.und (fun w => by simp [zeroValue, typeInfo, hi0, hz0]) hz1 (by rw [E.zc]; exact E.pos) g (i * n) _ c cur T hg (by omega) (by rw [E.zc, hc6, hm2]; exact hm3), ?_, setRow_grown _ g _⟩
 refine ⟨by rw [flat_length E.len, hel], .inr ⟨g, cap, _, by rw [hel], Nat.zero_le _, setRow_heap _ g _ _ _ _ hg, by rw [hel]; exact hn, hc5, ?_, ?_⟩⟩
 · rw [List.size_toArray, E.zc, hm2, List.length_append, List.length_append, List.length_take, List.length_drop, hZl, hcl]
   omega
 · rw [hel, E.zc, List.flatMap_append, ← hZ, hcA, hm2]
   have h3 : ((l.take i).flatMap enc ++ (Builtin.zeroCells z.cells (l.length - i)).toList).length = l.length * n := by rw [List.length_append, hAl, hZl, hm2]
   rw [List.take_append_of_le_length (by omega), List.take_of_length_le (by omega)]
end
set_option maxHeartbeats 4000000 in
set_option maxRecDepth 100000 in
theorem dfWaiter (g cap : Nat) (l : List Md.Waiter) (p q : Md.Waiter → Bool) (hpq : ∀ x, p x = !q x) (f : Nat) (lb : Array Value) (J : Nat → List Md.Waiter → World → Prop) (Jx : Nat → Nat → List Md.Waiter → World → Prop) (w : World) (h0 : J 0 l w)
 (hr : ∀ k l' w1, J k l' w1 → l'.length = l.length → OwnL 58 2 encWaiter w1 0 (.slice (some ⟨g, 0, none⟩) l.length cap) l')
 (hkeep : ∀ k l' l'' w1 w2, J k l' w1 → l'.length = l.length → l''.length = l.length → w1.grownBy w2 (some g) → OwnL 58 2 encWaiter w2 0 (.slice (some ⟨g, 0, none⟩) l.length cap) l'' → J k l'' w2)
 (hcall : ∀ k (hk : k < l.length) w1, J k l w1 → Calls Try.prog f (#[valWaiter l[k]] ++ lb) w1 fun e w' => e = .returned (.bool (p l[k])) ∧ J (k + 1) l w')
 (hopen : ∀ k l' w1 o, J k l' w1 → Jx w1.heap.size k l' (w1.alloc o))
 (hkx : ∀ X k l' w1 w2, Jx X k l' w1 → w1.grownBy w2 (some X) → Jx X k l' w2)
 (hcallx : ∀ X k (hk : k < l.length) l' w1, X < w1.heap.size → l'.length = l.length → Jx X k l' w1 → Calls Try.prog f (#[valWaiter l[k]] ++ lb) w1 fun e w' => e = .returned (.bool (p l[k])) ∧ Jx X (k + 1) l' w' ∧ w'.heap[X]? = w1.heap[X]?)
 (hclose : ∀ X k l' w1, Jx X k l' w1 → J k l' w1)
 (eg : ∀ args w, (callFunc f args).run Try.prog w = .ok (.enter f args) w) (hl : l.length ≤ 1000000) :
 Calls Try.prog 95 #[.slice (some ⟨g, 0, none⟩) l.length cap, .func (.func f) #[] lb] w fun e w' => e = .returned (.slice (some ⟨g, 0, none⟩) (l.filter q).length cap) ∧ ∃ l', J l.length l' w' ∧ l'.length = l.length ∧ l'.take (l.filter q).length = l.filter q := by
 have hp : p = fun x => !q x := funext hpq
 have HIX := Lib.hid ((ixWaiter (some ⟨g, 0, none⟩, l.length, cap) l p f lb (fun k w1 => J k l w1) w h0 (fun k w1 h => (hr k l w1 h rfl).reads encWaiter_len) hcall eg hl))
 unfold valS at HIX
 dsimp only at HIX
 have hcap : l.length ≤ cap := own_cap (u := (some ⟨g, 0, none⟩, l.length, cap)) (hr 0 l w h0 rfl)
 have HFA := Lib.hid (filter_all_of q l)
 have HDS := Lib.hid (DfAt.start q l)
 rw [← hp] at HFA HDS
 have HR := Lib.hid hr
 have HK := Lib.hid hkeep
 have HO := Lib.hid hopen
 have HKX := Lib.hid hkx
 have HCX := Lib.hid hcallx
 have HCL := Lib.hid hclose
 have HPQ := Lib.hid hpq
 obtain ⟨n, hn⟩ : ∃ n, n = l.length := ⟨_, rfl⟩
 have HN := Lib.hid hn
 rw [← hn] at hl HIX hcap ⊢
 clear hr hkeep hcall hopen hkx hcallx hclose h0 hp hpq hn
 go_enter Try.func95, Try.ntmps95
 go_wp2_with fail
 refine HIX.out.mono ?_
 rintro e w1 (⟨i, hin, hfi, rfl, hj⟩ | ⟨hfi, rfl, hj⟩)
 · have i0 : ((i : Int) == (-1 : Int)) = false := by rw [beq_eq_false_iff_ne]; omega
   have HD0 : Hid (DfAt q l l i (i + 1)) := HDS.out i (by rw [← HN.out]; exact hin) hfi
   have HJ0 := Lib.hid hj
   clear hj hfi HIX HFA HDS
   go_wp2
   go_loopw [5, 6, 7] (fun iv jv _ wr => ∃ i j : Nat, ∃ l', i < j ∧ j ≤ n ∧ iv = .int .i64 i ∧ jv = .int .i64 j ∧ Hid (J j l' wr) ∧ Hid (DfAt q l l' i j)) (fun _ jv _ _ => n - (intOf jv).toNat)
   case atStart => exact ⟨i, i + 1, l, by omega, by omega, rfl, by rw [show (i : Int) + 1 = ((i + 1 : Nat) : Int) by omega], HJ0, HD0⟩
   case round =>
    obtain ⟨i, j, l', hij, hjn, rfl, rfl, HJ, HD⟩ := hrel
    by_cases hlt : j < n
    · have hq : j < l.length := by rw [← HN.out]; exact hlt
      have hlen := HD.out.len
      have hjl' : j < l'.length := by omega
      have hown := HR.out j l' wr HJ.out hlen
      have ey : l'[j] = l[j] := by
       have e := HD.out.at_j hq
       rw [List.getElem?_eq_getElem hjl'] at e
       injection e
      rw [← hlen] at hown
      have hoc : ∀ i u, (encWaiter l[j])[i]? = some u → wr.cell? ⟨g, j * 2 + i, none⟩ = some u := fun i u hu => (own_cells encWaiter_len hown hjl' (i := i) (u := u) (by rw [ey]; exact hu)).1
      have p0 : wr.cell? ⟨g, j * 2, none⟩ = _ := hoc 0 _ rfl
      have p1 := hoc 1 _ rfl
      have HXC := Lib.hid (HCX.out wr.heap.size j hq l')
      have HOP := Lib.hid (HO.out j l' wr)
      have HDD := Lib.hid (HD.out.drop hq)
      have HDK := Lib.hid (HD.out.keep hq)
      have HLL := Lib.hid hlen
      have HQ := Lib.hid (HPQ.out l[j])
      generalize l[j] = y at HXC HDD HDK HQ p0 p1
      obtain ⟨y0, y1⟩ := y
      unfold valWaiter at HXC
      dsimp only at HXC p0 p1
      clear hown hoc hq hjl' ey hlen
      have HX1 := Lib.hid (HXC.out _ (by simp) HLL.out (HOP.out (.cells #[I64 y0, I64 y1] 58) HJ.out))
      have HBN := Lib.hid (blk_new wr (.cells #[I64 y0, I64 y1] 58))
      cases hqy : q (y0, y1) with
      | false =>
       rw [hqy] at HQ
       have HD2 := Lib.hid (HDD.out hqy)
       rw [HQ.out] at HX1
       clear HXC HOP HDD HDK HQ hqy
       go_wp2_with (go_at_fn f; refine HX1.out.mono ?_; rintro e w' ⟨rfl, hj, hX⟩)
       case roundEnd =>
        refine ⟨⟨i, j + 1, l', by omega, hlt, rfl, by rw [show (j : Int) + 1 = ((j + 1 : Nat) : Int) by omega], Lib.hid (HCL.out _ _ _ _ hj), HD2⟩, ?_⟩
        simp [intOf]
        omega
      | true =>
       rw [hqy] at HQ
       have HD2 := Lib.hid (HDK.out hqy)
       rw [HQ.out] at HX1
       have HST : Hid (∀ w', Jx wr.heap.size (j + 1) l' w' → w'.heap[wr.heap.size]? = some (.cells #[I64 y0, I64 y1] 58 (0, 0)) → ((∃ u, w'.cell? ⟨g, i * 2, none⟩ = some u) ∧ w'.frozen? ⟨g, i * 2, none⟩ = false ∧ (∃ u, w'.cell? ⟨g, i * 2 + 1, none⟩ = some u) ∧ w'.frozen? ⟨g, i * 2 + 1, none⟩ = false) ∧ J (j + 1) (l'.set i (y0, y1)) (((w').setCell ⟨g, i * 2, none⟩ (I64 y0)).setCell ⟨g, i * 2 + 1, none⟩ (I64 y1))) := fun w' hj hX => by
        have hlen := HLL.out
        have hil : i < l'.length := by rw [hlen, ← HN.out]; omega
        have hj2 := HCL.out _ _ _ _ hj
        have hown := HR.out _ _ _ hj2 hlen
        have hoc : ∀ k u, (encWaiter l'[i])[k]? = some u → w'.cell? ⟨g, i * 2 + k, none⟩ = some u ∧ w'.frozen? ⟨g, i * 2 + k, none⟩ = false := fun k u hu => by
         have e := own_cells encWaiter_len hown hil hu
         exact ⟨e.1, e.2.1⟩
        refine ⟨⟨⟨_, (hoc 0 _ rfl).1⟩, (hoc 0 _ rfl).2, ⟨_, (hoc 1 _ rfl).1⟩, (hoc 1 _ rfl).2⟩, ?_⟩
        refine HK.out _ _ _ _ _ hj2 hlen (by rw [List.length_set]; exact hlen) ?_ (own_put2 encWaiter_len hown hil (y0, l'[i].2) (y0, y1) rfl rfl)
        exact grown_trans3 ((setCell_grown _ ⟨g, _, none⟩ _)) (setCell_grown _ ⟨g, _, none⟩ _)
       clear HXC HOP HDD HDK HQ hqy
       have i1 : (i : Int) < (n : Int) := by omega
       go_wp2_with (go_at_fn f; refine HX1.out.mono ?_; rintro e w' ⟨rfl, hj, hX⟩; obtain ⟨⟨⟨z0, f0⟩, g0, ⟨z1, f1⟩, g1⟩, hJn⟩ := HST.out w' hj (hX.trans HBN.out); have hb := hX.trans HBN.out; have b0 := blk_cell hb 0; have b1 := blk_cell hb 1; simp only [List.getElem?_toArray, List.getElem?_cons_succ, List.getElem?_cons_zero] at b0 b1; have HJn := Lib.hid hJn; clear hJn hb hX hj)
       case roundEnd =>
        refine ⟨⟨i + 1, j + 1, l'.set i (y0, y1), by omega, hlt, by rw [show (i : Int) + 1 = ((i + 1 : Nat) : Int) by omega], by rw [show (j : Int) + 1 = ((j + 1 : Nat) : Int) by omega], HJn, HD2⟩, ?_⟩
        simp [intOf]
        omega
    · have hjn2 : j = n := by omega
      subst hjn2
      have hlen := HD.out.len
      have hown := HR.out j l' wr HJ.out hlen
      have hin2 : i < l'.length := by rw [hlen, ← HN.out]; exact hij
      have hown2 := hown
      rw [← hlen] at hown2
      obtain ⟨W2, hcl, ho2, hg2⟩ := df_clear elWaiter (fun v hv => elWaiter.one (0, 0) v (Array.mem_def.1 hv)) (x0 := (0, 0)) rfl wr g cap i l' hin2 hown2
      rw [hlen] at ho2
      have hfl := HD.out.fl
      rw [HN.out, List.take_length] at hfl
      have hfr := HD.out.front
      rw [HN.out, List.take_length] at hfr
      have hJ2 := HK.out _ _ _ _ _ HJ.out hlen (by simp only [List.length_append, List.length_take, List.length_replicate]; omega) hg2 ho2
      have HFIN : Hid ((l.filter q).length = i ∧ ∃ l'', J l.length l'' W2 ∧ l''.length = l.length ∧ l''.take (l.filter q).length = l.filter q) := by
       refine ⟨hfl, _, by rw [← HN.out]; exact hJ2, by simp only [List.length_append, List.length_take, List.length_replicate]; omega, ?_⟩
       rw [hfl, List.take_append_of_le_length (by rw [List.length_take]; omega), List.take_take, Nat.min_self]
       exact hfr
      rw [hlen, ← HN.out] at hcl
      have hcl1 := hcl 0 (cap - i)
      have i1 : (i : Int) ≤ (j : Int) := by omega
      have i2 : (i : Int) ≤ (cap : Int) := by omega
      have i3 : (j : Int) ≤ (cap : Int) := by omega
      have i4 : ¬ cap = i := by omega
      clear hlen hown hin2 hown2 ho2 hg2 hfl hfr hJ2 HJ HD HR HK HO HKX HCX HCL HPQ hcl HJ0 HD0
      go_wp2
      go_ret
      obtain ⟨e1, e2⟩ := HFIN.out
      exact ⟨by rw [e1]; rfl, by rw [HN.out]; exact e2⟩
 · clear HDS HR HK HO HKX HCX HCL HPQ
   have HF := Lib.hid (HFA.out (hfi.trans HN.out))
   have HJ0 := Lib.hid hj
   clear HIX HFA hfi hj
   go_wp2
   go_ret
   exact ⟨by rw [HF.out, ← HN.out]; rfl, l, HJ0.out, HN.out.symm, by rw [HF.out]; exact List.take_length⟩
set_option maxHeartbeats 4000000 in
set_option maxRecDepth 100000 in
theorem dfConn (g cap : Nat) (l : List Md.Conn) (p q : Md.Conn → Bool) (hpq : ∀ x, p x = !q x) (f : Nat) (lb : Array Value) (J : Nat → List Md.Conn → World → Prop) (Jx : Nat → Nat → List Md.Conn → World → Prop) (w : World) (h0 : J 0 l w)
 (hr : ∀ k l' w1, J k l' w1 → l'.length = l.length → OwnL 100 3 encConn w1 0 (.slice (some ⟨g, 0, none⟩) l.length cap) l')
 (hkeep : ∀ k l' l'' w1 w2, J k l' w1 → l'.length = l.length → l''.length = l.length → w1.grownBy w2 (some g) → OwnL 100 3 encConn w2 0 (.slice (some ⟨g, 0, none⟩) l.length cap) l'' → J k l'' w2)
 (hcall : ∀ k (hk : k < l.length) w1, J k l w1 → Calls Try.prog f (#[valConn l[k]] ++ lb) w1 fun e w' => e = .returned (.bool (p l[k])) ∧ J (k + 1) l w')
 (hopen : ∀ k l' w1 o, J k l' w1 → Jx w1.heap.size k l' (w1.alloc o))
 (hkx : ∀ X k l' w1 w2, Jx X k l' w1 → w1.grownBy w2 (some X) → Jx X k l' w2)
 (hcallx : ∀ X k (hk : k < l.length) l' w1, X < w1.heap.size → l'.length = l.length → Jx X k l' w1 → Calls Try.prog f (#[valConn l[k]] ++ lb) w1 fun e w' => e = .returned (.bool (p l[k])) ∧ Jx X (k + 1) l' w' ∧ w'.heap[X]? = w1.heap[X]?)
 (hclose : ∀ X k l' w1, Jx X k l' w1 → J k l' w1)
 (eg : ∀ args w, (callFunc f args).run Try.prog w = .ok (.enter f args) w) (hl : l.length ≤ 1000000) :
 Calls Try.prog 97 #[.slice (some ⟨g, 0, none⟩) l.length cap, .func (.func f) #[] lb] w fun e w' => e = .returned (.slice (some ⟨g, 0, none⟩) (l.filter q).length cap) ∧ ∃ l', J l.length l' w' ∧ l'.length = l.length ∧ l'.take (l.filter q).length = l.filter q := by
 have hp : p = fun x => !q x := funext hpq
 have HIX := Lib.hid ((ixConn (some ⟨g, 0, none⟩, l.length, cap) l p f lb (fun k w1 => J k l w1) w h0 (fun k w1 h => (hr k l w1 h rfl).reads encConn_len) hcall eg hl))
 unfold valS at HIX
 dsimp only at HIX
 have hcap : l.length ≤ cap := own_cap (u := (some ⟨g, 0, none⟩, l.length, cap)) (hr 0 l w h0 rfl)
 have HFA := Lib.hid (filter_all_of q l)
 have HDS := Lib.hid (DfAt.start q l)
 rw [← hp] at HFA HDS
 have HR := Lib.hid hr
 have HK := Lib.hid hkeep
 have HO := Lib.hid hopen
 have HKX := Lib.hid hkx
 have HCX := Lib.hid hcallx
 have HCL := Lib.hid hclose
 have HPQ := Lib.hid hpq
 obtain ⟨n, hn⟩ : ∃ n, n = l.length := ⟨_, rfl⟩
 have HN := Lib.hid hn
 rw [← hn] at hl HIX hcap ⊢
 clear hr hkeep hcall hopen hkx hcallx hclose h0 hp hpq hn
 go_enter Try.func97, Try.ntmps97
 go_wp2_with fail
 refine HIX.out.mono ?_
 rintro e w1 (⟨i, hin, hfi, rfl, hj⟩ | ⟨hfi, rfl, hj⟩)
 · have i0 : ((i : Int) == (-1 : Int)) = false := by rw [beq_eq_false_iff_ne]; omega
   have HD0 : Hid (DfAt q l l i (i + 1)) := HDS.out i (by rw [← HN.out]; exact hin) hfi
   have HJ0 := Lib.hid hj
   clear hj hfi HIX HFA HDS
   go_wp2
   go_loopw [5, 6, 7] (fun iv jv _ wr => ∃ i j : Nat, ∃ l', i < j ∧ j ≤ n ∧ iv = .int .i64 i ∧ jv = .int .i64 j ∧ Hid (J j l' wr) ∧ Hid (DfAt q l l' i j)) (fun _ jv _ _ => n - (intOf jv).toNat)
   case atStart => exact ⟨i, i + 1, l, by omega, by omega, rfl, by rw [show (i : Int) + 1 = ((i + 1 : Nat) : Int) by omega], HJ0, HD0⟩
   case round =>
    obtain ⟨i, j, l', hij, hjn, rfl, rfl, HJ, HD⟩ := hrel
    by_cases hlt : j < n
    · have hq : j < l.length := by rw [← HN.out]; exact hlt
      have hlen := HD.out.len
      have hjl' : j < l'.length := by omega
      have hown := HR.out j l' wr HJ.out hlen
      have ey : l'[j] = l[j] := by
       have e := HD.out.at_j hq
       rw [List.getElem?_eq_getElem hjl'] at e
       injection e
      rw [← hlen] at hown
      have hoc : ∀ i u, (encConn l[j])[i]? = some u → wr.cell? ⟨g, j * 3 + i, none⟩ = some u := fun i u hu => (own_cells encConn_len hown hjl' (i := i) (u := u) (by rw [ey]; exact hu)).1
      have p0 : wr.cell? ⟨g, j * 3, none⟩ = _ := hoc 0 _ rfl
      have p1 := hoc 1 _ rfl
      have p2 := hoc 2 _ rfl
      have HXC := Lib.hid (HCX.out wr.heap.size j hq l')
      have HOP := Lib.hid (HO.out j l' wr)
      have HDD := Lib.hid (HD.out.drop hq)
      have HDK := Lib.hid (HD.out.keep hq)
      have HLL := Lib.hid hlen
      have HQ := Lib.hid (HPQ.out l[j])
      generalize l[j] = y at HXC HDD HDK HQ p0 p1 p2
      obtain ⟨y0, y1, y2⟩ := y
      unfold valConn at HXC
      dsimp only at HXC p0 p1 p2
      clear hown hoc hq hjl' ey hlen
      have HX1 := Lib.hid (HXC.out _ (by simp) HLL.out (HOP.out (.cells #[I64 y0, I64 y1, I64 y2] 100) HJ.out))
      have HBN := Lib.hid (blk_new wr (.cells #[I64 y0, I64 y1, I64 y2] 100))
      cases hqy : q (y0, y1, y2) with
      | false =>
       rw [hqy] at HQ
       have HD2 := Lib.hid (HDD.out hqy)
       rw [HQ.out] at HX1
       clear HXC HOP HDD HDK HQ hqy
       go_wp2_with (go_at_fn f; refine HX1.out.mono ?_; rintro e w' ⟨rfl, hj, hX⟩)
       case roundEnd =>
        refine ⟨⟨i, j + 1, l', by omega, hlt, rfl, by rw [show (j : Int) + 1 = ((j + 1 : Nat) : Int) by omega], Lib.hid (HCL.out _ _ _ _ hj), HD2⟩, ?_⟩
        simp [intOf]
        omega
      | true =>
       rw [hqy] at HQ
       have HD2 := Lib.hid (HDK.out hqy)
       rw [HQ.out] at HX1
       have HST : Hid (∀ w', Jx wr.heap.size (j + 1) l' w' → w'.heap[wr.heap.size]? = some (.cells #[I64 y0, I64 y1, I64 y2] 100 (0, 0)) → ((∃ u, w'.cell? ⟨g, i * 3, none⟩ = some u) ∧ w'.frozen? ⟨g, i * 3, none⟩ = false ∧ (∃ u, w'.cell? ⟨g, i * 3 + 1, none⟩ = some u) ∧ w'.frozen? ⟨g, i * 3 + 1, none⟩ = false ∧ (∃ u, w'.cell? ⟨g, i * 3 + 2, none⟩ = some u) ∧ w'.frozen? ⟨g, i * 3 + 2, none⟩ = false) ∧ J (j + 1) (l'.set i (y0, y1, y2)) ((((w').setCell ⟨g, i * 3, none⟩ (I64 y0)).setCell ⟨g, i * 3 + 1, none⟩ (I64 y1)).setCell ⟨g, i * 3 + 2, none⟩ (I64 y2))) := fun w' hj hX => by
        have hlen := HLL.out
        have hil : i < l'.length := by rw [hlen, ← HN.out]; omega
        have hj2 := HCL.out _ _ _ _ hj
        have hown := HR.out _ _ _ hj2 hlen
        have hoc : ∀ k u, (encConn l'[i])[k]? = some u → w'.cell? ⟨g, i * 3 + k, none⟩ = some u ∧ w'.frozen? ⟨g, i * 3 + k, none⟩ = false := fun k u hu => by
         have e := own_cells encConn_len hown hil hu
         exact ⟨e.1, e.2.1⟩
        refine ⟨⟨⟨_, (hoc 0 _ rfl).1⟩, (hoc 0 _ rfl).2, ⟨_, (hoc 1 _ rfl).1⟩, (hoc 1 _ rfl).2, ⟨_, (hoc 2 _ rfl).1⟩, (hoc 2 _ rfl).2⟩, ?_⟩
        refine HK.out _ _ _ _ _ hj2 hlen (by rw [List.length_set]; exact hlen) ?_ (own_put3 encConn_len hown hil (y0, l'[i].2.1, l'[i].2.2) (y0, y1, l'[i].2.2) (y0, y1, y2) rfl rfl rfl)
        exact grown_trans3 (grown_trans3 ((setCell_grown _ ⟨g, _, none⟩ _)) (setCell_grown _ ⟨g, _, none⟩ _)) (setCell_grown _ ⟨g, _, none⟩ _)
       clear HXC HOP HDD HDK HQ hqy
       have i1 : (i : Int) < (n : Int) := by omega
       go_wp2_with (go_at_fn f; refine HX1.out.mono ?_; rintro e w' ⟨rfl, hj, hX⟩; obtain ⟨⟨⟨z0, f0⟩, g0, ⟨z1, f1⟩, g1, ⟨z2, f2⟩, g2⟩, hJn⟩ := HST.out w' hj (hX.trans HBN.out); have hb := hX.trans HBN.out; have b0 := blk_cell hb 0; have b1 := blk_cell hb 1; have b2 := blk_cell hb 2; simp only [List.getElem?_toArray, List.getElem?_cons_succ, List.getElem?_cons_zero] at b0 b1 b2; have HJn := Lib.hid hJn; clear hJn hb hX hj)
       case roundEnd =>
        refine ⟨⟨i + 1, j + 1, l'.set i (y0, y1, y2), by omega, hlt, by rw [show (i : Int) + 1 = ((i + 1 : Nat) : Int) by omega], by rw [show (j : Int) + 1 = ((j + 1 : Nat) : Int) by omega], HJn, HD2⟩, ?_⟩
        simp [intOf]
        omega
    · have hjn2 : j = n := by omega
      subst hjn2
      have hlen := HD.out.len
      have hown := HR.out j l' wr HJ.out hlen
      have hin2 : i < l'.length := by rw [hlen, ← HN.out]; exact hij
      have hown2 := hown
      rw [← hlen] at hown2
      obtain ⟨W2, hcl, ho2, hg2⟩ := df_clear elConn (fun v hv => elConn.one (0, 0, 0) v (Array.mem_def.1 hv)) (x0 := (0, 0, 0)) rfl wr g cap i l' hin2 hown2
      rw [hlen] at ho2
      have hfl := HD.out.fl
      rw [HN.out, List.take_length] at hfl
      have hfr := HD.out.front
      rw [HN.out, List.take_length] at hfr
      have hJ2 := HK.out _ _ _ _ _ HJ.out hlen (by simp only [List.length_append, List.length_take, List.length_replicate]; omega) hg2 ho2
      have HFIN : Hid ((l.filter q).length = i ∧ ∃ l'', J l.length l'' W2 ∧ l''.length = l.length ∧ l''.take (l.filter q).length = l.filter q) := by
       refine ⟨hfl, _, by rw [← HN.out]; exact hJ2, by simp only [List.length_append, List.length_take, List.length_replicate]; omega, ?_⟩
       rw [hfl, List.take_append_of_le_length (by rw [List.length_take]; omega), List.take_take, Nat.min_self]
       exact hfr
      rw [hlen, ← HN.out] at hcl
      have hcl1 := hcl 0 (cap - i)
      have i1 : (i : Int) ≤ (j : Int) := by omega
      have i2 : (i : Int) ≤ (cap : Int) := by omega
      have i3 : (j : Int) ≤ (cap : Int) := by omega
      have i4 : ¬ cap = i := by omega
      clear hlen hown hin2 hown2 ho2 hg2 hfl hfr hJ2 HJ HD HR HK HO HKX HCX HCL HPQ hcl HJ0 HD0
      go_wp2
      go_ret
      obtain ⟨e1, e2⟩ := HFIN.out
      exact ⟨by rw [e1]; rfl, by rw [HN.out]; exact e2⟩
 · clear HDS HR HK HO HKX HCX HCL HPQ
   have HF := Lib.hid (HFA.out (hfi.trans HN.out))
   have HJ0 := Lib.hid hj
   clear HIX HFA hfi hj
   go_wp2
   go_ret
   exact ⟨by rw [HF.out, ← HN.out]; rfl, l, HJ0.out, HN.out.symm, by rw [HF.out]; exact List.take_length⟩
end Go.Proofs.Ytaicmiadgnpimaa
namespace Go.Proofs.Ytaicmiadgnpimaa
open Go.RowKit

theorem stays_not (shut : Bool) (now : Int) (y : Md.Waiter) : (!Md.stays shut now y) = (shut || decide (y.2 ≤ now)) := by
 unfold Md.stays
 cases shut
 · by_cases h : y.2 ≤ now
   · simp [h, Int.not_lt.2 h]
   · simp [h, Int.not_le.1 h]
 · simp
set_option maxHeartbeats 2000000 in
set_option maxRecDepth 100000 in
theorem leave1_any (S : Nat → Prop) (R G n cap b A1 A2 A3 : Nat) (kd : Int) (c : Md.Call) (s : Md.State) (es : List Md.Effect) (W : Nat → Prop) (ev : SlV) (pvs : List PoolV) (y : Md.Waiter) (w : World) (h : RunV S R c s es W (some ⟨G, 0, none⟩, n, cap) ev pvs w) (a1 : w.cell? ⟨A1, 0, none⟩ = some (.pointer (some ⟨R, 0, none⟩))) (a2 : w.cell? ⟨A2, 0, none⟩ = some (I64 kd)) (a3 : w.cell? ⟨A3, 0, none⟩ = some (I64 b)) (hel : es.length ≤ 900000) :
 Calls Try.prog 96 (#[valWaiter y] ++ #[.pointer (some ⟨A1, 0, none⟩), .pointer (some ⟨A2, 0, none⟩), .pointer (some ⟨A3, 0, none⟩)]) w fun e w' => e = .returned (.bool (!Md.stays s.shut s.now y)) ∧ (∃ ev', RunV S R c s (es ++ (if Md.stays s.shut s.now y = true then [] else [(kd, (b : Int), y.1, 0)])) W (some ⟨G, 0, none⟩, n, cap) ev' pvs w') ∧ Gb S w w' := by
 have hst := stays_not s.shut s.now y
 have hb0 := (Below.refl w.heap.size w).alloc (Nat.le_refl _) (.cells #[I64 y.1, I64 y.2] 58)
 have HB0 := Lib.hid hb0
 have h0 := h.below hb0
 have hrc := runCells_of h0.blk
 have k0 := hrc.c0
 have k1 := hrc.c1
 have b1 := (hb0.cell (p := ⟨A1, 0, none⟩) (cell_lt a1)).trans a1
 have b2 := (hb0.cell (p := ⟨A2, 0, none⟩) (cell_lt a2)).trans a2
 have b3 := (hb0.cell (p := ⟨A3, 0, none⟩) (cell_lt a3)).trans a3
 have HE : Hid (∀ w1, Below w.heap.size w w1 → _) := fun w1 hb1 => effect_any S R c s es W _ ev pvs kd b y.1 0 w1 (h.below hb1) (by omega)
 have HN : Hid (∀ w1, Below w.heap.size w w1 → ∃ ev', RunV S R c s es W (some ⟨G, 0, none⟩, n, cap) ev' pvs w1) := fun w1 hb1 => ⟨ev, h.below hb1⟩
 obtain ⟨y0, y1⟩ := y
 unfold valWaiter
 dsimp only at hst HB0 k0 k1 b1 b2 b3 HE ⊢
 simp only [List.append_toArray, List.cons_append, List.nil_append]
 cases hst2 : Md.stays s.shut s.now (y0, y1) with
 | true =>
  rw [hst2] at hst
  simp only [Bool.not_true] at hst
  have hsh : s.shut = false := by cases hs : s.shut <;> simp [hs] at hst ⊢
  have hdl : ¬ y1 ≤ s.now := by rw [hsh] at hst; simpa using hst
  rw [hsh] at k1
  simp only [if_true, List.append_nil, Bool.not_true]
  clear h h0 hb0 hrc a1 a2 a3 hst hst2 hel HE
  go_enter Try.func96, Try.ntmps96
  go_wp2
  go_quiet (fail)
  go_wp2
  go_ret
  exact ⟨by simp [hdl], HN.out _ (below_drewN HB0.out _), .of_below (below_drewN HB0.out _)⟩
 | false =>
  rw [hst2] at hst
  simp only [Bool.not_false] at hst
  simp only [Bool.false_eq_true, if_false, Bool.not_false]
  have HE2 := HE
  cases hs : s.shut with
  | true =>
   rw [hs] at k1
   clear h h0 hb0 hrc a1 a2 a3 hst hst2 hel hs HN HE2
   go_enter Try.func96, Try.ntmps96
   go_wp2
   go_quiet (fail)
   go_wp2_with fail
   refine (HE.out _ (below_drewN HB0.out _)).mono ?_
   rintro e w1 ⟨rfl, hR, hG⟩
   go_wp2
   go_ret
   exact ⟨rfl, hR, (Gb.of_below (below_drewN HB0.out _)).trans hG⟩
  | false =>
   rw [hs] at k1 hst
   have hdl : y1 ≤ s.now := by simpa using hst.symm
   clear h h0 hb0 hrc a1 a2 a3 hst hst2 hel hs HN HE2
   go_enter Try.func96, Try.ntmps96
   go_wp2
   go_quiet (fail)
   go_wp2_with fail
   refine (HE.out _ (below_drewN HB0.out _)).mono ?_
   rintro e w1 ⟨rfl, hR, hG⟩
   go_wp2
   go_ret
   exact ⟨by simp, hR, (Gb.of_below (below_drewN HB0.out _)).trans hG⟩
/-- What the second closure looks at. -/
def L2Seen (R G o A1 A2 X : Nat) (now mx qu id ag y0 y1 y2 : Int) (w0 w : World) : Prop := Hid (Below w0.heap.size w0 w) ∧ w.cell? ⟨A1, 0, none⟩ = some (.pointer (some ⟨R, 0, none⟩)) ∧ w.cell? ⟨A2, 0, none⟩ = some (.pointer (some ⟨G, o, none⟩)) ∧ w.cell? ⟨R, 0, none⟩ = some (I64 now) ∧ w.cell? ⟨R, 1, none⟩ = some (.bool false) ∧
 w.cell? ⟨G, o, none⟩ = some (I64 mx) ∧ w.cell? ⟨G, o + 1, none⟩ = some (I64 qu) ∧ w.cell? ⟨G, o + 2, none⟩ = some (I64 id) ∧ w.cell? ⟨G, o + 3, none⟩ = some (I64 ag) ∧ w.cell? ⟨X, 0, none⟩ = some (I64 y0) ∧ w.cell? ⟨X, 1, none⟩ = some (I64 y1) ∧ w.cell? ⟨X, 2, none⟩ = some (I64 y2)
/-- Numbers whose sums stay in the range of int64. -/
def Near (x : Int) : Prop := -4611686018427387904 ≤ x ∧ x ≤ 4611686018427387903
set_option maxHeartbeats 2000000 in
set_option maxRecDepth 100000 in
theorem leave2_any (S : Nat → Prop) (R G n cap b A1 A2 A3 : Nat) (c : Md.Call) (s : Md.State) (es : List Md.Effect) (W : Nat → Prop) (ev : SlV) (pvs : List PoolV) (y : Md.Conn) (w : World) (h : RunV S R c s es W (some ⟨G, 0, none⟩, n, cap) ev pvs w) (a1 : w.cell? ⟨A1, 0, none⟩ = some (.pointer (some ⟨R, 0, none⟩))) (a2 : w.cell? ⟨A2, 0, none⟩ = some (.pointer (some ⟨G, b * 11, none⟩))) (a3 : w.cell? ⟨A3, 0, none⟩ = some (I64 b)) (hel : es.length ≤ 900000)
 (hbn : b < s.pools.length) (h1 : Near y.2.2) (h2 : Near y.2.1) (h3 : Near s.pools[b].lim.idle) (h4 : Near s.pools[b].lim.age) :
 Calls Try.prog 98 (#[valConn y] ++ #[.pointer (some ⟨A1, 0, none⟩), .pointer (some ⟨A2, 0, none⟩), .pointer (some ⟨A3, 0, none⟩)]) w fun e w' => e = .returned (.bool (!(!s.shut && Md.young s.pools[b].lim y s.now))) ∧ (∃ ev', RunV S R c s (es ++ (if (!s.shut && Md.young s.pools[b].lim y s.now) = true then [] else [(11, (b : Int), 0, y.1)])) W (some ⟨G, 0, none⟩, n, cap) ev' pvs w') ∧ Gb S w w' := by
 have hbp : b < pvs.length := by rw [h.len]; exact hbn
 have hb0 := (Below.refl w.heap.size w).alloc (Nat.le_refl _) (.cells #[I64 y.1, I64 y.2.1, I64 y.2.2] 100)
 have HB0 := Lib.hid hb0
 obtain ⟨w0, hw0⟩ : ∃ w0, w0 = w.alloc (.cells #[I64 y.1, I64 y.2.1, I64 y.2.2] 100) := ⟨_, rfl⟩
 have hblk := blk_new w (.cells #[I64 y.1, I64 y.2.1, I64 y.2.2] 100)
 have hlt : w.heap.size < w0.heap.size := by rw [hw0]; simp
 rw [← hw0] at hb0 hblk HB0
 have HE : Hid (∀ w1, Below w.heap.size w w1 → _) := fun w1 hb1 => effect_any S R c s es W _ ev pvs 11 b 0 y.1 w1 (h.below hb1) (by omega)
 have HN : Hid (∀ w1, Below w.heap.size w w1 → ∃ ev', RunV S R c s es W (some ⟨G, 0, none⟩, n, cap) ev' pvs w1) := fun w1 hb1 => ⟨ev, h.below hb1⟩
 have HOLD : Hid (∀ w1, Below w0.heap.size w0 w1 → Calls Try.prog 42 #[valLim s.pools[b].lim, valConn y, I64 s.now] w1 fun e w' => e = .returned (.bool (!Md.young s.pools[b].lim y s.now)) ∧ Below w0.heap.size w0 w') := fun w1 hb1 => (old_any s.pools[b].lim y s.now w1 h1 h2 h3 h4).mono (fun e w' q => ⟨q.1, hb1.trans (q.2.mono hb1.size)⟩)
 have h0 := h.below hb0
 have hlim := (h0.each b hbp hbn).lim
 have HA3 : Hid (∀ w1, Below w0.heap.size w0 w1 → w1.cell? ⟨A3, 0, none⟩ = some (I64 b)) := fun w1 hb1 => ((hb0.trans (hb1.mono hb0.size)).cell (p := ⟨A3, 0, none⟩) (cell_lt a3)).trans a3
 have k1 := (runCells_of h0.blk).c1
 have HC : Hid (s.shut = false → ∀ w1, Below w0.heap.size w0 w1 → L2Seen R G (b * 11) A1 A2 w.heap.size s.now s.pools[b].lim.max s.pools[b].lim.queue s.pools[b].lim.idle s.pools[b].lim.age y.1 y.2.1 y.2.2 w0 w1) := fun hs w1 hb1 => by
  have hv := h0.below hb1
  have hrc := runCells_of hv.blk
  have hpc := hv.cells hbp
  have hb := hb0.trans (hb1.mono hb0.size)
  have kk := hrc.c1
  rw [hs] at kk
  have e0 := hpc.c0
  have e1 := hpc.c1
  have e2 := hpc.c2
  have e3 := hpc.c3
  rw [hlim] at e0 e1 e2 e3
  exact ⟨Lib.hid hb1, (hb.cell (p := ⟨A1, 0, none⟩) (cell_lt a1)).trans a1, (hb.cell (p := ⟨A2, 0, none⟩) (cell_lt a2)).trans a2, hrc.c0, kk, e0, e1, e2, e3, (hb1.cell (p := ⟨_, 0, none⟩) hlt).trans (blk_cell hblk 0), (hb1.cell (p := ⟨_, 1, none⟩) hlt).trans (blk_cell hblk 1), (hb1.cell (p := ⟨_, 2, none⟩) hlt).trans (blk_cell hblk 2)⟩
 have b1 := (hb0.cell (p := ⟨A1, 0, none⟩) (cell_lt a1)).trans a1
 have b3 := (hb0.cell (p := ⟨A3, 0, none⟩) (cell_lt a3)).trans a3
 have bx := blk_cell hblk 0
 generalize Md.young s.pools[b].lim y s.now = yg at HOLD ⊢
 generalize s.pools[b].lim = lm at HOLD HC
 generalize s.now = now at HOLD HC
 obtain ⟨mx, qu, id, ag⟩ := lm
 obtain ⟨y0, y1, y2⟩ := y
 unfold valLim at HOLD
 unfold valConn at HOLD ⊢
 dsimp only at HOLD HC hw0 HE bx ⊢
 simp only [List.append_toArray, List.cons_append, List.nil_append]
 simp only [List.getElem?_toArray, List.getElem?_cons_zero] at bx
 cases hs : s.shut with
 | true =>
  rw [hs] at k1
  simp only [Bool.not_true, Bool.false_and, Bool.not_false, Bool.false_eq_true, if_false]
  clear h h0 hb0 a1 a2 a3 hel hs HN HC HOLD h1 h2 h3 h4 hblk hlim HA3 hlt
  go_enter Try.func98, Try.ntmps98
  go_wp2
  simp only [← hw0]
  clear hw0
  go_quiet (fail)
  go_wp2_with fail
  refine (HE.out _ (below_drewN HB0.out _)).mono ?_
  rintro e w1 ⟨rfl, hR, hG⟩
  go_wp2
  go_ret
  exact ⟨rfl, hR, (Gb.of_below (below_drewN HB0.out _)).trans hG⟩
 | false =>
  replace HC := Lib.hid (HC.out hs)
  have HS := Lib.hid (HC.out w0.drew (Below.refl _ _).drew)
  simp only [Bool.not_false, Bool.true_and]
  cases yg with
  | true =>
   obtain ⟨BB, hBB⟩ : ∃ BB, BB = (!true) := ⟨_, rfl⟩
   rw [← hBB] at HOLD
   replace hBB : BB = false := hBB
   have HBB := Lib.hid hBB
   clear hBB
   simp only [Bool.not_true, if_true, List.append_nil]
   clear h h0 hb0 a1 a2 a3 hel hs h1 h2 h3 h4 hblk hlim HA3 hlt k1 b1 b3 bx HE
   go_enter Try.func98, Try.ntmps98
   go_wp2
   simp only [← hw0]
   clear hw0
   refine wp_region_quietC (C := L2Seen R G (b * 11) A1 A2 w.heap.size now mx qu id ag y0 y1 y2 w0) (by kernel_rfl) (by kernel_rfl) HS.out ?_
   refine wpQuiet_step (fun K hK => ?_)
   refine qwant (by rfl) ?_
   refine ⟨?vq1, ?hq1, ?rq1⟩
   case hq1 => (intro w hSw; unfold L2Seen at hSw; obtain ⟨hSb, hS1, hS2, hS3, hS4, hS5, hS6, hS7, hS8, hS9, hSa, hSc⟩ := hSw; go_simp; first | done | with_reducible rfl)
   refine hK _ ?_
   clear hK K
   try simp only [Act.put, pu2, pu3, pu4]
   refine wpQuiet_step (fun K hK => ?_)
   refine qwant (by rfl) ?_
   refine ⟨?vq2, ?hq2, ?rq2⟩
   case hq2 => (intro w hSw; unfold L2Seen at hSw; obtain ⟨hSb, hS1, hS2, hS3, hS4, hS5, hS6, hS7, hS8, hS9, hSa, hSc⟩ := hSw; go_simp; first | done | with_reducible rfl)
   refine hK _ ?_
   clear hK K
   try simp only [Act.put, pu2, pu3, pu4]
   refine wpQuiet_step (fun K hK => ?_)
   refine qwant (by rfl) ?_
   refine ⟨?vq3, ?hq3, ?rq3⟩
   case hq3 => (intro w hSw; unfold L2Seen at hSw; obtain ⟨hSb, hS1, hS2, hS3, hS4, hS5, hS6, hS7, hS8, hS9, hSa, hSc⟩ := hSw; go_simp; first | done | with_reducible rfl)
   refine hK _ ?_
   clear hK K
   try simp only [Act.put, pu2, pu3, pu4]
   refine wpQuiet_step (fun K hK => ?_)
   refine qwant (by rfl) ?_
   refine ⟨?vq4, ?hq4, ?rq4⟩
   case hq4 => (intro w hSw; unfold L2Seen at hSw; obtain ⟨hSb, hS1, hS2, hS3, hS4, hS5, hS6, hS7, hS8, hS9, hSa, hSc⟩ := hSw; go_simp; first | done | with_reducible rfl)
   refine hK _ ?_
   clear hK K
   try simp only [Act.put, pu2, pu3, pu4]
   refine wpQuiet_step (fun K hK => ?_)
   refine qwant (by rfl) ?_
   refine ⟨?vq5, ?hq5, ?rq5⟩
   case hq5 => (intro w hSw; unfold L2Seen at hSw; obtain ⟨hSb, hS1, hS2, hS3, hS4, hS5, hS6, hS7, hS8, hS9, hSa, hSc⟩ := hSw; go_simp; first | done | with_reducible rfl)
   refine hK _ ?_
   clear hK K
   try simp only [Act.put, pu2, pu3, pu4]
   refine wpQuiet_step (fun K hK => ?_)
   refine qwant (by rfl) ?_
   refine ⟨?vq6, ?hq6, ?rq6⟩
   case hq6 => (intro w hSw; unfold L2Seen at hSw; obtain ⟨hSb, hS1, hS2, hS3, hS4, hS5, hS6, hS7, hS8, hS9, hSa, hSc⟩ := hSw; go_simp; first | done | with_reducible rfl)
   refine hK _ ?_
   clear hK K
   try simp only [Act.put, pu2, pu3, pu4]
   refine wpQuiet_step (fun K hK => ?_)
   refine qwant (by rfl) ?_
   refine ⟨?vq7, ?hq7, ?rq7⟩
   case hq7 => (intro w hSw; unfold L2Seen at hSw; obtain ⟨hSb, hS1, hS2, hS3, hS4, hS5, hS6, hS7, hS8, hS9, hSa, hSc⟩ := hSw; go_simp; first | done | with_reducible rfl)
   refine hK _ ?_
   clear hK K
   try simp only [Act.put, pu2, pu3, pu4]
   refine wpQuiet_step (fun K hK => ?_)
   refine qwant (by rfl) ?_
   refine ⟨?vq8, ?hq8, ?rq8⟩
   case hq8 => (intro w hSw; unfold L2Seen at hSw; obtain ⟨hSb, hS1, hS2, hS3, hS4, hS5, hS6, hS7, hS8, hS9, hSa, hSc⟩ := hSw; go_simp; first | done | with_reducible rfl)
   refine hK _ ?_
   clear hK K
   try simp only [Act.put, pu2, pu3, pu4]
   refine wpQuiet_step (fun K hK => ?_)
   refine qwant (by rfl) ?_
   refine ⟨?vq9, ?hq9, ?rq9⟩
   case hq9 => (intro w hSw; unfold L2Seen at hSw; obtain ⟨hSb, hS1, hS2, hS3, hS4, hS5, hS6, hS7, hS8, hS9, hSa, hSc⟩ := hSw; go_simp; first | done | with_reducible rfl)
   refine hK _ ?_
   clear hK K
   try simp only [Act.put, pu2, pu3, pu4]
   refine wpQuiet_step (fun K hK => ?_)
   refine qwant (by rfl) ?_
   refine ⟨?vq10, ?hq10, ?rq10⟩
   case hq10 => (intro w hSw; unfold L2Seen at hSw; obtain ⟨hSb, hS1, hS2, hS3, hS4, hS5, hS6, hS7, hS8, hS9, hSa, hSc⟩ := hSw; go_simp; first | done | with_reducible rfl)
   refine hK _ ?_
   clear hK K
   try simp only [Act.put, pu2, pu3, pu4]
   refine wpQuiet_step (fun K hK => ?_)
   refine qwant (by rfl) ?_
   refine ⟨?vq11, ?hq11, ?rq11⟩
   case hq11 => (intro w hSw; unfold L2Seen at hSw; obtain ⟨hSb, hS1, hS2, hS3, hS4, hS5, hS6, hS7, hS8, hS9, hSa, hSc⟩ := hSw; go_simp; first | done | with_reducible rfl)
   refine hK _ ?_
   clear hK K
   try simp only [Act.put, pu2, pu3, pu4]
   refine wpQuiet_step (fun K hK => ?_)
   refine qwant (by rfl) ?_
   refine ⟨?vq12, ?hq12, ?rq12⟩
   case hq12 => (intro w hSw; unfold L2Seen at hSw; obtain ⟨hSb, hS1, hS2, hS3, hS4, hS5, hS6, hS7, hS8, hS9, hSa, hSc⟩ := hSw; go_simp; first | done | with_reducible rfl)
   refine hK _ ?_
   clear hK K
   try simp only [Act.put, pu2, pu3, pu4]
   refine wpQuiet_step (fun K hK => ?_)
   refine qwant (by rfl) ?_
   refine ⟨?vq13, ?hq13, ?rq13⟩
   case hq13 => (intro w hSw; unfold L2Seen at hSw; obtain ⟨hSb, hS1, hS2, hS3, hS4, hS5, hS6, hS7, hS8, hS9, hSa, hSc⟩ := hSw; go_simp; first | done | with_reducible rfl)
   refine hK _ ?_
   clear hK K
   try simp only [Act.put, pu2, pu3, pu4]
   refine wpQuiet_step (fun K hK => ?_)
   refine qwant (by rfl) ?_
   refine ⟨?vq14, ?hq14, ?rq14⟩
   case hq14 => (intro w hSw; unfold L2Seen at hSw; obtain ⟨hSb, hS1, hS2, hS3, hS4, hS5, hS6, hS7, hS8, hS9, hSa, hSc⟩ := hSw; go_simp; first | done | with_reducible rfl)
   refine hK _ ?_
   clear hK K
   try simp only [Act.put, pu2, pu3, pu4]
   refine wpQuiet_step (fun K hK => ?_)
   refine qwant (by rfl) ?_
   refine ⟨?vq15, ?hq15, ?rq15⟩
   case hq15 => (intro w hSw; unfold L2Seen at hSw; obtain ⟨hSb, hS1, hS2, hS3, hS4, hS5, hS6, hS7, hS8, hS9, hSa, hSc⟩ := hSw; go_simp; first | done | with_reducible rfl)
   refine hK _ ?_
   clear hK K
   try simp only [Act.put, pu2, pu3, pu4]
   refine wpQuiet_step (fun K hK => ?_)
   refine qwant (by rfl) ?_
   refine ⟨?vq16, ?hq16, ?rq16⟩
   case hq16 => (intro w hSw; unfold L2Seen at hSw; obtain ⟨hSb, hS1, hS2, hS3, hS4, hS5, hS6, hS7, hS8, hS9, hSa, hSc⟩ := hSw; go_simp; first | done | with_reducible rfl)
   refine hK _ ?_
   clear hK K
   try simp only [Act.put, pu2, pu3, pu4]
   refine wpQuiet_step (fun K hK => ?_)
   refine qwant (by rfl) ?_
   refine ⟨.bool BB, ?hq17, ?rq17⟩
   case hq17 => (intro w hSw; unfold L2Seen at hSw; obtain ⟨hSb, hS1, hS2, hS3, hS4, hS5, hS6, hS7, hS8, hS9, hSa, hSc⟩ := hSw; go_simp; exact (HOLD.out _ hSb.out).mono (fun e w1 q => ⟨q.1, HC.out w1 q.2⟩))
   refine hK _ ?_
   clear hK K
   try simp only [Act.put, pu2, pu3, pu4]
   refine wpQuiet_step (fun K hK => ?_)
   refine qwant (by rfl) ?_
   refine ⟨?vq18, ?hq18, ?rq18⟩
   case hq18 => (intro w hSw; unfold L2Seen at hSw; obtain ⟨hSb, hS1, hS2, hS3, hS4, hS5, hS6, hS7, hS8, hS9, hSa, hSc⟩ := hSw; go_simp; first | done | with_reducible rfl)
   refine hK _ ?_
   clear hK K
   try simp only [Act.put, pu2, pu3, pu4]
   refine wpQuiet_step (fun K hK => ?_)
   refine qwant (by rfl) ?_
   refine ⟨?vq19, ?hq19, ?rq19⟩
   case hq19 => (intro w hSw; unfold L2Seen at hSw; obtain ⟨hSb, hS1, hS2, hS3, hS4, hS5, hS6, hS7, hS8, hS9, hSa, hSc⟩ := hSw; go_simp; first | done | with_reducible rfl)
   refine hK _ ?_
   clear hK K
   try simp only [Act.put, pu2, pu3, pu4]
   refine wpQuiet_nil ?_
   intro w1 hC1
   have hb1 := hC1.1.out
   unfold L2Seen at hC1
   obtain ⟨_, d1, d2, d3, d4, d5, d6, d7, d8, d9, da, dc⟩ := hC1
   have hBB := HBB.out
   clear HBB
   subst hBB
   go_wp2
   go_ret
   exact ⟨rfl, HN.out _ (HB0.out.trans (hb1.mono HB0.out.size)), .of_below (HB0.out.trans (hb1.mono HB0.out.size))⟩
  | false =>
   obtain ⟨BB, hBB⟩ : ∃ BB, BB = (!false) := ⟨_, rfl⟩
   rw [← hBB] at HOLD
   replace hBB : BB = true := hBB
   have HBB := Lib.hid hBB
   clear hBB
   simp only [Bool.not_false, Bool.false_eq_true, if_false]
   clear h h0 hb0 a1 a2 a3 hel hs h1 h2 h3 h4 hblk hlim hlt k1 b1 b3 bx HN
   go_enter Try.func98, Try.ntmps98
   go_wp2
   simp only [← hw0]
   clear hw0
   refine wp_region_quietC (C := L2Seen R G (b * 11) A1 A2 w.heap.size now mx qu id ag y0 y1 y2 w0) (by kernel_rfl) (by kernel_rfl) HS.out ?_
   refine wpQuiet_step (fun K hK => ?_)
   refine qwant (by rfl) ?_
   refine ⟨?vq20, ?hq20, ?rq20⟩
   case hq20 => (intro w hSw; unfold L2Seen at hSw; obtain ⟨hSb, hS1, hS2, hS3, hS4, hS5, hS6, hS7, hS8, hS9, hSa, hSc⟩ := hSw; go_simp; first | done | with_reducible rfl)
   refine hK _ ?_
   clear hK K
   try simp only [Act.put, pu2, pu3, pu4]
   refine wpQuiet_step (fun K hK => ?_)
   refine qwant (by rfl) ?_
   refine ⟨?vq21, ?hq21, ?rq21⟩
   case hq21 => (intro w hSw; unfold L2Seen at hSw; obtain ⟨hSb, hS1, hS2, hS3, hS4, hS5, hS6, hS7, hS8, hS9, hSa, hSc⟩ := hSw; go_simp; first | done | with_reducible rfl)
   refine hK _ ?_
   clear hK K
   try simp only [Act.put, pu2, pu3, pu4]
   refine wpQuiet_step (fun K hK => ?_)
   refine qwant (by rfl) ?_
   refine ⟨?vq22, ?hq22, ?rq22⟩
   case hq22 => (intro w hSw; unfold L2Seen at hSw; obtain ⟨hSb, hS1, hS2, hS3, hS4, hS5, hS6, hS7, hS8, hS9, hSa, hSc⟩ := hSw; go_simp; first | done | with_reducible rfl)
   refine hK _ ?_
   clear hK K
   try simp only [Act.put, pu2, pu3, pu4]
   refine wpQuiet_step (fun K hK => ?_)
   refine qwant (by rfl) ?_
   refine ⟨?vq23, ?hq23, ?rq23⟩
   case hq23 => (intro w hSw; unfold L2Seen at hSw; obtain ⟨hSb, hS1, hS2, hS3, hS4, hS5, hS6, hS7, hS8, hS9, hSa, hSc⟩ := hSw; go_simp; first | done | with_reducible rfl)
   refine hK _ ?_
   clear hK K
   try simp only [Act.put, pu2, pu3, pu4]
   refine wpQuiet_step (fun K hK => ?_)
   refine qwant (by rfl) ?_
   refine ⟨?vq24, ?hq24, ?rq24⟩
   case hq24 => (intro w hSw; unfold L2Seen at hSw; obtain ⟨hSb, hS1, hS2, hS3, hS4, hS5, hS6, hS7, hS8, hS9, hSa, hSc⟩ := hSw; go_simp; first | done | with_reducible rfl)
   refine hK _ ?_
   clear hK K
   try simp only [Act.put, pu2, pu3, pu4]
   refine wpQuiet_step (fun K hK => ?_)
   refine qwant (by rfl) ?_
   refine ⟨?vq25, ?hq25, ?rq25⟩
   case hq25 => (intro w hSw; unfold L2Seen at hSw; obtain ⟨hSb, hS1, hS2, hS3, hS4, hS5, hS6, hS7, hS8, hS9, hSa, hSc⟩ := hSw; go_simp; first | done | with_reducible rfl)
   refine hK _ ?_
   clear hK K
   try simp only [Act.put, pu2, pu3, pu4]
   refine wpQuiet_step (fun K hK => ?_)
   refine qwant (by rfl) ?_
   refine ⟨?vq26, ?hq26, ?rq26⟩
   case hq26 => (intro w hSw; unfold L2Seen at hSw; obtain ⟨hSb, hS1, hS2, hS3, hS4, hS5, hS6, hS7, hS8, hS9, hSa, hSc⟩ := hSw; go_simp; first | done | with_reducible rfl)
   refine hK _ ?_
   clear hK K
   try simp only [Act.put, pu2, pu3, pu4]
   refine wpQuiet_step (fun K hK => ?_)
   refine qwant (by rfl) ?_
   refine ⟨?vq27, ?hq27, ?rq27⟩
   case hq27 => (intro w hSw; unfold L2Seen at hSw; obtain ⟨hSb, hS1, hS2, hS3, hS4, hS5, hS6, hS7, hS8, hS9, hSa, hSc⟩ := hSw; go_simp; first | done | with_reducible rfl)
   refine hK _ ?_
   clear hK K
   try simp only [Act.put, pu2, pu3, pu4]
   refine wpQuiet_step (fun K hK => ?_)
   refine qwant (by rfl) ?_
   refine ⟨?vq28, ?hq28, ?rq28⟩
   case hq28 => (intro w hSw; unfold L2Seen at hSw; obtain ⟨hSb, hS1, hS2, hS3, hS4, hS5, hS6, hS7, hS8, hS9, hSa, hSc⟩ := hSw; go_simp; first | done | with_reducible rfl)
   refine hK _ ?_
   clear hK K
   try simp only [Act.put, pu2, pu3, pu4]
   refine wpQuiet_step (fun K hK => ?_)
   refine qwant (by rfl) ?_
   refine ⟨?vq29, ?hq29, ?rq29⟩
   case hq29 => (intro w hSw; unfold L2Seen at hSw; obtain ⟨hSb, hS1, hS2, hS3, hS4, hS5, hS6, hS7, hS8, hS9, hSa, hSc⟩ := hSw; go_simp; first | done | with_reducible rfl)
   refine hK _ ?_
   clear hK K
   try simp only [Act.put, pu2, pu3, pu4]
   refine wpQuiet_step (fun K hK => ?_)
   refine qwant (by rfl) ?_
   refine ⟨?vq30, ?hq30, ?rq30⟩
   case hq30 => (intro w hSw; unfold L2Seen at hSw; obtain ⟨hSb, hS1, hS2, hS3, hS4, hS5, hS6, hS7, hS8, hS9, hSa, hSc⟩ := hSw; go_simp; first | done | with_reducible rfl)
   refine hK _ ?_
   clear hK K
   try simp only [Act.put, pu2, pu3, pu4]
   refine wpQuiet_step (fun K hK => ?_)
   refine qwant (by rfl) ?_
   refine ⟨?vq31, ?hq31, ?rq31⟩
   case hq31 => (intro w hSw; unfold L2Seen at hSw; obtain ⟨hSb, hS1, hS2, hS3, hS4, hS5, hS6, hS7, hS8, hS9, hSa, hSc⟩ := hSw; go_simp; first | done | with_reducible rfl)
   refine hK _ ?_
   clear hK K
   try simp only [Act.put, pu2, pu3, pu4]
   refine wpQuiet_step (fun K hK => ?_)
   refine qwant (by rfl) ?_
   refine ⟨?vq32, ?hq32, ?rq32⟩
   case hq32 => (intro w hSw; unfold L2Seen at hSw; obtain ⟨hSb, hS1, hS2, hS3, hS4, hS5, hS6, hS7, hS8, hS9, hSa, hSc⟩ := hSw; go_simp; first | done | with_reducible rfl)
   refine hK _ ?_
   clear hK K
   try simp only [Act.put, pu2, pu3, pu4]
   refine wpQuiet_step (fun K hK => ?_)
   refine qwant (by rfl) ?_
   refine ⟨?vq33, ?hq33, ?rq33⟩
   case hq33 => (intro w hSw; unfold L2Seen at hSw; obtain ⟨hSb, hS1, hS2, hS3, hS4, hS5, hS6, hS7, hS8, hS9, hSa, hSc⟩ := hSw; go_simp; first | done | with_reducible rfl)
   refine hK _ ?_
   clear hK K
   try simp only [Act.put, pu2, pu3, pu4]
   refine wpQuiet_step (fun K hK => ?_)
   refine qwant (by rfl) ?_
   refine ⟨?vq34, ?hq34, ?rq34⟩
   case hq34 => (intro w hSw; unfold L2Seen at hSw; obtain ⟨hSb, hS1, hS2, hS3, hS4, hS5, hS6, hS7, hS8, hS9, hSa, hSc⟩ := hSw; go_simp; first | done | with_reducible rfl)
   refine hK _ ?_
   clear hK K
   try simp only [Act.put, pu2, pu3, pu4]
   refine wpQuiet_step (fun K hK => ?_)
   refine qwant (by rfl) ?_
   refine ⟨?vq35, ?hq35, ?rq35⟩
   case hq35 => (intro w hSw; unfold L2Seen at hSw; obtain ⟨hSb, hS1, hS2, hS3, hS4, hS5, hS6, hS7, hS8, hS9, hSa, hSc⟩ := hSw; go_simp; first | done | with_reducible rfl)
   refine hK _ ?_
   clear hK K
   try simp only [Act.put, pu2, pu3, pu4]
   refine wpQuiet_step (fun K hK => ?_)
   refine qwant (by rfl) ?_
   refine ⟨.bool BB, ?hq36, ?rq36⟩
   case hq36 => (intro w hSw; unfold L2Seen at hSw; obtain ⟨hSb, hS1, hS2, hS3, hS4, hS5, hS6, hS7, hS8, hS9, hSa, hSc⟩ := hSw; go_simp; exact (HOLD.out _ hSb.out).mono (fun e w1 q => ⟨q.1, HC.out w1 q.2⟩))
   refine hK _ ?_
   clear hK K
   try simp only [Act.put, pu2, pu3, pu4]
   refine wpQuiet_step (fun K hK => ?_)
   refine qwant (by rfl) ?_
   refine ⟨?vq37, ?hq37, ?rq37⟩
   case hq37 => (intro w hSw; unfold L2Seen at hSw; obtain ⟨hSb, hS1, hS2, hS3, hS4, hS5, hS6, hS7, hS8, hS9, hSa, hSc⟩ := hSw; go_simp; first | done | with_reducible rfl)
   refine hK _ ?_
   clear hK K
   try simp only [Act.put, pu2, pu3, pu4]
   refine wpQuiet_step (fun K hK => ?_)
   refine qwant (by rfl) ?_
   refine ⟨?vq38, ?hq38, ?rq38⟩
   case hq38 => (intro w hSw; unfold L2Seen at hSw; obtain ⟨hSb, hS1, hS2, hS3, hS4, hS5, hS6, hS7, hS8, hS9, hSa, hSc⟩ := hSw; go_simp; first | done | with_reducible rfl)
   refine hK _ ?_
   clear hK K
   try simp only [Act.put, pu2, pu3, pu4]
   refine wpQuiet_nil ?_
   intro w1 hC1
   have hb1 := hC1.1.out
   unfold L2Seen at hC1
   obtain ⟨_, d1, d2, d3, d4, d5, d6, d7, d8, d9, da, dc⟩ := hC1
   have hBB := HBB.out
   clear HBB
   subst hBB
   have e3 := HA3.out w1 hb1
   go_wp2_with fail
   refine (HE.out _ (HB0.out.trans (hb1.mono HB0.out.size))).mono ?_
   rintro e w2 ⟨rfl, hR, hG⟩
   go_wp2
   go_ret
   exact ⟨rfl, hR, (Gb.of_below (HB0.out.trans (hb1.mono HB0.out.size))).trans hG⟩
end Go.Proofs.Ytaicmiadgnpimaa
