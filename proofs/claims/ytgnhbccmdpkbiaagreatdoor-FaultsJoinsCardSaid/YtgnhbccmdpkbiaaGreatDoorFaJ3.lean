/-
  Layer 3 (faults): what the law of joins keeps in its loop; Join of both packages, as it needs them.
-/
import Derived.Test.YtgnhbccmdpkbiaaGreatDoorFaJ2
namespace Go.Proofs.YtgnhbccmdpkbiaaGreatDoor
open Go.RowKit Go.Shelf

def goodL (L : List Fa.Node) : Bool := !farL L && decide ((Fa.build L).1 = 0)
def pickG (Ls : List (List Fa.Node)) (q : Nat) : List (List Fa.Node) := (Ls.take q).filter goodL
theorem pickG_good {Ls : List (List Fa.Node)} {q : Nat} (hq : q < Ls.length) (hg : goodL Ls[q] = true) : pickG Ls (q + 1) = pickG Ls q ++ [Ls[q]] := by
  unfold pickG
  rw [List.take_succ_eq_append_getElem hq, List.filter_append, List.filter_cons, if_pos hg]; rfl
theorem pickG_bad {Ls : List (List Fa.Node)} {q : Nat} (hq : q < Ls.length) (hg : goodL Ls[q] = false) : pickG Ls (q + 1) = pickG Ls q := by
  unfold pickG
  rw [List.take_succ_eq_append_getElem hq, List.filter_append, List.filter_cons, if_neg (by simp [hg])]; simp
theorem pickG_ok {Ls : List (List Fa.Node)} {q : Nat} : ∀ L ∈ pickG Ls q, (Fa.build L).1 = 0 := fun L hL => by
  have := (List.mem_filter.1 hL).2
  simp only [goodL, Bool.and_eq_true, decide_eq_true_eq] at this
  exact this.2
theorem pickG_len (Ls : List (List Fa.Node)) (q : Nat) : (pickG Ls q).length ≤ q := by
  have h1 := List.length_filter_le goodL (Ls.take q)
  rw [List.length_take] at h1
  unfold pickG
  omega
/-- What the law of joins keeps in its loop. -/
def LInv (Ls : List (List Fa.Node)) (w : World) (q : Nat) (ev cv : Value) (wr : World) : Prop := ∃ (rs : List Ref) (cs : List SlV),
  OwnL 26 1 encE wr w.heap.size ev rs ∧ OwnL 22 1 encS wr w.heap.size cv cs ∧ Apart2 ev cv ∧
  Holds (fun b => some b ≠ ev.ownBlock ∧ some b ≠ cv.ownBlock) wr (Fa.forest (pickG Ls q)) (rs.map valE) ∧
  cs.length = (pickG Ls q).length ∧ (∀ j (h1 : j < cs.length) (h2 : j < (pickG Ls q).length), ReadsL 6 encNode w (valS cs[j]) (pickG Ls q)[j]) ∧ Below w.heap.size w wr
theorem LInv.below {Ls : List (List Fa.Node)} {w wr wr' : World} {q : Nat} {ev cv : Value} (h : LInv Ls w q ev cv wr) (hb : Below wr.heap.size wr wr') : LInv Ls w q ev cv wr' := by
  obtain ⟨rs, cs, h1, h2, h3, h4, h5, h6, h7⟩ := h
  exact ⟨rs, cs, h1.below hb, h2.below hb, h3, h4.below hb, h5, h6, h7.trans (hb.mono h7.size)⟩
theorem LInv.skip {Ls : List (List Fa.Node)} {w wr : World} {q : Nat} {ev cv : Value} (h : LInv Ls w q ev cv wr) (hq : q < Ls.length) (hg : goodL Ls[q] = false) : LInv Ls w (q + 1) ev cv wr := by
  unfold LInv
  rw [pickG_bad hq hg]
  exact h
theorem LInv.start (Ls : List (List Fa.Node)) (w : World) : LInv Ls w 0 (.slice none 0 0) (.slice none 0 0) w :=
  ⟨[], [], OwnL.nil _ _, OwnL.nil _ _, Apart2.nil _ _, rfl, rfl, fun j h1 => absurd h1 (by simp), Below.refl _ _⟩
theorem linv_good {Ls : List (List Fa.Node)} {w w3 w5 w7 : World} {q : Nat} {ev cv ev' cv' : Value} {rs : List Ref} {cs : List SlV} {rf : Ref} {u : SlV} {o4 o6 : Obj}
    (hq : q < Ls.length) (hg : goodL Ls[q] = true) (hu : ReadsL 6 encNode w (valS u) Ls[q])
    (hc : OwnL 22 1 encS w3 w.heap.size cv cs) (hap : Apart2 ev cv)
    (hh : Holds (fun b => some b ≠ ev.ownBlock ∧ some b ≠ cv.ownBlock) w3 (Fa.forest (pickG Ls q)) (rs.map valE))
    (hh2 : Holds (fun b => some b ≠ ev.ownBlock ∧ some b ≠ cv.ownBlock) w3 (Fa.build Ls[q]).2 [valE rf])
    (hcl : cs.length = (pickG Ls q).length) (hcr : ∀ j (h1 : j < cs.length) (h2 : j < (pickG Ls q).length), ReadsL 6 encNode w (valS cs[j]) (pickG Ls q)[j]) (hb : Below w.heap.size w w3)
    (he : OwnL 26 1 encE w3 w.heap.size ev rs)
    (he5 : OwnL 26 1 encE w5 w.heap.size ev' (rs ++ [rf])) (hg5 : (w3.alloc o4).grownBy w5 ev.ownBlock)
    (hat5 : ∀ v2, Apart2 ev v2 → (∀ k, v2.ownBlock = some k → k < (w3.alloc o4).heap.size) → Apart2 ev' v2)
    (hc7 : OwnL 22 1 encS w7 w.heap.size cv' (cs ++ [u])) (hg7 : (w5.alloc o6).grownBy w7 cv.ownBlock)
    (hat7 : ∀ v2, Apart2 cv v2 → (∀ k, v2.ownBlock = some k → k < (w5.alloc o6).heap.size) → Apart2 cv' v2) : LInv Ls w (q + 1) ev' cv' w7 := by
  have hs4 : (w3.alloc o4).heap.size = w3.heap.size + 1 := by simp
  have hs5 := hg5.size
  have hs6 : (w5.alloc o6).heap.size = w5.heap.size + 1 := by simp
  have hs7 := hg7.size
  have hws := hb.size
  have hap5 : Apart2 ev' cv := hat5 cv hap fun k hk => by have := (hc.lt k hk).2; omega
  have hap7 : Apart2 cv' ev' := hat7 ev' hap5.symm fun k hk => by have := (he5.lt k hk).2; omega
  refine ⟨rs ++ [rf], cs ++ [u], (he5.alloc o6).kept hg7 hap5.symm.ne, hc7, hap7.symm, ?_, ?_, ?_, ?_⟩
  · rw [pickG_good hq hg, Fa.forest_snoc, List.map_append]
    refine (hh.app hh2).moved (fun b hbs hbl => ⟨⟨apart_blk hat5 (by omega) hbs.1, apart_blk hat7 (by omega) hbs.2⟩, ?_⟩) (by omega)
    rw [hg7.block b (by omega) hbs.2, Below.heap_alloc w5 o6 b (by omega), hg5.block b (by omega) hbs.1, Below.heap_alloc w3 o4 b hbl]
  · rw [pickG_good hq hg, List.length_append, List.length_append, hcl]; rfl
  · rw [pickG_good hq hg]
    intro j h1 h2
    by_cases hj : j < cs.length
    · rw [List.getElem_append_left hj, List.getElem_append_left (by omega)]
      exact hcr j hj (by omega)
    · have hje : j = cs.length := by rw [List.length_append] at h1; simp at h1; omega
      subst hje
      rw [List.getElem_append_right (Nat.le_refl _), List.getElem_append_right (by omega)]
      simpa [hcl] using hu
  · exact below_appL ((below_appL (hb.alloc hws o4) (he.alloc o4) hg5 (by omega)).alloc (by omega) o6) (((hc.alloc o4).kept hg5 hap.ne).alloc o6) hg7 (by omega)

def jcode : List (List Fa.Node) → Int
  | [] => 4
  | [_] => 0
  | F => joinE (Fa.forest F)
def jtree : List (List Fa.Node) → Fa.F
  | [L] => (Fa.build L).2
  | F => .join (Fa.forest F) .nil
theorem jcode_two {F : List (List Fa.Node)} (h : 1 < F.length) : jcode F = joinE (Fa.forest F) ∧ jtree F = .join (Fa.forest F) .nil := by
  match F, h with
  | _ :: _ :: _, _ => exact ⟨rfl, rfl⟩
theorem jtree_ok {F : List (List Fa.Node)} (hok : ∀ L ∈ F, (Fa.build L).1 = 0) (h : jcode F = 0) (hl : F.length ≤ 10) : (jtree F).ok ∧ (jtree F).nodes ≤ 100000 := by
  match F, h, hl, hok with
  | [L], _, _, hok =>
    have := Fa.build_ok (hok L List.mem_cons_self)
    exact ⟨this.2.1, by have := this.2.2.2.1; show (Fa.build L).2.nodes ≤ _; omega⟩
  | A :: B :: r, h, hl, hok =>
    have h2 : (A :: B :: r).length > 1 := by simp
    generalize hF : A :: B :: r = F at *
    rw [(jcode_two h2).1] at h
    rw [(jcode_two h2).2]
    have h3 := Fa.forest_len hok
    have h4 := Fa.forest_nodes hok
    unfold joinE at h
    split at h
    · exact absurd h (by decide)
    · rename_i hq
      refine ⟨⟨by omega, by omega, Fa.forest_ok hok, trivial⟩, ?_⟩
      simp only [Fa.F.nodes]
      omega
def JEmptyPost (w : World) (e : Ending) (w' : World) : Prop := e = .returned (.tuple #[.nilIface, I64 4]) ∧ Below w.heap.size w w'
set_option maxRecDepth 100000 in
theorem join_empty (a : Option Addr) (cap : Nat) (w : World) : Calls Tryz.prog 18 #[.slice a 0 cap] w (JEmptyPost w) := by
  have HP : Hid (JEmptyPost w (.returned (.tuple #[.nilIface, I64 4])) w) := ⟨rfl, Below.refl _ _⟩
  generalize JEmptyPost w = R at HP ⊢
  go_enter Tryz.func18, Tryz.ntmps18
  go_wp2
  exact HP.out
theorem join_law {F : List (List Fa.Node)} {B : Nat} {S : Nat → Prop} (hok : ∀ L ∈ F, (Fa.build L).1 = 0) (hl : F.length ≤ 10) (rs : List Ref) (ev : Value) (w : World) (hown : OwnL 26 1 encE w B ev rs) (hh : Holds S w (Fa.forest F) (rs.map valE)) :
    Calls Tryz.prog 18 #[ev] w fun e w' => (jcode F ≠ 0 → e = .returned (.tuple #[.nilIface, I64 (jcode F)])) ∧
      (jcode F = 0 → ∃ ty pv, e = .returned (.tuple #[.iface ty pv, I64 0]) ∧ Holds (fun _ => True) w' (jtree F) [.iface ty pv]) ∧ Below w.heap.size w w' := by
  have hlen : rs.length = F.length := by
    have := hh.len
    rw [List.length_map, Fa.forest_len hok] at this
    exact this
  by_cases h0 : F.length = 0
  · have hF : F = [] := List.eq_nil_of_length_eq_zero h0
    obtain ⟨a, cap, hv⟩ := (hown.reads elE.len).len
    rw [hlen, h0] at hv
    subst hv hF
    exact (join_empty a cap w).mono fun e w' h => ⟨fun _ => h.1, fun h => absurd h (by decide), h.2⟩
  · obtain ⟨g, c, rfl, hBg, hg⟩ := own_form hown (by omega)
    have hn := Fa.forest_nodes hok
    refine (join_any S (Fa.forest F) rs g 0 c w hh ⟨hg, fun j hj => by rw [Nat.zero_add]; exact own_errs hown j hj⟩ (by omega) (by omega)).mono ?_
    rintro e w' ⟨p1, p2, p3, p4⟩
    by_cases h1 : F.length = 1
    · match F, h1 with
      | [L], _ =>
        match rs, hlen with
        | [rf], _ =>
          refine ⟨fun h => absurd rfl h, fun _ => ?_, p4⟩
          obtain ⟨ty, pv, hty⟩ := valE_iface rf
          refine ⟨ty, pv, ?_, ?_⟩
          · rw [← hty]; exact p1 rfl
          · rw [← hty]
            have h2 := (hh.below p4).mono (S' := fun _ => True) (fun _ _ _ => trivial)
            have h3 : Fa.forest [L] = (Fa.build L).2 := by simp only [Fa.forest]; exact Fa.app_nil3 _
            rw [h3] at h2
            exact h2
    · obtain ⟨e1, e2⟩ := jcode_two (F := F) (by omega)
      rw [e1, e2]
      refine ⟨fun h => p2 (by omega) h, fun h => ?_, p4⟩
      obtain ⟨b, g', cap, q1, q2, q3, q4, q5, q6⟩ := p3 (by omega) h
      refine ⟨_, _, q1, b, g', 0, cap, rs.map valE, [], rfl, trivial, by rw [List.length_map]; exact q5, ⟨trivial, q4, fun j u hj => ?_⟩, (hh.below p4).mono (fun _ _ _ => trivial), rfl⟩
      rw [List.getElem?_map] at hj
      obtain ⟨r, hr, rfl⟩ := Option.map_eq_some_iff.1 hj
      obtain ⟨hj2, hj3⟩ := List.getElem?_eq_some_iff.1 hr
      rw [Nat.zero_add, ← hj3]
      exact q6 j hj2
theorem rjoin_law {F : List (List Fa.Node)} {B : Nat} (hok : ∀ L ∈ F, (Fa.build L).1 = 0) (hl : F.length ≤ 10) (cs : List SlV) (cv : Value) (w : World) (hown : OwnL 22 1 encS w B cv cs) (hlen : cs.length = F.length)
    (hr : ∀ j (h1 : j < cs.length) (h2 : j < F.length), ReadsL 6 encNode w (valS cs[j]) F[j]) :
    Calls Tryz.prog 19 #[cv] w fun e w' => (jcode F ≠ 0 → e = .returned (.tuple #[.slice none 0 0, I64 (jcode F)])) ∧
      (jcode F = 0 → ∃ v', e = .returned (.tuple #[v', I64 0]) ∧ ReadsL 6 encNode w' v' ((jtree F).chain 0)) ∧ Below w.heap.size w w' := by
  refine (rjoin_any cs F cv w ⟨hown.reads elS.len, hlen, hr⟩ (fun L hL => ?_) (by omega)).mono ?_
  · obtain ⟨b1, b2, b3, b4, b5⟩ := Fa.build_ok (hok L hL)
    refine ⟨by rw [← b1, Fa.chain_length]; omega, fun y hy => ?_⟩
    rw [← b1] at hy
    have := Fa.chain_depths _ 0 y hy
    omega
  · rintro e w' ⟨p0, p8, p1, pt, pf, pb⟩
    by_cases h0 : F.length = 0
    · have hF : F = [] := List.eq_nil_of_length_eq_zero h0
      subst hF
      exact ⟨fun _ => p0 rfl, fun h => absurd h (by decide), pb⟩
    · by_cases h1 : F.length = 1
      · match F, h1 with
        | [L], _ =>
          refine ⟨fun h => absurd rfl h, fun _ => ?_, pb⟩
          show ∃ v', e = .returned (.tuple #[v', I64 0]) ∧ ReadsL 6 encNode w' v' ((Fa.build L).2.chain 0)
          rw [(Fa.build_ok (hok L List.mem_cons_self)).1]
          exact p1 L rfl
      · obtain ⟨e1, e2⟩ := jcode_two (F := F) (by omega)
        rw [e1, e2, join_chain hok]
        by_cases h8 : 8 < F.length
        · rw [joinE_long hok h8]
          exact ⟨fun _ => p8 h8, fun h => absurd h (by decide), pb⟩
        · rw [joinE_lim hok (by omega)]
          cases hq : Fa.limits (joinN F) with
          | true =>
            rw [if_pos rfl]
            exact ⟨fun _ => pt (by omega) (by omega) hq, fun h => absurd h (by decide), pb⟩
          | false =>
            rw [if_neg (by decide)]
            exact ⟨fun h => absurd rfl h, fun _ => pf (by omega) (by omega) hq, pb⟩
end Go.Proofs.YtgnhbccmdpkbiaaGreatDoor
