/-
  Walks for layer 3 (faults): deeper of the reference; what the chain of a tree says of its limits.
-/
import Derived.Test.YtgnhbccmdpkbiaaGreatDoorFaw21
namespace Go.Proofs.YtgnhbccmdpkbiaaGreatDoor
open Go.RowKit Go.Shelf

namespace Fa
def deep (x : Node) : Node := ⟨x.depth + 1, x.joined, x.link⟩
theorem chain_deep (t : F) : ∀ d, (t.chain d).map deep = t.chain (d + 1) := by
  induction t with
  | nil => intro d; rfl
  | link x c r h1 h2 => intro d; simp only [F.chain, List.map_cons, List.map_append, h1, h2, deep]
  | join k r h1 h2 => intro d; simp only [F.chain, List.map_cons, List.map_append, h1, h2, deep]
theorem chain_depths (t : F) : ∀ d, ∀ x ∈ t.chain d, d ≤ x.depth ∧ x.depth + 1 ≤ d + t.hgt := by
  induction t with
  | nil => intro d x hx; simp [F.chain] at hx
  | link y c r h1 h2 =>
    intro d x hx
    simp only [F.chain, List.mem_cons, List.mem_append] at hx
    simp only [F.hgt]
    rcases hx with rfl | hx | hx
    · dsimp only; omega
    · have := h1 _ x hx; omega
    · have := h2 _ x hx; omega
  | join k r h1 h2 =>
    intro d x hx
    simp only [F.chain, List.mem_cons, List.mem_append] at hx
    simp only [F.hgt]
    rcases hx with rfl | hx | hx
    · dsimp only; omega
    · have := h1 _ x hx; omega
    · have := h2 _ x hx; omega
theorem chain_top (t : F) (hne : t ≠ .nil) : ∀ d, ∃ x ∈ t.chain d, x.depth + 1 = d + t.hgt := by
  induction t with
  | nil => exact absurd rfl hne
  | link y c r h1 h2 =>
    intro d
    simp only [F.chain, F.hgt]
    by_cases hr : r.hgt ≤ c.hgt + 1
    · by_cases hc : c = .nil
      · subst hc
        refine ⟨⟨d, 0, y⟩, by simp, ?_⟩
        simp only [F.hgt] at hr ⊢
        omega
      · obtain ⟨x, hx, hd⟩ := h1 hc (d + 1)
        refine ⟨x, by simp [hx], ?_⟩
        omega
    · have hrn : r ≠ .nil := fun e => by subst e; simp [F.hgt] at hr
      obtain ⟨x, hx, hd⟩ := h2 hrn d
      refine ⟨x, by simp [hx], ?_⟩
      omega
  | join k r h1 h2 =>
    intro d
    simp only [F.chain, F.hgt]
    by_cases hr : r.hgt ≤ k.hgt + 1
    · by_cases hc : k = .nil
      · subst hc
        refine ⟨⟨d, F.nil.len, Link.zero⟩, by simp, ?_⟩
        simp only [F.hgt] at hr ⊢
        omega
      · obtain ⟨x, hx, hd⟩ := h1 hc (d + 1)
        refine ⟨x, by simp [hx], ?_⟩
        omega
    · have hrn : r ≠ .nil := fun e => by subst e; simp [F.hgt] at hr
      obtain ⟨x, hx, hd⟩ := h2 hrn d
      refine ⟨x, by simp [hx], ?_⟩
      omega
theorem limits_chain {t : F} (hne : t ≠ .nil) : limits (t.chain 0) = decide (40 < t.nodes ∨ 13 < t.hgt) := by
  rw [Bool.eq_iff_iff]
  unfold limits
  simp only [Bool.or_eq_true, decide_eq_true_eq, List.any_eq_true, chain_length]
  constructor
  · rintro (h | ⟨x, hx, hd⟩)
    · exact .inl h
    · have := chain_depths t 0 x hx
      exact .inr (by omega)
  · rintro (h | h)
    · exact .inl h
    · obtain ⟨x, hx, hd⟩ := chain_top t hne 0
      exact .inr ⟨x, hx, by omega⟩
end Fa

theorem dropAt {α : Type} {l : List α} {i : Nat} {o : α} {r : List α} (h : l.drop i = o :: r) : l.toArray[i]? = some o := by
  rw [List.getElem?_toArray, ← List.head?_drop, h]; rfl
def DeepPost (l : List Fa.Node) (w : World) (e : Ending) (w' : World) : Prop :=
  ∃ v', e = .returned v' ∧ OwnL 52 6 encNode w' w.heap.size v' (l.map Fa.deep) ∧ Below w.heap.size w w'
theorem newN3 (W : World) (x : Fa.Node) (T : TypeId) (g : Nat) (hg : g = W.heap.size) : ∀ i u, (encNode x)[i]? = some u → (W.alloc (.cells #[I64 x.depth, I64 x.joined, I64 x.link.kind, .string x.link.op, I64 x.link.backend, I64 x.link.conn] T)).cell? ⟨g, i, none⟩ = some u := by
  subst hg
  exact newN W x T

set_option maxHeartbeats 4000000 in
set_option maxRecDepth 100000 in
theorem deeper_any (v : Value) (L : List Fa.Node) (w : World) (h : ReadsL 6 encNode w v L) (hl : L.length ≤ 100000) (hd : ∀ x ∈ L, 0 ≤ x.depth ∧ x.depth ≤ 1000000) : Calls Tryz.prog 46 #[v] w (DeepPost L w) := by
  rcases h with ⟨a, cap, rfl, rfl⟩ | ⟨b, o, cap, rfl, hb, hc⟩
  · clear hl hd
    go_enter Tryz.func46, Tryz.ntmps46
    go_wp2
    refine wp_loop_rounds 1 ?_
    rw [rounds_succ]
    go_wp2
    go_ret
    exact ⟨_, rfl, OwnL.nil _ _, Below.refl _ _⟩
  have HC := Lib.hid hc
  have HD := Lib.hid hd
  clear hc hd
  go_enter Tryz.func46, Tryz.ntmps46
  go_wp2
  go_loopw [3, 4] (fun u i wr => ∃ q : Nat, q ≤ L.length ∧ i = .int .i64 q ∧ OwnL 52 6 encNode wr w.heap.size u ((L.take q).map Fa.deep) ∧ Below w.heap.size w wr) (fun _ i _ => L.length - (intOf i).toNat)
  case atStart => exact ⟨0, Nat.zero_le _, rfl, OwnL.nil _ _, Below.refl _ _⟩
  case round =>
    obtain ⟨q, hq, rfl, ho, hbw⟩ := hrel
    by_cases hlt : q < L.length
    · obtain ⟨p0, p1, p2, p3, p4, p5⟩ := cells1 hb hbw HC.out q hlt
      have i1 : (q : Int) < (L.length : Int) := by omega
      have hd := HD.out L[q] (List.getElem_mem hlt)
      have HT : Hid ((L.take (q + 1)).map Fa.deep = (L.take q).map Fa.deep ++ [Fa.deep L[q]]) := by
        show _ = _
        rw [List.take_succ_eq_append_getElem hlt, List.map_append]; rfl
      have hlen : ((L.take q).map Fa.deep).length = q := by rw [List.length_map, List.length_take]; omega
      generalize L[q] = x at p0 p1 p2 p3 p4 p5 hd HT
      obtain ⟨dp, jn, ⟨kd, op, bk, cn⟩⟩ := x
      dsimp only at p0 p1 p2 p3 p4 p5 hd
      have HO := Lib.hid ho
      have HW := Lib.hid hbw
      have HL := Lib.hid hlen
      clear ho hbw hlen hlt
      have HLs := Lib.hid (show q + 1 ≤ L.length from by omega)
      go_wp2_with (at_builtin; refine appL elN _ rfl _ _ rfl w.heap.size _ _ ⟨dp + 1, jn, ⟨kd, op, bk, cn⟩⟩ rfl ((HO.out.alloc _).alloc _) _ 1 rfl (newN3 _ ⟨dp + 1, jn, ⟨kd, op, bk, cn⟩⟩ _ _ (by simp)) (by rw [HL.out]; unfold maxLen; omega) (by rw [HL.out]; omega) (by have := HW.out.size; simp; omega) ?_; rintro v4 w4 hown4 hgr4 ⟨g4, c4, rfl⟩)
      case roundEnd =>
        refine ⟨⟨q + 1, HLs.out, by go_num, by rw [HT.out]; have h := hown4; rw [HL.out] at h; exact h, ?_⟩, by simp [intOf]; omega⟩
        have hs := HW.out.size
        refine below_appL ((HW.out.alloc hs _).alloc (by simp; omega) _) ((HO.out.alloc _).alloc _) hgr4 (by simp; omega)
    · have hqe : q = L.length := by omega
      have i1 : ¬ (q : Int) < (L.length : Int) := by omega
      rw [hqe, List.take_length] at ho
      have HO := Lib.hid ho
      have HW := Lib.hid hbw
      clear ho hqe hbw
      go_wp2
      go_ret
      exact ⟨_, rfl, HO.out, HW.out⟩
end Go.Proofs.YtgnhbccmdpkbiaaGreatDoor
