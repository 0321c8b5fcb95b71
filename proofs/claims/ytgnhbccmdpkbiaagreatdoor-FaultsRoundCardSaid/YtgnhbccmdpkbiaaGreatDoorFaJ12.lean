/-
  Layer 3 (faults): forests of chains. No program of its own.
-/
import Derived.Test.YtgnhbccmdpkbiaaGreatDoorFaw22
namespace Go.Proofs.YtgnhbccmdpkbiaaGreatDoor
open Go.RowKit Go.Shelf

namespace Fa
theorem app_assoc3 (a b c : F) : (a.app b).app c = a.app (b.app c) := by
  induction a with
  | nil => rfl
  | link x k r _ ih => simp only [F.app, ih]
  | join k r _ ih => simp only [F.app, ih]
theorem app_nil3 (a : F) : a.app .nil = a := by
  induction a with
  | nil => rfl
  | link x k r _ ih => simp only [F.app, ih]
  | join k r _ ih => simp only [F.app, ih]
def forest : List (List Node) → F
  | [] => .nil
  | L :: Ls => (build L).2.app (forest Ls)
theorem forest_app (A B : List (List Node)) : forest (A ++ B) = (forest A).app (forest B) := by
  induction A with
  | nil => rfl
  | cons L A ih => simp only [List.cons_append, forest, ih, app_assoc3]
theorem forest_snoc (A : List (List Node)) (L : List Node) : forest (A ++ [L]) = (forest A).app (build L).2 := by
  rw [forest_app]; simp only [forest, app_nil3]
theorem forest_len {Ls : List (List Node)} (h : ∀ L ∈ Ls, (build L).1 = 0) : (forest Ls).len = Ls.length := by
  induction Ls with
  | nil => rfl
  | cons L Ls ih =>
    simp only [forest, app_len, List.length_cons]
    rw [ih (fun M hM => h M (List.mem_cons_of_mem _ hM)), (build_ok (h L List.mem_cons_self)).2.2.1]
    omega
theorem forest_nodes {Ls : List (List Node)} (h : ∀ L ∈ Ls, (build L).1 = 0) : (forest Ls).nodes ≤ 40 * Ls.length := by
  induction Ls with
  | nil => simp [forest, F.nodes]
  | cons L Ls ih =>
    simp only [forest, app_nodes, List.length_cons]
    have h1 := ih (fun M hM => h M (List.mem_cons_of_mem _ hM))
    have h2 := (build_ok (h L List.mem_cons_self)).2.2.2.1
    omega
theorem forest_ok {Ls : List (List Node)} (h : ∀ L ∈ Ls, (build L).1 = 0) : (forest Ls).ok := by
  induction Ls with
  | nil => trivial
  | cons L Ls ih => exact (app_ok _ _).2 ⟨(build_ok (h L List.mem_cons_self)).2.1, ih (fun M hM => h M (List.mem_cons_of_mem _ hM))⟩
theorem forest_chain {Ls : List (List Node)} (h : ∀ L ∈ Ls, (build L).1 = 0) : (forest Ls).chain 1 = Ls.flatMap fun L => L.map deep := by
  induction Ls with
  | nil => rfl
  | cons L Ls ih =>
    simp only [forest, app_chain, List.flatMap_cons]
    rw [ih (fun M hM => h M (List.mem_cons_of_mem _ hM))]
    have h1 := chain_deep (build L).2 0
    rw [(build_ok (h L List.mem_cons_self)).1] at h1
    rw [h1]; rfl
end Fa
/-- The chain of a join. -/
def joinN (Ls : List (List Fa.Node)) : List Fa.Node := ⟨0, Ls.length, Fa.Link.zero⟩ :: Ls.flatMap fun L => L.map Fa.deep
theorem join_chain {Ls : List (List Fa.Node)} (h : ∀ L ∈ Ls, (Fa.build L).1 = 0) : (Fa.F.join (Fa.forest Ls) .nil).chain 0 = joinN Ls := by
  simp only [Fa.F.chain, List.append_nil, joinN]
  rw [Fa.forest_len h, show (0 : Int) + 1 = 1 from rfl, Fa.forest_chain h]
theorem join_lim {Ls : List (List Fa.Node)} (h : ∀ L ∈ Ls, (Fa.build L).1 = 0) : Fa.limits (joinN Ls) = decide (40 < (Fa.forest Ls).nodes + 1 ∨ 12 < (Fa.forest Ls).hgt) := by
  rw [← join_chain h, Fa.limits_chain (by simp), Bool.eq_iff_iff, decide_eq_true_eq, decide_eq_true_eq]
  simp only [Fa.F.nodes, Fa.F.hgt]
  omega
theorem joinE_lim {Ls : List (List Fa.Node)} (h : ∀ L ∈ Ls, (Fa.build L).1 = 0) (hl : Ls.length ≤ 8) : joinE (Fa.forest Ls) = if Fa.limits (joinN Ls) = true then 3 else 0 := by
  unfold joinE
  rw [join_lim h, Fa.forest_len h]
  by_cases hq : 40 < (Fa.forest Ls).nodes + 1 ∨ 12 < (Fa.forest Ls).hgt
  · rw [if_pos (Or.inr hq), if_pos (decide_eq_true hq)]
  · rw [if_neg (by omega), if_neg (by simpa using hq)]
theorem joinE_long {Ls : List (List Fa.Node)} (h : ∀ L ∈ Ls, (Fa.build L).1 = 0) (hl : 8 < Ls.length) : joinE (Fa.forest Ls) = 3 := by
  unfold joinE
  rw [Fa.forest_len h, if_pos (Or.inl hl)]
end Go.Proofs.YtgnhbccmdpkbiaaGreatDoor
namespace Go.Proofs.YtgnhbccmdpkbiaaGreatDoor
open Go.RowKit Go.Shelf

section
variable {α : Type} {P : Program} {S T : TypeId} {n b : Nat} {z : Value} {enc : α → List Value}
theorem appLsRw (E : ElT P S T n b z enc) {ops : Array Oper} {rest : List Oper} {o : Oper} {a : Act} {Q : Exit → Act → World → Prop} (w : World) (hgd : o.guard = none) (s x : Operand)
    (ho : o.op = .call { callee := .builtin .append, args := #[s, x], argTypes := #[S, S] })
    (B : Nat) (v : Value) (l m : List α) (hs : a.eval s = v) (hown : OwnL T n enc w B v l) (vx : Value) (hx : a.eval x = vx) (hr : ReadsL n enc w vx m)
    (hlen : l.length + m.length ≤ maxLen) (hby : (l.length + m.length) * b ≤ 140737488355328) (hbase : B ≤ w.heap.size)
    (h : ∀ v' w', OwnL T n enc w' B v' (l ++ m) → w.grownBy w' v.ownBlock → wpList P ops Q rest (a.put o.dst v') w') : wpList P ops Q (o :: rest) a w :=
  wpList_plain hgd fun _ hK => appLsR E w s x ho B v l m hs hown vx hx hr hlen hby hbase fun v' w' h1 h2 => hK _ _ (h v' w' h1 h2)
end
/-- A slice's value, by its three parts. -/
abbrev SlV := Option Addr × Nat × Nat
def valS (s : SlV) : Value := .slice s.1 s.2.1 s.2.2
def encS (s : SlV) : List Value := [valS s]
theorem elS : ElT Tryz.prog 39 22 1 24 (.slice none 0 0) encS :=
  ⟨Tryz.underlying39, by kernel_rfl, rfl, by decide, fun _ => rfl, fun x u hu => by simp [encS] at hu; subst hu; rfl⟩
/-- The slices us lie in v and read as the chains Ls. -/
structure Chains (w : World) (v : Value) (us : List SlV) (Ls : List (List Fa.Node)) : Prop where
  row : ReadsL 1 encS w v us
  len : us.length = Ls.length
  each : ∀ j (h1 : j < us.length) (h2 : j < Ls.length), ReadsL 6 encNode w (valS us[j]) Ls[j]
theorem Chains.below {w w' : World} {v : Value} {us : List SlV} {Ls : List (List Fa.Node)} (h : Chains w v us Ls) (hb : Below w.heap.size w w') : Chains w' v us Ls :=
  ⟨h.row.below hb, h.len, fun j h1 h2 => (h.each j h1 h2).below hb⟩
def RJoinPost (Ls : List (List Fa.Node)) (w : World) (e : Ending) (w' : World) : Prop :=
  (Ls.length = 0 → e = .returned (.tuple #[.slice none 0 0, I64 4])) ∧
  (8 < Ls.length → e = .returned (.tuple #[.slice none 0 0, I64 3])) ∧
  (∀ L, Ls = [L] → ∃ v', e = .returned (.tuple #[v', I64 0]) ∧ ReadsL 6 encNode w' v' L) ∧
  (1 < Ls.length → Ls.length ≤ 8 → Fa.limits (joinN Ls) = true → e = .returned (.tuple #[.slice none 0 0, I64 3])) ∧
  (1 < Ls.length → Ls.length ≤ 8 → Fa.limits (joinN Ls) = false → ∃ v', e = .returned (.tuple #[v', I64 0]) ∧ ReadsL 6 encNode w' v' (joinN Ls)) ∧ Below w.heap.size w w'
theorem flat_bound {Ls : List (List Fa.Node)} (h : ∀ L ∈ Ls, L.length ≤ 1000) : (Ls.flatMap fun L => L.map Fa.deep).length ≤ 1000 * Ls.length := by
  induction Ls with
  | nil => simp
  | cons L Ls ih =>
    rw [List.flatMap_cons, List.length_append, List.length_map, List.length_cons]
    have h1 := h L List.mem_cons_self
    have h2 := ih fun M hM => h M (List.mem_cons_of_mem _ hM)
    omega
theorem take_flat {Ls : List (List Fa.Node)} {q : Nat} (hq : q < Ls.length) : (Ls.take (q + 1)).flatMap (fun L => L.map Fa.deep) = ((Ls.take q).flatMap fun L => L.map Fa.deep) ++ Ls[q].map Fa.deep := by
  rw [List.take_succ_eq_append_getElem hq, List.flatMap_append, List.flatMap_cons, List.flatMap_nil, List.append_nil]
set_option maxHeartbeats 4000000 in
set_option maxRecDepth 100000 in
set_option linter.unusedSimpArgs false in
theorem rjoin_any (us : List SlV) (Ls : List (List Fa.Node)) (v : Value) (w : World) (h : Chains w v us Ls) (hb : ∀ L ∈ Ls, L.length ≤ 1000 ∧ ∀ y ∈ L, 0 ≤ y.depth ∧ y.depth ≤ 1000) (hn : Ls.length ≤ 100) :
    Calls Tryz.prog 19 #[v] w (RJoinPost Ls w) := by
  obtain ⟨h1, h2, h3⟩ := h
  by_cases h0 : Ls.length = 0
  · have HP : Hid (RJoinPost Ls w (.returned (.tuple #[.slice none 0 0, I64 4])) w) :=
      ⟨fun _ => rfl, fun h => absurd h (by omega), fun L e => absurd (congrArg List.length e) (by simp [h0]), fun h => absurd h (by omega), fun h => absurd h (by omega), Below.refl _ _⟩
    obtain ⟨a, cap, hv⟩ := h1.len
    rw [h2, h0] at hv
    subst hv
    clear h1 h2 h3 hb hn h0
    generalize RJoinPost Ls w = R at HP ⊢
    go_enter Tryz.func19, Tryz.ntmps19
    go_wp2
    exact HP.out
  obtain ⟨g, o, cap, hv, hg, hc⟩ := h1.form (fun e => by rw [e] at h2; exact h0 h2.symm)
  have hc' : ∀ j (hj : j < us.length), w.cell? ⟨g, o + j, none⟩ = some (valS us[j]) := fun j hj => by
    have := hc j hj 0 (valS us[j]) rfl
    simpa using this
  rw [h2] at hv
  subst hv
  clear hc h1
  obtain ⟨n, hn0⟩ : ∃ n, n = Ls.length := ⟨_, rfl⟩
  by_cases h8 : 8 < Ls.length
  · have HP : Hid (RJoinPost Ls w (.returned (.tuple #[.slice none 0 0, I64 3])) w) :=
      ⟨fun h => absurd h h0, fun _ => rfl, fun L e => absurd (congrArg List.length e) (by simp; omega), fun _ h => absurd h (by omega), fun _ h => absurd h (by omega), Below.refl _ _⟩
    rw [← hn0] at h8 h0 ⊢
    have e0 : ((n : Int) == 0) = false := by rw [beq_eq_false_iff_ne]; omega
    have e8 : decide ((8 : Int) < (n : Int)) = true := decide_eq_true (by omega)
    clear h2 h3 hb hn hn0 h0 h8 hc'
    generalize RJoinPost Ls w = R at HP ⊢
    go_enter Tryz.func19, Tryz.ntmps19
    go_wp2
    exact HP.out
  by_cases hone : Ls.length = 1
  · obtain ⟨L, rfl⟩ := List.length_eq_one_iff.1 hone
    obtain ⟨u, rfl⟩ := List.length_eq_one_iff.1 (h2.trans hone)
    have hL : ReadsL 6 encNode w (valS u) L := h3 0 (by simp) (by simp)
    have p0 : w.cell? ⟨g, o, none⟩ = some (valS u) := hc' 0 (by simp)
    have HP : Hid (RJoinPost [L] w (.returned (.tuple #[valS u, I64 0])) w) :=
      ⟨fun h => absurd h (by simp), fun h => absurd h (by simp), fun M e => ⟨valS u, rfl, by cases e; exact hL⟩, fun h => absurd h (by simp), fun h => absurd h (by simp), Below.refl _ _⟩
    generalize valS u = uv at hL p0 HP
    clear hL h3 hb hn hn0 h0 h8 hc'
    generalize RJoinPost [L] w = R at HP ⊢
    show Calls Tryz.prog 19 #[.slice (some ⟨g, o, none⟩) 1 cap] w R
    go_enter Tryz.func19, Tryz.ntmps19
    go_wp2
    exact HP.out
  have HP1 : Hid (∀ w', Fa.limits (joinN Ls) = true → Below w.heap.size w w' → RJoinPost Ls w (.returned (.tuple #[.slice none 0 0, I64 3])) w') := fun w' hq hb =>
    ⟨fun h => absurd h h0, fun h => absurd h h8, fun L e => absurd (congrArg List.length e) hone, fun _ _ _ => rfl, fun _ _ h => absurd (hq.symm.trans h) (by simp), hb⟩
  have HP2 : Hid (∀ v' w', Fa.limits (joinN Ls) = false → ReadsL 6 encNode w' v' (joinN Ls) → Below w.heap.size w w' → RJoinPost Ls w (.returned (.tuple #[v', I64 0])) w') := fun v' w' hq hr hb =>
    ⟨fun h => absurd h h0, fun h => absurd h h8, fun L e => absurd (congrArg List.length e) hone, fun _ _ h => absurd (h.symm.trans hq) (by simp), fun _ _ _ => ⟨v', rfl, hr⟩, hb⟩
  have HD : Hid (∀ j (h1 : j < us.length) (h2 : j < Ls.length) w', Below w.heap.size w w' → Calls Tryz.prog 46 #[valS us[j]] w' (DeepPost Ls[j] w')) := fun j q1 q2 w' hbw =>
    deeper_any (valS us[j]) Ls[j] w' ((h3 j q1 q2).below hbw) (by have := (hb _ (List.getElem_mem q2)).1; omega) (fun y hy => by have := (hb _ (List.getElem_mem q2)).2 y hy; omega)
  have HFB : Hid (∀ q, ((Ls.take q).flatMap fun L => L.map Fa.deep).length ≤ 1000 * Ls.length) := fun q => by
    have h1 := flat_bound (Ls := Ls.take q) (fun L hL => (hb L (List.mem_of_mem_take hL)).1)
    have h2 : (Ls.take q).length ≤ Ls.length := by rw [List.length_take]; omega
    omega
  have HLB : Hid (∀ q (h : q < Ls.length), Ls[q].length ≤ 1000) := fun q hq => (hb _ (List.getElem_mem hq)).1
  have HJ : Hid (joinN Ls = ⟨0, n, Fa.Link.zero⟩ :: (Ls.take n).flatMap fun L => L.map Fa.deep) := by
    show _ = _
    rw [hn0, List.take_length]; rfl
  have HN := Lib.hid hn0
  have HC := Lib.hid hc'
  have HU := Lib.hid h2
  have HE := Lib.hid hn
  rw [← hn0] at h8 h0 hone ⊢
  have e0 : ((n : Int) == 0) = false := by rw [beq_eq_false_iff_ne]; omega
  have e1 : ((n : Int) == 1) = false := by rw [beq_eq_false_iff_ne]; omega
  have e8 : decide ((8 : Int) < (n : Int)) = false := decide_eq_false (by omega)
  clear h2 h3 hb hn hn0 h0 h8 hc' hone
  generalize RJoinPost Ls w = R at HP1 HP2 ⊢
  go_enter Tryz.func19, Tryz.ntmps19
  go_wp2
  have hst : OwnL 52 6 encNode (w.alloc (.cells #[I64 0, I64 n, I64 0, .string ⟨#[]⟩, I64 0, I64 0] 52)) w.heap.size (.slice (some ⟨w.heap.size, 0, none⟩) 1 1) [⟨0, n, ⟨0, ⟨#[]⟩, 0, 0⟩⟩] := own_one w w.heap.size (Nat.le_refl _) ⟨0, n, ⟨0, ⟨#[]⟩, 0, 0⟩⟩
  have hBA : Below w.heap.size w (w.alloc (.cells #[I64 0, I64 n, I64 0, .string ⟨#[]⟩, I64 0, I64 0] 52)) := (Below.refl _ _).alloc (Nat.le_refl _) _
  have HST := Lib.hid hst
  have HBA := Lib.hid hBA
  clear hst hBA
  go_loopw [4, 5] (fun u i wr => ∃ q : Nat, q ≤ n ∧ i = .int .i64 q ∧ OwnL 52 6 encNode wr w.heap.size u (⟨0, n, Fa.Link.zero⟩ :: (Ls.take q).flatMap fun L => L.map Fa.deep) ∧ Below w.heap.size w wr) (fun _ i _ => n - (intOf i).toNat)
  case atStart => exact ⟨0, Nat.zero_le _, rfl, HST.out, HBA.out⟩
  case round =>
    obtain ⟨q, hq, rfl, ho, hbw⟩ := hrel
    by_cases hlt : q < n
    · have i1 : (q : Int) < (n : Int) := by omega
      have hq1 : q < us.length := by rw [HU.out, ← HN.out]; exact hlt
      have hq2 : q < Ls.length := by rw [← HN.out]; exact hlt
      have p0 : wr.cell? ⟨g, o + q, none⟩ = some (valS us[q]) := (hbw.cell (p := ⟨g, o + q, none⟩) hg).trans (HC.out q hq1)
      have HDq := Lib.hid (HD.out q hq1 hq2 wr hbw)
      have HT := Lib.hid (take_flat hq2)
      have hl1 : (⟨0, n, Fa.Link.zero⟩ :: (Ls.take q).flatMap fun L => L.map Fa.deep).length ≤ 100001 := by
        have a1 := HFB.out q
        have a2 := HE.out
        rw [List.length_cons]; omega
      have HL1 := Lib.hid hl1
      have HL2 := Lib.hid (HLB.out q hq2)
      have HO := Lib.hid ho
      have HW := Lib.hid hbw
      have HQ := Lib.hid hlt
      have hnb : n ≤ 100 := HN.out ▸ HE.out
      generalize valS us[q] = ui at p0 HDq
      generalize Ls[q] = Li at HDq HT HL2
      clear hq1 hq2 hl1 ho hbw hlt hq
      go_wp2_with (first | (go_at_call 46; refine HDq.out.mono ?_; rintro e w3 ⟨vd, rfl, hod, hx3⟩) | (at_builtin; refine appLsRw elN _ rfl _ _ rfl w.heap.size _ _ _ rfl (HO.out.below hx3) _ rfl (hod.reads encNode_len) (by have a1 := HL1.out; have a2 := HL2.out; rw [List.length_map]; unfold maxLen; omega) (by have a1 := HL1.out; have a2 := HL2.out; rw [List.length_map]; omega) (by have a1 := HW.out.size; have a2 := hx3.size; omega) ?_; rintro v4 w4 hown4 hgr4))
      case roundEnd =>
        refine ⟨⟨q + 1, HQ.out, by go_num, ?_, ?_⟩, by have := HQ.out; simp [intOf]; omega⟩
        · rw [HT.out]
          simpa using hown4
        · exact below_appL (HW.out.trans (hx3.mono HW.out.size)) (HO.out.below hx3) hgr4 (by have a1 := HW.out.size; have a2 := hx3.size; omega)
    · have hqe : q = n := by omega
      have i1 : ¬ (q : Int) < (n : Int) := by omega
      rw [hqe, ← HJ.out] at ho
      have hr6 := ho.reads encNode_len
      have HW := Lib.hid hbw
      have hl6 : (joinN Ls).length ≤ 4294967296 := by
        have a1 := HFB.out n
        have a2 := HE.out
        rw [HJ.out, List.length_cons]; omega
      cases hq : Fa.limits (joinN Ls) with
      | true =>
        have HLM := Lib.hid (limits_any _ _ _ hr6 hl6)
        rw [hq] at HLM
        have HR := Lib.hid (HP1.out _ hq HW.out)
        clear hr6 hl6 hq ho hqe hbw
        go_wp2_with (go_at_call 40; refine HLM.out.mono ?_; rintro e w7 ⟨rfl, rfl⟩)
        exact HR.out
      | false =>
        have HLM := Lib.hid (limits_any _ _ _ hr6 hl6)
        rw [hq] at HLM
        have HR := Lib.hid (HP2.out _ _ hq hr6 HW.out)
        clear hr6 hl6 hq ho hqe hbw
        go_wp2_with (go_at_call 40; refine HLM.out.mono ?_; rintro e w7 ⟨rfl, rfl⟩)
        exact HR.out
end Go.Proofs.YtgnhbccmdpkbiaaGreatDoor
