/-
  The statement WordsInverse, closed: its row and its card, over the walk of the law.
-/
import Derived.Test.YtffkohdnhaebjaaGreatDoorCards
import Derived.Test.YtffkohdnhaebjaaGreatDoorTie
import Derived.Test.YtffkohdnhaebjaaGreatDoorWit
import Derived.Test.YtffkohdnhaebjaaGreatDoorPost
import Derived.Test.YtffkohdnhaebjaaGreatDoorOpenF
import Derived.Test.YtffkohdnhaebjaaGreatDoorOpenI
import Derived.Test.YtffkohdnhaebjaaGreatDoorLaw6
import Derived.Test.YtffkohdnhaebjaaGreatDoorEnvP
namespace Go.Proofs.YtffkohdnhaebjaaGreatDoor.wordsInverse
open Go.ChangeShapes Go.WideShapes Go.ChangeAt Go.ChangeMaps Go.RowKit Go.Shelf

set_option maxRecDepth 100000 in
theorem contract (H : Type) (enc : TypeId × Value → H) (W : World) (base : Nat) (args : Array Value) (ds gs : List (DataW H)) (before : List MemPlace)
    (hval : ∀ (j : Nat) t v, Tryz.f5.params[j]? = some t → args[j]? = some v → Value.okWide Tryz.prog W .any base t v)
    (hW : DataW.Whole enc Tryz.prog Tryz.f5.params.toList Rows.wordsInverseSpec.vars false W args.toList ds gs before) (hreach : (DataW.weightsEach Tryz.prog (Tryz.f5.params.toList) ds).all (· ≤ reachBytes) = true) (hL : laidMetH Tryz.prog Rows.wordsInverseRow.laid W) (hsh : W.ShapedOpen Tryz.prog) :
    Calls Tryz.prog 5 args W fun e W' => ∃ v, e = .returned v ∧ Rows.wordsInverseSpec.post enc Tryz.prog Tryz.f5 false true false false W args v W' := by
  have hE := envP_of hL hsh
  have hW' := hW
  obtain ⟨p, q, hA, hV, rfl, hfz, hnd⟩ := hW
  have hg : gs = [] := by
    cases gs with
    | nil => rfl
    | cons => exact hV.elim
  subst hg
  rw [Tryz.params5] at hA hval
  obtain ⟨v0, vs0, d0, ds0, p0, q0, ha0, hd0, hp0, h0, r0⟩ := trodAll_cons hA
  obtain ⟨v1, vs1, d1, ds1, p1, q1, ha1, hd1, hp1, h1, r1⟩ := trodAll_cons r0
  obtain ⟨v2, vs2, d2, ds2, p2, q2, ha2, hd2, hp2, h2, r2⟩ := trodAll_cons r1
  obtain ⟨hb0, hb1, hb2⟩ := trodAll_nil r2
  obtain rfl : args = #[v0, v1, v2] := by cases args; simp_all
  obtain rfl : ds = [d0, d1, d2] := by simp_all
  obtain ⟨s0, rfl, he0, _, hs0⟩ := open_string Tryz.underlying9 (hval 0 9 _ rfl rfl) h0
  have hz0 := reach_string (P := Tryz.prog) (i := 0) hreach (by rw [Tryz.params5]; rfl) (by rw [he0]; rfl)
  rw [← size_list] at hz0
  obtain ⟨l1, hr1, hx1⟩ := open_fields (hval 1 34 _ rfl rfl) h1
  have hz1 := reach_fields (i := 1) hreach (by rw [Tryz.params5]; rfl) rfl hx1
  obtain ⟨u2, l2, n2, dl2, dn2, rfl, hr2, hw2, rfl, hx2⟩ := open_numbers (hval 2 39 _ rfl rfl) h2
  have hz2 := reach_numbers (i := 2) hreach (by rw [Tryz.params5]; rfl) rfl hx2
  obtain ⟨hi2, hj2⟩ := wf_i64 hw2
  refine (lawInverse s0 v1 l1 u2 l2 n2 W hE ⟨hr1, hz1⟩ ⟨hr2, hz2⟩ hi2 hj2 hz0).mono fun e W' ⟨he, hb⟩ => ?_
  subst he
  refine ⟨_, rfl, post_law (tb := 4) hW' rfl laidOut ?_ (by kernel_rfl) Tryz.underlying4 rfl rfl rfl hb⟩
  rw [Tryz.params5]
  intro t ht
  simp only [List.mem_cons, List.mem_nil_iff, or_false] at ht
  rcases ht with rfl | rfl | rfl
  · exact ⟨by kernel_rfl, by decide +kernel⟩
  · exact ⟨by kernel_rfl, by decide +kernel⟩
  · exact ⟨by kernel_rfl, by decide +kernel⟩

set_option maxRecDepth 100000 in
theorem reads (os : Os) {H : Type} (enc : TypeId × Value → H) : ∃ places, DataW.whole enc Tryz.prog ((laidWorld os).forCall (fun _ _ => 0) ⟨#[], #[.string ⟨#[]⟩, .slice none 0 0, .agg #[.slice none 0 0, .int .i64 0]], []⟩).memory Tryz.f5.params.toList Rows.wordsInverseSpec.vars false (#[.string ⟨#[]⟩, .slice none 0 0, .agg #[.slice none 0 0, .int .i64 0]] : Array Value).toList 8 = some ([.lit (.string []), .nil, .agg [.nil, .lit (.int .i64 0)]], [], places) :=
  ⟨[], by kernel_rfl⟩
set_option maxRecDepth 100000 in
theorem lifted (os : Os) (started : os.Started) (H : Type) (enc : TypeId × Value → H) (F : Stop.Interp) :
    ReturnsInHanded {} Tryz.checked os 5 .any ((OpenSpec.ofChange Rows.wordsInverseSpec).preRow enc Tryz.prog Tryz.f5 Rows.wordsInverseRow.domain false Rows.wordsInverseRow.laid) (((OpenSpec.ofChange Rows.wordsInverseSpec).at F).post enc Tryz.prog Tryz.f5 false true false false) := by
  obtain ⟨places, hx⟩ := reads os enc
  refine returnsInHanded_of_row (C := Tryz.checked) (s := (OpenSpec.ofChange Rows.wordsInverseSpec)) own started (by kernel_rfl) Tryz.func5
    (witness_row_at (enc := enc) (C := Tryz.checked) false (laidWorld os) #[.string ⟨#[]⟩, .slice none 0 0, .agg #[.slice none 0 0, .int .i64 0]] rfl (by kernel_rfl) (by kernel_rfl) (by kernel_rfl)
      (OpenSpec.preRow_of_cond 8 hx (by kernel_rfl) (fun k hk => by cases hk) (by kernel_rfl) (laidW_met os _))) ?_
  intro W base args ds gs before hval hW _ _ hreach hL hsh _
  have hvt : (OpenSpec.ofChange Rows.wordsInverseSpec).bare.plain.varTypes Tryz.checked.prog = [] := by kernel_rfl
  rw [hvt, List.append_nil] at hreach
  have hg : gs = [] := by
    obtain ⟨p, q, hA, hV, _⟩ := hW
    cases gs with
    | nil => rfl
    | cons => exact hV.elim
  subst hg
  rw [List.append_nil] at hreach
  exact contract H enc W base args ds [] before hval hW hreach hL hsh
theorem said : Rows.WordsInverseSaid :=
  OpenClaim.holds_of_cond 5 Tryz.f5 rfl rfl rfl rfl rfl rfl rfl ⟨rfl, rfl, rfl, rfl, rfl⟩ rfl rfl rfl rfl rfl (by kernel_rfl) Tryz.func5 (by kernel_rfl)
    (of_decide_eq_true (by kernel_rfl)) (by unfold Func.isWrapper; first | (rw [if_pos (by decide +kernel)]; kernel_rfl) | (rw [if_neg (by decide +kernel)]; exact ⟨rfl, rfl⟩))
    (fun os started H enc _ F => by rw [OpenClaim.pre_eq_preRow]; exact lifted os started H enc F)
theorem plain (f : FuncId) (fn : Func) (hf : Tryz.pinned.checked.prog.funcNamed "spillway/spillwaylaw01.WordsInverse" = some f) (hfn : Tryz.pinned.checked.prog.funcs[f]? = some fn) :
    true = Tryz.pinned.checked.prog.looks [] ∧ ∀ (j : Nat) t, fn.params[j]? = some t → Tryz.pinned.checked.prog.wantsStandIn t = false := by
  obtain rfl : f = 5 := Option.some.inj ((show Tryz.prog.funcNamed "spillway/spillwaylaw01.WordsInverse" = some 5 by kernel_rfl).symm.trans hf) |>.symm
  obtain rfl : fn = Tryz.f5 := (Option.some.inj (Tryz.func5.symm.trans hfn)).symm
  refine ⟨by kernel_rfl, fun j t ht => ?_⟩
  rw [Tryz.params5] at ht
  have hm := Array.mem_of_getElem? ht
  simp only [List.mem_toArray, List.mem_cons, List.mem_nil_iff, or_false] at hm
  rcases hm with rfl | rfl | rfl
  · exact (show Tryz.prog.wantsStandIn 9 = false by kernel_rfl)
  · exact (show Tryz.prog.wantsStandIn 34 = false by kernel_rfl)
  · exact (show Tryz.prog.wantsStandIn 39 = false by kernel_rfl)
/-- THE CARD. -/
theorem card : Rows.WordsInverseCardSaid :=
  Claim7.holds_tied_plain_at .later [] _ _ _ _ said (fun _ h => by cases h) (by kernel_rfl) (fun _ h => by cases h) wordsInverse_row_tie rfl ⟨rfl, rfl⟩ (by kernel_rfl) rfl plain (by kernel_rfl)
end Go.Proofs.YtffkohdnhaebjaaGreatDoor.wordsInverse
