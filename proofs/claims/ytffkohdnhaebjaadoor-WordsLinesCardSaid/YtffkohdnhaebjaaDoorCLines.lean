/-
  The statement WordsLines, closed: its row and its card, over the walk of the law.
-/
import Derived.Test.YtffkohdnhaebjaaDoorCards
import Derived.Test.YtffkohdnhaebjaaDoorTie
import Derived.Test.YtffkohdnhaebjaaDoorWit
import Derived.Test.YtffkohdnhaebjaaDoorPost
import Derived.Test.YtffkohdnhaebjaaDoorLaw3
namespace Go.Proofs.YtffkohdnhaebjaaDoor.wordsLines
open Go.ChangeShapes Go.WideShapes Go.ChangeAt Go.ChangeMaps Go.RowKit Go.Shelf

set_option maxRecDepth 100000 in
theorem contract (H : Type) (enc : TypeId × Value → H) (W : World) (base : Nat) (args : Array Value) (ds gs : List (DataW H)) (before : List MemPlace)
    (hval : ∀ (j : Nat) t v, Tryd.f8.params[j]? = some t → args[j]? = some v → Value.okWide Tryd.prog W .any base t v)
    (hW : DataW.Whole enc Tryd.prog Tryd.f8.params.toList Rows.wordsLinesSpec.vars false W args.toList ds gs before) (hreach : (DataW.weightsEach Tryd.prog (Tryd.f8.params.toList) ds).all (· ≤ reachBytes) = true) (hL : laidMetH Tryd.prog Rows.wordsLinesRow.laid W) (hsh : W.ShapedOpen Tryd.prog) :
    Calls Tryd.prog 8 args W fun e W' => ∃ v, e = .returned v ∧ Rows.wordsLinesSpec.post enc Tryd.prog Tryd.f8 false true false false W args v W' := by
  have hE := env_of' hL hsh
  have hW' := hW
  obtain ⟨p, q, hA, hV, rfl, hfz, hnd⟩ := hW
  have hg : gs = [] := by
    cases gs with
    | nil => rfl
    | cons => exact hV.elim
  subst hg
  rw [Tryd.params8] at hA hval
  obtain ⟨v0, vs0, d0, ds0, p0, q0, ha0, hd0, hp0, h0, r0⟩ := trodAll_cons hA
  obtain ⟨v1, vs1, d1, ds1, p1, q1, ha1, hd1, hp1, h1, r1⟩ := trodAll_cons r0
  obtain ⟨v2, vs2, d2, ds2, p2, q2, ha2, hd2, hp2, h2, r2⟩ := trodAll_cons r1
  obtain ⟨hb0, hb1, hb2⟩ := trodAll_nil r2
  obtain rfl : args = #[v0, v1, v2] := by cases args; simp_all
  obtain rfl : ds = [d0, d1, d2] := by simp_all
  obtain ⟨s0, rfl, he0, _, hs0⟩ := open_string Tryd.underlying9 (hval 0 9 _ rfl rfl) h0
  have hz0 := reach_string (P := Tryd.prog) (i := 0) hreach (by rw [Tryd.params8]; rfl) (by rw [he0]; rfl)
  rw [← size_list] at hz0
  obtain ⟨s1, rfl, he1, _, hs1⟩ := open_string Tryd.underlying9 (hval 1 9 _ rfl rfl) h1
  have hz1 := reach_string (P := Tryd.prog) (i := 1) hreach (by rw [Tryd.params8]; rfl) (by rw [he1]; rfl)
  rw [← size_list] at hz1
  obtain ⟨b2, rfl, _, _⟩ := open_bool Tryd.underlying4 (hval 2 4 _ rfl rfl) h2
  refine (lawLines s0 s1 b2 W hE hz0 hz1).mono fun e W' ⟨he, hb⟩ => ?_
  subst he
  refine ⟨_, rfl, post_law (tb := 4) hW' rfl laidOut ?_ (by kernel_rfl) Tryd.underlying4 rfl rfl rfl hb⟩
  rw [Tryd.params8]
  intro t ht
  simp only [List.mem_cons, List.mem_nil_iff, or_false] at ht
  rcases ht with rfl | rfl | rfl
  · exact ⟨by kernel_rfl, by decide +kernel⟩
  · exact ⟨by kernel_rfl, by decide +kernel⟩
  · exact ⟨by kernel_rfl, by decide +kernel⟩

set_option maxRecDepth 100000 in
theorem reads (os : Os) {H : Type} (enc : TypeId × Value → H) : ∃ places, DataW.whole enc Tryd.prog ((laidWorld os).forCall (fun _ _ => 0) ⟨#[], #[.string ⟨#[]⟩, .string ⟨#[]⟩, .bool false], []⟩).memory Tryd.f8.params.toList Rows.wordsLinesSpec.vars false (#[.string ⟨#[]⟩, .string ⟨#[]⟩, .bool false] : Array Value).toList 8 = some ([.lit (.string []), .lit (.string []), .lit (.bool false)], [], places) :=
  ⟨[], by kernel_rfl⟩
set_option maxRecDepth 100000 in
theorem lifted (os : Os) (started : os.Started) (H : Type) (enc : TypeId × Value → H) (F : Stop.Interp) :
    ReturnsInHanded {} Tryd.checked os 8 .any ((OpenSpec.ofChange Rows.wordsLinesSpec).preRow enc Tryd.prog Tryd.f8 Rows.wordsLinesRow.domain false Rows.wordsLinesRow.laid) (((OpenSpec.ofChange Rows.wordsLinesSpec).at F).post enc Tryd.prog Tryd.f8 false true false false) := by
  obtain ⟨places, hx⟩ := reads os enc
  refine returnsInHanded_of_row (C := Tryd.checked) (s := (OpenSpec.ofChange Rows.wordsLinesSpec)) own started (by kernel_rfl) Tryd.func8
    (witness_row_at (enc := enc) (C := Tryd.checked) false (laidWorld os) #[.string ⟨#[]⟩, .string ⟨#[]⟩, .bool false] rfl (by kernel_rfl) (by kernel_rfl) (by kernel_rfl)
      (OpenSpec.preRow_of_cond 8 hx (by kernel_rfl) (fun k hk => by cases hk) (by kernel_rfl) (laidW_met os _))) ?_
  intro W base args ds gs before hval hW _ _ hreach hL hsh _
  have hvt : (OpenSpec.ofChange Rows.wordsLinesSpec).bare.plain.varTypes Tryd.checked.prog = [] := by kernel_rfl
  rw [hvt, List.append_nil] at hreach
  have hg : gs = [] := by
    obtain ⟨p, q, hA, hV, _⟩ := hW
    cases gs with
    | nil => rfl
    | cons => exact hV.elim
  subst hg
  rw [List.append_nil] at hreach
  exact contract H enc W base args ds [] before hval hW hreach hL hsh
theorem said : Rows.WordsLinesSaid :=
  OpenClaim.holds_of_cond 8 Tryd.f8 rfl rfl rfl rfl rfl rfl rfl ⟨rfl, rfl, rfl, rfl, rfl⟩ rfl rfl rfl rfl rfl (by kernel_rfl) Tryd.func8 (by kernel_rfl)
    (of_decide_eq_true (by kernel_rfl)) (by unfold Func.isWrapper; first | (rw [if_pos (by decide +kernel)]; kernel_rfl) | (rw [if_neg (by decide +kernel)]; exact ⟨rfl, rfl⟩))
    (fun os started H enc _ F => by rw [OpenClaim.pre_eq_preRow]; exact lifted os started H enc F)
theorem plain (f : FuncId) (fn : Func) (hf : Tryd.pinned.checked.prog.funcNamed "spillway/spillwaylaw01.WordsLines" = some f) (hfn : Tryd.pinned.checked.prog.funcs[f]? = some fn) :
    true = Tryd.pinned.checked.prog.looks [] ∧ ∀ (j : Nat) t, fn.params[j]? = some t → Tryd.pinned.checked.prog.wantsStandIn t = false := by
  obtain rfl : f = 8 := Option.some.inj ((show Tryd.prog.funcNamed "spillway/spillwaylaw01.WordsLines" = some 8 by kernel_rfl).symm.trans hf) |>.symm
  obtain rfl : fn = Tryd.f8 := (Option.some.inj (Tryd.func8.symm.trans hfn)).symm
  refine ⟨by kernel_rfl, fun j t ht => ?_⟩
  rw [Tryd.params8] at ht
  have hm := Array.mem_of_getElem? ht
  simp only [List.mem_toArray, List.mem_cons, List.mem_nil_iff, or_false] at hm
  rcases hm with rfl | rfl | rfl
  · exact (show Tryd.prog.wantsStandIn 9 = false by kernel_rfl)
  · exact (show Tryd.prog.wantsStandIn 9 = false by kernel_rfl)
  · exact (show Tryd.prog.wantsStandIn 4 = false by kernel_rfl)
/-- THE CARD. -/
theorem card : Rows.WordsLinesCardSaid :=
  Claim7.holds_tied_plain_at .later [] _ _ _ _ said (fun _ h => by cases h) (by kernel_rfl) (fun _ h => by cases h) wordsLines_row_tie rfl ⟨rfl, rfl⟩ (by kernel_rfl) rfl plain (by kernel_rfl)
end Go.Proofs.YtffkohdnhaebjaaDoor.wordsLines
