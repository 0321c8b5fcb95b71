/-
  The statement FaultsKnown, closed: its row and its card, over the walk of the law.
-/
import Derived.Test.YtgnhbccmdpkbiaaGreatDoorCards
import Derived.Test.YtgnhbccmdpkbiaaGreatDoorTie
import Derived.Test.YtgnhbccmdpkbiaaGreatDoorFaWit
import Derived.Test.YtgnhbccmdpkbiaaGreatDoorPost
import Derived.Test.YtgnhbccmdpkbiaaGreatDoorFaL7
import Derived.Test.YtgnhbccmdpkbiaaGreatDoorFaWitT
namespace Go.Proofs.YtgnhbccmdpkbiaaGreatDoor.faultsKnown
open Go.ChangeShapes Go.WideShapes Go.ChangeAt Go.ChangeMaps Go.RowKit Go.Shelf

set_option maxRecDepth 100000 in
theorem contract (H : Type) (enc : TypeId × Value → H) (W : World) (base : Nat) (args : Array Value) (ds gs : List (DataW H)) (before : List MemPlace)
    (hval : ∀ (j : Nat) t v, Tryz.f10.params[j]? = some t → args[j]? = some v → Value.okWide Tryz.prog W .any base t v)
    (hW : DataW.Whole enc Tryz.prog Tryz.f10.params.toList Rows.faultsKnownSpec.vars false W args.toList ds gs before) (hreach : (DataW.weightsEach Tryz.prog (Tryz.f10.params.toList) ds).all (· ≤ reachBytes) = true) (hL : laidMetH Tryz.prog Rows.faultsKnownRow.laid W) (hsh : W.ShapedOpen Tryz.prog) :
    Calls Tryz.prog 10 args W fun e W' => ∃ v, e = .returned v ∧ Rows.faultsKnownSpec.post enc Tryz.prog Tryz.f10 false true false false W args v W' := by
  have hE := env_ofT' hL hsh
  have hW' := hW
  obtain ⟨p, q, hA, hV, rfl, hfz, hnd⟩ := hW
  have hg : gs = [] := by
    cases gs with
    | nil => rfl
    | cons => exact hV.elim
  subst hg
  rw [Tryz.params10] at hA hval
  obtain ⟨hb0, hb1, hb2⟩ := trodAll_nil hA
  obtain rfl : args = #[] := by cases args; simp_all
  obtain rfl : ds = [] := by simp_all
  refine (lawKnown  W hE ).mono fun e W' ⟨he, hb⟩ => ?_
  subst he
  refine ⟨_, rfl, post_law (tb := 4) hW' rfl laidOut ?_ (by kernel_rfl) Tryz.underlying4 rfl rfl rfl hb⟩
  rw [Tryz.params10]
  intro t ht
  simp at ht

set_option maxRecDepth 100000 in
theorem reads (os : Os) {H : Type} (enc : TypeId × Value → H) : ∃ places, DataW.whole enc Tryz.prog ((laidWorldT os).forCall (fun _ _ => 0) ⟨#[], #[], []⟩).memory Tryz.f10.params.toList Rows.faultsKnownSpec.vars false (#[] : Array Value).toList 8 = some ([], [], places) :=
  ⟨[], by kernel_rfl⟩
set_option maxRecDepth 100000 in
theorem lifted (os : Os) (started : os.Started) (H : Type) (enc : TypeId × Value → H) (F : Stop.Interp) :
    ReturnsInHanded {} Tryz.checked os 10 .any ((OpenSpec.ofChange Rows.faultsKnownSpec).preRow enc Tryz.prog Tryz.f10 Rows.faultsKnownRow.domain false Rows.faultsKnownRow.laid) (((OpenSpec.ofChange Rows.faultsKnownSpec).at F).post enc Tryz.prog Tryz.f10 false true false false) := by
  obtain ⟨places, hx⟩ := reads os enc
  refine returnsInHanded_of_row (C := Tryz.checked) (s := (OpenSpec.ofChange Rows.faultsKnownSpec)) own started (by kernel_rfl) Tryz.func10
    (witness_row_at (enc := enc) (C := Tryz.checked) false (laidWorldT os) #[] rfl (by kernel_rfl) (by kernel_rfl) (by kernel_rfl)
      (OpenSpec.preRow_of_cond 8 hx (by kernel_rfl) (fun k hk => by cases hk) (by kernel_rfl) (laidWT_met os _))) ?_
  intro W base args ds gs before hval hW _ _ hreach hL hsh _
  have hvt : (OpenSpec.ofChange Rows.faultsKnownSpec).bare.plain.varTypes Tryz.checked.prog = [] := by kernel_rfl
  rw [hvt, List.append_nil] at hreach
  have hg : gs = [] := by
    obtain ⟨p, q, hA, hV, _⟩ := hW
    cases gs with
    | nil => rfl
    | cons => exact hV.elim
  subst hg
  rw [List.append_nil] at hreach
  exact contract H enc W base args ds [] before hval hW hreach hL hsh
theorem said : Rows.FaultsKnownSaid :=
  OpenClaim.holds_of_cond 10 Tryz.f10 rfl rfl rfl rfl rfl rfl rfl ⟨rfl, rfl, rfl, rfl, rfl⟩ rfl rfl rfl rfl rfl (by kernel_rfl) Tryz.func10 (by kernel_rfl)
    (of_decide_eq_true (by kernel_rfl)) (by unfold Func.isWrapper; first | (rw [if_pos (by decide +kernel)]; kernel_rfl) | (rw [if_neg (by decide +kernel)]; exact ⟨rfl, rfl⟩))
    (fun os started H enc _ F => by rw [OpenClaim.pre_eq_preRow]; exact lifted os started H enc F)
theorem plain (f : FuncId) (fn : Func) (hf : Tryz.pinned.checked.prog.funcNamed "spillway/spillwaylaw03.FaultsKnown" = some f) (hfn : Tryz.pinned.checked.prog.funcs[f]? = some fn) :
    true = Tryz.pinned.checked.prog.looks [] ∧ ∀ (j : Nat) t, fn.params[j]? = some t → Tryz.pinned.checked.prog.wantsStandIn t = false := by
  obtain rfl : f = 10 := Option.some.inj ((show Tryz.prog.funcNamed "spillway/spillwaylaw03.FaultsKnown" = some 10 by kernel_rfl).symm.trans hf) |>.symm
  obtain rfl : fn = Tryz.f10 := (Option.some.inj (Tryz.func10.symm.trans hfn)).symm
  refine ⟨by kernel_rfl, fun j t ht => ?_⟩
  rw [Tryz.params10] at ht
  have hm := Array.mem_of_getElem? ht
  simp at hm
/-- THE CARD. -/
theorem card : Rows.FaultsKnownCardSaid :=
  Claim7.holds_tied_plain_at .later [] _ _ _ _ said (fun _ h => by cases h) (by kernel_rfl) (fun _ h => by cases h) faultsKnown_row_tie rfl ⟨rfl, rfl⟩ (by kernel_rfl) rfl plain (by kernel_rfl)
end Go.Proofs.YtgnhbccmdpkbiaaGreatDoor.faultsKnown
