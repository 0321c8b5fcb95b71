/-
  The statement ModelEnds, closed: for every input the law returns true, and the input reads as it did. No condition.
-/
import Derived.Test.YtaicmiadgnpimaaRows
import Derived.Test.YtaicmiadgnpimaaMdOp
import Derived.Test.YtaicmiadgnpimaaMdL8
namespace Go.Proofs.Ytaicmiadgnpimaa.modelEnds
open Go.ChangeShapes Go.WideShapes Go.ChangeAt Go.ChangeMaps Go.RowKit

set_option maxRecDepth 100000 in
theorem contract (H : Type) (enc : TypeId × Value → H) (W : World) (base : Nat) (args : Array Value) (ds gs : List (DataW H)) (before : List MemPlace)
 (hval : ∀ (j : Nat) t v, Try.f6.params[j]? = some t → args[j]? = some v → Value.okWide Try.prog W .any base t v)
 (hW : DataW.Whole enc Try.prog Try.f6.params.toList Rows.modelEndsSpec.vars false W args.toList ds gs before) :
 Calls Try.prog 6 args W fun e W' => ∃ v, e = .returned v ∧ Rows.modelEndsSpec.post enc Try.prog Try.f6 false true false false W args v W' := by
 have hW' := hW
 obtain ⟨p, q, hA, hV, rfl, hfz, hnd⟩ := hW
 have hg : gs = [] := by
  cases gs with
  | nil => rfl
  | cons => exact hV.elim
 subst hg
 rw [Try.params6] at hA hval
 obtain ⟨v0, vs0, d0, ds0, p0, q0, ha0, hd0, hp0, h0, r0⟩ := trodAll_cons hA
 obtain ⟨v1, vs1, d1, ds1, p1, q1, ha1, hd1, hp1, h1, r1⟩ := trodAll_cons r0
 obtain ⟨v2, vs2, d2, ds2, p2, q2, ha2, hd2, hp2, h2, r2⟩ := trodAll_cons r1
 obtain ⟨hb0, hb1, hb2⟩ := trodAll_nil r2
 obtain rfl : args = #[v0, v1, v2] := by cases args; simp_all
 obtain rfl : ds = [d0, d1, d2] := by simp_all
 obtain ⟨u0, l0, rfl, hr0⟩ := open_lims (hval 0 22 _ rfl rfl) h0
 obtain ⟨u1, l1, rfl, hr1, hx1⟩ := open_acts (hval 1 23 _ rfl rfl) h1
 obtain ⟨n2, rfl, _, _, hw2⟩ := open_int Try.underlying62 (hval 2 62 _ rfl rfl) h2
 refine (ends_all l0 u0 l1 u1 n2 W hr0 hr1 hx1 hw2).mono fun e W' ⟨he, hb⟩ => ?_
 subst he
 refine ⟨_, rfl, post_law (tb := 4) hW' rfl laidOut ?_ (by kernel_rfl) Try.underlying4 rfl rfl rfl hb⟩
 rw [Try.params6]
 intro t ht
 simp only [List.mem_cons, List.mem_nil_iff, or_false] at ht
 rcases ht with rfl | rfl | rfl
 · exact ⟨by kernel_rfl, by decide +kernel⟩
 · exact ⟨by kernel_rfl, by decide +kernel⟩
 · exact ⟨by kernel_rfl, by decide +kernel⟩

noncomputable def w0 (os : Os) : World := World.holding Try.prog os ⟨#[], #[], []⟩
set_option maxRecDepth 100000 in
theorem reads (os : Os) {H : Type} (enc : TypeId × Value → H) : ∃ places, DataW.whole enc Try.prog ((w0 os).forCall (fun _ _ => 0) ⟨#[], #[.slice none 0 0, .slice none 0 0, .int .u16 0], []⟩).memory Try.f6.params.toList Rows.modelEndsSpec.vars false (#[.slice none 0 0, .slice none 0 0, .int .u16 0] : Array Value).toList 8 = some ([.nil, .nil, .lit (.int .u16 0)], [], places) :=
 ⟨[], by kernel_rfl⟩
set_option maxRecDepth 100000 in
theorem lifted (os : Os) (started : os.Started) (H : Type) (enc : TypeId × Value → H) (F : Stop.Interp) :
 ReturnsInHanded {} Try.checked os 6 .any ((OpenSpec.ofChange Rows.modelEndsSpec).preRow enc Try.prog Try.f6 Rows.modelEndsRow.domain false Rows.modelEndsRow.laid) (((OpenSpec.ofChange Rows.modelEndsSpec).at F).post enc Try.prog Try.f6 false true false false) := by
 obtain ⟨places, hx⟩ := reads os enc
 refine returnsInHanded_of_row (C := Try.checked) (s := (OpenSpec.ofChange Rows.modelEndsSpec)) own started (by kernel_rfl) Try.func6
  (witness_row_at (enc := enc) (C := Try.checked) false (w0 os) #[.slice none 0 0, .slice none 0 0, .int .u16 0] rfl (by kernel_rfl) (by kernel_rfl) (by kernel_rfl)
   (OpenSpec.preRow_of_cond 8 hx (by kernel_rfl) (fun k hk => by cases hk) (by kernel_rfl) ⟨[], rfl, List.nodup_nil, fun _ _ h => by cases h⟩)) ?_
 intro W base args ds gs before hval hW _ _ _ _ _ _
 exact contract H enc W base args ds gs before hval hW
/-- THE STATEMENT. -/
theorem said : Rows.ModelEndsSaid :=
 OpenClaim.holds_of_cond 6 Try.f6 rfl rfl rfl rfl rfl rfl rfl ⟨rfl, rfl, rfl, rfl, rfl⟩ rfl rfl rfl rfl rfl (by kernel_rfl) Try.func6 (by kernel_rfl)
  (of_decide_eq_true (by kernel_rfl)) (by unfold Func.isWrapper; first | (rw [if_pos (by decide +kernel)]; kernel_rfl) | (rw [if_neg (by decide +kernel)]; exact ⟨rfl, rfl⟩))
  (fun os started H enc _ F => by rw [OpenClaim.pre_eq_preRow]; exact lifted os started H enc F)
#print axioms said
end Go.Proofs.Ytaicmiadgnpimaa.modelEnds
