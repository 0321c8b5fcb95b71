/-
  No cell of these rows narrows 'for every input' (looked for: loops, veiled, ifaces, maps, wideKeys, modest, calm, conditions, laid).
  DERIVED. THE GIVEN ROWS OF THIS SEAT. 5 by the template 'for every input the law returns true; each argument reads behind the call as it read before'; 0 by the template 'total and deterministic' (their statements: YtaicmiadgnpimaaTotals.lean).
  GIVEN WITH THE SEED: the statements are not yours to turn. If you find one false, say at which input.
  Laid BY PROGRAM, IN A SANDBOX (cutbox-rows.mjs): the forced cells as the released guide's own fill.sh prints them over the translation bccdff98798732bd… (all of the seat's roots in one cut). By AI agents, Wed Nov 11 2026. No macro, syntax, notation, axiom, sorry.
-/
import Derived.Test.YtaicmiadgnpimaaChecked
import GoSem.Claim
import GoSem.ClaimJoined
import GoSem.ClaimMapViews
import Derived.JoinedTies
import Derived.KernelRfl
namespace Go.Proofs.Ytaicmiadgnpimaa
/- THE CELL 'sum', in the pinned program and in every row, IS THE sha256 OF THE DUMP (.gsa) THAT YtaicmiadgnpimaaProg.lean LOADS. Nothing in Lean hashes anything: it is a label: what it is worth is what the hold of that sum in a sandbox is worth. -/
noncomputable def Try.pinned : Pinned := { name := "ytaicmiadgnpimaa", sum := "bccdff98798732bd7f807582f1a2136f6bbfb2a805e81608632ac6a6fe516a39", checked := Try.checked }
namespace Rows
def none {H : Type} : Left H := { results := [], args := [] }

/-- 'spillwaylaw26.ModelLimits': WHATEVER THE INPUT: true; the input reads as it did. -/
def modelLimitsSpec : ChangeSpec := { name := "modelLimits", fn := fun _ => fun
  | [d1, d2] => { results := [.lit (.bool true)], args := [d1, d2] }
  | _ => none }
def modelLimitsRow : OpenClaim := { program := "ytaicmiadgnpimaa", sum := "bccdff98798732bd7f807582f1a2136f6bbfb2a805e81608632ac6a6fe516a39", func := "spillway/spillwaylaw26.ModelLimits", spec := "modelLimits", inPlace := ["slices.overlaps[spillway/api.MdLease]", "slices.overlaps[spillway/api.MdDial]"], unfollowed := true, recurses := true, apart := false }
def ModelLimitsSaid : Prop := modelLimitsRow.holds Try.pinned (OpenSpec.ofChange modelLimitsSpec)

/-- ITS FALSE NEIGHBOUR: 'it returns false'. Refute it at one input. -/
def modelLimitsWrong : ChangeSpec := { name := "modelLimits", fn := fun _ => fun
  | [d1, d2] => { results := [.lit (.bool false)], args := [d1, d2] }
  | _ => none }
def ModelLimitsWrongFalsely : Prop := modelLimitsRow.holds Try.pinned (OpenSpec.ofChange modelLimitsWrong)

/-- 'spillwaylaw26.ModelOrder': WHATEVER THE INPUT: true; the input reads as it did. -/
def modelOrderSpec : ChangeSpec := { name := "modelOrder", fn := fun _ => fun
  | [d1, d2] => { results := [.lit (.bool true)], args := [d1, d2] }
  | _ => none }
def modelOrderRow : OpenClaim := { program := "ytaicmiadgnpimaa", sum := "bccdff98798732bd7f807582f1a2136f6bbfb2a805e81608632ac6a6fe516a39", func := "spillway/spillwaylaw26.ModelOrder", spec := "modelOrder", inPlace := ["slices.overlaps[spillway/api.MdLease]", "slices.overlaps[spillway/api.MdDial]"], unfollowed := true, recurses := true, apart := false }
def ModelOrderSaid : Prop := modelOrderRow.holds Try.pinned (OpenSpec.ofChange modelOrderSpec)

/-- ITS FALSE NEIGHBOUR: 'it returns false'. Refute it at one input. -/
def modelOrderWrong : ChangeSpec := { name := "modelOrder", fn := fun _ => fun
  | [d1, d2] => { results := [.lit (.bool false)], args := [d1, d2] }
  | _ => none }
def ModelOrderWrongFalsely : Prop := modelOrderRow.holds Try.pinned (OpenSpec.ofChange modelOrderWrong)

/-- 'spillwaylaw26.ModelPicks': WHATEVER THE INPUT: true; the input reads as it did. -/
def modelPicksSpec : ChangeSpec := { name := "modelPicks", fn := fun _ => fun
  | [d1, d2] => { results := [.lit (.bool true)], args := [d1, d2] }
  | _ => none }
def modelPicksRow : OpenClaim := { program := "ytaicmiadgnpimaa", sum := "bccdff98798732bd7f807582f1a2136f6bbfb2a805e81608632ac6a6fe516a39", func := "spillway/spillwaylaw26.ModelPicks", spec := "modelPicks", inPlace := ["slices.overlaps[spillway/api.MdLease]", "slices.overlaps[spillway/api.MdDial]"], unfollowed := true, recurses := true, apart := false }
def ModelPicksSaid : Prop := modelPicksRow.holds Try.pinned (OpenSpec.ofChange modelPicksSpec)

/-- ITS FALSE NEIGHBOUR: 'it returns false'. Refute it at one input. -/
def modelPicksWrong : ChangeSpec := { name := "modelPicks", fn := fun _ => fun
  | [d1, d2] => { results := [.lit (.bool false)], args := [d1, d2] }
  | _ => none }
def ModelPicksWrongFalsely : Prop := modelPicksRow.holds Try.pinned (OpenSpec.ofChange modelPicksWrong)

/-- 'spillwaylaw26.ModelEnds': WHATEVER THE INPUT: true; the input reads as it did. -/
def modelEndsSpec : ChangeSpec := { name := "modelEnds", fn := fun _ => fun
  | [d1, d2, d3] => { results := [.lit (.bool true)], args := [d1, d2, d3] }
  | _ => none }
def modelEndsRow : OpenClaim := { program := "ytaicmiadgnpimaa", sum := "bccdff98798732bd7f807582f1a2136f6bbfb2a805e81608632ac6a6fe516a39", func := "spillway/spillwaylaw26.ModelEnds", spec := "modelEnds", inPlace := ["slices.overlaps[spillway/api.MdLease]", "slices.overlaps[spillway/api.MdDial]"], unfollowed := true, recurses := true, apart := false }
def ModelEndsSaid : Prop := modelEndsRow.holds Try.pinned (OpenSpec.ofChange modelEndsSpec)

/-- ITS FALSE NEIGHBOUR: 'it returns false'. Refute it at one input. -/
def modelEndsWrong : ChangeSpec := { name := "modelEnds", fn := fun _ => fun
  | [d1, d2, d3] => { results := [.lit (.bool false)], args := [d1, d2, d3] }
  | _ => none }
def ModelEndsWrongFalsely : Prop := modelEndsRow.holds Try.pinned (OpenSpec.ofChange modelEndsWrong)

/-- 'spillwaylaw26.ModelSplits': WHATEVER THE INPUT: true; the input reads as it did. -/
def modelSplitsSpec : ChangeSpec := { name := "modelSplits", fn := fun _ => fun
  | [d1, d2, d3] => { results := [.lit (.bool true)], args := [d1, d2, d3] }
  | _ => none }
def modelSplitsRow : OpenClaim := { program := "ytaicmiadgnpimaa", sum := "bccdff98798732bd7f807582f1a2136f6bbfb2a805e81608632ac6a6fe516a39", func := "spillway/spillwaylaw26.ModelSplits", spec := "modelSplits", inPlace := ["slices.overlaps[spillway/api.MdLease]", "slices.overlaps[spillway/api.MdDial]"], unfollowed := true, recurses := true, apart := false }
def ModelSplitsSaid : Prop := modelSplitsRow.holds Try.pinned (OpenSpec.ofChange modelSplitsSpec)

/-- ITS FALSE NEIGHBOUR: 'it returns false'. Refute it at one input. -/
def modelSplitsWrong : ChangeSpec := { name := "modelSplits", fn := fun _ => fun
  | [d1, d2, d3] => { results := [.lit (.bool false)], args := [d1, d2, d3] }
  | _ => none }
def ModelSplitsWrongFalsely : Prop := modelSplitsRow.holds Try.pinned (OpenSpec.ofChange modelSplitsWrong)

/- THE SECOND FORM. 'bulk': how many values and letters a reading holds, each counted each time it is reached (what is shared counts as often as it is met; a slice's spare places count too). A statement '..UptoSaid' is the law's where the arguments, and the package variables that the reading takes, are together of bulk at most 1048576: NARROWER than '..Said'. Prove '..Said' where nothing that the law and all that it calls make is longer than what came in: it says more and counts as full. Else prove '..UptoSaid'. A law counts once. -/
mutual
def uptoBulk {H : Type} : DataW H → Nat
  | .lit (.string bytes) => bytes.length + 1
  | .lit _ => 1
  | .nil => 1
  | .ptr d => uptoBulk d + 1
  | .slice elems spare => uptoBulkAll elems + uptoBulkAll spare + 1
  | .agg parts => uptoBulkAll parts + 1
  | .iface _ d => uptoBulk d + 1
  | .map entries => uptoBulkEntries entries + 1
  | .held _ => 1
def uptoBulkAll {H : Type} : List (DataW H) → Nat
  | [] => 0
  | d :: r => uptoBulk d + uptoBulkAll r
def uptoBulkEntries {H : Type} : List (Lit × DataW H) → Nat
  | [] => 0
  | x :: r => uptoBulkEntry x + uptoBulkEntries r
def uptoBulkEntry {H : Type} : Lit × DataW H → Nat
  | (.string bytes, d) => bytes.length + uptoBulk d + 1
  | (_, d) => uptoBulk d + 1
 end
def uptoSmall : (H : Type) → List (DataW H) → Bool := fun _ ds => decide (uptoBulkAll ds ≤ 1048576)
def OpenSpec.upto (s : _root_.Go.ChangeSpec) : _root_.Go.OpenSpec := { _root_.Go.OpenSpec.ofChange s with cond := some uptoSmall }

/-- 'spillwaylaw26.ModelLimits', WHERE WHAT IT READS IS OF BULK AT MOST 1048576: true; the input reads as it did. -/
def modelLimitsUptoRow : OpenClaim := { program := "ytaicmiadgnpimaa", sum := "bccdff98798732bd7f807582f1a2136f6bbfb2a805e81608632ac6a6fe516a39", func := "spillway/spillwaylaw26.ModelLimits", spec := "modelLimits", inPlace := ["slices.overlaps[spillway/api.MdLease]", "slices.overlaps[spillway/api.MdDial]"], unfollowed := true, recurses := true, apart := false, narrowed := true }
def ModelLimitsUptoSaid : Prop := modelLimitsUptoRow.holds Try.pinned (OpenSpec.upto modelLimitsSpec)

/-- 'spillwaylaw26.ModelOrder', WHERE WHAT IT READS IS OF BULK AT MOST 1048576: true; the input reads as it did. -/
def modelOrderUptoRow : OpenClaim := { program := "ytaicmiadgnpimaa", sum := "bccdff98798732bd7f807582f1a2136f6bbfb2a805e81608632ac6a6fe516a39", func := "spillway/spillwaylaw26.ModelOrder", spec := "modelOrder", inPlace := ["slices.overlaps[spillway/api.MdLease]", "slices.overlaps[spillway/api.MdDial]"], unfollowed := true, recurses := true, apart := false, narrowed := true }
def ModelOrderUptoSaid : Prop := modelOrderUptoRow.holds Try.pinned (OpenSpec.upto modelOrderSpec)

/-- 'spillwaylaw26.ModelPicks', WHERE WHAT IT READS IS OF BULK AT MOST 1048576: true; the input reads as it did. -/
def modelPicksUptoRow : OpenClaim := { program := "ytaicmiadgnpimaa", sum := "bccdff98798732bd7f807582f1a2136f6bbfb2a805e81608632ac6a6fe516a39", func := "spillway/spillwaylaw26.ModelPicks", spec := "modelPicks", inPlace := ["slices.overlaps[spillway/api.MdLease]", "slices.overlaps[spillway/api.MdDial]"], unfollowed := true, recurses := true, apart := false, narrowed := true }
def ModelPicksUptoSaid : Prop := modelPicksUptoRow.holds Try.pinned (OpenSpec.upto modelPicksSpec)

/-- 'spillwaylaw26.ModelEnds', WHERE WHAT IT READS IS OF BULK AT MOST 1048576: true; the input reads as it did. -/
def modelEndsUptoRow : OpenClaim := { program := "ytaicmiadgnpimaa", sum := "bccdff98798732bd7f807582f1a2136f6bbfb2a805e81608632ac6a6fe516a39", func := "spillway/spillwaylaw26.ModelEnds", spec := "modelEnds", inPlace := ["slices.overlaps[spillway/api.MdLease]", "slices.overlaps[spillway/api.MdDial]"], unfollowed := true, recurses := true, apart := false, narrowed := true }
def ModelEndsUptoSaid : Prop := modelEndsUptoRow.holds Try.pinned (OpenSpec.upto modelEndsSpec)

/-- 'spillwaylaw26.ModelSplits', WHERE WHAT IT READS IS OF BULK AT MOST 1048576: true; the input reads as it did. -/
def modelSplitsUptoRow : OpenClaim := { program := "ytaicmiadgnpimaa", sum := "bccdff98798732bd7f807582f1a2136f6bbfb2a805e81608632ac6a6fe516a39", func := "spillway/spillwaylaw26.ModelSplits", spec := "modelSplits", inPlace := ["slices.overlaps[spillway/api.MdLease]", "slices.overlaps[spillway/api.MdDial]"], unfollowed := true, recurses := true, apart := false, narrowed := true }
def ModelSplitsUptoSaid : Prop := modelSplitsUptoRow.holds Try.pinned (OpenSpec.upto modelSplitsSpec)

end Rows
end Go.Proofs.Ytaicmiadgnpimaa
