/-
  DERIVED. GIVEN WITH THE SEED: THE CARDS: each row of YtgnhbccmdpkbiaaDoorRows.lean that lists a variable, with what it lists TIED to the program's text (the seventh form; the later family's looks); each row that meets fmt, with fmt's text TOLD by the authors' own Lean function (tested against real Go, not proved from fmt's source: count such statements apart). THE CARD IS WHAT COUNTS. Prove the row's statement (the work); the ties are given (YtgnhbccmdpkbiaaDoorTie.lean); close each card by the builder's one call (the guide's Derived/Test/ToyasCard.lean, 'card_holds'). Laid BY PROGRAM, IN A SANDBOX (cutbox-door.mjs). By AI agents, Wed Nov 11 2026. No macro, syntax, notation, axiom, sorry.
-/
import Derived.Test.YtgnhbccmdpkbiaaDoorRows
import GoSem.ClaimSeven
namespace Go.Proofs.YtgnhbccmdpkbiaaDoor
namespace Rows

/-- THE TIED CARD OF 'spillwaylaw03.FaultsNone'. -/
def faultsNoneCard : Claim7 := { stood := { row := faultsNoneRow, standIns := [], harness := (true, "6cf6f66e598bcbfd7aebc90499bc728983d96af521186d5c22c6194a7b9bbf0b"), looks := true }, kinds := [], alts := [], laidByText := true, laidKinds := [.data, .data, .data, .data, .handle, .data, .pinned], laidTests := true, laidLooks := .later }
def FaultsNoneCardSaid : Prop := Claim7.holds Tryd.pinned (.plain (OpenSpec.ofChange faultsNoneSpec)) faultsNoneCard

/-- THE SECOND FORM's CARD OF 'spillwaylaw03.FaultsNone'. -/
def faultsNoneUptoCard : Claim7 := { stood := { row := faultsNoneUptoRow, standIns := [], harness := (true, "6cf6f66e598bcbfd7aebc90499bc728983d96af521186d5c22c6194a7b9bbf0b"), looks := true }, kinds := [], alts := [], laidByText := true, laidKinds := [.data, .data, .data, .data, .handle, .data, .pinned], laidTests := true, laidLooks := .later }
def FaultsNoneUptoCardSaid : Prop := Claim7.holds Tryd.pinned (.plain (OpenSpec.upto faultsNoneSpec)) faultsNoneUptoCard
end Rows
end Go.Proofs.YtgnhbccmdpkbiaaDoor
