/-
  DERIVED. GIVEN WITH THE SEED: THE CARDS: each row of YtgnhbccmdpkbiaaGreatDoorRows.lean that lists a variable, with what it lists TIED to the program's text (the seventh form; the later family's looks); each row that meets fmt, with fmt's text TOLD by the authors' own Lean function (tested against real Go, not proved from fmt's source: count such statements apart). THE CARD IS WHAT COUNTS. Prove the row's statement (the work); the ties are given (YtgnhbccmdpkbiaaGreatDoorTie.lean); close each card by the builder's one call (the guide's Derived/Test/ToyasCard.lean, 'card_holds'). Laid BY PROGRAM, IN A SANDBOX (cutbox-door.mjs). By AI agents, Wed Nov 11 2026. No macro, syntax, notation, axiom, sorry.
-/
import Derived.Test.YtgnhbccmdpkbiaaGreatDoorRows
import GoSem.ClaimSeven
namespace Go.Proofs.YtgnhbccmdpkbiaaGreatDoor
namespace Rows

/-- THE TIED CARD OF 'spillwaylaw03.FaultsBuilds'. -/
def faultsBuildsCard : Claim7 := { stood := { row := faultsBuildsRow, standIns := [], harness := (true, "83f99aa5d3972179f890eb3f817e74c98ddd6b07522077deea017dcefc9573b3"), looks := true }, kinds := [], alts := [], laidByText := true, laidKinds := [.data, .data, .data, .data, .handle, .data, .pinned], laidTests := true, laidLooks := .later }
def FaultsBuildsCardSaid : Prop := Claim7.holds Tryz.pinned (.plain (OpenSpec.ofChange faultsBuildsSpec)) faultsBuildsCard

/-- THE TIED CARD OF 'spillwaylaw03.FaultsWraps'. -/
def faultsWrapsCard : Claim7 := { stood := { row := faultsWrapsRow, standIns := [], harness := (true, "83f99aa5d3972179f890eb3f817e74c98ddd6b07522077deea017dcefc9573b3"), looks := true }, kinds := [], alts := [], laidByText := true, laidKinds := [.data, .data, .data, .data, .handle, .data, .pinned], laidTests := true, laidLooks := .later }
def FaultsWrapsCardSaid : Prop := Claim7.holds Tryz.pinned (.plain (OpenSpec.ofChange faultsWrapsSpec)) faultsWrapsCard

/-- THE TIED CARD OF 'spillwaylaw03.FaultsJoins'. -/
def faultsJoinsCard : Claim7 := { stood := { row := faultsJoinsRow, standIns := [], harness := (true, "83f99aa5d3972179f890eb3f817e74c98ddd6b07522077deea017dcefc9573b3"), looks := true }, kinds := [], alts := [], laidByText := true, laidKinds := [.data, .data, .data, .data, .handle, .data, .pinned], laidTests := true, laidLooks := .later }
def FaultsJoinsCardSaid : Prop := Claim7.holds Tryz.pinned (.plain (OpenSpec.ofChange faultsJoinsSpec)) faultsJoinsCard

/-- THE TIED CARD OF 'spillwaylaw03.FaultsAsks'. -/
def faultsAsksCard : Claim7 := { stood := { row := faultsAsksRow, standIns := [], harness := (true, "83f99aa5d3972179f890eb3f817e74c98ddd6b07522077deea017dcefc9573b3"), looks := true }, kinds := [], alts := [], laidByText := true, laidKinds := [.data, .data, .data, .data, .handle, .data, .pinned], laidTests := true, laidLooks := .later }
def FaultsAsksCardSaid : Prop := Claim7.holds Tryz.pinned (.plain (OpenSpec.ofChange faultsAsksSpec)) faultsAsksCard

/-- THE TIED CARD OF 'spillwaylaw03.FaultsIs'. -/
def faultsIsCard : Claim7 := { stood := { row := faultsIsRow, standIns := [], harness := (true, "83f99aa5d3972179f890eb3f817e74c98ddd6b07522077deea017dcefc9573b3"), looks := true }, kinds := [], alts := [], laidByText := true, laidKinds := [.data, .data, .data, .data, .handle, .data, .pinned], laidTests := true, laidLooks := .later }
def FaultsIsCardSaid : Prop := Claim7.holds Tryz.pinned (.plain (OpenSpec.ofChange faultsIsSpec)) faultsIsCard

/-- THE TIED CARD OF 'spillwaylaw03.FaultsRound'. -/
def faultsRoundCard : Claim7 := { stood := { row := faultsRoundRow, standIns := [], harness := (true, "83f99aa5d3972179f890eb3f817e74c98ddd6b07522077deea017dcefc9573b3"), looks := true }, kinds := [], alts := [], laidByText := true, laidKinds := [.data, .data, .data, .data, .handle, .sentinel, .sentinel, .data, .pinned], laidTests := true, laidLooks := .later }
def FaultsRoundCardSaid : Prop := Claim7.holds Tryz.pinned (.plain (OpenSpec.ofChange faultsRoundSpec)) faultsRoundCard

/-- THE TIED CARD OF 'spillwaylaw03.FaultsTexts'. -/
def faultsTextsCard : Claim7 := { stood := { row := faultsTextsRow, standIns := [], harness := (true, "83f99aa5d3972179f890eb3f817e74c98ddd6b07522077deea017dcefc9573b3"), looks := true }, kinds := [], alts := [], laidByText := true, laidKinds := [.data, .data, .data, .data, .handle, .sentinel, .sentinel, .data, .pinned], laidTests := true, laidLooks := .later }
def FaultsTextsCardSaid : Prop := Claim7.holds Tryz.pinned (.plain (OpenSpec.ofChange faultsTextsSpec)) faultsTextsCard

/-- THE TIED CARD OF 'spillwaylaw03.FaultsKnown'. -/
def faultsKnownCard : Claim7 := { stood := { row := faultsKnownRow, standIns := [], harness := (true, "83f99aa5d3972179f890eb3f817e74c98ddd6b07522077deea017dcefc9573b3"), looks := true }, kinds := [], alts := [], laidByText := true, laidKinds := [.data, .data, .data, .data, .handle, .sentinel, .sentinel, .data, .pinned], laidTests := true, laidLooks := .later }
def FaultsKnownCardSaid : Prop := Claim7.holds Tryz.pinned (.plain (OpenSpec.ofChange faultsKnownSpec)) faultsKnownCard

/-- THE SECOND FORM's CARD OF 'spillwaylaw03.FaultsBuilds'. -/
def faultsBuildsUptoCard : Claim7 := { stood := { row := faultsBuildsUptoRow, standIns := [], harness := (true, "83f99aa5d3972179f890eb3f817e74c98ddd6b07522077deea017dcefc9573b3"), looks := true }, kinds := [], alts := [], laidByText := true, laidKinds := [.data, .data, .data, .data, .handle, .data, .pinned], laidTests := true, laidLooks := .later }
def FaultsBuildsUptoCardSaid : Prop := Claim7.holds Tryz.pinned (.plain (OpenSpec.upto faultsBuildsSpec)) faultsBuildsUptoCard

/-- THE SECOND FORM's CARD OF 'spillwaylaw03.FaultsWraps'. -/
def faultsWrapsUptoCard : Claim7 := { stood := { row := faultsWrapsUptoRow, standIns := [], harness := (true, "83f99aa5d3972179f890eb3f817e74c98ddd6b07522077deea017dcefc9573b3"), looks := true }, kinds := [], alts := [], laidByText := true, laidKinds := [.data, .data, .data, .data, .handle, .data, .pinned], laidTests := true, laidLooks := .later }
def FaultsWrapsUptoCardSaid : Prop := Claim7.holds Tryz.pinned (.plain (OpenSpec.upto faultsWrapsSpec)) faultsWrapsUptoCard

/-- THE SECOND FORM's CARD OF 'spillwaylaw03.FaultsJoins'. -/
def faultsJoinsUptoCard : Claim7 := { stood := { row := faultsJoinsUptoRow, standIns := [], harness := (true, "83f99aa5d3972179f890eb3f817e74c98ddd6b07522077deea017dcefc9573b3"), looks := true }, kinds := [], alts := [], laidByText := true, laidKinds := [.data, .data, .data, .data, .handle, .data, .pinned], laidTests := true, laidLooks := .later }
def FaultsJoinsUptoCardSaid : Prop := Claim7.holds Tryz.pinned (.plain (OpenSpec.upto faultsJoinsSpec)) faultsJoinsUptoCard

/-- THE SECOND FORM's CARD OF 'spillwaylaw03.FaultsAsks'. -/
def faultsAsksUptoCard : Claim7 := { stood := { row := faultsAsksUptoRow, standIns := [], harness := (true, "83f99aa5d3972179f890eb3f817e74c98ddd6b07522077deea017dcefc9573b3"), looks := true }, kinds := [], alts := [], laidByText := true, laidKinds := [.data, .data, .data, .data, .handle, .data, .pinned], laidTests := true, laidLooks := .later }
def FaultsAsksUptoCardSaid : Prop := Claim7.holds Tryz.pinned (.plain (OpenSpec.upto faultsAsksSpec)) faultsAsksUptoCard

/-- THE SECOND FORM's CARD OF 'spillwaylaw03.FaultsIs'. -/
def faultsIsUptoCard : Claim7 := { stood := { row := faultsIsUptoRow, standIns := [], harness := (true, "83f99aa5d3972179f890eb3f817e74c98ddd6b07522077deea017dcefc9573b3"), looks := true }, kinds := [], alts := [], laidByText := true, laidKinds := [.data, .data, .data, .data, .handle, .data, .pinned], laidTests := true, laidLooks := .later }
def FaultsIsUptoCardSaid : Prop := Claim7.holds Tryz.pinned (.plain (OpenSpec.upto faultsIsSpec)) faultsIsUptoCard

/-- THE SECOND FORM's CARD OF 'spillwaylaw03.FaultsRound'. -/
def faultsRoundUptoCard : Claim7 := { stood := { row := faultsRoundUptoRow, standIns := [], harness := (true, "83f99aa5d3972179f890eb3f817e74c98ddd6b07522077deea017dcefc9573b3"), looks := true }, kinds := [], alts := [], laidByText := true, laidKinds := [.data, .data, .data, .data, .handle, .sentinel, .sentinel, .data, .pinned], laidTests := true, laidLooks := .later }
def FaultsRoundUptoCardSaid : Prop := Claim7.holds Tryz.pinned (.plain (OpenSpec.upto faultsRoundSpec)) faultsRoundUptoCard

/-- THE SECOND FORM's CARD OF 'spillwaylaw03.FaultsTexts'. -/
def faultsTextsUptoCard : Claim7 := { stood := { row := faultsTextsUptoRow, standIns := [], harness := (true, "83f99aa5d3972179f890eb3f817e74c98ddd6b07522077deea017dcefc9573b3"), looks := true }, kinds := [], alts := [], laidByText := true, laidKinds := [.data, .data, .data, .data, .handle, .sentinel, .sentinel, .data, .pinned], laidTests := true, laidLooks := .later }
def FaultsTextsUptoCardSaid : Prop := Claim7.holds Tryz.pinned (.plain (OpenSpec.upto faultsTextsSpec)) faultsTextsUptoCard

/-- THE SECOND FORM's CARD OF 'spillwaylaw03.FaultsKnown'. -/
def faultsKnownUptoCard : Claim7 := { stood := { row := faultsKnownUptoRow, standIns := [], harness := (true, "83f99aa5d3972179f890eb3f817e74c98ddd6b07522077deea017dcefc9573b3"), looks := true }, kinds := [], alts := [], laidByText := true, laidKinds := [.data, .data, .data, .data, .handle, .sentinel, .sentinel, .data, .pinned], laidTests := true, laidLooks := .later }
def FaultsKnownUptoCardSaid : Prop := Claim7.holds Tryz.pinned (.plain (OpenSpec.upto faultsKnownSpec)) faultsKnownUptoCard
end Rows
end Go.Proofs.YtgnhbccmdpkbiaaGreatDoor
