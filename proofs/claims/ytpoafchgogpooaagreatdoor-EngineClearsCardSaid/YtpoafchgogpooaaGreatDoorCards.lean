/-
  DERIVED. GIVEN WITH THE SEED: THE CARDS: each row of YtpoafchgogpooaaGreatDoorRows.lean that lists a variable, with what it lists TIED to the program's text (the seventh form; the later family's looks); each row that meets fmt, with fmt's text TOLD by the authors' own Lean function (tested against real Go, not proved from fmt's source: count such statements apart). THE CARD IS WHAT COUNTS. Prove the row's statement (the work); the ties are given (YtpoafchgogpooaaGreatDoorTie.lean); close each card by the builder's one call (the guide's Derived/Test/ToyasCard.lean, 'card_holds'). Laid BY PROGRAM, IN A SANDBOX (cutbox-door.mjs). By AI agents, Wed Nov 11 2026. No macro, syntax, notation, axiom, sorry.
-/
import Derived.Test.YtpoafchgogpooaaGreatDoorRows
import GoSem.ClaimSeven
namespace Go.Proofs.YtpoafchgogpooaaGreatDoor
namespace Rows

/-- THE TIED CARD OF 'tansylaw27.EngineOrder'. -/
def engineOrderCard : Claim7 := { stood := { row := engineOrderRow, standIns := [], harness := (true, "577865e93783ab19bda62d56fa10e5b56f46270cd6bb1dabb2b00c02162771e8"), looks := true }, kinds := [], alts := [], laidByText := true, laidKinds := [.data, .data, .data, .sentinel, .sentinel], laidTests := true, laidLooks := .later }
def EngineOrderCardSaid : Prop := Claim7.holds Tryz.pinned (.plain (OpenSpec.ofChange engineOrderSpec)) engineOrderCard

/-- THE TIED CARD OF 'tansylaw27.EngineWeights'. -/
def engineWeightsCard : Claim7 := { stood := { row := engineWeightsRow, standIns := [], harness := (true, "577865e93783ab19bda62d56fa10e5b56f46270cd6bb1dabb2b00c02162771e8"), looks := true }, kinds := [], alts := [], laidByText := true, laidKinds := [.data, .data, .data, .sentinel, .sentinel], laidTests := true, laidLooks := .later }
def EngineWeightsCardSaid : Prop := Claim7.holds Tryz.pinned (.plain (OpenSpec.ofChange engineWeightsSpec)) engineWeightsCard

/-- THE TIED CARD OF 'tansylaw27.EngineNothing'. -/
def engineNothingCard : Claim7 := { stood := { row := engineNothingRow, standIns := [], harness := (true, "577865e93783ab19bda62d56fa10e5b56f46270cd6bb1dabb2b00c02162771e8"), looks := true }, kinds := [], alts := [], laidByText := true, laidKinds := [.data, .data, .data, .sentinel, .sentinel], laidTests := true, laidLooks := .later }
def EngineNothingCardSaid : Prop := Claim7.holds Tryz.pinned (.plain (OpenSpec.ofChange engineNothingSpec)) engineNothingCard

/-- THE TIED CARD OF 'tansylaw27.EngineClears'. -/
def engineClearsCard : Claim7 := { stood := { row := engineClearsRow, standIns := [], harness := (true, "577865e93783ab19bda62d56fa10e5b56f46270cd6bb1dabb2b00c02162771e8"), looks := true }, kinds := [], alts := [], laidByText := true, laidKinds := [.data, .data, .data, .sentinel, .sentinel], laidTests := true, laidLooks := .later }
def EngineClearsCardSaid : Prop := Claim7.holds Tryz.pinned (.plain (OpenSpec.ofChange engineClearsSpec)) engineClearsCard

/-- THE SECOND FORM's CARD OF 'tansylaw27.EngineOrder'. -/
def engineOrderUptoCard : Claim7 := { stood := { row := engineOrderUptoRow, standIns := [], harness := (true, "577865e93783ab19bda62d56fa10e5b56f46270cd6bb1dabb2b00c02162771e8"), looks := true }, kinds := [], alts := [], laidByText := true, laidKinds := [.data, .data, .data, .sentinel, .sentinel], laidTests := true, laidLooks := .later }
def EngineOrderUptoCardSaid : Prop := Claim7.holds Tryz.pinned (.plain (OpenSpec.upto engineOrderSpec)) engineOrderUptoCard

/-- THE SECOND FORM's CARD OF 'tansylaw27.EngineWeights'. -/
def engineWeightsUptoCard : Claim7 := { stood := { row := engineWeightsUptoRow, standIns := [], harness := (true, "577865e93783ab19bda62d56fa10e5b56f46270cd6bb1dabb2b00c02162771e8"), looks := true }, kinds := [], alts := [], laidByText := true, laidKinds := [.data, .data, .data, .sentinel, .sentinel], laidTests := true, laidLooks := .later }
def EngineWeightsUptoCardSaid : Prop := Claim7.holds Tryz.pinned (.plain (OpenSpec.upto engineWeightsSpec)) engineWeightsUptoCard

/-- THE SECOND FORM's CARD OF 'tansylaw27.EngineNothing'. -/
def engineNothingUptoCard : Claim7 := { stood := { row := engineNothingUptoRow, standIns := [], harness := (true, "577865e93783ab19bda62d56fa10e5b56f46270cd6bb1dabb2b00c02162771e8"), looks := true }, kinds := [], alts := [], laidByText := true, laidKinds := [.data, .data, .data, .sentinel, .sentinel], laidTests := true, laidLooks := .later }
def EngineNothingUptoCardSaid : Prop := Claim7.holds Tryz.pinned (.plain (OpenSpec.upto engineNothingSpec)) engineNothingUptoCard

/-- THE SECOND FORM's CARD OF 'tansylaw27.EngineClears'. -/
def engineClearsUptoCard : Claim7 := { stood := { row := engineClearsUptoRow, standIns := [], harness := (true, "577865e93783ab19bda62d56fa10e5b56f46270cd6bb1dabb2b00c02162771e8"), looks := true }, kinds := [], alts := [], laidByText := true, laidKinds := [.data, .data, .data, .sentinel, .sentinel], laidTests := true, laidLooks := .later }
def EngineClearsUptoCardSaid : Prop := Claim7.holds Tryz.pinned (.plain (OpenSpec.upto engineClearsSpec)) engineClearsUptoCard
end Rows
end Go.Proofs.YtpoafchgogpooaaGreatDoor
