/-
  DERIVED. GIVEN WITH THE SEED: THE CARDS: each row of YtkikeacnbgjjlaaGreatDoorRows.lean that lists a variable, with what it lists TIED to the program's text (the seventh form; the later family's looks); each row that meets fmt, with fmt's text TOLD by the authors' own Lean function (tested against real Go, not proved from fmt's source: count such statements apart). THE CARD IS WHAT COUNTS. Prove the row's statement (the work); the ties are given (YtkikeacnbgjjlaaGreatDoorTie.lean); close each card by the builder's one call (the guide's Derived/Test/ToyasCard.lean, 'card_holds'). Laid BY PROGRAM, IN A SANDBOX (cutbox-door.mjs). By AI agents, Wed Nov 11 2026. No macro, syntax, notation, axiom, sorry.
-/
import Derived.Test.YtkikeacnbgjjlaaGreatDoorRows
import GoSem.ClaimSeven
namespace Go.Proofs.YtkikeacnbgjjlaaGreatDoor
namespace Rows

/-- THE TIED CARD OF 'stencillaw07.XvalueParts'. -/
def xvaluePartsCard : Claim7 := { stood := { row := xvaluePartsRow, standIns := [], harness := (true, "00b84085f0104d7aca18865d4fce572477b8f89a5ce2dd48e30841ec67fb0f33"), looks := true }, kinds := [], alts := [], laidByText := true, laidKinds := [.data, .data, .data, .data, .sentinel, .sentinel, .pinned], laidTests := true, laidLooks := .later }
def XvaluePartsCardSaid : Prop := Claim7.holds Tryz.pinned (.plain (OpenSpec.ofChange xvaluePartsSpec)) xvaluePartsCard

/-- THE TIED CARD OF 'stencillaw07.XvalueLengths'. -/
def xvalueLengthsCard : Claim7 := { stood := { row := xvalueLengthsRow, standIns := [], harness := (true, "00b84085f0104d7aca18865d4fce572477b8f89a5ce2dd48e30841ec67fb0f33"), looks := true }, kinds := [], alts := [], laidByText := true, laidKinds := [.data, .data, .data, .data, .sentinel, .sentinel, .pinned], laidTests := true, laidLooks := .later }
def XvalueLengthsCardSaid : Prop := Claim7.holds Tryz.pinned (.plain (OpenSpec.ofChange xvalueLengthsSpec)) xvalueLengthsCard

/-- THE TIED CARD OF 'stencillaw07.XvalueChanges'. -/
def xvalueChangesCard : Claim7 := { stood := { row := xvalueChangesRow, standIns := [], harness := (true, "00b84085f0104d7aca18865d4fce572477b8f89a5ce2dd48e30841ec67fb0f33"), looks := true }, kinds := [], alts := [], laidByText := true, laidKinds := [.data, .data, .data, .data, .sentinel, .sentinel, .pinned], laidTests := true, laidLooks := .later }
def XvalueChangesCardSaid : Prop := Claim7.holds Tryz.pinned (.plain (OpenSpec.ofChange xvalueChangesSpec)) xvalueChangesCard

/-- THE TIED CARD OF 'stencillaw07.XvalueLimits'. -/
def xvalueLimitsCard : Claim7 := { stood := { row := xvalueLimitsRow, standIns := [], harness := (true, "00b84085f0104d7aca18865d4fce572477b8f89a5ce2dd48e30841ec67fb0f33"), looks := true }, kinds := [], alts := [], laidByText := true, laidKinds := [.data, .data, .data, .data, .sentinel, .sentinel, .pinned], laidTests := true, laidLooks := .later }
def XvalueLimitsCardSaid : Prop := Claim7.holds Tryz.pinned (.plain (OpenSpec.ofChange xvalueLimitsSpec)) xvalueLimitsCard

/-- THE TIED CARD OF 'stencillaw07.XvalueUnion'. -/
def xvalueUnionCard : Claim7 := { stood := { row := xvalueUnionRow, standIns := [], harness := (true, "00b84085f0104d7aca18865d4fce572477b8f89a5ce2dd48e30841ec67fb0f33"), looks := true }, kinds := [], alts := [], laidByText := true, laidKinds := [.data, .data, .data, .data, .sentinel, .sentinel, .pinned], laidTests := true, laidLooks := .later }
def XvalueUnionCardSaid : Prop := Claim7.holds Tryz.pinned (.plain (OpenSpec.ofChange xvalueUnionSpec)) xvalueUnionCard

/-- THE SECOND FORM's CARD OF 'stencillaw07.XvalueParts'. -/
def xvaluePartsUptoCard : Claim7 := { stood := { row := xvaluePartsUptoRow, standIns := [], harness := (true, "00b84085f0104d7aca18865d4fce572477b8f89a5ce2dd48e30841ec67fb0f33"), looks := true }, kinds := [], alts := [], laidByText := true, laidKinds := [.data, .data, .data, .data, .sentinel, .sentinel, .pinned], laidTests := true, laidLooks := .later }
def XvaluePartsUptoCardSaid : Prop := Claim7.holds Tryz.pinned (.plain (OpenSpec.upto xvaluePartsSpec)) xvaluePartsUptoCard

/-- THE SECOND FORM's CARD OF 'stencillaw07.XvalueLengths'. -/
def xvalueLengthsUptoCard : Claim7 := { stood := { row := xvalueLengthsUptoRow, standIns := [], harness := (true, "00b84085f0104d7aca18865d4fce572477b8f89a5ce2dd48e30841ec67fb0f33"), looks := true }, kinds := [], alts := [], laidByText := true, laidKinds := [.data, .data, .data, .data, .sentinel, .sentinel, .pinned], laidTests := true, laidLooks := .later }
def XvalueLengthsUptoCardSaid : Prop := Claim7.holds Tryz.pinned (.plain (OpenSpec.upto xvalueLengthsSpec)) xvalueLengthsUptoCard

/-- THE SECOND FORM's CARD OF 'stencillaw07.XvalueChanges'. -/
def xvalueChangesUptoCard : Claim7 := { stood := { row := xvalueChangesUptoRow, standIns := [], harness := (true, "00b84085f0104d7aca18865d4fce572477b8f89a5ce2dd48e30841ec67fb0f33"), looks := true }, kinds := [], alts := [], laidByText := true, laidKinds := [.data, .data, .data, .data, .sentinel, .sentinel, .pinned], laidTests := true, laidLooks := .later }
def XvalueChangesUptoCardSaid : Prop := Claim7.holds Tryz.pinned (.plain (OpenSpec.upto xvalueChangesSpec)) xvalueChangesUptoCard

/-- THE SECOND FORM's CARD OF 'stencillaw07.XvalueLimits'. -/
def xvalueLimitsUptoCard : Claim7 := { stood := { row := xvalueLimitsUptoRow, standIns := [], harness := (true, "00b84085f0104d7aca18865d4fce572477b8f89a5ce2dd48e30841ec67fb0f33"), looks := true }, kinds := [], alts := [], laidByText := true, laidKinds := [.data, .data, .data, .data, .sentinel, .sentinel, .pinned], laidTests := true, laidLooks := .later }
def XvalueLimitsUptoCardSaid : Prop := Claim7.holds Tryz.pinned (.plain (OpenSpec.upto xvalueLimitsSpec)) xvalueLimitsUptoCard

/-- THE SECOND FORM's CARD OF 'stencillaw07.XvalueUnion'. -/
def xvalueUnionUptoCard : Claim7 := { stood := { row := xvalueUnionUptoRow, standIns := [], harness := (true, "00b84085f0104d7aca18865d4fce572477b8f89a5ce2dd48e30841ec67fb0f33"), looks := true }, kinds := [], alts := [], laidByText := true, laidKinds := [.data, .data, .data, .data, .sentinel, .sentinel, .pinned], laidTests := true, laidLooks := .later }
def XvalueUnionUptoCardSaid : Prop := Claim7.holds Tryz.pinned (.plain (OpenSpec.upto xvalueUnionSpec)) xvalueUnionUptoCard
end Rows
end Go.Proofs.YtkikeacnbgjjlaaGreatDoor
