/-
  DERIVED. GIVEN WITH THE SEED: THE CARDS: each row of YtikmfpjcdcckeaaGreatDoorRows.lean that lists a variable, with what it lists TIED to the program's text (the seventh form; the later family's looks); each row that meets fmt, with fmt's text TOLD by the authors' own Lean function (tested against real Go, not proved from fmt's source: count such statements apart). THE CARD IS WHAT COUNTS. Prove the row's statement (the work); the ties are given (YtikmfpjcdcckeaaGreatDoorTie.lean); close each card by the builder's one call (the guide's Derived/Test/ToyasCard.lean, 'card_holds'). Laid BY PROGRAM, IN A SANDBOX (cutbox-door.mjs). By AI agents, Wed Nov 11 2026. No macro, syntax, notation, axiom, sorry.
-/
import Derived.Test.YtikmfpjcdcckeaaGreatDoorRows
import GoSem.ClaimSeven
namespace Go.Proofs.YtikmfpjcdcckeaaGreatDoor
namespace Rows

/-- THE TIED CARD OF 'walkmilllaw05.TenterHangs'. -/
def tenterHangsCard : Claim7 := { stood := { row := tenterHangsRow, standIns := [], harness := (true, "f9f254efc91dff1fa9ccebc7d446dac737abc126c5c381cfbc60d13802c71b90"), looks := false }, kinds := [], alts := [], laidByText := true, laidKinds := [.data, .data], laidTests := true, laidLooks := .later }
def TenterHangsCardSaid : Prop := Claim7.holds Tryz.pinned (.plain (OpenSpec.ofChange tenterHangsSpec)) tenterHangsCard

/-- THE TIED CARD OF 'walkmilllaw05.TenterStretched'. -/
def tenterStretchedCard : Claim7 := { stood := { row := tenterStretchedRow, standIns := [], harness := (true, "f9f254efc91dff1fa9ccebc7d446dac737abc126c5c381cfbc60d13802c71b90"), looks := false }, kinds := [], alts := [], laidByText := true, laidKinds := [.data, .data], laidTests := true, laidLooks := .later }
def TenterStretchedCardSaid : Prop := Claim7.holds Tryz.pinned (.plain (OpenSpec.ofChange tenterStretchedSpec)) tenterStretchedCard

/-- THE TIED CARD OF 'walkmilllaw05.TenterFills'. -/
def tenterFillsCard : Claim7 := { stood := { row := tenterFillsRow, standIns := [], harness := (true, "f9f254efc91dff1fa9ccebc7d446dac737abc126c5c381cfbc60d13802c71b90"), looks := false }, kinds := [], alts := [], laidByText := true, laidKinds := [.data, .data], laidTests := true, laidLooks := .later }
def TenterFillsCardSaid : Prop := Claim7.holds Tryz.pinned (.plain (OpenSpec.ofChange tenterFillsSpec)) tenterFillsCard

/-- THE TIED CARD OF 'walkmilllaw05.TenterAgainst'. -/
def tenterAgainstCard : Claim7 := { stood := { row := tenterAgainstRow, standIns := [], harness := (true, "f9f254efc91dff1fa9ccebc7d446dac737abc126c5c381cfbc60d13802c71b90"), looks := false }, kinds := [], alts := [], laidByText := true, laidKinds := [.data, .data], laidTests := true, laidLooks := .later }
def TenterAgainstCardSaid : Prop := Claim7.holds Tryz.pinned (.plain (OpenSpec.ofChange tenterAgainstSpec)) tenterAgainstCard

/-- THE TIED CARD OF 'walkmilllaw05.TenterTights'. -/
def tenterTightsCard : Claim7 := { stood := { row := tenterTightsRow, standIns := [], harness := (true, "f9f254efc91dff1fa9ccebc7d446dac737abc126c5c381cfbc60d13802c71b90"), looks := false }, kinds := [], alts := [], laidByText := true, laidKinds := [.data, .data], laidTests := true, laidLooks := .later }
def TenterTightsCardSaid : Prop := Claim7.holds Tryz.pinned (.plain (OpenSpec.ofChange tenterTightsSpec)) tenterTightsCard

/-- THE TIED CARD OF 'walkmilllaw05.TenterDries'. -/
def tenterDriesCard : Claim7 := { stood := { row := tenterDriesRow, standIns := [], harness := (true, "f9f254efc91dff1fa9ccebc7d446dac737abc126c5c381cfbc60d13802c71b90"), looks := false }, kinds := [], alts := [], laidByText := true, laidKinds := [.data, .data], laidTests := true, laidLooks := .later }
def TenterDriesCardSaid : Prop := Claim7.holds Tryz.pinned (.plain (OpenSpec.ofChange tenterDriesSpec)) tenterDriesCard

/-- THE TIED CARD OF 'walkmilllaw05.TenterNeeds'. -/
def tenterNeedsCard : Claim7 := { stood := { row := tenterNeedsRow, standIns := [], harness := (true, "f9f254efc91dff1fa9ccebc7d446dac737abc126c5c381cfbc60d13802c71b90"), looks := false }, kinds := [], alts := [], laidByText := true, laidKinds := [.data, .data], laidTests := true, laidLooks := .later }
def TenterNeedsCardSaid : Prop := Claim7.holds Tryz.pinned (.plain (OpenSpec.ofChange tenterNeedsSpec)) tenterNeedsCard

/-- THE TIED CARD OF 'walkmilllaw05.TenterLates'. -/
def tenterLatesCard : Claim7 := { stood := { row := tenterLatesRow, standIns := [], harness := (true, "f9f254efc91dff1fa9ccebc7d446dac737abc126c5c381cfbc60d13802c71b90"), looks := false }, kinds := [], alts := [], laidByText := true, laidKinds := [.data, .data], laidTests := true, laidLooks := .later }
def TenterLatesCardSaid : Prop := Claim7.holds Tryz.pinned (.plain (OpenSpec.ofChange tenterLatesSpec)) tenterLatesCard

/-- THE TIED CARD OF 'walkmilllaw05.TenterDry'. -/
def tenterDryCard : Claim7 := { stood := { row := tenterDryRow, standIns := [], harness := (true, "f9f254efc91dff1fa9ccebc7d446dac737abc126c5c381cfbc60d13802c71b90"), looks := false }, kinds := [], alts := [], laidByText := true, laidKinds := [.data, .data], laidTests := true, laidLooks := .later }
def TenterDryCardSaid : Prop := Claim7.holds Tryz.pinned (.plain (OpenSpec.ofChange tenterDrySpec)) tenterDryCard

/-- THE SECOND FORM's CARD OF 'walkmilllaw05.TenterHangs'. -/
def tenterHangsUptoCard : Claim7 := { stood := { row := tenterHangsUptoRow, standIns := [], harness := (true, "f9f254efc91dff1fa9ccebc7d446dac737abc126c5c381cfbc60d13802c71b90"), looks := false }, kinds := [], alts := [], laidByText := true, laidKinds := [.data, .data], laidTests := true, laidLooks := .later }
def TenterHangsUptoCardSaid : Prop := Claim7.holds Tryz.pinned (.plain (OpenSpec.upto tenterHangsSpec)) tenterHangsUptoCard

/-- THE SECOND FORM's CARD OF 'walkmilllaw05.TenterStretched'. -/
def tenterStretchedUptoCard : Claim7 := { stood := { row := tenterStretchedUptoRow, standIns := [], harness := (true, "f9f254efc91dff1fa9ccebc7d446dac737abc126c5c381cfbc60d13802c71b90"), looks := false }, kinds := [], alts := [], laidByText := true, laidKinds := [.data, .data], laidTests := true, laidLooks := .later }
def TenterStretchedUptoCardSaid : Prop := Claim7.holds Tryz.pinned (.plain (OpenSpec.upto tenterStretchedSpec)) tenterStretchedUptoCard

/-- THE SECOND FORM's CARD OF 'walkmilllaw05.TenterFills'. -/
def tenterFillsUptoCard : Claim7 := { stood := { row := tenterFillsUptoRow, standIns := [], harness := (true, "f9f254efc91dff1fa9ccebc7d446dac737abc126c5c381cfbc60d13802c71b90"), looks := false }, kinds := [], alts := [], laidByText := true, laidKinds := [.data, .data], laidTests := true, laidLooks := .later }
def TenterFillsUptoCardSaid : Prop := Claim7.holds Tryz.pinned (.plain (OpenSpec.upto tenterFillsSpec)) tenterFillsUptoCard

/-- THE SECOND FORM's CARD OF 'walkmilllaw05.TenterAgainst'. -/
def tenterAgainstUptoCard : Claim7 := { stood := { row := tenterAgainstUptoRow, standIns := [], harness := (true, "f9f254efc91dff1fa9ccebc7d446dac737abc126c5c381cfbc60d13802c71b90"), looks := false }, kinds := [], alts := [], laidByText := true, laidKinds := [.data, .data], laidTests := true, laidLooks := .later }
def TenterAgainstUptoCardSaid : Prop := Claim7.holds Tryz.pinned (.plain (OpenSpec.upto tenterAgainstSpec)) tenterAgainstUptoCard

/-- THE SECOND FORM's CARD OF 'walkmilllaw05.TenterTights'. -/
def tenterTightsUptoCard : Claim7 := { stood := { row := tenterTightsUptoRow, standIns := [], harness := (true, "f9f254efc91dff1fa9ccebc7d446dac737abc126c5c381cfbc60d13802c71b90"), looks := false }, kinds := [], alts := [], laidByText := true, laidKinds := [.data, .data], laidTests := true, laidLooks := .later }
def TenterTightsUptoCardSaid : Prop := Claim7.holds Tryz.pinned (.plain (OpenSpec.upto tenterTightsSpec)) tenterTightsUptoCard

/-- THE SECOND FORM's CARD OF 'walkmilllaw05.TenterDries'. -/
def tenterDriesUptoCard : Claim7 := { stood := { row := tenterDriesUptoRow, standIns := [], harness := (true, "f9f254efc91dff1fa9ccebc7d446dac737abc126c5c381cfbc60d13802c71b90"), looks := false }, kinds := [], alts := [], laidByText := true, laidKinds := [.data, .data], laidTests := true, laidLooks := .later }
def TenterDriesUptoCardSaid : Prop := Claim7.holds Tryz.pinned (.plain (OpenSpec.upto tenterDriesSpec)) tenterDriesUptoCard

/-- THE SECOND FORM's CARD OF 'walkmilllaw05.TenterNeeds'. -/
def tenterNeedsUptoCard : Claim7 := { stood := { row := tenterNeedsUptoRow, standIns := [], harness := (true, "f9f254efc91dff1fa9ccebc7d446dac737abc126c5c381cfbc60d13802c71b90"), looks := false }, kinds := [], alts := [], laidByText := true, laidKinds := [.data, .data], laidTests := true, laidLooks := .later }
def TenterNeedsUptoCardSaid : Prop := Claim7.holds Tryz.pinned (.plain (OpenSpec.upto tenterNeedsSpec)) tenterNeedsUptoCard

/-- THE SECOND FORM's CARD OF 'walkmilllaw05.TenterLates'. -/
def tenterLatesUptoCard : Claim7 := { stood := { row := tenterLatesUptoRow, standIns := [], harness := (true, "f9f254efc91dff1fa9ccebc7d446dac737abc126c5c381cfbc60d13802c71b90"), looks := false }, kinds := [], alts := [], laidByText := true, laidKinds := [.data, .data], laidTests := true, laidLooks := .later }
def TenterLatesUptoCardSaid : Prop := Claim7.holds Tryz.pinned (.plain (OpenSpec.upto tenterLatesSpec)) tenterLatesUptoCard

/-- THE SECOND FORM's CARD OF 'walkmilllaw05.TenterDry'. -/
def tenterDryUptoCard : Claim7 := { stood := { row := tenterDryUptoRow, standIns := [], harness := (true, "f9f254efc91dff1fa9ccebc7d446dac737abc126c5c381cfbc60d13802c71b90"), looks := false }, kinds := [], alts := [], laidByText := true, laidKinds := [.data, .data], laidTests := true, laidLooks := .later }
def TenterDryUptoCardSaid : Prop := Claim7.holds Tryz.pinned (.plain (OpenSpec.upto tenterDrySpec)) tenterDryUptoCard
end Rows
end Go.Proofs.YtikmfpjcdcckeaaGreatDoor
