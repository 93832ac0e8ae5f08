/-
  DERIVED. GIVEN WITH THE SEED: THE CARDS: each row of YtikmfpjcdcckeaaDoorRows.lean that lists a variable, with what it lists TIED to the program's text (the seventh form; the later family's looks); each row that meets fmt, with fmt's text TOLD by the authors' own Lean function (tested against real Go, not proved from fmt's source: count such statements apart). THE CARD IS WHAT COUNTS. Prove the row's statement (the work); the ties are given (YtikmfpjcdcckeaaDoorTie.lean); close each card by the builder's one call (the guide's Derived/Test/ToyasCard.lean, 'card_holds'). Laid BY PROGRAM, IN A SANDBOX (cutbox-door.mjs). By AI agents, Wed Nov 11 2026. No macro, syntax, notation, axiom, sorry.
-/
import Derived.Test.YtikmfpjcdcckeaaDoorRows
import GoSem.ClaimSeven
namespace Go.Proofs.YtikmfpjcdcckeaaDoor
namespace Rows

/-- THE TIED CARD OF 'walkmilllaw05.TenterNever'. -/
def tenterNeverCard : Claim7 := { stood := { row := tenterNeverRow, standIns := [], harness := (true, "a58157da61d15fb001cc1be072bb0f72c27c8e3564048e120142bf29e3c6c62b"), looks := false }, kinds := [], alts := [], laidByText := true, laidKinds := [.data, .data], laidTests := true, laidLooks := .later }
def TenterNeverCardSaid : Prop := Claim7.holds Tryd.pinned (.plain (OpenSpec.ofChange tenterNeverSpec)) tenterNeverCard

/-- THE TIED CARD OF 'walkmilllaw05.TenterMost'. -/
def tenterMostCard : Claim7 := { stood := { row := tenterMostRow, standIns := [], harness := (true, "a58157da61d15fb001cc1be072bb0f72c27c8e3564048e120142bf29e3c6c62b"), looks := false }, kinds := [], alts := [], laidByText := true, laidKinds := [.data, .data], laidTests := true, laidLooks := .later }
def TenterMostCardSaid : Prop := Claim7.holds Tryd.pinned (.plain (OpenSpec.ofChange tenterMostSpec)) tenterMostCard

/-- THE TIED CARD OF 'walkmilllaw05.TenterTight'. -/
def tenterTightCard : Claim7 := { stood := { row := tenterTightRow, standIns := [], harness := (true, "a58157da61d15fb001cc1be072bb0f72c27c8e3564048e120142bf29e3c6c62b"), looks := false }, kinds := [], alts := [], laidByText := true, laidKinds := [.data, .data], laidTests := true, laidLooks := .later }
def TenterTightCardSaid : Prop := Claim7.holds Tryd.pinned (.plain (OpenSpec.ofChange tenterTightSpec)) tenterTightCard

/-- THE TIED CARD OF 'walkmilllaw05.TenterOrder'. -/
def tenterOrderCard : Claim7 := { stood := { row := tenterOrderRow, standIns := [], harness := (true, "a58157da61d15fb001cc1be072bb0f72c27c8e3564048e120142bf29e3c6c62b"), looks := false }, kinds := [], alts := [], laidByText := true, laidKinds := [.data, .data], laidTests := true, laidLooks := .later }
def TenterOrderCardSaid : Prop := Claim7.holds Tryd.pinned (.plain (OpenSpec.ofChange tenterOrderSpec)) tenterOrderCard

/-- THE SECOND FORM's CARD OF 'walkmilllaw05.TenterNever'. -/
def tenterNeverUptoCard : Claim7 := { stood := { row := tenterNeverUptoRow, standIns := [], harness := (true, "a58157da61d15fb001cc1be072bb0f72c27c8e3564048e120142bf29e3c6c62b"), looks := false }, kinds := [], alts := [], laidByText := true, laidKinds := [.data, .data], laidTests := true, laidLooks := .later }
def TenterNeverUptoCardSaid : Prop := Claim7.holds Tryd.pinned (.plain (OpenSpec.upto tenterNeverSpec)) tenterNeverUptoCard

/-- THE SECOND FORM's CARD OF 'walkmilllaw05.TenterMost'. -/
def tenterMostUptoCard : Claim7 := { stood := { row := tenterMostUptoRow, standIns := [], harness := (true, "a58157da61d15fb001cc1be072bb0f72c27c8e3564048e120142bf29e3c6c62b"), looks := false }, kinds := [], alts := [], laidByText := true, laidKinds := [.data, .data], laidTests := true, laidLooks := .later }
def TenterMostUptoCardSaid : Prop := Claim7.holds Tryd.pinned (.plain (OpenSpec.upto tenterMostSpec)) tenterMostUptoCard

/-- THE SECOND FORM's CARD OF 'walkmilllaw05.TenterTight'. -/
def tenterTightUptoCard : Claim7 := { stood := { row := tenterTightUptoRow, standIns := [], harness := (true, "a58157da61d15fb001cc1be072bb0f72c27c8e3564048e120142bf29e3c6c62b"), looks := false }, kinds := [], alts := [], laidByText := true, laidKinds := [.data, .data], laidTests := true, laidLooks := .later }
def TenterTightUptoCardSaid : Prop := Claim7.holds Tryd.pinned (.plain (OpenSpec.upto tenterTightSpec)) tenterTightUptoCard

/-- THE SECOND FORM's CARD OF 'walkmilllaw05.TenterOrder'. -/
def tenterOrderUptoCard : Claim7 := { stood := { row := tenterOrderUptoRow, standIns := [], harness := (true, "a58157da61d15fb001cc1be072bb0f72c27c8e3564048e120142bf29e3c6c62b"), looks := false }, kinds := [], alts := [], laidByText := true, laidKinds := [.data, .data], laidTests := true, laidLooks := .later }
def TenterOrderUptoCardSaid : Prop := Claim7.holds Tryd.pinned (.plain (OpenSpec.upto tenterOrderSpec)) tenterOrderUptoCard
end Rows
end Go.Proofs.YtikmfpjcdcckeaaDoor
