/-
  DERIVED. GIVEN WITH THE SEED: THE CARDS: each row of YtnbffjaghcfenaaGreatDoorRows.lean that lists a variable, with what it lists TIED to the program's text (the seventh form; the later family's looks); each row that meets fmt, with fmt's text TOLD by the authors' own Lean function (tested against real Go, not proved from fmt's source: count such statements apart). THE CARD IS WHAT COUNTS. Prove the row's statement (the work); the ties are given (YtnbffjaghcfenaaGreatDoorTie.lean); close each card by the builder's one call (the guide's Derived/Test/ToyasCard.lean, 'card_holds'). Laid BY PROGRAM, IN A SANDBOX (cutbox-door.mjs). By AI agents, Wed Nov 11 2026. No macro, syntax, notation, axiom, sorry.
-/
import Derived.Test.YtnbffjaghcfenaaGreatDoorRows
import GoSem.ClaimSeven
namespace Go.Proofs.YtnbffjaghcfenaaGreatDoor
namespace Rows

/-- THE TIED CARD OF 'exchequerlaw16.ForestKnown'. -/
def forestKnownCard : Claim7 := { stood := { row := forestKnownRow, standIns := [], harness := (true, "0c95d914467b0651f22f7c0e055b2714b5284ba14c45a853ef4c334e3c010d9b"), looks := false }, kinds := [], alts := [], laidByText := true, laidKinds := [.data], laidTests := true, laidLooks := .later }
def ForestKnownCardSaid : Prop := Claim7.holds Tryz.pinned (.plain (OpenSpec.ofChange forestKnownSpec)) forestKnownCard

/-- THE TIED CARD OF 'exchequerlaw16.ForestNone'. -/
def forestNoneCard : Claim7 := { stood := { row := forestNoneRow, standIns := [], harness := (true, "0c95d914467b0651f22f7c0e055b2714b5284ba14c45a853ef4c334e3c010d9b"), looks := false }, kinds := [], alts := [], laidByText := true, laidKinds := [.data], laidTests := true, laidLooks := .later }
def ForestNoneCardSaid : Prop := Claim7.holds Tryz.pinned (.plain (OpenSpec.ofChange forestNoneSpec)) forestNoneCard

/-- THE SECOND FORM's CARD OF 'exchequerlaw16.ForestKnown'. -/
def forestKnownUptoCard : Claim7 := { stood := { row := forestKnownUptoRow, standIns := [], harness := (true, "0c95d914467b0651f22f7c0e055b2714b5284ba14c45a853ef4c334e3c010d9b"), looks := false }, kinds := [], alts := [], laidByText := true, laidKinds := [.data], laidTests := true, laidLooks := .later }
def ForestKnownUptoCardSaid : Prop := Claim7.holds Tryz.pinned (.plain (OpenSpec.upto forestKnownSpec)) forestKnownUptoCard

/-- THE SECOND FORM's CARD OF 'exchequerlaw16.ForestNone'. -/
def forestNoneUptoCard : Claim7 := { stood := { row := forestNoneUptoRow, standIns := [], harness := (true, "0c95d914467b0651f22f7c0e055b2714b5284ba14c45a853ef4c334e3c010d9b"), looks := false }, kinds := [], alts := [], laidByText := true, laidKinds := [.data], laidTests := true, laidLooks := .later }
def ForestNoneUptoCardSaid : Prop := Claim7.holds Tryz.pinned (.plain (OpenSpec.upto forestNoneSpec)) forestNoneUptoCard
end Rows
end Go.Proofs.YtnbffjaghcfenaaGreatDoor
