/-
  DERIVED. GIVEN WITH THE SEED: THE CARDS: each row of YtinhlbmlopkgiaaGreatDoorRows.lean that lists a variable, with what it lists TIED to the program's text (the seventh form; the later family's looks); each row that meets fmt, with fmt's text TOLD by the authors' own Lean function (tested against real Go, not proved from fmt's source: count such statements apart). THE CARD IS WHAT COUNTS. Prove the row's statement (the work); the ties are given (YtinhlbmlopkgiaaGreatDoorTie.lean); close each card by the builder's one call (the guide's Derived/Test/ToyasCard.lean, 'card_holds'). Laid BY PROGRAM, IN A SANDBOX (cutbox-door.mjs). By AI agents, Wed Nov 11 2026. No macro, syntax, notation, axiom, sorry.
-/
import Derived.Test.YtinhlbmlopkgiaaGreatDoorRows
import GoSem.ClaimSeven
namespace Go.Proofs.YtinhlbmlopkgiaaGreatDoor
namespace Rows

/-- THE TIED CARD OF 'exchequerlaw15.LevelNone'. -/
def levelNoneCard : Claim7 := { stood := { row := levelNoneRow, standIns := [], harness := (true, "97b5fa8023d03ae0998b6dfb6b075f454e3bfeda81afa201e759ce4028b36b9e"), looks := false }, kinds := [], alts := [], laidByText := true, laidKinds := [.data], laidTests := true, laidLooks := .later }
def LevelNoneCardSaid : Prop := Claim7.holds Tryz.pinned (.plain (OpenSpec.ofChange levelNoneSpec)) levelNoneCard

/-- THE SECOND FORM's CARD OF 'exchequerlaw15.LevelNone'. -/
def levelNoneUptoCard : Claim7 := { stood := { row := levelNoneUptoRow, standIns := [], harness := (true, "97b5fa8023d03ae0998b6dfb6b075f454e3bfeda81afa201e759ce4028b36b9e"), looks := false }, kinds := [], alts := [], laidByText := true, laidKinds := [.data], laidTests := true, laidLooks := .later }
def LevelNoneUptoCardSaid : Prop := Claim7.holds Tryz.pinned (.plain (OpenSpec.upto levelNoneSpec)) levelNoneUptoCard
end Rows
end Go.Proofs.YtinhlbmlopkgiaaGreatDoor
