/-
  DERIVED. GIVEN WITH THE SEED: THE CARDS: each row of YtdkoockhfmbcaaaGreatDoorRows.lean that lists a variable, with what it lists TIED to the program's text (the seventh form; the later family's looks); each row that meets fmt, with fmt's text TOLD by the authors' own Lean function (tested against real Go, not proved from fmt's source: count such statements apart). THE CARD IS WHAT COUNTS. Prove the row's statement (the work); the ties are given (YtdkoockhfmbcaaaGreatDoorTie.lean); close each card by the builder's one call (the guide's Derived/Test/ToyasCard.lean, 'card_holds'). Laid BY PROGRAM, IN A SANDBOX (cutbox-door.mjs). By AI agents, Wed Nov 11 2026. No macro, syntax, notation, axiom, sorry.
-/
import Derived.Test.YtdkoockhfmbcaaaGreatDoorRows
import GoSem.ClaimSeven
namespace Go.Proofs.YtdkoockhfmbcaaaGreatDoor
namespace Rows

/-- THE TIED CARD OF 'exchequerlaw21.BooksKnown'. -/
def booksKnownCard : Claim7 := { stood := { row := booksKnownRow, standIns := [], harness := (true, "932fc0f03646535bfee30a2da437bfb32ab08e5c21ed64927a4f88f59a185691"), looks := false }, kinds := [], alts := [], laidByText := true, laidKinds := [.data], laidTests := true, laidLooks := .later }
def BooksKnownCardSaid : Prop := Claim7.holds Tryz.pinned (.plain (OpenSpec.ofChange booksKnownSpec)) booksKnownCard

/-- THE TIED CARD OF 'exchequerlaw21.BooksNone'. -/
def booksNoneCard : Claim7 := { stood := { row := booksNoneRow, standIns := [], harness := (true, "932fc0f03646535bfee30a2da437bfb32ab08e5c21ed64927a4f88f59a185691"), looks := false }, kinds := [], alts := [], laidByText := true, laidKinds := [.data], laidTests := true, laidLooks := .later }
def BooksNoneCardSaid : Prop := Claim7.holds Tryz.pinned (.plain (OpenSpec.ofChange booksNoneSpec)) booksNoneCard

/-- THE SECOND FORM's CARD OF 'exchequerlaw21.BooksKnown'. -/
def booksKnownUptoCard : Claim7 := { stood := { row := booksKnownUptoRow, standIns := [], harness := (true, "932fc0f03646535bfee30a2da437bfb32ab08e5c21ed64927a4f88f59a185691"), looks := false }, kinds := [], alts := [], laidByText := true, laidKinds := [.data], laidTests := true, laidLooks := .later }
def BooksKnownUptoCardSaid : Prop := Claim7.holds Tryz.pinned (.plain (OpenSpec.upto booksKnownSpec)) booksKnownUptoCard

/-- THE SECOND FORM's CARD OF 'exchequerlaw21.BooksNone'. -/
def booksNoneUptoCard : Claim7 := { stood := { row := booksNoneUptoRow, standIns := [], harness := (true, "932fc0f03646535bfee30a2da437bfb32ab08e5c21ed64927a4f88f59a185691"), looks := false }, kinds := [], alts := [], laidByText := true, laidKinds := [.data], laidTests := true, laidLooks := .later }
def BooksNoneUptoCardSaid : Prop := Claim7.holds Tryz.pinned (.plain (OpenSpec.upto booksNoneSpec)) booksNoneUptoCard
end Rows
end Go.Proofs.YtdkoockhfmbcaaaGreatDoor
