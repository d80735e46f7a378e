/-
  DERIVED. GIVEN WITH THE SEED: THE CARDS: each row of YtamhchkknlbanaaDoorRows.lean that lists a variable, with what it lists TIED to the program's text (the seventh form; the later family's looks); each row that meets fmt, with fmt's text TOLD by the authors' own Lean function (tested against real Go, not proved from fmt's source: count such statements apart). THE CARD IS WHAT COUNTS. Prove the row's statement (the work); the ties are given (YtamhchkknlbanaaDoorTie.lean); close each card by the builder's one call (the guide's Derived/Test/ToyasCard.lean, 'card_holds'). Laid BY PROGRAM, IN A SANDBOX (cutbox-door.mjs). By AI agents, Wed Nov 11 2026. No macro, syntax, notation, axiom, sorry.
-/
import Derived.Test.YtamhchkknlbanaaDoorRows
import GoSem.ClaimSeven
namespace Go.Proofs.YtamhchkknlbanaaDoor
namespace Rows

/-- THE TIED CARD OF 'exchequerlaw32.BenchParses'. -/
def benchParsesCard : Claim7 := { stood := { row := benchParsesRow, standIns := [], harness := (true, "369914c67c7c728ebd9ee9220aed351f4a5de5ef306f4d75731c54d34570bea5"), looks := true }, kinds := [], alts := [], laidByText := true, laidKinds := [.data, .data, .data, .data, .sentinel, .sentinel, .pinned], laidTests := true, laidLooks := .later }
def BenchParsesCardSaid : Prop := Claim7.holds Tryd.pinned (.plain (OpenSpec.ofChange benchParsesSpec)) benchParsesCard

/-- THE TIED CARD OF 'exchequerlaw32.BenchTells'. -/
def benchTellsCard : Claim7 := { stood := { row := benchTellsRow, standIns := [], harness := (true, "369914c67c7c728ebd9ee9220aed351f4a5de5ef306f4d75731c54d34570bea5"), looks := true }, kinds := [], alts := [], laidByText := true, laidKinds := [.data, .data, .data, .data, .sentinel, .sentinel, .pinned], laidTests := true, laidLooks := .later }
def BenchTellsCardSaid : Prop := Claim7.holds Tryd.pinned (.plain (OpenSpec.ofChange benchTellsSpec)) benchTellsCard

/-- THE TIED CARD OF 'exchequerlaw32.BenchBack'. -/
def benchBackCard : Claim7 := { stood := { row := benchBackRow, standIns := [], harness := (true, "369914c67c7c728ebd9ee9220aed351f4a5de5ef306f4d75731c54d34570bea5"), looks := true }, kinds := [], alts := [], laidByText := true, laidKinds := [.data, .data, .data, .data, .sentinel, .sentinel, .pinned], laidTests := true, laidLooks := .later }
def BenchBackCardSaid : Prop := Claim7.holds Tryd.pinned (.plain (OpenSpec.ofChange benchBackSpec)) benchBackCard

/-- THE SECOND FORM's CARD OF 'exchequerlaw32.BenchParses'. -/
def benchParsesUptoCard : Claim7 := { stood := { row := benchParsesUptoRow, standIns := [], harness := (true, "369914c67c7c728ebd9ee9220aed351f4a5de5ef306f4d75731c54d34570bea5"), looks := true }, kinds := [], alts := [], laidByText := true, laidKinds := [.data, .data, .data, .data, .sentinel, .sentinel, .pinned], laidTests := true, laidLooks := .later }
def BenchParsesUptoCardSaid : Prop := Claim7.holds Tryd.pinned (.plain (OpenSpec.upto benchParsesSpec)) benchParsesUptoCard

/-- THE SECOND FORM's CARD OF 'exchequerlaw32.BenchTells'. -/
def benchTellsUptoCard : Claim7 := { stood := { row := benchTellsUptoRow, standIns := [], harness := (true, "369914c67c7c728ebd9ee9220aed351f4a5de5ef306f4d75731c54d34570bea5"), looks := true }, kinds := [], alts := [], laidByText := true, laidKinds := [.data, .data, .data, .data, .sentinel, .sentinel, .pinned], laidTests := true, laidLooks := .later }
def BenchTellsUptoCardSaid : Prop := Claim7.holds Tryd.pinned (.plain (OpenSpec.upto benchTellsSpec)) benchTellsUptoCard

/-- THE SECOND FORM's CARD OF 'exchequerlaw32.BenchBack'. -/
def benchBackUptoCard : Claim7 := { stood := { row := benchBackUptoRow, standIns := [], harness := (true, "369914c67c7c728ebd9ee9220aed351f4a5de5ef306f4d75731c54d34570bea5"), looks := true }, kinds := [], alts := [], laidByText := true, laidKinds := [.data, .data, .data, .data, .sentinel, .sentinel, .pinned], laidTests := true, laidLooks := .later }
def BenchBackUptoCardSaid : Prop := Claim7.holds Tryd.pinned (.plain (OpenSpec.upto benchBackSpec)) benchBackUptoCard
end Rows
end Go.Proofs.YtamhchkknlbanaaDoor
