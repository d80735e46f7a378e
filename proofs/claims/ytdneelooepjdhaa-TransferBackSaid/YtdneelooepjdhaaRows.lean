/-
  No cell of these rows narrows 'for every input' (looked for: loops, veiled, ifaces, maps, wideKeys, modest, calm, conditions, laid).
  DERIVED. THE GIVEN ROWS OF THIS SEAT. 8 by the template 'for every input the law returns true; each argument reads behind the call as it read before'; 0 by the template 'total and deterministic' (their statements: YtdneelooepjdhaaTotals.lean).
  GIVEN WITH THE SEED: the statements are not yours to turn. If you find one false, say at which input.
  Laid BY PROGRAM, IN A SANDBOX (cutbox-rows.mjs): the forced cells as the released guide's own fill.sh prints them over the translation ebfba088f45ab8cf… (all of the seat's roots in one cut). By AI agents, Wed Nov 11 2026. No macro, syntax, notation, axiom, sorry.
-/
import Derived.Test.YtdneelooepjdhaaChecked
import GoSem.Claim
import GoSem.ClaimJoined
import GoSem.ClaimMapViews
import Derived.JoinedTies
import Derived.KernelRfl
namespace Go.Proofs.Ytdneelooepjdhaa
/- THE CELL 'sum', in the pinned program and in every row, IS THE sha256 OF THE DUMP (.gsa) THAT YtdneelooepjdhaaProg.lean LOADS. Nothing in Lean hashes anything: it is a label: what it is worth is what the hold of that sum in a sandbox is worth. -/
noncomputable def Try.pinned : Pinned := { name := "ytdneelooepjdhaa", sum := "ebfba088f45ab8cf3a58ddcd81779c71ff476a2b0fb0d48783f2f55213d4925f", checked := Try.checked }
namespace Rows
def none {H : Type} : Left H := { results := [], args := [] }

/-- 'exchequerlaw18.TransferChecks': WHATEVER THE INPUT: true; the input reads as it did. -/
def transferChecksSpec : ChangeSpec := { name := "transferChecks", fn := fun _ => fun
  | [d1, d2] => { results := [.lit (.bool true)], args := [d1, d2] }
  | _ => none }
def transferChecksRow : OpenClaim := { program := "ytdneelooepjdhaa", sum := "ebfba088f45ab8cf3a58ddcd81779c71ff476a2b0fb0d48783f2f55213d4925f", func := "exchequer/exchequerlaw18.TransferChecks", spec := "transferChecks", inPlace := ["math/bits.Add64"], apart := false }
def TransferChecksSaid : Prop := transferChecksRow.holds Try.pinned (OpenSpec.ofChange transferChecksSpec)

/-- ITS FALSE NEIGHBOUR: 'it returns false'. Refute it at one input. -/
def transferChecksWrong : ChangeSpec := { name := "transferChecks", fn := fun _ => fun
  | [d1, d2] => { results := [.lit (.bool false)], args := [d1, d2] }
  | _ => none }
def TransferChecksWrongFalsely : Prop := transferChecksRow.holds Try.pinned (OpenSpec.ofChange transferChecksWrong)

/-- 'exchequerlaw18.TransferLimits': WHATEVER THE INPUT: true; the input reads as it did. -/
def transferLimitsSpec : ChangeSpec := { name := "transferLimits", fn := fun _ => fun
  | [d1, d2, d3, d4] => { results := [.lit (.bool true)], args := [d1, d2, d3, d4] }
  | _ => none }
def transferLimitsRow : OpenClaim := { program := "ytdneelooepjdhaa", sum := "ebfba088f45ab8cf3a58ddcd81779c71ff476a2b0fb0d48783f2f55213d4925f", func := "exchequer/exchequerlaw18.TransferLimits", spec := "transferLimits", inPlace := ["math/bits.Add64"], apart := false }
def TransferLimitsSaid : Prop := transferLimitsRow.holds Try.pinned (OpenSpec.ofChange transferLimitsSpec)

/-- ITS FALSE NEIGHBOUR: 'it returns false'. Refute it at one input. -/
def transferLimitsWrong : ChangeSpec := { name := "transferLimits", fn := fun _ => fun
  | [d1, d2, d3, d4] => { results := [.lit (.bool false)], args := [d1, d2, d3, d4] }
  | _ => none }
def TransferLimitsWrongFalsely : Prop := transferLimitsRow.holds Try.pinned (OpenSpec.ofChange transferLimitsWrong)

/-- 'exchequerlaw18.TransferAgain': WHATEVER THE INPUT: true; the input reads as it did. -/
def transferAgainSpec : ChangeSpec := { name := "transferAgain", fn := fun _ => fun
  | [d1, d2, d3, d4] => { results := [.lit (.bool true)], args := [d1, d2, d3, d4] }
  | _ => none }
def transferAgainRow : OpenClaim := { program := "ytdneelooepjdhaa", sum := "ebfba088f45ab8cf3a58ddcd81779c71ff476a2b0fb0d48783f2f55213d4925f", func := "exchequer/exchequerlaw18.TransferAgain", spec := "transferAgain", inPlace := ["math/bits.Add64"], apart := false }
def TransferAgainSaid : Prop := transferAgainRow.holds Try.pinned (OpenSpec.ofChange transferAgainSpec)

/-- ITS FALSE NEIGHBOUR: 'it returns false'. Refute it at one input. -/
def transferAgainWrong : ChangeSpec := { name := "transferAgain", fn := fun _ => fun
  | [d1, d2, d3, d4] => { results := [.lit (.bool false)], args := [d1, d2, d3, d4] }
  | _ => none }
def TransferAgainWrongFalsely : Prop := transferAgainRow.holds Try.pinned (OpenSpec.ofChange transferAgainWrong)

/-- 'exchequerlaw18.TransferMatches': WHATEVER THE INPUT: true; the input reads as it did. -/
def transferMatchesSpec : ChangeSpec := { name := "transferMatches", fn := fun _ => fun
  | [d1, d2, d3, d4] => { results := [.lit (.bool true)], args := [d1, d2, d3, d4] }
  | _ => none }
def transferMatchesRow : OpenClaim := { program := "ytdneelooepjdhaa", sum := "ebfba088f45ab8cf3a58ddcd81779c71ff476a2b0fb0d48783f2f55213d4925f", func := "exchequer/exchequerlaw18.TransferMatches", spec := "transferMatches", inPlace := ["math/bits.Sub64", "math/bits.Add64"], apart := false }
def TransferMatchesSaid : Prop := transferMatchesRow.holds Try.pinned (OpenSpec.ofChange transferMatchesSpec)

/-- ITS FALSE NEIGHBOUR: 'it returns false'. Refute it at one input. -/
def transferMatchesWrong : ChangeSpec := { name := "transferMatches", fn := fun _ => fun
  | [d1, d2, d3, d4] => { results := [.lit (.bool false)], args := [d1, d2, d3, d4] }
  | _ => none }
def TransferMatchesWrongFalsely : Prop := transferMatchesRow.holds Try.pinned (OpenSpec.ofChange transferMatchesWrong)

/-- 'exchequerlaw18.TransferSettles': WHATEVER THE INPUT: true; the input reads as it did. -/
def transferSettlesSpec : ChangeSpec := { name := "transferSettles", fn := fun _ => fun
  | [d1, d2, d3, d4, d5, d6] => { results := [.lit (.bool true)], args := [d1, d2, d3, d4, d5, d6] }
  | _ => none }
def transferSettlesRow : OpenClaim := { program := "ytdneelooepjdhaa", sum := "ebfba088f45ab8cf3a58ddcd81779c71ff476a2b0fb0d48783f2f55213d4925f", func := "exchequer/exchequerlaw18.TransferSettles", spec := "transferSettles", inPlace := ["math/bits.Add64", "math/bits.Sub64"], apart := false }
def TransferSettlesSaid : Prop := transferSettlesRow.holds Try.pinned (OpenSpec.ofChange transferSettlesSpec)

/-- ITS FALSE NEIGHBOUR: 'it returns false'. Refute it at one input. -/
def transferSettlesWrong : ChangeSpec := { name := "transferSettles", fn := fun _ => fun
  | [d1, d2, d3, d4, d5, d6] => { results := [.lit (.bool false)], args := [d1, d2, d3, d4, d5, d6] }
  | _ => none }
def TransferSettlesWrongFalsely : Prop := transferSettlesRow.holds Try.pinned (OpenSpec.ofChange transferSettlesWrong)

/-- 'exchequerlaw18.TransferEven': WHATEVER THE INPUT: true; the input reads as it did. -/
def transferEvenSpec : ChangeSpec := { name := "transferEven", fn := fun _ => fun
  | [d1, d2, d3, d4, d5, d6] => { results := [.lit (.bool true)], args := [d1, d2, d3, d4, d5, d6] }
  | _ => none }
def transferEvenRow : OpenClaim := { program := "ytdneelooepjdhaa", sum := "ebfba088f45ab8cf3a58ddcd81779c71ff476a2b0fb0d48783f2f55213d4925f", func := "exchequer/exchequerlaw18.TransferEven", spec := "transferEven", inPlace := ["math/bits.Add64", "math/bits.Sub64"], apart := false }
def TransferEvenSaid : Prop := transferEvenRow.holds Try.pinned (OpenSpec.ofChange transferEvenSpec)

/-- ITS FALSE NEIGHBOUR: 'it returns false'. Refute it at one input. -/
def transferEvenWrong : ChangeSpec := { name := "transferEven", fn := fun _ => fun
  | [d1, d2, d3, d4, d5, d6] => { results := [.lit (.bool false)], args := [d1, d2, d3, d4, d5, d6] }
  | _ => none }
def TransferEvenWrongFalsely : Prop := transferEvenRow.holds Try.pinned (OpenSpec.ofChange transferEvenWrong)

/-- 'exchequerlaw18.TransferBack': WHATEVER THE INPUT: true; the input reads as it did. -/
def transferBackSpec : ChangeSpec := { name := "transferBack", fn := fun _ => fun
  | [d1, d2, d3, d4, d5] => { results := [.lit (.bool true)], args := [d1, d2, d3, d4, d5] }
  | _ => none }
def transferBackRow : OpenClaim := { program := "ytdneelooepjdhaa", sum := "ebfba088f45ab8cf3a58ddcd81779c71ff476a2b0fb0d48783f2f55213d4925f", func := "exchequer/exchequerlaw18.TransferBack", spec := "transferBack", inPlace := ["math/bits.Add64", "math/bits.Sub64"], apart := false }
def TransferBackSaid : Prop := transferBackRow.holds Try.pinned (OpenSpec.ofChange transferBackSpec)

/-- ITS FALSE NEIGHBOUR: 'it returns false'. Refute it at one input. -/
def transferBackWrong : ChangeSpec := { name := "transferBack", fn := fun _ => fun
  | [d1, d2, d3, d4, d5] => { results := [.lit (.bool false)], args := [d1, d2, d3, d4, d5] }
  | _ => none }
def TransferBackWrongFalsely : Prop := transferBackRow.holds Try.pinned (OpenSpec.ofChange transferBackWrong)

/-- 'exchequerlaw18.TransferKnown': WHATEVER THE INPUT: true; the input reads as it did. -/
def transferKnownSpec : ChangeSpec := { name := "transferKnown", fn := fun _ => fun
  | [] => { results := [.lit (.bool true)], args := [] }
  | _ => none }
def transferKnownRow : OpenClaim := { program := "ytdneelooepjdhaa", sum := "ebfba088f45ab8cf3a58ddcd81779c71ff476a2b0fb0d48783f2f55213d4925f", func := "exchequer/exchequerlaw18.TransferKnown", spec := "transferKnown", inPlace := ["math/bits.Add64", "math/bits.Sub64"], apart := false }
def TransferKnownSaid : Prop := transferKnownRow.holds Try.pinned (OpenSpec.ofChange transferKnownSpec)

/-- ITS FALSE NEIGHBOUR: 'it returns false'. Refute it at one input. -/
def transferKnownWrong : ChangeSpec := { name := "transferKnown", fn := fun _ => fun
  | [] => { results := [.lit (.bool false)], args := [] }
  | _ => none }
def TransferKnownWrongFalsely : Prop := transferKnownRow.holds Try.pinned (OpenSpec.ofChange transferKnownWrong)

/- THE SECOND FORM. 'bulk': how many values and letters a reading holds, each counted each time it is reached (what is shared counts as often as it is met; a slice's spare places count too). A statement '..UptoSaid' is the law's where the arguments, and the package variables that the reading takes, are together of bulk at most 1048576: NARROWER than '..Said'. Prove '..Said' where nothing that the law and all that it calls make is longer than what came in: it says more and counts as full. Else prove '..UptoSaid'. A law counts once. -/
mutual
def uptoBulk {H : Type} : DataW H → Nat
  | .lit (.string bytes) => bytes.length + 1
  | .lit _ => 1
  | .nil => 1
  | .ptr d => uptoBulk d + 1
  | .slice elems spare => uptoBulkAll elems + uptoBulkAll spare + 1
  | .agg parts => uptoBulkAll parts + 1
  | .iface _ d => uptoBulk d + 1
  | .map entries => uptoBulkEntries entries + 1
  | .held _ => 1
def uptoBulkAll {H : Type} : List (DataW H) → Nat
  | [] => 0
  | d :: r => uptoBulk d + uptoBulkAll r
def uptoBulkEntries {H : Type} : List (Lit × DataW H) → Nat
  | [] => 0
  | x :: r => uptoBulkEntry x + uptoBulkEntries r
def uptoBulkEntry {H : Type} : Lit × DataW H → Nat
  | (.string bytes, d) => bytes.length + uptoBulk d + 1
  | (_, d) => uptoBulk d + 1
 end
def uptoSmall : (H : Type) → List (DataW H) → Bool := fun _ ds => decide (uptoBulkAll ds ≤ 1048576)
def OpenSpec.upto (s : _root_.Go.ChangeSpec) : _root_.Go.OpenSpec := { _root_.Go.OpenSpec.ofChange s with cond := some uptoSmall }

/-- 'exchequerlaw18.TransferChecks', WHERE WHAT IT READS IS OF BULK AT MOST 1048576: true; the input reads as it did. -/
def transferChecksUptoRow : OpenClaim := { program := "ytdneelooepjdhaa", sum := "ebfba088f45ab8cf3a58ddcd81779c71ff476a2b0fb0d48783f2f55213d4925f", func := "exchequer/exchequerlaw18.TransferChecks", spec := "transferChecks", inPlace := ["math/bits.Add64"], apart := false, narrowed := true }
def TransferChecksUptoSaid : Prop := transferChecksUptoRow.holds Try.pinned (OpenSpec.upto transferChecksSpec)

/-- 'exchequerlaw18.TransferLimits', WHERE WHAT IT READS IS OF BULK AT MOST 1048576: true; the input reads as it did. -/
def transferLimitsUptoRow : OpenClaim := { program := "ytdneelooepjdhaa", sum := "ebfba088f45ab8cf3a58ddcd81779c71ff476a2b0fb0d48783f2f55213d4925f", func := "exchequer/exchequerlaw18.TransferLimits", spec := "transferLimits", inPlace := ["math/bits.Add64"], apart := false, narrowed := true }
def TransferLimitsUptoSaid : Prop := transferLimitsUptoRow.holds Try.pinned (OpenSpec.upto transferLimitsSpec)

/-- 'exchequerlaw18.TransferAgain', WHERE WHAT IT READS IS OF BULK AT MOST 1048576: true; the input reads as it did. -/
def transferAgainUptoRow : OpenClaim := { program := "ytdneelooepjdhaa", sum := "ebfba088f45ab8cf3a58ddcd81779c71ff476a2b0fb0d48783f2f55213d4925f", func := "exchequer/exchequerlaw18.TransferAgain", spec := "transferAgain", inPlace := ["math/bits.Add64"], apart := false, narrowed := true }
def TransferAgainUptoSaid : Prop := transferAgainUptoRow.holds Try.pinned (OpenSpec.upto transferAgainSpec)

/-- 'exchequerlaw18.TransferMatches', WHERE WHAT IT READS IS OF BULK AT MOST 1048576: true; the input reads as it did. -/
def transferMatchesUptoRow : OpenClaim := { program := "ytdneelooepjdhaa", sum := "ebfba088f45ab8cf3a58ddcd81779c71ff476a2b0fb0d48783f2f55213d4925f", func := "exchequer/exchequerlaw18.TransferMatches", spec := "transferMatches", inPlace := ["math/bits.Sub64", "math/bits.Add64"], apart := false, narrowed := true }
def TransferMatchesUptoSaid : Prop := transferMatchesUptoRow.holds Try.pinned (OpenSpec.upto transferMatchesSpec)

/-- 'exchequerlaw18.TransferSettles', WHERE WHAT IT READS IS OF BULK AT MOST 1048576: true; the input reads as it did. -/
def transferSettlesUptoRow : OpenClaim := { program := "ytdneelooepjdhaa", sum := "ebfba088f45ab8cf3a58ddcd81779c71ff476a2b0fb0d48783f2f55213d4925f", func := "exchequer/exchequerlaw18.TransferSettles", spec := "transferSettles", inPlace := ["math/bits.Add64", "math/bits.Sub64"], apart := false, narrowed := true }
def TransferSettlesUptoSaid : Prop := transferSettlesUptoRow.holds Try.pinned (OpenSpec.upto transferSettlesSpec)

/-- 'exchequerlaw18.TransferEven', WHERE WHAT IT READS IS OF BULK AT MOST 1048576: true; the input reads as it did. -/
def transferEvenUptoRow : OpenClaim := { program := "ytdneelooepjdhaa", sum := "ebfba088f45ab8cf3a58ddcd81779c71ff476a2b0fb0d48783f2f55213d4925f", func := "exchequer/exchequerlaw18.TransferEven", spec := "transferEven", inPlace := ["math/bits.Add64", "math/bits.Sub64"], apart := false, narrowed := true }
def TransferEvenUptoSaid : Prop := transferEvenUptoRow.holds Try.pinned (OpenSpec.upto transferEvenSpec)

/-- 'exchequerlaw18.TransferBack', WHERE WHAT IT READS IS OF BULK AT MOST 1048576: true; the input reads as it did. -/
def transferBackUptoRow : OpenClaim := { program := "ytdneelooepjdhaa", sum := "ebfba088f45ab8cf3a58ddcd81779c71ff476a2b0fb0d48783f2f55213d4925f", func := "exchequer/exchequerlaw18.TransferBack", spec := "transferBack", inPlace := ["math/bits.Add64", "math/bits.Sub64"], apart := false, narrowed := true }
def TransferBackUptoSaid : Prop := transferBackUptoRow.holds Try.pinned (OpenSpec.upto transferBackSpec)

/-- 'exchequerlaw18.TransferKnown', WHERE WHAT IT READS IS OF BULK AT MOST 1048576: true; the input reads as it did. -/
def transferKnownUptoRow : OpenClaim := { program := "ytdneelooepjdhaa", sum := "ebfba088f45ab8cf3a58ddcd81779c71ff476a2b0fb0d48783f2f55213d4925f", func := "exchequer/exchequerlaw18.TransferKnown", spec := "transferKnown", inPlace := ["math/bits.Add64", "math/bits.Sub64"], apart := false, narrowed := true }
def TransferKnownUptoSaid : Prop := transferKnownUptoRow.holds Try.pinned (OpenSpec.upto transferKnownSpec)

end Rows
end Go.Proofs.Ytdneelooepjdhaa
