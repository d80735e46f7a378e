/-
  No cell of these rows narrows 'for every input' (looked for: loops, veiled, ifaces, maps, wideKeys, modest, calm, conditions, laid).
  DERIVED. THE GIVEN ROWS OF THIS SEAT. 5 by the template 'for every input the law returns true; each argument reads behind the call as it read before'; 0 by the template 'total and deterministic' (their statements: YtlbbkmcegbeckaaTotals.lean).
  GIVEN WITH THE SEED: the statements are not yours to turn. If you find one false, say at which input.
  Laid BY PROGRAM, IN A SANDBOX (cutbox-rows.mjs): the forced cells as the released guide's own fill.sh prints them over the translation 61906a40c890a20d… (all of the seat's roots in one cut). By AI agents, Wed Nov 11 2026. No macro, syntax, notation, axiom, sorry.
-/
import Derived.Test.YtlbbkmcegbeckaaChecked
import GoSem.Claim
import GoSem.ClaimJoined
import GoSem.ClaimMapViews
import Derived.JoinedTies
import Derived.KernelRfl
namespace Go.Proofs.Ytlbbkmcegbeckaa
/- THE CELL 'sum', in the pinned program and in every row, IS THE sha256 OF THE DUMP (.gsa) THAT YtlbbkmcegbeckaaProg.lean LOADS. Nothing in Lean hashes anything: it is a label: what it is worth is what the hold of that sum in a sandbox is worth. -/
noncomputable def Try.pinned : Pinned := { name := "ytlbbkmcegbeckaa", sum := "61906a40c890a20d47c382275e7d28975bb447f76261c845cef4e95638f92777", checked := Try.checked }
namespace Rows
def none {H : Type} : Left H := { results := [], args := [] }

/-- 'exchequerlaw15.LevelTells': WHATEVER THE INPUT: true; the input reads as it did. -/
def levelTellsSpec : ChangeSpec := { name := "levelTells", fn := fun _ => fun
  | [d1, d2, d3, d4] => { results := [.lit (.bool true)], args := [d1, d2, d3, d4] }
  | _ => none }
def levelTellsRow : OpenClaim := { program := "ytlbbkmcegbeckaa", sum := "61906a40c890a20d47c382275e7d28975bb447f76261c845cef4e95638f92777", func := "exchequer/exchequerlaw15.LevelTells", spec := "levelTells", inPlace := ["internal/bytealg.Compare", "slices.overlaps[exchequer/api.Run]"], unfollowed := true, recurses := true, apart := false }
def LevelTellsSaid : Prop := levelTellsRow.holds Try.pinned (OpenSpec.ofChange levelTellsSpec)

/-- ITS FALSE NEIGHBOUR: 'it returns false'. Refute it at one input. -/
def levelTellsWrong : ChangeSpec := { name := "levelTells", fn := fun _ => fun
  | [d1, d2, d3, d4] => { results := [.lit (.bool false)], args := [d1, d2, d3, d4] }
  | _ => none }
def LevelTellsWrongFalsely : Prop := levelTellsRow.holds Try.pinned (OpenSpec.ofChange levelTellsWrong)

/-- 'exchequerlaw15.LevelChooses': WHATEVER THE INPUT: true; the input reads as it did. -/
def levelChoosesSpec : ChangeSpec := { name := "levelChooses", fn := fun _ => fun
  | [d1, d2, d3, d4] => { results := [.lit (.bool true)], args := [d1, d2, d3, d4] }
  | _ => none }
def levelChoosesRow : OpenClaim := { program := "ytlbbkmcegbeckaa", sum := "61906a40c890a20d47c382275e7d28975bb447f76261c845cef4e95638f92777", func := "exchequer/exchequerlaw15.LevelChooses", spec := "levelChooses", inPlace := ["internal/bytealg.Compare", "slices.overlaps[exchequer/api.Run]"], unfollowed := true, recurses := true, apart := false }
def LevelChoosesSaid : Prop := levelChoosesRow.holds Try.pinned (OpenSpec.ofChange levelChoosesSpec)

/-- ITS FALSE NEIGHBOUR: 'it returns false'. Refute it at one input. -/
def levelChoosesWrong : ChangeSpec := { name := "levelChooses", fn := fun _ => fun
  | [d1, d2, d3, d4] => { results := [.lit (.bool false)], args := [d1, d2, d3, d4] }
  | _ => none }
def LevelChoosesWrongFalsely : Prop := levelChoosesRow.holds Try.pinned (OpenSpec.ofChange levelChoosesWrong)

/-- 'exchequerlaw27.CanonTells': WHATEVER THE INPUT: true; the input reads as it did. -/
def canonTellsSpec : ChangeSpec := { name := "canonTells", fn := fun _ => fun
  | [d1, d2, d3, d4] => { results := [.lit (.bool true)], args := [d1, d2, d3, d4] }
  | _ => none }
def canonTellsRow : OpenClaim := { program := "ytlbbkmcegbeckaa", sum := "61906a40c890a20d47c382275e7d28975bb447f76261c845cef4e95638f92777", func := "exchequer/exchequerlaw27.CanonTells", spec := "canonTells", unfollowed := true, recurses := true, apart := false }
def CanonTellsSaid : Prop := canonTellsRow.holds Try.pinned (OpenSpec.ofChange canonTellsSpec)

/-- ITS FALSE NEIGHBOUR: 'it returns false'. Refute it at one input. -/
def canonTellsWrong : ChangeSpec := { name := "canonTells", fn := fun _ => fun
  | [d1, d2, d3, d4] => { results := [.lit (.bool false)], args := [d1, d2, d3, d4] }
  | _ => none }
def CanonTellsWrongFalsely : Prop := canonTellsRow.holds Try.pinned (OpenSpec.ofChange canonTellsWrong)

/-- 'exchequerlaw27.CanonKeeps': WHATEVER THE INPUT: true; the input reads as it did. -/
def canonKeepsSpec : ChangeSpec := { name := "canonKeeps", fn := fun _ => fun
  | [d1, d2, d3, d4] => { results := [.lit (.bool true)], args := [d1, d2, d3, d4] }
  | _ => none }
def canonKeepsRow : OpenClaim := { program := "ytlbbkmcegbeckaa", sum := "61906a40c890a20d47c382275e7d28975bb447f76261c845cef4e95638f92777", func := "exchequer/exchequerlaw27.CanonKeeps", spec := "canonKeeps", unfollowed := true, recurses := true, apart := false }
def CanonKeepsSaid : Prop := canonKeepsRow.holds Try.pinned (OpenSpec.ofChange canonKeepsSpec)

/-- ITS FALSE NEIGHBOUR: 'it returns false'. Refute it at one input. -/
def canonKeepsWrong : ChangeSpec := { name := "canonKeeps", fn := fun _ => fun
  | [d1, d2, d3, d4] => { results := [.lit (.bool false)], args := [d1, d2, d3, d4] }
  | _ => none }
def CanonKeepsWrongFalsely : Prop := canonKeepsRow.holds Try.pinned (OpenSpec.ofChange canonKeepsWrong)

/-- 'exchequerlaw27.CanonOrder': WHATEVER THE INPUT: true; the input reads as it did. -/
def canonOrderSpec : ChangeSpec := { name := "canonOrder", fn := fun _ => fun
  | [d1, d2, d3] => { results := [.lit (.bool true)], args := [d1, d2, d3] }
  | _ => none }
def canonOrderRow : OpenClaim := { program := "ytlbbkmcegbeckaa", sum := "61906a40c890a20d47c382275e7d28975bb447f76261c845cef4e95638f92777", func := "exchequer/exchequerlaw27.CanonOrder", spec := "canonOrder", unfollowed := true, recurses := true, apart := false }
def CanonOrderSaid : Prop := canonOrderRow.holds Try.pinned (OpenSpec.ofChange canonOrderSpec)

/-- ITS FALSE NEIGHBOUR: 'it returns false'. Refute it at one input. -/
def canonOrderWrong : ChangeSpec := { name := "canonOrder", fn := fun _ => fun
  | [d1, d2, d3] => { results := [.lit (.bool false)], args := [d1, d2, d3] }
  | _ => none }
def CanonOrderWrongFalsely : Prop := canonOrderRow.holds Try.pinned (OpenSpec.ofChange canonOrderWrong)

/- THE SECOND FORM. 'bulk': how many values and letters a reading holds, each counted each time it is reached (what is shared counts as often as it is met; a slice's spare places count too). A statement '..UptoSaid' is the law's where the arguments, and the package variables that the reading takes, are together of bulk at most 1048576: NARROWER than '..Said'. Prove '..Said' where nothing that the law and all that it calls make is longer than what came in: it says more and counts as full. Else prove '..UptoSaid'. A law counts once. -/
mutual
def uptoBulk {H : Type} : DataW H → Nat
  | .lit (.string bytes) => bytes.length + 1
  | .lit _ => 1
  | .nil => 1
  | .ptr d => uptoBulk d + 1
  | .slice elems spare => uptoBulkAll elems + uptoBulkAll spare + 1
  | .agg parts => uptoBulkAll parts + 1
  | .iface _ d => uptoBulk d + 1
  | .map entries => uptoBulkEntries entries + 1
  | .held _ => 1
def uptoBulkAll {H : Type} : List (DataW H) → Nat
  | [] => 0
  | d :: r => uptoBulk d + uptoBulkAll r
def uptoBulkEntries {H : Type} : List (Lit × DataW H) → Nat
  | [] => 0
  | x :: r => uptoBulkEntry x + uptoBulkEntries r
def uptoBulkEntry {H : Type} : Lit × DataW H → Nat
  | (.string bytes, d) => bytes.length + uptoBulk d + 1
  | (_, d) => uptoBulk d + 1
 end
def uptoSmall : (H : Type) → List (DataW H) → Bool := fun _ ds => decide (uptoBulkAll ds ≤ 1048576)
def OpenSpec.upto (s : _root_.Go.ChangeSpec) : _root_.Go.OpenSpec := { _root_.Go.OpenSpec.ofChange s with cond := some uptoSmall }

/-- 'exchequerlaw15.LevelTells', WHERE WHAT IT READS IS OF BULK AT MOST 1048576: true; the input reads as it did. -/
def levelTellsUptoRow : OpenClaim := { program := "ytlbbkmcegbeckaa", sum := "61906a40c890a20d47c382275e7d28975bb447f76261c845cef4e95638f92777", func := "exchequer/exchequerlaw15.LevelTells", spec := "levelTells", inPlace := ["internal/bytealg.Compare", "slices.overlaps[exchequer/api.Run]"], unfollowed := true, recurses := true, apart := false, narrowed := true }
def LevelTellsUptoSaid : Prop := levelTellsUptoRow.holds Try.pinned (OpenSpec.upto levelTellsSpec)

/-- 'exchequerlaw15.LevelChooses', WHERE WHAT IT READS IS OF BULK AT MOST 1048576: true; the input reads as it did. -/
def levelChoosesUptoRow : OpenClaim := { program := "ytlbbkmcegbeckaa", sum := "61906a40c890a20d47c382275e7d28975bb447f76261c845cef4e95638f92777", func := "exchequer/exchequerlaw15.LevelChooses", spec := "levelChooses", inPlace := ["internal/bytealg.Compare", "slices.overlaps[exchequer/api.Run]"], unfollowed := true, recurses := true, apart := false, narrowed := true }
def LevelChoosesUptoSaid : Prop := levelChoosesUptoRow.holds Try.pinned (OpenSpec.upto levelChoosesSpec)

/-- 'exchequerlaw27.CanonTells', WHERE WHAT IT READS IS OF BULK AT MOST 1048576: true; the input reads as it did. -/
def canonTellsUptoRow : OpenClaim := { program := "ytlbbkmcegbeckaa", sum := "61906a40c890a20d47c382275e7d28975bb447f76261c845cef4e95638f92777", func := "exchequer/exchequerlaw27.CanonTells", spec := "canonTells", unfollowed := true, recurses := true, apart := false, narrowed := true }
def CanonTellsUptoSaid : Prop := canonTellsUptoRow.holds Try.pinned (OpenSpec.upto canonTellsSpec)

/-- 'exchequerlaw27.CanonKeeps', WHERE WHAT IT READS IS OF BULK AT MOST 1048576: true; the input reads as it did. -/
def canonKeepsUptoRow : OpenClaim := { program := "ytlbbkmcegbeckaa", sum := "61906a40c890a20d47c382275e7d28975bb447f76261c845cef4e95638f92777", func := "exchequer/exchequerlaw27.CanonKeeps", spec := "canonKeeps", unfollowed := true, recurses := true, apart := false, narrowed := true }
def CanonKeepsUptoSaid : Prop := canonKeepsUptoRow.holds Try.pinned (OpenSpec.upto canonKeepsSpec)

/-- 'exchequerlaw27.CanonOrder', WHERE WHAT IT READS IS OF BULK AT MOST 1048576: true; the input reads as it did. -/
def canonOrderUptoRow : OpenClaim := { program := "ytlbbkmcegbeckaa", sum := "61906a40c890a20d47c382275e7d28975bb447f76261c845cef4e95638f92777", func := "exchequer/exchequerlaw27.CanonOrder", spec := "canonOrder", unfollowed := true, recurses := true, apart := false, narrowed := true }
def CanonOrderUptoSaid : Prop := canonOrderUptoRow.holds Try.pinned (OpenSpec.upto canonOrderSpec)

end Rows
end Go.Proofs.Ytlbbkmcegbeckaa
