/-
  Contracts of a chapter's functions: a choice leans on no order of votes. Conditions: none.
  Arguments that are structs and slices of integers and bools, nested: what they read as. Conditions: none; nothing here speaks of one program.
  What is handed on alone reads behind the call as it read before. Conditions: none; nothing here speaks of one program.
-/
import Derived.Test.YtlbbkmcegbeckaaSmA
import Derived.Test.YtlbbkmcegbeckaaSzS
import Derived.ChangeFn
import Derived.WideFn
import Derived.ChangeSame
import Derived.RowKit3
import Derived.ChangeReads
import Derived.ChangeOld
import Derived.ReadAgain
set_option linter.unusedSectionVars false
set_option linter.unusedVariables false
set_option linter.unusedSimpArgs false
namespace Go.Proofs.Ytlbbkmcegbeckaa.Cn
open Go.Sx Go.Proofs
noncomputable def T12 : List (FuncId × Fsp) := [(43, SAwake), (30, S30), (32, SCho), (36, S36), (44, SMost), (40, SHas)]
set_option maxRecDepth 100000 in
theorem hT12 : TabOK U Try.prog T12 := .cons c43 (.cons c30 (.cons c32 (.cons c36 (.cons c44 (.cons c40 .nil)))))
noncomputable def SOrder : Fsp := ⟨[(false, [sVotes]), (false, [sI]), (false, [sI])], [], [(false, [.bool])], [([], [[.lit (.bool true)]])], true⟩
noncomputable def osX (F : Fm) (H : HP) (t : Nat) : X := match F.get t with
 | some (.one (.os z b _ _ _ _)) => match rowsAt H b with
  | some (_, _, e, _) => .ap (.mk z) [e]
  | none => I 0
 | _ => I 0
noncomputable def hdX : X := .ap (.usr 153) [.var 0, .var 1]
noncomputable def lp7 : Lp := ⟨[(.slot 16, .int .i64), (.slot 17, .int .i64)], [0, 1, 6, 7, 10, 15], [], fun F H k => [.ap .le [zI, .var (k+1)], .ap .le [.var (k+1), .ap .len [hdX]], .ap .le [zI, .var k], .ap .le [.var k, .var (k+1)], .ap .same [.var k, .ap (.usr 186) [.var 0, hdX, .var (k+1)]]], fun F H k => .ap (.sub .i64) [.ap .len [hdX], .var (k+1)]⟩
noncomputable def asL : List (Nat × (Fm → HP → List X)) := [(4, fun F H => [.ap .le [I 1, .ap .len [.var 0]]]), (5, fun F H => [.ap .lt [zI, .ap (.add .i64) [sx F 8, .ap .len [.var 0]]], .ap .lt [sx F 8, .ap .len [.var 0]]]), (7, fun F H => [.ap .le [zI, sx F 8], .ap .le [sx F 8, .ap .len [.var 0]], .ap .le [.ap .len [.ap .cut [.var 0, sx F 8, .ap .len [.var 0]]], I 10], .ap .le [.ap .len [.ap .cut [.var 0, zI, sx F 8]], I 10]]), (8, fun F H => [.ap .le [.ap .len [.var 0], I 10], .ap .not [.ap (.usr 119) [.var 0]], .ap (.usr 187) [.var 0, osX F H 9]]), (9, fun F H => [.ap .le [.ap .len [osX F H 9], I 10], .ap .not [.ap (.usr 119) [osX F H 9]]])]
abbrev r7_h0 : List X := [(.ap (.typ sVotes) [(.var 0)]), (.ap .le [mnX, (.var 1)]), (.ap .le [(.var 1), mxX]), (.ap .le [mnX, (.var 2)]), (.ap .le [(.var 2), mxX])]
abbrev r7_h1 : List X := (.ap .le [(I 1), (.ap .len [(.var 0)])]) :: (.ap .not [(.ap .eq [(.ap .len [(.var 0)]), (I 0)])]) :: (.ap .not [(.ap (.usr 127) [(.var 0)])]) :: r7_h0
abbrev r7_h2 : List X := (.ap .lt [(.ap (.bin .rem .i64) [(.var 2), (.ap .len [(.var 0)])]), (I 0)]) :: (.ap .lt [(I 0), (.ap (.add .i64) [(.ap (.bin .rem .i64) [(.var 2), (.ap .len [(.var 0)])]), (.ap .len [(.var 0)])])]) :: (.ap .lt [(.ap (.bin .rem .i64) [(.var 2), (.ap .len [(.var 0)])]), (.ap .len [(.var 0)])]) :: r7_h1
abbrev r7_h3 : List X := (.ap .le [(I 0), (.ap (.neg .i64) [(.ap (.bin .rem .i64) [(.var 2), (.ap .len [(.var 0)])])])]) :: (.ap .le [(.ap (.neg .i64) [(.ap (.bin .rem .i64) [(.var 2), (.ap .len [(.var 0)])])]), (.ap .len [(.var 0)])]) :: (.ap .le [(.ap .len [(.ap .cut [(.var 0), (.ap (.neg .i64) [(.ap (.bin .rem .i64) [(.var 2), (.ap .len [(.var 0)])])]), (.ap .len [(.var 0)])])]), (I 10)]) :: (.ap .le [(.ap .len [(.ap .cut [(.var 0), (I 0), (.ap (.neg .i64) [(.ap (.bin .rem .i64) [(.var 2), (.ap .len [(.var 0)])])])])]), (I 10)]) :: r7_h2
abbrev r7_h4 : List X := (.ap .le [mnX, (.ap (.usr 151) [(.var 0), (.var 1)])]) :: (.ap .le [(.ap (.usr 151) [(.var 0), (.var 1)]), mxX]) :: (.ap .le [mnX, (.ap (.usr 152) [(.var 0), (.var 1)])]) :: (.ap .le [(.ap (.usr 152) [(.var 0), (.var 1)]), mxX]) :: (.ap (.typ (.sl sHead)) [(.ap (.usr 153) [(.var 0), (.var 1)])]) :: (.ap .le [mnX, (.ap (.usr 150) [(.var 0), (.var 1)])]) :: (.ap .le [(.ap (.usr 150) [(.var 0), (.var 1)]), mxX]) :: (.ap .le [(.ap .len [(.var 0)]), (I 10)]) :: (.ap .not [(.ap (.usr 119) [(.var 0)])]) :: (.ap (.usr 187) [(.var 0), (.ap (.mk false) [(.ap .cat [(.ap (.mk false) [(.ap .cut [(.var 0), (.ap (.neg .i64) [(.ap (.bin .rem .i64) [(.var 2), (.ap .len [(.var 0)])])]), (.ap .len [(.var 0)])])]), (.ap .cut [(.var 0), (I 0), (.ap (.neg .i64) [(.ap (.bin .rem .i64) [(.var 2), (.ap .len [(.var 0)])])])])])])]) :: r7_h3
abbrev r7_h5 : List X := (.ap .le [mnX, (.ap (.usr 151) [(.ap (.mk false) [(.ap .cat [(.ap (.mk false) [(.ap .cut [(.var 0), (.ap (.neg .i64) [(.ap (.bin .rem .i64) [(.var 2), (.ap .len [(.var 0)])])]), (.ap .len [(.var 0)])])]), (.ap .cut [(.var 0), (I 0), (.ap (.neg .i64) [(.ap (.bin .rem .i64) [(.var 2), (.ap .len [(.var 0)])])])])])]), (.var 1)])]) :: (.ap .le [(.ap (.usr 151) [(.ap (.mk false) [(.ap .cat [(.ap (.mk false) [(.ap .cut [(.var 0), (.ap (.neg .i64) [(.ap (.bin .rem .i64) [(.var 2), (.ap .len [(.var 0)])])]), (.ap .len [(.var 0)])])]), (.ap .cut [(.var 0), (I 0), (.ap (.neg .i64) [(.ap (.bin .rem .i64) [(.var 2), (.ap .len [(.var 0)])])])])])]), (.var 1)]), mxX]) :: (.ap .le [mnX, (.ap (.usr 152) [(.ap (.mk false) [(.ap .cat [(.ap (.mk false) [(.ap .cut [(.var 0), (.ap (.neg .i64) [(.ap (.bin .rem .i64) [(.var 2), (.ap .len [(.var 0)])])]), (.ap .len [(.var 0)])])]), (.ap .cut [(.var 0), (I 0), (.ap (.neg .i64) [(.ap (.bin .rem .i64) [(.var 2), (.ap .len [(.var 0)])])])])])]), (.var 1)])]) :: (.ap .le [(.ap (.usr 152) [(.ap (.mk false) [(.ap .cat [(.ap (.mk false) [(.ap .cut [(.var 0), (.ap (.neg .i64) [(.ap (.bin .rem .i64) [(.var 2), (.ap .len [(.var 0)])])]), (.ap .len [(.var 0)])])]), (.ap .cut [(.var 0), (I 0), (.ap (.neg .i64) [(.ap (.bin .rem .i64) [(.var 2), (.ap .len [(.var 0)])])])])])]), (.var 1)]), mxX]) :: (.ap (.typ (.sl sHead)) [(.ap (.usr 153) [(.ap (.mk false) [(.ap .cat [(.ap (.mk false) [(.ap .cut [(.var 0), (.ap (.neg .i64) [(.ap (.bin .rem .i64) [(.var 2), (.ap .len [(.var 0)])])]), (.ap .len [(.var 0)])])]), (.ap .cut [(.var 0), (I 0), (.ap (.neg .i64) [(.ap (.bin .rem .i64) [(.var 2), (.ap .len [(.var 0)])])])])])]), (.var 1)])]) :: (.ap .le [mnX, (.ap (.usr 150) [(.ap (.mk false) [(.ap .cat [(.ap (.mk false) [(.ap .cut [(.var 0), (.ap (.neg .i64) [(.ap (.bin .rem .i64) [(.var 2), (.ap .len [(.var 0)])])]), (.ap .len [(.var 0)])])]), (.ap .cut [(.var 0), (I 0), (.ap (.neg .i64) [(.ap (.bin .rem .i64) [(.var 2), (.ap .len [(.var 0)])])])])])]), (.var 1)])]) :: (.ap .le [(.ap (.usr 150) [(.ap (.mk false) [(.ap .cat [(.ap (.mk false) [(.ap .cut [(.var 0), (.ap (.neg .i64) [(.ap (.bin .rem .i64) [(.var 2), (.ap .len [(.var 0)])])]), (.ap .len [(.var 0)])])]), (.ap .cut [(.var 0), (I 0), (.ap (.neg .i64) [(.ap (.bin .rem .i64) [(.var 2), (.ap .len [(.var 0)])])])])])]), (.var 1)]), mxX]) :: (.ap .le [(.ap .len [(.ap (.mk false) [(.ap .cat [(.ap (.mk false) [(.ap .cut [(.var 0), (.ap (.neg .i64) [(.ap (.bin .rem .i64) [(.var 2), (.ap .len [(.var 0)])])]), (.ap .len [(.var 0)])])]), (.ap .cut [(.var 0), (I 0), (.ap (.neg .i64) [(.ap (.bin .rem .i64) [(.var 2), (.ap .len [(.var 0)])])])])])])]), (I 10)]) :: (.ap .not [(.ap (.usr 119) [(.ap (.mk false) [(.ap .cat [(.ap (.mk false) [(.ap .cut [(.var 0), (.ap (.neg .i64) [(.ap (.bin .rem .i64) [(.var 2), (.ap .len [(.var 0)])])]), (.ap .len [(.var 0)])])]), (.ap .cut [(.var 0), (I 0), (.ap (.neg .i64) [(.ap (.bin .rem .i64) [(.var 2), (.ap .len [(.var 0)])])])])])])])]) :: r7_h4
abbrev r7_h6 : List X := (.ap .le [mnX, (.ap (.usr 140) [(.var 0)])]) :: (.ap .le [(.ap (.usr 140) [(.var 0)]), mxX]) :: (.ap .le [mnX, (.ap (.usr 142) [(.var 0)])]) :: (.ap .le [(.ap (.usr 142) [(.var 0)]), mxX]) :: (.ap .eq [(.ap (.usr 150) [(.var 0), (.var 1)]), (I 0)]) :: (.ap (.usr 131) [(.ap (.usr 151) [(.var 0), (.var 1)]), (.ap (.usr 152) [(.var 0), (.var 1)]), (.ap (.usr 153) [(.var 0), (.var 1)]), (.ap (.usr 151) [(.ap (.mk false) [(.ap .cat [(.ap (.mk false) [(.ap .cut [(.var 0), (.ap (.neg .i64) [(.ap (.bin .rem .i64) [(.var 2), (.ap .len [(.var 0)])])]), (.ap .len [(.var 0)])])]), (.ap .cut [(.var 0), (I 0), (.ap (.neg .i64) [(.ap (.bin .rem .i64) [(.var 2), (.ap .len [(.var 0)])])])])])]), (.var 1)]), (.ap (.usr 152) [(.ap (.mk false) [(.ap .cat [(.ap (.mk false) [(.ap .cut [(.var 0), (.ap (.neg .i64) [(.ap (.bin .rem .i64) [(.var 2), (.ap .len [(.var 0)])])]), (.ap .len [(.var 0)])])]), (.ap .cut [(.var 0), (I 0), (.ap (.neg .i64) [(.ap (.bin .rem .i64) [(.var 2), (.ap .len [(.var 0)])])])])])]), (.var 1)]), (.ap (.usr 153) [(.ap (.mk false) [(.ap .cat [(.ap (.mk false) [(.ap .cut [(.var 0), (.ap (.neg .i64) [(.ap (.bin .rem .i64) [(.var 2), (.ap .len [(.var 0)])])]), (.ap .len [(.var 0)])])]), (.ap .cut [(.var 0), (I 0), (.ap (.neg .i64) [(.ap (.bin .rem .i64) [(.var 2), (.ap .len [(.var 0)])])])])])]), (.var 1)])]) :: (.ap .eq [(.ap (.usr 150) [(.var 0), (.var 1)]), (.ap (.usr 150) [(.ap (.mk false) [(.ap .cat [(.ap (.mk false) [(.ap .cut [(.var 0), (.ap (.neg .i64) [(.ap (.bin .rem .i64) [(.var 2), (.ap .len [(.var 0)])])]), (.ap .len [(.var 0)])])]), (.ap .cut [(.var 0), (I 0), (.ap (.neg .i64) [(.ap (.bin .rem .i64) [(.var 2), (.ap .len [(.var 0)])])])])])]), (.var 1)])]) :: r7_h5
abbrev r7_h7 : List X := (.ap .le [(I 0), (.var 4)]) :: (.ap .le [(.var 4), (.ap .len [(.ap (.usr 153) [(.var 0), (.var 1)])])]) :: (.ap .le [(I 0), (.var 3)]) :: (.ap .le [(.var 3), (.var 4)]) :: (.ap .same [(.var 3), (.ap (.usr 186) [(.var 0), (.ap (.usr 153) [(.var 0), (.var 1)]), (.var 4)])]) :: (.ap .not [(.ap .lt [(.ap (.usr 151) [(.var 0), (.var 1)]), (.ap (.usr 142) [(.var 0)])])]) :: (.ap .eq [(.ap (.usr 152) [(.var 0), (.var 1)]), (.ap (.usr 142) [(.var 0)])]) :: r7_h6
abbrev r7_h8 : List X := (.ap .not [(.ap .le [(.ap (.cell 0) [(.ap (.usr 153) [(.var 0), (.var 1)]), (.var 4)]), (.ap (.cell 0) [(.ap (.usr 153) [(.var 0), (.var 1)]), (.ap (.sub .i64) [(.var 4), (I 1)])])])]) :: (.ap .lt [(I 0), (.var 4)]) :: (.ap .lt [(.var 4), (.ap .len [(.ap (.usr 153) [(.var 0), (.var 1)])])]) :: r7_h7
abbrev r7_h9 : List X := (.ap (.typ (.sl [sI])) [(.ap (.usr 109) [(.ap (.cell 0) [(.ap (.usr 153) [(.var 0), (.var 1)]), (.var 4)]), (.ap (.cell 1) [(.ap (.usr 153) [(.var 0), (.var 1)]), (.var 4)]), (.var 0)])]) :: (.ap .lt [(.ap (.usr 142) [(.var 0)]), (.ap (.cell 0) [(.ap (.usr 153) [(.var 0), (.var 1)]), (.var 4)])]) :: (.ap .not [(.ap .lt [(.ap (.usr 151) [(.var 0), (.var 1)]), (.ap (.cell 0) [(.ap (.usr 153) [(.var 0), (.var 1)]), (.var 4)])])]) :: r7_h8
abbrev r7_h10 : List X := (.ap .not [(.ap .lt [(.ap (.usr 151) [(.var 0), (.var 1)]), (.ap (.cell 0) [(.ap (.usr 153) [(.var 0), (.var 1)]), (.var 4)])])]) :: (.ap .not [(.ap .lt [(I 0), (.var 4)])]) :: (.ap .lt [(.var 4), (.ap .len [(.ap (.usr 153) [(.var 0), (.var 1)])])]) :: r7_h7
abbrev r7_h11 : List X := (.ap .not [(.ap .lt [(.ap (.bin .rem .i64) [(.var 2), (.ap .len [(.var 0)])]), (I 0)])]) :: (.ap .lt [(I 0), (.ap (.add .i64) [(.ap (.bin .rem .i64) [(.var 2), (.ap .len [(.var 0)])]), (.ap .len [(.var 0)])])]) :: (.ap .lt [(.ap (.bin .rem .i64) [(.var 2), (.ap .len [(.var 0)])]), (.ap .len [(.var 0)])]) :: r7_h1
abbrev r7_h12 : List X := (.ap .le [(I 0), (.ap (.bin .rem .i64) [(.var 2), (.ap .len [(.var 0)])])]) :: (.ap .le [(.ap (.bin .rem .i64) [(.var 2), (.ap .len [(.var 0)])]), (.ap .len [(.var 0)])]) :: (.ap .le [(.ap .len [(.ap .cut [(.var 0), (.ap (.bin .rem .i64) [(.var 2), (.ap .len [(.var 0)])]), (.ap .len [(.var 0)])])]), (I 10)]) :: (.ap .le [(.ap .len [(.ap .cut [(.var 0), (I 0), (.ap (.bin .rem .i64) [(.var 2), (.ap .len [(.var 0)])])])]), (I 10)]) :: r7_h11
abbrev r7_h13 : List X := (.ap .le [mnX, (.ap (.usr 151) [(.var 0), (.var 1)])]) :: (.ap .le [(.ap (.usr 151) [(.var 0), (.var 1)]), mxX]) :: (.ap .le [mnX, (.ap (.usr 152) [(.var 0), (.var 1)])]) :: (.ap .le [(.ap (.usr 152) [(.var 0), (.var 1)]), mxX]) :: (.ap (.typ (.sl sHead)) [(.ap (.usr 153) [(.var 0), (.var 1)])]) :: (.ap .le [mnX, (.ap (.usr 150) [(.var 0), (.var 1)])]) :: (.ap .le [(.ap (.usr 150) [(.var 0), (.var 1)]), mxX]) :: (.ap .le [(.ap .len [(.var 0)]), (I 10)]) :: (.ap .not [(.ap (.usr 119) [(.var 0)])]) :: (.ap (.usr 187) [(.var 0), (.ap (.mk false) [(.ap .cat [(.ap (.mk false) [(.ap .cut [(.var 0), (.ap (.bin .rem .i64) [(.var 2), (.ap .len [(.var 0)])]), (.ap .len [(.var 0)])])]), (.ap .cut [(.var 0), (I 0), (.ap (.bin .rem .i64) [(.var 2), (.ap .len [(.var 0)])])])])])]) :: r7_h12
abbrev r7_h14 : List X := (.ap .le [mnX, (.ap (.usr 151) [(.ap (.mk false) [(.ap .cat [(.ap (.mk false) [(.ap .cut [(.var 0), (.ap (.bin .rem .i64) [(.var 2), (.ap .len [(.var 0)])]), (.ap .len [(.var 0)])])]), (.ap .cut [(.var 0), (I 0), (.ap (.bin .rem .i64) [(.var 2), (.ap .len [(.var 0)])])])])]), (.var 1)])]) :: (.ap .le [(.ap (.usr 151) [(.ap (.mk false) [(.ap .cat [(.ap (.mk false) [(.ap .cut [(.var 0), (.ap (.bin .rem .i64) [(.var 2), (.ap .len [(.var 0)])]), (.ap .len [(.var 0)])])]), (.ap .cut [(.var 0), (I 0), (.ap (.bin .rem .i64) [(.var 2), (.ap .len [(.var 0)])])])])]), (.var 1)]), mxX]) :: (.ap .le [mnX, (.ap (.usr 152) [(.ap (.mk false) [(.ap .cat [(.ap (.mk false) [(.ap .cut [(.var 0), (.ap (.bin .rem .i64) [(.var 2), (.ap .len [(.var 0)])]), (.ap .len [(.var 0)])])]), (.ap .cut [(.var 0), (I 0), (.ap (.bin .rem .i64) [(.var 2), (.ap .len [(.var 0)])])])])]), (.var 1)])]) :: (.ap .le [(.ap (.usr 152) [(.ap (.mk false) [(.ap .cat [(.ap (.mk false) [(.ap .cut [(.var 0), (.ap (.bin .rem .i64) [(.var 2), (.ap .len [(.var 0)])]), (.ap .len [(.var 0)])])]), (.ap .cut [(.var 0), (I 0), (.ap (.bin .rem .i64) [(.var 2), (.ap .len [(.var 0)])])])])]), (.var 1)]), mxX]) :: (.ap (.typ (.sl sHead)) [(.ap (.usr 153) [(.ap (.mk false) [(.ap .cat [(.ap (.mk false) [(.ap .cut [(.var 0), (.ap (.bin .rem .i64) [(.var 2), (.ap .len [(.var 0)])]), (.ap .len [(.var 0)])])]), (.ap .cut [(.var 0), (I 0), (.ap (.bin .rem .i64) [(.var 2), (.ap .len [(.var 0)])])])])]), (.var 1)])]) :: (.ap .le [mnX, (.ap (.usr 150) [(.ap (.mk false) [(.ap .cat [(.ap (.mk false) [(.ap .cut [(.var 0), (.ap (.bin .rem .i64) [(.var 2), (.ap .len [(.var 0)])]), (.ap .len [(.var 0)])])]), (.ap .cut [(.var 0), (I 0), (.ap (.bin .rem .i64) [(.var 2), (.ap .len [(.var 0)])])])])]), (.var 1)])]) :: (.ap .le [(.ap (.usr 150) [(.ap (.mk false) [(.ap .cat [(.ap (.mk false) [(.ap .cut [(.var 0), (.ap (.bin .rem .i64) [(.var 2), (.ap .len [(.var 0)])]), (.ap .len [(.var 0)])])]), (.ap .cut [(.var 0), (I 0), (.ap (.bin .rem .i64) [(.var 2), (.ap .len [(.var 0)])])])])]), (.var 1)]), mxX]) :: (.ap .le [(.ap .len [(.ap (.mk false) [(.ap .cat [(.ap (.mk false) [(.ap .cut [(.var 0), (.ap (.bin .rem .i64) [(.var 2), (.ap .len [(.var 0)])]), (.ap .len [(.var 0)])])]), (.ap .cut [(.var 0), (I 0), (.ap (.bin .rem .i64) [(.var 2), (.ap .len [(.var 0)])])])])])]), (I 10)]) :: (.ap .not [(.ap (.usr 119) [(.ap (.mk false) [(.ap .cat [(.ap (.mk false) [(.ap .cut [(.var 0), (.ap (.bin .rem .i64) [(.var 2), (.ap .len [(.var 0)])]), (.ap .len [(.var 0)])])]), (.ap .cut [(.var 0), (I 0), (.ap (.bin .rem .i64) [(.var 2), (.ap .len [(.var 0)])])])])])])]) :: r7_h13
abbrev r7_h15 : List X := (.ap .le [mnX, (.ap (.usr 140) [(.var 0)])]) :: (.ap .le [(.ap (.usr 140) [(.var 0)]), mxX]) :: (.ap .le [mnX, (.ap (.usr 142) [(.var 0)])]) :: (.ap .le [(.ap (.usr 142) [(.var 0)]), mxX]) :: (.ap .eq [(.ap (.usr 150) [(.var 0), (.var 1)]), (I 0)]) :: (.ap (.usr 131) [(.ap (.usr 151) [(.var 0), (.var 1)]), (.ap (.usr 152) [(.var 0), (.var 1)]), (.ap (.usr 153) [(.var 0), (.var 1)]), (.ap (.usr 151) [(.ap (.mk false) [(.ap .cat [(.ap (.mk false) [(.ap .cut [(.var 0), (.ap (.bin .rem .i64) [(.var 2), (.ap .len [(.var 0)])]), (.ap .len [(.var 0)])])]), (.ap .cut [(.var 0), (I 0), (.ap (.bin .rem .i64) [(.var 2), (.ap .len [(.var 0)])])])])]), (.var 1)]), (.ap (.usr 152) [(.ap (.mk false) [(.ap .cat [(.ap (.mk false) [(.ap .cut [(.var 0), (.ap (.bin .rem .i64) [(.var 2), (.ap .len [(.var 0)])]), (.ap .len [(.var 0)])])]), (.ap .cut [(.var 0), (I 0), (.ap (.bin .rem .i64) [(.var 2), (.ap .len [(.var 0)])])])])]), (.var 1)]), (.ap (.usr 153) [(.ap (.mk false) [(.ap .cat [(.ap (.mk false) [(.ap .cut [(.var 0), (.ap (.bin .rem .i64) [(.var 2), (.ap .len [(.var 0)])]), (.ap .len [(.var 0)])])]), (.ap .cut [(.var 0), (I 0), (.ap (.bin .rem .i64) [(.var 2), (.ap .len [(.var 0)])])])])]), (.var 1)])]) :: (.ap .eq [(.ap (.usr 150) [(.var 0), (.var 1)]), (.ap (.usr 150) [(.ap (.mk false) [(.ap .cat [(.ap (.mk false) [(.ap .cut [(.var 0), (.ap (.bin .rem .i64) [(.var 2), (.ap .len [(.var 0)])]), (.ap .len [(.var 0)])])]), (.ap .cut [(.var 0), (I 0), (.ap (.bin .rem .i64) [(.var 2), (.ap .len [(.var 0)])])])])]), (.var 1)])]) :: r7_h14
abbrev r7_h16 : List X := (.ap .le [(I 0), (.var 4)]) :: (.ap .le [(.var 4), (.ap .len [(.ap (.usr 153) [(.var 0), (.var 1)])])]) :: (.ap .le [(I 0), (.var 3)]) :: (.ap .le [(.var 3), (.var 4)]) :: (.ap .same [(.var 3), (.ap (.usr 186) [(.var 0), (.ap (.usr 153) [(.var 0), (.var 1)]), (.var 4)])]) :: (.ap .not [(.ap .lt [(.ap (.usr 151) [(.var 0), (.var 1)]), (.ap (.usr 142) [(.var 0)])])]) :: (.ap .eq [(.ap (.usr 152) [(.var 0), (.var 1)]), (.ap (.usr 142) [(.var 0)])]) :: r7_h15
abbrev r7_h17 : List X := (.ap .not [(.ap .le [(.ap (.cell 0) [(.ap (.usr 153) [(.var 0), (.var 1)]), (.var 4)]), (.ap (.cell 0) [(.ap (.usr 153) [(.var 0), (.var 1)]), (.ap (.sub .i64) [(.var 4), (I 1)])])])]) :: (.ap .lt [(I 0), (.var 4)]) :: (.ap .lt [(.var 4), (.ap .len [(.ap (.usr 153) [(.var 0), (.var 1)])])]) :: r7_h16
abbrev r7_h18 : List X := (.ap (.typ (.sl [sI])) [(.ap (.usr 109) [(.ap (.cell 0) [(.ap (.usr 153) [(.var 0), (.var 1)]), (.var 4)]), (.ap (.cell 1) [(.ap (.usr 153) [(.var 0), (.var 1)]), (.var 4)]), (.var 0)])]) :: (.ap .lt [(.ap (.usr 142) [(.var 0)]), (.ap (.cell 0) [(.ap (.usr 153) [(.var 0), (.var 1)]), (.var 4)])]) :: (.ap .not [(.ap .lt [(.ap (.usr 151) [(.var 0), (.var 1)]), (.ap (.cell 0) [(.ap (.usr 153) [(.var 0), (.var 1)]), (.var 4)])])]) :: r7_h17
abbrev r7_h19 : List X := (.ap .not [(.ap .lt [(.ap (.usr 151) [(.var 0), (.var 1)]), (.ap (.cell 0) [(.ap (.usr 153) [(.var 0), (.var 1)]), (.var 4)])])]) :: (.ap .not [(.ap .lt [(I 0), (.var 4)])]) :: (.ap .lt [(.var 4), (.ap .len [(.ap (.usr 153) [(.var 0), (.var 1)])])]) :: r7_h16
def r7_v : List VC := [(((.ap .not [(.ap .eq [(.ap .len [(.var 0)]), (I 0)])]) :: (.ap .not [(.ap (.usr 127) [(.var 0)])]) :: r7_h0), (.ap .le [(I 1), (.ap .len [(.var 0)])])),
 (r7_h1, (.ap .lt [(I 0), (.ap (.add .i64) [(.ap (.bin .rem .i64) [(.var 2), (.ap .len [(.var 0)])]), (.ap .len [(.var 0)])])])),
 (r7_h1, (.ap .lt [(.ap (.bin .rem .i64) [(.var 2), (.ap .len [(.var 0)])]), (.ap .len [(.var 0)])])),
 (r7_h2, (.ap .le [(I 0), (.ap (.neg .i64) [(.ap (.bin .rem .i64) [(.var 2), (.ap .len [(.var 0)])])])])),
 (r7_h2, (.ap .le [(.ap (.neg .i64) [(.ap (.bin .rem .i64) [(.var 2), (.ap .len [(.var 0)])])]), (.ap .len [(.var 0)])])),
 (r7_h2, (.ap .le [(.ap .len [(.ap .cut [(.var 0), (.ap (.neg .i64) [(.ap (.bin .rem .i64) [(.var 2), (.ap .len [(.var 0)])])]), (.ap .len [(.var 0)])])]), (I 10)])),
 (r7_h2, (.ap .le [(.ap .len [(.ap .cut [(.var 0), (I 0), (.ap (.neg .i64) [(.ap (.bin .rem .i64) [(.var 2), (.ap .len [(.var 0)])])])])]), (I 10)])),
 (r7_h3, (.ap .le [(.ap .len [(.var 0)]), (I 10)])),
 (r7_h3, (.ap .not [(.ap (.usr 119) [(.var 0)])])),
 (r7_h3, (.ap (.usr 187) [(.var 0), (.ap (.mk false) [(.ap .cat [(.ap (.mk false) [(.ap .cut [(.var 0), (.ap (.neg .i64) [(.ap (.bin .rem .i64) [(.var 2), (.ap .len [(.var 0)])])]), (.ap .len [(.var 0)])])]), (.ap .cut [(.var 0), (I 0), (.ap (.neg .i64) [(.ap (.bin .rem .i64) [(.var 2), (.ap .len [(.var 0)])])])])])])])),
 (r7_h4, (.ap .le [(.ap .len [(.ap (.mk false) [(.ap .cat [(.ap (.mk false) [(.ap .cut [(.var 0), (.ap (.neg .i64) [(.ap (.bin .rem .i64) [(.var 2), (.ap .len [(.var 0)])])]), (.ap .len [(.var 0)])])]), (.ap .cut [(.var 0), (I 0), (.ap (.neg .i64) [(.ap (.bin .rem .i64) [(.var 2), (.ap .len [(.var 0)])])])])])])]), (I 10)])),
 (r7_h4, (.ap .not [(.ap (.usr 119) [(.ap (.mk false) [(.ap .cat [(.ap (.mk false) [(.ap .cut [(.var 0), (.ap (.neg .i64) [(.ap (.bin .rem .i64) [(.var 2), (.ap .len [(.var 0)])])]), (.ap .len [(.var 0)])])]), (.ap .cut [(.var 0), (I 0), (.ap (.neg .i64) [(.ap (.bin .rem .i64) [(.var 2), (.ap .len [(.var 0)])])])])])])])])),
 (((.ap .not [(.ap .lt [(.ap (.usr 151) [(.var 0), (.var 1)]), (.ap (.usr 142) [(.var 0)])])]) :: (.ap .eq [(.ap (.usr 152) [(.var 0), (.var 1)]), (.ap (.usr 142) [(.var 0)])]) :: r7_h6), (.ap .same [(I 0), (.ap (.usr 186) [(.var 0), (.ap (.usr 153) [(.var 0), (.var 1)]), (I 0)])])),
 (((.ap .not [(.ap .eq [(.ap .len [(.ap (.usr 109) [(.ap (.cell 0) [(.ap (.usr 153) [(.var 0), (.var 1)]), (.var 4)]), (.ap (.cell 1) [(.ap (.usr 153) [(.var 0), (.var 1)]), (.var 4)]), (.var 0)])]), (I 0)])]) :: r7_h9), (.ap .same [(.ap (.add .i64) [(.var 3), (I 1)]), (.ap (.usr 186) [(.var 0), (.ap (.usr 153) [(.var 0), (.var 1)]), (.ap (.add .i64) [(.var 4), (I 1)])])])),
 (((.ap .not [(.ap .lt [(.ap (.usr 142) [(.var 0)]), (.ap (.cell 0) [(.ap (.usr 153) [(.var 0), (.var 1)]), (.var 4)])])]) :: (.ap .not [(.ap .lt [(.ap (.usr 151) [(.var 0), (.var 1)]), (.ap (.cell 0) [(.ap (.usr 153) [(.var 0), (.var 1)]), (.var 4)])])]) :: r7_h8), (.ap .same [(.var 3), (.ap (.usr 186) [(.var 0), (.ap (.usr 153) [(.var 0), (.var 1)]), (.ap (.add .i64) [(.var 4), (I 1)])])])),
 (((.ap .not [(.ap .eq [(.ap .len [(.ap (.usr 109) [(.ap (.cell 0) [(.ap (.usr 153) [(.var 0), (.var 1)]), (.var 4)]), (.ap (.cell 1) [(.ap (.usr 153) [(.var 0), (.var 1)]), (.var 4)]), (.var 0)])]), (I 0)])]) :: (.ap (.typ (.sl [sI])) [(.ap (.usr 109) [(.ap (.cell 0) [(.ap (.usr 153) [(.var 0), (.var 1)]), (.var 4)]), (.ap (.cell 1) [(.ap (.usr 153) [(.var 0), (.var 1)]), (.var 4)]), (.var 0)])]) :: (.ap .lt [(.ap (.usr 142) [(.var 0)]), (.ap (.cell 0) [(.ap (.usr 153) [(.var 0), (.var 1)]), (.var 4)])]) :: r7_h10), (.ap .same [(.ap (.add .i64) [(.var 3), (I 1)]), (.ap (.usr 186) [(.var 0), (.ap (.usr 153) [(.var 0), (.var 1)]), (.ap (.add .i64) [(.var 4), (I 1)])])])),
 (((.ap .not [(.ap .lt [(.ap (.usr 142) [(.var 0)]), (.ap (.cell 0) [(.ap (.usr 153) [(.var 0), (.var 1)]), (.var 4)])])]) :: r7_h10), (.ap .same [(.var 3), (.ap (.usr 186) [(.var 0), (.ap (.usr 153) [(.var 0), (.var 1)]), (.ap (.add .i64) [(.var 4), (I 1)])])])),
 (r7_h11, (.ap .le [(.ap .len [(.ap .cut [(.var 0), (.ap (.bin .rem .i64) [(.var 2), (.ap .len [(.var 0)])]), (.ap .len [(.var 0)])])]), (I 10)])),
 (r7_h11, (.ap .le [(.ap .len [(.ap .cut [(.var 0), (I 0), (.ap (.bin .rem .i64) [(.var 2), (.ap .len [(.var 0)])])])]), (I 10)])),
 (r7_h12, (.ap .le [(.ap .len [(.var 0)]), (I 10)])),
 (r7_h12, (.ap .not [(.ap (.usr 119) [(.var 0)])])),
 (r7_h12, (.ap (.usr 187) [(.var 0), (.ap (.mk false) [(.ap .cat [(.ap (.mk false) [(.ap .cut [(.var 0), (.ap (.bin .rem .i64) [(.var 2), (.ap .len [(.var 0)])]), (.ap .len [(.var 0)])])]), (.ap .cut [(.var 0), (I 0), (.ap (.bin .rem .i64) [(.var 2), (.ap .len [(.var 0)])])])])])])),
 (r7_h13, (.ap .le [(.ap .len [(.ap (.mk false) [(.ap .cat [(.ap (.mk false) [(.ap .cut [(.var 0), (.ap (.bin .rem .i64) [(.var 2), (.ap .len [(.var 0)])]), (.ap .len [(.var 0)])])]), (.ap .cut [(.var 0), (I 0), (.ap (.bin .rem .i64) [(.var 2), (.ap .len [(.var 0)])])])])])]), (I 10)])),
 (r7_h13, (.ap .not [(.ap (.usr 119) [(.ap (.mk false) [(.ap .cat [(.ap (.mk false) [(.ap .cut [(.var 0), (.ap (.bin .rem .i64) [(.var 2), (.ap .len [(.var 0)])]), (.ap .len [(.var 0)])])]), (.ap .cut [(.var 0), (I 0), (.ap (.bin .rem .i64) [(.var 2), (.ap .len [(.var 0)])])])])])])])),
 (((.ap .not [(.ap .lt [(.ap (.usr 151) [(.var 0), (.var 1)]), (.ap (.usr 142) [(.var 0)])])]) :: (.ap .eq [(.ap (.usr 152) [(.var 0), (.var 1)]), (.ap (.usr 142) [(.var 0)])]) :: r7_h15), (.ap .same [(I 0), (.ap (.usr 186) [(.var 0), (.ap (.usr 153) [(.var 0), (.var 1)]), (I 0)])])),
 (((.ap .not [(.ap .eq [(.ap .len [(.ap (.usr 109) [(.ap (.cell 0) [(.ap (.usr 153) [(.var 0), (.var 1)]), (.var 4)]), (.ap (.cell 1) [(.ap (.usr 153) [(.var 0), (.var 1)]), (.var 4)]), (.var 0)])]), (I 0)])]) :: r7_h18), (.ap .same [(.ap (.add .i64) [(.var 3), (I 1)]), (.ap (.usr 186) [(.var 0), (.ap (.usr 153) [(.var 0), (.var 1)]), (.ap (.add .i64) [(.var 4), (I 1)])])])),
 (((.ap .not [(.ap .lt [(.ap (.usr 142) [(.var 0)]), (.ap (.cell 0) [(.ap (.usr 153) [(.var 0), (.var 1)]), (.var 4)])])]) :: (.ap .not [(.ap .lt [(.ap (.usr 151) [(.var 0), (.var 1)]), (.ap (.cell 0) [(.ap (.usr 153) [(.var 0), (.var 1)]), (.var 4)])])]) :: r7_h17), (.ap .same [(.var 3), (.ap (.usr 186) [(.var 0), (.ap (.usr 153) [(.var 0), (.var 1)]), (.ap (.add .i64) [(.var 4), (I 1)])])])),
 (((.ap .not [(.ap .eq [(.ap .len [(.ap (.usr 109) [(.ap (.cell 0) [(.ap (.usr 153) [(.var 0), (.var 1)]), (.var 4)]), (.ap (.cell 1) [(.ap (.usr 153) [(.var 0), (.var 1)]), (.var 4)]), (.var 0)])]), (I 0)])]) :: (.ap (.typ (.sl [sI])) [(.ap (.usr 109) [(.ap (.cell 0) [(.ap (.usr 153) [(.var 0), (.var 1)]), (.var 4)]), (.ap (.cell 1) [(.ap (.usr 153) [(.var 0), (.var 1)]), (.var 4)]), (.var 0)])]) :: (.ap .lt [(.ap (.usr 142) [(.var 0)]), (.ap (.cell 0) [(.ap (.usr 153) [(.var 0), (.var 1)]), (.var 4)])]) :: r7_h19), (.ap .same [(.ap (.add .i64) [(.var 3), (I 1)]), (.ap (.usr 186) [(.var 0), (.ap (.usr 153) [(.var 0), (.var 1)]), (.ap (.add .i64) [(.var 4), (I 1)])])])),
 (((.ap .not [(.ap .lt [(.ap (.usr 142) [(.var 0)]), (.ap (.cell 0) [(.ap (.usr 153) [(.var 0), (.var 1)]), (.var 4)])])]) :: r7_h19), (.ap .same [(.var 3), (.ap (.usr 186) [(.var 0), (.ap (.usr 153) [(.var 0), (.var 1)]), (.ap (.add .i64) [(.var 4), (I 1)])])]))]
def r7_o : List (List X × List (List X)) := [(((.ap (.usr 127) [(.var 0)]) :: r7_h0), [[(.lit (.bool true))]]),
 (((.ap .eq [(.ap .len [(.var 0)]), (I 0)]) :: (.ap .not [(.ap (.usr 127) [(.var 0)])]) :: r7_h0), [[(.lit (.bool true))]]),
 (((.ap .not [(.ap .eq [(.ap (.usr 150) [(.var 0), (.var 1)]), (.ap (.usr 150) [(.ap (.mk false) [(.ap .cat [(.ap (.mk false) [(.ap .cut [(.var 0), (.ap (.neg .i64) [(.ap (.bin .rem .i64) [(.var 2), (.ap .len [(.var 0)])])]), (.ap .len [(.var 0)])])]), (.ap .cut [(.var 0), (I 0), (.ap (.neg .i64) [(.ap (.bin .rem .i64) [(.var 2), (.ap .len [(.var 0)])])])])])]), (.var 1)])])]) :: r7_h5), [[(.lit (.bool false))]]),
 (((.ap .not [(.ap (.usr 131) [(.ap (.usr 151) [(.var 0), (.var 1)]), (.ap (.usr 152) [(.var 0), (.var 1)]), (.ap (.usr 153) [(.var 0), (.var 1)]), (.ap (.usr 151) [(.ap (.mk false) [(.ap .cat [(.ap (.mk false) [(.ap .cut [(.var 0), (.ap (.neg .i64) [(.ap (.bin .rem .i64) [(.var 2), (.ap .len [(.var 0)])])]), (.ap .len [(.var 0)])])]), (.ap .cut [(.var 0), (I 0), (.ap (.neg .i64) [(.ap (.bin .rem .i64) [(.var 2), (.ap .len [(.var 0)])])])])])]), (.var 1)]), (.ap (.usr 152) [(.ap (.mk false) [(.ap .cat [(.ap (.mk false) [(.ap .cut [(.var 0), (.ap (.neg .i64) [(.ap (.bin .rem .i64) [(.var 2), (.ap .len [(.var 0)])])]), (.ap .len [(.var 0)])])]), (.ap .cut [(.var 0), (I 0), (.ap (.neg .i64) [(.ap (.bin .rem .i64) [(.var 2), (.ap .len [(.var 0)])])])])])]), (.var 1)]), (.ap (.usr 153) [(.ap (.mk false) [(.ap .cat [(.ap (.mk false) [(.ap .cut [(.var 0), (.ap (.neg .i64) [(.ap (.bin .rem .i64) [(.var 2), (.ap .len [(.var 0)])])]), (.ap .len [(.var 0)])])]), (.ap .cut [(.var 0), (I 0), (.ap (.neg .i64) [(.ap (.bin .rem .i64) [(.var 2), (.ap .len [(.var 0)])])])])])]), (.var 1)])])]) :: (.ap .eq [(.ap (.usr 150) [(.var 0), (.var 1)]), (.ap (.usr 150) [(.ap (.mk false) [(.ap .cat [(.ap (.mk false) [(.ap .cut [(.var 0), (.ap (.neg .i64) [(.ap (.bin .rem .i64) [(.var 2), (.ap .len [(.var 0)])])]), (.ap .len [(.var 0)])])]), (.ap .cut [(.var 0), (I 0), (.ap (.neg .i64) [(.ap (.bin .rem .i64) [(.var 2), (.ap .len [(.var 0)])])])])])]), (.var 1)])]) :: r7_h5), [[(.lit (.bool false))]]),
 (((.ap .not [(.ap .eq [(.ap (.usr 150) [(.var 0), (.var 1)]), (I 0)])]) :: (.ap (.usr 131) [(.ap (.usr 151) [(.var 0), (.var 1)]), (.ap (.usr 152) [(.var 0), (.var 1)]), (.ap (.usr 153) [(.var 0), (.var 1)]), (.ap (.usr 151) [(.ap (.mk false) [(.ap .cat [(.ap (.mk false) [(.ap .cut [(.var 0), (.ap (.neg .i64) [(.ap (.bin .rem .i64) [(.var 2), (.ap .len [(.var 0)])])]), (.ap .len [(.var 0)])])]), (.ap .cut [(.var 0), (I 0), (.ap (.neg .i64) [(.ap (.bin .rem .i64) [(.var 2), (.ap .len [(.var 0)])])])])])]), (.var 1)]), (.ap (.usr 152) [(.ap (.mk false) [(.ap .cat [(.ap (.mk false) [(.ap .cut [(.var 0), (.ap (.neg .i64) [(.ap (.bin .rem .i64) [(.var 2), (.ap .len [(.var 0)])])]), (.ap .len [(.var 0)])])]), (.ap .cut [(.var 0), (I 0), (.ap (.neg .i64) [(.ap (.bin .rem .i64) [(.var 2), (.ap .len [(.var 0)])])])])])]), (.var 1)]), (.ap (.usr 153) [(.ap (.mk false) [(.ap .cat [(.ap (.mk false) [(.ap .cut [(.var 0), (.ap (.neg .i64) [(.ap (.bin .rem .i64) [(.var 2), (.ap .len [(.var 0)])])]), (.ap .len [(.var 0)])])]), (.ap .cut [(.var 0), (I 0), (.ap (.neg .i64) [(.ap (.bin .rem .i64) [(.var 2), (.ap .len [(.var 0)])])])])])]), (.var 1)])]) :: (.ap .eq [(.ap (.usr 150) [(.var 0), (.var 1)]), (.ap (.usr 150) [(.ap (.mk false) [(.ap .cat [(.ap (.mk false) [(.ap .cut [(.var 0), (.ap (.neg .i64) [(.ap (.bin .rem .i64) [(.var 2), (.ap .len [(.var 0)])])]), (.ap .len [(.var 0)])])]), (.ap .cut [(.var 0), (I 0), (.ap (.neg .i64) [(.ap (.bin .rem .i64) [(.var 2), (.ap .len [(.var 0)])])])])])]), (.var 1)])]) :: r7_h5), [[(.lit (.bool true))]]),
 (((.ap .not [(.ap .eq [(.ap (.usr 152) [(.var 0), (.var 1)]), (.ap (.usr 142) [(.var 0)])])]) :: r7_h6), [[(.lit (.bool false))]]),
 (((.ap .lt [(.ap (.usr 151) [(.var 0), (.var 1)]), (.ap (.usr 142) [(.var 0)])]) :: (.ap .eq [(.ap (.usr 152) [(.var 0), (.var 1)]), (.ap (.usr 142) [(.var 0)])]) :: r7_h6), [[(.lit (.bool false))]]),
 (((.ap .le [(.ap (.cell 0) [(.ap (.usr 153) [(.var 0), (.var 1)]), (.var 4)]), (.ap (.cell 0) [(.ap (.usr 153) [(.var 0), (.var 1)]), (.ap (.sub .i64) [(.var 4), (I 1)])])]) :: (.ap .lt [(I 0), (.var 4)]) :: (.ap .lt [(.var 4), (.ap .len [(.ap (.usr 153) [(.var 0), (.var 1)])])]) :: r7_h7), [[(.lit (.bool false))]]),
 (((.ap .lt [(.ap (.usr 151) [(.var 0), (.var 1)]), (.ap (.cell 0) [(.ap (.usr 153) [(.var 0), (.var 1)]), (.var 4)])]) :: r7_h8), [[(.lit (.bool false))]]),
 (((.ap .eq [(.ap .len [(.ap (.usr 109) [(.ap (.cell 0) [(.ap (.usr 153) [(.var 0), (.var 1)]), (.var 4)]), (.ap (.cell 1) [(.ap (.usr 153) [(.var 0), (.var 1)]), (.var 4)]), (.var 0)])]), (I 0)]) :: r7_h9), [[(.lit (.bool false))]]),
 (((.ap .lt [(.ap (.usr 151) [(.var 0), (.var 1)]), (.ap (.cell 0) [(.ap (.usr 153) [(.var 0), (.var 1)]), (.var 4)])]) :: (.ap .not [(.ap .lt [(I 0), (.var 4)])]) :: (.ap .lt [(.var 4), (.ap .len [(.ap (.usr 153) [(.var 0), (.var 1)])])]) :: r7_h7), [[(.lit (.bool false))]]),
 (((.ap .eq [(.ap .len [(.ap (.usr 109) [(.ap (.cell 0) [(.ap (.usr 153) [(.var 0), (.var 1)]), (.var 4)]), (.ap (.cell 1) [(.ap (.usr 153) [(.var 0), (.var 1)]), (.var 4)]), (.var 0)])]), (I 0)]) :: (.ap (.typ (.sl [sI])) [(.ap (.usr 109) [(.ap (.cell 0) [(.ap (.usr 153) [(.var 0), (.var 1)]), (.var 4)]), (.ap (.cell 1) [(.ap (.usr 153) [(.var 0), (.var 1)]), (.var 4)]), (.var 0)])]) :: (.ap .lt [(.ap (.usr 142) [(.var 0)]), (.ap (.cell 0) [(.ap (.usr 153) [(.var 0), (.var 1)]), (.var 4)])]) :: r7_h10), [[(.lit (.bool false))]]),
 (((.ap .not [(.ap .lt [(.var 4), (.ap .len [(.ap (.usr 153) [(.var 0), (.var 1)])])])]) :: r7_h7), [[(.ap .eq [(.var 3), (.ap (.wr .i64) [(.ap (.sub .i64) [(.ap (.usr 151) [(.var 0), (.var 1)]), (.ap (.usr 142) [(.var 0)])])])])]]),
 (((.ap .not [(.ap .eq [(.ap (.usr 150) [(.var 0), (.var 1)]), (.ap (.usr 150) [(.ap (.mk false) [(.ap .cat [(.ap (.mk false) [(.ap .cut [(.var 0), (.ap (.bin .rem .i64) [(.var 2), (.ap .len [(.var 0)])]), (.ap .len [(.var 0)])])]), (.ap .cut [(.var 0), (I 0), (.ap (.bin .rem .i64) [(.var 2), (.ap .len [(.var 0)])])])])]), (.var 1)])])]) :: r7_h14), [[(.lit (.bool false))]]),
 (((.ap .not [(.ap (.usr 131) [(.ap (.usr 151) [(.var 0), (.var 1)]), (.ap (.usr 152) [(.var 0), (.var 1)]), (.ap (.usr 153) [(.var 0), (.var 1)]), (.ap (.usr 151) [(.ap (.mk false) [(.ap .cat [(.ap (.mk false) [(.ap .cut [(.var 0), (.ap (.bin .rem .i64) [(.var 2), (.ap .len [(.var 0)])]), (.ap .len [(.var 0)])])]), (.ap .cut [(.var 0), (I 0), (.ap (.bin .rem .i64) [(.var 2), (.ap .len [(.var 0)])])])])]), (.var 1)]), (.ap (.usr 152) [(.ap (.mk false) [(.ap .cat [(.ap (.mk false) [(.ap .cut [(.var 0), (.ap (.bin .rem .i64) [(.var 2), (.ap .len [(.var 0)])]), (.ap .len [(.var 0)])])]), (.ap .cut [(.var 0), (I 0), (.ap (.bin .rem .i64) [(.var 2), (.ap .len [(.var 0)])])])])]), (.var 1)]), (.ap (.usr 153) [(.ap (.mk false) [(.ap .cat [(.ap (.mk false) [(.ap .cut [(.var 0), (.ap (.bin .rem .i64) [(.var 2), (.ap .len [(.var 0)])]), (.ap .len [(.var 0)])])]), (.ap .cut [(.var 0), (I 0), (.ap (.bin .rem .i64) [(.var 2), (.ap .len [(.var 0)])])])])]), (.var 1)])])]) :: (.ap .eq [(.ap (.usr 150) [(.var 0), (.var 1)]), (.ap (.usr 150) [(.ap (.mk false) [(.ap .cat [(.ap (.mk false) [(.ap .cut [(.var 0), (.ap (.bin .rem .i64) [(.var 2), (.ap .len [(.var 0)])]), (.ap .len [(.var 0)])])]), (.ap .cut [(.var 0), (I 0), (.ap (.bin .rem .i64) [(.var 2), (.ap .len [(.var 0)])])])])]), (.var 1)])]) :: r7_h14), [[(.lit (.bool false))]]),
 (((.ap .not [(.ap .eq [(.ap (.usr 150) [(.var 0), (.var 1)]), (I 0)])]) :: (.ap (.usr 131) [(.ap (.usr 151) [(.var 0), (.var 1)]), (.ap (.usr 152) [(.var 0), (.var 1)]), (.ap (.usr 153) [(.var 0), (.var 1)]), (.ap (.usr 151) [(.ap (.mk false) [(.ap .cat [(.ap (.mk false) [(.ap .cut [(.var 0), (.ap (.bin .rem .i64) [(.var 2), (.ap .len [(.var 0)])]), (.ap .len [(.var 0)])])]), (.ap .cut [(.var 0), (I 0), (.ap (.bin .rem .i64) [(.var 2), (.ap .len [(.var 0)])])])])]), (.var 1)]), (.ap (.usr 152) [(.ap (.mk false) [(.ap .cat [(.ap (.mk false) [(.ap .cut [(.var 0), (.ap (.bin .rem .i64) [(.var 2), (.ap .len [(.var 0)])]), (.ap .len [(.var 0)])])]), (.ap .cut [(.var 0), (I 0), (.ap (.bin .rem .i64) [(.var 2), (.ap .len [(.var 0)])])])])]), (.var 1)]), (.ap (.usr 153) [(.ap (.mk false) [(.ap .cat [(.ap (.mk false) [(.ap .cut [(.var 0), (.ap (.bin .rem .i64) [(.var 2), (.ap .len [(.var 0)])]), (.ap .len [(.var 0)])])]), (.ap .cut [(.var 0), (I 0), (.ap (.bin .rem .i64) [(.var 2), (.ap .len [(.var 0)])])])])]), (.var 1)])]) :: (.ap .eq [(.ap (.usr 150) [(.var 0), (.var 1)]), (.ap (.usr 150) [(.ap (.mk false) [(.ap .cat [(.ap (.mk false) [(.ap .cut [(.var 0), (.ap (.bin .rem .i64) [(.var 2), (.ap .len [(.var 0)])]), (.ap .len [(.var 0)])])]), (.ap .cut [(.var 0), (I 0), (.ap (.bin .rem .i64) [(.var 2), (.ap .len [(.var 0)])])])])]), (.var 1)])]) :: r7_h14), [[(.lit (.bool true))]]),
 (((.ap .not [(.ap .eq [(.ap (.usr 152) [(.var 0), (.var 1)]), (.ap (.usr 142) [(.var 0)])])]) :: r7_h15), [[(.lit (.bool false))]]),
 (((.ap .lt [(.ap (.usr 151) [(.var 0), (.var 1)]), (.ap (.usr 142) [(.var 0)])]) :: (.ap .eq [(.ap (.usr 152) [(.var 0), (.var 1)]), (.ap (.usr 142) [(.var 0)])]) :: r7_h15), [[(.lit (.bool false))]]),
 (((.ap .le [(.ap (.cell 0) [(.ap (.usr 153) [(.var 0), (.var 1)]), (.var 4)]), (.ap (.cell 0) [(.ap (.usr 153) [(.var 0), (.var 1)]), (.ap (.sub .i64) [(.var 4), (I 1)])])]) :: (.ap .lt [(I 0), (.var 4)]) :: (.ap .lt [(.var 4), (.ap .len [(.ap (.usr 153) [(.var 0), (.var 1)])])]) :: r7_h16), [[(.lit (.bool false))]]),
 (((.ap .lt [(.ap (.usr 151) [(.var 0), (.var 1)]), (.ap (.cell 0) [(.ap (.usr 153) [(.var 0), (.var 1)]), (.var 4)])]) :: r7_h17), [[(.lit (.bool false))]]),
 (((.ap .eq [(.ap .len [(.ap (.usr 109) [(.ap (.cell 0) [(.ap (.usr 153) [(.var 0), (.var 1)]), (.var 4)]), (.ap (.cell 1) [(.ap (.usr 153) [(.var 0), (.var 1)]), (.var 4)]), (.var 0)])]), (I 0)]) :: r7_h18), [[(.lit (.bool false))]]),
 (((.ap .lt [(.ap (.usr 151) [(.var 0), (.var 1)]), (.ap (.cell 0) [(.ap (.usr 153) [(.var 0), (.var 1)]), (.var 4)])]) :: (.ap .not [(.ap .lt [(I 0), (.var 4)])]) :: (.ap .lt [(.var 4), (.ap .len [(.ap (.usr 153) [(.var 0), (.var 1)])])]) :: r7_h16), [[(.lit (.bool false))]]),
 (((.ap .eq [(.ap .len [(.ap (.usr 109) [(.ap (.cell 0) [(.ap (.usr 153) [(.var 0), (.var 1)]), (.var 4)]), (.ap (.cell 1) [(.ap (.usr 153) [(.var 0), (.var 1)]), (.var 4)]), (.var 0)])]), (I 0)]) :: (.ap (.typ (.sl [sI])) [(.ap (.usr 109) [(.ap (.cell 0) [(.ap (.usr 153) [(.var 0), (.var 1)]), (.var 4)]), (.ap (.cell 1) [(.ap (.usr 153) [(.var 0), (.var 1)]), (.var 4)]), (.var 0)])]) :: (.ap .lt [(.ap (.usr 142) [(.var 0)]), (.ap (.cell 0) [(.ap (.usr 153) [(.var 0), (.var 1)]), (.var 4)])]) :: r7_h19), [[(.lit (.bool false))]]),
 (((.ap .not [(.ap .lt [(.var 4), (.ap .len [(.ap (.usr 153) [(.var 0), (.var 1)])])])]) :: r7_h16), [[(.ap .eq [(.var 3), (.ap (.wr .i64) [(.ap (.sub .i64) [(.ap (.usr 151) [(.var 0), (.var 1)]), (.ap (.usr 142) [(.var 0)])])])])]])]
theorem r7_eq : runS Try.prog (specO (tab T12)) 10 14 ⟨hintL [(19, lp7)], hintA asL⟩ Try.f7 (bodyOf Try.f7) SOrder = some (r7_v, r7_o) := by kernel_rfl
set_option maxHeartbeats 4000000 in
set_option maxRecDepth 100000 in
theorem c7 : SpecOK U Try.prog 7 SOrder := by
 refine SpecOK.of (P := Try.prog) (U := U) (T := (tab T12)) (f := 7) (fn := Try.f7) (fuel := 10) (fk := 14) (hs := ⟨hintL [(19, lp7)], hintA asL⟩) (S := SOrder) (v := r7_v) (outs := r7_o) mixed hT12 at7 r7_eq ?_ ?_
 ·unfold r7_v
  repeat' (first | exact vcs_nil _ | refine vcs_cons (fun v hh => ?_) ?_)
  all_goals
   simp only [w_var, w_lit, w_ivi, w_bvb, w_add, w_sub, w_wr, b_lt, b_le, b_eq, b_not, b_typ, b_same, w_len, w_cell, w_mk, w_cat, w_cut, w_neg, w_usr, w_bin, w_l0, w_l1, w_vint, w_vbool, w_tru, w_holds0, w_holds1, w_rows, w_nilb, us109, us119, us127, us131, us140, us142, us150, us151, us152, us153, us186, us187, mnX, mxX, cell_at, l1_inj, vi_lit, vb_lit, vInt_inj, vBool_inj, tn0, hd_fold, rotR_fold, rot_fold, r7_h0, r7_h1, r7_h2, r7_h3, r7_h4, r7_h5, r7_h6, r7_h7, r7_h8, r7_h9, r7_h10, r7_h11, r7_h12, r7_h13, r7_h14, r7_h15, r7_h16, r7_h17, r7_h18, r7_h19] at hh ⊢
   repeat (obtain ⟨_, hh⟩ := hh)
   try (first | grind [= w_vint, = w_vint] | (apply one_of <;> first | assumption | grind [= w_vint]) | (apply rem_a <;> first | assumption | grind [= w_vint]) | (apply rem_b <;> first | assumption | grind [= w_vint]) | (apply neg_a <;> first | assumption | grind [= w_vint]) | (apply neg_b <;> first | assumption | grind [= w_vint]) | (apply cut_10 <;> first | assumption | grind [= w_vint]) | (apply rot_ok <;> first | assumption | grind [= w_vint]) | (apply rot_10 <;> first | assumption | grind [= w_vint]) | (apply rot_small <;> first | assumption | grind [= w_vint]) | (apply ab_y <;> first | assumption | grind [= w_vint]) | (apply ab_n <;> first | assumption | grind [= w_vint]) | (apply ab_z <;> first | assumption | grind [= w_vint]) | (apply pm_err <;> first | assumption | grind [= w_vint]) | (apply pm_log <;> first | assumption | grind [= w_vint]) | (apply cm_no <;> first | assumption | grind [= w_vint]) | (apply en_no <;> first | assumption | grind [= w_vint]) | (apply rise_no <;> first | assumption | grind [= w_vint]) | (apply top_no <;> first | assumption | grind [= w_vint]) | (apply has_no <;> first | assumption | grind [= w_vint]) | (apply fin_o <;> first | assumption | grind [= w_vint]))
 ·intro o ho σ hU hh
  obtain ⟨v⟩ := σ
  cases hU
  simp only [r7_o, List.mem_cons, List.not_mem_nil, or_false] at ho
  repeat' (first | (rcases ho with rfl | ho) | subst ho)
  all_goals
   refine ⟨_, List.mem_cons_self .., by simp only [w_var, w_lit, w_ivi, w_bvb, w_add, w_sub, w_wr, b_lt, b_le, b_eq, b_not, b_typ, b_same, w_len, w_cell, w_mk, w_cat, w_cut, w_neg, w_usr, w_bin, w_l0, w_l1, w_vint, w_vbool, w_tru, w_holds0, w_holds1, w_rows, w_nilb], ?_⟩
   simp only [w_var, w_lit, w_ivi, w_bvb, w_add, w_sub, w_wr, b_lt, b_le, b_eq, b_not, b_typ, b_same, w_len, w_cell, w_mk, w_cat, w_cut, w_neg, w_usr, w_bin, w_l0, w_l1, w_vint, w_vbool, w_tru, w_holds0, w_holds1, w_rows, w_nilb, us109, us119, us127, us131, us140, us142, us150, us151, us152, us153, us186, us187, mnX, mxX, cell_at, l1_inj, vi_lit, vb_lit, vInt_inj, vBool_inj, tn0, hd_fold, rotR_fold, rot_fold, r7_h0, r7_h1, r7_h2, r7_h3, r7_h4, r7_h5, r7_h6, r7_h7, r7_h8, r7_h9, r7_h10, r7_h11, r7_h12, r7_h13, r7_h14, r7_h15, r7_h16, r7_h17, r7_h18, r7_h19] at hh
   simp only [List.map_cons, List.map_nil, w_var, w_lit, w_ivi, w_bvb, w_add, w_sub, w_wr, b_lt, b_le, b_eq, b_not, b_typ, b_same, w_len, w_cell, w_mk, w_cat, w_cut, w_neg, w_usr, w_bin, w_l0, w_l1, w_vint, w_vbool, w_tru, w_holds0, w_holds1, w_rows, w_nilb, w_lt, w_le, w_eq, w_not, w_same, w_typ, us109, us119, us127, us131, us140, us142, us150, us151, us152, us153, us186, us187, mnX, mxX, cell_at, l1_inj, vi_lit, vb_lit, vInt_inj, vBool_inj, tn0, hd_fold, rotR_fold, rot_fold]
   repeat (obtain ⟨_, hh⟩ := hh)
   try (first | grind [= w_vint, = w_vint] | (apply one_of <;> first | assumption | grind [= w_vint]) | (apply rem_a <;> first | assumption | grind [= w_vint]) | (apply rem_b <;> first | assumption | grind [= w_vint]) | (apply neg_a <;> first | assumption | grind [= w_vint]) | (apply neg_b <;> first | assumption | grind [= w_vint]) | (apply cut_10 <;> first | assumption | grind [= w_vint]) | (apply rot_ok <;> first | assumption | grind [= w_vint]) | (apply rot_10 <;> first | assumption | grind [= w_vint]) | (apply rot_small <;> first | assumption | grind [= w_vint]) | (apply ab_y <;> first | assumption | grind [= w_vint]) | (apply ab_n <;> first | assumption | grind [= w_vint]) | (apply ab_z <;> first | assumption | grind [= w_vint]) | (apply pm_err <;> first | assumption | grind [= w_vint]) | (apply pm_log <;> first | assumption | grind [= w_vint]) | (apply cm_no <;> first | assumption | grind [= w_vint]) | (apply en_no <;> first | assumption | grind [= w_vint]) | (apply rise_no <;> first | assumption | grind [= w_vint]) | (apply top_no <;> first | assumption | grind [= w_vint]) | (apply has_no <;> first | assumption | grind [= w_vint]) | (apply fin_o <;> first | assumption | grind [= w_vint]))
end Go.Proofs.Ytlbbkmcegbeckaa.Cn

set_option linter.unusedSimpArgs false
set_option linter.unusedVariables false
set_option linter.unusedSectionVars false
namespace Go.Sx
open Go.ChangeShapes Go.WideShapes
variable {P : Program}
def srtPs (P : Program) (rec : TypeId → Option (List Srt)) : Nat → List Field → Option (List Srt)
 | _, [] => some []
 | off, f :: fs => match rec f.type with
  | some ks => if f.offset = off ∧ P.cellsOf f.type = ks.length then (srtPs P rec (off + ks.length) fs).map (ks ++ ·) else none
  | none => none
def srtP (P : Program) : Nat → TypeId → Option (List Srt)
 | 0, _ => none
 | n + 1, t => match P.underlying t with
  | some (.int k) => some [.int k]
  | some (.slice e) => match srtP P n e with
   | some ws => if P.cellsOf e = ws.length ∧ 0 < ws.length then some [.sl ws] else none
   | none => none
  | some (.struct fs) => match srtPs P (srtP P n) 0 fs.toList with
   | some ks => if P.cellsOf t = ks.length then some ks else none
   | none => none
  | _ => none
def memW (W : World) : Mem := fun k o => W.heap[k]? = some o
def HasS (m : Mem) (ss : List Srt) (cs : List Value) : Prop := cs.length = ss.length ∧ ∃ ds, RSs m ss ds fun j => cs[j]?
theorem rss_append {m : Mem} : ∀ {ss ss' : List Srt} {ds ds' : List CD} {cs cs' : List Value}, cs.length = ss.length → RSs m ss ds (fun j => cs[j]?) → RSs m ss' ds' (fun j => cs'[j]?) → RSs m (ss ++ ss') (ds ++ ds') fun j => (cs ++ cs')[j]?
 | [], ss', ds, ds', cs, cs', hl, h, h' => by
  have h : ds = [] := h
  have : cs = [] := List.length_eq_zero_iff.1 hl
  subst h
  subst this
  exact h'
 | s :: ss, ss', ds, ds', [], cs', hl, h, h' => by simp at hl
 | s :: ss, ss', ds, ds', c :: cs, cs', hl, h, h' => by
  obtain ⟨d, r, u, rfl, h1, h2, h3⟩ := h
  refine ⟨d, r ++ ds', u, rfl, h1, h2, ?_⟩
  have h3' : RSs m ss r fun j => cs[j]? := h3.congr fun j _ => by simp
  have := rss_append (by simpa using hl) h3' h'
  exact this.congr fun j _ => by simp
theorem HasS.append {m : Mem} {ss ss' : List Srt} {cs cs' : List Value} (h : HasS m ss cs) (h' : HasS m ss' cs') : HasS m (ss ++ ss') (cs ++ cs') := by
 obtain ⟨h1, ds, h2⟩ := h
 obtain ⟨h3, ds', h4⟩ := h'
 exact ⟨by simp [h1, h3], ds ++ ds', rss_append h1 h2 h4⟩
theorem srtPs_cells {m : Mem} {rec : TypeId → Option (List Srt)} {cs : List Value} : ∀ (fs : List Field) {off : Nat} {ks : List Srt}, srtPs P rec off fs = some ks →
  (∀ f ∈ fs, ∀ ks', rec f.type = some ks' → HasS m ks' ((cs.drop f.offset).take (P.cellsOf f.type))) → HasS m ks ((cs.drop off).take ks.length)
 | [], off, ks, h, _ => by cases h; exact ⟨by simp, [], rfl⟩
 | f :: fs, off, ks, h, hr => by
  simp only [srtPs] at h
  cases hk : rec f.type with
  | none => rw [hk] at h; cases h
  | some k1 =>
   rw [hk] at h
   simp only at h
   split at h
   ·rename_i hc
    obtain ⟨k2, hk2, rfl⟩ := Option.map_eq_some_iff.1 h
    have h2 := srtPs_cells fs hk2 fun g hg => hr g (List.mem_cons_of_mem _ hg)
    have h1 := hr f (List.mem_cons_self ..) k1 hk
    rw [hc.1, hc.2] at h1
    have e : (cs.drop off).take (k1 ++ k2).length = (cs.drop off).take k1.length ++ (cs.drop (off + k1.length)).take k2.length := by
     rw [List.length_append, List.take_add, List.drop_drop]
    rw [e]
    exact h1.append h2
   ·cases h
theorem exists_list {α : Type} {Q : Nat → α → Prop} : ∀ (n : Nat), (∀ i, i < n → ∃ r, Q i r) → ∃ l : List α, l.length = n ∧ ∀ (i : Nat) (r : α), l[i]? = some r → Q i r
 | 0, _ => ⟨[], rfl, fun i r h => by simp at h⟩
 | n + 1, h => by
  obtain ⟨l, h1, h2⟩ := exists_list n fun i hi => h i (by omega)
  obtain ⟨r, hr⟩ := h n (by omega)
  refine ⟨l ++ [r], by simp [h1], fun i r' hi => ?_⟩
  rw [List.getElem?_append] at hi
  split at hi
  ·exact h2 i r' hi
  ·rename_i hlt
   have : i = n := by
    have := (List.getElem?_eq_some_iff.1 hi).1
    simp at this
    omega
   subst this
   rw [h1, Nat.sub_self] at hi
   cases hi
   exact hr
theorem spot_none {W : World} {a : Addr} {v : Value} (h : W.cell? a = some v) : ∃ b off arr t fr, a = ⟨b, off, none⟩ ∧ W.heap[b]? = some (.cells arr t fr) := by
 obtain ⟨b, off, sp⟩ := a
 unfold World.cell? at h
 simp only at h
 split at h
 ·rename_i c t fr hc
  cases sp with
  | none => exact ⟨b, off, c, t, fr, rfl, hc⟩
  | some _ => simp at h
 ·cases h
theorem mapM_mem {α β : Type} {g : α → Option β} : ∀ {l : List α} {xs : List β}, l.mapM g = some xs → ∀ a ∈ l, ∃ x ∈ xs, g a = some x
 | [], _, _, a, ha => by cases ha
 | b :: l, xs, h, a, ha => by
  simp only [List.mapM_cons, Option.bind_eq_bind, Option.bind_eq_some_iff, Option.pure_def, Option.some.injEq] at h
  obtain ⟨y, hy, ys, hys, rfl⟩ := h
  rcases List.mem_cons.1 ha with rfl | ha
  ·exact ⟨y, List.mem_cons_self .., hy⟩
  ·obtain ⟨x, hx, hgx⟩ := mapM_mem hys a ha
   exact ⟨x, List.mem_cons_of_mem _ hx, hgx⟩
section
variable {H : Type} {enc : TypeId × Value → H} {W : World} {base : Nat} {held : Bool}
theorem srt_trod : ∀ (n : Nat) {t : TypeId} {ks : List Srt}, srtP P n t = some ks → ∀ {fuel : Nat} {cs : List Value} {x : DataW H × List MemPlace}, DataW.trod enc P W base (fun _ => true) held fuel t cs = some x → HasS (memW W) ks cs
 | 0, _, _, h, _, _, _, _ => by cases h
 | n + 1, t, ks, h, fuel, cs, x, hx => by
  simp only [srtP] at h
  split at h
  ·rename_i k hu
   cases h
   cases fuel with
   | zero => simp [DataW.trod] at hx
   | succ m =>
    obtain ⟨i, rfl, rfl, hw⟩ := DataW.trod_int hu hx
    refine ⟨rfl, [.v (.int k i)], _, _, _, rfl, rfl, ⟨i, rfl, rfl, ?_⟩, rfl⟩
    simpa [Lit.wf, litOK] using hw
  ·rename_i e hu
   split at h
   ·rename_i ws hws
    split at h
    ·rename_i hc
     cases h
     rcases DataW.trod_slice hu hx with ⟨rfl, _⟩ | ⟨a, len, cap, elems, rest, m, _, rfl, rfl, hb, hl, hm, hlen, hel, hsp, _⟩
     ·exact ⟨rfl, [.sl true []], _, _, _, rfl, rfl, .inl ⟨rfl, rfl⟩, rfl⟩
     ·obtain ⟨hrl, hre⟩ := hsp rfl
      rw [hc.1] at hel hre
      have cell0 : 0 < cap → ∃ v, W.cell? a = some v := by
       intro hcap
       have key : ∀ y, ((W.cells? base (a.add 0) ws.length).bind (DataW.trod enc P W base (fun _ => true) held m e)) = some y → ∃ v, W.cell? a = some v := by
        intro y hy
        obtain ⟨cs', hcs, _⟩ := Option.bind_eq_some_iff.1 hy
        obtain ⟨_, h2, h3⟩ := World.cells?_some hcs
        have h4 := h3 0 hc.2
        rw [List.getElem?_eq_getElem (by omega)] at h4
        have e1 : (a.add 0).add 0 = a := by simp [Addr.add]
        rw [e1] at h4
        exact ⟨_, h4⟩
       by_cases h0 : 0 < len
       ·have := hel 0 h0
        rw [Nat.zero_mul, List.getElem?_eq_getElem (by omega)] at this
        exact key _ this
       ·have h0 : len = 0 := by omega
        have := hre 0 (by omega)
        rw [h0, Nat.zero_add, Nat.zero_mul, List.getElem?_eq_getElem (by omega)] at this
        exact key _ this
      by_cases hcap : cap = 0
      ·subst hcap
       have : len = 0 := by omega
       subst this
       exact ⟨rfl, [.sl false []], _, _, _, rfl, rfl, .inr (.inr ⟨a, rfl, rfl⟩), rfl⟩
      ·obtain ⟨v0, hv0⟩ := cell0 (by omega)
       obtain ⟨b, off, arr, tt, fr, rfl, harr⟩ := spot_none hv0
       have hcell : ∀ j, W.cell? ⟨b, j, none⟩ = arr[j]? := fun j => by unfold World.cell?; simp [harr]
       obtain ⟨rows, hr1, hr2⟩ := exists_list (Q := fun i r => RSs (memW W) ws r fun j => arr[off + i * ws.length + j]?) len fun i hi => by
        have h1 := hel i hi
        rw [List.getElem?_eq_getElem (by omega)] at h1
        obtain ⟨cs', hcs, hy⟩ := Option.bind_eq_some_iff.1 h1
        obtain ⟨_, h2, h3⟩ := World.cells?_some hcs
        obtain ⟨_, ds, hds⟩ := srt_trod n hws hy
        refine ⟨ds, hds.congr fun j hj => ?_⟩
        have h4 := h3 j hj
        have e1 : (Addr.add (Addr.add ⟨b, off, none⟩ (i * ws.length)) j) = ⟨b, off + i * ws.length + j, none⟩ := by
         rw [Addr.add_lit, Addr.add_lit]
        rw [e1, hcell] at h4
        exact h4
       refine ⟨rfl, [.sl false rows], _, _, _, rfl, rfl, .inr (.inl ⟨rows, b, off, cap, rfl, by rw [hr1], by rw [hr1]; exact hl, hm, fun _ => ⟨arr, tt, fr, harr, hr2⟩⟩), rfl⟩
    ·cases h
   ·cases h
  ·rename_i fs hu
   split at h
   ·rename_i ks' hks
    split at h
    ·rename_i hc
     cases h
     cases fuel with
     | zero => simp [DataW.trod] at hx
     | succ m =>
      have hx' := hx
      unfold DataW.trod at hx'
      rw [hu] at hx'
      have hl : cs.length = P.cellsOf t ∧ ∃ xs, fs.toList.mapM (fun f => DataW.trod enc P W base (fun _ => true) held m f.type ((cs.drop f.offset).take (P.cellsOf f.type))) = some xs := by
       obtain ⟨xs, n', hn, hx2, hl2, hlen, hget⟩ := DataW.trod_struct hu hx
       refine ⟨hl2, ?_⟩
       split at hx' <;> simp_all
       obtain ⟨a, h1, h2, h3⟩ := hx'
       exact ⟨a, h1⟩
      obtain ⟨hl, xs, hp⟩ := hl
      have := srtPs_cells (P := P) (cs := cs) fs.toList hks fun f hf k1 hk1 => by
        obtain ⟨y, _, hfy⟩ := mapM_mem hp f hf
        exact srt_trod n hk1 hfy
      rw [List.drop_zero, ← hc, ← hl, List.take_length] at this
      exact this
    ·cases h
   ·cases h
  ·cases h
end
end Go.Sx

set_option linter.unusedSimpArgs false
set_option linter.unusedSectionVars false
set_option linter.unusedVariables false
namespace Go.Sx
open Go.WideShapes Go.ChangeShapes
theorem keptBut_of_old {W W' : World} (hk : ∀ k, k < W.heap.size → W'.heap[k]? = W.heap[k]?) (hos : W'.os = W.os) (hout : W'.output = W.output) (may : MemPlace → Prop) : W.keptBut W' may :=
 ⟨hos, hout, fun i hi => by rw [hk i hi]; exact (World.keptBut_refl W may).2.2 i hi⟩
theorem frozen_of_old {W W' : World} (hk : ∀ k, k < W.heap.size → W'.heap[k]? = W.heap[k]?) {a : Addr} (ha : a.block < W.heap.size) : W'.frozen? a = W.frozen? a := by
 unfold World.frozen?
 rw [hk _ ha]
theorem post_of_old {H : Type} {enc : TypeId × Value → H} {P : Program} {f : Func} {s : ChangeSpec} {apart fresh handsOn again : Bool} {W W' : World} {args : Array Value} {v : Value} {ds gs : List (DataW H)} {before pa pv : List MemPlace}
  (hW : DataW.Whole enc P f.params.toList s.vars apart W args.toList ds gs before)
  (hres : ∀ (b : Nat) (sp : Nat → Bool) (hd : Bool), DataW.TrodAll enc P W' b sp hd f.resultTypes.toList (v.resultList f.resultTypes.size) (s.fn H (ds ++ gs)).results [])
  (hargs : ∀ sp : Nat → Bool, (∀ p ∈ before, sp p.block = true) → DataW.TrodAll enc P W' 0 sp true f.params.toList args.toList (s.fn H (ds ++ gs)).args pa)
  (hvars : ∀ sp : Nat → Bool, (∀ p ∈ before, sp p.block = true) → DataW.TrodVars enc P W' sp s.vars (s.fn H (ds ++ gs)).vars pv)
  (hps : before = pa ++ pv) (hk : ∀ k, k < W.heap.size → W'.heap[k]? = W.heap[k]?) (hos : W'.os = W.os) (hout : W'.output = W.output)
  (hok : ∀ (j : Nat) (t : TypeId) (r : Value), f.resultTypes[j]? = some t → (v.resultList f.resultTypes.size)[j]? = some r → Value.okWide P W' .any 0 t r) :
  s.post enc P f apart fresh handsOn again W args v W' := by
 have hold : ∀ p ∈ before, (fun b => decide (b < W.heap.size)) p.block = true := fun p hp => by simpa using hW.lt p hp
 have hlt : ∀ p ∈ before, p.block < W.heap.size := fun p hp => hW.lt p hp
 refine ⟨ds, gs, before, [], pa, pv, hW, hres _ _ _, hargs _ hold, hvars _ hold, World.keptBut_mono (fun p hp => ⟨hp, ?_⟩) (keptBut_of_old hk hos hout (· ∈ before)), fun _ => ?_⟩
 ·rw [hps, List.mem_append] at hp
  exact Or.inr hp
 ·obtain ⟨_, _, _, _, _, hz, hn⟩ := hW
  refine ⟨hok, _, _, ([] ++ pa) ++ pv, ⟨[] ++ pa, pv, trodAll_append (hargs _ (fun _ _ => rfl)) (hres _ _ _), hvars _ (fun _ _ => rfl), rfl, ?_, ?_⟩, ?_⟩
  ·intro b off hp
   have hp' : MemPlace.cell b off ∈ before := by rw [hps]; simpa using hp
   rw [frozen_of_old hk (show (⟨b, off, none⟩ : Addr).block < W.heap.size from hlt _ hp')]
   exact hz b off hp'
  ·intro ha
   have := hn ha
   rw [hps] at this
   simpa using this
  ·intro p hp _
   rw [hps]
   simpa using hp
section
variable {H : Type} {enc : TypeId × Value → H} {P : Program} {W W' : World} {base : Nat} {sp : Nat → Bool} {held : Bool}
theorem trod_old (hk : ∀ k, k < W.heap.size → W'.heap[k]? = W.heap[k]?) : ∀ (n : Nat) (t : TypeId) (cs : List Value) (x : DataW H × List MemPlace), DataW.trod enc P W base sp held n t cs = some x → DataW.trod enc P W' base sp held n t cs = some x
 | 0, _, _, _, h => by simp [DataW.trod] at h
 | n + 1, t, cs, x, h => by
  have hlt := DataW.trod_lt (n + 1) t cs x h
  rw [DataW.trod_step] at h ⊢
  refine DataW.trodStep_carry (fun t cs x hx _ => trod_old hk n t cs x hx) h fun p hp => ?_
  have hb := hlt p hp
  cases p with
  | cell b off =>
   show W'.cell? ⟨b, off, none⟩ = W.cell? ⟨b, off, none⟩
   unfold World.cell?
   rw [hk b hb]
  | map b => exact hk b hb
theorem Trod.old (hk : ∀ k, k < W.heap.size → W'.heap[k]? = W.heap[k]?) {t : TypeId} {v : Value} {d : DataW H} {ps : List MemPlace} (h : DataW.Trod enc P W base sp held t v d ps) : DataW.Trod enc P W' base sp held t v d ps := by
 obtain ⟨n, hn⟩ := h
 exact ⟨n, trod_old hk n _ _ _ hn⟩
theorem TrodAll.old (hk : ∀ k, k < W.heap.size → W'.heap[k]? = W.heap[k]?) : ∀ {ts : List TypeId} {vs : List Value} {ds : List (DataW H)} {ps : List MemPlace}, DataW.TrodAll enc P W base sp held ts vs ds ps → DataW.TrodAll enc P W' base sp held ts vs ds ps
 | [], [], [], _, h => h
 | _ :: _, _ :: _, _ :: _, _, ⟨p, q, h1, h2, e⟩ => ⟨p, q, Trod.old hk h1, TrodAll.old hk h2, e⟩
end
end Go.Sx
