/-
  The facts of the row booksKnown, one by one. Conditions: none.
-/
import Derived.Test.YtdkoockhfmbcaaaGreatDoorTie
import Derived.Test.YtdkoockhfmbcaaaGreatDoorCards
import Derived.Handy
import Derived.Lay
import Derived.SevenTiedAt
import Derived.WalkKit
import Derived.ProofKit
import Derived.OpenShut
set_option linter.unusedVariables false
namespace Go.Proofs.YtdkoockhfmbcaaaGreatDoor
open Go.ChangeShapes Go.WideShapes Go.ChangeAt Go.RowKit
theorem booksKnown_andT {a b : Bool} (h : a = true) (k : b = true) : (a && b) = true := by rw [h, k]; rfl
theorem booksKnown_j0 : (Rows.booksKnownRow.wf (OpenSpec.ofChange Rows.booksKnownSpec)) = true := by kernel_rfl
theorem booksKnown_j1 : (laidOutB Tryz.pinned.checked.prog) = true := by kernel_rfl
theorem booksKnown_j2 : (mapsRowed Tryz.pinned.checked.prog) = true := by kernel_rfl
theorem booksKnown_j3 : (Tryz.f3.params.all (Tryz.pinned.checked.prog.readableRec ·)) = true := by kernel_rfl
theorem booksKnown_j4 : (namedTie Tryz.pinned.checked.prog Rows.booksKnownRow.named Rows.booksKnownSpec.vars) = true := by kernel_rfl
theorem booksKnown_j5 : (Rows.booksKnownRow.stops == []) = true := by kernel_rfl
theorem booksKnown_j6 : (Tryz.pinned.checked.prog.stops == []) = true := by kernel_rfl
theorem booksKnown_j7 : (Rows.booksKnownRow.knobs == []) = true := by kernel_rfl
theorem booksKnown_j8 : (Tryz.pinned.checked.prog.stopKnobs == []) = true := by kernel_rfl
theorem booksKnown_j9 : (Rows.booksKnownRow.inPlace == Tryz.pinned.checked.prog.inPlace 3) = true := by kernel_rfl
theorem booksKnown_j10 : (Rows.booksKnownRow.unfollowed == Tryz.pinned.checked.prog.unfollowed 3) = true := by kernel_rfl
theorem booksKnown_j11 : (Rows.booksKnownRow.recurses == Tryz.pinned.checked.prog.recurses 3) = true := by kernel_rfl
theorem booksKnown_j12 : (Rows.booksKnownRow.named == Tryz.pinned.checked.prog.varsNamed 3) = true := by kernel_rfl
theorem booksKnown_j13 : (Rows.booksKnownRow.maps == (Tryz.f3.params.toList ++ Rows.booksKnownSpec.plain.varTypes Tryz.pinned.checked.prog).any (Tryz.pinned.checked.prog.mapsRec ·)) = true := by kernel_rfl
theorem booksKnown_j14 : (Rows.booksKnownRow.ifaces == (Tryz.f3.params.toList ++ Rows.booksKnownSpec.plain.varTypes Tryz.pinned.checked.prog).any (Tryz.pinned.checked.prog.ifacesRec ·)) = true := by kernel_rfl
theorem booksKnown_j15 : (Rows.booksKnownRow.mapsOut == Tryz.pinned.checked.prog.mapsAmong Tryz.f3.resultTypes.toList) = true := by kernel_rfl
theorem booksKnown_j16 : (Rows.booksKnownRow.loops == (Tryz.f3.params.toList ++ Rows.booksKnownSpec.plain.varTypes Tryz.pinned.checked.prog).any (Tryz.pinned.checked.prog.loopsFrom ·)) = true := by kernel_rfl
theorem booksKnown_j17 : (Rows.booksKnownRow.wideKeys == (Tryz.f3.params.toList ++ Rows.booksKnownSpec.plain.varTypes Tryz.pinned.checked.prog ++ Tryz.f3.resultTypes.toList).any (Tryz.pinned.checked.prog.wideKeysFrom ·)) = true := by kernel_rfl
theorem booksKnown_j18 : (Rows.booksKnownSpec.vars.all (Tryz.pinned.checked.prog.varReadable ·)) = true := by kernel_rfl
theorem booksKnown_j19 : (Tryz.f3.resultTypes.all (fun t => Tryz.pinned.checked.prog.readableRec t && decide (t < Tryz.pinned.checked.prog.types.size))) = true := by kernel_rfl
theorem booksKnown_j20 : (Rows.booksKnownRow.ifacesOut == Tryz.f3.resultTypes.toList.any (Tryz.pinned.checked.prog.ifacesRec ·)) = true := by kernel_rfl
theorem booksKnown_j21 : (Rows.booksKnownRow.loopsOut == Tryz.f3.resultTypes.toList.any (Tryz.pinned.checked.prog.loopsFrom ·)) = true := by kernel_rfl
theorem booksKnown_j22 : (Rows.booksKnownRow.plainKeys == Tryz.pinned.checked.prog.plainKeys) = true := by kernel_rfl
theorem booksKnown_j23 : (Rows.booksKnownRow.shortTexts.isNone) = true := by kernel_rfl
theorem booksKnown_j24 : (Tryz.pinned.checked.prog.stopsHeard) = true := by kernel_rfl
theorem booksKnown_j25 : (Tryz.pinned.checked.prog.mayEnter) = true := by kernel_rfl
theorem booksKnown_j26 : (Rows.booksKnownRow.lifted == Tryz.pinned.checked.prog.liftsFinal) = true := by kernel_rfl
theorem booksKnown_j27 : (Tryz.pinned.checked.prog.make == some Rows.booksKnownRow.make) = true := by kernel_rfl
theorem booksKnown_j28 : (Rows.booksKnownRow.kinds == (if Rows.booksKnownRow.domain.isEmpty then [] else Tryz.f3.params.toList.map fun t => match Tryz.pinned.checked.prog.underlying t with | some (.int k) => some k | _ => none)) = true := by kernel_rfl
theorem booksKnown_j29 : (Rows.booksKnownRow.pinned == Rows.booksKnownRow.pinnedBy) = true := by kernel_rfl
theorem booksKnown_j30 : (Rows.booksKnownRow.veiled == (Tryz.f3.params.toList ++ Rows.booksKnownSpec.plain.varTypes Tryz.pinned.checked.prog ++ Tryz.f3.resultTypes.toList).any (Tryz.pinned.checked.prog.veiledRec ·)) = true := by kernel_rfl
theorem booksKnown_j31 : (Rows.booksKnownRow.veiledFits Tryz.pinned.checked.prog Tryz.f3.params.toList (Tryz.f3.params.toList ++ Rows.booksKnownSpec.plain.varTypes Tryz.pinned.checked.prog ++ Tryz.f3.resultTypes.toList)) = true := by kernel_rfl
theorem booksKnown_named : Tryz.pinned.checked.prog.funcNamed Rows.booksKnownRow.func = some 3 := by kernel_rfl
theorem booksKnown_inst : Tryz.f3.isInstance Tryz.pinned.checked.prog Rows.booksKnownRow.origin Rows.booksKnownRow.targs := of_decide_eq_true (by kernel_rfl)
theorem booksKnown_wrap : Tryz.f3.isWrapper Tryz.pinned.checked.prog Rows.booksKnownRow.wrapper Rows.booksKnownRow.mainSum := by unfold Func.isWrapper; first | (rw [if_pos (by decide +kernel)]; kernel_rfl) | (rw [if_neg (by decide +kernel)]; exact ⟨rfl, rfl⟩)
theorem booksKnown_text : Rows.booksKnownRow.wfByText (OpenSpec.ofChange Rows.booksKnownSpec) = true := by kernel_rfl
theorem booksKnown_main : Tryz.pinned.checked.prog.mainIs = some (true, "932fc0f03646535bfee30a2da437bfb32ab08e5c21ed64927a4f88f59a185691".toList) := by kernel_rfl
theorem booksKnown_looks : false = Tryz.pinned.checked.prog.looks [] := by kernel_rfl
theorem booksKnown_goes : false = Rows.booksKnownRow.goesBy Tryz.pinned.checked.prog := by kernel_rfl
theorem booksKnown_fn : Tryz.prog.funcNamed "exchequer/exchequerlaw21.BooksKnown" = some 3 := by kernel_rfl
end Go.Proofs.YtdkoockhfmbcaaaGreatDoor
