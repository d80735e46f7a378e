/-
  The facts of the row booksNone, one by one. Conditions: none.
-/
import Derived.Test.YtdkoockhfmbcaaaGreatDoorTie
import Derived.Test.YtdkoockhfmbcaaaGreatDoorCards
import Derived.Handy
import Derived.Lay
import Derived.SevenTiedAt
import Derived.WalkKit
import Derived.ProofKit
import Derived.OpenShut
set_option linter.unusedVariables false
namespace Go.Proofs.YtdkoockhfmbcaaaGreatDoor
open Go.ChangeShapes Go.WideShapes Go.ChangeAt Go.RowKit
theorem booksNone_andT {a b : Bool} (h : a = true) (k : b = true) : (a && b) = true := by rw [h, k]; rfl
theorem booksNone_j0 : (Rows.booksNoneRow.wf (OpenSpec.ofChange Rows.booksNoneSpec)) = true := by kernel_rfl
theorem booksNone_j1 : (laidOutB Tryz.pinned.checked.prog) = true := by kernel_rfl
theorem booksNone_j2 : (mapsRowed Tryz.pinned.checked.prog) = true := by kernel_rfl
theorem booksNone_j3 : (Tryz.f4.params.all (Tryz.pinned.checked.prog.readableRec ·)) = true := by kernel_rfl
theorem booksNone_j4 : (namedTie Tryz.pinned.checked.prog Rows.booksNoneRow.named Rows.booksNoneSpec.vars) = true := by kernel_rfl
theorem booksNone_j5 : (Rows.booksNoneRow.stops == []) = true := by kernel_rfl
theorem booksNone_j6 : (Tryz.pinned.checked.prog.stops == []) = true := by kernel_rfl
theorem booksNone_j7 : (Rows.booksNoneRow.knobs == []) = true := by kernel_rfl
theorem booksNone_j8 : (Tryz.pinned.checked.prog.stopKnobs == []) = true := by kernel_rfl
theorem booksNone_j9 : (Rows.booksNoneRow.inPlace == Tryz.pinned.checked.prog.inPlace 4) = true := by kernel_rfl
theorem booksNone_j10 : (Rows.booksNoneRow.unfollowed == Tryz.pinned.checked.prog.unfollowed 4) = true := by kernel_rfl
theorem booksNone_j11 : (Rows.booksNoneRow.recurses == Tryz.pinned.checked.prog.recurses 4) = true := by kernel_rfl
theorem booksNone_j12 : (Rows.booksNoneRow.named == Tryz.pinned.checked.prog.varsNamed 4) = true := by kernel_rfl
theorem booksNone_j13 : (Rows.booksNoneRow.maps == (Tryz.f4.params.toList ++ Rows.booksNoneSpec.plain.varTypes Tryz.pinned.checked.prog).any (Tryz.pinned.checked.prog.mapsRec ·)) = true := by kernel_rfl
theorem booksNone_j14 : (Rows.booksNoneRow.ifaces == (Tryz.f4.params.toList ++ Rows.booksNoneSpec.plain.varTypes Tryz.pinned.checked.prog).any (Tryz.pinned.checked.prog.ifacesRec ·)) = true := by kernel_rfl
theorem booksNone_j15 : (Rows.booksNoneRow.mapsOut == Tryz.pinned.checked.prog.mapsAmong Tryz.f4.resultTypes.toList) = true := by kernel_rfl
theorem booksNone_j16 : (Rows.booksNoneRow.loops == (Tryz.f4.params.toList ++ Rows.booksNoneSpec.plain.varTypes Tryz.pinned.checked.prog).any (Tryz.pinned.checked.prog.loopsFrom ·)) = true := by kernel_rfl
theorem booksNone_j17 : (Rows.booksNoneRow.wideKeys == (Tryz.f4.params.toList ++ Rows.booksNoneSpec.plain.varTypes Tryz.pinned.checked.prog ++ Tryz.f4.resultTypes.toList).any (Tryz.pinned.checked.prog.wideKeysFrom ·)) = true := by kernel_rfl
theorem booksNone_j18 : (Rows.booksNoneSpec.vars.all (Tryz.pinned.checked.prog.varReadable ·)) = true := by kernel_rfl
theorem booksNone_j19 : (Tryz.f4.resultTypes.all (fun t => Tryz.pinned.checked.prog.readableRec t && decide (t < Tryz.pinned.checked.prog.types.size))) = true := by kernel_rfl
theorem booksNone_j20 : (Rows.booksNoneRow.ifacesOut == Tryz.f4.resultTypes.toList.any (Tryz.pinned.checked.prog.ifacesRec ·)) = true := by kernel_rfl
theorem booksNone_j21 : (Rows.booksNoneRow.loopsOut == Tryz.f4.resultTypes.toList.any (Tryz.pinned.checked.prog.loopsFrom ·)) = true := by kernel_rfl
theorem booksNone_j22 : (Rows.booksNoneRow.plainKeys == Tryz.pinned.checked.prog.plainKeys) = true := by kernel_rfl
theorem booksNone_j23 : (Rows.booksNoneRow.shortTexts.isNone) = true := by kernel_rfl
theorem booksNone_j24 : (Tryz.pinned.checked.prog.stopsHeard) = true := by kernel_rfl
theorem booksNone_j25 : (Tryz.pinned.checked.prog.mayEnter) = true := by kernel_rfl
theorem booksNone_j26 : (Rows.booksNoneRow.lifted == Tryz.pinned.checked.prog.liftsFinal) = true := by kernel_rfl
theorem booksNone_j27 : (Tryz.pinned.checked.prog.make == some Rows.booksNoneRow.make) = true := by kernel_rfl
theorem booksNone_j28 : (Rows.booksNoneRow.kinds == (if Rows.booksNoneRow.domain.isEmpty then [] else Tryz.f4.params.toList.map fun t => match Tryz.pinned.checked.prog.underlying t with | some (.int k) => some k | _ => none)) = true := by kernel_rfl
theorem booksNone_j29 : (Rows.booksNoneRow.pinned == Rows.booksNoneRow.pinnedBy) = true := by kernel_rfl
theorem booksNone_j30 : (Rows.booksNoneRow.veiled == (Tryz.f4.params.toList ++ Rows.booksNoneSpec.plain.varTypes Tryz.pinned.checked.prog ++ Tryz.f4.resultTypes.toList).any (Tryz.pinned.checked.prog.veiledRec ·)) = true := by kernel_rfl
theorem booksNone_j31 : (Rows.booksNoneRow.veiledFits Tryz.pinned.checked.prog Tryz.f4.params.toList (Tryz.f4.params.toList ++ Rows.booksNoneSpec.plain.varTypes Tryz.pinned.checked.prog ++ Tryz.f4.resultTypes.toList)) = true := by kernel_rfl
theorem booksNone_named : Tryz.pinned.checked.prog.funcNamed Rows.booksNoneRow.func = some 4 := by kernel_rfl
theorem booksNone_inst : Tryz.f4.isInstance Tryz.pinned.checked.prog Rows.booksNoneRow.origin Rows.booksNoneRow.targs := of_decide_eq_true (by kernel_rfl)
theorem booksNone_wrap : Tryz.f4.isWrapper Tryz.pinned.checked.prog Rows.booksNoneRow.wrapper Rows.booksNoneRow.mainSum := by unfold Func.isWrapper; first | (rw [if_pos (by decide +kernel)]; kernel_rfl) | (rw [if_neg (by decide +kernel)]; exact ⟨rfl, rfl⟩)
theorem booksNone_text : Rows.booksNoneRow.wfByText (OpenSpec.ofChange Rows.booksNoneSpec) = true := by kernel_rfl
theorem booksNone_main : Tryz.pinned.checked.prog.mainIs = some (true, "932fc0f03646535bfee30a2da437bfb32ab08e5c21ed64927a4f88f59a185691".toList) := by kernel_rfl
theorem booksNone_looks : false = Tryz.pinned.checked.prog.looks [] := by kernel_rfl
theorem booksNone_goes : false = Rows.booksNoneRow.goesBy Tryz.pinned.checked.prog := by kernel_rfl
theorem booksNone_fn : Tryz.prog.funcNamed "exchequer/exchequerlaw21.BooksNone" = some 4 := by kernel_rfl
theorem booksNone_stand : ([50, 30].all fun u => !Tryz.prog.wantsStandIn u) = true := by kernel_rfl
end Go.Proofs.YtdkoockhfmbcaaaGreatDoor
