/-
  The base of a seat: contracts of the library, with slices.Insert. Conditions: none.
-/
import Derived.Test.YtinhlbmlopkgiaaFxBase
import Derived.Test.YtinhlbmlopkgiaaFwI
import Derived.Test.YtinhlbmlopkgiaaFwG
namespace Go.Proofs.Ytinhlbmlopkgiaa
open Go.Fv Go.Proofs
theorem compare57 : FnOK Try.prog 57 compareO := compare_ok Try.func57 (by kernel_rfl) (by kernel_rfl) (by kernel_rfl) (by kernel_rfl)
theorem overlaps83 : FnOKM Try.prog 83 overlapsO := overlaps_ok (ps := Try.f83.params) (rs := Try.f83.resultTypes) (t := 28) (e := 26) (ag := true) (size := 5) Try.func83 (by kernel_rfl) (by kernel_rfl) (by kernel_rfl) (by kernel_rfl) (by kernel_rfl) Try.underlying28 (by kernel_rfl)
noncomputable def base0 : OraM := baseM [(57, fun args H => single (compareO args H)), (83, overlapsO)]
theorem base0_ok : OraMOK Try.prog base0 := baseM_ok fun p hp => by
  rcases List.mem_cons.1 hp with rfl | hp
  · exact compare57.many
  · rcases List.mem_cons.1 hp with rfl | hp
    · exact overlaps83
    · cases hp
noncomputable def baseO : OraM := baseM [(57, fun args H => single (compareO args H)), (83, overlapsO), (59, splitO (oraN Try.prog (treeT tbl) base0 1000 10 (.f 59)))]
theorem baseO_ok : OraMOK Try.prog baseO := baseM_ok fun p hp => by
  rcases List.mem_cons.1 hp with rfl | hp
  · exact compare57.many
  · rcases List.mem_cons.1 hp with rfl | hp
    · exact overlaps83
    · rcases List.mem_cons.1 hp with rfl | hp
      · exact splitO_ok (oraN_fn mixed tbl_ok base0_ok 1000 10 59)
      · cases hp
end Go.Proofs.Ytinhlbmlopkgiaa
