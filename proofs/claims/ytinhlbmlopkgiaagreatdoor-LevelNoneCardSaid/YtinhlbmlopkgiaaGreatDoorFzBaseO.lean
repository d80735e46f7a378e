/-
  The base of a seat: contracts of the library, with slices.Insert. Conditions: none.
-/
import Derived.Test.YtinhlbmlopkgiaaGreatDoorFzBase
import Derived.Test.YtinhlbmlopkgiaaGreatDoorFwI
import Derived.Test.YtinhlbmlopkgiaaGreatDoorFwL
namespace Go.Proofs.YtinhlbmlopkgiaaGreatDoor
open Go.Fv Go.Proofs
theorem compare59 : FnOK Tryz.prog 59 compareO := compare_ok Tryz.func59 (by kernel_rfl) (by kernel_rfl) (by kernel_rfl) (by kernel_rfl)
theorem overlaps68 : FnOKM Tryz.prog 68 overlapsO := overlaps_ok (ps := Tryz.f68.params) (rs := Tryz.f68.resultTypes) (t := 51) (e := 49) (ag := true) (size := 5) Tryz.func68 (by kernel_rfl) (by kernel_rfl) (by kernel_rfl) (by kernel_rfl) (by kernel_rfl) Tryz.underlying51 (by kernel_rfl)
noncomputable def base0 : OraM := baseM [(59, fun args H => single (compareO args H)), (68, overlapsO)]
theorem base0_ok : OraMOK Tryz.prog base0 := baseM_ok fun p hp => by
  rcases List.mem_cons.1 hp with rfl | hp
  · exact compare59.many
  · rcases List.mem_cons.1 hp with rfl | hp
    · exact overlaps68
    · cases hp
noncomputable def baseO : OraM := baseM [(59, fun args H => single (compareO args H)), (68, overlapsO), (30, splitO (oraN Tryz.prog (treeT tbl) base0 1000 10 (.f 30)))]
theorem baseO_ok : OraMOK Tryz.prog baseO := baseM_ok fun p hp => by
  rcases List.mem_cons.1 hp with rfl | hp
  · exact compare59.many
  · rcases List.mem_cons.1 hp with rfl | hp
    · exact overlaps68
    · rcases List.mem_cons.1 hp with rfl | hp
      · exact splitO_ok (oraN_fn mixed tbl_ok base0_ok 1000 10 30)
      · cases hp
theorem kids : Kids Tryz.prog (· < Tryz.prog.types.size) := kids_rows (by kernel_rfl) (by kernel_rfl)
theorem full : ∀ t e, t < Tryz.prog.types.size → Tryz.prog.underlying t = some (.slice e) → 0 < Tryz.prog.cellsOf e := slices_full_of Tryz.prog (by kernel_rfl)
end Go.Proofs.YtinhlbmlopkgiaaGreatDoor
