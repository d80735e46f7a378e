/-
  The base of a seat: contracts of the library. Conditions: none.
-/
import Derived.Test.YtinhlbmlopkgiaaGreatFyBase
import Derived.Test.YtinhlbmlopkgiaaGreatFwG
namespace Go.Proofs.YtinhlbmlopkgiaaGreat
open Go.Fv Go.Proofs
theorem add48 : FnOK Tryz.prog 48 add64O := add64_ok Tryz.func48 (by kernel_rfl) (by kernel_rfl) (by kernel_rfl) (by kernel_rfl)
theorem sub52 : FnOK Tryz.prog 52 sub64O := sub64_ok Tryz.func52 (by kernel_rfl) (by kernel_rfl) (by kernel_rfl) (by kernel_rfl)
noncomputable def baseO : OraM := baseOf [(48, add64O), (52, sub64O)]
theorem baseO_ok : OraMOK Tryz.prog baseO := baseOf_ok fun p hp => by
  rcases List.mem_cons.1 hp with rfl | hp
  · exact add48
  · rcases List.mem_cons.1 hp with rfl | hp
    · exact sub52
    · cases hp
end Go.Proofs.YtinhlbmlopkgiaaGreat
