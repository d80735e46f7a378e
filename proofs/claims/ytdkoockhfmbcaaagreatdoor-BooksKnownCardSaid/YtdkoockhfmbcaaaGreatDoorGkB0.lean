/-
  A set of 400 blocks, 0 of them taken: what Bytes tells of it. Conditions: none.
-/
import Derived.Test.YtdkoockhfmbcaaaGreatDoorGkOra
namespace Go.Proofs.YtdkoockhfmbcaaaGreatDoor
open Go.Fv Go.Proofs
noncomputable section
def b0X : Nat := 400
def b0V : WV := bytesW [144, 1, 0, 0, 0, 0, 0, 0, 0, 0, 0, 0, 0, 0, 0, 0, 0, 0, 0, 0, 0, 0, 0, 0, 0, 0, 0, 0, 0, 0, 0, 0, 0, 0, 0, 0, 0, 0, 0, 0, 0, 0, 0, 0, 0, 0, 0, 0, 0, 0, 0, 0, 0, 0, 0, 0, 0, 0, 0, 0, 0, 0, 0, 0, 0, 0, 0, 0, 0, 0, 0, 0, 0, 0, 0, 0, 0, 0, 0, 0, 0, 0, 0, 0, 0, 0, 0, 0, 0, 0, 0, 0, 0, 0, 0, 0, 0, 0, 0, 0, 0, 0]
theorem b0_run : runW ora0 ksSet 235 b0X = some b0V := by kernel_rfl
end
end Go.Proofs.YtdkoockhfmbcaaaGreatDoor
