/-
  A set of 400 blocks, 6 of them taken: what Bytes tells of it. Conditions: none.
-/
import Derived.Test.YtdkoockhfmbcaaaGreatDoorGkOra
namespace Go.Proofs.YtdkoockhfmbcaaaGreatDoor
open Go.Fv Go.Proofs
noncomputable section
def b1X : Nat := 1162144876643701752208
def b1V : WV := bytesW [144, 1, 85, 5, 0, 0, 0, 0, 0, 0, 0, 0, 0, 0, 0, 0, 0, 0, 0, 0, 0, 0, 0, 0, 0, 0, 0, 0, 0, 0, 0, 0, 0, 0, 0, 0, 0, 0, 0, 0, 0, 0, 0, 0, 0, 0, 0, 0, 0, 0, 0, 0, 0, 0, 0, 0, 0, 0, 0, 0, 0, 0, 0, 0, 0, 0, 0, 0, 0, 0, 0, 0, 0, 0, 0, 0, 0, 0, 0, 0, 0, 0, 0, 0, 0, 0, 0, 0, 0, 0, 0, 0, 0, 0, 0, 0, 0, 0, 0, 0, 0, 0]
theorem b1_run : runW ora0 ksSet 235 b1X = some b1V := by kernel_rfl
end
end Go.Proofs.YtdkoockhfmbcaaaGreatDoor
