/-
  A set of 400 blocks, 4 of them taken: what Bytes tells of it. Conditions: none.
-/
import Derived.Test.YtdkoockhfmbcaaaGreatDoorGkOra
namespace Go.Proofs.YtdkoockhfmbcaaaGreatDoor
open Go.Fv Go.Proofs
noncomputable section
def b2X : Nat := 276701161105643274640
def b2V : WV := bytesW [144, 1, 85, 0, 0, 0, 0, 0, 0, 0, 0, 0, 0, 0, 0, 0, 0, 0, 0, 0, 0, 0, 0, 0, 0, 0, 0, 0, 0, 0, 0, 0, 0, 0, 0, 0, 0, 0, 0, 0, 0, 0, 0, 0, 0, 0, 0, 0, 0, 0, 0, 0, 0, 0, 0, 0, 0, 0, 0, 0, 0, 0, 0, 0, 0, 0, 0, 0, 0, 0, 0, 0, 0, 0, 0, 0, 0, 0, 0, 0, 0, 0, 0, 0, 0, 0, 0, 0, 0, 0, 0, 0, 0, 0, 0, 0, 0, 0, 0, 0, 0, 0]
theorem b2_run : runW ora0 ksSet 235 b2X = some b2V := by kernel_rfl
end
end Go.Proofs.YtdkoockhfmbcaaaGreatDoor
