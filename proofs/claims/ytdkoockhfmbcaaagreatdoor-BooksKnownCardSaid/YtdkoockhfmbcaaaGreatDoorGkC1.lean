/-
  A set of 400 blocks, 6 of them taken: what Counts tells of it. Conditions: none.
-/
import Derived.Test.YtdkoockhfmbcaaaGreatDoorGkOra
namespace Go.Proofs.YtdkoockhfmbcaaaGreatDoor
open Go.Fv Go.Proofs
noncomputable section
def c1X : Nat := 1162144876643701752208
def c1V : WV := .v (.tup [(false, [.lit (.int .i64 (.ofNat 394))]), (false, [.lit (.int .i64 (.ofNat 6))]), (false, [.lit (.int .i64 (.ofNat 0))])])
theorem c1_run : runW ora0 ksSet 208 c1X = some c1V := by kernel_rfl
end
end Go.Proofs.YtdkoockhfmbcaaaGreatDoor
