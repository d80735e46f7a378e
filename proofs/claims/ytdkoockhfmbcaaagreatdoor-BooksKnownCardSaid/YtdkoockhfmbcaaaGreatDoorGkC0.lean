/-
  A set of 400 blocks, 0 of them taken: what Counts tells of it. Conditions: none.
-/
import Derived.Test.YtdkoockhfmbcaaaGreatDoorGkOra
namespace Go.Proofs.YtdkoockhfmbcaaaGreatDoor
open Go.Fv Go.Proofs
noncomputable section
def c0X : Nat := 400
def c0V : WV := .v (.tup [(false, [.lit (.int .i64 (.ofNat 400))]), (false, [.lit (.int .i64 (.ofNat 0))]), (false, [.lit (.int .i64 (.ofNat 0))])])
theorem c0_run : runW ora0 ksSet 208 c0X = some c0V := by kernel_rfl
end
end Go.Proofs.YtdkoockhfmbcaaaGreatDoor
