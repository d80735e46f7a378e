/-
  What each statement of the forest asks first: the chapter's own examples ('awake'): it hands back true, wherever it is called. Conditions: none but that the table of TrailingZeros64 stands in its variable (J).
-/
import Derived.Test.YtnbffjaghcfenaaGreatDoorGfBaseO
namespace Go.Proofs.YtnbffjaghcfenaaGreatDoor
open Go.Fv Go.Proofs
theorem awake_run : allTrue (oraN Tryz.prog (treeT tbl) baseO 1000 60 (.f 6) [] emptyH) = true := by kernel_rfl
noncomputable def trueO : List AV → HP → RM := fun args H =>
  match args with
  | [] => some [(.one (.lit (.bool true)), H)]
  | _ => none
theorem awake_ok : FnOKM Tryz.prog 6 trueO := by
  intro args H outs hr
  unfold trueO at hr
  split at hr
  · cases hr
    obtain ⟨outs, h1, h2⟩ := allTrue_spec awake_run
    have k := closed_ok mixed tbl_ok baseO_ok h1
    refine frame_none (Hs := emptyH) (fun b i => by unfold HP.cell emptyH; rw [PT.get_nil]; rfl) rfl fun ρ us hu => ?_
    match us, hu with
    | [], _ => exact ⟨fun _ => none, [], _, fun _ _ => rfl, fun b L h => (by cases h), trivial, h2, k⟩
  · cases hr
noncomputable def baseA : OraM := baseM ((6, trueO) :: baseL)
set_option maxRecDepth 100000 in
theorem baseA_ok : OraMOK Tryz.prog baseA := baseM_ok fun p hp => by
  rcases List.mem_cons.1 hp with rfl | hp
  · exact awake_ok
  · exact baseL_ok p hp
end Go.Proofs.YtnbffjaghcfenaaGreatDoor
