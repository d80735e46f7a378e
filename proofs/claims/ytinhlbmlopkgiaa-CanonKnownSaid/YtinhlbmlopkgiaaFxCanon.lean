/-
  'CanonKnownSaid': the closed statement exchequerlaw27.CanonKnown returns true. Conditions: none but the given ones.
-/
import Derived.Test.YtinhlbmlopkgiaaFxBaseO
import Derived.Test.YtinhlbmlopkgiaaFwG
import Derived.WalkKit
import Derived.ProofKit
import Derived.OpenShut
namespace Go.Proofs.Ytinhlbmlopkgiaa
open Go.ChangeShapes Go.WideShapes Go.ChangeAt Go.RowKit Go.Fv

theorem own : ownKnob Try.prog.godebug = none := by kernel_rfl
theorem compare57 : FnOK Try.prog 57 compareO := compare_ok Try.func57 (by kernel_rfl) (by kernel_rfl) (by kernel_rfl) (by kernel_rfl)
theorem baseO_ok : OraMOK Try.prog baseO := baseOf_ok fun p hp => by
  rcases List.mem_cons.1 hp with rfl | hp
  · exact compare57
  · cases hp

theorem canonKnown_run : allTrue (oraN Try.prog (treeT tbl) baseO 1000 40 (.f 4) [] emptyH) = true := by kernel_rfl

theorem canonKnown_walk (w : World) : Calls Try.prog 4 #[] w fun e w' => e = .returned (.bool true) ∧ (∀ k, k < w.heap.size → w'.heap[k]? = w.heap[k]?) ∧ w.heap.size ≤ w'.heap.size ∧ w'.os = w.os ∧ w'.output = w.output ∧ w'.tape = w.tape := by
  obtain ⟨outs, h1, h2⟩ := allTrue_spec canonKnown_run
  exact (closed_ok mixed tbl_ok baseO_ok h1).walk (us := #[]) h2 trivial Try.call4 w

set_option maxRecDepth 100000 in
theorem canonKnown_lifted (os : Os) (started : os.Started) (H : Type) (enc : TypeId × Value → H) :
    ReturnsInHanded {} Try.checked os 4 .any (Rows.canonKnownSpec.pre6 enc Try.prog Try.f4 Rows.canonKnownRow.domain false) (Rows.canonKnownSpec.post enc Try.prog Try.f4 false true false false) := by
  refine returnsInHanded_of_change (C := Try.checked) own started (by kernel_rfl) Try.func4
    (ChangeSpec.witness6 (enc := enc) (C := Try.checked) false ⟨#[], #[], []⟩ 8 (by kernel_rfl) (by kernel_rfl) (by kernel_rfl) (by kernel_rfl)) ?_
  intro W base args ds gs before hval0 hW hcnd _
  have hW' := hW
  obtain ⟨p, q, hA0, hV, rfl, hfz, hnd⟩ := hW
  have hA : DataW.TrodAll enc Try.prog W 0 (fun _ => true) true Try.f4.params.toList args.toList ds p := hA0
  rw [Try.params4] at hA
  obtain ⟨rfl, rfl, rfl⟩ := trodAll_none hA
  obtain ⟨rfl, rfl⟩ := trodVars_none hV
  clear hA0 hval0
  simp only [List.append_nil] at hW'
  refine (canonKnown_walk W).mono fun e W' ⟨he, hg⟩ => ?_
  subst he
  exact ⟨_, rfl, post_of_old (pa := []) (pv := []) hW' (fun _ _ _ => (trodAll_cons_mk (shut_bool Try.underlying4 _) trodAll_mk0)) (fun sp _ => rfl) (fun _ _ => rfl) rfl
    hg.1 hg.2.2.1 hg.2.2.2.1 (ok_one (by kernel_rfl) rfl (okWide_bool_mk Try.underlying4 _))⟩

theorem canonKnown : Rows.CanonKnownSaid :=
  OpenClaim.holds_of_wide 4 Try.f4 rfl rfl rfl rfl rfl rfl rfl ⟨rfl, rfl, rfl, rfl, rfl⟩ rfl rfl rfl rfl rfl (by kernel_rfl) Try.func4 (by kernel_rfl)
    (of_decide_eq_true (by kernel_rfl)) (by unfold Func.isWrapper; first | (rw [if_pos (by decide +kernel)]; kernel_rfl) | (rw [if_neg (by decide +kernel)]; exact ⟨rfl, rfl⟩))
    (fun os started H enc _ => canonKnown_lifted os started H enc)
#print axioms canonKnown
end Go.Proofs.Ytinhlbmlopkgiaa
