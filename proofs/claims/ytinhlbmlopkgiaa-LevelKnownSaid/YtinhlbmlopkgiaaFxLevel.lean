/-
  'LevelKnownSaid': the closed statement exchequerlaw15.LevelKnown returns true. Conditions: none but the given ones.
-/
import Derived.Test.YtinhlbmlopkgiaaFxBaseL
import Derived.WalkKit
import Derived.ProofKit
import Derived.OpenShut
set_option linter.unusedVariables false
namespace Go.Proofs.Ytinhlbmlopkgiaa
open Go.ChangeShapes Go.WideShapes Go.ChangeAt Go.RowKit Go.Fv

theorem own_levelKnown : ownKnob Try.prog.godebug = none := by kernel_rfl

theorem levelKnown_run : allTrue (oraN Try.prog (treeT tbl) baseO 1000 40 (.f 3) [] emptyH) = true := by kernel_rfl

theorem levelKnown_walk  (us : Array Value) (hus : All2 (VRel fun _ => none) [] us.toList) (w : World) : Calls Try.prog 3 us w fun e w' => e = .returned (.bool true) ∧ (∀ k, k < w.heap.size → w'.heap[k]? = w.heap[k]?) ∧ w.heap.size ≤ w'.heap.size ∧ w'.os = w.os ∧ w'.output = w.output ∧ w'.tape = w.tape := by
  obtain ⟨outs, h1, h2⟩ := allTrue_spec (levelKnown_run )
  exact (closed_ok mixed tbl_ok baseO_ok h1).walk h2 hus Try.call3 w

set_option maxRecDepth 100000 in
theorem levelKnown_lifted (os : Os) (started : os.Started) (H : Type) (enc : TypeId × Value → H) :
    ReturnsInHanded {} Try.checked os 3 .any (Rows.levelKnownSpec.pre6 enc Try.prog Try.f3 Rows.levelKnownRow.domain false) (Rows.levelKnownSpec.post enc Try.prog Try.f3 false true false false) := by
  refine returnsInHanded_of_change (C := Try.checked) own_levelKnown started (by kernel_rfl) Try.func3
    (ChangeSpec.witness6 (enc := enc) (C := Try.checked) false ⟨#[], #[], []⟩ 8 (by kernel_rfl) (by kernel_rfl) (by kernel_rfl) (by kernel_rfl)) ?_
  intro W base args ds gs before hval0 hW hcnd _
  have hW' := hW
  obtain ⟨p, q, hA0, hV, rfl, hfz, hnd⟩ := hW
  have hA : DataW.TrodAll enc Try.prog W 0 (fun _ => true) true Try.f3.params.toList args.toList ds p := hA0
  rw [Try.params3] at hA
  obtain ⟨rfl, rfl, rfl⟩ := trodAll_none hA
  obtain ⟨rfl, rfl⟩ := trodVars_none hV
  clear hA0 hval0
  simp only [List.append_nil] at hW'
  refine (levelKnown_walk   #[] trivial W).mono fun e W' ⟨he, hg⟩ => ?_
  subst he
  exact ⟨_, rfl, post_of_old (pa := []) (pv := []) hW' (fun _ _ _ => (trodAll_cons_mk (shut_bool Try.underlying4 _) trodAll_mk0)) (fun sp _ => rfl) (fun _ _ => rfl) rfl
    hg.1 hg.2.2.1 hg.2.2.2.1 (ok_one (by kernel_rfl) rfl (okWide_bool_mk Try.underlying4 _))⟩

theorem levelKnown : Rows.LevelKnownSaid :=
  OpenClaim.holds_of_wide 3 Try.f3 rfl rfl rfl rfl rfl rfl rfl ⟨rfl, rfl, rfl, rfl, rfl⟩ rfl rfl rfl rfl rfl (by kernel_rfl) Try.func3 (by kernel_rfl)
    (of_decide_eq_true (by kernel_rfl)) (by unfold Func.isWrapper; first | (rw [if_pos (by decide +kernel)]; kernel_rfl) | (rw [if_neg (by decide +kernel)]; exact ⟨rfl, rfl⟩))
    (fun os started H enc _ => levelKnown_lifted os started H enc)
#print axioms levelKnown
end Go.Proofs.Ytinhlbmlopkgiaa
