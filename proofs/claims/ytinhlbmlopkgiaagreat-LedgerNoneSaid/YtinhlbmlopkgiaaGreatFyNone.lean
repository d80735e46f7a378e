/-
  'LedgerNoneSaid': for every input exchequerlaw20.LedgerNone returns true. Conditions: none but the given ones.
-/
import Derived.Test.YtinhlbmlopkgiaaGreatFyBaseO
import Derived.Test.YtinhlbmlopkgiaaGreatFwK
import Derived.WalkKit
import Derived.ProofKit
import Derived.OpenShut
set_option linter.unusedVariables false
namespace Go.Proofs.YtinhlbmlopkgiaaGreat
open Go.ChangeShapes Go.WideShapes Go.ChangeAt Go.RowKit Go.Fv

theorem own_ledgerNone : ownKnob Tryz.prog.godebug = none := by kernel_rfl

theorem ledgerNone_run (idh idl now : Int) : allTrue (oraN Tryz.prog (treeT tbl) baseO 1000 40 (.f 4) [.agg [.lit (.int .u64 idh), .lit (.int .u64 idl)], .one (.lit (.int .u64 now))] emptyH) = true := by kernel_rfl

theorem ledgerNone_walk (idh idl now : Int) (widh : (Lit.int .u64 idh).wf = true) (widl : (Lit.int .u64 idl).wf = true) (wnow : (Lit.int .u64 now).wf = true) (us : Array Value) (hus : All2 (VRel fun _ => none) [.agg [.lit (.int .u64 idh), .lit (.int .u64 idl)], .one (.lit (.int .u64 now))] us.toList) (w : World) : Calls Tryz.prog 4 us w fun e w' => e = .returned (.bool true) ∧ (∀ k, k < w.heap.size → w'.heap[k]? = w.heap[k]?) ∧ w.heap.size ≤ w'.heap.size ∧ w'.os = w.os ∧ w'.output = w.output ∧ w'.tape = w.tape := by
  obtain ⟨outs, h1, h2⟩ := allTrue_spec (ledgerNone_run idh idl now)
  exact (closed_ok mixed tbl_ok baseO_ok h1).walk h2 hus Tryz.call4 w

set_option maxRecDepth 100000 in
theorem ledgerNone_lifted (os : Os) (started : os.Started) (H : Type) (enc : TypeId × Value → H) :
    ReturnsInHanded {} Tryz.checked os 4 .any (Rows.ledgerNoneSpec.pre6 enc Tryz.prog Tryz.f4 Rows.ledgerNoneRow.domain false) (Rows.ledgerNoneSpec.post enc Tryz.prog Tryz.f4 false true false false) := by
  refine returnsInHanded_of_change (C := Tryz.checked) own_ledgerNone started (by kernel_rfl) Tryz.func4
    (ChangeSpec.witness6 (enc := enc) (C := Tryz.checked) false ⟨#[], #[.agg #[.int .u64 0, .int .u64 0], .int .u64 0], []⟩ 8 (by kernel_rfl) (by kernel_rfl) (by kernel_rfl) (by kernel_rfl)) ?_
  intro W base args ds gs before hval0 hW hcnd _
  have hval : ∀ (j : Nat) t v, Tryz.f4.params[j]? = some t → args[j]? = some v → Value.okWide Tryz.prog W .any base t v := hval0
  have hW' := hW
  obtain ⟨p, q, hA0, hV, rfl, hfz, hnd⟩ := hW
  have hA : DataW.TrodAll enc Tryz.prog W 0 (fun _ => true) true Tryz.f4.params.toList args.toList ds p := hA0
  rw [Tryz.params4] at hA hval
  obtain ⟨v0, vs0, d0, ds0, p0, q0, hargs, rfl, rfl, h0, r0⟩ := trodAll_cons hA
  obtain ⟨v1, vs1, d1, ds1, p1, q1, rfl, rfl, rfl, h1, r1⟩ := trodAll_cons r0
  obtain ⟨rfl, rfl, rfl⟩ := trodAll_nil r1
  obtain rfl : args = #[v0, v1] := by cases args; simp_all
  obtain ⟨rfl, rfl⟩ := trodVars_none hV
  obtain ⟨rfl, ⟨a0, n0, rfl, hI0⟩, sh0⟩ := open_flat Tryz.underlying30 (n := 5) (ks := [.u64, .u64]) (by kernel_rfl) (hval 0 30 v0 rfl rfl) h0
  obtain ⟨idh, y0_0, z0_0, -, rfl, widh, k0_0⟩ := IntsAre.cons hI0
  obtain ⟨idl, y0_1, z0_1, -, rfl, widl, k0_1⟩ := IntsAre.cons k0_0
  obtain ⟨-, rfl⟩ := IntsAre.nil k0_1
  obtain ⟨now, rfl, rfl, rfl, wnow⟩ := open_int Tryz.underlying28 (hval 1 28 v1 rfl rfl) h1
  clear hA0 hval0
  simp only [List.append_nil] at hW'
  refine (ledgerNone_walk idh idl now widh widl wnow #[.agg a0, .int .u64 now] ⟨⟨a0, rfl, hI0.rel⟩, ⟨⟨rfl, wnow⟩, trivial⟩⟩ W).mono fun e W' ⟨he, hg⟩ => ?_
  subst he
  exact ⟨_, rfl, post_of_old (pa := []) (pv := []) hW' (fun _ _ _ => (trodAll_cons_mk (shut_bool Tryz.underlying4 _) trodAll_mk0)) (fun sp _ => (trodAll_cons_mk (sh0 W' 0 sp true) (trodAll_cons_mk (shut_int Tryz.underlying28 wnow) trodAll_mk0))) (fun _ _ => rfl) rfl
    hg.1 hg.2.2.1 hg.2.2.2.1 (ok_one (by kernel_rfl) rfl (okWide_bool_mk Tryz.underlying4 _))⟩

theorem ledgerNone : Rows.LedgerNoneSaid :=
  OpenClaim.holds_of_wide 4 Tryz.f4 rfl rfl rfl rfl rfl rfl rfl ⟨rfl, rfl, rfl, rfl, rfl⟩ rfl rfl rfl rfl rfl (by kernel_rfl) Tryz.func4 (by kernel_rfl)
    (of_decide_eq_true (by kernel_rfl)) (by unfold Func.isWrapper; first | (rw [if_pos (by decide +kernel)]; kernel_rfl) | (rw [if_neg (by decide +kernel)]; exact ⟨rfl, rfl⟩))
    (fun os started H enc _ => ledgerNone_lifted os started H enc)
#print axioms ledgerNone
end Go.Proofs.YtinhlbmlopkgiaaGreat
