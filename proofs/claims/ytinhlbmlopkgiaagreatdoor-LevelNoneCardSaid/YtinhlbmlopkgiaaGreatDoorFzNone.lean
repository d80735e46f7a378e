/-
  'LevelNoneCardSaid': for every input exchequerlaw15.LevelNone returns true (a tied card). Conditions: none but the given ones.
-/
import Derived.Test.YtinhlbmlopkgiaaGreatDoorFzBaseO
import Derived.Test.YtinhlbmlopkgiaaGreatDoorTie
import Derived.Test.YtinhlbmlopkgiaaGreatDoorCards
import Derived.Handy
import Derived.Lay
import Derived.SevenTiedAt
import Derived.WalkKit
import Derived.ProofKit
import Derived.OpenShut
set_option linter.unusedVariables false
namespace Go.Proofs.YtinhlbmlopkgiaaGreatDoor
open Go.ChangeShapes Go.WideShapes Go.ChangeAt Go.RowKit Go.Fv

theorem own_levelNone : ownKnob Tryz.prog.godebug = none := by kernel_rfl

theorem levelNone_run : allTrue (oraN Tryz.prog (treeT tbl) baseO 1000 40 (.f 3) [.one .us] emptyH) = true := by kernel_rfl

theorem levelNone_walk (us : Array Value) (hus : All2 (VRel fun _ => none) [.one .us] us.toList) (w : World) : Calls Tryz.prog 3 us w fun e w' => e = .returned (.bool true) ∧ (∀ k, k < w.heap.size → w'.heap[k]? = w.heap[k]?) ∧ w.heap.size ≤ w'.heap.size ∧ w'.os = w.os ∧ w'.output = w.output ∧ w'.tape = w.tape := by
  obtain ⟨outs, h1, h2⟩ := allTrue_spec levelNone_run
  exact (closed_ok mixed tbl_ok baseO_ok h1).walk h2 hus Tryz.call3 w

set_option maxRecDepth 100000 in
theorem levelNone_lifted (os : Os) (started : os.Started) (H : Type) (enc : TypeId × Value → H) :
    ReturnsInHanded {} Tryz.checked os 3 .any (fun w args => (Rows.levelNoneSpec.pre enc Tryz.prog Tryz.f3 [] false w args ∧ laidMetH Tryz.prog Rows.levelNoneRow.laid w) ∧ sizedMet enc Tryz.prog Tryz.f3 (OpenSpec.ofChange Rows.levelNoneSpec) false w args)
      (Rows.levelNoneSpec.post enc Tryz.prog Tryz.f3 false true false false) := by
  refine returnsInHanded_of_change_and (C := Tryz.checked) (X := fun w _ => laidMetH Tryz.prog Rows.levelNoneRow.laid w) (fun _ _ _ hh h => h.of_heap hh) own_levelNone started (by kernel_rfl) Tryz.func3
    (ChangeSpec.witness_shaped (enc := enc) (C := Tryz.checked) (os := os) (X := fun w _ => laidMetH Tryz.prog Rows.levelNoneRow.laid w) false (World.laidAll Tryz.prog os Rows.levelNoneRow.laid) #[.slice none 0 0] 8 (World.laidAll_os _ _ _)
      (World.shaped_of_ZipB (by kernel_rfl) (by kernel_rfl)) (by kernel_rfl) (by kernel_rfl) (by kernel_rfl)
      (by rw [MakeChecks.laidMetH_plain _ _ _ (by kernel_rfl)]; exact laidMet_laidAll _ (by kernel_rfl) (by kernel_rfl))) ?_
  intro W base args ds gs before hval0 hW _ _ _ _
  have hval : ∀ (j : Nat) t v, Tryz.f3.params[j]? = some t → args[j]? = some v → Value.okWide Tryz.prog W .any base t v := hval0
  have hW' := hW
  obtain ⟨p, q, hA0, hV, rfl, hfz, hnd⟩ := hW
  have hA : DataW.TrodAll enc Tryz.prog W 0 (fun _ => true) true Tryz.f3.params.toList args.toList ds p := hA0
  have hAk := hA
  rw [Tryz.params3] at hA hval
  obtain ⟨v0, vs0, d0, ds0, p0, q0, hargs, rfl, rfl, h0, r0⟩ := trodAll_cons hA
  obtain ⟨rfl, rfl, rfl⟩ := trodAll_nil r0
  obtain rfl : args = #[v0] := by cases args; simp_all
  obtain ⟨rfl, rfl⟩ := trodVars_none hV
  obtain ⟨a, n, c, rfl⟩ := okWide_slice Tryz.underlying22 (hval 0 22 v0 rfl rfl)
  have hn := slice_len Tryz.underlying22 h0
  clear hA0 hval0
  simp only [List.append_nil] at hW'
  refine (levelNone_walk #[.slice a n c] ⟨⟨a, n, c, rfl, hn⟩, trivial⟩ W).mono fun e W' ⟨he, hg⟩ => ?_
  subst he
  exact ⟨_, rfl, post_of_old (pa := p0 ++ []) (pv := []) hW' (fun _ _ _ => (trodAll_cons_mk (shut_bool Tryz.underlying4 _) trodAll_mk0)) (fun sp hsp => TrodAll.old hg.1 (DataW.TrodAll.respare kids full (by rw [Tryz.params3]; decide +kernel) hAk (fun p hp => hsp p (by simpa using hp)))) (fun _ _ => rfl) (by simp)
    hg.1 hg.2.2.1 hg.2.2.2.1 (ok_one (by kernel_rfl) rfl (okWide_bool_mk Tryz.underlying4 _))⟩

theorem levelNone_row : Rows.LevelNoneSaid :=
  OpenClaim.holds_of_wide 3 Tryz.f3 rfl rfl rfl rfl rfl rfl rfl ⟨rfl, rfl, rfl, rfl, rfl⟩ rfl rfl rfl rfl rfl (by kernel_rfl) Tryz.func3 (by kernel_rfl)
    (of_decide_eq_true (by kernel_rfl)) (by unfold Func.isWrapper; first | (rw [if_pos (by decide +kernel)]; kernel_rfl) | (rw [if_neg (by decide +kernel)]; exact ⟨rfl, rfl⟩))
    (fun os started H enc _ => levelNone_lifted os started H enc)

theorem levelNone : Rows.LevelNoneCardSaid :=
  Claim7.holds_tied_plain_at .later [] [.data] true (true, "97b5fa8023d03ae0998b6dfb6b075f454e3bfeda81afa201e759ce4028b36b9e") false levelNone_row (fun _ h => by cases h) (by kernel_rfl) (fun _ h => by cases h) levelNone_row_tie rfl ⟨rfl, rfl⟩ (by kernel_rfl) rfl
    (fun f fn hf hfn => by
      obtain rfl : f = 3 := Option.some.inj ((show Tryz.prog.funcNamed "exchequer/exchequerlaw15.LevelNone" = some 3 by kernel_rfl).symm.trans hf) |>.symm
      obtain rfl : fn = Tryz.f3 := (Option.some.inj (Tryz.func3.symm.trans hfn)).symm
      exact ⟨by kernel_rfl, fun j t ht => by
        rw [Tryz.params3] at ht
        have hm : t ∈ [22] := by simpa using Array.mem_of_getElem? ht
        have hall : ([22].all fun u => !Tryz.prog.wantsStandIn u) = true := by kernel_rfl
        exact (show Tryz.prog.wantsStandIn t = false by simpa using List.all_eq_true.1 hall t hm)⟩)
    (by kernel_rfl)
#print axioms levelNone
end Go.Proofs.YtinhlbmlopkgiaaGreatDoor
