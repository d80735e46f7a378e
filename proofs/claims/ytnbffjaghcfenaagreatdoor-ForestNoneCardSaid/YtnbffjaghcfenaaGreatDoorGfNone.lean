/-
  'ForestNoneCardSaid': for every input exchequerlaw16.ForestNone returns true (a tied card). Conditions: none but the given ones.
-/
import Derived.Test.YtnbffjaghcfenaaGreatDoorFwK
import Derived.Test.YtnbffjaghcfenaaGreatDoorTie
import Derived.Test.YtnbffjaghcfenaaGreatDoorCards
import Derived.Handy
import Derived.Lay
import Derived.SevenTiedAt
import Derived.WalkKit
import Derived.ProofKit
import Derived.OpenShut
set_option linter.unusedVariables false
namespace Go.Proofs.YtnbffjaghcfenaaGreatDoor
open Go.ChangeShapes Go.WideShapes Go.ChangeAt Go.RowKit Go.Fv

theorem own_forestNone : ownKnob Tryz.prog.godebug = none := by kernel_rfl

theorem forestNone_run : allTrue (oraN Tryz.prog (treeT tbl) baseA 1000 60 (.f 4) [.one .us, .agg [.un .i64, .un .i64]] emptyH) = true := by kernel_rfl

theorem forestNone_walk (us : Array Value) (hus : All2 (VRel fun _ => none) [.one .us, .agg [.un .i64, .un .i64]] us.toList) (w : World) (ht : ∀ B o, globG = some (B, o) → TabG w B o) :
    Calls Tryz.prog 4 us w fun e w' => e = .returned (.bool true) ∧ (∀ k, k < w.heap.size → w'.heap[k]? = w.heap[k]?) ∧ w.heap.size ≤ w'.heap.size ∧ w'.os = w.os ∧ w'.output = w.output ∧ w'.tape = w.tape := by
  obtain ⟨outs, h1, h2⟩ := allTrue_spec forestNone_run
  exact (closed_ok mixed tbl_ok baseA_ok h1).walk h2 hus Tryz.call4 w ht
theorem tab_of_row {W : World} {l : List (String × DataW Unit)} (hl : l = [("math/bits.deBruijn64tab", Rows.laid_math_bits_deBruijn64tab)]) (h : laidMetH Tryz.prog l W) : ∀ B o, globG = some (B, o) → TabG W B o := by
  subst hl
  rw [MakeChecks.laidMetH_plain _ _ _ (by kernel_rfl)] at h
  intro B o hg
  have ht := tab_of_laid h (List.mem_singleton.2 (congrArg (Prod.mk "math/bits.deBruijn64tab") (by kernel_rfl)))
  rw [globG_eq] at hg
  cases hg
  exact ht

set_option maxRecDepth 100000 in
theorem forestNone_lifted (os : Os) (started : os.Started) (H : Type) (enc : TypeId × Value → H) :
    ReturnsInHanded {} Tryz.checked os 4 .any (fun w args => (Rows.forestNoneSpec.pre enc Tryz.prog Tryz.f4 [] false w args ∧ laidMetH Tryz.prog Rows.forestNoneRow.laid w) ∧ sizedMet enc Tryz.prog Tryz.f4 (OpenSpec.ofChange Rows.forestNoneSpec) false w args)
      (Rows.forestNoneSpec.post enc Tryz.prog Tryz.f4 false true false false) := by
  refine returnsInHanded_of_change_and (C := Tryz.checked) (X := fun w _ => laidMetH Tryz.prog Rows.forestNoneRow.laid w) (fun _ _ _ hh h => h.of_heap hh) own_forestNone started (by kernel_rfl) Tryz.func4
    (ChangeSpec.witness_shaped (enc := enc) (C := Tryz.checked) (os := os) (X := fun w _ => laidMetH Tryz.prog Rows.forestNoneRow.laid w) false (World.laidAll Tryz.prog os Rows.forestNoneRow.laid) #[.slice none 0 0, .agg #[.int .i64 0, .int .i64 0]] 8 (World.laidAll_os _ _ _)
      (World.shaped_of_ZipB (by kernel_rfl) (by kernel_rfl)) (by kernel_rfl) (by kernel_rfl) (by kernel_rfl)
      (by rw [MakeChecks.laidMetH_plain _ _ _ (by kernel_rfl)]; exact laidMet_laidAll _ (by kernel_rfl) (by kernel_rfl))) ?_
  intro W base args ds gs before hval0 hW _ _ hX _
  have hval : ∀ (j : Nat) t v, Tryz.f4.params[j]? = some t → args[j]? = some v → Value.okWide Tryz.prog W .any base t v := hval0
  have hW' := hW
  obtain ⟨p, q, hA0, hV, rfl, hfz, hnd⟩ := hW
  have hA : DataW.TrodAll enc Tryz.prog W 0 (fun _ => true) true Tryz.f4.params.toList args.toList ds p := hA0
  have hAk := hA
  rw [Tryz.params4] at hA hval
  obtain ⟨v0, vs0, d0, ds0, p0, q0, hargs, rfl, rfl, h0, r0⟩ := trodAll_cons hA
  obtain ⟨v1, vs1, d1, ds1, p1, q1, rfl, rfl, rfl, h1, r1⟩ := trodAll_cons r0
  obtain ⟨rfl, rfl, rfl⟩ := trodAll_nil r1
  obtain rfl : args = #[v0, v1] := by cases args; simp_all
  obtain ⟨rfl, rfl⟩ := trodVars_none hV
  obtain ⟨a, n, c, rfl⟩ := okWide_slice Tryz.underlying36 (hval 0 36 v0 rfl rfl)
  have hn := slice_len Tryz.underlying36 h0
  obtain ⟨rfl, ⟨a1, n1, rfl, hI1⟩, sh1⟩ := open_flat Tryz.underlying27 (n := 5) (ks := [.i64, .i64]) (by kernel_rfl) (hval 1 27 v1 rfl rfl) h1
  obtain ⟨x0, y0, z0, hy0, rfl, wx0, k0⟩ := IntsAre.cons hI1
  obtain ⟨x1, y1, z1, rfl, rfl, wx1, k1⟩ := IntsAre.cons k0
  obtain ⟨rfl, rfl⟩ := IntsAre.nil k1
  clear hA0 hval0
  simp only [List.append_nil] at hW'
  refine (forestNone_walk #[.slice a n c, .agg a1] ⟨⟨a, n, c, rfl, hn⟩, ⟨a1, rfl, by rw [hy0]; exact ⟨⟨x0, rfl, wx0⟩, ⟨x1, rfl, wx1⟩, trivial⟩⟩, trivial⟩ W (tab_of_row rfl hX)).mono fun e W' ⟨he, hg⟩ => ?_
  subst he
  exact ⟨_, rfl, post_of_old (pv := []) hW' (fun _ _ _ => (trodAll_cons_mk (shut_bool Tryz.underlying4 _) trodAll_mk0)) (fun sp hsp => TrodAll.old hg.1 (DataW.TrodAll.respare kids full (by rw [Tryz.params4]; decide +kernel) hAk (fun p hp => hsp p (by simpa using hp)))) (fun _ _ => rfl) (by simp)
    hg.1 hg.2.2.1 hg.2.2.2.1 (ok_one (by kernel_rfl) rfl (okWide_bool_mk Tryz.underlying4 _))⟩

theorem forestNone_row : Rows.ForestNoneSaid :=
  OpenClaim.holds_of_wide 4 Tryz.f4 rfl rfl rfl rfl rfl rfl rfl ⟨rfl, rfl, rfl, rfl, rfl⟩ rfl rfl rfl rfl rfl (by kernel_rfl) Tryz.func4 (by kernel_rfl)
    (of_decide_eq_true (by kernel_rfl)) (by unfold Func.isWrapper; first | (rw [if_pos (by decide +kernel)]; kernel_rfl) | (rw [if_neg (by decide +kernel)]; exact ⟨rfl, rfl⟩))
    (fun os started H enc _ => forestNone_lifted os started H enc)

theorem forestNone : Rows.ForestNoneCardSaid :=
  Claim7.holds_tied_plain_at .later [] [.data] true (true, "0c95d914467b0651f22f7c0e055b2714b5284ba14c45a853ef4c334e3c010d9b") false forestNone_row (fun _ h => by cases h) (by kernel_rfl) (fun _ h => by cases h) forestNone_row_tie rfl ⟨rfl, rfl⟩ (by kernel_rfl) rfl
    (fun f fn hf hfn => by
      obtain rfl : f = 4 := Option.some.inj ((show Tryz.prog.funcNamed "exchequer/exchequerlaw16.ForestNone" = some 4 by kernel_rfl).symm.trans hf) |>.symm
      obtain rfl : fn = Tryz.f4 := (Option.some.inj (Tryz.func4.symm.trans hfn)).symm
      exact ⟨by kernel_rfl, fun j t ht => by
        rw [Tryz.params4] at ht
        have hm : t ∈ [36, 27] := by simpa using Array.mem_of_getElem? ht
        have hall : ([36, 27].all fun u => !Tryz.prog.wantsStandIn u) = true := by kernel_rfl
        exact (show Tryz.prog.wantsStandIn t = false by simpa using List.all_eq_true.1 hall t hm)⟩)
    (by kernel_rfl)
#print axioms forestNone
end Go.Proofs.YtnbffjaghcfenaaGreatDoor
