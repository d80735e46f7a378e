/-
  'BooksKnownCardSaid': exchequerlaw21.BooksKnown returns true (a tied card). Conditions: none but the given ones.
-/
import Derived.Test.YtdkoockhfmbcaaaGreatDoorGkRun
import Derived.Test.YtdkoockhfmbcaaaGreatDoorGkKnownF
import Derived.Test.YtdkoockhfmbcaaaGreatDoorTie
import Derived.Test.YtdkoockhfmbcaaaGreatDoorCards
import Derived.Handy
import Derived.Lay
import Derived.SevenTiedAt
import Derived.WalkKit
import Derived.ProofKit
import Derived.OpenShut
set_option linter.unusedVariables false
namespace Go.Proofs.YtdkoockhfmbcaaaGreatDoor
open Go.ChangeShapes Go.WideShapes Go.ChangeAt Go.RowKit Go.Fv

theorem tab_of_row {W : World} {l : List (String × DataW Unit)} (hl : l = [("math/bits.deBruijn64tab", Rows.laid_math_bits_deBruijn64tab)]) (h : laidMetH Tryz.prog l W) : ∀ B o, globG = some (B, o) → TabG W B o := by
  subst hl
  rw [MakeChecks.laidMetH_plain _ _ _ (by kernel_rfl)] at h
  intro B o hg
  have ht := tab_of_laid h (List.mem_singleton.2 (congrArg (Prod.mk "math/bits.deBruijn64tab") (by kernel_rfl)))
  rw [globG_eq] at hg
  cases hg
  exact ht

theorem own_booksKnown : ownKnob Tryz.prog.godebug = none := by kernel_rfl

theorem booksKnown_walk (us : Array Value) (hus : All2 (VRel fun _ => none) [] us.toList) (w : World) (ht : ∀ B o, globG = some (B, o) → TabG w B o) :
    Calls Tryz.prog 3 us w fun e w' => e = .returned (.bool true) ∧ (∀ k, k < w.heap.size → w'.heap[k]? = w.heap[k]?) ∧ w.heap.size ≤ w'.heap.size ∧ w'.os = w.os ∧ w'.output = w.output ∧ w'.tape = w.tape := by
  exact booksKnown_call.walk (fun _ h => h.1) hus Tryz.call3 w ht

set_option maxRecDepth 100000 in
theorem booksKnown_lifted (os : Os) (started : os.Started) (H : Type) (enc : TypeId × Value → H) :
    ReturnsInHanded {} Tryz.checked os 3 .any (fun w args => (Rows.booksKnownSpec.pre enc Tryz.prog Tryz.f3 [] false w args ∧ laidMetH Tryz.prog Rows.booksKnownRow.laid w) ∧ sizedMet enc Tryz.prog Tryz.f3 (OpenSpec.ofChange Rows.booksKnownSpec) false w args)
      (Rows.booksKnownSpec.post enc Tryz.prog Tryz.f3 false true false false) := by
  refine returnsInHanded_of_change_and (C := Tryz.checked) (X := fun w _ => laidMetH Tryz.prog Rows.booksKnownRow.laid w) (fun _ _ _ hh h => h.of_heap hh) own_booksKnown started (by kernel_rfl) Tryz.func3
    (ChangeSpec.witness_shaped (enc := enc) (C := Tryz.checked) (os := os) (X := fun w _ => laidMetH Tryz.prog Rows.booksKnownRow.laid w) false (World.laidAll Tryz.prog os Rows.booksKnownRow.laid) #[] 8 (World.laidAll_os _ _ _)
      (World.shaped_of_ZipB (by kernel_rfl) (by kernel_rfl)) (by kernel_rfl) (by kernel_rfl) (by kernel_rfl)
      (by rw [MakeChecks.laidMetH_plain _ _ _ (by kernel_rfl)]; exact laidMet_laidAll _ (by kernel_rfl) (by kernel_rfl))) ?_
  intro W base args ds gs before hval0 hW _ _ hX _
  have hval : ∀ (j : Nat) t v, Tryz.f3.params[j]? = some t → args[j]? = some v → Value.okWide Tryz.prog W .any base t v := hval0
  have hW' := hW
  obtain ⟨p, q, hA0, hV, rfl, hfz, hnd⟩ := hW
  have hA : DataW.TrodAll enc Tryz.prog W 0 (fun _ => true) true Tryz.f3.params.toList args.toList ds p := hA0
  have hAk := hA
  rw [Tryz.params3] at hA hval
  obtain ⟨rfl, rfl, rfl⟩ := trodAll_none hA
  obtain ⟨rfl, rfl⟩ := trodVars_none hV
  clear hA0 hval0
  simp only [List.append_nil] at hW'
  refine (booksKnown_walk #[] trivial W (tab_of_row rfl hX)).mono fun e W' ⟨he, hg⟩ => ?_
  subst he
  exact ⟨_, rfl, post_of_old (pa := []) (pv := []) hW' (fun _ _ _ => (trodAll_cons_mk (shut_bool Tryz.underlying4 _) trodAll_mk0)) (fun sp _ => rfl) (fun _ _ => rfl) rfl
    hg.1 hg.2.2.1 hg.2.2.2.1 (ok_one (by kernel_rfl) rfl (okWide_bool_mk Tryz.underlying4 _))⟩

set_option maxRecDepth 100000 in
theorem booksKnown_joined : joinedFacts Tryz.pinned.checked.prog 3 Tryz.f3 Rows.booksKnownSpec Rows.booksKnownRow = true := booksKnown_andT (booksKnown_andT (booksKnown_andT (booksKnown_andT (booksKnown_andT (booksKnown_andT (booksKnown_andT (booksKnown_andT (booksKnown_andT (booksKnown_andT (booksKnown_andT (booksKnown_andT (booksKnown_andT (booksKnown_andT (booksKnown_andT (booksKnown_andT (booksKnown_andT (booksKnown_andT (booksKnown_andT (booksKnown_andT (booksKnown_andT (booksKnown_andT (booksKnown_andT (booksKnown_andT (booksKnown_andT (booksKnown_andT (booksKnown_andT (booksKnown_andT (booksKnown_andT (booksKnown_andT (booksKnown_andT (booksKnown_j0) booksKnown_j1) booksKnown_j2) booksKnown_j3) booksKnown_j4) booksKnown_j5) booksKnown_j6) booksKnown_j7) booksKnown_j8) booksKnown_j9) booksKnown_j10) booksKnown_j11) booksKnown_j12) booksKnown_j13) booksKnown_j14) booksKnown_j15) booksKnown_j16) booksKnown_j17) booksKnown_j18) booksKnown_j19) booksKnown_j20) booksKnown_j21) booksKnown_j22) booksKnown_j23) booksKnown_j24) booksKnown_j25) booksKnown_j26) booksKnown_j27) booksKnown_j28) booksKnown_j29) booksKnown_j30) booksKnown_j31
theorem booksKnown_row : Rows.BooksKnownSaid :=
  OpenClaim.holds_of_wide 3 Tryz.f3 rfl rfl rfl rfl rfl rfl rfl ⟨rfl, rfl, rfl, rfl, rfl⟩ rfl rfl rfl rfl rfl booksKnown_named Tryz.func3 booksKnown_joined booksKnown_inst booksKnown_wrap
    (fun os started H enc _ => booksKnown_lifted os started H enc)

theorem booksKnown : Rows.BooksKnownCardSaid :=
  Claim7.holds_tied_plain_at .later [] [.data] true (true, "932fc0f03646535bfee30a2da437bfb32ab08e5c21ed64927a4f88f59a185691") false booksKnown_row (fun _ h => by cases h) booksKnown_text (fun _ h => by cases h) booksKnown_row_tie rfl ⟨rfl, rfl⟩ booksKnown_main rfl
    (fun f fn hf hfn => by
      obtain rfl : f = 3 := Option.some.inj (booksKnown_fn.symm.trans hf) |>.symm
      obtain rfl : fn = Tryz.f3 := (Option.some.inj (Tryz.func3.symm.trans hfn)).symm
      exact ⟨booksKnown_looks, fun j t ht => by
        rw [Tryz.params3] at ht
        simp at ht⟩)
    booksKnown_goes
#print axioms booksKnown
end Go.Proofs.YtdkoockhfmbcaaaGreatDoor
