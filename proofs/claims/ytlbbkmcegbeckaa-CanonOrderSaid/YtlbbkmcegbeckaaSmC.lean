/-
  'CanonOrderSaid': for every input exchequerlaw27.CanonOrder returns true; the input reads as it did. Conditions: none but the given ones.
-/
import Derived.Test.YtlbbkmcegbeckaaSqE
import Derived.WalkKit
import Derived.ProofKit
import Derived.OpenShut
set_option linter.unusedSectionVars false
set_option linter.unusedSimpArgs false
set_option linter.unusedVariables false
namespace Go.Proofs.Ytlbbkmcegbeckaa
open Go.ChangeShapes Go.WideShapes Go.ChangeAt Go.RowKit Go.Sx
theorem own : ownKnob Try.prog.godebug = none := by kernel_rfl
theorem kids : Kids Try.prog (· < Try.prog.types.size) := kids_rows (by kernel_rfl) (by kernel_rfl)
theorem full : ∀ t e, t < Try.prog.types.size → Try.prog.underlying t = some (.slice e) → 0 < Try.prog.cellsOf e := slices_full_of Try.prog (by kernel_rfl)
theorem votesT : srtP Try.prog 6 53 = some [Cn.sVotes] := by kernel_rfl
theorem calls_true {U : Us} {P : Program} {f : FuncId} {args : List Shp} {us : Array Value} {W : World} (h : SpecOK U P f ⟨args, [], [(false, [.bool])], [([], [[.lit (.bool true)]])], true⟩) (hcall : ∀ us w, (callFunc f us).run P w = .ok (.enter f us) w) (v : Nat → CD)
  (hp : @PartsR (memW W) args ((varsX 0 args).map (@denL { toUs := U, v := v })) us.toList) : Calls P f us W fun e w' => e = .returned (.bool true) ∧ Keep W w' := by
 have h1 := h { toUs := U, v := v } rfl (memW W) W us (fun _ _ h => h) hp (fun x hx => (by cases hx))
 rw [hcall] at h1
 refine (show Calls P f us W _ from h1).mono fun e w' hh => ?_
 obtain ⟨u, he, hk, o, ho, hx, hres⟩ := hh
 refine ⟨?_, hk⟩
 rw [List.mem_singleton.1 ho] at hres
 obtain ⟨us', hr, hu⟩ := hres
 match us', hr with
 | [u'], hr =>
  have hr : RS (fun k ob => (W.heap.size ≤ k ∧ w'.heap[k]? = some ob) ∨ (true = false ∧ memW W k ob)) .bool (CD.v (.bool true)) u' := hr.1
  obtain ⟨b, h2, h3⟩ := hr
  cases h2
  rw [he, hu, h3]
  rfl
theorem read_votes {H : Type} {enc : TypeId × Value → H} {W : World} {v : Value} {d : DataW H} {ps : List MemPlace} (h : DataW.Trod enc Try.prog W 0 (fun _ => true) true 53 v d ps) (hv : ∃ a n c, v = .slice a n c) : ∃ e : CD, RS (memW W) Cn.sVotes e v := by
 obtain ⟨fuel, hf⟩ := h
 obtain ⟨a, n, c, rfl⟩ := hv
 obtain ⟨_, ds, e, r, u, _, h2, h3, _⟩ := srt_trod 6 votesT hf
 cases h2
 exact ⟨e, h3⟩
theorem read_int {W : World} {n : Int} (h : (Lit.int .i64 n).wf = true) : RS (memW W) Cn.sI (.v (.int .i64 n)) (.int .i64 n) := ⟨n, rfl, rfl, by simpa [Lit.wf, litOK] using h⟩
set_option maxRecDepth 100000 in
theorem canonOrder_lifted (os : Os) (started : os.Started) (H : Type) (enc : TypeId × Value → H) :
  ReturnsInHanded {} Try.checked os 7 .any (Rows.canonOrderSpec.pre6 enc Try.prog Try.f7 Rows.canonOrderRow.domain false) (Rows.canonOrderSpec.post enc Try.prog Try.f7 false true false false) := by
 refine returnsInHanded_of_change (C := Try.checked) own started (by kernel_rfl) Try.func7
  (ChangeSpec.witness6 (enc := enc) (C := Try.checked) false ⟨#[], #[.slice none 0 0, .int .i64 0, .int .i64 0], []⟩ 8 (by kernel_rfl) (by kernel_rfl) (by kernel_rfl) (by kernel_rfl)) ?_
 intro W base args ds gs before hval0 hW hcnd _
 have hval : ∀ (j : Nat) t v, Try.f7.params[j]? = some t → args[j]? = some v → Value.okWide Try.prog W .any base t v := hval0
 have hW' := hW
 obtain ⟨p, q, hA0, hV, rfl, hfz, hnd⟩ := hW
 have hA : DataW.TrodAll enc Try.prog W 0 (fun _ => true) true Try.f7.params.toList args.toList ds p := hA0
 have hAk := hA
 rw [Try.params7] at hA hval
 obtain ⟨v0, vs0, d0, ds0, p0, q0, hargs, rfl, rfl, h0, r0⟩ := trodAll_cons hA
 obtain ⟨v1, vs1, d1, ds1, p1, q1, rfl, rfl, rfl, h1, r1⟩ := trodAll_cons r0
 obtain ⟨v2, vs2, d2, ds2, p2, q2, rfl, rfl, rfl, h2, r2⟩ := trodAll_cons r1
 obtain ⟨rfl, rfl, rfl⟩ := trodAll_nil r2
 obtain rfl : args = #[v0, v1, v2] := by cases args; simp_all
 obtain ⟨rfl, rfl⟩ := trodVars_none hV
 obtain ⟨e, he⟩ := read_votes h0 (okWide_slice Try.underlying53 (hval 0 53 v0 rfl rfl))
 obtain ⟨n1, rfl, _, _, w1⟩ := open_int Try.underlying3 (hval 1 3 v1 rfl rfl) h1
 obtain ⟨n2, rfl, _, _, w2⟩ := open_int Try.underlying3 (hval 2 3 v2 rfl rfl) h2
 clear hA0 hval0
 simp only [List.append_nil] at hW'
 refine (calls_true (us := #[v0, .int .i64 n1, .int .i64 n2]) (W := W) Cn.c7 at7.call (fun j => [e, .v (.int .i64 n1), .v (.int .i64 n2)].getD j default) ⟨he, read_int (W := W) w1, read_int (W := W) w2, trivial⟩).mono fun e W' ⟨he, hg⟩ => ?_
 subst he
 exact ⟨_, rfl, post_of_old (pv := []) hW' (fun _ _ _ => (trodAll_cons_mk (shut_bool Try.underlying4 _) trodAll_mk0)) (fun sp hsp => TrodAll.old hg.old (DataW.TrodAll.respare kids full (by rw [Try.params7]; decide +kernel) hAk (fun p hp => hsp p (by simpa using hp)))) (fun _ _ => rfl) (by simp)
  hg.old hg.os hg.output (ok_one (by kernel_rfl) rfl (okWide_bool_mk Try.underlying4 _))⟩
theorem canonOrder : Rows.CanonOrderSaid :=
 OpenClaim.holds_of_wide 7 Try.f7 rfl rfl rfl rfl rfl rfl rfl ⟨rfl, rfl, rfl, rfl, rfl⟩ rfl rfl rfl rfl rfl (by kernel_rfl) Try.func7 (by kernel_rfl)
  (of_decide_eq_true (by kernel_rfl)) (by unfold Func.isWrapper; first | (rw [if_pos (by decide +kernel)]; kernel_rfl) | (rw [if_neg (by decide +kernel)]; exact ⟨rfl, rfl⟩))
  (fun os started H enc _ => canonOrder_lifted os started H enc)
#print axioms canonOrder
end Go.Proofs.Ytlbbkmcegbeckaa
