/-
  'TransferChecksSaid': for every input exchequerlaw18.TransferChecks returns true. Conditions: none but the given ones.
-/
import Derived.Test.YtdneelooepjdhaaAwk
import Derived.Test.YtdneelooepjdhaaFlag
set_option linter.unusedVariables false
namespace Go.Proofs.Ytdneelooepjdhaa
open Go.ChangeShapes Go.WideShapes Go.ChangeAt Go.RowKit Go.Ev

theorem check_same (a b : Bool) (tIDh tIDl tDbh tDbl tCrh tCrl tAmh tAml tPeh tPel tUah tUal tUb tUc tTo tLe tCo tFl tTi : Int) : checkI a b tIDh tIDl tDbh tDbl tCrh tCrl tAmh tAml tPeh tPel tUah tUal tUb tUc tTo tLe tCo tFl tTi = checkR a b tIDh tIDl tDbh tDbl tCrh tCrl tAmh tAml tPeh tPel tUah tUal tUb tUc tTo tLe tCo tFl tTi := by
  unfold checkI checkR beginI
  cases (tTi != 0) <;> cases a <;> cases eqU tIDh tIDl 0 0 <;> cases eqU tIDh tIDl 18446744073709551615 18446744073709551615 <;> cases b <;> cases bit tFl 12 <;> rfl

noncomputable def baseL : OraB := oraL [(35, g35), (15, g15)]
theorem baseL_ok : OraOK Try.prog baseL.plain := oraL_ok _ (by
  intro p hp
  simp only [List.mem_cons, List.not_mem_nil, or_false] at hp
  rcases hp with rfl | rfl
  · exact fn35
  · exact fn15)

theorem ev3 (tIDh tIDl tDbh tDbl tCrh tCrl tAmh tAml tPeh tPel tUah tUal tUb tUc tTo tLe tCo tFl tTi hIDh hIDl hDbh hDbl hCrh hCrl hAmh hAml hPeh hPel hUah hUal hUb hUc hTo hLe hCo hFl hTi : Int) (hp : popOk (bits .and .u16 tFl 14) = true) : CallOK Try.prog 3 [.agg [.lit (.int .u64 tIDh), .lit (.int .u64 tIDl), .lit (.int .u64 tDbh), .lit (.int .u64 tDbl), .lit (.int .u64 tCrh), .lit (.int .u64 tCrl), .lit (.int .u64 tAmh), .lit (.int .u64 tAml), .lit (.int .u64 tPeh), .lit (.int .u64 tPel), .lit (.int .u64 tUah), .lit (.int .u64 tUal), .lit (.int .u64 tUb), .lit (.int .u32 tUc), .lit (.int .u32 tTo), .lit (.int .u32 tLe), .lit (.int .u16 tCo), .lit (.int .u16 tFl), .lit (.int .u64 tTi)], .agg [.lit (.int .u64 hIDh), .lit (.int .u64 hIDl), .lit (.int .u64 hDbh), .lit (.int .u64 hDbl), .lit (.int .u64 hCrh), .lit (.int .u64 hCrl), .lit (.int .u64 hAmh), .lit (.int .u64 hAml), .lit (.int .u64 hPeh), .lit (.int .u64 hPel), .lit (.int .u64 hUah), .lit (.int .u64 hUal), .lit (.int .u64 hUb), .lit (.int .u32 hUc), .lit (.int .u32 hTo), .lit (.int .u32 hLe), .lit (.int .u16 hCo), .lit (.int .u16 hFl), .lit (.int .u64 hTi)]] [] (.one (.lit (.bool (bif (bif checkI (bits .andNot .u16 tFl 15 != 0) (decide (popI (bits .and .u16 tFl 14) > 1)) tIDh tIDl tDbh tDbl tCrh tCrl tAmh tAml tPeh tPel tUah tUal tUb tUc tTo tLe tCo tFl tTi == checkR (decide (tFl > 15)) (decide (kindsI tFl > 1)) tIDh tIDl tDbh tDbl tCrh tCrl tAmh tAml tPeh tPel tUah tUal tUb tUc tTo tLe tCo tFl tTi then (otherI tIDh tIDl tDbh tDbl tCrh tCrl tAmh tAml tPeh tPel tUah tUal tUb tUc tTo tLe tCo tFl tTi hIDh hIDl hDbh hDbl hCrh hCrl hAmh hAml hPeh hPel hUah hUal hUb hUc hTo hLe hCo hFl hTi == otherI tIDh tIDl tDbh tDbl tCrh tCrl tAmh tAml tPeh tPel tUah tUal tUb tUc tTo tLe tCo tFl tTi hIDh hIDl hDbh hDbl hCrh hCrl hAmh hAml hPeh hPel hUah hUal hUb hUc hTo hLe hCo hFl hTi) else false) then true else false)))) {} :=
  CallOK.eval1 (hsOf := hsC) (k := 68) (fuel := 1000) (n := 6) mixed tbl_ok baseL_ok hp (by kernel_rfl) (by kernel_rfl)

theorem law3 (tIDh tIDl tDbh tDbl tCrh tCrl tAmh tAml tPeh tPel tUah tUal tUb tUc tTo tLe tCo tFl tTi hIDh hIDl hDbh hDbl hCrh hCrl hAmh hAml hPeh hPel hUah hUal hUb hUc hTo hLe hCo hFl hTi : Int) (wtIDh : (Lit.int .u64 tIDh).wf = true) (wtIDl : (Lit.int .u64 tIDl).wf = true) (wtDbh : (Lit.int .u64 tDbh).wf = true) (wtDbl : (Lit.int .u64 tDbl).wf = true) (wtCrh : (Lit.int .u64 tCrh).wf = true) (wtCrl : (Lit.int .u64 tCrl).wf = true) (wtAmh : (Lit.int .u64 tAmh).wf = true) (wtAml : (Lit.int .u64 tAml).wf = true) (wtPeh : (Lit.int .u64 tPeh).wf = true) (wtPel : (Lit.int .u64 tPel).wf = true) (wtUah : (Lit.int .u64 tUah).wf = true) (wtUal : (Lit.int .u64 tUal).wf = true) (wtUb : (Lit.int .u64 tUb).wf = true) (wtUc : (Lit.int .u32 tUc).wf = true) (wtTo : (Lit.int .u32 tTo).wf = true) (wtLe : (Lit.int .u32 tLe).wf = true) (wtCo : (Lit.int .u16 tCo).wf = true) (wtFl : (Lit.int .u16 tFl).wf = true) (wtTi : (Lit.int .u64 tTi).wf = true) (whIDh : (Lit.int .u64 hIDh).wf = true) (whIDl : (Lit.int .u64 hIDl).wf = true) (whDbh : (Lit.int .u64 hDbh).wf = true) (whDbl : (Lit.int .u64 hDbl).wf = true) (whCrh : (Lit.int .u64 hCrh).wf = true) (whCrl : (Lit.int .u64 hCrl).wf = true) (whAmh : (Lit.int .u64 hAmh).wf = true) (whAml : (Lit.int .u64 hAml).wf = true) (whPeh : (Lit.int .u64 hPeh).wf = true) (whPel : (Lit.int .u64 hPel).wf = true) (whUah : (Lit.int .u64 hUah).wf = true) (whUal : (Lit.int .u64 hUal).wf = true) (whUb : (Lit.int .u64 hUb).wf = true) (whUc : (Lit.int .u32 hUc).wf = true) (whTo : (Lit.int .u32 hTo).wf = true) (whLe : (Lit.int .u32 hLe).wf = true) (whCo : (Lit.int .u16 hCo).wf = true) (whFl : (Lit.int .u16 hFl).wf = true) (whTi : (Lit.int .u64 hTi).wf = true) : CallOK Try.prog 3 [.agg [.lit (.int .u64 tIDh), .lit (.int .u64 tIDl), .lit (.int .u64 tDbh), .lit (.int .u64 tDbl), .lit (.int .u64 tCrh), .lit (.int .u64 tCrl), .lit (.int .u64 tAmh), .lit (.int .u64 tAml), .lit (.int .u64 tPeh), .lit (.int .u64 tPel), .lit (.int .u64 tUah), .lit (.int .u64 tUal), .lit (.int .u64 tUb), .lit (.int .u32 tUc), .lit (.int .u32 tTo), .lit (.int .u32 tLe), .lit (.int .u16 tCo), .lit (.int .u16 tFl), .lit (.int .u64 tTi)], .agg [.lit (.int .u64 hIDh), .lit (.int .u64 hIDl), .lit (.int .u64 hDbh), .lit (.int .u64 hDbl), .lit (.int .u64 hCrh), .lit (.int .u64 hCrl), .lit (.int .u64 hAmh), .lit (.int .u64 hAml), .lit (.int .u64 hPeh), .lit (.int .u64 hPel), .lit (.int .u64 hUah), .lit (.int .u64 hUal), .lit (.int .u64 hUb), .lit (.int .u32 hUc), .lit (.int .u32 hTo), .lit (.int .u32 hLe), .lit (.int .u16 hCo), .lit (.int .u16 hFl), .lit (.int .u64 hTi)]] [] (.one (.lit (.bool true))) {} := by
  have hf : 0 ≤ tFl ∧ tFl ≤ 65535 := by
    have h' : (decide ((0 : Int) ≤ tFl) && decide (tFl ≤ (65535 : Int))) = true := wtFl
    rwa [Bool.and_eq_true, decide_eq_true_eq, decide_eq_true_eq] at h'
  obtain ⟨hp, hk⟩ := flags_low hf.1 hf.2
  have h := ev3 tIDh tIDl tDbh tDbl tCrh tCrl tAmh tAml tPeh tPel tUah tUal tUb tUc tTo tLe tCo tFl tTi hIDh hIDl hDbh hDbl hCrh hCrl hAmh hAml hPeh hPel hUah hUal hUb hUc hTo hLe hCo hFl hTi hp
  rw [flags_high hf.1 hf.2, hk, check_same] at h
  simp only [beq_self_eq_true, cond_true] at h
  exact h

set_option maxRecDepth 100000 in
theorem transferChecks_lifted (os : Os) (started : os.Started) (H : Type) (enc : TypeId × Value → H) :
    ReturnsInHanded {} Try.checked os 3 .any (Rows.transferChecksSpec.pre6 enc Try.prog Try.f3 Rows.transferChecksRow.domain false) (Rows.transferChecksSpec.post enc Try.prog Try.f3 false true false false) := by
  refine returnsInHanded_of_change (C := Try.checked) own started (by kernel_rfl) Try.func3
    (ChangeSpec.witness6 (enc := enc) (C := Try.checked) false ⟨#[], #[.agg #[.int .u64 0, .int .u64 0, .int .u64 0, .int .u64 0, .int .u64 0, .int .u64 0, .int .u64 0, .int .u64 0, .int .u64 0, .int .u64 0, .int .u64 0, .int .u64 0, .int .u64 0, .int .u32 0, .int .u32 0, .int .u32 0, .int .u16 0, .int .u16 0, .int .u64 0], .agg #[.int .u64 0, .int .u64 0, .int .u64 0, .int .u64 0, .int .u64 0, .int .u64 0, .int .u64 0, .int .u64 0, .int .u64 0, .int .u64 0, .int .u64 0, .int .u64 0, .int .u64 0, .int .u32 0, .int .u32 0, .int .u32 0, .int .u16 0, .int .u16 0, .int .u64 0]], []⟩ 8 (by kernel_rfl) (by kernel_rfl) (by kernel_rfl) (by kernel_rfl)) ?_
  intro W base args ds gs before hval0 hW hcnd _
  have hval : ∀ (j : Nat) t v, Try.f3.params[j]? = some t → args[j]? = some v → Value.okWide Try.prog W .any base t v := hval0
  have hW' := hW
  obtain ⟨p, q, hA0, hV, rfl, hfz, hnd⟩ := hW
  have hA : DataW.TrodAll enc Try.prog W 0 (fun _ => true) true Try.f3.params.toList args.toList ds p := hA0
  rw [Try.params3] at hA hval
  obtain ⟨v0, vs0, d0, ds0, p0, q0, hargs, rfl, rfl, h0, r0⟩ := trodAll_cons hA
  obtain ⟨v1, vs1, d1, ds1, p1, q1, rfl, rfl, rfl, h1, r1⟩ := trodAll_cons r0
  obtain ⟨rfl, rfl, rfl⟩ := trodAll_nil r1
  obtain rfl : args = #[v0, v1] := by cases args; simp_all
  obtain ⟨rfl, rfl⟩ := trodVars_none hV
  obtain ⟨rfl, ⟨a0, n0, rfl, hI0⟩, sh0⟩ := open_flat Try.underlying28 (n := 5) (ks := kindsT) (by kernel_rfl) (hval 0 28 v0 rfl rfl) h0
  obtain ⟨tIDh, y0_0, z0_0, -, rfl, wtIDh, k0_0⟩ := IntsAre.cons hI0
  obtain ⟨tIDl, y0_1, z0_1, -, rfl, wtIDl, k0_1⟩ := IntsAre.cons k0_0
  obtain ⟨tDbh, y0_2, z0_2, -, rfl, wtDbh, k0_2⟩ := IntsAre.cons k0_1
  obtain ⟨tDbl, y0_3, z0_3, -, rfl, wtDbl, k0_3⟩ := IntsAre.cons k0_2
  obtain ⟨tCrh, y0_4, z0_4, -, rfl, wtCrh, k0_4⟩ := IntsAre.cons k0_3
  obtain ⟨tCrl, y0_5, z0_5, -, rfl, wtCrl, k0_5⟩ := IntsAre.cons k0_4
  obtain ⟨tAmh, y0_6, z0_6, -, rfl, wtAmh, k0_6⟩ := IntsAre.cons k0_5
  obtain ⟨tAml, y0_7, z0_7, -, rfl, wtAml, k0_7⟩ := IntsAre.cons k0_6
  obtain ⟨tPeh, y0_8, z0_8, -, rfl, wtPeh, k0_8⟩ := IntsAre.cons k0_7
  obtain ⟨tPel, y0_9, z0_9, -, rfl, wtPel, k0_9⟩ := IntsAre.cons k0_8
  obtain ⟨tUah, y0_10, z0_10, -, rfl, wtUah, k0_10⟩ := IntsAre.cons k0_9
  obtain ⟨tUal, y0_11, z0_11, -, rfl, wtUal, k0_11⟩ := IntsAre.cons k0_10
  obtain ⟨tUb, y0_12, z0_12, -, rfl, wtUb, k0_12⟩ := IntsAre.cons k0_11
  obtain ⟨tUc, y0_13, z0_13, -, rfl, wtUc, k0_13⟩ := IntsAre.cons k0_12
  obtain ⟨tTo, y0_14, z0_14, -, rfl, wtTo, k0_14⟩ := IntsAre.cons k0_13
  obtain ⟨tLe, y0_15, z0_15, -, rfl, wtLe, k0_15⟩ := IntsAre.cons k0_14
  obtain ⟨tCo, y0_16, z0_16, -, rfl, wtCo, k0_16⟩ := IntsAre.cons k0_15
  obtain ⟨tFl, y0_17, z0_17, -, rfl, wtFl, k0_17⟩ := IntsAre.cons k0_16
  obtain ⟨tTi, y0_18, z0_18, -, rfl, wtTi, k0_18⟩ := IntsAre.cons k0_17
  obtain ⟨-, rfl⟩ := IntsAre.nil k0_18
  obtain ⟨rfl, ⟨a1, n1, rfl, hI1⟩, sh1⟩ := open_flat Try.underlying28 (n := 5) (ks := kindsT) (by kernel_rfl) (hval 1 28 v1 rfl rfl) h1
  obtain ⟨hIDh, y1_0, z1_0, -, rfl, whIDh, k1_0⟩ := IntsAre.cons hI1
  obtain ⟨hIDl, y1_1, z1_1, -, rfl, whIDl, k1_1⟩ := IntsAre.cons k1_0
  obtain ⟨hDbh, y1_2, z1_2, -, rfl, whDbh, k1_2⟩ := IntsAre.cons k1_1
  obtain ⟨hDbl, y1_3, z1_3, -, rfl, whDbl, k1_3⟩ := IntsAre.cons k1_2
  obtain ⟨hCrh, y1_4, z1_4, -, rfl, whCrh, k1_4⟩ := IntsAre.cons k1_3
  obtain ⟨hCrl, y1_5, z1_5, -, rfl, whCrl, k1_5⟩ := IntsAre.cons k1_4
  obtain ⟨hAmh, y1_6, z1_6, -, rfl, whAmh, k1_6⟩ := IntsAre.cons k1_5
  obtain ⟨hAml, y1_7, z1_7, -, rfl, whAml, k1_7⟩ := IntsAre.cons k1_6
  obtain ⟨hPeh, y1_8, z1_8, -, rfl, whPeh, k1_8⟩ := IntsAre.cons k1_7
  obtain ⟨hPel, y1_9, z1_9, -, rfl, whPel, k1_9⟩ := IntsAre.cons k1_8
  obtain ⟨hUah, y1_10, z1_10, -, rfl, whUah, k1_10⟩ := IntsAre.cons k1_9
  obtain ⟨hUal, y1_11, z1_11, -, rfl, whUal, k1_11⟩ := IntsAre.cons k1_10
  obtain ⟨hUb, y1_12, z1_12, -, rfl, whUb, k1_12⟩ := IntsAre.cons k1_11
  obtain ⟨hUc, y1_13, z1_13, -, rfl, whUc, k1_13⟩ := IntsAre.cons k1_12
  obtain ⟨hTo, y1_14, z1_14, -, rfl, whTo, k1_14⟩ := IntsAre.cons k1_13
  obtain ⟨hLe, y1_15, z1_15, -, rfl, whLe, k1_15⟩ := IntsAre.cons k1_14
  obtain ⟨hCo, y1_16, z1_16, -, rfl, whCo, k1_16⟩ := IntsAre.cons k1_15
  obtain ⟨hFl, y1_17, z1_17, -, rfl, whFl, k1_17⟩ := IntsAre.cons k1_16
  obtain ⟨hTi, y1_18, z1_18, -, rfl, whTi, k1_18⟩ := IntsAre.cons k1_17
  obtain ⟨-, rfl⟩ := IntsAre.nil k1_18
  clear hA0 hval0
  simp only [List.append_nil] at hW'
  refine ((law3 tIDh tIDl tDbh tDbl tCrh tCrl tAmh tAml tPeh tPel tUah tUal tUb tUc tTo tLe tCo tFl tTi hIDh hIDl hDbh hDbl hCrh hCrl hAmh hAml hPeh hPel hUah hUal hUb hUc hTo hLe hCo hFl hTi wtIDh wtIDl wtDbh wtDbl wtCrh wtCrl wtAmh wtAml wtPeh wtPel wtUah wtUal wtUb wtUc wtTo wtLe wtCo wtFl wtTi whIDh whIDl whDbh whDbl whCrh whCrl whAmh whAml whPeh whPel whUah whUal whUb whUc whTo whLe whCo whFl whTi).walk (us := #[.agg a0, .agg a1]) ⟨⟨a0, rfl, hI0.rel⟩, ⟨⟨a1, rfl, hI1.rel⟩, trivial⟩⟩ Try.call3 W).mono fun e W' ⟨he, hg⟩ => ?_
  subst he
  exact ⟨_, rfl, post_of_same (pa := []) (pv := []) hW' (fun _ _ _ => (trodAll_cons_mk (shut_bool Try.underlying4 _) trodAll_mk0)) (fun sp _ => (trodAll_cons_mk (sh0 W' 0 sp true) (trodAll_cons_mk (sh1 W' 0 sp true) trodAll_mk0))) (fun _ _ => rfl) rfl
    (hg.frame _) hg.2.1 (ok_one (by kernel_rfl) rfl (okWide_bool_mk Try.underlying4 _))⟩

theorem transferChecks : Rows.TransferChecksSaid :=
  OpenClaim.holds_of_wide 3 Try.f3 rfl rfl rfl rfl rfl rfl rfl ⟨rfl, rfl, rfl, rfl, rfl⟩ rfl rfl rfl rfl rfl (by kernel_rfl) Try.func3 (by kernel_rfl)
    (of_decide_eq_true (by kernel_rfl)) (by unfold Func.isWrapper; first | (rw [if_pos (by decide +kernel)]; kernel_rfl) | (rw [if_neg (by decide +kernel)]; exact ⟨rfl, rfl⟩))
    (fun os started H enc _ => transferChecks_lifted os started H enc)
#print axioms transferChecks
end Go.Proofs.Ytdneelooepjdhaa
