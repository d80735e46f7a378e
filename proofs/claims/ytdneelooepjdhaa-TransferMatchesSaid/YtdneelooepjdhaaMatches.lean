/-
  'TransferMatchesSaid': for every input exchequerlaw18.TransferMatches returns true. Conditions: none but the given ones.
-/
import Derived.Test.YtdneelooepjdhaaAwk
set_option linter.unusedVariables false
namespace Go.Proofs.Ytdneelooepjdhaa
open Go.ChangeShapes Go.WideShapes Go.ChangeAt Go.RowKit Go.Ev

theorem ev6 (tIDh tIDl tDbh tDbl tCrh tCrl tAmh tAml tPeh tPel tUah tUal tUb tUc tTo tLe tCo tFl tTi pIDh pIDl pDbh pDbl pCrh pCrl pAmh pAml pPeh pPel pUah pUal pUb pUc pTo pLe pCo pFl pTi dIDh dIDl dDph dDpl dDoh dDol dCph dCpl dCoh dCol dUah dUal dUb dUc dRe dLe dCd dFl dTi cIDh cIDl cDph cDpl cDoh cDol cCph cCpl cCoh cCol cUah cUal cUb cUc cRe cLe cCd cFl cTi : Int) : CallOK Try.prog 6 [.agg [.lit (.int .u64 tIDh), .lit (.int .u64 tIDl), .lit (.int .u64 tDbh), .lit (.int .u64 tDbl), .lit (.int .u64 tCrh), .lit (.int .u64 tCrl), .lit (.int .u64 tAmh), .lit (.int .u64 tAml), .lit (.int .u64 tPeh), .lit (.int .u64 tPel), .lit (.int .u64 tUah), .lit (.int .u64 tUal), .lit (.int .u64 tUb), .lit (.int .u32 tUc), .lit (.int .u32 tTo), .lit (.int .u32 tLe), .lit (.int .u16 tCo), .lit (.int .u16 tFl), .lit (.int .u64 tTi)], .agg [.lit (.int .u64 pIDh), .lit (.int .u64 pIDl), .lit (.int .u64 pDbh), .lit (.int .u64 pDbl), .lit (.int .u64 pCrh), .lit (.int .u64 pCrl), .lit (.int .u64 pAmh), .lit (.int .u64 pAml), .lit (.int .u64 pPeh), .lit (.int .u64 pPel), .lit (.int .u64 pUah), .lit (.int .u64 pUal), .lit (.int .u64 pUb), .lit (.int .u32 pUc), .lit (.int .u32 pTo), .lit (.int .u32 pLe), .lit (.int .u16 pCo), .lit (.int .u16 pFl), .lit (.int .u64 pTi)], .agg [.lit (.int .u64 dIDh), .lit (.int .u64 dIDl), .lit (.int .u64 dDph), .lit (.int .u64 dDpl), .lit (.int .u64 dDoh), .lit (.int .u64 dDol), .lit (.int .u64 dCph), .lit (.int .u64 dCpl), .lit (.int .u64 dCoh), .lit (.int .u64 dCol), .lit (.int .u64 dUah), .lit (.int .u64 dUal), .lit (.int .u64 dUb), .lit (.int .u32 dUc), .lit (.int .u32 dRe), .lit (.int .u32 dLe), .lit (.int .u16 dCd), .lit (.int .u16 dFl), .lit (.int .u64 dTi)], .agg [.lit (.int .u64 cIDh), .lit (.int .u64 cIDl), .lit (.int .u64 cDph), .lit (.int .u64 cDpl), .lit (.int .u64 cDoh), .lit (.int .u64 cDol), .lit (.int .u64 cCph), .lit (.int .u64 cCpl), .lit (.int .u64 cCoh), .lit (.int .u64 cCol), .lit (.int .u64 cUah), .lit (.int .u64 cUal), .lit (.int .u64 cUb), .lit (.int .u32 cUc), .lit (.int .u32 cRe), .lit (.int .u32 cLe), .lit (.int .u16 cCd), .lit (.int .u16 cFl), .lit (.int .u64 cTi)]] [] (.one (.lit (.bool (bif (bif pairI dLe cLe tLe == pairI dLe cLe tLe then (matchI (decide (cmpI pAmh pAml tAmh tAml < 0)) tIDh tIDl tDbh tDbl tCrh tCrl tAmh tAml tPeh tPel tUah tUal tUb tUc tTo tLe tCo tFl tTi pIDh pIDl pDbh pDbl pCrh pCrl pAmh pAml pPeh pPel pUah pUal pUb pUc pTo pLe pCo pFl pTi == matchI (lessB pAmh pAml tAmh tAml) tIDh tIDl tDbh tDbl tCrh tCrl tAmh tAml tPeh tPel tUah tUal tUb tUc tTo tLe tCo tFl tTi pIDh pIDl pDbh pDbl pCrh pCrl pAmh pAml pPeh pPel pUah pUal pUb pUc pTo pLe pCo pFl pTi) else false) then true else false)))) {} :=
  CallOK.eval (hsOf := hsOf) (k := 68) (fuel := 1000) (n := 8) mixed tbl_ok base2_ok (by kernel_rfl) (by kernel_rfl)

theorem law6 (tIDh tIDl tDbh tDbl tCrh tCrl tAmh tAml tPeh tPel tUah tUal tUb tUc tTo tLe tCo tFl tTi pIDh pIDl pDbh pDbl pCrh pCrl pAmh pAml pPeh pPel pUah pUal pUb pUc pTo pLe pCo pFl pTi dIDh dIDl dDph dDpl dDoh dDol dCph dCpl dCoh dCol dUah dUal dUb dUc dRe dLe dCd dFl dTi cIDh cIDl cDph cDpl cDoh cDol cCph cCpl cCoh cCol cUah cUal cUb cUc cRe cLe cCd cFl cTi : Int) (wtIDh : (Lit.int .u64 tIDh).wf = true) (wtIDl : (Lit.int .u64 tIDl).wf = true) (wtDbh : (Lit.int .u64 tDbh).wf = true) (wtDbl : (Lit.int .u64 tDbl).wf = true) (wtCrh : (Lit.int .u64 tCrh).wf = true) (wtCrl : (Lit.int .u64 tCrl).wf = true) (wtAmh : (Lit.int .u64 tAmh).wf = true) (wtAml : (Lit.int .u64 tAml).wf = true) (wtPeh : (Lit.int .u64 tPeh).wf = true) (wtPel : (Lit.int .u64 tPel).wf = true) (wtUah : (Lit.int .u64 tUah).wf = true) (wtUal : (Lit.int .u64 tUal).wf = true) (wtUb : (Lit.int .u64 tUb).wf = true) (wtUc : (Lit.int .u32 tUc).wf = true) (wtTo : (Lit.int .u32 tTo).wf = true) (wtLe : (Lit.int .u32 tLe).wf = true) (wtCo : (Lit.int .u16 tCo).wf = true) (wtFl : (Lit.int .u16 tFl).wf = true) (wtTi : (Lit.int .u64 tTi).wf = true) (wpIDh : (Lit.int .u64 pIDh).wf = true) (wpIDl : (Lit.int .u64 pIDl).wf = true) (wpDbh : (Lit.int .u64 pDbh).wf = true) (wpDbl : (Lit.int .u64 pDbl).wf = true) (wpCrh : (Lit.int .u64 pCrh).wf = true) (wpCrl : (Lit.int .u64 pCrl).wf = true) (wpAmh : (Lit.int .u64 pAmh).wf = true) (wpAml : (Lit.int .u64 pAml).wf = true) (wpPeh : (Lit.int .u64 pPeh).wf = true) (wpPel : (Lit.int .u64 pPel).wf = true) (wpUah : (Lit.int .u64 pUah).wf = true) (wpUal : (Lit.int .u64 pUal).wf = true) (wpUb : (Lit.int .u64 pUb).wf = true) (wpUc : (Lit.int .u32 pUc).wf = true) (wpTo : (Lit.int .u32 pTo).wf = true) (wpLe : (Lit.int .u32 pLe).wf = true) (wpCo : (Lit.int .u16 pCo).wf = true) (wpFl : (Lit.int .u16 pFl).wf = true) (wpTi : (Lit.int .u64 pTi).wf = true) (wdIDh : (Lit.int .u64 dIDh).wf = true) (wdIDl : (Lit.int .u64 dIDl).wf = true) (wdDph : (Lit.int .u64 dDph).wf = true) (wdDpl : (Lit.int .u64 dDpl).wf = true) (wdDoh : (Lit.int .u64 dDoh).wf = true) (wdDol : (Lit.int .u64 dDol).wf = true) (wdCph : (Lit.int .u64 dCph).wf = true) (wdCpl : (Lit.int .u64 dCpl).wf = true) (wdCoh : (Lit.int .u64 dCoh).wf = true) (wdCol : (Lit.int .u64 dCol).wf = true) (wdUah : (Lit.int .u64 dUah).wf = true) (wdUal : (Lit.int .u64 dUal).wf = true) (wdUb : (Lit.int .u64 dUb).wf = true) (wdUc : (Lit.int .u32 dUc).wf = true) (wdRe : (Lit.int .u32 dRe).wf = true) (wdLe : (Lit.int .u32 dLe).wf = true) (wdCd : (Lit.int .u16 dCd).wf = true) (wdFl : (Lit.int .u16 dFl).wf = true) (wdTi : (Lit.int .u64 dTi).wf = true) (wcIDh : (Lit.int .u64 cIDh).wf = true) (wcIDl : (Lit.int .u64 cIDl).wf = true) (wcDph : (Lit.int .u64 cDph).wf = true) (wcDpl : (Lit.int .u64 cDpl).wf = true) (wcDoh : (Lit.int .u64 cDoh).wf = true) (wcDol : (Lit.int .u64 cDol).wf = true) (wcCph : (Lit.int .u64 cCph).wf = true) (wcCpl : (Lit.int .u64 cCpl).wf = true) (wcCoh : (Lit.int .u64 cCoh).wf = true) (wcCol : (Lit.int .u64 cCol).wf = true) (wcUah : (Lit.int .u64 cUah).wf = true) (wcUal : (Lit.int .u64 cUal).wf = true) (wcUb : (Lit.int .u64 cUb).wf = true) (wcUc : (Lit.int .u32 cUc).wf = true) (wcRe : (Lit.int .u32 cRe).wf = true) (wcLe : (Lit.int .u32 cLe).wf = true) (wcCd : (Lit.int .u16 cCd).wf = true) (wcFl : (Lit.int .u16 cFl).wf = true) (wcTi : (Lit.int .u64 cTi).wf = true) : CallOK Try.prog 6 [.agg [.lit (.int .u64 tIDh), .lit (.int .u64 tIDl), .lit (.int .u64 tDbh), .lit (.int .u64 tDbl), .lit (.int .u64 tCrh), .lit (.int .u64 tCrl), .lit (.int .u64 tAmh), .lit (.int .u64 tAml), .lit (.int .u64 tPeh), .lit (.int .u64 tPel), .lit (.int .u64 tUah), .lit (.int .u64 tUal), .lit (.int .u64 tUb), .lit (.int .u32 tUc), .lit (.int .u32 tTo), .lit (.int .u32 tLe), .lit (.int .u16 tCo), .lit (.int .u16 tFl), .lit (.int .u64 tTi)], .agg [.lit (.int .u64 pIDh), .lit (.int .u64 pIDl), .lit (.int .u64 pDbh), .lit (.int .u64 pDbl), .lit (.int .u64 pCrh), .lit (.int .u64 pCrl), .lit (.int .u64 pAmh), .lit (.int .u64 pAml), .lit (.int .u64 pPeh), .lit (.int .u64 pPel), .lit (.int .u64 pUah), .lit (.int .u64 pUal), .lit (.int .u64 pUb), .lit (.int .u32 pUc), .lit (.int .u32 pTo), .lit (.int .u32 pLe), .lit (.int .u16 pCo), .lit (.int .u16 pFl), .lit (.int .u64 pTi)], .agg [.lit (.int .u64 dIDh), .lit (.int .u64 dIDl), .lit (.int .u64 dDph), .lit (.int .u64 dDpl), .lit (.int .u64 dDoh), .lit (.int .u64 dDol), .lit (.int .u64 dCph), .lit (.int .u64 dCpl), .lit (.int .u64 dCoh), .lit (.int .u64 dCol), .lit (.int .u64 dUah), .lit (.int .u64 dUal), .lit (.int .u64 dUb), .lit (.int .u32 dUc), .lit (.int .u32 dRe), .lit (.int .u32 dLe), .lit (.int .u16 dCd), .lit (.int .u16 dFl), .lit (.int .u64 dTi)], .agg [.lit (.int .u64 cIDh), .lit (.int .u64 cIDl), .lit (.int .u64 cDph), .lit (.int .u64 cDpl), .lit (.int .u64 cDoh), .lit (.int .u64 cDol), .lit (.int .u64 cCph), .lit (.int .u64 cCpl), .lit (.int .u64 cCoh), .lit (.int .u64 cCol), .lit (.int .u64 cUah), .lit (.int .u64 cUal), .lit (.int .u64 cUb), .lit (.int .u32 cUc), .lit (.int .u32 cRe), .lit (.int .u32 cLe), .lit (.int .u16 cCd), .lit (.int .u16 cFl), .lit (.int .u64 cTi)]] [] (.one (.lit (.bool true))) {} := by
  have h := ev6 tIDh tIDl tDbh tDbl tCrh tCrl tAmh tAml tPeh tPel tUah tUal tUb tUc tTo tLe tCo tFl tTi pIDh pIDl pDbh pDbl pCrh pCrl pAmh pAml pPeh pPel pUah pUal pUb pUc pTo pLe pCo pFl pTi dIDh dIDl dDph dDpl dDoh dDol dCph dCpl dCoh dCol dUah dUal dUb dUc dRe dLe dCd dFl dTi cIDh cIDl cDph cDpl cDoh cDol cCph cCpl cCoh cCol cUah cUal cUb cUc cRe cLe cCd cFl cTi
  rw [cmp_less] at h
  simp only [beq_self_eq_true, cond_true] at h
  exact h

set_option maxRecDepth 100000 in
theorem transferMatches_lifted (os : Os) (started : os.Started) (H : Type) (enc : TypeId × Value → H) :
    ReturnsInHanded {} Try.checked os 6 .any (Rows.transferMatchesSpec.pre6 enc Try.prog Try.f6 Rows.transferMatchesRow.domain false) (Rows.transferMatchesSpec.post enc Try.prog Try.f6 false true false false) := by
  refine returnsInHanded_of_change (C := Try.checked) own started (by kernel_rfl) Try.func6
    (ChangeSpec.witness6 (enc := enc) (C := Try.checked) false ⟨#[], #[.agg #[.int .u64 0, .int .u64 0, .int .u64 0, .int .u64 0, .int .u64 0, .int .u64 0, .int .u64 0, .int .u64 0, .int .u64 0, .int .u64 0, .int .u64 0, .int .u64 0, .int .u64 0, .int .u32 0, .int .u32 0, .int .u32 0, .int .u16 0, .int .u16 0, .int .u64 0], .agg #[.int .u64 0, .int .u64 0, .int .u64 0, .int .u64 0, .int .u64 0, .int .u64 0, .int .u64 0, .int .u64 0, .int .u64 0, .int .u64 0, .int .u64 0, .int .u64 0, .int .u64 0, .int .u32 0, .int .u32 0, .int .u32 0, .int .u16 0, .int .u16 0, .int .u64 0], .agg #[.int .u64 0, .int .u64 0, .int .u64 0, .int .u64 0, .int .u64 0, .int .u64 0, .int .u64 0, .int .u64 0, .int .u64 0, .int .u64 0, .int .u64 0, .int .u64 0, .int .u64 0, .int .u32 0, .int .u32 0, .int .u32 0, .int .u16 0, .int .u16 0, .int .u64 0], .agg #[.int .u64 0, .int .u64 0, .int .u64 0, .int .u64 0, .int .u64 0, .int .u64 0, .int .u64 0, .int .u64 0, .int .u64 0, .int .u64 0, .int .u64 0, .int .u64 0, .int .u64 0, .int .u32 0, .int .u32 0, .int .u32 0, .int .u16 0, .int .u16 0, .int .u64 0]], []⟩ 8 (by kernel_rfl) (by kernel_rfl) (by kernel_rfl) (by kernel_rfl)) ?_
  intro W base args ds gs before hval0 hW hcnd _
  have hval : ∀ (j : Nat) t v, Try.f6.params[j]? = some t → args[j]? = some v → Value.okWide Try.prog W .any base t v := hval0
  have hW' := hW
  obtain ⟨p, q, hA0, hV, rfl, hfz, hnd⟩ := hW
  have hA : DataW.TrodAll enc Try.prog W 0 (fun _ => true) true Try.f6.params.toList args.toList ds p := hA0
  rw [Try.params6] at hA hval
  obtain ⟨v0, vs0, d0, ds0, p0, q0, hargs, rfl, rfl, h0, r0⟩ := trodAll_cons hA
  obtain ⟨v1, vs1, d1, ds1, p1, q1, rfl, rfl, rfl, h1, r1⟩ := trodAll_cons r0
  obtain ⟨v2, vs2, d2, ds2, p2, q2, rfl, rfl, rfl, h2, r2⟩ := trodAll_cons r1
  obtain ⟨v3, vs3, d3, ds3, p3, q3, rfl, rfl, rfl, h3, r3⟩ := trodAll_cons r2
  obtain ⟨rfl, rfl, rfl⟩ := trodAll_nil r3
  obtain rfl : args = #[v0, v1, v2, v3] := by cases args; simp_all
  obtain ⟨rfl, rfl⟩ := trodVars_none hV
  obtain ⟨rfl, ⟨a0, n0, rfl, hI0⟩, sh0⟩ := open_flat Try.underlying28 (n := 5) (ks := kindsT) (by kernel_rfl) (hval 0 28 v0 rfl rfl) h0
  obtain ⟨tIDh, y0_0, z0_0, -, rfl, wtIDh, k0_0⟩ := IntsAre.cons hI0
  obtain ⟨tIDl, y0_1, z0_1, -, rfl, wtIDl, k0_1⟩ := IntsAre.cons k0_0
  obtain ⟨tDbh, y0_2, z0_2, -, rfl, wtDbh, k0_2⟩ := IntsAre.cons k0_1
  obtain ⟨tDbl, y0_3, z0_3, -, rfl, wtDbl, k0_3⟩ := IntsAre.cons k0_2
  obtain ⟨tCrh, y0_4, z0_4, -, rfl, wtCrh, k0_4⟩ := IntsAre.cons k0_3
  obtain ⟨tCrl, y0_5, z0_5, -, rfl, wtCrl, k0_5⟩ := IntsAre.cons k0_4
  obtain ⟨tAmh, y0_6, z0_6, -, rfl, wtAmh, k0_6⟩ := IntsAre.cons k0_5
  obtain ⟨tAml, y0_7, z0_7, -, rfl, wtAml, k0_7⟩ := IntsAre.cons k0_6
  obtain ⟨tPeh, y0_8, z0_8, -, rfl, wtPeh, k0_8⟩ := IntsAre.cons k0_7
  obtain ⟨tPel, y0_9, z0_9, -, rfl, wtPel, k0_9⟩ := IntsAre.cons k0_8
  obtain ⟨tUah, y0_10, z0_10, -, rfl, wtUah, k0_10⟩ := IntsAre.cons k0_9
  obtain ⟨tUal, y0_11, z0_11, -, rfl, wtUal, k0_11⟩ := IntsAre.cons k0_10
  obtain ⟨tUb, y0_12, z0_12, -, rfl, wtUb, k0_12⟩ := IntsAre.cons k0_11
  obtain ⟨tUc, y0_13, z0_13, -, rfl, wtUc, k0_13⟩ := IntsAre.cons k0_12
  obtain ⟨tTo, y0_14, z0_14, -, rfl, wtTo, k0_14⟩ := IntsAre.cons k0_13
  obtain ⟨tLe, y0_15, z0_15, -, rfl, wtLe, k0_15⟩ := IntsAre.cons k0_14
  obtain ⟨tCo, y0_16, z0_16, -, rfl, wtCo, k0_16⟩ := IntsAre.cons k0_15
  obtain ⟨tFl, y0_17, z0_17, -, rfl, wtFl, k0_17⟩ := IntsAre.cons k0_16
  obtain ⟨tTi, y0_18, z0_18, -, rfl, wtTi, k0_18⟩ := IntsAre.cons k0_17
  obtain ⟨-, rfl⟩ := IntsAre.nil k0_18
  obtain ⟨rfl, ⟨a1, n1, rfl, hI1⟩, sh1⟩ := open_flat Try.underlying28 (n := 5) (ks := kindsT) (by kernel_rfl) (hval 1 28 v1 rfl rfl) h1
  obtain ⟨pIDh, y1_0, z1_0, -, rfl, wpIDh, k1_0⟩ := IntsAre.cons hI1
  obtain ⟨pIDl, y1_1, z1_1, -, rfl, wpIDl, k1_1⟩ := IntsAre.cons k1_0
  obtain ⟨pDbh, y1_2, z1_2, -, rfl, wpDbh, k1_2⟩ := IntsAre.cons k1_1
  obtain ⟨pDbl, y1_3, z1_3, -, rfl, wpDbl, k1_3⟩ := IntsAre.cons k1_2
  obtain ⟨pCrh, y1_4, z1_4, -, rfl, wpCrh, k1_4⟩ := IntsAre.cons k1_3
  obtain ⟨pCrl, y1_5, z1_5, -, rfl, wpCrl, k1_5⟩ := IntsAre.cons k1_4
  obtain ⟨pAmh, y1_6, z1_6, -, rfl, wpAmh, k1_6⟩ := IntsAre.cons k1_5
  obtain ⟨pAml, y1_7, z1_7, -, rfl, wpAml, k1_7⟩ := IntsAre.cons k1_6
  obtain ⟨pPeh, y1_8, z1_8, -, rfl, wpPeh, k1_8⟩ := IntsAre.cons k1_7
  obtain ⟨pPel, y1_9, z1_9, -, rfl, wpPel, k1_9⟩ := IntsAre.cons k1_8
  obtain ⟨pUah, y1_10, z1_10, -, rfl, wpUah, k1_10⟩ := IntsAre.cons k1_9
  obtain ⟨pUal, y1_11, z1_11, -, rfl, wpUal, k1_11⟩ := IntsAre.cons k1_10
  obtain ⟨pUb, y1_12, z1_12, -, rfl, wpUb, k1_12⟩ := IntsAre.cons k1_11
  obtain ⟨pUc, y1_13, z1_13, -, rfl, wpUc, k1_13⟩ := IntsAre.cons k1_12
  obtain ⟨pTo, y1_14, z1_14, -, rfl, wpTo, k1_14⟩ := IntsAre.cons k1_13
  obtain ⟨pLe, y1_15, z1_15, -, rfl, wpLe, k1_15⟩ := IntsAre.cons k1_14
  obtain ⟨pCo, y1_16, z1_16, -, rfl, wpCo, k1_16⟩ := IntsAre.cons k1_15
  obtain ⟨pFl, y1_17, z1_17, -, rfl, wpFl, k1_17⟩ := IntsAre.cons k1_16
  obtain ⟨pTi, y1_18, z1_18, -, rfl, wpTi, k1_18⟩ := IntsAre.cons k1_17
  obtain ⟨-, rfl⟩ := IntsAre.nil k1_18
  obtain ⟨rfl, ⟨a2, n2, rfl, hI2⟩, sh2⟩ := open_flat Try.underlying34 (n := 5) (ks := kindsA) (by kernel_rfl) (hval 2 34 v2 rfl rfl) h2
  obtain ⟨dIDh, y2_0, z2_0, -, rfl, wdIDh, k2_0⟩ := IntsAre.cons hI2
  obtain ⟨dIDl, y2_1, z2_1, -, rfl, wdIDl, k2_1⟩ := IntsAre.cons k2_0
  obtain ⟨dDph, y2_2, z2_2, -, rfl, wdDph, k2_2⟩ := IntsAre.cons k2_1
  obtain ⟨dDpl, y2_3, z2_3, -, rfl, wdDpl, k2_3⟩ := IntsAre.cons k2_2
  obtain ⟨dDoh, y2_4, z2_4, -, rfl, wdDoh, k2_4⟩ := IntsAre.cons k2_3
  obtain ⟨dDol, y2_5, z2_5, -, rfl, wdDol, k2_5⟩ := IntsAre.cons k2_4
  obtain ⟨dCph, y2_6, z2_6, -, rfl, wdCph, k2_6⟩ := IntsAre.cons k2_5
  obtain ⟨dCpl, y2_7, z2_7, -, rfl, wdCpl, k2_7⟩ := IntsAre.cons k2_6
  obtain ⟨dCoh, y2_8, z2_8, -, rfl, wdCoh, k2_8⟩ := IntsAre.cons k2_7
  obtain ⟨dCol, y2_9, z2_9, -, rfl, wdCol, k2_9⟩ := IntsAre.cons k2_8
  obtain ⟨dUah, y2_10, z2_10, -, rfl, wdUah, k2_10⟩ := IntsAre.cons k2_9
  obtain ⟨dUal, y2_11, z2_11, -, rfl, wdUal, k2_11⟩ := IntsAre.cons k2_10
  obtain ⟨dUb, y2_12, z2_12, -, rfl, wdUb, k2_12⟩ := IntsAre.cons k2_11
  obtain ⟨dUc, y2_13, z2_13, -, rfl, wdUc, k2_13⟩ := IntsAre.cons k2_12
  obtain ⟨dRe, y2_14, z2_14, -, rfl, wdRe, k2_14⟩ := IntsAre.cons k2_13
  obtain ⟨dLe, y2_15, z2_15, -, rfl, wdLe, k2_15⟩ := IntsAre.cons k2_14
  obtain ⟨dCd, y2_16, z2_16, -, rfl, wdCd, k2_16⟩ := IntsAre.cons k2_15
  obtain ⟨dFl, y2_17, z2_17, -, rfl, wdFl, k2_17⟩ := IntsAre.cons k2_16
  obtain ⟨dTi, y2_18, z2_18, -, rfl, wdTi, k2_18⟩ := IntsAre.cons k2_17
  obtain ⟨-, rfl⟩ := IntsAre.nil k2_18
  obtain ⟨rfl, ⟨a3, n3, rfl, hI3⟩, sh3⟩ := open_flat Try.underlying34 (n := 5) (ks := kindsA) (by kernel_rfl) (hval 3 34 v3 rfl rfl) h3
  obtain ⟨cIDh, y3_0, z3_0, -, rfl, wcIDh, k3_0⟩ := IntsAre.cons hI3
  obtain ⟨cIDl, y3_1, z3_1, -, rfl, wcIDl, k3_1⟩ := IntsAre.cons k3_0
  obtain ⟨cDph, y3_2, z3_2, -, rfl, wcDph, k3_2⟩ := IntsAre.cons k3_1
  obtain ⟨cDpl, y3_3, z3_3, -, rfl, wcDpl, k3_3⟩ := IntsAre.cons k3_2
  obtain ⟨cDoh, y3_4, z3_4, -, rfl, wcDoh, k3_4⟩ := IntsAre.cons k3_3
  obtain ⟨cDol, y3_5, z3_5, -, rfl, wcDol, k3_5⟩ := IntsAre.cons k3_4
  obtain ⟨cCph, y3_6, z3_6, -, rfl, wcCph, k3_6⟩ := IntsAre.cons k3_5
  obtain ⟨cCpl, y3_7, z3_7, -, rfl, wcCpl, k3_7⟩ := IntsAre.cons k3_6
  obtain ⟨cCoh, y3_8, z3_8, -, rfl, wcCoh, k3_8⟩ := IntsAre.cons k3_7
  obtain ⟨cCol, y3_9, z3_9, -, rfl, wcCol, k3_9⟩ := IntsAre.cons k3_8
  obtain ⟨cUah, y3_10, z3_10, -, rfl, wcUah, k3_10⟩ := IntsAre.cons k3_9
  obtain ⟨cUal, y3_11, z3_11, -, rfl, wcUal, k3_11⟩ := IntsAre.cons k3_10
  obtain ⟨cUb, y3_12, z3_12, -, rfl, wcUb, k3_12⟩ := IntsAre.cons k3_11
  obtain ⟨cUc, y3_13, z3_13, -, rfl, wcUc, k3_13⟩ := IntsAre.cons k3_12
  obtain ⟨cRe, y3_14, z3_14, -, rfl, wcRe, k3_14⟩ := IntsAre.cons k3_13
  obtain ⟨cLe, y3_15, z3_15, -, rfl, wcLe, k3_15⟩ := IntsAre.cons k3_14
  obtain ⟨cCd, y3_16, z3_16, -, rfl, wcCd, k3_16⟩ := IntsAre.cons k3_15
  obtain ⟨cFl, y3_17, z3_17, -, rfl, wcFl, k3_17⟩ := IntsAre.cons k3_16
  obtain ⟨cTi, y3_18, z3_18, -, rfl, wcTi, k3_18⟩ := IntsAre.cons k3_17
  obtain ⟨-, rfl⟩ := IntsAre.nil k3_18
  clear hA0 hval0
  simp only [List.append_nil] at hW'
  refine ((law6 tIDh tIDl tDbh tDbl tCrh tCrl tAmh tAml tPeh tPel tUah tUal tUb tUc tTo tLe tCo tFl tTi pIDh pIDl pDbh pDbl pCrh pCrl pAmh pAml pPeh pPel pUah pUal pUb pUc pTo pLe pCo pFl pTi dIDh dIDl dDph dDpl dDoh dDol dCph dCpl dCoh dCol dUah dUal dUb dUc dRe dLe dCd dFl dTi cIDh cIDl cDph cDpl cDoh cDol cCph cCpl cCoh cCol cUah cUal cUb cUc cRe cLe cCd cFl cTi wtIDh wtIDl wtDbh wtDbl wtCrh wtCrl wtAmh wtAml wtPeh wtPel wtUah wtUal wtUb wtUc wtTo wtLe wtCo wtFl wtTi wpIDh wpIDl wpDbh wpDbl wpCrh wpCrl wpAmh wpAml wpPeh wpPel wpUah wpUal wpUb wpUc wpTo wpLe wpCo wpFl wpTi wdIDh wdIDl wdDph wdDpl wdDoh wdDol wdCph wdCpl wdCoh wdCol wdUah wdUal wdUb wdUc wdRe wdLe wdCd wdFl wdTi wcIDh wcIDl wcDph wcDpl wcDoh wcDol wcCph wcCpl wcCoh wcCol wcUah wcUal wcUb wcUc wcRe wcLe wcCd wcFl wcTi).walk (us := #[.agg a0, .agg a1, .agg a2, .agg a3]) ⟨⟨a0, rfl, hI0.rel⟩, ⟨⟨a1, rfl, hI1.rel⟩, ⟨⟨a2, rfl, hI2.rel⟩, ⟨⟨a3, rfl, hI3.rel⟩, trivial⟩⟩⟩⟩ Try.call6 W).mono fun e W' ⟨he, hg⟩ => ?_
  subst he
  exact ⟨_, rfl, post_of_same (pa := []) (pv := []) hW' (fun _ _ _ => (trodAll_cons_mk (shut_bool Try.underlying4 _) trodAll_mk0)) (fun sp _ => (trodAll_cons_mk (sh0 W' 0 sp true) (trodAll_cons_mk (sh1 W' 0 sp true) (trodAll_cons_mk (sh2 W' 0 sp true) (trodAll_cons_mk (sh3 W' 0 sp true) trodAll_mk0))))) (fun _ _ => rfl) rfl
    (hg.frame _) hg.2.1 (ok_one (by kernel_rfl) rfl (okWide_bool_mk Try.underlying4 _))⟩

theorem transferMatches : Rows.TransferMatchesSaid :=
  OpenClaim.holds_of_wide 6 Try.f6 rfl rfl rfl rfl rfl rfl rfl ⟨rfl, rfl, rfl, rfl, rfl⟩ rfl rfl rfl rfl rfl (by kernel_rfl) Try.func6 (by kernel_rfl)
    (of_decide_eq_true (by kernel_rfl)) (by unfold Func.isWrapper; first | (rw [if_pos (by decide +kernel)]; kernel_rfl) | (rw [if_neg (by decide +kernel)]; exact ⟨rfl, rfl⟩))
    (fun os started H enc _ => transferMatches_lifted os started H enc)
#print axioms transferMatches
end Go.Proofs.Ytdneelooepjdhaa
