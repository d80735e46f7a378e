/-
  Equality of accounts and transfers, evenness, as Lean functions of the cells. Conditions: none.
-/
import Derived.Test.YtdneelooepjdhaaSeu
import Derived.Test.YtdneelooepjdhaaExc
set_option linter.unusedVariables false
namespace Go.Proofs.Ytdneelooepjdhaa
open Go.Ev Go.Proofs

def eqAc (xIDh xIDl xDph xDpl xDoh xDol xCph xCpl xCoh xCol xUah xUal xUb xUc xRe xLe xCd xFl xTi yIDh yIDl yDph yDpl yDoh yDol yCph yCpl yCoh yCol yUah yUal yUb yUc yRe yLe yCd yFl yTi : Int) : Bool := (eqU (xIDh) (xIDl) (yIDh) (yIDl) && (eqU (xDph) (xDpl) (yDph) (yDpl) && (eqU (xDoh) (xDol) (yDoh) (yDol) && (eqU (xCph) (xCpl) (yCph) (yCpl) && (eqU (xCoh) (xCol) (yCoh) (yCol) && (eqU (xUah) (xUal) (yUah) (yUal) && (((xUb : Int) == (yUb)) && (((xUc : Int) == (yUc)) && (((xRe : Int) == (yRe)) && (((xLe : Int) == (yLe)) && (((xCd : Int) == (yCd)) && (((xFl : Int) == (yFl)) && (((xTi : Int) == (yTi)) && true)))))))))))))
def eqTr (xIDh xIDl xDbh xDbl xCrh xCrl xAmh xAml xPeh xPel xUah xUal xUb xUc xTo xLe xCo xFl xTi yIDh yIDl yDbh yDbl yCrh yCrl yAmh yAml yPeh yPel yUah yUal yUb yUc yTo yLe yCo yFl yTi : Int) : Bool := (eqU (xIDh) (xIDl) (yIDh) (yIDl) && (eqU (xDbh) (xDbl) (yDbh) (yDbl) && (eqU (xCrh) (xCrl) (yCrh) (yCrl) && (eqU (xAmh) (xAml) (yAmh) (yAml) && (eqU (xPeh) (xPel) (yPeh) (yPel) && (eqU (xUah) (xUal) (yUah) (yUal) && (((xUb : Int) == (yUb)) && (((xUc : Int) == (yUc)) && (((xTo : Int) == (yTo)) && (((xLe : Int) == (yLe)) && (((xCo : Int) == (yCo)) && (((xFl : Int) == (yFl)) && (((xTi : Int) == (yTi)) && true)))))))))))))
theorem eqU_refl2 (a b : Int) : eqU a b a b = true := by simp [eqU]
theorem eqAc_refl (xIDh xIDl xDph xDpl xDoh xDol xCph xCpl xCoh xCol xUah xUal xUb xUc xRe xLe xCd xFl xTi : Int) : eqAc xIDh xIDl xDph xDpl xDoh xDol xCph xCpl xCoh xCol xUah xUal xUb xUc xRe xLe xCd xFl xTi xIDh xIDl xDph xDpl xDoh xDol xCph xCpl xCoh xCol xUah xUal xUb xUc xRe xLe xCd xFl xTi = true := by simp [eqAc, eqU_refl2]
theorem eqTr_refl (xIDh xIDl xDbh xDbl xCrh xCrl xAmh xAml xPeh xPel xUah xUal xUb xUc xTo xLe xCo xFl xTi : Int) : eqTr xIDh xIDl xDbh xDbl xCrh xCrl xAmh xAml xPeh xPel xUah xUal xUb xUc xTo xLe xCo xFl xTi xIDh xIDl xDbh xDbl xCrh xCrl xAmh xAml xPeh xPel xUah xUal xUb xUc xTo xLe xCo xFl xTi = true := by simp [eqTr, eqU_refl2]

def evenI (xIDh xIDl xDph xDpl xDoh xDol xCph xCpl xCoh xCol xUah xUal xUb xUc xRe xLe xCd xFl xTi yIDh yIDl yDph yDpl yDoh yDol yCph yCpl yCoh yCol yUah yUal yUb yUc yRe yLe yCd yFl yTi dIDh dIDl dDph dDpl dDoh dDol dCph dCpl dCoh dCol dUah dUal dUb dUc dRe dLe dCd dFl dTi cIDh cIDl cDph cDpl cDoh cDol cCph cCpl cCoh cCol cUah cUal cUb cUc cRe cLe cCd cFl cTi : Int) : Bool :=
  bif (bif !eqU (SH (V yCoh yCol - V cCoh cCol)) (SL (V yCoh yCol - V cCoh cCol)) (SH (V xDoh xDol - V dDoh dDol)) (SL (V xDoh xDol - V dDoh dDol)) then true else !eqU (SH (V yCph yCpl - V cCph cCpl)) (SL (V yCph yCpl - V cCph cCpl)) (SH (V xDph xDpl - V dDph dDpl)) (SL (V xDph xDpl - V dDph dDpl))) then false
  else bif eqAc xIDh xIDl dDph dDpl dDoh dDol xCph xCpl xCoh xCol xUah xUal xUb xUc xRe xLe xCd xFl xTi dIDh dIDl dDph dDpl dDoh dDol dCph dCpl dCoh dCol dUah dUal dUb dUc dRe dLe dCd dFl dTi then eqAc yIDh yIDl yDph yDpl yDoh yDol cCph cCpl cCoh cCol yUah yUal yUb yUc yRe yLe yCd yFl yTi cIDh cIDl cDph cDpl cDoh cDol cCph cCpl cCoh cCol cUah cUal cUb cUc cRe cLe cCd cFl cTi else false
theorem even_ok {dIDh dIDl dDph dDpl dDoh dDol dCph dCpl dCoh dCol dUah dUal dUb dUc dRe dLe dCd dFl dTi cIDh cIDl cDph cDpl cDoh cDol cCph cCpl cCoh cCol cUah cUal cUb cUc cRe cLe cCd cFl cTi Q1h Q1l P1h P1l Q2h Q2l P2h P2l : Int}
    (h1 : SH (V Q1h Q1l - V dDoh dDol) = SH (V Q2h Q2l - V cCoh cCol) ∧ SL (V Q1h Q1l - V dDoh dDol) = SL (V Q2h Q2l - V cCoh cCol))
    (h2 : SH (V P1h P1l - V dDph dDpl) = SH (V P2h P2l - V cCph cCpl) ∧ SL (V P1h P1l - V dDph dDpl) = SL (V P2h P2l - V cCph cCpl)) :
    evenI dIDh dIDl P1h P1l Q1h Q1l dCph dCpl dCoh dCol dUah dUal dUb dUc dRe dLe dCd dFl dTi cIDh cIDl cDph cDpl cDoh cDol P2h P2l Q2h Q2l cUah cUal cUb cUc cRe cLe cCd cFl cTi dIDh dIDl dDph dDpl dDoh dDol dCph dCpl dCoh dCol dUah dUal dUb dUc dRe dLe dCd dFl dTi cIDh cIDl cDph cDpl cDoh cDol cCph cCpl cCoh cCol cUah cUal cUb cUc cRe cLe cCd cFl cTi = true := by
  unfold evenI
  rw [h1.1, h1.2, h2.1, h2.2, eqU_refl2, eqU_refl2, eqAc_refl, eqAc_refl]
  rfl
def hsE (f : Nat) : Hints :=
  match Nat.beq f 28 with
  | true => { sym := true, forks := [40] }
  | false => hsS f
theorem dAdd (a n : Int) : SH (V (SH (a + n)) (SL (a + n)) - a) = SH n ∧ SL (V (SH (a + n)) (SL (a + n)) - a) = SL n := by
  rw [V_SH]; unfold SH SL; omega
theorem dSub (a n : Int) : SH (V (SH (a - n)) (SL (a - n)) - a) = SH (-n) ∧ SL (V (SH (a - n)) (SL (a - n)) - a) = SL (-n) := by
  rw [V_SH]; unfold SH SL; omega
theorem dSame (a : Int) : SH (a - a) = 0 ∧ SL (a - a) = 0 := by unfold SH SL; omega
theorem tr2 {a b c d e f : Int} (h : a = e ∧ b = f) (h' : c = e ∧ d = f) : a = c ∧ b = d := ⟨h.1.trans h'.1.symm, h.2.trans h'.2.symm⟩
end Go.Proofs.Ytdneelooepjdhaa
