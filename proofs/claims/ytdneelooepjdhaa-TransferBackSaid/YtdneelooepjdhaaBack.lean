/-
  'TransferBackSaid': for every input exchequerlaw18.TransferBack returns true. Conditions: none but the given ones.
-/
import Derived.Test.YtdneelooepjdhaaEvn
set_option linter.unusedVariables false
set_option linter.unusedSimpArgs false
namespace Go.Proofs.Ytdneelooepjdhaa
open Go.ChangeShapes Go.WideShapes Go.ChangeAt Go.RowKit Go.Ev

/-- The same contract; its marks are moved on. -/
def reMark (φ : List AV → Nat) (g : FnB) : FnB := fun args H => match g args H with
  | some (v, e, ob) => some (v, e, ob.map fun p => (φ args + p.1, p.2))
  | none => none
theorem reMark_ok {f : FuncId} {φ : List AV → Nat} {g : FnB} (h : FnOK Try.prog f g) : FnOK Try.prog f (reMark φ g) := by
  intro args H v e ob hr hk
  unfold reMark at hr
  split at hr
  · rename_i v' e' ob' hg
    cases hr
    exact h args H _ _ _ hg fun p hp => hk (φ args + p.1, p.2) (List.mem_map.2 ⟨p, hp, rfl⟩)
  · cases hr
def flagM : List AV → Nat
  | .agg t :: _ => match (t[17]? : Option Cel) with
    | some (Cel.lit (Value.int _ f)) => bif f == 2 then 100 else bif f == 4 then 200 else bif f == 8 then 300 else 400
    | _ => 0
  | _ => 0
def l9 (ok1 ok2 : Bool) : List (FuncId × FnB) := (16, reMark flagM (g16 fun f => (f == 2, bif f == 2 then ok1 else ok2))) :: (22, reMark flagM (gS fun f => (false, f == 4, f == 8))) :: (15, g15) :: lS
theorem l9_ok (ok1 ok2 : Bool) : OraOK Try.prog (oraL (l9 ok1 ok2)).plain := oraL_ok _ (by
  intro x hx
  rcases List.mem_cons.1 hx with rfl | hx
  · exact reMark_ok (fn16 _)
  rcases List.mem_cons.1 hx with rfl | hx
  · exact reMark_ok (fn22 _)
  rcases List.mem_cons.1 hx with rfl | hx
  · exact fn15
  exact lS_ok x hx)
def hs9 (z : Bool) (f : Nat) : Hints :=
  match Nat.beq f 9 with
  | true => { sym := true, l := [(42, z, 40), (102, false, 41)] }
  | false => hsE f

def k9a (tIDh tIDl tDbh tDbl tCrh tCrl tAmh tAml tPeh tPel tUah tUal tUb tUc tTo tLe tCo tFl tTi dIDh dIDl dDph dDpl dDoh dDol dCph dCpl dCoh dCol dUah dUal dUb dUc dRe dLe dCd dFl dTi cIDh cIDl cDph cDpl cDoh cDol cCph cCpl cCoh cCol cUah cUal cUb cUc cRe cLe cCd cFl cTi time later : Int) : List (Nat × Bool × Bool) := [(101, bit 2 2, true), (102, (codeA true tIDh tIDl tDbh tDbl tCrh tCrl tAmh tAml tPeh tPel tUah tUal tUb tUc tTo tLe tCo 2 tTi dIDh dIDl dDph dDpl dDoh dDol dCph dCpl dCoh dCol dUah dUal dUb dUc dRe dLe dCd dFl dTi cIDh cIDl cDph cDpl cDoh cDol cCph cCpl cCoh cCol cUah cUal cUb cUc cRe cLe cCd cFl cTi time) != 0, true), (40, (bif ((codeA true tIDh tIDl tDbh tDbl tCrh tCrl tAmh tAml tPeh tPel tUah tUal tUb tUc tTo tLe tCo 2 tTi dIDh dIDl dDph dDpl dDoh dDol dCph dCpl dCoh dCol dUah dUal dUb dUc dRe dLe dCd dFl dTi cIDh cIDl cDph cDpl cDoh cDol cCph cCpl cCoh cCol cUah cUal cUb cUc cRe cLe cCd cFl cTi time) != 0) then true else (bif (bif lateB 0 0 then false else true) then decide (endI 0 0 ≤ later) else false)), true)]
theorem ev9a (tIDh tIDl tDbh tDbl tCrh tCrl tAmh tAml tPeh tPel tUah tUal tUb tUc tTo tLe tCo tFl tTi dIDh dIDl dDph dDpl dDoh dDol dCph dCpl dCoh dCol dUah dUal dUb dUc dRe dLe dCd dFl dTi cIDh cIDl cDph cDpl cDoh cDol cCph cCpl cCoh cCol cUah cUal cUb cUc cRe cLe cCd cFl cTi time later : Int) (h : ∀ x ∈ k9a tIDh tIDl tDbh tDbl tCrh tCrl tAmh tAml tPeh tPel tUah tUal tUb tUc tTo tLe tCo tFl tTi dIDh dIDl dDph dDpl dDoh dDol dCph dCpl dCoh dCol dUah dUal dUb dUc dRe dLe dCd dFl dTi cIDh cIDl cDph cDpl cDoh cDol cCph cCpl cCoh cCol cUah cUal cUb cUc cRe cLe cCd cFl cTi time later, x.2.1 = x.2.2) : CallOK Try.prog 9 [.agg [.lit (.int .u64 tIDh), .lit (.int .u64 tIDl), .lit (.int .u64 tDbh), .lit (.int .u64 tDbl), .lit (.int .u64 tCrh), .lit (.int .u64 tCrl), .lit (.int .u64 tAmh), .lit (.int .u64 tAml), .lit (.int .u64 tPeh), .lit (.int .u64 tPel), .lit (.int .u64 tUah), .lit (.int .u64 tUal), .lit (.int .u64 tUb), .lit (.int .u32 tUc), .lit (.int .u32 tTo), .lit (.int .u32 tLe), .lit (.int .u16 tCo), .lit (.int .u16 tFl), .lit (.int .u64 tTi)], .agg [.lit (.int .u64 dIDh), .lit (.int .u64 dIDl), .lit (.int .u64 dDph), .lit (.int .u64 dDpl), .lit (.int .u64 dDoh), .lit (.int .u64 dDol), .lit (.int .u64 dCph), .lit (.int .u64 dCpl), .lit (.int .u64 dCoh), .lit (.int .u64 dCol), .lit (.int .u64 dUah), .lit (.int .u64 dUal), .lit (.int .u64 dUb), .lit (.int .u32 dUc), .lit (.int .u32 dRe), .lit (.int .u32 dLe), .lit (.int .u16 dCd), .lit (.int .u16 dFl), .lit (.int .u64 dTi)], .agg [.lit (.int .u64 cIDh), .lit (.int .u64 cIDl), .lit (.int .u64 cDph), .lit (.int .u64 cDpl), .lit (.int .u64 cDoh), .lit (.int .u64 cDol), .lit (.int .u64 cCph), .lit (.int .u64 cCpl), .lit (.int .u64 cCoh), .lit (.int .u64 cCol), .lit (.int .u64 cUah), .lit (.int .u64 cUal), .lit (.int .u64 cUb), .lit (.int .u32 cUc), .lit (.int .u32 cRe), .lit (.int .u32 cLe), .lit (.int .u16 cCd), .lit (.int .u16 cFl), .lit (.int .u64 cTi)], .one (.lit (.int .u64 time)), .one (.lit (.int .u64 later))] [] (.one (.lit (.bool true))) {} :=
  CallOK.evalM (hsOf := hs9 true) (k := 68) (fuel := 1000) (n := 4) mixed tbl_ok (l9_ok false false) (ks := k9a tIDh tIDl tDbh tDbl tCrh tCrl tAmh tAml tPeh tPel tUah tUal tUb tUc tTo tLe tCo tFl tTi dIDh dIDl dDph dDpl dDoh dDol dCph dCpl dCoh dCol dUah dUal dUb dUc dRe dLe dCd dFl dTi cIDh cIDl cDph cDpl cDoh cDol cCph cCpl cCoh cCol cUah cUal cUb cUc cRe cLe cCd cFl cTi time later) h (by kernel_rfl) (by kernel_rfl)

def k9b (tIDh tIDl tDbh tDbl tCrh tCrl tAmh tAml tPeh tPel tUah tUal tUb tUc tTo tLe tCo tFl tTi dIDh dIDl dDph dDpl dDoh dDol dCph dCpl dCoh dCol dUah dUal dUb dUc dRe dLe dCd dFl dTi cIDh cIDl cDph cDpl cDoh cDol cCph cCpl cCoh cCol cUah cUal cUb cUc cRe cLe cCd cFl cTi time later : Int) : List (Nat × Bool × Bool) := [(101, bit 2 2, true), (102, (codeA true tIDh tIDl tDbh tDbl tCrh tCrl tAmh tAml tPeh tPel tUah tUal tUb tUc tTo tLe tCo 2 tTi dIDh dIDl dDph dDpl dDoh dDol dCph dCpl dCoh dCol dUah dUal dUb dUc dRe dLe dCd dFl dTi cIDh cIDl cDph cDpl cDoh cDol cCph cCpl cCoh cCol cUah cUal cUb cUc cRe cLe cCd cFl cTi time) != 0, false), (40, (bif ((0 : Int) != 0) then true else (bif (bif lateB time tTo then false else true) then decide (endI time tTo ≤ later) else false)), true)]
theorem ev9b (tIDh tIDl tDbh tDbl tCrh tCrl tAmh tAml tPeh tPel tUah tUal tUb tUc tTo tLe tCo tFl tTi dIDh dIDl dDph dDpl dDoh dDol dCph dCpl dCoh dCol dUah dUal dUb dUc dRe dLe dCd dFl dTi cIDh cIDl cDph cDpl cDoh cDol cCph cCpl cCoh cCol cUah cUal cUb cUc cRe cLe cCd cFl cTi time later : Int) (h : ∀ x ∈ k9b tIDh tIDl tDbh tDbl tCrh tCrl tAmh tAml tPeh tPel tUah tUal tUb tUc tTo tLe tCo tFl tTi dIDh dIDl dDph dDpl dDoh dDol dCph dCpl dCoh dCol dUah dUal dUb dUc dRe dLe dCd dFl dTi cIDh cIDl cDph cDpl cDoh cDol cCph cCpl cCoh cCol cUah cUal cUb cUc cRe cLe cCd cFl cTi time later, x.2.1 = x.2.2) : CallOK Try.prog 9 [.agg [.lit (.int .u64 tIDh), .lit (.int .u64 tIDl), .lit (.int .u64 tDbh), .lit (.int .u64 tDbl), .lit (.int .u64 tCrh), .lit (.int .u64 tCrl), .lit (.int .u64 tAmh), .lit (.int .u64 tAml), .lit (.int .u64 tPeh), .lit (.int .u64 tPel), .lit (.int .u64 tUah), .lit (.int .u64 tUal), .lit (.int .u64 tUb), .lit (.int .u32 tUc), .lit (.int .u32 tTo), .lit (.int .u32 tLe), .lit (.int .u16 tCo), .lit (.int .u16 tFl), .lit (.int .u64 tTi)], .agg [.lit (.int .u64 dIDh), .lit (.int .u64 dIDl), .lit (.int .u64 dDph), .lit (.int .u64 dDpl), .lit (.int .u64 dDoh), .lit (.int .u64 dDol), .lit (.int .u64 dCph), .lit (.int .u64 dCpl), .lit (.int .u64 dCoh), .lit (.int .u64 dCol), .lit (.int .u64 dUah), .lit (.int .u64 dUal), .lit (.int .u64 dUb), .lit (.int .u32 dUc), .lit (.int .u32 dRe), .lit (.int .u32 dLe), .lit (.int .u16 dCd), .lit (.int .u16 dFl), .lit (.int .u64 dTi)], .agg [.lit (.int .u64 cIDh), .lit (.int .u64 cIDl), .lit (.int .u64 cDph), .lit (.int .u64 cDpl), .lit (.int .u64 cDoh), .lit (.int .u64 cDol), .lit (.int .u64 cCph), .lit (.int .u64 cCpl), .lit (.int .u64 cCoh), .lit (.int .u64 cCol), .lit (.int .u64 cUah), .lit (.int .u64 cUal), .lit (.int .u64 cUb), .lit (.int .u32 cUc), .lit (.int .u32 cRe), .lit (.int .u32 cLe), .lit (.int .u16 cCd), .lit (.int .u16 cFl), .lit (.int .u64 cTi)], .one (.lit (.int .u64 time)), .one (.lit (.int .u64 later))] [] (.one (.lit (.bool true))) {} :=
  CallOK.evalM (hsOf := hs9 true) (k := 68) (fuel := 1000) (n := 4) mixed tbl_ok (l9_ok true false) (ks := k9b tIDh tIDl tDbh tDbl tCrh tCrl tAmh tAml tPeh tPel tUah tUal tUb tUc tTo tLe tCo tFl tTi dIDh dIDl dDph dDpl dDoh dDol dCph dCpl dCoh dCol dUah dUal dUb dUc dRe dLe dCd dFl dTi cIDh cIDl cDph cDpl cDoh cDol cCph cCpl cCoh cCol cUah cUal cUb cUc cRe cLe cCd cFl cTi time later) h (by kernel_rfl) (by kernel_rfl)

def k9c (tIDh tIDl tDbh tDbl tCrh tCrl tAmh tAml tPeh tPel tUah tUal tUb tUc tTo tLe tCo tFl tTi dIDh dIDl dDph dDpl dDoh dDol dCph dCpl dCoh dCol dUah dUal dUb dUc dRe dLe dCd dFl dTi cIDh cIDl cDph cDpl cDoh cDol cCph cCpl cCoh cCol cUah cUal cUb cUc cRe cLe cCd cFl cTi time later : Int) : List (Nat × Bool × Bool) := [(101, bit 2 2, true), (102, (codeA true tIDh tIDl tDbh tDbl tCrh tCrl tAmh tAml tPeh tPel tUah tUal tUb tUc tTo tLe tCo 2 tTi dIDh dIDl dDph dDpl dDoh dDol dCph dCpl dCoh dCol dUah dUal dUb dUc dRe dLe dCd dFl dTi cIDh cIDl cDph cDpl cDoh cDol cCph cCpl cCoh cCol cUah cUal cUb cUc cRe cLe cCd cFl cTi time) != 0, false), (40, (bif ((0 : Int) != 0) then true else (bif (bif lateB time tTo then false else true) then decide (endI time tTo ≤ later) else false)), false), (311, (codeS1 1 time tTo later) != 0, false), (312, bit 8 4, false), (211, (codeS1 1 time tTo later) != 0, false), (212, bit 4 4, true), (213, (codeS2 tAmh tAml dDoh dDol cCoh cCol) != 0, false), (401, bit 0 2, false), (41, (bif (bif (bif (bif (bif (bif ((0 : Int) != 0) then true else !eqAc dIDh dIDl (SH (V (SH (V dDph dDpl + V tAmh tAml)) (SL (V dDph dDpl + V tAmh tAml)) - V tAmh tAml)) (SL (V (SH (V dDph dDpl + V tAmh tAml)) (SL (V dDph dDpl + V tAmh tAml)) - V tAmh tAml)) dDoh dDol dCph dCpl dCoh dCol dUah dUal dUb dUc dRe dLe dCd dFl dTi dIDh dIDl dDph dDpl dDoh dDol dCph dCpl dCoh dCol dUah dUal dUb dUc dRe dLe dCd dFl dTi) then true else !eqAc cIDh cIDl cDph cDpl cDoh cDol (SH (V (SH (V cCph cCpl + V tAmh tAml)) (SL (V cCph cCpl + V tAmh tAml)) - V tAmh tAml)) (SL (V (SH (V cCph cCpl + V tAmh tAml)) (SL (V cCph cCpl + V tAmh tAml)) - V tAmh tAml)) cCoh cCol cUah cUal cUb cUc cRe cLe cCd cFl cTi cIDh cIDl cDph cDpl cDoh cDol cCph cCpl cCoh cCol cUah cUal cUb cUc cRe cLe cCd cFl cTi) then true else !eqAc dIDh dIDl (SH (V (SH (V dDph dDpl + V tAmh tAml)) (SL (V dDph dDpl + V tAmh tAml)) - V tAmh tAml)) (SL (V (SH (V dDph dDpl + V tAmh tAml)) (SL (V dDph dDpl + V tAmh tAml)) - V tAmh tAml)) dDoh dDol dCph dCpl dCoh dCol dUah dUal dUb dUc dRe dLe dCd dFl dTi dIDh dIDl dDph dDpl dDoh dDol dCph dCpl dCoh dCol dUah dUal dUb dUc dRe dLe dCd dFl dTi) then true else !eqAc cIDh cIDl cDph cDpl cDoh cDol (SH (V (SH (V cCph cCpl + V tAmh tAml)) (SL (V cCph cCpl + V tAmh tAml)) - V tAmh tAml)) (SL (V (SH (V cCph cCpl + V tAmh tAml)) (SL (V cCph cCpl + V tAmh tAml)) - V tAmh tAml)) cCoh cCol cUah cUal cUb cUc cRe cLe cCd cFl cTi cIDh cIDl cDph cDpl cDoh cDol cCph cCpl cCoh cCol cUah cUal cUb cUc cRe cLe cCd cFl cTi) then true else !eqU tAmh tAml tAmh tAml) then true else !eqU tDbh tDbl tDbh tDbl), false), (402, (codeA false tIDh tIDl tDbh tDbl tCrh tCrl tAmh tAml tPeh tPel tUah tUal tUb tUc tTo tLe tCo 0 tTi dIDh dIDl dDph dDpl dDoh dDol dCph dCpl dCoh dCol dUah dUal dUb dUc dRe dLe dCd dFl dTi cIDh cIDl cDph cDpl cDoh cDol cCph cCpl cCoh cCol cUah cUal cUb cUc cRe cLe cCd cFl cTi later) != 0, true)]
theorem ev9c (tIDh tIDl tDbh tDbl tCrh tCrl tAmh tAml tPeh tPel tUah tUal tUb tUc tTo tLe tCo tFl tTi dIDh dIDl dDph dDpl dDoh dDol dCph dCpl dCoh dCol dUah dUal dUb dUc dRe dLe dCd dFl dTi cIDh cIDl cDph cDpl cDoh cDol cCph cCpl cCoh cCol cUah cUal cUb cUc cRe cLe cCd cFl cTi time later : Int) (h : ∀ x ∈ k9c tIDh tIDl tDbh tDbl tCrh tCrl tAmh tAml tPeh tPel tUah tUal tUb tUc tTo tLe tCo tFl tTi dIDh dIDl dDph dDpl dDoh dDol dCph dCpl dCoh dCol dUah dUal dUb dUc dRe dLe dCd dFl dTi cIDh cIDl cDph cDpl cDoh cDol cCph cCpl cCoh cCol cUah cUal cUb cUc cRe cLe cCd cFl cTi time later, x.2.1 = x.2.2) : CallOK Try.prog 9 [.agg [.lit (.int .u64 tIDh), .lit (.int .u64 tIDl), .lit (.int .u64 tDbh), .lit (.int .u64 tDbl), .lit (.int .u64 tCrh), .lit (.int .u64 tCrl), .lit (.int .u64 tAmh), .lit (.int .u64 tAml), .lit (.int .u64 tPeh), .lit (.int .u64 tPel), .lit (.int .u64 tUah), .lit (.int .u64 tUal), .lit (.int .u64 tUb), .lit (.int .u32 tUc), .lit (.int .u32 tTo), .lit (.int .u32 tLe), .lit (.int .u16 tCo), .lit (.int .u16 tFl), .lit (.int .u64 tTi)], .agg [.lit (.int .u64 dIDh), .lit (.int .u64 dIDl), .lit (.int .u64 dDph), .lit (.int .u64 dDpl), .lit (.int .u64 dDoh), .lit (.int .u64 dDol), .lit (.int .u64 dCph), .lit (.int .u64 dCpl), .lit (.int .u64 dCoh), .lit (.int .u64 dCol), .lit (.int .u64 dUah), .lit (.int .u64 dUal), .lit (.int .u64 dUb), .lit (.int .u32 dUc), .lit (.int .u32 dRe), .lit (.int .u32 dLe), .lit (.int .u16 dCd), .lit (.int .u16 dFl), .lit (.int .u64 dTi)], .agg [.lit (.int .u64 cIDh), .lit (.int .u64 cIDl), .lit (.int .u64 cDph), .lit (.int .u64 cDpl), .lit (.int .u64 cDoh), .lit (.int .u64 cDol), .lit (.int .u64 cCph), .lit (.int .u64 cCpl), .lit (.int .u64 cCoh), .lit (.int .u64 cCol), .lit (.int .u64 cUah), .lit (.int .u64 cUal), .lit (.int .u64 cUb), .lit (.int .u32 cUc), .lit (.int .u32 cRe), .lit (.int .u32 cLe), .lit (.int .u16 cCd), .lit (.int .u16 cFl), .lit (.int .u64 cTi)], .one (.lit (.int .u64 time)), .one (.lit (.int .u64 later))] [] (.one (.lit (.bool (bif (bif true then ((0 : Int) == 0) else false) then (bif (((codeA false tIDh tIDl tDbh tDbl tCrh tCrl tAmh tAml tPeh tPel tUah tUal tUb tUc tTo tLe tCo 0 tTi dIDh dIDl dDph dDpl dDoh dDol dCph dCpl dCoh dCol dUah dUal dUb dUc dRe dLe dCd dFl dTi cIDh cIDl cDph cDpl cDoh cDol cCph cCpl cCoh cCol cUah cUal cUb cUc cRe cLe cCd cFl cTi later) : Int) != 0) then true else (bif eqAc dIDh dIDl (SH (V (SH (V dDph dDpl + V tAmh tAml)) (SL (V dDph dDpl + V tAmh tAml)) - V tAmh tAml)) (SL (V (SH (V dDph dDpl + V tAmh tAml)) (SL (V dDph dDpl + V tAmh tAml)) - V tAmh tAml)) (SH (V dDoh dDol + V tAmh tAml)) (SL (V dDoh dDol + V tAmh tAml)) dCph dCpl dCoh dCol dUah dUal dUb dUc dRe dLe dCd dFl dTi 0 0 0 0 0 0 0 0 0 0 0 0 0 0 0 0 0 0 0 then eqAc cIDh cIDl cDph cDpl cDoh cDol (SH (V (SH (V cCph cCpl + V tAmh tAml)) (SL (V cCph cCpl + V tAmh tAml)) - V tAmh tAml)) (SL (V (SH (V cCph cCpl + V tAmh tAml)) (SL (V cCph cCpl + V tAmh tAml)) - V tAmh tAml)) (SH (V cCoh cCol + V tAmh tAml)) (SL (V cCoh cCol + V tAmh tAml)) cUah cUal cUb cUc cRe cLe cCd cFl cTi 0 0 0 0 0 0 0 0 0 0 0 0 0 0 0 0 0 0 0 else false)) else false)))) {} :=
  CallOK.evalM (hsOf := hs9 false) (k := 68) (fuel := 1000) (n := 4) mixed tbl_ok (l9_ok true false) (ks := k9c tIDh tIDl tDbh tDbl tCrh tCrl tAmh tAml tPeh tPel tUah tUal tUb tUc tTo tLe tCo tFl tTi dIDh dIDl dDph dDpl dDoh dDol dCph dCpl dCoh dCol dUah dUal dUb dUc dRe dLe dCd dFl dTi cIDh cIDl cDph cDpl cDoh cDol cCph cCpl cCoh cCol cUah cUal cUb cUc cRe cLe cCd cFl cTi time later) h (by kernel_rfl) (by kernel_rfl)

def k9d (tIDh tIDl tDbh tDbl tCrh tCrl tAmh tAml tPeh tPel tUah tUal tUb tUc tTo tLe tCo tFl tTi dIDh dIDl dDph dDpl dDoh dDol dCph dCpl dCoh dCol dUah dUal dUb dUc dRe dLe dCd dFl dTi cIDh cIDl cDph cDpl cDoh cDol cCph cCpl cCoh cCol cUah cUal cUb cUc cRe cLe cCd cFl cTi time later : Int) : List (Nat × Bool × Bool) := [(101, bit 2 2, true), (102, (codeA true tIDh tIDl tDbh tDbl tCrh tCrl tAmh tAml tPeh tPel tUah tUal tUb tUc tTo tLe tCo 2 tTi dIDh dIDl dDph dDpl dDoh dDol dCph dCpl dCoh dCol dUah dUal dUb dUc dRe dLe dCd dFl dTi cIDh cIDl cDph cDpl cDoh cDol cCph cCpl cCoh cCol cUah cUal cUb cUc cRe cLe cCd cFl cTi time) != 0, false), (40, (bif ((0 : Int) != 0) then true else (bif (bif lateB time tTo then false else true) then decide (endI time tTo ≤ later) else false)), false), (311, (codeS1 1 time tTo later) != 0, false), (312, bit 8 4, false), (211, (codeS1 1 time tTo later) != 0, false), (212, bit 4 4, true), (213, (codeS2 tAmh tAml dDoh dDol cCoh cCol) != 0, false), (401, bit 0 2, false), (41, (bif (bif (bif (bif (bif (bif ((0 : Int) != 0) then true else !eqAc dIDh dIDl (SH (V (SH (V dDph dDpl + V tAmh tAml)) (SL (V dDph dDpl + V tAmh tAml)) - V tAmh tAml)) (SL (V (SH (V dDph dDpl + V tAmh tAml)) (SL (V dDph dDpl + V tAmh tAml)) - V tAmh tAml)) dDoh dDol dCph dCpl dCoh dCol dUah dUal dUb dUc dRe dLe dCd dFl dTi dIDh dIDl dDph dDpl dDoh dDol dCph dCpl dCoh dCol dUah dUal dUb dUc dRe dLe dCd dFl dTi) then true else !eqAc cIDh cIDl cDph cDpl cDoh cDol (SH (V (SH (V cCph cCpl + V tAmh tAml)) (SL (V cCph cCpl + V tAmh tAml)) - V tAmh tAml)) (SL (V (SH (V cCph cCpl + V tAmh tAml)) (SL (V cCph cCpl + V tAmh tAml)) - V tAmh tAml)) cCoh cCol cUah cUal cUb cUc cRe cLe cCd cFl cTi cIDh cIDl cDph cDpl cDoh cDol cCph cCpl cCoh cCol cUah cUal cUb cUc cRe cLe cCd cFl cTi) then true else !eqAc dIDh dIDl (SH (V (SH (V dDph dDpl + V tAmh tAml)) (SL (V dDph dDpl + V tAmh tAml)) - V tAmh tAml)) (SL (V (SH (V dDph dDpl + V tAmh tAml)) (SL (V dDph dDpl + V tAmh tAml)) - V tAmh tAml)) dDoh dDol dCph dCpl dCoh dCol dUah dUal dUb dUc dRe dLe dCd dFl dTi dIDh dIDl dDph dDpl dDoh dDol dCph dCpl dCoh dCol dUah dUal dUb dUc dRe dLe dCd dFl dTi) then true else !eqAc cIDh cIDl cDph cDpl cDoh cDol (SH (V (SH (V cCph cCpl + V tAmh tAml)) (SL (V cCph cCpl + V tAmh tAml)) - V tAmh tAml)) (SL (V (SH (V cCph cCpl + V tAmh tAml)) (SL (V cCph cCpl + V tAmh tAml)) - V tAmh tAml)) cCoh cCol cUah cUal cUb cUc cRe cLe cCd cFl cTi cIDh cIDl cDph cDpl cDoh cDol cCph cCpl cCoh cCol cUah cUal cUb cUc cRe cLe cCd cFl cTi) then true else !eqU tAmh tAml tAmh tAml) then true else !eqU tDbh tDbl tDbh tDbl), false), (402, (codeA false tIDh tIDl tDbh tDbl tCrh tCrl tAmh tAml tPeh tPel tUah tUal tUb tUc tTo tLe tCo 0 tTi dIDh dIDl dDph dDpl dDoh dDol dCph dCpl dCoh dCol dUah dUal dUb dUc dRe dLe dCd dFl dTi cIDh cIDl cDph cDpl cDoh cDol cCph cCpl cCoh cCol cUah cUal cUb cUc cRe cLe cCd cFl cTi later) != 0, false)]
theorem ev9d (tIDh tIDl tDbh tDbl tCrh tCrl tAmh tAml tPeh tPel tUah tUal tUb tUc tTo tLe tCo tFl tTi dIDh dIDl dDph dDpl dDoh dDol dCph dCpl dCoh dCol dUah dUal dUb dUc dRe dLe dCd dFl dTi cIDh cIDl cDph cDpl cDoh cDol cCph cCpl cCoh cCol cUah cUal cUb cUc cRe cLe cCd cFl cTi time later : Int) (h : ∀ x ∈ k9d tIDh tIDl tDbh tDbl tCrh tCrl tAmh tAml tPeh tPel tUah tUal tUb tUc tTo tLe tCo tFl tTi dIDh dIDl dDph dDpl dDoh dDol dCph dCpl dCoh dCol dUah dUal dUb dUc dRe dLe dCd dFl dTi cIDh cIDl cDph cDpl cDoh cDol cCph cCpl cCoh cCol cUah cUal cUb cUc cRe cLe cCd cFl cTi time later, x.2.1 = x.2.2) : CallOK Try.prog 9 [.agg [.lit (.int .u64 tIDh), .lit (.int .u64 tIDl), .lit (.int .u64 tDbh), .lit (.int .u64 tDbl), .lit (.int .u64 tCrh), .lit (.int .u64 tCrl), .lit (.int .u64 tAmh), .lit (.int .u64 tAml), .lit (.int .u64 tPeh), .lit (.int .u64 tPel), .lit (.int .u64 tUah), .lit (.int .u64 tUal), .lit (.int .u64 tUb), .lit (.int .u32 tUc), .lit (.int .u32 tTo), .lit (.int .u32 tLe), .lit (.int .u16 tCo), .lit (.int .u16 tFl), .lit (.int .u64 tTi)], .agg [.lit (.int .u64 dIDh), .lit (.int .u64 dIDl), .lit (.int .u64 dDph), .lit (.int .u64 dDpl), .lit (.int .u64 dDoh), .lit (.int .u64 dDol), .lit (.int .u64 dCph), .lit (.int .u64 dCpl), .lit (.int .u64 dCoh), .lit (.int .u64 dCol), .lit (.int .u64 dUah), .lit (.int .u64 dUal), .lit (.int .u64 dUb), .lit (.int .u32 dUc), .lit (.int .u32 dRe), .lit (.int .u32 dLe), .lit (.int .u16 dCd), .lit (.int .u16 dFl), .lit (.int .u64 dTi)], .agg [.lit (.int .u64 cIDh), .lit (.int .u64 cIDl), .lit (.int .u64 cDph), .lit (.int .u64 cDpl), .lit (.int .u64 cDoh), .lit (.int .u64 cDol), .lit (.int .u64 cCph), .lit (.int .u64 cCpl), .lit (.int .u64 cCoh), .lit (.int .u64 cCol), .lit (.int .u64 cUah), .lit (.int .u64 cUal), .lit (.int .u64 cUb), .lit (.int .u32 cUc), .lit (.int .u32 cRe), .lit (.int .u32 cLe), .lit (.int .u16 cCd), .lit (.int .u16 cFl), .lit (.int .u64 cTi)], .one (.lit (.int .u64 time)), .one (.lit (.int .u64 later))] [] (.one (.lit (.bool (bif (bif true then ((0 : Int) == 0) else false) then (bif ((0 : Int) != 0) then true else (bif eqAc dIDh dIDl (SH (V (SH (V dDph dDpl + V tAmh tAml)) (SL (V dDph dDpl + V tAmh tAml)) - V tAmh tAml)) (SL (V (SH (V dDph dDpl + V tAmh tAml)) (SL (V dDph dDpl + V tAmh tAml)) - V tAmh tAml)) (SH (V dDoh dDol + V tAmh tAml)) (SL (V dDoh dDol + V tAmh tAml)) dCph dCpl dCoh dCol dUah dUal dUb dUc dRe dLe dCd dFl dTi dIDh dIDl dDph dDpl (SH (V dDoh dDol + V tAmh tAml)) (SL (V dDoh dDol + V tAmh tAml)) dCph dCpl dCoh dCol dUah dUal dUb dUc dRe dLe dCd dFl dTi then eqAc cIDh cIDl cDph cDpl cDoh cDol (SH (V (SH (V cCph cCpl + V tAmh tAml)) (SL (V cCph cCpl + V tAmh tAml)) - V tAmh tAml)) (SL (V (SH (V cCph cCpl + V tAmh tAml)) (SL (V cCph cCpl + V tAmh tAml)) - V tAmh tAml)) (SH (V cCoh cCol + V tAmh tAml)) (SL (V cCoh cCol + V tAmh tAml)) cUah cUal cUb cUc cRe cLe cCd cFl cTi cIDh cIDl cDph cDpl cDoh cDol cCph cCpl (SH (V cCoh cCol + V tAmh tAml)) (SL (V cCoh cCol + V tAmh tAml)) cUah cUal cUb cUc cRe cLe cCd cFl cTi else false)) else false)))) {} :=
  CallOK.evalM (hsOf := hs9 false) (k := 68) (fuel := 1000) (n := 4) mixed tbl_ok (l9_ok true true) (ks := k9d tIDh tIDl tDbh tDbl tCrh tCrl tAmh tAml tPeh tPel tUah tUal tUb tUc tTo tLe tCo tFl tTi dIDh dIDl dDph dDpl dDoh dDol dCph dCpl dCoh dCol dUah dUal dUb dUc dRe dLe dCd dFl dTi cIDh cIDl cDph cDpl cDoh cDol cCph cCpl cCoh cCol cUah cUal cUb cUc cRe cLe cCd cFl cTi time later) h (by kernel_rfl) (by kernel_rfl)

theorem wfW9 {x : Int} (h : (Lit.int .u64 x).wf = true) : Wd x := by
  have h' : (decide ((0 : Int) ≤ x) && decide (x ≤ (18446744073709551615 : Int))) = true := h
  rwa [Bool.and_eq_true, decide_eq_true_eq, decide_eq_true_eq] at h'
theorem bif_code9 {b : Bool} {k : Int} {x : Int} (hk : k ≠ 0) (h : ((bif b then k else x) != 0) = false) : b = false ∧ (x != 0) = false := by
  cases b with
  | true => simp at h; exact absurd h hk
  | false => exact ⟨rfl, h⟩
theorem V_new9 {s : Int} (h0 : 0 ≤ s) (h : SO s = false) : V (SH s) (SL s) = s := by
  rw [V_SH]
  have : ¬ 340282366920938463463374607431768211456 ≤ s := of_decide_eq_false h
  omega
theorem SH_V {h l : Int} (h1 : Wd h) (h2 : Wd l) : SH (V h l) = h ∧ SL (V h l) = l := by
  unfold Wd at h1 h2; unfold SH SL V; omega
theorem codeA9 {p : Bool} {tIDh tIDl tDbh tDbl tCrh tCrl tAmh tAml tPeh tPel tUah tUal tUb tUc tTo tLe tCo tFl tTi dIDh dIDl dDph dDpl dDoh dDol dCph dCpl dCoh dCol dUah dUal dUb dUc dRe dLe dCd dFl dTi cIDh cIDl cDph cDpl cDoh cDol cCph cCpl cCoh cCol cUah cUal cUb cUc cRe cLe cCd cFl cTi time : Int} (h : (codeA p tIDh tIDl tDbh tDbl tCrh tCrl tAmh tAml tPeh tPel tUah tUal tUb tUc tTo tLe tCo tFl tTi dIDh dIDl dDph dDpl dDoh dDol dCph dCpl dCoh dCol dUah dUal dUb dUc dRe dLe dCd dFl dTi cIDh cIDl cDph cDpl cDoh cDol cCph cCpl cCoh cCol cUah cUal cUb cUc cRe cLe cCd cFl cTi time != 0) = false) :
    (p && SO (V dDph dDpl + V tAmh tAml)) = false ∧ (p && SO (V cCph cCpl + V tAmh tAml)) = false ∧ SO (V dDoh dDol + V tAmh tAml) = false ∧ SO (V cCoh cCol + V tAmh tAml) = false := by
  unfold codeA at h
  obtain ⟨h1, h⟩ := bif_code9 (by decide) h
  obtain ⟨h2, h⟩ := bif_code9 (by decide) h
  obtain ⟨h3, h⟩ := bif_code9 (by decide) h
  obtain ⟨h4, h⟩ := bif_code9 (by decide) h
  exact ⟨h1, h2, h3, h4⟩
/-- Added, and taken away again. -/
theorem goback {ah al bh bl : Int} (h1 : Wd ah) (h2 : Wd al) (h3 : Wd bh) (h4 : Wd bl) (h : SO (V ah al + V bh bl) = false) :
    SH (V (SH (V ah al + V bh bl)) (SL (V ah al + V bh bl)) - V bh bl) = ah ∧ SL (V (SH (V ah al + V bh bl)) (SL (V ah al + V bh bl)) - V bh bl) = al := by
  have v1 := V_wd h1 h2
  have v2 := V_wd h3 h4
  rw [V_new9 (by omega) h, Int.add_sub_cancel]
  exact SH_V h1 h2
theorem x42 {tTo time later : Int} (h : (bif ((0 : Int) != 0) then true else (bif (bif lateB time tTo then false else true) then decide (endI time tTo ≤ later) else false)) = false) : ((codeS1 1 time tTo later) != 0) = false := by
  rw [show ((0 : Int) != 0) = false from rfl, cond_false] at h
  unfold codeS1
  rw [show ((1 : Int) == 2) = false from rfl, show ((1 : Int) == 3) = false from rfl, show ((1 : Int) == 4) = false from rfl, show ((1 : Int) == 1) = true from rfl]
  simp only [cond_false, cond_true]
  rw [h]
  rfl
theorem law9 (tIDh tIDl tDbh tDbl tCrh tCrl tAmh tAml tPeh tPel tUah tUal tUb tUc tTo tLe tCo tFl tTi dIDh dIDl dDph dDpl dDoh dDol dCph dCpl dCoh dCol dUah dUal dUb dUc dRe dLe dCd dFl dTi cIDh cIDl cDph cDpl cDoh cDol cCph cCpl cCoh cCol cUah cUal cUb cUc cRe cLe cCd cFl cTi time later : Int) (wtIDh : (Lit.int .u64 tIDh).wf = true) (wtIDl : (Lit.int .u64 tIDl).wf = true) (wtDbh : (Lit.int .u64 tDbh).wf = true) (wtDbl : (Lit.int .u64 tDbl).wf = true) (wtCrh : (Lit.int .u64 tCrh).wf = true) (wtCrl : (Lit.int .u64 tCrl).wf = true) (wtAmh : (Lit.int .u64 tAmh).wf = true) (wtAml : (Lit.int .u64 tAml).wf = true) (wtPeh : (Lit.int .u64 tPeh).wf = true) (wtPel : (Lit.int .u64 tPel).wf = true) (wtUah : (Lit.int .u64 tUah).wf = true) (wtUal : (Lit.int .u64 tUal).wf = true) (wtUb : (Lit.int .u64 tUb).wf = true) (wtUc : (Lit.int .u32 tUc).wf = true) (wtTo : (Lit.int .u32 tTo).wf = true) (wtLe : (Lit.int .u32 tLe).wf = true) (wtCo : (Lit.int .u16 tCo).wf = true) (wtFl : (Lit.int .u16 tFl).wf = true) (wtTi : (Lit.int .u64 tTi).wf = true) (wdIDh : (Lit.int .u64 dIDh).wf = true) (wdIDl : (Lit.int .u64 dIDl).wf = true) (wdDph : (Lit.int .u64 dDph).wf = true) (wdDpl : (Lit.int .u64 dDpl).wf = true) (wdDoh : (Lit.int .u64 dDoh).wf = true) (wdDol : (Lit.int .u64 dDol).wf = true) (wdCph : (Lit.int .u64 dCph).wf = true) (wdCpl : (Lit.int .u64 dCpl).wf = true) (wdCoh : (Lit.int .u64 dCoh).wf = true) (wdCol : (Lit.int .u64 dCol).wf = true) (wdUah : (Lit.int .u64 dUah).wf = true) (wdUal : (Lit.int .u64 dUal).wf = true) (wdUb : (Lit.int .u64 dUb).wf = true) (wdUc : (Lit.int .u32 dUc).wf = true) (wdRe : (Lit.int .u32 dRe).wf = true) (wdLe : (Lit.int .u32 dLe).wf = true) (wdCd : (Lit.int .u16 dCd).wf = true) (wdFl : (Lit.int .u16 dFl).wf = true) (wdTi : (Lit.int .u64 dTi).wf = true) (wcIDh : (Lit.int .u64 cIDh).wf = true) (wcIDl : (Lit.int .u64 cIDl).wf = true) (wcDph : (Lit.int .u64 cDph).wf = true) (wcDpl : (Lit.int .u64 cDpl).wf = true) (wcDoh : (Lit.int .u64 cDoh).wf = true) (wcDol : (Lit.int .u64 cDol).wf = true) (wcCph : (Lit.int .u64 cCph).wf = true) (wcCpl : (Lit.int .u64 cCpl).wf = true) (wcCoh : (Lit.int .u64 cCoh).wf = true) (wcCol : (Lit.int .u64 cCol).wf = true) (wcUah : (Lit.int .u64 cUah).wf = true) (wcUal : (Lit.int .u64 cUal).wf = true) (wcUb : (Lit.int .u64 cUb).wf = true) (wcUc : (Lit.int .u32 cUc).wf = true) (wcRe : (Lit.int .u32 cRe).wf = true) (wcLe : (Lit.int .u32 cLe).wf = true) (wcCd : (Lit.int .u16 cCd).wf = true) (wcFl : (Lit.int .u16 cFl).wf = true) (wcTi : (Lit.int .u64 cTi).wf = true) (wtime : (Lit.int .u64 time).wf = true) (wlater : (Lit.int .u64 later).wf = true) : CallOK Try.prog 9 [.agg [.lit (.int .u64 tIDh), .lit (.int .u64 tIDl), .lit (.int .u64 tDbh), .lit (.int .u64 tDbl), .lit (.int .u64 tCrh), .lit (.int .u64 tCrl), .lit (.int .u64 tAmh), .lit (.int .u64 tAml), .lit (.int .u64 tPeh), .lit (.int .u64 tPel), .lit (.int .u64 tUah), .lit (.int .u64 tUal), .lit (.int .u64 tUb), .lit (.int .u32 tUc), .lit (.int .u32 tTo), .lit (.int .u32 tLe), .lit (.int .u16 tCo), .lit (.int .u16 tFl), .lit (.int .u64 tTi)], .agg [.lit (.int .u64 dIDh), .lit (.int .u64 dIDl), .lit (.int .u64 dDph), .lit (.int .u64 dDpl), .lit (.int .u64 dDoh), .lit (.int .u64 dDol), .lit (.int .u64 dCph), .lit (.int .u64 dCpl), .lit (.int .u64 dCoh), .lit (.int .u64 dCol), .lit (.int .u64 dUah), .lit (.int .u64 dUal), .lit (.int .u64 dUb), .lit (.int .u32 dUc), .lit (.int .u32 dRe), .lit (.int .u32 dLe), .lit (.int .u16 dCd), .lit (.int .u16 dFl), .lit (.int .u64 dTi)], .agg [.lit (.int .u64 cIDh), .lit (.int .u64 cIDl), .lit (.int .u64 cDph), .lit (.int .u64 cDpl), .lit (.int .u64 cDoh), .lit (.int .u64 cDol), .lit (.int .u64 cCph), .lit (.int .u64 cCpl), .lit (.int .u64 cCoh), .lit (.int .u64 cCol), .lit (.int .u64 cUah), .lit (.int .u64 cUal), .lit (.int .u64 cUb), .lit (.int .u32 cUc), .lit (.int .u32 cRe), .lit (.int .u32 cLe), .lit (.int .u16 cCd), .lit (.int .u16 cFl), .lit (.int .u64 cTi)], .one (.lit (.int .u64 time)), .one (.lit (.int .u64 later))] [] (.one (.lit (.bool true))) {} := by
  cases h1 : (codeA true tIDh tIDl tDbh tDbl tCrh tCrl tAmh tAml tPeh tPel tUah tUal tUb tUc tTo tLe tCo 2 tTi dIDh dIDl dDph dDpl dDoh dDol dCph dCpl dCoh dCol dUah dUal dUb dUc dRe dLe dCd dFl dTi cIDh cIDl cDph cDpl cDoh cDol cCph cCpl cCoh cCol cUah cUal cUb cUc cRe cLe cCd cFl cTi time) != 0 with
  | true => exact ev9a tIDh tIDl tDbh tDbl tCrh tCrl tAmh tAml tPeh tPel tUah tUal tUb tUc tTo tLe tCo tFl tTi dIDh dIDl dDph dDpl dDoh dDol dCph dCpl dCoh dCol dUah dUal dUb dUc dRe dLe dCd dFl dTi cIDh cIDl cDph cDpl cDoh cDol cCph cCpl cCoh cCol cUah cUal cUb cUc cRe cLe cCd cFl cTi time later (by
      intro x hx
      simp only [k9a, List.mem_cons, List.not_mem_nil, or_false] at hx
      rcases hx with rfl | rfl | rfl
      · rfl
      · exact h1
      · show (bif ((codeA true tIDh tIDl tDbh tDbl tCrh tCrl tAmh tAml tPeh tPel tUah tUal tUb tUc tTo tLe tCo 2 tTi dIDh dIDl dDph dDpl dDoh dDol dCph dCpl dCoh dCol dUah dUal dUb dUc dRe dLe dCd dFl dTi cIDh cIDl cDph cDpl cDoh cDol cCph cCpl cCoh cCol cUah cUal cUb cUc cRe cLe cCd cFl cTi time) != 0) then true else (bif (bif lateB 0 0 then false else true) then decide (endI 0 0 ≤ later) else false)) = true
        rw [h1]; rfl)
  | false => cases h2 : (bif ((0 : Int) != 0) then true else (bif (bif lateB time tTo then false else true) then decide (endI time tTo ≤ later) else false)) with
    | true => exact ev9b tIDh tIDl tDbh tDbl tCrh tCrl tAmh tAml tPeh tPel tUah tUal tUb tUc tTo tLe tCo tFl tTi dIDh dIDl dDph dDpl dDoh dDol dCph dCpl dCoh dCol dUah dUal dUb dUc dRe dLe dCd dFl dTi cIDh cIDl cDph cDpl cDoh cDol cCph cCpl cCoh cCol cUah cUal cUb cUc cRe cLe cCd cFl cTi time later (by
        intro x hx
        simp only [k9b, List.mem_cons, List.not_mem_nil, or_false] at hx
        rcases hx with rfl | rfl | rfl
        · rfl
        · exact h1
        · exact h2)
    | false =>
      obtain ⟨q1, q2, q3, q4⟩ := codeA9 h1
      have hs := x42 h2
      obtain ⟨b1, b2⟩ := goback (wfW9 wdDph) (wfW9 wdDpl) (wfW9 wtAmh) (wfW9 wtAml) (by simpa using q1)
      obtain ⟨b3, b4⟩ := goback (wfW9 wcCph) (wfW9 wcCpl) (wfW9 wtAmh) (wfW9 wtAml) (by simpa using q2)
      have x102 : (bif (bif (bif (bif (bif (bif ((0 : Int) != 0) then true else !eqAc dIDh dIDl (SH (V (SH (V dDph dDpl + V tAmh tAml)) (SL (V dDph dDpl + V tAmh tAml)) - V tAmh tAml)) (SL (V (SH (V dDph dDpl + V tAmh tAml)) (SL (V dDph dDpl + V tAmh tAml)) - V tAmh tAml)) dDoh dDol dCph dCpl dCoh dCol dUah dUal dUb dUc dRe dLe dCd dFl dTi dIDh dIDl dDph dDpl dDoh dDol dCph dCpl dCoh dCol dUah dUal dUb dUc dRe dLe dCd dFl dTi) then true else !eqAc cIDh cIDl cDph cDpl cDoh cDol (SH (V (SH (V cCph cCpl + V tAmh tAml)) (SL (V cCph cCpl + V tAmh tAml)) - V tAmh tAml)) (SL (V (SH (V cCph cCpl + V tAmh tAml)) (SL (V cCph cCpl + V tAmh tAml)) - V tAmh tAml)) cCoh cCol cUah cUal cUb cUc cRe cLe cCd cFl cTi cIDh cIDl cDph cDpl cDoh cDol cCph cCpl cCoh cCol cUah cUal cUb cUc cRe cLe cCd cFl cTi) then true else !eqAc dIDh dIDl (SH (V (SH (V dDph dDpl + V tAmh tAml)) (SL (V dDph dDpl + V tAmh tAml)) - V tAmh tAml)) (SL (V (SH (V dDph dDpl + V tAmh tAml)) (SL (V dDph dDpl + V tAmh tAml)) - V tAmh tAml)) dDoh dDol dCph dCpl dCoh dCol dUah dUal dUb dUc dRe dLe dCd dFl dTi dIDh dIDl dDph dDpl dDoh dDol dCph dCpl dCoh dCol dUah dUal dUb dUc dRe dLe dCd dFl dTi) then true else !eqAc cIDh cIDl cDph cDpl cDoh cDol (SH (V (SH (V cCph cCpl + V tAmh tAml)) (SL (V cCph cCpl + V tAmh tAml)) - V tAmh tAml)) (SL (V (SH (V cCph cCpl + V tAmh tAml)) (SL (V cCph cCpl + V tAmh tAml)) - V tAmh tAml)) cCoh cCol cUah cUal cUb cUc cRe cLe cCd cFl cTi cIDh cIDl cDph cDpl cDoh cDol cCph cCpl cCoh cCol cUah cUal cUb cUc cRe cLe cCd cFl cTi) then true else !eqU tAmh tAml tAmh tAml) then true else !eqU tDbh tDbl tDbh tDbl) = false := by
        rw [b1, b2, b3, b4, eqAc_refl, eqAc_refl, eqU_refl2, eqU_refl2]; rfl
      have s2 : ((codeS2 tAmh tAml dDoh dDol cCoh cCol) != 0) = false := by
        unfold codeS2
        rw [q3, q4]; rfl
      cases h3 : (codeA false tIDh tIDl tDbh tDbl tCrh tCrl tAmh tAml tPeh tPel tUah tUal tUb tUc tTo tLe tCo 0 tTi dIDh dIDl dDph dDpl dDoh dDol dCph dCpl dCoh dCol dUah dUal dUb dUc dRe dLe dCd dFl dTi cIDh cIDl cDph cDpl cDoh cDol cCph cCpl cCoh cCol cUah cUal cUb cUc cRe cLe cCd cFl cTi later) != 0 with
      | true =>
        have h := ev9c tIDh tIDl tDbh tDbl tCrh tCrl tAmh tAml tPeh tPel tUah tUal tUb tUc tTo tLe tCo tFl tTi dIDh dIDl dDph dDpl dDoh dDol dCph dCpl dCoh dCol dUah dUal dUb dUc dRe dLe dCd dFl dTi cIDh cIDl cDph cDpl cDoh cDol cCph cCpl cCoh cCol cUah cUal cUb cUc cRe cLe cCd cFl cTi time later (by
          intro x hx
          simp only [k9c, List.mem_cons, List.not_mem_nil, or_false] at hx
          rcases hx with rfl | rfl | rfl | rfl | rfl | rfl | rfl | rfl | rfl | rfl | rfl
          · rfl
          · exact h1
          · exact h2
          · exact hs
          · rfl
          · exact hs
          · rfl
          · exact s2
          · rfl
          · exact x102
          · exact h3)
        rw [h3] at h
        exact h
      | false =>
        have h := ev9d tIDh tIDl tDbh tDbl tCrh tCrl tAmh tAml tPeh tPel tUah tUal tUb tUc tTo tLe tCo tFl tTi dIDh dIDl dDph dDpl dDoh dDol dCph dCpl dCoh dCol dUah dUal dUb dUc dRe dLe dCd dFl dTi cIDh cIDl cDph cDpl cDoh cDol cCph cCpl cCoh cCol cUah cUal cUb cUc cRe cLe cCd cFl cTi time later (by
          intro x hx
          simp only [k9d, List.mem_cons, List.not_mem_nil, or_false] at hx
          rcases hx with rfl | rfl | rfl | rfl | rfl | rfl | rfl | rfl | rfl | rfl | rfl
          · rfl
          · exact h1
          · exact h2
          · exact hs
          · rfl
          · exact hs
          · rfl
          · exact s2
          · rfl
          · exact x102
          · exact h3)
        rw [b1, b2, b3, b4, eqAc_refl, eqAc_refl] at h
        exact h

set_option maxRecDepth 100000 in
theorem transferBack_lifted (os : Os) (started : os.Started) (H : Type) (enc : TypeId × Value → H) :
    ReturnsInHanded {} Try.checked os 9 .any (Rows.transferBackSpec.pre6 enc Try.prog Try.f9 Rows.transferBackRow.domain false) (Rows.transferBackSpec.post enc Try.prog Try.f9 false true false false) := by
  refine returnsInHanded_of_change (C := Try.checked) own started (by kernel_rfl) Try.func9
    (ChangeSpec.witness6 (enc := enc) (C := Try.checked) false ⟨#[], #[.agg #[.int .u64 0, .int .u64 0, .int .u64 0, .int .u64 0, .int .u64 0, .int .u64 0, .int .u64 0, .int .u64 0, .int .u64 0, .int .u64 0, .int .u64 0, .int .u64 0, .int .u64 0, .int .u32 0, .int .u32 0, .int .u32 0, .int .u16 0, .int .u16 0, .int .u64 0], .agg #[.int .u64 0, .int .u64 0, .int .u64 0, .int .u64 0, .int .u64 0, .int .u64 0, .int .u64 0, .int .u64 0, .int .u64 0, .int .u64 0, .int .u64 0, .int .u64 0, .int .u64 0, .int .u32 0, .int .u32 0, .int .u32 0, .int .u16 0, .int .u16 0, .int .u64 0], .agg #[.int .u64 0, .int .u64 0, .int .u64 0, .int .u64 0, .int .u64 0, .int .u64 0, .int .u64 0, .int .u64 0, .int .u64 0, .int .u64 0, .int .u64 0, .int .u64 0, .int .u64 0, .int .u32 0, .int .u32 0, .int .u32 0, .int .u16 0, .int .u16 0, .int .u64 0], .int .u64 0, .int .u64 0], []⟩ 8 (by kernel_rfl) (by kernel_rfl) (by kernel_rfl) (by kernel_rfl)) ?_
  intro W base args ds gs before hval0 hW hcnd _
  have hval : ∀ (j : Nat) t v, Try.f9.params[j]? = some t → args[j]? = some v → Value.okWide Try.prog W .any base t v := hval0
  have hW' := hW
  obtain ⟨p, q, hA0, hV, rfl, hfz, hnd⟩ := hW
  have hA : DataW.TrodAll enc Try.prog W 0 (fun _ => true) true Try.f9.params.toList args.toList ds p := hA0
  rw [Try.params9] at hA hval
  obtain ⟨v0, vs0, d0, ds0, p0, q0, hargs, rfl, rfl, h0, r0⟩ := trodAll_cons hA
  obtain ⟨v1, vs1, d1, ds1, p1, q1, rfl, rfl, rfl, h1, r1⟩ := trodAll_cons r0
  obtain ⟨v2, vs2, d2, ds2, p2, q2, rfl, rfl, rfl, h2, r2⟩ := trodAll_cons r1
  obtain ⟨v3, vs3, d3, ds3, p3, q3, rfl, rfl, rfl, h3, r3⟩ := trodAll_cons r2
  obtain ⟨v4, vs4, d4, ds4, p4, q4, rfl, rfl, rfl, h4, r4⟩ := trodAll_cons r3
  obtain ⟨rfl, rfl, rfl⟩ := trodAll_nil r4
  obtain rfl : args = #[v0, v1, v2, v3, v4] := by cases args; simp_all
  obtain ⟨rfl, rfl⟩ := trodVars_none hV
  obtain ⟨rfl, ⟨a0, n0, rfl, hI0⟩, sh0⟩ := open_flat Try.underlying28 (n := 5) (ks := kindsT) (by kernel_rfl) (hval 0 28 v0 rfl rfl) h0
  obtain ⟨tIDh, y0_0, z0_0, -, rfl, wtIDh, k0_0⟩ := IntsAre.cons hI0
  obtain ⟨tIDl, y0_1, z0_1, -, rfl, wtIDl, k0_1⟩ := IntsAre.cons k0_0
  obtain ⟨tDbh, y0_2, z0_2, -, rfl, wtDbh, k0_2⟩ := IntsAre.cons k0_1
  obtain ⟨tDbl, y0_3, z0_3, -, rfl, wtDbl, k0_3⟩ := IntsAre.cons k0_2
  obtain ⟨tCrh, y0_4, z0_4, -, rfl, wtCrh, k0_4⟩ := IntsAre.cons k0_3
  obtain ⟨tCrl, y0_5, z0_5, -, rfl, wtCrl, k0_5⟩ := IntsAre.cons k0_4
  obtain ⟨tAmh, y0_6, z0_6, -, rfl, wtAmh, k0_6⟩ := IntsAre.cons k0_5
  obtain ⟨tAml, y0_7, z0_7, -, rfl, wtAml, k0_7⟩ := IntsAre.cons k0_6
  obtain ⟨tPeh, y0_8, z0_8, -, rfl, wtPeh, k0_8⟩ := IntsAre.cons k0_7
  obtain ⟨tPel, y0_9, z0_9, -, rfl, wtPel, k0_9⟩ := IntsAre.cons k0_8
  obtain ⟨tUah, y0_10, z0_10, -, rfl, wtUah, k0_10⟩ := IntsAre.cons k0_9
  obtain ⟨tUal, y0_11, z0_11, -, rfl, wtUal, k0_11⟩ := IntsAre.cons k0_10
  obtain ⟨tUb, y0_12, z0_12, -, rfl, wtUb, k0_12⟩ := IntsAre.cons k0_11
  obtain ⟨tUc, y0_13, z0_13, -, rfl, wtUc, k0_13⟩ := IntsAre.cons k0_12
  obtain ⟨tTo, y0_14, z0_14, -, rfl, wtTo, k0_14⟩ := IntsAre.cons k0_13
  obtain ⟨tLe, y0_15, z0_15, -, rfl, wtLe, k0_15⟩ := IntsAre.cons k0_14
  obtain ⟨tCo, y0_16, z0_16, -, rfl, wtCo, k0_16⟩ := IntsAre.cons k0_15
  obtain ⟨tFl, y0_17, z0_17, -, rfl, wtFl, k0_17⟩ := IntsAre.cons k0_16
  obtain ⟨tTi, y0_18, z0_18, -, rfl, wtTi, k0_18⟩ := IntsAre.cons k0_17
  obtain ⟨-, rfl⟩ := IntsAre.nil k0_18
  obtain ⟨rfl, ⟨a1, n1, rfl, hI1⟩, sh1⟩ := open_flat Try.underlying34 (n := 5) (ks := kindsA) (by kernel_rfl) (hval 1 34 v1 rfl rfl) h1
  obtain ⟨dIDh, y1_0, z1_0, -, rfl, wdIDh, k1_0⟩ := IntsAre.cons hI1
  obtain ⟨dIDl, y1_1, z1_1, -, rfl, wdIDl, k1_1⟩ := IntsAre.cons k1_0
  obtain ⟨dDph, y1_2, z1_2, -, rfl, wdDph, k1_2⟩ := IntsAre.cons k1_1
  obtain ⟨dDpl, y1_3, z1_3, -, rfl, wdDpl, k1_3⟩ := IntsAre.cons k1_2
  obtain ⟨dDoh, y1_4, z1_4, -, rfl, wdDoh, k1_4⟩ := IntsAre.cons k1_3
  obtain ⟨dDol, y1_5, z1_5, -, rfl, wdDol, k1_5⟩ := IntsAre.cons k1_4
  obtain ⟨dCph, y1_6, z1_6, -, rfl, wdCph, k1_6⟩ := IntsAre.cons k1_5
  obtain ⟨dCpl, y1_7, z1_7, -, rfl, wdCpl, k1_7⟩ := IntsAre.cons k1_6
  obtain ⟨dCoh, y1_8, z1_8, -, rfl, wdCoh, k1_8⟩ := IntsAre.cons k1_7
  obtain ⟨dCol, y1_9, z1_9, -, rfl, wdCol, k1_9⟩ := IntsAre.cons k1_8
  obtain ⟨dUah, y1_10, z1_10, -, rfl, wdUah, k1_10⟩ := IntsAre.cons k1_9
  obtain ⟨dUal, y1_11, z1_11, -, rfl, wdUal, k1_11⟩ := IntsAre.cons k1_10
  obtain ⟨dUb, y1_12, z1_12, -, rfl, wdUb, k1_12⟩ := IntsAre.cons k1_11
  obtain ⟨dUc, y1_13, z1_13, -, rfl, wdUc, k1_13⟩ := IntsAre.cons k1_12
  obtain ⟨dRe, y1_14, z1_14, -, rfl, wdRe, k1_14⟩ := IntsAre.cons k1_13
  obtain ⟨dLe, y1_15, z1_15, -, rfl, wdLe, k1_15⟩ := IntsAre.cons k1_14
  obtain ⟨dCd, y1_16, z1_16, -, rfl, wdCd, k1_16⟩ := IntsAre.cons k1_15
  obtain ⟨dFl, y1_17, z1_17, -, rfl, wdFl, k1_17⟩ := IntsAre.cons k1_16
  obtain ⟨dTi, y1_18, z1_18, -, rfl, wdTi, k1_18⟩ := IntsAre.cons k1_17
  obtain ⟨-, rfl⟩ := IntsAre.nil k1_18
  obtain ⟨rfl, ⟨a2, n2, rfl, hI2⟩, sh2⟩ := open_flat Try.underlying34 (n := 5) (ks := kindsA) (by kernel_rfl) (hval 2 34 v2 rfl rfl) h2
  obtain ⟨cIDh, y2_0, z2_0, -, rfl, wcIDh, k2_0⟩ := IntsAre.cons hI2
  obtain ⟨cIDl, y2_1, z2_1, -, rfl, wcIDl, k2_1⟩ := IntsAre.cons k2_0
  obtain ⟨cDph, y2_2, z2_2, -, rfl, wcDph, k2_2⟩ := IntsAre.cons k2_1
  obtain ⟨cDpl, y2_3, z2_3, -, rfl, wcDpl, k2_3⟩ := IntsAre.cons k2_2
  obtain ⟨cDoh, y2_4, z2_4, -, rfl, wcDoh, k2_4⟩ := IntsAre.cons k2_3
  obtain ⟨cDol, y2_5, z2_5, -, rfl, wcDol, k2_5⟩ := IntsAre.cons k2_4
  obtain ⟨cCph, y2_6, z2_6, -, rfl, wcCph, k2_6⟩ := IntsAre.cons k2_5
  obtain ⟨cCpl, y2_7, z2_7, -, rfl, wcCpl, k2_7⟩ := IntsAre.cons k2_6
  obtain ⟨cCoh, y2_8, z2_8, -, rfl, wcCoh, k2_8⟩ := IntsAre.cons k2_7
  obtain ⟨cCol, y2_9, z2_9, -, rfl, wcCol, k2_9⟩ := IntsAre.cons k2_8
  obtain ⟨cUah, y2_10, z2_10, -, rfl, wcUah, k2_10⟩ := IntsAre.cons k2_9
  obtain ⟨cUal, y2_11, z2_11, -, rfl, wcUal, k2_11⟩ := IntsAre.cons k2_10
  obtain ⟨cUb, y2_12, z2_12, -, rfl, wcUb, k2_12⟩ := IntsAre.cons k2_11
  obtain ⟨cUc, y2_13, z2_13, -, rfl, wcUc, k2_13⟩ := IntsAre.cons k2_12
  obtain ⟨cRe, y2_14, z2_14, -, rfl, wcRe, k2_14⟩ := IntsAre.cons k2_13
  obtain ⟨cLe, y2_15, z2_15, -, rfl, wcLe, k2_15⟩ := IntsAre.cons k2_14
  obtain ⟨cCd, y2_16, z2_16, -, rfl, wcCd, k2_16⟩ := IntsAre.cons k2_15
  obtain ⟨cFl, y2_17, z2_17, -, rfl, wcFl, k2_17⟩ := IntsAre.cons k2_16
  obtain ⟨cTi, y2_18, z2_18, -, rfl, wcTi, k2_18⟩ := IntsAre.cons k2_17
  obtain ⟨-, rfl⟩ := IntsAre.nil k2_18
  obtain ⟨time, rfl, rfl, rfl, wtime⟩ := open_int Try.underlying22 (hval 3 22 v3 rfl rfl) h3
  obtain ⟨later, rfl, rfl, rfl, wlater⟩ := open_int Try.underlying22 (hval 4 22 v4 rfl rfl) h4
  clear hA0 hval0
  simp only [List.append_nil] at hW'
  refine ((law9 tIDh tIDl tDbh tDbl tCrh tCrl tAmh tAml tPeh tPel tUah tUal tUb tUc tTo tLe tCo tFl tTi dIDh dIDl dDph dDpl dDoh dDol dCph dCpl dCoh dCol dUah dUal dUb dUc dRe dLe dCd dFl dTi cIDh cIDl cDph cDpl cDoh cDol cCph cCpl cCoh cCol cUah cUal cUb cUc cRe cLe cCd cFl cTi time later wtIDh wtIDl wtDbh wtDbl wtCrh wtCrl wtAmh wtAml wtPeh wtPel wtUah wtUal wtUb wtUc wtTo wtLe wtCo wtFl wtTi wdIDh wdIDl wdDph wdDpl wdDoh wdDol wdCph wdCpl wdCoh wdCol wdUah wdUal wdUb wdUc wdRe wdLe wdCd wdFl wdTi wcIDh wcIDl wcDph wcDpl wcDoh wcDol wcCph wcCpl wcCoh wcCol wcUah wcUal wcUb wcUc wcRe wcLe wcCd wcFl wcTi wtime wlater).walk (us := #[.agg a0, .agg a1, .agg a2, .int .u64 time, .int .u64 later]) ⟨⟨a0, rfl, hI0.rel⟩, ⟨⟨a1, rfl, hI1.rel⟩, ⟨⟨a2, rfl, hI2.rel⟩, ⟨⟨rfl, wtime⟩, ⟨⟨rfl, wlater⟩, trivial⟩⟩⟩⟩⟩ Try.call9 W).mono fun e W' ⟨he, hg⟩ => ?_
  subst he
  exact ⟨_, rfl, post_of_same (pa := []) (pv := []) hW' (fun _ _ _ => (trodAll_cons_mk (shut_bool Try.underlying4 _) trodAll_mk0)) (fun sp _ => (trodAll_cons_mk (sh0 W' 0 sp true) (trodAll_cons_mk (sh1 W' 0 sp true) (trodAll_cons_mk (sh2 W' 0 sp true) (trodAll_cons_mk (shut_int Try.underlying22 wtime) (trodAll_cons_mk (shut_int Try.underlying22 wlater) trodAll_mk0)))))) (fun _ _ => rfl) rfl
    (hg.frame _) hg.2.1 (ok_one (by kernel_rfl) rfl (okWide_bool_mk Try.underlying4 _))⟩

theorem transferBack : Rows.TransferBackSaid :=
  OpenClaim.holds_of_wide 9 Try.f9 rfl rfl rfl rfl rfl rfl rfl ⟨rfl, rfl, rfl, rfl, rfl⟩ rfl rfl rfl rfl rfl (by kernel_rfl) Try.func9 (by kernel_rfl)
    (of_decide_eq_true (by kernel_rfl)) (by unfold Func.isWrapper; first | (rw [if_pos (by decide +kernel)]; kernel_rfl) | (rw [if_neg (by decide +kernel)]; exact ⟨rfl, rfl⟩))
    (fun os started H enc _ => transferBack_lifted os started H enc)
#print axioms transferBack
end Go.Proofs.Ytdneelooepjdhaa
