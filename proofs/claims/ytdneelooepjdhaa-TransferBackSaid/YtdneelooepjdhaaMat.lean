/-
  What the transfer package and its reference answer, as Lean functions of the cells: a transfer's pair of accounts, the pending one that it settles. Conditions: none.
-/
import Derived.Test.YtdneelooepjdhaaBase
import Derived.Test.YtdneelooepjdhaaEvJ
set_option linter.unusedVariables false
namespace Go.Proofs.Ytdneelooepjdhaa
open Go.Ev Go.Proofs

/-- The slots at which each function's code parts. -/
def hsOf (f : Nat) : Hints :=
  match Nat.beq f 37 with
  | true => { sym := true, forks := [21] }
  | false => match Nat.beq f 40 with
    | true => { sym := true, forks := [15] }
    | false => match Nat.beq f 64 with
      | true => { sym := true, forks := [26, 29] }
      | false => { sym := true }

/-! ### u128.Cmp -/
def brw (b : Bool) : Int := bif b then 1 else 0
def subC (al bl : Int) : Bool := decide (al < bl + 0)
def subD (ah al bh bl : Int) : Bool := decide (ah < bh + (bif subC al bl then 1 else 0))
def cmpI (ah al bh bl : Int) : Int :=
  bif ((bif subD ah al bh bl then (1 : Int) else 0) == 1) then -1
  else bif (bits .or .u64 ((ah - bh - (bif subC al bl then 1 else 0)) % 18446744073709551616) ((al - bl - 0) % 18446744073709551616) == 0) then 0 else 1

noncomputable def base0 : OraB := oraL [(45, add64B false), (66, sub64B false)]
theorem base0_ok : OraOK Try.prog base0.plain := oraL_ok _ (by
  intro p hp
  simp only [List.mem_cons, List.not_mem_nil, or_false] at hp
  rcases hp with rfl | rfl
  · exact add64_ok Try.func45 (by kernel_rfl) (by kernel_rfl) (by kernel_rfl) (by kernel_rfl) false
  · exact sub64_ok Try.func66 (by kernel_rfl) (by kernel_rfl) (by kernel_rfl) (by kernel_rfl) false)

def ob64 (al bl : Int) : Ob := [(5, decide ((bif subC al bl then (1 : Int) else 0) ≤ 1), true), (5, true, true)]
theorem ob64_ok (al bl : Int) : Ob.ok (ob64 al bl) := Ob.ok_cons (by cases subC al bl <;> rfl) (Ob.ok_cons rfl Ob.ok_nil)
def obs64 (al bl : Int) : Ob := ob64 al bl ++ (ob64 al bl ++ ob64 al bl)
theorem obs64_ok (al bl : Int) : Ob.ok (obs64 al bl) := Ob.ok_append.2 ⟨ob64_ok al bl, Ob.ok_append.2 ⟨ob64_ok al bl, ob64_ok al bl⟩⟩

def g64 : FnB := fun args _ => match args with
  | [.agg [.lit (.int .u64 ah), .lit (.int .u64 al)], .agg [.lit (.int .u64 bh), .lit (.int .u64 bl)]] => some (.one (.lit (.int .i64 (cmpI ah al bh bl))), {}, [])
  | _ => none

theorem fn64 : FnOK Try.prog 64 g64 := by
  intro args H v e ob h hk
  unfold g64 at h
  split at h
  · rename_i ah al bh bl
    cases h
    exact CallOK.pure (CallOK.evalOb (hsOf := hsOf) (k := 68) (fuel := 1000) (n := 2) mixed tbl_ok base0_ok (ob := obs64 al bl) (by kernel_rfl) (obs64_ok al bl)) (by simp [AV.below, Cel.below]) H
  · cases h

/-! ### Match -/
noncomputable def base1 : OraB := oraL [(45, add64B false), (66, sub64B false), (64, g64)]
theorem base1_ok : OraOK Try.prog base1.plain := oraL_ok _ (by
  intro p hp
  simp only [List.mem_cons, List.not_mem_nil, or_false] at hp
  rcases hp with rfl | rfl | rfl
  · exact add64_ok Try.func45 (by kernel_rfl) (by kernel_rfl) (by kernel_rfl) (by kernel_rfl) false
  · exact sub64_ok Try.func66 (by kernel_rfl) (by kernel_rfl) (by kernel_rfl) (by kernel_rfl) false
  · exact fn64)

def eqU (a b c d : Int) : Bool := (a == c) && ((b == d) && true)
def lessB (ah al bh bl : Int) : Bool := bif decide (ah < bh) then true else bif ah == bh then decide (al < bl) else false
def bit (f m : Int) : Bool := bits .and .u16 f m != 0
def matchI (ls : Bool) (tIDh tIDl tDbh tDbl tCrh tCrl tAmh tAml tPeh tPel tUah tUal tUb tUc tTo tLe tCo tFl tTi pIDh pIDl pDbh pDbl pCrh pCrl pAmh pAml pPeh pPel pUah pUal pUb pUc pTo pLe pCo pFl pTi : Int) : Int :=
  bif !bit pFl 2 then 26 else
  bif (bif !eqU tDbh tDbl 0 0 then !eqU tDbh tDbl pDbh pDbl else false) then 27 else
  bif (bif !eqU tCrh tCrl 0 0 then !eqU tCrh tCrl pCrh pCrl else false) then 28 else
  bif (bif tLe != 0 then tLe != pLe else false) then 29 else
  bif (bif tCo != 0 then tCo != pCo else false) then 30 else
  bif ls then 31 else
  bif (bif (bif bit tFl 8 then !eqU tAmh tAml 0 0 else false) then !eqU tAmh tAml pAmh pAml else false) then 32 else 0

theorem ev20 (tIDh tIDl tDbh tDbl tCrh tCrl tAmh tAml tPeh tPel tUah tUal tUb tUc tTo tLe tCo tFl tTi pIDh pIDl pDbh pDbl pCrh pCrl pAmh pAml pPeh pPel pUah pUal pUb pUc pTo pLe pCo pFl pTi : Int) : CallOK Try.prog 20 [.agg [.lit (.int .u64 tIDh), .lit (.int .u64 tIDl), .lit (.int .u64 tDbh), .lit (.int .u64 tDbl), .lit (.int .u64 tCrh), .lit (.int .u64 tCrl), .lit (.int .u64 tAmh), .lit (.int .u64 tAml), .lit (.int .u64 tPeh), .lit (.int .u64 tPel), .lit (.int .u64 tUah), .lit (.int .u64 tUal), .lit (.int .u64 tUb), .lit (.int .u32 tUc), .lit (.int .u32 tTo), .lit (.int .u32 tLe), .lit (.int .u16 tCo), .lit (.int .u16 tFl), .lit (.int .u64 tTi)], .agg [.lit (.int .u64 pIDh), .lit (.int .u64 pIDl), .lit (.int .u64 pDbh), .lit (.int .u64 pDbl), .lit (.int .u64 pCrh), .lit (.int .u64 pCrl), .lit (.int .u64 pAmh), .lit (.int .u64 pAml), .lit (.int .u64 pPeh), .lit (.int .u64 pPel), .lit (.int .u64 pUah), .lit (.int .u64 pUal), .lit (.int .u64 pUb), .lit (.int .u32 pUc), .lit (.int .u32 pTo), .lit (.int .u32 pLe), .lit (.int .u16 pCo), .lit (.int .u16 pFl), .lit (.int .u64 pTi)]] [] (.one (.lit (.int .i64 (matchI (decide (cmpI pAmh pAml tAmh tAml < 0)) tIDh tIDl tDbh tDbl tCrh tCrl tAmh tAml tPeh tPel tUah tUal tUb tUc tTo tLe tCo tFl tTi pIDh pIDl pDbh pDbl pCrh pCrl pAmh pAml pPeh pPel pUah pUal pUb pUc pTo pLe pCo pFl pTi)))) {} :=
  CallOK.eval (hsOf := hsOf) (k := 68) (fuel := 1000) (n := 4) mixed tbl_ok base1_ok (by kernel_rfl) (by kernel_rfl)

theorem ev21 (tIDh tIDl tDbh tDbl tCrh tCrl tAmh tAml tPeh tPel tUah tUal tUb tUc tTo tLe tCo tFl tTi pIDh pIDl pDbh pDbl pCrh pCrl pAmh pAml pPeh pPel pUah pUal pUb pUc pTo pLe pCo pFl pTi : Int) : CallOK Try.prog 21 [.agg [.lit (.int .u64 tIDh), .lit (.int .u64 tIDl), .lit (.int .u64 tDbh), .lit (.int .u64 tDbl), .lit (.int .u64 tCrh), .lit (.int .u64 tCrl), .lit (.int .u64 tAmh), .lit (.int .u64 tAml), .lit (.int .u64 tPeh), .lit (.int .u64 tPel), .lit (.int .u64 tUah), .lit (.int .u64 tUal), .lit (.int .u64 tUb), .lit (.int .u32 tUc), .lit (.int .u32 tTo), .lit (.int .u32 tLe), .lit (.int .u16 tCo), .lit (.int .u16 tFl), .lit (.int .u64 tTi)], .agg [.lit (.int .u64 pIDh), .lit (.int .u64 pIDl), .lit (.int .u64 pDbh), .lit (.int .u64 pDbl), .lit (.int .u64 pCrh), .lit (.int .u64 pCrl), .lit (.int .u64 pAmh), .lit (.int .u64 pAml), .lit (.int .u64 pPeh), .lit (.int .u64 pPel), .lit (.int .u64 pUah), .lit (.int .u64 pUal), .lit (.int .u64 pUb), .lit (.int .u32 pUc), .lit (.int .u32 pTo), .lit (.int .u32 pLe), .lit (.int .u16 pCo), .lit (.int .u16 pFl), .lit (.int .u64 pTi)]] [] (.one (.lit (.int .i64 (matchI (lessB pAmh pAml tAmh tAml) tIDh tIDl tDbh tDbl tCrh tCrl tAmh tAml tPeh tPel tUah tUal tUb tUc tTo tLe tCo tFl tTi pIDh pIDl pDbh pDbl pCrh pCrl pAmh pAml pPeh pPel pUah pUal pUb pUc pTo pLe pCo pFl pTi)))) {} :=
  CallOK.eval (hsOf := hsOf) (k := 68) (fuel := 1000) (n := 4) mixed tbl_ok base1_ok (by kernel_rfl) (by kernel_rfl)

def pairI (dLe cLe tLe : Int) : Int := bif dLe != cLe then 23 else bif dLe != tLe then 24 else 0

theorem ev18 (tIDh tIDl tDbh tDbl tCrh tCrl tAmh tAml tPeh tPel tUah tUal tUb tUc tTo tLe tCo tFl tTi dIDh dIDl dDph dDpl dDoh dDol dCph dCpl dCoh dCol dUah dUal dUb dUc dRe dLe dCd dFl dTi cIDh cIDl cDph cDpl cDoh cDol cCph cCpl cCoh cCol cUah cUal cUb cUc cRe cLe cCd cFl cTi : Int) : CallOK Try.prog 18 [.agg [.lit (.int .u64 tIDh), .lit (.int .u64 tIDl), .lit (.int .u64 tDbh), .lit (.int .u64 tDbl), .lit (.int .u64 tCrh), .lit (.int .u64 tCrl), .lit (.int .u64 tAmh), .lit (.int .u64 tAml), .lit (.int .u64 tPeh), .lit (.int .u64 tPel), .lit (.int .u64 tUah), .lit (.int .u64 tUal), .lit (.int .u64 tUb), .lit (.int .u32 tUc), .lit (.int .u32 tTo), .lit (.int .u32 tLe), .lit (.int .u16 tCo), .lit (.int .u16 tFl), .lit (.int .u64 tTi)], .agg [.lit (.int .u64 dIDh), .lit (.int .u64 dIDl), .lit (.int .u64 dDph), .lit (.int .u64 dDpl), .lit (.int .u64 dDoh), .lit (.int .u64 dDol), .lit (.int .u64 dCph), .lit (.int .u64 dCpl), .lit (.int .u64 dCoh), .lit (.int .u64 dCol), .lit (.int .u64 dUah), .lit (.int .u64 dUal), .lit (.int .u64 dUb), .lit (.int .u32 dUc), .lit (.int .u32 dRe), .lit (.int .u32 dLe), .lit (.int .u16 dCd), .lit (.int .u16 dFl), .lit (.int .u64 dTi)], .agg [.lit (.int .u64 cIDh), .lit (.int .u64 cIDl), .lit (.int .u64 cDph), .lit (.int .u64 cDpl), .lit (.int .u64 cDoh), .lit (.int .u64 cDol), .lit (.int .u64 cCph), .lit (.int .u64 cCpl), .lit (.int .u64 cCoh), .lit (.int .u64 cCol), .lit (.int .u64 cUah), .lit (.int .u64 cUal), .lit (.int .u64 cUb), .lit (.int .u32 cUc), .lit (.int .u32 cRe), .lit (.int .u32 cLe), .lit (.int .u16 cCd), .lit (.int .u16 cFl), .lit (.int .u64 cTi)]] [] (.one (.lit (.int .i64 (pairI dLe cLe tLe)))) {} :=
  CallOK.eval (hsOf := hsOf) (k := 68) (fuel := 1000) (n := 4) mixed tbl_ok base1_ok (by kernel_rfl) (by kernel_rfl)

theorem ev19 (tIDh tIDl tDbh tDbl tCrh tCrl tAmh tAml tPeh tPel tUah tUal tUb tUc tTo tLe tCo tFl tTi dIDh dIDl dDph dDpl dDoh dDol dCph dCpl dCoh dCol dUah dUal dUb dUc dRe dLe dCd dFl dTi cIDh cIDl cDph cDpl cDoh cDol cCph cCpl cCoh cCol cUah cUal cUb cUc cRe cLe cCd cFl cTi : Int) : CallOK Try.prog 19 [.agg [.lit (.int .u64 tIDh), .lit (.int .u64 tIDl), .lit (.int .u64 tDbh), .lit (.int .u64 tDbl), .lit (.int .u64 tCrh), .lit (.int .u64 tCrl), .lit (.int .u64 tAmh), .lit (.int .u64 tAml), .lit (.int .u64 tPeh), .lit (.int .u64 tPel), .lit (.int .u64 tUah), .lit (.int .u64 tUal), .lit (.int .u64 tUb), .lit (.int .u32 tUc), .lit (.int .u32 tTo), .lit (.int .u32 tLe), .lit (.int .u16 tCo), .lit (.int .u16 tFl), .lit (.int .u64 tTi)], .agg [.lit (.int .u64 dIDh), .lit (.int .u64 dIDl), .lit (.int .u64 dDph), .lit (.int .u64 dDpl), .lit (.int .u64 dDoh), .lit (.int .u64 dDol), .lit (.int .u64 dCph), .lit (.int .u64 dCpl), .lit (.int .u64 dCoh), .lit (.int .u64 dCol), .lit (.int .u64 dUah), .lit (.int .u64 dUal), .lit (.int .u64 dUb), .lit (.int .u32 dUc), .lit (.int .u32 dRe), .lit (.int .u32 dLe), .lit (.int .u16 dCd), .lit (.int .u16 dFl), .lit (.int .u64 dTi)], .agg [.lit (.int .u64 cIDh), .lit (.int .u64 cIDl), .lit (.int .u64 cDph), .lit (.int .u64 cDpl), .lit (.int .u64 cDoh), .lit (.int .u64 cDol), .lit (.int .u64 cCph), .lit (.int .u64 cCpl), .lit (.int .u64 cCoh), .lit (.int .u64 cCol), .lit (.int .u64 cUah), .lit (.int .u64 cUal), .lit (.int .u64 cUb), .lit (.int .u32 cUc), .lit (.int .u32 cRe), .lit (.int .u32 cLe), .lit (.int .u16 cCd), .lit (.int .u16 cFl), .lit (.int .u64 cTi)]] [] (.one (.lit (.int .i64 (pairI dLe cLe tLe)))) {} :=
  CallOK.eval (hsOf := hsOf) (k := 68) (fuel := 1000) (n := 4) mixed tbl_ok base1_ok (by kernel_rfl) (by kernel_rfl)
end Go.Proofs.Ytdneelooepjdhaa
