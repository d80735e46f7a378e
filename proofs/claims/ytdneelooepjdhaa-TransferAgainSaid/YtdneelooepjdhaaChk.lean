/-
  What the transfer package and its reference answer, as Lean functions of the cells: a transfer by itself, and beside another one. Conditions: none.
-/
import Derived.Test.YtdneelooepjdhaaMat
import Derived.Test.YtdneelooepjdhaaEvK
set_option linter.unusedVariables false
namespace Go.Proofs.Ytdneelooepjdhaa
open Go.Ev Go.Proofs

/-- The slots at which each function's code parts. -/
def hsC (f : Nat) : Hints :=
  match Nat.beq f 11 with
  | true => { sym := true, forks := [31] }
  | false => match Nat.beq f 12 with
    | true => { sym := true, forks := [26, 29] }
    | false => hsOf f

/-! ### How many of three flags -/
def popI (x : Int) : Int := bif x == 0 then 0 else bif x == 2 || (x == 4 || x == 8) then 1 else bif x == 14 then 3 else 2
def popOk (x : Int) : Bool := x == 0 || (x == 2 || (x == 4 || (x == 6 || (x == 8 || (x == 10 || (x == 12 || x == 14))))))
def g35 : FnB := fun args _ => match args with
  | [.one (.lit (.int .u16 x))] => some (.one (.lit (.int .i64 (popI x))), {}, [(6, popOk x, true)])
  | _ => none

theorem fn35 : FnOK Try.prog 35 g35 := by
  intro args H v e ob h hk
  unfold g35 at h
  split at h
  · rename_i x
    cases h
    have h1 : popOk x = true := hk _ (List.mem_cons_self ..)
    simp only [popOk, Bool.or_eq_true, beq_iff_eq] at h1
    refine CallOK.pure ?_ (by simp [AV.below, Cel.below]) H
    rcases h1 with rfl | rfl | rfl | rfl | rfl | rfl | rfl | rfl <;> exact closed_ok mixed tbl_ok base_ok (k := 68) (fuel := 1000) (n := 2) (by kernel_rfl)
  · cases h

noncomputable def baseC : OraB := oraL [(35, g35)]
theorem baseC_ok : OraOK Try.prog baseC.plain := oraL_ok _ (by
  intro p hp
  simp only [List.mem_cons, List.not_mem_nil, or_false] at hp
  rcases hp with rfl
  exact fn35)

def shr (f m : Int) : Int := f.fdiv (2 ^ (min m.toNat (IntKind.u16).bits))
def kindsI (f : Int) : Int := (IntKind.i64).wrap ((IntKind.u16).wrap ((IntKind.u16).wrap (bits .and .u16 (shr f 1) 1 + bits .and .u16 (shr f 2) 1) + bits .and .u16 (shr f 3) 1))

def beginI (a b : Bool) (tIDh tIDl tDbh tDbl tCrh tCrl tAmh tAml tPeh tPel tUah tUal tUb tUc tTo tLe tCo tFl tTi k : Int) : Int := bif tTi != 0 then 3 else bif a then 4 else bif eqU tIDh tIDl 0 0 then 5 else bif eqU tIDh tIDl 18446744073709551615 18446744073709551615 then 6 else bif b then 7 else k
def chain4 (tIDh tIDl tDbh tDbl tCrh tCrl tAmh tAml tPeh tPel tUah tUal tUb tUc tTo tLe tCo tFl tTi : Int) : Int := bif eqU tPeh tPel 0 0 then 18 else bif eqU tPeh tPel 18446744073709551615 18446744073709551615 then 19 else bif eqU tPeh tPel tIDh tIDl then 20 else bif tTo != 0 then 14 else 0
def chain10 (tIDh tIDl tDbh tDbl tCrh tCrl tAmh tAml tPeh tPel tUah tUal tUb tUc tTo tLe tCo tFl tTi : Int) : Int := bif eqU tDbh tDbl 0 0 then 8 else bif eqU tDbh tDbl 18446744073709551615 18446744073709551615 then 9 else bif eqU tCrh tCrl 0 0 then 10 else bif eqU tCrh tCrl 18446744073709551615 18446744073709551615 then 11 else bif eqU tDbh tDbl tCrh tCrl then 12 else bif !eqU tPeh tPel 0 0 then 13 else bif (bif tTo != 0 then !bit tFl 2 else false) then 14 else bif eqU tAmh tAml 0 0 then 15 else bif tLe == 0 then 16 else bif tCo == 0 then 17 else 0
def checkI (a b : Bool) (tIDh tIDl tDbh tDbl tCrh tCrl tAmh tAml tPeh tPel tUah tUal tUb tUc tTo tLe tCo tFl tTi : Int) : Int := bif bit tFl 12 then beginI a b tIDh tIDl tDbh tDbl tCrh tCrl tAmh tAml tPeh tPel tUah tUal tUb tUc tTo tLe tCo tFl tTi (chain4 tIDh tIDl tDbh tDbl tCrh tCrl tAmh tAml tPeh tPel tUah tUal tUb tUc tTo tLe tCo tFl tTi) else beginI a b tIDh tIDl tDbh tDbl tCrh tCrl tAmh tAml tPeh tPel tUah tUal tUb tUc tTo tLe tCo tFl tTi (chain10 tIDh tIDl tDbh tDbl tCrh tCrl tAmh tAml tPeh tPel tUah tUal tUb tUc tTo tLe tCo tFl tTi)
def checkR (a b : Bool) (tIDh tIDl tDbh tDbl tCrh tCrl tAmh tAml tPeh tPel tUah tUal tUb tUc tTo tLe tCo tFl tTi : Int) : Int := bif beginI a b tIDh tIDl tDbh tDbl tCrh tCrl tAmh tAml tPeh tPel tUah tUal tUb tUc tTo tLe tCo tFl tTi 0 != 0 then beginI a b tIDh tIDl tDbh tDbl tCrh tCrl tAmh tAml tPeh tPel tUah tUal tUb tUc tTo tLe tCo tFl tTi 0 else bif bit tFl 12 then chain4 tIDh tIDl tDbh tDbl tCrh tCrl tAmh tAml tPeh tPel tUah tUal tUb tUc tTo tLe tCo tFl tTi else chain10 tIDh tIDl tDbh tDbl tCrh tCrl tAmh tAml tPeh tPel tUah tUal tUb tUc tTo tLe tCo tFl tTi
def otherI (tIDh tIDl tDbh tDbl tCrh tCrl tAmh tAml tPeh tPel tUah tUal tUb tUc tTo tLe tCo tFl tTi hIDh hIDl hDbh hDbl hCrh hCrl hAmh hAml hPeh hPel hUah hUal hUb hUc hTo hLe hCo hFl hTi : Int) : Int := bif tFl != hFl then 33 else bif !eqU tDbh tDbl hDbh hDbl then 34 else bif !eqU tCrh tCrl hCrh hCrl then 35 else bif !eqU tAmh tAml hAmh hAml then 36 else bif !eqU tPeh tPel hPeh hPel then 37 else bif !eqU tUah tUal hUah hUal then 38 else bif tUb != hUb then 39 else bif tUc != hUc then 40 else bif tTo != hTo then 41 else bif tLe != hLe then 42 else bif tCo != hCo then 43 else 44

theorem ev11 (tIDh tIDl tDbh tDbl tCrh tCrl tAmh tAml tPeh tPel tUah tUal tUb tUc tTo tLe tCo tFl tTi : Int) (hp : popOk (bits .and .u16 tFl 14) = true) : CallOK Try.prog 11 [.agg [.lit (.int .u64 tIDh), .lit (.int .u64 tIDl), .lit (.int .u64 tDbh), .lit (.int .u64 tDbl), .lit (.int .u64 tCrh), .lit (.int .u64 tCrl), .lit (.int .u64 tAmh), .lit (.int .u64 tAml), .lit (.int .u64 tPeh), .lit (.int .u64 tPel), .lit (.int .u64 tUah), .lit (.int .u64 tUal), .lit (.int .u64 tUb), .lit (.int .u32 tUc), .lit (.int .u32 tTo), .lit (.int .u32 tLe), .lit (.int .u16 tCo), .lit (.int .u16 tFl), .lit (.int .u64 tTi)]] [] (.one (.lit (.int .i64 (checkI (bits .andNot .u16 tFl 15 != 0) (decide (popI (bits .and .u16 tFl 14) > 1)) tIDh tIDl tDbh tDbl tCrh tCrl tAmh tAml tPeh tPel tUah tUal tUb tUc tTo tLe tCo tFl tTi)))) {} :=
  CallOK.eval1 (hsOf := hsC) (k := 68) (fuel := 1000) (n := 4) mixed tbl_ok baseC_ok hp (by kernel_rfl) (by kernel_rfl)
theorem ev12 (tIDh tIDl tDbh tDbl tCrh tCrl tAmh tAml tPeh tPel tUah tUal tUb tUc tTo tLe tCo tFl tTi : Int) : CallOK Try.prog 12 [.agg [.lit (.int .u64 tIDh), .lit (.int .u64 tIDl), .lit (.int .u64 tDbh), .lit (.int .u64 tDbl), .lit (.int .u64 tCrh), .lit (.int .u64 tCrl), .lit (.int .u64 tAmh), .lit (.int .u64 tAml), .lit (.int .u64 tPeh), .lit (.int .u64 tPel), .lit (.int .u64 tUah), .lit (.int .u64 tUal), .lit (.int .u64 tUb), .lit (.int .u32 tUc), .lit (.int .u32 tTo), .lit (.int .u32 tLe), .lit (.int .u16 tCo), .lit (.int .u16 tFl), .lit (.int .u64 tTi)]] [] (.one (.lit (.int .i64 (checkR (decide (tFl > 15)) (decide (kindsI tFl > 1)) tIDh tIDl tDbh tDbl tCrh tCrl tAmh tAml tPeh tPel tUah tUal tUb tUc tTo tLe tCo tFl tTi)))) {} :=
  CallOK.eval (hsOf := hsC) (k := 68) (fuel := 1000) (n := 4) mixed tbl_ok baseC_ok (by kernel_rfl) (by kernel_rfl)
theorem ev13 (tIDh tIDl tDbh tDbl tCrh tCrl tAmh tAml tPeh tPel tUah tUal tUb tUc tTo tLe tCo tFl tTi hIDh hIDl hDbh hDbl hCrh hCrl hAmh hAml hPeh hPel hUah hUal hUb hUc hTo hLe hCo hFl hTi : Int) : CallOK Try.prog 13 [.agg [.lit (.int .u64 tIDh), .lit (.int .u64 tIDl), .lit (.int .u64 tDbh), .lit (.int .u64 tDbl), .lit (.int .u64 tCrh), .lit (.int .u64 tCrl), .lit (.int .u64 tAmh), .lit (.int .u64 tAml), .lit (.int .u64 tPeh), .lit (.int .u64 tPel), .lit (.int .u64 tUah), .lit (.int .u64 tUal), .lit (.int .u64 tUb), .lit (.int .u32 tUc), .lit (.int .u32 tTo), .lit (.int .u32 tLe), .lit (.int .u16 tCo), .lit (.int .u16 tFl), .lit (.int .u64 tTi)], .agg [.lit (.int .u64 hIDh), .lit (.int .u64 hIDl), .lit (.int .u64 hDbh), .lit (.int .u64 hDbl), .lit (.int .u64 hCrh), .lit (.int .u64 hCrl), .lit (.int .u64 hAmh), .lit (.int .u64 hAml), .lit (.int .u64 hPeh), .lit (.int .u64 hPel), .lit (.int .u64 hUah), .lit (.int .u64 hUal), .lit (.int .u64 hUb), .lit (.int .u32 hUc), .lit (.int .u32 hTo), .lit (.int .u32 hLe), .lit (.int .u16 hCo), .lit (.int .u16 hFl), .lit (.int .u64 hTi)]] [] (.one (.lit (.int .i64 (otherI tIDh tIDl tDbh tDbl tCrh tCrl tAmh tAml tPeh tPel tUah tUal tUb tUc tTo tLe tCo tFl tTi hIDh hIDl hDbh hDbl hCrh hCrl hAmh hAml hPeh hPel hUah hUal hUb hUc hTo hLe hCo hFl hTi)))) {} :=
  CallOK.eval (hsOf := hsC) (k := 68) (fuel := 1000) (n := 4) mixed tbl_ok baseC_ok (by kernel_rfl) (by kernel_rfl)
theorem ev14 (tIDh tIDl tDbh tDbl tCrh tCrl tAmh tAml tPeh tPel tUah tUal tUb tUc tTo tLe tCo tFl tTi hIDh hIDl hDbh hDbl hCrh hCrl hAmh hAml hPeh hPel hUah hUal hUb hUc hTo hLe hCo hFl hTi : Int) : CallOK Try.prog 14 [.agg [.lit (.int .u64 tIDh), .lit (.int .u64 tIDl), .lit (.int .u64 tDbh), .lit (.int .u64 tDbl), .lit (.int .u64 tCrh), .lit (.int .u64 tCrl), .lit (.int .u64 tAmh), .lit (.int .u64 tAml), .lit (.int .u64 tPeh), .lit (.int .u64 tPel), .lit (.int .u64 tUah), .lit (.int .u64 tUal), .lit (.int .u64 tUb), .lit (.int .u32 tUc), .lit (.int .u32 tTo), .lit (.int .u32 tLe), .lit (.int .u16 tCo), .lit (.int .u16 tFl), .lit (.int .u64 tTi)], .agg [.lit (.int .u64 hIDh), .lit (.int .u64 hIDl), .lit (.int .u64 hDbh), .lit (.int .u64 hDbl), .lit (.int .u64 hCrh), .lit (.int .u64 hCrl), .lit (.int .u64 hAmh), .lit (.int .u64 hAml), .lit (.int .u64 hPeh), .lit (.int .u64 hPel), .lit (.int .u64 hUah), .lit (.int .u64 hUal), .lit (.int .u64 hUb), .lit (.int .u32 hUc), .lit (.int .u32 hTo), .lit (.int .u32 hLe), .lit (.int .u16 hCo), .lit (.int .u16 hFl), .lit (.int .u64 hTi)]] [] (.one (.lit (.int .i64 (otherI tIDh tIDl tDbh tDbl tCrh tCrl tAmh tAml tPeh tPel tUah tUal tUb tUc tTo tLe tCo tFl tTi hIDh hIDl hDbh hDbl hCrh hCrl hAmh hAml hPeh hPel hUah hUal hUb hUc hTo hLe hCo hFl hTi)))) {} :=
  CallOK.eval (hsOf := hsC) (k := 68) (fuel := 1000) (n := 4) mixed tbl_ok baseC_ok (by kernel_rfl) (by kernel_rfl)
end Go.Proofs.Ytdneelooepjdhaa
