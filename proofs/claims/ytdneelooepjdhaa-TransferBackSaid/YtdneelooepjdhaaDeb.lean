/-
  Contracts of account.Debited and account.Credited, as numbers. Conditions: none.
-/
import Derived.Test.YtdneelooepjdhaaCon
set_option linter.unusedVariables false
namespace Go.Proofs.Ytdneelooepjdhaa
open Go.Ev Go.Proofs
noncomputable def bC : OraB := oraL [(45, add64B false), (66, sub64B false), (64, g64), (62, g62), (49, g49), (61, g61)]
theorem bC_ok : OraOK Try.prog bC.plain := oraL_ok _ (by
  intro p hp
  simp only [List.mem_cons, List.not_mem_nil, or_false] at hp
  rcases hp with rfl | rfl | rfl | rfl | rfl | rfl
  · exact add64_ok Try.func45 (by kernel_rfl) (by kernel_rfl) (by kernel_rfl) (by kernel_rfl) false
  · exact sub64_ok Try.func66 (by kernel_rfl) (by kernel_rfl) (by kernel_rfl) (by kernel_rfl) false
  · exact fn64
  · exact fn62
  · exact fn49
  · exact fn61)
def hsF (b : Bool) (f : Nat) : Hints :=
  match Nat.beq f 47 || Nat.beq f 48 with
  | true => { sym := true, l := [(9, b, 1)] }
  | false => hsOf f

theorem ev47t (dIDh dIDl dDph dDpl dDoh dDol dCph dCpl dCoh dCol dUah dUal dUb dUc dRe dLe dCd dFl dTi nh nl : Int) (h : bit dFl 2 = true) : CallOK Try.prog 47 [.agg [.lit (.int .u64 dIDh), .lit (.int .u64 dIDl), .lit (.int .u64 dDph), .lit (.int .u64 dDpl), .lit (.int .u64 dDoh), .lit (.int .u64 dDol), .lit (.int .u64 dCph), .lit (.int .u64 dCpl), .lit (.int .u64 dCoh), .lit (.int .u64 dCol), .lit (.int .u64 dUah), .lit (.int .u64 dUal), .lit (.int .u64 dUb), .lit (.int .u32 dUc), .lit (.int .u32 dRe), .lit (.int .u32 dLe), .lit (.int .u16 dCd), .lit (.int .u16 dFl), .lit (.int .u64 dTi)], .agg [.lit (.int .u64 nh), .lit (.int .u64 nl)]] [] (.one (.lit (.bool (decide (V dCoh dCol < V dDph dDpl + V dDoh dDol + V nh nl))))) {} :=
  CallOK.eval1 (hsOf := hsF true) (k := 68) (fuel := 1000) (n := 3) mixed tbl_ok bC_ok h (by kernel_rfl) (by kernel_rfl)
theorem ev47f (dIDh dIDl dDph dDpl dDoh dDol dCph dCpl dCoh dCol dUah dUal dUb dUc dRe dLe dCd dFl dTi nh nl : Int) (h : bit dFl 2 = false) : CallOK Try.prog 47 [.agg [.lit (.int .u64 dIDh), .lit (.int .u64 dIDl), .lit (.int .u64 dDph), .lit (.int .u64 dDpl), .lit (.int .u64 dDoh), .lit (.int .u64 dDol), .lit (.int .u64 dCph), .lit (.int .u64 dCpl), .lit (.int .u64 dCoh), .lit (.int .u64 dCol), .lit (.int .u64 dUah), .lit (.int .u64 dUal), .lit (.int .u64 dUb), .lit (.int .u32 dUc), .lit (.int .u32 dRe), .lit (.int .u32 dLe), .lit (.int .u16 dCd), .lit (.int .u16 dFl), .lit (.int .u64 dTi)], .agg [.lit (.int .u64 nh), .lit (.int .u64 nl)]] [] (.one (.lit (.bool false))) {} :=
  CallOK.eval1 (hsOf := hsF false) (k := 68) (fuel := 1000) (n := 3) mixed tbl_ok bC_ok h (by kernel_rfl) (by kernel_rfl)
def g47 : FnB := fun args _ => match args with
  | [.agg [.lit (.int .u64 dIDh), .lit (.int .u64 dIDl), .lit (.int .u64 dDph), .lit (.int .u64 dDpl), .lit (.int .u64 dDoh), .lit (.int .u64 dDol), .lit (.int .u64 dCph), .lit (.int .u64 dCpl), .lit (.int .u64 dCoh), .lit (.int .u64 dCol), .lit (.int .u64 dUah), .lit (.int .u64 dUal), .lit (.int .u64 dUb), .lit (.int .u32 dUc), .lit (.int .u32 dRe), .lit (.int .u32 dLe), .lit (.int .u16 dCd), .lit (.int .u16 dFl), .lit (.int .u64 dTi)], .agg [.lit (.int .u64 nh), .lit (.int .u64 nl)]] => some (.one (.lit (.bool (bif bit dFl 2 then decide (V dCoh dCol < V dDph dDpl + V dDoh dDol + V nh nl) else false))), {}, [])
  | _ => none
theorem fn47 : FnOK Try.prog 47 g47 := by
  intro args H v e ob h hk
  unfold g47 at h
  split at h
  · rename_i dIDh dIDl dDph dDpl dDoh dDol dCph dCpl dCoh dCol dUah dUal dUb dUc dRe dLe dCd dFl dTi nh nl
    cases h
    refine CallOK.pure ?_ (by simp [AV.below, Cel.below]) H
    cases hb : bit dFl 2 with
    | true => exact ev47t dIDh dIDl dDph dDpl dDoh dDol dCph dCpl dCoh dCol dUah dUal dUb dUc dRe dLe dCd dFl dTi nh nl hb
    | false => exact ev47f dIDh dIDl dDph dDpl dDoh dDol dCph dCpl dCoh dCol dUah dUal dUb dUc dRe dLe dCd dFl dTi nh nl hb
  · cases h

theorem ev48t (dIDh dIDl dDph dDpl dDoh dDol dCph dCpl dCoh dCol dUah dUal dUb dUc dRe dLe dCd dFl dTi nh nl : Int) (h : bit dFl 4 = true) : CallOK Try.prog 48 [.agg [.lit (.int .u64 dIDh), .lit (.int .u64 dIDl), .lit (.int .u64 dDph), .lit (.int .u64 dDpl), .lit (.int .u64 dDoh), .lit (.int .u64 dDol), .lit (.int .u64 dCph), .lit (.int .u64 dCpl), .lit (.int .u64 dCoh), .lit (.int .u64 dCol), .lit (.int .u64 dUah), .lit (.int .u64 dUal), .lit (.int .u64 dUb), .lit (.int .u32 dUc), .lit (.int .u32 dRe), .lit (.int .u32 dLe), .lit (.int .u16 dCd), .lit (.int .u16 dFl), .lit (.int .u64 dTi)], .agg [.lit (.int .u64 nh), .lit (.int .u64 nl)]] [] (.one (.lit (.bool (decide (V dDoh dDol < V dCph dCpl + V dCoh dCol + V nh nl))))) {} :=
  CallOK.eval1 (hsOf := hsF true) (k := 68) (fuel := 1000) (n := 3) mixed tbl_ok bC_ok h (by kernel_rfl) (by kernel_rfl)
theorem ev48f (dIDh dIDl dDph dDpl dDoh dDol dCph dCpl dCoh dCol dUah dUal dUb dUc dRe dLe dCd dFl dTi nh nl : Int) (h : bit dFl 4 = false) : CallOK Try.prog 48 [.agg [.lit (.int .u64 dIDh), .lit (.int .u64 dIDl), .lit (.int .u64 dDph), .lit (.int .u64 dDpl), .lit (.int .u64 dDoh), .lit (.int .u64 dDol), .lit (.int .u64 dCph), .lit (.int .u64 dCpl), .lit (.int .u64 dCoh), .lit (.int .u64 dCol), .lit (.int .u64 dUah), .lit (.int .u64 dUal), .lit (.int .u64 dUb), .lit (.int .u32 dUc), .lit (.int .u32 dRe), .lit (.int .u32 dLe), .lit (.int .u16 dCd), .lit (.int .u16 dFl), .lit (.int .u64 dTi)], .agg [.lit (.int .u64 nh), .lit (.int .u64 nl)]] [] (.one (.lit (.bool false))) {} :=
  CallOK.eval1 (hsOf := hsF false) (k := 68) (fuel := 1000) (n := 3) mixed tbl_ok bC_ok h (by kernel_rfl) (by kernel_rfl)
def g48 : FnB := fun args _ => match args with
  | [.agg [.lit (.int .u64 dIDh), .lit (.int .u64 dIDl), .lit (.int .u64 dDph), .lit (.int .u64 dDpl), .lit (.int .u64 dDoh), .lit (.int .u64 dDol), .lit (.int .u64 dCph), .lit (.int .u64 dCpl), .lit (.int .u64 dCoh), .lit (.int .u64 dCol), .lit (.int .u64 dUah), .lit (.int .u64 dUal), .lit (.int .u64 dUb), .lit (.int .u32 dUc), .lit (.int .u32 dRe), .lit (.int .u32 dLe), .lit (.int .u16 dCd), .lit (.int .u16 dFl), .lit (.int .u64 dTi)], .agg [.lit (.int .u64 nh), .lit (.int .u64 nl)]] => some (.one (.lit (.bool (bif bit dFl 4 then decide (V dDoh dDol < V dCph dCpl + V dCoh dCol + V nh nl) else false))), {}, [])
  | _ => none
theorem fn48 : FnOK Try.prog 48 g48 := by
  intro args H v e ob h hk
  unfold g48 at h
  split at h
  · rename_i dIDh dIDl dDph dDpl dDoh dDol dCph dCpl dCoh dCol dUah dUal dUb dUc dRe dLe dCd dFl dTi nh nl
    cases h
    refine CallOK.pure ?_ (by simp [AV.below, Cel.below]) H
    cases hb : bit dFl 4 with
    | true => exact ev48t dIDh dIDl dDph dDpl dDoh dDol dCph dCpl dCoh dCol dUah dUal dUb dUc dRe dLe dCd dFl dTi nh nl hb
    | false => exact ev48f dIDh dIDl dDph dDpl dDoh dDol dCph dCpl dCoh dCol dUah dUal dUb dUc dRe dLe dCd dFl dTi nh nl hb
  · cases h
end Go.Proofs.Ytdneelooepjdhaa
