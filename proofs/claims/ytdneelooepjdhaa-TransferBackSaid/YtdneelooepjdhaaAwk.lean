/-
  The examples of the transfer chapter hold (awake); the comparison of numbers of 128 bits; what the rows of the seat share. Conditions: none.
-/
import Derived.Test.YtdneelooepjdhaaMat
import Derived.Test.YtdneelooepjdhaaEvK
import Derived.WalkKit
set_option linter.unusedVariables false
set_option linter.unusedSimpArgs false
namespace Go.Proofs.Ytdneelooepjdhaa
open Go.ChangeShapes Go.WideShapes Go.ChangeAt Go.RowKit Go.Ev

theorem own : ownKnob Try.prog.godebug = none := by kernel_rfl
def kindsT : List IntKind := [.u64, .u64, .u64, .u64, .u64, .u64, .u64, .u64, .u64, .u64, .u64, .u64, .u64, .u32, .u32, .u32, .u16, .u16, .u64]
def kindsA : List IntKind := [.u64, .u64, .u64, .u64, .u64, .u64, .u64, .u64, .u64, .u64, .u64, .u64, .u64, .u32, .u32, .u32, .u16, .u16, .u64]

theorem awake_ok : CallOK Try.prog 15 [] [] (.one (.lit (.bool true))) {} := closed_ok mixed tbl_ok base_ok (k := 68) (fuel := 1000) (n := 12) (by kernel_rfl)
def g15 : FnB := fun args _ => match args with
  | [] => some (.one (.lit (.bool true)), {}, [])
  | _ => none
theorem fn15 : FnOK Try.prog 15 g15 := by
  intro args H v e ob h hk
  unfold g15 at h
  split at h
  · cases h
    exact CallOK.pure awake_ok (by simp) H
  · cases h

noncomputable def base2 : OraB := oraL [(45, add64B false), (66, sub64B false), (64, g64), (15, g15)]
theorem base2_ok : OraOK Try.prog base2.plain := oraL_ok _ (by
  intro p hp
  simp only [List.mem_cons, List.not_mem_nil, or_false] at hp
  rcases hp with rfl | rfl | rfl | rfl
  · exact add64_ok Try.func45 (by kernel_rfl) (by kernel_rfl) (by kernel_rfl) (by kernel_rfl) false
  · exact sub64_ok Try.func66 (by kernel_rfl) (by kernel_rfl) (by kernel_rfl) (by kernel_rfl) false
  · exact fn64
  · exact fn15)

theorem sub_less {ah al bh bl : Int} : subD ah al bh bl = lessB ah al bh bl := by
  unfold subD lessB subC
  by_cases h1 : al < bl
  · have h1' : al < bl + 0 := by omega
    simp only [h1, h1', decide_true, cond_true]
    by_cases h2 : ah < bh
    · have : ah < bh + 1 := by omega
      simp [h2, this]
    · by_cases h3 : ah = bh
      · have : ah < bh + 1 := by omega
        simp [h3]; omega
      · have : ¬ ah < bh + 1 := by omega
        simp [h2, h3, this]
  · have h1' : ¬ al < bl + 0 := by omega
    simp only [h1, h1', decide_false, cond_false]
    by_cases h2 : ah < bh
    · have : ah < bh + 0 := by omega
      simp [h2, this]
    · have : ¬ ah < bh + 0 := by omega
      simp [h2, this]

theorem cmp_less {ah al bh bl : Int} : decide (cmpI ah al bh bl < 0) = lessB ah al bh bl := by
  rw [← sub_less]
  unfold cmpI
  cases subD ah al bh bl with
  | true => rfl
  | false =>
    simp only [cond_false]
    cases (bits .or .u64 ((ah - bh - (bif subC al bl then 1 else 0)) % 18446744073709551616) ((al - bl - 0) % 18446744073709551616) == 0) <;> rfl

end Go.Proofs.Ytdneelooepjdhaa
