/-
  The run of function 54, joined of its pieces: what a call of it does, known beforehand. Conditions: none but that the table of TrailingZeros64 stands in its variable (J).
  The base, and what the opening at the first checkpoint of BooksKnown does. Conditions: none but that the table of TrailingZeros64 stands in its variable (J).
-/
import Derived.Test.YtdkoockhfmbcaaaGreatDoorGkOp3
namespace Go.Proofs.YtdkoockhfmbcaaaGreatDoor
open Go.Fv Go.Proofs
theorem gkOp_piece {k : Nat} {d e : MS} {o' : Oc} (h : ∃ s', gkOpK k d = some s' ∧ lessS e s' = true) (hy : MOK Tryz.prog Tryz.f54.ntmps 0 none none (bodyOf Tryz.f54) e o') : MOK Tryz.prog Tryz.f54.ntmps 0 none none (bodyOf Tryz.f54) d o' :=
  piece0 (fuel := 1000) (k := k) (stops := []) mixed (oraN_ok mixed tbl_ok baseC_ok 59) (entT_ok tbl_ok) (by kernel_rfl) h hy
theorem gkOp_num {k x : Nat} {d : MS} (h : numO (gkOpK k d) = x) (h0 : Nat.beq x 0 = false) : ∃ s', gkOpK k d = some s' ∧ lessS (decS x) s' = true := numO_spec h fun hh => by rw [hh] at h0; cases h0
theorem gkOp_join {s0 s1 s2 s3 : MS} {k1 k2 k3 : Nat} (h1 : ∃ s', gkOpK k1 s0 = some s' ∧ lessS s1 s' = true) (h2 : ∃ s', gkOpK k2 s1 = some s' ∧ lessS s2 s' = true) (h3 : ∃ s', gkOpK k3 s2 = some s' ∧ lessS s3 s' = true) (hlo : s3.H.lo = 0) (hks : s3.ks = []) : CallMemo Tryz.prog 54 Tryz.f54 s0 s3 :=
  memo_of_run Tryz.func54 (c := bodyOf Tryz.f54) (by kernel_rfl) Tryz.call54 hlo hks fun o' hy => gkOp_piece h1 (gkOp_piece h2 (gkOp_piece h3 hy))
theorem gkOp_p1 : ∃ s', gkOpK 24 gkOpS = some s' ∧ lessS (decS gkOpN1) s' = true := gkOp_num gkOp_run1 gkOp_pos1
theorem gkOp_p2 : ∃ s', gkOpK 40 (decS gkOpN1) = some s' ∧ lessS (decS gkOpN2) s' = true := gkOp_num gkOp_run2 gkOp_pos2
theorem gkOp_p3 : ∃ s', gkOpK 200 (decS gkOpN2) = some s' ∧ lessS (decS gkOpN3) s' = true := gkOp_num gkOp_run3 gkOp_pos3
theorem gkOp_memo : CallMemo Tryz.prog 54 Tryz.f54 gkOpS (decS gkOpN3) := gkOp_join gkOp_p1 gkOp_p2 gkOp_p3 (by kernel_rfl) (by kernel_rfl)
end Go.Proofs.YtdkoockhfmbcaaaGreatDoor

namespace Go.Proofs.YtdkoockhfmbcaaaGreatDoor
open Go.Fv Go.Proofs
noncomputable def baseD : OraM := memoO Tryz.prog 54 Tryz.f54 2107 gkOpS (decS gkOpN3) baseC
theorem baseD_ok : OraMOK Tryz.prog baseD := memoO_ok gkOp_memo baseC_ok
end Go.Proofs.YtdkoockhfmbcaaaGreatDoor
