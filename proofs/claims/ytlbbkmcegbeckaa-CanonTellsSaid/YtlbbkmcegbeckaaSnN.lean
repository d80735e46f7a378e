/-
  Contracts of a chapter's functions: the examples; the law. Conditions: none.
  Contracts of a chapter's functions: the law. Conditions: none.
  Arguments that are structs and slices of integers and bools, nested: what they read as. Conditions: none; nothing here speaks of one program.
  What is handed on alone reads behind the call as it read before. Conditions: none; nothing here speaks of one program.
  'CanonTellsSaid': for every input exchequerlaw27.CanonTells returns true; the input reads as it did. Conditions: none but the given ones.
-/
import Derived.Test.YtlbbkmcegbeckaaSnY
import Derived.Test.YtlbbkmcegbeckaaSzS
import Derived.ChangeFn
import Derived.WideFn
import Derived.ChangeSame
import Derived.RowKit3
import Derived.ChangeReads
import Derived.ChangeOld
import Derived.ReadAgain
import Derived.WalkKit
import Derived.ProofKit
import Derived.OpenShut
set_option linter.unusedSectionVars false
set_option linter.unusedVariables false
set_option linter.unusedSimpArgs false
namespace Go.Proofs.Ytlbbkmcegbeckaa.Cn
open Go.Sx Go.Proofs
noncomputable def SHave (s : Int) : Fsp := ⟨[(false, [sI]), (false, [sI])], [], [(true, sEnt)], [([], [[.var 0, .var 1, I s]])], true⟩
noncomputable def SHave1 : Fsp := SHave 1
noncomputable def SHave4 : Fsp := SHave 4
def r92_v : List VC := []
def r92_o : List (List X × List (List X)) := [([(.ap .le [mnX, (.var 0)]), (.ap .le [(.var 0), mxX]), (.ap .le [mnX, (.var 1)]), (.ap .le [(.var 1), mxX])], [[(.var 0), (.var 1), (I 1)]])]
theorem r92_eq : runS Try.prog (specO T0) 10 4 noH Try.f92 (bodyOf Try.f92) SHave1 = some (r92_v, r92_o) := by kernel_rfl
set_option maxHeartbeats 4000000 in
set_option maxRecDepth 100000 in
theorem c92 : SpecOK U Try.prog 92 SHave1 := by
 refine SpecOK.of (P := Try.prog) (U := U) (T := T0) (f := 92) (fn := Try.f92) (fuel := 10) (fk := 4) (hs := noH) (S := SHave1) (v := r92_v) (outs := r92_o) mixed hT0 at92 r92_eq ?_ ?_
 ·unfold r92_v
  repeat' (first | exact vcs_nil _ | refine vcs_cons (fun v hh => ?_) ?_)
  all_goals
   simp only [w_var, w_lit, w_ivi, w_bvb, b_le, w_usr, w_l0, w_l1, w_vint, w_vbool, w_tru, w_holds0, w_holds1, w_rows, w_nilb, mnX, mxX, l1_inj] at hh ⊢
   repeat (obtain ⟨_, hh⟩ := hh)
   try (first | grind [= w_vint])
 ·intro o ho σ hU hh
  obtain ⟨v⟩ := σ
  cases hU
  simp only [r92_o, List.mem_cons, List.not_mem_nil, or_false] at ho
  repeat' (first | (rcases ho with rfl | ho) | subst ho)
  all_goals
   refine ⟨_, List.mem_cons_self .., by simp only [w_var, w_lit, w_ivi, w_bvb, b_le, w_usr, w_l0, w_l1, w_vint, w_vbool, w_tru, w_holds0, w_holds1, w_rows, w_nilb], ?_⟩
   simp only [w_var, w_lit, w_ivi, w_bvb, b_le, w_usr, w_l0, w_l1, w_vint, w_vbool, w_tru, w_holds0, w_holds1, w_rows, w_nilb, mnX, mxX, l1_inj] at hh
   simp only [List.map_cons, List.map_nil, w_var, w_lit, w_ivi, w_bvb, b_le, w_usr, w_l0, w_l1, w_vint, w_vbool, w_tru, w_holds0, w_holds1, w_rows, w_nilb, w_le, mnX, mxX, l1_inj]
   repeat (obtain ⟨_, hh⟩ := hh)
   try (first | grind [= w_vint])
def r93_v : List VC := []
def r93_o : List (List X × List (List X)) := [([(.ap .le [mnX, (.var 0)]), (.ap .le [(.var 0), mxX]), (.ap .le [mnX, (.var 1)]), (.ap .le [(.var 1), mxX])], [[(.var 0), (.var 1), (I 4)]])]
theorem r93_eq : runS Try.prog (specO T0) 10 4 noH Try.f93 (bodyOf Try.f93) SHave4 = some (r93_v, r93_o) := by kernel_rfl
set_option maxHeartbeats 4000000 in
set_option maxRecDepth 100000 in
theorem c93 : SpecOK U Try.prog 93 SHave4 := by
 refine SpecOK.of (P := Try.prog) (U := U) (T := T0) (f := 93) (fn := Try.f93) (fuel := 10) (fk := 4) (hs := noH) (S := SHave4) (v := r93_v) (outs := r93_o) mixed hT0 at93 r93_eq ?_ ?_
 ·unfold r93_v
  repeat' (first | exact vcs_nil _ | refine vcs_cons (fun v hh => ?_) ?_)
  all_goals
   simp only [w_var, w_lit, w_ivi, w_bvb, b_le, w_usr, w_l0, w_l1, w_vint, w_vbool, w_tru, w_holds0, w_holds1, w_rows, w_nilb, mnX, mxX, l1_inj] at hh ⊢
   repeat (obtain ⟨_, hh⟩ := hh)
   try (first | grind [= w_vint])
 ·intro o ho σ hU hh
  obtain ⟨v⟩ := σ
  cases hU
  simp only [r93_o, List.mem_cons, List.not_mem_nil, or_false] at ho
  repeat' (first | (rcases ho with rfl | ho) | subst ho)
  all_goals
   refine ⟨_, List.mem_cons_self .., by simp only [w_var, w_lit, w_ivi, w_bvb, b_le, w_usr, w_l0, w_l1, w_vint, w_vbool, w_tru, w_holds0, w_holds1, w_rows, w_nilb], ?_⟩
   simp only [w_var, w_lit, w_ivi, w_bvb, b_le, w_usr, w_l0, w_l1, w_vint, w_vbool, w_tru, w_holds0, w_holds1, w_rows, w_nilb, mnX, mxX, l1_inj] at hh
   simp only [List.map_cons, List.map_nil, w_var, w_lit, w_ivi, w_bvb, b_le, w_usr, w_l0, w_l1, w_vint, w_vbool, w_tru, w_holds0, w_holds1, w_rows, w_nilb, w_le, mnX, mxX, l1_inj]
   repeat (obtain ⟨_, hh⟩ := hh)
   try (first | grind [= w_vint])
def exX (s : Int) : X := .ap .snoc [.ap .snoc [.ap (.nil false) [], I 0, I 1, I 2, I 1, .ap .snoc [.ap .snoc [.ap (.nil false) [], I 1, I 1, I 1], I 2, I 1, I s]], I 1, I 1, I 1, I 1, .ap .snoc [.ap (.nil false) [], I 1, I 1, I 1]]
noncomputable def T8 : List (FuncId × Fsp) := [(92, SHave1), (93, SHave4), (32, SCho), (36, S36)]
set_option maxRecDepth 100000 in
theorem hT8 : TabOK U Try.prog T8 := .cons c92 (.cons c93 (.cons c32 (.cons c36 .nil)))
noncomputable def inlTwo : List (FuncId × Inl) := [(91, ⟨Try.f91, noH⟩)]
set_option maxRecDepth 100000 in
theorem hInlTwo : InlsOK U Try.prog inlTwo := .cons (.of at91 (by kernel_rfl)) .nil
noncomputable def SAwake : Fsp := ⟨[], [], [(false, [.bool])], [([], [[.lit (.bool true)]])], true⟩
noncomputable def asEx (s : Int) : Fm → HP → List X := fun F H => [.ap .le [.ap .len [exX s], I 10], .ap .not [.ap (.usr 119) [exX s]]]
noncomputable def exV (s : Int) : CD := .sl false [[i0 0, i0 1, i0 2, i0 1, .sl false [[i0 1, i0 1, i0 1], [i0 2, i0 1, i0 s]]], [i0 1, i0 1, i0 1, i0 1, .sl false [[i0 1, i0 1, i0 1]]]]
theorem exX_den [Sg] (s : Int) : den (exX s) = exV s := rfl
theorem ex_err1 : errOf (exV 1) (vInt .i64 3) = 0 := by kernel_rfl
theorem ex_err4 : errOf (exV 4) (vInt .i64 3) = 14 := by kernel_rfl
theorem ex_end : endOp (exV 1) = 2 := by kernel_rfl
theorem ex_com : commit (exV 1) = 1 := by kernel_rfl
theorem ex_heads : heads (exV 1) = [[i0 1, i0 1], [i0 2, i0 1]] := by kernel_rfl
theorem ex_len1 : (exV 1).len = 2 := by kernel_rfl
theorem ex_len4 : (exV 4).len = 2 := by kernel_rfl
theorem ex_lg1 : large (exV 1) = false := by kernel_rfl
theorem ex_lg4 : large (exV 4) = false := by kernel_rfl
theorem iteT {α : Type} (a b : α) : (if True then a else b) = a := if_pos trivial
theorem ex_logs : allS eqH [[vInt .i64 1, vInt .i64 1], [vInt .i64 2, vInt .i64 1]] ([] ++ [[vInt .i64 1, vInt .i64 1]] ++ [[vInt .i64 2, vInt .i64 1]]) = true := rfl
abbrev r43_h0 : List X := [(.ap .le [mnX, (.ap (.usr 151) [(exX 1), (I 3)])]), (.ap .le [(.ap (.usr 151) [(exX 1), (I 3)]), mxX]), (.ap .le [mnX, (.ap (.usr 152) [(exX 1), (I 3)])]), (.ap .le [(.ap (.usr 152) [(exX 1), (I 3)]), mxX]), (.ap (.typ (.sl sHead)) [(.ap (.usr 153) [(exX 1), (I 3)])]), (.ap .le [mnX, (.ap (.usr 150) [(exX 1), (I 3)])]), (.ap .le [(.ap (.usr 150) [(exX 1), (I 3)]), mxX]), (.ap .le [(.ap .len [(exX 1)]), (I 10)]), (.ap .not [(.ap (.usr 119) [(exX 1)])])]
abbrev r43_h1 : List X := (.ap .le [mnX, (.ap (.usr 151) [(exX 4), (I 3)])]) :: (.ap .le [(.ap (.usr 151) [(exX 4), (I 3)]), mxX]) :: (.ap .le [mnX, (.ap (.usr 152) [(exX 4), (I 3)])]) :: (.ap .le [(.ap (.usr 152) [(exX 4), (I 3)]), mxX]) :: (.ap (.typ (.sl sHead)) [(.ap (.usr 153) [(exX 4), (I 3)])]) :: (.ap .le [mnX, (.ap (.usr 150) [(exX 4), (I 3)])]) :: (.ap .le [(.ap (.usr 150) [(exX 4), (I 3)]), mxX]) :: (.ap .le [(.ap .len [(exX 4)]), (I 10)]) :: (.ap .not [(.ap (.usr 119) [(exX 4)])]) :: r43_h0
def r43_v : List VC := [([], (.ap .le [(.ap .len [(exX 1)]), (I 10)])),
 ([], (.ap .not [(.ap (.usr 119) [(exX 1)])])),
 (r43_h0, (.ap .le [(.ap .len [(exX 4)]), (I 10)])),
 (r43_h0, (.ap .not [(.ap (.usr 119) [(exX 4)])]))]
def r43_o : List (List X × List (List X)) := [(((.ap (.usr 131) [(.ap (.usr 151) [(exX 1), (I 3)]), (.ap (.usr 152) [(exX 1), (I 3)]), (.ap (.usr 153) [(exX 1), (I 3)]), (I 2), (I 1), (.ap .snoc [(.ap .snoc [(.ap (.nil false) []), (I 1), (I 1)]), (I 2), (I 1)])]) :: (.ap .eq [(.ap (.usr 150) [(exX 1), (I 3)]), (I 0)]) :: r43_h1), [[(.ap .eq [(.ap (.usr 150) [(exX 4), (I 3)]), (I 14)])]]),
 (((.ap .not [(.ap (.usr 131) [(.ap (.usr 151) [(exX 1), (I 3)]), (.ap (.usr 152) [(exX 1), (I 3)]), (.ap (.usr 153) [(exX 1), (I 3)]), (I 2), (I 1), (.ap .snoc [(.ap .snoc [(.ap (.nil false) []), (I 1), (I 1)]), (I 2), (I 1)])])]) :: (.ap .eq [(.ap (.usr 150) [(exX 1), (I 3)]), (I 0)]) :: r43_h1), [[(.lit (.bool false))]]),
 (((.ap .not [(.ap .eq [(.ap (.usr 150) [(exX 1), (I 3)]), (I 0)])]) :: r43_h1), [[(.lit (.bool false))]])]
theorem r43_eq : runV Try.prog (cxOf Try.prog (specO (tab T8)) 10 8 ⟨lookI inlTwo, noY, U.lc⟩ 2 43) ⟨hintL [], hintA [(1, asEx 1), (2, asEx 4)]⟩ Try.f43 (bodyOf Try.f43) SAwake = some (r43_v, r43_o) := by kernel_rfl
set_option maxHeartbeats 4000000 in
set_option maxRecDepth 100000 in
theorem c43 : SpecOK U Try.prog 43 SAwake := by
 refine SpecOK.ofV (P := Try.prog) (U := U) (T := (tab T8)) (l := inlTwo) (y := noY) (dp := 2) (f := 43) (fn := Try.f43) (fuel := 10) (fk := 8) (hs := ⟨hintL [], hintA [(1, asEx 1), (2, asEx 4)]⟩) (S := SAwake) (v := r43_v) (outs := r43_o) mixed hT8 hInlTwo at43 (rangesIn_nil (by kernel_rfl)) r43_eq ?_ ?_
 ·unfold r43_v
  repeat' (first | exact vcs_nil _ | refine vcs_cons (fun v hh => ?_) ?_)
  all_goals
   simp only [w_var, w_lit, w_ivi, w_bvb, b_le, b_eq, b_not, b_typ, w_len, w_nil, w_snoc, w_usr, w_l0, w_l1, w_vint, w_vbool, w_tru, w_holds0, w_holds1, w_rows, w_nilb, us119, us131, us150, us151, us152, us153, mnX, mxX, l1_inj, exX_den, vi_lit, vb_lit, ex_err1, ex_err4, ex_end, ex_com, ex_heads, ex_len1, ex_len4, ex_lg1, ex_lg4, vInt_inj, vBool_inj, iteT, eqC_vint, mkz_rows, ex_logs, r43_h0, r43_h1] at hh ⊢
   repeat (obtain ⟨_, hh⟩ := hh)
   try (first | grind [= w_vint])
 ·intro o ho σ hU hh
  obtain ⟨v⟩ := σ
  cases hU
  simp only [r43_o, List.mem_cons, List.not_mem_nil, or_false] at ho
  repeat' (first | (rcases ho with rfl | ho) | subst ho)
  all_goals
   refine ⟨_, List.mem_cons_self .., by simp only [w_var, w_lit, w_ivi, w_bvb, b_le, b_eq, b_not, b_typ, w_len, w_nil, w_snoc, w_usr, w_l0, w_l1, w_vint, w_vbool, w_tru, w_holds0, w_holds1, w_rows, w_nilb], ?_⟩
   simp only [w_var, w_lit, w_ivi, w_bvb, b_le, b_eq, b_not, b_typ, w_len, w_nil, w_snoc, w_usr, w_l0, w_l1, w_vint, w_vbool, w_tru, w_holds0, w_holds1, w_rows, w_nilb, us119, us131, us150, us151, us152, us153, mnX, mxX, l1_inj, exX_den, vi_lit, vb_lit, ex_err1, ex_err4, ex_end, ex_com, ex_heads, ex_len1, ex_len4, ex_lg1, ex_lg4, vInt_inj, vBool_inj, iteT, eqC_vint, mkz_rows, ex_logs, r43_h0, r43_h1] at hh
   simp only [List.map_cons, List.map_nil, w_var, w_lit, w_ivi, w_bvb, b_le, b_eq, b_not, b_typ, w_len, w_nil, w_snoc, w_usr, w_l0, w_l1, w_vint, w_vbool, w_tru, w_holds0, w_holds1, w_rows, w_nilb, w_le, w_eq, w_not, w_typ, us119, us131, us150, us151, us152, us153, mnX, mxX, l1_inj, exX_den, vi_lit, vb_lit, ex_err1, ex_err4, ex_end, ex_com, ex_heads, ex_len1, ex_len4, ex_lg1, ex_lg4, vInt_inj, vBool_inj, iteT, eqC_vint, mkz_rows, ex_logs]
   repeat (obtain ⟨_, hh⟩ := hh)
   try (first | grind [= w_vint])
end Go.Proofs.Ytlbbkmcegbeckaa.Cn

set_option linter.unusedSectionVars false
set_option linter.unusedVariables false
set_option linter.unusedSimpArgs false
namespace Go.Proofs.Ytlbbkmcegbeckaa.Cn
open Go.Sx Go.Proofs
noncomputable def T9 : List (FuncId × Fsp) := [(30, S30), (31, S31), (32, SCho), (33, SCho), (34, SCheck), (35, SCheck), (36, S36), (37, SDen), (38, SDen), (39, S39), (40, SHas), (41, SHas), (42, S42), (43, SAwake)]
set_option maxRecDepth 100000 in
theorem hT9 : TabOK U Try.prog T9 := .cons c30 (.cons c31 (.cons c32 (.cons c33 (.cons c34 (.cons c35 (.cons c36 (.cons c37 (.cons c38 (.cons c39 (.cons c40 (.cons c41 (.cons c42 (.cons c43 .nil)))))))))))))
noncomputable def STells : Fsp := ⟨[(false, [sVotes]), (false, [sI]), (false, [sI]), (false, [sI])], [], [(false, [.bool])], [([], [[.lit (.bool true)]])], true⟩
theorem heads_if {l n : CD} : allS eqH (if errOf l n = 0 then heads l else []) (if errOf l n = 0 then heads l else []) = true := by
 split
 ·exact heads_self
 ·rfl
noncomputable def cpX : X := .ap (.usr 129) [.var 0]
abbrev r5_h0 : List X := [(.ap (.typ sVotes) [(.var 0)]), (.ap .le [mnX, (.var 1)]), (.ap .le [(.var 1), mxX]), (.ap .le [mnX, (.var 2)]), (.ap .le [(.var 2), mxX]), (.ap .le [mnX, (.var 3)]), (.ap .le [(.var 3), mxX])]
abbrev r5_h1 : List X := (.ap (.typ sVotes) [(.ap (.usr 129) [(.var 0)])]) :: (.ap .le [(.ap .len [(.var 0)]), (I 10)]) :: (.ap .not [(.ap (.usr 119) [(.var 0)])]) :: (.ap .not [(.ap (.usr 127) [(.var 0)])]) :: r5_h0
abbrev r5_h2 : List X := (.ap .le [mnX, (.ap (.usr 151) [(.var 0), (.var 1)])]) :: (.ap .le [(.ap (.usr 151) [(.var 0), (.var 1)]), mxX]) :: (.ap .le [mnX, (.ap (.usr 152) [(.var 0), (.var 1)])]) :: (.ap .le [(.ap (.usr 152) [(.var 0), (.var 1)]), mxX]) :: (.ap (.typ (.sl sHead)) [(.ap (.usr 153) [(.var 0), (.var 1)])]) :: (.ap .le [mnX, (.ap (.usr 150) [(.var 0), (.var 1)])]) :: (.ap .le [(.ap (.usr 150) [(.var 0), (.var 1)]), mxX]) :: (.ap .le [mnX, (.ap (.usr 151) [(.ap (.usr 129) [(.var 0)]), (.var 1)])]) :: (.ap .le [(.ap (.usr 151) [(.ap (.usr 129) [(.var 0)]), (.var 1)]), mxX]) :: (.ap .le [mnX, (.ap (.usr 152) [(.ap (.usr 129) [(.var 0)]), (.var 1)])]) :: (.ap .le [(.ap (.usr 152) [(.ap (.usr 129) [(.var 0)]), (.var 1)]), mxX]) :: (.ap (.typ (.sl sHead)) [(.ap (.usr 153) [(.ap (.usr 129) [(.var 0)]), (.var 1)])]) :: (.ap .le [mnX, (.ap (.usr 150) [(.ap (.usr 129) [(.var 0)]), (.var 1)])]) :: (.ap .le [(.ap (.usr 150) [(.ap (.usr 129) [(.var 0)]), (.var 1)]), mxX]) :: (.ap .le [(.ap .len [(.ap (.usr 129) [(.var 0)])]), (I 10)]) :: (.ap .not [(.ap (.usr 119) [(.ap (.usr 129) [(.var 0)])])]) :: r5_h1
abbrev r5_h3 : List X := (.ap (.usr 131) [(.ap (.usr 151) [(.ap (.usr 129) [(.var 0)]), (.var 1)]), (.ap (.usr 152) [(.ap (.usr 129) [(.var 0)]), (.var 1)]), (.ap (.usr 153) [(.ap (.usr 129) [(.var 0)]), (.var 1)]), (.ap (.usr 151) [(.var 0), (.var 1)]), (.ap (.usr 152) [(.var 0), (.var 1)]), (.ap (.usr 153) [(.var 0), (.var 1)])]) :: (.ap .eq [(.ap (.usr 150) [(.ap (.usr 129) [(.var 0)]), (.var 1)]), (.ap (.usr 150) [(.var 0), (.var 1)])]) :: (.ap .eq [(.ap (.usr 123) [(.ap (.usr 129) [(.var 0)]), (.var 1)]), (.ap (.usr 123) [(.var 0), (.var 1)])]) :: r5_h2
abbrev r5_h4 : List X := (.ap (.typ (.sl [sI])) [(.ap (.usr 109) [(.var 2), (.var 3), (.var 0)])]) :: (.ap (.typ (.sl [sI])) [(.ap (.usr 109) [(.var 2), (.var 3), (.ap (.usr 129) [(.var 0)])])]) :: (.ap .le [mnX, (.ap (.usr 107) [(.var 2), (.var 3), (.var 0)])]) :: (.ap .le [(.ap (.usr 107) [(.var 2), (.var 3), (.var 0)]), mxX]) :: (.ap .le [mnX, (.ap (.usr 107) [(.var 2), (.var 3), (.ap (.usr 129) [(.var 0)])])]) :: (.ap .le [(.ap (.usr 107) [(.var 2), (.var 3), (.ap (.usr 129) [(.var 0)])]), mxX]) :: (.ap .le [mnX, (.ap (.usr 123) [(.var 0), (.var 1)])]) :: (.ap .le [(.ap (.usr 123) [(.var 0), (.var 1)]), mxX]) :: (.ap .le [mnX, (.ap (.usr 123) [(.ap (.usr 129) [(.var 0)]), (.var 1)])]) :: (.ap .le [(.ap (.usr 123) [(.ap (.usr 129) [(.var 0)]), (.var 1)]), mxX]) :: (.ap .eq [(.ap (.usr 107) [(.var 2), (.var 3), (.ap (.usr 129) [(.var 0)])]), (.ap (.usr 107) [(.var 2), (.var 3), (.var 0)])]) :: r5_h3
def r5_v : List VC := [(((.ap .not [(.ap (.usr 127) [(.var 0)])]) :: r5_h0), (.ap .le [(.ap .len [(.var 0)]), (I 10)])),
 (((.ap .not [(.ap (.usr 127) [(.var 0)])]) :: r5_h0), (.ap .not [(.ap (.usr 119) [(.var 0)])])),
 (r5_h1, (.ap .le [(.ap .len [(.ap (.usr 129) [(.var 0)])]), (I 10)])),
 (r5_h1, (.ap .not [(.ap (.usr 119) [(.ap (.usr 129) [(.var 0)])])]))]
def r5_o : List (List X × List (List X)) := [(((.ap (.usr 127) [(.var 0)]) :: r5_h0), [[(.lit (.bool true))]]),
 (((.ap .le [mnX, (.ap (.usr 123) [(.var 0), (.var 1)])]) :: (.ap .le [(.ap (.usr 123) [(.var 0), (.var 1)]), mxX]) :: (.ap .le [mnX, (.ap (.usr 123) [(.ap (.usr 129) [(.var 0)]), (.var 1)])]) :: (.ap .le [(.ap (.usr 123) [(.ap (.usr 129) [(.var 0)]), (.var 1)]), mxX]) :: (.ap .not [(.ap .eq [(.ap (.usr 123) [(.ap (.usr 129) [(.var 0)]), (.var 1)]), (.ap (.usr 123) [(.var 0), (.var 1)])])]) :: r5_h2), [[(.lit (.bool false))]]),
 (((.ap .le [mnX, (.ap (.usr 123) [(.var 0), (.var 1)])]) :: (.ap .le [(.ap (.usr 123) [(.var 0), (.var 1)]), mxX]) :: (.ap .le [mnX, (.ap (.usr 123) [(.ap (.usr 129) [(.var 0)]), (.var 1)])]) :: (.ap .le [(.ap (.usr 123) [(.ap (.usr 129) [(.var 0)]), (.var 1)]), mxX]) :: (.ap .not [(.ap .eq [(.ap (.usr 150) [(.ap (.usr 129) [(.var 0)]), (.var 1)]), (.ap (.usr 150) [(.var 0), (.var 1)])])]) :: (.ap .eq [(.ap (.usr 123) [(.ap (.usr 129) [(.var 0)]), (.var 1)]), (.ap (.usr 123) [(.var 0), (.var 1)])]) :: r5_h2), [[(.lit (.bool false))]]),
 (((.ap .le [mnX, (.ap (.usr 123) [(.var 0), (.var 1)])]) :: (.ap .le [(.ap (.usr 123) [(.var 0), (.var 1)]), mxX]) :: (.ap .le [mnX, (.ap (.usr 123) [(.ap (.usr 129) [(.var 0)]), (.var 1)])]) :: (.ap .le [(.ap (.usr 123) [(.ap (.usr 129) [(.var 0)]), (.var 1)]), mxX]) :: (.ap .not [(.ap (.usr 131) [(.ap (.usr 151) [(.ap (.usr 129) [(.var 0)]), (.var 1)]), (.ap (.usr 152) [(.ap (.usr 129) [(.var 0)]), (.var 1)]), (.ap (.usr 153) [(.ap (.usr 129) [(.var 0)]), (.var 1)]), (.ap (.usr 151) [(.var 0), (.var 1)]), (.ap (.usr 152) [(.var 0), (.var 1)]), (.ap (.usr 153) [(.var 0), (.var 1)])])]) :: (.ap .eq [(.ap (.usr 150) [(.ap (.usr 129) [(.var 0)]), (.var 1)]), (.ap (.usr 150) [(.var 0), (.var 1)])]) :: (.ap .eq [(.ap (.usr 123) [(.ap (.usr 129) [(.var 0)]), (.var 1)]), (.ap (.usr 123) [(.var 0), (.var 1)])]) :: r5_h2), [[(.lit (.bool false))]]),
 (((.ap .le [mnX, (.ap (.usr 107) [(.var 2), (.var 3), (.var 0)])]) :: (.ap .le [(.ap (.usr 107) [(.var 2), (.var 3), (.var 0)]), mxX]) :: (.ap .le [mnX, (.ap (.usr 107) [(.var 2), (.var 3), (.ap (.usr 129) [(.var 0)])])]) :: (.ap .le [(.ap (.usr 107) [(.var 2), (.var 3), (.ap (.usr 129) [(.var 0)])]), mxX]) :: (.ap .le [mnX, (.ap (.usr 123) [(.var 0), (.var 1)])]) :: (.ap .le [(.ap (.usr 123) [(.var 0), (.var 1)]), mxX]) :: (.ap .le [mnX, (.ap (.usr 123) [(.ap (.usr 129) [(.var 0)]), (.var 1)])]) :: (.ap .le [(.ap (.usr 123) [(.ap (.usr 129) [(.var 0)]), (.var 1)]), mxX]) :: (.ap .not [(.ap .eq [(.ap (.usr 107) [(.var 2), (.var 3), (.ap (.usr 129) [(.var 0)])]), (.ap (.usr 107) [(.var 2), (.var 3), (.var 0)])])]) :: r5_h3), [[(.lit (.bool false))]]),
 (((.ap .not [(.ap (.usr 133) [(.ap (.usr 109) [(.var 2), (.var 3), (.ap (.usr 129) [(.var 0)])]), (.ap (.usr 109) [(.var 2), (.var 3), (.var 0)])])]) :: r5_h4), [[(.lit (.bool false))]]),
 (((.ap (.usr 135) [(.ap (.usr 129) [(.var 0)]), (.var 0)]) :: (.ap (.usr 133) [(.ap (.usr 109) [(.var 2), (.var 3), (.ap (.usr 129) [(.var 0)])]), (.ap (.usr 109) [(.var 2), (.var 3), (.var 0)])]) :: r5_h4), [[(.lit (.bool true))]]),
 (((.ap .not [(.ap (.usr 135) [(.ap (.usr 129) [(.var 0)]), (.var 0)])]) :: (.ap (.usr 133) [(.ap (.usr 109) [(.var 2), (.var 3), (.ap (.usr 129) [(.var 0)])]), (.ap (.usr 109) [(.var 2), (.var 3), (.var 0)])]) :: r5_h4), [[(.lit (.bool false))]])]
theorem r5_eq : runS Try.prog (specO (tab T9)) 10 12 ⟨hintL [], hintA [(3, fun F H => [.ap .le [.ap .len [.var 0], I 10], .ap .not [.ap (.usr 119) [.var 0]]]), (4, fun F H => [.ap .le [.ap .len [cpX], I 10], .ap .not [.ap (.usr 119) [cpX]]])]⟩ Try.f5 (bodyOf Try.f5) STells = some (r5_v, r5_o) := by kernel_rfl
set_option maxHeartbeats 4000000 in
set_option maxRecDepth 100000 in
theorem c5 : SpecOK U Try.prog 5 STells := by
 refine SpecOK.of (P := Try.prog) (U := U) (T := (tab T9)) (f := 5) (fn := Try.f5) (fuel := 10) (fk := 12) (hs := ⟨hintL [], hintA [(3, fun F H => [.ap .le [.ap .len [.var 0], I 10], .ap .not [.ap (.usr 119) [.var 0]]]), (4, fun F H => [.ap .le [.ap .len [cpX], I 10], .ap .not [.ap (.usr 119) [cpX]]])]⟩) (S := STells) (v := r5_v) (outs := r5_o) mixed hT9 at5 r5_eq ?_ ?_
 ·unfold r5_v
  repeat' (first | exact vcs_nil _ | refine vcs_cons (fun v hh => ?_) ?_)
  all_goals
   simp only [w_var, w_lit, w_ivi, w_bvb, b_le, b_eq, b_not, b_typ, w_len, w_usr, w_l0, w_l1, w_vint, w_vbool, w_tru, w_holds0, w_holds1, w_rows, w_nilb, us107, us109, us119, us123, us127, us129, us131, us133, us135, us150, us151, us152, us153, mnX, mxX, l1_inj, vInt_inj, vBool_inj, cp_fold, cp_len, cp_large, cp_okVs, cp_err, cp_end, cp_commit, cp_heads, cp_denF, cp_hasF, mkz_rows, eqC_vint, heads_if, vi_lit, vb_lit, cp_rows, r5_h0, r5_h1, r5_h2, r5_h3, r5_h4] at hh ⊢
   repeat (obtain ⟨_, hh⟩ := hh)
   try (first | grind [cp_same, has_self, = w_vint])
 ·intro o ho σ hU hh
  obtain ⟨v⟩ := σ
  cases hU
  simp only [r5_o, List.mem_cons, List.not_mem_nil, or_false] at ho
  repeat' (first | (rcases ho with rfl | ho) | subst ho)
  all_goals
   refine ⟨_, List.mem_cons_self .., by simp only [w_var, w_lit, w_ivi, w_bvb, b_le, b_eq, b_not, b_typ, w_len, w_usr, w_l0, w_l1, w_vint, w_vbool, w_tru, w_holds0, w_holds1, w_rows, w_nilb], ?_⟩
   simp only [w_var, w_lit, w_ivi, w_bvb, b_le, b_eq, b_not, b_typ, w_len, w_usr, w_l0, w_l1, w_vint, w_vbool, w_tru, w_holds0, w_holds1, w_rows, w_nilb, us107, us109, us119, us123, us127, us129, us131, us133, us135, us150, us151, us152, us153, mnX, mxX, l1_inj, vInt_inj, vBool_inj, cp_fold, cp_len, cp_large, cp_okVs, cp_err, cp_end, cp_commit, cp_heads, cp_denF, cp_hasF, mkz_rows, eqC_vint, heads_if, vi_lit, vb_lit, cp_rows, r5_h0, r5_h1, r5_h2, r5_h3, r5_h4] at hh
   simp only [List.map_cons, List.map_nil, w_var, w_lit, w_ivi, w_bvb, b_le, b_eq, b_not, b_typ, w_len, w_usr, w_l0, w_l1, w_vint, w_vbool, w_tru, w_holds0, w_holds1, w_rows, w_nilb, w_le, w_eq, w_not, w_typ, us107, us109, us119, us123, us127, us129, us131, us133, us135, us150, us151, us152, us153, mnX, mxX, l1_inj, vInt_inj, vBool_inj, cp_fold, cp_len, cp_large, cp_okVs, cp_err, cp_end, cp_commit, cp_heads, cp_denF, cp_hasF, mkz_rows, eqC_vint, heads_if, vi_lit, vb_lit, cp_rows]
   repeat (obtain ⟨_, hh⟩ := hh)
   try (first | grind [cp_same, has_self, = w_vint])
end Go.Proofs.Ytlbbkmcegbeckaa.Cn

set_option linter.unusedSimpArgs false
set_option linter.unusedVariables false
set_option linter.unusedSectionVars false
namespace Go.Sx
open Go.ChangeShapes Go.WideShapes
variable {P : Program}
def srtPs (P : Program) (rec : TypeId → Option (List Srt)) : Nat → List Field → Option (List Srt)
 | _, [] => some []
 | off, f :: fs => match rec f.type with
  | some ks => if f.offset = off ∧ P.cellsOf f.type = ks.length then (srtPs P rec (off + ks.length) fs).map (ks ++ ·) else none
  | none => none
def srtP (P : Program) : Nat → TypeId → Option (List Srt)
 | 0, _ => none
 | n + 1, t => match P.underlying t with
  | some (.int k) => some [.int k]
  | some (.slice e) => match srtP P n e with
   | some ws => if P.cellsOf e = ws.length ∧ 0 < ws.length then some [.sl ws] else none
   | none => none
  | some (.struct fs) => match srtPs P (srtP P n) 0 fs.toList with
   | some ks => if P.cellsOf t = ks.length then some ks else none
   | none => none
  | _ => none
def memW (W : World) : Mem := fun k o => W.heap[k]? = some o
def HasS (m : Mem) (ss : List Srt) (cs : List Value) : Prop := cs.length = ss.length ∧ ∃ ds, RSs m ss ds fun j => cs[j]?
theorem rss_append {m : Mem} : ∀ {ss ss' : List Srt} {ds ds' : List CD} {cs cs' : List Value}, cs.length = ss.length → RSs m ss ds (fun j => cs[j]?) → RSs m ss' ds' (fun j => cs'[j]?) → RSs m (ss ++ ss') (ds ++ ds') fun j => (cs ++ cs')[j]?
 | [], ss', ds, ds', cs, cs', hl, h, h' => by
  have h : ds = [] := h
  have : cs = [] := List.length_eq_zero_iff.1 hl
  subst h
  subst this
  exact h'
 | s :: ss, ss', ds, ds', [], cs', hl, h, h' => by simp at hl
 | s :: ss, ss', ds, ds', c :: cs, cs', hl, h, h' => by
  obtain ⟨d, r, u, rfl, h1, h2, h3⟩ := h
  refine ⟨d, r ++ ds', u, rfl, h1, h2, ?_⟩
  have h3' : RSs m ss r fun j => cs[j]? := h3.congr fun j _ => by simp
  have := rss_append (by simpa using hl) h3' h'
  exact this.congr fun j _ => by simp
theorem HasS.append {m : Mem} {ss ss' : List Srt} {cs cs' : List Value} (h : HasS m ss cs) (h' : HasS m ss' cs') : HasS m (ss ++ ss') (cs ++ cs') := by
 obtain ⟨h1, ds, h2⟩ := h
 obtain ⟨h3, ds', h4⟩ := h'
 exact ⟨by simp [h1, h3], ds ++ ds', rss_append h1 h2 h4⟩
theorem srtPs_cells {m : Mem} {rec : TypeId → Option (List Srt)} {cs : List Value} : ∀ (fs : List Field) {off : Nat} {ks : List Srt}, srtPs P rec off fs = some ks →
  (∀ f ∈ fs, ∀ ks', rec f.type = some ks' → HasS m ks' ((cs.drop f.offset).take (P.cellsOf f.type))) → HasS m ks ((cs.drop off).take ks.length)
 | [], off, ks, h, _ => by cases h; exact ⟨by simp, [], rfl⟩
 | f :: fs, off, ks, h, hr => by
  simp only [srtPs] at h
  cases hk : rec f.type with
  | none => rw [hk] at h; cases h
  | some k1 =>
   rw [hk] at h
   simp only at h
   split at h
   ·rename_i hc
    obtain ⟨k2, hk2, rfl⟩ := Option.map_eq_some_iff.1 h
    have h2 := srtPs_cells fs hk2 fun g hg => hr g (List.mem_cons_of_mem _ hg)
    have h1 := hr f (List.mem_cons_self ..) k1 hk
    rw [hc.1, hc.2] at h1
    have e : (cs.drop off).take (k1 ++ k2).length = (cs.drop off).take k1.length ++ (cs.drop (off + k1.length)).take k2.length := by
     rw [List.length_append, List.take_add, List.drop_drop]
    rw [e]
    exact h1.append h2
   ·cases h
theorem exists_list {α : Type} {Q : Nat → α → Prop} : ∀ (n : Nat), (∀ i, i < n → ∃ r, Q i r) → ∃ l : List α, l.length = n ∧ ∀ (i : Nat) (r : α), l[i]? = some r → Q i r
 | 0, _ => ⟨[], rfl, fun i r h => by simp at h⟩
 | n + 1, h => by
  obtain ⟨l, h1, h2⟩ := exists_list n fun i hi => h i (by omega)
  obtain ⟨r, hr⟩ := h n (by omega)
  refine ⟨l ++ [r], by simp [h1], fun i r' hi => ?_⟩
  rw [List.getElem?_append] at hi
  split at hi
  ·exact h2 i r' hi
  ·rename_i hlt
   have : i = n := by
    have := (List.getElem?_eq_some_iff.1 hi).1
    simp at this
    omega
   subst this
   rw [h1, Nat.sub_self] at hi
   cases hi
   exact hr
theorem spot_none {W : World} {a : Addr} {v : Value} (h : W.cell? a = some v) : ∃ b off arr t fr, a = ⟨b, off, none⟩ ∧ W.heap[b]? = some (.cells arr t fr) := by
 obtain ⟨b, off, sp⟩ := a
 unfold World.cell? at h
 simp only at h
 split at h
 ·rename_i c t fr hc
  cases sp with
  | none => exact ⟨b, off, c, t, fr, rfl, hc⟩
  | some _ => simp at h
 ·cases h
theorem mapM_mem {α β : Type} {g : α → Option β} : ∀ {l : List α} {xs : List β}, l.mapM g = some xs → ∀ a ∈ l, ∃ x ∈ xs, g a = some x
 | [], _, _, a, ha => by cases ha
 | b :: l, xs, h, a, ha => by
  simp only [List.mapM_cons, Option.bind_eq_bind, Option.bind_eq_some_iff, Option.pure_def, Option.some.injEq] at h
  obtain ⟨y, hy, ys, hys, rfl⟩ := h
  rcases List.mem_cons.1 ha with rfl | ha
  ·exact ⟨y, List.mem_cons_self .., hy⟩
  ·obtain ⟨x, hx, hgx⟩ := mapM_mem hys a ha
   exact ⟨x, List.mem_cons_of_mem _ hx, hgx⟩
section
variable {H : Type} {enc : TypeId × Value → H} {W : World} {base : Nat} {held : Bool}
theorem srt_trod : ∀ (n : Nat) {t : TypeId} {ks : List Srt}, srtP P n t = some ks → ∀ {fuel : Nat} {cs : List Value} {x : DataW H × List MemPlace}, DataW.trod enc P W base (fun _ => true) held fuel t cs = some x → HasS (memW W) ks cs
 | 0, _, _, h, _, _, _, _ => by cases h
 | n + 1, t, ks, h, fuel, cs, x, hx => by
  simp only [srtP] at h
  split at h
  ·rename_i k hu
   cases h
   cases fuel with
   | zero => simp [DataW.trod] at hx
   | succ m =>
    obtain ⟨i, rfl, rfl, hw⟩ := DataW.trod_int hu hx
    refine ⟨rfl, [.v (.int k i)], _, _, _, rfl, rfl, ⟨i, rfl, rfl, ?_⟩, rfl⟩
    simpa [Lit.wf, litOK] using hw
  ·rename_i e hu
   split at h
   ·rename_i ws hws
    split at h
    ·rename_i hc
     cases h
     rcases DataW.trod_slice hu hx with ⟨rfl, _⟩ | ⟨a, len, cap, elems, rest, m, _, rfl, rfl, hb, hl, hm, hlen, hel, hsp, _⟩
     ·exact ⟨rfl, [.sl true []], _, _, _, rfl, rfl, .inl ⟨rfl, rfl⟩, rfl⟩
     ·obtain ⟨hrl, hre⟩ := hsp rfl
      rw [hc.1] at hel hre
      have cell0 : 0 < cap → ∃ v, W.cell? a = some v := by
       intro hcap
       have key : ∀ y, ((W.cells? base (a.add 0) ws.length).bind (DataW.trod enc P W base (fun _ => true) held m e)) = some y → ∃ v, W.cell? a = some v := by
        intro y hy
        obtain ⟨cs', hcs, _⟩ := Option.bind_eq_some_iff.1 hy
        obtain ⟨_, h2, h3⟩ := World.cells?_some hcs
        have h4 := h3 0 hc.2
        rw [List.getElem?_eq_getElem (by omega)] at h4
        have e1 : (a.add 0).add 0 = a := by simp [Addr.add]
        rw [e1] at h4
        exact ⟨_, h4⟩
       by_cases h0 : 0 < len
       ·have := hel 0 h0
        rw [Nat.zero_mul, List.getElem?_eq_getElem (by omega)] at this
        exact key _ this
       ·have h0 : len = 0 := by omega
        have := hre 0 (by omega)
        rw [h0, Nat.zero_add, Nat.zero_mul, List.getElem?_eq_getElem (by omega)] at this
        exact key _ this
      by_cases hcap : cap = 0
      ·subst hcap
       have : len = 0 := by omega
       subst this
       exact ⟨rfl, [.sl false []], _, _, _, rfl, rfl, .inr (.inr ⟨a, rfl, rfl⟩), rfl⟩
      ·obtain ⟨v0, hv0⟩ := cell0 (by omega)
       obtain ⟨b, off, arr, tt, fr, rfl, harr⟩ := spot_none hv0
       have hcell : ∀ j, W.cell? ⟨b, j, none⟩ = arr[j]? := fun j => by unfold World.cell?; simp [harr]
       obtain ⟨rows, hr1, hr2⟩ := exists_list (Q := fun i r => RSs (memW W) ws r fun j => arr[off + i * ws.length + j]?) len fun i hi => by
        have h1 := hel i hi
        rw [List.getElem?_eq_getElem (by omega)] at h1
        obtain ⟨cs', hcs, hy⟩ := Option.bind_eq_some_iff.1 h1
        obtain ⟨_, h2, h3⟩ := World.cells?_some hcs
        obtain ⟨_, ds, hds⟩ := srt_trod n hws hy
        refine ⟨ds, hds.congr fun j hj => ?_⟩
        have h4 := h3 j hj
        have e1 : (Addr.add (Addr.add ⟨b, off, none⟩ (i * ws.length)) j) = ⟨b, off + i * ws.length + j, none⟩ := by
         rw [Addr.add_lit, Addr.add_lit]
        rw [e1, hcell] at h4
        exact h4
       refine ⟨rfl, [.sl false rows], _, _, _, rfl, rfl, .inr (.inl ⟨rows, b, off, cap, rfl, by rw [hr1], by rw [hr1]; exact hl, hm, fun _ => ⟨arr, tt, fr, harr, hr2⟩⟩), rfl⟩
    ·cases h
   ·cases h
  ·rename_i fs hu
   split at h
   ·rename_i ks' hks
    split at h
    ·rename_i hc
     cases h
     cases fuel with
     | zero => simp [DataW.trod] at hx
     | succ m =>
      have hx' := hx
      unfold DataW.trod at hx'
      rw [hu] at hx'
      have hl : cs.length = P.cellsOf t ∧ ∃ xs, fs.toList.mapM (fun f => DataW.trod enc P W base (fun _ => true) held m f.type ((cs.drop f.offset).take (P.cellsOf f.type))) = some xs := by
       obtain ⟨xs, n', hn, hx2, hl2, hlen, hget⟩ := DataW.trod_struct hu hx
       refine ⟨hl2, ?_⟩
       split at hx' <;> simp_all
       obtain ⟨a, h1, h2, h3⟩ := hx'
       exact ⟨a, h1⟩
      obtain ⟨hl, xs, hp⟩ := hl
      have := srtPs_cells (P := P) (cs := cs) fs.toList hks fun f hf k1 hk1 => by
        obtain ⟨y, _, hfy⟩ := mapM_mem hp f hf
        exact srt_trod n hk1 hfy
      rw [List.drop_zero, ← hc, ← hl, List.take_length] at this
      exact this
    ·cases h
   ·cases h
  ·cases h
end
end Go.Sx

set_option linter.unusedSimpArgs false
set_option linter.unusedSectionVars false
set_option linter.unusedVariables false
namespace Go.Sx
open Go.WideShapes Go.ChangeShapes
theorem keptBut_of_old {W W' : World} (hk : ∀ k, k < W.heap.size → W'.heap[k]? = W.heap[k]?) (hos : W'.os = W.os) (hout : W'.output = W.output) (may : MemPlace → Prop) : W.keptBut W' may :=
 ⟨hos, hout, fun i hi => by rw [hk i hi]; exact (World.keptBut_refl W may).2.2 i hi⟩
theorem frozen_of_old {W W' : World} (hk : ∀ k, k < W.heap.size → W'.heap[k]? = W.heap[k]?) {a : Addr} (ha : a.block < W.heap.size) : W'.frozen? a = W.frozen? a := by
 unfold World.frozen?
 rw [hk _ ha]
theorem post_of_old {H : Type} {enc : TypeId × Value → H} {P : Program} {f : Func} {s : ChangeSpec} {apart fresh handsOn again : Bool} {W W' : World} {args : Array Value} {v : Value} {ds gs : List (DataW H)} {before pa pv : List MemPlace}
  (hW : DataW.Whole enc P f.params.toList s.vars apart W args.toList ds gs before)
  (hres : ∀ (b : Nat) (sp : Nat → Bool) (hd : Bool), DataW.TrodAll enc P W' b sp hd f.resultTypes.toList (v.resultList f.resultTypes.size) (s.fn H (ds ++ gs)).results [])
  (hargs : ∀ sp : Nat → Bool, (∀ p ∈ before, sp p.block = true) → DataW.TrodAll enc P W' 0 sp true f.params.toList args.toList (s.fn H (ds ++ gs)).args pa)
  (hvars : ∀ sp : Nat → Bool, (∀ p ∈ before, sp p.block = true) → DataW.TrodVars enc P W' sp s.vars (s.fn H (ds ++ gs)).vars pv)
  (hps : before = pa ++ pv) (hk : ∀ k, k < W.heap.size → W'.heap[k]? = W.heap[k]?) (hos : W'.os = W.os) (hout : W'.output = W.output)
  (hok : ∀ (j : Nat) (t : TypeId) (r : Value), f.resultTypes[j]? = some t → (v.resultList f.resultTypes.size)[j]? = some r → Value.okWide P W' .any 0 t r) :
  s.post enc P f apart fresh handsOn again W args v W' := by
 have hold : ∀ p ∈ before, (fun b => decide (b < W.heap.size)) p.block = true := fun p hp => by simpa using hW.lt p hp
 have hlt : ∀ p ∈ before, p.block < W.heap.size := fun p hp => hW.lt p hp
 refine ⟨ds, gs, before, [], pa, pv, hW, hres _ _ _, hargs _ hold, hvars _ hold, World.keptBut_mono (fun p hp => ⟨hp, ?_⟩) (keptBut_of_old hk hos hout (· ∈ before)), fun _ => ?_⟩
 ·rw [hps, List.mem_append] at hp
  exact Or.inr hp
 ·obtain ⟨_, _, _, _, _, hz, hn⟩ := hW
  refine ⟨hok, _, _, ([] ++ pa) ++ pv, ⟨[] ++ pa, pv, trodAll_append (hargs _ (fun _ _ => rfl)) (hres _ _ _), hvars _ (fun _ _ => rfl), rfl, ?_, ?_⟩, ?_⟩
  ·intro b off hp
   have hp' : MemPlace.cell b off ∈ before := by rw [hps]; simpa using hp
   rw [frozen_of_old hk (show (⟨b, off, none⟩ : Addr).block < W.heap.size from hlt _ hp')]
   exact hz b off hp'
  ·intro ha
   have := hn ha
   rw [hps] at this
   simpa using this
  ·intro p hp _
   rw [hps]
   simpa using hp
section
variable {H : Type} {enc : TypeId × Value → H} {P : Program} {W W' : World} {base : Nat} {sp : Nat → Bool} {held : Bool}
theorem trod_old (hk : ∀ k, k < W.heap.size → W'.heap[k]? = W.heap[k]?) : ∀ (n : Nat) (t : TypeId) (cs : List Value) (x : DataW H × List MemPlace), DataW.trod enc P W base sp held n t cs = some x → DataW.trod enc P W' base sp held n t cs = some x
 | 0, _, _, _, h => by simp [DataW.trod] at h
 | n + 1, t, cs, x, h => by
  have hlt := DataW.trod_lt (n + 1) t cs x h
  rw [DataW.trod_step] at h ⊢
  refine DataW.trodStep_carry (fun t cs x hx _ => trod_old hk n t cs x hx) h fun p hp => ?_
  have hb := hlt p hp
  cases p with
  | cell b off =>
   show W'.cell? ⟨b, off, none⟩ = W.cell? ⟨b, off, none⟩
   unfold World.cell?
   rw [hk b hb]
  | map b => exact hk b hb
theorem Trod.old (hk : ∀ k, k < W.heap.size → W'.heap[k]? = W.heap[k]?) {t : TypeId} {v : Value} {d : DataW H} {ps : List MemPlace} (h : DataW.Trod enc P W base sp held t v d ps) : DataW.Trod enc P W' base sp held t v d ps := by
 obtain ⟨n, hn⟩ := h
 exact ⟨n, trod_old hk n _ _ _ hn⟩
theorem TrodAll.old (hk : ∀ k, k < W.heap.size → W'.heap[k]? = W.heap[k]?) : ∀ {ts : List TypeId} {vs : List Value} {ds : List (DataW H)} {ps : List MemPlace}, DataW.TrodAll enc P W base sp held ts vs ds ps → DataW.TrodAll enc P W' base sp held ts vs ds ps
 | [], [], [], _, h => h
 | _ :: _, _ :: _, _ :: _, _, ⟨p, q, h1, h2, e⟩ => ⟨p, q, Trod.old hk h1, TrodAll.old hk h2, e⟩
end
end Go.Sx

set_option linter.unusedSectionVars false
set_option linter.unusedSimpArgs false
set_option linter.unusedVariables false
namespace Go.Proofs.Ytlbbkmcegbeckaa
open Go.ChangeShapes Go.WideShapes Go.ChangeAt Go.RowKit Go.Sx
theorem own : ownKnob Try.prog.godebug = none := by kernel_rfl
theorem kids : Kids Try.prog (· < Try.prog.types.size) := kids_rows (by kernel_rfl) (by kernel_rfl)
theorem full : ∀ t e, t < Try.prog.types.size → Try.prog.underlying t = some (.slice e) → 0 < Try.prog.cellsOf e := slices_full_of Try.prog (by kernel_rfl)
theorem votesT : srtP Try.prog 6 53 = some [Cn.sVotes] := by kernel_rfl
theorem calls_true {U : Us} {P : Program} {f : FuncId} {args : List Shp} {us : Array Value} {W : World} (h : SpecOK U P f ⟨args, [], [(false, [.bool])], [([], [[.lit (.bool true)]])], true⟩) (hcall : ∀ us w, (callFunc f us).run P w = .ok (.enter f us) w) (v : Nat → CD)
  (hp : @PartsR (memW W) args ((varsX 0 args).map (@denL { toUs := U, v := v })) us.toList) : Calls P f us W fun e w' => e = .returned (.bool true) ∧ Keep W w' := by
 have h1 := h { toUs := U, v := v } rfl (memW W) W us (fun _ _ h => h) hp (fun x hx => (by cases hx))
 rw [hcall] at h1
 refine (show Calls P f us W _ from h1).mono fun e w' hh => ?_
 obtain ⟨u, he, hk, o, ho, hx, hres⟩ := hh
 refine ⟨?_, hk⟩
 rw [List.mem_singleton.1 ho] at hres
 obtain ⟨us', hr, hu⟩ := hres
 match us', hr with
 | [u'], hr =>
  have hr : RS (fun k ob => (W.heap.size ≤ k ∧ w'.heap[k]? = some ob) ∨ (true = false ∧ memW W k ob)) .bool (CD.v (.bool true)) u' := hr.1
  obtain ⟨b, h2, h3⟩ := hr
  cases h2
  rw [he, hu, h3]
  rfl
theorem read_votes {H : Type} {enc : TypeId × Value → H} {W : World} {v : Value} {d : DataW H} {ps : List MemPlace} (h : DataW.Trod enc Try.prog W 0 (fun _ => true) true 53 v d ps) (hv : ∃ a n c, v = .slice a n c) : ∃ e : CD, RS (memW W) Cn.sVotes e v := by
 obtain ⟨fuel, hf⟩ := h
 obtain ⟨a, n, c, rfl⟩ := hv
 obtain ⟨_, ds, e, r, u, _, h2, h3, _⟩ := srt_trod 6 votesT hf
 cases h2
 exact ⟨e, h3⟩
theorem read_int {W : World} {n : Int} (h : (Lit.int .i64 n).wf = true) : RS (memW W) Cn.sI (.v (.int .i64 n)) (.int .i64 n) := ⟨n, rfl, rfl, by simpa [Lit.wf, litOK] using h⟩
set_option maxRecDepth 100000 in
theorem canonTells_lifted (os : Os) (started : os.Started) (H : Type) (enc : TypeId × Value → H) :
  ReturnsInHanded {} Try.checked os 5 .any (Rows.canonTellsSpec.pre6 enc Try.prog Try.f5 Rows.canonTellsRow.domain false) (Rows.canonTellsSpec.post enc Try.prog Try.f5 false true false false) := by
 refine returnsInHanded_of_change (C := Try.checked) own started (by kernel_rfl) Try.func5
  (ChangeSpec.witness6 (enc := enc) (C := Try.checked) false ⟨#[], #[.slice none 0 0, .int .i64 0, .int .i64 0, .int .i64 0], []⟩ 8 (by kernel_rfl) (by kernel_rfl) (by kernel_rfl) (by kernel_rfl)) ?_
 intro W base args ds gs before hval0 hW hcnd _
 have hval : ∀ (j : Nat) t v, Try.f5.params[j]? = some t → args[j]? = some v → Value.okWide Try.prog W .any base t v := hval0
 have hW' := hW
 obtain ⟨p, q, hA0, hV, rfl, hfz, hnd⟩ := hW
 have hA : DataW.TrodAll enc Try.prog W 0 (fun _ => true) true Try.f5.params.toList args.toList ds p := hA0
 have hAk := hA
 rw [Try.params5] at hA hval
 obtain ⟨v0, vs0, d0, ds0, p0, q0, hargs, rfl, rfl, h0, r0⟩ := trodAll_cons hA
 obtain ⟨v1, vs1, d1, ds1, p1, q1, rfl, rfl, rfl, h1, r1⟩ := trodAll_cons r0
 obtain ⟨v2, vs2, d2, ds2, p2, q2, rfl, rfl, rfl, h2, r2⟩ := trodAll_cons r1
 obtain ⟨v3, vs3, d3, ds3, p3, q3, rfl, rfl, rfl, h3, r3⟩ := trodAll_cons r2
 obtain ⟨rfl, rfl, rfl⟩ := trodAll_nil r3
 obtain rfl : args = #[v0, v1, v2, v3] := by cases args; simp_all
 obtain ⟨rfl, rfl⟩ := trodVars_none hV
 obtain ⟨e, he⟩ := read_votes h0 (okWide_slice Try.underlying53 (hval 0 53 v0 rfl rfl))
 obtain ⟨n1, rfl, _, _, w1⟩ := open_int Try.underlying3 (hval 1 3 v1 rfl rfl) h1
 obtain ⟨n2, rfl, _, _, w2⟩ := open_int Try.underlying3 (hval 2 3 v2 rfl rfl) h2
 obtain ⟨n3, rfl, _, _, w3⟩ := open_int Try.underlying3 (hval 3 3 v3 rfl rfl) h3
 clear hA0 hval0
 simp only [List.append_nil] at hW'
 refine (calls_true (us := #[v0, .int .i64 n1, .int .i64 n2, .int .i64 n3]) (W := W) Cn.c5 at5.call (fun j => [e, .v (.int .i64 n1), .v (.int .i64 n2), .v (.int .i64 n3)].getD j default) ⟨he, read_int (W := W) w1, read_int (W := W) w2, read_int (W := W) w3, trivial⟩).mono fun e W' ⟨he, hg⟩ => ?_
 subst he
 exact ⟨_, rfl, post_of_old (pv := []) hW' (fun _ _ _ => (trodAll_cons_mk (shut_bool Try.underlying4 _) trodAll_mk0)) (fun sp hsp => TrodAll.old hg.old (DataW.TrodAll.respare kids full (by rw [Try.params5]; decide +kernel) hAk (fun p hp => hsp p (by simpa using hp)))) (fun _ _ => rfl) (by simp)
  hg.old hg.os hg.output (ok_one (by kernel_rfl) rfl (okWide_bool_mk Try.underlying4 _))⟩
theorem canonTells : Rows.CanonTellsSaid :=
 OpenClaim.holds_of_wide 5 Try.f5 rfl rfl rfl rfl rfl rfl rfl ⟨rfl, rfl, rfl, rfl, rfl⟩ rfl rfl rfl rfl rfl (by kernel_rfl) Try.func5 (by kernel_rfl)
  (of_decide_eq_true (by kernel_rfl)) (by unfold Func.isWrapper; first | (rw [if_pos (by decide +kernel)]; kernel_rfl) | (rw [if_neg (by decide +kernel)]; exact ⟨rfl, rfl⟩))
  (fun os started H enc _ => canonTells_lifted os started H enc)
#print axioms canonTells
end Go.Proofs.Ytlbbkmcegbeckaa
