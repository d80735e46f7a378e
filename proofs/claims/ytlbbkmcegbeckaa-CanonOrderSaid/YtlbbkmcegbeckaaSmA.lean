/-
  Contracts of a chapter's functions: the examples; the law. Conditions: none.
  Prepares that enough replicas have taken in are in the log that is chosen. Plain Lean. Conditions: none.
  Contracts of a chapter's functions: what is asked of votes; what replicas have taken in. Conditions: none.
  The law that a choice leans on no order of votes, in plain words. Conditions: none.
-/
import Derived.Test.YtlbbkmcegbeckaaSnY
import Derived.Test.YtlbbkmcegbeckaaSnJ
import Derived.Test.YtlbbkmcegbeckaaSnI
set_option linter.unusedSectionVars false
set_option linter.unusedVariables false
set_option linter.unusedSimpArgs false
namespace Go.Proofs.Ytlbbkmcegbeckaa.Cn
open Go.Sx Go.Proofs
noncomputable def SHave (s : Int) : Fsp := ⟨[(false, [sI]), (false, [sI])], [], [(true, sEnt)], [([], [[.var 0, .var 1, I s]])], true⟩
noncomputable def SHave1 : Fsp := SHave 1
noncomputable def SHave4 : Fsp := SHave 4
def r92_v : List VC := []
def r92_o : List (List X × List (List X)) := [([(.ap .le [mnX, (.var 0)]), (.ap .le [(.var 0), mxX]), (.ap .le [mnX, (.var 1)]), (.ap .le [(.var 1), mxX])], [[(.var 0), (.var 1), (I 1)]])]
theorem r92_eq : runS Try.prog (specO T0) 10 4 noH Try.f92 (bodyOf Try.f92) SHave1 = some (r92_v, r92_o) := by kernel_rfl
set_option maxHeartbeats 4000000 in
set_option maxRecDepth 100000 in
theorem c92 : SpecOK U Try.prog 92 SHave1 := by
 refine SpecOK.of (P := Try.prog) (U := U) (T := T0) (f := 92) (fn := Try.f92) (fuel := 10) (fk := 4) (hs := noH) (S := SHave1) (v := r92_v) (outs := r92_o) mixed hT0 at92 r92_eq ?_ ?_
 ·unfold r92_v
  repeat' (first | exact vcs_nil _ | refine vcs_cons (fun v hh => ?_) ?_)
  all_goals
   simp only [w_var, w_lit, w_ivi, w_bvb, b_le, w_usr, w_l0, w_l1, w_vint, w_vbool, w_tru, w_holds0, w_holds1, w_rows, w_nilb, mnX, mxX, l1_inj] at hh ⊢
   repeat (obtain ⟨_, hh⟩ := hh)
   try (first | grind [= w_vint])
 ·intro o ho σ hU hh
  obtain ⟨v⟩ := σ
  cases hU
  simp only [r92_o, List.mem_cons, List.not_mem_nil, or_false] at ho
  repeat' (first | (rcases ho with rfl | ho) | subst ho)
  all_goals
   refine ⟨_, List.mem_cons_self .., by simp only [w_var, w_lit, w_ivi, w_bvb, b_le, w_usr, w_l0, w_l1, w_vint, w_vbool, w_tru, w_holds0, w_holds1, w_rows, w_nilb], ?_⟩
   simp only [w_var, w_lit, w_ivi, w_bvb, b_le, w_usr, w_l0, w_l1, w_vint, w_vbool, w_tru, w_holds0, w_holds1, w_rows, w_nilb, mnX, mxX, l1_inj] at hh
   simp only [List.map_cons, List.map_nil, w_var, w_lit, w_ivi, w_bvb, b_le, w_usr, w_l0, w_l1, w_vint, w_vbool, w_tru, w_holds0, w_holds1, w_rows, w_nilb, w_le, mnX, mxX, l1_inj]
   repeat (obtain ⟨_, hh⟩ := hh)
   try (first | grind [= w_vint])
def r93_v : List VC := []
def r93_o : List (List X × List (List X)) := [([(.ap .le [mnX, (.var 0)]), (.ap .le [(.var 0), mxX]), (.ap .le [mnX, (.var 1)]), (.ap .le [(.var 1), mxX])], [[(.var 0), (.var 1), (I 4)]])]
theorem r93_eq : runS Try.prog (specO T0) 10 4 noH Try.f93 (bodyOf Try.f93) SHave4 = some (r93_v, r93_o) := by kernel_rfl
set_option maxHeartbeats 4000000 in
set_option maxRecDepth 100000 in
theorem c93 : SpecOK U Try.prog 93 SHave4 := by
 refine SpecOK.of (P := Try.prog) (U := U) (T := T0) (f := 93) (fn := Try.f93) (fuel := 10) (fk := 4) (hs := noH) (S := SHave4) (v := r93_v) (outs := r93_o) mixed hT0 at93 r93_eq ?_ ?_
 ·unfold r93_v
  repeat' (first | exact vcs_nil _ | refine vcs_cons (fun v hh => ?_) ?_)
  all_goals
   simp only [w_var, w_lit, w_ivi, w_bvb, b_le, w_usr, w_l0, w_l1, w_vint, w_vbool, w_tru, w_holds0, w_holds1, w_rows, w_nilb, mnX, mxX, l1_inj] at hh ⊢
   repeat (obtain ⟨_, hh⟩ := hh)
   try (first | grind [= w_vint])
 ·intro o ho σ hU hh
  obtain ⟨v⟩ := σ
  cases hU
  simp only [r93_o, List.mem_cons, List.not_mem_nil, or_false] at ho
  repeat' (first | (rcases ho with rfl | ho) | subst ho)
  all_goals
   refine ⟨_, List.mem_cons_self .., by simp only [w_var, w_lit, w_ivi, w_bvb, b_le, w_usr, w_l0, w_l1, w_vint, w_vbool, w_tru, w_holds0, w_holds1, w_rows, w_nilb], ?_⟩
   simp only [w_var, w_lit, w_ivi, w_bvb, b_le, w_usr, w_l0, w_l1, w_vint, w_vbool, w_tru, w_holds0, w_holds1, w_rows, w_nilb, mnX, mxX, l1_inj] at hh
   simp only [List.map_cons, List.map_nil, w_var, w_lit, w_ivi, w_bvb, b_le, w_usr, w_l0, w_l1, w_vint, w_vbool, w_tru, w_holds0, w_holds1, w_rows, w_nilb, w_le, mnX, mxX, l1_inj]
   repeat (obtain ⟨_, hh⟩ := hh)
   try (first | grind [= w_vint])
def exX (s : Int) : X := .ap .snoc [.ap .snoc [.ap (.nil false) [], I 0, I 1, I 2, I 1, .ap .snoc [.ap .snoc [.ap (.nil false) [], I 1, I 1, I 1], I 2, I 1, I s]], I 1, I 1, I 1, I 1, .ap .snoc [.ap (.nil false) [], I 1, I 1, I 1]]
noncomputable def T8 : List (FuncId × Fsp) := [(92, SHave1), (93, SHave4), (32, SCho), (36, S36)]
set_option maxRecDepth 100000 in
theorem hT8 : TabOK U Try.prog T8 := .cons c92 (.cons c93 (.cons c32 (.cons c36 .nil)))
noncomputable def inlTwo : List (FuncId × Inl) := [(91, ⟨Try.f91, noH⟩)]
set_option maxRecDepth 100000 in
theorem hInlTwo : InlsOK U Try.prog inlTwo := .cons (.of at91 (by kernel_rfl)) .nil
noncomputable def SAwake : Fsp := ⟨[], [], [(false, [.bool])], [([], [[.lit (.bool true)]])], true⟩
noncomputable def asEx (s : Int) : Fm → HP → List X := fun F H => [.ap .le [.ap .len [exX s], I 10], .ap .not [.ap (.usr 119) [exX s]]]
noncomputable def exV (s : Int) : CD := .sl false [[i0 0, i0 1, i0 2, i0 1, .sl false [[i0 1, i0 1, i0 1], [i0 2, i0 1, i0 s]]], [i0 1, i0 1, i0 1, i0 1, .sl false [[i0 1, i0 1, i0 1]]]]
theorem exX_den [Sg] (s : Int) : den (exX s) = exV s := rfl
theorem ex_err1 : errOf (exV 1) (vInt .i64 3) = 0 := by kernel_rfl
theorem ex_err4 : errOf (exV 4) (vInt .i64 3) = 14 := by kernel_rfl
theorem ex_end : endOp (exV 1) = 2 := by kernel_rfl
theorem ex_com : commit (exV 1) = 1 := by kernel_rfl
theorem ex_heads : heads (exV 1) = [[i0 1, i0 1], [i0 2, i0 1]] := by kernel_rfl
theorem ex_len1 : (exV 1).len = 2 := by kernel_rfl
theorem ex_len4 : (exV 4).len = 2 := by kernel_rfl
theorem ex_lg1 : large (exV 1) = false := by kernel_rfl
theorem ex_lg4 : large (exV 4) = false := by kernel_rfl
theorem iteT {α : Type} (a b : α) : (if True then a else b) = a := if_pos trivial
theorem ex_logs : allS eqH [[vInt .i64 1, vInt .i64 1], [vInt .i64 2, vInt .i64 1]] ([] ++ [[vInt .i64 1, vInt .i64 1]] ++ [[vInt .i64 2, vInt .i64 1]]) = true := rfl
abbrev r43_h0 : List X := [(.ap .le [mnX, (.ap (.usr 151) [(exX 1), (I 3)])]), (.ap .le [(.ap (.usr 151) [(exX 1), (I 3)]), mxX]), (.ap .le [mnX, (.ap (.usr 152) [(exX 1), (I 3)])]), (.ap .le [(.ap (.usr 152) [(exX 1), (I 3)]), mxX]), (.ap (.typ (.sl sHead)) [(.ap (.usr 153) [(exX 1), (I 3)])]), (.ap .le [mnX, (.ap (.usr 150) [(exX 1), (I 3)])]), (.ap .le [(.ap (.usr 150) [(exX 1), (I 3)]), mxX]), (.ap .le [(.ap .len [(exX 1)]), (I 10)]), (.ap .not [(.ap (.usr 119) [(exX 1)])])]
abbrev r43_h1 : List X := (.ap .le [mnX, (.ap (.usr 151) [(exX 4), (I 3)])]) :: (.ap .le [(.ap (.usr 151) [(exX 4), (I 3)]), mxX]) :: (.ap .le [mnX, (.ap (.usr 152) [(exX 4), (I 3)])]) :: (.ap .le [(.ap (.usr 152) [(exX 4), (I 3)]), mxX]) :: (.ap (.typ (.sl sHead)) [(.ap (.usr 153) [(exX 4), (I 3)])]) :: (.ap .le [mnX, (.ap (.usr 150) [(exX 4), (I 3)])]) :: (.ap .le [(.ap (.usr 150) [(exX 4), (I 3)]), mxX]) :: (.ap .le [(.ap .len [(exX 4)]), (I 10)]) :: (.ap .not [(.ap (.usr 119) [(exX 4)])]) :: r43_h0
def r43_v : List VC := [([], (.ap .le [(.ap .len [(exX 1)]), (I 10)])),
 ([], (.ap .not [(.ap (.usr 119) [(exX 1)])])),
 (r43_h0, (.ap .le [(.ap .len [(exX 4)]), (I 10)])),
 (r43_h0, (.ap .not [(.ap (.usr 119) [(exX 4)])]))]
def r43_o : List (List X × List (List X)) := [(((.ap (.usr 131) [(.ap (.usr 151) [(exX 1), (I 3)]), (.ap (.usr 152) [(exX 1), (I 3)]), (.ap (.usr 153) [(exX 1), (I 3)]), (I 2), (I 1), (.ap .snoc [(.ap .snoc [(.ap (.nil false) []), (I 1), (I 1)]), (I 2), (I 1)])]) :: (.ap .eq [(.ap (.usr 150) [(exX 1), (I 3)]), (I 0)]) :: r43_h1), [[(.ap .eq [(.ap (.usr 150) [(exX 4), (I 3)]), (I 14)])]]),
 (((.ap .not [(.ap (.usr 131) [(.ap (.usr 151) [(exX 1), (I 3)]), (.ap (.usr 152) [(exX 1), (I 3)]), (.ap (.usr 153) [(exX 1), (I 3)]), (I 2), (I 1), (.ap .snoc [(.ap .snoc [(.ap (.nil false) []), (I 1), (I 1)]), (I 2), (I 1)])])]) :: (.ap .eq [(.ap (.usr 150) [(exX 1), (I 3)]), (I 0)]) :: r43_h1), [[(.lit (.bool false))]]),
 (((.ap .not [(.ap .eq [(.ap (.usr 150) [(exX 1), (I 3)]), (I 0)])]) :: r43_h1), [[(.lit (.bool false))]])]
theorem r43_eq : runV Try.prog (cxOf Try.prog (specO (tab T8)) 10 8 ⟨lookI inlTwo, noY, U.lc⟩ 2 43) ⟨hintL [], hintA [(1, asEx 1), (2, asEx 4)]⟩ Try.f43 (bodyOf Try.f43) SAwake = some (r43_v, r43_o) := by kernel_rfl
set_option maxHeartbeats 4000000 in
set_option maxRecDepth 100000 in
theorem c43 : SpecOK U Try.prog 43 SAwake := by
 refine SpecOK.ofV (P := Try.prog) (U := U) (T := (tab T8)) (l := inlTwo) (y := noY) (dp := 2) (f := 43) (fn := Try.f43) (fuel := 10) (fk := 8) (hs := ⟨hintL [], hintA [(1, asEx 1), (2, asEx 4)]⟩) (S := SAwake) (v := r43_v) (outs := r43_o) mixed hT8 hInlTwo at43 (rangesIn_nil (by kernel_rfl)) r43_eq ?_ ?_
 ·unfold r43_v
  repeat' (first | exact vcs_nil _ | refine vcs_cons (fun v hh => ?_) ?_)
  all_goals
   simp only [w_var, w_lit, w_ivi, w_bvb, b_le, b_eq, b_not, b_typ, w_len, w_nil, w_snoc, w_usr, w_l0, w_l1, w_vint, w_vbool, w_tru, w_holds0, w_holds1, w_rows, w_nilb, us119, us131, us150, us151, us152, us153, mnX, mxX, l1_inj, exX_den, vi_lit, vb_lit, ex_err1, ex_err4, ex_end, ex_com, ex_heads, ex_len1, ex_len4, ex_lg1, ex_lg4, vInt_inj, vBool_inj, iteT, eqC_vint, mkz_rows, ex_logs, r43_h0, r43_h1] at hh ⊢
   repeat (obtain ⟨_, hh⟩ := hh)
   try (first | grind [= w_vint])
 ·intro o ho σ hU hh
  obtain ⟨v⟩ := σ
  cases hU
  simp only [r43_o, List.mem_cons, List.not_mem_nil, or_false] at ho
  repeat' (first | (rcases ho with rfl | ho) | subst ho)
  all_goals
   refine ⟨_, List.mem_cons_self .., by simp only [w_var, w_lit, w_ivi, w_bvb, b_le, b_eq, b_not, b_typ, w_len, w_nil, w_snoc, w_usr, w_l0, w_l1, w_vint, w_vbool, w_tru, w_holds0, w_holds1, w_rows, w_nilb], ?_⟩
   simp only [w_var, w_lit, w_ivi, w_bvb, b_le, b_eq, b_not, b_typ, w_len, w_nil, w_snoc, w_usr, w_l0, w_l1, w_vint, w_vbool, w_tru, w_holds0, w_holds1, w_rows, w_nilb, us119, us131, us150, us151, us152, us153, mnX, mxX, l1_inj, exX_den, vi_lit, vb_lit, ex_err1, ex_err4, ex_end, ex_com, ex_heads, ex_len1, ex_len4, ex_lg1, ex_lg4, vInt_inj, vBool_inj, iteT, eqC_vint, mkz_rows, ex_logs, r43_h0, r43_h1] at hh
   simp only [List.map_cons, List.map_nil, w_var, w_lit, w_ivi, w_bvb, b_le, b_eq, b_not, b_typ, w_len, w_nil, w_snoc, w_usr, w_l0, w_l1, w_vint, w_vbool, w_tru, w_holds0, w_holds1, w_rows, w_nilb, w_le, w_eq, w_not, w_typ, us119, us131, us150, us151, us152, us153, mnX, mxX, l1_inj, exX_den, vi_lit, vb_lit, ex_err1, ex_err4, ex_end, ex_com, ex_heads, ex_len1, ex_len4, ex_lg1, ex_lg4, vInt_inj, vBool_inj, iteT, eqC_vint, mkz_rows, ex_logs]
   repeat (obtain ⟨_, hh⟩ := hh)
   try (first | grind [= w_vint])
end Go.Proofs.Ytlbbkmcegbeckaa.Cn

set_option linter.unusedSectionVars false
set_option linter.unusedVariables false
set_option linter.unusedSimpArgs false
namespace Go.Proofs.Ytlbbkmcegbeckaa.Cn
open Go.Sx Go.Proofs
theorem tw_mem {α : Type} {p : α → Bool} : ∀ {l : List α} {x : α}, x ∈ l.takeWhile p → p x = true
 | [], x, h => by cases h
 | y :: l, x, h => by
  rw [List.takeWhile_cons] at h
  split at h
  ·rename_i hy
   rcases List.mem_cons.1 h with rfl | h
   ·exact hy
   ·exact tw_mem h
  ·cases h
theorem okA_of {l n : CD} (h : okVs l n = true) : okA l = true := by
 unfold okVs at h
 rw [Bool.and_eq_true] at h
 have hn : n.iv ≤ 7 := by rcases okN_iv h.1 with ⟨h1, _⟩ | ⟨h1, _⟩ | ⟨h1, _⟩ <;> omega
 unfold okA
 rw [List.all_eq_true]
 intro v hv
 obtain ⟨i, hi, rfl⟩ := List.getElem_of_mem hv
 have h2 := List.all_eq_true.1 h.2 i (List.mem_range.2 hi)
 unfold okVt at h2
 rw [Bool.and_eq_true] at h2
 have hr : row l i = l.rows[i] := by unfold row; rw [List.getD_eq_getElem?_getD, List.getElem?_eq_getElem hi]; rfl
 have h3 := h2.1
 rw [hr] at h3
 obtain ⟨a1, a2, a3, a4, a5, a6, a7, a8, a9⟩ := okV_all h3
 unfold okV
 simp only [Bool.and_eq_true, decide_eq_true_eq]
 exact ⟨⟨⟨⟨⟨⟨⟨⟨a1, by omega⟩, a3⟩, a4⟩, a5⟩, a6⟩, a7⟩, a8⟩, a9⟩
end Go.Proofs.Ytlbbkmcegbeckaa.Cn

set_option linter.unusedSectionVars false
set_option linter.unusedVariables false
set_option linter.unusedSimpArgs false
namespace Go.Proofs.Ytlbbkmcegbeckaa.Cn
open Go.Sx Go.Proofs
theorem maxI_z' {j : Nat} {R : List (List CD)} : maxI j (R.take 0) = 0 := by rw [List.take_zero]; rfl
theorem m1_next {l : CD} {i : Int} (hT : Typ sVotes l) (h0 : 0 ≤ i) (hi : i < l.len) : vInt .i64 (maxI 1 (l.rows.take (i + 1).toNat)) = if maxI 1 (l.rows.take i.toNat) < (at' (row l i.toNat) 1).iv then at' (row l i.toNat) 1 else vInt .i64 (maxI 1 (l.rows.take i.toNat)) := by
 have h1 := maxI_succ (j := 1) h0 hi
 have t1 := typ_i0 (hT.cell (j := 1) h0 hi rfl)
 rw [cell_at] at t1
 rw [h1]
 generalize at' (row l i.toNat) 1 = r at t1 ⊢
 generalize maxI 1 (l.rows.take i.toNat) = m
 split
 ·rw [show max m r.iv = r.iv by omega]
  exact t1.symm
 ·rw [show max m r.iv = m by omega]
theorem m3_next {l : CD} {i : Int} (hT : Typ sVotes l) (h0 : 0 ≤ i) (hi : i < l.len) : vInt .i64 (maxI 3 (l.rows.take (i + 1).toNat)) = if maxI 3 (l.rows.take i.toNat) < (at' (row l i.toNat) 3).iv then at' (row l i.toNat) 3 else vInt .i64 (maxI 3 (l.rows.take i.toNat)) := by
 have h1 := maxI_succ (j := 3) h0 hi
 have t1 := typ_i0 (hT.cell (j := 3) h0 hi rfl)
 rw [cell_at] at t1
 rw [h1]
 generalize at' (row l i.toNat) 3 = r at t1 ⊢
 generalize maxI 3 (l.rows.take i.toNat) = m
 split
 ·rw [show max m r.iv = r.iv by omega]
  exact t1.symm
 ·rw [show max m r.iv = m by omega]
noncomputable def SMost : Fsp := ⟨[(false, [sVotes])], [], [(false, [sI]), (false, [sI])], [([], [[.ap (.usr 140) [.var 0]], [.ap (.usr 142) [.var 0]]])], true⟩
noncomputable def lp44 : Lp := ⟨[(.slot 4, .int .i64), (.slot 5, .int .i64), (.slot 6, .int .i64)], [0], [], fun F H k => [.ap .le [zI, .var (k+2)], .ap .le [.var (k+2), .ap .len [.var 0]], .ap .same [.var k, .ap (.usr 141) [.var 0, .var (k+2)]], .ap .same [.var (k+1), .ap (.usr 143) [.var 0, .var (k+2)]]], fun F H k => .ap (.sub .i64) [.ap .len [.var 0], .var (k+2)]⟩
abbrev r44_h0 : List X := [(.ap .le [(I 0), (.var 3)]), (.ap .le [(.var 3), (.ap .len [(.var 0)])]), (.ap .same [(.var 1), (.ap (.usr 141) [(.var 0), (.var 3)])]), (.ap .same [(.var 2), (.ap (.usr 143) [(.var 0), (.var 3)])]), (.ap (.typ sVotes) [(.var 0)])]
def r44_v : List VC := [([(.ap (.typ sVotes) [(.var 0)])], (.ap .same [(I 0), (.ap (.usr 141) [(.var 0), (I 0)])])),
 ([(.ap (.typ sVotes) [(.var 0)])], (.ap .same [(I 0), (.ap (.usr 143) [(.var 0), (I 0)])])),
 (((.ap .lt [(.var 3), (.ap .len [(.var 0)])]) :: r44_h0), (.ap .same [(.ap .ite [(.ap .lt [(.var 1), (.ap (.cell 1) [(.var 0), (.var 3)])]), (.ap (.cell 1) [(.var 0), (.var 3)]), (.var 1)]), (.ap (.usr 141) [(.var 0), (.ap (.add .i64) [(.var 3), (I 1)])])])),
 (((.ap .lt [(.var 3), (.ap .len [(.var 0)])]) :: r44_h0), (.ap .same [(.ap .ite [(.ap .lt [(.var 2), (.ap (.cell 3) [(.var 0), (.var 3)])]), (.ap (.cell 3) [(.var 0), (.var 3)]), (.var 2)]), (.ap (.usr 143) [(.var 0), (.ap (.add .i64) [(.var 3), (I 1)])])]))]
def r44_o : List (List X × List (List X)) := [(((.ap .not [(.ap .lt [(.var 3), (.ap .len [(.var 0)])])]) :: r44_h0), [[(.var 1)], [(.var 2)]])]
theorem r44_eq : runS Try.prog (specO T0) 10 6 ⟨hintL [(3, lp44)], hintA []⟩ Try.f44 (bodyOf Try.f44) SMost = some (r44_v, r44_o) := by kernel_rfl
set_option maxHeartbeats 4000000 in
set_option maxRecDepth 100000 in
theorem c44 : SpecOK U Try.prog 44 SMost := by
 refine SpecOK.of (P := Try.prog) (U := U) (T := T0) (f := 44) (fn := Try.f44) (fuel := 10) (fk := 6) (hs := ⟨hintL [(3, lp44)], hintA []⟩) (S := SMost) (v := r44_v) (outs := r44_o) mixed hT0 at44 r44_eq ?_ ?_
 ·unfold r44_v
  repeat' (first | exact vcs_nil _ | refine vcs_cons (fun v hh => ?_) ?_)
  all_goals
   simp only [w_var, w_lit, w_ivi, w_bvb, w_add, b_lt, b_le, b_not, b_typ, b_same, w_ite, w_len, w_cell, w_usr, w_l0, w_l1, w_vint, w_vbool, w_tru, w_holds0, w_holds1, w_rows, w_nilb, us140, us141, us142, us143, mnX, mxX, cell_at, l1_inj, vi_lit, vInt_inj, tn0, maxI_z', r44_h0] at hh ⊢
   repeat (obtain ⟨_, hh⟩ := hh)
   try (first | grind [take_allT, m1_next, m3_next, lead, commit, = w_vint])
 ·intro o ho σ hU hh
  obtain ⟨v⟩ := σ
  cases hU
  simp only [r44_o, List.mem_cons, List.not_mem_nil, or_false] at ho
  repeat' (first | (rcases ho with rfl | ho) | subst ho)
  all_goals
   refine ⟨_, List.mem_cons_self .., by simp only [w_var, w_lit, w_ivi, w_bvb, w_add, b_lt, b_le, b_not, b_typ, b_same, w_ite, w_len, w_cell, w_usr, w_l0, w_l1, w_vint, w_vbool, w_tru, w_holds0, w_holds1, w_rows, w_nilb], ?_⟩
   simp only [w_var, w_lit, w_ivi, w_bvb, w_add, b_lt, b_le, b_not, b_typ, b_same, w_ite, w_len, w_cell, w_usr, w_l0, w_l1, w_vint, w_vbool, w_tru, w_holds0, w_holds1, w_rows, w_nilb, us140, us141, us142, us143, mnX, mxX, cell_at, l1_inj, vi_lit, vInt_inj, tn0, maxI_z', r44_h0] at hh
   simp only [List.map_cons, List.map_nil, w_var, w_lit, w_ivi, w_bvb, w_add, b_lt, b_le, b_not, b_typ, b_same, w_ite, w_len, w_cell, w_usr, w_l0, w_l1, w_vint, w_vbool, w_tru, w_holds0, w_holds1, w_rows, w_nilb, w_lt, w_le, w_not, w_same, w_typ, us140, us141, us142, us143, mnX, mxX, cell_at, l1_inj, vi_lit, vInt_inj, tn0, maxI_z']
   repeat (obtain ⟨_, hh⟩ := hh)
   try (first | grind [take_allT, m1_next, m3_next, lead, commit, = w_vint])
end Go.Proofs.Ytlbbkmcegbeckaa.Cn

set_option linter.unusedSectionVars false
set_option linter.unusedVariables false
set_option linter.unusedSimpArgs false
namespace Go.Proofs.Ytlbbkmcegbeckaa.Cn
open Go.Sx Go.Proofs
theorem typ_c0 {l : CD} (hT : Typ sVotes l) {v : List CD} (hv : v ∈ l.rows) : Typ sI (at' v 0) := by
 obtain ⟨i, hi, rfl⟩ := List.getElem_of_mem hv
 have := hT.sl.1
 have := hT.cell (i := i) (j := 0) (s := sI) (by omega) (by omega) rfl
 rw [cell_at, Int.toNat_natCast] at this
 unfold row at this
 rwa [List.getD_eq_getElem?_getD, List.getElem?_eq_getElem hi] at this
theorem row_get {l : CD} {i : Nat} (hi : i < l.rows.length) : row l i = l.rows[i] := by
 unfold row
 rw [List.getD_eq_getElem?_getD, List.getElem?_eq_getElem hi]
 rfl
theorem okVs_iff {l n : CD} (hT : ∀ v ∈ l.rows, Typ sI (at' v 0)) : okVs l n = true ↔ okN n = true ∧ (∀ v ∈ l.rows, okV v n.iv = true) ∧ l.rows.Pairwise fun a b => (at' a 0).iv ≠ (at' b 0).iv := by
 unfold okVs
 rw [Bool.and_eq_true, List.all_eq_true]
 refine and_congr_right fun _ => ?_
 constructor
 ·intro h
  have h1 : ∀ i (hi : i < l.rows.length), okV l.rows[i] n.iv = true ∧ repIn (l.rows.take i) (at' l.rows[i] 0) = false := fun i hi => by
   have := h i (List.mem_range.2 hi)
   unfold okVt at this
   rw [row_get hi, Bool.and_eq_true, Bool.not_eq_true'] at this
   exact this
  refine ⟨fun v hv => ?_, List.pairwise_iff_getElem.2 fun i j hi hj hij he => ?_⟩
  ·obtain ⟨i, hi, rfl⟩ := List.getElem_of_mem hv
   exact (h1 i hi).1
  ·have h2 := (h1 j hj).2
   unfold repIn at h2
   rw [List.any_eq_false] at h2
   refine h2 l.rows[i] (List.mem_take_iff_getElem.2 ⟨i, by omega, rfl⟩) ?_
   rw [eqC_ivn (hT _ (List.getElem_mem hi)) (hT _ (List.getElem_mem hj))]
   exact he
 ·rintro ⟨h1, h2⟩ i hi
  rw [List.mem_range] at hi
  unfold okVt
  rw [row_get hi, h1 _ (List.getElem_mem hi), Bool.true_and, Bool.not_eq_true']
  unfold repIn
  rw [List.any_eq_false]
  intro v hv he
  obtain ⟨k, hk, rfl⟩ := List.mem_take_iff_getElem.1 hv
  rw [eqC_ivn (hT _ (List.getElem_mem _)) (hT _ (List.getElem_mem hi))] at he
  exact List.pairwise_iff_getElem.1 h2 k i (by omega) hi (by omega) he
theorem okVs_perm {l r n : CD} (hp : List.Perm r.rows l.rows) (hT : ∀ v ∈ l.rows, Typ sI (at' v 0)) : okVs r n = okVs l n := by
 rw [Bool.eq_iff_iff, okVs_iff hT, okVs_iff fun v hv => hT v (hp.mem_iff.1 hv)]
 refine and_congr_right fun _ => and_congr ⟨fun h v hv => h v (hp.mem_iff.2 hv), fun h v hv => h v (hp.mem_iff.1 hv)⟩ ?_
 exact hp.pairwise_iff fun h => Ne.symm h
theorem maxI_perm {j : Nat} {R S : List (List CD)} (hp : List.Perm R S) : maxI j R = maxI j S := by
 unfold maxI
 exact hp.foldl_eq' (fun x _ y _ z => by omega) 0
theorem viewE_cons {op m : Int} {r : List CD} {es : List (List CD)} : viewE op m (r :: es) = viewE op (if (at' r 0).iv = op ∧ (at' r 2).iv ≠ 3 then max m (at' r 1).iv else m) es := rfl
theorem viewE_max {op x : Int} : ∀ {es : List (List CD)} {m : Int}, viewE op (max m x) es = max (viewE op m es) x
 | [], m => rfl
 | r :: es, m => by
  rw [viewE_cons, viewE_cons]
  split
  ·rw [show max (max m x) (at' r 1).iv = max (max m (at' r 1).iv) x by omega, viewE_max]
  ·rw [viewE_max]
theorem viewE_comm {op : Int} {b : List (List CD)} : ∀ {a : List (List CD)} {m : Int}, viewE op (viewE op m a) b = viewE op (viewE op m b) a
 | [], m => rfl
 | r :: a, m => by
  rw [viewE_cons, viewE_cons, viewE_comm]
  split
  ·rw [viewE_max]
  ·rfl
theorem viewL_perm {op m : Int} {R S : List (List CD)} (hp : List.Perm R S) : viewL op m R = viewL op m S := by
 unfold viewL
 exact hp.foldl_eq' (fun x _ y _ z => viewE_comm) m
theorem leads_perm {k : Int} {R S : List (List CD)} (hp : List.Perm R S) : List.Perm (leadsR R k) (leadsR S k) := hp.filter _
theorem commit_p {l r : CD} (hp : List.Perm r.rows l.rows) : commit r = commit l := maxI_perm hp
theorem lead_p {l r : CD} (hp : List.Perm r.rows l.rows) : lead r = lead l := maxI_perm hp
theorem top_p {l r : CD} (hp : List.Perm r.rows l.rows) : top r = top l := by
 unfold top
 rw [lead_p hp]
 exact maxI_perm (leads_perm hp)
theorem view_p {l r : CD} (hp : List.Perm r.rows l.rows) (op : Int) : view r op = view l op := by
 unfold view
 rw [lead_p hp]
 exact viewL_perm (leads_perm hp)
theorem okOp_p {l r : CD} (hp : List.Perm r.rows l.rows) (op : Int) : okOp r op = okOp l op := by
 unfold okOp
 rw [view_p hp]
 exact hp.any_eq
theorem end_p {l r : CD} (hp : List.Perm r.rows l.rows) : endOp r = endOp l := by
 unfold endOp many
 simp only [commit_p hp, top_p hp, okOp_p hp]
theorem waits_p {l r n : CD} (hp : List.Perm r.rows l.rows) : waits r n = waits l n := by
 unfold waits waitsE
 rw [end_p hp, top_p hp, view_p hp, (hp.filter _).length_eq]
theorem heads_p {l r : CD} (hp : List.Perm r.rows l.rows) : heads r = heads l := by
 unfold heads
 simp only [end_p hp, view_p hp]
theorem err_p {l r n : CD} (hp : List.Perm r.rows l.rows) (hl : r.len = l.len) (hT : Typ sVotes l) : errOf r n = errOf l n := by
 unfold errOf
 rw [okVs_perm hp fun v hv => typ_c0 hT hv, hl, waits_p hp]
theorem large_p {l r : CD} (hp : List.Perm r.rows l.rows) : large r = large l := by
 unfold large
 exact hp.any_eq
def hd (l n : CD) : CD := mkz (if errOf l n = 0 then heads l else [])
theorem hd_fold {l n : CD} : mkz (if errOf l n = 0 then heads l else []) = hd l n := rfl
theorem hd_rows {l n : CD} (he : errOf l n = 0) : (hd l n).rows = heads l := by
 unfold hd
 rw [if_pos he]
 rfl
theorem okVs_e {l n : CD} (he : errOf l n = 0) : okVs l n = true := by
 by_cases h : okVs l n = true
 ·exact h
 ·unfold errOf at he
  rw [if_neg h] at he
  cases he
theorem hd_at {l n : CD} {i : Int} (he : errOf l n = 0) (h0 : 0 ≤ i) (hi : i < (hd l n).len) : ∃ o : Nat, row (hd l n) i.toNat = [i0 o, i0 (view l o)] ∧ (o : Int) ≤ endOp l ∧ 0 ≤ view l o := by
 have h := row_mem h0 hi
 rw [hd_rows he, heads_mem] at h
 obtain ⟨o, h1, h2, h3⟩ := h
 have := (end_le (okA_of (okVs_e he))).1
 exact ⟨o, h3, by omega, h2⟩
theorem hd_lt {l n : CD} {i : Int} (he : errOf l n = 0) (h0 : 0 < i) (hi : i < (hd l n).len) : (at' (row (hd l n) (i - 1).toNat) 0).iv < (at' (row (hd l n) i.toNat) 0).iv := by
 have h := heads_up (l := l)
 rw [← hd_rows he, List.pairwise_iff_getElem] at h
 have hlt : i.toNat < (hd l n).rows.length := by rcases len_lt hi with h | h <;> omega
 have := h (i - 1).toNat i.toNat (by omega) hlt (by omega)
 rwa [← row_get, ← row_get] at this
theorem tw_range {p : Nat → Bool} {N k : Nat} (h : k < ((List.range N).takeWhile p).length) : p k = true := by
 have h1 := List.prefix_iff_eq_take.1 (List.takeWhile_prefix (l := List.range N) p)
 refine tw_mem (l := List.range N) ?_
 rw [h1, List.mem_take_iff_getElem]
 have h2 : ((List.range N).takeWhile p).length ≤ N := by
  have := List.IsPrefix.length_le (List.takeWhile_prefix (l := List.range N) p)
  rwa [List.length_range] at this
 exact ⟨k, by rw [List.length_range]; omega, by rw [List.getElem_range]⟩
theorem okOp_in {l : CD} {op : Int} (h1 : commit l < op) (h2 : op ≤ endOp l) : okOp l op = true := by
 unfold endOp many at h2
 have := tw_range (p := fun k : Nat => okOp l (commit l + 1 + k)) (N := (top l - commit l).toNat) (k := (op - commit l - 1).toNat) (by omega)
 rwa [show commit l + 1 + ((op - commit l - 1).toNat : Nat) = op by omega] at this
theorem view_in {l n : CD} {op : Int} (he : errOf l n = 0) (hT : Typ sVotes l) (h1 : commit l < op) (h2 : op ≤ endOp l) : 0 ≤ view l op := by
 by_cases h : view l op < 0
 ·have := ok_neg (okA_of (okVs_e he)) hT h
  rw [okOp_in h1 h2] at this
  cases this
 ·omega
theorem ab_len {l n : CD} (he : errOf l n = 0) (hT : Typ sVotes l) : (((heads l).filter (abv (commit l))).length : Int) = endOp l - commit l := by
 have hA := okA_of (okVs_e he)
 have c0 := com_0 (l := l)
 have hce : commit l ≤ endOp l := by unfold endOp; omega
 unfold heads
 rw [List.filter_map, List.length_map, List.filter_filter]
 have hs : (endOp l).toNat + 1 = ((commit l).toNat + 1) + ((endOp l).toNat - (commit l).toNat) := by omega
 rw [hs, List.range_add, List.filter_append, List.length_append]
 have ha : (List.range ((commit l).toNat + 1)).filter (fun a => (abv (commit l) ∘ fun o : Nat => [i0 o, i0 (view l o)]) a && decide (0 ≤ view l a)) = [] := by
  rw [List.filter_eq_nil_iff]
  intro o ho hh
  rw [List.mem_range] at ho
  rw [Bool.and_eq_true] at hh
  have : commit l < o := of_decide_eq_true hh.1
  omega
 have hb : ((List.range ((endOp l).toNat - (commit l).toNat)).map fun x => (commit l).toNat + 1 + x).filter (fun a => (abv (commit l) ∘ fun o : Nat => [i0 o, i0 (view l o)]) a && decide (0 ≤ view l a)) = (List.range ((endOp l).toNat - (commit l).toNat)).map fun x => (commit l).toNat + 1 + x := by
  rw [List.filter_eq_self]
  intro o ho
  obtain ⟨k, hk, rfl⟩ := List.mem_map.1 ho
  rw [List.mem_range] at hk
  rw [Bool.and_eq_true]
  refine ⟨decide_eq_true (show commit l < (((commit l).toNat + 1 + k : Nat) : Int) by omega), decide_eq_true (view_in he hT (by omega) (by omega))⟩
 rw [ha, hb, List.length_map, List.length_range]
 simp only [List.length_nil]
 omega
def rotR (l : CD) (a : Int) : List (List CD) := List.drop a.toNat (List.take ((l.len : Int)).toNat l.rows) ++ List.drop 0 (List.take a.toNat l.rows)
def rot (l : CD) (a : Int) : CD := .sl false (rotR l a)
theorem rotR_fold {l : CD} {a : Int} : List.drop a.toNat (List.take ((l.len : Int)).toNat l.rows) ++ List.drop 0 (List.take a.toNat l.rows) = rotR l a := rfl
theorem rot_fold {l : CD} {a : Int} : CD.sl (false && (rotR l a).isEmpty) (rotR l a) = rot l a := rfl
theorem rot_ok {l : CD} {a : Int} (h0 : 0 ≤ a) (h1 : a ≤ l.len) (hT : Typ sVotes l) (hm : (l.len : Int) ≤ 10) : List.Perm (rotR l a) l.rows ∧ (rot l a).len = l.len := by
 have hl := hT.sl.1
 have h2 : List.Perm (rotR l a) l.rows := by
  unfold rotR
  rw [List.drop_zero, List.take_of_length_le (by omega)]
  refine List.perm_append_comm.trans ?_
  rw [List.take_append_drop]
 refine ⟨h2, ?_⟩
 have h3 := d_len (d := rot l a) (show (rotR l a).length ≤ _ by rw [h2.length_eq]; omega)
 rw [show (rot l a).rows = rotR l a from rfl, h2.length_eq] at h3
 omega
theorem eqC_v {k : IntKind} {z : Int} : eqC (vInt k z) (vInt k z) = true := decide_eq_true rfl
theorem one_of {n : Nat} (h : ¬ eqC (vInt .i64 n) (vInt .i64 0) = true) : 1 ≤ (n : Int) := by
 by_cases hn : (n : Int) = 0
 ·rw [hn] at h
  exact absurd eqC_v h
 ·omega
theorem rem_eq {x : Int} {n : Nat} (h : 1 ≤ (n : Int)) : (orV (binInt .rem .i64 x n)).iv = x.tmod n := by
 have : binInt .rem .i64 x n = if (n : Int) = 0 then none else some (.int .i64 (x.tmod n)) := rfl
 rw [this, if_neg (by omega)]
 rfl
theorem rem_a {x : Int} {n : Nat} (h : 1 ≤ (n : Int)) : 0 < (orV (binInt .rem .i64 x n)).iv + n := by
 rw [rem_eq h]
 have := Int.lt_tmod_of_pos x (b := (n : Int)) (by omega)
 omega
theorem rem_b {x : Int} {n : Nat} (h : 1 ≤ (n : Int)) : (orV (binInt .rem .i64 x n)).iv < n := by
 rw [rem_eq h]
 exact Int.tmod_lt_of_pos x (by omega)
theorem neg_a {x : Int} {n : Nat} (h : x < 0) (h2 : 0 < x + n) (h3 : (n : Int) ≤ 10) : 0 ≤ IntKind.i64.wrap (0 - x) := by
 rw [IntKind.wrap_i64]; omega
theorem neg_b {x : Int} {n : Nat} (h : x < 0) (h2 : 0 < x + n) (h3 : (n : Int) ≤ 10) : IntKind.i64.wrap (0 - x) ≤ n := by
 rw [IntKind.wrap_i64]; omega
theorem cut_10 {l : CD} {b : Bool} {a c : Nat} (hT : Typ sVotes l) (h : (l.len : Int) ≤ 10) : ((CD.sl b (List.drop a (List.take c l.rows))).len : Int) ≤ 10 := by
 have := cut_len (b := b) (r := l.rows) (a := a) (c := c)
 have := hT.sl.1
 omega
theorem rot_10 {l : CD} {a : Int} (hp : List.Perm (rotR l a) l.rows ∧ (rot l a).len = l.len) (h : (l.len : Int) ≤ 10) : ((rot l a).len : Int) ≤ 10 := by
 have := hp.2
 omega
theorem rot_small {l : CD} {a : Int} (hp : List.Perm (rotR l a) l.rows ∧ (rot l a).len = l.len) (h : ¬ large l = true) : ¬ large (rot l a) = true := by
 rwa [large_p (r := rot l a) hp.1]
theorem e00 {l n : CD} (he : eqC (vInt .i64 (errOf l n)) (vInt .i64 0) = true) : errOf l n = 0 := by
 have := eqC_iv he
 rwa [w_vint] at this
theorem hd_p {l r n : CD} (hp : List.Perm r.rows l.rows) (hl : r.len = l.len) (hT : Typ sVotes l) : hd r n = hd l n := by
 unfold hd
 rw [err_p hp hl hT, heads_p hp]
theorem allS_hd {l n : CD} : allS eqH (hd l n).rows (hd l n).rows = true := by
 unfold hd
 rw [mkz_rows]
 split
 ·exact allS_self fun r hr => by
   obtain ⟨o, _, _, rfl⟩ := heads_mem.1 hr
   unfold eqH
   rw [Bool.and_eq_true]
   exact ⟨decide_eq_true rfl, decide_eq_true rfl⟩
 ·rfl
theorem pm_err {l n : CD} {a : Int} (hn : ¬ eqC (vInt .i64 (errOf l n)) (vInt .i64 (errOf (rot l a) n)) = true) (hp : List.Perm (rotR l a) l.rows ∧ (rot l a).len = l.len) (hT : Typ sVotes l) : true = false := by
 rw [err_p (r := rot l a) hp.1 hp.2 hT] at hn
 exact absurd eqC_v hn
theorem pm_log {l n : CD} {a : Int} (hn : ¬ (eqC (vInt .i64 (if errOf l n = 0 then endOp l else 0)) (vInt .i64 (if errOf (rot l a) n = 0 then endOp (rot l a) else 0)) && eqC (vInt .i64 (if errOf l n = 0 then commit l else 0)) (vInt .i64 (if errOf (rot l a) n = 0 then commit (rot l a) else 0)) && allS eqH (hd l n).rows (hd (rot l a) n).rows) = true) (hp : List.Perm (rotR l a) l.rows ∧ (rot l a).len = l.len) (hT : Typ sVotes l) : true = false := by
 rw [hd_p (r := rot l a) hp.1 hp.2 hT, err_p (r := rot l a) hp.1 hp.2 hT, end_p (r := rot l a) hp.1, commit_p (r := rot l a) hp.1, eqC_v, eqC_v, allS_hd] at hn
 exact absurd rfl hn
theorem cm_no {l n : CD} (hn : ¬ eqC (vInt .i64 (if errOf l n = 0 then commit l else 0)) (vInt .i64 (commit l)) = true) (he : eqC (vInt .i64 (errOf l n)) (vInt .i64 0) = true) : true = false := by
 rw [if_pos (e00 he)] at hn
 exact absurd eqC_v hn
theorem en_no {l n : CD} (hn : (if errOf l n = 0 then endOp l else 0) < commit l) (he : eqC (vInt .i64 (errOf l n)) (vInt .i64 0) = true) : true = false := by
 rw [if_pos (e00 he)] at hn
 unfold endOp at hn
 omega
theorem rise_no {l n : CD} {i : Int} (hn : (at' (row (hd l n) i.toNat) 0).iv ≤ (at' (row (hd l n) (i - 1).toNat) 0).iv) (he : eqC (vInt .i64 (errOf l n)) (vInt .i64 0) = true) (h0 : 0 < i) (hi : i < (hd l n).len) : true = false := by
 have := hd_lt (e00 he) h0 hi
 omega
theorem top_no {l n : CD} {i : Int} (hn : (if errOf l n = 0 then endOp l else 0) < (at' (row (hd l n) i.toNat) 0).iv) (he : eqC (vInt .i64 (errOf l n)) (vInt .i64 0) = true) (h0 : 0 ≤ i) (hi : i < (hd l n).len) : true = false := by
 obtain ⟨o, h1, h2, _⟩ := hd_at (e00 he) h0 hi
 rw [if_pos (e00 he), h1] at hn
 have : endOp l < (o : Int) := hn
 omega
theorem has_no {l n : CD} {i : Int} (hn : eqC (vInt .i64 ((mkz ((l.rows.filter (hasV (at' (row (hd l n) i.toNat) 0) (at' (row (hd l n) i.toNat) 1))).map fun v => [at' v 0])).len : Nat)) (vInt .i64 0) = true) (hc : commit l < (at' (row (hd l n) i.toNat) 0).iv) (he : eqC (vInt .i64 (errOf l n)) (vInt .i64 0) = true) (h0 : 0 ≤ i) (hi : i < (hd l n).len) : true = false := by
 obtain ⟨o, h1, h2, _⟩ := hd_at (e00 he) h0 hi
 rw [h1] at hc hn
 have h3 := okOp_in (l := l) (op := o) hc h2
 have h4 := eqC_iv hn
 rw [w_vint] at h4
 have h5 := has_pos (f := hasV (i0 o) (i0 (view l o))) (g := fun v => [at' v 0]) (l := l.rows)
 rw [show (l.rows.any (hasV (i0 o) (i0 (view l o))) = true) = True from eq_true h3, eq_iff_iff] at h5
 have h6 := h5.2 trivial
 have h7 : ((mkz ((l.rows.filter (hasV (i0 o) (i0 (view l o)))).map fun v => [at' v 0])).len : Int) = 0 := h4
 omega
theorem ab_y {h p : CD} {i c : Int} (hp : p = vInt .i64 (((h.rows.take i.toNat).filter (abv c)).length : Nat)) (hc : c < (at' (row h i.toNat) 0).iv) (h0 : 0 ≤ i) (hi : i < h.len) : p.iv + 1 = (((h.rows.take (i + 1).toNat).filter (abv c)).length : Nat) := by
 rw [filtLen_succ h0 hi, hp, w_vint, if_pos (show abv c (row h i.toNat) = true from decide_eq_true hc)]
 omega
theorem ab_n {h p : CD} {i c : Int} (hp : p = vInt .i64 (((h.rows.take i.toNat).filter (abv c)).length : Nat)) (hc : ¬ c < (at' (row h i.toNat) 0).iv) (h0 : 0 ≤ i) (hi : i < h.len) : p = vInt .i64 (((h.rows.take (i + 1).toNat).filter (abv c)).length : Nat) := by
 rw [filtLen_succ h0 hi, hp, if_neg (by unfold abv; simpa using hc)]
 rfl
theorem ab_z {R : List (List CD)} {f : List CD → Bool} : 0 = ((((R.take 0).filter f).length : Nat) : Int) := by rw [List.take_zero]; rfl
theorem fin_o {l n p : CD} {i : Int} (hv : p = vInt .i64 ((((hd l n).rows.take i.toNat).filter (abv (commit l))).length : Nat)) (hi : ¬ i < (hd l n).len) (he : eqC (vInt .i64 (errOf l n)) (vInt .i64 0) = true) (hT : Typ sVotes l) (hH : Typ (.sl sHead) (hd l n)) : true = eqC p (vInt .i64 (IntKind.i64.wrap ((if errOf l n = 0 then endOp l else 0) - commit l))) := by
 have e0 := e00 he
 have hA := okA_of (okVs_e e0)
 have := end_le hA
 have := com_le hA
 have := com_0 (l := l)
 rw [take_allT hH hi, hd_rows e0, ab_len e0 hT] at hv
 rw [hv, if_pos e0, show IntKind.i64.wrap (endOp l - commit l) = endOp l - commit l by rw [IntKind.wrap_i64]; omega]
 exact eqC_v.symm
end Go.Proofs.Ytlbbkmcegbeckaa.Cn
