/-
  Contracts of a chapter's functions: the examples; the law. Conditions: none.
  Prepares that enough replicas have taken in are in the log that is chosen. Plain Lean. Conditions: none.
  Contracts of a chapter's functions: what is asked of votes; what replicas have taken in. Conditions: none.
-/
import Derived.Test.YtlbbkmcegbeckaaSnY
import Derived.Test.YtlbbkmcegbeckaaSnJ
import Derived.Test.YtlbbkmcegbeckaaSnI
set_option linter.unusedSectionVars false
set_option linter.unusedVariables false
set_option linter.unusedSimpArgs false
namespace Go.Proofs.Ytlbbkmcegbeckaa.Cn
open Go.Sx Go.Proofs
noncomputable def SHave (s : Int) : Fsp := ⟨[(false, [sI]), (false, [sI])], [], [(true, sEnt)], [([], [[.var 0, .var 1, I s]])], true⟩
noncomputable def SHave1 : Fsp := SHave 1
noncomputable def SHave4 : Fsp := SHave 4
def r92_v : List VC := []
def r92_o : List (List X × List (List X)) := [([(.ap .le [mnX, (.var 0)]), (.ap .le [(.var 0), mxX]), (.ap .le [mnX, (.var 1)]), (.ap .le [(.var 1), mxX])], [[(.var 0), (.var 1), (I 1)]])]
theorem r92_eq : runS Try.prog (specO T0) 10 4 noH Try.f92 (bodyOf Try.f92) SHave1 = some (r92_v, r92_o) := by kernel_rfl
set_option maxHeartbeats 4000000 in
set_option maxRecDepth 100000 in
theorem c92 : SpecOK U Try.prog 92 SHave1 := by
 refine SpecOK.of (P := Try.prog) (U := U) (T := T0) (f := 92) (fn := Try.f92) (fuel := 10) (fk := 4) (hs := noH) (S := SHave1) (v := r92_v) (outs := r92_o) mixed hT0 at92 r92_eq ?_ ?_
 ·unfold r92_v
  repeat' (first | exact vcs_nil _ | refine vcs_cons (fun v hh => ?_) ?_)
  all_goals
   simp only [w_var, w_lit, w_ivi, w_bvb, b_le, w_usr, w_l0, w_l1, w_vint, w_vbool, w_tru, w_holds0, w_holds1, w_rows, w_nilb, mnX, mxX, l1_inj] at hh ⊢
   repeat (obtain ⟨_, hh⟩ := hh)
   try (first | grind [= w_vint])
 ·intro o ho σ hU hh
  obtain ⟨v⟩ := σ
  cases hU
  simp only [r92_o, List.mem_cons, List.not_mem_nil, or_false] at ho
  repeat' (first | (rcases ho with rfl | ho) | subst ho)
  all_goals
   refine ⟨_, List.mem_cons_self .., by simp only [w_var, w_lit, w_ivi, w_bvb, b_le, w_usr, w_l0, w_l1, w_vint, w_vbool, w_tru, w_holds0, w_holds1, w_rows, w_nilb], ?_⟩
   simp only [w_var, w_lit, w_ivi, w_bvb, b_le, w_usr, w_l0, w_l1, w_vint, w_vbool, w_tru, w_holds0, w_holds1, w_rows, w_nilb, mnX, mxX, l1_inj] at hh
   simp only [List.map_cons, List.map_nil, w_var, w_lit, w_ivi, w_bvb, b_le, w_usr, w_l0, w_l1, w_vint, w_vbool, w_tru, w_holds0, w_holds1, w_rows, w_nilb, w_le, mnX, mxX, l1_inj]
   repeat (obtain ⟨_, hh⟩ := hh)
   try (first | grind [= w_vint])
def r93_v : List VC := []
def r93_o : List (List X × List (List X)) := [([(.ap .le [mnX, (.var 0)]), (.ap .le [(.var 0), mxX]), (.ap .le [mnX, (.var 1)]), (.ap .le [(.var 1), mxX])], [[(.var 0), (.var 1), (I 4)]])]
theorem r93_eq : runS Try.prog (specO T0) 10 4 noH Try.f93 (bodyOf Try.f93) SHave4 = some (r93_v, r93_o) := by kernel_rfl
set_option maxHeartbeats 4000000 in
set_option maxRecDepth 100000 in
theorem c93 : SpecOK U Try.prog 93 SHave4 := by
 refine SpecOK.of (P := Try.prog) (U := U) (T := T0) (f := 93) (fn := Try.f93) (fuel := 10) (fk := 4) (hs := noH) (S := SHave4) (v := r93_v) (outs := r93_o) mixed hT0 at93 r93_eq ?_ ?_
 ·unfold r93_v
  repeat' (first | exact vcs_nil _ | refine vcs_cons (fun v hh => ?_) ?_)
  all_goals
   simp only [w_var, w_lit, w_ivi, w_bvb, b_le, w_usr, w_l0, w_l1, w_vint, w_vbool, w_tru, w_holds0, w_holds1, w_rows, w_nilb, mnX, mxX, l1_inj] at hh ⊢
   repeat (obtain ⟨_, hh⟩ := hh)
   try (first | grind [= w_vint])
 ·intro o ho σ hU hh
  obtain ⟨v⟩ := σ
  cases hU
  simp only [r93_o, List.mem_cons, List.not_mem_nil, or_false] at ho
  repeat' (first | (rcases ho with rfl | ho) | subst ho)
  all_goals
   refine ⟨_, List.mem_cons_self .., by simp only [w_var, w_lit, w_ivi, w_bvb, b_le, w_usr, w_l0, w_l1, w_vint, w_vbool, w_tru, w_holds0, w_holds1, w_rows, w_nilb], ?_⟩
   simp only [w_var, w_lit, w_ivi, w_bvb, b_le, w_usr, w_l0, w_l1, w_vint, w_vbool, w_tru, w_holds0, w_holds1, w_rows, w_nilb, mnX, mxX, l1_inj] at hh
   simp only [List.map_cons, List.map_nil, w_var, w_lit, w_ivi, w_bvb, b_le, w_usr, w_l0, w_l1, w_vint, w_vbool, w_tru, w_holds0, w_holds1, w_rows, w_nilb, w_le, mnX, mxX, l1_inj]
   repeat (obtain ⟨_, hh⟩ := hh)
   try (first | grind [= w_vint])
def exX (s : Int) : X := .ap .snoc [.ap .snoc [.ap (.nil false) [], I 0, I 1, I 2, I 1, .ap .snoc [.ap .snoc [.ap (.nil false) [], I 1, I 1, I 1], I 2, I 1, I s]], I 1, I 1, I 1, I 1, .ap .snoc [.ap (.nil false) [], I 1, I 1, I 1]]
noncomputable def T8 : List (FuncId × Fsp) := [(92, SHave1), (93, SHave4), (32, SCho), (36, S36)]
set_option maxRecDepth 100000 in
theorem hT8 : TabOK U Try.prog T8 := .cons c92 (.cons c93 (.cons c32 (.cons c36 .nil)))
noncomputable def inlTwo : List (FuncId × Inl) := [(91, ⟨Try.f91, noH⟩)]
set_option maxRecDepth 100000 in
theorem hInlTwo : InlsOK U Try.prog inlTwo := .cons (.of at91 (by kernel_rfl)) .nil
noncomputable def SAwake : Fsp := ⟨[], [], [(false, [.bool])], [([], [[.lit (.bool true)]])], true⟩
noncomputable def asEx (s : Int) : Fm → HP → List X := fun F H => [.ap .le [.ap .len [exX s], I 10], .ap .not [.ap (.usr 119) [exX s]]]
noncomputable def exV (s : Int) : CD := .sl false [[i0 0, i0 1, i0 2, i0 1, .sl false [[i0 1, i0 1, i0 1], [i0 2, i0 1, i0 s]]], [i0 1, i0 1, i0 1, i0 1, .sl false [[i0 1, i0 1, i0 1]]]]
theorem exX_den [Sg] (s : Int) : den (exX s) = exV s := rfl
theorem ex_err1 : errOf (exV 1) (vInt .i64 3) = 0 := by kernel_rfl
theorem ex_err4 : errOf (exV 4) (vInt .i64 3) = 14 := by kernel_rfl
theorem ex_end : endOp (exV 1) = 2 := by kernel_rfl
theorem ex_com : commit (exV 1) = 1 := by kernel_rfl
theorem ex_heads : heads (exV 1) = [[i0 1, i0 1], [i0 2, i0 1]] := by kernel_rfl
theorem ex_len1 : (exV 1).len = 2 := by kernel_rfl
theorem ex_len4 : (exV 4).len = 2 := by kernel_rfl
theorem ex_lg1 : large (exV 1) = false := by kernel_rfl
theorem ex_lg4 : large (exV 4) = false := by kernel_rfl
theorem iteT {α : Type} (a b : α) : (if True then a else b) = a := if_pos trivial
theorem ex_logs : allS eqH [[vInt .i64 1, vInt .i64 1], [vInt .i64 2, vInt .i64 1]] ([] ++ [[vInt .i64 1, vInt .i64 1]] ++ [[vInt .i64 2, vInt .i64 1]]) = true := rfl
abbrev r43_h0 : List X := [(.ap .le [mnX, (.ap (.usr 151) [(exX 1), (I 3)])]), (.ap .le [(.ap (.usr 151) [(exX 1), (I 3)]), mxX]), (.ap .le [mnX, (.ap (.usr 152) [(exX 1), (I 3)])]), (.ap .le [(.ap (.usr 152) [(exX 1), (I 3)]), mxX]), (.ap (.typ (.sl sHead)) [(.ap (.usr 153) [(exX 1), (I 3)])]), (.ap .le [mnX, (.ap (.usr 150) [(exX 1), (I 3)])]), (.ap .le [(.ap (.usr 150) [(exX 1), (I 3)]), mxX]), (.ap .le [(.ap .len [(exX 1)]), (I 10)]), (.ap .not [(.ap (.usr 119) [(exX 1)])])]
abbrev r43_h1 : List X := (.ap .le [mnX, (.ap (.usr 151) [(exX 4), (I 3)])]) :: (.ap .le [(.ap (.usr 151) [(exX 4), (I 3)]), mxX]) :: (.ap .le [mnX, (.ap (.usr 152) [(exX 4), (I 3)])]) :: (.ap .le [(.ap (.usr 152) [(exX 4), (I 3)]), mxX]) :: (.ap (.typ (.sl sHead)) [(.ap (.usr 153) [(exX 4), (I 3)])]) :: (.ap .le [mnX, (.ap (.usr 150) [(exX 4), (I 3)])]) :: (.ap .le [(.ap (.usr 150) [(exX 4), (I 3)]), mxX]) :: (.ap .le [(.ap .len [(exX 4)]), (I 10)]) :: (.ap .not [(.ap (.usr 119) [(exX 4)])]) :: r43_h0
def r43_v : List VC := [([], (.ap .le [(.ap .len [(exX 1)]), (I 10)])),
 ([], (.ap .not [(.ap (.usr 119) [(exX 1)])])),
 (r43_h0, (.ap .le [(.ap .len [(exX 4)]), (I 10)])),
 (r43_h0, (.ap .not [(.ap (.usr 119) [(exX 4)])]))]
def r43_o : List (List X × List (List X)) := [(((.ap (.usr 131) [(.ap (.usr 151) [(exX 1), (I 3)]), (.ap (.usr 152) [(exX 1), (I 3)]), (.ap (.usr 153) [(exX 1), (I 3)]), (I 2), (I 1), (.ap .snoc [(.ap .snoc [(.ap (.nil false) []), (I 1), (I 1)]), (I 2), (I 1)])]) :: (.ap .eq [(.ap (.usr 150) [(exX 1), (I 3)]), (I 0)]) :: r43_h1), [[(.ap .eq [(.ap (.usr 150) [(exX 4), (I 3)]), (I 14)])]]),
 (((.ap .not [(.ap (.usr 131) [(.ap (.usr 151) [(exX 1), (I 3)]), (.ap (.usr 152) [(exX 1), (I 3)]), (.ap (.usr 153) [(exX 1), (I 3)]), (I 2), (I 1), (.ap .snoc [(.ap .snoc [(.ap (.nil false) []), (I 1), (I 1)]), (I 2), (I 1)])])]) :: (.ap .eq [(.ap (.usr 150) [(exX 1), (I 3)]), (I 0)]) :: r43_h1), [[(.lit (.bool false))]]),
 (((.ap .not [(.ap .eq [(.ap (.usr 150) [(exX 1), (I 3)]), (I 0)])]) :: r43_h1), [[(.lit (.bool false))]])]
theorem r43_eq : runV Try.prog (cxOf Try.prog (specO (tab T8)) 10 8 ⟨lookI inlTwo, noY, U.lc⟩ 2 43) ⟨hintL [], hintA [(1, asEx 1), (2, asEx 4)]⟩ Try.f43 (bodyOf Try.f43) SAwake = some (r43_v, r43_o) := by kernel_rfl
set_option maxHeartbeats 4000000 in
set_option maxRecDepth 100000 in
theorem c43 : SpecOK U Try.prog 43 SAwake := by
 refine SpecOK.ofV (P := Try.prog) (U := U) (T := (tab T8)) (l := inlTwo) (y := noY) (dp := 2) (f := 43) (fn := Try.f43) (fuel := 10) (fk := 8) (hs := ⟨hintL [], hintA [(1, asEx 1), (2, asEx 4)]⟩) (S := SAwake) (v := r43_v) (outs := r43_o) mixed hT8 hInlTwo at43 (rangesIn_nil (by kernel_rfl)) r43_eq ?_ ?_
 ·unfold r43_v
  repeat' (first | exact vcs_nil _ | refine vcs_cons (fun v hh => ?_) ?_)
  all_goals
   simp only [w_var, w_lit, w_ivi, w_bvb, b_le, b_eq, b_not, b_typ, w_len, w_nil, w_snoc, w_usr, w_l0, w_l1, w_vint, w_vbool, w_tru, w_holds0, w_holds1, w_rows, w_nilb, us119, us131, us150, us151, us152, us153, mnX, mxX, l1_inj, exX_den, vi_lit, vb_lit, ex_err1, ex_err4, ex_end, ex_com, ex_heads, ex_len1, ex_len4, ex_lg1, ex_lg4, vInt_inj, vBool_inj, iteT, eqC_vint, mkz_rows, ex_logs, r43_h0, r43_h1] at hh ⊢
   repeat (obtain ⟨_, hh⟩ := hh)
   try (first | grind [= w_vint])
 ·intro o ho σ hU hh
  obtain ⟨v⟩ := σ
  cases hU
  simp only [r43_o, List.mem_cons, List.not_mem_nil, or_false] at ho
  repeat' (first | (rcases ho with rfl | ho) | subst ho)
  all_goals
   refine ⟨_, List.mem_cons_self .., by simp only [w_var, w_lit, w_ivi, w_bvb, b_le, b_eq, b_not, b_typ, w_len, w_nil, w_snoc, w_usr, w_l0, w_l1, w_vint, w_vbool, w_tru, w_holds0, w_holds1, w_rows, w_nilb], ?_⟩
   simp only [w_var, w_lit, w_ivi, w_bvb, b_le, b_eq, b_not, b_typ, w_len, w_nil, w_snoc, w_usr, w_l0, w_l1, w_vint, w_vbool, w_tru, w_holds0, w_holds1, w_rows, w_nilb, us119, us131, us150, us151, us152, us153, mnX, mxX, l1_inj, exX_den, vi_lit, vb_lit, ex_err1, ex_err4, ex_end, ex_com, ex_heads, ex_len1, ex_len4, ex_lg1, ex_lg4, vInt_inj, vBool_inj, iteT, eqC_vint, mkz_rows, ex_logs, r43_h0, r43_h1] at hh
   simp only [List.map_cons, List.map_nil, w_var, w_lit, w_ivi, w_bvb, b_le, b_eq, b_not, b_typ, w_len, w_nil, w_snoc, w_usr, w_l0, w_l1, w_vint, w_vbool, w_tru, w_holds0, w_holds1, w_rows, w_nilb, w_le, w_eq, w_not, w_typ, us119, us131, us150, us151, us152, us153, mnX, mxX, l1_inj, exX_den, vi_lit, vb_lit, ex_err1, ex_err4, ex_end, ex_com, ex_heads, ex_len1, ex_len4, ex_lg1, ex_lg4, vInt_inj, vBool_inj, iteT, eqC_vint, mkz_rows, ex_logs]
   repeat (obtain ⟨_, hh⟩ := hh)
   try (first | grind [= w_vint])
end Go.Proofs.Ytlbbkmcegbeckaa.Cn

set_option linter.unusedSectionVars false
set_option linter.unusedVariables false
set_option linter.unusedSimpArgs false
namespace Go.Proofs.Ytlbbkmcegbeckaa.Cn
open Go.Sx Go.Proofs
theorem viewE_at {op : Int} : ∀ {es : List (List CD)} {m : Int}, viewE op m es = m ∨ ∃ r ∈ es, (at' r 0).iv = op ∧ (at' r 2).iv ≠ 3 ∧ viewE op m es = (at' r 1).iv
 | [], m => .inl rfl
 | r :: es, m => by
  have e : viewE op m (r :: es) = viewE op (if (at' r 0).iv = op ∧ (at' r 2).iv ≠ 3 then max m (at' r 1).iv else m) es := rfl
  rw [e]
  rcases viewE_at (op := op) (es := es) (m := if (at' r 0).iv = op ∧ (at' r 2).iv ≠ 3 then max m (at' r 1).iv else m) with h | ⟨q, h1, h2, h3, h4⟩
  ·rw [h]
   split
   ·rename_i hc
    by_cases hm : (at' r 1).iv ≤ m
    ·exact .inl (Int.max_eq_left hm)
    ·exact .inr ⟨r, List.mem_cons_self .., hc.1, hc.2, Int.max_eq_right (by omega)⟩
   ·exact .inl rfl
  ·exact .inr ⟨q, List.mem_cons_of_mem _ h1, h2, h3, h4⟩
theorem viewL_at {op : Int} : ∀ {R : List (List CD)} {m : Int}, viewL op m R = m ∨ ∃ v ∈ R, ∃ r ∈ (at' v 4).rows, (at' r 0).iv = op ∧ (at' r 2).iv ≠ 3 ∧ viewL op m R = (at' r 1).iv
 | [], m => .inl rfl
 | v :: R, m => by
  have e : viewL op m (v :: R) = viewL op (viewE op m (at' v 4).rows) R := rfl
  rw [e]
  rcases viewL_at (op := op) (R := R) (m := viewE op m (at' v 4).rows) with h | ⟨q, h1, r, h2, h3, h4, h5⟩
  ·rw [h]
   rcases viewE_at (op := op) (es := (at' v 4).rows) (m := m) with h6 | ⟨r, h6, h7, h8, h9⟩
   ·exact .inl h6
   ·exact .inr ⟨v, List.mem_cons_self .., r, h6, h7, h8, h9⟩
  ·exact .inr ⟨q, List.mem_cons_of_mem _ h1, r, h2, h3, h4, h5⟩
theorem typ_i0' {d : CD} (h : Typ sI d) : d = vInt .i64 d.iv := typ_i0 h
theorem eqC_refl {d : CD} (h : Typ sI d) : eqC d d = true := by
 obtain ⟨n, rfl⟩ := typ_int h
 exact decide_eq_true rfl
theorem ops_up {d : CD} (h : okLog d = true) : d.rows.Pairwise fun a b => (at' a 0).iv < (at' b 0).iv := by
 rw [List.pairwise_iff_getElem]
 have hall : ∀ i, i < d.rows.length → okE d i = true := fun i hi => by
  unfold okLog at h
  rw [Bool.and_eq_true] at h
  exact List.all_eq_true.1 h.1 i (List.mem_range.2 hi)
 have hrow : ∀ i (hi : i < d.rows.length), row d i = d.rows[i] := fun i hi => by
  unfold row
  rw [List.getD_eq_getElem?_getD, List.getElem?_eq_getElem hi]
  rfl
 have step : ∀ i (hi : i + 1 < d.rows.length), (at' d.rows[i] 0).iv < (at' d.rows[i + 1] 0).iv := fun i hi => by
  have h1 := hall (i + 1) hi
  rcases okE_all h1 with ⟨_, h2, _⟩ | h2
  ·have e : prevOp d (i + 1) = (at' (row d i) 0).iv := rfl
   rw [e, hrow i (by omega), hrow (i + 1) hi] at h2
   exact h2
  ·have := prev_0 h (i + 1) (by omega)
   omega
 intro i j hi hj hij
 obtain ⟨k, rfl⟩ : ∃ k, j = i + 1 + k := ⟨j - (i + 1), by omega⟩
 clear hij
 induction k with
 | zero => exact step i hj
 | succ k ih =>
  have := ih (by omega)
  have h2 := step (i + 1 + k) (by omega)
  have e : (at' d.rows[i + 1 + (k + 1)] 0).iv = (at' d.rows[i + 1 + k + 1] 0).iv := rfl
  omega
theorem ent_find {d : CD} (h : okLog d = true) (hT : Typ (.sl sEnt) d) {r : List CD} (hr : r ∈ d.rows) {op : Int} (ho : (at' r 0).iv = op) : isE d.rows (vInt .i64 op) = true ∧ ∀ j, entE d.rows (vInt .i64 op) j = at' r j := by
 have hT' : ∀ q ∈ d.rows, Typ sI (at' q 0) := fun q hq => by
  obtain ⟨i, hi, rfl⟩ := List.getElem_of_mem hq
  have hl := hT.sl.1
  have e1 : row d (i : Int).toNat = d.rows[i] := by unfold row; rw [Int.toNat_natCast, List.getD_eq_getElem?_getD, List.getElem?_eq_getElem hi]; rfl
  rw [← e1]
  exact hT.cell (j := 0) (by omega) (by omega) rfl
 have heq : ∀ q ∈ d.rows, (eqC (at' q 0) (vInt .i64 op) = true) = ((at' q 0).iv = op) := fun q hq => eqC_lit (hT' q hq)
 have hup := ops_up h
 unfold isE entE
 constructor
 ·rw [List.any_eq_true]
  exact ⟨r, hr, by rw [heq r hr]; exact ho⟩
 ·intro j
  have hf : ∃ q, d.rows.find? (fun r => eqC (at' r 0) (vInt .i64 op)) = some q := by
   cases hc : d.rows.find? (fun r => eqC (at' r 0) (vInt .i64 op)) with
   | some q => exact ⟨q, rfl⟩
   | none =>
    rw [List.find?_eq_none] at hc
    exact absurd (by rw [heq r hr]; exact ho) (hc r hr)
  obtain ⟨q, hq⟩ := hf
  have h1 := List.mem_of_find?_eq_some hq
  have h2 : eqC (at' q 0) (vInt .i64 op) = true := List.find?_some (p := fun r => eqC (at' r 0) (vInt .i64 op)) hq
  rw [heq q h1] at h2
  have hqr : q = r := by
   obtain ⟨i, hi, rfl⟩ := List.getElem_of_mem h1
   obtain ⟨k, hk, rfl⟩ := List.getElem_of_mem hr
   have hp := List.pairwise_iff_getElem.1 hup
   rcases Nat.lt_trichotomy i k with hlt | heq | hlt
   ·have := hp i k hi hk hlt
    omega
   ·subst heq; rfl
   ·have := hp k i hk hi hlt
    omega
  rw [hq, hqr]
  rfl
theorem ent_mem {es : List (List CD)} {op : CD} (h : isE es op = true) : ∃ r ∈ es, eqC (at' r 0) op = true ∧ ∀ j, entE es op j = at' r j := by
 unfold isE at h
 unfold entE
 cases hc : es.find? (fun r => eqC (at' r 0) op) with
 | some q => exact ⟨q, List.mem_of_find?_eq_some hc, List.find?_some (p := fun r => eqC (at' r 0) op) hc, fun j => rfl⟩
 | none =>
  rw [List.find?_eq_none] at hc
  obtain ⟨r, hr, hh⟩ := List.any_eq_true.1 h
  exact absurd hh (hc r hr)
theorem count_le {b : Int → Int} (hb : ∀ i, b i = 0 ∨ b i = 1) {pop : Nat → Int} (h0 : pop 0 = 0) (hs : ∀ n : Nat, pop (n + 1) = pop n + b n) : ∀ (n : Nat) (L : List Int), (L.Pairwise fun x y => x ≠ y) → (∀ x ∈ L, 0 ≤ x ∧ x < n ∧ b x ≠ 1) → (L.length : Int) + pop n ≤ n
 | 0, L, _, hL => by
  have : L = [] := List.eq_nil_iff_forall_not_mem.2 fun x hx => by have := hL x hx; omega
  subst this
  rw [h0]
  simp
 | n + 1, L, hp, hL => by
  have ih := count_le hb h0 hs n (L.filter fun x => decide (x ≠ (n : Int))) (hp.filter _) fun x hx => by
   rw [List.mem_filter, decide_eq_true_eq] at hx
   have := hL x hx.1
   exact ⟨this.1, by omega, this.2.2⟩
  rw [hs n]
  by_cases hn : (n : Int) ∈ L
  ·have hbn : b n = 0 := by
    rcases hb n with h | h
    ·exact h
    ·exact absurd h (hL _ hn).2.2
   have hlen : L.length ≤ (L.filter fun x => decide (x ≠ (n : Int))).length + 1 := by
    clear ih hL
    induction L with
    | nil => simp
    | cons x L ihL =>
     rw [List.pairwise_cons] at hp
     by_cases hx : x = n
     ·subst hx
      have : L.filter (fun x => decide (x ≠ (n : Int))) = L := List.filter_eq_self.2 fun y hy => decide_eq_true (fun hh => hp.1 y hy hh.symm)
      rw [List.filter_cons_of_neg (by simp), this]
      simp
     ·rw [List.filter_cons_of_pos (by simpa using hx)]
      have hn' : (n : Int) ∈ L := by
       rcases List.mem_cons.1 hn with h | h
       ·exact absurd h.symm hx
       ·exact h
      have := ihL hp.2 hn'
      simp only [List.length_cons]
      omega
   omega
  ·have : (L.filter fun x => decide (x ≠ (n : Int))) = L := List.filter_eq_self.2 fun y hy => decide_eq_true (fun hh => hn (hh ▸ hy))
   rw [this] at ih
   rcases hb n with h | h <;> omega
theorem reps_apart {l n : CD} (h : okVs l n = true) (hT : Typ sVotes l) : l.rows.Pairwise fun a b => (at' a 0).iv ≠ (at' b 0).iv := by
 unfold okVs at h
 rw [Bool.and_eq_true] at h
 rw [List.pairwise_iff_getElem]
 intro i j hi hj hij he
 have h1 := List.all_eq_true.1 h.2 j (List.mem_range.2 hj)
 unfold okVt at h1
 rw [Bool.and_eq_true, Bool.not_eq_true'] at h1
 have hrow : ∀ i (hi : i < l.rows.length), row l i = l.rows[i] := fun i hi => by
  unfold row
  rw [List.getD_eq_getElem?_getD, List.getElem?_eq_getElem hi]
  rfl
 have h2 := h1.2
 rw [hrow j hj] at h2
 unfold repIn at h2
 rw [List.any_eq_false] at h2
 have hl := hT.sl.1
 have ti : ∀ i (hi : i < l.rows.length), Typ sI (at' l.rows[i] 0) := fun i hi => by
  have := hT.cell (i := i) (j := 0) (s := sI) (by omega) (by omega) rfl
  rw [cell_at, Int.toNat_natCast, hrow i hi] at this
  exact this
 refine h2 l.rows[i] (List.mem_take_iff_getElem.2 ⟨i, by omega, rfl⟩) ?_
 rw [eqC_ivn (ti i hi) (ti j hj)]
 exact he
theorem tw_mem {α : Type} {p : α → Bool} : ∀ {l : List α} {x : α}, x ∈ l.takeWhile p → p x = true
 | [], x, h => by cases h
 | y :: l, x, h => by
  rw [List.takeWhile_cons] at h
  split at h
  ·rename_i hy
   rcases List.mem_cons.1 h with rfl | h
   ·exact hy
   ·exact tw_mem h
  ·cases h
theorem bit01 (s i : Int) : (bitC s i).iv = 0 ∨ (bitC s i).iv = 1 := by
 unfold bitC
 generalize (orV (shfInt .shr .i64 s i)).iv = x
 show bits .and .i64 x 1 = 0 ∨ bits .and .i64 x 1 = 1
 have h : (BitVec.ofInt 64 x &&& BitVec.ofInt 64 1).toNat = (BitVec.ofInt 64 x).toNat % 2 := by
  rw [BitVec.toNat_and, show (BitVec.ofInt 64 1).toNat = 1 from rfl, Nat.and_one_is_mod]
 have e : bits .and .i64 x 1 = IntKind.i64.wrap (((BitVec.ofInt 64 x &&& BitVec.ofInt 64 1).toNat : Nat) : Int) := rfl
 rw [e, h]
 rcases Nat.mod_two_eq_zero_or_one (BitVec.ofInt 64 x).toNat with h | h <;> rw [h]
 ·exact .inl rfl
 ·exact .inr rfl
theorem pop_bounds (s : Int) : ∀ n : Nat, 0 ≤ popE s n ∧ popE s n ≤ n
 | 0 => ⟨Int.le_refl _, Int.le_refl _⟩
 | n + 1 => by
  have ih := pop_bounds s n
  have e : popE s (n + 1) = popE s n + (bitC s n).iv := rfl
  rcases bit01 s n with h | h <;> omega
theorem den_bound {l n : CD} {set op : Int} {vw : CD} (hk : okVs l n = true) (hT : Typ sVotes l) (hmaj : ¬ 2 * popE set n.iv.toNat ≤ n.iv) (hd : ∀ v ∈ l.rows, (bitC set (at' v 0).iv).iv = 1 → denV (vInt .i64 op) vw v = false) : ((l.rows.filter (denV (vInt .i64 op) vw)).length : Int) < enough n := by
 have hn : okN n = true := by unfold okVs at hk; rw [Bool.and_eq_true] at hk; exact hk.1
 have hA := hk
 unfold okVs at hA
 rw [Bool.and_eq_true] at hA
 have h := count_le (b := fun i => (bitC set i).iv) (pop := popE set) (bit01 set) rfl (fun _ => rfl) n.iv.toNat ((l.rows.filter (denV (vInt .i64 op) vw)).map fun v => (at' v 0).iv) (by
  rw [List.pairwise_map]
  exact (reps_apart hk hT).filter _) (by
  intro x hx
  obtain ⟨v, hv, rfl⟩ := List.mem_map.1 hx
  rw [List.mem_filter] at hv
  obtain ⟨i, hi, hvi⟩ := List.getElem_of_mem hv.1
  have h1 := List.all_eq_true.1 hA.2 i (List.mem_range.2 hi)
  unfold okVt at h1
  rw [Bool.and_eq_true] at h1
  have hr : row l i = v := by unfold row; rw [List.getD_eq_getElem?_getD, List.getElem?_eq_getElem hi]; exact hvi
  rw [hr] at h1
  obtain ⟨a1, a2, _⟩ := okV_all h1.1
  refine ⟨a1, by rcases okN_iv hn with ⟨h, _⟩ | ⟨h, _⟩ | ⟨h, _⟩ <;> omega, fun hb => ?_⟩
  rw [hd v hv.1 hb] at hv
  cases hv.2)
 rw [List.length_map] at h
 have hp := pop_bounds set n.iv.toNat
 rcases okN_iv hn with ⟨h1, h2⟩ | ⟨h1, h2⟩ | ⟨h1, h2⟩ <;> omega
theorem okA_of {l n : CD} (h : okVs l n = true) : okA l = true := by
 unfold okVs at h
 rw [Bool.and_eq_true] at h
 have hn : n.iv ≤ 7 := by rcases okN_iv h.1 with ⟨h1, _⟩ | ⟨h1, _⟩ | ⟨h1, _⟩ <;> omega
 unfold okA
 rw [List.all_eq_true]
 intro v hv
 obtain ⟨i, hi, rfl⟩ := List.getElem_of_mem hv
 have h2 := List.all_eq_true.1 h.2 i (List.mem_range.2 hi)
 unfold okVt at h2
 rw [Bool.and_eq_true] at h2
 have hr : row l i = l.rows[i] := by unfold row; rw [List.getD_eq_getElem?_getD, List.getElem?_eq_getElem hi]; rfl
 have h3 := h2.1
 rw [hr] at h3
 obtain ⟨a1, a2, a3, a4, a5, a6, a7, a8, a9⟩ := okV_all h3
 unfold okV
 simp only [Bool.and_eq_true, decide_eq_true_eq]
 exact ⟨⟨⟨⟨⟨⟨⟨⟨a1, by omega⟩, a3⟩, a4⟩, a5⟩, a6⟩, a7⟩, a8⟩, a9⟩
theorem row_typ {l : CD} (hT : Typ sVotes l) {v : List CD} (hv : v ∈ l.rows) : Typ sI (at' v 1) ∧ Typ (.sl sEnt) (at' v 4) := by
 obtain ⟨i, hi, rfl⟩ := List.getElem_of_mem hv
 have hl := hT.sl.1
 have e1 : row l (i : Int).toNat = l.rows[i] := by unfold row; rw [Int.toNat_natCast, List.getD_eq_getElem?_getD, List.getElem?_eq_getElem hi]; rfl
 rw [← e1]
 exact ⟨hT.cell (j := 1) (by omega) (by omega) rfl, hT.cell (j := 4) (by omega) (by omega) rfl⟩
theorem ent_typ2 {d : CD} (hT : Typ (.sl sEnt) d) {r : List CD} (hr : r ∈ d.rows) : Typ sI (at' r 0) ∧ Typ sI (at' r 1) ∧ Typ sI (at' r 2) := by
 obtain ⟨i, hi, rfl⟩ := List.getElem_of_mem hr
 have hl := hT.sl.1
 have e1 : row d (i : Int).toNat = d.rows[i] := by unfold row; rw [Int.toNat_natCast, List.getD_eq_getElem?_getD, List.getElem?_eq_getElem hi]; rfl
 rw [← e1]
 exact ⟨hT.cell (j := 0) (by omega) (by omega) rfl, hT.cell (j := 1) (by omega) (by omega) rfl, hT.cell (j := 2) (by omega) (by omega) rfl⟩
theorem op_kept {l n w : CD} {set op : Int} (hk : okVs l n = true) (hT : Typ sVotes l) (hw : Typ sI w) (hmaj : ¬ 2 * popE set n.iv.toNat ≤ n.iv)
  (ha : ∀ v ∈ l.rows, badA set v (vInt .i64 op) w = false) (hb : ∀ v ∈ l.rows, badB (vInt .i64 (lead l)) v (vInt .i64 op) w = false) :
  (view l op = -1 ∨ view l op = w.iv) ∧ ((l.rows.filter (denV (vInt .i64 op) (vInt .i64 (view l op)))).length : Int) < enough n := by
 have hA := okA_of hk
 have hv : view l op = -1 ∨ view l op = w.iv := by
  rcases viewL_at (op := op) (R := leadsR l.rows (lead l)) (m := -1) with h | ⟨v, h1, r, h2, h3, h4, h5⟩
  ·exact .inl h
  ·refine .inr ?_
   obtain ⟨h6, h7⟩ := leads_mem.1 h1
   obtain ⟨t1, t4⟩ := row_typ hT h6
   obtain ⟨_, _, _, _, _, _, _, _, hL⟩ := okV_all (okA_mem hA h6)
   obtain ⟨e1, e2⟩ := ent_find hL t4 h2 h3
   obtain ⟨_, q1, q2⟩ := ent_typ2 t4 h2
   have := hb v h6
   unfold badB fltE at this
   rw [e1, e2, e2] at this
   have x1 : eqC (at' v 1) (vInt .i64 (lead l)) = true := by rw [eqC_lit t1]; exact h7
   have x2 : eqC (at' r 2) (i0 3) = false := by
    rw [Bool.eq_false_iff]
    intro hh
    rw [show (eqC (at' r 2) (i0 3) = true) = ((at' r 2).iv = 3) from eqC_lit q2] at hh
    exact h4 hh
   rw [x1, x2] at this
   have x3 : eqC (at' r 1) w = true := by simpa using this
   rw [eqC_ivn q1 hw] at x3
   rw [show view l op = viewL op (-1) (leadsR l.rows (lead l)) from rfl, h5, x3]
 refine ⟨hv, den_bound hk hT hmaj fun v hv1 hbit => ?_⟩
 obtain ⟨t1, t4⟩ := row_typ hT hv1
 have := ha v hv1
 unfold badA fltE at this
 have x1 : eqC (bitC set (at' v 0).iv) (i0 1) = true := by
  have hc : ∃ z, bitC set (at' v 0).iv = .v (.int .i64 z) := ⟨_, rfl⟩
  obtain ⟨z, hz⟩ := hc
  rw [hz] at hbit ⊢
  exact decide_eq_true hbit
 rw [x1] at this
 cases hi : isE (at' v 4).rows (vInt .i64 op) with
 | false => rw [hi] at this; simp at this
 | true =>
  obtain ⟨r, hr, hr0, hrj⟩ := ent_mem hi
  obtain ⟨q0, q1, q2⟩ := ent_typ2 t4 hr
  rw [hi, hrj, hrj] at this
  unfold denV
  rw [Bool.not_eq_false']
  rw [List.any_eq_true]
  refine ⟨r, hr, ?_⟩
  unfold denR
  rw [hr0, Bool.true_and]
  cases h3 : eqC (at' r 2) (i0 3) with
  | true => rfl
  | false =>
   rw [h3] at this
   rw [Bool.false_or]
   have hst : (eqC (at' r 2) (i0 1) || eqC (at' r 2) (i0 4)) = true := by
    cases h1 : eqC (at' r 2) (i0 1) <;> cases h4 : eqC (at' r 2) (i0 4) <;> simp_all
   have hvw : eqC (at' r 1) w = true := by
    cases h1 : eqC (at' r 2) (i0 1) <;> cases h4 : eqC (at' r 2) (i0 4) <;> simp_all
   rw [hst, Bool.true_and]
   rcases hv with hv | hv
   ·rw [hv]
    rfl
   ·rw [Bool.or_eq_true]
    right
    rw [hv, ← typ_i0' hw]
    exact hvw
theorem keeps {l n views : CD} {set : Int} (hk : okVs l n = true) (hT : Typ sVotes l) (hV : Typ (.sl [sI]) views) (ht : takenE l n.iv set (commit l + 1) views = true) (he : errOf l n = 0) :
  commit l + views.rows.length ≤ endOp l ∧ ∀ k : Nat, k < views.rows.length → inH (heads l) (vInt .i64 (commit l + 1 + k)) (at' (row views k) 0) = true := by
 have hA := okA_of hk
 unfold takenE at ht
 rw [Bool.and_eq_true, Bool.not_eq_true', decide_eq_false_iff_not, List.all_eq_true] at ht
 obtain ⟨hmaj, hall⟩ := ht
 have hvl := hV.sl.1
 have hvt : ∀ k, k < views.rows.length → Typ sI (at' (row views k) 0) := fun k hk' => by
  have := hV.cell (i := k) (j := 0) (s := sI) (by omega) (by omega) rfl
  rw [cell_at, Int.toNat_natCast] at this
  exact this
 have hop : ∀ k, k < views.rows.length → (view l (commit l + 1 + k) = -1 ∨ view l (commit l + 1 + k) = (at' (row views k) 0).iv) ∧ ((l.rows.filter (denV (vInt .i64 (commit l + 1 + k)) (vInt .i64 (view l (commit l + 1 + k))))).length : Int) < enough n := fun k hk' => by
  have h1 : ∀ v ∈ l.rows, okK set (i0 (lead l)) (commit l + 1) views v k = true := fun v hv => by
   have := hall v hv
   unfold okTk at this
   rw [Bool.and_eq_true] at this
   exact List.all_eq_true.1 this.2 k (List.mem_range.2 hk')
  refine op_kept hk hT (hvt k hk') hmaj (fun v hv => ?_) (fun v hv => ?_)
  ·have := h1 v hv
   unfold okK at this
   rw [Bool.and_eq_true, Bool.not_eq_true', Bool.not_eq_true'] at this
   exact this.1
  ·have := h1 v hv
   unfold okK at this
   rw [Bool.and_eq_true, Bool.not_eq_true', Bool.not_eq_true'] at this
   exact this.2
 have herr : ¬ (l.len : Int) < enough n ∧ waitsE l (enough n) = false := by
  unfold errOf waits at he
  rw [if_pos hk] at he
  split at he
  ·cases he
  ·rename_i h1
   split at he
   ·cases he
   ·rename_i h2
    exact ⟨h1, by simpa using h2⟩
 have hne : l.rows ≠ [] := by
  intro h0
  have hn : okN n = true := by unfold okVs at hk; rw [Bool.and_eq_true] at hk; exact hk.1
  have h2 : l.len = 0 := by unfold CD.len; rw [h0]; rfl
  rcases okN_iv hn with ⟨_, h1⟩ | ⟨_, h1⟩ | ⟨_, h1⟩ <;> omega
 have htop : views.rows.length = 0 ∨ commit l + views.rows.length ≤ top l := by
  by_cases h0 : views.rows.length = 0
  ·exact .inl h0
  ·refine .inr ?_
   obtain ⟨v, hv⟩ := List.exists_mem_of_ne_nil _ (leads_ne hne fun v hv => (okV_all (okA_mem hA hv)).2.2.1)
   have hvl2 : v ∈ leadsR l.rows (lead l) := hv
   obtain ⟨h6, h7⟩ := leads_mem.1 hvl2
   obtain ⟨t1, _⟩ := row_typ hT h6
   have := hall v h6
   unfold okTk at this
   rw [Bool.and_eq_true, Bool.not_eq_true', show eqC (at' v 1) (i0 (lead l)) = true by rw [show (eqC (at' v 1) (i0 (lead l)) = true) = ((at' v 1).iv = lead l) from eqC_lit t1]; exact h7, Bool.true_and, decide_eq_false_iff_not] at this
   have h8 : (at' v 2).iv ≤ top l := maxI_mem hvl2
   omega
 have hend : commit l + views.rows.length ≤ endOp l := by
  apply Classical.byContradiction
  intro hc
  have h1 : endOp l = commit l + many l := rfl
  have h2 := (hop (many l) (by omega)).2
  have h3 := herr.2
  unfold waitsE at h3
  rw [Bool.and_eq_false_iff, decide_eq_false_iff_not, decide_eq_false_iff_not] at h3
  have e1 : endOp l + 1 = commit l + 1 + (many l : Nat) := by omega
  rcases h3 with h3 | h3
  ·omega
  ·rw [e1] at h3
   exact h3 h2
 refine ⟨hend, fun k hk' => ?_⟩
 have hok : okOp l (commit l + 1 + k) = true := by
  have h1 : endOp l = commit l + many l := rfl
  have h2 : k < many l := by omega
  unfold many at h2
  have h3 := List.getElem_mem h2
  have h4 : (List.range (top l - commit l).toNat).takeWhile (fun k : Nat => okOp l (commit l + 1 + k)) <+: List.range (top l - commit l).toNat := List.takeWhile_prefix _
  have h5 := tw_mem h3
  have h6 : ((List.range (top l - commit l).toNat).takeWhile fun k : Nat => okOp l (commit l + 1 + k))[k] = k := by
   have := h4.getElem h2
   rw [this, List.getElem_range]
  rw [h6] at h5
  exact h5
 have hpos : 0 ≤ view l (commit l + 1 + k) := by
  apply Classical.byContradiction
  intro hc
  rw [ok_neg hA hT (by omega)] at hok
  cases hok
 have hvw : view l (commit l + 1 + k) = (at' (row views k) 0).iv := by
  rcases (hop k hk').1 with h | h
  ·omega
  ·exact h
 have hc0 := com_0 (l := l)
 unfold inH
 rw [List.any_eq_true]
 refine ⟨[i0 (commit l + 1 + k), i0 (view l (commit l + 1 + k))], heads_mem.2 ⟨(commit l + 1 + k).toNat, by omega, ?_, ?_⟩, ?_⟩
 ·rw [Int.toNat_of_nonneg (by omega)]; exact hpos
 ·rw [Int.toNat_of_nonneg (by omega)]
 ·rw [Bool.and_eq_true]
  refine ⟨decide_eq_true rfl, ?_⟩
  rw [hvw]
  show eqC (vInt .i64 (at' (row views k) 0).iv) (at' (row views k) 0) = true
  rw [← typ_i0' (hvt k hk')]
  exact eqC_refl (hvt k hk')
end Go.Proofs.Ytlbbkmcegbeckaa.Cn

set_option linter.unusedSectionVars false
set_option linter.unusedVariables false
set_option linter.unusedSimpArgs false
namespace Go.Proofs.Ytlbbkmcegbeckaa.Cn
open Go.Sx Go.Proofs
theorem maxI_z' {j : Nat} {R : List (List CD)} : maxI j (R.take 0) = 0 := by rw [List.take_zero]; rfl
theorem m1_next {l : CD} {i : Int} (hT : Typ sVotes l) (h0 : 0 ≤ i) (hi : i < l.len) : vInt .i64 (maxI 1 (l.rows.take (i + 1).toNat)) = if maxI 1 (l.rows.take i.toNat) < (at' (row l i.toNat) 1).iv then at' (row l i.toNat) 1 else vInt .i64 (maxI 1 (l.rows.take i.toNat)) := by
 have h1 := maxI_succ (j := 1) h0 hi
 have t1 := typ_i0 (hT.cell (j := 1) h0 hi rfl)
 rw [cell_at] at t1
 rw [h1]
 generalize at' (row l i.toNat) 1 = r at t1 ⊢
 generalize maxI 1 (l.rows.take i.toNat) = m
 split
 ·rw [show max m r.iv = r.iv by omega]
  exact t1.symm
 ·rw [show max m r.iv = m by omega]
theorem m3_next {l : CD} {i : Int} (hT : Typ sVotes l) (h0 : 0 ≤ i) (hi : i < l.len) : vInt .i64 (maxI 3 (l.rows.take (i + 1).toNat)) = if maxI 3 (l.rows.take i.toNat) < (at' (row l i.toNat) 3).iv then at' (row l i.toNat) 3 else vInt .i64 (maxI 3 (l.rows.take i.toNat)) := by
 have h1 := maxI_succ (j := 3) h0 hi
 have t1 := typ_i0 (hT.cell (j := 3) h0 hi rfl)
 rw [cell_at] at t1
 rw [h1]
 generalize at' (row l i.toNat) 3 = r at t1 ⊢
 generalize maxI 3 (l.rows.take i.toNat) = m
 split
 ·rw [show max m r.iv = r.iv by omega]
  exact t1.symm
 ·rw [show max m r.iv = m by omega]
noncomputable def SMost : Fsp := ⟨[(false, [sVotes])], [], [(false, [sI]), (false, [sI])], [([], [[.ap (.usr 140) [.var 0]], [.ap (.usr 142) [.var 0]]])], true⟩
noncomputable def lp44 : Lp := ⟨[(.slot 4, .int .i64), (.slot 5, .int .i64), (.slot 6, .int .i64)], [0], [], fun F H k => [.ap .le [zI, .var (k+2)], .ap .le [.var (k+2), .ap .len [.var 0]], .ap .same [.var k, .ap (.usr 141) [.var 0, .var (k+2)]], .ap .same [.var (k+1), .ap (.usr 143) [.var 0, .var (k+2)]]], fun F H k => .ap (.sub .i64) [.ap .len [.var 0], .var (k+2)]⟩
abbrev r44_h0 : List X := [(.ap .le [(I 0), (.var 3)]), (.ap .le [(.var 3), (.ap .len [(.var 0)])]), (.ap .same [(.var 1), (.ap (.usr 141) [(.var 0), (.var 3)])]), (.ap .same [(.var 2), (.ap (.usr 143) [(.var 0), (.var 3)])]), (.ap (.typ sVotes) [(.var 0)])]
def r44_v : List VC := [([(.ap (.typ sVotes) [(.var 0)])], (.ap .same [(I 0), (.ap (.usr 141) [(.var 0), (I 0)])])),
 ([(.ap (.typ sVotes) [(.var 0)])], (.ap .same [(I 0), (.ap (.usr 143) [(.var 0), (I 0)])])),
 (((.ap .lt [(.var 3), (.ap .len [(.var 0)])]) :: r44_h0), (.ap .same [(.ap .ite [(.ap .lt [(.var 1), (.ap (.cell 1) [(.var 0), (.var 3)])]), (.ap (.cell 1) [(.var 0), (.var 3)]), (.var 1)]), (.ap (.usr 141) [(.var 0), (.ap (.add .i64) [(.var 3), (I 1)])])])),
 (((.ap .lt [(.var 3), (.ap .len [(.var 0)])]) :: r44_h0), (.ap .same [(.ap .ite [(.ap .lt [(.var 2), (.ap (.cell 3) [(.var 0), (.var 3)])]), (.ap (.cell 3) [(.var 0), (.var 3)]), (.var 2)]), (.ap (.usr 143) [(.var 0), (.ap (.add .i64) [(.var 3), (I 1)])])]))]
def r44_o : List (List X × List (List X)) := [(((.ap .not [(.ap .lt [(.var 3), (.ap .len [(.var 0)])])]) :: r44_h0), [[(.var 1)], [(.var 2)]])]
theorem r44_eq : runS Try.prog (specO T0) 10 6 ⟨hintL [(3, lp44)], hintA []⟩ Try.f44 (bodyOf Try.f44) SMost = some (r44_v, r44_o) := by kernel_rfl
set_option maxHeartbeats 4000000 in
set_option maxRecDepth 100000 in
theorem c44 : SpecOK U Try.prog 44 SMost := by
 refine SpecOK.of (P := Try.prog) (U := U) (T := T0) (f := 44) (fn := Try.f44) (fuel := 10) (fk := 6) (hs := ⟨hintL [(3, lp44)], hintA []⟩) (S := SMost) (v := r44_v) (outs := r44_o) mixed hT0 at44 r44_eq ?_ ?_
 ·unfold r44_v
  repeat' (first | exact vcs_nil _ | refine vcs_cons (fun v hh => ?_) ?_)
  all_goals
   simp only [w_var, w_lit, w_ivi, w_bvb, w_add, b_lt, b_le, b_not, b_typ, b_same, w_ite, w_len, w_cell, w_usr, w_l0, w_l1, w_vint, w_vbool, w_tru, w_holds0, w_holds1, w_rows, w_nilb, us140, us141, us142, us143, mnX, mxX, cell_at, l1_inj, vi_lit, vInt_inj, tn0, maxI_z', r44_h0] at hh ⊢
   repeat (obtain ⟨_, hh⟩ := hh)
   try (first | grind [take_allT, m1_next, m3_next, lead, commit, = w_vint])
 ·intro o ho σ hU hh
  obtain ⟨v⟩ := σ
  cases hU
  simp only [r44_o, List.mem_cons, List.not_mem_nil, or_false] at ho
  repeat' (first | (rcases ho with rfl | ho) | subst ho)
  all_goals
   refine ⟨_, List.mem_cons_self .., by simp only [w_var, w_lit, w_ivi, w_bvb, w_add, b_lt, b_le, b_not, b_typ, b_same, w_ite, w_len, w_cell, w_usr, w_l0, w_l1, w_vint, w_vbool, w_tru, w_holds0, w_holds1, w_rows, w_nilb], ?_⟩
   simp only [w_var, w_lit, w_ivi, w_bvb, w_add, b_lt, b_le, b_not, b_typ, b_same, w_ite, w_len, w_cell, w_usr, w_l0, w_l1, w_vint, w_vbool, w_tru, w_holds0, w_holds1, w_rows, w_nilb, us140, us141, us142, us143, mnX, mxX, cell_at, l1_inj, vi_lit, vInt_inj, tn0, maxI_z', r44_h0] at hh
   simp only [List.map_cons, List.map_nil, w_var, w_lit, w_ivi, w_bvb, w_add, b_lt, b_le, b_not, b_typ, b_same, w_ite, w_len, w_cell, w_usr, w_l0, w_l1, w_vint, w_vbool, w_tru, w_holds0, w_holds1, w_rows, w_nilb, w_lt, w_le, w_not, w_same, w_typ, us140, us141, us142, us143, mnX, mxX, cell_at, l1_inj, vi_lit, vInt_inj, tn0, maxI_z']
   repeat (obtain ⟨_, hh⟩ := hh)
   try (first | grind [take_allT, m1_next, m3_next, lead, commit, = w_vint])
theorem isE_z {es : List (List CD)} {op : CD} : isE (es.take 0) op = false := by rw [List.take_zero]; rfl
theorem isE_succ {d op : CD} {i : Int} (h0 : 0 ≤ i) (h : i < d.len) : isE (d.rows.take (i + 1).toNat) op = (isE (d.rows.take i.toNat) op || eqC (at' (row d i.toNat) 0) op) := any_succ (f := fun r => eqC (at' r 0) op) h0 h
theorem isE_all {d op : CD} {i : Int} (hT : Typ (.sl sEnt) d) (hi : ¬ i < d.len) : isE (d.rows.take i.toNat) op = isE d.rows op := by rw [take_allT hT hi]
theorem isE_row {d op : CD} {i : Int} (h0 : 0 ≤ i) (hi : i < d.len) (h : eqC (at' (row d i.toNat) 0) op = true) : isE d.rows op = true := by
 unfold isE
 rw [List.any_eq_true]
 have hlt : i.toNat < d.rows.length := by rcases len_lt hi with h | h <;> omega
 refine ⟨row d i.toNat, ?_, h⟩
 unfold row
 rw [List.getD_eq_getElem?_getD, List.getElem?_eq_getElem hlt]
 exact List.getElem_mem hlt
theorem entE_row {d op : CD} {i : Int} {j : Nat} (h0 : 0 ≤ i) (hi : i < d.len) (hn : ¬ isE (d.rows.take i.toNat) op = true) (h : eqC (at' (row d i.toNat) 0) op = true) : entE d.rows op j = at' (row d i.toNat) j := by
 have hlt : i.toNat < d.rows.length := by rcases len_lt hi with h | h <;> omega
 have hr : row d i.toNat = d.rows[i.toNat] := by unfold row; rw [List.getD_eq_getElem?_getD, List.getElem?_eq_getElem hlt]; rfl
 have hn' : (d.rows.take i.toNat).find? (fun r => eqC (at' r 0) op) = none := by
  rw [List.find?_eq_none]
  intro r hr' hh
  exact hn (List.any_eq_true.2 ⟨r, hr', hh⟩)
 have hf : d.rows.find? (fun r => eqC (at' r 0) op) = some (row d i.toNat) := by
  conv => lhs; rw [split_at hlt]
  rw [List.find?_append, hn', Option.none_or, List.find?_cons_of_pos (by rw [← hr]; exact h), hr]
 unfold entE
 rw [hf]
 rfl
theorem entE_none {es : List (List CD)} {op : CD} {j : Nat} (h : ¬ isE es op = true) (hj : j < 3) : entE es op j = vInt .i64 0 := by
 have hn' : es.find? (fun r => eqC (at' r 0) op) = none := by
  rw [List.find?_eq_none]
  intro r hr' hh
  exact h (List.any_eq_true.2 ⟨r, hr', hh⟩)
 unfold entE
 rw [hn']
 match j, hj with
 | 0, _ => rfl
 | 1, _ => rfl
 | 2, _ => rfl
theorem entE_n0 {es : List (List CD)} {op : CD} (h : ¬ isE es op = true) : entE es op 0 = vInt .i64 0 := entE_none h (by omega)
theorem entE_n1 {es : List (List CD)} {op : CD} (h : ¬ isE es op = true) : entE es op 1 = vInt .i64 0 := entE_none h (by omega)
theorem entE_n2 {es : List (List CD)} {op : CD} (h : ¬ isE es op = true) : entE es op 2 = vInt .i64 0 := entE_none h (by omega)
noncomputable def SEntry : Fsp := ⟨[(true, sVote), (false, [sI])], [], [(true, sEnt), (false, [.bool])], [([], [[.ap (.usr 175) [.var 4, .var 5], .ap (.usr 176) [.var 4, .var 5], .ap (.usr 177) [.var 4, .var 5]], [.ap (.usr 174) [.var 4, .var 5]]])], true⟩
noncomputable def lp94 : Lp := ⟨[(.slot 6, .int .i64)], [0, 1, 2, 4, 5], [], fun F H k => [.ap .le [zI, .var k], .ap .le [.var k, .ap .len [.var 4]], .ap .not [.ap (.usr 178) [.var 4, .var 5, .var k]]], fun F H k => .ap (.sub .i64) [.ap .len [.var 4], .var k]⟩
abbrev r94_h0 : List X := [(.ap .le [mnX, (.var 0)]), (.ap .le [(.var 0), mxX]), (.ap .le [mnX, (.var 1)]), (.ap .le [(.var 1), mxX]), (.ap .le [mnX, (.var 2)]), (.ap .le [(.var 2), mxX]), (.ap .le [mnX, (.var 3)]), (.ap .le [(.var 3), mxX]), (.ap (.typ (.sl sEnt)) [(.var 4)]), (.ap .le [mnX, (.var 5)]), (.ap .le [(.var 5), mxX])]
abbrev r94_h1 : List X := (.ap .le [(I 0), (.var 6)]) :: (.ap .le [(.var 6), (.ap .len [(.var 4)])]) :: (.ap .not [(.ap (.usr 178) [(.var 4), (.var 5), (.var 6)])]) :: r94_h0
def r94_v : List VC := [(r94_h0, (.ap .not [(.ap (.usr 178) [(.var 4), (.var 5), (I 0)])])),
 (((.ap .not [(.ap .eq [(.ap (.cell 0) [(.var 4), (.var 6)]), (.var 5)])]) :: (.ap .lt [(.var 6), (.ap .len [(.var 4)])]) :: r94_h1), (.ap .not [(.ap (.usr 178) [(.var 4), (.var 5), (.ap (.add .i64) [(.var 6), (I 1)])])]))]
def r94_o : List (List X × List (List X)) := [(((.ap .eq [(.ap (.cell 0) [(.var 4), (.var 6)]), (.var 5)]) :: (.ap .lt [(.var 6), (.ap .len [(.var 4)])]) :: r94_h1), [[(.ap (.cell 0) [(.var 4), (.var 6)]), (.ap (.cell 1) [(.var 4), (.var 6)]), (.ap (.cell 2) [(.var 4), (.var 6)])], [(.lit (.bool true))]]),
 (((.ap .not [(.ap .lt [(.var 6), (.ap .len [(.var 4)])])]) :: r94_h1), [[(I 0), (I 0), (I 0)], [(.lit (.bool false))]])]
theorem r94_eq : runS Try.prog (specO T0) 10 6 ⟨hintL [(2, lp94)], hintA []⟩ Try.f94 (bodyOf Try.f94) SEntry = some (r94_v, r94_o) := by kernel_rfl
set_option maxHeartbeats 4000000 in
set_option maxRecDepth 100000 in
theorem c94 : SpecOK U Try.prog 94 SEntry := by
 refine SpecOK.of (P := Try.prog) (U := U) (T := T0) (f := 94) (fn := Try.f94) (fuel := 10) (fk := 6) (hs := ⟨hintL [(2, lp94)], hintA []⟩) (S := SEntry) (v := r94_v) (outs := r94_o) mixed hT0 at94 r94_eq ?_ ?_
 ·unfold r94_v
  repeat' (first | exact vcs_nil _ | refine vcs_cons (fun v hh => ?_) ?_)
  all_goals
   simp only [w_var, w_lit, w_ivi, w_bvb, w_add, b_lt, b_le, b_eq, b_not, b_typ, w_len, w_cell, w_usr, w_l0, w_l1, w_vint, w_vbool, w_tru, w_holds0, w_holds1, w_rows, w_nilb, us174, us175, us176, us177, us178, mnX, mxX, cell_at, l1_inj, vi_lit, vb_lit, vInt_inj, vBool_inj, tn0, isE_z, r94_h0, r94_h1] at hh ⊢
   repeat (obtain ⟨_, hh⟩ := hh)
   try (first | grind [isE_succ, isE_all, isE_row, entE_row, entE_n0, entE_n1, entE_n2, = w_vint])
 ·intro o ho σ hU hh
  obtain ⟨v⟩ := σ
  cases hU
  simp only [r94_o, List.mem_cons, List.not_mem_nil, or_false] at ho
  repeat' (first | (rcases ho with rfl | ho) | subst ho)
  all_goals
   refine ⟨_, List.mem_cons_self .., by simp only [w_var, w_lit, w_ivi, w_bvb, w_add, b_lt, b_le, b_eq, b_not, b_typ, w_len, w_cell, w_usr, w_l0, w_l1, w_vint, w_vbool, w_tru, w_holds0, w_holds1, w_rows, w_nilb], ?_⟩
   simp only [w_var, w_lit, w_ivi, w_bvb, w_add, b_lt, b_le, b_eq, b_not, b_typ, w_len, w_cell, w_usr, w_l0, w_l1, w_vint, w_vbool, w_tru, w_holds0, w_holds1, w_rows, w_nilb, us174, us175, us176, us177, us178, mnX, mxX, cell_at, l1_inj, vi_lit, vb_lit, vInt_inj, vBool_inj, tn0, isE_z, r94_h0, r94_h1] at hh
   simp only [List.map_cons, List.map_nil, w_var, w_lit, w_ivi, w_bvb, w_add, b_lt, b_le, b_eq, b_not, b_typ, w_len, w_cell, w_usr, w_l0, w_l1, w_vint, w_vbool, w_tru, w_holds0, w_holds1, w_rows, w_nilb, w_lt, w_le, w_eq, w_not, w_typ, us174, us175, us176, us177, us178, mnX, mxX, cell_at, l1_inj, vi_lit, vb_lit, vInt_inj, vBool_inj, tn0, isE_z]
   repeat (obtain ⟨_, hh⟩ := hh)
   try (first | grind [isE_succ, isE_all, isE_row, entE_row, entE_n0, entE_n1, entE_n2, = w_vint])
theorem inH_z {hs : List (List CD)} {a b : CD} : inH (hs.take 0) a b = false := by rw [List.take_zero]; rfl
theorem inH_succ {d a b : CD} {i : Int} (h0 : 0 ≤ i) (h : i < d.len) : inH (d.rows.take (i + 1).toNat) a b = (inH (d.rows.take i.toNat) a b || (eqC (at' (row d i.toNat) 0) a && eqC (at' (row d i.toNat) 1) b)) := any_succ (f := fun r => eqC (at' r 0) a && eqC (at' r 1) b) h0 h
theorem inH_all {d a b : CD} {i : Int} (hT : Typ (.sl sHead) d) (hi : ¬ i < d.len) : inH (d.rows.take i.toNat) a b = inH d.rows a b := by rw [take_allT hT hi]
theorem inH_row {d a b : CD} {i : Int} (h0 : 0 ≤ i) (hi : i < d.len) (h1 : eqC (at' (row d i.toNat) 0) a = true) (h2 : eqC (at' (row d i.toNat) 1) b = true) : inH d.rows a b = true := by
 unfold inH
 rw [List.any_eq_true]
 have hlt : i.toNat < d.rows.length := by rcases len_lt hi with h | h <;> omega
 refine ⟨row d i.toNat, ?_, by rw [h1, h2]; rfl⟩
 unfold row
 rw [List.getD_eq_getElem?_getD, List.getElem?_eq_getElem hlt]
 exact List.getElem_mem hlt
noncomputable def SIn : Fsp := ⟨[(false, [.sl sHead]), (true, sHead)], [], [(false, [.bool])], [([], [[.ap (.usr 179) [.var 0, .var 1, .var 2]]])], true⟩
noncomputable def lp46 : Lp := ⟨[(.slot 5, .int .i64)], [0, 1, 3, 4], [], fun F H k => [.ap .le [zI, .var k], .ap .le [.var k, .ap .len [.var 0]], .ap .not [.ap (.usr 180) [.var 0, .var 1, .var 2, .var k]]], fun F H k => .ap (.sub .i64) [.ap .len [.var 0], .var k]⟩
abbrev r46_h0 : List X := [(.ap (.typ (.sl sHead)) [(.var 0)]), (.ap .le [mnX, (.var 1)]), (.ap .le [(.var 1), mxX]), (.ap .le [mnX, (.var 2)]), (.ap .le [(.var 2), mxX])]
abbrev r46_h1 : List X := (.ap .le [(I 0), (.var 3)]) :: (.ap .le [(.var 3), (.ap .len [(.var 0)])]) :: (.ap .not [(.ap (.usr 180) [(.var 0), (.var 1), (.var 2), (.var 3)])]) :: r46_h0
def r46_v : List VC := [(r46_h0, (.ap .not [(.ap (.usr 180) [(.var 0), (.var 1), (.var 2), (I 0)])])),
 (((.ap .not [(.ap .and [(.ap .eq [(.ap (.cell 0) [(.var 0), (.var 3)]), (.var 1)]), (.ap .and [(.ap .eq [(.ap (.cell 1) [(.var 0), (.var 3)]), (.var 2)]), (.lit (.bool true))])])]) :: (.ap .lt [(.var 3), (.ap .len [(.var 0)])]) :: r46_h1), (.ap .not [(.ap (.usr 180) [(.var 0), (.var 1), (.var 2), (.ap (.add .i64) [(.var 3), (I 1)])])]))]
def r46_o : List (List X × List (List X)) := [(((.ap .and [(.ap .eq [(.ap (.cell 0) [(.var 0), (.var 3)]), (.var 1)]), (.ap .and [(.ap .eq [(.ap (.cell 1) [(.var 0), (.var 3)]), (.var 2)]), (.lit (.bool true))])]) :: (.ap .lt [(.var 3), (.ap .len [(.var 0)])]) :: r46_h1), [[(.lit (.bool true))]]),
 (((.ap .not [(.ap .lt [(.var 3), (.ap .len [(.var 0)])])]) :: r46_h1), [[(.lit (.bool false))]])]
theorem r46_eq : runS Try.prog (specO T0) 10 6 ⟨hintL [(2, lp46)], hintA []⟩ Try.f46 (bodyOf Try.f46) SIn = some (r46_v, r46_o) := by kernel_rfl
set_option maxHeartbeats 4000000 in
set_option maxRecDepth 100000 in
theorem c46 : SpecOK U Try.prog 46 SIn := by
 refine SpecOK.of (P := Try.prog) (U := U) (T := T0) (f := 46) (fn := Try.f46) (fuel := 10) (fk := 6) (hs := ⟨hintL [(2, lp46)], hintA []⟩) (S := SIn) (v := r46_v) (outs := r46_o) mixed hT0 at46 r46_eq ?_ ?_
 ·unfold r46_v
  repeat' (first | exact vcs_nil _ | refine vcs_cons (fun v hh => ?_) ?_)
  all_goals
   simp only [w_var, w_lit, w_ivi, w_bvb, w_add, b_lt, b_le, b_eq, b_not, b_and, b_typ, w_len, w_cell, w_usr, w_l0, w_l1, w_vint, w_vbool, w_tru, w_holds0, w_holds1, w_rows, w_nilb, us179, us180, mnX, mxX, cell_at, l1_inj, vi_lit, vb_lit, vInt_inj, vBool_inj, tn0, inH_z, r46_h0, r46_h1] at hh ⊢
   repeat (obtain ⟨_, hh⟩ := hh)
   try (first | grind [inH_succ, inH_all, inH_row, = w_vint])
 ·intro o ho σ hU hh
  obtain ⟨v⟩ := σ
  cases hU
  simp only [r46_o, List.mem_cons, List.not_mem_nil, or_false] at ho
  repeat' (first | (rcases ho with rfl | ho) | subst ho)
  all_goals
   refine ⟨_, List.mem_cons_self .., by simp only [w_var, w_lit, w_ivi, w_bvb, w_add, b_lt, b_le, b_eq, b_not, b_and, b_typ, w_len, w_cell, w_usr, w_l0, w_l1, w_vint, w_vbool, w_tru, w_holds0, w_holds1, w_rows, w_nilb], ?_⟩
   simp only [w_var, w_lit, w_ivi, w_bvb, w_add, b_lt, b_le, b_eq, b_not, b_and, b_typ, w_len, w_cell, w_usr, w_l0, w_l1, w_vint, w_vbool, w_tru, w_holds0, w_holds1, w_rows, w_nilb, us179, us180, mnX, mxX, cell_at, l1_inj, vi_lit, vb_lit, vInt_inj, vBool_inj, tn0, inH_z, r46_h0, r46_h1] at hh
   simp only [List.map_cons, List.map_nil, w_var, w_lit, w_ivi, w_bvb, w_add, b_lt, b_le, b_eq, b_not, b_and, b_typ, w_len, w_cell, w_usr, w_l0, w_l1, w_vint, w_vbool, w_tru, w_holds0, w_holds1, w_rows, w_nilb, w_lt, w_le, w_eq, w_not, w_and, w_typ, us179, us180, mnX, mxX, cell_at, l1_inj, vi_lit, vb_lit, vInt_inj, vBool_inj, tn0, inH_z]
   repeat (obtain ⟨_, hh⟩ := hh)
   try (first | grind [inH_succ, inH_all, inH_row, = w_vint])
end Go.Proofs.Ytlbbkmcegbeckaa.Cn
