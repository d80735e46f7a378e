/-
  Contracts of a chapter's functions: what is compared, copied; which votes may be. Conditions: none.
  What the functions of a chapter (votes) make: laws of it, in plain Lean. Conditions: none.
-/
import Derived.Test.YtlbbkmcegbeckaaSnD
import Derived.Test.YtlbbkmcegbeckaaSnA
set_option linter.unusedSectionVars false
set_option linter.unusedVariables false
set_option linter.unusedSimpArgs false
namespace Go.Proofs.Ytlbbkmcegbeckaa.Cn
open Go.Sx Go.Proofs
noncomputable def lp1 (a : Nat) (ks : List Nat) (f : X → X) : Lp := ⟨[(.slot a, .int .i64)], ks, [0], fun F H k => [.ap .le [zI, .var k], .ap .le [.var k, .ap .len [.var 0]], f (.var k)], fun F H k => .ap (.sub .i64) [.ap .len [.var 0], .var k]⟩
noncomputable def S30 : Fsp := ⟨[(false, [sVotes])], [], [(false, [.bool])], [([], [[.ap (.usr 127) [.var 0]]])], true⟩
theorem large_row {l : CD} {i : Int} (h0 : 0 ≤ i) (hi : i < l.len) (h : 80 < (at' (row l i.toNat) 4).len) : large l = true := any_row (f := fun v => decide (80 < (at' v 4).len)) h0 hi (decide_eq_true h)
theorem large_all {ss : List Srt} {l : CD} {i : Int} (hT : Typ (.sl ss) l) (hi : ¬ i < l.len) : ((l.rows.take i.toNat).any fun v => decide (80 < (at' v 4).len)) = large l := by
 rw [take_allT hT hi]
 rfl
abbrev r30_h0 : List X := [(.ap .le [(I 0), (.var 1)]), (.ap .le [(.var 1), (.ap .len [(.var 0)])]), (.ap .not [(.ap (.usr 128) [(.var 0), (.var 1)])]), (.ap (.typ sVotes) [(.var 0)])]
def r30_v : List VC := [([(.ap (.typ sVotes) [(.var 0)])], (.ap .not [(.ap (.usr 128) [(.var 0), (I 0)])])),
 (((.ap .not [(.ap .lt [(I 80), (.ap .len [(.ap (.cell 4) [(.var 0), (.var 1)])])])]) :: (.ap .lt [(.var 1), (.ap .len [(.var 0)])]) :: r30_h0), (.ap .not [(.ap (.usr 128) [(.var 0), (.ap (.add .i64) [(.var 1), (I 1)])])]))]
def r30_o : List (List X × List (List X)) := [(((.ap .lt [(I 80), (.ap .len [(.ap (.cell 4) [(.var 0), (.var 1)])])]) :: (.ap .lt [(.var 1), (.ap .len [(.var 0)])]) :: r30_h0), [[(.lit (.bool true))]]),
 (((.ap .not [(.ap .lt [(.var 1), (.ap .len [(.var 0)])])]) :: r30_h0), [[(.ap .lt [(I 10), (.ap .len [(.var 0)])])]])]
theorem r30_eq : runS Try.prog (specO T0) 10 6 ⟨hintL [(2, lp1 3 [0] fun i => .ap .not [.ap (.usr 128) [.var 0, i]])], hintA []⟩ Try.f30 (bodyOf Try.f30) S30 = some (r30_v, r30_o) := by kernel_rfl
set_option maxHeartbeats 4000000 in
set_option maxRecDepth 100000 in
theorem c30 : SpecOK U Try.prog 30 S30 := by
 refine SpecOK.of (P := Try.prog) (U := U) (T := T0) (f := 30) (fn := Try.f30) (fuel := 10) (fk := 6) (hs := ⟨hintL [(2, lp1 3 [0] fun i => .ap .not [.ap (.usr 128) [.var 0, i]])], hintA []⟩) (S := S30) (v := r30_v) (outs := r30_o) mixed hT0 at30 r30_eq ?_ ?_
 ·unfold r30_v
  repeat' (first | exact vcs_nil _ | refine vcs_cons (fun v hh => ?_) ?_)
  all_goals
   simp only [w_var, w_lit, w_ivi, w_bvb, w_add, b_lt, b_le, b_not, b_typ, w_len, w_cell, w_usr, w_l0, w_l1, w_vint, w_vbool, w_tru, w_holds0, w_holds1, w_rows, w_nilb, us127, us128, mnX, mxX, cell_at, l1_inj, vBool_inj, vb_lit, r30_h0] at hh ⊢
   repeat (obtain ⟨_, hh⟩ := hh)
   try (first | grind [any_succ, large_row, large_all, = w_vint])
 ·intro o ho σ hU hh
  obtain ⟨v⟩ := σ
  cases hU
  simp only [r30_o, List.mem_cons, List.not_mem_nil, or_false] at ho
  repeat' (first | (rcases ho with rfl | ho) | subst ho)
  all_goals
   refine ⟨_, List.mem_cons_self .., by simp only [w_var, w_lit, w_ivi, w_bvb, w_add, b_lt, b_le, b_not, b_typ, w_len, w_cell, w_usr, w_l0, w_l1, w_vint, w_vbool, w_tru, w_holds0, w_holds1, w_rows, w_nilb], ?_⟩
   simp only [w_var, w_lit, w_ivi, w_bvb, w_add, b_lt, b_le, b_not, b_typ, w_len, w_cell, w_usr, w_l0, w_l1, w_vint, w_vbool, w_tru, w_holds0, w_holds1, w_rows, w_nilb, us127, us128, mnX, mxX, cell_at, l1_inj, vBool_inj, vb_lit, r30_h0] at hh
   simp only [List.map_cons, List.map_nil, w_var, w_lit, w_ivi, w_bvb, w_add, b_lt, b_le, b_not, b_typ, w_len, w_cell, w_usr, w_l0, w_l1, w_vint, w_vbool, w_tru, w_holds0, w_holds1, w_rows, w_nilb, w_lt, w_le, w_not, w_typ, us127, us128, mnX, mxX, cell_at, l1_inj, vBool_inj, vb_lit]
   repeat (obtain ⟨_, hh⟩ := hh)
   try (first | grind [any_succ, large_row, large_all, = w_vint])
noncomputable def S31 : Fsp := ⟨[(false, [sVotes])], [.ap .le [.ap .len [.var 0], I 10], .ap .not [.ap (.usr 119) [.var 0]]], [(false, [sVotes])], [([], [[.ap (.usr 129) [.var 0]]])], true⟩
noncomputable def lp31 : Lp := ⟨[(.slot 3, .own true sVote), (.slot 4, .int .i64)], [0], [], fun F H k => [.ap .le [zI, .var (k+2)], .ap .le [.var (k+2), .ap .len [.var 0]], .ap .le [.var k, .var (k+2)], .ap .same [.ap (.mk true) [.var (k+1)], .ap (.usr 130) [.var 0, .var (k+2)]]], fun F H k => .ap (.sub .i64) [.ap .len [.var 0], .var (k+2)]⟩
noncomputable def as31 : Fm → HP → List X := fun F H => [.ap .le [.ap .len [.ap (.cell 4) [.var 0, sx F 4]], I 80]]
abbrev r31_h0 : List X := [(.ap (.typ sVotes) [(.var 0)]), (.ap .le [(.ap .len [(.var 0)]), (I 10)]), (.ap .not [(.ap (.usr 119) [(.var 0)])])]
abbrev r31_h1 : List X := (.ap .le [(I 0), (.var 3)]) :: (.ap .le [(.var 3), (.ap .len [(.var 0)])]) :: (.ap .le [(.var 1), (.var 3)]) :: (.ap .same [(.ap (.mk true) [(.var 2)]), (.ap (.usr 130) [(.var 0), (.var 3)])]) :: r31_h0
def r31_v : List VC := [(r31_h0, (.ap .same [(.ap (.mk true) [(.ap (.nil true) [])]), (.ap (.usr 130) [(.var 0), (I 0)])])),
 (((.ap .lt [(.var 3), (.ap .len [(.var 0)])]) :: r31_h1), (.ap .le [(.ap .len [(.ap (.cell 4) [(.var 0), (.var 3)])]), (I 80)])),
 (((.ap .le [(.ap .len [(.ap (.cell 4) [(.var 0), (.var 3)])]), (I 80)]) :: (.ap .lt [(.var 3), (.ap .len [(.var 0)])]) :: r31_h1), (.ap .same [(.ap (.mk true) [(.ap .cat [(.var 2), (.ap .snoc [(.ap (.nil false) []), (.ap (.cell 0) [(.var 0), (.var 3)]), (.ap (.cell 1) [(.var 0), (.var 3)]), (.ap (.cell 2) [(.var 0), (.var 3)]), (.ap (.cell 3) [(.var 0), (.var 3)]), (.ap (.mk false) [(.ap (.mk false) [(.ap (.cell 4) [(.var 0), (.var 3)])])])])])]), (.ap (.usr 130) [(.var 0), (.ap (.add .i64) [(.var 3), (I 1)])])]))]
def r31_o : List (List X × List (List X)) := [(((.ap .not [(.ap .lt [(.var 3), (.ap .len [(.var 0)])])]) :: r31_h1), [[(.ap (.mk true) [(.var 2)])]])]
theorem r31_eq : runS Try.prog (specO T0) 10 6 ⟨hintL [(3, lp31)], hintA [(6, as31), (7, fun F H => [fzP 5 4])]⟩ Try.f31 (bodyOf Try.f31) S31 = some (r31_v, r31_o) := by kernel_rfl
set_option maxHeartbeats 4000000 in
set_option maxRecDepth 100000 in
theorem c31 : SpecOK U Try.prog 31 S31 := by
 refine SpecOK.of (P := Try.prog) (U := U) (T := T0) (f := 31) (fn := Try.f31) (fuel := 10) (fk := 6) (hs := ⟨hintL [(3, lp31)], hintA [(6, as31), (7, fun F H => [fzP 5 4])]⟩) (S := S31) (v := r31_v) (outs := r31_o) mixed hT0 at31 r31_eq ?_ ?_
 ·unfold r31_v
  repeat' (first | exact vcs_nil _ | refine vcs_cons (fun v hh => ?_) ?_)
  all_goals
   simp only [w_var, w_lit, w_ivi, w_bvb, w_add, b_lt, b_le, b_not, b_typ, b_same, w_len, w_cell, w_nil, w_mk, w_snoc, w_cat, w_usr, w_l0, w_l1, w_vint, w_vbool, w_tru, w_holds0, w_holds1, w_rows, w_nilb, us119, us129, us130, mnX, mxX, cell_at, l1_inj, mkz_fold, mkz_eq, r31_h0, r31_h1] at hh ⊢
   repeat (obtain ⟨_, hh⟩ := hh)
   try (first | grind [map_succ, cpV, small_row, take_allT, = w_vint])
 ·intro o ho σ hU hh
  obtain ⟨v⟩ := σ
  cases hU
  simp only [r31_o, List.mem_cons, List.not_mem_nil, or_false] at ho
  repeat' (first | (rcases ho with rfl | ho) | subst ho)
  all_goals
   refine ⟨_, List.mem_cons_self .., by simp only [w_var, w_lit, w_ivi, w_bvb, w_add, b_lt, b_le, b_not, b_typ, b_same, w_len, w_cell, w_nil, w_mk, w_snoc, w_cat, w_usr, w_l0, w_l1, w_vint, w_vbool, w_tru, w_holds0, w_holds1, w_rows, w_nilb], ?_⟩
   simp only [w_var, w_lit, w_ivi, w_bvb, w_add, b_lt, b_le, b_not, b_typ, b_same, w_len, w_cell, w_nil, w_mk, w_snoc, w_cat, w_usr, w_l0, w_l1, w_vint, w_vbool, w_tru, w_holds0, w_holds1, w_rows, w_nilb, us119, us129, us130, mnX, mxX, cell_at, l1_inj, mkz_fold, mkz_eq, r31_h0, r31_h1] at hh
   simp only [List.map_cons, List.map_nil, w_var, w_lit, w_ivi, w_bvb, w_add, b_lt, b_le, b_not, b_typ, b_same, w_len, w_cell, w_nil, w_mk, w_snoc, w_cat, w_usr, w_l0, w_l1, w_vint, w_vbool, w_tru, w_holds0, w_holds1, w_rows, w_nilb, w_lt, w_le, w_not, w_same, w_typ, us119, us129, us130, mnX, mxX, cell_at, l1_inj, mkz_fold, mkz_eq]
   repeat (obtain ⟨_, hh⟩ := hh)
   try (first | grind [map_succ, cpV, small_row, take_allT, = w_vint])
noncomputable def S39 : Fsp := ⟨[(false, [.sl [sI]]), (false, [.sl [sI]])], [], [(false, [.bool])], [([], [[.ap (.usr 133) [.var 0, .var 1]]])], true⟩
abbrev r39_h0 : List X := [(.ap .eq [(.ap .len [(.var 0)]), (.ap .len [(.var 1)])]), (.ap (.typ (.sl [sI])) [(.var 0)]), (.ap (.typ (.sl [sI])) [(.var 1)])]
abbrev r39_h1 : List X := (.ap .le [(I 0), (.var 2)]) :: (.ap .le [(.var 2), (.ap .len [(.var 0)])]) :: (.ap (.usr 134) [(.var 0), (.var 1), (.var 2)]) :: r39_h0
def r39_v : List VC := [(r39_h0, (.ap (.usr 134) [(.var 0), (.var 1), (I 0)])),
 (((.ap .eq [(.ap (.cell 0) [(.var 0), (.var 2)]), (.ap (.cell 0) [(.var 1), (.var 2)])]) :: (.ap .lt [(.var 2), (.ap .len [(.var 0)])]) :: r39_h1), (.ap (.usr 134) [(.var 0), (.var 1), (.ap (.add .i64) [(.var 2), (I 1)])]))]
def r39_o : List (List X × List (List X)) := [([(.ap .not [(.ap .eq [(.ap .len [(.var 0)]), (.ap .len [(.var 1)])])]), (.ap (.typ (.sl [sI])) [(.var 0)]), (.ap (.typ (.sl [sI])) [(.var 1)])], [[(.lit (.bool false))]]),
 (((.ap .not [(.ap .eq [(.ap (.cell 0) [(.var 0), (.var 2)]), (.ap (.cell 0) [(.var 1), (.var 2)])])]) :: (.ap .lt [(.var 2), (.ap .len [(.var 0)])]) :: r39_h1), [[(.lit (.bool false))]]),
 (((.ap .not [(.ap .lt [(.var 2), (.ap .len [(.var 0)])])]) :: r39_h1), [[(.lit (.bool true))]])]
theorem r39_eq : runS Try.prog (specO T0) 10 6 ⟨hintL [(4, lp1 5 [0, 1] fun i => .ap (.usr 134) [.var 0, .var 1, i])], hintA []⟩ Try.f39 (bodyOf Try.f39) S39 = some (r39_v, r39_o) := by kernel_rfl
set_option maxHeartbeats 4000000 in
set_option maxRecDepth 100000 in
theorem c39 : SpecOK U Try.prog 39 S39 := by
 refine SpecOK.of (P := Try.prog) (U := U) (T := T0) (f := 39) (fn := Try.f39) (fuel := 10) (fk := 6) (hs := ⟨hintL [(4, lp1 5 [0, 1] fun i => .ap (.usr 134) [.var 0, .var 1, i])], hintA []⟩) (S := S39) (v := r39_v) (outs := r39_o) mixed hT0 at39 r39_eq ?_ ?_
 ·unfold r39_v
  repeat' (first | exact vcs_nil _ | refine vcs_cons (fun v hh => ?_) ?_)
  all_goals
   simp only [w_var, w_lit, w_ivi, w_bvb, w_add, b_lt, b_le, b_eq, b_not, b_typ, w_len, w_cell, w_usr, w_l0, w_l1, w_vint, w_vbool, w_tru, w_holds0, w_holds1, w_rows, w_nilb, us133, us134, mnX, mxX, cell_at, l1_inj, vBool_inj, vb_lit, eq_len, r39_h0, r39_h1] at hh ⊢
   repeat (obtain ⟨_, hh⟩ := hh)
   try (first | grind [stepS, lenS, rowS, eqI, take_allT, allS, = w_vint])
 ·intro o ho σ hU hh
  obtain ⟨v⟩ := σ
  cases hU
  simp only [r39_o, List.mem_cons, List.not_mem_nil, or_false] at ho
  repeat' (first | (rcases ho with rfl | ho) | subst ho)
  all_goals
   refine ⟨_, List.mem_cons_self .., by simp only [w_var, w_lit, w_ivi, w_bvb, w_add, b_lt, b_le, b_eq, b_not, b_typ, w_len, w_cell, w_usr, w_l0, w_l1, w_vint, w_vbool, w_tru, w_holds0, w_holds1, w_rows, w_nilb], ?_⟩
   simp only [w_var, w_lit, w_ivi, w_bvb, w_add, b_lt, b_le, b_eq, b_not, b_typ, w_len, w_cell, w_usr, w_l0, w_l1, w_vint, w_vbool, w_tru, w_holds0, w_holds1, w_rows, w_nilb, us133, us134, mnX, mxX, cell_at, l1_inj, vBool_inj, vb_lit, eq_len, r39_h0, r39_h1] at hh
   simp only [List.map_cons, List.map_nil, w_var, w_lit, w_ivi, w_bvb, w_add, b_lt, b_le, b_eq, b_not, b_typ, w_len, w_cell, w_usr, w_l0, w_l1, w_vint, w_vbool, w_tru, w_holds0, w_holds1, w_rows, w_nilb, w_lt, w_le, w_eq, w_not, w_typ, us133, us134, mnX, mxX, cell_at, l1_inj, vBool_inj, vb_lit, eq_len]
   repeat (obtain ⟨_, hh⟩ := hh)
   try (first | grind [stepS, lenS, rowS, eqI, take_allT, allS, = w_vint])
noncomputable def S36 : Fsp := ⟨[(true, sLog), (true, sLog)], [], [(false, [.bool])], [([], [[.ap (.usr 131) [.var 0, .var 1, .var 2, .var 3, .var 4, .var 5]]])], true⟩
noncomputable def lp36 : Lp := ⟨[(.slot 5, .int .i64)], [2, 3], [], fun F H k => [.ap .le [zI, .var k], .ap .le [.var k, .ap .len [.var 2]], .ap (.usr 132) [.var 2, .var 5, .var k]], fun F H k => .ap (.sub .i64) [.ap .len [.var 2], .var k]⟩
abbrev r36_h0 : List X := [(.ap .le [mnX, (.var 0)]), (.ap .le [(.var 0), mxX]), (.ap .le [mnX, (.var 1)]), (.ap .le [(.var 1), mxX]), (.ap (.typ (.sl sHead)) [(.var 2)]), (.ap .le [mnX, (.var 3)]), (.ap .le [(.var 3), mxX]), (.ap .le [mnX, (.var 4)]), (.ap .le [(.var 4), mxX]), (.ap (.typ (.sl sHead)) [(.var 5)])]
abbrev r36_h1 : List X := (.ap .eq [(.ap .len [(.var 2)]), (.ap .len [(.var 5)])]) :: (.ap .eq [(.var 1), (.var 4)]) :: (.ap .eq [(.var 0), (.var 3)]) :: r36_h0
abbrev r36_h2 : List X := (.ap .le [(I 0), (.var 6)]) :: (.ap .le [(.var 6), (.ap .len [(.var 2)])]) :: (.ap (.usr 132) [(.var 2), (.var 5), (.var 6)]) :: r36_h1
def r36_v : List VC := [(r36_h1, (.ap (.usr 132) [(.var 2), (.var 5), (I 0)])),
 (((.ap .and [(.ap .eq [(.ap (.cell 0) [(.var 2), (.var 6)]), (.ap (.cell 0) [(.var 5), (.var 6)])]), (.ap .and [(.ap .eq [(.ap (.cell 1) [(.var 2), (.var 6)]), (.ap (.cell 1) [(.var 5), (.var 6)])]), (.lit (.bool true))])]) :: (.ap .lt [(.var 6), (.ap .len [(.var 2)])]) :: r36_h2), (.ap (.usr 132) [(.var 2), (.var 5), (.ap (.add .i64) [(.var 6), (I 1)])]))]
def r36_o : List (List X × List (List X)) := [(((.ap .not [(.ap .eq [(.var 0), (.var 3)])]) :: r36_h0), [[(.lit (.bool false))]]),
 (((.ap .not [(.ap .eq [(.var 1), (.var 4)])]) :: (.ap .eq [(.var 0), (.var 3)]) :: r36_h0), [[(.lit (.bool false))]]),
 (((.ap .not [(.ap .eq [(.ap .len [(.var 2)]), (.ap .len [(.var 5)])])]) :: (.ap .eq [(.var 1), (.var 4)]) :: (.ap .eq [(.var 0), (.var 3)]) :: r36_h0), [[(.lit (.bool false))]]),
 (((.ap .not [(.ap .and [(.ap .eq [(.ap (.cell 0) [(.var 2), (.var 6)]), (.ap (.cell 0) [(.var 5), (.var 6)])]), (.ap .and [(.ap .eq [(.ap (.cell 1) [(.var 2), (.var 6)]), (.ap (.cell 1) [(.var 5), (.var 6)])]), (.lit (.bool true))])])]) :: (.ap .lt [(.var 6), (.ap .len [(.var 2)])]) :: r36_h2), [[(.lit (.bool false))]]),
 (((.ap .not [(.ap .lt [(.var 6), (.ap .len [(.var 2)])])]) :: r36_h2), [[(.lit (.bool true))]])]
theorem r36_eq : runS Try.prog (specO T0) 10 6 ⟨hintL [(4, lp36)], hintA []⟩ Try.f36 (bodyOf Try.f36) S36 = some (r36_v, r36_o) := by kernel_rfl
set_option maxHeartbeats 4000000 in
set_option maxRecDepth 100000 in
theorem c36 : SpecOK U Try.prog 36 S36 := by
 refine SpecOK.of (P := Try.prog) (U := U) (T := T0) (f := 36) (fn := Try.f36) (fuel := 10) (fk := 6) (hs := ⟨hintL [(4, lp36)], hintA []⟩) (S := S36) (v := r36_v) (outs := r36_o) mixed hT0 at36 r36_eq ?_ ?_
 ·unfold r36_v
  repeat' (first | exact vcs_nil _ | refine vcs_cons (fun v hh => ?_) ?_)
  all_goals
   simp only [w_var, w_lit, w_ivi, w_bvb, w_add, b_lt, b_le, b_eq, b_not, b_and, b_typ, w_len, w_cell, w_usr, w_l0, w_l1, w_vint, w_vbool, w_tru, w_holds0, w_holds1, w_rows, w_nilb, us131, us132, mnX, mxX, cell_at, l1_inj, vBool_inj, vb_lit, eq_len, r36_h0, r36_h1, r36_h2] at hh ⊢
   repeat (obtain ⟨_, hh⟩ := hh)
   try (first | grind [stepS, lenS, rowS, eqH, take_allT, allS, = w_vint])
 ·intro o ho σ hU hh
  obtain ⟨v⟩ := σ
  cases hU
  simp only [r36_o, List.mem_cons, List.not_mem_nil, or_false] at ho
  repeat' (first | (rcases ho with rfl | ho) | subst ho)
  all_goals
   refine ⟨_, List.mem_cons_self .., by simp only [w_var, w_lit, w_ivi, w_bvb, w_add, b_lt, b_le, b_eq, b_not, b_and, b_typ, w_len, w_cell, w_usr, w_l0, w_l1, w_vint, w_vbool, w_tru, w_holds0, w_holds1, w_rows, w_nilb], ?_⟩
   simp only [w_var, w_lit, w_ivi, w_bvb, w_add, b_lt, b_le, b_eq, b_not, b_and, b_typ, w_len, w_cell, w_usr, w_l0, w_l1, w_vint, w_vbool, w_tru, w_holds0, w_holds1, w_rows, w_nilb, us131, us132, mnX, mxX, cell_at, l1_inj, vBool_inj, vb_lit, eq_len, r36_h0, r36_h1, r36_h2] at hh
   simp only [List.map_cons, List.map_nil, w_var, w_lit, w_ivi, w_bvb, w_add, b_lt, b_le, b_eq, b_not, b_and, b_typ, w_len, w_cell, w_usr, w_l0, w_l1, w_vint, w_vbool, w_tru, w_holds0, w_holds1, w_rows, w_nilb, w_lt, w_le, w_eq, w_not, w_and, w_typ, us131, us132, mnX, mxX, cell_at, l1_inj, vBool_inj, vb_lit, eq_len]
   repeat (obtain ⟨_, hh⟩ := hh)
   try (first | grind [stepS, lenS, rowS, eqH, take_allT, allS, = w_vint])
noncomputable def S42 : Fsp := ⟨[(false, [sVotes]), (false, [sVotes])], [], [(false, [.bool])], [([], [[.ap (.usr 135) [.var 0, .var 1]]])], true⟩
noncomputable def lp42 : Lp := ⟨[(.slot 6, .int .i64)], [0, 1, 5], [0, 1], fun F H k => [.ap .le [zI, .var k], .ap .le [.var k, .ap .len [.ap (.cell 4) [.var 0, sx F 5]]], .ap (.usr 137) [.ap (.cell 4) [.var 0, sx F 5], .ap (.cell 4) [.var 1, sx F 5], .var k]], fun F H k => .ap (.sub .i64) [.ap .len [.ap (.cell 4) [.var 0, sx F 5]], .var k]⟩
theorem cell_typ {l : CD} {i : Int} (hT : Typ sVotes l) (h0 : 0 ≤ i) (hi : i < l.len) : Typ (.sl sEnt) (at' (row l i.toNat) 4) := hT.cell (j := 4) h0 hi rfl
abbrev r42_h0 : List X := [(.ap .eq [(.ap .len [(.var 0)]), (.ap .len [(.var 1)])]), (.ap (.typ sVotes) [(.var 0)]), (.ap (.typ sVotes) [(.var 1)])]
abbrev r42_h1 : List X := (.ap .le [(I 0), (.var 2)]) :: (.ap .le [(.var 2), (.ap .len [(.var 0)])]) :: (.ap (.usr 136) [(.var 0), (.var 1), (.var 2)]) :: r42_h0
abbrev r42_h2 : List X := (.ap .eq [(.ap (.cell 1) [(.var 0), (.var 2)]), (.ap (.cell 1) [(.var 1), (.var 2)])]) :: (.ap .eq [(.ap (.cell 0) [(.var 0), (.var 2)]), (.ap (.cell 0) [(.var 1), (.var 2)])]) :: (.ap .lt [(.var 2), (.ap .len [(.var 0)])]) :: r42_h1
abbrev r42_h3 : List X := (.ap .eq [(.ap .len [(.ap (.cell 4) [(.var 0), (.var 2)])]), (.ap .len [(.ap (.cell 4) [(.var 1), (.var 2)])])]) :: (.ap .eq [(.ap (.cell 3) [(.var 0), (.var 2)]), (.ap (.cell 3) [(.var 1), (.var 2)])]) :: (.ap .eq [(.ap (.cell 2) [(.var 0), (.var 2)]), (.ap (.cell 2) [(.var 1), (.var 2)])]) :: r42_h2
abbrev r42_h4 : List X := (.ap .le [(I 0), (.var 3)]) :: (.ap .le [(.var 3), (.ap .len [(.ap (.cell 4) [(.var 0), (.var 2)])])]) :: (.ap (.usr 137) [(.ap (.cell 4) [(.var 0), (.var 2)]), (.ap (.cell 4) [(.var 1), (.var 2)]), (.var 3)]) :: r42_h3
def r42_v : List VC := [(r42_h0, (.ap (.usr 136) [(.var 0), (.var 1), (I 0)])),
 (r42_h3, (.ap (.usr 137) [(.ap (.cell 4) [(.var 0), (.var 2)]), (.ap (.cell 4) [(.var 1), (.var 2)]), (I 0)])),
 (((.ap .and [(.ap .eq [(.ap (.cell 0) [(.ap (.cell 4) [(.var 0), (.var 2)]), (.var 3)]), (.ap (.cell 0) [(.ap (.cell 4) [(.var 1), (.var 2)]), (.var 3)])]), (.ap .and [(.ap .eq [(.ap (.cell 1) [(.ap (.cell 4) [(.var 0), (.var 2)]), (.var 3)]), (.ap (.cell 1) [(.ap (.cell 4) [(.var 1), (.var 2)]), (.var 3)])]), (.ap .and [(.ap .eq [(.ap (.cell 2) [(.ap (.cell 4) [(.var 0), (.var 2)]), (.var 3)]), (.ap (.cell 2) [(.ap (.cell 4) [(.var 1), (.var 2)]), (.var 3)])]), (.lit (.bool true))])])]) :: (.ap .lt [(.var 3), (.ap .len [(.ap (.cell 4) [(.var 0), (.var 2)])])]) :: r42_h4), (.ap (.usr 137) [(.ap (.cell 4) [(.var 0), (.var 2)]), (.ap (.cell 4) [(.var 1), (.var 2)]), (.ap (.add .i64) [(.var 3), (I 1)])])),
 (((.ap .not [(.ap .lt [(.var 3), (.ap .len [(.ap (.cell 4) [(.var 0), (.var 2)])])])]) :: r42_h4), (.ap (.usr 136) [(.var 0), (.var 1), (.ap (.add .i64) [(.var 2), (I 1)])]))]
def r42_o : List (List X × List (List X)) := [([(.ap .not [(.ap .eq [(.ap .len [(.var 0)]), (.ap .len [(.var 1)])])]), (.ap (.typ sVotes) [(.var 0)]), (.ap (.typ sVotes) [(.var 1)])], [[(.lit (.bool false))]]),
 (((.ap .not [(.ap .eq [(.ap (.cell 0) [(.var 0), (.var 2)]), (.ap (.cell 0) [(.var 1), (.var 2)])])]) :: (.ap .lt [(.var 2), (.ap .len [(.var 0)])]) :: r42_h1), [[(.lit (.bool false))]]),
 (((.ap .not [(.ap .eq [(.ap (.cell 1) [(.var 0), (.var 2)]), (.ap (.cell 1) [(.var 1), (.var 2)])])]) :: (.ap .eq [(.ap (.cell 0) [(.var 0), (.var 2)]), (.ap (.cell 0) [(.var 1), (.var 2)])]) :: (.ap .lt [(.var 2), (.ap .len [(.var 0)])]) :: r42_h1), [[(.lit (.bool false))]]),
 (((.ap .not [(.ap .eq [(.ap (.cell 2) [(.var 0), (.var 2)]), (.ap (.cell 2) [(.var 1), (.var 2)])])]) :: r42_h2), [[(.lit (.bool false))]]),
 (((.ap .not [(.ap .eq [(.ap (.cell 3) [(.var 0), (.var 2)]), (.ap (.cell 3) [(.var 1), (.var 2)])])]) :: (.ap .eq [(.ap (.cell 2) [(.var 0), (.var 2)]), (.ap (.cell 2) [(.var 1), (.var 2)])]) :: r42_h2), [[(.lit (.bool false))]]),
 (((.ap .not [(.ap .eq [(.ap .len [(.ap (.cell 4) [(.var 0), (.var 2)])]), (.ap .len [(.ap (.cell 4) [(.var 1), (.var 2)])])])]) :: (.ap .eq [(.ap (.cell 3) [(.var 0), (.var 2)]), (.ap (.cell 3) [(.var 1), (.var 2)])]) :: (.ap .eq [(.ap (.cell 2) [(.var 0), (.var 2)]), (.ap (.cell 2) [(.var 1), (.var 2)])]) :: r42_h2), [[(.lit (.bool false))]]),
 (((.ap .not [(.ap .and [(.ap .eq [(.ap (.cell 0) [(.ap (.cell 4) [(.var 0), (.var 2)]), (.var 3)]), (.ap (.cell 0) [(.ap (.cell 4) [(.var 1), (.var 2)]), (.var 3)])]), (.ap .and [(.ap .eq [(.ap (.cell 1) [(.ap (.cell 4) [(.var 0), (.var 2)]), (.var 3)]), (.ap (.cell 1) [(.ap (.cell 4) [(.var 1), (.var 2)]), (.var 3)])]), (.ap .and [(.ap .eq [(.ap (.cell 2) [(.ap (.cell 4) [(.var 0), (.var 2)]), (.var 3)]), (.ap (.cell 2) [(.ap (.cell 4) [(.var 1), (.var 2)]), (.var 3)])]), (.lit (.bool true))])])])]) :: (.ap .lt [(.var 3), (.ap .len [(.ap (.cell 4) [(.var 0), (.var 2)])])]) :: r42_h4), [[(.lit (.bool false))]]),
 (((.ap .not [(.ap .lt [(.var 2), (.ap .len [(.var 0)])])]) :: r42_h1), [[(.lit (.bool true))]])]
theorem r42_eq : runS Try.prog (specO T0) 10 8 ⟨hintL [(4, lp1 5 [0, 1] fun i => .ap (.usr 136) [.var 0, .var 1, i]), (9, lp42)], hintA []⟩ Try.f42 (bodyOf Try.f42) S42 = some (r42_v, r42_o) := by kernel_rfl
set_option maxHeartbeats 4000000 in
set_option maxRecDepth 100000 in
theorem c42 : SpecOK U Try.prog 42 S42 := by
 refine SpecOK.of (P := Try.prog) (U := U) (T := T0) (f := 42) (fn := Try.f42) (fuel := 10) (fk := 8) (hs := ⟨hintL [(4, lp1 5 [0, 1] fun i => .ap (.usr 136) [.var 0, .var 1, i]), (9, lp42)], hintA []⟩) (S := S42) (v := r42_v) (outs := r42_o) mixed hT0 at42 r42_eq ?_ ?_
 ·unfold r42_v
  repeat' (first | exact vcs_nil _ | refine vcs_cons (fun v hh => ?_) ?_)
  all_goals
   simp only [w_var, w_lit, w_ivi, w_bvb, w_add, b_lt, b_le, b_eq, b_not, b_and, b_typ, w_len, w_cell, w_usr, w_l0, w_l1, w_vint, w_vbool, w_tru, w_holds0, w_holds1, w_rows, w_nilb, us135, us136, us137, mnX, mxX, cell_at, l1_inj, vBool_inj, vb_lit, eq_len, r42_h0, r42_h1, r42_h2, r42_h3, r42_h4] at hh ⊢
   repeat (obtain ⟨_, hh⟩ := hh)
   try (first | grind [stepS, lenS, rowS, eqV, eqEn, take_allT, allS, cell_typ, = w_vint])
 ·intro o ho σ hU hh
  obtain ⟨v⟩ := σ
  cases hU
  simp only [r42_o, List.mem_cons, List.not_mem_nil, or_false] at ho
  repeat' (first | (rcases ho with rfl | ho) | subst ho)
  all_goals
   refine ⟨_, List.mem_cons_self .., by simp only [w_var, w_lit, w_ivi, w_bvb, w_add, b_lt, b_le, b_eq, b_not, b_and, b_typ, w_len, w_cell, w_usr, w_l0, w_l1, w_vint, w_vbool, w_tru, w_holds0, w_holds1, w_rows, w_nilb], ?_⟩
   simp only [w_var, w_lit, w_ivi, w_bvb, w_add, b_lt, b_le, b_eq, b_not, b_and, b_typ, w_len, w_cell, w_usr, w_l0, w_l1, w_vint, w_vbool, w_tru, w_holds0, w_holds1, w_rows, w_nilb, us135, us136, us137, mnX, mxX, cell_at, l1_inj, vBool_inj, vb_lit, eq_len, r42_h0, r42_h1, r42_h2, r42_h3, r42_h4] at hh
   simp only [List.map_cons, List.map_nil, w_var, w_lit, w_ivi, w_bvb, w_add, b_lt, b_le, b_eq, b_not, b_and, b_typ, w_len, w_cell, w_usr, w_l0, w_l1, w_vint, w_vbool, w_tru, w_holds0, w_holds1, w_rows, w_nilb, w_lt, w_le, w_eq, w_not, w_and, w_typ, us135, us136, us137, mnX, mxX, cell_at, l1_inj, vBool_inj, vb_lit, eq_len]
   repeat (obtain ⟨_, hh⟩ := hh)
   try (first | grind [stepS, lenS, rowS, eqV, eqEn, take_allT, allS, cell_typ, = w_vint])
noncomputable def T4 : List (FuncId × Fsp) := [(81, Sck), (85, Sck), (82, Smay), (86, Smay), (83, Sqh), (84, Sqw)]
set_option maxRecDepth 100000 in
theorem hT4 : TabOK U Try.prog T4 := .cons c81 (.cons c85 (.cons c82 (.cons c86 (.cons c83 (.cons c84 .nil)))))
noncomputable def SCheck : Fsp := ⟨[(false, [sVotes]), (false, [sI])], [.ap .le [.ap .len [.var 0], I 10], .ap .not [.ap (.usr 119) [.var 0]]], [(false, [sI])], [([], [[.ap (.usr 123) [.var 0, .var 1]]])], true⟩
noncomputable def lp34 : Lp := ⟨[(.slot 5, .int .i64), (.slot 13, .int .i64)], [0, 1, 11, 12], [0], fun F H k => [.ap .le [zI, .var (k+1)], .ap .le [.var (k+1), .ap .len [.var 0]], .ap (.usr 124) [.var 0, .var 1, .var (k+1)], .ap .le [zI, .var k], .ap .le [.var k, I 127], .ap (.usr 125) [.var 0, .var k, .var (k+1)]], fun F H k => .ap (.sub .i64) [.ap .len [.var 0], .var (k+1)]⟩
noncomputable def as34 (i : Nat) : Fm → HP → List X := fun F H => [.ap .le [I 3, .var 1], .ap .le [.var 1, I 7], .ap .le [.ap .len [.ap (.cell 4) [.var 0, sx F i]], I 80]]
noncomputable def as34b : Fm → HP → List X := fun F H => [.ap .le [zI, .ap (.cell 0) [.var 0, sx F 13]], .ap .le [.ap (.cell 0) [.var 0, sx F 13], I 6]]
theorem okN_le {n : CD} (h : okN n = true) : 3 ≤ n.iv ∧ n.iv ≤ 7 := by rcases okN_iv h with ⟨h1, _⟩ | ⟨h1, _⟩ | ⟨h1, _⟩ <;> omega
theorem okV_rep {r : List CD} {n : Int} (h : okV r n = true) (hn : n ≤ 7) : 0 ≤ (at' r 0).iv ∧ (at' r 0).iv ≤ 6 := by
 unfold okV at h
 simp only [Bool.and_eq_true, decide_eq_true_eq] at h
 have h1 := h.1.1.1.1.1.1.1.1
 have h2 := h.1.1.1.1.1.1.1.2
 omega
theorem okV_five (r : List CD) (n : Int) : okV [at' r 0, at' r 1, at' r 2, at' r 3, at' r 4] n = okV r n := rfl
theorem repIn_succ {l : CD} {i : Int} {d : CD} (h0 : 0 ≤ i) (h : i < l.len) : repIn (l.rows.take (i + 1).toNat) d = (repIn (l.rows.take i.toNat) d || eqC (at' (row l i.toNat) 0) d) := any_succ h0 h
theorem repIn_0 {l : CD} {d : CD} : repIn (l.rows.take (0 : Int).toNat) d = false := rfl
theorem okVs_all {l n : CD} {i : Int} (hT : Typ sVotes l) (hi : ¬ i < l.len) (hn : okN n = true) (h : (List.range i.toNat).all (okVt l n.iv) = true) (hle : i ≤ l.len) : okVs l n = true := by
 have := hT.sl.1
 unfold okVs
 rw [hn, show l.rows.length = i.toNat by omega, h]
 rfl
theorem okVs_row {l n : CD} {i : Int} (hT : Typ sVotes l) (h0 : 0 ≤ i) (hi : i < l.len) (h : okVt l n.iv i.toNat = false) : okVs l n = false := by
 have := hT.sl.1
 unfold okVs
 rw [Bool.and_eq_false_iff]
 right
 rw [Bool.eq_false_iff, Ne, List.all_eq_true]
 intro hh
 have := hh i.toNat (List.mem_range.2 (by omega))
 rw [h] at this
 cases this
theorem okVs_n {l n : CD} (h : ¬ okN n = true) : okVs l n = false := by unfold okVs; rw [Bool.eq_false_iff.2 h]; rfl
theorem rep_int {l : CD} {i : Int} (hT : Typ sVotes l) (h0 : 0 ≤ i) (hi : i < l.len) : at' (row l i.toNat) 0 = i0 (at' (row l i.toNat) 0).iv := by
 obtain ⟨n, hn⟩ := typ_int (hT.cell (j := 0) h0 hi rfl)
 rw [cell_at] at hn
 rw [hn]
 rfl
theorem set_at {l : CD} {i s : Int} (hs : setOK (l.rows.take i.toNat) s = true) (hT : Typ sVotes l) (h0 : 0 ≤ i) (hi : i < l.len) (r0 : 0 ≤ (at' (row l i.toNat) 0).iv) (r6 : (at' (row l i.toNat) 0).iv < 7) : hasE s (at' (row l i.toNat) 0).iv = repIn (l.rows.take i.toNat) (at' (row l i.toNat) 0) := by
 unfold setOK at hs
 rw [List.all_eq_true] at hs
 have := hs (at' (row l i.toNat) 0).iv.toNat (List.mem_range.2 (by omega))
 rw [Int.toNat_of_nonneg r0, ← rep_int hT h0 hi] at this
 exact eq_of_beq this
theorem okVs_dup {l n : CD} {i s : Int} (hs : setOK (l.rows.take i.toNat) s = true) (hT : Typ sVotes l) (h0 : 0 ≤ i) (hi : i < l.len) (r0 : 0 ≤ (at' (row l i.toNat) 0).iv) (r6 : (at' (row l i.toNat) 0).iv < 7) (h : hasE s (at' (row l i.toNat) 0).iv = true) : okVs l n = false := by
 refine okVs_row hT h0 hi ?_
 rw [set_at hs hT h0 hi r0 r6] at h
 unfold okVt
 rw [h]
 simp
theorem bitsOK : ((List.range 128).all fun s : Nat => (List.range 7).all fun r : Nat => decide (0 ≤ (withE s r).iv) && decide ((withE s r).iv ≤ 127) && (List.range 7).all fun q : Nat => hasE (withE s r).iv q == (hasE s q || decide (q = r))) = true := by kernel_rfl
theorem hasE0 : ((List.range 7).all fun q : Nat => !hasE 0 q) = true := by kernel_rfl
theorem set_0 {l : CD} : setOK (l.rows.take (0 : Int).toNat) 0 = true := by
 unfold setOK
 rw [List.all_eq_true]
 intro q hq
 have := List.all_eq_true.1 hasE0 q hq
 simp only [Bool.not_eq_true'] at this
 rw [this]
 rfl
theorem set_next {l : CD} {i s : Int} (hs : setOK (l.rows.take i.toNat) s = true) (hT : Typ sVotes l) (h0 : 0 ≤ i) (hi : i < l.len) (s0 : 0 ≤ s) (s1 : s ≤ 127) (r0 : 0 ≤ (at' (row l i.toNat) 0).iv) (r6 : (at' (row l i.toNat) 0).iv ≤ 6) :
  0 ≤ (withE s (at' (row l i.toNat) 0).iv).iv ∧ (withE s (at' (row l i.toNat) 0).iv).iv ≤ 127 ∧ setOK (l.rows.take (i + 1).toNat) (withE s (at' (row l i.toNat) 0).iv).iv = true := by
 have hb := List.all_eq_true.1 bitsOK s.toNat (List.mem_range.2 (by omega))
 have hb := List.all_eq_true.1 hb (at' (row l i.toNat) 0).iv.toNat (List.mem_range.2 (by omega))
 simp only [Bool.and_eq_true, decide_eq_true_eq] at hb
 rw [Int.toNat_of_nonneg s0, Int.toNat_of_nonneg r0] at hb
 refine ⟨hb.1.1, hb.1.2, ?_⟩
 unfold setOK at hs ⊢
 rw [List.all_eq_true] at hs ⊢
 intro q hq
 have h1 := eq_of_beq (List.all_eq_true.1 hb.2 q hq)
 have h2 := eq_of_beq (hs q hq)
 rw [h1, repIn_succ h0 hi, ← h2]
 have h3 : eqC (at' (row l i.toNat) 0) (i0 q) = decide (q = (at' (row l i.toNat) 0).iv.toNat) := by
  rw [rep_int hT h0 hi]
  show decide ((at' (row l i.toNat) 0).iv = (q : Int)) = _
  rw [decide_eq_decide]
  show _ ↔ q = (at' (row l i.toNat) 0).iv.toNat
  omega
 rw [h3]
 exact beq_self_eq_true _
theorem okVs_two {l n : CD} {i k : Int} (he : eqC (at' (row l k.toNat) 0) (at' (row l i.toNat) 0) = true) (hki : k < i) (hk : 0 ≤ k) (h0 : 0 ≤ i) (hi : i < l.len) (hT : Typ sVotes l) : okVs l n = false := by
 refine okVs_row hT h0 hi ?_
 have h1 := hT.sl.1
 have hr : repIn (l.rows.take i.toNat) (at' (row l i.toNat) 0) = true := by
  unfold repIn
  rw [List.any_eq_true]
  refine ⟨row l k.toNat, ?_, he⟩
  unfold row
  rw [List.getD_eq_getElem?_getD, List.getElem?_eq_getElem (show k.toNat < l.rows.length by omega)]
  rw [List.mem_take_iff_getElem]
  exact ⟨k.toNat, by omega, rfl⟩
 unfold okVt
 rw [hr]
 simp
abbrev r34_h0 : List X := [(.ap .le [mnX, (.ap (.usr 111) [(.var 1)])]), (.ap .le [(.ap (.usr 111) [(.var 1)]), mxX]), (.ap (.typ sVotes) [(.var 0)]), (.ap .le [mnX, (.var 1)]), (.ap .le [(.var 1), mxX]), (.ap .le [(.ap .len [(.var 0)]), (I 10)]), (.ap .not [(.ap (.usr 119) [(.var 0)])])]
abbrev r34_h1 : List X := (.ap .le [(I 0), (.var 3)]) :: (.ap .le [(.var 3), (.ap .len [(.var 0)])]) :: (.ap (.usr 124) [(.var 0), (.var 1), (.var 3)]) :: (.ap .le [(I 0), (.var 2)]) :: (.ap .le [(.var 2), (I 127)]) :: (.ap (.usr 125) [(.var 0), (.var 2), (.var 3)]) :: (.ap .eq [(.ap (.usr 111) [(.var 1)]), (I 0)]) :: r34_h0
abbrev r34_h2 : List X := (.ap .le [(I 3), (.var 1)]) :: (.ap .le [(.var 1), (I 7)]) :: (.ap .le [(.ap .len [(.ap (.cell 4) [(.var 0), (.var 3)])]), (I 80)]) :: (.ap .lt [(.var 3), (.ap .len [(.var 0)])]) :: r34_h1
def r34_v : List VC := [(((.ap .eq [(.ap (.usr 111) [(.var 1)]), (I 0)]) :: r34_h0), (.ap (.usr 124) [(.var 0), (.var 1), (I 0)])),
 (((.ap .eq [(.ap (.usr 111) [(.var 1)]), (I 0)]) :: r34_h0), (.ap (.usr 125) [(.var 0), (I 0), (I 0)])),
 (((.ap .lt [(.var 3), (.ap .len [(.var 0)])]) :: r34_h1), (.ap .le [(I 3), (.var 1)])),
 (((.ap .lt [(.var 3), (.ap .len [(.var 0)])]) :: r34_h1), (.ap .le [(.var 1), (I 7)])),
 (((.ap .lt [(.var 3), (.ap .len [(.var 0)])]) :: r34_h1), (.ap .le [(.ap .len [(.ap (.cell 4) [(.var 0), (.var 3)])]), (I 80)])),
 (((.ap .not [(.ap (.usr 121) [(.var 2), (.ap (.cell 0) [(.var 0), (.var 3)])])]) :: (.ap (.usr 112) [(.ap (.cell 0) [(.var 0), (.var 3)]), (.ap (.cell 1) [(.var 0), (.var 3)]), (.ap (.cell 2) [(.var 0), (.var 3)]), (.ap (.cell 3) [(.var 0), (.var 3)]), (.ap (.cell 4) [(.var 0), (.var 3)]), (.var 1)]) :: r34_h2), (.ap .le [(I 0), (.ap (.cell 0) [(.var 0), (.var 3)])])),
 (((.ap .not [(.ap (.usr 121) [(.var 2), (.ap (.cell 0) [(.var 0), (.var 3)])])]) :: (.ap (.usr 112) [(.ap (.cell 0) [(.var 0), (.var 3)]), (.ap (.cell 1) [(.var 0), (.var 3)]), (.ap (.cell 2) [(.var 0), (.var 3)]), (.ap (.cell 3) [(.var 0), (.var 3)]), (.ap (.cell 4) [(.var 0), (.var 3)]), (.var 1)]) :: r34_h2), (.ap .le [(.ap (.cell 0) [(.var 0), (.var 3)]), (I 6)])),
 (((.ap .le [mnX, (.ap (.usr 122) [(.var 2), (.ap (.cell 0) [(.var 0), (.var 3)])])]) :: (.ap .le [(.ap (.usr 122) [(.var 2), (.ap (.cell 0) [(.var 0), (.var 3)])]), mxX]) :: (.ap .le [(I 0), (.ap (.cell 0) [(.var 0), (.var 3)])]) :: (.ap .le [(.ap (.cell 0) [(.var 0), (.var 3)]), (I 6)]) :: (.ap .not [(.ap (.usr 121) [(.var 2), (.ap (.cell 0) [(.var 0), (.var 3)])])]) :: (.ap (.usr 112) [(.ap (.cell 0) [(.var 0), (.var 3)]), (.ap (.cell 1) [(.var 0), (.var 3)]), (.ap (.cell 2) [(.var 0), (.var 3)]), (.ap (.cell 3) [(.var 0), (.var 3)]), (.ap (.cell 4) [(.var 0), (.var 3)]), (.var 1)]) :: r34_h2), (.ap (.usr 124) [(.var 0), (.var 1), (.ap (.add .i64) [(.var 3), (I 1)])])),
 (((.ap .le [mnX, (.ap (.usr 122) [(.var 2), (.ap (.cell 0) [(.var 0), (.var 3)])])]) :: (.ap .le [(.ap (.usr 122) [(.var 2), (.ap (.cell 0) [(.var 0), (.var 3)])]), mxX]) :: (.ap .le [(I 0), (.ap (.cell 0) [(.var 0), (.var 3)])]) :: (.ap .le [(.ap (.cell 0) [(.var 0), (.var 3)]), (I 6)]) :: (.ap .not [(.ap (.usr 121) [(.var 2), (.ap (.cell 0) [(.var 0), (.var 3)])])]) :: (.ap (.usr 112) [(.ap (.cell 0) [(.var 0), (.var 3)]), (.ap (.cell 1) [(.var 0), (.var 3)]), (.ap (.cell 2) [(.var 0), (.var 3)]), (.ap (.cell 3) [(.var 0), (.var 3)]), (.ap (.cell 4) [(.var 0), (.var 3)]), (.var 1)]) :: r34_h2), (.ap .le [(I 0), (.ap (.usr 122) [(.var 2), (.ap (.cell 0) [(.var 0), (.var 3)])])])),
 (((.ap .le [mnX, (.ap (.usr 122) [(.var 2), (.ap (.cell 0) [(.var 0), (.var 3)])])]) :: (.ap .le [(.ap (.usr 122) [(.var 2), (.ap (.cell 0) [(.var 0), (.var 3)])]), mxX]) :: (.ap .le [(I 0), (.ap (.cell 0) [(.var 0), (.var 3)])]) :: (.ap .le [(.ap (.cell 0) [(.var 0), (.var 3)]), (I 6)]) :: (.ap .not [(.ap (.usr 121) [(.var 2), (.ap (.cell 0) [(.var 0), (.var 3)])])]) :: (.ap (.usr 112) [(.ap (.cell 0) [(.var 0), (.var 3)]), (.ap (.cell 1) [(.var 0), (.var 3)]), (.ap (.cell 2) [(.var 0), (.var 3)]), (.ap (.cell 3) [(.var 0), (.var 3)]), (.ap (.cell 4) [(.var 0), (.var 3)]), (.var 1)]) :: r34_h2), (.ap .le [(.ap (.usr 122) [(.var 2), (.ap (.cell 0) [(.var 0), (.var 3)])]), (I 127)])),
 (((.ap .le [mnX, (.ap (.usr 122) [(.var 2), (.ap (.cell 0) [(.var 0), (.var 3)])])]) :: (.ap .le [(.ap (.usr 122) [(.var 2), (.ap (.cell 0) [(.var 0), (.var 3)])]), mxX]) :: (.ap .le [(I 0), (.ap (.cell 0) [(.var 0), (.var 3)])]) :: (.ap .le [(.ap (.cell 0) [(.var 0), (.var 3)]), (I 6)]) :: (.ap .not [(.ap (.usr 121) [(.var 2), (.ap (.cell 0) [(.var 0), (.var 3)])])]) :: (.ap (.usr 112) [(.ap (.cell 0) [(.var 0), (.var 3)]), (.ap (.cell 1) [(.var 0), (.var 3)]), (.ap (.cell 2) [(.var 0), (.var 3)]), (.ap (.cell 3) [(.var 0), (.var 3)]), (.ap (.cell 4) [(.var 0), (.var 3)]), (.var 1)]) :: r34_h2), (.ap (.usr 125) [(.var 0), (.ap (.usr 122) [(.var 2), (.ap (.cell 0) [(.var 0), (.var 3)])]), (.ap (.add .i64) [(.var 3), (I 1)])]))]
def r34_o : List (List X × List (List X)) := [(((.ap .not [(.ap .eq [(.ap (.usr 111) [(.var 1)]), (I 0)])]) :: r34_h0), [[(I 2)]]),
 (((.ap .not [(.ap (.usr 112) [(.ap (.cell 0) [(.var 0), (.var 3)]), (.ap (.cell 1) [(.var 0), (.var 3)]), (.ap (.cell 2) [(.var 0), (.var 3)]), (.ap (.cell 3) [(.var 0), (.var 3)]), (.ap (.cell 4) [(.var 0), (.var 3)]), (.var 1)])]) :: r34_h2), [[(I 2)]]),
 (((.ap (.usr 121) [(.var 2), (.ap (.cell 0) [(.var 0), (.var 3)])]) :: (.ap (.usr 112) [(.ap (.cell 0) [(.var 0), (.var 3)]), (.ap (.cell 1) [(.var 0), (.var 3)]), (.ap (.cell 2) [(.var 0), (.var 3)]), (.ap (.cell 3) [(.var 0), (.var 3)]), (.ap (.cell 4) [(.var 0), (.var 3)]), (.var 1)]) :: r34_h2), [[(I 2)]]),
 (((.ap .not [(.ap .lt [(.var 3), (.ap .len [(.var 0)])])]) :: r34_h1), [[(I 0)]])]
theorem r34_eq : runS Try.prog (specO (tab T4)) 10 8 ⟨hintL [(5, lp34)], hintA [(7, as34 13), (9, as34b)]⟩ Try.f34 (bodyOf Try.f34) SCheck = some (r34_v, r34_o) := by kernel_rfl
set_option maxHeartbeats 4000000 in
set_option maxRecDepth 100000 in
theorem c34 : SpecOK U Try.prog 34 SCheck := by
 refine SpecOK.of (P := Try.prog) (U := U) (T := (tab T4)) (f := 34) (fn := Try.f34) (fuel := 10) (fk := 8) (hs := ⟨hintL [(5, lp34)], hintA [(7, as34 13), (9, as34b)]⟩) (S := SCheck) (v := r34_v) (outs := r34_o) mixed hT4 at34 r34_eq ?_ ?_
 ·unfold r34_v
  repeat' (first | exact vcs_nil _ | refine vcs_cons (fun v hh => ?_) ?_)
  all_goals
   simp only [w_var, w_lit, w_ivi, w_bvb, w_add, b_lt, b_le, b_eq, b_not, b_typ, w_len, w_cell, w_usr, w_l0, w_l1, w_vint, w_vbool, w_tru, w_holds0, w_holds1, w_rows, w_nilb, us111, us112, us119, us121, us122, us123, us124, us125, mnX, mxX, cell_at, l1_inj, vInt_inj, eqC_ck, okV_five, r34_h0, r34_h1, r34_h2] at hh ⊢
   repeat (obtain ⟨_, hh⟩ := hh)
   try (first | grind [→ okN_le, → okV_rep, small_row, range_all_succ, okVt, → set_at, okVs_dup, set_0, → set_next, okVs_all, okVs_row, okVs_n, vi_lit, = w_vint])
 ·intro o ho σ hU hh
  obtain ⟨v⟩ := σ
  cases hU
  simp only [r34_o, List.mem_cons, List.not_mem_nil, or_false] at ho
  repeat' (first | (rcases ho with rfl | ho) | subst ho)
  all_goals
   refine ⟨_, List.mem_cons_self .., by simp only [w_var, w_lit, w_ivi, w_bvb, w_add, b_lt, b_le, b_eq, b_not, b_typ, w_len, w_cell, w_usr, w_l0, w_l1, w_vint, w_vbool, w_tru, w_holds0, w_holds1, w_rows, w_nilb], ?_⟩
   simp only [w_var, w_lit, w_ivi, w_bvb, w_add, b_lt, b_le, b_eq, b_not, b_typ, w_len, w_cell, w_usr, w_l0, w_l1, w_vint, w_vbool, w_tru, w_holds0, w_holds1, w_rows, w_nilb, us111, us112, us119, us121, us122, us123, us124, us125, mnX, mxX, cell_at, l1_inj, vInt_inj, eqC_ck, okV_five, r34_h0, r34_h1, r34_h2] at hh
   simp only [List.map_cons, List.map_nil, w_var, w_lit, w_ivi, w_bvb, w_add, b_lt, b_le, b_eq, b_not, b_typ, w_len, w_cell, w_usr, w_l0, w_l1, w_vint, w_vbool, w_tru, w_holds0, w_holds1, w_rows, w_nilb, w_lt, w_le, w_eq, w_not, w_typ, us111, us112, us119, us121, us122, us123, us124, us125, mnX, mxX, cell_at, l1_inj, vInt_inj, eqC_ck, okV_five]
   repeat (obtain ⟨_, hh⟩ := hh)
   try (first | grind [→ okN_le, → okV_rep, small_row, range_all_succ, okVt, → set_at, okVs_dup, set_0, → set_next, okVs_all, okVs_row, okVs_n, vi_lit, = w_vint])
noncomputable def lp35a : Lp := lp1 5 [0, 1] fun i => .ap (.usr 124) [.var 0, .var 1, i]
noncomputable def lp35b : Lp := ⟨[(.slot 6, .int .i64)], [0, 1, 5], [0], fun F H k => [.ap .le [zI, .var k], .ap .le [.var k, sx F 5], .ap .not [.ap (.usr 126) [.var 0, sx F 5, .var k]]], fun F H k => .ap (.sub .i64) [sx F 5, .var k]⟩
abbrev r35_h0 : List X := [(.ap .le [mnX, (.ap (.usr 111) [(.var 1)])]), (.ap .le [(.ap (.usr 111) [(.var 1)]), mxX]), (.ap (.typ sVotes) [(.var 0)]), (.ap .le [mnX, (.var 1)]), (.ap .le [(.var 1), mxX]), (.ap .le [(.ap .len [(.var 0)]), (I 10)]), (.ap .not [(.ap (.usr 119) [(.var 0)])])]
abbrev r35_h1 : List X := (.ap .le [(I 0), (.var 2)]) :: (.ap .le [(.var 2), (.ap .len [(.var 0)])]) :: (.ap (.usr 124) [(.var 0), (.var 1), (.var 2)]) :: (.ap .eq [(.ap (.usr 111) [(.var 1)]), (I 0)]) :: r35_h0
abbrev r35_h2 : List X := (.ap .le [(I 3), (.var 1)]) :: (.ap .le [(.var 1), (I 7)]) :: (.ap .le [(.ap .len [(.ap (.cell 4) [(.var 0), (.var 2)])]), (I 80)]) :: (.ap .lt [(.var 2), (.ap .len [(.var 0)])]) :: r35_h1
abbrev r35_h3 : List X := (.ap .le [(I 0), (.var 3)]) :: (.ap .le [(.var 3), (.var 2)]) :: (.ap .not [(.ap (.usr 126) [(.var 0), (.var 2), (.var 3)])]) :: (.ap (.usr 112) [(.ap (.cell 0) [(.var 0), (.var 2)]), (.ap (.cell 1) [(.var 0), (.var 2)]), (.ap (.cell 2) [(.var 0), (.var 2)]), (.ap (.cell 3) [(.var 0), (.var 2)]), (.ap (.cell 4) [(.var 0), (.var 2)]), (.var 1)]) :: r35_h2
def r35_v : List VC := [(((.ap .eq [(.ap (.usr 111) [(.var 1)]), (I 0)]) :: r35_h0), (.ap (.usr 124) [(.var 0), (.var 1), (I 0)])),
 (((.ap .lt [(.var 2), (.ap .len [(.var 0)])]) :: r35_h1), (.ap .le [(I 3), (.var 1)])),
 (((.ap .lt [(.var 2), (.ap .len [(.var 0)])]) :: r35_h1), (.ap .le [(.var 1), (I 7)])),
 (((.ap .lt [(.var 2), (.ap .len [(.var 0)])]) :: r35_h1), (.ap .le [(.ap .len [(.ap (.cell 4) [(.var 0), (.var 2)])]), (I 80)])),
 (((.ap (.usr 112) [(.ap (.cell 0) [(.var 0), (.var 2)]), (.ap (.cell 1) [(.var 0), (.var 2)]), (.ap (.cell 2) [(.var 0), (.var 2)]), (.ap (.cell 3) [(.var 0), (.var 2)]), (.ap (.cell 4) [(.var 0), (.var 2)]), (.var 1)]) :: r35_h2), (.ap .not [(.ap (.usr 126) [(.var 0), (.var 2), (I 0)])])),
 (((.ap .not [(.ap .eq [(.ap (.cell 0) [(.var 0), (.var 3)]), (.ap (.cell 0) [(.var 0), (.var 2)])])]) :: (.ap .lt [(.var 3), (.var 2)]) :: r35_h3), (.ap .not [(.ap (.usr 126) [(.var 0), (.var 2), (.ap (.add .i64) [(.var 3), (I 1)])])])),
 (((.ap .not [(.ap .lt [(.var 3), (.var 2)])]) :: r35_h3), (.ap (.usr 124) [(.var 0), (.var 1), (.ap (.add .i64) [(.var 2), (I 1)])]))]
def r35_o : List (List X × List (List X)) := [(((.ap .not [(.ap .eq [(.ap (.usr 111) [(.var 1)]), (I 0)])]) :: r35_h0), [[(I 2)]]),
 (((.ap .not [(.ap (.usr 112) [(.ap (.cell 0) [(.var 0), (.var 2)]), (.ap (.cell 1) [(.var 0), (.var 2)]), (.ap (.cell 2) [(.var 0), (.var 2)]), (.ap (.cell 3) [(.var 0), (.var 2)]), (.ap (.cell 4) [(.var 0), (.var 2)]), (.var 1)])]) :: r35_h2), [[(I 2)]]),
 (((.ap .eq [(.ap (.cell 0) [(.var 0), (.var 3)]), (.ap (.cell 0) [(.var 0), (.var 2)])]) :: (.ap .lt [(.var 3), (.var 2)]) :: r35_h3), [[(I 2)]]),
 (((.ap .not [(.ap .lt [(.var 2), (.ap .len [(.var 0)])])]) :: r35_h1), [[(I 0)]])]
theorem r35_eq : runS Try.prog (specO (tab T4)) 10 8 ⟨hintL [(4, lp35a), (9, lp35b)], hintA [(6, as34 5)]⟩ Try.f35 (bodyOf Try.f35) SCheck = some (r35_v, r35_o) := by kernel_rfl
set_option maxHeartbeats 4000000 in
set_option maxRecDepth 100000 in
theorem c35 : SpecOK U Try.prog 35 SCheck := by
 refine SpecOK.of (P := Try.prog) (U := U) (T := (tab T4)) (f := 35) (fn := Try.f35) (fuel := 10) (fk := 8) (hs := ⟨hintL [(4, lp35a), (9, lp35b)], hintA [(6, as34 5)]⟩) (S := SCheck) (v := r35_v) (outs := r35_o) mixed hT4 at35 r35_eq ?_ ?_
 ·unfold r35_v
  repeat' (first | exact vcs_nil _ | refine vcs_cons (fun v hh => ?_) ?_)
  all_goals
   simp only [w_var, w_lit, w_ivi, w_bvb, w_add, b_lt, b_le, b_eq, b_not, b_typ, w_len, w_cell, w_usr, w_l0, w_l1, w_vint, w_vbool, w_tru, w_holds0, w_holds1, w_rows, w_nilb, us111, us112, us119, us123, us124, us126, mnX, mxX, cell_at, l1_inj, vInt_inj, eqC_ck, okV_five, r35_h0, r35_h1, r35_h2, r35_h3] at hh ⊢
   repeat (obtain ⟨_, hh⟩ := hh)
   try (first | grind [→ okN_le, → okV_rep, small_row, range_all_succ, okVt, okVs_all, okVs_row, okVs_n, vi_lit, okVs_two, repIn_succ, repIn_0, = w_vint])
 ·intro o ho σ hU hh
  obtain ⟨v⟩ := σ
  cases hU
  simp only [r35_o, List.mem_cons, List.not_mem_nil, or_false] at ho
  repeat' (first | (rcases ho with rfl | ho) | subst ho)
  all_goals
   refine ⟨_, List.mem_cons_self .., by simp only [w_var, w_lit, w_ivi, w_bvb, w_add, b_lt, b_le, b_eq, b_not, b_typ, w_len, w_cell, w_usr, w_l0, w_l1, w_vint, w_vbool, w_tru, w_holds0, w_holds1, w_rows, w_nilb], ?_⟩
   simp only [w_var, w_lit, w_ivi, w_bvb, w_add, b_lt, b_le, b_eq, b_not, b_typ, w_len, w_cell, w_usr, w_l0, w_l1, w_vint, w_vbool, w_tru, w_holds0, w_holds1, w_rows, w_nilb, us111, us112, us119, us123, us124, us126, mnX, mxX, cell_at, l1_inj, vInt_inj, eqC_ck, okV_five, r35_h0, r35_h1, r35_h2, r35_h3] at hh
   simp only [List.map_cons, List.map_nil, w_var, w_lit, w_ivi, w_bvb, w_add, b_lt, b_le, b_eq, b_not, b_typ, w_len, w_cell, w_usr, w_l0, w_l1, w_vint, w_vbool, w_tru, w_holds0, w_holds1, w_rows, w_nilb, w_lt, w_le, w_eq, w_not, w_typ, us111, us112, us119, us123, us124, us126, mnX, mxX, cell_at, l1_inj, vInt_inj, eqC_ck, okV_five]
   repeat (obtain ⟨_, hh⟩ := hh)
   try (first | grind [→ okN_le, → okV_rep, small_row, range_all_succ, okVt, okVs_all, okVs_row, okVs_n, vi_lit, okVs_two, repIn_succ, repIn_0, = w_vint])
end Go.Proofs.Ytlbbkmcegbeckaa.Cn

set_option linter.unusedSectionVars false
set_option linter.unusedVariables false
set_option linter.unusedSimpArgs false
namespace Go.Proofs.Ytlbbkmcegbeckaa.Cn
open Go.Sx Go.Proofs
theorem maxI_snoc {j : Nat} {R : List (List CD)} {r : List CD} : maxI j (R ++ [r]) = max (maxI j R) (at' r j).iv := by
 unfold maxI
 rw [List.foldl_append]
 rfl
theorem maxI_succ {j : Nat} {l : CD} {i : Int} (h0 : 0 ≤ i) (h : i < l.len) : maxI j (l.rows.take (i + 1).toNat) = max (maxI j (l.rows.take i.toNat)) (at' (row l i.toNat) j).iv := by
 rw [take_row h0 h, maxI_snoc]
theorem foldMax_le {j : Nat} : ∀ {R : List (List CD)} {m : Int}, m ≤ R.foldl (fun m v => max m (at' v j).iv) m
 | [], m => Int.le_refl m
 | r :: R, m => Int.le_trans (Int.le_max_left m _) (foldMax_le (R := R))
theorem maxI_0 {j : Nat} {R : List (List CD)} : 0 ≤ maxI j R := foldMax_le
theorem foldMax_mem {j : Nat} {v : List CD} : ∀ {R : List (List CD)} {m : Int}, v ∈ R → (at' v j).iv ≤ R.foldl (fun m v => max m (at' v j).iv) m
 | r :: R, m, h => by
  rcases List.mem_cons.1 h with rfl | h
  ·exact Int.le_trans (Int.le_max_right m _) (foldMax_le (R := R))
  ·exact foldMax_mem (R := R) h
theorem maxI_mem {j : Nat} {R : List (List CD)} {v : List CD} (h : v ∈ R) : (at' v j).iv ≤ maxI j R := foldMax_mem h
theorem foldMax_at {j : Nat} : ∀ {R : List (List CD)} {m : Int}, R.foldl (fun m v => max m (at' v j).iv) m = m ∨ ∃ v ∈ R, (at' v j).iv = R.foldl (fun m v => max m (at' v j).iv) m
 | [], m => .inl rfl
 | r :: R, m => by
  rcases foldMax_at (j := j) (R := R) (m := max m (at' r j).iv) with h | ⟨v, h1, h2⟩
  ·show R.foldl _ (max m (at' r j).iv) = m ∨ _
   rw [h]
   rcases Int.le_total (at' r j).iv m with h3 | h3
   ·exact .inl (Int.max_eq_left h3)
   ·refine .inr ⟨r, List.mem_cons_self .., ?_⟩
    show _ = R.foldl _ (max m (at' r j).iv)
    rw [h, Int.max_eq_right h3]
  ·exact .inr ⟨v, List.mem_cons_of_mem _ h1, h2⟩
theorem okA_mem {l : CD} (h : okA l = true) {v : List CD} (hv : v ∈ l.rows) : okV v 7 = true := List.all_eq_true.1 h v hv
theorem row_mem {l : CD} {i : Int} (h0 : 0 ≤ i) (h : i < l.len) : row l i.toNat ∈ l.rows := by
 have hlt : i.toNat < l.rows.length := by rcases len_lt h with h | h <;> omega
 unfold row
 rw [List.getD_eq_getElem?_getD, List.getElem?_eq_getElem hlt]
 exact List.getElem_mem hlt
theorem okV_all {v : List CD} {n : Int} (h : okV v n = true) : 0 ≤ (at' v 0).iv ∧ (at' v 0).iv ≤ n - 1 ∧ 0 ≤ (at' v 1).iv ∧ (at' v 1).iv ≤ 1073741824 ∧ 0 ≤ (at' v 2).iv ∧ (at' v 2).iv ≤ 1073741824 ∧ 0 ≤ (at' v 3).iv ∧ (at' v 3).iv ≤ 1073741824 ∧ okLog (at' v 4) = true := by
 unfold okV at h
 simp only [Bool.and_eq_true, decide_eq_true_eq] at h
 obtain ⟨⟨⟨⟨⟨⟨⟨⟨h1, h2⟩, h3⟩, h4⟩, h5⟩, h6⟩, h7⟩, h8⟩, h9⟩ := h
 exact ⟨h1, h2, h3, h4, h5, h6, h7, h8, h9⟩
theorem okA_row {l : CD} {i : Int} (h : okA l = true) (h0 : 0 ≤ i) (hi : i < l.len) : 0 ≤ (at' (row l i.toNat) 1).iv ∧ (at' (row l i.toNat) 1).iv ≤ 1073741824 ∧ 0 ≤ (at' (row l i.toNat) 2).iv ∧ (at' (row l i.toNat) 2).iv ≤ 1073741824 ∧ 0 ≤ (at' (row l i.toNat) 3).iv ∧ (at' (row l i.toNat) 3).iv ≤ 1073741824 ∧ okLog (at' (row l i.toNat) 4) = true := by
 obtain ⟨_, _, h1, h2, h3, h4, h5, h6, h7⟩ := okV_all (okA_mem h (row_mem h0 hi))
 exact ⟨h1, h2, h3, h4, h5, h6, h7⟩
theorem okLog_row2 {d : CD} {i : Int} (h : okLog d = true) (h0 : 0 ≤ i) (hi : i < d.len) : okE d i.toNat = true := by
 cases he : okE d i.toNat with
 | true => rfl
 | false => rw [okLog_row h0 hi he] at h; cases h
theorem okE_all {d : CD} {i : Nat} (h : okE d i = true) : 0 < (at' (row d i) 0).iv ∧ prevOp d i < (at' (row d i) 0).iv ∧ (at' (row d i) 0).iv ≤ 1073741824 ∧ 0 ≤ (at' (row d i) 1).iv ∧ (at' (row d i) 1).iv ≤ 1073741824 ∧ 1 ≤ (at' (row d i) 2).iv ∧ (at' (row d i) 2).iv ≤ 4 ∨ prevOp d i < 0 := by
 by_cases hp : prevOp d i < 0
 ·exact .inr hp
 unfold okE at h
 simp only [Bool.and_eq_true, decide_eq_true_eq] at h
 obtain ⟨⟨⟨⟨⟨⟨h1, h2⟩, h3⟩, h4⟩, h5⟩, h6⟩, _⟩ := h
 exact .inl ⟨by omega, by omega, h2, h3, h4, h5, h6⟩
theorem prev_0 {d : CD} (h : okLog d = true) : ∀ i : Nat, i ≤ d.rows.length → 0 ≤ prevOp d i
 | 0, _ => Int.le_refl 0
 | i + 1, hi => by
  unfold okLog at h
  simp only [Bool.and_eq_true] at h
  have hh := List.all_eq_true.1 h.1 i (List.mem_range.2 (by omega))
  have ih := prev_0 (by unfold okLog; simp only [Bool.and_eq_true]; exact h) i (by omega)
  rcases okE_all hh with h' | h'
  ·show 0 ≤ (at' (row d i) 0).iv
   omega
  ·omega
theorem okE_row {l : CD} {i k : Int} (h : okA l = true) (h0 : 0 ≤ i) (hi : i < l.len) (k0 : 0 ≤ k) (hk : k < (at' (row l i.toNat) 4).len) : 0 < (at' (row (at' (row l i.toNat) 4) k.toNat) 0).iv ∧ (at' (row (at' (row l i.toNat) 4) k.toNat) 0).iv ≤ 1073741824 ∧ 0 ≤ (at' (row (at' (row l i.toNat) 4) k.toNat) 1).iv ∧ (at' (row (at' (row l i.toNat) 4) k.toNat) 1).iv ≤ 1073741824 ∧ 1 ≤ (at' (row (at' (row l i.toNat) 4) k.toNat) 2).iv ∧ (at' (row (at' (row l i.toNat) 4) k.toNat) 2).iv ≤ 4 := by
 have hL := (okA_row h h0 hi).2.2.2.2.2.2
 have hlt : k.toNat < (at' (row l i.toNat) 4).rows.length := by rcases len_lt hk with h | h <;> omega
 have := prev_0 hL k.toNat (by omega)
 rcases okE_all (okLog_row2 hL k0 hk) with ⟨a1, a2, a3, a4, a5, a6, a7⟩ | h'
 ·exact ⟨a1, a3, a4, a5, a6, a7⟩
 ·omega
theorem leads_mem {R : List (List CD)} {m : Int} {v : List CD} : v ∈ leadsR R m ↔ v ∈ R ∧ (at' v 1).iv = m := by
 unfold leadsR isLead
 rw [List.mem_filter, decide_eq_true_eq]
theorem leads_snoc {R : List (List CD)} {m : Int} {r : List CD} : leadsR (R ++ [r]) m = leadsR R m ++ if (at' r 1).iv = m then [r] else [] := by
 unfold leadsR
 rw [List.filter_append]
 congr 1
 by_cases h : (at' r 1).iv = m <;> simp [isLead, h]
theorem leads_lt {R : List (List CD)} {m : Int} (h : maxI 1 R < m) : leadsR R m = [] := by
 rw [List.eq_nil_iff_forall_not_mem]
 intro v hv
 rw [leads_mem] at hv
 have := maxI_mem (j := 1) hv.1
 omega
theorem leads_ne {R : List (List CD)} (hne : R ≠ []) (h : ∀ v ∈ R, 0 ≤ (at' v 1).iv) : leadsR R (maxI 1 R) ≠ [] := by
 intro he
 rcases foldMax_at (j := 1) (R := R) (m := 0) with h1 | ⟨v, h1, h2⟩
 ·match R, hne, h with
  | r :: R', _, h =>
   have a := h r (List.mem_cons_self ..)
   have b := maxI_mem (j := 1) (List.mem_cons_self (a := r) (l := R'))
   have c : maxI 1 (r :: R') = 0 := h1
   have : r ∈ leadsR (r :: R') (maxI 1 (r :: R')) := leads_mem.2 ⟨List.mem_cons_self .., by omega⟩
   rw [he] at this
   cases this
 ·have : v ∈ leadsR R (maxI 1 R) := leads_mem.2 ⟨h1, h2⟩
  rw [he] at this
  cases this
theorem eqC_ivn {a b : CD} {k k' : IntKind} (ha : Typ (.int k) a) (hb : Typ (.int k') b) : (eqC a b = true) = (a.iv = b.iv) := by
 obtain ⟨x, rfl⟩ := typ_int ha
 obtain ⟨y, rfl⟩ := typ_int hb
 exact eqC_int
theorem lead_next {l e : CD} {i : Int} (he : e.rows = leadsR (l.rows.take i.toNat) (maxI 1 (l.rows.take i.toNat))) (hT : Typ sVotes l) (hA : okA l = true) (h0 : 0 ≤ i) (hi : i < l.len) :
  leadsR (l.rows.take (i + 1).toNat) (maxI 1 (l.rows.take (i + 1).toNat)) =
   if e.rows = [] then [row l i.toNat] else if (at' (row e (0 : Int).toNat) 1).iv < (at' (row l i.toNat) 1).iv then [row l i.toNat] else if eqC (at' (row l i.toNat) 1) (at' (row e (0 : Int).toNat) 1) = true then e.rows ++ [row l i.toNat] else e.rows := by
 have hr := (okA_row hA h0 hi).1
 have hR : ∀ v ∈ l.rows.take i.toNat, 0 ≤ (at' v 1).iv := fun v hv => (okV_all (okA_mem hA (List.mem_of_mem_take hv))).2.2.1
 rw [maxI_succ h0 hi, take_row h0 hi, leads_snoc]
 have m0 := maxI_0 (j := 1) (R := l.rows.take i.toNat)
 generalize hm : maxI 1 (l.rows.take i.toNat) = m at *
 by_cases hn : e.rows = []
 ·rw [if_pos hn]
  have hz : l.rows.take i.toNat = [] := by
   apply Classical.byContradiction
   intro hne
   have := leads_ne hne hR
   rw [hm, ← he] at this
   exact this hn
  rw [hz] at hm ⊢
  have hm0 : m = 0 := by rw [← hm]; rfl
  rw [hm0, Int.max_eq_right hr, if_pos rfl]
  rfl
 ·rw [if_neg hn]
  obtain ⟨q, es, hq⟩ : ∃ q es, e.rows = q :: es := by
   cases hh : e.rows with
   | nil => exact absurd hh hn
   | cons q es => exact ⟨q, es, rfl⟩
  have hq0 : row e (0 : Int).toNat = q := by unfold row; rw [hq]; rfl
  have hqm : q ∈ leadsR (l.rows.take i.toNat) m := by rw [← he, hq]; exact List.mem_cons_self ..
  obtain ⟨hq1, hq2⟩ := leads_mem.1 hqm
  rw [hq0, hq2]
  have hqT : Typ sI (at' q 1) := by
   obtain ⟨k, hk, hk'⟩ := List.getElem_of_mem (List.mem_of_mem_take hq1)
   have hl := hT.sl.1
   have := hT.cell (i := k) (j := 1) (s := sI) (by omega) (by omega) rfl
   rw [cell_at] at this
   have hrw : row l (k : Int).toNat = q := by unfold row; rw [List.getD_eq_getElem?_getD]; simp [List.getElem?_eq_getElem hk, hk']
   rw [hrw] at this
   exact this
  have hrT : Typ sI (at' (row l i.toNat) 1) := hT.cell (j := 1) h0 hi rfl
  simp only [eqC_ivn hrT hqT, hq2]
  by_cases h1 : m < (at' (row l i.toNat) 1).iv
  ·rw [if_pos h1, Int.max_eq_right (by omega), leads_lt (by omega), if_pos rfl]
   rfl
  ·rw [if_neg h1, Int.max_eq_left (by omega), ← he]
   by_cases h2 : (at' (row l i.toNat) 1).iv = m
   ·rw [if_pos h2, if_pos h2]
   ·rw [if_neg h2, if_neg h2, List.append_nil]
theorem okA_leads {l e : CD} {m : Int} (hA : okA l = true) (he : e.rows = leadsR l.rows m) : okA e = true := by
 unfold okA
 rw [he, List.all_eq_true]
 intro v hv
 exact okA_mem hA (leads_mem.1 hv).1
end Go.Proofs.Ytlbbkmcegbeckaa.Cn
