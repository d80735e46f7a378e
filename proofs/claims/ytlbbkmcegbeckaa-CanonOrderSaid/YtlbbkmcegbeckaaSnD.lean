/-
  Contracts of a chapter's functions: entries of votes. Conditions: none.
  Contracts of a chapter's functions: votes. Conditions: none.
  Contracts of a chapter's functions: which votes may be. Conditions: none.
-/
import Derived.Test.YtlbbkmcegbeckaaSnA
set_option linter.unusedSectionVars false
set_option linter.unusedVariables false
set_option linter.unusedSimpArgs false
namespace Go.Proofs.Ytlbbkmcegbeckaa.Cn
open Go.Sx Go.Proofs
noncomputable def lpE (u a : Nat) (ks : List Nat) : Lp := ⟨[(.slot a, .int .i64)], ks, [0], fun F H k => [.ap .le [zI, .var k], .ap .le [.var k, .ap .len [.var 4]], .ap .not [.ap (.usr u) [.var 5, .var 6, .var 4, .var k]]], fun F H k => .ap (.sub .i64) [.ap .len [.var 4], .var k]⟩
noncomputable def Shas : Fsp := ⟨[(true, sVote), (false, [sI]), (false, [sI])], [], [(false, [.bool])], [([], [[.ap (.usr 103) [.var 5, .var 6, .var 4]]])], true⟩
abbrev r90_h0 : List X := [(.ap .le [mnX, (.var 0)]), (.ap .le [(.var 0), mxX]), (.ap .le [mnX, (.var 1)]), (.ap .le [(.var 1), mxX]), (.ap .le [mnX, (.var 2)]), (.ap .le [(.var 2), mxX]), (.ap .le [mnX, (.var 3)]), (.ap .le [(.var 3), mxX]), (.ap (.typ (.sl sEnt)) [(.var 4)]), (.ap .le [mnX, (.var 5)]), (.ap .le [(.var 5), mxX]), (.ap .le [mnX, (.var 6)]), (.ap .le [(.var 6), mxX])]
abbrev r90_h1 : List X := (.ap .le [(I 0), (.var 7)]) :: (.ap .le [(.var 7), (.ap .len [(.var 4)])]) :: (.ap .not [(.ap (.usr 104) [(.var 5), (.var 6), (.var 4), (.var 7)])]) :: r90_h0
def r90_v : List VC := [(r90_h0, (.ap .not [(.ap (.usr 104) [(.var 5), (.var 6), (.var 4), (I 0)])])),
 (((.ap .not [(.ap .and [(.ap .eq [(.ap (.cell 0) [(.var 4), (.var 7)]), (.var 5)]), (.ap .and [(.ap .eq [(.ap (.cell 1) [(.var 4), (.var 7)]), (.var 6)]), (.ap .and [(.ap .eq [(.ap (.cell 2) [(.var 4), (.var 7)]), (I 1)]), (.lit (.bool true))])])])]) :: (.ap .lt [(.var 7), (.ap .len [(.var 4)])]) :: r90_h1), (.ap .not [(.ap (.usr 104) [(.var 5), (.var 6), (.var 4), (.ap (.add .i64) [(.var 7), (I 1)])])]))]
def r90_o : List (List X × List (List X)) := [(((.ap .and [(.ap .eq [(.ap (.cell 0) [(.var 4), (.var 7)]), (.var 5)]), (.ap .and [(.ap .eq [(.ap (.cell 1) [(.var 4), (.var 7)]), (.var 6)]), (.ap .and [(.ap .eq [(.ap (.cell 2) [(.var 4), (.var 7)]), (I 1)]), (.lit (.bool true))])])]) :: (.ap .lt [(.var 7), (.ap .len [(.var 4)])]) :: r90_h1), [[(.lit (.bool true))]]),
 (((.ap .not [(.ap .lt [(.var 7), (.ap .len [(.var 4)])])]) :: r90_h1), [[(.lit (.bool false))]])]
theorem r90_eq : runS Try.prog (specO T0) 10 6 ⟨hintL [(2, lpE 104 7 [1, 2, 3])], hintA []⟩ Try.f90 (bodyOf Try.f90) Shas = some (r90_v, r90_o) := by kernel_rfl
set_option maxHeartbeats 4000000 in
set_option maxRecDepth 100000 in
theorem c90 : SpecOK U Try.prog 90 Shas := by
 refine SpecOK.of (P := Try.prog) (U := U) (T := T0) (f := 90) (fn := Try.f90) (fuel := 10) (fk := 6) (hs := ⟨hintL [(2, lpE 104 7 [1, 2, 3])], hintA []⟩) (S := Shas) (v := r90_v) (outs := r90_o) mixed hT0 at90 r90_eq ?_ ?_
 ·unfold r90_v
  repeat' (first | exact vcs_nil _ | refine vcs_cons (fun v hh => ?_) ?_)
  all_goals
   simp only [w_var, w_lit, w_ivi, w_bvb, w_add, b_lt, b_le, b_eq, b_not, b_and, b_typ, w_len, w_cell, w_usr, w_l0, w_l1, w_vint, w_vbool, w_tru, w_holds0, w_holds1, w_rows, w_nilb, us103, us104, mnX, mxX, cell_at, l1_inj, vBool_inj, vb_lit, r90_h0, r90_h1] at hh ⊢
   repeat (obtain ⟨_, hh⟩ := hh)
   try (first | grind [any_succ, hasR, any_row, any_take, take_allT, = w_vint])
 ·intro o ho σ hU hh
  obtain ⟨v⟩ := σ
  cases hU
  simp only [r90_o, List.mem_cons, List.not_mem_nil, or_false] at ho
  repeat' (first | (rcases ho with rfl | ho) | subst ho)
  all_goals
   refine ⟨_, List.mem_cons_self .., by simp only [w_var, w_lit, w_ivi, w_bvb, w_add, b_lt, b_le, b_eq, b_not, b_and, b_typ, w_len, w_cell, w_usr, w_l0, w_l1, w_vint, w_vbool, w_tru, w_holds0, w_holds1, w_rows, w_nilb], ?_⟩
   simp only [w_var, w_lit, w_ivi, w_bvb, w_add, b_lt, b_le, b_eq, b_not, b_and, b_typ, w_len, w_cell, w_usr, w_l0, w_l1, w_vint, w_vbool, w_tru, w_holds0, w_holds1, w_rows, w_nilb, us103, us104, mnX, mxX, cell_at, l1_inj, vBool_inj, vb_lit, r90_h0, r90_h1] at hh
   simp only [List.map_cons, List.map_nil, w_var, w_lit, w_ivi, w_bvb, w_add, b_lt, b_le, b_eq, b_not, b_and, b_typ, w_len, w_cell, w_usr, w_l0, w_l1, w_vint, w_vbool, w_tru, w_holds0, w_holds1, w_rows, w_nilb, w_lt, w_le, w_eq, w_not, w_and, w_typ, us103, us104, mnX, mxX, cell_at, l1_inj, vBool_inj, vb_lit]
   repeat (obtain ⟨_, hh⟩ := hh)
   try (first | grind [any_succ, hasR, any_row, any_take, take_allT, = w_vint])
noncomputable def Sden : Fsp := ⟨[(true, sVote), (false, [sI]), (false, [sI])], [], [(false, [.bool])], [([], [[.ap .not [.ap (.usr 105) [.var 5, .var 6, .var 4]]]])], true⟩
abbrev r88_h0 : List X := [(.ap .le [mnX, (.var 0)]), (.ap .le [(.var 0), mxX]), (.ap .le [mnX, (.var 1)]), (.ap .le [(.var 1), mxX]), (.ap .le [mnX, (.var 2)]), (.ap .le [(.var 2), mxX]), (.ap .le [mnX, (.var 3)]), (.ap .le [(.var 3), mxX]), (.ap (.typ (.sl sEnt)) [(.var 4)]), (.ap .le [mnX, (.var 5)]), (.ap .le [(.var 5), mxX]), (.ap .le [mnX, (.var 6)]), (.ap .le [(.var 6), mxX])]
abbrev r88_h1 : List X := (.ap .le [(I 0), (.var 7)]) :: (.ap .le [(.var 7), (.ap .len [(.var 4)])]) :: (.ap .not [(.ap (.usr 106) [(.var 5), (.var 6), (.var 4), (.var 7)])]) :: r88_h0
abbrev r88_h2 : List X := (.ap .eq [(.ap (.cell 0) [(.var 4), (.var 7)]), (.var 5)]) :: (.ap .eq [(.ap (.cell 2) [(.var 4), (.var 7)]), (I 1)]) :: (.ap .lt [(.var 7), (.ap .len [(.var 4)])]) :: r88_h1
abbrev r88_h3 : List X := (.ap .eq [(.ap (.cell 0) [(.var 4), (.var 7)]), (.var 5)]) :: (.ap .not [(.ap .eq [(.ap (.cell 2) [(.var 4), (.var 7)]), (I 1)])]) :: (.ap .lt [(.var 7), (.ap .len [(.var 4)])]) :: r88_h1
abbrev r88_h4 : List X := (.ap .not [(.ap .lt [(.var 6), (I 0)])]) :: (.ap .eq [(.ap (.cell 2) [(.var 4), (.var 7)]), (I 4)]) :: (.ap .not [(.ap .eq [(.ap (.cell 2) [(.var 4), (.var 7)]), (I 3)])]) :: r88_h3
def r88_v : List VC := [(r88_h0, (.ap .not [(.ap (.usr 106) [(.var 5), (.var 6), (.var 4), (I 0)])])),
 (((.ap .not [(.ap .eq [(.ap (.cell 1) [(.var 4), (.var 7)]), (.var 6)])]) :: (.ap .not [(.ap .lt [(.var 6), (I 0)])]) :: (.ap .not [(.ap .eq [(.ap (.cell 2) [(.var 4), (.var 7)]), (I 3)])]) :: r88_h2), (.ap .not [(.ap (.usr 106) [(.var 5), (.var 6), (.var 4), (.ap (.add .i64) [(.var 7), (I 1)])])])),
 (((.ap .not [(.ap .eq [(.ap (.cell 0) [(.var 4), (.var 7)]), (.var 5)])]) :: (.ap .eq [(.ap (.cell 2) [(.var 4), (.var 7)]), (I 1)]) :: (.ap .lt [(.var 7), (.ap .len [(.var 4)])]) :: r88_h1), (.ap .not [(.ap (.usr 106) [(.var 5), (.var 6), (.var 4), (.ap (.add .i64) [(.var 7), (I 1)])])])),
 (((.ap .not [(.ap .eq [(.ap (.cell 1) [(.var 4), (.var 7)]), (.var 6)])]) :: r88_h4), (.ap .not [(.ap (.usr 106) [(.var 5), (.var 6), (.var 4), (.ap (.add .i64) [(.var 7), (I 1)])])])),
 (((.ap .not [(.ap .eq [(.ap (.cell 2) [(.var 4), (.var 7)]), (I 4)])]) :: (.ap .not [(.ap .eq [(.ap (.cell 2) [(.var 4), (.var 7)]), (I 3)])]) :: r88_h3), (.ap .not [(.ap (.usr 106) [(.var 5), (.var 6), (.var 4), (.ap (.add .i64) [(.var 7), (I 1)])])])),
 (((.ap .not [(.ap .eq [(.ap (.cell 0) [(.var 4), (.var 7)]), (.var 5)])]) :: (.ap .not [(.ap .eq [(.ap (.cell 2) [(.var 4), (.var 7)]), (I 1)])]) :: (.ap .lt [(.var 7), (.ap .len [(.var 4)])]) :: r88_h1), (.ap .not [(.ap (.usr 106) [(.var 5), (.var 6), (.var 4), (.ap (.add .i64) [(.var 7), (I 1)])])]))]
def r88_o : List (List X × List (List X)) := [(((.ap .eq [(.ap (.cell 2) [(.var 4), (.var 7)]), (I 3)]) :: r88_h2), [[(.lit (.bool false))]]),
 (((.ap .lt [(.var 6), (I 0)]) :: (.ap .not [(.ap .eq [(.ap (.cell 2) [(.var 4), (.var 7)]), (I 3)])]) :: r88_h2), [[(.lit (.bool false))]]),
 (((.ap .eq [(.ap (.cell 1) [(.var 4), (.var 7)]), (.var 6)]) :: (.ap .not [(.ap .lt [(.var 6), (I 0)])]) :: (.ap .not [(.ap .eq [(.ap (.cell 2) [(.var 4), (.var 7)]), (I 3)])]) :: r88_h2), [[(.lit (.bool false))]]),
 (((.ap .eq [(.ap (.cell 2) [(.var 4), (.var 7)]), (I 3)]) :: r88_h3), [[(.lit (.bool false))]]),
 (((.ap .lt [(.var 6), (I 0)]) :: (.ap .eq [(.ap (.cell 2) [(.var 4), (.var 7)]), (I 4)]) :: (.ap .not [(.ap .eq [(.ap (.cell 2) [(.var 4), (.var 7)]), (I 3)])]) :: r88_h3), [[(.lit (.bool false))]]),
 (((.ap .eq [(.ap (.cell 1) [(.var 4), (.var 7)]), (.var 6)]) :: r88_h4), [[(.lit (.bool false))]]),
 (((.ap .not [(.ap .lt [(.var 7), (.ap .len [(.var 4)])])]) :: r88_h1), [[(.lit (.bool true))]])]
theorem r88_eq : runS Try.prog (specO T0) 10 6 ⟨hintL [(2, lpE 106 7 [1, 2, 3])], hintA []⟩ Try.f88 (bodyOf Try.f88) Sden = some (r88_v, r88_o) := by kernel_rfl
set_option maxHeartbeats 4000000 in
set_option maxRecDepth 100000 in
theorem c88 : SpecOK U Try.prog 88 Sden := by
 refine SpecOK.of (P := Try.prog) (U := U) (T := T0) (f := 88) (fn := Try.f88) (fuel := 10) (fk := 6) (hs := ⟨hintL [(2, lpE 106 7 [1, 2, 3])], hintA []⟩) (S := Sden) (v := r88_v) (outs := r88_o) mixed hT0 at88 r88_eq ?_ ?_
 ·unfold r88_v
  repeat' (first | exact vcs_nil _ | refine vcs_cons (fun v hh => ?_) ?_)
  all_goals
   simp only [w_var, w_lit, w_ivi, w_bvb, w_add, b_lt, b_le, b_eq, b_not, b_typ, w_len, w_cell, w_usr, w_l0, w_l1, w_vint, w_vbool, w_tru, w_holds0, w_holds1, w_rows, w_nilb, us105, us106, mnX, mxX, cell_at, l1_inj, vBool_inj, vb_lit, r88_h0, r88_h1, r88_h2, r88_h3, r88_h4] at hh ⊢
   repeat (obtain ⟨_, hh⟩ := hh)
   try (first | grind [any_succ, denR, any_row, any_take, take_allT, = w_vint])
 ·intro o ho σ hU hh
  obtain ⟨v⟩ := σ
  cases hU
  simp only [r88_o, List.mem_cons, List.not_mem_nil, or_false] at ho
  repeat' (first | (rcases ho with rfl | ho) | subst ho)
  all_goals
   refine ⟨_, List.mem_cons_self .., by simp only [w_var, w_lit, w_ivi, w_bvb, w_add, b_lt, b_le, b_eq, b_not, b_typ, w_len, w_cell, w_usr, w_l0, w_l1, w_vint, w_vbool, w_tru, w_holds0, w_holds1, w_rows, w_nilb], ?_⟩
   simp only [w_var, w_lit, w_ivi, w_bvb, w_add, b_lt, b_le, b_eq, b_not, b_typ, w_len, w_cell, w_usr, w_l0, w_l1, w_vint, w_vbool, w_tru, w_holds0, w_holds1, w_rows, w_nilb, us105, us106, mnX, mxX, cell_at, l1_inj, vBool_inj, vb_lit, r88_h0, r88_h1, r88_h2, r88_h3, r88_h4] at hh
   simp only [List.map_cons, List.map_nil, w_var, w_lit, w_ivi, w_bvb, w_add, b_lt, b_le, b_eq, b_not, b_typ, w_len, w_cell, w_usr, w_l0, w_l1, w_vint, w_vbool, w_tru, w_holds0, w_holds1, w_rows, w_nilb, w_lt, w_le, w_eq, w_not, w_typ, us105, us106, mnX, mxX, cell_at, l1_inj, vBool_inj, vb_lit]
   repeat (obtain ⟨_, hh⟩ := hh)
   try (first | grind [any_succ, denR, any_row, any_take, take_allT, = w_vint])
noncomputable def inlHas (u : Nat) : List (FuncId × Inl) := [(126, ⟨Try.f126, noH⟩), (151, ⟨Try.f151, ⟨hintL [(2, lpE u 8 [0, 1, 6, 7])], hintA []⟩⟩), (127, ⟨Try.f127, noH⟩), (128, ⟨Try.f128, noH⟩)]
set_option maxRecDepth 100000 in
theorem hInlHas (u : Nat) : InlsOK U Try.prog (inlHas u) := .cons (.of at126 (by kernel_rfl)) (.cons (.of at151 (by kernel_rfl)) (.cons (.of at127 (by kernel_rfl)) (.cons (.of at128 (by kernel_rfl)) .nil)))
abbrev r89_h0 : List X := [(.ap .le [mnX, (.var 0)]), (.ap .le [(.var 0), mxX]), (.ap .le [mnX, (.var 1)]), (.ap .le [(.var 1), mxX]), (.ap .le [mnX, (.var 2)]), (.ap .le [(.var 2), mxX]), (.ap .le [mnX, (.var 3)]), (.ap .le [(.var 3), mxX]), (.ap (.typ (.sl sEnt)) [(.var 4)]), (.ap .le [mnX, (.var 5)]), (.ap .le [(.var 5), mxX]), (.ap .le [mnX, (.var 6)]), (.ap .le [(.var 6), mxX])]
abbrev r89_h1 : List X := (.ap .le [(I 0), (.var 7)]) :: (.ap .le [(.var 7), (.ap .len [(.var 4)])]) :: (.ap .not [(.ap (.usr 104) [(.var 5), (.var 6), (.var 4), (.var 7)])]) :: r89_h0
abbrev r89_h2 : List X := (.ap .eq [(.ap (.cell 1) [(.var 4), (.var 7)]), (.var 6)]) :: (.ap .eq [(.ap (.cell 0) [(.var 4), (.var 7)]), (.var 5)]) :: (.ap .lt [(.var 7), (.ap .len [(.var 4)])]) :: r89_h1
def r89_v : List VC := [(r89_h0, (.ap .not [(.ap (.usr 104) [(.var 5), (.var 6), (.var 4), (I 0)])])),
 (((.ap .not [(.ap .eq [(.ap (.cell 2) [(.var 4), (.var 7)]), (I 1)])]) :: r89_h2), (.ap .not [(.ap (.usr 104) [(.var 5), (.var 6), (.var 4), (.ap (.add .i64) [(.var 7), (I 1)])])])),
 (((.ap .not [(.ap .eq [(.ap (.cell 1) [(.var 4), (.var 7)]), (.var 6)])]) :: (.ap .eq [(.ap (.cell 0) [(.var 4), (.var 7)]), (.var 5)]) :: (.ap .lt [(.var 7), (.ap .len [(.var 4)])]) :: r89_h1), (.ap .not [(.ap (.usr 104) [(.var 5), (.var 6), (.var 4), (.ap (.add .i64) [(.var 7), (I 1)])])])),
 (((.ap .not [(.ap .eq [(.ap (.cell 0) [(.var 4), (.var 7)]), (.var 5)])]) :: (.ap .lt [(.var 7), (.ap .len [(.var 4)])]) :: r89_h1), (.ap .not [(.ap (.usr 104) [(.var 5), (.var 6), (.var 4), (.ap (.add .i64) [(.var 7), (I 1)])])]))]
def r89_o : List (List X × List (List X)) := [(((.ap .eq [(.ap (.cell 2) [(.var 4), (.var 7)]), (I 1)]) :: r89_h2), [[(.ap .le [(I 0), (.var 7)])]]),
 (((.ap .not [(.ap .lt [(.var 7), (.ap .len [(.var 4)])])]) :: r89_h1), [[(.lit (.bool false))]])]
theorem r89_eq : runV Try.prog (cxOf Try.prog (specO T0) 10 6 ⟨lookI (inlHas 104), noY, U.lc⟩ 4 89) noH Try.f89 (bodyOf Try.f89) Shas = some (r89_v, r89_o) := by kernel_rfl
set_option maxHeartbeats 4000000 in
set_option maxRecDepth 100000 in
theorem c89 : SpecOK U Try.prog 89 Shas := by
 refine SpecOK.ofV (P := Try.prog) (U := U) (T := T0) (l := (inlHas 104)) (y := noY) (dp := 4) (f := 89) (fn := Try.f89) (fuel := 10) (fk := 6) (hs := noH) (S := Shas) (v := r89_v) (outs := r89_o) mixed hT0 (hInlHas 104) at89 (rangesIn_nil (by kernel_rfl)) r89_eq ?_ ?_
 ·unfold r89_v
  repeat' (first | exact vcs_nil _ | refine vcs_cons (fun v hh => ?_) ?_)
  all_goals
   simp only [w_var, w_lit, w_ivi, w_bvb, w_add, b_lt, b_le, b_eq, b_not, b_typ, w_len, w_cell, w_usr, w_l0, w_l1, w_vint, w_vbool, w_tru, w_holds0, w_holds1, w_rows, w_nilb, us103, us104, mnX, mxX, cell_at, l1_inj, vBool_inj, vb_lit, r89_h0, r89_h1, r89_h2] at hh ⊢
   repeat (obtain ⟨_, hh⟩ := hh)
   try (first | grind [any_succ, hasR, any_row, any_take, take_allT, = w_vint])
 ·intro o ho σ hU hh
  obtain ⟨v⟩ := σ
  cases hU
  simp only [r89_o, List.mem_cons, List.not_mem_nil, or_false] at ho
  repeat' (first | (rcases ho with rfl | ho) | subst ho)
  all_goals
   refine ⟨_, List.mem_cons_self .., by simp only [w_var, w_lit, w_ivi, w_bvb, w_add, b_lt, b_le, b_eq, b_not, b_typ, w_len, w_cell, w_usr, w_l0, w_l1, w_vint, w_vbool, w_tru, w_holds0, w_holds1, w_rows, w_nilb], ?_⟩
   simp only [w_var, w_lit, w_ivi, w_bvb, w_add, b_lt, b_le, b_eq, b_not, b_typ, w_len, w_cell, w_usr, w_l0, w_l1, w_vint, w_vbool, w_tru, w_holds0, w_holds1, w_rows, w_nilb, us103, us104, mnX, mxX, cell_at, l1_inj, vBool_inj, vb_lit, r89_h0, r89_h1, r89_h2] at hh
   simp only [List.map_cons, List.map_nil, w_var, w_lit, w_ivi, w_bvb, w_add, b_lt, b_le, b_eq, b_not, b_typ, w_len, w_cell, w_usr, w_l0, w_l1, w_vint, w_vbool, w_tru, w_holds0, w_holds1, w_rows, w_nilb, w_lt, w_le, w_eq, w_not, w_typ, us103, us104, mnX, mxX, cell_at, l1_inj, vBool_inj, vb_lit]
   repeat (obtain ⟨_, hh⟩ := hh)
   try (first | grind [any_succ, hasR, any_row, any_take, take_allT, = w_vint])
abbrev r87_h0 : List X := [(.ap .le [mnX, (.var 0)]), (.ap .le [(.var 0), mxX]), (.ap .le [mnX, (.var 1)]), (.ap .le [(.var 1), mxX]), (.ap .le [mnX, (.var 2)]), (.ap .le [(.var 2), mxX]), (.ap .le [mnX, (.var 3)]), (.ap .le [(.var 3), mxX]), (.ap (.typ (.sl sEnt)) [(.var 4)]), (.ap .le [mnX, (.var 5)]), (.ap .le [(.var 5), mxX]), (.ap .le [mnX, (.var 6)]), (.ap .le [(.var 6), mxX])]
abbrev r87_h1 : List X := (.ap .le [(I 0), (.var 7)]) :: (.ap .le [(.var 7), (.ap .len [(.var 4)])]) :: (.ap .not [(.ap (.usr 106) [(.var 5), (.var 6), (.var 4), (.var 7)])]) :: r87_h0
abbrev r87_h2 : List X := (.ap .lt [(.var 6), (I 0)]) :: (.ap .eq [(.ap (.cell 0) [(.var 4), (.var 7)]), (.var 5)]) :: (.ap .lt [(.var 7), (.ap .len [(.var 4)])]) :: r87_h1
abbrev r87_h3 : List X := (.ap .not [(.ap .lt [(.var 6), (I 0)])]) :: (.ap .eq [(.ap (.cell 0) [(.var 4), (.var 7)]), (.var 5)]) :: (.ap .lt [(.var 7), (.ap .len [(.var 4)])]) :: r87_h1
abbrev r87_h4 : List X := (.ap .not [(.ap .eq [(.ap (.cell 2) [(.var 4), (.var 7)]), (I 1)])]) :: (.ap .eq [(.ap (.cell 1) [(.var 4), (.var 7)]), (.var 6)]) :: (.ap .not [(.ap .eq [(.ap (.cell 2) [(.var 4), (.var 7)]), (I 3)])]) :: r87_h3
def r87_v : List VC := [(r87_h0, (.ap .not [(.ap (.usr 106) [(.var 5), (.var 6), (.var 4), (I 0)])])),
 (((.ap .not [(.ap .eq [(.ap (.cell 0) [(.var 4), (.var 7)]), (.var 5)])]) :: (.ap .lt [(.var 7), (.ap .len [(.var 4)])]) :: r87_h1), (.ap .not [(.ap (.usr 106) [(.var 5), (.var 6), (.var 4), (.ap (.add .i64) [(.var 7), (I 1)])])])),
 (((.ap .not [(.ap .eq [(.ap (.cell 2) [(.var 4), (.var 7)]), (I 4)])]) :: (.ap .not [(.ap .eq [(.ap (.cell 2) [(.var 4), (.var 7)]), (I 1)])]) :: (.ap .not [(.ap .eq [(.ap (.cell 2) [(.var 4), (.var 7)]), (I 3)])]) :: r87_h2), (.ap .not [(.ap (.usr 106) [(.var 5), (.var 6), (.var 4), (.ap (.add .i64) [(.var 7), (I 1)])])])),
 (((.ap .not [(.ap .eq [(.ap (.cell 2) [(.var 4), (.var 7)]), (I 4)])]) :: r87_h4), (.ap .not [(.ap (.usr 106) [(.var 5), (.var 6), (.var 4), (.ap (.add .i64) [(.var 7), (I 1)])])])),
 (((.ap .not [(.ap .eq [(.ap (.cell 1) [(.var 4), (.var 7)]), (.var 6)])]) :: (.ap .not [(.ap .eq [(.ap (.cell 2) [(.var 4), (.var 7)]), (I 3)])]) :: r87_h3), (.ap .not [(.ap (.usr 106) [(.var 5), (.var 6), (.var 4), (.ap (.add .i64) [(.var 7), (I 1)])])]))]
def r87_o : List (List X × List (List X)) := [(((.ap .eq [(.ap (.cell 2) [(.var 4), (.var 7)]), (I 3)]) :: r87_h2), [[(.ap .not [(.ap .le [(I 0), (.var 7)])])]]),
 (((.ap .eq [(.ap (.cell 2) [(.var 4), (.var 7)]), (I 1)]) :: (.ap .not [(.ap .eq [(.ap (.cell 2) [(.var 4), (.var 7)]), (I 3)])]) :: r87_h2), [[(.ap .not [(.ap .le [(I 0), (.var 7)])])]]),
 (((.ap .eq [(.ap (.cell 2) [(.var 4), (.var 7)]), (I 4)]) :: (.ap .not [(.ap .eq [(.ap (.cell 2) [(.var 4), (.var 7)]), (I 1)])]) :: (.ap .not [(.ap .eq [(.ap (.cell 2) [(.var 4), (.var 7)]), (I 3)])]) :: r87_h2), [[(.ap .not [(.ap .le [(I 0), (.var 7)])])]]),
 (((.ap .eq [(.ap (.cell 2) [(.var 4), (.var 7)]), (I 3)]) :: r87_h3), [[(.ap .not [(.ap .le [(I 0), (.var 7)])])]]),
 (((.ap .eq [(.ap (.cell 2) [(.var 4), (.var 7)]), (I 1)]) :: (.ap .eq [(.ap (.cell 1) [(.var 4), (.var 7)]), (.var 6)]) :: (.ap .not [(.ap .eq [(.ap (.cell 2) [(.var 4), (.var 7)]), (I 3)])]) :: r87_h3), [[(.ap .not [(.ap .le [(I 0), (.var 7)])])]]),
 (((.ap .eq [(.ap (.cell 2) [(.var 4), (.var 7)]), (I 4)]) :: r87_h4), [[(.ap .not [(.ap .le [(I 0), (.var 7)])])]]),
 (((.ap .not [(.ap .lt [(.var 7), (.ap .len [(.var 4)])])]) :: r87_h1), [[(.lit (.bool true))]])]
theorem r87_eq : runV Try.prog (cxOf Try.prog (specO T0) 10 6 ⟨lookI (inlHas 106), noY, U.lc⟩ 4 87) noH Try.f87 (bodyOf Try.f87) Sden = some (r87_v, r87_o) := by kernel_rfl
set_option maxHeartbeats 4000000 in
set_option maxRecDepth 100000 in
theorem c87 : SpecOK U Try.prog 87 Sden := by
 refine SpecOK.ofV (P := Try.prog) (U := U) (T := T0) (l := (inlHas 106)) (y := noY) (dp := 4) (f := 87) (fn := Try.f87) (fuel := 10) (fk := 6) (hs := noH) (S := Sden) (v := r87_v) (outs := r87_o) mixed hT0 (hInlHas 106) at87 (rangesIn_nil (by kernel_rfl)) r87_eq ?_ ?_
 ·unfold r87_v
  repeat' (first | exact vcs_nil _ | refine vcs_cons (fun v hh => ?_) ?_)
  all_goals
   simp only [w_var, w_lit, w_ivi, w_bvb, w_add, b_lt, b_le, b_eq, b_not, b_typ, w_len, w_cell, w_usr, w_l0, w_l1, w_vint, w_vbool, w_tru, w_holds0, w_holds1, w_rows, w_nilb, us105, us106, mnX, mxX, cell_at, l1_inj, vBool_inj, vb_lit, r87_h0, r87_h1, r87_h2, r87_h3, r87_h4] at hh ⊢
   repeat (obtain ⟨_, hh⟩ := hh)
   try (first | grind [any_succ, denR, any_row, any_take, take_allT, = w_vint])
 ·intro o ho σ hU hh
  obtain ⟨v⟩ := σ
  cases hU
  simp only [r87_o, List.mem_cons, List.not_mem_nil, or_false] at ho
  repeat' (first | (rcases ho with rfl | ho) | subst ho)
  all_goals
   refine ⟨_, List.mem_cons_self .., by simp only [w_var, w_lit, w_ivi, w_bvb, w_add, b_lt, b_le, b_eq, b_not, b_typ, w_len, w_cell, w_usr, w_l0, w_l1, w_vint, w_vbool, w_tru, w_holds0, w_holds1, w_rows, w_nilb], ?_⟩
   simp only [w_var, w_lit, w_ivi, w_bvb, w_add, b_lt, b_le, b_eq, b_not, b_typ, w_len, w_cell, w_usr, w_l0, w_l1, w_vint, w_vbool, w_tru, w_holds0, w_holds1, w_rows, w_nilb, us105, us106, mnX, mxX, cell_at, l1_inj, vBool_inj, vb_lit, r87_h0, r87_h1, r87_h2, r87_h3, r87_h4] at hh
   simp only [List.map_cons, List.map_nil, w_var, w_lit, w_ivi, w_bvb, w_add, b_lt, b_le, b_eq, b_not, b_typ, w_len, w_cell, w_usr, w_l0, w_l1, w_vint, w_vbool, w_tru, w_holds0, w_holds1, w_rows, w_nilb, w_lt, w_le, w_eq, w_not, w_typ, us105, us106, mnX, mxX, cell_at, l1_inj, vBool_inj, vb_lit]
   repeat (obtain ⟨_, hh⟩ := hh)
   try (first | grind [any_succ, denR, any_row, any_take, take_allT, = w_vint])
end Go.Proofs.Ytlbbkmcegbeckaa.Cn

set_option linter.unusedSectionVars false
set_option linter.unusedVariables false
set_option linter.unusedSimpArgs false
namespace Go.Proofs.Ytlbbkmcegbeckaa.Cn
open Go.Sx Go.Proofs
noncomputable def T2 : List (FuncId × Fsp) := [(87, Sden), (88, Sden), (89, Shas), (90, Shas)]
set_option maxRecDepth 100000 in
theorem hT2 : TabOK U Try.prog T2 := .cons c87 (.cons c88 (.cons c89 (.cons c90 .nil)))
noncomputable def lpN (a b : Nat) (ks : List Nat) : Lp := ⟨[(.slot a, .int .i64), (.slot b, .int .i64)], ks, [0], fun F H k => [.ap .le [zI, .var (k+1)], .ap .le [.var (k+1), .ap .len [.var 0]], .ap .le [zI, .var k], .ap .le [.var k, .var (k+1)], .ap .same [.var k, .ap (.usr 108) [.var 1, .var 2, .var 0, .var (k+1)]]], fun F H k => .ap (.sub .i64) [.ap .len [.var 0], .var (k+1)]⟩
noncomputable def SDen : Fsp := ⟨[(false, [sVotes]), (false, [sI]), (false, [sI])], [], [(false, [sI])], [([], [[.ap (.usr 107) [.var 1, .var 2, .var 0]]])], true⟩
abbrev r37_h0 : List X := [(.ap (.typ sVotes) [(.var 0)]), (.ap .le [mnX, (.var 1)]), (.ap .le [(.var 1), mxX]), (.ap .le [mnX, (.var 2)]), (.ap .le [(.var 2), mxX])]
abbrev r37_h1 : List X := (.ap .le [(I 0), (.var 4)]) :: (.ap .le [(.var 4), (.ap .len [(.var 0)])]) :: (.ap .le [(I 0), (.var 3)]) :: (.ap .le [(.var 3), (.var 4)]) :: (.ap .same [(.var 3), (.ap (.usr 108) [(.var 1), (.var 2), (.var 0), (.var 4)])]) :: r37_h0
def r37_v : List VC := [(r37_h0, (.ap .same [(I 0), (.ap (.usr 108) [(.var 1), (.var 2), (.var 0), (I 0)])])),
 (((.ap .not [(.ap (.usr 105) [(.var 1), (.var 2), (.ap (.cell 4) [(.var 0), (.var 4)])])]) :: (.ap .lt [(.var 4), (.ap .len [(.var 0)])]) :: r37_h1), (.ap .same [(.ap (.add .i64) [(.var 3), (I 1)]), (.ap (.usr 108) [(.var 1), (.var 2), (.var 0), (.ap (.add .i64) [(.var 4), (I 1)])])])),
 (((.ap (.usr 105) [(.var 1), (.var 2), (.ap (.cell 4) [(.var 0), (.var 4)])]) :: (.ap .lt [(.var 4), (.ap .len [(.var 0)])]) :: r37_h1), (.ap .same [(.var 3), (.ap (.usr 108) [(.var 1), (.var 2), (.var 0), (.ap (.add .i64) [(.var 4), (I 1)])])]))]
def r37_o : List (List X × List (List X)) := [(((.ap .not [(.ap .lt [(.var 4), (.ap .len [(.var 0)])])]) :: r37_h1), [[(.var 3)]])]
theorem r37_eq : runS Try.prog (specO (tab T2)) 10 6 ⟨hintL [(3, lpN 7 12 [0, 1, 2, 10, 11])], hintA []⟩ Try.f37 (bodyOf Try.f37) SDen = some (r37_v, r37_o) := by kernel_rfl
set_option maxHeartbeats 4000000 in
set_option maxRecDepth 100000 in
theorem c37 : SpecOK U Try.prog 37 SDen := by
 refine SpecOK.of (P := Try.prog) (U := U) (T := (tab T2)) (f := 37) (fn := Try.f37) (fuel := 10) (fk := 6) (hs := ⟨hintL [(3, lpN 7 12 [0, 1, 2, 10, 11])], hintA []⟩) (S := SDen) (v := r37_v) (outs := r37_o) mixed hT2 at37 r37_eq ?_ ?_
 ·unfold r37_v
  repeat' (first | exact vcs_nil _ | refine vcs_cons (fun v hh => ?_) ?_)
  all_goals
   simp only [w_var, w_lit, w_ivi, w_bvb, w_add, b_lt, b_le, b_not, b_typ, b_same, w_len, w_cell, w_usr, w_l0, w_l1, w_vint, w_vbool, w_tru, w_holds0, w_holds1, w_rows, w_nilb, us105, us107, us108, mnX, mxX, cell_at, l1_inj, vInt_inj, vi_lit, r37_h0, r37_h1] at hh ⊢
   repeat (obtain ⟨_, hh⟩ := hh)
   try (first | grind [filtLen_succ, denV, take_allT, = w_vint])
 ·intro o ho σ hU hh
  obtain ⟨v⟩ := σ
  cases hU
  simp only [r37_o, List.mem_cons, List.not_mem_nil, or_false] at ho
  repeat' (first | (rcases ho with rfl | ho) | subst ho)
  all_goals
   refine ⟨_, List.mem_cons_self .., by simp only [w_var, w_lit, w_ivi, w_bvb, w_add, b_lt, b_le, b_not, b_typ, b_same, w_len, w_cell, w_usr, w_l0, w_l1, w_vint, w_vbool, w_tru, w_holds0, w_holds1, w_rows, w_nilb], ?_⟩
   simp only [w_var, w_lit, w_ivi, w_bvb, w_add, b_lt, b_le, b_not, b_typ, b_same, w_len, w_cell, w_usr, w_l0, w_l1, w_vint, w_vbool, w_tru, w_holds0, w_holds1, w_rows, w_nilb, us105, us107, us108, mnX, mxX, cell_at, l1_inj, vInt_inj, vi_lit, r37_h0, r37_h1] at hh
   simp only [List.map_cons, List.map_nil, w_var, w_lit, w_ivi, w_bvb, w_add, b_lt, b_le, b_not, b_typ, b_same, w_len, w_cell, w_usr, w_l0, w_l1, w_vint, w_vbool, w_tru, w_holds0, w_holds1, w_rows, w_nilb, w_lt, w_le, w_not, w_same, w_typ, us105, us107, us108, mnX, mxX, cell_at, l1_inj, vInt_inj, vi_lit]
   repeat (obtain ⟨_, hh⟩ := hh)
   try (first | grind [filtLen_succ, denV, take_allT, = w_vint])
noncomputable def lpH (a b : Nat) (ks : List Nat) : Lp := ⟨[(.slot a, .own true [sI]), (.slot b, .int .i64)], ks, [], fun F H k => [.ap .le [zI, .var (k+2)], .ap .le [.var (k+2), .ap .len [.var 0]], .ap .le [.var k, .var (k+2)], .ap .same [.ap (.mk true) [.var (k+1)], .ap (.usr 110) [.var 1, .var 2, .var 0, .var (k+2)]]], fun F H k => .ap (.sub .i64) [.ap .len [.var 0], .var (k+2)]⟩
noncomputable def SHas : Fsp := ⟨[(false, [sVotes]), (false, [sI]), (false, [sI])], [.ap .le [.ap .len [.var 0], I 10]], [(false, [.sl [sI]])], [([], [[.ap (.usr 109) [.var 1, .var 2, .var 0]]])], true⟩
abbrev r40_h0 : List X := [(.ap (.typ sVotes) [(.var 0)]), (.ap .le [mnX, (.var 1)]), (.ap .le [(.var 1), mxX]), (.ap .le [mnX, (.var 2)]), (.ap .le [(.var 2), mxX]), (.ap .le [(.ap .len [(.var 0)]), (I 10)])]
abbrev r40_h1 : List X := (.ap .le [(I 0), (.var 5)]) :: (.ap .le [(.var 5), (.ap .len [(.var 0)])]) :: (.ap .le [(.var 3), (.var 5)]) :: (.ap .same [(.ap (.mk true) [(.var 4)]), (.ap (.usr 110) [(.var 1), (.var 2), (.var 0), (.var 5)])]) :: r40_h0
def r40_v : List VC := [(r40_h0, (.ap .same [(.ap (.mk true) [(.ap (.nil true) [])]), (.ap (.usr 110) [(.var 1), (.var 2), (.var 0), (I 0)])])),
 (((.ap (.usr 103) [(.var 1), (.var 2), (.ap (.cell 4) [(.var 0), (.var 5)])]) :: (.ap .lt [(.var 5), (.ap .len [(.var 0)])]) :: r40_h1), (.ap .same [(.ap (.mk true) [(.ap .cat [(.var 4), (.ap .snoc [(.ap (.nil false) []), (.ap (.cell 0) [(.var 0), (.var 5)])])])]), (.ap (.usr 110) [(.var 1), (.var 2), (.var 0), (.ap (.add .i64) [(.var 5), (I 1)])])])),
 (((.ap .not [(.ap (.usr 103) [(.var 1), (.var 2), (.ap (.cell 4) [(.var 0), (.var 5)])])]) :: (.ap .lt [(.var 5), (.ap .len [(.var 0)])]) :: r40_h1), (.ap .same [(.ap (.mk true) [(.var 4)]), (.ap (.usr 110) [(.var 1), (.var 2), (.var 0), (.ap (.add .i64) [(.var 5), (I 1)])])]))]
def r40_o : List (List X × List (List X)) := [(((.ap .not [(.ap .lt [(.var 5), (.ap .len [(.var 0)])])]) :: r40_h1), [[(.ap (.mk true) [(.var 4)])]])]
theorem r40_eq : runS Try.prog (specO (tab T2)) 10 6 ⟨hintL [(3, lpH 7 12 [0, 1, 2, 10, 11])], hintA []⟩ Try.f40 (bodyOf Try.f40) SHas = some (r40_v, r40_o) := by kernel_rfl
set_option maxHeartbeats 4000000 in
set_option maxRecDepth 100000 in
theorem c40 : SpecOK U Try.prog 40 SHas := by
 refine SpecOK.of (P := Try.prog) (U := U) (T := (tab T2)) (f := 40) (fn := Try.f40) (fuel := 10) (fk := 6) (hs := ⟨hintL [(3, lpH 7 12 [0, 1, 2, 10, 11])], hintA []⟩) (S := SHas) (v := r40_v) (outs := r40_o) mixed hT2 at40 r40_eq ?_ ?_
 ·unfold r40_v
  repeat' (first | exact vcs_nil _ | refine vcs_cons (fun v hh => ?_) ?_)
  all_goals
   simp only [w_var, w_lit, w_ivi, w_bvb, w_add, b_lt, b_le, b_not, b_typ, b_same, w_len, w_cell, w_nil, w_mk, w_snoc, w_cat, w_usr, w_l0, w_l1, w_vint, w_vbool, w_tru, w_holds0, w_holds1, w_rows, w_nilb, us103, us109, us110, mnX, mxX, cell_at, l1_inj, mkz_fold, mkz_eq, r40_h0, r40_h1] at hh ⊢
   repeat (obtain ⟨_, hh⟩ := hh)
   try (first | grind [filtMap_succ, hasV, take_allT, = w_vint])
 ·intro o ho σ hU hh
  obtain ⟨v⟩ := σ
  cases hU
  simp only [r40_o, List.mem_cons, List.not_mem_nil, or_false] at ho
  repeat' (first | (rcases ho with rfl | ho) | subst ho)
  all_goals
   refine ⟨_, List.mem_cons_self .., by simp only [w_var, w_lit, w_ivi, w_bvb, w_add, b_lt, b_le, b_not, b_typ, b_same, w_len, w_cell, w_nil, w_mk, w_snoc, w_cat, w_usr, w_l0, w_l1, w_vint, w_vbool, w_tru, w_holds0, w_holds1, w_rows, w_nilb], ?_⟩
   simp only [w_var, w_lit, w_ivi, w_bvb, w_add, b_lt, b_le, b_not, b_typ, b_same, w_len, w_cell, w_nil, w_mk, w_snoc, w_cat, w_usr, w_l0, w_l1, w_vint, w_vbool, w_tru, w_holds0, w_holds1, w_rows, w_nilb, us103, us109, us110, mnX, mxX, cell_at, l1_inj, mkz_fold, mkz_eq, r40_h0, r40_h1] at hh
   simp only [List.map_cons, List.map_nil, w_var, w_lit, w_ivi, w_bvb, w_add, b_lt, b_le, b_not, b_typ, b_same, w_len, w_cell, w_nil, w_mk, w_snoc, w_cat, w_usr, w_l0, w_l1, w_vint, w_vbool, w_tru, w_holds0, w_holds1, w_rows, w_nilb, w_lt, w_le, w_not, w_same, w_typ, us103, us109, us110, mnX, mxX, cell_at, l1_inj, mkz_fold, mkz_eq]
   repeat (obtain ⟨_, hh⟩ := hh)
   try (first | grind [filtMap_succ, hasV, take_allT, = w_vint])
end Go.Proofs.Ytlbbkmcegbeckaa.Cn

set_option linter.unusedSectionVars false
set_option linter.unusedVariables false
set_option linter.unusedSimpArgs false
namespace Go.Proofs.Ytlbbkmcegbeckaa.Cn
open Go.Sx Go.Proofs
noncomputable def T3 : List (FuncId × Fsp) := [(81, Sck), (85, Sck), (122, Swith), (125, Swith), (148, Slog), (149, Slog)]
set_option maxRecDepth 100000 in
theorem hT3 : TabOK U Try.prog T3 := .cons c81 (.cons c85 (.cons c122 (.cons c125 (.cons c148 (.cons c149 .nil)))))
noncomputable def Sen : Fsp := ⟨[(false, [sI])], [], [(false, [sI]), (false, [sI])], [([], [[.ap (.usr 113) [.var 0]], [.ap (.usr 111) [.var 0]]])], true⟩
noncomputable def inlEn : List (FuncId × Inl) := [(115, ⟨Try.f115, noH⟩)]
set_option maxRecDepth 100000 in
theorem hInlEn : InlsOK U Try.prog inlEn := .cons (.of at115 (by kernel_rfl)) .nil
abbrev r71_h0 : List X := [(.ap .le [mnX, (.ap (.usr 111) [(.var 0)])]), (.ap .le [(.ap (.usr 111) [(.var 0)]), mxX]), (.ap .le [mnX, (.var 0)]), (.ap .le [(.var 0), mxX])]
def r71_v : List VC := []
def r71_o : List (List X × List (List X)) := [(((.ap .not [(.ap .eq [(.ap (.usr 111) [(.var 0)]), (I 0)])]) :: r71_h0), [[(I 0)], [(.ap (.usr 111) [(.var 0)])]]),
 (((.ap .eq [(.ap (.usr 111) [(.var 0)]), (I 0)]) :: r71_h0), [[(.ap (.wr .i64) [(.ap (.add .i64) [(.ap (.shf .shr .i64) [(.var 0), (.lit (.int .u64 1))]), (I 1)])])], [(I 0)]])]
theorem r71_eq : runV Try.prog (cxOf Try.prog (specO (tab T3)) 10 6 ⟨lookI inlEn, noY, U.lc⟩ 2 71) noH Try.f71 (bodyOf Try.f71) Sen = some (r71_v, r71_o) := by kernel_rfl
set_option maxHeartbeats 4000000 in
set_option maxRecDepth 100000 in
theorem c71 : SpecOK U Try.prog 71 Sen := by
 refine SpecOK.ofV (P := Try.prog) (U := U) (T := (tab T3)) (l := inlEn) (y := noY) (dp := 2) (f := 71) (fn := Try.f71) (fuel := 10) (fk := 6) (hs := noH) (S := Sen) (v := r71_v) (outs := r71_o) mixed hT3 hInlEn at71 (rangesIn_nil (by kernel_rfl)) r71_eq ?_ ?_
 ·unfold r71_v
  repeat' (first | exact vcs_nil _ | refine vcs_cons (fun v hh => ?_) ?_)
  all_goals
   simp only [w_var, w_lit, w_ivi, w_bvb, w_add, w_wr, b_le, b_eq, b_not, w_usr, w_l0, w_l1, w_vint, w_vbool, w_tru, w_holds0, w_holds1, w_rows, w_nilb, w_shf, us111, us113, mnX, mxX, eqC_ck, r71_h0] at hh ⊢
   repeat (obtain ⟨_, hh⟩ := hh)
   try (first | grind [en_a, en_b, en_0, vi_lit, = w_vint])
 ·intro o ho σ hU hh
  obtain ⟨v⟩ := σ
  cases hU
  simp only [r71_o, List.mem_cons, List.not_mem_nil, or_false] at ho
  repeat' (first | (rcases ho with rfl | ho) | subst ho)
  all_goals
   refine ⟨_, List.mem_cons_self .., by simp only [w_var, w_lit, w_ivi, w_bvb, w_add, w_wr, b_le, b_eq, b_not, w_usr, w_l0, w_l1, w_vint, w_vbool, w_tru, w_holds0, w_holds1, w_rows, w_nilb, w_shf], ?_⟩
   simp only [w_var, w_lit, w_ivi, w_bvb, w_add, w_wr, b_le, b_eq, b_not, w_usr, w_l0, w_l1, w_vint, w_vbool, w_tru, w_holds0, w_holds1, w_rows, w_nilb, w_shf, us111, us113, mnX, mxX, eqC_ck, r71_h0] at hh
   simp only [List.map_cons, List.map_nil, w_var, w_lit, w_ivi, w_bvb, w_add, w_wr, b_le, b_eq, b_not, w_usr, w_l0, w_l1, w_vint, w_vbool, w_tru, w_holds0, w_holds1, w_rows, w_nilb, w_shf, w_le, w_eq, w_not, us111, us113, mnX, mxX, eqC_ck]
   repeat (obtain ⟨_, hh⟩ := hh)
   try (first | grind [en_a, en_b, en_0, vi_lit, = w_vint])
noncomputable def lpB (a b : Nat) (ks : List Nat) : Lp := ⟨[(.slot a, .own true [.int .u8]), (.slot b, .int .i64)], ks, [], fun F H k => [.ap .le [zI, .var (k+2)], .ap .le [.var (k+2), .ap .len [.var 4]], .ap .le [zI, .var k], .ap .le [.var k, .ap (.mul .i64) [.var (k+2), I 12]]], fun F H k => .ap (.sub .i64) [.ap .len [.var 4], .var (k+2)]⟩
noncomputable def Smay : Fsp := ⟨[(true, sVote), (false, [sI])], [.ap .le [.ap .len [.var 4], I 80], .ap .le [I 3, .var 5], .ap .le [.var 5, I 7]], [(false, [.bool])], [([], [[.ap (.usr 112) [.var 0, .var 1, .var 2, .var 3, .var 4, .var 5]]])], true⟩
noncomputable def inlMay : List (FuncId × Inl) := [(123, ⟨Try.f123, ⟨hintL [(5, lpB 4 14 [0, 12, 13])], hintA []⟩⟩)]
set_option maxRecDepth 100000 in
theorem hInlMay : InlsOK U Try.prog inlMay := .cons (.of at123 (by kernel_rfl)) .nil
abbrev r82_h0 : List X := [(.ap .le [mnX, (.var 0)]), (.ap .le [(.var 0), mxX]), (.ap .le [mnX, (.var 1)]), (.ap .le [(.var 1), mxX]), (.ap .le [mnX, (.var 2)]), (.ap .le [(.var 2), mxX]), (.ap .le [mnX, (.var 3)]), (.ap .le [(.var 3), mxX]), (.ap (.typ (.sl sEnt)) [(.var 4)]), (.ap .le [mnX, (.var 5)]), (.ap .le [(.var 5), mxX]), (.ap .le [(.ap .len [(.var 4)]), (I 80)]), (.ap .le [(I 3), (.var 5)]), (.ap .le [(.var 5), (I 7)])]
abbrev r82_h1 : List X := (.ap .and [(.ap .le [(I 0), (.var 2)]), (.ap .le [(.var 2), (I 1073741824)])]) :: (.ap .and [(.ap .le [(I 0), (.var 1)]), (.ap .le [(.var 1), (I 1073741824)])]) :: (.ap .and [(.ap .le [(I 0), (.var 0)]), (.ap .le [(.var 0), (.ap (.sub .i64) [(.var 5), (I 1)])])]) :: r82_h0
def r82_v : List VC := []
def r82_o : List (List X × List (List X)) := [(((.ap .not [(.ap .and [(.ap .le [(I 0), (.var 0)]), (.ap .le [(.var 0), (.ap (.sub .i64) [(.var 5), (I 1)])])])]) :: r82_h0), [[(.lit (.bool false))]]),
 (((.ap .not [(.ap .and [(.ap .le [(I 0), (.var 1)]), (.ap .le [(.var 1), (I 1073741824)])])]) :: (.ap .and [(.ap .le [(I 0), (.var 0)]), (.ap .le [(.var 0), (.ap (.sub .i64) [(.var 5), (I 1)])])]) :: r82_h0), [[(.lit (.bool false))]]),
 (((.ap .not [(.ap .and [(.ap .le [(I 0), (.var 2)]), (.ap .le [(.var 2), (I 1073741824)])])]) :: (.ap .and [(.ap .le [(I 0), (.var 1)]), (.ap .le [(.var 1), (I 1073741824)])]) :: (.ap .and [(.ap .le [(I 0), (.var 0)]), (.ap .le [(.var 0), (.ap (.sub .i64) [(.var 5), (I 1)])])]) :: r82_h0), [[(.lit (.bool false))]]),
 (((.ap .not [(.ap .and [(.ap .le [(I 0), (.var 3)]), (.ap .le [(.var 3), (I 1073741824)])])]) :: r82_h1), [[(.lit (.bool false))]]),
 (((.ap .not [(.ap (.usr 100) [(.var 4)])]) :: (.ap .and [(.ap .le [(I 0), (.var 3)]), (.ap .le [(.var 3), (I 1073741824)])]) :: r82_h1), [[(.lit (.bool false))]]),
 (((.ap .not [(.ap .lt [(.var 8), (.ap .len [(.var 4)])])]) :: (.ap .le [(I 0), (.var 8)]) :: (.ap .le [(.var 8), (.ap .len [(.var 4)])]) :: (.ap .le [(I 0), (.var 6)]) :: (.ap .le [(.var 6), (.ap (.mul .i64) [(.var 8), (I 12)])]) :: (.ap (.usr 100) [(.var 4)]) :: (.ap .and [(.ap .le [(I 0), (.var 3)]), (.ap .le [(.var 3), (I 1073741824)])]) :: r82_h1), [[(.lit (.bool true))]])]
theorem r82_eq : runV Try.prog (cxOf Try.prog (specO (tab T3)) 10 8 ⟨lookI inlMay, noY, U.lc⟩ 2 82) noH Try.f82 (bodyOf Try.f82) Smay = some (r82_v, r82_o) := by kernel_rfl
set_option maxHeartbeats 4000000 in
set_option maxRecDepth 100000 in
theorem c82 : SpecOK U Try.prog 82 Smay := by
 refine SpecOK.ofV (P := Try.prog) (U := U) (T := (tab T3)) (l := inlMay) (y := noY) (dp := 2) (f := 82) (fn := Try.f82) (fuel := 10) (fk := 8) (hs := noH) (S := Smay) (v := r82_v) (outs := r82_o) mixed hT3 hInlMay at82 (rangesIn_nil (by kernel_rfl)) r82_eq ?_ ?_
 ·unfold r82_v
  repeat' (first | exact vcs_nil _ | refine vcs_cons (fun v hh => ?_) ?_)
  all_goals
   simp only [w_var, w_lit, w_ivi, w_bvb, w_sub, w_mul, b_lt, b_le, b_not, b_and, b_typ, w_len, w_usr, w_l0, w_l1, w_vint, w_vbool, w_tru, w_holds0, w_holds1, w_rows, w_nilb, us100, us112, mnX, mxX, l1_inj, vBool_inj, vb_lit, r82_h0, r82_h1] at hh ⊢
   repeat (obtain ⟨_, hh⟩ := hh)
   try (first | grind [okV, at', = w_vint])
 ·intro o ho σ hU hh
  obtain ⟨v⟩ := σ
  cases hU
  simp only [r82_o, List.mem_cons, List.not_mem_nil, or_false] at ho
  repeat' (first | (rcases ho with rfl | ho) | subst ho)
  all_goals
   refine ⟨_, List.mem_cons_self .., by simp only [w_var, w_lit, w_ivi, w_bvb, w_sub, w_mul, b_lt, b_le, b_not, b_and, b_typ, w_len, w_usr, w_l0, w_l1, w_vint, w_vbool, w_tru, w_holds0, w_holds1, w_rows, w_nilb], ?_⟩
   simp only [w_var, w_lit, w_ivi, w_bvb, w_sub, w_mul, b_lt, b_le, b_not, b_and, b_typ, w_len, w_usr, w_l0, w_l1, w_vint, w_vbool, w_tru, w_holds0, w_holds1, w_rows, w_nilb, us100, us112, mnX, mxX, l1_inj, vBool_inj, vb_lit, r82_h0, r82_h1] at hh
   simp only [List.map_cons, List.map_nil, w_var, w_lit, w_ivi, w_bvb, w_sub, w_mul, b_lt, b_le, b_not, b_and, b_typ, w_len, w_usr, w_l0, w_l1, w_vint, w_vbool, w_tru, w_holds0, w_holds1, w_rows, w_nilb, w_lt, w_le, w_not, w_and, w_typ, us100, us112, mnX, mxX, l1_inj, vBool_inj, vb_lit]
   repeat (obtain ⟨_, hh⟩ := hh)
   try (first | grind [okV, at', = w_vint])
noncomputable def inlVote : List (FuncId × Inl) := [(124, ⟨Try.f124, ⟨hintL [(5, lpB 4 5 [0])], hintA []⟩⟩), (150, ⟨Try.f150, noH⟩)]
set_option maxRecDepth 100000 in
theorem hInlVote : InlsOK U Try.prog inlVote := .cons (.of at124 (by kernel_rfl)) (.cons (.of at150 (by kernel_rfl)) .nil)
abbrev r86_h0 : List X := [(.ap .le [mnX, (.var 0)]), (.ap .le [(.var 0), mxX]), (.ap .le [mnX, (.var 1)]), (.ap .le [(.var 1), mxX]), (.ap .le [mnX, (.var 2)]), (.ap .le [(.var 2), mxX]), (.ap .le [mnX, (.var 3)]), (.ap .le [(.var 3), mxX]), (.ap (.typ (.sl sEnt)) [(.var 4)]), (.ap .le [mnX, (.var 5)]), (.ap .le [(.var 5), mxX]), (.ap .le [(.ap .len [(.var 4)]), (I 80)]), (.ap .le [(I 3), (.var 5)]), (.ap .le [(.var 5), (I 7)])]
abbrev r86_h1 : List X := (.ap .and [(.ap .le [(I 0), (.var 1)]), (.ap .le [(.var 1), (I 1073741824)])]) :: (.ap .and [(.ap .le [(I 0), (.var 0)]), (.ap .le [(.var 0), (.ap (.sub .i64) [(.var 5), (I 1)])])]) :: (.ap .not [(.ap (.usr 100) [(.var 4)])]) :: r86_h0
abbrev r86_h2 : List X := (.ap .not [(.ap .lt [(.var 8), (.ap .len [(.var 4)])])]) :: (.ap .le [(I 0), (.var 8)]) :: (.ap .le [(.var 8), (.ap .len [(.var 4)])]) :: (.ap .le [(I 0), (.var 6)]) :: (.ap .le [(.var 6), (.ap (.mul .i64) [(.var 8), (I 12)])]) :: (.ap (.usr 100) [(.var 4)]) :: r86_h0
abbrev r86_h3 : List X := (.ap .and [(.ap .le [(I 0), (.var 2)]), (.ap .le [(.var 2), (I 1073741824)])]) :: (.ap .and [(.ap .le [(I 0), (.var 1)]), (.ap .le [(.var 1), (I 1073741824)])]) :: (.ap .and [(.ap .le [(I 0), (.var 0)]), (.ap .le [(.var 0), (.ap (.sub .i64) [(.var 5), (I 1)])])]) :: r86_h2
def r86_v : List VC := []
def r86_o : List (List X × List (List X)) := [(((.ap .and [(.ap .le [(I 0), (.var 3)]), (.ap .le [(.var 3), (I 1073741824)])]) :: (.ap .and [(.ap .le [(I 0), (.var 2)]), (.ap .le [(.var 2), (I 1073741824)])]) :: r86_h1), [[(.lit (.bool false))]]),
 (((.ap .not [(.ap .and [(.ap .le [(I 0), (.var 3)]), (.ap .le [(.var 3), (I 1073741824)])])]) :: (.ap .and [(.ap .le [(I 0), (.var 2)]), (.ap .le [(.var 2), (I 1073741824)])]) :: r86_h1), [[(.lit (.bool false))]]),
 (((.ap .not [(.ap .and [(.ap .le [(I 0), (.var 2)]), (.ap .le [(.var 2), (I 1073741824)])])]) :: r86_h1), [[(.lit (.bool false))]]),
 (((.ap .not [(.ap .and [(.ap .le [(I 0), (.var 1)]), (.ap .le [(.var 1), (I 1073741824)])])]) :: (.ap .and [(.ap .le [(I 0), (.var 0)]), (.ap .le [(.var 0), (.ap (.sub .i64) [(.var 5), (I 1)])])]) :: (.ap .not [(.ap (.usr 100) [(.var 4)])]) :: r86_h0), [[(.lit (.bool false))]]),
 (((.ap .not [(.ap .and [(.ap .le [(I 0), (.var 0)]), (.ap .le [(.var 0), (.ap (.sub .i64) [(.var 5), (I 1)])])])]) :: (.ap .not [(.ap (.usr 100) [(.var 4)])]) :: r86_h0), [[(.lit (.bool false))]]),
 (((.ap .and [(.ap .le [(I 0), (.var 3)]), (.ap .le [(.var 3), (I 1073741824)])]) :: r86_h3), [[(.lit (.bool true))]]),
 (((.ap .not [(.ap .and [(.ap .le [(I 0), (.var 3)]), (.ap .le [(.var 3), (I 1073741824)])])]) :: r86_h3), [[(.lit (.bool false))]]),
 (((.ap .not [(.ap .and [(.ap .le [(I 0), (.var 2)]), (.ap .le [(.var 2), (I 1073741824)])])]) :: (.ap .and [(.ap .le [(I 0), (.var 1)]), (.ap .le [(.var 1), (I 1073741824)])]) :: (.ap .and [(.ap .le [(I 0), (.var 0)]), (.ap .le [(.var 0), (.ap (.sub .i64) [(.var 5), (I 1)])])]) :: r86_h2), [[(.lit (.bool false))]]),
 (((.ap .not [(.ap .and [(.ap .le [(I 0), (.var 1)]), (.ap .le [(.var 1), (I 1073741824)])])]) :: (.ap .and [(.ap .le [(I 0), (.var 0)]), (.ap .le [(.var 0), (.ap (.sub .i64) [(.var 5), (I 1)])])]) :: r86_h2), [[(.lit (.bool false))]]),
 (((.ap .not [(.ap .and [(.ap .le [(I 0), (.var 0)]), (.ap .le [(.var 0), (.ap (.sub .i64) [(.var 5), (I 1)])])])]) :: r86_h2), [[(.lit (.bool false))]])]
theorem r86_eq : runV Try.prog (cxOf Try.prog (specO (tab T3)) 10 8 ⟨lookI inlVote, noY, U.lc⟩ 2 86) noH Try.f86 (bodyOf Try.f86) Smay = some (r86_v, r86_o) := by kernel_rfl
set_option maxHeartbeats 4000000 in
set_option maxRecDepth 100000 in
theorem c86 : SpecOK U Try.prog 86 Smay := by
 refine SpecOK.ofV (P := Try.prog) (U := U) (T := (tab T3)) (l := inlVote) (y := noY) (dp := 2) (f := 86) (fn := Try.f86) (fuel := 10) (fk := 8) (hs := noH) (S := Smay) (v := r86_v) (outs := r86_o) mixed hT3 hInlVote at86 (rangesIn_nil (by kernel_rfl)) r86_eq ?_ ?_
 ·unfold r86_v
  repeat' (first | exact vcs_nil _ | refine vcs_cons (fun v hh => ?_) ?_)
  all_goals
   simp only [w_var, w_lit, w_ivi, w_bvb, w_sub, w_mul, b_lt, b_le, b_not, b_and, b_typ, w_len, w_usr, w_l0, w_l1, w_vint, w_vbool, w_tru, w_holds0, w_holds1, w_rows, w_nilb, us100, us112, mnX, mxX, l1_inj, vBool_inj, vb_lit, r86_h0, r86_h1, r86_h2, r86_h3] at hh ⊢
   repeat (obtain ⟨_, hh⟩ := hh)
   try (first | grind [okV, at', = w_vint])
 ·intro o ho σ hU hh
  obtain ⟨v⟩ := σ
  cases hU
  simp only [r86_o, List.mem_cons, List.not_mem_nil, or_false] at ho
  repeat' (first | (rcases ho with rfl | ho) | subst ho)
  all_goals
   refine ⟨_, List.mem_cons_self .., by simp only [w_var, w_lit, w_ivi, w_bvb, w_sub, w_mul, b_lt, b_le, b_not, b_and, b_typ, w_len, w_usr, w_l0, w_l1, w_vint, w_vbool, w_tru, w_holds0, w_holds1, w_rows, w_nilb], ?_⟩
   simp only [w_var, w_lit, w_ivi, w_bvb, w_sub, w_mul, b_lt, b_le, b_not, b_and, b_typ, w_len, w_usr, w_l0, w_l1, w_vint, w_vbool, w_tru, w_holds0, w_holds1, w_rows, w_nilb, us100, us112, mnX, mxX, l1_inj, vBool_inj, vb_lit, r86_h0, r86_h1, r86_h2, r86_h3] at hh
   simp only [List.map_cons, List.map_nil, w_var, w_lit, w_ivi, w_bvb, w_sub, w_mul, b_lt, b_le, b_not, b_and, b_typ, w_len, w_usr, w_l0, w_l1, w_vint, w_vbool, w_tru, w_holds0, w_holds1, w_rows, w_nilb, w_lt, w_le, w_not, w_and, w_typ, us100, us112, mnX, mxX, l1_inj, vBool_inj, vb_lit]
   repeat (obtain ⟨_, hh⟩ := hh)
   try (first | grind [okV, at', = w_vint])
noncomputable def Sqh : Fsp := ⟨[(false, [sI]), (false, [sI])], [.ap .le [zI, .var 0], .ap .le [.var 0, I 127]], [(false, [.bool])], [([], [[.ap (.usr 121) [.var 0, .var 1]]])], true⟩
abbrev r83_h0 : List X := [(.ap .le [mnX, (.var 0)]), (.ap .le [(.var 0), mxX]), (.ap .le [mnX, (.var 1)]), (.ap .le [(.var 1), mxX]), (.ap .le [(I 0), (.var 0)]), (.ap .le [(.var 0), (I 127)])]
def r83_v : List VC := []
def r83_o : List (List X × List (List X)) := [(((.ap .lt [(.var 1), (I 7)]) :: (.ap .le [(I 0), (.var 1)]) :: r83_h0), [[(.ap .eq [(.ap (.bin .and .i64) [(.ap (.shf .shr .i64) [(.var 0), (.var 1)]), (I 1)]), (I 1)])]]),
 (((.ap .not [(.ap .lt [(.var 1), (I 7)])]) :: (.ap .le [(I 0), (.var 1)]) :: r83_h0), [[(.lit (.bool false))]]),
 (((.ap .not [(.ap .le [(I 0), (.var 1)])]) :: r83_h0), [[(.lit (.bool false))]])]
theorem r83_eq : runS Try.prog (specO T0) 10 6 noH Try.f83 (bodyOf Try.f83) Sqh = some (r83_v, r83_o) := by kernel_rfl
set_option maxHeartbeats 4000000 in
set_option maxRecDepth 100000 in
theorem c83 : SpecOK U Try.prog 83 Sqh := by
 refine SpecOK.of (P := Try.prog) (U := U) (T := T0) (f := 83) (fn := Try.f83) (fuel := 10) (fk := 6) (hs := noH) (S := Sqh) (v := r83_v) (outs := r83_o) mixed hT0 at83 r83_eq ?_ ?_
 ·unfold r83_v
  repeat' (first | exact vcs_nil _ | refine vcs_cons (fun v hh => ?_) ?_)
  all_goals
   simp only [w_var, w_lit, w_ivi, w_bvb, b_lt, b_le, b_eq, b_not, b_and, w_usr, w_bin, w_l0, w_l1, w_vint, w_vbool, w_tru, w_holds0, w_holds1, w_rows, w_nilb, w_shf, us121, mnX, mxX, l1_inj, vBool_inj, vb_lit, r83_h0] at hh ⊢
   repeat (obtain ⟨_, hh⟩ := hh)
   try (first | grind [hasE, = w_vint])
 ·intro o ho σ hU hh
  obtain ⟨v⟩ := σ
  cases hU
  simp only [r83_o, List.mem_cons, List.not_mem_nil, or_false] at ho
  repeat' (first | (rcases ho with rfl | ho) | subst ho)
  all_goals
   refine ⟨_, List.mem_cons_self .., by simp only [w_var, w_lit, w_ivi, w_bvb, b_lt, b_le, b_eq, b_not, b_and, w_usr, w_bin, w_l0, w_l1, w_vint, w_vbool, w_tru, w_holds0, w_holds1, w_rows, w_nilb, w_shf], ?_⟩
   simp only [w_var, w_lit, w_ivi, w_bvb, b_lt, b_le, b_eq, b_not, b_and, w_usr, w_bin, w_l0, w_l1, w_vint, w_vbool, w_tru, w_holds0, w_holds1, w_rows, w_nilb, w_shf, us121, mnX, mxX, l1_inj, vBool_inj, vb_lit, r83_h0] at hh
   simp only [List.map_cons, List.map_nil, w_var, w_lit, w_ivi, w_bvb, b_lt, b_le, b_eq, b_not, b_and, w_usr, w_bin, w_l0, w_l1, w_vint, w_vbool, w_tru, w_holds0, w_holds1, w_rows, w_nilb, w_shf, w_lt, w_le, w_eq, w_not, w_and, us121, mnX, mxX, l1_inj, vBool_inj, vb_lit]
   repeat (obtain ⟨_, hh⟩ := hh)
   try (first | grind [hasE, = w_vint])
noncomputable def Sqw : Fsp := ⟨[(false, [sI]), (false, [sI])], [.ap .le [zI, .var 0], .ap .le [.var 0, I 127], .ap .le [zI, .var 1], .ap .le [.var 1, I 6]], [(false, [sI]), (false, [sI])], [([], [[.ap (.usr 122) [.var 0, .var 1]], [I 0]])], true⟩
def r84_v : List VC := []
def r84_o : List (List X × List (List X)) := [([(.ap .le [mnX, (.var 0)]), (.ap .le [(.var 0), mxX]), (.ap .le [mnX, (.var 1)]), (.ap .le [(.var 1), mxX]), (.ap .le [(I 0), (.var 0)]), (.ap .le [(.var 0), (I 127)]), (.ap .le [(I 0), (.var 1)]), (.ap .le [(.var 1), (I 6)])], [[(.ap (.bin .or .i64) [(.ap (.bin .and .i64) [(.var 0), (I 127)]), (.ap (.shf .shl .i64) [(I 1), (.var 1)])])], [(I 0)]])]
theorem r84_eq : runS Try.prog (specO T0) 10 6 noH Try.f84 (bodyOf Try.f84) Sqw = some (r84_v, r84_o) := by kernel_rfl
set_option maxHeartbeats 4000000 in
set_option maxRecDepth 100000 in
theorem c84 : SpecOK U Try.prog 84 Sqw := by
 refine SpecOK.of (P := Try.prog) (U := U) (T := T0) (f := 84) (fn := Try.f84) (fuel := 10) (fk := 6) (hs := noH) (S := Sqw) (v := r84_v) (outs := r84_o) mixed hT0 at84 r84_eq ?_ ?_
 ·unfold r84_v
  repeat' (first | exact vcs_nil _ | refine vcs_cons (fun v hh => ?_) ?_)
  all_goals
   simp only [w_var, w_lit, w_ivi, w_bvb, b_le, b_and, b_or, w_usr, w_bin, w_l0, w_l1, w_vint, w_vbool, w_tru, w_holds0, w_holds1, w_rows, w_nilb, w_shf, us122, mnX, mxX, l1_inj, vBool_inj, vb_lit] at hh ⊢
   repeat (obtain ⟨_, hh⟩ := hh)
   try (first | grind [withE, = w_vint])
 ·intro o ho σ hU hh
  obtain ⟨v⟩ := σ
  cases hU
  simp only [r84_o, List.mem_cons, List.not_mem_nil, or_false] at ho
  repeat' (first | (rcases ho with rfl | ho) | subst ho)
  all_goals
   refine ⟨_, List.mem_cons_self .., by simp only [w_var, w_lit, w_ivi, w_bvb, b_le, b_and, b_or, w_usr, w_bin, w_l0, w_l1, w_vint, w_vbool, w_tru, w_holds0, w_holds1, w_rows, w_nilb, w_shf], ?_⟩
   simp only [w_var, w_lit, w_ivi, w_bvb, b_le, b_and, b_or, w_usr, w_bin, w_l0, w_l1, w_vint, w_vbool, w_tru, w_holds0, w_holds1, w_rows, w_nilb, w_shf, us122, mnX, mxX, l1_inj, vBool_inj, vb_lit] at hh
   simp only [List.map_cons, List.map_nil, w_var, w_lit, w_ivi, w_bvb, b_le, b_and, b_or, w_usr, w_bin, w_l0, w_l1, w_vint, w_vbool, w_tru, w_holds0, w_holds1, w_rows, w_nilb, w_shf, w_le, w_and, w_or, us122, mnX, mxX, l1_inj, vBool_inj, vb_lit]
   repeat (obtain ⟨_, hh⟩ := hh)
   try (first | grind [withE, = w_vint])
end Go.Proofs.Ytlbbkmcegbeckaa.Cn
