/-
  Contracts of a chapter's functions: what is compared, copied; which votes may be. Conditions: none.
  What the functions of a chapter (votes) make: laws of it, in plain Lean. Conditions: none.
  Rising numbers, each once; one more. Plain Lean. Conditions: none.
  Contracts of a chapter's functions: who leads, what the leaders know. Conditions: none.
  Contracts of a chapter's functions: the end of a log; the log that is chosen, by the document. Conditions: none.
  Contracts of a chapter's functions: the ops of votes, rising. Conditions: none.
  Contracts of a chapter's functions: the log that is chosen, by the document. Conditions: none.
-/
import Derived.Test.YtlbbkmcegbeckaaSnD
import Derived.Test.YtlbbkmcegbeckaaSnA
set_option linter.unusedSectionVars false
set_option linter.unusedVariables false
set_option linter.unusedSimpArgs false
namespace Go.Proofs.Ytlbbkmcegbeckaa.Cn
open Go.Sx Go.Proofs
noncomputable def lp1 (a : Nat) (ks : List Nat) (f : X → X) : Lp := ⟨[(.slot a, .int .i64)], ks, [0], fun F H k => [.ap .le [zI, .var k], .ap .le [.var k, .ap .len [.var 0]], f (.var k)], fun F H k => .ap (.sub .i64) [.ap .len [.var 0], .var k]⟩
noncomputable def S30 : Fsp := ⟨[(false, [sVotes])], [], [(false, [.bool])], [([], [[.ap (.usr 127) [.var 0]]])], true⟩
theorem large_row {l : CD} {i : Int} (h0 : 0 ≤ i) (hi : i < l.len) (h : 80 < (at' (row l i.toNat) 4).len) : large l = true := any_row (f := fun v => decide (80 < (at' v 4).len)) h0 hi (decide_eq_true h)
theorem large_all {ss : List Srt} {l : CD} {i : Int} (hT : Typ (.sl ss) l) (hi : ¬ i < l.len) : ((l.rows.take i.toNat).any fun v => decide (80 < (at' v 4).len)) = large l := by
 rw [take_allT hT hi]
 rfl
abbrev r30_h0 : List X := [(.ap .le [(I 0), (.var 1)]), (.ap .le [(.var 1), (.ap .len [(.var 0)])]), (.ap .not [(.ap (.usr 128) [(.var 0), (.var 1)])]), (.ap (.typ sVotes) [(.var 0)])]
def r30_v : List VC := [([(.ap (.typ sVotes) [(.var 0)])], (.ap .not [(.ap (.usr 128) [(.var 0), (I 0)])])),
 (((.ap .not [(.ap .lt [(I 80), (.ap .len [(.ap (.cell 4) [(.var 0), (.var 1)])])])]) :: (.ap .lt [(.var 1), (.ap .len [(.var 0)])]) :: r30_h0), (.ap .not [(.ap (.usr 128) [(.var 0), (.ap (.add .i64) [(.var 1), (I 1)])])]))]
def r30_o : List (List X × List (List X)) := [(((.ap .lt [(I 80), (.ap .len [(.ap (.cell 4) [(.var 0), (.var 1)])])]) :: (.ap .lt [(.var 1), (.ap .len [(.var 0)])]) :: r30_h0), [[(.lit (.bool true))]]),
 (((.ap .not [(.ap .lt [(.var 1), (.ap .len [(.var 0)])])]) :: r30_h0), [[(.ap .lt [(I 10), (.ap .len [(.var 0)])])]])]
theorem r30_eq : runS Try.prog (specO T0) 10 6 ⟨hintL [(2, lp1 3 [0] fun i => .ap .not [.ap (.usr 128) [.var 0, i]])], hintA []⟩ Try.f30 (bodyOf Try.f30) S30 = some (r30_v, r30_o) := by kernel_rfl
set_option maxHeartbeats 4000000 in
set_option maxRecDepth 100000 in
theorem c30 : SpecOK U Try.prog 30 S30 := by
 refine SpecOK.of (P := Try.prog) (U := U) (T := T0) (f := 30) (fn := Try.f30) (fuel := 10) (fk := 6) (hs := ⟨hintL [(2, lp1 3 [0] fun i => .ap .not [.ap (.usr 128) [.var 0, i]])], hintA []⟩) (S := S30) (v := r30_v) (outs := r30_o) mixed hT0 at30 r30_eq ?_ ?_
 ·unfold r30_v
  repeat' (first | exact vcs_nil _ | refine vcs_cons (fun v hh => ?_) ?_)
  all_goals
   simp only [w_var, w_lit, w_ivi, w_bvb, w_add, b_lt, b_le, b_not, b_typ, w_len, w_cell, w_usr, w_l0, w_l1, w_vint, w_vbool, w_tru, w_holds0, w_holds1, w_rows, w_nilb, us127, us128, mnX, mxX, cell_at, l1_inj, vBool_inj, vb_lit, r30_h0] at hh ⊢
   repeat (obtain ⟨_, hh⟩ := hh)
   try (first | grind [any_succ, large_row, large_all, = w_vint])
 ·intro o ho σ hU hh
  obtain ⟨v⟩ := σ
  cases hU
  simp only [r30_o, List.mem_cons, List.not_mem_nil, or_false] at ho
  repeat' (first | (rcases ho with rfl | ho) | subst ho)
  all_goals
   refine ⟨_, List.mem_cons_self .., by simp only [w_var, w_lit, w_ivi, w_bvb, w_add, b_lt, b_le, b_not, b_typ, w_len, w_cell, w_usr, w_l0, w_l1, w_vint, w_vbool, w_tru, w_holds0, w_holds1, w_rows, w_nilb], ?_⟩
   simp only [w_var, w_lit, w_ivi, w_bvb, w_add, b_lt, b_le, b_not, b_typ, w_len, w_cell, w_usr, w_l0, w_l1, w_vint, w_vbool, w_tru, w_holds0, w_holds1, w_rows, w_nilb, us127, us128, mnX, mxX, cell_at, l1_inj, vBool_inj, vb_lit, r30_h0] at hh
   simp only [List.map_cons, List.map_nil, w_var, w_lit, w_ivi, w_bvb, w_add, b_lt, b_le, b_not, b_typ, w_len, w_cell, w_usr, w_l0, w_l1, w_vint, w_vbool, w_tru, w_holds0, w_holds1, w_rows, w_nilb, w_lt, w_le, w_not, w_typ, us127, us128, mnX, mxX, cell_at, l1_inj, vBool_inj, vb_lit]
   repeat (obtain ⟨_, hh⟩ := hh)
   try (first | grind [any_succ, large_row, large_all, = w_vint])
noncomputable def S36 : Fsp := ⟨[(true, sLog), (true, sLog)], [], [(false, [.bool])], [([], [[.ap (.usr 131) [.var 0, .var 1, .var 2, .var 3, .var 4, .var 5]]])], true⟩
noncomputable def lp36 : Lp := ⟨[(.slot 5, .int .i64)], [2, 3], [], fun F H k => [.ap .le [zI, .var k], .ap .le [.var k, .ap .len [.var 2]], .ap (.usr 132) [.var 2, .var 5, .var k]], fun F H k => .ap (.sub .i64) [.ap .len [.var 2], .var k]⟩
abbrev r36_h0 : List X := [(.ap .le [mnX, (.var 0)]), (.ap .le [(.var 0), mxX]), (.ap .le [mnX, (.var 1)]), (.ap .le [(.var 1), mxX]), (.ap (.typ (.sl sHead)) [(.var 2)]), (.ap .le [mnX, (.var 3)]), (.ap .le [(.var 3), mxX]), (.ap .le [mnX, (.var 4)]), (.ap .le [(.var 4), mxX]), (.ap (.typ (.sl sHead)) [(.var 5)])]
abbrev r36_h1 : List X := (.ap .eq [(.ap .len [(.var 2)]), (.ap .len [(.var 5)])]) :: (.ap .eq [(.var 1), (.var 4)]) :: (.ap .eq [(.var 0), (.var 3)]) :: r36_h0
abbrev r36_h2 : List X := (.ap .le [(I 0), (.var 6)]) :: (.ap .le [(.var 6), (.ap .len [(.var 2)])]) :: (.ap (.usr 132) [(.var 2), (.var 5), (.var 6)]) :: r36_h1
def r36_v : List VC := [(r36_h1, (.ap (.usr 132) [(.var 2), (.var 5), (I 0)])),
 (((.ap .and [(.ap .eq [(.ap (.cell 0) [(.var 2), (.var 6)]), (.ap (.cell 0) [(.var 5), (.var 6)])]), (.ap .and [(.ap .eq [(.ap (.cell 1) [(.var 2), (.var 6)]), (.ap (.cell 1) [(.var 5), (.var 6)])]), (.lit (.bool true))])]) :: (.ap .lt [(.var 6), (.ap .len [(.var 2)])]) :: r36_h2), (.ap (.usr 132) [(.var 2), (.var 5), (.ap (.add .i64) [(.var 6), (I 1)])]))]
def r36_o : List (List X × List (List X)) := [(((.ap .not [(.ap .eq [(.var 0), (.var 3)])]) :: r36_h0), [[(.lit (.bool false))]]),
 (((.ap .not [(.ap .eq [(.var 1), (.var 4)])]) :: (.ap .eq [(.var 0), (.var 3)]) :: r36_h0), [[(.lit (.bool false))]]),
 (((.ap .not [(.ap .eq [(.ap .len [(.var 2)]), (.ap .len [(.var 5)])])]) :: (.ap .eq [(.var 1), (.var 4)]) :: (.ap .eq [(.var 0), (.var 3)]) :: r36_h0), [[(.lit (.bool false))]]),
 (((.ap .not [(.ap .and [(.ap .eq [(.ap (.cell 0) [(.var 2), (.var 6)]), (.ap (.cell 0) [(.var 5), (.var 6)])]), (.ap .and [(.ap .eq [(.ap (.cell 1) [(.var 2), (.var 6)]), (.ap (.cell 1) [(.var 5), (.var 6)])]), (.lit (.bool true))])])]) :: (.ap .lt [(.var 6), (.ap .len [(.var 2)])]) :: r36_h2), [[(.lit (.bool false))]]),
 (((.ap .not [(.ap .lt [(.var 6), (.ap .len [(.var 2)])])]) :: r36_h2), [[(.lit (.bool true))]])]
theorem r36_eq : runS Try.prog (specO T0) 10 6 ⟨hintL [(4, lp36)], hintA []⟩ Try.f36 (bodyOf Try.f36) S36 = some (r36_v, r36_o) := by kernel_rfl
set_option maxHeartbeats 4000000 in
set_option maxRecDepth 100000 in
theorem c36 : SpecOK U Try.prog 36 S36 := by
 refine SpecOK.of (P := Try.prog) (U := U) (T := T0) (f := 36) (fn := Try.f36) (fuel := 10) (fk := 6) (hs := ⟨hintL [(4, lp36)], hintA []⟩) (S := S36) (v := r36_v) (outs := r36_o) mixed hT0 at36 r36_eq ?_ ?_
 ·unfold r36_v
  repeat' (first | exact vcs_nil _ | refine vcs_cons (fun v hh => ?_) ?_)
  all_goals
   simp only [w_var, w_lit, w_ivi, w_bvb, w_add, b_lt, b_le, b_eq, b_not, b_and, b_typ, w_len, w_cell, w_usr, w_l0, w_l1, w_vint, w_vbool, w_tru, w_holds0, w_holds1, w_rows, w_nilb, us131, us132, mnX, mxX, cell_at, l1_inj, vBool_inj, vb_lit, eq_len, r36_h0, r36_h1, r36_h2] at hh ⊢
   repeat (obtain ⟨_, hh⟩ := hh)
   try (first | grind [stepS, lenS, rowS, eqH, take_allT, allS, = w_vint])
 ·intro o ho σ hU hh
  obtain ⟨v⟩ := σ
  cases hU
  simp only [r36_o, List.mem_cons, List.not_mem_nil, or_false] at ho
  repeat' (first | (rcases ho with rfl | ho) | subst ho)
  all_goals
   refine ⟨_, List.mem_cons_self .., by simp only [w_var, w_lit, w_ivi, w_bvb, w_add, b_lt, b_le, b_eq, b_not, b_and, b_typ, w_len, w_cell, w_usr, w_l0, w_l1, w_vint, w_vbool, w_tru, w_holds0, w_holds1, w_rows, w_nilb], ?_⟩
   simp only [w_var, w_lit, w_ivi, w_bvb, w_add, b_lt, b_le, b_eq, b_not, b_and, b_typ, w_len, w_cell, w_usr, w_l0, w_l1, w_vint, w_vbool, w_tru, w_holds0, w_holds1, w_rows, w_nilb, us131, us132, mnX, mxX, cell_at, l1_inj, vBool_inj, vb_lit, eq_len, r36_h0, r36_h1, r36_h2] at hh
   simp only [List.map_cons, List.map_nil, w_var, w_lit, w_ivi, w_bvb, w_add, b_lt, b_le, b_eq, b_not, b_and, b_typ, w_len, w_cell, w_usr, w_l0, w_l1, w_vint, w_vbool, w_tru, w_holds0, w_holds1, w_rows, w_nilb, w_lt, w_le, w_eq, w_not, w_and, w_typ, us131, us132, mnX, mxX, cell_at, l1_inj, vBool_inj, vb_lit, eq_len]
   repeat (obtain ⟨_, hh⟩ := hh)
   try (first | grind [stepS, lenS, rowS, eqH, take_allT, allS, = w_vint])
noncomputable def T4 : List (FuncId × Fsp) := [(81, Sck), (85, Sck), (82, Smay), (86, Smay), (83, Sqh), (84, Sqw)]
set_option maxRecDepth 100000 in
theorem hT4 : TabOK U Try.prog T4 := .cons c81 (.cons c85 (.cons c82 (.cons c86 (.cons c83 (.cons c84 .nil)))))
noncomputable def SCheck : Fsp := ⟨[(false, [sVotes]), (false, [sI])], [.ap .le [.ap .len [.var 0], I 10], .ap .not [.ap (.usr 119) [.var 0]]], [(false, [sI])], [([], [[.ap (.usr 123) [.var 0, .var 1]]])], true⟩
noncomputable def lp34 : Lp := ⟨[(.slot 5, .int .i64), (.slot 13, .int .i64)], [0, 1, 11, 12], [0], fun F H k => [.ap .le [zI, .var (k+1)], .ap .le [.var (k+1), .ap .len [.var 0]], .ap (.usr 124) [.var 0, .var 1, .var (k+1)], .ap .le [zI, .var k], .ap .le [.var k, I 127], .ap (.usr 125) [.var 0, .var k, .var (k+1)]], fun F H k => .ap (.sub .i64) [.ap .len [.var 0], .var (k+1)]⟩
noncomputable def as34 (i : Nat) : Fm → HP → List X := fun F H => [.ap .le [I 3, .var 1], .ap .le [.var 1, I 7], .ap .le [.ap .len [.ap (.cell 4) [.var 0, sx F i]], I 80]]
noncomputable def as34b : Fm → HP → List X := fun F H => [.ap .le [zI, .ap (.cell 0) [.var 0, sx F 13]], .ap .le [.ap (.cell 0) [.var 0, sx F 13], I 6]]
theorem okN_le {n : CD} (h : okN n = true) : 3 ≤ n.iv ∧ n.iv ≤ 7 := by rcases okN_iv h with ⟨h1, _⟩ | ⟨h1, _⟩ | ⟨h1, _⟩ <;> omega
theorem okV_rep {r : List CD} {n : Int} (h : okV r n = true) (hn : n ≤ 7) : 0 ≤ (at' r 0).iv ∧ (at' r 0).iv ≤ 6 := by
 unfold okV at h
 simp only [Bool.and_eq_true, decide_eq_true_eq] at h
 have h1 := h.1.1.1.1.1.1.1.1
 have h2 := h.1.1.1.1.1.1.1.2
 omega
theorem okV_five (r : List CD) (n : Int) : okV [at' r 0, at' r 1, at' r 2, at' r 3, at' r 4] n = okV r n := rfl
theorem repIn_succ {l : CD} {i : Int} {d : CD} (h0 : 0 ≤ i) (h : i < l.len) : repIn (l.rows.take (i + 1).toNat) d = (repIn (l.rows.take i.toNat) d || eqC (at' (row l i.toNat) 0) d) := any_succ h0 h
theorem okVs_all {l n : CD} {i : Int} (hT : Typ sVotes l) (hi : ¬ i < l.len) (hn : okN n = true) (h : (List.range i.toNat).all (okVt l n.iv) = true) (hle : i ≤ l.len) : okVs l n = true := by
 have := hT.sl.1
 unfold okVs
 rw [hn, show l.rows.length = i.toNat by omega, h]
 rfl
theorem okVs_row {l n : CD} {i : Int} (hT : Typ sVotes l) (h0 : 0 ≤ i) (hi : i < l.len) (h : okVt l n.iv i.toNat = false) : okVs l n = false := by
 have := hT.sl.1
 unfold okVs
 rw [Bool.and_eq_false_iff]
 right
 rw [Bool.eq_false_iff, Ne, List.all_eq_true]
 intro hh
 have := hh i.toNat (List.mem_range.2 (by omega))
 rw [h] at this
 cases this
theorem okVs_n {l n : CD} (h : ¬ okN n = true) : okVs l n = false := by unfold okVs; rw [Bool.eq_false_iff.2 h]; rfl
theorem rep_int {l : CD} {i : Int} (hT : Typ sVotes l) (h0 : 0 ≤ i) (hi : i < l.len) : at' (row l i.toNat) 0 = i0 (at' (row l i.toNat) 0).iv := by
 obtain ⟨n, hn⟩ := typ_int (hT.cell (j := 0) h0 hi rfl)
 rw [cell_at] at hn
 rw [hn]
 rfl
theorem set_at {l : CD} {i s : Int} (hs : setOK (l.rows.take i.toNat) s = true) (hT : Typ sVotes l) (h0 : 0 ≤ i) (hi : i < l.len) (r0 : 0 ≤ (at' (row l i.toNat) 0).iv) (r6 : (at' (row l i.toNat) 0).iv < 7) : hasE s (at' (row l i.toNat) 0).iv = repIn (l.rows.take i.toNat) (at' (row l i.toNat) 0) := by
 unfold setOK at hs
 rw [List.all_eq_true] at hs
 have := hs (at' (row l i.toNat) 0).iv.toNat (List.mem_range.2 (by omega))
 rw [Int.toNat_of_nonneg r0, ← rep_int hT h0 hi] at this
 exact eq_of_beq this
theorem okVs_dup {l n : CD} {i s : Int} (hs : setOK (l.rows.take i.toNat) s = true) (hT : Typ sVotes l) (h0 : 0 ≤ i) (hi : i < l.len) (r0 : 0 ≤ (at' (row l i.toNat) 0).iv) (r6 : (at' (row l i.toNat) 0).iv < 7) (h : hasE s (at' (row l i.toNat) 0).iv = true) : okVs l n = false := by
 refine okVs_row hT h0 hi ?_
 rw [set_at hs hT h0 hi r0 r6] at h
 unfold okVt
 rw [h]
 simp
theorem bitsOK : ((List.range 128).all fun s : Nat => (List.range 7).all fun r : Nat => decide (0 ≤ (withE s r).iv) && decide ((withE s r).iv ≤ 127) && (List.range 7).all fun q : Nat => hasE (withE s r).iv q == (hasE s q || decide (q = r))) = true := by kernel_rfl
theorem hasE0 : ((List.range 7).all fun q : Nat => !hasE 0 q) = true := by kernel_rfl
theorem set_0 {l : CD} : setOK (l.rows.take (0 : Int).toNat) 0 = true := by
 unfold setOK
 rw [List.all_eq_true]
 intro q hq
 have := List.all_eq_true.1 hasE0 q hq
 simp only [Bool.not_eq_true'] at this
 rw [this]
 rfl
theorem set_next {l : CD} {i s : Int} (hs : setOK (l.rows.take i.toNat) s = true) (hT : Typ sVotes l) (h0 : 0 ≤ i) (hi : i < l.len) (s0 : 0 ≤ s) (s1 : s ≤ 127) (r0 : 0 ≤ (at' (row l i.toNat) 0).iv) (r6 : (at' (row l i.toNat) 0).iv ≤ 6) :
  0 ≤ (withE s (at' (row l i.toNat) 0).iv).iv ∧ (withE s (at' (row l i.toNat) 0).iv).iv ≤ 127 ∧ setOK (l.rows.take (i + 1).toNat) (withE s (at' (row l i.toNat) 0).iv).iv = true := by
 have hb := List.all_eq_true.1 bitsOK s.toNat (List.mem_range.2 (by omega))
 have hb := List.all_eq_true.1 hb (at' (row l i.toNat) 0).iv.toNat (List.mem_range.2 (by omega))
 simp only [Bool.and_eq_true, decide_eq_true_eq] at hb
 rw [Int.toNat_of_nonneg s0, Int.toNat_of_nonneg r0] at hb
 refine ⟨hb.1.1, hb.1.2, ?_⟩
 unfold setOK at hs ⊢
 rw [List.all_eq_true] at hs ⊢
 intro q hq
 have h1 := eq_of_beq (List.all_eq_true.1 hb.2 q hq)
 have h2 := eq_of_beq (hs q hq)
 rw [h1, repIn_succ h0 hi, ← h2]
 have h3 : eqC (at' (row l i.toNat) 0) (i0 q) = decide (q = (at' (row l i.toNat) 0).iv.toNat) := by
  rw [rep_int hT h0 hi]
  show decide ((at' (row l i.toNat) 0).iv = (q : Int)) = _
  rw [decide_eq_decide]
  show _ ↔ q = (at' (row l i.toNat) 0).iv.toNat
  omega
 rw [h3]
 exact beq_self_eq_true _
abbrev r34_h0 : List X := [(.ap .le [mnX, (.ap (.usr 111) [(.var 1)])]), (.ap .le [(.ap (.usr 111) [(.var 1)]), mxX]), (.ap (.typ sVotes) [(.var 0)]), (.ap .le [mnX, (.var 1)]), (.ap .le [(.var 1), mxX]), (.ap .le [(.ap .len [(.var 0)]), (I 10)]), (.ap .not [(.ap (.usr 119) [(.var 0)])])]
abbrev r34_h1 : List X := (.ap .le [(I 0), (.var 3)]) :: (.ap .le [(.var 3), (.ap .len [(.var 0)])]) :: (.ap (.usr 124) [(.var 0), (.var 1), (.var 3)]) :: (.ap .le [(I 0), (.var 2)]) :: (.ap .le [(.var 2), (I 127)]) :: (.ap (.usr 125) [(.var 0), (.var 2), (.var 3)]) :: (.ap .eq [(.ap (.usr 111) [(.var 1)]), (I 0)]) :: r34_h0
abbrev r34_h2 : List X := (.ap .le [(I 3), (.var 1)]) :: (.ap .le [(.var 1), (I 7)]) :: (.ap .le [(.ap .len [(.ap (.cell 4) [(.var 0), (.var 3)])]), (I 80)]) :: (.ap .lt [(.var 3), (.ap .len [(.var 0)])]) :: r34_h1
def r34_v : List VC := [(((.ap .eq [(.ap (.usr 111) [(.var 1)]), (I 0)]) :: r34_h0), (.ap (.usr 124) [(.var 0), (.var 1), (I 0)])),
 (((.ap .eq [(.ap (.usr 111) [(.var 1)]), (I 0)]) :: r34_h0), (.ap (.usr 125) [(.var 0), (I 0), (I 0)])),
 (((.ap .lt [(.var 3), (.ap .len [(.var 0)])]) :: r34_h1), (.ap .le [(I 3), (.var 1)])),
 (((.ap .lt [(.var 3), (.ap .len [(.var 0)])]) :: r34_h1), (.ap .le [(.var 1), (I 7)])),
 (((.ap .lt [(.var 3), (.ap .len [(.var 0)])]) :: r34_h1), (.ap .le [(.ap .len [(.ap (.cell 4) [(.var 0), (.var 3)])]), (I 80)])),
 (((.ap .not [(.ap (.usr 121) [(.var 2), (.ap (.cell 0) [(.var 0), (.var 3)])])]) :: (.ap (.usr 112) [(.ap (.cell 0) [(.var 0), (.var 3)]), (.ap (.cell 1) [(.var 0), (.var 3)]), (.ap (.cell 2) [(.var 0), (.var 3)]), (.ap (.cell 3) [(.var 0), (.var 3)]), (.ap (.cell 4) [(.var 0), (.var 3)]), (.var 1)]) :: r34_h2), (.ap .le [(I 0), (.ap (.cell 0) [(.var 0), (.var 3)])])),
 (((.ap .not [(.ap (.usr 121) [(.var 2), (.ap (.cell 0) [(.var 0), (.var 3)])])]) :: (.ap (.usr 112) [(.ap (.cell 0) [(.var 0), (.var 3)]), (.ap (.cell 1) [(.var 0), (.var 3)]), (.ap (.cell 2) [(.var 0), (.var 3)]), (.ap (.cell 3) [(.var 0), (.var 3)]), (.ap (.cell 4) [(.var 0), (.var 3)]), (.var 1)]) :: r34_h2), (.ap .le [(.ap (.cell 0) [(.var 0), (.var 3)]), (I 6)])),
 (((.ap .le [mnX, (.ap (.usr 122) [(.var 2), (.ap (.cell 0) [(.var 0), (.var 3)])])]) :: (.ap .le [(.ap (.usr 122) [(.var 2), (.ap (.cell 0) [(.var 0), (.var 3)])]), mxX]) :: (.ap .le [(I 0), (.ap (.cell 0) [(.var 0), (.var 3)])]) :: (.ap .le [(.ap (.cell 0) [(.var 0), (.var 3)]), (I 6)]) :: (.ap .not [(.ap (.usr 121) [(.var 2), (.ap (.cell 0) [(.var 0), (.var 3)])])]) :: (.ap (.usr 112) [(.ap (.cell 0) [(.var 0), (.var 3)]), (.ap (.cell 1) [(.var 0), (.var 3)]), (.ap (.cell 2) [(.var 0), (.var 3)]), (.ap (.cell 3) [(.var 0), (.var 3)]), (.ap (.cell 4) [(.var 0), (.var 3)]), (.var 1)]) :: r34_h2), (.ap (.usr 124) [(.var 0), (.var 1), (.ap (.add .i64) [(.var 3), (I 1)])])),
 (((.ap .le [mnX, (.ap (.usr 122) [(.var 2), (.ap (.cell 0) [(.var 0), (.var 3)])])]) :: (.ap .le [(.ap (.usr 122) [(.var 2), (.ap (.cell 0) [(.var 0), (.var 3)])]), mxX]) :: (.ap .le [(I 0), (.ap (.cell 0) [(.var 0), (.var 3)])]) :: (.ap .le [(.ap (.cell 0) [(.var 0), (.var 3)]), (I 6)]) :: (.ap .not [(.ap (.usr 121) [(.var 2), (.ap (.cell 0) [(.var 0), (.var 3)])])]) :: (.ap (.usr 112) [(.ap (.cell 0) [(.var 0), (.var 3)]), (.ap (.cell 1) [(.var 0), (.var 3)]), (.ap (.cell 2) [(.var 0), (.var 3)]), (.ap (.cell 3) [(.var 0), (.var 3)]), (.ap (.cell 4) [(.var 0), (.var 3)]), (.var 1)]) :: r34_h2), (.ap .le [(I 0), (.ap (.usr 122) [(.var 2), (.ap (.cell 0) [(.var 0), (.var 3)])])])),
 (((.ap .le [mnX, (.ap (.usr 122) [(.var 2), (.ap (.cell 0) [(.var 0), (.var 3)])])]) :: (.ap .le [(.ap (.usr 122) [(.var 2), (.ap (.cell 0) [(.var 0), (.var 3)])]), mxX]) :: (.ap .le [(I 0), (.ap (.cell 0) [(.var 0), (.var 3)])]) :: (.ap .le [(.ap (.cell 0) [(.var 0), (.var 3)]), (I 6)]) :: (.ap .not [(.ap (.usr 121) [(.var 2), (.ap (.cell 0) [(.var 0), (.var 3)])])]) :: (.ap (.usr 112) [(.ap (.cell 0) [(.var 0), (.var 3)]), (.ap (.cell 1) [(.var 0), (.var 3)]), (.ap (.cell 2) [(.var 0), (.var 3)]), (.ap (.cell 3) [(.var 0), (.var 3)]), (.ap (.cell 4) [(.var 0), (.var 3)]), (.var 1)]) :: r34_h2), (.ap .le [(.ap (.usr 122) [(.var 2), (.ap (.cell 0) [(.var 0), (.var 3)])]), (I 127)])),
 (((.ap .le [mnX, (.ap (.usr 122) [(.var 2), (.ap (.cell 0) [(.var 0), (.var 3)])])]) :: (.ap .le [(.ap (.usr 122) [(.var 2), (.ap (.cell 0) [(.var 0), (.var 3)])]), mxX]) :: (.ap .le [(I 0), (.ap (.cell 0) [(.var 0), (.var 3)])]) :: (.ap .le [(.ap (.cell 0) [(.var 0), (.var 3)]), (I 6)]) :: (.ap .not [(.ap (.usr 121) [(.var 2), (.ap (.cell 0) [(.var 0), (.var 3)])])]) :: (.ap (.usr 112) [(.ap (.cell 0) [(.var 0), (.var 3)]), (.ap (.cell 1) [(.var 0), (.var 3)]), (.ap (.cell 2) [(.var 0), (.var 3)]), (.ap (.cell 3) [(.var 0), (.var 3)]), (.ap (.cell 4) [(.var 0), (.var 3)]), (.var 1)]) :: r34_h2), (.ap (.usr 125) [(.var 0), (.ap (.usr 122) [(.var 2), (.ap (.cell 0) [(.var 0), (.var 3)])]), (.ap (.add .i64) [(.var 3), (I 1)])]))]
def r34_o : List (List X × List (List X)) := [(((.ap .not [(.ap .eq [(.ap (.usr 111) [(.var 1)]), (I 0)])]) :: r34_h0), [[(I 2)]]),
 (((.ap .not [(.ap (.usr 112) [(.ap (.cell 0) [(.var 0), (.var 3)]), (.ap (.cell 1) [(.var 0), (.var 3)]), (.ap (.cell 2) [(.var 0), (.var 3)]), (.ap (.cell 3) [(.var 0), (.var 3)]), (.ap (.cell 4) [(.var 0), (.var 3)]), (.var 1)])]) :: r34_h2), [[(I 2)]]),
 (((.ap (.usr 121) [(.var 2), (.ap (.cell 0) [(.var 0), (.var 3)])]) :: (.ap (.usr 112) [(.ap (.cell 0) [(.var 0), (.var 3)]), (.ap (.cell 1) [(.var 0), (.var 3)]), (.ap (.cell 2) [(.var 0), (.var 3)]), (.ap (.cell 3) [(.var 0), (.var 3)]), (.ap (.cell 4) [(.var 0), (.var 3)]), (.var 1)]) :: r34_h2), [[(I 2)]]),
 (((.ap .not [(.ap .lt [(.var 3), (.ap .len [(.var 0)])])]) :: r34_h1), [[(I 0)]])]
theorem r34_eq : runS Try.prog (specO (tab T4)) 10 8 ⟨hintL [(5, lp34)], hintA [(7, as34 13), (9, as34b)]⟩ Try.f34 (bodyOf Try.f34) SCheck = some (r34_v, r34_o) := by kernel_rfl
set_option maxHeartbeats 4000000 in
set_option maxRecDepth 100000 in
theorem c34 : SpecOK U Try.prog 34 SCheck := by
 refine SpecOK.of (P := Try.prog) (U := U) (T := (tab T4)) (f := 34) (fn := Try.f34) (fuel := 10) (fk := 8) (hs := ⟨hintL [(5, lp34)], hintA [(7, as34 13), (9, as34b)]⟩) (S := SCheck) (v := r34_v) (outs := r34_o) mixed hT4 at34 r34_eq ?_ ?_
 ·unfold r34_v
  repeat' (first | exact vcs_nil _ | refine vcs_cons (fun v hh => ?_) ?_)
  all_goals
   simp only [w_var, w_lit, w_ivi, w_bvb, w_add, b_lt, b_le, b_eq, b_not, b_typ, w_len, w_cell, w_usr, w_l0, w_l1, w_vint, w_vbool, w_tru, w_holds0, w_holds1, w_rows, w_nilb, us111, us112, us119, us121, us122, us123, us124, us125, mnX, mxX, cell_at, l1_inj, vInt_inj, eqC_ck, okV_five, r34_h0, r34_h1, r34_h2] at hh ⊢
   repeat (obtain ⟨_, hh⟩ := hh)
   try (first | grind [→ okN_le, → okV_rep, small_row, range_all_succ, okVt, → set_at, okVs_dup, set_0, → set_next, okVs_all, okVs_row, okVs_n, vi_lit, = w_vint])
 ·intro o ho σ hU hh
  obtain ⟨v⟩ := σ
  cases hU
  simp only [r34_o, List.mem_cons, List.not_mem_nil, or_false] at ho
  repeat' (first | (rcases ho with rfl | ho) | subst ho)
  all_goals
   refine ⟨_, List.mem_cons_self .., by simp only [w_var, w_lit, w_ivi, w_bvb, w_add, b_lt, b_le, b_eq, b_not, b_typ, w_len, w_cell, w_usr, w_l0, w_l1, w_vint, w_vbool, w_tru, w_holds0, w_holds1, w_rows, w_nilb], ?_⟩
   simp only [w_var, w_lit, w_ivi, w_bvb, w_add, b_lt, b_le, b_eq, b_not, b_typ, w_len, w_cell, w_usr, w_l0, w_l1, w_vint, w_vbool, w_tru, w_holds0, w_holds1, w_rows, w_nilb, us111, us112, us119, us121, us122, us123, us124, us125, mnX, mxX, cell_at, l1_inj, vInt_inj, eqC_ck, okV_five, r34_h0, r34_h1, r34_h2] at hh
   simp only [List.map_cons, List.map_nil, w_var, w_lit, w_ivi, w_bvb, w_add, b_lt, b_le, b_eq, b_not, b_typ, w_len, w_cell, w_usr, w_l0, w_l1, w_vint, w_vbool, w_tru, w_holds0, w_holds1, w_rows, w_nilb, w_lt, w_le, w_eq, w_not, w_typ, us111, us112, us119, us121, us122, us123, us124, us125, mnX, mxX, cell_at, l1_inj, vInt_inj, eqC_ck, okV_five]
   repeat (obtain ⟨_, hh⟩ := hh)
   try (first | grind [→ okN_le, → okV_rep, small_row, range_all_succ, okVt, → set_at, okVs_dup, set_0, → set_next, okVs_all, okVs_row, okVs_n, vi_lit, = w_vint])
end Go.Proofs.Ytlbbkmcegbeckaa.Cn

set_option linter.unusedSectionVars false
set_option linter.unusedVariables false
set_option linter.unusedSimpArgs false
namespace Go.Proofs.Ytlbbkmcegbeckaa.Cn
open Go.Sx Go.Proofs
theorem maxI_snoc {j : Nat} {R : List (List CD)} {r : List CD} : maxI j (R ++ [r]) = max (maxI j R) (at' r j).iv := by
 unfold maxI
 rw [List.foldl_append]
 rfl
theorem maxI_succ {j : Nat} {l : CD} {i : Int} (h0 : 0 ≤ i) (h : i < l.len) : maxI j (l.rows.take (i + 1).toNat) = max (maxI j (l.rows.take i.toNat)) (at' (row l i.toNat) j).iv := by
 rw [take_row h0 h, maxI_snoc]
theorem foldMax_le {j : Nat} : ∀ {R : List (List CD)} {m : Int}, m ≤ R.foldl (fun m v => max m (at' v j).iv) m
 | [], m => Int.le_refl m
 | r :: R, m => Int.le_trans (Int.le_max_left m _) (foldMax_le (R := R))
theorem maxI_0 {j : Nat} {R : List (List CD)} : 0 ≤ maxI j R := foldMax_le
theorem foldMax_at {j : Nat} : ∀ {R : List (List CD)} {m : Int}, R.foldl (fun m v => max m (at' v j).iv) m = m ∨ ∃ v ∈ R, (at' v j).iv = R.foldl (fun m v => max m (at' v j).iv) m
 | [], m => .inl rfl
 | r :: R, m => by
  rcases foldMax_at (j := j) (R := R) (m := max m (at' r j).iv) with h | ⟨v, h1, h2⟩
  ·show R.foldl _ (max m (at' r j).iv) = m ∨ _
   rw [h]
   rcases Int.le_total (at' r j).iv m with h3 | h3
   ·exact .inl (Int.max_eq_left h3)
   ·refine .inr ⟨r, List.mem_cons_self .., ?_⟩
    show _ = R.foldl _ (max m (at' r j).iv)
    rw [h, Int.max_eq_right h3]
  ·exact .inr ⟨v, List.mem_cons_of_mem _ h1, h2⟩
theorem okA_mem {l : CD} (h : okA l = true) {v : List CD} (hv : v ∈ l.rows) : okV v 7 = true := List.all_eq_true.1 h v hv
theorem row_mem {l : CD} {i : Int} (h0 : 0 ≤ i) (h : i < l.len) : row l i.toNat ∈ l.rows := by
 have hlt : i.toNat < l.rows.length := by rcases len_lt h with h | h <;> omega
 unfold row
 rw [List.getD_eq_getElem?_getD, List.getElem?_eq_getElem hlt]
 exact List.getElem_mem hlt
theorem okV_all {v : List CD} {n : Int} (h : okV v n = true) : 0 ≤ (at' v 0).iv ∧ (at' v 0).iv ≤ n - 1 ∧ 0 ≤ (at' v 1).iv ∧ (at' v 1).iv ≤ 1073741824 ∧ 0 ≤ (at' v 2).iv ∧ (at' v 2).iv ≤ 1073741824 ∧ 0 ≤ (at' v 3).iv ∧ (at' v 3).iv ≤ 1073741824 ∧ okLog (at' v 4) = true := by
 unfold okV at h
 simp only [Bool.and_eq_true, decide_eq_true_eq] at h
 obtain ⟨⟨⟨⟨⟨⟨⟨⟨h1, h2⟩, h3⟩, h4⟩, h5⟩, h6⟩, h7⟩, h8⟩, h9⟩ := h
 exact ⟨h1, h2, h3, h4, h5, h6, h7, h8, h9⟩
theorem okA_row {l : CD} {i : Int} (h : okA l = true) (h0 : 0 ≤ i) (hi : i < l.len) : 0 ≤ (at' (row l i.toNat) 1).iv ∧ (at' (row l i.toNat) 1).iv ≤ 1073741824 ∧ 0 ≤ (at' (row l i.toNat) 2).iv ∧ (at' (row l i.toNat) 2).iv ≤ 1073741824 ∧ 0 ≤ (at' (row l i.toNat) 3).iv ∧ (at' (row l i.toNat) 3).iv ≤ 1073741824 ∧ okLog (at' (row l i.toNat) 4) = true := by
 obtain ⟨_, _, h1, h2, h3, h4, h5, h6, h7⟩ := okV_all (okA_mem h (row_mem h0 hi))
 exact ⟨h1, h2, h3, h4, h5, h6, h7⟩
theorem okLog_row2 {d : CD} {i : Int} (h : okLog d = true) (h0 : 0 ≤ i) (hi : i < d.len) : okE d i.toNat = true := by
 cases he : okE d i.toNat with
 | true => rfl
 | false => rw [okLog_row h0 hi he] at h; cases h
theorem okE_all {d : CD} {i : Nat} (h : okE d i = true) : 0 < (at' (row d i) 0).iv ∧ prevOp d i < (at' (row d i) 0).iv ∧ (at' (row d i) 0).iv ≤ 1073741824 ∧ 0 ≤ (at' (row d i) 1).iv ∧ (at' (row d i) 1).iv ≤ 1073741824 ∧ 1 ≤ (at' (row d i) 2).iv ∧ (at' (row d i) 2).iv ≤ 4 ∨ prevOp d i < 0 := by
 by_cases hp : prevOp d i < 0
 ·exact .inr hp
 unfold okE at h
 simp only [Bool.and_eq_true, decide_eq_true_eq] at h
 obtain ⟨⟨⟨⟨⟨⟨h1, h2⟩, h3⟩, h4⟩, h5⟩, h6⟩, _⟩ := h
 exact .inl ⟨by omega, by omega, h2, h3, h4, h5, h6⟩
theorem prev_0 {d : CD} (h : okLog d = true) : ∀ i : Nat, i ≤ d.rows.length → 0 ≤ prevOp d i
 | 0, _ => Int.le_refl 0
 | i + 1, hi => by
  unfold okLog at h
  simp only [Bool.and_eq_true] at h
  have hh := List.all_eq_true.1 h.1 i (List.mem_range.2 (by omega))
  have ih := prev_0 (by unfold okLog; simp only [Bool.and_eq_true]; exact h) i (by omega)
  rcases okE_all hh with h' | h'
  ·show 0 ≤ (at' (row d i) 0).iv
   omega
  ·omega
theorem okE_row {l : CD} {i k : Int} (h : okA l = true) (h0 : 0 ≤ i) (hi : i < l.len) (k0 : 0 ≤ k) (hk : k < (at' (row l i.toNat) 4).len) : 0 < (at' (row (at' (row l i.toNat) 4) k.toNat) 0).iv ∧ (at' (row (at' (row l i.toNat) 4) k.toNat) 0).iv ≤ 1073741824 ∧ 0 ≤ (at' (row (at' (row l i.toNat) 4) k.toNat) 1).iv ∧ (at' (row (at' (row l i.toNat) 4) k.toNat) 1).iv ≤ 1073741824 ∧ 1 ≤ (at' (row (at' (row l i.toNat) 4) k.toNat) 2).iv ∧ (at' (row (at' (row l i.toNat) 4) k.toNat) 2).iv ≤ 4 := by
 have hL := (okA_row h h0 hi).2.2.2.2.2.2
 have hlt : k.toNat < (at' (row l i.toNat) 4).rows.length := by rcases len_lt hk with h | h <;> omega
 have := prev_0 hL k.toNat (by omega)
 rcases okE_all (okLog_row2 hL k0 hk) with ⟨a1, a2, a3, a4, a5, a6, a7⟩ | h'
 ·exact ⟨a1, a3, a4, a5, a6, a7⟩
 ·omega
theorem leads_mem {R : List (List CD)} {m : Int} {v : List CD} : v ∈ leadsR R m ↔ v ∈ R ∧ (at' v 1).iv = m := by
 unfold leadsR isLead
 rw [List.mem_filter, decide_eq_true_eq]
theorem leads_snoc {R : List (List CD)} {m : Int} {r : List CD} : leadsR (R ++ [r]) m = leadsR R m ++ if (at' r 1).iv = m then [r] else [] := by
 unfold leadsR
 rw [List.filter_append]
 congr 1
 by_cases h : (at' r 1).iv = m <;> simp [isLead, h]
theorem eqC_ivn {a b : CD} {k k' : IntKind} (ha : Typ (.int k) a) (hb : Typ (.int k') b) : (eqC a b = true) = (a.iv = b.iv) := by
 obtain ⟨x, rfl⟩ := typ_int ha
 obtain ⟨y, rfl⟩ := typ_int hb
 exact eqC_int
end Go.Proofs.Ytlbbkmcegbeckaa.Cn

set_option linter.unusedSectionVars false
set_option linter.unusedVariables false
set_option linter.unusedSimpArgs false
namespace Go.Proofs.Ytlbbkmcegbeckaa.Cn
open Go.Sx Go.Proofs
theorem takeWhile_len {p : Nat → Bool} {N m : Nat} (h : ∀ j, j < m → p j = true) (hm : m ≤ N) (he : m = N ∨ p m = false) : ((List.range N).takeWhile p).length = m := by
 have e : List.range N = List.range m ++ (List.range (N - m)).map fun j => m + j := by
  rw [← List.range_add, show m + (N - m) = N by omega]
 rw [e, List.takeWhile_append_of_pos (fun a ha => h a (List.mem_range.1 ha)), List.length_append, List.length_range]
 have e2 : ((List.range (N - m)).map fun j => m + j).takeWhile p = [] := by
  cases hN : N - m with
  | zero => rfl
  | succ k =>
   have hp : p m = false := by
    rcases he with he | he
    ·omega
    ·exact he
   rw [List.range_succ_eq_map, List.map_cons, List.takeWhile_cons_of_neg]
   rw [Nat.add_zero, hp]
   simp
 rw [e2]
 rfl
theorem com_0 {l : CD} : 0 ≤ commit l := maxI_0
theorem com_le {l : CD} (h : okA l = true) : commit l ≤ 1073741824 := by
 rcases foldMax_at (j := 3) (R := l.rows) (m := 0) with h1 | ⟨v, h1, h2⟩
 ·have : commit l = 0 := h1
  omega
 ·have : (at' v 3).iv = commit l := h2
  have := (okV_all (okA_mem h h1)).2.2.2.2.2.2.2.1
  omega
theorem top_le {l : CD} (h : okA l = true) : top l ≤ 1073741824 := by
 rcases foldMax_at (j := 2) (R := leadsR l.rows (lead l)) (m := 0) with h1 | ⟨v, h1, h2⟩
 ·have : top l = 0 := h1
  omega
 ·have : (at' v 2).iv = top l := h2
  have := (okV_all (okA_mem h (leads_mem.1 h1).1)).2.2.2.2.2.1
  omega
theorem many_at {l : CD} {k : Int} (h : ((List.range k.toNat).all fun o : Nat => decide ((o : Int) ≤ commit l) || okOp l o) = true) (hc : commit l + 1 ≤ k) (ht : k ≤ top l + 1) (hn : k = top l + 1 ∨ okOp l k = false) : endOp l = k - 1 := by
 unfold endOp many
 have h0 := com_0 (l := l)
 rw [takeWhile_len (m := (k - 1 - commit l).toNat)]
 ·omega
 ·intro j hj
  have := List.all_eq_true.1 h (commit l + 1 + j).toNat (List.mem_range.2 (by omega))
  rw [Bool.or_eq_true, decide_eq_true_eq] at this
  rcases this with h1 | h1
  ·omega
  ·rw [Int.toNat_of_nonneg (by omega)] at h1
   exact h1
 ·omega
 ·rcases hn with hn | hn
  ·left; omega
  ·right
   rw [show commit l + 1 + ((k - 1 - commit l).toNat : Int) = k by omega]
   exact hn
theorem end_low {l : CD} (h : top l ≤ commit l) : endOp l = commit l := by
 unfold endOp many
 rw [show (top l - commit l).toNat = 0 by omega]
 simp
theorem waits_at {l : CD} {k e : Int} (hk : endOp l = k - 1) : waitsE l e = (decide (k ≤ top l) && decide (((l.rows.filter (denV (i0 k) (i0 (view l k)))).length : Int) < e)) := by
 unfold waitsE
 rw [hk, show k - 1 + 1 = k by omega]
 congr 1
 rw [decide_eq_decide]
 omega
theorem typ_i0 {d : CD} (h : Typ sI d) : d = i0 d.iv := by
 obtain ⟨n, rfl⟩ := typ_int h
 rfl
theorem ok_at {l op : CD} (h : Typ sI op) : l.rows.any (hasV op (i0 (view l op.iv))) = okOp l op.iv := by
 unfold okOp
 rw [← typ_i0 h]
theorem ok_neg {l : CD} {op : Int} (hA : okA l = true) (hT : Typ sVotes l) (h : view l op < 0) : okOp l op = false := by
 unfold okOp
 rw [Bool.eq_false_iff, Ne, List.any_eq_true]
 rintro ⟨v, hv, hh⟩
 unfold hasV at hh
 rw [List.any_eq_true] at hh
 obtain ⟨r, hr, hh⟩ := hh
 unfold hasR at hh
 simp only [Bool.and_eq_true] at hh
 have h1 := eqC_iv (k := .i64) hh.1.2
 obtain ⟨i, hi, rfl⟩ := List.getElem_of_mem hv
 have hl := hT.sl.1
 have hrow : row l ((i : Int)).toNat = l.rows[i] := by unfold row; rw [List.getD_eq_getElem?_getD]; simp [List.getElem?_eq_getElem hi]
 have hTv : Typ (.sl sEnt) (at' l.rows[i] 4) := by
  have := hT.cell (i := i) (j := 4) (s := .sl sEnt) (by omega) (by omega) rfl
  rw [cell_at, hrow] at this
  exact this
 obtain ⟨k, hk, rfl⟩ := List.getElem_of_mem hr
 have := hTv.sl.1
 have h2 := okE_row hA (i := i) (k := k) (by omega) (by omega) (by omega) (by rw [hrow]; omega)
 rw [hrow] at h2
 have hrk : row (at' l.rows[i] 4) ((k : Int)).toNat = (at' l.rows[i] 4).rows[k] := by unfold row; rw [List.getD_eq_getElem?_getD]; simp [List.getElem?_eq_getElem hk]
 rw [hrk] at h2
 omega
theorem mkz_rows {r : List (List CD)} : (mkz r).rows = r := rfl
theorem vInt_iv {k : IntKind} {z : Int} : (vInt k z).iv = z := rfl
theorem has_pos {f : List CD → Bool} {g : List CD → List CD} {l : List (List CD)} : (0 < ((mkz ((l.filter f).map g)).len : Int)) = (l.any f = true) := by
 rw [List.any_eq_true, eq_iff_iff]
 have e : (mkz ((l.filter f).map g)).len = min (l.filter f).length maxN := by
  show min ((l.filter f).map g).length maxN = _
  rw [List.length_map]
 rw [e]
 constructor
 ·intro h
  have : 0 < (l.filter f).length := by omega
  obtain ⟨x, hx⟩ := List.exists_mem_of_length_pos this
  exact ⟨x, (List.mem_filter.1 hx).1, (List.mem_filter.1 hx).2⟩
 ·rintro ⟨x, h1, h2⟩
  have : 0 < (l.filter f).length := List.length_pos_of_mem (List.mem_filter.2 ⟨h1, h2⟩)
  have : 0 < maxN := by decide
  omega
theorem viewE_step {op m : Int} {es : List (List CD)} {r : List CD} : viewE op m (es ++ [r]) = if (at' r 0).iv = op ∧ (at' r 2).iv ≠ 3 then max (viewE op m es) (at' r 1).iv else viewE op m es := by
 unfold viewE
 rw [List.foldl_append]
 rfl
theorem viewE_pos {op : Int} : ∀ {es : List (List CD)} {m : Int}, 0 ≤ viewE op m es → 0 ≤ m ∨ ∃ r ∈ es, (at' r 0).iv = op
 | [], m, h => .inl h
 | r :: es, m, h => by
  rcases viewE_pos (es := es) h with h1 | ⟨q, h1, h2⟩
  ·dsimp only at h1
   split at h1
   ·rename_i h2
    exact .inr ⟨r, List.mem_cons_self .., h2.1⟩
   ·exact .inl h1
  ·exact .inr ⟨q, List.mem_cons_of_mem _ h1, h2⟩
theorem viewL_pos {op : Int} : ∀ {vs : List (List CD)} {m : Int}, 0 ≤ viewL op m vs → 0 ≤ m ∨ ∃ v ∈ vs, ∃ r ∈ (at' v 4).rows, (at' r 0).iv = op
 | [], m, h => .inl h
 | v :: vs, m, h => by
  rcases viewL_pos (vs := vs) h with h1 | ⟨q, h1, h2⟩
  ·rcases viewE_pos h1 with h3 | h3
   ·exact .inl h3
   ·exact .inr ⟨v, List.mem_cons_self .., h3⟩
  ·exact .inr ⟨q, List.mem_cons_of_mem _ h1, h2⟩
theorem end_le {l : CD} (h : okA l = true) : 0 ≤ endOp l ∧ endOp l ≤ 1073741824 := by
 have h1 := com_0 (l := l)
 have h2 := com_le h
 have h3 := top_le h
 unfold endOp many
 have h4 : ((List.range (top l - commit l).toNat).takeWhile fun k : Nat => okOp l (commit l + 1 + k)).length ≤ (top l - commit l).toNat := by
  refine Nat.le_trans (List.takeWhile_sublist _).length_le (Nat.le_of_eq List.length_range)
 omega
theorem eqC_lit {d : CD} {z : Int} (h : Typ sI d) : (eqC d (vInt .i64 z) = true) = (d.iv = z) := by
 obtain ⟨n, rfl⟩ := typ_int h
 exact eqC_int
theorem ent_typ {l : CD} {i k : Int} {j : Nat} (hT : Typ sVotes l) (h0 : 0 ≤ i) (hi : i < l.len) (k0 : 0 ≤ k) (hk : k < (at' (row l i.toNat) 4).len) (hj : j < 3) : Typ sI (at' (row (at' (row l i.toNat) 4) k.toNat) j) := by
 have h1 : Typ (.sl sEnt) (at' (row l i.toNat) 4) := hT.cell (j := 4) h0 hi rfl
 match j, hj with
 | 0, _ => exact h1.cell (j := 0) k0 hk rfl
 | 1, _ => exact h1.cell (j := 1) k0 hk rfl
 | 2, _ => exact h1.cell (j := 2) k0 hk rfl
theorem tn0 : (0 : Int).toNat = 0 := rfl
theorem sl_len {b : Bool} {r : List (List CD)} : ((CD.sl b r).len : Int) ≤ r.length := by
 have : (CD.sl b r).len = min r.length maxN := rfl
 omega
theorem cut_len {b : Bool} {r : List (List CD)} {a c : Nat} : ((CD.sl b ((r.take c).drop a)).len : Int) ≤ r.length := by
 have h1 := sl_len (b := b) (r := (r.take c).drop a)
 have h2 : ((r.take c).drop a).length ≤ r.length := by rw [List.length_drop, List.length_take]; omega
 omega
theorem d_len {d : CD} (h : d.rows.length ≤ 1073741825) : (d.len : Int) = d.rows.length := by
 have h1 : d.len = min d.rows.length maxN := rfl
 have : (1073741825 : Nat) ≤ maxN := by decide
 omega
end Go.Proofs.Ytlbbkmcegbeckaa.Cn

set_option linter.unusedSectionVars false
set_option linter.unusedVariables false
set_option linter.unusedSimpArgs false
namespace Go.Proofs.Ytlbbkmcegbeckaa.Cn
open Go.Sx Go.Proofs
end Go.Proofs.Ytlbbkmcegbeckaa.Cn

set_option linter.unusedSectionVars false
set_option linter.unusedVariables false
set_option linter.unusedSimpArgs false
namespace Go.Proofs.Ytlbbkmcegbeckaa.Cn
open Go.Sx Go.Proofs
noncomputable def capI : X := I 1073741824
theorem ok_atV {l op : CD} (h : Typ sI op) : l.rows.any (hasV op (vInt .i64 (view l op.iv))) = okOp l op.iv := ok_at h
theorem ok_atF {l op : CD} (ha : l.rows.any (hasV op (vInt .i64 (view l op.iv))) = true) (h : Typ sI op) : okOp l op.iv = true := by rw [← ha, ok_atV h]
theorem waits_atV {l op : CD} {e : Int} (h : Typ sI op) (hk : endOp l = op.iv - 1) : waitsE l e = (decide (op.iv ≤ top l) && decide (((l.rows.filter (denV op (vInt .i64 (view l op.iv)))).length : Int) < e)) := by
 rw [waits_at hk, ← typ_i0 h]
 rfl
theorem waits_no {l : CD} {e : Int} (hk : ¬ endOp l < top l) : waitsE l e = false := by
 unfold waitsE
 rw [decide_eq_false hk, Bool.false_and]
theorem maxI_z {j : Nat} {R : List (List CD)} : maxI j (R.take 0) = 0 := by rw [List.take_zero]; rfl
theorem typ_v {z : Int} (h1 : -9223372036854775808 ≤ z) (h2 : z ≤ 9223372036854775807) : Typ sI (vInt .i64 z) := ⟨fun _ _ => False, _, z, rfl, rfl, by exact Bool.and_eq_true_iff.2 ⟨decide_eq_true h1, decide_eq_true h2⟩⟩
def upTo (l : CD) (k : Int) : Bool := (List.range k.toNat).all fun o : Nat => decide ((o : Int) ≤ commit l) || okOp l o
theorem upTo_fold {l : CD} {k : Int} : ((List.range k.toNat).all fun o : Nat => decide ((o : Int) ≤ commit l) || okOp l o) = upTo l k := rfl
theorem upTo_succ {l : CD} {k : Int} (h0 : 0 ≤ k) : upTo l (k + 1) = (upTo l k && (decide (k ≤ commit l) || okOp l k)) := by
 unfold upTo
 rw [range_all_succ h0, Int.toNat_of_nonneg h0]
theorem upTo_low {l : CD} : upTo l (commit l + 1) = true := by
 unfold upTo
 rw [List.all_eq_true]
 intro o ho
 have := List.mem_range.1 ho
 have h0 := com_0 (l := l)
 rw [decide_eq_true (show (o : Int) ≤ commit l by omega), Bool.true_or]
theorem end_a {l op : CD} (hall : upTo l op.iv = true) (hop : Typ sI op) (hA : okA l = true) (hT : Typ sVotes l) :
  (commit l + 1 ≤ op.iv → op.iv ≤ max (commit l) (top l) → (¬ 0 ≤ view l op.iv ∨ ¬ l.rows.any (hasV op (vInt .i64 (view l op.iv))) = true) → endOp l = op.iv - 1 ∧ ∀ e, waitsE l e = decide (((l.rows.filter (denV op (vInt .i64 (view l op.iv)))).length : Int) < e)) ∧
  (op.iv = max (commit l) (top l) + 1 → endOp l = max (commit l) (top l) ∧ ∀ e, waitsE l e = false) := by
 refine ⟨fun h1 h2 h3 => ?_, fun h1 => ?_⟩
 ·have hn : okOp l op.iv = false := by
   rcases h3 with h3 | h3
   ·exact ok_neg hA hT (by omega)
   ·rw [ok_atV hop] at h3
    simpa using h3
  have h4 := many_at hall h1 (by omega) (.inr hn)
  refine ⟨h4, fun e => ?_⟩
  rw [waits_atV hop h4, decide_eq_true (show op.iv ≤ top l by omega), Bool.true_and]
 ·by_cases h2 : top l ≤ commit l
  ·have := end_low h2
   exact ⟨by omega, fun e => waits_no (by omega)⟩
  ·have := many_at hall (by omega) (by omega) (.inl (by omega))
   exact ⟨by omega, fun e => waits_no (by omega)⟩
end Go.Proofs.Ytlbbkmcegbeckaa.Cn

set_option linter.unusedSectionVars false
set_option linter.unusedVariables false
set_option linter.unusedSimpArgs false
namespace Go.Proofs.Ytlbbkmcegbeckaa.Cn
open Go.Sx Go.Proofs
end Go.Proofs.Ytlbbkmcegbeckaa.Cn

set_option linter.unusedSectionVars false
set_option linter.unusedVariables false
set_option linter.unusedSimpArgs false
namespace Go.Proofs.Ytlbbkmcegbeckaa.Cn
open Go.Sx Go.Proofs
noncomputable def cellX (F : Fm) (H : HP) (t off : Nat) : X := match F.get t with
 | some (.one (.ptr b o)) => match H.read b (o + off) 1 with
  | some [.sv _ _ e] => e
  | some [.lit u] => .lit u
  | _ => I 0
 | _ => I 0
noncomputable def SCho : Fsp := ⟨[(false, [sVotes]), (false, [sI])], [.ap .le [.ap .len [.var 0], I 10], .ap .not [.ap (.usr 119) [.var 0]]], [(true, sLog), (false, [sI])], [([], [[.ap (.usr 151) [.var 0, .var 1], .ap (.usr 152) [.var 0, .var 1], .ap (.usr 153) [.var 0, .var 1]], [.ap (.usr 150) [.var 0, .var 1]]])], true⟩
theorem okA_vs {l n : CD} (h : okVs l n = true) : okA l = true := by
 unfold okVs at h
 rw [Bool.and_eq_true] at h
 have hn : n.iv ≤ 7 := by rcases okN_iv h.1 with ⟨h1, _⟩ | ⟨h1, _⟩ | ⟨h1, _⟩ <;> omega
 unfold okA
 rw [List.all_eq_true]
 intro v hv
 obtain ⟨i, hi, rfl⟩ := List.getElem_of_mem hv
 have h2 := List.all_eq_true.1 h.2 i (List.mem_range.2 hi)
 unfold okVt at h2
 rw [Bool.and_eq_true] at h2
 have hr : row l i = l.rows[i] := by unfold row; rw [List.getD_eq_getElem?_getD, List.getElem?_eq_getElem hi]; rfl
 have h3 := h2.1
 rw [hr] at h3
 obtain ⟨a1, a2, a3, a4, a5, a6, a7, a8, a9⟩ := okV_all h3
 unfold okV
 simp only [Bool.and_eq_true, decide_eq_true_eq]
 exact ⟨⟨⟨⟨⟨⟨⟨⟨a1, by omega⟩, a3⟩, a4⟩, a5⟩, a6⟩, a7⟩, a8⟩, a9⟩
theorem com_fold {l : CD} : maxI 3 l.rows = commit l := rfl
theorem max3_next {l : CD} {i : Int} (hT : Typ sVotes l) (h0 : 0 ≤ i) (hi : i < l.len) : vInt .i64 (maxI 3 (l.rows.take (i + 1).toNat)) = if maxI 3 (l.rows.take i.toNat) < (at' (row l i.toNat) 3).iv then at' (row l i.toNat) 3 else vInt .i64 (maxI 3 (l.rows.take i.toNat)) := by
 have h1 := maxI_succ (j := 3) h0 hi
 have t1 := typ_i0 (hT.cell (j := 3) h0 hi rfl)
 rw [cell_at] at t1
 rw [h1]
 generalize at' (row l i.toNat) 3 = r at t1 ⊢
 generalize maxI 3 (l.rows.take i.toNat) = m
 split
 ·rw [show max m r.iv = r.iv by omega]
  exact t1.symm
 ·rw [show max m r.iv = m by omega]
theorem r3_min {l : CD} {i : Int} (h : okA l = true) (h0 : 0 ≤ i) (hi : i < l.len) : (at' (row l i.toNat) 3).iv = max 0 (min (at' (row l i.toNat) 3).iv 1073741824) := by
 obtain ⟨_, _, _, _, h1, h2, _⟩ := okA_row h h0 hi
 omega
theorem eqC_ckV {b : Bool} : eqC (vInt .i64 (if b = true then 0 else 2)) (vInt .i64 0) = b := by cases b <;> rfl
theorem mkz_nil : mkz [] = CD.sl true [] := rfl
end Go.Proofs.Ytlbbkmcegbeckaa.Cn
