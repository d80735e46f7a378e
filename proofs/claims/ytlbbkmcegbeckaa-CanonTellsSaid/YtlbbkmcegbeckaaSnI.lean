/-
  Contracts of a chapter's functions: the ops of votes, rising. Conditions: none.
  Contracts of a chapter's functions: the log that is chosen, by the document. Conditions: none.
-/
import Derived.Test.YtlbbkmcegbeckaaSnG
set_option linter.unusedSectionVars false
set_option linter.unusedVariables false
set_option linter.unusedSimpArgs false
namespace Go.Proofs.Ytlbbkmcegbeckaa.Cn
open Go.Sx Go.Proofs
noncomputable def opsP (l : CD) (i k : Int) : List (List CD) := opsS fun o => opP (l.rows.take i.toNat) o || opE ((at' (row l i.toNat) 4).rows.take k.toNat) o
theorem opsP_fold {l : CD} {i k : Int} : (opsS fun o => opP (l.rows.take i.toNat) o || opE ((at' (row l i.toNat) 4).rows.take k.toNat) o) = opsP l i k := rfl
noncomputable def opsQ (l : CD) (i : Int) : List (List CD) := opsS (opP (l.rows.take i.toNat))
theorem opsQ_fold {l : CD} {i : Int} : opsS (opP (l.rows.take i.toNat)) = opsQ l i := rfl
def belowE (e : CD) (n a : Int) : Bool := (e.rows.take a.toNat).all fun r => decide ((at' r 0).iv < n)
theorem below_fold {e : CD} {n a : Int} : ((e.rows.take a.toNat).all fun r => decide ((at' r 0).iv < n)) = belowE e n a := rfl
theorem below_succ {e : CD} {n a : Int} (h0 : 0 ≤ a) (h : a < e.rows.length) : belowE e n (a + 1) = (belowE e n a && decide ((at' (row e a.toNat) 0).iv < n)) := all_succN h0 h
theorem below_0 {e : CD} {n : Int} : belowE e n 0 = true := rfl
theorem opsP_0 {l : CD} {i : Int} : opsP l i 0 = opsQ l i := ops_z
theorem opsQ_0 {l : CD} : opsQ l 0 = [] := ops_0
theorem opsP_row {l : CD} {i k : Int} (h0 : 0 ≤ i) (hi : i < l.len) (hT : Typ sVotes l) (hk : ¬ k < (at' (row l i.toNat) 4).len) : opsP l i k = opsQ l (i + 1) := ops_row h0 hi hT hk
theorem opsQ_all {l : CD} {i : Int} (hT : Typ sVotes l) (hi : ¬ i < l.len) : opsQ l i = opsS (opP l.rows) := by
 unfold opsQ
 rw [take_allT hT hi]
theorem newP {l e : CD} {i k a : Int} (he : e.rows = opsP l i k) (hb : belowE e (at' (row (at' (row l i.toNat) 4) k.toNat) 0).iv a = true) (hT : Typ sVotes l) (hA : okA l = true) (h0 : 0 ≤ i) (hi : i < l.len) (k0 : 0 ≤ k) (hk : k < (at' (row l i.toNat) 4).len) (a0 : 0 ≤ a) (ha : a ≤ e.rows.length) :
  (a < e.rows.length → ¬ (at' (row e a.toNat) 0).iv < (at' (row (at' (row l i.toNat) 4) k.toNat) 0).iv → eqC (at' (row e a.toNat) 0) (at' (row (at' (row l i.toNat) 4) k.toNat) 0) = true → opsP l i (k + 1) = e.rows) ∧
  ((¬ a < e.rows.length ∨ (¬ (at' (row e a.toNat) 0).iv < (at' (row (at' (row l i.toNat) 4) k.toNat) 0).iv ∧ ¬ eqC (at' (row e a.toNat) 0) (at' (row (at' (row l i.toNat) 4) k.toNat) 0) = true)) → opsP l i (k + 1) = e.rows.take a.toNat ++ [[at' (row (at' (row l i.toNat) 4) k.toNat) 0]] ++ e.rows.drop a.toNat ∧ (e.rows.length : Int) + 1 ≤ 1073741825) := by
 refine ⟨fun h1 h2 h3 => ?_, fun h1 => ?_⟩
 ·have := ops_newV he hT hA h0 hi k0 hk a0 ha hb (fun _ => h2)
  rw [if_pos ⟨h1, h3⟩] at this
  exact this
 ·have hge : a < e.rows.length → ¬ (at' (row e a.toNat) 0).iv < (at' (row (at' (row l i.toNat) 4) k.toNat) 0).iv := fun h => by
   rcases h1 with h1 | h1
   ·exact absurd h h1
   ·exact h1.1
  have hc : ¬ (a < e.rows.length ∧ eqC (at' (row e a.toNat) 0) (at' (row (at' (row l i.toNat) 4) k.toNat) 0) = true) := fun ⟨g1, g2⟩ => by
   rcases h1 with h1 | h1
   ·exact h1 g1
   ·exact h1.2 g2
  have h2 := ops_newV he hT hA h0 hi k0 hk a0 ha hb hge
  have h3 := ops_newL he hT hA h0 hi k0 hk a0 ha hb hge hc
  rw [if_neg hc] at h2
  exact ⟨h2, by omega⟩
noncomputable def SRis : Fsp := ⟨[(false, [sVotes])], [.ap .le [.ap .len [.var 0], I 10], .ap (.usr 160) [.var 0]], [(false, [.sl [sI]])], [([], [[.ap (.usr 164) [.var 0]]])], true⟩
noncomputable def bigI : X := I 1073741825
noncomputable def osE (F : Fm) (H : HP) (t : Nat) : X := match F.get t with
 | some (.one (.os _ b _ _ _ _)) => match rowsAt H b with
  | some (_, _, e, _) => .ap (.mk true) [e]
  | none => sx F t
 | _ => sx F t
noncomputable def lp79a : Lp := ⟨[(.slot 3, .own true [sI]), (.slot 4, .int .i64)], [0], [], fun F H k => [.ap .le [zI, .var (k+2)], .ap .le [.var (k+2), .ap .len [.var 0]], .ap .le [.var k, .ap .rlen [.var (k+1)]], .ap .le [.ap .rlen [.var (k+1)], .var k], .ap .le [zI, .var k], .ap .le [.var k, bigI], .ap .same [.ap (.mk true) [.var (k+1)], .ap (.usr 165) [.var 0, .var (k+2)]]], fun F H k => .ap (.sub .i64) [.ap .len [.var 0], .var (k+2)]⟩
noncomputable def lp79b : Lp := ⟨[(.slot 3, .own true [sI]), (.slot 5, .int .i64)], [0, 4], [], fun F H k => [.ap .le [zI, .var (k+2)], .ap .le [.var (k+2), .ap .len [.ap (.cell 4) [.var 0, sx F 4]]], .ap .le [.var k, .ap .rlen [.var (k+1)]], .ap .le [.ap .rlen [.var (k+1)], .var k], .ap .le [zI, .var k], .ap .le [.var k, bigI], .ap .same [.ap (.mk true) [.var (k+1)], .ap (.usr 166) [.var 0, sx F 4, .var (k+2)]]], fun F H k => .ap (.sub .i64) [.ap .len [.ap (.cell 4) [.var 0, sx F 4]], .var (k+2)]⟩
noncomputable def lp121 : Lp := ⟨[(.slot 5, .int .i64)], [0, 1], [], fun F H k => [.ap .le [zI, .var k], .ap .le [.var k, sx F 0], .ap (.usr 169) [osE F H 0, sx F 1, .var k]], fun F H k => .ap (.sub .i64) [sx F 0, .var k]⟩
noncomputable def inlWith : List (FuncId × Inl) := [(121, ⟨Try.f121, ⟨hintL [(2, lp121)], hintA [(6, fun F H => [.ap .le [sx F 5, .ap .len [osE F H 0]], .ap .le [.ap .len [.ap .cut [osE F H 0, zI, sx F 5]], bigI], fzX 0]), (8, fun F H => [.ap .le [.ap .len [.ap .cut [sx F 0, sx F 5, .ap .len [sx F 0]]], bigI]])]⟩⟩)]
set_option maxRecDepth 100000 in
theorem hInlWith : InlsOK U Try.prog inlWith := .cons (.of at121 (by kernel_rfl)) .nil
abbrev r79_h0 : List X := [(.ap (.typ sVotes) [(.var 0)]), (.ap .le [(.ap .len [(.var 0)]), (I 10)]), (.ap (.usr 160) [(.var 0)])]
abbrev r79_h1 : List X := (.ap .le [(I 0), (.var 3)]) :: (.ap .le [(.var 3), (.ap .len [(.var 0)])]) :: (.ap .le [(.var 1), (.ap .rlen [(.var 2)])]) :: (.ap .le [(.ap .rlen [(.var 2)]), (.var 1)]) :: (.ap .le [(I 0), (.var 1)]) :: (.ap .le [(.var 1), (I 1073741825)]) :: (.ap .same [(.ap (.mk true) [(.var 2)]), (.ap (.usr 165) [(.var 0), (.var 3)])]) :: r79_h0
abbrev r79_h2 : List X := (.ap .le [(I 0), (.var 6)]) :: (.ap .le [(.var 6), (.ap .len [(.ap (.cell 4) [(.var 0), (.var 3)])])]) :: (.ap .le [(.var 4), (.ap .rlen [(.var 5)])]) :: (.ap .le [(.ap .rlen [(.var 5)]), (.var 4)]) :: (.ap .le [(I 0), (.var 4)]) :: (.ap .le [(.var 4), (I 1073741825)]) :: (.ap .same [(.ap (.mk true) [(.var 5)]), (.ap (.usr 166) [(.var 0), (.var 3), (.var 6)])]) :: (.ap .lt [(.var 3), (.ap .len [(.var 0)])]) :: r79_h1
abbrev r79_h3 : List X := (.ap .le [(I 0), (.var 7)]) :: (.ap .le [(.var 7), (.var 4)]) :: (.ap (.usr 169) [(.ap (.mk true) [(.var 5)]), (.ap (.cell 0) [(.ap (.cell 4) [(.var 0), (.var 3)]), (.var 6)]), (.var 7)]) :: (.ap .lt [(.var 6), (.ap .len [(.ap (.cell 4) [(.var 0), (.var 3)])])]) :: r79_h2
abbrev r79_h4 : List X := (.ap .not [(.ap .eq [(.ap (.cell 0) [(.var 5), (.var 7)]), (.ap (.cell 0) [(.ap (.cell 4) [(.var 0), (.var 3)]), (.var 6)])])]) :: (.ap .not [(.ap .lt [(.ap (.cell 0) [(.var 5), (.var 7)]), (.ap (.cell 0) [(.ap (.cell 4) [(.var 0), (.var 3)]), (.var 6)])])]) :: (.ap .lt [(.var 7), (.ap (.cast .i64) [(.var 4)])]) :: r79_h3
abbrev r79_h5 : List X := (.ap .le [(.var 7), (.ap .len [(.ap (.mk true) [(.var 5)])])]) :: (.ap .le [(.ap .len [(.ap .cut [(.ap (.mk true) [(.var 5)]), (I 0), (.var 7)])]), (I 1073741825)]) :: (.ap .not [(.ap .lt [(.var 7), (.ap (.cast .i64) [(.var 4)])])]) :: r79_h3
def r79_v : List VC := [(r79_h0, (.ap .le [(I 0), (.ap .rlen [(.ap (.nil true) [])])])),
 (r79_h0, (.ap .le [(.ap .rlen [(.ap (.nil true) [])]), (I 0)])),
 (r79_h0, (.ap .same [(.ap (.mk true) [(.ap (.nil true) [])]), (.ap (.usr 165) [(.var 0), (I 0)])])),
 (((.ap .lt [(.var 3), (.ap .len [(.var 0)])]) :: r79_h1), (.ap .same [(.ap (.mk true) [(.var 2)]), (.ap (.usr 166) [(.var 0), (.var 3), (I 0)])])),
 (((.ap .lt [(.var 6), (.ap .len [(.ap (.cell 4) [(.var 0), (.var 3)])])]) :: r79_h2), (.ap (.usr 169) [(.ap (.mk true) [(.var 5)]), (.ap (.cell 0) [(.ap (.cell 4) [(.var 0), (.var 3)]), (.var 6)]), (I 0)])),
 (((.ap .lt [(.ap (.cell 0) [(.var 5), (.var 7)]), (.ap (.cell 0) [(.ap (.cell 4) [(.var 0), (.var 3)]), (.var 6)])]) :: (.ap .lt [(.var 7), (.ap (.cast .i64) [(.var 4)])]) :: r79_h3), (.ap (.usr 169) [(.ap (.mk true) [(.var 5)]), (.ap (.cell 0) [(.ap (.cell 4) [(.var 0), (.var 3)]), (.var 6)]), (.ap (.add .i64) [(.var 7), (I 1)])])),
 (r79_h4, (.ap .le [(.var 7), (.ap .len [(.ap (.mk true) [(.var 5)])])])),
 (r79_h4, (.ap .le [(.ap .len [(.ap .cut [(.ap (.mk true) [(.var 5)]), (I 0), (.var 7)])]), (I 1073741825)])),
 (((.ap .le [(.var 7), (.ap .len [(.ap (.mk true) [(.var 5)])])]) :: (.ap .le [(.ap .len [(.ap .cut [(.ap (.mk true) [(.var 5)]), (I 0), (.var 7)])]), (I 1073741825)]) :: r79_h4), (.ap .le [(.ap .len [(.ap .cut [(.ap (.mk true) [(.var 5)]), (.var 7), (.ap .len [(.ap (.mk true) [(.var 5)])])])]), (I 1073741825)])),
 (((.ap .not [(.ap .lt [(.var 7), (.ap (.cast .i64) [(.var 4)])])]) :: r79_h3), (.ap .le [(.var 7), (.ap .len [(.ap (.mk true) [(.var 5)])])])),
 (((.ap .not [(.ap .lt [(.var 7), (.ap (.cast .i64) [(.var 4)])])]) :: r79_h3), (.ap .le [(.ap .len [(.ap .cut [(.ap (.mk true) [(.var 5)]), (I 0), (.var 7)])]), (I 1073741825)])),
 (r79_h5, (.ap .le [(.ap .len [(.ap .cut [(.ap (.mk true) [(.var 5)]), (.var 7), (.ap .len [(.ap (.mk true) [(.var 5)])])])]), (I 1073741825)])),
 (((.ap .eq [(.ap (.cell 0) [(.var 5), (.var 7)]), (.ap (.cell 0) [(.ap (.cell 4) [(.var 0), (.var 3)]), (.var 6)])]) :: (.ap .not [(.ap .lt [(.ap (.cell 0) [(.var 5), (.var 7)]), (.ap (.cell 0) [(.ap (.cell 4) [(.var 0), (.var 3)]), (.var 6)])])]) :: (.ap .lt [(.var 7), (.ap (.cast .i64) [(.var 4)])]) :: r79_h3), (.ap .same [(.ap (.mk true) [(.var 5)]), (.ap (.usr 166) [(.var 0), (.var 3), (.ap (.add .i64) [(.var 6), (I 1)])])])),
 (((.ap .le [(.ap .len [(.ap .cut [(.ap (.mk true) [(.var 5)]), (.var 7), (.ap .len [(.ap (.mk true) [(.var 5)])])])]), (I 1073741825)]) :: (.ap .le [(.var 7), (.ap .len [(.ap (.mk true) [(.var 5)])])]) :: (.ap .le [(.ap .len [(.ap .cut [(.ap (.mk true) [(.var 5)]), (I 0), (.var 7)])]), (I 1073741825)]) :: r79_h4), (.ap .le [(.ap (.add .i64) [(.ap (.add .i64) [(.ap .len [(.ap .cut [(.ap (.mk true) [(.var 5)]), (I 0), (.var 7)])]), (I 1)]), (.ap .len [(.ap .cut [(.ap (.mk true) [(.var 5)]), (.var 7), (.ap .len [(.ap (.mk true) [(.var 5)])])])])]), (.ap .rlen [(.ap .cat [(.ap .cat [(.ap (.mk false) [(.ap .cut [(.ap (.mk true) [(.var 5)]), (I 0), (.var 7)])]), (.ap .snoc [(.ap (.nil false) []), (.ap (.cell 0) [(.ap (.cell 4) [(.var 0), (.var 3)]), (.var 6)])])]), (.ap .cut [(.ap (.mk true) [(.var 5)]), (.var 7), (.ap .len [(.ap (.mk true) [(.var 5)])])])])])])),
 (((.ap .le [(.ap .len [(.ap .cut [(.ap (.mk true) [(.var 5)]), (.var 7), (.ap .len [(.ap (.mk true) [(.var 5)])])])]), (I 1073741825)]) :: (.ap .le [(.var 7), (.ap .len [(.ap (.mk true) [(.var 5)])])]) :: (.ap .le [(.ap .len [(.ap .cut [(.ap (.mk true) [(.var 5)]), (I 0), (.var 7)])]), (I 1073741825)]) :: r79_h4), (.ap .le [(.ap .rlen [(.ap .cat [(.ap .cat [(.ap (.mk false) [(.ap .cut [(.ap (.mk true) [(.var 5)]), (I 0), (.var 7)])]), (.ap .snoc [(.ap (.nil false) []), (.ap (.cell 0) [(.ap (.cell 4) [(.var 0), (.var 3)]), (.var 6)])])]), (.ap .cut [(.ap (.mk true) [(.var 5)]), (.var 7), (.ap .len [(.ap (.mk true) [(.var 5)])])])])]), (.ap (.add .i64) [(.ap (.add .i64) [(.ap .len [(.ap .cut [(.ap (.mk true) [(.var 5)]), (I 0), (.var 7)])]), (I 1)]), (.ap .len [(.ap .cut [(.ap (.mk true) [(.var 5)]), (.var 7), (.ap .len [(.ap (.mk true) [(.var 5)])])])])])])),
 (((.ap .le [(.ap .len [(.ap .cut [(.ap (.mk true) [(.var 5)]), (.var 7), (.ap .len [(.ap (.mk true) [(.var 5)])])])]), (I 1073741825)]) :: (.ap .le [(.var 7), (.ap .len [(.ap (.mk true) [(.var 5)])])]) :: (.ap .le [(.ap .len [(.ap .cut [(.ap (.mk true) [(.var 5)]), (I 0), (.var 7)])]), (I 1073741825)]) :: r79_h4), (.ap .le [(.ap (.add .i64) [(.ap (.add .i64) [(.ap .len [(.ap .cut [(.ap (.mk true) [(.var 5)]), (I 0), (.var 7)])]), (I 1)]), (.ap .len [(.ap .cut [(.ap (.mk true) [(.var 5)]), (.var 7), (.ap .len [(.ap (.mk true) [(.var 5)])])])])]), (I 1073741825)])),
 (((.ap .le [(.ap .len [(.ap .cut [(.ap (.mk true) [(.var 5)]), (.var 7), (.ap .len [(.ap (.mk true) [(.var 5)])])])]), (I 1073741825)]) :: (.ap .le [(.var 7), (.ap .len [(.ap (.mk true) [(.var 5)])])]) :: (.ap .le [(.ap .len [(.ap .cut [(.ap (.mk true) [(.var 5)]), (I 0), (.var 7)])]), (I 1073741825)]) :: r79_h4), (.ap .same [(.ap (.mk true) [(.ap .cat [(.ap .cat [(.ap (.mk false) [(.ap .cut [(.ap (.mk true) [(.var 5)]), (I 0), (.var 7)])]), (.ap .snoc [(.ap (.nil false) []), (.ap (.cell 0) [(.ap (.cell 4) [(.var 0), (.var 3)]), (.var 6)])])]), (.ap .cut [(.ap (.mk true) [(.var 5)]), (.var 7), (.ap .len [(.ap (.mk true) [(.var 5)])])])])]), (.ap (.usr 166) [(.var 0), (.var 3), (.ap (.add .i64) [(.var 6), (I 1)])])])),
 (((.ap .le [(.ap .len [(.ap .cut [(.ap (.mk true) [(.var 5)]), (.var 7), (.ap .len [(.ap (.mk true) [(.var 5)])])])]), (I 1073741825)]) :: r79_h5), (.ap .le [(.ap (.add .i64) [(.ap (.add .i64) [(.ap .len [(.ap .cut [(.ap (.mk true) [(.var 5)]), (I 0), (.var 7)])]), (I 1)]), (.ap .len [(.ap .cut [(.ap (.mk true) [(.var 5)]), (.var 7), (.ap .len [(.ap (.mk true) [(.var 5)])])])])]), (.ap .rlen [(.ap .cat [(.ap .cat [(.ap (.mk false) [(.ap .cut [(.ap (.mk true) [(.var 5)]), (I 0), (.var 7)])]), (.ap .snoc [(.ap (.nil false) []), (.ap (.cell 0) [(.ap (.cell 4) [(.var 0), (.var 3)]), (.var 6)])])]), (.ap .cut [(.ap (.mk true) [(.var 5)]), (.var 7), (.ap .len [(.ap (.mk true) [(.var 5)])])])])])])),
 (((.ap .le [(.ap .len [(.ap .cut [(.ap (.mk true) [(.var 5)]), (.var 7), (.ap .len [(.ap (.mk true) [(.var 5)])])])]), (I 1073741825)]) :: r79_h5), (.ap .le [(.ap .rlen [(.ap .cat [(.ap .cat [(.ap (.mk false) [(.ap .cut [(.ap (.mk true) [(.var 5)]), (I 0), (.var 7)])]), (.ap .snoc [(.ap (.nil false) []), (.ap (.cell 0) [(.ap (.cell 4) [(.var 0), (.var 3)]), (.var 6)])])]), (.ap .cut [(.ap (.mk true) [(.var 5)]), (.var 7), (.ap .len [(.ap (.mk true) [(.var 5)])])])])]), (.ap (.add .i64) [(.ap (.add .i64) [(.ap .len [(.ap .cut [(.ap (.mk true) [(.var 5)]), (I 0), (.var 7)])]), (I 1)]), (.ap .len [(.ap .cut [(.ap (.mk true) [(.var 5)]), (.var 7), (.ap .len [(.ap (.mk true) [(.var 5)])])])])])])),
 (((.ap .le [(.ap .len [(.ap .cut [(.ap (.mk true) [(.var 5)]), (.var 7), (.ap .len [(.ap (.mk true) [(.var 5)])])])]), (I 1073741825)]) :: r79_h5), (.ap .le [(.ap (.add .i64) [(.ap (.add .i64) [(.ap .len [(.ap .cut [(.ap (.mk true) [(.var 5)]), (I 0), (.var 7)])]), (I 1)]), (.ap .len [(.ap .cut [(.ap (.mk true) [(.var 5)]), (.var 7), (.ap .len [(.ap (.mk true) [(.var 5)])])])])]), (I 1073741825)])),
 (((.ap .le [(.ap .len [(.ap .cut [(.ap (.mk true) [(.var 5)]), (.var 7), (.ap .len [(.ap (.mk true) [(.var 5)])])])]), (I 1073741825)]) :: r79_h5), (.ap .same [(.ap (.mk true) [(.ap .cat [(.ap .cat [(.ap (.mk false) [(.ap .cut [(.ap (.mk true) [(.var 5)]), (I 0), (.var 7)])]), (.ap .snoc [(.ap (.nil false) []), (.ap (.cell 0) [(.ap (.cell 4) [(.var 0), (.var 3)]), (.var 6)])])]), (.ap .cut [(.ap (.mk true) [(.var 5)]), (.var 7), (.ap .len [(.ap (.mk true) [(.var 5)])])])])]), (.ap (.usr 166) [(.var 0), (.var 3), (.ap (.add .i64) [(.var 6), (I 1)])])])),
 (((.ap .not [(.ap .lt [(.var 6), (.ap .len [(.ap (.cell 4) [(.var 0), (.var 3)])])])]) :: r79_h2), (.ap .same [(.ap (.mk true) [(.var 5)]), (.ap (.usr 165) [(.var 0), (.ap (.add .i64) [(.var 3), (I 1)])])]))]
def r79_o : List (List X × List (List X)) := [(((.ap .not [(.ap .lt [(.var 3), (.ap .len [(.var 0)])])]) :: r79_h1), [[(.ap (.mk true) [(.var 2)])]])]
theorem r79_eq : runV Try.prog (cxOf Try.prog (specO T0) 10 12 ⟨lookI inlWith, noY, U.lc⟩ 2 79) ⟨hintL [(3, lp79a), (6, lp79b)], hintA []⟩ Try.f79 (bodyOf Try.f79) SRis = some (r79_v, r79_o) := by kernel_rfl
set_option maxHeartbeats 4000000 in
set_option maxRecDepth 100000 in
theorem c79 : SpecOK U Try.prog 79 SRis := by
 refine SpecOK.ofV (P := Try.prog) (U := U) (T := T0) (l := inlWith) (y := noY) (dp := 2) (f := 79) (fn := Try.f79) (fuel := 10) (fk := 12) (hs := ⟨hintL [(3, lp79a), (6, lp79b)], hintA []⟩) (S := SRis) (v := r79_v) (outs := r79_o) mixed hT0 hInlWith at79 (rangesIn_nil (by kernel_rfl)) r79_eq ?_ ?_
 ·unfold r79_v
  repeat' (first | exact vcs_nil _ | refine vcs_cons (fun v hh => ?_) ?_)
  all_goals
   simp only [w_var, w_lit, w_ivi, w_bvb, w_add, w_cast, b_lt, b_le, b_eq, b_not, b_typ, b_same, w_len, w_cell, w_nil, w_mk, w_snoc, w_cat, w_cut, w_usr, w_l0, w_l1, w_vint, w_vbool, w_tru, w_holds0, w_holds1, w_rows, w_nilb, w_rlen, us160, us164, us165, us166, us169, mnX, mxX, cell_at, l1_inj, mkz_fold, mkz_eq, mkz_rows, mkz_len, row_mkz, row_of, opsP_fold, opsQ_fold, below_fold, tn0, List.drop_zero, List.nil_append, opsP_0, opsQ_0, below_0, ops_z, ops_0, r79_h0, r79_h1, r79_h2, r79_h3, r79_h4, r79_h5] at hh ⊢
   repeat (obtain ⟨_, hh⟩ := hh)
   try (first | grind [opsP_0, opsQ_0, below_0, below_succ, d_len, len_cut1, len_cut3, len_join, take_full, → newP, opsP_row, opsQ_all, = w_vint])
 ·intro o ho σ hU hh
  obtain ⟨v⟩ := σ
  cases hU
  simp only [r79_o, List.mem_cons, List.not_mem_nil, or_false] at ho
  repeat' (first | (rcases ho with rfl | ho) | subst ho)
  all_goals
   refine ⟨_, List.mem_cons_self .., by simp only [w_var, w_lit, w_ivi, w_bvb, w_add, w_cast, b_lt, b_le, b_eq, b_not, b_typ, b_same, w_len, w_cell, w_nil, w_mk, w_snoc, w_cat, w_cut, w_usr, w_l0, w_l1, w_vint, w_vbool, w_tru, w_holds0, w_holds1, w_rows, w_nilb, w_rlen], ?_⟩
   simp only [w_var, w_lit, w_ivi, w_bvb, w_add, w_cast, b_lt, b_le, b_eq, b_not, b_typ, b_same, w_len, w_cell, w_nil, w_mk, w_snoc, w_cat, w_cut, w_usr, w_l0, w_l1, w_vint, w_vbool, w_tru, w_holds0, w_holds1, w_rows, w_nilb, w_rlen, us160, us164, us165, us166, us169, mnX, mxX, cell_at, l1_inj, mkz_fold, mkz_eq, mkz_rows, mkz_len, row_mkz, row_of, opsP_fold, opsQ_fold, below_fold, tn0, List.drop_zero, List.nil_append, opsP_0, opsQ_0, below_0, ops_z, ops_0, r79_h0, r79_h1, r79_h2, r79_h3, r79_h4, r79_h5] at hh
   simp only [List.map_cons, List.map_nil, w_var, w_lit, w_ivi, w_bvb, w_add, w_cast, b_lt, b_le, b_eq, b_not, b_typ, b_same, w_len, w_cell, w_nil, w_mk, w_snoc, w_cat, w_cut, w_usr, w_l0, w_l1, w_vint, w_vbool, w_tru, w_holds0, w_holds1, w_rows, w_nilb, w_rlen, w_lt, w_le, w_eq, w_not, w_same, w_typ, us160, us164, us165, us166, us169, mnX, mxX, cell_at, l1_inj, mkz_fold, mkz_eq, mkz_rows, mkz_len, row_mkz, row_of, opsP_fold, opsQ_fold, below_fold, tn0, List.drop_zero, List.nil_append, opsP_0, opsQ_0, below_0, ops_z, ops_0]
   repeat (obtain ⟨_, hh⟩ := hh)
   try (first | grind [opsP_0, opsQ_0, below_0, below_succ, d_len, len_cut1, len_cut3, len_join, take_full, → newP, opsP_row, opsQ_all, = w_vint])
end Go.Proofs.Ytlbbkmcegbeckaa.Cn

set_option linter.unusedSectionVars false
set_option linter.unusedVariables false
set_option linter.unusedSimpArgs false
namespace Go.Proofs.Ytlbbkmcegbeckaa.Cn
open Go.Sx Go.Proofs
noncomputable def T6 : List (FuncId × Fsp) := [(35, SCheck), (76, Sen), (77, SEnd), (78, SLead), (79, SRis), (80, SView)]
set_option maxRecDepth 100000 in
theorem hT6 : TabOK U Try.prog T6 := .cons c35 (.cons c76 (.cons c77 (.cons c78 (.cons c79 (.cons c80 .nil)))))
noncomputable def cellX (F : Fm) (H : HP) (t off : Nat) : X := match F.get t with
 | some (.one (.ptr b o)) => match H.read b (o + off) 1 with
  | some [.sv _ _ e] => e
  | some [.lit u] => .lit u
  | _ => I 0
 | _ => I 0
noncomputable def SCho : Fsp := ⟨[(false, [sVotes]), (false, [sI])], [.ap .le [.ap .len [.var 0], I 10], .ap .not [.ap (.usr 119) [.var 0]]], [(true, sLog), (false, [sI])], [([], [[.ap (.usr 151) [.var 0, .var 1], .ap (.usr 152) [.var 0, .var 1], .ap (.usr 153) [.var 0, .var 1]], [.ap (.usr 150) [.var 0, .var 1]]])], true⟩
noncomputable def lp33a : Lp := ⟨[(.slot 10, .int .i64), (.cell 9 1, .int .i64)], [0, 1, 4, 7, 9], [], fun F H k => [.ap .le [zI, .var k], .ap .le [.var k, .ap .len [.var 0]], .ap .le [zI, .var (k+1)], .ap .le [.var (k+1), capI], .ap .same [.var (k+1), .ap (.usr 143) [.var 0, .var k]]], fun F H k => .ap (.sub .i64) [.ap .len [.var 0], .var k]⟩
noncomputable def lp33b : Lp := ⟨[(.slot 15, .int .i64), (.cell 9 2, .own true sHead)], [0, 1, 4, 7, 9, 11, 13, 14], [], fun F H k => [.ap .le [zI, .var k], .ap .le [.var k, .ap .len [sx F 14]], .ap .le [zI, .var (k+1)], .ap .le [.var (k+1), .var k], .ap .le [.var (k+1), .ap .rlen [.var (k+2)]], .ap .le [.ap .rlen [.var (k+2)], .var (k+1)], .ap .same [.ap (.mk true) [.var (k+2)], .ap (.usr 167) [.var 0, sx F 14, .var k]], .ap (.usr 168) [sx F 14, sx F 11, .var k]], fun F H k => .ap (.sub .i64) [.ap .len [sx F 14], .var k]⟩
theorem okA_vs {l n : CD} (h : okVs l n = true) : okA l = true := by
 unfold okVs at h
 rw [Bool.and_eq_true] at h
 have hn : n.iv ≤ 7 := by rcases okN_iv h.1 with ⟨h1, _⟩ | ⟨h1, _⟩ | ⟨h1, _⟩ <;> omega
 unfold okA
 rw [List.all_eq_true]
 intro v hv
 obtain ⟨i, hi, rfl⟩ := List.getElem_of_mem hv
 have h2 := List.all_eq_true.1 h.2 i (List.mem_range.2 hi)
 unfold okVt at h2
 rw [Bool.and_eq_true] at h2
 have hr : row l i = l.rows[i] := by unfold row; rw [List.getD_eq_getElem?_getD, List.getElem?_eq_getElem hi]; rfl
 have h3 := h2.1
 rw [hr] at h3
 obtain ⟨a1, a2, a3, a4, a5, a6, a7, a8, a9⟩ := okV_all h3
 unfold okV
 simp only [Bool.and_eq_true, decide_eq_true_eq]
 exact ⟨⟨⟨⟨⟨⟨⟨⟨a1, by omega⟩, a3⟩, a4⟩, a5⟩, a6⟩, a7⟩, a8⟩, a9⟩
theorem com_fold {l : CD} : maxI 3 l.rows = commit l := rfl
theorem max3_next {l : CD} {i : Int} (hT : Typ sVotes l) (h0 : 0 ≤ i) (hi : i < l.len) : vInt .i64 (maxI 3 (l.rows.take (i + 1).toNat)) = if maxI 3 (l.rows.take i.toNat) < (at' (row l i.toNat) 3).iv then at' (row l i.toNat) 3 else vInt .i64 (maxI 3 (l.rows.take i.toNat)) := by
 have h1 := maxI_succ (j := 3) h0 hi
 have t1 := typ_i0 (hT.cell (j := 3) h0 hi rfl)
 rw [cell_at] at t1
 rw [h1]
 generalize at' (row l i.toNat) 3 = r at t1 ⊢
 generalize maxI 3 (l.rows.take i.toNat) = m
 split
 ·rw [show max m r.iv = r.iv by omega]
  exact t1.symm
 ·rw [show max m r.iv = m by omega]
theorem r3_min {l : CD} {i : Int} (h : okA l = true) (h0 : 0 ≤ i) (hi : i < l.len) : (at' (row l i.toNat) 3).iv = max 0 (min (at' (row l i.toNat) 3).iv 1073741824) := by
 obtain ⟨_, _, _, _, h1, h2, _⟩ := okA_row h h0 hi
 omega
def amost (R : List (List CD)) (m a : Int) : Bool := (R.take a.toNat).all fun r => decide ((at' r 0).iv ≤ m)
theorem amost_fold {R : List (List CD)} {m a : Int} : ((R.take a.toNat).all fun r => decide ((at' r 0).iv ≤ m)) = amost R m a := rfl
theorem amost_z {R : List (List CD)} {f : List CD → Bool} : (R.take 0).all f = true := by rw [List.take_zero]; rfl
theorem lenM {R : List (List CD)} (h : R.length ≤ 1073741825) : ((mkz R).len : Int) = R.length := by
 have h1 : (mkz R).len = min R.length maxN := rfl
 have : (1073741825 : Nat) ≤ maxN := by decide
 omega
theorem lenM2 {R : List (List CD)} (h : R.length ≤ 1073741825) : ((mkz R).len : Int) = min R.length 1073741825 := by
 rw [lenM h]
 omega
theorem amost_R {R : List (List CD)} {m a : Int} (hR : R.length ≤ 1073741825) (h0 : 0 ≤ a) (h : a < (mkz R).len) : amost R m (a + 1) = (amost R m a && decide ((at' (row (mkz R) a.toNat) 0).iv ≤ m)) := by
 rw [lenM hR] at h
 exact all_succN h0 h
theorem amost_succ {p : Nat → Bool} {m a : Int} (h0 : 0 ≤ a) (h : a < (mkz (opsS p)).len) : amost (opsS p) m (a + 1) = (amost (opsS p) m a && decide ((at' (row (mkz (opsS p)) a.toNat) 0).iv ≤ m)) := amost_R opsS_len h0 h
theorem hds_R {f : Int → Int} {R : List (List CD)} {a : Int} (h0 : 0 ≤ a) (h : a < (mkz R).len) : hdsR f (R.take (a + 1).toNat) = hdsR f (R.take a.toNat) ++ if 0 ≤ f (at' (row (mkz R) a.toNat) 0).iv then [[at' (row (mkz R) a.toNat) 0, vInt .i64 (f (at' (row (mkz R) a.toNat) 0).iv)]] else [] := hds_succ (ops := mkz R) h0 h
theorem hds_next {f : Int → Int} {p : Nat → Bool} {a : Int} (h0 : 0 ≤ a) (h : a < (mkz (opsS p)).len) : hdsR f ((opsS p).take (a + 1).toNat) = hdsR f ((opsS p).take a.toNat) ++ if 0 ≤ f (at' (row (mkz (opsS p)) a.toNat) 0).iv then [[at' (row (mkz (opsS p)) a.toNat) 0, vInt .i64 (f (at' (row (mkz (opsS p)) a.toNat) 0).iv)]] else [] := hds_R h0 h
theorem hds_0 {f : Int → Int} {R : List (List CD)} : hdsR f (R.take 0) = [] := by rw [List.take_zero]; rfl
theorem heads_R {l : CD} {R : List (List CD)} {a : Int} (hR : R = opsS (opP l.rows)) (hl : R.length ≤ 1073741825) (hA : okA l = true) (h0 : 0 ≤ a) (ha : a ≤ (mkz R).len) (hm : amost R (endOp l) a = true) (hg : ¬ a < (mkz R).len ∨ ¬ (at' (row (mkz R) a.toNat) 0).iv ≤ endOp l) : hdsR (view l) (R.take a.toNat) = heads l :=
 heads_at (ops := mkz R) hR h0 ha (by have h1 := lenM hl; rw [mkz_rows]; omega) (end_le hA).1 (end_le hA).2 hm hg
theorem heads_M {l : CD} {a : Int} (hA : okA l = true) (h0 : 0 ≤ a) (ha : a ≤ (mkz (opsS (opP l.rows))).len) (hm : amost (opsS (opP l.rows)) (endOp l) a = true) (hg : ¬ a < (mkz (opsS (opP l.rows))).len ∨ ¬ (at' (row (mkz (opsS (opP l.rows))) a.toNat) 0).iv ≤ endOp l) : hdsR (view l) ((opsS (opP l.rows)).take a.toNat) = heads l :=
 heads_R rfl opsS_len hA h0 ha hm hg
theorem cell_typ1 {d : CD} {i : Int} (hT : Typ (.sl [sI]) d) (h0 : 0 ≤ i) (hi : i < d.len) : Typ sI (at' (row d i.toNat) 0) := hT.cell (j := 0) h0 hi rfl
theorem eqC_ckV {b : Bool} : eqC (vInt .i64 (if b = true then 0 else 2)) (vInt .i64 0) = b := by cases b <;> rfl
theorem mkz_nil : mkz [] = CD.sl true [] := rfl
theorem lenM3 {R : List (List CD)} (h : R.length ≤ 1073741825) : (mkz R).len = min R.length 1073741825 := by
 have := lenM2 h
 omega
theorem ops_lenN {p : Nat → Bool} : (mkz (opsS p)).len = min (opsS p).length 1073741825 := lenM3 opsS_len
abbrev r33_h0 : List X := [(.ap .le [mnX, (.ap (.usr 123) [(.var 0), (.var 1)])]), (.ap .le [(.ap (.usr 123) [(.var 0), (.var 1)]), mxX]), (.ap (.typ sVotes) [(.var 0)]), (.ap .le [mnX, (.var 1)]), (.ap .le [(.var 1), mxX]), (.ap .le [(.ap .len [(.var 0)]), (I 10)]), (.ap .not [(.ap (.usr 119) [(.var 0)])])]
abbrev r33_h1 : List X := (.ap .le [mnX, (.ap (.usr 113) [(.var 1)])]) :: (.ap .le [(.ap (.usr 113) [(.var 1)]), mxX]) :: (.ap .le [mnX, (.ap (.usr 111) [(.var 1)])]) :: (.ap .le [(.ap (.usr 111) [(.var 1)]), mxX]) :: (.ap .eq [(.ap (.usr 123) [(.var 0), (.var 1)]), (I 0)]) :: r33_h0
abbrev r33_h2 : List X := (.ap .le [(I 0), (.var 2)]) :: (.ap .le [(.var 2), (.ap .len [(.var 0)])]) :: (.ap .le [(I 0), (.var 3)]) :: (.ap .le [(.var 3), (I 1073741824)]) :: (.ap .same [(.var 3), (.ap (.usr 143) [(.var 0), (.var 2)])]) :: (.ap (.usr 160) [(.var 0)]) :: (.ap .not [(.ap .lt [(.ap .len [(.var 0)]), (.ap (.usr 113) [(.var 1)])])]) :: r33_h1
abbrev r33_h3 : List X := (.ap .le [mnX, (.ap .ite [(.ap (.usr 162) [(.var 0), (.ap (.usr 113) [(.var 1)])]), (I 0), (.ap (.usr 163) [(.var 0)])])]) :: (.ap .le [(.ap .ite [(.ap (.usr 162) [(.var 0), (.ap (.usr 113) [(.var 1)])]), (I 0), (.ap (.usr 163) [(.var 0)])]), mxX]) :: (.ap .same [(.var 3), (.ap (.usr 142) [(.var 0)])]) :: (.ap .not [(.ap .lt [(.var 2), (.ap .len [(.var 0)])])]) :: r33_h2
abbrev r33_h4 : List X := (.ap (.typ (.sl [sI])) [(.ap (.usr 164) [(.var 0)])]) :: (.ap (.typ sVotes) [(.ap (.usr 154) [(.var 0)])]) :: (.ap .not [(.ap (.usr 162) [(.var 0), (.ap (.usr 113) [(.var 1)])])]) :: r33_h3
abbrev r33_h5 : List X := (.ap .le [(I 0), (.var 4)]) :: (.ap .le [(.var 4), (.ap .len [(.ap (.usr 164) [(.var 0)])])]) :: (.ap .le [(I 0), (.var 5)]) :: (.ap .le [(.var 5), (.var 4)]) :: (.ap .le [(.var 5), (.ap .rlen [(.var 6)])]) :: (.ap .le [(.ap .rlen [(.var 6)]), (.var 5)]) :: (.ap .same [(.ap (.mk true) [(.var 6)]), (.ap (.usr 167) [(.var 0), (.ap (.usr 164) [(.var 0)]), (.var 4)])]) :: (.ap (.usr 168) [(.ap (.usr 164) [(.var 0)]), (.ap .ite [(.ap (.usr 162) [(.var 0), (.ap (.usr 113) [(.var 1)])]), (I 0), (.ap (.usr 163) [(.var 0)])]), (.var 4)]) :: (.ap (.usr 160) [(.ap (.usr 154) [(.var 0)])]) :: (.ap .le [(.ap .len [(.ap (.usr 164) [(.var 0)])]), (I 1073741825)]) :: r33_h4
abbrev r33_h6 : List X := (.ap .le [mnX, (.ap (.usr 156) [(.ap (.usr 154) [(.var 0)]), (.ap (.cell 0) [(.ap (.usr 164) [(.var 0)]), (.var 4)])])]) :: (.ap .le [(.ap (.usr 156) [(.ap (.usr 154) [(.var 0)]), (.ap (.cell 0) [(.ap (.usr 164) [(.var 0)]), (.var 4)])]), mxX]) :: (.ap (.typ sI) [(.ap (.cell 0) [(.ap (.usr 164) [(.var 0)]), (.var 4)])]) :: (.ap .le [(.ap (.cell 0) [(.ap (.usr 164) [(.var 0)]), (.var 4)]), (.ap .ite [(.ap (.usr 162) [(.var 0), (.ap (.usr 113) [(.var 1)])]), (I 0), (.ap (.usr 163) [(.var 0)])])]) :: (.ap .lt [(.var 4), (.ap .len [(.ap (.usr 164) [(.var 0)])])]) :: r33_h5
def r33_v : List VC := [(((.ap .not [(.ap .lt [(.ap .len [(.var 0)]), (.ap (.usr 113) [(.var 1)])])]) :: r33_h1), (.ap (.usr 160) [(.var 0)])),
 (((.ap (.usr 160) [(.var 0)]) :: (.ap .not [(.ap .lt [(.ap .len [(.var 0)]), (.ap (.usr 113) [(.var 1)])])]) :: r33_h1), (.ap .same [(I 0), (.ap (.usr 143) [(.var 0), (I 0)])])),
 (((.ap .lt [(.var 2), (.ap .len [(.var 0)])]) :: r33_h2), (.ap .le [(I 0), (.ap .ite [(.ap .lt [(.var 3), (.ap (.cell 3) [(.var 0), (.var 2)])]), (.ap (.cell 3) [(.var 0), (.var 2)]), (.var 3)])])),
 (((.ap .lt [(.var 2), (.ap .len [(.var 0)])]) :: r33_h2), (.ap .le [(.ap .ite [(.ap .lt [(.var 3), (.ap (.cell 3) [(.var 0), (.var 2)])]), (.ap (.cell 3) [(.var 0), (.var 2)]), (.var 3)]), (I 1073741824)])),
 (((.ap .lt [(.var 2), (.ap .len [(.var 0)])]) :: r33_h2), (.ap .same [(.ap .ite [(.ap .lt [(.var 3), (.ap (.cell 3) [(.var 0), (.var 2)])]), (.ap (.cell 3) [(.var 0), (.var 2)]), (.var 3)]), (.ap (.usr 143) [(.var 0), (.ap (.add .i64) [(.var 2), (I 1)])])])),
 (((.ap .not [(.ap .lt [(.var 2), (.ap .len [(.var 0)])])]) :: r33_h2), (.ap .same [(.var 3), (.ap (.usr 142) [(.var 0)])])),
 (r33_h4, (.ap (.usr 160) [(.ap (.usr 154) [(.var 0)])])),
 (r33_h4, (.ap .le [(.ap .len [(.ap (.usr 164) [(.var 0)])]), (I 1073741825)])),
 (((.ap (.usr 160) [(.ap (.usr 154) [(.var 0)])]) :: (.ap .le [(.ap .len [(.ap (.usr 164) [(.var 0)])]), (I 1073741825)]) :: r33_h4), (.ap .le [(I 0), (.ap .rlen [(.ap (.nil true) [])])])),
 (((.ap (.usr 160) [(.ap (.usr 154) [(.var 0)])]) :: (.ap .le [(.ap .len [(.ap (.usr 164) [(.var 0)])]), (I 1073741825)]) :: r33_h4), (.ap .le [(.ap .rlen [(.ap (.nil true) [])]), (I 0)])),
 (((.ap (.usr 160) [(.ap (.usr 154) [(.var 0)])]) :: (.ap .le [(.ap .len [(.ap (.usr 164) [(.var 0)])]), (I 1073741825)]) :: r33_h4), (.ap .same [(.ap (.mk true) [(.ap (.nil true) [])]), (.ap (.usr 167) [(.var 0), (.ap (.usr 164) [(.var 0)]), (I 0)])])),
 (((.ap (.usr 160) [(.ap (.usr 154) [(.var 0)])]) :: (.ap .le [(.ap .len [(.ap (.usr 164) [(.var 0)])]), (I 1073741825)]) :: r33_h4), (.ap (.usr 168) [(.ap (.usr 164) [(.var 0)]), (.ap .ite [(.ap (.usr 162) [(.var 0), (.ap (.usr 113) [(.var 1)])]), (I 0), (.ap (.usr 163) [(.var 0)])]), (I 0)])),
 (((.ap .le [(.ap (.cell 0) [(.ap (.usr 164) [(.var 0)]), (.var 4)]), (.ap .ite [(.ap (.usr 162) [(.var 0), (.ap (.usr 113) [(.var 1)])]), (I 0), (.ap (.usr 163) [(.var 0)])])]) :: (.ap .lt [(.var 4), (.ap .len [(.ap (.usr 164) [(.var 0)])])]) :: r33_h5), (.ap (.typ sI) [(.ap (.cell 0) [(.ap (.usr 164) [(.var 0)]), (.var 4)])])),
 (((.ap .le [(I 0), (.ap (.usr 156) [(.ap (.usr 154) [(.var 0)]), (.ap (.cell 0) [(.ap (.usr 164) [(.var 0)]), (.var 4)])])]) :: r33_h6), (.ap .le [(.ap (.add .i64) [(.var 5), (I 1)]), (.ap .rlen [(.ap .cat [(.var 6), (.ap .snoc [(.ap (.nil false) []), (.ap (.cell 0) [(.ap (.usr 164) [(.var 0)]), (.var 4)]), (.ap (.usr 156) [(.ap (.usr 154) [(.var 0)]), (.ap (.cell 0) [(.ap (.usr 164) [(.var 0)]), (.var 4)])])])])])])),
 (((.ap .le [(I 0), (.ap (.usr 156) [(.ap (.usr 154) [(.var 0)]), (.ap (.cell 0) [(.ap (.usr 164) [(.var 0)]), (.var 4)])])]) :: r33_h6), (.ap .le [(.ap .rlen [(.ap .cat [(.var 6), (.ap .snoc [(.ap (.nil false) []), (.ap (.cell 0) [(.ap (.usr 164) [(.var 0)]), (.var 4)]), (.ap (.usr 156) [(.ap (.usr 154) [(.var 0)]), (.ap (.cell 0) [(.ap (.usr 164) [(.var 0)]), (.var 4)])])])])]), (.ap (.add .i64) [(.var 5), (I 1)])])),
 (((.ap .le [(I 0), (.ap (.usr 156) [(.ap (.usr 154) [(.var 0)]), (.ap (.cell 0) [(.ap (.usr 164) [(.var 0)]), (.var 4)])])]) :: r33_h6), (.ap .same [(.ap (.mk true) [(.ap .cat [(.var 6), (.ap .snoc [(.ap (.nil false) []), (.ap (.cell 0) [(.ap (.usr 164) [(.var 0)]), (.var 4)]), (.ap (.usr 156) [(.ap (.usr 154) [(.var 0)]), (.ap (.cell 0) [(.ap (.usr 164) [(.var 0)]), (.var 4)])])])])]), (.ap (.usr 167) [(.var 0), (.ap (.usr 164) [(.var 0)]), (.ap (.add .i64) [(.var 4), (I 1)])])])),
 (((.ap .le [(I 0), (.ap (.usr 156) [(.ap (.usr 154) [(.var 0)]), (.ap (.cell 0) [(.ap (.usr 164) [(.var 0)]), (.var 4)])])]) :: r33_h6), (.ap (.usr 168) [(.ap (.usr 164) [(.var 0)]), (.ap .ite [(.ap (.usr 162) [(.var 0), (.ap (.usr 113) [(.var 1)])]), (I 0), (.ap (.usr 163) [(.var 0)])]), (.ap (.add .i64) [(.var 4), (I 1)])])),
 (((.ap .not [(.ap .le [(I 0), (.ap (.usr 156) [(.ap (.usr 154) [(.var 0)]), (.ap (.cell 0) [(.ap (.usr 164) [(.var 0)]), (.var 4)])])])]) :: r33_h6), (.ap .same [(.ap (.mk true) [(.var 6)]), (.ap (.usr 167) [(.var 0), (.ap (.usr 164) [(.var 0)]), (.ap (.add .i64) [(.var 4), (I 1)])])])),
 (((.ap .not [(.ap .le [(I 0), (.ap (.usr 156) [(.ap (.usr 154) [(.var 0)]), (.ap (.cell 0) [(.ap (.usr 164) [(.var 0)]), (.var 4)])])])]) :: r33_h6), (.ap (.usr 168) [(.ap (.usr 164) [(.var 0)]), (.ap .ite [(.ap (.usr 162) [(.var 0), (.ap (.usr 113) [(.var 1)])]), (I 0), (.ap (.usr 163) [(.var 0)])]), (.ap (.add .i64) [(.var 4), (I 1)])]))]
def r33_o : List (List X × List (List X)) := [(((.ap .not [(.ap .eq [(.ap (.usr 123) [(.var 0), (.var 1)]), (I 0)])]) :: r33_h0), [[(I 0), (I 0), (.ap (.nil true) [])], [(.ap (.usr 123) [(.var 0), (.var 1)])]]),
 (((.ap .lt [(.ap .len [(.var 0)]), (.ap (.usr 113) [(.var 1)])]) :: r33_h1), [[(I 0), (I 0), (.ap (.nil true) [])], [(I 10)]]),
 (((.ap .not [(.ap .not [(.ap (.usr 162) [(.var 0), (.ap (.usr 113) [(.var 1)])])])]) :: r33_h3), [[(I 0), (I 0), (.ap (.nil true) [])], [(I 14)]]),
 (((.ap .not [(.ap .le [(.ap (.cell 0) [(.ap (.usr 164) [(.var 0)]), (.var 4)]), (.ap .ite [(.ap (.usr 162) [(.var 0), (.ap (.usr 113) [(.var 1)])]), (I 0), (.ap (.usr 163) [(.var 0)])])])]) :: (.ap .lt [(.var 4), (.ap .len [(.ap (.usr 164) [(.var 0)])])]) :: r33_h5), [[(.ap .ite [(.ap (.usr 162) [(.var 0), (.ap (.usr 113) [(.var 1)])]), (I 0), (.ap (.usr 163) [(.var 0)])]), (.var 3), (.ap (.mk true) [(.var 6)])], [(I 0)]]),
 (((.ap .not [(.ap .lt [(.var 4), (.ap .len [(.ap (.usr 164) [(.var 0)])])])]) :: r33_h5), [[(.ap .ite [(.ap (.usr 162) [(.var 0), (.ap (.usr 113) [(.var 1)])]), (I 0), (.ap (.usr 163) [(.var 0)])]), (.var 3), (.ap (.mk true) [(.var 6)])], [(I 0)]])]
theorem r33_eq : runS Try.prog (specO (tab T6)) 10 12 ⟨hintL [(9, lp33a), (19, lp33b)], hintA [(8, fun F H => [.ap (.usr 160) [.var 0]]), (12, fun F H => [.ap .same [cellX F H 9 1, .ap (.usr 142) [.var 0]]]), (18, fun F H => [.ap (.usr 160) [sx F 13], .ap .le [.ap .len [sx F 14], bigI]]), (21, fun F H => [.ap (.typ sI) [.ap (.cell 0) [sx F 14, sx F 15]]])]⟩ Try.f33 (bodyOf Try.f33) SCho = some (r33_v, r33_o) := by kernel_rfl
set_option maxHeartbeats 4000000 in
set_option maxRecDepth 100000 in
theorem c33 : SpecOK U Try.prog 33 SCho := by
 refine SpecOK.of (P := Try.prog) (U := U) (T := (tab T6)) (f := 33) (fn := Try.f33) (fuel := 10) (fk := 12) (hs := ⟨hintL [(9, lp33a), (19, lp33b)], hintA [(8, fun F H => [.ap (.usr 160) [.var 0]]), (12, fun F H => [.ap .same [cellX F H 9 1, .ap (.usr 142) [.var 0]]]), (18, fun F H => [.ap (.usr 160) [sx F 13], .ap .le [.ap .len [sx F 14], bigI]]), (21, fun F H => [.ap (.typ sI) [.ap (.cell 0) [sx F 14, sx F 15]]])]⟩) (S := SCho) (v := r33_v) (outs := r33_o) mixed hT6 at33 r33_eq ?_ ?_
 ·unfold r33_v
  repeat' (first | exact vcs_nil _ | refine vcs_cons (fun v hh => ?_) ?_)
  all_goals
   simp only [w_var, w_lit, w_ivi, w_bvb, w_add, b_lt, b_le, b_eq, b_not, b_typ, b_same, w_ite, w_len, w_cell, w_nil, w_mk, w_snoc, w_cat, w_usr, w_l0, w_l1, w_vint, w_vbool, w_tru, w_holds0, w_holds1, w_rows, w_nilb, w_rlen, us111, us113, us119, us123, us142, us143, us150, us151, us152, us153, us154, us156, us160, us162, us163, us164, us167, us168, mnX, mxX, cell_at, l1_inj, vInt_inj, mkz_fold, mkz_eq, mkz_rows, vInt_iv, view_fold, tn0, maxI_z, vi_lit, vb_lit, eqC_ckV, amost_z, amost_fold, hds_0, r33_h0, r33_h1, r33_h2, r33_h3, r33_h4, r33_h5, r33_h6] at hh ⊢
   repeat (obtain ⟨_, hh⟩ := hh)
   try (first | grind [take_allT, → okA_vs, okA_mkz, com_fold, max3_next, = r3_min, = ops_lenN, mkz_nil, amost_succ, hds_next, heads_M, cell_typ1, errOf, waits, = w_vint])
 ·intro o ho σ hU hh
  obtain ⟨v⟩ := σ
  cases hU
  simp only [r33_o, List.mem_cons, List.not_mem_nil, or_false] at ho
  repeat' (first | (rcases ho with rfl | ho) | subst ho)
  all_goals
   refine ⟨_, List.mem_cons_self .., by simp only [w_var, w_lit, w_ivi, w_bvb, w_add, b_lt, b_le, b_eq, b_not, b_typ, b_same, w_ite, w_len, w_cell, w_nil, w_mk, w_snoc, w_cat, w_usr, w_l0, w_l1, w_vint, w_vbool, w_tru, w_holds0, w_holds1, w_rows, w_nilb, w_rlen], ?_⟩
   simp only [w_var, w_lit, w_ivi, w_bvb, w_add, b_lt, b_le, b_eq, b_not, b_typ, b_same, w_ite, w_len, w_cell, w_nil, w_mk, w_snoc, w_cat, w_usr, w_l0, w_l1, w_vint, w_vbool, w_tru, w_holds0, w_holds1, w_rows, w_nilb, w_rlen, us111, us113, us119, us123, us142, us143, us150, us151, us152, us153, us154, us156, us160, us162, us163, us164, us167, us168, mnX, mxX, cell_at, l1_inj, vInt_inj, mkz_fold, mkz_eq, mkz_rows, vInt_iv, view_fold, tn0, maxI_z, vi_lit, vb_lit, eqC_ckV, amost_z, amost_fold, hds_0, r33_h0, r33_h1, r33_h2, r33_h3, r33_h4, r33_h5, r33_h6] at hh
   simp only [List.map_cons, List.map_nil, w_var, w_lit, w_ivi, w_bvb, w_add, b_lt, b_le, b_eq, b_not, b_typ, b_same, w_ite, w_len, w_cell, w_nil, w_mk, w_snoc, w_cat, w_usr, w_l0, w_l1, w_vint, w_vbool, w_tru, w_holds0, w_holds1, w_rows, w_nilb, w_rlen, w_lt, w_le, w_eq, w_not, w_same, w_typ, us111, us113, us119, us123, us142, us143, us150, us151, us152, us153, us154, us156, us160, us162, us163, us164, us167, us168, mnX, mxX, cell_at, l1_inj, vInt_inj, mkz_fold, mkz_eq, mkz_rows, vInt_iv, view_fold, tn0, maxI_z, vi_lit, vb_lit, eqC_ckV, amost_z, amost_fold, hds_0]
   repeat (obtain ⟨_, hh⟩ := hh)
   try (first | grind [take_allT, → okA_vs, okA_mkz, com_fold, max3_next, = r3_min, = ops_lenN, mkz_nil, amost_succ, hds_next, heads_M, cell_typ1, errOf, waits, = w_vint])
end Go.Proofs.Ytlbbkmcegbeckaa.Cn
