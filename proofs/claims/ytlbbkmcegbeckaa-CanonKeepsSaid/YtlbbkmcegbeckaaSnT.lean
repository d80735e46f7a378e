/-
  Contracts of a chapter's functions: have enough replicas taken in some prepares? Conditions: none.
  Contracts of a chapter's functions: what enough have taken in is kept. Conditions: none.
  Arguments that are structs and slices of integers and bools, nested: what they read as. Conditions: none; nothing here speaks of one program.
  What is handed on alone reads behind the call as it read before. Conditions: none; nothing here speaks of one program.
  'CanonKeepsSaid': for every input exchequerlaw27.CanonKeeps returns true; the input reads as it did. Conditions: none but the given ones.
-/
import Derived.Test.YtlbbkmcegbeckaaSnO
import Derived.Test.YtlbbkmcegbeckaaSzS
import Derived.ChangeFn
import Derived.WideFn
import Derived.ChangeSame
import Derived.RowKit3
import Derived.ChangeReads
import Derived.ChangeOld
import Derived.ReadAgain
import Derived.WalkKit
import Derived.ProofKit
import Derived.OpenShut
set_option linter.unusedSectionVars false
set_option linter.unusedVariables false
set_option linter.unusedSimpArgs false
namespace Go.Proofs.Ytlbbkmcegbeckaa.Cn
open Go.Sx Go.Proofs
theorem bitC_fold {s i : Int} : orV (binInt .and .i64 (orV (shfInt .shr .i64 s i)).iv 1) = bitC s i := rfl
theorem bit_eq {s i : Int} : (bitC s i).iv = max 0 (min (bitC s i).iv 1) := by rcases bit01 s i with h | h <;> omega
theorem pop_succ {s i : Int} (h0 : 0 ≤ i) : popE s (i + 1).toNat = popE s i.toNat + (bitC s i).iv := by
 rw [show (i + 1).toNat = i.toNat + 1 by omega]
 show popE s i.toNat + (bitC s (i.toNat : Nat)).iv = _
 rw [Int.toNat_of_nonneg h0]
theorem eqC_ckW {b : Bool} : eqC (vInt .i64 (if b = true then 0 else 2)) (vInt .i64 0) = b := by cases b <;> rfl
theorem pop_z {s : Int} : popE s 0 = 0 := rfl
theorem fltE_v (es : List (List CD)) (op : CD) : fltE es op = (isE es op && eqC (entE es op 2) (vInt .i64 3)) := rfl
theorem badA_v (set : Int) (v : List CD) (op w : CD) : badA set v op w = (eqC (bitC set (at' v 0).iv) (vInt .i64 1) && !fltE (at' v 4).rows op && (!isE (at' v 4).rows op || (!eqC (entE (at' v 4).rows op 2) (vInt .i64 1) && !eqC (entE (at' v 4).rows op 2) (vInt .i64 4)) || !eqC (entE (at' v 4).rows op 1) w)) := rfl
theorem badB_v (ld : CD) (v : List CD) (op w : CD) : badB ld v op w = (eqC (at' v 1) ld && isE (at' v 4).rows op && !fltE (at' v 4).rows op && !eqC (entE (at' v 4).rows op 1) w) := rfl
theorem okN_vs {l n : CD} (h : okVs l n = true) : 3 ≤ n.iv ∧ n.iv ≤ 7 := by
 unfold okVs at h
 rw [Bool.and_eq_true] at h
 exact okN_le h.1
theorem rep_0 {l n : CD} {i : Int} (h : okVs l n = true) (h0 : 0 ≤ i) (hi : i < l.len) : 0 ≤ (at' (row l i.toNat) 0).iv := by
 exact (okV_all (okA_mem (okA_of h) (row_mem h0 hi))).1
theorem okK_at {set first k : Int} {ld views : CD} {v : List CD} (h0 : 0 ≤ k) : okK set ld first views v k.toNat = (!badA set v (vInt .i64 (first + k)) (at' (row views k.toNat) 0) && !badB ld v (vInt .i64 (first + k)) (at' (row views k.toNat) 0)) := by
 unfold okK
 rw [Int.toNat_of_nonneg h0]
 rfl
theorem okK_next {set first k : Int} {ld views : CD} {v : List CD} (h : ((List.range k.toNat).all (okK set ld first views v)) = true) (h0 : 0 ≤ k) (ha : badA set v (vInt .i64 (first + k)) (at' (row views k.toNat) 0) = false) (hb : badB ld v (vInt .i64 (first + k)) (at' (row views k.toNat) 0) = false) : ((List.range (k + 1).toNat).all (okK set ld first views v)) = true := by
 rw [range_all_succ h0, h, okK_at h0, ha, hb]
 rfl
theorem okTk_end {l views ld : CD} {set first i k : Int} (h : ((l.rows.take i.toNat).all (okTk set ld first views)) = true) (hk : ((List.range k.toNat).all (okK set ld first views (row l i.toNat))) = true) (hV : Typ (.sl [sI]) views) (h0 : 0 ≤ i) (hi : i < l.len) (k0 : 0 ≤ k) (kl : k ≤ views.len) (ke : ¬ k < views.len) (hc : ¬ eqC (at' (row l i.toNat) 1) ld = true ∨ ¬ (at' (row l i.toNat) 2).iv < first + views.len - 1) : ((l.rows.take (i + 1).toNat).all (okTk set ld first views)) = true := by
 rw [all_succ h0 hi, h, Bool.true_and]
 unfold okTk
 have hl := hV.sl.1
 rw [show views.rows.length = k.toNat by omega, hk, Bool.and_true, Bool.not_eq_true', Bool.and_eq_false_iff]
 rcases hc with hc | hc
 ·exact .inl (by simpa using hc)
 ·exact .inr (decide_eq_false hc)
theorem taken_no {l views : CD} {n set first i : Int} (h0 : 0 ≤ i) (hi : i < l.len) (h : okTk set (vInt .i64 (lead l)) first views (row l i.toNat) = false) : takenE l n set first views = false := by
 unfold takenE
 rw [Bool.and_eq_false_iff]
 right
 rw [Bool.eq_false_iff]
 intro hh
 have := List.all_eq_true.1 hh _ (row_mem h0 hi)
 rw [show okTk set (i0 (lead l)) first views (row l i.toNat) = false from h] at this
 cases this
theorem taken_a {l views : CD} {n set first i : Int} (h1 : eqC (at' (row l i.toNat) 1) (vInt .i64 (lead l)) = true) (h2 : (at' (row l i.toNat) 2).iv < first + views.len - 1) (h0 : 0 ≤ i) (hi : i < l.len) : takenE l n set first views = false := by
 refine taken_no h0 hi ?_
 unfold okTk
 rw [h1, decide_eq_true h2]
 rfl
theorem taken_k {l views : CD} {n set first i k : Int} (hr : (List.range k.toNat).all (okK set (vInt .i64 (lead l)) first views (row l i.toNat)) = true) (hV : Typ (.sl [sI]) views) (h0 : 0 ≤ i) (hi : i < l.len) (k0 : 0 ≤ k) (hk : k < views.len) (h : badA set (row l i.toNat) (vInt .i64 (first + k)) (at' (row views k.toNat) 0) = true ∨ badB (vInt .i64 (lead l)) (row l i.toNat) (vInt .i64 (first + k)) (at' (row views k.toNat) 0) = true) : takenE l n set first views = false := by
 refine taken_no h0 hi ?_
 unfold okTk
 have hl := hV.sl.1
 rw [Bool.and_eq_false_iff]
 right
 rw [Bool.eq_false_iff]
 intro hh
 have := List.all_eq_true.1 hh k.toNat (List.mem_range.2 (by omega))
 rw [okK_at k0] at this
 rcases h with h | h <;> rw [h] at this <;> simp at this
theorem taken_p {l views : CD} {n set first : Int} (h : 2 * popE set n.toNat ≤ n) : takenE l n set first views = false := by
 unfold takenE
 rw [decide_eq_true h]
 rfl
theorem taken_y {l views : CD} {n set first i : Int} (hT : Typ sVotes l) (h : ((l.rows.take i.toNat).all (okTk set (vInt .i64 (lead l)) first views)) = true) (hi : ¬ i < l.len) (hp : ¬ 2 * popE set n.toNat ≤ n) : takenE l n set first views = true := by
 unfold takenE
 rw [decide_eq_false hp]
 rw [take_allT hT hi] at h
 rw [show l.rows.all (okTk set (i0 (lead l)) first views) = true from h]
 rfl
theorem taken_p' {l views p : CD} {n set first i : Int} (hv : p = vInt .i64 (popE set i.toNat)) (h : 2 * p.iv ≤ n) (hi : ¬ i < n) (hle : i ≤ n) : takenE l n set first views = false := by
 have : i = n := by omega
 subst this
 rw [hv, w_vint] at h
 exact taken_p h
theorem taken_y' {l views p : CD} {n set first i j : Int} (hv : p = vInt .i64 (popE set j.toNat)) (h : ((l.rows.take i.toNat).all (okTk set (vInt .i64 (lead l)) first views)) = true) (hT : Typ sVotes l) (hi : ¬ i < l.len) (hp : ¬ 2 * p.iv ≤ n) (hj : ¬ j < n) (hle : j ≤ n) : takenE l n set first views = true := by
 have : j = n := by omega
 subst this
 rw [hv, w_vint] at hp
 exact taken_y hT h hi hp
theorem all_z {R : List (List CD)} {f : List CD → Bool} : (R.take 0).all f = true := by rw [List.take_zero]; rfl
theorem rng_z {f : Nat → Bool} : (List.range 0).all f = true := rfl
noncomputable def T10 : List (FuncId × Fsp) := [(44, SMost), (94, SEntry)]
set_option maxRecDepth 100000 in
theorem hT10 : TabOK U Try.prog T10 := .cons c44 (.cons c94 .nil)
noncomputable def STaken : Fsp := ⟨[(false, [sVotes]), (false, [sI]), (false, [sI]), (false, [sI]), (false, [.sl [sI]])], [.ap .eq [.ap (.usr 123) [.var 0, .var 1], I 0], .ap .le [I 1, .var 3], .ap .le [.var 3, I 1073741825], .ap .le [.ap .len [.var 4], I 20]], [(false, [.bool])], [([], [[.ap (.usr 185) [.var 0, .var 1, .var 2, .var 3, .var 4]]])], true⟩
noncomputable def lp45a : Lp := ⟨[(.slot 11, .int .i64), (.slot 12, .int .i64)], [0, 1, 2, 3, 4], [], fun F H k => [.ap .le [zI, .var (k+1)], .ap .le [.var (k+1), .var 1], .ap .le [zI, .var k], .ap .le [.var k, .var (k+1)], .ap .same [.var k, .ap (.usr 181) [.var 2, .var (k+1)]]], fun F H k => .ap (.sub .i64) [.var 1, .var (k+1)]⟩
noncomputable def lp45b : Lp := ⟨[(.slot 15, .int .i64)], [0, 1, 2, 3, 4, 13], [], fun F H k => [.ap .le [zI, .var k], .ap .le [.var k, .ap .len [.var 0]], .ap (.usr 183) [.var 0, .var 2, sx F 13, .var 3, .var 4, .var k]], fun F H k => .ap (.sub .i64) [.ap .len [.var 0], .var k]⟩
noncomputable def lp45c : Lp := ⟨[(.slot 16, .int .i64)], [0, 1, 2, 3, 4, 13, 15], [], fun F H k => [.ap .le [zI, .var k], .ap .le [.var k, .ap .len [.var 4]], .ap (.usr 184) [.var 0, sx F 15, .var 2, sx F 13, .var 3, .var 4, .var k]], fun F H k => .ap (.sub .i64) [.ap .len [.var 4], .var k]⟩
noncomputable def bitX (i : X) : X := .ap (.bin .and .i64) [.ap (.shf .shr .i64) [.var 2, i], I 1]
abbrev r45_h0 : List X := [(.ap (.typ sVotes) [(.var 0)]), (.ap .le [mnX, (.var 1)]), (.ap .le [(.var 1), mxX]), (.ap .le [mnX, (.var 2)]), (.ap .le [(.var 2), mxX]), (.ap .le [mnX, (.var 3)]), (.ap .le [(.var 3), mxX]), (.ap (.typ (.sl [sI])) [(.var 4)]), (.ap .eq [(.ap (.usr 123) [(.var 0), (.var 1)]), (I 0)]), (.ap .le [(I 1), (.var 3)]), (.ap .le [(.var 3), (I 1073741825)]), (.ap .le [(.ap .len [(.var 4)]), (I 20)])]
abbrev r45_h1 : List X := (.ap .le [(I 0), (.var 6)]) :: (.ap .le [(.var 6), (.var 1)]) :: (.ap .le [(I 0), (.var 5)]) :: (.ap .le [(.var 5), (.var 6)]) :: (.ap .same [(.var 5), (.ap (.usr 181) [(.var 2), (.var 6)])]) :: (.ap .le [(I 3), (.var 1)]) :: (.ap .le [(.var 1), (I 7)]) :: r45_h0
abbrev r45_h2 : List X := (.ap .le [mnX, (.ap (.usr 140) [(.var 0)])]) :: (.ap .le [(.ap (.usr 140) [(.var 0)]), mxX]) :: (.ap .le [mnX, (.ap (.usr 142) [(.var 0)])]) :: (.ap .le [(.ap (.usr 142) [(.var 0)]), mxX]) :: (.ap .not [(.ap .le [(.ap (.mul .i64) [(I 2), (.var 5)]), (.var 1)])]) :: (.ap .not [(.ap .lt [(.var 6), (.var 1)])]) :: r45_h1
abbrev r45_h3 : List X := (.ap .le [(I 0), (.var 7)]) :: (.ap .le [(.var 7), (.ap .len [(.var 0)])]) :: (.ap (.usr 183) [(.var 0), (.var 2), (.ap (.usr 140) [(.var 0)]), (.var 3), (.var 4), (.var 7)]) :: r45_h2
abbrev r45_h4 : List X := (.ap .not [(.ap .lt [(.ap (.cell 2) [(.var 0), (.var 7)]), (.ap (.sub .i64) [(.ap (.add .i64) [(.var 3), (.ap .len [(.var 4)])]), (I 1)])])]) :: (.ap .eq [(.ap (.cell 1) [(.var 0), (.var 7)]), (.ap (.usr 140) [(.var 0)])]) :: (.ap .lt [(.var 7), (.ap .len [(.var 0)])]) :: r45_h3
abbrev r45_h5 : List X := (.ap .le [(I 0), (.var 8)]) :: (.ap .le [(.var 8), (.ap .len [(.var 4)])]) :: (.ap (.usr 184) [(.var 0), (.var 7), (.var 2), (.ap (.usr 140) [(.var 0)]), (.var 3), (.var 4), (.var 8)]) :: r45_h4
abbrev r45_h6 : List X := (.ap .le [mnX, (.ap (.usr 175) [(.ap (.cell 4) [(.var 0), (.var 7)]), (.ap (.add .i64) [(.var 3), (.var 8)])])]) :: (.ap .le [(.ap (.usr 175) [(.ap (.cell 4) [(.var 0), (.var 7)]), (.ap (.add .i64) [(.var 3), (.var 8)])]), mxX]) :: (.ap .le [mnX, (.ap (.usr 176) [(.ap (.cell 4) [(.var 0), (.var 7)]), (.ap (.add .i64) [(.var 3), (.var 8)])])]) :: (.ap .le [(.ap (.usr 176) [(.ap (.cell 4) [(.var 0), (.var 7)]), (.ap (.add .i64) [(.var 3), (.var 8)])]), mxX]) :: (.ap .le [mnX, (.ap (.usr 177) [(.ap (.cell 4) [(.var 0), (.var 7)]), (.ap (.add .i64) [(.var 3), (.var 8)])])]) :: (.ap .le [(.ap (.usr 177) [(.ap (.cell 4) [(.var 0), (.var 7)]), (.ap (.add .i64) [(.var 3), (.var 8)])]), mxX]) :: (.ap .lt [(.var 8), (.ap .len [(.var 4)])]) :: r45_h5
abbrev r45_h7 : List X := (.ap .eq [(.ap (.bin .and .i64) [(.ap (.shf .shr .i64) [(.var 2), (.ap (.cell 0) [(.var 0), (.var 7)])]), (I 1)]), (I 1)]) :: (.ap .le [(I 0), (.ap (.cell 0) [(.var 0), (.var 7)])]) :: (.ap (.usr 174) [(.ap (.cell 4) [(.var 0), (.var 7)]), (.ap (.add .i64) [(.var 3), (.var 8)])]) :: r45_h6
abbrev r45_h8 : List X := (.ap .eq [(.ap (.usr 177) [(.ap (.cell 4) [(.var 0), (.var 7)]), (.ap (.add .i64) [(.var 3), (.var 8)])]), (I 4)]) :: (.ap .not [(.ap .eq [(.ap (.usr 177) [(.ap (.cell 4) [(.var 0), (.var 7)]), (.ap (.add .i64) [(.var 3), (.var 8)])]), (I 1)])]) :: (.ap .not [(.ap .eq [(.ap (.usr 177) [(.ap (.cell 4) [(.var 0), (.var 7)]), (.ap (.add .i64) [(.var 3), (.var 8)])]), (I 3)])]) :: r45_h7
abbrev r45_h9 : List X := (.ap .not [(.ap .eq [(.ap (.bin .and .i64) [(.ap (.shf .shr .i64) [(.var 2), (.ap (.cell 0) [(.var 0), (.var 7)])]), (I 1)]), (I 1)])]) :: (.ap .le [(I 0), (.ap (.cell 0) [(.var 0), (.var 7)])]) :: (.ap (.usr 174) [(.ap (.cell 4) [(.var 0), (.var 7)]), (.ap (.add .i64) [(.var 3), (.var 8)])]) :: r45_h6
abbrev r45_h10 : List X := (.ap .le [(I 0), (.var 8)]) :: (.ap .le [(.var 8), (.ap .len [(.var 4)])]) :: (.ap (.usr 184) [(.var 0), (.var 7), (.var 2), (.ap (.usr 140) [(.var 0)]), (.var 3), (.var 4), (.var 8)]) :: (.ap .not [(.ap .eq [(.ap (.cell 1) [(.var 0), (.var 7)]), (.ap (.usr 140) [(.var 0)])])]) :: (.ap .lt [(.var 7), (.ap .len [(.var 0)])]) :: r45_h3
abbrev r45_h11 : List X := (.ap .le [mnX, (.ap (.usr 175) [(.ap (.cell 4) [(.var 0), (.var 7)]), (.ap (.add .i64) [(.var 3), (.var 8)])])]) :: (.ap .le [(.ap (.usr 175) [(.ap (.cell 4) [(.var 0), (.var 7)]), (.ap (.add .i64) [(.var 3), (.var 8)])]), mxX]) :: (.ap .le [mnX, (.ap (.usr 176) [(.ap (.cell 4) [(.var 0), (.var 7)]), (.ap (.add .i64) [(.var 3), (.var 8)])])]) :: (.ap .le [(.ap (.usr 176) [(.ap (.cell 4) [(.var 0), (.var 7)]), (.ap (.add .i64) [(.var 3), (.var 8)])]), mxX]) :: (.ap .le [mnX, (.ap (.usr 177) [(.ap (.cell 4) [(.var 0), (.var 7)]), (.ap (.add .i64) [(.var 3), (.var 8)])])]) :: (.ap .le [(.ap (.usr 177) [(.ap (.cell 4) [(.var 0), (.var 7)]), (.ap (.add .i64) [(.var 3), (.var 8)])]), mxX]) :: (.ap .lt [(.var 8), (.ap .len [(.var 4)])]) :: r45_h10
abbrev r45_h12 : List X := (.ap .eq [(.ap (.bin .and .i64) [(.ap (.shf .shr .i64) [(.var 2), (.ap (.cell 0) [(.var 0), (.var 7)])]), (I 1)]), (I 1)]) :: (.ap .le [(I 0), (.ap (.cell 0) [(.var 0), (.var 7)])]) :: (.ap (.usr 174) [(.ap (.cell 4) [(.var 0), (.var 7)]), (.ap (.add .i64) [(.var 3), (.var 8)])]) :: r45_h11
abbrev r45_h13 : List X := (.ap .eq [(.ap (.usr 177) [(.ap (.cell 4) [(.var 0), (.var 7)]), (.ap (.add .i64) [(.var 3), (.var 8)])]), (I 4)]) :: (.ap .not [(.ap .eq [(.ap (.usr 177) [(.ap (.cell 4) [(.var 0), (.var 7)]), (.ap (.add .i64) [(.var 3), (.var 8)])]), (I 1)])]) :: (.ap .not [(.ap .eq [(.ap (.usr 177) [(.ap (.cell 4) [(.var 0), (.var 7)]), (.ap (.add .i64) [(.var 3), (.var 8)])]), (I 3)])]) :: r45_h12
def r45_v : List VC := [(r45_h0, (.ap .le [(I 3), (.var 1)])),
 (r45_h0, (.ap .le [(.var 1), (I 7)])),
 (((.ap .le [(I 3), (.var 1)]) :: (.ap .le [(.var 1), (I 7)]) :: r45_h0), (.ap .same [(I 0), (.ap (.usr 181) [(.var 2), (I 0)])])),
 (((.ap .lt [(.var 6), (.var 1)]) :: r45_h1), (.ap .le [(I 0), (.ap (.bin .and .i64) [(.ap (.shf .shr .i64) [(.var 2), (.var 6)]), (I 1)])])),
 (((.ap .lt [(.var 6), (.var 1)]) :: r45_h1), (.ap .le [(.ap (.bin .and .i64) [(.ap (.shf .shr .i64) [(.var 2), (.var 6)]), (I 1)]), (I 1)])),
 (((.ap .le [(I 0), (.ap (.bin .and .i64) [(.ap (.shf .shr .i64) [(.var 2), (.var 6)]), (I 1)])]) :: (.ap .le [(.ap (.bin .and .i64) [(.ap (.shf .shr .i64) [(.var 2), (.var 6)]), (I 1)]), (I 1)]) :: (.ap .lt [(.var 6), (.var 1)]) :: r45_h1), (.ap .same [(.ap (.add .i64) [(.var 5), (.ap (.bin .and .i64) [(.ap (.shf .shr .i64) [(.var 2), (.var 6)]), (I 1)])]), (.ap (.usr 181) [(.var 2), (.ap (.add .i64) [(.var 6), (I 1)])])])),
 (r45_h2, (.ap (.usr 183) [(.var 0), (.var 2), (.ap (.usr 140) [(.var 0)]), (.var 3), (.var 4), (I 0)])),
 (r45_h4, (.ap (.usr 184) [(.var 0), (.var 7), (.var 2), (.ap (.usr 140) [(.var 0)]), (.var 3), (.var 4), (I 0)])),
 (((.ap (.usr 174) [(.ap (.cell 4) [(.var 0), (.var 7)]), (.ap (.add .i64) [(.var 3), (.var 8)])]) :: r45_h6), (.ap .le [(I 0), (.ap (.cell 0) [(.var 0), (.var 7)])])),
 (((.ap .not [(.ap (.usr 174) [(.ap (.cell 4) [(.var 0), (.var 7)]), (.ap (.add .i64) [(.var 3), (.var 8)])])]) :: r45_h6), (.ap .le [(I 0), (.ap (.cell 0) [(.var 0), (.var 7)])])),
 (((.ap .eq [(.ap (.usr 176) [(.ap (.cell 4) [(.var 0), (.var 7)]), (.ap (.add .i64) [(.var 3), (.var 8)])]), (.ap (.cell 0) [(.var 4), (.var 8)])]) :: r45_h8), (.ap (.usr 184) [(.var 0), (.var 7), (.var 2), (.ap (.usr 140) [(.var 0)]), (.var 3), (.var 4), (.ap (.add .i64) [(.var 8), (I 1)])])),
 (((.ap .eq [(.ap (.usr 176) [(.ap (.cell 4) [(.var 0), (.var 7)]), (.ap (.add .i64) [(.var 3), (.var 8)])]), (.ap (.cell 0) [(.var 4), (.var 8)])]) :: (.ap .eq [(.ap (.usr 177) [(.ap (.cell 4) [(.var 0), (.var 7)]), (.ap (.add .i64) [(.var 3), (.var 8)])]), (I 1)]) :: (.ap .not [(.ap .eq [(.ap (.usr 177) [(.ap (.cell 4) [(.var 0), (.var 7)]), (.ap (.add .i64) [(.var 3), (.var 8)])]), (I 3)])]) :: r45_h7), (.ap (.usr 184) [(.var 0), (.var 7), (.var 2), (.ap (.usr 140) [(.var 0)]), (.var 3), (.var 4), (.ap (.add .i64) [(.var 8), (I 1)])])),
 (((.ap .eq [(.ap (.usr 177) [(.ap (.cell 4) [(.var 0), (.var 7)]), (.ap (.add .i64) [(.var 3), (.var 8)])]), (I 3)]) :: r45_h7), (.ap (.usr 184) [(.var 0), (.var 7), (.var 2), (.ap (.usr 140) [(.var 0)]), (.var 3), (.var 4), (.ap (.add .i64) [(.var 8), (I 1)])])),
 (((.ap .eq [(.ap (.usr 176) [(.ap (.cell 4) [(.var 0), (.var 7)]), (.ap (.add .i64) [(.var 3), (.var 8)])]), (.ap (.cell 0) [(.var 4), (.var 8)])]) :: (.ap .not [(.ap .eq [(.ap (.usr 177) [(.ap (.cell 4) [(.var 0), (.var 7)]), (.ap (.add .i64) [(.var 3), (.var 8)])]), (I 3)])]) :: r45_h9), (.ap (.usr 184) [(.var 0), (.var 7), (.var 2), (.ap (.usr 140) [(.var 0)]), (.var 3), (.var 4), (.ap (.add .i64) [(.var 8), (I 1)])])),
 (((.ap .eq [(.ap (.usr 177) [(.ap (.cell 4) [(.var 0), (.var 7)]), (.ap (.add .i64) [(.var 3), (.var 8)])]), (I 3)]) :: r45_h9), (.ap (.usr 184) [(.var 0), (.var 7), (.var 2), (.ap (.usr 140) [(.var 0)]), (.var 3), (.var 4), (.ap (.add .i64) [(.var 8), (I 1)])])),
 (((.ap .not [(.ap .eq [(.ap (.bin .and .i64) [(.ap (.shf .shr .i64) [(.var 2), (.ap (.cell 0) [(.var 0), (.var 7)])]), (I 1)]), (I 1)])]) :: (.ap .le [(I 0), (.ap (.cell 0) [(.var 0), (.var 7)])]) :: (.ap .not [(.ap (.usr 174) [(.ap (.cell 4) [(.var 0), (.var 7)]), (.ap (.add .i64) [(.var 3), (.var 8)])])]) :: r45_h6), (.ap (.usr 184) [(.var 0), (.var 7), (.var 2), (.ap (.usr 140) [(.var 0)]), (.var 3), (.var 4), (.ap (.add .i64) [(.var 8), (I 1)])])),
 (((.ap .not [(.ap .eq [(.ap (.cell 1) [(.var 0), (.var 7)]), (.ap (.usr 140) [(.var 0)])])]) :: (.ap .lt [(.var 7), (.ap .len [(.var 0)])]) :: r45_h3), (.ap (.usr 184) [(.var 0), (.var 7), (.var 2), (.ap (.usr 140) [(.var 0)]), (.var 3), (.var 4), (I 0)])),
 (((.ap (.usr 174) [(.ap (.cell 4) [(.var 0), (.var 7)]), (.ap (.add .i64) [(.var 3), (.var 8)])]) :: r45_h11), (.ap .le [(I 0), (.ap (.cell 0) [(.var 0), (.var 7)])])),
 (((.ap .not [(.ap (.usr 174) [(.ap (.cell 4) [(.var 0), (.var 7)]), (.ap (.add .i64) [(.var 3), (.var 8)])])]) :: r45_h11), (.ap .le [(I 0), (.ap (.cell 0) [(.var 0), (.var 7)])])),
 (((.ap .eq [(.ap (.usr 176) [(.ap (.cell 4) [(.var 0), (.var 7)]), (.ap (.add .i64) [(.var 3), (.var 8)])]), (.ap (.cell 0) [(.var 4), (.var 8)])]) :: r45_h13), (.ap (.usr 184) [(.var 0), (.var 7), (.var 2), (.ap (.usr 140) [(.var 0)]), (.var 3), (.var 4), (.ap (.add .i64) [(.var 8), (I 1)])])),
 (((.ap .eq [(.ap (.usr 176) [(.ap (.cell 4) [(.var 0), (.var 7)]), (.ap (.add .i64) [(.var 3), (.var 8)])]), (.ap (.cell 0) [(.var 4), (.var 8)])]) :: (.ap .eq [(.ap (.usr 177) [(.ap (.cell 4) [(.var 0), (.var 7)]), (.ap (.add .i64) [(.var 3), (.var 8)])]), (I 1)]) :: (.ap .not [(.ap .eq [(.ap (.usr 177) [(.ap (.cell 4) [(.var 0), (.var 7)]), (.ap (.add .i64) [(.var 3), (.var 8)])]), (I 3)])]) :: r45_h12), (.ap (.usr 184) [(.var 0), (.var 7), (.var 2), (.ap (.usr 140) [(.var 0)]), (.var 3), (.var 4), (.ap (.add .i64) [(.var 8), (I 1)])])),
 (((.ap .eq [(.ap (.usr 177) [(.ap (.cell 4) [(.var 0), (.var 7)]), (.ap (.add .i64) [(.var 3), (.var 8)])]), (I 3)]) :: r45_h12), (.ap (.usr 184) [(.var 0), (.var 7), (.var 2), (.ap (.usr 140) [(.var 0)]), (.var 3), (.var 4), (.ap (.add .i64) [(.var 8), (I 1)])])),
 (((.ap .not [(.ap .eq [(.ap (.bin .and .i64) [(.ap (.shf .shr .i64) [(.var 2), (.ap (.cell 0) [(.var 0), (.var 7)])]), (I 1)]), (I 1)])]) :: (.ap .le [(I 0), (.ap (.cell 0) [(.var 0), (.var 7)])]) :: (.ap (.usr 174) [(.ap (.cell 4) [(.var 0), (.var 7)]), (.ap (.add .i64) [(.var 3), (.var 8)])]) :: r45_h11), (.ap (.usr 184) [(.var 0), (.var 7), (.var 2), (.ap (.usr 140) [(.var 0)]), (.var 3), (.var 4), (.ap (.add .i64) [(.var 8), (I 1)])])),
 (((.ap .not [(.ap .eq [(.ap (.bin .and .i64) [(.ap (.shf .shr .i64) [(.var 2), (.ap (.cell 0) [(.var 0), (.var 7)])]), (I 1)]), (I 1)])]) :: (.ap .le [(I 0), (.ap (.cell 0) [(.var 0), (.var 7)])]) :: (.ap .not [(.ap (.usr 174) [(.ap (.cell 4) [(.var 0), (.var 7)]), (.ap (.add .i64) [(.var 3), (.var 8)])])]) :: r45_h11), (.ap (.usr 184) [(.var 0), (.var 7), (.var 2), (.ap (.usr 140) [(.var 0)]), (.var 3), (.var 4), (.ap (.add .i64) [(.var 8), (I 1)])])),
 (((.ap .not [(.ap .lt [(.var 8), (.ap .len [(.var 4)])])]) :: r45_h5), (.ap (.usr 183) [(.var 0), (.var 2), (.ap (.usr 140) [(.var 0)]), (.var 3), (.var 4), (.ap (.add .i64) [(.var 7), (I 1)])])),
 (((.ap .not [(.ap .lt [(.var 8), (.ap .len [(.var 4)])])]) :: r45_h10), (.ap (.usr 183) [(.var 0), (.var 2), (.ap (.usr 140) [(.var 0)]), (.var 3), (.var 4), (.ap (.add .i64) [(.var 7), (I 1)])]))]
def r45_o : List (List X × List (List X)) := [(((.ap .le [(.ap (.mul .i64) [(I 2), (.var 5)]), (.var 1)]) :: (.ap .not [(.ap .lt [(.var 6), (.var 1)])]) :: r45_h1), [[(.lit (.bool false))]]),
 (((.ap .lt [(.ap (.cell 2) [(.var 0), (.var 7)]), (.ap (.sub .i64) [(.ap (.add .i64) [(.var 3), (.ap .len [(.var 4)])]), (I 1)])]) :: (.ap .eq [(.ap (.cell 1) [(.var 0), (.var 7)]), (.ap (.usr 140) [(.var 0)])]) :: (.ap .lt [(.var 7), (.ap .len [(.var 0)])]) :: r45_h3), [[(.lit (.bool false))]]),
 (((.ap .not [(.ap .eq [(.ap (.usr 177) [(.ap (.cell 4) [(.var 0), (.var 7)]), (.ap (.add .i64) [(.var 3), (.var 8)])]), (I 4)])]) :: (.ap .not [(.ap .eq [(.ap (.usr 177) [(.ap (.cell 4) [(.var 0), (.var 7)]), (.ap (.add .i64) [(.var 3), (.var 8)])]), (I 1)])]) :: (.ap .not [(.ap .eq [(.ap (.usr 177) [(.ap (.cell 4) [(.var 0), (.var 7)]), (.ap (.add .i64) [(.var 3), (.var 8)])]), (I 3)])]) :: r45_h7), [[(.lit (.bool false))]]),
 (((.ap .not [(.ap .eq [(.ap (.usr 176) [(.ap (.cell 4) [(.var 0), (.var 7)]), (.ap (.add .i64) [(.var 3), (.var 8)])]), (.ap (.cell 0) [(.var 4), (.var 8)])])]) :: r45_h8), [[(.lit (.bool false))]]),
 (((.ap .not [(.ap .eq [(.ap (.usr 176) [(.ap (.cell 4) [(.var 0), (.var 7)]), (.ap (.add .i64) [(.var 3), (.var 8)])]), (.ap (.cell 0) [(.var 4), (.var 8)])])]) :: (.ap .eq [(.ap (.usr 177) [(.ap (.cell 4) [(.var 0), (.var 7)]), (.ap (.add .i64) [(.var 3), (.var 8)])]), (I 1)]) :: (.ap .not [(.ap .eq [(.ap (.usr 177) [(.ap (.cell 4) [(.var 0), (.var 7)]), (.ap (.add .i64) [(.var 3), (.var 8)])]), (I 3)])]) :: r45_h7), [[(.lit (.bool false))]]),
 (((.ap .not [(.ap .eq [(.ap (.usr 176) [(.ap (.cell 4) [(.var 0), (.var 7)]), (.ap (.add .i64) [(.var 3), (.var 8)])]), (.ap (.cell 0) [(.var 4), (.var 8)])])]) :: (.ap .not [(.ap .eq [(.ap (.usr 177) [(.ap (.cell 4) [(.var 0), (.var 7)]), (.ap (.add .i64) [(.var 3), (.var 8)])]), (I 3)])]) :: r45_h9), [[(.lit (.bool false))]]),
 (((.ap .eq [(.ap (.bin .and .i64) [(.ap (.shf .shr .i64) [(.var 2), (.ap (.cell 0) [(.var 0), (.var 7)])]), (I 1)]), (I 1)]) :: (.ap .le [(I 0), (.ap (.cell 0) [(.var 0), (.var 7)])]) :: (.ap .not [(.ap (.usr 174) [(.ap (.cell 4) [(.var 0), (.var 7)]), (.ap (.add .i64) [(.var 3), (.var 8)])])]) :: r45_h6), [[(.lit (.bool false))]]),
 (((.ap .not [(.ap .eq [(.ap (.usr 177) [(.ap (.cell 4) [(.var 0), (.var 7)]), (.ap (.add .i64) [(.var 3), (.var 8)])]), (I 4)])]) :: (.ap .not [(.ap .eq [(.ap (.usr 177) [(.ap (.cell 4) [(.var 0), (.var 7)]), (.ap (.add .i64) [(.var 3), (.var 8)])]), (I 1)])]) :: (.ap .not [(.ap .eq [(.ap (.usr 177) [(.ap (.cell 4) [(.var 0), (.var 7)]), (.ap (.add .i64) [(.var 3), (.var 8)])]), (I 3)])]) :: r45_h12), [[(.lit (.bool false))]]),
 (((.ap .not [(.ap .eq [(.ap (.usr 176) [(.ap (.cell 4) [(.var 0), (.var 7)]), (.ap (.add .i64) [(.var 3), (.var 8)])]), (.ap (.cell 0) [(.var 4), (.var 8)])])]) :: r45_h13), [[(.lit (.bool false))]]),
 (((.ap .not [(.ap .eq [(.ap (.usr 176) [(.ap (.cell 4) [(.var 0), (.var 7)]), (.ap (.add .i64) [(.var 3), (.var 8)])]), (.ap (.cell 0) [(.var 4), (.var 8)])])]) :: (.ap .eq [(.ap (.usr 177) [(.ap (.cell 4) [(.var 0), (.var 7)]), (.ap (.add .i64) [(.var 3), (.var 8)])]), (I 1)]) :: (.ap .not [(.ap .eq [(.ap (.usr 177) [(.ap (.cell 4) [(.var 0), (.var 7)]), (.ap (.add .i64) [(.var 3), (.var 8)])]), (I 3)])]) :: r45_h12), [[(.lit (.bool false))]]),
 (((.ap .eq [(.ap (.bin .and .i64) [(.ap (.shf .shr .i64) [(.var 2), (.ap (.cell 0) [(.var 0), (.var 7)])]), (I 1)]), (I 1)]) :: (.ap .le [(I 0), (.ap (.cell 0) [(.var 0), (.var 7)])]) :: (.ap .not [(.ap (.usr 174) [(.ap (.cell 4) [(.var 0), (.var 7)]), (.ap (.add .i64) [(.var 3), (.var 8)])])]) :: r45_h11), [[(.lit (.bool false))]]),
 (((.ap .not [(.ap .lt [(.var 7), (.ap .len [(.var 0)])])]) :: r45_h3), [[(.lit (.bool true))]])]
theorem r45_eq : runS Try.prog (specO (tab T10)) 10 14 ⟨hintL [(3, lp45a), (10, lp45b), (15, lp45c)], hintA [(1, fun F H => [.ap .le [I 3, .var 1], .ap .le [.var 1, I 7]]), (5, fun F H => [.ap .le [zI, bitX (sx F 12)], .ap .le [bitX (sx F 12), I 1]]), (19, fun F H => [.ap .le [zI, .ap (.cell 0) [.var 0, sx F 15]]])]⟩ Try.f45 (bodyOf Try.f45) STaken = some (r45_v, r45_o) := by kernel_rfl
set_option maxHeartbeats 4000000 in
set_option maxRecDepth 100000 in
theorem c45 : SpecOK U Try.prog 45 STaken := by
 refine SpecOK.of (P := Try.prog) (U := U) (T := (tab T10)) (f := 45) (fn := Try.f45) (fuel := 10) (fk := 14) (hs := ⟨hintL [(3, lp45a), (10, lp45b), (15, lp45c)], hintA [(1, fun F H => [.ap .le [I 3, .var 1], .ap .le [.var 1, I 7]]), (5, fun F H => [.ap .le [zI, bitX (sx F 12)], .ap .le [bitX (sx F 12), I 1]]), (19, fun F H => [.ap .le [zI, .ap (.cell 0) [.var 0, sx F 15]]])]⟩) (S := STaken) (v := r45_v) (outs := r45_o) mixed hT10 at45 r45_eq ?_ ?_
 ·unfold r45_v
  repeat' (first | exact vcs_nil _ | refine vcs_cons (fun v hh => ?_) ?_)
  all_goals
   simp only [w_var, w_lit, w_ivi, w_bvb, w_add, w_sub, w_mul, b_lt, b_le, b_eq, b_not, b_and, b_typ, b_same, w_len, w_cell, w_usr, w_bin, w_l0, w_l1, w_vint, w_vbool, w_tru, w_holds0, w_holds1, w_rows, w_nilb, w_shf, us123, us140, us142, us174, us175, us176, us177, us181, us183, us184, us185, mnX, mxX, cell_at, l1_inj, vi_lit, vb_lit, vInt_inj, vBool_inj, tn0, eqC_ckW, bitC_fold, all_z, rng_z, pop_z, r45_h0, r45_h1, r45_h2, r45_h3, r45_h4, r45_h5, r45_h6, r45_h7, r45_h8, r45_h9, r45_h10, r45_h11, r45_h12, r45_h13] at hh ⊢
   repeat (obtain ⟨_, hh⟩ := hh)
   try (first | grind [→ okN_vs, rep_0, = bit_eq, pop_succ, badA_v, badB_v, fltE_v, = w_vint] | (apply rep_0 <;> first | assumption | grind [badA_v, badB_v, fltE_v]) | (apply okK_next <;> first | assumption | grind [badA_v, badB_v, fltE_v]) | (apply okTk_end <;> first | assumption | grind [badA_v, badB_v, fltE_v]) | (apply taken_a <;> first | assumption | grind [badA_v, badB_v, fltE_v]) | (apply taken_k <;> first | assumption | grind [badA_v, badB_v, fltE_v]) | (apply taken_p' <;> first | assumption | grind [badA_v, badB_v, fltE_v]) | (apply taken_y' <;> first | assumption | grind [badA_v, badB_v, fltE_v]))
 ·intro o ho σ hU hh
  obtain ⟨v⟩ := σ
  cases hU
  simp only [r45_o, List.mem_cons, List.not_mem_nil, or_false] at ho
  repeat' (first | (rcases ho with rfl | ho) | subst ho)
  all_goals
   refine ⟨_, List.mem_cons_self .., by simp only [w_var, w_lit, w_ivi, w_bvb, w_add, w_sub, w_mul, b_lt, b_le, b_eq, b_not, b_and, b_typ, b_same, w_len, w_cell, w_usr, w_bin, w_l0, w_l1, w_vint, w_vbool, w_tru, w_holds0, w_holds1, w_rows, w_nilb, w_shf], ?_⟩
   simp only [w_var, w_lit, w_ivi, w_bvb, w_add, w_sub, w_mul, b_lt, b_le, b_eq, b_not, b_and, b_typ, b_same, w_len, w_cell, w_usr, w_bin, w_l0, w_l1, w_vint, w_vbool, w_tru, w_holds0, w_holds1, w_rows, w_nilb, w_shf, us123, us140, us142, us174, us175, us176, us177, us181, us183, us184, us185, mnX, mxX, cell_at, l1_inj, vi_lit, vb_lit, vInt_inj, vBool_inj, tn0, eqC_ckW, bitC_fold, all_z, rng_z, pop_z, r45_h0, r45_h1, r45_h2, r45_h3, r45_h4, r45_h5, r45_h6, r45_h7, r45_h8, r45_h9, r45_h10, r45_h11, r45_h12, r45_h13] at hh
   simp only [List.map_cons, List.map_nil, w_var, w_lit, w_ivi, w_bvb, w_add, w_sub, w_mul, b_lt, b_le, b_eq, b_not, b_and, b_typ, b_same, w_len, w_cell, w_usr, w_bin, w_l0, w_l1, w_vint, w_vbool, w_tru, w_holds0, w_holds1, w_rows, w_nilb, w_shf, w_lt, w_le, w_eq, w_not, w_and, w_same, w_typ, us123, us140, us142, us174, us175, us176, us177, us181, us183, us184, us185, mnX, mxX, cell_at, l1_inj, vi_lit, vb_lit, vInt_inj, vBool_inj, tn0, eqC_ckW, bitC_fold, all_z, rng_z, pop_z]
   repeat (obtain ⟨_, hh⟩ := hh)
   try (first | grind [→ okN_vs, rep_0, = bit_eq, pop_succ, badA_v, badB_v, fltE_v, = w_vint] | (apply rep_0 <;> first | assumption | grind [badA_v, badB_v, fltE_v]) | (apply okK_next <;> first | assumption | grind [badA_v, badB_v, fltE_v]) | (apply okTk_end <;> first | assumption | grind [badA_v, badB_v, fltE_v]) | (apply taken_a <;> first | assumption | grind [badA_v, badB_v, fltE_v]) | (apply taken_k <;> first | assumption | grind [badA_v, badB_v, fltE_v]) | (apply taken_p' <;> first | assumption | grind [badA_v, badB_v, fltE_v]) | (apply taken_y' <;> first | assumption | grind [badA_v, badB_v, fltE_v]))
end Go.Proofs.Ytlbbkmcegbeckaa.Cn

set_option linter.unusedSectionVars false
set_option linter.unusedVariables false
set_option linter.unusedSimpArgs false
namespace Go.Proofs.Ytlbbkmcegbeckaa.Cn
open Go.Sx Go.Proofs
noncomputable def SCheckW : Fsp := ⟨[(false, [sVotes]), (false, [sI])], [.ap .not [.ap (.usr 127) [.var 0]]], [(false, [sI])], [([], [[.ap (.usr 123) [.var 0, .var 1]]])], true⟩
set_option maxRecDepth 100000 in
theorem c34w : SpecOK U Try.prog 34 SCheckW := fun σ hs m w us hm hp hh => by
 refine c34 σ hs m w us hm hp ?_
 have h : (den (.ap .not [.ap (.usr 127) [.var 0]])).bv = true := hh _ (List.mem_singleton.2 rfl)
 intro x hx
 have hu : ∀ k l, @Us.u σ.toUs k l = @Us.u U k l := fun k l => by rw [hs]
 simp only [b_not, w_usr, w_l0, w_l1, hu, us127, w_vbool, Bool.or_eq_true, decide_eq_true_eq, not_or] at h
 simp only [SCheck, List.mem_cons, List.not_mem_nil, or_false] at hx
 rcases hx with rfl | rfl
 ·show (den (.ap .le [.ap .len [.var 0], I 10])).bv = true
  simp only [b_le, w_len, w_lit, w_ivi, w_vint]
  omega
 ·show (den (.ap .not [.ap (.usr 119) [.var 0]])).bv = true
  simp only [b_not, w_usr, w_l0, w_l1, hu, us119, w_vbool]
  exact h.1
theorem com_b {l n : CD} (h : okVs l n = true) : 0 ≤ commit l ∧ commit l ≤ 1073741824 := by
 have hA := okA_of h
 have := com_le hA
 have := com_0 (l := l)
 omega
theorem kp_err {l n : CD} (h : okVs l n = true) (h0 : ¬ eqC (vInt .i64 (errOf l n)) (vInt .i64 0) = true) (h1 : ¬ eqC (vInt .i64 (errOf l n)) (vInt .i64 14) = true) : true = eqC (vInt .i64 (errOf l n)) (vInt .i64 10) := by
 unfold errOf at h0 h1 ⊢
 rw [if_pos h] at h0 h1 ⊢
 by_cases h2 : (l.len : Int) < enough n
 ·rw [if_pos h2]; rfl
 ·rw [if_neg h2] at h0 h1 ⊢
  by_cases h3 : waits l n = true
  ·rw [if_pos h3] at h1
   exact absurd rfl h1
  ·rw [if_neg h3] at h0
   exact absurd rfl h0
theorem e0 {l n : CD} (he : eqC (vInt .i64 (errOf l n)) (vInt .i64 0) = true) : errOf l n = 0 := by
 have := eqC_iv he
 rwa [w_vint] at this
theorem kp_end {l n views : CD} {set : Int} (hl : (if errOf l n = 0 then endOp l else 0) < commit l + views.len) (ht : takenE l n.iv set (commit l + 1) views = true) (he : eqC (vInt .i64 (errOf l n)) (vInt .i64 0) = true) (hk : okVs l n = true) (hT : Typ sVotes l) (hV : Typ (.sl [sI]) views) : true = false := by
 have := (keeps hk hT hV ht (e0 he)).1
 have := hV.sl.1
 rw [if_pos (e0 he)] at hl
 omega
theorem kp_in {l n views : CD} {set k : Int} (hn : ¬ inH (mkz (if errOf l n = 0 then heads l else [])).rows (vInt .i64 (commit l + 1 + k)) (at' (row views k.toNat) 0) = true) (ht : takenE l n.iv set (commit l + 1) views = true) (he : eqC (vInt .i64 (errOf l n)) (vInt .i64 0) = true) (hk : okVs l n = true) (hT : Typ sVotes l) (hV : Typ (.sl [sI]) views) (k0 : 0 ≤ k) (hi : k < views.len) : true = false := by
 have hl := hV.sl.1
 have := (keeps hk hT hV ht (e0 he)).2 k.toNat (by omega)
 rw [Int.toNat_of_nonneg k0] at this
 rw [if_pos (e0 he)] at hn
 exact absurd this hn
noncomputable def T11 : List (FuncId × Fsp) := [(43, SAwake), (30, S30), (34, SCheckW), (44, SMost), (45, STaken), (32, SCho), (46, SIn)]
set_option maxRecDepth 100000 in
theorem hT11 : TabOK U Try.prog T11 := .cons c43 (.cons c30 (.cons c34w (.cons c44 (.cons c45 (.cons c32 (.cons c46 .nil))))))
noncomputable def SKeeps : Fsp := ⟨[(false, [sVotes]), (false, [sI]), (false, [sI]), (false, [.sl [sI]])], [], [(false, [.bool])], [([], [[.lit (.bool true)]])], true⟩
noncomputable def lp6 : Lp := ⟨[(.slot 14, .int .i64)], [0, 1, 2, 3, 8, 9, 11, 12], [], fun F H k => [.ap .le [zI, .var k], .ap .le [.var k, .ap .len [.var 3]]], fun F H k => .ap (.sub .i64) [.ap .len [.var 3], .var k]⟩
abbrev r6_h0 : List X := [(.ap (.typ sVotes) [(.var 0)]), (.ap .le [mnX, (.var 1)]), (.ap .le [(.var 1), mxX]), (.ap .le [mnX, (.var 2)]), (.ap .le [(.var 2), mxX]), (.ap (.typ (.sl [sI])) [(.var 3)])]
abbrev r6_h1 : List X := (.ap .le [mnX, (.ap (.usr 123) [(.var 0), (.var 1)])]) :: (.ap .le [(.ap (.usr 123) [(.var 0), (.var 1)]), mxX]) :: (.ap .not [(.ap .lt [(I 20), (.ap .len [(.var 3)])])]) :: (.ap .not [(.ap (.usr 127) [(.var 0)])]) :: r6_h0
abbrev r6_h2 : List X := (.ap .le [mnX, (.ap (.usr 140) [(.var 0)])]) :: (.ap .le [(.ap (.usr 140) [(.var 0)]), mxX]) :: (.ap .le [mnX, (.ap (.usr 142) [(.var 0)])]) :: (.ap .le [(.ap (.usr 142) [(.var 0)]), mxX]) :: (.ap .eq [(.ap (.usr 123) [(.var 0), (.var 1)]), (I 0)]) :: r6_h1
abbrev r6_h3 : List X := (.ap (.usr 185) [(.var 0), (.var 1), (.var 2), (.ap (.add .i64) [(.ap (.usr 142) [(.var 0)]), (I 1)]), (.var 3)]) :: (.ap .le [(I 0), (.ap (.usr 142) [(.var 0)])]) :: (.ap .le [(.ap (.usr 142) [(.var 0)]), (I 1073741824)]) :: r6_h2
abbrev r6_h4 : List X := (.ap .le [mnX, (.ap (.usr 151) [(.var 0), (.var 1)])]) :: (.ap .le [(.ap (.usr 151) [(.var 0), (.var 1)]), mxX]) :: (.ap .le [mnX, (.ap (.usr 152) [(.var 0), (.var 1)])]) :: (.ap .le [(.ap (.usr 152) [(.var 0), (.var 1)]), mxX]) :: (.ap (.typ (.sl sHead)) [(.ap (.usr 153) [(.var 0), (.var 1)])]) :: (.ap .le [mnX, (.ap (.usr 150) [(.var 0), (.var 1)])]) :: (.ap .le [(.ap (.usr 150) [(.var 0), (.var 1)]), mxX]) :: (.ap .le [(.ap .len [(.var 0)]), (I 10)]) :: (.ap .not [(.ap (.usr 119) [(.var 0)])]) :: r6_h3
abbrev r6_h5 : List X := (.ap .le [(I 0), (.var 4)]) :: (.ap .le [(.var 4), (.ap .len [(.var 3)])]) :: (.ap .not [(.ap .lt [(.ap (.usr 151) [(.var 0), (.var 1)]), (.ap (.add .i64) [(.ap (.usr 142) [(.var 0)]), (.ap .len [(.var 3)])])])]) :: (.ap .eq [(.ap (.usr 150) [(.var 0), (.var 1)]), (I 0)]) :: r6_h4
def r6_v : List VC := [(r6_h2, (.ap .le [(I 0), (.ap (.usr 142) [(.var 0)])])),
 (r6_h2, (.ap .le [(.ap (.usr 142) [(.var 0)]), (I 1073741824)])),
 (r6_h3, (.ap .le [(.ap .len [(.var 0)]), (I 10)])),
 (r6_h3, (.ap .not [(.ap (.usr 119) [(.var 0)])]))]
def r6_o : List (List X × List (List X)) := [(((.ap (.usr 127) [(.var 0)]) :: r6_h0), [[(.lit (.bool true))]]),
 (((.ap .lt [(I 20), (.ap .len [(.var 3)])]) :: (.ap .not [(.ap (.usr 127) [(.var 0)])]) :: r6_h0), [[(.lit (.bool true))]]),
 (((.ap .not [(.ap .eq [(.ap (.usr 123) [(.var 0), (.var 1)]), (I 0)])]) :: r6_h1), [[(.lit (.bool true))]]),
 (((.ap .not [(.ap (.usr 185) [(.var 0), (.var 1), (.var 2), (.ap (.add .i64) [(.ap (.usr 142) [(.var 0)]), (I 1)]), (.var 3)])]) :: (.ap .le [(I 0), (.ap (.usr 142) [(.var 0)])]) :: (.ap .le [(.ap (.usr 142) [(.var 0)]), (I 1073741824)]) :: r6_h2), [[(.lit (.bool true))]]),
 (((.ap .eq [(.ap (.usr 150) [(.var 0), (.var 1)]), (I 14)]) :: (.ap .not [(.ap .eq [(.ap (.usr 150) [(.var 0), (.var 1)]), (I 0)])]) :: r6_h4), [[(.lit (.bool true))]]),
 (((.ap .not [(.ap .eq [(.ap (.usr 150) [(.var 0), (.var 1)]), (I 14)])]) :: (.ap .not [(.ap .eq [(.ap (.usr 150) [(.var 0), (.var 1)]), (I 0)])]) :: r6_h4), [[(.ap .eq [(.ap (.usr 150) [(.var 0), (.var 1)]), (I 10)])]]),
 (((.ap .lt [(.ap (.usr 151) [(.var 0), (.var 1)]), (.ap (.add .i64) [(.ap (.usr 142) [(.var 0)]), (.ap .len [(.var 3)])])]) :: (.ap .eq [(.ap (.usr 150) [(.var 0), (.var 1)]), (I 0)]) :: r6_h4), [[(.lit (.bool false))]]),
 (((.ap .not [(.ap (.usr 179) [(.ap (.usr 153) [(.var 0), (.var 1)]), (.ap (.add .i64) [(.ap (.add .i64) [(.ap (.usr 142) [(.var 0)]), (I 1)]), (.var 4)]), (.ap (.cell 0) [(.var 3), (.var 4)])])]) :: (.ap .lt [(.var 4), (.ap .len [(.var 3)])]) :: r6_h5), [[(.lit (.bool false))]]),
 (((.ap .not [(.ap .lt [(.var 4), (.ap .len [(.var 3)])])]) :: r6_h5), [[(.lit (.bool true))]])]
theorem r6_eq : runS Try.prog (specO (tab T11)) 10 14 ⟨hintL [(13, lp6)], hintA [(5, fun F H => [.ap .le [zI, .ap (.usr 142) [.var 0]], .ap .le [.ap (.usr 142) [.var 0], I 1073741824]]), (7, fun F H => [.ap .le [.ap .len [.var 0], I 10], .ap .not [.ap (.usr 119) [.var 0]]])]⟩ Try.f6 (bodyOf Try.f6) SKeeps = some (r6_v, r6_o) := by kernel_rfl
set_option maxHeartbeats 4000000 in
set_option maxRecDepth 100000 in
theorem c6 : SpecOK U Try.prog 6 SKeeps := by
 refine SpecOK.of (P := Try.prog) (U := U) (T := (tab T11)) (f := 6) (fn := Try.f6) (fuel := 10) (fk := 14) (hs := ⟨hintL [(13, lp6)], hintA [(5, fun F H => [.ap .le [zI, .ap (.usr 142) [.var 0]], .ap .le [.ap (.usr 142) [.var 0], I 1073741824]]), (7, fun F H => [.ap .le [.ap .len [.var 0], I 10], .ap .not [.ap (.usr 119) [.var 0]]])]⟩) (S := SKeeps) (v := r6_v) (outs := r6_o) mixed hT11 at6 r6_eq ?_ ?_
 ·unfold r6_v
  repeat' (first | exact vcs_nil _ | refine vcs_cons (fun v hh => ?_) ?_)
  all_goals
   simp only [w_var, w_lit, w_ivi, w_bvb, w_add, b_lt, b_le, b_eq, b_not, b_typ, w_len, w_cell, w_usr, w_l0, w_l1, w_vint, w_vbool, w_tru, w_holds0, w_holds1, w_rows, w_nilb, us119, us123, us127, us140, us142, us150, us151, us152, us153, us179, us185, mnX, mxX, cell_at, l1_inj, vi_lit, vb_lit, vInt_inj, vBool_inj, tn0, eqC_ckW, r6_h0, r6_h1, r6_h2, r6_h3, r6_h4, r6_h5] at hh ⊢
   repeat (obtain ⟨_, hh⟩ := hh)
   try (first | grind [→ com_b, = w_vint] | (apply kp_err <;> first | assumption | grind) | (apply kp_end <;> first | assumption | grind) | (apply kp_in <;> first | assumption | grind))
 ·intro o ho σ hU hh
  obtain ⟨v⟩ := σ
  cases hU
  simp only [r6_o, List.mem_cons, List.not_mem_nil, or_false] at ho
  repeat' (first | (rcases ho with rfl | ho) | subst ho)
  all_goals
   refine ⟨_, List.mem_cons_self .., by simp only [w_var, w_lit, w_ivi, w_bvb, w_add, b_lt, b_le, b_eq, b_not, b_typ, w_len, w_cell, w_usr, w_l0, w_l1, w_vint, w_vbool, w_tru, w_holds0, w_holds1, w_rows, w_nilb], ?_⟩
   simp only [w_var, w_lit, w_ivi, w_bvb, w_add, b_lt, b_le, b_eq, b_not, b_typ, w_len, w_cell, w_usr, w_l0, w_l1, w_vint, w_vbool, w_tru, w_holds0, w_holds1, w_rows, w_nilb, us119, us123, us127, us140, us142, us150, us151, us152, us153, us179, us185, mnX, mxX, cell_at, l1_inj, vi_lit, vb_lit, vInt_inj, vBool_inj, tn0, eqC_ckW, r6_h0, r6_h1, r6_h2, r6_h3, r6_h4, r6_h5] at hh
   simp only [List.map_cons, List.map_nil, w_var, w_lit, w_ivi, w_bvb, w_add, b_lt, b_le, b_eq, b_not, b_typ, w_len, w_cell, w_usr, w_l0, w_l1, w_vint, w_vbool, w_tru, w_holds0, w_holds1, w_rows, w_nilb, w_lt, w_le, w_eq, w_not, w_typ, us119, us123, us127, us140, us142, us150, us151, us152, us153, us179, us185, mnX, mxX, cell_at, l1_inj, vi_lit, vb_lit, vInt_inj, vBool_inj, tn0, eqC_ckW]
   repeat (obtain ⟨_, hh⟩ := hh)
   try (first | grind [→ com_b, = w_vint] | (apply kp_err <;> first | assumption | grind) | (apply kp_end <;> first | assumption | grind) | (apply kp_in <;> first | assumption | grind))
end Go.Proofs.Ytlbbkmcegbeckaa.Cn

set_option linter.unusedSimpArgs false
set_option linter.unusedVariables false
set_option linter.unusedSectionVars false
namespace Go.Sx
open Go.ChangeShapes Go.WideShapes
variable {P : Program}
def srtPs (P : Program) (rec : TypeId → Option (List Srt)) : Nat → List Field → Option (List Srt)
 | _, [] => some []
 | off, f :: fs => match rec f.type with
  | some ks => if f.offset = off ∧ P.cellsOf f.type = ks.length then (srtPs P rec (off + ks.length) fs).map (ks ++ ·) else none
  | none => none
def srtP (P : Program) : Nat → TypeId → Option (List Srt)
 | 0, _ => none
 | n + 1, t => match P.underlying t with
  | some (.int k) => some [.int k]
  | some (.slice e) => match srtP P n e with
   | some ws => if P.cellsOf e = ws.length ∧ 0 < ws.length then some [.sl ws] else none
   | none => none
  | some (.struct fs) => match srtPs P (srtP P n) 0 fs.toList with
   | some ks => if P.cellsOf t = ks.length then some ks else none
   | none => none
  | _ => none
def memW (W : World) : Mem := fun k o => W.heap[k]? = some o
def HasS (m : Mem) (ss : List Srt) (cs : List Value) : Prop := cs.length = ss.length ∧ ∃ ds, RSs m ss ds fun j => cs[j]?
theorem rss_append {m : Mem} : ∀ {ss ss' : List Srt} {ds ds' : List CD} {cs cs' : List Value}, cs.length = ss.length → RSs m ss ds (fun j => cs[j]?) → RSs m ss' ds' (fun j => cs'[j]?) → RSs m (ss ++ ss') (ds ++ ds') fun j => (cs ++ cs')[j]?
 | [], ss', ds, ds', cs, cs', hl, h, h' => by
  have h : ds = [] := h
  have : cs = [] := List.length_eq_zero_iff.1 hl
  subst h
  subst this
  exact h'
 | s :: ss, ss', ds, ds', [], cs', hl, h, h' => by simp at hl
 | s :: ss, ss', ds, ds', c :: cs, cs', hl, h, h' => by
  obtain ⟨d, r, u, rfl, h1, h2, h3⟩ := h
  refine ⟨d, r ++ ds', u, rfl, h1, h2, ?_⟩
  have h3' : RSs m ss r fun j => cs[j]? := h3.congr fun j _ => by simp
  have := rss_append (by simpa using hl) h3' h'
  exact this.congr fun j _ => by simp
theorem HasS.append {m : Mem} {ss ss' : List Srt} {cs cs' : List Value} (h : HasS m ss cs) (h' : HasS m ss' cs') : HasS m (ss ++ ss') (cs ++ cs') := by
 obtain ⟨h1, ds, h2⟩ := h
 obtain ⟨h3, ds', h4⟩ := h'
 exact ⟨by simp [h1, h3], ds ++ ds', rss_append h1 h2 h4⟩
theorem srtPs_cells {m : Mem} {rec : TypeId → Option (List Srt)} {cs : List Value} : ∀ (fs : List Field) {off : Nat} {ks : List Srt}, srtPs P rec off fs = some ks →
  (∀ f ∈ fs, ∀ ks', rec f.type = some ks' → HasS m ks' ((cs.drop f.offset).take (P.cellsOf f.type))) → HasS m ks ((cs.drop off).take ks.length)
 | [], off, ks, h, _ => by cases h; exact ⟨by simp, [], rfl⟩
 | f :: fs, off, ks, h, hr => by
  simp only [srtPs] at h
  cases hk : rec f.type with
  | none => rw [hk] at h; cases h
  | some k1 =>
   rw [hk] at h
   simp only at h
   split at h
   ·rename_i hc
    obtain ⟨k2, hk2, rfl⟩ := Option.map_eq_some_iff.1 h
    have h2 := srtPs_cells fs hk2 fun g hg => hr g (List.mem_cons_of_mem _ hg)
    have h1 := hr f (List.mem_cons_self ..) k1 hk
    rw [hc.1, hc.2] at h1
    have e : (cs.drop off).take (k1 ++ k2).length = (cs.drop off).take k1.length ++ (cs.drop (off + k1.length)).take k2.length := by
     rw [List.length_append, List.take_add, List.drop_drop]
    rw [e]
    exact h1.append h2
   ·cases h
theorem exists_list {α : Type} {Q : Nat → α → Prop} : ∀ (n : Nat), (∀ i, i < n → ∃ r, Q i r) → ∃ l : List α, l.length = n ∧ ∀ (i : Nat) (r : α), l[i]? = some r → Q i r
 | 0, _ => ⟨[], rfl, fun i r h => by simp at h⟩
 | n + 1, h => by
  obtain ⟨l, h1, h2⟩ := exists_list n fun i hi => h i (by omega)
  obtain ⟨r, hr⟩ := h n (by omega)
  refine ⟨l ++ [r], by simp [h1], fun i r' hi => ?_⟩
  rw [List.getElem?_append] at hi
  split at hi
  ·exact h2 i r' hi
  ·rename_i hlt
   have : i = n := by
    have := (List.getElem?_eq_some_iff.1 hi).1
    simp at this
    omega
   subst this
   rw [h1, Nat.sub_self] at hi
   cases hi
   exact hr
theorem spot_none {W : World} {a : Addr} {v : Value} (h : W.cell? a = some v) : ∃ b off arr t fr, a = ⟨b, off, none⟩ ∧ W.heap[b]? = some (.cells arr t fr) := by
 obtain ⟨b, off, sp⟩ := a
 unfold World.cell? at h
 simp only at h
 split at h
 ·rename_i c t fr hc
  cases sp with
  | none => exact ⟨b, off, c, t, fr, rfl, hc⟩
  | some _ => simp at h
 ·cases h
theorem mapM_mem {α β : Type} {g : α → Option β} : ∀ {l : List α} {xs : List β}, l.mapM g = some xs → ∀ a ∈ l, ∃ x ∈ xs, g a = some x
 | [], _, _, a, ha => by cases ha
 | b :: l, xs, h, a, ha => by
  simp only [List.mapM_cons, Option.bind_eq_bind, Option.bind_eq_some_iff, Option.pure_def, Option.some.injEq] at h
  obtain ⟨y, hy, ys, hys, rfl⟩ := h
  rcases List.mem_cons.1 ha with rfl | ha
  ·exact ⟨y, List.mem_cons_self .., hy⟩
  ·obtain ⟨x, hx, hgx⟩ := mapM_mem hys a ha
   exact ⟨x, List.mem_cons_of_mem _ hx, hgx⟩
section
variable {H : Type} {enc : TypeId × Value → H} {W : World} {base : Nat} {held : Bool}
theorem srt_trod : ∀ (n : Nat) {t : TypeId} {ks : List Srt}, srtP P n t = some ks → ∀ {fuel : Nat} {cs : List Value} {x : DataW H × List MemPlace}, DataW.trod enc P W base (fun _ => true) held fuel t cs = some x → HasS (memW W) ks cs
 | 0, _, _, h, _, _, _, _ => by cases h
 | n + 1, t, ks, h, fuel, cs, x, hx => by
  simp only [srtP] at h
  split at h
  ·rename_i k hu
   cases h
   cases fuel with
   | zero => simp [DataW.trod] at hx
   | succ m =>
    obtain ⟨i, rfl, rfl, hw⟩ := DataW.trod_int hu hx
    refine ⟨rfl, [.v (.int k i)], _, _, _, rfl, rfl, ⟨i, rfl, rfl, ?_⟩, rfl⟩
    simpa [Lit.wf, litOK] using hw
  ·rename_i e hu
   split at h
   ·rename_i ws hws
    split at h
    ·rename_i hc
     cases h
     rcases DataW.trod_slice hu hx with ⟨rfl, _⟩ | ⟨a, len, cap, elems, rest, m, _, rfl, rfl, hb, hl, hm, hlen, hel, hsp, _⟩
     ·exact ⟨rfl, [.sl true []], _, _, _, rfl, rfl, .inl ⟨rfl, rfl⟩, rfl⟩
     ·obtain ⟨hrl, hre⟩ := hsp rfl
      rw [hc.1] at hel hre
      have cell0 : 0 < cap → ∃ v, W.cell? a = some v := by
       intro hcap
       have key : ∀ y, ((W.cells? base (a.add 0) ws.length).bind (DataW.trod enc P W base (fun _ => true) held m e)) = some y → ∃ v, W.cell? a = some v := by
        intro y hy
        obtain ⟨cs', hcs, _⟩ := Option.bind_eq_some_iff.1 hy
        obtain ⟨_, h2, h3⟩ := World.cells?_some hcs
        have h4 := h3 0 hc.2
        rw [List.getElem?_eq_getElem (by omega)] at h4
        have e1 : (a.add 0).add 0 = a := by simp [Addr.add]
        rw [e1] at h4
        exact ⟨_, h4⟩
       by_cases h0 : 0 < len
       ·have := hel 0 h0
        rw [Nat.zero_mul, List.getElem?_eq_getElem (by omega)] at this
        exact key _ this
       ·have h0 : len = 0 := by omega
        have := hre 0 (by omega)
        rw [h0, Nat.zero_add, Nat.zero_mul, List.getElem?_eq_getElem (by omega)] at this
        exact key _ this
      by_cases hcap : cap = 0
      ·subst hcap
       have : len = 0 := by omega
       subst this
       exact ⟨rfl, [.sl false []], _, _, _, rfl, rfl, .inr (.inr ⟨a, rfl, rfl⟩), rfl⟩
      ·obtain ⟨v0, hv0⟩ := cell0 (by omega)
       obtain ⟨b, off, arr, tt, fr, rfl, harr⟩ := spot_none hv0
       have hcell : ∀ j, W.cell? ⟨b, j, none⟩ = arr[j]? := fun j => by unfold World.cell?; simp [harr]
       obtain ⟨rows, hr1, hr2⟩ := exists_list (Q := fun i r => RSs (memW W) ws r fun j => arr[off + i * ws.length + j]?) len fun i hi => by
        have h1 := hel i hi
        rw [List.getElem?_eq_getElem (by omega)] at h1
        obtain ⟨cs', hcs, hy⟩ := Option.bind_eq_some_iff.1 h1
        obtain ⟨_, h2, h3⟩ := World.cells?_some hcs
        obtain ⟨_, ds, hds⟩ := srt_trod n hws hy
        refine ⟨ds, hds.congr fun j hj => ?_⟩
        have h4 := h3 j hj
        have e1 : (Addr.add (Addr.add ⟨b, off, none⟩ (i * ws.length)) j) = ⟨b, off + i * ws.length + j, none⟩ := by
         rw [Addr.add_lit, Addr.add_lit]
        rw [e1, hcell] at h4
        exact h4
       refine ⟨rfl, [.sl false rows], _, _, _, rfl, rfl, .inr (.inl ⟨rows, b, off, cap, rfl, by rw [hr1], by rw [hr1]; exact hl, hm, fun _ => ⟨arr, tt, fr, harr, hr2⟩⟩), rfl⟩
    ·cases h
   ·cases h
  ·rename_i fs hu
   split at h
   ·rename_i ks' hks
    split at h
    ·rename_i hc
     cases h
     cases fuel with
     | zero => simp [DataW.trod] at hx
     | succ m =>
      have hx' := hx
      unfold DataW.trod at hx'
      rw [hu] at hx'
      have hl : cs.length = P.cellsOf t ∧ ∃ xs, fs.toList.mapM (fun f => DataW.trod enc P W base (fun _ => true) held m f.type ((cs.drop f.offset).take (P.cellsOf f.type))) = some xs := by
       obtain ⟨xs, n', hn, hx2, hl2, hlen, hget⟩ := DataW.trod_struct hu hx
       refine ⟨hl2, ?_⟩
       split at hx' <;> simp_all
       obtain ⟨a, h1, h2, h3⟩ := hx'
       exact ⟨a, h1⟩
      obtain ⟨hl, xs, hp⟩ := hl
      have := srtPs_cells (P := P) (cs := cs) fs.toList hks fun f hf k1 hk1 => by
        obtain ⟨y, _, hfy⟩ := mapM_mem hp f hf
        exact srt_trod n hk1 hfy
      rw [List.drop_zero, ← hc, ← hl, List.take_length] at this
      exact this
    ·cases h
   ·cases h
  ·cases h
end
end Go.Sx

set_option linter.unusedSimpArgs false
set_option linter.unusedSectionVars false
set_option linter.unusedVariables false
namespace Go.Sx
open Go.WideShapes Go.ChangeShapes
theorem keptBut_of_old {W W' : World} (hk : ∀ k, k < W.heap.size → W'.heap[k]? = W.heap[k]?) (hos : W'.os = W.os) (hout : W'.output = W.output) (may : MemPlace → Prop) : W.keptBut W' may :=
 ⟨hos, hout, fun i hi => by rw [hk i hi]; exact (World.keptBut_refl W may).2.2 i hi⟩
theorem frozen_of_old {W W' : World} (hk : ∀ k, k < W.heap.size → W'.heap[k]? = W.heap[k]?) {a : Addr} (ha : a.block < W.heap.size) : W'.frozen? a = W.frozen? a := by
 unfold World.frozen?
 rw [hk _ ha]
theorem post_of_old {H : Type} {enc : TypeId × Value → H} {P : Program} {f : Func} {s : ChangeSpec} {apart fresh handsOn again : Bool} {W W' : World} {args : Array Value} {v : Value} {ds gs : List (DataW H)} {before pa pv : List MemPlace}
  (hW : DataW.Whole enc P f.params.toList s.vars apart W args.toList ds gs before)
  (hres : ∀ (b : Nat) (sp : Nat → Bool) (hd : Bool), DataW.TrodAll enc P W' b sp hd f.resultTypes.toList (v.resultList f.resultTypes.size) (s.fn H (ds ++ gs)).results [])
  (hargs : ∀ sp : Nat → Bool, (∀ p ∈ before, sp p.block = true) → DataW.TrodAll enc P W' 0 sp true f.params.toList args.toList (s.fn H (ds ++ gs)).args pa)
  (hvars : ∀ sp : Nat → Bool, (∀ p ∈ before, sp p.block = true) → DataW.TrodVars enc P W' sp s.vars (s.fn H (ds ++ gs)).vars pv)
  (hps : before = pa ++ pv) (hk : ∀ k, k < W.heap.size → W'.heap[k]? = W.heap[k]?) (hos : W'.os = W.os) (hout : W'.output = W.output)
  (hok : ∀ (j : Nat) (t : TypeId) (r : Value), f.resultTypes[j]? = some t → (v.resultList f.resultTypes.size)[j]? = some r → Value.okWide P W' .any 0 t r) :
  s.post enc P f apart fresh handsOn again W args v W' := by
 have hold : ∀ p ∈ before, (fun b => decide (b < W.heap.size)) p.block = true := fun p hp => by simpa using hW.lt p hp
 have hlt : ∀ p ∈ before, p.block < W.heap.size := fun p hp => hW.lt p hp
 refine ⟨ds, gs, before, [], pa, pv, hW, hres _ _ _, hargs _ hold, hvars _ hold, World.keptBut_mono (fun p hp => ⟨hp, ?_⟩) (keptBut_of_old hk hos hout (· ∈ before)), fun _ => ?_⟩
 ·rw [hps, List.mem_append] at hp
  exact Or.inr hp
 ·obtain ⟨_, _, _, _, _, hz, hn⟩ := hW
  refine ⟨hok, _, _, ([] ++ pa) ++ pv, ⟨[] ++ pa, pv, trodAll_append (hargs _ (fun _ _ => rfl)) (hres _ _ _), hvars _ (fun _ _ => rfl), rfl, ?_, ?_⟩, ?_⟩
  ·intro b off hp
   have hp' : MemPlace.cell b off ∈ before := by rw [hps]; simpa using hp
   rw [frozen_of_old hk (show (⟨b, off, none⟩ : Addr).block < W.heap.size from hlt _ hp')]
   exact hz b off hp'
  ·intro ha
   have := hn ha
   rw [hps] at this
   simpa using this
  ·intro p hp _
   rw [hps]
   simpa using hp
section
variable {H : Type} {enc : TypeId × Value → H} {P : Program} {W W' : World} {base : Nat} {sp : Nat → Bool} {held : Bool}
theorem trod_old (hk : ∀ k, k < W.heap.size → W'.heap[k]? = W.heap[k]?) : ∀ (n : Nat) (t : TypeId) (cs : List Value) (x : DataW H × List MemPlace), DataW.trod enc P W base sp held n t cs = some x → DataW.trod enc P W' base sp held n t cs = some x
 | 0, _, _, _, h => by simp [DataW.trod] at h
 | n + 1, t, cs, x, h => by
  have hlt := DataW.trod_lt (n + 1) t cs x h
  rw [DataW.trod_step] at h ⊢
  refine DataW.trodStep_carry (fun t cs x hx _ => trod_old hk n t cs x hx) h fun p hp => ?_
  have hb := hlt p hp
  cases p with
  | cell b off =>
   show W'.cell? ⟨b, off, none⟩ = W.cell? ⟨b, off, none⟩
   unfold World.cell?
   rw [hk b hb]
  | map b => exact hk b hb
theorem Trod.old (hk : ∀ k, k < W.heap.size → W'.heap[k]? = W.heap[k]?) {t : TypeId} {v : Value} {d : DataW H} {ps : List MemPlace} (h : DataW.Trod enc P W base sp held t v d ps) : DataW.Trod enc P W' base sp held t v d ps := by
 obtain ⟨n, hn⟩ := h
 exact ⟨n, trod_old hk n _ _ _ hn⟩
theorem TrodAll.old (hk : ∀ k, k < W.heap.size → W'.heap[k]? = W.heap[k]?) : ∀ {ts : List TypeId} {vs : List Value} {ds : List (DataW H)} {ps : List MemPlace}, DataW.TrodAll enc P W base sp held ts vs ds ps → DataW.TrodAll enc P W' base sp held ts vs ds ps
 | [], [], [], _, h => h
 | _ :: _, _ :: _, _ :: _, _, ⟨p, q, h1, h2, e⟩ => ⟨p, q, Trod.old hk h1, TrodAll.old hk h2, e⟩
end
end Go.Sx

set_option linter.unusedSectionVars false
set_option linter.unusedSimpArgs false
set_option linter.unusedVariables false
namespace Go.Proofs.Ytlbbkmcegbeckaa
open Go.ChangeShapes Go.WideShapes Go.ChangeAt Go.RowKit Go.Sx
theorem own : ownKnob Try.prog.godebug = none := by kernel_rfl
theorem kids : Kids Try.prog (· < Try.prog.types.size) := kids_rows (by kernel_rfl) (by kernel_rfl)
theorem full : ∀ t e, t < Try.prog.types.size → Try.prog.underlying t = some (.slice e) → 0 < Try.prog.cellsOf e := slices_full_of Try.prog (by kernel_rfl)
theorem votesT : srtP Try.prog 6 53 = some [Cn.sVotes] := by kernel_rfl
theorem viewsT : srtP Try.prog 6 65 = some [.sl [Cn.sI]] := by kernel_rfl
theorem calls_true {U : Us} {P : Program} {f : FuncId} {args : List Shp} {us : Array Value} {W : World} (h : SpecOK U P f ⟨args, [], [(false, [.bool])], [([], [[.lit (.bool true)]])], true⟩) (hcall : ∀ us w, (callFunc f us).run P w = .ok (.enter f us) w) (v : Nat → CD)
  (hp : @PartsR (memW W) args ((varsX 0 args).map (@denL { toUs := U, v := v })) us.toList) : Calls P f us W fun e w' => e = .returned (.bool true) ∧ Keep W w' := by
 have h1 := h { toUs := U, v := v } rfl (memW W) W us (fun _ _ h => h) hp (fun x hx => (by cases hx))
 rw [hcall] at h1
 refine (show Calls P f us W _ from h1).mono fun e w' hh => ?_
 obtain ⟨u, he, hk, o, ho, hx, hres⟩ := hh
 refine ⟨?_, hk⟩
 rw [List.mem_singleton.1 ho] at hres
 obtain ⟨us', hr, hu⟩ := hres
 match us', hr with
 | [u'], hr =>
  have hr : RS (fun k ob => (W.heap.size ≤ k ∧ w'.heap[k]? = some ob) ∨ (true = false ∧ memW W k ob)) .bool (CD.v (.bool true)) u' := hr.1
  obtain ⟨b, h2, h3⟩ := hr
  cases h2
  rw [he, hu, h3]
  rfl
theorem read_sl {H : Type} {enc : TypeId × Value → H} {W : World} {v : Value} {d : DataW H} {ps : List MemPlace} {t : TypeId} {s : Srt} (ht : srtP Try.prog 6 t = some [s]) (h : DataW.Trod enc Try.prog W 0 (fun _ => true) true t v d ps) (hv : ∃ a n c, v = .slice a n c) : ∃ e : CD, RS (memW W) s e v := by
 obtain ⟨fuel, hf⟩ := h
 obtain ⟨a, n, c, rfl⟩ := hv
 obtain ⟨_, ds, e, r, u, _, h2, h3, _⟩ := srt_trod 6 ht hf
 cases h2
 exact ⟨e, h3⟩
theorem read_int {W : World} {n : Int} (h : (Lit.int .i64 n).wf = true) : RS (memW W) Cn.sI (.v (.int .i64 n)) (.int .i64 n) := ⟨n, rfl, rfl, by simpa [Lit.wf, litOK] using h⟩
set_option maxRecDepth 100000 in
theorem canonKeeps_lifted (os : Os) (started : os.Started) (H : Type) (enc : TypeId × Value → H) :
  ReturnsInHanded {} Try.checked os 6 .any (Rows.canonKeepsSpec.pre6 enc Try.prog Try.f6 Rows.canonKeepsRow.domain false) (Rows.canonKeepsSpec.post enc Try.prog Try.f6 false true false false) := by
 refine returnsInHanded_of_change (C := Try.checked) own started (by kernel_rfl) Try.func6
  (ChangeSpec.witness6 (enc := enc) (C := Try.checked) false ⟨#[], #[.slice none 0 0, .int .i64 0, .int .i64 0, .slice none 0 0], []⟩ 8 (by kernel_rfl) (by kernel_rfl) (by kernel_rfl) (by kernel_rfl)) ?_
 intro W base args ds gs before hval0 hW hcnd _
 have hval : ∀ (j : Nat) t v, Try.f6.params[j]? = some t → args[j]? = some v → Value.okWide Try.prog W .any base t v := hval0
 have hW' := hW
 obtain ⟨p, q, hA0, hV, rfl, hfz, hnd⟩ := hW
 have hA : DataW.TrodAll enc Try.prog W 0 (fun _ => true) true Try.f6.params.toList args.toList ds p := hA0
 have hAk := hA
 rw [Try.params6] at hA hval
 obtain ⟨v0, vs0, d0, ds0, p0, q0, hargs, rfl, rfl, h0, r0⟩ := trodAll_cons hA
 obtain ⟨v1, vs1, d1, ds1, p1, q1, rfl, rfl, rfl, h1, r1⟩ := trodAll_cons r0
 obtain ⟨v2, vs2, d2, ds2, p2, q2, rfl, rfl, rfl, h2, r2⟩ := trodAll_cons r1
 obtain ⟨v3, vs3, d3, ds3, p3, q3, rfl, rfl, rfl, h3, r3⟩ := trodAll_cons r2
 obtain ⟨rfl, rfl, rfl⟩ := trodAll_nil r3
 obtain rfl : args = #[v0, v1, v2, v3] := by cases args; simp_all
 obtain ⟨rfl, rfl⟩ := trodVars_none hV
 obtain ⟨e, he⟩ := read_sl votesT h0 (okWide_slice Try.underlying53 (hval 0 53 v0 rfl rfl))
 obtain ⟨n1, rfl, _, _, w1⟩ := open_int Try.underlying3 (hval 1 3 v1 rfl rfl) h1
 obtain ⟨n2, rfl, _, _, w2⟩ := open_int Try.underlying3 (hval 2 3 v2 rfl rfl) h2
 obtain ⟨e3, he3⟩ := read_sl viewsT h3 (okWide_slice Try.underlying65 (hval 3 65 v3 rfl rfl))
 clear hA0 hval0
 simp only [List.append_nil] at hW'
 refine (calls_true (us := #[v0, .int .i64 n1, .int .i64 n2, v3]) (W := W) Cn.c6 at6.call (fun j => [e, .v (.int .i64 n1), .v (.int .i64 n2), e3].getD j default) ⟨he, read_int (W := W) w1, read_int (W := W) w2, he3, trivial⟩).mono fun e W' ⟨he, hg⟩ => ?_
 subst he
 exact ⟨_, rfl, post_of_old (pv := []) hW' (fun _ _ _ => (trodAll_cons_mk (shut_bool Try.underlying4 _) trodAll_mk0)) (fun sp hsp => TrodAll.old hg.old (DataW.TrodAll.respare kids full (by rw [Try.params6]; decide +kernel) hAk (fun p hp => hsp p (by simpa using hp)))) (fun _ _ => rfl) (by simp)
  hg.old hg.os hg.output (ok_one (by kernel_rfl) rfl (okWide_bool_mk Try.underlying4 _))⟩
theorem canonKeeps : Rows.CanonKeepsSaid :=
 OpenClaim.holds_of_wide 6 Try.f6 rfl rfl rfl rfl rfl rfl rfl ⟨rfl, rfl, rfl, rfl, rfl⟩ rfl rfl rfl rfl rfl (by kernel_rfl) Try.func6 (by kernel_rfl)
  (of_decide_eq_true (by kernel_rfl)) (by unfold Func.isWrapper; first | (rw [if_pos (by decide +kernel)]; kernel_rfl) | (rw [if_neg (by decide +kernel)]; exact ⟨rfl, rfl⟩))
  (fun os started H enc _ => canonKeeps_lifted os started H enc)
#print axioms canonKeeps
end Go.Proofs.Ytlbbkmcegbeckaa
