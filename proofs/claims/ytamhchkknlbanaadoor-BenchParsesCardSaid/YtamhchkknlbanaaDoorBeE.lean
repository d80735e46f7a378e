/-
  Contracts of a seat's functions: what lines begin with, by the reference. Conditions: none.
-/
import Derived.Test.YtamhchkknlbanaaDoorBeC
set_option linter.unusedSectionVars false
set_option linter.unusedVariables false
set_option linter.unusedSimpArgs false
namespace Go.Proofs.YtamhchkknlbanaaDoor.Be
open Go.Sx Go.Proofs
def subT (d : CD) (a b : Int) : CD := .v (.string ⟨((d.str.toList.take b.toNat).drop a.toNat).toArray⟩)
theorem a2e [Sg] (x a b : X) : den (.ap .ssub [x, a, b]) = subT (den x) (den a).iv (den b).iv := rfl
theorem sl0 {n : Int} (h : 0 ≤ n) : ((CD.v (.string ⟨⟨[]⟩⟩)).slen : Int) ≤ n := by
 show ((clip 0 : Nat) : Int) ≤ n
 unfold clip
 omega
theorem ty_i {z : Int} (h1 : 0 ≤ z) (h2 : z ≤ 5000) : Typ sI (vInt .i64 z) := by
 refine ⟨fun _ _ => False, .int .i64 z, z, rfl, rfl, ?_⟩
 have e1 : IntKind.i64.min = -9223372036854775808 := by decide
 have e2 : IntKind.i64.max = 9223372036854775807 := by decide
 simp only [abh, Bool.and_eq_true, decide_eq_true_eq]
 omega
theorem bk8 {c : CD} (h : Typ sI c) : c = vInt .i64 c.iv := by
 obtain ⟨m, u, n, rfl, _⟩ := h
 rfl
theorem bh0 {c : CD} {n : Int} (h : Typ sI c) : (eqC c (vInt .i64 n) = true) = (c.iv = n) := by
 have e := bk8 h
 rw [e]
 show (decide (c.iv = n) = true) = _
 rw [decide_eq_true_eq]
 rfl
theorem lt_i {c : CD} {n : Nat} (hn : ¬ eqC c (vInt .i64 n) = true) (hT : Typ sI c) (hl : c.iv ≤ n) : c.iv < n := by
 rw [bh0 hT] at hn
 omega
theorem ay8 {d : CD} (hT : Typ .str d) : ((line d).length : Int) = d.slen + 1 := by
 rw [abd hT]
 unfold line
 rw [List.length_append]
 rfl
theorem ajy {l : List UInt8} {b : UInt8} : st (l ++ [b]) = stp (st l) b := by
 unfold st
 rw [List.foldl_append]
 rfl
theorem ain {l : List UInt8} {b : UInt8} : okW (l ++ [b]) = (okW l && okB b && (!decide (b.toNat = 32) || !(st l).2.isEmpty)) := by
 unfold okW
 rw [List.all_append, ajy]
 unfold stp
 by_cases h : b.toNat = 32
 ·rw [if_pos h, List.all_append, decide_eq_true h]
  simp only [List.all_cons, List.all_nil, Bool.and_true, Bool.not_true, Bool.false_or]
  cases l.all okB <;> cases okB b <;> simp
 ·rw [if_neg h, decide_eq_false h]
  simp only [List.all_cons, List.all_nil, Bool.and_true, Bool.not_false, Bool.true_or]
  cases l.all okB <;> cases okB b <;> simp
theorem aeh {d : CD} {i : Int} (h0 : 0 ≤ i) (hi : i ≤ d.slen) (hT : Typ .str d) : (line d).take (i + 1).toNat = (line d).take i.toNat ++ [(line d).getD i.toNat 0] := by
 have := ay8 hT
 rw [show (i + 1).toNat = i.toNat + 1 by omega, agi (by omega)]
theorem alk {d : CD} {i : Int} (h0 : 0 ≤ i) (hi : i < d.slen) (hT : Typ .str d) : (((line d).getD i.toNat 0).toNat : Int) = byAt d i := by
 rw [abd hT] at hi
 unfold line byAt
 rw [List.getD_eq_getElem?_getD, List.getElem?_append_left (by omega), ← List.getD_eq_getElem?_getD]
theorem a8s {d : CD} {i : Int} (hi : i = d.slen) (hT : Typ .str d) : ((line d).getD i.toNat 0).toNat = 32 := by
 rw [abd hT] at hi
 unfold line
 rw [List.getD_eq_getElem?_getD, List.getElem?_append_right (by omega), hi]
 simp
theorem aye {d c : CD} (hs : eqC c (vInt .i64 (d.slen : Int)) = true ∨ eqC (vInt .u8 (byAt d c.iv)) (vInt .u8 32) = true) (hc : Typ sI c) (h0 : 0 ≤ c.iv) (hi : c.iv ≤ d.slen) (hT : Typ .str d) : ((line d).getD c.iv.toNat 0).toNat = 32 := by
 rcases Int.lt_or_eq_of_le hi with h | h
 ·rcases hs with hs | hs
  ·rw [bh0 hc] at hs
   omega
  ·rw [ajl, decide_eq_true_eq] at hs
   have := alk h0 h hT
   omega
 ·exact a8s h hT
theorem bjf {d p c : CD} {r : List (List CD)} (hr : r = aar ((line d).take c.iv.toNat)) (hp : p = tx (st ((line d).take c.iv.toNat)).2) (hs : eqC c (vInt .i64 (d.slen : Int)) = true ∨ eqC (vInt .u8 (byAt d c.iv)) (vInt .u8 32) = true) (hc : Typ sI c) (h0 : 0 ≤ c.iv) (hi : c.iv ≤ d.slen) (hT : Typ .str d) : r ++ ([] ++ [[p]]) = aar ((line d).take (c.iv + 1).toNat) := by
 unfold aar
 rw [aeh h0 hi hT, ajy]
 unfold stp
 rw [if_pos (aye hs hc h0 hi hT), hr, hp, List.map_append]
 rfl
theorem bh6 {d c : CD} (hs : eqC c (vInt .i64 (d.slen : Int)) = true ∨ eqC (vInt .u8 (byAt d c.iv)) (vInt .u8 32) = true) (hc : Typ sI c) (h0 : 0 ≤ c.iv) (hi : c.iv ≤ d.slen) (hT : Typ .str d) : CD.v (.string ⟨⟨[]⟩⟩) = tx (st ((line d).take (c.iv + 1).toNat)).2 := by
 rw [aeh h0 hi hT, ajy]
 unfold stp
 rw [if_pos (aye hs hc h0 hi hT)]
 rfl
theorem tx_e {l : List UInt8} : (eqC (tx l) (.v (.string ⟨⟨[]⟩⟩)) = true) = (l = []) := by
 unfold tx
 rw [apj, ByteArray.toList_eq, ByteArray.toList_eq]
theorem bca {d p c : CD} (hp : p = tx (st ((line d).take c.iv.toNat)).2) (hn : ¬ eqC p (.v (.string ⟨⟨[]⟩⟩)) = true) (hk : okW ((line d).take c.iv.toNat) = true) (hs : eqC c (vInt .i64 (d.slen : Int)) = true ∨ eqC (vInt .u8 (byAt d c.iv)) (vInt .u8 32) = true) (hc : Typ sI c) (h0 : 0 ≤ c.iv) (hi : c.iv ≤ d.slen) (hT : Typ .str d) : okW ((line d).take (c.iv + 1).toNat) = true := by
 have hb := aye hs hc h0 hi hT
 rw [hp, tx_e] at hn
 rw [aeh h0 hi hT, ain, hk]
 have e1 : okB ((line d).getD c.iv.toNat 0) = true := by
  unfold okB
  rw [decide_eq_true hb]
  rfl
 have e2 : (st ((line d).take c.iv.toNat)).2.isEmpty = false := by
  cases hq : (st ((line d).take c.iv.toNat)).2 with
  | nil => exact absurd hq hn
  | cons _ _ => rfl
 rw [e1, e2]
 simp
theorem a92 {d : CD} {i : Int} (h1 : ¬ eqC (vInt .u8 (byAt d i)) (vInt .u8 32) = true) (h0 : 0 ≤ i) (hi : i < d.slen) (hT : Typ .str d) : ¬ ((line d).getD i.toNat 0).toNat = 32 := by
 rw [ajl, decide_eq_true_eq] at h1
 have := alk h0 hi hT
 omega
theorem bjm {d : CD} {r : List (List CD)} {i : Int} (hr : r = aar ((line d).take i.toNat)) (h1 : ¬ eqC (vInt .u8 (byAt d i)) (vInt .u8 32) = true) (h0 : 0 ≤ i) (hi : i < d.slen) (hT : Typ .str d) : r = aar ((line d).take (i + 1).toNat) := by
 unfold aar
 rw [aeh h0 (by omega) hT, ajy]
 unfold stp
 rw [if_neg (a92 h1 h0 hi hT)]
 exact hr
theorem a2b : ∀ (n : Nat) {l : List UInt8}, l.length = n → (st l).2.length ≤ n
 | 0, l, h => by
  rw [List.length_eq_zero_iff.1 h]
  exact Nat.le_refl _
 | n + 1, l, h => by
  have hl : l = l.take n ++ [l.getD n 0] := by
   rw [← agi (by omega), List.take_of_length_le (by omega)]
  rw [hl, ajy]
  have := a2b n (l := l.take n) (by rw [List.length_take]; omega)
  unfold stp
  split
  ·exact Nat.zero_le _
  ·rw [List.length_append]
   simp only [List.length_cons, List.length_nil]
   omega
theorem bi6 {d : CD} {i : Int} (h0 : 0 ≤ i) (hi : i < d.slen) (hT : Typ .str d) : subT d i (i + 1) = tx [(line d).getD i.toNat 0] := by
 have e := alk h0 hi hT
 rw [abd hT] at hi
 unfold subT tx
 have h2 : ((by' d).take (i + 1).toNat).drop i.toNat = [(by' d).getD i.toNat 0] := by
  rw [show (i + 1).toNat = i.toNat + 1 by omega, agi (by omega), List.drop_append_of_le_length (by rw [List.length_take]; omega), List.drop_of_length_le (by rw [List.length_take]; omega), List.nil_append]
 have h3 : (line d).getD i.toNat 0 = (by' d).getD i.toNat 0 := by
  unfold line
  rw [List.getD_eq_getElem?_getD, List.getElem?_append_left (by omega), ← List.getD_eq_getElem?_getD]
 rw [h2, h3]
theorem bdk {l : List UInt8} : ((tx l).slen : Int) ≤ l.length := by
 show ((clip l.toArray.size : Nat) : Int) ≤ _
 unfold clip
 rw [List.size_toArray]
 omega
theorem ss1 {d : CD} {i : Int} (h0 : 0 ≤ i) (hi : i < d.slen) (hT : Typ .str d) : ((subT d i (i + 1)).slen : Int) ≤ 1 := by
 rw [bi6 h0 hi hT]
 exact bdk
theorem bkl {a b : List UInt8} (h : a.length + b.length ≤ 9223372036854775807) : orV (strA .add (tx a).str (tx b).str) = tx (a ++ b) := by
 have e : strA .add (tx a).str (tx b).str = if a.toArray.size + b.toArray.size ≤ 9223372036854775807 then some (.string ((⟨a.toArray⟩ : ByteArray) ++ ⟨b.toArray⟩)) else none := rfl
 rw [e, if_pos (by simpa using h)]
 show CD.v (.string _) = CD.v (.string _)
 congr 2
theorem bds {d p : CD} {i : Int} (hp : p = tx (st ((line d).take i.toNat)).2) (h1 : ¬ eqC (vInt .u8 (byAt d i)) (vInt .u8 32) = true) (h0 : 0 ≤ i) (hi : i < d.slen) (hT : Typ .str d) (hm : (d.slen : Int) ≤ 2500) : orV (strA .add p.str (subT d i (i + 1)).str) = tx (st ((line d).take (i + 1).toNat)).2 := by
 have hl := a2b _ (l := (line d).take i.toNat) rfl
 rw [List.length_take] at hl
 rw [hp, bi6 h0 hi hT, bkl (by simp only [List.length_cons, List.length_nil]; omega), aeh h0 (by omega) hT, ajy]
 unfold stp
 rw [if_neg (a92 h1 h0 hi hT)]
theorem bi7 {d p : CD} {i : Int} (hp : p = tx (st ((line d).take i.toNat)).2) (h1 : ¬ eqC (vInt .u8 (byAt d i)) (vInt .u8 32) = true) (h0 : 0 ≤ i) (hi : i < d.slen) (hT : Typ .str d) (hm : (d.slen : Int) ≤ 2500) : ((orV (strA .add p.str (subT d i (i + 1)).str)).slen : Int) ≤ i + 1 := by
 rw [bds hp h1 h0 hi hT hm]
 have hl := a2b _ (l := (line d).take (i + 1).toNat) rfl
 rw [List.length_take] at hl
 have := bdk (l := (st ((line d).take (i + 1).toNat)).2)
 omega
theorem bdf {d : CD} {i : Int} (hk : okW ((line d).take i.toNat) = true) (h1 : ¬ eqC (vInt .u8 (byAt d i)) (vInt .u8 32) = true) (h2 : ¬ byAt d i < 33) (h3 : ¬ 126 < byAt d i) (h0 : 0 ≤ i) (hi : i < d.slen) (hT : Typ .str d) : okW ((line d).take (i + 1).toNat) = true := by
 have e := alk h0 hi hT
 have n32 := a92 h1 h0 hi hT
 rw [aeh h0 (by omega) hT, ain, hk, decide_eq_false n32]
 have : okB ((line d).getD i.toNat 0) = true := by
  unfold okB
  rw [decide_eq_true (show 33 ≤ ((line d).getD i.toNat 0).toNat by omega), decide_eq_true (show ((line d).getD i.toNat 0).toNat ≤ 126 by omega)]
  simp
 rw [this]
 rfl
theorem a3t {l : List UInt8} : ∀ (n : Nat) {q : List UInt8}, q.length = n → okW (l ++ q) = true → okW l = true
 | 0, q, h, hk => by rwa [List.length_eq_zero_iff.1 h, List.append_nil] at hk
 | n + 1, q, h, hk => by
  have hq : q = q.take n ++ [q.getD n 0] := by
   rw [← agi (by omega), List.take_of_length_le (by omega)]
  rw [hq, ← List.append_assoc, ain, Bool.and_eq_true, Bool.and_eq_true] at hk
  exact a3t n (by rw [List.length_take]; omega) hk.1.1
theorem w_no {d : CD} (h : okW (line d) = false) : [[mkz (aas d)], [aaf (okW (line d))]] = [[CD.sl true []], [aaf false]] := by
 unfold aas
 rw [h]
 rfl
theorem bj3 {d : CD} {i : Int} (h : okW ((line d).take i.toNat) = false) : [[mkz (aas d)], [aaf (okW (line d))]] = [[CD.sl true []], [aaf false]] := by
 refine w_no ?_
 rw [Bool.eq_false_iff]
 intro hk
 rw [← List.take_append_drop i.toNat (line d)] at hk
 rw [a3t _ rfl hk] at h
 cases h
theorem w_1 {d p c : CD} (hp : p = tx (st ((line d).take c.iv.toNat)).2) (hn : eqC p (.v (.string ⟨⟨[]⟩⟩)) = true) (hs : eqC c (vInt .i64 (d.slen : Int)) = true ∨ eqC (vInt .u8 (byAt d c.iv)) (vInt .u8 32) = true) (hc : Typ sI c) (h0 : 0 ≤ c.iv) (hi : c.iv ≤ d.slen) (hT : Typ .str d) : [[mkz (aas d)], [aaf (okW (line d))]] = [[CD.sl true []], [aaf false]] := by
 have hb := aye hs hc h0 hi hT
 rw [hp, tx_e] at hn
 refine bj3 (i := c.iv + 1) ?_
 rw [aeh h0 hi hT, ain, hn, decide_eq_true hb]
 simp
theorem w_b {d : CD} {i : Int} (hx : byAt d i < 33 ∨ 126 < byAt d i) (h1 : ¬ eqC (vInt .u8 (byAt d i)) (vInt .u8 32) = true) (h0 : 0 ≤ i) (hi : i < d.slen) (hT : Typ .str d) : [[mkz (aas d)], [aaf (okW (line d))]] = [[CD.sl true []], [aaf false]] := by
 have e := alk h0 hi hT
 have n32 := a92 h1 h0 hi hT
 refine bj3 (i := i + 1) ?_
 have : okB ((line d).getD i.toNat 0) = false := by
  unfold okB
  rw [decide_eq_false n32, Bool.false_or, Bool.and_eq_false_iff]
  rcases hx with hx | hx
  ·exact .inl (decide_eq_false (by omega))
  ·exact .inr (decide_eq_false (by omega))
 rw [aeh h0 (by omega) hT, ain, this]
 simp
theorem w_b1 {d : CD} {i : Int} (hx : byAt d i < 33) (h1 : ¬ eqC (vInt .u8 (byAt d i)) (vInt .u8 32) = true) (h0 : 0 ≤ i) (hi : i < d.slen) (hT : Typ .str d) : [[mkz (aas d)], [aaf (okW (line d))]] = [[CD.sl true []], [aaf false]] := w_b (.inl hx) h1 h0 hi hT
theorem w_b2 {d : CD} {i : Int} (hx : 126 < byAt d i) (h1 : ¬ eqC (vInt .u8 (byAt d i)) (vInt .u8 32) = true) (h0 : 0 ≤ i) (hi : i < d.slen) (hT : Typ .str d) : [[mkz (aas d)], [aaf (okW (line d))]] = [[CD.sl true []], [aaf false]] := w_b (.inr hx) h1 h0 hi hT
theorem w_y {d : CD} {r : List (List CD)} {i : Int} (hr : r = aar ((line d).take i.toNat)) (hk : okW ((line d).take i.toNat) = true) (hi : ¬ i ≤ d.slen) (hT : Typ .str d) : [[mkz (aas d)], [aaf (okW (line d))]] = [[mkz r], [aaf true]] := by
 have hl := ay8 hT
 rw [List.take_of_length_le (by omega)] at hr hk
 unfold aas
 rw [if_pos hk, hk, hr]
theorem wr_z {d : CD} : [] = aar ((line d).take (Int.toNat 0)) := rfl
theorem wt_z {d : CD} : CD.v (.string ⟨⟨[]⟩⟩) = tx (st ((line d).take (Int.toNat 0))).2 := rfl
theorem wk_z {d : CD} : okW ((line d).take (Int.toNat 0)) = true := rfl
noncomputable def azq : Fsp := ⟨[(false, [.str])], [.ap .le [.ap .slen [.var 0], I 2500]], [(false, [.sl [.str]]), (false, [.bool])], [([], [[.ap (.usr 223) [.var 0]], [.ap (.usr 224) [.var 0]]])], true⟩
noncomputable def lp22 : Lp := ⟨[(.slot 4, .own true [.str]), (.slot 5, .str), (.slot 6, .int .i64)], [0, 2, 3], [], fun F H k => [.ap .le [zI, .var (k+3)], .ap .le [.var (k+3), .ap (.add .i64) [.ap .slen [.var 0], I 1]], .ap .le [zI, .var k], .ap .le [.var k, .var (k+3)], .ap .le [.ap .slen [.var (k+2)], .var (k+3)], .ap .same [.ap (.mk true) [.var (k+1)], .ap (.usr 220) [.var 0, .var (k+3)]], .ap .same [.var (k+2), .ap (.usr 221) [.var 0, .var (k+3)]], .ap (.usr 222) [.var 0, .var (k+3)], .ap (.typ (.int .i64)) [.var (k+3)]], fun F H k => .ap (.sub .i64) [.ap (.add .i64) [.ap .slen [.var 0], I 1], .var (k+3)]⟩
abbrev agq : List X := [(.ap .le [(I 0), (.var 4)]), (.ap .le [(.var 4), (.ap (.add .i64) [(.ap .slen [(.var 0)]), (I 1)])]), (.ap .le [(I 0), (.var 1)]), (.ap .le [(.var 1), (.var 4)]), (.ap .le [(.ap .slen [(.var 3)]), (.var 4)]), (.ap .same [(.ap (.mk true) [(.var 2)]), (.ap (.usr 220) [(.var 0), (.var 4)])]), (.ap .same [(.var 3), (.ap (.usr 221) [(.var 0), (.var 4)])]), (.ap (.usr 222) [(.var 0), (.var 4)]), (.ap (.typ sI) [(.var 4)]), (.ap (.typ .str) [(.var 0)]), (.ap .le [(.ap .slen [(.var 0)]), (I 2500)])]
abbrev ap8 : List X := (.ap .not [(.ap .eq [(.ap .sidx [(.var 0), (.var 4)]), (.lit (.int .u8 32))])]) :: (.ap .not [(.ap .eq [(.var 4), (.ap .slen [(.var 0)])])]) :: (.ap .le [(.var 4), (.ap .slen [(.var 0)])]) :: agq
abbrev aj4 : List X := (.ap .not [(.ap .lt [(.lit (.int .u8 126)), (.ap .sidx [(.var 0), (.var 4)])])]) :: (.ap .not [(.ap .lt [(.ap .sidx [(.var 0), (.var 4)]), (.lit (.int .u8 33))])]) :: (.ap .lt [(.var 4), (.ap .slen [(.var 0)])]) :: ap8
abbrev akh : List X := (.ap .eq [(.ap .sidx [(.var 0), (.var 4)]), (.lit (.int .u8 32))]) :: (.ap .not [(.ap .eq [(.var 4), (.ap .slen [(.var 0)])])]) :: (.ap .le [(.var 4), (.ap .slen [(.var 0)])]) :: agq
def bdx : List VC := [([(.ap (.typ .str) [(.var 0)]), (.ap .le [(.ap .slen [(.var 0)]), (I 2500)])], (.ap .le [(.ap .slen [(.lit (.string (.mk (.mk []))))]), (I 0)])),
 ([(.ap (.typ .str) [(.var 0)]), (.ap .le [(.ap .slen [(.var 0)]), (I 2500)])], (.ap .same [(.ap (.mk true) [(.ap (.nil true) [])]), (.ap (.usr 220) [(.var 0), (I 0)])])),
 ([(.ap (.typ .str) [(.var 0)]), (.ap .le [(.ap .slen [(.var 0)]), (I 2500)])], (.ap .same [(.lit (.string (.mk (.mk [])))), (.ap (.usr 221) [(.var 0), (I 0)])])),
 ([(.ap (.typ .str) [(.var 0)]), (.ap .le [(.ap .slen [(.var 0)]), (I 2500)])], (.ap (.usr 222) [(.var 0), (I 0)])),
 ([(.ap (.typ .str) [(.var 0)]), (.ap .le [(.ap .slen [(.var 0)]), (I 2500)])], (.ap (.typ sI) [(I 0)])),
 (ap8, (.ap .lt [(.var 4), (.ap .slen [(.var 0)])])),
 (aj4, (.ap .le [(.ap .slen [(.ap .ssub [(.var 0), (.var 4), (.ap (.add .i64) [(.var 4), (I 1)])])]), (I 1)])),
 (((.ap .not [(.ap .eq [(.var 3), (.lit (.string (.mk (.mk []))))])]) :: (.ap .eq [(.var 4), (.ap .slen [(.var 0)])]) :: (.ap .le [(.var 4), (.ap .slen [(.var 0)])]) :: agq), (.ap .le [(.ap .slen [(.lit (.string (.mk (.mk []))))]), (.ap (.add .i64) [(.var 4), (I 1)])])),
 (((.ap .not [(.ap .eq [(.var 3), (.lit (.string (.mk (.mk []))))])]) :: (.ap .eq [(.var 4), (.ap .slen [(.var 0)])]) :: (.ap .le [(.var 4), (.ap .slen [(.var 0)])]) :: agq), (.ap .same [(.ap (.mk true) [(.ap .cat [(.var 2), (.ap .snoc [(.ap (.nil false) []), (.var 3)])])]), (.ap (.usr 220) [(.var 0), (.ap (.add .i64) [(.var 4), (I 1)])])])),
 (((.ap .not [(.ap .eq [(.var 3), (.lit (.string (.mk (.mk []))))])]) :: (.ap .eq [(.var 4), (.ap .slen [(.var 0)])]) :: (.ap .le [(.var 4), (.ap .slen [(.var 0)])]) :: agq), (.ap .same [(.lit (.string (.mk (.mk [])))), (.ap (.usr 221) [(.var 0), (.ap (.add .i64) [(.var 4), (I 1)])])])),
 (((.ap .not [(.ap .eq [(.var 3), (.lit (.string (.mk (.mk []))))])]) :: (.ap .eq [(.var 4), (.ap .slen [(.var 0)])]) :: (.ap .le [(.var 4), (.ap .slen [(.var 0)])]) :: agq), (.ap (.usr 222) [(.var 0), (.ap (.add .i64) [(.var 4), (I 1)])])),
 (((.ap .not [(.ap .eq [(.var 3), (.lit (.string (.mk (.mk []))))])]) :: (.ap .eq [(.var 4), (.ap .slen [(.var 0)])]) :: (.ap .le [(.var 4), (.ap .slen [(.var 0)])]) :: agq), (.ap (.typ sI) [(.ap (.add .i64) [(.var 4), (I 1)])])),
 (((.ap .not [(.ap .eq [(.var 3), (.lit (.string (.mk (.mk []))))])]) :: akh), (.ap .le [(.ap .slen [(.lit (.string (.mk (.mk []))))]), (.ap (.add .i64) [(.var 4), (I 1)])])),
 (((.ap .not [(.ap .eq [(.var 3), (.lit (.string (.mk (.mk []))))])]) :: akh), (.ap .same [(.ap (.mk true) [(.ap .cat [(.var 2), (.ap .snoc [(.ap (.nil false) []), (.var 3)])])]), (.ap (.usr 220) [(.var 0), (.ap (.add .i64) [(.var 4), (I 1)])])])),
 (((.ap .not [(.ap .eq [(.var 3), (.lit (.string (.mk (.mk []))))])]) :: akh), (.ap .same [(.lit (.string (.mk (.mk [])))), (.ap (.usr 221) [(.var 0), (.ap (.add .i64) [(.var 4), (I 1)])])])),
 (((.ap .not [(.ap .eq [(.var 3), (.lit (.string (.mk (.mk []))))])]) :: akh), (.ap (.usr 222) [(.var 0), (.ap (.add .i64) [(.var 4), (I 1)])])),
 (((.ap .not [(.ap .eq [(.var 3), (.lit (.string (.mk (.mk []))))])]) :: akh), (.ap (.typ sI) [(.ap (.add .i64) [(.var 4), (I 1)])])),
 (((.ap .le [(.ap .slen [(.ap .ssub [(.var 0), (.var 4), (.ap (.add .i64) [(.var 4), (I 1)])])]), (I 1)]) :: aj4), (.ap .le [(.ap .slen [(.ap (.sbin .add) [(.var 3), (.ap .ssub [(.var 0), (.var 4), (.ap (.add .i64) [(.var 4), (I 1)])])])]), (.ap (.add .i64) [(.var 4), (I 1)])])),
 (((.ap .le [(.ap .slen [(.ap .ssub [(.var 0), (.var 4), (.ap (.add .i64) [(.var 4), (I 1)])])]), (I 1)]) :: aj4), (.ap .same [(.ap (.mk true) [(.var 2)]), (.ap (.usr 220) [(.var 0), (.ap (.add .i64) [(.var 4), (I 1)])])])),
 (((.ap .le [(.ap .slen [(.ap .ssub [(.var 0), (.var 4), (.ap (.add .i64) [(.var 4), (I 1)])])]), (I 1)]) :: aj4), (.ap .same [(.ap (.sbin .add) [(.var 3), (.ap .ssub [(.var 0), (.var 4), (.ap (.add .i64) [(.var 4), (I 1)])])]), (.ap (.usr 221) [(.var 0), (.ap (.add .i64) [(.var 4), (I 1)])])])),
 (((.ap .le [(.ap .slen [(.ap .ssub [(.var 0), (.var 4), (.ap (.add .i64) [(.var 4), (I 1)])])]), (I 1)]) :: aj4), (.ap (.usr 222) [(.var 0), (.ap (.add .i64) [(.var 4), (I 1)])])),
 (((.ap .le [(.ap .slen [(.ap .ssub [(.var 0), (.var 4), (.ap (.add .i64) [(.var 4), (I 1)])])]), (I 1)]) :: aj4), (.ap (.typ sI) [(.ap (.add .i64) [(.var 4), (I 1)])]))]
def be3 : List (List X × List (List X)) := [(((.ap .eq [(.var 3), (.lit (.string (.mk (.mk []))))]) :: (.ap .eq [(.var 4), (.ap .slen [(.var 0)])]) :: (.ap .le [(.var 4), (.ap .slen [(.var 0)])]) :: agq), [[(.ap (.nil true) [])], [(.lit (.bool false))]]),
 (((.ap .eq [(.var 3), (.lit (.string (.mk (.mk []))))]) :: akh), [[(.ap (.nil true) [])], [(.lit (.bool false))]]),
 (((.ap .lt [(.ap .sidx [(.var 0), (.var 4)]), (.lit (.int .u8 33))]) :: (.ap .lt [(.var 4), (.ap .slen [(.var 0)])]) :: ap8), [[(.ap (.nil true) [])], [(.lit (.bool false))]]),
 (((.ap .lt [(.lit (.int .u8 126)), (.ap .sidx [(.var 0), (.var 4)])]) :: (.ap .not [(.ap .lt [(.ap .sidx [(.var 0), (.var 4)]), (.lit (.int .u8 33))])]) :: (.ap .lt [(.var 4), (.ap .slen [(.var 0)])]) :: ap8), [[(.ap (.nil true) [])], [(.lit (.bool false))]]),
 (((.ap .not [(.ap .le [(.var 4), (.ap .slen [(.var 0)])])]) :: agq), [[(.ap (.mk true) [(.var 2)])], [(.lit (.bool true))]])]
theorem bh5 : runS Tryd.prog (aev T0) 10 10 ⟨ad8 [(4, lp22)], hintA [(11, fun F H => [.ap .lt [sx F 6, .ap .slen [.var 0]]]), (13, fun F H => [.ap .le [.ap .slen [.ap .ssub [.var 0, sx F 6, .ap (.add .i64) [sx F 6, I 1]]], I 1]])]⟩ Tryd.f22 (abr Tryd.f22) azq = some (bdx, be3) := by kernel_rfl
set_option maxHeartbeats 4000000 in
set_option maxRecDepth 100000 in
theorem c22 : aaq U Tryd.prog 22 azq := by
 refine aaq.of (P := Tryd.prog) (U := U) (T := T0) (f := 22) (fn := Tryd.f22) (fuel := 10) (fk := 10) (hs := ⟨ad8 [(4, lp22)], hintA [(11, fun F H => [.ap .lt [sx F 6, .ap .slen [.var 0]]]), (13, fun F H => [.ap .le [.ap .slen [.ap .ssub [.var 0, sx F 6, .ap (.add .i64) [sx F 6, I 1]]], I 1]])]⟩) (S := azq) (v := bdx) (outs := be3) mixed hT0 at22 bh5 ?_ ?_
 ·unfold bdx
  repeat' (first | exact ac8 _ | refine adp (fun v hh => ?_) ?_)
  all_goals
   simp only [aa1, aa5, aa4, aa6, abg, b_lt, b_le, b_eq, aaz, abe, aao, aan, abj, w_mk, aat, abq, abb, aa2, abn, w_l0, w_l1, aac, aag, aa3, aae, aad, aam, aak, bfh, bd2, bg4, azw, anw, mnX, mxX, ad2, acg, ac2, ab3, abk, ady, a2e, w_eq, ad7, ac6, agk, agq, ap8, aj4, akh] at hh ⊢
   repeat (obtain ⟨_, hh⟩ := hh)
   try (first | grind [= aac, = aac] | (apply sl0 <;> first | assumption | grind [= aac]) | (apply ty_i <;> first | assumption | grind [= aac]) | (apply lt_i <;> first | assumption | grind [= aac]) | (apply wr_z <;> first | assumption | grind [= aac]) | (apply wt_z <;> first | assumption | grind [= aac]) | (apply wk_z <;> first | assumption | grind [= aac]) | (apply bjf <;> first | assumption | grind [= aac]) | (apply bh6 <;> first | assumption | grind [= aac]) | (apply bca <;> first | assumption | grind [= aac]) | (apply bjm <;> first | assumption | grind [= aac]) | (apply bds <;> first | assumption | grind [= aac]) | (apply bi7 <;> first | assumption | grind [= aac]) | (apply bdf <;> first | assumption | grind [= aac]) | (apply ss1 <;> first | assumption | grind [= aac]) | (apply w_1 <;> first | assumption | grind [= aac]) | (apply w_b1 <;> first | assumption | grind [= aac]) | (apply w_b2 <;> first | assumption | grind [= aac]) | (apply w_y <;> first | assumption | grind [= aac]))
 ·intro o ho σ hU hh
  obtain ⟨v⟩ := σ
  cases hU
  simp only [be3, List.mem_cons, List.not_mem_nil, or_false] at ho
  repeat' (first | (rcases ho with rfl | ho) | subst ho)
  all_goals
   refine ⟨_, List.mem_cons_self .., by simp only [aa1, aa5, aa4, aa6, abg, b_lt, b_le, b_eq, aaz, abe, aao, aan, abj, w_mk, aat, abq, abb, aa2, abn, w_l0, w_l1, aac, aag, aa3, aae, aad, aam, aak], ?_⟩
   simp only [aa1, aa5, aa4, aa6, abg, b_lt, b_le, b_eq, aaz, abe, aao, aan, abj, w_mk, aat, abq, abb, aa2, abn, w_l0, w_l1, aac, aag, aa3, aae, aad, aam, aak, bfh, bd2, bg4, azw, anw, mnX, mxX, ad2, acg, ac2, ab3, abk, ady, a2e, w_eq, ad7, ac6, agk, agq, ap8, aj4, akh] at hh
   simp only [List.map_cons, List.map_nil, aa1, aa5, aa4, aa6, abg, b_lt, b_le, b_eq, aaz, abe, aao, aan, abj, w_mk, aat, abq, abb, aa2, abn, w_l0, w_l1, aac, aag, aa3, aae, aad, aam, aak, w_lt, w_le, w_eq, ald, aii, aoh, bfh, bd2, bg4, azw, anw, mnX, mxX, ad2, acg, ac2, ab3, abk, ady, a2e, w_eq, ad7, ac6, agk]
   repeat (obtain ⟨_, hh⟩ := hh)
   try (first | grind [= aac, = aac] | (apply sl0 <;> first | assumption | grind [= aac]) | (apply ty_i <;> first | assumption | grind [= aac]) | (apply lt_i <;> first | assumption | grind [= aac]) | (apply wr_z <;> first | assumption | grind [= aac]) | (apply wt_z <;> first | assumption | grind [= aac]) | (apply wk_z <;> first | assumption | grind [= aac]) | (apply bjf <;> first | assumption | grind [= aac]) | (apply bh6 <;> first | assumption | grind [= aac]) | (apply bca <;> first | assumption | grind [= aac]) | (apply bjm <;> first | assumption | grind [= aac]) | (apply bds <;> first | assumption | grind [= aac]) | (apply bi7 <;> first | assumption | grind [= aac]) | (apply bdf <;> first | assumption | grind [= aac]) | (apply ss1 <;> first | assumption | grind [= aac]) | (apply w_1 <;> first | assumption | grind [= aac]) | (apply w_b1 <;> first | assumption | grind [= aac]) | (apply w_b2 <;> first | assumption | grind [= aac]) | (apply w_y <;> first | assumption | grind [= aac]))
end Go.Proofs.YtamhchkknlbanaaDoor.Be

namespace Go.Proofs.YtamhchkknlbanaaDoor.Be
open Go.Sx Go.Proofs
theorem a3e {d : CD} {l : List UInt8} (hT : Typ .str d) : (eqC d (.v (.string ⟨⟨l⟩⟩)) = true) = (by' d = l) := by
 obtain ⟨s, rfl, h⟩ := a1k hT
 rw [apj, ByteArray.toList_eq ⟨⟨l⟩⟩]
 rfl
abbrev isW (l : List UInt8) (e : X) : X := .ap .eq [e, .lit (.string ⟨⟨l⟩⟩)]
abbrev noW (l : List UInt8) (e : X) : X := .ap .not [isW l e]
theorem afi {d : CD} {l : List UInt8} (h : eqC d (.v (.string ⟨⟨l⟩⟩)) = true) (hT : Typ .str d) (hn : l ≠ [99, 117, 116]) : ¬ eqC d (.v (.string ⟨⟨[99, 117, 116]⟩⟩)) = true := by
 rw [a3e hT] at h ⊢
 rw [h]
 exact hn
abbrev a9k : List Srt := [sI, sI, sI, sI, .bool, .int .u8, sI, .sl [.int .u8], .sl [.bool]]
abbrev fo0 : List X × List (List X) := ([isW [116, 105, 99, 107] (.var 0), noW [99, 117, 116] (.var 0)], [[I 1], [I 1], [I 0], [.lit (.bool true)]])
abbrev fo1 : List X × List (List X) := ([isW [116, 97, 107, 101] (.var 0), noW [99, 117, 116] (.var 0)], [[I 2], [I 1], [I 0], [.lit (.bool true)]])
abbrev fo2 : List X × List (List X) := ([isW [102, 108, 111, 119] (.var 0), noW [99, 117, 116] (.var 0)], [[I 14], [I 1], [I 0], [.lit (.bool true)]])
abbrev fo3 : List X × List (List X) := ([isW [97, 116] (.var 0), noW [99, 117, 116] (.var 0)], [[I 3], [I 1], [I 0], [.lit (.bool true)]])
abbrev fo4 : List X × List (List X) := ([isW [100, 114, 111, 112] (.var 0), noW [99, 117, 116] (.var 0)], [[I 4], [I 1], [I 0], [.lit (.bool true)]])
abbrev fo5 : List X × List (List X) := ([isW [100, 111, 117, 98, 108, 101] (.var 0), noW [99, 117, 116] (.var 0)], [[I 5], [I 1], [I 0], [.lit (.bool true)]])
abbrev fo6 : List X × List (List X) := ([isW [109, 111, 118, 101] (.var 0), noW [99, 117, 116] (.var 0)], [[I 6], [I 2], [I 0], [.lit (.bool true)]])
abbrev fo7 : List X × List (List X) := ([isW [99, 117, 116] (.var 0)], [[I 7], [I 2], [I 0], [.lit (.bool true)]])
abbrev fo8 : List X × List (List X) := ([isW [106, 111, 105, 110] (.var 0), noW [99, 117, 116] (.var 0)], [[I 7], [I 2], [I 0], [.lit (.bool true)]])
abbrev fo9 : List X × List (List X) := ([isW [97, 115, 107] (.var 0), noW [99, 117, 116] (.var 0)], [[I 8], [I 2], [I 1], [.lit (.bool true)]])
abbrev fo10 : List X × List (List X) := ([isW [97, 103, 97, 105, 110] (.var 0), noW [99, 117, 116] (.var 0)], [[I 9], [I 1], [I 0], [.lit (.bool true)]])
abbrev fo11 : List X × List (List X) := ([isW [114, 101, 111, 112, 101, 110] (.var 0), noW [99, 117, 116] (.var 0)], [[I 11], [I 1], [I 0], [.lit (.bool true)]])
abbrev fo12 : List X × List (List X) := ([isW [99, 114, 97, 115, 104] (.var 0), noW [99, 117, 116] (.var 0)], [[I 10], [I 2], [I 2], [.lit (.bool true)]])
abbrev fo13 : List X × List (List X) := ([isW [102, 117, 115, 101] (.var 0), noW [99, 117, 116] (.var 0)], [[I 12], [I 2], [I 0], [.lit (.bool true)]])
abbrev fo14 : List X × List (List X) := ([isW [116, 117, 114, 110] (.var 0), noW [99, 117, 116] (.var 0)], [[I 13], [I 4], [I 0], [.lit (.bool true)]])
abbrev fo15 : List X × List (List X) := ([noW [116, 105, 99, 107] (.var 0), noW [116, 97, 107, 101] (.var 0), noW [102, 108, 111, 119] (.var 0), noW [97, 116] (.var 0), noW [100, 114, 111, 112] (.var 0), noW [100, 111, 117, 98, 108, 101] (.var 0), noW [109, 111, 118, 101] (.var 0), noW [99, 117, 116] (.var 0), noW [106, 111, 105, 110] (.var 0), noW [97, 115, 107] (.var 0), noW [97, 103, 97, 105, 110] (.var 0), noW [114, 101, 111, 112, 101, 110] (.var 0), noW [99, 114, 97, 115, 104] (.var 0), noW [102, 117, 115, 101] (.var 0), noW [116, 117, 114, 110] (.var 0)], [[I 0], [I 0], [I 0], [.lit (.bool false)]])
noncomputable def bal : Fsp := ⟨[(false, [.str])], [], [(false, [sI]), (false, [sI]), (false, [sI]), (false, [.bool])], [fo0, fo1, fo2, fo3, fo4, fo5, fo6, fo7, fo8, fo9, fo10, fo11, fo12, fo13, fo14, fo15], true⟩
abbrev auj : List X := [(.ap .not [(.ap .eq [(.var 0), (.lit (.string (.mk (.mk [116, 97, 107, 101]))))])]), (.ap .not [(.ap .eq [(.var 0), (.lit (.string (.mk (.mk [116, 105, 99, 107]))))])]), (.ap (.typ .str) [(.var 0)])]
abbrev au5 : List X := (.ap .not [(.ap .eq [(.var 0), (.lit (.string (.mk (.mk [100, 114, 111, 112]))))])]) :: (.ap .not [(.ap .eq [(.var 0), (.lit (.string (.mk (.mk [97, 116]))))])]) :: (.ap .not [(.ap .eq [(.var 0), (.lit (.string (.mk (.mk [102, 108, 111, 119]))))])]) :: auj
abbrev as5 : List X := (.ap .not [(.ap .eq [(.var 0), (.lit (.string (.mk (.mk [99, 117, 116]))))])]) :: (.ap .not [(.ap .eq [(.var 0), (.lit (.string (.mk (.mk [109, 111, 118, 101]))))])]) :: (.ap .not [(.ap .eq [(.var 0), (.lit (.string (.mk (.mk [100, 111, 117, 98, 108, 101]))))])]) :: au5
abbrev aua : List X := (.ap .not [(.ap .eq [(.var 0), (.lit (.string (.mk (.mk [97, 103, 97, 105, 110]))))])]) :: (.ap .not [(.ap .eq [(.var 0), (.lit (.string (.mk (.mk [97, 115, 107]))))])]) :: (.ap .not [(.ap .eq [(.var 0), (.lit (.string (.mk (.mk [106, 111, 105, 110]))))])]) :: as5
abbrev a6q : List X := (.ap .not [(.ap .eq [(.var 0), (.lit (.string (.mk (.mk [102, 117, 115, 101]))))])]) :: (.ap .not [(.ap .eq [(.var 0), (.lit (.string (.mk (.mk [99, 114, 97, 115, 104]))))])]) :: (.ap .not [(.ap .eq [(.var 0), (.lit (.string (.mk (.mk [114, 101, 111, 112, 101, 110]))))])]) :: aua
def bg7 : List VC := []
def bee : List (List X × List (List X)) := [([(.ap .eq [(.var 0), (.lit (.string (.mk (.mk [116, 105, 99, 107]))))]), (.ap (.typ .str) [(.var 0)])], [[(I 1)], [(I 1)], [(I 0)], [(.lit (.bool true))]]),
 ([(.ap .eq [(.var 0), (.lit (.string (.mk (.mk [116, 97, 107, 101]))))]), (.ap .not [(.ap .eq [(.var 0), (.lit (.string (.mk (.mk [116, 105, 99, 107]))))])]), (.ap (.typ .str) [(.var 0)])], [[(I 2)], [(I 1)], [(I 0)], [(.lit (.bool true))]]),
 (((.ap .eq [(.var 0), (.lit (.string (.mk (.mk [102, 108, 111, 119]))))]) :: auj), [[(I 14)], [(I 1)], [(I 0)], [(.lit (.bool true))]]),
 (((.ap .eq [(.var 0), (.lit (.string (.mk (.mk [97, 116]))))]) :: (.ap .not [(.ap .eq [(.var 0), (.lit (.string (.mk (.mk [102, 108, 111, 119]))))])]) :: auj), [[(I 3)], [(I 1)], [(I 0)], [(.lit (.bool true))]]),
 (((.ap .eq [(.var 0), (.lit (.string (.mk (.mk [100, 114, 111, 112]))))]) :: (.ap .not [(.ap .eq [(.var 0), (.lit (.string (.mk (.mk [97, 116]))))])]) :: (.ap .not [(.ap .eq [(.var 0), (.lit (.string (.mk (.mk [102, 108, 111, 119]))))])]) :: auj), [[(I 4)], [(I 1)], [(I 0)], [(.lit (.bool true))]]),
 (((.ap .eq [(.var 0), (.lit (.string (.mk (.mk [100, 111, 117, 98, 108, 101]))))]) :: au5), [[(I 5)], [(I 1)], [(I 0)], [(.lit (.bool true))]]),
 (((.ap .eq [(.var 0), (.lit (.string (.mk (.mk [109, 111, 118, 101]))))]) :: (.ap .not [(.ap .eq [(.var 0), (.lit (.string (.mk (.mk [100, 111, 117, 98, 108, 101]))))])]) :: au5), [[(I 6)], [(I 2)], [(I 0)], [(.lit (.bool true))]]),
 (((.ap .eq [(.var 0), (.lit (.string (.mk (.mk [99, 117, 116]))))]) :: (.ap .not [(.ap .eq [(.var 0), (.lit (.string (.mk (.mk [109, 111, 118, 101]))))])]) :: (.ap .not [(.ap .eq [(.var 0), (.lit (.string (.mk (.mk [100, 111, 117, 98, 108, 101]))))])]) :: au5), [[(I 7)], [(I 2)], [(I 0)], [(.lit (.bool true))]]),
 (((.ap .eq [(.var 0), (.lit (.string (.mk (.mk [106, 111, 105, 110]))))]) :: as5), [[(I 7)], [(I 2)], [(I 0)], [(.lit (.bool true))]]),
 (((.ap .eq [(.var 0), (.lit (.string (.mk (.mk [97, 115, 107]))))]) :: (.ap .not [(.ap .eq [(.var 0), (.lit (.string (.mk (.mk [106, 111, 105, 110]))))])]) :: as5), [[(I 8)], [(I 2)], [(I 1)], [(.lit (.bool true))]]),
 (((.ap .eq [(.var 0), (.lit (.string (.mk (.mk [97, 103, 97, 105, 110]))))]) :: (.ap .not [(.ap .eq [(.var 0), (.lit (.string (.mk (.mk [97, 115, 107]))))])]) :: (.ap .not [(.ap .eq [(.var 0), (.lit (.string (.mk (.mk [106, 111, 105, 110]))))])]) :: as5), [[(I 9)], [(I 1)], [(I 0)], [(.lit (.bool true))]]),
 (((.ap .eq [(.var 0), (.lit (.string (.mk (.mk [114, 101, 111, 112, 101, 110]))))]) :: aua), [[(I 11)], [(I 1)], [(I 0)], [(.lit (.bool true))]]),
 (((.ap .eq [(.var 0), (.lit (.string (.mk (.mk [99, 114, 97, 115, 104]))))]) :: (.ap .not [(.ap .eq [(.var 0), (.lit (.string (.mk (.mk [114, 101, 111, 112, 101, 110]))))])]) :: aua), [[(I 10)], [(I 2)], [(I 2)], [(.lit (.bool true))]]),
 (((.ap .eq [(.var 0), (.lit (.string (.mk (.mk [102, 117, 115, 101]))))]) :: (.ap .not [(.ap .eq [(.var 0), (.lit (.string (.mk (.mk [99, 114, 97, 115, 104]))))])]) :: (.ap .not [(.ap .eq [(.var 0), (.lit (.string (.mk (.mk [114, 101, 111, 112, 101, 110]))))])]) :: aua), [[(I 12)], [(I 2)], [(I 0)], [(.lit (.bool true))]]),
 (((.ap .eq [(.var 0), (.lit (.string (.mk (.mk [116, 117, 114, 110]))))]) :: a6q), [[(I 13)], [(I 4)], [(I 0)], [(.lit (.bool true))]]),
 (((.ap .not [(.ap .eq [(.var 0), (.lit (.string (.mk (.mk [116, 117, 114, 110]))))])]) :: a6q), [[(I 0)], [(I 0)], [(I 0)], [(.lit (.bool false))]])]
theorem bj8 : runS Tryd.prog (aev T0) 10 20 ⟨ad8 [], hintA []⟩ Tryd.f23 (abr Tryd.f23) bal = some (bg7, bee) := by kernel_rfl
set_option maxRecDepth 100000 in
theorem c23 : aaq U Tryd.prog 23 bal := by
 refine aaq.of (P := Tryd.prog) (U := U) (T := T0) (f := 23) (fn := Tryd.f23) (fuel := 10) (fk := 20) (hs := ⟨ad8 [], hintA []⟩) (S := bal) (v := bg7) (outs := bee) mixed hT0 at23 bj8 ?_ ?_
 ·unfold bg7
  exact ac8 _
 ·intro o ho σ hU hh
  obtain ⟨v⟩ := σ
  cases hU
  simp only [bee, List.mem_cons, List.not_mem_nil, or_false] at ho
  rcases ho with rfl | rfl | rfl | rfl | rfl | rfl | rfl | rfl | rfl | rfl | rfl | rfl | rfl | rfl | rfl | rfl
  all_goals
   simp only [aa1, aa5, aa4, aa6, abg, acd, ab7, aap, w_wr, b_lt, b_le, b_eq, aaz, ada, b_or, abe, aao, aa0, ade, aco, aan, aa8, abj, w_mk, aat, abq, adk, ac0, acy, abb, acz, adf, aa2, abn, ace, w_l0, w_l1, aac, aag, aa3, aae, aad, aam, aak, ab1, abz, ab0, abx, adh, adl, aby, ac1, auj, au5, as5, aua, a6q] at hh
  ·exact ⟨fo0, (List.mem_cons_self ..), by simp only [aa1, aa5, aa4, aa6, abg, acd, ab7, aap, w_wr, b_lt, b_le, b_eq, aaz, ada, b_or, abe, aao, aa0, ade, aco, aan, aa8, abj, w_mk, aat, abq, adk, ac0, acy, abb, acz, adf, aa2, abn, ace, w_l0, w_l1, aac, aag, aa3, aae, aad, aam, aak, ab1, abz, ab0, abx, adh, adl, aby, ac1]; exact ⟨hh.1, afi hh.1 (by grind) (by decide), trivial⟩, rfl⟩
  ·exact ⟨fo1, (List.mem_cons_of_mem _ (List.mem_cons_self ..)), by simp only [aa1, aa5, aa4, aa6, abg, acd, ab7, aap, w_wr, b_lt, b_le, b_eq, aaz, ada, b_or, abe, aao, aa0, ade, aco, aan, aa8, abj, w_mk, aat, abq, adk, ac0, acy, abb, acz, adf, aa2, abn, ace, w_l0, w_l1, aac, aag, aa3, aae, aad, aam, aak, ab1, abz, ab0, abx, adh, adl, aby, ac1]; exact ⟨hh.1, afi hh.1 (by grind) (by decide), trivial⟩, rfl⟩
  ·exact ⟨fo2, (List.mem_cons_of_mem _ (List.mem_cons_of_mem _ (List.mem_cons_self ..))), by simp only [aa1, aa5, aa4, aa6, abg, acd, ab7, aap, w_wr, b_lt, b_le, b_eq, aaz, ada, b_or, abe, aao, aa0, ade, aco, aan, aa8, abj, w_mk, aat, abq, adk, ac0, acy, abb, acz, adf, aa2, abn, ace, w_l0, w_l1, aac, aag, aa3, aae, aad, aam, aak, ab1, abz, ab0, abx, adh, adl, aby, ac1]; exact ⟨hh.1, afi hh.1 (by grind) (by decide), trivial⟩, rfl⟩
  ·exact ⟨fo3, (List.mem_cons_of_mem _ (List.mem_cons_of_mem _ (List.mem_cons_of_mem _ (List.mem_cons_self ..)))), by simp only [aa1, aa5, aa4, aa6, abg, acd, ab7, aap, w_wr, b_lt, b_le, b_eq, aaz, ada, b_or, abe, aao, aa0, ade, aco, aan, aa8, abj, w_mk, aat, abq, adk, ac0, acy, abb, acz, adf, aa2, abn, ace, w_l0, w_l1, aac, aag, aa3, aae, aad, aam, aak, ab1, abz, ab0, abx, adh, adl, aby, ac1]; exact ⟨hh.1, afi hh.1 (by grind) (by decide), trivial⟩, rfl⟩
  ·exact ⟨fo4, (List.mem_cons_of_mem _ (List.mem_cons_of_mem _ (List.mem_cons_of_mem _ (List.mem_cons_of_mem _ (List.mem_cons_self ..))))), by simp only [aa1, aa5, aa4, aa6, abg, acd, ab7, aap, w_wr, b_lt, b_le, b_eq, aaz, ada, b_or, abe, aao, aa0, ade, aco, aan, aa8, abj, w_mk, aat, abq, adk, ac0, acy, abb, acz, adf, aa2, abn, ace, w_l0, w_l1, aac, aag, aa3, aae, aad, aam, aak, ab1, abz, ab0, abx, adh, adl, aby, ac1]; exact ⟨hh.1, afi hh.1 (by grind) (by decide), trivial⟩, rfl⟩
  ·exact ⟨fo5, (List.mem_cons_of_mem _ (List.mem_cons_of_mem _ (List.mem_cons_of_mem _ (List.mem_cons_of_mem _ (List.mem_cons_of_mem _ (List.mem_cons_self ..)))))), by simp only [aa1, aa5, aa4, aa6, abg, acd, ab7, aap, w_wr, b_lt, b_le, b_eq, aaz, ada, b_or, abe, aao, aa0, ade, aco, aan, aa8, abj, w_mk, aat, abq, adk, ac0, acy, abb, acz, adf, aa2, abn, ace, w_l0, w_l1, aac, aag, aa3, aae, aad, aam, aak, ab1, abz, ab0, abx, adh, adl, aby, ac1]; exact ⟨hh.1, afi hh.1 (by grind) (by decide), trivial⟩, rfl⟩
  ·exact ⟨fo6, (List.mem_cons_of_mem _ (List.mem_cons_of_mem _ (List.mem_cons_of_mem _ (List.mem_cons_of_mem _ (List.mem_cons_of_mem _ (List.mem_cons_of_mem _ (List.mem_cons_self ..))))))), by simp only [aa1, aa5, aa4, aa6, abg, acd, ab7, aap, w_wr, b_lt, b_le, b_eq, aaz, ada, b_or, abe, aao, aa0, ade, aco, aan, aa8, abj, w_mk, aat, abq, adk, ac0, acy, abb, acz, adf, aa2, abn, ace, w_l0, w_l1, aac, aag, aa3, aae, aad, aam, aak, ab1, abz, ab0, abx, adh, adl, aby, ac1]; exact ⟨hh.1, afi hh.1 (by grind) (by decide), trivial⟩, rfl⟩
  ·exact ⟨fo7, (List.mem_cons_of_mem _ (List.mem_cons_of_mem _ (List.mem_cons_of_mem _ (List.mem_cons_of_mem _ (List.mem_cons_of_mem _ (List.mem_cons_of_mem _ (List.mem_cons_of_mem _ (List.mem_cons_self ..)))))))), by simp only [aa1, aa5, aa4, aa6, abg, acd, ab7, aap, w_wr, b_lt, b_le, b_eq, aaz, ada, b_or, abe, aao, aa0, ade, aco, aan, aa8, abj, w_mk, aat, abq, adk, ac0, acy, abb, acz, adf, aa2, abn, ace, w_l0, w_l1, aac, aag, aa3, aae, aad, aam, aak, ab1, abz, ab0, abx, adh, adl, aby, ac1]; exact ⟨hh.1, trivial⟩, rfl⟩
  ·exact ⟨fo8, (List.mem_cons_of_mem _ (List.mem_cons_of_mem _ (List.mem_cons_of_mem _ (List.mem_cons_of_mem _ (List.mem_cons_of_mem _ (List.mem_cons_of_mem _ (List.mem_cons_of_mem _ (List.mem_cons_of_mem _ (List.mem_cons_self ..))))))))), by simp only [aa1, aa5, aa4, aa6, abg, acd, ab7, aap, w_wr, b_lt, b_le, b_eq, aaz, ada, b_or, abe, aao, aa0, ade, aco, aan, aa8, abj, w_mk, aat, abq, adk, ac0, acy, abb, acz, adf, aa2, abn, ace, w_l0, w_l1, aac, aag, aa3, aae, aad, aam, aak, ab1, abz, ab0, abx, adh, adl, aby, ac1]; exact ⟨hh.1, afi hh.1 (by grind) (by decide), trivial⟩, rfl⟩
  ·exact ⟨fo9, (List.mem_cons_of_mem _ (List.mem_cons_of_mem _ (List.mem_cons_of_mem _ (List.mem_cons_of_mem _ (List.mem_cons_of_mem _ (List.mem_cons_of_mem _ (List.mem_cons_of_mem _ (List.mem_cons_of_mem _ (List.mem_cons_of_mem _ (List.mem_cons_self ..)))))))))), by simp only [aa1, aa5, aa4, aa6, abg, acd, ab7, aap, w_wr, b_lt, b_le, b_eq, aaz, ada, b_or, abe, aao, aa0, ade, aco, aan, aa8, abj, w_mk, aat, abq, adk, ac0, acy, abb, acz, adf, aa2, abn, ace, w_l0, w_l1, aac, aag, aa3, aae, aad, aam, aak, ab1, abz, ab0, abx, adh, adl, aby, ac1]; exact ⟨hh.1, afi hh.1 (by grind) (by decide), trivial⟩, rfl⟩
  ·exact ⟨fo10, (List.mem_cons_of_mem _ (List.mem_cons_of_mem _ (List.mem_cons_of_mem _ (List.mem_cons_of_mem _ (List.mem_cons_of_mem _ (List.mem_cons_of_mem _ (List.mem_cons_of_mem _ (List.mem_cons_of_mem _ (List.mem_cons_of_mem _ (List.mem_cons_of_mem _ (List.mem_cons_self ..))))))))))), by simp only [aa1, aa5, aa4, aa6, abg, acd, ab7, aap, w_wr, b_lt, b_le, b_eq, aaz, ada, b_or, abe, aao, aa0, ade, aco, aan, aa8, abj, w_mk, aat, abq, adk, ac0, acy, abb, acz, adf, aa2, abn, ace, w_l0, w_l1, aac, aag, aa3, aae, aad, aam, aak, ab1, abz, ab0, abx, adh, adl, aby, ac1]; exact ⟨hh.1, afi hh.1 (by grind) (by decide), trivial⟩, rfl⟩
  ·exact ⟨fo11, (List.mem_cons_of_mem _ (List.mem_cons_of_mem _ (List.mem_cons_of_mem _ (List.mem_cons_of_mem _ (List.mem_cons_of_mem _ (List.mem_cons_of_mem _ (List.mem_cons_of_mem _ (List.mem_cons_of_mem _ (List.mem_cons_of_mem _ (List.mem_cons_of_mem _ (List.mem_cons_of_mem _ (List.mem_cons_self ..)))))))))))), by simp only [aa1, aa5, aa4, aa6, abg, acd, ab7, aap, w_wr, b_lt, b_le, b_eq, aaz, ada, b_or, abe, aao, aa0, ade, aco, aan, aa8, abj, w_mk, aat, abq, adk, ac0, acy, abb, acz, adf, aa2, abn, ace, w_l0, w_l1, aac, aag, aa3, aae, aad, aam, aak, ab1, abz, ab0, abx, adh, adl, aby, ac1]; exact ⟨hh.1, afi hh.1 (by grind) (by decide), trivial⟩, rfl⟩
  ·exact ⟨fo12, (List.mem_cons_of_mem _ (List.mem_cons_of_mem _ (List.mem_cons_of_mem _ (List.mem_cons_of_mem _ (List.mem_cons_of_mem _ (List.mem_cons_of_mem _ (List.mem_cons_of_mem _ (List.mem_cons_of_mem _ (List.mem_cons_of_mem _ (List.mem_cons_of_mem _ (List.mem_cons_of_mem _ (List.mem_cons_of_mem _ (List.mem_cons_self ..))))))))))))), by simp only [aa1, aa5, aa4, aa6, abg, acd, ab7, aap, w_wr, b_lt, b_le, b_eq, aaz, ada, b_or, abe, aao, aa0, ade, aco, aan, aa8, abj, w_mk, aat, abq, adk, ac0, acy, abb, acz, adf, aa2, abn, ace, w_l0, w_l1, aac, aag, aa3, aae, aad, aam, aak, ab1, abz, ab0, abx, adh, adl, aby, ac1]; exact ⟨hh.1, afi hh.1 (by grind) (by decide), trivial⟩, rfl⟩
  ·exact ⟨fo13, (List.mem_cons_of_mem _ (List.mem_cons_of_mem _ (List.mem_cons_of_mem _ (List.mem_cons_of_mem _ (List.mem_cons_of_mem _ (List.mem_cons_of_mem _ (List.mem_cons_of_mem _ (List.mem_cons_of_mem _ (List.mem_cons_of_mem _ (List.mem_cons_of_mem _ (List.mem_cons_of_mem _ (List.mem_cons_of_mem _ (List.mem_cons_of_mem _ (List.mem_cons_self ..)))))))))))))), by simp only [aa1, aa5, aa4, aa6, abg, acd, ab7, aap, w_wr, b_lt, b_le, b_eq, aaz, ada, b_or, abe, aao, aa0, ade, aco, aan, aa8, abj, w_mk, aat, abq, adk, ac0, acy, abb, acz, adf, aa2, abn, ace, w_l0, w_l1, aac, aag, aa3, aae, aad, aam, aak, ab1, abz, ab0, abx, adh, adl, aby, ac1]; exact ⟨hh.1, afi hh.1 (by grind) (by decide), trivial⟩, rfl⟩
  ·exact ⟨fo14, (List.mem_cons_of_mem _ (List.mem_cons_of_mem _ (List.mem_cons_of_mem _ (List.mem_cons_of_mem _ (List.mem_cons_of_mem _ (List.mem_cons_of_mem _ (List.mem_cons_of_mem _ (List.mem_cons_of_mem _ (List.mem_cons_of_mem _ (List.mem_cons_of_mem _ (List.mem_cons_of_mem _ (List.mem_cons_of_mem _ (List.mem_cons_of_mem _ (List.mem_cons_of_mem _ (List.mem_cons_self ..))))))))))))))), by simp only [aa1, aa5, aa4, aa6, abg, acd, ab7, aap, w_wr, b_lt, b_le, b_eq, aaz, ada, b_or, abe, aao, aa0, ade, aco, aan, aa8, abj, w_mk, aat, abq, adk, ac0, acy, abb, acz, adf, aa2, abn, ace, w_l0, w_l1, aac, aag, aa3, aae, aad, aam, aak, ab1, abz, ab0, abx, adh, adl, aby, ac1]; exact ⟨hh.1, afi hh.1 (by grind) (by decide), trivial⟩, rfl⟩
  ·exact ⟨fo15, (List.mem_cons_of_mem _ (List.mem_cons_of_mem _ (List.mem_cons_of_mem _ (List.mem_cons_of_mem _ (List.mem_cons_of_mem _ (List.mem_cons_of_mem _ (List.mem_cons_of_mem _ (List.mem_cons_of_mem _ (List.mem_cons_of_mem _ (List.mem_cons_of_mem _ (List.mem_cons_of_mem _ (List.mem_cons_of_mem _ (List.mem_cons_of_mem _ (List.mem_cons_of_mem _ (List.mem_cons_of_mem _ (List.mem_cons_self ..)))))))))))))))), by simp only [aa1, aa5, aa4, aa6, abg, acd, ab7, aap, w_wr, b_lt, b_le, b_eq, aaz, ada, b_or, abe, aao, aa0, ade, aco, aan, aa8, abj, w_mk, aat, abq, adk, ac0, acy, abb, acz, adf, aa2, abn, ace, w_l0, w_l1, aac, aag, aa3, aae, aad, aam, aak, ab1, abz, ab0, abx, adh, adl, aby, ac1]; grind, rfl⟩
end Go.Proofs.YtamhchkknlbanaaDoor.Be
