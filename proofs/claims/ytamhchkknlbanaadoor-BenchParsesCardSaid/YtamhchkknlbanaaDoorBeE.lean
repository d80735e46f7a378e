/-
  Contracts of a seat's functions: what lines begin with, by the reference. Conditions: none.
-/
import Derived.Test.YtamhchkknlbanaaDoorBeC
set_option linter.unusedSectionVars false
set_option linter.unusedVariables false
set_option linter.unusedSimpArgs false
namespace Go.Proofs.YtamhchkknlbanaaDoor.Be
open Go.Sx Go.Proofs
def subT (d : CD) (a b : Int) : CD := .v (.string ⟨((d.str.toList.take b.toNat).drop a.toNat).toArray⟩)
theorem a6n [Sg] (x a b : X) : den (.ap .ssub [x, a, b]) = subT (den x) (den a).iv (den b).iv := rfl
theorem sl0 {n : Int} (h : 0 ≤ n) : ((CD.v (.string ⟨⟨[]⟩⟩)).slen : Int) ≤ n := by
 show ((clip 0 : Nat) : Int) ≤ n
 unfold clip
 omega
theorem ty_i {z : Int} (h1 : 0 ≤ z) (h2 : z ≤ 5000) : Typ sI (vInt .i64 z) := by
 refine ⟨fun _ _ => False, .int .i64 z, z, rfl, rfl, ?_⟩
 have e1 : IntKind.i64.min = -9223372036854775808 := by decide
 have e2 : IntKind.i64.max = 9223372036854775807 := by decide
 simp only [abh, Bool.and_eq_true, decide_eq_true_eq]
 omega
theorem bks {c : CD} (h : Typ sI c) : c = vInt .i64 c.iv := by
 obtain ⟨m, u, n, rfl, _⟩ := h
 rfl
theorem bjr {c : CD} {n : Int} (h : Typ sI c) : (eqC c (vInt .i64 n) = true) = (c.iv = n) := by
 have e := bks h
 rw [e]
 show (decide (c.iv = n) = true) = _
 rw [decide_eq_true_eq]
 rfl
theorem lt_i {c : CD} {n : Nat} (hn : ¬ eqC c (vInt .i64 n) = true) (hT : Typ sI c) (hl : c.iv ≤ n) : c.iv < n := by
 rw [bjr hT] at hn
 omega
theorem ayi {d : CD} (hT : Typ .str d) : ((line d).length : Int) = d.slen + 1 := by
 rw [abf hT]
 unfold line
 rw [List.length_append]
 rfl
theorem ai8 {l : List UInt8} {b : UInt8} : st (l ++ [b]) = stp (st l) b := by
 unfold st
 rw [List.foldl_append]
 rfl
theorem ai4 {l : List UInt8} {b : UInt8} : okW (l ++ [b]) = (okW l && okB b && (!decide (b.toNat = 32) || !(st l).2.isEmpty)) := by
 unfold okW
 rw [List.all_append, ai8]
 unfold stp
 by_cases h : b.toNat = 32
 ·rw [if_pos h, List.all_append, decide_eq_true h]
  simp only [List.all_cons, List.all_nil, Bool.and_true, Bool.not_true, Bool.false_or]
  cases l.all okB <;> cases okB b <;> simp
 ·rw [if_neg h, decide_eq_false h]
  simp only [List.all_cons, List.all_nil, Bool.and_true, Bool.not_false, Bool.true_or]
  cases l.all okB <;> cases okB b <;> simp
theorem aei {d : CD} {i : Int} (h0 : 0 ≤ i) (hi : i ≤ d.slen) (hT : Typ .str d) : (line d).take (i + 1).toNat = (line d).take i.toNat ++ [(line d).getD i.toNat 0] := by
 have := ayi hT
 rw [show (i + 1).toNat = i.toNat + 1 by omega, af8 (by omega)]
theorem alu {d : CD} {i : Int} (h0 : 0 ≤ i) (hi : i < d.slen) (hT : Typ .str d) : (((line d).getD i.toNat 0).toNat : Int) = byAt d i := by
 rw [abf hT] at hi
 unfold line byAt
 rw [List.getD_eq_getElem?_getD, List.getElem?_append_left (by omega), ← List.getD_eq_getElem?_getD]
theorem a8r {d : CD} {i : Int} (hi : i = d.slen) (hT : Typ .str d) : ((line d).getD i.toNat 0).toNat = 32 := by
 rw [abf hT] at hi
 unfold line
 rw [List.getD_eq_getElem?_getD, List.getElem?_append_right (by omega), hi]
 simp
theorem ax5 {d c : CD} (hs : eqC c (vInt .i64 (d.slen : Int)) = true ∨ eqC (vInt .u8 (byAt d c.iv)) (vInt .u8 32) = true) (hc : Typ sI c) (h0 : 0 ≤ c.iv) (hi : c.iv ≤ d.slen) (hT : Typ .str d) : ((line d).getD c.iv.toNat 0).toNat = 32 := by
 rcases Int.lt_or_eq_of_le hi with h | h
 ·rcases hs with hs | hs
  ·rw [bjr hc] at hs
   omega
  ·rw [aja, decide_eq_true_eq] at hs
   have := alu h0 h hT
   omega
 ·exact a8r h hT
theorem bik {d p c : CD} {r : List (List CD)} (hr : r = aas ((line d).take c.iv.toNat)) (hp : p = tx (st ((line d).take c.iv.toNat)).2) (hs : eqC c (vInt .i64 (d.slen : Int)) = true ∨ eqC (vInt .u8 (byAt d c.iv)) (vInt .u8 32) = true) (hc : Typ sI c) (h0 : 0 ≤ c.iv) (hi : c.iv ≤ d.slen) (hT : Typ .str d) : r ++ ([] ++ [[p]]) = aas ((line d).take (c.iv + 1).toNat) := by
 unfold aas
 rw [aei h0 hi hT, ai8]
 unfold stp
 rw [if_pos (ax5 hs hc h0 hi hT), hr, hp, List.map_append]
 rfl
theorem bhz {d c : CD} (hs : eqC c (vInt .i64 (d.slen : Int)) = true ∨ eqC (vInt .u8 (byAt d c.iv)) (vInt .u8 32) = true) (hc : Typ sI c) (h0 : 0 ≤ c.iv) (hi : c.iv ≤ d.slen) (hT : Typ .str d) : CD.v (.string ⟨⟨[]⟩⟩) = tx (st ((line d).take (c.iv + 1).toNat)).2 := by
 rw [aei h0 hi hT, ai8]
 unfold stp
 rw [if_pos (ax5 hs hc h0 hi hT)]
 rfl
theorem tx_e {l : List UInt8} : (eqC (tx l) (.v (.string ⟨⟨[]⟩⟩)) = true) = (l = []) := by
 unfold tx
 rw [aqj, ByteArray.toList_eq, ByteArray.toList_eq]
theorem bdj {d p c : CD} (hp : p = tx (st ((line d).take c.iv.toNat)).2) (hn : ¬ eqC p (.v (.string ⟨⟨[]⟩⟩)) = true) (hk : okW ((line d).take c.iv.toNat) = true) (hs : eqC c (vInt .i64 (d.slen : Int)) = true ∨ eqC (vInt .u8 (byAt d c.iv)) (vInt .u8 32) = true) (hc : Typ sI c) (h0 : 0 ≤ c.iv) (hi : c.iv ≤ d.slen) (hT : Typ .str d) : okW ((line d).take (c.iv + 1).toNat) = true := by
 have hb := ax5 hs hc h0 hi hT
 rw [hp, tx_e] at hn
 rw [aei h0 hi hT, ai4, hk]
 have e1 : okB ((line d).getD c.iv.toNat 0) = true := by
  unfold okB
  rw [decide_eq_true hb]
  rfl
 have e2 : (st ((line d).take c.iv.toNat)).2.isEmpty = false := by
  cases hq : (st ((line d).take c.iv.toNat)).2 with
  | nil => exact absurd hq hn
  | cons _ _ => rfl
 rw [e1, e2]
 simp
theorem bbw {d : CD} {i : Int} (h1 : ¬ eqC (vInt .u8 (byAt d i)) (vInt .u8 32) = true) (h0 : 0 ≤ i) (hi : i < d.slen) (hT : Typ .str d) : ¬ ((line d).getD i.toNat 0).toNat = 32 := by
 rw [aja, decide_eq_true_eq] at h1
 have := alu h0 hi hT
 omega
theorem bjz {d : CD} {r : List (List CD)} {i : Int} (hr : r = aas ((line d).take i.toNat)) (h1 : ¬ eqC (vInt .u8 (byAt d i)) (vInt .u8 32) = true) (h0 : 0 ≤ i) (hi : i < d.slen) (hT : Typ .str d) : r = aas ((line d).take (i + 1).toNat) := by
 unfold aas
 rw [aei h0 (by omega) hT, ai8]
 unfold stp
 rw [if_neg (bbw h1 h0 hi hT)]
 exact hr
theorem a3o : ∀ (n : Nat) {l : List UInt8}, l.length = n → (st l).2.length ≤ n
 | 0, l, h => by
  rw [List.length_eq_zero_iff.1 h]
  exact Nat.le_refl _
 | n + 1, l, h => by
  have hl : l = l.take n ++ [l.getD n 0] := by
   rw [← af8 (by omega), List.take_of_length_le (by omega)]
  rw [hl, ai8]
  have := a3o n (l := l.take n) (by rw [List.length_take]; omega)
  unfold stp
  split
  ·exact Nat.zero_le _
  ·rw [List.length_append]
   simp only [List.length_cons, List.length_nil]
   omega
theorem biw {d : CD} {i : Int} (h0 : 0 ≤ i) (hi : i < d.slen) (hT : Typ .str d) : subT d i (i + 1) = tx [(line d).getD i.toNat 0] := by
 have e := alu h0 hi hT
 rw [abf hT] at hi
 unfold subT tx
 have h2 : ((by' d).take (i + 1).toNat).drop i.toNat = [(by' d).getD i.toNat 0] := by
  rw [show (i + 1).toNat = i.toNat + 1 by omega, af8 (by omega), List.drop_append_of_le_length (by rw [List.length_take]; omega), List.drop_of_length_le (by rw [List.length_take]; omega), List.nil_append]
 have h3 : (line d).getD i.toNat 0 = (by' d).getD i.toNat 0 := by
  unfold line
  rw [List.getD_eq_getElem?_getD, List.getElem?_append_left (by omega), ← List.getD_eq_getElem?_getD]
 rw [h2, h3]
theorem bdp {l : List UInt8} : ((tx l).slen : Int) ≤ l.length := by
 show ((clip l.toArray.size : Nat) : Int) ≤ _
 unfold clip
 rw [List.size_toArray]
 omega
theorem ss1 {d : CD} {i : Int} (h0 : 0 ≤ i) (hi : i < d.slen) (hT : Typ .str d) : ((subT d i (i + 1)).slen : Int) ≤ 1 := by
 rw [biw h0 hi hT]
 exact bdp
theorem bjv {a b : List UInt8} (h : a.length + b.length ≤ 9223372036854775807) : orV (strA .add (tx a).str (tx b).str) = tx (a ++ b) := by
 have e : strA .add (tx a).str (tx b).str = if a.toArray.size + b.toArray.size ≤ 9223372036854775807 then some (.string ((⟨a.toArray⟩ : ByteArray) ++ ⟨b.toArray⟩)) else none := rfl
 rw [e, if_pos (by simpa using h)]
 show CD.v (.string _) = CD.v (.string _)
 congr 2
theorem bfh {d p : CD} {i : Int} (hp : p = tx (st ((line d).take i.toNat)).2) (h1 : ¬ eqC (vInt .u8 (byAt d i)) (vInt .u8 32) = true) (h0 : 0 ≤ i) (hi : i < d.slen) (hT : Typ .str d) (hm : (d.slen : Int) ≤ 2500) : orV (strA .add p.str (subT d i (i + 1)).str) = tx (st ((line d).take (i + 1).toNat)).2 := by
 have hl := a3o _ (l := (line d).take i.toNat) rfl
 rw [List.length_take] at hl
 rw [hp, biw h0 hi hT, bjv (by simp only [List.length_cons, List.length_nil]; omega), aei h0 (by omega) hT, ai8]
 unfold stp
 rw [if_neg (bbw h1 h0 hi hT)]
theorem bht {d p : CD} {i : Int} (hp : p = tx (st ((line d).take i.toNat)).2) (h1 : ¬ eqC (vInt .u8 (byAt d i)) (vInt .u8 32) = true) (h0 : 0 ≤ i) (hi : i < d.slen) (hT : Typ .str d) (hm : (d.slen : Int) ≤ 2500) : ((orV (strA .add p.str (subT d i (i + 1)).str)).slen : Int) ≤ i + 1 := by
 rw [bfh hp h1 h0 hi hT hm]
 have hl := a3o _ (l := (line d).take (i + 1).toNat) rfl
 rw [List.length_take] at hl
 have := bdp (l := (st ((line d).take (i + 1).toNat)).2)
 omega
theorem bc7 {d : CD} {i : Int} (hk : okW ((line d).take i.toNat) = true) (h1 : ¬ eqC (vInt .u8 (byAt d i)) (vInt .u8 32) = true) (h2 : ¬ byAt d i < 33) (h3 : ¬ 126 < byAt d i) (h0 : 0 ≤ i) (hi : i < d.slen) (hT : Typ .str d) : okW ((line d).take (i + 1).toNat) = true := by
 have e := alu h0 hi hT
 have n32 := bbw h1 h0 hi hT
 rw [aei h0 (by omega) hT, ai4, hk, decide_eq_false n32]
 have : okB ((line d).getD i.toNat 0) = true := by
  unfold okB
  rw [decide_eq_true (show 33 ≤ ((line d).getD i.toNat 0).toNat by omega), decide_eq_true (show ((line d).getD i.toNat 0).toNat ≤ 126 by omega)]
  simp
 rw [this]
 rfl
theorem a2w {l : List UInt8} : ∀ (n : Nat) {q : List UInt8}, q.length = n → okW (l ++ q) = true → okW l = true
 | 0, q, h, hk => by rwa [List.length_eq_zero_iff.1 h, List.append_nil] at hk
 | n + 1, q, h, hk => by
  have hq : q = q.take n ++ [q.getD n 0] := by
   rw [← af8 (by omega), List.take_of_length_le (by omega)]
  rw [hq, ← List.append_assoc, ai4, Bool.and_eq_true, Bool.and_eq_true] at hk
  exact a2w n (by rw [List.length_take]; omega) hk.1.1
theorem w_no {d : CD} (h : okW (line d) = false) : [[mkz (aar d)], [aaf (okW (line d))]] = [[CD.sl true []], [aaf false]] := by
 unfold aar
 rw [h]
 rfl
theorem bh3 {d : CD} {i : Int} (h : okW ((line d).take i.toNat) = false) : [[mkz (aar d)], [aaf (okW (line d))]] = [[CD.sl true []], [aaf false]] := by
 refine w_no ?_
 rw [Bool.eq_false_iff]
 intro hk
 rw [← List.take_append_drop i.toNat (line d)] at hk
 rw [a2w _ rfl hk] at h
 cases h
theorem w_1 {d p c : CD} (hp : p = tx (st ((line d).take c.iv.toNat)).2) (hn : eqC p (.v (.string ⟨⟨[]⟩⟩)) = true) (hs : eqC c (vInt .i64 (d.slen : Int)) = true ∨ eqC (vInt .u8 (byAt d c.iv)) (vInt .u8 32) = true) (hc : Typ sI c) (h0 : 0 ≤ c.iv) (hi : c.iv ≤ d.slen) (hT : Typ .str d) : [[mkz (aar d)], [aaf (okW (line d))]] = [[CD.sl true []], [aaf false]] := by
 have hb := ax5 hs hc h0 hi hT
 rw [hp, tx_e] at hn
 refine bh3 (i := c.iv + 1) ?_
 rw [aei h0 hi hT, ai4, hn, decide_eq_true hb]
 simp
theorem w_b {d : CD} {i : Int} (hx : byAt d i < 33 ∨ 126 < byAt d i) (h1 : ¬ eqC (vInt .u8 (byAt d i)) (vInt .u8 32) = true) (h0 : 0 ≤ i) (hi : i < d.slen) (hT : Typ .str d) : [[mkz (aar d)], [aaf (okW (line d))]] = [[CD.sl true []], [aaf false]] := by
 have e := alu h0 hi hT
 have n32 := bbw h1 h0 hi hT
 refine bh3 (i := i + 1) ?_
 have : okB ((line d).getD i.toNat 0) = false := by
  unfold okB
  rw [decide_eq_false n32, Bool.false_or, Bool.and_eq_false_iff]
  rcases hx with hx | hx
  ·exact .inl (decide_eq_false (by omega))
  ·exact .inr (decide_eq_false (by omega))
 rw [aei h0 (by omega) hT, ai4, this]
 simp
theorem w_b1 {d : CD} {i : Int} (hx : byAt d i < 33) (h1 : ¬ eqC (vInt .u8 (byAt d i)) (vInt .u8 32) = true) (h0 : 0 ≤ i) (hi : i < d.slen) (hT : Typ .str d) : [[mkz (aar d)], [aaf (okW (line d))]] = [[CD.sl true []], [aaf false]] := w_b (.inl hx) h1 h0 hi hT
theorem w_b2 {d : CD} {i : Int} (hx : 126 < byAt d i) (h1 : ¬ eqC (vInt .u8 (byAt d i)) (vInt .u8 32) = true) (h0 : 0 ≤ i) (hi : i < d.slen) (hT : Typ .str d) : [[mkz (aar d)], [aaf (okW (line d))]] = [[CD.sl true []], [aaf false]] := w_b (.inr hx) h1 h0 hi hT
theorem w_y {d : CD} {r : List (List CD)} {i : Int} (hr : r = aas ((line d).take i.toNat)) (hk : okW ((line d).take i.toNat) = true) (hi : ¬ i ≤ d.slen) (hT : Typ .str d) : [[mkz (aar d)], [aaf (okW (line d))]] = [[mkz r], [aaf true]] := by
 have hl := ayi hT
 rw [List.take_of_length_le (by omega)] at hr hk
 unfold aar
 rw [if_pos hk, hk, hr]
theorem wr_z {d : CD} : [] = aas ((line d).take (Int.toNat 0)) := rfl
theorem wt_z {d : CD} : CD.v (.string ⟨⟨[]⟩⟩) = tx (st ((line d).take (Int.toNat 0))).2 := rfl
theorem wk_z {d : CD} : okW ((line d).take (Int.toNat 0)) = true := rfl
noncomputable def ax1 : Fsp := ⟨[(false, [.str])], [.ap .le [.ap .slen [.var 0], I 2500]], [(false, [.sl [.str]]), (false, [.bool])], [([], [[.ap (.usr 223) [.var 0]], [.ap (.usr 224) [.var 0]]])], true⟩
noncomputable def lp22 : Lp := ⟨[(.slot 4, .own true [.str]), (.slot 5, .str), (.slot 6, .int .i64)], [0, 2, 3], [], fun F H k => [.ap .le [zI, .var (k+3)], .ap .le [.var (k+3), .ap (.add .i64) [.ap .slen [.var 0], I 1]], .ap .le [zI, .var k], .ap .le [.var k, .var (k+3)], .ap .le [.ap .slen [.var (k+2)], .var (k+3)], .ap .same [.ap (.mk true) [.var (k+1)], .ap (.usr 220) [.var 0, .var (k+3)]], .ap .same [.var (k+2), .ap (.usr 221) [.var 0, .var (k+3)]], .ap (.usr 222) [.var 0, .var (k+3)], .ap (.typ (.int .i64)) [.var (k+3)]], fun F H k => .ap (.sub .i64) [.ap (.add .i64) [.ap .slen [.var 0], I 1], .var (k+3)]⟩
abbrev ag1 : List X := [(.ap .le [(I 0), (.var 4)]), (.ap .le [(.var 4), (.ap (.add .i64) [(.ap .slen [(.var 0)]), (I 1)])]), (.ap .le [(I 0), (.var 1)]), (.ap .le [(.var 1), (.var 4)]), (.ap .le [(.ap .slen [(.var 3)]), (.var 4)]), (.ap .same [(.ap (.mk true) [(.var 2)]), (.ap (.usr 220) [(.var 0), (.var 4)])]), (.ap .same [(.var 3), (.ap (.usr 221) [(.var 0), (.var 4)])]), (.ap (.usr 222) [(.var 0), (.var 4)]), (.ap (.typ sI) [(.var 4)]), (.ap (.typ .str) [(.var 0)]), (.ap .le [(.ap .slen [(.var 0)]), (I 2500)])]
abbrev aow : List X := (.ap .not [(.ap .eq [(.ap .sidx [(.var 0), (.var 4)]), (.lit (.int .u8 32))])]) :: (.ap .not [(.ap .eq [(.var 4), (.ap .slen [(.var 0)])])]) :: (.ap .le [(.var 4), (.ap .slen [(.var 0)])]) :: ag1
abbrev aj9 : List X := (.ap .not [(.ap .lt [(.lit (.int .u8 126)), (.ap .sidx [(.var 0), (.var 4)])])]) :: (.ap .not [(.ap .lt [(.ap .sidx [(.var 0), (.var 4)]), (.lit (.int .u8 33))])]) :: (.ap .lt [(.var 4), (.ap .slen [(.var 0)])]) :: aow
abbrev aj1 : List X := (.ap .eq [(.ap .sidx [(.var 0), (.var 4)]), (.lit (.int .u8 32))]) :: (.ap .not [(.ap .eq [(.var 4), (.ap .slen [(.var 0)])])]) :: (.ap .le [(.var 4), (.ap .slen [(.var 0)])]) :: ag1
def bfu : List VC := [([(.ap (.typ .str) [(.var 0)]), (.ap .le [(.ap .slen [(.var 0)]), (I 2500)])], (.ap .le [(.ap .slen [(.lit (.string (.mk (.mk []))))]), (I 0)])),
 ([(.ap (.typ .str) [(.var 0)]), (.ap .le [(.ap .slen [(.var 0)]), (I 2500)])], (.ap .same [(.ap (.mk true) [(.ap (.nil true) [])]), (.ap (.usr 220) [(.var 0), (I 0)])])),
 ([(.ap (.typ .str) [(.var 0)]), (.ap .le [(.ap .slen [(.var 0)]), (I 2500)])], (.ap .same [(.lit (.string (.mk (.mk [])))), (.ap (.usr 221) [(.var 0), (I 0)])])),
 ([(.ap (.typ .str) [(.var 0)]), (.ap .le [(.ap .slen [(.var 0)]), (I 2500)])], (.ap (.usr 222) [(.var 0), (I 0)])),
 ([(.ap (.typ .str) [(.var 0)]), (.ap .le [(.ap .slen [(.var 0)]), (I 2500)])], (.ap (.typ sI) [(I 0)])),
 (aow, (.ap .lt [(.var 4), (.ap .slen [(.var 0)])])),
 (aj9, (.ap .le [(.ap .slen [(.ap .ssub [(.var 0), (.var 4), (.ap (.add .i64) [(.var 4), (I 1)])])]), (I 1)])),
 (((.ap .not [(.ap .eq [(.var 3), (.lit (.string (.mk (.mk []))))])]) :: (.ap .eq [(.var 4), (.ap .slen [(.var 0)])]) :: (.ap .le [(.var 4), (.ap .slen [(.var 0)])]) :: ag1), (.ap .le [(.ap .slen [(.lit (.string (.mk (.mk []))))]), (.ap (.add .i64) [(.var 4), (I 1)])])),
 (((.ap .not [(.ap .eq [(.var 3), (.lit (.string (.mk (.mk []))))])]) :: (.ap .eq [(.var 4), (.ap .slen [(.var 0)])]) :: (.ap .le [(.var 4), (.ap .slen [(.var 0)])]) :: ag1), (.ap .same [(.ap (.mk true) [(.ap .cat [(.var 2), (.ap .snoc [(.ap (.nil false) []), (.var 3)])])]), (.ap (.usr 220) [(.var 0), (.ap (.add .i64) [(.var 4), (I 1)])])])),
 (((.ap .not [(.ap .eq [(.var 3), (.lit (.string (.mk (.mk []))))])]) :: (.ap .eq [(.var 4), (.ap .slen [(.var 0)])]) :: (.ap .le [(.var 4), (.ap .slen [(.var 0)])]) :: ag1), (.ap .same [(.lit (.string (.mk (.mk [])))), (.ap (.usr 221) [(.var 0), (.ap (.add .i64) [(.var 4), (I 1)])])])),
 (((.ap .not [(.ap .eq [(.var 3), (.lit (.string (.mk (.mk []))))])]) :: (.ap .eq [(.var 4), (.ap .slen [(.var 0)])]) :: (.ap .le [(.var 4), (.ap .slen [(.var 0)])]) :: ag1), (.ap (.usr 222) [(.var 0), (.ap (.add .i64) [(.var 4), (I 1)])])),
 (((.ap .not [(.ap .eq [(.var 3), (.lit (.string (.mk (.mk []))))])]) :: (.ap .eq [(.var 4), (.ap .slen [(.var 0)])]) :: (.ap .le [(.var 4), (.ap .slen [(.var 0)])]) :: ag1), (.ap (.typ sI) [(.ap (.add .i64) [(.var 4), (I 1)])])),
 (((.ap .not [(.ap .eq [(.var 3), (.lit (.string (.mk (.mk []))))])]) :: aj1), (.ap .le [(.ap .slen [(.lit (.string (.mk (.mk []))))]), (.ap (.add .i64) [(.var 4), (I 1)])])),
 (((.ap .not [(.ap .eq [(.var 3), (.lit (.string (.mk (.mk []))))])]) :: aj1), (.ap .same [(.ap (.mk true) [(.ap .cat [(.var 2), (.ap .snoc [(.ap (.nil false) []), (.var 3)])])]), (.ap (.usr 220) [(.var 0), (.ap (.add .i64) [(.var 4), (I 1)])])])),
 (((.ap .not [(.ap .eq [(.var 3), (.lit (.string (.mk (.mk []))))])]) :: aj1), (.ap .same [(.lit (.string (.mk (.mk [])))), (.ap (.usr 221) [(.var 0), (.ap (.add .i64) [(.var 4), (I 1)])])])),
 (((.ap .not [(.ap .eq [(.var 3), (.lit (.string (.mk (.mk []))))])]) :: aj1), (.ap (.usr 222) [(.var 0), (.ap (.add .i64) [(.var 4), (I 1)])])),
 (((.ap .not [(.ap .eq [(.var 3), (.lit (.string (.mk (.mk []))))])]) :: aj1), (.ap (.typ sI) [(.ap (.add .i64) [(.var 4), (I 1)])])),
 (((.ap .le [(.ap .slen [(.ap .ssub [(.var 0), (.var 4), (.ap (.add .i64) [(.var 4), (I 1)])])]), (I 1)]) :: aj9), (.ap .le [(.ap .slen [(.ap (.sbin .add) [(.var 3), (.ap .ssub [(.var 0), (.var 4), (.ap (.add .i64) [(.var 4), (I 1)])])])]), (.ap (.add .i64) [(.var 4), (I 1)])])),
 (((.ap .le [(.ap .slen [(.ap .ssub [(.var 0), (.var 4), (.ap (.add .i64) [(.var 4), (I 1)])])]), (I 1)]) :: aj9), (.ap .same [(.ap (.mk true) [(.var 2)]), (.ap (.usr 220) [(.var 0), (.ap (.add .i64) [(.var 4), (I 1)])])])),
 (((.ap .le [(.ap .slen [(.ap .ssub [(.var 0), (.var 4), (.ap (.add .i64) [(.var 4), (I 1)])])]), (I 1)]) :: aj9), (.ap .same [(.ap (.sbin .add) [(.var 3), (.ap .ssub [(.var 0), (.var 4), (.ap (.add .i64) [(.var 4), (I 1)])])]), (.ap (.usr 221) [(.var 0), (.ap (.add .i64) [(.var 4), (I 1)])])])),
 (((.ap .le [(.ap .slen [(.ap .ssub [(.var 0), (.var 4), (.ap (.add .i64) [(.var 4), (I 1)])])]), (I 1)]) :: aj9), (.ap (.usr 222) [(.var 0), (.ap (.add .i64) [(.var 4), (I 1)])])),
 (((.ap .le [(.ap .slen [(.ap .ssub [(.var 0), (.var 4), (.ap (.add .i64) [(.var 4), (I 1)])])]), (I 1)]) :: aj9), (.ap (.typ sI) [(.ap (.add .i64) [(.var 4), (I 1)])]))]
def bex : List (List X × List (List X)) := [(((.ap .eq [(.var 3), (.lit (.string (.mk (.mk []))))]) :: (.ap .eq [(.var 4), (.ap .slen [(.var 0)])]) :: (.ap .le [(.var 4), (.ap .slen [(.var 0)])]) :: ag1), [[(.ap (.nil true) [])], [(.lit (.bool false))]]),
 (((.ap .eq [(.var 3), (.lit (.string (.mk (.mk []))))]) :: aj1), [[(.ap (.nil true) [])], [(.lit (.bool false))]]),
 (((.ap .lt [(.ap .sidx [(.var 0), (.var 4)]), (.lit (.int .u8 33))]) :: (.ap .lt [(.var 4), (.ap .slen [(.var 0)])]) :: aow), [[(.ap (.nil true) [])], [(.lit (.bool false))]]),
 (((.ap .lt [(.lit (.int .u8 126)), (.ap .sidx [(.var 0), (.var 4)])]) :: (.ap .not [(.ap .lt [(.ap .sidx [(.var 0), (.var 4)]), (.lit (.int .u8 33))])]) :: (.ap .lt [(.var 4), (.ap .slen [(.var 0)])]) :: aow), [[(.ap (.nil true) [])], [(.lit (.bool false))]]),
 (((.ap .not [(.ap .le [(.var 4), (.ap .slen [(.var 0)])])]) :: ag1), [[(.ap (.mk true) [(.var 2)])], [(.lit (.bool true))]])]
theorem bkj : runS Tryd.prog (aex T0) 10 10 ⟨ad9 [(4, lp22)], hintA [(11, fun F H => [.ap .lt [sx F 6, .ap .slen [.var 0]]]), (13, fun F H => [.ap .le [.ap .slen [.ap .ssub [.var 0, sx F 6, .ap (.add .i64) [sx F 6, I 1]]], I 1]])]⟩ Tryd.f22 (abt Tryd.f22) ax1 = some (bfu, bex) := by kernel_rfl
set_option maxHeartbeats 4000000 in
set_option maxRecDepth 100000 in
theorem c22 : aaq U Tryd.prog 22 ax1 := by
 refine aaq.of (P := Tryd.prog) (U := U) (T := T0) (f := 22) (fn := Tryd.f22) (fuel := 10) (fk := 10) (hs := ⟨ad9 [(4, lp22)], hintA [(11, fun F H => [.ap .lt [sx F 6, .ap .slen [.var 0]]]), (13, fun F H => [.ap .le [.ap .slen [.ap .ssub [.var 0, sx F 6, .ap (.add .i64) [sx F 6, I 1]]], I 1]])]⟩) (S := ax1) (v := bfu) (outs := bex) mixed hT0 at22 bkj ?_ ?_
 ·unfold bfu
  repeat' (first | exact ac9 _ | refine ado (fun v hh => ?_) ?_)
  all_goals
   simp only [aa3, aa6, aa4, aa5, abg, b_lt, b_le, b_eq, aa1, abe, aao, aan, abj, w_mk, aat, abq, abb, aa0, abm, w_l0, w_l1, aac, aag, aaz, aae, aad, aam, aal, bdv, bfk, be7, a0f, aml, mnX, mxX, ad2, acg, ac3, ab3, abk, adx, a6n, w_eq, ad8, ac6, agl, ag1, aow, aj9, aj1] at hh ⊢
   repeat (obtain ⟨_, hh⟩ := hh)
   try (first | grind [= aac, = aac] | (apply sl0 <;> first | assumption | grind [= aac]) | (apply ty_i <;> first | assumption | grind [= aac]) | (apply lt_i <;> first | assumption | grind [= aac]) | (apply wr_z <;> first | assumption | grind [= aac]) | (apply wt_z <;> first | assumption | grind [= aac]) | (apply wk_z <;> first | assumption | grind [= aac]) | (apply bik <;> first | assumption | grind [= aac]) | (apply bhz <;> first | assumption | grind [= aac]) | (apply bdj <;> first | assumption | grind [= aac]) | (apply bjz <;> first | assumption | grind [= aac]) | (apply bfh <;> first | assumption | grind [= aac]) | (apply bht <;> first | assumption | grind [= aac]) | (apply bc7 <;> first | assumption | grind [= aac]) | (apply ss1 <;> first | assumption | grind [= aac]) | (apply w_1 <;> first | assumption | grind [= aac]) | (apply w_b1 <;> first | assumption | grind [= aac]) | (apply w_b2 <;> first | assumption | grind [= aac]) | (apply w_y <;> first | assumption | grind [= aac]))
 ·intro o ho σ hU hh
  obtain ⟨v⟩ := σ
  cases hU
  simp only [bex, List.mem_cons, List.not_mem_nil, or_false] at ho
  repeat' (first | (rcases ho with rfl | ho) | subst ho)
  all_goals
   refine ⟨_, List.mem_cons_self .., by simp only [aa3, aa6, aa4, aa5, abg, b_lt, b_le, b_eq, aa1, abe, aao, aan, abj, w_mk, aat, abq, abb, aa0, abm, w_l0, w_l1, aac, aag, aaz, aae, aad, aam, aal], ?_⟩
   simp only [aa3, aa6, aa4, aa5, abg, b_lt, b_le, b_eq, aa1, abe, aao, aan, abj, w_mk, aat, abq, abb, aa0, abm, w_l0, w_l1, aac, aag, aaz, aae, aad, aam, aal, bdv, bfk, be7, a0f, aml, mnX, mxX, ad2, acg, ac3, ab3, abk, adx, a6n, w_eq, ad8, ac6, agl, ag1, aow, aj9, aj1] at hh
   simp only [List.map_cons, List.map_nil, aa3, aa6, aa4, aa5, abg, b_lt, b_le, b_eq, aa1, abe, aao, aan, abj, w_mk, aat, abq, abb, aa0, abm, w_l0, w_l1, aac, aag, aaz, aae, aad, aam, aal, w_lt, w_le, w_eq, anu, aij, aop, bdv, bfk, be7, a0f, aml, mnX, mxX, ad2, acg, ac3, ab3, abk, adx, a6n, w_eq, ad8, ac6, agl]
   repeat (obtain ⟨_, hh⟩ := hh)
   try (first | grind [= aac, = aac] | (apply sl0 <;> first | assumption | grind [= aac]) | (apply ty_i <;> first | assumption | grind [= aac]) | (apply lt_i <;> first | assumption | grind [= aac]) | (apply wr_z <;> first | assumption | grind [= aac]) | (apply wt_z <;> first | assumption | grind [= aac]) | (apply wk_z <;> first | assumption | grind [= aac]) | (apply bik <;> first | assumption | grind [= aac]) | (apply bhz <;> first | assumption | grind [= aac]) | (apply bdj <;> first | assumption | grind [= aac]) | (apply bjz <;> first | assumption | grind [= aac]) | (apply bfh <;> first | assumption | grind [= aac]) | (apply bht <;> first | assumption | grind [= aac]) | (apply bc7 <;> first | assumption | grind [= aac]) | (apply ss1 <;> first | assumption | grind [= aac]) | (apply w_1 <;> first | assumption | grind [= aac]) | (apply w_b1 <;> first | assumption | grind [= aac]) | (apply w_b2 <;> first | assumption | grind [= aac]) | (apply w_y <;> first | assumption | grind [= aac]))
end Go.Proofs.YtamhchkknlbanaaDoor.Be

namespace Go.Proofs.YtamhchkknlbanaaDoor.Be
open Go.Sx Go.Proofs
theorem a3n {d : CD} {l : List UInt8} (hT : Typ .str d) : (eqC d (.v (.string ⟨⟨l⟩⟩)) = true) = (by' d = l) := by
 obtain ⟨s, rfl, h⟩ := a3l hT
 rw [aqj, ByteArray.toList_eq ⟨⟨l⟩⟩]
 rfl
abbrev isW (l : List UInt8) (e : X) : X := .ap .eq [e, .lit (.string ⟨⟨l⟩⟩)]
abbrev noW (l : List UInt8) (e : X) : X := .ap .not [isW l e]
theorem afk {d : CD} {l : List UInt8} (h : eqC d (.v (.string ⟨⟨l⟩⟩)) = true) (hT : Typ .str d) (hn : l ≠ [99, 117, 116]) : ¬ eqC d (.v (.string ⟨⟨[99, 117, 116]⟩⟩)) = true := by
 rw [a3n hT] at h ⊢
 rw [h]
 exact hn
abbrev a9j : List Srt := [sI, sI, sI, sI, .bool, .int .u8, sI, .sl [.int .u8], .sl [.bool]]
abbrev fo0 : List X × List (List X) := ([isW [116, 105, 99, 107] (.var 0), noW [99, 117, 116] (.var 0)], [[I 1], [I 1], [I 0], [.lit (.bool true)]])
abbrev fo1 : List X × List (List X) := ([isW [116, 97, 107, 101] (.var 0), noW [99, 117, 116] (.var 0)], [[I 2], [I 1], [I 0], [.lit (.bool true)]])
abbrev fo2 : List X × List (List X) := ([isW [102, 108, 111, 119] (.var 0), noW [99, 117, 116] (.var 0)], [[I 14], [I 1], [I 0], [.lit (.bool true)]])
abbrev fo3 : List X × List (List X) := ([isW [97, 116] (.var 0), noW [99, 117, 116] (.var 0)], [[I 3], [I 1], [I 0], [.lit (.bool true)]])
abbrev fo4 : List X × List (List X) := ([isW [100, 114, 111, 112] (.var 0), noW [99, 117, 116] (.var 0)], [[I 4], [I 1], [I 0], [.lit (.bool true)]])
abbrev fo5 : List X × List (List X) := ([isW [100, 111, 117, 98, 108, 101] (.var 0), noW [99, 117, 116] (.var 0)], [[I 5], [I 1], [I 0], [.lit (.bool true)]])
abbrev fo6 : List X × List (List X) := ([isW [109, 111, 118, 101] (.var 0), noW [99, 117, 116] (.var 0)], [[I 6], [I 2], [I 0], [.lit (.bool true)]])
abbrev fo7 : List X × List (List X) := ([isW [99, 117, 116] (.var 0)], [[I 7], [I 2], [I 0], [.lit (.bool true)]])
abbrev fo8 : List X × List (List X) := ([isW [106, 111, 105, 110] (.var 0), noW [99, 117, 116] (.var 0)], [[I 7], [I 2], [I 0], [.lit (.bool true)]])
abbrev fo9 : List X × List (List X) := ([isW [97, 115, 107] (.var 0), noW [99, 117, 116] (.var 0)], [[I 8], [I 2], [I 1], [.lit (.bool true)]])
abbrev fo10 : List X × List (List X) := ([isW [97, 103, 97, 105, 110] (.var 0), noW [99, 117, 116] (.var 0)], [[I 9], [I 1], [I 0], [.lit (.bool true)]])
abbrev fo11 : List X × List (List X) := ([isW [114, 101, 111, 112, 101, 110] (.var 0), noW [99, 117, 116] (.var 0)], [[I 11], [I 1], [I 0], [.lit (.bool true)]])
abbrev fo12 : List X × List (List X) := ([isW [99, 114, 97, 115, 104] (.var 0), noW [99, 117, 116] (.var 0)], [[I 10], [I 2], [I 2], [.lit (.bool true)]])
abbrev fo13 : List X × List (List X) := ([isW [102, 117, 115, 101] (.var 0), noW [99, 117, 116] (.var 0)], [[I 12], [I 2], [I 0], [.lit (.bool true)]])
abbrev fo14 : List X × List (List X) := ([isW [116, 117, 114, 110] (.var 0), noW [99, 117, 116] (.var 0)], [[I 13], [I 4], [I 0], [.lit (.bool true)]])
abbrev fo15 : List X × List (List X) := ([noW [116, 105, 99, 107] (.var 0), noW [116, 97, 107, 101] (.var 0), noW [102, 108, 111, 119] (.var 0), noW [97, 116] (.var 0), noW [100, 114, 111, 112] (.var 0), noW [100, 111, 117, 98, 108, 101] (.var 0), noW [109, 111, 118, 101] (.var 0), noW [99, 117, 116] (.var 0), noW [106, 111, 105, 110] (.var 0), noW [97, 115, 107] (.var 0), noW [97, 103, 97, 105, 110] (.var 0), noW [114, 101, 111, 112, 101, 110] (.var 0), noW [99, 114, 97, 115, 104] (.var 0), noW [102, 117, 115, 101] (.var 0), noW [116, 117, 114, 110] (.var 0)], [[I 0], [I 0], [I 0], [.lit (.bool false)]])
noncomputable def a9l : Fsp := ⟨[(false, [.str])], [], [(false, [sI]), (false, [sI]), (false, [sI]), (false, [.bool])], [fo0, fo1, fo2, fo3, fo4, fo5, fo6, fo7, fo8, fo9, fo10, fo11, fo12, fo13, fo14, fo15], true⟩
abbrev au4 : List X := [(.ap .not [(.ap .eq [(.var 0), (.lit (.string (.mk (.mk [116, 97, 107, 101]))))])]), (.ap .not [(.ap .eq [(.var 0), (.lit (.string (.mk (.mk [116, 105, 99, 107]))))])]), (.ap (.typ .str) [(.var 0)])]
abbrev as4 : List X := (.ap .not [(.ap .eq [(.var 0), (.lit (.string (.mk (.mk [100, 114, 111, 112]))))])]) :: (.ap .not [(.ap .eq [(.var 0), (.lit (.string (.mk (.mk [97, 116]))))])]) :: (.ap .not [(.ap .eq [(.var 0), (.lit (.string (.mk (.mk [102, 108, 111, 119]))))])]) :: au4
abbrev au7 : List X := (.ap .not [(.ap .eq [(.var 0), (.lit (.string (.mk (.mk [99, 117, 116]))))])]) :: (.ap .not [(.ap .eq [(.var 0), (.lit (.string (.mk (.mk [109, 111, 118, 101]))))])]) :: (.ap .not [(.ap .eq [(.var 0), (.lit (.string (.mk (.mk [100, 111, 117, 98, 108, 101]))))])]) :: as4
abbrev avi : List X := (.ap .not [(.ap .eq [(.var 0), (.lit (.string (.mk (.mk [97, 103, 97, 105, 110]))))])]) :: (.ap .not [(.ap .eq [(.var 0), (.lit (.string (.mk (.mk [97, 115, 107]))))])]) :: (.ap .not [(.ap .eq [(.var 0), (.lit (.string (.mk (.mk [106, 111, 105, 110]))))])]) :: au7
abbrev a5q : List X := (.ap .not [(.ap .eq [(.var 0), (.lit (.string (.mk (.mk [102, 117, 115, 101]))))])]) :: (.ap .not [(.ap .eq [(.var 0), (.lit (.string (.mk (.mk [99, 114, 97, 115, 104]))))])]) :: (.ap .not [(.ap .eq [(.var 0), (.lit (.string (.mk (.mk [114, 101, 111, 112, 101, 110]))))])]) :: avi
def bhj : List VC := []
def be3 : List (List X × List (List X)) := [([(.ap .eq [(.var 0), (.lit (.string (.mk (.mk [116, 105, 99, 107]))))]), (.ap (.typ .str) [(.var 0)])], [[(I 1)], [(I 1)], [(I 0)], [(.lit (.bool true))]]),
 ([(.ap .eq [(.var 0), (.lit (.string (.mk (.mk [116, 97, 107, 101]))))]), (.ap .not [(.ap .eq [(.var 0), (.lit (.string (.mk (.mk [116, 105, 99, 107]))))])]), (.ap (.typ .str) [(.var 0)])], [[(I 2)], [(I 1)], [(I 0)], [(.lit (.bool true))]]),
 (((.ap .eq [(.var 0), (.lit (.string (.mk (.mk [102, 108, 111, 119]))))]) :: au4), [[(I 14)], [(I 1)], [(I 0)], [(.lit (.bool true))]]),
 (((.ap .eq [(.var 0), (.lit (.string (.mk (.mk [97, 116]))))]) :: (.ap .not [(.ap .eq [(.var 0), (.lit (.string (.mk (.mk [102, 108, 111, 119]))))])]) :: au4), [[(I 3)], [(I 1)], [(I 0)], [(.lit (.bool true))]]),
 (((.ap .eq [(.var 0), (.lit (.string (.mk (.mk [100, 114, 111, 112]))))]) :: (.ap .not [(.ap .eq [(.var 0), (.lit (.string (.mk (.mk [97, 116]))))])]) :: (.ap .not [(.ap .eq [(.var 0), (.lit (.string (.mk (.mk [102, 108, 111, 119]))))])]) :: au4), [[(I 4)], [(I 1)], [(I 0)], [(.lit (.bool true))]]),
 (((.ap .eq [(.var 0), (.lit (.string (.mk (.mk [100, 111, 117, 98, 108, 101]))))]) :: as4), [[(I 5)], [(I 1)], [(I 0)], [(.lit (.bool true))]]),
 (((.ap .eq [(.var 0), (.lit (.string (.mk (.mk [109, 111, 118, 101]))))]) :: (.ap .not [(.ap .eq [(.var 0), (.lit (.string (.mk (.mk [100, 111, 117, 98, 108, 101]))))])]) :: as4), [[(I 6)], [(I 2)], [(I 0)], [(.lit (.bool true))]]),
 (((.ap .eq [(.var 0), (.lit (.string (.mk (.mk [99, 117, 116]))))]) :: (.ap .not [(.ap .eq [(.var 0), (.lit (.string (.mk (.mk [109, 111, 118, 101]))))])]) :: (.ap .not [(.ap .eq [(.var 0), (.lit (.string (.mk (.mk [100, 111, 117, 98, 108, 101]))))])]) :: as4), [[(I 7)], [(I 2)], [(I 0)], [(.lit (.bool true))]]),
 (((.ap .eq [(.var 0), (.lit (.string (.mk (.mk [106, 111, 105, 110]))))]) :: au7), [[(I 7)], [(I 2)], [(I 0)], [(.lit (.bool true))]]),
 (((.ap .eq [(.var 0), (.lit (.string (.mk (.mk [97, 115, 107]))))]) :: (.ap .not [(.ap .eq [(.var 0), (.lit (.string (.mk (.mk [106, 111, 105, 110]))))])]) :: au7), [[(I 8)], [(I 2)], [(I 1)], [(.lit (.bool true))]]),
 (((.ap .eq [(.var 0), (.lit (.string (.mk (.mk [97, 103, 97, 105, 110]))))]) :: (.ap .not [(.ap .eq [(.var 0), (.lit (.string (.mk (.mk [97, 115, 107]))))])]) :: (.ap .not [(.ap .eq [(.var 0), (.lit (.string (.mk (.mk [106, 111, 105, 110]))))])]) :: au7), [[(I 9)], [(I 1)], [(I 0)], [(.lit (.bool true))]]),
 (((.ap .eq [(.var 0), (.lit (.string (.mk (.mk [114, 101, 111, 112, 101, 110]))))]) :: avi), [[(I 11)], [(I 1)], [(I 0)], [(.lit (.bool true))]]),
 (((.ap .eq [(.var 0), (.lit (.string (.mk (.mk [99, 114, 97, 115, 104]))))]) :: (.ap .not [(.ap .eq [(.var 0), (.lit (.string (.mk (.mk [114, 101, 111, 112, 101, 110]))))])]) :: avi), [[(I 10)], [(I 2)], [(I 2)], [(.lit (.bool true))]]),
 (((.ap .eq [(.var 0), (.lit (.string (.mk (.mk [102, 117, 115, 101]))))]) :: (.ap .not [(.ap .eq [(.var 0), (.lit (.string (.mk (.mk [99, 114, 97, 115, 104]))))])]) :: (.ap .not [(.ap .eq [(.var 0), (.lit (.string (.mk (.mk [114, 101, 111, 112, 101, 110]))))])]) :: avi), [[(I 12)], [(I 2)], [(I 0)], [(.lit (.bool true))]]),
 (((.ap .eq [(.var 0), (.lit (.string (.mk (.mk [116, 117, 114, 110]))))]) :: a5q), [[(I 13)], [(I 4)], [(I 0)], [(.lit (.bool true))]]),
 (((.ap .not [(.ap .eq [(.var 0), (.lit (.string (.mk (.mk [116, 117, 114, 110]))))])]) :: a5q), [[(I 0)], [(I 0)], [(I 0)], [(.lit (.bool false))]])]
theorem bj1 : runS Tryd.prog (aex T0) 10 20 ⟨ad9 [], hintA []⟩ Tryd.f23 (abt Tryd.f23) a9l = some (bhj, be3) := by kernel_rfl
set_option maxRecDepth 100000 in
theorem c23 : aaq U Tryd.prog 23 a9l := by
 refine aaq.of (P := Tryd.prog) (U := U) (T := T0) (f := 23) (fn := Tryd.f23) (fuel := 10) (fk := 20) (hs := ⟨ad9 [], hintA []⟩) (S := a9l) (v := bhj) (outs := be3) mixed hT0 at23 bj1 ?_ ?_
 ·unfold bhj
  exact ac9 _
 ·intro o ho σ hU hh
  obtain ⟨v⟩ := σ
  cases hU
  simp only [be3, List.mem_cons, List.not_mem_nil, or_false] at ho
  rcases ho with rfl | rfl | rfl | rfl | rfl | rfl | rfl | rfl | rfl | rfl | rfl | rfl | rfl | rfl | rfl | rfl
  all_goals
   simp only [aa3, aa6, aa4, aa5, abg, acd, ab7, aap, w_wr, b_lt, b_le, b_eq, aa1, adg, b_or, abe, aao, aa2, adn, acs, aan, aa7, abj, w_mk, aat, abq, adl, acz, acy, abb, ac1, ada, aa0, abm, ace, w_l0, w_l1, aac, aag, aaz, aae, aad, aam, aal, aby, abw, abx, abz, adi, ade, ab1, ac0, au4, as4, au7, avi, a5q] at hh
  ·exact ⟨fo0, (List.mem_cons_self ..), by simp only [aa3, aa6, aa4, aa5, abg, acd, ab7, aap, w_wr, b_lt, b_le, b_eq, aa1, adg, b_or, abe, aao, aa2, adn, acs, aan, aa7, abj, w_mk, aat, abq, adl, acz, acy, abb, ac1, ada, aa0, abm, ace, w_l0, w_l1, aac, aag, aaz, aae, aad, aam, aal, aby, abw, abx, abz, adi, ade, ab1, ac0]; exact ⟨hh.1, afk hh.1 (by grind) (by decide), trivial⟩, rfl⟩
  ·exact ⟨fo1, (List.mem_cons_of_mem _ (List.mem_cons_self ..)), by simp only [aa3, aa6, aa4, aa5, abg, acd, ab7, aap, w_wr, b_lt, b_le, b_eq, aa1, adg, b_or, abe, aao, aa2, adn, acs, aan, aa7, abj, w_mk, aat, abq, adl, acz, acy, abb, ac1, ada, aa0, abm, ace, w_l0, w_l1, aac, aag, aaz, aae, aad, aam, aal, aby, abw, abx, abz, adi, ade, ab1, ac0]; exact ⟨hh.1, afk hh.1 (by grind) (by decide), trivial⟩, rfl⟩
  ·exact ⟨fo2, (List.mem_cons_of_mem _ (List.mem_cons_of_mem _ (List.mem_cons_self ..))), by simp only [aa3, aa6, aa4, aa5, abg, acd, ab7, aap, w_wr, b_lt, b_le, b_eq, aa1, adg, b_or, abe, aao, aa2, adn, acs, aan, aa7, abj, w_mk, aat, abq, adl, acz, acy, abb, ac1, ada, aa0, abm, ace, w_l0, w_l1, aac, aag, aaz, aae, aad, aam, aal, aby, abw, abx, abz, adi, ade, ab1, ac0]; exact ⟨hh.1, afk hh.1 (by grind) (by decide), trivial⟩, rfl⟩
  ·exact ⟨fo3, (List.mem_cons_of_mem _ (List.mem_cons_of_mem _ (List.mem_cons_of_mem _ (List.mem_cons_self ..)))), by simp only [aa3, aa6, aa4, aa5, abg, acd, ab7, aap, w_wr, b_lt, b_le, b_eq, aa1, adg, b_or, abe, aao, aa2, adn, acs, aan, aa7, abj, w_mk, aat, abq, adl, acz, acy, abb, ac1, ada, aa0, abm, ace, w_l0, w_l1, aac, aag, aaz, aae, aad, aam, aal, aby, abw, abx, abz, adi, ade, ab1, ac0]; exact ⟨hh.1, afk hh.1 (by grind) (by decide), trivial⟩, rfl⟩
  ·exact ⟨fo4, (List.mem_cons_of_mem _ (List.mem_cons_of_mem _ (List.mem_cons_of_mem _ (List.mem_cons_of_mem _ (List.mem_cons_self ..))))), by simp only [aa3, aa6, aa4, aa5, abg, acd, ab7, aap, w_wr, b_lt, b_le, b_eq, aa1, adg, b_or, abe, aao, aa2, adn, acs, aan, aa7, abj, w_mk, aat, abq, adl, acz, acy, abb, ac1, ada, aa0, abm, ace, w_l0, w_l1, aac, aag, aaz, aae, aad, aam, aal, aby, abw, abx, abz, adi, ade, ab1, ac0]; exact ⟨hh.1, afk hh.1 (by grind) (by decide), trivial⟩, rfl⟩
  ·exact ⟨fo5, (List.mem_cons_of_mem _ (List.mem_cons_of_mem _ (List.mem_cons_of_mem _ (List.mem_cons_of_mem _ (List.mem_cons_of_mem _ (List.mem_cons_self ..)))))), by simp only [aa3, aa6, aa4, aa5, abg, acd, ab7, aap, w_wr, b_lt, b_le, b_eq, aa1, adg, b_or, abe, aao, aa2, adn, acs, aan, aa7, abj, w_mk, aat, abq, adl, acz, acy, abb, ac1, ada, aa0, abm, ace, w_l0, w_l1, aac, aag, aaz, aae, aad, aam, aal, aby, abw, abx, abz, adi, ade, ab1, ac0]; exact ⟨hh.1, afk hh.1 (by grind) (by decide), trivial⟩, rfl⟩
  ·exact ⟨fo6, (List.mem_cons_of_mem _ (List.mem_cons_of_mem _ (List.mem_cons_of_mem _ (List.mem_cons_of_mem _ (List.mem_cons_of_mem _ (List.mem_cons_of_mem _ (List.mem_cons_self ..))))))), by simp only [aa3, aa6, aa4, aa5, abg, acd, ab7, aap, w_wr, b_lt, b_le, b_eq, aa1, adg, b_or, abe, aao, aa2, adn, acs, aan, aa7, abj, w_mk, aat, abq, adl, acz, acy, abb, ac1, ada, aa0, abm, ace, w_l0, w_l1, aac, aag, aaz, aae, aad, aam, aal, aby, abw, abx, abz, adi, ade, ab1, ac0]; exact ⟨hh.1, afk hh.1 (by grind) (by decide), trivial⟩, rfl⟩
  ·exact ⟨fo7, (List.mem_cons_of_mem _ (List.mem_cons_of_mem _ (List.mem_cons_of_mem _ (List.mem_cons_of_mem _ (List.mem_cons_of_mem _ (List.mem_cons_of_mem _ (List.mem_cons_of_mem _ (List.mem_cons_self ..)))))))), by simp only [aa3, aa6, aa4, aa5, abg, acd, ab7, aap, w_wr, b_lt, b_le, b_eq, aa1, adg, b_or, abe, aao, aa2, adn, acs, aan, aa7, abj, w_mk, aat, abq, adl, acz, acy, abb, ac1, ada, aa0, abm, ace, w_l0, w_l1, aac, aag, aaz, aae, aad, aam, aal, aby, abw, abx, abz, adi, ade, ab1, ac0]; exact ⟨hh.1, trivial⟩, rfl⟩
  ·exact ⟨fo8, (List.mem_cons_of_mem _ (List.mem_cons_of_mem _ (List.mem_cons_of_mem _ (List.mem_cons_of_mem _ (List.mem_cons_of_mem _ (List.mem_cons_of_mem _ (List.mem_cons_of_mem _ (List.mem_cons_of_mem _ (List.mem_cons_self ..))))))))), by simp only [aa3, aa6, aa4, aa5, abg, acd, ab7, aap, w_wr, b_lt, b_le, b_eq, aa1, adg, b_or, abe, aao, aa2, adn, acs, aan, aa7, abj, w_mk, aat, abq, adl, acz, acy, abb, ac1, ada, aa0, abm, ace, w_l0, w_l1, aac, aag, aaz, aae, aad, aam, aal, aby, abw, abx, abz, adi, ade, ab1, ac0]; exact ⟨hh.1, afk hh.1 (by grind) (by decide), trivial⟩, rfl⟩
  ·exact ⟨fo9, (List.mem_cons_of_mem _ (List.mem_cons_of_mem _ (List.mem_cons_of_mem _ (List.mem_cons_of_mem _ (List.mem_cons_of_mem _ (List.mem_cons_of_mem _ (List.mem_cons_of_mem _ (List.mem_cons_of_mem _ (List.mem_cons_of_mem _ (List.mem_cons_self ..)))))))))), by simp only [aa3, aa6, aa4, aa5, abg, acd, ab7, aap, w_wr, b_lt, b_le, b_eq, aa1, adg, b_or, abe, aao, aa2, adn, acs, aan, aa7, abj, w_mk, aat, abq, adl, acz, acy, abb, ac1, ada, aa0, abm, ace, w_l0, w_l1, aac, aag, aaz, aae, aad, aam, aal, aby, abw, abx, abz, adi, ade, ab1, ac0]; exact ⟨hh.1, afk hh.1 (by grind) (by decide), trivial⟩, rfl⟩
  ·exact ⟨fo10, (List.mem_cons_of_mem _ (List.mem_cons_of_mem _ (List.mem_cons_of_mem _ (List.mem_cons_of_mem _ (List.mem_cons_of_mem _ (List.mem_cons_of_mem _ (List.mem_cons_of_mem _ (List.mem_cons_of_mem _ (List.mem_cons_of_mem _ (List.mem_cons_of_mem _ (List.mem_cons_self ..))))))))))), by simp only [aa3, aa6, aa4, aa5, abg, acd, ab7, aap, w_wr, b_lt, b_le, b_eq, aa1, adg, b_or, abe, aao, aa2, adn, acs, aan, aa7, abj, w_mk, aat, abq, adl, acz, acy, abb, ac1, ada, aa0, abm, ace, w_l0, w_l1, aac, aag, aaz, aae, aad, aam, aal, aby, abw, abx, abz, adi, ade, ab1, ac0]; exact ⟨hh.1, afk hh.1 (by grind) (by decide), trivial⟩, rfl⟩
  ·exact ⟨fo11, (List.mem_cons_of_mem _ (List.mem_cons_of_mem _ (List.mem_cons_of_mem _ (List.mem_cons_of_mem _ (List.mem_cons_of_mem _ (List.mem_cons_of_mem _ (List.mem_cons_of_mem _ (List.mem_cons_of_mem _ (List.mem_cons_of_mem _ (List.mem_cons_of_mem _ (List.mem_cons_of_mem _ (List.mem_cons_self ..)))))))))))), by simp only [aa3, aa6, aa4, aa5, abg, acd, ab7, aap, w_wr, b_lt, b_le, b_eq, aa1, adg, b_or, abe, aao, aa2, adn, acs, aan, aa7, abj, w_mk, aat, abq, adl, acz, acy, abb, ac1, ada, aa0, abm, ace, w_l0, w_l1, aac, aag, aaz, aae, aad, aam, aal, aby, abw, abx, abz, adi, ade, ab1, ac0]; exact ⟨hh.1, afk hh.1 (by grind) (by decide), trivial⟩, rfl⟩
  ·exact ⟨fo12, (List.mem_cons_of_mem _ (List.mem_cons_of_mem _ (List.mem_cons_of_mem _ (List.mem_cons_of_mem _ (List.mem_cons_of_mem _ (List.mem_cons_of_mem _ (List.mem_cons_of_mem _ (List.mem_cons_of_mem _ (List.mem_cons_of_mem _ (List.mem_cons_of_mem _ (List.mem_cons_of_mem _ (List.mem_cons_of_mem _ (List.mem_cons_self ..))))))))))))), by simp only [aa3, aa6, aa4, aa5, abg, acd, ab7, aap, w_wr, b_lt, b_le, b_eq, aa1, adg, b_or, abe, aao, aa2, adn, acs, aan, aa7, abj, w_mk, aat, abq, adl, acz, acy, abb, ac1, ada, aa0, abm, ace, w_l0, w_l1, aac, aag, aaz, aae, aad, aam, aal, aby, abw, abx, abz, adi, ade, ab1, ac0]; exact ⟨hh.1, afk hh.1 (by grind) (by decide), trivial⟩, rfl⟩
  ·exact ⟨fo13, (List.mem_cons_of_mem _ (List.mem_cons_of_mem _ (List.mem_cons_of_mem _ (List.mem_cons_of_mem _ (List.mem_cons_of_mem _ (List.mem_cons_of_mem _ (List.mem_cons_of_mem _ (List.mem_cons_of_mem _ (List.mem_cons_of_mem _ (List.mem_cons_of_mem _ (List.mem_cons_of_mem _ (List.mem_cons_of_mem _ (List.mem_cons_of_mem _ (List.mem_cons_self ..)))))))))))))), by simp only [aa3, aa6, aa4, aa5, abg, acd, ab7, aap, w_wr, b_lt, b_le, b_eq, aa1, adg, b_or, abe, aao, aa2, adn, acs, aan, aa7, abj, w_mk, aat, abq, adl, acz, acy, abb, ac1, ada, aa0, abm, ace, w_l0, w_l1, aac, aag, aaz, aae, aad, aam, aal, aby, abw, abx, abz, adi, ade, ab1, ac0]; exact ⟨hh.1, afk hh.1 (by grind) (by decide), trivial⟩, rfl⟩
  ·exact ⟨fo14, (List.mem_cons_of_mem _ (List.mem_cons_of_mem _ (List.mem_cons_of_mem _ (List.mem_cons_of_mem _ (List.mem_cons_of_mem _ (List.mem_cons_of_mem _ (List.mem_cons_of_mem _ (List.mem_cons_of_mem _ (List.mem_cons_of_mem _ (List.mem_cons_of_mem _ (List.mem_cons_of_mem _ (List.mem_cons_of_mem _ (List.mem_cons_of_mem _ (List.mem_cons_of_mem _ (List.mem_cons_self ..))))))))))))))), by simp only [aa3, aa6, aa4, aa5, abg, acd, ab7, aap, w_wr, b_lt, b_le, b_eq, aa1, adg, b_or, abe, aao, aa2, adn, acs, aan, aa7, abj, w_mk, aat, abq, adl, acz, acy, abb, ac1, ada, aa0, abm, ace, w_l0, w_l1, aac, aag, aaz, aae, aad, aam, aal, aby, abw, abx, abz, adi, ade, ab1, ac0]; exact ⟨hh.1, afk hh.1 (by grind) (by decide), trivial⟩, rfl⟩
  ·exact ⟨fo15, (List.mem_cons_of_mem _ (List.mem_cons_of_mem _ (List.mem_cons_of_mem _ (List.mem_cons_of_mem _ (List.mem_cons_of_mem _ (List.mem_cons_of_mem _ (List.mem_cons_of_mem _ (List.mem_cons_of_mem _ (List.mem_cons_of_mem _ (List.mem_cons_of_mem _ (List.mem_cons_of_mem _ (List.mem_cons_of_mem _ (List.mem_cons_of_mem _ (List.mem_cons_of_mem _ (List.mem_cons_of_mem _ (List.mem_cons_self ..)))))))))))))))), by simp only [aa3, aa6, aa4, aa5, abg, acd, ab7, aap, w_wr, b_lt, b_le, b_eq, aa1, adg, b_or, abe, aao, aa2, adn, acs, aan, aa7, abj, w_mk, aat, abq, adl, acz, acy, abb, ac1, ada, aa0, abm, ace, w_l0, w_l1, aac, aag, aaz, aae, aad, aam, aal, aby, abw, abx, abz, adi, ade, ab1, ac0]; grind, rfl⟩
end Go.Proofs.YtamhchkknlbanaaDoor.Be
