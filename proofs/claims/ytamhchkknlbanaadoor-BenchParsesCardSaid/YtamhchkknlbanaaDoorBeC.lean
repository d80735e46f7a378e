/-
  Contracts of a seat's functions: bytes by their digits, by the reference. Conditions: none.
-/
import Derived.Test.YtamhchkknlbanaaDoorBeU
set_option linter.unusedSectionVars false
set_option linter.unusedVariables false
set_option linter.unusedSimpArgs false
namespace Go.Proofs.YtamhchkknlbanaaDoor.Be
open Go.Sx Go.Proofs
theorem agi {l : List UInt8} {i : Nat} (h : i < l.length) : l.take (i + 1) = l.take i ++ [l.getD i 0] := by
 rw [List.take_add_one, List.getD_eq_getElem?_getD, List.getElem?_eq_getElem h]
 rfl
theorem amw {l : List UInt8} {b : UInt8} : valD (l ++ [b]) = 10 * valD l + ((b.toNat : Int) - 48) := by
 unfold valD
 rw [List.foldl_append]
 rfl
theorem anc {l : List UInt8} {b : UInt8} : digs (l ++ [b]) = (digs l && dig b) := by
 unfold digs
 rw [List.all_append]
 simp
theorem a4k : ∀ (n : Nat) {l : List UInt8}, l.length = n → digs l = true → 0 ≤ valD l ∧ valD l + 1 ≤ 10 ^ n
 | 0, l, h, _ => by
  rw [List.length_eq_zero_iff.1 h]
  decide
 | n + 1, l, h, hd => by
  have h0 : l.length ≠ 0 := by omega
  have hl : l = l.take n ++ [l.getD n 0] := by
   rw [← agi (by omega), List.take_of_length_le (by omega)]
  rw [hl] at hd ⊢
  rw [anc, Bool.and_eq_true] at hd
  obtain ⟨a, b⟩ := a4k n (by rw [List.length_take]; omega) hd.1
  rw [amw]
  have h2 := hd.2
  unfold dig at h2
  rw [Bool.and_eq_true, decide_eq_true_eq, decide_eq_true_eq] at h2
  rw [Int.pow_succ]
  omega
theorem bix {d : CD} : 0 = valD ((by' d).take (Int.toNat 0)) := rfl
theorem bkg {d : CD} : digs ((by' d).take (Int.toNat 0)) = true := rfl
theorem ar2 {d p : CD} {i : Int} (hp : p = vInt .i64 (valD ((by' d).take i.toNat))) (hd : digs ((by' d).take i.toNat) = true) (h0 : 0 ≤ i) (hi : i < d.slen) (hT : Typ .str d) (hl : ¬ 10 < (d.slen : Int)) (h1 : ¬ byAt d i < 48) (h2 : ¬ 57 < byAt d i) : digs ((by' d).take (i + 1).toNat) = true ∧ valD ((by' d).take (i + 1).toNat) = 10 * p.iv + (byAt d i - 48) ∧ 10 * p.iv + (byAt d i - 48) ≤ 9999999999 := by
 rw [abd hT] at hi hl
 have hlt : i.toNat < (by' d).length := by omega
 rw [show (i + 1).toNat = i.toNat + 1 by omega, agi hlt, anc, amw, hd, hp, aac]
 have hb : dig ((by' d).getD i.toNat 0) = true := by
  unfold dig
  unfold byAt at h1 h2
  rw [Bool.and_eq_true, decide_eq_true_eq, decide_eq_true_eq]
  omega
 refine ⟨by rw [hb]; rfl, rfl, ?_⟩
 have hdg : digs ((by' d).take (i.toNat + 1)) = true := by rw [agi hlt, anc, hd, hb]; rfl
 obtain ⟨_, hv⟩ := a4k (i.toNat + 1) (l := (by' d).take (i.toNat + 1)) (by rw [List.length_take]; omega) hdg
 rw [agi hlt, amw] at hv
 have : (10 : Int) ^ (i.toNat + 1) ≤ 10 ^ 10 := by exact_mod_cast Nat.pow_le_pow_right (n := 10) (by decide) (show i.toNat + 1 ≤ 10 by omega)
 have h10 : (10 : Int) ^ 10 = 10000000000 := by decide
 unfold byAt
 omega
theorem bdd {d p : CD} {i : Int} (hp : p = vInt .i64 (valD ((by' d).take i.toNat))) (hd : digs ((by' d).take i.toNat) = true) (h0 : 0 ≤ i) (hi : i < d.slen) (hT : Typ .str d) (hl : ¬ 10 < (d.slen : Int)) (h1 : ¬ byAt d i < 48) (h2 : ¬ 57 < byAt d i) : 10 * p.iv + (byAt d i - 48) ≤ 9999999999 := (ar2 hp hd h0 hi hT hl h1 h2).2.2
theorem bdn {d p : CD} {i : Int} (hp : p = vInt .i64 (valD ((by' d).take i.toNat))) (hd : digs ((by' d).take i.toNat) = true) (h0 : 0 ≤ i) (hi : i < d.slen) (hT : Typ .str d) (hl : ¬ 10 < (d.slen : Int)) (h1 : ¬ byAt d i < 48) (h2 : ¬ 57 < byAt d i) : 10 * p.iv + (byAt d i - 48) = valD ((by' d).take (i + 1).toNat) := (ar2 hp hd h0 hi hT hl h1 h2).2.1.symm
theorem bcu {d p : CD} {i : Int} (hp : p = vInt .i64 (valD ((by' d).take i.toNat))) (hd : digs ((by' d).take i.toNat) = true) (h0 : 0 ≤ i) (hi : i < d.slen) (hT : Typ .str d) (hl : ¬ 10 < (d.slen : Int)) (h1 : ¬ byAt d i < 48) (h2 : ¬ 57 < byAt d i) : digs ((by' d).take (i + 1).toNat) = true := (ar2 hp hd h0 hi hT hl h1 h2).1
theorem awz {d : CD} (h : afh (by' d) = false) : [[vInt .i64 (numV (by' d))], [aaf (afh (by' d) && decide (valD (by' d) ≤ 1073741824))]] = [[vInt .i64 0], [aaf false]] := by
 unfold numV
 rw [h]
 rfl
theorem bir {d : CD} (h : eqC d (.v (.string ⟨⟨[]⟩⟩)) = true) (hT : Typ .str d) : [[vInt .i64 (numV (by' d))], [aaf (afh (by' d) && decide (valD (by' d) ≤ 1073741824))]] = [[vInt .i64 0], [aaf false]] := by
 refine awz ?_
 rw [arj hT] at h
 rw [h]
 rfl
theorem bhz {d : CD} (h : 10 < (d.slen : Int)) (hT : Typ .str d) : [[vInt .i64 (numV (by' d))], [aaf (afh (by' d) && decide (valD (by' d) ≤ 1073741824))]] = [[vInt .i64 0], [aaf false]] := by
 refine awz ?_
 rw [abd hT] at h
 unfold afh
 rw [decide_eq_false (by omega)]
 simp
theorem bc6 {z n : Int} : (eqC (vInt .u8 z) (vInt .u8 n) = true) = (z = n) := decide_eq_true_eq
theorem bjy {d : CD} (h : eqC (vInt .u8 (byAt d 0)) (vInt .u8 48) = true) (h1 : 1 < (d.slen : Int)) (hT : Typ .str d) : [[vInt .i64 (numV (by' d))], [aaf (afh (by' d) && decide (valD (by' d) ≤ 1073741824))]] = [[vInt .i64 0], [aaf false]] := by
 refine awz ?_
 rw [abd hT] at h1
 rw [bc6] at h
 unfold byAt at h
 unfold afh
 rw [decide_eq_true (show 1 < (by' d).length by omega), decide_eq_true (show ((by' d).getD 0 0).toNat = 48 by
  have : (((by' d).getD (0 : Int).toNat 0).toNat : Int) = 48 := h
  exact_mod_cast this)]
 simp
theorem bii {d : CD} {i : Int} (h : byAt d i < 48 ∨ 57 < byAt d i) (h0 : 0 ≤ i) (hi : i < d.slen) (hT : Typ .str d) : [[vInt .i64 (numV (by' d))], [aaf (afh (by' d) && decide (valD (by' d) ≤ 1073741824))]] = [[vInt .i64 0], [aaf false]] := by
 refine awz ?_
 rw [abd hT] at hi
 have hlt : i.toNat < (by' d).length := by omega
 have hf : digs (by' d) = false := by
  unfold digs
  rw [List.all_eq_false]
  refine ⟨(by' d).getD i.toNat 0, ?_, ?_⟩
  ·rw [List.getD_eq_getElem?_getD, List.getElem?_eq_getElem hlt]
   exact List.getElem_mem hlt
  ·unfold dig
   unfold byAt at h
   rw [Bool.and_eq_true, decide_eq_true_eq, decide_eq_true_eq]
   omega
 unfold afh
 rw [hf]
 simp
theorem bdl {d : CD} {i : Int} (h : byAt d i < 48) (h0 : 0 ≤ i) (hi : i < d.slen) (hT : Typ .str d) : [[vInt .i64 (numV (by' d))], [aaf (afh (by' d) && decide (valD (by' d) ≤ 1073741824))]] = [[vInt .i64 0], [aaf false]] := bii (.inl h) h0 hi hT
theorem bc5 {d : CD} {i : Int} (h : 57 < byAt d i) (h0 : 0 ≤ i) (hi : i < d.slen) (hT : Typ .str d) : [[vInt .i64 (numV (by' d))], [aaf (afh (by' d) && decide (valD (by' d) ≤ 1073741824))]] = [[vInt .i64 0], [aaf false]] := bii (.inr h) h0 hi hT
theorem bh7 {d p : CD} {i : Int} (hp : p = vInt .i64 (valD ((by' d).take i.toNat))) (hd : digs ((by' d).take i.toNat) = true) (hi : ¬ i < d.slen) (hT : Typ .str d) (hl : ¬ 10 < (d.slen : Int)) (hn : ¬ eqC d (.v (.string ⟨⟨[]⟩⟩)) = true) (hz : ¬ 1 < (d.slen : Int) ∨ ¬ eqC (vInt .u8 (byAt d 0)) (vInt .u8 48) = true) : [[vInt .i64 (numV (by' d))], [aaf (afh (by' d) && decide (valD (by' d) ≤ 1073741824))]] = [[p], [aaf (decide (p.iv ≤ 1073741824))]] := by
 rw [abd hT] at hi hl hz
 rw [arj hT] at hn
 rw [List.take_of_length_le (by omega)] at hp hd
 have hk : afh (by' d) = true := by
  unfold afh
  rw [hd, decide_eq_true (show (by' d).length ≤ 10 by omega)]
  have h1 : (by' d).isEmpty = false := by
   cases hb : by' d with
   | nil => exact absurd hb hn
   | cons _ _ => rfl
  have h2 : (decide (1 < (by' d).length) && decide (((by' d).getD 0 0).toNat = 48)) = false := by
   rw [Bool.and_eq_false_iff]
   rcases hz with hz | hz
   ·exact .inl (decide_eq_false (by omega))
   ·right
    rw [bc6] at hz
    refine decide_eq_false fun h => hz ?_
    show (((by' d).getD (0 : Int).toNat 0).toNat : Int) = 48
    exact_mod_cast h
  rw [h1, h2]
  rfl
 unfold numV
 rw [if_pos hk, hk, hp, aac, Bool.true_and]
noncomputable def SNum : Fsp := ⟨[(false, [.str])], [], [(false, [sI]), (false, [.bool])], [([], [[.ap (.usr 201) [.var 0]], [.ap (.usr 202) [.var 0]]])], true⟩
noncomputable def lp24 : Lp := ⟨[(.slot 4, .int .i64), (.slot 5, .int .i64)], [0, 2, 3], [], fun F H k => [.ap .le [zI, .var (k+1)], .ap .le [.var (k+1), .ap .slen [.var 0]], .ap .le [zI, .var k], .ap .le [.var k, I 9999999999], .ap .same [.var k, .ap (.usr 203) [.var 0, .var (k+1)]], .ap (.usr 204) [.var 0, .var (k+1)]], fun F H k => .ap (.sub .i64) [.ap .slen [.var 0], .var (k+1)]⟩
abbrev ai5 : List X := [(.ap .not [(.ap .lt [(I 10), (.ap .slen [(.var 0)])])]), (.ap .not [(.ap .eq [(.var 0), (.lit (.string (.mk (.mk []))))])]), (.ap (.typ .str) [(.var 0)])]
abbrev aj9 : List X := (.ap .le [(I 0), (.var 2)]) :: (.ap .le [(.var 2), (.ap .slen [(.var 0)])]) :: (.ap .le [(I 0), (.var 1)]) :: (.ap .le [(.var 1), (I 9999999999)]) :: (.ap .same [(.var 1), (.ap (.usr 203) [(.var 0), (.var 2)])]) :: (.ap (.usr 204) [(.var 0), (.var 2)]) :: (.ap .not [(.ap .eq [(.ap .sidx [(.var 0), (I 0)]), (.lit (.int .u8 48))])]) :: (.ap .lt [(I 1), (.ap .slen [(.var 0)])]) :: ai5
abbrev akj : List X := (.ap .le [(I 0), (.var 2)]) :: (.ap .le [(.var 2), (.ap .slen [(.var 0)])]) :: (.ap .le [(I 0), (.var 1)]) :: (.ap .le [(.var 1), (I 9999999999)]) :: (.ap .same [(.var 1), (.ap (.usr 203) [(.var 0), (.var 2)])]) :: (.ap (.usr 204) [(.var 0), (.var 2)]) :: (.ap .not [(.ap .lt [(I 1), (.ap .slen [(.var 0)])])]) :: ai5
def bgu : List VC := [(((.ap .not [(.ap .eq [(.ap .sidx [(.var 0), (I 0)]), (.lit (.int .u8 48))])]) :: (.ap .lt [(I 1), (.ap .slen [(.var 0)])]) :: ai5), (.ap .same [(I 0), (.ap (.usr 203) [(.var 0), (I 0)])])),
 (((.ap .not [(.ap .eq [(.ap .sidx [(.var 0), (I 0)]), (.lit (.int .u8 48))])]) :: (.ap .lt [(I 1), (.ap .slen [(.var 0)])]) :: ai5), (.ap (.usr 204) [(.var 0), (I 0)])),
 (((.ap .not [(.ap .lt [(.lit (.int .u8 57)), (.ap .sidx [(.var 0), (.var 2)])])]) :: (.ap .not [(.ap .lt [(.ap .sidx [(.var 0), (.var 2)]), (.lit (.int .u8 48))])]) :: (.ap .lt [(.var 2), (.ap .slen [(.var 0)])]) :: aj9), (.ap .le [(.ap (.add .i64) [(.ap (.mul .i64) [(I 10), (.var 1)]), (.ap (.cast .i64) [(.ap (.sub .u8) [(.ap .sidx [(.var 0), (.var 2)]), (.lit (.int .u8 48))])])]), (I 9999999999)])),
 (((.ap .not [(.ap .lt [(.lit (.int .u8 57)), (.ap .sidx [(.var 0), (.var 2)])])]) :: (.ap .not [(.ap .lt [(.ap .sidx [(.var 0), (.var 2)]), (.lit (.int .u8 48))])]) :: (.ap .lt [(.var 2), (.ap .slen [(.var 0)])]) :: aj9), (.ap .same [(.ap (.add .i64) [(.ap (.mul .i64) [(I 10), (.var 1)]), (.ap (.cast .i64) [(.ap (.sub .u8) [(.ap .sidx [(.var 0), (.var 2)]), (.lit (.int .u8 48))])])]), (.ap (.usr 203) [(.var 0), (.ap (.add .i64) [(.var 2), (I 1)])])])),
 (((.ap .not [(.ap .lt [(.lit (.int .u8 57)), (.ap .sidx [(.var 0), (.var 2)])])]) :: (.ap .not [(.ap .lt [(.ap .sidx [(.var 0), (.var 2)]), (.lit (.int .u8 48))])]) :: (.ap .lt [(.var 2), (.ap .slen [(.var 0)])]) :: aj9), (.ap (.usr 204) [(.var 0), (.ap (.add .i64) [(.var 2), (I 1)])])),
 (((.ap .not [(.ap .lt [(I 1), (.ap .slen [(.var 0)])])]) :: ai5), (.ap .same [(I 0), (.ap (.usr 203) [(.var 0), (I 0)])])),
 (((.ap .not [(.ap .lt [(I 1), (.ap .slen [(.var 0)])])]) :: ai5), (.ap (.usr 204) [(.var 0), (I 0)])),
 (((.ap .not [(.ap .lt [(.lit (.int .u8 57)), (.ap .sidx [(.var 0), (.var 2)])])]) :: (.ap .not [(.ap .lt [(.ap .sidx [(.var 0), (.var 2)]), (.lit (.int .u8 48))])]) :: (.ap .lt [(.var 2), (.ap .slen [(.var 0)])]) :: akj), (.ap .le [(.ap (.add .i64) [(.ap (.mul .i64) [(I 10), (.var 1)]), (.ap (.cast .i64) [(.ap (.sub .u8) [(.ap .sidx [(.var 0), (.var 2)]), (.lit (.int .u8 48))])])]), (I 9999999999)])),
 (((.ap .not [(.ap .lt [(.lit (.int .u8 57)), (.ap .sidx [(.var 0), (.var 2)])])]) :: (.ap .not [(.ap .lt [(.ap .sidx [(.var 0), (.var 2)]), (.lit (.int .u8 48))])]) :: (.ap .lt [(.var 2), (.ap .slen [(.var 0)])]) :: akj), (.ap .same [(.ap (.add .i64) [(.ap (.mul .i64) [(I 10), (.var 1)]), (.ap (.cast .i64) [(.ap (.sub .u8) [(.ap .sidx [(.var 0), (.var 2)]), (.lit (.int .u8 48))])])]), (.ap (.usr 203) [(.var 0), (.ap (.add .i64) [(.var 2), (I 1)])])])),
 (((.ap .not [(.ap .lt [(.lit (.int .u8 57)), (.ap .sidx [(.var 0), (.var 2)])])]) :: (.ap .not [(.ap .lt [(.ap .sidx [(.var 0), (.var 2)]), (.lit (.int .u8 48))])]) :: (.ap .lt [(.var 2), (.ap .slen [(.var 0)])]) :: akj), (.ap (.usr 204) [(.var 0), (.ap (.add .i64) [(.var 2), (I 1)])]))]
def bg9 : List (List X × List (List X)) := [([(.ap .eq [(.var 0), (.lit (.string (.mk (.mk []))))]), (.ap (.typ .str) [(.var 0)])], [[(I 0)], [(.lit (.bool false))]]),
 ([(.ap .lt [(I 10), (.ap .slen [(.var 0)])]), (.ap .not [(.ap .eq [(.var 0), (.lit (.string (.mk (.mk []))))])]), (.ap (.typ .str) [(.var 0)])], [[(I 0)], [(.lit (.bool false))]]),
 (((.ap .eq [(.ap .sidx [(.var 0), (I 0)]), (.lit (.int .u8 48))]) :: (.ap .lt [(I 1), (.ap .slen [(.var 0)])]) :: ai5), [[(I 0)], [(.lit (.bool false))]]),
 (((.ap .lt [(.ap .sidx [(.var 0), (.var 2)]), (.lit (.int .u8 48))]) :: (.ap .lt [(.var 2), (.ap .slen [(.var 0)])]) :: aj9), [[(I 0)], [(.lit (.bool false))]]),
 (((.ap .lt [(.lit (.int .u8 57)), (.ap .sidx [(.var 0), (.var 2)])]) :: (.ap .not [(.ap .lt [(.ap .sidx [(.var 0), (.var 2)]), (.lit (.int .u8 48))])]) :: (.ap .lt [(.var 2), (.ap .slen [(.var 0)])]) :: aj9), [[(I 0)], [(.lit (.bool false))]]),
 (((.ap .not [(.ap .lt [(.var 2), (.ap .slen [(.var 0)])])]) :: aj9), [[(.var 1)], [(.ap .le [(.var 1), (I 1073741824)])]]),
 (((.ap .lt [(.ap .sidx [(.var 0), (.var 2)]), (.lit (.int .u8 48))]) :: (.ap .lt [(.var 2), (.ap .slen [(.var 0)])]) :: akj), [[(I 0)], [(.lit (.bool false))]]),
 (((.ap .lt [(.lit (.int .u8 57)), (.ap .sidx [(.var 0), (.var 2)])]) :: (.ap .not [(.ap .lt [(.ap .sidx [(.var 0), (.var 2)]), (.lit (.int .u8 48))])]) :: (.ap .lt [(.var 2), (.ap .slen [(.var 0)])]) :: akj), [[(I 0)], [(.lit (.bool false))]]),
 (((.ap .not [(.ap .lt [(.var 2), (.ap .slen [(.var 0)])])]) :: akj), [[(.var 1)], [(.ap .le [(.var 1), (I 1073741824)])]])]
theorem bj5 : runS Tryd.prog (aev T0) 10 40 ⟨ad8 [(5, lp24)], hintA []⟩ Tryd.f24 (abr Tryd.f24) SNum = some (bgu, bg9) := by kernel_rfl
set_option maxHeartbeats 4000000 in
set_option maxRecDepth 100000 in
theorem c24 : aaq U Tryd.prog 24 SNum := by
 refine aaq.of (P := Tryd.prog) (U := U) (T := T0) (f := 24) (fn := Tryd.f24) (fuel := 10) (fk := 40) (hs := ⟨ad8 [(5, lp24)], hintA []⟩) (S := SNum) (v := bgu) (outs := bg9) mixed hT0 at24 bj5 ?_ ?_
 ·unfold bgu
  repeat' (first | exact ac8 _ | refine adp (fun v hh => ?_) ?_)
  all_goals
   simp only [aa1, aa5, aa4, aa6, abg, acd, ab7, aap, b_lt, b_le, b_eq, aaz, abe, aao, aan, w_mk, abb, aa2, w_l0, w_l1, aac, aag, aa3, aae, aad, aam, aak, a5d, awp, bfs, bfz, mnX, mxX, ad2, acg, ac2, ab3, abk, ady, ai5, aj9, akj] at hh ⊢
   repeat (obtain ⟨_, hh⟩ := hh)
   try (first | grind [= aac, = aac] | (apply bix <;> first | assumption | grind [= aac]) | (apply bkg <;> first | assumption | grind [= aac]) | (apply bdd <;> first | assumption | grind [= aac]) | (apply bdn <;> first | assumption | grind [= aac]) | (apply bcu <;> first | assumption | grind [= aac]) | (apply bir <;> first | assumption | grind [= aac]) | (apply bhz <;> first | assumption | grind [= aac]) | (apply bjy <;> first | assumption | grind [= aac]) | (apply bdl <;> first | assumption | grind [= aac]) | (apply bc5 <;> first | assumption | grind [= aac]) | (apply bh7 <;> first | assumption | grind [= aac]))
 ·intro o ho σ hU hh
  obtain ⟨v⟩ := σ
  cases hU
  simp only [bg9, List.mem_cons, List.not_mem_nil, or_false] at ho
  repeat' (first | (rcases ho with rfl | ho) | subst ho)
  all_goals
   refine ⟨_, List.mem_cons_self .., by simp only [aa1, aa5, aa4, aa6, abg, acd, ab7, aap, b_lt, b_le, b_eq, aaz, abe, aao, aan, w_mk, abb, aa2, w_l0, w_l1, aac, aag, aa3, aae, aad, aam, aak], ?_⟩
   simp only [aa1, aa5, aa4, aa6, abg, acd, ab7, aap, b_lt, b_le, b_eq, aaz, abe, aao, aan, w_mk, abb, aa2, w_l0, w_l1, aac, aag, aa3, aae, aad, aam, aak, a5d, awp, bfs, bfz, mnX, mxX, ad2, acg, ac2, ab3, abk, ady, ai5, aj9, akj] at hh
   simp only [List.map_cons, List.map_nil, aa1, aa5, aa4, aa6, abg, acd, ab7, aap, b_lt, b_le, b_eq, aaz, abe, aao, aan, w_mk, abb, aa2, w_l0, w_l1, aac, aag, aa3, aae, aad, aam, aak, w_lt, w_le, w_eq, ald, aii, aoh, a5d, awp, bfs, bfz, mnX, mxX, ad2, acg, ac2, ab3, abk, ady]
   repeat (obtain ⟨_, hh⟩ := hh)
   try (first | grind [= aac, = aac] | (apply bix <;> first | assumption | grind [= aac]) | (apply bkg <;> first | assumption | grind [= aac]) | (apply bdd <;> first | assumption | grind [= aac]) | (apply bdn <;> first | assumption | grind [= aac]) | (apply bcu <;> first | assumption | grind [= aac]) | (apply bir <;> first | assumption | grind [= aac]) | (apply bhz <;> first | assumption | grind [= aac]) | (apply bjy <;> first | assumption | grind [= aac]) | (apply bdl <;> first | assumption | grind [= aac]) | (apply bc5 <;> first | assumption | grind [= aac]) | (apply bh7 <;> first | assumption | grind [= aac]))
end Go.Proofs.YtamhchkknlbanaaDoor.Be

namespace Go.Proofs.YtamhchkknlbanaaDoor.Be
open Go.Sx Go.Proofs
noncomputable def SDig : Fsp := ⟨[(false, [.int .u8])], [], [(false, [sI])], [([], [[.ap (.usr 205) [.var 0]]])], true⟩
theorem bjx {x : Int} (h1 : x ≤ 57) (h2 : 48 ≤ x) : digV x = x - 48 := by unfold digV; rw [if_pos ⟨h2, h1⟩]
theorem bie {x : Int} (h1 : x ≤ 102) (h2 : 97 ≤ x) : digV x = x - 97 + 10 := by unfold digV; rw [if_neg (by omega), if_pos ⟨h2, h1⟩]
theorem bju {x : Int} (h1 : ¬ (48 ≤ x ∧ x ≤ 57)) (h2 : ¬ (97 ≤ x ∧ x ≤ 102)) : digV x = -1 := by unfold digV; rw [if_neg h1, if_neg h2]
abbrev ap0 : List X := [(.ap .le [(.lit (.int .u8 48)), (.var 0)]), (.ap .le [(.lit (.int .u8 0)), (.var 0)]), (.ap .le [(.var 0), (.lit (.int .u8 255))])]
def bhh : List VC := []
def bgb : List (List X × List (List X)) := [(((.ap .le [(.var 0), (.lit (.int .u8 57))]) :: ap0), [[(.ap (.cast .i64) [(.ap (.sub .u8) [(.var 0), (.lit (.int .u8 48))])])]]),
 (((.ap .le [(.var 0), (.lit (.int .u8 102))]) :: (.ap .le [(.lit (.int .u8 97)), (.var 0)]) :: (.ap .not [(.ap .le [(.var 0), (.lit (.int .u8 57))])]) :: ap0), [[(.ap (.add .i64) [(.ap (.cast .i64) [(.ap (.sub .u8) [(.var 0), (.lit (.int .u8 97))])]), (I 10)])]]),
 (((.ap .not [(.ap .le [(.var 0), (.lit (.int .u8 102))])]) :: (.ap .le [(.lit (.int .u8 97)), (.var 0)]) :: (.ap .not [(.ap .le [(.var 0), (.lit (.int .u8 57))])]) :: ap0), [[(I (-1))]]),
 (((.ap .not [(.ap .le [(.lit (.int .u8 97)), (.var 0)])]) :: (.ap .not [(.ap .le [(.var 0), (.lit (.int .u8 57))])]) :: ap0), [[(I (-1))]]),
 ([(.ap .not [(.ap .le [(.lit (.int .u8 48)), (.var 0)])]), (.ap .le [(.lit (.int .u8 0)), (.var 0)]), (.ap .le [(.var 0), (.lit (.int .u8 255))])], [[(I (-1))]])]
theorem bjq : runS Tryd.prog (aev T0) 10 10 ⟨ad8 [], hintA []⟩ Tryd.f48 (abr Tryd.f48) SDig = some (bhh, bgb) := by kernel_rfl
set_option maxHeartbeats 4000000 in
set_option maxRecDepth 100000 in
theorem c48 : aaq U Tryd.prog 48 SDig := by
 refine aaq.of (P := Tryd.prog) (U := U) (T := T0) (f := 48) (fn := Tryd.f48) (fuel := 10) (fk := 10) (hs := ⟨ad8 [], hintA []⟩) (S := SDig) (v := bhh) (outs := bgb) mixed hT0 at48 bjq ?_ ?_
 ·unfold bhh
  repeat' (first | exact ac8 _ | refine adp (fun v hh => ?_) ?_)
  all_goals
   simp only [aa1, aa5, aa4, aa6, abg, acd, aap, b_le, aaz, aa2, w_l0, w_l1, aac, aag, aa3, aae, aad, aam, aak, a0o, mnX, mxX, ad2, acg, ac2, ab3, abk, ap0] at hh ⊢
   repeat (obtain ⟨_, hh⟩ := hh)
   try (first | grind [bjx, bie, bju, = aac])
 ·intro o ho σ hU hh
  obtain ⟨v⟩ := σ
  cases hU
  simp only [bgb, List.mem_cons, List.not_mem_nil, or_false] at ho
  repeat' (first | (rcases ho with rfl | ho) | subst ho)
  all_goals
   refine ⟨_, List.mem_cons_self .., by simp only [aa1, aa5, aa4, aa6, abg, acd, aap, b_le, aaz, aa2, w_l0, w_l1, aac, aag, aa3, aae, aad, aam, aak], ?_⟩
   simp only [aa1, aa5, aa4, aa6, abg, acd, aap, b_le, aaz, aa2, w_l0, w_l1, aac, aag, aa3, aae, aad, aam, aak, a0o, mnX, mxX, ad2, acg, ac2, ab3, abk, ap0] at hh
   simp only [List.map_cons, List.map_nil, aa1, aa5, aa4, aa6, abg, acd, aap, b_le, aaz, aa2, w_l0, w_l1, aac, aag, aa3, aae, aad, aam, aak, w_le, ald, a0o, mnX, mxX, ad2, acg, ac2, ab3, abk]
   repeat (obtain ⟨_, hh⟩ := hh)
   try (first | grind [bjx, bie, bju, = aac])
theorem ayn {d : CD} : [] = ajq ((by' d).take (Int.toNat 0)) := rfl
theorem ba5 {d : CD} : abw ((by' d).take (Int.toNat 0)) = true := rfl
theorem a2f {l : List UInt8} {b : UInt8} : ajq (l ++ [b]) = ajq l ++ [a2j b] := by
 unfold ajq
 rw [List.map_append]
 rfl
theorem axb {l : List UInt8} {b : UInt8} : abw (l ++ [b]) = (abw l && a4b b) := by
 unfold abw
 rw [List.all_append]
 simp
theorem ajl {z n : Int} : eqC (vInt .u8 z) (vInt .u8 n) = decide (z = n) := rfl
theorem ajo {d : CD} {i : Int} (h0 : 0 ≤ i) (hi : i < d.slen) (hT : Typ .str d) : (by' d).take (i + 1).toNat = (by' d).take i.toNat ++ [(by' d).getD i.toNat 0] := by
 rw [abd hT] at hi
 rw [show (i + 1).toNat = i.toNat + 1 by omega, agi (by omega)]
theorem aru {d : CD} {i : Int} (hi : ¬ i < d.slen) (hT : Typ .str d) : (by' d).take i.toNat = by' d := by
 rw [abd hT] at hi
 exact List.take_of_length_le (by omega)
theorem a3r {d : CD} {r : List (List CD)} {i : Int} (hr : r = ajq ((by' d).take i.toNat)) (h0 : 0 ≤ i) (hi : i < d.slen) (hT : Typ .str d) : r ++ ([] ++ [[aaf (eqC (vInt .u8 (byAt d i)) (vInt .u8 49))]]) = ajq ((by' d).take (i + 1).toNat) := by
 rw [ajo h0 hi hT, a2f, hr, List.nil_append, ajl]
 unfold a2j byAt
 congr 4
 rw [decide_eq_decide]
 omega
theorem a2w {d : CD} {i : Int} (h : eqC (vInt .u8 (byAt d i)) (vInt .u8 49) = true) (hb : abw ((by' d).take i.toNat) = true) (h0 : 0 ≤ i) (hi : i < d.slen) (hT : Typ .str d) : abw ((by' d).take (i + 1).toNat) = true := by
 rw [ajo h0 hi hT, axb, hb]
 rw [ajl, decide_eq_true_eq] at h
 unfold byAt at h
 unfold a4b
 rw [Bool.true_and, Bool.or_eq_true, decide_eq_true_eq, decide_eq_true_eq]
 omega
theorem a6d {d : CD} {i : Int} (h : eqC (vInt .u8 (byAt d i)) (vInt .u8 48) = true) (hb : abw ((by' d).take i.toNat) = true) (h0 : 0 ≤ i) (hi : i < d.slen) (hT : Typ .str d) : abw ((by' d).take (i + 1).toNat) = true := by
 rw [ajo h0 hi hT, axb, hb]
 rw [ajl, decide_eq_true_eq] at h
 unfold byAt at h
 unfold a4b
 rw [Bool.true_and, Bool.or_eq_true, decide_eq_true_eq, decide_eq_true_eq]
 omega
theorem av2 {d : CD} {i : Int} (h1 : ¬ eqC (vInt .u8 (byAt d i)) (vInt .u8 49) = true) (h2 : ¬ eqC (vInt .u8 (byAt d i)) (vInt .u8 48) = true) (h0 : 0 ≤ i) (hi : i < d.slen) (hT : Typ .str d) : [[mkz (an5 (by' d))], [aaf (abw (by' d) && decide (0 < (by' d).length))]] = [[CD.sl true []], [aaf false]] := by
 rw [abd hT] at hi
 have hlt : i.toNat < (by' d).length := by omega
 have hf : abw (by' d) = false := by
  unfold abw
  rw [List.all_eq_false]
  refine ⟨(by' d).getD i.toNat 0, ?_, ?_⟩
  ·rw [List.getD_eq_getElem?_getD, List.getElem?_eq_getElem hlt]
   exact List.getElem_mem hlt
  ·rw [ajl, decide_eq_true_eq] at h1 h2
   unfold byAt at h1 h2
   unfold a4b
   rw [Bool.or_eq_true, decide_eq_true_eq, decide_eq_true_eq]
   omega
 unfold an5
 rw [hf]
 rfl
theorem bcg {d : CD} {r : List (List CD)} {i : Int} (hr : r = ajq ((by' d).take i.toNat)) (hb : abw ((by' d).take i.toNat) = true) (hi : ¬ i < d.slen) (hT : Typ .str d) : [[mkz (an5 (by' d))], [aaf (abw (by' d) && decide (0 < (by' d).length))]] = [[mkz r], [aaf (decide (0 < (d.slen : Int)))]] := by
 rw [aru hi hT] at hr hb
 unfold an5
 rw [if_pos hb, hb, hr, abd hT, Bool.true_and]
 congr 4
 rw [decide_eq_decide]
 omega
noncomputable def a9n : Fsp := ⟨[(false, [.str])], [.ap .le [.ap .slen [.var 0], I 2500]], [(false, [.sl [.bool]]), (false, [.bool])], [([], [[.ap (.usr 206) [.var 0]], [.ap (.usr 207) [.var 0]]])], true⟩
noncomputable def lp27 : Lp := ⟨[(.slot 4, .own true [.bool]), (.slot 5, .int .i64)], [0, 2, 3], [], fun F H k => [.ap .le [zI, .var (k+2)], .ap .le [.var (k+2), .ap .slen [.var 0]], .ap .le [.var k, .var (k+2)], .ap .le [.var (k+2), .var k], .ap .same [.ap (.mk true) [.var (k+1)], .ap (.usr 208) [.var 0, .var (k+2)]], .ap (.usr 209) [.var 0, .var (k+2)]], fun F H k => .ap (.sub .i64) [.ap .slen [.var 0], .var (k+2)]⟩
abbrev akg : List X := [(.ap .le [(I 0), (.var 3)]), (.ap .le [(.var 3), (.ap .slen [(.var 0)])]), (.ap .le [(.var 1), (.var 3)]), (.ap .le [(.var 3), (.var 1)]), (.ap .same [(.ap (.mk true) [(.var 2)]), (.ap (.usr 208) [(.var 0), (.var 3)])]), (.ap (.usr 209) [(.var 0), (.var 3)]), (.ap (.typ .str) [(.var 0)]), (.ap .le [(.ap .slen [(.var 0)]), (I 2500)])]
def bgo : List VC := [([(.ap (.typ .str) [(.var 0)]), (.ap .le [(.ap .slen [(.var 0)]), (I 2500)])], (.ap .same [(.ap (.mk true) [(.ap (.nil true) [])]), (.ap (.usr 208) [(.var 0), (I 0)])])),
 ([(.ap (.typ .str) [(.var 0)]), (.ap .le [(.ap .slen [(.var 0)]), (I 2500)])], (.ap (.usr 209) [(.var 0), (I 0)])),
 (((.ap .eq [(.ap .sidx [(.var 0), (.var 3)]), (.lit (.int .u8 49))]) :: (.ap .not [(.ap .eq [(.ap .sidx [(.var 0), (.var 3)]), (.lit (.int .u8 48))])]) :: (.ap .lt [(.var 3), (.ap .slen [(.var 0)])]) :: akg), (.ap .same [(.ap (.mk true) [(.ap .cat [(.var 2), (.ap .snoc [(.ap (.nil false) []), (.ap .eq [(.ap .sidx [(.var 0), (.var 3)]), (.lit (.int .u8 49))])])])]), (.ap (.usr 208) [(.var 0), (.ap (.add .i64) [(.var 3), (I 1)])])])),
 (((.ap .eq [(.ap .sidx [(.var 0), (.var 3)]), (.lit (.int .u8 49))]) :: (.ap .not [(.ap .eq [(.ap .sidx [(.var 0), (.var 3)]), (.lit (.int .u8 48))])]) :: (.ap .lt [(.var 3), (.ap .slen [(.var 0)])]) :: akg), (.ap (.usr 209) [(.var 0), (.ap (.add .i64) [(.var 3), (I 1)])])),
 (((.ap .eq [(.ap .sidx [(.var 0), (.var 3)]), (.lit (.int .u8 48))]) :: (.ap .lt [(.var 3), (.ap .slen [(.var 0)])]) :: akg), (.ap .same [(.ap (.mk true) [(.ap .cat [(.var 2), (.ap .snoc [(.ap (.nil false) []), (.ap .eq [(.ap .sidx [(.var 0), (.var 3)]), (.lit (.int .u8 49))])])])]), (.ap (.usr 208) [(.var 0), (.ap (.add .i64) [(.var 3), (I 1)])])])),
 (((.ap .eq [(.ap .sidx [(.var 0), (.var 3)]), (.lit (.int .u8 48))]) :: (.ap .lt [(.var 3), (.ap .slen [(.var 0)])]) :: akg), (.ap (.usr 209) [(.var 0), (.ap (.add .i64) [(.var 3), (I 1)])]))]
def bfi : List (List X × List (List X)) := [(((.ap .not [(.ap .eq [(.ap .sidx [(.var 0), (.var 3)]), (.lit (.int .u8 49))])]) :: (.ap .not [(.ap .eq [(.ap .sidx [(.var 0), (.var 3)]), (.lit (.int .u8 48))])]) :: (.ap .lt [(.var 3), (.ap .slen [(.var 0)])]) :: akg), [[(.ap (.nil true) [])], [(.lit (.bool false))]]),
 (((.ap .not [(.ap .lt [(.var 3), (.ap .slen [(.var 0)])])]) :: akg), [[(.ap (.mk true) [(.var 2)])], [(.ap .lt [(I 0), (.ap .slen [(.var 0)])])]])]
theorem bkb : runS Tryd.prog (aev T0) 10 10 ⟨ad8 [(3, lp27)], hintA []⟩ Tryd.f27 (abr Tryd.f27) a9n = some (bgo, bfi) := by kernel_rfl
set_option maxHeartbeats 4000000 in
set_option maxRecDepth 100000 in
theorem c27 : aaq U Tryd.prog 27 a9n := by
 refine aaq.of (P := Tryd.prog) (U := U) (T := T0) (f := 27) (fn := Tryd.f27) (fuel := 10) (fk := 10) (hs := ⟨ad8 [(3, lp27)], hintA []⟩) (S := a9n) (v := bgo) (outs := bfi) mixed hT0 at27 bkb ?_ ?_
 ·unfold bgo
  repeat' (first | exact ac8 _ | refine adp (fun v hh => ?_) ?_)
  all_goals
   simp only [aa1, aa5, aa4, aa6, abg, b_lt, b_le, b_eq, aaz, abe, aao, aan, abj, w_mk, aat, abq, abb, aa2, w_l0, w_l1, aac, aag, aa3, aae, aad, aam, aak, aoo, a2r, a1a, az3, mnX, mxX, ad2, acg, ac2, ab3, abk, ady, w_eq, ad7, ac6, agk, akg] at hh ⊢
   repeat (obtain ⟨_, hh⟩ := hh)
   try (first | grind [= aac, = aac] | (apply ayn <;> first | assumption | grind [= aac]) | (apply ba5 <;> first | assumption | grind [= aac]) | (apply a3r <;> first | assumption | grind [= aac]) | (apply a2w <;> first | assumption | grind [= aac]) | (apply a6d <;> first | assumption | grind [= aac]) | (apply av2 <;> first | assumption | grind [= aac]) | (apply bcg <;> first | assumption | grind [= aac]))
 ·intro o ho σ hU hh
  obtain ⟨v⟩ := σ
  cases hU
  simp only [bfi, List.mem_cons, List.not_mem_nil, or_false] at ho
  repeat' (first | (rcases ho with rfl | ho) | subst ho)
  all_goals
   refine ⟨_, List.mem_cons_self .., by simp only [aa1, aa5, aa4, aa6, abg, b_lt, b_le, b_eq, aaz, abe, aao, aan, abj, w_mk, aat, abq, abb, aa2, w_l0, w_l1, aac, aag, aa3, aae, aad, aam, aak], ?_⟩
   simp only [aa1, aa5, aa4, aa6, abg, b_lt, b_le, b_eq, aaz, abe, aao, aan, abj, w_mk, aat, abq, abb, aa2, w_l0, w_l1, aac, aag, aa3, aae, aad, aam, aak, aoo, a2r, a1a, az3, mnX, mxX, ad2, acg, ac2, ab3, abk, ady, w_eq, ad7, ac6, agk, akg] at hh
   simp only [List.map_cons, List.map_nil, aa1, aa5, aa4, aa6, abg, b_lt, b_le, b_eq, aaz, abe, aao, aan, abj, w_mk, aat, abq, abb, aa2, w_l0, w_l1, aac, aag, aa3, aae, aad, aam, aak, w_lt, w_le, w_eq, ald, aii, aoh, aoo, a2r, a1a, az3, mnX, mxX, ad2, acg, ac2, ab3, abk, ady, w_eq, ad7, ac6, agk]
   repeat (obtain ⟨_, hh⟩ := hh)
   try (first | grind [= aac, = aac] | (apply ayn <;> first | assumption | grind [= aac]) | (apply ba5 <;> first | assumption | grind [= aac]) | (apply a3r <;> first | assumption | grind [= aac]) | (apply a2w <;> first | assumption | grind [= aac]) | (apply a6d <;> first | assumption | grind [= aac]) | (apply av2 <;> first | assumption | grind [= aac]) | (apply bcg <;> first | assumption | grind [= aac]))
end Go.Proofs.YtamhchkknlbanaaDoor.Be

namespace Go.Proofs.YtamhchkknlbanaaDoor.Be
open Go.Sx Go.Proofs
noncomputable def T1 : List (FuncId × Fsp) := [(48, SDig)]
set_option maxRecDepth 100000 in
theorem hT1 : aji U Tryd.prog T1 := .cons c48 .nil
theorem a9j {x : Int} : digV x ≤ 15 := by
 unfold digV
 split
 ·omega
 ·split <;> omega
theorem bje {d : CD} : [] = hexR ((by' d).take (Int.toNat 0)) := rfl
theorem bct {d : CD} : (hexB ((by' d).take (Int.toNat 0)) && decide (Int.toNat 0 % 2 = 0)) = true := rfl
theorem aie : ∀ {p q : List UInt8}, p.length % 2 = 0 → hexR (p ++ q) = hexR p ++ hexR q
 | [], q, _ => rfl
 | [_], _, h => by simp at h
 | a :: b :: r, q, h => by
  show _ :: hexR (r ++ q) = _
  rw [aie (p := r) (by simp only [List.length_cons] at h; omega)]
  rfl
theorem agd : ∀ {p q : List UInt8}, p.length % 2 = 0 → hexB (p ++ q) = (hexB p && hexB q)
 | [], q, _ => rfl
 | [_], _, h => by simp at h
 | a :: b :: r, q, h => by
  show (_ && hexB (r ++ q)) = _
  rw [agd (p := r) (by simp only [List.length_cons] at h; omega), ← Bool.and_assoc]
  rfl
theorem a1q {d : CD} {i : Int} (h0 : 0 ≤ i) (hi : i + 1 < d.slen) (hT : Typ .str d) : (by' d).take (i + 2).toNat = (by' d).take i.toNat ++ [(by' d).getD i.toNat 0, (by' d).getD (i + 1).toNat 0] := by
 have h1 := ajo (d := d) (i := i + 1) (by omega) hi hT
 have h2 := ajo (d := d) (i := i) h0 (by omega) hT
 rw [show i + 2 = i + 1 + 1 by omega, h1, h2, List.append_assoc]
 rfl
theorem asn {d : CD} {i : Int} (h0 : 0 ≤ i) (hi : i ≤ d.slen) (hT : Typ .str d) (h2 : i.toNat % 2 = 0) : ((by' d).take i.toNat).length % 2 = 0 := by
 rw [abd hT] at hi
 rw [List.length_take]
 omega
theorem hb_1 {d : CD} {i : Int} (hb : (hexB ((by' d).take i.toNat) && decide (i.toNat % 2 = 0)) = true) : hexB ((by' d).take i.toNat) = true ∧ i.toNat % 2 = 0 := by
 rw [Bool.and_eq_true, decide_eq_true_eq] at hb
 exact hb
theorem bjg {d : CD} {r : List (List CD)} {i : Int} (hr : r = hexR ((by' d).take i.toNat)) (hb : (hexB ((by' d).take i.toNat) && decide (i.toNat % 2 = 0)) = true) (h0 : 0 ≤ i) (hi : i + 1 < d.slen) (hT : Typ .str d) : r ++ ([] ++ [[vInt .u8 (16 * digV (byAt d i) + digV (byAt d (i + 1)))]]) = hexR ((by' d).take (i + 2).toNat) := by
 rw [a1q h0 hi hT, aie (asn h0 (by omega) hT (hb_1 hb).2), hr]
 rfl
theorem bcf {d : CD} {i : Int} (hb : (hexB ((by' d).take i.toNat) && decide (i.toNat % 2 = 0)) = true) (h1 : ¬ digV (byAt d i) < 0) (h2 : ¬ digV (byAt d (i + 1)) < 0) (h0 : 0 ≤ i) (hi : i + 1 < d.slen) (hT : Typ .str d) : (hexB ((by' d).take (i + 2).toNat) && decide ((i + 2).toNat % 2 = 0)) = true := by
 rw [a1q h0 hi hT, agd (asn h0 (by omega) hT (hb_1 hb).2), (hb_1 hb).1]
 have e1 : (0 ≤ digV (((by' d).getD i.toNat 0).toNat : Int)) := by unfold byAt at h1; omega
 have e2 : (0 ≤ digV (((by' d).getD (i + 1).toNat 0).toNat : Int)) := by unfold byAt at h2; omega
 have e3 : (i + 2).toNat % 2 = 0 := by have := (hb_1 hb).2; omega
 unfold hexB
 rw [decide_eq_true e1, decide_eq_true e2, decide_eq_true e3]
 rfl
theorem bc8 {d : CD} {i : Int} (hb : (hexB ((by' d).take i.toNat) && decide (i.toNat % 2 = 0)) = true) (hx : digV (byAt d i) < 0 ∨ digV (byAt d (i + 1)) < 0) (h0 : 0 ≤ i) (hi : i + 1 < d.slen) (hT : Typ .str d) : [[mkz (hexV (by' d))], [aaf (hexB (by' d) && (decide (0 < (by' d).length) && decide ((by' d).length % 2 = 0)))]] = [[CD.sl true []], [aaf false]] := by
 have hf : hexB (by' d) = false := by
  have hs : by' d = ((by' d).take (i + 2).toNat) ++ (by' d).drop (i + 2).toNat := (List.take_append_drop _ _).symm
  rw [hs, a1q h0 hi hT, List.append_assoc, agd (asn h0 (by omega) hT (hb_1 hb).2)]
  have e : (decide (0 ≤ digV (((by' d).getD i.toNat 0).toNat : Int)) && decide (0 ≤ digV (((by' d).getD (i + 1).toNat 0).toNat : Int))) = false := by
   unfold byAt at hx
   rw [Bool.and_eq_false_iff]
   rcases hx with hx | hx
   ·exact .inl (decide_eq_false (by omega))
   ·exact .inr (decide_eq_false (by omega))
  show (_ && (_ && _)) = false
  rw [e]
  simp
 unfold hexV
 rw [hf]
 rfl
theorem bcb {d : CD} {i : Int} (hx : digV (byAt d i) < 0) (hb : (hexB ((by' d).take i.toNat) && decide (i.toNat % 2 = 0)) = true) (h0 : 0 ≤ i) (hi : i + 1 < d.slen) (hT : Typ .str d) : [[mkz (hexV (by' d))], [aaf (hexB (by' d) && (decide (0 < (by' d).length) && decide ((by' d).length % 2 = 0)))]] = [[CD.sl true []], [aaf false]] := bc8 hb (.inl hx) h0 hi hT
theorem bcn {d : CD} {i : Int} (hx : digV (byAt d (i + 1)) < 0) (hb : (hexB ((by' d).take i.toNat) && decide (i.toNat % 2 = 0)) = true) (h0 : 0 ≤ i) (hi : i + 1 < d.slen) (hT : Typ .str d) : [[mkz (hexV (by' d))], [aaf (hexB (by' d) && (decide (0 < (by' d).length) && decide ((by' d).length % 2 = 0)))]] = [[CD.sl true []], [aaf false]] := bc8 hb (.inr hx) h0 hi hT
theorem a3n {d : CD} {r : List (List CD)} {i : Int} (hr : r = hexR ((by' d).take i.toNat)) (hb : (hexB ((by' d).take i.toNat) && decide (i.toNat % 2 = 0)) = true) (h0 : 0 ≤ i) (hi : ¬ i + 1 < d.slen) (hle : i ≤ d.slen) (hT : Typ .str d) : hexB (by' d) = true ∧ r = hexR (by' d) := by
 have hs : by' d = ((by' d).take i.toNat) ++ (by' d).drop i.toNat := (List.take_append_drop _ _).symm
 have hl := abd hT
 have hd : ((by' d).drop i.toNat).length ≤ 1 := by rw [List.length_drop]; omega
 have e1 : hexB ((by' d).drop i.toNat) = true ∧ hexR ((by' d).drop i.toNat) = [] := by
  generalize (by' d).drop i.toNat = q at hd
  match q, hd with
  | [], _ => exact ⟨rfl, rfl⟩
  | [_], _ => exact ⟨rfl, rfl⟩
  | _ :: _ :: _, hd => simp at hd
 have e2 := agd (q := (by' d).drop i.toNat) (asn h0 hle hT (hb_1 hb).2)
 have e3 := aie (q := (by' d).drop i.toNat) (asn h0 hle hT (hb_1 hb).2)
 rw [← hs, (hb_1 hb).1, e1.1] at e2
 rw [← hs, e1.2, List.append_nil] at e3
 exact ⟨e2, by rw [hr, e3]⟩
theorem bhp {n : Nat} : eqC (orV (acf .rem .i64 (n : Int) 2)) (vInt .i64 0) = decide (n % 2 = 0) := by
 have : acf .rem .i64 (n : Int) 2 = some (.int .i64 ((n : Int).tmod 2)) := rfl
 rw [this]
 show decide ((n : Int).tmod 2 = 0) = _
 rw [decide_eq_decide]
 have := Int.tmod_eq_emod_of_nonneg (a := (n : Int)) (b := 2) (by omega)
 omega
theorem bj0 {d : CD} {r : List (List CD)} {i : Int} (hr : r = hexR ((by' d).take i.toNat)) (hb : (hexB ((by' d).take i.toNat) && decide (i.toNat % 2 = 0)) = true) (h0 : 0 ≤ i) (hi : ¬ i + 1 < d.slen) (hle : i ≤ d.slen) (hT : Typ .str d) (hp : 0 < (d.slen : Int)) : [[mkz (hexV (by' d))], [aaf (hexB (by' d) && (decide (0 < (by' d).length) && decide ((by' d).length % 2 = 0)))]] = [[mkz r], [aaf (eqC (orV (acf .rem .i64 (d.slen : Int) 2)) (vInt .i64 0))]] := by
 obtain ⟨e1, e2⟩ := a3n hr hb h0 hi hle hT
 have hl := abd hT
 unfold hexV
 rw [bhp, if_pos e1, e1, e2, decide_eq_true (show 0 < (by' d).length by omega), show d.slen = (by' d).length by omega]
 rfl
theorem bcl {d : CD} {r : List (List CD)} {i : Int} (hr : r = hexR ((by' d).take i.toNat)) (hb : (hexB ((by' d).take i.toNat) && decide (i.toNat % 2 = 0)) = true) (h0 : 0 ≤ i) (hi : ¬ i + 1 < d.slen) (hle : i ≤ d.slen) (hT : Typ .str d) (hp : ¬ 0 < (d.slen : Int)) : [[mkz (hexV (by' d))], [aaf (hexB (by' d) && (decide (0 < (by' d).length) && decide ((by' d).length % 2 = 0)))]] = [[mkz r], [aaf false]] := by
 obtain ⟨e1, e2⟩ := a3n hr hb h0 hi hle hT
 have hl := abd hT
 unfold hexV
 rw [if_pos e1, e1, e2, decide_eq_false (show ¬ 0 < (by' d).length by omega)]
 rfl
noncomputable def a7z : Fsp := ⟨[(false, [.str])], [.ap .le [.ap .slen [.var 0], I 2500]], [(false, [.sl [.int .u8]]), (false, [.bool])], [([], [[.ap (.usr 210) [.var 0]], [.ap (.usr 211) [.var 0]]])], true⟩
noncomputable def lp26 : Lp := ⟨[(.slot 4, .own true [.int .u8]), (.slot 5, .int .i64)], [0, 2, 3], [], fun F H k => [.ap .le [zI, .var (k+2)], .ap .le [.var (k+2), .ap .slen [.var 0]], .ap .le [zI, .var k], .ap .le [.var k, .var (k+2)], .ap .same [.ap (.mk true) [.var (k+1)], .ap (.usr 212) [.var 0, .var (k+2)]], .ap (.usr 213) [.var 0, .var (k+2)]], fun F H k => .ap (.sub .i64) [.ap .slen [.var 0], .var (k+2)]⟩
abbrev an6 : List X := [(.ap .le [(I 0), (.var 3)]), (.ap .le [(.var 3), (.ap .slen [(.var 0)])]), (.ap .le [(I 0), (.var 1)]), (.ap .le [(.var 1), (.var 3)]), (.ap .same [(.ap (.mk true) [(.var 2)]), (.ap (.usr 212) [(.var 0), (.var 3)])]), (.ap (.usr 213) [(.var 0), (.var 3)]), (.ap (.typ .str) [(.var 0)]), (.ap .le [(.ap .slen [(.var 0)]), (I 2500)])]
abbrev ap5 : List X := (.ap .not [(.ap .lt [(.ap (.usr 205) [(.ap .sidx [(.var 0), (.ap (.add .i64) [(.var 3), (I 1)])])]), (I 0)])]) :: (.ap .not [(.ap .lt [(.ap (.usr 205) [(.ap .sidx [(.var 0), (.var 3)])]), (I 0)])]) :: (.ap .lt [(.ap (.add .i64) [(.var 3), (I 1)]), (.ap .slen [(.var 0)])]) :: an6
def beh : List VC := [([(.ap (.typ .str) [(.var 0)]), (.ap .le [(.ap .slen [(.var 0)]), (I 2500)])], (.ap .same [(.ap (.mk true) [(.ap (.nil true) [])]), (.ap (.usr 212) [(.var 0), (I 0)])])),
 ([(.ap (.typ .str) [(.var 0)]), (.ap .le [(.ap .slen [(.var 0)]), (I 2500)])], (.ap (.usr 213) [(.var 0), (I 0)])),
 (ap5, (.ap .le [(.ap (.usr 205) [(.ap .sidx [(.var 0), (.var 3)])]), (I 15)])),
 (ap5, (.ap .le [(.ap (.usr 205) [(.ap .sidx [(.var 0), (.ap (.add .i64) [(.var 3), (I 1)])])]), (I 15)])),
 (((.ap .le [(.ap (.usr 205) [(.ap .sidx [(.var 0), (.var 3)])]), (I 15)]) :: (.ap .le [(.ap (.usr 205) [(.ap .sidx [(.var 0), (.ap (.add .i64) [(.var 3), (I 1)])])]), (I 15)]) :: ap5), (.ap .same [(.ap (.mk true) [(.ap .cat [(.var 2), (.ap .snoc [(.ap (.nil false) []), (.ap (.cast .u8) [(.ap (.add .i64) [(.ap (.mul .i64) [(I 16), (.ap (.usr 205) [(.ap .sidx [(.var 0), (.var 3)])])]), (.ap (.usr 205) [(.ap .sidx [(.var 0), (.ap (.add .i64) [(.var 3), (I 1)])])])])])])])]), (.ap (.usr 212) [(.var 0), (.ap (.add .i64) [(.var 3), (I 2)])])])),
 (((.ap .le [(.ap (.usr 205) [(.ap .sidx [(.var 0), (.var 3)])]), (I 15)]) :: (.ap .le [(.ap (.usr 205) [(.ap .sidx [(.var 0), (.ap (.add .i64) [(.var 3), (I 1)])])]), (I 15)]) :: ap5), (.ap (.usr 213) [(.var 0), (.ap (.add .i64) [(.var 3), (I 2)])]))]
def bhj : List (List X × List (List X)) := [(((.ap .lt [(.ap (.usr 205) [(.ap .sidx [(.var 0), (.var 3)])]), (I 0)]) :: (.ap .lt [(.ap (.add .i64) [(.var 3), (I 1)]), (.ap .slen [(.var 0)])]) :: an6), [[(.ap (.nil true) [])], [(.lit (.bool false))]]),
 (((.ap .lt [(.ap (.usr 205) [(.ap .sidx [(.var 0), (.ap (.add .i64) [(.var 3), (I 1)])])]), (I 0)]) :: (.ap .not [(.ap .lt [(.ap (.usr 205) [(.ap .sidx [(.var 0), (.var 3)])]), (I 0)])]) :: (.ap .lt [(.ap (.add .i64) [(.var 3), (I 1)]), (.ap .slen [(.var 0)])]) :: an6), [[(.ap (.nil true) [])], [(.lit (.bool false))]]),
 (((.ap .lt [(I 0), (.ap .slen [(.var 0)])]) :: (.ap .not [(.ap .lt [(.ap (.add .i64) [(.var 3), (I 1)]), (.ap .slen [(.var 0)])])]) :: an6), [[(.ap (.mk true) [(.var 2)])], [(.ap .eq [(.ap (.bin .rem .i64) [(.ap .slen [(.var 0)]), (I 2)]), (I 0)])]]),
 (((.ap .not [(.ap .lt [(I 0), (.ap .slen [(.var 0)])])]) :: (.ap .not [(.ap .lt [(.ap (.add .i64) [(.var 3), (I 1)]), (.ap .slen [(.var 0)])])]) :: an6), [[(.ap (.mk true) [(.var 2)])], [(.lit (.bool false))]])]
theorem bid : runS Tryd.prog (aev (tab T1)) 10 10 ⟨ad8 [(3, lp26)], hintA [(8, fun F H => [.ap .le [sx F 6, I 15], .ap .le [sx F 7, I 15]])]⟩ Tryd.f26 (abr Tryd.f26) a7z = some (beh, bhj) := by kernel_rfl
set_option maxHeartbeats 4000000 in
set_option maxRecDepth 100000 in
theorem c26 : aaq U Tryd.prog 26 a7z := by
 refine aaq.of (P := Tryd.prog) (U := U) (T := (tab T1)) (f := 26) (fn := Tryd.f26) (fuel := 10) (fk := 10) (hs := ⟨ad8 [(3, lp26)], hintA [(8, fun F H => [.ap .le [sx F 6, I 15], .ap .le [sx F 7, I 15]])]⟩) (S := a7z) (v := beh) (outs := bhj) mixed hT1 at26 bid ?_ ?_
 ·unfold beh
  repeat' (first | exact ac8 _ | refine adp (fun v hh => ?_) ?_)
  all_goals
   simp only [aa1, aa5, aa4, aa6, abg, ab7, aap, b_lt, b_le, b_eq, aaz, abe, aao, aan, abj, w_mk, aat, abq, abb, aa2, ace, w_l0, w_l1, aac, aag, aa3, aae, aad, aam, aak, a0o, azx, a7l, bd4, bdu, mnX, mxX, ad2, acg, ac2, ab3, abk, ady, w_eq, ad7, ac6, agk, an6, ap5] at hh ⊢
   repeat (obtain ⟨_, hh⟩ := hh)
   try (first | grind [= aac, = aac] | (apply a9j <;> first | assumption | grind [= aac]) | (apply bje <;> first | assumption | grind [= aac]) | (apply bct <;> first | assumption | grind [= aac]) | (apply bjg <;> first | assumption | grind [= aac]) | (apply bcf <;> first | assumption | grind [= aac]) | (apply bcb <;> first | assumption | grind [= aac]) | (apply bcn <;> first | assumption | grind [= aac]) | (apply bj0 <;> first | assumption | grind [= aac]) | (apply bcl <;> first | assumption | grind [= aac]))
 ·intro o ho σ hU hh
  obtain ⟨v⟩ := σ
  cases hU
  simp only [bhj, List.mem_cons, List.not_mem_nil, or_false] at ho
  repeat' (first | (rcases ho with rfl | ho) | subst ho)
  all_goals
   refine ⟨_, List.mem_cons_self .., by simp only [aa1, aa5, aa4, aa6, abg, ab7, aap, b_lt, b_le, b_eq, aaz, abe, aao, aan, abj, w_mk, aat, abq, abb, aa2, ace, w_l0, w_l1, aac, aag, aa3, aae, aad, aam, aak], ?_⟩
   simp only [aa1, aa5, aa4, aa6, abg, ab7, aap, b_lt, b_le, b_eq, aaz, abe, aao, aan, abj, w_mk, aat, abq, abb, aa2, ace, w_l0, w_l1, aac, aag, aa3, aae, aad, aam, aak, a0o, azx, a7l, bd4, bdu, mnX, mxX, ad2, acg, ac2, ab3, abk, ady, w_eq, ad7, ac6, agk, an6, ap5] at hh
   simp only [List.map_cons, List.map_nil, aa1, aa5, aa4, aa6, abg, ab7, aap, b_lt, b_le, b_eq, aaz, abe, aao, aan, abj, w_mk, aat, abq, abb, aa2, ace, w_l0, w_l1, aac, aag, aa3, aae, aad, aam, aak, w_lt, w_le, w_eq, ald, aii, aoh, a0o, azx, a7l, bd4, bdu, mnX, mxX, ad2, acg, ac2, ab3, abk, ady, w_eq, ad7, ac6, agk]
   repeat (obtain ⟨_, hh⟩ := hh)
   try (first | grind [= aac, = aac] | (apply a9j <;> first | assumption | grind [= aac]) | (apply bje <;> first | assumption | grind [= aac]) | (apply bct <;> first | assumption | grind [= aac]) | (apply bjg <;> first | assumption | grind [= aac]) | (apply bcf <;> first | assumption | grind [= aac]) | (apply bcb <;> first | assumption | grind [= aac]) | (apply bcn <;> first | assumption | grind [= aac]) | (apply bj0 <;> first | assumption | grind [= aac]) | (apply bcl <;> first | assumption | grind [= aac]))
end Go.Proofs.YtamhchkknlbanaaDoor.Be
