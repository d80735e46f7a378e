/-
  Contracts of a seat's functions: bytes by their digits, by the reference. Conditions: none.
-/
import Derived.Test.YtamhchkknlbanaaDoorBeU
set_option linter.unusedSectionVars false
set_option linter.unusedVariables false
set_option linter.unusedSimpArgs false
namespace Go.Proofs.YtamhchkknlbanaaDoor.Be
open Go.Sx Go.Proofs
theorem af8 {l : List UInt8} {i : Nat} (h : i < l.length) : l.take (i + 1) = l.take i ++ [l.getD i 0] := by
 rw [List.take_add_one, List.getD_eq_getElem?_getD, List.getElem?_eq_getElem h]
 rfl
theorem am8 {l : List UInt8} {b : UInt8} : valD (l ++ [b]) = 10 * valD l + ((b.toNat : Int) - 48) := by
 unfold valD
 rw [List.foldl_append]
 rfl
theorem alh {l : List UInt8} {b : UInt8} : digs (l ++ [b]) = (digs l && dig b) := by
 unfold digs
 rw [List.all_append]
 simp
theorem a2s : ∀ (n : Nat) {l : List UInt8}, l.length = n → digs l = true → 0 ≤ valD l ∧ valD l + 1 ≤ 10 ^ n
 | 0, l, h, _ => by
  rw [List.length_eq_zero_iff.1 h]
  decide
 | n + 1, l, h, hd => by
  have h0 : l.length ≠ 0 := by omega
  have hl : l = l.take n ++ [l.getD n 0] := by
   rw [← af8 (by omega), List.take_of_length_le (by omega)]
  rw [hl] at hd ⊢
  rw [alh, Bool.and_eq_true] at hd
  obtain ⟨a, b⟩ := a2s n (by rw [List.length_take]; omega) hd.1
  rw [am8]
  have h2 := hd.2
  unfold dig at h2
  rw [Bool.and_eq_true, decide_eq_true_eq, decide_eq_true_eq] at h2
  rw [Int.pow_succ]
  omega
theorem bhq {d : CD} : 0 = valD ((by' d).take (Int.toNat 0)) := rfl
theorem bj7 {d : CD} : digs ((by' d).take (Int.toNat 0)) = true := rfl
theorem aq8 {d p : CD} {i : Int} (hp : p = vInt .i64 (valD ((by' d).take i.toNat))) (hd : digs ((by' d).take i.toNat) = true) (h0 : 0 ≤ i) (hi : i < d.slen) (hT : Typ .str d) (hl : ¬ 10 < (d.slen : Int)) (h1 : ¬ byAt d i < 48) (h2 : ¬ 57 < byAt d i) : digs ((by' d).take (i + 1).toNat) = true ∧ valD ((by' d).take (i + 1).toNat) = 10 * p.iv + (byAt d i - 48) ∧ 10 * p.iv + (byAt d i - 48) ≤ 9999999999 := by
 rw [abf hT] at hi hl
 have hlt : i.toNat < (by' d).length := by omega
 rw [show (i + 1).toNat = i.toNat + 1 by omega, af8 hlt, alh, am8, hd, hp, aac]
 have hb : dig ((by' d).getD i.toNat 0) = true := by
  unfold dig
  unfold byAt at h1 h2
  rw [Bool.and_eq_true, decide_eq_true_eq, decide_eq_true_eq]
  omega
 refine ⟨by rw [hb]; rfl, rfl, ?_⟩
 have hdg : digs ((by' d).take (i.toNat + 1)) = true := by rw [af8 hlt, alh, hd, hb]; rfl
 obtain ⟨_, hv⟩ := a2s (i.toNat + 1) (l := (by' d).take (i.toNat + 1)) (by rw [List.length_take]; omega) hdg
 rw [af8 hlt, am8] at hv
 have : (10 : Int) ^ (i.toNat + 1) ≤ 10 ^ 10 := by exact_mod_cast Nat.pow_le_pow_right (n := 10) (by decide) (show i.toNat + 1 ≤ 10 by omega)
 have h10 : (10 : Int) ^ 10 = 10000000000 := by decide
 unfold byAt
 omega
theorem bcv {d p : CD} {i : Int} (hp : p = vInt .i64 (valD ((by' d).take i.toNat))) (hd : digs ((by' d).take i.toNat) = true) (h0 : 0 ≤ i) (hi : i < d.slen) (hT : Typ .str d) (hl : ¬ 10 < (d.slen : Int)) (h1 : ¬ byAt d i < 48) (h2 : ¬ 57 < byAt d i) : 10 * p.iv + (byAt d i - 48) ≤ 9999999999 := (aq8 hp hd h0 hi hT hl h1 h2).2.2
theorem bcg {d p : CD} {i : Int} (hp : p = vInt .i64 (valD ((by' d).take i.toNat))) (hd : digs ((by' d).take i.toNat) = true) (h0 : 0 ≤ i) (hi : i < d.slen) (hT : Typ .str d) (hl : ¬ 10 < (d.slen : Int)) (h1 : ¬ byAt d i < 48) (h2 : ¬ 57 < byAt d i) : 10 * p.iv + (byAt d i - 48) = valD ((by' d).take (i + 1).toNat) := (aq8 hp hd h0 hi hT hl h1 h2).2.1.symm
theorem bcd {d p : CD} {i : Int} (hp : p = vInt .i64 (valD ((by' d).take i.toNat))) (hd : digs ((by' d).take i.toNat) = true) (h0 : 0 ≤ i) (hi : i < d.slen) (hT : Typ .str d) (hl : ¬ 10 < (d.slen : Int)) (h1 : ¬ byAt d i < 48) (h2 : ¬ 57 < byAt d i) : digs ((by' d).take (i + 1).toNat) = true := (aq8 hp hd h0 hi hT hl h1 h2).1
theorem aw7 {d : CD} (h : afg (by' d) = false) : [[vInt .i64 (numV (by' d))], [aaf (afg (by' d) && decide (valD (by' d) ≤ 1073741824))]] = [[vInt .i64 0], [aaf false]] := by
 unfold numV
 rw [h]
 rfl
theorem bi8 {d : CD} (h : eqC d (.v (.string ⟨⟨[]⟩⟩)) = true) (hT : Typ .str d) : [[vInt .i64 (numV (by' d))], [aaf (afg (by' d) && decide (valD (by' d) ≤ 1073741824))]] = [[vInt .i64 0], [aaf false]] := by
 refine aw7 ?_
 rw [asb hT] at h
 rw [h]
 rfl
theorem bkh {d : CD} (h : 10 < (d.slen : Int)) (hT : Typ .str d) : [[vInt .i64 (numV (by' d))], [aaf (afg (by' d) && decide (valD (by' d) ≤ 1073741824))]] = [[vInt .i64 0], [aaf false]] := by
 refine aw7 ?_
 rw [abf hT] at h
 unfold afg
 rw [decide_eq_false (by omega)]
 simp
theorem bdq {z n : Int} : (eqC (vInt .u8 z) (vInt .u8 n) = true) = (z = n) := decide_eq_true_eq
theorem bh8 {d : CD} (h : eqC (vInt .u8 (byAt d 0)) (vInt .u8 48) = true) (h1 : 1 < (d.slen : Int)) (hT : Typ .str d) : [[vInt .i64 (numV (by' d))], [aaf (afg (by' d) && decide (valD (by' d) ≤ 1073741824))]] = [[vInt .i64 0], [aaf false]] := by
 refine aw7 ?_
 rw [abf hT] at h1
 rw [bdq] at h
 unfold byAt at h
 unfold afg
 rw [decide_eq_true (show 1 < (by' d).length by omega), decide_eq_true (show ((by' d).getD 0 0).toNat = 48 by
  have : (((by' d).getD (0 : Int).toNat 0).toNat : Int) = 48 := h
  exact_mod_cast this)]
 simp
theorem bjf {d : CD} {i : Int} (h : byAt d i < 48 ∨ 57 < byAt d i) (h0 : 0 ≤ i) (hi : i < d.slen) (hT : Typ .str d) : [[vInt .i64 (numV (by' d))], [aaf (afg (by' d) && decide (valD (by' d) ≤ 1073741824))]] = [[vInt .i64 0], [aaf false]] := by
 refine aw7 ?_
 rw [abf hT] at hi
 have hlt : i.toNat < (by' d).length := by omega
 have hf : digs (by' d) = false := by
  unfold digs
  rw [List.all_eq_false]
  refine ⟨(by' d).getD i.toNat 0, ?_, ?_⟩
  ·rw [List.getD_eq_getElem?_getD, List.getElem?_eq_getElem hlt]
   exact List.getElem_mem hlt
  ·unfold dig
   unfold byAt at h
   rw [Bool.and_eq_true, decide_eq_true_eq, decide_eq_true_eq]
   omega
 unfold afg
 rw [hf]
 simp
theorem bdm {d : CD} {i : Int} (h : byAt d i < 48) (h0 : 0 ≤ i) (hi : i < d.slen) (hT : Typ .str d) : [[vInt .i64 (numV (by' d))], [aaf (afg (by' d) && decide (valD (by' d) ≤ 1073741824))]] = [[vInt .i64 0], [aaf false]] := bjf (.inl h) h0 hi hT
theorem bda {d : CD} {i : Int} (h : 57 < byAt d i) (h0 : 0 ≤ i) (hi : i < d.slen) (hT : Typ .str d) : [[vInt .i64 (numV (by' d))], [aaf (afg (by' d) && decide (valD (by' d) ≤ 1073741824))]] = [[vInt .i64 0], [aaf false]] := bjf (.inr h) h0 hi hT
theorem bja {d p : CD} {i : Int} (hp : p = vInt .i64 (valD ((by' d).take i.toNat))) (hd : digs ((by' d).take i.toNat) = true) (hi : ¬ i < d.slen) (hT : Typ .str d) (hl : ¬ 10 < (d.slen : Int)) (hn : ¬ eqC d (.v (.string ⟨⟨[]⟩⟩)) = true) (hz : ¬ 1 < (d.slen : Int) ∨ ¬ eqC (vInt .u8 (byAt d 0)) (vInt .u8 48) = true) : [[vInt .i64 (numV (by' d))], [aaf (afg (by' d) && decide (valD (by' d) ≤ 1073741824))]] = [[p], [aaf (decide (p.iv ≤ 1073741824))]] := by
 rw [abf hT] at hi hl hz
 rw [asb hT] at hn
 rw [List.take_of_length_le (by omega)] at hp hd
 have hk : afg (by' d) = true := by
  unfold afg
  rw [hd, decide_eq_true (show (by' d).length ≤ 10 by omega)]
  have h1 : (by' d).isEmpty = false := by
   cases hb : by' d with
   | nil => exact absurd hb hn
   | cons _ _ => rfl
  have h2 : (decide (1 < (by' d).length) && decide (((by' d).getD 0 0).toNat = 48)) = false := by
   rw [Bool.and_eq_false_iff]
   rcases hz with hz | hz
   ·exact .inl (decide_eq_false (by omega))
   ·right
    rw [bdq] at hz
    refine decide_eq_false fun h => hz ?_
    show (((by' d).getD (0 : Int).toNat 0).toNat : Int) = 48
    exact_mod_cast h
  rw [h1, h2]
  rfl
 unfold numV
 rw [if_pos hk, hk, hp, aac, Bool.true_and]
noncomputable def SNum : Fsp := ⟨[(false, [.str])], [], [(false, [sI]), (false, [.bool])], [([], [[.ap (.usr 201) [.var 0]], [.ap (.usr 202) [.var 0]]])], true⟩
noncomputable def lp24 : Lp := ⟨[(.slot 4, .int .i64), (.slot 5, .int .i64)], [0, 2, 3], [], fun F H k => [.ap .le [zI, .var (k+1)], .ap .le [.var (k+1), .ap .slen [.var 0]], .ap .le [zI, .var k], .ap .le [.var k, I 9999999999], .ap .same [.var k, .ap (.usr 203) [.var 0, .var (k+1)]], .ap (.usr 204) [.var 0, .var (k+1)]], fun F H k => .ap (.sub .i64) [.ap .slen [.var 0], .var (k+1)]⟩
abbrev aie : List X := [(.ap .not [(.ap .lt [(I 10), (.ap .slen [(.var 0)])])]), (.ap .not [(.ap .eq [(.var 0), (.lit (.string (.mk (.mk []))))])]), (.ap (.typ .str) [(.var 0)])]
abbrev akh : List X := (.ap .le [(I 0), (.var 2)]) :: (.ap .le [(.var 2), (.ap .slen [(.var 0)])]) :: (.ap .le [(I 0), (.var 1)]) :: (.ap .le [(.var 1), (I 9999999999)]) :: (.ap .same [(.var 1), (.ap (.usr 203) [(.var 0), (.var 2)])]) :: (.ap (.usr 204) [(.var 0), (.var 2)]) :: (.ap .not [(.ap .eq [(.ap .sidx [(.var 0), (I 0)]), (.lit (.int .u8 48))])]) :: (.ap .lt [(I 1), (.ap .slen [(.var 0)])]) :: aie
abbrev akm : List X := (.ap .le [(I 0), (.var 2)]) :: (.ap .le [(.var 2), (.ap .slen [(.var 0)])]) :: (.ap .le [(I 0), (.var 1)]) :: (.ap .le [(.var 1), (I 9999999999)]) :: (.ap .same [(.var 1), (.ap (.usr 203) [(.var 0), (.var 2)])]) :: (.ap (.usr 204) [(.var 0), (.var 2)]) :: (.ap .not [(.ap .lt [(I 1), (.ap .slen [(.var 0)])])]) :: aie
def bd5 : List VC := [(((.ap .not [(.ap .eq [(.ap .sidx [(.var 0), (I 0)]), (.lit (.int .u8 48))])]) :: (.ap .lt [(I 1), (.ap .slen [(.var 0)])]) :: aie), (.ap .same [(I 0), (.ap (.usr 203) [(.var 0), (I 0)])])),
 (((.ap .not [(.ap .eq [(.ap .sidx [(.var 0), (I 0)]), (.lit (.int .u8 48))])]) :: (.ap .lt [(I 1), (.ap .slen [(.var 0)])]) :: aie), (.ap (.usr 204) [(.var 0), (I 0)])),
 (((.ap .not [(.ap .lt [(.lit (.int .u8 57)), (.ap .sidx [(.var 0), (.var 2)])])]) :: (.ap .not [(.ap .lt [(.ap .sidx [(.var 0), (.var 2)]), (.lit (.int .u8 48))])]) :: (.ap .lt [(.var 2), (.ap .slen [(.var 0)])]) :: akh), (.ap .le [(.ap (.add .i64) [(.ap (.mul .i64) [(I 10), (.var 1)]), (.ap (.cast .i64) [(.ap (.sub .u8) [(.ap .sidx [(.var 0), (.var 2)]), (.lit (.int .u8 48))])])]), (I 9999999999)])),
 (((.ap .not [(.ap .lt [(.lit (.int .u8 57)), (.ap .sidx [(.var 0), (.var 2)])])]) :: (.ap .not [(.ap .lt [(.ap .sidx [(.var 0), (.var 2)]), (.lit (.int .u8 48))])]) :: (.ap .lt [(.var 2), (.ap .slen [(.var 0)])]) :: akh), (.ap .same [(.ap (.add .i64) [(.ap (.mul .i64) [(I 10), (.var 1)]), (.ap (.cast .i64) [(.ap (.sub .u8) [(.ap .sidx [(.var 0), (.var 2)]), (.lit (.int .u8 48))])])]), (.ap (.usr 203) [(.var 0), (.ap (.add .i64) [(.var 2), (I 1)])])])),
 (((.ap .not [(.ap .lt [(.lit (.int .u8 57)), (.ap .sidx [(.var 0), (.var 2)])])]) :: (.ap .not [(.ap .lt [(.ap .sidx [(.var 0), (.var 2)]), (.lit (.int .u8 48))])]) :: (.ap .lt [(.var 2), (.ap .slen [(.var 0)])]) :: akh), (.ap (.usr 204) [(.var 0), (.ap (.add .i64) [(.var 2), (I 1)])])),
 (((.ap .not [(.ap .lt [(I 1), (.ap .slen [(.var 0)])])]) :: aie), (.ap .same [(I 0), (.ap (.usr 203) [(.var 0), (I 0)])])),
 (((.ap .not [(.ap .lt [(I 1), (.ap .slen [(.var 0)])])]) :: aie), (.ap (.usr 204) [(.var 0), (I 0)])),
 (((.ap .not [(.ap .lt [(.lit (.int .u8 57)), (.ap .sidx [(.var 0), (.var 2)])])]) :: (.ap .not [(.ap .lt [(.ap .sidx [(.var 0), (.var 2)]), (.lit (.int .u8 48))])]) :: (.ap .lt [(.var 2), (.ap .slen [(.var 0)])]) :: akm), (.ap .le [(.ap (.add .i64) [(.ap (.mul .i64) [(I 10), (.var 1)]), (.ap (.cast .i64) [(.ap (.sub .u8) [(.ap .sidx [(.var 0), (.var 2)]), (.lit (.int .u8 48))])])]), (I 9999999999)])),
 (((.ap .not [(.ap .lt [(.lit (.int .u8 57)), (.ap .sidx [(.var 0), (.var 2)])])]) :: (.ap .not [(.ap .lt [(.ap .sidx [(.var 0), (.var 2)]), (.lit (.int .u8 48))])]) :: (.ap .lt [(.var 2), (.ap .slen [(.var 0)])]) :: akm), (.ap .same [(.ap (.add .i64) [(.ap (.mul .i64) [(I 10), (.var 1)]), (.ap (.cast .i64) [(.ap (.sub .u8) [(.ap .sidx [(.var 0), (.var 2)]), (.lit (.int .u8 48))])])]), (.ap (.usr 203) [(.var 0), (.ap (.add .i64) [(.var 2), (I 1)])])])),
 (((.ap .not [(.ap .lt [(.lit (.int .u8 57)), (.ap .sidx [(.var 0), (.var 2)])])]) :: (.ap .not [(.ap .lt [(.ap .sidx [(.var 0), (.var 2)]), (.lit (.int .u8 48))])]) :: (.ap .lt [(.var 2), (.ap .slen [(.var 0)])]) :: akm), (.ap (.usr 204) [(.var 0), (.ap (.add .i64) [(.var 2), (I 1)])]))]
def be4 : List (List X × List (List X)) := [([(.ap .eq [(.var 0), (.lit (.string (.mk (.mk []))))]), (.ap (.typ .str) [(.var 0)])], [[(I 0)], [(.lit (.bool false))]]),
 ([(.ap .lt [(I 10), (.ap .slen [(.var 0)])]), (.ap .not [(.ap .eq [(.var 0), (.lit (.string (.mk (.mk []))))])]), (.ap (.typ .str) [(.var 0)])], [[(I 0)], [(.lit (.bool false))]]),
 (((.ap .eq [(.ap .sidx [(.var 0), (I 0)]), (.lit (.int .u8 48))]) :: (.ap .lt [(I 1), (.ap .slen [(.var 0)])]) :: aie), [[(I 0)], [(.lit (.bool false))]]),
 (((.ap .lt [(.ap .sidx [(.var 0), (.var 2)]), (.lit (.int .u8 48))]) :: (.ap .lt [(.var 2), (.ap .slen [(.var 0)])]) :: akh), [[(I 0)], [(.lit (.bool false))]]),
 (((.ap .lt [(.lit (.int .u8 57)), (.ap .sidx [(.var 0), (.var 2)])]) :: (.ap .not [(.ap .lt [(.ap .sidx [(.var 0), (.var 2)]), (.lit (.int .u8 48))])]) :: (.ap .lt [(.var 2), (.ap .slen [(.var 0)])]) :: akh), [[(I 0)], [(.lit (.bool false))]]),
 (((.ap .not [(.ap .lt [(.var 2), (.ap .slen [(.var 0)])])]) :: akh), [[(.var 1)], [(.ap .le [(.var 1), (I 1073741824)])]]),
 (((.ap .lt [(.ap .sidx [(.var 0), (.var 2)]), (.lit (.int .u8 48))]) :: (.ap .lt [(.var 2), (.ap .slen [(.var 0)])]) :: akm), [[(I 0)], [(.lit (.bool false))]]),
 (((.ap .lt [(.lit (.int .u8 57)), (.ap .sidx [(.var 0), (.var 2)])]) :: (.ap .not [(.ap .lt [(.ap .sidx [(.var 0), (.var 2)]), (.lit (.int .u8 48))])]) :: (.ap .lt [(.var 2), (.ap .slen [(.var 0)])]) :: akm), [[(I 0)], [(.lit (.bool false))]]),
 (((.ap .not [(.ap .lt [(.var 2), (.ap .slen [(.var 0)])])]) :: akm), [[(.var 1)], [(.ap .le [(.var 1), (I 1073741824)])]])]
theorem bh0 : runS Tryd.prog (aex T0) 10 40 ⟨ad9 [(5, lp24)], hintA []⟩ Tryd.f24 (abt Tryd.f24) SNum = some (bd5, be4) := by kernel_rfl
set_option maxHeartbeats 4000000 in
set_option maxRecDepth 100000 in
theorem c24 : aaq U Tryd.prog 24 SNum := by
 refine aaq.of (P := Tryd.prog) (U := U) (T := T0) (f := 24) (fn := Tryd.f24) (fuel := 10) (fk := 40) (hs := ⟨ad9 [(5, lp24)], hintA []⟩) (S := SNum) (v := bd5) (outs := be4) mixed hT0 at24 bh0 ?_ ?_
 ·unfold bd5
  repeat' (first | exact ac9 _ | refine ado (fun v hh => ?_) ?_)
  all_goals
   simp only [aa3, aa6, aa4, aa5, abg, acd, ab7, aap, b_lt, b_le, b_eq, aa1, abe, aao, aan, w_mk, abb, aa0, w_l0, w_l1, aac, aag, aaz, aae, aad, aam, aal, a5y, av3, bdy, bgv, mnX, mxX, ad2, acg, ac3, ab3, abk, adx, aie, akh, akm] at hh ⊢
   repeat (obtain ⟨_, hh⟩ := hh)
   try (first | grind [= aac, = aac] | (apply bhq <;> first | assumption | grind [= aac]) | (apply bj7 <;> first | assumption | grind [= aac]) | (apply bcv <;> first | assumption | grind [= aac]) | (apply bcg <;> first | assumption | grind [= aac]) | (apply bcd <;> first | assumption | grind [= aac]) | (apply bi8 <;> first | assumption | grind [= aac]) | (apply bkh <;> first | assumption | grind [= aac]) | (apply bh8 <;> first | assumption | grind [= aac]) | (apply bdm <;> first | assumption | grind [= aac]) | (apply bda <;> first | assumption | grind [= aac]) | (apply bja <;> first | assumption | grind [= aac]))
 ·intro o ho σ hU hh
  obtain ⟨v⟩ := σ
  cases hU
  simp only [be4, List.mem_cons, List.not_mem_nil, or_false] at ho
  repeat' (first | (rcases ho with rfl | ho) | subst ho)
  all_goals
   refine ⟨_, List.mem_cons_self .., by simp only [aa3, aa6, aa4, aa5, abg, acd, ab7, aap, b_lt, b_le, b_eq, aa1, abe, aao, aan, w_mk, abb, aa0, w_l0, w_l1, aac, aag, aaz, aae, aad, aam, aal], ?_⟩
   simp only [aa3, aa6, aa4, aa5, abg, acd, ab7, aap, b_lt, b_le, b_eq, aa1, abe, aao, aan, w_mk, abb, aa0, w_l0, w_l1, aac, aag, aaz, aae, aad, aam, aal, a5y, av3, bdy, bgv, mnX, mxX, ad2, acg, ac3, ab3, abk, adx, aie, akh, akm] at hh
   simp only [List.map_cons, List.map_nil, aa3, aa6, aa4, aa5, abg, acd, ab7, aap, b_lt, b_le, b_eq, aa1, abe, aao, aan, w_mk, abb, aa0, w_l0, w_l1, aac, aag, aaz, aae, aad, aam, aal, w_lt, w_le, w_eq, anu, aij, aop, a5y, av3, bdy, bgv, mnX, mxX, ad2, acg, ac3, ab3, abk, adx]
   repeat (obtain ⟨_, hh⟩ := hh)
   try (first | grind [= aac, = aac] | (apply bhq <;> first | assumption | grind [= aac]) | (apply bj7 <;> first | assumption | grind [= aac]) | (apply bcv <;> first | assumption | grind [= aac]) | (apply bcg <;> first | assumption | grind [= aac]) | (apply bcd <;> first | assumption | grind [= aac]) | (apply bi8 <;> first | assumption | grind [= aac]) | (apply bkh <;> first | assumption | grind [= aac]) | (apply bh8 <;> first | assumption | grind [= aac]) | (apply bdm <;> first | assumption | grind [= aac]) | (apply bda <;> first | assumption | grind [= aac]) | (apply bja <;> first | assumption | grind [= aac]))
end Go.Proofs.YtamhchkknlbanaaDoor.Be

namespace Go.Proofs.YtamhchkknlbanaaDoor.Be
open Go.Sx Go.Proofs
noncomputable def SDig : Fsp := ⟨[(false, [.int .u8])], [], [(false, [sI])], [([], [[.ap (.usr 205) [.var 0]]])], true⟩
theorem bhr {x : Int} (h1 : x ≤ 57) (h2 : 48 ≤ x) : digV x = x - 48 := by unfold digV; rw [if_pos ⟨h2, h1⟩]
theorem bjp {x : Int} (h1 : x ≤ 102) (h2 : 97 ≤ x) : digV x = x - 97 + 10 := by unfold digV; rw [if_neg (by omega), if_pos ⟨h2, h1⟩]
theorem bhy {x : Int} (h1 : ¬ (48 ≤ x ∧ x ≤ 57)) (h2 : ¬ (97 ≤ x ∧ x ≤ 102)) : digV x = -1 := by unfold digV; rw [if_neg h1, if_neg h2]
abbrev apx : List X := [(.ap .le [(.lit (.int .u8 48)), (.var 0)]), (.ap .le [(.lit (.int .u8 0)), (.var 0)]), (.ap .le [(.var 0), (.lit (.int .u8 255))])]
def bg6 : List VC := []
def bgr : List (List X × List (List X)) := [(((.ap .le [(.var 0), (.lit (.int .u8 57))]) :: apx), [[(.ap (.cast .i64) [(.ap (.sub .u8) [(.var 0), (.lit (.int .u8 48))])])]]),
 (((.ap .le [(.var 0), (.lit (.int .u8 102))]) :: (.ap .le [(.lit (.int .u8 97)), (.var 0)]) :: (.ap .not [(.ap .le [(.var 0), (.lit (.int .u8 57))])]) :: apx), [[(.ap (.add .i64) [(.ap (.cast .i64) [(.ap (.sub .u8) [(.var 0), (.lit (.int .u8 97))])]), (I 10)])]]),
 (((.ap .not [(.ap .le [(.var 0), (.lit (.int .u8 102))])]) :: (.ap .le [(.lit (.int .u8 97)), (.var 0)]) :: (.ap .not [(.ap .le [(.var 0), (.lit (.int .u8 57))])]) :: apx), [[(I (-1))]]),
 (((.ap .not [(.ap .le [(.lit (.int .u8 97)), (.var 0)])]) :: (.ap .not [(.ap .le [(.var 0), (.lit (.int .u8 57))])]) :: apx), [[(I (-1))]]),
 ([(.ap .not [(.ap .le [(.lit (.int .u8 48)), (.var 0)])]), (.ap .le [(.lit (.int .u8 0)), (.var 0)]), (.ap .le [(.var 0), (.lit (.int .u8 255))])], [[(I (-1))]])]
theorem bim : runS Tryd.prog (aex T0) 10 10 ⟨ad9 [], hintA []⟩ Tryd.f48 (abt Tryd.f48) SDig = some (bg6, bgr) := by kernel_rfl
set_option maxHeartbeats 4000000 in
set_option maxRecDepth 100000 in
theorem c48 : aaq U Tryd.prog 48 SDig := by
 refine aaq.of (P := Tryd.prog) (U := U) (T := T0) (f := 48) (fn := Tryd.f48) (fuel := 10) (fk := 10) (hs := ⟨ad9 [], hintA []⟩) (S := SDig) (v := bg6) (outs := bgr) mixed hT0 at48 bim ?_ ?_
 ·unfold bg6
  repeat' (first | exact ac9 _ | refine ado (fun v hh => ?_) ?_)
  all_goals
   simp only [aa3, aa6, aa4, aa5, abg, acd, aap, b_le, aa1, aa0, w_l0, w_l1, aac, aag, aaz, aae, aad, aam, aal, a05, mnX, mxX, ad2, acg, ac3, ab3, abk, apx] at hh ⊢
   repeat (obtain ⟨_, hh⟩ := hh)
   try (first | grind [bhr, bjp, bhy, = aac])
 ·intro o ho σ hU hh
  obtain ⟨v⟩ := σ
  cases hU
  simp only [bgr, List.mem_cons, List.not_mem_nil, or_false] at ho
  repeat' (first | (rcases ho with rfl | ho) | subst ho)
  all_goals
   refine ⟨_, List.mem_cons_self .., by simp only [aa3, aa6, aa4, aa5, abg, acd, aap, b_le, aa1, aa0, w_l0, w_l1, aac, aag, aaz, aae, aad, aam, aal], ?_⟩
   simp only [aa3, aa6, aa4, aa5, abg, acd, aap, b_le, aa1, aa0, w_l0, w_l1, aac, aag, aaz, aae, aad, aam, aal, a05, mnX, mxX, ad2, acg, ac3, ab3, abk, apx] at hh
   simp only [List.map_cons, List.map_nil, aa3, aa6, aa4, aa5, abg, acd, aap, b_le, aa1, aa0, w_l0, w_l1, aac, aag, aaz, aae, aad, aam, aal, w_le, anu, a05, mnX, mxX, ad2, acg, ac3, ab3, abk]
   repeat (obtain ⟨_, hh⟩ := hh)
   try (first | grind [bhr, bjp, bhy, = aac])
theorem aw3 {d : CD} : [] = ajz ((by' d).take (Int.toNat 0)) := rfl
theorem a8k {d : CD} : ab0 ((by' d).take (Int.toNat 0)) = true := rfl
theorem a7f {l : List UInt8} {b : UInt8} : ajz (l ++ [b]) = ajz l ++ [a2u b] := by
 unfold ajz
 rw [List.map_append]
 rfl
theorem axp {l : List UInt8} {b : UInt8} : ab0 (l ++ [b]) = (ab0 l && a1p b) := by
 unfold ab0
 rw [List.all_append]
 simp
theorem aja {z n : Int} : eqC (vInt .u8 z) (vInt .u8 n) = decide (z = n) := rfl
theorem ajt {d : CD} {i : Int} (h0 : 0 ≤ i) (hi : i < d.slen) (hT : Typ .str d) : (by' d).take (i + 1).toNat = (by' d).take i.toNat ++ [(by' d).getD i.toNat 0] := by
 rw [abf hT] at hi
 rw [show (i + 1).toNat = i.toNat + 1 by omega, af8 (by omega)]
theorem aq9 {d : CD} {i : Int} (hi : ¬ i < d.slen) (hT : Typ .str d) : (by' d).take i.toNat = by' d := by
 rw [abf hT] at hi
 exact List.take_of_length_le (by omega)
theorem a5f {d : CD} {r : List (List CD)} {i : Int} (hr : r = ajz ((by' d).take i.toNat)) (h0 : 0 ≤ i) (hi : i < d.slen) (hT : Typ .str d) : r ++ ([] ++ [[aaf (eqC (vInt .u8 (byAt d i)) (vInt .u8 49))]]) = ajz ((by' d).take (i + 1).toNat) := by
 rw [ajt h0 hi hT, a7f, hr, List.nil_append, aja]
 unfold a2u byAt
 congr 4
 rw [decide_eq_decide]
 omega
theorem a5p {d : CD} {i : Int} (h : eqC (vInt .u8 (byAt d i)) (vInt .u8 49) = true) (hb : ab0 ((by' d).take i.toNat) = true) (h0 : 0 ≤ i) (hi : i < d.slen) (hT : Typ .str d) : ab0 ((by' d).take (i + 1).toNat) = true := by
 rw [ajt h0 hi hT, axp, hb]
 rw [aja, decide_eq_true_eq] at h
 unfold byAt at h
 unfold a1p
 rw [Bool.true_and, Bool.or_eq_true, decide_eq_true_eq, decide_eq_true_eq]
 omega
theorem a5w {d : CD} {i : Int} (h : eqC (vInt .u8 (byAt d i)) (vInt .u8 48) = true) (hb : ab0 ((by' d).take i.toNat) = true) (h0 : 0 ≤ i) (hi : i < d.slen) (hT : Typ .str d) : ab0 ((by' d).take (i + 1).toNat) = true := by
 rw [ajt h0 hi hT, axp, hb]
 rw [aja, decide_eq_true_eq] at h
 unfold byAt at h
 unfold a1p
 rw [Bool.true_and, Bool.or_eq_true, decide_eq_true_eq, decide_eq_true_eq]
 omega
theorem avl {d : CD} {i : Int} (h1 : ¬ eqC (vInt .u8 (byAt d i)) (vInt .u8 49) = true) (h2 : ¬ eqC (vInt .u8 (byAt d i)) (vInt .u8 48) = true) (h0 : 0 ≤ i) (hi : i < d.slen) (hT : Typ .str d) : [[mkz (amo (by' d))], [aaf (ab0 (by' d) && decide (0 < (by' d).length))]] = [[CD.sl true []], [aaf false]] := by
 rw [abf hT] at hi
 have hlt : i.toNat < (by' d).length := by omega
 have hf : ab0 (by' d) = false := by
  unfold ab0
  rw [List.all_eq_false]
  refine ⟨(by' d).getD i.toNat 0, ?_, ?_⟩
  ·rw [List.getD_eq_getElem?_getD, List.getElem?_eq_getElem hlt]
   exact List.getElem_mem hlt
  ·rw [aja, decide_eq_true_eq] at h1 h2
   unfold byAt at h1 h2
   unfold a1p
   rw [Bool.or_eq_true, decide_eq_true_eq, decide_eq_true_eq]
   omega
 unfold amo
 rw [hf]
 rfl
theorem bci {d : CD} {r : List (List CD)} {i : Int} (hr : r = ajz ((by' d).take i.toNat)) (hb : ab0 ((by' d).take i.toNat) = true) (hi : ¬ i < d.slen) (hT : Typ .str d) : [[mkz (amo (by' d))], [aaf (ab0 (by' d) && decide (0 < (by' d).length))]] = [[mkz r], [aaf (decide (0 < (d.slen : Int)))]] := by
 rw [aq9 hi hT] at hr hb
 unfold amo
 rw [if_pos hb, hb, hr, abf hT, Bool.true_and]
 congr 4
 rw [decide_eq_decide]
 omega
noncomputable def bbe : Fsp := ⟨[(false, [.str])], [.ap .le [.ap .slen [.var 0], I 2500]], [(false, [.sl [.bool]]), (false, [.bool])], [([], [[.ap (.usr 206) [.var 0]], [.ap (.usr 207) [.var 0]]])], true⟩
noncomputable def lp27 : Lp := ⟨[(.slot 4, .own true [.bool]), (.slot 5, .int .i64)], [0, 2, 3], [], fun F H k => [.ap .le [zI, .var (k+2)], .ap .le [.var (k+2), .ap .slen [.var 0]], .ap .le [.var k, .var (k+2)], .ap .le [.var (k+2), .var k], .ap .same [.ap (.mk true) [.var (k+1)], .ap (.usr 208) [.var 0, .var (k+2)]], .ap (.usr 209) [.var 0, .var (k+2)]], fun F H k => .ap (.sub .i64) [.ap .slen [.var 0], .var (k+2)]⟩
abbrev aj5 : List X := [(.ap .le [(I 0), (.var 3)]), (.ap .le [(.var 3), (.ap .slen [(.var 0)])]), (.ap .le [(.var 1), (.var 3)]), (.ap .le [(.var 3), (.var 1)]), (.ap .same [(.ap (.mk true) [(.var 2)]), (.ap (.usr 208) [(.var 0), (.var 3)])]), (.ap (.usr 209) [(.var 0), (.var 3)]), (.ap (.typ .str) [(.var 0)]), (.ap .le [(.ap .slen [(.var 0)]), (I 2500)])]
def bfm : List VC := [([(.ap (.typ .str) [(.var 0)]), (.ap .le [(.ap .slen [(.var 0)]), (I 2500)])], (.ap .same [(.ap (.mk true) [(.ap (.nil true) [])]), (.ap (.usr 208) [(.var 0), (I 0)])])),
 ([(.ap (.typ .str) [(.var 0)]), (.ap .le [(.ap .slen [(.var 0)]), (I 2500)])], (.ap (.usr 209) [(.var 0), (I 0)])),
 (((.ap .eq [(.ap .sidx [(.var 0), (.var 3)]), (.lit (.int .u8 49))]) :: (.ap .not [(.ap .eq [(.ap .sidx [(.var 0), (.var 3)]), (.lit (.int .u8 48))])]) :: (.ap .lt [(.var 3), (.ap .slen [(.var 0)])]) :: aj5), (.ap .same [(.ap (.mk true) [(.ap .cat [(.var 2), (.ap .snoc [(.ap (.nil false) []), (.ap .eq [(.ap .sidx [(.var 0), (.var 3)]), (.lit (.int .u8 49))])])])]), (.ap (.usr 208) [(.var 0), (.ap (.add .i64) [(.var 3), (I 1)])])])),
 (((.ap .eq [(.ap .sidx [(.var 0), (.var 3)]), (.lit (.int .u8 49))]) :: (.ap .not [(.ap .eq [(.ap .sidx [(.var 0), (.var 3)]), (.lit (.int .u8 48))])]) :: (.ap .lt [(.var 3), (.ap .slen [(.var 0)])]) :: aj5), (.ap (.usr 209) [(.var 0), (.ap (.add .i64) [(.var 3), (I 1)])])),
 (((.ap .eq [(.ap .sidx [(.var 0), (.var 3)]), (.lit (.int .u8 48))]) :: (.ap .lt [(.var 3), (.ap .slen [(.var 0)])]) :: aj5), (.ap .same [(.ap (.mk true) [(.ap .cat [(.var 2), (.ap .snoc [(.ap (.nil false) []), (.ap .eq [(.ap .sidx [(.var 0), (.var 3)]), (.lit (.int .u8 49))])])])]), (.ap (.usr 208) [(.var 0), (.ap (.add .i64) [(.var 3), (I 1)])])])),
 (((.ap .eq [(.ap .sidx [(.var 0), (.var 3)]), (.lit (.int .u8 48))]) :: (.ap .lt [(.var 3), (.ap .slen [(.var 0)])]) :: aj5), (.ap (.usr 209) [(.var 0), (.ap (.add .i64) [(.var 3), (I 1)])]))]
def bg8 : List (List X × List (List X)) := [(((.ap .not [(.ap .eq [(.ap .sidx [(.var 0), (.var 3)]), (.lit (.int .u8 49))])]) :: (.ap .not [(.ap .eq [(.ap .sidx [(.var 0), (.var 3)]), (.lit (.int .u8 48))])]) :: (.ap .lt [(.var 3), (.ap .slen [(.var 0)])]) :: aj5), [[(.ap (.nil true) [])], [(.lit (.bool false))]]),
 (((.ap .not [(.ap .lt [(.var 3), (.ap .slen [(.var 0)])])]) :: aj5), [[(.ap (.mk true) [(.var 2)])], [(.ap .lt [(I 0), (.ap .slen [(.var 0)])])]])]
theorem bho : runS Tryd.prog (aex T0) 10 10 ⟨ad9 [(3, lp27)], hintA []⟩ Tryd.f27 (abt Tryd.f27) bbe = some (bfm, bg8) := by kernel_rfl
set_option maxHeartbeats 4000000 in
set_option maxRecDepth 100000 in
theorem c27 : aaq U Tryd.prog 27 bbe := by
 refine aaq.of (P := Tryd.prog) (U := U) (T := T0) (f := 27) (fn := Tryd.f27) (fuel := 10) (fk := 10) (hs := ⟨ad9 [(3, lp27)], hintA []⟩) (S := bbe) (v := bfm) (outs := bg8) mixed hT0 at27 bho ?_ ?_
 ·unfold bfm
  repeat' (first | exact ac9 _ | refine ado (fun v hh => ?_) ?_)
  all_goals
   simp only [aa3, aa6, aa4, aa5, abg, b_lt, b_le, b_eq, aa1, abe, aao, aan, abj, w_mk, aat, abq, abb, aa0, w_l0, w_l1, aac, aag, aaz, aae, aad, aam, aal, aof, a2j, az4, a0l, mnX, mxX, ad2, acg, ac3, ab3, abk, adx, w_eq, ad8, ac6, agl, aj5] at hh ⊢
   repeat (obtain ⟨_, hh⟩ := hh)
   try (first | grind [= aac, = aac] | (apply aw3 <;> first | assumption | grind [= aac]) | (apply a8k <;> first | assumption | grind [= aac]) | (apply a5f <;> first | assumption | grind [= aac]) | (apply a5p <;> first | assumption | grind [= aac]) | (apply a5w <;> first | assumption | grind [= aac]) | (apply avl <;> first | assumption | grind [= aac]) | (apply bci <;> first | assumption | grind [= aac]))
 ·intro o ho σ hU hh
  obtain ⟨v⟩ := σ
  cases hU
  simp only [bg8, List.mem_cons, List.not_mem_nil, or_false] at ho
  repeat' (first | (rcases ho with rfl | ho) | subst ho)
  all_goals
   refine ⟨_, List.mem_cons_self .., by simp only [aa3, aa6, aa4, aa5, abg, b_lt, b_le, b_eq, aa1, abe, aao, aan, abj, w_mk, aat, abq, abb, aa0, w_l0, w_l1, aac, aag, aaz, aae, aad, aam, aal], ?_⟩
   simp only [aa3, aa6, aa4, aa5, abg, b_lt, b_le, b_eq, aa1, abe, aao, aan, abj, w_mk, aat, abq, abb, aa0, w_l0, w_l1, aac, aag, aaz, aae, aad, aam, aal, aof, a2j, az4, a0l, mnX, mxX, ad2, acg, ac3, ab3, abk, adx, w_eq, ad8, ac6, agl, aj5] at hh
   simp only [List.map_cons, List.map_nil, aa3, aa6, aa4, aa5, abg, b_lt, b_le, b_eq, aa1, abe, aao, aan, abj, w_mk, aat, abq, abb, aa0, w_l0, w_l1, aac, aag, aaz, aae, aad, aam, aal, w_lt, w_le, w_eq, anu, aij, aop, aof, a2j, az4, a0l, mnX, mxX, ad2, acg, ac3, ab3, abk, adx, w_eq, ad8, ac6, agl]
   repeat (obtain ⟨_, hh⟩ := hh)
   try (first | grind [= aac, = aac] | (apply aw3 <;> first | assumption | grind [= aac]) | (apply a8k <;> first | assumption | grind [= aac]) | (apply a5f <;> first | assumption | grind [= aac]) | (apply a5p <;> first | assumption | grind [= aac]) | (apply a5w <;> first | assumption | grind [= aac]) | (apply avl <;> first | assumption | grind [= aac]) | (apply bci <;> first | assumption | grind [= aac]))
end Go.Proofs.YtamhchkknlbanaaDoor.Be

namespace Go.Proofs.YtamhchkknlbanaaDoor.Be
open Go.Sx Go.Proofs
noncomputable def T1 : List (FuncId × Fsp) := [(48, SDig)]
set_option maxRecDepth 100000 in
theorem hT1 : ajr U Tryd.prog T1 := .cons c48 .nil
theorem a8l {x : Int} : digV x ≤ 15 := by
 unfold digV
 split
 ·omega
 ·split <;> omega
theorem bkl {d : CD} : [] = hexR ((by' d).take (Int.toNat 0)) := rfl
theorem bcm {d : CD} : (hexB ((by' d).take (Int.toNat 0)) && decide (Int.toNat 0 % 2 = 0)) = true := rfl
theorem ail : ∀ {p q : List UInt8}, p.length % 2 = 0 → hexR (p ++ q) = hexR p ++ hexR q
 | [], q, _ => rfl
 | [_], _, h => by simp at h
 | a :: b :: r, q, h => by
  show _ :: hexR (r ++ q) = _
  rw [ail (p := r) (by simp only [List.length_cons] at h; omega)]
  rfl
theorem aga : ∀ {p q : List UInt8}, p.length % 2 = 0 → hexB (p ++ q) = (hexB p && hexB q)
 | [], q, _ => rfl
 | [_], _, h => by simp at h
 | a :: b :: r, q, h => by
  show (_ && hexB (r ++ q)) = _
  rw [aga (p := r) (by simp only [List.length_cons] at h; omega), ← Bool.and_assoc]
  rfl
theorem a2h {d : CD} {i : Int} (h0 : 0 ≤ i) (hi : i + 1 < d.slen) (hT : Typ .str d) : (by' d).take (i + 2).toNat = (by' d).take i.toNat ++ [(by' d).getD i.toNat 0, (by' d).getD (i + 1).toNat 0] := by
 have h1 := ajt (d := d) (i := i + 1) (by omega) hi hT
 have h2 := ajt (d := d) (i := i) h0 (by omega) hT
 rw [show i + 2 = i + 1 + 1 by omega, h1, h2, List.append_assoc]
 rfl
theorem ath {d : CD} {i : Int} (h0 : 0 ≤ i) (hi : i ≤ d.slen) (hT : Typ .str d) (h2 : i.toNat % 2 = 0) : ((by' d).take i.toNat).length % 2 = 0 := by
 rw [abf hT] at hi
 rw [List.length_take]
 omega
theorem hb_1 {d : CD} {i : Int} (hb : (hexB ((by' d).take i.toNat) && decide (i.toNat % 2 = 0)) = true) : hexB ((by' d).take i.toNat) = true ∧ i.toNat % 2 = 0 := by
 rw [Bool.and_eq_true, decide_eq_true_eq] at hb
 exact hb
theorem bji {d : CD} {r : List (List CD)} {i : Int} (hr : r = hexR ((by' d).take i.toNat)) (hb : (hexB ((by' d).take i.toNat) && decide (i.toNat % 2 = 0)) = true) (h0 : 0 ≤ i) (hi : i + 1 < d.slen) (hT : Typ .str d) : r ++ ([] ++ [[vInt .u8 (16 * digV (byAt d i) + digV (byAt d (i + 1)))]]) = hexR ((by' d).take (i + 2).toNat) := by
 rw [a2h h0 hi hT, ail (ath h0 (by omega) hT (hb_1 hb).2), hr]
 rfl
theorem bcx {d : CD} {i : Int} (hb : (hexB ((by' d).take i.toNat) && decide (i.toNat % 2 = 0)) = true) (h1 : ¬ digV (byAt d i) < 0) (h2 : ¬ digV (byAt d (i + 1)) < 0) (h0 : 0 ≤ i) (hi : i + 1 < d.slen) (hT : Typ .str d) : (hexB ((by' d).take (i + 2).toNat) && decide ((i + 2).toNat % 2 = 0)) = true := by
 rw [a2h h0 hi hT, aga (ath h0 (by omega) hT (hb_1 hb).2), (hb_1 hb).1]
 have e1 : (0 ≤ digV (((by' d).getD i.toNat 0).toNat : Int)) := by unfold byAt at h1; omega
 have e2 : (0 ≤ digV (((by' d).getD (i + 1).toNat 0).toNat : Int)) := by unfold byAt at h2; omega
 have e3 : (i + 2).toNat % 2 = 0 := by have := (hb_1 hb).2; omega
 unfold hexB
 rw [decide_eq_true e1, decide_eq_true e2, decide_eq_true e3]
 rfl
theorem bdd {d : CD} {i : Int} (hb : (hexB ((by' d).take i.toNat) && decide (i.toNat % 2 = 0)) = true) (hx : digV (byAt d i) < 0 ∨ digV (byAt d (i + 1)) < 0) (h0 : 0 ≤ i) (hi : i + 1 < d.slen) (hT : Typ .str d) : [[mkz (hexV (by' d))], [aaf (hexB (by' d) && (decide (0 < (by' d).length) && decide ((by' d).length % 2 = 0)))]] = [[CD.sl true []], [aaf false]] := by
 have hf : hexB (by' d) = false := by
  have hs : by' d = ((by' d).take (i + 2).toNat) ++ (by' d).drop (i + 2).toNat := (List.take_append_drop _ _).symm
  rw [hs, a2h h0 hi hT, List.append_assoc, aga (ath h0 (by omega) hT (hb_1 hb).2)]
  have e : (decide (0 ≤ digV (((by' d).getD i.toNat 0).toNat : Int)) && decide (0 ≤ digV (((by' d).getD (i + 1).toNat 0).toNat : Int))) = false := by
   unfold byAt at hx
   rw [Bool.and_eq_false_iff]
   rcases hx with hx | hx
   ·exact .inl (decide_eq_false (by omega))
   ·exact .inr (decide_eq_false (by omega))
  show (_ && (_ && _)) = false
  rw [e]
  simp
 unfold hexV
 rw [hf]
 rfl
theorem bcu {d : CD} {i : Int} (hx : digV (byAt d i) < 0) (hb : (hexB ((by' d).take i.toNat) && decide (i.toNat % 2 = 0)) = true) (h0 : 0 ≤ i) (hi : i + 1 < d.slen) (hT : Typ .str d) : [[mkz (hexV (by' d))], [aaf (hexB (by' d) && (decide (0 < (by' d).length) && decide ((by' d).length % 2 = 0)))]] = [[CD.sl true []], [aaf false]] := bdd hb (.inl hx) h0 hi hT
theorem bb9 {d : CD} {i : Int} (hx : digV (byAt d (i + 1)) < 0) (hb : (hexB ((by' d).take i.toNat) && decide (i.toNat % 2 = 0)) = true) (h0 : 0 ≤ i) (hi : i + 1 < d.slen) (hT : Typ .str d) : [[mkz (hexV (by' d))], [aaf (hexB (by' d) && (decide (0 < (by' d).length) && decide ((by' d).length % 2 = 0)))]] = [[CD.sl true []], [aaf false]] := bdd hb (.inr hx) h0 hi hT
theorem a7m {d : CD} {r : List (List CD)} {i : Int} (hr : r = hexR ((by' d).take i.toNat)) (hb : (hexB ((by' d).take i.toNat) && decide (i.toNat % 2 = 0)) = true) (h0 : 0 ≤ i) (hi : ¬ i + 1 < d.slen) (hle : i ≤ d.slen) (hT : Typ .str d) : hexB (by' d) = true ∧ r = hexR (by' d) := by
 have hs : by' d = ((by' d).take i.toNat) ++ (by' d).drop i.toNat := (List.take_append_drop _ _).symm
 have hl := abf hT
 have hd : ((by' d).drop i.toNat).length ≤ 1 := by rw [List.length_drop]; omega
 have e1 : hexB ((by' d).drop i.toNat) = true ∧ hexR ((by' d).drop i.toNat) = [] := by
  generalize (by' d).drop i.toNat = q at hd
  match q, hd with
  | [], _ => exact ⟨rfl, rfl⟩
  | [_], _ => exact ⟨rfl, rfl⟩
  | _ :: _ :: _, hd => simp at hd
 have e2 := aga (q := (by' d).drop i.toNat) (ath h0 hle hT (hb_1 hb).2)
 have e3 := ail (q := (by' d).drop i.toNat) (ath h0 hle hT (hb_1 hb).2)
 rw [← hs, (hb_1 hb).1, e1.1] at e2
 rw [← hs, e1.2, List.append_nil] at e3
 exact ⟨e2, by rw [hr, e3]⟩
theorem bjc {n : Nat} : eqC (orV (acf .rem .i64 (n : Int) 2)) (vInt .i64 0) = decide (n % 2 = 0) := by
 have : acf .rem .i64 (n : Int) 2 = some (.int .i64 ((n : Int).tmod 2)) := rfl
 rw [this]
 show decide ((n : Int).tmod 2 = 0) = _
 rw [decide_eq_decide]
 have := Int.tmod_eq_emod_of_nonneg (a := (n : Int)) (b := 2) (by omega)
 omega
theorem bju {d : CD} {r : List (List CD)} {i : Int} (hr : r = hexR ((by' d).take i.toNat)) (hb : (hexB ((by' d).take i.toNat) && decide (i.toNat % 2 = 0)) = true) (h0 : 0 ≤ i) (hi : ¬ i + 1 < d.slen) (hle : i ≤ d.slen) (hT : Typ .str d) (hp : 0 < (d.slen : Int)) : [[mkz (hexV (by' d))], [aaf (hexB (by' d) && (decide (0 < (by' d).length) && decide ((by' d).length % 2 = 0)))]] = [[mkz r], [aaf (eqC (orV (acf .rem .i64 (d.slen : Int) 2)) (vInt .i64 0))]] := by
 obtain ⟨e1, e2⟩ := a7m hr hb h0 hi hle hT
 have hl := abf hT
 unfold hexV
 rw [bjc, if_pos e1, e1, e2, decide_eq_true (show 0 < (by' d).length by omega), show d.slen = (by' d).length by omega]
 rfl
theorem bdg {d : CD} {r : List (List CD)} {i : Int} (hr : r = hexR ((by' d).take i.toNat)) (hb : (hexB ((by' d).take i.toNat) && decide (i.toNat % 2 = 0)) = true) (h0 : 0 ≤ i) (hi : ¬ i + 1 < d.slen) (hle : i ≤ d.slen) (hT : Typ .str d) (hp : ¬ 0 < (d.slen : Int)) : [[mkz (hexV (by' d))], [aaf (hexB (by' d) && (decide (0 < (by' d).length) && decide ((by' d).length % 2 = 0)))]] = [[mkz r], [aaf false]] := by
 obtain ⟨e1, e2⟩ := a7m hr hb h0 hi hle hT
 have hl := abf hT
 unfold hexV
 rw [if_pos e1, e1, e2, decide_eq_false (show ¬ 0 < (by' d).length by omega)]
 rfl
noncomputable def ba9 : Fsp := ⟨[(false, [.str])], [.ap .le [.ap .slen [.var 0], I 2500]], [(false, [.sl [.int .u8]]), (false, [.bool])], [([], [[.ap (.usr 210) [.var 0]], [.ap (.usr 211) [.var 0]]])], true⟩
noncomputable def lp26 : Lp := ⟨[(.slot 4, .own true [.int .u8]), (.slot 5, .int .i64)], [0, 2, 3], [], fun F H k => [.ap .le [zI, .var (k+2)], .ap .le [.var (k+2), .ap .slen [.var 0]], .ap .le [zI, .var k], .ap .le [.var k, .var (k+2)], .ap .same [.ap (.mk true) [.var (k+1)], .ap (.usr 212) [.var 0, .var (k+2)]], .ap (.usr 213) [.var 0, .var (k+2)]], fun F H k => .ap (.sub .i64) [.ap .slen [.var 0], .var (k+2)]⟩
abbrev al4 : List X := [(.ap .le [(I 0), (.var 3)]), (.ap .le [(.var 3), (.ap .slen [(.var 0)])]), (.ap .le [(I 0), (.var 1)]), (.ap .le [(.var 1), (.var 3)]), (.ap .same [(.ap (.mk true) [(.var 2)]), (.ap (.usr 212) [(.var 0), (.var 3)])]), (.ap (.usr 213) [(.var 0), (.var 3)]), (.ap (.typ .str) [(.var 0)]), (.ap .le [(.ap .slen [(.var 0)]), (I 2500)])]
abbrev apd : List X := (.ap .not [(.ap .lt [(.ap (.usr 205) [(.ap .sidx [(.var 0), (.ap (.add .i64) [(.var 3), (I 1)])])]), (I 0)])]) :: (.ap .not [(.ap .lt [(.ap (.usr 205) [(.ap .sidx [(.var 0), (.var 3)])]), (I 0)])]) :: (.ap .lt [(.ap (.add .i64) [(.var 3), (I 1)]), (.ap .slen [(.var 0)])]) :: al4
def beb : List VC := [([(.ap (.typ .str) [(.var 0)]), (.ap .le [(.ap .slen [(.var 0)]), (I 2500)])], (.ap .same [(.ap (.mk true) [(.ap (.nil true) [])]), (.ap (.usr 212) [(.var 0), (I 0)])])),
 ([(.ap (.typ .str) [(.var 0)]), (.ap .le [(.ap .slen [(.var 0)]), (I 2500)])], (.ap (.usr 213) [(.var 0), (I 0)])),
 (apd, (.ap .le [(.ap (.usr 205) [(.ap .sidx [(.var 0), (.var 3)])]), (I 15)])),
 (apd, (.ap .le [(.ap (.usr 205) [(.ap .sidx [(.var 0), (.ap (.add .i64) [(.var 3), (I 1)])])]), (I 15)])),
 (((.ap .le [(.ap (.usr 205) [(.ap .sidx [(.var 0), (.var 3)])]), (I 15)]) :: (.ap .le [(.ap (.usr 205) [(.ap .sidx [(.var 0), (.ap (.add .i64) [(.var 3), (I 1)])])]), (I 15)]) :: apd), (.ap .same [(.ap (.mk true) [(.ap .cat [(.var 2), (.ap .snoc [(.ap (.nil false) []), (.ap (.cast .u8) [(.ap (.add .i64) [(.ap (.mul .i64) [(I 16), (.ap (.usr 205) [(.ap .sidx [(.var 0), (.var 3)])])]), (.ap (.usr 205) [(.ap .sidx [(.var 0), (.ap (.add .i64) [(.var 3), (I 1)])])])])])])])]), (.ap (.usr 212) [(.var 0), (.ap (.add .i64) [(.var 3), (I 2)])])])),
 (((.ap .le [(.ap (.usr 205) [(.ap .sidx [(.var 0), (.var 3)])]), (I 15)]) :: (.ap .le [(.ap (.usr 205) [(.ap .sidx [(.var 0), (.ap (.add .i64) [(.var 3), (I 1)])])]), (I 15)]) :: apd), (.ap (.usr 213) [(.var 0), (.ap (.add .i64) [(.var 3), (I 2)])]))]
def bg4 : List (List X × List (List X)) := [(((.ap .lt [(.ap (.usr 205) [(.ap .sidx [(.var 0), (.var 3)])]), (I 0)]) :: (.ap .lt [(.ap (.add .i64) [(.var 3), (I 1)]), (.ap .slen [(.var 0)])]) :: al4), [[(.ap (.nil true) [])], [(.lit (.bool false))]]),
 (((.ap .lt [(.ap (.usr 205) [(.ap .sidx [(.var 0), (.ap (.add .i64) [(.var 3), (I 1)])])]), (I 0)]) :: (.ap .not [(.ap .lt [(.ap (.usr 205) [(.ap .sidx [(.var 0), (.var 3)])]), (I 0)])]) :: (.ap .lt [(.ap (.add .i64) [(.var 3), (I 1)]), (.ap .slen [(.var 0)])]) :: al4), [[(.ap (.nil true) [])], [(.lit (.bool false))]]),
 (((.ap .lt [(I 0), (.ap .slen [(.var 0)])]) :: (.ap .not [(.ap .lt [(.ap (.add .i64) [(.var 3), (I 1)]), (.ap .slen [(.var 0)])])]) :: al4), [[(.ap (.mk true) [(.var 2)])], [(.ap .eq [(.ap (.bin .rem .i64) [(.ap .slen [(.var 0)]), (I 2)]), (I 0)])]]),
 (((.ap .not [(.ap .lt [(I 0), (.ap .slen [(.var 0)])])]) :: (.ap .not [(.ap .lt [(.ap (.add .i64) [(.var 3), (I 1)]), (.ap .slen [(.var 0)])])]) :: al4), [[(.ap (.mk true) [(.var 2)])], [(.lit (.bool false))]])]
theorem biz : runS Tryd.prog (aex (tab T1)) 10 10 ⟨ad9 [(3, lp26)], hintA [(8, fun F H => [.ap .le [sx F 6, I 15], .ap .le [sx F 7, I 15]])]⟩ Tryd.f26 (abt Tryd.f26) ba9 = some (beb, bg4) := by kernel_rfl
set_option maxHeartbeats 4000000 in
set_option maxRecDepth 100000 in
theorem c26 : aaq U Tryd.prog 26 ba9 := by
 refine aaq.of (P := Tryd.prog) (U := U) (T := (tab T1)) (f := 26) (fn := Tryd.f26) (fuel := 10) (fk := 10) (hs := ⟨ad9 [(3, lp26)], hintA [(8, fun F H => [.ap .le [sx F 6, I 15], .ap .le [sx F 7, I 15]])]⟩) (S := ba9) (v := beb) (outs := bg4) mixed hT1 at26 biz ?_ ?_
 ·unfold beb
  repeat' (first | exact ac9 _ | refine ado (fun v hh => ?_) ?_)
  all_goals
   simp only [aa3, aa6, aa4, aa5, abg, ab7, aap, b_lt, b_le, b_eq, aa1, abe, aao, aan, abj, w_mk, aat, abq, abb, aa0, ace, w_l0, w_l1, aac, aag, aaz, aae, aad, aam, aal, a05, a0n, a3v, bgh, be9, mnX, mxX, ad2, acg, ac3, ab3, abk, adx, w_eq, ad8, ac6, agl, al4, apd] at hh ⊢
   repeat (obtain ⟨_, hh⟩ := hh)
   try (first | grind [= aac, = aac] | (apply a8l <;> first | assumption | grind [= aac]) | (apply bkl <;> first | assumption | grind [= aac]) | (apply bcm <;> first | assumption | grind [= aac]) | (apply bji <;> first | assumption | grind [= aac]) | (apply bcx <;> first | assumption | grind [= aac]) | (apply bcu <;> first | assumption | grind [= aac]) | (apply bb9 <;> first | assumption | grind [= aac]) | (apply bju <;> first | assumption | grind [= aac]) | (apply bdg <;> first | assumption | grind [= aac]))
 ·intro o ho σ hU hh
  obtain ⟨v⟩ := σ
  cases hU
  simp only [bg4, List.mem_cons, List.not_mem_nil, or_false] at ho
  repeat' (first | (rcases ho with rfl | ho) | subst ho)
  all_goals
   refine ⟨_, List.mem_cons_self .., by simp only [aa3, aa6, aa4, aa5, abg, ab7, aap, b_lt, b_le, b_eq, aa1, abe, aao, aan, abj, w_mk, aat, abq, abb, aa0, ace, w_l0, w_l1, aac, aag, aaz, aae, aad, aam, aal], ?_⟩
   simp only [aa3, aa6, aa4, aa5, abg, ab7, aap, b_lt, b_le, b_eq, aa1, abe, aao, aan, abj, w_mk, aat, abq, abb, aa0, ace, w_l0, w_l1, aac, aag, aaz, aae, aad, aam, aal, a05, a0n, a3v, bgh, be9, mnX, mxX, ad2, acg, ac3, ab3, abk, adx, w_eq, ad8, ac6, agl, al4, apd] at hh
   simp only [List.map_cons, List.map_nil, aa3, aa6, aa4, aa5, abg, ab7, aap, b_lt, b_le, b_eq, aa1, abe, aao, aan, abj, w_mk, aat, abq, abb, aa0, ace, w_l0, w_l1, aac, aag, aaz, aae, aad, aam, aal, w_lt, w_le, w_eq, anu, aij, aop, a05, a0n, a3v, bgh, be9, mnX, mxX, ad2, acg, ac3, ab3, abk, adx, w_eq, ad8, ac6, agl]
   repeat (obtain ⟨_, hh⟩ := hh)
   try (first | grind [= aac, = aac] | (apply a8l <;> first | assumption | grind [= aac]) | (apply bkl <;> first | assumption | grind [= aac]) | (apply bcm <;> first | assumption | grind [= aac]) | (apply bji <;> first | assumption | grind [= aac]) | (apply bcx <;> first | assumption | grind [= aac]) | (apply bcu <;> first | assumption | grind [= aac]) | (apply bb9 <;> first | assumption | grind [= aac]) | (apply bju <;> first | assumption | grind [= aac]) | (apply bdg <;> first | assumption | grind [= aac]))
end Go.Proofs.YtamhchkknlbanaaDoor.Be
