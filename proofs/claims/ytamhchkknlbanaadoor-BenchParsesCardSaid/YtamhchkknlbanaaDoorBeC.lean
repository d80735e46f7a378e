/-
  Contracts of a seat's functions: bytes by their digits, by the reference. Conditions: none.
-/
import Derived.Test.YtamhchkknlbanaaDoorBeU
set_option linter.unusedSectionVars false
set_option linter.unusedVariables false
set_option linter.unusedSimpArgs false
namespace Go.Proofs.YtamhchkknlbanaaDoor.Be
open Go.Sx Go.Proofs
theorem agj {l : List UInt8} {i : Nat} (h : i < l.length) : l.take (i + 1) = l.take i ++ [l.getD i 0] := by
 rw [List.take_add_one, List.getD_eq_getElem?_getD, List.getElem?_eq_getElem h]
 rfl
theorem ak9 {l : List UInt8} {b : UInt8} : valD (l ++ [b]) = 10 * valD l + ((b.toNat : Int) - 48) := by
 unfold valD
 rw [List.foldl_append]
 rfl
theorem an2 {l : List UInt8} {b : UInt8} : digs (l ++ [b]) = (digs l && dig b) := by
 unfold digs
 rw [List.all_append]
 simp
theorem a5n : ∀ (n : Nat) {l : List UInt8}, l.length = n → digs l = true → 0 ≤ valD l ∧ valD l + 1 ≤ 10 ^ n
 | 0, l, h, _ => by
  rw [List.length_eq_zero_iff.1 h]
  decide
 | n + 1, l, h, hd => by
  have h0 : l.length ≠ 0 := by omega
  have hl : l = l.take n ++ [l.getD n 0] := by
   rw [← agj (by omega), List.take_of_length_le (by omega)]
  rw [hl] at hd ⊢
  rw [an2, Bool.and_eq_true] at hd
  obtain ⟨a, b⟩ := a5n n (by rw [List.length_take]; omega) hd.1
  rw [ak9]
  have h2 := hd.2
  unfold dig at h2
  rw [Bool.and_eq_true, decide_eq_true_eq, decide_eq_true_eq] at h2
  rw [Int.pow_succ]
  omega
theorem bja {d : CD} : 0 = valD ((by' d).take (Int.toNat 0)) := rfl
theorem bh3 {d : CD} : digs ((by' d).take (Int.toNat 0)) = true := rfl
theorem aqt {d p : CD} {i : Int} (hp : p = vInt .i64 (valD ((by' d).take i.toNat))) (hd : digs ((by' d).take i.toNat) = true) (h0 : 0 ≤ i) (hi : i < d.slen) (hT : Typ .str d) (hl : ¬ 10 < (d.slen : Int)) (h1 : ¬ byAt d i < 48) (h2 : ¬ 57 < byAt d i) : digs ((by' d).take (i + 1).toNat) = true ∧ valD ((by' d).take (i + 1).toNat) = 10 * p.iv + (byAt d i - 48) ∧ 10 * p.iv + (byAt d i - 48) ≤ 9999999999 := by
 rw [abe hT] at hi hl
 have hlt : i.toNat < (by' d).length := by omega
 rw [show (i + 1).toNat = i.toNat + 1 by omega, agj hlt, an2, ak9, hd, hp, aac]
 have hb : dig ((by' d).getD i.toNat 0) = true := by
  unfold dig
  unfold byAt at h1 h2
  rw [Bool.and_eq_true, decide_eq_true_eq, decide_eq_true_eq]
  omega
 refine ⟨by rw [hb]; rfl, rfl, ?_⟩
 have hdg : digs ((by' d).take (i.toNat + 1)) = true := by rw [agj hlt, an2, hd, hb]; rfl
 obtain ⟨_, hv⟩ := a5n (i.toNat + 1) (l := (by' d).take (i.toNat + 1)) (by rw [List.length_take]; omega) hdg
 rw [agj hlt, ak9] at hv
 have : (10 : Int) ^ (i.toNat + 1) ≤ 10 ^ 10 := by exact_mod_cast Nat.pow_le_pow_right (n := 10) (by decide) (show i.toNat + 1 ≤ 10 by omega)
 have h10 : (10 : Int) ^ 10 = 10000000000 := by decide
 unfold byAt
 omega
theorem bcq {d p : CD} {i : Int} (hp : p = vInt .i64 (valD ((by' d).take i.toNat))) (hd : digs ((by' d).take i.toNat) = true) (h0 : 0 ≤ i) (hi : i < d.slen) (hT : Typ .str d) (hl : ¬ 10 < (d.slen : Int)) (h1 : ¬ byAt d i < 48) (h2 : ¬ 57 < byAt d i) : 10 * p.iv + (byAt d i - 48) ≤ 9999999999 := (aqt hp hd h0 hi hT hl h1 h2).2.2
theorem bdi {d p : CD} {i : Int} (hp : p = vInt .i64 (valD ((by' d).take i.toNat))) (hd : digs ((by' d).take i.toNat) = true) (h0 : 0 ≤ i) (hi : i < d.slen) (hT : Typ .str d) (hl : ¬ 10 < (d.slen : Int)) (h1 : ¬ byAt d i < 48) (h2 : ¬ 57 < byAt d i) : 10 * p.iv + (byAt d i - 48) = valD ((by' d).take (i + 1).toNat) := (aqt hp hd h0 hi hT hl h1 h2).2.1.symm
theorem bcc {d p : CD} {i : Int} (hp : p = vInt .i64 (valD ((by' d).take i.toNat))) (hd : digs ((by' d).take i.toNat) = true) (h0 : 0 ≤ i) (hi : i < d.slen) (hT : Typ .str d) (hl : ¬ 10 < (d.slen : Int)) (h1 : ¬ byAt d i < 48) (h2 : ¬ 57 < byAt d i) : digs ((by' d).take (i + 1).toNat) = true := (aqt hp hd h0 hi hT hl h1 h2).1
theorem ayg {d : CD} (h : afg (by' d) = false) : [[vInt .i64 (numV (by' d))], [aaf (afg (by' d) && decide (valD (by' d) ≤ 1073741824))]] = [[vInt .i64 0], [aaf false]] := by
 unfold numV
 rw [h]
 rfl
theorem bjl {d : CD} (h : eqC d (.v (.string ⟨⟨[]⟩⟩)) = true) (hT : Typ .str d) : [[vInt .i64 (numV (by' d))], [aaf (afg (by' d) && decide (valD (by' d) ≤ 1073741824))]] = [[vInt .i64 0], [aaf false]] := by
 refine ayg ?_
 rw [arj hT] at h
 rw [h]
 rfl
theorem bjo {d : CD} (h : 10 < (d.slen : Int)) (hT : Typ .str d) : [[vInt .i64 (numV (by' d))], [aaf (afg (by' d) && decide (valD (by' d) ≤ 1073741824))]] = [[vInt .i64 0], [aaf false]] := by
 refine ayg ?_
 rw [abe hT] at h
 unfold afg
 rw [decide_eq_false (by omega)]
 simp
theorem bc4 {z n : Int} : (eqC (vInt .u8 z) (vInt .u8 n) = true) = (z = n) := decide_eq_true_eq
theorem bj3 {d : CD} (h : eqC (vInt .u8 (byAt d 0)) (vInt .u8 48) = true) (h1 : 1 < (d.slen : Int)) (hT : Typ .str d) : [[vInt .i64 (numV (by' d))], [aaf (afg (by' d) && decide (valD (by' d) ≤ 1073741824))]] = [[vInt .i64 0], [aaf false]] := by
 refine ayg ?_
 rw [abe hT] at h1
 rw [bc4] at h
 unfold byAt at h
 unfold afg
 rw [decide_eq_true (show 1 < (by' d).length by omega), decide_eq_true (show ((by' d).getD 0 0).toNat = 48 by
  have : (((by' d).getD (0 : Int).toNat 0).toNat : Int) = 48 := h
  exact_mod_cast this)]
 simp
theorem bhs {d : CD} {i : Int} (h : byAt d i < 48 ∨ 57 < byAt d i) (h0 : 0 ≤ i) (hi : i < d.slen) (hT : Typ .str d) : [[vInt .i64 (numV (by' d))], [aaf (afg (by' d) && decide (valD (by' d) ≤ 1073741824))]] = [[vInt .i64 0], [aaf false]] := by
 refine ayg ?_
 rw [abe hT] at hi
 have hlt : i.toNat < (by' d).length := by omega
 have hf : digs (by' d) = false := by
  unfold digs
  rw [List.all_eq_false]
  refine ⟨(by' d).getD i.toNat 0, ?_, ?_⟩
  ·rw [List.getD_eq_getElem?_getD, List.getElem?_eq_getElem hlt]
   exact List.getElem_mem hlt
  ·unfold dig
   unfold byAt at h
   rw [Bool.and_eq_true, decide_eq_true_eq, decide_eq_true_eq]
   omega
 unfold afg
 rw [hf]
 simp
theorem bc5 {d : CD} {i : Int} (h : byAt d i < 48) (h0 : 0 ≤ i) (hi : i < d.slen) (hT : Typ .str d) : [[vInt .i64 (numV (by' d))], [aaf (afg (by' d) && decide (valD (by' d) ≤ 1073741824))]] = [[vInt .i64 0], [aaf false]] := bhs (.inl h) h0 hi hT
theorem bcx {d : CD} {i : Int} (h : 57 < byAt d i) (h0 : 0 ≤ i) (hi : i < d.slen) (hT : Typ .str d) : [[vInt .i64 (numV (by' d))], [aaf (afg (by' d) && decide (valD (by' d) ≤ 1073741824))]] = [[vInt .i64 0], [aaf false]] := bhs (.inr h) h0 hi hT
theorem bhq {d p : CD} {i : Int} (hp : p = vInt .i64 (valD ((by' d).take i.toNat))) (hd : digs ((by' d).take i.toNat) = true) (hi : ¬ i < d.slen) (hT : Typ .str d) (hl : ¬ 10 < (d.slen : Int)) (hn : ¬ eqC d (.v (.string ⟨⟨[]⟩⟩)) = true) (hz : ¬ 1 < (d.slen : Int) ∨ ¬ eqC (vInt .u8 (byAt d 0)) (vInt .u8 48) = true) : [[vInt .i64 (numV (by' d))], [aaf (afg (by' d) && decide (valD (by' d) ≤ 1073741824))]] = [[p], [aaf (decide (p.iv ≤ 1073741824))]] := by
 rw [abe hT] at hi hl hz
 rw [arj hT] at hn
 rw [List.take_of_length_le (by omega)] at hp hd
 have hk : afg (by' d) = true := by
  unfold afg
  rw [hd, decide_eq_true (show (by' d).length ≤ 10 by omega)]
  have h1 : (by' d).isEmpty = false := by
   cases hb : by' d with
   | nil => exact absurd hb hn
   | cons _ _ => rfl
  have h2 : (decide (1 < (by' d).length) && decide (((by' d).getD 0 0).toNat = 48)) = false := by
   rw [Bool.and_eq_false_iff]
   rcases hz with hz | hz
   ·exact .inl (decide_eq_false (by omega))
   ·right
    rw [bc4] at hz
    refine decide_eq_false fun h => hz ?_
    show (((by' d).getD (0 : Int).toNat 0).toNat : Int) = 48
    exact_mod_cast h
  rw [h1, h2]
  rfl
 unfold numV
 rw [if_pos hk, hk, hp, aac, Bool.true_and]
noncomputable def SNum : Fsp := ⟨[(false, [.str])], [], [(false, [sI]), (false, [.bool])], [([], [[.ap (.usr 201) [.var 0]], [.ap (.usr 202) [.var 0]]])], true⟩
noncomputable def lp24 : Lp := ⟨[(.slot 4, .int .i64), (.slot 5, .int .i64)], [0, 2, 3], [], fun F H k => [.ap .le [zI, .var (k+1)], .ap .le [.var (k+1), .ap .slen [.var 0]], .ap .le [zI, .var k], .ap .le [.var k, I 9999999999], .ap .same [.var k, .ap (.usr 203) [.var 0, .var (k+1)]], .ap (.usr 204) [.var 0, .var (k+1)]], fun F H k => .ap (.sub .i64) [.ap .slen [.var 0], .var (k+1)]⟩
abbrev aip : List X := [(.ap .not [(.ap .lt [(I 10), (.ap .slen [(.var 0)])])]), (.ap .not [(.ap .eq [(.var 0), (.lit (.string (.mk (.mk []))))])]), (.ap (.typ .str) [(.var 0)])]
abbrev aj7 : List X := (.ap .le [(I 0), (.var 2)]) :: (.ap .le [(.var 2), (.ap .slen [(.var 0)])]) :: (.ap .le [(I 0), (.var 1)]) :: (.ap .le [(.var 1), (I 9999999999)]) :: (.ap .same [(.var 1), (.ap (.usr 203) [(.var 0), (.var 2)])]) :: (.ap (.usr 204) [(.var 0), (.var 2)]) :: (.ap .not [(.ap .eq [(.ap .sidx [(.var 0), (I 0)]), (.lit (.int .u8 48))])]) :: (.ap .lt [(I 1), (.ap .slen [(.var 0)])]) :: aip
abbrev akj : List X := (.ap .le [(I 0), (.var 2)]) :: (.ap .le [(.var 2), (.ap .slen [(.var 0)])]) :: (.ap .le [(I 0), (.var 1)]) :: (.ap .le [(.var 1), (I 9999999999)]) :: (.ap .same [(.var 1), (.ap (.usr 203) [(.var 0), (.var 2)])]) :: (.ap (.usr 204) [(.var 0), (.var 2)]) :: (.ap .not [(.ap .lt [(I 1), (.ap .slen [(.var 0)])])]) :: aip
def bd8 : List VC := [(((.ap .not [(.ap .eq [(.ap .sidx [(.var 0), (I 0)]), (.lit (.int .u8 48))])]) :: (.ap .lt [(I 1), (.ap .slen [(.var 0)])]) :: aip), (.ap .same [(I 0), (.ap (.usr 203) [(.var 0), (I 0)])])),
 (((.ap .not [(.ap .eq [(.ap .sidx [(.var 0), (I 0)]), (.lit (.int .u8 48))])]) :: (.ap .lt [(I 1), (.ap .slen [(.var 0)])]) :: aip), (.ap (.usr 204) [(.var 0), (I 0)])),
 (((.ap .not [(.ap .lt [(.lit (.int .u8 57)), (.ap .sidx [(.var 0), (.var 2)])])]) :: (.ap .not [(.ap .lt [(.ap .sidx [(.var 0), (.var 2)]), (.lit (.int .u8 48))])]) :: (.ap .lt [(.var 2), (.ap .slen [(.var 0)])]) :: aj7), (.ap .le [(.ap (.add .i64) [(.ap (.mul .i64) [(I 10), (.var 1)]), (.ap (.cast .i64) [(.ap (.sub .u8) [(.ap .sidx [(.var 0), (.var 2)]), (.lit (.int .u8 48))])])]), (I 9999999999)])),
 (((.ap .not [(.ap .lt [(.lit (.int .u8 57)), (.ap .sidx [(.var 0), (.var 2)])])]) :: (.ap .not [(.ap .lt [(.ap .sidx [(.var 0), (.var 2)]), (.lit (.int .u8 48))])]) :: (.ap .lt [(.var 2), (.ap .slen [(.var 0)])]) :: aj7), (.ap .same [(.ap (.add .i64) [(.ap (.mul .i64) [(I 10), (.var 1)]), (.ap (.cast .i64) [(.ap (.sub .u8) [(.ap .sidx [(.var 0), (.var 2)]), (.lit (.int .u8 48))])])]), (.ap (.usr 203) [(.var 0), (.ap (.add .i64) [(.var 2), (I 1)])])])),
 (((.ap .not [(.ap .lt [(.lit (.int .u8 57)), (.ap .sidx [(.var 0), (.var 2)])])]) :: (.ap .not [(.ap .lt [(.ap .sidx [(.var 0), (.var 2)]), (.lit (.int .u8 48))])]) :: (.ap .lt [(.var 2), (.ap .slen [(.var 0)])]) :: aj7), (.ap (.usr 204) [(.var 0), (.ap (.add .i64) [(.var 2), (I 1)])])),
 (((.ap .not [(.ap .lt [(I 1), (.ap .slen [(.var 0)])])]) :: aip), (.ap .same [(I 0), (.ap (.usr 203) [(.var 0), (I 0)])])),
 (((.ap .not [(.ap .lt [(I 1), (.ap .slen [(.var 0)])])]) :: aip), (.ap (.usr 204) [(.var 0), (I 0)])),
 (((.ap .not [(.ap .lt [(.lit (.int .u8 57)), (.ap .sidx [(.var 0), (.var 2)])])]) :: (.ap .not [(.ap .lt [(.ap .sidx [(.var 0), (.var 2)]), (.lit (.int .u8 48))])]) :: (.ap .lt [(.var 2), (.ap .slen [(.var 0)])]) :: akj), (.ap .le [(.ap (.add .i64) [(.ap (.mul .i64) [(I 10), (.var 1)]), (.ap (.cast .i64) [(.ap (.sub .u8) [(.ap .sidx [(.var 0), (.var 2)]), (.lit (.int .u8 48))])])]), (I 9999999999)])),
 (((.ap .not [(.ap .lt [(.lit (.int .u8 57)), (.ap .sidx [(.var 0), (.var 2)])])]) :: (.ap .not [(.ap .lt [(.ap .sidx [(.var 0), (.var 2)]), (.lit (.int .u8 48))])]) :: (.ap .lt [(.var 2), (.ap .slen [(.var 0)])]) :: akj), (.ap .same [(.ap (.add .i64) [(.ap (.mul .i64) [(I 10), (.var 1)]), (.ap (.cast .i64) [(.ap (.sub .u8) [(.ap .sidx [(.var 0), (.var 2)]), (.lit (.int .u8 48))])])]), (.ap (.usr 203) [(.var 0), (.ap (.add .i64) [(.var 2), (I 1)])])])),
 (((.ap .not [(.ap .lt [(.lit (.int .u8 57)), (.ap .sidx [(.var 0), (.var 2)])])]) :: (.ap .not [(.ap .lt [(.ap .sidx [(.var 0), (.var 2)]), (.lit (.int .u8 48))])]) :: (.ap .lt [(.var 2), (.ap .slen [(.var 0)])]) :: akj), (.ap (.usr 204) [(.var 0), (.ap (.add .i64) [(.var 2), (I 1)])]))]
def bd6 : List (List X × List (List X)) := [([(.ap .eq [(.var 0), (.lit (.string (.mk (.mk []))))]), (.ap (.typ .str) [(.var 0)])], [[(I 0)], [(.lit (.bool false))]]),
 ([(.ap .lt [(I 10), (.ap .slen [(.var 0)])]), (.ap .not [(.ap .eq [(.var 0), (.lit (.string (.mk (.mk []))))])]), (.ap (.typ .str) [(.var 0)])], [[(I 0)], [(.lit (.bool false))]]),
 (((.ap .eq [(.ap .sidx [(.var 0), (I 0)]), (.lit (.int .u8 48))]) :: (.ap .lt [(I 1), (.ap .slen [(.var 0)])]) :: aip), [[(I 0)], [(.lit (.bool false))]]),
 (((.ap .lt [(.ap .sidx [(.var 0), (.var 2)]), (.lit (.int .u8 48))]) :: (.ap .lt [(.var 2), (.ap .slen [(.var 0)])]) :: aj7), [[(I 0)], [(.lit (.bool false))]]),
 (((.ap .lt [(.lit (.int .u8 57)), (.ap .sidx [(.var 0), (.var 2)])]) :: (.ap .not [(.ap .lt [(.ap .sidx [(.var 0), (.var 2)]), (.lit (.int .u8 48))])]) :: (.ap .lt [(.var 2), (.ap .slen [(.var 0)])]) :: aj7), [[(I 0)], [(.lit (.bool false))]]),
 (((.ap .not [(.ap .lt [(.var 2), (.ap .slen [(.var 0)])])]) :: aj7), [[(.var 1)], [(.ap .le [(.var 1), (I 1073741824)])]]),
 (((.ap .lt [(.ap .sidx [(.var 0), (.var 2)]), (.lit (.int .u8 48))]) :: (.ap .lt [(.var 2), (.ap .slen [(.var 0)])]) :: akj), [[(I 0)], [(.lit (.bool false))]]),
 (((.ap .lt [(.lit (.int .u8 57)), (.ap .sidx [(.var 0), (.var 2)])]) :: (.ap .not [(.ap .lt [(.ap .sidx [(.var 0), (.var 2)]), (.lit (.int .u8 48))])]) :: (.ap .lt [(.var 2), (.ap .slen [(.var 0)])]) :: akj), [[(I 0)], [(.lit (.bool false))]]),
 (((.ap .not [(.ap .lt [(.var 2), (.ap .slen [(.var 0)])])]) :: akj), [[(.var 1)], [(.ap .le [(.var 1), (I 1073741824)])]])]
theorem bi7 : runS Tryd.prog (aew T0) 10 40 ⟨ad8 [(5, lp24)], hintA []⟩ Tryd.f24 (abr Tryd.f24) SNum = some (bd8, bd6) := by kernel_rfl
set_option maxHeartbeats 4000000 in
set_option maxRecDepth 100000 in
theorem c24 : aaq U Tryd.prog 24 SNum := by
 refine aaq.of (P := Tryd.prog) (U := U) (T := T0) (f := 24) (fn := Tryd.f24) (fuel := 10) (fk := 40) (hs := ⟨ad8 [(5, lp24)], hintA []⟩) (S := SNum) (v := bd8) (outs := bd6) mixed hT0 at24 bi7 ?_ ?_
 ·unfold bd8
  repeat' (first | exact ac9 _ | refine adp (fun v hh => ?_) ?_)
  all_goals
   simp only [aaz, aa5, aa4, aa6, abh, ace, ab7, aap, b_lt, b_le, b_eq, aa3, abf, aao, aan, w_mk, abd, aa1, w_l0, w_l1, aac, aag, aa2, aae, aad, aam, aak, a3g, avy, bfx, bgg, mnX, mxX, ad3, acg, ac4, ab3, abk, adw, aip, aj7, akj] at hh ⊢
   repeat (obtain ⟨_, hh⟩ := hh)
   try (first | grind [= aac, = aac] | (apply bja <;> first | assumption | grind [= aac]) | (apply bh3 <;> first | assumption | grind [= aac]) | (apply bcq <;> first | assumption | grind [= aac]) | (apply bdi <;> first | assumption | grind [= aac]) | (apply bcc <;> first | assumption | grind [= aac]) | (apply bjl <;> first | assumption | grind [= aac]) | (apply bjo <;> first | assumption | grind [= aac]) | (apply bj3 <;> first | assumption | grind [= aac]) | (apply bc5 <;> first | assumption | grind [= aac]) | (apply bcx <;> first | assumption | grind [= aac]) | (apply bhq <;> first | assumption | grind [= aac]))
 ·intro o ho σ hU hh
  obtain ⟨v⟩ := σ
  cases hU
  simp only [bd6, List.mem_cons, List.not_mem_nil, or_false] at ho
  repeat' (first | (rcases ho with rfl | ho) | subst ho)
  all_goals
   refine ⟨_, List.mem_cons_self .., by simp only [aaz, aa5, aa4, aa6, abh, ace, ab7, aap, b_lt, b_le, b_eq, aa3, abf, aao, aan, w_mk, abd, aa1, w_l0, w_l1, aac, aag, aa2, aae, aad, aam, aak], ?_⟩
   simp only [aaz, aa5, aa4, aa6, abh, ace, ab7, aap, b_lt, b_le, b_eq, aa3, abf, aao, aan, w_mk, abd, aa1, w_l0, w_l1, aac, aag, aa2, aae, aad, aam, aak, a3g, avy, bfx, bgg, mnX, mxX, ad3, acg, ac4, ab3, abk, adw, aip, aj7, akj] at hh
   simp only [List.map_cons, List.map_nil, aaz, aa5, aa4, aa6, abh, ace, ab7, aap, b_lt, b_le, b_eq, aa3, abf, aao, aan, w_mk, abd, aa1, w_l0, w_l1, aac, aag, aa2, aae, aad, aam, aak, w_lt, w_le, w_eq, al8, ai1, aok, a3g, avy, bfx, bgg, mnX, mxX, ad3, acg, ac4, ab3, abk, adw]
   repeat (obtain ⟨_, hh⟩ := hh)
   try (first | grind [= aac, = aac] | (apply bja <;> first | assumption | grind [= aac]) | (apply bh3 <;> first | assumption | grind [= aac]) | (apply bcq <;> first | assumption | grind [= aac]) | (apply bdi <;> first | assumption | grind [= aac]) | (apply bcc <;> first | assumption | grind [= aac]) | (apply bjl <;> first | assumption | grind [= aac]) | (apply bjo <;> first | assumption | grind [= aac]) | (apply bj3 <;> first | assumption | grind [= aac]) | (apply bc5 <;> first | assumption | grind [= aac]) | (apply bcx <;> first | assumption | grind [= aac]) | (apply bhq <;> first | assumption | grind [= aac]))
end Go.Proofs.YtamhchkknlbanaaDoor.Be

namespace Go.Proofs.YtamhchkknlbanaaDoor.Be
open Go.Sx Go.Proofs
noncomputable def SDig : Fsp := ⟨[(false, [.int .u8])], [], [(false, [sI])], [([], [[.ap (.usr 205) [.var 0]]])], true⟩
theorem bjn {x : Int} (h1 : x ≤ 57) (h2 : 48 ≤ x) : digV x = x - 48 := by unfold digV; rw [if_pos ⟨h2, h1⟩]
theorem bjc {x : Int} (h1 : x ≤ 102) (h2 : 97 ≤ x) : digV x = x - 97 + 10 := by unfold digV; rw [if_neg (by omega), if_pos ⟨h2, h1⟩]
theorem bjk {x : Int} (h1 : ¬ (48 ≤ x ∧ x ≤ 57)) (h2 : ¬ (97 ≤ x ∧ x ≤ 102)) : digV x = -1 := by unfold digV; rw [if_neg h1, if_neg h2]
abbrev ap4 : List X := [(.ap .le [(.lit (.int .u8 48)), (.var 0)]), (.ap .le [(.lit (.int .u8 0)), (.var 0)]), (.ap .le [(.var 0), (.lit (.int .u8 255))])]
def bgx : List VC := []
def bdy : List (List X × List (List X)) := [(((.ap .le [(.var 0), (.lit (.int .u8 57))]) :: ap4), [[(.ap (.cast .i64) [(.ap (.sub .u8) [(.var 0), (.lit (.int .u8 48))])])]]),
 (((.ap .le [(.var 0), (.lit (.int .u8 102))]) :: (.ap .le [(.lit (.int .u8 97)), (.var 0)]) :: (.ap .not [(.ap .le [(.var 0), (.lit (.int .u8 57))])]) :: ap4), [[(.ap (.add .i64) [(.ap (.cast .i64) [(.ap (.sub .u8) [(.var 0), (.lit (.int .u8 97))])]), (I 10)])]]),
 (((.ap .not [(.ap .le [(.var 0), (.lit (.int .u8 102))])]) :: (.ap .le [(.lit (.int .u8 97)), (.var 0)]) :: (.ap .not [(.ap .le [(.var 0), (.lit (.int .u8 57))])]) :: ap4), [[(I (-1))]]),
 (((.ap .not [(.ap .le [(.lit (.int .u8 97)), (.var 0)])]) :: (.ap .not [(.ap .le [(.var 0), (.lit (.int .u8 57))])]) :: ap4), [[(I (-1))]]),
 ([(.ap .not [(.ap .le [(.lit (.int .u8 48)), (.var 0)])]), (.ap .le [(.lit (.int .u8 0)), (.var 0)]), (.ap .le [(.var 0), (.lit (.int .u8 255))])], [[(I (-1))]])]
theorem bhw : runS Tryd.prog (aew T0) 10 10 ⟨ad8 [], hintA []⟩ Tryd.f48 (abr Tryd.f48) SDig = some (bgx, bdy) := by kernel_rfl
set_option maxHeartbeats 4000000 in
set_option maxRecDepth 100000 in
theorem c48 : aaq U Tryd.prog 48 SDig := by
 refine aaq.of (P := Tryd.prog) (U := U) (T := T0) (f := 48) (fn := Tryd.f48) (fuel := 10) (fk := 10) (hs := ⟨ad8 [], hintA []⟩) (S := SDig) (v := bgx) (outs := bdy) mixed hT0 at48 bhw ?_ ?_
 ·unfold bgx
  repeat' (first | exact ac9 _ | refine adp (fun v hh => ?_) ?_)
  all_goals
   simp only [aaz, aa5, aa4, aa6, abh, ace, aap, b_le, aa3, aa1, w_l0, w_l1, aac, aag, aa2, aae, aad, aam, aak, a1b, mnX, mxX, ad3, acg, ac4, ab3, abk, ap4] at hh ⊢
   repeat (obtain ⟨_, hh⟩ := hh)
   try (first | grind [bjn, bjc, bjk, = aac])
 ·intro o ho σ hU hh
  obtain ⟨v⟩ := σ
  cases hU
  simp only [bdy, List.mem_cons, List.not_mem_nil, or_false] at ho
  repeat' (first | (rcases ho with rfl | ho) | subst ho)
  all_goals
   refine ⟨_, List.mem_cons_self .., by simp only [aaz, aa5, aa4, aa6, abh, ace, aap, b_le, aa3, aa1, w_l0, w_l1, aac, aag, aa2, aae, aad, aam, aak], ?_⟩
   simp only [aaz, aa5, aa4, aa6, abh, ace, aap, b_le, aa3, aa1, w_l0, w_l1, aac, aag, aa2, aae, aad, aam, aak, a1b, mnX, mxX, ad3, acg, ac4, ab3, abk, ap4] at hh
   simp only [List.map_cons, List.map_nil, aaz, aa5, aa4, aa6, abh, ace, aap, b_le, aa3, aa1, w_l0, w_l1, aac, aag, aa2, aae, aad, aam, aak, w_le, al8, a1b, mnX, mxX, ad3, acg, ac4, ab3, abk]
   repeat (obtain ⟨_, hh⟩ := hh)
   try (first | grind [bjn, bjc, bjk, = aac])
theorem ay8 {d : CD} : [] = ajc ((by' d).take (Int.toNat 0)) := rfl
theorem a8o {d : CD} : abx ((by' d).take (Int.toNat 0)) = true := rfl
theorem a5q {l : List UInt8} {b : UInt8} : ajc (l ++ [b]) = ajc l ++ [a1s b] := by
 unfold ajc
 rw [List.map_append]
 rfl
theorem axb {l : List UInt8} {b : UInt8} : abx (l ++ [b]) = (abx l && a2b b) := by
 unfold abx
 rw [List.all_append]
 simp
theorem ajl {z n : Int} : eqC (vInt .u8 z) (vInt .u8 n) = decide (z = n) := rfl
theorem ajz {d : CD} {i : Int} (h0 : 0 ≤ i) (hi : i < d.slen) (hT : Typ .str d) : (by' d).take (i + 1).toNat = (by' d).take i.toNat ++ [(by' d).getD i.toNat 0] := by
 rw [abe hT] at hi
 rw [show (i + 1).toNat = i.toNat + 1 by omega, agj (by omega)]
theorem asc {d : CD} {i : Int} (hi : ¬ i < d.slen) (hT : Typ .str d) : (by' d).take i.toNat = by' d := by
 rw [abe hT] at hi
 exact List.take_of_length_le (by omega)
theorem a3c {d : CD} {r : List (List CD)} {i : Int} (hr : r = ajc ((by' d).take i.toNat)) (h0 : 0 ≤ i) (hi : i < d.slen) (hT : Typ .str d) : r ++ ([] ++ [[aaf (eqC (vInt .u8 (byAt d i)) (vInt .u8 49))]]) = ajc ((by' d).take (i + 1).toNat) := by
 rw [ajz h0 hi hT, a5q, hr, List.nil_append, ajl]
 unfold a1s byAt
 congr 4
 rw [decide_eq_decide]
 omega
theorem a3m {d : CD} {i : Int} (h : eqC (vInt .u8 (byAt d i)) (vInt .u8 49) = true) (hb : abx ((by' d).take i.toNat) = true) (h0 : 0 ≤ i) (hi : i < d.slen) (hT : Typ .str d) : abx ((by' d).take (i + 1).toNat) = true := by
 rw [ajz h0 hi hT, axb, hb]
 rw [ajl, decide_eq_true_eq] at h
 unfold byAt at h
 unfold a2b
 rw [Bool.true_and, Bool.or_eq_true, decide_eq_true_eq, decide_eq_true_eq]
 omega
theorem a2x {d : CD} {i : Int} (h : eqC (vInt .u8 (byAt d i)) (vInt .u8 48) = true) (hb : abx ((by' d).take i.toNat) = true) (h0 : 0 ≤ i) (hi : i < d.slen) (hT : Typ .str d) : abx ((by' d).take (i + 1).toNat) = true := by
 rw [ajz h0 hi hT, axb, hb]
 rw [ajl, decide_eq_true_eq] at h
 unfold byAt at h
 unfold a2b
 rw [Bool.true_and, Bool.or_eq_true, decide_eq_true_eq, decide_eq_true_eq]
 omega
theorem awo {d : CD} {i : Int} (h1 : ¬ eqC (vInt .u8 (byAt d i)) (vInt .u8 49) = true) (h2 : ¬ eqC (vInt .u8 (byAt d i)) (vInt .u8 48) = true) (h0 : 0 ≤ i) (hi : i < d.slen) (hT : Typ .str d) : [[mkz (alz (by' d))], [aaf (abx (by' d) && decide (0 < (by' d).length))]] = [[CD.sl true []], [aaf false]] := by
 rw [abe hT] at hi
 have hlt : i.toNat < (by' d).length := by omega
 have hf : abx (by' d) = false := by
  unfold abx
  rw [List.all_eq_false]
  refine ⟨(by' d).getD i.toNat 0, ?_, ?_⟩
  ·rw [List.getD_eq_getElem?_getD, List.getElem?_eq_getElem hlt]
   exact List.getElem_mem hlt
  ·rw [ajl, decide_eq_true_eq] at h1 h2
   unfold byAt at h1 h2
   unfold a2b
   rw [Bool.or_eq_true, decide_eq_true_eq, decide_eq_true_eq]
   omega
 unfold alz
 rw [hf]
 rfl
theorem bde {d : CD} {r : List (List CD)} {i : Int} (hr : r = ajc ((by' d).take i.toNat)) (hb : abx ((by' d).take i.toNat) = true) (hi : ¬ i < d.slen) (hT : Typ .str d) : [[mkz (alz (by' d))], [aaf (abx (by' d) && decide (0 < (by' d).length))]] = [[mkz r], [aaf (decide (0 < (d.slen : Int)))]] := by
 rw [asc hi hT] at hr hb
 unfold alz
 rw [if_pos hb, hb, hr, abe hT, Bool.true_and]
 congr 4
 rw [decide_eq_decide]
 omega
noncomputable def a9i : Fsp := ⟨[(false, [.str])], [.ap .le [.ap .slen [.var 0], I 2500]], [(false, [.sl [.bool]]), (false, [.bool])], [([], [[.ap (.usr 206) [.var 0]], [.ap (.usr 207) [.var 0]]])], true⟩
noncomputable def lp27 : Lp := ⟨[(.slot 4, .own true [.bool]), (.slot 5, .int .i64)], [0, 2, 3], [], fun F H k => [.ap .le [zI, .var (k+2)], .ap .le [.var (k+2), .ap .slen [.var 0]], .ap .le [.var k, .var (k+2)], .ap .le [.var (k+2), .var k], .ap .same [.ap (.mk true) [.var (k+1)], .ap (.usr 208) [.var 0, .var (k+2)]], .ap (.usr 209) [.var 0, .var (k+2)]], fun F H k => .ap (.sub .i64) [.ap .slen [.var 0], .var (k+2)]⟩
abbrev aj9 : List X := [(.ap .le [(I 0), (.var 3)]), (.ap .le [(.var 3), (.ap .slen [(.var 0)])]), (.ap .le [(.var 1), (.var 3)]), (.ap .le [(.var 3), (.var 1)]), (.ap .same [(.ap (.mk true) [(.var 2)]), (.ap (.usr 208) [(.var 0), (.var 3)])]), (.ap (.usr 209) [(.var 0), (.var 3)]), (.ap (.typ .str) [(.var 0)]), (.ap .le [(.ap .slen [(.var 0)]), (I 2500)])]
def bd3 : List VC := [([(.ap (.typ .str) [(.var 0)]), (.ap .le [(.ap .slen [(.var 0)]), (I 2500)])], (.ap .same [(.ap (.mk true) [(.ap (.nil true) [])]), (.ap (.usr 208) [(.var 0), (I 0)])])),
 ([(.ap (.typ .str) [(.var 0)]), (.ap .le [(.ap .slen [(.var 0)]), (I 2500)])], (.ap (.usr 209) [(.var 0), (I 0)])),
 (((.ap .eq [(.ap .sidx [(.var 0), (.var 3)]), (.lit (.int .u8 49))]) :: (.ap .not [(.ap .eq [(.ap .sidx [(.var 0), (.var 3)]), (.lit (.int .u8 48))])]) :: (.ap .lt [(.var 3), (.ap .slen [(.var 0)])]) :: aj9), (.ap .same [(.ap (.mk true) [(.ap .cat [(.var 2), (.ap .snoc [(.ap (.nil false) []), (.ap .eq [(.ap .sidx [(.var 0), (.var 3)]), (.lit (.int .u8 49))])])])]), (.ap (.usr 208) [(.var 0), (.ap (.add .i64) [(.var 3), (I 1)])])])),
 (((.ap .eq [(.ap .sidx [(.var 0), (.var 3)]), (.lit (.int .u8 49))]) :: (.ap .not [(.ap .eq [(.ap .sidx [(.var 0), (.var 3)]), (.lit (.int .u8 48))])]) :: (.ap .lt [(.var 3), (.ap .slen [(.var 0)])]) :: aj9), (.ap (.usr 209) [(.var 0), (.ap (.add .i64) [(.var 3), (I 1)])])),
 (((.ap .eq [(.ap .sidx [(.var 0), (.var 3)]), (.lit (.int .u8 48))]) :: (.ap .lt [(.var 3), (.ap .slen [(.var 0)])]) :: aj9), (.ap .same [(.ap (.mk true) [(.ap .cat [(.var 2), (.ap .snoc [(.ap (.nil false) []), (.ap .eq [(.ap .sidx [(.var 0), (.var 3)]), (.lit (.int .u8 49))])])])]), (.ap (.usr 208) [(.var 0), (.ap (.add .i64) [(.var 3), (I 1)])])])),
 (((.ap .eq [(.ap .sidx [(.var 0), (.var 3)]), (.lit (.int .u8 48))]) :: (.ap .lt [(.var 3), (.ap .slen [(.var 0)])]) :: aj9), (.ap (.usr 209) [(.var 0), (.ap (.add .i64) [(.var 3), (I 1)])]))]
def bhe : List (List X × List (List X)) := [(((.ap .not [(.ap .eq [(.ap .sidx [(.var 0), (.var 3)]), (.lit (.int .u8 49))])]) :: (.ap .not [(.ap .eq [(.ap .sidx [(.var 0), (.var 3)]), (.lit (.int .u8 48))])]) :: (.ap .lt [(.var 3), (.ap .slen [(.var 0)])]) :: aj9), [[(.ap (.nil true) [])], [(.lit (.bool false))]]),
 (((.ap .not [(.ap .lt [(.var 3), (.ap .slen [(.var 0)])])]) :: aj9), [[(.ap (.mk true) [(.var 2)])], [(.ap .lt [(I 0), (.ap .slen [(.var 0)])])]])]
theorem bi5 : runS Tryd.prog (aew T0) 10 10 ⟨ad8 [(3, lp27)], hintA []⟩ Tryd.f27 (abr Tryd.f27) a9i = some (bd3, bhe) := by kernel_rfl
set_option maxHeartbeats 4000000 in
set_option maxRecDepth 100000 in
theorem c27 : aaq U Tryd.prog 27 a9i := by
 refine aaq.of (P := Tryd.prog) (U := U) (T := T0) (f := 27) (fn := Tryd.f27) (fuel := 10) (fk := 10) (hs := ⟨ad8 [(3, lp27)], hintA []⟩) (S := a9i) (v := bd3) (outs := bhe) mixed hT0 at27 bi5 ?_ ?_
 ·unfold bd3
  repeat' (first | exact ac9 _ | refine adp (fun v hh => ?_) ?_)
  all_goals
   simp only [aaz, aa5, aa4, aa6, abh, b_lt, b_le, b_eq, aa3, abf, aao, aan, abj, w_mk, aat, abq, abd, aa1, w_l0, w_l1, aac, aag, aa2, aae, aad, aam, aak, aod, a7j, a0v, a07, mnX, mxX, ad3, acg, ac4, ab3, abk, adw, w_eq, ad5, ac7, agm, aj9] at hh ⊢
   repeat (obtain ⟨_, hh⟩ := hh)
   try (first | grind [= aac, = aac] | (apply ay8 <;> first | assumption | grind [= aac]) | (apply a8o <;> first | assumption | grind [= aac]) | (apply a3c <;> first | assumption | grind [= aac]) | (apply a3m <;> first | assumption | grind [= aac]) | (apply a2x <;> first | assumption | grind [= aac]) | (apply awo <;> first | assumption | grind [= aac]) | (apply bde <;> first | assumption | grind [= aac]))
 ·intro o ho σ hU hh
  obtain ⟨v⟩ := σ
  cases hU
  simp only [bhe, List.mem_cons, List.not_mem_nil, or_false] at ho
  repeat' (first | (rcases ho with rfl | ho) | subst ho)
  all_goals
   refine ⟨_, List.mem_cons_self .., by simp only [aaz, aa5, aa4, aa6, abh, b_lt, b_le, b_eq, aa3, abf, aao, aan, abj, w_mk, aat, abq, abd, aa1, w_l0, w_l1, aac, aag, aa2, aae, aad, aam, aak], ?_⟩
   simp only [aaz, aa5, aa4, aa6, abh, b_lt, b_le, b_eq, aa3, abf, aao, aan, abj, w_mk, aat, abq, abd, aa1, w_l0, w_l1, aac, aag, aa2, aae, aad, aam, aak, aod, a7j, a0v, a07, mnX, mxX, ad3, acg, ac4, ab3, abk, adw, w_eq, ad5, ac7, agm, aj9] at hh
   simp only [List.map_cons, List.map_nil, aaz, aa5, aa4, aa6, abh, b_lt, b_le, b_eq, aa3, abf, aao, aan, abj, w_mk, aat, abq, abd, aa1, w_l0, w_l1, aac, aag, aa2, aae, aad, aam, aak, w_lt, w_le, w_eq, al8, ai1, aok, aod, a7j, a0v, a07, mnX, mxX, ad3, acg, ac4, ab3, abk, adw, w_eq, ad5, ac7, agm]
   repeat (obtain ⟨_, hh⟩ := hh)
   try (first | grind [= aac, = aac] | (apply ay8 <;> first | assumption | grind [= aac]) | (apply a8o <;> first | assumption | grind [= aac]) | (apply a3c <;> first | assumption | grind [= aac]) | (apply a3m <;> first | assumption | grind [= aac]) | (apply a2x <;> first | assumption | grind [= aac]) | (apply awo <;> first | assumption | grind [= aac]) | (apply bde <;> first | assumption | grind [= aac]))
end Go.Proofs.YtamhchkknlbanaaDoor.Be

namespace Go.Proofs.YtamhchkknlbanaaDoor.Be
open Go.Sx Go.Proofs
noncomputable def T1 : List (FuncId × Fsp) := [(48, SDig)]
set_option maxRecDepth 100000 in
theorem hT1 : ajg U Tryd.prog T1 := .cons c48 .nil
theorem a9y {x : Int} : digV x ≤ 15 := by
 unfold digV
 split
 ·omega
 ·split <;> omega
theorem bh8 {d : CD} : [] = hexR ((by' d).take (Int.toNat 0)) := rfl
theorem bda {d : CD} : (hexB ((by' d).take (Int.toNat 0)) && decide (Int.toNat 0 % 2 = 0)) = true := rfl
theorem aik : ∀ {p q : List UInt8}, p.length % 2 = 0 → hexR (p ++ q) = hexR p ++ hexR q
 | [], q, _ => rfl
 | [_], _, h => by simp at h
 | a :: b :: r, q, h => by
  show _ :: hexR (r ++ q) = _
  rw [aik (p := r) (by simp only [List.length_cons] at h; omega)]
  rfl
theorem af6 : ∀ {p q : List UInt8}, p.length % 2 = 0 → hexB (p ++ q) = (hexB p && hexB q)
 | [], q, _ => rfl
 | [_], _, h => by simp at h
 | a :: b :: r, q, h => by
  show (_ && hexB (r ++ q)) = _
  rw [af6 (p := r) (by simp only [List.length_cons] at h; omega), ← Bool.and_assoc]
  rfl
theorem a1x {d : CD} {i : Int} (h0 : 0 ≤ i) (hi : i + 1 < d.slen) (hT : Typ .str d) : (by' d).take (i + 2).toNat = (by' d).take i.toNat ++ [(by' d).getD i.toNat 0, (by' d).getD (i + 1).toNat 0] := by
 have h1 := ajz (d := d) (i := i + 1) (by omega) hi hT
 have h2 := ajz (d := d) (i := i) h0 (by omega) hT
 rw [show i + 2 = i + 1 + 1 by omega, h1, h2, List.append_assoc]
 rfl
theorem atb {d : CD} {i : Int} (h0 : 0 ≤ i) (hi : i ≤ d.slen) (hT : Typ .str d) (h2 : i.toNat % 2 = 0) : ((by' d).take i.toNat).length % 2 = 0 := by
 rw [abe hT] at hi
 rw [List.length_take]
 omega
theorem hb_1 {d : CD} {i : Int} (hb : (hexB ((by' d).take i.toNat) && decide (i.toNat % 2 = 0)) = true) : hexB ((by' d).take i.toNat) = true ∧ i.toNat % 2 = 0 := by
 rw [Bool.and_eq_true, decide_eq_true_eq] at hb
 exact hb
theorem bhv {d : CD} {r : List (List CD)} {i : Int} (hr : r = hexR ((by' d).take i.toNat)) (hb : (hexB ((by' d).take i.toNat) && decide (i.toNat % 2 = 0)) = true) (h0 : 0 ≤ i) (hi : i + 1 < d.slen) (hT : Typ .str d) : r ++ ([] ++ [[vInt .u8 (16 * digV (byAt d i) + digV (byAt d (i + 1)))]]) = hexR ((by' d).take (i + 2).toNat) := by
 rw [a1x h0 hi hT, aik (atb h0 (by omega) hT (hb_1 hb).2), hr]
 rfl
theorem bcd {d : CD} {i : Int} (hb : (hexB ((by' d).take i.toNat) && decide (i.toNat % 2 = 0)) = true) (h1 : ¬ digV (byAt d i) < 0) (h2 : ¬ digV (byAt d (i + 1)) < 0) (h0 : 0 ≤ i) (hi : i + 1 < d.slen) (hT : Typ .str d) : (hexB ((by' d).take (i + 2).toNat) && decide ((i + 2).toNat % 2 = 0)) = true := by
 rw [a1x h0 hi hT, af6 (atb h0 (by omega) hT (hb_1 hb).2), (hb_1 hb).1]
 have e1 : (0 ≤ digV (((by' d).getD i.toNat 0).toNat : Int)) := by unfold byAt at h1; omega
 have e2 : (0 ≤ digV (((by' d).getD (i + 1).toNat 0).toNat : Int)) := by unfold byAt at h2; omega
 have e3 : (i + 2).toNat % 2 = 0 := by have := (hb_1 hb).2; omega
 unfold hexB
 rw [decide_eq_true e1, decide_eq_true e2, decide_eq_true e3]
 rfl
theorem bcu {d : CD} {i : Int} (hb : (hexB ((by' d).take i.toNat) && decide (i.toNat % 2 = 0)) = true) (hx : digV (byAt d i) < 0 ∨ digV (byAt d (i + 1)) < 0) (h0 : 0 ≤ i) (hi : i + 1 < d.slen) (hT : Typ .str d) : [[mkz (hexV (by' d))], [aaf (hexB (by' d) && (decide (0 < (by' d).length) && decide ((by' d).length % 2 = 0)))]] = [[CD.sl true []], [aaf false]] := by
 have hf : hexB (by' d) = false := by
  have hs : by' d = ((by' d).take (i + 2).toNat) ++ (by' d).drop (i + 2).toNat := (List.take_append_drop _ _).symm
  rw [hs, a1x h0 hi hT, List.append_assoc, af6 (atb h0 (by omega) hT (hb_1 hb).2)]
  have e : (decide (0 ≤ digV (((by' d).getD i.toNat 0).toNat : Int)) && decide (0 ≤ digV (((by' d).getD (i + 1).toNat 0).toNat : Int))) = false := by
   unfold byAt at hx
   rw [Bool.and_eq_false_iff]
   rcases hx with hx | hx
   ·exact .inl (decide_eq_false (by omega))
   ·exact .inr (decide_eq_false (by omega))
  show (_ && (_ && _)) = false
  rw [e]
  simp
 unfold hexV
 rw [hf]
 rfl
theorem bdp {d : CD} {i : Int} (hx : digV (byAt d i) < 0) (hb : (hexB ((by' d).take i.toNat) && decide (i.toNat % 2 = 0)) = true) (h0 : 0 ≤ i) (hi : i + 1 < d.slen) (hT : Typ .str d) : [[mkz (hexV (by' d))], [aaf (hexB (by' d) && (decide (0 < (by' d).length) && decide ((by' d).length % 2 = 0)))]] = [[CD.sl true []], [aaf false]] := bcu hb (.inl hx) h0 hi hT
theorem bcr {d : CD} {i : Int} (hx : digV (byAt d (i + 1)) < 0) (hb : (hexB ((by' d).take i.toNat) && decide (i.toNat % 2 = 0)) = true) (h0 : 0 ≤ i) (hi : i + 1 < d.slen) (hT : Typ .str d) : [[mkz (hexV (by' d))], [aaf (hexB (by' d) && (decide (0 < (by' d).length) && decide ((by' d).length % 2 = 0)))]] = [[CD.sl true []], [aaf false]] := bcu hb (.inr hx) h0 hi hT
theorem a7p {d : CD} {r : List (List CD)} {i : Int} (hr : r = hexR ((by' d).take i.toNat)) (hb : (hexB ((by' d).take i.toNat) && decide (i.toNat % 2 = 0)) = true) (h0 : 0 ≤ i) (hi : ¬ i + 1 < d.slen) (hle : i ≤ d.slen) (hT : Typ .str d) : hexB (by' d) = true ∧ r = hexR (by' d) := by
 have hs : by' d = ((by' d).take i.toNat) ++ (by' d).drop i.toNat := (List.take_append_drop _ _).symm
 have hl := abe hT
 have hd : ((by' d).drop i.toNat).length ≤ 1 := by rw [List.length_drop]; omega
 have e1 : hexB ((by' d).drop i.toNat) = true ∧ hexR ((by' d).drop i.toNat) = [] := by
  generalize (by' d).drop i.toNat = q at hd
  match q, hd with
  | [], _ => exact ⟨rfl, rfl⟩
  | [_], _ => exact ⟨rfl, rfl⟩
  | _ :: _ :: _, hd => simp at hd
 have e2 := af6 (q := (by' d).drop i.toNat) (atb h0 hle hT (hb_1 hb).2)
 have e3 := aik (q := (by' d).drop i.toNat) (atb h0 hle hT (hb_1 hb).2)
 rw [← hs, (hb_1 hb).1, e1.1] at e2
 rw [← hs, e1.2, List.append_nil] at e3
 exact ⟨e2, by rw [hr, e3]⟩
theorem bi0 {n : Nat} : eqC (orV (acf .rem .i64 (n : Int) 2)) (vInt .i64 0) = decide (n % 2 = 0) := by
 have : acf .rem .i64 (n : Int) 2 = some (.int .i64 ((n : Int).tmod 2)) := rfl
 rw [this]
 show decide ((n : Int).tmod 2 = 0) = _
 rw [decide_eq_decide]
 have := Int.tmod_eq_emod_of_nonneg (a := (n : Int)) (b := 2) (by omega)
 omega
theorem bjb {d : CD} {r : List (List CD)} {i : Int} (hr : r = hexR ((by' d).take i.toNat)) (hb : (hexB ((by' d).take i.toNat) && decide (i.toNat % 2 = 0)) = true) (h0 : 0 ≤ i) (hi : ¬ i + 1 < d.slen) (hle : i ≤ d.slen) (hT : Typ .str d) (hp : 0 < (d.slen : Int)) : [[mkz (hexV (by' d))], [aaf (hexB (by' d) && (decide (0 < (by' d).length) && decide ((by' d).length % 2 = 0)))]] = [[mkz r], [aaf (eqC (orV (acf .rem .i64 (d.slen : Int) 2)) (vInt .i64 0))]] := by
 obtain ⟨e1, e2⟩ := a7p hr hb h0 hi hle hT
 have hl := abe hT
 unfold hexV
 rw [bi0, if_pos e1, e1, e2, decide_eq_true (show 0 < (by' d).length by omega), show d.slen = (by' d).length by omega]
 rfl
theorem bcf {d : CD} {r : List (List CD)} {i : Int} (hr : r = hexR ((by' d).take i.toNat)) (hb : (hexB ((by' d).take i.toNat) && decide (i.toNat % 2 = 0)) = true) (h0 : 0 ≤ i) (hi : ¬ i + 1 < d.slen) (hle : i ≤ d.slen) (hT : Typ .str d) (hp : ¬ 0 < (d.slen : Int)) : [[mkz (hexV (by' d))], [aaf (hexB (by' d) && (decide (0 < (by' d).length) && decide ((by' d).length % 2 = 0)))]] = [[mkz r], [aaf false]] := by
 obtain ⟨e1, e2⟩ := a7p hr hb h0 hi hle hT
 have hl := abe hT
 unfold hexV
 rw [if_pos e1, e1, e2, decide_eq_false (show ¬ 0 < (by' d).length by omega)]
 rfl
noncomputable def a97 : Fsp := ⟨[(false, [.str])], [.ap .le [.ap .slen [.var 0], I 2500]], [(false, [.sl [.int .u8]]), (false, [.bool])], [([], [[.ap (.usr 210) [.var 0]], [.ap (.usr 211) [.var 0]]])], true⟩
noncomputable def lp26 : Lp := ⟨[(.slot 4, .own true [.int .u8]), (.slot 5, .int .i64)], [0, 2, 3], [], fun F H k => [.ap .le [zI, .var (k+2)], .ap .le [.var (k+2), .ap .slen [.var 0]], .ap .le [zI, .var k], .ap .le [.var k, .var (k+2)], .ap .same [.ap (.mk true) [.var (k+1)], .ap (.usr 212) [.var 0, .var (k+2)]], .ap (.usr 213) [.var 0, .var (k+2)]], fun F H k => .ap (.sub .i64) [.ap .slen [.var 0], .var (k+2)]⟩
abbrev am4 : List X := [(.ap .le [(I 0), (.var 3)]), (.ap .le [(.var 3), (.ap .slen [(.var 0)])]), (.ap .le [(I 0), (.var 1)]), (.ap .le [(.var 1), (.var 3)]), (.ap .same [(.ap (.mk true) [(.var 2)]), (.ap (.usr 212) [(.var 0), (.var 3)])]), (.ap (.usr 213) [(.var 0), (.var 3)]), (.ap (.typ .str) [(.var 0)]), (.ap .le [(.ap .slen [(.var 0)]), (I 2500)])]
abbrev aou : List X := (.ap .not [(.ap .lt [(.ap (.usr 205) [(.ap .sidx [(.var 0), (.ap (.add .i64) [(.var 3), (I 1)])])]), (I 0)])]) :: (.ap .not [(.ap .lt [(.ap (.usr 205) [(.ap .sidx [(.var 0), (.var 3)])]), (I 0)])]) :: (.ap .lt [(.ap (.add .i64) [(.var 3), (I 1)]), (.ap .slen [(.var 0)])]) :: am4
def bgc : List VC := [([(.ap (.typ .str) [(.var 0)]), (.ap .le [(.ap .slen [(.var 0)]), (I 2500)])], (.ap .same [(.ap (.mk true) [(.ap (.nil true) [])]), (.ap (.usr 212) [(.var 0), (I 0)])])),
 ([(.ap (.typ .str) [(.var 0)]), (.ap .le [(.ap .slen [(.var 0)]), (I 2500)])], (.ap (.usr 213) [(.var 0), (I 0)])),
 (aou, (.ap .le [(.ap (.usr 205) [(.ap .sidx [(.var 0), (.var 3)])]), (I 15)])),
 (aou, (.ap .le [(.ap (.usr 205) [(.ap .sidx [(.var 0), (.ap (.add .i64) [(.var 3), (I 1)])])]), (I 15)])),
 (((.ap .le [(.ap (.usr 205) [(.ap .sidx [(.var 0), (.var 3)])]), (I 15)]) :: (.ap .le [(.ap (.usr 205) [(.ap .sidx [(.var 0), (.ap (.add .i64) [(.var 3), (I 1)])])]), (I 15)]) :: aou), (.ap .same [(.ap (.mk true) [(.ap .cat [(.var 2), (.ap .snoc [(.ap (.nil false) []), (.ap (.cast .u8) [(.ap (.add .i64) [(.ap (.mul .i64) [(I 16), (.ap (.usr 205) [(.ap .sidx [(.var 0), (.var 3)])])]), (.ap (.usr 205) [(.ap .sidx [(.var 0), (.ap (.add .i64) [(.var 3), (I 1)])])])])])])])]), (.ap (.usr 212) [(.var 0), (.ap (.add .i64) [(.var 3), (I 2)])])])),
 (((.ap .le [(.ap (.usr 205) [(.ap .sidx [(.var 0), (.var 3)])]), (I 15)]) :: (.ap .le [(.ap (.usr 205) [(.ap .sidx [(.var 0), (.ap (.add .i64) [(.var 3), (I 1)])])]), (I 15)]) :: aou), (.ap (.usr 213) [(.var 0), (.ap (.add .i64) [(.var 3), (I 2)])]))]
def be6 : List (List X × List (List X)) := [(((.ap .lt [(.ap (.usr 205) [(.ap .sidx [(.var 0), (.var 3)])]), (I 0)]) :: (.ap .lt [(.ap (.add .i64) [(.var 3), (I 1)]), (.ap .slen [(.var 0)])]) :: am4), [[(.ap (.nil true) [])], [(.lit (.bool false))]]),
 (((.ap .lt [(.ap (.usr 205) [(.ap .sidx [(.var 0), (.ap (.add .i64) [(.var 3), (I 1)])])]), (I 0)]) :: (.ap .not [(.ap .lt [(.ap (.usr 205) [(.ap .sidx [(.var 0), (.var 3)])]), (I 0)])]) :: (.ap .lt [(.ap (.add .i64) [(.var 3), (I 1)]), (.ap .slen [(.var 0)])]) :: am4), [[(.ap (.nil true) [])], [(.lit (.bool false))]]),
 (((.ap .lt [(I 0), (.ap .slen [(.var 0)])]) :: (.ap .not [(.ap .lt [(.ap (.add .i64) [(.var 3), (I 1)]), (.ap .slen [(.var 0)])])]) :: am4), [[(.ap (.mk true) [(.var 2)])], [(.ap .eq [(.ap (.bin .rem .i64) [(.ap .slen [(.var 0)]), (I 2)]), (I 0)])]]),
 (((.ap .not [(.ap .lt [(I 0), (.ap .slen [(.var 0)])])]) :: (.ap .not [(.ap .lt [(.ap (.add .i64) [(.var 3), (I 1)]), (.ap .slen [(.var 0)])])]) :: am4), [[(.ap (.mk true) [(.var 2)])], [(.lit (.bool false))]])]
theorem bkg : runS Tryd.prog (aew (tab T1)) 10 10 ⟨ad8 [(3, lp26)], hintA [(8, fun F H => [.ap .le [sx F 6, I 15], .ap .le [sx F 7, I 15]])]⟩ Tryd.f26 (abr Tryd.f26) a97 = some (bgc, be6) := by kernel_rfl
set_option maxHeartbeats 4000000 in
set_option maxRecDepth 100000 in
theorem c26 : aaq U Tryd.prog 26 a97 := by
 refine aaq.of (P := Tryd.prog) (U := U) (T := (tab T1)) (f := 26) (fn := Tryd.f26) (fuel := 10) (fk := 10) (hs := ⟨ad8 [(3, lp26)], hintA [(8, fun F H => [.ap .le [sx F 6, I 15], .ap .le [sx F 7, I 15]])]⟩) (S := a97) (v := bgc) (outs := be6) mixed hT1 at26 bkg ?_ ?_
 ·unfold bgc
  repeat' (first | exact ac9 _ | refine adp (fun v hh => ?_) ?_)
  all_goals
   simp only [aaz, aa5, aa4, aa6, abh, ab7, aap, b_lt, b_le, b_eq, aa3, abf, aao, aan, abj, w_mk, aat, abq, abd, aa1, acd, w_l0, w_l1, aac, aag, aa2, aae, aad, aam, aak, a1b, a1d, a4h, bew, bek, mnX, mxX, ad3, acg, ac4, ab3, abk, adw, w_eq, ad5, ac7, agm, am4, aou] at hh ⊢
   repeat (obtain ⟨_, hh⟩ := hh)
   try (first | grind [= aac, = aac] | (apply a9y <;> first | assumption | grind [= aac]) | (apply bh8 <;> first | assumption | grind [= aac]) | (apply bda <;> first | assumption | grind [= aac]) | (apply bhv <;> first | assumption | grind [= aac]) | (apply bcd <;> first | assumption | grind [= aac]) | (apply bdp <;> first | assumption | grind [= aac]) | (apply bcr <;> first | assumption | grind [= aac]) | (apply bjb <;> first | assumption | grind [= aac]) | (apply bcf <;> first | assumption | grind [= aac]))
 ·intro o ho σ hU hh
  obtain ⟨v⟩ := σ
  cases hU
  simp only [be6, List.mem_cons, List.not_mem_nil, or_false] at ho
  repeat' (first | (rcases ho with rfl | ho) | subst ho)
  all_goals
   refine ⟨_, List.mem_cons_self .., by simp only [aaz, aa5, aa4, aa6, abh, ab7, aap, b_lt, b_le, b_eq, aa3, abf, aao, aan, abj, w_mk, aat, abq, abd, aa1, acd, w_l0, w_l1, aac, aag, aa2, aae, aad, aam, aak], ?_⟩
   simp only [aaz, aa5, aa4, aa6, abh, ab7, aap, b_lt, b_le, b_eq, aa3, abf, aao, aan, abj, w_mk, aat, abq, abd, aa1, acd, w_l0, w_l1, aac, aag, aa2, aae, aad, aam, aak, a1b, a1d, a4h, bew, bek, mnX, mxX, ad3, acg, ac4, ab3, abk, adw, w_eq, ad5, ac7, agm, am4, aou] at hh
   simp only [List.map_cons, List.map_nil, aaz, aa5, aa4, aa6, abh, ab7, aap, b_lt, b_le, b_eq, aa3, abf, aao, aan, abj, w_mk, aat, abq, abd, aa1, acd, w_l0, w_l1, aac, aag, aa2, aae, aad, aam, aak, w_lt, w_le, w_eq, al8, ai1, aok, a1b, a1d, a4h, bew, bek, mnX, mxX, ad3, acg, ac4, ab3, abk, adw, w_eq, ad5, ac7, agm]
   repeat (obtain ⟨_, hh⟩ := hh)
   try (first | grind [= aac, = aac] | (apply a9y <;> first | assumption | grind [= aac]) | (apply bh8 <;> first | assumption | grind [= aac]) | (apply bda <;> first | assumption | grind [= aac]) | (apply bhv <;> first | assumption | grind [= aac]) | (apply bcd <;> first | assumption | grind [= aac]) | (apply bdp <;> first | assumption | grind [= aac]) | (apply bcr <;> first | assumption | grind [= aac]) | (apply bjb <;> first | assumption | grind [= aac]) | (apply bcf <;> first | assumption | grind [= aac]))
end Go.Proofs.YtamhchkknlbanaaDoor.Be
