/-
  The line of a deed: laws of the plain words, step by step. Conditions: none.
-/
import Derived.Test.YtamhchkknlbanaaDoorBtV
import Derived.Test.YtamhchkknlbanaaDoorBeI
set_option linter.unusedSectionVars false
set_option linter.unusedVariables false
set_option linter.unusedSimpArgs false
set_option linter.all false
namespace Go.Proofs.YtamhchkknlbanaaDoor.Be
open Go.Sx Go.Proofs
theorem ax2 {l : List UInt8} (h : l.length ≤ maxN) : ((tx l).slen : Int) = l.length := by
 show ((clip l.length : Nat) : Int) = _
 rw [aiz h]
abbrev fF (k : Int) (is : Bool) : List UInt8 := (frow k is).2.2.2.1
abbrev wF (k : Int) (is : Bool) : List UInt8 := (frow k is).1
abbrev rF (k : Int) (is : Bool) : Int := (frow k is).2.2.2.2
theorem bov (k : Int) (is : Bool) : frow k is = ([], 0, false, [], 0) ∨ ∃ i, i < 15 ∧ frow k is = fr i ∧ ahi k is = some (fr i) := by
 unfold frow
 cases h : ahi k is with
 | none => exact .inl rfl
 | some r =>
  refine .inr ?_
  have hm := List.mem_of_find?_eq_some h
  obtain ⟨i, hi, rfl⟩ := List.getElem_of_mem hm
  have e : frm[i] = fr i := by
   unfold fr
   rw [List.getD_eq_getElem?_getD, List.getElem?_eq_getElem hi]
   rfl
  exact ⟨i, hi, e, by rw [← e]⟩
theorem b3j {p : Row5 → Prop} (h : ∀ i, i < 15 → p (fr i)) (h0 : p ([], 0, false, [], 0)) (k : Int) (is : Bool) : p (frow k is) := by
 rcases bov k is with h1 | ⟨i, hi, h1, _⟩
 ·rw [h1]; exact h0
 ·rw [h1]; exact h i hi
theorem by8 {p : Row5 → Bool} (h : (frm.all p) = true) {i : Nat} (hi : i < 15) : p (fr i) = true := by
 have : fr i ∈ frm := by
  unfold fr
  rw [List.getD_eq_getElem?_getD, List.getElem?_eq_getElem (show i < frm.length from hi)]
  exact List.getElem_mem _
 exact List.all_eq_true.1 h _ this
theorem buw (k : Int) (is : Bool) : (fF k is).length ≤ 4 := by
 refine b3j (p := fun r => r.2.2.2.1.length ≤ 4) (fun i hi => ?_) (by simp) k is
 have := by8 (p := fun r => decide (r.2.2.2.1.length ≤ 4)) (by decide) hi
 simpa using this
theorem cai (k : Int) (is : Bool) : (wF k is).length ≤ 6 := by
 refine b3j (p := fun r => r.1.length ≤ 6) (fun i hi => ?_) (by simp) k is
 have := by8 (p := fun r => decide (r.1.length ≤ 6)) (by decide) hi
 simpa using this
theorem bmy (k : Int) (is : Bool) : ((tx (fF k is)).slen : Int) = (fF k is).length := ax2 (by have := buw k is; unfold maxN; omega)
theorem caw (k : Int) (is : Bool) : ((tx (fF k is)).slen : Int) ≤ 4 := by
 rw [bmy]
 have := buw k is
 omega
section
variable {F : List UInt8} {i : Int}
theorem b3h (h0 : 0 ≤ i) (hi : i < (F.length : Int)) : (CD.sl false (F.map aco)).cell i 0 = vInt .u8 ((F.getD i.toNat 0).toNat : Nat) := by
 have hlt : i.toNat < F.length := by omega
 show ((F.map aco).getD i.toNat []).getD 0 default = _
 rw [List.getD_eq_getElem?_getD (l := F.map aco), List.getElem?_map, List.getElem?_eq_getElem hlt]
 have e2 : F.getD i.toNat 0 = F[i.toNat] := by
  rw [List.getD_eq_getElem?_getD, List.getElem?_eq_getElem hlt]
  rfl
 rw [e2]
 rfl
theorem bos (h0 : 0 ≤ i) (hi : i < (F.length : Int)) : F.take (i + 1).toNat = F.take i.toNat ++ [F.getD i.toNat 0] := by
 rw [show (i + 1).toNat = i.toNat + 1 by omega, bt5 (by omega)]
theorem b0d {c x : Int} (h0 : 0 ≤ i) (hi : i < (F.length : Int)) (hc : ((F.getD i.toNat 0).toNat : Int) = c) : leftV (F.take (i + 1).toNat) c x = 0 := by
 unfold leftV hasC
 rw [bos h0 hi, List.any_append]
 simp only [List.any_cons, List.any_nil, Bool.or_false, decide_eq_true hc, Bool.or_true, if_true]
theorem bvl {c x : Int} (h0 : 0 ≤ i) (hi : i < (F.length : Int)) (hc : ((F.getD i.toNat 0).toNat : Int) ≠ c) : leftV (F.take (i + 1).toNat) c x = leftV (F.take i.toNat) c x := by
 unfold leftV hasC
 rw [bos h0 hi, List.any_append]
 simp only [List.any_cons, List.any_nil, Bool.or_false, decide_eq_false hc]
theorem avk {w : List UInt8} {who n a m o x : Int} {r : List (List CD)} (h0 : 0 ≤ i) (hi : i < (F.length : Int)) (hr : CD.sl (false && r.isEmpty) r = CD.sl false ((ac4 w F who n a m o i.toNat).map ah4)) (hx : selV who n a m o (F.getD i.toNat 0) = x) : CD.sl (false && (r ++ ([] ++ [[tx (Lib.itoa x)]])).isEmpty) (r ++ ([] ++ [[tx (Lib.itoa x)]])) = CD.sl false ((ac4 w F who n a m o (i + 1).toNat).map ah4) := by
 have hr : r = (ac4 w F who n a m o i.toNat).map ah4 := (CD.sl.inj hr).2
 have e : ac4 w F who n a m o (i + 1).toNat = ac4 w F who n a m o i.toNat ++ [Lib.itoa x] := by
  unfold ac4
  rw [bos h0 hi, List.map_append, ← hx]
  rfl
 rw [e, List.map_append, hr]
 rfl
theorem a5t {who n a m o : Int} (h0 : 0 ≤ i) (hi : i < (F.length : Int)) (hb : ((F.take i.toNat).all fun c => inR (selV who n a m o c)) = true) (hx : inR (selV who n a m o (F.getD i.toNat 0)) = true) : ((F.take (i + 1).toNat).all fun c => inR (selV who n a m o c)) = true := by
 rw [bos h0 hi, List.all_append, hb, List.all_cons, hx]
 rfl
theorem b0r {who n a m o : Int} (h0 : 0 ≤ i) (hi : i < (F.length : Int)) (hx : inR (selV who n a m o (F.getD i.toNat 0)) = false) : (F.all fun c => inR (selV who n a m o c)) = false := by
 rw [List.all_eq_false]
 have hlt : i.toNat < F.length := by omega
 refine ⟨F.getD i.toNat 0, ?_, by rw [hx]; decide⟩
 rw [List.getD_eq_getElem?_getD, List.getElem?_eq_getElem hlt]
 exact List.getElem_mem _
theorem a9v (hi : ¬ i < (F.length : Int)) : F.take i.toNat = F := List.take_of_length_le (by omega)
end
theorem b2c {who n a m o : Int} {c : UInt8} (h : (c.toNat : Int) = 119) : selV who n a m o c = who := by
 unfold selV
 rw [if_pos (by omega)]
theorem b2a {who n a m o : Int} {c : UInt8} (h : (c.toNat : Int) = 110) : selV who n a m o c = n := by
 unfold selV
 rw [if_neg (by omega), if_pos (by omega)]
theorem b1z {who n a m o : Int} {c : UInt8} (h : (c.toNat : Int) = 97) : selV who n a m o c = a := by
 unfold selV
 rw [if_neg (by omega), if_neg (by omega), if_pos (by omega)]
theorem b2b {who n a m o : Int} {c : UInt8} (h : (c.toNat : Int) = 111) : selV who n a m o c = o := by
 unfold selV
 rw [if_neg (by omega), if_neg (by omega), if_neg (by omega), if_pos (by omega)]
theorem b91 {who n a m o : Int} {c : UInt8} (h : (c.toNat : Int) = 109) : selV who n a m o c = m := by
 unfold selV
 rw [if_neg (by omega), if_neg (by omega), if_neg (by omega), if_neg (by omega), if_pos (by omega)]
theorem b90 {who n a m o : Int} {c : UInt8} (h1 : ¬ (c.toNat : Int) = 119) (h2 : ¬ (c.toNat : Int) = 110) (h3 : ¬ (c.toNat : Int) = 97) (h4 : ¬ (c.toNat : Int) = 111) (h5 : ¬ (c.toNat : Int) = 109) : selV who n a m o c = 0 := by
 unfold selV
 rw [if_neg (by omega), if_neg (by omega), if_neg (by omega), if_neg (by omega), if_neg (by omega)]
theorem bm2 {x : Int} (h1 : ¬ x < 0) (h2 : ¬ 1073741824 < x) : inR x = true := by
 unfold inR
 rw [decide_eq_true (by omega), decide_eq_true (by omega)]
 rfl
theorem bo4 {x : Int} (h1 : x < 0) : inR x = false := by
 unfold inR
 rw [decide_eq_false (by omega)]
 rfl
theorem bo3 {x : Int} (h1 : 1073741824 < x) : inR x = false := by
 unfold inR
 rw [decide_eq_false (show ¬ x ≤ 1073741824 by omega), Bool.and_false]
theorem join_le {B : Nat} : ∀ {L : List (List UInt8)}, (∀ x ∈ L, x.length ≤ B) → (Lib.join L [32]).length ≤ L.length * (B + 1)
 | [], _ => Nat.zero_le _
 | x :: r, h => by
  have hl : ∀ {r : List (List UInt8)}, (∀ x ∈ r, x.length ≤ B) → Lib.lens r ≤ r.length * B := by
   intro r
   induction r with
   | nil => intro _; exact Nat.zero_le _
   | cons y r ih =>
    intro hh
    have h1 := ih fun x hx => hh x (List.mem_cons_of_mem _ hx)
    have h2 := hh y (List.mem_cons_self ..)
    have e : Lib.lens (y :: r) = y.length + Lib.lens r := by simp [Lib.lens]
    rw [e, List.length_cons, Nat.add_mul]
    omega
  have := hl h
  rw [Lib.join_length, List.length_cons, Nat.mul_add, Nat.mul_one]
  rw [List.length_cons] at this
  simp only [List.length_cons, List.length_nil]
  omega
theorem bxj (L : List (List UInt8)) : (L.map ah4).map awy = L := by
 rw [List.map_map]
 exact List.map_id'' (fun l => bq6 l) _
theorem bml {w F : List UInt8} {who n a m o : Int} {i : Nat} : (ac4 w F who n a m o i).length ≤ F.length + 1 := by
 unfold ac4
 rw [List.length_cons, List.length_map, List.length_take]
 omega
theorem b45 {x : Int} (h : inR x = true) : (Lib.itoa x).length ≤ 20 := by
 unfold inR at h
 simp only [Bool.and_eq_true, decide_eq_true_eq] at h
 exact bo8 (by omega) (by omega)
theorem bth {w F : List UInt8} {who n a m o : Int} {i : Nat} (hw : w.length ≤ 6) (hb : (F.take i).all (fun c => inR (selV who n a m o c)) = true) : ∀ x ∈ ac4 w F who n a m o i, x.length ≤ 20 := by
 intro x hx
 rcases List.mem_cons.1 hx with rfl | hx
 ·omega
 ·obtain ⟨c, hc, rfl⟩ := List.mem_map.1 hx
  exact b45 (List.all_eq_true.1 hb c hc)
theorem bnu {k who n a m o : Int} {is : Bool} {b e : List (List CD)} (h : ¬ (ahi k is).isSome = true) : ajs k who n a m o is b e = ([], 2) := by
 unfold ajs
 cases hw : ahi k is with
 | none => rfl
 | some r => rw [hw] at h; exact absurd rfl h
theorem ap1 {k who n a m o : Int} {is : Bool} {b e : List (List CD)} (h : (ahi k is).isSome = true) : ajs k who n a m o is b e = if (fF k is).all (fun c => inR (selV who n a m o c)) = true then
   if acp k who n a m o is (fF k is) (rF k is) b e = true then ([], 2)
   else if 2200 < (Lib.join (ac4 (wF k is) (fF k is) who n a m o (fF k is).length ++ aee (rF k is) b e) [32]).length then ([], 3)
   else (Lib.join (ac4 (wF k is) (fF k is) who n a m o (fF k is).length ++ aee (rF k is) b e) [32], 0)
  else ([], 2) := by
 unfold ajs
 cases hw : ahi k is with
 | none => rw [hw] at h; cases h
 | some r =>
  have e1 : frow k is = r := by unfold frow; rw [hw]; rfl
  unfold fF wF rF
  rw [e1]
theorem b2m {k who n a m o : Int} {is : Bool} {b e : List (List CD)} (h : (ahi k is).isSome = true) (hn : ((fF k is).all fun c => inR (selV who n a m o c)) = false) : ajs k who n a m o is b e = ([], 2) := by
 rw [ap1 h, if_neg (by rw [hn]; decide)]
theorem byd {k who n a m o : Int} {is : Bool} {b e : List (List CD)} (h : (ahi k is).isSome = true) (hn : ((fF k is).all fun c => inR (selV who n a m o c)) = true) (hl : acp k who n a m o is (fF k is) (rF k is) b e = true) : ajs k who n a m o is b e = ([], 2) := by
 rw [ap1 h, if_pos hn, if_pos hl]
theorem bye {k who n a m o : Int} {is : Bool} {b e : List (List CD)} {L : List (List UInt8)} (h : (ahi k is).isSome = true) (hn : ((fF k is).all fun c => inR (selV who n a m o c)) = true) (hl : acp k who n a m o is (fF k is) (rF k is) b e = false) (hL : ac4 (wF k is) (fF k is) who n a m o (fF k is).length ++ aee (rF k is) b e = L) (hg : 2200 < (Lib.join L [32]).length) : ajs k who n a m o is b e = ([], 3) := by
 rw [ap1 h, if_pos hn, if_neg (by rw [hl]; decide), hL, if_pos hg]
theorem byf {k who n a m o : Int} {is : Bool} {b e : List (List CD)} {L : List (List UInt8)} (h : (ahi k is).isSome = true) (hn : ((fF k is).all fun c => inR (selV who n a m o c)) = true) (hl : acp k who n a m o is (fF k is) (rF k is) b e = false) (hL : ac4 (wF k is) (fF k is) who n a m o (fF k is).length ++ aee (rF k is) b e = L) (hg : ¬ 2200 < (Lib.join L [32]).length) : ajs k who n a m o is b e = (Lib.join L [32], 0) := by
 rw [ap1 h, if_pos hn, if_neg (by rw [hl]; decide), hL, if_neg hg]
theorem cac {c : CD} (h : Typ (.int .u8) c) : c = vInt .u8 c.iv := by
 obtain ⟨m, u, n, rfl, _⟩ := h
 rfl
theorem b83 {b : Bool} {r : List (List CD)} {n : Nat} (h : r.length ≤ n) (hn : n ≤ 2500) : ((CD.sl b r).len : Int) ≤ 2500 := by
 show ((clip r.length : Nat) : Int) ≤ 2500
 unfold clip
 omega
theorem bxr {l : List UInt8} (h : l.length ≤ 40000) : ((tx l).slen : Int) ≤ 40000 := by
 rw [ax2 (by unfold maxN; omega)]
 omega
theorem bmx {w F : List UInt8} {who n a m o : Int} {i : Nat} {r : List (List CD)} (hF : F.length ≤ 4) (hr : CD.sl (false && r.isEmpty) r = CD.sl false ((ac4 w F who n a m o i).map ah4)) (t : List (List CD)) (ht : t.length ≤ 1) : ((CD.sl (false && (r ++ t).isEmpty) (r ++ t)).len : Int) ≤ 2500 := by
 have hr : r = _ := (CD.sl.inj hr).2
 refine b83 (n := 6) ?_ (by decide)
 rw [List.length_append, hr, List.length_map]
 have := bml (w := w) (F := F) (who := who) (n := n) (a := a) (m := m) (o := o) (i := i)
 omega
theorem a9r {w F : List UInt8} {who n a m o : Int} {i : Nat} {r : List (List CD)} (hF : F.length ≤ 4) (hw : w.length ≤ 6) (hr : CD.sl (false && r.isEmpty) r = CD.sl false ((ac4 w F who n a m o i).map ah4)) (hb : (F.take i).all (fun c => inR (selV who n a m o c)) = true) (T : List (List UInt8)) (h1 : T.length ≤ 1) (h2 : ∀ x ∈ T, x.length ≤ 5000) : ((tx (Lib.join ((r ++ T.map ah4).map awy) (by' (CD.v (.string ⟨⟨[32]⟩⟩))))).slen : Int) ≤ 40000 := by
 have hr : r = _ := (CD.sl.inj hr).2
 refine bxr ?_
 rw [by_v, hr, ← List.map_append, bxj]
 have h3 := join_le (B := 5000) (L := ac4 w F who n a m o i ++ T) (fun x hx => by
  rcases List.mem_append.1 hx with hx | hx
  ·have := bth hw hb x hx; omega
  ·exact h2 x hx)
 have h4 := bml (w := w) (F := F) (who := who) (n := n) (a := a) (m := m) (o := o) (i := i)
 rw [List.length_append] at h3
 have h6 : ((ac4 w F who n a m o i).length + T.length) * (5000 + 1) ≤ 6 * 5001 := Nat.mul_le_mul (by omega) (by omega)
 have h7 : (Lib.join (ac4 w F who n a m o i ++ T) [32]).length ≤ 6 * 5001 := Nat.le_trans h3 h6
 show (Lib.join _ [32]).length ≤ 40000
 omega
section
variable {k who n a m o : Int} {is : Bool} {b e : List (List CD)} {R : Row5}
theorem b9f (hS : ¬ (ahi k is).isSome = true) : [[tx (ajs k who n a m o is b e).1], [vInt .i64 (ajs k who n a m o is b e).2]] = [[CD.v (.string ⟨⟨[]⟩⟩)], [vInt .i64 2]] := by
 rw [bnu hS]
 rfl
theorem aou {i : Int} (hR : frow k is = R) (hS : (ahi k is).isSome = true) (h0 : 0 ≤ i) (hi : i < (R.2.2.2.1.length : Int)) {x : Int} (hx : selV who n a m o (R.2.2.2.1.getD i.toNat 0) = x) (hb : inR x = false) : [[tx (ajs k who n a m o is b e).1], [vInt .i64 (ajs k who n a m o is b e).2]] = [[CD.v (.string ⟨⟨[]⟩⟩)], [vInt .i64 2]] := by
 rw [b2m hS (by unfold fF; rw [hR]; exact b0r h0 hi (by rw [hx]; exact hb))]
 rfl
theorem b1d {i : Int} (hR : frow k is = R) (hS : (ahi k is).isSome = true) (hn : ((R.2.2.2.1.take i.toNat).all fun c => inR (selV who n a m o c)) = true) (hi : ¬ i < (R.2.2.2.1.length : Int)) (hl : acp k who n a m o is R.2.2.2.1 R.2.2.2.2 b e = true) : [[tx (ajs k who n a m o is b e).1], [vInt .i64 (ajs k who n a m o is b e).2]] = [[CD.v (.string ⟨⟨[]⟩⟩)], [vInt .i64 2]] := by
 rw [a9v hi] at hn
 rw [byd hS (by unfold fF; rw [hR]; exact hn) (by unfold fF rF; rw [hR]; exact hl)]
 rfl
theorem byr {w F : List UInt8} {i : Int} (hi : ¬ i < (F.length : Int)) : ac4 w F who n a m o i.toNat = ac4 w F who n a m o F.length := by
 unfold ac4
 rw [a9v hi, List.take_length]
theorem join_eq {w F : List UInt8} {i : Int} {r : List (List CD)} (hr : CD.sl (false && r.isEmpty) r = CD.sl false ((ac4 w F who n a m o i.toNat).map ah4)) (hi : ¬ i < (F.length : Int)) (T : List (List UInt8)) : Lib.join ((r ++ T.map ah4).map awy) (by' (CD.v (.string ⟨⟨[32]⟩⟩))) = Lib.join (ac4 w F who n a m o F.length ++ T) [32] := by
 have hr : r = _ := (CD.sl.inj hr).2
 rw [by_v, hr, ← List.map_append, bxj, byr hi]
theorem bxq {l : List UInt8} : ((2200 : Int) < (tx l).slen) = (2200 < l.length) := by
 show ((2200 : Int) < ((clip l.length : Nat) : Int)) = _
 rw [eq_iff_iff]
 unfold clip maxN
 omega
theorem bbo {i : Int} (hR : frow k is = R) (hS : (ahi k is).isSome = true) (hn : ((R.2.2.2.1.take i.toNat).all fun c => inR (selV who n a m o c)) = true) (hi : ¬ i < (R.2.2.2.1.length : Int)) (hl : acp k who n a m o is R.2.2.2.1 R.2.2.2.2 b e = false) {T : List (List UInt8)} (hT : aee R.2.2.2.2 b e = T) (hg : (2200 : Int) < (tx (Lib.join (ac4 R.1 R.2.2.2.1 who n a m o R.2.2.2.1.length ++ T) [32])).slen) : [[tx (ajs k who n a m o is b e).1], [vInt .i64 (ajs k who n a m o is b e).2]] = [[CD.v (.string ⟨⟨[]⟩⟩)], [vInt .i64 3]] := by
 rw [a9v hi] at hn
 rw [bxq] at hg
 rw [bye hS (by unfold fF; rw [hR]; exact hn) (by unfold fF rF; rw [hR]; exact hl) (L := ac4 R.1 R.2.2.2.1 who n a m o R.2.2.2.1.length ++ T) (by unfold fF wF rF; rw [hR, hT]) hg]
 rfl
theorem b9g {i : Int} (hR : frow k is = R) (hS : (ahi k is).isSome = true) (hn : ((R.2.2.2.1.take i.toNat).all fun c => inR (selV who n a m o c)) = true) (hi : ¬ i < (R.2.2.2.1.length : Int)) (hl : acp k who n a m o is R.2.2.2.1 R.2.2.2.2 b e = false) {T : List (List UInt8)} (hT : aee R.2.2.2.2 b e = T) (hg : ¬ (2200 : Int) < (tx (Lib.join (ac4 R.1 R.2.2.2.1 who n a m o R.2.2.2.1.length ++ T) [32])).slen) : [[tx (ajs k who n a m o is b e).1], [vInt .i64 (ajs k who n a m o is b e).2]] = [[tx (Lib.join (ac4 R.1 R.2.2.2.1 who n a m o R.2.2.2.1.length ++ T) [32])], [vInt .i64 0]] := by
 rw [a9v hi] at hn
 rw [bxq] at hg
 rw [byf hS (by unfold fF; rw [hR]; exact hn) (by unfold fF rF; rw [hR]; exact hl) (L := ac4 R.1 R.2.2.2.1 who n a m o R.2.2.2.1.length ++ T) (by unfold fF wF rF; rw [hR, hT]) hg]
end
theorem bvn {ss : List Srt} {d : CD} (hT : Typ (.sl ss) d) : ((0 : Int) < (d.len : Int)) = (d.rows.isEmpty = false) := by
 rw [hT.sl.1, eq_iff_iff]
 cases d.rows with
 | nil => simp
 | cons _ _ => simp
theorem bqi {x : Int} {b e : List (List CD)} (h : x = 98) (hb : b.isEmpty = false) : aee x b e = [hexT b] := by
 unfold aee
 rw [if_pos h, if_neg (by cases b with | nil => cases hb | cons _ _ => simp)]
theorem bd9 {x : Int} {b e : List (List CD)} (h : x = 98) (hb : ¬ b.isEmpty = false) : aee x b e = [] := by
 unfold aee
 rw [if_pos h, if_pos (by cases b with | nil => rfl | cons _ _ => exact absurd rfl hb)]
theorem bqj {x : Int} {b e : List (List CD)} (h : x = 107) (hb : e.isEmpty = false) : aee x b e = [markT e] := by
 unfold aee
 rw [if_neg (by omega), if_pos h, if_neg (by cases e with | nil => cases hb | cons _ _ => simp)]
theorem bec {x : Int} {b e : List (List CD)} (h : x = 107) (hb : ¬ e.isEmpty = false) : aee x b e = [] := by
 unfold aee
 rw [if_neg (by omega), if_pos h, if_pos (by cases e with | nil => rfl | cons _ _ => exact absurd rfl hb)]
theorem bqk {x : Int} {b e : List (List CD)} (h : ¬ x = 98) (h' : ¬ x = 107) : aee x b e = [] := by
 unfold aee
 rw [if_neg h, if_neg h']
end Go.Proofs.YtamhchkknlbanaaDoor.Be
