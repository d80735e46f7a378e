/-
  What Text makes of a deed that Parse told. Conditions: none.
-/
import Derived.Test.YtamhchkknlbanaaDoorBtC
import Derived.Test.YtamhchkknlbanaaDoorBtW
import Derived.Test.YtamhchkknlbanaaDoorBeN
import Derived.Test.YtamhchkknlbanaaDoorBeI
set_option linter.unusedSectionVars false
set_option linter.unusedVariables false
set_option linter.unusedSimpArgs false
set_option linter.all false
namespace Go.Proofs.YtamhchkknlbanaaDoor.Be
open Go.Sx Go.Proofs
set_option maxHeartbeats 8000000 in
set_option maxRecDepth 100000 in
theorem b59 : ∀ o ∈ b1p, ∀ σ : Sg, σ.toUs = U → @Holds σ o.1 → ∃ q ∈ bto.outs, @Holds σ q.1 ∧ q.2.map (@denL σ) = o.2.map (@denL σ) := by
  intro o ho σ hU hh
  obtain ⟨v⟩ := σ
  cases hU
  simp only [b1p, List.mem_cons, List.not_mem_nil, or_false] at ho
  repeat' (first | (rcases ho with rfl | ho) | subst ho)
  all_goals
      refine ⟨_, List.mem_cons_self .., by simp only [aaw, aev], ?_⟩
      simp only [aey, afm, ae1, afl, afj, adk, b_lt, b_le, b_eq, ae0, ae6, ac7, ahh, adf, adw, afd, w_mk, ad5, agr, afn, agq, ae3, w_l0, w_l1, abl, abo, aev, aaw, aax, adb, acw, w_eq, ben, bet, beu, bew, bey, be0, be2, be6, bfc, bfe, a4c, bfi, bfj, mnX, mxX, a0p, abp, a0x, aki, agi, ahc, av6, af3, ai2, agh, af5, aic, alv, agu, adr, aek, ael, aif, ajv, ajy, aj2, aj3, aj4, aft, agv, agw, agx, agy, agz, ag0, ag2, ag3, af6, af7, ag4, amg, aci, aii, aik, afu, aes, amh, afw, au0, ag5, ai3, av4, av5, auy, auz, bcf, bch, aj6, aj7, aj8, akb, bcj, arn, au3, akc, au5, au6, bcl, bcn, bcp, bcy, au8, au9, ava, arp, aeo, bc4, aqf, aqg, aql, aoz, ae8, aqm, a6p, a6q, a6s, bbr, aua, aub, auc, bbs, arh, aud, aue, a0q, bbt, auf, ari, bby, aug, auh, arj, bbz, amb, amc, ame, als, adq, amf, aui, aul, a0t, bb4, aun, auo, a0w, bb5, ark, auq, arl, bb7, aus, aut, bb8, auu, auv, auw, bcb, ags, anz, bq6] at hh
      simp only [List.map_cons, List.map_nil, aey, afm, ae1, afl, afj, adk, b_lt, b_le, b_eq, ae0, ae6, ac7, ahh, adf, adw, afd, w_mk, ad5, agr, afn, agq, ae3, w_l0, w_l1, abl, abo, aev, aaw, aax, adb, acw, w_eq, ben, bet, beu, bew, bey, be0, be2, be6, bfc, bfe, a4c, bfi, bfj, mnX, mxX, ags, anz, bq6]
      have hD : ahn [v 0, v 1, v 2, v 3, v 4, v 5, v 6, v 7, v 8] = ajs (v 0).iv (v 1).iv (v 2).iv (v 3).iv (v 5).iv (v 6).iv (v 4).bv (v 7).rows (v 8).rows := rfl
      rw [a4e, a4g, hD]
      generalize hS : (ahi (v 0).iv (v 4).bv).isSome = S at hh
      first
      | (refine b9f ?_
         rw [hS]
         (simp only [hh, Bool.false_eq_true, not_false_eq_true]; done))
      | (have hS1 : S = true := by simp only [hh]
         rw [hS1] at hS
         have hs := bmy (v 0).iv (v 4).bv
         unfold fF at hs
         generalize hR : frow (v 0).iv (v 4).bv = R at hh hs ⊢
         have hb : (R.2.2.2.1.take (v 9).iv.toNat).all (fun c => inR (selV (v 1).iv (v 2).iv (v 3).iv (v 5).iv (v 6).iv c)) = true := by simp only [hh]
         have h0 : 0 ≤ (v 9).iv := by simp only [hh]
         first
         | (have hi : (v 9).iv < (R.2.2.2.1.length : Int) := by
              rw [← hs]
              (simp only [hh]; done)
            simp only [b3h h0 hi, amv] at hh
            first
            | (refine aou hR hS h0 hi (b2c ?_) (bo4 ?_) <;> (simp only [hh]; done))
            | (refine aou hR hS h0 hi (b2c ?_) (bo3 ?_) <;> (simp only [hh]; done))
            | (refine aou hR hS h0 hi (b2a ?_) (bo4 ?_) <;> (simp only [hh]; done))
            | (refine aou hR hS h0 hi (b2a ?_) (bo3 ?_) <;> (simp only [hh]; done))
            | (refine aou hR hS h0 hi (b1z ?_) (bo4 ?_) <;> (simp only [hh]; done))
            | (refine aou hR hS h0 hi (b1z ?_) (bo3 ?_) <;> (simp only [hh]; done))
            | (refine aou hR hS h0 hi (b2b ?_) (bo4 ?_) <;> (simp only [hh]; done))
            | (refine aou hR hS h0 hi (b2b ?_) (bo3 ?_) <;> (simp only [hh]; done)))
         | (have hi : ¬ (v 9).iv < (R.2.2.2.1.length : Int) := by
              rw [← hs]
              (simp only [hh, not_false_eq_true]; done)
            have hr : CD.sl (false && (v 16).rows.isEmpty) (v 16).rows = CD.sl false ((ac4 R.1 R.2.2.2.1 (v 1).iv (v 2).iv (v 3).iv (v 5).iv (v 6).iv (v 9).iv.toNat).map ah4) := by simp only [hh]
            have e10 : v 10 = vInt .i64 (leftV R.2.2.2.1 119 (v 1).iv) := by rw [← a9v hi]; simp only [hh]
            have e11 : v 11 = vInt .i64 (leftV R.2.2.2.1 110 (v 2).iv) := by rw [← a9v hi]; simp only [hh]
            have e12 : v 12 = vInt .i64 (leftV R.2.2.2.1 97 (v 3).iv) := by rw [← a9v hi]; simp only [hh]
            have e13 : v 13 = vInt .i64 (leftV R.2.2.2.1 111 (v 6).iv) := by rw [← a9v hi]; simp only [hh]
            have e14 : v 14 = vInt .u8 (leftV R.2.2.2.1 109 (v 5).iv) := by rw [← a9v hi]; simp only [hh]
            have hA0 : Typ sI (v 0) := by simp only [hh]
            have hY7 : Typ sYs (v 7) := by simp only [hh]
            have hY8 : Typ sOs (v 8) := by simp only [hh]
            have e0 : v 0 = vInt .i64 (v 0).iv := as3 hA0
            generalize (v 0).iv = k0 at *
            simp only [e0, e10, e11, e12, e13, e14, amv, bvn hY7, bvn hY8] at hh
            have hJ1 : Lib.join (List.map awy ((v 16).rows ++ ([] ++ [[tx (hexT (v 7).rows)]]))) (by' (CD.v (.string ⟨⟨[32]⟩⟩))) = Lib.join (ac4 R.1 R.2.2.2.1 (v 1).iv (v 2).iv (v 3).iv (v 5).iv (v 6).iv R.2.2.2.1.length ++ [hexT (v 7).rows]) [32] := join_eq hr hi [hexT (v 7).rows]
            have hJ2 : Lib.join (List.map awy ((v 16).rows ++ ([] ++ [[tx (markT (v 8).rows)]]))) (by' (CD.v (.string ⟨⟨[32]⟩⟩))) = Lib.join (ac4 R.1 R.2.2.2.1 (v 1).iv (v 2).iv (v 3).iv (v 5).iv (v 6).iv R.2.2.2.1.length ++ [markT (v 8).rows]) [32] := join_eq hr hi [markT (v 8).rows]
            have hJ3 : Lib.join (List.map awy (v 16).rows) (by' (CD.v (.string ⟨⟨[32]⟩⟩))) = Lib.join (ac4 R.1 R.2.2.2.1 (v 1).iv (v 2).iv (v 3).iv (v 5).iv (v 6).iv R.2.2.2.1.length ++ []) [32] := by
              have := join_eq hr hi []
              rwa [List.map_nil, List.append_nil] at this
            clear hr e0 e10 e11 e12 e13 e14 h0 hs hA0 hY7 hY8
            first
            | (refine b1d hR hS hb hi ?_
               unfold acp
               simp [hh]
               done)
            | (simp only [hJ1, hJ2, hJ3] at hh ⊢
               clear hJ1 hJ2 hJ3
               have hl : acp k0 (v 1).iv (v 2).iv (v 3).iv (v 5).iv (v 6).iv (v 4).bv R.2.2.2.1 R.2.2.2.2 (v 7).rows (v 8).rows = false := by
                 unfold acp
                 simp [hh]
               first
               | (refine b9g hR hS hb hi hl ?_ ?_
                  · first | (refine bqi ?_ ?_ <;> (simp only [hh, Bool.false_eq_true, Bool.true_eq_false, not_false_eq_true, reduceCtorEq]; done)) | (refine bd9 ?_ ?_ <;> (simp only [hh, Bool.false_eq_true, Bool.true_eq_false, not_false_eq_true, reduceCtorEq]; done)) | (refine bqj ?_ ?_ <;> (simp only [hh, Bool.false_eq_true, Bool.true_eq_false, not_false_eq_true, reduceCtorEq]; done)) | (refine bec ?_ ?_ <;> (simp only [hh, Bool.false_eq_true, Bool.true_eq_false, not_false_eq_true, reduceCtorEq]; done)) | (refine bqk ?_ ?_ <;> (simp only [hh, Bool.false_eq_true, Bool.true_eq_false, not_false_eq_true, reduceCtorEq]; done))
                  · (simp only [hh, not_false_eq_true]; done))
               | (refine bbo hR hS hb hi hl (T := [hexT (v 7).rows]) ?_ ?_
                  · first | (refine bqi ?_ ?_ <;> (simp only [hh, Bool.false_eq_true, Bool.true_eq_false, not_false_eq_true, reduceCtorEq]; done)) | (refine bd9 ?_ ?_ <;> (simp only [hh, Bool.false_eq_true, Bool.true_eq_false, not_false_eq_true, reduceCtorEq]; done)) | (refine bqj ?_ ?_ <;> (simp only [hh, Bool.false_eq_true, Bool.true_eq_false, not_false_eq_true, reduceCtorEq]; done)) | (refine bec ?_ ?_ <;> (simp only [hh, Bool.false_eq_true, Bool.true_eq_false, not_false_eq_true, reduceCtorEq]; done)) | (refine bqk ?_ ?_ <;> (simp only [hh, Bool.false_eq_true, Bool.true_eq_false, not_false_eq_true, reduceCtorEq]; done))
                  · (simp only [hh]; done))
               | (refine bbo hR hS hb hi hl (T := [markT (v 8).rows]) ?_ ?_
                  · first | (refine bqi ?_ ?_ <;> (simp only [hh, Bool.false_eq_true, Bool.true_eq_false, not_false_eq_true, reduceCtorEq]; done)) | (refine bd9 ?_ ?_ <;> (simp only [hh, Bool.false_eq_true, Bool.true_eq_false, not_false_eq_true, reduceCtorEq]; done)) | (refine bqj ?_ ?_ <;> (simp only [hh, Bool.false_eq_true, Bool.true_eq_false, not_false_eq_true, reduceCtorEq]; done)) | (refine bec ?_ ?_ <;> (simp only [hh, Bool.false_eq_true, Bool.true_eq_false, not_false_eq_true, reduceCtorEq]; done)) | (refine bqk ?_ ?_ <;> (simp only [hh, Bool.false_eq_true, Bool.true_eq_false, not_false_eq_true, reduceCtorEq]; done))
                  · (simp only [hh]; done))
               | (refine bbo hR hS hb hi hl (T := []) ?_ ?_
                  · first | (refine bqi ?_ ?_ <;> (simp only [hh, Bool.false_eq_true, Bool.true_eq_false, not_false_eq_true, reduceCtorEq]; done)) | (refine bd9 ?_ ?_ <;> (simp only [hh, Bool.false_eq_true, Bool.true_eq_false, not_false_eq_true, reduceCtorEq]; done)) | (refine bqj ?_ ?_ <;> (simp only [hh, Bool.false_eq_true, Bool.true_eq_false, not_false_eq_true, reduceCtorEq]; done)) | (refine bec ?_ ?_ <;> (simp only [hh, Bool.false_eq_true, Bool.true_eq_false, not_false_eq_true, reduceCtorEq]; done)) | (refine bqk ?_ ?_ <;> (simp only [hh, Bool.false_eq_true, Bool.true_eq_false, not_false_eq_true, reduceCtorEq]; done))
                  · (simp only [hh]; done)))))
set_option maxRecDepth 100000 in
theorem cbg : abd U Tryd.prog 12 bto := abd.of (P := Tryd.prog) (U := U) (T := (tab T12)) (f := 12) (fn := Tryd.f12) (fuel := 10) (fk := 20) (hs := hs12) (S := bto) (v := b1q) (outs := b1p) mixed hT12 at12 b9o b6a b59
end Go.Proofs.YtamhchkknlbanaaDoor.Be

namespace Go.Proofs.YtamhchkknlbanaaDoor.Be
open Go.Sx Go.Proofs
theorem bm3 (y : List UInt8) (r : List (List UInt8)) : Lib.joinTail [32] (y :: r) = 32 :: (y ++ Lib.joinTail [32] r) := by
 simp [Lib.joinTail]
theorem b35 (A : List (List UInt8)) (w : List UInt8) : stp (A, w) 32 = (A ++ [w], []) := by
 unfold stp
 rw [if_pos (by decide)]
theorem bxx : ∀ (r : List (List UInt8)) (A : List (List UInt8)) (w : List UInt8), (∀ x ∈ r, ∀ b ∈ x, b.toNat ≠ 32) → (Lib.joinTail [32] r ++ [32]).foldl stp (A, w) = (A ++ (w :: r), [])
 | [], A, w, _ => by
  show stp (A, w) 32 = _
  exact b35 A w
 | y :: r, A, w, h => by
  rw [bm3, List.cons_append, List.foldl_cons, b35, List.append_assoc, List.foldl_append, blz y _ _ (h y (List.mem_cons_self ..)), List.nil_append, bxx r _ _ fun x hx => h x (List.mem_cons_of_mem _ hx), List.append_assoc]
  rfl
theorem bxv {w : List UInt8} {r : List (List UInt8)} (h : ∀ x ∈ w :: r, ∀ b ∈ x, b.toNat ≠ 32) : st (Lib.join (w :: r) [32] ++ [32]) = (w :: r, []) := by
 unfold st
 rw [Lib.join_cons, List.append_assoc, List.foldl_append, blz w _ _ (h w (List.mem_cons_self ..)), List.nil_append, bxx r _ _ fun x hx => h x (List.mem_cons_of_mem _ hx)]
 rfl
theorem bpb (r : List (List UInt8)) (v : List UInt8) : Lib.joinTail [32] (r ++ [v]) = Lib.joinTail [32] r ++ 32 :: v := by
 simp [Lib.joinTail]
theorem bvi : ∀ (A : List (List UInt8)) (w v : List UInt8), Lib.join (A ++ [w] ++ [v]) [32] = Lib.join (A ++ [w]) [32] ++ 32 :: v
 | [], w, v => by
  show Lib.join (w :: ([] ++ [v])) [32] = Lib.join (w :: []) [32] ++ _
  rw [Lib.join_cons, Lib.join_cons, bpb, List.append_assoc]
 | x :: A, w, v => by
  show Lib.join (x :: (A ++ [w] ++ [v])) [32] = Lib.join (x :: (A ++ [w])) [32] ++ _
  rw [Lib.join_cons, Lib.join_cons, bpb, List.append_assoc]
theorem bvh : ∀ (A : List (List UInt8)) (w u : List UInt8), Lib.join (A ++ [w ++ u]) [32] = Lib.join (A ++ [w]) [32] ++ u
 | [], w, u => by
  show Lib.join ((w ++ u) :: []) [32] = Lib.join (w :: []) [32] ++ u
  rw [Lib.join_one, Lib.join_one]
 | x :: A, w, u => by
  show Lib.join (x :: (A ++ [w ++ u])) [32] = Lib.join (x :: (A ++ [w])) [32] ++ u
  rw [Lib.join_cons, Lib.join_cons, bpb, bpb, List.append_assoc]
  simp
theorem bh4 : ∀ (l : List UInt8) (s : List (List UInt8) × List UInt8), Lib.join ((l.foldl stp s).1 ++ [(l.foldl stp s).2]) [32] = Lib.join (s.1 ++ [s.2]) [32] ++ l
 | [], s => by simp
 | b :: l, s => by
  show Lib.join ((l.foldl stp (stp s b)).1 ++ [(l.foldl stp (stp s b)).2]) [32] = _
  rw [bh4 l (stp s b)]
  unfold stp
  split
  ·rename_i hb
   rw [bvi, List.append_assoc, b32.1 hb]
   rfl
  ·rw [bvh, List.append_assoc]
   rfl
theorem b46 (l : List UInt8) : Lib.join (st (l ++ [32])).1 [32] = l := by
 have h := bh4 l ([], [])
 have e : (st (l ++ [32])).1 = (st l).1 ++ [(st l).2] := by
  rw [b61]
  unfold stp
  rw [if_pos (by decide)]
 rw [e]
 show Lib.join ((l.foldl stp ([], [])).1 ++ [(l.foldl stp ([], [])).2]) [32] = l
 rw [h]
 rfl
def okX (w : List UInt8) : Bool := !w.isEmpty && w.all fun b => decide (33 ≤ b.toNat) && decide (b.toNat ≤ 126)
theorem b3x {w : List UInt8} (h : okX w = true) : ∀ b ∈ w, b.toNat ≠ 32 := by
 intro b hb
 unfold okX at h
 rw [Bool.and_eq_true, List.all_eq_true] at h
 have := h.2 b hb
 simp only [Bool.and_eq_true, decide_eq_true_eq] at this
 omega
theorem b81 : ∀ {r : List (List UInt8)}, (∀ x ∈ r, okX x = true) → (Lib.joinTail [32] r).all okB = true
 | [], _ => rfl
 | y :: r, h => by
  rw [bm3, List.all_cons, List.all_append, b81 fun x hx => h x (List.mem_cons_of_mem _ hx), Bool.and_true]
  have hy := h y (List.mem_cons_self ..)
  unfold okX at hy
  rw [Bool.and_eq_true, List.all_eq_true] at hy
  rw [Bool.and_eq_true]
  refine ⟨by decide, List.all_eq_true.2 fun b hb => ?_⟩
  unfold okB
  rw [hy.2 b hb, Bool.or_true]
theorem b1a {w : List UInt8} {r : List (List UInt8)} (h : ∀ x ∈ w :: r, okX x = true) : okW (Lib.join (w :: r) [32] ++ [32]) = true := by
 unfold okW
 rw [bxv fun x hx => b3x (h x hx), Bool.and_eq_true]
 constructor
 ·have h1 := b81 (r := [w] ++ r) (fun x hx => h x hx)
  rw [List.all_append, Bool.and_eq_true]
  refine ⟨?_, by decide⟩
  rw [Lib.join_cons, List.all_append]
  have e : Lib.joinTail [32] ([w] ++ r) = 32 :: (w ++ Lib.joinTail [32] r) := bm3 w r
  rw [e, List.all_cons, List.all_append, Bool.and_eq_true] at h1
  exact h1.2
 ·rw [List.all_eq_true]
  intro x hx
  have := h x hx
  unfold okX at this
  rw [Bool.and_eq_true] at this
  exact this.1
theorem bbn {x : Int} (h : inR x = true) : okX (Lib.itoa x) = true ∧ nOk (Lib.itoa x) = true ∧ numV (Lib.itoa x) = x := by
 unfold inR at h
 simp only [Bool.and_eq_true, decide_eq_true_eq] at h
 rw [bal h.1]
 have h1 := b3t (u := x.toNat) (by omega)
 refine ⟨?_, h1.1, ?_⟩
 ·unfold okX
  rw [Bool.and_eq_true, List.all_eq_true]
  constructor
  ·have := b3a x.toNat
   cases hd : Lib.decDigits x.toNat with
   | nil => rw [hd] at this; simp at this
   | cons _ _ => rfl
  ·intro b hb
   have := anh.1 (bmv _ b hb)
   rw [decide_eq_true (show 33 ≤ b.toNat by omega), decide_eq_true (show b.toNat ≤ 126 by omega)]
   rfl
 ·rw [ba4 h1.1, h1.2]
  omega
theorem b42 : ((List.range 16).all fun n => decide (48 ≤ (hexC n).toNat) && decide ((hexC n).toNat ≤ 102) && decide (digV ((hexC n).toNat : Int) = (n : Int))) = true := by decide
theorem atj {n : Nat} (h : n < 16) : 48 ≤ (hexC n).toNat ∧ (hexC n).toNat ≤ 102 ∧ digV ((hexC n).toNat : Int) = (n : Int) := by
 have := List.all_eq_true.1 b42 n (List.mem_range.2 h)
 simp only [Bool.and_eq_true, decide_eq_true_eq] at this
 exact ⟨this.1.1, this.1.2, this.2⟩
theorem aok (r : List CD) (b : List (List CD)) : hexT (r :: b) = hexC ((aa9 r).toNat / 16) :: hexC ((aa9 r).toNat % 16) :: hexT b := rfl
theorem boz : ∀ (b : List (List CD)), ((hexT b).all fun c => decide (33 ≤ c.toNat) && decide (c.toNat ≤ 126)) = true
 | [] => rfl
 | r :: b => by
  rw [aok, List.all_cons, List.all_cons, boz b]
  have h1 := atj (n := (aa9 r).toNat / 16) (by have := (aa9 r).toNat_lt; omega)
  have h2 := atj (n := (aa9 r).toNat % 16) (by omega)
  rw [decide_eq_true (show 33 ≤ (hexC ((aa9 r).toNat / 16)).toNat by omega), decide_eq_true (show (hexC ((aa9 r).toNat / 16)).toNat ≤ 126 by omega), decide_eq_true (show 33 ≤ (hexC ((aa9 r).toNat % 16)).toNat by omega), decide_eq_true (show (hexC ((aa9 r).toNat % 16)).toNat ≤ 126 by omega)]
  rfl
theorem b5s {b : List (List CD)} (h : b ≠ []) : okX (hexT b) = true := by
 unfold okX
 rw [boz, Bool.and_true]
 cases b with
 | nil => exact absurd rfl h
 | cons r b => rfl
theorem b1b {e : List (List CD)} (h : e ≠ []) : okX (markT e) = true := by
 unfold okX
 rw [Bool.and_eq_true]
 constructor
 ·cases e with
  | nil => exact absurd rfl h
  | cons r b => rfl
 ·rw [List.all_eq_true]
  intro c hc
  unfold markT at hc
  obtain ⟨r, _, rfl⟩ := List.mem_map.1 hc
  split <;> decide
theorem azh : ∀ (b : List (List CD)), hexB (hexT b) = true
 | [] => rfl
 | r :: b => by
  rw [aok]
  have h1 := atj (n := (aa9 r).toNat / 16) (by have := (aa9 r).toNat_lt; omega)
  have h2 := atj (n := (aa9 r).toNat % 16) (by omega)
  show (decide (0 ≤ digV (hexC ((aa9 r).toNat / 16)).toNat) && decide (0 ≤ digV (hexC ((aa9 r).toNat % 16)).toNat) && hexB (hexT b)) = true
  rw [azh b, decide_eq_true (by omega), decide_eq_true (by omega)]
  rfl
theorem bhv (b : List (List CD)) : (hexT b).length = 2 * b.length := by
 induction b with
 | nil => rfl
 | cons r b ih =>
  rw [aok]
  simp only [List.length_cons, ih]
  omega
theorem atl {b : List (List CD)} (h : b ≠ []) : ar7 (hexT b) = true := by
 unfold ar7
 rw [azh, bhv]
 have : 0 < b.length := List.length_pos_iff.2 h
 rw [decide_eq_true (show 0 < 2 * b.length by omega), decide_eq_true (show 2 * b.length % 2 = 0 by omega)]
 rfl
theorem bhi : ∀ (b : List (List CD)), (hexR (hexT b)).map aa9 = b.map aa9
 | [] => rfl
 | r :: b => by
  rw [aok]
  have h1 := atj (n := (aa9 r).toNat / 16) (by have := (aa9 r).toNat_lt; omega)
  have h2 := atj (n := (aa9 r).toNat % 16) (by omega)
  show aa9 [vInt .u8 (baj (hexC ((aa9 r).toNat / 16)) (hexC ((aa9 r).toNat % 16)))] :: (hexR (hexT b)).map aa9 = aa9 r :: b.map aa9
  rw [bhi b]
  congr 1
  unfold baj
  rw [h1.2.2, h2.2.2]
  show UInt8.ofNat (16 * (((aa9 r).toNat / 16 : Nat) : Int) + (((aa9 r).toNat % 16 : Nat) : Int)).toNat = aa9 r
  have e : (16 * (((aa9 r).toNat / 16 : Nat) : Int) + (((aa9 r).toNat % 16 : Nat) : Int)).toNat = (aa9 r).toNat := by omega
  rw [e]
  simp
theorem ba1 (b : List (List CD)) : (mkz b).rows = b := rfl
theorem aq3 : ∀ (e : List (List CD)), ad3 (markT e) = true
 | [] => rfl
 | r :: e => by
  have : ad3 (markT (r :: e)) = (bhx (if (r.getD 0 default).bv = true then 49 else 48) && ad3 (markT e)) := rfl
  rw [this, aq3 e, Bool.and_true]
  split <;> decide
theorem as8 {e : List (List CD)} (h : e ≠ []) : awp (markT e) = true := by
 unfold awp
 rw [aq3]
 have : 0 < e.length := List.length_pos_iff.2 h
 have e1 : (markT e).length = e.length := by unfold markT; rw [List.length_map]
 rw [e1, decide_eq_true this]
 rfl
theorem a4n : ∀ (e : List (List CD)), (ap6 (markT e)).map ae9 = e.map ae9
 | [] => rfl
 | r :: e => by
  show ae9 (bob (if (r.getD 0 default).bv = true then 49 else 48)) :: (ap6 (markT e)).map ae9 = ae9 r :: e.map ae9
  rw [a4n e]
  congr 1
  unfold ae9
  cases hb : (r.getD 0 default).bv <;> rfl
theorem bzh : ((List.range 256).all fun n => decide (digV (n : Int) < 0) || decide ((hexC (digV (n : Int)).toNat).toNat = n)) = true := by kernel_rfl
theorem bow {c : UInt8} (h : 0 ≤ digV (c.toNat : Int)) : hexC (digV (c.toNat : Int)).toNat = c := by
 have := List.all_eq_true.1 bzh c.toNat (List.mem_range.2 c.toNat_lt)
 rw [Bool.or_eq_true, decide_eq_true_eq, decide_eq_true_eq] at this
 rcases this with h1 | h1
 ·omega
 ·exact UInt8.toNat_inj.1 h1
theorem bhm : ∀ (n : Nat) (l : List UInt8), l.length ≤ n → hexB l = true → l.length % 2 = 0 → hexT (hexR l) = l
 | _, [], _, _, _ => rfl
 | _, [_], _, _, h => by simp at h
 | n + 1, a :: b :: l, hn, hb, hl => by
  have hb : (decide (0 ≤ digV a.toNat) && decide (0 ≤ digV b.toNat) && hexB l) = true := hb
  simp only [Bool.and_eq_true, decide_eq_true_eq] at hb
  obtain ⟨⟨ha, hb'⟩, hr⟩ := hb
  have ih := bhm n l (by simp only [List.length_cons] at hn; omega) hr (by simp only [List.length_cons] at hl; omega)
  show hexT ([vInt .u8 (baj a b)] :: hexR l) = _
  rw [aok, ih]
  have h1 := bzg (x := (a.toNat : Int))
  have h2 := bzg (x := (b.toNat : Int))
  have e : (aa9 [vInt .u8 (baj a b)]).toNat = 16 * (digV a.toNat).toNat + (digV b.toNat).toNat := by
   show (UInt8.ofNat (baj a b).toNat).toNat = _
   unfold baj
   rw [UInt8.toNat_ofNat']
   omega
  rw [e, show (16 * (digV a.toNat).toNat + (digV b.toNat).toNat) / 16 = (digV a.toNat).toNat by omega, show (16 * (digV a.toNat).toNat + (digV b.toNat).toNat) % 16 = (digV b.toNat).toNat by omega, bow ha, bow hb']
 | 0, _ :: _ :: _, h, _, _ => by simp at h
theorem bi7 : ∀ (l : List UInt8), ad3 l = true → markT (ap6 l) = l
 | [], _ => rfl
 | b :: l, h => by
  have h : (bhx b && ad3 l) = true := h
  rw [Bool.and_eq_true] at h
  show (if (aak (decide (b.toNat = 49))).bv = true then 49 else 48) :: markT (ap6 l) = b :: l
  rw [bi7 l h.2]
  congr 1
  have h1 := h.1
  unfold bhx at h1
  rw [Bool.or_eq_true, decide_eq_true_eq, decide_eq_true_eq] at h1
  rcases h1 with h1 | h1
  ·rw [if_neg (by show ¬ (decide (b.toNat = 49)) = true; rw [decide_eq_true_eq]; omega)]
   exact UInt8.toNat_inj.1 h1.symm
  ·rw [if_pos (by show (decide (b.toNat = 49)) = true; rw [decide_eq_true_eq]; exact h1)]
   exact UInt8.toNat_inj.1 h1.symm
end Go.Proofs.YtamhchkknlbanaaDoor.Be

namespace Go.Proofs.YtamhchkknlbanaaDoor.Be
open Go.Sx Go.Proofs
theorem b69 {x : Int} {b e : List (List CD)} : ∀ y ∈ aee x b e, okX y = true := by
 intro y hy
 unfold aee at hy
 split at hy
 ·split at hy
  ·cases hy
  ·rename_i hb
   rw [List.mem_singleton.1 hy]
   exact b5s hb
 ·split at hy
  ·split at hy
   ·cases hy
   ·rename_i hb
    rw [List.mem_singleton.1 hy]
    exact b1b hb
  ·cases hy
theorem b4z {k : Int} {is : Bool} (h : (ahi k is).isSome = true) : ∃ i, i < 15 ∧ frow k is = fr i ∧ fits k is (fr i) = true := by
 rcases bov k is with h1 | ⟨i, hi, h1, h2⟩
 ·unfold frow at h1
  cases hw : ahi k is with
  | none => rw [hw] at h; cases h
  | some r =>
   rw [hw] at h1
   have h1 : r = ([], 0, false, [], 0) := h1
   have := List.mem_of_find?_eq_some hw
   rw [h1] at this
   exact absurd this (by decide)
 ·exact ⟨i, hi, h1, List.find?_some h2⟩
theorem b8n {i : Nat} (hi : i < 15) : okX (fr i).1 = true := by
 exact by8 (p := fun r => okX r.1) (by decide) hi
theorem bzv {i : Nat} (hi : i < 15) : ah5 (fr i).1 = some ((fr i).1, (fr i).2.1, ((fr i).2.2.2.1.length : Int), if (fr i).2.2.2.2 = 98 then 1 else if (fr i).2.2.2.2 = 107 then 2 else 0) := by
 have := by8 (p := fun r => decide (ah5 r.1 = some (r.1, r.2.1, (r.2.2.2.1.length : Int), if r.2.2.2.2 = 98 then 1 else if r.2.2.2.2 = 107 then 2 else 0))) (by decide) hi
 exact of_decide_eq_true this
theorem cae {l : List UInt8} (h : l.length ≤ maxN) : Typ .str (tx l) := ⟨fun _ _ => False, _, ⟨l.toArray⟩, rfl, rfl, h⟩
theorem brv {i : Nat} (hi : i < 15) {L : List (List UInt8)} (hL : ∀ x ∈ (fr i).1 :: L, okX x = true) (hl : ¬ 2200 < (Lib.join ((fr i).1 :: L) [32]).length) : aai (tx (Lib.join ((fr i).1 :: L) [32])) = ab6 ((fr i).1 :: L) (fr i).2.1 ((fr i).2.2.2.1.length : Int) (if (fr i).2.2.2.2 = 98 then 1 else if (fr i).2.2.2.2 = 107 then 2 else 0) ((fr i).1 == [99, 117, 116]) := by
 have e1 : line (tx (Lib.join ((fr i).1 :: L) [32])) = Lib.join ((fr i).1 :: L) [32] ++ [32] := by
  unfold line
  rw [bq6]
 have hw : wds (tx (Lib.join ((fr i).1 :: L) [32])) = (fr i).1 :: L := by
  unfold wds
  rw [e1, bxv fun x hx => b3x (hL x hx)]
 have hs : ((tx (Lib.join ((fr i).1 :: L) [32])).slen : Int) = _ := ax2 (l := Lib.join ((fr i).1 :: L) [32]) (by unfold maxN; omega)
 have := akf (d := tx (Lib.join ((fr i).1 :: L) [32])) (by rw [hs]; omega) (cae (by unfold maxN; omega)) (by rw [e1]; exact b1a hL) (by rw [hw]; rfl) (bzv hi)
 rw [this, hw]
theorem b5j {x : Int} (h : inR x = true) : nOk (Lib.itoa x) = true := (bbn h).2.1
theorem bv3 {x : Int} (h : inR x = true) : numV (Lib.itoa x) = x := (bbn h).2.2
theorem bz5 {b : List (List CD)} : (mkz (hexV (hexT b))).rows.map aa9 = b.map aa9 := by
 rw [ba1]
 unfold hexV
 rw [if_pos (azh b), bhi]
theorem bt0 {e : List (List CD)} : (mkz (an8 (markT e))).rows.map ae9 = e.map ae9 := by
 rw [ba1]
 unfold an8
 rw [if_pos (aq3 e), a4n]
def b9z (k who n a m o : Int) (is : Bool) (b e : List (List CD)) (l : List CD) : Prop := ∃ b' e', l = [vInt .i64 k, vInt .i64 who, vInt .i64 n, vInt .i64 a, aak is, vInt .u8 m, vInt .i64 o, b', e', vInt .i64 0] ∧ b'.rows.map aa9 = b.map aa9 ∧ e'.rows.map ae9 = e.map ae9
theorem b6u {k who n a m o : Int} {is : Bool} {b e : List (List CD)} (hm : m ≤ 255) {R : Row5} (hk : R.2.1 = k) (his : k = 7 → R.2.2.1 = is)
    (hall : R.2.2.2.1.all (fun c => inR (selV who n a m o c)) = true) (hleft : acp k who n a m o is R.2.2.2.1 R.2.2.2.2 b e = false) (hR : R ∈ frm) :
    b9z k who n a m o is b e (ab6 (R.1 :: (R.2.2.2.1.map (numW who n a m o) ++ aee R.2.2.2.2 b e)) R.2.1 (R.2.2.2.1.length : Int) (if R.2.2.2.2 = 98 then 1 else if R.2.2.2.2 = 107 then 2 else 0) (R.1 == [99, 117, 116])) := by
  subst hk
  unfold frm at hR
  simp only [List.mem_cons, List.not_mem_nil, or_false] at hR
  rcases hR with rfl | rfl | rfl | rfl | rfl | rfl | rfl | rfl | rfl | rfl | rfl | rfl | rfl | rfl | rfl
  all_goals
    simp [acp, leftV, hasC] at hleft
    simp [selV] at hall
  all_goals
    have hm' : ¬ 255 < m := by omega
    by_cases hb : b = []
    all_goals
      by_cases he : e = []
      all_goals
        first
        | (exact absurd (by simp only [hleft]) hb)
        | (exact absurd (by simp only [hleft]) he)
        | (refine ⟨CD.sl true [], CD.sl true [], ?_, ?_, ?_⟩
           · simp [ab6, aee, hb, he, numW, selV, nOks, gw, nV, an0, b5j, bv3, hall, hm', atl, as8, hleft]
             try exact congrArg aak (his rfl)
             done
           · (rw [hb]; rfl)
           · (rw [he]; rfl))
        | (refine ⟨mkz (hexV (hexT b)), CD.sl true [], ?_, ?_, ?_⟩
           · simp [ab6, aee, hb, he, numW, selV, nOks, gw, nV, an0, b5j, bv3, hall, hm', atl, as8, hleft]
             try exact congrArg aak (his rfl)
             done
           · exact bz5
           · (rw [he]; rfl))
        | (refine ⟨CD.sl true [], mkz (an8 (markT e)), ?_, ?_, ?_⟩
           · simp [ab6, aee, hb, he, numW, selV, nOks, gw, nV, an0, b5j, bv3, hall, hm', atl, as8, hleft]
             try exact congrArg aak (his rfl)
             done
           · (rw [hb]; rfl)
           · exact bt0)
theorem ca0 {k who n a m o : Int} {is : Bool} {b e : List (List CD)} {s : List UInt8} (hm : m ≤ 255) (h : ajs k who n a m o is b e = (s, 0)) : s.length ≤ 2200 ∧ b9z k who n a m o is b e (aai (tx s)) := by
 by_cases hS : (ahi k is).isSome = true
 ·obtain ⟨i, hi, hR, hf⟩ := b4z hS
  rw [ap1 hS] at h
  unfold fF wF rF at h
  rw [hR] at h
  split at h
  ·rename_i hall
   split at h
   ·cases h
   ·rename_i hleft
    split at h
    ·cases h
    ·rename_i hlen
     cases h
     have e1 : ac4 (fr i).1 (fr i).2.2.2.1 who n a m o (fr i).2.2.2.1.length ++ aee (fr i).2.2.2.2 b e = (fr i).1 :: ((fr i).2.2.2.1.map (numW who n a m o) ++ aee (fr i).2.2.2.2 b e) := by
      unfold ac4
      rw [List.take_length]
      rfl
     rw [e1] at hlen ⊢
     refine ⟨by omega, ?_⟩
     rw [brv hi (fun x hx => ?_) hlen]
     ·unfold fits at hf
      rw [Bool.and_eq_true, decide_eq_true_eq] at hf
      refine b6u hm hf.1 (fun h7 => ?_) hall (by simpa using hleft) ?_
      ·have := hf.2
       rw [h7] at this
       simpa using this
      ·unfold fr
       rw [List.getD_eq_getElem?_getD, List.getElem?_eq_getElem (show i < frm.length from hi)]
       exact List.getElem_mem _
     ·rcases List.mem_cons.1 hx with rfl | hx
      ·exact b8n hi
      ·rcases List.mem_append.1 hx with hx | hx
       ·obtain ⟨c, hc, rfl⟩ := List.mem_map.1 hx
        exact (bbn (List.all_eq_true.1 hall c hc)).1
       ·exact b69 x hx
  ·cases h
 ·rw [bnu hS] at h
  cases h
end Go.Proofs.YtamhchkknlbanaaDoor.Be

namespace Go.Proofs.YtamhchkknlbanaaDoor.Be
open Go.Sx Go.Proofs
abbrev nilS : CD := .sl true []
theorem aod {e : Int} (he : e ≠ 0) (h : (alb e).getD 9 default = vInt .i64 0) : False := by
 have h : vInt .i64 e = vInt .i64 0 := h
 rw [ax6] at h
 exact he h
theorem K_ok {W : List (List UInt8)} {k m r : Int} {is : Bool} (h : (ab6 W k m r is).getD 9 default = vInt .i64 0) :
  ((W.length : Int) = m + 1 ∧ nOks W m.toNat = true ∧ ¬ (k = 13 ∧ 255 < nV W 4) ∧ ab6 W k m r is = an0 k (nV W) is nilS nilS) ∨
  ((W.length : Int) = m + 2 ∧ r ≠ 0 ∧ nOks W m.toNat = true ∧ ((r = 1 ∧ ar7 (gw W (m.toNat + 1)) = true ∧ ab6 W k m r is = an0 k (nV W) is (mkz (hexV (gw W (m.toNat + 1)))) nilS) ∨ (r ≠ 1 ∧ awp (gw W (m.toNat + 1)) = true ∧ ab6 W k m r is = an0 k (nV W) is nilS (mkz (an8 (gw W (m.toNat + 1))))))) := by
 unfold ab6 at h ⊢
 by_cases h1 : (W.length : Int) = m + 1
 ·rw [if_pos h1] at h ⊢
  by_cases h2 : nOks W m.toNat = true ∧ ¬ (k = 13 ∧ 255 < nV W 4)
  ·rw [if_pos h2]
   exact .inl ⟨h1, h2.1, h2.2, rfl⟩
  ·rw [if_neg h2] at h
   exact (aod (by decide) h).elim
 ·rw [if_neg h1] at h ⊢
  by_cases h2 : r ≠ 0 ∧ (W.length : Int) = m + 2
  ·rw [if_pos h2] at h ⊢
   by_cases h3 : nOks W m.toNat = true
   ·rw [if_pos h3] at h ⊢
    refine .inr ⟨h2.2, h2.1, h3, ?_⟩
    by_cases h4 : r = 1
    ·rw [if_pos h4] at h ⊢
     by_cases h5 : ar7 (gw W (m.toNat + 1)) = true
     ·rw [if_pos h5]
      exact .inl ⟨h4, h5, rfl⟩
     ·rw [if_neg h5] at h
      exact (aod (by decide) h).elim
    ·rw [if_neg h4] at h ⊢
     by_cases h5 : awp (gw W (m.toNat + 1)) = true
     ·rw [if_pos h5]
      exact .inr ⟨h4, h5, rfl⟩
     ·rw [if_neg h5] at h
      exact (aod (by decide) h).elim
   ·rw [if_neg h3] at h
    exact (aod (by decide) h).elim
  ·rw [if_neg h2] at h
   exact (aod (by decide) h).elim
theorem len2 {W : List (List UInt8)} (h : W.length = 2) : W = [gw W 0, gw W 1] := by
 match W, h with
 | [a, b], _ => rfl
theorem len3 {W : List (List UInt8)} (h : W.length = 3) : W = [gw W 0, gw W 1, gw W 2] := by
 match W, h with
 | [a, b, c], _ => rfl
theorem len4 {W : List (List UInt8)} (h : W.length = 4) : W = [gw W 0, gw W 1, gw W 2, gw W 3] := by
 match W, h with
 | [a, b, c, d], _ => rfl
theorem len5 {W : List (List UInt8)} (h : W.length = 5) : W = [gw W 0, gw W 1, gw W 2, gw W 3, gw W 4] := by
 match W, h with
 | [a, b, c, d, e], _ => rfl
theorem aez {l : List UInt8} (h : nOk l = true) : Lib.itoa (numV l) = l := by
 rw [ba4 h]
 exact (axw h).2.1
theorem aiq {l : List UInt8} (h : nOk l = true) : inR (numV l) = true := by
 rw [ba4 h]
 have := axw h
 exact bm2 (by omega) (by omega)
theorem bhl {l : List UInt8} (h : ar7 l = true) : hexT (mkz (hexV l)).rows = l ∧ (mkz (hexV l)).rows ≠ [] := by
 unfold ar7 at h
 simp only [Bool.and_eq_true, decide_eq_true_eq] at h
 rw [ba1]
 unfold hexV
 rw [if_pos h.1, bhm l.length l (Nat.le_refl _) h.1 h.2.2]
 refine ⟨rfl, ?_⟩
 match l, h with
 | [a], h => have := h.2.2; simp at this
 | a :: b :: l, _ => exact List.cons_ne_nil _ _
theorem a5o {l : List UInt8} (h : awp l = true) : markT (mkz (an8 l)).rows = l ∧ (mkz (an8 l)).rows ≠ [] := by
 unfold awp at h
 simp only [Bool.and_eq_true, decide_eq_true_eq] at h
 rw [ba1]
 unfold an8
 rw [if_pos h.1, bi7 l h.1]
 refine ⟨rfl, ?_⟩
 match l, h with
 | a :: l, _ => exact List.cons_ne_nil _ _
theorem agn {k who n a m o : Int} {is : Bool} {b e : List (List CD)} {r : Row5} {L : List (List UInt8)} (h : ahi k is = some r) (hall : r.2.2.2.1.all (fun c => inR (selV who n a m o c)) = true) (hl : acp k who n a m o is r.2.2.2.1 r.2.2.2.2 b e = false)
  (hL : r.1 :: (r.2.2.2.1.map (numW who n a m o) ++ aee r.2.2.2.2 b e) = L) (hg : ¬ 2200 < (Lib.join L [32]).length) : ajs k who n a m o is b e = (Lib.join L [32], 0) := by
 have hS : (ahi k is).isSome = true := by rw [h]; rfl
 have hR : frow k is = r := by unfold frow; rw [h]; rfl
 refine byf hS (by unfold fF; rw [hR]; exact hall) (by unfold fF rF; rw [hR]; exact hl) ?_ hg
 unfold fF wF rF
 rw [hR, ← hL]
 unfold ac4
 rw [List.take_length]
 rfl
theorem b7d {W : List (List UInt8)} {r : List UInt8 × Int × Int × Int} (hR : r ∈ bzw) (hw : gw W 0 = r.1) (hg : ¬ 2200 < (Lib.join W [32]).length) (h0 : (ab6 W r.2.1 r.2.2.1 r.2.2.2 (r.1 == [99, 117, 116])).getD 9 default = vInt .i64 0) :
  ahn (ab6 W r.2.1 r.2.2.1 r.2.2.2 (r.1 == [99, 117, 116])) = (Lib.join W [32], 0) := by
 have hK := K_ok h0
 clear h0
 unfold bzw at hR
 simp only [List.mem_cons, List.not_mem_nil, or_false] at hR
 rcases hR with rfl | rfl | rfl | rfl | rfl | rfl | rfl | rfl | rfl | rfl | rfl | rfl | rfl | rfl | rfl
 all_goals simp [nOks] at hK hw
 ·obtain ⟨hl, h1, he⟩ := hK
  ·have hW := len2 (W := W) (by omega)
   refine (congrArg ahn he).trans ?_
   refine agn (k := 1) (who := 0) (n := nV W 1) (a := 0) (m := 0) (o := 0) (is := false) (b := []) (e := []) (r := ([116, 105, 99, 107], 1, false, [110], 0)) rfl ?_ ?_ ?_ hg
   ·simp [selV, nV, aiq h1]
   ·simp [acp, leftV, hasC]
   ·simp [aee, numW, selV, nV, aez h1]
    rw [← hw]
    exact hW.symm
 ·obtain ⟨hl, h1, he⟩ := hK
  ·have hW := len2 (W := W) (by omega)
   refine (congrArg ahn he).trans ?_
   refine agn (k := 2) (who := 0) (n := nV W 1) (a := 0) (m := 0) (o := 0) (is := false) (b := []) (e := []) (r := ([116, 97, 107, 101], 2, false, [110], 0)) rfl ?_ ?_ ?_ hg
   ·simp [selV, nV, aiq h1]
   ·simp [acp, leftV, hasC]
   ·simp [aee, numW, selV, nV, aez h1]
    rw [← hw]
    exact hW.symm
 ·obtain ⟨hl, h1, he⟩ := hK
  ·have hW := len2 (W := W) (by omega)
   refine (congrArg ahn he).trans ?_
   refine agn (k := 14) (who := 0) (n := nV W 1) (a := 0) (m := 0) (o := 0) (is := false) (b := []) (e := []) (r := ([102, 108, 111, 119], 14, false, [110], 0)) rfl ?_ ?_ ?_ hg
   ·simp [selV, nV, aiq h1]
   ·simp [acp, leftV, hasC]
   ·simp [aee, numW, selV, nV, aez h1]
    rw [← hw]
    exact hW.symm
 ·obtain ⟨hl, h1, he⟩ := hK
  ·have hW := len2 (W := W) (by omega)
   refine (congrArg ahn he).trans ?_
   refine agn (k := 3) (who := 0) (n := nV W 1) (a := 0) (m := 0) (o := 0) (is := false) (b := []) (e := []) (r := ([97, 116], 3, false, [110], 0)) rfl ?_ ?_ ?_ hg
   ·simp [selV, nV, aiq h1]
   ·simp [acp, leftV, hasC]
   ·simp [aee, numW, selV, nV, aez h1]
    rw [← hw]
    exact hW.symm
 ·obtain ⟨hl, h1, he⟩ := hK
  ·have hW := len2 (W := W) (by omega)
   refine (congrArg ahn he).trans ?_
   refine agn (k := 4) (who := 0) (n := nV W 1) (a := 0) (m := 0) (o := 0) (is := false) (b := []) (e := []) (r := ([100, 114, 111, 112], 4, false, [110], 0)) rfl ?_ ?_ ?_ hg
   ·simp [selV, nV, aiq h1]
   ·simp [acp, leftV, hasC]
   ·simp [aee, numW, selV, nV, aez h1]
    rw [← hw]
    exact hW.symm
 ·obtain ⟨hl, h1, he⟩ := hK
  ·have hW := len2 (W := W) (by omega)
   refine (congrArg ahn he).trans ?_
   refine agn (k := 5) (who := 0) (n := nV W 1) (a := 0) (m := 0) (o := 0) (is := false) (b := []) (e := []) (r := ([100, 111, 117, 98, 108, 101], 5, false, [110], 0)) rfl ?_ ?_ ?_ hg
   ·simp [selV, nV, aiq h1]
   ·simp [acp, leftV, hasC]
   ·simp [aee, numW, selV, nV, aez h1]
    rw [← hw]
    exact hW.symm
 ·obtain ⟨hl, ⟨h1, h2⟩, he⟩ := hK
  ·have hW := len3 (W := W) (by omega)
   refine (congrArg ahn he).trans ?_
   refine agn (k := 6) (who := 0) (n := nV W 1) (a := nV W 2) (m := 0) (o := 0) (is := false) (b := []) (e := []) (r := ([109, 111, 118, 101], 6, false, [110, 97], 0)) rfl ?_ ?_ ?_ hg
   ·simp [selV, nV, aiq h1, aiq h2]
   ·simp [acp, leftV, hasC]
   ·simp [aee, numW, selV, nV, aez h1, aez h2]
    rw [← hw]
    exact hW.symm
 ·obtain ⟨hl, ⟨h1, h2⟩, he⟩ := hK
  ·have hW := len3 (W := W) (by omega)
   refine (congrArg ahn he).trans ?_
   refine agn (k := 7) (who := nV W 1) (n := 0) (a := nV W 2) (m := 0) (o := 0) (is := true) (b := []) (e := []) (r := ([99, 117, 116], 7, true, [119, 97], 0)) rfl ?_ ?_ ?_ hg
   ·simp [selV, nV, aiq h1, aiq h2]
   ·simp [acp, leftV, hasC]
   ·simp [aee, numW, selV, nV, aez h1, aez h2]
    rw [← hw]
    exact hW.symm
 ·obtain ⟨hl, ⟨h1, h2⟩, he⟩ := hK
  ·have hW := len3 (W := W) (by omega)
   refine (congrArg ahn he).trans ?_
   refine agn (k := 7) (who := nV W 1) (n := 0) (a := nV W 2) (m := 0) (o := 0) (is := false) (b := []) (e := []) (r := ([106, 111, 105, 110], 7, false, [119, 97], 0)) rfl ?_ ?_ ?_ hg
   ·simp [selV, nV, aiq h1, aiq h2]
   ·simp [acp, leftV, hasC]
   ·simp [aee, numW, selV, nV, aez h1, aez h2]
    rw [← hw]
    exact hW.symm
 ·rcases hK with ⟨hl, ⟨h1, h2⟩, he⟩ | ⟨hl, ⟨h1, h2⟩, ht, he⟩
  ·have hW := len3 (W := W) (by omega)
   refine (congrArg ahn he).trans ?_
   refine agn (k := 8) (who := nV W 1) (n := 0) (a := 0) (m := 0) (o := nV W 2) (is := false) (b := []) (e := []) (r := ([97, 115, 107], 8, false, [119, 111], 98)) rfl ?_ ?_ ?_ hg
   ·simp [selV, nV, aiq h1, aiq h2]
   ·simp [acp, leftV, hasC]
   ·simp [aee, numW, selV, nV, aez h1, aez h2]
    rw [← hw]
    exact hW.symm
  ·have hW := len4 (W := W) (by omega)
   refine (congrArg ahn he).trans ?_
   refine agn (k := 8) (who := nV W 1) (n := 0) (a := 0) (m := 0) (o := nV W 2) (is := false) (b := (mkz (hexV (gw W 3))).rows) (e := []) (r := ([97, 115, 107], 8, false, [119, 111], 98)) rfl ?_ ?_ ?_ hg
   ·simp [selV, nV, aiq h1, aiq h2]
   ·simp [acp, leftV, hasC]
   ·have ht1 := (bhl ht).1
    have ht2 := (bhl ht).2
    simp only [aee, ht1, if_neg ht2, numW, selV, nV]
    simp [numW, selV, aez h1, aez h2]
    rw [← hw]
    exact hW.symm
 ·obtain ⟨hl, h1, he⟩ := hK
  ·have hW := len2 (W := W) (by omega)
   refine (congrArg ahn he).trans ?_
   refine agn (k := 9) (who := nV W 1) (n := 0) (a := 0) (m := 0) (o := 0) (is := false) (b := []) (e := []) (r := ([97, 103, 97, 105, 110], 9, false, [119], 0)) rfl ?_ ?_ ?_ hg
   ·simp [selV, nV, aiq h1]
   ·simp [acp, leftV, hasC]
   ·simp [aee, numW, selV, nV, aez h1]
    rw [← hw]
    exact hW.symm
 ·obtain ⟨hl, h1, he⟩ := hK
  ·have hW := len2 (W := W) (by omega)
   refine (congrArg ahn he).trans ?_
   refine agn (k := 11) (who := nV W 1) (n := 0) (a := 0) (m := 0) (o := 0) (is := false) (b := []) (e := []) (r := ([114, 101, 111, 112, 101, 110], 11, false, [119], 0)) rfl ?_ ?_ ?_ hg
   ·simp [selV, nV, aiq h1]
   ·simp [acp, leftV, hasC]
   ·simp [aee, numW, selV, nV, aez h1]
    rw [← hw]
    exact hW.symm
 ·rcases hK with ⟨hl, ⟨h1, h2⟩, he⟩ | ⟨hl, ⟨h1, h2⟩, ht, he⟩
  ·have hW := len3 (W := W) (by omega)
   refine (congrArg ahn he).trans ?_
   refine agn (k := 10) (who := nV W 1) (n := nV W 2) (a := 0) (m := 0) (o := 0) (is := false) (b := []) (e := []) (r := ([99, 114, 97, 115, 104], 10, false, [119, 110], 107)) rfl ?_ ?_ ?_ hg
   ·simp [selV, nV, aiq h1, aiq h2]
   ·simp [acp, leftV, hasC]
   ·simp [aee, numW, selV, nV, aez h1, aez h2]
    rw [← hw]
    exact hW.symm
  ·have hW := len4 (W := W) (by omega)
   refine (congrArg ahn he).trans ?_
   refine agn (k := 10) (who := nV W 1) (n := nV W 2) (a := 0) (m := 0) (o := 0) (is := false) (b := []) (e := (mkz (an8 (gw W 3))).rows) (r := ([99, 114, 97, 115, 104], 10, false, [119, 110], 107)) rfl ?_ ?_ ?_ hg
   ·simp [selV, nV, aiq h1, aiq h2]
   ·simp [acp, leftV, hasC]
   ·have ht1 := (a5o ht).1
    have ht2 := (a5o ht).2
    simp only [aee, ht1, if_neg ht2, numW, selV, nV]
    simp [numW, selV, aez h1, aez h2]
    rw [← hw]
    exact hW.symm
 ·obtain ⟨hl, ⟨h1, h2⟩, he⟩ := hK
  ·have hW := len3 (W := W) (by omega)
   refine (congrArg ahn he).trans ?_
   refine agn (k := 12) (who := nV W 1) (n := nV W 2) (a := 0) (m := 0) (o := 0) (is := false) (b := []) (e := []) (r := ([102, 117, 115, 101], 12, false, [119, 110], 0)) rfl ?_ ?_ ?_ hg
   ·simp [selV, nV, aiq h1, aiq h2]
   ·simp [acp, leftV, hasC]
   ·simp [aee, numW, selV, nV, aez h1, aez h2]
    rw [← hw]
    exact hW.symm
 ·obtain ⟨hl, ⟨⟨⟨h1, h2⟩, h3⟩, h4⟩, h255, he⟩ := hK
  ·have hW := len5 (W := W) (by omega)
   refine (congrArg ahn he).trans ?_
   refine agn (k := 13) (who := nV W 1) (n := nV W 2) (a := nV W 3) (m := nV W 4) (o := 0) (is := false) (b := []) (e := []) (r := ([116, 117, 114, 110], 13, false, [119, 110, 97, 109], 0)) rfl ?_ ?_ ?_ hg
   ·simp [selV, nV, aiq h1, aiq h2, aiq h3, aiq h4]
   ·simp [acp, leftV, hasC]
   ·simp [aee, numW, selV, nV, aez h1, aez h2, aez h3, aez h4]
    rw [← hw]
    exact hW.symm
theorem b49 {d : CD} (h0 : (aai d).getD 9 default = vInt .i64 0) : ahn (aai d) = (by' d, 0) ∧ (by' d).length ≤ 2200 := by
 unfold aai at h0 ⊢
 split at h0
 ·exact (aod (by decide) h0).elim
 ·rename_i hlen
  split at h0
  ·rename_i hk
   rw [if_neg hlen, if_pos hk]
   have hj : Lib.join (st (line d)).1 [32] = by' d := b46 (by' d)
   generalize (st (line d)).1 = W at hj h0 ⊢
   unfold a6f at h0 ⊢
   cases hf : ah5 (gw W 0) with
   | none =>
    rw [hf] at h0
    exact (aod (by decide) h0).elim
   | some r =>
    rw [hf] at h0
    obtain ⟨w, k, m, q⟩ := r
    have hR := List.mem_of_find?_eq_some hf
    have hw := List.find?_some hf
    have hw : w = gw W 0 := by simpa using hw
    have := b7d (W := W) (r := (w, k, m, q)) hR hw.symm (by rw [hj]; exact hlen) h0
    rw [hj] at this
    exact ⟨this, by omega⟩
  ·exact (aod (by decide) h0).elim
theorem agf (d : CD) : ∃ (k who n a m o x : Int) (is : Bool) (b e : CD), aai d = [vInt .i64 k, vInt .i64 who, vInt .i64 n, vInt .i64 a, aak is, vInt .u8 m, vInt .i64 o, b, e, vInt .i64 x] := by
 have hf : ∀ x : Int, ∃ (k who n a m o x' : Int) (is : Bool) (b e : CD), alb x = [vInt .i64 k, vInt .i64 who, vInt .i64 n, vInt .i64 a, aak is, vInt .u8 m, vInt .i64 o, b, e, vInt .i64 x'] := fun x => ⟨0, 0, 0, 0, 0, 0, x, false, _, _, rfl⟩
 have hd : ∀ (k : Int) (v : Nat → Int) (is : Bool) (b e : CD), ∃ (k' who n a m o x' : Int) (is' : Bool) (b' e' : CD), an0 k v is b e = [vInt .i64 k', vInt .i64 who, vInt .i64 n, vInt .i64 a, aak is', vInt .u8 m, vInt .i64 o, b', e', vInt .i64 x'] := by
  intro k v is b e
  unfold an0
  repeat' split
  all_goals exact ⟨_, _, _, _, _, _, _, _, _, _, rfl⟩
 unfold aai
 split
 ·exact hf 3
 ·split
  ·unfold a6f
   split
   ·exact hf 6
   ·unfold ab6
    repeat' split
    all_goals first | exact hf 2 | exact hd _ _ _ _ _
  ·exact hf 4
theorem bpa : ∀ {L : List (List UInt8)} {x : List UInt8}, x ∈ L → x.length ≤ (Lib.join L [32]).length
 | w :: r, x, h => by
  rw [Lib.join_length]
  have : ∀ {L : List (List UInt8)}, x ∈ L → x.length ≤ Lib.lens L := by
   intro L
   induction L with
   | nil => intro h; cases h
   | cons y L ih =>
    intro h
    have e : Lib.lens (y :: L) = y.length + Lib.lens L := by simp [Lib.lens]
    rw [e]
    rcases List.mem_cons.1 h with rfl | h
    ·omega
    ·have := ih h; omega
  have := this h
  omega
theorem bsg {k who n a m o : Int} {is : Bool} {b e : List (List CD)} {s : List UInt8} (h : ajs k who n a m o is b e = (s, 0)) : b.length ≤ s.length ∧ e.length ≤ s.length := by
 by_cases hS : (ahi k is).isSome = true
 ·rw [ap1 hS] at h
  generalize hr : rF k is = rest at h
  split at h
  ·split at h
   ·cases h
   ·rename_i hleft
    split at h
    ·cases h
    ·cases h
     have hb : rest ≠ 98 → b = [] := by
      intro hne
      unfold acp at hleft
      cases b with
      | nil => rfl
      | cons x y => exact absurd (by simp [hne]) hleft
     have he : rest ≠ 107 → e = [] := by
      intro hne
      unfold acp at hleft
      cases e with
      | nil => rfl
      | cons x y => exact absurd (by simp [hne]) hleft
     by_cases h98 : rest = 98
     ·have he := he (by omega)
      subst he
      refine ⟨?_, Nat.zero_le _⟩
      by_cases hb0 : b = []
      ·rw [hb0]; exact Nat.zero_le _
      ·have hm : hexT b ∈ ac4 (wF k is) (fF k is) who n a m o (fF k is).length ++ aee rest b [] := by
        refine List.mem_append_right _ ?_
        unfold aee
        rw [if_pos h98, if_neg hb0]
        exact List.mem_singleton.2 rfl
       have := bpa hm
       rw [bhv] at this
       omega
     ·have hb := hb h98
      subst hb
      refine ⟨Nat.zero_le _, ?_⟩
      by_cases h107 : rest = 107
      ·by_cases he0 : e = []
       ·rw [he0]; exact Nat.zero_le _
       ·have hm : markT e ∈ ac4 (wF k is) (fF k is) who n a m o (fF k is).length ++ aee rest [] e := by
         refine List.mem_append_right _ ?_
         unfold aee
         rw [if_neg h98, if_pos h107, if_neg he0]
         exact List.mem_singleton.2 rfl
        have := bpa hm
        have e1 : (markT e).length = e.length := by unfold markT; rw [List.length_map]
        omega
      ·rw [he h107]; exact Nat.zero_le _
  ·cases h
 ·rw [bnu hS] at h
  cases h
theorem a6g {d : CD} (h0 : (aai d).getD 9 default = vInt .i64 0) : (((aai d).getD 7 default).len : Int) ≤ 2500 ∧ (((aai d).getD 8 default).len : Int) ≤ 2500 := by
 obtain ⟨h1, h2⟩ := b49 h0
 have h3 := bsg (show ajs _ _ _ _ _ _ _ ((aai d).getD 7 default).rows ((aai d).getD 8 default).rows = (by' d, 0) from h1)
 have hl : ∀ c : CD, c.rows.length ≤ 2200 → (c.len : Int) ≤ 2500 := by
  intro c hc
  unfold CD.len clip
  omega
 exact ⟨hl _ (by omega), hl _ (by omega)⟩
theorem a2l {c : CD} (hc : ∃ z, c = vInt .i64 z) (h1 : -9223372036854775808 ≤ c.iv) (h2 : c.iv ≤ 9223372036854775807) : Typ sI c := by
 obtain ⟨z, rfl⟩ := hc
 refine ⟨fun _ _ => False, _, z, rfl, rfl, ?_⟩
 have e1 : IntKind.i64.min = -9223372036854775808 := by decide
 have e2 : IntKind.i64.max = 9223372036854775807 := by decide
 simp only [ab9, Bool.and_eq_true, decide_eq_true_eq]
 rw [e1, e2]
 exact ⟨h1, h2⟩
theorem caf {c : CD} (hc : ∃ z, c = vInt .u8 z) (h1 : 0 ≤ c.iv) (h2 : c.iv ≤ 255) : Typ (.int .u8) c := by
 obtain ⟨z, rfl⟩ := hc
 refine ⟨fun _ _ => False, _, z, rfl, rfl, ?_⟩
 have e1 : IntKind.u8.min = 0 := by decide
 have e2 : IntKind.u8.max = 255 := by decide
 simp only [ab9, Bool.and_eq_true, decide_eq_true_eq]
 rw [e1, e2]
 exact ⟨h1, h2⟩
theorem cad {c : CD} (hc : ∃ z, c = aak z) : Typ .bool c := by
 obtain ⟨z, rfl⟩ := hc
 exact ⟨fun _ _ => False, _, z, rfl, rfl⟩
theorem pv_0 (d : CD) : ∃ z, (aai d).getD 0 default = vInt .i64 z := by obtain ⟨k, who, n, a, m, o, x, is, b, e, h⟩ := agf d; rw [h]; exact ⟨_, rfl⟩
theorem pv_1 (d : CD) : ∃ z, (aai d).getD 1 default = vInt .i64 z := by obtain ⟨k, who, n, a, m, o, x, is, b, e, h⟩ := agf d; rw [h]; exact ⟨_, rfl⟩
theorem pv_2 (d : CD) : ∃ z, (aai d).getD 2 default = vInt .i64 z := by obtain ⟨k, who, n, a, m, o, x, is, b, e, h⟩ := agf d; rw [h]; exact ⟨_, rfl⟩
theorem pv_3 (d : CD) : ∃ z, (aai d).getD 3 default = vInt .i64 z := by obtain ⟨k, who, n, a, m, o, x, is, b, e, h⟩ := agf d; rw [h]; exact ⟨_, rfl⟩
theorem pv_4 (d : CD) : ∃ z, (aai d).getD 4 default = aak z := by obtain ⟨k, who, n, a, m, o, x, is, b, e, h⟩ := agf d; rw [h]; exact ⟨_, rfl⟩
theorem pv_5 (d : CD) : ∃ z, (aai d).getD 5 default = vInt .u8 z := by obtain ⟨k, who, n, a, m, o, x, is, b, e, h⟩ := agf d; rw [h]; exact ⟨_, rfl⟩
theorem pv_6 (d : CD) : ∃ z, (aai d).getD 6 default = vInt .i64 z := by obtain ⟨k, who, n, a, m, o, x, is, b, e, h⟩ := agf d; rw [h]; exact ⟨_, rfl⟩
theorem pv_9 {d : CD} (h : eqC ((aai d).getD 9 default) (vInt .i64 0) = true) : (aai d).getD 9 default = vInt .i64 0 := by
 obtain ⟨k, who, n, a, m, o, x, is, b, e, hp⟩ := agf d
 rw [hp] at h ⊢
 have h : eqC (vInt .i64 x) (vInt .i64 0) = true := h
 rw [amv] at h
 rw [h]
 rfl
theorem back_eq {d : CD} (hT : Typ .str d) (h : eqC ((aai d).getD 9 default) (vInt .i64 0) = true) : eqC (tx (ahn [(aai d).getD 0 default, (aai d).getD 1 default, (aai d).getD 2 default, (aai d).getD 3 default, (aai d).getD 4 default, (aai d).getD 5 default, (aai d).getD 6 default, (aai d).getD 7 default, (aai d).getD 8 default]).1) d = true := by
 have h1 := (b49 (pv_9 h)).1
 have e : ahn [(aai d).getD 0 default, (aai d).getD 1 default, (aai d).getD 2 default, (aai d).getD 3 default, (aai d).getD 4 default, (aai d).getD 5 default, (aai d).getD 6 default, (aai d).getD 7 default, (aai d).getD 8 default] = ahn (aai d) := rfl
 rw [e, h1]
 obtain ⟨s, rfl, hs⟩ := bqg hT
 rw [by_v]
 exact a4v.mpr rfl
theorem b4g {d : CD} (h : eqC ((aai d).getD 9 default) (vInt .i64 0) = true) : eqC (vInt .i64 (ahn [(aai d).getD 0 default, (aai d).getD 1 default, (aai d).getD 2 default, (aai d).getD 3 default, (aai d).getD 4 default, (aai d).getD 5 default, (aai d).getD 6 default, (aai d).getD 7 default, (aai d).getD 8 default]).2) (vInt .i64 0) = true := by
 have h1 := (b49 (pv_9 h)).1
 have e : ahn [(aai d).getD 0 default, (aai d).getD 1 default, (aai d).getD 2 default, (aai d).getD 3 default, (aai d).getD 4 default, (aai d).getD 5 default, (aai d).getD 6 default, (aai d).getD 7 default, (aai d).getD 8 default] = ahn (aai d) := rfl
 rw [e, h1]
 exact amv.mpr rfl
end Go.Proofs.YtamhchkknlbanaaDoor.Be
