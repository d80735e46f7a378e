/-
  Contracts of a seat's functions: what a line says, by the reference. Conditions: none.
-/
import Derived.Test.YtamhchkknlbanaaDoorBeI
import Derived.Test.YtamhchkknlbanaaDoorBeN
set_option linter.unusedSectionVars false
set_option linter.unusedVariables false
set_option linter.unusedSimpArgs false
namespace Go.Proofs.YtamhchkknlbanaaDoor.Be
open Go.Sx Go.Proofs
noncomputable def bze : OraV := fun t args H => match t, args with
 | .f g, [.one c, .one (.lit (.func (.func k) a b))] => match Nat.beq g 41 && (Nat.beq k 42 && (Nat.beq a.size 0 && Nat.beq b.size 0)), toS .str c with
  | true, some (e, _) => some ([], [(.one (.sv .bool [] (.ap (.usr 254) [e])), H)])
  | _, _ => none
 | _, _ => none
set_option maxRecDepth 100000 in
theorem bzf : ah6 U Tryd.prog bze := by
 intro t args H v outs h _
 unfold bze at h
 split at h
 rotate_left
 ·cases h
 rename_i g c k a b
 split at h
 rotate_left
 ·cases h
 rename_i e G hb hs
 cases h
 simp only [Bool.and_eq_true] at hb
 obtain ⟨q1, q2, q3, q4⟩ := hb
 have q1 := Nat.eq_of_beq_eq_true q1
 have q2 := Nat.eq_of_beq_eq_true q2
 have q3 : a = #[] := Array.eq_empty_of_size_eq_zero (Nat.eq_of_beq_eq_true q3)
 have q4 : b = #[] := Array.eq_empty_of_size_eq_zero (Nat.eq_of_beq_eq_true q4)
 subst q1 q2 q3 q4
 refine ⟨fun o ho => ?_, fun σ hU ρ w us s' hs' hus hH hd hj => ?_⟩
 ·rw [List.mem_singleton.1 ho]
  exact @Sc.refl (@Sg.mk U fun _ => default) H
 ·have hs' : s' = callFunc 41 us := hs'
  subst hs'
  obtain ⟨u1, u2, hus', k1, k2⟩ : ∃ u1 u2, us = #[u1, u2] ∧ @CRel σ ρ c u1 ∧ u2 = .func (.func 42) #[] #[] := by
   match hl : us.toList, hus with
   | [u1, u2], ⟨h1, h2, _⟩ => exact ⟨u1, u2, by rw [← Array.toList_inj, hl], h1, h2.1⟩
  subst hus'
  subst k2
  obtain ⟨_, hr⟩ := @a8w σ ρ _ _ _ _ _ hs k1
  obtain ⟨s, e1, rfl, h3⟩ := hr
  rw [Tryd.call41]
  show Calls Tryd.prog 41 #[.string s, .func (.func 42) #[] #[]] w _
  refine (a3k s w).mono ?_
  rintro e' w' ⟨rfl, hb⟩
  have hsim := Sim.still (@Sim.refl σ _ _ _ hH hd) hb.block hb.size hb.os hb.tape hb.output hd fun b L ⟨i, c, hc⟩ hL => (@HRel.rel σ _ _ _ hH b i c L hc hL).lt
  refine ⟨_, rfl, _, List.mem_singleton.2 rfl, σ, Ext.refl _ _, ρ, ⟨fun g hg => (by cases hg), ?_⟩, @Sim.f σ _ _ _ _ _ _ hsim, @Sim.rel σ _ _ _ _ _ _ hsim⟩
  show @RS _ .bool (@Us.u σ.toUs 254 [@den σ e]) _
  rw [hU, e1, beo, by_v]
  exact ⟨_, rfl, rfl⟩
theorem b94 {b : UInt8} (hb : b.toNat ≠ 32) : ∀ (l : List UInt8) (s : List (List UInt8) × List UInt8), (b ∈ l ∨ b ∈ s.2 ∨ ∃ w ∈ s.1, b ∈ w) → b ∈ (l.foldl stp s).2 ∨ ∃ w ∈ (l.foldl stp s).1, b ∈ w
 | [], s, h => by
  rcases h with h | h
  ·cases h
  ·exact h
 | c :: l, s, h => by
  refine b94 hb l (stp s c) ?_
  unfold stp
  rcases h with h | h | ⟨w, h1, h2⟩
  ·rcases List.mem_cons.1 h with rfl | h
   ·rw [if_neg hb]
    exact .inr (.inl (by simp))
   ·exact .inl h
  ·split
   ·exact .inr (.inr ⟨s.2, by simp, h⟩)
   ·exact .inr (.inl (List.mem_append_left _ h))
  ·split
   ·exact .inr (.inr ⟨w, List.mem_append_left _ h1, h2⟩)
   ·exact .inr (.inr ⟨w, h1, h2⟩)
theorem b95 {b : UInt8} : ∀ (l : List UInt8) (s : List (List UInt8) × List UInt8), (b ∈ (l.foldl stp s).2 ∨ ∃ w ∈ (l.foldl stp s).1, b ∈ w) → (b ∈ l ∧ b.toNat ≠ 32) ∨ b ∈ s.2 ∨ ∃ w ∈ s.1, b ∈ w
 | [], s, h => .inr h
 | c :: l, s, h => by
  rcases b95 l (stp s c) h with h | h
  ·exact .inl ⟨List.mem_cons_of_mem _ h.1, h.2⟩
  ·unfold stp at h
   split at h
   ·rcases h with h | ⟨w, h1, h2⟩
    ·cases h
    ·rcases List.mem_append.1 h1 with h1 | h1
     ·exact .inr (.inr ⟨w, h1, h2⟩)
     ·rw [List.mem_singleton.1 h1] at h2
      exact .inr (.inl h2)
   ·rename_i hc
    rcases h with h | h
    ·rcases List.mem_append.1 h with h | h
     ·exact .inr (.inl h)
     ·rw [List.mem_singleton.1 h]
      exact .inl ⟨List.mem_cons_self .., hc⟩
    ·exact .inr (.inr h)
theorem ca9 {l : List UInt8} {w : List UInt8} {b : UInt8} (hw : w ∈ (st l).1) (hb : b ∈ w) : b ∈ l ∧ b.toNat ≠ 32 := by
 rcases b95 l ([], []) (.inr ⟨w, hw, hb⟩) with h | h | ⟨w, h1, _⟩
 ·exact h
 ·cases h
 ·cases h1
theorem bwn {b : UInt8} (h : badB b = true) (hn : b.toNat ≠ 32) : okB b = false := by
 unfold badB at h
 rw [Bool.or_eq_true, decide_eq_true_eq, decide_eq_true_eq] at h
 unfold okB
 rw [decide_eq_false hn, Bool.false_or, Bool.and_eq_false_iff, decide_eq_false_iff_not, decide_eq_false_iff_not]
 omega
theorem bpu {l : List UInt8} {b : UInt8} (hb : b ∈ l) (h : okB b = false) : okW l = false := by
 unfold okW
 rw [Bool.and_eq_false_iff]
 left
 rw [List.all_eq_false]
 exact ⟨b, hb, by rw [h]; simp⟩
theorem aew {d : CD} (i : Int) : by' ((CD.sl false (acj (line d))).cell i 0) = gw (wds d) i.toNat := bxi i
theorem bkg {d : CD} (hT : Typ (.sl [.str]) (CD.sl false (acj (line d)))) : ((CD.sl false (acj (line d))).len : Int) = (wds d).length := by
 rw [hT.sl.1]
 show (((wds d).map ah4).length : Int) = _
 rw [List.length_map]
theorem bu6 {W : List (List UInt8)} {i : Nat} (h : i < W.length) : gw W i ∈ W := by
 unfold gw
 rw [List.getD_eq_getElem?_getD, List.getElem?_eq_getElem h]
 exact List.getElem_mem h
theorem g_0 {W : List (List UInt8)} : (W.take (Int.toNat 0)).all a3p = true := rfl
theorem g_n {d : CD} {i : Int} (hg : ((st (line d)).1.take i.toNat).all a3p = true) (h1 : ¬ eqC ((CD.sl false (acj (line d))).cell i 0) (.v (.string ⟨⟨[]⟩⟩)) = true) (h2 : ¬ (by' ((CD.sl false (acj (line d))).cell i 0)).any badB = true) (h0 : 0 ≤ i) (hi : i < ((CD.sl false (acj (line d))).len : Int)) (hT : Typ (.sl [.str]) (CD.sl false (acj (line d)))) : ((st (line d)).1.take (i + 1).toNat).all a3p = true := by
 have hc : Typ .str ((CD.sl false (acj (line d))).cell i 0) := hT.cell h0 hi rfl
 rw [bus hc, aew] at h1
 rw [aew] at h2
 rw [bkg hT] at hi
 have hlt : i.toNat < (wds d).length := by omega
 rw [show (i + 1).toNat = i.toNat + 1 by omega, List.take_add_one, List.all_append, hg]
 have e : (st (line d)).1[i.toNat]? = some (gw (wds d) i.toNat) := by
  unfold gw
  rw [List.getD_eq_getElem?_getD, List.getElem?_eq_getElem hlt]
  exact List.getElem?_eq_getElem hlt
 rw [e]
 have : a3p (gw (wds d) i.toNat) = true := by
  unfold a3p
  rw [Bool.and_eq_true, Bool.not_eq_true', Bool.not_eq_true']
  refine ⟨?_, by simpa using h2⟩
  cases hh : gw (wds d) i.toNat with
  | nil => exact absurd hh h1
  | cons a r => rfl
 simp [this]
theorem b_1 {d : CD} {i : Int} (h1 : eqC ((CD.sl false (acj (line d))).cell i 0) (.v (.string ⟨⟨[]⟩⟩)) = true) (h0 : 0 ≤ i) (hi : i < ((CD.sl false (acj (line d))).len : Int)) (hT : Typ (.sl [.str]) (CD.sl false (acj (line d)))) : ¬ okW (line d) = true := by
 have hc : Typ .str ((CD.sl false (acj (line d))).cell i 0) := hT.cell h0 hi rfl
 rw [bus hc, aew] at h1
 rw [bkg hT] at hi
 intro hk
 unfold okW at hk
 rw [Bool.and_eq_true] at hk
 have := List.all_eq_true.1 hk.2 _ (bu6 (W := wds d) (i := i.toNat) (by omega))
 rw [h1] at this
 cases this
theorem b_2 {d : CD} {i : Int} (h2 : (by' ((CD.sl false (acj (line d))).cell i 0)).any badB = true) (h0 : 0 ≤ i) (hi : i < ((CD.sl false (acj (line d))).len : Int)) (hT : Typ (.sl [.str]) (CD.sl false (acj (line d)))) : ¬ okW (line d) = true := by
 rw [aew] at h2
 rw [bkg hT] at hi
 rw [List.any_eq_true] at h2
 obtain ⟨b, hb, hbad⟩ := h2
 obtain ⟨g1, g2⟩ := ca9 (l := line d) (bu6 (W := wds d) (i := i.toNat) (by omega)) hb
 rw [bpu g1 (bwn hbad g2)]
 simp
theorem b_3 {d : CD} {i : Int} (h : 126 < byAt d i) (h0 : 0 ≤ i) (hi : i < d.slen) (hT : Typ .str d) : ¬ okW (line d) = true := by
 rw [ag7 hT] at hi
 have hlt : i.toNat < (by' d).length := by omega
 unfold byAt at h
 have hm : (by' d).getD i.toNat 0 ∈ line d := by
  unfold line
  refine List.mem_append_left _ ?_
  rw [List.getD_eq_getElem?_getD, List.getElem?_eq_getElem hlt]
  exact List.getElem_mem hlt
 have hb : okB ((by' d).getD i.toNat 0) = false := by
  refine bwn ?_ (by omega)
  unfold badB
  rw [decide_eq_true (show 126 < ((by' d).getD i.toNat 0).toNat by omega)]
  simp
 rw [bpu hm hb]
 simp
theorem n_0 {l : List UInt8} : (l.take (Int.toNat 0)).all (fun b => decide (b.toNat ≤ 126)) = true := rfl
theorem n_n {d : CD} {i : Int} (hg : ((by' d).take i.toNat).all (fun b => decide (b.toNat ≤ 126)) = true) (h : ¬ 126 < byAt d i) (h0 : 0 ≤ i) (hi : i < d.slen) (hT : Typ .str d) : ((by' d).take (i + 1).toNat).all (fun b => decide (b.toNat ≤ 126)) = true := by
 unfold byAt at h
 rw [bef h0 hi hT, List.all_append, hg, List.all_cons, List.all_nil, decide_eq_true (show ((by' d).getD i.toNat 0).toNat ≤ 126 by omega)]
 rfl
theorem cax {d : CD} {i j : Int} (hg : ((st (line d)).1.take i.toNat).all a3p = true) (hi : ¬ i < ((CD.sl false (acj (line d))).len : Int)) (hn : ((by' d).take j.toNat).all (fun b => decide (b.toNat ≤ 126)) = true) (hj : ¬ j < d.slen) (hT : Typ (.sl [.str]) (CD.sl false (acj (line d)))) (hTd : Typ .str d) : okW (line d) = true := by
 rw [bkg hT] at hi
 have e1 : (st (line d)).1.take i.toNat = (st (line d)).1 := List.take_of_length_le (by unfold wds at hi; omega)
 rw [e1, List.all_eq_true] at hg
 rw [bql hj hTd, List.all_eq_true] at hn
 unfold okW
 rw [Bool.and_eq_true, List.all_eq_true, List.all_eq_true]
 refine ⟨fun b hb => ?_, fun w hw => ?_⟩
 ·by_cases h32 : b.toNat = 32
  ·unfold okB
   rw [decide_eq_true h32]
   simp
  ·rcases b94 h32 (line d) ([], []) (.inl hb) with h | ⟨w, h1, h2⟩
   ·exfalso
    unfold line at h
    rw [List.foldl_append] at h
    have : (stp ((by' d).foldl stp ([], [])) 32).2 = [] := by
     unfold stp
     rw [if_pos (by decide)]
    rw [show ([32] : List UInt8).foldl stp ((by' d).foldl stp ([], [])) = stp ((by' d).foldl stp ([], [])) 32 from rfl, this] at h
    cases h
   ·have := hg w h1
    unfold a3p at this
    rw [Bool.and_eq_true, Bool.not_eq_true', Bool.not_eq_true', List.any_eq_false] at this
    have hb' := this.2 b h2
    unfold badB at hb'
    rw [Bool.or_eq_true, decide_eq_true_eq, decide_eq_true_eq] at hb'
    unfold okB
    simp only [Bool.or_eq_true, Bool.and_eq_true, decide_eq_true_eq]
    exact .inr ⟨by omega, by omega⟩
 ·have := hg w hw
  unfold a3p at this
  rw [Bool.and_eq_true] at this
  exact this.1
noncomputable def T17 : List (FuncId × Fsp) := [(40, b25)]
set_option maxRecDepth 100000 in
theorem hT17 : awn U Tryd.prog T17 := .cons cbr .nil
abbrev spX : X := .lit (.string ⟨⟨[32]⟩⟩)
noncomputable def SWrd : Fsp := ⟨[(false, [.str])], [.ap .le [.ap .slen [.var 0], I 2500]], [(false, [.sl [.str]])], [([.ap (.usr 224) [.var 0], .ap .not [.ap .isnil [.ap (.usr 252) [.var 0]]]], [[.ap (.usr 252) [.var 0]]]), ([.ap .not [.ap (.usr 224) [.var 0]], .ap .isnil [.ap (.nil true) []]], [[.ap (.nil true) []]])], true⟩
noncomputable def b86 : Lp := ⟨[(.slot 11, .int .i64)], [0, 2, 3, 9, 10], [], fun F H k => [.ap .le [zI, .var k], .ap .le [.var k, .ap .len [.ap (.usr 252) [.var 0]]], .ap (.usr 256) [.var 0, .var k]], fun F H k => .ap (.sub .i64) [.ap .len [.ap (.usr 252) [.var 0]], .var k]⟩
noncomputable def b87 : Lp := ⟨[(.slot 24, .int .i64)], [0, 2, 3, 23], [], fun F H k => [.ap .le [zI, .var k], .ap .le [.var k, .ap .slen [.var 0]], .ap (.usr 257) [.var 0, .var k]], fun F H k => .ap (.sub .i64) [.ap .slen [.var 0], .var k]⟩
abbrev asi : X := (.ap (.usr 252) [(.var 0)])
abbrev bkv : X := (.ap .eq [(.ap (.cell 0) [asi, (.var 1)]), (.lit (.string (.mk (.mk []))))])
abbrev a02 : X := (.ap .lt [(.var 1), (.ap .len [asi])])
abbrev bp1 : List X := [(.ap (.typ (.sl [.str])) [asi]), (.ap .same [(.lit (.string (.mk (.mk [32])))), (.lit (.string (.mk (.mk [32]))))]), (.ap (.typ .str) [(.var 0)]), (.ap .le [(.ap .slen [(.var 0)]), (I 2500)])]
abbrev a0y : List X := (.ap .le [(I 0), (.var 1)]) :: (.ap .le [(.var 1), (.ap .len [asi])]) :: (.ap (.usr 256) [(.var 0), (.var 1)]) :: bp1
abbrev bkq : List X := (.ap .le [(I 0), (.var 2)]) :: (.ap .le [(.var 2), (.ap .slen [(.var 0)])]) :: (.ap (.usr 257) [(.var 0), (.var 2)]) :: (.ap .not [a02]) :: a0y
def b6f : List VC := [([(.ap (.typ .str) [(.var 0)]), (.ap .le [(.ap .slen [(.var 0)]), (I 2500)])], (.ap .same [(.lit (.string (.mk (.mk [32])))), (.lit (.string (.mk (.mk [32]))))])),
 (bp1, (.ap (.usr 256) [(.var 0), (I 0)])),
 (((.ap .not [(.ap (.usr 254) [(.ap (.cell 0) [asi, (.var 1)])])]) :: (.ap .not [bkv]) :: a02 :: a0y), (.ap (.usr 256) [(.var 0), (.ap (.add .i64) [(.var 1), (I 1)])])),
 (((.ap .not [a02]) :: a0y), (.ap (.usr 257) [(.var 0), (I 0)])),
 (((.ap .not [(.ap .lt [(.lit (.int .u8 126)), (.ap .sidx [(.var 0), (.var 2)])])]) :: (.ap .lt [(.var 2), (.ap .slen [(.var 0)])]) :: bkq), (.ap (.usr 257) [(.var 0), (.ap (.add .i64) [(.var 2), (I 1)])]))]
def b6e : List (List X × List (List X)) := [((bkv :: a02 :: a0y), [[(.ap (.nil true) [])]]),
 (((.ap (.usr 254) [(.ap (.cell 0) [asi, (.var 1)])]) :: (.ap .not [bkv]) :: a02 :: a0y), [[(.ap (.nil true) [])]]),
 (((.ap .lt [(.lit (.int .u8 126)), (.ap .sidx [(.var 0), (.var 2)])]) :: (.ap .lt [(.var 2), (.ap .slen [(.var 0)])]) :: bkq), [[(.ap (.nil true) [])]]),
 (((.ap .not [(.ap .lt [(.var 2), (.ap .slen [(.var 0)])])]) :: bkq), [[asi]])]
theorem b9q : runV Tryd.prog ⟨anq (tab T17), orV2 bze (orvK Tryd.prog (anq (tab T17)) 10 10 ⟨asa [], noY, U.lc⟩ 2), Tb.ent ⟨asa [], noY, U.lc⟩, 10, 10, none, Go.Sx.keyOf 17⟩ ⟨an2 [(3, b86), (9, b87)], hintA [(1, fun F H => [.ap .same [spX, spX]])]⟩ Tryd.f17 (aef Tryd.f17) SWrd = some (b6f, b6e) := by kernel_rfl
set_option maxHeartbeats 4000000 in
set_option maxRecDepth 100000 in
theorem cbi : abd U Tryd.prog 17 SWrd := by
  refine abd.ofW (P := Tryd.prog) (U := U) (T := (tab T17)) (l := []) (y := noY) (dp := 2) (f := 17) (fn := Tryd.f17) (fuel := 10) (fk := 10) (hs := ⟨an2 [(3, b86), (9, b87)], hintA [(1, fun F H => [.ap .same [spX, spX]])]⟩) (S := SWrd) (a := bze) (v := b6f) (outs := b6e) mixed hT17 ap7.nil bzf at17 (ah1 (by kernel_rfl)) b9q ?_ ?_
  · unfold b6f
    repeat' (first | exact ake _ | refine aku (fun v hh => ?_) ?_)
    all_goals
      simp only [aey, afm, ae1, afl, afj, b_lt, b_le, b_eq, ae0, ae6, ac7, ahh, adf, adw, afd, w_mk, afn, ae3, w_l0, w_l1, abl, abo, aev, aaw, aax, adb, acw, axf, beo, bmb, bmc, a3d, bp1, asi, bkv, a02, a0y, bkq] at hh ⊢
      repeat (obtain ⟨_, hh⟩ := hh)
      try first | exact rfl | exact g_0 | exact n_0 | exact g_n (by assumption) (by assumption) (by assumption) (by assumption) (by assumption) (by assumption) | exact n_n (by assumption) (by assumption) (by assumption) (by assumption) (by assumption)
  · intro o ho σ hU hh
    obtain ⟨v⟩ := σ
    cases hU
    simp only [b6e, List.mem_cons, List.not_mem_nil, or_false] at ho
    repeat' (first | (rcases ho with rfl | ho) | subst ho)
    all_goals
      simp only [aey, afm, ae1, afl, afj, b_lt, b_le, b_eq, ae0, ae6, ac7, ahh, adf, adw, afd, w_mk, afn, ae3, w_l0, w_l1, abl, abo, aev, aaw, aax, adb, acw, axf, beo, bmb, bmc, a3d, bp1, asi, bkv, a02, a0y, bkq] at hh
      repeat (obtain ⟨_, hh⟩ := hh)
      first
      | (have hk := cax (by assumption) (by assumption) (by assumption) (by assumption) (by assumption) (by assumption)
         exact ⟨_, List.mem_cons_self .., by simp only [aax, aaw, aev, ae0, adj, ae3, a2o, axf, abo, w_l1, w_l0, aey, acw]; exact ⟨hk, by simp, trivial⟩, rfl⟩)
      | (have hk : ¬ okW (line (v 0)) = true := by
           first | exact b_1 (by assumption) (by assumption) (by assumption) (by assumption) | exact b_2 (by assumption) (by assumption) (by assumption) (by assumption) | exact b_3 (by assumption) (by assumption) (by assumption) (by assumption)
         exact ⟨_, List.mem_cons_of_mem _ (List.mem_cons_self ..), by simp only [aax, aaw, aev, ae0, adj, afd, acw, ae3, a2o, abo, w_l1, w_l0, aey]; exact ⟨hk, trivial, trivial⟩, rfl⟩)
end Go.Proofs.YtamhchkknlbanaaDoor.Be

namespace Go.Proofs.YtamhchkknlbanaaDoor.Be
open Go.Sx Go.Proofs
noncomputable def bn4 : Fsp := ⟨[(false, [.str])], [.ap .le [.ap .slen [.var 0], I 2500]], [(false, [.sl [.bool]]), (false, [.bool])], [([], [[.ap (.usr 206) [.var 0]], [.ap (.usr 258) [.var 0]]])], true⟩
noncomputable def lp21 : Lp := ⟨[(.slot 4, .own true [.bool]), (.slot 10, .int .i64)], [0, 2, 3, 8, 9], [], fun F H k => [.ap .le [zI, .var (k+2)], .ap .le [.var (k+2), .ap .slen [.var 0]], .ap .le [.var k, .var (k+2)], .ap .le [.var (k+2), .var k], .ap .same [.ap (.mk true) [.var (k+1)], .ap (.usr 208) [.var 0, .var (k+2)]], .ap (.usr 209) [.var 0, .var (k+2)]], fun F H k => .ap (.sub .i64) [.ap .slen [.var 0], .var (k+2)]⟩
abbrev bC (d : CD) (i : Int) : CD := (CD.sl false (d.str.toList.map aco)).cell i 0
theorem axn {d : CD} {i : Int} (h0 : 0 ≤ i) (hi : i < d.slen) (hT : Typ .str d) : bC d i = vInt .u8 (byAt d i) := by
 rw [ag7 hT] at hi
 have hlt : i.toNat < (by' d).length := by omega
 unfold bC CD.cell byAt
 show (((by' d).map aco).getD i.toNat []).getD 0 default = _
 have e : ((by' d).map aco).getD i.toNat [] = aco (by' d)[i.toNat] := by
  rw [List.getD_eq_getElem?_getD, List.getElem?_map, List.getElem?_eq_getElem hlt]
  rfl
 have e2 : (by' d).getD i.toNat 0 = (by' d)[i.toNat] := by
  rw [List.getD_eq_getElem?_getD, List.getElem?_eq_getElem hlt]
  rfl
 rw [e, e2]
 rfl
theorem kb_n {d : CD} {r : List (List CD)} {i : Int} (hr : r = ap6 ((by' d).take i.toNat)) (h0 : 0 ≤ i) (hi : i < d.slen) (hT : Typ .str d) : r ++ ([] ++ [[aak (eqC (bC d i) (vInt .u8 49))]]) = ap6 ((by' d).take (i + 1).toNat) := by
 rw [axn h0 hi hT]
 exact b70 hr h0 hi hT
theorem kb_1 {d : CD} {i : Int} (h : eqC (bC d i) (vInt .u8 49) = true) (hb : ad3 ((by' d).take i.toNat) = true) (h0 : 0 ≤ i) (hi : i < d.slen) (hT : Typ .str d) : ad3 ((by' d).take (i + 1).toNat) = true := by
 rw [axn h0 hi hT] at h
 exact b71 h hb h0 hi hT
theorem kb_2 {d : CD} {i : Int} (h : eqC (bC d i) (vInt .u8 48) = true) (hb : ad3 ((by' d).take i.toNat) = true) (h0 : 0 ≤ i) (hi : i < d.slen) (hT : Typ .str d) : ad3 ((by' d).take (i + 1).toNat) = true := by
 rw [axn h0 hi hT] at h
 exact b72 h hb h0 hi hT
theorem b82 {d : CD} {i : Int} (h1 : ¬ eqC (bC d i) (vInt .u8 49) = true) (h2 : ¬ eqC (bC d i) (vInt .u8 48) = true) (h0 : 0 ≤ i) (hi : i < d.slen) (hT : Typ .str d) : [[mkz (an8 (by' d))], [aak (ad3 (by' d))]] = [[CD.sl true []], [aak false]] := by
 rw [axn h0 hi hT] at h1 h2
 have h := b4l h1 h2 h0 hi hT
 rw [ag7 hT] at hi
 rw [decide_eq_true (show 0 < (by' d).length by omega), Bool.and_true] at h
 exact h
theorem kb_y {d : CD} {r : List (List CD)} {i : Int} (hr : r = ap6 ((by' d).take i.toNat)) (hb : ad3 ((by' d).take i.toNat) = true) (hi : ¬ i < d.slen) (hT : Typ .str d) : [[mkz (an8 (by' d))], [aak (ad3 (by' d))]] = [[mkz r], [aak true]] := by
 rw [bql hi hT] at hr hb
 unfold an8
 rw [if_pos hb, hb, hr]
abbrev a04 : X := (.ap (.cell 0) [(.ap .byt [(.var 0)]), (.var 3)])
abbrev awd : X := (.ap .lt [(.var 3), (.ap (.cast .i64) [(.ap .slen [(.var 0)])])])
abbrev bp2 : X := (.ap .same [(.ap (.mk true) [(.ap .cat [(.var 2), (.ap .snoc [(.ap (.nil false) []), (.ap .eq [a04, (.lit (.int .u8 49))])])])]), (.ap (.usr 208) [(.var 0), (.ap (.add .i64) [(.var 3), (I 1)])])])
abbrev a06 : X := (.ap .eq [a04, (.lit (.int .u8 48))])
abbrev av9 : List X := [(.ap .le [(I 0), (.var 3)]), (.ap .le [(.var 3), (.ap .slen [(.var 0)])]), (.ap .le [(.var 1), (.var 3)]), (.ap .le [(.var 3), (.var 1)]), (.ap .same [(.ap (.mk true) [(.var 2)]), (.ap (.usr 208) [(.var 0), (.var 3)])]), (.ap (.usr 209) [(.var 0), (.var 3)]), (.ap (.typ .str) [(.var 0)]), (.ap .le [(.ap .slen [(.var 0)]), (I 2500)])]
def b6j : List VC := [([(.ap (.typ .str) [(.var 0)]), (.ap .le [(.ap .slen [(.var 0)]), (I 2500)])], (.ap .same [(.ap (.mk true) [(.ap (.nil true) [])]), (.ap (.usr 208) [(.var 0), (I 0)])])),
 ([(.ap (.typ .str) [(.var 0)]), (.ap .le [(.ap .slen [(.var 0)]), (I 2500)])], (.ap (.usr 209) [(.var 0), (I 0)])),
 (((.ap .eq [a04, (.lit (.int .u8 49))]) :: (.ap .not [a06]) :: awd :: av9), bp2),
 (((.ap .eq [a04, (.lit (.int .u8 49))]) :: (.ap .not [a06]) :: awd :: av9), (.ap (.usr 209) [(.var 0), (.ap (.add .i64) [(.var 3), (I 1)])])),
 ((a06 :: awd :: av9), bp2),
 ((a06 :: awd :: av9), (.ap (.usr 209) [(.var 0), (.ap (.add .i64) [(.var 3), (I 1)])]))]
def b6i : List (List X × List (List X)) := [(((.ap .not [(.ap .eq [a04, (.lit (.int .u8 49))])]) :: (.ap .not [a06]) :: awd :: av9), [[(.ap (.nil true) [])], [(.lit (.bool false))]]),
 (((.ap .not [awd]) :: av9), [[(.ap (.mk true) [(.var 2)])], [(.lit (.bool true))]])]
theorem b9s : runS Tryd.prog (anq T0) 10 10 ⟨an2 [(3, lp21)], hintA []⟩ Tryd.f21 (aef Tryd.f21) bn4 = some (b6j, b6i) := by kernel_rfl
set_option maxHeartbeats 4000000 in
set_option maxRecDepth 100000 in
theorem cbk : abd U Tryd.prog 21 bn4 := by
 refine abd.of (P := Tryd.prog) (U := U) (T := T0) (f := 21) (fn := Tryd.f21) (fuel := 10) (fk := 10) (hs := ⟨an2 [(3, lp21)], hintA []⟩) (S := bn4) (v := b6j) (outs := b6i) mixed hT0 at21 b9s ?_ ?_
 ·unfold b6j
  repeat' (first | exact ake _ | refine aku (fun v hh => ?_) ?_)
  all_goals
   simp only [aey, afm, ae1, afl, afj, adk, b_lt, b_le, b_eq, ae0, ae6, ac7, adf, adw, afd, w_mk, ad5, agr, afn, agq, ae3, w_l0, w_l1, abl, abo, aev, aaw, aax, adb, acw, a2n, beh, bek, a2q, mnX, mxX, bvk, ags, anz, ax6, a2r, a3d, w_eq, ba2, axv, bv0, av9, a04, awd, bp2, a06] at hh ⊢
   repeat (obtain ⟨_, hh⟩ := hh)
   try (first | grind [= abl, = abl] | (apply b29 <;> first | assumption | grind [= abl]) | (apply b73 <;> first | assumption | grind [= abl]) | (apply kb_n <;> first | assumption | grind [= abl]) | (apply kb_1 <;> first | assumption | grind [= abl]) | (apply kb_2 <;> first | assumption | grind [= abl]) | (apply b82 <;> first | assumption | grind [= abl]) | (apply kb_y <;> first | assumption | grind [= abl]))
 ·intro o ho σ hU hh
  obtain ⟨v⟩ := σ
  cases hU
  simp only [b6i, List.mem_cons, List.not_mem_nil, or_false] at ho
  repeat' (first | (rcases ho with rfl | ho) | subst ho)
  all_goals
   refine ⟨_, List.mem_cons_self .., by simp only [aey, afm, ae1, afl, afj, adk, b_lt, b_le, b_eq, ae0, ae6, ac7, adf, adw, afd, w_mk, ad5, agr, afn, agq, ae3, w_l0, w_l1, abl, abo, aev, aaw, aax, adb, acw], ?_⟩
   simp only [aey, afm, ae1, afl, afj, adk, b_lt, b_le, b_eq, ae0, ae6, ac7, adf, adw, afd, w_mk, ad5, agr, afn, agq, ae3, w_l0, w_l1, abl, abo, aev, aaw, aax, adb, acw, a2n, beh, bek, a2q, mnX, mxX, bvk, ags, anz, ax6, a2r, a3d, w_eq, ba2, axv, bv0, av9, a04, awd, bp2, a06] at hh
   simp only [List.map_cons, List.map_nil, aey, afm, ae1, afl, afj, adk, b_lt, b_le, b_eq, ae0, ae6, ac7, adf, adw, afd, w_mk, ad5, agr, afn, agq, ae3, w_l0, w_l1, abl, abo, aev, aaw, aax, adb, acw, w_lt, w_le, w_eq, bn0, a3c, bn1, a2n, beh, bek, a2q, mnX, mxX, bvk, ags, anz, ax6, a2r, a3d, w_eq, ba2, axv, bv0]
   repeat (obtain ⟨_, hh⟩ := hh)
   try (first | grind [= abl, = abl] | (apply b29 <;> first | assumption | grind [= abl]) | (apply b73 <;> first | assumption | grind [= abl]) | (apply kb_n <;> first | assumption | grind [= abl]) | (apply kb_1 <;> first | assumption | grind [= abl]) | (apply kb_2 <;> first | assumption | grind [= abl]) | (apply b82 <;> first | assumption | grind [= abl]) | (apply kb_y <;> first | assumption | grind [= abl]))
end Go.Proofs.YtamhchkknlbanaaDoor.Be

namespace Go.Proofs.YtamhchkknlbanaaDoor.Be
open Go.Sx Go.Proofs
abbrev sixL : List UInt8 := [48, 49, 50, 51, 52, 53, 54, 55, 56, 57, 97, 98, 99, 100, 101, 102]
abbrev sixC : CD := .v (.string ⟨⟨sixL⟩⟩)
theorem cbb {n : Nat} (h : (n : Int) ≤ 2500) : (orV (af0 .quo .i64 (n : Int) 2)).iv = (n : Int) / 2 := by
 have : af0 .quo .i64 (n : Int) 2 = some (.int .i64 (IntKind.i64.wrap ((n : Int).tdiv 2))) := rfl
 rw [this]
 show IntKind.i64.wrap ((n : Int).tdiv 2) = _
 haveI : Sg := @Sg.mk U fun _ => default
 rw [Int.tdiv_eq_ediv_of_nonneg (by omega), bn2 (k := .i64) (by show (-9223372036854775808 : Int) ≤ _; omega) (by show _ ≤ (9223372036854775807 : Int); omega)]
noncomputable def opq {α : Type} (x : α) : α := Classical.choose (⟨x, rfl⟩ : ∃ y, y = x)
theorem bpv {α : Type} {x : α} : opq x = x := Classical.choose_spec (⟨x, rfl⟩ : ∃ y, y = x)
noncomputable def quoI (a : Int) : Int := opq (orV (af0 .quo .i64 a 2)).iv
theorem bpy {a : Int} : (orV (af0 .quo .i64 a 2)).iv = quoI a := bpv.symm
noncomputable def remC (a : Int) : CD := opq (orV (af0 .rem .i64 a 2))
theorem bp4 {a : Int} : orV (af0 .rem .i64 a 2) = remC a := bpv.symm
noncomputable def nibI (a b : Int) : Int := opq (IntKind.u8.wrap (orV (af0 .or .i64 (orV (anx .shl .i64 a 4)).iv b)).iv)
theorem bpn {a b : Int} : IntKind.u8.wrap (orV (af0 .or .i64 (orV (anx .shl .i64 a 4)).iv b)).iv = nibI a b := bpv.symm
theorem brw {n : Nat} (h : (n : Int) ≤ 2500) : quoI n = (n : Int) / 2 := by rw [← bpy, cbb h]
noncomputable def digI (a : Int) : Int := opq (digV a)
theorem d_eq {a : Int} : digI a = digV a := bpv
theorem b8w : ((List.range 256).all fun n => decide (Lib.indexByte sixL (UInt8.ofNat n) = digV n)) = true := by kernel_rfl
theorem b5h : ((List.range 16).all fun a => (List.range 16).all fun b => decide (IntKind.u8.wrap (orV (af0 .or .i64 (orV (anx .shl .i64 (a : Int) 4)).iv (b : Int))).iv = 16 * (a : Int) + b)) = true := by kernel_rfl
theorem b3m {d : CD} {i : Int} : Lib.indexByte (by' sixC) (byAt d i).toNat.toUInt8 = digI (byAt d i) := by
 rw [d_eq]
 have e : by' sixC = sixL := by_v _
 rw [e]
 unfold byAt
 have hb := ((by' d).getD i.toNat 0).toNat_lt
 have := List.all_eq_true.1 b8w ((by' d).getD i.toNat 0).toNat (List.mem_range.2 hb)
 rw [decide_eq_true_eq] at this
 rw [← this]
 rfl
theorem nib {a b : Int} (h1 : 0 ≤ a) (h2 : a ≤ 15) (h3 : 0 ≤ b) (h4 : b ≤ 15) : IntKind.u8.wrap (orV (af0 .or .i64 (orV (anx .shl .i64 a 4)).iv b)).iv = 16 * a + b := by
 obtain ⟨x, rfl⟩ := Int.eq_ofNat_of_zero_le h1
 obtain ⟨y, rfl⟩ := Int.eq_ofNat_of_zero_le h3
 have := List.all_eq_true.1 (List.all_eq_true.1 b5h x (List.mem_range.2 (by omega))) y (List.mem_range.2 (by omega))
 rwa [decide_eq_true_eq] at this
theorem boy : ∀ (n : Nat) (l : List UInt8), l.length ≤ n → (hexR l).length = l.length / 2
 | _, [], _ => rfl
 | _, [_], _ => by simp [hexR]
 | 0, _ :: _ :: _, h => by simp at h
 | n + 1, a :: b :: r, h => by
  show (hexR r).length + 1 = (r.length + 1 + 1) / 2
  rw [boy n r (by simp only [List.length_cons] at h; omega)]
  omega
theorem take2 {l : List UInt8} {k : Nat} (h : 2 * k + 1 < l.length) : l.take (2 * (k + 1)) = l.take (2 * k) ++ [l.getD (2 * k) 0, l.getD (2 * k + 1) 0] := by
 have h1 : l.take (2 * k + 1 + 1) = l.take (2 * k + 1) ++ [l.getD (2 * k + 1) 0] := by
  rw [List.take_add_one, List.getD_eq_getElem?_getD, List.getElem?_eq_getElem h]
  rfl
 have h2 : l.take (2 * k + 1) = l.take (2 * k) ++ [l.getD (2 * k) 0] := by
  rw [List.take_add_one, List.getD_eq_getElem?_getD, List.getElem?_eq_getElem (by omega)]
  rfl
 rw [show 2 * (k + 1) = 2 * k + 1 + 1 by omega, h1, h2, List.append_assoc]
 rfl
theorem b3s {α : Type} {f : α → α} {x : α} {r : List α} : ∀ (p : List α), (p ++ x :: r).modify p.length f = p ++ f x :: r
 | [] => rfl
 | a :: p => by
  show a :: (p ++ x :: r).modify p.length f = _
  rw [b3s p]
  rfl
theorem b8u {l : List UInt8} {k : Nat} (h : 2 * k + 1 < l.length) : setCell (hexP l k) k 0 (vInt .u8 (baj (l.getD (2 * k) 0) (l.getD (2 * k + 1) 0))) = hexP l (k + 1) := by
 have hl : (hexR (l.take (2 * k))).length = k := by
  rw [boy _ _ (Nat.le_refl _), List.length_take]
  omega
 have ev : (l.take (2 * k)).length % 2 = 0 := by rw [List.length_take]; omega
 unfold hexP setCell
 obtain ⟨m, hm⟩ : ∃ m, l.length / 2 - k = m + 1 := ⟨l.length / 2 - k - 1, by omega⟩
 rw [hm, List.replicate_succ, show l.length / 2 - (k + 1) = m by omega, take2 h, bai ev]
 have := b3s (f := fun r => r.set 0 (vInt .u8 (baj (l.getD (2 * k) 0) (l.getD (2 * k + 1) 0)))) (x := [vInt .u8 0]) (r := List.replicate m [vInt .u8 0]) (hexR (l.take (2 * k)))
 rw [hl] at this
 rw [this, List.append_assoc]
 rfl
theorem b8t {l : List UInt8} {k : Nat} (h : 2 * k + 1 < l.length) (hb : hexB (l.take (2 * k)) = true) (h1 : 0 ≤ digV (l.getD (2 * k) 0).toNat) (h2 : 0 ≤ digV (l.getD (2 * k + 1) 0).toNat) : hexB (l.take (2 * (k + 1))) = true := by
 have ev : (l.take (2 * k)).length % 2 = 0 := by rw [List.length_take]; omega
 rw [take2 h, axr ev, hb]
 have e : hexB [l.getD (2 * k) 0, l.getD (2 * k + 1) 0] = (decide (0 ≤ digV (l.getD (2 * k) 0).toNat) && decide (0 ≤ digV (l.getD (2 * k + 1) 0).toNat) && hexB []) := rfl
 rw [e, decide_eq_true h1, decide_eq_true h2]
 rfl
theorem bz3 {l : List UInt8} {k : Nat} (h : 2 * k + 1 < l.length) (hx : digV (l.getD (2 * k) 0).toNat < 0 ∨ digV (l.getD (2 * k + 1) 0).toNat < 0) : hexB l = false := by
 have hs : l = l.take (2 * (k + 1)) ++ l.drop (2 * (k + 1)) := (List.take_append_drop _ _).symm
 have ev : (l.take (2 * k)).length % 2 = 0 := by rw [List.length_take]; omega
 rw [hs, take2 h, List.append_assoc, axr ev]
 have e : (decide (0 ≤ digV (l.getD (2 * k) 0).toNat) && decide (0 ≤ digV (l.getD (2 * k + 1) 0).toNat)) = false := by
  rw [Bool.and_eq_false_iff]
  rcases hx with hx | hx
  ·exact .inl (decide_eq_false (by omega))
  ·exact .inr (decide_eq_false (by omega))
 show (_ && ((_ && _) && _)) = false
 rw [e]
 simp
theorem q_0 {d : CD} (h : (d.slen : Int) ≤ 2500) : 0 ≤ (quoI d.slen) := by rw [brw h]; omega
theorem q_1 {d : CD} (h : (d.slen : Int) ≤ 2500) : (quoI d.slen) ≤ 1250 := by rw [brw h]; omega
theorem q_z {d : CD} (hT : Typ .str d) (h : (d.slen : Int) ≤ 2500) : CD.sl (false && (List.replicate (quoI d.slen).toNat [CD.v (.int .u8 0)]).isEmpty) (List.replicate (quoI d.slen).toNat [CD.v (.int .u8 0)]) = CD.sl false (hexP (by' d) (Int.toNat 0)) := by
 rw [brw h, ag7 hT]
 show CD.sl false _ = _
 have : (((by' d).length : Int) / 2).toNat = (by' d).length / 2 := by omega
 rw [this]
 rfl
theorem q_a {d : CD} {i : Int} (hi : i < (quoI d.slen)) (h : (d.slen : Int) ≤ 2500) : 2 * i + 1 < (d.slen : Int) := by rw [brw h] at hi; omega
theorem q_b {d : CD} {i : Int} (hi : i < (quoI d.slen)) (h : (d.slen : Int) ≤ 2500) (h0 : 0 ≤ i) : 2 * i < (d.slen : Int) := by rw [brw h] at hi; omega
theorem at_2 {d : CD} {i : Int} (h0 : 0 ≤ i) : byAt d (2 * i) = (((by' d).getD (2 * i.toNat) 0).toNat : Int) ∧ byAt d (2 * i + 1) = (((by' d).getD (2 * i.toNat + 1) 0).toNat : Int) := by
 unfold byAt
 rw [show (2 * i).toNat = 2 * i.toNat by omega, show (2 * i + 1).toNat = 2 * i.toNat + 1 by omega]
 exact ⟨rfl, rfl⟩
theorem q_n {d : CD} {r : List (List CD)} {i : Int} (hr : CD.sl (false && r.isEmpty) r = CD.sl false (hexP (by' d) i.toNat)) (h1 : ¬ digI (byAt d (2 * i)) < 0) (h2 : ¬ digI (byAt d (2 * i + 1)) < 0) (h3 : 2 * i + 1 < (d.slen : Int)) (h0 : 0 ≤ i) (hT : Typ .str d) :
  CD.sl (false && (setCell r i.toNat 0 (vInt .u8 (nibI (digI (byAt d (2 * i))) (digI (byAt d (2 * i + 1)))))).isEmpty) (setCell r i.toNat 0 (vInt .u8 (nibI (digI (byAt d (2 * i))) (digI (byAt d (2 * i + 1)))))) = CD.sl false (hexP (by' d) (i + 1).toNat) := by
 simp only [d_eq] at h1 h2 ⊢
 have hr : CD.sl false r = CD.sl false (hexP (by' d) i.toNat) := hr
 cases hr
 rw [← bpn, nib (by omega) bzg (by omega) bzg, (at_2 h0).1, (at_2 h0).2, show (i + 1).toNat = i.toNat + 1 by omega]
 rw [ag7 hT] at h3
 show CD.sl false _ = _
 exact congrArg (CD.sl false) (b8u (l := by' d) (k := i.toNat) (by omega))
theorem q_ok {d : CD} {i : Int} (hb : hexB ((by' d).take (2 * i.toNat)) = true) (h1 : ¬ digI (byAt d (2 * i)) < 0) (h2 : ¬ digI (byAt d (2 * i + 1)) < 0) (h3 : 2 * i + 1 < (d.slen : Int)) (h0 : 0 ≤ i) (hT : Typ .str d) : hexB ((by' d).take (2 * (i + 1).toNat)) = true := by
 simp only [d_eq] at h1 h2
 rw [(at_2 h0).1] at h1
 rw [(at_2 h0).2] at h2
 rw [ag7 hT] at h3
 rw [show (i + 1).toNat = i.toNat + 1 by omega]
 exact b8t (by omega) hb (by omega) (by omega)
theorem q_no {d : CD} {i : Int} (hx : digI (byAt d (2 * i)) < 0 ∨ digI (byAt d (2 * i + 1)) < 0) (h3 : 2 * i + 1 < (d.slen : Int)) (h0 : 0 ≤ i) (hT : Typ .str d) : [[if hexB (by' d) = true then CD.sl false (hexR (by' d)) else CD.sl true []], [aak (hexB (by' d) && decide ((by' d).length % 2 = 0))]] = [[CD.sl true []], [aak false]] := by
 simp only [d_eq] at hx
 rw [(at_2 h0).1, (at_2 h0).2] at hx
 rw [ag7 hT] at h3
 rw [bz3 (by omega) hx]
 rfl
theorem q_y {d : CD} {r : List (List CD)} {i n : Int} (hr : CD.sl (false && r.isEmpty) r = CD.sl false (hexP (by' d) i.toNat)) (hb : hexB ((by' d).take (2 * i.toNat)) = true) (h1 : ¬ i < (quoI d.slen)) (h2 : i ≤ n) (h3 : n ≤ (quoI d.slen)) (h0 : 0 ≤ i) (hT : Typ .str d) (h : (d.slen : Int) ≤ 2500) : [[if hexB (by' d) = true then CD.sl false (hexR (by' d)) else CD.sl true []], [aak (hexB (by' d) && decide ((by' d).length % 2 = 0))]] = [[CD.sl (false && r.isEmpty) r], [aak (eqC (remC d.slen) (vInt .i64 0))]] := by
 rw [hr]
 rw [brw h, ag7 hT] at h1 h3
 have hs : by' d = ((by' d).take (2 * i.toNat)) ++ (by' d).drop (2 * i.toNat) := (List.take_append_drop _ _).symm
 have ev : ((by' d).take (2 * i.toNat)).length % 2 = 0 := by rw [List.length_take]; omega
 have hd : ((by' d).drop (2 * i.toNat)).length ≤ 1 := by rw [List.length_drop]; omega
 have e1 : hexB ((by' d).drop (2 * i.toNat)) = true ∧ hexR ((by' d).drop (2 * i.toNat)) = [] := by
  generalize (by' d).drop (2 * i.toNat) = q at hd
  match q, hd with
  | [], _ => exact ⟨rfl, rfl⟩
  | [_], _ => exact ⟨rfl, rfl⟩
  | _ :: _ :: _, hd => simp at hd
 have e2 := axr (q := (by' d).drop (2 * i.toNat)) ev
 have e3 := bai (q := (by' d).drop (2 * i.toNat)) ev
 rw [← hs, hb, e1.1] at e2
 rw [← hs, e1.2, List.append_nil] at e3
 have e4 : hexP (by' d) i.toNat = hexR (by' d) := by
  unfold hexP
  rw [show (by' d).length / 2 - i.toNat = 0 by omega, e3]
  simp
 have hsl : d.slen = (by' d).length := by have := ag7 hT; omega
 rw [e4, e2, ← bp4, cbf, hsl]
 rfl
theorem q_z0 {l : List UInt8} : hexB (l.take (2 * Int.toNat 0)) = true := rfl
noncomputable def T20 : List (FuncId × Fsp) := [(47, SIdx)]
set_option maxRecDepth 100000 in
theorem hT20 : awn U Tryd.prog T20 := .cons cbt .nil
noncomputable def bn5 : Fsp := ⟨[(false, [.str])], [.ap .le [.ap .slen [.var 0], I 2500]], [(false, [.sl [.int .u8]]), (false, [.bool])], [([], [[.ap (.usr 260) [.var 0]], [.ap (.usr 259) [.var 0]]])], true⟩
abbrev qX : X := .ap (.bin .quo .i64) [.ap .slen [.var 0], I 2]
noncomputable def lp20 : Lp := ⟨[(.slot 4, .own false [.int .u8]), (.slot 14, .int .i64)], [0, 2, 3, 13], [], fun F H k => [.ap .le [zI, .var (k+2)], .ap .le [.var (k+2), .var k], .ap .le [.var k, qX], .ap .le [qX, .var k], .ap .same [.ap (.mk false) [.var (k+1)], .ap (.usr 261) [.var 0, .var (k+2)]], .ap (.usr 262) [.var 0, .var (k+2)]], fun F H k => .ap (.sub .i64) [.var k, .var (k+2)]⟩
abbrev asj : X := (.ap (.mul .i64) [(I 2), (.var 3)])
abbrev a03 : X := (.ap (.usr 255) [(.lit (.string (.mk (.mk [48, 49, 50, 51, 52, 53, 54, 55, 56, 57, 97, 98, 99, 100, 101, 102])))), (.ap .sidx [(.var 0), asj])])
abbrev a6w : X := (.ap (.usr 255) [(.lit (.string (.mk (.mk [48, 49, 50, 51, 52, 53, 54, 55, 56, 57, 97, 98, 99, 100, 101, 102])))), (.ap .sidx [(.var 0), (.ap (.add .i64) [asj, (I 1)])])])
abbrev ao2 : X := (.ap .slen [(.var 0)])
abbrev aqn : X := (.ap (.bin .quo .i64) [ao2, (I 2)])
abbrev a6x : X := (.ap .lt [(.var 3), (.ap (.cast .i64) [(.ap (.cast .i64) [aqn])])])
abbrev bkw : List X := [(.ap .le [(I 0), aqn]), (.ap .le [aqn, (I 1250)]), (.ap (.typ .str) [(.var 0)]), (.ap .le [ao2, (I 2500)])]
abbrev a6t : List X := (.ap .le [(I 0), (.var 3)]) :: (.ap .le [(.var 3), (.var 1)]) :: (.ap .le [(.var 1), aqn]) :: (.ap .le [aqn, (.var 1)]) :: (.ap .same [(.ap (.mk false) [(.var 2)]), (.ap (.usr 261) [(.var 0), (.var 3)])]) :: (.ap (.usr 262) [(.var 0), (.var 3)]) :: bkw
abbrev a6u : List X := (.ap .le [(I 0), asj]) :: (.ap .lt [(.ap (.add .i64) [asj, (I 1)]), ao2]) :: (.ap .lt [asj, ao2]) :: a6x :: a6t
def b6h : List VC := [([(.ap (.typ .str) [(.var 0)]), (.ap .le [ao2, (I 2500)])], (.ap .le [(I 0), aqn])),
 ([(.ap (.typ .str) [(.var 0)]), (.ap .le [ao2, (I 2500)])], (.ap .le [aqn, (I 1250)])),
 (bkw, (.ap .same [(.ap (.mk false) [(.ap .rep [aqn, (.lit (.int .u8 0))])]), (.ap (.usr 261) [(.var 0), (I 0)])])),
 (bkw, (.ap (.usr 262) [(.var 0), (I 0)])),
 ((a6x :: a6t), (.ap .lt [(.ap (.add .i64) [asj, (I 1)]), ao2])),
 ((a6x :: a6t), (.ap .lt [asj, ao2])),
 (((.ap .not [(.ap .lt [a6w, (I 0)])]) :: (.ap .not [(.ap .lt [a03, (I 0)])]) :: a6u), (.ap .same [(.ap (.mk false) [(.ap (.upd 0) [(.var 2), (.var 3), (.ap (.wr .u8) [(.ap (.cast .u8) [(.ap (.bin .or .i64) [(.ap (.shf .shl .i64) [a03, (.lit (.int .u64 4))]), a6w])])])])]), (.ap (.usr 261) [(.var 0), (.ap (.add .i64) [(.var 3), (I 1)])])])),
 (((.ap .not [(.ap .lt [a6w, (I 0)])]) :: (.ap .not [(.ap .lt [a03, (I 0)])]) :: a6u), (.ap (.usr 262) [(.var 0), (.ap (.add .i64) [(.var 3), (I 1)])]))]
def b6g : List (List X × List (List X)) := [(((.ap .lt [a03, (I 0)]) :: a6u), [[(.ap (.nil true) [])], [(.lit (.bool false))]]),
 (((.ap .lt [a6w, (I 0)]) :: (.ap .not [(.ap .lt [a03, (I 0)])]) :: a6u), [[(.ap (.nil true) [])], [(.lit (.bool false))]]),
 (((.ap .not [a6x]) :: a6t), [[(.ap (.mk false) [(.var 2)])], [(.ap .eq [(.ap (.bin .rem .i64) [ao2, (I 2)]), (I 0)])]])]
theorem b9r : runS Tryd.prog (anq (tab T20)) 10 10 ⟨an2 [(3, lp20)], hintA [(1, fun F H => [.ap .le [zI, qX], .ap .le [qX, I 1250]]), (5, fun F H => [.ap .le [zI, .ap (.mul .i64) [I 2, sx F 5]], .ap .lt [.ap (.add .i64) [.ap (.mul .i64) [I 2, sx F 5], I 1], .ap .slen [.var 0]], .ap .lt [.ap (.mul .i64) [I 2, sx F 5], .ap .slen [.var 0]]])]⟩ Tryd.f20 (aef Tryd.f20) bn5 = some (b6h, b6g) := by kernel_rfl
set_option maxHeartbeats 400000 in
set_option maxRecDepth 100000 in
theorem cbj : abd U Tryd.prog 20 bn5 := by
 refine abd.of (P := Tryd.prog) (U := U) (T := (tab T20)) (f := 20) (fn := Tryd.f20) (fuel := 10) (fk := 10) (hs := ⟨an2 [(3, lp20)], hintA [(1, fun F H => [.ap .le [zI, qX], .ap .le [qX, I 1250]]), (5, fun F H => [.ap .le [zI, .ap (.mul .i64) [I 2, sx F 5]], .ap .lt [.ap (.add .i64) [.ap (.mul .i64) [I 2, sx F 5], I 1], .ap .slen [.var 0]], .ap .lt [.ap (.mul .i64) [I 2, sx F 5], .ap .slen [.var 0]]])]⟩) (S := bn5) (v := b6h) (outs := b6g) mixed hT20 at20 b9r ?_ ?_
 ·unfold b6h
  repeat' (first | exact ake _ | refine aku (fun v hh => ?_) ?_)
  all_goals
   simp only [aey, afm, ae1, afl, afj, ahp, adk, w_wr, b_lt, b_le, b_eq, ae0, b_or, ae6, ac7, adf, afd, w_mk, ahz, ahq, afn, ae3, aho, w_l0, w_l1, abl, abo, aev, aaw, aax, adb, acw, ahx, bep, bmd, bme, a3d, b3m, bpy, bp4, bpn, bkw, asj, a03, a6w, ao2, aqn, a6x, a6t, a6u] at hh ⊢
   repeat (obtain ⟨_, hh⟩ := hh)
   try first | exact q_0 (by assumption) | exact q_1 (by assumption) | exact q_z (by assumption) (by assumption) | exact q_z0 | exact q_a (by assumption) (by assumption) | exact q_b (by assumption) (by assumption) (by assumption) | exact q_n (by assumption) (by assumption) (by assumption) (by assumption) (by assumption) (by assumption) | exact q_ok (by assumption) (by assumption) (by assumption) (by assumption) (by assumption) (by assumption)
 ·intro o ho σ hU hh
  obtain ⟨v⟩ := σ
  cases hU
  simp only [b6g, List.mem_cons, List.not_mem_nil, or_false] at ho
  repeat' (first | (rcases ho with rfl | ho) | subst ho)
  all_goals
   simp only [aey, afm, ae1, afl, afj, ahp, adk, w_wr, b_lt, b_le, b_eq, ae0, b_or, ae6, ac7, adf, afd, w_mk, ahz, ahq, afn, ae3, aho, w_l0, w_l1, abl, abo, aev, aaw, aax, adb, acw, ahx, bep, bmd, bme, a3d, b3m, bpy, bp4, bpn, bkw, asj, a03, a6w, ao2, aqn, a6x, a6t, a6u] at hh
   refine ⟨_, List.mem_cons_self .., by simp only [aey, afm, ae1, afl, afj, ahp, adk, w_wr, b_lt, b_le, b_eq, ae0, b_or, ae6, ac7, adf, afd, w_mk, ahz, ahq, afn, ae3, aho, w_l0, w_l1, abl, abo, aev, aaw, aax, adb, acw, ahx], ?_⟩
   simp only [List.map_cons, List.map_nil, aey, afm, ae1, afl, afj, ahp, adk, w_wr, b_lt, b_le, b_eq, ae0, b_or, ae6, ac7, adf, afd, w_mk, ahz, ahq, afn, ae3, aho, w_l0, w_l1, abl, abo, aev, aaw, aax, adb, acw, ahx, w_lt, w_le, w_eq, bn0, w_or, a3c, bn1, bep, ber, bes, bpy, bp4, bpn]
  ·obtain ⟨a1, a2, a3, a4, a5, a6, a7, a8, a9, a10, a11, a12, a13, a14, a15, _⟩ := hh
   exact q_no (.inl a1) a3 a6 a14
  ·obtain ⟨a0, a1, a2, a3, a4, a5, a6, a7, a8, a9, a10, a11, a12, a13, a14, a15, _⟩ := hh
   exact q_no (.inr a0) a3 a6 a14
  ·obtain ⟨a1, a2, a3, a4, a5, a6, a7, a8, a9, a10, a11, _⟩ := hh
   trace_state
   exact q_y a6 a7 a1 a3 a4 a2 a10 a11
end Go.Proofs.YtamhchkknlbanaaDoor.Be

namespace Go.Proofs.YtamhchkknlbanaaDoor.Be
open Go.Sx Go.Proofs
set_option linter.all false
noncomputable def a4j : Fsp := ⟨[(false, [.str])], [.ap .le [.ap .slen [.var 0], I 2500]], [(true, bls), (false, [sI])], [([], [[.ap (.usr 240) [.var 0], .ap (.usr 241) [.var 0], .ap (.usr 242) [.var 0], .ap (.usr 243) [.var 0], .ap (.usr 244) [.var 0], .ap (.usr 245) [.var 0], .ap (.usr 246) [.var 0], .ap (.usr 247) [.var 0], .ap (.usr 248) [.var 0]], [.ap (.usr 249) [.var 0]]])], true⟩
theorem bul {k : IntKind} {a b : Int} : (eqC (vInt k a) (vInt k b) = true) = (a = b) := by
 show (decide (a = b) = true) = _
 simp
end Go.Proofs.YtamhchkknlbanaaDoor.Be
