/-
  What is handed on alone reads behind the call as it read before. Conditions: none; nothing here speaks of one program.
-/
import Derived.Test.YtamhchkknlbanaaDoorBeM
import Derived.Test.YtamhchkknlbanaaDoorBeF
import Derived.Test.YtamhchkknlbanaaDoorBeU
import Derived.ChangeFn
import Derived.WideFn
import Derived.ChangeSame
import Derived.RowKit3
import Derived.ChangeReads
import Derived.ChangeOld
import Derived.ReadAgain
set_option linter.unusedSectionVars false
set_option linter.unusedVariables false
set_option linter.unusedSimpArgs false
set_option linter.all false
namespace Go.Proofs.YtamhchkknlbanaaDoor.Be
open Go.Sx Go.Proofs
set_option maxHeartbeats 4000000 in
set_option maxRecDepth 100000 in
theorem bj3 : ∀ z ∈ r6_v, VCok U z := by
  unfold r6_v
  repeat' (first | exact ac9 _ | refine ado (fun v hh => ?_) ?_)
  all_goals
    simp only [aa3, aa6, aa4, aa5, abg, acd, ab7, aap, w_wr, b_lt, b_le, b_eq, aa1, adg, b_or, abe, aao, aa2, adn, acs, aan, aa7, abj, w_mk, aat, abq, adl, acz, acy, abb, ac1, ada, aa0, abm, ace, w_l0, w_l1, aac, aag, aaz, aae, aad, aam, aal, aby, abw, abx, abz, adi, ade, ab1, ac0, az9, aml, bbj, avu, a1u, a0v, a0s, a09, aoo, a0u, a2c, a00, apc, aps, ahr, apr, avd, alp, aph, ao7, aln, apo, ahu, an6, ap9, aty, alr, aqh, atq, apf, ap8, ahs, aoy, au2, am9, aqi, auj, aqd, ak7, aqk, ams, alg, alj, am1, apt, ayq] at hh ⊢
    have hT : Typ .str (v 0) := by simp only [hh]
    have hTs : Typ (.sl [.str]) (wsC (v 0)) := by simp only [hh]
    have h22 : ¬ 2200 < ((v 0).slen : Int) := by simp [hh]
    have hk : okW (line (v 0)) = true := by simp only [hh]
    try simp only [Int.reduceToNat, tk_0 hTs, tk_k hTs, List.drop_drop, Nat.reduceAdd, bdn hTs, am2, acg] at hh ⊢
    first
    | exact ws_1 hk hTs
    | exact a98 hT h22 _
    | (repeat (obtain ⟨_, hh⟩ := hh)
       omega)
end Go.Proofs.YtamhchkknlbanaaDoor.Be

namespace Go.Proofs.YtamhchkknlbanaaDoor.Be
open Go.Sx Go.Proofs
set_option maxHeartbeats 4000000 in
set_option maxRecDepth 100000 in
theorem bhn : ∀ o ∈ r6_o, ∀ σ : Sg, σ.toUs = U → @Holds σ o.1 → ∃ q ∈ ahw.outs, @Holds σ q.1 ∧ q.2.map (@denL σ) = o.2.map (@denL σ) := by
  intro o ho σ hU hh
  obtain ⟨v⟩ := σ
  cases hU
  simp only [r6_o, List.mem_cons, List.not_mem_nil, or_false] at ho
  repeat' (first | (rcases ho with rfl | ho) | subst ho)
  all_goals
    refine ⟨_, List.mem_cons_self .., by simp only [aa3, aa6, aa4, aa5, abg, acd, ab7, aap, w_wr, b_lt, b_le, b_eq, aa1, adg, b_or, abe, aao, aa2, adn, acs, aan, aa7, abj, w_mk, aat, abq, adl, acz, acy, abb, ac1, ada, aa0, abm, ace, w_l0, w_l1, aac, aag, aaz, aae, aad, aam, aal, aby, abw, abx, abz, adi, ade, ab1, ac0], ?_⟩
    simp only [aa3, aa6, aa4, aa5, abg, acd, ab7, aap, w_wr, b_lt, b_le, b_eq, aa1, adg, b_or, abe, aao, aa2, adn, acs, aan, aa7, abj, w_mk, aat, abq, adl, acz, acy, abb, ac1, ada, aa0, abm, ace, w_l0, w_l1, aac, aag, aaz, aae, aad, aam, aal, aby, abw, abx, abz, adi, ade, ab1, ac0, az9, aml, av3, bir, a0n, a3x, be5, bha, aof, bbj, avu, a1u, a0v, a0s, a09, aoo, a0u, a2c, a00, apc, aps, ahr, apr, avd, alp, aph, ao7, aln, apo, ahu, an6, ap9, aty, alr, aqh, atq, apf, ap8, ahs, aoy, au2, am9, aqi, auj, aqd, ak7, aqk, ams, alg, alj, am1, apt, ayq] at hh
    simp only [List.map_cons, List.map_nil, aa3, aa6, aa4, aa5, abg, acd, ab7, aap, w_wr, b_lt, b_le, b_eq, aa1, adg, b_or, abe, aao, aa2, adn, acs, aan, aa7, abj, w_mk, aat, abq, adl, acz, acy, abb, ac1, ada, aa0, abm, ace, w_l0, w_l1, aac, aag, aaz, aae, aad, aam, aal, aby, abw, abx, abz, adi, ade, ab1, ac0, w_lt, w_le, w_eq, anu, bgy, w_or, a2g, aij, aop, az9, aml, av3, bir, a3x, be5, bha, aof, a9x, bbg, bbk, a9b, a9c, bab, a8x, a8j, a9f, a8d]
    have hT : Typ .str (v 0) := by simp only [hh]
    first
    | (have hx := hh.1
       rw [bcw hx hT]; rfl)
    | (have hx := hh.2.1
       rw [a3r hh.2.2.2.1 hT hx]; rfl)
    | (have hk : okW (line (v 0)) = true := by simp only [hh]
       have hTs : Typ (.sl [.str]) (wsC (v 0)) := by simp only [hh]
       have h22 : ¬ 2200 < ((v 0).slen : Int) := by simp [hh]
       try simp only [Int.reduceToNat, tk_0 hTs, tk_k hTs, List.drop_drop, Nat.reduceAdd, bdn hTs, avn, ayh, am2, acg] at hh
       try simp only [Int.reduceToNat, tk_0 hTs, tk_k hTs, List.drop_drop, Nat.reduceAdd, avn]
       have hh2 := hh
       repeat (obtain ⟨_, hh2⟩ := hh2)
       first
       | (have hp := by first | exact bds (by assumption) h22 hT hk | exact bea (by assumption) h22 hT hk | exact bgw (by assumption) h22 hT hk | exact blb (by assumption) h22 hT hk | exact bdu (by assumption) h22 hT hk | exact a5g (by assumption) h22 hT hk | exact bfz (by assumption) h22 hT hk | exact biy (by assumption) h22 hT hk | exact bfw (by assumption) h22 hT hk | exact bjk (by assumption) h22 hT hk | exact a7z (by assumption) h22 hT hk | exact a4d (by assumption) h22 hT hk | exact a8s (by assumption) h22 hT hk | exact bfb (by assumption) h22 hT hk | exact bd0 (by assumption) h22 hT hk
          rw [hp]
          clear hp
          first
          | (rw [kB 1 (by decide) (by decide) (by assumption)]; rfl)
          | (rw [kB 2 (by decide) (by decide) (by assumption)]; rfl)
          | (rw [kB 3 (by decide) (by decide) (by assumption)]; rfl)
          | (rw [kB 4 (by decide) (by decide) (by assumption)]; rfl)
          | (rw [kA (by omega)]; rfl)
          | (rw [kC (by omega)]; rfl)
          | (rw [kC0 (by omega)]; rfl)
          | (have hm : 255 < afh (gw (wds (v 0)) 4) := by assumption
             by_cases hn : nOk (gw (wds (v 0)) 4) = true
             · rw [kM (by unfold nV; rw [← ajx hn]; exact hm)]; rfl
             · rw [kB 4 (by decide) (by decide) hn]; rfl)
          | (have hn : nOk (gw (wds (v 0)) 4) = true := by assumption
             have hm : numV (gw (wds (v 0)) 4) ≤ 255 := by rw [← ajx hn]; omega
             rw [kD (by omega) (by simp [nOks, hh]) (fun h13 => by have := h13.2; unfold nV at this; omega)]
             simp [ajw, nV, ajx, hh, acg, ac3]
             rw [a6z (a6d _) hm])
          | (rw [kD (by omega) (by simp [nOks, hh]) (fun h13 => absurd h13.1 (by decide))]
             simp [ajw, nV, ajx, hh, acg, ac3])
          | (have hy : (hexB (gw (wds (v 0)) 3) && decide ((gw (wds (v 0)) 3).length % 2 = 0)) = true := by assumption
             have hx : ar9 (gw (wds (v 0)) 3) = true := by rw [← bh6 hk (by omega)]; exact hy
             rw [ba6 hx, kE1 (by omega) (by simp [nOks, hh])]
             simp [ajw, nV, ajx, hh, acg, ac3, hx])
          | (have hy : ¬ (hexB (gw (wds (v 0)) 3) && decide ((gw (wds (v 0)) 3).length % 2 = 0)) = true := by assumption
             have hx : ¬ ar9 (gw (wds (v 0)) 3) = true := by rw [← bh6 hk (by omega)]; exact hy
             have e := kE1 (W := wds (v 0)) (k := 8) (m := 2) (is := false) (by omega) (by simp [nOks, hh])
             simp only [Int.reduceToNat, Nat.reduceAdd] at e
             rw [e, if_neg hx]; rfl)
          | (have hy : ab0 (gw (wds (v 0)) 3) = true := by assumption
             have hx : avw (gw (wds (v 0)) 3) = true := by rw [← biu hk (by omega)]; exact hy
             have e := kE2 (W := wds (v 0)) (k := 10) (m := 2) (is := false) (by omega) (by simp [nOks, hh])
             simp only [Int.reduceToNat, Nat.reduceAdd] at e
             rw [e, if_pos hx]
             simp [ajw, nV, ajx, hh, acg, ac3])
          | (have hy : ¬ ab0 (gw (wds (v 0)) 3) = true := by assumption
             have hx : ¬ avw (gw (wds (v 0)) 3) = true := by rw [← biu hk (by omega)]; exact hy
             have e := kE2 (W := wds (v 0)) (k := 10) (m := 2) (is := false) (by omega) (by simp [nOks, hh])
             simp only [Int.reduceToNat, Nat.reduceAdd] at e
             rw [e, if_neg hx]; rfl))
       | (rw [be1 (by assumption) (by assumption) (by assumption) (by assumption) (by assumption) (by assumption) (by assumption) (by assumption) (by assumption) (by assumption) (by assumption) (by assumption) (by assumption) (by assumption) (by assumption) (by assumption) hTs h22 hT hk]; rfl))
end Go.Proofs.YtamhchkknlbanaaDoor.Be

namespace Go.Proofs.YtamhchkknlbanaaDoor.Be
open Go.Sx Go.Proofs
set_option maxRecDepth 100000 in
theorem c6 : aaq U Tryd.prog 6 ahw := by
 exact aea (P := Tryd.prog) (U := U) (f := 6) (fn := Tryd.f6) (c := abt Tryd.f6) (S := ahw) (v := r6_v) (outs := r6_o) (hs := hs6) (cx := ⟨ora6, orvK Tryd.prog ora6 10 20 tb6 4, Tb.ent tb6, 10, 20, none, Go.Sx.keyOf 6⟩) mixed ⟨a3e, amq mixed a3e (TbOK.of bkc) 4, (TbOK.of bkc).ent⟩ rfl (aej (by kernel_rfl)) at6.at' at6.body at6.call at6.flow bk6 bj3 bhn
end Go.Proofs.YtamhchkknlbanaaDoor.Be

namespace Go.Proofs.YtamhchkknlbanaaDoor.Be
open Go.Sx Go.Proofs
noncomputable def a9h : Fsp := ⟨[(true, a9j), (true, a9j)], [.ap .eq [.var 0, .var 9], .ap .eq [.var 1, .var 10], .ap .eq [.var 2, .var 11], .ap .eq [.var 3, .var 12], .ap .eq [.var 4, .var 13], .ap .eq [.var 5, .var 14], .ap .eq [.var 6, .var 15], .ap .same [.var 7, .var 16], .ap .same [.var 8, .var 17]], [(false, [.bool])], [([], [[.lit (.bool true)]])], true⟩
noncomputable def lp8 : Lp := ⟨[(.slot 5, .int .i64)], [2, 3, 4], [], fun F H k => [.ap .le [zI, .var k], .ap .le [.var k, .ap .len [.var 8]], .ap .le [.ap .len [.var 8], .ap .len [.var 17]]], fun F H k => .ap (.sub .i64) [.ap .len [.var 8], .var k]⟩
abbrev bfs : List X := [(.ap .le [mnX, (.var 0)]), (.ap .le [(.var 0), mxX]), (.ap .le [mnX, (.var 1)]), (.ap .le [(.var 1), mxX]), (.ap .le [mnX, (.var 2)]), (.ap .le [(.var 2), mxX]), (.ap .le [mnX, (.var 3)]), (.ap .le [(.var 3), mxX]), (.ap .le [(.lit (.int .u8 0)), (.var 5)]), (.ap .le [(.var 5), (.lit (.int .u8 255))]), (.ap .le [mnX, (.var 6)]), (.ap .le [(.var 6), mxX]), (.ap (.typ (.sl [(.int .u8)])) [(.var 7)]), (.ap (.typ (.sl [.bool])) [(.var 8)]), (.ap .le [mnX, (.var 9)]), (.ap .le [(.var 9), mxX]), (.ap .le [mnX, (.var 10)]), (.ap .le [(.var 10), mxX]), (.ap .le [mnX, (.var 11)]), (.ap .le [(.var 11), mxX]), (.ap .le [mnX, (.var 12)]), (.ap .le [(.var 12), mxX]), (.ap .le [(.lit (.int .u8 0)), (.var 14)]), (.ap .le [(.var 14), (.lit (.int .u8 255))]), (.ap .le [mnX, (.var 15)]), (.ap .le [(.var 15), mxX]), (.ap (.typ (.sl [(.int .u8)])) [(.var 16)]), (.ap (.typ (.sl [.bool])) [(.var 17)]), (.ap .eq [(.var 0), (.var 9)]), (.ap .eq [(.var 1), (.var 10)]), (.ap .eq [(.var 2), (.var 11)]), (.ap .eq [(.var 3), (.var 12)]), (.ap .eq [(.var 4), (.var 13)]), (.ap .eq [(.var 5), (.var 14)]), (.ap .eq [(.var 6), (.var 15)]), (.ap .same [(.var 7), (.var 16)]), (.ap .same [(.var 8), (.var 17)])]
abbrev bdx : List X := (.ap .le [(I 0), (.var 18)]) :: (.ap .le [(.var 18), (.ap .len [(.var 8)])]) :: (.ap .le [(.ap .len [(.var 8)]), (.ap .len [(.var 17)])]) :: (.ap .le [(.ap .len [(.var 8)]), (.ap .len [(.var 17)])]) :: (.ap .eq [(.ap .len [(.var 8)]), (.ap .len [(.var 17)])]) :: bfs
set_option maxRecDepth 100000 in
def r8_v : List VC := []
set_option maxRecDepth 100000 in
def r8_o : List (List X × List (List X)) := [(((.ap .not [(.ap .eq [(.ap .len [(.var 8)]), (.ap .len [(.var 17)])])]) :: bfs), [[(.lit (.bool false))]]),
 (((.ap .not [(.ap .eq [(.ap (.cell 0) [(.var 8), (.var 18)]), (.ap (.cell 0) [(.var 17), (.var 18)])])]) :: (.ap .lt [(.var 18), (.ap .len [(.var 8)])]) :: bdx), [[(.lit (.bool false))]]),
 (((.ap .not [(.ap .lt [(.var 18), (.ap .len [(.var 8)])])]) :: bdx), [[(.ap .eq [(.ap .str [(.var 7)]), (.ap .str [(.var 16)])])]])]
set_option maxRecDepth 100000 in
theorem bku : runS Tryd.prog (aex T0) 10 20 ⟨ad9 [(4, lp8)], hintA [(3, fun F H => [.ap .le [.ap .len [.var 8], .ap .len [.var 17]]])]⟩ Tryd.f8 (abt Tryd.f8) a9h = some (r8_v, r8_o) := by kernel_rfl
theorem axc {d : CD} (h : Typ .bool d) : eqC d d = true := by
 obtain ⟨m, u, b, rfl, _⟩ := h
 cases b <;> rfl
set_option maxRecDepth 100000 in
theorem c8 : aaq U Tryd.prog 8 a9h := by
 refine aaq.of (P := Tryd.prog) (U := U) (T := T0) (f := 8) (fn := Tryd.f8) (fuel := 10) (fk := 20) (hs := ⟨ad9 [(4, lp8)], hintA [(3, fun F H => [.ap .le [.ap .len [.var 8], .ap .len [.var 17]]])]⟩) (S := a9h) (v := r8_v) (outs := r8_o) mixed hT0 at8 bku ?_ ?_
 ·unfold r8_v
  exact ac9 _
 ·intro o ho σ hU hh
  obtain ⟨v⟩ := σ
  cases hU
  simp only [r8_o, List.mem_cons, List.not_mem_nil, or_false] at ho
  rcases ho with rfl | rfl | rfl
  all_goals
   refine ⟨_, List.mem_cons_self .., by simp only [aa3, aa6, aa4, aa5, b_lt, b_le, b_eq, aa1, abe, aao, acs, aa7, abb, aa0, w_l0, w_l1, aac, aag, aaz, aae, aad, aam, aal], ?_⟩
   simp only [aa3, aa6, aa4, aa5, abg, acd, ab7, aap, w_wr, b_lt, b_le, b_eq, aa1, adg, b_or, abe, aao, aa2, adn, acs, aan, aa7, abj, w_mk, aat, abq, adl, acz, acy, abb, ac1, ada, aa0, abm, ace, w_l0, w_l1, aac, aag, aaz, aae, aad, aam, aal, aby, abw, abx, abz, adi, ade, ab1, ac0, w_eq, bfs, bdx] at hh
   simp only [List.map_cons, List.map_nil, aa3, aa6, aa4, aa5, abg, acd, ab7, aap, w_wr, b_lt, b_le, b_eq, aa1, adg, b_or, abe, aao, aa2, adn, acs, aan, aa7, abj, w_mk, aat, abq, adl, acz, acy, abb, ac1, ada, aa0, abm, ace, w_l0, w_l1, aac, aag, aaz, aae, aad, aam, aal, aby, abw, abx, abz, adi, ade, ab1, ac0, w_lt, w_le, w_eq, anu, bgy, w_or, a2g, aij, aop]
   have h7 : v 7 = v 16 := by simp only [hh]
   have h8 : v 8 = v 17 := by simp only [hh]
  ·exact absurd (by rw [h8]; exact am2.mpr rfl) hh.1
  ·have hT : Typ (.sl [.bool]) (v 17) := by simp only [hh]
   have h0 : 0 ≤ (v 18).iv := by simp only [hh]
   have hi : (v 18).iv < ((v 17).len : Int) := by rw [← h8]; exact hh.2.1
   refine absurd ?_ hh.1
   rw [h8]
   exact axc (hT.cell h0 hi rfl)
  ·rw [h7]
   have : eqC (.v (.string ⟨((v 16).rows.map ajh).toArray⟩)) (.v (.string ⟨((v 16).rows.map ajh).toArray⟩)) = true := aqj.mpr rfl
   rw [this]
   rfl
end Go.Proofs.YtamhchkknlbanaaDoor.Be

namespace Go.Proofs.YtamhchkknlbanaaDoor.Be
open Go.Sx Go.Proofs
noncomputable def T16 : List (FuncId × Fsp) := [(6, ahw)]
set_option maxRecDepth 100000 in
theorem hT16 : ajr U Tryd.prog T16 := .cons c6 .nil
noncomputable def lp39 : Lp := ⟨[(.slot 5, .int .i64)], [0, 1, 4], [], fun F H k => [.ap .le [zI, .var k], .ap .le [.var k, .ap .len [.ap (.usr 248) [.var 0]]], .ap .le [.ap .len [.ap (.usr 248) [.var 0]], .ap .len [.var 9]]], fun F H k => .ap (.sub .i64) [.ap .len [.ap (.usr 248) [.var 0]], .var k]⟩
noncomputable def bfy : List (FuncId × Inl) := [(38, ⟨Tryd.f38, noH⟩), (39, ⟨Tryd.f39, ⟨ad9 [(4, lp39)], hintA [(3, fun F H => [.ap .le [.ap .len [.ap (.usr 248) [.var 0]], .ap .len [.var 9]]])]⟩⟩)]
set_option maxRecDepth 100000 in
theorem bi6 : ahv U Tryd.prog bfy := .cons (.of at38 (by kernel_rfl)) (.cons (.of at39 (by kernel_rfl)) .nil)
noncomputable def SPs : Fsp := ⟨[(false, [.str]), (true, a9j)], [.ap .le [.ap .slen [.var 0], I 2500], .ap .eq [.ap (.usr 249) [.var 0], I 0], .ap .eq [.ap (.usr 240) [.var 0], .var 1], .ap .eq [.ap (.usr 241) [.var 0], .var 2], .ap .eq [.ap (.usr 242) [.var 0], .var 3], .ap .eq [.ap (.usr 243) [.var 0], .var 4], .ap .eq [.ap (.usr 244) [.var 0], .var 5], .ap .eq [.ap (.usr 245) [.var 0], .var 6], .ap .eq [.ap (.usr 246) [.var 0], .var 7], .ap .same [.ap (.usr 247) [.var 0], .var 8], .ap .same [.ap (.usr 248) [.var 0], .var 9]], [(false, [.bool])], [([], [[.lit (.bool true)]])], true⟩
abbrev ay3 : List X := [(.ap .le [mnX, (.ap (.usr 240) [(.var 0)])]), (.ap .le [(.ap (.usr 240) [(.var 0)]), mxX]), (.ap .le [mnX, (.ap (.usr 241) [(.var 0)])]), (.ap .le [(.ap (.usr 241) [(.var 0)]), mxX]), (.ap .le [mnX, (.ap (.usr 242) [(.var 0)])]), (.ap .le [(.ap (.usr 242) [(.var 0)]), mxX]), (.ap .le [mnX, (.ap (.usr 243) [(.var 0)])]), (.ap .le [(.ap (.usr 243) [(.var 0)]), mxX]), (.ap .le [(.lit (.int .u8 0)), (.ap (.usr 245) [(.var 0)])]), (.ap .le [(.ap (.usr 245) [(.var 0)]), (.lit (.int .u8 255))]), (.ap .le [mnX, (.ap (.usr 246) [(.var 0)])]), (.ap .le [(.ap (.usr 246) [(.var 0)]), mxX]), (.ap (.typ (.sl [(.int .u8)])) [(.ap (.usr 247) [(.var 0)])]), (.ap (.typ (.sl [.bool])) [(.ap (.usr 248) [(.var 0)])]), (.ap .le [mnX, (.ap (.usr 249) [(.var 0)])]), (.ap .le [(.ap (.usr 249) [(.var 0)]), mxX]), (.ap (.typ .str) [(.var 0)]), (.ap .le [mnX, (.var 1)]), (.ap .le [(.var 1), mxX]), (.ap .le [mnX, (.var 2)]), (.ap .le [(.var 2), mxX]), (.ap .le [mnX, (.var 3)]), (.ap .le [(.var 3), mxX]), (.ap .le [mnX, (.var 4)]), (.ap .le [(.var 4), mxX]), (.ap .le [(.lit (.int .u8 0)), (.var 6)]), (.ap .le [(.var 6), (.lit (.int .u8 255))]), (.ap .le [mnX, (.var 7)]), (.ap .le [(.var 7), mxX]), (.ap (.typ (.sl [(.int .u8)])) [(.var 8)]), (.ap (.typ (.sl [.bool])) [(.var 9)]), (.ap .le [(.ap .slen [(.var 0)]), (I 2500)]), (.ap .eq [(.ap (.usr 249) [(.var 0)]), (I 0)]), (.ap .eq [(.ap (.usr 240) [(.var 0)]), (.var 1)]), (.ap .eq [(.ap (.usr 241) [(.var 0)]), (.var 2)]), (.ap .eq [(.ap (.usr 242) [(.var 0)]), (.var 3)]), (.ap .eq [(.ap (.usr 243) [(.var 0)]), (.var 4)]), (.ap .eq [(.ap (.usr 244) [(.var 0)]), (.var 5)]), (.ap .eq [(.ap (.usr 245) [(.var 0)]), (.var 6)]), (.ap .eq [(.ap (.usr 246) [(.var 0)]), (.var 7)]), (.ap .same [(.ap (.usr 247) [(.var 0)]), (.var 8)]), (.ap .same [(.ap (.usr 248) [(.var 0)]), (.var 9)])]
abbrev a4t : List X := (.ap .le [(I 0), (.var 10)]) :: (.ap .le [(.var 10), (.ap .len [(.ap (.usr 248) [(.var 0)])])]) :: (.ap .le [(.ap .len [(.ap (.usr 248) [(.var 0)])]), (.ap .len [(.var 9)])]) :: (.ap .le [(.ap .len [(.ap (.usr 248) [(.var 0)])]), (.ap .len [(.var 9)])]) :: (.ap .eq [(.ap .len [(.ap (.usr 248) [(.var 0)])]), (.ap .len [(.var 9)])]) :: (.ap .eq [(.ap .str [(.ap (.usr 247) [(.var 0)])]), (.ap .str [(.var 8)])]) :: ay3
set_option maxRecDepth 100000 in
def bf6 : List VC := []
set_option maxRecDepth 100000 in
def bga : List (List X × List (List X)) := [(((.ap .not [(.ap .eq [(.ap .len [(.ap (.usr 248) [(.var 0)])]), (.ap .len [(.var 9)])])]) :: (.ap .eq [(.ap .str [(.ap (.usr 247) [(.var 0)])]), (.ap .str [(.var 8)])]) :: ay3), [[(.lit (.bool false))]]),
 (((.ap .not [(.ap .eq [(.ap (.cell 0) [(.ap (.usr 248) [(.var 0)]), (.var 10)]), (.ap (.cell 0) [(.var 9), (.var 10)])])]) :: (.ap .lt [(.var 10), (.ap .len [(.ap (.usr 248) [(.var 0)])])]) :: a4t), [[(.lit (.bool false))]]),
 (((.ap .not [(.ap .lt [(.var 10), (.ap .len [(.ap (.usr 248) [(.var 0)])])])]) :: a4t), [[(.lit (.bool true))]]),
 (((.ap .not [(.ap .eq [(.ap .str [(.ap (.usr 247) [(.var 0)])]), (.ap .str [(.var 8)])])]) :: ay3), [[(.lit (.bool false))]])]
set_option maxRecDepth 100000 in
theorem bjx : runV Tryd.prog (cxOf Tryd.prog (aex (tab T16)) 10 20 ⟨aj0 bfy, noY, U.lc⟩ 3 16) noH Tryd.f16 (abt Tryd.f16) SPs = some (bf6, bga) := by kernel_rfl
set_option maxRecDepth 100000 in
theorem c16 : aaq U Tryd.prog 16 SPs := by
 refine aaq.ofV (P := Tryd.prog) (U := U) (T := (tab T16)) (l := bfy) (y := noY) (dp := 3) (f := 16) (fn := Tryd.f16) (fuel := 10) (fk := 20) (hs := noH) (S := SPs) (v := bf6) (outs := bga) mixed hT16 bi6 at16 (aej (by kernel_rfl)) bjx ?_ ?_
 ·unfold bf6
  exact ac9 _
 ·intro o ho σ hU hh
  obtain ⟨v⟩ := σ
  cases hU
  simp only [bga, List.mem_cons, List.not_mem_nil, or_false] at ho
  rcases ho with rfl | rfl | rfl | rfl
  all_goals
   refine ⟨_, List.mem_cons_self .., by simp only [aa3, aa6, aa4, aa5, abg, acd, ab7, aap, w_wr, b_lt, b_le, b_eq, aa1, adg, b_or, abe, aao, aa2, adn, acs, aan, aa7, abj, w_mk, aat, abq, adl, acz, acy, abb, ac1, ada, aa0, abm, ace, w_l0, w_l1, aac, aag, aaz, aae, aad, aam, aal, aby, abw, abx, abz, adi, ade, ab1, ac0], ?_⟩
   simp only [aa3, aa6, aa4, aa5, abg, acd, ab7, aap, w_wr, b_lt, b_le, b_eq, aa1, adg, b_or, abe, aao, aa2, adn, acs, aan, aa7, abj, w_mk, aat, abq, adl, acz, acy, abb, ac1, ada, aa0, abm, ace, w_l0, w_l1, aac, aag, aaz, aae, aad, aam, aal, aby, abw, abx, abz, adi, ade, ab1, ac0, w_eq, ay3, a4t] at hh
   have h7 : @Us.u U 247 [v 0] = v 8 := by simp only [hh]
   have h8 : @Us.u U 248 [v 0] = v 9 := by simp only [hh]
  ·exact absurd (by rw [h8]; exact am2.mpr rfl) hh.1
  ·have hT : Typ (.sl [.bool]) (v 9) := by simp only [hh]
   have h0 : 0 ≤ (v 10).iv := by simp only [hh]
   have hi : (v 10).iv < ((v 9).len : Int) := by rw [← h8]; exact hh.2.1
   refine absurd ?_ hh.1
   rw [h8]
   exact axc (hT.cell h0 hi rfl)
  ·rfl
  ·refine absurd ?_ hh.1
   rw [h7]
   exact aqj.mpr rfl
noncomputable def SRf : Fsp := ⟨[(false, [.str]), (false, [sI])], [.ap .le [.ap .slen [.var 0], I 2500], .ap .eq [.ap (.usr 249) [.var 0], .var 1]], [(false, [.bool])], [([], [[.lit (.bool true)]])], true⟩
set_option maxRecDepth 100000 in
def bhd : List VC := []
set_option maxRecDepth 100000 in
def bgc : List (List X × List (List X)) := [([(.ap .le [mnX, (.ap (.usr 240) [(.var 0)])]), (.ap .le [(.ap (.usr 240) [(.var 0)]), mxX]), (.ap .le [mnX, (.ap (.usr 241) [(.var 0)])]), (.ap .le [(.ap (.usr 241) [(.var 0)]), mxX]), (.ap .le [mnX, (.ap (.usr 242) [(.var 0)])]), (.ap .le [(.ap (.usr 242) [(.var 0)]), mxX]), (.ap .le [mnX, (.ap (.usr 243) [(.var 0)])]), (.ap .le [(.ap (.usr 243) [(.var 0)]), mxX]), (.ap .le [(.lit (.int .u8 0)), (.ap (.usr 245) [(.var 0)])]), (.ap .le [(.ap (.usr 245) [(.var 0)]), (.lit (.int .u8 255))]), (.ap .le [mnX, (.ap (.usr 246) [(.var 0)])]), (.ap .le [(.ap (.usr 246) [(.var 0)]), mxX]), (.ap (.typ (.sl [(.int .u8)])) [(.ap (.usr 247) [(.var 0)])]), (.ap (.typ (.sl [.bool])) [(.ap (.usr 248) [(.var 0)])]), (.ap .le [mnX, (.ap (.usr 249) [(.var 0)])]), (.ap .le [(.ap (.usr 249) [(.var 0)]), mxX]), (.ap (.typ .str) [(.var 0)]), (.ap .le [mnX, (.var 1)]), (.ap .le [(.var 1), mxX]), (.ap .le [(.ap .slen [(.var 0)]), (I 2500)]), (.ap .eq [(.ap (.usr 249) [(.var 0)]), (.var 1)])], [[(.ap .eq [(.ap (.usr 249) [(.var 0)]), (.var 1)])]])]
set_option maxRecDepth 100000 in
theorem bh9 : runS Tryd.prog (aex (tab T16)) 10 20 noH Tryd.f28 (abt Tryd.f28) SRf = some (bhd, bgc) := by kernel_rfl
set_option maxRecDepth 100000 in
theorem c28 : aaq U Tryd.prog 28 SRf := by
  refine aaq.of (P := Tryd.prog) (U := U) (T := (tab T16)) (f := 28) (fn := Tryd.f28) (fuel := 10) (fk := 20) (hs := noH) (S := SRf) (v := bhd) (outs := bgc) mixed hT16 at28 bh9 ?_ ?_
  · unfold bhd
    exact ac9 _
  · intro o ho σ hU hh
    obtain ⟨v⟩ := σ
    cases hU
    simp only [bgc, List.mem_cons, List.not_mem_nil, or_false] at ho
    subst ho
    refine ⟨_, List.mem_cons_self .., by simp only [aa3, aa6, aa4, aa5, abg, acd, ab7, aap, w_wr, b_lt, b_le, b_eq, aa1, adg, b_or, abe, aao, aa2, adn, acs, aan, aa7, abj, w_mk, aat, abq, adl, acz, acy, abb, ac1, ada, aa0, abm, ace, w_l0, w_l1, aac, aag, aaz, aae, aad, aam, aal, aby, abw, abx, abz, adi, ade, ab1, ac0], ?_⟩
    simp only [aa3, aa6, aa4, aa5, abg, acd, ab7, aap, w_wr, b_lt, b_le, b_eq, aa1, adg, b_or, abe, aao, aa2, adn, acs, aan, aa7, abj, w_mk, aat, abq, adl, acz, acy, abb, ac1, ada, aa0, abm, ace, w_l0, w_l1, aac, aag, aaz, aae, aad, aam, aal, aby, abw, abx, abz, adi, ade, ab1, ac0, w_eq] at hh
    first
    | rfl
    | (have : eqC (@Us.u U 249 [v 0]) (v 1) = true := by simp only [hh]
       simp only [List.map_cons, List.map_nil, aa3, aa6, aa4, aa5, abg, acd, ab7, aap, w_wr, b_lt, b_le, b_eq, aa1, adg, b_or, abe, aao, aa2, adn, acs, aan, aa7, abj, w_mk, aat, abq, adl, acz, acy, abb, ac1, ada, aa0, abm, ace, w_l0, w_l1, aac, aag, aaz, aae, aad, aam, aal, aby, abw, abx, abz, adi, ade, ab1, ac0, w_lt, w_le, w_eq, anu, bgy, w_or, a2g, aij, aop, this]
       rfl)
abbrev xCut : X := (.lit (.string ⟨⟨[99, 117, 116, 32, 48, 32, 49]⟩⟩))
abbrev an5 : X := (.lit (.string ⟨⟨[106, 111, 105, 110, 32, 48, 32, 49]⟩⟩))
abbrev bh5 : X := (.lit (.string ⟨⟨[116, 105, 99, 107]⟩⟩))
abbrev xX : X := (.lit (.string ⟨⟨[120]⟩⟩))
theorem pCut : aaj (.v (.string ⟨⟨[99, 117, 116, 32, 48, 32, 49]⟩⟩)) = [vInt .i64 7, vInt .i64 0, vInt .i64 0, vInt .i64 1, aaf true, vInt .u8 0, vInt .i64 0, CD.sl true [], CD.sl true [], vInt .i64 0] := by
 unfold aaj line
 rw [by_v]
 kernel_rfl
theorem bko : ((CD.v (.string ⟨⟨[99, 117, 116, 32, 48, 32, 49]⟩⟩)).slen : Int) ≤ 2500 := by
 rw [al5 rfl (by show 7 ≤ maxN; unfold maxN; omega)]
 show ((7 : Nat) : Int) ≤ 2500
 omega
theorem bkx : aaj (.v (.string ⟨⟨[106, 111, 105, 110, 32, 48, 32, 49]⟩⟩)) = [vInt .i64 7, vInt .i64 0, vInt .i64 0, vInt .i64 1, aaf false, vInt .u8 0, vInt .i64 0, CD.sl true [], CD.sl true [], vInt .i64 0] := by
 unfold aaj line
 rw [by_v]
 kernel_rfl
theorem bhe : ((CD.v (.string ⟨⟨[106, 111, 105, 110, 32, 48, 32, 49]⟩⟩)).slen : Int) ≤ 2500 := by
 rw [al5 rfl (by show 8 ≤ maxN; unfold maxN; omega)]
 show ((8 : Nat) : Int) ≤ 2500
 omega
theorem bli : aaj (.v (.string ⟨⟨[116, 105, 99, 107]⟩⟩)) = aeu 2 := by
 unfold aaj line
 rw [by_v]
 kernel_rfl
theorem bez : ((CD.v (.string ⟨⟨[116, 105, 99, 107]⟩⟩)).slen : Int) ≤ 2500 := by
 rw [al5 rfl (by show 4 ≤ maxN; unfold maxN; omega)]
 show ((4 : Nat) : Int) ≤ 2500
 omega
theorem pX : aaj (.v (.string ⟨⟨[120]⟩⟩)) = aeu 6 := by
 unfold aaj line
 rw [by_v]
 kernel_rfl
theorem pX_l : ((CD.v (.string ⟨⟨[120]⟩⟩)).slen : Int) ≤ 2500 := by
 rw [al5 rfl (by show 1 ≤ maxN; unfold maxN; omega)]
 show ((1 : Nat) : Int) ≤ 2500
 omega
noncomputable def T9 : List (FuncId × Fsp) := [(16, SPs), (28, SRf)]
set_option maxRecDepth 100000 in
theorem hT9 : ajr U Tryd.prog T9 := .cons c16 (.cons c28 .nil)
noncomputable def SAwk : Fsp := ⟨[], [], [(false, [.bool])], [([], [[.lit (.bool true)]])], true⟩
noncomputable def hs9 : Hs := ⟨ad9 [], hintA [(1, fun F H => [.ap .le [.ap .slen [xCut], I 2500], .ap .eq [.ap (.usr 249) [xCut], I 0], .ap .eq [.ap (.usr 240) [xCut], I 7], .ap .eq [.ap (.usr 241) [xCut], I 0], .ap .eq [.ap (.usr 242) [xCut], I 0], .ap .eq [.ap (.usr 243) [xCut], I 1], .ap .eq [.ap (.usr 244) [xCut], .lit (.bool true)], .ap .eq [.ap (.usr 245) [xCut], .lit (.int .u8 0)], .ap .eq [.ap (.usr 246) [xCut], I 0], .ap .same [.ap (.usr 247) [xCut], .ap (.nil true) []], .ap .same [.ap (.usr 248) [xCut], .ap (.nil true) []], .ap .le [.ap .slen [an5], I 2500], .ap .eq [.ap (.usr 249) [an5], I 0], .ap .eq [.ap (.usr 240) [an5], I 7], .ap .eq [.ap (.usr 241) [an5], I 0], .ap .eq [.ap (.usr 242) [an5], I 0], .ap .eq [.ap (.usr 243) [an5], I 1], .ap .eq [.ap (.usr 244) [an5], .lit (.bool false)], .ap .eq [.ap (.usr 245) [an5], .lit (.int .u8 0)], .ap .eq [.ap (.usr 246) [an5], I 0], .ap .same [.ap (.usr 247) [an5], .ap (.nil true) []], .ap .same [.ap (.usr 248) [an5], .ap (.nil true) []], .ap .le [.ap .slen [bh5], I 2500], .ap .eq [.ap (.usr 249) [bh5], I 2], .ap .le [.ap .slen [xX], I 2500], .ap .eq [.ap (.usr 249) [xX], I 6]])]⟩
set_option maxRecDepth 100000 in
def r9_v : List VC := [([], (.ap .le [(.ap .slen [(.lit (.string (.mk (.mk [99, 117, 116, 32, 48, 32, 49]))))]), (I 2500)])),
 ([], (.ap .eq [(.ap (.usr 249) [(.lit (.string (.mk (.mk [99, 117, 116, 32, 48, 32, 49]))))]), (I 0)])),
 ([], (.ap .eq [(.ap (.usr 240) [(.lit (.string (.mk (.mk [99, 117, 116, 32, 48, 32, 49]))))]), (I 7)])),
 ([], (.ap .eq [(.ap (.usr 241) [(.lit (.string (.mk (.mk [99, 117, 116, 32, 48, 32, 49]))))]), (I 0)])),
 ([], (.ap .eq [(.ap (.usr 242) [(.lit (.string (.mk (.mk [99, 117, 116, 32, 48, 32, 49]))))]), (I 0)])),
 ([], (.ap .eq [(.ap (.usr 243) [(.lit (.string (.mk (.mk [99, 117, 116, 32, 48, 32, 49]))))]), (I 1)])),
 ([], (.ap .eq [(.ap (.usr 244) [(.lit (.string (.mk (.mk [99, 117, 116, 32, 48, 32, 49]))))]), (.lit (.bool true))])),
 ([], (.ap .eq [(.ap (.usr 245) [(.lit (.string (.mk (.mk [99, 117, 116, 32, 48, 32, 49]))))]), (.lit (.int .u8 0))])),
 ([], (.ap .eq [(.ap (.usr 246) [(.lit (.string (.mk (.mk [99, 117, 116, 32, 48, 32, 49]))))]), (I 0)])),
 ([], (.ap .same [(.ap (.usr 247) [(.lit (.string (.mk (.mk [99, 117, 116, 32, 48, 32, 49]))))]), (.ap (.nil true) [])])),
 ([], (.ap .same [(.ap (.usr 248) [(.lit (.string (.mk (.mk [99, 117, 116, 32, 48, 32, 49]))))]), (.ap (.nil true) [])])),
 ([], (.ap .le [(.ap .slen [(.lit (.string (.mk (.mk [106, 111, 105, 110, 32, 48, 32, 49]))))]), (I 2500)])),
 ([], (.ap .eq [(.ap (.usr 249) [(.lit (.string (.mk (.mk [106, 111, 105, 110, 32, 48, 32, 49]))))]), (I 0)])),
 ([], (.ap .eq [(.ap (.usr 240) [(.lit (.string (.mk (.mk [106, 111, 105, 110, 32, 48, 32, 49]))))]), (I 7)])),
 ([], (.ap .eq [(.ap (.usr 241) [(.lit (.string (.mk (.mk [106, 111, 105, 110, 32, 48, 32, 49]))))]), (I 0)])),
 ([], (.ap .eq [(.ap (.usr 242) [(.lit (.string (.mk (.mk [106, 111, 105, 110, 32, 48, 32, 49]))))]), (I 0)])),
 ([], (.ap .eq [(.ap (.usr 243) [(.lit (.string (.mk (.mk [106, 111, 105, 110, 32, 48, 32, 49]))))]), (I 1)])),
 ([], (.ap .eq [(.ap (.usr 244) [(.lit (.string (.mk (.mk [106, 111, 105, 110, 32, 48, 32, 49]))))]), (.lit (.bool false))])),
 ([], (.ap .eq [(.ap (.usr 245) [(.lit (.string (.mk (.mk [106, 111, 105, 110, 32, 48, 32, 49]))))]), (.lit (.int .u8 0))])),
 ([], (.ap .eq [(.ap (.usr 246) [(.lit (.string (.mk (.mk [106, 111, 105, 110, 32, 48, 32, 49]))))]), (I 0)])),
 ([], (.ap .same [(.ap (.usr 247) [(.lit (.string (.mk (.mk [106, 111, 105, 110, 32, 48, 32, 49]))))]), (.ap (.nil true) [])])),
 ([], (.ap .same [(.ap (.usr 248) [(.lit (.string (.mk (.mk [106, 111, 105, 110, 32, 48, 32, 49]))))]), (.ap (.nil true) [])])),
 ([], (.ap .le [(.ap .slen [(.lit (.string (.mk (.mk [116, 105, 99, 107]))))]), (I 2500)])),
 ([], (.ap .eq [(.ap (.usr 249) [(.lit (.string (.mk (.mk [116, 105, 99, 107]))))]), (I 2)])),
 ([], (.ap .le [(.ap .slen [(.lit (.string (.mk (.mk [120]))))]), (I 2500)])),
 ([], (.ap .eq [(.ap (.usr 249) [(.lit (.string (.mk (.mk [120]))))]), (I 6)]))]
set_option maxRecDepth 100000 in
def r9_o : List (List X × List (List X)) := [([(.ap .le [(.ap .slen [(.lit (.string (.mk (.mk [99, 117, 116, 32, 48, 32, 49]))))]), (I 2500)]), (.ap .eq [(.ap (.usr 249) [(.lit (.string (.mk (.mk [99, 117, 116, 32, 48, 32, 49]))))]), (I 0)]), (.ap .eq [(.ap (.usr 240) [(.lit (.string (.mk (.mk [99, 117, 116, 32, 48, 32, 49]))))]), (I 7)]), (.ap .eq [(.ap (.usr 241) [(.lit (.string (.mk (.mk [99, 117, 116, 32, 48, 32, 49]))))]), (I 0)]), (.ap .eq [(.ap (.usr 242) [(.lit (.string (.mk (.mk [99, 117, 116, 32, 48, 32, 49]))))]), (I 0)]), (.ap .eq [(.ap (.usr 243) [(.lit (.string (.mk (.mk [99, 117, 116, 32, 48, 32, 49]))))]), (I 1)]), (.ap .eq [(.ap (.usr 244) [(.lit (.string (.mk (.mk [99, 117, 116, 32, 48, 32, 49]))))]), (.lit (.bool true))]), (.ap .eq [(.ap (.usr 245) [(.lit (.string (.mk (.mk [99, 117, 116, 32, 48, 32, 49]))))]), (.lit (.int .u8 0))]), (.ap .eq [(.ap (.usr 246) [(.lit (.string (.mk (.mk [99, 117, 116, 32, 48, 32, 49]))))]), (I 0)]), (.ap .same [(.ap (.usr 247) [(.lit (.string (.mk (.mk [99, 117, 116, 32, 48, 32, 49]))))]), (.ap (.nil true) [])]), (.ap .same [(.ap (.usr 248) [(.lit (.string (.mk (.mk [99, 117, 116, 32, 48, 32, 49]))))]), (.ap (.nil true) [])]), (.ap .le [(.ap .slen [(.lit (.string (.mk (.mk [106, 111, 105, 110, 32, 48, 32, 49]))))]), (I 2500)]), (.ap .eq [(.ap (.usr 249) [(.lit (.string (.mk (.mk [106, 111, 105, 110, 32, 48, 32, 49]))))]), (I 0)]), (.ap .eq [(.ap (.usr 240) [(.lit (.string (.mk (.mk [106, 111, 105, 110, 32, 48, 32, 49]))))]), (I 7)]), (.ap .eq [(.ap (.usr 241) [(.lit (.string (.mk (.mk [106, 111, 105, 110, 32, 48, 32, 49]))))]), (I 0)]), (.ap .eq [(.ap (.usr 242) [(.lit (.string (.mk (.mk [106, 111, 105, 110, 32, 48, 32, 49]))))]), (I 0)]), (.ap .eq [(.ap (.usr 243) [(.lit (.string (.mk (.mk [106, 111, 105, 110, 32, 48, 32, 49]))))]), (I 1)]), (.ap .eq [(.ap (.usr 244) [(.lit (.string (.mk (.mk [106, 111, 105, 110, 32, 48, 32, 49]))))]), (.lit (.bool false))]), (.ap .eq [(.ap (.usr 245) [(.lit (.string (.mk (.mk [106, 111, 105, 110, 32, 48, 32, 49]))))]), (.lit (.int .u8 0))]), (.ap .eq [(.ap (.usr 246) [(.lit (.string (.mk (.mk [106, 111, 105, 110, 32, 48, 32, 49]))))]), (I 0)]), (.ap .same [(.ap (.usr 247) [(.lit (.string (.mk (.mk [106, 111, 105, 110, 32, 48, 32, 49]))))]), (.ap (.nil true) [])]), (.ap .same [(.ap (.usr 248) [(.lit (.string (.mk (.mk [106, 111, 105, 110, 32, 48, 32, 49]))))]), (.ap (.nil true) [])]), (.ap .le [(.ap .slen [(.lit (.string (.mk (.mk [116, 105, 99, 107]))))]), (I 2500)]), (.ap .eq [(.ap (.usr 249) [(.lit (.string (.mk (.mk [116, 105, 99, 107]))))]), (I 2)]), (.ap .le [(.ap .slen [(.lit (.string (.mk (.mk [120]))))]), (I 2500)]), (.ap .eq [(.ap (.usr 249) [(.lit (.string (.mk (.mk [120]))))]), (I 6)])], [[(.lit (.bool true))]])]
set_option maxRecDepth 100000 in
theorem bkr : runS Tryd.prog (aex (tab T9)) 10 20 hs9 Tryd.f9 (abt Tryd.f9) SAwk = some (r9_v, r9_o) := by kernel_rfl
set_option maxHeartbeats 1000000 in
set_option maxRecDepth 100000 in
theorem c9 : aaq U Tryd.prog 9 SAwk := by
 refine aaq.of (P := Tryd.prog) (U := U) (T := (tab T9)) (f := 9) (fn := Tryd.f9) (fuel := 10) (fk := 20) (hs := hs9) (S := SAwk) (v := r9_v) (outs := r9_o) mixed hT9 at9 bkr ?_ ?_
 ·unfold r9_v
  repeat' (first | exact ac9 _ | refine ado (fun v hh => ?_) ?_)
  all_goals
   simp only [aa3, aa6, aa4, aa5, abg, acd, ab7, aap, w_wr, b_lt, b_le, b_eq, aa1, adg, b_or, abe, aao, aa2, adn, acs, aan, aa7, abj, w_mk, aat, abq, adl, acz, acy, abb, ac1, ada, aa0, abm, ace, w_l0, w_l1, aac, aag, aaz, aae, aad, aam, aal, aby, abw, abx, abz, adi, ade, ab1, ac0, w_eq, a9x, bbg, bbk, a9b, a9c, bab, a8x, a8j, a9f, a8d, pCut, bkx, bli, pX]
   first | exact bko | exact bhe | exact bez | exact pX_l | rfl
 ·intro o ho σ hU hh
  obtain ⟨v⟩ := σ
  cases hU
  simp only [r9_o, List.mem_cons, List.not_mem_nil, or_false] at ho
  subst ho
  exact ⟨_, List.mem_cons_self .., by simp only [aa3, aa6, aa4, aa5, abg, acd, ab7, aap, w_wr, b_lt, b_le, b_eq, aa1, adg, b_or, abe, aao, aa2, adn, acs, aan, aa7, abj, w_mk, aat, abq, adl, acz, acy, abb, ac1, ada, aa0, abm, ace, w_l0, w_l1, aac, aag, aaz, aae, aad, aam, aal, aby, abw, abx, abz, adi, ade, ab1, ac0], rfl⟩
def okR (l : List CD) : Bool := eqC (l.getD 0 default) (l.getD 0 default) && (eqC (l.getD 1 default) (l.getD 1 default) && (eqC (l.getD 2 default) (l.getD 2 default) && (eqC (l.getD 3 default) (l.getD 3 default) && (eqC (l.getD 4 default) (l.getD 4 default) && (eqC (l.getD 5 default) (l.getD 5 default) && (eqC (l.getD 6 default) (l.getD 6 default) && eqC (l.getD 9 default) (l.getD 9 default)))))))
theorem bi0 {k : IntKind} {z : Int} : eqC (vInt k z) (vInt k z) = true := am2.mpr rfl
theorem bjb {b : Bool} : eqC (aaf b) (aaf b) = true := by cases b <;> rfl
theorem bdb {k a b c m o e : Int} {s : Bool} {x y : CD} {q1 q2 q3 q4 q5 q6 q7 : IntKind} : okR [vInt q1 k, vInt q2 a, vInt q3 b, vInt q4 c, aaf s, vInt q5 m, vInt q6 o, x, y, vInt q7 e] = true := by
 unfold okR
 simp only [List.getD_cons_zero, List.getD_cons_succ, bi0, bjb, Bool.and_self]
theorem ak2 {e : Int} : okR (aeu e) = true := bdb
theorem a99 {k : Int} {v : Nat → Int} {is : Bool} {b e : CD} : okR (ajw k v is b e) = true := by
 unfold ajw
 repeat' split
 all_goals exact bdb
theorem bk4 {W : List (List UInt8)} {k m r : Int} {is : Bool} : okR (aau W k m r is) = true := by
 unfold aau
 repeat' split
 all_goals first | exact ak2 | exact a99
theorem blj (d : CD) : okR (aaj d) = true := by
 unfold aaj
 split
 ·exact ak2
 ·split
  ·unfold atm
   split
   ·exact ak2
   ·exact bk4
  ·exact ak2
noncomputable def T3 : List (FuncId × Fsp) := [(6, ahw), (7, ahw), (8, a9h), (9, SAwk)]
set_option maxRecDepth 100000 in
theorem hT3 : ajr U Tryd.prog T3 := .cons c6 (.cons c7 (.cons c8 (.cons c9 .nil)))
abbrev pX' (j : Nat) : X := .ap (.usr j) [.var 0]
noncomputable def hs3 : Hs := ⟨ad9 [], hintA [(5, fun F H => [.ap .eq [pX' 240, pX' 240], .ap .eq [pX' 241, pX' 241], .ap .eq [pX' 242, pX' 242], .ap .eq [pX' 243, pX' 243], .ap .eq [pX' 244, pX' 244], .ap .eq [pX' 245, pX' 245], .ap .eq [pX' 246, pX' 246], .ap .eq [pX' 249, pX' 249], .ap .same [pX' 247, pX' 247], .ap .same [pX' 248, pX' 248]])]⟩
noncomputable def SLaw : Fsp := ⟨[(false, [.str])], [], [(false, [.bool])], [([], [[.lit (.bool true)]])], true⟩
abbrev alq : List X := [(.ap .le [mnX, (.ap (.usr 240) [(.var 0)])]), (.ap .le [(.ap (.usr 240) [(.var 0)]), mxX]), (.ap .le [mnX, (.ap (.usr 241) [(.var 0)])]), (.ap .le [(.ap (.usr 241) [(.var 0)]), mxX]), (.ap .le [mnX, (.ap (.usr 242) [(.var 0)])]), (.ap .le [(.ap (.usr 242) [(.var 0)]), mxX]), (.ap .le [mnX, (.ap (.usr 243) [(.var 0)])]), (.ap .le [(.ap (.usr 243) [(.var 0)]), mxX]), (.ap .le [(.lit (.int .u8 0)), (.ap (.usr 245) [(.var 0)])]), (.ap .le [(.ap (.usr 245) [(.var 0)]), (.lit (.int .u8 255))]), (.ap .le [mnX, (.ap (.usr 246) [(.var 0)])]), (.ap .le [(.ap (.usr 246) [(.var 0)]), mxX]), (.ap (.typ (.sl [(.int .u8)])) [(.ap (.usr 247) [(.var 0)])]), (.ap (.typ (.sl [.bool])) [(.ap (.usr 248) [(.var 0)])]), (.ap .le [mnX, (.ap (.usr 249) [(.var 0)])]), (.ap .le [(.ap (.usr 249) [(.var 0)]), mxX]), (.ap .le [mnX, (.ap (.usr 240) [(.var 0)])]), (.ap .le [(.ap (.usr 240) [(.var 0)]), mxX]), (.ap .le [mnX, (.ap (.usr 241) [(.var 0)])]), (.ap .le [(.ap (.usr 241) [(.var 0)]), mxX]), (.ap .le [mnX, (.ap (.usr 242) [(.var 0)])]), (.ap .le [(.ap (.usr 242) [(.var 0)]), mxX]), (.ap .le [mnX, (.ap (.usr 243) [(.var 0)])]), (.ap .le [(.ap (.usr 243) [(.var 0)]), mxX]), (.ap .le [(.lit (.int .u8 0)), (.ap (.usr 245) [(.var 0)])]), (.ap .le [(.ap (.usr 245) [(.var 0)]), (.lit (.int .u8 255))]), (.ap .le [mnX, (.ap (.usr 246) [(.var 0)])]), (.ap .le [(.ap (.usr 246) [(.var 0)]), mxX]), (.ap (.typ (.sl [(.int .u8)])) [(.ap (.usr 247) [(.var 0)])]), (.ap (.typ (.sl [.bool])) [(.ap (.usr 248) [(.var 0)])]), (.ap .le [mnX, (.ap (.usr 249) [(.var 0)])]), (.ap .le [(.ap (.usr 249) [(.var 0)]), mxX]), (.ap .not [(.ap .lt [(I 2500), (.ap .slen [(.var 0)])])]), (.ap (.typ .str) [(.var 0)])]
set_option maxRecDepth 100000 in
def r3_v : List VC := [(alq, (.ap .eq [(.ap (.usr 240) [(.var 0)]), (.ap (.usr 240) [(.var 0)])])),
 (alq, (.ap .eq [(.ap (.usr 241) [(.var 0)]), (.ap (.usr 241) [(.var 0)])])),
 (alq, (.ap .eq [(.ap (.usr 242) [(.var 0)]), (.ap (.usr 242) [(.var 0)])])),
 (alq, (.ap .eq [(.ap (.usr 243) [(.var 0)]), (.ap (.usr 243) [(.var 0)])])),
 (alq, (.ap .eq [(.ap (.usr 244) [(.var 0)]), (.ap (.usr 244) [(.var 0)])])),
 (alq, (.ap .eq [(.ap (.usr 245) [(.var 0)]), (.ap (.usr 245) [(.var 0)])])),
 (alq, (.ap .eq [(.ap (.usr 246) [(.var 0)]), (.ap (.usr 246) [(.var 0)])])),
 (alq, (.ap .eq [(.ap (.usr 249) [(.var 0)]), (.ap (.usr 249) [(.var 0)])])),
 (alq, (.ap .same [(.ap (.usr 247) [(.var 0)]), (.ap (.usr 247) [(.var 0)])])),
 (alq, (.ap .same [(.ap (.usr 248) [(.var 0)]), (.ap (.usr 248) [(.var 0)])]))]
set_option maxRecDepth 100000 in
def r3_o : List (List X × List (List X)) := [([(.ap .lt [(I 2500), (.ap .slen [(.var 0)])]), (.ap (.typ .str) [(.var 0)])], [[(.lit (.bool true))]]),
 (((.ap .eq [(.ap (.usr 240) [(.var 0)]), (.ap (.usr 240) [(.var 0)])]) :: (.ap .eq [(.ap (.usr 241) [(.var 0)]), (.ap (.usr 241) [(.var 0)])]) :: (.ap .eq [(.ap (.usr 242) [(.var 0)]), (.ap (.usr 242) [(.var 0)])]) :: (.ap .eq [(.ap (.usr 243) [(.var 0)]), (.ap (.usr 243) [(.var 0)])]) :: (.ap .eq [(.ap (.usr 244) [(.var 0)]), (.ap (.usr 244) [(.var 0)])]) :: (.ap .eq [(.ap (.usr 245) [(.var 0)]), (.ap (.usr 245) [(.var 0)])]) :: (.ap .eq [(.ap (.usr 246) [(.var 0)]), (.ap (.usr 246) [(.var 0)])]) :: (.ap .eq [(.ap (.usr 249) [(.var 0)]), (.ap (.usr 249) [(.var 0)])]) :: (.ap .same [(.ap (.usr 247) [(.var 0)]), (.ap (.usr 247) [(.var 0)])]) :: (.ap .same [(.ap (.usr 248) [(.var 0)]), (.ap (.usr 248) [(.var 0)])]) :: alq), [[(.lit (.bool true))]])]
set_option maxRecDepth 100000 in
theorem blc : runS Tryd.prog (aex (tab T3)) 10 20 hs3 Tryd.f3 (abt Tryd.f3) SLaw = some (r3_v, r3_o) := by kernel_rfl
set_option maxHeartbeats 1000000 in
set_option maxRecDepth 100000 in
theorem c3 : aaq U Tryd.prog 3 SLaw := by
 refine aaq.of (P := Tryd.prog) (U := U) (T := (tab T3)) (f := 3) (fn := Tryd.f3) (fuel := 10) (fk := 20) (hs := hs3) (S := SLaw) (v := r3_v) (outs := r3_o) mixed hT3 at3 blc ?_ ?_
 ·unfold r3_v
  repeat' (first | exact ac9 _ | refine ado (fun v hh => ?_) ?_)
  all_goals
   have hR := blj (v 0)
   unfold okR at hR
   simp only [Bool.and_eq_true] at hR
   simp only [aa3, aa6, aa4, aa5, abg, acd, ab7, aap, w_wr, b_lt, b_le, b_eq, aa1, adg, b_or, abe, aao, aa2, adn, acs, aan, aa7, abj, w_mk, aat, abq, adl, acz, acy, abb, ac1, ada, aa0, abm, ace, w_l0, w_l1, aac, aag, aaz, aae, aad, aam, aal, aby, abw, abx, abz, adi, ade, ab1, ac0, w_eq, a9x, bbg, bbk, a9b, a9c, bab, a8x, a8j, a9f, a8d]
   try first | exact hR.1 | exact hR.2.1 | exact hR.2.2.1 | exact hR.2.2.2.1 | exact hR.2.2.2.2.1 | exact hR.2.2.2.2.2.1 | exact hR.2.2.2.2.2.2.1 | exact hR.2.2.2.2.2.2.2 | rfl
 ·intro o ho σ hU hh
  obtain ⟨v⟩ := σ
  cases hU
  simp only [r3_o, List.mem_cons, List.not_mem_nil, or_false] at ho
  rcases ho with rfl | rfl
  all_goals exact ⟨_, List.mem_cons_self .., by simp only [aa3, aa6, aa4, aa5, abg, acd, ab7, aap, w_wr, b_lt, b_le, b_eq, aa1, adg, b_or, abe, aao, aa2, adn, acs, aan, aa7, abj, w_mk, aat, abq, adl, acz, acy, abb, ac1, ada, aa0, abm, ace, w_l0, w_l1, aac, aag, aaz, aae, aad, aam, aal, aby, abw, abx, abz, adi, ade, ab1, ac0], rfl⟩
end Go.Proofs.YtamhchkknlbanaaDoor.Be

namespace Go.Sx
open Go.ChangeShapes Go.WideShapes
variable {P : Program}
def memW (W : World) : Mem := fun k o => W.heap[k]? = some o
def HasS (m : Mem) (ss : List Srt) (cs : List Value) : Prop := cs.length = ss.length ∧ ∃ ds, RSs m ss ds fun j => cs[j]?
theorem apn {m : Mem} : ∀ {ss ss' : List Srt} {ds ds' : List CD} {cs cs' : List Value}, cs.length = ss.length → RSs m ss ds (fun j => cs[j]?) → RSs m ss' ds' (fun j => cs'[j]?) → RSs m (ss ++ ss') (ds ++ ds') fun j => (cs ++ cs')[j]?
 | [], ss', ds, ds', cs, cs', hl, h, h' => by
  have h : ds = [] := h
  have : cs = [] := List.length_eq_zero_iff.1 hl
  subst h
  subst this
  exact h'
 | s :: ss, ss', ds, ds', [], cs', hl, h, h' => by simp at hl
 | s :: ss, ss', ds, ds', c :: cs, cs', hl, h, h' => by
  obtain ⟨d, r, u, rfl, h1, h2, h3⟩ := h
  refine ⟨d, r ++ ds', u, rfl, h1, h2, ?_⟩
  have h3' : RSs m ss r fun j => cs[j]? := h3.congr fun j _ => by simp
  have := apn (by simpa using hl) h3' h'
  exact this.congr fun j _ => by simp
theorem HasS.append {m : Mem} {ss ss' : List Srt} {cs cs' : List Value} (h : HasS m ss cs) (h' : HasS m ss' cs') : HasS m (ss ++ ss') (cs ++ cs') := by
 obtain ⟨h1, ds, h2⟩ := h
 obtain ⟨h3, ds', h4⟩ := h'
 exact ⟨by simp [h1, h3], ds ++ ds', apn h1 h2 h4⟩
section
variable {H : Type} {enc : TypeId × Value → H} {W : World} {base : Nat} {held : Bool}
end
end Go.Sx

namespace Go.Sx
open Go.WideShapes Go.ChangeShapes
theorem aog {W W' : World} (hk : ∀ k, k < W.heap.size → W'.heap[k]? = W.heap[k]?) (hos : W'.os = W.os) (hout : W'.output = W.output) (may : MemPlace → Prop) : W.keptBut W' may :=
 ⟨hos, hout, fun i hi => by rw [hk i hi]; exact (World.keptBut_refl W may).2.2 i hi⟩
theorem aqr {W W' : World} (hk : ∀ k, k < W.heap.size → W'.heap[k]? = W.heap[k]?) {a : Addr} (ha : a.block < W.heap.size) : W'.frozen? a = W.frozen? a := by
 unfold World.frozen?
 rw [hk _ ha]
theorem awq {H : Type} {enc : TypeId × Value → H} {P : Program} {f : Func} {s : ChangeSpec} {apart fresh handsOn again : Bool} {W W' : World} {args : Array Value} {v : Value} {ds gs : List (DataW H)} {before pa pv : List MemPlace}
  (hW : DataW.Whole enc P f.params.toList s.vars apart W args.toList ds gs before)
  (hres : ∀ (b : Nat) (sp : Nat → Bool) (hd : Bool), DataW.TrodAll enc P W' b sp hd f.resultTypes.toList (v.resultList f.resultTypes.size) (s.fn H (ds ++ gs)).results [])
  (hargs : ∀ sp : Nat → Bool, (∀ p ∈ before, sp p.block = true) → DataW.TrodAll enc P W' 0 sp true f.params.toList args.toList (s.fn H (ds ++ gs)).args pa)
  (hvars : ∀ sp : Nat → Bool, (∀ p ∈ before, sp p.block = true) → DataW.TrodVars enc P W' sp s.vars (s.fn H (ds ++ gs)).vars pv)
  (hps : before = pa ++ pv) (hk : ∀ k, k < W.heap.size → W'.heap[k]? = W.heap[k]?) (hos : W'.os = W.os) (hout : W'.output = W.output)
  (hok : ∀ (j : Nat) (t : TypeId) (r : Value), f.resultTypes[j]? = some t → (v.resultList f.resultTypes.size)[j]? = some r → Value.okWide P W' .any 0 t r) :
  s.post enc P f apart fresh handsOn again W args v W' := by
 have hold : ∀ p ∈ before, (fun b => decide (b < W.heap.size)) p.block = true := fun p hp => by simpa using hW.lt p hp
 have hlt : ∀ p ∈ before, p.block < W.heap.size := fun p hp => hW.lt p hp
 refine ⟨ds, gs, before, [], pa, pv, hW, hres _ _ _, hargs _ hold, hvars _ hold, World.keptBut_mono (fun p hp => ⟨hp, ?_⟩) (aog hk hos hout (· ∈ before)), fun _ => ?_⟩
 ·rw [hps, List.mem_append] at hp
  exact Or.inr hp
 ·obtain ⟨_, _, _, _, _, hz, hn⟩ := hW
  refine ⟨hok, _, _, ([] ++ pa) ++ pv, ⟨[] ++ pa, pv, trodAll_append (hargs _ (fun _ _ => rfl)) (hres _ _ _), hvars _ (fun _ _ => rfl), rfl, ?_, ?_⟩, ?_⟩
  ·intro b off hp
   have hp' : MemPlace.cell b off ∈ before := by rw [hps]; simpa using hp
   rw [aqr hk (show (⟨b, off, none⟩ : Addr).block < W.heap.size from hlt _ hp')]
   exact hz b off hp'
  ·intro ha
   have := hn ha
   rw [hps] at this
   simpa using this
  ·intro p hp _
   rw [hps]
   simpa using hp
section
variable {H : Type} {enc : TypeId × Value → H} {P : Program} {W W' : World} {base : Nat} {sp : Nat → Bool} {held : Bool}
theorem ayz (hk : ∀ k, k < W.heap.size → W'.heap[k]? = W.heap[k]?) : ∀ (n : Nat) (t : TypeId) (cs : List Value) (x : DataW H × List MemPlace), DataW.trod enc P W base sp held n t cs = some x → DataW.trod enc P W' base sp held n t cs = some x
 | 0, _, _, _, h => by simp [DataW.trod] at h
 | n + 1, t, cs, x, h => by
  have hlt := DataW.trod_lt (n + 1) t cs x h
  rw [DataW.trod_step] at h ⊢
  refine DataW.trodStep_carry (fun t cs x hx _ => ayz hk n t cs x hx) h fun p hp => ?_
  have hb := hlt p hp
  cases p with
  | cell b off =>
   show W'.cell? ⟨b, off, none⟩ = W.cell? ⟨b, off, none⟩
   unfold World.cell?
   rw [hk b hb]
  | map b => exact hk b hb
theorem Trod.old (hk : ∀ k, k < W.heap.size → W'.heap[k]? = W.heap[k]?) {t : TypeId} {v : Value} {d : DataW H} {ps : List MemPlace} (h : DataW.Trod enc P W base sp held t v d ps) : DataW.Trod enc P W' base sp held t v d ps := by
 obtain ⟨n, hn⟩ := h
 exact ⟨n, ayz hk n _ _ _ hn⟩
theorem TrodAll.old (hk : ∀ k, k < W.heap.size → W'.heap[k]? = W.heap[k]?) : ∀ {ts : List TypeId} {vs : List Value} {ds : List (DataW H)} {ps : List MemPlace}, DataW.TrodAll enc P W base sp held ts vs ds ps → DataW.TrodAll enc P W' base sp held ts vs ds ps
 | [], [], [], _, h => h
 | _ :: _, _ :: _, _ :: _, _, ⟨p, q, h1, h2, e⟩ => ⟨p, q, Trod.old hk h1, TrodAll.old hk h2, e⟩
end
end Go.Sx
