/-
  What is handed on alone reads behind the call as it read before. Conditions: none; nothing here speaks of one program.
-/
import Derived.Test.YtamhchkknlbanaaDoorBeM
import Derived.Test.YtamhchkknlbanaaDoorBeF
import Derived.Test.YtamhchkknlbanaaDoorBeU
import Derived.ChangeFn
import Derived.WideFn
import Derived.ChangeSame
import Derived.RowKit3
import Derived.ChangeReads
import Derived.ChangeOld
import Derived.ReadAgain
set_option linter.unusedSectionVars false
set_option linter.unusedVariables false
set_option linter.unusedSimpArgs false
set_option linter.all false
namespace Go.Proofs.YtamhchkknlbanaaDoor.Be
open Go.Sx Go.Proofs
set_option maxHeartbeats 4000000 in
set_option maxRecDepth 100000 in
theorem bi0 : ∀ z ∈ r6_v, VCok U z := by
  unfold r6_v
  repeat' (first | exact ac8 _ | refine adp (fun v hh => ?_) ?_)
  all_goals
    simp only [aa1, aa5, aa4, aa6, abg, acd, ab7, aap, w_wr, b_lt, b_le, b_eq, aaz, ada, b_or, abe, aao, aa0, ade, aco, aan, aa8, abj, w_mk, aat, abq, adk, ac0, acy, abb, acz, adf, aa2, abn, ace, w_l0, w_l1, aac, aag, aa3, aae, aad, aam, aak, ab1, abz, ab0, abx, adh, adl, aby, ac1, a0w, anw, bag, awd, a5n, a03, az8, a0z, aok, az9, a1w, a0v, apc, aql, ahr, ape, avk, anh, ap3, ao9, amg, aqf, ahx, ak9, aqc, aub, alh, aph, atb, aqk, aqd, ahv, aor, au3, anr, ao0, as4, apk, am0, apo, anl, anv, am7, an2, apn, azb] at hh ⊢
    have hT : Typ .str (v 0) := by simp only [hh]
    have hTs : Typ (.sl [.str]) (wsC (v 0)) := by simp only [hh]
    have h22 : ¬ 2200 < ((v 0).slen : Int) := by simp [hh]
    have hk : okW (line (v 0)) = true := by simp only [hh]
    try simp only [Int.reduceToNat, tk_0 hTs, tk_k hTs, List.drop_drop, Nat.reduceAdd, bcy hTs, alv, acg] at hh ⊢
    first
    | exact ws_1 hk hTs
    | exact bb5 hT h22 _
    | (repeat (obtain ⟨_, hh⟩ := hh)
       omega)
end Go.Proofs.YtamhchkknlbanaaDoor.Be

namespace Go.Proofs.YtamhchkknlbanaaDoor.Be
open Go.Sx Go.Proofs
set_option maxHeartbeats 4000000 in
set_option maxRecDepth 100000 in
theorem bim : ∀ o ∈ r6_o, ∀ σ : Sg, σ.toUs = U → @Holds σ o.1 → ∃ q ∈ ahs.outs, @Holds σ q.1 ∧ q.2.map (@denL σ) = o.2.map (@denL σ) := by
  intro o ho σ hU hh
  obtain ⟨v⟩ := σ
  cases hU
  simp only [r6_o, List.mem_cons, List.not_mem_nil, or_false] at ho
  repeat' (first | (rcases ho with rfl | ho) | subst ho)
  all_goals
    refine ⟨_, List.mem_cons_self .., by simp only [aa1, aa5, aa4, aa6, abg, acd, ab7, aap, w_wr, b_lt, b_le, b_eq, aaz, ada, b_or, abe, aao, aa0, ade, aco, aan, aa8, abj, w_mk, aat, abq, adk, ac0, acy, abb, acz, adf, aa2, abn, ace, w_l0, w_l1, aac, aag, aa3, aae, aad, aam, aak, ab1, abz, ab0, abx, adh, adl, aby, ac1], ?_⟩
    simp only [aa1, aa5, aa4, aa6, abg, acd, ab7, aap, w_wr, b_lt, b_le, b_eq, aaz, ada, b_or, abe, aao, aa0, ade, aco, aan, aa8, abj, w_mk, aat, abq, adk, ac0, acy, abb, acz, adf, aa2, abn, ace, w_l0, w_l1, aac, aag, aa3, aae, aad, aam, aak, ab1, abz, ab0, abx, adh, adl, aby, ac1, a0w, anw, awp, bjp, azx, a7r, bg6, bgz, aoo, bag, awd, a5n, a03, az8, a0z, aok, az9, a1w, a0v, apc, aql, ahr, ape, avk, anh, ap3, ao9, amg, aqf, ahx, ak9, aqc, aub, alh, aph, atb, aqk, aqd, ahv, aor, au3, anr, ao0, as4, apk, am0, apo, anl, anv, am7, an2, apn, azb] at hh
    simp only [List.map_cons, List.map_nil, aa1, aa5, aa4, aa6, abg, acd, ab7, aap, w_wr, b_lt, b_le, b_eq, aaz, ada, b_or, abe, aao, aa0, ade, aco, aan, aa8, abj, w_mk, aat, abq, adk, ac0, acy, abb, acz, adf, aa2, abn, ace, w_l0, w_l1, aac, aag, aa3, aae, aad, aam, aak, ab1, abz, ab0, abx, adh, adl, aby, ac1, w_lt, w_le, w_eq, ald, bhc, w_or, a3b, aii, aoh, a0w, anw, awp, bjp, a7r, bg6, bgz, aoo, bap, bat, a9x, bb4, a7w, a9f, bbu, a8q, a9y, a8h]
    have hT : Typ .str (v 0) := by simp only [hh]
    first
    | (have hx := hh.1
       rw [bcc hx hT]; rfl)
    | (have hx := hh.2.1
       rw [a5r hh.2.2.2.1 hT hx]; rfl)
    | (have hk : okW (line (v 0)) = true := by simp only [hh]
       have hTs : Typ (.sl [.str]) (wsC (v 0)) := by simp only [hh]
       have h22 : ¬ 2200 < ((v 0).slen : Int) := by simp [hh]
       try simp only [Int.reduceToNat, tk_0 hTs, tk_k hTs, List.drop_drop, Nat.reduceAdd, bcy hTs, av1, ayq, alv, acg] at hh
       try simp only [Int.reduceToNat, tk_0 hTs, tk_k hTs, List.drop_drop, Nat.reduceAdd, av1]
       have hh2 := hh
       repeat (obtain ⟨_, hh2⟩ := hh2)
       first
       | (have hp := by first | exact ber (by assumption) h22 hT hk | exact bdt (by assumption) h22 hT hk | exact bfp (by assumption) h22 hT hk | exact bk9 (by assumption) h22 hT hk | exact be4 (by assumption) h22 hT hk | exact a4w (by assumption) h22 hT hk | exact bgr (by assumption) h22 hT hk | exact bjb (by assumption) h22 hT hk | exact bf4 (by assumption) h22 hT hk | exact bio (by assumption) h22 hT hk | exact bbm (by assumption) h22 hT hk | exact a3v (by assumption) h22 hT hk | exact bas (by assumption) h22 hT hk | exact bev (by assumption) h22 hT hk | exact bea (by assumption) h22 hT hk
          rw [hp]
          clear hp
          first
          | (rw [kB 1 (by decide) (by decide) (by assumption)]; rfl)
          | (rw [kB 2 (by decide) (by decide) (by assumption)]; rfl)
          | (rw [kB 3 (by decide) (by decide) (by assumption)]; rfl)
          | (rw [kB 4 (by decide) (by decide) (by assumption)]; rfl)
          | (rw [kA (by omega)]; rfl)
          | (rw [kC (by omega)]; rfl)
          | (rw [kC0 (by omega)]; rfl)
          | (have hm : 255 < afg (gw (wds (v 0)) 4) := by assumption
             by_cases hn : nOk (gw (wds (v 0)) 4) = true
             · rw [kM (by unfold nV; rw [← ajd hn]; exact hm)]; rfl
             · rw [kB 4 (by decide) (by decide) hn]; rfl)
          | (have hn : nOk (gw (wds (v 0)) 4) = true := by assumption
             have hm : numV (gw (wds (v 0)) 4) ≤ 255 := by rw [← ajd hn]; omega
             rw [kD (by omega) (by simp [nOks, hh]) (fun h13 => by have := h13.2; unfold nV at this; omega)]
             simp [ajg, nV, ajd, hh, acg, ac2]
             rw [a6l (a7m _) hm])
          | (rw [kD (by omega) (by simp [nOks, hh]) (fun h13 => absurd h13.1 (by decide))]
             simp [ajg, nV, ajd, hh, acg, ac2])
          | (have hy : (hexB (gw (wds (v 0)) 3) && decide ((gw (wds (v 0)) 3).length % 2 = 0)) = true := by assumption
             have hx : aq9 (gw (wds (v 0)) 3) = true := by rw [← bhs hk (by omega)]; exact hy
             rw [bbq hx, kE1 (by omega) (by simp [nOks, hh])]
             simp [ajg, nV, ajd, hh, acg, ac2, hx])
          | (have hy : ¬ (hexB (gw (wds (v 0)) 3) && decide ((gw (wds (v 0)) 3).length % 2 = 0)) = true := by assumption
             have hx : ¬ aq9 (gw (wds (v 0)) 3) = true := by rw [← bhs hk (by omega)]; exact hy
             have e := kE1 (W := wds (v 0)) (k := 8) (m := 2) (is := false) (by omega) (by simp [nOks, hh])
             simp only [Int.reduceToNat, Nat.reduceAdd] at e
             rw [e, if_neg hx]; rfl)
          | (have hy : abw (gw (wds (v 0)) 3) = true := by assumption
             have hx : awo (gw (wds (v 0)) 3) = true := by rw [← bki hk (by omega)]; exact hy
             have e := kE2 (W := wds (v 0)) (k := 10) (m := 2) (is := false) (by omega) (by simp [nOks, hh])
             simp only [Int.reduceToNat, Nat.reduceAdd] at e
             rw [e, if_pos hx]
             simp [ajg, nV, ajd, hh, acg, ac2])
          | (have hy : ¬ abw (gw (wds (v 0)) 3) = true := by assumption
             have hx : ¬ awo (gw (wds (v 0)) 3) = true := by rw [← bki hk (by omega)]; exact hy
             have e := kE2 (W := wds (v 0)) (k := 10) (m := 2) (is := false) (by omega) (by simp [nOks, hh])
             simp only [Int.reduceToNat, Nat.reduceAdd] at e
             rw [e, if_neg hx]; rfl))
       | (rw [bep (by assumption) (by assumption) (by assumption) (by assumption) (by assumption) (by assumption) (by assumption) (by assumption) (by assumption) (by assumption) (by assumption) (by assumption) (by assumption) (by assumption) (by assumption) (by assumption) hTs h22 hT hk]; rfl))
end Go.Proofs.YtamhchkknlbanaaDoor.Be

namespace Go.Proofs.YtamhchkknlbanaaDoor.Be
open Go.Sx Go.Proofs
set_option maxRecDepth 100000 in
theorem c6 : aaq U Tryd.prog 6 ahs := by
 exact aed (P := Tryd.prog) (U := U) (f := 6) (fn := Tryd.f6) (c := abr Tryd.f6) (S := ahs) (v := r6_v) (outs := r6_o) (hs := hs6) (cx := ⟨ora6, orvK Tryd.prog ora6 10 20 tb6 4, Tb.ent tb6, 10, 20, none, Go.Sx.keyOf 6⟩) mixed ⟨a4u, am1 mixed a4u (TbOK.of biy) 4, (TbOK.of biy).ent⟩ rfl (aeg (by kernel_rfl)) at6.at' at6.body at6.call at6.flow blm bi0 bim
end Go.Proofs.YtamhchkknlbanaaDoor.Be

namespace Go.Proofs.YtamhchkknlbanaaDoor.Be
open Go.Sx Go.Proofs
noncomputable def a8a : Fsp := ⟨[(true, a9k), (true, a9k)], [.ap .eq [.var 0, .var 9], .ap .eq [.var 1, .var 10], .ap .eq [.var 2, .var 11], .ap .eq [.var 3, .var 12], .ap .eq [.var 4, .var 13], .ap .eq [.var 5, .var 14], .ap .eq [.var 6, .var 15], .ap .same [.var 7, .var 16], .ap .same [.var 8, .var 17]], [(false, [.bool])], [([], [[.lit (.bool true)]])], true⟩
noncomputable def lp8 : Lp := ⟨[(.slot 5, .int .i64)], [2, 3, 4], [], fun F H k => [.ap .le [zI, .var k], .ap .le [.var k, .ap .len [.var 8]], .ap .le [.ap .len [.var 8], .ap .len [.var 17]]], fun F H k => .ap (.sub .i64) [.ap .len [.var 8], .var k]⟩
abbrev bem : List X := [(.ap .le [mnX, (.var 0)]), (.ap .le [(.var 0), mxX]), (.ap .le [mnX, (.var 1)]), (.ap .le [(.var 1), mxX]), (.ap .le [mnX, (.var 2)]), (.ap .le [(.var 2), mxX]), (.ap .le [mnX, (.var 3)]), (.ap .le [(.var 3), mxX]), (.ap .le [(.lit (.int .u8 0)), (.var 5)]), (.ap .le [(.var 5), (.lit (.int .u8 255))]), (.ap .le [mnX, (.var 6)]), (.ap .le [(.var 6), mxX]), (.ap (.typ (.sl [(.int .u8)])) [(.var 7)]), (.ap (.typ (.sl [.bool])) [(.var 8)]), (.ap .le [mnX, (.var 9)]), (.ap .le [(.var 9), mxX]), (.ap .le [mnX, (.var 10)]), (.ap .le [(.var 10), mxX]), (.ap .le [mnX, (.var 11)]), (.ap .le [(.var 11), mxX]), (.ap .le [mnX, (.var 12)]), (.ap .le [(.var 12), mxX]), (.ap .le [(.lit (.int .u8 0)), (.var 14)]), (.ap .le [(.var 14), (.lit (.int .u8 255))]), (.ap .le [mnX, (.var 15)]), (.ap .le [(.var 15), mxX]), (.ap (.typ (.sl [(.int .u8)])) [(.var 16)]), (.ap (.typ (.sl [.bool])) [(.var 17)]), (.ap .eq [(.var 0), (.var 9)]), (.ap .eq [(.var 1), (.var 10)]), (.ap .eq [(.var 2), (.var 11)]), (.ap .eq [(.var 3), (.var 12)]), (.ap .eq [(.var 4), (.var 13)]), (.ap .eq [(.var 5), (.var 14)]), (.ap .eq [(.var 6), (.var 15)]), (.ap .same [(.var 7), (.var 16)]), (.ap .same [(.var 8), (.var 17)])]
abbrev bgj : List X := (.ap .le [(I 0), (.var 18)]) :: (.ap .le [(.var 18), (.ap .len [(.var 8)])]) :: (.ap .le [(.ap .len [(.var 8)]), (.ap .len [(.var 17)])]) :: (.ap .le [(.ap .len [(.var 8)]), (.ap .len [(.var 17)])]) :: (.ap .eq [(.ap .len [(.var 8)]), (.ap .len [(.var 17)])]) :: bem
set_option maxRecDepth 100000 in
def r8_v : List VC := []
set_option maxRecDepth 100000 in
def r8_o : List (List X × List (List X)) := [(((.ap .not [(.ap .eq [(.ap .len [(.var 8)]), (.ap .len [(.var 17)])])]) :: bem), [[(.lit (.bool false))]]),
 (((.ap .not [(.ap .eq [(.ap (.cell 0) [(.var 8), (.var 18)]), (.ap (.cell 0) [(.var 17), (.var 18)])])]) :: (.ap .lt [(.var 18), (.ap .len [(.var 8)])]) :: bgj), [[(.lit (.bool false))]]),
 (((.ap .not [(.ap .lt [(.var 18), (.ap .len [(.var 8)])])]) :: bgj), [[(.ap .eq [(.ap .str [(.var 7)]), (.ap .str [(.var 16)])])]])]
set_option maxRecDepth 100000 in
theorem bks : runS Tryd.prog (aev T0) 10 20 ⟨ad8 [(4, lp8)], hintA [(3, fun F H => [.ap .le [.ap .len [.var 8], .ap .len [.var 17]]])]⟩ Tryd.f8 (abr Tryd.f8) a8a = some (r8_v, r8_o) := by kernel_rfl
theorem ayj {d : CD} (h : Typ .bool d) : eqC d d = true := by
 obtain ⟨m, u, b, rfl, _⟩ := h
 cases b <;> rfl
set_option maxRecDepth 100000 in
theorem c8 : aaq U Tryd.prog 8 a8a := by
 refine aaq.of (P := Tryd.prog) (U := U) (T := T0) (f := 8) (fn := Tryd.f8) (fuel := 10) (fk := 20) (hs := ⟨ad8 [(4, lp8)], hintA [(3, fun F H => [.ap .le [.ap .len [.var 8], .ap .len [.var 17]]])]⟩) (S := a8a) (v := r8_v) (outs := r8_o) mixed hT0 at8 bks ?_ ?_
 ·unfold r8_v
  exact ac8 _
 ·intro o ho σ hU hh
  obtain ⟨v⟩ := σ
  cases hU
  simp only [r8_o, List.mem_cons, List.not_mem_nil, or_false] at ho
  rcases ho with rfl | rfl | rfl
  all_goals
   refine ⟨_, List.mem_cons_self .., by simp only [aa1, aa5, aa4, aa6, b_lt, b_le, b_eq, aaz, abe, aao, aco, aa8, abb, aa2, w_l0, w_l1, aac, aag, aa3, aae, aad, aam, aak], ?_⟩
   simp only [aa1, aa5, aa4, aa6, abg, acd, ab7, aap, w_wr, b_lt, b_le, b_eq, aaz, ada, b_or, abe, aao, aa0, ade, aco, aan, aa8, abj, w_mk, aat, abq, adk, ac0, acy, abb, acz, adf, aa2, abn, ace, w_l0, w_l1, aac, aag, aa3, aae, aad, aam, aak, ab1, abz, ab0, abx, adh, adl, aby, ac1, w_eq, bem, bgj] at hh
   simp only [List.map_cons, List.map_nil, aa1, aa5, aa4, aa6, abg, acd, ab7, aap, w_wr, b_lt, b_le, b_eq, aaz, ada, b_or, abe, aao, aa0, ade, aco, aan, aa8, abj, w_mk, aat, abq, adk, ac0, acy, abb, acz, adf, aa2, abn, ace, w_l0, w_l1, aac, aag, aa3, aae, aad, aam, aak, ab1, abz, ab0, abx, adh, adl, aby, ac1, w_lt, w_le, w_eq, ald, bhc, w_or, a3b, aii, aoh]
   have h7 : v 7 = v 16 := by simp only [hh]
   have h8 : v 8 = v 17 := by simp only [hh]
  ·exact absurd (by rw [h8]; exact alv.mpr rfl) hh.1
  ·have hT : Typ (.sl [.bool]) (v 17) := by simp only [hh]
   have h0 : 0 ≤ (v 18).iv := by simp only [hh]
   have hi : (v 18).iv < ((v 17).len : Int) := by rw [← h8]; exact hh.2.1
   refine absurd ?_ hh.1
   rw [h8]
   exact ayj (hT.cell h0 hi rfl)
  ·rw [h7]
   have : eqC (.v (.string ⟨((v 16).rows.map ai8).toArray⟩)) (.v (.string ⟨((v 16).rows.map ai8).toArray⟩)) = true := apj.mpr rfl
   rw [this]
   rfl
end Go.Proofs.YtamhchkknlbanaaDoor.Be

namespace Go.Proofs.YtamhchkknlbanaaDoor.Be
open Go.Sx Go.Proofs
noncomputable def T16 : List (FuncId × Fsp) := [(6, ahs)]
set_option maxRecDepth 100000 in
theorem hT16 : aji U Tryd.prog T16 := .cons c6 .nil
noncomputable def lp39 : Lp := ⟨[(.slot 5, .int .i64)], [0, 1, 4], [], fun F H k => [.ap .le [zI, .var k], .ap .le [.var k, .ap .len [.ap (.usr 248) [.var 0]]], .ap .le [.ap .len [.ap (.usr 248) [.var 0]], .ap .len [.var 9]]], fun F H k => .ap (.sub .i64) [.ap .len [.ap (.usr 248) [.var 0]], .var k]⟩
noncomputable def bhd : List (FuncId × Inl) := [(38, ⟨Tryd.f38, noH⟩), (39, ⟨Tryd.f39, ⟨ad8 [(4, lp39)], hintA [(3, fun F H => [.ap .le [.ap .len [.ap (.usr 248) [.var 0]], .ap .len [.var 9]]])]⟩⟩)]
set_option maxRecDepth 100000 in
theorem bh8 : ahw U Tryd.prog bhd := .cons (.of at38 (by kernel_rfl)) (.cons (.of at39 (by kernel_rfl)) .nil)
noncomputable def SPs : Fsp := ⟨[(false, [.str]), (true, a9k)], [.ap .le [.ap .slen [.var 0], I 2500], .ap .eq [.ap (.usr 249) [.var 0], I 0], .ap .eq [.ap (.usr 240) [.var 0], .var 1], .ap .eq [.ap (.usr 241) [.var 0], .var 2], .ap .eq [.ap (.usr 242) [.var 0], .var 3], .ap .eq [.ap (.usr 243) [.var 0], .var 4], .ap .eq [.ap (.usr 244) [.var 0], .var 5], .ap .eq [.ap (.usr 245) [.var 0], .var 6], .ap .eq [.ap (.usr 246) [.var 0], .var 7], .ap .same [.ap (.usr 247) [.var 0], .var 8], .ap .same [.ap (.usr 248) [.var 0], .var 9]], [(false, [.bool])], [([], [[.lit (.bool true)]])], true⟩
abbrev ay1 : List X := [(.ap .le [mnX, (.ap (.usr 240) [(.var 0)])]), (.ap .le [(.ap (.usr 240) [(.var 0)]), mxX]), (.ap .le [mnX, (.ap (.usr 241) [(.var 0)])]), (.ap .le [(.ap (.usr 241) [(.var 0)]), mxX]), (.ap .le [mnX, (.ap (.usr 242) [(.var 0)])]), (.ap .le [(.ap (.usr 242) [(.var 0)]), mxX]), (.ap .le [mnX, (.ap (.usr 243) [(.var 0)])]), (.ap .le [(.ap (.usr 243) [(.var 0)]), mxX]), (.ap .le [(.lit (.int .u8 0)), (.ap (.usr 245) [(.var 0)])]), (.ap .le [(.ap (.usr 245) [(.var 0)]), (.lit (.int .u8 255))]), (.ap .le [mnX, (.ap (.usr 246) [(.var 0)])]), (.ap .le [(.ap (.usr 246) [(.var 0)]), mxX]), (.ap (.typ (.sl [(.int .u8)])) [(.ap (.usr 247) [(.var 0)])]), (.ap (.typ (.sl [.bool])) [(.ap (.usr 248) [(.var 0)])]), (.ap .le [mnX, (.ap (.usr 249) [(.var 0)])]), (.ap .le [(.ap (.usr 249) [(.var 0)]), mxX]), (.ap (.typ .str) [(.var 0)]), (.ap .le [mnX, (.var 1)]), (.ap .le [(.var 1), mxX]), (.ap .le [mnX, (.var 2)]), (.ap .le [(.var 2), mxX]), (.ap .le [mnX, (.var 3)]), (.ap .le [(.var 3), mxX]), (.ap .le [mnX, (.var 4)]), (.ap .le [(.var 4), mxX]), (.ap .le [(.lit (.int .u8 0)), (.var 6)]), (.ap .le [(.var 6), (.lit (.int .u8 255))]), (.ap .le [mnX, (.var 7)]), (.ap .le [(.var 7), mxX]), (.ap (.typ (.sl [(.int .u8)])) [(.var 8)]), (.ap (.typ (.sl [.bool])) [(.var 9)]), (.ap .le [(.ap .slen [(.var 0)]), (I 2500)]), (.ap .eq [(.ap (.usr 249) [(.var 0)]), (I 0)]), (.ap .eq [(.ap (.usr 240) [(.var 0)]), (.var 1)]), (.ap .eq [(.ap (.usr 241) [(.var 0)]), (.var 2)]), (.ap .eq [(.ap (.usr 242) [(.var 0)]), (.var 3)]), (.ap .eq [(.ap (.usr 243) [(.var 0)]), (.var 4)]), (.ap .eq [(.ap (.usr 244) [(.var 0)]), (.var 5)]), (.ap .eq [(.ap (.usr 245) [(.var 0)]), (.var 6)]), (.ap .eq [(.ap (.usr 246) [(.var 0)]), (.var 7)]), (.ap .same [(.ap (.usr 247) [(.var 0)]), (.var 8)]), (.ap .same [(.ap (.usr 248) [(.var 0)]), (.var 9)])]
abbrev a7u : List X := (.ap .le [(I 0), (.var 10)]) :: (.ap .le [(.var 10), (.ap .len [(.ap (.usr 248) [(.var 0)])])]) :: (.ap .le [(.ap .len [(.ap (.usr 248) [(.var 0)])]), (.ap .len [(.var 9)])]) :: (.ap .le [(.ap .len [(.ap (.usr 248) [(.var 0)])]), (.ap .len [(.var 9)])]) :: (.ap .eq [(.ap .len [(.ap (.usr 248) [(.var 0)])]), (.ap .len [(.var 9)])]) :: (.ap .eq [(.ap .str [(.ap (.usr 247) [(.var 0)])]), (.ap .str [(.var 8)])]) :: ay1
set_option maxRecDepth 100000 in
def bgm : List VC := []
set_option maxRecDepth 100000 in
def bfj : List (List X × List (List X)) := [(((.ap .not [(.ap .eq [(.ap .len [(.ap (.usr 248) [(.var 0)])]), (.ap .len [(.var 9)])])]) :: (.ap .eq [(.ap .str [(.ap (.usr 247) [(.var 0)])]), (.ap .str [(.var 8)])]) :: ay1), [[(.lit (.bool false))]]),
 (((.ap .not [(.ap .eq [(.ap (.cell 0) [(.ap (.usr 248) [(.var 0)]), (.var 10)]), (.ap (.cell 0) [(.var 9), (.var 10)])])]) :: (.ap .lt [(.var 10), (.ap .len [(.ap (.usr 248) [(.var 0)])])]) :: a7u), [[(.lit (.bool false))]]),
 (((.ap .not [(.ap .lt [(.var 10), (.ap .len [(.ap (.usr 248) [(.var 0)])])])]) :: a7u), [[(.lit (.bool true))]]),
 (((.ap .not [(.ap .eq [(.ap .str [(.ap (.usr 247) [(.var 0)])]), (.ap .str [(.var 8)])])]) :: ay1), [[(.lit (.bool false))]])]
set_option maxRecDepth 100000 in
theorem bhy : runV Tryd.prog (cxOf Tryd.prog (aev (tab T16)) 10 20 ⟨ajm bhd, noY, U.lc⟩ 3 16) noH Tryd.f16 (abr Tryd.f16) SPs = some (bgm, bfj) := by kernel_rfl
set_option maxRecDepth 100000 in
theorem c16 : aaq U Tryd.prog 16 SPs := by
 refine aaq.ofV (P := Tryd.prog) (U := U) (T := (tab T16)) (l := bhd) (y := noY) (dp := 3) (f := 16) (fn := Tryd.f16) (fuel := 10) (fk := 20) (hs := noH) (S := SPs) (v := bgm) (outs := bfj) mixed hT16 bh8 at16 (aeg (by kernel_rfl)) bhy ?_ ?_
 ·unfold bgm
  exact ac8 _
 ·intro o ho σ hU hh
  obtain ⟨v⟩ := σ
  cases hU
  simp only [bfj, List.mem_cons, List.not_mem_nil, or_false] at ho
  rcases ho with rfl | rfl | rfl | rfl
  all_goals
   refine ⟨_, List.mem_cons_self .., by simp only [aa1, aa5, aa4, aa6, abg, acd, ab7, aap, w_wr, b_lt, b_le, b_eq, aaz, ada, b_or, abe, aao, aa0, ade, aco, aan, aa8, abj, w_mk, aat, abq, adk, ac0, acy, abb, acz, adf, aa2, abn, ace, w_l0, w_l1, aac, aag, aa3, aae, aad, aam, aak, ab1, abz, ab0, abx, adh, adl, aby, ac1], ?_⟩
   simp only [aa1, aa5, aa4, aa6, abg, acd, ab7, aap, w_wr, b_lt, b_le, b_eq, aaz, ada, b_or, abe, aao, aa0, ade, aco, aan, aa8, abj, w_mk, aat, abq, adk, ac0, acy, abb, acz, adf, aa2, abn, ace, w_l0, w_l1, aac, aag, aa3, aae, aad, aam, aak, ab1, abz, ab0, abx, adh, adl, aby, ac1, w_eq, ay1, a7u] at hh
   have h7 : @Us.u U 247 [v 0] = v 8 := by simp only [hh]
   have h8 : @Us.u U 248 [v 0] = v 9 := by simp only [hh]
  ·exact absurd (by rw [h8]; exact alv.mpr rfl) hh.1
  ·have hT : Typ (.sl [.bool]) (v 9) := by simp only [hh]
   have h0 : 0 ≤ (v 10).iv := by simp only [hh]
   have hi : (v 10).iv < ((v 9).len : Int) := by rw [← h8]; exact hh.2.1
   refine absurd ?_ hh.1
   rw [h8]
   exact ayj (hT.cell h0 hi rfl)
  ·rfl
  ·refine absurd ?_ hh.1
   rw [h7]
   exact apj.mpr rfl
noncomputable def SRf : Fsp := ⟨[(false, [.str]), (false, [sI])], [.ap .le [.ap .slen [.var 0], I 2500], .ap .eq [.ap (.usr 249) [.var 0], .var 1]], [(false, [.bool])], [([], [[.lit (.bool true)]])], true⟩
set_option maxRecDepth 100000 in
def bgg : List VC := []
set_option maxRecDepth 100000 in
def bgq : List (List X × List (List X)) := [([(.ap .le [mnX, (.ap (.usr 240) [(.var 0)])]), (.ap .le [(.ap (.usr 240) [(.var 0)]), mxX]), (.ap .le [mnX, (.ap (.usr 241) [(.var 0)])]), (.ap .le [(.ap (.usr 241) [(.var 0)]), mxX]), (.ap .le [mnX, (.ap (.usr 242) [(.var 0)])]), (.ap .le [(.ap (.usr 242) [(.var 0)]), mxX]), (.ap .le [mnX, (.ap (.usr 243) [(.var 0)])]), (.ap .le [(.ap (.usr 243) [(.var 0)]), mxX]), (.ap .le [(.lit (.int .u8 0)), (.ap (.usr 245) [(.var 0)])]), (.ap .le [(.ap (.usr 245) [(.var 0)]), (.lit (.int .u8 255))]), (.ap .le [mnX, (.ap (.usr 246) [(.var 0)])]), (.ap .le [(.ap (.usr 246) [(.var 0)]), mxX]), (.ap (.typ (.sl [(.int .u8)])) [(.ap (.usr 247) [(.var 0)])]), (.ap (.typ (.sl [.bool])) [(.ap (.usr 248) [(.var 0)])]), (.ap .le [mnX, (.ap (.usr 249) [(.var 0)])]), (.ap .le [(.ap (.usr 249) [(.var 0)]), mxX]), (.ap (.typ .str) [(.var 0)]), (.ap .le [mnX, (.var 1)]), (.ap .le [(.var 1), mxX]), (.ap .le [(.ap .slen [(.var 0)]), (I 2500)]), (.ap .eq [(.ap (.usr 249) [(.var 0)]), (.var 1)])], [[(.ap .eq [(.ap (.usr 249) [(.var 0)]), (.var 1)])]])]
set_option maxRecDepth 100000 in
theorem biz : runS Tryd.prog (aev (tab T16)) 10 20 noH Tryd.f28 (abr Tryd.f28) SRf = some (bgg, bgq) := by kernel_rfl
set_option maxRecDepth 100000 in
theorem c28 : aaq U Tryd.prog 28 SRf := by
  refine aaq.of (P := Tryd.prog) (U := U) (T := (tab T16)) (f := 28) (fn := Tryd.f28) (fuel := 10) (fk := 20) (hs := noH) (S := SRf) (v := bgg) (outs := bgq) mixed hT16 at28 biz ?_ ?_
  · unfold bgg
    exact ac8 _
  · intro o ho σ hU hh
    obtain ⟨v⟩ := σ
    cases hU
    simp only [bgq, List.mem_cons, List.not_mem_nil, or_false] at ho
    subst ho
    refine ⟨_, List.mem_cons_self .., by simp only [aa1, aa5, aa4, aa6, abg, acd, ab7, aap, w_wr, b_lt, b_le, b_eq, aaz, ada, b_or, abe, aao, aa0, ade, aco, aan, aa8, abj, w_mk, aat, abq, adk, ac0, acy, abb, acz, adf, aa2, abn, ace, w_l0, w_l1, aac, aag, aa3, aae, aad, aam, aak, ab1, abz, ab0, abx, adh, adl, aby, ac1], ?_⟩
    simp only [aa1, aa5, aa4, aa6, abg, acd, ab7, aap, w_wr, b_lt, b_le, b_eq, aaz, ada, b_or, abe, aao, aa0, ade, aco, aan, aa8, abj, w_mk, aat, abq, adk, ac0, acy, abb, acz, adf, aa2, abn, ace, w_l0, w_l1, aac, aag, aa3, aae, aad, aam, aak, ab1, abz, ab0, abx, adh, adl, aby, ac1, w_eq] at hh
    first
    | rfl
    | (have : eqC (@Us.u U 249 [v 0]) (v 1) = true := by simp only [hh]
       simp only [List.map_cons, List.map_nil, aa1, aa5, aa4, aa6, abg, acd, ab7, aap, w_wr, b_lt, b_le, b_eq, aaz, ada, b_or, abe, aao, aa0, ade, aco, aan, aa8, abj, w_mk, aat, abq, adk, ac0, acy, abb, acz, adf, aa2, abn, ace, w_l0, w_l1, aac, aag, aa3, aae, aad, aam, aak, ab1, abz, ab0, abx, adh, adl, aby, ac1, w_lt, w_le, w_eq, ald, bhc, w_or, a3b, aii, aoh, this]
       rfl)
abbrev xCut : X := (.lit (.string ⟨⟨[99, 117, 116, 32, 48, 32, 49]⟩⟩))
abbrev ant : X := (.lit (.string ⟨⟨[106, 111, 105, 110, 32, 48, 32, 49]⟩⟩))
abbrev bj9 : X := (.lit (.string ⟨⟨[116, 105, 99, 107]⟩⟩))
abbrev xX : X := (.lit (.string ⟨⟨[120]⟩⟩))
theorem pCut : aaj (.v (.string ⟨⟨[99, 117, 116, 32, 48, 32, 49]⟩⟩)) = [vInt .i64 7, vInt .i64 0, vInt .i64 0, vInt .i64 1, aaf true, vInt .u8 0, vInt .i64 0, CD.sl true [], CD.sl true [], vInt .i64 0] := by
 unfold aaj line
 rw [by_v]
 kernel_rfl
theorem bkj : ((CD.v (.string ⟨⟨[99, 117, 116, 32, 48, 32, 49]⟩⟩)).slen : Int) ≤ 2500 := by
 rw [al3 rfl (by show 7 ≤ maxN; unfold maxN; omega)]
 show ((7 : Nat) : Int) ≤ 2500
 omega
theorem blg : aaj (.v (.string ⟨⟨[106, 111, 105, 110, 32, 48, 32, 49]⟩⟩)) = [vInt .i64 7, vInt .i64 0, vInt .i64 0, vInt .i64 1, aaf false, vInt .u8 0, vInt .i64 0, CD.sl true [], CD.sl true [], vInt .i64 0] := by
 unfold aaj line
 rw [by_v]
 kernel_rfl
theorem bfv : ((CD.v (.string ⟨⟨[106, 111, 105, 110, 32, 48, 32, 49]⟩⟩)).slen : Int) ≤ 2500 := by
 rw [al3 rfl (by show 8 ≤ maxN; unfold maxN; omega)]
 show ((8 : Nat) : Int) ≤ 2500
 omega
theorem bll : aaj (.v (.string ⟨⟨[116, 105, 99, 107]⟩⟩)) = aex 2 := by
 unfold aaj line
 rw [by_v]
 kernel_rfl
theorem bf9 : ((CD.v (.string ⟨⟨[116, 105, 99, 107]⟩⟩)).slen : Int) ≤ 2500 := by
 rw [al3 rfl (by show 4 ≤ maxN; unfold maxN; omega)]
 show ((4 : Nat) : Int) ≤ 2500
 omega
theorem pX : aaj (.v (.string ⟨⟨[120]⟩⟩)) = aex 6 := by
 unfold aaj line
 rw [by_v]
 kernel_rfl
theorem pX_l : ((CD.v (.string ⟨⟨[120]⟩⟩)).slen : Int) ≤ 2500 := by
 rw [al3 rfl (by show 1 ≤ maxN; unfold maxN; omega)]
 show ((1 : Nat) : Int) ≤ 2500
 omega
noncomputable def T9 : List (FuncId × Fsp) := [(16, SPs), (28, SRf)]
set_option maxRecDepth 100000 in
theorem hT9 : aji U Tryd.prog T9 := .cons c16 (.cons c28 .nil)
noncomputable def SAwk : Fsp := ⟨[], [], [(false, [.bool])], [([], [[.lit (.bool true)]])], true⟩
noncomputable def hs9 : Hs := ⟨ad8 [], hintA [(1, fun F H => [.ap .le [.ap .slen [xCut], I 2500], .ap .eq [.ap (.usr 249) [xCut], I 0], .ap .eq [.ap (.usr 240) [xCut], I 7], .ap .eq [.ap (.usr 241) [xCut], I 0], .ap .eq [.ap (.usr 242) [xCut], I 0], .ap .eq [.ap (.usr 243) [xCut], I 1], .ap .eq [.ap (.usr 244) [xCut], .lit (.bool true)], .ap .eq [.ap (.usr 245) [xCut], .lit (.int .u8 0)], .ap .eq [.ap (.usr 246) [xCut], I 0], .ap .same [.ap (.usr 247) [xCut], .ap (.nil true) []], .ap .same [.ap (.usr 248) [xCut], .ap (.nil true) []], .ap .le [.ap .slen [ant], I 2500], .ap .eq [.ap (.usr 249) [ant], I 0], .ap .eq [.ap (.usr 240) [ant], I 7], .ap .eq [.ap (.usr 241) [ant], I 0], .ap .eq [.ap (.usr 242) [ant], I 0], .ap .eq [.ap (.usr 243) [ant], I 1], .ap .eq [.ap (.usr 244) [ant], .lit (.bool false)], .ap .eq [.ap (.usr 245) [ant], .lit (.int .u8 0)], .ap .eq [.ap (.usr 246) [ant], I 0], .ap .same [.ap (.usr 247) [ant], .ap (.nil true) []], .ap .same [.ap (.usr 248) [ant], .ap (.nil true) []], .ap .le [.ap .slen [bj9], I 2500], .ap .eq [.ap (.usr 249) [bj9], I 2], .ap .le [.ap .slen [xX], I 2500], .ap .eq [.ap (.usr 249) [xX], I 6]])]⟩
set_option maxRecDepth 100000 in
def r9_v : List VC := [([], (.ap .le [(.ap .slen [(.lit (.string (.mk (.mk [99, 117, 116, 32, 48, 32, 49]))))]), (I 2500)])),
 ([], (.ap .eq [(.ap (.usr 249) [(.lit (.string (.mk (.mk [99, 117, 116, 32, 48, 32, 49]))))]), (I 0)])),
 ([], (.ap .eq [(.ap (.usr 240) [(.lit (.string (.mk (.mk [99, 117, 116, 32, 48, 32, 49]))))]), (I 7)])),
 ([], (.ap .eq [(.ap (.usr 241) [(.lit (.string (.mk (.mk [99, 117, 116, 32, 48, 32, 49]))))]), (I 0)])),
 ([], (.ap .eq [(.ap (.usr 242) [(.lit (.string (.mk (.mk [99, 117, 116, 32, 48, 32, 49]))))]), (I 0)])),
 ([], (.ap .eq [(.ap (.usr 243) [(.lit (.string (.mk (.mk [99, 117, 116, 32, 48, 32, 49]))))]), (I 1)])),
 ([], (.ap .eq [(.ap (.usr 244) [(.lit (.string (.mk (.mk [99, 117, 116, 32, 48, 32, 49]))))]), (.lit (.bool true))])),
 ([], (.ap .eq [(.ap (.usr 245) [(.lit (.string (.mk (.mk [99, 117, 116, 32, 48, 32, 49]))))]), (.lit (.int .u8 0))])),
 ([], (.ap .eq [(.ap (.usr 246) [(.lit (.string (.mk (.mk [99, 117, 116, 32, 48, 32, 49]))))]), (I 0)])),
 ([], (.ap .same [(.ap (.usr 247) [(.lit (.string (.mk (.mk [99, 117, 116, 32, 48, 32, 49]))))]), (.ap (.nil true) [])])),
 ([], (.ap .same [(.ap (.usr 248) [(.lit (.string (.mk (.mk [99, 117, 116, 32, 48, 32, 49]))))]), (.ap (.nil true) [])])),
 ([], (.ap .le [(.ap .slen [(.lit (.string (.mk (.mk [106, 111, 105, 110, 32, 48, 32, 49]))))]), (I 2500)])),
 ([], (.ap .eq [(.ap (.usr 249) [(.lit (.string (.mk (.mk [106, 111, 105, 110, 32, 48, 32, 49]))))]), (I 0)])),
 ([], (.ap .eq [(.ap (.usr 240) [(.lit (.string (.mk (.mk [106, 111, 105, 110, 32, 48, 32, 49]))))]), (I 7)])),
 ([], (.ap .eq [(.ap (.usr 241) [(.lit (.string (.mk (.mk [106, 111, 105, 110, 32, 48, 32, 49]))))]), (I 0)])),
 ([], (.ap .eq [(.ap (.usr 242) [(.lit (.string (.mk (.mk [106, 111, 105, 110, 32, 48, 32, 49]))))]), (I 0)])),
 ([], (.ap .eq [(.ap (.usr 243) [(.lit (.string (.mk (.mk [106, 111, 105, 110, 32, 48, 32, 49]))))]), (I 1)])),
 ([], (.ap .eq [(.ap (.usr 244) [(.lit (.string (.mk (.mk [106, 111, 105, 110, 32, 48, 32, 49]))))]), (.lit (.bool false))])),
 ([], (.ap .eq [(.ap (.usr 245) [(.lit (.string (.mk (.mk [106, 111, 105, 110, 32, 48, 32, 49]))))]), (.lit (.int .u8 0))])),
 ([], (.ap .eq [(.ap (.usr 246) [(.lit (.string (.mk (.mk [106, 111, 105, 110, 32, 48, 32, 49]))))]), (I 0)])),
 ([], (.ap .same [(.ap (.usr 247) [(.lit (.string (.mk (.mk [106, 111, 105, 110, 32, 48, 32, 49]))))]), (.ap (.nil true) [])])),
 ([], (.ap .same [(.ap (.usr 248) [(.lit (.string (.mk (.mk [106, 111, 105, 110, 32, 48, 32, 49]))))]), (.ap (.nil true) [])])),
 ([], (.ap .le [(.ap .slen [(.lit (.string (.mk (.mk [116, 105, 99, 107]))))]), (I 2500)])),
 ([], (.ap .eq [(.ap (.usr 249) [(.lit (.string (.mk (.mk [116, 105, 99, 107]))))]), (I 2)])),
 ([], (.ap .le [(.ap .slen [(.lit (.string (.mk (.mk [120]))))]), (I 2500)])),
 ([], (.ap .eq [(.ap (.usr 249) [(.lit (.string (.mk (.mk [120]))))]), (I 6)]))]
set_option maxRecDepth 100000 in
def r9_o : List (List X × List (List X)) := [([(.ap .le [(.ap .slen [(.lit (.string (.mk (.mk [99, 117, 116, 32, 48, 32, 49]))))]), (I 2500)]), (.ap .eq [(.ap (.usr 249) [(.lit (.string (.mk (.mk [99, 117, 116, 32, 48, 32, 49]))))]), (I 0)]), (.ap .eq [(.ap (.usr 240) [(.lit (.string (.mk (.mk [99, 117, 116, 32, 48, 32, 49]))))]), (I 7)]), (.ap .eq [(.ap (.usr 241) [(.lit (.string (.mk (.mk [99, 117, 116, 32, 48, 32, 49]))))]), (I 0)]), (.ap .eq [(.ap (.usr 242) [(.lit (.string (.mk (.mk [99, 117, 116, 32, 48, 32, 49]))))]), (I 0)]), (.ap .eq [(.ap (.usr 243) [(.lit (.string (.mk (.mk [99, 117, 116, 32, 48, 32, 49]))))]), (I 1)]), (.ap .eq [(.ap (.usr 244) [(.lit (.string (.mk (.mk [99, 117, 116, 32, 48, 32, 49]))))]), (.lit (.bool true))]), (.ap .eq [(.ap (.usr 245) [(.lit (.string (.mk (.mk [99, 117, 116, 32, 48, 32, 49]))))]), (.lit (.int .u8 0))]), (.ap .eq [(.ap (.usr 246) [(.lit (.string (.mk (.mk [99, 117, 116, 32, 48, 32, 49]))))]), (I 0)]), (.ap .same [(.ap (.usr 247) [(.lit (.string (.mk (.mk [99, 117, 116, 32, 48, 32, 49]))))]), (.ap (.nil true) [])]), (.ap .same [(.ap (.usr 248) [(.lit (.string (.mk (.mk [99, 117, 116, 32, 48, 32, 49]))))]), (.ap (.nil true) [])]), (.ap .le [(.ap .slen [(.lit (.string (.mk (.mk [106, 111, 105, 110, 32, 48, 32, 49]))))]), (I 2500)]), (.ap .eq [(.ap (.usr 249) [(.lit (.string (.mk (.mk [106, 111, 105, 110, 32, 48, 32, 49]))))]), (I 0)]), (.ap .eq [(.ap (.usr 240) [(.lit (.string (.mk (.mk [106, 111, 105, 110, 32, 48, 32, 49]))))]), (I 7)]), (.ap .eq [(.ap (.usr 241) [(.lit (.string (.mk (.mk [106, 111, 105, 110, 32, 48, 32, 49]))))]), (I 0)]), (.ap .eq [(.ap (.usr 242) [(.lit (.string (.mk (.mk [106, 111, 105, 110, 32, 48, 32, 49]))))]), (I 0)]), (.ap .eq [(.ap (.usr 243) [(.lit (.string (.mk (.mk [106, 111, 105, 110, 32, 48, 32, 49]))))]), (I 1)]), (.ap .eq [(.ap (.usr 244) [(.lit (.string (.mk (.mk [106, 111, 105, 110, 32, 48, 32, 49]))))]), (.lit (.bool false))]), (.ap .eq [(.ap (.usr 245) [(.lit (.string (.mk (.mk [106, 111, 105, 110, 32, 48, 32, 49]))))]), (.lit (.int .u8 0))]), (.ap .eq [(.ap (.usr 246) [(.lit (.string (.mk (.mk [106, 111, 105, 110, 32, 48, 32, 49]))))]), (I 0)]), (.ap .same [(.ap (.usr 247) [(.lit (.string (.mk (.mk [106, 111, 105, 110, 32, 48, 32, 49]))))]), (.ap (.nil true) [])]), (.ap .same [(.ap (.usr 248) [(.lit (.string (.mk (.mk [106, 111, 105, 110, 32, 48, 32, 49]))))]), (.ap (.nil true) [])]), (.ap .le [(.ap .slen [(.lit (.string (.mk (.mk [116, 105, 99, 107]))))]), (I 2500)]), (.ap .eq [(.ap (.usr 249) [(.lit (.string (.mk (.mk [116, 105, 99, 107]))))]), (I 2)]), (.ap .le [(.ap .slen [(.lit (.string (.mk (.mk [120]))))]), (I 2500)]), (.ap .eq [(.ap (.usr 249) [(.lit (.string (.mk (.mk [120]))))]), (I 6)])], [[(.lit (.bool true))]])]
set_option maxRecDepth 100000 in
theorem blh : runS Tryd.prog (aev (tab T9)) 10 20 hs9 Tryd.f9 (abr Tryd.f9) SAwk = some (r9_v, r9_o) := by kernel_rfl
set_option maxHeartbeats 1000000 in
set_option maxRecDepth 100000 in
theorem c9 : aaq U Tryd.prog 9 SAwk := by
 refine aaq.of (P := Tryd.prog) (U := U) (T := (tab T9)) (f := 9) (fn := Tryd.f9) (fuel := 10) (fk := 20) (hs := hs9) (S := SAwk) (v := r9_v) (outs := r9_o) mixed hT9 at9 blh ?_ ?_
 ·unfold r9_v
  repeat' (first | exact ac8 _ | refine adp (fun v hh => ?_) ?_)
  all_goals
   simp only [aa1, aa5, aa4, aa6, abg, acd, ab7, aap, w_wr, b_lt, b_le, b_eq, aaz, ada, b_or, abe, aao, aa0, ade, aco, aan, aa8, abj, w_mk, aat, abq, adk, ac0, acy, abb, acz, adf, aa2, abn, ace, w_l0, w_l1, aac, aag, aa3, aae, aad, aam, aak, ab1, abz, ab0, abx, adh, adl, aby, ac1, w_eq, bap, bat, a9x, bb4, a7w, a9f, bbu, a8q, a9y, a8h, pCut, blg, bll, pX]
   first | exact bkj | exact bfv | exact bf9 | exact pX_l | rfl
 ·intro o ho σ hU hh
  obtain ⟨v⟩ := σ
  cases hU
  simp only [r9_o, List.mem_cons, List.not_mem_nil, or_false] at ho
  subst ho
  exact ⟨_, List.mem_cons_self .., by simp only [aa1, aa5, aa4, aa6, abg, acd, ab7, aap, w_wr, b_lt, b_le, b_eq, aaz, ada, b_or, abe, aao, aa0, ade, aco, aan, aa8, abj, w_mk, aat, abq, adk, ac0, acy, abb, acz, adf, aa2, abn, ace, w_l0, w_l1, aac, aag, aa3, aae, aad, aam, aak, ab1, abz, ab0, abx, adh, adl, aby, ac1], rfl⟩
def okR (l : List CD) : Bool := eqC (l.getD 0 default) (l.getD 0 default) && (eqC (l.getD 1 default) (l.getD 1 default) && (eqC (l.getD 2 default) (l.getD 2 default) && (eqC (l.getD 3 default) (l.getD 3 default) && (eqC (l.getD 4 default) (l.getD 4 default) && (eqC (l.getD 5 default) (l.getD 5 default) && (eqC (l.getD 6 default) (l.getD 6 default) && eqC (l.getD 9 default) (l.getD 9 default)))))))
theorem bjd {k : IntKind} {z : Int} : eqC (vInt k z) (vInt k z) = true := alv.mpr rfl
theorem bh4 {b : Bool} : eqC (aaf b) (aaf b) = true := by cases b <;> rfl
theorem bdj {k a b c m o e : Int} {s : Bool} {x y : CD} {q1 q2 q3 q4 q5 q6 q7 : IntKind} : okR [vInt q1 k, vInt q2 a, vInt q3 b, vInt q4 c, aaf s, vInt q5 m, vInt q6 o, x, y, vInt q7 e] = true := by
 unfold okR
 simp only [List.getD_cons_zero, List.getD_cons_succ, bjd, bh4, Bool.and_self]
theorem akt {e : Int} : okR (aex e) = true := bdj
theorem a8n {k : Int} {v : Nat → Int} {is : Bool} {b e : CD} : okR (ajg k v is b e) = true := by
 unfold ajg
 repeat' split
 all_goals exact bdj
theorem bkw {W : List (List UInt8)} {k m r : Int} {is : Bool} : okR (aau W k m r is) = true := by
 unfold aau
 repeat' split
 all_goals first | exact akt | exact a8n
theorem bkr (d : CD) : okR (aaj d) = true := by
 unfold aaj
 split
 ·exact akt
 ·split
  ·unfold as0
   split
   ·exact akt
   ·exact bkw
  ·exact akt
noncomputable def T3 : List (FuncId × Fsp) := [(6, ahs), (7, ahs), (8, a8a), (9, SAwk)]
set_option maxRecDepth 100000 in
theorem hT3 : aji U Tryd.prog T3 := .cons c6 (.cons c7 (.cons c8 (.cons c9 .nil)))
abbrev pX' (j : Nat) : X := .ap (.usr j) [.var 0]
noncomputable def hs3 : Hs := ⟨ad8 [], hintA [(5, fun F H => [.ap .eq [pX' 240, pX' 240], .ap .eq [pX' 241, pX' 241], .ap .eq [pX' 242, pX' 242], .ap .eq [pX' 243, pX' 243], .ap .eq [pX' 244, pX' 244], .ap .eq [pX' 245, pX' 245], .ap .eq [pX' 246, pX' 246], .ap .eq [pX' 249, pX' 249], .ap .same [pX' 247, pX' 247], .ap .same [pX' 248, pX' 248]])]⟩
noncomputable def SLaw : Fsp := ⟨[(false, [.str])], [], [(false, [.bool])], [([], [[.lit (.bool true)]])], true⟩
abbrev amn : List X := [(.ap .le [mnX, (.ap (.usr 240) [(.var 0)])]), (.ap .le [(.ap (.usr 240) [(.var 0)]), mxX]), (.ap .le [mnX, (.ap (.usr 241) [(.var 0)])]), (.ap .le [(.ap (.usr 241) [(.var 0)]), mxX]), (.ap .le [mnX, (.ap (.usr 242) [(.var 0)])]), (.ap .le [(.ap (.usr 242) [(.var 0)]), mxX]), (.ap .le [mnX, (.ap (.usr 243) [(.var 0)])]), (.ap .le [(.ap (.usr 243) [(.var 0)]), mxX]), (.ap .le [(.lit (.int .u8 0)), (.ap (.usr 245) [(.var 0)])]), (.ap .le [(.ap (.usr 245) [(.var 0)]), (.lit (.int .u8 255))]), (.ap .le [mnX, (.ap (.usr 246) [(.var 0)])]), (.ap .le [(.ap (.usr 246) [(.var 0)]), mxX]), (.ap (.typ (.sl [(.int .u8)])) [(.ap (.usr 247) [(.var 0)])]), (.ap (.typ (.sl [.bool])) [(.ap (.usr 248) [(.var 0)])]), (.ap .le [mnX, (.ap (.usr 249) [(.var 0)])]), (.ap .le [(.ap (.usr 249) [(.var 0)]), mxX]), (.ap .le [mnX, (.ap (.usr 240) [(.var 0)])]), (.ap .le [(.ap (.usr 240) [(.var 0)]), mxX]), (.ap .le [mnX, (.ap (.usr 241) [(.var 0)])]), (.ap .le [(.ap (.usr 241) [(.var 0)]), mxX]), (.ap .le [mnX, (.ap (.usr 242) [(.var 0)])]), (.ap .le [(.ap (.usr 242) [(.var 0)]), mxX]), (.ap .le [mnX, (.ap (.usr 243) [(.var 0)])]), (.ap .le [(.ap (.usr 243) [(.var 0)]), mxX]), (.ap .le [(.lit (.int .u8 0)), (.ap (.usr 245) [(.var 0)])]), (.ap .le [(.ap (.usr 245) [(.var 0)]), (.lit (.int .u8 255))]), (.ap .le [mnX, (.ap (.usr 246) [(.var 0)])]), (.ap .le [(.ap (.usr 246) [(.var 0)]), mxX]), (.ap (.typ (.sl [(.int .u8)])) [(.ap (.usr 247) [(.var 0)])]), (.ap (.typ (.sl [.bool])) [(.ap (.usr 248) [(.var 0)])]), (.ap .le [mnX, (.ap (.usr 249) [(.var 0)])]), (.ap .le [(.ap (.usr 249) [(.var 0)]), mxX]), (.ap .not [(.ap .lt [(I 2500), (.ap .slen [(.var 0)])])]), (.ap (.typ .str) [(.var 0)])]
set_option maxRecDepth 100000 in
def r3_v : List VC := [(amn, (.ap .eq [(.ap (.usr 240) [(.var 0)]), (.ap (.usr 240) [(.var 0)])])),
 (amn, (.ap .eq [(.ap (.usr 241) [(.var 0)]), (.ap (.usr 241) [(.var 0)])])),
 (amn, (.ap .eq [(.ap (.usr 242) [(.var 0)]), (.ap (.usr 242) [(.var 0)])])),
 (amn, (.ap .eq [(.ap (.usr 243) [(.var 0)]), (.ap (.usr 243) [(.var 0)])])),
 (amn, (.ap .eq [(.ap (.usr 244) [(.var 0)]), (.ap (.usr 244) [(.var 0)])])),
 (amn, (.ap .eq [(.ap (.usr 245) [(.var 0)]), (.ap (.usr 245) [(.var 0)])])),
 (amn, (.ap .eq [(.ap (.usr 246) [(.var 0)]), (.ap (.usr 246) [(.var 0)])])),
 (amn, (.ap .eq [(.ap (.usr 249) [(.var 0)]), (.ap (.usr 249) [(.var 0)])])),
 (amn, (.ap .same [(.ap (.usr 247) [(.var 0)]), (.ap (.usr 247) [(.var 0)])])),
 (amn, (.ap .same [(.ap (.usr 248) [(.var 0)]), (.ap (.usr 248) [(.var 0)])]))]
set_option maxRecDepth 100000 in
def r3_o : List (List X × List (List X)) := [([(.ap .lt [(I 2500), (.ap .slen [(.var 0)])]), (.ap (.typ .str) [(.var 0)])], [[(.lit (.bool true))]]),
 (((.ap .eq [(.ap (.usr 240) [(.var 0)]), (.ap (.usr 240) [(.var 0)])]) :: (.ap .eq [(.ap (.usr 241) [(.var 0)]), (.ap (.usr 241) [(.var 0)])]) :: (.ap .eq [(.ap (.usr 242) [(.var 0)]), (.ap (.usr 242) [(.var 0)])]) :: (.ap .eq [(.ap (.usr 243) [(.var 0)]), (.ap (.usr 243) [(.var 0)])]) :: (.ap .eq [(.ap (.usr 244) [(.var 0)]), (.ap (.usr 244) [(.var 0)])]) :: (.ap .eq [(.ap (.usr 245) [(.var 0)]), (.ap (.usr 245) [(.var 0)])]) :: (.ap .eq [(.ap (.usr 246) [(.var 0)]), (.ap (.usr 246) [(.var 0)])]) :: (.ap .eq [(.ap (.usr 249) [(.var 0)]), (.ap (.usr 249) [(.var 0)])]) :: (.ap .same [(.ap (.usr 247) [(.var 0)]), (.ap (.usr 247) [(.var 0)])]) :: (.ap .same [(.ap (.usr 248) [(.var 0)]), (.ap (.usr 248) [(.var 0)])]) :: amn), [[(.lit (.bool true))]])]
set_option maxRecDepth 100000 in
theorem bkq : runS Tryd.prog (aev (tab T3)) 10 20 hs3 Tryd.f3 (abr Tryd.f3) SLaw = some (r3_v, r3_o) := by kernel_rfl
set_option maxHeartbeats 1000000 in
set_option maxRecDepth 100000 in
theorem c3 : aaq U Tryd.prog 3 SLaw := by
 refine aaq.of (P := Tryd.prog) (U := U) (T := (tab T3)) (f := 3) (fn := Tryd.f3) (fuel := 10) (fk := 20) (hs := hs3) (S := SLaw) (v := r3_v) (outs := r3_o) mixed hT3 at3 bkq ?_ ?_
 ·unfold r3_v
  repeat' (first | exact ac8 _ | refine adp (fun v hh => ?_) ?_)
  all_goals
   have hR := bkr (v 0)
   unfold okR at hR
   simp only [Bool.and_eq_true] at hR
   simp only [aa1, aa5, aa4, aa6, abg, acd, ab7, aap, w_wr, b_lt, b_le, b_eq, aaz, ada, b_or, abe, aao, aa0, ade, aco, aan, aa8, abj, w_mk, aat, abq, adk, ac0, acy, abb, acz, adf, aa2, abn, ace, w_l0, w_l1, aac, aag, aa3, aae, aad, aam, aak, ab1, abz, ab0, abx, adh, adl, aby, ac1, w_eq, bap, bat, a9x, bb4, a7w, a9f, bbu, a8q, a9y, a8h]
   try first | exact hR.1 | exact hR.2.1 | exact hR.2.2.1 | exact hR.2.2.2.1 | exact hR.2.2.2.2.1 | exact hR.2.2.2.2.2.1 | exact hR.2.2.2.2.2.2.1 | exact hR.2.2.2.2.2.2.2 | rfl
 ·intro o ho σ hU hh
  obtain ⟨v⟩ := σ
  cases hU
  simp only [r3_o, List.mem_cons, List.not_mem_nil, or_false] at ho
  rcases ho with rfl | rfl
  all_goals exact ⟨_, List.mem_cons_self .., by simp only [aa1, aa5, aa4, aa6, abg, acd, ab7, aap, w_wr, b_lt, b_le, b_eq, aaz, ada, b_or, abe, aao, aa0, ade, aco, aan, aa8, abj, w_mk, aat, abq, adk, ac0, acy, abb, acz, adf, aa2, abn, ace, w_l0, w_l1, aac, aag, aa3, aae, aad, aam, aak, ab1, abz, ab0, abx, adh, adl, aby, ac1], rfl⟩
end Go.Proofs.YtamhchkknlbanaaDoor.Be

namespace Go.Sx
open Go.ChangeShapes Go.WideShapes
variable {P : Program}
def memW (W : World) : Mem := fun k o => W.heap[k]? = some o
def HasS (m : Mem) (ss : List Srt) (cs : List Value) : Prop := cs.length = ss.length ∧ ∃ ds, RSs m ss ds fun j => cs[j]?
theorem apm {m : Mem} : ∀ {ss ss' : List Srt} {ds ds' : List CD} {cs cs' : List Value}, cs.length = ss.length → RSs m ss ds (fun j => cs[j]?) → RSs m ss' ds' (fun j => cs'[j]?) → RSs m (ss ++ ss') (ds ++ ds') fun j => (cs ++ cs')[j]?
 | [], ss', ds, ds', cs, cs', hl, h, h' => by
  have h : ds = [] := h
  have : cs = [] := List.length_eq_zero_iff.1 hl
  subst h
  subst this
  exact h'
 | s :: ss, ss', ds, ds', [], cs', hl, h, h' => by simp at hl
 | s :: ss, ss', ds, ds', c :: cs, cs', hl, h, h' => by
  obtain ⟨d, r, u, rfl, h1, h2, h3⟩ := h
  refine ⟨d, r ++ ds', u, rfl, h1, h2, ?_⟩
  have h3' : RSs m ss r fun j => cs[j]? := h3.congr fun j _ => by simp
  have := apm (by simpa using hl) h3' h'
  exact this.congr fun j _ => by simp
theorem HasS.append {m : Mem} {ss ss' : List Srt} {cs cs' : List Value} (h : HasS m ss cs) (h' : HasS m ss' cs') : HasS m (ss ++ ss') (cs ++ cs') := by
 obtain ⟨h1, ds, h2⟩ := h
 obtain ⟨h3, ds', h4⟩ := h'
 exact ⟨by simp [h1, h3], ds ++ ds', apm h1 h2 h4⟩
section
variable {H : Type} {enc : TypeId × Value → H} {W : World} {base : Nat} {held : Bool}
end
end Go.Sx

namespace Go.Sx
open Go.WideShapes Go.ChangeShapes
theorem aod {W W' : World} (hk : ∀ k, k < W.heap.size → W'.heap[k]? = W.heap[k]?) (hos : W'.os = W.os) (hout : W'.output = W.output) (may : MemPlace → Prop) : W.keptBut W' may :=
 ⟨hos, hout, fun i hi => by rw [hk i hi]; exact (World.keptBut_refl W may).2.2 i hi⟩
theorem ash {W W' : World} (hk : ∀ k, k < W.heap.size → W'.heap[k]? = W.heap[k]?) {a : Addr} (ha : a.block < W.heap.size) : W'.frozen? a = W.frozen? a := by
 unfold World.frozen?
 rw [hk _ ha]
theorem av8 {H : Type} {enc : TypeId × Value → H} {P : Program} {f : Func} {s : ChangeSpec} {apart fresh handsOn again : Bool} {W W' : World} {args : Array Value} {v : Value} {ds gs : List (DataW H)} {before pa pv : List MemPlace}
  (hW : DataW.Whole enc P f.params.toList s.vars apart W args.toList ds gs before)
  (hres : ∀ (b : Nat) (sp : Nat → Bool) (hd : Bool), DataW.TrodAll enc P W' b sp hd f.resultTypes.toList (v.resultList f.resultTypes.size) (s.fn H (ds ++ gs)).results [])
  (hargs : ∀ sp : Nat → Bool, (∀ p ∈ before, sp p.block = true) → DataW.TrodAll enc P W' 0 sp true f.params.toList args.toList (s.fn H (ds ++ gs)).args pa)
  (hvars : ∀ sp : Nat → Bool, (∀ p ∈ before, sp p.block = true) → DataW.TrodVars enc P W' sp s.vars (s.fn H (ds ++ gs)).vars pv)
  (hps : before = pa ++ pv) (hk : ∀ k, k < W.heap.size → W'.heap[k]? = W.heap[k]?) (hos : W'.os = W.os) (hout : W'.output = W.output)
  (hok : ∀ (j : Nat) (t : TypeId) (r : Value), f.resultTypes[j]? = some t → (v.resultList f.resultTypes.size)[j]? = some r → Value.okWide P W' .any 0 t r) :
  s.post enc P f apart fresh handsOn again W args v W' := by
 have hold : ∀ p ∈ before, (fun b => decide (b < W.heap.size)) p.block = true := fun p hp => by simpa using hW.lt p hp
 have hlt : ∀ p ∈ before, p.block < W.heap.size := fun p hp => hW.lt p hp
 refine ⟨ds, gs, before, [], pa, pv, hW, hres _ _ _, hargs _ hold, hvars _ hold, World.keptBut_mono (fun p hp => ⟨hp, ?_⟩) (aod hk hos hout (· ∈ before)), fun _ => ?_⟩
 ·rw [hps, List.mem_append] at hp
  exact Or.inr hp
 ·obtain ⟨_, _, _, _, _, hz, hn⟩ := hW
  refine ⟨hok, _, _, ([] ++ pa) ++ pv, ⟨[] ++ pa, pv, trodAll_append (hargs _ (fun _ _ => rfl)) (hres _ _ _), hvars _ (fun _ _ => rfl), rfl, ?_, ?_⟩, ?_⟩
  ·intro b off hp
   have hp' : MemPlace.cell b off ∈ before := by rw [hps]; simpa using hp
   rw [ash hk (show (⟨b, off, none⟩ : Addr).block < W.heap.size from hlt _ hp')]
   exact hz b off hp'
  ·intro ha
   have := hn ha
   rw [hps] at this
   simpa using this
  ·intro p hp _
   rw [hps]
   simpa using hp
section
variable {H : Type} {enc : TypeId × Value → H} {P : Program} {W W' : World} {base : Nat} {sp : Nat → Bool} {held : Bool}
theorem azk (hk : ∀ k, k < W.heap.size → W'.heap[k]? = W.heap[k]?) : ∀ (n : Nat) (t : TypeId) (cs : List Value) (x : DataW H × List MemPlace), DataW.trod enc P W base sp held n t cs = some x → DataW.trod enc P W' base sp held n t cs = some x
 | 0, _, _, _, h => by simp [DataW.trod] at h
 | n + 1, t, cs, x, h => by
  have hlt := DataW.trod_lt (n + 1) t cs x h
  rw [DataW.trod_step] at h ⊢
  refine DataW.trodStep_carry (fun t cs x hx _ => azk hk n t cs x hx) h fun p hp => ?_
  have hb := hlt p hp
  cases p with
  | cell b off =>
   show W'.cell? ⟨b, off, none⟩ = W.cell? ⟨b, off, none⟩
   unfold World.cell?
   rw [hk b hb]
  | map b => exact hk b hb
theorem Trod.old (hk : ∀ k, k < W.heap.size → W'.heap[k]? = W.heap[k]?) {t : TypeId} {v : Value} {d : DataW H} {ps : List MemPlace} (h : DataW.Trod enc P W base sp held t v d ps) : DataW.Trod enc P W' base sp held t v d ps := by
 obtain ⟨n, hn⟩ := h
 exact ⟨n, azk hk n _ _ _ hn⟩
theorem TrodAll.old (hk : ∀ k, k < W.heap.size → W'.heap[k]? = W.heap[k]?) : ∀ {ts : List TypeId} {vs : List Value} {ds : List (DataW H)} {ps : List MemPlace}, DataW.TrodAll enc P W base sp held ts vs ds ps → DataW.TrodAll enc P W' base sp held ts vs ds ps
 | [], [], [], _, h => h
 | _ :: _, _ :: _, _ :: _, _, ⟨p, q, h1, h2, e⟩ => ⟨p, q, Trod.old hk h1, TrodAll.old hk h2, e⟩
end
end Go.Sx
