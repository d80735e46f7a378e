/-
  The line of a deed: laws of the plain words. Conditions: none.
-/
import Derived.Test.YtamhchkknlbanaaDoorBeM
import Derived.Test.YtamhchkknlbanaaDoorBeF
import Derived.Test.YtamhchkknlbanaaDoorBtF
import Derived.Test.YtamhchkknlbanaaDoorBeN
set_option linter.unusedSectionVars false
set_option linter.unusedVariables false
set_option linter.unusedSimpArgs false
set_option linter.all false
namespace Go.Proofs.YtamhchkknlbanaaDoor.Be
open Go.Sx Go.Proofs
set_option maxHeartbeats 4000000 in
set_option maxRecDepth 100000 in
theorem b9x : ∀ z ∈ r6_v, VCok U z := by
  unfold r6_v
  repeat' (first | exact ake _ | refine aku (fun v hh => ?_) ?_)
  all_goals
    simp only [aey, afm, ae1, afl, afj, ajd, ahp, adk, w_wr, b_lt, b_le, b_eq, ae0, aiu, b_or, ae6, ac7, adj, ajb, ahh, adf, adw, afd, w_mk, ad5, agr, ai9, ahz, ahq, afn, agq, ajc, ae3, afi, aho, w_l0, w_l1, abl, abo, aev, aaw, aax, adb, acw, ae5, afb, afc, ae4, aiy, aix, aff, ahx, axf, a2o, b1t, br7, bw7, bw8, al2, aah, awx, bw9, an4, ads, br8, aec, aed, ahd, ahe, ah0, aem, aqv, aqw, akj, adp, aqy, aqz, afp, am7, al7, ait, aq0, ajl, ajm, a1l, akk, aq1, ao5, a1m, a7w, a7y, a8a, ajo, a8c, a8e, a8f, a8g, aq2, agj, asl, asn, bnk, bw5, br2, br3, br4, a3z, br5, bw6, br6, a7c, a7e, aqs, a7g, bk5, a08, a7h, a7i, a1a, a7k, aqt, a1b, a7l, bk8, a1d, a7o, bld, a7p, a7q, aqu, a7r, blf, a1e, a7s, blh, a7t, a1f, a7u, a1g, a1h, a1i, a1j, a7v, bp3] at hh ⊢
    have hT : Typ .str (v 0) := by simp only [hh]
    have hTs : Typ (.sl [.str]) (wsC (v 0)) := by simp only [hh]
    have h22 : ¬ 2200 < ((v 0).slen : Int) := by simp [hh]
    have hk : okW (line (v 0)) = true := by simp only [hh]
    try simp only [Int.reduceToNat, tk_0 hTs, tk_k hTs, List.drop_drop, Nat.reduceAdd, b3b hTs, bul, ags] at hh ⊢
    first
    | exact ws_1 hk hTs
    | exact bzi hT h22 _
    | (repeat (obtain ⟨_, hh⟩ := hh)
       omega)
end Go.Proofs.YtamhchkknlbanaaDoor.Be

namespace Go.Proofs.YtamhchkknlbanaaDoor.Be
open Go.Sx Go.Proofs
set_option maxHeartbeats 4000000 in
set_option maxRecDepth 100000 in
theorem b9w : ∀ o ∈ r6_o, ∀ σ : Sg, σ.toUs = U → @Holds σ o.1 → ∃ q ∈ a4j.outs, @Holds σ q.1 ∧ q.2.map (@denL σ) = o.2.map (@denL σ) := by
  intro o ho σ hU hh
  obtain ⟨v⟩ := σ
  cases hU
  simp only [r6_o, List.mem_cons, List.not_mem_nil, or_false] at ho
  repeat' (first | (rcases ho with rfl | ho) | subst ho)
  all_goals
    refine ⟨_, List.mem_cons_self .., by simp only [aey, afm, ae1, afl, afj, ajd, ahp, adk, w_wr, b_lt, b_le, b_eq, ae0, aiu, b_or, ae6, ac7, adj, ajb, ahh, adf, adw, afd, w_mk, ad5, agr, ai9, ahz, ahq, afn, agq, ajc, ae3, afi, aho, w_l0, w_l1, abl, abo, aev, aaw, aax, adb, acw, ae5, afb, afc, ae4, aiy, aix, aff, ahx], ?_⟩
    simp only [aey, afm, ae1, afl, afj, ajd, ahp, adk, w_wr, b_lt, b_le, b_eq, ae0, aiu, b_or, ae6, ac7, adj, ajb, ahh, adf, adw, afd, w_mk, ad5, agr, ai9, ahz, ahq, afn, agq, ajc, ae3, afi, aho, w_l0, w_l1, abl, abo, aev, aaw, aax, adb, acw, ae5, afb, afc, ae4, aiy, aix, aff, ahx, axf, a2o, bl9, bma, bny, a2q, ber, bes, a2n, b1t, br7, bw7, bw8, al2, aah, awx, bw9, an4, ads, br8, aec, aed, ahd, ahe, ah0, aem, aqv, aqw, akj, adp, aqy, aqz, afp, am7, al7, ait, aq0, ajl, ajm, a1l, akk, aq1, ao5, a1m, a7w, a7y, a8a, ajo, a8c, a8e, a8f, a8g, aq2, agj, asl, asn, bnk, bw5, br2, br3, br4, a3z, br5, bw6, br6, a7c, a7e, aqs, a7g, bk5, a08, a7h, a7i, a1a, a7k, aqt, a1b, a7l, bk8, a1d, a7o, bld, a7p, a7q, aqu, a7r, blf, a1e, a7s, blh, a7t, a1f, a7u, a1g, a1h, a1i, a1j, a7v, bp3] at hh
    simp only [List.map_cons, List.map_nil, aey, afm, ae1, afl, afj, ajd, ahp, adk, w_wr, b_lt, b_le, b_eq, ae0, aiu, b_or, ae6, ac7, adj, ajb, ahh, adf, adw, afd, w_mk, ad5, agr, ai9, ahz, ahq, afn, agq, ajc, ae3, afi, aho, w_l0, w_l1, abl, abo, aev, aaw, aax, adb, acw, ae5, afb, afc, ae4, aiy, aix, aff, ahx, w_lt, w_le, w_eq, bn0, byq, w_or, bmk, a3c, bn1, axf, a2o, bl9, bma, a2q, ber, bes, a2n, aw0, aw1, aw5, aw6, aw8, aw9, axa, axb, axd, axe]
    have hT : Typ .str (v 0) := by simp only [hh]
    first
    | (have hx := hh.1
       rw [b9j hx hT]; rfl)
    | (have hx := hh.2.1
       rw [b5x hh.2.2.2.1 hT hx]; rfl)
    | (have hk : okW (line (v 0)) = true := by simp only [hh]
       have hTs : Typ (.sl [.str]) (wsC (v 0)) := by simp only [hh]
       have h22 : ¬ 2200 < ((v 0).slen : Int) := by simp [hh]
       try simp only [Int.reduceToNat, tk_0 hTs, tk_k hTs, List.drop_drop, Nat.reduceAdd, b3b hTs, bmw, b0p, bul, ags] at hh
       try simp only [Int.reduceToNat, tk_0 hTs, tk_k hTs, List.drop_drop, Nat.reduceAdd, bmw]
       have hh2 := hh
       repeat (obtain ⟨_, hh2⟩ := hh2)
       first
       | (have hp := by first | exact b56 (by assumption) h22 hT hk | exact b55 (by assumption) h22 hT hk | exact b50 (by assumption) h22 hT hk | exact cba (by assumption) h22 hT hk | exact b5z (by assumption) h22 hT hk | exact bwx (by assumption) h22 hT hk | exact b53 (by assumption) h22 hT hk | exact b9m (by assumption) h22 hT hk | exact b52 (by assumption) h22 hT hk | exact b9l (by assumption) h22 hT hk | exact b1i (by assumption) h22 hT hk | exact bwy (by assumption) h22 hT hk | exact b1j (by assumption) h22 hT hk | exact b51 (by assumption) h22 hT hk | exact b57 (by assumption) h22 hT hk
          rw [hp]
          clear hp
          first
          | (rw [kB 1 (by decide) (by decide) (by assumption)]; rfl)
          | (rw [kB 2 (by decide) (by decide) (by assumption)]; rfl)
          | (rw [kB 3 (by decide) (by decide) (by assumption)]; rfl)
          | (rw [kB 4 (by decide) (by decide) (by assumption)]; rfl)
          | (rw [kA (by omega)]; rfl)
          | (rw [kC (by omega)]; rfl)
          | (rw [kC0 (by omega)]; rfl)
          | (have hm : 255 < al1 (gw (wds (v 0)) 4) := by assumption
             by_cases hn : nOk (gw (wds (v 0)) 4) = true
             · rw [kM (by unfold nV; rw [← as9 hn]; exact hm)]; rfl
             · rw [kB 4 (by decide) (by decide) hn]; rfl)
          | (have hn : nOk (gw (wds (v 0)) 4) = true := by assumption
             have hm : numV (gw (wds (v 0)) 4) ≤ 255 := by rw [← as9 hn]; omega
             rw [kD (by omega) (by simp [nOks, hh]) (fun h13 => by have := h13.2; unfold nV at this; omega)]
             simp [an0, nV, as9, hh, ags, anz]
             rw [b7f (b5l _) hm])
          | (rw [kD (by omega) (by simp [nOks, hh]) (fun h13 => absurd h13.1 (by decide))]
             simp [an0, nV, as9, hh, ags, anz])
          | (have hy : (hexB (gw (wds (v 0)) 3) && decide ((gw (wds (v 0)) 3).length % 2 = 0)) = true := by assumption
             have hx : ar7 (gw (wds (v 0)) 3) = true := by rw [← b8v hk (by omega)]; exact hy
             rw [bz6 hx, kE1 (by omega) (by simp [nOks, hh])]
             simp [an0, nV, as9, hh, ags, anz, hx])
          | (have hy : ¬ (hexB (gw (wds (v 0)) 3) && decide ((gw (wds (v 0)) 3).length % 2 = 0)) = true := by assumption
             have hx : ¬ ar7 (gw (wds (v 0)) 3) = true := by rw [← b8v hk (by omega)]; exact hy
             have e := kE1 (W := wds (v 0)) (k := 8) (m := 2) (is := false) (by omega) (by simp [nOks, hh])
             simp only [Int.reduceToNat, Nat.reduceAdd] at e
             rw [e, if_neg hx]; rfl)
          | (have hy : ad3 (gw (wds (v 0)) 3) = true := by assumption
             have hx : awp (gw (wds (v 0)) 3) = true := by rw [← b7z hk (by omega)]; exact hy
             have e := kE2 (W := wds (v 0)) (k := 10) (m := 2) (is := false) (by omega) (by simp [nOks, hh])
             simp only [Int.reduceToNat, Nat.reduceAdd] at e
             rw [e, if_pos hx]
             simp [an0, nV, as9, hh, ags, anz])
          | (have hy : ¬ ad3 (gw (wds (v 0)) 3) = true := by assumption
             have hx : ¬ awp (gw (wds (v 0)) 3) = true := by rw [← b7z hk (by omega)]; exact hy
             have e := kE2 (W := wds (v 0)) (k := 10) (m := 2) (is := false) (by omega) (by simp [nOks, hh])
             simp only [Int.reduceToNat, Nat.reduceAdd] at e
             rw [e, if_neg hx]; rfl))
       | (rw [b54 (by assumption) (by assumption) (by assumption) (by assumption) (by assumption) (by assumption) (by assumption) (by assumption) (by assumption) (by assumption) (by assumption) (by assumption) (by assumption) (by assumption) (by assumption) (by assumption) hTs h22 hT hk]; rfl))
end Go.Proofs.YtamhchkknlbanaaDoor.Be

namespace Go.Proofs.YtamhchkknlbanaaDoor.Be
open Go.Sx Go.Proofs
set_option maxRecDepth 100000 in
theorem spc6 : abd U Tryd.prog 6 a4j := by
 exact ahg (P := Tryd.prog) (U := U) (f := 6) (fn := Tryd.f6) (c := aef Tryd.f6) (S := a4j) (v := r6_v) (outs := r6_o) (hs := hs6) (cx := ⟨ora6, orvK Tryd.prog ora6 10 20 tb6 4, Tb.ent tb6, 10, 20, none, Go.Sx.keyOf 6⟩) mixed ⟨bwt, arf mixed bwt (TbOK.of b8r) 4, (TbOK.of b8r).ent⟩ rfl (ah1 (by kernel_rfl)) at6.at' at6.body at6.call at6.flow cbd b9x b9w
end Go.Proofs.YtamhchkknlbanaaDoor.Be

namespace Go.Proofs.YtamhchkknlbanaaDoor.Be
open Go.Sx Go.Proofs
theorem bzp {d : CD} (h : Typ .bool d) : eqC d d = true := by
 obtain ⟨m, u, b, rfl, _⟩ := h
 cases b <;> rfl
end Go.Proofs.YtamhchkknlbanaaDoor.Be

namespace Go.Proofs.YtamhchkknlbanaaDoor.Be
open Go.Sx Go.Proofs
noncomputable def T16 : List (FuncId × Fsp) := [(6, a4j)]
set_option maxRecDepth 100000 in
theorem hT16 : awn U Tryd.prog T16 := .cons spc6 .nil
noncomputable def lp39 : Lp := ⟨[(.slot 5, .int .i64)], [0, 1, 4], [], fun F H k => [.ap .le [zI, .var k], .ap .le [.var k, .ap .len [.ap (.usr 248) [.var 0]]], .ap .le [.ap .len [.ap (.usr 248) [.var 0]], .ap .len [.var 9]]], fun F H k => .ap (.sub .i64) [.ap .len [.ap (.usr 248) [.var 0]], .var k]⟩
noncomputable def bvb : List (FuncId × Inl) := [(38, ⟨Tryd.f38, noH⟩), (39, ⟨Tryd.f39, ⟨an2 [(4, lp39)], hintA [(3, fun F H => [.ap .le [.ap .len [.ap (.usr 248) [.var 0]], .ap .len [.var 9]]])]⟩⟩)]
set_option maxRecDepth 100000 in
theorem b3l : ap7 U Tryd.prog bvb := .cons (.of at38 (by kernel_rfl)) (.cons (.of at39 (by kernel_rfl)) .nil)
noncomputable def SPs : Fsp := ⟨[(false, [.str]), (true, bls)], [.ap .le [.ap .slen [.var 0], I 2500], .ap .eq [.ap (.usr 249) [.var 0], I 0], .ap .eq [.ap (.usr 240) [.var 0], .var 1], .ap .eq [.ap (.usr 241) [.var 0], .var 2], .ap .eq [.ap (.usr 242) [.var 0], .var 3], .ap .eq [.ap (.usr 243) [.var 0], .var 4], .ap .eq [.ap (.usr 244) [.var 0], .var 5], .ap .eq [.ap (.usr 245) [.var 0], .var 6], .ap .eq [.ap (.usr 246) [.var 0], .var 7], .ap .same [.ap (.usr 247) [.var 0], .var 8], .ap .same [.ap (.usr 248) [.var 0], .var 9]], [(false, [.bool])], [([], [[.lit (.bool true)]])], true⟩
abbrev av7 : X := (.ap .len [(.ap (.usr 248) [(.var 0)])])
abbrev bp0 : X := (.ap .eq [(.ap .str [(.ap (.usr 247) [(.var 0)])]), (.ap .str [(.var 8)])])
abbrev bpz : List X := [(.ap .le [mnX, (.ap (.usr 240) [(.var 0)])]), (.ap .le [(.ap (.usr 240) [(.var 0)]), mxX]), (.ap .le [mnX, (.ap (.usr 241) [(.var 0)])]), (.ap .le [(.ap (.usr 241) [(.var 0)]), mxX]), (.ap .le [mnX, (.ap (.usr 242) [(.var 0)])]), (.ap .le [(.ap (.usr 242) [(.var 0)]), mxX]), (.ap .le [mnX, (.ap (.usr 243) [(.var 0)])]), (.ap .le [(.ap (.usr 243) [(.var 0)]), mxX]), (.ap .le [(.lit (.int .u8 0)), (.ap (.usr 245) [(.var 0)])]), (.ap .le [(.ap (.usr 245) [(.var 0)]), (.lit (.int .u8 255))]), (.ap .le [mnX, (.ap (.usr 246) [(.var 0)])]), (.ap .le [(.ap (.usr 246) [(.var 0)]), mxX]), (.ap (.typ (.sl [(.int .u8)])) [(.ap (.usr 247) [(.var 0)])]), (.ap (.typ (.sl [.bool])) [(.ap (.usr 248) [(.var 0)])]), (.ap .le [mnX, (.ap (.usr 249) [(.var 0)])]), (.ap .le [(.ap (.usr 249) [(.var 0)]), mxX]), (.ap (.typ .str) [(.var 0)]), (.ap .le [mnX, (.var 1)]), (.ap .le [(.var 1), mxX]), (.ap .le [mnX, (.var 2)]), (.ap .le [(.var 2), mxX]), (.ap .le [mnX, (.var 3)]), (.ap .le [(.var 3), mxX]), (.ap .le [mnX, (.var 4)]), (.ap .le [(.var 4), mxX]), (.ap .le [(.lit (.int .u8 0)), (.var 6)]), (.ap .le [(.var 6), (.lit (.int .u8 255))]), (.ap .le [mnX, (.var 7)]), (.ap .le [(.var 7), mxX]), (.ap (.typ (.sl [(.int .u8)])) [(.var 8)]), (.ap (.typ (.sl [.bool])) [(.var 9)]), (.ap .le [(.ap .slen [(.var 0)]), (I 2500)]), (.ap .eq [(.ap (.usr 249) [(.var 0)]), (I 0)]), (.ap .eq [(.ap (.usr 240) [(.var 0)]), (.var 1)]), (.ap .eq [(.ap (.usr 241) [(.var 0)]), (.var 2)]), (.ap .eq [(.ap (.usr 242) [(.var 0)]), (.var 3)]), (.ap .eq [(.ap (.usr 243) [(.var 0)]), (.var 4)]), (.ap .eq [(.ap (.usr 244) [(.var 0)]), (.var 5)]), (.ap .eq [(.ap (.usr 245) [(.var 0)]), (.var 6)]), (.ap .eq [(.ap (.usr 246) [(.var 0)]), (.var 7)]), (.ap .same [(.ap (.usr 247) [(.var 0)]), (.var 8)]), (.ap .same [(.ap (.usr 248) [(.var 0)]), (.var 9)])]
abbrev bw1 : List X := (.ap .le [(I 0), (.var 10)]) :: (.ap .le [(.var 10), av7]) :: (.ap .le [av7, (.ap .len [(.var 9)])]) :: (.ap .le [av7, (.ap .len [(.var 9)])]) :: (.ap .eq [av7, (.ap .len [(.var 9)])]) :: bp0 :: bpz
set_option maxRecDepth 100000 in
def b6c : List VC := []
set_option maxRecDepth 100000 in
def b6b : List (List X × List (List X)) := [(((.ap .not [(.ap .eq [av7, (.ap .len [(.var 9)])])]) :: bp0 :: bpz), [[(.lit (.bool false))]]),
 (((.ap .not [(.ap .eq [(.ap (.cell 0) [(.ap (.usr 248) [(.var 0)]), (.var 10)]), (.ap (.cell 0) [(.var 9), (.var 10)])])]) :: (.ap .lt [(.var 10), av7]) :: bw1), [[(.lit (.bool false))]]),
 (((.ap .not [(.ap .lt [(.var 10), av7])]) :: bw1), [[(.lit (.bool true))]]),
 (((.ap .not [bp0]) :: bpz), [[(.lit (.bool false))]])]
set_option maxRecDepth 100000 in
theorem b9p : runV Tryd.prog (cxOf Tryd.prog (anq (tab T16)) 10 20 ⟨asa bvb, noY, U.lc⟩ 3 16) noH Tryd.f16 (aef Tryd.f16) SPs = some (b6c, b6b) := by kernel_rfl
set_option maxRecDepth 100000 in
theorem cbh : abd U Tryd.prog 16 SPs := by
 refine abd.ofV (P := Tryd.prog) (U := U) (T := (tab T16)) (l := bvb) (y := noY) (dp := 3) (f := 16) (fn := Tryd.f16) (fuel := 10) (fk := 20) (hs := noH) (S := SPs) (v := b6c) (outs := b6b) mixed hT16 b3l at16 (ah1 (by kernel_rfl)) b9p ?_ ?_
 ·unfold b6c
  exact ake _
 ·intro o ho σ hU hh
  obtain ⟨v⟩ := σ
  cases hU
  simp only [b6b, List.mem_cons, List.not_mem_nil, or_false] at ho
  rcases ho with rfl | rfl | rfl | rfl
  all_goals
   refine ⟨_, List.mem_cons_self .., by simp only [aey, afm, ae1, afl, afj, ajd, ahp, adk, w_wr, b_lt, b_le, b_eq, ae0, aiu, b_or, ae6, ac7, adj, ajb, ahh, adf, adw, afd, w_mk, ad5, agr, ai9, ahz, ahq, afn, agq, ajc, ae3, afi, aho, w_l0, w_l1, abl, abo, aev, aaw, aax, adb, acw, ae5, afb, afc, ae4, aiy, aix, aff, ahx], ?_⟩
   simp only [aey, afm, ae1, afl, afj, ajd, ahp, adk, w_wr, b_lt, b_le, b_eq, ae0, aiu, b_or, ae6, ac7, adj, ajb, ahh, adf, adw, afd, w_mk, ad5, agr, ai9, ahz, ahq, afn, agq, ajc, ae3, afi, aho, w_l0, w_l1, abl, abo, aev, aaw, aax, adb, acw, ae5, afb, afc, ae4, aiy, aix, aff, ahx, w_eq, bpz, av7, bp0, bw1] at hh
   have h7 : @Us.u U 247 [v 0] = v 8 := by simp only [hh]
   have h8 : @Us.u U 248 [v 0] = v 9 := by simp only [hh]
  ·exact absurd (by rw [h8]; exact bul.mpr rfl) hh.1
  ·have hT : Typ (.sl [.bool]) (v 9) := by simp only [hh]
   have h0 : 0 ≤ (v 10).iv := by simp only [hh]
   have hi : (v 10).iv < ((v 9).len : Int) := by rw [← h8]; exact hh.2.1
   refine absurd ?_ hh.1
   rw [h8]
   exact bzp (hT.cell h0 hi rfl)
  ·rfl
  ·refine absurd ?_ hh.1
   rw [h7]
   exact a4v.mpr rfl
noncomputable def SRf : Fsp := ⟨[(false, [.str]), (false, [sI])], [.ap .le [.ap .slen [.var 0], I 2500], .ap .eq [.ap (.usr 249) [.var 0], .var 1]], [(false, [.bool])], [([], [[.lit (.bool true)]])], true⟩
set_option maxRecDepth 100000 in
def b6l : List VC := []
set_option maxRecDepth 100000 in
def b6k : List (List X × List (List X)) := [([(.ap .le [mnX, (.ap (.usr 240) [(.var 0)])]), (.ap .le [(.ap (.usr 240) [(.var 0)]), mxX]), (.ap .le [mnX, (.ap (.usr 241) [(.var 0)])]), (.ap .le [(.ap (.usr 241) [(.var 0)]), mxX]), (.ap .le [mnX, (.ap (.usr 242) [(.var 0)])]), (.ap .le [(.ap (.usr 242) [(.var 0)]), mxX]), (.ap .le [mnX, (.ap (.usr 243) [(.var 0)])]), (.ap .le [(.ap (.usr 243) [(.var 0)]), mxX]), (.ap .le [(.lit (.int .u8 0)), (.ap (.usr 245) [(.var 0)])]), (.ap .le [(.ap (.usr 245) [(.var 0)]), (.lit (.int .u8 255))]), (.ap .le [mnX, (.ap (.usr 246) [(.var 0)])]), (.ap .le [(.ap (.usr 246) [(.var 0)]), mxX]), (.ap (.typ (.sl [(.int .u8)])) [(.ap (.usr 247) [(.var 0)])]), (.ap (.typ (.sl [.bool])) [(.ap (.usr 248) [(.var 0)])]), (.ap .le [mnX, (.ap (.usr 249) [(.var 0)])]), (.ap .le [(.ap (.usr 249) [(.var 0)]), mxX]), (.ap (.typ .str) [(.var 0)]), (.ap .le [mnX, (.var 1)]), (.ap .le [(.var 1), mxX]), (.ap .le [(.ap .slen [(.var 0)]), (I 2500)]), (.ap .eq [(.ap (.usr 249) [(.var 0)]), (.var 1)])], [[(.ap .eq [(.ap (.usr 249) [(.var 0)]), (.var 1)])]])]
set_option maxRecDepth 100000 in
theorem b9t : runS Tryd.prog (anq (tab T16)) 10 20 noH Tryd.f28 (aef Tryd.f28) SRf = some (b6l, b6k) := by kernel_rfl
set_option maxRecDepth 100000 in
theorem cbl : abd U Tryd.prog 28 SRf := by
  refine abd.of (P := Tryd.prog) (U := U) (T := (tab T16)) (f := 28) (fn := Tryd.f28) (fuel := 10) (fk := 20) (hs := noH) (S := SRf) (v := b6l) (outs := b6k) mixed hT16 at28 b9t ?_ ?_
  · unfold b6l
    exact ake _
  · intro o ho σ hU hh
    obtain ⟨v⟩ := σ
    cases hU
    simp only [b6k, List.mem_cons, List.not_mem_nil, or_false] at ho
    subst ho
    refine ⟨_, List.mem_cons_self .., by simp only [aey, afm, ae1, afl, afj, ajd, ahp, adk, w_wr, b_lt, b_le, b_eq, ae0, aiu, b_or, ae6, ac7, adj, ajb, ahh, adf, adw, afd, w_mk, ad5, agr, ai9, ahz, ahq, afn, agq, ajc, ae3, afi, aho, w_l0, w_l1, abl, abo, aev, aaw, aax, adb, acw, ae5, afb, afc, ae4, aiy, aix, aff, ahx], ?_⟩
    simp only [aey, afm, ae1, afl, afj, ajd, ahp, adk, w_wr, b_lt, b_le, b_eq, ae0, aiu, b_or, ae6, ac7, adj, ajb, ahh, adf, adw, afd, w_mk, ad5, agr, ai9, ahz, ahq, afn, agq, ajc, ae3, afi, aho, w_l0, w_l1, abl, abo, aev, aaw, aax, adb, acw, ae5, afb, afc, ae4, aiy, aix, aff, ahx, w_eq] at hh
    first
    | rfl
    | (have : eqC (@Us.u U 249 [v 0]) (v 1) = true := by simp only [hh]
       simp only [List.map_cons, List.map_nil, aey, afm, ae1, afl, afj, ajd, ahp, adk, w_wr, b_lt, b_le, b_eq, ae0, aiu, b_or, ae6, ac7, adj, ajb, ahh, adf, adw, afd, w_mk, ad5, agr, ai9, ahz, ahq, afn, agq, ajc, ae3, afi, aho, w_l0, w_l1, abl, abo, aev, aaw, aax, adb, acw, ae5, afb, afc, ae4, aiy, aix, aff, ahx, w_lt, w_le, w_eq, bn0, byq, w_or, bmk, a3c, bn1, this]
       rfl)
abbrev xCut : X := (.lit (.string ⟨⟨[99, 117, 116, 32, 48, 32, 49]⟩⟩))
abbrev a3i : X := (.lit (.string ⟨⟨[106, 111, 105, 110, 32, 48, 32, 49]⟩⟩))
abbrev cak : X := (.lit (.string ⟨⟨[116, 105, 99, 107]⟩⟩))
abbrev xX : X := (.lit (.string ⟨⟨[120]⟩⟩))
theorem pCut : aai (.v (.string ⟨⟨[99, 117, 116, 32, 48, 32, 49]⟩⟩)) = [vInt .i64 7, vInt .i64 0, vInt .i64 0, vInt .i64 1, aak true, vInt .u8 0, vInt .i64 0, CD.sl true [], CD.sl true [], vInt .i64 0] := by
 unfold aai line
 rw [by_v]
 kernel_rfl
theorem b9i : ((CD.v (.string ⟨⟨[99, 117, 116, 32, 48, 32, 49]⟩⟩)).slen : Int) ≤ 2500 := by
 rw [a19 rfl (by show 7 ≤ maxN; unfold maxN; omega)]
 show ((7 : Nat) : Int) ≤ 2500
 omega
theorem ca6 : aai (.v (.string ⟨⟨[106, 111, 105, 110, 32, 48, 32, 49]⟩⟩)) = [vInt .i64 7, vInt .i64 0, vInt .i64 0, vInt .i64 1, aak false, vInt .u8 0, vInt .i64 0, CD.sl true [], CD.sl true [], vInt .i64 0] := by
 unfold aai line
 rw [by_v]
 kernel_rfl
theorem b5v : ((CD.v (.string ⟨⟨[106, 111, 105, 110, 32, 48, 32, 49]⟩⟩)).slen : Int) ≤ 2500 := by
 rw [a19 rfl (by show 8 ≤ maxN; unfold maxN; omega)]
 show ((8 : Nat) : Int) ≤ 2500
 omega
theorem ca7 : aai (.v (.string ⟨⟨[116, 105, 99, 107]⟩⟩)) = alb 2 := by
 unfold aai line
 rw [by_v]
 kernel_rfl
theorem b5w : ((CD.v (.string ⟨⟨[116, 105, 99, 107]⟩⟩)).slen : Int) ≤ 2500 := by
 rw [a19 rfl (by show 4 ≤ maxN; unfold maxN; omega)]
 show ((4 : Nat) : Int) ≤ 2500
 omega
theorem pX : aai (.v (.string ⟨⟨[120]⟩⟩)) = alb 6 := by
 unfold aai line
 rw [by_v]
 kernel_rfl
theorem pX_l : ((CD.v (.string ⟨⟨[120]⟩⟩)).slen : Int) ≤ 2500 := by
 rw [a19 rfl (by show 1 ≤ maxN; unfold maxN; omega)]
 show ((1 : Nat) : Int) ≤ 2500
 omega
noncomputable def T9 : List (FuncId × Fsp) := [(16, SPs), (28, SRf)]
set_option maxRecDepth 100000 in
theorem hT9 : awn U Tryd.prog T9 := .cons cbh (.cons cbl .nil)
noncomputable def SAwk : Fsp := ⟨[], [], [(false, [.bool])], [([], [[.lit (.bool true)]])], true⟩
noncomputable def hs9 : Hs := ⟨an2 [], hintA [(1, fun F H => [.ap .le [.ap .slen [xCut], I 2500], .ap .eq [.ap (.usr 249) [xCut], I 0], .ap .eq [.ap (.usr 240) [xCut], I 7], .ap .eq [.ap (.usr 241) [xCut], I 0], .ap .eq [.ap (.usr 242) [xCut], I 0], .ap .eq [.ap (.usr 243) [xCut], I 1], .ap .eq [.ap (.usr 244) [xCut], .lit (.bool true)], .ap .eq [.ap (.usr 245) [xCut], .lit (.int .u8 0)], .ap .eq [.ap (.usr 246) [xCut], I 0], .ap .same [.ap (.usr 247) [xCut], .ap (.nil true) []], .ap .same [.ap (.usr 248) [xCut], .ap (.nil true) []], .ap .le [.ap .slen [a3i], I 2500], .ap .eq [.ap (.usr 249) [a3i], I 0], .ap .eq [.ap (.usr 240) [a3i], I 7], .ap .eq [.ap (.usr 241) [a3i], I 0], .ap .eq [.ap (.usr 242) [a3i], I 0], .ap .eq [.ap (.usr 243) [a3i], I 1], .ap .eq [.ap (.usr 244) [a3i], .lit (.bool false)], .ap .eq [.ap (.usr 245) [a3i], .lit (.int .u8 0)], .ap .eq [.ap (.usr 246) [a3i], I 0], .ap .same [.ap (.usr 247) [a3i], .ap (.nil true) []], .ap .same [.ap (.usr 248) [a3i], .ap (.nil true) []], .ap .le [.ap .slen [cak], I 2500], .ap .eq [.ap (.usr 249) [cak], I 2], .ap .le [.ap .slen [xX], I 2500], .ap .eq [.ap (.usr 249) [xX], I 6]])]⟩
set_option maxRecDepth 100000 in
def r9_v : List VC := [([], (.ap .le [(.ap .slen [(.lit (.string (.mk (.mk [99, 117, 116, 32, 48, 32, 49]))))]), (I 2500)])),
 ([], (.ap .eq [(.ap (.usr 249) [(.lit (.string (.mk (.mk [99, 117, 116, 32, 48, 32, 49]))))]), (I 0)])),
 ([], (.ap .eq [(.ap (.usr 240) [(.lit (.string (.mk (.mk [99, 117, 116, 32, 48, 32, 49]))))]), (I 7)])),
 ([], (.ap .eq [(.ap (.usr 241) [(.lit (.string (.mk (.mk [99, 117, 116, 32, 48, 32, 49]))))]), (I 0)])),
 ([], (.ap .eq [(.ap (.usr 242) [(.lit (.string (.mk (.mk [99, 117, 116, 32, 48, 32, 49]))))]), (I 0)])),
 ([], (.ap .eq [(.ap (.usr 243) [(.lit (.string (.mk (.mk [99, 117, 116, 32, 48, 32, 49]))))]), (I 1)])),
 ([], (.ap .eq [(.ap (.usr 244) [(.lit (.string (.mk (.mk [99, 117, 116, 32, 48, 32, 49]))))]), (.lit (.bool true))])),
 ([], (.ap .eq [(.ap (.usr 245) [(.lit (.string (.mk (.mk [99, 117, 116, 32, 48, 32, 49]))))]), (.lit (.int .u8 0))])),
 ([], (.ap .eq [(.ap (.usr 246) [(.lit (.string (.mk (.mk [99, 117, 116, 32, 48, 32, 49]))))]), (I 0)])),
 ([], (.ap .same [(.ap (.usr 247) [(.lit (.string (.mk (.mk [99, 117, 116, 32, 48, 32, 49]))))]), (.ap (.nil true) [])])),
 ([], (.ap .same [(.ap (.usr 248) [(.lit (.string (.mk (.mk [99, 117, 116, 32, 48, 32, 49]))))]), (.ap (.nil true) [])])),
 ([], (.ap .le [(.ap .slen [(.lit (.string (.mk (.mk [106, 111, 105, 110, 32, 48, 32, 49]))))]), (I 2500)])),
 ([], (.ap .eq [(.ap (.usr 249) [(.lit (.string (.mk (.mk [106, 111, 105, 110, 32, 48, 32, 49]))))]), (I 0)])),
 ([], (.ap .eq [(.ap (.usr 240) [(.lit (.string (.mk (.mk [106, 111, 105, 110, 32, 48, 32, 49]))))]), (I 7)])),
 ([], (.ap .eq [(.ap (.usr 241) [(.lit (.string (.mk (.mk [106, 111, 105, 110, 32, 48, 32, 49]))))]), (I 0)])),
 ([], (.ap .eq [(.ap (.usr 242) [(.lit (.string (.mk (.mk [106, 111, 105, 110, 32, 48, 32, 49]))))]), (I 0)])),
 ([], (.ap .eq [(.ap (.usr 243) [(.lit (.string (.mk (.mk [106, 111, 105, 110, 32, 48, 32, 49]))))]), (I 1)])),
 ([], (.ap .eq [(.ap (.usr 244) [(.lit (.string (.mk (.mk [106, 111, 105, 110, 32, 48, 32, 49]))))]), (.lit (.bool false))])),
 ([], (.ap .eq [(.ap (.usr 245) [(.lit (.string (.mk (.mk [106, 111, 105, 110, 32, 48, 32, 49]))))]), (.lit (.int .u8 0))])),
 ([], (.ap .eq [(.ap (.usr 246) [(.lit (.string (.mk (.mk [106, 111, 105, 110, 32, 48, 32, 49]))))]), (I 0)])),
 ([], (.ap .same [(.ap (.usr 247) [(.lit (.string (.mk (.mk [106, 111, 105, 110, 32, 48, 32, 49]))))]), (.ap (.nil true) [])])),
 ([], (.ap .same [(.ap (.usr 248) [(.lit (.string (.mk (.mk [106, 111, 105, 110, 32, 48, 32, 49]))))]), (.ap (.nil true) [])])),
 ([], (.ap .le [(.ap .slen [(.lit (.string (.mk (.mk [116, 105, 99, 107]))))]), (I 2500)])),
 ([], (.ap .eq [(.ap (.usr 249) [(.lit (.string (.mk (.mk [116, 105, 99, 107]))))]), (I 2)])),
 ([], (.ap .le [(.ap .slen [(.lit (.string (.mk (.mk [120]))))]), (I 2500)])),
 ([], (.ap .eq [(.ap (.usr 249) [(.lit (.string (.mk (.mk [120]))))]), (I 6)]))]
set_option maxRecDepth 100000 in
def r9_o : List (List X × List (List X)) := [([(.ap .le [(.ap .slen [(.lit (.string (.mk (.mk [99, 117, 116, 32, 48, 32, 49]))))]), (I 2500)]), (.ap .eq [(.ap (.usr 249) [(.lit (.string (.mk (.mk [99, 117, 116, 32, 48, 32, 49]))))]), (I 0)]), (.ap .eq [(.ap (.usr 240) [(.lit (.string (.mk (.mk [99, 117, 116, 32, 48, 32, 49]))))]), (I 7)]), (.ap .eq [(.ap (.usr 241) [(.lit (.string (.mk (.mk [99, 117, 116, 32, 48, 32, 49]))))]), (I 0)]), (.ap .eq [(.ap (.usr 242) [(.lit (.string (.mk (.mk [99, 117, 116, 32, 48, 32, 49]))))]), (I 0)]), (.ap .eq [(.ap (.usr 243) [(.lit (.string (.mk (.mk [99, 117, 116, 32, 48, 32, 49]))))]), (I 1)]), (.ap .eq [(.ap (.usr 244) [(.lit (.string (.mk (.mk [99, 117, 116, 32, 48, 32, 49]))))]), (.lit (.bool true))]), (.ap .eq [(.ap (.usr 245) [(.lit (.string (.mk (.mk [99, 117, 116, 32, 48, 32, 49]))))]), (.lit (.int .u8 0))]), (.ap .eq [(.ap (.usr 246) [(.lit (.string (.mk (.mk [99, 117, 116, 32, 48, 32, 49]))))]), (I 0)]), (.ap .same [(.ap (.usr 247) [(.lit (.string (.mk (.mk [99, 117, 116, 32, 48, 32, 49]))))]), (.ap (.nil true) [])]), (.ap .same [(.ap (.usr 248) [(.lit (.string (.mk (.mk [99, 117, 116, 32, 48, 32, 49]))))]), (.ap (.nil true) [])]), (.ap .le [(.ap .slen [(.lit (.string (.mk (.mk [106, 111, 105, 110, 32, 48, 32, 49]))))]), (I 2500)]), (.ap .eq [(.ap (.usr 249) [(.lit (.string (.mk (.mk [106, 111, 105, 110, 32, 48, 32, 49]))))]), (I 0)]), (.ap .eq [(.ap (.usr 240) [(.lit (.string (.mk (.mk [106, 111, 105, 110, 32, 48, 32, 49]))))]), (I 7)]), (.ap .eq [(.ap (.usr 241) [(.lit (.string (.mk (.mk [106, 111, 105, 110, 32, 48, 32, 49]))))]), (I 0)]), (.ap .eq [(.ap (.usr 242) [(.lit (.string (.mk (.mk [106, 111, 105, 110, 32, 48, 32, 49]))))]), (I 0)]), (.ap .eq [(.ap (.usr 243) [(.lit (.string (.mk (.mk [106, 111, 105, 110, 32, 48, 32, 49]))))]), (I 1)]), (.ap .eq [(.ap (.usr 244) [(.lit (.string (.mk (.mk [106, 111, 105, 110, 32, 48, 32, 49]))))]), (.lit (.bool false))]), (.ap .eq [(.ap (.usr 245) [(.lit (.string (.mk (.mk [106, 111, 105, 110, 32, 48, 32, 49]))))]), (.lit (.int .u8 0))]), (.ap .eq [(.ap (.usr 246) [(.lit (.string (.mk (.mk [106, 111, 105, 110, 32, 48, 32, 49]))))]), (I 0)]), (.ap .same [(.ap (.usr 247) [(.lit (.string (.mk (.mk [106, 111, 105, 110, 32, 48, 32, 49]))))]), (.ap (.nil true) [])]), (.ap .same [(.ap (.usr 248) [(.lit (.string (.mk (.mk [106, 111, 105, 110, 32, 48, 32, 49]))))]), (.ap (.nil true) [])]), (.ap .le [(.ap .slen [(.lit (.string (.mk (.mk [116, 105, 99, 107]))))]), (I 2500)]), (.ap .eq [(.ap (.usr 249) [(.lit (.string (.mk (.mk [116, 105, 99, 107]))))]), (I 2)]), (.ap .le [(.ap .slen [(.lit (.string (.mk (.mk [120]))))]), (I 2500)]), (.ap .eq [(.ap (.usr 249) [(.lit (.string (.mk (.mk [120]))))]), (I 6)])], [[(.lit (.bool true))]])]
set_option maxRecDepth 100000 in
theorem cbe : runS Tryd.prog (anq (tab T9)) 10 20 hs9 Tryd.f9 (aef Tryd.f9) SAwk = some (r9_v, r9_o) := by kernel_rfl
set_option maxHeartbeats 1000000 in
set_option maxRecDepth 100000 in
theorem spc9 : abd U Tryd.prog 9 SAwk := by
 refine abd.of (P := Tryd.prog) (U := U) (T := (tab T9)) (f := 9) (fn := Tryd.f9) (fuel := 10) (fk := 20) (hs := hs9) (S := SAwk) (v := r9_v) (outs := r9_o) mixed hT9 at9 cbe ?_ ?_
 ·unfold r9_v
  repeat' (first | exact ake _ | refine aku (fun v hh => ?_) ?_)
  all_goals
   simp only [aey, afm, ae1, afl, afj, ajd, ahp, adk, w_wr, b_lt, b_le, b_eq, ae0, aiu, b_or, ae6, ac7, adj, ajb, ahh, adf, adw, afd, w_mk, ad5, agr, ai9, ahz, ahq, afn, agq, ajc, ae3, afi, aho, w_l0, w_l1, abl, abo, aev, aaw, aax, adb, acw, ae5, afb, afc, ae4, aiy, aix, aff, ahx, w_eq, aw0, aw1, aw5, aw6, aw8, aw9, axa, axb, axd, axe, pCut, ca6, ca7, pX]
   first | exact b9i | exact b5v | exact b5w | exact pX_l | rfl
 ·intro o ho σ hU hh
  obtain ⟨v⟩ := σ
  cases hU
  simp only [r9_o, List.mem_cons, List.not_mem_nil, or_false] at ho
  subst ho
  exact ⟨_, List.mem_cons_self .., by simp only [aey, afm, ae1, afl, afj, ajd, ahp, adk, w_wr, b_lt, b_le, b_eq, ae0, aiu, b_or, ae6, ac7, adj, ajb, ahh, adf, adw, afd, w_mk, ad5, agr, ai9, ahz, ahq, afn, agq, ajc, ae3, afi, aho, w_l0, w_l1, abl, abo, aev, aaw, aax, adb, acw, ae5, afb, afc, ae4, aiy, aix, aff, ahx], rfl⟩
abbrev pX' (j : Nat) : X := .ap (.usr j) [.var 0]
noncomputable def hs3 : Hs := ⟨an2 [], hintA [(5, fun F H => [.ap .eq [pX' 240, pX' 240], .ap .eq [pX' 241, pX' 241], .ap .eq [pX' 242, pX' 242], .ap .eq [pX' 243, pX' 243], .ap .eq [pX' 244, pX' 244], .ap .eq [pX' 245, pX' 245], .ap .eq [pX' 246, pX' 246], .ap .eq [pX' 249, pX' 249], .ap .same [pX' 247, pX' 247], .ap .same [pX' 248, pX' 248]])]⟩
end Go.Proofs.YtamhchkknlbanaaDoor.Be

namespace Go.Proofs.YtamhchkknlbanaaDoor.Be
open Go.Sx Go.Proofs
noncomputable def SPb : Fsp := ⟨[(false, [.str]), (true, bls)], [.ap .le [.ap .slen [.var 0], I 2500], .ap .eq [.ap (.usr 249) [.var 0], I 0], .ap .eq [.ap (.usr 240) [.var 0], .var 1], .ap .eq [.ap (.usr 241) [.var 0], .var 2], .ap .eq [.ap (.usr 242) [.var 0], .var 3], .ap .eq [.ap (.usr 243) [.var 0], .var 4], .ap .eq [.ap (.usr 244) [.var 0], .var 5], .ap .eq [.ap (.usr 245) [.var 0], .var 6], .ap .eq [.ap (.usr 246) [.var 0], .var 7], .ap .eq [.ap .str [.ap (.usr 247) [.var 0]], .ap .str [.var 8]], .ap .le [.ap .len [.ap (.usr 248) [.var 0]], .ap .len [.var 9]], .ap .le [.ap .len [.var 9], .ap .len [.ap (.usr 248) [.var 0]]], .ap .le [.ap .len [.var 9], I 2500], .ap (.usr 297) [.ap (.usr 248) [.var 0], .var 9, I 2500]], [(false, [.bool])], [([], [[.lit (.bool true)]])], true⟩
abbrev ao1 : X := (.ap .len [(.ap (.usr 248) [(.var 0)])])
abbrev bnj : List X := [(.ap .le [(I 0), (.var 10)]), (.ap .le [(.var 10), ao1]), (.ap .le [ao1, (.ap .len [(.var 9)])]), (.ap .le [ao1, (.ap .len [(.var 9)])]), (.ap .le [mnX, (.ap (.usr 240) [(.var 0)])]), (.ap .le [(.ap (.usr 240) [(.var 0)]), mxX]), (.ap .le [mnX, (.ap (.usr 241) [(.var 0)])]), (.ap .le [(.ap (.usr 241) [(.var 0)]), mxX]), (.ap .le [mnX, (.ap (.usr 242) [(.var 0)])]), (.ap .le [(.ap (.usr 242) [(.var 0)]), mxX]), (.ap .le [mnX, (.ap (.usr 243) [(.var 0)])]), (.ap .le [(.ap (.usr 243) [(.var 0)]), mxX]), (.ap .le [(.lit (.int .u8 0)), (.ap (.usr 245) [(.var 0)])]), (.ap .le [(.ap (.usr 245) [(.var 0)]), (.lit (.int .u8 255))]), (.ap .le [mnX, (.ap (.usr 246) [(.var 0)])]), (.ap .le [(.ap (.usr 246) [(.var 0)]), mxX]), (.ap (.typ (.sl [(.int .u8)])) [(.ap (.usr 247) [(.var 0)])]), (.ap (.typ (.sl [.bool])) [(.ap (.usr 248) [(.var 0)])]), (.ap .le [mnX, (.ap (.usr 249) [(.var 0)])]), (.ap .le [(.ap (.usr 249) [(.var 0)]), mxX]), (.ap (.typ .str) [(.var 0)]), (.ap .le [mnX, (.var 1)]), (.ap .le [(.var 1), mxX]), (.ap .le [mnX, (.var 2)]), (.ap .le [(.var 2), mxX]), (.ap .le [mnX, (.var 3)]), (.ap .le [(.var 3), mxX]), (.ap .le [mnX, (.var 4)]), (.ap .le [(.var 4), mxX]), (.ap .le [(.lit (.int .u8 0)), (.var 6)]), (.ap .le [(.var 6), (.lit (.int .u8 255))]), (.ap .le [mnX, (.var 7)]), (.ap .le [(.var 7), mxX]), (.ap (.typ (.sl [(.int .u8)])) [(.var 8)]), (.ap (.typ (.sl [.bool])) [(.var 9)]), (.ap .le [(.ap .slen [(.var 0)]), (I 2500)]), (.ap .eq [(.ap (.usr 249) [(.var 0)]), (I 0)]), (.ap .eq [(.ap (.usr 240) [(.var 0)]), (.var 1)]), (.ap .eq [(.ap (.usr 241) [(.var 0)]), (.var 2)]), (.ap .eq [(.ap (.usr 242) [(.var 0)]), (.var 3)]), (.ap .eq [(.ap (.usr 243) [(.var 0)]), (.var 4)]), (.ap .eq [(.ap (.usr 244) [(.var 0)]), (.var 5)]), (.ap .eq [(.ap (.usr 245) [(.var 0)]), (.var 6)]), (.ap .eq [(.ap (.usr 246) [(.var 0)]), (.var 7)]), (.ap .eq [(.ap .str [(.ap (.usr 247) [(.var 0)])]), (.ap .str [(.var 8)])]), (.ap .le [ao1, (.ap .len [(.var 9)])]), (.ap .le [(.ap .len [(.var 9)]), ao1]), (.ap .le [(.ap .len [(.var 9)]), (I 2500)]), (.ap (.usr 297) [(.ap (.usr 248) [(.var 0)]), (.var 9), (I 2500)])]
set_option maxRecDepth 100000 in
def bw3 : List VC := []
set_option maxRecDepth 100000 in
def bw2 : List (List X × List (List X)) := [(((.ap .not [(.ap .eq [(.ap (.cell 0) [(.ap (.usr 248) [(.var 0)]), (.var 10)]), (.ap (.cell 0) [(.var 9), (.var 10)])])]) :: (.ap .lt [(.var 10), ao1]) :: bnj), [[(.lit (.bool false))]]),
 (((.ap .not [(.ap .lt [(.var 10), ao1])]) :: bnj), [[(.lit (.bool true))]])]
set_option maxRecDepth 100000 in
theorem b6d : runV Tryd.prog (cxOf Tryd.prog (anq (tab T16)) 10 20 ⟨asa bvb, noY, U.lc⟩ 3 16) noH Tryd.f16 (aef Tryd.f16) SPb = some (bw3, bw2) := by kernel_rfl
theorem b4k {a b : CD} {i : Int} (hA : Typ (.sl [.bool]) a) (hB : Typ (.sl [.bool]) b) (h : (a.rows.take (Int.toNat 2500)).map ae9 = (b.rows.take (Int.toNat 2500)).map ae9) (h0 : 0 ≤ i) (hi : i < (a.len : Int)) (hl : (a.len : Int) ≤ b.len) (hn : (b.len : Int) ≤ 2500) : eqC (a.cell i 0) (b.cell i 0) = true := by
 have tA := hA.cell h0 hi (j := 0) rfl
 have tB := hB.cell h0 (by omega) (j := 0) rfl
 obtain ⟨_, _, x, hx, _⟩ := tA
 obtain ⟨_, _, y, hy, _⟩ := tB
 rw [hA.sl.1] at hi hl
 rw [hB.sl.1] at hl hn
 have e1 : Int.toNat 2500 = 2500 := rfl
 rw [e1, List.take_of_length_le (by omega), List.take_of_length_le (by omega)] at h
 have h1 := congrArg (fun l => l[i.toNat]?) h
 simp only [List.getElem?_map] at h1
 rw [List.getElem?_eq_getElem (show i.toNat < a.rows.length by omega), List.getElem?_eq_getElem (show i.toNat < b.rows.length by omega)] at h1
 have h1 : ae9 a.rows[i.toNat] = ae9 b.rows[i.toNat] := by simpa using h1
 have ca : a.cell i 0 = (a.rows[i.toNat]).getD 0 default := by
  show (a.rows.getD i.toNat []).getD 0 default = _
  have : a.rows.getD i.toNat [] = a.rows[i.toNat] := by
   rw [List.getD_eq_getElem?_getD, List.getElem?_eq_getElem (show i.toNat < a.rows.length by omega)]
   rfl
  rw [this]
 have cb : b.cell i 0 = (b.rows[i.toNat]).getD 0 default := by
  show (b.rows.getD i.toNat []).getD 0 default = _
  have : b.rows.getD i.toNat [] = b.rows[i.toNat] := by
   rw [List.getD_eq_getElem?_getD, List.getElem?_eq_getElem (show i.toNat < b.rows.length by omega)]
   rfl
  rw [this]
 have h2 : (a.cell i 0).bv = (b.cell i 0).bv := by
  rw [ca, cb]
  exact h1
 rw [hx, hy] at h2 ⊢
 have h2 : x = y := h2
 rw [h2]
 cases y <;> rfl
set_option maxRecDepth 100000 in
theorem b92 : abd U Tryd.prog 16 SPb := by
 refine abd.ofV (P := Tryd.prog) (U := U) (T := (tab T16)) (l := bvb) (y := noY) (dp := 3) (f := 16) (fn := Tryd.f16) (fuel := 10) (fk := 20) (hs := noH) (S := SPb) (v := bw3) (outs := bw2) mixed hT16 b3l at16 (ah1 (by kernel_rfl)) b6d ?_ ?_
 ·unfold bw3
  exact ake _
 ·intro o ho σ hU hh
  obtain ⟨v⟩ := σ
  cases hU
  simp only [bw2, List.mem_cons, List.not_mem_nil, or_false] at ho
  rcases ho with rfl | rfl
  all_goals
   refine ⟨_, List.mem_cons_self .., by simp only [aey, afm, ae1, afl, afj, ajd, ahp, adk, w_wr, b_lt, b_le, b_eq, ae0, aiu, b_or, ae6, ac7, adj, ajb, ahh, adf, adw, afd, w_mk, ad5, agr, ai9, ahz, ahq, afn, agq, ajc, ae3, afi, aho, w_l0, w_l1, abl, abo, aev, aaw, aax, adb, acw, ae5, afb, afc, ae4, aiy, aix, aff, ahx], ?_⟩
   simp only [aey, afm, ae1, afl, afj, ajd, ahp, adk, w_wr, b_lt, b_le, b_eq, ae0, aiu, b_or, ae6, ac7, adj, ajb, ahh, adf, adw, afd, w_mk, ad5, agr, ai9, ahz, ahq, afn, agq, ajc, ae3, afi, aho, w_l0, w_l1, abl, abo, aev, aaw, aax, adb, acw, ae5, afb, afc, ae4, aiy, aix, aff, ahx, w_eq, bmf, bnj, ao1] at hh
  ·have hA : Typ (.sl [.bool]) (@Us.u U 248 [v 0]) := by simp only [hh]
   have hB : Typ (.sl [.bool]) (v 9) := by simp only [hh]
   have h0 : 0 ≤ (v 10).iv := by simp only [hh]
   have h1 : ((@Us.u U 248 [v 0]).rows.take (Int.toNat 2500)).map ae9 = ((v 9).rows.take (Int.toNat 2500)).map ae9 := by
    repeat (first | exact hh.1 | exact of_decide_eq_true hh.1 | replace hh := hh.2)
   have h3 : ((@Us.u U 248 [v 0]).len : Int) ≤ (v 9).len := by simp only [hh]
   have h4 : ((v 9).len : Int) ≤ 2500 := by simp only [hh]
   exact absurd (b4k hA hB h1 h0 hh.2.1 h3 h4) hh.1
  ·rfl
end Go.Proofs.YtamhchkknlbanaaDoor.Be

namespace Go.Proofs.YtamhchkknlbanaaDoor.Be
open Go.Sx Go.Proofs
abbrev Row5 := List UInt8 × Int × Bool × List UInt8 × Int
def fr (i : Nat) : Row5 := frm.getD i ([], 0, false, [], 0)
theorem bm0 : frmR.length = 15 := rfl
theorem bu3 {i : Nat} (hi : i < 15) : frmR.getD i [] = bou (fr i) i := by
 have : i = 0 ∨ i = 1 ∨ i = 2 ∨ i = 3 ∨ i = 4 ∨ i = 5 ∨ i = 6 ∨ i = 7 ∨ i = 8 ∨ i = 9 ∨ i = 10 ∨ i = 11 ∨ i = 12 ∨ i = 13 ∨ i = 14 := by omega
 rcases this with rfl | rfl | rfl | rfl | rfl | rfl | rfl | rfl | rfl | rfl | rfl | rfl | rfl | rfl | rfl <;> rfl
theorem ak8 {i : Int} (h0 : 0 ≤ i) (hi : i < (frmR.length : Int)) (j : Nat) : (CD.sl false frmR).cell i j = (bou (fr i.toNat) i.toNat).getD j default := by
 rw [bm0] at hi
 show (frmR.getD i.toNat []).getD j default = _
 rw [bu3 (by omega)]
theorem bym {d : CD} (h : Typ .bool d) : d = aak d.bv := by
 obtain ⟨m, u, b, rfl, _⟩ := h
 rfl
theorem amv {a b : Int} {k : IntKind} : (eqC (vInt k a) (vInt k b) = true) = (a = b) := by
 show (decide (a = b) = true) = _
 simp
theorem buk {a b : Bool} : (eqC (aak a) (aak b) = true) = (a = b) := by
 rw [eq_iff_iff]
 constructor
 ·intro h
  cases a <;> cases b <;> first | rfl | cases h
 ·rintro rfl
  cases a <;> rfl
theorem b5c (b : CD) : mIn b [] = false := rfl
theorem bax (b x : CD) (s : List (List CD)) : mIn b (s ++ [[x]]) = (mIn b s || eqC b x) := by
 unfold mIn
 rw [List.any_append]
 simp
theorem nf_0 (k : Int) (is : Bool) : aib [] k is = true := by
 unfold aib
 rw [List.all_eq_true]
 intro r _
 rw [b5c]
 rfl
theorem caq {r : Row5 × Nat} (h : r ∈ frm.zipIdx) : r.2 < 15 ∧ r.1 = fr r.2 := by
 obtain ⟨a, i⟩ := r
 have h := List.mem_zipIdx_iff_getElem?.1 h
 have hl : i < 15 := by
  rcases Nat.lt_or_ge i 15 with h1 | h1
  ·exact h1
  ·rw [List.getElem?_eq_none (show frm.length ≤ i from h1)] at h
   cases h
 refine ⟨hl, ?_⟩
 unfold fr
 rw [List.getD_eq_getElem?_getD]
 rw [show frm[i]? = some a from h]
 rfl
theorem b3k {i : Nat} (hi : i < 15) : (fr i, i) ∈ frm.zipIdx := by
 rw [List.mem_zipIdx_iff_getElem?]
 unfold fr
 rw [List.getD_eq_getElem?_getD, List.getElem?_eq_getElem (show i < frm.length from hi)]
 rfl
theorem b5g {s : List (List CD)} {k : Int} {is : Bool} {i : Nat} (hno : fits k is (fr i) = false) (h : aib s k is = true) : aib (s ++ [[vInt .i64 (i : Nat)]]) k is = true := by
 unfold aib at h ⊢
 rw [List.all_eq_true] at h ⊢
 intro r hr
 have h1 := h r hr
 obtain ⟨h2, h3⟩ := caq hr
 rw [bax]
 by_cases he : eqC (vInt .i64 (r.2 : Nat)) (vInt .i64 (i : Nat)) = true
 ·rw [amv] at he
  have he : r.2 = i := by omega
  rw [h3, he, hno]
  simp
 ·rw [Bool.not_eq_true] at he
  rw [he, Bool.or_false]
  exact h1
theorem filter_lt {α : Type} {p q : α → Bool} : ∀ {l : List α}, (∀ x ∈ l, q x = true → p x = true) → (∃ x ∈ l, p x = true ∧ q x = false) → (l.filter q).length < (l.filter p).length
 | [], _, ⟨x, hx, _⟩ => by cases hx
 | a :: l, h, ⟨x, hx, h1, h2⟩ => by
  have hle : ∀ {l : List α}, (∀ x ∈ l, q x = true → p x = true) → (l.filter q).length ≤ (l.filter p).length := by
   intro l
   induction l with
   | nil => intro _; exact Nat.le_refl _
   | cons b l ih =>
    intro hh
    have := ih fun x hx => hh x (List.mem_cons_of_mem _ hx)
    rw [List.filter_cons, List.filter_cons]
    by_cases hb : q b = true
    ·rw [if_pos hb, if_pos (hh b (List.mem_cons_self ..) hb)]
     simpa using this
    ·rw [if_neg hb]
     split
     ·simp only [List.length_cons]; omega
     ·exact this
  rw [List.filter_cons, List.filter_cons]
  rcases List.mem_cons.1 hx with rfl | hx
  ·rw [if_pos h1, if_neg (by rw [h2]; decide)]
   have := hle fun y hy => h y (List.mem_cons_of_mem _ hy)
   simp only [List.length_cons]; omega
  ·have := filter_lt (fun y hy => h y (List.mem_cons_of_mem _ hy)) ⟨x, hx, h1, h2⟩
   by_cases hb : q a = true
   ·rw [if_pos hb, if_pos (h a (List.mem_cons_self ..) hb)]
    simpa using this
   ·rw [if_neg hb]
    split
    ·simp only [List.length_cons]; omega
    ·exact this
theorem b2r {s : List (List CD)} {i : Nat} (hi : i < 15) (hn : ¬ mIn (vInt .i64 (i : Nat)) s = true) : arx (s ++ [[vInt .i64 (i : Nat)]]) < arx s := by
 unfold arx
 refine filter_lt (fun x hx h => ?_) ⟨(fr i, i), b3k hi, ?_, ?_⟩
 ·rw [bax] at h
  revert h
  cases mIn (vInt .i64 (x.2 : Nat)) s
  ·intro _; rfl
  ·intro h; cases h
 ·rw [Bool.not_eq_true] at hn
  show (!mIn (vInt .i64 (i : Nat)) s) = true
  rw [hn]
  rfl
 ·show (!mIn (vInt .i64 (i : Nat)) (s ++ [[vInt .i64 (i : Nat)]])) = false
  rw [bax, (amv (k := .i64)).mpr rfl, Bool.or_true]
  rfl
theorem b2u {s : List (List CD)} {k : Int} {is : Bool} (h : aib s k is = true) (hall : (frmR.all fun r => mIn (aqa r) s) = true) : ahi k is = none := by
 unfold ahi
 rw [List.find?_eq_none]
 intro r hr hf
 obtain ⟨i, hi, rfl⟩ := List.getElem_of_mem hr
 have hi : i < 15 := hi
 have e : frm[i] = fr i := by
  unfold fr
  rw [List.getD_eq_getElem?_getD, List.getElem?_eq_getElem (show i < frm.length from hi)]
  rfl
 have hf : fits k is (fr i) = true := by rw [← e]; exact hf
 unfold aib at h
 have h1 := List.all_eq_true.1 h _ (b3k hi)
 have h2 := List.all_eq_true.1 hall (frmR.getD i []) (by rw [List.getD_eq_getElem?_getD, List.getElem?_eq_getElem (show i < frmR.length from hi)]; exact List.getElem_mem _)
 rw [bu3 hi] at h2
 have h2 : mIn (vInt .i64 (i : Nat)) s = true := h2
 simp only [hf, h2] at h1
 cases h1
theorem b7h {k : Int} {is : Bool} {i : Nat} (hi : i < 15) (h : fits k is (fr i) = true) : ahi k is = some (fr i) := by
 unfold fits at h
 rw [Bool.and_eq_true, decide_eq_true_eq] at h
 obtain ⟨rfl, h2⟩ := h
 have : i = 0 ∨ i = 1 ∨ i = 2 ∨ i = 3 ∨ i = 4 ∨ i = 5 ∨ i = 6 ∨ i = 7 ∨ i = 8 ∨ i = 9 ∨ i = 10 ∨ i = 11 ∨ i = 12 ∨ i = 13 ∨ i = 14 := by omega
 rcases this with rfl | rfl | rfl | rfl | rfl | rfl | rfl | rfl | rfl | rfl | rfl | rfl | rfl | rfl | rfl <;> cases is <;> first | rfl | cases h2
end Go.Proofs.YtamhchkknlbanaaDoor.Be
