/-
  Contracts of a seat's functions: bytes as digits, by the program; words joined. Conditions: none.
-/
import Derived.Test.YtamhchkknlbanaaDoorBtV
import Derived.Test.YtamhchkknlbanaaDoorBeI
import Derived.Shelf.Strings.Builder1
import Derived.Shelf.Strings.OnBuilder
set_option linter.unusedSectionVars false
set_option linter.unusedVariables false
set_option linter.unusedSimpArgs false
set_option linter.all false
namespace Go.Proofs.YtamhchkknlbanaaDoor.Be
open Go.Sx Go.Proofs
noncomputable def bwr : OraM := b0m 18 .str true [sI, .bool, .str, .int .u8] (.ap (.usr 263) []) 15
noncomputable def tb0 : Tb := ⟨asa [], noY, U.lc⟩
theorem htb0 : TbOK U Tryd.prog tb0 := TbOK.of (y := noY) ap7.nil
theorem bpx : air U Tryd.prog bwr := bu2
abbrev preD : List X := [.ap (.typ sI) [.var 0], .ap (.typ sI) [.var 1], .ap (.typ sI) [.var 2], .ap (.typ sI) [.var 3], .ap (.typ .bool) [.var 4], .ap (.typ (.int .u8)) [.var 5], .ap (.typ sI) [.var 6]]
noncomputable def bn7 : Fsp := ⟨[(true, bls)], preD, [(false, [.str]), (true, [sI, .bool, .str, .int .u8]), (false, [.bool])], [([], [[.ap (.usr 270) [.var 0, .var 4]], [.ap (.usr 271) [.var 0, .var 4], .ap (.usr 272) [.var 0, .var 4], .ap (.usr 273) [.var 0, .var 4], .ap (.usr 274) [.var 0, .var 4]], [.ap (.usr 275) [.var 0, .var 4]]])], true⟩
noncomputable def lp29 : Lp := ⟨[(.slot 8, .iter)], [0, 1, 3, 7], [], fun F H k => [.ap (.usr 264) [.var k, .var 0, .var 4]], fun F H k => .ap (.usr 265) [.var k]⟩
abbrev ain : X := (.ap (.usr 263) [])
abbrev aqp : X := (.ap .eq [(.ap (.cell 1) [ain, (.var 10)]), (.var 0)])
abbrev awe : X := (.ap .snoc [(.var 9), (.ap (.cell 5) [ain, (.var 10)])])
abbrev a6y : X := (.ap .eq [(.ap (.cell 2) [ain, (.var 10)]), (.var 4)])
abbrev bky : List X := [(.ap .mok [ain, (I 15)]), (.ap .le [mnX, (.var 0)]), (.ap .le [(.var 0), mxX]), (.ap .le [mnX, (.var 1)]), (.ap .le [(.var 1), mxX]), (.ap .le [mnX, (.var 2)]), (.ap .le [(.var 2), mxX]), (.ap .le [mnX, (.var 3)]), (.ap .le [(.var 3), mxX]), (.ap .le [(.lit (.int .u8 0)), (.var 5)]), (.ap .le [(.var 5), (.lit (.int .u8 255))]), (.ap .le [mnX, (.var 6)]), (.ap .le [(.var 6), mxX]), (.ap (.typ (.sl [(.int .u8)])) [(.var 7)]), (.ap (.typ (.sl [.bool])) [(.var 8)]), (.ap (.typ sI) [(.var 0)]), (.ap (.typ sI) [(.var 1)]), (.ap (.typ sI) [(.var 2)]), (.ap (.typ sI) [(.var 3)]), (.ap (.typ .bool) [(.var 4)]), (.ap (.typ (.int .u8)) [(.var 5)]), (.ap (.typ sI) [(.var 6)])]
abbrev aqo : List X := (.ap .le [(I 0), (.var 10)]) :: (.ap .lt [(.var 10), (.ap .rlen [ain])]) :: (.ap .not [(.ap .min [(.ap (.cell 5) [ain, (.var 10)]), (.var 9)])]) :: (.ap (.usr 264) [(.var 9), (.var 0), (.var 4)]) :: bky
set_option maxRecDepth 100000 in
def b6n : List VC := [(bky, (.ap (.usr 264) [(.ap (.nil false) []), (.var 0), (.var 4)])),
 (((.ap .not [a6y]) :: (.ap .eq [(.var 0), (I 7)]) :: aqp :: aqo), (.ap .le [(I 0), (.ap (.usr 265) [awe])])),
 (((.ap .not [a6y]) :: (.ap .eq [(.var 0), (I 7)]) :: aqp :: aqo), (.ap .lt [(.ap (.usr 265) [awe]), (.ap (.usr 265) [(.var 9)])])),
 (((.ap .not [a6y]) :: (.ap .eq [(.var 0), (I 7)]) :: aqp :: aqo), (.ap (.usr 264) [awe, (.var 0), (.var 4)])),
 (((.ap .not [aqp]) :: aqo), (.ap .le [(I 0), (.ap (.usr 265) [awe])])),
 (((.ap .not [aqp]) :: aqo), (.ap .lt [(.ap (.usr 265) [awe]), (.ap (.usr 265) [(.var 9)])])),
 (((.ap .not [aqp]) :: aqo), (.ap (.usr 264) [awe, (.var 0), (.var 4)]))]
set_option maxRecDepth 100000 in
def b6m : List (List X × List (List X)) := [(((.ap .mall [ain, (.var 9)]) :: (.ap (.usr 264) [(.var 9), (.var 0), (.var 4)]) :: bky), [[(.lit (.string (.mk (.mk []))))], [(I 0), (.lit (.bool false)), (.lit (.string (.mk (.mk [])))), (.lit (.int .u8 0))], [(.lit (.bool false))]]),
 (((.ap .not [(.ap .eq [(.var 0), (I 7)])]) :: aqp :: aqo), [[(.ap (.cell 0) [ain, (.var 10)])], [(.ap (.cell 1) [ain, (.var 10)]), (.ap (.cell 2) [ain, (.var 10)]), (.ap (.cell 3) [ain, (.var 10)]), (.ap (.cell 4) [ain, (.var 10)])], [(.lit (.bool true))]]),
 ((a6y :: (.ap .eq [(.var 0), (I 7)]) :: aqp :: aqo), [[(.ap (.cell 0) [ain, (.var 10)])], [(.ap (.cell 1) [ain, (.var 10)]), (.ap (.cell 2) [ain, (.var 10)]), (.ap (.cell 3) [ain, (.var 10)]), (.ap (.cell 4) [ain, (.var 10)])], [(.lit (.bool true))]])]
set_option maxRecDepth 100000 in
theorem b9u : runV Tryd.prog ⟨bwr, orvK Tryd.prog bwr 10 20 tb0 0, Tb.ent tb0, 10, 20, none, Go.Sx.keyOf 29⟩ ⟨an2 [(2, lp29)], hintA []⟩ Tryd.f29 (aef Tryd.f29) bn7 = some (b6n, b6m) := by kernel_rfl
theorem b8k {a b : CD} {i : Int} (h1 : ¬ eqC ((CD.sl false frmR).cell i 2) b = true) (h7 : eqC a (vInt .i64 7) = true) (h0 : 0 ≤ i) (hi : i < (frmR.length : Int)) (hA : Typ sI a) (hB : Typ .bool b) : fits a.iv b.bv (fr i.toNat) = false := by
 rw [ak8 h0 hi, bym hB] at h1
 have h1 : ¬ eqC (aak (fr i.toNat).2.2.1) (aak b.bv) = true := h1
 rw [buk] at h1
 rw [as3 hA, amv] at h7
 unfold fits
 rw [h7, show ((fr i.toNat).2.2.1 == b.bv) = false from by simpa using h1]
 simp
theorem b8j {a b : CD} {i : Int} (h1 : ¬ eqC ((CD.sl false frmR).cell i 1) a = true) (h0 : 0 ≤ i) (hi : i < (frmR.length : Int)) (hA : Typ sI a) : fits a.iv b.bv (fr i.toNat) = false := by
 rw [ak8 h0 hi, as3 hA] at h1
 have h1 : ¬ eqC (vInt .i64 (fr i.toNat).2.1) (vInt .i64 a.iv) = true := h1
 rw [amv] at h1
 unfold fits
 rw [decide_eq_false h1]
 rfl
theorem b8l {a b : CD} {i : Int} (h1 : eqC ((CD.sl false frmR).cell i 1) a = true) (h2 : ¬ eqC a (vInt .i64 7) = true ∨ eqC ((CD.sl false frmR).cell i 2) b = true) (h0 : 0 ≤ i) (hi : i < (frmR.length : Int)) (hA : Typ sI a) (hB : Typ .bool b) : fits a.iv b.bv (fr i.toNat) = true := by
 rw [ak8 h0 hi, as3 hA] at h1
 have h1 : eqC (vInt .i64 (fr i.toNat).2.1) (vInt .i64 a.iv) = true := h1
 rw [amv] at h1
 unfold fits
 rw [decide_eq_true h1, Bool.true_and]
 rcases h2 with h2 | h2
 ·rw [as3 hA, amv] at h2
  rw [decide_eq_false h2]
  rfl
 ·rw [ak8 h0 hi, bym hB] at h2
  have h2 : eqC (aak (fr i.toNat).2.2.1) (aak b.bv) = true := h2
  rw [buk] at h2
  rw [h2]
  simp
theorem nf_s {s : CD} {i k : Int} {is : Bool} (hf : fits k is (fr i.toNat) = false) (h0 : 0 ≤ i) (hi : i < (frmR.length : Int)) (h : aib s.rows k is = true) : aib (s.rows ++ [[(CD.sl false frmR).cell i 5]]) k is = true := by
 rw [ak8 h0 hi]
 exact b5g hf h
theorem cah {s : CD} {i : Int} (h0 : 0 ≤ i) (hi : i < (frmR.length : Int)) (hn : ¬ mIn ((CD.sl false frmR).cell i 5) s.rows = true) : (arx (s.rows ++ [[(CD.sl false frmR).cell i 5]]) : Int) < arx s.rows := by
 rw [ak8 h0 hi] at hn ⊢
 have := b2r (s := s.rows) (i := i.toNat) (by rw [bm0] at hi; omega) hn
 have e : (bou (fr i.toNat) i.toNat).getD 5 default = vInt .i64 (i.toNat : Nat) := rfl
 rw [e]
 omega
theorem ca5 {k : Int} {is : Bool} (h : ahi k is = none) : [[tx (frow k is).1], [vInt .i64 (frow k is).2.1, aak (frow k is).2.2.1, tx (frow k is).2.2.2.1, vInt .u8 (frow k is).2.2.2.2], [aak (ahi k is).isSome]] = [[CD.v (.string ⟨⟨[]⟩⟩)], [vInt .i64 0, aak false, CD.v (.string ⟨⟨[]⟩⟩), vInt .u8 0], [aak false]] := by
 unfold frow
 rw [h]
 rfl
theorem b9h {k i : Int} {is : Bool} (h0 : 0 ≤ i) (hi : i < (frmR.length : Int)) (hf : fits k is (fr i.toNat) = true) : [[tx (frow k is).1], [vInt .i64 (frow k is).2.1, aak (frow k is).2.2.1, tx (frow k is).2.2.2.1, vInt .u8 (frow k is).2.2.2.2], [aak (ahi k is).isSome]] = [[(CD.sl false frmR).cell i 0], [(CD.sl false frmR).cell i 1, (CD.sl false frmR).cell i 2, (CD.sl false frmR).cell i 3, (CD.sl false frmR).cell i 4], [aak true]] := by
 unfold frow
 rw [b7h (by rw [bm0] at hi; omega) hf, ak8 h0 hi, ak8 h0 hi, ak8 h0 hi, ak8 h0 hi, ak8 h0 hi]
 rfl
set_option maxHeartbeats 1000000 in
set_option maxRecDepth 100000 in
theorem cbm : abd U Tryd.prog 29 bn7 := by
 refine ahg (P := Tryd.prog) (U := U) (f := 29) (fn := Tryd.f29) (c := aef Tryd.f29) (S := bn7) (v := b6n) (outs := b6m) (hs := ⟨an2 [(2, lp29)], hintA []⟩) (cx := ⟨bwr, orvK Tryd.prog bwr 10 20 tb0 0, Tb.ent tb0, 10, 20, none, Go.Sx.keyOf 29⟩) mixed ⟨bpx, arf (fuel := 10) (fk := 20) mixed bpx htb0 0, htb0.ent⟩ rfl (ah1 (by kernel_rfl)) at29.at' at29.body at29.call at29.flow b9u ?_ ?_
 ·unfold b6n
  repeat' (first | exact ake _ | refine aku (fun v hh => ?_) ?_)
  all_goals
   simp only [aey, afm, ae1, afl, afj, ajd, ahp, adk, w_wr, b_lt, b_le, b_eq, ae0, aiu, b_or, ae6, ac7, adj, ajb, ahh, adf, adw, afd, w_mk, ad5, agr, ai9, ahz, ahq, afn, agq, ajc, ae3, afi, aho, w_l0, w_l1, abl, abo, aev, aaw, aax, adb, acw, ae5, afb, afc, ae4, aiy, aix, aff, ahx, w_eq, bsh, bl9, bsi, bsj, bsk, a2n, bsl, beh, bek, bny, bsm, bsn, bso, bsp, bsq, bsr, bst, a2o, bsu, bsv, bsw, bsx, aw0, aw1, aw5, aw6, aw8, aw9, axa, axb, axd, axe, bma, ben, axf, beo, bep, bmb, bmc, a2q, ber, bes, bmd, bme, bnz, bsy, bsz, bet, beu, bs0, bew, bey, be0, be2, be6, bfc, bfe, a4c, a4e, a4g, bs1, bs2, bs3, bs4, bs5, bs6, bs7, bs8, bs9, bta, bmf, bfi, btb, bfj, btc, btd, mnX, mxX, bky, ain, aqp, awe, a6y, aqo, ags] at hh ⊢
   try exact nf_0 _ _
  all_goals
   have hA : Typ sI (v 0) := by simp only [hh]
   have hB : Typ .bool (v 4) := by simp only [hh]
   have h0 : 0 ≤ (v 10).iv := by simp only [hh]
   have hi : (v 10).iv < (frmR.length : Int) := by simp only [hh]
   first
   | exact Int.natCast_nonneg _
   | exact cah h0 hi hh.2.2.2.2.2.1
   | exact cah h0 hi hh.2.2.2.1
   | exact nf_s (b8k hh.1 hh.2.1 h0 hi hA hB) h0 hi hh.2.2.2.2.2.2.1
   | exact nf_s (b8j hh.1 h0 hi hA) h0 hi hh.2.2.2.2.1
 ·intro o ho σ hU hh
  obtain ⟨v⟩ := σ
  cases hU
  simp only [b6m, List.mem_cons, List.not_mem_nil, or_false] at ho
  rcases ho with rfl | rfl | rfl
  all_goals
   refine ⟨_, List.mem_cons_self .., by simp only [aey, afm, ae1, afl, afj, ajd, ahp, adk, w_wr, b_lt, b_le, b_eq, ae0, aiu, b_or, ae6, ac7, adj, ajb, ahh, adf, adw, afd, w_mk, ad5, agr, ai9, ahz, ahq, afn, agq, ajc, ae3, afi, aho, w_l0, w_l1, abl, abo, aev, aaw, aax, adb, acw, ae5, afb, afc, ae4, aiy, aix, aff, ahx], ?_⟩
   simp only [aey, afm, ae1, afl, afj, ajd, ahp, adk, w_wr, b_lt, b_le, b_eq, ae0, aiu, b_or, ae6, ac7, adj, ajb, ahh, adf, adw, afd, w_mk, ad5, agr, ai9, ahz, ahq, afn, agq, ajc, ae3, afi, aho, w_l0, w_l1, abl, abo, aev, aaw, aax, adb, acw, ae5, afb, afc, ae4, aiy, aix, aff, ahx, w_eq, bsh, bl9, bsi, bsj, bsk, a2n, bsl, beh, bek, bny, bsm, bsn, bso, bsp, bsq, bsr, bst, a2o, bsu, bsv, bsw, bsx, aw0, aw1, aw5, aw6, aw8, aw9, axa, axb, axd, axe, bma, ben, axf, beo, bep, bmb, bmc, a2q, ber, bes, bmd, bme, bnz, bsy, bsz, bet, beu, bs0, bew, bey, be0, be2, be6, bfc, bfe, a4c, a4e, a4g, bs1, bs2, bs3, bs4, bs5, bs6, bs7, bs8, bs9, bta, bmf, bfi, btb, bfj, btc, btd, mnX, mxX, bky, ain, aqp, awe, a6y, aqo, ags] at hh
   simp only [List.map_cons, List.map_nil, aey, afm, ae1, afl, afj, ajd, ahp, adk, w_wr, b_lt, b_le, b_eq, ae0, aiu, b_or, ae6, ac7, adj, ajb, ahh, adf, adw, afd, w_mk, ad5, agr, ai9, ahz, ahq, afn, agq, ajc, ae3, afi, aho, w_l0, w_l1, abl, abo, aev, aaw, aax, adb, acw, ae5, afb, afc, ae4, aiy, aix, aff, ahx, w_lt, w_le, w_eq, bn0, byq, w_or, bmk, a3c, bn1, bsh, bl9, bsi, bsj, bsk, a2n, bsl, beh, bek, bny, bsm, bsn, bso, bsp, bsq, bsr, bst, a2o, bsu, bsv, bsw, bsx, aw0, aw1, aw5, aw6, aw8, aw9, axa, axb, axd, axe, bma, ben, axf, beo, bep, bmb, bmc, a2q, ber, bes, bmd, bme, bnz, bsy, bsz, bet, beu, bs0, bew, bey, be0, be2, be6, bfc, bfe, a4c, a4e, a4g, bs1, bs2, bs3, bs4, bs5, bs6, bs7, bs8, bs9, bta, bmf, bfi, btb, bfj, btc, btd, mnX, mxX, ags, anz]
   have hA : Typ sI (v 0) := by simp only [hh]
   have hB : Typ .bool (v 4) := by simp only [hh]
  ·exact ca5 (b2u hh.2.1 hh.1)
  ·exact b9h hh.2.2.1 hh.2.2.2.1 (b8l hh.2.1 (.inl hh.1) hh.2.2.1 hh.2.2.2.1 hA hB)
  ·exact b9h hh.2.2.2.1 hh.2.2.2.2.1 (b8l hh.2.2.1 (.inr hh.1) hh.2.2.2.1 hh.2.2.2.2.1 hA hB)
end Go.Proofs.YtamhchkknlbanaaDoor.Be

namespace Go.Proofs.YtamhchkknlbanaaDoor.Be
open Go.Sx Go.Proofs
abbrev sYs : Srt := .sl [.int .u8]
abbrev sOs : Srt := .sl [.bool]
noncomputable def bn6 : Fsp := ⟨[(false, [sOs])], [.ap .le [.ap .len [.var 0], I 2500]], [(false, [.str])], [([], [[.ap (.usr 300) [.var 0]]])], true⟩
noncomputable def lp32 : Lp := ⟨[(.slot 3, .own false [.int .u8]), (.slot 11, .int .i64)], [0, 2, 9, 10], [], fun F H k => [.ap .le [zI, .var (k+2)], .ap .le [.var (k+2), .ap .len [.var 0]], .ap .le [.var k, .ap .len [.var 0]], .ap .le [.ap .len [.var 0], .var k], .ap .same [.ap (.mk false) [.var (k+1)], .ap (.usr 302) [.var 0, .var (k+2)]]], fun F H k => .ap (.sub .i64) [.ap .len [.var 0], .var (k+2)]⟩
abbrev ao4 : X := (.ap .len [(.var 0)])
abbrev bkz : List X := [(.ap .le [(I 0), (.var 3)]), (.ap .le [(.var 3), ao4]), (.ap .le [(.var 1), ao4]), (.ap .le [ao4, (.var 1)]), (.ap .same [(.ap (.mk false) [(.var 2)]), (.ap (.usr 302) [(.var 0), (.var 3)])]), (.ap (.typ (.sl [.bool])) [(.var 0)]), (.ap .le [ao4, (I 2500)])]
set_option maxRecDepth 100000 in
def b6p : List VC := [([(.ap (.typ (.sl [.bool])) [(.var 0)]), (.ap .le [ao4, (I 2500)])], (.ap .same [(.ap (.mk false) [(.ap .rep [ao4, (.lit (.int .u8 0))])]), (.ap (.usr 302) [(.var 0), (I 0)])])),
 (((.ap (.cell 0) [(.var 0), (.var 3)]) :: (.ap .lt [(.var 3), ao4]) :: bkz), (.ap .same [(.ap (.mk false) [(.ap (.upd 0) [(.ap (.upd 0) [(.var 2), (.var 3), (.lit (.int .u8 48))]), (.var 3), (.lit (.int .u8 49))])]), (.ap (.usr 302) [(.var 0), (.ap (.add .i64) [(.var 3), (I 1)])])])),
 (((.ap .not [(.ap (.cell 0) [(.var 0), (.var 3)])]) :: (.ap .lt [(.var 3), ao4]) :: bkz), (.ap .same [(.ap (.mk false) [(.ap (.upd 0) [(.var 2), (.var 3), (.lit (.int .u8 48))])]), (.ap (.usr 302) [(.var 0), (.ap (.add .i64) [(.var 3), (I 1)])])]))]
set_option maxRecDepth 100000 in
def b6o : List (List X × List (List X)) := [(((.ap .not [(.ap .lt [(.var 3), ao4])]) :: bkz), [[(.ap .str [(.var 2)])]])]
set_option maxRecDepth 100000 in
theorem b9v : runS Tryd.prog (anq T0) 10 20 ⟨an2 [(3, lp32)], hintA []⟩ Tryd.f32 (aef Tryd.f32) bn6 = some (b6p, b6o) := by kernel_rfl
def mkP (r : List (List CD)) (i : Nat) : List (List CD) := (markT (r.take i) ++ List.replicate (r.length - i) 0).map aco
theorem bpk (r : List (List CD)) : (markT r).length = r.length := by
 unfold markT
 rw [List.length_map]
theorem b0o {α : Type} {f : α → α} {x : α} {r : List α} : ∀ (p : List α), (p ++ x :: r).modify p.length f = p ++ f x :: r
 | [] => rfl
 | a :: p => by
  show a :: (p ++ x :: r).modify p.length f = _
  rw [b0o p]
  rfl
theorem mk_0 (r : List (List CD)) : List.replicate r.length [vInt .u8 0] = mkP r 0 := by
 unfold mkP
 rw [List.take_zero, Nat.sub_zero, show markT [] = [] from rfl, List.nil_append, List.map_replicate]
 rfl
theorem b3q {r : List (List CD)} {i : Nat} (h : i < r.length) : mkP r i = (markT (r.take i)).map aco ++ aco 0 :: (List.replicate (r.length - (i + 1)) 0).map aco ∧ ((markT (r.take i)).map aco).length = i := by
 constructor
 ·unfold mkP
  rw [show r.length - i = (r.length - (i + 1)) + 1 by omega, List.replicate_succ, List.map_append, List.map_cons]
 ·rw [List.length_map, bpk, List.length_take]
  omega
theorem b3r {r : List (List CD)} {i : Nat} (h : i < r.length) {b : UInt8} (hb : b = if ((r.getD i []).getD 0 default).bv = true then 49 else 48) : (markT (r.take i)).map aco ++ aco b :: (List.replicate (r.length - (i + 1)) 0).map aco = mkP r (i + 1) := by
 unfold mkP
 have e : markT (r.take (i + 1)) = markT (r.take i) ++ [b] := by
  have e0 : r.getD i [] = r[i] := by
   rw [List.getD_eq_getElem?_getD, List.getElem?_eq_getElem h]
   rfl
  unfold markT
  rw [List.take_add_one, List.getElem?_eq_getElem h, List.map_append, hb, e0]
  rfl
 rw [e, List.map_append, List.map_append, List.append_assoc]
 rfl
theorem mk_1 {r : List (List CD)} {i : Nat} (h : i < r.length) (hb : ((r.getD i []).getD 0 default).bv = true) : setCell (setCell (mkP r i) i 0 (vInt .u8 48)) i 0 (vInt .u8 49) = mkP r (i + 1) := by
 obtain ⟨h1, h2⟩ := b3q h
 rw [h1]
 unfold setCell
 have e1 := b0o (f := fun q => q.set 0 (vInt .u8 48)) (x := aco 0) (r := (List.replicate (r.length - (i + 1)) 0).map aco) ((markT (r.take i)).map aco)
 rw [h2] at e1
 rw [e1]
 have e2 := b0o (f := fun q => q.set 0 (vInt .u8 49)) (x := (aco 0).set 0 (vInt .u8 48)) (r := (List.replicate (r.length - (i + 1)) 0).map aco) ((markT (r.take i)).map aco)
 rw [h2] at e2
 rw [e2]
 exact b3r (b := 49) h (by rw [if_pos hb])
theorem mk_2 {r : List (List CD)} {i : Nat} (h : i < r.length) (hb : ¬ ((r.getD i []).getD 0 default).bv = true) : setCell (mkP r i) i 0 (vInt .u8 48) = mkP r (i + 1) := by
 obtain ⟨h1, h2⟩ := b3q h
 rw [h1]
 unfold setCell
 have e1 := b0o (f := fun q => q.set 0 (vInt .u8 48)) (x := aco 0) (r := (List.replicate (r.length - (i + 1)) 0).map aco) ((markT (r.take i)).map aco)
 rw [h2] at e1
 rw [e1]
 exact b3r (b := 48) h (by rw [if_neg hb])
theorem b1u (b : UInt8) : aa9 (aco b) = b := by
 show UInt8.ofNat ((b.toNat : Int).toNat) = b
 rw [Int.toNat_natCast]
 simp
theorem b89 {r : List (List CD)} {i : Nat} (h : r.length ≤ i) : (mkP r i).map aa9 = markT r := by
 unfold mkP
 rw [List.take_of_length_le h, show r.length - i = 0 by omega, List.replicate_zero, List.append_nil, List.map_map]
 exact List.map_id'' (fun b => b1u b) _
set_option maxHeartbeats 1000000 in
set_option maxRecDepth 100000 in
theorem cbp : abd U Tryd.prog 32 bn6 := by
 refine abd.of (P := Tryd.prog) (U := U) (T := T0) (f := 32) (fn := Tryd.f32) (fuel := 10) (fk := 20) (hs := ⟨an2 [(3, lp32)], hintA []⟩) (S := bn6) (v := b6p) (outs := b6o) mixed hT0 at32 b9v ?_ ?_
 ·unfold b6p
  repeat' (first | exact ake _ | refine aku (fun v hh => ?_) ?_)
  all_goals
   simp only [aey, afm, ae1, afl, afj, ajd, ahp, adk, w_wr, b_lt, b_le, b_eq, ae0, aiu, b_or, ae6, ac7, adj, ajb, ahh, adf, adw, afd, w_mk, ad5, agr, ai9, ahz, ahq, afn, agq, ajc, ae3, afi, aho, w_l0, w_l1, abl, abo, aev, aaw, aax, adb, acw, ae5, afb, afc, ae4, aiy, aix, aff, ahx, w_eq, bsh, bl9, bsi, bsj, bsk, a2n, bsl, beh, bek, bny, bsm, bsn, bso, bsp, bsq, bsr, bst, a2o, bsu, bsv, bsw, bsx, aw0, aw1, aw5, aw6, aw8, aw9, axa, axb, axd, axe, bma, ben, axf, beo, bep, bmb, bmc, a2q, ber, bes, bmd, bme, bnz, bsy, bsz, bet, beu, bs0, bew, bey, be0, be2, be6, bfc, bfe, a4c, a4e, a4g, bs1, bs2, bs3, bs4, bs5, bs6, bs7, bs8, bs9, bta, bmf, bfi, btb, bfj, btc, btd, mnX, mxX, bkz, ao4, ags] at hh ⊢
   have hT : Typ sOs (v 0) := by simp only [hh]
  ·rw [hT.sl.1]
   exact congrArg (CD.sl false) (mk_0 _)
  ·have hi : (v 3).iv < ((v 0).len : Int) := hh.2.1
   rw [hT.sl.1] at hi
   have hr : (v 2).rows = mkP (v 0).rows (v 3).iv.toNat := by
    have := hh.2.2.2.2.2.2.1
    exact (CD.sl.inj this).2
   have h0 : 0 ≤ (v 3).iv := hh.2.2.1
   rw [hr, show ((v 3).iv + 1).toNat = (v 3).iv.toNat + 1 by omega]
   exact congrArg (CD.sl false) (mk_1 (by omega) hh.1)
  ·have hi : (v 3).iv < ((v 0).len : Int) := hh.2.1
   rw [hT.sl.1] at hi
   have hr : (v 2).rows = mkP (v 0).rows (v 3).iv.toNat := by
    have := hh.2.2.2.2.2.2.1
    exact (CD.sl.inj this).2
   have h0 : 0 ≤ (v 3).iv := hh.2.2.1
   rw [hr, show ((v 3).iv + 1).toNat = (v 3).iv.toNat + 1 by omega]
   exact congrArg (CD.sl false) (mk_2 (by omega) hh.1)
 ·intro o ho σ hU hh
  obtain ⟨v⟩ := σ
  cases hU
  simp only [b6o, List.mem_cons, List.not_mem_nil, or_false] at ho
  subst ho
  refine ⟨_, List.mem_cons_self .., by simp only [aey, afm, ae1, afl, afj, ajd, ahp, adk, w_wr, b_lt, b_le, b_eq, ae0, aiu, b_or, ae6, ac7, adj, ajb, ahh, adf, adw, afd, w_mk, ad5, agr, ai9, ahz, ahq, afn, agq, ajc, ae3, afi, aho, w_l0, w_l1, abl, abo, aev, aaw, aax, adb, acw, ae5, afb, afc, ae4, aiy, aix, aff, ahx], ?_⟩
  simp only [aey, afm, ae1, afl, afj, ajd, ahp, adk, w_wr, b_lt, b_le, b_eq, ae0, aiu, b_or, ae6, ac7, adj, ajb, ahh, adf, adw, afd, w_mk, ad5, agr, ai9, ahz, ahq, afn, agq, ajc, ae3, afi, aho, w_l0, w_l1, abl, abo, aev, aaw, aax, adb, acw, ae5, afb, afc, ae4, aiy, aix, aff, ahx, w_eq, bsh, bl9, bsi, bsj, bsk, a2n, bsl, beh, bek, bny, bsm, bsn, bso, bsp, bsq, bsr, bst, a2o, bsu, bsv, bsw, bsx, aw0, aw1, aw5, aw6, aw8, aw9, axa, axb, axd, axe, bma, ben, axf, beo, bep, bmb, bmc, a2q, ber, bes, bmd, bme, bnz, bsy, bsz, bet, beu, bs0, bew, bey, be0, be2, be6, bfc, bfe, a4c, a4e, a4g, bs1, bs2, bs3, bs4, bs5, bs6, bs7, bs8, bs9, bta, bmf, bfi, btb, bfj, btc, btd, mnX, mxX, bkz, ao4, ags] at hh
  simp only [List.map_cons, List.map_nil, aey, afm, ae1, afl, afj, ajd, ahp, adk, w_wr, b_lt, b_le, b_eq, ae0, aiu, b_or, ae6, ac7, adj, ajb, ahh, adf, adw, afd, w_mk, ad5, agr, ai9, ahz, ahq, afn, agq, ajc, ae3, afi, aho, w_l0, w_l1, abl, abo, aev, aaw, aax, adb, acw, ae5, afb, afc, ae4, aiy, aix, aff, ahx, w_lt, w_le, w_eq, bn0, byq, w_or, bmk, a3c, bn1, bsh, bl9, bsi, bsj, bsk, a2n, bsl, beh, bek, bny, bsm, bsn, bso, bsp, bsq, bsr, bst, a2o, bsu, bsv, bsw, bsx, aw0, aw1, aw5, aw6, aw8, aw9, axa, axb, axd, axe, bma, ben, axf, beo, bep, bmb, bmc, a2q, ber, bes, bmd, bme, bnz, bsy, bsz, bet, beu, bs0, bew, bey, be0, be2, be6, bfc, bfe, a4c, a4e, a4g, bs1, bs2, bs3, bs4, bs5, bs6, bs7, bs8, bs9, bta, bmf, bfi, btb, bfj, btc, btd, mnX, mxX, ags, anz]
  have hT : Typ sOs (v 0) := by simp only [hh]
  have hi : ¬ (v 3).iv < ((v 0).len : Int) := hh.1
  rw [hT.sl.1] at hi
  have hr : (v 2).rows = mkP (v 0).rows (v 3).iv.toNat := by
   have := hh.2.2.2.2.2.1
   exact (CD.sl.inj this).2
  rw [hr, b89 (by omega)]
  rfl
end Go.Proofs.YtamhchkknlbanaaDoor.Be

namespace Go.Proofs
open Go.Shelf
def Tryd.lays169_ren : Go.Shelf.Ren := ⟨fun | 169 => 51 | n => n, fun | 70 => 79 | 9 => 9 | 0 => 0 | 72 => 81 | 37 => 22 | 127 => 92 | 3 => 3 | 5 => 5 | n => n, fun | n => n⟩
theorem Tryd.lays169 : Go.Proofs.Lays.n169 Tryd.prog Tryd.lays169_ren := {
 mixed := by kernel_rfl
 f169 := Tryd.func51.trans (congrArg some (by kernel_rfl))
 t0 := Tryd.underlying0
 a0 := Tryd.isAgg0
 z0 := Tryd.sizeOf0
 v0 := Tryd.zeroValue0
 t3 := Tryd.underlying3
 a3 := Tryd.isAgg3
 z3 := Tryd.sizeOf3
 v3 := Tryd.zeroValue3
 t9 := Tryd.underlying9
 a9 := Tryd.isAgg9
 z9 := Tryd.sizeOf9
 v9 := Tryd.zeroValue9
 t37 := Tryd.underlying22
 a37 := Tryd.isAgg22
 z37 := Tryd.sizeOf22
 v37 := Tryd.zeroValue22
 t70 := Tryd.underlying79
 a70 := Tryd.isAgg79
 z70 := Tryd.sizeOf79
 v70 := Tryd.zeroValue79
 t72 := Tryd.underlying81
 a72 := Tryd.isAgg81
 z72 := Tryd.sizeOf81
 v72 := Tryd.zeroValue81
 t127 := Tryd.underlying92
 a127 := Tryd.isAgg92
 z127 := Tryd.sizeOf92
 v127 := Tryd.zeroValue92 }
def Tryd.lays167_ren : Go.Shelf.Ren := ⟨fun | 167 => 50 | 169 => 51 | 240 => 59 | 276 => 72 | n => n, fun | 20 => 20 | 72 => 81 | 70 => 79 | 37 => 22 | 75 => 83 | 127 => 92 | 164 => 103 | 80 => 85 | n => n, fun | n => n⟩
theorem Tryd.lays167 : Go.Proofs.Lays.n167 Tryd.prog Tryd.lays167_ren := {
 mixed := by kernel_rfl
 f167 := Tryd.func50.trans (congrArg some (by kernel_rfl))
 f240 := Tryd.func59.trans (congrArg some (by kernel_rfl))
 f276 := Tryd.func72.trans (congrArg some (by kernel_rfl))
 t0 := Tryd.underlying0
 a0 := Tryd.isAgg0
 z0 := Tryd.sizeOf0
 v0 := Tryd.zeroValue0
 t4 := Tryd.underlying4
 a4 := Tryd.isAgg4
 z4 := Tryd.sizeOf4
 v4 := Tryd.zeroValue4
 t5 := Tryd.underlying5
 a5 := Tryd.isAgg5
 z5 := Tryd.sizeOf5
 v5 := Tryd.zeroValue5
 t9 := Tryd.underlying9
 a9 := Tryd.isAgg9
 z9 := Tryd.sizeOf9
 v9 := Tryd.zeroValue9
 t20 := Tryd.underlying20
 a20 := Tryd.isAgg20
 z20 := Tryd.sizeOf20
 v20 := Tryd.zeroValue20
 t37 := Tryd.underlying22
 a37 := Tryd.isAgg22
 z37 := Tryd.sizeOf22
 v37 := Tryd.zeroValue22
 t70 := Tryd.underlying79
 a70 := Tryd.isAgg79
 z70 := Tryd.sizeOf79
 v70 := Tryd.zeroValue79
 t72 := Tryd.underlying81
 a72 := Tryd.isAgg81
 z72 := Tryd.sizeOf81
 v72 := Tryd.zeroValue81
 t75 := Tryd.underlying83
 a75 := Tryd.isAgg83
 z75 := Tryd.sizeOf83
 v75 := Tryd.zeroValue83
 t164 := Tryd.underlying103
 a164 := Tryd.isAgg103
 z164 := Tryd.sizeOf103
 v164 := Tryd.zeroValue103 }
theorem Tryd.extra156 : Builder.Extra Tryd.prog Tryd.lays156_ren := {
 sizeBuilder := by kernel_rfl
 liesBuilder := by kernel_rfl
 t5 := Tryd.underlying5
 a5 := Tryd.isAgg5
 z5 := Tryd.sizeOf5
 v5 := Tryd.zeroValue5
 infoByte := by kernel_rfl
 cellsByte := by kernel_rfl
 sizeByte := by kernel_rfl
 neB5 := by decide }
theorem Tryd.extra167 : Builder.Extra Tryd.prog Tryd.lays167_ren := {
 sizeBuilder := by kernel_rfl
 liesBuilder := by kernel_rfl
 t5 := Tryd.underlying5
 a5 := Tryd.isAgg5
 z5 := Tryd.sizeOf5
 v5 := Tryd.zeroValue5
 infoByte := by kernel_rfl
 cellsByte := by kernel_rfl
 sizeByte := by kernel_rfl
 neB5 := by decide }
theorem Tryd.extra169 : Builder.Extra Tryd.prog Tryd.lays169_ren := {
 sizeBuilder := by kernel_rfl
 liesBuilder := by kernel_rfl
 t5 := Tryd.underlying5
 a5 := Tryd.isAgg5
 z5 := Tryd.sizeOf5
 v5 := Tryd.zeroValue5
 infoByte := by kernel_rfl
 cellsByte := by kernel_rfl
 sizeByte := by kernel_rfl
 neB5 := by decide }
end Go.Proofs

namespace Go.Proofs.YtamhchkknlbanaaDoor.Be
open Go.Sx Go.Proofs Go.RowKit Go.Lib
abbrev hexS : ByteArray := ⟨#[48, 49, 50, 51, 52, 53, 54, 55, 56, 57, 97, 98, 99, 100, 101, 102]⟩
theorem bu7 {n : Nat} (h : n < hexS.size) : hexS[n]'h = hexC n := by
 have h' : n < 16 := h
 have : n = 0 ∨ n = 1 ∨ n = 2 ∨ n = 3 ∨ n = 4 ∨ n = 5 ∨ n = 6 ∨ n = 7 ∨ n = 8 ∨ n = 9 ∨ n = 10 ∨ n = 11 ∨ n = 12 ∨ n = 13 ∨ n = 14 ∨ n = 15 := by omega
 rcases this with rfl | rfl | rfl | rfl | rfl | rfl | rfl | rfl | rfl | rfl | rfl | rfl | rfl | rfl | rfl | rfl <;> rfl
theorem azf (l : List UInt8) : (l.flatMap bah).length = 2 * l.length := by
 induction l with
 | nil => rfl
 | cons a l ih =>
  rw [List.flatMap_cons, List.length_append, ih, List.length_cons]
  show 2 + _ = _
  omega
set_option maxHeartbeats 1000000 in
set_option maxRecDepth 100000 in
theorem bmt (l : List UInt8) (bk o c : Nat) (w : World) (hl : l.length ≤ 2500) (hc : l.length ≤ c) (hbk : bk < w.heap.size)
  (h : ∀ (j : Nat) b, l[j]? = some b → w.cell? ⟨bk, o + j, none⟩ = some (.int .u8 b.toNat)) :
  Calls Tryd.prog 31 #[.slice (some ⟨bk, o, none⟩) l.length c] w fun e w' => e = .returned (.string ⟨(l.flatMap bah).toArray⟩) ∧ Below w.heap.size w w' := by
 have HC := Any.hidJ h
 clear h
 go_enter Tryd.func31, Tryd.ntmps31
 go_wp2_with fail
 go_loopw [8] (fun i wr => ∃ k : Nat, k ≤ l.length ∧ i = .int .i64 k ∧ Hid (Lib.IsBuilder 81 5 w.heap.size w.heap.size (Lib.byteCells ((l.take k).flatMap bah)) wr) ∧ Hid (Below w.heap.size w wr)) (fun i _ => l.length - (intOf i).toNat)
 case atStart =>
  refine ⟨0, Nat.zero_le _, rfl, Any.hidJ (Lib.fresh_isBuilder 81 5 w), Any.hidJ ((Below.refl w.heap.size w).alloc (Nat.le_refl _) _)⟩
 case round =>
  obtain ⟨k, hk, rfl, HB, HW⟩ := hrel
  by_cases hkl : k < l.length
  ·obtain ⟨b, hb⟩ : ∃ b, l[k]? = some b := ⟨l[k], List.getElem?_eq_getElem hkl⟩
   have hcb : wr.cell? ⟨bk, o + k, none⟩ = some (.int .u8 b.toNat) := by
    rw [HW.out.cell (p := ⟨bk, o + k, none⟩) hbk]
    exact HC.out k b hb
   have hb0 : (0 : Int) ≤ (b.toNat : Int) := Int.natCast_nonneg _
   have hb1 : (b.toNat : Int) < 256 := by have := b.toNat_lt; omega
   have hBw : w.heap.size ≤ wr.heap.size := HW.out.size
   go_wp2_with fail
   have hlen : (Lib.byteCells ((l.take k).flatMap bah)).length + 2 ≤ 140737488355328 := by
    rw [Lib.byteCells_length, azf, List.length_take]
    omega
   refine (Any.Builder_WriteByte Tryd.lays167 Tryd.extra167 w.heap.size w.heap.size _ _ wr HB.out (by omega) hBw).mono ?_
   rintro e w1 ⟨rfl, h1, hb2⟩
   have H1 := Any.hidJ h1
   have Hb2 := Any.hidJ hb2
   have hBw1 : w.heap.size ≤ w1.heap.size := Nat.le_trans hBw hb2.size
   clear h1 hb2
   go_wp2_with fail
   refine (Any.Builder_WriteByte Tryd.lays167 Tryd.extra167 w.heap.size w.heap.size _ _ w1 (Or.inr H1.out) (by rw [List.length_append]; simp only [List.length_cons, List.length_nil]; omega) hBw1).mono ?_
   rintro e w2 ⟨rfl, h2, hb3⟩
   have hnext : Lib.byteCells ((l.take k).flatMap bah) ++ [Value.int .u8 ((hexS[b.toNat / 16]'(by have := b.toNat_lt; show _ < 16; omega)).toNat : Nat)] ++ [Value.int .u8 ((hexS[b.toNat % 16]'(by show _ < 16; omega)).toNat : Nat)] = Lib.byteCells ((l.take (k + 1)).flatMap bah) := by
    rw [bu7, bu7, List.take_add_one, hb, List.flatMap_append, Lib.byteCells_append, List.append_assoc]
    rfl
   have h2' := h2
   rw [hnext] at h2'
   have H2 := Any.hidJ (Or.inr h2' : Lib.IsBuilder 81 5 w.heap.size w.heap.size _ w2)
   have Hb3 := Any.hidJ (HW.out.trans (Hb2.out.trans hb3))
   clear h2 h2' hb3 hnext
   go_wp2_with fail
   exact ⟨⟨k + 1, by omega, by go_num, H2, Hb3⟩, by simp [intOf]; omega⟩
  ·have hke : k = l.length := by omega
   subst hke
   have hB' := HB.out
   rw [List.take_length] at hB'
   have hBw : w.heap.size ≤ wr.heap.size := HW.out.size
   go_wp2_with fail
   refine (Any.Builder_String_any Tryd.lays169 Tryd.extra169 w.heap.size w.heap.size _ wr hB' hBw).mono ?_
   rintro e w5 ⟨rfl, hb5⟩
   have Hb5 := Any.hidJ (HW.out.trans hb5)
   clear hb5 hB'
   go_wp2
   go_ret
   exact ⟨rfl, Hb5.out⟩
set_option maxHeartbeats 1000000 in
set_option maxRecDepth 100000 in
theorem an9 (a : Option Addr) (c : Nat) (w : World) :
  Calls Tryd.prog 31 #[.slice a 0 c] w fun e w' => e = .returned (.string ⟨([] : List UInt8).toArray⟩) ∧ Below w.heap.size w w' := by
 go_enter Tryd.func31, Tryd.ntmps31
 go_wp2_with fail
 go_loopw [8] (fun i wr => i = .int .i64 0 ∧ Hid (Lib.IsBuilder 81 5 w.heap.size w.heap.size (Lib.byteCells []) wr) ∧ Hid (Below w.heap.size w wr)) (fun _ _ => 0)
 case atStart =>
  refine ⟨rfl, Any.hidJ (Lib.fresh_isBuilder 81 5 w), Any.hidJ ((Below.refl w.heap.size w).alloc (Nat.le_refl _) _)⟩
 case round =>
  obtain ⟨rfl, HB, HW⟩ := hrel
  have hB' := HB.out
  have hBw : w.heap.size ≤ wr.heap.size := HW.out.size
  go_wp2_with fail
  refine (Any.Builder_String_any Tryd.lays169 Tryd.extra169 w.heap.size w.heap.size [] wr hB' hBw).mono ?_
  rintro e w5 ⟨rfl, hb5⟩
  have Hb5 := Any.hidJ (HW.out.trans hb5)
  clear hb5 hB'
  go_wp2
  go_ret
  exact ⟨rfl, Hb5.out⟩
theorem bxh {m : Mem} {rows : List (List CD)} {f : Nat → Nat → Option Value} (h : ∀ i row, rows[i]? = some row → RSs m [.int .u8] row (f i)) (j : Nat) (b : UInt8) (hb : (rows.map aa9)[j]? = some b) : f j 0 = some (.int .u8 b.toNat) := by
 rw [List.getElem?_map] at hb
 cases hr : rows[j]? with
 | none => rw [hr] at hb; cases hb
 | some row =>
  rw [hr] at hb
  cases hb
  obtain ⟨c, r, u, rfl, h1, ⟨z, rfl, rfl, h3⟩, h4⟩ := h j row hr
  rw [h1]
  have hz : 0 ≤ z ∧ z ≤ 255 := by
   simp only [ab9, Bool.and_eq_true, decide_eq_true_eq] at h3
   exact h3
  show _ = some (Value.int .u8 ((UInt8.ofNat z.toNat).toNat : Nat))
  have : (UInt8.ofNat z.toNat).toNat = z.toNat := by
   rw [UInt8.toNat_ofNat']
   omega
  rw [this]
  congr 2
  omega
noncomputable def bq1 : Fsp := ⟨[(false, [sYs])], [.ap .le [.ap .len [.var 0], I 2500]], [(false, [.str])], [([], [[.ap (.usr 298) [.var 0]]])], true⟩
theorem bz4 (r : List (List CD)) : (hexT r).length = 2 * r.length := by
 unfold hexT
 rw [azf, List.length_map]
theorem bu8 {v : Nat → CD} {a b : X} (h : @Holds (@Sg.mk U v) [.ap .le [a, b]]) : (@den (@Sg.mk U v) a).iv ≤ (@den (@Sg.mk U v) b).iv := axt h (List.mem_cons_self ..)
set_option maxRecDepth 100000 in
theorem cbo : abd U Tryd.prog 31 bq1 := by
 refine abd.calls Tryd.call31 fun v m w us htw hm hargs hpre => ?_
 match us, hargs with
 | [u], ⟨h1, _⟩ =>
  have hl : ((v 0).len : Int) ≤ 2500 := bu8 hpre
  have hres : ∀ (l : List UInt8) (hl : l = (v 0).rows.map aa9) (hlen : l.length ≤ 2500), ∀ (e : Ending) (w' : World), (e = .returned (.string ⟨(l.flatMap bah).toArray⟩) ∧ Below w.heap.size w w') → ∃ u, e = .returned u ∧ Keep w w' ∧ ∃ o ∈ bq1.outs, @Holds (@Sg.mk U v) o.1 ∧ ResR (fun k ob => (w.heap.size ≤ k ∧ w'.heap[k]? = some ob ∧ Nice ob) ∨ (bq1.fresh = false ∧ m k ob)) bq1.res (o.2.map (@denL (@Sg.mk U v))) u := by
   rintro l hl hlen e w' ⟨rfl, hb⟩
   refine ⟨_, rfl, atn hb, _, List.mem_singleton.2 rfl, holds_nil v, [_], ⟨?_, trivial⟩, rfl⟩
   show RS (fun k ob => (w.heap.size ≤ k ∧ w'.heap[k]? = some ob ∧ Nice ob) ∨ (bq1.fresh = false ∧ m k ob)) .str (tx (hexT (v 0).rows)) _
   unfold hexT
   rw [← hl]
   refine b6s (l := l.flatMap bah) ?_
   rw [azf]
   unfold maxN
   omega
  rcases (show ((v 0) = .sl true [] ∧ u = .slice none 0 0) ∨ _ from h1) with ⟨e1, rfl⟩ | ⟨rows, b, off, cap, e1, rfl, h3, h4, h5⟩ | ⟨a, e1, rfl⟩
  ·have e1 : v 0 = _ := e1
   refine (an9 none 0 w).mono (hres [] (by rw [e1]; rfl) (by simp))
  ·have e1 : v 0 = _ := e1
   have hrl : rows.length ≤ 2500 := by
    rw [e1] at hl
    have : ((clip rows.length : Nat) : Int) ≤ 2500 := hl
    rw [aiz (by omega)] at this
    omega
   by_cases hne : rows = []
   ·subst hne
    exact (an9 (some ⟨b, off, none⟩) cap w).mono (hres [] (by rw [e1]; rfl) (by simp))
   ·obtain ⟨arr, tt, fr, g1, g2⟩ := h5 hne
    have hw := hm _ _ g1
    have := bmt (rows.map aa9) b off cap w (by simpa using hrl) (by simpa using h3) (Lib.lt_of_heap hw) (fun j x hx => by
     rw [Lib.cell_of_heap hw]
     have := bxh (f := fun i q => arr[off + i * 1 + q]?) g2 j x hx
     simpa using this)
    rw [List.length_map] at this
    exact this.mono (hres _ (by rw [e1]; rfl) (by simpa using hrl))
  ·have e1 : v 0 = _ := e1
   exact (an9 (some a) 0 w).mono (hres [] (by rw [e1]; rfl) (by simp))
noncomputable def bq2 : Fsp := ⟨[(false, [.sl [.str]]), (false, [.str])], [.ap .le [.ap .len [.var 0], I 2500], .ap .le [.ap .slen [.ap (.usr 282) [.var 0, .var 1]], I 40000]], [(false, [.str])], [([], [[.ap (.usr 282) [.var 0, .var 1]]])], true⟩
theorem b6w {l : List UInt8} (h : ((tx l).slen : Int) ≤ 40000) : l.length ≤ 40000 := by
 have : ((clip l.length : Nat) : Int) ≤ 40000 := h
 unfold clip maxN at this
 omega
def bp9 (r : List CD) : ByteArray := (r.getD 0 default).str
theorem a5m (rows : List (List CD)) : (rows.map bp9).map (fun x => x.data.toList) = rows.map awy := by
 rw [List.map_map]
 refine List.map_congr_left fun r _ => ?_
 show (bp9 r).data.toList = (r.getD 0 default).str.toList
 rw [ByteArray.toList_eq]
 rfl
theorem b1x {m : Mem} {rows : List (List CD)} {f : Nat → Nat → Option Value} (h : ∀ i row, rows[i]? = some row → RSs m [.str] row (f i)) (j : Nat) (b : ByteArray) (hb : (rows.map bp9)[j]? = some b) : f j 0 = some (.string b) := by
 rw [List.getElem?_map] at hb
 cases hr : rows[j]? with
 | none => rw [hr] at hb; cases hb
 | some row =>
  rw [hr] at hb
  cases hb
  obtain ⟨c, r, u, rfl, h1, ⟨z, rfl, rfl, h3⟩, h4⟩ := h j row hr
  exact h1
set_option maxRecDepth 100000 in
theorem cbq : abd U Tryd.prog 33 bq2 := by
 refine abd.calls Tryd.call33 fun v m w us htw hm hargs hpre => ?_
 match us, hargs with
 | [u, u'], ⟨h1, h2, _⟩ =>
  obtain ⟨s, e2, rfl, k3⟩ : RS m .str (v 1) u' := h2
  have hl : ((v 0).len : Int) ≤ 2500 := axt hpre (List.mem_cons_self ..)
  have hj0 : ((@Us.u U 282 [v 0, v 1]).slen : Int) ≤ 40000 := axt hpre (List.mem_cons_of_mem _ (List.mem_singleton.2 rfl))
  rw [a4c] at hj0
  have hj := b6w hj0
  rw [e2, by_v] at hj
  have hres : ∀ (l : List UInt8) (hl : l = Lib.join ((v 0).rows.map awy) s.data.toList), ∀ (e : Ending) (w' : World), (e = .returned (.string ⟨l.toArray⟩) ∧ Below w.heap.size w w') → ∃ u, e = .returned u ∧ Keep w w' ∧ ∃ o ∈ bq2.outs, @Holds (@Sg.mk U v) o.1 ∧ ResR (fun k ob => (w.heap.size ≤ k ∧ w'.heap[k]? = some ob ∧ Nice ob) ∨ (bq2.fresh = false ∧ m k ob)) bq2.res (o.2.map (@denL (@Sg.mk U v))) u := by
   rintro l hl e w' ⟨rfl, hb⟩
   refine ⟨_, rfl, atn hb, _, List.mem_singleton.2 rfl, holds_nil v, [_], ⟨?_, trivial⟩, rfl⟩
   show RS (fun k ob => (w.heap.size ≤ k ∧ w'.heap[k]? = some ob ∧ Nice ob) ∨ (bq2.fresh = false ∧ m k ob)) .str (tx (Lib.join ((v 0).rows.map awy) (by' (v 1)))) _
   rw [e2, by_v, ← hl]
   refine b6s ?_
   rw [hl]
   unfold maxN
   omega
  rcases (show ((v 0) = .sl true [] ∧ u = .slice none 0 0) ∨ _ from h1) with ⟨e1, rfl⟩ | ⟨rows, b, off, cap, e1, rfl, h3, h4, h5⟩ | ⟨a, e1, rfl⟩
  ·refine (Any.strings_Join_none Tryd.lays156 Tryd.extra156 none 0 s w).mono ?_
   rintro e w' ⟨rfl, rfl⟩
   exact hres [] (by rw [e1]; rfl) _ _ ⟨rfl, Below.refl _ _⟩
  ·have e1 : v 0 = _ := e1
   have hrl : rows.length ≤ 2500 := by
    rw [e1] at hl
    have : ((clip rows.length : Nat) : Int) ≤ 2500 := hl
    rw [aiz (by omega)] at this
    omega
   by_cases hne : rows = []
   ·subst hne
    refine (Any.strings_Join_none Tryd.lays156 Tryd.extra156 (some ⟨b, off, none⟩) cap s w).mono ?_
    rintro e w' ⟨rfl, rfl⟩
    exact hres [] (by rw [e1]; rfl) _ _ ⟨rfl, Below.refl _ _⟩
   ·obtain ⟨arr, tt, fr, g1, g2⟩ := h5 hne
    have hw := hm _ _ g1
    have hj' : (Lib.join (rows.map awy) s.data.toList).length ≤ 40000 := by rw [e1] at hj; exact hj
    have := Any.strings_Join Tryd.lays156 Tryd.extra156 b off cap (rows.map bp9) s w (fun j x hx => by
     rw [Lib.cell_of_heap hw]
     have := b1x (f := fun i q => arr[off + i * 1 + q]?) g2 j x hx
     simpa using this) (Lib.lt_of_heap hw) (by rw [List.length_map]; omega) (by simpa using h3) (by rw [a5m]; omega)
    rw [List.length_map, a5m] at this
    exact this.mono (hres _ (by rw [e1]; rfl))
  ·have e1 : v 0 = _ := e1
   refine (Any.strings_Join_none Tryd.lays156 Tryd.extra156 (some a) 0 s w).mono ?_
   rintro e w' ⟨rfl, rfl⟩
   exact hres [] (by rw [e1]; rfl) _ _ ⟨rfl, Below.refl _ _⟩
end Go.Proofs.YtamhchkknlbanaaDoor.Be
