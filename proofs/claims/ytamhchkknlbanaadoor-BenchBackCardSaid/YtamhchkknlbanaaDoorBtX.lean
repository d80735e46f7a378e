/-
  'BenchBackCardSaid': for every input exchequerlaw32.BenchBack returns true; the input reads as it did (a tied card). Conditions: none but the given ones.
-/
import Derived.Test.YtamhchkknlbanaaDoorBtV
import Derived.Test.YtamhchkknlbanaaDoorBtI
import Derived.Test.YtamhchkknlbanaaDoorSzD
import Derived.ChangeFn
import Derived.WideFn
import Derived.ChangeSame
import Derived.RowKit3
import Derived.ChangeReads
import Derived.ChangeOld
import Derived.ReadAgain
import Derived.Lib.LaidU8
import Derived.ChangeMaps5
import Derived.Shelf.Vars
import Derived.Test.YtamhchkknlbanaaDoorTie
import Derived.Test.YtamhchkknlbanaaDoorCards
import Derived.Handy
import Derived.Lay
import Derived.SevenTiedAt
import Derived.WalkKit
import Derived.ProofKit
import Derived.OpenShut
set_option linter.unusedSectionVars false
set_option linter.unusedVariables false
set_option linter.unusedSimpArgs false
set_option linter.all false
namespace Go.Proofs.YtamhchkknlbanaaDoor.Be
open Go.Sx Go.Proofs
theorem abd.ask {U : Us} {P : Program} {f : FuncId} {S : Fsp} {pre : List X} (h : abd U P f S) (hp : ∀ v : Nat → CD, @Holds (@Sg.mk U v) pre → @Holds (@Sg.mk U v) S.pre) : abd U P f ⟨S.args, pre, S.res, S.outs, S.fresh⟩ := by
 intro σ hU m w us htw hm hargs hpre
 obtain ⟨v⟩ := σ
 cases hU
 exact h _ rfl m w us htw hm hargs (hp v hpre)
abbrev allW : List X := [.var 1, .var 2, .var 3, .var 4, .var 5, .var 6, .var 7, .var 8, .var 9]
abbrev preC : List X := [.ap .same [.var 0, .ap (.usr 283) allW], .ap .eq [.ap (.usr 284) allW, I 0], .ap (.typ sI) [.var 1], .ap (.typ sI) [.var 2], .ap (.typ sI) [.var 3], .ap (.typ sI) [.var 4], .ap (.typ .bool) [.var 5], .ap (.typ (.int .u8)) [.var 6], .ap (.typ sI) [.var 7], .ap .le [.ap .len [.var 9], I 2500]]
noncomputable def SPc : Fsp := ⟨SPb.args, preC, SPb.res, SPb.outs, SPb.fresh⟩
theorem cbu {c : CD} (h : Typ (.int .u8) c) : c.iv ≤ 255 := by
 obtain ⟨m, u, n, rfl, _, h3⟩ := h
 simp only [ab9, Bool.and_eq_true, decide_eq_true_eq] at h3
 exact h3.2
theorem ani {k : IntKind} {z : Int} : eqC (vInt k z) (vInt k z) = true := amv.mpr rfl
theorem bzc {a b : CD} (h : a.rows.map ae9 = b.rows.map ae9) : a.len = b.len := by
 have := congrArg List.length h
 rw [List.length_map, List.length_map] at this
 unfold CD.len
 rw [this]
theorem b1y {v : Nat → CD} (hh : @Holds (@Sg.mk U v) preC) : @Holds (@Sg.mk U v) SPb.pre := by
 have hh' := hh
 unfold preC at hh'
 simp only [aey, afm, ae1, afl, afj, ajd, ahp, adk, w_wr, b_lt, b_le, b_eq, ae0, aiu, b_or, ae6, ac7, adj, ajb, ahh, adf, adw, afd, w_mk, ad5, agr, ai9, ahz, ahq, afn, agq, ajc, ae3, afi, aho, w_l0, w_l1, abl, abo, aev, aaw, aax, adb, acw, ae5, afb, afc, ae4, aiy, aix, aff, ahx, w_eq, a4e, a4g] at hh'
 obtain ⟨h0, he, t1, t2, t3, t4, t5, t6, t7, hl, _⟩ := hh'
 have hD : ahn [v 1, v 2, v 3, v 4, v 5, v 6, v 7, v 8, v 9] = ajs (v 1).iv (v 2).iv (v 3).iv (v 4).iv (v 6).iv (v 7).iv (v 5).bv (v 8).rows (v 9).rows := rfl
 rw [hD] at h0 he
 rw [ags, amv] at he
 obtain ⟨s, hs⟩ : ∃ s, ajs (v 1).iv (v 2).iv (v 3).iv (v 4).iv (v 6).iv (v 7).iv (v 5).bv (v 8).rows (v 9).rows = (s, 0) := ⟨_, Prod.ext rfl he⟩
 rw [hs] at h0
 obtain ⟨h2, b', e', hp, hb, hk⟩ := ca0 (cbu t6) hs
 show @Holds (@Sg.mk U v) SPb.pre
 unfold SPb
 simp only [aey, afm, ae1, afl, afj, ajd, ahp, adk, w_wr, b_lt, b_le, b_eq, ae0, aiu, b_or, ae6, ac7, adj, ajb, ahh, adf, adw, afd, w_mk, ad5, agr, ai9, ahz, ahq, afn, agq, ajc, ae3, afi, aho, w_l0, w_l1, abl, abo, aev, aaw, aax, adb, acw, ae5, afb, afc, ae4, aiy, aix, aff, ahx, w_eq, aw0, aw1, aw5, aw6, aw8, aw9, axa, axb, axd, axe, bmf]
 rw [h0, hp]
 simp only [List.getD_cons_zero, List.getD_cons_succ]
 have e1 := as3 t1
 have e2 := as3 t2
 have e3 := as3 t3
 have e4 := as3 t4
 have e5 := bym t5
 have e6 := cac t6
 have e7 := as3 t7
 have hlen := bzc hk
 have hsl : ((tx s).slen : Int) = s.length := ax2 (by unfold maxN; omega)
 refine ⟨by rw [hsl]; show (s.length : Int) ≤ 2500; omega, ani, ?_, ?_, ?_, ?_, ?_, ?_, ?_, ?_, ?_, ?_, hl, ?_, trivial⟩
 ·rw [e1]; exact ani
 ·rw [e2]; exact ani
 ·rw [e3]; exact ani
 ·rw [e4]; exact ani
 ·rw [e5]; exact buk.mpr rfl
 ·rw [e6]; exact ani
 ·rw [e7]; exact ani
 ·rw [hb]; exact a4v.mpr rfl
 ·show (e'.len : Int) ≤ _
  rw [hlen]
  exact Int.le_refl _
 ·show _ ≤ (e'.len : Int)
  rw [hlen]
  exact Int.le_refl _
 ·have : (e'.rows.take (Int.toNat 2500)).map ae9 = ((v 9).rows.take (Int.toNat 2500)).map ae9 := by
   rw [List.map_take, List.map_take, hk]
  exact decide_eq_true this
set_option maxRecDepth 100000 in
theorem b93 : abd U Tryd.prog 16 SPc := abd.ask b92 fun v => b1y
noncomputable def T5 : List (FuncId × Fsp) := [(9, SAwk), (12, bto), (16, SPc), (6, a4j)]
set_option maxRecDepth 100000 in
theorem hT5 : awn U Tryd.prog T5 := .cons spc9 (.cons cbg (.cons b93 (.cons spc6 .nil)))
abbrev pv (j : Nat) : X := .ap (.usr j) [.var 9]
noncomputable def b4a : Fsp := ⟨[(true, bls), (false, [.str])], preD, [(false, [.bool])], [([], [[.lit (.bool true)]])], true⟩
noncomputable def hs5 : Hs := ⟨an2 [], hintA [(5, fun F H => [.ap .same [.ap (.usr 283) allV, .ap (.usr 283) allV]]), (10, fun F H => [.ap (.typ sI) [pv 240], .ap (.typ sI) [pv 241], .ap (.typ sI) [pv 242], .ap (.typ sI) [pv 243], .ap (.typ .bool) [pv 244], .ap (.typ (.int .u8)) [pv 245], .ap (.typ sI) [pv 246], .ap .le [.ap .len [pv 247], I 2500], .ap .le [.ap .len [pv 248], I 2500]])]⟩
abbrev aks : X := (.ap .eq [(.ap (.usr 249) [(.var 9)]), (I 0)])
abbrev bc5 : X := (.ap (.usr 283) [(.var 0), (.var 1), (.var 2), (.var 3), (.var 4), (.var 5), (.var 6), (.var 7), (.var 8)])
abbrev brz : X := (.ap (.usr 284) [(.var 0), (.var 1), (.var 2), (.var 3), (.var 4), (.var 5), (.var 6), (.var 7), (.var 8)])
abbrev br0 : X := (.ap .le [(.ap .len [(.ap (.usr 247) [(.var 9)])]), (I 2500)])
abbrev br1 : X := (.ap .le [(.ap .len [(.ap (.usr 248) [(.var 9)])]), (I 2500)])
abbrev awt : X := (.ap (.usr 240) [(.var 9)])
abbrev awu : X := (.ap (.usr 241) [(.var 9)])
abbrev aww : X := (.ap (.usr 242) [(.var 9)])
abbrev ant : X := (.ap (.usr 243) [(.var 9)])
abbrev anv : X := (.ap (.usr 245) [(.var 9)])
abbrev anw : X := (.ap (.usr 246) [(.var 9)])
abbrev a3y : X := (.ap (.usr 284) [awt, awu, aww, ant, (.ap (.usr 244) [(.var 9)]), anv, anw, (.ap (.usr 247) [(.var 9)]), (.ap (.usr 248) [(.var 9)])])
abbrev bry : X := (.ap (.usr 283) [awt, awu, aww, ant, (.ap (.usr 244) [(.var 9)]), anv, anw, (.ap (.usr 247) [(.var 9)]), (.ap (.usr 248) [(.var 9)])])
abbrev a7a : X := (.ap (.typ .bool) [(.ap (.usr 244) [(.var 9)])])
abbrev a7b : X := (.ap .lt [(I 1200), (.ap .len [(.var 7)])])
abbrev brx : List X := [(.ap .le [mnX, (.var 0)]), (.ap .le [(.var 0), mxX]), (.ap .le [mnX, (.var 1)]), (.ap .le [(.var 1), mxX]), (.ap .le [mnX, (.var 2)]), (.ap .le [(.var 2), mxX]), (.ap .le [mnX, (.var 3)]), (.ap .le [(.var 3), mxX]), (.ap .le [(.lit (.int .u8 0)), (.var 5)]), (.ap .le [(.var 5), (.lit (.int .u8 255))]), (.ap .le [mnX, (.var 6)]), (.ap .le [(.var 6), mxX]), (.ap (.typ (.sl [(.int .u8)])) [(.var 7)]), (.ap (.typ (.sl [.bool])) [(.var 8)]), (.ap (.typ .str) [(.var 9)]), (.ap (.typ sI) [(.var 0)]), (.ap (.typ sI) [(.var 1)]), (.ap (.typ sI) [(.var 2)]), (.ap (.typ sI) [(.var 3)]), (.ap (.typ .bool) [(.var 4)]), (.ap (.typ (.int .u8)) [(.var 5)]), (.ap (.typ sI) [(.var 6)])]
abbrev bw4 : List X := (.ap (.typ .str) [bc5]) :: (.ap .le [mnX, brz]) :: (.ap .le [brz, mxX]) :: (.ap .not [(.ap .lt [(I 2500), (.ap .slen [(.var 9)])])]) :: (.ap .not [(.ap .lt [(I 2500), (.ap .len [(.var 8)])])]) :: (.ap .not [a7b]) :: brx
abbrev avb : List X := (.ap .le [mnX, awt]) :: (.ap .le [awt, mxX]) :: (.ap .le [mnX, awu]) :: (.ap .le [awu, mxX]) :: (.ap .le [mnX, aww]) :: (.ap .le [aww, mxX]) :: (.ap .le [mnX, ant]) :: (.ap .le [ant, mxX]) :: (.ap .le [(.lit (.int .u8 0)), anv]) :: (.ap .le [anv, (.lit (.int .u8 255))]) :: (.ap .le [mnX, anw]) :: (.ap .le [anw, mxX]) :: (.ap (.typ (.sl [(.int .u8)])) [(.ap (.usr 247) [(.var 9)])]) :: (.ap (.typ (.sl [.bool])) [(.ap (.usr 248) [(.var 9)])]) :: (.ap .le [mnX, (.ap (.usr 249) [(.var 9)])]) :: (.ap .le [(.ap (.usr 249) [(.var 9)]), mxX]) :: (.ap .eq [brz, (I 0)]) :: (.ap .same [bc5, bc5]) :: bw4
abbrev b1r : List X := (.ap (.typ .str) [bry]) :: (.ap .le [mnX, a3y]) :: (.ap .le [a3y, mxX]) :: (.ap (.typ sI) [awt]) :: (.ap (.typ sI) [awu]) :: (.ap (.typ sI) [aww]) :: (.ap (.typ sI) [ant]) :: a7a :: (.ap (.typ (.int .u8)) [anv]) :: (.ap (.typ sI) [anw]) :: br0 :: br1 :: aks :: avb
abbrev ave : List X := (.ap .le [mnX, awt]) :: (.ap .le [awt, mxX]) :: (.ap .le [mnX, awu]) :: (.ap .le [awu, mxX]) :: (.ap .le [mnX, aww]) :: (.ap .le [aww, mxX]) :: (.ap .le [mnX, ant]) :: (.ap .le [ant, mxX]) :: (.ap .le [(.lit (.int .u8 0)), anv]) :: (.ap .le [anv, (.lit (.int .u8 255))]) :: (.ap .le [mnX, anw]) :: (.ap .le [anw, mxX]) :: (.ap (.typ (.sl [(.int .u8)])) [(.ap (.usr 247) [(.var 9)])]) :: (.ap (.typ (.sl [.bool])) [(.ap (.usr 248) [(.var 9)])]) :: (.ap .le [mnX, (.ap (.usr 249) [(.var 9)])]) :: (.ap .le [(.ap (.usr 249) [(.var 9)]), mxX]) :: (.ap .not [(.ap .eq [brz, (I 0)])]) :: (.ap .same [bc5, bc5]) :: bw4
abbrev b1s : List X := (.ap (.typ .str) [bry]) :: (.ap .le [mnX, a3y]) :: (.ap .le [a3y, mxX]) :: (.ap (.typ sI) [awt]) :: (.ap (.typ sI) [awu]) :: (.ap (.typ sI) [aww]) :: (.ap (.typ sI) [ant]) :: a7a :: (.ap (.typ (.int .u8)) [anv]) :: (.ap (.typ sI) [anw]) :: br0 :: br1 :: aks :: ave
set_option maxRecDepth 100000 in
def r5_v : List VC := [(bw4, (.ap .same [bc5, bc5])),
 ((aks :: avb), (.ap (.typ sI) [awt])),
 ((aks :: avb), (.ap (.typ sI) [awu])),
 ((aks :: avb), (.ap (.typ sI) [aww])),
 ((aks :: avb), (.ap (.typ sI) [ant])),
 ((aks :: avb), a7a),
 ((aks :: avb), (.ap (.typ (.int .u8)) [anv])),
 ((aks :: avb), (.ap (.typ sI) [anw])),
 ((aks :: avb), br0),
 ((aks :: avb), br1),
 ((aks :: ave), (.ap (.typ sI) [awt])),
 ((aks :: ave), (.ap (.typ sI) [awu])),
 ((aks :: ave), (.ap (.typ sI) [aww])),
 ((aks :: ave), (.ap (.typ sI) [ant])),
 ((aks :: ave), a7a),
 ((aks :: ave), (.ap (.typ (.int .u8)) [anv])),
 ((aks :: ave), (.ap (.typ sI) [anw])),
 ((aks :: ave), br0),
 ((aks :: ave), br1)]
set_option maxRecDepth 100000 in
def r5_o : List (List X × List (List X)) := [((a7b :: brx), [[(.lit (.bool true))]]),
 (((.ap .lt [(I 2500), (.ap .len [(.var 8)])]) :: (.ap .not [a7b]) :: brx), [[(.lit (.bool true))]]),
 (((.ap .lt [(I 2500), (.ap .slen [(.var 9)])]) :: (.ap .not [(.ap .lt [(I 2500), (.ap .len [(.var 8)])])]) :: (.ap .not [a7b]) :: brx), [[(.lit (.bool true))]]),
 (((.ap .not [aks]) :: avb), [[(.lit (.bool true))]]),
 (((.ap .eq [a3y, (I 0)]) :: b1r), [[(.ap .eq [bry, (.var 9)])]]),
 (((.ap .not [(.ap .eq [a3y, (I 0)])]) :: b1r), [[(.lit (.bool false))]]),
 (((.ap .not [aks]) :: ave), [[(.lit (.bool true))]]),
 (((.ap .eq [a3y, (I 0)]) :: b1s), [[(.ap .eq [bry, (.var 9)])]]),
 (((.ap .not [(.ap .eq [a3y, (I 0)])]) :: b1s), [[(.lit (.bool false))]])]
set_option maxRecDepth 100000 in
theorem cbc : runS Tryd.prog (anq (tab T5)) 10 20 hs5 Tryd.f5 (aef Tryd.f5) b4a = some (r5_v, r5_o) := by kernel_rfl
set_option maxHeartbeats 1000000 in
set_option maxRecDepth 100000 in
theorem spc5 : abd U Tryd.prog 5 b4a := by
  refine abd.of (P := Tryd.prog) (U := U) (T := (tab T5)) (f := 5) (fn := Tryd.f5) (fuel := 10) (fk := 20) (hs := hs5) (S := b4a) (v := r5_v) (outs := r5_o) mixed hT5 at5 cbc ?_ ?_
  · unfold r5_v
    repeat' (first | exact ake _ | refine aku (fun v hh => ?_) ?_)
    all_goals
      simp only [aey, afm, ae1, afl, afj, ajd, ahp, adk, w_wr, b_lt, b_le, b_eq, ae0, aiu, b_or, ae6, ac7, adj, ajb, ahh, adf, adw, afd, w_mk, ad5, agr, ai9, ahz, ahq, afn, agq, ajc, ae3, afi, aho, w_l0, w_l1, abl, abo, aev, aaw, aax, adb, acw, ae5, afb, afc, ae4, aiy, aix, aff, ahx, w_eq, aw0, aw1, aw5, aw6, aw8, aw9, axa, axb, axd, axe, brx, aks, bc5, brz, br0, br1, awt, awu, aww, ant, anv, anw, a3y, bry, a7a, a7b, bw4, avb, b1r, ave, b1s, ags] at hh ⊢
    all_goals
      have h9 : eqC ((aai (v 9)).getD 9 default) (vInt .i64 0) = true := by simp only [hh]
      first
      | exact (a6g (pv_9 h9)).1
      | exact (a6g (pv_9 h9)).2
      | exact cad (pv_4 _)
      | (refine caf (pv_5 _) ?_ ?_ <;> (simp only [hh]; done))
      | (refine a2l (pv_0 _) ?_ ?_ <;> (simp only [hh]; done))
      | (refine a2l (pv_1 _) ?_ ?_ <;> (simp only [hh]; done))
      | (refine a2l (pv_2 _) ?_ ?_ <;> (simp only [hh]; done))
      | (refine a2l (pv_3 _) ?_ ?_ <;> (simp only [hh]; done))
      | (refine a2l (pv_6 _) ?_ ?_ <;> (simp only [hh]; done))
  · intro o ho σ hU hh
    obtain ⟨v⟩ := σ
    cases hU
    simp only [r5_o, List.mem_cons, List.not_mem_nil, or_false] at ho
    repeat' (first | (rcases ho with rfl | ho) | subst ho)
    all_goals
      refine ⟨_, List.mem_cons_self .., by simp only [aey, afm, ae1, afl, afj, ajd, ahp, adk, w_wr, b_lt, b_le, b_eq, ae0, aiu, b_or, ae6, ac7, adj, ajb, ahh, adf, adw, afd, w_mk, ad5, agr, ai9, ahz, ahq, afn, agq, ajc, ae3, afi, aho, w_l0, w_l1, abl, abo, aev, aaw, aax, adb, acw, ae5, afb, afc, ae4, aiy, aix, aff, ahx], ?_⟩
      simp only [aey, afm, ae1, afl, afj, ajd, ahp, adk, w_wr, b_lt, b_le, b_eq, ae0, aiu, b_or, ae6, ac7, adj, ajb, ahh, adf, adw, afd, w_mk, ad5, agr, ai9, ahz, ahq, afn, agq, ajc, ae3, afi, aho, w_l0, w_l1, abl, abo, aev, aaw, aax, adb, acw, ae5, afb, afc, ae4, aiy, aix, aff, ahx, w_eq, aw0, aw1, aw5, aw6, aw8, aw9, axa, axb, axd, axe, a4e, a4g, brx, aks, bc5, brz, br0, br1, awt, awu, aww, ant, anv, anw, a3y, bry, a7a, a7b, bw4, avb, b1r, ave, b1s, ags] at hh
      simp only [List.map_cons, List.map_nil, aey, afm, ae1, afl, afj, ajd, ahp, adk, w_wr, b_lt, b_le, b_eq, ae0, aiu, b_or, ae6, ac7, adj, ajb, ahh, adf, adw, afd, w_mk, ad5, agr, ai9, ahz, ahq, afn, agq, ajc, ae3, afi, aho, w_l0, w_l1, abl, abo, aev, aaw, aax, adb, acw, ae5, afb, afc, ae4, aiy, aix, aff, ahx, w_lt, w_le, w_eq, bn0, byq, w_or, bmk, a3c, bn1, aw0, aw1, aw5, aw6, aw8, aw9, axa, axb, axd, axe, a4e, a4g, ags]
      all_goals first
      | rfl
      | (have h9 : eqC ((aai (v 9)).getD 9 default) (vInt .i64 0) = true := by simp only [hh]
         have hT : Typ .str (v 9) := by simp only [hh]
         first
         | (rw [back_eq hT h9]; rfl)
         | exact absurd (b4g h9) hh.1)
end Go.Proofs.YtamhchkknlbanaaDoor.Be

namespace Go.Sx
open Go.ChangeShapes Go.WideShapes
variable {P : Program}
def b2e (P : Program) (rec : TypeId → Option (List Srt)) : Nat → List Field → Option (List Srt)
 | _, [] => some []
 | off, f :: fs => match rec f.type with
  | some ks => if f.offset = off ∧ P.cellsOf f.type = ks.length then (b2e P rec (off + ks.length) fs).map (ks ++ ·) else none
  | none => none
def srtP (P : Program) : Nat → TypeId → Option (List Srt)
 | 0, _ => none
 | n + 1, t => match P.underlying t with
  | some (.int k) => some [.int k]
  | some .bool => some [.bool]
  | some .string => some [.str]
  | some (.slice e) => match srtP P n e with
   | some ws => if P.cellsOf e = ws.length ∧ 0 < ws.length then some [.sl ws] else none
   | none => none
  | some (.struct fs) => match b2e P (srtP P n) 0 fs.toList with
   | some ks => if P.cellsOf t = ks.length then some ks else none
   | none => none
  | _ => none
def memW (W : World) : Mem := fun k o => W.heap[k]? = some o
def HasS (m : Mem) (ss : List Srt) (cs : List Value) : Prop := cs.length = ss.length ∧ ∃ ds, RSs m ss ds fun j => cs[j]?
theorem a8m {m : Mem} : ∀ {ss ss' : List Srt} {ds ds' : List CD} {cs cs' : List Value}, cs.length = ss.length → RSs m ss ds (fun j => cs[j]?) → RSs m ss' ds' (fun j => cs'[j]?) → RSs m (ss ++ ss') (ds ++ ds') fun j => (cs ++ cs')[j]?
 | [], ss', ds, ds', cs, cs', hl, h, h' => by
  have h : ds = [] := h
  have : cs = [] := List.length_eq_zero_iff.1 hl
  subst h
  subst this
  exact h'
 | s :: ss, ss', ds, ds', [], cs', hl, h, h' => by simp at hl
 | s :: ss, ss', ds, ds', c :: cs, cs', hl, h, h' => by
  obtain ⟨d, r, u, rfl, h1, h2, h3⟩ := h
  refine ⟨d, r ++ ds', u, rfl, h1, h2, ?_⟩
  have h3' : RSs m ss r fun j => cs[j]? := h3.congr fun j _ => by simp
  have := a8m (by simpa using hl) h3' h'
  exact this.congr fun j _ => by simp
theorem HasS.append {m : Mem} {ss ss' : List Srt} {cs cs' : List Value} (h : HasS m ss cs) (h' : HasS m ss' cs') : HasS m (ss ++ ss') (cs ++ cs') := by
 obtain ⟨h1, ds, h2⟩ := h
 obtain ⟨h3, ds', h4⟩ := h'
 exact ⟨by simp [h1, h3], ds ++ ds', a8m h1 h2 h4⟩
theorem a2a {m : Mem} {rec : TypeId → Option (List Srt)} {cs : List Value} : ∀ (fs : List Field) {off : Nat} {ks : List Srt}, b2e P rec off fs = some ks →
  (∀ f ∈ fs, ∀ ks', rec f.type = some ks' → HasS m ks' ((cs.drop f.offset).take (P.cellsOf f.type))) → HasS m ks ((cs.drop off).take ks.length)
 | [], off, ks, h, _ => by cases h; exact ⟨by simp, [], rfl⟩
 | f :: fs, off, ks, h, hr => by
  simp only [b2e] at h
  cases hk : rec f.type with
  | none => rw [hk] at h; cases h
  | some k1 =>
   rw [hk] at h
   simp only at h
   split at h
   ·rename_i hc
    obtain ⟨k2, hk2, rfl⟩ := Option.map_eq_some_iff.1 h
    have h2 := a2a fs hk2 fun g hg => hr g (List.mem_cons_of_mem _ hg)
    have h1 := hr f (List.mem_cons_self ..) k1 hk
    rw [hc.1, hc.2] at h1
    have e : (cs.drop off).take (k1 ++ k2).length = (cs.drop off).take k1.length ++ (cs.drop (off + k1.length)).take k2.length := by
     rw [List.length_append, List.take_add, List.drop_drop]
    rw [e]
    exact h1.append h2
   ·cases h
theorem ay8 {α : Type} {Q : Nat → α → Prop} : ∀ (n : Nat), (∀ i, i < n → ∃ r, Q i r) → ∃ l : List α, l.length = n ∧ ∀ (i : Nat) (r : α), l[i]? = some r → Q i r
 | 0, _ => ⟨[], rfl, fun i r h => by simp at h⟩
 | n + 1, h => by
  obtain ⟨l, h1, h2⟩ := ay8 n fun i hi => h i (by omega)
  obtain ⟨r, hr⟩ := h n (by omega)
  refine ⟨l ++ [r], by simp [h1], fun i r' hi => ?_⟩
  rw [List.getElem?_append] at hi
  split at hi
  ·exact h2 i r' hi
  ·rename_i hlt
   have : i = n := by
    have := (List.getElem?_eq_some_iff.1 hi).1
    simp at this
    omega
   subst this
   rw [h1, Nat.sub_self] at hi
   cases hi
   exact hr
theorem bxt {W : World} {a : Addr} {v : Value} (h : W.cell? a = some v) : ∃ b off arr t fr, a = ⟨b, off, none⟩ ∧ W.heap[b]? = some (.cells arr t fr) := by
 obtain ⟨b, off, sp⟩ := a
 unfold World.cell? at h
 simp only at h
 split at h
 ·rename_i c t fr hc
  cases sp with
  | none => exact ⟨b, off, c, t, fr, rfl, hc⟩
  | some _ => simp at h
 ·cases h
theorem mapM_mem {α β : Type} {g : α → Option β} : ∀ {l : List α} {xs : List β}, l.mapM g = some xs → ∀ a ∈ l, ∃ x ∈ xs, g a = some x
 | [], _, _, a, ha => by cases ha
 | b :: l, xs, h, a, ha => by
  simp only [List.mapM_cons, Option.bind_eq_bind, Option.bind_eq_some_iff, Option.pure_def, Option.some.injEq] at h
  obtain ⟨y, hy, ys, hys, rfl⟩ := h
  rcases List.mem_cons.1 ha with rfl | ha
  ·exact ⟨y, List.mem_cons_self .., hy⟩
  ·obtain ⟨x, hx, hgx⟩ := mapM_mem hys a ha
   exact ⟨x, List.mem_cons_of_mem _ hx, hgx⟩
section
variable {H : Type} {enc : TypeId × Value → H} {W : World} {base : Nat} {held : Bool}
theorem bd3 : ∀ (n : Nat) {t : TypeId} {ks : List Srt}, srtP P n t = some ks → ∀ {fuel : Nat} {cs : List Value} {x : DataW H × List MemPlace}, DataW.trod enc P W base (fun _ => true) held fuel t cs = some x → HasS (memW W) ks cs
 | 0, _, _, h, _, _, _, _ => by cases h
 | n + 1, t, ks, h, fuel, cs, x, hx => by
  simp only [srtP] at h
  split at h
  ·rename_i k hu
   cases h
   cases fuel with
   | zero => simp [DataW.trod] at hx
   | succ m =>
    obtain ⟨i, rfl, rfl, hw⟩ := DataW.trod_int hu hx
    refine ⟨rfl, [.v (.int k i)], _, _, _, rfl, rfl, ⟨i, rfl, rfl, ?_⟩, rfl⟩
    simpa [Lit.wf, ab9] using hw
  ·rename_i hu
   cases h
   cases fuel with
   | zero => simp [DataW.trod] at hx
   | succ m =>
    obtain ⟨b, rfl⟩ : ∃ b, cs = [.bool b] := by
     unfold DataW.trod at hx
     rw [hu] at hx
     split at hx <;> simp_all
    exact ⟨rfl, [.v (.bool b)], _, _, _, rfl, rfl, ⟨b, rfl, rfl⟩, rfl⟩
  ·rename_i hu
   cases h
   cases fuel with
   | zero => simp [DataW.trod] at hx
   | succ m =>
    obtain ⟨s, rfl, hs⟩ : ∃ s : ByteArray, cs = [.string s] ∧ s.size ≤ maxLen := by
     unfold DataW.trod at hx
     rw [hu] at hx
     split at hx <;> simp_all
    exact ⟨rfl, [.v (.string s)], _, _, _, rfl, rfl, ⟨s, rfl, rfl, by unfold maxN; unfold maxLen at hs; omega⟩, rfl⟩
  ·rename_i e hu
   split at h
   ·rename_i ws hws
    split at h
    ·rename_i hc
     cases h
     rcases DataW.trod_slice hu hx with ⟨rfl, _⟩ | ⟨a, len, cap, elems, rest, m, _, rfl, rfl, hb, hl, hm, hlen, hel, hsp, _⟩
     ·exact ⟨rfl, [.sl true []], _, _, _, rfl, rfl, .inl ⟨rfl, rfl⟩, rfl⟩
     ·obtain ⟨hrl, hre⟩ := hsp rfl
      rw [hc.1] at hel hre
      have cell0 : 0 < cap → ∃ v, W.cell? a = some v := by
       intro hcap
       have key : ∀ y, ((W.cells? base (a.add 0) ws.length).bind (DataW.trod enc P W base (fun _ => true) held m e)) = some y → ∃ v, W.cell? a = some v := by
        intro y hy
        obtain ⟨cs', hcs, _⟩ := Option.bind_eq_some_iff.1 hy
        obtain ⟨_, h2, h3⟩ := World.cells?_some hcs
        have h4 := h3 0 hc.2
        rw [List.getElem?_eq_getElem (by omega)] at h4
        have e1 : (a.add 0).add 0 = a := by simp [Addr.add]
        rw [e1] at h4
        exact ⟨_, h4⟩
       by_cases h0 : 0 < len
       ·have := hel 0 h0
        rw [Nat.zero_mul, List.getElem?_eq_getElem (by omega)] at this
        exact key _ this
       ·have h0 : len = 0 := by omega
        have := hre 0 (by omega)
        rw [h0, Nat.zero_add, Nat.zero_mul, List.getElem?_eq_getElem (by omega)] at this
        exact key _ this
      by_cases hcap : cap = 0
      ·subst hcap
       have : len = 0 := by omega
       subst this
       exact ⟨rfl, [.sl false []], _, _, _, rfl, rfl, .inr (.inr ⟨a, rfl, rfl⟩), rfl⟩
      ·obtain ⟨v0, hv0⟩ := cell0 (by omega)
       obtain ⟨b, off, arr, tt, fr, rfl, harr⟩ := bxt hv0
       have hcell : ∀ j, W.cell? ⟨b, j, none⟩ = arr[j]? := fun j => by unfold World.cell?; simp [harr]
       obtain ⟨rows, hr1, hr2⟩ := ay8 (Q := fun i r => RSs (memW W) ws r fun j => arr[off + i * ws.length + j]?) len fun i hi => by
        have h1 := hel i hi
        rw [List.getElem?_eq_getElem (by omega)] at h1
        obtain ⟨cs', hcs, hy⟩ := Option.bind_eq_some_iff.1 h1
        obtain ⟨_, h2, h3⟩ := World.cells?_some hcs
        obtain ⟨_, ds, hds⟩ := bd3 n hws hy
        refine ⟨ds, hds.congr fun j hj => ?_⟩
        have h4 := h3 j hj
        have e1 : (Addr.add (Addr.add ⟨b, off, none⟩ (i * ws.length)) j) = ⟨b, off + i * ws.length + j, none⟩ := by
         rw [Addr.add_lit, Addr.add_lit]
        rw [e1, hcell] at h4
        exact h4
       refine ⟨rfl, [.sl false rows], _, _, _, rfl, rfl, .inr (.inl ⟨rows, b, off, cap, rfl, by rw [hr1], by rw [hr1]; exact hl, hm, fun _ => ⟨arr, tt, fr, harr, hr2⟩⟩), rfl⟩
    ·cases h
   ·cases h
  ·rename_i fs hu
   split at h
   ·rename_i ks' hks
    split at h
    ·rename_i hc
     cases h
     cases fuel with
     | zero => simp [DataW.trod] at hx
     | succ m =>
      have hx' := hx
      unfold DataW.trod at hx'
      rw [hu] at hx'
      have hl : cs.length = P.cellsOf t ∧ ∃ xs, fs.toList.mapM (fun f => DataW.trod enc P W base (fun _ => true) held m f.type ((cs.drop f.offset).take (P.cellsOf f.type))) = some xs := by
       obtain ⟨xs, n', hn, hx2, hl2, hlen, hget⟩ := DataW.trod_struct hu hx
       refine ⟨hl2, ?_⟩
       split at hx' <;> simp_all
       obtain ⟨a, h1, h2, h3⟩ := hx'
       exact ⟨a, h1⟩
      obtain ⟨hl, xs, hp⟩ := hl
      have := a2a (P := P) (cs := cs) fs.toList hks fun f hf k1 hk1 => by
        obtain ⟨y, _, hfy⟩ := mapM_mem hp f hf
        exact bd3 n hk1 hfy
      rw [List.drop_zero, ← hc, ← hl, List.take_length] at this
      exact this
    ·cases h
   ·cases h
  ·cases h
end
end Go.Sx

namespace Go.Sx
open Go.WideShapes Go.ChangeShapes
theorem a3s {W W' : World} (hk : ∀ k, k < W.heap.size → W'.heap[k]? = W.heap[k]?) (hos : W'.os = W.os) (hout : W'.output = W.output) (may : MemPlace → Prop) : W.keptBut W' may :=
 ⟨hos, hout, fun i hi => by rw [hk i hi]; exact (World.keptBut_refl W may).2.2 i hi⟩
theorem a92 {W W' : World} (hk : ∀ k, k < W.heap.size → W'.heap[k]? = W.heap[k]?) {a : Addr} (ha : a.block < W.heap.size) : W'.frozen? a = W.frozen? a := by
 unfold World.frozen?
 rw [hk _ ha]
theorem bng {H : Type} {enc : TypeId × Value → H} {P : Program} {f : Func} {s : ChangeSpec} {apart fresh handsOn again : Bool} {W W' : World} {args : Array Value} {v : Value} {ds gs : List (DataW H)} {before pa pv : List MemPlace}
  (hW : DataW.Whole enc P f.params.toList s.vars apart W args.toList ds gs before)
  (hres : ∀ (b : Nat) (sp : Nat → Bool) (hd : Bool), DataW.TrodAll enc P W' b sp hd f.resultTypes.toList (v.resultList f.resultTypes.size) (s.fn H (ds ++ gs)).results [])
  (hargs : ∀ sp : Nat → Bool, (∀ p ∈ before, sp p.block = true) → DataW.TrodAll enc P W' 0 sp true f.params.toList args.toList (s.fn H (ds ++ gs)).args pa)
  (hvars : ∀ sp : Nat → Bool, (∀ p ∈ before, sp p.block = true) → DataW.TrodVars enc P W' sp s.vars (s.fn H (ds ++ gs)).vars pv)
  (hps : before = pa ++ pv) (hk : ∀ k, k < W.heap.size → W'.heap[k]? = W.heap[k]?) (hos : W'.os = W.os) (hout : W'.output = W.output)
  (hok : ∀ (j : Nat) (t : TypeId) (r : Value), f.resultTypes[j]? = some t → (v.resultList f.resultTypes.size)[j]? = some r → Value.okWide P W' .any 0 t r) :
  s.post enc P f apart fresh handsOn again W args v W' := by
 have hold : ∀ p ∈ before, (fun b => decide (b < W.heap.size)) p.block = true := fun p hp => by simpa using hW.lt p hp
 have hlt : ∀ p ∈ before, p.block < W.heap.size := fun p hp => hW.lt p hp
 refine ⟨ds, gs, before, [], pa, pv, hW, hres _ _ _, hargs _ hold, hvars _ hold, World.keptBut_mono (fun p hp => ⟨hp, ?_⟩) (a3s hk hos hout (· ∈ before)), fun _ => ?_⟩
 ·rw [hps, List.mem_append] at hp
  exact Or.inr hp
 ·obtain ⟨_, _, _, _, _, hz, hn⟩ := hW
  refine ⟨hok, _, _, ([] ++ pa) ++ pv, ⟨[] ++ pa, pv, trodAll_append (hargs _ (fun _ _ => rfl)) (hres _ _ _), hvars _ (fun _ _ => rfl), rfl, ?_, ?_⟩, ?_⟩
  ·intro b off hp
   have hp' : MemPlace.cell b off ∈ before := by rw [hps]; simpa using hp
   rw [a92 hk (show (⟨b, off, none⟩ : Addr).block < W.heap.size from hlt _ hp')]
   exact hz b off hp'
  ·intro ha
   have := hn ha
   rw [hps] at this
   simpa using this
  ·intro p hp _
   rw [hps]
   simpa using hp
section
variable {H : Type} {enc : TypeId × Value → H} {P : Program} {W W' : World} {base : Nat} {sp : Nat → Bool} {held : Bool}
theorem bqn (hk : ∀ k, k < W.heap.size → W'.heap[k]? = W.heap[k]?) : ∀ (n : Nat) (t : TypeId) (cs : List Value) (x : DataW H × List MemPlace), DataW.trod enc P W base sp held n t cs = some x → DataW.trod enc P W' base sp held n t cs = some x
 | 0, _, _, _, h => by simp [DataW.trod] at h
 | n + 1, t, cs, x, h => by
  have hlt := DataW.trod_lt (n + 1) t cs x h
  rw [DataW.trod_step] at h ⊢
  refine DataW.trodStep_carry (fun t cs x hx _ => bqn hk n t cs x hx) h fun p hp => ?_
  have hb := hlt p hp
  cases p with
  | cell b off =>
   show W'.cell? ⟨b, off, none⟩ = W.cell? ⟨b, off, none⟩
   unfold World.cell?
   rw [hk b hb]
  | map b => exact hk b hb
theorem Trod.old (hk : ∀ k, k < W.heap.size → W'.heap[k]? = W.heap[k]?) {t : TypeId} {v : Value} {d : DataW H} {ps : List MemPlace} (h : DataW.Trod enc P W base sp held t v d ps) : DataW.Trod enc P W' base sp held t v d ps := by
 obtain ⟨n, hn⟩ := h
 exact ⟨n, bqn hk n _ _ _ hn⟩
theorem TrodAll.old (hk : ∀ k, k < W.heap.size → W'.heap[k]? = W.heap[k]?) : ∀ {ts : List TypeId} {vs : List Value} {ds : List (DataW H)} {ps : List MemPlace}, DataW.TrodAll enc P W base sp held ts vs ds ps → DataW.TrodAll enc P W' base sp held ts vs ds ps
 | [], [], [], _, h => h
 | _ :: _, _ :: _, _ :: _, _, ⟨p, q, h1, h2, e⟩ => ⟨p, q, Trod.old hk h1, TrodAll.old hk h2, e⟩
end
end Go.Sx

namespace Go.Proofs.YtamhchkknlbanaaDoor
open Go.ChangeShapes Go.WideShapes Go.ChangeAt Go.RowKit Go.Sx
theorem own : ownKnob Tryd.prog.godebug = none := by kernel_rfl
theorem kids : Kids Tryd.prog (· < Tryd.prog.types.size) := kids_rows (by kernel_rfl) (by kernel_rfl)
theorem full : ∀ t e, t < Tryd.prog.types.size → Tryd.prog.underlying t = some (.slice e) → 0 < Tryd.prog.cellsOf e := slices_full_of Tryd.prog (by kernel_rfl)
theorem bq7 {U : Us} {P : Program} {f : FuncId} {args : List Shp} {pre : List X} {us : Array Value} {W : World} (h : abd U P f ⟨args, pre, [(false, [.bool])], [([], [[.lit (.bool true)]])], true⟩) (hcall : ∀ us w, (callFunc f us).run P w = .ok (.enter f us) w) (v : Nat → CD) (htw : TW W) (hpre : @Holds { toUs := U, v := v } pre)
  (hp : @an7 (memW W) args ((bfl 0 args).map (@denL { toUs := U, v := v })) us.toList) : Calls P f us W fun e w' => e = .returned (.bool true) ∧ Keep W w' := by
 have h1 := h { toUs := U, v := v } rfl (memW W) W us htw (fun _ _ h => h) hp hpre
 rw [hcall] at h1
 refine (show Calls P f us W _ from h1).mono fun e w' hh => ?_
 obtain ⟨u, he, hk, o, ho, hx, hres⟩ := hh
 refine ⟨?_, hk⟩
 rw [List.mem_singleton.1 ho] at hres
 obtain ⟨us', hr, hu⟩ := hres
 match us', hr with
 | [u'], hr =>
  have hr : RS (fun k ob => (W.heap.size ≤ k ∧ w'.heap[k]? = some ob ∧ Nice ob) ∨ (true = false ∧ memW W k ob)) .bool (CD.v (.bool true)) u' := hr.1
  obtain ⟨b, h2, h3⟩ := hr
  cases h2
  rw [he, hu, h3]
  rfl
theorem ayu {P : Program} {W : World} {n : String} {g : Nat} {name : String} {x : DataW Unit} (hn : P.globalNamed n = some g)
  (ht : (match (P.globals[g]?).bind (fun y => P.underlying y.type) with | some (.interface _) => true | _ => false) = true) (h : Lib.VarReads P W n (.iface name x)) : ∃ o, W.heap[g]? = some o ∧ isE1 o := by
 obtain ⟨g', t, cs, fuel, p, hg, hty, hvar, hd⟩ := h
 obtain rfl := Option.some.inj (hn.symm.trans hg)
 have hcs : ∃ u v, cs.toList = [Value.iface u v] := by
  cases hgl : P.globals[g]? with
  | none => rw [hgl] at hty; cases hty
  | some y =>
   rw [hgl] at hty ht
   obtain rfl := Option.some.inj hty
   simp only [Option.bind_some] at ht
   cases fuel with
   | zero => simp [DataW.trod] at hd
   | succ k =>
    cases hu : P.underlying y.type with
    | none => rw [hu] at ht; cases ht
    | some d =>
     rw [hu] at ht
     cases d <;> first | cases ht | skip
     unfold DataW.trod at hd
     rw [hu] at hd
     split at hd <;> simp_all
 obtain ⟨u, v, hcs⟩ := hcs
 have hc2 : cs = #[Value.iface u v] := by rw [← Array.toArray_toList (xs := cs), hcs]
 subst hc2
 simp only [World.var?, hn, Option.bind_some] at hvar
 split at hvar
 ·rename_i cs t' fr hh
  cases hvar
  exact ⟨_, hh, u, v, t', fr, rfl⟩
 ·cases hvar
theorem bm4 {P : Program} {W : World} {n : String} {g t e m : Nat} {zs : List Int} (hn : P.globalNamed n = some g) (hty : (P.globals[g]?).map (·.type) = some t)
  (ht : P.underlying t = some (.array m e)) (he : P.underlying e = some (.int .u64)) (hce : P.cellsOf e = 1) (hct : P.cellsOf t = m) (h : Lib.VarReads P W n (Lib.tabData .u64 zs)) : ∃ o, W.heap[g]? = some o ∧ isL1 zs o := by
 obtain ⟨g', t', cs, fuel, p, hg, hty', hvar, hd⟩ := h
 obtain rfl := Option.some.inj (hn.symm.trans hg)
 obtain rfl := Option.some.inj (hty.symm.trans hty')
 have hcs := Lib.cells_of_tab ht he hce hct hd
 have hc2 : cs = (zs.map fun z => Value.int .u64 z).toArray := by rw [← Array.toArray_toList (xs := cs), hcs]
 subst hc2
 simp only [World.var?, hn, Option.bind_some] at hvar
 split at hvar
 ·rename_i cs t' fr hh
  cases hvar
  exact ⟨_, hh, t', fr, rfl⟩
 ·cases hvar
theorem bm1 {P : Program} {W : World} {g : Nat} {t : TypeId} {zero : Array Value} (h : W.ShapedOpen P) (hg : g < P.globals.size)
  (h0 : ((begin P (fun _ _ => 0) default).world.heap[g]?).bind Obj.row? = some (zero, t)) (hz : zero.size = 1)
  (hb : P.buildable t = true) (hc : P.cellTypes P.depth t = some [t]) (hu : P.underlying t = some (.int .i64)) : ∃ o, W.heap[g]? = some o ∧ isI1 o := by
 obtain ⟨cs, hh, hs, hr⟩ := h.1 g zero t hg h0
 obtain ⟨m, hm⟩ := cell_of_shapedOpen_int h hg h0 hz hb hc hu
 have h1 : 0 < cs.size := by omega
 have hcell : W.cell? ⟨g, 0, none⟩ = some cs[0] := by simp [World.cell?, hh, h1]
 rw [hcell] at hm
 have e0 := Option.some.inj hm
 have hc2 : cs = #[Value.int .i64 m] := by
  apply Array.ext
  ·rw [hs, hz]; rfl
  ·intro i hi hj
   have : i = 0 := by simp at hj; omega
   subst this
   exact e0
 subst hc2
 exact ⟨_, hh, m, t, _, rfl⟩
theorem byj {W : World} (h0 : laidMetH Tryd.prog Rows.benchBackRow.laid W) (hs : W.ShapedOpen Tryd.prog) : TW W := by
 have h : laidMet Tryd.prog Rows.benchBackRow.laid W := by rw [← MakeChecks.laidMetH_plain Tryd.prog Rows.benchBackRow.laid W (by kernel_rfl)]; exact h0
 have h1 := Lib.laidMet.reads h (n := "internal/strconv.uint64pow10") (d := Rows.laid_internal_strconv_uint64pow10) (by simp only [Rows.benchBackRow, List.mem_cons, true_or, or_true])
 have h2 := Lib.laidMet.reads h (n := "strconv.ErrSyntax") (d := Rows.laid_strconv_ErrSyntax) (by simp only [Rows.benchBackRow, List.mem_cons, true_or, or_true])
 have h3 := Lib.laidMet.reads h (n := "strconv.ErrRange") (d := Rows.laid_strconv_ErrRange) (by simp only [Rows.benchBackRow, List.mem_cons, true_or, or_true])
 intro x hx
 simp only [byc, List.mem_cons, List.not_mem_nil, or_false] at hx
 rcases hx with rfl | rfl | rfl | rfl
 ·exact bm1 (t := 3) (zero := #[.int .i64 0]) hs (Nat.le_of_ble_eq_true (by kernel_rfl)) (by kernel_rfl) rfl (by kernel_rfl) (by kernel_rfl) Tryd.underlying3
 ·exact bm4 (t := 117) (e := 98) (m := 20) (by kernel_rfl) (by kernel_rfl) Tryd.underlying117 Tryd.underlying98 (by kernel_rfl) (by kernel_rfl) h1
 ·exact ayu (by kernel_rfl) (by kernel_rfl) h2
 ·exact ayu (by kernel_rfl) (by kernel_rfl) h3
theorem a9k {H : Type} {enc : TypeId × Value → H} {a : Assume} {C : Checked} {os : Os} {f : FuncId} {fn : Func} {s : ChangeSpec} {conds : List PathCond} {apart fresh handsOn again : Bool} {X : World → Array Value → Prop}
  (hX : ∀ (w w' : World) (args : Array Value), w.heap = w'.heap → X w args → X w' args)
  (own : ownKnob C.prog.godebug = none) (started : os.Started) (noInit : C.prog.inits.idxOf? f = none) (hfn : C.prog.funcs[f]? = some fn)
  (witness : ∃ (w : World) (tape : Tape) (i : Input), w.os = os ∧ (w.forCall tape i).Shaped C.prog ∧ i.vars = [] ∧ Input.okWide C.prog (w.forCall tape i) .any w.heap.size f i ∧
   ((s.pre enc C.prog fn conds apart (w.forCall tape i).memory i.args ∧ X (w.forCall tape i).memory i.args) ∧ sizedMet enc C.prog fn (OpenSpec.ofChange s) apart (w.forCall tape i).memory i.args) ∧ a.holds C.prog (lone (Frame.enter C.prog f i.args .normal) [] (w.forCall tape i)))
  (contract : ∀ (W : World) (base : Nat) (args : Array Value) (ds gs : List (DataW H)) (before : List MemPlace),
   (∀ (j : Nat) t v, fn.params[j]? = some t → args[j]? = some v → Value.okWide C.prog W .any base t v) →
   DataW.Whole enc C.prog fn.params.toList s.vars apart W args.toList ds gs before →
   conds.all (PathCond.test C.prog ⟨fn.params.toList, ds, s.plain.varTypes C.prog, gs⟩) = true →
   (DataW.weightsEach C.prog (fn.params.toList ++ s.plain.varTypes C.prog) (ds ++ gs)).all (· ≤ reachBytes) = true → X W args →
   W.ShapedOpen C.prog →
   Calls C.prog f args W fun e W' => ∃ v, e = .returned v ∧ s.post enc C.prog fn apart fresh handsOn again W args v W') :
  ReturnsInHanded a C os f .any (fun w args => (s.pre enc C.prog fn conds apart w args ∧ X w args) ∧ sizedMet enc C.prog fn (OpenSpec.ofChange s) apart w args) (s.post enc C.prog fn apart fresh handsOn again) := by
 refine returnsInHanded_of_calls own started noInit witness ?_
 intro w tape i _ hsh _ hok hpre hholds
 obtain ⟨_, _, _, fn', hfn', _, _, _, _, hval⟩ := hok
 have e : fn' = fn := Option.some.inj (hfn'.symm.trans hfn)
 subst e
 obtain ⟨⟨⟨ds, gs, before, hw, hc⟩, hx⟩, hz⟩ := hpre
 have hw' := DataW.Whole.of_heap (w' := w.forCall tape i) (by rfl) hw
 refine (contract (w.forCall tape i) w.heap.size i.args ds gs before hval hw' hc (hz.weights hw) (hX _ _ _ (by rfl) hx) hsh).mono fun e W' ⟨v, he, hp⟩ => ?_
 subst he
 exact ChangeSpec.post_blind hp
theorem bxk {m : Mem} : ∀ {ss : List Srt} {row : List CD} {f : Nat → Option Value}, RSs m ss row f → row.length = ss.length
 | [], row, f, h => by rw [show row = [] from h]; rfl
 | s :: ss, row, f, ⟨c, r, u, e, _, _, h⟩ => by rw [e, List.length_cons, bxk h, List.length_cons]
theorem cav : srtP Tryd.prog 6 25 = some Be.bls := by kernel_rfl
theorem bxb {H : Type} {enc : TypeId × Value → H} {W : World} {v : Value} {d : DataW H} {ps : List MemPlace} (h : DataW.Trod enc Tryd.prog W 0 (fun _ => true) true 25 v d ps) (hv : ∃ cs, v = .agg cs) : ∃ d0 d1 d2 d3 d4 d5 d6 d7 d8 : CD, bqz (memW W) (true, Be.bls) [d0, d1, d2, d3, d4, d5, d6, d7, d8] v ∧
  Typ Be.sI d0 ∧ Typ Be.sI d1 ∧ Typ Be.sI d2 ∧ Typ Be.sI d3 ∧ Typ .bool d4 ∧ Typ (.int .u8) d5 ∧ Typ Be.sI d6 := by
 obtain ⟨fuel, hf⟩ := h
 obtain ⟨cs, rfl⟩ := hv
 obtain ⟨hl, ds, hd⟩ := bd3 6 cav hf
 have hl : cs.toList.length = 9 := hl
 have hlen := bxk hd
 match ds, hlen, hd with
 | [d0, d1, d2, d3, d4, d5, d6, d7, d8], _, hd =>
  refine ⟨d0, d1, d2, d3, d4, d5, d6, d7, d8, ⟨cs, rfl, by simpa using hl, ?_⟩, ?_⟩
  ·have e : (fun j : Nat => cs.toList[j]?) = fun j : Nat => cs[j]? := by
    funext j
    simp
   rw [← e]
   exact hd
  ·obtain ⟨_, _, _, e0, _, t0, hd⟩ := hd
   cases e0
   obtain ⟨_, _, _, e0, _, t1, hd⟩ := hd
   cases e0
   obtain ⟨_, _, _, e0, _, t2, hd⟩ := hd
   cases e0
   obtain ⟨_, _, _, e0, _, t3, hd⟩ := hd
   cases e0
   obtain ⟨_, _, _, e0, _, t4, hd⟩ := hd
   cases e0
   obtain ⟨_, _, _, e0, _, t5, hd⟩ := hd
   cases e0
   obtain ⟨_, _, _, e0, _, t6, hd⟩ := hd
   cases e0
   exact ⟨⟨_, _, t0⟩, ⟨_, _, t1⟩, ⟨_, _, t2⟩, ⟨_, _, t3⟩, ⟨_, _, t4⟩, ⟨_, _, t5⟩, ⟨_, _, t6⟩⟩
theorem b1k {v : Nat → CD} (t0 : Typ Be.sI (v 0)) (t1 : Typ Be.sI (v 1)) (t2 : Typ Be.sI (v 2)) (t3 : Typ Be.sI (v 3)) (t4 : Typ .bool (v 4)) (t5 : Typ (.int .u8) (v 5)) (t6 : Typ Be.sI (v 6)) : @Holds (@Sg.mk Be.U v) Be.preD := by
 unfold Be.preD
 simp only [aax, aaw, ae6, aev, aey]
 exact ⟨t0, t1, t2, t3, t4, t5, t6, trivial⟩
set_option maxRecDepth 100000 in
theorem awo (os : Os) (started : os.Started) (H : Type) (enc : TypeId × Value → H) :
  ReturnsInHanded {} Tryd.checked os 5 .any (fun w args => (Rows.benchBackSpec.pre enc Tryd.prog Tryd.f5 [] false w args ∧ laidMetH Tryd.prog Rows.benchBackRow.laid w) ∧ sizedMet enc Tryd.prog Tryd.f5 (OpenSpec.ofChange Rows.benchBackSpec) false w args)
   (Rows.benchBackSpec.post enc Tryd.prog Tryd.f5 false true false false) := by
 refine a9k (C := Tryd.checked) (X := fun w _ => laidMetH Tryd.prog Rows.benchBackRow.laid w) (fun _ _ _ hh h => h.of_heap hh) own started (by kernel_rfl) Tryd.func5
  (ChangeSpec.witness_shaped (enc := enc) (C := Tryd.checked) (os := os) (X := fun w _ => laidMetH Tryd.prog Rows.benchBackRow.laid w) false (World.laidAll Tryd.prog os Rows.benchBackRow.laid) #[.agg #[.int .i64 0, .int .i64 0, .int .i64 0, .int .i64 0, .bool false, .int .u8 0, .int .i64 0, .slice none 0 0, .slice none 0 0], .string ⟨#[]⟩] 8 (World.laidAll_os _ _ _)
   (World.shaped_of_ZipB (by kernel_rfl) (by kernel_rfl)) (by kernel_rfl) (by kernel_rfl) (by kernel_rfl)
   (by rw [MakeChecks.laidMetH_plain _ _ _ (by kernel_rfl)]; exact laidMet_laidAll _ (by kernel_rfl) (by kernel_rfl))) ?_
 intro W base args ds gs before hval0 hW _ _ hX hsh
 have hval : ∀ (j : Nat) t v, Tryd.f5.params[j]? = some t → args[j]? = some v → Value.okWide Tryd.prog W .any base t v := hval0
 have hW' := hW
 obtain ⟨p, q, hA0, hV, rfl, hfz, hnd⟩ := hW
 have hA : DataW.TrodAll enc Tryd.prog W 0 (fun _ => true) true Tryd.f5.params.toList args.toList ds p := hA0
 have hAk := hA
 rw [Tryd.params5] at hA hval
 obtain ⟨v0, vs0, d0, ds0, p0, q0, hargs, rfl, rfl, h0, r0⟩ := trodAll_cons hA
 obtain ⟨v1, vs1, d1, ds1, p1, q1, rfl, rfl, rfl, h1, r1⟩ := trodAll_cons r0
 obtain ⟨rfl, rfl, rfl⟩ := trodAll_nil r1
 obtain rfl : args = #[v0, v1] := by cases args; simp_all
 obtain ⟨rfl, rfl⟩ := trodVars_none hV
 obtain ⟨cs, hcs, _⟩ := okWide_struct Tryd.underlying25 (hval 0 25 v0 rfl rfl)
 obtain ⟨y0, y1, y2, y3, y4, y5, y6, y7, y8, hp, t0, t1, t2, t3, t4, t5, t6⟩ := bxb h0 ⟨cs, hcs⟩
 obtain ⟨st, rfl, rfl, rfl, hsz⟩ := Go.ChangeMaps.open_string Tryd.underlying9 (hval 1 9 v1 rfl rfl) h1
 have he : RS (memW W) .str (CD.v (.string st)) (.string st) := ⟨st, rfl, rfl, by unfold maxLen at hsz; omega⟩
 clear hA0 hval0
 simp only [List.append_nil] at hW'
 refine (bq7 (us := #[v0, .string st]) (W := W) Be.spc5 at5.call (fun j => [y0, y1, y2, y3, y4, y5, y6, y7, y8, CD.v (.string st)].getD j default) (byj hX hsh) (b1k t0 t1 t2 t3 t4 t5 t6) ⟨hp, he, trivial⟩).mono fun e W' ⟨he, hg⟩ => ?_
 subst he
 exact ⟨_, rfl, bng (pv := []) hW' (fun _ _ _ => (trodAll_cons_mk (shut_bool Tryd.underlying4 _) trodAll_mk0)) (fun sp hsp => TrodAll.old hg.old (DataW.TrodAll.respare kids full (by rw [Tryd.params5]; decide +kernel) hAk (fun p hp => hsp p (by simpa using hp)))) (fun _ _ => rfl) (by simp)
  hg.old hg.os hg.output (ok_one (by kernel_rfl) rfl (okWide_bool_mk Tryd.underlying4 _))⟩
theorem a9g : Rows.BenchBackSaid :=
 OpenClaim.holds_of_wide 5 Tryd.f5 rfl rfl rfl rfl rfl rfl rfl ⟨rfl, rfl, rfl, rfl, rfl⟩ rfl rfl rfl rfl rfl (by kernel_rfl) Tryd.func5 (by kernel_rfl)
  (of_decide_eq_true (by kernel_rfl)) (by unfold Func.isWrapper; first | (rw [if_pos (by decide +kernel)]; kernel_rfl) | (rw [if_neg (by decide +kernel)]; exact ⟨rfl, rfl⟩))
  (fun os started H enc _ => awo os started H enc)
theorem benchBack : Rows.BenchBackCardSaid :=
 Claim7.holds_tied_plain_at .later [] [.data, .data, .data, .data, .sentinel, .sentinel, .pinned] true (true, "369914c67c7c728ebd9ee9220aed351f4a5de5ef306f4d75731c54d34570bea5") true a9g (fun _ h => by cases h) (by kernel_rfl) (fun _ h => by cases h) benchBack_row_tie rfl ⟨rfl, rfl⟩ (by kernel_rfl) rfl
  (fun f fn hf hfn => by
   obtain rfl : f = 5 := Option.some.inj ((show Tryd.prog.funcNamed "exchequer/exchequerlaw32.BenchBack" = some 5 by kernel_rfl).symm.trans hf) |>.symm
   obtain rfl : fn = Tryd.f5 := (Option.some.inj (Tryd.func5.symm.trans hfn)).symm
   exact ⟨by kernel_rfl, fun j t ht => by
    rw [Tryd.params5] at ht
    have hm : t ∈ [25, 9] := by simpa using Array.mem_of_getElem? ht
    have hall : ([25, 9].all fun u => !Tryd.prog.wantsStandIn u) = true := by kernel_rfl
    exact (show Tryd.prog.wantsStandIn t = false by simpa using List.all_eq_true.1 hall t hm)⟩)
  (by kernel_rfl)
#print axioms benchBack
end Go.Proofs.YtamhchkknlbanaaDoor
