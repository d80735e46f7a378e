/-
  What 'BenchTells' hands over and gets back. Conditions: none.
-/
import Derived.Test.YtamhchkknlbanaaDoorBeM
import Derived.Test.YtamhchkknlbanaaDoorBeO
import Derived.Test.YtamhchkknlbanaaDoorSzD
import Derived.ChangeFn
import Derived.WideFn
import Derived.Test.YtamhchkknlbanaaDoorBtN
import Derived.Test.YtamhchkknlbanaaDoorBeK
set_option linter.unusedSectionVars false
set_option linter.unusedVariables false
set_option linter.unusedSimpArgs false
set_option linter.all false
namespace Go.Proofs.YtamhchkknlbanaaDoor.Be
open Go.Sx Go.Proofs
set_option maxHeartbeats 4000000 in
set_option maxRecDepth 100000 in
theorem bz8:∀ z∈r6_v,VCok U z:=by
  unfold r6_v
  repeat' (first | exact ae1 _ | refine ae3 (fun v hh=>?_) ?_)
  all_goals
    simp only [aay,aa5,aax,aa4,aa3,abr,abf,aam,w_wr,b_lt,b_le,b_eq,aaz,abl,b_or,aa1,aaj,aag,abp,abd,aal,aan,aa2,w_mk,aao,aa9,abo,abj,abg,aa6,aa8,abq,aa0,aau,abe,w_l0,w_l1,aaf,aae,aaw,aac,aad,aak,aai,aaq,aar,aas,aap,abn,abm,aat,abh,asz,aw8,bqp,bgg,bls,blv,aiq,aah,asv,blw,aks,ac4,bgh,adp,adq,afo,afp,afx,adu,amw,amx,ahn,acw,amy,am0,ad6,ajo,ait,agk,am1,ag0,ag1,awk,aho,am2,alj,awl,azw,azx,azy,ag2,azz,az0,az1,az2,am3,aex,aom,aon,ba0,blq,bgb,bgc,bgd,ax0,bge,blr,bgf,azh,azi,amt,azj,a7s,av8,azk,azl,av9,azm,amu,awc,azn,a7t,awd,azo,a7u,azp,azq,amv,azr,a7v,awe,azs,a7w,azt,awf,azu,awg,awh,awi,awj,azv,bed] at hh ⊢
    have hT:Typ .str (v 0):=by simp only [hh]
    have hTs:Typ (.sl [.str]) (wsC (v 0)):=by simp only [hh]
    have h22:¬ 2200<((v 0).slen:Int):=by simp [hh]
    have hk:okW (line (v 0))=true:=by simp only [hh]
    try simp only [Int.reduceToNat,tk_0 hTs,tk_k hTs,List.drop_drop,Nat.reduceAdd,br0 hTs,bik,aa7] at hh ⊢
    first
    | exact ws_1 hk hTs
    | exact bof hT h22 _
    | (repeat (obtain⟨_,hh⟩:=hh)
       omega)
end Go.Proofs.YtamhchkknlbanaaDoor.Be

namespace Go.Proofs.YtamhchkknlbanaaDoor.Be
open Go.Sx Go.Proofs
set_option maxHeartbeats 4000000 in
set_option maxRecDepth 100000 in
theorem bz7:∀ o∈r6_o,∀ σ:Sg,σ.toUs=U→@Holds σ o.1→∃ q∈a4v.outs,@Holds σ q.1∧q.2.map (@denL σ)=o.2.map (@denL σ):=by
  intro o ho σ hU hh
  obtain⟨v⟩:=σ
  cases hU
  simp only [r6_o,List.mem_cons,List.not_mem_nil,or_false] at ho
  repeat' (first | (rcases ho with rfl | ho) | subst ho)
  all_goals
    refine⟨_,List.mem_cons_self ..,by simp only [aay,aa5,aax,aa4,aa3,abr,abf,aam,w_wr,b_lt,b_le,b_eq,aaz,abl,b_or,aa1,aaj,aag,abp,abd,aal,aan,aa2,w_mk,aao,aa9,abo,abj,abg,aa6,aa8,abq,aa0,aau,abe,w_l0,w_l1,aaf,aae,aaw,aac,aad,aak,aai,aaq,aar,aas,aap,abn,abm,aat,abh],?_⟩
    simp only [aay,aa5,aax,aa4,aa3,abr,abf,aam,w_wr,b_lt,b_le,b_eq,aaz,abl,b_or,aa1,aaj,aag,abp,abd,aal,aan,aa2,w_mk,aao,aa9,abo,abj,abg,aa6,aa8,abq,aa0,aau,abe,w_l0,w_l1,aaf,aae,aaw,aac,aad,aak,aai,aaq,aar,aas,aap,abn,abm,aat,abh,asz,aw8,a8v,a9e,bbh,aw9,a4d,a4e,aw7,bqp,bgg,bls,blv,aiq,aah,asv,blw,aks,ac4,bgh,adp,adq,afo,afp,afx,adu,amw,amx,ahn,acw,amy,am0,ad6,ajo,ait,agk,am1,ag0,ag1,awk,aho,am2,alj,awl,azw,azx,azy,ag2,azz,az0,az1,az2,am3,aex,aom,aon,ba0,blq,bgb,bgc,bgd,ax0,bge,blr,bgf,azh,azi,amt,azj,a7s,av8,azk,azl,av9,azm,amu,awc,azn,a7t,awd,azo,a7u,azp,azq,amv,azr,a7v,awe,azs,a7w,azt,awf,azu,awg,awh,awi,awj,azv,bed] at hh
    simp only [List.map_cons,List.map_nil,aay,aa5,aax,aa4,aa3,abr,abf,aam,w_wr,b_lt,b_le,b_eq,aaz,abl,b_or,aa1,aaj,aag,abp,abd,aal,aan,aa2,w_mk,aao,aa9,abo,abj,abg,aa6,aa8,abq,aa0,aau,abe,w_l0,w_l1,aaf,aae,aaw,aac,aad,aak,aai,aaq,aar,aas,aap,abn,abm,aat,abh,w_lt,w_le,w_eq,ao0,as0,w_or,akp,aiw,ao1,asz,aw8,a8v,a9e,aw9,a4d,a4e,aw7,a8w,a8x,a8y,a8z,a81,a88,a9a,a9b,a9c,a9d]
    have hT:Typ .str (v 0):=by simp only [hh]
    first
    | (have hx:=hh.1
       rw [bzl hx hT];rfl)
    | (have hx:=hh.2.1
       rw [buv hh.2.2.2.1 hT hx];rfl)
    | (have hk:okW (line (v 0))=true:=by simp only [hh]
       have hTs:Typ (.sl [.str]) (wsC (v 0)):=by simp only [hh]
       have h22:¬ 2200<((v 0).slen:Int):=by simp [hh]
       try simp only [Int.reduceToNat,tk_0 hTs,tk_k hTs,List.drop_drop,Nat.reduceAdd,br0 hTs,a92,bpq,bik,aa7] at hh
       try simp only [Int.reduceToNat,tk_0 hTs,tk_k hTs,List.drop_drop,Nat.reduceAdd,a92]
       have hh2:=hh
       repeat (obtain⟨_,hh2⟩:=hh2)
       first
       | (have hp:=by first | exact bu6 (by assumption) h22 hT hk | exact bu5 (by assumption) h22 hT hk | exact bu0 (by assumption) h22 hT hk | exact b2e (by assumption) h22 hT hk | exact buz (by assumption) h22 hT hk | exact bk7 (by assumption) h22 hT hk | exact bu3 (by assumption) h22 hT hk | exact bzo (by assumption) h22 hT hk | exact bu2 (by assumption) h22 hT hk | exact bzn (by assumption) h22 hT hk | exact bqg (by assumption) h22 hT hk | exact bk8 (by assumption) h22 hT hk | exact bqh (by assumption) h22 hT hk | exact bu1 (by assumption) h22 hT hk | exact bu7 (by assumption) h22 hT hk
          rw [hp]
          clear hp
          first
          | (rw [kB 1 (by decide) (by decide) (by assumption)];rfl)
          | (rw [kB 2 (by decide) (by decide) (by assumption)];rfl)
          | (rw [kB 3 (by decide) (by decide) (by assumption)];rfl)
          | (rw [kB 4 (by decide) (by decide) (by assumption)];rfl)
          | (rw [kA (by omega)];rfl)
          | (rw [kC (by omega)];rfl)
          | (rw [kC0 (by omega)];rfl)
          | (have hm:255<aip (gw (wds (v 0)) 4):=by assumption
             by_cases hn:nOk (gw (wds (v 0)) 4)=true
             · rw [kM (by unfold nV;rw [← ao5 hn];exact hm)];rfl
             · rw [kB 4 (by decide) (by decide) hn];rfl)
          | (have hn:nOk (gw (wds (v 0)) 4)=true:=by assumption
             have hm:numV (gw (wds (v 0)) 4)≤255:=by rw [← ao5 hn];omega
             rw [kD (by omega) (by simp [nOks,hh]) (fun h13=>by have:=h13.2;unfold nV at this;omega)]
             simp [axr,nV,ao5,hh,aa7,abx]
             rw [bwz (bui _) hm])
          | (rw [kD (by omega) (by simp [nOks,hh]) (fun h13=>absurd h13.1 (by decide))]
             simp [axr,nV,ao5,hh,aa7,abx])
          | (have hy:(hexB (gw (wds (v 0)) 3)&&decide ((gw (wds (v 0)) 3).length % 2=0))=true:=by assumption
             have hx:a5x (gw (wds (v 0)) 3)=true:=by rw [← byn hk (by omega)];exact hy
             rw [bo7 hx,kE1 (by omega) (by simp [nOks,hh])]
             simp [axr,nV,ao5,hh,aa7,abx,hx])
          | (have hy:¬ (hexB (gw (wds (v 0)) 3)&&decide ((gw (wds (v 0)) 3).length % 2=0))=true:=by assumption
             have hx:¬ a5x (gw (wds (v 0)) 3)=true:=by rw [← byn hk (by omega)];exact hy
             have e:=kE1 (W:=wds (v 0)) (k:=8) (m:=2) (is:=false) (by omega) (by simp [nOks,hh])
             simp only [Int.reduceToNat,Nat.reduceAdd] at e
             rw [e,if_neg hx];rfl)
          | (have hy:ad1 (gw (wds (v 0)) 3)=true:=by assumption
             have hx:bfl (gw (wds (v 0)) 3)=true:=by rw [← bxm hk (by omega)];exact hy
             have e:=kE2 (W:=wds (v 0)) (k:=10) (m:=2) (is:=false) (by omega) (by simp [nOks,hh])
             simp only [Int.reduceToNat,Nat.reduceAdd] at e
             rw [e,if_pos hx]
             simp [axr,nV,ao5,hh,aa7,abx])
          | (have hy:¬ ad1 (gw (wds (v 0)) 3)=true:=by assumption
             have hx:¬ bfl (gw (wds (v 0)) 3)=true:=by rw [← bxm hk (by omega)];exact hy
             have e:=kE2 (W:=wds (v 0)) (k:=10) (m:=2) (is:=false) (by omega) (by simp [nOks,hh])
             simp only [Int.reduceToNat,Nat.reduceAdd] at e
             rw [e,if_neg hx];rfl))
       | (rw [bu4 (by assumption) (by assumption) (by assumption) (by assumption) (by assumption) (by assumption) (by assumption) (by assumption) (by assumption) (by assumption) (by assumption) (by assumption) (by assumption) (by assumption) (by assumption) (by assumption) hTs h22 hT hk];rfl))
end Go.Proofs.YtamhchkknlbanaaDoor.Be

namespace Go.Proofs.YtamhchkknlbanaaDoor.Be
open Go.Sx Go.Proofs
set_option maxRecDepth 100000 in
theorem spc6:abk U Tryd.prog 6 a4v:=by
 exact afr (P:=Tryd.prog) (U:=U) (f:=6) (fn:=Tryd.f6) (c:=acv Tryd.f6) (S:=a4v) (v:=r6_v) (outs:=r6_o) (hs:=hs6) (cx:=⟨ora6,orvK Tryd.prog ora6 10 20 tb6 4,Tb.ent tb6,10,20,none,Go.Sx.keyOf 6⟩) mixed ⟨bk3,anb mixed bk3 (TbOK.of byj) 4,(TbOK.of byj).ent⟩ rfl (ag3 (by kernel_rfl)) at6.at' at6.body at6.call at6.flow b2h bz8 bz7
end Go.Proofs.YtamhchkknlbanaaDoor.Be

namespace Go.Proofs.YtamhchkknlbanaaDoor.Be
open Go.Sx Go.Proofs
theorem bon{d:CD}(h:Typ .bool d):eqC d d=true:=by
 obtain⟨m,u,b,rfl,_⟩:=h
 cases b<;>rfl
end Go.Proofs.YtamhchkknlbanaaDoor.Be

namespace Go.Proofs.YtamhchkknlbanaaDoor.Be
open Go.Sx Go.Proofs
noncomputable def T16:List (FuncId×Fsp):=[(6,a4v)]
set_option maxRecDepth 100000 in
theorem hT16:an0 U Tryd.prog T16:=.cons spc6 .nil
noncomputable def lp39:Lp:=⟨[(.slot 5,.int .i64)],[0,1,4],[],fun F H k=>[.ap .le [zI,.var k],.ap .le [.var k,.ap .len [.ap (.usr 248) [.var 0]]],.ap .le [.ap .len [.ap (.usr 248) [.var 0]],.ap .len [.var 9]]],fun F H k=>.ap (.sub .i64) [.ap .len [.ap (.usr 248) [.var 0]],.var k]⟩
noncomputable def btz:List (FuncId×Inl):=[(38,⟨Tryd.f38,noH⟩),(39,⟨Tryd.f39,⟨afu [(4,lp39)],hintA [(3,fun F H=>[.ap .le [.ap .len [.ap (.usr 248) [.var 0]],.ap .len [.var 9]]])]⟩⟩)]
set_option maxRecDepth 100000 in
theorem byi:amb U Tryd.prog btz:=.cons (.of at38 (by kernel_rfl)) (.cons (.of at39 (by kernel_rfl)) .nil)
noncomputable def SPs:Fsp:=⟨[(false,[.str]),(true,ajr)],[.ap .le [.ap .slen [.var 0],I 2500],.ap .eq [.ap (.usr 249) [.var 0],I 0],.ap .eq [.ap (.usr 240) [.var 0],.var 1],.ap .eq [.ap (.usr 241) [.var 0],.var 2],.ap .eq [.ap (.usr 242) [.var 0],.var 3],.ap .eq [.ap (.usr 243) [.var 0],.var 4],.ap .eq [.ap (.usr 244) [.var 0],.var 5],.ap .eq [.ap (.usr 245) [.var 0],.var 6],.ap .eq [.ap (.usr 246) [.var 0],.var 7],.ap .same [.ap (.usr 247) [.var 0],.var 8],.ap .same [.ap (.usr 248) [.var 0],.var 9]],[(false,[.bool])],[([],[[.lit (.bool true)]])],true⟩
abbrev ar3:X:=(.ap .len [(.ap (.usr 248) [(.var 0)])])
abbrev bdx:X:=(.ap .eq [(.ap .str [(.ap (.usr 247) [(.var 0)])]),(.ap .str [(.var 8)])])
abbrev bdw:List X:=[(.ap .le [mnX,(.ap (.usr 240) [(.var 0)])]),(.ap .le [(.ap (.usr 240) [(.var 0)]),mxX]),(.ap .le [mnX,(.ap (.usr 241) [(.var 0)])]),(.ap .le [(.ap (.usr 241) [(.var 0)]),mxX]),(.ap .le [mnX,(.ap (.usr 242) [(.var 0)])]),(.ap .le [(.ap (.usr 242) [(.var 0)]),mxX]),(.ap .le [mnX,(.ap (.usr 243) [(.var 0)])]),(.ap .le [(.ap (.usr 243) [(.var 0)]),mxX]),(.ap .le [(.lit (.int .u8 0)),(.ap (.usr 245) [(.var 0)])]),(.ap .le [(.ap (.usr 245) [(.var 0)]),(.lit (.int .u8 255))]),(.ap .le [mnX,(.ap (.usr 246) [(.var 0)])]),(.ap .le [(.ap (.usr 246) [(.var 0)]),mxX]),(.ap (.typ (.sl [(.int .u8)])) [(.ap (.usr 247) [(.var 0)])]),(.ap (.typ (.sl [.bool])) [(.ap (.usr 248) [(.var 0)])]),(.ap .le [mnX,(.ap (.usr 249) [(.var 0)])]),(.ap .le [(.ap (.usr 249) [(.var 0)]),mxX]),(.ap (.typ .str) [(.var 0)]),(.ap .le [mnX,(.var 1)]),(.ap .le [(.var 1),mxX]),(.ap .le [mnX,(.var 2)]),(.ap .le [(.var 2),mxX]),(.ap .le [mnX,(.var 3)]),(.ap .le [(.var 3),mxX]),(.ap .le [mnX,(.var 4)]),(.ap .le [(.var 4),mxX]),(.ap .le [(.lit (.int .u8 0)),(.var 6)]),(.ap .le [(.var 6),(.lit (.int .u8 255))]),(.ap .le [mnX,(.var 7)]),(.ap .le [(.var 7),mxX]),(.ap (.typ (.sl [(.int .u8)])) [(.var 8)]),(.ap (.typ (.sl [.bool])) [(.var 9)]),(.ap .le [(.ap .slen [(.var 0)]),(I 2500)]),(.ap .eq [(.ap (.usr 249) [(.var 0)]),(I 0)]),(.ap .eq [(.ap (.usr 240) [(.var 0)]),(.var 1)]),(.ap .eq [(.ap (.usr 241) [(.var 0)]),(.var 2)]),(.ap .eq [(.ap (.usr 242) [(.var 0)]),(.var 3)]),(.ap .eq [(.ap (.usr 243) [(.var 0)]),(.var 4)]),(.ap .eq [(.ap (.usr 244) [(.var 0)]),(.var 5)]),(.ap .eq [(.ap (.usr 245) [(.var 0)]),(.var 6)]),(.ap .eq [(.ap (.usr 246) [(.var 0)]),(.var 7)]),(.ap .same [(.ap (.usr 247) [(.var 0)]),(.var 8)]),(.ap .same [(.ap (.usr 248) [(.var 0)]),(.var 9)])]
abbrev blo:List X:=(.ap .le [(I 0),(.var 10)])::(.ap .le [(.var 10),ar3])::(.ap .le [ar3,(.ap .len [(.var 9)])])::(.ap .le [ar3,(.ap .len [(.var 9)])])::(.ap .eq [ar3,(.ap .len [(.var 9)])])::bdx::bdw
set_option maxRecDepth 100000 in
def bvh:List VC:=[]
set_option maxRecDepth 100000 in
def bvg:List (List X×List (List X)):=[(((.ap .not [(.ap .eq [ar3,(.ap .len [(.var 9)])])])::bdx::bdw),[[(.lit (.bool false))]]),
 (((.ap .not [(.ap .eq [(.ap (.cell 0) [(.ap (.usr 248) [(.var 0)]),(.var 10)]),(.ap (.cell 0) [(.var 9),(.var 10)])])])::(.ap .lt [(.var 10),ar3])::blo),[[(.lit (.bool false))]]),
 (((.ap .not [(.ap .lt [(.var 10),ar3])])::blo),[[(.lit (.bool true))]]),
 (((.ap .not [bdx])::bdw),[[(.lit (.bool false))]])]
set_option maxRecDepth 100000 in
theorem bzs:runV Tryd.prog (cxOf Tryd.prog (ahj (tab T16)) 10 20 ⟨apf btz,noY,U.lc⟩ 3 16) noH Tryd.f16 (acv Tryd.f16) SPs=some (bvh,bvg):=by kernel_rfl
set_option maxRecDepth 100000 in
theorem b2p:abk U Tryd.prog 16 SPs:=by
 refine abk.ofV (P:=Tryd.prog) (U:=U) (T:=(tab T16)) (l:=btz) (y:=noY) (dp:=3) (f:=16) (fn:=Tryd.f16) (fuel:=10) (fk:=20) (hs:=noH) (S:=SPs) (v:=bvh) (outs:=bvg) mixed hT16 byi at16 (ag3 (by kernel_rfl)) bzs ?_ ?_
 ·unfold bvh
  exact ae1 _
 ·intro o ho σ hU hh
  obtain⟨v⟩:=σ
  cases hU
  simp only [bvg,List.mem_cons,List.not_mem_nil,or_false] at ho
  rcases ho with rfl | rfl | rfl | rfl
  all_goals
   refine⟨_,List.mem_cons_self ..,by simp only [aay,aa5,aax,aa4,aa3,abr,abf,aam,w_wr,b_lt,b_le,b_eq,aaz,abl,b_or,aa1,aaj,aag,abp,abd,aal,aan,aa2,w_mk,aao,aa9,abo,abj,abg,aa6,aa8,abq,aa0,aau,abe,w_l0,w_l1,aaf,aae,aaw,aac,aad,aak,aai,aaq,aar,aas,aap,abn,abm,aat,abh],?_⟩
   simp only [aay,aa5,aax,aa4,aa3,abr,abf,aam,w_wr,b_lt,b_le,b_eq,aaz,abl,b_or,aa1,aaj,aag,abp,abd,aal,aan,aa2,w_mk,aao,aa9,abo,abj,abg,aa6,aa8,abq,aa0,aau,abe,w_l0,w_l1,aaf,aae,aaw,aac,aad,aak,aai,aaq,aar,aas,aap,abn,abm,aat,abh,w_eq,bdw,ar3,bdx,blo] at hh
   have h7:@Us.u U 247 [v 0]=v 8:=by simp only [hh]
   have h8:@Us.u U 248 [v 0]=v 9:=by simp only [hh]
  ·exact absurd (by rw [h8];exact bik.mpr rfl) hh.1
  ·have hT:Typ (.sl [.bool]) (v 9):=by simp only [hh]
   have h0:0≤(v 10).iv:=by simp only [hh]
   have hi:(v 10).iv<((v 9).len:Int):=by rw [← h8];exact hh.2.1
   refine absurd ?_ hh.1
   rw [h8]
   exact bon (hT.cell h0 hi rfl)
  ·rfl
  ·refine absurd ?_ hh.1
   rw [h7]
   exact arl.mpr rfl
noncomputable def SRf:Fsp:=⟨[(false,[.str]),(false,[sI])],[.ap .le [.ap .slen [.var 0],I 2500],.ap .eq [.ap (.usr 249) [.var 0],.var 1]],[(false,[.bool])],[([],[[.lit (.bool true)]])],true⟩
set_option maxRecDepth 100000 in
def bvu:List VC:=[]
set_option maxRecDepth 100000 in
def bvt:List (List X×List (List X)):=[([(.ap .le [mnX,(.ap (.usr 240) [(.var 0)])]),(.ap .le [(.ap (.usr 240) [(.var 0)]),mxX]),(.ap .le [mnX,(.ap (.usr 241) [(.var 0)])]),(.ap .le [(.ap (.usr 241) [(.var 0)]),mxX]),(.ap .le [mnX,(.ap (.usr 242) [(.var 0)])]),(.ap .le [(.ap (.usr 242) [(.var 0)]),mxX]),(.ap .le [mnX,(.ap (.usr 243) [(.var 0)])]),(.ap .le [(.ap (.usr 243) [(.var 0)]),mxX]),(.ap .le [(.lit (.int .u8 0)),(.ap (.usr 245) [(.var 0)])]),(.ap .le [(.ap (.usr 245) [(.var 0)]),(.lit (.int .u8 255))]),(.ap .le [mnX,(.ap (.usr 246) [(.var 0)])]),(.ap .le [(.ap (.usr 246) [(.var 0)]),mxX]),(.ap (.typ (.sl [(.int .u8)])) [(.ap (.usr 247) [(.var 0)])]),(.ap (.typ (.sl [.bool])) [(.ap (.usr 248) [(.var 0)])]),(.ap .le [mnX,(.ap (.usr 249) [(.var 0)])]),(.ap .le [(.ap (.usr 249) [(.var 0)]),mxX]),(.ap (.typ .str) [(.var 0)]),(.ap .le [mnX,(.var 1)]),(.ap .le [(.var 1),mxX]),(.ap .le [(.ap .slen [(.var 0)]),(I 2500)]),(.ap .eq [(.ap (.usr 249) [(.var 0)]),(.var 1)])],[[(.ap .eq [(.ap (.usr 249) [(.var 0)]),(.var 1)])]])]
set_option maxRecDepth 100000 in
theorem bzy:runS Tryd.prog (ahj (tab T16)) 10 20 noH Tryd.f28 (acv Tryd.f28) SRf=some (bvu,bvt):=by kernel_rfl
set_option maxRecDepth 100000 in
theorem b2v:abk U Tryd.prog 28 SRf:=by
  refine abk.of (P:=Tryd.prog) (U:=U) (T:=(tab T16)) (f:=28) (fn:=Tryd.f28) (fuel:=10) (fk:=20) (hs:=noH) (S:=SRf) (v:=bvu) (outs:=bvt) mixed hT16 at28 bzy ?_ ?_
  · unfold bvu
    exact ae1 _
  · intro o ho σ hU hh
    obtain⟨v⟩:=σ
    cases hU
    simp only [bvt,List.mem_cons,List.not_mem_nil,or_false] at ho
    subst ho
    refine⟨_,List.mem_cons_self ..,by simp only [aay,aa5,aax,aa4,aa3,abr,abf,aam,w_wr,b_lt,b_le,b_eq,aaz,abl,b_or,aa1,aaj,aag,abp,abd,aal,aan,aa2,w_mk,aao,aa9,abo,abj,abg,aa6,aa8,abq,aa0,aau,abe,w_l0,w_l1,aaf,aae,aaw,aac,aad,aak,aai,aaq,aar,aas,aap,abn,abm,aat,abh],?_⟩
    simp only [aay,aa5,aax,aa4,aa3,abr,abf,aam,w_wr,b_lt,b_le,b_eq,aaz,abl,b_or,aa1,aaj,aag,abp,abd,aal,aan,aa2,w_mk,aao,aa9,abo,abj,abg,aa6,aa8,abq,aa0,aau,abe,w_l0,w_l1,aaf,aae,aaw,aac,aad,aak,aai,aaq,aar,aas,aap,abn,abm,aat,abh,w_eq] at hh
    first
    | rfl
    | (have:eqC (@Us.u U 249 [v 0]) (v 1)=true:=by simp only [hh]
       simp only [List.map_cons,List.map_nil,aay,aa5,aax,aa4,aa3,abr,abf,aam,w_wr,b_lt,b_le,b_eq,aaz,abl,b_or,aa1,aaj,aag,abp,abd,aal,aan,aa2,w_mk,aao,aa9,abo,abj,abg,aa6,aa8,abq,aa0,aau,abe,w_l0,w_l1,aaf,aae,aaw,aac,aad,aak,aai,aaq,aar,aas,aap,abn,abm,aat,abh,w_lt,w_le,w_eq,ao0,as0,w_or,akp,aiw,ao1,this]
       rfl)
abbrev xCut:X:=(.lit (.string ⟨⟨[99,117,116,32,48,32,49]⟩⟩))
abbrev axl:X:=(.lit (.string ⟨⟨[106,111,105,110,32,48,32,49]⟩⟩))
abbrev b0t:X:=(.lit (.string ⟨⟨[116,105,99,107]⟩⟩))
abbrev xX:X:=(.lit (.string ⟨⟨[120]⟩⟩))
theorem pCut:ab0 (.v (.string ⟨⟨[99,117,116,32,48,32,49]⟩⟩))=[vInt .i64 7,vInt .i64 0,vInt .i64 0,vInt .i64 1,aav true,vInt .u8 0,vInt .i64 0,CD.sl true [],CD.sl true [],vInt .i64 0]:=by
 unfold ab0 line
 rw [by_v]
 kernel_rfl
theorem bzk:((CD.v (.string ⟨⟨[99,117,116,32,48,32,49]⟩⟩)).slen:Int)≤2500:=by
 rw [awy rfl (by show 7≤maxN;unfold maxN;omega)]
 show((7:Nat):Int)≤2500
 omega
theorem b2b:ab0 (.v (.string ⟨⟨[106,111,105,110,32,48,32,49]⟩⟩))=[vInt .i64 7,vInt .i64 0,vInt .i64 0,vInt .i64 1,aav false,vInt .u8 0,vInt .i64 0,CD.sl true [],CD.sl true [],vInt .i64 0]:=by
 unfold ab0 line
 rw [by_v]
 kernel_rfl
theorem bus:((CD.v (.string ⟨⟨[106,111,105,110,32,48,32,49]⟩⟩)).slen:Int)≤2500:=by
 rw [awy rfl (by show 8≤maxN;unfold maxN;omega)]
 show((8:Nat):Int)≤2500
 omega
theorem b2c:ab0 (.v (.string ⟨⟨[116,105,99,107]⟩⟩))=aiy 2:=by
 unfold ab0 line
 rw [by_v]
 kernel_rfl
theorem buu:((CD.v (.string ⟨⟨[116,105,99,107]⟩⟩)).slen:Int)≤2500:=by
 rw [awy rfl (by show 4≤maxN;unfold maxN;omega)]
 show((4:Nat):Int)≤2500
 omega
theorem pX:ab0 (.v (.string ⟨⟨[120]⟩⟩))=aiy 6:=by
 unfold ab0 line
 rw [by_v]
 kernel_rfl
theorem pX_l:((CD.v (.string ⟨⟨[120]⟩⟩)).slen:Int)≤2500:=by
 rw [awy rfl (by show 1≤maxN;unfold maxN;omega)]
 show((1:Nat):Int)≤2500
 omega
noncomputable def T9:List (FuncId×Fsp):=[(16,SPs),(28,SRf)]
set_option maxRecDepth 100000 in
theorem hT9:an0 U Tryd.prog T9:=.cons b2p (.cons b2v .nil)
noncomputable def SAwk:Fsp:=⟨[],[],[(false,[.bool])],[([],[[.lit (.bool true)]])],true⟩
noncomputable def hs9:Hs:=⟨afu [],hintA [(1,fun F H=>[.ap .le [.ap .slen [xCut],I 2500],.ap .eq [.ap (.usr 249) [xCut],I 0],.ap .eq [.ap (.usr 240) [xCut],I 7],.ap .eq [.ap (.usr 241) [xCut],I 0],.ap .eq [.ap (.usr 242) [xCut],I 0],.ap .eq [.ap (.usr 243) [xCut],I 1],.ap .eq [.ap (.usr 244) [xCut],.lit (.bool true)],.ap .eq [.ap (.usr 245) [xCut],.lit (.int .u8 0)],.ap .eq [.ap (.usr 246) [xCut],I 0],.ap .same [.ap (.usr 247) [xCut],.ap (.nil true) []],.ap .same [.ap (.usr 248) [xCut],.ap (.nil true) []],.ap .le [.ap .slen [axl],I 2500],.ap .eq [.ap (.usr 249) [axl],I 0],.ap .eq [.ap (.usr 240) [axl],I 7],.ap .eq [.ap (.usr 241) [axl],I 0],.ap .eq [.ap (.usr 242) [axl],I 0],.ap .eq [.ap (.usr 243) [axl],I 1],.ap .eq [.ap (.usr 244) [axl],.lit (.bool false)],.ap .eq [.ap (.usr 245) [axl],.lit (.int .u8 0)],.ap .eq [.ap (.usr 246) [axl],I 0],.ap .same [.ap (.usr 247) [axl],.ap (.nil true) []],.ap .same [.ap (.usr 248) [axl],.ap (.nil true) []],.ap .le [.ap .slen [b0t],I 2500],.ap .eq [.ap (.usr 249) [b0t],I 2],.ap .le [.ap .slen [xX],I 2500],.ap .eq [.ap (.usr 249) [xX],I 6]])]⟩
set_option maxRecDepth 100000 in
def r9_v:List VC:=[([],(.ap .le [(.ap .slen [(.lit (.string (.mk (.mk [99,117,116,32,48,32,49]))))]),(I 2500)])),
 ([],(.ap .eq [(.ap (.usr 249) [(.lit (.string (.mk (.mk [99,117,116,32,48,32,49]))))]),(I 0)])),
 ([],(.ap .eq [(.ap (.usr 240) [(.lit (.string (.mk (.mk [99,117,116,32,48,32,49]))))]),(I 7)])),
 ([],(.ap .eq [(.ap (.usr 241) [(.lit (.string (.mk (.mk [99,117,116,32,48,32,49]))))]),(I 0)])),
 ([],(.ap .eq [(.ap (.usr 242) [(.lit (.string (.mk (.mk [99,117,116,32,48,32,49]))))]),(I 0)])),
 ([],(.ap .eq [(.ap (.usr 243) [(.lit (.string (.mk (.mk [99,117,116,32,48,32,49]))))]),(I 1)])),
 ([],(.ap .eq [(.ap (.usr 244) [(.lit (.string (.mk (.mk [99,117,116,32,48,32,49]))))]),(.lit (.bool true))])),
 ([],(.ap .eq [(.ap (.usr 245) [(.lit (.string (.mk (.mk [99,117,116,32,48,32,49]))))]),(.lit (.int .u8 0))])),
 ([],(.ap .eq [(.ap (.usr 246) [(.lit (.string (.mk (.mk [99,117,116,32,48,32,49]))))]),(I 0)])),
 ([],(.ap .same [(.ap (.usr 247) [(.lit (.string (.mk (.mk [99,117,116,32,48,32,49]))))]),(.ap (.nil true) [])])),
 ([],(.ap .same [(.ap (.usr 248) [(.lit (.string (.mk (.mk [99,117,116,32,48,32,49]))))]),(.ap (.nil true) [])])),
 ([],(.ap .le [(.ap .slen [(.lit (.string (.mk (.mk [106,111,105,110,32,48,32,49]))))]),(I 2500)])),
 ([],(.ap .eq [(.ap (.usr 249) [(.lit (.string (.mk (.mk [106,111,105,110,32,48,32,49]))))]),(I 0)])),
 ([],(.ap .eq [(.ap (.usr 240) [(.lit (.string (.mk (.mk [106,111,105,110,32,48,32,49]))))]),(I 7)])),
 ([],(.ap .eq [(.ap (.usr 241) [(.lit (.string (.mk (.mk [106,111,105,110,32,48,32,49]))))]),(I 0)])),
 ([],(.ap .eq [(.ap (.usr 242) [(.lit (.string (.mk (.mk [106,111,105,110,32,48,32,49]))))]),(I 0)])),
 ([],(.ap .eq [(.ap (.usr 243) [(.lit (.string (.mk (.mk [106,111,105,110,32,48,32,49]))))]),(I 1)])),
 ([],(.ap .eq [(.ap (.usr 244) [(.lit (.string (.mk (.mk [106,111,105,110,32,48,32,49]))))]),(.lit (.bool false))])),
 ([],(.ap .eq [(.ap (.usr 245) [(.lit (.string (.mk (.mk [106,111,105,110,32,48,32,49]))))]),(.lit (.int .u8 0))])),
 ([],(.ap .eq [(.ap (.usr 246) [(.lit (.string (.mk (.mk [106,111,105,110,32,48,32,49]))))]),(I 0)])),
 ([],(.ap .same [(.ap (.usr 247) [(.lit (.string (.mk (.mk [106,111,105,110,32,48,32,49]))))]),(.ap (.nil true) [])])),
 ([],(.ap .same [(.ap (.usr 248) [(.lit (.string (.mk (.mk [106,111,105,110,32,48,32,49]))))]),(.ap (.nil true) [])])),
 ([],(.ap .le [(.ap .slen [(.lit (.string (.mk (.mk [116,105,99,107]))))]),(I 2500)])),
 ([],(.ap .eq [(.ap (.usr 249) [(.lit (.string (.mk (.mk [116,105,99,107]))))]),(I 2)])),
 ([],(.ap .le [(.ap .slen [(.lit (.string (.mk (.mk [120]))))]),(I 2500)])),
 ([],(.ap .eq [(.ap (.usr 249) [(.lit (.string (.mk (.mk [120]))))]),(I 6)]))]
set_option maxRecDepth 100000 in
def r9_o:List (List X×List (List X)):=[([(.ap .le [(.ap .slen [(.lit (.string (.mk (.mk [99,117,116,32,48,32,49]))))]),(I 2500)]),(.ap .eq [(.ap (.usr 249) [(.lit (.string (.mk (.mk [99,117,116,32,48,32,49]))))]),(I 0)]),(.ap .eq [(.ap (.usr 240) [(.lit (.string (.mk (.mk [99,117,116,32,48,32,49]))))]),(I 7)]),(.ap .eq [(.ap (.usr 241) [(.lit (.string (.mk (.mk [99,117,116,32,48,32,49]))))]),(I 0)]),(.ap .eq [(.ap (.usr 242) [(.lit (.string (.mk (.mk [99,117,116,32,48,32,49]))))]),(I 0)]),(.ap .eq [(.ap (.usr 243) [(.lit (.string (.mk (.mk [99,117,116,32,48,32,49]))))]),(I 1)]),(.ap .eq [(.ap (.usr 244) [(.lit (.string (.mk (.mk [99,117,116,32,48,32,49]))))]),(.lit (.bool true))]),(.ap .eq [(.ap (.usr 245) [(.lit (.string (.mk (.mk [99,117,116,32,48,32,49]))))]),(.lit (.int .u8 0))]),(.ap .eq [(.ap (.usr 246) [(.lit (.string (.mk (.mk [99,117,116,32,48,32,49]))))]),(I 0)]),(.ap .same [(.ap (.usr 247) [(.lit (.string (.mk (.mk [99,117,116,32,48,32,49]))))]),(.ap (.nil true) [])]),(.ap .same [(.ap (.usr 248) [(.lit (.string (.mk (.mk [99,117,116,32,48,32,49]))))]),(.ap (.nil true) [])]),(.ap .le [(.ap .slen [(.lit (.string (.mk (.mk [106,111,105,110,32,48,32,49]))))]),(I 2500)]),(.ap .eq [(.ap (.usr 249) [(.lit (.string (.mk (.mk [106,111,105,110,32,48,32,49]))))]),(I 0)]),(.ap .eq [(.ap (.usr 240) [(.lit (.string (.mk (.mk [106,111,105,110,32,48,32,49]))))]),(I 7)]),(.ap .eq [(.ap (.usr 241) [(.lit (.string (.mk (.mk [106,111,105,110,32,48,32,49]))))]),(I 0)]),(.ap .eq [(.ap (.usr 242) [(.lit (.string (.mk (.mk [106,111,105,110,32,48,32,49]))))]),(I 0)]),(.ap .eq [(.ap (.usr 243) [(.lit (.string (.mk (.mk [106,111,105,110,32,48,32,49]))))]),(I 1)]),(.ap .eq [(.ap (.usr 244) [(.lit (.string (.mk (.mk [106,111,105,110,32,48,32,49]))))]),(.lit (.bool false))]),(.ap .eq [(.ap (.usr 245) [(.lit (.string (.mk (.mk [106,111,105,110,32,48,32,49]))))]),(.lit (.int .u8 0))]),(.ap .eq [(.ap (.usr 246) [(.lit (.string (.mk (.mk [106,111,105,110,32,48,32,49]))))]),(I 0)]),(.ap .same [(.ap (.usr 247) [(.lit (.string (.mk (.mk [106,111,105,110,32,48,32,49]))))]),(.ap (.nil true) [])]),(.ap .same [(.ap (.usr 248) [(.lit (.string (.mk (.mk [106,111,105,110,32,48,32,49]))))]),(.ap (.nil true) [])]),(.ap .le [(.ap .slen [(.lit (.string (.mk (.mk [116,105,99,107]))))]),(I 2500)]),(.ap .eq [(.ap (.usr 249) [(.lit (.string (.mk (.mk [116,105,99,107]))))]),(I 2)]),(.ap .le [(.ap .slen [(.lit (.string (.mk (.mk [120]))))]),(I 2500)]),(.ap .eq [(.ap (.usr 249) [(.lit (.string (.mk (.mk [120]))))]),(I 6)])],[[(.lit (.bool true))]])]
set_option maxRecDepth 100000 in
theorem b2i:runS Tryd.prog (ahj (tab T9)) 10 20 hs9 Tryd.f9 (acv Tryd.f9) SAwk=some (r9_v,r9_o):=by kernel_rfl
set_option maxHeartbeats 1000000 in
set_option maxRecDepth 100000 in
theorem spc9:abk U Tryd.prog 9 SAwk:=by
 refine abk.of (P:=Tryd.prog) (U:=U) (T:=(tab T9)) (f:=9) (fn:=Tryd.f9) (fuel:=10) (fk:=20) (hs:=hs9) (S:=SAwk) (v:=r9_v) (outs:=r9_o) mixed hT9 at9 b2i ?_ ?_
 ·unfold r9_v
  repeat' (first | exact ae1 _ | refine ae3 (fun v hh=>?_) ?_)
  all_goals
   simp only [aay,aa5,aax,aa4,aa3,abr,abf,aam,w_wr,b_lt,b_le,b_eq,aaz,abl,b_or,aa1,aaj,aag,abp,abd,aal,aan,aa2,w_mk,aao,aa9,abo,abj,abg,aa6,aa8,abq,aa0,aau,abe,w_l0,w_l1,aaf,aae,aaw,aac,aad,aak,aai,aaq,aar,aas,aap,abn,abm,aat,abh,w_eq,a8w,a8x,a8y,a8z,a81,a88,a9a,a9b,a9c,a9d,pCut,b2b,b2c,pX]
   first | exact bzk | exact bus | exact buu | exact pX_l | rfl
 ·intro o ho σ hU hh
  obtain⟨v⟩:=σ
  cases hU
  simp only [r9_o,List.mem_cons,List.not_mem_nil,or_false] at ho
  subst ho
  exact⟨_,List.mem_cons_self ..,by simp only [aay,aa5,aax,aa4,aa3,abr,abf,aam,w_wr,b_lt,b_le,b_eq,aaz,abl,b_or,aa1,aaj,aag,abp,abd,aal,aan,aa2,w_mk,aao,aa9,abo,abj,abg,aa6,aa8,abq,aa0,aau,abe,w_l0,w_l1,aaf,aae,aaw,aac,aad,aak,aai,aaq,aar,aas,aap,abn,abm,aat,abh],rfl⟩
abbrev pX'(j:Nat):X:=.ap (.usr j) [.var 0]
noncomputable def hs3:Hs:=⟨afu [],hintA [(5,fun F H=>[.ap .eq [pX' 240,pX' 240],.ap .eq [pX' 241,pX' 241],.ap .eq [pX' 242,pX' 242],.ap .eq [pX' 243,pX' 243],.ap .eq [pX' 244,pX' 244],.ap .eq [pX' 245,pX' 245],.ap .eq [pX' 246,pX' 246],.ap .eq [pX' 249,pX' 249],.ap .same [pX' 247,pX' 247],.ap .same [pX' 248,pX' 248]])]⟩
end Go.Proofs.YtamhchkknlbanaaDoor.Be

namespace Go.Sx
open Go.ChangeShapes Go.WideShapes
variable {P:Program}
def bq3(P:Program)(rec:TypeId→Option (List Srt)):Nat→List Field→Option (List Srt)
 | _,[]=>some []
 | off,f::fs=>match rec f.type with
  | some ks=>if f.offset=off∧P.cellsOf f.type=ks.length then(bq3 P rec (off+ks.length) fs).map (ks++·) else none
  | none=>none
def srtP(P:Program):Nat→TypeId→Option (List Srt)
 | 0,_=>none
 | n+1,t=>match P.underlying t with
  | some (.int k)=>some [.int k]
  | some .bool=>some [.bool]
  | some .string=>some [.str]
  | some (.slice e)=>match srtP P n e with
   | some ws=>if P.cellsOf e=ws.length∧0<ws.length then some [.sl ws] else none
   | none=>none
  | some (.struct fs)=>match bq3 P (srtP P n) 0 fs.toList with
   | some ks=>if P.cellsOf t=ks.length then some ks else none
   | none=>none
  | _=>none
def memW(W:World):Mem:=fun k o=>W.heap[k]? = some o
def HasS(m:Mem)(ss:List Srt)(cs:List Value):Prop:=cs.length=ss.length∧∃ ds,RSs m ss ds fun j=>cs[j]?
theorem az6{m:Mem}:∀ {ss ss':List Srt} {ds ds':List CD} {cs cs':List Value},cs.length=ss.length→RSs m ss ds (fun j=>cs[j]?)→RSs m ss' ds' (fun j=>cs'[j]?)→RSs m (ss++ss') (ds++ds') fun j=>(cs++cs')[j]?
 | [],ss',ds,ds',cs,cs',hl,h,h'=>by
  have h:ds=[]:=h
  have:cs=[]:=List.length_eq_zero_iff.1 hl
  subst h
  subst this
  exact h'
 | s::ss,ss',ds,ds',[],cs',hl,h,h'=>by simp at hl
 | s::ss,ss',ds,ds',c::cs,cs',hl,h,h'=>by
  obtain⟨d,r,u,rfl,h1,h2,h3⟩:=h
  refine⟨d,r++ds',u,rfl,h1,h2,?_⟩
  have h3':RSs m ss r fun j=>cs[j]?:=h3.congr fun j _=>by simp
  have:=az6 (by simpa using hl) h3' h'
  exact this.congr fun j _=>by simp
theorem HasS.append{m:Mem}{ss ss':List Srt}{cs cs':List Value}(h:HasS m ss cs)(h':HasS m ss' cs'):HasS m (ss++ss') (cs++cs'):=by
 obtain⟨h1,ds,h2⟩:=h
 obtain⟨h3,ds',h4⟩:=h'
 exact⟨by simp [h1,h3],ds++ds',az6 h1 h2 h4⟩
theorem awz{m:Mem}{rec:TypeId→Option (List Srt)}{cs:List Value}:∀ (fs:List Field) {off:Nat} {ks:List Srt},bq3 P rec off fs=some ks →
  (∀ f∈fs,∀ ks',rec f.type=some ks'→HasS m ks' ((cs.drop f.offset).take (P.cellsOf f.type)))→HasS m ks ((cs.drop off).take ks.length)
 | [],off,ks,h,_=>by cases h;exact⟨by simp,[],rfl⟩
 | f::fs,off,ks,h,hr=>by
  simp only [bq3] at h
  cases hk:rec f.type with
  | none=>rw [hk] at h;cases h
  | some k1 =>
   rw [hk] at h
   simp only at h
   split at h
   ·rename_i hc
    obtain⟨k2,hk2,rfl⟩:=Option.map_eq_some_iff.1 h
    have h2:=awz fs hk2 fun g hg=>hr g (List.mem_cons_of_mem _ hg)
    have h1:=hr f (List.mem_cons_self ..) k1 hk
    rw [hc.1,hc.2] at h1
    have e:(cs.drop off).take (k1++k2).length=(cs.drop off).take k1.length++(cs.drop (off+k1.length)).take k2.length:=by
     rw [List.length_append,List.take_add,List.drop_drop]
    rw [e]
    exact h1.append h2
   ·cases h
theorem aum{α:Type}{Q:Nat→α→Prop}:∀ (n:Nat),(∀ i,i<n→∃ r,Q i r)→∃ l:List α,l.length=n∧∀ (i:Nat) (r:α),l[i]? = some r→Q i r
 | 0,_=>⟨[],rfl,fun i r h=>by simp at h⟩
 | n+1,h=>by
  obtain⟨l,h1,h2⟩:=aum n fun i hi=>h i (by omega)
  obtain⟨r,hr⟩:=h n (by omega)
  refine⟨l++[r],by simp [h1],fun i r' hi=>?_⟩
  rw [List.getElem?_append] at hi
  split at hi
  ·exact h2 i r' hi
  ·rename_i hlt
   have:i=n:=by
    have:=(List.getElem?_eq_some_iff.1 hi).1
    simp at this
    omega
   subst this
   rw [h1,Nat.sub_self] at hi
   cases hi
   exact hr
theorem bmm{W:World}{a:Addr}{v:Value}(h:W.cell? a=some v):∃ b off arr t fr,a=⟨b,off,none⟩∧W.heap[b]? = some (.cells arr t fr):=by
 obtain⟨b,off,sp⟩:=a
 unfold World.cell? at h
 simp only at h
 split at h
 ·rename_i c t fr hc
  cases sp with
  | none=>exact⟨b,off,c,t,fr,rfl,hc⟩
  | some _=>simp at h
 ·cases h
theorem mapM_mem{α β:Type}{g:α→Option β}:∀ {l:List α} {xs:List β},l.mapM g=some xs→∀ a∈l,∃ x∈xs,g a=some x
 | [],_,_,a,ha=>by cases ha
 | b::l,xs,h,a,ha=>by
  simp only [List.mapM_cons,Option.bind_eq_bind,Option.bind_eq_some_iff,Option.pure_def,Option.some.injEq] at h
  obtain⟨y,hy,ys,hys,rfl⟩:=h
  rcases List.mem_cons.1 ha with rfl | ha
  ·exact⟨y,List.mem_cons_self ..,hy⟩
  ·obtain⟨x,hx,hgx⟩:=mapM_mem hys a ha
   exact⟨x,List.mem_cons_of_mem _ hx,hgx⟩
section
variable {H:Type} {enc:TypeId×Value→H} {W:World} {base:Nat} {held:Bool}
theorem a3n:∀ (n:Nat) {t:TypeId} {ks:List Srt},srtP P n t=some ks→∀ {fuel:Nat} {cs:List Value} {x:DataW H×List MemPlace},DataW.trod enc P W base (fun _=>true) held fuel t cs=some x→HasS (memW W) ks cs
 | 0,_,_,h,_,_,_,_=>by cases h
 | n+1,t,ks,h,fuel,cs,x,hx=>by
  simp only [srtP] at h
  split at h
  ·rename_i k hu
   cases h
   cases fuel with
   | zero=>simp [DataW.trod] at hx
   | succ m =>
    obtain⟨i,rfl,rfl,hw⟩:=DataW.trod_int hu hx
    refine⟨rfl,[.v (.int k i)],_,_,_,rfl,rfl,⟨i,rfl,rfl,?_⟩,rfl⟩
    simpa [Lit.wf,ab6] using hw
  ·rename_i hu
   cases h
   cases fuel with
   | zero=>simp [DataW.trod] at hx
   | succ m =>
    obtain⟨b,rfl⟩:∃ b,cs=[.bool b]:=by
     unfold DataW.trod at hx
     rw [hu] at hx
     split at hx<;>simp_all
    exact⟨rfl,[.v (.bool b)],_,_,_,rfl,rfl,⟨b,rfl,rfl⟩,rfl⟩
  ·rename_i hu
   cases h
   cases fuel with
   | zero=>simp [DataW.trod] at hx
   | succ m =>
    obtain⟨s,rfl,hs⟩:∃ s:ByteArray,cs=[.string s]∧s.size≤maxLen:=by
     unfold DataW.trod at hx
     rw [hu] at hx
     split at hx<;>simp_all
    exact⟨rfl,[.v (.string s)],_,_,_,rfl,rfl,⟨s,rfl,rfl,by unfold maxN;unfold maxLen at hs;omega⟩,rfl⟩
  ·rename_i e hu
   split at h
   ·rename_i ws hws
    split at h
    ·rename_i hc
     cases h
     rcases DataW.trod_slice hu hx with ⟨rfl,_⟩ | ⟨a,len,cap,elems,rest,m,_,rfl,rfl,hb,hl,hm,hlen,hel,hsp,_⟩
     ·exact⟨rfl,[.sl true []],_,_,_,rfl,rfl,.inl ⟨rfl,rfl⟩,rfl⟩
     ·obtain⟨hrl,hre⟩:=hsp rfl
      rw [hc.1] at hel hre
      have cell0:0<cap→∃ v,W.cell? a=some v:=by
       intro hcap
       have key:∀ y,((W.cells? base (a.add 0) ws.length).bind (DataW.trod enc P W base (fun _=>true) held m e))=some y→∃ v,W.cell? a=some v:=by
        intro y hy
        obtain⟨cs',hcs,_⟩:=Option.bind_eq_some_iff.1 hy
        obtain⟨_,h2,h3⟩:=World.cells?_some hcs
        have h4:=h3 0 hc.2
        rw [List.getElem?_eq_getElem (by omega)] at h4
        have e1:(a.add 0).add 0=a:=by simp [Addr.add]
        rw [e1] at h4
        exact⟨_,h4⟩
       by_cases h0:0<len
       ·have:=hel 0 h0
        rw [Nat.zero_mul,List.getElem?_eq_getElem (by omega)] at this
        exact key _ this
       ·have h0:len=0:=by omega
        have:=hre 0 (by omega)
        rw [h0,Nat.zero_add,Nat.zero_mul,List.getElem?_eq_getElem (by omega)] at this
        exact key _ this
      by_cases hcap:cap=0
      ·subst hcap
       have:len=0:=by omega
       subst this
       exact⟨rfl,[.sl false []],_,_,_,rfl,rfl,.inr (.inr ⟨a,rfl,rfl⟩),rfl⟩
      ·obtain⟨v0,hv0⟩:=cell0 (by omega)
       obtain⟨b,off,arr,tt,fr,rfl,harr⟩:=bmm hv0
       have hcell:∀ j,W.cell? ⟨b,j,none⟩=arr[j]?:=fun j=>by unfold World.cell?;simp [harr]
       obtain⟨rows,hr1,hr2⟩:=aum (Q:=fun i r=>RSs (memW W) ws r fun j=>arr[off+i*ws.length+j]?) len fun i hi=>by
        have h1:=hel i hi
        rw [List.getElem?_eq_getElem (by omega)] at h1
        obtain⟨cs',hcs,hy⟩:=Option.bind_eq_some_iff.1 h1
        obtain⟨_,h2,h3⟩:=World.cells?_some hcs
        obtain⟨_,ds,hds⟩:=a3n n hws hy
        refine⟨ds,hds.congr fun j hj=>?_⟩
        have h4:=h3 j hj
        have e1:(Addr.add (Addr.add ⟨b,off,none⟩ (i*ws.length)) j)=⟨b,off+i*ws.length+j,none⟩:=by
         rw [Addr.add_lit,Addr.add_lit]
        rw [e1,hcell] at h4
        exact h4
       refine⟨rfl,[.sl false rows],_,_,_,rfl,rfl,.inr (.inl ⟨rows,b,off,cap,rfl,by rw [hr1],by rw [hr1];exact hl,hm,fun _=>⟨arr,tt,fr,harr,hr2⟩⟩),rfl⟩
    ·cases h
   ·cases h
  ·rename_i fs hu
   split at h
   ·rename_i ks' hks
    split at h
    ·rename_i hc
     cases h
     cases fuel with
     | zero=>simp [DataW.trod] at hx
     | succ m =>
      have hx':=hx
      unfold DataW.trod at hx'
      rw [hu] at hx'
      have hl:cs.length=P.cellsOf t∧∃ xs,fs.toList.mapM (fun f=>DataW.trod enc P W base (fun _=>true) held m f.type ((cs.drop f.offset).take (P.cellsOf f.type)))=some xs:=by
       obtain⟨xs,n',hn,hx2,hl2,hlen,hget⟩:=DataW.trod_struct hu hx
       refine⟨hl2,?_⟩
       split at hx'<;>simp_all
       obtain⟨a,h1,h2,h3⟩:=hx'
       exact⟨a,h1⟩
      obtain⟨hl,xs,hp⟩:=hl
      have:=awz (P:=P) (cs:=cs) fs.toList hks fun f hf k1 hk1=>by
        obtain⟨y,_,hfy⟩:=mapM_mem hp f hf
        exact a3n n hk1 hfy
      rw [List.drop_zero,← hc,← hl,List.take_length] at this
      exact this
    ·cases h
   ·cases h
  ·cases h
end
end Go.Sx

namespace Go.Proofs.YtamhchkknlbanaaDoor.Be
open Go.Sx Go.Proofs Go.RowKit Go.Lib
theorem bwy{w w':World}(h:TW w)(k:Keep w w'):TW w':=fun x hx=>by
 obtain⟨o,h1,h2⟩:=h x hx
 refine⟨o,?_,h2⟩
 rw [k.old _ (Array.getElem?_eq_some_iff.1 h1).1]
 exact h1
def aoo(l:List UInt8):List (List CD):=l.map fun b=>[vInt .u8 (b.toNat:Int)]
def aop(l:List Bool):List (List CD):=l.map fun b=>[aav b]
theorem bqw{W:World}{g:Nat}{l:List UInt8}(hg:W.heap[g]? = some (.cells ((numB l).map (Value.int .u8)).toArray 5 (0,0)))(hl:l.length≤2500):RS (memW W) sYs (CD.sl false (aoo l)) (.slice (some ⟨g,0,none⟩) l.length (l.length+3)):=by
 refine .inr (.inl ⟨aoo l,g,0,l.length+3,rfl,by unfold aoo;rw [List.length_map],by unfold aoo;rw [List.length_map];omega,by unfold maxN;omega,fun _=>⟨_,_,_,hg,fun i row hr=>?_⟩⟩)
 unfold aoo at hr
 rw [List.getElem?_map] at hr
 obtain⟨b,hb,rfl⟩:=Option.map_eq_some_iff.1 hr
 have hlt:i<l.length:=(List.getElem?_eq_some_iff.1 hb).1
 refine⟨_,_,_,rfl,?_,⟨(b.toNat:Int),rfl,rfl,?_⟩,rfl⟩
 ·show((numB l).map (Value.int .u8)).toArray[0+i*1+0]? = _
  rw [List.getElem?_toArray,show 0+i*1+0=i by omega]
  unfold numB
  rw [List.getElem?_map,List.getElem?_append_left (by rw [List.length_map];exact hlt),List.getElem?_map,hb]
  rfl
 ·have:=b.toNat_lt
  simp only [ab6,Bool.and_eq_true,decide_eq_true_eq]
  show(0:Int)≤_∧_≤(255:Int)
  omega
theorem bqx{W:World}{g:Nat}{l:List Bool}(hg:W.heap[g]? = some (.cells ((numO l).map Value.bool).toArray 4 (0,0)))(hl:l.length≤2500):RS (memW W) sOs (CD.sl false (aop l)) (.slice (some ⟨g,0,none⟩) l.length (l.length+3)):=by
 refine .inr (.inl ⟨aop l,g,0,l.length+3,rfl,by unfold aop;rw [List.length_map],by unfold aop;rw [List.length_map];omega,by unfold maxN;omega,fun _=>⟨_,_,_,hg,fun i row hr=>?_⟩⟩)
 unfold aop at hr
 rw [List.getElem?_map] at hr
 obtain⟨b,hb,rfl⟩:=Option.map_eq_some_iff.1 hr
 have hlt:i<l.length:=(List.getElem?_eq_some_iff.1 hb).1
 refine⟨_,_,_,rfl,?_,⟨b,rfl,rfl⟩,rfl⟩
 show((numO l).map Value.bool).toArray[0+i*1+0]? = _
 rw [List.getElem?_toArray,show 0+i*1+0=i by omega]
 unfold numO
 rw [List.getElem?_map,List.getElem?_append_left hlt,hb]
 rfl
theorem b0a{m:Mem}{w:World}{d:CD}{u:Value}(hm:∀ k o,m k o→w.heap[k]? = some o)(h:RS m sYs d u):∃ (l:List UInt8) (ab:Option Addr) (cb:Nat),u=.slice ab l.length cb∧d.rows=aoo l∧l.length≤cb∧(d.len:Int)=l.length∧(l≠[]→∃ ad,ab=some ad∧∀ (j:Nat) b,l[j]? = some b→w.cell? (ad.add j)=some (.int .u8 b.toNat)):=by
 rcases(show(d=.sl true []∧u=.slice none 0 0)∨_ from h) with ⟨e1,rfl⟩ | ⟨rows,b,off,cap,e1,rfl,h3,h4,h5⟩ | ⟨a,e1,rfl⟩
 ·exact⟨[],none,0,rfl,by rw [e1];rfl,Nat.le_refl _,by rw [e1];rfl,fun h=>absurd rfl h⟩
 ·have hrow:∀ (i:Nat) row,rows[i]? = some row→∃ z:UInt8,row=[vInt .u8 (z.toNat:Int)]∧∀ arr t fr,m b (.cells arr t fr)→(∀ i row,rows[i]? = some row→RSs m [.int .u8] row fun j=>arr[off+i*1+j]?)→arr[off+i*1+0]? = some (.int .u8 (z.toNat:Int)):=by
   intro i row hr
   obtain⟨arr,tt,fr,g1,g2⟩:=h5 (fun h0=>by rw [h0] at hr;cases hr)
   obtain⟨c,r,u,rfl,h1,⟨z,rfl,rfl,hz⟩,hn⟩:=g2 i row hr
   have hz':0≤z∧z≤255:=by
    simp only [ab6,Bool.and_eq_true,decide_eq_true_eq] at hz
    exact hz
   have ez:((UInt8.ofNat z.toNat).toNat:Int)=z:=by
    rw [UInt8.toNat_ofNat']
    omega
   refine⟨UInt8.ofNat z.toNat,?_,fun arr' t' fr' m1 m2=>?_⟩
   ·rw [ez,show r=[] from hn]
    rfl
   ·obtain⟨c',r',u',e',h1',⟨z',e'',rfl,_⟩,_⟩:=m2 i _ hr
    rw [show arr'[off+i*1+0]? = _ from h1']
    cases e'
    cases e''
    rw [ez]
  have hrows:rows=aoo (rows.map ada):=by
   unfold aoo
   rw [List.map_map]
   refine List.ext_getElem? fun i=>?_
   rw [List.getElem?_map]
   cases hr:rows[i]? with
   | none=>rfl
   | some row =>
    obtain⟨z,rfl,_⟩:=hrow i row hr
    show some _=some [vInt .u8 ((UInt8.ofNat (z.toNat:Int).toNat).toNat:Int)]
    rw [show UInt8.ofNat (z.toNat:Int).toNat=z by simp]
  refine⟨rows.map ada,some ⟨b,off,none⟩,cap,by rw [List.length_map],by rw [e1];exact hrows,by rw [List.length_map];exact h3,?_,fun hne=>⟨_,rfl,fun j x hx=>?_⟩⟩
  ·rw [e1,List.length_map]
   show((clip rows.length:Nat):Int)=_
   rw [aek (by omega)]
  ·rw [List.getElem?_map] at hx
   obtain⟨row,hr,rfl⟩:=Option.map_eq_some_iff.1 hx
   obtain⟨arr,tt,fr,g1,g2⟩:=h5 (fun h0=>by rw [h0] at hr;cases hr)
   obtain⟨z,rfl,hz⟩:=hrow j row hr
   have:=hz arr tt fr g1 g2
   rw [Addr.add_lit,Lib.cell_of_heap (hm _ _ g1)]
   rw [show off+j*1+0=off+j by omega] at this
   rw [this]
   show _=some (Value.int .u8 ((UInt8.ofNat (z.toNat:Int).toNat).toNat:Int))
   rw [show UInt8.ofNat (z.toNat:Int).toNat=z by simp]
 ·exact⟨[],some a,0,rfl,by rw [e1];rfl,Nat.le_refl _,by rw [e1];rfl,fun h=>absurd rfl h⟩
theorem b0b{m:Mem}{w:World}{d:CD}{u:Value}(hm:∀ k o,m k o→w.heap[k]? = some o)(h:RS m sOs d u):∃ (l:List Bool) (ab:Option Addr) (cb:Nat),u=.slice ab l.length cb∧d.rows=aop l∧l.length≤cb∧(d.len:Int)=l.length∧(l≠[]→∃ ad,ab=some ad∧∀ (j:Nat) b,l[j]? = some b→w.cell? (ad.add j)=some (.bool b)):=by
 rcases(show(d=.sl true []∧u=.slice none 0 0)∨_ from h) with ⟨e1,rfl⟩ | ⟨rows,b,off,cap,e1,rfl,h3,h4,h5⟩ | ⟨a,e1,rfl⟩
 ·exact⟨[],none,0,rfl,by rw [e1];rfl,Nat.le_refl _,by rw [e1];rfl,fun h=>absurd rfl h⟩
 ·have hrow:∀ (i:Nat) row,rows[i]? = some row→∃ z:Bool,row=[aav z]∧∀ arr t fr,m b (.cells arr t fr)→(∀ i row,rows[i]? = some row→RSs m [.bool] row fun j=>arr[off+i*1+j]?)→arr[off+i*1+0]? = some (.bool z):=by
   intro i row hr
   obtain⟨arr,tt,fr,g1,g2⟩:=h5 (fun h0=>by rw [h0] at hr;cases hr)
   obtain⟨c,r,u,rfl,h1,⟨z,rfl,rfl⟩,hn⟩:=g2 i row hr
   refine⟨z,?_,fun arr' t' fr' m1 m2=>?_⟩
   ·rw [show r=[] from hn]
    rfl
   ·obtain⟨c',r',u',e',h1',⟨z',e'',rfl⟩,_⟩:=m2 i _ hr
    rw [show arr'[off+i*1+0]? = _ from h1']
    cases e'
    cases e''
    rfl
  have hrows:rows=aop (rows.map adv):=by
   unfold aop
   rw [List.map_map]
   refine List.ext_getElem? fun i=>?_
   rw [List.getElem?_map]
   cases hr:rows[i]? with
   | none=>rfl
   | some row =>
    obtain⟨z,rfl,_⟩:=hrow i row hr
    rfl
  refine⟨rows.map adv,some ⟨b,off,none⟩,cap,by rw [List.length_map],by rw [e1];exact hrows,by rw [List.length_map];exact h3,?_,fun hne=>⟨_,rfl,fun j x hx=>?_⟩⟩
  ·rw [e1,List.length_map]
   show((clip rows.length:Nat):Int)=_
   rw [aek (by omega)]
  ·rw [List.getElem?_map] at hx
   obtain⟨row,hr,rfl⟩:=Option.map_eq_some_iff.1 hx
   obtain⟨arr,tt,fr,g1,g2⟩:=h5 (fun h0=>by rw [h0] at hr;cases hr)
   obtain⟨z,rfl,hz⟩:=hrow j row hr
   have:=hz arr tt fr g1 g2
   rw [Addr.add_lit,Lib.cell_of_heap (hm _ _ g1)]
   rw [show off+j*1+0=off+j by omega] at this
   exact this
 ·exact⟨[],some a,0,rfl,by rw [e1];rfl,Nat.le_refl _,by rw [e1];rfl,fun h=>absurd rfl h⟩
theorem bux{m:Mem}{d0 d1 d2 d3 d4 d5 d6 d7 d8:CD}{x0 x1 x2 x3 x4 x5 x6 x7 x8:Value}(h0:RS m sI d0 x0)(h1:RS m sI d1 x1)(h2:RS m sI d2 x2)(h3:RS m sI d3 x3)(h4:RS m .bool d4 x4)(h5:RS m (.int .u8) d5 x5)(h6:RS m sI d6 x6)(h7:RS m sYs d7 x7)(h8:RS m sOs d8 x8) :
  am4 m (true,ajr) [d0,d1,d2,d3,d4,d5,d6,d7,d8] (.agg #[x0,x1,x2,x3,x4,x5,x6,x7,x8]) :=
 ⟨#[x0,x1,x2,x3,x4,x5,x6,x7,x8],rfl,rfl,_,_,_,rfl,rfl,h0,_,_,_,rfl,rfl,h1,_,_,_,rfl,rfl,h2,_,_,_,rfl,rfl,h3,_,_,_,rfl,rfl,h4,_,_,_,rfl,rfl,h5,_,_,_,rfl,rfl,h6,_,_,_,rfl,rfl,h7,_,_,_,rfl,rfl,h8,rfl⟩
theorem a1w{m:Mem}{d0 d1 d2 d3 d4 d5 d6 d7 d8:CD}{u:Value}(h:am4 m (true,ajr) [d0,d1,d2,d3,d4,d5,d6,d7,d8] u):∃ x0 x1 x2 x3 x4 x5 x6 x7 x8:Value,u=.agg #[x0,x1,x2,x3,x4,x5,x6,x7,x8]∧RS m sI d0 x0∧RS m sI d1 x1∧RS m sI d2 x2∧RS m sI d3 x3∧RS m .bool d4 x4∧RS m (.int .u8) d5 x5∧RS m sI d6 x6∧RS m sYs d7 x7∧RS m sOs d8 x8:=by
 obtain⟨us,rfl,hsz,c,r,x0,e,f0,h0,hh⟩:=h
 cases e
 obtain⟨c,r,x1,e,f1,h1,hh⟩:=hh
 cases e
 obtain⟨c,r,x2,e,f2,h2,hh⟩:=hh
 cases e
 obtain⟨c,r,x3,e,f3,h3,hh⟩:=hh
 cases e
 obtain⟨c,r,x4,e,f4,h4,hh⟩:=hh
 cases e
 obtain⟨c,r,x5,e,f5,h5,hh⟩:=hh
 cases e
 obtain⟨c,r,x6,e,f6,h6,hh⟩:=hh
 cases e
 obtain⟨c,r,x7,e,f7,h7,hh⟩:=hh
 cases e
 obtain⟨c,r,x8,e,f8,h8,hh⟩:=hh
 cases e
 refine⟨x0,x1,x2,x3,x4,x5,x6,x7,x8,?_,h0,h1,h2,h3,h4,h5,h6,h7,h8⟩
 have hsz:us.size=9:=hsz
 congr 1
 apply Array.ext
 ·exact hsz
 ·intro i hi hj
  have hi9:i<9:=by omega
  have hg:∀ {j:Nat} {x:Value} (hj:j<us.size),us[j]? = some x→us[j]=x:=fun hj h=>by
   rw [Array.getElem?_eq_getElem hj] at h
   exact Option.some.inj h
  have:i=0∨i=1∨i=2∨i=3∨i=4∨i=5∨i=6∨i=7∨i=8:=by omega
  rcases this with rfl | rfl | rfl | rfl | rfl | rfl | rfl | rfl | rfl
  ·exact hg hi f0
  ·exact hg hi f1
  ·exact hg hi f2
  ·exact hg hi f3
  ·exact hg hi f4
  ·exact hg hi f5
  ·exact hg hi f6
  ·exact hg hi f7
  ·exact hg hi f8
theorem res2{m:Mem}{l:List UInt8}{z:Int}{u:Value}(h:ResR m [(false,[.str]),(false,[sI])] [[tx l],[vInt .i64 z]] u):u=.tuple #[.string ⟨l.toArray⟩,.int .i64 z]:=by
 obtain⟨us',hr,hu⟩:=h
 cases us' with
 | nil=>exact hr.elim
 | cons u1 r=>cases r with
 | nil=>exact hr.2.elim
 | cons u2 r=>cases r with
 | cons _ _=>exact hr.2.2.elim
 | nil =>
  have r1:=hr.1
  have r2:=hr.2.1
  obtain⟨s,e1,rfl,_⟩:RS m .str (tx l) u1:=r1
  obtain⟨z',e2,rfl,_⟩:RS m sI (vInt .i64 z) u2:=r2
  cases e1
  cases e2
  rw [hu]
  rfl
theorem res1{m:Mem}{b:Bool}{u:Value}(h:ResR m [(false,[.bool])] [[CD.v (.bool b)]] u):u=.bool b:=by
 obtain⟨us',hr,hu⟩:=h
 cases us' with
 | nil=>exact hr.elim
 | cons u1 r=>cases r with
 | cons _ _=>exact hr.2.elim
 | nil =>
  have r1:=hr.1
  obtain⟨z',e2,rfl⟩:RS m .bool (CD.v (.bool b)) u1:=r1
  cases e2
  rw [hu]
  rfl
set_option maxRecDepth 100000 in
theorem a0d{f:FuncId}(h:abk U Tryd.prog f axn)(hcall:∀ us w,(callFunc f us).run Tryd.prog w=.ok (.enter f us) w){d0 d1 d2 d3 d4 d5 d6 d7 d8:CD}{u:Value}{W:World}(htw:TW W)(hp:am4 (memW W) (true,ajr) [d0,d1,d2,d3,d4,d5,d6,d7,d8] u)
  (l7:(d7.len:Int)≤2500) (l8:(d8.len:Int)≤2500):Calls Tryd.prog f #[u] W fun e w'=>e=.returned (.tuple #[.string ⟨(aox [d0,d1,d2,d3,d4,d5,d6,d7,d8]).1.toArray⟩,.int .i64 (aox [d0,d1,d2,d3,d4,d5,d6,d7,d8]).2])∧Keep W w':=by
 obtain⟨x0,x1,x2,x3,x4,x5,x6,x7,x8,rfl,h0,h1,h2,h3,h4,h5,h6,h7,h8⟩:=a1w hp
 have h1:=h { toUs:=U,v:=fun j=>[d0,d1,d2,d3,d4,d5,d6,d7,d8].getD j default } rfl (memW W) W #[.agg #[x0,x1,x2,x3,x4,x5,x6,x7,x8]] htw (fun _ _ h=>h) ⟨hp,trivial⟩ (by
  unfold axn preD
  simp only [List.cons_append,List.nil_append,aad,aac,aa1,b_le,aaw,aay,abd,aax]
  exact⟨⟨_,_,h0⟩,⟨_,_,h1⟩,⟨_,_,h2⟩,⟨_,_,h3⟩,⟨_,_,h4⟩,⟨_,_,h5⟩,⟨_,_,h6⟩,l7,l8,trivial⟩)
 rw [hcall] at h1
 refine(show Calls Tryd.prog f #[.agg #[x0,x1,x2,x3,x4,x5,x6,x7,x8]] W _ from h1).mono fun e w' hh=>?_
 obtain⟨u,he,hk,o,ho,hx,hres⟩:=hh
 refine⟨?_,hk⟩
 rw [List.mem_singleton.1 ho] at hres
 rw [he,res2 (l:=(aox [d0,d1,d2,d3,d4,d5,d6,d7,d8]).1) (z:=(aox [d0,d1,d2,d3,d4,d5,d6,d7,d8]).2) hres]
set_option maxRecDepth 100000 in
theorem a9x{W:World}(htw:TW W):Calls Tryd.prog 9 #[] W fun e w'=>e=.returned (.bool true)∧Keep W w':=by
 have h1:=spc9 { toUs:=U,v:=fun _=>default } rfl (memW W) W #[] htw (fun _ _ h=>h) trivial (fun x hx=>by cases hx)
 rw [at9.call] at h1
 refine(show Calls Tryd.prog 9 #[] W _ from h1).mono fun e w' hh=>?_
 obtain⟨u,he,hk,o,ho,hx,hres⟩:=hh
 refine⟨?_,hk⟩
 rw [List.mem_singleton.1 ho] at hres
 rw [he,res1 (b:=true) hres]
theorem bgp{d0 d1 d2 d3 d4 d5 d6 d7 d8 e7 e8:CD}(h7:e7.rows=d7.rows)(h8:e8.rows=d8.rows):aox [d0,d1,d2,d3,d4,d5,d6,e7,e8]=aox [d0,d1,d2,d3,d4,d5,d6,d7,d8]:=by
 show ag6 _ _ _ _ _ _ _ e7.rows e8.rows=_
 rw [h7,h8]
 rfl
end Go.Proofs.YtamhchkknlbanaaDoor.Be
