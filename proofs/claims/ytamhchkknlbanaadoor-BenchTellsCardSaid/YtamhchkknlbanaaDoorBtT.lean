/-
  Contracts of a seat's functions: the word and the digits of a deed's line, by the reference. Conditions: none.
-/
import Derived.Test.YtamhchkknlbanaaDoorBtR
import Derived.Test.YtamhchkknlbanaaDoorBtS
set_option linter.unusedSectionVars false
set_option linter.unusedVariables false
set_option linter.unusedSimpArgs false
set_option linter.all false
namespace Go.Proofs.YtamhchkknlbanaaDoor.Be
open Go.Sx Go.Proofs
theorem abk.move{U U':Us}{P:Program}{f:FuncId}{S S':Fsp}(h:abk U' P f S')(ha:∀ v:Nat→CD,(axb 0 S.args).map (@denL (@Sg.mk U v))=(axb 0 S'.args).map (@denL (@Sg.mk U' v)))(hA:S.args=S'.args)(hR:S.res=S'.res)(hF:S.fresh=S'.fresh)
  (hp:∀ v:Nat→CD,@Holds (@Sg.mk U v) S.pre→@Holds (@Sg.mk U' v) S'.pre) (ho:∀ v:Nat→CD,@Holds (@Sg.mk U v) S.pre→∀ o'∈S'.outs,@Holds (@Sg.mk U' v) o'.1→∃ o∈S.outs,@Holds (@Sg.mk U v) o.1∧o.2.map (@denL (@Sg.mk U v))=o'.2.map (@denL (@Sg.mk U' v))):abk U P f S:=by
 intro σ hU m w us htw hm hargs hpre
 obtain⟨v⟩:=σ
 cases hU
 have hargs:akt m S'.args ((axb 0 S'.args).map (@denL (@Sg.mk U' v))) us.toList:=by
  rw [← ha v,← hA]
  exact hargs
 letI:Sg:=@Sg.mk U v
 refine ach.mono (fun u w' hh=>?_) (h (@Sg.mk U' v) rfl m w us htw hm hargs (hp v hpre))
 obtain⟨hk,o',ho',hx,hr⟩:=hh
 obtain⟨o,h1,h2,h3⟩:=ho v hpre o' ho' hx
 refine⟨hk,o,h1,h2,?_⟩
 rw [h3,hR,hF]
 exact hr
theorem b1c{c:CD}{l:List UInt8}(hl:l≠[])(h:by' c=l):eqC c (.v (.string ⟨⟨l⟩⟩))=true:=by
 cases c with
 | v u=>cases u with
  | string s =>
   rw [arl,ByteArray.toList_eq ⟨⟨l⟩⟩]
   exact h
  | _=>exact absurd (h.symm.trans bby) hl
 | sl _ _=>exact absurd (h.symm.trans bby) hl
 | ag _=>exact absurd (h.symm.trans bby) hl
noncomputable def bru:Fsp:=⟨[(false,[.str])],[],[(false,[sI]),(false,[sI]),(false,[sI]),(false,[.bool])],[([],[[.ap (.usr 230) [.var 0]],[.ap (.usr 231) [.var 0]],[.ap (.usr 232) [.var 0]],[.ap (.usr 233) [.var 0]]])],true⟩
theorem bow{d:CD}{l:List UInt8}{k m r:CD}(h:eqC d (.v (.string ⟨⟨l⟩⟩))=true)(hf:[[vInt .i64 (((aeg l).map fun r=>r.2.1).getD 0)],[vInt .i64 (((aeg l).map fun r=>r.2.2.1).getD 0)],[vInt .i64 (((aeg l).map fun r=>r.2.2.2).getD 0)],[aav (aeg l).isSome]]=[[k],[m],[r],[aav true]]):[[vInt .i64 (((aeg (by' d)).map fun r=>r.2.1).getD 0)],[vInt .i64 (((aeg (by' d)).map fun r=>r.2.2.1).getD 0)],[vInt .i64 (((aeg (by' d)).map fun r=>r.2.2.2).getD 0)],[aav (aeg (by' d)).isSome]]=[[k],[m],[r],[aav true]]:=by
 rw [al9 h]
 exact hf
theorem btu{d:CD}(h:∀ r∈bi6,¬ eqC d (.v (.string ⟨⟨r.1⟩⟩))=true):aeg (by' d)=none:=by
 unfold aeg
 rw [List.find?_eq_none]
 intro r hr he
 have he:by' d=r.1:=by
  have:(r.1==by' d)=true:=he
  rw [beq_iff_eq] at this
  exact this.symm
 refine h r hr (b1c ?_ he)
 have hall:(bi6.all fun r=>!r.1.isEmpty)=true:=by decide
 have:=List.all_eq_true.1 hall r hr
 intro h0
 rw [h0] at this
 cases this
set_option maxHeartbeats 1000000 in
set_option maxRecDepth 100000 in
theorem b0f:abk U Tryd.prog 23 bru:=by
  refine abk.move b2t (fun _=>rfl) rfl rfl rfl (fun v _ x hx=>by cases hx) ?_
  intro v _ o' ho' hh
  refine⟨_,List.mem_cons_self ..,(fun x hx=>by cases hx),?_⟩
  unfold bn4 at ho'
  simp only [List.mem_cons,List.not_mem_nil,or_false] at ho'
  simp only [List.map_cons,List.map_nil,aay,aa5,aax,aa4,aa3,abr,abf,aam,w_wr,b_lt,b_le,b_eq,aaz,abl,b_or,aa1,aaj,aag,abp,abd,aal,aan,aa2,w_mk,aao,aa9,abo,abj,abg,aa6,aa8,abq,aa0,aau,abe,w_l0,w_l1,aaf,aae,aaw,aac,aad,aak,aai,aaq,aar,aas,aap,abn,abm,aat,abh,w_lt,w_le,w_eq,ao0,as0,w_or,akp,aiw,ao1,a3x,a3y,a3z,a4a]
  repeat' (first | (rcases ho' with rfl | ho') | subst ho')
  all_goals
    simp only [fo0,fo1,fo2,fo3,fo4,fo5,fo6,fo7,fo8,fo9,fo10,fo11,fo12,fo13,fo14,fo15,isW,noW,aay,aa5,aax,aa4,aa3,abr,abf,aam,w_wr,b_lt,b_le,b_eq,aaz,abl,b_or,aa1,aaj,aag,abp,abd,aal,aan,aa2,w_mk,aao,aa9,abo,abj,abg,aa6,aa8,abq,aa0,aau,abe,w_l0,w_l1,aaf,aae,aaw,aac,aad,aak,aai,aaq,aar,aas,aap,abn,abm,aat,abh,w_eq] at hh
    simp only [List.map_cons,List.map_nil,aay,aa5,aax,aa4,aa3,abr,abf,aam,w_wr,b_lt,b_le,b_eq,aaz,abl,b_or,aa1,aaj,aag,abp,abd,aal,aan,aa2,w_mk,aao,aa9,abo,abj,abg,aa6,aa8,abq,aa0,aau,abe,w_l0,w_l1,aaf,aae,aaw,aac,aad,aak,aai,aaq,aar,aas,aap,abn,abm,aat,abh,w_lt,w_le,w_eq,ao0,as0,w_or,akp,aiw,ao1]
    first
    | exact bow hh.1 rfl
    | (have:=btu (d:=v 0) (fun r hr=>by
         unfold bi6 at hr
         simp only [List.mem_cons,List.not_mem_nil,or_false] at hr
         repeat' (first | (rcases hr with rfl | hr) | subst hr)
         all_goals simp only [hh,not_false_eq_true,Bool.false_eq_true])
       rw [this]
       rfl)
def w14(i:Nat):List UInt8:=[[116,105,99,107],[116,97,107,101],[102,108,111,119],[97,116],[100,114,111,112],[100,111,117,98,108,101],[109,111,118,101],[106,111,105,110],[97,115,107],[97,103,97,105,110],[114,101,111,112,101,110],[99,114,97,115,104],[102,117,115,101],[116,117,114,110]].getD i []
abbrev b0z:List (List CD):=(((((((((((((([]++[[CD.v (.string ⟨⟨[116,105,99,107]⟩⟩)]])++[[CD.v (.string ⟨⟨[116,97,107,101]⟩⟩)]])++[[CD.v (.string ⟨⟨[102,108,111,119]⟩⟩)]])++[[CD.v (.string ⟨⟨[97,116]⟩⟩)]])++[[CD.v (.string ⟨⟨[100,114,111,112]⟩⟩)]])++[[CD.v (.string ⟨⟨[100,111,117,98,108,101]⟩⟩)]])++[[CD.v (.string ⟨⟨[109,111,118,101]⟩⟩)]])++[[CD.v (.string ⟨⟨[106,111,105,110]⟩⟩)]])++[[CD.v (.string ⟨⟨[97,115,107]⟩⟩)]])++[[CD.v (.string ⟨⟨[97,103,97,105,110]⟩⟩)]])++[[CD.v (.string ⟨⟨[114,101,111,112,101,110]⟩⟩)]])++[[CD.v (.string ⟨⟨[99,114,97,115,104]⟩⟩)]])++[[CD.v (.string ⟨⟨[102,117,115,101]⟩⟩)]])++[[CD.v (.string ⟨⟨[116,117,114,110]⟩⟩)]])
theorem lt14{i:Int}(h0:0≤i)(hi:i<14):i=0∨i=1∨i=2∨i=3∨i=4∨i=5∨i=6∨i=7∨i=8∨i=9∨i=10∨i=11∨i=12∨i=13:=by omega
theorem ao8{i:Int}(h0:0≤i)(hi:i<14):(CD.sl false b0z).cell i 0=tx (w14 i.toNat):=by
 rcases lt14 h0 hi with rfl | rfl | rfl | rfl | rfl | rfl | rfl | rfl | rfl | rfl | rfl | rfl | rfl | rfl<;>rfl
theorem a1b{i:Int}(h0:0≤i)(hi:i<14):((aeg (w14 i.toNat)).map fun r=>r.2.1).getD 0=auz.getD i.toNat 0:=by
 rcases lt14 h0 hi with rfl | rfl | rfl | rfl | rfl | rfl | rfl | rfl | rfl | rfl | rfl | rfl | rfl | rfl<;>rfl
theorem bnm{i:Int}{is:Bool}(h0:0≤i)(hi:i<14)(h:¬ auz.getD i.toNat 0=7∨is=false):(frow (auz.getD i.toNat 0) is).1=w14 i.toNat:=by
 rcases lt14 h0 hi with rfl | rfl | rfl | rfl | rfl | rfl | rfl | rfl | rfl | rfl | rfl | rfl | rfl | rfl<;>cases is<;>first | rfl | (rcases h with h | h;exact absurd rfl h;cases h)
theorem b1u{k i:Int}(h0:0≤i)(hi:i<14)(h:noK k i.toNat=true)(hk:¬ auz.getD i.toNat 0=k):noK k (i+1).toNat=true:=by
 unfold noK at h ⊢
 have hl:i.toNat<auz.length:=by show i.toNat<14;omega
 have e:auz.getD i.toNat 0=auz[i.toNat]:=by
  rw [List.getD_eq_getElem?_getD,List.getElem?_eq_getElem hl]
  rfl
 rw [show(i+1).toNat=i.toNat+1 by omega,List.take_add_one,List.getElem?_eq_getElem hl,List.all_append,h]
 rw [e] at hk
 simp [hk]
theorem bue{k i:Int}{is:Bool}(h0:0≤i)(hi:¬ i<14)(h:noK k i.toNat=true):(frow k is).1=[]:=by
 unfold noK at h
 rw [List.take_of_length_le (show auz.length≤i.toNat by show 14≤i.toNat;omega)] at h
 have hw:afj k is=none:=by
  unfold afj
  rw [List.find?_eq_none]
  intro r hr hf
  unfold fits at hf
  rw [Bool.and_eq_true,decide_eq_true_eq] at hf
  have hall:(frm.all fun r=>auz.contains r.2.1)=true:=by decide
  have hc:=List.all_eq_true.1 hall r hr
  have hm:r.2.1∈auz:=by simpa using hc
  have:=List.all_eq_true.1 h _ hm
  rw [hf.1] at this
  simp at this
 unfold frow
 rw [hw]
 rfl
noncomputable def T34:List (FuncId×Fsp):=[(23,bru)]
set_option maxRecDepth 100000 in
theorem hT34:an0 U Tryd.prog T34:=.cons b0f .nil
noncomputable def bbt:Fsp:=⟨[(true,ajr)],preD,[(false,[.str])],[([],[[.ap (.usr 270) [.var 0,.var 4]]])],true⟩
noncomputable def lp34:Lp:=⟨[(.slot 4,.int .i64)],[0,1,3],[],fun F H k=>[.ap .le [zI,.var k],.ap .le [.var k,I 14],.ap (.usr 313) [.var 0,.var k]],fun F H k=>.ap (.sub .i64) [I 14,.var k]⟩
abbrev aok:X:=(.ap (.cell 0) [(.ap .snoc [(.ap .snoc [(.ap .snoc [(.ap .snoc [(.ap .snoc [(.ap .snoc [(.ap .snoc [(.ap .snoc [(.ap .snoc [(.ap .snoc [(.ap .snoc [(.ap .snoc [(.ap .snoc [(.ap .snoc [(.ap (.nil false) []),(.lit (.string (.mk (.mk [116,105,99,107]))))]),(.lit (.string (.mk (.mk [116,97,107,101]))))]),(.lit (.string (.mk (.mk [102,108,111,119]))))]),(.lit (.string (.mk (.mk [97,116]))))]),(.lit (.string (.mk (.mk [100,114,111,112]))))]),(.lit (.string (.mk (.mk [100,111,117,98,108,101]))))]),(.lit (.string (.mk (.mk [109,111,118,101]))))]),(.lit (.string (.mk (.mk [106,111,105,110]))))]),(.lit (.string (.mk (.mk [97,115,107]))))]),(.lit (.string (.mk (.mk [97,103,97,105,110]))))]),(.lit (.string (.mk (.mk [114,101,111,112,101,110]))))]),(.lit (.string (.mk (.mk [99,114,97,115,104]))))]),(.lit (.string (.mk (.mk [102,117,115,101]))))]),(.lit (.string (.mk (.mk [116,117,114,110]))))]),(.var 9)])
abbrev amn:X:=(.ap (.usr 230) [aok])
abbrev bd9:List X:=[(.ap .le [mnX,(.var 0)]),(.ap .le [(.var 0),mxX]),(.ap .le [mnX,(.var 1)]),(.ap .le [(.var 1),mxX]),(.ap .le [mnX,(.var 2)]),(.ap .le [(.var 2),mxX]),(.ap .le [mnX,(.var 3)]),(.ap .le [(.var 3),mxX]),(.ap .le [(.lit (.int .u8 0)),(.var 5)]),(.ap .le [(.var 5),(.lit (.int .u8 255))]),(.ap .le [mnX,(.var 6)]),(.ap .le [(.var 6),mxX]),(.ap (.typ (.sl [(.int .u8)])) [(.var 7)]),(.ap (.typ (.sl [.bool])) [(.var 8)]),(.ap (.typ sI) [(.var 0)]),(.ap (.typ sI) [(.var 1)]),(.ap (.typ sI) [(.var 2)]),(.ap (.typ sI) [(.var 3)]),(.ap (.typ .bool) [(.var 4)]),(.ap (.typ (.int .u8)) [(.var 5)]),(.ap (.typ sI) [(.var 6)])]
abbrev bea:List X:=(.ap .le [(I 0),(.var 9)])::(.ap .le [(.var 9),(I 14)])::(.ap (.usr 313) [(.var 0),(.var 9)])::bd9
abbrev azg:List X:=(.ap .le [mnX,amn])::(.ap .le [amn,mxX])::(.ap .le [mnX,(.ap (.usr 231) [aok])])::(.ap .le [(.ap (.usr 231) [aok]),mxX])::(.ap .le [mnX,(.ap (.usr 232) [aok])])::(.ap .le [(.ap (.usr 232) [aok]),mxX])::(.ap .lt [(.var 9),(.ap (.cast .i64) [(I 14)])])::bea
set_option maxRecDepth 100000 in
def bv0:List VC:=[(bd9,(.ap (.usr 313) [(.var 0),(I 0)])),
 (((.ap .not [(.ap .eq [amn,(.var 0)])])::azg),(.ap (.usr 313) [(.var 0),(.ap (.add .i64) [(.var 9),(I 1)])]))]
set_option maxRecDepth 100000 in
def bvz:List (List X×List (List X)):=[(((.ap .eq [amn,(I 7)])::(.var 4)::(.ap .eq [amn,(.var 0)])::azg),[[(.lit (.string (.mk (.mk [99,117,116]))))]]),
 (((.ap .not [(.ap .eq [amn,(I 7)])])::(.var 4)::(.ap .eq [amn,(.var 0)])::azg),[[aok]]),
 (((.ap .not [(.var 4)])::(.ap .eq [amn,(.var 0)])::azg),[[aok]]),
 (((.ap .not [(.ap .lt [(.var 9),(.ap (.cast .i64) [(I 14)])])])::bea),[[(.lit (.string (.mk (.mk []))))]])]
set_option maxRecDepth 100000 in
theorem bz3:runS Tryd.prog (ahj (tab T34)) 10 20 ⟨afu [(3,lp34)],hintA []⟩ Tryd.f34 (acv Tryd.f34) bbt=some (bv0,bvz):=by kernel_rfl
set_option maxHeartbeats 1000000 in
set_option maxRecDepth 100000 in
theorem b22:abk U Tryd.prog 34 bbt:=by
 refine abk.of (P:=Tryd.prog) (U:=U) (T:=(tab T34)) (f:=34) (fn:=Tryd.f34) (fuel:=10) (fk:=20) (hs:=⟨afu [(3,lp34)],hintA []⟩) (S:=bbt) (v:=bv0) (outs:=bvz) mixed hT34 at34 bz3 ?_ ?_
 ·unfold bv0
  repeat' (first | exact ae1 _ | refine ae3 (fun v hh=>?_) ?_)
  all_goals
   simp only [aay,aa5,aax,aa4,aa3,abr,abf,aam,w_wr,b_lt,b_le,b_eq,aaz,abl,b_or,aa1,aaj,aag,abp,abd,aal,aan,aa2,w_mk,aao,aa9,abo,abj,abg,aa6,aa8,abq,aa0,aau,abe,w_l0,w_l1,aaf,aae,aaw,aac,aad,aak,aai,aaq,aar,aas,aap,abn,abm,aat,abh,w_eq,a3x,a3y,a3z,a4a,b0p,bd9,aok,amn,bea,azg,aa7] at hh ⊢
  ·rfl
  ·have hA:Typ sI (v 0):=by simp only [hh]
   have h0:0≤(v 9).iv:=by simp only [hh]
   have hi:(v 9).iv<14:=by simp only [hh]
   have hn:noK (v 0).iv (v 9).iv.toNat=true:=by simp only [hh]
   have h1:=hh.1
   rw [ao8 h0 hi,acn,a1b h0 hi,ae0 hA,ad3] at h1
   exact b1u h0 hi hn h1
 ·intro o ho σ hU hh
  obtain⟨v⟩:=σ
  cases hU
  simp only [bvz,List.mem_cons,List.not_mem_nil,or_false] at ho
  repeat' (first | (rcases ho with rfl | ho) | subst ho)
  all_goals
   refine⟨_,List.mem_cons_self ..,by simp only [aay,aa5,aax,aa4,aa3,abr,abf,aam,w_wr,b_lt,b_le,b_eq,aaz,abl,b_or,aa1,aaj,aag,abp,abd,aal,aan,aa2,w_mk,aao,aa9,abo,abj,abg,aa6,aa8,abq,aa0,aau,abe,w_l0,w_l1,aaf,aae,aaw,aac,aad,aak,aai,aaq,aar,aas,aap,abn,abm,aat,abh],?_⟩
   simp only [aay,aa5,aax,aa4,aa3,abr,abf,aam,w_wr,b_lt,b_le,b_eq,aaz,abl,b_or,aa1,aaj,aag,abp,abd,aal,aan,aa2,w_mk,aao,aa9,abo,abj,abg,aa6,aa8,abq,aa0,aau,abe,w_l0,w_l1,aaf,aae,aaw,aac,aad,aak,aai,aaq,aar,aas,aap,abn,abm,aat,abh,w_eq,a3x,a3y,a3z,a4a,b0p,bd9,aok,amn,bea,azg,aa7] at hh
   simp only [List.map_cons,List.map_nil,aay,aa5,aax,aa4,aa3,abr,abf,aam,w_wr,b_lt,b_le,b_eq,aaz,abl,b_or,aa1,aaj,aag,abp,abd,aal,aan,aa2,w_mk,aao,aa9,abo,abj,abg,aa6,aa8,abq,aa0,aau,abe,w_l0,w_l1,aaf,aae,aaw,aac,aad,aak,aai,aaq,aar,aas,aap,abn,abm,aat,abh,w_lt,w_le,w_eq,ao0,as0,w_or,akp,aiw,ao1,aci]
   have hA:Typ sI (v 0):=by simp only [hh]
   have h0:0≤(v 9).iv:=by simp only [hh]
   have e0:=ae0 hA
   generalize (v 0).iv=z0 at *
  ·have hi:(v 9).iv<14:=by simp only [hh]
   simp only [ao8 h0 hi,acn,a1b h0 hi,e0,ad3] at hh
   have h7:z0=7:=by have:=hh.1;have:=hh.2.2.1;omega
   have h4:(v 4).bv=true:=by simp only [hh]
   rw [h7,h4]
   rfl
  ·have hi:(v 9).iv<14:=by simp only [hh]
   simp only [ao8 h0 hi,acn,a1b h0 hi,e0,ad3] at hh
   rw [ao8 h0 hi,← hh.2.2.1,bnm h0 hi (.inl hh.1)]
  ·have hi:(v 9).iv<14:=by simp only [hh]
   simp only [ao8 h0 hi,acn,a1b h0 hi,e0,ad3] at hh
   have h4:(v 4).bv=false:=by simpa using hh.1
   rw [ao8 h0 hi,← hh.2.1,h4,bnm h0 hi (.inr rfl)]
  ·have hn:noK z0 (v 9).iv.toNat=true:=by simp only [hh]
   rw [bue h0 hh.1 hn]
   rfl
noncomputable def SDec(b:X):Fsp:=⟨[(false,[sI])],[.ap .le [zI,.var 0],.ap .le [.var 0,b]],[(false,[.str])],[([],[[.ap (.usr 251) [.var 0]]])],true⟩
noncomputable def bff:Fsp:=SDec (.ap (.usr 310) [])
noncomputable def bn3:Fsp:=SDec (.ap (.usr 311) [])
noncomputable def T36:List (FuncId×Fsp):=[(36,bn3)]
abbrev dgX:X:=.lit (.string ⟨⟨[48,49,50,51,52,53,54,55,56,57]⟩⟩)
abbrev qtX:X:=.ap (.bin .quo .i64) [.var 0,I 10]
abbrev rtX:X:=.ap (.bin .rem .i64) [.var 0,I 10]
noncomputable def hs36:Hs:=⟨afu [],hintA [(2,fun F H=>[.ap .le [I 10,.ap .slen [dgX]]]),(3,fun F H=>[.ap .le [zI,qtX],.ap .le [qtX,.ap (.usr 311) []],.ap .le [zI,rtX],.ap .le [rtX,.ap (.usr 311) []],.ap .le [.ap .slen [.ap (.usr 251) [qtX]],I 20],.ap .le [.ap .slen [.ap (.usr 251) [rtX]],I 20]])]⟩
abbrev amo:X:=(.ap (.bin .quo .i64) [(.var 0),(I 10)])
abbrev amq:X:=(.ap (.bin .rem .i64) [(.var 0),(I 10)])
abbrev aol:X:=(.ap .not [(.ap .lt [(.var 0),(I 10)])])
abbrev ali:List X:=[(.ap .le [mnX,(.var 0)]),(.ap .le [(.var 0),mxX]),(.ap .le [(I 0),(.var 0)]),(.ap .le [(.var 0),(.ap (.usr 310) [])])]
set_option maxRecDepth 100000 in
def bv4:List VC:=[(((.ap .lt [(.var 0),(I 10)])::ali),(.ap .le [(I 10),(.ap .slen [(.lit (.string (.mk (.mk [48,49,50,51,52,53,54,55,56,57]))))])])),
 ((aol::ali),(.ap .le [(I 0),amo])),
 ((aol::ali),(.ap .le [amo,(.ap (.usr 311) [])])),
 ((aol::ali),(.ap .le [(I 0),amq])),
 ((aol::ali),(.ap .le [amq,(.ap (.usr 311) [])])),
 ((aol::ali),(.ap .le [(.ap .slen [(.ap (.usr 251) [amo])]),(I 20)])),
 ((aol::ali),(.ap .le [(.ap .slen [(.ap (.usr 251) [amq])]),(I 20)]))]
set_option maxRecDepth 100000 in
def bv3:List (List X×List (List X)):=[(((.ap .le [(I 10),(.ap .slen [(.lit (.string (.mk (.mk [48,49,50,51,52,53,54,55,56,57]))))])])::(.ap .lt [(.var 0),(I 10)])::ali),[[(.ap .ssub [(.lit (.string (.mk (.mk [48,49,50,51,52,53,54,55,56,57])))),(.var 0),(.ap (.add .i64) [(.var 0),(I 1)])])]]),
 (((.ap (.typ .str) [(.ap (.usr 251) [amq])])::(.ap (.typ .str) [(.ap (.usr 251) [amo])])::(.ap .le [(I 0),amo])::(.ap .le [amo,(.ap (.usr 311) [])])::(.ap .le [(I 0),amq])::(.ap .le [amq,(.ap (.usr 311) [])])::(.ap .le [(.ap .slen [(.ap (.usr 251) [amo])]),(I 20)])::(.ap .le [(.ap .slen [(.ap (.usr 251) [amq])]),(I 20)])::aol::ali),[[(.ap (.sbin .add) [(.ap (.usr 251) [amo]),(.ap (.usr 251) [amq])])]])]
set_option maxRecDepth 100000 in
theorem bz5:runS Tryd.prog (ahj (tab T36)) 10 20 hs36 Tryd.f36 (acv Tryd.f36) bff=some (bv4,bv3):=by kernel_rfl
@[reducible] noncomputable def Wn (n:Nat):Us:=⟨fun k l=>if k=310 then vInt .i64 (n:Nat) else if k=311 then vInt .i64 ((n:Nat) - 1) else @Us.u U k l,lcOf []⟩
theorem b0q(n:Nat):@Us.u (Wn n) 310 []=vInt .i64 (n:Nat):=rfl
theorem b0r(n:Nat):@Us.u (Wn n) 311 []=vInt .i64 ((n:Nat) - 1):=rfl
theorem bw1(n:Nat)(a:CD):@Us.u (Wn n) 251 [a]=tx (Lib.itoa a.iv):=rfl
theorem bsu{z:Int}(h0:0≤z)(h1:z≤9223372036854775807):orV (adf .quo .i64 z 10)=vInt .i64 (z / 10):=by
 have:adf .quo .i64 z 10=some (.int .i64 (IntKind.i64.wrap (z.tdiv 10))):=rfl
 rw [this]
 show vInt .i64 (IntKind.i64.wrap (z.tdiv 10))=_
 haveI:Sg:=@Sg.mk U fun _=>default
 rw [Int.tdiv_eq_ediv_of_nonneg h0,a4r (k:=.i64) (by show(-9223372036854775808:Int)≤_;omega) (by show _≤(9223372036854775807:Int);omega)]
theorem bsv{z:Int}(h0:0≤z)(h1:z≤9223372036854775807):orV (adf .rem .i64 z 10)=vInt .i64 (z % 10):=by
 have:adf .rem .i64 z 10=some (.int .i64 (z.tmod 10)):=rfl
 rw [this]
 show vInt .i64 (z.tmod 10)=_
 haveI:Sg:=@Sg.mk U fun _=>default
 rw [Int.tmod_eq_emod_of_nonneg h0]
abbrev digD:CD:=.v (.string ⟨⟨[48,49,50,51,52,53,54,55,56,57]⟩⟩)
theorem bmi:(10:Int)≤(digD.slen:Int):=by
 show(10:Int)≤((clip 10:Nat):Int)
 unfold clip maxN
 omega
theorem bsd{z:Int}(h0:0≤z)(h1:z<10):Lib.itoa z=[UInt8.ofNat (48+z.toNat)]:=by
 rw [aoa h0,Lib.decDigits,dif_pos (by omega)]
theorem byu{z:Int}(h0:0≤z)(h1:¬ z<10):Lib.itoa z=Lib.itoa (z / 10)++Lib.itoa (z % 10):=by
 rw [aoa h0,Lib.decDigits,dif_neg (by omega),aoa (by omega),bsd (by omega) (by omega),show(z / 10).toNat=z.toNat / 10 by omega,show(z % 10).toNat=z.toNat % 10 by omega]
theorem bwm{z:Int}(h0:0≤z)(h1:z<10):subT digD z (z+1)=tx (Lib.itoa z):=by
 rw [bsd h0 h1]
 have e:digD.str.toList=[48,49,50,51,52,53,54,55,56,57]:=by
  show(ByteArray.mk _).toList=_
  rw [ByteArray.toList_eq]
 unfold subT
 rw [e]
 have:z=0∨z=1∨z=2∨z=3∨z=4∨z=5∨z=6∨z=7∨z=8∨z=9:=by omega
 rcases this with rfl | rfl | rfl | rfl | rfl | rfl | rfl | rfl | rfl | rfl<;>rfl
theorem bcu{z:Int}(h0:0≤z)(h1:z≤9223372036854775807):((tx (Lib.itoa z)).slen:Int)≤20:=by
 have:=an9 (n:=z) (by omega) h1
 rw [akk (by unfold maxN;omega)]
 omega
set_option maxHeartbeats 1000000 in
set_option maxRecDepth 100000 in
theorem bb8(n:Nat)(h:abk (Wn n) Tryd.prog 36 bn3):abk (Wn n) Tryd.prog 36 bff:=by
 refine abk.of (P:=Tryd.prog) (U:=Wn n) (T:=(tab T36)) (f:=36) (fn:=Tryd.f36) (fuel:=10) (fk:=20) (hs:=hs36) (S:=bff) (v:=bv4) (outs:=bv3) mixed (an0.cons h .nil) at36 bz5 ?_ ?_
 ·unfold bv4
  repeat' (first | exact ae1 _ | refine ae3 (fun v hh=>?_) ?_)
  all_goals
   simp only [aay,aa5,aax,aa4,aa3,abr,abf,aam,w_wr,b_lt,b_le,b_eq,aaz,abl,b_or,aa1,aaj,aag,abp,abd,aal,aan,aa2,w_mk,aao,aa9,abo,abj,abg,aa6,aa8,abq,aa0,aau,abe,w_l0,w_l1,aaf,aae,aaw,aac,aad,aak,aai,aaq,aar,aas,aap,abn,abm,aat,abh,w_eq,b0q,b0r,bw1,ali,amo,amq,aol,aa7] at hh ⊢
  ·exact bmi
  all_goals
   have h0:0≤(v 0).iv:=by simp only [hh]
   have h1:(v 0).iv≤9223372036854775807:=by simp only [hh]
   have h2:(v 0).iv≤(n:Int):=by simp only [hh]
   have h3:¬ (v 0).iv<10:=hh.1
   simp only [bsu h0 h1,bsv h0 h1,aaf]
   first
   | omega
   | exact bcu (by omega) (by omega)
 ·intro o ho σ hU hh
  obtain⟨v⟩:=σ
  cases hU
  simp only [bv3,List.mem_cons,List.not_mem_nil,or_false] at ho
  rcases ho with rfl | rfl
  all_goals
   refine⟨_,List.mem_cons_self ..,by simp only [aay,aa5,aax,aa4,aa3,abr,abf,aam,w_wr,b_lt,b_le,b_eq,aaz,abl,b_or,aa1,aaj,aag,abp,abd,aal,aan,aa2,w_mk,aao,aa9,abo,abj,abg,aa6,aa8,abq,aa0,aau,abe,w_l0,w_l1,aaf,aae,aaw,aac,aad,aak,aai,aaq,aar,aas,aap,abn,abm,aat,abh],?_⟩
   simp only [aay,aa5,aax,aa4,aa3,abr,abf,aam,w_wr,b_lt,b_le,b_eq,aaz,abl,b_or,aa1,aaj,aag,abp,abd,aal,aan,aa2,w_mk,aao,aa9,abo,abj,abg,aa6,aa8,abq,aa0,aau,abe,w_l0,w_l1,aaf,aae,aaw,aac,aad,aak,aai,aaq,aar,aas,aap,abn,abm,aat,abh,w_eq,bnl,b0q,b0r,bw1,ali,amo,amq,aol,aa7] at hh
   simp only [List.map_cons,List.map_nil,aay,aa5,aax,aa4,aa3,abr,abf,aam,w_wr,b_lt,b_le,b_eq,aaz,abl,b_or,aa1,aaj,aag,abp,abd,aal,aan,aa2,w_mk,aao,aa9,abo,abj,abg,aa6,aa8,abq,aa0,aau,abe,w_l0,w_l1,aaf,aae,aaw,aac,aad,aak,aai,aaq,aar,aas,aap,abn,abm,aat,abh,w_lt,w_le,w_eq,ao0,as0,w_or,akp,aiw,ao1,bnl,bw1]
   have h0:0≤(v 0).iv:=by simp only [hh]
   have h1:(v 0).iv≤9223372036854775807:=by simp only [hh]
  ·rw [bwm h0 hh.2.1]
  ·have h3:¬ (v 0).iv<10:=by simp only [hh,not_false_eq_true]
   rw [bsu h0 h1,bsv h0 h1,aaf,aaf,a4w (by
    have:=an9 (n:=(v 0).iv / 10) (by omega) (by omega)
    have:=an9 (n:=(v 0).iv % 10) (by omega) (by omega)
    omega),← byu h0 h3]
set_option maxRecDepth 100000 in
theorem bh7:∀ n:Nat,abk (Wn n) Tryd.prog 36 bff
 | 0=>bb8 0 (abk.move (U':=Wn 0) (S':=bn3) (S:=bn3) (by
   intro σ hU m w us htw hm hargs hpre
   obtain⟨v⟩:=σ
   cases hU
   have h1:=hpre (.ap .le [zI,.var 0]) (List.mem_cons_self ..)
   have h2:=hpre (.ap .le [.var 0,.ap (.usr 311) []]) (List.mem_cons_of_mem _ (List.mem_cons_self ..))
   have h1:(0:Int)≤(v 0).iv:=of_decide_eq_true h1
   have h2:(v 0).iv≤((0:Nat):Int) - 1:=of_decide_eq_true h2
   omega) (fun _=>rfl) rfl rfl rfl (fun v h=>h) (fun v _ o' ho hh=>⟨o',ho,hh,rfl⟩))
 | n+1=>bb8 (n+1) (abk.move (U':=Wn n) (S':=bff) (bh7 n) (fun _=>rfl) rfl rfl rfl (fun v h x hx=>by
   rcases List.mem_cons.1 hx with rfl | hx
   ·exact h _ (List.mem_cons_self ..)
   ·rw [List.mem_singleton.1 hx]
    have h2:=h (.ap .le [.var 0,.ap (.usr 311) []]) (List.mem_cons_of_mem _ (List.mem_cons_self ..))
    have h2:(v 0).iv≤((n+1:Nat):Int) - 1:=of_decide_eq_true h2
    exact decide_eq_true (show(v 0).iv≤((n:Nat):Int) by omega)) (fun v _ o' ho hh=>⟨_,List.mem_cons_self ..,fun x hx=>(by cases hx),by
    rw [List.mem_singleton.1 ho]
    rfl⟩))
noncomputable def bxe:Fsp:=SDec (I 1073741824)
set_option maxRecDepth 100000 in
theorem b24:abk U Tryd.prog 36 bxe:=abk.move (U':=Wn 1073741824) (S':=bff) (bh7 1073741824) (fun _=>rfl) rfl rfl rfl (fun v h x hx=>by
  rcases List.mem_cons.1 hx with rfl | hx
  ·exact h _ (List.mem_cons_self ..)
  ·rw [List.mem_singleton.1 hx]
   have h2:=h (.ap .le [.var 0,I 1073741824]) (List.mem_cons_of_mem _ (List.mem_cons_self ..))
   have h2:(v 0).iv≤1073741824:=of_decide_eq_true h2
   exact decide_eq_true (show(v 0).iv≤((1073741824:Nat):Int) by omega)) (fun v _ o' ho hh=>⟨_,List.mem_cons_self ..,fun x hx=>(by cases hx),by
    rw [List.mem_singleton.1 ho]
    rfl⟩)
end Go.Proofs.YtamhchkknlbanaaDoor.Be
