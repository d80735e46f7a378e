/-
  Contracts of a seat's functions: a table more, as the document says. Conditions: none.
-/
import Derived.Test.YtlbbkmcegbeckaaSbK
import Derived.Test.YtlbbkmcegbeckaaSbA
set_option linter.unusedSectionVars false
set_option linter.unusedVariables false
set_option linter.unusedSimpArgs false
namespace Go.Proofs.Ytlbbkmcegbeckaa
open Go.Sx Go.Proofs
def spR(l f t:CD)(n i:Int):List (List CD):=cqx f t (cba l) n.toNat i.toNat
theorem us34(l f t n i:CD):@Us.u U 34 [l,f,t,n,i]=mkz (spR l f t n.iv i.iv):=rfl
section
variable {l f t:CD} {n i:Int}
theorem cpj(h0:0≤n)(h:n<l.len)(hT:Typ sLev l):(cba l)[n.toNat]? = some (l.cell n 0).rows:=by
 have hl:=hT.sl.1
 have hlt:n.toNat<l.rows.length:=by omega
 unfold cba CD.cell
 rw [List.getElem?_map,List.getElem?_eq_getElem hlt,show l.rows.getD n.toNat []=l.rows[n.toNat] by rw [List.getD_eq_getElem?_getD,List.getElem?_eq_getElem hlt];rfl]
 rfl
theorem ckc(h0:0≤n)(h:n<l.len)(hT:Typ sLev l):(cba l).getD n.toNat []=(l.cell n 0).rows:=by
 rw [List.getD_eq_getElem?_getD,cpj h0 h hT]
 rfl
theorem ddl:spR l f t 0 0=[]:=by
 unfold spR cqx
 simp [b6c]
theorem ddk(hT:Typ sLev l)(h0:0≤n)(h:n<l.len)(i0:0≤i)(hi:i<(l.cell n 0).len):spR l f t n (i+1)=spR l f t n i++opt (cey f t [(l.cell n 0).cell i 0,(l.cell n 0).cell i 1,(l.cell n 0).cell i 2,(l.cell n 0).cell i 3,(l.cell n 0).cell i 4]) [(l.cell n 0).cell i 0,(l.cell n 0).cell i 1,(l.cell n 0).cell i 2,(l.cell n 0).cell i 3,(l.cell n 0).cell i 4]:=by
 have hc:Typ (.sl sRun) (l.cell n 0):=hT.cell (j:=0) h0 h rfl
 unfold spR cqx
 rw [ckc h0 h hT]
 unfold b6c
 rw [b9y hc i0 hi,List.append_assoc]
theorem ddj(hT:Typ sLev l)(h0:0≤n)(h:n<l.len)(hi:¬ i<(l.cell n 0).len):spR l f t n i=spR l f t (n+1) 0:=by
 have hc:Typ (.sl sRun) (l.cell n 0):=hT.cell (j:=0) h0 h rfl
 have hl:=hT.sl.1
 unfold spR cqx
 rw [ckc h0 h hT,b8e hc hi,show(n+1).toNat=n.toNat+1 by omega,List.take_add_one,cpj h0 h hT]
 simp [b6c]
theorem c09(hT:Typ sLev l)(h:¬ n<l.len):spR l f t n 0=(cba l).flatMap (b6c f t):=by
 have hl:=hT.sl.1
 unfold spR cqx
 rw [List.take_of_length_le (by unfold cba;rw [List.length_map];omega)]
 simp [b6c]
theorem cq0(h:b4c l=true):b57 l f t=mkz ((cba l).flatMap (b6c f t)):=if_pos h
theorem cvk(h:¬ b4c l=true):b57 l f t=.sl true []:=ciu h
theorem cqz(ht:0<t.len)(hc:cmpC t f≤0):b57 l f t=.sl true []:=by
 unfold b57
 split
 ·have:(cba l).flatMap (b6c f t)=[]:=by
   rw [List.flatMap_eq_nil_iff]
   intro x _
   unfold b6c
   rw [List.filter_eq_nil_iff]
   intro r _ hr
   unfold cey at hr
   rw [Bool.and_eq_true,Bool.or_eq_true,decide_eq_true_eq,decide_eq_true_eq] at hr
   have:=cgn f t
   omega
  rw [this]
  rfl
 ·rfl
end
noncomputable def T20:List (FuncId×Fsp):=[(17,S16)]
set_option maxRecDepth 100000 in
theorem hT20:b70 U Try.prog T20:=.cons c17 .nil
noncomputable def dbw:Lp:=⟨[(.slot 7,.own true sRun),(.slot 8,.int .i64)],[0,1,2,6],[0],fun F H k=>[.ap .le [zI,.var (k+2)],.ap .le [.var (k+2),.ap .len [.var 0]],.ap .le [.var k,.ap (.mul .i64) [.var (k+2),I 40]],.ap .le [zI,.var k],.ap .same [.ap (.mk true) [.var (k+1)],.ap (.usr 34) [.var 0,.var 1,.var 2,.var (k+2),I 0]]],fun F H k=>.ap (.sub .i64) [.ap .len [.var 0],.var (k+2)]⟩
noncomputable def dbx:Lp:=⟨[(.slot 7,.own true sRun),(.slot 9,.int .i64)],[0,1,2,6,8],[0],fun F H k=>[.ap .le [zI,.var (k+2)],.ap .le [.var (k+2),.ap .len [.ap (.cell 0) [.var 0,sx F 8]]],.ap .le [.var k,.ap (.add .i64) [.ap (.mul .i64) [sx F 8,I 40],.var (k+2)]],.ap .le [zI,.var k],.ap .same [.ap (.mk true) [.var (k+1)],.ap (.usr 34) [.var 0,.var 1,.var 2,sx F 8,.var (k+2)]]],fun F H k=>.ap (.sub .i64) [.ap .len [.ap (.cell 0) [.var 0,sx F 8]],.var (k+2)]⟩
noncomputable def as20:Fm→HP→List X:=fun F H=>[.ap .le [.ap .len [.ap (.cell 0) [.var 0,sx F 8]],I 40]]
noncomputable def S20:Fsp:=⟨[(false,[sLev]),(false,[sB]),(false,[sB])],[.ap .not [.ap (.usr 12) [.var 0,I 40]]],[(false,[sR])],[([],[[.ap (.usr 35) [.var 0,.var 1,.var 2]]])],false⟩
abbrev b8i:X:=(.ap (.cell 0) [(.var 0),(.var 5)])
abbrev cla:X:=(.ap (.usr 34) [(.var 0),(.var 1),(.var 2),(.var 5),(.ap (.add .i64) [(.var 8),(.lit (.int .i64 1))])])
abbrev cib:X:=(.ap (.sbin .leq) [(.ap .str [(.var 1)]),(.ap .str [(.ap (.cell 4) [b8i,(.var 8)])])])
abbrev cu5:X:=(.ap .same [(.ap (.mk true) [(.ap .cat [(.var 7),(.ap .snoc [(.ap (.nil false) []),(.ap (.cell 0) [b8i,(.var 8)]),(.ap (.cell 1) [b8i,(.var 8)]),(.ap (.cell 2) [b8i,(.var 8)]),(.ap (.cell 3) [b8i,(.var 8)]),(.ap (.cell 4) [b8i,(.var 8)])])])]),cla])
abbrev ce7:X:=(.ap .le [(.ap .len [(.var 0)]),(.lit (.int .i64 4))])
abbrev ccu:X:=(.ap .lt [(.var 8),(.ap .len [b8i])])
abbrev ce8:X:=(.ap .lt [(.var 5),(.ap .len [(.var 0)])])
abbrev clb:X:=(.ap (.sbin .leq) [(.ap .str [(.var 2)]),(.ap .str [(.var 1)])])
abbrev cic:X:=(.ap (.usr 22) [(.var 0)])
abbrev cu6:X:=(.ap .same [(.ap (.mk true) [(.var 7)]),(.ap (.usr 34) [(.var 0),(.var 1),(.var 2),(.ap (.add .i64) [(.var 5),(.lit (.int .i64 1))]),(.lit (.int .i64 0))])])
abbrev cej:X:=(.ap .le [(.ap .len [b8i]),(.lit (.int .i64 40))])
abbrev cnp:X:=(.ap .same [(.ap (.mk true) [(.ap (.nil true) [])]),(.ap (.usr 34) [(.var 0),(.var 1),(.var 2),(.lit (.int .i64 0)),(.lit (.int .i64 0))])])
abbrev cek:X:=(.ap (.mul .i64) [(.var 5),(.lit (.int .i64 40))])
abbrev cnq:X:=(.ap .same [(.ap (.mk true) [(.var 4)]),(.ap (.usr 34) [(.var 0),(.var 1),(.var 2),(.var 5),(.lit (.int .i64 0))])])
abbrev ch9:X:=(.ap .le [(.lit (.int .i64 (-9223372036854775808))),cic])
abbrev cia:X:=(.ap .le [cic,(.lit (.int .i64 9223372036854775807))])
abbrev cqh:List X:=[(.ap (.typ (.sl [(.sl [(.int .i64),(.int .i64),(.int .i64),(.sl [(.int .u8)]),(.sl [(.int .u8)])])])) [(.var 0)]),(.ap (.typ (.sl [(.int .u8)])) [(.var 1)]),(.ap (.typ (.sl [(.int .u8)])) [(.var 2)]),(.ap .not [(.ap (.usr 12) [(.var 0),(.lit (.int .i64 40))])])]
abbrev ck8:List X:=ch9::cia::(.ap .lt [(.lit (.int .i64 0)),(.ap .len [(.var 2)])])::(.ap .eq [cic,(.lit (.int .i64 0))])::cqh
abbrev cqi:List X:=(.ap .le [(.lit (.int .i64 0)),(.var 5)])::(.ap .le [(.var 5),(.ap .len [(.var 0)])])::(.ap .le [(.var 3),cek])::(.ap .le [(.lit (.int .i64 0)),(.var 3)])::cnq::ce7::(.ap .not [clb])::ck8
abbrev ck9:List X:=(.ap .le [(.lit (.int .i64 0)),(.var 8)])::(.ap .le [(.var 8),(.ap .len [b8i])])::(.ap .le [(.var 6),(.ap (.add .i64) [cek,(.var 8)])])::(.ap .le [(.lit (.int .i64 0)),(.var 6)])::(.ap .same [(.ap (.mk true) [(.var 7)]),(.ap (.usr 34) [(.var 0),(.var 1),(.var 2),(.var 5),(.var 8)])])::cej::ce8::cqi
abbrev cqj:List X:=ch9::cia::(.ap .not [(.ap .lt [(.lit (.int .i64 0)),(.ap .len [(.var 2)])])])::(.ap .eq [cic,(.lit (.int .i64 0))])::cqh
abbrev cqk:List X:=(.ap .le [(.lit (.int .i64 0)),(.var 5)])::(.ap .le [(.var 5),(.ap .len [(.var 0)])])::(.ap .le [(.var 3),cek])::(.ap .le [(.lit (.int .i64 0)),(.var 3)])::cnq::ce7::cqj
abbrev cql:List X:=(.ap .le [(.lit (.int .i64 0)),(.var 8)])::(.ap .le [(.var 8),(.ap .len [b8i])])::(.ap .le [(.var 6),(.ap (.add .i64) [cek,(.var 8)])])::(.ap .le [(.lit (.int .i64 0)),(.var 6)])::(.ap .same [(.ap (.mk true) [(.var 7)]),(.ap (.usr 34) [(.var 0),(.var 1),(.var 2),(.var 5),(.var 8)])])::cej::ce8::cqk
set_option maxRecDepth 100000 in
def c9c:List VC:=[(((.ap .not [clb])::ck8),ce7),
 ((ce7::(.ap .not [clb])::ck8),cnp),
 ((ce8::cqi),cej),
 (((.ap (.sbin .lss) [(.ap .str [(.ap (.cell 3) [b8i,(.var 8)])]),(.ap .str [(.var 2)])])::cib::ccu::ck9),cu5),
 (((.ap .not [(.ap (.sbin .lss) [(.ap .str [(.ap (.cell 3) [b8i,(.var 8)])]),(.ap .str [(.var 2)])])])::cib::ccu::ck9),(.ap .same [(.ap (.mk true) [(.var 7)]),cla])),
 (((.ap .not [cib])::ccu::ck9),(.ap .same [(.ap (.mk true) [(.var 7)]),cla])),
 (((.ap .not [ccu])::ck9),cu6),
 (cqj,ce7),
 ((ce7::cqj),cnp),
 ((ce8::cqk),cej),
 ((cib::ccu::cql),cu5),
 (((.ap .not [cib])::ccu::cql),(.ap .same [(.ap (.mk true) [(.var 7)]),cla])),
 (((.ap .not [ccu])::cql),cu6)]
set_option maxRecDepth 100000 in
def c9a:List (List X×List (List X)):=[((ch9::cia::(.ap .not [(.ap .eq [cic,(.lit (.int .i64 0))])])::cqh),[[(.ap (.nil true) [])]]),
 ((clb::ck8),[[(.ap (.nil true) [])]]),
 (((.ap .not [ce8])::cqi),[[(.ap (.mk true) [(.var 4)])]]),
 (((.ap .not [ce8])::cqk),[[(.ap (.mk true) [(.var 4)])]])]
set_option maxRecDepth 100000 in
theorem dck:runS Try.prog (b6d (tab T20)) 10 14 ⟨b4p [(5,dbw),(8,dbx)],hintA [(4,c2q),(7,as20)]⟩ Try.f20 (b4b Try.f20) S20=some (c9c,c9a):=by kernel_rfl
set_option maxHeartbeats 4000000 in
set_option maxRecDepth 100000 in
theorem c20:b3m U Try.prog 20 S20:=by
 refine b3m.of (P:=Try.prog) (U:=U) (T:=(tab T20)) (f:=20) (fn:=Try.f20) (fuel:=10) (fk:=14) (hs:=⟨b4p [(5,dbw),(8,dbx)],hintA [(4,c2q),(7,as20)]⟩) (S:=S20) (v:=c9c) (outs:=c9a) mixed hT20 at20 dck ?_ ?_
 ·unfold c9c
  repeat' (first | exact b44 _ | refine b3r (fun v hh=>?_) ?_)
  all_goals
   simp only [b3o,b3t,b3s,b3z,b4d,b4l,b_lt,b_le,b_eq,b3w,b3y,b3p,b30,b3k,b35,w_mk,b3l,b4e,b4m,b3v,b3x,w_l0,w_l1,b3e,b3d,b3u,b3b,b3c,b3g,b3f,us34,us12,us22,us35,chkC,len0,ci1,ci0,csw,b5y,b63,ccp,b73,List.nil_append,Bool.not_eq_true',decide_eq_false_iff_not,decide_eq_true_eq,cqh,b8i,cla,cib,cu5,ce7,ccu,ce8,clb,cic,cu6,cej,cnp,cek,cnq,ch9,cia,ck8,cqi,ck9,cqj,cqk,cql] at hh ⊢
   repeat (obtain⟨_,hh⟩:=hh)
   try (first | grind [ddl,ddk,ddj,c09,c4r,c4q,cmr,cq0,cvk,cqz,→ b7w,cgn,= b3e] | (apply b6x<;>first | assumption | grind))
 ·intro o ho σ hU hh
  obtain⟨v⟩:=σ
  cases hU
  simp only [c9a,List.mem_cons,List.not_mem_nil,or_false] at ho
  repeat' (first | (rcases ho with rfl | ho) | subst ho)
  all_goals
   refine⟨_,List.mem_cons_self ..,by simp only [b3o,b3t,b3s,b3z,b4d,b4l,b_lt,b_le,b_eq,b3w,b3y,b3p,b30,b3k,b35,w_mk,b3l,b4e,b4m,b3v,b3x,w_l0,w_l1,b3e,b3d,b3u,b3b,b3c,b3g,b3f],?_⟩
   simp only [b3o,b3t,b3s,b3z,b4d,b4l,b_lt,b_le,b_eq,b3w,b3y,b3p,b30,b3k,b35,w_mk,b3l,b4e,b4m,b3v,b3x,w_l0,w_l1,b3e,b3d,b3u,b3b,b3c,b3g,b3f,us34,us12,us22,us35,chkC,len0,ci1,ci0,csw,b5y,b63,ccp,b73,List.nil_append,Bool.not_eq_true',decide_eq_false_iff_not,decide_eq_true_eq,cqh,b8i,cla,cib,cu5,ce7,ccu,ce8,clb,cic,cu6,cej,cnp,cek,cnq,ch9,cia,ck8,cqi,ck9,cqj,cqk,cql] at hh
   simp only [List.map_cons,List.map_nil,b3o,b3t,b3s,b3z,b4d,b4l,b_lt,b_le,b_eq,b3w,b3y,b3p,b30,b3k,b35,w_mk,b3l,b4e,b4m,b3v,b3x,w_l0,w_l1,b3e,b3d,b3u,b3b,b3c,b3g,b3f,w_lt,w_le,w_eq,cs7,c1x,crg,us34,us12,us22,us35,chkC,len0,ci1,ci0,csw,b5y,b63,ccp,b73,List.nil_append,Bool.not_eq_true',decide_eq_false_iff_not,decide_eq_true_eq]
   repeat (obtain⟨_,hh⟩:=hh)
   try (first | grind [ddl,ddk,ddj,c09,c4r,c4q,cmr,cq0,cvk,cqz,→ b7w,cgn,= b3e] | (apply b6x<;>first | assumption | grind))
end Go.Proofs.Ytlbbkmcegbeckaa

namespace Go.Sx
def cv3(U:Us)(P:Program)(f:FuncId)(S:Fsp):Prop :=
 ∀ σ:Sg,σ.toUs=U→∀ (m:Mem) (w:World) (us:Array Value),TW w→(∀ k o,m k o→w.heap[k]? = some o)→b8g m S.args ((cjo 0 S.args).map (@denL σ)) us.toList→@Holds σ S.pre →
  b4n P (fun u w'=>Keep w w'∧∃ o∈S.outs,@Holds σ o.1∧ResR (fun k ob=>w'.heap[k]? = some ob) S.res (o.2.map (@denL σ)) u) ((callFunc f us).run P w)
noncomputable section
def endM(P:Program)[Plain P](fn:Func)(S:Fsp)(x:Oc):Option (List X×List (List X)) :=
 match x.1 with
 | .ext _=>none
 | _=>match resL P x.2.2 x.2.1 fn.results.toList with
  | some vs=>match ce5 x.2.2 S.res vs with
   | some (es,G,O)=>some (x.2.2.hy,es)
   | none=>none
  | none=>none
def c25(P:Program)[Plain P](fn:Func)(S:Fsp):List Oc→Option (List (List X×List (List X)))
 | []=>some []
 | x::r=>match endM P fn S x,c25 P fn S r with
  | some o,some l=>some (o::l)
  | _,_=>none
def runM(P:Program)[Plain P](cx:Cx)(hs:Hs)(fn:Func)(c:Code)(S:Fsp):Option (List VC×List (List X×List (List X))) :=
 match F0 S,Nat.ble S.args.length fn.ntmps&&cqu (numV S.args) S.outs with
 | some F,true=>match ca9 P cx fn.ntmps hs c F (H0 S) with
  | some (v,l)=>match c25 P fn S l with
   | some outs=>some (v,outs)
   | none=>none
  | none=>none
 | _,_=>none
end
section
variable {P:Program} [Plain P] {U:Us} {hs:Hs}
theorem co5{fn:Func}{S:Fsp}:∀ {xs:List Oc} {os:List (List X×List (List X))},c25 P fn S xs=some os→∀ x∈xs,∃ o∈os,endM P fn S x=some o
 | [],os,h,x,hx=>by cases hx
 | y::xs,os,h,x,hx=>by
  simp only [c25] at h
  split at h
  ·rename_i o l ho hl
   cases h
   rcases List.mem_cons.1 hx with rfl | hx
   ·exact⟨o,List.mem_cons_self ..,ho⟩
   ·obtain⟨q,h1,h2⟩:=co5 hl x hx
    exact⟨q,List.mem_cons_of_mem _ h1,h2⟩
  ·cases h
theorem cn2{cx:Cx}{f:FuncId}{fn:Func}{c:Code}{S:Fsp}{v:List VC}{outs:List (List X×List (List X))}(hm:P.follows .mixedOrders=true)(hcx:CxOK U P cx)(hrb:cx.rb=none)(hrg:b5v U.lc cx.rk c)(hf:P.funcs[f]? = some fn)(hb:fn.body=some c)(hcall:∀ us w,(callFunc f us).run P w=.ok (.enter f us) w)(hfl:b5d c=true)
  (h:runM P cx hs fn c S=some (v,outs)) (hv:∀ z∈v,VCok U z) (hend:∀ o∈outs,∀ σ:Sg,σ.toUs=U→@Holds σ o.1→∃ q∈S.outs,@Holds σ q.1∧q.2.map (@denL σ)=o.2.map (@denL σ)):cv3 U P f S:=by
 unfold runM at h
 split at h
 rotate_left
 ·cases h
 rename_i F hF hchk
 rw [Bool.and_eq_true] at hchk
 have hlen:=Nat.le_of_ble_eq_true hchk.1
 split at h
 rotate_left
 ·cases h
 rename_i v0 l hcode
 split at h
 rotate_left
 ·cases h
 rename_i outs0 houts
 cases h
 intro σ hU m w us htw hmem hargs hpre
 rw [hcall]
 show Calls P f us w _
 refine callsIn_wide.1 (callsIn_of_wp_marks (F:=Fence.wide) (n:=0) hf hb trivial ?_)
 let ρ0:PM:=fun b=>if b=0 then some ⟨w.heap.size,0,0,some m⟩ else none
 have hρ0:ρ0 0=some ⟨w.heap.size,0,0,some m⟩:=if_pos rfl
 have hnone:∀ b,b≠0→ρ0 b=none:=fun b hb=>if_neg hb
 have hnocell:∀ b i c,(H0 S).cell b i=some c→False:=fun b i c hc=>HP.cell_nil hc
 obtain⟨ps,hps,rfl⟩:=map_some hF
 have hat:∀ k o,m k o→ρ0.at [0] k o:=fun k o h=>⟨0,List.mem_singleton.2 rfl,_,m,hρ0,rfl,h⟩
 have hG0:∀ g∈[0],∃ L,ρ0 g=some L:=fun g hg=>by
  have:=List.mem_singleton.1 hg
  subst this
  exact⟨_,hρ0⟩
 have hrel0:=@chk ρ0 σ [0] hG0 _ _ _ _ hps (hargs.mono hat)
 have hargsR:=@cbr ρ0 σ _ _ hrel0
 have hal:=All2.length hargsR
 have hpl:ps.length=us.size:=by
  have:=hal
  simp only [List.length_map,Array.length_toList] at this
  exact this
 have hsl:∀ (ps:List Shp) (es:List (List X)) (rs:List (Bool×List Cel)),mkP ps [0] es=some rs→rs.length=ps.length:=by
  intro ps
  induction ps with
  | nil=>intro es rs h;cases es with
   | nil=>cases h;rfl
   | cons e es=>cases h
  | cons p ps ih =>
   intro es rs h
   cases es with
   | nil=>cases h
   | cons e es =>
    simp only [mkP] at h
    split at h
    ·rename_i c r hc hr
     have:=ih es r hr
     split at h
     ·cases h;simp [this]
     ·split at h
      ·cases h;simp [this]
      ·cases h
    ·cases h
 have hpl2:=hsl _ _ _ hps
 have s0:@SRel σ fn.ntmps ρ0 (cj5 .nil 0 (ps.map ce4)) (H0 S) { tmps:=us++Array.replicate (fn.ntmps - us.size) Go.undef,defers:=[] } w:=by
  refine @SRel.mk σ _ _ _ _ _ _ (@FRel.mk σ _ _ _ _ (by simp;omega) fun t v hv=>?_) ⟨fun b i c L hc=>(hnocell b i c hc).elim,fun b b' L L' ⟨i,c,hc⟩=>(hnocell b i c hc).elim,@b6e σ _ _ (@cn8 σ _ _ _ _ hargs) hpre⟩ (fun b hb=>hnone b (by have h1:1≤b:=hb;omega)) ⟨fun x hx=>⟨htw x hx,fun b L' ⟨i,c,hc⟩=>(hnocell b i c hc).elim⟩,fun g L M hg hM k o hko=>?_⟩
  ·rcases caw (ps.map ce4) .nil 0 t v hv with ⟨_,h1⟩ | h1
   ·obtain⟨u,hu,hr⟩:=All2.get hargsR _ _ h1
    rw [Nat.sub_zero,Array.getElem?_toList] at hu
    exact⟨u,by rw [Array.getElem?_append_left (Array.getElem?_eq_some_iff.1 hu).1];exact hu,hr⟩
   ·rw [PT.get_nil] at h1;cases h1
  ·by_cases h0:g=0
   ·subst h0
    rw [hρ0] at hg
    cases hg
    cases hM
    exact⟨hmem k o hko,fun b L' ⟨i,c,hc⟩=>(hnocell b i c hc).elim⟩
   ·rw [hnone g h0] at hg;cases hg
 have K:=ccb (n:=fn.ntmps) (m:=0) (r:=none) hm hcx c hfl hrg hcode hv σ hU
 rw [hrb] at K
 refine K.wp (m0:=w.heap.size) s0 trivial (Nat.le_refl _) (DfOK.nil _ _ _ _) fun σ' he x hx ρ' a' w' s' hdf hs'=>?_
 obtain⟨o,ho,hend'⟩:=co5 houts x hx
 obtain⟨e,F,H1⟩:=x
 have hee:e=.nrm∨e=.rt:=by
  cases e with
  | nrm=>exact .inl rfl
  | rt=>exact .inr rfl
  | ext id=>cases hend'
 have hcore:(match resL P H1 F fn.results.toList with
  | some vs=>match ce5 H1 S.res vs with
   | some (es,G,O)=>some (H1.hy,es)
   | none=>none
  | none=>none)=some o:=by rcases hee with rfl | rfl<;>exact hend'
 split at hcore
 rotate_left
 ·cases hcore
 rename_i vs hvs
 split at hcore
 rotate_left
 ·cases hcore
 rename_i es G O hparts
 cases hcore
 have hkeep:Keep w w':=⟨fun k hk=>hs'.fr k hk fun b L ⟨i,c,hc⟩=>(hnocell b i c hc).elim,hs'.size,hs'.os,hs'.tape,hs'.output⟩
 have hK:@EndK σ' w ρ' H1 w':=@EndK.mk σ' w ρ' H1 w' (@SRel.hp σ' _ _ _ _ _ _ s') (@SRel.j σ' _ _ _ _ _ _ s') htw hkeep
 have hpost:LeavesInM Fence.wide 0 P fn a'.tmps (fun r w''=>∃ u',r=.returned u'∧(Keep w w''∧∃ o∈S.outs,@Holds σ o.1∧ResR (fun k ob=>w''.heap[k]? = some ob) S.res (o.2.map (@denL σ)) u')) a'.defers .returning w':=by
  refine @cbo P _ H1 w σ' ρ' fn a'.tmps _ (fun w2 hK2=>?_) _ _ hK hdf
  obtain⟨uvs,huvs,hvr⟩:=@csj P _ _ H1 w2 ρ' F a' σ' (@SRel.fr σ' _ _ _ _ _ _ s') (@EndK.rel σ' w ρ' H1 w2 hK2) (@EndK.j σ' w ρ' H1 w2 hK2) _ _ hvs
  obtain⟨hG,hpr⟩:=@ccs σ' _ _ _ (@EndK.rel σ' w ρ' H1 w2 hK2) _ _ _ _ _ _ hparts hvr
  obtain⟨q,hq,hqh,hqe⟩:=hend _ ho σ' (he.us.trans hU) (@HRel.hy σ' _ _ _ (@SRel.hp σ' _ _ _ _ _ _ s'))
  obtain⟨t1,t2⟩:=cb0 he hchk.2 q hq
  refine⟨oneOf uvs,?_,_,rfl,@EndK.keep σ' w ρ' H1 w2 hK2,q,hq,t1 hqh,uvs,?_,rfl⟩
  ·unfold results
   rw [Sem.run_bind,Array.mapM_eq_mapM_toList,Sem.run_map]
   exact congrArg (fun r:Result (List Value)=>(r.andThen fun a w'=>Result.ok a.toArray w').andThen fun a w'=>Sem.run P (pure (if h:a.size=1 then a[0] else Value.tuple a)) w') huvs
  ·rw [← t2,hqe]
   refine hpr.mono fun k ob hko=>?_
   rcases hko with ⟨g,hg,L,M,h1,h2,h3⟩ | ⟨b,hb,L,h1,rfl,h2⟩
   ·exact((@EndK.j σ' w ρ' H1 w2 hK2).2 g L M h1 h2 k ob h3).1
   ·exact h2
 rcases hee with rfl | rfl
 ·exact hpost
 ·exact hpost
theorem cv3.ofV{T:FuncId→Option Fsp}{l:List (FuncId×Inl)}{y:Nat→Hs}{dp:Nat}{f:FuncId}{fn:Func}{fuel fk:Nat}{S:Fsp}{v:List VC}{outs:List (List X×List (List X))}(hm:P.follows .mixedOrders=true)(hT:∀ f S,T f=some S→b3m U P f S)
  (hl:∀ x∈l,InlOK U P x) (hf:FnAt P f fn) (hrg:b5v U.lc (keyOf f) (b4b fn))
  (h:runM P (cxOf P (b6d T) fuel fk ⟨cmz l,y,U.lc⟩ dp f) hs fn (b4b fn) S=some (v,outs)) (hv:∀ z∈v,VCok U z) (hend:∀ o∈outs,∀ σ:Sg,σ.toUs=U→@Holds σ o.1→∃ q∈S.outs,@Holds σ q.1∧q.2.map (@denL σ)=o.2.map (@denL σ)):cv3 U P f S :=
 cn2 hm ⟨cc2 hT,cr7 hm (cc2 hT) (TbOK.of hl) dp,(TbOK.of hl).ent⟩ rfl hrg hf.at' hf.body hf.call hf.flow h hv hend
end
end Go.Sx

namespace Go.Proofs.Ytlbbkmcegbeckaa
open Go.Sx Go.Proofs
theorem us36(l a b c d e:CD):@Us.u U 36 [l,a,b,c,d,e]=addR l [a,b,c,d,e]:=rfl
theorem us37(l a b c d e:CD):@Us.u U 37 [l,a,b,c,d,e]=vInt .i64 (addN l [a,b,c,d,e]):=rfl
def okD(n:Nat)(d:CD):Bool:=(List.range d.rows.length).all (cbq n d)
theorem c4n{n:Nat}{d e:CD}(h:d.rows=e.rows):okD n d=okD n e:=by
 unfold okD cbq
 rw [h]
theorem c8p{n:Nat}{b:Bool}:okD n (.sl b [])=true:=rfl
theorem c6t(d:CD)(j:Nat):cbq 0 d j=b5s (d.rows.getD j []):=by
 unfold cbq
 rw [decide_eq_false (show ¬ 0<0 by omega)]
 simp
theorem okD0(d:CD):okD 0 d=d.rows.all b5s:=by
 rw [Bool.eq_iff_iff]
 unfold okD
 rw [List.all_eq_true,List.all_eq_true]
 constructor
 ·intro h r hr
  obtain⟨i,hi,rfl⟩:=List.getElem_of_mem hr
  have:=h i (List.mem_range.2 hi)
  rw [c6t,List.getD_eq_getElem?_getD,List.getElem?_eq_getElem hi] at this
  exact this
 ·intro h j hj
  have hj:=List.mem_range.1 hj
  rw [c6t,List.getD_eq_getElem?_getD,List.getElem?_eq_getElem hj]
  exact h _ (List.getElem_mem hj)
theorem cz1(l:CD)(n:Nat):cr6 l n=okD n (l.cell n 0):=rfl
theorem cb8{l:CD}{n:Int}(hT:Typ sLev l)(h0:0≤n)(h:¬ n<l.len):(l.cell n 0).rows=[]:=by
 have hl:=hT.sl.1
 unfold CD.cell
 rw [show l.rows.getD n.toNat []=[] by rw [List.getD_eq_getElem?_getD,List.getElem?_eq_none (by omega)];rfl]
 rfl
theorem chv{l:CD}(n:Nat)(hT:Typ sLev l)(h:b4c l=true):okD n (l.cell n 0)=true:=by
 by_cases hn:(n:Int)<l.len
 ·have hl:=hT.sl.1
  unfold b4c at h
  rw [Bool.and_eq_true,List.all_eq_true] at h
  exact h.2 n (List.mem_range.2 (by omega))
 ·rw [c4n (e:=.sl true []) (cb8 hT (by omega) hn)]
  rfl
theorem db3{r:List CD}{rows:List (List CD)}{d1 d2 d3:CD}:b4c (CD.sl false [[CD.sl false (r::rows)],[d1],[d2],[d3]])=(b5s r&&rows.all b5s&&(okD 1 d1&&okD 2 d2&&okD 3 d3)):=by
 show(decide (4≤4)&&(okD 0 (CD.sl false (r::rows))&&(okD 1 d1&&(okD 2 d2&&(okD 3 d3&&true)))))=_
 rw [okD0]
 show(true&&(((r::rows).all b5s)&&_))=_
 rw [List.all_cons,Bool.true_and,Bool.and_true,Bool.and_assoc (okD 1 d1)]
theorem all0{l:CD}(hT:Typ sLev l)(h:b4c l=true):(l.cell 0 0).rows.all b5s=true:=by
 rw [← okD0]
 exact chv 0 hT h
theorem lev1{l:CD}(hT:Typ sLev l)(h:b4c l=true):okD 1 (CD.sl false (l.cell 1 0).rows)=true:=chv 1 hT h
theorem lev2{l:CD}(hT:Typ sLev l)(h:b4c l=true):okD 2 (CD.sl false (l.cell 2 0).rows)=true:=chv 2 hT h
theorem lev3{l:CD}(hT:Typ sLev l)(h:b4c l=true):okD 3 (CD.sl false (l.cell 3 0).rows)=true:=chv 3 hT h
theorem chkB{b:Bool}:(eqC (vInt .i64 (if b=true then 0 else 2)) (vInt .i64 0)=true)=(b=true):=by
 cases b
 ·show(eqC (vInt .i64 2) (vInt .i64 0)=true)=(false=true)
  rfl
 ·show(eqC (vInt .i64 0) (vInt .i64 0)=true)=(true=true)
  rfl
theorem all_nil:([]:List (List CD)).all b5s=true:=rfl
noncomputable def as12:Fm→HP→List X:=fun F H=>[.ap .le [.ap .len [.var 0],I 4]]
noncomputable def as53:Fm→HP→List X:=fun F H=>[.ap .le [.ap .len [.ap (.cell 0) [.var 0,sx F 4]],I 40]]
noncomputable def c7v:List (FuncId×Inl):=[(53,⟨Try.f53,⟨b4p [],hintA [(5,as53)]⟩⟩)]
set_option maxRecDepth 100000 in
theorem dbi:cer U Try.prog c7v:=.cons (.of at53 (by kernel_rfl)) .nil
noncomputable def S12:Fsp:=⟨[(false,[sLev]),(true,sRun)],[.ap .not [.ap (.usr 12) [.var 0,I 40]]],[(false,[sLev]),(false,[.int .i64])],[([],[[.ap (.usr 36) [.var 0,.var 1,.var 2,.var 3,.var 4,.var 5]],[.ap (.usr 37) [.var 0,.var 1,.var 2,.var 3,.var 4,.var 5]]])],false⟩
abbrev cqa:X:=(.ap .snoc [(.ap .snoc [(.ap (.nil false) []),(.ap (.mk false) [(.ap .cat [(.ap .snoc [(.ap (.nil false) []),(.var 1),(.var 2),(.var 3),(.var 4),(.var 5)]),(.ap (.mk false) [(.ap (.cell 0) [(.var 0),(.lit (.int .i64 0))])])])])]),(.ap (.mk false) [(.ap (.mk false) [(.ap (.cell 0) [(.var 0),(.lit (.int .i64 1))])])])])
abbrev cqb:X:=(.ap .snoc [cqa,(.ap (.mk false) [(.ap (.mk false) [(.ap (.cell 0) [(.var 0),(.lit (.int .i64 2))])])])])
abbrev ch4:X:=(.ap .snoc [cqb,(.ap (.mk false) [(.ap (.mk false) [(.ap (.cell 0) [(.var 0),(.lit (.int .i64 3))])])])])
abbrev b6f:X:=(.ap (.nil true) [])
abbrev ch2:X:=(.ap .snoc [(.ap .snoc [(.ap .snoc [(.ap .snoc [(.ap (.nil false) []),(.ap (.mk false) [(.ap .cat [(.ap .snoc [(.ap (.nil false) []),(.var 1),(.var 2),(.var 3),(.var 4),(.var 5)]),(.ap (.mk false) [(.ap (.cell 0) [(.var 0),(.lit (.int .i64 0))])])])])]),b6f]),b6f]),b6f])
abbrev ch3:X:=(.ap .snoc [(.ap .snoc [(.ap .snoc [(.ap .snoc [(.ap (.nil false) []),(.ap (.mk false) [(.ap .snoc [(.ap (.nil false) []),(.var 1),(.var 2),(.var 3),(.var 4),(.var 5)])])]),b6f]),b6f]),b6f])
abbrev ckx:X:=(.ap .le [(.ap .len [(.ap (.cell 0) [(.var 0),(.lit (.int .i64 0))])]),(.lit (.int .i64 40))])
abbrev b7l:X:=(.ap .len [(.var 0)])
abbrev cky:X:=(.ap (.usr 22) [(.ap .snoc [(.ap .snoc [cqa,b6f]),b6f])])
abbrev cqc:X:=(.ap .le [(.ap .len [(.ap (.cell 0) [(.var 0),(.lit (.int .i64 2))])]),(.lit (.int .i64 40))])
abbrev cdv:X:=(.ap .eq [(.ap (.usr 22) [(.var 0)]),(.lit (.int .i64 0))])
abbrev cdw:X:=(.ap (.usr 22) [(.ap .snoc [cqb,b6f])])
abbrev cku:List X:=[(.ap .le [(.lit (.int .i64 (-9223372036854775808))),(.ap (.usr 22) [(.var 0)])]),(.ap .le [(.ap (.usr 22) [(.var 0)]),(.lit (.int .i64 9223372036854775807))]),(.ap (.typ (.sl [(.sl [(.int .i64),(.int .i64),(.int .i64),(.sl [(.int .u8)]),(.sl [(.int .u8)])])])) [(.var 0)]),(.ap .le [(.lit (.int .i64 (-9223372036854775808))),(.var 1)]),(.ap .le [(.var 1),(.lit (.int .i64 9223372036854775807))]),(.ap .le [(.lit (.int .i64 (-9223372036854775808))),(.var 2)]),(.ap .le [(.var 2),(.lit (.int .i64 9223372036854775807))]),(.ap .le [(.lit (.int .i64 (-9223372036854775808))),(.var 3)]),(.ap .le [(.var 3),(.lit (.int .i64 9223372036854775807))]),(.ap (.typ (.sl [(.int .u8)])) [(.var 4)]),(.ap (.typ (.sl [(.int .u8)])) [(.var 5)]),(.ap .not [(.ap (.usr 12) [(.var 0),(.lit (.int .i64 40))])])]
abbrev ckv:List X:=(.ap .lt [(.lit (.int .i64 0)),b7l])::(.ap .le [b7l,(.lit (.int .i64 4))])::cdv::cku
abbrev ckw:List X:=(.ap .le [(.ap .len [(.ap (.cell 0) [(.var 0),(.lit (.int .i64 1))])]),(.lit (.int .i64 40))])::(.ap .lt [(.lit (.int .i64 1)),b7l])::ckx::ckv
abbrev cum:List X:=(.ap .lt [(.lit (.int .i64 3)),b7l])::cqc::(.ap .lt [(.lit (.int .i64 2)),b7l])::ckw
abbrev cun:List X:=(.ap .le [(.lit (.int .i64 (-9223372036854775808))),(.ap (.usr 22) [ch4])])::(.ap .le [(.ap (.usr 22) [ch4]),(.lit (.int .i64 9223372036854775807))])::(.ap .le [(.ap .len [(.ap (.cell 0) [(.var 0),(.lit (.int .i64 3))])]),(.lit (.int .i64 40))])::cum
abbrev cuo:List X:=(.ap .le [(.lit (.int .i64 (-9223372036854775808))),cdw])::(.ap .le [cdw,(.lit (.int .i64 9223372036854775807))])::(.ap .not [(.ap .lt [(.lit (.int .i64 3)),b7l])])::cqc::(.ap .lt [(.lit (.int .i64 2)),b7l])::ckw
abbrev cup:List X:=(.ap .le [(.lit (.int .i64 (-9223372036854775808))),cky])::(.ap .le [cky,(.lit (.int .i64 9223372036854775807))])::(.ap .not [(.ap .lt [(.lit (.int .i64 2)),b7l])])::ckw
abbrev cuq:List X:=(.ap .le [(.lit (.int .i64 (-9223372036854775808))),(.ap (.usr 22) [ch2])])::(.ap .le [(.ap (.usr 22) [ch2]),(.lit (.int .i64 9223372036854775807))])::(.ap .not [(.ap .lt [(.lit (.int .i64 1)),b7l])])::ckx::ckv
abbrev cus:List X:=(.ap .le [(.lit (.int .i64 (-9223372036854775808))),(.ap (.usr 22) [ch3])])::(.ap .le [(.ap (.usr 22) [ch3]),(.lit (.int .i64 9223372036854775807))])::(.ap .not [(.ap .lt [(.lit (.int .i64 0)),b7l])])::(.ap .le [b7l,(.lit (.int .i64 4))])::cdv::cku
set_option maxRecDepth 100000 in
def c8v:List VC:=[((cdv::cku),(.ap .le [b7l,(.lit (.int .i64 4))])),
 (ckv,ckx),
 (((.ap .lt [(.lit (.int .i64 1)),b7l])::ckx::ckv),(.ap .le [(.ap .len [(.ap (.cell 0) [(.var 0),(.lit (.int .i64 1))])]),(.lit (.int .i64 40))])),
 (((.ap .lt [(.lit (.int .i64 2)),b7l])::ckw),cqc),
 (cum,(.ap .le [(.ap .len [(.ap (.cell 0) [(.var 0),(.lit (.int .i64 3))])]),(.lit (.int .i64 40))]))]
set_option maxRecDepth 100000 in
def c8u:List (List X×List (List X)):=[(((.ap .not [cdv])::cku),[[b6f],[(.lit (.int .i64 2))]]),
 (((.ap .not [(.ap .eq [(.ap (.usr 22) [ch4]),(.lit (.int .i64 0))])])::cun),[[b6f],[(.lit (.int .i64 2))]]),
 (((.ap .eq [(.ap (.usr 22) [ch4]),(.lit (.int .i64 0))])::cun),[[ch4],[(.lit (.int .i64 0))]]),
 (((.ap .not [(.ap .eq [cdw,(.lit (.int .i64 0))])])::cuo),[[b6f],[(.lit (.int .i64 2))]]),
 (((.ap .eq [cdw,(.lit (.int .i64 0))])::cuo),[[(.ap .snoc [cqb,b6f])],[(.lit (.int .i64 0))]]),
 (((.ap .not [(.ap .eq [cky,(.lit (.int .i64 0))])])::cup),[[b6f],[(.lit (.int .i64 2))]]),
 (((.ap .eq [cky,(.lit (.int .i64 0))])::cup),[[(.ap .snoc [(.ap .snoc [cqa,b6f]),b6f])],[(.lit (.int .i64 0))]]),
 (((.ap .not [(.ap .eq [(.ap (.usr 22) [ch2]),(.lit (.int .i64 0))])])::cuq),[[b6f],[(.lit (.int .i64 2))]]),
 (((.ap .eq [(.ap (.usr 22) [ch2]),(.lit (.int .i64 0))])::cuq),[[ch2],[(.lit (.int .i64 0))]]),
 (((.ap .not [(.ap .eq [(.ap (.usr 22) [ch3]),(.lit (.int .i64 0))])])::cus),[[b6f],[(.lit (.int .i64 2))]]),
 (((.ap .eq [(.ap (.usr 22) [ch3]),(.lit (.int .i64 0))])::cus),[[ch3],[(.lit (.int .i64 0))]])]
set_option maxRecDepth 100000 in
theorem db8:runM Try.prog (cxOf Try.prog (b6d (tab T20)) 10 14 ⟨cmz c7v,noY,U.lc⟩ 3 12) ⟨b4p [],hintA [(3,as12)]⟩ Try.f12 (b4b Try.f12) S12=some (c8v,c8u):=by kernel_rfl
set_option maxHeartbeats 4000000 in
set_option maxRecDepth 100000 in
theorem c12:cv3 U Try.prog 12 S12:=by
 refine cv3.ofV (P:=Try.prog) (U:=U) (T:=(tab T20)) (l:=c7v) (y:=noY) (dp:=3) (f:=12) (fn:=Try.f12) (fuel:=10) (fk:=14) (hs:=⟨b4p [],hintA [(3,as12)]⟩) (S:=S12) (v:=c8v) (outs:=c8u) mixed hT20 dbi at12 (b8j (by kernel_rfl)) db8 ?_ ?_
 ·unfold c8v
  repeat' (first | exact b44 _ | refine b3r (fun v hh=>?_) ?_)
  all_goals
   simp only [b3o,b3t,b3s,b3z,b4d,b40,b4l,b31,w_wr,b_lt,b_le,b_eq,b3w,b4s,b_or,b3y,b3p,b3i,b4x,b30,b33,b3k,b35,w_mk,b3l,b4e,caj,b41,b4z,b4m,b4w,b4y,b3v,b3x,b4v,w_l0,w_l1,b3e,b3d,b3u,b3b,b3c,b3g,b3f,b67,b7c,b7d,b66,b9s,b9r,b7e,cak,us12,us22,chkB,b5y,cku,cqa,cqb,ch4,b6f,ch2,ch3,ckx,b7l,cky,cqc,cdv,cdw,ckv,ckw,cum,cun,cuo,cup,cuq,cus] at hh ⊢
   repeat (obtain⟨_,hh⟩:=hh)
   try (first | grind [→ b7w] | (apply b6x<;>first | assumption | grind))
 ·intro o ho σ hU hh
  obtain⟨v⟩:=σ
  cases hU
  simp only [c8u,List.mem_cons,List.not_mem_nil,or_false] at ho
  repeat' (first | (rcases ho with rfl | ho) | subst ho)
  all_goals
   refine⟨_,List.mem_cons_self ..,by simp only [b3o,b3t,b3s,b3z,b4d,b40,b4l,b31,w_wr,b_lt,b_le,b_eq,b3w,b4s,b_or,b3y,b3p,b3i,b4x,b30,b33,b3k,b35,w_mk,b3l,b4e,caj,b41,b4z,b4m,b4w,b4y,b3v,b3x,b4v,w_l0,w_l1,b3e,b3d,b3u,b3b,b3c,b3g,b3f,b67,b7c,b7d,b66,b9s,b9r,b7e,cak],?_⟩
   simp only [b3o,b3t,b3s,b3z,b4d,b40,b4l,b31,w_wr,b_lt,b_le,b_eq,b3w,b4s,b_or,b3y,b3p,b3i,b4x,b30,b33,b3k,b35,w_mk,b3l,b4e,caj,b41,b4z,b4m,b4w,b4y,b3v,b3x,b4v,w_l0,w_l1,b3e,b3d,b3u,b3b,b3c,b3g,b3f,b67,b7c,b7d,b66,b9s,b9r,b7e,cak,us12,us22,chkB,b5y,Bool.false_and,List.nil_append,List.cons_append,db3,cku,cqa,cqb,ch4,b6f,ch2,ch3,ckx,b7l,cky,cqc,cdv,cdw,ckv,ckw,cum,cun,cuo,cup,cuq,cus] at hh
   simp only [List.map_cons,List.map_nil,b3o,b3t,b3s,b3z,b4d,b40,b4l,b31,w_wr,b_lt,b_le,b_eq,b3w,b4s,b_or,b3y,b3p,b3i,b4x,b30,b33,b3k,b35,w_mk,b3l,b4e,caj,b41,b4z,b4m,b4w,b4y,b3v,b3x,b4v,w_l0,w_l1,b3e,b3d,b3u,b3b,b3c,b3g,b3f,b67,b7c,b7d,b66,b9s,b9r,b7e,cak,us36,us37,b5y,Bool.false_and,List.nil_append,List.cons_append]
   repeat (obtain⟨_,hh⟩:=hh)
   grind [addR,addN,b6q,refD,c8p,all0,lev1,lev2,lev3,all_nil,cb8]
end Go.Proofs.Ytlbbkmcegbeckaa
