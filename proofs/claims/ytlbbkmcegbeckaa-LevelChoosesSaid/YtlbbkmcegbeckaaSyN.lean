/-
  A symbolic executor: bytes compared by the run-time. Conditions: none; nothing here speaks of one program.
-/
import Derived.Test.YtlbbkmcegbeckaaSyI
import Derived.Laws.Externs
import Derived.KernelRfl
import Derived.RowKit3
import Derived.Test.YtlbbkmcegbeckaaRows
import Derived.Lib.BytesEntry
import Derived.RangeFuncLeaves
set_option linter.all false
set_option maxRecDepth 100000
noncomputable section
namespace Go.Sx
noncomputable section
def azp(F:Fm)(t:Nat)(args:List AV):Fm :=
 List.rec (motive:=fun _=>Fm→Nat→Fm) (fun F _=>F) (fun a _ ih F t=>ih (F.put t (some a)) (Nat.succ t)) args F t
def as1:Bool×List Cel→AV
 | (false,[c])=>.one c
 | (_,xs)=>.agg xs
def resF(P:Program)[Plain P](H:HP)(F:Fm):ResultVar→Option (Bool×List Cel)
 | .tmp t=>match F.get t with
  | some (.one c)=>some (false,[c])
  | some (.agg xs)=>some (true,xs)
  | _=>none
 | .cell a ty=>match F.get a,szA P ty with
  | some (.one (.ptr b off)),some (ag,n)=>(H.read b off (wid ag n)).map fun cs=>(ag,cs)
  | some v,some (ag,n)=>(ay5 H v (wid ag n)).map fun cs=>(ag,cs)
  | _,_=>none
def resL(P:Program)[Plain P](H:HP)(F:Fm):List ResultVar→Option (List AV)
 | []=>some []
 | r::rs=>match resF P H F r,resL P H F rs with
  | some p,some l=>some (as1 p::l)
  | _,_=>none
def awe:List Nat→Bool
 | []=>true
 | x::r=>Nat.ble 1 x&&awe r
def uniO(H:HP):List Nat→Bool
 | []=>true
 | b::r=>match af4 H b with
  | some (w,_,_,_)=>uniS w&&uniO H r
  | none=>false
def endS(P:Program)[Plain P](fn:Func)(S:Fsp)(x:Oc):Option (List X×List (List X)) :=
 match x.1 with
 | .ext _=>none
 | _=>match resL P x.2.2 x.2.1 fn.results.toList with
  | some vs=>match as2 x.2.2 S.res vs with
   | some (es,G,O)=>match((!S.fresh||awe G)&&awe O)&&uniO x.2.2 O with
    | true=>some (x.2.2.hy,es)
    | false=>none
   | none=>none
  | none=>none
def bl0(P:Program)[Plain P](fn:Func)(S:Fsp):List Oc→Option (List (List X×List (List X)))
 | []=>some []
 | x::r=>match endS P fn S x,bl0 P fn S r with
  | some o,some l=>some (o::l)
  | _,_=>none
def numV:List Shp→Nat
 | []=>0
 | p::ps=>p.2.length+numV ps
def a7u(k:Nat):List (List X×List (List X))→Bool
 | []=>true
 | o::r=>ahb k o.1&&(o.2.all (ahb k)&&a7u k r)
def H0(S:Fsp):HP:=⟨.nil,1,0,typP S.args (at6 0 S.args)++S.pre,numV S.args⟩
def F0(S:Fsp):Option Fm:=(argA S.args [0] (at6 0 S.args)).map fun ps=>azp .nil 0 (ps.map as1)
def runV(P:Program)[Plain P](cx:Cx)(hs:Hs)(fn:Func)(c:Code)(S:Fsp):Option (List VC×List (List X×List (List X))) :=
 match F0 S,Nat.ble S.args.length fn.ntmps&&a7u (numV S.args) S.outs with
 | some F,true=>match ami P cx fn.ntmps hs c F (H0 S) with
  | some (v,l)=>match bl0 P fn S l with
   | some outs=>some (v,outs)
   | none=>none
  | none=>none
 | _,_=>none
def nilL{α:Type}:List α→Bool
 | []=>true
 | _::_=>false
def runS(P:Program)[Plain P](ora:OraM)(fuel fk:Nat)(hs:Hs)(fn:Func)(c:Code)(S:Fsp):Option (List VC×List (List X×List (List X))) :=
 match nilL (afh c) with
 | true=>runV P ⟨ora,noV,fun _=>false,fuel,fk,none,fun _=>0⟩ hs fn c S
 | false=>none
end
section
variable {P:Program} [Plain P] {ora:OraM} {n m fuel fk:Nat} {U:Us} {hs:Hs} {H H':HP} {w w':World} {ρ:PM} {F:Fm} {a:Act}
theorem alv:∀ (args:List AV) (F:Fm) (t0 t:Nat) (v:AV),(azp F t0 args).get t=some v→(t0≤t∧args[t - t0]? = some v)∨F.get t=some v
 | [],F,t0,t,v,h=>.inr h
 | a::args,F,t0,t,v,h=>by
  rcases alv args (F.put t0 (some a)) (t0+1) t v h with ⟨h1,h2⟩ | h1
  ·refine .inl ⟨by omega,?_⟩
   rw [show t - t0=(t - (t0+1))+1 by omega,List.getElem?_cons_succ]
   exact h2
  ·rw [PT.get_put] at h1
   split at h1
   ·rename_i ht
    subst ht
    cases h1
    exact .inl ⟨Rl _,by simp⟩
   ·exact .inr h1
section
variable [Sg]
theorem az1{p:Bool×List Cel}{u:Value}(h:PRel ρ p u):VRel ρ (as1 p) u:=by
 match p,h with
 | (true,xs),h=>exact h
 | (false,[c]),h=>exact h
 | (false,[]),h=>exact h.elim
 | (false,_::_::_),h=>exact h.elim
theorem anf:∀ {ps:List (Bool×List Cel)} {us:List Value},All2 (PRel ρ) ps us→All2 (VRel ρ) (ps.map as1) us
 | [],[],_=>trivial
 | _::_,_::_,⟨h1,h2⟩=>⟨az1 h1,anf h2⟩
 | [],_::_,h=>h.elim
 | _::_,[],h=>h.elim
theorem bhf{P:Program}{b:AV}{ty:TypeId}{ag:Bool}{k:Nat}{cs:List Cel}{u:Value}(h:ay5 H b (wid ag k)=some cs)(hs:szA P ty=some (ag,k))(hr:VRel ρ b u)(hH:HRel ρ H w)(hj:J ρ H w) :
  ∃ us:List Value,(do loadVar ty (← asAddr u):Sem Value).run P w=.ok (mkV ag us) w∧us.length=wid ag k∧All2 (CRel ρ) cs us:=by
 unfold ay5 at h
 split at h
 ·rename_i ws G e i off
  obtain⟨hG,b,o,cap,h1,h2,h3,hev⟩:=hr
  have hi:(den i).iv.toNat<(den e).rows.length:=by omega
  rcases(show(den e=.sl true []∧_)∨_ from h1) with ⟨e1,_⟩ | ⟨rows,b',off',cap',e1,e2,e3,e4,e5⟩ | ⟨_,e1,_⟩
  rotate_right
  ·rw [e1] at hi;simp [CD.rows] at hi
  ·rw [e1] at hi;simp [CD.rows] at hi
  ·have hrows:(den e).rows=rows:=by rw [e1];rfl
   rw [hrows] at hi
   simp only [Value.slice.injEq,Oi,Addr.mk.injEq,and_true] at e2
   obtain⟨⟨rfl,rfl⟩,_,rfl⟩:=e2
   obtain⟨arr,tt,fr,g1,g2⟩:=e5 (fun hh=>by rw [hh] at hi;simp at hi)
   have hob:=hj.obj g1.1
   have hrow:rows[(den i).iv.toNat]? = some rows[(den i).iv.toNat]:=Gl hi
   obtain⟨us,k1,k2,k3⟩:=aip hG (by rw [hrows];exact hrow) (g2 _ _ hrow) _ _ h
   refine⟨us,?_,k1,k2⟩
   simp only [hev,asAddr,Sem.run_bind,Sem.run_pure,Result.andThen_ok]
   refine aes hs k1 fun j u hu=>?_
   rw [cell?_of hob]
   have:=k3 j u hu
   rw [← this]
   congr 1
   omega
 ·rename_i b s i off
  obtain⟨L,h1,h2,hev⟩:=hr
  split at h
  ·rename_i ws G e nb hrw
   split at h
   ·rename_i hok
    rw [Ba] at hok
    have k1:=Nb hok.1
    have k2:(den i).iv<(den nb).iv:=agh hH.hy hok.2
    obtain⟨_,hG,hnb,arr,tt,fr,e1,e2,e3,e4,e5,e6⟩:=hH.rel b 0 _ L (abm hrw).1 h1
    have hi:(den i).iv.toNat<(den e).rows.length:=by omega
    have hrow:(den e).rows[(den i).iv.toNat]? = some (den e).rows[(den i).iv.toNat]:=Gl hi
    obtain⟨us,q1,q2,q3⟩:=aip hG hrow (e6 _ _ hrow) _ _ h
    refine⟨us,?_,q1,q2⟩
    simp only [hev,asAddr,Sem.run_bind,Sem.run_pure,Result.andThen_ok]
    refine aes hs q1 fun j u hu=>?_
    rw [cell?_of e1]
    have:=q3 j u hu
    rw [← this,k1]
    congr 1
    omega
   ·cases h
  ·cases h
 ·cases h
theorem bci{ag:Bool}{k:Nat}{us:List Value}{cs:List Cel}(hl:us.length=wid ag k)(h:All2 (CRel ρ) cs us):PRel ρ (ag,cs) (mkV ag us):=by
 cases ag with
 | true=>exact⟨us.toArray,rfl,by simpa using h⟩
 | false =>
  have hl1:us.length=1:=hl
  have hl2:cs.length=1:=by rw [h.length];exact hl1
  match cs,us,hl1,hl2,h with
  | [c],[u'],_,_,h=>exact h.1
theorem bjo(hf:FRel n ρ F a)(hH:HRel ρ H w)(hj:J ρ H w){r:ResultVar}{p:Bool×List Cel}(h:resF P H F r=some p) :
  ∃ u,(match r with | .tmp t=>pure (a.tmps.getD t undef) | .cell x t=>do loadVar t (← asAddr (a.tmps.getD x undef)):Sem Value).run P w=.ok u w∧PRel ρ p u:=by
 cases r with
 | tmp t =>
  simp only [resF] at h
  split at h
  ·rename_i c ht
   cases h
   obtain⟨u,hu,hr⟩:=hf.get t _ ht
   exact⟨u,by simp [Array.getD_eq_getD_getElem?,hu],hr⟩
  ·rename_i xs ht
   cases h
   obtain⟨u,hu,hr⟩:=hf.get t _ ht
   exact⟨u,by simp [Array.getD_eq_getD_getElem?,hu],hr⟩
  ·cases h
 | cell x t =>
  simp only [resF] at h
  split at h
  ·rename_i b off ag n ht hs
   obtain⟨cs,hcs,rfl⟩:=map_some h
   obtain⟨u,hu,L,hL,he⟩:=hf.get x _ ht
   obtain⟨us,hl,hrel,hc⟩:=HP.read_world hcs hH hL
   refine⟨mkV ag us,?_,bci hl hrel⟩
   simp only [Array.getD_eq_getD_getElem?,hu,Option.getD_some,he,asAddr,Sem.run_bind,Sem.run_pure,Result.andThen_ok]
   exact aes hs hl hc
  ·rename_i v ag n hno hs ht
   obtain⟨cs,hcs,rfl⟩:=map_some h
   obtain⟨u,hu,hr⟩:=hf.get x _ ‹F.get x=some v›
   obtain⟨us,h1,h2,h3⟩:=bhf hcs ‹szA P t=some (ag,n)› hr hH hj
   refine⟨mkV ag us,?_,bci h2 h3⟩
   simp only [Array.getD_eq_getD_getElem?,hu,Option.getD_some]
   exact h1
  ·cases h
theorem bag(hf:FRel n ρ F a)(hH:HRel ρ H w)(hj:J ρ H w):∀ (rs:List ResultVar) {vs:List AV},resL P H F rs=some vs →
  ∃ us,(rs.mapM fun | .tmp t=>pure (a.tmps.getD t undef) | .cell x t=>do loadVar t (← asAddr (a.tmps.getD x undef)):Sem (List Value)).run P w=.ok us w∧All2 (VRel ρ) vs us
 | [],vs,h=>by cases h;exact⟨[],rfl,trivial⟩
 | r::rs,vs,h=>by
  simp only [resL] at h
  split at h
  ·rename_i p l hp hl
   cases h
   obtain⟨u,hu,hrel⟩:=bjo hf hH hj hp
   obtain⟨us,hus,hrels⟩:=bag hf hH hj rs hl
   refine⟨u::us,?_,az1 hrel,hrels⟩
   simp only [List.mapM_cons,Sem.run_bind]
   rw [hu]
   simp only [Result.andThen_ok]
   rw [hus]
   rfl
  ·cases h
theorem J.put{ρ:PM}{H:HP}{w0 w:World}{D:Nat}{o:Obj}(h:J ρ H w)(ht:TW w0)(hD:w0.heap.size≤D)(hg:∀ g L M o,ρ g=some L→L.M=some M→¬ M D o):J ρ H (w.putObj D o) :=
 ⟨fun x hx=>⟨by
  obtain⟨o',h1,h2⟩:=h.tw x hx
  obtain⟨o2,h3,_⟩:=ht x hx
  have:=(Ga.1 h3).1
  exact⟨o',by rw [World.putObj_heap_other (by omega)];exact h1,h2⟩,(h.1 x hx).2⟩,fun g L M h1 h2 k o ho=>by
  obtain⟨h3,h4⟩:=h.2 g L M h1 h2 k o ho
  refine⟨?_,h4⟩
  rw [World.putObj_heap_other (fun hh=>hg g L M o h1 h2 (by rw [hh] at ho;exact ho))]
  exact h3⟩
structure EndK (w:World) (ρ':PM) (H':HP) (w':World):Prop where
 rel:HRel ρ' H' w'
 j:J ρ' H' w'
 tw:TW w
 keep:Keep w w'
theorem EndK.unowned{ρ':PM}{D:Nat}{o:Obj}(h:EndK w ρ' H' w')(hD:w.heap.size≤D)(hno:∀ b L,H'.Kn b→ρ' b=some L→L.B≠D)(hg:∀ g L M o,ρ' g=some L→L.M=some M→¬ M D o):EndK w ρ' H' (w'.putObj D o) where
 rel:=⟨fun b i c L hc hL=>(h.rel.rel b i c L hc hL).of_heap (World.putObj_heap_other (hno b L ⟨i,c,hc⟩ hL)),h.rel.inj,h.rel.hy⟩
 j:=h.j.put h.tw hD hg
 tw:=h.tw
 keep:=⟨fun k hk=>by rw [World.putObj_heap_other (by omega)];exact h.keep.old k hk,by rw [World.putObj_size];exact h.keep.size,h.keep.os,h.keep.tape,h.keep.output⟩
theorem am5{ρ':PM}{fn:Func}{tmps:Array Value}{R:Ending→World→Prop}
  (hend:∀ w',EndK w ρ' H' w'→∃ v,(results fn tmps).run P w'=.ok v w'∧R (.returned v) w'):∀ (ds:List Deferred) (w':World),EndK w ρ' H' w'→DfOK ρ' H' w' w.heap.size ds→LeavesInM Fence.wide 0 P fn tmps R ds .returning w'
 | [],w',s,_=>hend w' s
 | d::ds,w',s,⟨⟨D,h1,hm,h2,h3,h7⟩,h⟩=>by
  refine⟨by simp,.inl ⟨D,_,by rw [h1],run_takeDeferred h2,am5 hend ds _ (s.unowned hm h3.1 h3.2) ?_⟩⟩
  have keep:∀ (es:List Deferred),(∀ d'∈es,∀ D',d'.target=.collected D'→D'≠D)→DfOK ρ' H' w' w.heap.size es→DfOK ρ' H' (w'.putObj D (.deferred none)) w.heap.size es:=by
   intro es
   induction es with
   | nil=>exact fun _ _=>trivial
   | cons e es ih =>
    rintro hne ⟨⟨D',g1,gm,g2,g3,g7⟩,g⟩
    exact⟨⟨D',g1,gm,by rw [World.putObj_heap_other (hne e (Ms ..) D' (by rw [g1]))];exact g2,g3,g7⟩,ih (fun d' hd'=>hne d' (Mc _ hd')) g⟩
  exact keep ds h7 h
end
theorem a5u{fn:Func}{S:Fsp}:∀ {xs:List Oc} {os:List (List X×List (List X))},bl0 P fn S xs=some os→∀ x∈xs,∃ o∈os,endS P fn S x=some o
 | [],os,h,x,hx=>by cases hx
 | y::xs,os,h,x,hx=>by
  simp only [bl0] at h
  split at h
  ·rename_i o l ho hl
   cases h
   rcases Mn.1 hx with rfl | hx
   ·exact⟨o,Ms ..,ho⟩
   ·obtain⟨q,h1,h2⟩:=a5u hl x hx
    exact⟨q,Mc _ h1,h2⟩
  ·cases h
theorem am9:∀ {l:List Nat},awe l=true→∀ x∈l,1≤x
 | [],_,x,hx=>by cases hx
 | y::r,h,x,hx=>by
  simp only [awe,Ba] at h
  rcases Mn.1 hx with rfl | hx
  ·exact Nl h.1
  ·exact am9 h.2 x hx
theorem aoj{k:Nat}{σ σ':Sg}(he:Ext k σ σ'):∀ {os:List (List X×List (List X))},a7u k os=true→∀ o∈os,(@Holds σ' o.1→@Holds σ o.1)∧o.2.map (@denL σ')=o.2.map (@denL σ)
 | [],_,o,ho=>by cases ho
 | q::r,h,o,ho=>by
  simp only [a7u,Ba] at h
  rcases Mn.1 ho with rfl | ho
  ·refine⟨fun hh x hx=>?_,?_⟩
   ·have hs:∀ (l:List X),ahb k l=true→∀ x∈l,agj k x=true:=by
     intro l
     induction l with
     | nil=>intro _ x hx;cases hx
     | cons y l ih =>
      intro h x hx
      simp only [ahb,Ba] at h
      rcases Mn.1 hx with rfl | hx
      ·exact h.1
      ·exact ih h.2 x hx
    have:=hh x hx
    show(@den σ x).bv=true
    rw [← adz he x (hs _ h.1 x hx)]
    exact this
   ·refine List.map_congr_left fun l hl=>a1k he l (List.all_eq_true.1 h.2.1 l hl)
  ·exact aoj he h.2.2 o ho
theorem a8h[Sg]{ρ:PM}{H:HP}{w:World}(hH:HRel ρ H w):∀ {O:List Nat},uniO H O=true→∀ b∈O,∀ (L:Loc),ρ b=some L→∀ (ob:Obj),w.heap[L.B]? = some ob→Nice ob
 | [],_,b,hb,_,_,_,_=>(by cases hb)
 | x::r,h,b,hb,L,hL,ob,ho=>by
  unfold uniO at h
  split at h
  ·rename_i ws G e n hrw
   rw [Ba] at h
   rcases Mn.1 hb with rfl | hb
   ·obtain⟨_,_,_,arr,tt,fr,g1,g2,_⟩:=hH.rel b 0 _ L (abm hrw).1 hL
    rw [g1] at ho
    cases ho
    exact⟨arr,tt,fr,rfl,g2.1,_,g2.2 h.1⟩
   ·exact a8h hH h.2 b hb L hL ob ho
  ·cases h
theorem aif{cx:Cx}{f:FuncId}{fn:Func}{c:Code}{S:Fsp}{v:List VC}{outs:List (List X×List (List X))}(hm:P.follows .mixedOrders=true)(hcx:CxOK U P cx)(hrb:cx.rb=none)(hrg:adv U.lc cx.rk c)(hf:P.funcs[f]? = some fn)(hb:fn.body=some c)(hcall:∀ us w,(callFunc f us).run P w=.ok (.enter f us) w)(hfl:acs c=true)
  (h:runV P cx hs fn c S=some (v,outs)) (hv:∀ z∈v,VCok U z) (hend:∀ o∈outs,∀ σ:Sg,σ.toUs=U→@Holds σ o.1→∃ q∈S.outs,@Holds σ q.1∧q.2.map (@denL σ)=o.2.map (@denL σ)):aah U P f S:=by
 unfold runV at h
 split at h
 rotate_left
 ·cases h
 rename_i F hF hchk
 rw [Ba] at hchk
 have hlen:=Nl hchk.1
 split at h
 rotate_left
 ·cases h
 rename_i v0 l hcode
 split at h
 rotate_left
 ·cases h
 rename_i outs0 houts
 cases h
 intro σ hU m w us htw hmem hargs hpre
 rw [hcall]
 show Calls P f us w _
 refine callsIn_wide.1 (callsIn_of_wp_marks (F:=Fence.wide) (n:=0) hf hb trivial ?_)
 let ρ0:PM:=fun b=>if b=0 then some ⟨w.heap.size,0,0,some m⟩ else none
 have hρ0:ρ0 0=some ⟨w.heap.size,0,0,some m⟩:=if_pos rfl
 have hnone:∀ b,b≠0→ρ0 b=none:=fun b hb=>if_neg hb
 have hnocell:∀ b i c,(H0 S).cell b i=some c→False:=fun b i c hc=>HP.cell_nil hc
 obtain⟨ps,hps,rfl⟩:=map_some hF
 have hat:∀ k o,m k o→ρ0.at [0] k o:=fun k o h=>⟨0,Mg.2 rfl,_,m,hρ0,rfl,h⟩
 have hG0:∀ g∈[0],∃ L,ρ0 g=some L:=fun g hg=>by
  have:=Mg.1 hg
  subst this
  exact⟨_,hρ0⟩
 have hrel0:=@a1a ρ0 σ [0] hG0 _ _ _ _ hps (hargs.mono hat)
 have hargsR:=@anf ρ0 σ _ _ hrel0
 have hal:=All2.length hargsR
 have hpl:ps.length=us.size:=by
  have:=hal
  simp only [List.length_map,Array.length_toList] at this
  exact this
 have hpl2:=a09 hps
 have s0:@SRel σ fn.ntmps ρ0 (azp .nil 0 (ps.map as1)) (H0 S) { tmps:=us++Array.replicate (fn.ntmps - us.size) Go.undef,defers:=[] } w:=by
  refine @SRel.mk σ _ _ _ _ _ _ (@FRel.mk σ _ _ _ _ (by simp;omega) fun t v hv=>?_) ⟨fun b i c L hc=>(hnocell b i c hc).elim,fun b b' L L' ⟨i,c,hc⟩=>(hnocell b i c hc).elim,@aey σ _ _ (@a4m σ _ _ _ _ hargs) hpre⟩ (fun b hb=>hnone b (by have h1:1≤b:=hb;omega)) ⟨fun x hx=>⟨htw x hx,fun b L' ⟨i,c,hc⟩=>(hnocell b i c hc).elim⟩,fun g L M hg hM k o hko=>?_⟩
  ·rcases alv (ps.map as1) .nil 0 t v hv with ⟨_,h1⟩ | h1
   ·obtain⟨u,hu,hr⟩:=All2.get hargsR _ _ h1
    rw [Nat.sub_zero,Array.getElem?_toList] at hu
    exact⟨u,by rw [Array.getElem?_append_left (Ga.1 hu).1];exact hu,hr⟩
   ·rw [PT.get_nil] at h1;cases h1
  ·by_cases h0:g=0
   ·subst h0
    rw [hρ0] at hg
    cases hg
    cases hM
    exact⟨hmem k o hko,fun b L' ⟨i,c,hc⟩=>(hnocell b i c hc).elim⟩
   ·rw [hnone g h0] at hg;cases hg
 have K:=aos (n:=fn.ntmps) (m:=0) (r:=none) hm hcx c hfl hrg hcode hv σ hU
 rw [hrb] at K
 refine K.wp (m0:=w.heap.size) s0 trivial (Rl _) (DfOK.nil _ _ _ _) fun σ' he x hx ρ' a' w' s' hdf hs'=>?_
 obtain⟨o,ho,hend'⟩:=a5u houts x hx
 obtain⟨e,F,H1⟩:=x
 have hee:e=.nrm∨e=.rt:=by
  cases e with
  | nrm=>exact .inl rfl
  | rt=>exact .inr rfl
  | ext id=>cases hend'
 have hcore:(match resL P H1 F fn.results.toList with
  | some vs=>match as2 H1 S.res vs with
   | some (es,G,O)=>match((!S.fresh||awe G)&&awe O)&&uniO H1 O with
    | true=>some (H1.hy,es)
    | false=>none
   | none=>none
  | none=>none)=some o:=by rcases hee with rfl | rfl<;>exact hend'
 split at hcore
 rotate_left
 ·cases hcore
 rename_i vs hvs
 split at hcore
 rotate_left
 ·cases hcore
 rename_i es G O hparts
 split at hcore
 rotate_left
 ·cases hcore
 rename_i hz
 cases hcore
 simp only [Ba,Bool.or_eq_true,Bool.not_eq_true'] at hz
 obtain⟨hz,hun⟩:=hz
 have hkeep:Keep w w':=⟨fun k hk=>hs'.fr k hk fun b L ⟨i,c,hc⟩=>(hnocell b i c hc).elim,hs'.size,hs'.os,hs'.tape,hs'.output⟩
 have hK:@EndK σ' w ρ' H1 w':=@EndK.mk σ' w ρ' H1 w' (@SRel.hp σ' _ _ _ _ _ _ s') (@SRel.j σ' _ _ _ _ _ _ s') htw hkeep
 have hpost:LeavesInM Fence.wide 0 P fn a'.tmps (fun r w''=>∃ u',r=.returned u'∧(Keep w w''∧∃ o∈S.outs,@Holds σ o.1∧ResR (fun k ob=>(w.heap.size≤k∧w''.heap[k]? = some ob∧Nice ob)∨(S.fresh=false∧m k ob)) S.res (o.2.map (@denL σ)) u')) a'.defers .returning w':=by
  refine @am5 P _ H1 w σ' ρ' fn a'.tmps _ (fun w2 hK2=>?_) _ _ hK hdf
  obtain⟨uvs,huvs,hvr⟩:=@bag P _ _ H1 w2 ρ' F a' σ' (@SRel.fr σ' _ _ _ _ _ _ s') (@EndK.rel σ' w ρ' H1 w2 hK2) (@EndK.j σ' w ρ' H1 w2 hK2) _ _ hvs
  obtain⟨hG,hpr⟩:=@ao6 σ' _ _ _ (@EndK.rel σ' w ρ' H1 w2 hK2) _ _ _ _ _ _ hparts hvr
  obtain⟨q,hq,hqh,hqe⟩:=hend _ ho σ' (he.us.trans hU) (@HRel.hy σ' _ _ _ (@SRel.hp σ' _ _ _ _ _ _ s'))
  obtain⟨t1,t2⟩:=aoj he hchk.2 q hq
  refine⟨oneOf uvs,?_,_,rfl,@EndK.keep σ' w ρ' H1 w2 hK2,q,hq,t1 hqh,uvs,?_,rfl⟩
  ·unfold results
   rw [Sem.run_bind,Array.mapM_eq_mapM_toList,Sem.run_map]
   exact congrArg (fun r:Result (List Value)=>(r.andThen fun a w'=>Result.ok a.toArray w').andThen fun a w'=>Sem.run P (pure (if h:a.size=1 then a[0] else Value.tuple a)) w') huvs
  ·rw [← t2,hqe]
   refine hpr.mono fun k ob hko=>?_
   rcases hko with ⟨g,hg,L,M,h1,h2,h3⟩ | ⟨b,hb,L,h1,rfl,h2⟩
   ·by_cases h0:g=0
    ·subst h0
     have:=hs'.le 0 _ hρ0
     rw [h1] at this
     cases this
     cases h2
     refine .inr ⟨?_,h3⟩
     rcases hz.1 with h4 | h4
     ·exact h4
     ·have:=am9 h4 0 hg
      omega
    ·left
     refine⟨?_,((@EndK.j σ' w ρ' H1 w2 hK2).2 g L M h1 h2 k ob h3).1,(hs'.ro g L M k ob (hnone g h0) h1 h2 h3).2⟩
     rcases(hs'.ro g L M k ob (hnone g h0) h1 h2 h3).1 with h4 | ⟨b0,L0,⟨i,c,hc⟩,_⟩
     ·exact h4
     ·exact(hnocell b0 i c hc).elim
   ·left
    have hb0:b≠0:=by have:=am9 hz.2 b hb;omega
    refine⟨?_,h2,@a8h σ' _ _ _ (@EndK.rel σ' w ρ' H1 w2 hK2) _ hun b hb L h1 _ h2⟩
    rcases hs'.new b L (hnone b hb0) h1 with h4 | ⟨b1,L1,⟨i,c,hc⟩,_⟩
    ·exact h4
    ·exact(hnocell b1 i c hc).elim
 rcases hee with rfl | rfl
 ·exact hpost
 ·exact hpost
theorem a4f{f:FuncId}{fn:Func}{c:Code}{S:Fsp}{v:List VC}{outs:List (List X×List (List X))}(hm:P.follows .mixedOrders=true)(hora:ahh U P ora)(hf:P.funcs[f]? = some fn)(hb:fn.body=some c)(hcall:∀ us w,(callFunc f us).run P w=.ok (.enter f us) w)(hfl:acs c=true)
  (h:runS P ora fuel fk hs fn c S=some (v,outs)) (hv:∀ z∈v,VCok U z) (hend:∀ o∈outs,∀ σ:Sg,σ.toUs=U→@Holds σ o.1→∃ q∈S.outs,@Holds σ q.1∧q.2.map (@denL σ)=o.2.map (@denL σ)):aah U P f S:=by
 unfold runS at h
 split at h
 ·rename_i hn
  refine aif hm ⟨hora,bp2,fun g hg=>(by cases hg)⟩ rfl (fun x hx=>?_) hf hb hcall hfl h hv hend
  cases hl:afh c with
  | nil=>rw [hl] at hx;cases hx
  | cons y r=>rw [hl] at hn;cases hn
 ·cases h
end
noncomputable section
inductive Pl where
 | slot (t:Nat)
 | cell (t off:Nat)
 | rcell (y t off:Nat)
inductive Kd where
 | int (k:IntKind)
 | bool
 | str
 | own (z:Bool) (w:List Srt)
 | val (s:Srt)
 | blk
 | map (kw:List Srt) (va:Bool) (vw:List Srt)
 | iter
abbrev It:=Pl×Kd
def bqu(l:Option (List Cel)):Option Cel:=match l with
 | some [c]=>some c
 | _=>none
def Pl.get(p:Pl)(F:Fm)(H:HP):Option Cel :=
 match p with
 | .slot t=>match F.get t with
  | some (.one c)=>some c
  | _=>none
 | .cell t off=>match F.get t with
  | some (.one (.ptr b o))=>bqu (H.read b (o+off) 1)
  | _=>none
 | .rcell y t off=>match F.get y with
  | some (.one (.yd k))=>match aiv H k with
   | some l=>match l.F.get t with
    | some (.one (.ptr b o))=>bqu (H.read b (o+off) 1)
    | _=>none
   | none=>none
  | _=>none
def Pl.put(p:Pl)(F:Fm)(H:HP)(c:Cel):Option (Fm×HP) :=
 match p with
 | .slot t=>some (F.put t (some (.one c)),H)
 | .cell t off=>match F.get t with
  | some (.one (.ptr b o))=>match H.write b (o+off) [c] with
   | some H'=>some (F,H')
   | none=>none
  | _=>none
 | .rcell y t off=>match F.get y with
  | some (.one (.yd k))=>match aiv H k with
   | some l=>match l.F.get t with
    | some (.one (.ptr b o))=>match H.write b (o+off) [c] with
     | some H'=>some (F,H')
     | none=>none
    | _=>none
   | none=>none
  | _=>none
def Kd.vals(k:Kd)(H:HP)(c:Cel):Option (List X×Option Nat×List Nat) :=
 match k with
 | .int _=>match iX c with
  | some (_,e)=>some ([e],none,[])
  | none=>none
 | .bool=>match bX c with
  | some e=>some ([e],none,[])
  | none=>none
 | .str=>match sX c with
  | some e=>some ([e],none,[])
  | none=>none
 | .val _=>match c with
  | .sv _ G e=>some ([e],none,G)
  | .lit (.slice none _ _)=>some ([nilE true],none,[])
  | _=>none
 | .own _ _=>match c with
  | .os _ b n _ G _=>match af4 H b with
   | some (_,G',e,nb)=>some ([nb,e],some b,ab1 G G')
   | none=>none
  | .lit (.slice none _ _)=>some ([zI,nilE true],none,[])
  | _=>none
 | .blk=>match c with
  | .po b _ _ _=>match af4 H b with
   | some (_,G',e,_)=>some ([e],none,G')
   | none=>none
  | _=>none
 | .map _ _ _=>match c with
  | _=>none
 | .iter=>match c with
  | _=>none
def Kd.nvar:Kd→Nat
 | .own _ _=>2
 | .map _ _ _=>2
 | _=>1
def Kd.nblk:Kd→Nat
 | .own _ _=>1
 | _=>0
def bm1:List It→Nat
 | []=>0
 | i::r=>i.2.nvar+bm1 r
def bxo:List It→Nat
 | []=>0
 | i::r=>i.2.nblk+bxo r
def Kd.gen(k:Kd)(c:Cel)(v:Nat)(G:List Nat)(H:HP):Option (Cel×HP) :=
 match k with
 | .int k=>some (.sv (.int k) [] (.var v),H)
 | .bool=>some (.sv .bool [] (.var v),H)
 | .str=>some (.sv .str [] (.var v),H)
 | .val s=>some (.sv s (beg s G) (.var v),H)
 | .own z w=>some (.os z H.n (.var v) w.length (aj8 w G) (.var (v+1)),H.push (.lf [some (.rows w (aj8 w G) (.var (v+1)) (.var v))]))
 | .blk=>match c with
  | .po b s i off=>match af4 H b with
   | some (w,_,_,nb)=>some (.po b s i off,H.obj b (.rows w G (.var v) nb))
   | none=>none
  | _=>none
 | .map kw va vw=>match c with
  | .mp b=>some (.mp b,H.obj b (.mx kw va vw (.var v) (.var (Nat.succ v))))
  | _=>none
 | .iter=>match c with
  | _=>none
def buo(F:Fm)(H:HP):List It→Option (List X×List (Option Nat)×List Nat)
 | []=>some ([],[],[])
 | i::r=>match i.1.get F H with
  | some c=>match i.2.vals H c,buo F H r with
   | some (xs,b,G),some (ys,bs,G')=>some (xs++ys,(match i.2 with | .own _ _=>b::bs | _=>bs),ab1 G G')
   | _,_=>none
  | none=>none
def genI(G:List Nat)(F:Fm)(H:HP)(v:Nat):List It→Option (Fm×HP)
 | []=>some (F,H)
 | i::r=>match i.1.get F H with
  | some c=>match i.2.gen c v G H with
   | some (c',H1)=>match i.1.put F H1 c' with
    | some (F',H')=>genI G F' H' (v+i.2.nvar) r
    | none=>none
   | none=>none
  | none=>none
def bmI(k:Nat):List (Option Nat)→List (Nat×Nat)
 | []=>[]
 | some b::r=>(k,b)::bmI (Nat.succ k) r
 | none::r=>bmI (Nat.succ k) r
def bru(ne:Nat):List Nat→List Nat
 | []=>[]
 | g::r=>match Nat.ble ne g with
  | true=>g::bru ne r
  | false=>bru ne r
def br5(F:Fm):List Nat→Fm
 | []=>.nil
 | t::r=>match F.get t with
  | some v=>(br5 F r).put t (some v)
  | none=>br5 F r
structure Lp where
 its:List It
 keep:List Nat
 ev:List Nat
 inv:Fm→HP→Nat→List X
 ms:Fm→HP→Nat→X
def bdq:List It→List Nat
 | []=>[]
 | (.slot t,_)::r=>t::bdq r
 | (.cell t _,_)::r=>t::bdq r
 | (.rcell y _ _,_)::r=>y::bdq r
def HP.knows(H:HP)(l:List X):HP:=⟨H.t,H.n,0,l++H.hy,H.nv⟩
def bge:List (Option Nat)→HP→HP
 | [],H=>H
 | some b::r,H=>bge r (H.drop b)
 | none::r,H=>bge r H
def Lp.head(L:Lp)(F:Fm)(H:HP):Option (Fm×HP×Mp) :=
 match buo F H L.its with
 | some (l,bs,G0) =>
  match genI (ab1 [H.n] (ab1 (locE F L.ev) G0)) (br5 F (bdq L.its++(L.ev++L.keep))) (bge bs ((H.push (.lf [])).drop H.n)) H.nv L.its with
  | some (F2,H2)=>match(⟨H2.t,H2.n,0,H2.hy,H2.nv+bm1 L.its⟩:HP) with
   | H3=>some (F2,H3.knows (L.inv F2 H3 H.nv),⟨H.n,H.nv,l,bmI (Nat.succ H.n) bs,H.n,[],L.ev⟩)
  | none=>none
 | none=>none
def Lp.back(L:Lp)(F2:Fm)(H2:HP)(F1:Fm)(H1:HP):Option Mp :=
 match buo F1 H1 L.its with
 | some (l,bs,G)=>force (H2.n - Nat.succ (bxo L.its)) fun ne=>force (H2.nv - bm1 L.its) fun nv =>
  some ⟨ne,nv,l,bmI (Nat.succ ne) bs,ne,bru ne G,L.ev⟩
 | none=>none
def Lp.lh(L:Lp):LH:=⟨L.head,L.back,fun F2 H2=>L.ms F2 H2 (H2.nv - bm1 L.its)⟩
def aa0:List (Nat×Lp)→Nat→Option LH
 | [],_=>none
 | (k,L)::r,id=>match Nat.beq id k with
  | true=>some L.lh
  | false=>aa0 r id
def hintA:List (Nat×(Fm→HP→List X))→Nat→Fm→HP→List X
 | [],_,_,_=>[]
 | (k,f)::r,id,F,H=>match Nat.beq id k with
  | true=>f F H
  | false=>hintA r id F H
def sx(F:Fm)(t:Nat):X :=
 match F.get t with
 | some (.one (.sv _ _ e))=>e
 | some (.one (.lit u))=>.lit u
 | some (.one (.os _ _ n _ _ _))=>n
 | _=>.lit (.int .i64 0)
end
end Go.Sx
namespace Go.Sx
variable {P:Program}
def aau(fn:Func):Code:=fn.body.getD .skip
theorem bj1{f:FuncId}{fn:Func}{c:Code}(hf:P.funcs[f]? = some fn)(hname:(fn.name == "runtime.NumGoroutine")=false) (hb:fn.body=some c) (args:Array Value) (w:World) :
  (callFunc f args).run P w=.ok (.enter f args) w:=by
 have h1:fn.name≠"runtime.NumGoroutine":=by simpa using hname
 simp [callFunc,hf,h1,hb]
def bpr(fn:Func):Bool:=!(fn.name == "runtime.NumGoroutine")&&(match fn.body with | some c=>acs c | none=>false)
structure FnAt (P:Program) (f:FuncId) (fn:Func):Prop where
 at':P.funcs[f]? = some fn
 body:fn.body=some (aau fn)
 call:∀ us w,(callFunc f us).run P w=.ok (.enter f us) w
 flow:acs (aau fn)=true
theorem FnAt.of{f:FuncId}{fn:Func}(hf:P.funcs[f]? = some fn)(ht:bpr fn=true):FnAt P f fn:=by
 unfold bpr at ht
 simp only [Ba,Bool.not_eq_true'] at ht
 obtain⟨h1,h2⟩:=ht
 split at h2
 ·rename_i c hc
  have hb:fn.body=some (aau fn):=by unfold aau;rw [hc];rfl
  refine⟨hf,hb,fun us w=>bj1 hf h1 hb us w,?_⟩
  unfold aau
  rw [hc]
  exact h2
 ·cases h2
theorem aah.of{P:Program}[Plain P]{U:Us}{T:FuncId→Option Fsp}{f:FuncId}{fn:Func}{fuel fk:Nat}{hs:Hs}{S:Fsp}{v:List VC}{outs:List (List X×List (List X))}(hm:P.follows .mixedOrders=true)(hT:∀ f S,T f=some S→aah U P f S)(hf:FnAt P f fn)
  (h:runS P (acr T) fuel fk hs fn (aau fn) S=some (v,outs)) (hv:∀ z∈v,VCok U z) (hend:∀ o∈outs,∀ σ:Sg,σ.toUs=U→@Holds σ o.1→∃ q∈S.outs,@Holds σ q.1∧q.2.map (@denL σ)=o.2.map (@denL σ)):aah U P f S :=
 a4f hm (amc hT) hf.at' hf.body hf.call hf.flow h hv hend
def tab:List (FuncId×Fsp)→FuncId→Option Fsp
 | [],_=>none
 | (k,S)::r,f=>match Nat.beq f k with
  | true=>some S
  | false=>tab r f
def ae1(U:Us)(P:Program)(l:List (FuncId×Fsp)):Prop:=∀ f S,tab l f=some S→aah U P f S
theorem ae1.nil{U:Us}:ae1 U P []:=fun f S h=>(by cases h)
theorem ae1.cons{U:Us}{k:FuncId}{S:Fsp}{l:List (FuncId×Fsp)}(h:aah U P k S)(hl:ae1 U P l):ae1 U P ((k,S)::l):=fun f S' hf=>by
 unfold tab at hf
 split at hf
 ·rename_i hb
  cases hf
  rw [Nb hb]
  exact h
 ·exact hl f S' hf
end Go.Sx
namespace Go.Proofs.Ytlbbkmcegbeckaa
open Go.Sx Go.Proofs
abbrev I(z:Int):X:=.lit (.int .i64 z)
abbrev V(n:Nat):X:=.var n
abbrev LoI:X:=.lit (.int .i64 (-9223372036854775808))
abbrev HiI:X:=.lit (.int .i64 9223372036854775807)
theorem mixed:Try.prog.follows .mixedOrders=true:=by kernel_rfl
def bio:List Nat:=[24,122,74]
theorem bxx:∀ t∈bio,aiy Try.prog t=true:=List.all_eq_true.1 (by kernel_rfl:bio.all (aiy Try.prog)=true)
instance:Plain Try.prog:=Plain.ofList bio bxx
theorem at5:FnAt Try.prog 5 Try.f5:=.of Try.func5 (by kernel_rfl)
theorem at8:FnAt Try.prog 8 Try.f8:=.of Try.func8 (by kernel_rfl)
theorem at9:FnAt Try.prog 9 Try.f9:=.of Try.func9 (by kernel_rfl)
theorem at10:FnAt Try.prog 10 Try.f10:=.of Try.func10 (by kernel_rfl)
theorem at11:FnAt Try.prog 11 Try.f11:=.of Try.func11 (by kernel_rfl)
theorem at15:FnAt Try.prog 15 Try.f15:=.of Try.func15 (by kernel_rfl)
theorem at16:FnAt Try.prog 16 Try.f16:=.of Try.func16 (by kernel_rfl)
theorem at17:FnAt Try.prog 17 Try.f17:=.of Try.func17 (by kernel_rfl)
theorem at18:FnAt Try.prog 18 Try.f18:=.of Try.func18 (by kernel_rfl)
theorem at19:FnAt Try.prog 19 Try.f19:=.of Try.func19 (by kernel_rfl)
theorem at22:FnAt Try.prog 22 Try.f22:=.of Try.func22 (by kernel_rfl)
theorem at23:FnAt Try.prog 23 Try.f23:=.of Try.func23 (by kernel_rfl)
theorem at25:FnAt Try.prog 25 Try.f25:=.of Try.func25 (by kernel_rfl)
theorem at27:FnAt Try.prog 27 Try.f27:=.of Try.func27 (by kernel_rfl)
theorem at29:FnAt Try.prog 29 Try.f29:=.of Try.func29 (by kernel_rfl)
theorem at47:FnAt Try.prog 47 Try.f47:=.of Try.func47 (by kernel_rfl)
theorem at48:FnAt Try.prog 48 Try.f48:=.of Try.func48 (by kernel_rfl)
theorem at50:FnAt Try.prog 50 Try.f50:=.of Try.func50 (by kernel_rfl)
theorem at52:FnAt Try.prog 52 Try.f52:=.of Try.func52 (by kernel_rfl)
theorem at53:FnAt Try.prog 53 Try.f53:=.of Try.func53 (by kernel_rfl)
theorem at55:FnAt Try.prog 55 Try.f55:=.of Try.func55 (by kernel_rfl)
theorem at56:FnAt Try.prog 56 Try.f56:=.of Try.func56 (by kernel_rfl)
theorem at57:FnAt Try.prog 57 Try.f57:=.of Try.func57 (by kernel_rfl)
theorem at58:FnAt Try.prog 58 Try.f58:=.of Try.func58 (by kernel_rfl)
theorem at60:FnAt Try.prog 60 Try.f60:=.of Try.func60 (by kernel_rfl)
theorem at61:FnAt Try.prog 61 Try.f61:=.of Try.func61 (by kernel_rfl)
theorem at62:FnAt Try.prog 62 Try.f62:=.of Try.func62 (by kernel_rfl)
theorem at63:FnAt Try.prog 63 Try.f63:=.of Try.func63 (by kernel_rfl)
theorem at64:FnAt Try.prog 64 Try.f64:=.of Try.func64 (by kernel_rfl)
theorem at65:FnAt Try.prog 65 Try.f65:=.of Try.func65 (by kernel_rfl)
theorem at68:FnAt Try.prog 68 Try.f68:=.of Try.func68 (by kernel_rfl)
theorem at69:FnAt Try.prog 69 Try.f69:=.of Try.func69 (by kernel_rfl)
theorem at70:FnAt Try.prog 70 Try.f70:=.of Try.func70 (by kernel_rfl)
theorem at75:FnAt Try.prog 75 Try.f75:=.of Try.func75 (by kernel_rfl)
theorem at97:FnAt Try.prog 97 Try.f97:=.of Try.func97 (by kernel_rfl)
theorem at99:FnAt Try.prog 99 Try.f99:=.of Try.func99 (by kernel_rfl)
theorem bz9:FnAt Try.prog 101 Try.f101:=.of Try.func101 (by kernel_rfl)
theorem b0a:FnAt Try.prog 102 Try.f102:=.of Try.func102 (by kernel_rfl)
theorem bvf:FnAt Try.prog 103 Try.f103:=.of Try.func103 (by kernel_rfl)
theorem b0b:FnAt Try.prog 104 Try.f104:=.of Try.func104 (by kernel_rfl)
theorem bvg:FnAt Try.prog 105 Try.f105:=.of Try.func105 (by kernel_rfl)
theorem b0c:FnAt Try.prog 106 Try.f106:=.of Try.func106 (by kernel_rfl)
theorem b0d:FnAt Try.prog 107 Try.f107:=.of Try.func107 (by kernel_rfl)
theorem b0e:FnAt Try.prog 108 Try.f108:=.of Try.func108 (by kernel_rfl)
theorem b0f:FnAt Try.prog 109 Try.f109:=.of Try.func109 (by kernel_rfl)
theorem bq5:FnAt Try.prog 130 Try.f130:=.of Try.func130 (by kernel_rfl)
theorem b0g:FnAt Try.prog 131 Try.f131:=.of Try.func131 (by kernel_rfl)
theorem b0h:FnAt Try.prog 132 Try.f132:=.of Try.func132 (by kernel_rfl)
theorem b0i:FnAt Try.prog 133 Try.f133:=.of Try.func133 (by kernel_rfl)
end Go.Proofs.Ytlbbkmcegbeckaa
namespace Go.Sx
section
variable [Sg]
theorem aao(n:Nat):den (.var n)=Sg.v n:=rfl
theorem aax(u:Value):den (.lit u)=.v u:=rfl
theorem aco(k:IntKind)(a b:X):den (.ap (.add k) [a,b])=vInt k ((den a).iv+(den b).iv):=rfl
theorem a8t(k:IntKind)(a b:X):den (.ap (.sub k) [a,b])=vInt k ((den a).iv - (den b).iv):=rfl
theorem a8q(k:IntKind)(a b:X):den (.ap (.mul k) [a,b])=vInt k ((den a).iv*(den b).iv):=rfl
theorem atv(k:IntKind)(a:X):den (.ap (.cast k) [a])=vInt k (den a).iv:=rfl
theorem w_wr(k:IntKind)(a:X):den (.ap (.wr k) [a])=vInt k (k.wrap (den a).iv):=rfl
theorem w_lt(a b:X):den (.ap .lt [a,b])=aan (decide ((den a).iv<(den b).iv)):=rfl
theorem w_le(a b:X):den (.ap .le [a,b])=aan (decide ((den a).iv≤(den b).iv)):=rfl
theorem w_eq(a b:X):den (.ap .eq [a,b])=aan (eqC (den a) (den b)):=rfl
theorem akb(a:X):den (.ap .not [a])=aan (!(den a).bv):=rfl
theorem boz(a b:X):den (.ap .and [a,b])=aan ((den a).bv&&(den b).bv):=rfl
theorem a8p(a b c:X):den (.ap .ite [a,b,c])=if(den a).bv then den b else den c:=rfl
theorem abn(a:X):den (.ap .len [a])=vInt .i64 (den a).len:=rfl
theorem atw(a:X):den (.ap .slen [a])=vInt .i64 (den a).slen:=rfl
theorem abf(j:Nat)(a i:X):den (.ap (.cell j) [a,i])=(den a).cell (den i).iv j:=rfl
theorem ac3(b:Bool):den (.ap (.nil b) [])=.sl b []:=rfl
theorem w_mk(z:Bool)(a:X):den (.ap (.mk z) [a])=.sl (z&&(den a).rows.isEmpty) (den a).rows:=rfl
theorem abt(a:X)(l:List X):den (.ap .snoc (a::l))=.sl false ((den a).rows++[denL l]):=rfl
theorem aef(a b:X):den (.ap .cat [a,b])=.sl false ((den a).rows++(den b).rows):=rfl
theorem aeg(a l h:X):den (.ap .cut [a,l,h])=.sl (den a).isNil (((den a).rows.take (den h).iv.toNat).drop (den l).iv.toNat):=rfl
theorem a8u(j:Nat)(a i c:X):den (.ap (.upd j) [a,i,c])=.sl false (setCell (den a).rows (den i).iv.toNat j (den c)):=rfl
theorem a8s(n:X)(l:List X):den (.ap .rep (n::l))=.sl false (List.replicate (den n).iv.toNat (denL l)):=rfl
theorem ai5(a:X):den (.ap .str [a])=.v (.string ⟨((den a).rows.map aha).toArray⟩):=rfl
theorem a8o(a:X):den (.ap .byt [a])=.sl false ((den a).str.toList.map apw):=rfl
theorem a8r(k:IntKind)(a:X):den (.ap (.neg k) [a])=vInt k (k.wrap (0 - (den a).iv)):=rfl
theorem aav(n:Nat)(l:List X):den (.ap (.usr n) l)=Us.u n (denL l):=rfl
theorem ae0(o:BinOp)(a b:X):den (.ap (.sbin o) [a,b])=orV (strA o (den a).str (den b).str):=rfl
theorem a8n(o:BinOp)(k:IntKind)(a b:X):den (.ap (.bin o k) [a,b])=orV (ail o k (den a).iv (den b).iv):=rfl
theorem w_l0:denL []=[]:=rfl
theorem w_l1(a:X)(l:List X):denL (a::l)=den a::denL l:=rfl
theorem b_lt(a b:X):((den (.ap .lt [a,b])).bv=true)=((den a).iv<(den b).iv):=Dt
theorem b_le(a b:X):((den (.ap .le [a,b])).bv=true)=((den a).iv≤(den b).iv):=Dt
theorem b_eq(a b:X):((den (.ap .eq [a,b])).bv=true)=(eqC (den a) (den b)=true):=rfl
theorem abk(a:X):((den (.ap .not [a])).bv=true)=¬ ((den a).bv=true):=by
 show((!(den a).bv)=true)=_
 cases (den a).bv<;>simp
theorem aty(a b:X):((den (.ap .and [a,b])).bv=true)=((den a).bv=true∧(den b).bv=true):=by
 show(((den a).bv&&(den b).bv)=true)=_
 simp
theorem b_or(a b:X):((den (.ap .or [a,b])).bv=true)=((den a).bv=true∨(den b).bv=true):=by
 show(((den a).bv||(den b).bv)=true)=_
 simp
theorem aay(x:X):Tru x=((den x).bv=true):=rfl
theorem aac:Holds []=True:=by simp [Holds]
theorem aad(x:X)(l:List X):Holds (x::l)=(Tru x∧Holds l):=by simp [Holds]
theorem abr(a b:X):((den (.ap .same [a,b])).bv=true)=(den a=den b):=@decide_eq_true_eq _ (Classical.propDecidable _)
theorem af5(a:X):((den (.ap .isnil [a])).bv=true)=((den a).isNil=true):=rfl
theorem au3(e k:X):((den (.ap .mhas [e,k])).bv=true)=(mHas (den k) (den e).rows=true):=rfl
theorem ayr(j:Nat)(e k z:X):den (.ap (.mget j) [e,k,z])=mGet j (den k) (den z) (den e).rows:=rfl
theorem ays(e c k:X)(vs:List X):den (.ap .mput (e::c::k::vs))=.sl false (mPut (den k) (denL vs) (den c) (den e).rows):=rfl
theorem au2(e s:X):((den (.ap .mall [e,s])).bv=true)=(((den e).rows.all fun r=>mIn (asr r) (den s).rows)=true):=rfl
theorem a9g(e c:X):((den (.ap .mok [e,c])).bv=true)=MOk (den e).rows (den c).iv:=@decide_eq_true_eq _ (Classical.propDecidable _)
theorem a9f(b s:X):((den (.ap .min [b,s])).bv=true)=(mIn (den b) (den s).rows=true):=rfl
theorem ayt(e:X):den (.ap .rlen [e])=vInt .i64 (den e).rows.length:=rfl
theorem afc(o:BinOp)(k:IntKind)(a b:X):den (.ap (.shf o k) [a,b])=orV (atr o k (den a).iv (den b).iv):=rfl
theorem ayu(a b:X):den (.ap .same [a,b])=aan (@decide (den a=den b) (Classical.propDecidable _)):=rfl
theorem amj(s:Srt)(a:X):den (.ap (.typ s) [a])=aan (@decide (Typ s (den a)) (Classical.propDecidable _)):=rfl
theorem aa6(s:Srt)(a:X):((den (.ap (.typ s) [a])).bv=true)=Typ s (den a):=@decide_eq_true_eq _ (Classical.propDecidable _)
end
theorem aaw(k:IntKind)(z:Int):(CD.v (.int k z)).iv=z:=rfl
theorem aa2(b:Bool):(CD.v (.bool b)).bv=b:=rfl
theorem aae(k:IntKind)(z:Int):(vInt k z).iv=z:=rfl
theorem aaf(b:Bool):(aan b).bv=b:=rfl
theorem aak(b:Bool)(r:List (List CD)):(CD.sl b r).rows=r:=rfl
theorem aaj(b:Bool)(r:List (List CD)):(CD.sl b r).isNil=b:=rfl
theorem Typ.sl{ss:List Srt}{d:CD}(h:Typ (.sl ss) d):d.len=d.rows.length∧d.rows.length≤maxN:=by
 obtain⟨m,u,h⟩:=h
 exact⟨h.slice.2.1,h.slice.1⟩
theorem Typ.row{ss:List Srt}{d:CD}(h:Typ (.sl ss) d){i:Nat}{row:List CD}(hi:d.rows[i]? = some row):row.length=ss.length∧∀ (j:Nat) (s:Srt),ss[j]? = some s→Typ s (row.getD j default):=by
 obtain⟨m,u,h⟩:=h
 rcases(show(d=.sl true []∧u=.slice none 0 0)∨_ from h) with ⟨h1,_⟩ | ⟨rows,b,off,cap,h1,h2,h3,h4,h5⟩ | ⟨_,h1,_⟩
 rotate_right
 ·rw [h1] at hi
  cases (show([]:List (List CD))[i]? = some row from hi)
 ·rw [h1] at hi
  cases (show([]:List (List CD))[i]? = some row from hi)
 ·rw [h1] at hi
  have hi:rows[i]? = some row:=hi
  obtain⟨arr,t,fr,_,h7⟩:=h5 (fun hh=>by rw [hh] at hi;cases hi)
  have hr:=h7 i row hi
  refine⟨hr.len,fun j s hj=>?_⟩
  obtain⟨u',_,h8⟩:=hr.get j s hj
  exact⟨m,u',h8⟩
theorem Typ.cell{ss:List Srt}{d:CD}(h:Typ (.sl ss) d){i:Int}{j:Nat}{s:Srt}(h0:0≤i)(hi:i<d.len)(hj:ss[j]? = some s):Typ s (d.cell i j):=by
 have hlt:i.toNat<d.rows.length:=by have:=h.sl.1;omega
 unfold CD.cell
 rw [show d.rows.getD i.toNat []=d.rows[i.toNat] by rw [Gd,Gl hlt];rfl]
 exact(h.row (Gl hlt)).2 j s hj
theorem aa7(U:Us):∀ z∈([]:List VC),VCok U z:=fun z hz=>by cases hz
theorem aai{U:Us}{hy:List X}{x:X}{l:List VC}(h:∀ v:Nat→CD,@Holds ⟨v⟩ hy→@Tru ⟨v⟩ x)(hl:∀ z∈l,VCok U z):∀ z∈(hy,x)::l,VCok U z:=fun z hz=>by
 rcases Mn.1 hz with rfl | hz
 ·intro σ hU hh
  obtain⟨v⟩:=σ
  cases hU
  exact h v hh
 ·exact hl z hz
def wA[Sg]:=And.intro (@aao _) (And.intro (@aax _) (And.intro (@aco _) (And.intro (@a8t _) (And.intro (@a8q _) (And.intro (@atv _) (And.intro (@w_wr _) (And.intro (@b_lt _) (And.intro (@b_le _) (And.intro (@b_eq _) (And.intro (@abk _) (And.intro (@aty _) (And.intro (@b_or _) (And.intro (@aa6 _) (And.intro (@abr _) (And.intro (@af5 _) (And.intro (@a8p _) (And.intro (@abn _) (And.intro (@atw _) (And.intro (@abf _) (And.intro (@ac3 _) (And.intro (@w_mk _) (And.intro (@abt _) (And.intro (@aef _) (And.intro (@a8u _) (And.intro (@a8s _) (And.intro (@ai5 _) (And.intro (@a8o _) (And.intro (@a8r _) (And.intro (@aav _) (And.intro (@ae0 _) (And.intro (@a8n _) (And.intro (@w_l0 _) (And.intro (@w_l1 _) (And.intro (@aay _) (And.intro (@aac _) ((@aad _)))))))))))))))))))))))))))))))))))))
def wB:=And.intro @aaw (And.intro @aa2 (And.intro @aae (And.intro @aaf (And.intro @aak (@aaj)))))
abbrev sBy:Srt:=.sl [.int .u8]
def byts(d:CD):List UInt8:=d.rows.map aha
theorem bre(rows:List (List CD)):Lib.bytesOf (rows.map fun r=>(r.getD 0 default).iv)=rows.map aha:=by
 unfold Lib.bytesOf
 rw [List.map_map]
 rfl
theorem ax3{P:Program}{m:Mem}{w:World}{d:CD}{u:Value}(hm:∀ k o,m k o→w.heap[k]? = some o)(h:RS m sBy d u):(Extern.Bytes.bytesOf u).run P w=.ok ⟨(byts d).toArray⟩ w:=by
 haveI:Sg:={ u:=fun _ _=>default,v:=fun _=>default,lc:=fun _=>⟨#[],.skip,.skip⟩ }
 rcases(show(d=.sl true []∧u=.slice none 0 0)∨_ from h) with ⟨e1,e2⟩ | ⟨rows,b,off,cap,e1,e2,e3,e4,e5⟩ | ⟨ad,e1,e2⟩
 rotate_right
 ·rw [e1,e2];rfl
 ·rw [e1,e2];rfl
 ·have hrows:byts d=rows.map aha:=by rw [e1];rfl
  rw [hrows,e2]
  by_cases hne:rows=[]
  ·subst hne
   rfl
  ·obtain⟨arr,t,fr,g1,g2⟩:=e5 hne
   obtain⟨us,hf,hc⟩:=aki g2
   have hob:=hm b _ g1.1
   have:=Lib.run_loadBytesX (P:=P) (w:=w) (rows.map fun r=>(r.getD 0 default).iv) ⟨b,off,none⟩ .empty (fun j x hj=>by
    rw [abl,cell?_of hob]
    refine hc j _ ?_
    rw [a6d hf,List.getElem?_map,hj]
    rfl)
   rw [List.length_map] at this
   show(Extern.Bytes.loadBytes ⟨b,off,none⟩ rows.length .empty).run P w=_
   rw [this,bre]
   congr 2
   simp
theorem a5m:∀ (xs ys:List UInt8),Lib.compareBytes xs ys = -1∨Lib.compareBytes xs ys=0∨Lib.compareBytes xs ys=1
 | [],[]=>.inr (.inl rfl)
 | [],_::_=>.inl rfl
 | _::_,[]=>.inr (.inr rfl)
 | x::xs,y::ys=>by
  simp only [Lib.compareBytes]
  split
  ·exact .inl rfl
  ·split
   ·exact .inr (.inr rfl)
   ·exact a5m xs ys
def aml(k:Nat):Fsp:=⟨[(false,[sBy]),(false,[sBy])],[],[(false,[.int .i64])],[([.ap .le [.lit (.int .i64 (-1)),.ap (.usr k) [.var 0,.var 1]],.ap .le [.ap (.usr k) [.var 0,.var 1],.lit (.int .i64 1)]],[[.ap (.usr k) [.var 0,.var 1]]])],true⟩
theorem a5n{P:Program}{U:Us}{f:FuncId}{fn:Func}{k:Nat}(hU:∀ a b,@Us.u U k [a,b]=vInt .i64 (Lib.compareBytes (byts a) (byts b)))(hf:P.funcs[f]? = some fn)(hname:(fn.name == "runtime.NumGoroutine")=false) (hb:fn.body.isNone=true) (hn:Extern.findNext fn=none) (he:Extern.find fn=some Extern.BytealgCompare.compare):aah U P f (aml k):=by
 intro σ hσ m w us _ hm hargs _
 obtain⟨v⟩:=σ
 cases hσ
 obtain⟨l⟩:=us
 match l,hargs with
 | [u,u'],hargs =>
  obtain⟨h1,h2,_⟩:=hargs
  have h1:RS m sBy (v 0) u:=h1
  have h2:RS m sBy (v 1) u':=h2
  rw [run_callFunc_extern hf hname hb hn he]
  have hrun:(Extern.BytealgCompare.compare #[u,u']).run P w=.ok (.int .i64 (Lib.compareBytes (byts (v 0)) (byts (v 1)))) w:=by
   change ((do pure (goInt (Extern.BytealgCompare.cmp (← Extern.Bytes.bytesOf u) (← Extern.Bytes.bytesOf u'))):Sem Value).run P w)=_
   simp only [Sem.run_bind,ax3 hm h1,ax3 hm h2,Result.andThen_ok,Sem.run_pure,Lib.cmp_eq,goInt]
  show abz P _ (((Extern.BytealgCompare.compare #[u,u']).run P w).andThen fun v w'=>.ok (.value v) w')
  rw [hrun]
  have hr:=a5m (byts (v 0)) (byts (v 1))
  refine⟨⟨fun _ _=>rfl,Rl _,rfl,rfl,rfl⟩,_,Mg.2 rfl,?_,[_],⟨?_,trivial⟩,rfl⟩
  ·simp only [aml,aad,aac,aay,b_le,aav,w_l1,w_l0,aao,aax,aaw,hU,aae]
   rcases hr with hr | hr | hr<;>rw [hr]<;>exact⟨by decide,by decide,trivial⟩
  ·refine⟨Lib.compareBytes (byts (v 0)) (byts (v 1)),?_,rfl,?_⟩
   ·exact(hU (v 0) (v 1)).trans rfl
   ·rcases hr with hr | hr | hr<;>rw [hr]<;>decide
 | [],h=>exact h.elim
 | [_],h=>exact h.2.elim
 | _::_::_::_,h=>exact h.2.2.elim
end Go.Sx
