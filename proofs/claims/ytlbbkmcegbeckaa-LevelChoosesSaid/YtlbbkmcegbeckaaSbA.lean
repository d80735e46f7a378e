/-
  Contracts of a seat's functions: what is large. Conditions: none.
-/
import Derived.Test.YtlbbkmcegbeckaaSyN
import Derived.RangeFuncLeaves
set_option linter.all false
set_option maxRecDepth 100000
noncomputable section
namespace Go.Sx
noncomputable section
def bah(P:Program)[Plain P](H:HP)(F:Fm):List ResultVar→Option (List (Bool×List Cel))
 | []=>some []
 | r::rs=>match resF P H F r,bah P H F rs with
  | some p,some l=>some (p::l)
  | _,_=>none
def endI(P:Program)[Plain P](fn:Func)(x:Oc):Option (AV×HP) :=
 match x.1 with
 | .ext _=>none
 | _=>match bah P x.2.2 x.2.1 fn.results.toList with
  | some ps=>some (bai ps,x.2.2)
  | none=>none
structure Inl where
 fn:Func
 hs:Hs
def runI(P:Program)[Plain P](cx:Cx)(d:Inl)(args:List AV)(H:HP):RV :=
 match Nat.ble args.length d.fn.ntmps with
 | true=>match ami P cx d.fn.ntmps d.hs (aau d.fn) (azp .nil 0 args) H with
  | some (v,l)=>match aej (l.map (endI P d.fn)) with
   | some outs=>some (v,outs)
   | none=>none
  | none=>none
 | false=>none
def bnl(n:Nat):Fm→List Tmp→List AV→Option Fm
 | F,[],[]=>some F
 | F,p::ps,v::vs=>match putF n F (some p) v with
  | some F'=>bnl n F' ps vs
  | none=>none
 | _,_,_=>none
def az2:Ex→Option Code
 | .nrm=>none
 | .ext id=>some (.exit id)
 | .rt=>some .ret
def stOf:Ex→LoopState
 | .nrm=>.ready
 | _=>.done
def bw8:Ex→Bool
 | .nrm=>true
 | _=>false
def isReady:LoopState→Bool
 | .ready=>true
 | _=>false
def avk(b:Nat)(x:Oc):Option (AV×HP) :=
 match aiv x.2.2 b with
 | some l=>some (.one (.lit (.bool (bw8 x.1))),x.2.2.obj b (LoopC.ct { l with st:=stOf x.1,pend:=az2 x.1 }))
 | none=>none
def a7o(P:Program)[Plain P](cx:Cx)(hs:Hs)(b n:Nat)(body:Code)(F:Fm)(H:HP):RV :=
 match aiv H b with
 | some l=>match isReady l.st with
  | true=>match ami P cx n hs body F (H.obj b (LoopC.ct { l with st:=.busy })) with
   | some (v,outs)=>match aej (outs.map (avk b)) with
    | some r=>some (v,r)
    | none=>none
   | none=>none
  | false=>none
 | none=>none
def bkp(P:Program)[Plain P](cx:Cx)(hs:Hs)(b n:Nat)(body:Code)(x:Oc):RV :=
 match x.1 with
 | .nrm=>a7o P cx hs b n body x.2.1 x.2.2
 | _=>none
def bd8(P:Program)[Plain P](cx:Cx)(hs:Nat→Hs)(lc:Nat→LCd)(b:Nat)(args:List AV)(H:HP):RV :=
 match aiv H b with
 | some l=>match bnl l.n l.F (lc l.k).ps.toList args,(acs (lc l.k).assign&&acs (lc l.k).body)&&(nilL (afh (lc l.k).assign)&&nilL (afh (lc l.k).body)) with
  | some F1,true=>match ami P cx l.n (hs l.k) (lc l.k).assign F1 H with
   | some (v,outs)=>addV v (a9h (bkp P cx (hs l.k) b l.n (lc l.k).body) outs)
   | none=>none
  | _,_=>none
 | none=>none
structure Tb where
 f:FuncId→Option Inl
 y:Nat→Hs
 lc:Nat→LCd
def Tb.ent(T:Tb):FuncId→Bool:=fun g=>match T.f g with
 | some _=>true
 | none=>false
def keyOf(g id:Nat):Nat:=Nat.add (Nat.mul g 1000) id
def orvK(P:Program)[Plain P](ora:OraM)(fuel fk:Nat)(T:Tb)(d:Nat):OraV :=
 Nat.rec (motive:=fun _=>OraV) noV (fun _ ih t args H=>match t with
  | .f g=>match T.f g with
   | some d=>runI P ⟨ora,ih,T.ent,fuel,fk,none,keyOf g⟩ d args H
   | none=>none
  | .y b=>bd8 P ⟨ora,ih,T.ent,fuel,fk,some b,fun _=>0⟩ T.y T.lc b args H) d
end
theorem auy{α β:Type}{f:α→Option β}{xs:List α}{ys:List β}(h:aej (xs.map f)=some ys):(∀ x∈xs,∃ y∈ys,f x=some y)∧∀ y∈ys,∃ x∈xs,f x=some y:=by
 haveI:Sg:={ u:=fun _ _=>default,lc:=fun _=>⟨#[],.skip,.skip⟩,v:=fun _=>default }
 obtain⟨hlen,hget⟩:=ags h
 rw [List.length_map] at hlen
 refine⟨fun x hx=>?_,fun y hy=>?_⟩
 ·obtain⟨i,hi⟩:=List.getElem?_of_mem hx
  have hlt:i<ys.length:=by rw [← hlen];exact(Ls.1 hi).1
  have:=hget i ys[i] (Gl hlt)
  rw [List.getElem?_map,hi] at this
  simp only [Option.map_some,Oi] at this
  exact⟨_,List.getElem_mem hlt,this⟩
 ·obtain⟨i,hi⟩:=List.getElem?_of_mem hy
  have:=hget i y hi
  rw [List.getElem?_map] at this
  cases ho:xs[i]? with
  | none=>rw [ho] at this;cases this
  | some x =>
   rw [ho] at this
   simp only [Option.map_some,Oi] at this
   exact⟨x,List.mem_of_getElem? ho,this⟩
section
variable {P:Program} [Plain P] {n:Nat} {U:Us} {H H':HP} {w w':World} {ρ ρ':PM}
theorem bdl{σ:Sg}{F:Fm}{a:Act}(hf:@FRel σ n ρ F a)(hH:@HRel σ ρ H w)(hj:J ρ H w):∀ (rs:List ResultVar) {ps:List (Bool×List Cel)},bah P H F rs=some ps →
  ∃ us,(rs.mapM fun | .tmp t=>pure (a.tmps.getD t undef) | .cell x t=>do loadVar t (← asAddr (a.tmps.getD x undef)):Sem (List Value)).run P w=.ok us w∧All2 (@PRel σ ρ) ps us
 | [],ps,h=>by cases h;exact⟨[],rfl,trivial⟩
 | r::rs,ps,h=>by
  simp only [bah] at h
  split at h
  ·rename_i p l hp hl
   cases h
   obtain⟨u,hu,hrel⟩:=@bjo P _ _ _ _ _ _ _ σ hf hH hj _ _ hp
   obtain⟨us,hus,hrels⟩:=bdl hf hH hj rs hl
   refine⟨u::us,?_,hrel,hrels⟩
   simp only [List.mapM_cons,Sem.run_bind]
   refine(congrArg (fun x=>Result.andThen x _) hu).trans ?_
   simp only [Result.andThen_ok]
   refine(congrArg (fun x=>Result.andThen x _) hus).trans ?_
   rfl
  ·cases h
structure EndI (σ:Sg) (ρ:PM) (H:HP) (w:World) (ρ':PM) (H':HP) (w':World):Prop where
 rel:@HRel σ ρ' H' w'
 j:J ρ' H' w'
 tw:TW w
 sim:SimF ρ H w ρ' H' w'
theorem EndI.unowned{σ:Sg}{D:Nat}{o:Obj}(h:EndI σ ρ H w ρ' H' w')(hD:w.heap.size≤D)(hno:∀ b L,H'.Kn b→ρ' b=some L→L.B≠D)(hg:∀ g L M o,ρ' g=some L→L.M=some M→¬ M D o):EndI σ ρ H w ρ' H' (w'.putObj D o) where
 rel:=@HRel.mk σ _ _ _ (fun b i c L hc hL=>@aei.of_heap σ _ _ _ _ _ (World.putObj_heap_other (hno b L ⟨i,c,hc⟩ hL)) _ (@HRel.rel σ _ _ _ h.rel b i c L hc hL)) (@HRel.inj σ _ _ _ h.rel) (@HRel.hy σ _ _ _ h.rel)
 j:=h.j.put h.tw hD hg
 tw:=h.tw
 sim:=⟨h.sim.le,h.sim.grow,h.sim.dom,h.sim.knc,fun k hk hno'=>by rw [World.putObj_heap_other (by omega)];exact h.sim.fr k hk hno',h.sim.new,by rw [World.putObj_size];exact h.sim.size,h.sim.os,h.sim.tape,h.sim.output,h.sim.old,fun hj=>(h.sim.jj hj).put h.tw hD hg,h.sim.ro⟩
theorem asy{σ:Sg}{fn:Func}{tmps:Array Value}{R:Ending→World→Prop}
  (hend:∀ w',EndI σ ρ H w ρ' H' w'→∃ v,(results fn tmps).run P w'=.ok v w'∧R (.returned v) w'):∀ (ds:List Deferred) (w':World),EndI σ ρ H w ρ' H' w'→DfOK ρ' H' w' w.heap.size ds→LeavesInM Fence.wide 0 P fn tmps R ds .returning w'
 | [],w',s,_=>hend w' s
 | d::ds,w',s,⟨⟨D,h1,hm,h2,h3,h7⟩,h⟩=>by
  refine⟨by simp,.inl ⟨D,_,by rw [h1],run_takeDeferred h2,asy hend ds _ (s.unowned hm h3.1 h3.2) ?_⟩⟩
  have keep:∀ (es:List Deferred),(∀ d'∈es,∀ D',d'.target=.collected D'→D'≠D)→DfOK ρ' H' w' w.heap.size es→DfOK ρ' H' (w'.putObj D (.deferred none)) w.heap.size es:=by
   intro es
   induction es with
   | nil=>exact fun _ _=>trivial
   | cons e es ih =>
    rintro hne ⟨⟨D',g1,gm,g2,g3,g7⟩,g⟩
    exact⟨⟨D',g1,gm,by rw [World.putObj_heap_other (hne e (Ms ..) D' (by rw [g1]))];exact g2,g3,g7⟩,ih (fun d' hd'=>hne d' (Mc _ hd')) g⟩
  exact keep ds h7 h
theorem bt6(hm:P.follows .mixedOrders=true){cx:Cx}(hcx:CxOK U P cx)(hrb:cx.rb=none){g:FuncId}{d:Inl}(hf:FnAt P g d.fn)(hrg:adv U.lc cx.rk (aau d.fn)){args:List AV}{v:List VC}{outs:List (AV×HP)}(h:runI P cx d args H=some (v,outs))(hv:∀ z∈v,VCok U z) :
  (∀ o∈outs,Sc H o.2)∧∀ σ:Sg,σ.toUs=U→∀ (ρ:PM) (w:World) (us:Array Value),All2 (@VRel σ ρ) args us.toList→@HRel σ ρ H w→Dom ρ H.n→J ρ H w→abz P (bd9 σ ρ H w outs) ((callFunc g us).run P w):=by
 unfold runI at h
 split at h
 rotate_left
 ·cases h
 rename_i hlen
 have hlen:=Nl hlen
 split at h
 rotate_left
 ·cases h
 rename_i v1 l hcode
 split at h
 rotate_left
 ·cases h
 rename_i outs1 hall
 cases h
 obtain⟨e1,e2⟩:=auy hall
 have K:=fun(σ:Sg) (hU:σ.toUs=U)=>aos (n:=d.fn.ntmps) (m:=0) (r:=none) hm hcx (aau d.fn) hf.flow hrg hcode hv σ hU
 rw [hrb] at K
 have hH:∀ x o,endI P d.fn x=some o→o.2=x.2.2∧(x.1=.nrm∨x.1=.rt)∧∃ ps,bah P x.2.2 x.2.1 d.fn.results.toList=some ps∧o.1=bai ps:=by
  intro x o hx
  obtain⟨e,F1,H1⟩:=x
  cases e with
  | ext id=>cases hx
  | nrm =>
   have hx:(match bah P H1 F1 d.fn.results.toList with
    | some ps=>some (bai ps,H1)
    | none=>none)=some o:=hx
   split at hx
   ·rename_i ps hps;cases hx;exact⟨rfl,.inl rfl,ps,hps,rfl⟩
   ·cases hx
  | rt =>
   have hx:(match bah P H1 F1 d.fn.results.toList with
    | some ps=>some (bai ps,H1)
    | none=>none)=some o:=hx
   split at hx
   ·rename_i ps hps;cases hx;exact⟨rfl,.inr rfl,ps,hps,rfl⟩
   ·cases hx
 haveI:Inhabited (Nat→CD):=⟨fun _=>default⟩
 refine⟨fun o ho=>?_,fun σ hU ρ w us hargs hH' hd hj=>?_⟩
 ·obtain⟨x,hx,hxo⟩:=e2 o ho
  rw [(hH x o hxo).1]
  exact(K { toUs:=U,v:=fun _=>default } rfl).st x hx
 ·rw [hf.call]
  show Calls P g us w _
  refine callsIn_wide.1 (callsIn_of_wp_marks (F:=Fence.wide) (n:=0) hf.at' hf.body trivial ?_)
  have hal:=All2.length hargs
  simp only [Array.length_toList] at hal
  have s0:@SRel σ d.fn.ntmps ρ (azp .nil 0 args) H { tmps:=us++Array.replicate (d.fn.ntmps - us.size) Go.undef,defers:=[] } w:=by
   refine @SRel.mk σ _ _ _ _ _ _ (@FRel.mk σ _ _ _ _ (by simp;omega) fun t v hv=>?_) hH' hd hj
   rcases alv args .nil 0 t v hv with ⟨_,h1⟩ | h1
   ·obtain⟨u,hu,hr⟩:=All2.get hargs _ _ h1
    rw [Nat.sub_zero,Array.getElem?_toList] at hu
    exact⟨u,by rw [Array.getElem?_append_left (Ga.1 hu).1];exact hu,hr⟩
   ·rw [PT.get_nil] at h1;cases h1
  refine(K σ hU).wp (m0:=w.heap.size) s0 trivial (Rl _) (DfOK.nil _ _ _ _) fun σ' he x hx ρ' a' w' s' hdf hs'=>?_
  obtain⟨o,ho,hxo⟩:=e1 x hx
  obtain⟨q1,q2,ps,q3,q4⟩:=hH x o hxo
  have hpost:LeavesInM Fence.wide 0 P d.fn a'.tmps (fun r w''=>∃ u',r=.returned u'∧bd9 σ ρ H w outs u' w'') a'.defers .returning w':=by
   refine asy (P:=P) (σ:=σ') (ρ:=ρ) (H:=H) (w:=w) (ρ':=ρ') (H':=x.2.2) (fun w2 hE=>?_) _ _ ⟨@SRel.hp σ' _ _ _ _ _ _ s',@SRel.j σ' _ _ _ _ _ _ s',(show J ρ H w by assumption).tw,hs'⟩ hdf
   obtain⟨uvs,huvs,hvr⟩:=bdl (P:=P) (@SRel.fr σ' _ _ _ _ _ _ s') hE.rel hE.j _ q3
   refine⟨oneOf uvs,?_,_,rfl,o,ho,σ',he,ρ',?_,by rw [q1];exact hE.sim,by rw [q1];exact hE.rel⟩
   ·unfold results
    rw [Sem.run_bind,Array.mapM_eq_mapM_toList,Sem.run_map]
    exact congrArg (fun r:Result (List Value)=>(r.andThen fun a w'=>Result.ok a.toArray w').andThen fun a w'=>Sem.run P (pure (if h:a.size=1 then a[0] else Value.tuple a)) w') huvs
   ·rw [q4]
    exact @a7m ρ' σ' _ _ hvr
  obtain⟨e,F1,H1⟩:=x
  rcases q2 with q2 | q2
  ·simp only at q2;subst q2;exact hpost
  ·simp only at q2;subst q2;exact hpost
theorem a6w[σ:Sg]:∀ {ps:List Tmp} {vs:List AV} {us:List Value} {F F':Fm} {tmps:Array Value},bnl n F ps vs=some F'→All2 (@VRel σ ρ) vs us→@FRel σ n ρ F ⟨tmps,[]⟩ →
  ps.length=us.length∧@FRel σ n ρ F' ⟨(ps.zip us).foldl (fun t (p:Tmp×Value)=>t.setIfInBounds p.1 p.2) tmps,[]⟩
 | [],[],[],F,F',tmps,h,_,hf=>by cases h;exact⟨rfl,hf⟩
 | [],[],_::_,_,_,_,_,h,_=>h.elim
 | [],_::_,_,_,_,_,h,_,_=>by cases h
 | _::_,[],_,_,_,_,h,_,_=>by cases h
 | p::ps,v::vs,[],_,_,_,_,h,_=>h.elim
 | p::ps,v::vs,u::us,F,F',tmps,h,⟨h1,h2⟩,hf=>by
  simp only [bnl] at h
  split at h
  ·rename_i F1 hp
   have:=@aun σ _ _ _ _ _ _ _ _ hf h1 hp
   obtain⟨k1,k2⟩:=a6w h h2 this
   exact⟨by simp [k1],k2⟩
  ·cases h
theorem amn{b:Nat}{x:Oc}{o:AV×HP}(h:avk b x=some o):∃ l,aiv x.2.2 b=some l∧o=(.one (.lit (.bool (bw8 x.1))),x.2.2.obj b (LoopC.ct { l with st:=stOf x.1,pend:=az2 x.1 })):=by
 unfold avk at h
 split at h
 ·rename_i l hl
  cases h
  exact⟨l,hl,rfl⟩
 ·cases h
theorem awc{α:Type}{l:List α}(h:nilL l=true):l=[]:=by
 cases l with
 | nil=>rfl
 | cons _ _=>cases h
theorem a7p(hm:P.follows .mixedOrders=true){cx:Cx}(hcx:CxOK U P cx){hs:Hs}{b:Nat}(hrb:cx.rb=some b){body:Code}{F:Fm}{v:List VC}{outs:List (AV×HP)}(hfl:acs body=true)(hrg:adv U.lc cx.rk body)
  (h:a7o P cx hs b n body F H=some (v,outs)) (hv:∀ z∈v,VCok U z):(∀ o∈outs,Sc H o.2)∧∀ σ:Sg,σ.toUs=U→∀ {ρ:PM} {a:Act} {w:World} {L:Loc} {R:Ending→World→Prop} {m0:Nat},ρ b=some L→@SRel σ n ρ F H a w→m0≤w.heap.size→DfOK ρ H w m0 a.defers →
   (∀ o∈outs,∀ σ',Ext H.nv σ σ'→∀ ρ' u w',@VRel σ' ρ' o.1 u→SimF ρ H w ρ' o.2 w'→@HRel σ' ρ' o.2 w'→R (.returned u) w')→∃ w₂,(Instr.beginRound L.B).run P w=.ok () w₂∧body.wpIn (WF (some L.B)) 0 P (roundPost P L.B R) a w₂:=by
 unfold a7o at h
 split at h
 rotate_left
 ·cases h
 rename_i l hl
 split at h
 rotate_left
 ·cases h
 rename_i hst
 split at h
 rotate_left
 ·cases h
 rename_i v1 l2 hc
 split at h
 rotate_left
 ·cases h
 rename_i r1 hall0
 cases h
 obtain⟨hall,hall'⟩:=auy hall0
 have K:=fun(r:Option Nat) (σ:Sg) (hU:σ.toUs=U)=>aos (n:=n) (m:=0) (r:=r) hm hcx body hfl hrg hc hv σ hU
 rw [hrb] at K
 refine⟨fun o ho=>?_,fun σ hU {ρ a w L R m0} hL s hm0 df hR=>?_⟩
 ·obtain⟨x,hx,hxe⟩:=hall' o ho
  obtain⟨l3,_,rfl⟩:=amn hxe
  haveI:Sg:={ toUs:=U,v:=fun _=>default }
  exact((St.obj _ _ _).sc.trans ((K none { toUs:=U,v:=fun _=>default } rfl).st x hx)).trans (St.obj _ _ _).sc
 ·have hfr:=@SRel.fr σ _ _ _ _ _ _ s
  have hhp:=@SRel.hp σ _ _ _ _ _ _ s
  have hdm:=@SRel.dom σ _ _ _ _ _ _ s
  have hjj:=@SRel.j σ _ _ _ _ _ _ s
  obtain⟨q,hq,q1,q2,q3,q4,q5,q6⟩:=@ao2 σ _ _ _ _ _ _ hhp hL hl
  have hqr:q.state=.ready:=by
   rw [q1]
   cases hx:l.st<;>rw [hx] at hst<;>first | rfl | cases hst
  refine⟨_,run_beginRound hq hqr,?_⟩
  have hs2:=@Sim.record σ H w ρ b l { l with st:=.busy } L q { q with state:=.busy } hhp hdm hL hl hq ⟨rfl,rfl,rfl⟩ (by rw [← q2])
  have hs2f:=@Sim.f σ _ _ _ _ _ _ hs2
  refine(K (some L.B) σ hU).wp (@SRel.mk σ _ _ _ _ _ _ hfr (@Sim.rel σ _ _ _ _ _ _ hs2) hs2f.dom (hs2f.jj hjj)) ⟨L,hL,rfl⟩ (Nat.le_trans hm0 hs2f.size) (DfOK.a8b hdm hs2f df) fun σ3 he3 x hx ρ3 a3 w3 s3 _ hs3=>?_
  obtain⟨o,ho,hoe⟩:=hall x hx
  obtain⟨l3,hl3,rfl⟩:=amn hoe
  have hL3:=hs3.le b L hL
  have hhp3:=@SRel.hp σ3 _ _ _ _ _ _ s3
  obtain⟨p,hp',p1,p2,p3,p4,p5,p6⟩:=@ao2 σ3 _ _ _ _ _ _ hhp3 hL3 hl3
  obtain⟨e,F3,H3⟩:=x
  have fin:∀ (jump:Option Code),jump=az2 e→∃ v w',(Instr.endRound L.B jump).run P w3=.ok v w'∧R (Ending.returned v) w':=by
   intro jump hj
   subst hj
   have hs4:=@Sim.record σ3 H3 w3 ρ3 b l3 { l3 with st:=stOf e,pend:=az2 e } L p { p with state:=if(az2 e).isNone then .ready else .done,pending:=az2 e } hhp3 (@SRel.dom σ3 _ _ _ _ _ _ s3) hL3 hl3 hp' ⟨rfl,rfl,rfl⟩ (by cases e<;>rfl)
   have hs4f:=@Sim.f σ3 _ _ _ _ _ _ hs4
   have hs34:=@SimF.trans σ _ _ _ _ _ _ _ _ _ hs2f.dom hs3 hs4f
   have he:Ext H.nv σ σ3:=he3
   refine⟨_,_,run_endRound _ hp',hR _ ho σ3 he ρ3 _ _ ?_ (@SimF.trans σ _ _ _ _ _ _ _ _ _ hdm hs2f hs34) (@Sim.rel σ3 _ _ _ _ _ _ hs4)⟩
   cases e<;>exact⟨rfl,rfl⟩
  cases e with
  | nrm=>exact fin _ rfl
  | ext id=>exact fin _ rfl
  | rt=>exact fin _ rfl
theorem bld(hm:P.follows .mixedOrders=true){cx:Cx}(hcx:CxOK U P cx){hs:Nat→Hs}{b:Nat}(hrb:cx.rb=some b){args:List AV}{v:List VC}{outs:List (AV×HP)}(h:bd8 P cx hs U.lc b args H=some (v,outs))(hv:∀ z∈v,VCok U z) :
  (∀ o∈outs,Sc H o.2)∧∀ σ:Sg,σ.toUs=U→∀ (ρ:PM) (w:World) (us:Array Value) (L:Loc),ρ b=some L→All2 (@VRel σ ρ) args us.toList→@HRel σ ρ H w→Dom ρ H.n→J ρ H w→abz P (bd9 σ ρ H w outs) ((Instr.yield L.B us).run P w):=by
 unfold bd8 at h
 split at h
 rotate_left
 ·cases h
 rename_i l hl
 split at h
 rotate_left
 ·cases h
 rename_i F1 hp hfl
 simp only [Ba] at hfl
 obtain⟨⟨hfl1,hfl2⟩,hn1,hn2⟩:=hfl
 have hr1:adv U.lc cx.rk (U.lc l.k).assign:=fun x hx=>by rw [awc hn1] at hx;cases hx
 have hr2:adv U.lc cx.rk (U.lc l.k).body:=fun x hx=>by rw [awc hn2] at hx;cases hx
 split at h
 rotate_left
 ·cases h
 rename_i v1 l1 hc1
 obtain⟨v2,h0,rfl⟩:=auw h
 have hv1:∀ z∈v1,VCok U z:=fun z hz=>hv z (List.mem_append_left _ hz)
 obtain⟨hb1,hb2⟩:=agn h0
 have K1:=fun(m:Nat) (r:Option Nat) (σ:Sg) (hU:σ.toUs=U)=>aos (n:=l.n) (m:=m) (r:=r) hm hcx (U.lc l.k).assign hfl1 hr1 hc1 hv1 σ hU
 rw [hrb] at K1
 have hth:∀ x∈l1,∃ F2 H2,x=(.nrm,F2,H2)∧∃ v3 zs,a7o P cx (hs l.k) b l.n (U.lc l.k).body F2 H2=some (v3,zs)∧(∀ z∈zs,z∈outs)∧∀ z∈v3,VCok U z:=by
  intro x hx
  obtain⟨v3,zs,h1,h2,h3⟩:=hb1 x hx
  obtain⟨e,F2,H2⟩:=x
  cases e with
  | nrm=>exact⟨F2,H2,rfl,v3,zs,h1,h2,fun z hz=>hv z (List.mem_append_right _ (h3 z hz))⟩
  | ext id=>cases h1
  | rt=>cases h1
 refine⟨fun o ho=>?_,fun σ hU ρ w us L hL hargs hH hd hj=>?_⟩
 ·obtain⟨x,hx,v3,zs,h1,h2⟩:=hb2 o ho
  obtain⟨F2,H2,rfl,v4,zs',h3,h4,h5⟩:=hth x hx
  have h1:a7o P cx (hs l.k) b l.n (U.lc l.k).body F2 H2=some (v3,zs):=h1
  rw [h3] at h1
  cases h1
  haveI:Sg:={ toUs:=U,v:=fun _=>default }
  exact((K1 0 none { toUs:=U,v:=fun _=>default } rfl).st _ hx).trans ((a7p hm hcx hrb hfl2 hr2 h3 h5).1 o h2)
 ·obtain⟨r,hr,r1,r2,r3,r4,r5,r6⟩:=@ao2 σ _ _ _ _ _ _ hH hL hl
  rw [show(@Us.lc σ.toUs l.k)=U.lc l.k by rw [hU]] at r3 r4 r5
  obtain⟨hlen,hf⟩:=a6w hp hargs r6
  have hy:=run_yield (P:=P) (w:=w) (args:=us) hr (by rw [r3,← Array.length_toList,← hlen,Array.length_toList])
  rw [hy]
  show RoundIn Fence.wide 0 P L.B r.fn _ r.assign r.body w _
  refine roundIn_of_wpIn trivial ?_
  rw [r4,r5]
  have hzip:((r.params.zip us).foldl (fun tmps (x:Tmp×Value)=>tmps.setIfInBounds x.1 x.2) r.tmps)=((U.lc l.k).ps.toList.zip us.toList).foldl (fun t (p:Tmp×Value)=>t.setIfInBounds p.1 p.2) r.tmps:=by
   rw [r3,← Array.foldl_toList,Array.toList_zip]
  have s0:@SRel σ l.n ρ F1 H { tmps:=(r.params.zip us).foldl (fun tmps (x:Tmp×Value)=>tmps.setIfInBounds x.1 x.2) r.tmps,defers:=[] } w:=@SRel.mk σ _ _ _ _ _ _ (by rw [hzip];exact hf) hH hd hj
  refine(K1 0 (some L.B) σ hU).wp s0 ⟨L,hL,rfl⟩ (Nat.zero_le _) (DfOK.nil _ _ _ 0) fun σ1 he1 x hx ρ1 a1 w1 s1 df1 hs1=>?_
  obtain⟨F2,H2,rfl,v4,zs,h1,h2,h3⟩:=hth x hx
  have hL1:=hs1.le b L hL
  exact(a7p hm hcx hrb hfl2 hr2 h1 h3).2 σ1 (he1.us.trans hU) hL1 s1 (Nat.zero_le _) df1 fun o ho σ' he' ρ' u w' hv hs hrel=>⟨u,rfl,o,h2 o ho,σ',he1.trans ((K1 0 none { toUs:=U,v:=fun _=>default } rfl).st _ hx).2.2 he',ρ',hv,@SimF.trans σ _ _ _ _ _ _ _ _ _ hd hs1 hs,hrel⟩
structure TbOK (U:Us) (P:Program) (T:Tb):Prop where
 f:∀ g d,T.f g=some d→FnAt P g d.fn∧adv U.lc (keyOf g) (aau d.fn)
 lc:T.lc=U.lc
theorem TbOK.ent{T:Tb}(h:TbOK U P T):∀ g,T.ent g=true→∀ us w,(callFunc g us).run P w=.ok (.enter g us) w:=by
 intro g hg us w
 unfold Tb.ent at hg
 split at hg
 ·rename_i d hd
  exact(h.f g d hd).1.call us w
 ·cases hg
theorem a2h(hm:P.follows .mixedOrders=true){ora:OraM}(hora:ahh U P ora){fuel fk:Nat}{T:Tb}(hT:TbOK U P T):∀ (k:Nat),akc U P (orvK P ora fuel fk T k)
 | 0=>bp2
 | k+1=>by
  have ih:=a2h hm hora (fuel:=fuel) (fk:=fk) hT k
  intro t args H v outs h hv
  cases t with
  | f g =>
   have h':(match T.f g with
    | some d=>runI P ⟨ora,orvK P ora fuel fk T k,T.ent,fuel,fk,none,keyOf g⟩ d args H
    | none=>none)=some (v,outs):=h
   split at h'
   ·rename_i d hd
    obtain⟨h1,h2⟩:=hT.f g d hd
    obtain⟨k1,k2⟩:=bt6 hm (⟨hora,ih,hT.ent⟩:CxOK U P ⟨ora,orvK P ora fuel fk T k,T.ent,fuel,fk,none,keyOf g⟩) rfl h1 h2 h' hv
    exact⟨k1,fun σ hU ρ w us s hs hargs hH hd hj=>by rw [show s=callFunc g us from hs];exact k2 σ hU ρ w us hargs hH hd hj⟩
   ·cases h'
  | y b =>
   have h':bd8 P ⟨ora,orvK P ora fuel fk T k,T.ent,fuel,fk,some b,fun _=>0⟩ T.y T.lc b args H=some (v,outs):=h
   rw [hT.lc] at h'
   obtain⟨k1,k2⟩:=bld hm (⟨hora,ih,hT.ent⟩:CxOK U P ⟨ora,orvK P ora fuel fk T k,T.ent,fuel,fk,some b,fun _=>0⟩) rfl h' hv
   refine⟨k1,fun σ hU ρ w us s hs hargs hH hd hj=>?_⟩
   obtain⟨L,hL,he⟩:=hs
   rw [he]
   exact k2 σ hU ρ w us L hL hargs hH hd hj
end
def bhg:List (FuncId×Func)→Nat→Option Func
 | [],_=>none
 | x::r,k=>match Nat.beq k x.1 with
  | true=>some x.2
  | false=>bhg r k
def lcOf(L:List (FuncId×Func))(k:Nat):LCd:=match bhg L (Nat.div k 1000) with
 | some fn=>bhh (afh (aau fn)) (Nat.mod k 1000)
 | none=>⟨#[],.skip,.skip⟩
def bqh(fn:Func):Bool:=blv (afh (aau fn))&&(afh (aau fn)).all fun x=>Nat.ble (Nat.succ x.1) 1000
theorem br7(g x:Nat)(h:x<1000):(g*1000+x) / 1000=g:=by omega
theorem br8(g x:Nat)(h:x<1000):(g*1000+x) % 1000=x:=by omega
theorem ag9{L:List (FuncId×Func)}{g:FuncId}{fn:Func}(h1:bhg L g=some fn)(h2:bqh fn=true):adv (lcOf L) (keyOf g) (aau fn):=by
 intro x hx
 unfold bqh at h2
 rw [Ba] at h2
 have hlt:x.1<1000:=Nl (List.all_eq_true.1 h2.2 x hx)
 unfold lcOf
 have e1:Nat.div (keyOf g x.1) 1000=g:=br7 g x.1 hlt
 have e2:Nat.mod (keyOf g x.1) 1000=x.1:=br8 g x.1 hlt
 rw [e1,h1,e2]
 exact bcf h2.1 x hx
theorem aez{lc:Nat→LCd}{rk:Nat→Nat}{c:Code}(h:nilL (afh c)=true):adv lc rk c:=fun x hx=>by
 rw [awc h] at hx
 cases hx
def ap4:List (FuncId×Inl)→FuncId→Option Inl
 | [],_=>none
 | x::r,k=>match Nat.beq k x.1 with
  | true=>some x.2
  | false=>ap4 r k
theorem av4:∀ {l:List (FuncId×Inl)} {g:FuncId} {d:Inl},ap4 l g=some d→(g,d)∈l
 | [],g,d,h=>by cases h
 | x::r,g,d,h=>by
  unfold ap4 at h
  split at h
  ·rename_i hb
   cases h
   rw [Nb hb]
   exact Ms ..
  ·exact Mc _ (av4 h)
variable {P:Program}
structure InlOK (U:Us) (P:Program) (x:FuncId×Inl):Prop where
 at':FnAt P x.1 x.2.fn
 rg:adv U.lc (keyOf x.1) (aau x.2.fn)
theorem TbOK.of{U:Us}{l:List (FuncId×Inl)}{y:Nat→Hs}(h:∀ x∈l,InlOK U P x):TbOK U P ⟨ap4 l,y,U.lc⟩:=⟨fun g d hd=>⟨(h _ (av4 hd)).at',(h _ (av4 hd)).rg⟩,rfl⟩
theorem InlOK.of{U:Us}{g:FuncId}{fn:Func}{hs:Hs}(h:FnAt P g fn)(hn:nilL (afh (aau fn))=true):InlOK U P (g,⟨fn,hs⟩):=⟨h,aez hn⟩
def ajx(U:Us)(P:Program)(l:List (FuncId×Inl)):Prop:=∀ x∈l,InlOK U P x
theorem ajx.nil{U:Us}:ajx U P []:=fun x hx=>by cases hx
theorem ajx.cons{U:Us}{x:FuncId×Inl}{l:List (FuncId×Inl)}(h:InlOK U P x)(hl:ajx U P l):ajx U P (x::l):=fun y hy=>by
 rcases Mn.1 hy with rfl | hy
 ·exact h
 ·exact hl y hy
def noY:Nat→Hs:=fun _=>⟨fun _=>none,fun _ _ _=>[]⟩
def noH:Hs:=⟨fun _=>none,fun _ _ _=>[]⟩
def cxOf(P:Program)[Plain P](ora:OraM)(fuel fk:Nat)(T:Tb)(d:Nat)(f:FuncId):Cx:=⟨ora,orvK P ora fuel fk T d,T.ent,fuel,fk,none,keyOf f⟩
theorem aah.ofV{P:Program}[Plain P]{U:Us}{T:FuncId→Option Fsp}{l:List (FuncId×Inl)}{y:Nat→Hs}{dp:Nat}{f:FuncId}{fn:Func}{fuel fk:Nat}{hs:Hs}{S:Fsp}{v:List VC}{outs:List (List X×List (List X))}(hm:P.follows .mixedOrders=true)(hT:∀ f S,T f=some S→aah U P f S)
  (hl:∀ x∈l,InlOK U P x) (hf:FnAt P f fn) (hrg:adv U.lc (keyOf f) (aau fn))
  (h:runV P (cxOf P (acr T) fuel fk ⟨ap4 l,y,U.lc⟩ dp f) hs fn (aau fn) S=some (v,outs)) (hv:∀ z∈v,VCok U z) (hend:∀ o∈outs,∀ σ:Sg,σ.toUs=U→@Holds σ o.1→∃ q∈S.outs,@Holds σ q.1∧q.2.map (@denL σ)=o.2.map (@denL σ)):aah U P f S :=
 aif hm ⟨amc hT,a2h hm (amc hT) (TbOK.of hl) dp,(TbOK.of hl).ent⟩ rfl hrg hf.at' hf.body hf.call hf.flow h hv hend
end Go.Sx
namespace Go.Proofs.Ytlbbkmcegbeckaa
open Go.Sx Go.Proofs
abbrev sRun:List Srt:=[.int .i64,.int .i64,.int .i64,.sl [.int .u8],.sl [.int .u8]]
def mkz(r:List (List CD)):CD:=.sl r.isEmpty r
def at'(r:List CD)(j:Nat):CD:=r.getD j default
def aev(r:List CD):Bool:=decide (200<(r.getD 3 default).len)||decide (200<(r.getD 4 default).len)
def aag(l:CD)(most:Int):Bool:=decide (most<l.len)||l.rows.any aev
def cpB(d:CD):CD:=.sl false d.rows
def aa9(r:List CD):List CD:=[at' r 0,at' r 1,at' r 2,cpB (at' r 3),cpB (at' r 4)]
def aiq(l:CD):CD:=mkz (l.rows.map aa9)
def aph(a b:CD):Bool:=byts a==byts b
def aju(r q:List CD):Bool:=eqC (at' r 0) (at' q 0)&&eqC (at' r 1) (at' q 1)&&eqC (at' r 2) (at' q 2)&&aph (at' r 3) (at' q 3)&&aph (at' r 4) (at' q 4)
def allS(f:List CD→List CD→Bool):List (List CD)→List (List CD)→Bool
 | [],[]=>true
 | r::l,q::m=>f r q&&allS f l m
 | _,_=>false
abbrev afb:=allS aju
def aof(r q:List CD):Bool:=afb (at' r 0).rows (at' q 0).rows
abbrev ahn:=allS aof
def ab2(l:CD):CD:=mkz (l.rows.map fun r=>[aiq (at' r 0)])
def aa5(l:CD)(most:Int):Bool:=decide (8<l.len)||l.rows.any fun r=>aag (at' r 0) most
def cmpC(a b:CD):Int:=Lib.compareBytes (byts a) (byts b)
def afe(r:List CD):Bool:=decide (1≤(at' r 2).iv)&&decide (1≤(at' r 3).len)&&decide ((at' r 3).len≤32)&&decide (1≤(at' r 4).len)&&decide ((at' r 4).len≤32)&&decide (cmpC (at' r 3) (at' r 4)≤0)
def anc(n:Nat)(d:CD)(j:Nat):Bool:=afe (d.rows.getD j [])&&!(decide (0<n)&&decide (0<j)&&decide (0≤cmpC (at' (d.rows.getD (j - 1) []) 4) (at' (d.rows.getD j []) 3)))
def a95(l:CD)(n:Nat):Bool:=(List.range (l.cell n 0).rows.length).all (anc n (l.cell n 0))
def aam(l:CD):Bool:=decide (l.len≤4)&&(List.range l.rows.length).all (a95 l)
def levD(l:CD)(n:Int):CD:=mkz (l.cell n 0).rows
def bxt(a b c:Int):Int:=if 4<a then 0 else if 8<b then 1 else if 16<c then 2 else 0
def bxs(a b c:Int):Bool:=decide (4<a)||(decide (8<b)||decide (16<c))
def b1c(l:CD):Int:=if aam l then bxt (l.cell 0 0).len (l.cell 1 0).len (l.cell 2 0).len else 0
def b1b(l:CD):Bool:=aam l&&bxs (l.cell 0 0).len (l.cell 1 0).len (l.cell 2 0).len
def azs(f t:CD)(r:List CD):Bool:=decide (0≤cmpC (at' r 4) f)&&(decide (t.len=0)||decide (cmpC (at' r 3) t<0))&&(decide (t.len=0)||decide (cmpC f t<0))
def alm(f t:CD)(rows:List (List CD)):List (List CD):=rows.filter (azs f t)
def bua(f t:CD)(ls:List (List (List CD)))(n i:Nat):List (List CD):=(ls.take n).flatMap (alm f t)++alm f t ((ls.getD n []).take i)
def br9(l:CD):List (List (List CD)):=l.rows.map fun r=>(at' r 0).rows
def a0y(l f t:CD):CD:=if aam l then mkz ((br9 l).flatMap (alm f t)) else mkz []
def atx(l:CD)(r:List CD):Bool:=aam l&&afe r
def addD(l:CD)(r:List CD):CD:=if atx l r then .sl false [[.sl false (r::(l.cell 0 0).rows)],[levD l 1],[levD l 2],[levD l 3]] else .sl true []
def refD(l:CD)(n:Int):CD:=if n<l.len then .sl false (l.cell n 0).rows else .sl true []
def addR(l:CD)(r:List CD):CD:=if atx l r then .sl false [[.sl false (r::(l.cell 0 0).rows)],[refD l 1],[refD l 2],[refD l 3]] else .sl true []
def addN(l:CD)(r:List CD):Int:=if atx l r then 0 else 2
def ovl(f t:CD)(r:List CD):Bool:=decide (cmpC (at' r 3) t≤0)&&decide (cmpC f (at' r 4)≤0)
def spF(rows:List (List CD))(i:Nat):CD:=((rows.take i).drop 1).foldl (fun m r=>if cmpC (at' r 3) m<0 then at' r 3 else m) (at' (rows.getD 0 []) 3)
def spL(rows:List (List CD))(i:Nat):CD:=((rows.take i).drop 1).foldl (fun m r=>if 0<cmpC (at' r 4) m then at' r 4 else m) (at' (rows.getD 0 []) 4)
def a7s(a b:List CD):Bool:=eqC (at' a 0) (at' b 0)&&eqC (at' a 1) (at' b 1)
def woR(g:List (List CD))(r:List CD):Bool:=!(g.any (a7s r))
def metR(l:List (List CD))(s:List CD):Bool:=l.any fun r=>a7s r s
def ac2(rows:List (List CD))(r:List CD):List (List CD):=rows.takeWhile (fun x=>decide (cmpC (at' x 3) (at' r 3)≤0))++r::rows.dropWhile (fun x=>decide (cmpC (at' x 3) (at' r 3)≤0))
def selL(f t lv:CD)(j:Nat)(rows:List (List CD)):List (List CD):=if eqC (vInt .i64 j) lv=true then rows.filter (ovl f t) else []
def bml(f t lv:CD)(ls:List (List (List CD)))(n i:Nat):List (List CD):=((List.range n).flatMap fun j=>selL f t lv j (ls.getD j []))++selL f t lv n ((ls.getD n []).take i)
def cntR(nx:List (List CD))(r:List CD):Nat:=(nx.filter (ovl (at' r 3) (at' r 4))).length
def abp(lv nx:List (List CD)):Nat→Nat
 | 0=>0
 | i+1=>if cntR nx (lv.getD i [])<cntR nx (lv.getD (abp lv nx i) []) then i else abp lv nx i
def aek(ls:List (List (List CD)))(lv:Nat):List (List CD):=if lv=0 then ls.getD 0 [] else [(ls.getD lv []).getD (abp (ls.getD lv []) (ls.getD (lv+1) []) (ls.getD lv []).length) []]
def afz(ls:List (List (List CD)))(lv:Nat):List (List CD):=(ls.getD (lv+1) []).filter (ovl (spF (aek ls lv) (aek ls lv).length) (spL (aek ls lv) (aek ls lv).length))
def afy(f t:CD)(lv:Nat)(ls:List (List (List CD)))(n i:Nat):Bool:=((List.range n).all fun j=>decide (j≤lv+1)||(ls.getD j []).all fun r=>!ovl f t r)&&(decide (n≤lv+1)||((ls.getD n []).take i).all fun r=>!ovl f t r)
def at1(ls:List (List (List CD)))(lv:Nat):Bool:=afy (spF (aek ls lv++afz ls lv) (aek ls lv++afz ls lv).length) (spL (aek ls lv++afz ls lv) (aek ls lv++afz ls lv).length) lv ls 4 0
def ace(l:CD):List (List (List CD)):=[(l.cell 0 0).rows,(l.cell 1 0).rows,(l.cell 2 0).rows,(l.cell 3 0).rows]
def chOK(l:CD)(n:Int):Bool:=aam l&&decide (0≤n)&&decide (n≤2)&&!((ace l).getD n.toNat []).isEmpty
def aop(l:CD)(n:Int):Int:=if chOK l n then n else 0
def aew(l:CD)(n:Int):CD:=if chOK l n then .sl false (aek (ace l) n.toNat) else .sl true []
def aex(l:CD)(n:Int):CD:=if chOK l n then mkz (afz (ace l) n.toNat) else .sl true []
def afx(l:CD)(n:Int):Bool:=chOK l n&&at1 (ace l) n.toNat
def at0(l:CD)(n:Int):Int:=if chOK l n then 0 else 2
def repL(ls:List CD)(lv:Nat)(fr into fresh:List (List CD)):List CD:=((ls.set lv (mkz ((ls.getD lv default).rows.filter (woR fr)))).set (lv+1) (mkz (fresh.foldl ac2 ((ls.getD (lv+1) default).rows.filter (woR into)))))
def repD(l:CD)(lv:Nat)(fr into fresh:List (List CD)):CD:=.sl false ((repL [refD l 0,refD l 1,refD l 2,refD l 3] lv fr into fresh).map fun d=>[d])
def agl(l:CD)(n:Int)(fr into fresh:List (List CD)):Bool:=aam l&&decide (0≤n)&&decide (n≤2)&&fr.all (metR ((ace l).getD n.toNat []))&&into.all (metR ((ace l).getD (n.toNat+1) []))&&aam (repD l n.toNat fr into fresh)
def repT(l:CD)(n:Int)(fr into fresh:List (List CD)):CD:=if agl l n fr into fresh then repD l n.toNat fr into fresh else .sl true []
def ai0(l:CD)(n:Int)(fr into fresh:List (List CD)):Int:=if agl l n fr into fresh then 0 else 2
def cmpZ(a b:Int):Int:=if a<b then -1 else if b<a then 1 else 0
@[reducible] noncomputable def U:Us:=⟨fun n l=>match n with
 | 0=>aan (aag (l.getD 0 default) (l.getD 1 default).iv)
 | 1=>aan (((l.getD 0 default).rows.take (l.getD 1 default).iv.toNat).any aev)
 | 2=>aiq (l.getD 0 default)
 | 3=>mkz (((l.getD 0 default).rows.take (l.getD 1 default).iv.toNat).map aa9)
 | 4=>aan (aph (l.getD 0 default) (l.getD 1 default))
 | 5=>aan (aju (l.take 5) (l.drop 5))
 | 6=>aan (afb (l.getD 0 default).rows (l.getD 1 default).rows)
 | 7=>aan (afb ((l.getD 0 default).rows.take (l.getD 2 default).iv.toNat) ((l.getD 1 default).rows.take (l.getD 2 default).iv.toNat))
 | 8=>aan (ahn (l.getD 0 default).rows (l.getD 1 default).rows)
 | 9=>aan (ahn ((l.getD 0 default).rows.take (l.getD 2 default).iv.toNat) ((l.getD 1 default).rows.take (l.getD 2 default).iv.toNat))
 | 10=>ab2 (l.getD 0 default)
 | 11=>mkz (((l.getD 0 default).rows.take (l.getD 1 default).iv.toNat).map fun r=>[aiq (at' r 0)])
 | 12=>aan (aa5 (l.getD 0 default) (l.getD 1 default).iv)
 | 13=>aan (((l.getD 0 default).rows.take (l.getD 2 default).iv.toNat).any fun r=>aag (at' r 0) (l.getD 1 default).iv)
 | 20=>vInt .i64 (Lib.compareBytes (byts (l.getD 0 default)) (byts (l.getD 1 default)))
 | 21=>aan (afe l)
 | 22=>vInt .i64 (if aam (l.getD 0 default) then 0 else 2)
 | 23=>aan ((List.range (l.getD 1 default).iv.toNat).all (a95 (l.getD 0 default)))
 | 24=>aan ((List.range (l.getD 2 default).iv.toNat).all (anc (l.getD 1 default).iv.toNat ((l.getD 0 default).cell (l.getD 1 default).iv 0)))
 | 25=>mkz (l.getD 0 default).rows
 | 26=>mkz ((l.getD 0 default).rows.take (l.getD 1 default).iv.toNat)
 | 27=>levD (l.getD 0 default) (l.getD 1 default).iv
 | 28=>vInt .i64 (bxt (l.getD 0 default).len (l.getD 1 default).len (l.getD 2 default).len)
 | 29=>aan (bxs (l.getD 0 default).len (l.getD 1 default).len (l.getD 2 default).len)
 | 30=>vInt .i64 (b1c (l.getD 0 default))
 | 31=>aan (b1b (l.getD 0 default))
 | 32=>mkz ([(l.getD 0 default).rows,(l.getD 1 default).rows,(l.getD 2 default).rows,(l.getD 3 default).rows].flatMap (alm (l.getD 4 default) (l.getD 5 default)))
 | 33=>mkz (bua (l.getD 4 default) (l.getD 5 default) [(l.getD 0 default).rows,(l.getD 1 default).rows,(l.getD 2 default).rows,(l.getD 3 default).rows] (l.getD 6 default).iv.toNat (l.getD 7 default).iv.toNat)
 | 34=>mkz (bua (l.getD 1 default) (l.getD 2 default) (br9 (l.getD 0 default)) (l.getD 3 default).iv.toNat (l.getD 4 default).iv.toNat)
 | 35=>a0y (l.getD 0 default) (l.getD 1 default) (l.getD 2 default)
 | 36=>addR (l.getD 0 default) (l.drop 1)
 | 37=>vInt .i64 (addN (l.getD 0 default) (l.drop 1))
 | 38=>aan (decide (1≤(l.getD 0 default).len)&&decide ((l.getD 0 default).len≤32))
 | 39=>addD (l.getD 0 default) (l.drop 1)
 | 40=>mkz ((l.getD 0 default).rows.filter (ovl (l.getD 1 default) (l.getD 2 default)))
 | 41=>mkz (((l.getD 0 default).rows.take (l.getD 3 default).iv.toNat).filter (ovl (l.getD 1 default) (l.getD 2 default)))
 | 43=>aan (decide (cmpC (l.getD 0 default) (l.getD 3 default)≤0)&&decide (cmpC (l.getD 2 default) (l.getD 1 default)≤0))
 | 44=>spF (l.getD 0 default).rows (l.getD 1 default).iv.toNat
 | 45=>spL (l.getD 0 default).rows (l.getD 1 default).iv.toNat
 | 46=>spF (l.getD 0 default).rows (l.getD 0 default).rows.length
 | 47=>spL (l.getD 0 default).rows (l.getD 0 default).rows.length
 | 48=>mkz ((l.getD 0 default).rows.filter (woR (l.getD 1 default).rows))
 | 49=>mkz (((l.getD 0 default).rows.take (l.getD 2 default).iv.toNat).filter (woR (l.getD 1 default).rows))
 | 50=>aan ((l.getD 1 default).rows.all (metR (l.getD 0 default).rows))
 | 51=>aan (((l.getD 1 default).rows.take (l.getD 2 default).iv.toNat).all (metR (l.getD 0 default).rows))
 | 52=>aan (((l.getD 0 default).rows.take (l.getD 1 default).iv.toNat).any fun r=>eqC (at' r 0) (l.getD 2 default)&&eqC (at' r 1) (l.getD 3 default))
 | 53=>aan (((l.getD 0 default).rows.take (l.getD 1 default).iv.toNat).any fun s=>eqC (l.getD 2 default) (at' s 0)&&eqC (l.getD 3 default) (at' s 1))
 | 54=>.sl false (ac2 (l.getD 0 default).rows (l.drop 1))
 | 55=>aan (((l.getD 0 default).rows.take (l.getD 1 default).iv.toNat).all fun x=>decide (cmpC (at' x 3) (l.getD 2 default)≤0))
 | 56=>mkz (((l.getD 1 default).rows.take (l.getD 2 default).iv.toNat).foldl ac2 (l.getD 0 default).rows)
 | 57=>mkz (bml (l.getD 5 default) (l.getD 6 default) (l.getD 4 default) [(l.getD 0 default).rows,(l.getD 1 default).rows,(l.getD 2 default).rows,(l.getD 3 default).rows] 4 0)
 | 58=>mkz (bml (l.getD 5 default) (l.getD 6 default) (l.getD 4 default) [(l.getD 0 default).rows,(l.getD 1 default).rows,(l.getD 2 default).rows,(l.getD 3 default).rows] (l.getD 7 default).iv.toNat (l.getD 8 default).iv.toNat)
 | 59=>aan (aa5 (l.getD 0 default) 40)
 | 60=>.sl false (aek [(l.getD 0 default).rows,(l.getD 1 default).rows,(l.getD 2 default).rows,(l.getD 3 default).rows] (l.getD 4 default).iv.toNat)
 | 61=>mkz (afz [(l.getD 0 default).rows,(l.getD 1 default).rows,(l.getD 2 default).rows,(l.getD 3 default).rows] (l.getD 4 default).iv.toNat)
 | 62=>aan (at1 [(l.getD 0 default).rows,(l.getD 1 default).rows,(l.getD 2 default).rows,(l.getD 3 default).rows] (l.getD 4 default).iv.toNat)
 | 63=>vInt .i64 (abp (l.getD 0 default).rows (l.getD 1 default).rows (l.getD 2 default).iv.toNat)
 | 64=>aan (afy (l.getD 4 default) (l.getD 5 default) (l.getD 6 default).iv.toNat [(l.getD 0 default).rows,(l.getD 1 default).rows,(l.getD 2 default).rows,(l.getD 3 default).rows] (l.getD 7 default).iv.toNat (l.getD 8 default).iv.toNat)
 | 65=>.sl false ((l.getD 0 default).rows++(l.getD 1 default).rows)
 | 66=>vInt .i64 (aop (l.getD 0 default) (l.getD 1 default).iv)
 | 67=>aew (l.getD 0 default) (l.getD 1 default).iv
 | 68=>aex (l.getD 0 default) (l.getD 1 default).iv
 | 69=>aan (afx (l.getD 0 default) (l.getD 1 default).iv)
 | 70=>vInt .i64 (at0 (l.getD 0 default) (l.getD 1 default).iv)
 | 71=>repT (l.getD 0 default) (l.getD 1 default).iv (l.getD 2 default).rows (l.getD 3 default).rows (l.getD 4 default).rows
 | 72=>vInt .i64 (ai0 (l.getD 0 default) (l.getD 1 default).iv (l.getD 2 default).rows (l.getD 3 default).rows (l.getD 4 default).rows)
 | 73=>vInt .i64 (cmpZ (l.getD 0 default).iv (l.getD 1 default).iv)
 | 74=>aan (!(([(l.getD 0 default).rows,(l.getD 1 default).rows,(l.getD 2 default).rows,(l.getD 3 default).rows]).getD (l.getD 4 default).iv.toNat []).isEmpty)
 | _=>default,lcOf [(55,Try.f55),(105,Try.f105),(62,Try.f62)]⟩
theorem bpx{d:CD}{i:Int}(h:i<d.len):i.toNat<d.rows.length∨i<0:=by
 have:d.len≤d.rows.length:=Nat.min_le_left _ _
 omega
theorem any_succ{l:CD}{i:Int}{f:List CD→Bool}(h0:0≤i)(h:i<l.len)(ha:(l.rows.take i.toNat).any f=false)(hr:f (l.rows.getD i.toNat [])=false):(l.rows.take (i+1).toNat).any f=false:=by
 have hlt:i.toNat<l.rows.length:=by rcases bpx h with h | h<;>omega
 rw [show(i+1).toNat=i.toNat+1 by omega,List.take_succ_eq_append_getElem hlt,List.any_append,ha]
 rw [Gd,Gl hlt] at hr
 simpa using hr
theorem a9d{l:CD}{i:Int}{f:List CD→Bool}(h0:0≤i)(h:i<l.len)(hr:f (l.rows.getD i.toNat [])=true):l.rows.any f=true:=by
 have hlt:i.toNat<l.rows.length:=by rcases bpx h with h | h<;>omega
 rw [Gd,Gl hlt] at hr
 exact List.any_eq_true.2 ⟨_,List.getElem_mem hlt,hr⟩
theorem bfi{l:CD}{i:Int}{f:List CD→Bool}(hl:l.len=l.rows.length)(h:¬ i<l.len)(ha:(l.rows.take i.toNat).any f=false):l.rows.any f=false:=by
 rwa [List.take_of_length_le (by omega)] at ha
theorem a4v{f:List CD→List CD→Bool}{r q:List CD}:∀ {l m:List (List CD)},l.length=m.length→allS f (l++[r]) (m++[q])=(allS f l m&&f r q)
 | [],[],_=>by simp [allS]
 | x::l,y::m,h=>by
  simp only [List.cons_append,allS]
  rw [a4v (by simpa using h),Bool.and_assoc]
 | [],_::_,h=>by simp at h
 | _::_,[],h=>by simp at h
theorem ba5{f:List CD→List CD→Bool}:∀ {l m:List (List CD)},allS f l m=true→l.length=m.length
 | [],[],_=>rfl
 | x::l,y::m,h=>by
  simp only [allS,Ba] at h
  simp [ba5 h.2]
 | [],_::_,h=>by cases h
 | _::_,[],h=>by cases h
theorem ba4{f:List CD→List CD→Bool}:∀ {l m:List (List CD)},allS f l m=true→∀ (i:Nat) (hi:i<l.length),f (l.getD i []) (m.getD i [])=true
 | [],[],_,i,hi=>by simp at hi
 | x::l,y::m,h,0,_=>by
  simp only [allS,Ba] at h
  simpa using h.1
 | x::l,y::m,h,i+1,hi=>by
  simp only [allS,Ba] at h
  simpa using ba4 h.2 i (by simpa using hi)
 | [],_::_,h,_,_=>by cases h
 | _::_,[],h,_,_=>by cases h
theorem apq{l:CD}{i:Int}(hl:l.len=l.rows.length)(h0:0≤i)(h:i<l.len):l.rows.take (i+1).toNat=l.rows.take i.toNat++[l.rows.getD i.toNat []]:=by
 have hlt:i.toNat<l.rows.length:=by omega
 rw [show(i+1).toNat=i.toNat+1 by omega,List.take_succ_eq_append_getElem hlt,Gd,Gl hlt]
 rfl
theorem apo{l:CD}{i:Int}(hl:l.len=l.rows.length)(h:¬ i<l.len):l.rows.take i.toNat=l.rows:=List.take_of_length_le (by omega)
theorem a5z{a b:Nat}:(eqC (vInt .i64 a) (vInt .i64 b)=true)=(a=b):=by
 show(decide ((a:Int)=b)=true)=_
 rw [Dt,Int.natCast_inj]
section
variable {f:List CD→List CD→Bool} {l m:CD} {i:Int}
theorem bzt(hl:l.len=l.rows.length)(hm:m.len=m.rows.length)(he:l.len=m.len)(h0:0≤i)(hi:i<l.len)(ht:allS f (l.rows.take i.toNat) (m.rows.take i.toNat)=true)(hr:f (l.rows.getD i.toNat []) (m.rows.getD i.toNat [])=true) :
  allS f (l.rows.take (i+1).toNat) (m.rows.take (i+1).toNat)=true:=by
 rw [apq hl h0 hi,apq hm h0 (by omega),a4v (by rw [List.length_take,List.length_take];omega),ht,hr]
 rfl
theorem lenS(hl:l.len=l.rows.length)(hm:m.len=m.rows.length)(he:¬ l.len=m.len):allS f l.rows m.rows=false:=by
 rw [Bool.eq_false_iff]
 intro h
 exact he (by have:=ba5 h;omega)
theorem rowS(hl:l.len=l.rows.length)(h0:0≤i)(hi:i<l.len)(hr:¬ f (l.rows.getD i.toNat []) (m.rows.getD i.toNat [])=true):allS f l.rows m.rows=false:=by
 rw [Bool.eq_false_iff]
 intro h
 exact hr (ba4 h i.toNat (by omega))
theorem bv4(hl:l.len=l.rows.length)(hm:m.len=m.rows.length)(he:l.len=m.len)(hi:¬ i<l.len)(ht:allS f (l.rows.take i.toNat) (m.rows.take i.toNat)=true):allS f l.rows m.rows=true:=by
 rwa [apo hl hi,apo hm (by omega)] at ht
end
theorem ab8{f:Nat→Bool}{i:Int}(h0:0≤i):(List.range (i+1).toNat).all f=((List.range i.toNat).all f&&f i.toNat):=by
 rw [show(i+1).toNat=i.toNat+1 by omega,List.range_succ,List.all_append]
 simp
theorem al4{d:CD}{n:Nat}{i:Int}(h0:0≤i):anc n d i.toNat=(afe [d.cell i 0,d.cell i 1,d.cell i 2,d.cell i 3,d.cell i 4]&&!(decide (0<n)&&decide (0<i)&&decide (0≤cmpC (d.cell (i - 1) 4) (d.cell i 3)))):=by
 have h1:decide (0<i.toNat)=decide (0<i):=by rw [decide_eq_decide];omega
 have h2:(i - 1).toNat=i.toNat - 1:=by omega
 unfold anc
 rw [h1]
 unfold CD.cell
 rw [h2]
 rfl
def S23:Fsp:=⟨[(false,[.sl sRun]),(false,[.int .i64])],[],[(false,[.bool])],[([],[[.ap (.usr 0) [.var 0,.var 1]]])],true⟩
def lp23:Lp:=⟨[(.slot 5,.int .i64)],[0,1,4],[0],fun F H k=>[.ap .le [zI,.var k],.ap .le [.var k,.ap .len [.var 0]],.ap .not [.ap (.usr 1) [.var 0,.var k]]],fun F H k=>.ap (.sub .i64) [.ap .len [.var 0],.var k]⟩
def T0:FuncId→Option Fsp:=fun _=>none
def byd:List VC:=[([(.ap .not [(.ap .lt [(V 1),(.ap .len [(V 0)])])]),(.ap (.typ (.sl [(.int .i64),(.int .i64),(.int .i64),(.sl [(.int .u8)]),(.sl [(.int .u8)])])) [(V 0)]),(.ap .le [LoI,(V 1)]),(.ap .le [(V 1),HiI])],(.ap .not [(.ap (.usr 1) [(V 0),(I 0)])])),
 ([(.ap .not [(.ap .lt [(I 200),(.ap .len [(.ap (.cell 4) [(V 0),(V 2)])])])]),(.ap .not [(.ap .lt [(I 200),(.ap .len [(.ap (.cell 3) [(V 0),(V 2)])])])]),(.ap .lt [(V 2),(.ap .len [(V 0)])]),(.ap .le [(I 0),(V 2)]),(.ap .le [(V 2),(.ap .len [(V 0)])]),(.ap .not [(.ap (.usr 1) [(V 0),(V 2)])]),(.ap .not [(.ap .lt [(V 1),(.ap .len [(V 0)])])]),(.ap (.typ (.sl [(.int .i64),(.int .i64),(.int .i64),(.sl [(.int .u8)]),(.sl [(.int .u8)])])) [(V 0)]),(.ap .le [LoI,(V 1)]),(.ap .le [(V 1),HiI])],(.ap .not [(.ap (.usr 1) [(V 0),(.ap (.add .i64) [(V 2),(I 1)])])]))]
def bta:List (List X×List (List X)):=[([(.ap .lt [(V 1),(.ap .len [(V 0)])]),(.ap (.typ (.sl [(.int .i64),(.int .i64),(.int .i64),(.sl [(.int .u8)]),(.sl [(.int .u8)])])) [(V 0)]),(.ap .le [LoI,(V 1)]),(.ap .le [(V 1),HiI])],[[(.lit (.bool true))]]),
 ([(.ap .lt [(I 200),(.ap .len [(.ap (.cell 3) [(V 0),(V 2)])])]),(.ap .lt [(V 2),(.ap .len [(V 0)])]),(.ap .le [(I 0),(V 2)]),(.ap .le [(V 2),(.ap .len [(V 0)])]),(.ap .not [(.ap (.usr 1) [(V 0),(V 2)])]),(.ap .not [(.ap .lt [(V 1),(.ap .len [(V 0)])])]),(.ap (.typ (.sl [(.int .i64),(.int .i64),(.int .i64),(.sl [(.int .u8)]),(.sl [(.int .u8)])])) [(V 0)]),(.ap .le [LoI,(V 1)]),(.ap .le [(V 1),HiI])],[[(.lit (.bool true))]]),
 ([(.ap .lt [(I 200),(.ap .len [(.ap (.cell 4) [(V 0),(V 2)])])]),(.ap .not [(.ap .lt [(I 200),(.ap .len [(.ap (.cell 3) [(V 0),(V 2)])])])]),(.ap .lt [(V 2),(.ap .len [(V 0)])]),(.ap .le [(I 0),(V 2)]),(.ap .le [(V 2),(.ap .len [(V 0)])]),(.ap .not [(.ap (.usr 1) [(V 0),(V 2)])]),(.ap .not [(.ap .lt [(V 1),(.ap .len [(V 0)])])]),(.ap (.typ (.sl [(.int .i64),(.int .i64),(.int .i64),(.sl [(.int .u8)]),(.sl [(.int .u8)])])) [(V 0)]),(.ap .le [LoI,(V 1)]),(.ap .le [(V 1),HiI])],[[(.lit (.bool true))]]),
 ([(.ap .not [(.ap .lt [(V 2),(.ap .len [(V 0)])])]),(.ap .le [(I 0),(V 2)]),(.ap .le [(V 2),(.ap .len [(V 0)])]),(.ap .not [(.ap (.usr 1) [(V 0),(V 2)])]),(.ap .not [(.ap .lt [(V 1),(.ap .len [(V 0)])])]),(.ap (.typ (.sl [(.int .i64),(.int .i64),(.int .i64),(.sl [(.int .u8)]),(.sl [(.int .u8)])])) [(V 0)]),(.ap .le [LoI,(V 1)]),(.ap .le [(V 1),HiI])],[[(.lit (.bool false))]])]
theorem byc:runS Try.prog (acr T0) 10 4 ⟨aa0 [(4,lp23)],hintA []⟩ Try.f23 (aau Try.f23) S23=some (byd,bta):=by kernel_rfl
theorem us1(a b:CD):((@Us.u U 1 [a,b]).bv=true)=((a.rows.take b.iv.toNat).any aev=true):=rfl
theorem bpd{l:CD}{i:Int}(h:200<((l.cell i 3).len:Int)∨200<((l.cell i 4).len:Int)):aev (l.rows.getD i.toNat [])=true:=by
 unfold CD.cell at h
 unfold aev
 rw [Bool.or_eq_true,Dt,Dt]
 omega
theorem bn0{l:CD}{i:Int}(h:¬ 200<((l.cell i 3).len:Int))(h':¬ 200<((l.cell i 4).len:Int)):aev (l.rows.getD i.toNat [])=false:=by
 unfold CD.cell at h h'
 unfold aev
 rw [Bool.or_eq_false_iff,decide_eq_false_iff_not,decide_eq_false_iff_not]
 omega
theorem c23:aah U Try.prog 23 S23:=by
 have hT:∀ f S,T0 f=some S→aah U Try.prog f S:=fun f S h=>nomatch h
 refine aah.of (P:=Try.prog) (U:=U) (T:=T0) (f:=23) (fn:=Try.f23) (fuel:=10) (fk:=4) (hs:=⟨aa0 [(4,lp23)],hintA []⟩) (S:=S23) (v:=byd) (outs:=bta) mixed hT at23 byc ?_ ?_
 ·refine aai (fun v hh=>?_) (aai (fun v hh=>?_) (aa7 _))
  ·simp only [wA,wB]
   show ¬ (((v 0).rows.take 0).any aev=true)
   simp
  ·simp only [wA,wB] at hh ⊢
   obtain⟨h1,h2,h3,h4,h5,h6,h7,_⟩:=hh
   rw [us1] at h6 ⊢
   have:=any_succ (f:=aev) h4 h3 (by simpa using h6) (bn0 h2 h1)
   show ¬ (((v 0).rows.take ((v 2).iv+1).toNat).any aev=true)
   simp [this]
 ·intro o ho σ hU hh
  obtain⟨v⟩:=σ
  cases hU
  refine⟨_,Ms ..,by simp only [wA,wB],?_⟩
  simp only [bta,Mn,List.not_mem_nil,or_false] at ho
  rcases ho with rfl | rfl | rfl | rfl
  all_goals
   simp only [wA,wB] at hh
   simp only [List.map_cons,List.map_nil,wA,wB]
  ·have:aag (v 0) (v 1).iv=true:=by simp [aag,hh.1]
   show [[aan (aag (v 0) (v 1).iv)]]=_
   rw [this];rfl
  ·obtain⟨h1,h3,h4,_⟩:=hh
   have:aag (v 0) (v 1).iv=true:=by
    rw [aag,a9d (f:=aev) h4 h3 (bpd (by first | exact .inl h1 | exact .inr h1)),Bool.or_true]
   show [[aan (aag (v 0) (v 1).iv)]]=_
   rw [this];rfl
  ·obtain⟨h1,_,h3,h4,_⟩:=hh
   have:aag (v 0) (v 1).iv=true:=by
    rw [aag,a9d (f:=aev) h4 h3 (bpd (by first | exact .inl h1 | exact .inr h1)),Bool.or_true]
   show [[aan (aag (v 0) (v 1).iv)]]=_
   rw [this];rfl
  ·obtain⟨h1,h3,h4,h5,h6,hT,_⟩:=hh
   rw [us1] at h5
   have:aag (v 0) (v 1).iv=false:=by
    have hany:(v 0).rows.any aev=false:=bfi hT.sl.1 h1 (by simpa using h5)
    rw [aag,hany]
    simpa using h6
   show [[aan (aag (v 0) (v 1).iv)]]=_
   rw [this];rfl
end Go.Proofs.Ytlbbkmcegbeckaa
