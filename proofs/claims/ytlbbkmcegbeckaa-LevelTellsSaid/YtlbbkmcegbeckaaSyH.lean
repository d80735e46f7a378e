/-
  A symbolic executor: contracts: what a function makes of what its arguments read as. Conditions: none; nothing here speaks of one program.
-/
import Derived.Test.YtlbbkmcegbeckaaSyF
set_option linter.unusedSimpArgs false
set_option linter.unusedSectionVars false
set_option linter.unusedVariables false
namespace Go.Sx
theorem ca5{U:Us}{σ:Sg}(hU:σ.toUs=U){hy:List X}{x:X}{r:List VC}(hv:∀ z∈cjp hy x r,VCok U z)(hh:@Holds σ hy):@Tru σ x∧∀ z∈r,VCok U z:=by
 unfold cjp at hv
 split at hv
 ·rename_i h1
  exact⟨@b61 σ hy hh _ _ h1,hv⟩
 ·exact⟨hv _ (List.mem_cons_self ..) σ hU hh,fun z hz=>hv z (List.mem_cons_of_mem _ hz)⟩
theorem clw{U:Us}{σ:Sg}(hU:σ.toUs=U){m:Mp}{hy1:List X}(hh:@Holds σ hy1):∀ {l:List X},(∀ z∈crd m hy1 l,VCok U z)→∀ x∈l,@Tru σ (m.x x)
 | y::r,hv,x,hx=>by
  obtain⟨h1,h2⟩:=ca5 hU (show ∀ z∈cjp hy1 (m.x y) (crd m hy1 r),VCok U z from hv) hh
  rcases List.mem_cons.1 hx with rfl | hx
  ·exact h1
  ·exact clw hU hh h2 x hx
theorem cvr{U:Us}{σ:Sg}(hU:σ.toUs=U){m:Mp}{hy1 hy2:List X}(hv:∀ z∈crd m hy1 hy2,VCok U z)(h:@Holds σ hy1):@Holds (σ.sub m.nv m.l) hy2:=by
 intro x hx
 show(@den (σ.sub m.nv m.l) x).bv=true
 rw [← cdi]
 exact clw hU h hv x hx
section
variable {P:Program} [Plain P] {cx:Cx} {n m:Nat} {rb r:Option Nat} {U:Us} {hs:Hs}
theorem b8k{h:LH}{ne nv:Nat}{F2:Fm}{H2:HP}{ms:X}:∀ {outs:List Oc} {v:List VC} {l:List Oc},cbw h ne nv F2 H2 ms outs=some (v,l) →
  (∀ F1 H1,(Ex.nrm,F1,H1)∈outs→∃ v1,cvg h ne nv F2 H2 ms F1 H1=some v1∧∀ z∈v1,z∈v)∧(∀ z∈outs,z.1≠.nrm→z∈l)∧∀ z∈l,z∈outs
 | [],v,l,hh=>by
  cases hh
  exact⟨fun _ _ hx=>(by cases hx),fun _ hx=>(by cases hx),fun _ hx=>(by cases hx)⟩
 | (.nrm,F1,H1)::r,v,l,hh=>by
  simp only [cbw] at hh
  split at hh
  ·rename_i a b l' ha hb
   cases hh
   obtain⟨k1,k2,k3⟩:=b8k hb
   refine⟨fun F H hx=>?_,fun z hz hne=>?_,fun z hz=>List.mem_cons_of_mem _ (k3 z hz)⟩
   ·rcases List.mem_cons.1 hx with e | hx
    ·cases e
     exact⟨a,ha,fun z hz=>List.mem_append_left _ hz⟩
    ·obtain⟨v1,g1,g2⟩:=k1 F H hx
     exact⟨v1,g1,fun z hz=>List.mem_append_right _ (g2 z hz)⟩
   ·rcases List.mem_cons.1 hz with rfl | hz
    ·exact absurd rfl hne
    ·exact k2 z hz hne
  ·cases hh
 | (.ext id,F1,H1)::r,v,l,hh=>by
  simp only [cbw] at hh
  split at hh
  ·rename_i b l' hb
   cases hh
   obtain⟨k1,k2,k3⟩:=b8k hb
   refine⟨fun F H hx=>?_,fun z hz hne=>?_,fun z hz=>?_⟩
   ·rcases List.mem_cons.1 hx with e | hx
    ·cases e
    ·exact k1 F H hx
   ·rcases List.mem_cons.1 hz with rfl | hz
    ·exact List.mem_cons_self ..
    ·exact List.mem_cons_of_mem _ (k2 z hz hne)
   ·rcases List.mem_cons.1 hz with rfl | hz
    ·exact List.mem_cons_self ..
    ·exact List.mem_cons_of_mem _ (k3 z hz)
  ·cases hh
 | (.rt,F1,H1)::r,v,l,hh=>by
  simp only [cbw] at hh
  split at hh
  ·rename_i b l' hb
   cases hh
   obtain⟨k1,k2,k3⟩:=b8k hb
   refine⟨fun F H hx=>?_,fun z hz hne=>?_,fun z hz=>?_⟩
   ·rcases List.mem_cons.1 hx with e | hx
    ·cases e
    ·exact k1 F H hx
   ·rcases List.mem_cons.1 hz with rfl | hz
    ·exact List.mem_cons_self ..
    ·exact List.mem_cons_of_mem _ (k2 z hz hne)
   ·rcases List.mem_cons.1 hz with rfl | hz
    ·exact List.mem_cons_self ..
    ·exact List.mem_cons_of_mem _ (k3 z hz)
  ·cases hh
theorem csm{h:LH}{ne nv:Nat}{F2 F1:Fm}{H2 H1:HP}{ms:X}{v:List VC}(hh:cvg h ne nv F2 H2 ms F1 H1=some v) :
  ∃ mp:Mp,mp.ne=ne∧mp.nv=nv∧clx mp F2 H2 F1 H1=true∧v=cjp H1.hy (.ap .le [coc,mp.x ms]) (cjp H1.hy (.ap .lt [mp.x ms,ms]) (crd mp H1.hy H2.hy)):=by
 unfold cvg at hh
 split at hh
 ·rename_i mp hb
  split at hh
  ·rename_i hk
   cases hh
   rw [Bool.and_eq_true] at hk
   obtain⟨h1,h2⟩:=hk
   unfold Mp.ok at h1
   rw [Bool.and_eq_true] at h1
   exact⟨mp,Nat.eq_of_beq_eq_true h1.1,Nat.eq_of_beq_eq_true h1.2,h2,rfl⟩
  ·cases hh
 ·cases hh
theorem c30{body:Code}{bd:Fm→HP→RO}{h:LH}{F:Fm}{H:HP}{v:List VC}{l:List Oc}(hh:c3z h bd F H=some (v,l))(hv:∀ z∈v,VCok U z)
  (ih:∀ {F:Fm} {H:HP} {v:List VC} {l:List Oc},bd F H=some (v,l)→(∀ z∈v,VCok U z)→∀ σ:Sg,σ.toUs=U→CodeOK σ P n m rb r body F H (·∈l)) (σ:Sg) (hU:σ.toUs=U):CodeOK σ P n m rb r (.loop body) F H (·∈l):=by
 unfold c3z at hh
 split at hh
 rotate_left
 ·cases hh
 rename_i F2 H2 mp hhead
 split at hh
 rotate_left
 ·cases hh
 rename_i hok
 simp only [Bool.and_eq_true] at hok
 obtain⟨hk1,hnv,hlo,hsc,hview⟩:=hok
 unfold Mp.ok at hk1
 rw [Bool.and_eq_true] at hk1
 have hne:=Nat.eq_of_beq_eq_true hk1.1
 have hnvm:=Nat.eq_of_beq_eq_true hk1.2
 have hnv:=Nat.le_of_ble_eq_true hnv
 have hlo:=Nat.eq_of_beq_eq_true hlo
 split at hh
 rotate_left
 ·cases hh
 rename_i v1 outs hbody
 split at hh
 rotate_left
 ·cases hh
 rename_i v2 l2 hrounds
 cases hh
 have hv0:∀ z∈crd mp H.hy H2.hy,VCok U z:=fun z hz=>hv z (List.mem_append_left _ hz)
 have hv1:∀ z∈v1,VCok U z:=fun z hz=>hv z (List.mem_append_right _ (List.mem_append_left _ hz))
 have hv2:∀ z∈v2,VCok U z:=fun z hz=>hv z (List.mem_append_right _ (List.mem_append_right _ hz))
 have K:=fun(σ2:Sg) (hU2:σ2.toUs=U)=>ih hbody hv1 σ2 hU2
 obtain⟨R1,R2,R3⟩:=b8k hrounds
 have VO:=cja hview
 have hgrow:H.n≤H2.n:=by have:=VO.rlt;have:=VO.rge;omega
 have hsc2:Sc H H2:=⟨⟨by rw [hlo];exact Nat.zero_le _,fun b hb=>by rw [hlo] at hb;omega⟩,hgrow,hnv⟩
 refine⟨fun z hz=>hsc2.trans ((K σ hU).st z (R3 z hz)),fun {Q ρ a w m0} s hr hmm df hq=>?_⟩
 have hd:=@SRel.dom σ _ _ _ _ _ _ s
 have key:∀ (k:Nat) (σ2:Sg) (ρ2:PM) (a2:Act) (w2:World),Ext H.nv σ σ2→@SRel σ2 n ρ2 F2 H2 a2 w2→SimF ρ H w ρ2 H2 w2→DfOK ρ2 H2 w2 m0 a2.defers→(@den σ2 (h.ms F2 H2)).iv.toNat<k→Code.roundsIn (WF r) m P body Q k a2 w2:=by
  intro k
  induction k with
  | zero=>intro σ2 ρ2 a2 w2 _ _ _ _ hlt;omega
  | succ k ihk =>
   intro σ2 ρ2 a2 w2 he2 s2 hs2 hd2 hlt
   rw [roundsIn_succ]
   have hU2:σ2.toUs=U:=he2.us.trans hU
   refine(K σ2 hU2).wp s2 (RR.mono' hs2.le hr) (Nat.le_trans hmm hs2.size) hd2 fun σ1 he1 z hz ρ1 a1 w1 s1 hd1 hs1=>?_
   have hU1:σ1.toUs=U:=he1.us.trans hU2
   have he01:Ext H.nv σ σ1:=he2.trans hnv he1
   have hs01:SimF ρ H w ρ1 z.2.2 w1:=@SimF.trans σ _ _ _ _ _ _ _ _ _ hd hs2 hs1
   obtain⟨e,F1,H1⟩:=z
   cases e with
   | nrm =>
    obtain⟨w1v,g1,g2⟩:=R1 F1 H1 hz
    obtain⟨m1,e1,e2,e3,e4⟩:=csm g1
    subst e4
    have hhy1:=@HRel.hy σ1 _ _ _ (@SRel.hp σ1 _ _ _ _ _ _ s1)
    obtain⟨hpos,hrest⟩:=ca5 hU1 (fun z hz=>hv2 z (g2 z hz)) hhy1
    obtain⟨hdec,hrest⟩:=ca5 hU1 hrest hhy1
    have hhold:@Holds (σ1.sub m1.nv m1.l) H2.hy:=cvr hU1 hrest hhy1
    obtain⟨ρ2',s2',hs2',_,hk2',hg2'⟩:=c1w e3 s1 hs01 hd (by rw [e1]) hhold
    refine ihk (σ1.sub m1.nv m1.l) ρ2' a1 w1 ?_ s2' hs2' (DfOK.view hk2' hg2' hd1) ?_
    ·exact he01.trans (Nat.le_of_eq (by rw [e2])) (cyj σ1 m1.nv m1.l)
    ·have hms:@den σ1 (h.ms F2 H2)=@den σ2 (h.ms F2 H2):=b5j he1 _ hsc
     have hms2:@den (σ1.sub m1.nv m1.l) (h.ms F2 H2)=@den σ1 (m1.x (h.ms F2 H2)):=(cdi σ1 m1.nv m1.l _).symm
     have p1:decide ((0:Int)≤(@den σ1 (m1.x (h.ms F2 H2))).iv)=true:=hpos
     have p2:decide ((@den σ1 (m1.x (h.ms F2 H2))).iv<(@den σ1 (h.ms F2 H2)).iv)=true:=hdec
     have p1:=of_decide_eq_true p1
     have p2:=of_decide_eq_true p2
     rw [hms2]
     rw [hms] at p2
     omega
   | ext id=>exact hq σ1 he01 _ (R2 _ hz (fun h=>by cases h)) ρ1 a1 w1 s1 hd1 hs01
   | rt=>exact hq σ1 he01 _ (R2 _ hz (fun h=>by cases h)) ρ1 a1 w1 s1 hd1 hs01
 have hhold:@Holds (σ.sub mp.nv mp.l) H2.hy:=cvr hU hv0 (@HRel.hy σ _ _ _ (@SRel.hp σ _ _ _ _ _ _ s))
 obtain⟨ρ2,s2,hs2,_,hk2,hg2⟩:=c1w hview s (@SimF.refl σ _ _ _ _ _ _ s) hd (by rw [hne]) hhold
 exact wpIn_loop_rounds _ (key ((@den (σ.sub mp.nv mp.l) (h.ms F2 H2)).iv.toNat+1) _ ρ2 a w (by have:=cyj σ mp.nv mp.l;rw [hnvm] at this;rw [hnvm];exact this) s2 hs2 (DfOK.view hk2 hg2 df) (by omega))
theorem c6d{U:Us}{σ:Sg}(hU:σ.toUs=U){hy:List X}(hh:@Holds σ hy):∀ {l:List X},(∀ z∈asV hy l,VCok U z)→∀ x∈l,@Tru σ x
 | y::r,hv,x,hx=>by
  obtain⟨h1,h2⟩:=ca5 hU (show ∀ z∈cjp hy y (asV hy r),VCok U z from hv) hh
  rcases List.mem_cons.1 hx with rfl | hx
  ·exact h1
  ·exact c6d hU hh h2 x hx
theorem b91(H:HP):∀ (l:List X),(H.learns l).t=H.t∧(H.learns l).n=H.n∧(H.learns l).lo=H.lo∧(H.learns l).nv=H.nv
 | []=>⟨rfl,rfl,rfl,rfl⟩
 | e::r=>b91 H r
theorem cpi{H H':HP}:∀ {l:List X},Sc (H.learns l) H'→Sc H H'
 | [],h=>h
 | e::r,h=>cpi (l:=r) h.unlearn
theorem CodeOK.learns{σ:Sg}{c:Code}{F:Fm}{H:HP}{Z:Oc→Prop}:∀ {l:List X},(∀ x∈l,@Holds σ H.hy→@Tru σ x)→CodeOK σ P n m rb r c F (H.learns l) Z→CodeOK σ P n m rb r c F H Z
 | [],_,h=>h
 | e::l,hx,h=>by
  refine CodeOK.learns (l:=l) (fun x hm=>hx x (List.mem_cons_of_mem _ hm)) ?_
  refine⟨fun x hz=>(h.st x hz).unlearn,fun {Q ρ a w m0} s hr hm df hq=>?_⟩
  have hh:@Holds σ H.hy:=fun x hm=>by
   have:∀ (l:List X),x∈(H.learns l).hy:=by
    intro l
    induction l with
    | nil=>exact hm
    | cons y l ih=>exact List.mem_cons_of_mem _ ih
   exact(@SRel.hp σ _ _ _ _ _ _ s).hy x (this l)
  exact h.wp (@SRel.learn σ _ _ _ _ _ _ _ s (hx e (List.mem_cons_self ..) hh)) hr hm (DfOK.learn df) fun σ' he x hz ρ' a' w' s' d' hs=>hq σ' he x hz ρ' a' w' s' d' (@SimF.unlearn σ _ _ _ _ _ _ _ hs)
theorem clg{orv:OraV}{ent:FuncId→Bool}(horv:b9q U P orv)(hent:∀ g,ent g=true→∀ us w,(callFunc g us).run P w=.ok (.enter g us) w){f:Operand}{ps:Array Tmp}{assign body:Code}{k:Nat}(hk:U.lc k=⟨ps,assign,body⟩){F:Fm}{H:HP}{v:List VC}{l:List Oc}{g:FuncId}{caps:List AV}
  (ha:cfq H rb=true) (h:cnr orv ent n k F H g caps=some (v,l)) (hv:∀ z∈v,VCok U z) (σ:Sg) (hU:σ.toUs=U) (hev:∀ {ρ:PM} {a:Act} {w:World},@SRel σ n ρ F H a w→∃ us:Array Value,a.eval f=.func (.func g) #[] us∧All2 (@VRel σ ρ) caps us.toList) :
  CodeOK σ P n m rb r (.rangeFunc f ps assign body) F H (·∈l):=by
 unfold cnr at h
 split at h
 rotate_left
 ·cases h
 rename_i hgs
 rw [Bool.and_eq_true] at hgs
 obtain⟨hg,hsc⟩:=hgs
 split at h
 rotate_left
 ·cases h
 rename_i v1 outs hout
 split at h
 rotate_left
 ·cases h
 rename_i l1 hall
 cases h
 obtain⟨hst,hcall⟩:=horv _ _ _ _ _ hout hv
 obtain⟨hlen,hget⟩:=b71 hall
 have hmem:∀ x∈l,∃ o∈outs,chh F H.n o=some x:=by
  intro x hx
  obtain⟨i,hi⟩:=List.getElem?_of_mem hx
  have:=hget i x hi
  rw [List.getElem?_map] at this
  cases ho:outs[i]? with
  | none=>rw [ho] at this;cases this
  | some o =>
   rw [ho] at this
   simp only [Option.map_some,Option.some.injEq] at this
   exact⟨o,List.mem_of_getElem? ho,this⟩
 have hmem':∀ o∈outs,∃ x∈l,chh F H.n o=some x:=by
  intro o ho
  obtain⟨i,hi⟩:=List.getElem?_of_mem ho
  have hlt:i<l.length:=by rw [← hlen,List.length_map];exact(List.getElem?_eq_some_iff.1 hi).1
  have:=hget i l[i] (List.getElem?_eq_getElem hlt)
  rw [List.getElem?_map,hi] at this
  simp only [Option.map_some,Option.some.injEq] at this
  exact⟨_,List.getElem_mem hlt,this⟩
 have hend:∀ {o:AV×HP} {x:Oc},chh F H.n o=some x→∃ l1,b80 o.2 H.n=some l1∧l1.st≠.busy∧x.2.1=F∧x.2.2=(o.2.obj H.n (LoopC.ct { l1 with st:=.exhausted })).drop H.n ∧
   ((x.1=.nrm∧l1.pend=none)∨(x.1=.rt∧l1.pend=some .ret)∨∃ id,x.1=.ext id∧l1.pend=some (.exit id)):=by
  intro o x hx
  unfold chh at hx
  split at hx
  ·rename_i l1 hl1
   split at hx
   ·cases hx
   ·rename_i hnb
    split at hx
    ·rename_i hp;cases hx;exact⟨l1,hl1,hnb,rfl,rfl,.inl ⟨rfl,hp⟩⟩
    ·rename_i hp;cases hx;exact⟨l1,hl1,hnb,rfl,rfl,.inr (.inl ⟨rfl,hp⟩)⟩
    ·rename_i id hp;cases hx;exact⟨l1,hl1,hnb,rfl,rfl,.inr (.inr ⟨id,rfl,hp⟩)⟩
    ·cases hx
  ·cases hx
 refine⟨fun x hx=>?_,fun {Q ρ a w m0} s hr hm df hq=>?_⟩
 ·obtain⟨o,ho,hx⟩:=hmem x hx
  obtain⟨l1,_,_,_,h2,_⟩:=hend hx
  rw [h2]
  exact(((St.push _ _).sc.trans (hst o ho)).trans (St.obj _ _ _).sc).trans (St.drop _ _).sc
 ·have hfr:=@SRel.fr σ _ _ _ _ _ _ s
  have hdm:=@SRel.dom σ _ _ _ _ _ _ s
  have hjj:=@SRel.j σ _ _ _ _ _ _ s
  refine wpIn_rangeFunc fun fn _=>?_
  obtain⟨us,hus,hcaps⟩:=hev s
  obtain⟨lz,mark,w₁,ρ1,he,hs1,hρ1,df1⟩:=@c29 σ P _ n H w ρ F a rb r m0 ps assign body k (by show σ.toUs.lc k=_;rw [hU];exact hk) s hr ha hm df fn
  have hround:(WF r).round=r:=rfl
  refine⟨lz,mark,w₁,⟨.fn (.func g) us,#[.func (.yield lz) #[] #[]]⟩,w₁,g,#[.func (.yield lz) #[] #[]]++us,w₁,by rw [hround];exact he,?_,fun f' _=>trivial,?_,fun hh=>by simp [WF,Fence.wide] at hh,?_⟩
  ·simp [resolve,hus,Deferred.ofValue]
   rfl
  ·show(callFunc g (#[.func (.yield lz) #[] #[]]++us)).run P w₁=_
   exact hent g hg _ _
  ·refine cjx.2 ?_
   have hs1f:=@Sim.f σ _ _ _ _ _ _ hs1
   have hc:=hcall σ hU ρ1 w₁ (#[.func (.yield lz) #[] #[]]++us) _ rfl (by
    rw [Array.toList_append]
    exact⟨⟨_,hρ1,rfl⟩,by simpa using hcaps.mono fun _ _=>@VRel.mono σ _ _ hs1f.le _ _⟩) (@Sim.rel σ _ _ _ _ _ _ hs1) hs1f.dom (hs1f.jj hjj)
   rw [hent g hg] at hc
   refine Calls.mono hc fun e w3 ⟨u,he',o,ho,σ2,hext,ρ2,_,hs2,hrel2⟩=>?_
   subst he'
   obtain⟨x,hx,hxe⟩:=hmem' o ho
   obtain⟨l1,hl1,hnb,hF,hH,hcase⟩:=hend hxe
   have hL2:=hs2.le _ _ hρ1
   obtain⟨r1,g1,g2,g3,g4,g5,g6,g7⟩:=@ccm σ2 _ _ _ _ _ _ hrel2 hL2 hl1
   have hrun:=run_endLoop (P:=P) g1 (by rw [g2];exact hnb)
   have hs3:=@Sim.record σ2 o.2 w3 ρ2 H.n l1 { l1 with st:=.exhausted } _ r1 { r1 with state:=.exhausted } hrel2 hs2.dom hL2 hl1 g1 ⟨rfl,rfl,rfl⟩ (by rw [← g3])
   have hs3f:=@Sim.f σ2 _ _ _ _ _ _ hs3
   have hs4:=@Sim.drop σ2 _ _ _ (@Sim.rel σ2 _ _ _ _ _ _ hs3) hs3f.dom H.n
   have hs4f:=@Sim.f σ2 _ _ _ _ _ _ hs4
   have hs14:=@SimF.trans σ _ _ _ _ _ _ _ _ _ hs1f.dom hs2 (@SimF.trans σ _ _ _ _ _ _ _ _ _ hs2.dom hs3f hs4f)
   have hall:=@SimF.trans σ _ _ _ _ _ _ _ _ _ hdm hs1f hs14
   have df4:=DfOK.cn4 hs1f.dom hs14 df1
   have hext':Ext H.nv σ σ2:=hext
   have hfr2:=FRel.ext hext' hsc hfr
   have s4:@SRel σ2 n ρ2 F ((o.2.obj H.n (LoopC.ct { l1 with st:=.exhausted })).drop H.n) { a with defers:=mark++a.defers } (w3.putObj lz (.loop { r1 with state:=.exhausted })) :=
    @SRel.mk σ2 _ _ _ _ _ _ (@FRel.mk σ2 _ _ _ { a with defers:=mark++a.defers } (show a.tmps.size=n from @FRel.sz σ2 n ρ F a hfr2) fun t v hv=>let ⟨u,k1,k2⟩:=@FRel.get σ2 n ρ F a hfr2 t v hv;⟨u,k1,@VRel.mono σ2 _ _ hall.le _ _ k2⟩) (@Sim.rel σ2 _ _ _ _ _ _ hs4) hs4f.dom (hall.jj hjj)
   refine⟨r1.pending,_,hrun,?_⟩
   have hfin:=hq σ2 hext' x hx ρ2 { a with defers:=mark++a.defers } (w3.putObj lz (.loop { r1 with state:=.exhausted })) (by rw [hF,hH];exact s4) (by rw [hH];exact df4) (by rw [hH];exact hall)
   have key:∀ j,j=r1.pending→(match j with
     | none=>Q .normal { a with defers:=mark++a.defers } (w3.putObj lz (.loop { r1 with state:=.exhausted }))
     | some c=>c.wpIn (WF r) m P Q { a with defers:=mark++a.defers } (w3.putObj lz (.loop { r1 with state:=.exhausted }))):=by
    intro j hj
    rw [g3] at hj
    rcases hcase with ⟨h1,h2⟩ | ⟨h1,h2⟩ | ⟨id,h1,h2⟩
    ·rw [h2] at hj;subst hj;rw [h1] at hfin;exact hfin
    ·rw [h2] at hj;subst hj;rw [h1] at hfin;exact wpIn_ret hfin
    ·rw [h2] at hj;subst hj;rw [h1] at hfin;exact wpIn_exit hfin
   exact key _ rfl
structure CxOK (U:Us) (P:Program) (cx:Cx):Prop where
 ora:cb4 U P cx.ora
 orv:b9q U P cx.orv
 ent:∀ g,cx.ent g=true→∀ us w,(callFunc g us).run P w=.ok (.enter g us) w
theorem ccb(hm:P.follows .mixedOrders=true)(hcx:CxOK U P cx):∀ (c:Code) {F:Fm} {H:HP} {v:List VC} {l:List Oc},b5d c=true→b5v U.lc cx.rk c→ca9 P cx n hs c F H=some (v,l)→(∀ z∈v,VCok U z)→∀ σ:Sg,σ.toUs=U →
  CodeOK σ P n m cx.rb r c F H (·∈l):=by
 intro c
 have triv:∀ {c:Code} {F:Fm} {H:HP} {e:Ex} (σ:Sg),(∀ {Q:Exit→Act→World→Prop} {a:Act} {w:World},Q e.out a w→c.wpIn (WF r) m P Q a w)→CodeOK σ P n m cx.rb r c F H (·∈[(e,F,H)]):=fun σ h =>
  ⟨fun x hx=>by rw [List.mem_singleton.1 hx];exact Sc.refl _,fun s hr hm df hq=>h (hq σ (Ext.refl _ _) _ (List.mem_singleton.2 rfl) _ _ _ s df (@SimF.refl σ _ _ _ _ _ _ s))⟩
 induction c with
 | skip=>intro F H v l _ _ h _ σ _;cases h;exact triv (e:=.nrm) σ wpIn_skip
 | label lb=>intro F H v l _ _ h _ σ _;cases h;exact triv (e:=.nrm) σ wpIn_label
 | exit id=>intro F H v l _ _ h _ σ _;cases h;exact triv (e:=.ext id) σ wpIn_exit
 | ret=>intro F H v l _ _ h _ σ _;cases h;exact triv (e:=.rt) σ wpIn_ret
 | goto lb=>intro F H v l _ _ h;cases h
 | refuse why=>intro F H v l _ _ h;cases h
 | rangeFunc f ps a b _ _ =>
  intro F H v l _ hrg h hv σ hU
  have h0:(match cpd b with
   | some id=>c0n cx.orv cx.ent n cx.rb (cx.rk id) f F H
   | none=>none)=some (v,l):=h
  split at h0
  rotate_left
  ·cases h0
  rename_i id hid
  have hk:U.lc (cx.rk id)=⟨ps,a,b⟩:=hrg (id,⟨ps,a,b⟩) (by
   unfold b6p
   rw [hid]
   exact List.mem_singleton.2 rfl)
  unfold c0n at h0
  split at h0
  ·rename_i g c d hf' ha
   split at h0
   ·rename_i hcd
    refine clg hcx.orv hcx.ent hk hf' h0 hv σ hU fun {ρ ac w} s=>⟨#[],?_,trivial⟩
    have:=(@cbn σ _ _ _ _ (@SRel.fr σ _ _ _ _ _ _ s) _ _ ha).1
    rw [this,Array.eq_empty_of_size_eq_zero hcd.1,Array.eq_empty_of_size_eq_zero hcd.2]
   ·cases h0
  ·rename_i g caps hf' ha
   refine clg hcx.orv hcx.ent hk hf' h0 hv σ hU fun {ρ ac w} s=>?_
   obtain⟨us,h1,h2⟩:=@cbn σ _ _ _ _ (@SRel.fr σ _ _ _ _ _ _ s) _ _ ha
   exact⟨us,h1,@cct σ ρ _ _ h2⟩
  ·cases h0
 | scope b ih =>
  intro F H v l hf hrg h hv σ hU
  have k1:=ih (F:=F) (H:=H) (v:=v) (l:=l) hf hrg h hv σ hU
  refine⟨k1.st,fun {Q ρ a w m0} s hr hm df hq=>cxb (k1.wp s hr hm df fun σ' he x hx ρ1 a1 w1 s1 hd1 hs1=>?_)⟩
  have:=hq σ' he x hx ρ1 a1 w1 s1 hd1 hs1
  obtain⟨e,F1,H1⟩:=x
  cases e<;>exact this
 | region id ops draw =>
  intro F H v l hf hrg h hv σ hU
  have h0:regI (regS P cx.ora cx.orv n ops draw cx.fk) (hs.as id F H) nrmO F H=some (v,l):=h
  unfold regI at h0
  split at h0
  ·rename_i v1 l1 hr
   cases h0
   have k1:=csi (m:=m) (rb:=cx.rb) (r:=r) (id:=id) hm hcx.ora hcx.orv σ hU hf cx.fk hr (fun z hz=>hv z (List.mem_append_right _ hz))
   have hhy0:(frzL (hs.as id F H) F H).2.hy=H.hy:=cml
   have k2:=(CodeOK.learns (H:=(frzL (hs.as id F H) F H).2) (fun x hx hh=>c6d hU (by rw [hhy0] at hh;exact hh) (fun z hz=>hv z (List.mem_append_left _ hz)) x hx) k1).weaken (Z':=fun z=>z∈l1.map nrmO) (fun z ⟨x,hx,e⟩=>by rw [e];exact List.mem_map.2 ⟨x,hx,rfl⟩) (fun z hz=>by
    obtain⟨x,hx,e⟩:=List.mem_map.1 hz
    exact cpi (k1.st z ⟨x,hx,e.symm⟩))
   obtain⟨f1,f2⟩:=cmo (xs:=hs.as id F H) (F:=F) (H:=H)
   refine⟨fun z hz=>f1.trans (k2.st z hz),fun {Q ρ a w m0} s hr' hmm df hq=>?_⟩
   obtain⟨ρ1,s1,hs1,_⟩:=cmm (xs:=hs.as id F H) s
   refine k2.wp s1 (RR.mono' hs1.le hr') hmm (DfOK.cn4 (@SRel.dom σ _ _ _ _ _ _ s) hs1 df) fun σ' he z hz ρ' a' w' s' hd' hs'=>?_
   exact hq σ' (by rw [f2] at he;exact he) z hz ρ' a' w' s' hd' (@SimF.trans σ _ _ _ _ _ _ _ _ _ (@SRel.dom σ _ _ _ _ _ _ s) hs1 hs')
  ·cases h0
 | seq x y ihx ihy =>
  intro F H v l hf hrg h hv σ hU
  simp only [b5d,Bool.and_eq_true] at hf
  obtain⟨v1,l1,h1,hv1,h2,h3,h4⟩:=cqv (show seqO (ca9 P cx n hs x F H) (ca9 P cx n hs y)=some (v,l) from h)
  have k1:=ihx hf.1 (fun z hz=>hrg z (List.mem_append_left _ hz)) h1 (fun z hz=>hv z (hv1 z hz)) σ hU
  refine⟨fun z hz=>?_,fun {Q ρ a w m0} s hr hmm df hq=>wpIn_seq (k1.wp s hr hmm df fun σ1 he1 z hz ρ1 a1 w1 s1 hd1 hs1=>?_)⟩
  ·rcases h4 z hz with ⟨F1,H1,v2,l2,h5,h6,h7⟩ | h5
   ·obtain⟨v3,l3,g1,_,g3⟩:=h2 F1 H1 h5
    rw [h6] at g1
    cases g1
    exact(k1.st _ h5).trans ((ihy hf.2 (fun z hz=>hrg z (List.mem_append_right _ hz)) h6 (fun z hz=>hv z (g3 z hz)) σ hU).st z h7)
   ·exact k1.st z h5
  ·obtain⟨e,F1,H1⟩:=z
   cases e with
   | nrm =>
    obtain⟨v2,l2,h5,h6,h7⟩:=h2 F1 H1 hz
    refine(ihy hf.2 (fun z hz=>hrg z (List.mem_append_right _ hz)) h5 (fun z hz=>hv z (h7 z hz)) σ1 (he1.us.trans hU)).wp s1 (RR.mono' hs1.le hr) (Nat.le_trans hmm hs1.size) hd1 fun σ2 he2 y hy ρ2 a2 w2 s2 hd2 hs2=>?_
    exact hq σ2 (he1.trans (k1.st _ hz).2.2 he2) y (h6 y hy) ρ2 a2 w2 s2 hd2 (@SimF.trans σ _ _ _ _ _ _ _ _ _ (@SRel.dom σ _ _ _ _ _ _ s) hs1 hs2)
   | ext id=>exact hq σ1 he1 _ (h3 _ hz (fun h=>by cases h)) ρ1 a1 w1 s1 hd1 hs1
   | rt=>exact hq σ1 he1 _ (h3 _ hz (fun h=>by cases h)) ρ1 a1 w1 s1 hd1 hs1
 | cond c x y ihx ihy =>
  intro F H v l hf hrg h hv σ hU
  simp only [b5d,Bool.and_eq_true] at hf
  have h':c7j (evF F c) F H (ca9 P cx n hs x) (ca9 P cx n hs y)=some (v,l):=h
  have one:∀ (b:Bool) {F':Fm} {H':HP} {Z:Oc→Prop},(∀ ρ a w,@SRel σ n ρ F' H' a w→a.eval c=.bool b)→CodeOK σ P n m cx.rb r (bif b then x else y) F' H' Z→CodeOK σ P n m cx.rb r (.cond c x y) F' H' Z:=fun b F' H' Z hev k1 =>
   ⟨k1.st,fun {Q ρ a w m0} s hr hmm df hq=>wpIn_cond (t:=b) (hev ρ a w s) (by have:=k1.wp s hr hmm df hq;cases b<;>exact this)⟩
  unfold c7j at h'
  split at h'
  ·rename_i hc
   exact one true (fun ρ a w s=>(@cbn σ _ _ _ _ (@SRel.fr σ _ _ _ _ _ _ s) _ _ hc).1) (ihx hf.1 (fun z hz=>hrg z (List.mem_append_left _ hz)) h' hv σ hU)
  ·rename_i hc
   exact one false (fun ρ a w s=>(@cbn σ _ _ _ _ (@SRel.fr σ _ _ _ _ _ _ s) _ _ hc).1) (ihy hf.2 (fun z hz=>hrg z (List.mem_append_right _ hz)) h' hv σ hU)
  ·rename_i G e hc
   have hev:∀ ρ a w,@SRel σ n ρ F H a w→a.eval c=.bool (@den σ e).bv:=fun ρ a w s=>@csy σ _ _ _ _ (@cbn σ _ _ _ _ (@SRel.fr σ _ _ _ _ _ _ s) _ _ hc)
   split at h'
   ·rename_i hk
    refine one true (fun ρ a w s=>?_) (ihx hf.1 (fun z hz=>hrg z (List.mem_append_left _ hz)) h' hv σ hU)
    rw [hev ρ a w s,@b61 σ _ (@HRel.hy σ _ _ _ (@SRel.hp σ _ _ _ _ _ _ s)) _ _ hk]
   ·rename_i hk
    refine one false (fun ρ a w s=>?_) (ihy hf.2 (fun z hz=>hrg z (List.mem_append_right _ hz)) h' hv σ hU)
    rw [hev ρ a w s,@b61 σ _ (@HRel.hy σ _ _ _ (@SRel.hp σ _ _ _ _ _ _ s)) _ _ hk]
   ·unfold da1 at h'
    split at h'
    ·rename_i a b c' d hx hy
     cases h'
     have k1:=ihx hf.1 (fun z hz=>hrg z (List.mem_append_left _ hz)) hx (fun z hz=>hv z (List.mem_append_left _ hz)) σ hU
     have k2:=ihy hf.2 (fun z hz=>hrg z (List.mem_append_right _ hz)) hy (fun z hz=>hv z (List.mem_append_right _ hz)) σ hU
     have h1:CodeOK σ P n m cx.rb r (.cond c x y) F (H.learn e) (·∈b)∨(@den σ e).bv=false:=by
      cases hb:(@den σ e).bv with
      | true=>exact .inl (one true (fun ρ a w s=>by rw [hev ρ a w (@SRel.unlearn σ _ _ _ _ _ _ _ s),hb]) k1)
      | false=>exact .inr rfl
     have h2:CodeOK σ P n m cx.rb r (.cond c x y) F (H.learn (notX e)) (·∈d)∨(@den σ e).bv=true:=by
      cases hb:(@den σ e).bv with
      | false=>exact .inl (one false (fun ρ a w s=>by rw [hev ρ a w (@SRel.unlearn σ _ _ _ _ _ _ _ s),hb]) k2)
      | true=>exact .inr rfl
     have fls:∀ {e':X} {Z:Oc→Prop},(@den σ e').bv=false→(∀ z,Z z→Sc (H.learn e') z.2.2)→CodeOK σ P n m cx.rb r (.cond c x y) F (H.learn e') Z:=fun hb hst =>
      ⟨hst,fun s _ _ _ _=>by
       have:=@HRel.hy σ _ _ _ (@SRel.hp σ _ _ _ _ _ _ s) _ (List.mem_cons_self ..)
       rw [show @Tru σ _=((@den σ _).bv=true) from rfl,hb] at this
       cases this⟩
     have h1':CodeOK σ P n m cx.rb r (.cond c x y) F (H.learn e) (·∈b):=by
      rcases h1 with h1 | h1
      ·exact h1
      ·exact fls h1 k1.st
     have h2':CodeOK σ P n m cx.rb r (.cond c x y) F (H.learn (notX e)) (·∈d):=by
      rcases h2 with h2 | h2
      ·exact h2
      ·exact fls (@c7s σ e h2) k2.st
     refine(CodeOK.fork h1' h2').weaken (fun z hz=>List.mem_append.2 hz) fun z hz=>?_
     rcases List.mem_append.1 hz with hz | hz
     ·exact(k1.st z hz).unlearn
     ·exact(k2.st z hz).unlearn
    ·cases h'
  ·cases h'
 | block id x ih =>
  intro F H v l hf hrg h hv σ hU
  have h':cxx id (ca9 P cx n hs x F H)=some (v,l):=h
  unfold cxx at h'
  split at h'
  ·rename_i v1 l1 hx
   cases h'
   have k1:=ih hf hrg hx hv σ hU
   have hH:∀ y:Oc,(cfr id y).2=y.2:=by
    rintro⟨e,F1,H1⟩
    cases e with
    | nrm=>rfl
    | rt=>rfl
    | ext id' =>
     show(match Nat.beq id' id with | true=>((.nrm,F1,H1):Oc) | false=>(.ext id',F1,H1)).2=(F1,H1)
     split<;>rfl
   refine⟨fun z hz=>?_,fun {Q ρ a w m0} s hr hm df hq=>wpIn_block (k1.wp s hr hm df fun σ' he y hy ρ1 a1 w1 s1 hd1 hs1=>?_)⟩
   ·obtain⟨y,hy,rfl⟩:=List.mem_map.1 hz
    rw [hH]
    exact k1.st y hy
   ·have:=hq σ' he _ (List.mem_map.2 ⟨y,hy,rfl⟩) ρ1 a1 w1 (by rw [hH];exact s1) (by rw [hH];exact hd1) (by rw [hH];exact hs1)
    obtain⟨e,F1,H1⟩:=y
    cases e with
    | nrm=>exact this
    | rt=>exact this
    | ext id' =>
     by_cases hb:id'=id
     ·subst hb
      have hone:cfr id' (.ext id',F1,H1)=(.nrm,F1,H1):=by
       show(match Nat.beq id' id' with | true=>((.nrm,F1,H1):Oc) | false=>(.ext id',F1,H1))=_
       rw [Nat.beq_refl]
      rw [hone] at this
      simp only [Ex.out,Exit.inBlock,if_true]
      exact this
     ·have hone:cfr id (.ext id',F1,H1)=(.ext id',F1,H1):=by
       show(match Nat.beq id' id with | true=>((.nrm,F1,H1):Oc) | false=>(.ext id',F1,H1))=_
       have:Nat.beq id' id=false:=by rw [Bool.eq_false_iff];intro h;exact hb (Nat.eq_of_beq_eq_true h)
       rw [this]
      rw [hone] at this
      simp only [Ex.out,Exit.inBlock,hb,if_false]
      exact this
  ·cases h'
 | loop x ih =>
  intro F H v l hf hrg h hv σ hU
  have h':(match cpd x with
   | some id=>match hs.lh id with
    | some hh=>c3z hh (ca9 P cx n hs x) F H
    | none=>c33 (ca9 P cx n hs x) cx.fuel F H
   | none=>none)=some (v,l):=h
  split at h'
  rotate_left
  ·cases h'
  split at h'
  ·exact c30 h' hv (fun h1 h2 σ1 hU1=>ih hf hrg h1 h2 σ1 hU1) σ hU
  ·have key:∀ (k:Nat) {F:Fm} {H:HP} {v:List VC} {l:List Oc},c33 (ca9 P cx n hs x) k F H=some (v,l)→(∀ z∈v,VCok U z)→∀ σ:Sg,σ.toUs=U→(∀ z∈l,Sc H z.2.2)∧∀ {Q:Exit→Act→World→Prop} {ρ:PM} {a:Act} {w:World} {m0:Nat},@SRel σ n ρ F H a w→RR ρ cx.rb r→m0≤w.heap.size→DfOK ρ H w m0 a.defers →
     (∀ σ',Ext H.nv σ σ'→∀ z∈l,∀ ρ' a' w',@SRel σ' n ρ' z.2.1 z.2.2 a' w'→DfOK ρ' z.2.2 w' m0 a'.defers→SimF ρ H w ρ' z.2.2 w'→Q z.1.out a' w')→Code.roundsIn (WF r) m P x Q k a w:=by
    intro k
    induction k with
    | zero=>intro F H v l h;cases h
    | succ k ihk =>
     intro F H v l h hv σ hU
     obtain⟨v1,l1,h1,hv1,h2,h3,h4⟩:=cqv (show seqO (ca9 P cx n hs x F H) (c33 (ca9 P cx n hs x) k)=some (v,l) from h)
     have k1:=ih hf hrg h1 (fun z hz=>hv z (hv1 z hz)) σ hU
     refine⟨fun z hz=>?_,fun {Q ρ a w m0} s hr hmm df hq=>?_⟩
     ·rcases h4 z hz with ⟨F1,H1,v2,l2,h5,h6,h7⟩ | h5
      ·obtain⟨v3,l3,g1,_,g3⟩:=h2 F1 H1 h5
       rw [h6] at g1
       cases g1
       exact(k1.st _ h5).trans ((ihk h6 (fun z hz=>hv z (g3 z hz)) σ hU).1 z h7)
      ·exact k1.st z h5
     ·rw [roundsIn_succ]
      refine k1.wp s hr hmm df fun σ1 he1 z hz ρ1 a1 w1 s1 hd1 hs1=>?_
      obtain⟨e,F1,H1⟩:=z
      cases e with
      | nrm =>
       obtain⟨v2,l2,h5,h6,h7⟩:=h2 F1 H1 hz
       exact(ihk h5 (fun z hz=>hv z (h7 z hz)) σ1 (he1.us.trans hU)).2 s1 (RR.mono' hs1.le hr) (Nat.le_trans hmm hs1.size) hd1 fun σ2 he2 y hy ρ2 a2 w2 s2 hd2 hs2 =>
        hq σ2 (he1.trans (k1.st _ hz).2.2 he2) y (h6 y hy) ρ2 a2 w2 s2 hd2 (@SimF.trans σ _ _ _ _ _ _ _ _ _ (@SRel.dom σ _ _ _ _ _ _ s) hs1 hs2)
      | ext id=>exact hq σ1 he1 _ (h3 _ hz (fun h=>by cases h)) ρ1 a1 w1 s1 hd1 hs1
      | rt=>exact hq σ1 he1 _ (h3 _ hz (fun h=>by cases h)) ρ1 a1 w1 s1 hd1 hs1
   obtain⟨k1,k2⟩:=key cx.fuel h' hv σ hU
   exact⟨k1,fun {Q ρ a w m0} s hr hmm df hq=>wpIn_loop_rounds cx.fuel (k2 s hr hmm df hq)⟩
end
end Go.Sx

namespace Go.Sx
abbrev Shp:=Bool×List Srt
def b5z(m:Mem):Shp→List CD→Value→Prop
 | (false,[s]),[d],u=>RS m s d u
 | (true,ss),ds,u=>∃ us:Array Value,u=.agg us∧us.size=ss.length∧RSs m ss ds fun j=>us[j]?
 | _,_,_=>False
def b8g(m:Mem):List Shp→List (List CD)→List Value→Prop
 | [],[],[]=>True
 | p::ps,d::ds,u::us=>b5z m p d u∧b8g m ps ds us
 | _,_,_=>False
theorem b5z.mono{m m':Mem}(h:∀ k o,m k o→m' k o):∀ {p:Shp} {ds:List CD} {u:Value},b5z m p ds u→b5z m' p ds u
 | (false,[s]),[d],u,hr=>RS.mono h hr
 | (true,ss),ds,u,⟨us,h1,h2,h3⟩=>⟨us,h1,h2,h3.mono h⟩
 | (false,[]),_,_,hr=>hr.elim
 | (false,_::_::_),_,_,hr=>hr.elim
 | (false,[_]),[],_,hr=>hr.elim
 | (false,[_]),_::_::_,_,hr=>hr.elim
theorem b8g.mono{m m':Mem}(h:∀ k o,m k o→m' k o):∀ {ps:List Shp} {ds:List (List CD)} {us:List Value},b8g m ps ds us→b8g m' ps ds us
 | [],[],[],_=>trivial
 | p::ps,d::ds,u::us,⟨h1,h2⟩=>⟨h1.mono h,h2.mono h⟩
 | [],[],_::_,hr=>hr.elim
 | [],_::_,_,hr=>hr.elim
 | _::_,[],_,hr=>hr.elim
 | _::_,_::_,[],hr=>hr.elim
def oneOf(us:List Value):Value:=if hh:us.toArray.size=1 then us.toArray[0] else .tuple us.toArray
def ResR(m:Mem)(ps:List Shp)(ds:List (List CD))(u:Value):Prop:=∃ us,b8g m ps ds us∧u=oneOf us
structure Keep (w w':World):Prop where
 old:∀ k,k<w.heap.size→w'.heap[k]? = w.heap[k]?
 size:w.heap.size≤w'.heap.size
 os:w'.os=w.os
 tape:w'.tape=w.tape
 output:w'.output=w.output
structure Fsp where
 args:List Shp
 pre:List X
 res:List Shp
 outs:List (List X×List (List X))
 fresh:Bool
noncomputable section
def cqn(k:Nat):Nat→List X
 | 0=>[]
 | n+1=>.var k::cqn (k+1) n
def cjo(k:Nat):List Shp→List (List X)
 | []=>[]
 | p::ps=>cqn k p.2.length::cjo (k+p.2.length) ps
def b3m(U:Us)(P:Program)(f:FuncId)(S:Fsp):Prop :=
 ∀ σ:Sg,σ.toUs=U→∀ (m:Mem) (w:World) (us:Array Value),TW w→(∀ k o,m k o→w.heap[k]? = some o)→b8g m S.args ((cjo 0 S.args).map (@denL σ)) us.toList→@Holds σ S.pre →
  b4n P (fun u w'=>Keep w w'∧∃ o∈S.outs,@Holds σ o.1∧ResR (fun k ob=>(w.heap.size≤k∧w'.heap[k]? = some ob∧Nice ob)∨(S.fresh=false∧m k ob)) S.res (o.2.map (@denL σ)) u) ((callFunc f us).run P w)
def toS1(H:HP)(s:Srt)(c:Cel):Option (X×List Nat×List Nat) :=
 match c with
 | .os z b n sz G ec=>match s,b7m H b with
  | .sl w,some (w',G',e,nb)=>match b6n w w'&&(eqX n nb&&(Nat.beq sz w.length&&(subN G' G&&fitE H.hy z n ec e))) with
   | true=>some (.ap (.mk z) [e],G',[b])
   | false=>none
  | _,_=>none
 | c=>match toS s c with
  | some (e,G)=>some (e,G,[])
  | none=>none
def cou(f:Srt→Cel→Option (X×List Nat×List Nat)):List Srt→List Cel→Option (List X×List Nat×List Nat)
 | [],[]=>some ([],[],[])
 | s::ss,c::cs=>match f s c,cou f ss cs with
  | some (e,G,O),some (es,G',O')=>some (e::es,b43 G G',O++O')
  | _,_=>none
 | _,_=>none
def c0u(f:Srt→Cel→Option (X×List Nat×List Nat))(ws:List Srt):Nat→List Cel→Option (List (List X)×List Nat×List Nat)
 | 0,[]=>some ([],[],[])
 | 0,_::_=>none
 | k+1,cs=>match cou f ws (cs.take ws.length),c0u f ws k (cs.drop ws.length) with
  | some (r,G,O),some (rs,G',O')=>some (r::rs,b43 G G',O++O')
  | _,_=>none
def csn:X→List (List X)→X
 | e,[]=>e
 | e,r::rs=>csn (.ap .snoc (e::r)) rs
def roomy(H:HP)(b off len n:Nat):Bool:=Nat.beq len 0||(match H.cell b (Nat.pred (Nat.add off n)) with
 | some (.c _)=>true
 | some .room=>true
 | _=>false)
def toSN(H:HP):Nat→Srt→Cel→Option (X×List Nat×List Nat)
 | 0=>toS1 H
 | n+1=>fun s c=>match c with
  | .sl b off len cap=>match s with
   | .sl ws=>match Nat.ble 1 ws.length&&roomy H b off len (Nat.mul cap ws.length),H.read b off (Nat.mul len ws.length) with
    | true,some cs=>match c0u (toSN H n) ws len cs with
     | some (rs,G,O)=>some (csn (nilE false) rs,G,b::O)
     | none=>none
    | _,_=>none
   | _=>none
  | .su b off len sz=>match s with
   | .sl ws=>match Nat.ble 1 ws.length&&Nat.beq sz ws.length,H.read b off (Nat.mul len ws.length) with
    | true,some cs=>match c0u (toSN H n) ws len cs with
     | some (rs,G,O)=>some (csn (nilE false) rs,G,b::O)
     | none=>none
    | _,_=>none
   | _=>none
  | c=>toS1 H s c
def toSo(H:HP):Srt→Cel→Option (X×List Nat×List Nat):=toSN H 3
def daa(H:HP):List Srt→List Cel→Option (List X×List Nat×List Nat):=cou (toSo H)
def c8q(H:HP)(p:Shp)(v:AV):Option (List X×List Nat×List Nat) :=
 match p,v with
 | (false,[s]),.one c=>daa H [s] [c]
 | (true,ss),.agg cs=>daa H ss cs
 | _,_=>none
def ce5(H:HP):List Shp→List AV→Option (List (List X)×List Nat×List Nat)
 | [],[]=>some ([],[],[])
 | p::ps,v::vs=>match c8q H p v,ce5 H ps vs with
  | some (e,G,O),some (es,G',O')=>some (e::es,b43 G G',O++O')
  | _,_=>none
 | _,_=>none
end
def memO(ρ:PM)(w:World)(G O:List Nat):Mem:=fun k o=>ρ.at G k o∨∃ b∈O,∃ L,ρ b=some L∧k=L.B∧w.heap[k]? = some o
section
variable [Sg] {P:Program} {H H':HP} {w:World} {ρ:PM}
theorem chj{G G' O O':List Nat}:∀ k o,memO ρ w G O k o→memO ρ w (b43 G G') (O++O') k o:=fun k o h=>h.imp (cam k o) fun⟨b,h1,h2⟩=>⟨b,List.mem_append_left _ h1,h2⟩
theorem cdn{G G' O O':List Nat}:∀ k o,memO ρ w G' O' k o→memO ρ w (b43 G G') (O++O') k o:=fun k o h=>h.imp (cao k o) fun⟨b,h1,h2⟩=>⟨b,List.mem_append_right _ h1,h2⟩
theorem c1r{s:Srt}{c:Cel}{e:X}{G O:List Nat}{u:Value}(h:toS1 H s c=some (e,G,O))(hr:CRel ρ c u)(hH:HRel ρ H w):LocG ρ G∧RS (memO ρ w G O) s (den e) u:=by
 unfold toS1 at h
 split at h
 ·rename_i z b n sz Gc ec
  split at h
  ·rename_i ws w' G' e' nb hrw
   split at h
   ·rename_i hok
    cases h
    simp only [Bool.and_eq_true] at hok
    obtain⟨q1,q2,q3,q4,q5⟩:=hok
    have q1:=b4i q1
    subst q1
    have q2:=b3n q2
    subst q2
    have q3:=Nat.eq_of_beq_eq_true q3
    refine⟨LocG.sub hr.1 q4,?_⟩
    have hden:den (.ap (.mk z) [e'])=.sl (z&&(den e').rows.isEmpty) (den e').rows:=rfl
    rcases hr.2 with ⟨e0,e1,e1',e2⟩ | ⟨e0,L,k,cap,e1,e2,e3,e4,e5,e6,e7⟩
    ·have hrows:=cg3 hH.hy q5 e0 e1 e1'
     refine .inl ⟨?_,e2⟩
     rw [hden,hrows,e0]
     rfl
    ·obtain⟨_,hG',g0,arr,tt,fr,g1,g2,g3,g4,g5,g6⟩:=hH.rel b 0 _ L (b4q hrw).1 e1
     have hk:k=(den e').rows.length:=by omega
     refine .inr (.inl ⟨(den e').rows,L.B,L.o,cap,?_,by rw [e3,hk],by omega,e5,fun hne=>⟨arr,tt,fr,⟨.inr ⟨b,List.mem_singleton.2 rfl,L,e1,rfl,g1⟩,by rw [← q3];omega⟩,fun i row hi=>(g6 i row hi).mono fun k o hko=>.inl hko⟩⟩)
     rw [hden]
     have:(z&&(den e').rows.isEmpty)=false:=by
      cases z with
      | false=>rfl
      | true =>
       cases hr0:(den e').rows with
       | nil=>exfalso;rw [hr0] at g0;exact e0 ⟨rfl,g0⟩
       | cons r rs=>rfl
     rw [this]
   ·cases h
  ·cases h
 ·split at h
  ·rename_i e' G' hs
   cases h
   obtain⟨h1,h2⟩:=cq7 hs hr
   exact⟨h1,h2.mono fun k o hko=>.inl hko⟩
  ·cases h
def cxg(w:World)(ρ:PM)(f:Srt→Cel→Option (X×List Nat×List Nat)):Prop:=∀ (s:Srt) (c:Cel) (e:X) (G O:List Nat) (u:Value),f s c=some (e,G,O)→CRel ρ c u→LocG ρ G∧RS (memO ρ w G O) s (den e) u
theorem cgj{f:Srt→Cel→Option (X×List Nat×List Nat)}(hf:cxg w ρ f):∀ {ss:List Srt} {cs:List Cel} {es:List X} {G O:List Nat} {us:List Value},cou f ss cs=some (es,G,O)→All2 (CRel ρ) cs us→LocG ρ G∧us.length=ss.length∧RSs (memO ρ w G O) ss (denL es) fun j=>us[j]?
 | [],[],es,G,O,[],h,_=>by cases h;exact⟨fun g hg=>(by cases hg),rfl,rfl⟩
 | s::ss,c::cs,es,G,O,u::us,h,⟨h1,h2⟩=>by
  simp only [cou] at h
  split at h
  ·rename_i e G1 O1 es1 G2 O2 he hes
   cases h
   obtain⟨k1,k2⟩:=hf _ _ _ _ _ _ he h1
   obtain⟨k3,k4,k5⟩:=cgj hf hes h2
   refine⟨k1.union k3,by simp [k4],den e,denL es1,u,rfl,rfl,k2.mono chj,?_⟩
   exact(k5.mono cdn).congr fun j _=>by simp
  ·cases h
 | [],[],_,_,_,_::_,_,h=>h.elim
 | [],_::_,_,_,_,_,h,_=>by cases h
 | _::_,[],_,_,_,_,h,_=>by cases h
 | _::_,_::_,_,_,_,[],_,h=>h.elim
theorem cns{f:Srt→Cel→Option (X×List Nat×List Nat)}(hf:cxg w ρ f){ws:List Srt}:∀ {k:Nat} {cs:List Cel} {rs:List (List X)} {G O:List Nat} {us:List Value},c0u f ws k cs=some (rs,G,O)→All2 (CRel ρ) cs us→LocG ρ G∧rs.length=k∧∀ (i:Nat) (r:List X),rs[i]? = some r→RSs (memO ρ w G O) ws (denL r) fun j=>us[i*ws.length+j]?
 | 0,[],rs,G,O,us,h,_=>by cases h;exact⟨fun g hg=>(by cases hg),rfl,fun i r hi=>by simp at hi⟩
 | 0,_::_,_,_,_,_,h,_=>by cases h
 | k+1,cs,rs,G,O,us,h,hr=>by
  simp only [c0u] at h
  split at h
  ·rename_i r G1 O1 rs1 G2 O2 h1 h2
   cases h
   obtain⟨a1,a2,a3⟩:=cgj hf h1 (hr.take ws.length)
   obtain⟨b1,b2,b3⟩:=cns hf h2 (hr.drop ws.length)
   refine⟨a1.union b1,by simp [b2],fun i r' hi=>?_⟩
   cases i with
   | zero =>
    simp only [List.getElem?_cons_zero,Option.some.injEq] at hi
    subst hi
    refine(a3.mono chj).congr fun j hj=>?_
    rw [List.getElem?_take,if_pos hj,Nat.zero_mul,Nat.zero_add]
   | succ i =>
    simp only [List.getElem?_cons_succ] at hi
    refine((b3 i r' hi).mono cdn).congr fun j hj=>?_
    rw [List.getElem?_drop,Nat.add_mul,Nat.one_mul]
    congr 1
    omega
  ·cases h
theorem cil:∀ {rs:List (List X)} {e:X} {b:Bool} {r0:List (List CD)},den e=.sl b r0→den (csn e rs)=.sl (match rs with | []=>b | _=>false) (r0++rs.map denL)
 | [],e,b,r0,h=>by
  show den e=_
  rw [h]
  simp
 | r::rs,e,b,r0,h=>by
  have h1:den (.ap .snoc (e::r))=.sl false (r0++[denL r]):=by
   show CD.sl false ((den e).rows++[denL r])=_
   rw [h]
   rfl
  show den (csn (.ap .snoc (e::r)) rs)=_
  rw [cil h1]
  cases rs<;>simp
theorem c5b(hH:HRel ρ H w){b off len n:Nat}{L:Loc}{arr:Array Value}{t:TypeId}{fr:Nat×Nat}(h:roomy H b off len n=true)(hlen:0<len)(hL:ρ b=some L)(ha:w.heap[L.B]? = some (.cells arr t fr)):L.o+off+n≤arr.size:=by
 unfold roomy at h
 rw [Bool.or_eq_true] at h
 rcases h with h | h
 ·have:=Nat.eq_of_beq_eq_true h;omega
 have key:L.o+Nat.pred (off+n)<arr.size:=by
  split at h
  ·rename_i x hc
   obtain⟨arr',t',fr',u,h1,_,_,h4,_⟩:=hH.rel b _ _ L hc hL
   rw [ha] at h1
   cases h1
   exact(Array.getElem?_eq_some_iff.1 h4).1
  ·rename_i hc
   obtain⟨arr',t',fr',h1,_,_,h4⟩:=hH.rel b _ _ L hc hL
   rw [ha] at h1
   cases h1
   exact h4
  ·cases h
 have:Nat.pred (off+n)=off+n - 1:=rfl
 omega
theorem cs5(hH:HRel ρ H w):∀ n:Nat,cxg w ρ (toSN H n)
 | 0=>fun _ _ _ _ _ _ h hr=>c1r h hr hH
 | n+1=>by
  intro s c e G O u h hr
  unfold toSN at h
  split at h
  ·rename_i b off len cap
   split at h
   rotate_left
   ·cases h
   rename_i ws
   split at h
   rotate_left
   ·cases h
   rename_i cs hw hrd
   split at h
   rotate_left
   ·cases h
   rename_i rs G1 O1 hrs
   cases h
   rw [Bool.and_eq_true] at hw
   obtain⟨hw,hroom⟩:=hw
   have hw:=Nat.le_of_ble_eq_true hw
   obtain⟨⟨L,hL,hu⟩,hlc,hcap⟩:=hr
   obtain⟨us,hul,hrel,hcell⟩:=HP.read_world hrd hH hL
   obtain⟨g1,g2,g3⟩:=cns (cs5 hH n) hrs hrel
   have hden:den (csn (nilE false) rs)=.sl false (rs.map denL):=by
    rw [cil (b:=false) (r0:=[]) rfl]
    cases rs<;>rfl
   refine⟨g1,.inr (.inl ⟨rs.map denL,L.B,L.o+off,cap,hden,by rw [hu,List.length_map,g2],by rw [List.length_map,g2];exact hlc,hcap,fun hne=>?_⟩)⟩
   have hlen:0<len:=by
    rw [← g2]
    cases rs with
    | nil=>exact absurd rfl hne
    | cons r rs=>simp
   have hul:us.length=len*ws.length:=hul
   have hpos:0<len*ws.length:=Nat.mul_pos hlen hw
   obtain⟨k1,k2⟩:=HP.read_spec hrd
   have hcs0:cs[0]? = some cs[0]:=List.getElem?_eq_getElem (by rw [k1];exact hpos)
   obtain⟨arr,tt,fr,_,e1,_,_,_,_⟩:=hH.rel b (off+0) (.c cs[0]) L (k2 0 _ hcs0) hL
   refine⟨arr,tt,fr,⟨.inr ⟨b,List.mem_cons_self ..,L,hL,rfl,e1⟩,c5b hH hroom hlen hL e1⟩,fun i row hi=>?_⟩
   rw [List.getElem?_map] at hi
   cases hri:rs[i]? with
   | none=>rw [hri] at hi;cases hi
   | some r =>
    rw [hri] at hi
    cases hi
    refine((g3 i r hri).mono fun k o hko=>hko.imp (fun h=>h) fun⟨b',hb',h'⟩=>⟨b',List.mem_cons_of_mem _ hb',h'⟩).congr fun j hj=>?_
    have hil:i<len:=by rw [← g2];exact(List.getElem?_eq_some_iff.1 hri).1
    have hlt:i*ws.length+j<len*ws.length:=by
     have:=Nat.mul_le_mul_right ws.length (show i+1≤len from hil)
     rw [Nat.add_mul,Nat.one_mul] at this
     omega
    have h5:=hcell (i*ws.length+j) _ (List.getElem?_eq_getElem (by omega))
    rw [cell?_of e1] at h5
    rw [← Nat.add_assoc] at h5
    rw [h5,List.getElem?_eq_getElem (by omega)]
  ·rename_i b off len sz
   split at h
   rotate_left
   ·cases h
   rename_i ws
   split at h
   rotate_left
   ·cases h
   rename_i cs hw hrd
   split at h
   rotate_left
   ·cases h
   rename_i rs G1 O1 hrs
   cases h
   rw [Bool.and_eq_true] at hw
   obtain⟨hw,hsz⟩:=hw
   have hw:=Nat.le_of_ble_eq_true hw
   have hsz:=Nat.eq_of_beq_eq_true hsz
   obtain⟨L,cap,hL,hu,hlc,hcap,hend⟩:=hr
   obtain⟨us,hul,hrel,hcell⟩:=HP.read_world hrd hH hL
   obtain⟨g1,g2,g3⟩:=cns (cs5 hH n) hrs hrel
   have hden:den (csn (nilE false) rs)=.sl false (rs.map denL):=by
    rw [cil (b:=false) (r0:=[]) rfl]
    cases rs<;>rfl
   refine⟨g1,.inr (.inl ⟨rs.map denL,L.B,L.o+off,cap,hden,by rw [hu,List.length_map,g2],by rw [List.length_map,g2];exact hlc,hcap,fun hne=>?_⟩)⟩
   have hlen:0<len:=by
    rw [← g2]
    cases rs with
    | nil=>exact absurd rfl hne
    | cons r rs=>simp
   have hul:us.length=len*ws.length:=hul
   have hpos:0<len*ws.length:=Nat.mul_pos hlen hw
   obtain⟨k1,k2⟩:=HP.read_spec hrd
   have hcs0:cs[0]? = some cs[0]:=List.getElem?_eq_getElem (by rw [k1];exact hpos)
   obtain⟨arr,tt,fr,_,e1,_,e3,_,_⟩:=hH.rel b (off+0) (.c cs[0]) L (k2 0 _ hcs0) hL
   refine⟨arr,tt,fr,⟨.inr ⟨b,List.mem_cons_self ..,L,hL,rfl,e1⟩,by rw [e3,← hsz];omega⟩,fun i row hi=>?_⟩
   rw [List.getElem?_map] at hi
   cases hri:rs[i]? with
   | none=>rw [hri] at hi;cases hi
   | some r =>
    rw [hri] at hi
    cases hi
    refine((g3 i r hri).mono fun k o hko=>hko.imp (fun h=>h) fun⟨b',hb',h'⟩=>⟨b',List.mem_cons_of_mem _ hb',h'⟩).congr fun j hj=>?_
    have hil:i<len:=by rw [← g2];exact(List.getElem?_eq_some_iff.1 hri).1
    have hlt:i*ws.length+j<len*ws.length:=by
     have:=Nat.mul_le_mul_right ws.length (show i+1≤len from hil)
     rw [Nat.add_mul,Nat.one_mul] at this
     omega
    have h5:=hcell (i*ws.length+j) _ (List.getElem?_eq_getElem (by omega))
    rw [cell?_of e1] at h5
    rw [← Nat.add_assoc] at h5
    rw [h5,List.getElem?_eq_getElem (by omega)]
  ·exact c1r h hr hH
theorem cvo(hH:HRel ρ H w){ss:List Srt}{cs:List Cel}{es:List X}{G O:List Nat}{us:List Value}(h:daa H ss cs=some (es,G,O))(hr:All2 (CRel ρ) cs us):LocG ρ G∧us.length=ss.length∧RSs (memO ρ w G O) ss (denL es) fun j=>us[j]?:=cgj (cs5 hH 3) h hr
theorem c4y(hH:HRel ρ H w){p:Shp}{v:AV}{es:List X}{G O:List Nat}{u:Value}(h:c8q H p v=some (es,G,O))(hv:VRel ρ v u):LocG ρ G∧b5z (memO ρ w G O) p (denL es) u:=by
 unfold c8q at h
 split at h
 ·rename_i s c
  obtain⟨h1,h2,d,r,u',h3,h4,h5,h6⟩:=cvo hH (us:=[u]) h ⟨hv,trivial⟩
  refine⟨h1,?_⟩
  cases h4
  have h6:r=[]:=h6
  subst h6
  rw [h3]
  exact h5
 ·rename_i ss cs
  obtain⟨us,rfl,hr⟩:=hv
  obtain⟨h1,h2,h3⟩:=cvo hH h hr
  refine⟨h1,us,rfl,by simpa using h2,h3.congr fun j _=>by simp⟩
 ·cases h
theorem ccs(hH:HRel ρ H w):∀ {ps:List Shp} {vs:List AV} {es:List (List X)} {G O:List Nat} {us:List Value},ce5 H ps vs=some (es,G,O)→All2 (VRel ρ) vs us→LocG ρ G∧b8g (memO ρ w G O) ps (es.map denL) us
 | [],[],es,G,O,[],h,_=>by cases h;exact⟨fun g hg=>(by cases hg),trivial⟩
 | p::ps,v::vs,es,G,O,u::us,h,⟨h1,h2⟩=>by
  simp only [ce5] at h
  split at h
  ·rename_i e G1 O1 es1 G2 O2 he hes
   cases h
   obtain⟨k1,k2⟩:=c4y hH he h1
   obtain⟨k3,k4⟩:=ccs hH hes h2
   exact⟨k1.union k3,k2.mono chj,k4.mono cdn⟩
  ·cases h
 | [],[],_,_,_,_::_,_,h=>h.elim
 | [],_::_,_,_,_,_,h,_=>by cases h
 | _::_,[],_,_,_,_,h,_=>by cases h
 | _::_,_::_,_,_,_,[],_,h=>h.elim
end
end Go.Sx
