/-
  A symbolic executor: code: what it comes to is what the model's code comes to. Conditions: none; nothing here speaks of one program.
-/
import Derived.Test.YtlbbkmcegbeckaaSzM
import Derived.LoopNIn
import Derived.Scope
set_option linter.unusedSimpArgs false
set_option linter.unusedSectionVars false
set_option linter.unusedVariables false
namespace Go.Sx
section
variable {P:Program} [Plain P] {ora:OraM} {orv:OraV} {U:Us} {n m:Nat} {r:Option Nat}
noncomputable section
def crp{α β:Type}(f:α→Option (List VC×List β)):List α→Option (List VC×List β)
 | []=>some ([],[])
 | [x]=>f x
 | x::y::r=>match f x,crp f (y::r) with
  | some (a,b),some (c,d)=>some (a++c,b++d)
  | _,_=>none
def addV{β:Type}(v:List VC)(x:Option (List VC×List β)):Option (List VC×List β) :=
 match x with
 | some (v',l)=>some (v++v',l)
 | none=>none
end
theorem b7s{α β:Type}{f:α→Option (List VC×List β)}:∀ {xs:List α} {v:List VC} {ys:List β},crp f xs=some (v,ys)→(∀ x∈xs,∃ v1 zs,f x=some (v1,zs)∧(∀ z∈zs,z∈ys)∧∀ z∈v1,z∈v)∧∀ y∈ys,∃ x∈xs,∃ v1 zs,f x=some (v1,zs)∧y∈zs
 | [],v,ys,h=>by
  cases h
  exact⟨fun x hx=>(by cases hx),fun x hx=>(by cases hx)⟩
 | [x],v,ys,h=>by
  have h':f x=some (v,ys):=h
  exact⟨fun y hy=>by rw [List.mem_singleton.1 hy];exact⟨v,ys,h',fun z hz=>hz,fun z hz=>hz⟩,fun y hy=>⟨x,by simp,v,ys,h',hy⟩⟩
 | x::y::r,v,ys,h=>by
  simp only [crp] at h
  cases h1:f x with
  | none=>rw [h1] at h;cases h
  | some a =>
   cases h2:crp f (y::r) with
   | none=>rw [h1,h2] at h;cases h
   | some b =>
    obtain⟨a1,a2⟩:=a
    obtain⟨b1,b2⟩:=b
    rw [h1,h2] at h
    cases h
    obtain⟨k1,k2⟩:=b7s h2
    refine⟨fun z hz=>?_,fun z hz=>?_⟩
    ·rcases List.mem_cons.1 hz with rfl | hz
     ·exact⟨a1,a2,h1,fun z hz=>List.mem_append_left _ hz,fun z hz=>List.mem_append_left _ hz⟩
     ·obtain⟨v1,zs,g1,g2,g3⟩:=k1 z hz
      exact⟨v1,zs,g1,fun u hu=>List.mem_append_right _ (g2 u hu),fun u hu=>List.mem_append_right _ (g3 u hu)⟩
    ·rcases List.mem_append.1 hz with hz | hz
     ·exact⟨x,List.mem_cons_self ..,a1,a2,h1,hz⟩
     ·obtain⟨x',g1,g2⟩:=k2 z hz
      exact⟨x',List.mem_cons_of_mem _ g1,g2⟩
theorem cgb{β:Type}{v v0:List VC}{x:Option (List VC×List β)}{l:List β}(h:addV v0 x=some (v,l)):∃ v',x=some (v',l)∧v=v0++v':=by
 unfold addV at h
 split at h
 ·cases h;exact⟨_,rfl,rfl⟩
 ·cases h
noncomputable def seqV(P:Program)[Plain P](ora:OraM)(orv:OraV)(n:Nat)(ops:List Oper):List Oper→Fm→HP→Option (List VC×List (Fm×HP))
 | [],F,H=>some ([],[(F,H)])
 | o::rest,F,H =>
  match cjb H.hy ops F o.guard with
  | some true=>match opV P orv (evF F) H o.op with
   | some (v,outs)=>match cah H.nv F with
    | true=>addV v (crp (fun x=>match putF n F o.dst x.1 with
     | some F'=>seqV P ora orv n ops rest F' x.2
     | none=>none) outs)
    | false=>none
   | none=>match c1e o.op P inferInstance ora (evF F) H with
    | some outs=>crp (fun x=>match putF n F o.dst x.1 with
     | some F'=>seqV P ora orv n ops rest F' x.2
     | none=>none) outs
    | none=>none
  | some false=>match putF n F o.dst b5a with
   | some F'=>seqV P ora orv n ops rest F' H
   | none=>none
  | none=>none
theorem cny(ho:b9q U P orv)(hora:cb4 U P ora)(σ:Sg)(hU:σ.toUs=U){ops:List Oper}:∀ (rest:List Oper) {F:Fm} {H:HP} {v:List VC} {res:List (Fm×HP)},seqV P ora orv n ops rest F H=some (v,res)→(∀ z∈v,VCok U z)→∀ x∈res,Sc H x.2
 | [],F,H,v,res,h,_=>by cases h;exact fun x hx=>by rw [List.mem_singleton.1 hx];exact Sc.refl _
 | o::rest,F,H,v,res,h,hv=>by
  simp only [seqV] at h
  split at h
  ·split at h
   ·rename_i v1 outs hc
    split at h
    ·obtain⟨v2,h0,rfl⟩:=cgb h
     obtain⟨h1,h2⟩:=b7s h0
     obtain⟨_,g1,_⟩:=c6u ho hc (fun z hz=>hv z (List.mem_append_left _ hz))
     intro x hx
     obtain⟨y,hy,w1,zs,h3,h4⟩:=h2 x hx
     obtain⟨w1',zs',h3',h4',h5'⟩:=h1 y hy
     rw [h3] at h3'
     cases h3'
     split at h3
     ·exact(g1 y hy).trans (cny ho hora σ hU rest h3 (fun z hz=>hv z (List.mem_append_right _ (h5' z hz))) x h4)
     ·cases h3
    ·cases h
   ·split at h
    ·rename_i outs hstep
     have hstep:=cix hstep
     obtain⟨h1,h2⟩:=b7s h
     intro x hx
     obtain⟨y,hy,w1,zs,h3,h4⟩:=h2 x hx
     obtain⟨w1',zs',h3',h4',h5'⟩:=h1 y hy
     rw [h3] at h3'
     cases h3'
     split at h3
     ·exact(@cvm σ P _ _ _ _ (hora σ hU) _ _ hstep y hy).trans (cny ho hora σ hU rest h3 (fun z hz=>hv z (h5' z hz)) x h4)
     ·cases h3
    ·cases h
  ·split at h
   ·exact cny ho hora σ hU rest h hv
   ·cases h
  ·cases h
theorem cnz(ho:b9q U P orv)(hora:cb4 U P ora){ops:List Oper}{Q:Exit→Act→World→Prop}:∀ (rest:List Oper) (σ:Sg),σ.toUs=U→∀ {ρ:PM} {F:Fm} {H:HP} {a:Act} {w:World} {v:List VC} {res:List (Fm×HP)},
  seqV P ora orv n ops rest F H=some (v,res)→(∀ z∈v,VCok U z)→@SRel σ n ρ F H a w→(∀ σ',Ext H.nv σ σ'→∀ x∈res,∀ ρ' a' w',@SRel σ' n ρ' x.1 x.2 a' w'→a'.defers=a.defers→SimF ρ H w ρ' x.2 w'→Q .normal a' w')→wpListIn (WF r) m P ops.toArray Q rest a w
 | [],σ,hU,ρ,F,H,a,w,v,res,h,hv,s,hq=>by cases h;exact hq σ (Ext.refl _ _) _ (List.mem_singleton.2 rfl) ρ a w s rfl (@Sim.f σ _ _ _ _ _ _ (@Sim.refl σ _ _ _ (@SRel.hp σ _ _ _ _ _ _ s) (@SRel.dom σ _ _ _ _ _ _ s)))
 | o::rest,σ,hU,ρ,F,H,a,w,v,res,h,hv,s,hq=>by
  have hfr:=@SRel.fr σ _ _ _ _ _ _ s
  have hhp:=@SRel.hp σ _ _ _ _ _ _ s
  have hdm:=@SRel.dom σ _ _ _ _ _ _ s
  have hjj:=@SRel.j σ _ _ _ _ _ _ s
  simp only [seqV] at h
  split at h
  ·rename_i hw
   have hwant:=@cvu σ n ρ F a ops o _ _ (@HRel.hy σ _ _ _ hhp) hfr hw
   simp only [wpListIn]
   rw [if_pos hwant]
   split at h
   ·rename_i v1 outs hc
    split at h
    ·rename_i hsc
     obtain⟨v2,h0,rfl⟩:=cgb h
     obtain⟨h1,h2⟩:=b7s h0
     obtain⟨hnd,g1,g2⟩:=c6u ho hc (fun z hz=>hv z (List.mem_append_left _ hz))
     have g3:=g2 σ hU (ρ:=ρ) (w:=w) (ev:=a.eval) (fun z _ v hv=>@cbn σ _ _ _ _ hfr _ _ hv) hhp hdm hjj
     have hput:∀ x∈outs,∃ F',putF n F o.dst x.1=some F'∧∃ v3 zs,seqV P ora orv n ops rest F' x.2=some (v3,zs)∧(∀ z∈zs,z∈res)∧∀ z∈v3,z∈v2:=by
      intro x hx
      obtain⟨v3,zs,h3,h4,h5⟩:=h1 x hx
      split at h3
      ·rename_i F' hp
       exact⟨F',hp,v3,zs,h3,h4,h5⟩
      ·cases h3
     refine⟨fun f _=>trivial,?_⟩
     rw [Oper.semAt_eq _ _ _ hnd]
     obtain⟨dst,op,ty,pos,after,guard⟩:=o
     refine b7q (g3 dst ty pos after guard) fun u w' ⟨x,hx,σ',hext,ρ',hvr,hs,hhr⟩=>?_
     obtain⟨F',hF,v3,zs,h4,h5,h6⟩:=hput x hx
     have s':@SRel σ' n ρ' F' x.2 (a.put dst u) w':=@SRel.mk σ' n ρ' F' x.2 _ w' (@cf0 σ' _ _ _ _ _ _ _ _ (@FRel.mono σ' _ _ _ _ _ (FRel.ext hext hsc hfr) hs.le) hvr hF) hhr hs.dom (hs.jj hjj)
     refine cnz ho hora rest σ' (hext.us.trans hU) h4 (fun z hz=>hv z (List.mem_append_right _ (h6 z hz))) s' fun σ2 he2 y hy ρ2 a2 w2 s2 hd2 hs2=>?_
     exact hq σ2 (hext.trans (g1 x hx).2.2 he2) y (h5 y hy) ρ2 a2 w2 s2 (hd2.trans (put_defers _ _ _)) (@SimF.trans σ _ _ _ _ _ _ _ _ _ hdm hs hs2)
    ·cases h
   ·split at h
    ·rename_i outs hstep
     have hstep:=cix hstep
     obtain⟨h1,h2⟩:=b7s h
     have hput:∀ x∈outs,∃ F',putF n F o.dst x.1=some F'∧∃ v3 zs,seqV P ora orv n ops rest F' x.2=some (v3,zs)∧(∀ z∈zs,z∈res)∧∀ z∈v3,z∈v:=by
      intro x hx
      obtain⟨v3,zs,h3,h4,h5⟩:=h1 x hx
      split at h3
      ·rename_i F' hp
       exact⟨F',hp,v3,zs,h3,h4,h5⟩
      ·cases h3
     refine @c4p σ P _ ora n m r ρ F H a w outs (hora σ hU) o _ _ hstep (fun x hx=>let ⟨F',h3,_⟩:=hput x hx;⟨F',h3⟩) s fun x hx F' hF ρ' a' w' s' hd hs=>?_
     obtain⟨F2,h3,v3,zs,h4,h5,h6⟩:=hput x hx
     rw [hF] at h3
     cases h3
     refine cnz ho hora rest σ hU h4 (fun z hz=>hv z (h6 z hz)) s' fun σ2 he2 y hy ρ2 a2 w2 s2 hd2 hs2=>?_
     have hsc:=@cvm σ P _ _ _ _ (hora σ hU) _ _ hstep x hx
     exact hq σ2 ((Ext.refl _ σ).trans hsc.2.2 he2) y (h5 y hy) ρ2 a2 w2 s2 (hd2.trans hd) (@SimF.trans σ _ _ _ _ _ _ _ _ _ hdm (@Sim.f σ _ _ _ _ _ _ hs) hs2)
    ·cases h
  ·rename_i hw
   have hwant:=@cvu σ n ρ F a ops o _ _ (@HRel.hy σ _ _ _ hhp) hfr hw
   split at h
   ·rename_i F1 hput
    simp only [wpListIn]
    rw [if_neg (by rw [hwant];simp)]
    refine⟨fun f _=>trivial,?_⟩
    exact cnz ho hora rest σ hU h hv (@SRel.mk σ n ρ F1 H _ w (@cf0 σ _ _ _ _ _ _ _ _ hfr (@b6l σ ρ) hput) hhp hdm hjj) fun σ2 he2 x hx ρ2 a2 w2 s2 hd2 hs2=>hq σ2 he2 x hx ρ2 a2 w2 s2 (hd2.trans (put_defers _ _ _)) hs2
   ·cases h
  ·cases h
theorem dad(ho:b9q U P orv)(hora:cb4 U P ora)(σ:Sg)(hU:σ.toUs=U){id:Nat}{ops:List Oper}{Q:Exit→Act→World→Prop}{ρ:PM}{F:Fm}{H:HP}{a:Act}{w:World}{v:List VC}{res:List (Fm×HP)}(h:seqV P ora orv n ops ops F H=some (v,res))(hv:∀ z∈v,VCok U z)(s:@SRel σ n ρ F H a w)
  (hq:∀ σ',Ext H.nv σ σ'→∀ x∈res,∀ ρ' a' w',@SRel σ' n ρ' x.1 x.2 a' w'→a'.defers=a.defers→SimF ρ H w ρ' x.2 w'→Q .normal a' w'):(Code.region id ops.toArray false).wpIn (WF r) m P Q a w :=
 wpIn_region_lit (cnz ho hora ops σ hU h hv s hq)
end
end Go.Sx

namespace Go.Sx
noncomputable section
def frzC(H:HP)(c:Cel):Option (Cel×HP) :=
 match c with
 | .os z b n sz G ec=>match b7m H b with
  | some (w,G',e,nb)=>match uniS w&&(eqX n nb&&(Nat.beq sz w.length&&(subN G' G&&fitE H.hy z n ec e))) with
   | true=>some (.sv (.sl w) (H.n::G') (.ap (.mk z) [e]),(H.drop b).push (.lf []))
   | false=>none
  | none=>none
 | _=>none
def frz(t:Nat)(off:Option Nat)(F:Fm)(H:HP):Option (Fm×HP) :=
 match off with
 | none=>match F.get t with
  | some (.one c)=>match frzC H c with
   | some (c',H')=>some (F.put t (some (.one c')),H')
   | none=>none
  | _=>none
 | some off=>match F.get t with
  | some (.one (.ptr b o))=>match H.read b (o+off) 1 with
   | some [c]=>match frzC H c with
    | some (c',H')=>match H'.write b (o+off) [c'] with
     | some H2=>some (F,H2)
     | none=>none
    | none=>none
   | _=>none
  | _=>none
def isFz:X→Option (Nat×Option Nat)
 | .ap (.nil true) [.lit (.int .i64 (Int.ofNat t))]=>some (t,none)
 | .ap (.nil true) [.lit (.int .i64 (Int.ofNat t)),.lit (.int .i64 (Int.ofNat o))]=>some (t,some o)
 | _=>none
def frzL:List X→Fm→HP→Fm×HP
 | [],F,H=>(F,H)
 | x::r,F,H=>match isFz x with
  | some (t,o)=>match frz t o F H with
   | some (F',H')=>frzL r F' H'
   | none=>frzL r F H
  | none=>frzL r F H
def noFz:List X→List X
 | []=>[]
 | x::r=>match isFz x with
  | some _=>noFz r
  | none=>x::noFz r
end
section
variable {σ:Sg} {n:Nat} {ρ:PM} {F F':Fm} {H H':HP} {a:Act} {w:World}
theorem cys{c c':Cel}(h:frzC H c=some (c',H'))(hH:@HRel σ ρ H w)(hd:Dom ρ H.n)(hj:J ρ H w) :
  ∃ ρ',@HRel σ ρ' H' w∧SimF ρ H w ρ' H' w∧J ρ' H' w∧H'.hy=H.hy∧H'.nv=H.nv∧Unt H H'∧H.n≤H'.n∧∀ u,@CRel σ ρ c u→@CRel σ ρ' c' u:=by
 unfold frzC at h
 split at h
 rotate_left
 ·cases h
 rename_i z b nn sz G ec
 split at h
 rotate_left
 ·cases h
 rename_i ws G' e nb hrw
 split at h
 rotate_left
 ·cases h
 rename_i hok
 cases h
 simp only [Bool.and_eq_true] at hok
 obtain⟨q1,q2,q3,q4,q5⟩:=hok
 have q2:=b3n q2
 subst q2
 have q3:=Nat.eq_of_beq_eq_true q3
 let M:Mem:=fun k o=>∃ L,ρ b=some L∧k=L.B∧w.heap[k]? = some o
 have hfr:=hd H.n (Nat.le_refl _)
 have hle:PM.le ρ (upd ρ H.n ⟨w.heap.size,0,0,some M⟩):=b8f hfr
 have hbk:H.Kn b:=⟨0,_,(@b4q σ H b _ _ _ _ hrw).1⟩
 have hcell:∀ b' i,((H.drop b).push (.lf [])).cell b' i=if b'=H.n then none else if b'=b then none else H.cell b' i:=by
  intro b' i
  rw [HP.cell_push]
  show(if b'=H.n then _ else(H.drop b).cell b' i)=_
  split
  ·rfl
  ·unfold HP.cell HP.drop
   rw [PT.get_put]
   split
   ·rfl
   ·rfl
 have hkn:∀ b',((H.drop b).push (.lf [])).Kn b'→b'≠H.n∧b'≠b∧H.Kn b':=by
  rintro b' ⟨i,c,hc⟩
  rw [hcell] at hc
  split at hc
  ·cases hc
  ·split at hc
   ·cases hc
   ·exact⟨‹_›,‹_›,i,c,hc⟩
 have hrel:@HRel σ (upd ρ H.n ⟨w.heap.size,0,0,some M⟩) ((H.drop b).push (.lf [])) w:=by
  refine @HRel.mk σ _ _ _ (fun b' i c L hc hL=>?_) (fun b1 b2 L1 L2 g1 g2 hL hL' he=>?_) (show @Holds σ H.hy from @HRel.hy σ _ _ _ hH)
  ·rw [hcell] at hc
   split at hc
   ·cases hc
   ·rename_i h1
    split at hc
    ·cases hc
    ·rw [upd_ne h1] at hL
     exact @b6h.mono σ _ _ hle _ _ _ _ (@HRel.rel σ _ _ _ hH b' i c L hc hL)
  ·obtain⟨h1,_,h2⟩:=hkn b1 g1
   obtain⟨h3,_,h4⟩:=hkn b2 g2
   rw [upd_ne h1] at hL
   rw [upd_ne h3] at hL'
   exact @HRel.inj σ _ _ _ hH b1 b2 L1 L2 h2 h4 hL hL' he
 have hjj:J ρ H w→J (upd ρ H.n ⟨w.heap.size,0,0,some M⟩) ((H.drop b).push (.lf [])) w:=by
  intro hj
  refine⟨fun x hx=>⟨hj.tw x hx,fun b' L' hb' hL'=>?_⟩,fun g L M' hg hM k o ho=>?_⟩
  ·obtain⟨h4,_,h5⟩:=hkn b' hb'
   rw [upd_ne h4] at hL'
   exact(hj.1 x hx).2 b' L' h5 hL'
  by_cases h1:g=H.n
  ·subst h1
   rw [upd_same] at hg
   cases hg
   cases hM
   obtain⟨L,hL,rfl,ho⟩:=ho
   refine⟨ho,fun b' L' hb' hL' he=>?_⟩
   obtain⟨h3,h4,h5⟩:=hkn b' hb'
   rw [upd_ne h3] at hL'
   exact h4 (@HRel.inj σ _ _ _ hH b' b L' L h5 hbk hL' hL he)
  ·rw [upd_ne h1] at hg
   obtain⟨h2,h3⟩:=hj.2 g L M' hg hM k o ho
   refine⟨h2,fun b' L' hb' hL'=>?_⟩
   obtain⟨h4,_,h5⟩:=hkn b' hb'
   rw [upd_ne h4] at hL'
   exact h3 b' L' h5 hL'
 have hn:((H.drop b).push (.lf [])).n=H.n+1:=rfl
 refine⟨upd ρ H.n ⟨w.heap.size,0,0,some M⟩,hrel,⟨hle,by rw [hn];omega,fun b' hb'=>?_,fun b' i hb' hc=>?_,fun _ _ _=>rfl,fun b' L h1 h2=>?_,Nat.le_refl _,rfl,rfl,rfl,fun b' L h1 h2=>?_,hjj,fun g L M' k o h1 h2 h3 h4=>?_⟩,hjj hj,rfl,rfl,?_,by rw [hn];omega,fun u hu=>?_⟩
 ·rw [hn] at hb'
  rw [upd_ne (by omega)]
  exact hd b' (by omega)
 ·rw [hcell]
  split
  ·rfl
  ·split
   ·rfl
   ·exact hc
 ·by_cases h3:b'=H.n
  ·subst h3
   rw [upd_same] at h2
   cases h2
   exact .inl (Nat.le_refl _)
  ·rw [upd_ne h3,h1] at h2;cases h2
 ·by_cases h3:b'=H.n
  ·subst h3;exact Nat.le_refl _
  ·rw [upd_ne h3,h1] at h2;cases h2
 ·by_cases h5:g=H.n
  ·subst h5
   rw [upd_same] at h2
   cases h2
   cases h3
   obtain⟨L,hL,rfl,ho⟩:=h4
   refine⟨.inr ⟨b,L,hbk,hL,rfl⟩,?_⟩
   obtain⟨_,_,_,arr,tt,fr,g1,g2,_⟩:=@HRel.rel σ _ _ _ hH b 0 _ L (@b4q σ H b _ _ _ _ hrw).1 hL
   rw [g1] at ho
   cases ho
   exact⟨arr,tt,fr,rfl,g2.1,_,g2.2 q1⟩
  ·rw [upd_ne h5,h1] at h2;cases h2
 ·exact(@St.trans σ _ _ _ (@St.drop σ H b) (@St.push σ (H.drop b) (.lf []))).1
 ·obtain⟨hG,hr⟩:=hu
  rcases hr with ⟨e0,e1,e1',e2⟩ | ⟨e0,L,k,cap,e1,e2,e3,e4,e5,e6,e7⟩
  ·refine⟨fun g hg=>?_,.inl ⟨?_,e2⟩⟩
   ·rcases List.mem_cons.1 hg with rfl | hg
    ·exact⟨_,upd_same _ _ _⟩
    ·obtain⟨L',hL'⟩:=hG g (ci2 q4 g hg)
     exact⟨L',hle _ _ hL'⟩
   ·have hrows:=@cg3 σ _ (@HRel.hy σ _ _ _ hH) _ _ _ _ q5 e0 e1 e1'
    have hden:@den σ (.ap (.mk z) [e])=.sl (z&&(@den σ e).rows.isEmpty) (@den σ e).rows:=rfl
    rw [hden,hrows,e0]
    rfl
  ·obtain⟨_,hG',g0,arr,tt,fr,g1,g2,g3,g4,g5,g6⟩:=@HRel.rel σ _ _ _ hH b 0 _ L (@b4q σ H b _ _ _ _ hrw).1 e1
   have hk:k=(@den σ e).rows.length:=by omega
   have hden:@den σ (.ap (.mk z) [e])=.sl (z&&(@den σ e).rows.isEmpty) (@den σ e).rows:=rfl
   refine⟨fun g hg=>?_,.inr (.inl ⟨(@den σ e).rows,L.B,L.o,cap,?_,by rw [e3,hk],by omega,e5,fun hne=>⟨arr,tt,fr,⟨⟨H.n,List.mem_cons_self ..,_,M,upd_same _ _ _,rfl,L,e1,rfl,g1⟩,by rw [← q3];omega⟩,fun i row hi=>(g6 i row hi).mono fun k' o' ⟨g,hg,L',M',h1,h2,h3⟩=>⟨g,List.mem_cons_of_mem _ hg,L',M',hle _ _ h1,h2,h3⟩⟩⟩)⟩
   ·rcases List.mem_cons.1 hg with rfl | hg
    ·exact⟨_,upd_same _ _ _⟩
    ·obtain⟨L',hL'⟩:=hG' g hg
     exact⟨L',hle _ _ hL'⟩
   ·rw [hden]
    have:(z&&(@den σ e).rows.isEmpty)=false:=by
     cases z with
     | false=>rfl
     | true =>
      cases hr0:(@den σ e).rows with
      | nil=>exfalso;rw [hr0] at g0;exact e0 ⟨rfl,g0⟩
      | cons r rs=>rfl
    rw [this]
theorem dbg{t:Nat}{off:Option Nat}(h:frz t off F H=some (F',H'))(s:@SRel σ n ρ F H a w) :
  ∃ ρ',@SRel σ n ρ' F' H' a w∧SimF ρ H w ρ' H' w∧H'.hy=H.hy∧Sc H H':=by
 have hfr:=@SRel.fr σ _ _ _ _ _ _ s
 have hhp:=@SRel.hp σ _ _ _ _ _ _ s
 have hdm:=@SRel.dom σ _ _ _ _ _ _ s
 have hjj:=@SRel.j σ _ _ _ _ _ _ s
 unfold frz at h
 split at h
 ·split at h
  ·rename_i c hc
   split at h
   ·rename_i c' H1 hz
    cases h
    obtain⟨ρ',k1,k2,k3,k4,k5,k6,k7,k8⟩:=cys hz hhp hdm hjj
    refine⟨ρ',@SRel.mk σ _ _ _ _ _ _ (@FRel.mk σ _ _ _ _ (@FRel.sz σ _ _ _ _ hfr) fun t' v hv=>?_) k1 k2.dom k3,k2,k4,k6,k7,by rw [k5];exact Nat.le_refl _⟩
    rw [PT.get_put] at hv
    split at hv
    ·rename_i ht
     subst ht
     cases hv
     obtain⟨u,h1,h2⟩:=@FRel.get σ _ _ _ _ hfr t' _ hc
     exact⟨u,h1,k8 u h2⟩
    ·obtain⟨u,h1,h2⟩:=@FRel.get σ _ _ _ _ hfr t' v hv
     exact⟨u,h1,@VRel.mono σ _ _ k2.le _ _ h2⟩
   ·cases h
  ·cases h
 ·rename_i off
  split at h
  ·rename_i b o hc
   split at h
   ·rename_i c hrd
    split at h
    ·rename_i c' H1 hz
     split at h
     ·rename_i H2 hw
      cases h
      obtain⟨ρ',k1,k2,k3,k4,k5,k6,k7,k8⟩:=cys hz hhp hdm hjj
      obtain⟨w1,w2,w3⟩:=@HP.write_spec σ _ _ _ _ _ hw
      obtain⟨r1,r2⟩:=@HP.read_spec σ _ _ _ _ _ hrd
      have hold:H.cell b (o+off)=some (.c c):=by simpa using r2 0 c rfl
      have hkn:∀ b' i,H'.cell b' i=none↔H1.cell b' i=none:=by
       intro b' i
       rw [w2]
       split
       ·rename_i hh
        obtain⟨rfl,h1,h2⟩:=hh
        have h2:i<o+off+1:=h2
        have:i=o+off:=by omega
        subst this
        obtain⟨c0,hc0,_⟩:=w3 0 (by simp)
        rw [Nat.add_zero] at hc0
        rw [hc0]
        simp
       ·exact Iff.rfl
      have hkn':∀ b',H'.Kn b'→H1.Kn b':=fun b' ⟨i,x,hx⟩=>by
       cases hh:H1.cell b' i with
       | some y=>exact⟨i,y,hh⟩
       | none=>rw [(hkn b' i).2 hh] at hx;cases hx
      have hrel:@HRel σ ρ' H' w:=by
       refine @HRel.mk σ _ _ _ (fun b' i x L hx hL=>?_) (fun b1 b2 L1 L2 g1 g2 hL hL' he=>@HRel.inj σ _ _ _ k1 b1 b2 L1 L2 (hkn' b1 g1) (hkn' b2 g2) hL hL' he) (by rw [HP.write_hy hw];exact @HRel.hy σ _ _ _ k1)
       rw [w2] at hx
       split at hx
       ·rename_i hh
        obtain⟨rfl,h1,h2⟩:=hh
        have h2:i<o+off+1:=h2
        have:i=o+off:=by omega
        subst this
        simp at hx
        subst hx
        obtain⟨c0,hc0,hp0⟩:=w3 0 (by simp)
        rw [Nat.add_zero] at hc0
        cases hb:ρ b' with
        | none =>
         exfalso
         obtain⟨u,_,L1,hL1,_⟩:=@FRel.get σ _ _ _ _ hfr t _ hc
         rw [hb] at hL1
         cases hL1
        | some L0 =>
         have:=k2.le b' L0 hb
         rw [hL] at this
         cases this
         obtain⟨arr,tt,fr,u,e1,e2,e3,e4,e5⟩:=@HRel.rel σ _ _ _ hhp b' (o+off) _ L hold hb
         exact⟨arr,tt,fr,u,e1,e2,e3,e4,k8 u e5⟩
       ·exact @HRel.rel σ _ _ _ k1 b' i x L hx hL
      have hs:SimF ρ H w ρ' H' w:=⟨k2.le,by rw [w1];exact k2.grow,by rw [w1];exact k2.dom,fun b' i hb' hc'=>(hkn b' i).2 (k2.knc b' i hb' hc'),k2.fr,k2.new,k2.size,k2.os,k2.tape,k2.output,k2.old,fun hj=>by
       have:=k2.jj hj
       exact this.less (PM.le.refl _) fun b' L' hb' _=>hkn' b' hb',k2.ro⟩
      refine⟨ρ',@SRel.mk σ _ _ _ _ _ _ (@FRel.mk σ _ _ _ _ (@FRel.sz σ _ _ _ _ hfr) fun t' v hv=>?_) hrel hs.dom (hs.jj hjj),hs,by rw [HP.write_hy hw];exact k4,?_⟩
      ·obtain⟨u,h1,h2⟩:=@FRel.get σ _ _ _ _ hfr t' v hv
       exact⟨u,h1,@VRel.mono σ _ _ k2.le _ _ h2⟩
      ·exact @Sc.trans σ _ _ _ ⟨k6,k7,by rw [k5];exact Nat.le_refl _⟩ (@St.sc σ _ _ (@St.write σ _ _ _ _ _ hw))
     ·cases h
    ·cases h
   ·cases h
  ·cases h
theorem cmm:∀ {xs:List X} {F:Fm} {H:HP} {ρ:PM},@SRel σ n ρ F H a w→∃ ρ',@SRel σ n ρ' (frzL xs F H).1 (frzL xs F H).2 a w∧SimF ρ H w ρ' (frzL xs F H).2 w∧(frzL xs F H).2.hy=H.hy
 | [],F,H,ρ,s=>⟨ρ,s,@Sim.f σ _ _ _ _ _ _ (@Sim.refl σ _ _ _ (@SRel.hp σ _ _ _ _ _ _ s) (@SRel.dom σ _ _ _ _ _ _ s)),rfl⟩
 | x::r,F,H,ρ,s=>by
  unfold frzL
  split
  ·rename_i t o ht
   split
   ·rename_i F' H' hz
    obtain⟨ρ1,k1,k2,k3,_⟩:=dbg hz s
    obtain⟨ρ2,k4,k5,k6⟩:=cmm (xs:=r) k1
    exact⟨ρ2,k4,@SimF.trans σ _ _ _ _ _ _ _ _ _ (@SRel.dom σ _ _ _ _ _ _ s) k2 k5,k6.trans k3⟩
   ·exact cmm (xs:=r) s
  ·exact cmm (xs:=r) s
end
theorem dbh[Sg]{t:Nat}{off:Option Nat}{F F':Fm}{H H':HP}(h:frz t off F H=some (F',H')):Sc H H'∧H'.nv=H.nv:=by
 have hC:∀ {c c':Cel} {H1:HP},frzC H c=some (c',H1)→Sc H H1∧H1.nv=H.nv:=by
  intro c c' H1 h
  unfold frzC at h
  repeat' (split at h)
  all_goals first
   | (cases h;done)
   | skip
  cases h
  exact⟨((St.drop _ _).trans (St.push _ _)).sc,rfl⟩
 unfold frz at h
 split at h
 ·split at h
  ·split at h
   ·rename_i hz
    cases h
    exact hC hz
   ·cases h
  ·cases h
 ·split at h
  ·split at h
   ·split at h
    ·rename_i hz
     split at h
     ·rename_i hw
      cases h
      exact⟨(hC hz).1.trans (St.write hw).sc,by rw [(St.write hw).2.2.2];exact(hC hz).2⟩
     ·cases h
    ·cases h
   ·cases h
  ·cases h
theorem cmo[Sg]:∀ {xs:List X} {F:Fm} {H:HP},Sc H (frzL xs F H).2∧(frzL xs F H).2.nv=H.nv
 | [],F,H=>⟨Sc.refl H,rfl⟩
 | x::r,F,H=>by
  unfold frzL
  split
  ·split
   ·rename_i F' H' hz
    obtain⟨h1,h2⟩:=dbh hz
    obtain⟨h3,h4⟩:=cmo (xs:=r) (F:=F') (H:=H')
    exact⟨h1.trans h3,h4.trans h2⟩
   ·exact cmo (xs:=r)
  ·exact cmo (xs:=r)
theorem cml:∀ {xs:List X} {F:Fm} {H:HP},(frzL xs F H).2.hy=H.hy
 | [],F,H=>rfl
 | x::r,F,H=>by
  haveI:=sg0
  unfold frzL
  split
  ·split
   ·rename_i F' H' hz
    rw [cml (xs:=r)]
    unfold frz at hz
    have hC:∀ {c c':Cel} {H1:HP},frzC H c=some (c',H1)→H1.hy=H.hy:=by
     intro c c' H1 h
     unfold frzC at h
     repeat' (split at h)
     all_goals first
      | (cases h;done)
      | (cases h;rfl)
    split at hz
    ·split at hz
     ·split at hz
      ·rename_i h1
       cases hz
       exact hC h1
      ·cases hz
     ·cases hz
    ·split at hz
     ·split at hz
      ·split at hz
       ·rename_i h1
        split at hz
        ·rename_i hw
         cases hz
         rw [HP.write_hy hw]
         exact hC h1
        ·cases hz
       ·cases hz
      ·cases hz
     ·cases hz
   ·exact cml (xs:=r)
  ·exact cml (xs:=r)
end Go.Sx

namespace Go.Sx
inductive Ex where
 | nrm
 | ext (id:Nat)
 | rt
def Ex.out:Ex→Exit
 | .nrm=>.normal
 | .ext id=>.exit id
 | .rt=>.ret
abbrev Oc:=Ex×Fm×HP
abbrev RO:=Option (List VC×List Oc)
section
variable {P:Program} {b:Frame} {a:Act} {k:List Item} {cs:List Frame} {w:World} {Q:Exit→Act→World→Prop} {D:Fence} {n:Nat}
theorem b6y{c:Code}:step P (lone (b.atR a (.code (.scope c)::k)) cs w)=.next (lone (b.atR a (.code c::.inScope c::k)) cs w) :=
 step_lone_go (by simp [stepG,stepG.exec,Frame.atR])
theorem cn5{c:Code}:step P (lone (b.atR a (.inScope c::k)) cs w)=.next (lone (b.atR a k) cs w) :=
 step_lone_go (by simp [stepG,stepG.exec,Frame.atR])
theorem cxb{c:Code}(h:c.wpIn D n P (Exit.noGoto Q) a w):(Code.scope c).wpIn D n P Q a w:=by
 intro b k cs hro hb hr
 have h0:(lone (b.atR a (.code (.scope c)::k)) cs w).fenced P D:=fenced_calm hb hr rfl
 obtain⟨e,a₁,w₁,hq,harr⟩:=h b (.inScope c::k) cs hro hb hr
 cases e with
 | normal=>exact⟨.normal,a₁,w₁,hq,.head h0 b6y (StepsIn.trans harr (.one (fenced_calm hb hr rfl) cn5))⟩
 | exit id =>
  have hx:exitTo id (.inScope c::k)=exitTo id k:=by simp [exitTo]
  exact⟨.exit id,a₁,w₁,hq,fun k' hk=>.head h0 b6y (harr.1 k' (by rw [hx];exact hk)),
   fun hr' hk=>let ⟨k₁,h1,h2⟩:=harr.2 hr' (by rw [hx];exact hk);⟨k₁,h1,.head h0 b6y h2⟩⟩
 | goto l=>exact hq.elim
 | ret=>exact⟨_,a₁,w₁,hq,.of_steps (.one h0 b6y) harr⟩
 | panic ch=>exact⟨_,a₁,w₁,hq,.of_steps (.one h0 b6y) harr⟩
 | outgrown=>exact⟨_,a₁,w₁,hq,.of_steps (.one h0 b6y) harr⟩
end
noncomputable section
def notX(e:X):X:=match e with
 | .ap .not [y]=>y
 | e=>.ap .not [e]
def force{α:Type}(x:Nat)(f:Nat→α):α:=Nat.rec (motive:=fun _=>α) (f 0) (fun n _=>f (Nat.succ n)) x
theorem force_eq{α:Type}(x:Nat)(f:Nat→α):force x f=f x:=by cases x<;>rfl
def c8h(H:HP):HP:=force H.n fun n=>force H.lo fun lo=>force H.nv fun nv=>⟨H.t,n,lo,H.hy,nv⟩
theorem cue(H:HP):c8h H=H:=by
 unfold c8h
 rw [force_eq,force_eq,force_eq]
def regA(P:Program)[Plain P](ora:OraM)(orv:OraV)(n:Nat)(ops:Array Oper)(draw:Bool)(F:Fm)(H:HP):Option (List VC×List (Fm×HP)) :=
 match draw with
 | true=>match cx9 P ora.one n ops.toList F H with
  | some x=>some ([],[x])
  | none=>none
 | false=>seqV P ora orv n ops.toList ops.toList F H
def unkX(hy:List X)(v:Option AV):Option X :=
 match v with
 | some (.one (.sv .bool _ e))=>match known hy e with
  | none=>some e
  | some _=>none
 | _=>none
def deb(H:HP)(F:Fm)(ops:List Oper)(g:Option (Nat×Bool)):Option X :=
 match g with
 | some (j,_)=>match(ops[j]?).bind (·.dst) with
  | some t=>unkX H.hy (F.get t)
  | none=>none
 | none=>none
def dee(H:HP)(F:Fm)(op:Op):Option X :=
 match op with
 | .pick c _ _=>unkX H.hy (evF F c)
 | .lookup _ x i _=>ded (evF F) H x i
 | _=>none
def cyn(P:Program)[Plain P](ora:OraM)(orv:OraV)(n:Nat)(ops:List Oper):List Oper→Fm→HP→Option X
 | [],_,_=>none
 | o::rest,F,H =>
  match deb H F ops o.guard with
  | some e=>some e
  | none=>match cjb H.hy ops F o.guard with
   | some true=>match dee H F o.op with
    | some e=>some e
    | none=>match opV P orv (evF F) H o.op with
     | some (_,(v,H')::_)=>match putF n F o.dst v with
      | some F'=>cyn P ora orv n ops rest F' H'
      | none=>none
     | _=>match stepM P ora (evF F) H o.op with
      | some ((v,H')::_)=>match putF n F o.dst v with
       | some F'=>cyn P ora orv n ops rest F' H'
       | none=>none
      | _=>none
   | some false=>match putF n F o.dst b5a with
    | some F'=>cyn P ora orv n ops rest F' H
    | none=>none
   | none=>none
def regS(P:Program)[Plain P](ora:OraM)(orv:OraV)(n:Nat)(ops:Array Oper)(draw:Bool)(k:Nat):Fm→HP→Option (List VC×List (Fm×HP)) :=
 Nat.rec (motive:=fun _=>Fm→HP→Option (List VC×List (Fm×HP))) (fun F H=>regA P ora orv n ops draw F H)
  (fun _ ih F H=>match regA P ora orv n ops draw F H with
   | some l=>some l
   | none=>match cyn P ora orv n ops.toList ops.toList F H with
    | some e=>match ih F (H.learn e),ih F (H.learn (notX e)) with
     | some (a,b),some (c,d)=>some (a++c,b++d)
     | _,_=>none
    | none=>none) k
structure LH where
 head:Fm→HP→Option (Fm×HP×Mp)
 back:Fm→HP→Fm→HP→Option Mp
 ms:Fm→HP→X
def cjp(hy:List X)(x:X)(r:List VC):List VC :=
 match known hy x with
 | some true=>r
 | _=>(hy,x)::r
def crd(m:Mp)(hy1:List X):List X→List VC
 | []=>[]
 | x::r=>cjp hy1 (m.x x) (crd m hy1 r)
def Mp.ok(m:Mp)(ne nv:Nat):Bool:=Nat.beq m.ne ne&&Nat.beq m.nv nv
def cvg(h:LH)(ne nv:Nat)(F2:Fm)(H2:HP)(ms:X)(F1:Fm)(H1:HP):Option (List VC) :=
 match h.back F2 H2 F1 H1 with
 | some m=>match m.ok ne nv&&clx m F2 H2 F1 H1 with
  | true=>some (cjp H1.hy (.ap .le [coc,m.x ms]) (cjp H1.hy (.ap .lt [m.x ms,ms]) (crd m H1.hy H2.hy)))
  | false=>none
 | none=>none
def cbw(h:LH)(ne nv:Nat)(F2:Fm)(H2:HP)(ms:X):List Oc→Option (List VC×List Oc)
 | []=>some ([],[])
 | (.nrm,F1,H1)::r=>match cvg h ne nv F2 H2 ms F1 H1,cbw h ne nv F2 H2 ms r with
  | some a,some (b,l)=>some (a++b,l)
  | _,_=>none
 | x::r=>match cbw h ne nv F2 H2 ms r with
  | some (b,l)=>some (b,x::l)
  | none=>none
def c3z(h:LH)(body:Fm→HP→RO)(F:Fm)(H:HP):RO :=
 match h.head F H with
 | some (F2,H2,m)=>match m.ok H.n H.nv&&(Nat.ble H.nv H2.nv&&(Nat.beq H2.lo 0&&(b7n H2.nv (h.ms F2 H2)&&clx m F2 H2 F H))) with
  | true=>match body F2 H2 with
   | some (v1,outs)=>match cbw h H.n H.nv F2 H2 (h.ms F2 H2) outs with
    | some (v2,l)=>some (crd m H.hy H2.hy++(v1++v2),l)
    | none=>none
   | none=>none
  | false=>none
 | none=>none
structure Hs where
 lh:Nat→Option LH
 as:Nat→Fm→HP→List X
def asV(hy:List X):List X→List VC
 | []=>[]
 | x::r=>cjp hy x (asV hy r)
def regI(f:Fm→HP→Option (List VC×List (Fm×HP)))(xs:List X)(nrm:Fm×HP→Oc)(F:Fm)(H:HP):RO :=
 match f (frzL xs F H).1 ((frzL xs F H).2.learns (noFz xs)) with
 | some (v,l)=>some (asV H.hy (noFz xs)++v,l.map nrm)
 | none=>none
def cxw(f:Oc→RO):List Oc→RO
 | []=>some ([],[])
 | [x]=>f x
 | x::y::r=>match f x,cxw f (y::r) with
  | some (a,b),some (c,d)=>some (a++c,b++d)
  | _,_=>none
def da4(k:Fm→HP→RO)(x:Oc):RO :=
 match x.1 with
 | .nrm=>k x.2.1 x.2.2
 | _=>some ([],[x])
def seqO(x:RO)(k:Fm→HP→RO):RO :=
 match x with
 | some (v,l)=>match cxw (da4 k) l with
  | some (v',l')=>some (v++v',l')
  | none=>none
 | none=>none
def da1(x y:RO):RO :=
 match x,y with
 | some (a,b),some (c,d)=>some (a++c,b++d)
 | _,_=>none
def c7j(v:Option AV)(F:Fm)(H:HP)(x y:Fm→HP→RO):RO :=
 match v with
 | some (.one (.lit (.bool true)))=>x F H
 | some (.one (.lit (.bool false)))=>y F H
 | some (.one (.sv .bool _ e))=>match known H.hy e with
  | some true=>x F H
  | some false=>y F H
  | none=>da1 (x F (H.learn e)) (y F (H.learn (notX e)))
 | _=>none
def cfr(id:Nat)(x:Oc):Oc :=
 match x.1 with
 | .ext id'=>match Nat.beq id' id with
  | true=>(.nrm,x.2)
  | false=>x
 | _=>x
def cxx(id:Nat)(x:RO):RO :=
 match x with
 | some (v,l)=>some (v,l.map (cfr id))
 | none=>none
def c33(step:Fm→HP→RO)(fuel:Nat):Fm→HP→RO :=
 Nat.rec (motive:=fun _=>Fm→HP→RO) (fun _ _=>none) (fun _ ih F H=>seqO (step F H) ih) fuel
def cpd(c:Code):Option Nat :=
 Code.rec (motive:=fun _=>Option Nat) none (fun id _ _=>some id) (fun _ _ x y=>match x with | some i=>some i | none=>y)
  (fun _ _ _ x y=>match x with | some i=>some i | none=>y) (fun _ _ x=>x) (fun _ x=>x) (fun _ _ _ _ x y=>match x with | some i=>some i | none=>y) (fun _=>none)
  (fun _ x=>x) (fun _=>none) (fun _=>none) none (fun _=>none) c
def nrmO(x:Fm×HP):Oc:=(.nrm,x.1,c8h x.2)
def chh(F:Fm)(b:Nat)(o:AV×HP):Option Oc :=
 match b80 o.2 b with
 | some l=>match l.st with
  | .busy=>none
  | _=>match l.pend with
   | none=>some (.nrm,F,(o.2.obj b (LoopC.ct { l with st:=.exhausted })).drop b)
   | some .ret=>some (.rt,F,(o.2.obj b (LoopC.ct { l with st:=.exhausted })).drop b)
   | some (.exit id)=>some (.ext id,F,(o.2.obj b (LoopC.ct { l with st:=.exhausted })).drop b)
   | _=>none
 | none=>none
def cnr(orv:OraV)(ent:FuncId→Bool)(n k:Nat)(F:Fm)(H:HP)(g:FuncId)(caps:List AV):RO :=
 match ent g&&cah H.nv F with
 | true=>match orv (.f g) (.one (.yd H.n)::caps) (H.push (.lf [some (.loop .ready none n F k)])) with
  | some (v,outs)=>match b50 (outs.map (chh F H.n)) with
   | some l=>some (v,l)
   | none=>none
  | none=>none
 | false=>none
def c0n(orv:OraV)(ent:FuncId→Bool)(n:Nat)(rb:Option Nat)(k:Nat)(f:Operand)(F:Fm)(H:HP):RO :=
 match cfq H rb,evF F f with
 | true,some (.one (.lit (.func (.func g) a b)))=>if a.size=0∧b.size=0 then cnr orv ent n k F H g [] else none
 | true,some (.one (.fn (.func g) caps))=>cnr orv ent n k F H g (ptrs caps)
 | _,_=>none
structure Cx where
 ora:OraM
 orv:OraV
 ent:FuncId→Bool
 fuel:Nat
 fk:Nat
 rb:Option Nat
 rk:Nat→Nat
def ca9(P:Program)[Plain P](x:Cx)(n:Nat)(hs:Hs)(c:Code):Fm→HP→RO :=
 Code.rec (motive:=fun _=>Fm→HP→RO)
  (fun F H=>some ([],[(.nrm,F,H)]))
  (fun id ops draw F H=>regI (regS P x.ora x.orv n ops draw x.fk) (hs.as id F H) nrmO F H)
  (fun _ _ x y F H=>seqO (x F H) y)
  (fun c _ _ x y F H=>c7j (evF F c) F H x y)
  (fun id _ x F H=>cxx id (x F H))
  (fun body y F H=>match cpd body with
   | some id=>match hs.lh id with
    | some h=>c3z h y F H
    | none=>c33 y x.fuel F H
   | none=>none)
  (fun f _ _ b _ _ F H=>match cpd b with
   | some id=>c0n x.orv x.ent n x.rb (x.rk id) f F H
   | none=>none)
  (fun id F H=>some ([],[(.ext id,F,H)]))
  (fun _ x F H=>x F H)
  (fun _ F H=>some ([],[(.nrm,F,H)]))
  (fun _ _ _=>none)
  (fun F H=>some ([],[(.rt,F,H)]))
  (fun _ _ _=>none) c
end
noncomputable def b6p:Code→List (Nat×LCd)
 | .seq a b=>b6p a++b6p b
 | .cond _ a b=>b6p a++b6p b
 | .block _ b=>b6p b
 | .loop b=>b6p b
 | .rangeFunc _ ps a b=>match cpd b with
  | some id=>[(id,⟨ps,a,b⟩)]
  | none=>[]
 | .scope b=>b6p b
 | _=>[]
def cy9:List (Nat×LCd)→Nat→LCd
 | [],_=>⟨#[],.skip,.skip⟩
 | x::r,k=>match Nat.beq k x.1 with
  | true=>x.2
  | false=>cy9 r k
def c2w:List (Nat×LCd)→Bool
 | []=>true
 | x::r=>(r.all fun y=>!Nat.beq y.1 x.1)&&c2w r
theorem ct9:∀ {l:List (Nat×LCd)},c2w l=true→∀ x∈l,cy9 l x.1=x.2
 | [],_,x,hx=>by cases hx
 | y::r,h,x,hx=>by
  simp only [c2w,Bool.and_eq_true] at h
  rcases List.mem_cons.1 hx with rfl | hx
  ·unfold cy9
   rw [Nat.beq_refl]
  ·have h1:=List.all_eq_true.1 h.1 x hx
   unfold cy9
   rw [show Nat.beq x.1 y.1=false by simpa using h1]
   exact ct9 h.2 x hx
def b5v(lc:Nat→LCd)(rk:Nat→Nat)(c:Code):Prop:=∀ x∈b6p c,lc (rk x.1)=x.2
def b5d:Code→Bool
 | .region _ ops draw=>!draw||b90 ops.toList
 | .seq a b=>b5d a&&b5d b
 | .cond _ a b=>b5d a&&b5d b
 | .block _ b=>b5d b
 | .loop b=>b5d b
 | .rangeFunc _ _ a b=>b5d a&&b5d b
 | .scope b=>b5d b
 | _=>true
theorem RR.mono'{ρ ρ':PM}(h:PM.le ρ ρ'):∀ {rb r:Option Nat},RR ρ rb r→RR ρ' rb r
 | none,none,_=>trivial
 | some _,some _,⟨L,h1,h2⟩=>⟨L,h _ _ h1,h2⟩
 | none,some _,hh=>hh.elim
 | some _,none,hh=>hh.elim
end Go.Sx

namespace Go.Sx
structure CodeOK (σ:Sg) (P:Program) (n m:Nat) (rb r:Option Nat) (c:Code) (F:Fm) (H:HP) (Z:Oc→Prop):Prop where
 st:∀ x,Z x→Sc H x.2.2
 wp:∀ {Q:Exit→Act→World→Prop} {ρ:PM} {a:Act} {w:World} {m0:Nat},@SRel σ n ρ F H a w→RR ρ rb r→m0≤w.heap.size→DfOK ρ H w m0 a.defers →
  (∀ σ',Ext H.nv σ σ'→∀ x,Z x→∀ ρ' a' w',@SRel σ' n ρ' x.2.1 x.2.2 a' w'→DfOK ρ' x.2.2 w' m0 a'.defers→SimF ρ H w ρ' x.2.2 w'→Q x.1.out a' w')→c.wpIn (WF r) m P Q a w
theorem DfOK.cn4[Sg]{ρ ρ':PM}{H H':HP}{w w':World}{m:Nat}(hd:Dom ρ H.n)(s:SimF ρ H w ρ' H' w'):∀ {ds:List Deferred},DfOK ρ H w m ds→DfOK ρ' H' w' m ds
 | [],_=>trivial
 | d::ds,⟨⟨D,h1,hm,h2,h3,h7⟩,h⟩=>by
  have hlt:=(Array.getElem?_eq_some_iff.1 h2).1
  refine⟨⟨D,h1,hm,by rw [s.fr D hlt h3.1];exact h2,⟨fun b L hk hL he=>?_,fun g L M o hg hM ho=>?_⟩,h7⟩,DfOK.cn4 hd s h⟩
  ·cases hb:ρ b with
   | some L0 =>
    have:=s.le b L0 hb
    rw [hL] at this
    cases this
    exact h3.1 b L (s.kn (hd.lt hb) hk) hb he
   | none =>
    rcases s.new b L hb hL with h4 | ⟨b0,L0,h4,h5,h6⟩
    ·omega
    ·exact h3.1 b0 L0 h4 h5 (h6.trans he)
  ·cases hb:ρ g with
   | some L0 =>
    have:=s.le g L0 hb
    rw [hg] at this
    cases this
    exact h3.2 g L M o hb hM ho
   | none =>
    rcases(s.ro g L M D o hb hg hM ho).1 with h4 | ⟨b0,L0,h4,h5,h6⟩
    ·omega
    ·exact h3.1 b0 L0 h4 h5 h6
theorem DfOK.view{ρ ρ':PM}{H H':HP}{w:World}{m:Nat}(hk:∀ b L,H'.Kn b→ρ' b=some L→∃ b1 L1,H.Kn b1∧ρ b1=some L1∧L1.B=L.B)(hg:∀ g L M k o,ρ' g=some L→L.M=some M→M k o→∃ g1 L1 M1,ρ g1=some L1∧L1.M=some M1∧M1 k o):∀ {ds:List Deferred},DfOK ρ H w m ds→DfOK ρ' H' w m ds
 | [],_=>trivial
 | d::ds,⟨⟨D,h1,hm,h2,h3,h7⟩,h⟩=>⟨⟨D,h1,hm,h2,⟨fun b L hb hL he=>by
   obtain⟨b1,L1,g1,g2,g3⟩:=hk b L hb hL
   exact h3.1 b1 L1 g1 g2 (g3.trans he),fun g L M o h4 h5 h6=>by
   obtain⟨g1,L1,M1,k1,k2,k3⟩:=hg g L M D o h4 h5 h6
   exact h3.2 g1 L1 M1 o k1 k2 k3⟩,h7⟩,DfOK.view hk hg h⟩
theorem DfOK.learn{ρ:PM}{H:HP}{e:X}{w:World}{m:Nat}{ds:List Deferred}(h:DfOK ρ H w m ds):DfOK ρ (H.learn e) w m ds :=
 DfOK.view (H:=H) (H':=H.learn e) (ρ:=ρ) (ρ':=ρ) (fun b L hb hL=>⟨b,L,hb,hL,rfl⟩) (fun g L M k o h1 h2 h3=>⟨g,L,M,h1,h2,h3⟩) h
section
variable [Sg] {ρ ρ':PM} {H H':HP} {w w':World} {n:Nat} {F:Fm} {a:Act} {e:X}
theorem SRel.learn(s:SRel n ρ F H a w)(h:Tru e):SRel n ρ F (H.learn e) a w :=
 ⟨s.fr,⟨s.hp.rel,s.hp.inj,fun x hx=>by
  rcases List.mem_cons.1 hx with rfl | hx
  ·exact h
  ·exact s.hp.hy x hx⟩,s.dom,s.j⟩
theorem SRel.unlearn(s:SRel n ρ F (H.learn e) a w):SRel n ρ F H a w :=
 ⟨s.fr,⟨s.hp.rel,s.hp.inj,fun x hx=>s.hp.hy x (List.mem_cons_of_mem _ hx)⟩,s.dom,s.j⟩
theorem SimF.unlearn(s:SimF ρ (H.learn e) w ρ' H' w'):SimF ρ H w ρ' H' w' :=
 ⟨s.le,s.grow,s.dom,s.knc,s.fr,s.new,s.size,s.os,s.tape,s.output,s.old,s.jj,s.ro⟩
theorem dab(h:(den e).bv=false):Tru (notX e):=by
 unfold notX
 split
 ·rename_i y
  have h':(!(den y).bv)=false:=h
  show(den y).bv=true
  simpa using h'
 ·show(!(den e).bv)=true
  rw [h];rfl
theorem c7s(h:(den e).bv=true):(den (notX e)).bv=false:=by
 unfold notX
 split
 ·rename_i y
  have h':(!(den y).bv)=true:=h
  simpa using h'
 ·show(!(den e).bv)=false
  rw [h];rfl
theorem SimF.refl(s:SRel n ρ F H a w):SimF ρ H w ρ H w:=(Sim.refl s.hp s.dom).f
end
theorem Sc.unlearn{H H':HP}{e:X}(h:Sc (H.learn e) H'):Sc H H':=h
theorem Ext.unlearn{H:HP}{e:X}{σ σ':Sg}(h:Ext (H.learn e).nv σ σ'):Ext H.nv σ σ':=h
section
variable {P:Program} {n m:Nat} {rb r:Option Nat} {F:Fm} {H:HP} {Z:Oc→Prop} {σ:Sg}
theorem CodeOK.weaken{c:Code}{Z':Oc→Prop}(h:CodeOK σ P n m rb r c F H Z)(hz:∀ x,Z x→Z' x)(hst:∀ x,Z' x→Sc H x.2.2):CodeOK σ P n m rb r c F H Z' :=
 ⟨hst,fun s hr hm df hq=>h.wp s hr hm df fun σ' he x hx=>hq σ' he x (hz x hx)⟩
theorem CodeOK.fork{c:Code}{e:X}{Z1 Z2:Oc→Prop}(h1:CodeOK σ P n m rb r c F (H.learn e) Z1)(h2:CodeOK σ P n m rb r c F (H.learn (notX e)) Z2):CodeOK σ P n m rb r c F H (fun x=>Z1 x∨Z2 x):=by
 refine⟨fun x hx=>hx.elim (fun h=>(h1.st x h).unlearn) fun h=>(h2.st x h).unlearn,fun {Q ρ a w m0} s hr hm df hq=>?_⟩
 cases hb:(@den σ e).bv with
 | true=>exact h1.wp (@SRel.learn σ _ _ _ _ _ _ _ s hb) hr hm (DfOK.learn df) fun σ' he x hx ρ' a' w' s' d' hs=>hq σ' he x (.inl hx) ρ' a' w' s' d' (@SimF.unlearn σ _ _ _ _ _ _ _ hs)
 | false=>exact h2.wp (@SRel.learn σ _ _ _ _ _ _ _ s (@dab σ _ hb)) hr hm (DfOK.learn df) fun σ' he x hx ρ' a' w' s' d' hs=>hq σ' he x (.inr hx) ρ' a' w' s' d' (@SimF.unlearn σ _ _ _ _ _ _ _ hs)
end
theorem cju{f:Oc→RO}:∀ {xs:List Oc} {v:List VC} {ys:List Oc},cxw f xs=some (v,ys)→(∀ x∈xs,∃ v1 zs,f x=some (v1,zs)∧(∀ z∈zs,z∈ys)∧∀ z∈v1,z∈v)∧∀ y∈ys,∃ x∈xs,∃ v1 zs,f x=some (v1,zs)∧y∈zs
 | [],v,ys,h=>by
  cases h
  exact⟨fun x hx=>(by cases hx),fun x hx=>(by cases hx)⟩
 | [x],v,ys,h=>by
  have h':f x=some (v,ys):=h
  exact⟨fun y hy=>by rw [List.mem_singleton.1 hy];exact⟨v,ys,h',fun z hz=>hz,fun z hz=>hz⟩,fun y hy=>⟨x,by simp,v,ys,h',hy⟩⟩
 | x::y::r,v,ys,h=>by
  simp only [cxw] at h
  cases h1:f x with
  | none=>rw [h1] at h;cases h
  | some a =>
   cases h2:cxw f (y::r) with
   | none=>rw [h1,h2] at h;cases h
   | some b =>
    obtain⟨a1,a2⟩:=a
    obtain⟨b1,b2⟩:=b
    rw [h1,h2] at h
    cases h
    obtain⟨k1,k2⟩:=cju h2
    refine⟨fun z hz=>?_,fun z hz=>?_⟩
    ·rcases List.mem_cons.1 hz with rfl | hz
     ·exact⟨a1,a2,h1,fun z hz=>List.mem_append_left _ hz,fun z hz=>List.mem_append_left _ hz⟩
     ·obtain⟨v1,zs,g1,g2,g3⟩:=k1 z hz
      exact⟨v1,zs,g1,fun u hu=>List.mem_append_right _ (g2 u hu),fun u hu=>List.mem_append_right _ (g3 u hu)⟩
    ·rcases List.mem_append.1 hz with hz | hz
     ·exact⟨x,List.mem_cons_self ..,a1,a2,h1,hz⟩
     ·obtain⟨x',g1,g2⟩:=k2 z hz
      exact⟨x',List.mem_cons_of_mem _ g1,g2⟩
theorem cqv{x:RO}{k:Fm→HP→RO}{v:List VC}{l:List Oc}(h:seqO x k=some (v,l)):∃ v1 l1,x=some (v1,l1)∧(∀ z∈v1,z∈v)∧(∀ F1 H1,(Ex.nrm,F1,H1)∈l1→∃ v2 l2,k F1 H1=some (v2,l2)∧(∀ z∈l2,z∈l)∧∀ z∈v2,z∈v)∧(∀ z∈l1,z.1≠.nrm→z∈l) ∧
  ∀ z∈l,(∃ F1 H1 v2 l2,(Ex.nrm,F1,H1)∈l1∧k F1 H1=some (v2,l2)∧z∈l2)∨z∈l1:=by
 unfold seqO at h
 split at h
 ·rename_i v1 l1
  split at h
  ·rename_i v2 l2 hb
   cases h
   obtain⟨h1,h2⟩:=cju hb
   refine⟨v1,l1,rfl,fun z hz=>List.mem_append_left _ hz,fun F1 H1 hm=>?_,fun z hz hne=>?_,fun z hz=>?_⟩
   ·obtain⟨w1,zs,h3,h4,h5⟩:=h1 _ hm
    exact⟨w1,zs,h3,h4,fun z hz=>List.mem_append_right _ (h5 z hz)⟩
   ·obtain⟨w1,zs,h3,h4,_⟩:=h1 z hz
    have:da4 k z=some ([],[z]):=by
     obtain⟨e,F1,H1⟩:=z
     cases e<;>first | rfl | exact absurd rfl hne
    rw [this] at h3
    cases h3
    exact h4 z (List.mem_singleton.2 rfl)
   ·obtain⟨x,hx,w1,zs,h3,h4⟩:=h2 z hz
    obtain⟨e,F1,H1⟩:=x
    cases e with
    | nrm=>exact .inl ⟨F1,H1,w1,zs,hx,h3,h4⟩
    | ext id =>
     cases (show some (([]:List VC),[(Ex.ext id,F1,H1)])=some (w1,zs) from h3)
     rw [List.mem_singleton.1 h4]
     exact .inr hx
    | rt =>
     cases (show some (([]:List VC),[(Ex.rt,F1,H1)])=some (w1,zs) from h3)
     rw [List.mem_singleton.1 h4]
     exact .inr hx
  ·cases h
 ·cases h
section
variable {P:Program} [Plain P] {ora:OraM} {orv:OraV} {n m:Nat} {rb r:Option Nat} {U:Us}
theorem c0o(hm:P.follows .mixedOrders=true)(hora:cb4 U P ora)(horv:b9q U P orv)(σ:Sg)(hU:σ.toUs=U){id:Nat}{ops:Array Oper}{draw:Bool}(hf:(!draw||b90 ops.toList)=true){F:Fm}{H:HP}{v:List VC}{l:List (Fm×HP)}(h:regA P ora orv n ops draw F H=some (v,l))(hv:∀ z∈v,VCok U z) :
  CodeOK σ P n m rb r (.region id ops draw) F H (fun z=>∃ x∈l,z=nrmO x):=by
 have ho:=hora σ hU
 have hn:∀ x:Fm×HP,(nrmO x).2.2=x.2:=fun x=>cue x.2
 have hst:∀ x∈l,Sc H x.2:=by
  cases draw with
  | true =>
   simp only [regA] at h
   split at h
   ·rename_i x hx
    cases h
    intro y hy
    rw [List.mem_singleton.1 hy]
    obtain⟨F',H'⟩:=x
    exact(c2x ho.one.st (by simpa using hf) hx).sc
   ·cases h
  | false=>exact cny horv hora σ hU _ h hv
 refine⟨fun z ⟨x,hx,e⟩=>by rw [e,hn];exact hst x hx,fun {Q ρ a w m0} s _ _ df hq=>?_⟩
 have fin:∀ σ',Ext H.nv σ σ'→∀ (x:Fm×HP),x∈l→∀ ρ' a' w',@SRel σ' n ρ' x.1 x.2 a' w'→a'.defers=a.defers→SimF ρ H w ρ' x.2 w'→Q .normal a' w':=fun σ' he x hx ρ' a' w' s' hd' hs'=>by
  have e:(nrmO x)=(Ex.nrm,x.1,x.2):=by unfold nrmO;rw [cue]
  have:=hq σ' he (nrmO x) ⟨x,hx,rfl⟩ ρ' a' w'
  rw [e] at this
  exact this s' (by rw [hd'];exact DfOK.cn4 (@SRel.dom σ _ _ _ _ _ _ s) hs' df) hs'
 obtain⟨ol⟩:=ops
 cases draw with
 | true =>
  simp only [regA] at h
  split at h
  ·rename_i x hx
   obtain⟨F',H'⟩:=x
   cases h
   exact c5t hm ho.one (by simpa using hf) hx s fun ρ' a' w' s' hd' hs'=>fin σ (Ext.refl _ _) (F',H') (List.mem_singleton.2 rfl) ρ' a' w' s' hd' (@Sim.f σ _ _ _ _ _ _ hs')
  ·cases h
 | false=>exact dad horv hora σ hU h hv s fun σ' he x hx ρ' a' w' s' hd' hs'=>fin σ' he x hx ρ' a' w' s' hd' hs'
theorem csi(hm:P.follows .mixedOrders=true)(hora:cb4 U P ora)(horv:b9q U P orv)(σ:Sg)(hU:σ.toUs=U){id:Nat}{ops:Array Oper}{draw:Bool}(hf:(!draw||b90 ops.toList)=true):∀ (k:Nat) {F:Fm} {H:HP} {v:List VC} {l:List (Fm×HP)},regS P ora orv n ops draw k F H=some (v,l)→(∀ z∈v,VCok U z) →
  CodeOK σ P n m rb r (.region id ops draw) F H (fun z=>∃ x∈l,z=nrmO x)
 | 0,F,H,v,l,h,hv=>c0o hm hora horv σ hU hf h hv
 | k+1,F,H,v,l,h,hv=>by
  have h':(match regA P ora orv n ops draw F H with
   | some l=>some l
   | none=>match cyn P ora orv n ops.toList ops.toList F H with
    | some e=>match regS P ora orv n ops draw k F (H.learn e),regS P ora orv n ops draw k F (H.learn (notX e)) with
     | some (a,b),some (c,d)=>some (a++c,b++d)
     | _,_=>none
    | none=>none)=some (v,l):=h
  split at h'
  ·rename_i l1 h1
   cases h'
   exact c0o hm hora horv σ hU hf h1 hv
  ·split at h'
   ·rename_i e he
    split at h'
    ·rename_i a b c d ha hb
     cases h'
     have k1:=csi (id:=id) hm hora horv σ hU hf k ha (fun z hz=>hv z (List.mem_append_left _ hz))
     have k2:=csi (id:=id) hm hora horv σ hU hf k hb (fun z hz=>hv z (List.mem_append_right _ hz))
     have k3:=CodeOK.fork k1 k2
     refine k3.weaken (fun z hz=>?_) fun z ⟨x,hx,e⟩=>?_
     ·rcases hz with ⟨x,hx,e⟩ | ⟨x,hx,e⟩
      ·exact⟨x,List.mem_append_left _ hx,e⟩
      ·exact⟨x,List.mem_append_right _ hx,e⟩
     ·refine k3.st z ?_
      rcases List.mem_append.1 hx with hx | hx
      ·exact .inl ⟨x,hx,e⟩
      ·exact .inr ⟨x,hx,e⟩
    ·cases h'
   ·cases h'
end
end Go.Sx
