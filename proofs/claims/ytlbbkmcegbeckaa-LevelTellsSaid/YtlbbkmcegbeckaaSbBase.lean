/-
  A seat's functions, for the symbolic executor. Conditions: none.
-/
import Derived.Test.YtlbbkmcegbeckaaSyH
import Derived.Laws.Externs
import Derived.KernelRfl
import Derived.RowKit3
import Derived.Test.YtlbbkmcegbeckaaRows
set_option linter.unusedSimpArgs false
set_option linter.unusedSectionVars false
set_option linter.unusedVariables false
namespace Go.Sx
noncomputable section
def mkC(s:Srt)(G:List Nat)(e:X):Cel :=
 match e with
 | .lit (.int k z)=>match s with
  | .int k'=>if k'=k then .lit (.int k z) else .sv s G e
  | _=>.sv s G e
 | .lit (.bool b)=>match s with
  | .bool=>.lit (.bool b)
  | _=>.sv s G e
 | _=>match s with
  | .sl w=>.sv (.sl w) G e
  | s=>.sv s [] e
def mkCs:List Srt→List Nat→List X→Option (List Cel)
 | [],_,[]=>some []
 | s::ss,G,e::es=>match mkCs ss G es with
  | some r=>some (mkC s G e::r)
  | none=>none
 | _,_,_=>none
def mkP:List Shp→List Nat→List (List X)→Option (List (Bool×List Cel))
 | [],_,[]=>some []
 | p::ps,G,e::es=>match mkCs p.2 G e,mkP ps G es with
  | some c,some r=>match p.1 with
   | true=>some ((true,c)::r)
   | false=>match c with
    | [x]=>some ((false,[x])::r)
    | _=>none
  | _,_=>none
 | _,_,_=>none
def csl:List (Bool×List Cel)→AV
 | [(true,xs)]=>.agg xs
 | [(false,[c])]=>.one c
 | rs=>.tup rs
def catL:List (List X)→List X
 | []=>[]
 | l::r=>l++catL r
def cfv(hy:List X)(l:List X):List X→Bool
 | []=>true
 | p::r=>match known hy (subX 0 l p) with
  | some true=>cfv hy l r
  | _=>false
def cfk(l:List X):List (List X)→List (List X)
 | []=>[]
 | e::r=>cc4 0 l e::cfk l r
def typF(s:Srt)(e:X):List X :=
 match e with
 | .lit _=>[]
 | e=>match s with
  | .int k=>[.ap .le [.lit (.int k k.min),e],.ap .le [e,.lit (.int k k.max)]]
  | .bool=>[]
  | s=>[.ap (.typ s) [e]]
def typL:List Srt→List X→List X
 | s::ss,e::es=>typF s e++typL ss es
 | _,_=>[]
def typP:List Shp→List (List X)→List X
 | p::ps,e::es=>typL p.2 e++typP ps es
 | _,_=>[]
def outS(S:Fsp)(G:List Nat)(H:HP)(l:List X)(o:List X×List (List X)):Option (AV×HP) :=
 match mkP S.res (match S.fresh with | true=>[H.n] | false=>H.n::G) (cfk l o.2) with
 | some r=>some (csl r,(H.push (.lf [])).learns (typP S.res (cfk l o.2)++cc4 0 l o.1))
 | none=>none
def c4s(S:Fsp)(G:List Nat)(H:HP)(l:List X):List (List X×List (List X))→RM
 | []=>some []
 | o::r=>match outS S G H l o,c4s S G H l r with
  | some x,some y=>some (x::y)
  | _,_=>none
def da6:List Nat→Bool
 | []=>true
 | _::_=>false
def c3b:List Shp→List (List X)→Bool
 | [],[]=>true
 | p::ps,e::es=>Nat.beq p.2.length e.length&&c3b ps es
 | _,_=>false
def cxn(S:Fsp)(args:List AV)(H:HP):RM :=
 match ce5 H S.args args with
 | some (es,G,O)=>match cfv H.hy (catL es) S.pre&&(S.fresh||da6 O)&&c3b S.args es with
  | true=>c4s S G H (catL es) S.outs
  | false=>none
 | none=>none
def b6d(T:FuncId→Option Fsp):OraM:=fun t args H =>
 match t with
 | .f f=>match T f with
  | some S=>cxn S args H
  | none=>none
 | .y _=>none
end
section
variable {P:Program} {H H':HP} {w w':World} {ρ:PM}
theorem cp7{S:Fsp}{G:List Nat}{l:List X}:∀ {os:List (List X×List (List X))} {xs:List (AV×HP)},c4s S G H l os=some xs→(∀ o∈os,∃ x∈xs,outS S G H l o=some x)∧∀ x∈xs,∃ o∈os,outS S G H l o=some x
 | [],xs,h=>by cases h;exact⟨fun o ho=>(by cases ho),fun o ho=>(by cases ho)⟩
 | o::os,xs,h=>by
  simp only [c4s] at h
  split at h
  ·rename_i x y hx hy
   cases h
   obtain⟨h1,h2⟩:=cp7 hy
   refine⟨fun q hq=>?_,fun q hq=>?_⟩
   ·rcases List.mem_cons.1 hq with rfl | hq
    ·exact⟨x,List.mem_cons_self ..,hx⟩
    ·obtain⟨z,h3,h4⟩:=h1 q hq
     exact⟨z,List.mem_cons_of_mem _ h3,h4⟩
   ·rcases List.mem_cons.1 hq with rfl | hq
    ·exact⟨o,List.mem_cons_self ..,hx⟩
    ·obtain⟨z,h3,h4⟩:=h2 q hq
     exact⟨z,List.mem_cons_of_mem _ h3,h4⟩
  ·cases h
section
variable [Sg]
theorem c1s{s:Srt}{e:X}{m:Mem}{u:Value}(h:RS m s (den e) u):Holds (typF s e):=by
 unfold typF
 split
 ·exact fun x hx=>by cases hx
 ·split
  ·rename_i k
   obtain⟨n,h1,h2,h3⟩:=h
   simp only [b4k,Bool.and_eq_true,decide_eq_true_eq] at h3
   intro x hx
   have hiv:(den e).iv=n:=by rw [h1];rfl
   rcases List.mem_cons.1 hx with rfl | hx
   ·show decide (k.min≤(den e).iv)=true
    rw [hiv];exact decide_eq_true h3.1
   ·rcases List.mem_cons.1 hx with rfl | hx
    ·show decide ((den e).iv≤k.max)=true
     rw [hiv];exact decide_eq_true h3.2
    ·cases hx
  ·exact fun x hx=>by cases hx
  ·rename_i s' _ _
   intro x hx
   rcases List.mem_cons.1 hx with rfl | hx
   ·show @decide (Typ s (den e)) (Classical.propDecidable _)=true
    exact @decide_eq_true _ (Classical.propDecidable _) ⟨m,u,h⟩
   ·cases hx
theorem b6e{a b:List X}(h:Holds a)(h':Holds b):Holds (a++b):=fun x hx=>(List.mem_append.1 hx).elim (h x) (h' x)
theorem c1t{m:Mem}:∀ {ss:List Srt} {es:List X} {f:Nat→Option Value},RSs m ss (denL es) f→Holds (typL ss es)
 | [],es,_,_=>by cases es<;>exact fun x hx=>(by cases hx)
 | s::ss,[],_,_=>fun x hx=>(by cases hx)
 | s::ss,e::es,f,h=>by
  obtain⟨c,r,u,h1,h2,h3,h4⟩:=h
  have h1:den e::denL es=c::r:=h1
  cases h1
  exact b6e (c1s h3) (c1t h4)
theorem cn8{m:Mem}:∀ {ps:List Shp} {es:List (List X)} {us:List Value},b8g m ps (es.map denL) us→Holds (typP ps es)
 | [],es,_,_=>by cases es<;>exact fun x hx=>(by cases hx)
 | p::ps,[],_,_=>fun x hx=>(by cases hx)
 | p::ps,e::es,[],h=>h.elim
 | p::ps,e::es,u::us,⟨h1,h2⟩=>by
  refine b6e ?_ (cn8 h2)
  obtain⟨b,ss⟩:=p
  cases b with
  | true =>
   obtain⟨az,_,_,h3⟩:=h1
   exact c1t h3
  | false =>
   match ss,e,h1 with
   | [s],[d],h1=>exact b6e (c1s (show RS m s (den d) u from h1)) (fun x hx=>(by cases hx))
   | [s],[],h1=>exact h1.elim
   | [s],_::_::_,h1=>exact h1.elim
   | [],_,h1=>exact h1.elim
   | _::_::_,_,h1=>exact h1.elim
theorem c8d{s:Srt}{G:List Nat}{e:X}{u:Value}(hG:LocG ρ G)(h:RS (ρ.at G) s (den e) u):CRel ρ (mkC s G e) u:=by
 have gen:CRel ρ (.sv s G e) u:=⟨hG,h⟩
 have bare:∀ s',s=s'→(∀ w,s'≠.sl w)→CRel ρ (.sv s' [] e) u:=fun s' hs hne=>by
  subst hs
  refine⟨fun g hg=>(by cases hg),?_⟩
  cases s with
  | int k=>exact h
  | bool=>exact h
  | str=>exact h
  | sl w=>exact absurd rfl (hne w)
 unfold mkC
 split
 ·rename_i k z
  split
  ·rename_i k'
   split
   ·rename_i hk
    subst hk
    obtain⟨n,h1,h2,h3⟩:=h
    have h1:CD.v (.int k' z)=.v (.int k' n):=h1
    cases h1
    exact⟨h2,h3⟩
   ·exact gen
  ·exact gen
 ·rename_i b
  split
  ·obtain⟨n,h1,h2⟩:=h
   have h1:CD.v (.bool b)=.v (.bool n):=h1
   cases h1
   exact⟨h2,rfl⟩
  ·exact gen
 ·split
  ·exact gen
  ·rename_i s' hne
   exact bare _ rfl hne
theorem cm2{G:List Nat}(hG:LocG ρ G):∀ {ss:List Srt} {es:List X} {cs:List Cel} {us:List Value},mkCs ss G es=some cs→us.length=ss.length→RSs (ρ.at G) ss (denL es) (fun j=>us[j]?)→All2 (CRel ρ) cs us
 | [],[],cs,us,h,hl,_=>by
  cases h
  have:us=[]:=List.length_eq_zero_iff.1 hl
  subst this
  trivial
 | s::ss,e::es,cs,[],h,hl,_=>by simp at hl
 | s::ss,e::es,cs,u::us,h,hl,hr=>by
  simp only [mkCs] at h
  split at h
  ·rename_i r hr'
   cases h
   obtain⟨c,r',u',h1,h2,h3,h4⟩:=hr
   have h1:den e::denL es=c::r':=h1
   cases h1
   have h2:some u=some u':=by simpa using h2
   cases h2
   exact⟨c8d hG h3,cm2 hG hr' (by simpa using hl) (h4.congr fun j _=>by simp)⟩
  ·cases h
 | [],_::_,_,_,h,_,_=>by cases h
 | _::_,[],_,_,h,_,_=>by cases h
theorem chk{G:List Nat}(hG:LocG ρ G):∀ {ps:List Shp} {es:List (List X)} {rs:List (Bool×List Cel)} {us:List Value},mkP ps G es=some rs→b8g (ρ.at G) ps (es.map denL) us→All2 (PRel ρ) rs us
 | [],[],rs,[],h,_=>by cases h;trivial
 | p::ps,e::es,rs,u::us,h,⟨h1,h2⟩=>by
  simp only [mkP] at h
  split at h
  ·rename_i c r hc hr
   obtain⟨b,ss⟩:=p
   cases b with
   | true =>
    cases h
    obtain⟨az,rfl,h3,h4⟩:=h1
    exact⟨⟨az,rfl,cm2 hG hc (by simpa using h3) (h4.congr fun j _=>by simp)⟩,chk hG hr h2⟩
   | false =>
    simp only at h
    split at h
    ·rename_i x
     cases h
     refine⟨?_,chk hG hr h2⟩
     match ss,e,h1,hc with
     | [s],[d],h1,hc =>
      have h1':RS (ρ.at G) s (den d) u:=h1
      have:=cm2 (us:=[u]) hG hc rfl ⟨den d,[],u,rfl,rfl,h1',rfl⟩
      exact this.1
     | [s],[],h1,_=>exact h1.elim
     | [s],_::_::_,h1,_=>exact h1.elim
     | [],_,h1,_=>exact h1.elim
     | _::_::_,_,h1,_=>exact h1.elim
    ·cases h
  ·cases h
 | [],[],_,_::_,_,h=>h.elim
 | [],_::_,_,_,h,_=>by cases h
 | _::_,[],_,_,h,_=>by cases h
 | _::_,_::_,_,[],_,h=>h.elim
theorem cqo{rs:List (Bool×List Cel)}{us:List Value}(h:All2 (PRel ρ) rs us):VRel ρ (csl rs) (oneOf us):=by
 have tup:∀ (rs:List (Bool×List Cel)) (us:List Value),All2 (PRel ρ) rs us→us.length≠1→VRel ρ (.tup rs) (oneOf us):=by
  intro rs us h hl
  unfold oneOf
  rw [dif_neg (by simpa using hl)]
  exact⟨us.toArray,rfl,by simpa using h⟩
 match rs,us,h with
 | [],[],h=>exact tup [] [] h (by simp)
 | [(true,xs)],[u],h=>exact h.1
 | [(false,[c])],[u],h=>exact h.1
 | [(false,[])],[u],h=>exact h.1.elim
 | [(false,_::_::_)],[u],h=>exact h.1.elim
 | p::q::rs,u::u'::us,h =>
  have e:csl (p::q::rs)=.tup (p::q::rs):=by
   obtain⟨b,l⟩:=p
   cases b
   ·cases l with
    | nil=>rfl
    | cons x l=>cases l<;>rfl
   ·rfl
  rw [e]
  exact tup _ _ h (by simp)
theorem Sim.call{M:Mem}{l:List X}(hH:HRel ρ H w)(hd:Dom ρ H.n)(hk:Keep w w')(hM:∀ k o,M k o→w.heap.size≤k∧w'.heap[k]? = some o∧Nice o)(hl:Holds l) :
  Sim ρ H w (upd ρ H.n ⟨w.heap.size,0,0,some M⟩) ((H.push (.lf [])).learns l) w':=by
 have hfr:=hd H.n (Nat.le_refl _)
 have hle:PM.le ρ (upd ρ H.n ⟨w.heap.size,0,0,some M⟩):=b8f hfr
 obtain⟨p1,p2,p3,p4⟩:=b91 (H.push (.lf [])) l
 have hcell:∀ b i,((H.push (.lf [])).learns l).cell b i=if b=H.n then none else H.cell b i:=by
  intro b i
  have:((H.push (.lf [])).learns l).cell b i=(H.push (.lf [])).cell b i:=by unfold HP.cell;rw [p1]
  rw [this,HP.cell_push]
  split<;>rfl
 have hkn:∀ b,((H.push (.lf [])).learns l).Kn b→b≠H.n∧H.Kn b:=by
  rintro b ⟨i,c,hc⟩
  rw [hcell] at hc
  split at hc
  ·cases hc
  ·rename_i hb;exact⟨hb,i,c,hc⟩
 have hlt:∀ b L,H.Kn b→ρ b=some L→L.B<w.heap.size:=fun b L ⟨i,c,hc⟩ hL=>(hH.rel b i c L hc hL).lt
 have hrel:HRel (upd ρ H.n ⟨w.heap.size,0,0,some M⟩) ((H.push (.lf [])).learns l) w':=by
  refine⟨fun b i c L hc hL=>?_,fun b b' L L' g1 g2 hL hL' he=>?_,?_⟩
  ·rw [hcell] at hc
   split at hc
   ·cases hc
   ·rename_i hb
    rw [upd_ne hb] at hL
    have:=hH.rel b i c L hc hL
    exact(this.mono hle).of_heap (hk.old _ this.lt)
  ·obtain⟨h1,h2⟩:=hkn b g1
   obtain⟨h3,h4⟩:=hkn b' g2
   rw [upd_ne h1] at hL
   rw [upd_ne h3] at hL'
   exact hH.inj b b' L L' h2 h4 hL hL' he
  ·have:∀ (l:List X),Holds l→Holds ((H.push (.lf [])).learns l).hy:=by
    intro l
    induction l with
    | nil=>exact fun _=>hH.hy
    | cons x l ih =>
     intro h y hy
     rcases List.mem_cons.1 hy with rfl | hy
     ·exact h _ (List.mem_cons_self ..)
     ·exact ih (fun z hz=>h z (List.mem_cons_of_mem _ hz)) y hy
   exact this l hl
 exact {
  le:=hle
  grow:=by rw [p2];exact Nat.le_succ _
  dom:=fun b hb=>by
   rw [p2] at hb
   have hb:H.n+1≤b:=hb
   rw [upd_ne (by omega)]
   exact hd b (by omega)
  rel:=hrel
  knc:=fun b i hb hc=>by
   rw [hcell]
   split
   ·rfl
   ·exact hc
  fr:=fun k hk' _=>hk.old k hk'
  new:=fun b L h1 h2=>by
   by_cases hb:b=H.n
   ·subst hb;rw [upd_same] at h2;cases h2;exact .inl (Nat.le_refl _)
   ·rw [upd_ne hb,h1] at h2;cases h2
  size:=hk.size
  os:=hk.os
  tape:=hk.tape
  output:=hk.output
  old:=fun b L h1 h2=>by
   by_cases hb:b=H.n
   ·exact Nat.le_of_eq hb.symm
   ·rw [upd_ne hb,h1] at h2;cases h2
  jj:=fun hj=>⟨fun x hx=>⟨hj.tw.keep hk.old x hx,fun b L' hb hL'=>by
   obtain⟨h3,h4⟩:=hkn b hb
   rw [upd_ne h3] at hL'
   exact(hj.1 x hx).2 b L' h4 hL'⟩,fun g L M' hg hM' k o ho=>by
   by_cases hb:g=H.n
   ·subst hb
    rw [upd_same] at hg
    cases hg
    cases hM'
    obtain⟨h1,h2,_⟩:=hM k o ho
    refine⟨h2,fun b L' hb' hL' he=>?_⟩
    obtain⟨h3,h4⟩:=hkn b hb'
    rw [upd_ne h3] at hL'
    have:=hlt b L' h4 hL'
    omega
   ·rw [upd_ne hb] at hg
    obtain⟨h1,h2⟩:=hj.2 g L M' hg hM' k o ho
    refine⟨by rw [hk.old k (Array.getElem?_eq_some_iff.1 h1).1];exact h1,fun b L' hb' hL'=>?_⟩
    obtain⟨h3,h4⟩:=hkn b hb'
    rw [upd_ne h3] at hL'
    exact h2 b L' h4 hL'⟩
  ro:=fun g L M' k o h1 h2 h3 h4=>by
   by_cases hb:g=H.n
   ·subst hb
    rw [upd_same] at h2
    cases h2
    cases h3
    exact⟨.inl (hM k o h4).1,(hM k o h4).2.2⟩
   ·rw [upd_ne hb,h1] at h2;cases h2 }
end
theorem cq3{l:List X}:∀ {r:List X} {x:X},x∈cc4 0 l r→∃ y∈r,x=subX 0 l y
 | [],x,h=>by cases (show x∈([]:List X) from h)
 | z::r,x,h=>by
  rcases List.mem_cons.1 (show x∈subX 0 l z::cc4 0 l r from h) with rfl | h
  ·exact⟨z,List.mem_cons_self ..,rfl⟩
  ·obtain⟨y,h1,h2⟩:=cq3 h
   exact⟨y,List.mem_cons_of_mem _ h1,h2⟩
theorem ceo(σ:Sg)(l:List X):∀ (es:List (List X)),(cfk l es).map (@denL σ)=es.map (@denL (σ.sub 0 l))
 | []=>rfl
 | e::r=>by
  show @denL σ (cc4 0 l e)::(cfk l r).map (@denL σ)=@denL (σ.sub 0 l) e::r.map (@denL (σ.sub 0 l))
  rw [cme,ceo σ l r]
theorem clh(σ':Sg):∀ (n k:Nat) (ds:List CD),ds.length=n→(∀ j,j<n→σ'.v (k+j)=ds.getD j default)→@denL σ' (cqn k n)=ds
 | 0,k,ds,hl,_=>by
  have:ds=[]:=List.length_eq_zero_iff.1 hl
  subst this
  rfl
 | n+1,k,[],hl,_=>by simp at hl
 | n+1,k,d::ds,hl,h=>by
  show σ'.v k::@denL σ' (cqn (k+1) n)=d::ds
  rw [clh σ' n (k+1) ds (by simpa using hl) (fun j hj=>by
   have:=h (j+1) (by omega)
   rw [show k+1+j=k+(j+1) by omega,this]
   rfl)]
  have:=h 0 (by omega)
  rw [show σ'.v k=d from this]
theorem ctm(σ:Sg):∀ (l:List X),(@denL σ l).length=l.length
 | []=>rfl
 | x::r=>by show(@denL σ r).length+1=r.length+1;rw [ctm σ r]
theorem ctj(σ:Sg):∀ (l:List X) (j:Nat),j<l.length→(@denL σ l).getD j default=@den σ (l.getD j default)
 | x::r,0,_=>rfl
 | x::r,j+1,h=>by
  show(@denL σ r).getD j default=_
  rw [ctj σ r j (by simpa using h)]
  rfl
theorem cvq(σ σ':Sg):∀ (ps:List Shp) (es:List (List X)) (k:Nat),c3b ps es=true→(∀ j,j<(catL es).length→σ'.v (k+j)=@den σ ((catL es).getD j default))→(cjo k ps).map (@denL σ')=es.map (@denL σ)
 | [],[],k,_,_=>rfl
 | p::ps,e::es,k,hl,h=>by
  simp only [c3b,Bool.and_eq_true] at hl
  have h1:=Nat.eq_of_beq_eq_true hl.1
  have hcat:catL (e::es)=e++catL es:=rfl
  rw [hcat] at h
  show @denL σ' (cqn k p.2.length)::(cjo (k+p.2.length) ps).map (@denL σ')=@denL σ e::es.map (@denL σ)
  rw [clh σ' p.2.length k (@denL σ e) (by rw [ctm,h1]) (fun j hj=>by
   rw [h j (by rw [List.length_append];omega),ctj σ e j (by omega)]
   congr 1
   rw [List.getD_eq_getElem?_getD,List.getD_eq_getElem?_getD,List.getElem?_append_left (by omega)])]
  rw [cvq σ σ' ps es (k+p.2.length) hl.2 (fun j hj=>by
   rw [show k+p.2.length+j=k+(e.length+j) by omega,h (e.length+j) (by rw [List.length_append];omega)]
   congr 1
   rw [List.getD_eq_getElem?_getD,List.getD_eq_getElem?_getD,List.getElem?_append_right (by omega)]
   congr 2
   omega)]
 | [],_::_,_,h,_=>by cases h
 | _::_,[],_,h,_=>by cases h
theorem cck{σ:Sg}{hy l:List X}(hh:@Holds σ hy):∀ {ps:List X},cfv hy l ps=true→@Holds (σ.sub 0 l) ps
 | [],_=>fun x hx=>(by cases hx)
 | p::r,h=>by
  unfold cfv at h
  split at h
  ·rename_i hk
   intro x hx
   rcases List.mem_cons.1 hx with rfl | hx
   ·show(@den (σ.sub 0 l) x).bv=true
    rw [← cdi]
    exact @b61 σ _ hh _ _ hk
   ·exact cck hh h x hx
  ·cases h
theorem cxo{U:Us}{f:FuncId}{S:Fsp}(hS:b3m U P f S){args:List AV}{outs:List (AV×HP)}(h:cxn S args H=some outs)(σ:Sg)(hU:σ.toUs=U) :
  (∀ o∈outs,Sc H o.2)∧∀ (ρ:PM) (w:World) (us:Array Value),All2 (@VRel σ ρ) args us.toList→@HRel σ ρ H w→Dom ρ H.n→J ρ H w→b4n P (@cv1 σ ρ H w outs) ((callFunc f us).run P w):=by
 unfold cxn at h
 split at h
 rotate_left
 ·cases h
 rename_i es G O hes
 split at h
 rotate_left
 ·cases h
 rename_i hok
 simp only [Bool.and_eq_true,Bool.or_eq_true] at hok
 obtain⟨⟨q1,q2⟩,q3⟩:=hok
 obtain⟨m1,m2⟩:=cp7 h
 refine⟨fun x hx=>?_,fun ρ w us hus hH hd hj=>?_⟩
 ·obtain⟨o,_,ho⟩:=m2 x hx
  unfold outS at ho
  split at ho
  ·cases ho
   obtain⟨p1,p2,p3,p4⟩:=b91 (H.push (.lf [])) (typP S.res (cfk (catL es) o.2)++cc4 0 (catL es) o.1)
   refine⟨⟨by show((H.push (.lf [])).learns _).lo≤H.lo;rw [p3];exact(Unt.push H _).1,fun b h1 h2=>?_⟩,?_,?_⟩
   ·show((H.push (.lf [])).learns _).t.get b=_
    rw [p1]
    rw [show((H.push (.lf [])).learns (typP S.res (cfk (catL es) o.2)++cc4 0 (catL es) o.1)).lo=_ from p3] at h1
    exact(Unt.push H _).2 b h1 h2
   ·show H.n≤((H.push (.lf [])).learns _).n
    rw [p2];exact Nat.le_succ _
   ·show H.nv≤((H.push (.lf [])).learns _).nv
    rw [p4];exact Nat.le_refl _
  ·cases ho
 ·obtain⟨hG,hparts⟩:=@ccs σ _ _ _ hH _ _ _ _ _ _ hes hus
  have hm:∀ k o,memO ρ w G O k o→w.heap[k]? = some o:=fun k o hko=>by
   rcases hko with hko | ⟨b,_,L,_,rfl,h1⟩
   ·exact @J.obj σ H w ρ _ _ _ hj hko
   ·exact h1
  have hvars:(cjo 0 S.args).map (@denL (σ.sub 0 (catL es)))=es.map (@denL σ):=cvq σ _ _ _ 0 q3 fun j hj'=>by
   show @den σ (θ 0 (catL es) (0+j))=_
   unfold θ
   rw [show Nat.ble 0 (0+j)=true from by simp]
   simp only
   rw [show 0+j - 0=j by omega,List.getD_eq_getElem?_getD,List.getD_eq_getElem?_getD,List.getElem?_eq_getElem hj']
   rfl
  have hrun:=hS (σ.sub 0 (catL es)) hU (memO ρ w G O) w us hj.tw hm (by rw [hvars];exact hparts) (cck (@HRel.hy σ _ _ _ hH) q1)
  refine b4n.mono (fun u w' hp=>?_) hrun
  obtain⟨hk,o,ho,hf,hr⟩:=hp
  obtain⟨x,hx,hxo⟩:=m1 o ho
  refine⟨x,hx,?_⟩
  unfold outS at hxo
  split at hxo
  ·rename_i rs hrs
   cases hxo
   have hfacts:@Holds σ (cc4 0 (catL es) o.1):=fun y hy=>by
    obtain⟨z,hz,rfl⟩:=cq3 hy
    show(@den σ (subX 0 (catL es) z)).bv=true
    rw [cdi]
    exact hf z hz
   have hfacts:@Holds σ (typP S.res (cfk (catL es) o.2)++cc4 0 (catL es) o.1):=by
    obtain⟨vs,hvs,_⟩:=hr
    rw [← ceo] at hvs
    exact @b6e σ _ _ (@cn8 σ _ _ _ _ hvs) hfacts
   have hsim:=@Sim.call H w w' ρ σ (fun k ob=>w.heap.size≤k∧w'.heap[k]? = some ob∧Nice ob) _ hH hd hk (fun k o h=>h) hfacts
   refine⟨_,?_,hsim⟩
   obtain⟨vs,hvs,rfl⟩:=hr
   have hle:PM.le ρ (upd ρ H.n ⟨w.heap.size,0,0,some fun k ob=>w.heap.size≤k∧w'.heap[k]? = some ob∧Nice ob⟩):=b8f (hd _ (Nat.le_refl _))
   refine @cqo _ σ _ _ (@chk _ σ _ ?_ _ _ _ _ hrs ?_)
   ·intro g hg
    have hnew:g=H.n→∃ L,upd ρ H.n ⟨w.heap.size,0,0,some fun k ob=>w.heap.size≤k∧w'.heap[k]? = some ob∧Nice ob⟩ g=some L:=fun hg=>⟨_,by rw [hg];exact upd_same _ _ _⟩
    split at hg
    ·exact hnew (List.mem_singleton.1 hg)
    ·rcases List.mem_cons.1 hg with hg | hg
     ·exact hnew hg
     ·obtain⟨L,hL⟩:=hG g hg
      exact⟨L,hle _ _ hL⟩
   ·rw [ceo]
    refine hvs.mono fun k ob hko=>?_
    rcases hko with hko | ⟨hfr,hko⟩
    ·refine⟨H.n,?_,_,_,upd_same _ _ _,rfl,hko⟩
     split<;>simp
    ·rw [hfr]
     have hO:O=[]:=by
      rw [hfr] at q2
      rcases q2 with q2 | q2
      ·cases q2
      ·cases O with
       | nil=>rfl
       | cons b r=>cases q2
     rcases hko with hko | ⟨b,hb,_⟩
     ·obtain⟨g,h1,L,M,h2,h3,h4⟩:=hko
      exact⟨g,List.mem_cons_of_mem _ h1,L,M,hle _ _ h2,h3,h4⟩
     ·rw [hO] at hb;cases hb
  ·cases hxo
theorem cc2{U:Us}{T:FuncId→Option Fsp}(h:∀ f S,T f=some S→b3m U P f S):cb4 U P (b6d T):=by
 intro σ hU t args H outs ho
 unfold b6d at ho
 split at ho
 ·rename_i f
  split at ho
  ·rename_i S hS
   obtain⟨h1,h2⟩:=cxo (h f S hS) ho σ hU
   refine⟨h1,fun ρ w us s hs=>?_⟩
   have hs:s=callFunc f us:=hs
   subst hs
   exact h2 ρ w us
  ·cases ho
 ·cases ho
end
end Go.Sx

namespace Go.Sx
noncomputable section
def cj5(F:Fm)(t:Nat)(args:List AV):Fm :=
 List.rec (motive:=fun _=>Fm→Nat→Fm) (fun F _=>F) (fun a _ ih F t=>ih (F.put t (some a)) (Nat.succ t)) args F t
def ce4:Bool×List Cel→AV
 | (false,[c])=>.one c
 | (_,xs)=>.agg xs
def resF(P:Program)[Plain P](H:HP)(F:Fm):ResultVar→Option (Bool×List Cel)
 | .tmp t=>match F.get t with
  | some (.one c)=>some (false,[c])
  | some (.agg xs)=>some (true,xs)
  | _=>none
 | .cell a ty=>match F.get a,szA P ty with
  | some (.one (.ptr b off)),some (ag,n)=>(H.read b off (wid ag n)).map fun cs=>(ag,cs)
  | some v,some (ag,n)=>(cjj H v (wid ag n)).map fun cs=>(ag,cs)
  | _,_=>none
def resL(P:Program)[Plain P](H:HP)(F:Fm):List ResultVar→Option (List AV)
 | []=>some []
 | r::rs=>match resF P H F r,resL P H F rs with
  | some p,some l=>some (ce4 p::l)
  | _,_=>none
def chp:List Nat→Bool
 | []=>true
 | x::r=>Nat.ble 1 x&&chp r
def uniO(H:HP):List Nat→Bool
 | []=>true
 | b::r=>match b7m H b with
  | some (w,_,_,_)=>uniS w&&uniO H r
  | none=>false
def endS(P:Program)[Plain P](fn:Func)(S:Fsp)(x:Oc):Option (List X×List (List X)) :=
 match x.1 with
 | .ext _=>none
 | _=>match resL P x.2.2 x.2.1 fn.results.toList with
  | some vs=>match ce5 x.2.2 S.res vs with
   | some (es,G,O)=>match((!S.fresh||chp G)&&chp O)&&uniO x.2.2 O with
    | true=>some (x.2.2.hy,es)
    | false=>none
   | none=>none
  | none=>none
def c26(P:Program)[Plain P](fn:Func)(S:Fsp):List Oc→Option (List (List X×List (List X)))
 | []=>some []
 | x::r=>match endS P fn S x,c26 P fn S r with
  | some o,some l=>some (o::l)
  | _,_=>none
def numV:List Shp→Nat
 | []=>0
 | p::ps=>p.2.length+numV ps
def cqu(k:Nat):List (List X×List (List X))→Bool
 | []=>true
 | o::r=>b8b k o.1&&(o.2.all (b8b k)&&cqu k r)
def H0(S:Fsp):HP:=⟨.nil,1,0,typP S.args (cjo 0 S.args)++S.pre,numV S.args⟩
def F0(S:Fsp):Option Fm:=(mkP S.args [0] (cjo 0 S.args)).map fun ps=>cj5 .nil 0 (ps.map ce4)
def runV(P:Program)[Plain P](cx:Cx)(hs:Hs)(fn:Func)(c:Code)(S:Fsp):Option (List VC×List (List X×List (List X))) :=
 match F0 S,Nat.ble S.args.length fn.ntmps&&cqu (numV S.args) S.outs with
 | some F,true=>match ca9 P cx fn.ntmps hs c F (H0 S) with
  | some (v,l)=>match c26 P fn S l with
   | some outs=>some (v,outs)
   | none=>none
  | none=>none
 | _,_=>none
def nilL{α:Type}:List α→Bool
 | []=>true
 | _::_=>false
def runS(P:Program)[Plain P](ora:OraM)(fuel fk:Nat)(hs:Hs)(fn:Func)(c:Code)(S:Fsp):Option (List VC×List (List X×List (List X))) :=
 match nilL (b6p c) with
 | true=>runV P ⟨ora,noV,fun _=>false,fuel,fk,none,fun _=>0⟩ hs fn c S
 | false=>none
end
section
variable {P:Program} [Plain P] {ora:OraM} {n m fuel fk:Nat} {U:Us} {hs:Hs} {H H':HP} {w w':World} {ρ:PM} {F:Fm} {a:Act}
theorem caw:∀ (args:List AV) (F:Fm) (t0 t:Nat) (v:AV),(cj5 F t0 args).get t=some v→(t0≤t∧args[t - t0]? = some v)∨F.get t=some v
 | [],F,t0,t,v,h=>.inr h
 | a::args,F,t0,t,v,h=>by
  rcases caw args (F.put t0 (some a)) (t0+1) t v h with ⟨h1,h2⟩ | h1
  ·refine .inl ⟨by omega,?_⟩
   rw [show t - t0=(t - (t0+1))+1 by omega,List.getElem?_cons_succ]
   exact h2
  ·rw [PT.get_put] at h1
   split at h1
   ·rename_i ht
    subst ht
    cases h1
    exact .inl ⟨Nat.le_refl _,by simp⟩
   ·exact .inr h1
section
variable [Sg]
theorem ckn{p:Bool×List Cel}{u:Value}(h:PRel ρ p u):VRel ρ (ce4 p) u:=by
 match p,h with
 | (true,xs),h=>exact h
 | (false,[c]),h=>exact h
 | (false,[]),h=>exact h.elim
 | (false,_::_::_),h=>exact h.elim
theorem cbr:∀ {ps:List (Bool×List Cel)} {us:List Value},All2 (PRel ρ) ps us→All2 (VRel ρ) (ps.map ce4) us
 | [],[],_=>trivial
 | _::_,_::_,⟨h1,h2⟩=>⟨ckn h1,cbr h2⟩
 | [],_::_,h=>h.elim
 | _::_,[],h=>h.elim
theorem cy7{P:Program}{b:AV}{ty:TypeId}{ag:Bool}{k:Nat}{cs:List Cel}{u:Value}(h:cjj H b (wid ag k)=some cs)(hs:szA P ty=some (ag,k))(hr:VRel ρ b u)(hH:HRel ρ H w)(hj:J ρ H w) :
  ∃ us:List Value,(do loadVar ty (← asAddr u):Sem Value).run P w=.ok (mkV ag us) w∧us.length=wid ag k∧All2 (CRel ρ) cs us:=by
 unfold cjj at h
 split at h
 ·rename_i ws G e i off
  obtain⟨hG,b,o,cap,h1,h2,h3,hev⟩:=hr
  have hi:(den i).iv.toNat<(den e).rows.length:=by omega
  rcases(show(den e=.sl true []∧_)∨_ from h1) with ⟨e1,_⟩ | ⟨rows,b',off',cap',e1,e2,e3,e4,e5⟩ | ⟨_,e1,_⟩
  rotate_right
  ·rw [e1] at hi;simp [CD.rows] at hi
  ·rw [e1] at hi;simp [CD.rows] at hi
  ·have hrows:(den e).rows=rows:=by rw [e1];rfl
   rw [hrows] at hi
   simp only [Value.slice.injEq,Option.some.injEq,Addr.mk.injEq,and_true] at e2
   obtain⟨⟨rfl,rfl⟩,_,rfl⟩:=e2
   obtain⟨arr,tt,fr,g1,g2⟩:=e5 (fun hh=>by rw [hh] at hi;simp at hi)
   have hob:=hj.obj g1.1
   have hrow:rows[(den i).iv.toNat]? = some rows[(den i).iv.toNat]:=List.getElem?_eq_getElem hi
   obtain⟨us,k1,k2,k3⟩:=b8w hG (by rw [hrows];exact hrow) (g2 _ _ hrow) _ _ h
   refine⟨us,?_,k1,k2⟩
   simp only [hev,asAddr,Sem.run_bind,Sem.run_pure,Result.andThen_ok]
   refine b6b hs k1 fun j u hu=>?_
   rw [cell?_of hob]
   have:=k3 j u hu
   rw [← this]
   congr 1
   omega
 ·rename_i b s i off
  obtain⟨L,h1,h2,hev⟩:=hr
  split at h
  ·rename_i ws G e nb hrw
   split at h
   ·rename_i hok
    rw [Bool.and_eq_true] at hok
    have k1:=Nat.eq_of_beq_eq_true hok.1
    have k2:(den i).iv<(den nb).iv:=b76 hH.hy hok.2
    obtain⟨_,hG,hnb,arr,tt,fr,e1,e2,e3,e4,e5,e6⟩:=hH.rel b 0 _ L (b4q hrw).1 h1
    have hi:(den i).iv.toNat<(den e).rows.length:=by omega
    have hrow:(den e).rows[(den i).iv.toNat]? = some (den e).rows[(den i).iv.toNat]:=List.getElem?_eq_getElem hi
    obtain⟨us,q1,q2,q3⟩:=b8w hG hrow (e6 _ _ hrow) _ _ h
    refine⟨us,?_,q1,q2⟩
    simp only [hev,asAddr,Sem.run_bind,Sem.run_pure,Result.andThen_ok]
    refine b6b hs q1 fun j u hu=>?_
    rw [cell?_of e1]
    have:=q3 j u hu
    rw [← this,k1]
    congr 1
    omega
   ·cases h
  ·cases h
 ·cases h
theorem cuc{ag:Bool}{k:Nat}{us:List Value}{cs:List Cel}(hl:us.length=wid ag k)(h:All2 (CRel ρ) cs us):PRel ρ (ag,cs) (mkV ag us):=by
 cases ag with
 | true=>exact⟨us.toArray,rfl,by simpa using h⟩
 | false =>
  have hl1:us.length=1:=hl
  have hl2:cs.length=1:=by rw [h.length];exact hl1
  match cs,us,hl1,hl2,h with
  | [c],[u'],_,_,h=>exact h.1
theorem c0p(hf:FRel n ρ F a)(hH:HRel ρ H w)(hj:J ρ H w){r:ResultVar}{p:Bool×List Cel}(h:resF P H F r=some p) :
  ∃ u,(match r with | .tmp t=>pure (a.tmps.getD t undef) | .cell x t=>do loadVar t (← asAddr (a.tmps.getD x undef)):Sem Value).run P w=.ok u w∧PRel ρ p u:=by
 cases r with
 | tmp t =>
  simp only [resF] at h
  split at h
  ·rename_i c ht
   cases h
   obtain⟨u,hu,hr⟩:=hf.get t _ ht
   exact⟨u,by simp [Array.getD_eq_getD_getElem?,hu],hr⟩
  ·rename_i xs ht
   cases h
   obtain⟨u,hu,hr⟩:=hf.get t _ ht
   exact⟨u,by simp [Array.getD_eq_getD_getElem?,hu],hr⟩
  ·cases h
 | cell x t =>
  simp only [resF] at h
  split at h
  ·rename_i b off ag n ht hs
   obtain⟨cs,hcs,rfl⟩:=map_some h
   obtain⟨u,hu,L,hL,he⟩:=hf.get x _ ht
   obtain⟨us,hl,hrel,hc⟩:=HP.read_world hcs hH hL
   refine⟨mkV ag us,?_,cuc hl hrel⟩
   simp only [Array.getD_eq_getD_getElem?,hu,Option.getD_some,he,asAddr,Sem.run_bind,Sem.run_pure,Result.andThen_ok]
   exact b6b hs hl hc
  ·rename_i v ag n hno hs ht
   obtain⟨cs,hcs,rfl⟩:=map_some h
   obtain⟨u,hu,hr⟩:=hf.get x _ ‹F.get x=some v›
   obtain⟨us,h1,h2,h3⟩:=cy7 hcs ‹szA P t=some (ag,n)› hr hH hj
   refine⟨mkV ag us,?_,cuc h2 h3⟩
   simp only [Array.getD_eq_getD_getElem?,hu,Option.getD_some]
   exact h1
  ·cases h
theorem csj(hf:FRel n ρ F a)(hH:HRel ρ H w)(hj:J ρ H w):∀ (rs:List ResultVar) {vs:List AV},resL P H F rs=some vs →
  ∃ us,(rs.mapM fun | .tmp t=>pure (a.tmps.getD t undef) | .cell x t=>do loadVar t (← asAddr (a.tmps.getD x undef)):Sem (List Value)).run P w=.ok us w∧All2 (VRel ρ) vs us
 | [],vs,h=>by cases h;exact⟨[],rfl,trivial⟩
 | r::rs,vs,h=>by
  simp only [resL] at h
  split at h
  ·rename_i p l hp hl
   cases h
   obtain⟨u,hu,hrel⟩:=c0p hf hH hj hp
   obtain⟨us,hus,hrels⟩:=csj hf hH hj rs hl
   refine⟨u::us,?_,ckn hrel,hrels⟩
   simp only [List.mapM_cons,Sem.run_bind]
   rw [hu]
   simp only [Result.andThen_ok]
   rw [hus]
   rfl
  ·cases h
theorem J.put{ρ:PM}{H:HP}{w0 w:World}{D:Nat}{o:Obj}(h:J ρ H w)(ht:TW w0)(hD:w0.heap.size≤D)(hg:∀ g L M o,ρ g=some L→L.M=some M→¬ M D o):J ρ H (w.putObj D o) :=
 ⟨fun x hx=>⟨by
  obtain⟨o',h1,h2⟩:=h.tw x hx
  obtain⟨o2,h3,_⟩:=ht x hx
  have:=(Array.getElem?_eq_some_iff.1 h3).1
  exact⟨o',by rw [World.putObj_heap_other (by omega)];exact h1,h2⟩,(h.1 x hx).2⟩,fun g L M h1 h2 k o ho=>by
  obtain⟨h3,h4⟩:=h.2 g L M h1 h2 k o ho
  refine⟨?_,h4⟩
  rw [World.putObj_heap_other (fun hh=>hg g L M o h1 h2 (by rw [hh] at ho;exact ho))]
  exact h3⟩
structure EndK (w:World) (ρ':PM) (H':HP) (w':World):Prop where
 rel:HRel ρ' H' w'
 j:J ρ' H' w'
 tw:TW w
 keep:Keep w w'
theorem EndK.unowned{ρ':PM}{D:Nat}{o:Obj}(h:EndK w ρ' H' w')(hD:w.heap.size≤D)(hno:∀ b L,H'.Kn b→ρ' b=some L→L.B≠D)(hg:∀ g L M o,ρ' g=some L→L.M=some M→¬ M D o):EndK w ρ' H' (w'.putObj D o) where
 rel:=⟨fun b i c L hc hL=>(h.rel.rel b i c L hc hL).of_heap (World.putObj_heap_other (hno b L ⟨i,c,hc⟩ hL)),h.rel.inj,h.rel.hy⟩
 j:=h.j.put h.tw hD hg
 tw:=h.tw
 keep:=⟨fun k hk=>by rw [World.putObj_heap_other (by omega)];exact h.keep.old k hk,by rw [World.putObj_size];exact h.keep.size,h.keep.os,h.keep.tape,h.keep.output⟩
theorem cbo{ρ':PM}{fn:Func}{tmps:Array Value}{R:Ending→World→Prop}
  (hend:∀ w',EndK w ρ' H' w'→∃ v,(results fn tmps).run P w'=.ok v w'∧R (.returned v) w'):∀ (ds:List Deferred) (w':World),EndK w ρ' H' w'→DfOK ρ' H' w' w.heap.size ds→LeavesInM Fence.wide 0 P fn tmps R ds .returning w'
 | [],w',s,_=>hend w' s
 | d::ds,w',s,⟨⟨D,h1,hm,h2,h3,h7⟩,h⟩=>by
  refine⟨by simp,.inl ⟨D,_,by rw [h1],run_takeDeferred h2,cbo hend ds _ (s.unowned hm h3.1 h3.2) ?_⟩⟩
  have keep:∀ (es:List Deferred),(∀ d'∈es,∀ D',d'.target=.collected D'→D'≠D)→DfOK ρ' H' w' w.heap.size es→DfOK ρ' H' (w'.putObj D (.deferred none)) w.heap.size es:=by
   intro es
   induction es with
   | nil=>exact fun _ _=>trivial
   | cons e es ih =>
    rintro hne ⟨⟨D',g1,gm,g2,g3,g7⟩,g⟩
    exact⟨⟨D',g1,gm,by rw [World.putObj_heap_other (hne e (List.mem_cons_self ..) D' (by rw [g1]))];exact g2,g3,g7⟩,ih (fun d' hd'=>hne d' (List.mem_cons_of_mem _ hd')) g⟩
  exact keep ds h7 h
end
theorem co6{fn:Func}{S:Fsp}:∀ {xs:List Oc} {os:List (List X×List (List X))},c26 P fn S xs=some os→∀ x∈xs,∃ o∈os,endS P fn S x=some o
 | [],os,h,x,hx=>by cases hx
 | y::xs,os,h,x,hx=>by
  simp only [c26] at h
  split at h
  ·rename_i o l ho hl
   cases h
   rcases List.mem_cons.1 hx with rfl | hx
   ·exact⟨o,List.mem_cons_self ..,ho⟩
   ·obtain⟨q,h1,h2⟩:=co6 hl x hx
    exact⟨q,List.mem_cons_of_mem _ h1,h2⟩
  ·cases h
theorem cbp:∀ {l:List Nat},chp l=true→∀ x∈l,1≤x
 | [],_,x,hx=>by cases hx
 | y::r,h,x,hx=>by
  simp only [chp,Bool.and_eq_true] at h
  rcases List.mem_cons.1 hx with rfl | hx
  ·exact Nat.le_of_ble_eq_true h.1
  ·exact cbp h.2 x hx
theorem cb0{k:Nat}{σ σ':Sg}(he:Ext k σ σ'):∀ {os:List (List X×List (List X))},cqu k os=true→∀ o∈os,(@Holds σ' o.1→@Holds σ o.1)∧o.2.map (@denL σ')=o.2.map (@denL σ)
 | [],_,o,ho=>by cases ho
 | q::r,h,o,ho=>by
  simp only [cqu,Bool.and_eq_true] at h
  rcases List.mem_cons.1 ho with rfl | ho
  ·refine⟨fun hh x hx=>?_,?_⟩
   ·have hs:∀ (l:List X),b8b k l=true→∀ x∈l,b7n k x=true:=by
     intro l
     induction l with
     | nil=>intro _ x hx;cases hx
     | cons y l ih =>
      intro h x hx
      simp only [b8b,Bool.and_eq_true] at h
      rcases List.mem_cons.1 hx with rfl | hx
      ·exact h.1
      ·exact ih h.2 x hx
    have:=hh x hx
    show(@den σ x).bv=true
    rw [← b5j he x (hs _ h.1 x hx)]
    exact this
   ·refine List.map_congr_left fun l hl=>cmc he l (List.all_eq_true.1 h.2.1 l hl)
  ·exact cb0 he h.2.2 o ho
theorem cq9[Sg]{ρ:PM}{H:HP}{w:World}(hH:HRel ρ H w):∀ {O:List Nat},uniO H O=true→∀ b∈O,∀ (L:Loc),ρ b=some L→∀ (ob:Obj),w.heap[L.B]? = some ob→Nice ob
 | [],_,b,hb,_,_,_,_=>(by cases hb)
 | x::r,h,b,hb,L,hL,ob,ho=>by
  unfold uniO at h
  split at h
  ·rename_i ws G e n hrw
   rw [Bool.and_eq_true] at h
   rcases List.mem_cons.1 hb with rfl | hb
   ·obtain⟨_,_,_,arr,tt,fr,g1,g2,_⟩:=hH.rel b 0 _ L (b4q hrw).1 hL
    rw [g1] at ho
    cases ho
    exact⟨arr,tt,fr,rfl,g2.1,_,g2.2 h.1⟩
   ·exact cq9 hH h.2 b hb L hL ob ho
  ·cases h
theorem cbj{cx:Cx}{f:FuncId}{fn:Func}{c:Code}{S:Fsp}{v:List VC}{outs:List (List X×List (List X))}(hm:P.follows .mixedOrders=true)(hcx:CxOK U P cx)(hrb:cx.rb=none)(hrg:b5v U.lc cx.rk c)(hf:P.funcs[f]? = some fn)(hb:fn.body=some c)(hcall:∀ us w,(callFunc f us).run P w=.ok (.enter f us) w)(hfl:b5d c=true)
  (h:runV P cx hs fn c S=some (v,outs)) (hv:∀ z∈v,VCok U z) (hend:∀ o∈outs,∀ σ:Sg,σ.toUs=U→@Holds σ o.1→∃ q∈S.outs,@Holds σ q.1∧q.2.map (@denL σ)=o.2.map (@denL σ)):b3m U P f S:=by
 unfold runV at h
 split at h
 rotate_left
 ·cases h
 rename_i F hF hchk
 rw [Bool.and_eq_true] at hchk
 have hlen:=Nat.le_of_ble_eq_true hchk.1
 split at h
 rotate_left
 ·cases h
 rename_i v0 l hcode
 split at h
 rotate_left
 ·cases h
 rename_i outs0 houts
 cases h
 intro σ hU m w us htw hmem hargs hpre
 rw [hcall]
 show Calls P f us w _
 refine callsIn_wide.1 (callsIn_of_wp_marks (F:=Fence.wide) (n:=0) hf hb trivial ?_)
 let ρ0:PM:=fun b=>if b=0 then some ⟨w.heap.size,0,0,some m⟩ else none
 have hρ0:ρ0 0=some ⟨w.heap.size,0,0,some m⟩:=if_pos rfl
 have hnone:∀ b,b≠0→ρ0 b=none:=fun b hb=>if_neg hb
 have hnocell:∀ b i c,(H0 S).cell b i=some c→False:=fun b i c hc=>HP.cell_nil hc
 obtain⟨ps,hps,rfl⟩:=map_some hF
 have hat:∀ k o,m k o→ρ0.at [0] k o:=fun k o h=>⟨0,List.mem_singleton.2 rfl,_,m,hρ0,rfl,h⟩
 have hG0:∀ g∈[0],∃ L,ρ0 g=some L:=fun g hg=>by
  have:=List.mem_singleton.1 hg
  subst this
  exact⟨_,hρ0⟩
 have hrel0:=@chk ρ0 σ [0] hG0 _ _ _ _ hps (hargs.mono hat)
 have hargsR:=@cbr ρ0 σ _ _ hrel0
 have hal:=All2.length hargsR
 have hpl:ps.length=us.size:=by
  have:=hal
  simp only [List.length_map,Array.length_toList] at this
  exact this
 have hsl:∀ (ps:List Shp) (es:List (List X)) (rs:List (Bool×List Cel)),mkP ps [0] es=some rs→rs.length=ps.length:=by
  intro ps
  induction ps with
  | nil=>intro es rs h;cases es with
   | nil=>cases h;rfl
   | cons e es=>cases h
  | cons p ps ih =>
   intro es rs h
   cases es with
   | nil=>cases h
   | cons e es =>
    simp only [mkP] at h
    split at h
    ·rename_i c r hc hr
     have:=ih es r hr
     split at h
     ·cases h;simp [this]
     ·split at h
      ·cases h;simp [this]
      ·cases h
    ·cases h
 have hpl2:=hsl _ _ _ hps
 have s0:@SRel σ fn.ntmps ρ0 (cj5 .nil 0 (ps.map ce4)) (H0 S) { tmps:=us++Array.replicate (fn.ntmps - us.size) Go.undef,defers:=[] } w:=by
  refine @SRel.mk σ _ _ _ _ _ _ (@FRel.mk σ _ _ _ _ (by simp;omega) fun t v hv=>?_) ⟨fun b i c L hc=>(hnocell b i c hc).elim,fun b b' L L' ⟨i,c,hc⟩=>(hnocell b i c hc).elim,@b6e σ _ _ (@cn8 σ _ _ _ _ hargs) hpre⟩ (fun b hb=>hnone b (by have h1:1≤b:=hb;omega)) ⟨fun x hx=>⟨htw x hx,fun b L' ⟨i,c,hc⟩=>(hnocell b i c hc).elim⟩,fun g L M hg hM k o hko=>?_⟩
  ·rcases caw (ps.map ce4) .nil 0 t v hv with ⟨_,h1⟩ | h1
   ·obtain⟨u,hu,hr⟩:=All2.get hargsR _ _ h1
    rw [Nat.sub_zero,Array.getElem?_toList] at hu
    exact⟨u,by rw [Array.getElem?_append_left (Array.getElem?_eq_some_iff.1 hu).1];exact hu,hr⟩
   ·rw [PT.get_nil] at h1;cases h1
  ·by_cases h0:g=0
   ·subst h0
    rw [hρ0] at hg
    cases hg
    cases hM
    exact⟨hmem k o hko,fun b L' ⟨i,c,hc⟩=>(hnocell b i c hc).elim⟩
   ·rw [hnone g h0] at hg;cases hg
 have K:=ccb (n:=fn.ntmps) (m:=0) (r:=none) hm hcx c hfl hrg hcode hv σ hU
 rw [hrb] at K
 refine K.wp (m0:=w.heap.size) s0 trivial (Nat.le_refl _) (DfOK.nil _ _ _ _) fun σ' he x hx ρ' a' w' s' hdf hs'=>?_
 obtain⟨o,ho,hend'⟩:=co6 houts x hx
 obtain⟨e,F,H1⟩:=x
 have hee:e=.nrm∨e=.rt:=by
  cases e with
  | nrm=>exact .inl rfl
  | rt=>exact .inr rfl
  | ext id=>cases hend'
 have hcore:(match resL P H1 F fn.results.toList with
  | some vs=>match ce5 H1 S.res vs with
   | some (es,G,O)=>match((!S.fresh||chp G)&&chp O)&&uniO H1 O with
    | true=>some (H1.hy,es)
    | false=>none
   | none=>none
  | none=>none)=some o:=by rcases hee with rfl | rfl<;>exact hend'
 split at hcore
 rotate_left
 ·cases hcore
 rename_i vs hvs
 split at hcore
 rotate_left
 ·cases hcore
 rename_i es G O hparts
 split at hcore
 rotate_left
 ·cases hcore
 rename_i hz
 cases hcore
 simp only [Bool.and_eq_true,Bool.or_eq_true,Bool.not_eq_true'] at hz
 obtain⟨hz,hun⟩:=hz
 have hkeep:Keep w w':=⟨fun k hk=>hs'.fr k hk fun b L ⟨i,c,hc⟩=>(hnocell b i c hc).elim,hs'.size,hs'.os,hs'.tape,hs'.output⟩
 have hK:@EndK σ' w ρ' H1 w':=@EndK.mk σ' w ρ' H1 w' (@SRel.hp σ' _ _ _ _ _ _ s') (@SRel.j σ' _ _ _ _ _ _ s') htw hkeep
 have hpost:LeavesInM Fence.wide 0 P fn a'.tmps (fun r w''=>∃ u',r=.returned u'∧(Keep w w''∧∃ o∈S.outs,@Holds σ o.1∧ResR (fun k ob=>(w.heap.size≤k∧w''.heap[k]? = some ob∧Nice ob)∨(S.fresh=false∧m k ob)) S.res (o.2.map (@denL σ)) u')) a'.defers .returning w':=by
  refine @cbo P _ H1 w σ' ρ' fn a'.tmps _ (fun w2 hK2=>?_) _ _ hK hdf
  obtain⟨uvs,huvs,hvr⟩:=@csj P _ _ H1 w2 ρ' F a' σ' (@SRel.fr σ' _ _ _ _ _ _ s') (@EndK.rel σ' w ρ' H1 w2 hK2) (@EndK.j σ' w ρ' H1 w2 hK2) _ _ hvs
  obtain⟨hG,hpr⟩:=@ccs σ' _ _ _ (@EndK.rel σ' w ρ' H1 w2 hK2) _ _ _ _ _ _ hparts hvr
  obtain⟨q,hq,hqh,hqe⟩:=hend _ ho σ' (he.us.trans hU) (@HRel.hy σ' _ _ _ (@SRel.hp σ' _ _ _ _ _ _ s'))
  obtain⟨t1,t2⟩:=cb0 he hchk.2 q hq
  refine⟨oneOf uvs,?_,_,rfl,@EndK.keep σ' w ρ' H1 w2 hK2,q,hq,t1 hqh,uvs,?_,rfl⟩
  ·unfold results
   rw [Sem.run_bind,Array.mapM_eq_mapM_toList,Sem.run_map]
   exact congrArg (fun r:Result (List Value)=>(r.andThen fun a w'=>Result.ok a.toArray w').andThen fun a w'=>Sem.run P (pure (if h:a.size=1 then a[0] else Value.tuple a)) w') huvs
  ·rw [← t2,hqe]
   refine hpr.mono fun k ob hko=>?_
   rcases hko with ⟨g,hg,L,M,h1,h2,h3⟩ | ⟨b,hb,L,h1,rfl,h2⟩
   ·by_cases h0:g=0
    ·subst h0
     have:=hs'.le 0 _ hρ0
     rw [h1] at this
     cases this
     cases h2
     refine .inr ⟨?_,h3⟩
     rcases hz.1 with h4 | h4
     ·exact h4
     ·have:=cbp h4 0 hg
      omega
    ·left
     refine⟨?_,((@EndK.j σ' w ρ' H1 w2 hK2).2 g L M h1 h2 k ob h3).1,(hs'.ro g L M k ob (hnone g h0) h1 h2 h3).2⟩
     rcases(hs'.ro g L M k ob (hnone g h0) h1 h2 h3).1 with h4 | ⟨b0,L0,⟨i,c,hc⟩,_⟩
     ·exact h4
     ·exact(hnocell b0 i c hc).elim
   ·left
    have hb0:b≠0:=by have:=cbp hz.2 b hb;omega
    refine⟨?_,h2,@cq9 σ' _ _ _ (@EndK.rel σ' w ρ' H1 w2 hK2) _ hun b hb L h1 _ h2⟩
    rcases hs'.new b L (hnone b hb0) h1 with h4 | ⟨b1,L1,⟨i,c,hc⟩,_⟩
    ·exact h4
    ·exact(hnocell b1 i c hc).elim
 rcases hee with rfl | rfl
 ·exact hpost
 ·exact hpost
theorem cn3{f:FuncId}{fn:Func}{c:Code}{S:Fsp}{v:List VC}{outs:List (List X×List (List X))}(hm:P.follows .mixedOrders=true)(hora:cb4 U P ora)(hf:P.funcs[f]? = some fn)(hb:fn.body=some c)(hcall:∀ us w,(callFunc f us).run P w=.ok (.enter f us) w)(hfl:b5d c=true)
  (h:runS P ora fuel fk hs fn c S=some (v,outs)) (hv:∀ z∈v,VCok U z) (hend:∀ o∈outs,∀ σ:Sg,σ.toUs=U→@Holds σ o.1→∃ q∈S.outs,@Holds σ q.1∧q.2.map (@denL σ)=o.2.map (@denL σ)):b3m U P f S:=by
 unfold runS at h
 split at h
 ·rename_i hn
  refine cbj hm ⟨hora,c6r,fun g hg=>(by cases hg)⟩ rfl (fun x hx=>?_) hf hb hcall hfl h hv hend
  cases hl:b6p c with
  | nil=>rw [hl] at hx;cases hx
  | cons y r=>rw [hl] at hn;cases hn
 ·cases h
end
end Go.Sx

namespace Go.Sx
noncomputable section
inductive Pl where
 | slot (t:Nat)
 | cell (t off:Nat)
 | rcell (y t off:Nat)
inductive Kd where
 | int (k:IntKind)
 | bool
 | str
 | own (z:Bool) (w:List Srt)
 | val (s:Srt)
 | blk
 | map (kw:List Srt) (va:Bool) (vw:List Srt)
 | iter
abbrev It:=Pl×Kd
def c66(l:Option (List Cel)):Option Cel:=match l with
 | some [c]=>some c
 | _=>none
def Pl.get(p:Pl)(F:Fm)(H:HP):Option Cel :=
 match p with
 | .slot t=>match F.get t with
  | some (.one c)=>some c
  | _=>none
 | .cell t off=>match F.get t with
  | some (.one (.ptr b o))=>c66 (H.read b (o+off) 1)
  | _=>none
 | .rcell y t off=>match F.get y with
  | some (.one (.yd k))=>match b80 H k with
   | some l=>match l.F.get t with
    | some (.one (.ptr b o))=>c66 (H.read b (o+off) 1)
    | _=>none
   | none=>none
  | _=>none
def Pl.put(p:Pl)(F:Fm)(H:HP)(c:Cel):Option (Fm×HP) :=
 match p with
 | .slot t=>some (F.put t (some (.one c)),H)
 | .cell t off=>match F.get t with
  | some (.one (.ptr b o))=>match H.write b (o+off) [c] with
   | some H'=>some (F,H')
   | none=>none
  | _=>none
 | .rcell y t off=>match F.get y with
  | some (.one (.yd k))=>match b80 H k with
   | some l=>match l.F.get t with
    | some (.one (.ptr b o))=>match H.write b (o+off) [c] with
     | some H'=>some (F,H')
     | none=>none
    | _=>none
   | none=>none
  | _=>none
def Kd.vals(k:Kd)(H:HP)(c:Cel):Option (List X×Option Nat×List Nat) :=
 match k with
 | .int _=>match iX c with
  | some (_,e)=>some ([e],none,[])
  | none=>none
 | .bool=>match bX c with
  | some e=>some ([e],none,[])
  | none=>none
 | .str=>match sX c with
  | some e=>some ([e],none,[])
  | none=>none
 | .val _=>match c with
  | .sv _ G e=>some ([e],none,G)
  | .lit (.slice none _ _)=>some ([nilE true],none,[])
  | _=>none
 | .own _ _=>match c with
  | .os _ b n _ G _=>match b7m H b with
   | some (_,G',e,nb)=>some ([nb,e],some b,b43 G G')
   | none=>none
  | .lit (.slice none _ _)=>some ([zI,nilE true],none,[])
  | _=>none
 | .blk=>match c with
  | .po b _ _ _=>match b7m H b with
   | some (_,G',e,_)=>some ([e],none,G')
   | none=>none
  | _=>none
 | .map _ _ _=>match c with
  | .mp b=>match mxAt H b with
   | some (_,_,_,e,c)=>some ([e,c],none,[])
   | none=>match ccn H b with
    | some ([],c)=>some ([nilE false,.lit (.int .i64 (Int.ofNat c))],none,[])
    | _=>none
  | _=>none
 | .iter=>match c with
  | .ptr b _=>match ixAt H b with
   | some (_,s,_)=>some ([s],none,[])
   | none=>none
  | _=>none
def Kd.nvar:Kd→Nat
 | .own _ _=>2
 | .map _ _ _=>2
 | _=>1
def Kd.nblk:Kd→Nat
 | .own _ _=>1
 | _=>0
def c38:List It→Nat
 | []=>0
 | i::r=>i.2.nvar+c38 r
def db0:List It→Nat
 | []=>0
 | i::r=>i.2.nblk+db0 r
def Kd.gen(k:Kd)(c:Cel)(v:Nat)(G:List Nat)(H:HP):Option (Cel×HP) :=
 match k with
 | .int k=>some (.sv (.int k) [] (.var v),H)
 | .bool=>some (.sv .bool [] (.var v),H)
 | .str=>some (.sv .str [] (.var v),H)
 | .val s=>some (.sv s (cwe s G) (.var v),H)
 | .own z w=>some (.os z H.n (.var v) w.length (b9o w G) (.var (v+1)),H.push (.lf [some (.rows w (b9o w G) (.var (v+1)) (.var v))]))
 | .blk=>match c with
  | .po b s i off=>match b7m H b with
   | some (w,_,_,nb)=>some (.po b s i off,H.obj b (.rows w G (.var v) nb))
   | none=>none
  | _=>none
 | .map kw va vw=>match c with
  | .mp b=>some (.mp b,H.obj b (.mx kw va vw (.var v) (.var (Nat.succ v))))
  | _=>none
 | .iter=>match c with
  | .ptr b o=>match ixAt H b with
   | some (m,_,c)=>some (.ptr b o,H.obj b (.ix m (.var v) c))
   | none=>none
  | _=>none
def dac(F:Fm)(H:HP):List It→Option (List X×List (Option Nat)×List Nat)
 | []=>some ([],[],[])
 | i::r=>match i.1.get F H with
  | some c=>match i.2.vals H c,dac F H r with
   | some (xs,b,G),some (ys,bs,G')=>some (xs++ys,(match i.2 with | .own _ _=>b::bs | _=>bs),b43 G G')
   | _,_=>none
  | none=>none
def genI(G:List Nat)(F:Fm)(H:HP)(v:Nat):List It→Option (Fm×HP)
 | []=>some (F,H)
 | i::r=>match i.1.get F H with
  | some c=>match i.2.gen c v G H with
   | some (c',H1)=>match i.1.put F H1 c' with
    | some (F',H')=>genI G F' H' (v+i.2.nvar) r
    | none=>none
   | none=>none
  | none=>none
def bmI(k:Nat):List (Option Nat)→List (Nat×Nat)
 | []=>[]
 | some b::r=>(k,b)::bmI (Nat.succ k) r
 | none::r=>bmI (Nat.succ k) r
def c7t(ne:Nat):List Nat→List Nat
 | []=>[]
 | g::r=>match Nat.ble ne g with
  | true=>g::c7t ne r
  | false=>c7t ne r
def c73(F:Fm):List Nat→Fm
 | []=>.nil
 | t::r=>match F.get t with
  | some v=>(c73 F r).put t (some v)
  | none=>c73 F r
structure Lp where
 its:List It
 keep:List Nat
 ev:List Nat
 inv:Fm→HP→Nat→List X
 ms:Fm→HP→Nat→X
def cvj:List It→List Nat
 | []=>[]
 | (.slot t,_)::r=>t::cvj r
 | (.cell t _,_)::r=>t::cvj r
 | (.rcell y _ _,_)::r=>y::cvj r
def HP.knows(H:HP)(l:List X):HP:=⟨H.t,H.n,0,l++H.hy,H.nv⟩
def cya:List (Option Nat)→HP→HP
 | [],H=>H
 | some b::r,H=>cya r (H.drop b)
 | none::r,H=>cya r H
def Lp.head(L:Lp)(F:Fm)(H:HP):Option (Fm×HP×Mp) :=
 match dac F H L.its with
 | some (l,bs,G0) =>
  match genI (b43 [H.n] (b43 (locE F L.ev) G0)) (c73 F (cvj L.its++(L.ev++L.keep))) (cya bs ((H.push (.lf [])).drop H.n)) H.nv L.its with
  | some (F2,H2)=>match(⟨H2.t,H2.n,0,H2.hy,H2.nv+c38 L.its⟩:HP) with
   | H3=>some (F2,H3.knows (L.inv F2 H3 H.nv),⟨H.n,H.nv,l,bmI (Nat.succ H.n) bs,H.n,[],L.ev⟩)
  | none=>none
 | none=>none
def Lp.back(L:Lp)(F2:Fm)(H2:HP)(F1:Fm)(H1:HP):Option Mp :=
 match dac F1 H1 L.its with
 | some (l,bs,G)=>force (H2.n - Nat.succ (db0 L.its)) fun ne=>force (H2.nv - c38 L.its) fun nv =>
  some ⟨ne,nv,l,bmI (Nat.succ ne) bs,ne,c7t ne G,L.ev⟩
 | none=>none
def Lp.lh(L:Lp):LH:=⟨L.head,L.back,fun F2 H2=>L.ms F2 H2 (H2.nv - c38 L.its)⟩
def b4p:List (Nat×Lp)→Nat→Option LH
 | [],_=>none
 | (k,L)::r,id=>match Nat.beq id k with
  | true=>some L.lh
  | false=>b4p r id
def hintA:List (Nat×(Fm→HP→List X))→Nat→Fm→HP→List X
 | [],_,_,_=>[]
 | (k,f)::r,id,F,H=>match Nat.beq id k with
  | true=>f F H
  | false=>hintA r id F H
def sx(F:Fm)(t:Nat):X :=
 match F.get t with
 | some (.one (.sv _ _ e))=>e
 | some (.one (.lit u))=>.lit u
 | some (.one (.os _ _ n _ _ _))=>n
 | _=>.lit (.int .i64 0)
end
end Go.Sx

namespace Go.Sx
variable {P:Program}
def b4b(fn:Func):Code:=fn.body.getD .skip
theorem c0y{f:FuncId}{fn:Func}{c:Code}(hf:P.funcs[f]? = some fn)(hname:(fn.name == "runtime.NumGoroutine")=false) (hb:fn.body=some c) (args:Array Value) (w:World) :
  (callFunc f args).run P w=.ok (.enter f args) w:=by
 have h1:fn.name≠"runtime.NumGoroutine":=by simpa using hname
 simp [callFunc,hf,h1,hb]
def c6n(fn:Func):Bool:=!(fn.name == "runtime.NumGoroutine")&&(match fn.body with | some c=>b5d c | none=>false)
structure FnAt (P:Program) (f:FuncId) (fn:Func):Prop where
 at':P.funcs[f]? = some fn
 body:fn.body=some (b4b fn)
 call:∀ us w,(callFunc f us).run P w=.ok (.enter f us) w
 flow:b5d (b4b fn)=true
theorem FnAt.of{f:FuncId}{fn:Func}(hf:P.funcs[f]? = some fn)(ht:c6n fn=true):FnAt P f fn:=by
 unfold c6n at ht
 simp only [Bool.and_eq_true,Bool.not_eq_true'] at ht
 obtain⟨h1,h2⟩:=ht
 split at h2
 ·rename_i c hc
  have hb:fn.body=some (b4b fn):=by unfold b4b;rw [hc];rfl
  refine⟨hf,hb,fun us w=>c0y hf h1 hb us w,?_⟩
  unfold b4b
  rw [hc]
  exact h2
 ·cases h2
theorem b3m.of{P:Program}[Plain P]{U:Us}{T:FuncId→Option Fsp}{f:FuncId}{fn:Func}{fuel fk:Nat}{hs:Hs}{S:Fsp}{v:List VC}{outs:List (List X×List (List X))}(hm:P.follows .mixedOrders=true)(hT:∀ f S,T f=some S→b3m U P f S)(hf:FnAt P f fn)
  (h:runS P (b6d T) fuel fk hs fn (b4b fn) S=some (v,outs)) (hv:∀ z∈v,VCok U z) (hend:∀ o∈outs,∀ σ:Sg,σ.toUs=U→@Holds σ o.1→∃ q∈S.outs,@Holds σ q.1∧q.2.map (@denL σ)=o.2.map (@denL σ)):b3m U P f S :=
 cn3 hm (cc2 hT) hf.at' hf.body hf.call hf.flow h hv hend
def tab:List (FuncId×Fsp)→FuncId→Option Fsp
 | [],_=>none
 | (k,S)::r,f=>match Nat.beq f k with
  | true=>some S
  | false=>tab r f
def b70(U:Us)(P:Program)(l:List (FuncId×Fsp)):Prop:=∀ f S,tab l f=some S→b3m U P f S
theorem b70.nil{U:Us}:b70 U P []:=fun f S h=>(by cases h)
theorem b70.cons{U:Us}{k:FuncId}{S:Fsp}{l:List (FuncId×Fsp)}(h:b3m U P k S)(hl:b70 U P l):b70 U P ((k,S)::l):=fun f S' hf=>by
 unfold tab at hf
 split at hf
 ·rename_i hb
  cases hf
  rw [Nat.eq_of_beq_eq_true hb]
  exact h
 ·exact hl f S' hf
end Go.Sx

namespace Go.Proofs.Ytlbbkmcegbeckaa
open Go.Sx Go.Proofs
theorem mixed:Try.prog.follows .mixedOrders=true:=by kernel_rfl
def c0d:List Nat:=[24,122,74]
theorem db5:∀ t∈c0d,b84 Try.prog t=true:=List.all_eq_true.1 (by kernel_rfl:c0d.all (b84 Try.prog)=true)
instance:Plain Try.prog:=Plain.ofList c0d db5
theorem at5:FnAt Try.prog 5 Try.f5:=.of Try.func5 (by kernel_rfl)
theorem at8:FnAt Try.prog 8 Try.f8:=.of Try.func8 (by kernel_rfl)
theorem at9:FnAt Try.prog 9 Try.f9:=.of Try.func9 (by kernel_rfl)
theorem at10:FnAt Try.prog 10 Try.f10:=.of Try.func10 (by kernel_rfl)
theorem at11:FnAt Try.prog 11 Try.f11:=.of Try.func11 (by kernel_rfl)
theorem at12:FnAt Try.prog 12 Try.f12:=.of Try.func12 (by kernel_rfl)
theorem at13:FnAt Try.prog 13 Try.f13:=.of Try.func13 (by kernel_rfl)
theorem at14:FnAt Try.prog 14 Try.f14:=.of Try.func14 (by kernel_rfl)
theorem at15:FnAt Try.prog 15 Try.f15:=.of Try.func15 (by kernel_rfl)
theorem at16:FnAt Try.prog 16 Try.f16:=.of Try.func16 (by kernel_rfl)
theorem at17:FnAt Try.prog 17 Try.f17:=.of Try.func17 (by kernel_rfl)
theorem at18:FnAt Try.prog 18 Try.f18:=.of Try.func18 (by kernel_rfl)
theorem at19:FnAt Try.prog 19 Try.f19:=.of Try.func19 (by kernel_rfl)
theorem at20:FnAt Try.prog 20 Try.f20:=.of Try.func20 (by kernel_rfl)
theorem at22:FnAt Try.prog 22 Try.f22:=.of Try.func22 (by kernel_rfl)
theorem at23:FnAt Try.prog 23 Try.f23:=.of Try.func23 (by kernel_rfl)
theorem at27:FnAt Try.prog 27 Try.f27:=.of Try.func27 (by kernel_rfl)
theorem at47:FnAt Try.prog 47 Try.f47:=.of Try.func47 (by kernel_rfl)
theorem at48:FnAt Try.prog 48 Try.f48:=.of Try.func48 (by kernel_rfl)
theorem at50:FnAt Try.prog 50 Try.f50:=.of Try.func50 (by kernel_rfl)
theorem at52:FnAt Try.prog 52 Try.f52:=.of Try.func52 (by kernel_rfl)
theorem at53:FnAt Try.prog 53 Try.f53:=.of Try.func53 (by kernel_rfl)
theorem at54:FnAt Try.prog 54 Try.f54:=.of Try.func54 (by kernel_rfl)
theorem at55:FnAt Try.prog 55 Try.f55:=.of Try.func55 (by kernel_rfl)
theorem at56:FnAt Try.prog 56 Try.f56:=.of Try.func56 (by kernel_rfl)
theorem at57:FnAt Try.prog 57 Try.f57:=.of Try.func57 (by kernel_rfl)
theorem at58:FnAt Try.prog 58 Try.f58:=.of Try.func58 (by kernel_rfl)
theorem at60:FnAt Try.prog 60 Try.f60:=.of Try.func60 (by kernel_rfl)
theorem at61:FnAt Try.prog 61 Try.f61:=.of Try.func61 (by kernel_rfl)
theorem at63:FnAt Try.prog 63 Try.f63:=.of Try.func63 (by kernel_rfl)
theorem at97:FnAt Try.prog 97 Try.f97:=.of Try.func97 (by kernel_rfl)
theorem at99:FnAt Try.prog 99 Try.f99:=.of Try.func99 (by kernel_rfl)
theorem ddw:FnAt Try.prog 101 Try.f101:=.of Try.func101 (by kernel_rfl)
theorem ddx:FnAt Try.prog 102 Try.f102:=.of Try.func102 (by kernel_rfl)
theorem ddy:FnAt Try.prog 130 Try.f130:=.of Try.func130 (by kernel_rfl)
end Go.Proofs.Ytlbbkmcegbeckaa
