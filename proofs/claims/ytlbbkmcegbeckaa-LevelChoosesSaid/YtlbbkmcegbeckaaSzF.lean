/-
  A symbolic executor: a slice that is owned is made to be memory that stays. Conditions: none; nothing here speaks of one program.
-/
import Derived.Test.YtlbbkmcegbeckaaSvP
set_option linter.all false
set_option maxRecDepth 100000
noncomputable section
namespace Go.Sx
abbrev VC:=List X×X
def VCok(U:Us)(v:VC):Prop:=∀ σ:Sg,σ.toUs=U→@Holds σ v.1→@Tru σ v.2
def ahh(U:Us)(P:Program)(ora:OraM):Prop:=∀ σ:Sg,σ.toUs=U→@auv σ P ora
mutual
def agj(k:Nat):X→Bool
 | .var n=>Nat.ble (Nat.succ n) k
 | .lit _=>true
 | .ap _ l=>ahb k l
def ahb(k:Nat):List X→Bool
 | []=>true
 | x::r=>agj k x&&ahb k r
end
mutual
theorem adz{k:Nat}{σ σ':Sg}(h:Ext k σ σ'):∀ (e:X),agj k e=true→@den σ' e=@den σ e
 | .var n,hs=>h.eq n (Nl hs)
 | .lit u,_=>rfl
 | .ap f l,hs=>by
  show @Fs.ev σ'.toUs f (@denL σ' l)=@Fs.ev σ.toUs f (@denL σ l)
  rw [a1k h l hs,h.us]
theorem a1k{k:Nat}{σ σ':Sg}(h:Ext k σ σ'):∀ (l:List X),ahb k l=true→@denL σ' l=@denL σ l
 | [],_=>rfl
 | x::r,hs=>by
  simp only [ahb,Ba] at hs
  show @den σ' x::@denL σ' r=@den σ x::@denL σ r
  rw [adz h x hs.1,a1k h r hs.2]
end
def atp(k:Nat):Cel→Bool
 | .sv _ _ e=>agj k e
 | .pv _ _ e i _=>agj k e&&agj k i
 | .os _ _ n _ _ e=>agj k n&&agj k e
 | .po _ _ i _=>agj k i
 | _=>true
def ajv(k:Nat):List Cel→Bool
 | []=>true
 | c::r=>atp k c&&ajv k r
def a3z(k:Nat):List (Bool×List Cel)→Bool
 | []=>true
 | p::r=>ajv k p.2&&a3z k r
def bj8(k:Nat):AV→Bool
 | .one c=>atp k c
 | .agg xs=>ajv k xs
 | .tup ps=>a3z k ps
def alj(k:Nat):Fm→Bool
 | .nil=>true
 | .node none l r=>alj k l&&alj k r
 | .node (some v) l r=>bj8 k v&&(alj k l&&alj k r)
section
variable {k:Nat} {σ σ':Sg} {ρ:PM}
theorem CRel.ext(h:Ext k σ σ'){c:Cel}{u:Value}(hs:atp k c=true)(hr:@CRel σ ρ c u):@CRel σ' ρ c u:=by
 cases c with
 | sv s G e =>
  obtain⟨h1,h2⟩:=hr
  exact⟨h1,by rw [adz h e hs];exact h2⟩
 | pv w G e i off =>
  simp only [atp,Ba] at hs
  obtain⟨h1,b,o,cap,h2⟩:=hr
  refine⟨h1,b,o,cap,?_⟩
  rw [adz h e hs.1,adz h i hs.2]
  exact h2
 | os z b n s G e =>
  simp only [atp,Ba] at hs
  obtain⟨h1,h2⟩:=hr
  refine⟨h1,?_⟩
  rw [adz h n hs.1,adz h e hs.2]
  exact h2
 | po b s i off =>
  obtain⟨L,h1⟩:=hr
  refine⟨L,?_⟩
  rw [adz h i hs]
  exact h1
 | lit v=>exact hr
 | ptr b off=>exact hr
 | sl b off len cap=>exact hr
 | su b off len s=>exact hr
 | sz b s=>exact hr
 | fn f caps=>exact hr
 | mp b=>exact hr
 | yd b=>exact hr
 | kp b off s=>exact hr
 | us=>exact hr
 | un k=>exact hr
theorem CRels.ext(h:Ext k σ σ'):∀ {cs:List Cel} {us:List Value},ajv k cs=true→All2 (@CRel σ ρ) cs us→All2 (@CRel σ' ρ) cs us
 | [],[],_,_=>trivial
 | c::cs,u::us,hs,⟨h1,h2⟩=>by
  simp only [ajv,Ba] at hs
  exact⟨CRel.ext h hs.1 h1,CRels.ext h hs.2 h2⟩
 | [],_::_,_,h=>h.elim
 | _::_,[],_,h=>h.elim
theorem PRel.ext(h:Ext k σ σ'){p:Bool×List Cel}{u:Value}(hs:ajv k p.2=true)(hr:@PRel σ ρ p u):@PRel σ' ρ p u:=by
 match p,hs,hr with
 | (true,xs),hs,⟨us,h1,h2⟩=>exact⟨us,h1,CRels.ext h hs h2⟩
 | (false,[c]),hs,hr =>
  have:atp k c=true:=by
   simp only [ajv,Ba] at hs
   exact hs.1
  exact CRel.ext h this hr
 | (false,[]),_,hr=>exact hr.elim
 | (false,_::_::_),_,hr=>exact hr.elim
theorem PRels.ext(h:Ext k σ σ'):∀ {ps:List (Bool×List Cel)} {us:List Value},a3z k ps=true→All2 (@PRel σ ρ) ps us→All2 (@PRel σ' ρ) ps us
 | [],[],_,_=>trivial
 | c::cs,u::us,hs,⟨h1,h2⟩=>by
  simp only [a3z,Ba] at hs
  exact⟨PRel.ext h hs.1 h1,PRels.ext h hs.2 h2⟩
 | [],_::_,_,h=>h.elim
 | _::_,[],_,h=>h.elim
theorem VRel.ext(h:Ext k σ σ'){v:AV}{u:Value}(hs:bj8 k v=true)(hr:@VRel σ ρ v u):@VRel σ' ρ v u:=by
 cases v with
 | one c=>exact CRel.ext h hs hr
 | agg xs=>obtain⟨us,h1,h2⟩:=hr;exact⟨us,h1,CRels.ext h hs h2⟩
 | tup ps=>obtain⟨us,h1,h2⟩:=hr;exact⟨us,h1,PRels.ext h hs h2⟩
theorem agq:∀ {F:Fm},alj k F=true→∀ t v,F.get t=some v→bj8 k v=true
 | .nil,_,t,v,h=>by rw [PT.get_nil] at h;cases h
 | .node none l r,hs,t,v,h=>by
  simp only [alj,Ba] at hs
  rw [PT.get_eq] at h
  by_cases h0:t=0
  ·rw [if_pos h0] at h;cases h
  ·rw [if_neg h0] at h
   by_cases h1:t % 2=1
   ·rw [if_pos h1] at h;exact agq hs.1 _ v h
   ·rw [if_neg h1] at h;exact agq hs.2 _ v h
 | .node (some v0) l r,hs,t,v,h=>by
  simp only [alj,Ba] at hs
  rw [PT.get_eq] at h
  by_cases h0:t=0
  ·rw [if_pos h0] at h
   cases (show some v0=some v from h)
   exact hs.1
  ·rw [if_neg h0] at h
   by_cases h1:t % 2=1
   ·rw [if_pos h1] at h;exact agq hs.2.1 _ v h
   ·rw [if_neg h1] at h;exact agq hs.2.2 _ v h
theorem FRel.ext(h:Ext k σ σ'){n:Nat}{F:Fm}{a:Act}(hs:alj k F=true)(hr:@FRel σ n ρ F a):@FRel σ' n ρ F a :=
 @FRel.mk σ' n ρ F a (@FRel.sz σ n ρ F a hr) fun t v hv =>
  let ⟨u,h1,h2⟩:=@FRel.get σ n ρ F a hr t v hv
  ⟨u,h1,VRel.ext h (agq hs t v hv) h2⟩
end
noncomputable section
def HP.learn(H:HP)(e:X):HP:=⟨H.t,H.n,H.lo,e::H.hy,H.nv⟩
def HP.learns(H:HP):List X→HP
 | []=>H
 | e::r=>(H.learns r).learn e
end
def a3y(k:Nat):List Ent→Bool
 | []=>true
 | e::r=>ajv k e.1.2&&(ajv k e.2.1.2&&a3y k r)
def aoh(k:Nat):Ct→Bool
 | .c x=>atp k x
 | .map es _=>a3y k es
 | .iter _ _ _ _=>true
 | .loop _ _ _ F _=>alj k F
 | .room=>true
 | .rows _ _ e n=>agj k e&&agj k n
 | .mx _ _ _ e c=>agj k e&&agj k c
 | .ix _ s c=>agj k s&&agj k c
def asj(k:Nat):List (Option Ct)→Bool
 | []=>true
 | none::r=>asj k r
 | some c::r=>aoh k c&&asj k r
def asi(k:Nat):Bk→Bool
 | .lf l=>asj k l
 | .fl _ c=>atp k c
 | .nd _ l r=>asi k l&&asi k r
def atq(k:Nat):PT Bk→Bool
 | .nil=>true
 | .node none l r=>atq k l&&atq k r
 | .node (some v) l r=>asi k v&&(atq k l&&atq k r)
def bqm(H:HP):Bool:=atq H.nv H.t&&ahb H.nv H.hy
section
variable {k:Nat} {σ σ':Sg} {ρ:PM}
theorem EntRels.ext(h:Ext k σ σ'):∀ {es:List Ent} {ms:List MapEntry},a3y k es=true→All2 (@auu σ ρ) es ms→All2 (@auu σ' ρ) es ms
 | [],[],_,_=>trivial
 | e::es,m::ms,hs,⟨⟨h1,h2,h3⟩,h4⟩=>by
  simp only [a3y,Ba] at hs
  exact⟨⟨PRel.ext h hs.1 h1,PRel.ext h hs.2.1 h2,h3⟩,EntRels.ext h hs.2.2 h4⟩
 | [],_::_,_,h=>h.elim
 | _::_,[],_,h=>h.elim
theorem aei.ext(h:Ext k σ σ'){w:World}{L:Loc}{i:Nat}{x:Ct}(hs:aoh k x=true)(hr:@aei σ ρ w L i x):@aei σ' ρ w L i x:=by
 cases x with
 | c x=>obtain⟨arr,t,fr,u,h1,h2,h3,h4,h5⟩:=hr;exact⟨arr,t,fr,u,h1,h2,h3,h4,CRel.ext h hs h5⟩
 | map es ck=>obtain⟨h1,h2,arr,h3,h4⟩:=hr;exact⟨h1,h2,arr,h3,EntRels.ext h hs h4⟩
 | iter m a b c=>exact hr
 | loop st pd n F kk =>
  obtain⟨h1,h2,r,h3,h4,h5,h6,h7,h8,h9,h10⟩:=hr
  have e:(@Us.lc σ'.toUs kk)=@Us.lc σ.toUs kk:=by rw [h.us]
  refine⟨h1,h2,r,h3,h4,h5,by rw [e];exact h6,by rw [e];exact h7,by rw [e];exact h8,h9,fun t v hv=>?_⟩
  obtain⟨u,g1,g2⟩:=h10 t v hv
  exact⟨u,g1,VRel.ext h (agq hs t v hv) g2⟩
 | room=>exact hr
 | rows ws G e n =>
  simp only [aoh,Ba] at hs
  obtain⟨h0,hG,hr⟩:=hr
  refine⟨h0,hG,?_⟩
  rw [adz h e hs.1,adz h n hs.2]
  exact hr
 | mx kw va vw e c =>
  simp only [aoh,Ba] at hs
  obtain⟨h0,h1,arr,ck,hr⟩:=hr
  refine⟨h0,h1,arr,ck,?_⟩
  rw [adz h e hs.1,adz h c hs.2]
  exact hr
 | ix m s c =>
  simp only [aoh,Ba] at hs
  obtain⟨h0,h1,K,since,seen,hr⟩:=hr
  refine⟨h0,h1,K,since,seen,?_⟩
  rw [adz h s hs.1,adz h c hs.2]
  exact hr
theorem aoi:∀ {l:List (Option Ct)},asj k l=true→∀ (i:Nat) (c:Ct),(l[i]?).join=some c→aoh k c=true
 | [],_,i,c,h=>by simp at h
 | none::r,hs,i,c,h=>by
  have hs:asj k r=true:=hs
  cases i with
  | zero=>simp at h
  | succ i=>simp only [List.getElem?_cons_succ] at h;exact aoi hs i c h
 | some x::r,hs,i,c,h=>by
  simp only [asj,Ba] at hs
  cases i with
  | zero =>
   simp only [List.getElem?_cons_zero,Option.join_some,Oi] at h
   subst h
   exact hs.1
  | succ i=>simp only [List.getElem?_cons_succ] at h;exact aoi hs.2 i c h
theorem aog[Sg]:∀ {b:Bk},asi k b=true→∀ (i:Nat) (c:Ct),b.get i=some c→aoh k c=true
 | .lf l,hs,i,c,h=>aoi hs i c h
 | .fl n x,hs,i,c,h=>by
  rw [Bk.get_fl] at h
  split at h
  ·cases h;exact hs
  ·cases h
 | .nd n l r,hs,i,c,h=>by
  simp only [asi,Ba] at hs
  rw [Bk.get_nd] at h
  split at h
  ·exact aog hs.1 i c h
  ·exact aog hs.2 _ c h
theorem ai2:∀ {t:PT Bk},atq k t=true→∀ b v,t.get b=some v→asi k v=true
 | .nil,_,t,v,h=>by rw [PT.get_nil] at h;cases h
 | .node none l r,hs,t,v,h=>by
  simp only [atq,Ba] at hs
  rw [PT.get_eq] at h
  by_cases h0:t=0
  ·rw [if_pos h0] at h;cases h
  ·rw [if_neg h0] at h
   by_cases h1:t % 2=1
   ·rw [if_pos h1] at h;exact ai2 hs.1 _ v h
   ·rw [if_neg h1] at h;exact ai2 hs.2 _ v h
 | .node (some v0) l r,hs,t,v,h=>by
  simp only [atq,Ba] at hs
  rw [PT.get_eq] at h
  by_cases h0:t=0
  ·rw [if_pos h0] at h
   cases (show some v0=some v from h)
   exact hs.1
  ·rw [if_neg h0] at h
   by_cases h1:t % 2=1
   ·rw [if_pos h1] at h;exact ai2 hs.2.1 _ v h
   ·rw [if_neg h1] at h;exact ai2 hs.2.2 _ v h
theorem Holds.ext(h:Ext k σ σ'):∀ {l:List X},ahb k l=true→@Holds σ l→@Holds σ' l
 | [],_,_=>fun x hx=>by cases hx
 | y::l,hs,hh=>by
  simp only [ahb,Ba] at hs
  intro x hx
  rcases Mn.1 hx with rfl | hx
  ·show(@den σ' x).bv=true
   rw [adz h x hs.1]
   exact hh x (Ms ..)
  ·exact Holds.ext h hs.2 (fun z hz=>hh z (Mc _ hz)) x hx
theorem HRel.ext{H:HP}{w:World}(h:Ext H.nv σ σ')(hs:bqm H=true)(hr:@HRel σ ρ H w):@HRel σ' ρ H w:=by
 unfold bqm at hs
 rw [Ba] at hs
 refine @HRel.mk σ' ρ H w (fun b i c L hc hL=>?_) (@HRel.inj σ _ _ _ hr) (Holds.ext h hs.2 (@HRel.hy σ _ _ _ hr))
 refine aei.ext h ?_ (@HRel.rel σ _ _ _ hr b i c L hc hL)
 unfold HP.cell at hc
 cases hb:H.t.get b with
 | none=>rw [hb] at hc;cases hc
 | some v=>rw [hb] at hc;exact @aog _ σ _ (ai2 hs.1 b v hb) i c hc
end
abbrev RV:=Option (List VC×List (AV×HP))
abbrev OraV:=Tg→List AV→HP→RV
def bd9(σ:Sg)(ρ:PM)(H:HP)(w:World)(outs:List (AV×HP)):Value→World→Prop:=fun u w' =>
 ∃ o∈outs,∃ σ',Ext H.nv σ σ'∧∃ ρ',@VRel σ' ρ' o.1 u∧SimF ρ H w ρ' o.2 w'∧@HRel σ' ρ' o.2 w'
def akc(U:Us)(P:Program)(orv:OraV):Prop :=
 ∀ (t:Tg) (args:List AV) (H:HP) (v:List VC) (outs:List (AV×HP)),orv t args H=some (v,outs)→(∀ z∈v,VCok U z)→(∀ o∈outs,Sc H o.2) ∧
  ∀ σ:Sg,σ.toUs=U→∀ (ρ:PM) (w:World) (us:Array Value) (s:Sem Next),bqx ρ us s t→All2 (@VRel σ ρ) args us.toList→@HRel σ ρ H w→Dom ρ H.n→J ρ H w→abz P (bd9 σ ρ H w outs) (s.run P w)
noncomputable section
def noV:OraV:=fun _ _ _=>none
def bhy(orv:OraV)(E:Operand→Option AV)(H:HP)(f:Operand)(args:Array Operand):RV :=
 match E f,ap3 E args.toList with
 | some (.one (.lit (.func (.func g) a b))),some vs=>if a.size=0∧b.size=0 then orv (.f g) vs H else none
 | some (.one (.fn (.func g) caps)),some vs=>orv (.f g) (vs++ptrs caps) H
 | some (.one (.yd b)),some vs=>orv (.y b) vs H
 | _,_=>none
end
theorem bp2{U:Us}{P:Program}:akc U P noV:=fun _ _ _ _ _ h=>(by cases h)
section
variable {P:Program} [Plain P] {ora:OraM} {orv:OraV} {U:Us} {n m:Nat} {r:Option Nat}
theorem bhz(ho:akc U P orv){E:Operand→Option AV}{H:HP}{f:Operand}{args:Array Operand}{ats:Array TypeId}{v:List VC}{outs:List (AV×HP)}(h:bhy orv E H f args=some (v,outs))(hv:∀ z∈v,VCok U z) :
  (∀ o∈outs,Sc H o.2)∧∀ (σ:Sg),σ.toUs=U→∀ {ρ:PM} {w:World} {ev:Operand→Value},(∀ z,(z=f∨z∈args.toList)→∀ a,E z=some a→@VRel σ ρ a (ev z))→@HRel σ ρ H w→Dom ρ H.n→J ρ H w →
   ∀ (dst:Option Tmp) (ty:TypeId) (pos:String) (after:Array Edge) (guard:Option (Nat×Bool)),abz P (bd9 σ ρ H w outs) ((execOp ev ⟨dst,.call ⟨.value f,args,ats⟩,ty,pos,after,guard⟩).run P w):=by
 unfold bhy at h
 split at h
 ·rename_i g a b vs hf hl
  split at h
  ·rename_i hab
   obtain⟨hst,hg⟩:=ho _ _ _ _ _ h hv
   refine⟨hst,fun σ hU ρ w ev hx hH hd hj dst ty pos after guard=>?_⟩
   obtain⟨hev,_⟩:=hx f (.inl rfl) _ hf
   have hus:=@acv σ E ρ ev args.toList vs (fun x hx' v hv=>hx x (.inr hx') v hv) hl
   have ha:a = #[]:=Array.eq_empty_of_size_eq_zero hab.1
   have hb:b = #[]:=Array.eq_empty_of_size_eq_zero hab.2
   subst ha
   subst hb
   have hrun:(execOp ev ⟨dst,.call ⟨.value f,args,ats⟩,ty,pos,after,guard⟩).run P w=(callFunc g (args.map ev)).run P w:=by
    simp [execOp,resolve,hev,Deferred.ofValue,invoke]
   rw [hrun]
   exact hg σ hU ρ w _ _ rfl (by simpa using hus) hH hd hj
  ·cases h
 ·rename_i g caps vs hf hl
  obtain⟨hst,hg⟩:=ho _ _ _ _ _ h hv
  refine⟨hst,fun σ hU ρ w ev hx hH hd hj dst ty pos after guard=>?_⟩
  obtain⟨us,hev,hcaps⟩:=hx f (.inl rfl) _ hf
  have hus:=@acv σ E ρ ev args.toList vs (fun x hx' v hv=>hx x (.inr hx') v hv) hl
  have hrun:(execOp ev ⟨dst,.call ⟨.value f,args,ats⟩,ty,pos,after,guard⟩).run P w=(callFunc g (args.map ev++us)).run P w:=by
   simp [execOp,resolve,hev,Deferred.ofValue,invoke]
  rw [hrun]
  exact hg σ hU ρ w _ _ rfl (by simpa using hus.append (@ao7 σ ρ _ _ hcaps)) hH hd hj
 ·rename_i b vs hf hl
  obtain⟨hst,hg⟩:=ho _ _ _ _ _ h hv
  refine⟨hst,fun σ hU ρ w ev hx hH hd hj dst ty pos after guard=>?_⟩
  obtain⟨L,hL,hev⟩:=hx f (.inl rfl) _ hf
  have hus:=@acv σ E ρ ev args.toList vs (fun x hx' v hv=>hx x (.inr hx') v hv) hl
  have hrun:(execOp ev ⟨dst,.call ⟨.value f,args,ats⟩,ty,pos,after,guard⟩).run P w=(Instr.yield L.B (args.map ev)).run P w:=by
   simp [execOp,resolve,hev,Deferred.ofValue,invoke]
  rw [hrun]
  exact hg σ hU ρ w _ _ ⟨L,hL,rfl⟩ (by simpa using hus) hH hd hj
 ·cases h
end
@[reducible] noncomputable def sg0:Sg:={ u:=fun _ _=>default,lc:=fun _=>⟨#[],.skip,.skip⟩,v:=fun _=>default }
def bip:Srt→Bool
 | .int _=>true
 | .bool=>true
 | .str=>true
 | .sl _=>false
theorem RS.plain{m m':Mem}{s:Srt}{d:CD}{u:Value}(hp:bip s=true)(h:RS m s d u):RS m' s d u:=by
 cases s with
 | int k=>exact h
 | bool=>exact h
 | str=>exact h
 | sl w=>cases hp
theorem RSs.plain{m m':Mem}:∀ {ss:List Srt} {row:List CD} {f:Nat→Option Value},(ss.all bip)=true→RSs m ss row f→RSs m' ss row f
 | [],row,f,_,h=>h
 | s::ss,row,f,hp,h=>by
  simp only [List.all_cons,Ba] at hp
  obtain⟨c,r,u,h1,h2,h3,h4⟩:=h
  exact⟨c,r,u,h1,h2,RS.plain hp.1 h3,RSs.plain hp.2 h4⟩
theorem RS.val{m:Mem}{s:Srt}{d:CD}{u:Value}(hp:bip s=true)(h:RS m s d u):d=.v u:=by
 cases s with
 | int k=>obtain⟨n,h1,h2,_⟩:=h;rw [h1,h2]
 | bool=>obtain⟨n,h1,h2⟩:=h;rw [h1,h2]
 | str=>obtain⟨n,h1,h2,_⟩:=h;rw [h1,h2]
 | sl w=>cases hp
section
variable {P:Program} [Plain P] {E:Operand→Option AV} {H H':HP} {w w':World} {ρ ρ':PM} {U:Us}
attribute [local instance] sg0
theorem PlR.one{s:Srt}{kr:List CD}{u:Value}(h:PlR false [s] kr u):∃ d,kr=[d]∧RS (fun _ _=>False) s d u:=by
 obtain⟨us,h1,h2,_,h4⟩:=h
 match us,h2 with
 | [x],_ =>
  obtain⟨c,r,u',h5,h6,h7,h8⟩:=h4
  have h8:r=[]:=h8
  subst h8
  have h6:some x=some u':=h6
  cases h6
  have h1:u=x:=h1
  rw [h1]
  exact⟨c,h5,h7⟩
end
noncomputable section
end
section
variable [Sg] {P:Program} [Plain P] {E:Operand→Option AV} {H H':HP} {w w':World} {ρ ρ':PM} {ev:Operand→Value} {v:AV}
theorem bue{f:Nat→X}:∀ {ss:List Srt} {ds:List CD} {us:List Value} {j:Nat} {cs:List Cel},cs.length=ss.length→(∀ i s,ss[i]? = some s→cs[i]? = some (Cel.sv s [] (f (j+i))))→(∀ i,i<ss.length→den (f (j+i))=ds.getD i default)→us.length=ss.length→RSs (fun _ _=>False) ss ds (fun j=>us[j]?)→All2 (CRel ρ) cs us:=by
 intro ss ds us j cs hl hc hd hu hr
 refine All2.of_get (by omega) fun i c u hi hv=>?_
 have hlt:i<ss.length:=by have:=(Ls.1 hi).1;omega
 obtain⟨u',h1,h2⟩:=hr.get i _ (Gl hlt)
 have h1:us[i]? = some u':=h1
 rw [hv] at h1
 cases h1
 have:=hc i _ (Gl hlt)
 rw [hi] at this
 cases this
 refine⟨fun g hg=>(by cases hg),?_⟩
 rw [hd i hlt]
 exact h2.mono fun _ _ h=>h.elim
theorem PlR.part{va:Bool}{vw:List Srt}{vr:List CD}{u:Value}{cs:List Cel}{f:Nat→X}{j:Nat}(h:PlR va vw vr u)(hl:cs.length=vw.length)(hc:∀ i s,vw[i]? = some s→cs[i]? = some (Cel.sv s [] (f (j+i))))(hd:∀ i,i<vw.length→den (f (j+i))=vr.getD i default):PRel ρ (va,cs) u:=by
 obtain⟨us,h1,h2,h3,h4⟩:=h
 have hr:=bue (ρ:=ρ) hl hc hd h2 h4
 subst h1
 cases va with
 | true=>exact⟨us.toArray,rfl,by simpa using hr⟩
 | false =>
  have h3:=h3 rfl
  match cs,us,(show cs.length=1 by omega),(show us.length=1 by omega),hr with
  | [c],[u],_,_,hr=>exact hr.1
theorem PRel.len1{xs:List Cel}{u:Value}(h:PRel ρ (false,xs) u):xs.length=1 :=
 match xs,h with
 | [_],_=>rfl
 | [],h=>h.elim
 | _::_::_,h=>h.elim
theorem bea{kr vr:List CD}{n:Nat}:asr (kr++(vr++[CD.v (.int .i64 n)]))=.v (.int .i64 n):=by
 unfold asr
 rw [← List.append_assoc,List.getLast?_append]
 rfl
theorem bqv.mok{kw:List Srt}{va:Bool}{vw:List Srt}{rows:List (List CD)}{ms:List MapEntry}{clock:Nat}(h:bqv kw va vw rows ms clock):MOk rows clock:=by
 obtain⟨h1,h2⟩:=h
 have hb:∀ (i:Nat) (r:List CD),rows[i]? = some r→∃ m:MapEntry,ms[i]? = some m∧asr r=.v (.int .i64 m.born)∧m.born<clock:=by
  intro i r hr
  obtain⟨m,g1,kr,vr,g2,g3,_⟩:=h1.get i r hr
  exact⟨m,g1,by rw [g2];exact bea,g3⟩
 refine⟨?_,fun r hr=>?_⟩
 ·rw [List.pairwise_iff_getElem] at h2 ⊢
  intro i j hi hj hlt
  obtain⟨m,g1,g2,_⟩:=hb i _ (Gl hi)
  obtain⟨m',g3,g4,_⟩:=hb j _ (Gl hj)
  obtain⟨l1,e1⟩:=Ls.1 g1
  obtain⟨l2,e2⟩:=Ls.1 g3
  have:=h2 i j l1 l2 hlt
  rw [e1,e2] at this
  rw [g2,g4]
  show(m.born:Int)<m'.born
  omega
 ·obtain⟨i,hi⟩:=List.getElem?_of_mem hr
  obtain⟨m,_,g2,g3⟩:=hb i r hi
  exact⟨m.born,g2,by omega⟩
end
section
variable {P:Program} [Plain P] {E:Operand→Option AV} {H H':HP} {w w':World} {ρ ρ':PM} {ev:Operand→Value}
@[reducible] noncomputable def Sg.more (σ:Sg) (k:Nat) (d:CD):Sg:={ toUs:=σ.toUs,v:=fun n=>if n=k then d else σ.v n }
end
def opV(P:Program)[Plain P](orv:OraV)(E:Operand→Option AV)(H:HP)(op:Op):RV :=
 match op with
 | .call c=>match c.callee with
  | .value f=>bhy orv E H f c.args
  | _=>none
 | _=>none
theorem bp7{P:Program}[Plain P]{orv:OraV}{U:Us}(ho:akc U P orv){E:Operand→Option AV}{H:HP}{op:Op}{v:List VC}{outs:List (AV×HP)}(h:opV P orv E H op=some (v,outs))(hv:∀ z∈v,VCok U z) :
  (∀ c,op≠.defer c)∧(∀ o∈outs,Sc H o.2)∧∀ (σ:Sg),σ.toUs=U→∀ {ρ:PM} {w:World} {ev:Operand→Value},(∀ x∈op.operands,∀ a,E x=some a→@VRel σ ρ a (ev x))→@HRel σ ρ H w→Dom ρ H.n→J ρ H w →
   ∀ (dst:Option Tmp) (ty:TypeId) (pos:String) (after:Array Edge) (guard:Option (Nat×Bool)),abz P (bd9 σ ρ H w outs) ((execOp ev ⟨dst,op,ty,pos,after,guard⟩).run P w):=by
 unfold opV at h
 split at h
 ·rename_i c
  obtain⟨callee,args,ats⟩:=c
  split at h
  ·rename_i f hc
   simp only at hc
   subst hc
   obtain⟨h1,h2⟩:=bhz (ats:=ats) ho h hv
   exact⟨fun c hh=>(by cases hh),h1,fun σ hU ρ w ev hx hH hd hj=>h2 σ hU (fun z hz=>hx z (by simp only [Op.operands,Call.operands,Array.mem_append];rcases hz with rfl | hz<;>simp_all)) hH hd hj⟩
  ·cases h
 ·cases h
section
variable {P:Program} [Plain P] {ora:OraM} {orv:OraV} {U:Us} {n m:Nat} {r:Option Nat}
noncomputable section
def a9h{α β:Type}(f:α→Option (List VC×List β)):List α→Option (List VC×List β)
 | []=>some ([],[])
 | [x]=>f x
 | x::y::r=>match f x,a9h f (y::r) with
  | some (a,b),some (c,d)=>some (a++c,b++d)
  | _,_=>none
def addV{β:Type}(v:List VC)(x:Option (List VC×List β)):Option (List VC×List β) :=
 match x with
 | some (v',l)=>some (v++v',l)
 | none=>none
end
theorem agn{α β:Type}{f:α→Option (List VC×List β)}:∀ {xs:List α} {v:List VC} {ys:List β},a9h f xs=some (v,ys)→(∀ x∈xs,∃ v1 zs,f x=some (v1,zs)∧(∀ z∈zs,z∈ys)∧∀ z∈v1,z∈v)∧∀ y∈ys,∃ x∈xs,∃ v1 zs,f x=some (v1,zs)∧y∈zs
 | [],v,ys,h=>by
  cases h
  exact⟨fun x hx=>(by cases hx),fun x hx=>(by cases hx)⟩
 | [x],v,ys,h=>by
  have h':f x=some (v,ys):=h
  exact⟨fun y hy=>by rw [Mg.1 hy];exact⟨v,ys,h',fun z hz=>hz,fun z hz=>hz⟩,fun y hy=>⟨x,by simp,v,ys,h',hy⟩⟩
 | x::y::r,v,ys,h=>by
  simp only [a9h] at h
  cases h1:f x with
  | none=>rw [h1] at h;cases h
  | some a =>
   cases h2:a9h f (y::r) with
   | none=>rw [h1,h2] at h;cases h
   | some b =>
    obtain⟨a1,a2⟩:=a
    obtain⟨b1,b2⟩:=b
    rw [h1,h2] at h
    cases h
    obtain⟨k1,k2⟩:=agn h2
    refine⟨fun z hz=>?_,fun z hz=>?_⟩
    ·rcases Mn.1 hz with rfl | hz
     ·exact⟨a1,a2,h1,fun z hz=>List.mem_append_left _ hz,fun z hz=>List.mem_append_left _ hz⟩
     ·obtain⟨v1,zs,g1,g2,g3⟩:=k1 z hz
      exact⟨v1,zs,g1,fun u hu=>List.mem_append_right _ (g2 u hu),fun u hu=>List.mem_append_right _ (g3 u hu)⟩
    ·rcases List.mem_append.1 hz with hz | hz
     ·exact⟨x,Ms ..,a1,a2,h1,hz⟩
     ·obtain⟨x',g1,g2⟩:=k2 z hz
      exact⟨x',Mc _ g1,g2⟩
theorem auw{β:Type}{v v0:List VC}{x:Option (List VC×List β)}{l:List β}(h:addV v0 x=some (v,l)):∃ v',x=some (v',l)∧v=v0++v':=by
 unfold addV at h
 split at h
 ·cases h;exact⟨_,rfl,rfl⟩
 ·cases h
def seqV(P:Program)[Plain P](ora:OraM)(orv:OraV)(n:Nat)(ops:List Oper):List Oper→Fm→HP→Option (List VC×List (Fm×HP))
 | [],F,H=>some ([],[(F,H)])
 | o::rest,F,H =>
  match ayv H.hy ops F o.guard with
  | some true=>match opV P orv (evF F) H o.op with
   | some (v,outs)=>match alj H.nv F with
    | true=>addV v (a9h (fun x=>match putF n F o.dst x.1 with
     | some F'=>seqV P ora orv n ops rest F' x.2
     | none=>none) outs)
    | false=>none
   | none=>match bkf o.op P inferInstance ora (evF F) H with
    | some outs=>a9h (fun x=>match putF n F o.dst x.1 with
     | some F'=>seqV P ora orv n ops rest F' x.2
     | none=>none) outs
    | none=>none
  | some false=>match putF n F o.dst aho with
   | some F'=>seqV P ora orv n ops rest F' H
   | none=>none
  | none=>none
theorem a4a(ho:akc U P orv)(hora:ahh U P ora)(σ:Sg)(hU:σ.toUs=U){ops:List Oper}:∀ (rest:List Oper) {F:Fm} {H:HP} {v:List VC} {res:List (Fm×HP)},seqV P ora orv n ops rest F H=some (v,res)→(∀ z∈v,VCok U z)→∀ x∈res,Sc H x.2
 | [],F,H,v,res,h,_=>by cases h;exact fun x hx=>by rw [Mg.1 hx];exact Sc.refl _
 | o::rest,F,H,v,res,h,hv=>by
  simp only [seqV] at h
  split at h
  ·split at h
   ·rename_i v1 outs hc
    split at h
    ·obtain⟨v2,h0,rfl⟩:=auw h
     obtain⟨h1,h2⟩:=agn h0
     obtain⟨_,g1,_⟩:=bp7 ho hc (fun z hz=>hv z (List.mem_append_left _ hz))
     intro x hx
     obtain⟨y,hy,w1,zs,h3,h4⟩:=h2 x hx
     obtain⟨w1',zs',h3',h4',h5'⟩:=h1 y hy
     rw [h3] at h3'
     cases h3'
     split at h3
     ·exact(g1 y hy).trans (a4a ho hora σ hU rest h3 (fun z hz=>hv z (List.mem_append_right _ (h5' z hz))) x h4)
     ·cases h3
    ·cases h
   ·split at h
    ·rename_i outs hstep
     have hstep:=ayc hstep
     obtain⟨h1,h2⟩:=agn h
     intro x hx
     obtain⟨y,hy,w1,zs,h3,h4⟩:=h2 x hx
     obtain⟨w1',zs',h3',h4',h5'⟩:=h1 y hy
     rw [h3] at h3'
     cases h3'
     split at h3
     ·exact(@bdr σ P _ _ _ _ (hora σ hU) _ _ hstep y hy).trans (a4a ho hora σ hU rest h3 (fun z hz=>hv z (h5' z hz)) x h4)
     ·cases h3
    ·cases h
  ·split at h
   ·exact a4a ho hora σ hU rest h hv
   ·cases h
  ·cases h
theorem a4b(ho:akc U P orv)(hora:ahh U P ora){ops:List Oper}{Q:Exit→Act→World→Prop}:∀ (rest:List Oper) (σ:Sg),σ.toUs=U→∀ {ρ:PM} {F:Fm} {H:HP} {a:Act} {w:World} {v:List VC} {res:List (Fm×HP)},
  seqV P ora orv n ops rest F H=some (v,res)→(∀ z∈v,VCok U z)→@SRel σ n ρ F H a w→(∀ σ',Ext H.nv σ σ'→∀ x∈res,∀ ρ' a' w',@SRel σ' n ρ' x.1 x.2 a' w'→a'.defers=a.defers→SimF ρ H w ρ' x.2 w'→Q .normal a' w')→wpListIn (WF r) m P ops.toArray Q rest a w
 | [],σ,hU,ρ,F,H,a,w,v,res,h,hv,s,hq=>by cases h;exact hq σ (Ext.refl _ _) _ (Mg.2 rfl) ρ a w s rfl (@Sim.f σ _ _ _ _ _ _ (@Sim.refl σ _ _ _ (@SRel.hp σ _ _ _ _ _ _ s) (@SRel.dom σ _ _ _ _ _ _ s)))
 | o::rest,σ,hU,ρ,F,H,a,w,v,res,h,hv,s,hq=>by
  have hfr:=@SRel.fr σ _ _ _ _ _ _ s
  have hhp:=@SRel.hp σ _ _ _ _ _ _ s
  have hdm:=@SRel.dom σ _ _ _ _ _ _ s
  have hjj:=@SRel.j σ _ _ _ _ _ _ s
  simp only [seqV] at h
  split at h
  ·rename_i hw
   have hwant:=@bd1 σ n ρ F a ops o _ _ (@HRel.hy σ _ _ _ hhp) hfr hw
   simp only [wpListIn]
   rw [if_pos hwant]
   split at h
   ·rename_i v1 outs hc
    split at h
    ·rename_i hsc
     obtain⟨v2,h0,rfl⟩:=auw h
     obtain⟨h1,h2⟩:=agn h0
     obtain⟨hnd,g1,g2⟩:=bp7 ho hc (fun z hz=>hv z (List.mem_append_left _ hz))
     have g3:=g2 σ hU (ρ:=ρ) (w:=w) (ev:=a.eval) (fun z _ v hv=>@am3 σ _ _ _ _ hfr _ _ hv) hhp hdm hjj
     have hput:∀ x∈outs,∃ F',putF n F o.dst x.1=some F'∧∃ v3 zs,seqV P ora orv n ops rest F' x.2=some (v3,zs)∧(∀ z∈zs,z∈res)∧∀ z∈v3,z∈v2:=by
      intro x hx
      obtain⟨v3,zs,h3,h4,h5⟩:=h1 x hx
      split at h3
      ·rename_i F' hp
       exact⟨F',hp,v3,zs,h3,h4,h5⟩
      ·cases h3
     refine⟨fun f _=>trivial,?_⟩
     rw [Oper.semAt_eq _ _ _ hnd]
     obtain⟨dst,op,ty,pos,after,guard⟩:=o
     refine agm (g3 dst ty pos after guard) fun u w' ⟨x,hx,σ',hext,ρ',hvr,hs,hhr⟩=>?_
     obtain⟨F',hF,v3,zs,h4,h5,h6⟩:=hput x hx
     have s':@SRel σ' n ρ' F' x.2 (a.put dst u) w':=@SRel.mk σ' n ρ' F' x.2 _ w' (@aun σ' _ _ _ _ _ _ _ _ (@FRel.mono σ' _ _ _ _ _ (FRel.ext hext hsc hfr) hs.le) hvr hF) hhr hs.dom (hs.jj hjj)
     refine a4b ho hora rest σ' (hext.us.trans hU) h4 (fun z hz=>hv z (List.mem_append_right _ (h6 z hz))) s' fun σ2 he2 y hy ρ2 a2 w2 s2 hd2 hs2=>?_
     exact hq σ2 (hext.trans (g1 x hx).2.2 he2) y (h5 y hy) ρ2 a2 w2 s2 (hd2.trans (put_defers _ _ _)) (@SimF.trans σ _ _ _ _ _ _ _ _ _ hdm hs hs2)
    ·cases h
   ·split at h
    ·rename_i outs hstep
     have hstep:=ayc hstep
     obtain⟨h1,h2⟩:=agn h
     have hput:∀ x∈outs,∃ F',putF n F o.dst x.1=some F'∧∃ v3 zs,seqV P ora orv n ops rest F' x.2=some (v3,zs)∧(∀ z∈zs,z∈res)∧∀ z∈v3,z∈v:=by
      intro x hx
      obtain⟨v3,zs,h3,h4,h5⟩:=h1 x hx
      split at h3
      ·rename_i F' hp
       exact⟨F',hp,v3,zs,h3,h4,h5⟩
      ·cases h3
     refine @bna σ P _ ora n m r ρ F H a w outs (hora σ hU) o _ _ hstep (fun x hx=>let ⟨F',h3,_⟩:=hput x hx;⟨F',h3⟩) s fun x hx F' hF ρ' a' w' s' hd hs=>?_
     obtain⟨F2,h3,v3,zs,h4,h5,h6⟩:=hput x hx
     rw [hF] at h3
     cases h3
     refine a4b ho hora rest σ hU h4 (fun z hz=>hv z (h6 z hz)) s' fun σ2 he2 y hy ρ2 a2 w2 s2 hd2 hs2=>?_
     have hsc:=@bdr σ P _ _ _ _ (hora σ hU) _ _ hstep x hx
     exact hq σ2 ((Ext.refl _ σ).trans hsc.2.2 he2) y (h5 y hy) ρ2 a2 w2 s2 (hd2.trans hd) (@SimF.trans σ _ _ _ _ _ _ _ _ _ hdm (@Sim.f σ _ _ _ _ _ _ hs) hs2)
    ·cases h
  ·rename_i hw
   have hwant:=@bd1 σ n ρ F a ops o _ _ (@HRel.hy σ _ _ _ hhp) hfr hw
   split at h
   ·rename_i F1 hput
    simp only [wpListIn]
    rw [if_neg (by rw [hwant];simp)]
    refine⟨fun f _=>trivial,?_⟩
    exact a4b ho hora rest σ hU h hv (@SRel.mk σ n ρ F1 H _ w (@aun σ _ _ _ _ _ _ _ _ hfr (@apr σ ρ) hput) hhp hdm hjj) fun σ2 he2 x hx ρ2 a2 w2 s2 hd2 hs2=>hq σ2 he2 x hx ρ2 a2 w2 s2 (hd2.trans (put_defers _ _ _)) hs2
   ·cases h
  ·cases h
theorem bur(ho:akc U P orv)(hora:ahh U P ora)(σ:Sg)(hU:σ.toUs=U){id:Nat}{ops:List Oper}{Q:Exit→Act→World→Prop}{ρ:PM}{F:Fm}{H:HP}{a:Act}{w:World}{v:List VC}{res:List (Fm×HP)}(h:seqV P ora orv n ops ops F H=some (v,res))(hv:∀ z∈v,VCok U z)(s:@SRel σ n ρ F H a w)
  (hq:∀ σ',Ext H.nv σ σ'→∀ x∈res,∀ ρ' a' w',@SRel σ' n ρ' x.1 x.2 a' w'→a'.defers=a.defers→SimF ρ H w ρ' x.2 w'→Q .normal a' w'):(Code.region id ops.toArray false).wpIn (WF r) m P Q a w :=
 wpIn_region_lit (a4b ho hora ops σ hU h hv s hq)
end
noncomputable section
def frzC(H:HP)(c:Cel):Option (Cel×HP) :=
 match c with
 | .os z b n sz G ec=>match af4 H b with
  | some (w,G',e,nb)=>match uniS w&&(eqX n nb&&(Nat.beq sz w.length&&(subN G' G&&fitE H.hy z n ec e))) with
   | true=>some (.sv (.sl w) (H.n::G') (.ap (.mk z) [e]),(H.drop b).push (.lf []))
   | false=>none
  | none=>none
 | _=>none
def bt8:AV→Option (Nat×Nat)
 | .one (.ptr b o)=>some (b,o)
 | .one (.sl b o _ _)=>some (b,o)
 | _=>none
def frz(t:Nat)(off:Option Nat)(F:Fm)(H:HP):Option (Fm×HP) :=
 match off with
 | none=>match F.get t with
  | some (.one c)=>match frzC H c with
   | some (c',H')=>some (F.put t (some (.one c')),H')
   | none=>none
  | _=>none
 | some off=>match(F.get t).bind bt8 with
  | some (b,o)=>match H.read b (o+off) 1 with
   | some [c]=>match frzC H c with
    | some (c',H')=>match H'.write b (o+off) [c'] with
     | some H2=>some (F,H2)
     | none=>none
    | none=>none
   | _=>none
  | _=>none
def fzP(t off:Nat):X:=.ap (.nil true) [.lit (.int .i64 (Int.ofNat t)),.lit (.int .i64 (Int.ofNat off))]
def isFz:X→Option (Nat×Option Nat)
 | .ap (.nil true) [.lit (.int .i64 (Int.ofNat t))]=>some (t,none)
 | .ap (.nil true) [.lit (.int .i64 (Int.ofNat t)),.lit (.int .i64 (Int.ofNat o))]=>some (t,some o)
 | _=>none
def frzL:List X→Fm→HP→Fm×HP
 | [],F,H=>(F,H)
 | x::r,F,H=>match isFz x with
  | some (t,o)=>match frz t o F H with
   | some (F',H')=>frzL r F' H'
   | none=>frzL r F H
  | none=>frzL r F H
def noFz:List X→List X
 | []=>[]
 | x::r=>match isFz x with
  | some _=>noFz r
  | none=>x::noFz r
end
section
variable {σ:Sg} {n:Nat} {ρ:PM} {F F':Fm} {H H':HP} {a:Act} {w:World}
theorem bgv{c c':Cel}(h:frzC H c=some (c',H'))(hH:@HRel σ ρ H w)(hd:Dom ρ H.n)(hj:J ρ H w) :
  ∃ ρ',@HRel σ ρ' H' w∧SimF ρ H w ρ' H' w∧J ρ' H' w∧H'.hy=H.hy∧H'.nv=H.nv∧Unt H H'∧H.n≤H'.n∧∀ u,@CRel σ ρ c u→@CRel σ ρ' c' u:=by
 unfold frzC at h
 split at h
 rotate_left
 ·cases h
 rename_i z b nn sz G ec
 split at h
 rotate_left
 ·cases h
 rename_i ws G' e nb hrw
 split at h
 rotate_left
 ·cases h
 rename_i hok
 cases h
 simp only [Ba] at hok
 obtain⟨q1,q2,q3,q4,q5⟩:=hok
 have q2:=aap q2
 subst q2
 have q3:=Nb q3
 let M:Mem:=fun k o=>∃ L,ρ b=some L∧k=L.B∧w.heap[k]? = some o
 have hfr:=hd H.n (Rl _)
 have hle:PM.le ρ (upd ρ H.n ⟨w.heap.size,0,0,some M⟩):=ahp hfr
 have hbk:H.Kn b:=⟨0,_,(@abm σ H b _ _ _ _ hrw).1⟩
 have hcell:∀ b' i,((H.drop b).push (.lf [])).cell b' i=if b'=H.n then none else if b'=b then none else H.cell b' i:=by
  intro b' i
  rw [HP.cell_push]
  show(if b'=H.n then _ else(H.drop b).cell b' i)=_
  split
  ·rfl
  ·unfold HP.cell HP.drop
   rw [PT.get_put]
   split
   ·rfl
   ·rfl
 have hkn:∀ b',((H.drop b).push (.lf [])).Kn b'→b'≠H.n∧b'≠b∧H.Kn b':=by
  rintro b' ⟨i,c,hc⟩
  rw [hcell] at hc
  split at hc
  ·cases hc
  ·split at hc
   ·cases hc
   ·exact⟨‹_›,‹_›,i,c,hc⟩
 have hrel:@HRel σ (upd ρ H.n ⟨w.heap.size,0,0,some M⟩) ((H.drop b).push (.lf [])) w:=by
  refine @HRel.mk σ _ _ _ (fun b' i c L hc hL=>?_) (fun b1 b2 L1 L2 g1 g2 hL hL' he=>?_) (show @Holds σ H.hy from @HRel.hy σ _ _ _ hH)
  ·rw [hcell] at hc
   split at hc
   ·cases hc
   ·rename_i h1
    split at hc
    ·cases hc
    ·rw [upd_ne h1] at hL
     exact @aei.mono σ _ _ hle _ _ _ _ (@HRel.rel σ _ _ _ hH b' i c L hc hL)
  ·obtain⟨h1,_,h2⟩:=hkn b1 g1
   obtain⟨h3,_,h4⟩:=hkn b2 g2
   rw [upd_ne h1] at hL
   rw [upd_ne h3] at hL'
   exact @HRel.inj σ _ _ _ hH b1 b2 L1 L2 h2 h4 hL hL' he
 have hjj:J ρ H w→J (upd ρ H.n ⟨w.heap.size,0,0,some M⟩) ((H.drop b).push (.lf [])) w:=by
  intro hj
  refine⟨fun x hx=>⟨hj.tw x hx,fun b' L' hb' hL'=>?_⟩,fun g L M' hg hM k o ho=>?_⟩
  ·obtain⟨h4,_,h5⟩:=hkn b' hb'
   rw [upd_ne h4] at hL'
   exact(hj.1 x hx).2 b' L' h5 hL'
  by_cases h1:g=H.n
  ·subst h1
   rw [upd_same] at hg
   cases hg
   cases hM
   obtain⟨L,hL,rfl,ho⟩:=ho
   refine⟨ho,fun b' L' hb' hL' he=>?_⟩
   obtain⟨h3,h4,h5⟩:=hkn b' hb'
   rw [upd_ne h3] at hL'
   exact h4 (@HRel.inj σ _ _ _ hH b' b L' L h5 hbk hL' hL he)
  ·rw [upd_ne h1] at hg
   obtain⟨h2,h3⟩:=hj.2 g L M' hg hM k o ho
   refine⟨h2,fun b' L' hb' hL'=>?_⟩
   obtain⟨h4,_,h5⟩:=hkn b' hb'
   rw [upd_ne h4] at hL'
   exact h3 b' L' h5 hL'
 have hn:((H.drop b).push (.lf [])).n=H.n+1:=rfl
 refine⟨upd ρ H.n ⟨w.heap.size,0,0,some M⟩,hrel,⟨hle,by rw [hn];omega,fun b' hb'=>?_,fun b' i hb' hc=>?_,fun _ _ _=>rfl,fun b' L h1 h2=>?_,Rl _,rfl,rfl,rfl,fun b' L h1 h2=>?_,hjj,fun g L M' k o h1 h2 h3 h4=>?_⟩,hjj hj,rfl,rfl,?_,by rw [hn];omega,fun u hu=>?_⟩
 ·rw [hn] at hb'
  rw [upd_ne (by omega)]
  exact hd b' (by omega)
 ·rw [hcell]
  split
  ·rfl
  ·split
   ·rfl
   ·exact hc
 ·by_cases h3:b'=H.n
  ·subst h3
   rw [upd_same] at h2
   cases h2
   exact .inl (Rl _)
  ·rw [upd_ne h3,h1] at h2;cases h2
 ·by_cases h3:b'=H.n
  ·subst h3;exact Rl _
  ·rw [upd_ne h3,h1] at h2;cases h2
 ·by_cases h5:g=H.n
  ·subst h5
   rw [upd_same] at h2
   cases h2
   cases h3
   obtain⟨L,hL,rfl,ho⟩:=h4
   refine⟨.inr ⟨b,L,hbk,hL,rfl⟩,?_⟩
   obtain⟨_,_,_,arr,tt,fr,g1,g2,_⟩:=@HRel.rel σ _ _ _ hH b 0 _ L (@abm σ H b _ _ _ _ hrw).1 hL
   rw [g1] at ho
   cases ho
   exact⟨arr,tt,fr,rfl,g2.1,_,g2.2 q1⟩
  ·rw [upd_ne h5,h1] at h2;cases h2
 ·exact(@St.trans σ _ _ _ (@St.drop σ H b) (@St.push σ (H.drop b) (.lf []))).1
 ·obtain⟨hG,hr⟩:=hu
  rcases hr with ⟨e0,e1,e1',e2⟩ | ⟨e0,L,k,cap,e1,e2,e3,e4,e5,e6,e7⟩
  ·refine⟨fun g hg=>?_,.inl ⟨?_,e2⟩⟩
   ·rcases Mn.1 hg with rfl | hg
    ·exact⟨_,upd_same _ _ _⟩
    ·obtain⟨L',hL'⟩:=hG g (ayg q4 g hg)
     exact⟨L',hle _ _ hL'⟩
   ·have hrows:=@avt σ _ (@HRel.hy σ _ _ _ hH) _ _ _ _ q5 e0 e1 e1'
    have hden:@den σ (.ap (.mk z) [e])=.sl (z&&(@den σ e).rows.isEmpty) (@den σ e).rows:=rfl
    rw [hden,hrows,e0]
    rfl
  ·obtain⟨_,hG',g0,arr,tt,fr,g1,g2,g3,g4,g5,g6⟩:=@HRel.rel σ _ _ _ hH b 0 _ L (@abm σ H b _ _ _ _ hrw).1 e1
   have hk:k=(@den σ e).rows.length:=by omega
   have hden:@den σ (.ap (.mk z) [e])=.sl (z&&(@den σ e).rows.isEmpty) (@den σ e).rows:=rfl
   refine⟨fun g hg=>?_,.inr (.inl ⟨(@den σ e).rows,L.B,L.o,cap,?_,by rw [e3,hk],by omega,e5,fun hne=>⟨arr,tt,fr,⟨⟨H.n,Ms ..,_,M,upd_same _ _ _,rfl,L,e1,rfl,g1⟩,by rw [← q3];omega⟩,fun i row hi=>(g6 i row hi).mono fun k' o' ⟨g,hg,L',M',h1,h2,h3⟩=>⟨g,Mc _ hg,L',M',hle _ _ h1,h2,h3⟩⟩⟩)⟩
   ·rcases Mn.1 hg with rfl | hg
    ·exact⟨_,upd_same _ _ _⟩
    ·obtain⟨L',hL'⟩:=hG' g hg
     exact⟨L',hle _ _ hL'⟩
   ·rw [hden]
    have:(z&&(@den σ e).rows.isEmpty)=false:=by
     cases z with
     | false=>rfl
     | true =>
      cases hr0:(@den σ e).rows with
      | nil=>exfalso;rw [hr0] at g0;exact e0 ⟨rfl,g0⟩
      | cons r rs=>rfl
    rw [this]
theorem bwj{t:Nat}{off:Option Nat}(h:frz t off F H=some (F',H'))(s:@SRel σ n ρ F H a w) :
  ∃ ρ',@SRel σ n ρ' F' H' a w∧SimF ρ H w ρ' H' w∧H'.hy=H.hy∧Sc H H':=by
 have hfr:=@SRel.fr σ _ _ _ _ _ _ s
 have hhp:=@SRel.hp σ _ _ _ _ _ _ s
 have hdm:=@SRel.dom σ _ _ _ _ _ _ s
 have hjj:=@SRel.j σ _ _ _ _ _ _ s
 unfold frz at h
 split at h
 ·split at h
  ·rename_i c hc
   split at h
   ·rename_i c' H1 hz
    cases h
    obtain⟨ρ',k1,k2,k3,k4,k5,k6,k7,k8⟩:=bgv hz hhp hdm hjj
    refine⟨ρ',@SRel.mk σ _ _ _ _ _ _ (@FRel.mk σ _ _ _ _ (@FRel.sz σ _ _ _ _ hfr) fun t' v hv=>?_) k1 k2.dom k3,k2,k4,k6,k7,by rw [k5];exact Rl _⟩
    rw [PT.get_put] at hv
    split at hv
    ·rename_i ht
     subst ht
     cases hv
     obtain⟨u,h1,h2⟩:=@FRel.get σ _ _ _ _ hfr t' _ hc
     exact⟨u,h1,k8 u h2⟩
    ·obtain⟨u,h1,h2⟩:=@FRel.get σ _ _ _ _ hfr t' v hv
     exact⟨u,h1,@VRel.mono σ _ _ k2.le _ _ h2⟩
   ·cases h
  ·cases h
 ·rename_i off
  split at h
  ·rename_i b o hc
   split at h
   ·rename_i c hrd
    split at h
    ·rename_i c' H1 hz
     split at h
     ·rename_i H2 hw
      cases h
      obtain⟨ρ',k1,k2,k3,k4,k5,k6,k7,k8⟩:=bgv hz hhp hdm hjj
      obtain⟨w1,w2,w3⟩:=@HP.write_spec σ _ _ _ _ _ hw
      obtain⟨r1,r2⟩:=@HP.read_spec σ _ _ _ _ _ hrd
      have hold:H.cell b (o+off)=some (.c c):=by simpa using r2 0 c rfl
      have hkn:∀ b' i,H'.cell b' i=none↔H1.cell b' i=none:=by
       intro b' i
       rw [w2]
       split
       ·rename_i hh
        obtain⟨rfl,h1,h2⟩:=hh
        have h2:i<o+off+1:=h2
        have:i=o+off:=by omega
        subst this
        obtain⟨c0,hc0,_⟩:=w3 0 (by simp)
        rw [Nat.add_zero] at hc0
        rw [hc0]
        simp
       ·exact Iff.rfl
      have hkn':∀ b',H'.Kn b'→H1.Kn b':=fun b' ⟨i,x,hx⟩=>by
       cases hh:H1.cell b' i with
       | some y=>exact⟨i,y,hh⟩
       | none=>rw [(hkn b' i).2 hh] at hx;cases hx
      have hrel:@HRel σ ρ' H' w:=by
       refine @HRel.mk σ _ _ _ (fun b' i x L hx hL=>?_) (fun b1 b2 L1 L2 g1 g2 hL hL' he=>@HRel.inj σ _ _ _ k1 b1 b2 L1 L2 (hkn' b1 g1) (hkn' b2 g2) hL hL' he) (by rw [HP.write_hy hw];exact @HRel.hy σ _ _ _ k1)
       rw [w2] at hx
       split at hx
       ·rename_i hh
        obtain⟨rfl,h1,h2⟩:=hh
        have h2:i<o+off+1:=h2
        have:i=o+off:=by omega
        subst this
        simp at hx
        subst hx
        obtain⟨c0,hc0,hp0⟩:=w3 0 (by simp)
        rw [Nat.add_zero] at hc0
        cases hb:ρ b' with
        | none =>
         exfalso
         obtain⟨v0,hv0,hsb⟩:=aa8 hc
         obtain⟨u,_,hrel0⟩:=@FRel.get σ _ _ _ _ hfr t _ hv0
         unfold bt8 at hsb
         split at hsb
         ·cases hsb
          obtain⟨L1,hL1,_⟩:=hrel0
          rw [hb] at hL1
          cases hL1
         ·cases hsb
          obtain⟨⟨L1,hL1,_⟩,_⟩:=hrel0
          rw [hb] at hL1
          cases hL1
         ·cases hsb
        | some L0 =>
         have:=k2.le b' L0 hb
         rw [hL] at this
         cases this
         obtain⟨arr,tt,fr,u,e1,e2,e3,e4,e5⟩:=@HRel.rel σ _ _ _ hhp b' (o+off) _ L hold hb
         exact⟨arr,tt,fr,u,e1,e2,e3,e4,k8 u e5⟩
       ·exact @HRel.rel σ _ _ _ k1 b' i x L hx hL
      have hs:SimF ρ H w ρ' H' w:=⟨k2.le,by rw [w1];exact k2.grow,by rw [w1];exact k2.dom,fun b' i hb' hc'=>(hkn b' i).2 (k2.knc b' i hb' hc'),k2.fr,k2.new,k2.size,k2.os,k2.tape,k2.output,k2.old,fun hj=>by
       have:=k2.jj hj
       exact this.less (PM.le.refl _) fun b' L' hb' _=>hkn' b' hb',k2.ro⟩
      refine⟨ρ',@SRel.mk σ _ _ _ _ _ _ (@FRel.mk σ _ _ _ _ (@FRel.sz σ _ _ _ _ hfr) fun t' v hv=>?_) hrel hs.dom (hs.jj hjj),hs,by rw [HP.write_hy hw];exact k4,?_⟩
      ·obtain⟨u,h1,h2⟩:=@FRel.get σ _ _ _ _ hfr t' v hv
       exact⟨u,h1,@VRel.mono σ _ _ k2.le _ _ h2⟩
      ·exact @Sc.trans σ _ _ _ ⟨k6,k7,by rw [k5];exact Rl _⟩ (@St.sc σ _ _ (@St.write σ _ _ _ _ _ hw))
     ·cases h
    ·cases h
   ·cases h
  ·cases h
theorem a1t:∀ {xs:List X} {F:Fm} {H:HP} {ρ:PM},@SRel σ n ρ F H a w→∃ ρ',@SRel σ n ρ' (frzL xs F H).1 (frzL xs F H).2 a w∧SimF ρ H w ρ' (frzL xs F H).2 w∧(frzL xs F H).2.hy=H.hy
 | [],F,H,ρ,s=>⟨ρ,s,@Sim.f σ _ _ _ _ _ _ (@Sim.refl σ _ _ _ (@SRel.hp σ _ _ _ _ _ _ s) (@SRel.dom σ _ _ _ _ _ _ s)),rfl⟩
 | x::r,F,H,ρ,s=>by
  unfold frzL
  split
  ·rename_i t o ht
   split
   ·rename_i F' H' hz
    obtain⟨ρ1,k1,k2,k3,_⟩:=bwj hz s
    obtain⟨ρ2,k4,k5,k6⟩:=a1t (xs:=r) k1
    exact⟨ρ2,k4,@SimF.trans σ _ _ _ _ _ _ _ _ _ (@SRel.dom σ _ _ _ _ _ _ s) k2 k5,k6.trans k3⟩
   ·exact a1t (xs:=r) s
  ·exact a1t (xs:=r) s
end
theorem bwk[Sg]{t:Nat}{off:Option Nat}{F F':Fm}{H H':HP}(h:frz t off F H=some (F',H')):Sc H H'∧H'.nv=H.nv:=by
 have hC:∀ {c c':Cel} {H1:HP},frzC H c=some (c',H1)→Sc H H1∧H1.nv=H.nv:=by
  intro c c' H1 h
  unfold frzC at h
  repeat' (split at h)
  all_goals first
   | (cases h;done)
   | skip
  cases h
  exact⟨((St.drop _ _).trans (St.push _ _)).sc,rfl⟩
 unfold frz at h
 split at h
 ·split at h
  ·split at h
   ·rename_i hz
    cases h
    exact hC hz
   ·cases h
  ·cases h
 ·split at h
  ·split at h
   ·split at h
    ·rename_i hz
     split at h
     ·rename_i hw
      cases h
      exact⟨(hC hz).1.trans (St.write hw).sc,by rw [(St.write hw).2.2.2];exact(hC hz).2⟩
     ·cases h
    ·cases h
   ·cases h
  ·cases h
theorem a1u[Sg]:∀ {xs:List X} {F:Fm} {H:HP},Sc H (frzL xs F H).2∧(frzL xs F H).2.nv=H.nv
 | [],F,H=>⟨Sc.refl H,rfl⟩
 | x::r,F,H=>by
  unfold frzL
  split
  ·split
   ·rename_i F' H' hz
    obtain⟨h1,h2⟩:=bwk hz
    obtain⟨h3,h4⟩:=a1u (xs:=r) (F:=F') (H:=H')
    exact⟨h1.trans h3,h4.trans h2⟩
   ·exact a1u (xs:=r)
  ·exact a1u (xs:=r)
theorem a1s:∀ {xs:List X} {F:Fm} {H:HP},(frzL xs F H).2.hy=H.hy
 | [],F,H=>rfl
 | x::r,F,H=>by
  haveI:=sg0
  unfold frzL
  split
  ·split
   ·rename_i F' H' hz
    rw [a1s (xs:=r)]
    unfold frz at hz
    have hC:∀ {c c':Cel} {H1:HP},frzC H c=some (c',H1)→H1.hy=H.hy:=by
     intro c c' H1 h
     unfold frzC at h
     repeat' (split at h)
     all_goals first
      | (cases h;done)
      | (cases h;rfl)
    split at hz
    ·split at hz
     ·split at hz
      ·rename_i h1
       cases hz
       exact hC h1
      ·cases hz
     ·cases hz
    ·split at hz
     ·split at hz
      ·split at hz
       ·rename_i h1
        split at hz
        ·rename_i hw
         cases hz
         rw [HP.write_hy hw]
         exact hC h1
        ·cases hz
       ·cases hz
      ·cases hz
     ·cases hz
   ·exact a1s (xs:=r)
  ·exact a1s (xs:=r)
end Go.Sx
