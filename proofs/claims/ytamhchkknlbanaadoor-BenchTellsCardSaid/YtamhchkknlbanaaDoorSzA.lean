/-
  A symbolic executor: calls that are walked where they stand: what is to be shown goes along, and variables may be new. Conditions: none; nothing here speaks of one program.
-/
import Derived.Test.YtamhchkknlbanaaDoorSvP
set_option linter.unusedSimpArgs false
set_option linter.unusedSectionVars false
set_option linter.unusedVariables false
namespace Go.Sx
abbrev VC:=List X×X
def VCok(U:Us)(v:VC):Prop:=∀ σ:Sg,σ.toUs=U→@Holds σ v.1→@Tru σ v.2
def agh(U:Us)(P:Program)(ora:OraM):Prop:=∀ σ:Sg,σ.toUs=U→@atu σ P ora
mutual
def ahq(k:Nat):X→Bool
 | .var n=>Nat.ble (Nat.succ n) k
 | .lit _=>true
 | .ap _ l=>ail k l
def ail(k:Nat):List X→Bool
 | []=>true
 | x::r=>ahq k x&&ail k r
end
mutual
theorem ad7{k:Nat}{σ σ':Sg}(h:Ext k σ σ'):∀ (e:X),ahq k e=true→@den σ' e=@den σ e
 | .var n,hs=>h.eq n (Nat.le_of_ble_eq_true hs)
 | .lit u,_=>rfl
 | .ap f l,hs=>by
  show @Fs.ev σ'.toUs f (@denL σ' l)=@Fs.ev σ.toUs f (@denL σ l)
  rw [a0r h l hs,h.us]
theorem a0r{k:Nat}{σ σ':Sg}(h:Ext k σ σ'):∀ (l:List X),ail k l=true→@denL σ' l=@denL σ l
 | [],_=>rfl
 | x::r,hs=>by
  simp only [ail,Bool.and_eq_true] at hs
  show @den σ' x::@denL σ' r=@den σ x::@denL σ r
  rw [ad7 h x hs.1,a0r h r hs.2]
end
def asn(k:Nat):Cel→Bool
 | .sv _ _ e=>ahq k e
 | .pv _ _ e i _=>ahq k e&&ahq k i
 | .os _ _ n _ _ e=>ahq k n&&ahq k e
 | .po _ _ i _=>ahq k i
 | _=>true
def akj(k:Nat):List Cel→Bool
 | []=>true
 | c::r=>asn k c&&akj k r
def a3h(k:Nat):List (Bool×List Cel)→Bool
 | []=>true
 | p::r=>akj k p.2&&a3h k r
def bmf(k:Nat):AV→Bool
 | .one c=>asn k c
 | .agg xs=>akj k xs
 | .tup ps=>a3h k ps
def alq(k:Nat):Fm→Bool
 | .nil=>true
 | .node none l r=>alq k l&&alq k r
 | .node (some v) l r=>bmf k v&&(alq k l&&alq k r)
section
variable {k:Nat} {σ σ':Sg} {ρ:PM}
theorem CRel.ext(h:Ext k σ σ'){c:Cel}{u:Value}(hs:asn k c=true)(hr:@CRel σ ρ c u):@CRel σ' ρ c u:=by
 cases c with
 | sv s G e =>
  obtain⟨h1,h2⟩:=hr
  exact⟨h1,by rw [ad7 h e hs];exact h2⟩
 | pv w G e i off =>
  simp only [asn,Bool.and_eq_true] at hs
  obtain⟨h1,b,o,cap,h2⟩:=hr
  refine⟨h1,b,o,cap,?_⟩
  rw [ad7 h e hs.1,ad7 h i hs.2]
  exact h2
 | os z b n s G e =>
  simp only [asn,Bool.and_eq_true] at hs
  obtain⟨h1,h2⟩:=hr
  refine⟨h1,?_⟩
  rw [ad7 h n hs.1,ad7 h e hs.2]
  exact h2
 | po b s i off =>
  obtain⟨L,h1⟩:=hr
  refine⟨L,?_⟩
  rw [ad7 h i hs]
  exact h1
 | lit v=>exact hr
 | ptr b off=>exact hr
 | sl b off len cap=>exact hr
 | su b off len s=>exact hr
 | sz b s=>exact hr
 | fn f caps=>exact hr
 | mp b=>exact hr
 | yd b=>exact hr
 | kp b off s=>exact hr
 | us=>exact hr
 | un k=>exact hr
theorem CRels.ext(h:Ext k σ σ'):∀ {cs:List Cel} {us:List Value},akj k cs=true→All2 (@CRel σ ρ) cs us→All2 (@CRel σ' ρ) cs us
 | [],[],_,_=>trivial
 | c::cs,u::us,hs,⟨h1,h2⟩=>by
  simp only [akj,Bool.and_eq_true] at hs
  exact⟨CRel.ext h hs.1 h1,CRels.ext h hs.2 h2⟩
 | [],_::_,_,h=>h.elim
 | _::_,[],_,h=>h.elim
theorem PRel.ext(h:Ext k σ σ'){p:Bool×List Cel}{u:Value}(hs:akj k p.2=true)(hr:@PRel σ ρ p u):@PRel σ' ρ p u:=by
 match p,hs,hr with
 | (true,xs),hs,⟨us,h1,h2⟩=>exact⟨us,h1,CRels.ext h hs h2⟩
 | (false,[c]),hs,hr =>
  have:asn k c=true:=by
   simp only [akj,Bool.and_eq_true] at hs
   exact hs.1
  exact CRel.ext h this hr
 | (false,[]),_,hr=>exact hr.elim
 | (false,_::_::_),_,hr=>exact hr.elim
theorem PRels.ext(h:Ext k σ σ'):∀ {ps:List (Bool×List Cel)} {us:List Value},a3h k ps=true→All2 (@PRel σ ρ) ps us→All2 (@PRel σ' ρ) ps us
 | [],[],_,_=>trivial
 | c::cs,u::us,hs,⟨h1,h2⟩=>by
  simp only [a3h,Bool.and_eq_true] at hs
  exact⟨PRel.ext h hs.1 h1,PRels.ext h hs.2 h2⟩
 | [],_::_,_,h=>h.elim
 | _::_,[],_,h=>h.elim
theorem VRel.ext(h:Ext k σ σ'){v:AV}{u:Value}(hs:bmf k v=true)(hr:@VRel σ ρ v u):@VRel σ' ρ v u:=by
 cases v with
 | one c=>exact CRel.ext h hs hr
 | agg xs=>obtain⟨us,h1,h2⟩:=hr;exact⟨us,h1,CRels.ext h hs h2⟩
 | tup ps=>obtain⟨us,h1,h2⟩:=hr;exact⟨us,h1,PRels.ext h hs h2⟩
theorem ah4:∀ {F:Fm},alq k F=true→∀ t v,F.get t=some v→bmf k v=true
 | .nil,_,t,v,h=>by rw [PT.get_nil] at h;cases h
 | .node none l r,hs,t,v,h=>by
  simp only [alq,Bool.and_eq_true] at hs
  rw [PT.get_eq] at h
  by_cases h0:t=0
  ·rw [if_pos h0] at h;cases h
  ·rw [if_neg h0] at h
   by_cases h1:t % 2=1
   ·rw [if_pos h1] at h;exact ah4 hs.1 _ v h
   ·rw [if_neg h1] at h;exact ah4 hs.2 _ v h
 | .node (some v0) l r,hs,t,v,h=>by
  simp only [alq,Bool.and_eq_true] at hs
  rw [PT.get_eq] at h
  by_cases h0:t=0
  ·rw [if_pos h0] at h
   cases (show some v0=some v from h)
   exact hs.1
  ·rw [if_neg h0] at h
   by_cases h1:t % 2=1
   ·rw [if_pos h1] at h;exact ah4 hs.2.1 _ v h
   ·rw [if_neg h1] at h;exact ah4 hs.2.2 _ v h
theorem FRel.ext(h:Ext k σ σ'){n:Nat}{F:Fm}{a:Act}(hs:alq k F=true)(hr:@FRel σ n ρ F a):@FRel σ' n ρ F a :=
 @FRel.mk σ' n ρ F a (@FRel.sz σ n ρ F a hr) fun t v hv =>
  let ⟨u,h1,h2⟩:=@FRel.get σ n ρ F a hr t v hv
  ⟨u,h1,VRel.ext h (ah4 hs t v hv) h2⟩
end
noncomputable section
def HP.learn(H:HP)(e:X):HP:=⟨H.t,H.n,H.lo,e::H.hy,H.nv⟩
def HP.learns(H:HP):List X→HP
 | []=>H
 | e::r=>(H.learns r).learn e
end
def a3g(k:Nat):List Ent→Bool
 | []=>true
 | e::r=>akj k e.1.2&&(akj k e.2.1.2&&a3g k r)
def alp(k:Nat):Ct→Bool
 | .c x=>asn k x
 | .map es _=>a3g k es
 | .iter _ _ _ _=>true
 | .loop _ _ _ F _=>alq k F
 | .room=>true
 | .rows _ _ e n=>ahq k e&&ahq k n
 | .mx _ _ _ e c=>ahq k e&&ahq k c
 | .ix _ s c=>ahq k s&&ahq k c
def ard(k:Nat):List (Option Ct)→Bool
 | []=>true
 | none::r=>ard k r
 | some c::r=>alp k c&&ard k r
def arb(k:Nat):Bk→Bool
 | .lf l=>ard k l
 | .fl _ c=>asn k c
 | .nd _ l r=>arb k l&&arb k r
def aso(k:Nat):PT Bk→Bool
 | .nil=>true
 | .node none l r=>aso k l&&aso k r
 | .node (some v) l r=>arb k v&&(aso k l&&aso k r)
def a8f(H:HP):Bool:=aso H.nv H.t&&ail H.nv H.hy
section
variable {k:Nat} {σ σ':Sg} {ρ:PM}
theorem EntRels.ext(h:Ext k σ σ'):∀ {es:List Ent} {ms:List MapEntry},a3g k es=true→All2 (@ado σ ρ) es ms→All2 (@ado σ' ρ) es ms
 | [],[],_,_=>trivial
 | e::es,m::ms,hs,⟨⟨h1,h2,h3⟩,h4⟩=>by
  simp only [a3g,Bool.and_eq_true] at hs
  exact⟨⟨PRel.ext h hs.1 h1,PRel.ext h hs.2.1 h2,h3⟩,EntRels.ext h hs.2.2 h4⟩
 | [],_::_,_,h=>h.elim
 | _::_,[],_,h=>h.elim
theorem aft.ext(h:Ext k σ σ'){w:World}{L:Loc}{i:Nat}{x:Ct}(hs:alp k x=true)(hr:@aft σ ρ w L i x):@aft σ' ρ w L i x:=by
 cases x with
 | c x=>obtain⟨arr,t,fr,u,h1,h2,h3,h4,h5⟩:=hr;exact⟨arr,t,fr,u,h1,h2,h3,h4,CRel.ext h hs h5⟩
 | map es ck=>obtain⟨h1,h2,arr,h3,h4⟩:=hr;exact⟨h1,h2,arr,h3,EntRels.ext h hs h4⟩
 | iter m a b c=>exact hr
 | loop st pd n F kk =>
  obtain⟨h1,h2,r,h3,h4,h5,h6,h7,h8,h9,h10⟩:=hr
  have e:(@Us.lc σ'.toUs kk)=@Us.lc σ.toUs kk:=by rw [h.us]
  refine⟨h1,h2,r,h3,h4,h5,by rw [e];exact h6,by rw [e];exact h7,by rw [e];exact h8,h9,fun t v hv=>?_⟩
  obtain⟨u,g1,g2⟩:=h10 t v hv
  exact⟨u,g1,VRel.ext h (ah4 hs t v hv) g2⟩
 | room=>exact hr
 | rows ws G e n =>
  simp only [alp,Bool.and_eq_true] at hs
  obtain⟨h0,hG,hr⟩:=hr
  refine⟨h0,hG,?_⟩
  rw [ad7 h e hs.1,ad7 h n hs.2]
  exact hr
 | mx kw va vw e c =>
  simp only [alp,Bool.and_eq_true] at hs
  obtain⟨h0,h1,arr,ck,hr⟩:=hr
  refine⟨h0,h1,arr,ck,?_⟩
  rw [ad7 h e hs.1,ad7 h c hs.2]
  exact hr
 | ix m s c =>
  simp only [alp,Bool.and_eq_true] at hs
  obtain⟨h0,h1,K,since,seen,hr⟩:=hr
  refine⟨h0,h1,K,since,seen,?_⟩
  rw [ad7 h s hs.1,ad7 h c hs.2]
  exact hr
theorem ant:∀ {l:List (Option Ct)},ard k l=true→∀ (i:Nat) (c:Ct),(l[i]?).join=some c→alp k c=true
 | [],_,i,c,h=>by simp at h
 | none::r,hs,i,c,h=>by
  have hs:ard k r=true:=hs
  cases i with
  | zero=>simp at h
  | succ i=>simp only [List.getElem?_cons_succ] at h;exact ant hs i c h
 | some x::r,hs,i,c,h=>by
  simp only [ard,Bool.and_eq_true] at hs
  cases i with
  | zero =>
   simp only [List.getElem?_cons_zero,Option.join_some,Option.some.injEq] at h
   subst h
   exact hs.1
  | succ i=>simp only [List.getElem?_cons_succ] at h;exact ant hs.2 i c h
theorem aki[Sg]:∀ {b:Bk},arb k b=true→∀ (i:Nat) (c:Ct),b.get i=some c→alp k c=true
 | .lf l,hs,i,c,h=>ant hs i c h
 | .fl n x,hs,i,c,h=>by
  rw [Bk.get_fl] at h
  split at h
  ·cases h;exact hs
  ·cases h
 | .nd n l r,hs,i,c,h=>by
  simp only [arb,Bool.and_eq_true] at hs
  rw [Bk.get_nd] at h
  split at h
  ·exact aki hs.1 i c h
  ·exact aki hs.2 _ c h
theorem ah5:∀ {t:PT Bk},aso k t=true→∀ b v,t.get b=some v→arb k v=true
 | .nil,_,t,v,h=>by rw [PT.get_nil] at h;cases h
 | .node none l r,hs,t,v,h=>by
  simp only [aso,Bool.and_eq_true] at hs
  rw [PT.get_eq] at h
  by_cases h0:t=0
  ·rw [if_pos h0] at h;cases h
  ·rw [if_neg h0] at h
   by_cases h1:t % 2=1
   ·rw [if_pos h1] at h;exact ah5 hs.1 _ v h
   ·rw [if_neg h1] at h;exact ah5 hs.2 _ v h
 | .node (some v0) l r,hs,t,v,h=>by
  simp only [aso,Bool.and_eq_true] at hs
  rw [PT.get_eq] at h
  by_cases h0:t=0
  ·rw [if_pos h0] at h
   cases (show some v0=some v from h)
   exact hs.1
  ·rw [if_neg h0] at h
   by_cases h1:t % 2=1
   ·rw [if_pos h1] at h;exact ah5 hs.2.1 _ v h
   ·rw [if_neg h1] at h;exact ah5 hs.2.2 _ v h
theorem Holds.ext(h:Ext k σ σ'):∀ {l:List X},ail k l=true→@Holds σ l→@Holds σ' l
 | [],_,_=>fun x hx=>by cases hx
 | y::l,hs,hh=>by
  simp only [ail,Bool.and_eq_true] at hs
  intro x hx
  rcases List.mem_cons.1 hx with rfl | hx
  ·show(@den σ' x).bv=true
   rw [ad7 h x hs.1]
   exact hh x (List.mem_cons_self ..)
  ·exact Holds.ext h hs.2 (fun z hz=>hh z (List.mem_cons_of_mem _ hz)) x hx
theorem HRel.ext{H:HP}{w:World}(h:Ext H.nv σ σ')(hs:a8f H=true)(hr:@HRel σ ρ H w):@HRel σ' ρ H w:=by
 unfold a8f at hs
 rw [Bool.and_eq_true] at hs
 refine @HRel.mk σ' ρ H w (fun b i c L hc hL=>?_) (@HRel.inj σ _ _ _ hr) (Holds.ext h hs.2 (@HRel.hy σ _ _ _ hr))
 refine aft.ext h ?_ (@HRel.rel σ _ _ _ hr b i c L hc hL)
 unfold HP.cell at hc
 cases hb:H.t.get b with
 | none=>rw [hb] at hc;cases hc
 | some v=>rw [hb] at hc;exact @aki _ σ _ (ah5 hs.1 b v hb) i c hc
end
abbrev RV:=Option (List VC×List (AV×HP))
abbrev OraV:=Tg→List AV→HP→RV
def a4u(σ:Sg)(ρ:PM)(H:HP)(w:World)(outs:List (AV×HP)):Value→World→Prop:=fun u w' =>
 ∃ o∈outs,∃ σ',Ext H.nv σ σ'∧∃ ρ',@VRel σ' ρ' o.1 u∧SimF ρ H w ρ' o.2 w'∧@HRel σ' ρ' o.2 w'
def af0(U:Us)(P:Program)(orv:OraV):Prop :=
 ∀ (t:Tg) (args:List AV) (H:HP) (v:List VC) (outs:List (AV×HP)),orv t args H=some (v,outs)→(∀ z∈v,VCok U z)→(∀ o∈outs,Sc H o.2) ∧
  ∀ σ:Sg,σ.toUs=U→∀ (ρ:PM) (w:World) (us:Array Value) (s:Sem Next),bs5 ρ us s t→All2 (@VRel σ ρ) args us.toList→@HRel σ ρ H w→Dom ρ H.n→J ρ H w→ach P (a4u σ ρ H w outs) (s.run P w)
noncomputable section
def noV:OraV:=fun _ _ _=>none
def bki(orv:OraV)(E:Operand→Option AV)(H:HP)(f:Operand)(args:Array Operand):RV :=
 match E f,aht E args.toList with
 | some (.one (.lit (.func (.func g) a b))),some vs=>if a.size=0∧b.size=0 then orv (.f g) vs H else none
 | some (.one (.fn (.func g) caps)),some vs=>orv (.f g) (vs++ptrs caps) H
 | some (.one (.yd b)),some vs=>orv (.y b) vs H
 | _,_=>none
end
theorem bsn{U:Us}{P:Program}:af0 U P noV:=fun _ _ _ _ _ h=>(by cases h)
section
variable {P:Program} [Plain P] {ora:OraM} {orv:OraV} {U:Us} {n m:Nat} {r:Option Nat}
theorem bkj(ho:af0 U P orv){E:Operand→Option AV}{H:HP}{f:Operand}{args:Array Operand}{ats:Array TypeId}{v:List VC}{outs:List (AV×HP)}(h:bki orv E H f args=some (v,outs))(hv:∀ z∈v,VCok U z) :
  (∀ o∈outs,Sc H o.2)∧∀ (σ:Sg),σ.toUs=U→∀ {ρ:PM} {w:World} {ev:Operand→Value},(∀ z,(z=f∨z∈args.toList)→∀ a,E z=some a→@VRel σ ρ a (ev z))→@HRel σ ρ H w→Dom ρ H.n→J ρ H w →
   ∀ (dst:Option Tmp) (ty:TypeId) (pos:String) (after:Array Edge) (guard:Option (Nat×Bool)),ach P (a4u σ ρ H w outs) ((execOp ev ⟨dst,.call ⟨.value f,args,ats⟩,ty,pos,after,guard⟩).run P w):=by
 unfold bki at h
 split at h
 ·rename_i g a b vs hf hl
  split at h
  ·rename_i hab
   obtain⟨hst,hg⟩:=ho _ _ _ _ _ h hv
   refine⟨hst,fun σ hU ρ w ev hx hH hd hj dst ty pos after guard=>?_⟩
   obtain⟨hev,_⟩:=hx f (.inl rfl) _ hf
   have hus:=@adr σ E ρ ev args.toList vs (fun x hx' v hv=>hx x (.inr hx') v hv) hl
   have ha:a = #[]:=Array.eq_empty_of_size_eq_zero hab.1
   have hb:b = #[]:=Array.eq_empty_of_size_eq_zero hab.2
   subst ha
   subst hb
   have hrun:(execOp ev ⟨dst,.call ⟨.value f,args,ats⟩,ty,pos,after,guard⟩).run P w=(callFunc g (args.map ev)).run P w:=by
    simp [execOp,resolve,hev,Deferred.ofValue,invoke]
   rw [hrun]
   exact hg σ hU ρ w _ _ rfl (by simpa using hus) hH hd hj
  ·cases h
 ·rename_i g caps vs hf hl
  obtain⟨hst,hg⟩:=ho _ _ _ _ _ h hv
  refine⟨hst,fun σ hU ρ w ev hx hH hd hj dst ty pos after guard=>?_⟩
  obtain⟨us,hev,hcaps⟩:=hx f (.inl rfl) _ hf
  have hus:=@adr σ E ρ ev args.toList vs (fun x hx' v hv=>hx x (.inr hx') v hv) hl
  have hrun:(execOp ev ⟨dst,.call ⟨.value f,args,ats⟩,ty,pos,after,guard⟩).run P w=(callFunc g (args.map ev++us)).run P w:=by
   simp [execOp,resolve,hev,Deferred.ofValue,invoke]
  rw [hrun]
  exact hg σ hU ρ w _ _ rfl (by simpa using hus.append (@aoh σ ρ _ _ hcaps)) hH hd hj
 ·rename_i b vs hf hl
  obtain⟨hst,hg⟩:=ho _ _ _ _ _ h hv
  refine⟨hst,fun σ hU ρ w ev hx hH hd hj dst ty pos after guard=>?_⟩
  obtain⟨L,hL,hev⟩:=hx f (.inl rfl) _ hf
  have hus:=@adr σ E ρ ev args.toList vs (fun x hx' v hv=>hx x (.inr hx') v hv) hl
  have hrun:(execOp ev ⟨dst,.call ⟨.value f,args,ats⟩,ty,pos,after,guard⟩).run P w=(Instr.yield L.B (args.map ev)).run P w:=by
   simp [execOp,resolve,hev,Deferred.ofValue,invoke]
  rw [hrun]
  exact hg σ hU ρ w _ _ ⟨L,hL,rfl⟩ (by simpa using hus) hH hd hj
 ·cases h
end
end Go.Sx
