/-
  A symbolic executor: calls that are walked where they stand: what is to be shown goes along, and variables may be new. Conditions: none; nothing here speaks of one program.
-/
import Derived.Test.YtlbbkmcegbeckaaSvP
set_option linter.unusedSimpArgs false
set_option linter.unusedSectionVars false
set_option linter.unusedVariables false
namespace Go.Sx
abbrev VC:=List X×X
def VCok(U:Us)(v:VC):Prop:=∀ σ:Sg,σ.toUs=U→@Holds σ v.1→@Tru σ v.2
def cb4(U:Us)(P:Program)(ora:OraM):Prop:=∀ σ:Sg,σ.toUs=U→@cga σ P ora
mutual
def b7n(k:Nat):X→Bool
 | .var n=>Nat.ble (Nat.succ n) k
 | .lit _=>true
 | .ap _ l=>b8b k l
def b8b(k:Nat):List X→Bool
 | []=>true
 | x::r=>b7n k x&&b8b k r
end
mutual
theorem b5j{k:Nat}{σ σ':Sg}(h:Ext k σ σ'):∀ (e:X),b7n k e=true→@den σ' e=@den σ e
 | .var n,hs=>h.eq n (Nat.le_of_ble_eq_true hs)
 | .lit u,_=>rfl
 | .ap f l,hs=>by
  show @Fs.ev σ'.toUs f (@denL σ' l)=@Fs.ev σ.toUs f (@denL σ l)
  rw [cmc h l hs,h.us]
theorem cmc{k:Nat}{σ σ':Sg}(h:Ext k σ σ'):∀ (l:List X),b8b k l=true→@denL σ' l=@denL σ l
 | [],_=>rfl
 | x::r,hs=>by
  simp only [b8b,Bool.and_eq_true] at hs
  show @den σ' x::@denL σ' r=@den σ x::@denL σ r
  rw [b5j h x hs.1,cmc h r hs.2]
end
def cfh(k:Nat):Cel→Bool
 | .sv _ _ e=>b7n k e
 | .pv _ _ e i _=>b7n k e&&b7n k i
 | .os _ _ n _ _ e=>b7n k n&&b7n k e
 | .po _ _ i _=>b7n k i
 | _=>true
def b9g(k:Nat):List Cel→Bool
 | []=>true
 | c::r=>cfh k c&&b9g k r
def cnx(k:Nat):List (Bool×List Cel)→Bool
 | []=>true
 | p::r=>b9g k p.2&&cnx k r
def c06(k:Nat):AV→Bool
 | .one c=>cfh k c
 | .agg xs=>b9g k xs
 | .tup ps=>cnx k ps
def cah(k:Nat):Fm→Bool
 | .nil=>true
 | .node none l r=>cah k l&&cah k r
 | .node (some v) l r=>c06 k v&&(cah k l&&cah k r)
section
variable {k:Nat} {σ σ':Sg} {ρ:PM}
theorem CRel.ext(h:Ext k σ σ'){c:Cel}{u:Value}(hs:cfh k c=true)(hr:@CRel σ ρ c u):@CRel σ' ρ c u:=by
 cases c with
 | sv s G e =>
  obtain⟨h1,h2⟩:=hr
  exact⟨h1,by rw [b5j h e hs];exact h2⟩
 | pv w G e i off =>
  simp only [cfh,Bool.and_eq_true] at hs
  obtain⟨h1,b,o,cap,h2⟩:=hr
  refine⟨h1,b,o,cap,?_⟩
  rw [b5j h e hs.1,b5j h i hs.2]
  exact h2
 | os z b n s G e =>
  simp only [cfh,Bool.and_eq_true] at hs
  obtain⟨h1,h2⟩:=hr
  refine⟨h1,?_⟩
  rw [b5j h n hs.1,b5j h e hs.2]
  exact h2
 | po b s i off =>
  obtain⟨L,h1⟩:=hr
  refine⟨L,?_⟩
  rw [b5j h i hs]
  exact h1
 | lit v=>exact hr
 | ptr b off=>exact hr
 | sl b off len cap=>exact hr
 | su b off len s=>exact hr
 | sz b s=>exact hr
 | fn f caps=>exact hr
 | mp b=>exact hr
 | yd b=>exact hr
 | kp b off s=>exact hr
 | us=>exact hr
 | un k=>exact hr
theorem CRels.ext(h:Ext k σ σ'):∀ {cs:List Cel} {us:List Value},b9g k cs=true→All2 (@CRel σ ρ) cs us→All2 (@CRel σ' ρ) cs us
 | [],[],_,_=>trivial
 | c::cs,u::us,hs,⟨h1,h2⟩=>by
  simp only [b9g,Bool.and_eq_true] at hs
  exact⟨CRel.ext h hs.1 h1,CRels.ext h hs.2 h2⟩
 | [],_::_,_,h=>h.elim
 | _::_,[],_,h=>h.elim
theorem PRel.ext(h:Ext k σ σ'){p:Bool×List Cel}{u:Value}(hs:b9g k p.2=true)(hr:@PRel σ ρ p u):@PRel σ' ρ p u:=by
 match p,hs,hr with
 | (true,xs),hs,⟨us,h1,h2⟩=>exact⟨us,h1,CRels.ext h hs h2⟩
 | (false,[c]),hs,hr =>
  have:cfh k c=true:=by
   simp only [b9g,Bool.and_eq_true] at hs
   exact hs.1
  exact CRel.ext h this hr
 | (false,[]),_,hr=>exact hr.elim
 | (false,_::_::_),_,hr=>exact hr.elim
theorem PRels.ext(h:Ext k σ σ'):∀ {ps:List (Bool×List Cel)} {us:List Value},cnx k ps=true→All2 (@PRel σ ρ) ps us→All2 (@PRel σ' ρ) ps us
 | [],[],_,_=>trivial
 | c::cs,u::us,hs,⟨h1,h2⟩=>by
  simp only [cnx,Bool.and_eq_true] at hs
  exact⟨PRel.ext h hs.1 h1,PRels.ext h hs.2 h2⟩
 | [],_::_,_,h=>h.elim
 | _::_,[],_,h=>h.elim
theorem VRel.ext(h:Ext k σ σ'){v:AV}{u:Value}(hs:c06 k v=true)(hr:@VRel σ ρ v u):@VRel σ' ρ v u:=by
 cases v with
 | one c=>exact CRel.ext h hs hr
 | agg xs=>obtain⟨us,h1,h2⟩:=hr;exact⟨us,h1,CRels.ext h hs h2⟩
 | tup ps=>obtain⟨us,h1,h2⟩:=hr;exact⟨us,h1,PRels.ext h hs h2⟩
theorem b7x:∀ {F:Fm},cah k F=true→∀ t v,F.get t=some v→c06 k v=true
 | .nil,_,t,v,h=>by rw [PT.get_nil] at h;cases h
 | .node none l r,hs,t,v,h=>by
  simp only [cah,Bool.and_eq_true] at hs
  rw [PT.get_eq] at h
  by_cases h0:t=0
  ·rw [if_pos h0] at h;cases h
  ·rw [if_neg h0] at h
   by_cases h1:t % 2=1
   ·rw [if_pos h1] at h;exact b7x hs.1 _ v h
   ·rw [if_neg h1] at h;exact b7x hs.2 _ v h
 | .node (some v0) l r,hs,t,v,h=>by
  simp only [cah,Bool.and_eq_true] at hs
  rw [PT.get_eq] at h
  by_cases h0:t=0
  ·rw [if_pos h0] at h
   cases (show some v0=some v from h)
   exact hs.1
  ·rw [if_neg h0] at h
   by_cases h1:t % 2=1
   ·rw [if_pos h1] at h;exact b7x hs.2.1 _ v h
   ·rw [if_neg h1] at h;exact b7x hs.2.2 _ v h
theorem FRel.ext(h:Ext k σ σ'){n:Nat}{F:Fm}{a:Act}(hs:cah k F=true)(hr:@FRel σ n ρ F a):@FRel σ' n ρ F a :=
 @FRel.mk σ' n ρ F a (@FRel.sz σ n ρ F a hr) fun t v hv =>
  let ⟨u,h1,h2⟩:=@FRel.get σ n ρ F a hr t v hv
  ⟨u,h1,VRel.ext h (b7x hs t v hv) h2⟩
end
noncomputable section
def HP.learn(H:HP)(e:X):HP:=⟨H.t,H.n,H.lo,e::H.hy,H.nv⟩
def HP.learns(H:HP):List X→HP
 | []=>H
 | e::r=>(H.learns r).learn e
end
def cnw(k:Nat):List Ent→Bool
 | []=>true
 | e::r=>b9g k e.1.2&&(b9g k e.2.1.2&&cnw k r)
def cag(k:Nat):Ct→Bool
 | .c x=>cfh k x
 | .map es _=>cnw k es
 | .iter _ _ _ _=>true
 | .loop _ _ _ F _=>cah k F
 | .room=>true
 | .rows _ _ e n=>b7n k e&&b7n k n
 | .mx _ _ _ e c=>b7n k e&&b7n k c
 | .ix _ s c=>b7n k s&&b7n k c
def cen(k:Nat):List (Option Ct)→Bool
 | []=>true
 | none::r=>cen k r
 | some c::r=>cag k c&&cen k r
def cem(k:Nat):Bk→Bool
 | .lf l=>cen k l
 | .fl _ c=>cfh k c
 | .nd _ l r=>cem k l&&cem k r
def cfi(k:Nat):PT Bk→Bool
 | .nil=>true
 | .node none l r=>cfi k l&&cfi k r
 | .node (some v) l r=>cem k v&&(cfi k l&&cfi k r)
def cqt(H:HP):Bool:=cfi H.nv H.t&&b8b H.nv H.hy
section
variable {k:Nat} {σ σ':Sg} {ρ:PM}
theorem EntRels.ext(h:Ext k σ σ'):∀ {es:List Ent} {ms:List MapEntry},cnw k es=true→All2 (@b5c σ ρ) es ms→All2 (@b5c σ' ρ) es ms
 | [],[],_,_=>trivial
 | e::es,m::ms,hs,⟨⟨h1,h2,h3⟩,h4⟩=>by
  simp only [cnw,Bool.and_eq_true] at hs
  exact⟨⟨PRel.ext h hs.1 h1,PRel.ext h hs.2.1 h2,h3⟩,EntRels.ext h hs.2.2 h4⟩
 | [],_::_,_,h=>h.elim
 | _::_,[],_,h=>h.elim
theorem b6h.ext(h:Ext k σ σ'){w:World}{L:Loc}{i:Nat}{x:Ct}(hs:cag k x=true)(hr:@b6h σ ρ w L i x):@b6h σ' ρ w L i x:=by
 cases x with
 | c x=>obtain⟨arr,t,fr,u,h1,h2,h3,h4,h5⟩:=hr;exact⟨arr,t,fr,u,h1,h2,h3,h4,CRel.ext h hs h5⟩
 | map es ck=>obtain⟨h1,h2,arr,h3,h4⟩:=hr;exact⟨h1,h2,arr,h3,EntRels.ext h hs h4⟩
 | iter m a b c=>exact hr
 | loop st pd n F kk =>
  obtain⟨h1,h2,r,h3,h4,h5,h6,h7,h8,h9,h10⟩:=hr
  have e:(@Us.lc σ'.toUs kk)=@Us.lc σ.toUs kk:=by rw [h.us]
  refine⟨h1,h2,r,h3,h4,h5,by rw [e];exact h6,by rw [e];exact h7,by rw [e];exact h8,h9,fun t v hv=>?_⟩
  obtain⟨u,g1,g2⟩:=h10 t v hv
  exact⟨u,g1,VRel.ext h (b7x hs t v hv) g2⟩
 | room=>exact hr
 | rows ws G e n =>
  simp only [cag,Bool.and_eq_true] at hs
  obtain⟨h0,hG,hr⟩:=hr
  refine⟨h0,hG,?_⟩
  rw [b5j h e hs.1,b5j h n hs.2]
  exact hr
 | mx kw va vw e c =>
  simp only [cag,Bool.and_eq_true] at hs
  obtain⟨h0,h1,arr,ck,hr⟩:=hr
  refine⟨h0,h1,arr,ck,?_⟩
  rw [b5j h e hs.1,b5j h c hs.2]
  exact hr
 | ix m s c =>
  simp only [cag,Bool.and_eq_true] at hs
  obtain⟨h0,h1,K,since,seen,hr⟩:=hr
  refine⟨h0,h1,K,since,seen,?_⟩
  rw [b5j h s hs.1,b5j h c hs.2]
  exact hr
theorem cbz:∀ {l:List (Option Ct)},cen k l=true→∀ (i:Nat) (c:Ct),(l[i]?).join=some c→cag k c=true
 | [],_,i,c,h=>by simp at h
 | none::r,hs,i,c,h=>by
  have hs:cen k r=true:=hs
  cases i with
  | zero=>simp at h
  | succ i=>simp only [List.getElem?_cons_succ] at h;exact cbz hs i c h
 | some x::r,hs,i,c,h=>by
  simp only [cen,Bool.and_eq_true] at hs
  cases i with
  | zero =>
   simp only [List.getElem?_cons_zero,Option.join_some,Option.some.injEq] at h
   subst h
   exact hs.1
  | succ i=>simp only [List.getElem?_cons_succ] at h;exact cbz hs.2 i c h
theorem b9f[Sg]:∀ {b:Bk},cem k b=true→∀ (i:Nat) (c:Ct),b.get i=some c→cag k c=true
 | .lf l,hs,i,c,h=>cbz hs i c h
 | .fl n x,hs,i,c,h=>by
  rw [Bk.get_fl] at h
  split at h
  ·cases h;exact hs
  ·cases h
 | .nd n l r,hs,i,c,h=>by
  simp only [cem,Bool.and_eq_true] at hs
  rw [Bk.get_nd] at h
  split at h
  ·exact b9f hs.1 i c h
  ·exact b9f hs.2 _ c h
theorem b7y:∀ {t:PT Bk},cfi k t=true→∀ b v,t.get b=some v→cem k v=true
 | .nil,_,t,v,h=>by rw [PT.get_nil] at h;cases h
 | .node none l r,hs,t,v,h=>by
  simp only [cfi,Bool.and_eq_true] at hs
  rw [PT.get_eq] at h
  by_cases h0:t=0
  ·rw [if_pos h0] at h;cases h
  ·rw [if_neg h0] at h
   by_cases h1:t % 2=1
   ·rw [if_pos h1] at h;exact b7y hs.1 _ v h
   ·rw [if_neg h1] at h;exact b7y hs.2 _ v h
 | .node (some v0) l r,hs,t,v,h=>by
  simp only [cfi,Bool.and_eq_true] at hs
  rw [PT.get_eq] at h
  by_cases h0:t=0
  ·rw [if_pos h0] at h
   cases (show some v0=some v from h)
   exact hs.1
  ·rw [if_neg h0] at h
   by_cases h1:t % 2=1
   ·rw [if_pos h1] at h;exact b7y hs.2.1 _ v h
   ·rw [if_neg h1] at h;exact b7y hs.2.2 _ v h
theorem Holds.ext(h:Ext k σ σ'):∀ {l:List X},b8b k l=true→@Holds σ l→@Holds σ' l
 | [],_,_=>fun x hx=>by cases hx
 | y::l,hs,hh=>by
  simp only [b8b,Bool.and_eq_true] at hs
  intro x hx
  rcases List.mem_cons.1 hx with rfl | hx
  ·show(@den σ' x).bv=true
   rw [b5j h x hs.1]
   exact hh x (List.mem_cons_self ..)
  ·exact Holds.ext h hs.2 (fun z hz=>hh z (List.mem_cons_of_mem _ hz)) x hx
theorem HRel.ext{H:HP}{w:World}(h:Ext H.nv σ σ')(hs:cqt H=true)(hr:@HRel σ ρ H w):@HRel σ' ρ H w:=by
 unfold cqt at hs
 rw [Bool.and_eq_true] at hs
 refine @HRel.mk σ' ρ H w (fun b i c L hc hL=>?_) (@HRel.inj σ _ _ _ hr) (Holds.ext h hs.2 (@HRel.hy σ _ _ _ hr))
 refine b6h.ext h ?_ (@HRel.rel σ _ _ _ hr b i c L hc hL)
 unfold HP.cell at hc
 cases hb:H.t.get b with
 | none=>rw [hb] at hc;cases hc
 | some v=>rw [hb] at hc;exact @b9f _ σ _ (b7y hs.1 b v hb) i c hc
end
abbrev RV:=Option (List VC×List (AV×HP))
abbrev OraV:=Tg→List AV→HP→RV
def cod(σ:Sg)(ρ:PM)(H:HP)(w:World)(outs:List (AV×HP)):Value→World→Prop:=fun u w' =>
 ∃ o∈outs,∃ σ',Ext H.nv σ σ'∧∃ ρ',@VRel σ' ρ' o.1 u∧SimF ρ H w ρ' o.2 w'∧@HRel σ' ρ' o.2 w'
def b9q(U:Us)(P:Program)(orv:OraV):Prop :=
 ∀ (t:Tg) (args:List AV) (H:HP) (v:List VC) (outs:List (AV×HP)),orv t args H=some (v,outs)→(∀ z∈v,VCok U z)→(∀ o∈outs,Sc H o.2) ∧
  ∀ σ:Sg,σ.toUs=U→∀ (ρ:PM) (w:World) (us:Array Value) (s:Sem Next),c67 ρ us s t→All2 (@VRel σ ρ) args us.toList→@HRel σ ρ H w→Dom ρ H.n→J ρ H w→b4n P (cod σ ρ H w outs) (s.run P w)
noncomputable section
def noV:OraV:=fun _ _ _=>none
def czo(orv:OraV)(E:Operand→Option AV)(H:HP)(f:Operand)(args:Array Operand):RV :=
 match E f,b7p E args.toList with
 | some (.one (.lit (.func (.func g) a b))),some vs=>if a.size=0∧b.size=0 then orv (.f g) vs H else none
 | some (.one (.fn (.func g) caps)),some vs=>orv (.f g) (vs++ptrs caps) H
 | some (.one (.yd b)),some vs=>orv (.y b) vs H
 | _,_=>none
end
theorem c6r{U:Us}{P:Program}:b9q U P noV:=fun _ _ _ _ _ h=>(by cases h)
section
variable {P:Program} [Plain P] {ora:OraM} {orv:OraV} {U:Us} {n m:Nat} {r:Option Nat}
theorem czp(ho:b9q U P orv){E:Operand→Option AV}{H:HP}{f:Operand}{args:Array Operand}{ats:Array TypeId}{v:List VC}{outs:List (AV×HP)}(h:czo orv E H f args=some (v,outs))(hv:∀ z∈v,VCok U z) :
  (∀ o∈outs,Sc H o.2)∧∀ (σ:Sg),σ.toUs=U→∀ {ρ:PM} {w:World} {ev:Operand→Value},(∀ z,(z=f∨z∈args.toList)→∀ a,E z=some a→@VRel σ ρ a (ev z))→@HRel σ ρ H w→Dom ρ H.n→J ρ H w →
   ∀ (dst:Option Tmp) (ty:TypeId) (pos:String) (after:Array Edge) (guard:Option (Nat×Bool)),b4n P (cod σ ρ H w outs) ((execOp ev ⟨dst,.call ⟨.value f,args,ats⟩,ty,pos,after,guard⟩).run P w):=by
 unfold czo at h
 split at h
 ·rename_i g a b vs hf hl
  split at h
  ·rename_i hab
   obtain⟨hst,hg⟩:=ho _ _ _ _ _ h hv
   refine⟨hst,fun σ hU ρ w ev hx hH hd hj dst ty pos after guard=>?_⟩
   obtain⟨hev,_⟩:=hx f (.inl rfl) _ hf
   have hus:=@b49 σ E ρ ev args.toList vs (fun x hx' v hv=>hx x (.inr hx') v hv) hl
   have ha:a = #[]:=Array.eq_empty_of_size_eq_zero hab.1
   have hb:b = #[]:=Array.eq_empty_of_size_eq_zero hab.2
   subst ha
   subst hb
   have hrun:(execOp ev ⟨dst,.call ⟨.value f,args,ats⟩,ty,pos,after,guard⟩).run P w=(callFunc g (args.map ev)).run P w:=by
    simp [execOp,resolve,hev,Deferred.ofValue,invoke]
   rw [hrun]
   exact hg σ hU ρ w _ _ rfl (by simpa using hus) hH hd hj
  ·cases h
 ·rename_i g caps vs hf hl
  obtain⟨hst,hg⟩:=ho _ _ _ _ _ h hv
  refine⟨hst,fun σ hU ρ w ev hx hH hd hj dst ty pos after guard=>?_⟩
  obtain⟨us,hev,hcaps⟩:=hx f (.inl rfl) _ hf
  have hus:=@b49 σ E ρ ev args.toList vs (fun x hx' v hv=>hx x (.inr hx') v hv) hl
  have hrun:(execOp ev ⟨dst,.call ⟨.value f,args,ats⟩,ty,pos,after,guard⟩).run P w=(callFunc g (args.map ev++us)).run P w:=by
   simp [execOp,resolve,hev,Deferred.ofValue,invoke]
  rw [hrun]
  exact hg σ hU ρ w _ _ rfl (by simpa using hus.append (@cct σ ρ _ _ hcaps)) hH hd hj
 ·rename_i b vs hf hl
  obtain⟨hst,hg⟩:=ho _ _ _ _ _ h hv
  refine⟨hst,fun σ hU ρ w ev hx hH hd hj dst ty pos after guard=>?_⟩
  obtain⟨L,hL,hev⟩:=hx f (.inl rfl) _ hf
  have hus:=@b49 σ E ρ ev args.toList vs (fun x hx' v hv=>hx x (.inr hx') v hv) hl
  have hrun:(execOp ev ⟨dst,.call ⟨.value f,args,ats⟩,ty,pos,after,guard⟩).run P w=(Instr.yield L.B (args.map ev)).run P w:=by
   simp [execOp,resolve,hev,Deferred.ofValue,invoke]
  rw [hrun]
  exact hg σ hU ρ w _ _ ⟨L,hL,rfl⟩ (by simpa using hus) hH hd hj
 ·cases h
end
end Go.Sx
