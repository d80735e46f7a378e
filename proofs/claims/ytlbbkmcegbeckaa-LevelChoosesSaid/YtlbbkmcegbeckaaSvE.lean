/-
  A second abstract evaluator of the model's code: the operations. Conditions: none; nothing here speaks of one program.
-/
import Derived.Test.YtlbbkmcegbeckaaSvC
import Derived.ChangeKeysEq
set_option linter.all false
set_option maxRecDepth 100000
noncomputable section
namespace Go
theorem bfc(k:IntKind)(n:Int):(decide (k.min≤k.wrap n)&&decide (k.wrap n≤k.max))=true:=by
 simp only [Ba,Dt]
 have hp:(0:Int)<2 ^ k.bits:=Int.pow_pos (by decide)
 have h1:=Int.emod_nonneg n (show(2:Int) ^ k.bits≠0 by omega)
 have h2:=Int.emod_lt_of_pos n hp
 unfold IntKind.wrap
 generalize n % 2 ^ k.bits=m at h1 h2
 cases k<;>simp only [IntKind.signed,IntKind.bits,IntKind.min,IntKind.max] at *<;>simp at *<;>(try split)<;>omega
theorem _root_.Int.emod_le_of_nonneg_sx{x y:Int}(h:0≤x):x % y≤x:=by
 rcases Int.lt_trichotomy y 0 with hy | hy | hy
 ·rw [← Int.emod_neg]
  have h1:=Int.mul_ediv_add_emod x (-y)
  have h2:=Int.ediv_nonneg h (show 0≤-y by omega)
  have h3:0≤(-y)*(x / (-y)):=Int.mul_nonneg (by omega) h2
  omega
 ·subst hy;simp
 ·have h1:=Int.mul_ediv_add_emod x y
  have h2:=Int.ediv_nonneg h (show 0≤y by omega)
  have h3:0≤y*(x / y):=Int.mul_nonneg (by omega) h2
  omega
end Go
namespace Go.Sx
variable [Sg]
noncomputable section
def PT.build{α:Type}(k:Nat)(f:Nat→Option α):PT α :=
 Nat.rec (motive:=fun _=>(Nat→Option α)→PT α) (fun _=>.nil) (fun _ ih f=>.node (f 0) (ih fun m=>f (Nat.succ (Nat.mul 2 m))) (ih fun m=>f (Nat.succ (Nat.succ (Nat.mul 2 m))))) k f
theorem PT.get_build{α:Type}:∀ (k:Nat) (f:Nat→Option α) (n:Nat),(n<k→(PT.build k f).get n=f n)∧((PT.build k f).get n=f n∨(PT.build k f).get n=none)
 | 0,_,n=>⟨fun h=>by omega,.inr (PT.get_nil n)⟩
 | k+1,f,0=>⟨fun _=>rfl,.inl rfl⟩
 | k+1,f,n+1=>by
  have hb:PT.build (k+1) f=.node (f 0) (PT.build k fun m=>f (Nat.succ (Nat.mul 2 m))) (PT.build k fun m=>f (Nat.succ (Nat.succ (Nat.mul 2 m)))):=rfl
  rw [hb,PT.get_succ]
  by_cases h:(n+1) % 2=1
  ·rw [if_pos h]
   have:=PT.get_build k (fun m=>f (Nat.succ (Nat.mul 2 m))) (n / 2)
   have e:Nat.succ (Nat.mul 2 (n / 2))=n+1:=by show 2*(n / 2)+1=n+1;omega
   simp only [e] at this
   exact⟨fun hn=>this.1 (by omega),this.2⟩
  ·rw [if_neg h]
   have:=PT.get_build k (fun m=>f (Nat.succ (Nat.succ (Nat.mul 2 m)))) (n / 2)
   have e:Nat.succ (Nat.succ (Nat.mul 2 (n / 2)))=n+1:=by show 2*(n / 2)+1+1=n+1;omega
   simp only [e] at this
   exact⟨fun hn=>this.1 (by omega),this.2⟩
def a5b{α:Type}(k:Nat)(f:Nat→Option α)(t:Nat):Option α :=
 match(PT.build k f).get t with
 | some x=>some x
 | none=>f t
theorem au6{α:Type}(k:Nat)(f:Nat→Option α)(t:Nat):a5b k f t=f t:=by
 unfold a5b
 split
 ·rename_i x h
  rcases(PT.get_build k f t).2 with h1 | h1
  ·rw [← h1,h]
  ·rw [h1] at h;cases h
 ·rfl
def lits(cs:List Value):Option (List Cel):=if cs.all abw then some (cs.map .lit) else none
theorem ajd{ρ:PM}{us:List Value}{cs:List Cel}(h:lits us=some cs):All2 (CRel ρ) cs us:=by
 unfold lits at h
 split at h
 ·rename_i hall
  cases h
  rw [List.all_eq_true] at hall
  induction us with
  | nil=>trivial
  | cons u us ih=>exact⟨⟨rfl,hall u (Ms ..)⟩,ih fun x hx=>hall x (Mc _ hx)⟩
 ·cases h
def szA0(P:Program)(t:TypeId):Option (Bool×Nat) :=
 match P.info? t,P.underlying t with
 | some i,some d=>some ((match d with | .struct _ | .array _ _=>true | _=>false),i.size)
 | _,_=>none
@[irreducible] def szA (P:Program) (t:TypeId):Option (Bool×Nat):=a5b 1000 (szA0 P) t
@[irreducible] def infoT (P:Program) (t:TypeId):Option TypeInfo:=a5b 1000 P.info? t
@[irreducible] def undT (P:Program) (t:TypeId):Option TypeDesc:=a5b 1000 P.underlying t
theorem bdu(P:Program)(t:TypeId):szA P t=szA0 P t:=by unfold szA;exact au6 _ _ _
theorem aja(P:Program)(t:TypeId):infoT P t=P.info? t:=by unfold infoT;exact au6 _ _ _
theorem ab6(P:Program)(t:TypeId):undT P t=P.underlying t:=by unfold undT;exact au6 _ _ _
theorem a7r{P:Program}{t:TypeId}{ag:Bool}{n:Nat}(h:szA P t=some (ag,n))(w:World):(isAgg t).run P w=.ok ag w:=by
 rw [bdu] at h
 unfold szA0 at h
 split at h
 ·rename_i i d hi hd
  simp only [Oi,Prod.mk.injEq] at h
  unfold isAgg
  rw [Sem.run_bind,run_underlying hd]
  simp only [Result.andThen_ok]
  rw [← h.1]
  cases d<;>rfl
 ·cases h
theorem run_typeInfo{P:Program}{t:TypeId}{i:TypeInfo}(h:P.info? t=some i)(w:World):(typeInfo t).run P w=.ok i w:=by
 simp [typeInfo,h]
theorem run_sizeOf{P:Program}{t:TypeId}{ag:Bool}{n:Nat}(h:szA P t=some (ag,n))(w:World):(sizeOf t).run P w=.ok n w:=by
 rw [bdu] at h
 unfold szA0 at h
 split at h
 ·rename_i i d hi hd
  simp only [Oi,Prod.mk.injEq] at h
  simp [sizeOf,run_typeInfo hi,h.2]
 ·cases h
def wid:Bool→Nat→Nat
 | true,n=>n
 | false,_=>1
def mkA(ag:Bool)(cs:List Cel):Option AV :=
 match ag,cs with
 | true,cs=>some (.agg cs)
 | false,[c]=>some (.one c)
 | false,_=>none
def mkV(ag:Bool)(us:List Value):Value :=
 match ag,us with
 | true,us=>.agg us.toArray
 | false,u::_=>u
 | false,[]=>undef
theorem ap6{ρ:PM}{ag:Bool}{cs:List Cel}{us:List Value}{v:AV}(h:mkA ag cs=some v)(hr:All2 (CRel ρ) cs us):VRel ρ v (mkV ag us):=by
 cases ag with
 | true=>cases h;exact⟨us.toArray,rfl,by simpa using hr⟩
 | false =>
  match cs,us,h,hr with
  | [c],[u],h,hr=>cases h;exact hr.1
def aej{α:Type}:List (Option α)→Option (List α)
 | []=>some []
 | some x::xs=>(aej xs).map (x::·)
 | none::_=>none
theorem ags{α:Type}:∀ {xs:List (Option α)} {ys:List α},aej xs=some ys→xs.length=ys.length∧∀ (i:Nat) (y:α),ys[i]? = some y→xs[i]? = some (some y)
 | [],ys,h=>by cases h;exact⟨rfl,fun i y hy=>by simp at hy⟩
 | none::_,_,h=>by cases h
 | some x::xs,ys,h=>by
  simp only [aej] at h
  cases hx:aej xs with
  | none=>rw [hx] at h;cases h
  | some zs =>
   rw [hx] at h
   cases h
   obtain⟨h1,h2⟩:=ags hx
   refine⟨by simp [h1],fun i y hy=>?_⟩
   cases i with
   | zero=>simp at hy;simp [hy]
   | succ i=>simp only [List.getElem?_cons_succ] at hy ⊢;exact h2 i y hy
theorem a3x{P:Program}{w:World}{a:Addr}{u:Value}(h:w.cell? a=some u)(m:Mode):(load a m).run P w=.ok u w:=by simp [h]
theorem aes{P:Program}{w:World}{t:TypeId}{ag:Bool}{n B o:Nat}{us:List Value}(hs:szA P t=some (ag,n))(hl:us.length=wid ag n)
  (hc:∀ (i:Nat) (u:Value),us[i]? = some u→w.cell? ⟨B,o+i,none⟩=some u):(loadVar t ⟨B,o,none⟩).run P w=.ok (mkV ag us) w:=by
 unfold loadVar
 rw [Sem.run_bind,a7r hs]
 simp only [Result.andThen_ok]
 cases ag with
 | true =>
  simp only [if_true,wid] at hl ⊢
  rw [Sem.run_bind,run_sizeOf hs]
  simp only [Result.andThen_ok,Sem.run_bind]
  have hlc:=run_loadCells_list (P:=P) w ⟨B,o,none⟩ us (fun j v hj=>by rw [abl];exact hc j v hj)
  rw [hl] at hlc
  rw [hlc]
  rfl
 | false =>
  match us,hl with
  | [u],_ =>
   simp only [Bool.false_eq_true,if_false]
   exact a3x (hc 0 u rfl) .plain
def cut(xs:List Cel)(off n:Nat):List Cel:=(xs.drop off).take n
theorem All2.cut{ρ:PM}{xs:List Cel}{us:List Value}(h:All2 (CRel ρ) xs us)(off n:Nat):All2 (CRel ρ) (cut xs off n) ((us.drop off).take n):=(h.drop off).take n
theorem al8{P:Program}{w:World}{t:TypeId}{ag:Bool}{n off:Nat}{us:List Value}(hs:szA P t=some (ag,n))(hl:off+(wid ag n)≤us.length) :
  (part t us.toArray off).run P w=.ok (mkV ag ((us.drop off).take (wid ag n))) w:=by
 unfold part
 rw [Sem.run_bind,a7r hs]
 simp only [Result.andThen_ok]
 cases ag with
 | true =>
  simp only [if_true]
  rw [Sem.run_bind,run_sizeOf hs]
  simp only [Result.andThen_ok,Sem.run_pure,mkV,wid]
  congr 3
  rw [List.extract_toArray,List.extract_eq_take_drop]
  simp
 | false =>
  simp only [Bool.false_eq_true,if_false,wid] at hl ⊢
  have hlt:off<us.length:=by omega
  have hg:us.toArray[off]? = some us[off]:=by simp [hlt]
  simp only [hg]
  rw [List.drop_eq_getElem_cons hlt]
  rfl
class Plain (P:Program) where
 plain:TypeId→Bool
 sound:∀ t,plain t=true→P.stoodInHeld t=false
 apart:∀ t,plain t=true→P.eqGuardType P.depth t=false
 named:∀ t fs,plain t=true→P.underlying t=some (.struct fs)→∀ f∈fs.toList,f.name≠"_"
def aiy(P:Program)(t:TypeId):Bool :=
 !P.stoodInHeld t&&(!P.eqGuardType P.depth t&&match P.underlying t with | some (.struct fs)=>fs.toList.all fun f=>f.name != "_" | _=>true)
abbrev Plain.ofList{P:Program}(l:List TypeId)(h:∀ t∈l,aiy P t=true):Plain P where
 plain t:=l.any (Nat.beq t)
 sound t ht:=by
  obtain⟨x,hx,he⟩:=List.any_eq_true.1 ht
  obtain rfl:=Nb he
  have:=h t hx
  simp only [aiy,Ba,Bool.not_eq_true'] at this
  exact this.1
 apart t ht:=by
  obtain⟨x,hx,he⟩:=List.any_eq_true.1 ht
  obtain rfl:=Nb he
  have:=h t hx
  simp only [aiy,Ba,Bool.not_eq_true'] at this
  exact this.2.1
 named t fs ht hu f hf:=by
  obtain⟨x,hx,he⟩:=List.any_eq_true.1 ht
  obtain rfl:=Nb he
  have:=h t hx
  simp only [aiy,hu,Ba,List.all_eq_true,bne_iff_ne] at this
  exact this.2.2 f hf
def eqFs(eq:TypeId→List Cel→List Cel→Option Bool)(sz:TypeId→Option (Bool×Nat))(xs ys:List Cel):List Field→Option Bool
 | []=>some true
 | f::fs =>
  match sz f.type with
  | none=>none
  | some (ag,n) =>
   if f.offset+(wid ag n)≤xs.length∧f.offset+(wid ag n)≤ys.length then
    match eq f.type (cut xs f.offset (wid ag n)) (cut ys f.offset (wid ag n)),eqFs eq sz xs ys fs with
    | some r,some rs=>some (r&&rs)
    | _,_=>none
   else none
def eqEs(eq:List Cel→List Cel→Option Bool)(c:Nat):Nat→List Cel→List Cel→Option Bool
 | 0,_,_=>some true
 | n+1,xs,ys=>match eq (takeN c xs) (takeN c ys),eqEs eq c n (aj7 c xs) (aj7 c ys) with
  | some r,some rs=>some (r&&rs)
  | _,_=>none
def eqT(P:Program)[Plain P]:Nat→TypeId→List Cel→List Cel→Option Bool
 | 0,_,_,_=>none
 | d+1,t,xs,ys =>
  match undT P t with
  | some (.int _)=>match xs,ys with
   | [.lit (.int k a)],[.lit (.int k' b)]=>if k=k' then some (a==b) else none
   | _,_=>none
  | some .bool=>match xs,ys with
   | [.lit (.bool a)],[.lit (.bool b)]=>some (a==b)
   | _,_=>none
  | some .string=>match xs,ys with
   | [.lit (.string a)],[.lit (.string b)]=>some (a.toList==b.toList)
   | _,_=>none
  | some (.struct fs)=>if Plain.plain P t then eqFs (eqT P d) (szA P) xs ys fs.toList else none
  | some (.array n e)=>match szA P e with
   | some (ag,c)=>if wid ag c=c∧n*c≤xs.length∧n*c≤ys.length then eqEs (eqT P d e) c n xs ys else none
   | none=>none
  | _=>none
theorem bgm{P:Program}[Plain P]{ρ:PM}{w:World}{d d':Nat}(ih:∀ (t:TypeId) (xs ys:List Cel) (us vs:List Value) (r ag:Bool) (n:Nat),eqT P d t xs ys=some r→szA P t=some (ag,n)→All2 (CRel ρ) xs us→All2 (CRel ρ) ys vs →
   (Op.equalIn d' t (mkV ag us) (mkV ag vs)).run P w=.ok r w) {xs ys:List Cel} {us vs:List Value} (hx:All2 (CRel ρ) xs us) (hy:All2 (CRel ρ) ys vs) :
  ∀ (fs:List Field) (r:Bool),(∀ f∈fs,f.name≠"_")→eqFs (eqT P d) (szA P) xs ys fs=some r→(Op.eqFields d' us.toArray vs.toArray fs).run P w=.ok r w
 | [],r,_,h=>by cases h;rfl
 | f::fs,r,hnm,h=>by
  simp only [eqFs] at h
  ·have hname:¬ f.name = "_":=hnm f (Ms ..)
   cases hs:szA P f.type with
   | none=>rw [hs] at h;cases h
   | some p =>
    obtain⟨ag,n⟩:=p
    rw [hs] at h
    simp only at h
    split at h
    ·rename_i hle
     cases h1:eqT P d f.type (cut xs f.offset (wid ag n)) (cut ys f.offset (wid ag n)) with
     | none=>rw [h1] at h;cases h
     | some r1 =>
      cases h2:eqFs (eqT P d) (szA P) xs ys fs with
      | none=>rw [h1,h2] at h;cases h
      | some r2 =>
       rw [h1,h2] at h
       simp only [Oi] at h
       have e1:=ih f.type _ _ _ _ r1 ag n h1 hs (hx.cut _ _) (hy.cut _ _)
       have e2:=bgm ih hx hy fs r2 (fun g hg=>hnm g (Mc _ hg)) h2
       have hxl:=hx.length
       have hyl:=hy.length
       simp only [Op.eqFields,hname,ne_eq,not_false_eq_true,if_true,Sem.run_bind]
       rw [al8 hs (by omega),Result.andThen_ok,al8 hs (by omega),Result.andThen_ok,e1,Result.andThen_ok]
       cases r1 with
       | true=>simpa [← h] using e2
       | false=>simp [← h]
    ·cases h
theorem bgk{P:Program}[Plain P]{ρ:PM}{w:World}{d d':Nat}{e:TypeId}{ag:Bool}{c:Nat}(ih:∀ (xs ys:List Cel) (us vs:List Value) (r:Bool),eqT P d e xs ys=some r→All2 (CRel ρ) xs us→All2 (CRel ρ) ys vs →
   (Op.equalIn d' e (mkV ag us) (mkV ag vs)).run P w=.ok r w) {xs ys:List Cel} {us vs:List Value} (hx:All2 (CRel ρ) xs us) (hy:All2 (CRel ρ) ys vs) (hs:szA P e=some (ag,c)) (hw:wid ag c=c) :
  ∀ (m i:Nat) (r:Bool),(i+m)*c≤us.length→(i+m)*c≤vs.length→eqEs (eqT P d e) c m (xs.drop (i*c)) (ys.drop (i*c))=some r→(Op.eqItems d' e c us.toArray vs.toArray (List.range' i m 1)).run P w=.ok r w
 | 0,i,r,_,_,h=>by cases h;rfl
 | m+1,i,r,hu,hv,h=>by
  have e1:(i+(m+1))*c=i*c+c+m*c:=by rw [Nat.add_mul,Nat.add_mul,Nat.one_mul];omega
  rw [e1] at hu hv
  simp only [eqEs,afu,ae2] at h
  cases h1:eqT P d e ((xs.drop (i*c)).take c) ((ys.drop (i*c)).take c) with
  | none=>rw [h1] at h;cases h
  | some r1 =>
   rw [h1] at h
   cases h2:eqEs (eqT P d e) c m ((xs.drop (i*c)).drop c) ((ys.drop (i*c)).drop c) with
   | none=>rw [h2] at h;cases h
   | some r2 =>
    rw [h2] at h
    simp only [Oi] at h
    have hc1:=hx.cut (i*c) c
    have hc2:=hy.cut (i*c) c
    have f1:=ih _ _ _ _ r1 h1 hc1 hc2
    rw [List.drop_drop,List.drop_drop] at h2
    have f2:=bgk ih hx hy hs hw m (i+1) r2 (by rw [show(i+1+m)*c=i*c+c+m*c by rw [Nat.add_mul,Nat.add_mul,Nat.one_mul]];omega) (by rw [show(i+1+m)*c=i*c+c+m*c by rw [Nat.add_mul,Nat.add_mul,Nat.one_mul]];omega) (by rw [Nat.succ_mul];exact h2)
    rw [List.range'_succ]
    simp only [Op.eqItems,Sem.run_bind]
    rw [al8 hs (by omega),Result.andThen_ok,al8 hs (by omega),Result.andThen_ok,hw,f1,Result.andThen_ok]
    cases r1 with
    | true=>simpa [← h] using f2
    | false=>simp [← h]
theorem bgn{P:Program}[Plain P]{ρ:PM}{w:World}:∀ (d d':Nat),d≤d'→∀ (t:TypeId) (xs ys:List Cel) (us vs:List Value) (r ag:Bool) (n:Nat),eqT P d t xs ys=some r→szA P t=some (ag,n)→All2 (CRel ρ) xs us→All2 (CRel ρ) ys vs →
   (Op.equalIn d' t (mkV ag us) (mkV ag vs)).run P w=.ok r w
 | 0,_,_,_,_,_,_,_,_,_,_,h,_,_,_=>by cases h
 | d+1,0,hd,_,_,_,_,_,_,_,_,_,_,_,_=>by omega
 | d+1,d'+1,hd,t,xs,ys,us,vs,r,ag,n,h,hs,hx,hy=>by
  have hag:∀ dd,P.underlying t=some dd→ag=(match dd with | .struct _ | .array _ _=>true | _=>false):=by
   intro dd hdd
   rw [bdu] at hs
   unfold szA0 at hs
   rw [hdd] at hs
   split at hs
   ·rename_i i d2 h1 h2
    simp only [Oi] at h2
    subst h2
    simp only [Oi,Prod.mk.injEq] at hs
    exact hs.1.symm
   ·cases hs
  simp only [eqT,ab6] at h
  cases hu:P.underlying t with
  | none=>rw [hu] at h;cases h
  | some dd =>
   have hag':=hag dd hu
   rw [hu] at h
   cases dd with
   | int k0 =>
    simp only at h hag'
    subst hag'
    split at h
    ·rename_i k a k' b
     split at h
     ·rename_i hk
      subst hk
      match us,vs,hx,hy with
      | [u],[v],hx,hy =>
       obtain⟨⟨rfl,_⟩,_⟩:=hx
       obtain⟨⟨rfl,_⟩,_⟩:=hy
       cases h
       exact run_equalIn_int w d' t k k0 a b hu
     ·cases h
    ·cases h
   | bool =>
    simp only at h hag'
    subst hag'
    split at h
    ·rename_i a b
     match us,vs,hx,hy with
     | [u],[v],hx,hy =>
      obtain⟨⟨rfl,_⟩,_⟩:=hx
      obtain⟨⟨rfl,_⟩,_⟩:=hy
      cases h
      exact run_equalIn_bool w d' t a b hu
    ·cases h
   | string =>
    simp only at h hag'
    subst hag'
    split at h
    ·rename_i a b
     match us,vs,hx,hy with
     | [u],[v],hx,hy =>
      obtain⟨⟨rfl,_⟩,_⟩:=hx
      obtain⟨⟨rfl,_⟩,_⟩:=hy
      cases h
      exact run_equalIn_string w d' t a b hu
    ·cases h
   | struct fs =>
    simp only at h hag'
    subst hag'
    split at h
    ·rename_i hpl
     have hst:=Plain.sound t hpl
     have hf:P.fieldsOf t=fs:=by simp [Program.fieldsOf,hu]
     have:=run_equalIn_struct (P:=P) w d' t us.toArray vs.toArray (by rw [hf];exact hu) hst
     show(Op.equalIn (d'+1) t (.agg us.toArray) (.agg vs.toArray)).run P w=.ok r w
     rw [this,hf]
     exact bgm (fun t xs ys us vs r ag n=>bgn d d' (by omega) t xs ys us vs r ag n) hx hy _ _ (Plain.named t fs hpl hu) h
    ·cases h
   | array len e =>
    simp only at h hag'
    subst hag'
    split at h
    ·rename_i age c hse
     split at h
     ·rename_i hc
      obtain⟨hw,hc1,hc2⟩:=hc
      have hxl:=hx.length
      have hyl:=hy.length
      obtain⟨i,hi,his⟩:∃ i,P.info? e=some i∧i.size=c:=by
       have:=hse
       rw [bdu] at this
       unfold szA0 at this
       split at this
       ·rename_i i d2 h1 h2
        simp only [Oi,Prod.mk.injEq] at this
        exact⟨i,h1,this.2⟩
       ·cases this
      have hcell:P.cellsOf e=c:=by simp [Program.cellsOf,hi,his]
      show(Op.equalIn (d'+1) t (.agg us.toArray) (.agg vs.toArray)).run P w=.ok r w
      rw [run_equalIn_array w d' us.toArray vs.toArray hu hi,hcell,List.range_eq_range']
      exact bgk (fun xs ys us vs r hh h1 h2=>bgn d d' (by omega) e xs ys us vs r age c hh hse h1 h2) hx hy hse hw len 0 r (by rw [Nat.zero_add];omega) (by rw [Nat.zero_add];omega) (by rw [Nat.zero_mul];exact h)
     ·cases h
    ·cases h
   | _=>cases h
def setFrom{α:Type}(cells:List α)(off:Nat):List α→List α
 | []=>cells
 | c::cs=>setFrom (cells.set off c) (off+1) cs
theorem ax6{α β:Type}{R:α→β→Prop}:∀ {cs:List α} {us:List β} {xs:List α} {ys:List β} (off:Nat),All2 R cs us→All2 R xs ys→All2 R (setFrom xs off cs) (setFrom ys off us)
 | [],[],_,_,_,_,h=>h
 | _::_,_::_,_,_,off,⟨h1,h2⟩,h=>ax6 (off+1) h2 (h.set h1 off)
 | [],_::_,_,_,_,h,_=>h.elim
 | _::_,[],_,_,_,h,_=>h.elim
theorem apj(off:Nat):∀ (l:List Value) (k:Nat) (arr:Array Value),((l.zipIdx k).foldl (fun cs (p:Value×Nat)=>cs.setIfInBounds (off+p.2) p.1) arr).toList=setFrom arr.toList (off+k) l
 | [],_,_=>rfl
 | c::l,k,arr=>by
  simp only [List.zipIdx_cons,List.foldl_cons,setFrom]
  rw [apj off l (k+1)]
  simp [Nat.add_assoc]
def a6a(place:Nat→Option (Nat×Nat))(cells:List Cel):List (Nat×AV)→Option (List Cel)
 | []=>some cells
 | (i,v)::rest =>
  match place i,v.cels with
  | some (off,size),some cs=>if cs.length=size∧off+cs.length≤cells.length then a6a place (setFrom cells off cs) rest else none
  | _,_=>none
def at7(ρ:PM):List (Nat×AV)→List (Nat×Value)→Prop:=All2 fun p q=>p.1=q.1∧VRel ρ p.2 q.2
theorem aow{ρ:PM}{place:Nat→Option (Nat×Nat)}:∀ {ps:List (Nat×AV)} {qs:List (Nat×Value)} {cells out:List Cel} {us:Array Value},a6a place cells ps=some out→at7 ρ ps qs→All2 (CRel ρ) cells us.toList →
  ∃ vs:Array Value,Instr.fill place us qs=some vs∧All2 (CRel ρ) out vs.toList
 | [],[],_,_,us,h,_,hr=>by cases h;exact⟨us,rfl,hr⟩
 | (i,v)::rest,(j,u)::qs,cells,out,us,h,⟨⟨hij,hv⟩,hps⟩,hr=>by
  simp only at hij
  subst hij
  simp only [a6a] at h
  cases hp:place i with
  | none=>rw [hp] at h;cases h
  | some p =>
   obtain⟨off,size⟩:=p
   cases hc:v.cels with
   | none=>rw [hp,hc] at h;cases h
   | some cs =>
    rw [hp,hc] at h
    simp only at h
    split at h
    ·rename_i hle
     have hcr:=VRel.cels hv hc
     have hl1:=hcr.length
     have hl2:=hr.length
     simp only [Array.length_toList] at hl1 hl2
     have hr':All2 (CRel ρ) (setFrom cells off cs) (u.cells.zipIdx.foldl (fun cs (p:Value×Nat)=>cs.setIfInBounds (off+p.2) p.1) us).toList:=by
      rw [← Array.foldl_toList,Array.toList_zipIdx,apj]
      exact ax6 _ hcr hr
     obtain⟨vs,h1,h2⟩:=aow h hps hr'
     refine⟨vs,?_,h2⟩
     simp only [Instr.fill,hp]
     rw [if_neg (by simp;omega)]
     exact h1
    ·cases h
 | [],_::_,_,_,_,_,h,_=>h.elim
 | _::_,[],_,_,_,_,h,_=>h.elim
def aqe(P:Program)[Plain P]:List Field→Option (List (Nat×Nat))
 | []=>some []
 | f::fs=>match szA P f.type,aqe P fs with
  | some (_,n),some r=>some ((f.offset,n)::r)
  | _,_=>none
theorem run_places{P:Program}[Plain P]{w:World}:∀ {fs:List Field} {ps:List (Nat×Nat)},aqe P fs=some ps→(fs.mapM fun f=>do pure (f.offset,← sizeOf f.type):Sem (List (Nat×Nat))).run P w=.ok ps w
 | [],_,h=>by cases h;rfl
 | f::fs,ps,h=>by
  simp only [aqe] at h
  cases h1:szA P f.type with
  | none=>rw [h1] at h;cases h
  | some p =>
   obtain⟨ag,n⟩:=p
   cases h2:aqe P fs with
   | none=>rw [h1,h2] at h;cases h
   | some r =>
    rw [h1,h2] at h
    cases h
    simp only [List.mapM_cons,Sem.run_bind,run_sizeOf h1,Result.andThen_ok,Sem.run_pure,run_places h2]
def bfx(P:Program)[Plain P](t:TypeId)(parts:List (Nat×AV)):Option AV :=
 match infoT P t,undT P t with
 | some i,some (.struct fs) =>
  match i.zero,aqe P fs.toList with
  | some z,some ps=>match lits z.cells.toList with
   | some zs=>(a6a (fun i=>ps[i]?) zs parts).map .agg
   | none=>none
  | _,_=>none
 | some i,some (.array _ e) =>
  match i.zero,szA P e with
  | some z,some (_,n)=>match lits z.cells.toList with
   | some zs=>(a6a (fun i=>some (i*n,n)) zs parts).map .agg
   | none=>none
  | _,_=>none
 | _,_=>none
theorem afa{P:Program}[Plain P]{w:World}{t:TypeId}{i:TypeInfo}{z:Value}(h:P.info? t=some i)(hz:i.zero=some z):(zeroValue t).run P w=.ok z w:=by
 unfold zeroValue
 rw [Sem.run_bind,run_typeInfo h]
 simp [hz]
theorem bfy{P:Program}[Plain P]{w:World}{ρ:PM}{t:TypeId}{ps:List (Nat×AV)}{qs:Array (Nat×Value)}{v:AV}(h:bfx P t ps=some v)(hps:at7 ρ ps qs.toList) :
  ∃ u,(Instr.build t qs).run P w=.ok u w∧VRel ρ v u:=by
 unfold bfx at h
 rw [aja,ab6] at h
 cases hi:P.info? t with
 | none=>rw [hi] at h;cases h
 | some i =>
  cases hu:P.underlying t with
  | none=>rw [hi,hu] at h;cases h
  | some dd =>
   rw [hi,hu] at h
   cases dd with
   | struct fs =>
    simp only at h
    cases hz:i.zero with
    | none=>rw [hz] at h;cases h
    | some z =>
     cases hp:aqe P fs.toList with
     | none=>rw [hz,hp] at h;cases h
     | some pl =>
      rw [hz,hp] at h
      simp only at h
      cases hl:lits z.cells.toList with
      | none=>rw [hl] at h;cases h
      | some zs =>
       rw [hl] at h
       simp only at h
       cases hf:a6a (fun i=>pl[i]?) zs ps with
       | none=>rw [hf] at h;cases h
       | some out =>
        rw [hf] at h
        cases h
        obtain⟨vs,h1,h2⟩:=aow hf hps (ajd hl)
        refine⟨.agg vs,?_,vs,rfl,h2⟩
        have h1':Instr.fill (fun i=>pl.toArray[i]?) z.cells qs.toList=some vs:=by simpa using h1
        have hrp:=run_places (P:=P) (w:=w) hp
        simp only [Instr.build,Sem.run_bind,afa hi hz,Result.andThen_ok,run_underlying hu,Array.mapM_eq_mapM_toList,Sem.run_map,hrp,h1',Sem.run_pure]
   | array len e =>
    simp only at h
    cases hz:i.zero with
    | none=>rw [hz] at h;cases h
    | some z =>
     cases hp:szA P e with
     | none=>rw [hz,hp] at h;cases h
     | some pl =>
      obtain⟨ag,n⟩:=pl
      rw [hz,hp] at h
      simp only at h
      cases hl:lits z.cells.toList with
      | none=>rw [hl] at h;cases h
      | some zs =>
       rw [hl] at h
       simp only at h
       cases hf:a6a (fun i=>some (i*n,n)) zs ps with
       | none=>rw [hf] at h;cases h
       | some out =>
        rw [hf] at h
        cases h
        obtain⟨vs,h1,h2⟩:=aow hf hps (ajd hl)
        refine⟨.agg vs,?_,vs,rfl,h2⟩
        have h1':Instr.fill (fun i=>some (i*n,n)) z.cells qs.toList=some vs:=by simpa using h1
        simp only [Instr.build,Sem.run_bind,afa hi hz,Result.andThen_ok,run_underlying hu,run_sizeOf hp,h1',Sem.run_pure]
   | _=>cases h
def ai8(P:Program)[Plain P](t:TypeId)(len:Nat)(parts:List (Nat×AV)):Option (List Cel) :=
 match undT P t with
 | some (.slice e) =>
  match szA P e,(infoT P e).bind (·.zero) with
  | some (_,n),some z=>match lits z.cells.toList with
   | some zs =>
    if len*n≤2 ^ 24∧zs.length=n∧0<n then
     a6a (fun i=>some (i*n,n)) ((List.range (len*n)).map fun i=>zs.getD (i % n) default) parts
    else none
   | none=>none
  | _,_=>none
 | _=>none
theorem amk{P:Program}[Plain P]{w:World}{ρ:PM}{t:TypeId}{len:Nat}{ps:List (Nat×AV)}{qs:Array (Nat×Value)}{cs:List Cel}(h:ai8 P t len ps=some cs)(hps:at7 ρ ps qs.toList) :
  (∃ e us,(Instr.buildSlice t len qs).run P w=.ok (.slice (some ⟨w.heap.size,0,none⟩) len len) (w.alloc (.cells us e))∧All2 (CRel ρ) cs us.toList)∧len≤9223372036854775807:=by
 unfold ai8 at h
 simp only [aja,ab6] at h
 cases hu:P.underlying t with
 | none=>rw [hu] at h;cases h
 | some dd =>
  rw [hu] at h
  cases dd with
  | slice e =>
   simp only at h
   cases hs:szA P e with
   | none=>rw [hs] at h;cases h
   | some p =>
    obtain⟨ag,n⟩:=p
    cases hi:P.info? e with
    | none=>rw [hs,hi] at h;cases h
    | some i =>
     cases hz:i.zero with
     | none=>rw [hs,hi] at h;simp [hz] at h
     | some z =>
      rw [hs,hi] at h
      simp only [Option.bind_some,hz] at h
      cases hl:lits z.cells.toList with
      | none=>rw [hl] at h;cases h
      | some zs =>
       rw [hl] at h
       simp only at h
       split at h
       ·rename_i hle
        obtain⟨hle,hzn,hn⟩:=hle
        refine⟨?_,by have:len≤len*n:=Nat.le_mul_of_pos_right _ hn;omega⟩
        have hzr:=ajd (ρ:=ρ) hl
        have hzl:=hzr.length
        simp only [Array.length_toList] at hzl
        by_cases h0:len*n=0
        ·have hb:All2 (CRel ρ) ((List.range (len*n)).map fun i=>zs.getD (i % n) default) (((Array.range (len*n)).map ((#[]:Array Value)[· % 0]!))).toList:=by rw [h0];simp [All2]
         obtain⟨vs,h1,h2⟩:=aow h hps hb
         refine⟨e,vs,?_,h2⟩
         have hgt:¬ (len*n > 2 ^ 24):=by omega
         simp only [Instr.buildSlice,Sem.run_bind,run_underlying hu,Result.andThen_ok,run_sizeOf hs,if_neg hgt,if_pos h0,Sem.run_pure]
         have h1':Instr.fill (fun i=>some (i*n,n)) ((Array.range (len*n)).map ((#[]:Array Value)[· % (#[]:Array Value).size]!)) qs.toList=some vs:=h1
         simp only [h1',Sem.run_bind,Result.andThen_ok,Sem.run_pure,newRow,run_newObj,World.alloc_eq]
        ·have hb:All2 (CRel ρ) ((List.range (len*n)).map fun i=>zs.getD (i % n) default) (((Array.range (len*n)).map (z.cells[· % z.cells.size]!))).toList:=by
          rw [Array.toList_map,Array.toList_range]
          refine All2.of_get (by simp) fun j c u hc hu'=>?_
          simp only [List.getElem?_map] at hc hu'
          rcases Nat.lt_or_ge j (len*n) with hj | hj
          ·rw [List.getElem?_range hj] at hc hu'
           simp only [Option.map_some,Oi] at hc hu'
           have hm:j % n<zs.length:=by rw [hzn];exact Nat.mod_lt _ hn
           have hg:zs[j % n]? = some zs[j % n]:=Gl hm
           obtain⟨y,hy,hcr⟩:=hzr.get _ _ hg
           rw [← hc,← hu']
           rw [show z.cells.size=n by omega,Gd,hg,Option.getD_some]
           rw [Array.getElem?_toList] at hy
           rw [getElem!_def,hy]
           exact hcr
          ·rw [List.getElem?_eq_none (by simpa using hj)] at hc;cases hc
         obtain⟨vs,h1,h2⟩:=aow h hps hb
         refine⟨e,vs,?_,h2⟩
         have hgt:¬ (len*n > 2 ^ 24):=by omega
         simp only [Instr.buildSlice,Sem.run_bind,run_underlying hu,Result.andThen_ok,run_sizeOf hs,if_neg hgt,if_neg h0,Sem.run_pure,afa hi hz,h1,newRow,run_newObj,World.alloc_eq]
       ·cases h
  | _=>cases h
theorem aol(k:IntKind)(n:Int):abw (.int k (k.wrap n))=true:=by
 have h:=Go.bfc k n
 exact h
theorem bum{k:IntKind}{x y:Int}(hx:abw (.int k x)=true):abw (.int k (x.tmod y))=true:=by
 simp only [abw,Ba,Dt] at hx ⊢
 have hmin:k.min≤0:=by cases k<;>decide
 have hmax:0≤k.max:=by cases k<;>decide
 rcases Int.le_total 0 x with h | h
 ·have h1:=Int.tmod_nonneg y h
  have h2:x.tmod y≤x:=by
   rw [Int.tmod_eq_emod_of_nonneg h]
   exact Int.emod_le_of_nonneg_sx h
  omega
 ·have e:x.tmod y = -((-x).tmod y):=by rw [Int.neg_tmod];omega
  have h1:=Int.tmod_nonneg y (show 0≤-x by omega)
  have h2:(-x).tmod y≤-x:=by
   rw [Int.tmod_eq_emod_of_nonneg (by omega)]
   exact Int.emod_le_of_nonneg_sx (by omega)
  omega
theorem brr{k:IntKind}{x:Int}{m:Nat}(hx:abw (.int k x)=true):abw (.int k (x.fdiv (2 ^ m)))=true:=by
 simp only [abw,Ba,Dt] at hx ⊢
 have hmin:k.min≤0:=by cases k<;>decide
 have hmax:0≤k.max:=by cases k<;>decide
 have hp:(0:Int)<2 ^ m:=Int.pow_pos (by decide)
 rw [Int.fdiv_eq_ediv_of_nonneg _ (by omega)]
 have h1:(1:Int)≤2 ^ m:=by omega
 rcases Int.le_total 0 x with h | h
 ·have h2:=Int.ediv_nonneg h (show(0:Int)≤2 ^ m by omega)
  have h3:x / 2 ^ m≤x:=Int.ediv_le_self _ h
  omega
 ·have h2:x≤x / 2 ^ m:=by
   rw [Int.le_ediv_iff_mul_le hp]
   have:x*2 ^ m≤x*1:=Int.mul_le_mul_of_nonpos_left h h1
   omega
  have h3:x / 2 ^ m≤0:=by
   have:=Int.ediv_le_ediv hp h
   simpa using this
  omega
def binA(P:Program)[Plain P](op:BinOp)(t:TypeId)(x y:AV):Option Value :=
 match x,y with
 | .one (.lit (.int k a)),.one (.lit (.int k' b)) =>
  match op with
  | .shl=>if 0≤b then some (.int k (k.wrap (a*2 ^ (min b.toNat k.bits)))) else none
  | .shr=>if 0≤b then some (.int k (a.fdiv (2 ^ (min b.toNat k.bits)))) else none
  | op=>if k=k' then ail op k a b else none
 | .one (.lit (.bool a)),.one (.lit (.bool b)) =>
  match undT P t,op with
  | some .bool,.eql=>some (.bool (a==b))
  | some .bool,.neq=>some (.bool (!(a==b)))
  | _,_=>none
 | .agg xs,.agg ys =>
  match szA P t with
  | some (true,_) =>
   if Plain.plain P t then
    match op,eqT P 8 t xs ys with
    | .eql,some r=>some (.bool r)
    | .neq,some r=>some (.bool (!r))
    | _,_=>none
   else none
  | _=>none
 | _,_=>none
theorem brc{P:Program}[Plain P]{w:World}{ρ:PM}{op:BinOp}{t:TypeId}{x y:AV}{ox oy:Operand}{u u' v:Value}(h:binA P op t x y=some v)(hx:VRel ρ x u)(hy:VRel ρ y u') :
  (do eqGuard op t ox oy u u';binOp op t u u':Sem Value).run P w=.ok v w∧abw v=true:=by
 unfold binA at h
 split at h
 ·rename_i k a k' b
  obtain⟨rfl,hxo⟩:=hx
  obtain⟨rfl,_⟩:=hy
  rw [Sem.run_bind,eqGuard_at_int]
  simp only [Sem.run_pure,Result.andThen_ok]
  split at h
  ·split at h
   ·rename_i hb
    cases h
    simp only [binOp,Op.shift]
    rw [if_neg (by omega)]
    exact⟨rfl,aol _ _⟩
   ·cases h
  ·split at h
   ·rename_i hb
    cases h
    simp only [binOp,Op.shift]
    rw [if_neg (by omega)]
    exact⟨rfl,brr hxo⟩
   ·cases h
  ·split at h
   ·rename_i hk
    subst hk
    cases op<;>simp only [ail] at h
    case quo =>
     split at h
     ·cases h
     ·rename_i hy0
      cases h
      rw [binOp_quo]
      exact⟨by simp [Op.intDiv,hy0],aol _ _⟩
    case rem =>
     split at h
     ·cases h
     ·rename_i hy0
      cases h
      rw [binOp_rem]
      exact⟨by simp [Op.intDiv,hy0],bum hxo⟩
    all_goals first
     | (cases h;exact⟨by simp [binOp,Op.intArith,Op.intBits,Op.intCmp,bits],rfl⟩)
     | (cases h;exact⟨by simp [binOp,Op.intArith,Op.intBits,bits],aol _ _⟩)
     | cases h
   ·cases h
 ·rename_i a b
  obtain⟨rfl,_⟩:=hx
  obtain⟨rfl,_⟩:=hy
  rw [Sem.run_bind,eqGuard_at_bool]
  simp only [Sem.run_pure,Result.andThen_ok]
  rw [ab6] at h
  split at h
  ·rename_i hu
   cases h
   exact⟨run_eql_bool w t a b hu,rfl⟩
  ·rename_i hu
   cases h
   exact⟨run_neq_bool w t a b hu,rfl⟩
  ·cases h
 ·rename_i xs ys
  obtain⟨us,rfl,hxs⟩:=hx
  obtain⟨vs,rfl,hys⟩:=hy
  split at h
  ·rename_i n hs
   split at h
   ·rename_i hg
    have hg':P.eqGuardType P.depth t=false:=Plain.apart t hg
    have hguard:(eqGuard op t ox oy (.agg us) (.agg vs)).run P w=.ok () w:=by
     cases op<;>simp [eqGuard,hg']
    have heq:∀ r,eqT P 8 t xs ys=some r→(Op.equal t (.agg us) (.agg vs)).run P w=.ok r w:=fun r hr=>by
     have:=bgn (w:=w) 8 Op.maxDepth (by decide) t xs ys us.toList vs.toList r true n hr hs hxs hys
     simpa [mkV,Op.equal] using this
    rw [Sem.run_bind,hguard,Result.andThen_ok]
    split at h
    ·rename_i r hr
     cases h
     refine⟨?_,rfl⟩
     simp only [binOp,Sem.run_bind,heq r hr,Result.andThen_ok,Sem.run_pure]
    ·rename_i r hr
     cases h
     refine⟨?_,rfl⟩
     simp only [binOp,Sem.run_bind,heq r hr,Result.andThen_ok,Sem.run_pure]
    ·cases h
   ·cases h
  ·cases h
 ·cases h
end
noncomputable section
def Post(ρ:PM)(H:HP)(w:World)(v:AV)(H':HP):Value→World→Prop:=fun u w'=>∃ ρ',VRel ρ' v u∧Sim ρ H w ρ' H' w'
def abz(P:Program)(Q:Value→World→Prop):Result Next→Prop
 | .ok (.value u) w'=>Q u w'
 | .ok .skip w'=>Q undef w'
 | .ok (.enter f args) w'=>Calls P f args w' fun r w''=>∃ u,r=.returned u∧Q u w''
 | .ok (.round l f tmps assign body) w'=>RoundIn Fence.wide 0 P l f tmps assign body w' fun r w''=>∃ u,r=.returned u∧Q u w''
 | _=>False
theorem abz.mono{P:Program}{Q Q':Value→World→Prop}(hq:∀ u w,Q u w→Q' u w){r:Result Next}(h:abz P Q r):abz P Q' r:=by
 unfold abz at *
 split at h
 ·exact hq _ _ h
 ·exact hq _ _ h
 ·intro cs
  obtain⟨e,w',fr,⟨u,hu,hqu⟩,rest⟩:=h cs
  exact⟨e,w',fr,⟨u,hu,hq _ _ hqu⟩,rest⟩
 ·exact RoundIn.mono h fun e w' ⟨u,hu,hqu⟩=>⟨u,hu,hq _ _ hqu⟩
 ·cases h
abbrev R:=Option (AV×HP)
inductive Tg where
 | f (g:FuncId)
 | y (b:Nat)
abbrev Ora:=Tg→List AV→HP→R
def St(H H':HP):Prop:=Unt H H'∧H.n≤H'.n∧H'.hy=H.hy∧H'.nv=H.nv
theorem St.refl(H:HP):St H H:=⟨Unt.refl H,Rl _,rfl,rfl⟩
theorem St.trans{H H1 H2:HP}(h:St H H1)(h':St H1 H2):St H H2:=⟨h.1.trans h.2.1 h'.1,Nat.le_trans h.2.1 h'.2.1,h'.2.2.1.trans h.2.2.1,h'.2.2.2.trans h.2.2.2⟩
theorem St.push(H:HP)(k:Bk):St H (H.push k):=⟨Unt.push H k,Nat.le_succ _,rfl,rfl⟩
theorem St.write{H H':HP}{b off:Nat}{cs:List Cel}(h:H.write b off cs=some H'):St H H':=⟨Unt.write h,by rw [(HP.write_spec h).1];exact Rl _,HP.write_hy h,HP.write_nv h⟩
theorem St.drop(H:HP)(b:Nat):St H (H.drop b):=⟨Unt.drop H b,Rl _,rfl,rfl⟩
theorem St.obj(H:HP)(b:Nat)(x:Ct):St H (H.obj b x):=⟨Unt.obj H b x,Rl _,rfl,rfl⟩
def Sc(H H':HP):Prop:=Unt H H'∧H.n≤H'.n∧H.nv≤H'.nv
theorem Sc.refl(H:HP):Sc H H:=⟨Unt.refl H,Rl _,Rl _⟩
theorem Sc.trans{H H1 H2:HP}(h:Sc H H1)(h':Sc H1 H2):Sc H H2:=⟨h.1.trans h.2.1 h'.1,Nat.le_trans h.2.1 h'.2.1,Nat.le_trans h.2.2 h'.2.2⟩
theorem St.sc{H H':HP}(h:St H H'):Sc H H':=⟨h.1,h.2.1,Nat.le_of_eq h.2.2.2.symm⟩
def bqx(ρ:PM)(us:Array Value)(s:Sem Next):Tg→Prop
 | .f g=>s=callFunc g us
 | .y b=>∃ L,ρ b=some L∧s=Instr.yield L.B us
def aom(P:Program)(ora:Ora):Prop :=
 ∀ (t:Tg) (args:List AV) (H:HP) (v:AV) (H':HP),ora t args H=some (v,H')→St H H' ∧
  ∀ (ρ:PM) (w:World) (us:Array Value) (s:Sem Next),bqx ρ us s t→All2 (VRel ρ) args us.toList→HRel ρ H w→Dom ρ H.n→J ρ H w→abz P (Post ρ H w v H') (s.run P w)
def aho:AV:=.tup []
theorem apr(ρ:PM):VRel ρ aho undef:=⟨#[],rfl,trivial⟩
def ap3(E:Operand→Option AV)(xs:List Operand):Option (List AV):=aej (xs.map E)
def awh(E:Operand→Option AV):List (Nat×Operand)→Option (List (Nat×AV))
 | []=>some []
 | (i,x)::ps=>match E x,awh E ps with
  | some v,some r=>some ((i,v)::r)
  | _,_=>none
section
variable (P:Program) [Plain P] (ora:Ora) (E:Operand→Option AV) (H:HP)
def bsk(x:Operand):R:=(E x).map fun v=>(v,H)
def bm5(c a b:Operand):R :=
 match E c with
 | some (.one (.lit (.bool t)))=>(if t then E a else E b).map fun v=>(v,H)
 | _=>none
def a6q(t:TypeId):R :=
 match infoT P t with
 | some i=>match i.zero with
  | some z=>(lits z.cells.toList).map fun cs=>(.one (.ptr H.n 0),H.push (aio cs))
  | none=>none
 | none=>none
def oBox(x:Operand):R:=((E x).bind AV.cels).map fun cs=>(.one (.ptr H.n 0),H.push (aio cs))
def bp5(t:TypeId)(ps:Array (Nat×Operand)):R:=((awh E ps.toList).bind (bfx P t)).map fun v=>(v,H)
def anb(t:TypeId)(len:Nat)(ps:Array (Nat×Operand)):R:=((awh E ps.toList).bind (ai8 P t len)).map fun cs=>(.one (.sl H.n 0 len len),H.push (aio cs))
def a92(t:TypeId)(x:Operand):R :=
 match E x,szA P t with
 | some (.one (.ptr b off)),some (ag,n)=>((H.read b off (wid ag n)).bind (mkA ag)).map fun v=>(v,H)
 | _,_=>none
def a6s(t:TypeId)(x v:Operand):R :=
 match E x,(E v).bind AV.cels,szA P t with
 | some (.one (.ptr b off)),some cs,some (_,n)=>if cs.length=n then(H.write b off cs).map fun H'=>(aho,H') else none
 | _,_,_=>none
def oNil(x:Operand):R :=
 match E x with
 | some (.one (.ptr b off))=>some (.one (.ptr b off),H)
 | _=>none
def bb5:AV→Option Bool
 | .one (.lit (.pointer none))=>some true
 | .one (.lit (.slice none _ _))=>some true
 | .one (.lit (.map none))=>some true
 | .one (.lit .nilFunc)=>some true
 | .one (.lit (.func _ _ _))=>some false
 | .one (.ptr _ _)=>some false
 | .one (.sl _ _ _ _)=>some false
 | .one (.su _ _ _ _)=>some false
 | .one (.sz _ _)=>some false
 | .one (.fn _ _)=>some false
 | .one (.mp _)=>some false
 | _=>none
def ap9:AV→Nat
 | .one (.lit (.pointer none))=>1
 | .one (.ptr _ _)=>1
 | .one (.lit (.slice none _ _))=>2
 | .one (.sl _ _ _ _)=>2
 | .one (.su _ _ _ _)=>2
 | .one (.sz _ _)=>2
 | .one (.lit (.map none))=>3
 | .one (.mp _)=>3
 | .one (.lit .nilFunc)=>4
 | .one (.lit (.func _ _ _))=>4
 | .one (.fn _ _)=>4
 | _=>0
def alr:TypeDesc→Nat
 | .pointer _=>1
 | .slice _=>2
 | .map _ _=>3
 | .func _ _ _=>4
 | _=>5
def nilA(op:BinOp)(d:TypeDesc)(x y:AV):Option Value :=
 match bb5 x,bb5 y with
 | some p,some q =>
  if ap9 x=alr d∧ap9 y=alr d∧(p=true∨q=true) then
   match op with
   | .eql=>some (.bool (p&&q))
   | .neq=>some (.bool !(p&&q))
   | _=>none
  else none
 | _,_=>none
def bsf(op:BinOp)(t:TypeId)(x y:AV):Option Value :=
 match x,y with
 | .one (.lit (.string a)),.one (.lit (.string b))=>strA op a b
 | x,y=>match undT P t with
  | some d=>nilA op d x y
  | none=>none
def oBin(op:BinOp)(t:TypeId)(x y:Operand):R :=
 match E x,E y with
 | some a,some b=>match binA P op t a b with
  | some v=>some (.one (.lit v),H)
  | none=>(bsf P op t a b).map fun v=>(.one (.lit v),H)
 | _,_=>none
def oUn(op:UnOp)(x:Operand):R :=
 match op,E x with
 | .not,some (.one (.lit (.bool b)))=>some (.one (.lit (.bool !b)),H)
 | .neg,some (.one (.lit (.int k n)))=>some (.one (.lit (.int k (k.wrap (0 - n)))),H)
 | .xor,some (.one (.lit (.int k n)))=>some (.one (.lit (.int k (bits .xor k (match k.signed with | true=>-1 | false=>k.max) n))),H)
 | _,_=>none
def al1(t:TypeId)(x:Operand)(f:Nat):R :=
 match undT P t,E x with
 | some (.struct fs),some (.one (.ptr b off))=>match fs[f]? with
  | some fl=>match szA P fl.type with
   | some (_,n)=>if n=0 then none else some (.one (.ptr b (off+fl.offset)),H)
   | none=>none
  | none=>none
 | _,_=>none
def bcn(t:TypeId)(x:Operand)(f:Nat):R :=
 match undT P t,E x with
 | some (.struct fs),some (.agg xs)=>match fs[f]? with
  | some fl=>match szA P fl.type with
   | some (ag,n)=>if fl.offset+wid ag n≤xs.length then(mkA ag (cut xs fl.offset (wid ag n))).map fun v=>(v,H) else none
   | none=>none
  | none=>none
 | _,_=>none
def a4x:AV→Option (Nat×Nat×Nat)
 | .one (.sl b off len _)=>some (b,off,len)
 | .one (.su b off len _)=>some (b,off,len)
 | _=>none
def inA(n:Int)(len:Nat):Bool :=
 match n with
 | .ofNat j=>Nat.ble (Nat.succ j) len
 | .negSucc _=>false
def al2(t:TypeId)(x i:Operand):R :=
 match undT P t,E x,E i with
 | some (.slice e),some a,some (.one (.lit (.int _ n))) =>
  match a4x a,szA P e with
  | some (b,off,len),some (_,s)=>match inA n len with
   | true=>some (.one (.ptr b (off+n.toNat*s)),H)
   | false=>none
  | _,_=>none
 | some (.array len e),some (.one (.ptr b off)),some (.one (.lit (.int _ n))) =>
  match szA P e with
  | some (_,s)=>match inA n len with
   | true=>some (.one (.ptr b (off+n.toNat*s)),H)
   | false=>none
  | none=>none
 | _,_,_=>none
def bcp(t:TypeId)(x i:Operand):R :=
 match undT P t,E x,E i with
 | some .string,some (.one (.lit (.string s))),some (.one (.lit (.int _ n))) =>
  if 0≤n then match s[n.toNat]? with
   | some b=>some (.one (.lit (.int .u8 b.toNat)),H)
   | none=>none
  else none
 | some (.array len e),some (.agg xs),some (.one (.lit (.int _ n))) =>
  match szA P e with
  | some (ag,s)=>if 0≤n∧n<len∧n.toNat*s+wid ag s≤xs.length then(mkA ag (cut xs (n.toNat*s) (wid ag s))).map fun v=>(v,H) else none
  | none=>none
 | _,_,_=>none
def aui(x:Operand)(i:Nat):R :=
 match E x with
 | some (.tup vs)=>match vs[i]? with
  | some (true,xs)=>some (.agg xs,H)
  | some (false,[c])=>some (.one c,H)
  | _=>none
 | _=>none
def ptrs(caps:List (Nat×Nat)):List AV:=caps.map fun p=>.one (.ptr p.1 p.2)
def bm2(f:Operand)(args:Array Operand):R :=
 match E f,ap3 E args.toList with
 | some (.one (.lit (.func (.func g) a b))),some vs=>if a.size=0∧b.size=0 then ora (.f g) vs H else none
 | some (.one (.fn (.func g) caps)),some vs=>ora (.f g) (vs++ptrs caps) H
 | some (.one (.yd b)),some vs=>ora (.y b) vs H
 | _,_=>none
def lenA(t:TypeId)(x:AV):Option Nat :=
 match undT P t,x with
 | some .string,.one (.lit (.string s))=>some s.size
 | some (.array n _),_=>if n≤9223372036854775807 then some n else none
 | some (.slice _),.one (.sl _ _ n _)=>some n
 | some (.slice _),.one (.su _ _ n _)=>some n
 | some (.slice _),.one (.sz _ _)=>some 0
 | some (.slice _),.one (.lit (.slice none n _))=>some n
 | _,_=>none
def oLen(args:Array Operand)(ats:Array TypeId):R :=
 match ap3 E args.toList,ats.toList with
 | some [x],t::_=>(lenA P t x).map fun(n:Nat)=>(.one (.lit (.int .i64 n)),H)
 | _,_=>none
def ao5(fn:Fn)(first caps:Array Operand):R :=
 match ap3 E caps.toList with
 | some vs=>match vs.mapM (fun v=>match v with | .one (.ptr b off)=>some (b,off) | _=>none) with
  | some ps=>if first.size=0 then some (.one (.fn fn ps),H) else none
  | none=>none
 | none=>none
end
end
end Go.Sx
