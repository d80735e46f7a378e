/-
  A second abstract evaluator of the model's code: maps. Conditions: none; nothing here speaks of one program.
-/
import Derived.Test.YtlbbkmcegbeckaaSvL
import Derived.RangeFuncRecord
set_option linter.unusedSimpArgs false
set_option linter.unusedSectionVars false
set_option linter.unusedVariables false
namespace Go.Sx
variable [Sg]
section
variable {P:Program} [Plain P] {ora:Ora} {E:Operand→Option AV} {H H':HP} {w:World} {ρ:PM} {ev:Operand→Value} {v:AV}
noncomputable def keyK(P:Program)[Plain P]:Nat→TypeId→Nat→Bool
 | 0,_,_=>false
 | d+1,t,len=>match undT P t with
  | some (.int _)=>true
  | some .bool=>true
  | some .string=>true
  | some (.struct fs)=>fs.toList.all fun f=>match szA P f.type with
   | some (ag,n)=>Nat.ble (f.offset+wid ag n) len&&keyK P d f.type (wid ag n)
   | none=>false
  | _=>false
theorem ccz{g:Field→PUnit→Sem (ForInStep PUnit)}:∀ {fields:List Field},(∀ f∈fields,(g f PUnit.unit).run P w=.ok (.yield PUnit.unit) w)→(forIn fields PUnit.unit g).run P w=.ok PUnit.unit w
 | [],_=>rfl
 | f::fs,h=>by
  simp only [List.forIn_cons,Sem.run_bind,h f (List.mem_cons_self ..),Result.andThen_ok]
  exact ccz fun f hf=>h f (List.mem_cons_of_mem _ hf)
def dbo:TypeDesc→Bool
 | .struct _=>true
 | .array _ _=>true
 | _=>false
theorem ddv{t:TypeId}{ag:Bool}{n:Nat}{dd:TypeDesc}(hs:szA P t=some (ag,n))(hdd:P.underlying t=some dd):ag=dbo dd:=by
 rw [cq6] at hs
 unfold szA0 at hs
 rw [hdd] at hs
 split at hs
 ·rename_i i d2 h1 h2
  simp only [Option.some.injEq] at h2
  subst h2
  simp only [Option.some.injEq,Prod.mk.injEq] at hs
  rw [← hs.1]
  cases dd<;>rfl
 ·cases hs
theorem ccx(e:Bool):∀ (d d':Nat),d≤d'→∀ (t:TypeId) (us:List Value) (ag:Bool) (n:Nat),keyK P d t us.length=true→szA P t=some (ag,n)→(Instr.checkKey e d' t (mkV ag us)).run P w=.ok () w
 | 0,_,_,_,_,_,_,h,_=>by cases h
 | d+1,0,hd,_,_,_,_,_,_=>by omega
 | d+1,d'+1,hd,t,us,ag,n,h,hs=>by
  simp only [keyK,b3j] at h
  cases hu:P.underlying t with
  | none=>rw [hu] at h;cases h
  | some dd =>
   have hag:=ddv hs hu
   rw [hu] at h
   cases dd with
   | int k=>simp [Instr.checkKey,run_underlying hu]
   | bool=>simp [Instr.checkKey,run_underlying hu]
   | string=>simp [Instr.checkKey,run_underlying hu]
   | struct fs =>
    simp only [dbo] at hag
    subst hag
    simp only [List.all_eq_true] at h
    show(Instr.checkKey e (d'+1) t (.agg us.toArray)).run P w=.ok () w
    simp only [Instr.checkKey,Sem.run_bind,run_underlying hu,Result.andThen_ok]
    rw [← Array.forIn_toList]
    rw [ccz (fun f hf=>?_)]
    ·rfl
    ·have hf':=h f hf
     split at hf'
     ·rename_i ag' n' hs'
      simp only [Bool.and_eq_true] at hf'
      have hle:=Nat.le_of_ble_eq_true hf'.1
      by_cases hn:f.name = "_"
      ·simp [hn]
      ·have hlen:((us.drop f.offset).take (wid ag' n')).length=wid ag' n':=by simp;omega
       have ih:=ccx e d d' (by omega) f.type ((us.drop f.offset).take (wid ag' n')) ag' n' (by rw [hlen];exact hf'.2) hs'
       simp only [ne_eq,hn,not_false_eq_true,if_true,Sem.run_bind,b9e hs' hle,Result.andThen_ok,ih,Sem.run_pure]
     ·cases hf'
   | _=>cases h
noncomputable def cmj(P:Program)[Plain P](t:TypeId)(ag:Bool)(k:List Cel):List Ent→Nat→Option (Option (Nat×(Bool×List Cel)))
 | [],_=>some none
 | e::es,i=>match ag,e.1.1 with
  | true,true=>match eqT P 64 t k e.1.2 with
   | some true=>some (some (i,e.2.1))
   | some false=>cmj P t ag k es (Nat.succ i)
   | none=>none
  | false,false=>match eqT P 64 t k e.1.2 with
   | some true=>some (some (i,e.2.1))
   | some false=>cmj P t ag k es (Nat.succ i)
   | none=>none
  | _,_=>none
def cl0(ρ:PM):Option (Nat×(Bool×List Cel))→Option (Nat×Value)→Prop
 | none,none=>True
 | some (i,p),some (j,u)=>i=j∧PRel ρ p u
 | _,_=>False
theorem PRel.mkV{ag:Bool}{xs:List Cel}{u:Value}(h:PRel ρ (ag,xs) u):∃ us,u=Sx.mkV ag us∧All2 (CRel ρ) xs us:=by
 cases ag with
 | true=>obtain⟨us,rfl,h2⟩:=h;exact⟨us.toList,rfl,h2⟩
 | false =>
  match xs,h with
  | [c],h=>exact⟨[u],rfl,h,trivial⟩
theorem cad{t:TypeId}{ag:Bool}{n:Nat}{k:List Cel}{ks:List Value}(hs:szA P t=some (ag,n))(hk:All2 (CRel ρ) k ks):∀ {es:List Ent} {ms:List MapEntry} {i:Nat} {r:Option (Nat×(Bool×List Cel))},
  cmj P t ag k es i=some r→All2 (b5c ρ) es ms→∃ r',(Instr.findAsking t (Sx.mkV ag ks) ms i).run P w=.ok r' w∧cl0 ρ r r'
 | [],[],i,r,h,_=>by cases h;exact⟨none,rfl,trivial⟩
 | [],_::_,_,_,_,h=>h.elim
 | _::_,[],_,_,_,h=>h.elim
 | e::es,m::ms,i,r,h,⟨⟨h1,h2,h3⟩,h4⟩=>by
  obtain⟨⟨ag',kc⟩,vv,born⟩:=e
  have key:∀ b,ag'=ag→eqT P 64 t k kc=some b→(Op.equal t (Sx.mkV ag ks) m.key).run P w=.ok b w:=by
   intro b hb he
   subst hb
   obtain⟨us,hu,hr⟩:=h1.mkV
   rw [hu,b39]
   exact cts 64 (9999+1) (by omega) t k kc ks us b ag' n he hs hk hr
  have go:∀ (he:ag'=ag),(match eqT P 64 t k kc with | some true=>some (some (i,vv)) | some false=>cmj P t ag k es (Nat.succ i) | none=>none)=some r→∃ r',(Instr.findAsking t (Sx.mkV ag ks) (m::ms) i).run P w=.ok r' w∧cl0 ρ r r':=by
   intro he h
   split at h
   ·rename_i heq
    cases h
    refine⟨some (i,m.val),?_,rfl,h2⟩
    simp only [Instr.findAsking,Sem.run_bind,key true he heq,Result.andThen_ok,if_true,Sem.run_pure]
   ·rename_i heq
    obtain⟨r',h5,h6⟩:=cad hs hk h h4
    refine⟨r',?_,h6⟩
    simp only [Instr.findAsking,Sem.run_bind,key false he heq,Result.andThen_ok,Bool.false_eq_true,if_false]
    exact h5
   ·cases h
  cases ag with
  | true=>cases ag' with
   | true=>exact go rfl h
   | false=>cases h
  | false=>cases ag' with
   | true=>cases h
   | false=>exact go rfl h
theorem b6z{t:TypeId}{d:TypeDesc}(hu:P.underlying t=some d){k:Value}:∀ {ms:List MapEntry} {i:Nat} {x:Option (Nat×Value)},Instr.findNow d k ms i=some x→(Instr.findAsking t k ms i).run P w=.ok x w
 | [],_,_,h=>by cases h;rfl
 | m::ms,i,x,h=>by
  simp only [Instr.findNow] at h
  have key:∀ b,Instr.sameNow d k m.key=some b→(Op.equal t k m.key).run P w=.ok b w:=by
   intro b hb
   generalize m.key=u at hb ⊢
   unfold Instr.sameNow at hb
   split at hb
   ·split at hb
    ·rename_i hk
     subst hk
     cases hb
     rw [b39]
     exact run_equalIn_int w _ t _ _ _ _ hu
    ·cases hb
   ·cases hb
    rw [b39,run_equalIn_string _ _ t _ _ hu,beq_toListBytes]
   ·cases hb
    rw [b39]
    exact run_equalIn_bool w _ t _ _ hu
   ·cases hb
  split at h
  ·rename_i heq
   cases h
   simp only [Instr.findAsking,Sem.run_bind,key true heq,Result.andThen_ok,if_true,Sem.run_pure]
  ·rename_i heq
   simp only [Instr.findAsking,Sem.run_bind,key false heq,Result.andThen_ok,Bool.false_eq_true,if_false]
   exact b6z hu h
  ·cases h
theorem b7b{t:TypeId}{d:TypeDesc}{ag:Bool}{n:Nat}{k:List Cel}{ks:List Value}(hu:P.underlying t=some d)(hs:szA P t=some (ag,n))(hk:All2 (CRel ρ) k ks){es:List Ent}{ms:List MapEntry}{r:Option (Nat×(Bool×List Cel))}
  (h:cmj P t ag k es 0=some r) (he:All2 (b5c ρ) es ms):∃ r',(Instr.findKey t (Sx.mkV ag ks) ms).run P w=.ok r' w∧cl0 ρ r r':=by
 obtain⟨r',h1,h2⟩:=cad (w:=w) hs hk h he
 refine⟨r',?_,h2⟩
 simp only [Instr.findKey,Sem.run_bind,run_underlying hu,Result.andThen_ok]
 split
 ·rename_i x hx
  have:=b6z (w:=w) hu hx
  rw [h1] at this
  cases this
  rfl
 ·exact h1
noncomputable section
def ccn(H:HP)(b:Nat):Option (List Ent×Nat) :=
 match H.t.get b with
 | some (.lf [some (.map es clock)])=>some (es,clock)
 | _=>none
structure IterC where
 m:Option Nat
 since:Nat
 seen:List Nat
 stepped:Nat
def iterAt(H:HP)(b:Nat):Option IterC :=
 match H.t.get b with
 | some (.lf [some (.iter m since seen stepped)])=>some ⟨m,since,seen,stepped⟩
 | _=>none
end
theorem b9b{b:Nat}{x:Ct}(h:H.t.get b=some (.lf [some x])):H.cell b 0=some x∧∀ i,i≠0→H.cell b i=none:=by
 refine⟨by unfold HP.cell;rw [h];rfl,fun i hi=>?_⟩
 obtain⟨j,rfl⟩:=Nat.exists_eq_succ_of_ne_zero hi
 unfold HP.cell
 rw [h]
 rfl
theorem cke{b:Nat}{es:List Ent}{clock:Nat}(h:ccn H b=some (es,clock)):H.t.get b=some (.lf [some (.map es clock)]):=by
 unfold ccn at h
 split at h
 ·rename_i hk
  cases h
  exact hk
 ·cases h
theorem chb{b:Nat}{x:IterC}(h:iterAt H b=some x):H.t.get b=some (.lf [some (.iter x.m x.since x.seen x.stepped)]):=by
 unfold iterAt at h
 split at h
 ·rename_i hk
  cases h
  exact hk
 ·cases h
theorem Sim.put1{b:Nat}{x c:Ct}{L:Loc}{o o':Obj}(hH:HRel ρ H w)(hd:Dom ρ H.n)(hL:ρ b=some L)(hb:H.t.get b=some (.lf [some c]))(ho:w.heap[L.B]? = some o)(hnc:∀ arr t fr,o≠.cells arr t fr)
  (hx:b6h ρ (w.putObj L.B o') L 0 x):Sim ρ H w ρ (H.obj b x) (w.putObj L.B o') :=
 Sim.setObj hH hd hL ⟨_,(b9b hb).1⟩ (b9b hb).2 (fun arr t fr h=>by rw [ho] at h;cases h;exact hnc _ _ _ rfl) hx (fun k hk=>World.putObj_heap_other hk) (by simp) rfl rfl rfl
theorem b54{b:Nat}{es:List Ent}{clock:Nat}{L:Loc}(hH:HRel ρ H w)(hL:ρ b=some L)(h:ccn H b=some (es,clock)):L.o=0∧∃ arr,w.heap[L.B]? = some (.map arr clock)∧All2 (b5c ρ) es arr.toList:=by
 obtain⟨_,h1,h2⟩:=hH.rel b 0 _ L (b9b (cke h)).1 hL
 exact⟨h1,h2⟩
theorem Sim.map{b:Nat}{es es':List Ent}{clock clock':Nat}{L:Loc}{arr arr':Array MapEntry}(hH:HRel ρ H w)(hd:Dom ρ H.n)(hL:ρ b=some L)(h:ccn H b=some (es,clock))(harr:w.heap[L.B]? = some (.map arr clock))(hr:All2 (b5c ρ) es' arr'.toList) :
  Sim ρ H w ρ (H.obj b (.map es' clock')) (w.putObj L.B (.map arr' clock')):=by
 refine Sim.put1 hH hd hL (cke h) harr (fun _ _ _ h=>by cases h) ?_
 exact⟨rfl,(b54 hH hL h).1,arr',World.putObj_heap_same (Array.getElem?_eq_some_iff.1 harr).1,hr⟩
theorem b6k{r:Nat}{o:Obj}(h:w.heap[r]? = some o)(hn:∀ arr t fr,o≠.cells arr t fr):(getObj r).run P w=.ok o w:=by
 cases o<;>first | exact absurd rfl (hn _ _ _) | simp [getObj,Sem.run,h]
theorem b8o{r:Nat}{o:Obj}(o':Obj)(h:w.heap[r]? = some o)(hn:∀ arr t fr,o≠.cells arr t fr):(setObj r o').run P w=.ok () (w.putObj r o'):=by
 cases o<;>first | exact absurd rfl (hn _ _ _) | simp [setObj,Sem.run,h,World.putObj]
theorem b37{r:Nat}{arr:Array MapEntry}{clock:Nat}(h:w.heap[r]? = some (.map arr clock)):(getObj r).run P w=.ok (.map arr clock) w:=b6k h (fun _ _ _ h=>by cases h)
theorem b5o{r:Nat}{arr:Array MapEntry}{clock:Nat}(o':Obj)(h:w.heap[r]? = some (.map arr clock)):(setObj r o').run P w=.ok () (w.putObj r o'):=b8o o' h (fun _ _ _ h=>by cases h)
def partOf:AV→Option (Bool×List Cel)
 | .one c=>some (false,[c])
 | .agg xs=>some (true,xs)
 | .tup _=>none
def avOf:Bool×List Cel→Option AV
 | (true,xs)=>some (.agg xs)
 | (false,[c])=>some (.one c)
 | _=>none
theorem b6v{p:Bool×List Cel}{u:Value}(h:partOf v=some p)(hv:VRel ρ v u):PRel ρ p u:=by
 cases v with
 | one c=>cases h;exact hv
 | agg xs=>cases h;exact hv
 | tup vs=>cases h
theorem cl2{p:Bool×List Cel}{u:Value}(h:avOf p=some v)(hp:PRel ρ p u):VRel ρ v u:=by
 match p,h,hp with
 | (true,xs),h,hp=>cases h;exact hp
 | (false,[c]),h,hp=>cases h;exact hp
noncomputable def daq(z:Value):Option (Bool×List Cel) :=
 match z with
 | .agg us=>(lits us.toList).map fun cs=>(true,cs)
 | z=>if b4k z then some (false,[.lit z]) else none
theorem c2k{z:Value}{p:Bool×List Cel}(h:daq z=some p):PRel ρ p z:=by
 unfold daq at h
 split at h
 ·rename_i us
  obtain⟨cs,hcs,rfl⟩:=map_some h
  exact⟨us,rfl,b62 hcs⟩
 ·split at h
  ·rename_i hz
   cases h
   exact⟨rfl,hz⟩
  ·cases h
noncomputable def c2l(P:Program)(t:TypeId):Option (Bool×List Cel):=(infoT P t).bind fun i=>i.zero.bind daq
theorem cf9{t:TypeId}{p:Bool×List Cel}(h:c2l P t=some p):∃ z,(∀ w:World,(zeroValue t).run P w=.ok z w)∧PRel ρ p z:=by
 unfold c2l at h
 rw [b60] at h
 obtain⟨i,hi,h1⟩:=b3h h
 obtain⟨z,hz,h2⟩:=b3h h1
 exact⟨z,fun w=>b5k hi hz,c2k h2⟩
def cdm:Value→Value→Bool
 | .int k a,.int k' b=>decide (k=k')&&decide (a=b)
 | .bool a,.bool b=>decide (a=b)
 | .string a,.string b=>decide (a.toList=b.toList)
 | _,_=>false
def cfu:List Cel→List Cel→Bool
 | [],[]=>true
 | .lit a::xs,.lit b::ys=>cdm a b&&cfu xs ys
 | _,_=>false
theorem ce1{a b:Value}(h:cdm a b=true)(n:Nat):Instr.sameBits n a b=true:=by
 cases a<;>cases b<;>first | (cases h;done) | skip
 ·simp only [cdm,decide_eq_true_eq] at h;subst h;cases n<;>simp [Instr.sameBits]
 ·simp only [cdm,Bool.and_eq_true,decide_eq_true_eq] at h;obtain⟨rfl,rfl⟩:=h;cases n<;>simp [Instr.sameBits]
 ·rename_i x y
  simp only [cdm,decide_eq_true_eq] at h
  have:(x==y)=true:=by rw [beq_toListBytes,h];simp
  cases n<;>simpa [Instr.sameBits] using this
theorem cb9:∀ {xs ys:List Cel} {us vs:List Value},cfu xs ys=true→All2 (CRel ρ) xs us→All2 (CRel ρ) ys vs→∀ n,us.length=vs.length∧(us.zip vs).all (fun(x,y)=>Instr.sameBits n x y)=true
 | [],[],[],[],_,_,_,n=>⟨rfl,rfl⟩
 | [],[],_::_,_,_,h,_,_=>h.elim
 | [],[],_,_::_,_,_,h,_=>h.elim
 | .lit a::xs,.lit b::ys,u::us,v::vs,h,⟨⟨h1,_⟩,h2⟩,⟨⟨h3,_⟩,h4⟩,n=>by
  simp only [cfu,Bool.and_eq_true] at h
  obtain⟨k1,k2⟩:=cb9 h.2 h2 h4 n
  subst h1
  subst h3
  exact⟨by simp [k1],by simp only [List.zip_cons_cons,List.all_cons,Bool.and_eq_true];exact⟨ce1 h.1 n,k2⟩⟩
 | .lit _::_,.lit _::_,[],_,_,h,_,_=>h.elim
 | .lit _::_,.lit _::_,_::_,[],_,_,h,_=>h.elim
def cmt:Bool×List Cel→Bool×List Cel→Bool
 | (true,xs),(true,ys)=>cfu xs ys
 | (false,[.lit a]),(false,[.lit b])=>cdm a b
 | _,_=>false
theorem cez{p q:Bool×List Cel}{u v:Value}(h:cmt p q=true)(hp:PRel ρ p u)(hq:PRel ρ q v):Instr.sameBits 10000 u v=true:=by
 unfold cmt at h
 split at h
 ·obtain⟨us,rfl,h1⟩:=hp
  obtain⟨vs,rfl,h2⟩:=hq
  obtain⟨k1,k2⟩:=cb9 h h1 h2 9999
  show(us.size==vs.size&&(us.toList.zip vs.toList).all fun(x,y)=>Instr.sameBits 9999 x y)=true
  rw [Bool.and_eq_true]
  exact⟨by simpa using k1,k2⟩
 ·obtain⟨rfl,_⟩:=hp
  obtain⟨rfl,_⟩:=hq
  exact ce1 h _
 ·cases h
noncomputable section
def ccr(E:Operand→Option AV)(H:HP)(r:Option Operand):R :=
 match r with
 | none=>some (.one (.mp H.n),H.push (.lf [some (.map [] 0)]))
 | some _=>none
def cjy(H:HP)(x:AV):Option (List Ent) :=
 match x with
 | .one (.lit (.map none))=>some []
 | .one (.mp b)=>(ccn H b).map (·.1)
 | _=>none
def keyA(P:Program)[Plain P](kt:TypeId)(p:Bool×List Cel):Bool :=
 match szA P kt with
 | some (ag,_)=>decide (ag=p.1)&&keyK P 64 kt p.2.length
 | none=>false
def cuj(P:Program)(et:TypeId)(r:Option (Nat×(Bool×List Cel))):Option ((Bool×List Cel)×Bool) :=
 match r with
 | some (_,p)=>some (p,true)
 | none=>(c2l P et).map fun p=>(p,false)
def cdq(P:Program)[Plain P](E:Operand→Option AV)(H:HP)(t:TypeId)(x i:Operand)(ok:Bool):R :=
 match undT P t,(E x).bind (cjy H),(E i).bind partOf with
 | some (.map kt et),some es,some k =>
  match keyA P kt k with
  | true=>match(cmj P kt k.1 k.2 es 0).bind (cuj P et) with
   | some (p,b)=>match ok with
    | true=>some (.tup [p,(false,[.lit (.bool b)])],H)
    | false=>(avOf p).map fun v=>(v,H)
   | none=>none
  | false=>none
 | _,_,_=>none
def c6w(k p:Bool×List Cel)(es:List Ent)(clock:Nat)(r:Option (Nat×(Bool×List Cel))):Option (List Ent×Nat) :=
 match r with
 | some (i,_)=>match es[i]? with
  | some e=>match cmt e.1 k with
   | true=>some (es.set i (k,p,e.2.2),clock)
   | false=>none
  | none=>none
 | none=>some (es++[(k,p,clock)],Nat.succ clock)
def b78(P:Program)[Plain P](E:Operand→Option AV)(H:HP)(t:TypeId)(m k x:Operand):R :=
 match undT P t,E m,(E k).bind partOf,(E x).bind partOf with
 | some (.map kt _),some (.one (.mp b)),some k,some p =>
  match keyA P kt k with
  | true=>match ccn H b with
   | some (es,clock)=>match(cmj P kt k.1 k.2 es 0).bind (c6w k p es clock) with
    | some (es',clock')=>some (b5a,H.obj b (.map es' clock'))
    | none=>none
   | none=>none
  | false=>none
 | _,_,_,_=>none
def ckl(P:Program)[Plain P](E:Operand→Option AV)(H:HP)(t:TypeId)(x:Operand):R :=
 match undT P t,E x with
 | some (.map _ _),some (.one (.lit (.map none)))=>some (.one (.ptr H.n 0),H.push (.lf [some (.iter none 0 [] 0)]))
 | some (.map _ _),some (.one (.mp b))=>match ccn H b with
  | some (_,clock)=>some (.one (.ptr H.n 0),H.push (.lf [some (.iter (some b) clock [] clock)]))
  | none=>none
 | _,_=>none
def cv8(since:Nat)(seen:List Nat)(es:List Ent):List (Option Ent) :=
 let left:=es.filter fun e=>!seen.contains e.2.2
 let old:=left.filter fun e=>decide (e.2.2<since)
 let new:=left.filter fun e=>decide (e.2.2≥since)
 (if old.isEmpty then [none] else [])++(old++new).map some
def cud(H:HP)(b:Nat)(x:IterC)(clock:Nat)(e:Option Ent):AV×HP :=
 match e with
 | some e=>(.tup [(false,[.lit (.bool true)]),e.1,e.2.1],H.obj b (.iter x.m x.since (x.seen++[e.2.2]) clock))
 | none=>(.tup [(false,[.lit (.bool false)])],H)
def cp3(E:Operand→Option AV)(H:HP)(x:Operand):Option (List (AV×HP)) :=
 match E x with
 | some (.one (.ptr b 0))=>match iterAt H b with
  | some x=>match x.m with
   | none=>some [(.tup [(false,[.lit (.bool false)])],H)]
   | some m=>match ccn H m with
    | some (es,clock)=>match !x.seen.isEmpty&&!es.isEmpty&&es.all (fun e=>decide (e.2.2≥x.stepped)) with
     | false=>some ((cv8 x.since x.seen es).map (cud H b x clock))
     | true=>none
    | none=>none
  | none=>none
 | _=>none
end
theorem cr3{t:TypeId}{r:Option Operand}(h:ccr E H r=some (v,H'))(hH:HRel ρ H w)(hd:Dom ρ H.n):St H H'∧OpS P ρ ev H w (.makeMap t r) v H':=by
 cases r with
 | some _=>cases h
 | none =>
  cases h
  refine⟨St.push _ _,fun dst ty pos after guard=>?_⟩
  have hrun:(execOp ev ⟨dst,.makeMap t none,ty,pos,after,guard⟩).run P w=.ok (.value (.map (some w.heap.size))) (w.alloc (.map #[] 0)):=by
   refine b4u ?_
   show(do pure (.map (some (← newObj (.map #[] 0)))):Sem Value).run P w=_
   rw [Sem.run_bind,run_newObj_alloc]
   rfl
  rw [hrun]
  refine⟨upd ρ H.n ⟨w.heap.size,0,0,none⟩,⟨⟨w.heap.size,0,0,none⟩,upd_same _ _ _,rfl⟩,Sim.alloc hH hd rfl rfl fun i c hc=>?_⟩
  cases i with
  | zero =>
   cases hc
   exact⟨rfl,rfl,#[],by rw [heap_alloc,if_pos rfl],trivial⟩
  | succ i=>cases (show(none:Option Ct)=some c from hc)
theorem cgv{x:AV}{u:Value}{es:List Ent}(h:cjy H x=some es)(hx:VRel ρ x u)(hH:HRel ρ H w) :
  ∃ arr:Array MapEntry,All2 (b5c ρ) es arr.toList∧((u=.map none∧arr = #[])∨∃ r clock,u=.map (some r)∧w.heap[r]? = some (.map arr clock)):=by
 unfold cjy at h
 split at h
 ·cases h
  obtain⟨rfl,_⟩:=hx
  exact⟨#[],trivial,.inl ⟨rfl,rfl⟩⟩
 ·obtain⟨⟨es',clock⟩,hm,rfl⟩:=map_some h
  obtain⟨L,hL,rfl⟩:=hx
  obtain⟨_,arr,h1,h2⟩:=b54 hH hL hm
  exact⟨arr,h2,.inr ⟨L.B,clock,rfl,h1⟩⟩
 ·cases h
theorem c3n:∀ (d:Nat) (t:TypeId) (n:Nat),keyK P d t n=true→∃ dd,P.underlying t=some dd
 | 0,_,_,h=>by cases h
 | d+1,t,n,h=>by
  simp only [keyK,b3j] at h
  cases hd:P.underlying t with
  | none=>rw [hd] at h;cases h
  | some dd=>exact⟨dd,rfl⟩
theorem cms{kt:TypeId}{k:Bool×List Cel}{u:Value}(h:keyA P kt k=true)(hu:PRel ρ k u):∃ n d ks,szA P kt=some (k.1,n)∧P.underlying kt=some d∧u=Sx.mkV k.1 ks∧All2 (CRel ρ) k.2 ks∧∀ (w:World) (e:Bool),(Instr.checkKey e 10000 kt u).run P w=.ok () w:=by
 unfold keyA at h
 split at h
 ·rename_i ag n hs
  simp only [Bool.and_eq_true,decide_eq_true_eq] at h
  obtain⟨rfl,h2⟩:=h
  obtain⟨ks,rfl,hks⟩:=PRel.mkV (ag:=k.1) (xs:=k.2) hu
  obtain⟨d,hd⟩:=c3n _ _ _ h2
  exact⟨n,d,ks,hs,hd,rfl,hks,fun w e=>ccx e 64 10000 (by omega) kt ks k.1 n (by rw [← hks.length];exact h2) hs⟩
 ·cases h
theorem cws{t:TypeId}{x i:Operand}{ok:Bool}(h:cdq P E H t x i ok=some (v,H'))(hx:∀ z,z=x∨z=i→∀ a,E z=some a→VRel ρ a (ev z))(hH:HRel ρ H w)(hd:Dom ρ H.n):St H H'∧OpS P ρ ev H w (.lookup t x i ok) v H':=by
 unfold cdq at h
 rw [b3j] at h
 split at h
 ·rename_i kt et es k hu hes hk
  obtain⟨xv,hxv,hes⟩:=b3h hes
  obtain⟨kv,hkv,hk⟩:=b3h hk
  split at h
  ·rename_i hka
   split at h
   ·rename_i p b hf
    obtain⟨r,hr,hz⟩:=b3h hf
    obtain⟨arr,hrel,hx1⟩:=cgv hes (hx x (.inl rfl) _ hxv) hH
    have hkr:=b6v hk (hx i (.inr rfl) _ hkv)
    obtain⟨n,d,ks,h1,h2,h3,h4,h5⟩:=cms hka hkr
    obtain⟨r',h6,h7⟩:=b7b (w:=w) h2 h1 h4 hr hrel
    rw [← h3] at h6
    have hval:∃ u,PRel ρ p u∧((∃ j,r'=some (j,u)∧b=true)∨(r'=none∧b=false∧(zeroValue et).run P w=.ok u w)):=by
     unfold cuj at hz
     split at hz
     ·cases hz
      cases r' with
      | none=>exact h7.elim
      | some q=>exact⟨q.2,h7.2,.inl ⟨q.1,rfl,rfl⟩⟩
     ·obtain⟨q,hq,hv⟩:=map_some hz
      cases hv
      cases r' with
      | some q=>exact h7.elim
      | none =>
       obtain⟨z,g1,g2⟩:=cf9 hq
       exact⟨z,g2,.inr ⟨rfl,rfl,g1 w⟩⟩
    obtain⟨u,hu1,hu2⟩:=hval
    have hrun:(Instr.lookup t (ev x) (ev i) ok).run P w=.ok (if ok then .tuple #[u,.bool b] else u) w:=by
     unfold Instr.lookup
     rw [Sem.run_bind,run_underlying hu,Result.andThen_ok]
     rcases hx1 with ⟨hx1,rfl⟩ | ⟨r0,clock,hx1,hheap⟩
     ·simp only [hx1,Sem.run_bind,Sem.run_pure,Result.andThen_ok,h5,h6]
      rcases hu2 with ⟨j,rfl,rfl⟩ | ⟨rfl,rfl,hz0⟩
      ·rfl
      ·simp only [Sem.run_bind,hz0,Result.andThen_ok,Sem.run_pure]
     ·simp only [hx1,Sem.run_bind,b37 hheap,Sem.run_pure,Result.andThen_ok,h5,h6]
      rcases hu2 with ⟨j,rfl,rfl⟩ | ⟨rfl,rfl,hz0⟩
      ·rfl
      ·simp only [Sem.run_bind,hz0,Result.andThen_ok,Sem.run_pure]
    cases ok with
    | true =>
     cases h
     exact⟨St.refl _,OpS.val hH hd (u:=.tuple #[u,.bool b]) ⟨_,rfl,hu1,⟨rfl,rfl⟩,trivial⟩ fun dst ty pos after guard=>b4u hrun⟩
    | false =>
     obtain⟨q,hq,hv⟩:=map_some h
     cases hv
     exact⟨St.refl _,OpS.val hH hd (u:=u) (cl2 hq hu1) fun dst ty pos after guard=>b4u hrun⟩
   ·cases h
  ·cases h
 ·cases h
theorem All2.getD{α β:Type}{R:α→β→Prop}{as:List α}{bs:List β}(h:All2 R as bs){i:Nat}{a:α}(ha:as[i]? = some a):∃ b,bs[i]? = some b∧R a b:=h.get i a ha
theorem cr4{t:TypeId}{m k x:Operand}(h:b78 P E H t m k x=some (v,H'))(hx:∀ z,z=m∨z=k∨z=x→∀ a,E z=some a→VRel ρ a (ev z))(hH:HRel ρ H w)(hd:Dom ρ H.n) :
  St H H'∧v=b5a∧∃ w',(Instr.mapUpdate t (ev m) (ev k) (ev x)).run P w=.ok () w'∧Sim ρ H w ρ H' w':=by
 unfold b78 at h
 rw [b3j] at h
 split at h
 ·rename_i kt et b k0 p hu hm hk hp
  obtain⟨kv,hkv,hk⟩:=b3h hk
  obtain⟨pv,hpv,hp⟩:=b3h hp
  split at h
  ·rename_i hka
   split at h
   ·rename_i es clock hmap
    split at h
    ·rename_i es' clock' hf
     cases h
     obtain⟨r,hr,hz⟩:=b3h hf
     have hkr:=b6v hk (hx k (.inr (.inl rfl)) _ hkv)
     have hpr:=b6v hp (hx x (.inr (.inr rfl)) _ hpv)
     obtain⟨L,hL,hmv⟩:=hx m (.inl rfl) _ hm
     obtain⟨hL0,arr,hheap,hrel⟩:=b54 hH hL hmap
     obtain⟨n,d,ks,h1,h2,h3,h4,h5⟩:=cms hka hkr
     obtain⟨r',h6,h7⟩:=b7b (w:=w) h2 h1 h4 hr hrel
     rw [← h3] at h6
     refine⟨St.obj _ _ _,rfl,?_⟩
     unfold c6w at hz
     split at hz
     ·rename_i i q
      split at hz
      ·rename_i e he
       split at hz
       ·rename_i hsame
        cases hz
        cases r' with
        | none=>exact h7.elim
        | some r' =>
         obtain⟨j,u⟩:=r'
         obtain⟨rfl,_⟩:=h7
         obtain⟨me,hme,hkey,hval,hborn⟩:=hrel.get _ _ he
         have hme':arr[i]? = some me:=by rw [← Array.getElem?_toList];exact hme
         have hbits:=cez hsame hkey hkr
         have hstay:(Instr.keyThatStays (((arr[i]?).map (·.key)).getD (ev k)) (ev k)).run P w=.ok (ev k) w:=by
          simp [Instr.keyThatStays,hme',hbits]
         refine⟨_,?_,Sim.map (arr':=arr.modify i fun e=>{ e with key:=ev k,val:=ev x }) hH hd hL hmap hheap ?_⟩
         ·unfold Instr.mapUpdate
          rw [Sem.run_bind,run_underlying hu,Result.andThen_ok]
          simp only [hmv,Sem.run_bind,b37 hheap,Result.andThen_ok,h5,h6,hstay,b5o _ hheap]
         ·have hl:=hrel.length
          have:(arr.modify i fun e=>{ e with key:=ev k,val:=ev x }).toList=arr.toList.set i { me with key:=ev k,val:=ev x }:=by
           rw [Array.toList_modify]
           rw [List.modify_eq_set]
           simp [hme']
          rw [this]
          exact hrel.set ⟨hkr,hpr,hborn⟩ i
       ·cases hz
      ·cases hz
     ·cases hz
      cases r' with
      | some q=>exact h7.elim
      | none =>
       refine⟨_,?_,Sim.map (arr':=arr.push { key:=ev k,val:=ev x,born:=clock }) hH hd hL hmap hheap ?_⟩
       ·unfold Instr.mapUpdate
        rw [Sem.run_bind,run_underlying hu,Result.andThen_ok]
        simp only [hmv,Sem.run_bind,b37 hheap,Result.andThen_ok,h5,h6,b5o _ hheap]
       ·rw [Array.toList_push]
        exact hrel.append ⟨⟨hkr,hpr,rfl⟩,trivial⟩
    ·cases h
   ·cases h
  ·cases h
 ·cases h
theorem ckk{t:TypeId}{m k x:Operand}(h:b78 P E H t m k x=some (v,H'))(hx:∀ z,z=m∨z=k∨z=x→∀ a,E z=some a→VRel ρ a (ev z))(hH:HRel ρ H w)(hd:Dom ρ H.n) :
  St H H'∧OpS P ρ ev H w (.mapUpdate t m k x) v H'∧OpS P ρ ev H w (.insert t m k x) v H':=by
 obtain⟨h1,rfl,w',h2,h3⟩:=cr4 (P:=P) h hx hH hd
 have key:∀ (op:Op),(∀ dst ty pos after guard,(execOp ev ⟨dst,op,ty,pos,after,guard⟩).run P w=.ok .skip w')→OpS P ρ ev H w op b5a H':=fun op hop dst ty pos after guard=>by
  rw [hop]
  exact⟨ρ,b6l ρ,h3⟩
 exact⟨h1,key _ fun _ _ _ _ _=>cw0 h2,key _ fun _ _ _ _ _=>cw0 h2⟩
theorem czx{t:TypeId}{x:Operand}(h:ckl P E H t x=some (v,H'))(hx:∀ a,E x=some a→VRel ρ a (ev x))(hH:HRel ρ H w)(hd:Dom ρ H.n):St H H'∧OpS P ρ ev H w (.range t x) v H':=by
 unfold ckl at h
 rw [b3j] at h
 have fin:∀ (m:Option Nat) (mm:Option Nat) (since:Nat),(match m with | none=>mm=none | some b=>∃ K,ρ b=some K∧mm=some K.B)→(Instr.range t (ev x)).run P w=.ok (.pointer (some ⟨w.heap.size,0,none⟩)) (w.alloc (.mapIter mm since #[] since)) →
   St H (H.push (.lf [some (.iter m since [] since)]))∧OpS P ρ ev H w (.range t x) (.one (.ptr H.n 0)) (H.push (.lf [some (.iter m since [] since)])):=by
  intro m mm since hm hrun
  refine⟨St.push _ _,fun dst ty pos after guard=>?_⟩
  have hrun':(execOp ev ⟨dst,.range t x,ty,pos,after,guard⟩).run P w=.ok (.value (.pointer (some ⟨w.heap.size,0,none⟩))) (w.alloc (.mapIter mm since #[] since)):=b4u hrun
  rw [hrun']
  have hle:PM.le ρ (upd ρ H.n ⟨w.heap.size,0,0,none⟩):=b8f (hd _ (Nat.le_refl _))
  refine⟨upd ρ H.n ⟨w.heap.size,0,0,none⟩,⟨⟨w.heap.size,0,0,none⟩,upd_same _ _ _,rfl⟩,Sim.alloc hH hd rfl rfl fun i c hc=>?_⟩
  cases i with
  | zero =>
   cases hc
   refine⟨rfl,rfl,mm,by rw [heap_alloc,if_pos rfl],?_⟩
   cases m with
   | none=>exact hm
   | some b=>obtain⟨K,g1,g2⟩:=hm;exact⟨K,hle _ _ g1,g2⟩
  | succ i=>cases (show(none:Option Ct)=some c from hc)
 split at h
 ·rename_i kt et hu hxv
  cases h
  obtain⟨hv,_⟩:=hx _ hxv
  refine fin none none 0 rfl ?_
  simp only [Instr.range,hv,Sem.run_bind,run_underlying hu,Result.andThen_ok,Sem.run_pure,run_newObj_alloc]
 ·rename_i kt et b hu hxv
  split at h
  ·rename_i es clock hm
   cases h
   obtain⟨L,hL,hv⟩:=hx _ hxv
   obtain⟨_,arr,hheap,_⟩:=b54 hH hL hm
   refine fin (some b) (some L.B) clock ⟨L,hL,rfl⟩ ?_
   simp only [Instr.range,hv,Sem.run_bind,run_underlying hu,Result.andThen_ok,b37 hheap,Sem.run_pure,run_newObj_alloc]
  ·cases h
 ·cases h
theorem cx1{es:List Ent}{ms:List MapEntry}{since:Nat}{seen:List Nat}(h:All2 (b5c ρ) es ms):∀ (k:Nat) (c:Option MapEntry),
  (((if((ms.filter fun e=>!seen.contains e.born).filter fun e=>decide (e.born<since)).isEmpty then [none] else []) ++
   ((ms.filter fun e=>!seen.contains e.born).filter (fun e=>decide (e.born<since))++(ms.filter fun e=>!seen.contains e.born).filter fun e=>decide (e.born≥since)).map some))[k]? = some c →
  ∃ a,(cv8 since seen es)[k]? = some a∧match a,c with | none,none=>True | some e,some m=>b5c ρ e m | _,_=>False:=by
 have filt:∀ (p:Ent→Bool) (q:MapEntry→Bool),(∀ e m,b5c ρ e m→p e=q m)→∀ {es:List Ent} {ms:List MapEntry},All2 (b5c ρ) es ms→All2 (b5c ρ) (es.filter p) (ms.filter q):=by
  intro p q hpq es
  induction es with
  | nil=>intro ms h;cases ms with | nil=>trivial | cons _ _=>exact h.elim
  | cons e es ih =>
   intro ms h
   cases ms with
   | nil=>exact h.elim
   | cons m ms =>
    obtain⟨h1,h2⟩:=h
    simp only [List.filter_cons,hpq e m h1]
    cases q m with
    | true=>exact⟨h1,ih h2⟩
    | false=>exact ih h2
 have h1:=filt (fun e=>!seen.contains e.2.2) (fun e=>!seen.contains e.born) (fun e m ⟨_,_,hb⟩=>by simp only [hb]) h
 have h2:=filt (fun e=>decide (e.2.2<since)) (fun e=>decide (e.born<since)) (fun e m ⟨_,_,hb⟩=>by simp only [hb]) h1
 have h3:=filt (fun e=>decide (e.2.2≥since)) (fun e=>decide (e.born≥since)) (fun e m ⟨_,_,hb⟩=>by simp only [hb]) h1
 have h4:=h2.append h3
 have key:All2 (fun a c=>match a,c with | none,none=>True | some e,some m=>b5c ρ e m | _,_=>False) (cv8 since seen es)
   ((if((ms.filter fun e=>!seen.contains e.born).filter fun e=>decide (e.born<since)).isEmpty then [none] else []) ++
   ((ms.filter fun e=>!seen.contains e.born).filter (fun e=>decide (e.born<since))++(ms.filter fun e=>!seen.contains e.born).filter fun e=>decide (e.born≥since)).map some):=by
  have hsome:∀ {as:List Ent} {bs:List MapEntry},All2 (b5c ρ) as bs→All2 (fun(a:Option Ent) (c:Option MapEntry)=>match a,c with | none,none=>True | some e,some m=>b5c ρ e m | _,_=>False) (as.map some) (bs.map some):=by
   intro as
   induction as with
   | nil=>intro bs h;cases bs with | nil=>trivial | cons _ _=>exact h.elim
   | cons e es ih=>intro bs h;cases bs with | nil=>exact h.elim | cons m ms=>exact⟨h.1,ih h.2⟩
  unfold cv8
  refine All2.append ?_ (hsome h4)
  have hl:=h2.length
  have:(es.filter (fun e=>!seen.contains e.2.2) |>.filter fun e=>decide (e.2.2<since)).isEmpty=((ms.filter fun e=>!seen.contains e.born).filter fun e=>decide (e.born<since)).isEmpty:=by
   rw [Bool.eq_iff_iff,List.isEmpty_iff_length_eq_zero,List.isEmpty_iff_length_eq_zero,hl]
  simp only [this]
  split
  ·exact⟨trivial,trivial⟩
  ·trivial
 intro k c hc
 exact key.get' k c hc
theorem cp4{x:Operand}{outs:List (AV×HP)}(h:cp3 E H x=some outs):∀ o∈outs,St H o.2:=by
 unfold cp3 at h
 repeat' (split at h)
 all_goals first
  | (cases h;done)
  | (cases h;intro o ho;rw [List.mem_singleton.1 ho];exact St.refl _)
  | skip
 cases h
 intro o ho
 obtain⟨e,_,rfl⟩:=List.mem_map.1 ho
 cases e with
 | none=>exact St.refl _
 | some e=>exact St.obj _ _ _
noncomputable section
def cm8(P:Program)[Plain P](E:Operand→Option AV)(H:HP)(args:Array Operand)(ats:Array TypeId):R :=
 match b7p E args.toList,ats.toList with
 | some [x],t::_=>match undT P t,cjy H x with
  | some (.map _ _),some es=>if es.length≤9223372036854775807 then some (.one (.lit (.int .i64 (es.length:Nat))),H) else none
  | _,_=>none
 | _,_=>none
def cm4(P:Program)[Plain P](E:Operand→Option AV)(H:HP)(args:Array Operand)(ats:Array TypeId):R :=
 match b7p E args.toList,ats.toList with
 | some [.one (.mp b),kv],t::_=>match undT P t,partOf kv with
  | some (.map kt _),some k=>match keyA P kt k with
   | true=>match ccn H b with
    | some (es,clock)=>match cmj P kt k.1 k.2 es 0 with
     | some (some (i,_))=>some (b5a,H.obj b (.map (es.eraseIdx i) clock))
     | some none=>some (b5a,H.obj b (.map es clock))
     | none=>none
    | none=>none
   | false=>none
  | _,_=>none
 | _,_=>none
def cug(P:Program)[Plain P](E:Operand→Option AV)(H:HP)(args:Array Operand)(ats:Array TypeId):R :=
 match b7p E args.toList,ats.toList with
 | some [x],t::_=>match undT P t,x with
  | some (.map _ _),.one (.lit (.map none))=>some (b5a,H)
  | some (.map _ _),.one (.mp b)=>match ccn H b with
   | some (_,clock)=>some (b5a,H.obj b (.map [] clock))
   | none=>none
  | some (.slice _),.one (.lit (.slice none _ _))=>some (b5a,H)
  | some (.slice _),.one (.sz _ _)=>some (b5a,H)
  | some (.slice e),x=>match cjf x,szA P e,(infoT P e).bind (·.zero) with
   | some (b,off,n),some (_,sz),some z=>match lits z.cells.toList with
    | some zs=>if zs.length=sz∧0<sz then(match n with
     | 0=>some (b5a,H)
     | _+1=>(H.write b off (repC zs n)).map fun H'=>(b5a,H')) else none
    | none=>none
   | _,_,_=>none
  | _,_=>none
 | _,_=>none
end
theorem All2.eraseIdx{α β:Type}{R:α→β→Prop}:∀ {as:List α} {bs:List β} (i:Nat),All2 R as bs→All2 R (as.eraseIdx i) (bs.eraseIdx i)
 | [],[],_,_=>trivial
 | _::_,_::_,0,⟨_,h2⟩=>h2
 | _::_,_::_,i+1,⟨h1,h2⟩=>⟨h1,h2.eraseIdx i⟩
 | [],_::_,_,h=>h.elim
 | _::_,[],_,h=>h.elim
theorem cwr{args:Array Operand}{ats:Array TypeId}(h:cm8 P E H args ats=some (v,H'))(hx:∀ z∈args.toList,∀ a,E z=some a→VRel ρ a (ev z))(hH:HRel ρ H w)(hd:Dom ρ H.n) :
  St H H'∧OpS P ρ ev H w (.call ⟨.builtin .len,args,ats⟩) v H':=by
 unfold cm8 at h
 simp only [b3j] at h
 split at h
 ·rename_i x t rest hl hat
  split at h
  ·rename_i kt et es hu hes
   split at h
   ·rename_i hle
    cases h
    obtain⟨y,hy,hx'⟩:=b75 hl
    have hev:=hx y (by rw [hy];simp) _ hx'
    have hargs:args = #[y]:=by rw [← Array.toList_inj];simpa using hy
    have hats:ats[0]? = some t:=by rw [← Array.getElem?_toList,hat];rfl
    subst hargs
    obtain⟨arr,hrel,hxx⟩:=cgv hes hev hH
    have hal:=hrel.length
    have hlen:∀ ty,(Builtin.len_ ats ty #[ev y]).run P w=.ok (.int .i64 (es.length:Nat)) w:=by
     intro ty
     rcases hxx with ⟨hxx,rfl⟩ | ⟨r0,clock,hxx,hheap⟩
     ·have:es.length=0:=by simpa using hal
      simp [Builtin.len_,hats,run_underlying hu,hxx,goInt,this]
     ·have:(arr.size:Int)=es.length:=by simp [hal]
      simp [Builtin.len_,hats,run_underlying hu,hxx,goInt,b37 hheap,this]
    refine⟨St.refl H,OpS.val hH hd (b6a (cew hle)) fun dst ty pos after guard=>?_⟩
    simp [execOp,resolve,invoke,builtin,hlen ty]
   ·cases h
  ·cases h
 ·cases h
theorem cwp{args:Array Operand}{ats:Array TypeId}(h:cm4 P E H args ats=some (v,H'))(hx:∀ z∈args.toList,∀ a,E z=some a→VRel ρ a (ev z))(hH:HRel ρ H w)(hd:Dom ρ H.n) :
  St H H'∧OpS P ρ ev H w (.call ⟨.builtin .delete,args,ats⟩) v H':=by
 unfold cm4 at h
 simp only [b3j] at h
 split at h
 ·rename_i b kv t rest hl hat
  obtain⟨a0,b0,rfl,ha,hb⟩:=cf5 hl hx
  have hats:ats[0]? = some t:=by rw [← Array.getElem?_toList,hat];rfl
  split at h
  ·rename_i kt et k hu hk
   split at h
   ·rename_i hka
    split at h
    ·rename_i es clock hmap
     have hkr:=b6v hk hb
     obtain⟨L,hL,hmv⟩:=ha
     obtain⟨hL0,arr,hheap,hrel⟩:=b54 hH hL hmap
     obtain⟨n,d,ks,h1,h2,h3,h4,h5⟩:=cms hka hkr
     have fin:∀ (arr':Array MapEntry) (es':List Ent),All2 (b5c ρ) es' arr'.toList→(∀ ty,(Builtin.delete_ ats ty #[ev a0,ev b0]).run P w=.ok (.tuple #[]) (w.putObj L.B (.map arr' clock))) →
       St H (H.obj b (.map es' clock))∧OpS P ρ ev H w (.call ⟨.builtin .delete,#[a0,b0],ats⟩) b5a (H.obj b (.map es' clock)):=fun arr' es' hr hrun =>
      ⟨St.obj _ _ _,fun dst ty pos after guard=>by
       have:(execOp ev ⟨dst,.call ⟨.builtin .delete,#[a0,b0],ats⟩,ty,pos,after,guard⟩).run P w=.ok (.value (.tuple #[])) (w.putObj L.B (.map arr' clock)):=by
        simp [execOp,resolve,invoke,builtin,hrun ty]
       rw [this]
       exact⟨ρ,b6l ρ,Sim.map hH hd hL hmap hheap hr⟩⟩
     split at h
     ·rename_i i q hf
      cases h
      obtain⟨r',h6,h7⟩:=b7b (w:=w) h2 h1 h4 hf hrel
      rw [← h3] at h6
      cases r' with
      | none=>exact h7.elim
      | some r' =>
       obtain⟨j,u⟩:=r'
       obtain⟨rfl,_⟩:=h7
       refine fin (arr.eraseIdxIfInBounds i) _ (by rw [Array.toList_eraseIdxIfInBounds];exact hrel.eraseIdx i) fun ty=>?_
       simp [Builtin.delete_,hats,run_underlying hu,hmv,b37 hheap,h5,h6,b5o _ hheap]
     ·rename_i hf
      cases h
      obtain⟨r',h6,h7⟩:=b7b (w:=w) h2 h1 h4 hf hrel
      rw [← h3] at h6
      cases r' with
      | some q=>exact h7.elim
      | none =>
       refine fin arr es hrel fun ty=>?_
       simp [Builtin.delete_,hats,run_underlying hu,hmv,b37 hheap,h5,h6,b5o _ hheap]
     ·cases h
    ·cases h
   ·cases h
  ·cases h
 ·cases h
theorem czq{args:Array Operand}{ats:Array TypeId}(h:cug P E H args ats=some (v,H'))(hx:∀ z∈args.toList,∀ a,E z=some a→VRel ρ a (ev z))(hH:HRel ρ H w)(hd:Dom ρ H.n) :
  St H H'∧OpS P ρ ev H w (.call ⟨.builtin .clear,args,ats⟩) v H':=by
 unfold cug at h
 simp only [b3j,b60] at h
 split at h
 ·rename_i x t rest hl hat
  obtain⟨y,hy,hx'⟩:=b75 hl
  have hev:=hx y (by rw [hy];simp) _ hx'
  have hargs:args = #[y]:=by rw [← Array.toList_inj];simpa using hy
  have hats:ats[0]? = some t:=by rw [← Array.getElem?_toList,hat];rfl
  subst hargs
  have fin:∀ (G:HP) (w':World),(∀ ty,(Builtin.clear_ ats ty #[ev y]).run P w=.ok (.tuple #[]) w')→Sim ρ H w ρ G w'→OpS P ρ ev H w (.call ⟨.builtin .clear,#[y],ats⟩) b5a G:=fun G w' hrun hs dst ty pos after guard=>by
   have:(execOp ev ⟨dst,.call ⟨.builtin .clear,#[y],ats⟩,ty,pos,after,guard⟩).run P w=.ok (.value (.tuple #[])) w':=by
    simp [execOp,resolve,invoke,builtin,hrun ty]
   rw [this]
   exact⟨ρ,b6l ρ,hs⟩
  split at h
  ·rename_i kt et hu
   cases h
   obtain⟨hv,_⟩:=hev
   exact⟨St.refl _,fin _ w (fun ty=>by simp [Builtin.clear_,hats,run_underlying hu,hv]) (Sim.refl hH hd)⟩
  ·rename_i kt et b hu
   split at h
   ·rename_i es clock hmap
    cases h
    obtain⟨L,hL,hv⟩:=hev
    obtain⟨_,arr,hheap,_⟩:=b54 hH hL hmap
    exact⟨St.obj _ _ _,fin _ _ (fun ty=>by simp [Builtin.clear_,hats,run_underlying hu,hv,b37 hheap,b5o _ hheap]) (Sim.map (arr':=#[]) hH hd hL hmap hheap trivial)⟩
   ·cases h
  ·rename_i e n c hu
   cases h
   obtain⟨hv,_⟩:=hev
   exact⟨St.refl _,fin _ w (fun ty=>by simp [Builtin.clear_,hats,run_underlying hu,hv]) (Sim.refl hH hd)⟩
  ·rename_i e b s hu
   cases h
   obtain⟨L,off,cap,hL,hv,_⟩:=hev
   exact⟨St.refl _,fin _ w (fun ty=>by simp [Builtin.clear_,hats,run_underlying hu,hv]) (Sim.refl hH hd)⟩
  ·rename_i e hu _ _
   split at h
   ·rename_i b off n ag sz z hbase hs hz
    obtain⟨i,hi,hz⟩:=b3h hz
    split at h
    ·rename_i zs hzs
     split at h
     ·rename_i hc
      obtain⟨hzl,h0⟩:=hc
      obtain⟨L,cap,hL,hv,hle,_⟩:=b8t hbase hev
      split at h
      ·cases h
       refine⟨St.refl _,fin _ w (fun ty=>?_) (Sim.refl hH hd)⟩
       simp [Builtin.clear_,hats,run_underlying hu,hv]
      ·rename_i n'
       obtain⟨G,hw,hv2⟩:=map_some h
       cases hv2
       have hrel:=cvd (n:=n'+1) (b62 (ρ:=ρ) hzs) hzl h0
       refine⟨St.write hw,fin _ _ (fun ty=>?_) (Sim.write hH hd hw hL hrel)⟩
       have hst:=HP.write_run (P:=P) hH hw hL hrel
       simp [Builtin.clear_,hats,run_underlying hu,hv,b5k hi hz,hst]
     ·cases h
    ·cases h
   ·cases h
  ·cases h
 ·cases h
noncomputable section
def ckh(E:Operand→Option AV)(H:HP)(x:Operand):R :=
 match E x with
 | some (.one (.ptr b 0))=>match iterAt H b with
  | some it=>match it.m,it.seen.getLast? with
   | some m,some stamp=>match ccn H m with
    | some (es,clock)=>match Nat.beq clock it.stepped with
     | true=>(es.find? fun e=>e.2.2==stamp).map fun e=>(.tup [e.1,e.2.1],H)
     | false=>none
    | none=>none
   | _,_=>none
  | none=>none
 | _=>none
def c6i(P:Program)(k:Bool×List Cel)(et:TypeId)(es:List Ent)(clock:Nat)(r:Option (Nat×(Bool×List Cel))):Option ((Bool×List Cel)×Nat×List Ent×Nat) :=
 match r with
 | some (i,p)=>match es[i]? with
  | some e=>match cmt e.1 k with
   | true=>some (p,e.2.2,es.set i (k,e.2.1,e.2.2),clock)
   | false=>none
  | none=>none
 | none=>(c2l P et).map fun z=>(z,clock,es++[(k,z,clock)],Nat.succ clock)
def b83(P:Program)[Plain P](E:Operand→Option AV)(H:HP)(t:TypeId)(m k:Operand):R :=
 match undT P t,E m,(E k).bind partOf with
 | some (.map kt et),some (.one (.mp b)),some k =>
  match keyA P kt k with
  | true=>match ccn H b with
   | some (es,clock)=>match(cmj P kt k.1 k.2 es 0).bind (c6i P k et es clock) with
    | some (p,born,es',clock')=>if born≤9223372036854775807 then some (.tup [p,(false,[.lit (.int .i64 (born:Nat))])],H.obj b (.map es' clock')) else none
    | none=>none
   | none=>none
  | false=>none
 | _,_,_=>none
def c61(es:List Ent)(n:Int)(p:Bool×List Cel):Option (List Ent) :=
 match es.findIdx? (fun e=>(e.2.2:Int)==n) with
 | some i=>match es[i]? with
  | some e=>some (es.set i (e.1,p,e.2.2))
  | none=>none
 | none=>none
def b6u(E:Operand→Option AV)(H:HP)(m s x:Operand):R :=
 match E m,E s,(E x).bind partOf with
 | some (.one (.mp b)),some (.one (.lit (.int _ n))),some p=>match ccn H b with
  | some (es,clock)=>match c61 es n p with
   | some es'=>some (b5a,H.obj b (.map es' clock))
   | none=>none
  | none=>none
 | _,_,_=>none
end
theorem c3f{es:List Ent}{ms:List MapEntry}{stamp:Nat}{e:Ent}(h:All2 (b5c ρ) es ms)(hf:(es.find? fun e=>e.2.2==stamp)=some e):∃ m,(ms.find? fun e=>e.born==stamp)=some m∧b5c ρ e m:=by
 induction es generalizing ms with
 | nil=>cases hf
 | cons x es ih =>
  cases ms with
  | nil=>exact h.elim
  | cons m ms =>
   obtain⟨h1,h2⟩:=h
   have hb:m.born=x.2.2:=h1.2.2
   rw [List.find?_cons] at hf ⊢
   rw [hb]
   split at hf
   ·rename_i hx
    cases hf
    exact⟨m,rfl,h1⟩
   ·exact ih h2 hf
theorem czr{x:Operand}(h:ckh E H x=some (v,H'))(hx:∀ a,E x=some a→VRel ρ a (ev x))(hH:HRel ρ H w)(hd:Dom ρ H.n):St H H'∧OpS P ρ ev H w (.entry x) v H':=by
 unfold ckh at h
 split at h
 ·rename_i b hxv
  obtain⟨L,hL,hv⟩:=hx _ hxv
  split at h
  ·rename_i it hit
   have hit':=chb hit
   obtain⟨_,hL0,mm,hheap,hm⟩:=hH.rel b 0 _ L (b9b hit').1 hL
   have hgi:=b6k (P:=P) hheap (fun _ _ _ h=>by cases h)
   rw [hL0] at hv
   split at h
   ·rename_i m stamp hms hlast
    rw [hms] at hm
    obtain⟨K,hK,rfl⟩:=hm
    split at h
    ·rename_i es clock hmap
     split at h
     ·rename_i hbeq
      have hcl:=Nat.eq_of_beq_eq_true hbeq
      obtain⟨e,he,hv2⟩:=map_some h
      cases hv2
      obtain⟨_,arr,hmheap,hrel⟩:=b54 hH hK hmap
      obtain⟨me,g1,g2,g3,_⟩:=c3f hrel he
      have hgm:=b37 (P:=P) hmheap
      refine⟨St.refl _,OpS.val hH hd (u:=.tuple #[me.key,me.val]) ⟨_,rfl,g2,g3,trivial⟩ fun dst ty pos after guard=>b4u ?_⟩
      rw [hv]
      have hback:it.seen.toArray.back? = some stamp:=by simpa using hlast
      have hfind:(arr.find? fun e=>e.born==stamp)=some me:=by rw [← Array.find?_toList];exact g1
      simp only [Instr.entry,Sem.run_bind,hgi,Result.andThen_ok,hback,hgm,hfind]
      simp [hcl]
     ·cases h
    ·cases h
   ·cases h
  ·cases h
 ·cases h
theorem cp1{t:TypeId}{m k:Operand}(h:b83 P E H t m k=some (v,H'))(hx:∀ z,z=m∨z=k→∀ a,E z=some a→VRel ρ a (ev z))(hH:HRel ρ H w)(hd:Dom ρ H.n):St H H'∧OpS P ρ ev H w (.mapEntry t m k) v H':=by
 unfold b83 at h
 rw [b3j] at h
 split at h
 ·rename_i kt et b k0 hu hm hk
  obtain⟨kv,hkv,hk⟩:=b3h hk
  split at h
  ·rename_i hka
   split at h
   ·rename_i es clock hmap
    split at h
    ·rename_i p born es' clock' hf
     split at h
     ·rename_i hborn
      cases h
      obtain⟨r,hr,hz⟩:=b3h hf
      have hkr:=b6v hk (hx k (.inr rfl) _ hkv)
      obtain⟨L,hL,hmv⟩:=hx m (.inl rfl) _ hm
      obtain⟨hL0,arr,hheap,hrel⟩:=b54 hH hL hmap
      obtain⟨n,d,ks,h1,h2,h3,h4,h5⟩:=cms hka hkr
      obtain⟨r',h6,h7⟩:=b7b (w:=w) h2 h1 h4 hr hrel
      rw [← h3] at h6
      have fin:∀ (arr':Array MapEntry) (u:Value),PRel ρ p u→All2 (b5c ρ) es' arr'.toList→(Instr.mapEntry t (ev m) (ev k)).run P w=.ok (.tuple #[u,goInt born]) (w.putObj L.B (.map arr' clock')) →
        St H (H.obj b (.map es' clock'))∧OpS P ρ ev H w (.mapEntry t m k) (.tup [p,(false,[.lit (.int .i64 (born:Nat))])]) (H.obj b (.map es' clock')):=fun arr' u hu hr hrun=>by
       refine⟨St.obj _ _ _,fun dst ty pos after guard=>?_⟩
       have:(execOp ev ⟨dst,.mapEntry t m k,ty,pos,after,guard⟩).run P w=.ok (.value (.tuple #[u,goInt born])) (w.putObj L.B (.map arr' clock')):=b4u hrun
       rw [this]
       exact⟨ρ,⟨_,rfl,hu,⟨rfl,cew hborn⟩,trivial⟩,Sim.map hH hd hL hmap hheap hr⟩
      unfold c6i at hz
      split at hz
      ·rename_i i q
       split at hz
       ·rename_i e he
        split at hz
        ·rename_i hsame
         cases hz
         cases r' with
         | none=>exact h7.elim
         | some r' =>
          obtain⟨j,u⟩:=r'
          obtain⟨rfl,hpu⟩:=h7
          obtain⟨me,hme,hkey,hval,hb⟩:=hrel.get _ _ he
          have hme':arr[i]? = some me:=by rw [← Array.getElem?_toList];exact hme
          have hbits:=cez hsame hkey hkr
          have hstay:(Instr.keyThatStays (((arr[i]?).map (·.key)).getD (ev k)) (ev k)).run P w=.ok (ev k) w:=by
           simp [Instr.keyThatStays,hme',hbits]
          refine fin (arr.modify i fun e=>{ e with key:=ev k }) u hpu ?_ ?_
          ·have:(arr.modify i fun e=>{ e with key:=ev k }).toList=arr.toList.set i { me with key:=ev k }:=by
            rw [Array.toList_modify,List.modify_eq_set]
            simp [hme']
           rw [this]
           exact hrel.set ⟨hkr,hval,hb⟩ i
          ·unfold Instr.mapEntry
           rw [Sem.run_bind,run_underlying hu,Result.andThen_ok]
           simp only [hmv,Sem.run_bind,b37 hheap,Result.andThen_ok,h5,h6,hstay,b5o _ hheap,Sem.run_pure]
           rw [hme']
           simp [hb]
        ·cases hz
       ·cases hz
      ·obtain⟨z,hzt,hv⟩:=map_some hz
       cases hv
       cases r' with
       | some q=>exact h7.elim
       | none =>
        obtain⟨zv,g1,g2⟩:=cf9 hzt
        refine fin (arr.push { key:=ev k,val:=zv,born:=clock }) zv g2 ?_ ?_
        ·rw [Array.toList_push]
         exact hrel.append ⟨⟨hkr,g2,rfl⟩,trivial⟩
        ·unfold Instr.mapEntry
         rw [Sem.run_bind,run_underlying hu,Result.andThen_ok]
         simp only [hmv,Sem.run_bind,b37 hheap,Result.andThen_ok,h5,h6,g1,b5o _ hheap,Sem.run_pure]
     ·cases h
    ·cases h
   ·cases h
  ·cases h
 ·cases h
theorem crt{es:List Ent}{ms:List MapEntry}{n:Int}(h:All2 (b5c ρ) es ms):ms.findIdx? (fun e=>(e.born:Int)==n)=es.findIdx? (fun e=>(e.2.2:Int)==n):=by
 induction es generalizing ms with
 | nil=>cases ms with | nil=>rfl | cons _ _=>exact h.elim
 | cons x es ih =>
  cases ms with
  | nil=>exact h.elim
  | cons m ms =>
   obtain⟨h1,h2⟩:=h
   have hb:m.born=x.2.2:=h1.2.2
   simp only [List.findIdx?_cons,hb,ih h2]
theorem cjl{t:TypeId}{m s x:Operand}(h:b6u E H m s x=some (v,H'))(hx:∀ z,z=m∨z=s∨z=x→∀ a,E z=some a→VRel ρ a (ev z))(hH:HRel ρ H w)(hd:Dom ρ H.n):St H H'∧OpS P ρ ev H w (.entryStore t m s x) v H':=by
 unfold b6u at h
 split at h
 ·rename_i b kk n p hm hs hp
  obtain⟨pv,hpv,hp⟩:=b3h hp
  split at h
  ·rename_i es clock hmap
   split at h
   ·rename_i es' hset
    cases h
    have hpr:=b6v hp (hx x (.inr (.inr rfl)) _ hpv)
    obtain⟨L,hL,hmv⟩:=hx m (.inl rfl) _ hm
    obtain⟨hsv,_⟩:=hx s (.inr (.inl rfl)) _ hs
    obtain⟨hL0,arr,hheap,hrel⟩:=b54 hH hL hmap
    unfold c61 at hset
    split at hset
    ·rename_i i hi
     split at hset
     ·rename_i e he
      cases hset
      obtain⟨me,hme,hkey,hval,hb⟩:=hrel.get _ _ he
      have hme':arr[i]? = some me:=by rw [← Array.getElem?_toList];exact hme
      have hidx:arr.findIdx? (fun e=>(e.born:Int)==n)=some i:=by
       rw [show arr=arr.toList.toArray from rfl,List.findIdx?_toArray,crt hrel]
       exact hi
      have hrun:(Instr.entryStore t (ev m) (ev s) (ev x)).run P w=.ok () (w.putObj L.B (.map (arr.modify i fun e=>{ e with val:=ev x }) clock)):=by
       unfold Instr.entryStore
       simp only [hmv,hsv,Sem.run_bind,b37 hheap,Result.andThen_ok,asInt,asIntOf,Sem.run_pure]
       simp only [Sem.run_map,Sem.run_pure,Result.andThen_ok,hidx,b5o _ hheap]
      refine⟨St.obj _ _ _,fun dst ty pos after guard=>?_⟩
      have:(execOp ev ⟨dst,.entryStore t m s x,ty,pos,after,guard⟩).run P w=.ok .skip _:=cw0 hrun
      rw [this]
      refine⟨ρ,b6l ρ,Sim.map hH hd hL hmap hheap ?_⟩
      have:(arr.modify i fun e=>{ e with val:=ev x }).toList=arr.toList.set i { me with val:=ev x }:=by
       rw [Array.toList_modify,List.modify_eq_set]
       simp [hme']
      rw [this]
      exact hrel.set ⟨hkey,hpr,hb⟩ i
     ·cases hset
    ·cases hset
   ·cases h
  ·cases h
 ·cases h
end
end Go.Sx
