/-
  A symbolic executor: code: the rule. Conditions: none; nothing here speaks of one program.
-/
import Derived.Test.YtlbbkmcegbeckaaSzF
import Derived.LoopNIn
import Derived.Scope
set_option linter.all false
set_option maxRecDepth 100000
noncomputable section
namespace Go.Sx
inductive Ex where
 | nrm
 | ext (id:Nat)
 | rt
def Ex.out:Ex→Exit
 | .nrm=>.normal
 | .ext id=>.exit id
 | .rt=>.ret
abbrev Oc:=Ex×Fm×HP
abbrev RO:=Option (List VC×List Oc)
section
variable {P:Program} {b:Frame} {a:Act} {k:List Item} {cs:List Frame} {w:World} {Q:Exit→Act→World→Prop} {D:Fence} {n:Nat}
theorem afs{c:Code}:step P (lone (b.atR a (.code (.scope c)::k)) cs w)=.next (lone (b.atR a (.code c::.inScope c::k)) cs w) :=
 step_lone_go (by simp [stepG,stepG.exec,Frame.atR])
theorem a4g{c:Code}:step P (lone (b.atR a (.inScope c::k)) cs w)=.next (lone (b.atR a k) cs w) :=
 step_lone_go (by simp [stepG,stepG.exec,Frame.atR])
theorem bfd{c:Code}(h:c.wpIn D n P (Exit.noGoto Q) a w):(Code.scope c).wpIn D n P Q a w:=by
 intro b k cs hro hb hr
 have h0:(lone (b.atR a (.code (.scope c)::k)) cs w).fenced P D:=fenced_calm hb hr rfl
 obtain⟨e,a₁,w₁,hq,harr⟩:=h b (.inScope c::k) cs hro hb hr
 cases e with
 | normal=>exact⟨.normal,a₁,w₁,hq,.head h0 afs (StepsIn.trans harr (.one (fenced_calm hb hr rfl) a4g))⟩
 | exit id =>
  have hx:exitTo id (.inScope c::k)=exitTo id k:=by simp [exitTo]
  exact⟨.exit id,a₁,w₁,hq,fun k' hk=>.head h0 afs (harr.1 k' (by rw [hx];exact hk)),
   fun hr' hk=>let ⟨k₁,h1,h2⟩:=harr.2 hr' (by rw [hx];exact hk);⟨k₁,h1,.head h0 afs h2⟩⟩
 | goto l=>exact hq.elim
 | ret=>exact⟨_,a₁,w₁,hq,.of_steps (.one h0 afs) harr⟩
 | panic ch=>exact⟨_,a₁,w₁,hq,.of_steps (.one h0 afs) harr⟩
 | outgrown=>exact⟨_,a₁,w₁,hq,.of_steps (.one h0 afs) harr⟩
end
noncomputable section
def notX(e:X):X:=match e with
 | .ap .not [y]=>y
 | e=>.ap .not [e]
def force{α:Type}(x:Nat)(f:Nat→α):α:=Nat.rec (motive:=fun _=>α) (f 0) (fun n _=>f (Nat.succ n)) x
theorem force_eq{α:Type}(x:Nat)(f:Nat→α):force x f=f x:=by cases x<;>rfl
def bsh(H:HP):HP:=force H.n fun n=>force H.lo fun lo=>force H.nv fun nv=>⟨H.t,n,lo,H.hy,nv⟩
theorem bcl(H:HP):bsh H=H:=by
 unfold bsh
 rw [force_eq,force_eq,force_eq]
def regA(P:Program)[Plain P](ora:OraM)(orv:OraV)(n:Nat)(ops:Array Oper)(draw:Bool)(F:Fm)(H:HP):Option (List VC×List (Fm×HP)) :=
 match draw with
 | true=>match bgd P ora.one n ops.toList F H with
  | some x=>some ([],[x])
  | none=>none
 | false=>seqV P ora orv n ops.toList ops.toList F H
def unkX(hy:List X)(v:Option AV):Option X :=
 match v with
 | some (.one (.sv .bool _ e))=>match known hy e with
  | none=>some e
  | some _=>none
 | _=>none
def b08(H:HP)(F:Fm)(ops:List Oper)(g:Option (Nat×Bool)):Option X :=
 match g with
 | some (j,_)=>match(ops[j]?).bind (·.dst) with
  | some t=>unkX H.hy (F.get t)
  | none=>none
 | none=>none
def b09(H:HP)(F:Fm)(x i:Operand):Option X :=
 match evF F x,evF F i with
 | some (.one (.ptr _ _)),some (.one (.sv (.int _) _ e))=>bm9 H.hy e fewN
 | some (.one (.sl _ _ _ _)),some (.one (.sv (.int _) _ e))=>bm9 H.hy e fewN
 | some (.one (.su _ _ _ _)),some (.one (.sv (.int _) _ e))=>bm9 H.hy e fewN
 | _,_=>none
def b1a(H:HP)(F:Fm)(op:Op):Option X :=
 match op with
 | .pick c _ _=>unkX H.hy (evF F c)
 | .indexAddr _ x i=>b09 H F x i
 | _=>none
def bgs(P:Program)[Plain P](ora:OraM)(orv:OraV)(n:Nat)(ops:List Oper):List Oper→Fm→HP→Option X
 | [],_,_=>none
 | o::rest,F,H =>
  match b08 H F ops o.guard with
  | some e=>some e
  | none=>match ayv H.hy ops F o.guard with
   | some true=>match b1a H F o.op with
    | some e=>some e
    | none=>match opV P orv (evF F) H o.op with
     | some (_,(v,H')::_)=>match putF n F o.dst v with
      | some F'=>bgs P ora orv n ops rest F' H'
      | none=>none
     | _=>match stepM P ora (evF F) H o.op with
      | some ((v,H')::_)=>match putF n F o.dst v with
       | some F'=>bgs P ora orv n ops rest F' H'
       | none=>none
      | _=>none
   | some false=>match putF n F o.dst aho with
    | some F'=>bgs P ora orv n ops rest F' H
    | none=>none
   | none=>none
def regS(P:Program)[Plain P](ora:OraM)(orv:OraV)(n:Nat)(ops:Array Oper)(draw:Bool)(k:Nat):Fm→HP→Option (List VC×List (Fm×HP)) :=
 Nat.rec (motive:=fun _=>Fm→HP→Option (List VC×List (Fm×HP))) (fun F H=>regA P ora orv n ops draw F H)
  (fun _ ih F H=>match regA P ora orv n ops draw F H with
   | some l=>some l
   | none=>match bgs P ora orv n ops.toList ops.toList F H with
    | some e=>match ih F (H.learn e),ih F (H.learn (notX e)) with
     | some (a,b),some (c,d)=>some (a++c,b++d)
     | _,_=>none
    | none=>none) k
structure LH where
 head:Fm→HP→Option (Fm×HP×Mp)
 back:Fm→HP→Fm→HP→Option Mp
 ms:Fm→HP→X
def azc(hy:List X)(x:X)(r:List VC):List VC :=
 match known hy x with
 | some true=>r
 | _=>(hy,x)::r
def a8k(m:Mp)(hy1:List X):List X→List VC
 | []=>[]
 | x::r=>azc hy1 (m.x x) (a8k m hy1 r)
def Mp.ok(m:Mp)(ne nv:Nat):Bool:=Nat.beq m.ne ne&&Nat.beq m.nv nv
def bdn(h:LH)(ne nv:Nat)(F2:Fm)(H2:HP)(ms:X)(F1:Fm)(H1:HP):Option (List VC) :=
 match h.back F2 H2 F1 H1 with
 | some m=>match m.ok ne nv&&a06 m F2 H2 F1 H1 with
  | true=>some (azc H1.hy (.ap .le [a4r,m.x ms]) (azc H1.hy (.ap .lt [m.x ms,ms]) (a8k m H1.hy H2.hy)))
  | false=>none
 | none=>none
def aoe(h:LH)(ne nv:Nat)(F2:Fm)(H2:HP)(ms:X):List Oc→Option (List VC×List Oc)
 | []=>some ([],[])
 | (.nrm,F1,H1)::r=>match bdn h ne nv F2 H2 ms F1 H1,aoe h ne nv F2 H2 ms r with
  | some a,some (b,l)=>some (a++b,l)
  | _,_=>none
 | x::r=>match aoe h ne nv F2 H2 ms r with
  | some (b,l)=>some (b,x::l)
  | none=>none
def bmv(h:LH)(body:Fm→HP→RO)(F:Fm)(H:HP):RO :=
 match h.head F H with
 | some (F2,H2,m)=>match m.ok H.n H.nv&&(Nat.ble H.nv H2.nv&&(Nat.beq H2.lo 0&&(agj H2.nv (h.ms F2 H2)&&a06 m F2 H2 F H))) with
  | true=>match body F2 H2 with
   | some (v1,outs)=>match aoe h H.n H.nv F2 H2 (h.ms F2 H2) outs with
    | some (v2,l)=>some (a8k m H.hy H2.hy++(v1++v2),l)
    | none=>none
   | none=>none
  | false=>none
 | none=>none
structure Hs where
 lh:Nat→Option LH
 as:Nat→Fm→HP→List X
def asV(hy:List X):List X→List VC
 | []=>[]
 | x::r=>azc hy x (asV hy r)
def regI(f:Fm→HP→Option (List VC×List (Fm×HP)))(xs:List X)(nrm:Fm×HP→Oc)(F:Fm)(H:HP):RO :=
 match f (frzL xs F H).1 ((frzL xs F H).2.learns (noFz xs)) with
 | some (v,l)=>some (asV H.hy (noFz xs)++v,l.map nrm)
 | none=>none
def bfv(f:Oc→RO):List Oc→RO
 | []=>some ([],[])
 | [x]=>f x
 | x::y::r=>match f x,bfv f (y::r) with
  | some (a,b),some (c,d)=>some (a++c,b++d)
  | _,_=>none
def bv2(k:Fm→HP→RO)(x:Oc):RO :=
 match x.1 with
 | .nrm=>k x.2.1 x.2.2
 | _=>some ([],[x])
def seqO(x:RO)(k:Fm→HP→RO):RO :=
 match x with
 | some (v,l)=>match bfv (bv2 k) l with
  | some (v',l')=>some (v++v',l')
  | none=>none
 | none=>none
def bvk(x y:RO):RO :=
 match x,y with
 | some (a,b),some (c,d)=>some (a++c,b++d)
 | _,_=>none
def brg(v:Option AV)(F:Fm)(H:HP)(x y:Fm→HP→RO):RO :=
 match v with
 | some (.one (.lit (.bool true)))=>x F H
 | some (.one (.lit (.bool false)))=>y F H
 | some (.one (.sv .bool _ e))=>match known H.hy e with
  | some true=>x F H
  | some false=>y F H
  | none=>bvk (x F (H.learn e)) (y F (H.learn (notX e)))
 | _=>none
def aub(id:Nat)(x:Oc):Oc :=
 match x.1 with
 | .ext id'=>match Nat.beq id' id with
  | true=>(.nrm,x.2)
  | false=>x
 | _=>x
def bfw(id:Nat)(x:RO):RO :=
 match x with
 | some (v,l)=>some (v,l.map (aub id))
 | none=>none
def bmx(step:Fm→HP→RO)(fuel:Nat):Fm→HP→RO :=
 Nat.rec (motive:=fun _=>Fm→HP→RO) (fun _ _=>none) (fun _ ih F H=>seqO (step F H) ih) fuel
def a6c(c:Code):Option Nat :=
 Code.rec (motive:=fun _=>Option Nat) none (fun id _ _=>some id) (fun _ _ x y=>match x with | some i=>some i | none=>y)
  (fun _ _ _ x y=>match x with | some i=>some i | none=>y) (fun _ _ x=>x) (fun _ x=>x) (fun _ _ _ _ x y=>match x with | some i=>some i | none=>y) (fun _=>none)
  (fun _ x=>x) (fun _=>none) (fun _=>none) none (fun _=>none) c
def nrmO(x:Fm×HP):Oc:=(.nrm,x.1,bsh x.2)
def av6(F:Fm)(b:Nat)(o:AV×HP):Option Oc :=
 match aiv o.2 b with
 | some l=>match l.st with
  | .busy=>none
  | _=>match l.pend with
   | none=>some (.nrm,F,(o.2.obj b (LoopC.ct { l with st:=.exhausted })).drop b)
   | some .ret=>some (.rt,F,(o.2.obj b (LoopC.ct { l with st:=.exhausted })).drop b)
   | some (.exit id)=>some (.ext id,F,(o.2.obj b (LoopC.ct { l with st:=.exhausted })).drop b)
   | _=>none
 | none=>none
def a3s(orv:OraV)(ent:FuncId→Bool)(n k:Nat)(F:Fm)(H:HP)(g:FuncId)(caps:List AV):RO :=
 match ent g&&alj H.nv F with
 | true=>match orv (.f g) (.one (.yd H.n)::caps) (H.push (.lf [some (.loop .ready none n F k)])) with
  | some (v,outs)=>match aej (outs.map (av6 F H.n)) with
   | some l=>some (v,l)
   | none=>none
  | none=>none
 | false=>none
def bje(orv:OraV)(ent:FuncId→Bool)(n:Nat)(rb:Option Nat)(k:Nat)(f:Operand)(F:Fm)(H:HP):RO :=
 match aua H rb,evF F f with
 | true,some (.one (.lit (.func (.func g) a b)))=>if a.size=0∧b.size=0 then a3s orv ent n k F H g [] else none
 | true,some (.one (.fn (.func g) caps))=>a3s orv ent n k F H g (ptrs caps)
 | _,_=>none
structure Cx where
 ora:OraM
 orv:OraV
 ent:FuncId→Bool
 fuel:Nat
 fk:Nat
 rb:Option Nat
 rk:Nat→Nat
def ami(P:Program)[Plain P](x:Cx)(n:Nat)(hs:Hs)(c:Code):Fm→HP→RO :=
 Code.rec (motive:=fun _=>Fm→HP→RO)
  (fun F H=>some ([],[(.nrm,F,H)]))
  (fun id ops draw F H=>regI (regS P x.ora x.orv n ops draw x.fk) (hs.as id F H) nrmO F H)
  (fun _ _ x y F H=>seqO (x F H) y)
  (fun c _ _ x y F H=>brg (evF F c) F H x y)
  (fun id _ x F H=>bfw id (x F H))
  (fun body y F H=>match a6c body with
   | some id=>match hs.lh id with
    | some h=>bmv h y F H
    | none=>bmx y x.fuel F H
   | none=>none)
  (fun f _ _ b _ _ F H=>match a6c b with
   | some id=>bje x.orv x.ent n x.rb (x.rk id) f F H
   | none=>none)
  (fun id F H=>some ([],[(.ext id,F,H)]))
  (fun _ x F H=>x F H)
  (fun _ F H=>some ([],[(.nrm,F,H)]))
  (fun _ _ _=>none)
  (fun F H=>some ([],[(.rt,F,H)]))
  (fun _ _ _=>none) c
end
def afh:Code→List (Nat×LCd)
 | .seq a b=>afh a++afh b
 | .cond _ a b=>afh a++afh b
 | .block _ b=>afh b
 | .loop b=>afh b
 | .rangeFunc _ ps a b=>match a6c b with
  | some id=>[(id,⟨ps,a,b⟩)]
  | none=>[]
 | .scope b=>afh b
 | _=>[]
def bhh:List (Nat×LCd)→Nat→LCd
 | [],_=>⟨#[],.skip,.skip⟩
 | x::r,k=>match Nat.beq k x.1 with
  | true=>x.2
  | false=>bhh r k
def blv:List (Nat×LCd)→Bool
 | []=>true
 | x::r=>(r.all fun y=>!Nat.beq y.1 x.1)&&blv r
theorem bcf:∀ {l:List (Nat×LCd)},blv l=true→∀ x∈l,bhh l x.1=x.2
 | [],_,x,hx=>by cases hx
 | y::r,h,x,hx=>by
  simp only [blv,Ba] at h
  rcases Mn.1 hx with rfl | hx
  ·unfold bhh
   rw [Nat.beq_refl]
  ·have h1:=List.all_eq_true.1 h.1 x hx
   unfold bhh
   rw [show Nat.beq x.1 y.1=false by simpa using h1]
   exact bcf h.2 x hx
def adv(lc:Nat→LCd)(rk:Nat→Nat)(c:Code):Prop:=∀ x∈afh c,lc (rk x.1)=x.2
def acs:Code→Bool
 | .region _ ops draw=>!draw||akj ops.toList
 | .seq a b=>acs a&&acs b
 | .cond _ a b=>acs a&&acs b
 | .block _ b=>acs b
 | .loop b=>acs b
 | .rangeFunc _ _ a b=>acs a&&acs b
 | .scope b=>acs b
 | _=>true
theorem RR.mono'{ρ ρ':PM}(h:PM.le ρ ρ'):∀ {rb r:Option Nat},RR ρ rb r→RR ρ' rb r
 | none,none,_=>trivial
 | some _,some _,⟨L,h1,h2⟩=>⟨L,h _ _ h1,h2⟩
 | none,some _,hh=>hh.elim
 | some _,none,hh=>hh.elim
structure CodeOK (σ:Sg) (P:Program) (n m:Nat) (rb r:Option Nat) (c:Code) (F:Fm) (H:HP) (Z:Oc→Prop):Prop where
 st:∀ x,Z x→Sc H x.2.2
 wp:∀ {Q:Exit→Act→World→Prop} {ρ:PM} {a:Act} {w:World} {m0:Nat},@SRel σ n ρ F H a w→RR ρ rb r→m0≤w.heap.size→DfOK ρ H w m0 a.defers →
  (∀ σ',Ext H.nv σ σ'→∀ x,Z x→∀ ρ' a' w',@SRel σ' n ρ' x.2.1 x.2.2 a' w'→DfOK ρ' x.2.2 w' m0 a'.defers→SimF ρ H w ρ' x.2.2 w'→Q x.1.out a' w')→c.wpIn (WF r) m P Q a w
theorem DfOK.a8b[Sg]{ρ ρ':PM}{H H':HP}{w w':World}{m:Nat}(hd:Dom ρ H.n)(s:SimF ρ H w ρ' H' w'):∀ {ds:List Deferred},DfOK ρ H w m ds→DfOK ρ' H' w' m ds
 | [],_=>trivial
 | d::ds,⟨⟨D,h1,hm,h2,h3,h7⟩,h⟩=>by
  have hlt:=(Ga.1 h2).1
  refine⟨⟨D,h1,hm,by rw [s.fr D hlt h3.1];exact h2,⟨fun b L hk hL he=>?_,fun g L M o hg hM ho=>?_⟩,h7⟩,DfOK.a8b hd s h⟩
  ·cases hb:ρ b with
   | some L0 =>
    have:=s.le b L0 hb
    rw [hL] at this
    cases this
    exact h3.1 b L (s.kn (hd.lt hb) hk) hb he
   | none =>
    rcases s.new b L hb hL with h4 | ⟨b0,L0,h4,h5,h6⟩
    ·omega
    ·exact h3.1 b0 L0 h4 h5 (h6.trans he)
  ·cases hb:ρ g with
   | some L0 =>
    have:=s.le g L0 hb
    rw [hg] at this
    cases this
    exact h3.2 g L M o hb hM ho
   | none =>
    rcases(s.ro g L M D o hb hg hM ho).1 with h4 | ⟨b0,L0,h4,h5,h6⟩
    ·omega
    ·exact h3.1 b0 L0 h4 h5 h6
theorem DfOK.view{ρ ρ':PM}{H H':HP}{w:World}{m:Nat}(hk:∀ b L,H'.Kn b→ρ' b=some L→∃ b1 L1,H.Kn b1∧ρ b1=some L1∧L1.B=L.B)(hg:∀ g L M k o,ρ' g=some L→L.M=some M→M k o→∃ g1 L1 M1,ρ g1=some L1∧L1.M=some M1∧M1 k o):∀ {ds:List Deferred},DfOK ρ H w m ds→DfOK ρ' H' w m ds
 | [],_=>trivial
 | d::ds,⟨⟨D,h1,hm,h2,h3,h7⟩,h⟩=>⟨⟨D,h1,hm,h2,⟨fun b L hb hL he=>by
   obtain⟨b1,L1,g1,g2,g3⟩:=hk b L hb hL
   exact h3.1 b1 L1 g1 g2 (g3.trans he),fun g L M o h4 h5 h6=>by
   obtain⟨g1,L1,M1,k1,k2,k3⟩:=hg g L M D o h4 h5 h6
   exact h3.2 g1 L1 M1 o k1 k2 k3⟩,h7⟩,DfOK.view hk hg h⟩
theorem DfOK.learn{ρ:PM}{H:HP}{e:X}{w:World}{m:Nat}{ds:List Deferred}(h:DfOK ρ H w m ds):DfOK ρ (H.learn e) w m ds :=
 DfOK.view (H:=H) (H':=H.learn e) (ρ:=ρ) (ρ':=ρ) (fun b L hb hL=>⟨b,L,hb,hL,rfl⟩) (fun g L M k o h1 h2 h3=>⟨g,L,M,h1,h2,h3⟩) h
section
variable [Sg] {ρ ρ':PM} {H H':HP} {w w':World} {n:Nat} {F:Fm} {a:Act} {e:X}
theorem SRel.learn(s:SRel n ρ F H a w)(h:Tru e):SRel n ρ F (H.learn e) a w :=
 ⟨s.fr,⟨s.hp.rel,s.hp.inj,fun x hx=>by
  rcases Mn.1 hx with rfl | hx
  ·exact h
  ·exact s.hp.hy x hx⟩,s.dom,s.j⟩
theorem SRel.unlearn(s:SRel n ρ F (H.learn e) a w):SRel n ρ F H a w :=
 ⟨s.fr,⟨s.hp.rel,s.hp.inj,fun x hx=>s.hp.hy x (Mc _ hx)⟩,s.dom,s.j⟩
theorem SimF.unlearn(s:SimF ρ (H.learn e) w ρ' H' w'):SimF ρ H w ρ' H' w' :=
 ⟨s.le,s.grow,s.dom,s.knc,s.fr,s.new,s.size,s.os,s.tape,s.output,s.old,s.jj,s.ro⟩
theorem bun(h:(den e).bv=false):Tru (notX e):=by
 unfold notX
 split
 ·rename_i y
  have h':(!(den y).bv)=false:=h
  show(den y).bv=true
  simpa using h'
 ·show(!(den e).bv)=true
  rw [h];rfl
theorem brs(h:(den e).bv=true):(den (notX e)).bv=false:=by
 unfold notX
 split
 ·rename_i y
  have h':(!(den y).bv)=true:=h
  simpa using h'
 ·show(!(den e).bv)=false
  rw [h];rfl
theorem SimF.refl(s:SRel n ρ F H a w):SimF ρ H w ρ H w:=(Sim.refl s.hp s.dom).f
end
theorem Sc.unlearn{H H':HP}{e:X}(h:Sc (H.learn e) H'):Sc H H':=h
theorem Ext.unlearn{H:HP}{e:X}{σ σ':Sg}(h:Ext (H.learn e).nv σ σ'):Ext H.nv σ σ':=h
section
variable {P:Program} {n m:Nat} {rb r:Option Nat} {F:Fm} {H:HP} {Z:Oc→Prop} {σ:Sg}
theorem CodeOK.weaken{c:Code}{Z':Oc→Prop}(h:CodeOK σ P n m rb r c F H Z)(hz:∀ x,Z x→Z' x)(hst:∀ x,Z' x→Sc H x.2.2):CodeOK σ P n m rb r c F H Z' :=
 ⟨hst,fun s hr hm df hq=>h.wp s hr hm df fun σ' he x hx=>hq σ' he x (hz x hx)⟩
theorem CodeOK.fork{c:Code}{e:X}{Z1 Z2:Oc→Prop}(h1:CodeOK σ P n m rb r c F (H.learn e) Z1)(h2:CodeOK σ P n m rb r c F (H.learn (notX e)) Z2):CodeOK σ P n m rb r c F H (fun x=>Z1 x∨Z2 x):=by
 refine⟨fun x hx=>hx.elim (fun h=>(h1.st x h).unlearn) fun h=>(h2.st x h).unlearn,fun {Q ρ a w m0} s hr hm df hq=>?_⟩
 cases hb:(@den σ e).bv with
 | true=>exact h1.wp (@SRel.learn σ _ _ _ _ _ _ _ s hb) hr hm (DfOK.learn df) fun σ' he x hx ρ' a' w' s' d' hs=>hq σ' he x (.inl hx) ρ' a' w' s' d' (@SimF.unlearn σ _ _ _ _ _ _ _ hs)
 | false=>exact h2.wp (@SRel.learn σ _ _ _ _ _ _ _ s (@bun σ _ hb)) hr hm (DfOK.learn df) fun σ' he x hx ρ' a' w' s' d' hs=>hq σ' he x (.inr hx) ρ' a' w' s' d' (@SimF.unlearn σ _ _ _ _ _ _ _ hs)
end
theorem azg{f:Oc→RO}:∀ {xs:List Oc} {v:List VC} {ys:List Oc},bfv f xs=some (v,ys)→(∀ x∈xs,∃ v1 zs,f x=some (v1,zs)∧(∀ z∈zs,z∈ys)∧∀ z∈v1,z∈v)∧∀ y∈ys,∃ x∈xs,∃ v1 zs,f x=some (v1,zs)∧y∈zs
 | [],v,ys,h=>by
  cases h
  exact⟨fun x hx=>(by cases hx),fun x hx=>(by cases hx)⟩
 | [x],v,ys,h=>by
  have h':f x=some (v,ys):=h
  exact⟨fun y hy=>by rw [Mg.1 hy];exact⟨v,ys,h',fun z hz=>hz,fun z hz=>hz⟩,fun y hy=>⟨x,by simp,v,ys,h',hy⟩⟩
 | x::y::r,v,ys,h=>by
  simp only [bfv] at h
  cases h1:f x with
  | none=>rw [h1] at h;cases h
  | some a =>
   cases h2:bfv f (y::r) with
   | none=>rw [h1,h2] at h;cases h
   | some b =>
    obtain⟨a1,a2⟩:=a
    obtain⟨b1,b2⟩:=b
    rw [h1,h2] at h
    cases h
    obtain⟨k1,k2⟩:=azg h2
    refine⟨fun z hz=>?_,fun z hz=>?_⟩
    ·rcases Mn.1 hz with rfl | hz
     ·exact⟨a1,a2,h1,fun z hz=>List.mem_append_left _ hz,fun z hz=>List.mem_append_left _ hz⟩
     ·obtain⟨v1,zs,g1,g2,g3⟩:=k1 z hz
      exact⟨v1,zs,g1,fun u hu=>List.mem_append_right _ (g2 u hu),fun u hu=>List.mem_append_right _ (g3 u hu)⟩
    ·rcases List.mem_append.1 hz with hz | hz
     ·exact⟨x,Ms ..,a1,a2,h1,hz⟩
     ·obtain⟨x',g1,g2⟩:=k2 z hz
      exact⟨x',Mc _ g1,g2⟩
theorem a7x{x:RO}{k:Fm→HP→RO}{v:List VC}{l:List Oc}(h:seqO x k=some (v,l)):∃ v1 l1,x=some (v1,l1)∧(∀ z∈v1,z∈v)∧(∀ F1 H1,(Ex.nrm,F1,H1)∈l1→∃ v2 l2,k F1 H1=some (v2,l2)∧(∀ z∈l2,z∈l)∧∀ z∈v2,z∈v)∧(∀ z∈l1,z.1≠.nrm→z∈l) ∧
  ∀ z∈l,(∃ F1 H1 v2 l2,(Ex.nrm,F1,H1)∈l1∧k F1 H1=some (v2,l2)∧z∈l2)∨z∈l1:=by
 unfold seqO at h
 split at h
 ·rename_i v1 l1
  split at h
  ·rename_i v2 l2 hb
   cases h
   obtain⟨h1,h2⟩:=azg hb
   refine⟨v1,l1,rfl,fun z hz=>List.mem_append_left _ hz,fun F1 H1 hm=>?_,fun z hz hne=>?_,fun z hz=>?_⟩
   ·obtain⟨w1,zs,h3,h4,h5⟩:=h1 _ hm
    exact⟨w1,zs,h3,h4,fun z hz=>List.mem_append_right _ (h5 z hz)⟩
   ·obtain⟨w1,zs,h3,h4,_⟩:=h1 z hz
    have:bv2 k z=some ([],[z]):=by
     obtain⟨e,F1,H1⟩:=z
     cases e<;>first | rfl | exact absurd rfl hne
    rw [this] at h3
    cases h3
    exact h4 z (Mg.2 rfl)
   ·obtain⟨x,hx,w1,zs,h3,h4⟩:=h2 z hz
    obtain⟨e,F1,H1⟩:=x
    cases e with
    | nrm=>exact .inl ⟨F1,H1,w1,zs,hx,h3,h4⟩
    | ext id =>
     cases (show some (([]:List VC),[(Ex.ext id,F1,H1)])=some (w1,zs) from h3)
     rw [Mg.1 h4]
     exact .inr hx
    | rt =>
     cases (show some (([]:List VC),[(Ex.rt,F1,H1)])=some (w1,zs) from h3)
     rw [Mg.1 h4]
     exact .inr hx
  ·cases h
 ·cases h
section
variable {P:Program} [Plain P] {ora:OraM} {orv:OraV} {n m:Nat} {rb r:Option Nat} {U:Us}
theorem bjh(hm:P.follows .mixedOrders=true)(hora:ahh U P ora)(horv:akc U P orv)(σ:Sg)(hU:σ.toUs=U){id:Nat}{ops:Array Oper}{draw:Bool}(hf:(!draw||akj ops.toList)=true){F:Fm}{H:HP}{v:List VC}{l:List (Fm×HP)}(h:regA P ora orv n ops draw F H=some (v,l))(hv:∀ z∈v,VCok U z) :
  CodeOK σ P n m rb r (.region id ops draw) F H (fun z=>∃ x∈l,z=nrmO x):=by
 have ho:=hora σ hU
 have hn:∀ x:Fm×HP,(nrmO x).2.2=x.2:=fun x=>bcl x.2
 have hst:∀ x∈l,Sc H x.2:=by
  cases draw with
  | true =>
   simp only [regA] at h
   split at h
   ·rename_i x hx
    cases h
    intro y hy
    rw [Mg.1 hy]
    obtain⟨F',H'⟩:=x
    exact(blw ho.one.st (by simpa using hf) hx).sc
   ·cases h
  | false=>exact a4a horv hora σ hU _ h hv
 refine⟨fun z ⟨x,hx,e⟩=>by rw [e,hn];exact hst x hx,fun {Q ρ a w m0} s _ _ df hq=>?_⟩
 have fin:∀ σ',Ext H.nv σ σ'→∀ (x:Fm×HP),x∈l→∀ ρ' a' w',@SRel σ' n ρ' x.1 x.2 a' w'→a'.defers=a.defers→SimF ρ H w ρ' x.2 w'→Q .normal a' w':=fun σ' he x hx ρ' a' w' s' hd' hs'=>by
  have e:(nrmO x)=(Ex.nrm,x.1,x.2):=by unfold nrmO;rw [bcl]
  have:=hq σ' he (nrmO x) ⟨x,hx,rfl⟩ ρ' a' w'
  rw [e] at this
  exact this s' (by rw [hd'];exact DfOK.a8b (@SRel.dom σ _ _ _ _ _ _ s) hs' df) hs'
 obtain⟨ol⟩:=ops
 cases draw with
 | true =>
  simp only [regA] at h
  split at h
  ·rename_i x hx
   obtain⟨F',H'⟩:=x
   cases h
   exact bo1 hm ho.one (by simpa using hf) hx s fun ρ' a' w' s' hd' hs'=>fin σ (Ext.refl _ _) (F',H') (Mg.2 rfl) ρ' a' w' s' hd' (@Sim.f σ _ _ _ _ _ _ hs')
  ·cases h
 | false=>exact bur horv hora σ hU h hv s fun σ' he x hx ρ' a' w' s' hd' hs'=>fin σ' he x hx ρ' a' w' s' hd' hs'
theorem baf(hm:P.follows .mixedOrders=true)(hora:ahh U P ora)(horv:akc U P orv)(σ:Sg)(hU:σ.toUs=U){id:Nat}{ops:Array Oper}{draw:Bool}(hf:(!draw||akj ops.toList)=true):∀ (k:Nat) {F:Fm} {H:HP} {v:List VC} {l:List (Fm×HP)},regS P ora orv n ops draw k F H=some (v,l)→(∀ z∈v,VCok U z) →
  CodeOK σ P n m rb r (.region id ops draw) F H (fun z=>∃ x∈l,z=nrmO x)
 | 0,F,H,v,l,h,hv=>bjh hm hora horv σ hU hf h hv
 | k+1,F,H,v,l,h,hv=>by
  have h':(match regA P ora orv n ops draw F H with
   | some l=>some l
   | none=>match bgs P ora orv n ops.toList ops.toList F H with
    | some e=>match regS P ora orv n ops draw k F (H.learn e),regS P ora orv n ops draw k F (H.learn (notX e)) with
     | some (a,b),some (c,d)=>some (a++c,b++d)
     | _,_=>none
    | none=>none)=some (v,l):=h
  split at h'
  ·rename_i l1 h1
   cases h'
   exact bjh hm hora horv σ hU hf h1 hv
  ·split at h'
   ·rename_i e he
    split at h'
    ·rename_i a b c d ha hb
     cases h'
     have k1:=baf (id:=id) hm hora horv σ hU hf k ha (fun z hz=>hv z (List.mem_append_left _ hz))
     have k2:=baf (id:=id) hm hora horv σ hU hf k hb (fun z hz=>hv z (List.mem_append_right _ hz))
     have k3:=CodeOK.fork k1 k2
     refine k3.weaken (fun z hz=>?_) fun z ⟨x,hx,e⟩=>?_
     ·rcases hz with ⟨x,hx,e⟩ | ⟨x,hx,e⟩
      ·exact⟨x,List.mem_append_left _ hx,e⟩
      ·exact⟨x,List.mem_append_right _ hx,e⟩
     ·refine k3.st z ?_
      rcases List.mem_append.1 hx with hx | hx
      ·exact .inl ⟨x,hx,e⟩
      ·exact .inr ⟨x,hx,e⟩
    ·cases h'
   ·cases h'
end
theorem amf{U:Us}{σ:Sg}(hU:σ.toUs=U){hy:List X}{x:X}{r:List VC}(hv:∀ z∈azc hy x r,VCok U z)(hh:@Holds σ hy):@Tru σ x∧∀ z∈r,VCok U z:=by
 unfold azc at hv
 split at hv
 ·rename_i h1
  exact⟨@ajb σ hy hh _ _ h1,hv⟩
 ·exact⟨hv _ (Ms ..) σ hU hh,fun z hz=>hv z (Mc _ hz)⟩
theorem a05{U:Us}{σ:Sg}(hU:σ.toUs=U){m:Mp}{hy1:List X}(hh:@Holds σ hy1):∀ {l:List X},(∀ z∈a8k m hy1 l,VCok U z)→∀ x∈l,@Tru σ (m.x x)
 | y::r,hv,x,hx=>by
  obtain⟨h1,h2⟩:=amf hU (show ∀ z∈azc hy1 (m.x y) (a8k m hy1 r),VCok U z from hv) hh
  rcases Mn.1 hx with rfl | hx
  ·exact h1
  ·exact a05 hU hh h2 x hx
theorem bdy{U:Us}{σ:Sg}(hU:σ.toUs=U){m:Mp}{hy1 hy2:List X}(hv:∀ z∈a8k m hy1 hy2,VCok U z)(h:@Holds σ hy1):@Holds (σ.sub m.nv m.l) hy2:=by
 intro x hx
 show(@den (σ.sub m.nv m.l) x).bv=true
 rw [← apy]
 exact a05 hU h hv x hx
section
variable {P:Program} [Plain P] {cx:Cx} {n m:Nat} {rb r:Option Nat} {U:Us} {hs:Hs}
theorem ahm{h:LH}{ne nv:Nat}{F2:Fm}{H2:HP}{ms:X}:∀ {outs:List Oc} {v:List VC} {l:List Oc},aoe h ne nv F2 H2 ms outs=some (v,l) →
  (∀ F1 H1,(Ex.nrm,F1,H1)∈outs→∃ v1,bdn h ne nv F2 H2 ms F1 H1=some v1∧∀ z∈v1,z∈v)∧(∀ z∈outs,z.1≠.nrm→z∈l)∧∀ z∈l,z∈outs
 | [],v,l,hh=>by
  cases hh
  exact⟨fun _ _ hx=>(by cases hx),fun _ hx=>(by cases hx),fun _ hx=>(by cases hx)⟩
 | (.nrm,F1,H1)::r,v,l,hh=>by
  simp only [aoe] at hh
  split at hh
  ·rename_i a b l' ha hb
   cases hh
   obtain⟨k1,k2,k3⟩:=ahm hb
   refine⟨fun F H hx=>?_,fun z hz hne=>?_,fun z hz=>Mc _ (k3 z hz)⟩
   ·rcases Mn.1 hx with e | hx
    ·cases e
     exact⟨a,ha,fun z hz=>List.mem_append_left _ hz⟩
    ·obtain⟨v1,g1,g2⟩:=k1 F H hx
     exact⟨v1,g1,fun z hz=>List.mem_append_right _ (g2 z hz)⟩
   ·rcases Mn.1 hz with rfl | hz
    ·exact absurd rfl hne
    ·exact k2 z hz hne
  ·cases hh
 | (.ext id,F1,H1)::r,v,l,hh=>by
  simp only [aoe] at hh
  split at hh
  ·rename_i b l' hb
   cases hh
   obtain⟨k1,k2,k3⟩:=ahm hb
   refine⟨fun F H hx=>?_,fun z hz hne=>?_,fun z hz=>?_⟩
   ·rcases Mn.1 hx with e | hx
    ·cases e
    ·exact k1 F H hx
   ·rcases Mn.1 hz with rfl | hz
    ·exact Ms ..
    ·exact Mc _ (k2 z hz hne)
   ·rcases Mn.1 hz with rfl | hz
    ·exact Ms ..
    ·exact Mc _ (k3 z hz)
  ·cases hh
 | (.rt,F1,H1)::r,v,l,hh=>by
  simp only [aoe] at hh
  split at hh
  ·rename_i b l' hb
   cases hh
   obtain⟨k1,k2,k3⟩:=ahm hb
   refine⟨fun F H hx=>?_,fun z hz hne=>?_,fun z hz=>?_⟩
   ·rcases Mn.1 hx with e | hx
    ·cases e
    ·exact k1 F H hx
   ·rcases Mn.1 hz with rfl | hz
    ·exact Ms ..
    ·exact Mc _ (k2 z hz hne)
   ·rcases Mn.1 hz with rfl | hz
    ·exact Ms ..
    ·exact Mc _ (k3 z hz)
  ·cases hh
theorem bal{h:LH}{ne nv:Nat}{F2 F1:Fm}{H2 H1:HP}{ms:X}{v:List VC}(hh:bdn h ne nv F2 H2 ms F1 H1=some v) :
  ∃ mp:Mp,mp.ne=ne∧mp.nv=nv∧a06 mp F2 H2 F1 H1=true∧v=azc H1.hy (.ap .le [a4r,mp.x ms]) (azc H1.hy (.ap .lt [mp.x ms,ms]) (a8k mp H1.hy H2.hy)):=by
 unfold bdn at hh
 split at hh
 ·rename_i mp hb
  split at hh
  ·rename_i hk
   cases hh
   rw [Ba] at hk
   obtain⟨h1,h2⟩:=hk
   unfold Mp.ok at h1
   rw [Ba] at h1
   exact⟨mp,Nb h1.1,Nb h1.2,h2,rfl⟩
  ·cases hh
 ·cases hh
theorem bmw{body:Code}{bd:Fm→HP→RO}{h:LH}{F:Fm}{H:HP}{v:List VC}{l:List Oc}(hh:bmv h bd F H=some (v,l))(hv:∀ z∈v,VCok U z)
  (ih:∀ {F:Fm} {H:HP} {v:List VC} {l:List Oc},bd F H=some (v,l)→(∀ z∈v,VCok U z)→∀ σ:Sg,σ.toUs=U→CodeOK σ P n m rb r body F H (·∈l)) (σ:Sg) (hU:σ.toUs=U):CodeOK σ P n m rb r (.loop body) F H (·∈l):=by
 unfold bmv at hh
 split at hh
 rotate_left
 ·cases hh
 rename_i F2 H2 mp hhead
 split at hh
 rotate_left
 ·cases hh
 rename_i hok
 simp only [Ba] at hok
 obtain⟨hk1,hnv,hlo,hsc,hview⟩:=hok
 unfold Mp.ok at hk1
 rw [Ba] at hk1
 have hne:=Nb hk1.1
 have hnvm:=Nb hk1.2
 have hnv:=Nl hnv
 have hlo:=Nb hlo
 split at hh
 rotate_left
 ·cases hh
 rename_i v1 outs hbody
 split at hh
 rotate_left
 ·cases hh
 rename_i v2 l2 hrounds
 cases hh
 have hv0:∀ z∈a8k mp H.hy H2.hy,VCok U z:=fun z hz=>hv z (List.mem_append_left _ hz)
 have hv1:∀ z∈v1,VCok U z:=fun z hz=>hv z (List.mem_append_right _ (List.mem_append_left _ hz))
 have hv2:∀ z∈v2,VCok U z:=fun z hz=>hv z (List.mem_append_right _ (List.mem_append_right _ hz))
 have K:=fun(σ2:Sg) (hU2:σ2.toUs=U)=>ih hbody hv1 σ2 hU2
 obtain⟨R1,R2,R3⟩:=ahm hrounds
 have VO:=ayq hview
 have hgrow:H.n≤H2.n:=by have:=VO.rlt;have:=VO.rge;omega
 have hsc2:Sc H H2:=⟨⟨by rw [hlo];exact Nat.zero_le _,fun b hb=>by rw [hlo] at hb;omega⟩,hgrow,hnv⟩
 refine⟨fun z hz=>hsc2.trans ((K σ hU).st z (R3 z hz)),fun {Q ρ a w m0} s hr hmm df hq=>?_⟩
 have hd:=@SRel.dom σ _ _ _ _ _ _ s
 have key:∀ (k:Nat) (σ2:Sg) (ρ2:PM) (a2:Act) (w2:World),Ext H.nv σ σ2→@SRel σ2 n ρ2 F2 H2 a2 w2→SimF ρ H w ρ2 H2 w2→DfOK ρ2 H2 w2 m0 a2.defers→(@den σ2 (h.ms F2 H2)).iv.toNat<k→Code.roundsIn (WF r) m P body Q k a2 w2:=by
  intro k
  induction k with
  | zero=>intro σ2 ρ2 a2 w2 _ _ _ _ hlt;omega
  | succ k ihk =>
   intro σ2 ρ2 a2 w2 he2 s2 hs2 hd2 hlt
   rw [roundsIn_succ]
   have hU2:σ2.toUs=U:=he2.us.trans hU
   refine(K σ2 hU2).wp s2 (RR.mono' hs2.le hr) (Nat.le_trans hmm hs2.size) hd2 fun σ1 he1 z hz ρ1 a1 w1 s1 hd1 hs1=>?_
   have hU1:σ1.toUs=U:=he1.us.trans hU2
   have he01:Ext H.nv σ σ1:=he2.trans hnv he1
   have hs01:SimF ρ H w ρ1 z.2.2 w1:=@SimF.trans σ _ _ _ _ _ _ _ _ _ hd hs2 hs1
   obtain⟨e,F1,H1⟩:=z
   cases e with
   | nrm =>
    obtain⟨w1v,g1,g2⟩:=R1 F1 H1 hz
    obtain⟨m1,e1,e2,e3,e4⟩:=bal g1
    subst e4
    have hhy1:=@HRel.hy σ1 _ _ _ (@SRel.hp σ1 _ _ _ _ _ _ s1)
    obtain⟨hpos,hrest⟩:=amf hU1 (fun z hz=>hv2 z (g2 z hz)) hhy1
    obtain⟨hdec,hrest⟩:=amf hU1 hrest hhy1
    have hhold:@Holds (σ1.sub m1.nv m1.l) H2.hy:=bdy hU1 hrest hhy1
    obtain⟨ρ2',s2',hs2',_,hk2',hg2'⟩:=bky e3 s1 hs01 hd (by rw [e1]) hhold
    refine ihk (σ1.sub m1.nv m1.l) ρ2' a1 w1 ?_ s2' hs2' (DfOK.view hk2' hg2' hd1) ?_
    ·exact he01.trans (Nat.le_of_eq (by rw [e2])) (bgo σ1 m1.nv m1.l)
    ·have hms:@den σ1 (h.ms F2 H2)=@den σ2 (h.ms F2 H2):=adz he1 _ hsc
     have hms2:@den (σ1.sub m1.nv m1.l) (h.ms F2 H2)=@den σ1 (m1.x (h.ms F2 H2)):=(apy σ1 m1.nv m1.l _).symm
     have p1:decide ((0:Int)≤(@den σ1 (m1.x (h.ms F2 H2))).iv)=true:=hpos
     have p2:decide ((@den σ1 (m1.x (h.ms F2 H2))).iv<(@den σ1 (h.ms F2 H2)).iv)=true:=hdec
     have p1:=of_decide_eq_true p1
     have p2:=of_decide_eq_true p2
     rw [hms2]
     rw [hms] at p2
     omega
   | ext id=>exact hq σ1 he01 _ (R2 _ hz (fun h=>by cases h)) ρ1 a1 w1 s1 hd1 hs01
   | rt=>exact hq σ1 he01 _ (R2 _ hz (fun h=>by cases h)) ρ1 a1 w1 s1 hd1 hs01
 have hhold:@Holds (σ.sub mp.nv mp.l) H2.hy:=bdy hU hv0 (@HRel.hy σ _ _ _ (@SRel.hp σ _ _ _ _ _ _ s))
 obtain⟨ρ2,s2,hs2,_,hk2,hg2⟩:=bky hview s (@SimF.refl σ _ _ _ _ _ _ s) hd (by rw [hne]) hhold
 exact wpIn_loop_rounds _ (key ((@den (σ.sub mp.nv mp.l) (h.ms F2 H2)).iv.toNat+1) _ ρ2 a w (by have:=bgo σ mp.nv mp.l;rw [hnvm] at this;rw [hnvm];exact this) s2 hs2 (DfOK.view hk2 hg2 df) (by omega))
theorem bpb{U:Us}{σ:Sg}(hU:σ.toUs=U){hy:List X}(hh:@Holds σ hy):∀ {l:List X},(∀ z∈asV hy l,VCok U z)→∀ x∈l,@Tru σ x
 | y::r,hv,x,hx=>by
  obtain⟨h1,h2⟩:=amf hU (show ∀ z∈azc hy y (asV hy r),VCok U z from hv) hh
  rcases Mn.1 hx with rfl | hx
  ·exact h1
  ·exact bpb hU hh h2 x hx
theorem akl(H:HP):∀ (l:List X),(H.learns l).t=H.t∧(H.learns l).n=H.n∧(H.learns l).lo=H.lo∧(H.learns l).nv=H.nv
 | []=>⟨rfl,rfl,rfl,rfl⟩
 | e::r=>akl H r
theorem a6h{H H':HP}:∀ {l:List X},Sc (H.learns l) H'→Sc H H'
 | [],h=>h
 | e::r,h=>a6h (l:=r) h.unlearn
theorem CodeOK.learns{σ:Sg}{c:Code}{F:Fm}{H:HP}{Z:Oc→Prop}:∀ {l:List X},(∀ x∈l,@Holds σ H.hy→@Tru σ x)→CodeOK σ P n m rb r c F (H.learns l) Z→CodeOK σ P n m rb r c F H Z
 | [],_,h=>h
 | e::l,hx,h=>by
  refine CodeOK.learns (l:=l) (fun x hm=>hx x (Mc _ hm)) ?_
  refine⟨fun x hz=>(h.st x hz).unlearn,fun {Q ρ a w m0} s hr hm df hq=>?_⟩
  have hh:@Holds σ H.hy:=fun x hm=>by
   have:∀ (l:List X),x∈(H.learns l).hy:=by
    intro l
    induction l with
    | nil=>exact hm
    | cons y l ih=>exact Mc _ ih
   exact(@SRel.hp σ _ _ _ _ _ _ s).hy x (this l)
  exact h.wp (@SRel.learn σ _ _ _ _ _ _ _ s (hx e (Ms ..) hh)) hr hm (DfOK.learn df) fun σ' he x hz ρ' a' w' s' d' hs=>hq σ' he x hz ρ' a' w' s' d' (@SimF.unlearn σ _ _ _ _ _ _ _ hs)
theorem a0o{orv:OraV}{ent:FuncId→Bool}(horv:akc U P orv)(hent:∀ g,ent g=true→∀ us w,(callFunc g us).run P w=.ok (.enter g us) w){f:Operand}{ps:Array Tmp}{assign body:Code}{k:Nat}(hk:U.lc k=⟨ps,assign,body⟩){F:Fm}{H:HP}{v:List VC}{l:List Oc}{g:FuncId}{caps:List AV}
  (ha:aua H rb=true) (h:a3s orv ent n k F H g caps=some (v,l)) (hv:∀ z∈v,VCok U z) (σ:Sg) (hU:σ.toUs=U) (hev:∀ {ρ:PM} {a:Act} {w:World},@SRel σ n ρ F H a w→∃ us:Array Value,a.eval f=.func (.func g) #[] us∧All2 (@VRel σ ρ) caps us.toList) :
  CodeOK σ P n m rb r (.rangeFunc f ps assign body) F H (·∈l):=by
 unfold a3s at h
 split at h
 rotate_left
 ·cases h
 rename_i hgs
 rw [Ba] at hgs
 obtain⟨hg,hsc⟩:=hgs
 split at h
 rotate_left
 ·cases h
 rename_i v1 outs hout
 split at h
 rotate_left
 ·cases h
 rename_i l1 hall
 cases h
 obtain⟨hst,hcall⟩:=horv _ _ _ _ _ hout hv
 obtain⟨hlen,hget⟩:=ags hall
 have hmem:∀ x∈l,∃ o∈outs,av6 F H.n o=some x:=by
  intro x hx
  obtain⟨i,hi⟩:=List.getElem?_of_mem hx
  have:=hget i x hi
  rw [List.getElem?_map] at this
  cases ho:outs[i]? with
  | none=>rw [ho] at this;cases this
  | some o =>
   rw [ho] at this
   simp only [Option.map_some,Oi] at this
   exact⟨o,List.mem_of_getElem? ho,this⟩
 have hmem':∀ o∈outs,∃ x∈l,av6 F H.n o=some x:=by
  intro o ho
  obtain⟨i,hi⟩:=List.getElem?_of_mem ho
  have hlt:i<l.length:=by rw [← hlen,List.length_map];exact(Ls.1 hi).1
  have:=hget i l[i] (Gl hlt)
  rw [List.getElem?_map,hi] at this
  simp only [Option.map_some,Oi] at this
  exact⟨_,List.getElem_mem hlt,this⟩
 have hend:∀ {o:AV×HP} {x:Oc},av6 F H.n o=some x→∃ l1,aiv o.2 H.n=some l1∧l1.st≠.busy∧x.2.1=F∧x.2.2=(o.2.obj H.n (LoopC.ct { l1 with st:=.exhausted })).drop H.n ∧
   ((x.1=.nrm∧l1.pend=none)∨(x.1=.rt∧l1.pend=some .ret)∨∃ id,x.1=.ext id∧l1.pend=some (.exit id)):=by
  intro o x hx
  unfold av6 at hx
  split at hx
  ·rename_i l1 hl1
   split at hx
   ·cases hx
   ·rename_i hnb
    split at hx
    ·rename_i hp;cases hx;exact⟨l1,hl1,hnb,rfl,rfl,.inl ⟨rfl,hp⟩⟩
    ·rename_i hp;cases hx;exact⟨l1,hl1,hnb,rfl,rfl,.inr (.inl ⟨rfl,hp⟩)⟩
    ·rename_i id hp;cases hx;exact⟨l1,hl1,hnb,rfl,rfl,.inr (.inr ⟨id,rfl,hp⟩)⟩
    ·cases hx
  ·cases hx
 refine⟨fun x hx=>?_,fun {Q ρ a w m0} s hr hm df hq=>?_⟩
 ·obtain⟨o,ho,hx⟩:=hmem x hx
  obtain⟨l1,_,_,_,h2,_⟩:=hend hx
  rw [h2]
  exact(((St.push _ _).sc.trans (hst o ho)).trans (St.obj _ _ _).sc).trans (St.drop _ _).sc
 ·have hfr:=@SRel.fr σ _ _ _ _ _ _ s
  have hdm:=@SRel.dom σ _ _ _ _ _ _ s
  have hjj:=@SRel.j σ _ _ _ _ _ _ s
  refine wpIn_rangeFunc fun fn _=>?_
  obtain⟨us,hus,hcaps⟩:=hev s
  obtain⟨lz,mark,w₁,ρ1,he,hs1,hρ1,df1⟩:=@bl1 σ P _ n H w ρ F a rb r m0 ps assign body k (by show σ.toUs.lc k=_;rw [hU];exact hk) s hr ha hm df fn
  have hround:(WF r).round=r:=rfl
  refine⟨lz,mark,w₁,⟨.fn (.func g) us,#[.func (.yield lz) #[] #[]]⟩,w₁,g,#[.func (.yield lz) #[] #[]]++us,w₁,by rw [hround];exact he,?_,fun f' _=>trivial,?_,fun hh=>by simp [WF,Fence.wide] at hh,?_⟩
  ·simp [resolve,hus,Deferred.ofValue]
   rfl
  ·show(callFunc g (#[.func (.yield lz) #[] #[]]++us)).run P w₁=_
   exact hent g hg _ _
  ·refine azh.2 ?_
   have hs1f:=@Sim.f σ _ _ _ _ _ _ hs1
   have hc:=hcall σ hU ρ1 w₁ (#[.func (.yield lz) #[] #[]]++us) _ rfl (by
    rw [Array.toList_append]
    exact⟨⟨_,hρ1,rfl⟩,by simpa using hcaps.mono fun _ _=>@VRel.mono σ _ _ hs1f.le _ _⟩) (@Sim.rel σ _ _ _ _ _ _ hs1) hs1f.dom (hs1f.jj hjj)
   rw [hent g hg] at hc
   refine Calls.mono hc fun e w3 ⟨u,he',o,ho,σ2,hext,ρ2,_,hs2,hrel2⟩=>?_
   subst he'
   obtain⟨x,hx,hxe⟩:=hmem' o ho
   obtain⟨l1,hl1,hnb,hF,hH,hcase⟩:=hend hxe
   have hL2:=hs2.le _ _ hρ1
   obtain⟨r1,g1,g2,g3,g4,g5,g6,g7⟩:=@ao2 σ2 _ _ _ _ _ _ hrel2 hL2 hl1
   have hrun:=run_endLoop (P:=P) g1 (by rw [g2];exact hnb)
   have hs3:=@Sim.record σ2 o.2 w3 ρ2 H.n l1 { l1 with st:=.exhausted } _ r1 { r1 with state:=.exhausted } hrel2 hs2.dom hL2 hl1 g1 ⟨rfl,rfl,rfl⟩ (by rw [← g3])
   have hs3f:=@Sim.f σ2 _ _ _ _ _ _ hs3
   have hs4:=@Sim.drop σ2 _ _ _ (@Sim.rel σ2 _ _ _ _ _ _ hs3) hs3f.dom H.n
   have hs4f:=@Sim.f σ2 _ _ _ _ _ _ hs4
   have hs14:=@SimF.trans σ _ _ _ _ _ _ _ _ _ hs1f.dom hs2 (@SimF.trans σ _ _ _ _ _ _ _ _ _ hs2.dom hs3f hs4f)
   have hall:=@SimF.trans σ _ _ _ _ _ _ _ _ _ hdm hs1f hs14
   have df4:=DfOK.a8b hs1f.dom hs14 df1
   have hext':Ext H.nv σ σ2:=hext
   have hfr2:=FRel.ext hext' hsc hfr
   have s4:@SRel σ2 n ρ2 F ((o.2.obj H.n (LoopC.ct { l1 with st:=.exhausted })).drop H.n) { a with defers:=mark++a.defers } (w3.putObj lz (.loop { r1 with state:=.exhausted })) :=
    @SRel.mk σ2 _ _ _ _ _ _ (@FRel.mk σ2 _ _ _ { a with defers:=mark++a.defers } (show a.tmps.size=n from @FRel.sz σ2 n ρ F a hfr2) fun t v hv=>let ⟨u,k1,k2⟩:=@FRel.get σ2 n ρ F a hfr2 t v hv;⟨u,k1,@VRel.mono σ2 _ _ hall.le _ _ k2⟩) (@Sim.rel σ2 _ _ _ _ _ _ hs4) hs4f.dom (hall.jj hjj)
   refine⟨r1.pending,_,hrun,?_⟩
   have hfin:=hq σ2 hext' x hx ρ2 { a with defers:=mark++a.defers } (w3.putObj lz (.loop { r1 with state:=.exhausted })) (by rw [hF,hH];exact s4) (by rw [hH];exact df4) (by rw [hH];exact hall)
   have key:∀ j,j=r1.pending→(match j with
     | none=>Q .normal { a with defers:=mark++a.defers } (w3.putObj lz (.loop { r1 with state:=.exhausted }))
     | some c=>c.wpIn (WF r) m P Q { a with defers:=mark++a.defers } (w3.putObj lz (.loop { r1 with state:=.exhausted }))):=by
    intro j hj
    rw [g3] at hj
    rcases hcase with ⟨h1,h2⟩ | ⟨h1,h2⟩ | ⟨id,h1,h2⟩
    ·rw [h2] at hj;subst hj;rw [h1] at hfin;exact hfin
    ·rw [h2] at hj;subst hj;rw [h1] at hfin;exact wpIn_ret hfin
    ·rw [h2] at hj;subst hj;rw [h1] at hfin;exact wpIn_exit hfin
   exact key _ rfl
structure CxOK (U:Us) (P:Program) (cx:Cx):Prop where
 ora:ahh U P cx.ora
 orv:akc U P cx.orv
 ent:∀ g,cx.ent g=true→∀ us w,(callFunc g us).run P w=.ok (.enter g us) w
theorem aos(hm:P.follows .mixedOrders=true)(hcx:CxOK U P cx):∀ (c:Code) {F:Fm} {H:HP} {v:List VC} {l:List Oc},acs c=true→adv U.lc cx.rk c→ami P cx n hs c F H=some (v,l)→(∀ z∈v,VCok U z)→∀ σ:Sg,σ.toUs=U →
  CodeOK σ P n m cx.rb r c F H (·∈l):=by
 intro c
 have triv:∀ {c:Code} {F:Fm} {H:HP} {e:Ex} (σ:Sg),(∀ {Q:Exit→Act→World→Prop} {a:Act} {w:World},Q e.out a w→c.wpIn (WF r) m P Q a w)→CodeOK σ P n m cx.rb r c F H (·∈[(e,F,H)]):=fun σ h =>
  ⟨fun x hx=>by rw [Mg.1 hx];exact Sc.refl _,fun s hr hm df hq=>h (hq σ (Ext.refl _ _) _ (Mg.2 rfl) _ _ _ s df (@SimF.refl σ _ _ _ _ _ _ s))⟩
 induction c with
 | skip=>intro F H v l _ _ h _ σ _;cases h;exact triv (e:=.nrm) σ wpIn_skip
 | label lb=>intro F H v l _ _ h _ σ _;cases h;exact triv (e:=.nrm) σ wpIn_label
 | exit id=>intro F H v l _ _ h _ σ _;cases h;exact triv (e:=.ext id) σ wpIn_exit
 | ret=>intro F H v l _ _ h _ σ _;cases h;exact triv (e:=.rt) σ wpIn_ret
 | goto lb=>intro F H v l _ _ h;cases h
 | refuse why=>intro F H v l _ _ h;cases h
 | rangeFunc f ps a b _ _ =>
  intro F H v l _ hrg h hv σ hU
  have h0:(match a6c b with
   | some id=>bje cx.orv cx.ent n cx.rb (cx.rk id) f F H
   | none=>none)=some (v,l):=h
  split at h0
  rotate_left
  ·cases h0
  rename_i id hid
  have hk:U.lc (cx.rk id)=⟨ps,a,b⟩:=hrg (id,⟨ps,a,b⟩) (by
   unfold afh
   rw [hid]
   exact Mg.2 rfl)
  unfold bje at h0
  split at h0
  ·rename_i g c d hf' ha
   split at h0
   ·rename_i hcd
    refine a0o hcx.orv hcx.ent hk hf' h0 hv σ hU fun {ρ ac w} s=>⟨#[],?_,trivial⟩
    have:=(@am3 σ _ _ _ _ (@SRel.fr σ _ _ _ _ _ _ s) _ _ ha).1
    rw [this,Array.eq_empty_of_size_eq_zero hcd.1,Array.eq_empty_of_size_eq_zero hcd.2]
   ·cases h0
  ·rename_i g caps hf' ha
   refine a0o hcx.orv hcx.ent hk hf' h0 hv σ hU fun {ρ ac w} s=>?_
   obtain⟨us,h1,h2⟩:=@am3 σ _ _ _ _ (@SRel.fr σ _ _ _ _ _ _ s) _ _ ha
   exact⟨us,h1,@ao7 σ ρ _ _ h2⟩
  ·cases h0
 | scope b ih =>
  intro F H v l hf hrg h hv σ hU
  have k1:=ih (F:=F) (H:=H) (v:=v) (l:=l) hf hrg h hv σ hU
  refine⟨k1.st,fun {Q ρ a w m0} s hr hm df hq=>bfd (k1.wp s hr hm df fun σ' he x hx ρ1 a1 w1 s1 hd1 hs1=>?_)⟩
  have:=hq σ' he x hx ρ1 a1 w1 s1 hd1 hs1
  obtain⟨e,F1,H1⟩:=x
  cases e<;>exact this
 | region id ops draw =>
  intro F H v l hf hrg h hv σ hU
  have h0:regI (regS P cx.ora cx.orv n ops draw cx.fk) (hs.as id F H) nrmO F H=some (v,l):=h
  unfold regI at h0
  split at h0
  ·rename_i v1 l1 hr
   cases h0
   have k1:=baf (m:=m) (rb:=cx.rb) (r:=r) (id:=id) hm hcx.ora hcx.orv σ hU hf cx.fk hr (fun z hz=>hv z (List.mem_append_right _ hz))
   have hhy0:(frzL (hs.as id F H) F H).2.hy=H.hy:=a1s
   have k2:=(CodeOK.learns (H:=(frzL (hs.as id F H) F H).2) (fun x hx hh=>bpb hU (by rw [hhy0] at hh;exact hh) (fun z hz=>hv z (List.mem_append_left _ hz)) x hx) k1).weaken (Z':=fun z=>z∈l1.map nrmO) (fun z ⟨x,hx,e⟩=>by rw [e];exact List.mem_map.2 ⟨x,hx,rfl⟩) (fun z hz=>by
    obtain⟨x,hx,e⟩:=List.mem_map.1 hz
    exact a6h (k1.st z ⟨x,hx,e.symm⟩))
   obtain⟨f1,f2⟩:=a1u (xs:=hs.as id F H) (F:=F) (H:=H)
   refine⟨fun z hz=>f1.trans (k2.st z hz),fun {Q ρ a w m0} s hr' hmm df hq=>?_⟩
   obtain⟨ρ1,s1,hs1,_⟩:=a1t (xs:=hs.as id F H) s
   refine k2.wp s1 (RR.mono' hs1.le hr') hmm (DfOK.a8b (@SRel.dom σ _ _ _ _ _ _ s) hs1 df) fun σ' he z hz ρ' a' w' s' hd' hs'=>?_
   exact hq σ' (by rw [f2] at he;exact he) z hz ρ' a' w' s' hd' (@SimF.trans σ _ _ _ _ _ _ _ _ _ (@SRel.dom σ _ _ _ _ _ _ s) hs1 hs')
  ·cases h0
 | seq x y ihx ihy =>
  intro F H v l hf hrg h hv σ hU
  simp only [acs,Ba] at hf
  obtain⟨v1,l1,h1,hv1,h2,h3,h4⟩:=a7x (show seqO (ami P cx n hs x F H) (ami P cx n hs y)=some (v,l) from h)
  have k1:=ihx hf.1 (fun z hz=>hrg z (List.mem_append_left _ hz)) h1 (fun z hz=>hv z (hv1 z hz)) σ hU
  refine⟨fun z hz=>?_,fun {Q ρ a w m0} s hr hmm df hq=>wpIn_seq (k1.wp s hr hmm df fun σ1 he1 z hz ρ1 a1 w1 s1 hd1 hs1=>?_)⟩
  ·rcases h4 z hz with ⟨F1,H1,v2,l2,h5,h6,h7⟩ | h5
   ·obtain⟨v3,l3,g1,_,g3⟩:=h2 F1 H1 h5
    rw [h6] at g1
    cases g1
    exact(k1.st _ h5).trans ((ihy hf.2 (fun z hz=>hrg z (List.mem_append_right _ hz)) h6 (fun z hz=>hv z (g3 z hz)) σ hU).st z h7)
   ·exact k1.st z h5
  ·obtain⟨e,F1,H1⟩:=z
   cases e with
   | nrm =>
    obtain⟨v2,l2,h5,h6,h7⟩:=h2 F1 H1 hz
    refine(ihy hf.2 (fun z hz=>hrg z (List.mem_append_right _ hz)) h5 (fun z hz=>hv z (h7 z hz)) σ1 (he1.us.trans hU)).wp s1 (RR.mono' hs1.le hr) (Nat.le_trans hmm hs1.size) hd1 fun σ2 he2 y hy ρ2 a2 w2 s2 hd2 hs2=>?_
    exact hq σ2 (he1.trans (k1.st _ hz).2.2 he2) y (h6 y hy) ρ2 a2 w2 s2 hd2 (@SimF.trans σ _ _ _ _ _ _ _ _ _ (@SRel.dom σ _ _ _ _ _ _ s) hs1 hs2)
   | ext id=>exact hq σ1 he1 _ (h3 _ hz (fun h=>by cases h)) ρ1 a1 w1 s1 hd1 hs1
   | rt=>exact hq σ1 he1 _ (h3 _ hz (fun h=>by cases h)) ρ1 a1 w1 s1 hd1 hs1
 | cond c x y ihx ihy =>
  intro F H v l hf hrg h hv σ hU
  simp only [acs,Ba] at hf
  have h':brg (evF F c) F H (ami P cx n hs x) (ami P cx n hs y)=some (v,l):=h
  have one:∀ (b:Bool) {F':Fm} {H':HP} {Z:Oc→Prop},(∀ ρ a w,@SRel σ n ρ F' H' a w→a.eval c=.bool b)→CodeOK σ P n m cx.rb r (bif b then x else y) F' H' Z→CodeOK σ P n m cx.rb r (.cond c x y) F' H' Z:=fun b F' H' Z hev k1 =>
   ⟨k1.st,fun {Q ρ a w m0} s hr hmm df hq=>wpIn_cond (t:=b) (hev ρ a w s) (by have:=k1.wp s hr hmm df hq;cases b<;>exact this)⟩
  unfold brg at h'
  split at h'
  ·rename_i hc
   exact one true (fun ρ a w s=>(@am3 σ _ _ _ _ (@SRel.fr σ _ _ _ _ _ _ s) _ _ hc).1) (ihx hf.1 (fun z hz=>hrg z (List.mem_append_left _ hz)) h' hv σ hU)
  ·rename_i hc
   exact one false (fun ρ a w s=>(@am3 σ _ _ _ _ (@SRel.fr σ _ _ _ _ _ _ s) _ _ hc).1) (ihy hf.2 (fun z hz=>hrg z (List.mem_append_right _ hz)) h' hv σ hU)
  ·rename_i G e hc
   have hev:∀ ρ a w,@SRel σ n ρ F H a w→a.eval c=.bool (@den σ e).bv:=fun ρ a w s=>@bav σ _ _ _ _ (@am3 σ _ _ _ _ (@SRel.fr σ _ _ _ _ _ _ s) _ _ hc)
   split at h'
   ·rename_i hk
    refine one true (fun ρ a w s=>?_) (ihx hf.1 (fun z hz=>hrg z (List.mem_append_left _ hz)) h' hv σ hU)
    rw [hev ρ a w s,@ajb σ _ (@HRel.hy σ _ _ _ (@SRel.hp σ _ _ _ _ _ _ s)) _ _ hk]
   ·rename_i hk
    refine one false (fun ρ a w s=>?_) (ihy hf.2 (fun z hz=>hrg z (List.mem_append_right _ hz)) h' hv σ hU)
    rw [hev ρ a w s,@ajb σ _ (@HRel.hy σ _ _ _ (@SRel.hp σ _ _ _ _ _ _ s)) _ _ hk]
   ·unfold bvk at h'
    split at h'
    ·rename_i a b c' d hx hy
     cases h'
     have k1:=ihx hf.1 (fun z hz=>hrg z (List.mem_append_left _ hz)) hx (fun z hz=>hv z (List.mem_append_left _ hz)) σ hU
     have k2:=ihy hf.2 (fun z hz=>hrg z (List.mem_append_right _ hz)) hy (fun z hz=>hv z (List.mem_append_right _ hz)) σ hU
     have h1:CodeOK σ P n m cx.rb r (.cond c x y) F (H.learn e) (·∈b)∨(@den σ e).bv=false:=by
      cases hb:(@den σ e).bv with
      | true=>exact .inl (one true (fun ρ a w s=>by rw [hev ρ a w (@SRel.unlearn σ _ _ _ _ _ _ _ s),hb]) k1)
      | false=>exact .inr rfl
     have h2:CodeOK σ P n m cx.rb r (.cond c x y) F (H.learn (notX e)) (·∈d)∨(@den σ e).bv=true:=by
      cases hb:(@den σ e).bv with
      | false=>exact .inl (one false (fun ρ a w s=>by rw [hev ρ a w (@SRel.unlearn σ _ _ _ _ _ _ _ s),hb]) k2)
      | true=>exact .inr rfl
     have fls:∀ {e':X} {Z:Oc→Prop},(@den σ e').bv=false→(∀ z,Z z→Sc (H.learn e') z.2.2)→CodeOK σ P n m cx.rb r (.cond c x y) F (H.learn e') Z:=fun hb hst =>
      ⟨hst,fun s _ _ _ _=>by
       have:=@HRel.hy σ _ _ _ (@SRel.hp σ _ _ _ _ _ _ s) _ (Ms ..)
       rw [show @Tru σ _=((@den σ _).bv=true) from rfl,hb] at this
       cases this⟩
     have h1':CodeOK σ P n m cx.rb r (.cond c x y) F (H.learn e) (·∈b):=by
      rcases h1 with h1 | h1
      ·exact h1
      ·exact fls h1 k1.st
     have h2':CodeOK σ P n m cx.rb r (.cond c x y) F (H.learn (notX e)) (·∈d):=by
      rcases h2 with h2 | h2
      ·exact h2
      ·exact fls (@brs σ e h2) k2.st
     refine(CodeOK.fork h1' h2').weaken (fun z hz=>List.mem_append.2 hz) fun z hz=>?_
     rcases List.mem_append.1 hz with hz | hz
     ·exact(k1.st z hz).unlearn
     ·exact(k2.st z hz).unlearn
    ·cases h'
  ·cases h'
 | block id x ih =>
  intro F H v l hf hrg h hv σ hU
  have h':bfw id (ami P cx n hs x F H)=some (v,l):=h
  unfold bfw at h'
  split at h'
  ·rename_i v1 l1 hx
   cases h'
   have k1:=ih hf hrg hx hv σ hU
   have hH:∀ y:Oc,(aub id y).2=y.2:=by
    rintro⟨e,F1,H1⟩
    cases e with
    | nrm=>rfl
    | rt=>rfl
    | ext id' =>
     show(match Nat.beq id' id with | true=>((.nrm,F1,H1):Oc) | false=>(.ext id',F1,H1)).2=(F1,H1)
     split<;>rfl
   refine⟨fun z hz=>?_,fun {Q ρ a w m0} s hr hm df hq=>wpIn_block (k1.wp s hr hm df fun σ' he y hy ρ1 a1 w1 s1 hd1 hs1=>?_)⟩
   ·obtain⟨y,hy,rfl⟩:=List.mem_map.1 hz
    rw [hH]
    exact k1.st y hy
   ·have:=hq σ' he _ (List.mem_map.2 ⟨y,hy,rfl⟩) ρ1 a1 w1 (by rw [hH];exact s1) (by rw [hH];exact hd1) (by rw [hH];exact hs1)
    obtain⟨e,F1,H1⟩:=y
    cases e with
    | nrm=>exact this
    | rt=>exact this
    | ext id' =>
     by_cases hb:id'=id
     ·subst hb
      have hone:aub id' (.ext id',F1,H1)=(.nrm,F1,H1):=by
       show(match Nat.beq id' id' with | true=>((.nrm,F1,H1):Oc) | false=>(.ext id',F1,H1))=_
       rw [Nat.beq_refl]
      rw [hone] at this
      simp only [Ex.out,Exit.inBlock,if_true]
      exact this
     ·have hone:aub id (.ext id',F1,H1)=(.ext id',F1,H1):=by
       show(match Nat.beq id' id with | true=>((.nrm,F1,H1):Oc) | false=>(.ext id',F1,H1))=_
       have:Nat.beq id' id=false:=by rw [Bool.eq_false_iff];intro h;exact hb (Nb h)
       rw [this]
      rw [hone] at this
      simp only [Ex.out,Exit.inBlock,hb,if_false]
      exact this
  ·cases h'
 | loop x ih =>
  intro F H v l hf hrg h hv σ hU
  have h':(match a6c x with
   | some id=>match hs.lh id with
    | some hh=>bmv hh (ami P cx n hs x) F H
    | none=>bmx (ami P cx n hs x) cx.fuel F H
   | none=>none)=some (v,l):=h
  split at h'
  rotate_left
  ·cases h'
  split at h'
  ·exact bmw h' hv (fun h1 h2 σ1 hU1=>ih hf hrg h1 h2 σ1 hU1) σ hU
  ·have key:∀ (k:Nat) {F:Fm} {H:HP} {v:List VC} {l:List Oc},bmx (ami P cx n hs x) k F H=some (v,l)→(∀ z∈v,VCok U z)→∀ σ:Sg,σ.toUs=U→(∀ z∈l,Sc H z.2.2)∧∀ {Q:Exit→Act→World→Prop} {ρ:PM} {a:Act} {w:World} {m0:Nat},@SRel σ n ρ F H a w→RR ρ cx.rb r→m0≤w.heap.size→DfOK ρ H w m0 a.defers →
     (∀ σ',Ext H.nv σ σ'→∀ z∈l,∀ ρ' a' w',@SRel σ' n ρ' z.2.1 z.2.2 a' w'→DfOK ρ' z.2.2 w' m0 a'.defers→SimF ρ H w ρ' z.2.2 w'→Q z.1.out a' w')→Code.roundsIn (WF r) m P x Q k a w:=by
    intro k
    induction k with
    | zero=>intro F H v l h;cases h
    | succ k ihk =>
     intro F H v l h hv σ hU
     obtain⟨v1,l1,h1,hv1,h2,h3,h4⟩:=a7x (show seqO (ami P cx n hs x F H) (bmx (ami P cx n hs x) k)=some (v,l) from h)
     have k1:=ih hf hrg h1 (fun z hz=>hv z (hv1 z hz)) σ hU
     refine⟨fun z hz=>?_,fun {Q ρ a w m0} s hr hmm df hq=>?_⟩
     ·rcases h4 z hz with ⟨F1,H1,v2,l2,h5,h6,h7⟩ | h5
      ·obtain⟨v3,l3,g1,_,g3⟩:=h2 F1 H1 h5
       rw [h6] at g1
       cases g1
       exact(k1.st _ h5).trans ((ihk h6 (fun z hz=>hv z (g3 z hz)) σ hU).1 z h7)
      ·exact k1.st z h5
     ·rw [roundsIn_succ]
      refine k1.wp s hr hmm df fun σ1 he1 z hz ρ1 a1 w1 s1 hd1 hs1=>?_
      obtain⟨e,F1,H1⟩:=z
      cases e with
      | nrm =>
       obtain⟨v2,l2,h5,h6,h7⟩:=h2 F1 H1 hz
       exact(ihk h5 (fun z hz=>hv z (h7 z hz)) σ1 (he1.us.trans hU)).2 s1 (RR.mono' hs1.le hr) (Nat.le_trans hmm hs1.size) hd1 fun σ2 he2 y hy ρ2 a2 w2 s2 hd2 hs2 =>
        hq σ2 (he1.trans (k1.st _ hz).2.2 he2) y (h6 y hy) ρ2 a2 w2 s2 hd2 (@SimF.trans σ _ _ _ _ _ _ _ _ _ (@SRel.dom σ _ _ _ _ _ _ s) hs1 hs2)
      | ext id=>exact hq σ1 he1 _ (h3 _ hz (fun h=>by cases h)) ρ1 a1 w1 s1 hd1 hs1
      | rt=>exact hq σ1 he1 _ (h3 _ hz (fun h=>by cases h)) ρ1 a1 w1 s1 hd1 hs1
   obtain⟨k1,k2⟩:=key cx.fuel h' hv σ hU
   exact⟨k1,fun {Q ρ a w m0} s hr hmm df hq=>wpIn_loop_rounds cx.fuel (k2 s hr hmm df hq)⟩
end
end Go.Sx
