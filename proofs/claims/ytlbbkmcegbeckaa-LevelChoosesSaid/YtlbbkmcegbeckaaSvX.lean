/-
  A second abstract evaluator of the model's code: regions that draw their order: what holds, whatever has been carried out. Conditions: none; nothing here speaks of one program.
-/
import Derived.Test.YtlbbkmcegbeckaaSuA
set_option linter.all false
set_option maxRecDepth 100000
noncomputable section
namespace Go.Sx
variable [Sg]
inductive Cls where
 | A
 | L (b:Nat)
 | N
 | S (b:Nat)
 | T (b:Nat)
 | X
 | M (b:Nat)
 | Y (b:Nat) (s:Nat→Bool)
def Cls.loud:Cls→Bool
 | .S _=>true
 | .T _=>true
 | .X=>true
 | .Y _ _=>true
 | _=>false
def Cls.makes:Cls→Bool
 | .N=>true
 | .T _=>true
 | .X=>true
 | .Y _ _=>true
 | _=>false
structure Tr where
 v:AV
 F:Fm
 H:HP
 c:Cls
noncomputable section
end
section
variable {P:Program} [Plain P] {E:Operand→Option AV} {H H':HP} {v:AV} {ora:Ora}
theorem bq2{op:Op}{b:Nat}(hb:appT E op=some b)(h:ad5 P ora E H op=some (v,H')):∀ b',b'≠b→b'<H.n→H'.t.get b'=H.t.get b':=by
 unfold ad5 at h
 rw [bok hb] at h
 rcases adu h with h | ⟨_,h⟩
 rotate_left
 ·exact boj hb h
 unfold appT at hb
 split at hb
 ·rename_i args ats
  cases h
 ·cases hb
end
noncomputable section
def ava(F:Fm)(x:Operand):Cls :=
 match evF F x with
 | some a=>match ptrB a with
  | some b=>.L b
  | none=>.X
 | none=>.X
def aor(F:Fm)(x:Operand):Cls :=
 match evF F x with
 | some a=>match ptrB a with
  | some b=>.S b
  | none=>.X
 | none=>.X
def clsA(F:Fm)(n lo:Nat)(op:Op)(H G:HP):Cls :=
 match awi (evF F) op with
 | true=>.A
 | false=>match op with
  | .load _ x=>ava F x
  | .store _ x _=>aor F x
  | _=>match Nat.ble n lo with
   | true=>.N
   | false=>match appT (evF F) op with
    | some b=>.T b
    | none=>.Y G.lo (aph H G)
def okL(c:Cls)(n:Nat)(v:AV):Bool :=
 match c with
 | .L _=>v.below n
 | _=>true
def HP.fresh(H:HP):HP:=⟨H.t,H.n,H.n,H.hy,H.nv⟩
def HP.lower(G:HP)(lo:Nat):HP:=⟨G.t,G.n,minN lo G.lo,G.hy,G.nv⟩
def bu6(op:Op):Option TypeId :=
 Op.rec (motive:=fun _=>Option TypeId)
  (fun _=>none)
  (fun _=>none)
  (fun _ _ _=>none)
  (fun t=>some t)
  (fun _ _=>none)
  (fun _ _=>none)
  (fun _ _ _=>none)
  (fun _ _ _ _=>none)
  (fun _ _=>none)
  (fun _ _ _=>none)
  (fun _=>none)
  (fun _=>none)
  (fun _=>none)
  (fun _ _ _ _ _=>none)
  (fun _ _ _=>none)
  (fun _ _ _=>none)
  (fun _ _=>none)
  (fun _ _=>none)
  (fun _ _ _=>none)
  (fun _ _=>none)
  (fun _ _=>none)
  (fun _ _ _=>none)
  (fun _ _ _ _ _=>none)
  (fun _ _ _=>none)
  (fun _ _ _=>none)
  (fun _ _ _=>none)
  (fun _ _ _=>none)
  (fun _ _ _ _=>none)
  (fun _ _ _ _=>none)
  (fun _ _ _=>none)
  (fun _ _ _ _=>none)
  (fun _ _=>none)
  (fun _ _=>none)
  (fun _=>none)
  (fun _ _ _ _=>none)
  (fun _ _=>none)
  (fun _=>none)
  (fun _=>none)
  (fun _=>none)
  (fun _=>none)
  (fun _ _=>none)
  (fun _ _ _=>none)
  (fun _ _=>none) op
def litC(c:Cel):Bool :=
 match c with
 | .lit _=>true
 | _=>false
def bsa(v:AV):Bool :=
 match v with
 | .one c=>litC c
 | .agg xs=>xs.all litC
 | .tup _=>false
def bxb(F:Fm)(x:Operand):Bool :=
 match evF F x with
 | some a=>bsa a
 | none=>true
def a9y(P:Program)[Plain P](ora:Ora)(F:Fm)(m:Nat)(op:Op):Option (AV×Bk) :=
 match op.operands.toList.all (bxb F) with
 | true=>match ad5 P ora (evF F) ⟨.nil,m,0,[],0⟩ op with
  | some (v,G)=>match Nat.beq G.n (Nat.succ m),G.t.get m with
   | true,some k=>some (v,k)
   | _,_=>none
  | none=>none
 | false=>none
def ay3(l:List (Option Bk)):Option Bk :=
 match l with
 | a::_=>a
 | []=>none
def azb(l:List (Option Bk)):List (Option Bk) :=
 match l with
 | _::r=>r
 | []=>[]
def layA:List (Option Bk)→HP→HP
 | [],H=>H
 | some k::r,H=>layA r (H.push k)
 | none::r,H=>layA r H
def pre0(P:Program)[Plain P]:List Oper→List (Option Bk)
 | []=>[]
 | o::r=>(match bu6 o.op with
  | some t=>match a6q P ⟨.nil,0,0,[],0⟩ t with
   | some (_,G)=>G.t.get 0
   | none=>none
  | none=>none)::pre0 P r
def pre1(P:Program)[Plain P](ora:Ora):List Oper→List (Option Bk)→List Tr→List (Option Bk)
 | o::r,l,t::tr=>(match ay3 l with
  | some k=>some k
  | none=>match t.c with
   | .N=>match a9y P ora t.F 0 o.op with
    | some (_,k)=>some k
    | none=>none
   | _=>none)::pre1 P ora r (azb l) tr
 | _,_,_=>[]
def avh(P:Program)[Plain P](ora:Ora)(n:Nat)(ops:List Oper):List Oper→List (Option Bk)→Nat→Fm→HP→Option (List Tr×Fm×HP)
 | [],_,_,F,H=>some ([],F,H)
 | o::rest,pl,m,F,H =>
  match ay3 pl with
  | some k0 =>
   match ayv H.hy ops F o.guard with
   | some true =>
    match a9y P ora F m o.op with
    | some (v,k) =>
     match eqBk k k0,putF n F o.dst v with
     | true,some F' =>
      match avh P ora n ops rest (azb pl) (Nat.succ m) F' H with
      | some (tr,r)=>some (⟨v,F,H,.M m⟩::tr,r)
      | none=>none
     | _,_=>none
    | none=>none
   | some false =>
    match putF n F o.dst aho with
    | some F' =>
     match avh P ora n ops rest (azb pl) (Nat.succ m) F' H with
     | some (tr,r)=>some (⟨aho,F,H,.A⟩::tr,r)
     | none=>none
    | none=>none
   | none=>none
  | none =>
   match ayv H.hy ops F o.guard with
   | some true =>
    match a8b o.op P inferInstance ora (evF F) H.fresh with
    | some (v,G) =>
     match okL (clsA F H.n G.lo o.op H G) H.n v,putF n F o.dst v with
     | true,some F' =>
      match avh P ora n ops rest (azb pl) m F' (G.lower H.lo) with
      | some (tr,r)=>some (⟨v,F,H,clsA F H.n G.lo o.op H G⟩::tr,r)
      | none=>none
     | _,_=>none
    | none=>none
   | some false =>
    match putF n F o.dst aho with
    | some F' =>
     match avh P ora n ops rest (azb pl) m F' H with
     | some (tr,r)=>some (⟨aho,F,H,.A⟩::tr,r)
     | none=>none
    | none=>none
   | none=>none
def ancB(B:List Nat)(i j:Nat):Bool:=(B.getD j 0).testBit i
def agi(B:List Nat)(i j:Nat)(c d:Cls):Bool :=
 match c,d with
 | .A,_=>true
 | _,.A=>true
 | .M _,_=>true
 | _,.M _=>true
 | .N,.N=>true
 | .N,.L _=>true
 | .L _,.N=>true
 | .L _,.L _=>true
 | .S b,.L b'=>!(Nat.beq b b')||ancB B i j
 | .T b,.L b'=>!(Nat.beq b b')||ancB B i j
 | .L b,.T b'=>!(Nat.beq b b')||ancB B i j
 | .L b,.S b'=>!(Nat.beq b b')||ancB B i j
 | .Y _ s,.L b'=>ancB B i j||s b'
 | .L b,.Y _ s=>ancB B i j||s b
 | _,_=>ancB B i j
def a5l(B:List Nat)(i:Nat)(c:Cls):List Tr→Nat→Bool
 | [],_=>true
 | t::r,j=>agi B i j c t.c&&a5l B i c r (Nat.succ j)
def a5j(B:List Nat):List Tr→Nat→Bool
 | [],_=>true
 | t::r,i=>(match t.c with
  | .A=>true
  | c=>a5l B i c r (Nat.succ i))&&a5j B r (Nat.succ i)
def quietAt(B:List Nat)(b i:Nat)(H':HP):List Tr→Nat→Bool
 | [],_=>true
 | t::r,k=>(!(t.c.loud)||(ancB B i k||eqOB (t.H.t.get b) ((match r with | []=>H' | t2::_=>t2.H).t.get b)))&&quietAt B b i H' r (Nat.succ k)
def cmpM(B:List Nat)(all:List Tr)(H':HP):List Tr→Nat→Bool
 | [],_=>true
 | t::r,i=>(match t.c with
  | .M b=>quietAt B b i H' all 0
  | _=>true)&&cmpM B all H' r (Nat.succ i)
def blx(P:Program)[Plain P](ora:Ora)(n:Nat)(ops:List Oper)(pl:List (Option Bk))(F:Fm)(H:HP):Option (List Tr×Fm×HP) :=
 avh P ora n ops ops pl H.n F (layA pl H)
def okT(ops:List Oper)(tr:List Tr)(H':HP):Bool:=a5j (befs ops) tr 0&&cmpM (befs ops) tr H' tr 0
def bgd(P:Program)[Plain P](ora:Ora)(n:Nat)(ops:List Oper)(F:Fm)(H:HP):Option (Fm×HP) :=
 match blx P ora n ops (pre0 P ops) F H with
 | some (tr,r)=>match okT ops tr r.2 with
  | true=>some r
  | false=>match blx P ora n ops (pre1 P ora ops (pre0 P ops) tr) F H with
   | some (tr2,r2)=>match okT ops tr2 r2.2 with
    | true=>some r2
    | false=>none
   | none=>none
 | none=>none
end
def bpa(P:Program)[Plain P](ora:Ora)(n:Nat)(ops:List Oper)(o:Oper)(v:AV)(c:Cls)(F:Fm)(H:HP)(F1:Fm)(H1:HP):Prop :=
 (ayv H.hy ops F o.guard=some false∧v=aho∧c=.A∧H1=H∧putF n F o.dst aho=some F1) ∨
 (ayv H.hy ops F o.guard=some true∧∃ G,ad5 P ora (evF F) H.fresh o.op=some (v,G)∧H1=G.lower H.lo∧putF n F o.dst v=some F1∧c=clsA F H.n G.lo o.op H G∧okL c H.n v=true) ∨
 (∃ b k,a9y P ora F b o.op=some (v,k)∧ayv H.hy ops F o.guard=some true∧c=.M b∧H1=H∧putF n F o.dst v=some F1)
def cntA(l:List (Option Bk)):Nat:=l.countP (·.isSome)
def Hat(tr:List Tr)(H':HP)(k:Nat):HP:=((tr[k]?).map (·.H)).getD H'
def Fat(tr:List Tr)(F':Fm)(k:Nat):Fm:=((tr[k]?).map (·.F)).getD F'
def Vat(tr:List Tr)(k:Nat):AV:=((tr[k]?).map (·.v)).getD aho
def Cat(tr:List Tr)(k:Nat):Cls:=((tr[k]?).map (·.c)).getD .A
section
variable {P:Program} [Plain P] {ora:Ora} {n:Nat} {ops:List Oper}
theorem agk(F:Fm)(x:Operand):ava F x=.X∨∃ a b,evF F x=some a∧ptrB a=some b∧ava F x=.L b:=by
 unfold ava
 cases h:evF F x with
 | none=>exact .inl rfl
 | some a=>cases h2:ptrB a with
  | none=>exact .inl (by simp [h2])
  | some b=>exact .inr ⟨a,b,rfl,h2,by simp [h2]⟩
theorem ad6(F:Fm)(x:Operand):aor F x=.X∨∃ a b,evF F x=some a∧ptrB a=some b∧aor F x=.S b:=by
 unfold aor
 cases h:evF F x with
 | none=>exact .inl rfl
 | some a=>cases h2:ptrB a with
  | none=>exact .inl (by simp [h2])
  | some b=>exact .inr ⟨a,b,rfl,h2,by simp [h2]⟩
theorem blr{F:Fm}{n lo:Nat}{op:Op}{H G:HP}{b:Nat}(h:clsA F n lo op H G=.M b):False:=by
 unfold clsA at h
 split at h
 ·cases h
 ·split at h
  ·rename_i t x _
   rcases agk F x with h1 | ⟨_,_,_,_,h1⟩<;>(rw [h1] at h;cases h)
  ·rename_i t x y _
   rcases ad6 F x with h1 | ⟨_,_,_,_,h1⟩<;>(rw [h1] at h;cases h)
  ·repeat' (split at h)
   all_goals cases h
theorem bmg{pl:List (Option Bk)}{a:Bk}(h:ay3 pl=some a):pl[0]? = some (some a):=by
 cases pl with
 | nil=>cases h
 | cons x r=>simp only [ay3] at h;subst h;rfl
theorem ave(pl:List (Option Bk))(k:Nat):cntA (pl.take (k+1))=(if(ay3 pl).isSome then 1 else 0)+cntA ((azb pl).take k):=by
 cases pl with
 | nil=>simp [cntA,ay3,azb]
 | cons x r =>
  unfold cntA
  rw [List.take_succ_cons,List.countP_cons,Nat.add_comm]
  rfl
theorem auq(pl:List (Option Bk))(k:Nat):(azb pl)[k]? = pl[k+1]?:=by cases pl<;>rfl
theorem agv:∀ (rest:List Oper) {pl:List (Option Bk)} {m:Nat} {F F':Fm} {H H':HP} {tr:List Tr},avh P ora n ops rest pl m F H=some (tr,F',H') →
  tr.length=rest.length∧Hat tr H' 0=H∧Fat tr F' 0=F ∧
   (∀ k o,rest[k]? = some o→bpa P ora n ops o (Vat tr k) (Cat tr k) (Fat tr F' k) (Hat tr H' k) (Fat tr F' (k+1)) (Hat tr H' (k+1))) ∧
   ∀ k b,Cat tr k=.M b→∃ o k0,rest[k]? = some o∧pl[k]? = some (some k0)∧a9y P ora (Fat tr F' k) b o.op=some (Vat tr k,k0)∧b=m+cntA (pl.take k)
 | [],pl,m,F,F',H,H',tr,h=>by cases h;exact⟨rfl,rfl,rfl,fun k o h=>by simp at h,fun k b h=>by cases h⟩
 | o::rest,pl,m,F,F',H,H',tr,h=>by
  have cnt0:=ave pl
  simp only [avh] at h
  split at h
  ·rename_i k0 ht
   have hcs:(ay3 pl).isSome=true:=by rw [ht];rfl
   split at h
   ·rename_i hw
    split at h
    ·rename_i v kk hmk
     split at h
     ·rename_i F1 heq hput
      split at h
      ·rename_i tr1 r hr
       cases h
       obtain rfl:=aou heq
       obtain⟨h1,h2,h3,h4,h5⟩:=agv rest hr
       refine⟨by simp [h1],rfl,rfl,fun k o' ho=>?_,fun k b hb=>?_⟩
       ·cases k with
        | zero =>
         simp only [List.getElem?_cons_zero,Oi] at ho
         subst ho
         exact .inr (.inr ⟨m,kk,hmk,hw,rfl,h2,by
          show putF n F o.dst v=some (Fat tr1 F' 0)
          rw [h3];exact hput⟩)
        | succ k =>
         simp only [List.getElem?_cons_succ] at ho
         exact h4 k o' ho
       ·cases k with
        | zero =>
         cases hb
         exact⟨o,kk,rfl,bmg ht,hmk,by rw [List.take_zero];rfl⟩
        | succ k =>
         obtain⟨o',t',g1,g2,g3,g4⟩:=h5 k b hb
         exact⟨o',t',by simpa using g1,by rw [← auq];exact g2,g3,by rw [cnt0,if_pos hcs,g4];omega⟩
      ·cases h
     ·cases h
    ·cases h
   ·rename_i hw
    split at h
    ·rename_i F1 hput
     split at h
     ·rename_i tr1 r hr
      cases h
      obtain⟨h1,h2,h3,h4,h5⟩:=agv rest hr
      refine⟨by simp [h1],rfl,rfl,fun k o' ho=>?_,fun k b hb=>?_⟩
      ·cases k with
       | zero =>
        simp only [List.getElem?_cons_zero,Oi] at ho
        subst ho
        exact .inl ⟨hw,rfl,rfl,h2,by
         show putF n F o.dst aho=some (Fat tr1 F' 0)
         rw [h3];exact hput⟩
       | succ k =>
        simp only [List.getElem?_cons_succ] at ho
        exact h4 k o' ho
      ·cases k with
       | zero=>cases hb
       | succ k =>
        obtain⟨o',t',g1,g2,g3,g4⟩:=h5 k b hb
        exact⟨o',t',by simpa using g1,by rw [← auq];exact g2,g3,by rw [cnt0,if_pos hcs,g4];omega⟩
     ·cases h
    ·cases h
   ·cases h
  ·rename_i ht
   have hcs:¬ (ay3 pl).isSome=true:=by rw [ht];simp
   split at h
   ·rename_i hw
    split at h
    ·rename_i v G hs
     rw [boe] at hs
     split at h
     ·rename_i F1 hok hput
      split at h
      ·rename_i tr1 r hr
       cases h
       obtain⟨h1,h2,h3,h4,h5⟩:=agv rest hr
       refine⟨by simp [h1],rfl,rfl,fun k o' ho=>?_,fun k b hb=>?_⟩
       ·cases k with
        | zero =>
         simp only [List.getElem?_cons_zero,Oi] at ho
         subst ho
         exact .inr (.inl ⟨hw,G,hs,h2,by
          show putF n F o.dst v=some (Fat tr1 F' 0)
          rw [h3];exact hput,rfl,hok⟩)
        | succ k =>
         simp only [List.getElem?_cons_succ] at ho
         exact h4 k o' ho
       ·cases k with
        | zero=>exact(blr hb).elim
        | succ k =>
         obtain⟨o',t',g1,g2,g3,g4⟩:=h5 k b hb
         exact⟨o',t',by simpa using g1,by rw [← auq];exact g2,g3,by rw [cnt0,if_neg hcs,g4];omega⟩
      ·cases h
     ·cases h
    ·cases h
   ·rename_i hw
    split at h
    ·rename_i F1 hput
     split at h
     ·rename_i tr1 r hr
      cases h
      obtain⟨h1,h2,h3,h4,h5⟩:=agv rest hr
      refine⟨by simp [h1],rfl,rfl,fun k o' ho=>?_,fun k b hb=>?_⟩
      ·cases k with
       | zero =>
        simp only [List.getElem?_cons_zero,Oi] at ho
        subst ho
        exact .inl ⟨hw,rfl,rfl,h2,by
         show putF n F o.dst aho=some (Fat tr1 F' 0)
         rw [h3];exact hput⟩
       | succ k =>
        simp only [List.getElem?_cons_succ] at ho
        exact h4 k o' ho
      ·cases k with
       | zero=>cases hb
       | succ k =>
        obtain⟨o',t',g1,g2,g3,g4⟩:=h5 k b hb
        exact⟨o',t',by simpa using g1,by rw [← auq];exact g2,g3,by rw [cnt0,if_neg hcs,g4];omega⟩
     ·cases h
    ·cases h
   ·cases h
theorem av2:∀ (pl:List (Option Bk)) (H:HP),H.n≤(layA pl H).n∧St H (layA pl H)∧(∀ b,b<H.n→(layA pl H).t.get b=H.t.get b) ∧
  ∀ k k0,pl[k]? = some (some k0)→(layA pl H).t.get (H.n+cntA (pl.take k))=some k0∧H.n+cntA (pl.take k)<(layA pl H).n
 | [],H=>⟨Rl _,St.refl _,fun _ _=>rfl,fun k k0 h=>by simp at h⟩
 | some k0::r,H=>by
  obtain⟨h1,h2,h3,h4⟩:=av2 r (H.push k0)
  have hn1:(H.push k0).n=H.n+1:=rfl
  have hget:∀ b,(H.push k0).t.get b=if b=H.n then some k0 else H.t.get b:=fun b=>PT.get_put _ _ _ _
  show H.n≤(layA r (H.push k0)).n∧St H (layA r (H.push k0))∧(∀ b,b<H.n→(layA r (H.push k0)).t.get b=H.t.get b)∧_
  refine⟨by omega,(St.push _ _).trans h2,fun b hb=>?_,fun k k1 hk=>?_⟩
  ·rw [h3 b (by omega),hget,if_neg (by omega)]
  ·cases k with
   | zero =>
    simp only [List.getElem?_cons_zero,Oi] at hk
    subst hk
    refine⟨?_,?_⟩
    ·show(layA r (H.push k0)).t.get (H.n+0)=_
     rw [Nat.add_zero,h3 H.n (by omega),hget,if_pos rfl]
    ·show H.n+0<(layA r (H.push k0)).n
     omega
   | succ k =>
    simp only [List.getElem?_cons_succ] at hk
    obtain⟨k2,k3⟩:=h4 k k1 hk
    have:=ave (some k0::r) k
    simp only [ay3,azb,Option.isSome_some,if_true] at this
    rw [this,show H.n+(1+cntA (r.take k))=(H.push k0).n+cntA (r.take k) by rw [hn1];omega]
    exact⟨k2,k3⟩
 | none::r,H=>by
  obtain⟨h1,h2,h3,h4⟩:=av2 r H
  refine⟨h1,h2,h3,fun k k1 hk=>?_⟩
  cases k with
  | zero=>simp at hk
  | succ k =>
   simp only [List.getElem?_cons_succ] at hk
   have:=ave (none::r) k
   simp only [ay3,azb,Option.isSome_none,Bool.false_eq_true,if_false,Nat.zero_add] at this
   rw [this]
   exact h4 k k1 hk
theorem as3{B:List Nat}{b i:Nat}{H':HP}:∀ (r:List Tr) (k0:Nat),quietAt B b i H' r k0=true→∀ k t,r[k]? = some t→t.c.loud=true→ancB B i (k0+k)=false→(Hat r H' (k+1)).t.get b=(Hat r H' k).t.get b
 | [],_,_,k,t,h,_,_=>by simp at h
 | x::r,k0,h,k,t,hk,hl,ha=>by
  simp only [quietAt,Ba] at h
  cases k with
  | zero =>
   simp only [List.getElem?_cons_zero,Oi] at hk
   subst hk
   have h1:=h.1
   rw [Nat.add_zero] at ha
   rw [hl,ha] at h1
   simp only [Bool.not_true,Bool.false_or] at h1
   have:=a5v h1
   show(Hat (x::r) H' 1).t.get b=x.H.t.get b
   rw [this]
   cases r<;>rfl
  | succ k =>
   simp only [List.getElem?_cons_succ] at hk
   have:=as3 r (k0+1) h.2 k t hk hl (by rw [show k0+1+k=k0+(k+1) by omega];exact ha)
   exact this
theorem a5k{B:List Nat}{all:List Tr}{H':HP}:∀ (r:List Tr) (i0:Nat),cmpM B all H' r i0=true→∀ i t b,r[i]? = some t→t.c=.M b→quietAt B b (i0+i) H' all 0=true
 | [],_,_,i,t,b,h,_=>by simp at h
 | x::r,i0,h,i,t,b,hi,hb=>by
  simp only [cmpM,Ba] at h
  cases i with
  | zero =>
   simp only [List.getElem?_cons_zero,Oi] at hi
   subst hi
   have h1:=h.1
   rw [hb] at h1
   exact h1
  | succ i =>
   simp only [List.getElem?_cons_succ] at hi
   have:=a5k r (i0+1) h.2 i t b hi hb
   rw [show i0+(i+1)=i0+1+i by omega]
   exact this
theorem avc{B:List Nat}{i:Nat}{c:Cls}:∀ (r:List Tr) (j:Nat),a5l B i c r j=true→∀ k t,r[k]? = some t→agi B i (j+k) c t.c=true
 | [],_,_,k,t,h=>by simp at h
 | x::r,j,h,0,t,ht=>by
  simp only [List.getElem?_cons_zero,Oi] at ht
  subst ht
  simp only [a5l,Ba] at h
  exact h.1
 | x::r,j,h,k+1,t,ht=>by
  simp only [List.getElem?_cons_succ] at ht
  simp only [a5l,Ba] at h
  have:=avc r (j+1) h.2 k t ht
  rw [show j+(k+1)=j+1+k by omega]
  exact this
theorem avb{B:List Nat}:∀ (tr:List Tr) (i0:Nat),a5j B tr i0=true→∀ i j s t,i<j→tr[i]? = some s→tr[j]? = some t→agi B (i0+i) (i0+j) s.c t.c=true
 | [],_,_,i,j,s,t,_,h,_=>by simp at h
 | x::r,i0,h,0,j,s,t,hij,hs,ht=>by
  simp only [List.getElem?_cons_zero,Oi] at hs
  subst hs
  simp only [a5j,Ba] at h
  obtain⟨j',rfl⟩:=Nat.exists_eq_succ_of_ne_zero (show j≠0 by omega)
  rw [List.getElem?_cons_succ] at ht
  have h1:=h.1
  split at h1
  ·rename_i hc;rw [hc];cases t.c<;>rfl
  ·have:=avc r (i0+1) h1 j' t ht
   rw [show i0+j'.succ=i0+1+j' by omega]
   exact this
 | x::r,i0,h,i+1,j,s,t,hij,hs,ht=>by
  obtain⟨j',rfl⟩:=Nat.exists_eq_succ_of_ne_zero (show j≠0 by omega)
  simp only [List.getElem?_cons_succ] at hs ht
  simp only [a5j,Ba] at h
  have:=avb r (i0+1) h.2 i j' s t (by omega) hs ht
  rw [show i0+(i+1)=i0+1+i by omega,show i0+j'.succ=i0+1+j' by omega]
  exact this
structure Run (P:Program) [Plain P] (ora:Ora) (n:Nat) (ops:List Oper) (Fs:Nat→Fm) (Hs:Nat→HP) (vs:Nat→AV) (cl:Nat→Cls):Prop where
 step:∀ k o,ops[k]? = some o→bpa P ora n ops o (vs k) (cl k) (Fs k) (Hs k) (Fs (k+1)) (Hs (k+1))
 out:∀ k,ops.length≤k→cl k=.A
 pair:∀ i j,i<j→j<ops.length→agi (befs ops) i j (cl i) (cl j)=true
 mak:∀ k b,cl k=.M b→∃ o k0,ops[k]? = some o∧a9y P ora (Fs k) b o.op=some (vs k,k0)∧(Hs 0).t.get b=some k0∧b<(Hs 0).n
 inj:∀ k k' b,cl k=.M b→cl k'=.M b→k=k'
 keep:∀ j b k,cl j=.M b→k<ops.length→(cl k).loud=true→ancB (befs ops) j k=false→(Hs (k+1)).t.get b=(Hs k).t.get b
 flow:akj ops=true
theorem a9n:∀ (l:List (Option Bk)) {k k':Nat} {k0:Bk},l[k]? = some (some k0)→k<k'→cntA (l.take k)<cntA (l.take k')
 | [],k,k',k0,h,_=>by simp at h
 | x::l,0,k',k0,h,hk=>by
  simp only [List.getElem?_cons_zero,Oi] at h
  subst h
  obtain⟨k1,rfl⟩:=Nat.exists_eq_succ_of_ne_zero (show k'≠0 by omega)
  unfold cntA
  rw [List.take_succ_cons,List.countP_cons,List.take_zero]
  simp
 | x::l,k+1,k',k0,h,hk=>by
  obtain⟨k1,rfl⟩:=Nat.exists_eq_succ_of_ne_zero (show k'≠0 by omega)
  simp only [List.getElem?_cons_succ] at h
  have:=a9n l h (show k<k1 by omega)
  unfold cntA at this ⊢
  rw [List.take_succ_cons,List.take_succ_cons,List.countP_cons,List.countP_cons]
  omega
theorem a5s{pl:List (Option Bk)}{F F':Fm}{H H':HP}{tr:List Tr}(hflow:akj ops=true)(hr:blx P ora n ops pl F H=some (tr,F',H'))(hok:okT ops tr H'=true) :
  ∃ Fs Hs vs cl,Run P ora n ops Fs Hs vs cl∧Fs 0=F∧Fs ops.length=F'∧Hs ops.length=H'∧H.n≤(Hs 0).n∧St H (Hs 0)∧(∀ b,b<H.n→(Hs 0).t.get b=H.t.get b)∧∀ k b,cl k=.M b→H.n≤b:=by
 unfold blx at hr
 unfold okT at hok
 rw [Ba] at hok
 obtain⟨hcmp,hcmpM⟩:=hok
 obtain⟨p1,p2,p3,p4⟩:=av2 pl H
 obtain⟨h1,h2,h3,h4,hM⟩:=agv ops hr
 refine⟨Fat tr F',Hat tr H',Vat tr,Cat tr,⟨h4,fun k hk=>?_,fun i j hij hj=>?_,fun k b hb=>?_,fun k k' b hb hb'=>?_,fun j b k hb hk hl ha=>?_,hflow⟩,h3,?_,?_,by rw [h2];exact p1,by rw [h2];exact p2,by rw [h2];exact p3,fun k b hb=>?_⟩
 ·unfold Cat;rw [List.getElem?_eq_none (by omega)];rfl
 ·have hi:i<tr.length:=by omega
  have hj':j<tr.length:=by omega
  have:=avb tr 0 hcmp i j tr[i] tr[j] hij (Gl hi) (Gl hj')
  rw [Nat.zero_add,Nat.zero_add] at this
  unfold Cat
  rw [Gl hi,Gl hj']
  exact this
 ·obtain⟨o,k0,g1,g2,g3,g4⟩:=hM k b hb
  obtain⟨k2,k3⟩:=p4 k k0 g2
  rw [h2]
  refine⟨o,k0,g1,g3,?_,?_⟩
  ·rw [g4];exact k2
  ·rw [g4];exact k3
 ·obtain⟨o,t,g1,g2,_,g3⟩:=hM k b hb
  obtain⟨o',t',g1',g2',_,g3'⟩:=hM k' b hb'
  rcases Nat.lt_trichotomy k k' with hh | hh | hh
  ·have:=a9n pl g2 hh;omega
  ·exact hh
  ·have:=a9n pl g2' hh;omega
 ·have hk':k<tr.length:=by omega
  have hjt:∃ t,tr[j]? = some t∧t.c=.M b:=by
   unfold Cat at hb
   cases htj:tr[j]? with
   | none=>rw [htj] at hb;cases hb
   | some t=>rw [htj] at hb;exact⟨t,rfl,hb⟩
  obtain⟨t,ht1,ht2⟩:=hjt
  have hq:=a5k tr 0 hcmpM j t b ht1 ht2
  rw [Nat.zero_add] at hq
  refine as3 tr 0 hq k tr[k] (Gl hk') ?_ (by rw [Nat.zero_add];exact ha)
  unfold Cat at hl
  rw [Gl hk'] at hl
  exact hl
 ·unfold Fat;rw [List.getElem?_eq_none (by omega)];rfl
 ·unfold Hat;rw [List.getElem?_eq_none (by omega)];rfl
 ·obtain⟨o,t,g1,g2,_,g3⟩:=hM k b hb
  omega
theorem a5r{F F':Fm}{H H':HP}(hflow:akj ops=true)(h:bgd P ora n ops F H=some (F',H')) :
  ∃ Fs Hs vs cl,Run P ora n ops Fs Hs vs cl∧Fs 0=F∧Fs ops.length=F'∧Hs ops.length=H'∧H.n≤(Hs 0).n∧St H (Hs 0)∧(∀ b,b<H.n→(Hs 0).t.get b=H.t.get b)∧∀ k b,cl k=.M b→H.n≤b:=by
 unfold bgd at h
 split at h
 ·rename_i tr r hr
  split at h
  ·rename_i hok
   cases h
   exact a5s hflow hr hok
  ·split at h
   ·rename_i tr2 r2 hr2
    split at h
    ·rename_i hok
     cases h
     exact a5s hflow hr2 hok
    ·cases h
   ·cases h
 ·cases h
section
variable {Fs:Nat→Fm} {Hs:Nat→HP} {vs:Nat→AV} {cl:Nat→Cls}
theorem Run.st(R:Run P ora n ops Fs Hs vs cl)(ho:amh ora){k:Nat}(hk:k<ops.length):St (Hs k) (Hs (k+1)):=by
 rcases R.step k ops[k] (Gl hk) with ⟨_,_,_,h,_⟩ | ⟨_,G,hs,h,_⟩ | ⟨_,_,_,_,_,h,_⟩
 ·rw [h];exact St.refl _
 rotate_left
 ·rw [h];exact St.refl _
 ·rw [h]
  obtain⟨⟨h1,h2⟩,h3⟩:=apm ho hs
  refine⟨⟨(akq _ _).1,fun b hb hb'=>h2 b ?_ hb'⟩,h3⟩
  have:=(akq (Hs k).lo G.lo).2
  simp only [HP.lower] at hb
  omega
theorem Run.n_le(R:Run P ora n ops Fs Hs vs cl)(ho:amh ora){i j:Nat}(hij:i≤j)(hj:j≤ops.length):(Hs i).n≤(Hs j).n:=by
 induction j with
 | zero=>rw [show i=0 by omega];exact Rl _
 | succ j ih =>
  rcases Nat.lt_or_ge i (j+1) with h | h
  ·exact Nat.le_trans (ih (by omega) (by omega)) (R.st ho (by omega)).2.1
  ·rw [show i=j+1 by omega];exact Rl _
theorem Run.hy(R:Run P ora n ops Fs Hs vs cl)(ho:amh ora):∀ {j:Nat},j≤ops.length→(Hs j).hy=(Hs 0).hy
 | 0,_=>rfl
 | j+1,hj=>(R.st ho (by omega)).2.2.1.trans (R.hy ho (by omega))
theorem Run.quiet(R:Run P ora n ops Fs Hs vs cl)(ho:amh ora){k:Nat}(hk:k<ops.length)(hc:(cl k).loud=false):∀ b,b<(Hs k).n→(Hs (k+1)).t.get b=(Hs k).t.get b:=by
 rcases R.step k ops[k] (Gl hk) with ⟨_,_,_,h,_⟩ | ⟨_,G,hs,h,_,hcl,_⟩ | ⟨_,_,_,_,_,h,_⟩
 ·rw [h];exact fun _ _=>rfl
 rotate_left
 ·rw [h];exact fun _ _=>rfl
 ·rw [h]
  intro b hb
  obtain⟨⟨h1,h2⟩,h3⟩:=apm ho hs
  rw [hcl] at hc
  unfold clsA at hc
  split at hc
  ·rename_i hp
   have:=(aok hp hs).1
   subst this
   rfl
  ·rename_i hp
   split at hc
   ·rename_i t x hop
    rw [hop] at hs hp
    obtain⟨b0,off,hx,_,hG,_⟩:=a13 hp hs
    subst hG
    rfl
   ·rename_i t x y _
    rcases ad6 (Fs k) x with h1 | ⟨_,_,_,_,h1⟩<;>(rw [h1] at hc;cases hc)
   ·split at hc
    ·rename_i hble
     exact h2 b (by have:=Nl hble;omega) hb
    ·split at hc<;>cases hc
theorem Run.noMake(R:Run P ora n ops Fs Hs vs cl){k:Nat}(hk:k<ops.length)(hc:(cl k).makes=false):(Hs (k+1)).n=(Hs k).n:=by
 rcases R.step k ops[k] (Gl hk) with ⟨_,_,_,h,_⟩ | ⟨_,G,hs,h,_,hcl,_⟩ | ⟨_,_,_,_,_,h,_⟩
 ·rw [h]
 rotate_left
 ·rw [h]
 ·rw [h]
  rw [hcl] at hc
  unfold clsA at hc
  split at hc
  ·rename_i hp
   have:=(aok hp hs).1
   subst this
   rfl
  ·rename_i hp
   split at hc
   ·rename_i t x hop
    rw [hop] at hs hp
    obtain⟨b0,off,hx,_,hG,_⟩:=a13 hp hs
    subst hG
    rfl
   ·rename_i t x y hop
    rw [hop] at hs
    obtain⟨b0,off,hx,_,hG,_⟩:=a4h hs
    exact hG
   ·split at hc
    ·cases hc
    ·split at hc<;>cases hc
theorem Run.other(R:Run P ora n ops Fs Hs vs cl){k b:Nat}(hk:k<ops.length)(hc:cl k=.S b):∀ b',b'≠b→(Hs (k+1)).t.get b'=(Hs k).t.get b':=by
 rcases R.step k ops[k] (Gl hk) with ⟨_,_,h0,h,_⟩ | ⟨_,G,hs,h,_,hcl,_⟩ | ⟨_,_,_,_,h0,_,_⟩
 ·rw [h0] at hc;cases hc
 rotate_left
 ·rw [h0] at hc;cases hc
 ·rw [h]
  rw [hcl] at hc
  unfold clsA at hc
  split at hc
  ·cases hc
  ·split at hc
   ·rename_i t x _
    rcases agk (Fs k) x with h1 | ⟨_,_,_,_,h1⟩<;>(rw [h1] at hc;cases hc)
   ·rename_i t x y hop
    rw [hop] at hs
    obtain⟨a0,b0,hx,hb0,hn,hG⟩:=a4h hs
    rcases ad6 (Fs k) x with h1 | ⟨a1,b1,g1,g2,h1⟩
    ·rw [h1] at hc;cases hc
    ·rw [h1] at hc
     cases hc
     rw [hx] at g1
     cases g1
     rw [hb0] at g2
     cases g2
     exact hG
   ·split at hc
    ·cases hc
    ·split at hc<;>cases hc
theorem Run.otherT(R:Run P ora n ops Fs Hs vs cl)(ho:amh ora){k b:Nat}(hk:k<ops.length)(hc:cl k=.T b):∀ b',b'≠b→b'<(Hs k).n→(Hs (k+1)).t.get b'=(Hs k).t.get b':=by
 rcases R.step k ops[k] (Gl hk) with ⟨_,_,h0,h,_⟩ | ⟨_,G,hs,h,_,hcl,_⟩ | ⟨_,_,_,_,h0,_,_⟩
 ·rw [h0] at hc;cases hc
 rotate_left
 ·rw [h0] at hc;cases hc
 ·rw [h]
  rw [hcl] at hc
  unfold clsA at hc
  split at hc
  ·cases hc
  ·split at hc
   ·rename_i t x _
    rcases agk (Fs k) x with h1 | ⟨_,_,_,_,h1⟩<;>(rw [h1] at hc;cases hc)
   ·rename_i t x y _
    rcases ad6 (Fs k) x with h1 | ⟨_,_,_,_,h1⟩<;>(rw [h1] at hc;cases hc)
   ·split at hc
    ·cases hc
    ·split at hc
     ·rename_i hb
      cases hc
      exact fun b' h1 h2=>bq2 hb hs b' h1 h2
     ·cases hc
theorem Run.otherY(R:Run P ora n ops Fs Hs vs cl)(ho:amh ora){k b:Nat}{s:Nat→Bool}(hk:k<ops.length)(hc:cl k=.Y b s):∀ b',s b'=true→b'<(Hs k).n→(Hs (k+1)).t.get b'=(Hs k).t.get b':=by
 rcases R.step k ops[k] (Gl hk) with ⟨_,_,h0,h,_⟩ | ⟨_,G,hs,h,_,hcl,_⟩ | ⟨_,_,_,_,h0,_,_⟩
 ·rw [h0] at hc;cases hc
 rotate_left
 ·rw [h0] at hc;cases hc
 ·rw [h]
  rw [hcl] at hc
  unfold clsA at hc
  split at hc
  ·cases hc
  ·split at hc
   ·rename_i t x _
    rcases agk (Fs k) x with h1 | ⟨_,_,_,_,h1⟩<;>(rw [h1] at hc;cases hc)
   ·rename_i t x y _
    rcases ad6 (Fs k) x with h1 | ⟨_,_,_,_,h1⟩<;>(rw [h1] at hc;cases hc)
   ·split at hc
    ·cases hc
    ·split at hc
     ·cases hc
     ·injection hc with _ hsole
      intro b' h1 h2
      obtain⟨⟨_,h4⟩,_⟩:=apm ho hs
      rw [← hsole] at h1
      rcases Nat.lt_or_ge b' G.lo with h5 | h5
      ·exact h4 b' h5 h2
      ·exact(bez h1 h5).symm
end
end
def ay2(ops:List Oper)(k:Nat):Option Tmp:=(ops[k]?).bind (·.dst)
def Itv(ops:List Oper)(cl:Nat→Cls)(D:Nat→Bool)(t:Nat):Prop:=t≤ops.length∧(∀ k,k<t→(cl k).loud=true→D k=true)∧(∀ k,D k=true→(cl k).loud=true→k<t)
structure Inv (n:Nat) (ops:List Oper) (Fs:Nat→Fm) (Hs:Nat→HP) (vs:Nat→AV) (cl:Nat→Cls) (H0:HP) (ρ0:PM) (w0:World) (df:List Deferred) (listed:Array Bool) (ρ:PM) (a:Act) (w:World):Prop where
 sz:listed.size=ops.length
 clo:∀ k i,dOf listed k=true→((befs ops).getD k 0).testBit i=true→dOf listed i=true
 tsz:a.tmps.size=n
 fr1:∀ p t,dOf listed p=true→ay2 ops p=some t→∃ u,a.tmps[t]? = some u∧VRel (bel ρ (Hs (p+1)).n) (vs p) u
 fr2:∀ t v,(∀ p,dOf listed p=true→ay2 ops p≠some t)→(Fs 0).get t=some v→∃ u,a.tmps[t]? = some u∧VRel ρ0 v u
 df:a.defers=df
 itv:∃ t,Itv ops cl (dOf listed) t
 sim:∀ t,Itv ops cl (dOf listed) t→Sim ρ0 H0 w0 (bel ρ (Hs t).n) (Hs t) w
 new:∀ b,ρ b≠none→ρ0 b≠none∨(∃ k,dOf listed k=true∧(Hs k).n≤b∧b<(Hs (k+1)).n)∨∃ k,dOf listed k=true∧cl k=.M b
 h00:H0.n≤(Hs 0).n
 le:PM.le ρ0 ρ
section
variable {P:Program} [Plain P] {ora:Ora} {n:Nat} {ops:List Oper} {Fs:Nat→Fm} {Hs:Nat→HP} {vs:Nat→AV} {cl:Nat→Cls} {H0:HP} {ρ0 ρ:PM} {w0 w:World} {df:List Deferred} {listed:Array Bool} {a:Act}
theorem Run.put(R:Run P ora n ops Fs Hs vs cl){k:Nat}{o:Oper}(hk:ops[k]? = some o):putF n (Fs k) o.dst (vs k)=some (Fs (k+1)):=by
 rcases R.step k o hk with ⟨_,hv,_,_,h⟩ | ⟨_,G,_,_,h,_⟩ | ⟨_,_,_,_,_,_,h⟩
 ·rw [hv];exact h
 ·exact h
 ·exact h
theorem bnk{F F':Fm}{dst:Option Tmp}{v:AV}(h:putF n F dst v=some F')(t:Nat):F'.get t=if dst=some t then some v else F.get t:=by
 cases dst with
 | none=>cases h;simp
 | some d =>
  simp only [putF,brp] at h
  split at h
  ·cases h
   rw [PT.get_put]
   simp only [Oi]
   by_cases hd:t=d
   ·rw [if_pos hd,if_pos hd.symm]
   ·rw [if_neg hd,if_neg (Ne.symm hd)]
  ·cases h
theorem bst{F F':Fm}{d:Tmp}{v:AV}(h:putF n F (some d) v=some F'):d<n:=by
 simp only [putF,brp] at h
 split at h
 ·rename_i hb;exact Nl hb
 ·cases h
theorem Run.frame(R:Run P ora n ops Fs Hs vs cl):∀ j,j≤ops.length→∀ t v,(Fs j).get t=some v→(∃ p,p<j∧ay2 ops p=some t∧v=vs p)∨((∀ p,p<j→ay2 ops p≠some t)∧(Fs 0).get t=some v)
 | 0,_,t,v,h=>.inr ⟨fun p hp=>by omega,h⟩
 | j+1,hj,t,v,h=>by
  have hjl:j<ops.length:=by omega
  have hget:=ops[j]?
  have hp:=R.put (Gl hjl)
  rw [bnk hp] at h
  have hd:ay2 ops j=ops[j].dst:=by unfold ay2;rw [Gl hjl];rfl
  split at h
  ·rename_i hdt
   cases h
   exact .inl ⟨j,by omega,by rw [hd];exact hdt,rfl⟩
  ·rename_i hdt
   rcases R.frame j (by omega) t v h with ⟨p,h1,h2,h3⟩ | ⟨h1,h2⟩
   ·exact .inl ⟨p,by omega,h2,h3⟩
   ·refine .inr ⟨fun p hp=>?_,h2⟩
    rcases Nat.lt_or_ge p j with h3 | h3
    ·exact h1 p h3
    ·rw [show p=j by omega,hd];exact hdt
theorem apz{p:Nat}{t:Tmp}(h:ay2 ops p=some t):∃ o,ops[p]? = some o∧o.dst=some t:=by
 unfold ay2 at h
 cases ho:ops[p]? with
 | none=>rw [ho] at h;cases h
 | some o=>rw [ho] at h;exact⟨o,rfl,h⟩
theorem Inv.seen(R:Run P ora n ops Fs Hs vs cl)(ho:amh ora)(hd0:Dom ρ0 (Hs 0).n)(I:Inv n ops Fs Hs vs cl H0 ρ0 w0 df listed ρ a w){j:Nat}{o:Oper}(hj:ops[j]? = some o)(hjD:dOf listed j=false)
  (hanc:∀ i,((befs ops).getD j 0).testBit i=true→dOf listed i=true) (t:Nat) (ht:t∈o.looksAt ops.toArray) (v:AV) (hv:(Fs j).get t=some v):∃ u,a.tmps[t]? = some u∧VRel (bel ρ (Hs j).n) v u:=by
 have hjl:j<ops.length:=(Ls.1 hj).1
 have hfl:=R.flow
 simp only [akj,Ba] at hfl
 have hw:=atn ops 0 hfl.2 j o hj
 rw [Nat.zero_add] at hw
 rcases R.frame j (by omega) t v hv with ⟨p,h1,h2,rfl⟩ | ⟨h1,h2⟩
 ·obtain⟨q,hq,hqt⟩:=apz h2
  have hDp:dOf listed p=true:=by
   rcases aij ops 0 hw p q t hq hqt ht (by omega) with ⟨_,h4⟩ | ⟨h3,_⟩
   ·rw [Nat.zero_add] at h4;exact hanc p h4
   ·omega
  obtain⟨u,hu,hr⟩:=I.fr1 p t hDp h2
  exact⟨u,hu,hr.mono (ai7 (PM.le.refl ρ) (R.n_le ho (by omega) (by omega)))⟩
 ·obtain⟨u,hu,hr⟩:=I.fr2 t v (fun p hp hpt=>by
   obtain⟨q,hq,hqt⟩:=apz hpt
   by_cases hpj:p=j
   ·subst hpj;rw [hjD] at hp;cases hp
   ·rcases Nat.lt_or_ge p j with h3 | h3
    ·exact h1 p h3 hpt
    ·rcases aij ops 0 hw p q t hq hqt ht (by omega) with ⟨h4,_⟩ | ⟨_,h4⟩
     ·omega
     ·rw [Nat.zero_add] at h4
      have:=I.clo p j hp h4
      rw [hjD] at this
      cases this) h2
  refine⟨u,hu,hr.mono fun b x hb=>?_⟩
  rw [abg (Nat.lt_of_lt_of_le (hd0.lt hb) (R.n_le ho (Nat.zero_le _) (by omega)))]
  exact I.le b x hb
theorem Inv.put(R:Run P ora n ops Fs Hs vs cl)(I:Inv n ops Fs Hs vs cl H0 ρ0 w0 df listed ρ a w){j:Nat}{o:Oper}(hj:ops[j]? = some o)(hjD:dOf listed j=false)
  (hanc:∀ i,((befs ops).getD j 0).testBit i=true→dOf listed i=true) {ρ':PM} {u:Value} {w':World} (hle:PM.le ρ ρ') (hv:VRel (bel ρ' (Hs (j+1)).n) (vs j) u)
  (hitv:∃ t,Itv ops cl (dOf (listed.setIfInBounds j true)) t)
  (hsim:∀ t,Itv ops cl (dOf (listed.setIfInBounds j true)) t→Sim ρ0 H0 w0 (bel ρ' (Hs t).n) (Hs t) w')
  (hnew:∀ b,ρ b=none→ρ' b≠none→((Hs j).n≤b∧b<(Hs (j+1)).n)∨cl j=.M b) :
  Inv n ops Fs Hs vs cl H0 ρ0 w0 df (listed.setIfInBounds j true) ρ' (a.put o.dst u) w':=by
 have hjl:j<ops.length:=(Ls.1 hj).1
 have hD':=akf listed (j:=j) (by rw [I.sz];exact hjl)
 have hmono:∀ i,dOf listed i=true→dOf (listed.setIfInBounds j true) i=true:=fun i hi=>by
  rw [hD']
  by_cases hij:i=j
  ·simp [hij]
  ·simp [hij,hi]
 have hdj:ay2 ops j=o.dst:=by unfold ay2;rw [hj];rfl
 have hfl:=R.flow
 simp only [akj,Ba] at hfl
 have hget:∀ t,o.dst≠some t→(a.put o.dst u).tmps[t]? = a.tmps[t]?:=by
  intro t ht
  cases hd:o.dst with
  | none=>rfl
  | some d =>
   simp only [Act.put]
   rw [Array.getElem?_setIfInBounds_ne (fun h=>ht (by rw [hd,h]))]
 exact {
  sz:=by simp [I.sz]
  clo:=fun k i hk hb=>by
   by_cases hkj:k=j
   ·subst hkj;exact hmono i (hanc i hb)
   ·rw [hD'] at hk
    simp only [hkj,if_false] at hk
    exact hmono i (I.clo k i hk hb)
  tsz:=by rw [← I.tsz];cases o.dst<;>simp [Act.put]
  fr1:=fun p t hp hpt=>by
   by_cases hpj:p=j
   ·subst hpj
    rw [hdj] at hpt
    have hlt:=R.put hj
    rw [hpt] at hlt
    have:=bst hlt
    rw [← I.tsz] at this
    refine⟨u,?_,hv⟩
    rw [hpt]
    simp only [Act.put]
    rw [Array.getElem?_setIfInBounds_self_of_lt this]
   ·rw [hD'] at hp
    simp only [hpj,if_false] at hp
    obtain⟨u',h1,h2⟩:=I.fr1 p t hp hpt
    obtain⟨q,hq,hqt⟩:=apz hpt
    exact⟨u',by rw [hget t (fun h=>hpj (avi ops hfl.1.2 p j q o t hq hj hqt h))];exact h1,h2.mono (ai7 hle (Rl _))⟩
  fr2:=fun t v hno hv'=>by
   obtain⟨u',h1,h2⟩:=I.fr2 t v (fun p hp=>hno p (hmono p hp)) hv'
   exact⟨u',by rw [hget t (fun h=>hno j (by rw [hD'];simp) (by rw [hdj];exact h))];exact h1,h2⟩
  df:=by rw [put_defers];exact I.df
  itv:=hitv
  sim:=hsim
  new:=fun b hb=>by
   cases h:ρ b with
   | none =>
    rcases hnew b h hb with h1 | h1
    ·exact .inr (.inl ⟨j,by rw [hD'];simp,h1⟩)
    ·exact .inr (.inr ⟨j,by rw [hD'];simp,h1⟩)
   | some x =>
    rcases I.new b (by rw [h];simp) with h1 | ⟨k,h1,h2⟩ | ⟨k,h1,h2⟩
    ·exact .inl h1
    ·exact .inr (.inl ⟨k,hmono k h1,h2⟩)
    ·exact .inr (.inr ⟨k,hmono k h1,h2⟩)
  h00:=I.h00
  le:=I.le.trans hle }
theorem Itv.quiet{D D':Nat→Bool}{j t:Nat}(hD':D'=fun i=>if i=j then true else D i)(hc:(cl j).loud=false):Itv ops cl D' t↔Itv ops cl D t:=by
 subst hD'
 constructor
 ·rintro⟨h1,h2,h3⟩
  refine⟨h1,fun k hk hl=>?_,fun k hk hl=>h3 k ?_ hl⟩
  ·have:=h2 k hk hl
   by_cases hkj:k=j
   ·subst hkj;rw [hc] at hl;cases hl
   ·simpa [hkj] using this
  ·by_cases hkj:k=j
   ·simp [hkj]
   ·simpa [hkj] using hk
 ·rintro⟨h1,h2,h3⟩
  refine⟨h1,fun k hk hl=>?_,fun k hk hl=>h3 k ?_ hl⟩
  ·have:=h2 k hk hl
   by_cases hkj:k=j
   ·simp [hkj]
   ·simpa [hkj] using this
  ·by_cases hkj:k=j
   ·subst hkj;rw [hc] at hl;cases hl
   ·simpa [hkj] using hk
theorem Itv.between{D:Nat→Bool}{s t k:Nat}(hs:Itv ops cl D s)(ht:Itv ops cl D t)(h1:s≤k)(h2:k<t):(cl k).loud=false:=by
 cases h:(cl k).loud with
 | false=>rfl
 | true=>have:=hs.2.2 k (ht.2.1 k h2 h) h;omega
theorem Run.same(R:Run P ora n ops Fs Hs vs cl)(ho:amh ora){s t:Nat}(hst:s≤t)(ht:t≤ops.length)(hq:∀ k,s≤k→k<t→(cl k).loud=false):∀ b,b<(Hs s).n→(Hs t).t.get b=(Hs s).t.get b:=by
 induction t with
 | zero=>rw [show s=0 by omega];exact fun _ _=>rfl
 | succ t ih =>
  intro b hb
  rcases Nat.lt_or_ge s (t+1) with h | h
  ·have hsn:=R.n_le ho (show s≤t by omega) (by omega)
   rw [R.quiet ho (by omega) (hq t (by omega) (by omega)) b (by omega)]
   exact ih (by omega) (by omega) (fun k h1 h2=>hq k h1 (by omega)) b hb
  ·rw [show s=t+1 by omega]
theorem Itv.max{D:Nat→Bool}:∀ (m t:Nat),ops.length - t=m→Itv ops cl D t→∃ t',t≤t'∧Itv ops cl D t'∧(t'=ops.length∨(cl t').loud=true)
 | 0,t,hm,h=>⟨t,Rl _,h,.inl (by have:=h.1;omega)⟩
 | m+1,t,hm,h=>by
  cases hc:(cl t).loud with
  | true=>exact⟨t,Rl _,h,.inr hc⟩
  | false =>
   have hnext:Itv ops cl D (t+1):=by
    refine⟨by omega,fun k hk hl=>?_,fun k hk hl=>?_⟩
    ·rcases Nat.lt_or_ge k t with h4 | h4
     ·exact h.2.1 k h4 hl
     ·rw [show k=t by omega,hc] at hl;cases hl
    ·have:=h.2.2 k hk hl;omega
   obtain⟨t',h1,h2,h3⟩:=Itv.max (D:=D) m (t+1) (by omega) hnext
   exact⟨t',by omega,h2,h3⟩
end
end Go.Sx
