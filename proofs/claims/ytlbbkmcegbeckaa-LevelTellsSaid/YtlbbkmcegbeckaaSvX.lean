/-
  A second abstract evaluator of the model's code: regions that draw their order: what holds, whatever has been carried out. Conditions: none; nothing here speaks of one program.
-/
import Derived.Test.YtlbbkmcegbeckaaSvQ
set_option linter.unusedSimpArgs false
set_option linter.unusedSectionVars false
set_option linter.unusedVariables false
namespace Go.Sx
variable [Sg]
noncomputable section
def eqNs:List Nat→List Nat→Bool
 | [],[]=>true
 | a::r,b::s=>Nat.beq a b&&eqNs r s
 | _,_=>false
def eqB:Bool→Bool→Bool
 | true,true=>true
 | false,false=>true
 | _,_=>false
def eqPs:List (Nat×Nat)→List (Nat×Nat)→Bool
 | [],[]=>true
 | (a,b)::r,(c,d)::s=>Nat.beq a c&&(Nat.beq b d&&eqPs r s)
 | _,_=>false
def cyd:Cel→Cel→Bool
 | .lit a,.lit b=>eqV a b
 | .ptr a b,.ptr c d=>Nat.beq a c&&Nat.beq b d
 | .sl a b c d,.sl a' b' c' d'=>Nat.beq a a'&&(Nat.beq b b'&&(Nat.beq c c'&&Nat.beq d d'))
 | .su a b c d,.su a' b' c' d'=>Nat.beq a a'&&(Nat.beq b b'&&(Nat.beq c c'&&Nat.beq d d'))
 | .sz a b,.sz c d=>Nat.beq a c&&Nat.beq b d
 | .fn (.func f) xs,.fn (.func g) ys=>Nat.beq f g&&eqPs xs ys
 | .mp a,.mp b=>Nat.beq a b
 | .us,.us=>true
 | .un k,.un k'=>decide (k=k')
 | .sv s G e,.sv s' G' e'=>eqX e e'&&(co9 s s'&&eqNs G G')
 | .pv w G e i o,.pv w' G' e' i' o'=>eqX e e'&&(eqX i i'&&(Nat.beq o o'&&(b6n w w'&&eqNs G G')))
 | .os z b n s G e,.os z' b' n' s' G' e'=>Nat.beq b b'&&(Nat.beq s s'&&(eqX n n'&&(eqB z z'&&(eqNs G G'&&eqX e e'))))
 | .po b s i o,.po b' s' i' o'=>Nat.beq b b'&&(Nat.beq s s'&&(eqX i i'&&Nat.beq o o'))
 | _,_=>false
def cto:List Cel→List Cel→Bool
 | [],[]=>true
 | x::xs,y::ys=>cyd x y&&cto xs ys
 | _,_=>false
def ctq(p q:Bool×List Cel):Bool:=decide (p.1=q.1)&&cto p.2 q.2
def ctp:List Ent→List Ent→Bool
 | [],[]=>true
 | x::xs,y::ys=>ctq x.1 y.1&&(ctq x.2.1 y.2.1&&(Nat.beq x.2.2 y.2.2&&ctp xs ys))
 | _,_=>false
def eqCt:Ct→Ct→Bool
 | .c a,.c b=>cyd a b
 | .map es c,.map es' c'=>ctp es es'&&Nat.beq c c'
 | .rows w G e n,.rows w' G' e' n'=>eqX e e'&&(eqX n n'&&(b6n w w'&&eqNs G G'))
 | _,_=>false
def eqLB:List (Option Ct)→List (Option Ct)→Bool
 | [],[]=>true
 | none::r,none::s=>eqLB r s
 | some a::r,some b::s=>eqCt a b&&eqLB r s
 | _,_=>false
def eqBk:Bk→Bk→Bool
 | .lf a,.lf b=>eqLB a b
 | .fl n a,.fl m b=>Nat.beq n m&&cyd a b
 | .nd n l r,.nd m l' r'=>Nat.beq n m&&(eqBk l l'&&eqBk r r')
 | _,_=>false
end
theorem b9v:∀ {xs ys:List Nat},eqNs xs ys=true→xs=ys
 | [],[],_=>rfl
 | a::r,b::s,h=>by
  simp only [eqNs,Bool.and_eq_true] at h
  rw [Nat.eq_of_beq_eq_true h.1,b9v h.2]
 | [],_::_,h=>by cases h
 | _::_,[],h=>by cases h
theorem cau:∀ {a b:Bool},eqB a b=true→a=b
 | true,true,_=>rfl
 | false,false,_=>rfl
 | true,false,h=>by cases h
 | false,true,h=>by cases h
theorem co8:∀ {xs ys:List (Nat×Nat)},eqPs xs ys=true→xs=ys
 | [],[],_=>rfl
 | (a,b)::r,(c,d)::s,h=>by
  simp only [eqPs,Bool.and_eq_true] at h
  rw [Nat.eq_of_beq_eq_true h.1,Nat.eq_of_beq_eq_true h.2.1,co8 h.2.2]
 | [],_::_,h=>by cases h
 | _::_,[],h=>by cases h
theorem cdk{a b:Cel}(h:cyd a b=true):a=b:=by
 unfold cyd at h
 split at h
 ·rw [cmg h]
 all_goals first
  | (cases h;done)
  | (simp only [Bool.and_eq_true] at h;obtain⟨h1,h2,h3,h4⟩:=h;rw [Nat.eq_of_beq_eq_true h1,Nat.eq_of_beq_eq_true h2,Nat.eq_of_beq_eq_true h3,Nat.eq_of_beq_eq_true h4];done)
  | (simp only [Bool.and_eq_true] at h;rw [Nat.eq_of_beq_eq_true h.1,Nat.eq_of_beq_eq_true h.2];done)
  | (simp only [Bool.and_eq_true] at h;rw [Nat.eq_of_beq_eq_true h.1,co8 h.2];done)
  | (rw [Nat.eq_of_beq_eq_true h];done)
  | rfl
  | (rw [of_decide_eq_true h];done)
  | (simp only [Bool.and_eq_true] at h;obtain⟨h1,h2,h3⟩:=h;rw [b3n h1,b8y h2,b9v h3];done)
  | (simp only [Bool.and_eq_true] at h;obtain⟨h1,h2,h3,h4,h5⟩:=h;rw [b3n h1,b3n h2,Nat.eq_of_beq_eq_true h3,b4i h4,b9v h5];done)
  | (simp only [Bool.and_eq_true] at h;obtain⟨h1,h2,h3,h4,h5,h6⟩:=h;rw [Nat.eq_of_beq_eq_true h1,Nat.eq_of_beq_eq_true h2,b3n h3,cau h4,b9v h5,b3n h6];done)
  | (simp only [Bool.and_eq_true] at h;obtain⟨h1,h2,h3,h4⟩:=h;rw [Nat.eq_of_beq_eq_true h1,Nat.eq_of_beq_eq_true h2,b3n h3,Nat.eq_of_beq_eq_true h4];done)
theorem cgw:∀ {xs ys:List Cel},cto xs ys=true→xs=ys
 | [],[],_=>rfl
 | x::xs,y::ys,h=>by
  simp only [cto,Bool.and_eq_true] at h
  rw [cdk h.1,cgw h.2]
 | [],_::_,h=>by cases h
 | _::_,[],h=>by cases h
theorem cgz{p q:Bool×List Cel}(h:ctq p q=true):p=q:=by
 simp only [ctq,Bool.and_eq_true,decide_eq_true_eq] at h
 exact Prod.ext h.1 (cgw h.2)
theorem cgx:∀ {xs ys:List Ent},ctp xs ys=true→xs=ys
 | [],[],_=>rfl
 | x::xs,y::ys,h=>by
  simp only [ctp,Bool.and_eq_true] at h
  obtain⟨h1,h2,h3,h4⟩:=h
  have:x=y:=Prod.ext (cgz h1) (Prod.ext (cgz h2) (Nat.eq_of_beq_eq_true h3))
  rw [this,cgx h4]
 | [],_::_,h=>by cases h
 | _::_,[],h=>by cases h
theorem cye{a b:Ct}(h:eqCt a b=true):a=b:=by
 unfold eqCt at h
 split at h
 ·rw [cdk h]
 ·simp only [Bool.and_eq_true] at h;rw [cgx h.1,Nat.eq_of_beq_eq_true h.2]
 ·simp only [Bool.and_eq_true] at h;obtain⟨h1,h2,h3,h4⟩:=h;rw [b3n h1,b3n h2,b4i h3,b9v h4]
 ·cases h
theorem cgy:∀ {xs ys:List (Option Ct)},eqLB xs ys=true→xs=ys
 | [],[],_=>rfl
 | none::r,none::s,h=>by rw [cgy (show eqLB r s=true from h)]
 | some a::r,some b::s,h=>by
  simp only [eqLB,Bool.and_eq_true] at h
  rw [cye h.1,cgy h.2]
 | none::_,some _::_,h=>by cases h
 | some _::_,none::_,h=>by cases h
 | [],_::_,h=>by cases h
 | none::_,[],h=>by cases h
 | some _::_,[],h=>by cases h
theorem cce:∀ {xs ys:Bk},eqBk xs ys=true→xs=ys
 | .lf a,.lf b,h=>by rw [cgy (show eqLB a b=true from h)]
 | .fl n a,.fl m b,h=>by
  simp only [eqBk,Bool.and_eq_true] at h
  rw [Nat.eq_of_beq_eq_true h.1,cdk h.2]
 | .nd n l r,.nd m l' r',h=>by
  simp only [eqBk,Bool.and_eq_true] at h
  rw [Nat.eq_of_beq_eq_true h.1,cce h.2.1,cce h.2.2]
 | .lf _,.fl _ _,h=>by cases h
 | .lf _,.nd _ _ _,h=>by cases h
 | .fl _ _,.lf _,h=>by cases h
 | .fl _ _,.nd _ _ _,h=>by cases h
 | .nd _ _ _,.lf _,h=>by cases h
 | .nd _ _ _,.fl _ _,h=>by cases h
noncomputable section
def eqOB(a b:Option Bk):Bool :=
 match a,b with
 | none,none=>true
 | some x,some y=>eqBk x y
 | _,_=>false
def cbb(H G:HP)(b:Nat):Bool:=Nat.ble (Nat.succ b) G.lo||eqOB (H.t.get b) (G.t.get b)
end
theorem co7{a b:Option Bk}(h:eqOB a b=true):a=b:=by
 cases a<;>cases b<;>first | rfl | (cases h;done) | exact congrArg some (cce h)
theorem cw2{H G:HP}{b:Nat}(h:cbb H G b=true)(h1:G.lo≤b):H.t.get b=G.t.get b:=by
 unfold cbb at h
 rw [Bool.or_eq_true] at h
 rcases h with h | h
 ·have:=Nat.le_of_ble_eq_true h
  omega
 ·exact co7 h
end Go.Sx

namespace Go.Sx
variable [Sg]
inductive Cls where
 | A
 | L (b:Nat)
 | N
 | S (b:Nat)
 | T (b:Nat)
 | X
 | M (b:Nat)
 | Y (b:Nat) (s:Nat→Bool)
def Cls.loud:Cls→Bool
 | .S _=>true
 | .T _=>true
 | .X=>true
 | .Y _ _=>true
 | _=>false
def Cls.makes:Cls→Bool
 | .N=>true
 | .T _=>true
 | .X=>true
 | .Y _ _=>true
 | _=>false
structure Tr where
 v:AV
 F:Fm
 H:HP
 c:Cls
noncomputable section
end
section
variable {P:Program} [Plain P] {E:Operand→Option AV} {H H':HP} {v:AV} {ora:Ora}
theorem cv7{sz bytes n b:Nat}{s:AV}{cs:List Cel}(h:cdc H sz bytes s n cs=some (v,H'))(hb:c2r s=some b):∀ b',b'≠b→b'<H.n→H'.t.get b'=H.t.get b':=by
 intro b' hne hlt
 have hpush:∀ (G:HP) (k:Bk),G.n=H.n→(G.push k).t.get b'=G.t.get b':=fun G k hn=>by
  unfold HP.push
  simp only [PT.get_put]
  rw [if_neg (by omega)]
 have hdrop:∀ G:HP,(G.drop b).t.get b'=G.t.get b':=fun G=>by
  unfold HP.drop
  simp only [PT.get_put]
  rw [if_neg hne]
 have hwrite:∀ {off:Nat} {ds:List Cel} {G:HP},H.write b off ds=some G→G.t.get b'=H.t.get b':=fun {off ds G} hw=>by
  unfold HP.write at hw
  split at hw
  ·split at hw
   ·cases hw
    simp only [PT.get_put]
    rw [if_neg hne]
   ·cases hw
  ·cases hw
 unfold cdc at h
 split at h
 ·cases hb
 ·cases hb
  repeat' (split at h)
  all_goals first
   | (cases h;done)
   | (cases h;exact hpush _ _ rfl)
   | (obtain⟨a,ha,hv⟩:=map_some h;cases hv;exact hwrite ha)
 ·cases hb
  repeat' (split at h)
  all_goals first
   | (cases h;done)
   | (cases h;rfl)
   | (cases h;exact(hpush (H.drop b) _ rfl).trans (hdrop H))
   | (rename_i hw;cases h;exact hwrite hw)
 ·cases hb
  repeat' (split at h)
  all_goals first
   | (cases h;done)
   | (cases h;rfl)
   | (cases h;exact(hpush (H.drop b) _ rfl).trans (hdrop H))
 ·cases h
theorem cwi{xs:List Operand}{s:AV}{r:List AV}(h:b7p E xs=some (s::r)):∃ o rest,xs=o::rest∧E o=some s:=by
 cases xs with
 | nil=>cases h
 | cons o rest =>
  refine⟨o,rest,rfl,?_⟩
  simp only [b7p,List.map_cons] at h
  cases ho:E o with
  | none=>rw [ho] at h;cases h
  | some y =>
   rw [ho] at h
   simp only [b50] at h
   obtain⟨qs,hq,h2⟩:=map_some h
   cases h2
   rfl
theorem c7a{op:Op}{b:Nat}(hb:appT E op=some b)(h:b5e P ora E H op=some (v,H')):∀ b',b'≠b→b'<H.n→H'.t.get b'=H.t.get b':=by
 unfold b5e at h
 rw [c5m hb] at h
 rcases b5u h with h | ⟨_,h⟩
 rotate_left
 ·exact c5l hb h
 unfold appT at hb
 split at hb
 ·rename_i args ats
  simp only [b4h,cdg,cht] at h
  split at h
  ·rename_i s0 x t u hl hat
   obtain⟨o,rest,ho,hE⟩:=cwi hl
   rw [ho] at hb
   simp only [hE] at hb
   repeat' (split at h)
   all_goals first
    | (cases h;done)
    | exact cv7 h hb
  ·cases h
 ·cases hb
end
noncomputable section
def cbl(F:Fm)(x:Operand):Cls :=
 match evF F x with
 | some a=>match ptrB a with
  | some b=>.L b
  | none=>.X
 | none=>.X
def cl8(F:Fm)(x:Operand):Cls :=
 match evF F x with
 | some a=>match isPv a with
  | true=>.A
  | false=>match ptrB a with
   | some b=>.L b
   | none=>.X
 | none=>.X
def caq(F:Fm)(x:Operand):Cls :=
 match evF F x with
 | some a=>match ptrB a with
  | some b=>.S b
  | none=>.X
 | none=>.X
def clsA(F:Fm)(n lo:Nat)(op:Op)(H G:HP):Cls :=
 match cdu (evF F) op with
 | true=>.A
 | false=>match op with
  | .load _ x=>cbl F x
  | .store _ x _=>caq F x
  | _=>match Nat.ble n lo with
   | true=>.N
   | false=>match appT (evF F) op with
    | some b=>.T b
    | none=>.Y G.lo (cbb H G)
def b45(n lo:Nat)(H G:HP):Cls :=
 match Nat.ble n lo with
 | true=>.N
 | false=>.Y G.lo (cbb H G)
def c7h(F:Fm)(n lo:Nat)(c:Call)(H G:HP):Cls :=
 match Nat.ble n lo with
 | true=>.N
 | false=>match appT (evF F) (.call c) with
  | some b=>.T b
  | none=>.Y G.lo (cbb H G)
def clsF(op:Op):Fm→Nat→Nat→HP→HP→Cls :=
 Op.rec (motive:=fun _=>Fm→Nat→Nat→HP→HP→Cls)
  (fun x F n lo H G=>.A)
  (fun x F n lo H G=>.A)
  (fun c a b F n lo H G=>.A)
  (fun t F n lo H G=>b45 n lo H G)
  (fun t x F n lo H G=>b45 n lo H G)
  (fun t ps F n lo H G=>.A)
  (fun t n0 ps F n lo H G=>b45 n lo H G)
  (fun t m k x F n lo H G=>b45 n lo H G)
  (fun t x F n lo H G=>cl8 F x)
  (fun t x y F n lo H G=>caq F x)
  (fun g F n lo H G=>b45 n lo H G)
  (fun g F n lo H G=>b45 n lo H G)
  (fun x F n lo H G=>.A)
  (fun o t x y u F n lo H G=>.A)
  (fun o t x F n lo H G=>.A)
  (fun t u x F n lo H G=>clsA F n lo (.convert t u x) H G)
  (fun t x F n lo H G=>.A)
  (fun t x F n lo H G=>b45 n lo H G)
  (fun f xs cs F n lo H G=>.A)
  (fun t r F n lo H G=>b45 n lo H G)
  (fun t x F n lo H G=>b45 n lo H G)
  (fun t x y F n lo H G=>b45 n lo H G)
  (fun t x l h m F n lo H G=>.A)
  (fun t x f F n lo H G=>.A)
  (fun t x f F n lo H G=>.A)
  (fun t x i F n lo H G=>.A)
  (fun t x i F n lo H G=>.A)
  (fun t x i ok F n lo H G=>b45 n lo H G)
  (fun t m k x F n lo H G=>b45 n lo H G)
  (fun t m k F n lo H G=>b45 n lo H G)
  (fun t m s x F n lo H G=>b45 n lo H G)
  (fun t x F n lo H G=>b45 n lo H G)
  (fun x s F n lo H G=>b45 n lo H G)
  (fun x F n lo H G=>b45 n lo H G)
  (fun x t u k F n lo H G=>b45 n lo H G)
  (fun x i F n lo H G=>.A)
  (fun c F n lo H G=>c7h F n lo c H G)
  (fun c F n lo H G=>b45 n lo H G)
  (fun c F n lo H G=>b45 n lo H G)
  (fun x F n lo H G=>b45 n lo H G)
  (fun c x F n lo H G=>b45 n lo H G)
  (fun t c k F n lo H G=>b45 n lo H G)
  (fun cs b F n lo H G=>b45 n lo H G) op
theorem c7i(F:Fm)(n lo:Nat)(H G:HP)(op:Op):clsF op F n lo H G=clsA F n lo op H G:=by
 cases op
 case load t x =>
  show cl8 F x=(match cdu (evF F) (.load t x) with | true=>.A | false=>cbl F x)
  unfold cl8 cbl cdu
  rw [show ch0 (evF F) (.load t x)=false from rfl]
  simp only
  cases evF F x with
  | none=>rfl
  | some a=>cases isPv a<;>rfl
 all_goals rfl
def okL(c:Cls)(n:Nat)(v:AV):Bool :=
 match c with
 | .L _=>v.below n
 | _=>true
def HP.fresh(H:HP):HP:=⟨H.t,H.n,H.n,H.hy,H.nv⟩
def HP.lower(G:HP)(lo:Nat):HP:=⟨G.t,G.n,minN lo G.lo,G.hy,G.nv⟩
def dar(op:Op):Option TypeId :=
 Op.rec (motive:=fun _=>Option TypeId)
  (fun _=>none)
  (fun _=>none)
  (fun _ _ _=>none)
  (fun t=>some t)
  (fun _ _=>none)
  (fun _ _=>none)
  (fun _ _ _=>none)
  (fun _ _ _ _=>none)
  (fun _ _=>none)
  (fun _ _ _=>none)
  (fun _=>none)
  (fun _=>none)
  (fun _=>none)
  (fun _ _ _ _ _=>none)
  (fun _ _ _=>none)
  (fun _ _ _=>none)
  (fun _ _=>none)
  (fun _ _=>none)
  (fun _ _ _=>none)
  (fun _ _=>none)
  (fun _ _=>none)
  (fun _ _ _=>none)
  (fun _ _ _ _ _=>none)
  (fun _ _ _=>none)
  (fun _ _ _=>none)
  (fun _ _ _=>none)
  (fun _ _ _=>none)
  (fun _ _ _ _=>none)
  (fun _ _ _ _=>none)
  (fun _ _ _=>none)
  (fun _ _ _ _=>none)
  (fun _ _=>none)
  (fun _ _=>none)
  (fun _=>none)
  (fun _ _ _ _=>none)
  (fun _ _=>none)
  (fun _=>none)
  (fun _=>none)
  (fun _=>none)
  (fun _=>none)
  (fun _ _=>none)
  (fun _ _ _=>none)
  (fun _ _=>none) op
def litC(c:Cel):Bool :=
 match c with
 | .lit _=>true
 | _=>false
def c8a(v:AV):Bool :=
 match v with
 | .one c=>litC c
 | .agg xs=>xs.all litC
 | .tup _=>false
def dbr(F:Fm)(x:Operand):Bool :=
 match evF F x with
 | some a=>c8a a
 | none=>true
def cr0(P:Program)[Plain P](ora:Ora)(F:Fm)(m:Nat)(op:Op):Option (AV×Bk) :=
 match op.operands.toList.all (dbr F) with
 | true=>match b5e P ora (evF F) ⟨.nil,m,0,[],0⟩ op with
  | some (v,G)=>match Nat.beq G.n (Nat.succ m),G.t.get m with
   | true,some k=>some (v,k)
   | _,_=>none
  | none=>none
 | false=>none
def cjh(l:List (Option Bk)):Option Bk :=
 match l with
 | a::_=>a
 | []=>none
def cjn(l:List (Option Bk)):List (Option Bk) :=
 match l with
 | _::r=>r
 | []=>[]
def layA:List (Option Bk)→HP→HP
 | [],H=>H
 | some k::r,H=>layA r (H.push k)
 | none::r,H=>layA r H
def pre0(P:Program)[Plain P]:List Oper→List (Option Bk)
 | []=>[]
 | o::r=>(match dar o.op with
  | some t=>match chs P ⟨.nil,0,0,[],0⟩ t with
   | some (_,G)=>G.t.get 0
   | none=>none
  | none=>none)::pre0 P r
def pre1(P:Program)[Plain P](ora:Ora):List Oper→List (Option Bk)→List Tr→List (Option Bk)
 | o::r,l,t::tr=>(match cjh l with
  | some k=>some k
  | none=>match t.c with
   | .N=>match cr0 P ora t.F 0 o.op with
    | some (_,k)=>some k
    | none=>none
   | _=>none)::pre1 P ora r (cjn l) tr
 | _,_,_=>[]
def cgr(P:Program)[Plain P](ora:Ora)(n:Nat)(ops:List Oper):List Oper→List (Option Bk)→Nat→Fm→HP→Option (List Tr×Fm×HP)
 | [],_,_,F,H=>some ([],F,H)
 | o::rest,pl,m,F,H =>
  match cjh pl with
  | some k0 =>
   match cjb H.hy ops F o.guard with
   | some true =>
    match cr0 P ora F m o.op with
    | some (v,k) =>
     match eqBk k k0,putF n F o.dst v with
     | true,some F' =>
      match cgr P ora n ops rest (cjn pl) (Nat.succ m) F' H with
      | some (tr,r)=>some (⟨v,F,H,.M m⟩::tr,r)
      | none=>none
     | _,_=>none
    | none=>none
   | some false =>
    match putF n F o.dst b5a with
    | some F' =>
     match cgr P ora n ops rest (cjn pl) (Nat.succ m) F' H with
     | some (tr,r)=>some (⟨b5a,F,H,.A⟩::tr,r)
     | none=>none
    | none=>none
   | none=>none
  | none =>
   match cjb H.hy ops F o.guard with
   | some true =>
    match cn4 o.op P inferInstance ora (evF F) H.fresh with
    | some (v,G) =>
     match okL (clsF o.op F H.n G.lo H G) H.n v,putF n F o.dst v with
     | true,some F' =>
      match cgr P ora n ops rest (cjn pl) m F' (G.lower H.lo) with
      | some (tr,r)=>some (⟨v,F,H,clsF o.op F H.n G.lo H G⟩::tr,r)
      | none=>none
     | _,_=>none
    | none=>none
   | some false =>
    match putF n F o.dst b5a with
    | some F' =>
     match cgr P ora n ops rest (cjn pl) m F' H with
     | some (tr,r)=>some (⟨b5a,F,H,.A⟩::tr,r)
     | none=>none
    | none=>none
   | none=>none
def ancB(B:List Nat)(i j:Nat):Bool:=(B.getD j 0).testBit i
def b7k(B:List Nat)(i j:Nat)(c d:Cls):Bool :=
 match c,d with
 | .A,_=>true
 | _,.A=>true
 | .M _,_=>true
 | _,.M _=>true
 | .N,.N=>true
 | .N,.L _=>true
 | .L _,.N=>true
 | .L _,.L _=>true
 | .S b,.L b'=>!(Nat.beq b b')||ancB B i j
 | .T b,.L b'=>!(Nat.beq b b')||ancB B i j
 | .L b,.T b'=>!(Nat.beq b b')||ancB B i j
 | .L b,.S b'=>!(Nat.beq b b')||ancB B i j
 | .Y _ s,.L b'=>ancB B i j||s b'
 | .L b,.Y _ s=>ancB B i j||s b
 | _,_=>ancB B i j
def coy(B:List Nat)(i:Nat)(c:Cls):List Tr→Nat→Bool
 | [],_=>true
 | t::r,j=>b7k B i j c t.c&&coy B i c r (Nat.succ j)
def cow(B:List Nat):List Tr→Nat→Bool
 | [],_=>true
 | t::r,i=>(match t.c with
  | .A=>true
  | c=>coy B i c r (Nat.succ i))&&cow B r (Nat.succ i)
def quietAt(B:List Nat)(b i:Nat)(H':HP):List Tr→Nat→Bool
 | [],_=>true
 | t::r,k=>(!(t.c.loud)||(ancB B i k||eqOB (t.H.t.get b) ((match r with | []=>H' | t2::_=>t2.H).t.get b)))&&quietAt B b i H' r (Nat.succ k)
def cmpM(B:List Nat)(all:List Tr)(H':HP):List Tr→Nat→Bool
 | [],_=>true
 | t::r,i=>(match t.c with
  | .M b=>quietAt B b i H' all 0
  | _=>true)&&cmpM B all H' r (Nat.succ i)
def c2y(P:Program)[Plain P](ora:Ora)(n:Nat)(ops:List Oper)(pl:List (Option Bk))(F:Fm)(H:HP):Option (List Tr×Fm×HP) :=
 cgr P ora n ops ops pl H.n F (layA pl H)
def okT(ops:List Oper)(tr:List Tr)(H':HP):Bool:=cow (befs ops) tr 0&&cmpM (befs ops) tr H' tr 0
def cx9(P:Program)[Plain P](ora:Ora)(n:Nat)(ops:List Oper)(F:Fm)(H:HP):Option (Fm×HP) :=
 match c2y P ora n ops (pre0 P ops) F H with
 | some (tr,r)=>match okT ops tr r.2 with
  | true=>some r
  | false=>match c2y P ora n ops (pre1 P ora ops (pre0 P ops) tr) F H with
   | some (tr2,r2)=>match okT ops tr2 r2.2 with
    | true=>some r2
    | false=>none
   | none=>none
 | none=>none
end
def c6b(P:Program)[Plain P](ora:Ora)(n:Nat)(ops:List Oper)(o:Oper)(v:AV)(c:Cls)(F:Fm)(H:HP)(F1:Fm)(H1:HP):Prop :=
 (cjb H.hy ops F o.guard=some false∧v=b5a∧c=.A∧H1=H∧putF n F o.dst b5a=some F1) ∨
 (cjb H.hy ops F o.guard=some true∧∃ G,b5e P ora (evF F) H.fresh o.op=some (v,G)∧H1=G.lower H.lo∧putF n F o.dst v=some F1∧c=clsA F H.n G.lo o.op H G∧okL c H.n v=true) ∨
 (∃ b k,cr0 P ora F b o.op=some (v,k)∧cjb H.hy ops F o.guard=some true∧c=.M b∧H1=H∧putF n F o.dst v=some F1)
def cntA(l:List (Option Bk)):Nat:=l.countP (·.isSome)
def Hat(tr:List Tr)(H':HP)(k:Nat):HP:=((tr[k]?).map (·.H)).getD H'
def Fat(tr:List Tr)(F':Fm)(k:Nat):Fm:=((tr[k]?).map (·.F)).getD F'
def Vat(tr:List Tr)(k:Nat):AV:=((tr[k]?).map (·.v)).getD b5a
def Cat(tr:List Tr)(k:Nat):Cls:=((tr[k]?).map (·.c)).getD .A
section
variable {P:Program} [Plain P] {ora:Ora} {n:Nat} {ops:List Oper}
theorem b7o(F:Fm)(x:Operand):cbl F x=.X∨∃ a b,evF F x=some a∧ptrB a=some b∧cbl F x=.L b:=by
 unfold cbl
 cases h:evF F x with
 | none=>exact .inl rfl
 | some a=>cases h2:ptrB a with
  | none=>exact .inl (by simp [h2])
  | some b=>exact .inr ⟨a,b,rfl,h2,by simp [h2]⟩
theorem b52(F:Fm)(x:Operand):caq F x=.X∨∃ a b,evF F x=some a∧ptrB a=some b∧caq F x=.S b:=by
 unfold caq
 cases h:evF F x with
 | none=>exact .inl rfl
 | some a=>cases h2:ptrB a with
  | none=>exact .inl (by simp [h2])
  | some b=>exact .inr ⟨a,b,rfl,h2,by simp [h2]⟩
theorem c2v{F:Fm}{n lo:Nat}{op:Op}{H G:HP}{b:Nat}(h:clsA F n lo op H G=.M b):False:=by
 unfold clsA at h
 split at h
 ·cases h
 ·split at h
  ·rename_i t x _
   rcases b7o F x with h1 | ⟨_,_,_,_,h1⟩<;>(rw [h1] at h;cases h)
  ·rename_i t x y _
   rcases b52 F x with h1 | ⟨_,_,_,_,h1⟩<;>(rw [h1] at h;cases h)
  ·repeat' (split at h)
   all_goals cases h
theorem c3j{pl:List (Option Bk)}{a:Bk}(h:cjh pl=some a):pl[0]? = some (some a):=by
 cases pl with
 | nil=>cases h
 | cons x r=>simp only [cjh] at h;subst h;rfl
theorem cgp(pl:List (Option Bk))(k:Nat):cntA (pl.take (k+1))=(if(cjh pl).isSome then 1 else 0)+cntA ((cjn pl).take k):=by
 cases pl with
 | nil=>simp [cntA,cjh,cjn]
 | cons x r =>
  unfold cntA
  rw [List.take_succ_cons,List.countP_cons,Nat.add_comm]
  rfl
theorem cf4(pl:List (Option Bk))(k:Nat):(cjn pl)[k]? = pl[k+1]?:=by cases pl<;>rfl
theorem b72:∀ (rest:List Oper) {pl:List (Option Bk)} {m:Nat} {F F':Fm} {H H':HP} {tr:List Tr},cgr P ora n ops rest pl m F H=some (tr,F',H') →
  tr.length=rest.length∧Hat tr H' 0=H∧Fat tr F' 0=F ∧
   (∀ k o,rest[k]? = some o→c6b P ora n ops o (Vat tr k) (Cat tr k) (Fat tr F' k) (Hat tr H' k) (Fat tr F' (k+1)) (Hat tr H' (k+1))) ∧
   ∀ k b,Cat tr k=.M b→∃ o k0,rest[k]? = some o∧pl[k]? = some (some k0)∧cr0 P ora (Fat tr F' k) b o.op=some (Vat tr k,k0)∧b=m+cntA (pl.take k)
 | [],pl,m,F,F',H,H',tr,h=>by cases h;exact⟨rfl,rfl,rfl,fun k o h=>by simp at h,fun k b h=>by cases h⟩
 | o::rest,pl,m,F,F',H,H',tr,h=>by
  have cnt0:=cgp pl
  simp only [cgr] at h
  split at h
  ·rename_i k0 ht
   have hcs:(cjh pl).isSome=true:=by rw [ht];rfl
   split at h
   ·rename_i hw
    split at h
    ·rename_i v kk hmk
     split at h
     ·rename_i F1 heq hput
      split at h
      ·rename_i tr1 r hr
       cases h
       obtain rfl:=cce heq
       obtain⟨h1,h2,h3,h4,h5⟩:=b72 rest hr
       refine⟨by simp [h1],rfl,rfl,fun k o' ho=>?_,fun k b hb=>?_⟩
       ·cases k with
        | zero =>
         simp only [List.getElem?_cons_zero,Option.some.injEq] at ho
         subst ho
         exact .inr (.inr ⟨m,kk,hmk,hw,rfl,h2,by
          show putF n F o.dst v=some (Fat tr1 F' 0)
          rw [h3];exact hput⟩)
        | succ k =>
         simp only [List.getElem?_cons_succ] at ho
         exact h4 k o' ho
       ·cases k with
        | zero =>
         cases hb
         exact⟨o,kk,rfl,c3j ht,hmk,by rw [List.take_zero];rfl⟩
        | succ k =>
         obtain⟨o',t',g1,g2,g3,g4⟩:=h5 k b hb
         exact⟨o',t',by simpa using g1,by rw [← cf4];exact g2,g3,by rw [cnt0,if_pos hcs,g4];omega⟩
      ·cases h
     ·cases h
    ·cases h
   ·rename_i hw
    split at h
    ·rename_i F1 hput
     split at h
     ·rename_i tr1 r hr
      cases h
      obtain⟨h1,h2,h3,h4,h5⟩:=b72 rest hr
      refine⟨by simp [h1],rfl,rfl,fun k o' ho=>?_,fun k b hb=>?_⟩
      ·cases k with
       | zero =>
        simp only [List.getElem?_cons_zero,Option.some.injEq] at ho
        subst ho
        exact .inl ⟨hw,rfl,rfl,h2,by
         show putF n F o.dst b5a=some (Fat tr1 F' 0)
         rw [h3];exact hput⟩
       | succ k =>
        simp only [List.getElem?_cons_succ] at ho
        exact h4 k o' ho
      ·cases k with
       | zero=>cases hb
       | succ k =>
        obtain⟨o',t',g1,g2,g3,g4⟩:=h5 k b hb
        exact⟨o',t',by simpa using g1,by rw [← cf4];exact g2,g3,by rw [cnt0,if_pos hcs,g4];omega⟩
     ·cases h
    ·cases h
   ·cases h
  ·rename_i ht
   have hcs:¬ (cjh pl).isSome=true:=by rw [ht];simp
   split at h
   ·rename_i hw
    split at h
    ·rename_i v G hs
     rw [c5g] at hs
     rw [c7i] at h
     split at h
     ·rename_i F1 hok hput
      split at h
      ·rename_i tr1 r hr
       cases h
       obtain⟨h1,h2,h3,h4,h5⟩:=b72 rest hr
       refine⟨by simp [h1],rfl,rfl,fun k o' ho=>?_,fun k b hb=>?_⟩
       ·cases k with
        | zero =>
         simp only [List.getElem?_cons_zero,Option.some.injEq] at ho
         subst ho
         exact .inr (.inl ⟨hw,G,hs,h2,by
          show putF n F o.dst v=some (Fat tr1 F' 0)
          rw [h3];exact hput,rfl,hok⟩)
        | succ k =>
         simp only [List.getElem?_cons_succ] at ho
         exact h4 k o' ho
       ·cases k with
        | zero=>exact(c2v hb).elim
        | succ k =>
         obtain⟨o',t',g1,g2,g3,g4⟩:=h5 k b hb
         exact⟨o',t',by simpa using g1,by rw [← cf4];exact g2,g3,by rw [cnt0,if_neg hcs,g4];omega⟩
      ·cases h
     ·cases h
    ·cases h
   ·rename_i hw
    split at h
    ·rename_i F1 hput
     split at h
     ·rename_i tr1 r hr
      cases h
      obtain⟨h1,h2,h3,h4,h5⟩:=b72 rest hr
      refine⟨by simp [h1],rfl,rfl,fun k o' ho=>?_,fun k b hb=>?_⟩
      ·cases k with
       | zero =>
        simp only [List.getElem?_cons_zero,Option.some.injEq] at ho
        subst ho
        exact .inl ⟨hw,rfl,rfl,h2,by
         show putF n F o.dst b5a=some (Fat tr1 F' 0)
         rw [h3];exact hput⟩
       | succ k =>
        simp only [List.getElem?_cons_succ] at ho
        exact h4 k o' ho
      ·cases k with
       | zero=>cases hb
       | succ k =>
        obtain⟨o',t',g1,g2,g3,g4⟩:=h5 k b hb
        exact⟨o',t',by simpa using g1,by rw [← cf4];exact g2,g3,by rw [cnt0,if_neg hcs,g4];omega⟩
     ·cases h
    ·cases h
   ·cases h
theorem chd:∀ (pl:List (Option Bk)) (H:HP),H.n≤(layA pl H).n∧St H (layA pl H)∧(∀ b,b<H.n→(layA pl H).t.get b=H.t.get b) ∧
  ∀ k k0,pl[k]? = some (some k0)→(layA pl H).t.get (H.n+cntA (pl.take k))=some k0∧H.n+cntA (pl.take k)<(layA pl H).n
 | [],H=>⟨Nat.le_refl _,St.refl _,fun _ _=>rfl,fun k k0 h=>by simp at h⟩
 | some k0::r,H=>by
  obtain⟨h1,h2,h3,h4⟩:=chd r (H.push k0)
  have hn1:(H.push k0).n=H.n+1:=rfl
  have hget:∀ b,(H.push k0).t.get b=if b=H.n then some k0 else H.t.get b:=fun b=>PT.get_put _ _ _ _
  show H.n≤(layA r (H.push k0)).n∧St H (layA r (H.push k0))∧(∀ b,b<H.n→(layA r (H.push k0)).t.get b=H.t.get b)∧_
  refine⟨by omega,(St.push _ _).trans h2,fun b hb=>?_,fun k k1 hk=>?_⟩
  ·rw [h3 b (by omega),hget,if_neg (by omega)]
  ·cases k with
   | zero =>
    simp only [List.getElem?_cons_zero,Option.some.injEq] at hk
    subst hk
    refine⟨?_,?_⟩
    ·show(layA r (H.push k0)).t.get (H.n+0)=_
     rw [Nat.add_zero,h3 H.n (by omega),hget,if_pos rfl]
    ·show H.n+0<(layA r (H.push k0)).n
     omega
   | succ k =>
    simp only [List.getElem?_cons_succ] at hk
    obtain⟨k2,k3⟩:=h4 k k1 hk
    have:=cgp (some k0::r) k
    simp only [cjh,cjn,Option.isSome_some,if_true] at this
    rw [this,show H.n+(1+cntA (r.take k))=(H.push k0).n+cntA (r.take k) by rw [hn1];omega]
    exact⟨k2,k3⟩
 | none::r,H=>by
  obtain⟨h1,h2,h3,h4⟩:=chd r H
  refine⟨h1,h2,h3,fun k k1 hk=>?_⟩
  cases k with
  | zero=>simp at hk
  | succ k =>
   simp only [List.getElem?_cons_succ] at hk
   have:=cgp (none::r) k
   simp only [cjh,cjn,Option.isSome_none,Bool.false_eq_true,if_false,Nat.zero_add] at this
   rw [this]
   exact h4 k k1 hk
theorem ce6{B:List Nat}{b i:Nat}{H':HP}:∀ (r:List Tr) (k0:Nat),quietAt B b i H' r k0=true→∀ k t,r[k]? = some t→t.c.loud=true→ancB B i (k0+k)=false→(Hat r H' (k+1)).t.get b=(Hat r H' k).t.get b
 | [],_,_,k,t,h,_,_=>by simp at h
 | x::r,k0,h,k,t,hk,hl,ha=>by
  simp only [quietAt,Bool.and_eq_true] at h
  cases k with
  | zero =>
   simp only [List.getElem?_cons_zero,Option.some.injEq] at hk
   subst hk
   have h1:=h.1
   rw [Nat.add_zero] at ha
   rw [hl,ha] at h1
   simp only [Bool.not_true,Bool.false_or] at h1
   have:=co7 h1
   show(Hat (x::r) H' 1).t.get b=x.H.t.get b
   rw [this]
   cases r<;>rfl
  | succ k =>
   simp only [List.getElem?_cons_succ] at hk
   have:=ce6 r (k0+1) h.2 k t hk hl (by rw [show k0+1+k=k0+(k+1) by omega];exact ha)
   exact this
theorem cox{B:List Nat}{all:List Tr}{H':HP}:∀ (r:List Tr) (i0:Nat),cmpM B all H' r i0=true→∀ i t b,r[i]? = some t→t.c=.M b→quietAt B b (i0+i) H' all 0=true
 | [],_,_,i,t,b,h,_=>by simp at h
 | x::r,i0,h,i,t,b,hi,hb=>by
  simp only [cmpM,Bool.and_eq_true] at h
  cases i with
  | zero =>
   simp only [List.getElem?_cons_zero,Option.some.injEq] at hi
   subst hi
   have h1:=h.1
   rw [hb] at h1
   exact h1
  | succ i =>
   simp only [List.getElem?_cons_succ] at hi
   have:=cox r (i0+1) h.2 i t b hi hb
   rw [show i0+(i+1)=i0+1+i by omega]
   exact this
theorem cgm{B:List Nat}{i:Nat}{c:Cls}:∀ (r:List Tr) (j:Nat),coy B i c r j=true→∀ k t,r[k]? = some t→b7k B i (j+k) c t.c=true
 | [],_,_,k,t,h=>by simp at h
 | x::r,j,h,0,t,ht=>by
  simp only [List.getElem?_cons_zero,Option.some.injEq] at ht
  subst ht
  simp only [coy,Bool.and_eq_true] at h
  exact h.1
 | x::r,j,h,k+1,t,ht=>by
  simp only [List.getElem?_cons_succ] at ht
  simp only [coy,Bool.and_eq_true] at h
  have:=cgm r (j+1) h.2 k t ht
  rw [show j+(k+1)=j+1+k by omega]
  exact this
theorem cgl{B:List Nat}:∀ (tr:List Tr) (i0:Nat),cow B tr i0=true→∀ i j s t,i<j→tr[i]? = some s→tr[j]? = some t→b7k B (i0+i) (i0+j) s.c t.c=true
 | [],_,_,i,j,s,t,_,h,_=>by simp at h
 | x::r,i0,h,0,j,s,t,hij,hs,ht=>by
  simp only [List.getElem?_cons_zero,Option.some.injEq] at hs
  subst hs
  simp only [cow,Bool.and_eq_true] at h
  obtain⟨j',rfl⟩:=Nat.exists_eq_succ_of_ne_zero (show j≠0 by omega)
  rw [List.getElem?_cons_succ] at ht
  have h1:=h.1
  split at h1
  ·rename_i hc;rw [hc];cases t.c<;>rfl
  ·have:=cgm r (i0+1) h1 j' t ht
   rw [show i0+j'.succ=i0+1+j' by omega]
   exact this
 | x::r,i0,h,i+1,j,s,t,hij,hs,ht=>by
  obtain⟨j',rfl⟩:=Nat.exists_eq_succ_of_ne_zero (show j≠0 by omega)
  simp only [List.getElem?_cons_succ] at hs ht
  simp only [cow,Bool.and_eq_true] at h
  have:=cgl r (i0+1) h.2 i j' s t (by omega) hs ht
  rw [show i0+(i+1)=i0+1+i by omega,show i0+j'.succ=i0+1+j' by omega]
  exact this
structure Run (P:Program) [Plain P] (ora:Ora) (n:Nat) (ops:List Oper) (Fs:Nat→Fm) (Hs:Nat→HP) (vs:Nat→AV) (cl:Nat→Cls):Prop where
 step:∀ k o,ops[k]? = some o→c6b P ora n ops o (vs k) (cl k) (Fs k) (Hs k) (Fs (k+1)) (Hs (k+1))
 out:∀ k,ops.length≤k→cl k=.A
 pair:∀ i j,i<j→j<ops.length→b7k (befs ops) i j (cl i) (cl j)=true
 mak:∀ k b,cl k=.M b→∃ o k0,ops[k]? = some o∧cr0 P ora (Fs k) b o.op=some (vs k,k0)∧(Hs 0).t.get b=some k0∧b<(Hs 0).n
 inj:∀ k k' b,cl k=.M b→cl k'=.M b→k=k'
 keep:∀ j b k,cl j=.M b→k<ops.length→(cl k).loud=true→ancB (befs ops) j k=false→(Hs (k+1)).t.get b=(Hs k).t.get b
 flow:b90 ops=true
theorem crr:∀ (l:List (Option Bk)) {k k':Nat} {k0:Bk},l[k]? = some (some k0)→k<k'→cntA (l.take k)<cntA (l.take k')
 | [],k,k',k0,h,_=>by simp at h
 | x::l,0,k',k0,h,hk=>by
  simp only [List.getElem?_cons_zero,Option.some.injEq] at h
  subst h
  obtain⟨k1,rfl⟩:=Nat.exists_eq_succ_of_ne_zero (show k'≠0 by omega)
  unfold cntA
  rw [List.take_succ_cons,List.countP_cons,List.take_zero]
  simp
 | x::l,k+1,k',k0,h,hk=>by
  obtain⟨k1,rfl⟩:=Nat.exists_eq_succ_of_ne_zero (show k'≠0 by omega)
  simp only [List.getElem?_cons_succ] at h
  have:=crr l h (show k<k1 by omega)
  unfold cntA at this ⊢
  rw [List.take_succ_cons,List.take_succ_cons,List.countP_cons,List.countP_cons]
  omega
theorem co4{pl:List (Option Bk)}{F F':Fm}{H H':HP}{tr:List Tr}(hflow:b90 ops=true)(hr:c2y P ora n ops pl F H=some (tr,F',H'))(hok:okT ops tr H'=true) :
  ∃ Fs Hs vs cl,Run P ora n ops Fs Hs vs cl∧Fs 0=F∧Fs ops.length=F'∧Hs ops.length=H'∧H.n≤(Hs 0).n∧St H (Hs 0)∧(∀ b,b<H.n→(Hs 0).t.get b=H.t.get b)∧∀ k b,cl k=.M b→H.n≤b:=by
 unfold c2y at hr
 unfold okT at hok
 rw [Bool.and_eq_true] at hok
 obtain⟨hcmp,hcmpM⟩:=hok
 obtain⟨p1,p2,p3,p4⟩:=chd pl H
 obtain⟨h1,h2,h3,h4,hM⟩:=b72 ops hr
 refine⟨Fat tr F',Hat tr H',Vat tr,Cat tr,⟨h4,fun k hk=>?_,fun i j hij hj=>?_,fun k b hb=>?_,fun k k' b hb hb'=>?_,fun j b k hb hk hl ha=>?_,hflow⟩,h3,?_,?_,by rw [h2];exact p1,by rw [h2];exact p2,by rw [h2];exact p3,fun k b hb=>?_⟩
 ·unfold Cat;rw [List.getElem?_eq_none (by omega)];rfl
 ·have hi:i<tr.length:=by omega
  have hj':j<tr.length:=by omega
  have:=cgl tr 0 hcmp i j tr[i] tr[j] hij (List.getElem?_eq_getElem hi) (List.getElem?_eq_getElem hj')
  rw [Nat.zero_add,Nat.zero_add] at this
  unfold Cat
  rw [List.getElem?_eq_getElem hi,List.getElem?_eq_getElem hj']
  exact this
 ·obtain⟨o,k0,g1,g2,g3,g4⟩:=hM k b hb
  obtain⟨k2,k3⟩:=p4 k k0 g2
  rw [h2]
  refine⟨o,k0,g1,g3,?_,?_⟩
  ·rw [g4];exact k2
  ·rw [g4];exact k3
 ·obtain⟨o,t,g1,g2,_,g3⟩:=hM k b hb
  obtain⟨o',t',g1',g2',_,g3'⟩:=hM k' b hb'
  rcases Nat.lt_trichotomy k k' with hh | hh | hh
  ·have:=crr pl g2 hh;omega
  ·exact hh
  ·have:=crr pl g2' hh;omega
 ·have hk':k<tr.length:=by omega
  have hjt:∃ t,tr[j]? = some t∧t.c=.M b:=by
   unfold Cat at hb
   cases htj:tr[j]? with
   | none=>rw [htj] at hb;cases hb
   | some t=>rw [htj] at hb;exact⟨t,rfl,hb⟩
  obtain⟨t,ht1,ht2⟩:=hjt
  have hq:=cox tr 0 hcmpM j t b ht1 ht2
  rw [Nat.zero_add] at hq
  refine ce6 tr 0 hq k tr[k] (List.getElem?_eq_getElem hk') ?_ (by rw [Nat.zero_add];exact ha)
  unfold Cat at hl
  rw [List.getElem?_eq_getElem hk'] at hl
  exact hl
 ·unfold Fat;rw [List.getElem?_eq_none (by omega)];rfl
 ·unfold Hat;rw [List.getElem?_eq_none (by omega)];rfl
 ·obtain⟨o,t,g1,g2,_,g3⟩:=hM k b hb
  omega
theorem co3{F F':Fm}{H H':HP}(hflow:b90 ops=true)(h:cx9 P ora n ops F H=some (F',H')) :
  ∃ Fs Hs vs cl,Run P ora n ops Fs Hs vs cl∧Fs 0=F∧Fs ops.length=F'∧Hs ops.length=H'∧H.n≤(Hs 0).n∧St H (Hs 0)∧(∀ b,b<H.n→(Hs 0).t.get b=H.t.get b)∧∀ k b,cl k=.M b→H.n≤b:=by
 unfold cx9 at h
 split at h
 ·rename_i tr r hr
  split at h
  ·rename_i hok
   cases h
   exact co4 hflow hr hok
  ·split at h
   ·rename_i tr2 r2 hr2
    split at h
    ·rename_i hok
     cases h
     exact co4 hflow hr2 hok
    ·cases h
   ·cases h
 ·cases h
section
variable {Fs:Nat→Fm} {Hs:Nat→HP} {vs:Nat→AV} {cl:Nat→Cls}
theorem Run.st(R:Run P ora n ops Fs Hs vs cl)(ho:ca7 ora){k:Nat}(hk:k<ops.length):St (Hs k) (Hs (k+1)):=by
 rcases R.step k ops[k] (List.getElem?_eq_getElem hk) with ⟨_,_,_,h,_⟩ | ⟨_,G,hs,h,_⟩ | ⟨_,_,_,_,_,h,_⟩
 ·rw [h];exact St.refl _
 rotate_left
 ·rw [h];exact St.refl _
 ·rw [h]
  obtain⟨⟨h1,h2⟩,h3⟩:=cc3 ho hs
  refine⟨⟨(b95 _ _).1,fun b hb hb'=>h2 b ?_ hb'⟩,h3⟩
  have:=(b95 (Hs k).lo G.lo).2
  simp only [HP.lower] at hb
  omega
theorem Run.n_le(R:Run P ora n ops Fs Hs vs cl)(ho:ca7 ora){i j:Nat}(hij:i≤j)(hj:j≤ops.length):(Hs i).n≤(Hs j).n:=by
 induction j with
 | zero=>rw [show i=0 by omega];exact Nat.le_refl _
 | succ j ih =>
  rcases Nat.lt_or_ge i (j+1) with h | h
  ·exact Nat.le_trans (ih (by omega) (by omega)) (R.st ho (by omega)).2.1
  ·rw [show i=j+1 by omega];exact Nat.le_refl _
theorem Run.hy(R:Run P ora n ops Fs Hs vs cl)(ho:ca7 ora):∀ {j:Nat},j≤ops.length→(Hs j).hy=(Hs 0).hy
 | 0,_=>rfl
 | j+1,hj=>(R.st ho (by omega)).2.2.1.trans (R.hy ho (by omega))
theorem Run.quiet(R:Run P ora n ops Fs Hs vs cl)(ho:ca7 ora){k:Nat}(hk:k<ops.length)(hc:(cl k).loud=false):∀ b,b<(Hs k).n→(Hs (k+1)).t.get b=(Hs k).t.get b:=by
 rcases R.step k ops[k] (List.getElem?_eq_getElem hk) with ⟨_,_,_,h,_⟩ | ⟨_,G,hs,h,_,hcl,_⟩ | ⟨_,_,_,_,_,h,_⟩
 ·rw [h];exact fun _ _=>rfl
 rotate_left
 ·rw [h];exact fun _ _=>rfl
 ·rw [h]
  intro b hb
  obtain⟨⟨h1,h2⟩,h3⟩:=cc3 ho hs
  rw [hcl] at hc
  unfold clsA at hc
  split at hc
  ·rename_i hp
   have:=(cb1 hp hs).1
   subst this
   rfl
  ·rename_i hp
   split at hc
   ·rename_i t x hop
    rw [hop] at hs hp
    obtain⟨b0,off,hx,_,hG,_⟩:=cmy hp hs
    subst hG
    rfl
   ·rename_i t x y _
    rcases b52 (Fs k) x with h1 | ⟨_,_,_,_,h1⟩<;>(rw [h1] at hc;cases hc)
   ·split at hc
    ·rename_i hble
     exact h2 b (by have:=Nat.le_of_ble_eq_true hble;omega) hb
    ·split at hc<;>cases hc
theorem Run.noMake(R:Run P ora n ops Fs Hs vs cl){k:Nat}(hk:k<ops.length)(hc:(cl k).makes=false):(Hs (k+1)).n=(Hs k).n:=by
 rcases R.step k ops[k] (List.getElem?_eq_getElem hk) with ⟨_,_,_,h,_⟩ | ⟨_,G,hs,h,_,hcl,_⟩ | ⟨_,_,_,_,_,h,_⟩
 ·rw [h]
 rotate_left
 ·rw [h]
 ·rw [h]
  rw [hcl] at hc
  unfold clsA at hc
  split at hc
  ·rename_i hp
   have:=(cb1 hp hs).1
   subst this
   rfl
  ·rename_i hp
   split at hc
   ·rename_i t x hop
    rw [hop] at hs hp
    obtain⟨b0,off,hx,_,hG,_⟩:=cmy hp hs
    subst hG
    rfl
   ·rename_i t x y hop
    rw [hop] at hs
    obtain⟨b0,off,hx,_,hG,_⟩:=cn6 hs
    exact hG
   ·split at hc
    ·cases hc
    ·split at hc<;>cases hc
theorem Run.other(R:Run P ora n ops Fs Hs vs cl){k b:Nat}(hk:k<ops.length)(hc:cl k=.S b):∀ b',b'≠b→(Hs (k+1)).t.get b'=(Hs k).t.get b':=by
 rcases R.step k ops[k] (List.getElem?_eq_getElem hk) with ⟨_,_,h0,h,_⟩ | ⟨_,G,hs,h,_,hcl,_⟩ | ⟨_,_,_,_,h0,_,_⟩
 ·rw [h0] at hc;cases hc
 rotate_left
 ·rw [h0] at hc;cases hc
 ·rw [h]
  rw [hcl] at hc
  unfold clsA at hc
  split at hc
  ·cases hc
  ·split at hc
   ·rename_i t x _
    rcases b7o (Fs k) x with h1 | ⟨_,_,_,_,h1⟩<;>(rw [h1] at hc;cases hc)
   ·rename_i t x y hop
    rw [hop] at hs
    obtain⟨a0,b0,hx,hb0,hn,hG⟩:=cn6 hs
    rcases b52 (Fs k) x with h1 | ⟨a1,b1,g1,g2,h1⟩
    ·rw [h1] at hc;cases hc
    ·rw [h1] at hc
     cases hc
     rw [hx] at g1
     cases g1
     rw [hb0] at g2
     cases g2
     exact hG
   ·split at hc
    ·cases hc
    ·split at hc<;>cases hc
theorem Run.otherT(R:Run P ora n ops Fs Hs vs cl)(ho:ca7 ora){k b:Nat}(hk:k<ops.length)(hc:cl k=.T b):∀ b',b'≠b→b'<(Hs k).n→(Hs (k+1)).t.get b'=(Hs k).t.get b':=by
 rcases R.step k ops[k] (List.getElem?_eq_getElem hk) with ⟨_,_,h0,h,_⟩ | ⟨_,G,hs,h,_,hcl,_⟩ | ⟨_,_,_,_,h0,_,_⟩
 ·rw [h0] at hc;cases hc
 rotate_left
 ·rw [h0] at hc;cases hc
 ·rw [h]
  rw [hcl] at hc
  unfold clsA at hc
  split at hc
  ·cases hc
  ·split at hc
   ·rename_i t x _
    rcases b7o (Fs k) x with h1 | ⟨_,_,_,_,h1⟩<;>(rw [h1] at hc;cases hc)
   ·rename_i t x y _
    rcases b52 (Fs k) x with h1 | ⟨_,_,_,_,h1⟩<;>(rw [h1] at hc;cases hc)
   ·split at hc
    ·cases hc
    ·split at hc
     ·rename_i hb
      cases hc
      exact fun b' h1 h2=>c7a hb hs b' h1 h2
     ·cases hc
theorem Run.otherY(R:Run P ora n ops Fs Hs vs cl)(ho:ca7 ora){k b:Nat}{s:Nat→Bool}(hk:k<ops.length)(hc:cl k=.Y b s):∀ b',s b'=true→b'<(Hs k).n→(Hs (k+1)).t.get b'=(Hs k).t.get b':=by
 rcases R.step k ops[k] (List.getElem?_eq_getElem hk) with ⟨_,_,h0,h,_⟩ | ⟨_,G,hs,h,_,hcl,_⟩ | ⟨_,_,_,_,h0,_,_⟩
 ·rw [h0] at hc;cases hc
 rotate_left
 ·rw [h0] at hc;cases hc
 ·rw [h]
  rw [hcl] at hc
  unfold clsA at hc
  split at hc
  ·cases hc
  ·split at hc
   ·rename_i t x _
    rcases b7o (Fs k) x with h1 | ⟨_,_,_,_,h1⟩<;>(rw [h1] at hc;cases hc)
   ·rename_i t x y _
    rcases b52 (Fs k) x with h1 | ⟨_,_,_,_,h1⟩<;>(rw [h1] at hc;cases hc)
   ·split at hc
    ·cases hc
    ·split at hc
     ·cases hc
     ·injection hc with _ hsole
      intro b' h1 h2
      obtain⟨⟨_,h4⟩,_⟩:=cc3 ho hs
      rw [← hsole] at h1
      rcases Nat.lt_or_ge b' G.lo with h5 | h5
      ·exact h4 b' h5 h2
      ·exact(cw2 h1 h5).symm
end
end
end Go.Sx

namespace Go.Sx
variable [Sg]
def cjg(ops:List Oper)(k:Nat):Option Tmp:=(ops[k]?).bind (·.dst)
def Itv(ops:List Oper)(cl:Nat→Cls)(D:Nat→Bool)(t:Nat):Prop:=t≤ops.length∧(∀ k,k<t→(cl k).loud=true→D k=true)∧(∀ k,D k=true→(cl k).loud=true→k<t)
structure Inv (n:Nat) (ops:List Oper) (Fs:Nat→Fm) (Hs:Nat→HP) (vs:Nat→AV) (cl:Nat→Cls) (H0:HP) (ρ0:PM) (w0:World) (df:List Deferred) (listed:Array Bool) (ρ:PM) (a:Act) (w:World):Prop where
 sz:listed.size=ops.length
 clo:∀ k i,dOf listed k=true→((befs ops).getD k 0).testBit i=true→dOf listed i=true
 tsz:a.tmps.size=n
 fr1:∀ p t,dOf listed p=true→cjg ops p=some t→∃ u,a.tmps[t]? = some u∧VRel (bel ρ (Hs (p+1)).n) (vs p) u
 fr2:∀ t v,(∀ p,dOf listed p=true→cjg ops p≠some t)→(Fs 0).get t=some v→∃ u,a.tmps[t]? = some u∧VRel ρ0 v u
 df:a.defers=df
 itv:∃ t,Itv ops cl (dOf listed) t
 sim:∀ t,Itv ops cl (dOf listed) t→Sim ρ0 H0 w0 (bel ρ (Hs t).n) (Hs t) w
 new:∀ b,ρ b≠none→ρ0 b≠none∨(∃ k,dOf listed k=true∧(Hs k).n≤b∧b<(Hs (k+1)).n)∨∃ k,dOf listed k=true∧cl k=.M b
 h00:H0.n≤(Hs 0).n
 le:PM.le ρ0 ρ
section
variable {P:Program} [Plain P] {ora:Ora} {n:Nat} {ops:List Oper} {Fs:Nat→Fm} {Hs:Nat→HP} {vs:Nat→AV} {cl:Nat→Cls} {H0:HP} {ρ0 ρ:PM} {w0 w:World} {df:List Deferred} {listed:Array Bool} {a:Act}
theorem Run.put(R:Run P ora n ops Fs Hs vs cl){k:Nat}{o:Oper}(hk:ops[k]? = some o):putF n (Fs k) o.dst (vs k)=some (Fs (k+1)):=by
 rcases R.step k o hk with ⟨_,hv,_,_,h⟩ | ⟨_,G,_,_,h,_⟩ | ⟨_,_,_,_,_,_,h⟩
 ·rw [hv];exact h
 ·exact h
 ·exact h
theorem c43{F F':Fm}{dst:Option Tmp}{v:AV}(h:putF n F dst v=some F')(t:Nat):F'.get t=if dst=some t then some v else F.get t:=by
 cases dst with
 | none=>cases h;simp
 | some d =>
  simp only [putF,c7p] at h
  split at h
  ·cases h
   rw [PT.get_put]
   simp only [Option.some.injEq]
   by_cases hd:t=d
   ·rw [if_pos hd,if_pos hd.symm]
   ·rw [if_neg hd,if_neg (Ne.symm hd)]
  ·cases h
theorem c8r{F F':Fm}{d:Tmp}{v:AV}(h:putF n F (some d) v=some F'):d<n:=by
 simp only [putF,c7p] at h
 split at h
 ·rename_i hb;exact Nat.le_of_ble_eq_true hb
 ·cases h
theorem Run.frame(R:Run P ora n ops Fs Hs vs cl):∀ j,j≤ops.length→∀ t v,(Fs j).get t=some v→(∃ p,p<j∧cjg ops p=some t∧v=vs p)∨((∀ p,p<j→cjg ops p≠some t)∧(Fs 0).get t=some v)
 | 0,_,t,v,h=>.inr ⟨fun p hp=>by omega,h⟩
 | j+1,hj,t,v,h=>by
  have hjl:j<ops.length:=by omega
  have hget:=ops[j]?
  have hp:=R.put (List.getElem?_eq_getElem hjl)
  rw [c43 hp] at h
  have hd:cjg ops j=ops[j].dst:=by unfold cjg;rw [List.getElem?_eq_getElem hjl];rfl
  split at h
  ·rename_i hdt
   cases h
   exact .inl ⟨j,by omega,by rw [hd];exact hdt,rfl⟩
  ·rename_i hdt
   rcases R.frame j (by omega) t v h with ⟨p,h1,h2,h3⟩ | ⟨h1,h2⟩
   ·exact .inl ⟨p,by omega,h2,h3⟩
   ·refine .inr ⟨fun p hp=>?_,h2⟩
    rcases Nat.lt_or_ge p j with h3 | h3
    ·exact h1 p h3
    ·rw [show p=j by omega,hd];exact hdt
theorem cdj{p:Nat}{t:Tmp}(h:cjg ops p=some t):∃ o,ops[p]? = some o∧o.dst=some t:=by
 unfold cjg at h
 cases ho:ops[p]? with
 | none=>rw [ho] at h;cases h
 | some o=>rw [ho] at h;exact⟨o,rfl,h⟩
theorem Inv.seen(R:Run P ora n ops Fs Hs vs cl)(ho:ca7 ora)(hd0:Dom ρ0 (Hs 0).n)(I:Inv n ops Fs Hs vs cl H0 ρ0 w0 df listed ρ a w){j:Nat}{o:Oper}(hj:ops[j]? = some o)(hjD:dOf listed j=false)
  (hanc:∀ i,((befs ops).getD j 0).testBit i=true→dOf listed i=true) (t:Nat) (ht:t∈o.looksAt ops.toArray) (v:AV) (hv:(Fs j).get t=some v):∃ u,a.tmps[t]? = some u∧VRel (bel ρ (Hs j).n) v u:=by
 have hjl:j<ops.length:=(List.getElem?_eq_some_iff.1 hj).1
 have hfl:=R.flow
 simp only [b90,Bool.and_eq_true] at hfl
 have hw:=cfe ops 0 hfl.2 j o hj
 rw [Nat.zero_add] at hw
 rcases R.frame j (by omega) t v hv with ⟨p,h1,h2,rfl⟩ | ⟨h1,h2⟩
 ·obtain⟨q,hq,hqt⟩:=cdj h2
  have hDp:dOf listed p=true:=by
   rcases b8r ops 0 hw p q t hq hqt ht (by omega) with ⟨_,h4⟩ | ⟨h3,_⟩
   ·rw [Nat.zero_add] at h4;exact hanc p h4
   ·omega
  obtain⟨u,hu,hr⟩:=I.fr1 p t hDp h2
  exact⟨u,hu,hr.mono (b89 (PM.le.refl ρ) (R.n_le ho (by omega) (by omega)))⟩
 ·obtain⟨u,hu,hr⟩:=I.fr2 t v (fun p hp hpt=>by
   obtain⟨q,hq,hqt⟩:=cdj hpt
   by_cases hpj:p=j
   ·subst hpj;rw [hjD] at hp;cases hp
   ·rcases Nat.lt_or_ge p j with h3 | h3
    ·exact h1 p h3 hpt
    ·rcases b8r ops 0 hw p q t hq hqt ht (by omega) with ⟨h4,_⟩ | ⟨_,h4⟩
     ·omega
     ·rw [Nat.zero_add] at h4
      have:=I.clo p j hp h4
      rw [hjD] at this
      cases this) h2
  refine⟨u,hu,hr.mono fun b x hb=>?_⟩
  rw [b4f (Nat.lt_of_lt_of_le (hd0.lt hb) (R.n_le ho (Nat.zero_le _) (by omega)))]
  exact I.le b x hb
theorem Inv.put(R:Run P ora n ops Fs Hs vs cl)(I:Inv n ops Fs Hs vs cl H0 ρ0 w0 df listed ρ a w){j:Nat}{o:Oper}(hj:ops[j]? = some o)(hjD:dOf listed j=false)
  (hanc:∀ i,((befs ops).getD j 0).testBit i=true→dOf listed i=true) {ρ':PM} {u:Value} {w':World} (hle:PM.le ρ ρ') (hv:VRel (bel ρ' (Hs (j+1)).n) (vs j) u)
  (hitv:∃ t,Itv ops cl (dOf (listed.setIfInBounds j true)) t)
  (hsim:∀ t,Itv ops cl (dOf (listed.setIfInBounds j true)) t→Sim ρ0 H0 w0 (bel ρ' (Hs t).n) (Hs t) w')
  (hnew:∀ b,ρ b=none→ρ' b≠none→((Hs j).n≤b∧b<(Hs (j+1)).n)∨cl j=.M b) :
  Inv n ops Fs Hs vs cl H0 ρ0 w0 df (listed.setIfInBounds j true) ρ' (a.put o.dst u) w':=by
 have hjl:j<ops.length:=(List.getElem?_eq_some_iff.1 hj).1
 have hD':=b9u listed (j:=j) (by rw [I.sz];exact hjl)
 have hmono:∀ i,dOf listed i=true→dOf (listed.setIfInBounds j true) i=true:=fun i hi=>by
  rw [hD']
  by_cases hij:i=j
  ·simp [hij]
  ·simp [hij,hi]
 have hdj:cjg ops j=o.dst:=by unfold cjg;rw [hj];rfl
 have hfl:=R.flow
 simp only [b90,Bool.and_eq_true] at hfl
 have hget:∀ t,o.dst≠some t→(a.put o.dst u).tmps[t]? = a.tmps[t]?:=by
  intro t ht
  cases hd:o.dst with
  | none=>rfl
  | some d =>
   simp only [Act.put]
   rw [Array.getElem?_setIfInBounds_ne (fun h=>ht (by rw [hd,h]))]
 exact {
  sz:=by simp [I.sz]
  clo:=fun k i hk hb=>by
   by_cases hkj:k=j
   ·subst hkj;exact hmono i (hanc i hb)
   ·rw [hD'] at hk
    simp only [hkj,if_false] at hk
    exact hmono i (I.clo k i hk hb)
  tsz:=by rw [← I.tsz];cases o.dst<;>simp [Act.put]
  fr1:=fun p t hp hpt=>by
   by_cases hpj:p=j
   ·subst hpj
    rw [hdj] at hpt
    have hlt:=R.put hj
    rw [hpt] at hlt
    have:=c8r hlt
    rw [← I.tsz] at this
    refine⟨u,?_,hv⟩
    rw [hpt]
    simp only [Act.put]
    rw [Array.getElem?_setIfInBounds_self_of_lt this]
   ·rw [hD'] at hp
    simp only [hpj,if_false] at hp
    obtain⟨u',h1,h2⟩:=I.fr1 p t hp hpt
    obtain⟨q,hq,hqt⟩:=cdj hpt
    exact⟨u',by rw [hget t (fun h=>hpj (cgs ops hfl.1.2 p j q o t hq hj hqt h))];exact h1,h2.mono (b89 hle (Nat.le_refl _))⟩
  fr2:=fun t v hno hv'=>by
   obtain⟨u',h1,h2⟩:=I.fr2 t v (fun p hp=>hno p (hmono p hp)) hv'
   exact⟨u',by rw [hget t (fun h=>hno j (by rw [hD'];simp) (by rw [hdj];exact h))];exact h1,h2⟩
  df:=by rw [put_defers];exact I.df
  itv:=hitv
  sim:=hsim
  new:=fun b hb=>by
   cases h:ρ b with
   | none =>
    rcases hnew b h hb with h1 | h1
    ·exact .inr (.inl ⟨j,by rw [hD'];simp,h1⟩)
    ·exact .inr (.inr ⟨j,by rw [hD'];simp,h1⟩)
   | some x =>
    rcases I.new b (by rw [h];simp) with h1 | ⟨k,h1,h2⟩ | ⟨k,h1,h2⟩
    ·exact .inl h1
    ·exact .inr (.inl ⟨k,hmono k h1,h2⟩)
    ·exact .inr (.inr ⟨k,hmono k h1,h2⟩)
  h00:=I.h00
  le:=I.le.trans hle }
theorem Itv.quiet{D D':Nat→Bool}{j t:Nat}(hD':D'=fun i=>if i=j then true else D i)(hc:(cl j).loud=false):Itv ops cl D' t↔Itv ops cl D t:=by
 subst hD'
 constructor
 ·rintro⟨h1,h2,h3⟩
  refine⟨h1,fun k hk hl=>?_,fun k hk hl=>h3 k ?_ hl⟩
  ·have:=h2 k hk hl
   by_cases hkj:k=j
   ·subst hkj;rw [hc] at hl;cases hl
   ·simpa [hkj] using this
  ·by_cases hkj:k=j
   ·simp [hkj]
   ·simpa [hkj] using hk
 ·rintro⟨h1,h2,h3⟩
  refine⟨h1,fun k hk hl=>?_,fun k hk hl=>h3 k ?_ hl⟩
  ·have:=h2 k hk hl
   by_cases hkj:k=j
   ·simp [hkj]
   ·simpa [hkj] using this
  ·by_cases hkj:k=j
   ·subst hkj;rw [hc] at hl;cases hl
   ·simpa [hkj] using hk
theorem Itv.between{D:Nat→Bool}{s t k:Nat}(hs:Itv ops cl D s)(ht:Itv ops cl D t)(h1:s≤k)(h2:k<t):(cl k).loud=false:=by
 cases h:(cl k).loud with
 | false=>rfl
 | true=>have:=hs.2.2 k (ht.2.1 k h2 h) h;omega
theorem Run.same(R:Run P ora n ops Fs Hs vs cl)(ho:ca7 ora){s t:Nat}(hst:s≤t)(ht:t≤ops.length)(hq:∀ k,s≤k→k<t→(cl k).loud=false):∀ b,b<(Hs s).n→(Hs t).t.get b=(Hs s).t.get b:=by
 induction t with
 | zero=>rw [show s=0 by omega];exact fun _ _=>rfl
 | succ t ih =>
  intro b hb
  rcases Nat.lt_or_ge s (t+1) with h | h
  ·have hsn:=R.n_le ho (show s≤t by omega) (by omega)
   rw [R.quiet ho (by omega) (hq t (by omega) (by omega)) b (by omega)]
   exact ih (by omega) (by omega) (fun k h1 h2=>hq k h1 (by omega)) b hb
  ·rw [show s=t+1 by omega]
theorem Itv.max{D:Nat→Bool}:∀ (m t:Nat),ops.length - t=m→Itv ops cl D t→∃ t',t≤t'∧Itv ops cl D t'∧(t'=ops.length∨(cl t').loud=true)
 | 0,t,hm,h=>⟨t,Nat.le_refl _,h,.inl (by have:=h.1;omega)⟩
 | m+1,t,hm,h=>by
  cases hc:(cl t).loud with
  | true=>exact⟨t,Nat.le_refl _,h,.inr hc⟩
  | false =>
   have hnext:Itv ops cl D (t+1):=by
    refine⟨by omega,fun k hk hl=>?_,fun k hk hl=>?_⟩
    ·rcases Nat.lt_or_ge k t with h4 | h4
     ·exact h.2.1 k h4 hl
     ·rw [show k=t by omega,hc] at hl;cases hl
    ·have:=h.2.2 k hk hl;omega
   obtain⟨t',h1,h2,h3⟩:=Itv.max (D:=D) m (t+1) (by omega) hnext
   exact⟨t',by omega,h2,h3⟩
end
end Go.Sx
