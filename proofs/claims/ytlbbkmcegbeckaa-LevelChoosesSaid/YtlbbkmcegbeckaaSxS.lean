/-
  A symbolic executor: arithmetic, tests, texts on what is known by expressions. Conditions: none; nothing here speaks of one program.
-/
import Derived.Test.YtlbbkmcegbeckaaSvR
set_option linter.all false
set_option maxRecDepth 100000
noncomputable section
namespace Go.Sx
noncomputable section
def iX:Cel→Option (IntKind×X)
 | .lit (.int k z)=>some (k,.lit (.int k z))
 | .sv (.int k) _ e=>some (k,e)
 | _=>none
def bX:Cel→Option X
 | .lit (.bool b)=>some (.lit (.bool b))
 | .sv .bool _ e=>some e
 | _=>none
def sX:Cel→Option X
 | .lit (.string s)=>some (.lit (.string s))
 | .sv .str _ e=>some e
 | _=>none
def svI(k:IntKind)(e:X):Cel:=.sv (.int k) [] e
def svB(e:X):Cel:=.sv .bool [] e
def svS(e:X):Cel:=.sv .str [] e
def oneC(v:Option AV):Option Cel :=
 match v with
 | some (.one c)=>some c
 | _=>none
def azl(hy:List X)(k:IntKind)(e:X):X :=
 match leX hy (.lit (.int k k.min)) e,leX hy e (.lit (.int k k.max)) with
 | true,true=>e
 | _,_=>.ap (.wr k) [e]
def nzX(hy:List X)(e:X):Bool:=ltX hy (.lit (.int .i64 0)) e||ltX hy e (.lit (.int .i64 0))
def notE(e:X):X:=.ap .not [e]
def intY(hy:List X)(op:BinOp)(k:IntKind)(e e':X):Option Cel :=
 match op with
 | .add=>some (svI k (azl hy k (.ap (.add k) [e,e'])))
 | .sub=>some (svI k (azl hy k (.ap (.sub k) [e,e'])))
 | .mul=>some (svI k (azl hy k (.ap (.mul k) [e,e'])))
 | .quo=>match nzX hy e' with
  | true=>some (svI k (.ap (.bin .quo k) [e,e']))
  | false=>none
 | .rem=>match nzX hy e' with
  | true=>some (svI k (.ap (.bin .rem k) [e,e']))
  | false=>none
 | .and=>some (svI k (.ap (.bin .and k) [e,e']))
 | .or=>some (svI k (.ap (.bin .or k) [e,e']))
 | .xor=>some (svI k (.ap (.bin .xor k) [e,e']))
 | .andNot=>some (svI k (.ap (.bin .andNot k) [e,e']))
 | .eql=>some (svB (.ap .eq [e,e']))
 | .neq=>some (svB (notE (.ap .eq [e,e'])))
 | .lss=>some (svB (.ap .lt [e,e']))
 | .leq=>some (svB (.ap .le [e,e']))
 | .gtr=>some (svB (.ap .lt [e',e]))
 | .geq=>some (svB (.ap .le [e',e]))
 | _=>none
def shfY(hy:List X)(op:BinOp)(k:IntKind)(e e':X):Option Cel :=
 match op,leX hy (.lit (.int .i64 0)) e' with
 | .shl,true=>some (svI k (.ap (.shf .shl k) [e,e']))
 | .shr,true=>some (svI k (.ap (.shf .shr k) [e,e']))
 | _,_=>none
def b0x:BinOp→Bool
 | .shl=>true
 | .shr=>true
 | _=>false
def strY(hy:List X)(op:BinOp)(e e':X):Option Cel :=
 match op with
 | .add=>match leX hy (.ap (.add .i64) [.ap .slen [e],.ap .slen [e']]) (.lit (.int .i64 9223372036854775806)) with
  | true=>some (svS (.ap (.sbin .add) [e,e']))
  | false=>none
 | .eql=>some (svB (.ap .eq [e,e']))
 | .neq=>some (svB (notE (.ap .eq [e,e'])))
 | .lss=>some (svB (.ap (.sbin .lss) [e,e']))
 | .leq=>some (svB (.ap (.sbin .leq) [e,e']))
 | .gtr=>some (svB (.ap (.sbin .lss) [e',e]))
 | .geq=>some (svB (.ap (.sbin .leq) [e',e]))
 | _=>none
def andE(a b:X):X:=.ap .and [a,b]
def bzw:X:=.lit (.bool true)
def eqFX(eq:TypeId→List Cel→List Cel→Option X)(sz:TypeId→Option (Bool×Nat))(xs ys:List Cel):List Field→Option X
 | []=>some bzw
 | f::fs =>
  match sz f.type with
  | none=>none
  | some (ag,n) =>
   if f.offset+(wid ag n)≤xs.length∧f.offset+(wid ag n)≤ys.length then
    match eq f.type (cut xs f.offset (wid ag n)) (cut ys f.offset (wid ag n)),eqFX eq sz xs ys fs with
    | some r,some rs=>some (andE r rs)
    | _,_=>none
   else none
def eqEX(eq:List Cel→List Cel→Option X)(c:Nat):Nat→List Cel→List Cel→Option X
 | 0,_,_=>some bzw
 | n+1,xs,ys=>match eq (takeN c xs) (takeN c ys),eqEX eq c n (aj7 c xs) (aj7 c ys) with
  | some r,some rs=>some (andE r rs)
  | _,_=>none
def eqTX(P:Program)[Plain P]:Nat→TypeId→List Cel→List Cel→Option X
 | 0,_,_,_=>none
 | d+1,t,xs,ys =>
  match undT P t with
  | some (.int _)=>match xs,ys with
   | [x],[y]=>match iX x,iX y with
    | some (k,e),some (k',e')=>if k=k' then some (.ap .eq [e,e']) else none
    | _,_=>none
   | _,_=>none
  | some .bool=>match xs,ys with
   | [x],[y]=>match bX x,bX y with
    | some e,some e'=>some (.ap .eq [e,e'])
    | _,_=>none
   | _,_=>none
  | some .string=>match xs,ys with
   | [x],[y]=>match sX x,sX y with
    | some e,some e'=>some (.ap .eq [e,e'])
    | _,_=>none
   | _,_=>none
  | some (.struct fs)=>if Plain.plain P t then eqFX (eqTX P d) (szA P) xs ys fs.toList else none
  | some (.array n e)=>match szA P e with
   | some (ag,c)=>if wid ag c=c∧n*c≤xs.length∧n*c≤ys.length then eqEX (eqTX P d e) c n xs ys else none
   | none=>none
  | _=>none
def binY(P:Program)[Plain P](hy:List X)(op:BinOp)(t:TypeId)(a b:AV):Option Cel :=
 match a,b with
 | .one x,.one y=>match iX x,iX y with
  | some (k,e),some (k',e')=>match b0x op with
   | true=>shfY hy op k e e'
   | false=>if k=k' then intY hy op k e e' else none
  | _,_=>match sX x,sX y with
   | some e,some e'=>strY hy op e e'
   | _,_=>match undT P t,bX x,bX y with
    | some .bool,some e,some e'=>match op with
     | .eql=>some (svB (.ap .eq [e,e']))
     | .neq=>some (svB (notE (.ap .eq [e,e'])))
     | _=>none
    | _,_,_=>none
 | .agg xs,.agg ys=>match szA P t with
  | some (true,_)=>if Plain.plain P t then
    match op,eqTX P 8 t xs ys with
    | .eql,some e=>some (svB e)
    | .neq,some e=>some (svB (notE e))
    | _,_=>none
   else none
  | _=>none
 | _,_=>none
def unY(hy:List X)(op:UnOp)(x:Cel):Option Cel :=
 match op with
 | .not=>match bX x with
  | some e=>some (svB (notE e))
  | none=>none
 | .neg=>match iX x with
  | some (k,e)=>some (svI k (.ap (.neg k) [e]))
  | none=>none
 | _=>none
section
variable (P:Program) [Plain P] (E:Operand→Option AV) (H:HP)
def yBin(op:BinOp)(t:TypeId)(x y:Operand):R :=
 match E x,E y with
 | some a,some b=>(binY P H.hy op t a b).map fun c=>(.one c,H)
 | _,_=>none
def yUn(op:UnOp)(x:Operand):R :=
 match E x with
 | some (.one c)=>(unY H.hy op c).map fun c=>(.one c,H)
 | _=>none
def blb(c a b:Operand):R :=
 match E c with
 | some (.one (.sv .bool _ e))=>match known H.hy e with
  | some t=>(if t then E a else E b).map fun v=>(v,H)
  | none=>none
 | _=>none
end
end
section
variable [Sg] {P:Program} [Plain P] {E:Operand→Option AV} {H H':HP} {w:World} {ρ:PM} {ev:Operand→Value} {v:AV}
def litV:Cel→Cel
 | .sv (.int k) _ e=>.lit (.int k (den e).iv)
 | .sv .bool _ e=>.lit (.bool (den e).bv)
 | .sv .str _ e=>.lit (.string (den e).str)
 | c=>c
theorem bcb{c:Cel}{u:Value}(h:CRel ρ c u):CRel ρ (litV c) u:=by
 unfold litV
 split
 ·obtain⟨_,n,h1,h2,h3⟩:=h
  rw [h1]
  exact⟨h2,h3⟩
 ·obtain⟨_,b,h1,h2⟩:=h
  rw [h1]
  exact⟨h2,rfl⟩
 ·obtain⟨_,s,h1,h2,h3⟩:=h
  rw [h1]
  exact⟨h2,by simp only [abw,Dt];exact h3⟩
 ·exact h
def litA:AV→AV
 | .one c=>.one (litV c)
 | .agg xs=>.agg (xs.map litV)
 | .tup vs=>.tup vs
theorem a6j:∀ {xs:List Cel} {us:List Value},All2 (CRel ρ) xs us→All2 (CRel ρ) (xs.map litV) us
 | [],[],_=>trivial
 | _::_,_::_,⟨h1,h2⟩=>⟨bcb h1,a6j h2⟩
 | [],_::_,h=>h.elim
 | _::_,[],h=>h.elim
theorem bms{a:AV}{u:Value}(h:VRel ρ a u):VRel ρ (litA a) u:=by
 cases a with
 | one c=>exact bcb (ρ:=ρ) h
 | agg xs=>obtain⟨us,h1,h2⟩:=h;exact⟨us,h1,a6j h2⟩
 | tup vs=>exact h
theorem ael{c:Cel}{k:IntKind}{e:X}{u:Value}(h:iX c=some (k,e))(hr:CRel ρ c u):litV c=.lit (.int k (den e).iv)∧den e=.v (.int k (den e).iv)∧u=.int k (den e).iv∧abw (.int k (den e).iv)=true:=by
 unfold iX at h
 split at h
 ·cases h
  exact⟨rfl,rfl,hr.1,hr.2⟩
 ·cases h
  obtain⟨_,n,h1,h2,h3⟩:=hr
  refine⟨rfl,?_,?_,?_⟩
  ·rw [h1];rfl
  ·rw [h1];exact h2
  ·rw [h1];exact h3
 ·cases h
theorem au1{c:Cel}{e:X}{u:Value}(h:bX c=some e)(hr:CRel ρ c u):litV c=.lit (.bool (den e).bv)∧den e=.v (.bool (den e).bv)∧u=.bool (den e).bv:=by
 unfold bX at h
 split at h
 ·cases h
  exact⟨rfl,rfl,hr.1⟩
 ·cases h
  obtain⟨_,n,h1,h2⟩:=hr
  refine⟨rfl,?_,?_⟩
  ·rw [h1];rfl
  ·rw [h1];exact h2
 ·cases h
theorem ash{c:Cel}{e:X}{u:Value}(h:sX c=some e)(hr:CRel ρ c u):litV c=.lit (.string (den e).str)∧den e=.v (.string (den e).str)∧u=.string (den e).str∧(den e).str.size≤maxN:=by
 unfold sX at h
 split at h
 ·cases h
  refine⟨rfl,rfl,hr.1,?_⟩
  have:=hr.2
  simp only [abw,Dt] at this
  exact this
 ·cases h
  obtain⟨_,n,h1,h2,h3⟩:=hr
  refine⟨rfl,?_,?_,?_⟩
  ·rw [h1];rfl
  ·rw [h1];exact h2
  ·rw [h1];exact h3
 ·cases h
theorem bus{k:IntKind}{n:Int}(h1:k.min≤n)(h2:n≤k.max):k.wrap n=n:=by
 unfold IntKind.wrap
 cases k<;>simp only [IntKind.signed,IntKind.bits,IntKind.min,IntKind.max] at *<;>simp at *<;>(try split)<;>omega
theorem als{hy:List X}(hh:Holds hy){k:IntKind}{e:X}(he:den e=.v (.int k (den e).iv)):den (azl hy k e)=.v (.int k (k.wrap (den e).iv)):=by
 unfold azl
 split
 ·rename_i h1 h2
  have g1:k.min≤(den e).iv:=acu hh h1
  have g2:(den e).iv≤k.max:=acu hh h2
  rw [bus g1 g2]
  exact he
 ·rfl
theorem ac9{k:IntKind}{e:X}{n:Int}(h:den e=.v (.int k n))(ho:abw (.int k n)=true):CRel ρ (svI k e) (.int k n):=⟨fun g hg=>(by cases hg),n,h,rfl,ho⟩
theorem ac8{e:X}{b:Bool}(h:den e=.v (.bool b)):CRel ρ (svB e) (.bool b):=⟨fun g hg=>(by cases hg),b,h,rfl⟩
theorem bau{e:X}{s:ByteArray}(h:den e=.v (.string s))(ho:abw (.string s)=true):CRel ρ (svS e) (.string s):=⟨fun g hg=>(by cases hg),s,h,rfl,by simp only [abw,Dt] at ho;exact ho⟩
theorem bp4{hy:List X}(hh:Holds hy){e:X}(h:nzX hy e=true):(den e).iv≠0:=by
 unfold nzX at h
 rw [Bool.or_eq_true] at h
 rcases h with h | h
 ·have:(0:Int)<(den e).iv:=agh hh h
  omega
 ·have:(den e).iv<(0:Int):=agh hh h
  omega
def Same(ρ:PM)(c:Cel)(r:Value):Prop:=abw r=true→CRel ρ c r
theorem bg5{hy:List X}(hh:Holds hy){op:BinOp}{k:IntKind}{e e':X}{c:Cel}{a b:Int}(h:intY hy op k e e'=some c)(he:den e=.v (.int k a))(he':den e'=.v (.int k b)):∃ r,ail op k a b=some r∧Same ρ c r:=by
 have e1:(den e).iv=a:=by rw [he];rfl
 have e2:(den e').iv=b:=by rw [he'];rfl
 have eqd:den (.ap .eq [e,e'])=.v (.bool (decide (a=b))):=by
  show aan (eqC (den e) (den e'))=_
  rw [he,he']
  rfl
 cases op<;>simp only [intY] at h
 case add =>
  cases h
  refine⟨_,rfl,fun ho=>ac9 ?_ ho⟩
  rw [als hh rfl]
  show CD.v (.int k (k.wrap ((den e).iv+(den e').iv)))=_
  rw [e1,e2]
 case sub =>
  cases h
  refine⟨_,rfl,fun ho=>ac9 ?_ ho⟩
  rw [als hh rfl]
  show CD.v (.int k (k.wrap ((den e).iv - (den e').iv)))=_
  rw [e1,e2]
 case mul =>
  cases h
  refine⟨_,rfl,fun ho=>ac9 ?_ ho⟩
  rw [als hh rfl]
  show CD.v (.int k (k.wrap ((den e).iv*(den e').iv)))=_
  rw [e1,e2]
 case quo =>
  split at h
  ·rename_i hz
   cases h
   have hb:b≠0:=by rw [← e2];exact bp4 hh hz
   refine⟨.int k (k.wrap (a.tdiv b)),if_neg hb,fun ho=>ac9 ?_ ho⟩
   show orV (ail .quo k (den e).iv (den e').iv)=_
   rw [e1,e2,show ail .quo k a b=some (.int k (k.wrap (a.tdiv b))) from if_neg hb]
   rfl
  ·cases h
 case rem =>
  split at h
  ·rename_i hz
   cases h
   have hb:b≠0:=by rw [← e2];exact bp4 hh hz
   refine⟨.int k (a.tmod b),if_neg hb,fun ho=>ac9 ?_ ho⟩
   show orV (ail .rem k (den e).iv (den e').iv)=_
   rw [e1,e2,show ail .rem k a b=some (.int k (a.tmod b)) from if_neg hb]
   rfl
  ·cases h
 case and=>cases h;exact⟨_,rfl,fun ho=>ac9 (by show orV (ail .and k (den e).iv (den e').iv)=_;rw [e1,e2];rfl) ho⟩
 case or=>cases h;exact⟨_,rfl,fun ho=>ac9 (by show orV (ail .or k (den e).iv (den e').iv)=_;rw [e1,e2];rfl) ho⟩
 case xor=>cases h;exact⟨_,rfl,fun ho=>ac9 (by show orV (ail .xor k (den e).iv (den e').iv)=_;rw [e1,e2];rfl) ho⟩
 case andNot=>cases h;exact⟨_,rfl,fun ho=>ac9 (by show orV (ail .andNot k (den e).iv (den e').iv)=_;rw [e1,e2];rfl) ho⟩
 case eql =>
  cases h
  refine⟨_,rfl,fun _=>ac8 ?_⟩
  rw [eqd]
  rfl
 case neq =>
  cases h
  refine⟨_,rfl,fun _=>ac8 ?_⟩
  show aan (!(den (.ap .eq [e,e'])).bv)=_
  rw [eqd]
  show aan (!decide (a=b))=.v (.bool (a != b))
  by_cases hab:a=b
  ·subst hab;simp [aan]
  ·simp [aan,hab]
 case lss=>cases h;exact⟨_,rfl,fun _=>ac8 (by show aan (decide ((den e).iv<(den e').iv))=_;rw [e1,e2];rfl)⟩
 case leq=>cases h;exact⟨_,rfl,fun _=>ac8 (by show aan (decide ((den e).iv≤(den e').iv))=_;rw [e1,e2];rfl)⟩
 case gtr=>cases h;exact⟨_,rfl,fun _=>ac8 (by show aan (decide ((den e').iv<(den e).iv))=_;rw [e1,e2];rfl)⟩
 case geq=>cases h;exact⟨_,rfl,fun _=>ac8 (by show aan (decide ((den e').iv≤(den e).iv))=_;rw [e1,e2];rfl)⟩
 all_goals cases h
theorem ajy:∀ (a:List UInt8),Op.bytesLess a a=false
 | []=>rfl
 | x::r=>by
  show(decide (x<x)||(x==x&&Op.bytesLess r r))=false
  rw [ajy r]
  simp [UInt8.lt_irrefl]
theorem ahq:∀ (a b:List UInt8),Op.bytesLess b a = !(Op.bytesLess a b||a==b)
 | [],[]=>rfl
 | [],y::s=>rfl
 | x::r,[]=>rfl
 | x::r,y::s=>by
  have ih:=ahq r s
  show(decide (y<x)||(y==x&&Op.bytesLess s r)) = !((decide (x<y)||(x==y&&Op.bytesLess r s))||((x::r)==(y::s)))
  rw [ih]
  rcases Nat.lt_trichotomy x.toNat y.toNat with h | h | h
  ·have h1:x<y:=h
   have h2:¬ y<x:=fun h'=>by have:y.toNat<x.toNat:=h';omega
   have h3:¬ y=x:=fun h'=>by rw [h'] at h;omega
   simp [h1,h2,h3]
  ·have h1:x=y:=UInt8.toNat_inj.1 h
   subst h1
   simp [UInt8.lt_irrefl]
  ·have h1:y<x:=h
   have h2:¬ x<y:=fun h'=>by have:x.toNat<y.toNat:=h';omega
   have h3:¬ x=y:=fun h'=>by rw [h'] at h;omega
   simp [h1,h2,h3]
theorem bka{hy:List X}(hh:Holds hy){op:BinOp}{k:IntKind}{e e':X}{c:Cel}{a b:Int}(h:shfY hy op k e e'=some c)(e1:(den e).iv=a)(e2:(den e').iv=b):∃ r,atr op k a b=some r∧Same ρ c r:=by
 unfold shfY at h
 split at h
 ·rename_i hb
  cases h
  have hb:(0:Int)≤b:=by rw [← e2];exact acu hh hb
  refine⟨.int k (k.wrap (a*2 ^ (min b.toNat k.bits))),if_pos hb,fun ho=>ac9 ?_ ho⟩
  show orV (atr .shl k (den e).iv (den e').iv)=_
  rw [e1,e2,show atr .shl k a b=some (.int k (k.wrap (a*2 ^ (min b.toNat k.bits)))) from if_pos hb]
  rfl
 ·rename_i hb
  cases h
  have hb:(0:Int)≤b:=by rw [← e2];exact acu hh hb
  refine⟨.int k (a.fdiv (2 ^ (min b.toNat k.bits))),if_pos hb,fun ho=>ac9 ?_ ho⟩
  show orV (atr .shr k (den e).iv (den e').iv)=_
  rw [e1,e2,show atr .shr k a b=some (.int k (a.fdiv (2 ^ (min b.toNat k.bits)))) from if_pos hb]
  rfl
 ·cases h
theorem bkl{hy:List X}(hh:Holds hy){op:BinOp}{e e':X}{c:Cel}{a b:ByteArray}(h:strY hy op e e'=some c)(he:den e=.v (.string a))(he':den e'=.v (.string b))(ha:a.size≤maxN)(hb:b.size≤maxN):∃ r,strA op a b=some r∧Same ρ c r:=by
 have e1:(den e).str=a:=by rw [he];rfl
 have e2:(den e').str=b:=by rw [he'];rfl
 have eqd:den (.ap .eq [e,e'])=.v (.bool (a.toList==b.toList)):=by
  show aan (eqC (den e) (den e'))=_
  rw [he,he']
  rfl
 cases op<;>simp only [strY] at h
 case add =>
  split at h
  ·rename_i hl
   cases h
   have hl:((den e).slen:Int)+((den e').slen:Int)≤9223372036854775806:=acu hh hl
   have l1:(den e).slen=a.size:=by rw [he];exact ai9 ha
   have l2:(den e').slen=b.size:=by rw [he'];exact ai9 hb
   rw [l1,l2] at hl
   have hle:a.size+b.size≤9223372036854775807:=by omega
   refine⟨.string (a++b),if_pos hle,fun ho=>bau ?_ ho⟩
   show orV (strA .add (den e).str (den e').str)=_
   rw [e1,e2,show strA .add a b=some (.string (a++b)) from if_pos hle]
   rfl
  ·cases h
 case eql=>cases h;exact⟨_,rfl,fun _=>ac8 eqd⟩
 case neq =>
  cases h
  refine⟨_,rfl,fun _=>ac8 ?_⟩
  show aan (!(den (.ap .eq [e,e'])).bv)=_
  rw [eqd]
  rfl
 case lss=>cases h;exact⟨_,rfl,fun _=>ac8 (by show orV (strA .lss (den e).str (den e').str)=_;rw [e1,e2];rfl)⟩
 case leq=>cases h;exact⟨_,rfl,fun _=>ac8 (by show orV (strA .leq (den e).str (den e').str)=_;rw [e1,e2];rfl)⟩
 case gtr =>
  cases h
  refine⟨_,rfl,fun _=>ac8 ?_⟩
  show orV (strA .lss (den e').str (den e).str)=_
  rw [e1,e2]
  show CD.v (.bool (Op.bytesLess b.toList a.toList))=CD.v (.bool !(Op.bytesLess a.toList b.toList||a.toList==b.toList))
  rw [ahq]
 case geq =>
  cases h
  refine⟨_,rfl,fun _=>ac8 ?_⟩
  show orV (strA .leq (den e').str (den e).str)=_
  rw [e1,e2]
  show CD.v (.bool (Op.bytesLess b.toList a.toList||b.toList==a.toList))=CD.v (.bool !(Op.bytesLess a.toList b.toList))
  rw [ahq b.toList a.toList]
  have:(b.toList==a.toList)=(a.toList==b.toList):=by rw [Bool.eq_iff_iff,beq_iff_eq,beq_iff_eq];exact eq_comm
  rw [this]
  by_cases hab:a.toList=b.toList
  ·rw [hab,ajy,beq_self_eq_true]
   rfl
  ·have hf:(a.toList==b.toList)=false:=by rw [beq_eq_false_iff_ne];exact hab
   simp only [hf,Bool.or_false,Bool.not_not]
 all_goals cases h
theorem bgl{d:Nat}(ih:∀ (t:TypeId) (xs ys:List Cel) (us vs:List Value) (e:X),eqTX P d t xs ys=some e→All2 (CRel ρ) xs us→All2 (CRel ρ) ys vs→den e=.v (.bool (den e).bv)∧eqT P d t (xs.map litV) (ys.map litV)=some (den e).bv){xs ys:List Cel}{us vs:List Value}(hx:All2 (CRel ρ) xs us)(hy:All2 (CRel ρ) ys vs) :
  ∀ (fs:List Field) (e:X),eqFX (eqTX P d) (szA P) xs ys fs=some e→den e=.v (.bool (den e).bv)∧eqFs (eqT P d) (szA P) (xs.map litV) (ys.map litV) fs=some (den e).bv
 | [],e,h=>by cases h;exact⟨rfl,rfl⟩
 | f::fs,e,h=>by
  simp only [eqFX,eqFs] at h ⊢
  split at h
  ·cases h
  ·rename_i ag n hs
   split at h
   ·rename_i hle
    split at h
    ·rename_i r rs hr hrs
     cases h
     obtain⟨k1,k2⟩:=ih f.type _ _ _ _ r hr (hx.cut _ _) (hy.cut _ _)
     obtain⟨k3,k4⟩:=bgl ih hx hy fs rs hrs
     have hm:∀ zs:List Cel,cut (zs.map litV) f.offset (wid ag n)=(cut zs f.offset (wid ag n)).map litV:=fun zs=>by
      unfold cut
      rw [List.map_take,List.map_drop]
     refine⟨rfl,?_⟩
     rw [hs]
     simp only [List.length_map]
     rw [if_pos hle,hm,hm,k2,k4]
     rfl
    ·cases h
   ·cases h
theorem bgj{eq:List Cel→List Cel→Option X}{eq':List Cel→List Cel→Option Bool}{c:Nat}(ih:∀ (xs ys:List Cel) (us vs:List Value) (e:X),eq xs ys=some e→All2 (CRel ρ) xs us→All2 (CRel ρ) ys vs→eq' (xs.map litV) (ys.map litV)=some (den e).bv) :
  ∀ (n:Nat) {xs ys:List Cel} {us vs:List Value} (e:X),All2 (CRel ρ) xs us→All2 (CRel ρ) ys vs→eqEX eq c n xs ys=some e→den e=.v (.bool (den e).bv)∧eqEs eq' c n (xs.map litV) (ys.map litV)=some (den e).bv
 | 0,xs,ys,us,vs,e,_,_,h=>by cases h;exact⟨rfl,rfl⟩
 | n+1,xs,ys,us,vs,e,hx,hy,h=>by
  simp only [eqEX,eqEs] at h ⊢
  split at h
  ·rename_i r rs hr hrs
   cases h
   rw [afu,afu] at hr
   rw [ae2,ae2] at hrs
   have k2:=ih _ _ _ _ r hr (hx.take c) (hy.take c)
   obtain⟨_,k4⟩:=bgj ih n rs (hx.drop c) (hy.drop c) hrs
   refine⟨rfl,?_⟩
   rw [afu,afu,ae2,ae2,← List.map_take,← List.map_take,← List.map_drop,← List.map_drop,k2,k4]
   rfl
  ·cases h
theorem aqb{x:Cel}{us:List Value}(h:All2 (CRel ρ) [x] us):∃ u,us=[u]∧CRel ρ x u:=by
 match us,h with
 | [u],h=>exact⟨u,rfl,h.1⟩
theorem a1n:∀ (d:Nat) (t:TypeId) (xs ys:List Cel) (us vs:List Value) (e:X),eqTX P d t xs ys=some e→All2 (CRel ρ) xs us→All2 (CRel ρ) ys vs→den e=.v (.bool (den e).bv)∧eqT P d t (xs.map litV) (ys.map litV)=some (den e).bv
 | 0,t,xs,ys,us,vs,e,h,_,_=>by cases h
 | d+1,t,xs,ys,us,vs,e,h,hx,hy=>by
  simp only [eqTX] at h
  simp only [eqT]
  split at h
  ·rename_i k hu
   split at h
   ·rename_i x y
    obtain⟨u,rfl,rx⟩:=aqb hx
    obtain⟨u',rfl,ry⟩:=aqb hy
    split at h
    ·rename_i k1 e1 k2 e2 h1 h2
     split at h
     ·rename_i hk
      subst hk
      cases h
      obtain⟨a1,a2,_⟩:=ael h1 rx
      obtain⟨b1,b2,_⟩:=ael h2 ry
      refine⟨rfl,?_⟩
      rw [hu]
      simp only [List.map_cons,List.map_nil,a1,b1,if_true]
      show some ((den e1).iv==(den e2).iv)=some (eqC (den e1) (den e2))
      rw [a2,b2]
      show some ((den e1).iv==(den e2).iv)=some (decide ((den e1).iv=(den e2).iv))
      congr 1
     ·cases h
    ·cases h
   ·cases h
  ·rename_i hu
   split at h
   ·rename_i x y
    obtain⟨u,rfl,rx⟩:=aqb hx
    obtain⟨u',rfl,ry⟩:=aqb hy
    split at h
    ·rename_i e1 e2 h1 h2
     cases h
     obtain⟨a1,a2,_⟩:=au1 h1 rx
     obtain⟨b1,b2,_⟩:=au1 h2 ry
     refine⟨rfl,?_⟩
     rw [hu]
     simp only [List.map_cons,List.map_nil,a1,b1]
     show some ((den e1).bv==(den e2).bv)=some (eqC (den e1) (den e2))
     rw [a2,b2]
     rfl
    ·cases h
   ·cases h
  ·rename_i hu
   split at h
   ·rename_i x y
    obtain⟨u,rfl,rx⟩:=aqb hx
    obtain⟨u',rfl,ry⟩:=aqb hy
    split at h
    ·rename_i e1 e2 h1 h2
     cases h
     obtain⟨a1,a2,_⟩:=ash h1 rx
     obtain⟨b1,b2,_⟩:=ash h2 ry
     refine⟨rfl,?_⟩
     rw [hu]
     simp only [List.map_cons,List.map_nil,a1,b1]
     show some ((den e1).str.toList==(den e2).str.toList)=some (eqC (den e1) (den e2))
     rw [a2,b2]
     rfl
    ·cases h
   ·cases h
  ·rename_i fs hu
   split at h
   ·rename_i hp
    rw [hu]
    simp only [hp,if_true]
    exact bgl (fun t xs ys us vs e h hx hy=>a1n d t xs ys us vs e h hx hy) hx hy fs.toList e h
   ·cases h
  ·rename_i n el hu
   split at h
   ·rename_i ag c hs
    split at h
    ·rename_i hc
     rw [hu]
     simp only [hs,List.length_map,if_pos hc]
     exact bgj (fun xs ys us vs e h hx hy=>(a1n d el xs ys us vs e h hx hy).2) n e hx hy h
    ·cases h
   ·cases h
  ·cases h
theorem OpS.conv{op:Op}{v':AV}(h:OpS P ρ ev H w op v H')(hc:∀ ρ' u,VRel ρ' v u→VRel ρ' v' u):OpS P ρ ev H w op v' H':=by
 intro dst ty pos after guard
 exact abz.mono (fun u w' ⟨ρ',h1,h2⟩=>⟨ρ',hc ρ' u h1,h2⟩) (h dst ty pos after guard)
def litE(E:Operand→Option AV):Operand→Option AV:=fun z=>(E z).map litA
theorem a11{z:Operand}(hz:∀ a,E z=some a→VRel ρ a (ev z)):∀ a,litE E z=some a→VRel ρ a (ev z):=fun a ha=>by
 unfold litE at ha
 obtain⟨b,hb,e⟩:=map_some ha
 subst e
 exact bms (hz b hb)
theorem brd{hy:List X}(hh:Holds hy){op:BinOp}{t:TypeId}{a b:AV}{c:Cel}{u u':Value}(h:binY P hy op t a b=some c)(ha:VRel ρ a u)(hb:VRel ρ b u') :
  ∃ r,(binA P op t (litA a) (litA b)=some r∨(binA P op t (litA a) (litA b)=none∧bsf P op t (litA a) (litA b)=some r))∧∀ ρ',Same ρ' c r:=by
 unfold binY at h
 split at h
 ·rename_i x y
  have hx:CRel ρ x u:=ha
  have hy':CRel ρ y u':=hb
  split at h
  ·rename_i k e k' e' h1 h2
   obtain⟨a1,a2,_,a4⟩:=ael h1 hx
   obtain⟨b1,b2,_,b4⟩:=ael h2 hy'
   split at h
   ·rename_i hs
    obtain⟨r,hr,hS⟩:∃ r,atr op k (den e).iv (den e').iv=some r∧∀ ρ',Same ρ' c r:=by
     obtain⟨r,hr,_⟩:=bka (ρ:=ρ) hh h rfl rfl
     refine⟨r,hr,fun ρ'=>?_⟩
     obtain⟨r',hr',h3⟩:=bka (ρ:=ρ') hh h rfl rfl
     rw [hr] at hr'
     cases hr'
     exact h3
    refine⟨r,.inl ?_,hS⟩
    simp only [litA,a1,b1]
    cases op<;>first | (cases hs;done) | exact hr
   ·rename_i hs
    split at h
    ·rename_i hk
     subst hk
     obtain⟨r,hr,_⟩:=bg5 (ρ:=ρ) hh h a2 b2
     refine⟨r,.inl ?_,fun ρ'=>?_⟩
     ·simp only [litA,a1,b1]
      cases op<;>first | (cases hs;done) | (show(if k=k then _ else none)=_;rw [if_pos rfl];exact hr)
     ·obtain⟨r',hr',h3⟩:=bg5 (ρ:=ρ') hh h a2 b2
      rw [hr] at hr'
      cases hr'
      exact h3
    ·cases h
  ·split at h
   ·rename_i e e' h1 h2
    obtain⟨a1,a2,_,a4⟩:=ash h1 hx
    obtain⟨b1,b2,_,b4⟩:=ash h2 hy'
    obtain⟨r,hr,_⟩:=bkl (ρ:=ρ) hh h a2 b2 a4 b4
    refine⟨r,.inr ⟨?_,?_⟩,fun ρ'=>?_⟩
    ·simp only [litA,a1,b1]
     rfl
    ·simp only [litA,a1,b1]
     exact hr
    ·obtain⟨r',hr',h3⟩:=bkl (ρ:=ρ') hh h a2 b2 a4 b4
     rw [hr] at hr'
     cases hr'
     exact h3
   ·split at h
    ·rename_i e e' hu h1 h2
     obtain⟨a1,a2,_⟩:=au1 h1 hx
     obtain⟨b1,b2,_⟩:=au1 h2 hy'
     have eqd:den (.ap .eq [e,e'])=.v (.bool ((den e).bv==(den e').bv)):=by
      show aan (eqC (den e) (den e'))=_
      rw [a2,b2]
      rfl
     split at h
     ·cases h
      refine⟨.bool ((den e).bv==(den e').bv),.inl ?_,fun ρ' _=>ac8 eqd⟩
      simp only [litA,a1,b1,binA,hu]
     ·cases h
      refine⟨.bool !((den e).bv==(den e').bv),.inl ?_,fun ρ' _=>ac8 ?_⟩
      ·simp only [litA,a1,b1,binA,hu]
      ·show aan (!(den (.ap .eq [e,e'])).bv)=_
       rw [eqd]
       rfl
     ·cases h
    ·cases h
 ·rename_i xs ys
  obtain⟨us,_,hx⟩:=ha
  obtain⟨vs,_,hy'⟩:=hb
  split at h
  ·rename_i n hs
   split at h
   ·rename_i hp
    split at h
    ·rename_i e he
     cases h
     obtain⟨k1,k2⟩:=a1n 8 t xs ys _ _ e he hx hy'
     refine⟨.bool (den e).bv,.inl ?_,fun ρ' _=>ac8 k1⟩
     simp only [litA,binA,hs,hp,if_true,k2]
    ·rename_i e he
     cases h
     obtain⟨k1,k2⟩:=a1n 8 t xs ys _ _ e he hx hy'
     refine⟨.bool (!(den e).bv),.inl ?_,fun ρ' _=>ac8 rfl⟩
     simp only [litA,binA,hs,hp,if_true,k2]
    ·cases h
   ·cases h
  ·cases h
 ·cases h
theorem buv{op:BinOp}{t yt:TypeId}{x y:Operand}(h:yBin P E H op t x y=some (v,H'))(hx:∀ z,z=x∨z=y→∀ a,E z=some a→VRel ρ a (ev z))(hH:HRel ρ H w)(hd:Dom ρ H.n):St H H'∧OpS P ρ ev H w (.binOp op t x y yt) v H':=by
 unfold yBin at h
 split at h
 ·rename_i a b ha hb
  obtain⟨c,hc,e⟩:=map_some h
  cases e
  obtain⟨r,hr,hS⟩:=brd hH.hy hc (hx x (.inl rfl) _ ha) (hx y (.inr rfl) _ hb)
  have ho:oBin P (litE E) H op t x y=some (.one (.lit r),H):=by
   unfold oBin litE
   rw [ha,hb]
   simp only [Option.map_some]
   rcases hr with hr | ⟨hr1,hr2⟩
   ·rw [hr]
   ·rw [hr1,hr2];rfl
  obtain⟨h1,h2⟩:=bhv (yt:=yt) ho (fun z hz=>a11 (hx z hz)) hH hd
  refine⟨h1,h2.conv fun ρ' u ⟨e1,e2⟩=>?_⟩
  subst e1
  exact hS ρ' e2
 ·cases h
theorem bz4{op:UnOp}{t:TypeId}{x:Operand}(h:yUn E H op x=some (v,H'))(hx:∀ a,E x=some a→VRel ρ a (ev x))(hH:HRel ρ H w)(hd:Dom ρ H.n):St H H'∧OpS P ρ ev H w (.unOp op t x) v H':=by
 unfold yUn at h
 split at h
 ·rename_i c ha
  obtain⟨c',hc,e⟩:=map_some h
  cases e
  have hr:CRel ρ c (ev x):=hx _ ha
  unfold unY at hc
  split at hc
  ·split at hc
   ·rename_i e he
    cases hc
    obtain⟨a1,a2,_⟩:=au1 he hr
    have ho:oUn (litE E) H .not x=some (.one (.lit (.bool !(den e).bv)),H):=by
     unfold oUn litE
     rw [ha]
     simp only [Option.map_some,litA,a1]
    obtain⟨h1,h2⟩:=bh5 (P:=P) (t:=t) ho (a11 hx) hH hd
    exact⟨h1,h2.conv fun ρ' u ⟨e1,e2⟩=>by subst e1;exact ac8 (ρ:=ρ') rfl⟩
   ·cases hc
  ·split at hc
   ·rename_i k e he
    cases hc
    obtain⟨a1,a2,_⟩:=ael he hr
    have ho:oUn (litE E) H .neg x=some (.one (.lit (.int k (k.wrap (0 - (den e).iv)))),H):=by
     unfold oUn litE
     rw [ha]
     simp only [Option.map_some,litA,a1]
    obtain⟨h1,h2⟩:=bh5 (P:=P) (t:=t) ho (a11 hx) hH hd
    exact⟨h1,h2.conv fun ρ' u ⟨e1,e2⟩=>by subst e1;exact ac9 (ρ:=ρ') rfl e2⟩
   ·cases hc
  ·cases hc
 ·cases h
theorem bo7{c a b:Operand}(h:blb E H c a b=some (v,H'))(hx:∀ x,x=c∨x=a∨x=b→∀ r,E x=some r→VRel ρ r (ev x))(hH:HRel ρ H w)(hd:Dom ρ H.n):St H H'∧OpS P ρ ev H w (.pick c a b) v H':=by
 unfold blb at h
 split at h
 ·rename_i G e hc
  split at h
  ·rename_i t ht
   have hb:=ajb hH.hy ht
   obtain⟨_,b',h1,h2⟩:=hx c (.inl rfl) _ hc
   have hbv:(den e).bv=b':=by rw [h1];rfl
   obtain⟨v',hv',ev'⟩:=map_some h
   cases ev'
   refine⟨St.refl H,OpS.val hH hd (u:=if t then ev a else ev b) ?_ fun dst ty pos after guard=>?_⟩
   ·cases t
    ·exact hx b (.inr (.inr rfl)) _ hv'
    ·exact hx a (.inr (.inl rfl)) _ hv'
   ·simp only [execOp,h2,asBool]
    rw [← hbv,hb]
    cases t<;>rfl
  ·cases h
 ·cases h
end
end Go.Sx
