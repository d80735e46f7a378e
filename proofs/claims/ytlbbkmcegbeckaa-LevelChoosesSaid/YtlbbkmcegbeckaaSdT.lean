/-
  A symbolic executor: what stands in a program's variables. Conditions: none.
-/
import Derived.OrdersIn
import Derived.Laws.World
import Derived.Laws.Sem
import Derived.Laws.Entries
set_option linter.all false
set_option maxRecDepth 100000
noncomputable section
namespace Go
theorem Ga{α:Type _}{i:Nat}{b:α}{xs:Array α}:xs[i]? = some b↔∃ h,xs[i]=b:=Array.getElem?_eq_some_iff
theorem Ba(a b:Bool):((a&&b)=true)=(a=true∧b=true):=Bool.and_eq_true a b
theorem Gl{α:Type _}{l:List α}{i:Nat}(h:i<l.length):l[i]? = some l[i]:=List.getElem?_eq_getElem h
theorem Nb{n m:Nat}:Nat.beq n m=true→n=m:=Nat.eq_of_beq_eq_true
theorem Rl(n:Nat):n≤n:=Nat.le_refl n
theorem Ms{α:Type _}{a:α}{l:List α}:a∈a::l:=List.mem_cons_self
theorem Gd{α:Type _}{l:List α}{i:Nat}{a:α}:l.getD i a=l[i]?.getD a:=List.getD_eq_getElem?_getD
theorem Dt{p:Prop}[Decidable p]:(decide p=true)=p:=decide_eq_true_eq
theorem Ls{α:Type _}{i:Nat}{a:α}{l:List α}:l[i]? = some a↔∃ h,l[i]=a:=List.getElem?_eq_some_iff
theorem Mc{α:Type _}(y:α){a:α}{l:List α}:a∈l→a∈y::l:=List.mem_cons_of_mem y
theorem Nl{n m:Nat}:Nat.ble n m=true→n≤m:=Nat.le_of_ble_eq_true
theorem Oi{α:Type _}(a b:α):(some a=some b)=(a=b):=Option.some.injEq a b
theorem Mg{α:Type _}{a b:α}:a∈[b]↔a=b:=List.mem_singleton
theorem Mn{α:Type _}{b:α}{l:List α}{a:α}:a∈b::l↔a=b∨a∈l:=List.mem_cons
end Go
namespace Go.Sx
inductive CD where
 | v (u:Value)
 | sl (nl:Bool) (rows:List (List CD))
 | ag (l:List CD)
instance:Inhabited CD:=⟨.v .nilFunc⟩
abbrev maxN:Nat:=9223372036854775807
def CD.iv:CD→Int
 | .v (.int _ n)=>n
 | _=>0
def CD.bv:CD→Bool
 | .v (.bool b)=>b
 | _=>false
def CD.str:CD→ByteArray
 | .v (.string s)=>s
 | _=>⟨#[]⟩
def CD.rows:CD→List (List CD)
 | .sl _ r=>r
 | _=>[]
def CD.isNil:CD→Bool
 | .sl b _=>b
 | _=>false
def clip(n:Nat):Nat:=min n maxN
theorem bf9(n:Nat):clip n≤maxN:=Nat.min_le_right _ _
theorem ai9{n:Nat}(h:n≤maxN):clip n=n:=Nat.min_eq_left h
def CD.len(d:CD):Nat:=clip d.rows.length
def CD.slen(d:CD):Nat:=clip d.str.size
theorem CD.len_le(d:CD):d.len≤maxN:=bf9 _
theorem CD.slen_le(d:CD):d.slen≤maxN:=bf9 _
def CD.cell(d:CD)(i:Int)(j:Nat):CD:=((d.rows.getD i.toNat []).getD j default)
def CD.fld(d:CD)(j:Nat):CD :=
 match d with
 | .ag l=>l.getD j default
 | _=>default
def eqU:Value→Value→Bool
 | .int _ a,.int _ b=>decide (a=b)
 | .bool a,.bool b=>a==b
 | .string a,.string b=>a.toList==b.toList
 | _,_=>false
def eqC:CD→CD→Bool
 | .v a,.v b=>eqU a b
 | _,_=>false
def apw(b:UInt8):List CD:=[.v (.int .u8 b.toNat)]
def aha(r:List CD):UInt8:=UInt8.ofNat ((r.getD 0 default).iv.toNat)
def abw:Value→Bool
 | .agg _=>false
 | .tuple _=>false
 | .int k n=>decide (k.min≤n)&&decide (n≤k.max)
 | .string s=>decide (s.size≤9223372036854775807)
 | .slice none n c=>Nat.beq n 0&&Nat.beq c 0
 | .slice (some _) _ _=>false
 | _=>true
inductive Srt where
 | int (k:IntKind)
 | bool
 | str
 | sl (w:List Srt)
instance:Inhabited Srt:=⟨.bool⟩
mutual
def a5x:Srt→Srt→Bool
 | .int k,.int k'=>decide (k=k')
 | .bool,.bool=>true
 | .str,.str=>true
 | .sl a,.sl b=>afd a b
 | _,_=>false
def afd:List Srt→List Srt→Bool
 | [],[]=>true
 | a::r,b::s=>a5x a b&&afd r s
 | _,_=>false
end
mutual
theorem air:∀ {a b:Srt},a5x a b=true→a=b
 | .int k,.int k',h=>by rw [of_decide_eq_true (show decide (k=k')=true from h)]
 | .bool,.bool,_=>rfl
 | .str,.str,_=>rfl
 | .sl a,.sl b,h=>by rw [abj (show afd a b=true from h)]
 | .int _,.bool,h=>by cases h
 | .int _,.str,h=>by cases h
 | .int _,.sl _,h=>by cases h
 | .bool,.int _,h=>by cases h
 | .bool,.str,h=>by cases h
 | .bool,.sl _,h=>by cases h
 | .str,.int _,h=>by cases h
 | .str,.bool,h=>by cases h
 | .str,.sl _,h=>by cases h
 | .sl _,.int _,h=>by cases h
 | .sl _,.bool,h=>by cases h
 | .sl _,.str,h=>by cases h
theorem abj:∀ {a b:List Srt},afd a b=true→a=b
 | [],[],_=>rfl
 | a::r,b::s,h=>by
  simp only [afd,Ba] at h
  rw [air h.1,abj h.2]
 | [],_::_,h=>by cases h
 | _::_,[],h=>by cases h
end
abbrev Mem:=Nat→Obj→Prop
mutual
def RS(m:Mem):Srt→CD→Value→Prop
 | .int k,d,u=>∃ n,d=.v (.int k n)∧u=.int k n∧abw (.int k n)=true
 | .bool,d,u=>∃ b,d=.v (.bool b)∧u=.bool b
 | .str,d,u=>∃ s:ByteArray,d=.v (.string s)∧u=.string s∧s.size≤maxN
 | .sl ss,d,u=>(d=.sl true []∧u=.slice none 0 0)∨(∃ (rows:List (List CD)) (b off cap:Nat),d=.sl false rows∧u=.slice (some ⟨b,off,none⟩) rows.length cap∧rows.length≤cap∧cap≤maxN ∧
   (rows≠[]→∃ arr t fr,(m b (.cells arr t fr)∧off+cap*ss.length≤arr.size)∧∀ i row,rows[i]? = some row→RSs m ss row fun j=>arr[off+i*ss.length+j]?))∨∃ a:Addr,d=.sl false []∧u=.slice (some a) 0 0
def RSs(m:Mem):List Srt→List CD→(Nat→Option Value)→Prop
 | [],row,_=>row=[]
 | s::ss,row,f=>∃ c r u,row=c::r∧f 0=some u∧RS m s c u∧RSs m ss r fun j=>f (j+1)
end
mutual
theorem RS.mono{m m':Mem}(h:∀ k o,m k o→m' k o):∀ {s:Srt} {d:CD} {u:Value},RS m s d u→RS m' s d u
 | .int _,_,_,hr=>hr
 | .bool,_,_,hr=>hr
 | .str,_,_,hr=>hr
 | .sl ss,d,u,hr=>by
  rcases(show(d=.sl true []∧u=.slice none 0 0)∨_ from hr) with h1 | ⟨rows,b,off,cap,h1,h2,h3,h4,h5⟩ | h1
  ·exact .inl h1
  rotate_left
  ·exact .inr (.inr h1)
  ·refine .inr (.inl ⟨rows,b,off,cap,h1,h2,h3,h4,fun hne=>?_⟩)
   obtain⟨arr,t,fr,h6,h7⟩:=h5 hne
   exact⟨arr,t,fr,⟨h _ _ h6.1,h6.2⟩,fun i row hi=>RSs.mono h (h7 i row hi)⟩
theorem RSs.mono{m m':Mem}(h:∀ k o,m k o→m' k o):∀ {ss:List Srt} {row:List CD} {f:Nat→Option Value},RSs m ss row f→RSs m' ss row f
 | [],_,_,hr=>hr
 | s::ss,row,f,hr=>by
  obtain⟨c,r,u,h1,h2,h3,h4⟩:=hr
  exact⟨c,r,u,h1,h2,RS.mono h h3,RSs.mono h h4⟩
end
theorem RSs.len{m:Mem}:∀ {ss:List Srt} {row:List CD} {f:Nat→Option Value},RSs m ss row f→row.length=ss.length
 | [],_,_,hr=>by cases (show _=_ from hr);rfl
 | s::ss,row,f,hr=>by
  obtain⟨c,r,u,rfl,h2,h3,h4⟩:=hr
  simp [h4.len]
theorem RSs.get{m:Mem}:∀ {ss:List Srt} {row:List CD} {f:Nat→Option Value},RSs m ss row f→∀ (j:Nat) (s:Srt),ss[j]? = some s→∃ u,f j=some u∧RS m s (row.getD j default) u
 | [],_,_,_,j,s,h=>by simp at h
 | s::ss,row,f,hr,0,s',h=>by
  obtain⟨c,r,u,rfl,h2,h3,h4⟩:=hr
  simp only [List.getElem?_cons_zero,Oi] at h
  subst h
  exact⟨u,h2,h3⟩
 | s::ss,row,f,hr,j+1,s',h=>by
  obtain⟨c,r,u,rfl,h2,h3,h4⟩:=hr
  simp only [List.getElem?_cons_succ] at h
  obtain⟨u',h5,h6⟩:=h4.get j s' h
  exact⟨u',h5,by simpa using h6⟩
theorem RSs.of_get{m:Mem}:∀ {ss:List Srt} {row:List CD} {f:Nat→Option Value},row.length=ss.length→(∀ (j:Nat) (s:Srt),ss[j]? = some s→∃ u,f j=some u∧RS m s (row.getD j default) u)→RSs m ss row f
 | [],row,f,hl,_=>List.length_eq_zero_iff.1 hl
 | s::ss,[],f,hl,_=>by simp at hl
 | s::ss,c::r,f,hl,h=>by
  obtain⟨u,h1,h2⟩:=h 0 s (by simp)
  refine⟨c,r,u,rfl,h1,by simpa using h2,RSs.of_get (by simpa using hl) fun j s' hj=>?_⟩
  obtain⟨u',h3,h4⟩:=h (j+1) s' (by simpa using hj)
  exact⟨u',h3,by simpa using h4⟩
theorem RSs.congr{m:Mem}{ss:List Srt}{row:List CD}{f g:Nat→Option Value}(h:RSs m ss row f)(hg:∀ j,j<ss.length→g j=f j):RSs m ss row g :=
 RSs.of_get h.len fun j s hj=>by
  obtain⟨u,h1,h2⟩:=h.get j s hj
  exact⟨u,by rw [hg j (Ls.1 hj).1];exact h1,h2⟩
theorem RS.oneCell{m:Mem}:∀ {s:Srt} {d:CD} {u:Value},RS m s d u→u.oneCell'=true
 | .int _,_,_,⟨_,_,h,_⟩=>by subst h;rfl
 | .bool,_,_,⟨_,_,h⟩=>by subst h;rfl
 | .str,_,_,⟨_,_,h,_⟩=>by subst h;rfl
 | .sl ss,d,u,hr=>by
  rcases(show(d=.sl true []∧u=.slice none 0 0)∨_ from hr) with ⟨_,h⟩ | ⟨_,_,_,_,_,h,_⟩ | ⟨_,_,h⟩<;>(subst h;rfl)
theorem RS.slice{m:Mem}{ss:List Srt}{d:CD}{u:Value}(h:RS m (.sl ss) d u):d.rows.length≤maxN∧d.len=d.rows.length∧(∀ (i:Nat) (row:List CD),d.rows[i]? = some row→row.length=ss.length) ∧
  ∃ (a:Option Addr) (cap:Nat),u=.slice a d.rows.length cap∧d.rows.length≤cap∧cap≤maxN∧(a=none→d.isNil=true∧cap=0)∧(∀ ad,a=some ad→d.isNil=false):=by
 rcases(show(d=.sl true []∧u=.slice none 0 0)∨_ from h) with ⟨h1,h2⟩ | ⟨rows,b,off,cap,h1,h2,h3,h4,h5⟩ | ⟨ad,h1,h2⟩
 rotate_right
 ·subst h1
  subst h2
  refine⟨by show 0≤maxN;omega,rfl,fun i row hi=>?_,some ad,0,rfl,Rl _,by omega,(fun h=>(by cases h)),fun _ _=>rfl⟩
  have h':([]:List (List CD))[i]? = some row:=hi
  simp at h'
 ·subst h1
  subst h2
  refine⟨by show 0≤maxN;omega,rfl,fun i row hi=>?_,none,0,rfl,Rl _,by omega,fun _=>⟨rfl,rfl⟩,fun ad h=>by cases h⟩
  have h':([]:List (List CD))[i]? = some row:=hi
  simp at h'
 ·clear h
  subst h1
  subst h2
  refine⟨by show rows.length≤maxN;omega,ai9 (by show rows.length≤maxN;omega),fun i row hi=>?_,some ⟨b,off,none⟩,cap,rfl,h3,h4,?_,?_⟩
  ·have hi':rows[i]? = some row:=hi
   have hne:rows≠[]:=fun hh=>by rw [hh] at hi';simp at hi'
   obtain⟨arr,t,fr,_,h7⟩:=h5 hne
   exact(h7 i row hi').len
  ·intro h;cases h
  ·intro ad h;rfl
def Typ(s:Srt)(d:CD):Prop:=∃ (m:Mem) (u:Value),RS m s d u
mutual
theorem azk:∀ (a:Srt),a5x a a=true
 | .int k=>decide_eq_true rfl
 | .bool=>rfl
 | .str=>rfl
 | .sl w=>avp w
theorem avp:∀ (a:List Srt),afd a a=true
 | []=>rfl
 | x::r=>by
  show(a5x x x&&afd r r)=true
  rw [azk x,avp r];rfl
end
instance:DecidableEq Srt:=fun a b=>match h:a5x a b with
 | true=>.isTrue (air h)
 | false=>.isFalse fun e=>by rw [e,azk] at h;cases h
inductive Fs where
 | add (k:IntKind)
 | sub (k:IntKind)
 | mul (k:IntKind)
 | wr (k:IntKind)
 | cast (k:IntKind)
 | bin (o:BinOp) (k:IntKind)
 | shf (o:BinOp) (k:IntKind)
 | lt
 | le
 | eq
 | not
 | and
 | or
 | ite
 | sbin (o:BinOp)
 | len
 | slen
 | cell (j:Nat)
 | fld (j:Nat)
 | cut
 | nil (b:Bool)
 | mk (z:Bool)
 | snoc
 | cat
 | upd (j:Nat)
 | rep
 | str
 | byt
 | sidx
 | ssub
 | neg (k:IntKind)
 | typ (s:Srt)
 | same
 | isnil
 | mhas
 | mget (j:Nat)
 | mput
 | mall
 | mok
 | min
 | rlen
 | usr (n:Nat)
 deriving DecidableEq
def ail(op:BinOp)(k:IntKind)(x y:Int):Option Value :=
 match op with
 | .add=>some (.int k (k.wrap (x+y)))
 | .sub=>some (.int k (k.wrap (x - y)))
 | .mul=>some (.int k (k.wrap (x*y)))
 | .quo=>if y=0 then none else some (.int k (k.wrap (x.tdiv y)))
 | .rem=>if y=0 then none else some (.int k (x.tmod y))
 | .and=>some (.int k (bits .and k x y))
 | .or=>some (.int k (bits .or k x y))
 | .xor=>some (.int k (bits .xor k x y))
 | .andNot=>some (.int k (bits .andNot k x y))
 | .eql=>some (.bool (x==y))
 | .neq=>some (.bool (x != y))
 | .lss=>some (.bool (decide (x<y)))
 | .leq=>some (.bool (decide (x≤y)))
 | .gtr=>some (.bool (decide (x > y)))
 | .geq=>some (.bool (decide (x≥y)))
 | _=>none
def atr(op:BinOp)(k:IntKind)(a b:Int):Option Value :=
 match op with
 | .shl=>if 0≤b then some (.int k (k.wrap (a*2 ^ (min b.toNat k.bits)))) else none
 | .shr=>if 0≤b then some (.int k (a.fdiv (2 ^ (min b.toNat k.bits)))) else none
 | _=>none
def strA(op:BinOp)(a b:ByteArray):Option Value :=
 match op with
 | .add=>if a.size+b.size≤9223372036854775807 then some (.string (a++b)) else none
 | .eql=>some (.bool (a.toList==b.toList))
 | .neq=>some (.bool !(a.toList==b.toList))
 | .lss=>some (.bool (Op.bytesLess a.toList b.toList))
 | .leq=>some (.bool (Op.bytesLess a.toList b.toList||a.toList==b.toList))
 | .gtr=>some (.bool !(Op.bytesLess a.toList b.toList||a.toList==b.toList))
 | .geq=>some (.bool !(Op.bytesLess a.toList b.toList))
 | _=>none
def orV(x:Option Value):CD :=
 match x with
 | some v=>.v v
 | none=>default
def mHas(k:CD)(rows:List (List CD)):Bool:=rows.any fun r=>eqC k (r.getD 0 default)
def mGet(j:Nat)(k z:CD):List (List CD)→CD
 | []=>z
 | r::rs=>if eqC k (r.getD 0 default) then r.getD j default else mGet j k z rs
def mPut(k:CD)(vs:List CD)(c:CD):List (List CD)→List (List CD)
 | []=>[k::(vs++[c])]
 | r::rs=>if eqC k (r.getD 0 default) then(k::(vs++r.drop (1+vs.length)))::rs else r::mPut k vs c rs
def asr(r:List CD):CD:=r.getLast?.getD default
def mIn(b:CD)(s:List (List CD)):Bool:=s.any fun q=>eqC b (q.getD 0 default)
def MOk(rows:List (List CD))(c:Int):Prop:=rows.Pairwise (fun a b=>(asr a).iv<(asr b).iv)∧∀ r∈rows,∃ n:Nat,asr r=.v (.int .i64 n)∧(n:Int)<c
noncomputable section
def vInt(k:IntKind)(n:Int):CD:=.v (.int k n)
def aan(b:Bool):CD:=.v (.bool b)
def setCell(rows:List (List CD))(i j:Nat)(c:CD):List (List CD):=rows.modify i fun r=>r.set j c
structure LCd where
 ps:Array Tmp
 assign:Code
 body:Code
class Us where
 u:Nat→List CD→CD
 lc:Nat→LCd
class Sg extends Us where
 v:Nat→CD
def arg(l:List CD)(i:Nat):CD:=l.getD i default
def Fs.ev[Us](f:Fs)(l:List CD):CD :=
 match f with
 | .add k=>vInt k ((arg l 0).iv+(arg l 1).iv)
 | .sub k=>vInt k ((arg l 0).iv - (arg l 1).iv)
 | .mul k=>vInt k ((arg l 0).iv*(arg l 1).iv)
 | .wr k=>vInt k (k.wrap (arg l 0).iv)
 | .cast k=>vInt k (arg l 0).iv
 | .lt=>aan (decide ((arg l 0).iv<(arg l 1).iv))
 | .le=>aan (decide ((arg l 0).iv≤(arg l 1).iv))
 | .eq=>aan (eqC (arg l 0) (arg l 1))
 | .not=>aan !(arg l 0).bv
 | .and=>aan ((arg l 0).bv&&(arg l 1).bv)
 | .or=>aan ((arg l 0).bv||(arg l 1).bv)
 | .ite=>if(arg l 0).bv then arg l 1 else arg l 2
 | .len=>vInt .i64 (arg l 0).len
 | .slen=>vInt .i64 (arg l 0).slen
 | .cell j=>(arg l 0).cell (arg l 1).iv j
 | .fld j=>(arg l 0).fld j
 | .cut=>.sl (arg l 0).isNil (((arg l 0).rows.take (arg l 2).iv.toNat).drop (arg l 1).iv.toNat)
 | .nil b=>.sl b []
 | .mk z=>.sl (z&&(arg l 0).rows.isEmpty) (arg l 0).rows
 | .snoc=>.sl false ((arg l 0).rows++[l.drop 1])
 | .cat=>.sl false ((arg l 0).rows++(arg l 1).rows)
 | .upd j=>.sl false (setCell (arg l 0).rows (arg l 1).iv.toNat j (arg l 2))
 | .rep=>.sl false (List.replicate (arg l 0).iv.toNat (l.drop 1))
 | .str=>.v (.string ⟨((arg l 0).rows.map aha).toArray⟩)
 | .byt=>.sl false ((arg l 0).str.toList.map apw)
 | .sidx=>vInt .u8 ((arg l 0).str.toList.getD (arg l 1).iv.toNat 0).toNat
 | .ssub=>.v (.string ⟨(((arg l 0).str.toList.take (arg l 2).iv.toNat).drop (arg l 1).iv.toNat).toArray⟩)
 | .neg k=>vInt k (k.wrap (0 - (arg l 0).iv))
 | .usr n=>Us.u n l
 | .same=>aan (@decide (arg l 0=arg l 1) (Classical.propDecidable _))
 | .isnil=>aan (arg l 0).isNil
 | .mhas=>aan (mHas (arg l 1) (arg l 0).rows)
 | .mget j=>mGet j (arg l 1) (arg l 2) (arg l 0).rows
 | .mput=>.sl false (mPut (arg l 2) (l.drop 3) (arg l 1) (arg l 0).rows)
 | .mall=>aan ((arg l 0).rows.all fun r=>mIn (asr r) (arg l 1).rows)
 | .mok=>aan (@decide (MOk (arg l 0).rows (arg l 1).iv) (Classical.propDecidable _))
 | .min=>aan (mIn (arg l 0) (arg l 1).rows)
 | .rlen=>vInt .i64 (arg l 0).rows.length
 | .typ s=>aan (@decide (Typ s (arg l 0)) (Classical.propDecidable _))
 | .bin o k=>orV (ail o k (arg l 0).iv (arg l 1).iv)
 | .shf o k=>orV (atr o k (arg l 0).iv (arg l 1).iv)
 | .sbin o=>orV (strA o (arg l 0).str (arg l 1).str)
inductive X where
 | var (n:Nat)
 | lit (u:Value)
 | ap (f:Fs) (l:List X)
instance:Inhabited X:=⟨.var 0⟩
mutual
def den[Sg]:X→CD
 | .var n=>Sg.v n
 | .lit u=>.v u
 | .ap f l=>f.ev (denL l)
def denL[Sg]:List X→List CD
 | []=>[]
 | x::r=>den x::denL r
end
end
noncomputable section
def eqV:Value→Value→Bool
 | .int k a,.int k' b=>decide (k=k')&&decide (a=b)
 | .bool a,.bool b=>decide (a=b)
 | .string a,.string b=>decide (a.data.toList=b.data.toList)
 | .pointer none,.pointer none=>true
 | .map none,.map none=>true
 | .nilFunc,.nilFunc=>true
 | .nilIface,.nilIface=>true
 | .slice none a b,.slice none a' b'=>Nat.beq a a'&&Nat.beq b b'
 | .func (.func f) a b,.func (.func g) c d=>Nat.beq f g&&(Nat.beq a.size 0&&Nat.beq b.size 0&&(Nat.beq c.size 0&&Nat.beq d.size 0))
 | _,_=>false
theorem a1o{a b:Value}(h:eqV a b=true):a=b:=by
 unfold eqV at h
 split at h
 ·simp only [Ba,Dt] at h;rw [h.1,h.2]
 ·simp only [Dt] at h;rw [h]
 ·rename_i a b
  simp only [Dt] at h
  obtain⟨⟨x⟩⟩:=a
  obtain⟨⟨y⟩⟩:=b
  simp only at h
  rw [h]
 ·rfl
 ·rfl
 ·rfl
 ·rfl
 ·simp only [Ba] at h;rw [Nb h.1,Nb h.2]
 ·rename_i f a b g c d
  simp only [Ba] at h
  obtain⟨h1,⟨h2,h3⟩,h4,h5⟩:=h
  rw [Nb h1,Array.eq_empty_of_size_eq_zero (Nb h2),Array.eq_empty_of_size_eq_zero (Nb h3),Array.eq_empty_of_size_eq_zero (Nb h4),Array.eq_empty_of_size_eq_zero (Nb h5)]
 ·cases h
mutual
def eqX:X→X→Bool
 | .var n,.var m=>Nat.beq n m
 | .lit a,.lit b=>eqV a b
 | .ap f l,.ap g r=>decide (f=g)&&eqXs l r
 | _,_=>false
def eqXs:List X→List X→Bool
 | [],[]=>true
 | x::xs,y::ys=>eqX x y&&eqXs xs ys
 | _,_=>false
end
mutual
theorem aap:∀ {x y:X},eqX x y=true→x=y
 | .var n,.var m,h=>by rw [Nb (show Nat.beq n m=true from h)]
 | .lit a,.lit b,h=>by rw [a1o (show eqV a b=true from h)]
 | .ap f l,.ap g r,h=>by
  simp only [eqX,Ba,Dt] at h
  rw [h.1,a5y h.2]
 | .var _,.lit _,h=>by cases h
 | .var _,.ap _ _,h=>by cases h
 | .lit _,.var _,h=>by cases h
 | .lit _,.ap _ _,h=>by cases h
 | .ap _ _,.var _,h=>by cases h
 | .ap _ _,.lit _,h=>by cases h
theorem a5y:∀ {x y:List X},eqXs x y=true→x=y
 | [],[],_=>rfl
 | x::xs,y::ys,h=>by
  simp only [eqXs,Ba] at h
  rw [aap h.1,a5y h.2]
 | [],_::_,h=>by cases h
 | _::_,[],h=>by cases h
end
abbrev Lin:=List (X×Int)×Int
def bo8(n:Int):Bool:=Int.rec (motive:=fun _=>Bool) (fun m=>Nat.beq m 0) (fun _=>false) n
def awf(n:Int):Bool:=Int.rec (motive:=fun _=>Bool) (fun _=>true) (fun _=>false) n
theorem bff{n:Int}(h:bo8 n=true):n=0:=by
 cases n with
 | ofNat m=>have:=Nb (show Nat.beq m 0=true from h);subst this;rfl
 | negSucc m=>cases h
theorem asz{n:Int}(h:awf n=true):0≤n:=by
 cases n with
 | ofNat m=>exact Int.natCast_nonneg m
 | negSucc m=>cases h
def addA(a:X)(c:Int):List (X×Int)→List (X×Int)
 | []=>[(a,c)]
 | (b,d)::r=>match eqX a b with
  | true=>match bo8 (c+d) with
   | true=>r
   | false=>(b,c+d)::r
  | false=>(b,d)::addA a c r
def bfh:List (X×Int)→List (X×Int)→List (X×Int)
 | [],m=>m
 | (a,c)::r,m=>addA a c (bfh r m)
def addL(l m:Lin):Lin:=(bfh l.1 m.1,l.2+m.2)
def scA(k:Int):List (X×Int)→List (X×Int)
 | []=>[]
 | (a,c)::r=>(a,k*c)::scA k r
def scL(k:Int)(l:Lin):Lin:=(scA k l.1,k*l.2)
def subL(l m:Lin):Lin:=addL l (scL (-1) m)
section
variable [Sg]
def sumA:List (X×Int)→Int
 | []=>0
 | (a,c)::r=>c*(den a).iv+sumA r
def lv(l:Lin):Int:=sumA l.1+l.2
theorem a8e(a:X)(c:Int):∀ l,sumA (addA a c l)=c*(den a).iv+sumA l
 | []=>rfl
 | (b,d)::r=>by
  unfold addA
  split
  ·rename_i h
   have:=aap h
   subst this
   split
   ·rename_i h0
    have:=bff h0
    show sumA r=c*(den a).iv+(d*(den a).iv+sumA r)
    have e:c*(den a).iv+d*(den a).iv=(c+d)*(den a).iv:=(Int.add_mul c d _).symm
    rw [← Int.add_assoc,e,this]
    omega
   ·show(c+d)*(den a).iv+sumA r=c*(den a).iv+(d*(den a).iv+sumA r)
    rw [Int.add_mul]
    omega
  ·show d*(den b).iv+sumA (addA a c r)=c*(den a).iv+(d*(den b).iv+sumA r)
   rw [a8e a c r]
   omega
theorem a03:∀ l m,sumA (bfh l m)=sumA l+sumA m
 | [],m=>by show sumA m=0+sumA m;omega
 | (a,c)::r,m=>by
  show sumA (addA a c (bfh r m))=(c*(den a).iv+sumA r)+sumA m
  rw [a8e,a03 r m]
  omega
theorem bds(k:Int):∀ l,sumA (scA k l)=k*sumA l
 | []=>by show(0:Int)=k*0;omega
 | (a,c)::r=>by
  show k*c*(den a).iv+sumA (scA k r)=k*(c*(den a).iv+sumA r)
  rw [bds k r,Int.mul_add,Int.mul_assoc]
theorem a9w(l m:Lin):lv (addL l m)=lv l+lv m:=by
 show sumA (bfh l.1 m.1)+(l.2+m.2)=(sumA l.1+l.2)+(sumA m.1+m.2)
 rw [a03]
 omega
theorem bch(k:Int)(l:Lin):lv (scL k l)=k*lv l:=by
 show sumA (scA k l.1)+k*l.2=k*(sumA l.1+l.2)
 rw [bds,Int.mul_add]
theorem a9x(l m:Lin):lv (subL l m)=lv l - lv m:=by
 unfold subL
 rw [a9w,bch]
 omega
end
def bq6(x:X):Lin:=([(x,1)],0)
def linF(f:Fs)(self:X)(ls:List Lin):Lin :=
 match f,ls with
 | .add _,[a,b]=>addL a b
 | .sub _,[a,b]=>subL a b
 | .mul _,[([],c),b]=>scL c b
 | .mul _,[a,([],c)]=>scL c a
 | .cast _,[a]=>a
 | _,_=>bq6 self
mutual
def lin:X→Lin
 | .var n=>bq6 (.var n)
 | .lit u=>match u with
  | .int _ z=>([],z)
  | _=>([],0)
 | .ap f l=>linF f (.ap f l) (linL l)
def linL:List X→List Lin
 | []=>[]
 | x::r=>lin x::linL r
end
section
variable [Sg]
theorem bhi(x:X):lv (bq6 x)=(den x).iv:=by
 show(1*(den x).iv+0)+0=_
 omega
theorem bb9:∀ (l:List X),(linL l).length=l.length
 | []=>rfl
 | x::r=>by show(linL r).length+1=r.length+1;rw [bb9 r]
mutual
theorem bhj:∀ (x:X),lv (lin x)=(den x).iv
 | .var n=>bhi _
 | .lit u=>by
  show lv (match u with | .int _ z=>(([],z):Lin) | _=>([],0))=(CD.v u).iv
  cases u<;>first | (show(0:Int)+0=0;rfl) | (rename_i k z;show(0:Int)+z=z;omega)
 | .ap f l=>by
  have ih:=bhk l
  have hn:=bb9 l
  show lv (linF f (.ap f l) (linL l))=_
  unfold linF
  split
  ·rename_i k a b he
   rw [he] at ih hn
   match l,hn with
   | [x,y],_ =>
    have h0:=ih 0 (by simp)
    have h1:=ih 1 (by simp)
    rw [a9w]
    show _=(den x).iv+(den y).iv
    simpa using (show lv a+lv b=(den x).iv+(den y).iv by have h0':lv a=(den x).iv:=h0;have h1':lv b=(den y).iv:=h1;rw [h0',h1'])
  ·rename_i k a b he
   rw [he] at ih hn
   match l,hn with
   | [x,y],_ =>
    have h0:lv a=(den x).iv:=ih 0 (by simp)
    have h1:lv b=(den y).iv:=ih 1 (by simp)
    rw [a9x,h0,h1]
    rfl
  ·rename_i k c b he
   rw [he] at ih hn
   match l,hn with
   | [x,y],_ =>
    have h0:lv ([],c)=(den x).iv:=ih 0 (by simp)
    have h1:lv b=(den y).iv:=ih 1 (by simp)
    rw [bch,h1]
    have h2:lv (([],c):Lin)=c:=by show(0:Int)+c=c;omega
    rw [h2] at h0
    rw [h0]
    rfl
  ·rename_i k a c _ he
   rw [he] at ih hn
   match l,hn with
   | [x,y],_ =>
    have h0:lv a=(den x).iv:=ih 0 (by simp)
    have h1:lv ([],c)=(den y).iv:=ih 1 (by simp)
    rw [bch,h0]
    have h2:lv (([],c):Lin)=c:=by show(0:Int)+c=c;omega
    rw [h2] at h1
    rw [h1]
    show _=(den x).iv*(den y).iv
    rw [Int.mul_comm]
  ·rename_i k a he
   rw [he] at ih hn
   match l,hn with
   | [x],_=>exact ih 0 (by simp)
  ·exact bhi _
theorem bhk:∀ (l:List X) (i:Nat),i<l.length→lv ((linL l).getD i ([],0))=(den (l.getD i default)).iv
 | [],_,h=>by simp at h
 | x::r,0,_=>by
  show lv (lin x)=(den x).iv
  exact bhj x
 | x::r,i+1,h=>bhk r i (by simpa using h)
end
end
def leL(a b:X):Lin:=subL (lin a) (lin b)
def ltL(a b:X):Lin:=addL (leL a b) ([],1)
def brq(f:Fs)(l:List X):List Lin :=
 match f,l with
 | .lt,[a,b]=>[leL b a]
 | .le,[a,b]=>[ltL b a]
 | _,_=>[]
mutual
def fact:X→List Lin
 | .ap f l=>match f,l with
  | .lt,[a,b]=>[ltL a b]
  | .le,[a,b]=>[leL a b]
  | .eq,[a,b]=>[leL a b,leL b a]
  | .not,[.ap g m]=>brq g m
  | .and,_=>match Nat.beq l.length 2 with
   | true=>a1p l
   | false=>[]
  | _,_=>[]
 | _=>[]
def a1p:List X→List Lin
 | []=>[]
 | x::r=>fact x++a1p r
end
section
variable [Sg]
def Tru(x:X):Prop:=(den x).bv=true
theorem ber(a b:X):lv (leL a b)=(den a).iv - (den b).iv:=by unfold leL;rw [a9x,bhj,bhj]
theorem bsc(a b:X):lv (ltL a b)=(den a).iv - (den b).iv+1:=by
 unfold ltL
 rw [a9w,ber]
 show _+((0:Int)+1)=_
 omega
theorem bv8{a b:CD}(h:eqC a b=true):a.iv=b.iv:=by
 cases a<;>cases b<;>try cases h
 rename_i u u'
 cases u<;>cases u'<;>first | rfl | (cases h;done) | skip
 rename_i k a k' b
 exact of_decide_eq_true h
theorem bl3(f:Fs)(l:List X)(h:(den (.ap f l)).bv=false):∀ m∈brq f l,lv m≤0:=by
 unfold brq
 split
 ·rename_i a b
  have h':decide ((den a).iv<(den b).iv)=false:=h
  have h2:=of_decide_eq_false h'
  intro m hm
  rw [Mg.1 hm,ber]
  omega
 ·rename_i a b
  have h':decide ((den a).iv≤(den b).iv)=false:=h
  have h2:=of_decide_eq_false h'
  intro m hm
  rw [Mg.1 hm,bsc]
  omega
 ·intro m hm;cases hm
mutual
theorem bgq:∀ (x:X),Tru x→∀ m∈fact x,lv m≤0
 | .var _,_,m,hm=>by cases hm
 | .lit _,_,m,hm=>by cases hm
 | .ap f l,h,m,hm=>by
  have ih:=azm l
  unfold fact at hm
  split at hm
  ·rename_i a b
   have h':decide ((den a).iv<(den b).iv)=true:=h
   have:=of_decide_eq_true h'
   rw [Mg.1 hm,bsc]
   omega
  ·rename_i a b
   have h':decide ((den a).iv≤(den b).iv)=true:=h
   have:=of_decide_eq_true h'
   rw [Mg.1 hm,ber]
   omega
  ·rename_i a b
   have h':eqC (den a) (den b)=true:=h
   have:=bv8 h'
   simp only [Mn,List.not_mem_nil,or_false] at hm
   rcases hm with rfl | rfl
   ·rw [ber];omega
   ·rw [ber];omega
  ·rename_i g m'
   have h':(!(den (.ap g m')).bv)=true:=h
   exact bl3 g m' (by simpa using h') m hm
  ·split at hm
   ·rename_i hl
    have hl:=Nb hl
    match l,hl with
    | [a,b],_ =>
     have h':((den a).bv&&(den b).bv)=true:=h
     rw [Ba] at h'
     refine ih (fun i hi=>?_) m hm
     match i,hi with
     | 0,_=>exact h'.1
     | 1,_=>exact h'.2
   ·cases hm
  ·cases hm
theorem azm:∀ (l:List X),(∀ i,i<l.length→Tru (l.getD i default))→∀ m∈a1p l,lv m≤0
 | [],_,m,hm=>by cases hm
 | x::r,h,m,hm=>by
  rcases List.mem_append.1 (show m∈fact x++a1p r from hm) with h1 | h1
  ·exact bgq x (h 0 (by simp)) m h1
  ·exact azm r (fun i hi=>h (i+1) (by simpa using hi)) m h1
end
def Holds(hy:List X):Prop:=∀ x∈hy,Tru x
end
def facts:List X→List Lin
 | []=>[]
 | x::r=>fact x++facts r
def auto(x:X):List Lin :=
 match x with
 | .ap .len _=>[([(x,-1)],0),([(x,1)],-9223372036854775807)]
 | .ap .slen _=>[([(x,-1)],0),([(x,1)],-9223372036854775807)]
 | .ap .sidx _=>[([(x,-1)],0),([(x,1)],-255)]
 | .ap (.wr k) _=>[([(x,-1)],k.min),([(x,1)],-k.max)]
 | _=>[]
def coef(a:X):List (X×Int)→Int
 | []=>0
 | (b,d)::r=>match eqX a b with
  | true=>d
  | false=>coef a r
def anyB{α:Type}(p:α→Bool):List α→Bool
 | []=>false
 | a::r=>match p a with
  | true=>true
  | false=>anyB p r
def elim(fs:List Lin):Nat→Lin→Bool
 | 0,g=>match g.1 with
  | []=>awf (-g.2)
  | _=>false
 | n+1,g=>match g.1 with
  | []=>awf (-g.2)
  | (a,c)::_=>anyB (fun f=>match bo8 (coef a f.1) with
   | true=>false
   | false=>match bo8 (c % coef a f.1) with
    | true=>match awf (c / coef a f.1) with
     | true=>elim fs n (subL g (scL (c / coef a f.1) f))
     | false=>false
    | false=>false) (fs++auto a)
def leX(hy:List X)(a b:X):Bool:=elim (facts hy) 5 (leL a b)
def ltX(hy:List X)(a b:X):Bool:=elim (facts hy) 5 (ltL a b)
def memX(x:X):List X→Bool
 | []=>false
 | y::r=>match eqX x y with
  | true=>true
  | false=>memX x r
def isI:X→Bool
 | .lit (.int _ _)=>true
 | .ap (.add _) _=>true
 | .ap (.sub _) _=>true
 | .ap (.mul _) _=>true
 | .ap (.cast _) _=>true
 | .ap .len _=>true
 | .ap .slen _=>true
 | _=>false
def known1(hy:List X)(x:X):Option Bool :=
 match memX x hy with
 | true=>some true
 | false=>match memX (.ap .not [x]) hy with
  | true=>some false
  | false=>match x with
   | .lit (.bool b)=>some b
   | .ap .lt [a,b]=>match ltX hy a b with
    | true=>some true
    | false=>match leX hy b a with
     | true=>some false
     | false=>none
   | .ap .le [a,b]=>match leX hy a b with
    | true=>some true
    | false=>match ltX hy b a with
     | true=>some false
     | false=>none
   | .ap .eq [a,b]=>match isI a&&isI b with
    | true=>match ltX hy a b||ltX hy b a with
     | true=>some false
     | false=>match leX hy a b&&leX hy b a with
      | true=>some true
      | false=>none
    | false=>none
   | _=>none
def known(hy:List X)(x:X):Option Bool :=
 match known1 hy x with
 | some b=>some b
 | none=>match x with
  | .ap .not [y]=>match known1 hy y with
   | some b=>some !b
   | none=>none
  | .ap .and [y,z]=>match known1 hy y,known1 hy z with
   | some true,some true=>some true
   | some false,_=>some false
   | _,some false=>some false
   | _,_=>none
  | .ap .or [y,z]=>match known1 hy y,known1 hy z with
   | some false,some false=>some false
   | some true,_=>some true
   | _,some true=>some true
   | _,_=>none
  | _=>none
section
variable [Sg]
theorem a1q:∀ {hy:List X},Holds hy→∀ m∈facts hy,lv m≤0
 | [],_,m,hm=>by cases hm
 | x::r,h,m,hm=>by
  rcases List.mem_append.1 (show m∈fact x++facts r from hm) with h1 | h1
  ·exact bgq x (h x (Ms ..)) m h1
  ·exact a1q (fun y hy=>h y (Mc _ hy)) m h1
theorem buu(k:IntKind)(n:Int):k.min≤k.wrap n∧k.wrap n≤k.max:=by
 unfold IntKind.wrap
 have hp:(0:Int)<2 ^ k.bits:=Int.pow_pos (by decide)
 have h1:=Int.emod_nonneg n (show(2:Int) ^ k.bits≠0 by omega)
 have h2:=Int.emod_lt_of_pos n hp
 simp only
 generalize n % 2 ^ k.bits=m at h1 h2
 cases k<;>simp only [IntKind.signed,IntKind.bits,IntKind.min,IntKind.max] at *<;>simp at *<;>(try split)<;>omega
theorem bq7(x:X):∀ m∈auto x,lv m≤0:=by
 intro m hm
 unfold auto at hm
 split at hm
 ·rename_i l
  have h2:(den (.ap .len l)).iv=(((denL l).getD 0 default).len:Int):=rfl
  have h3:=CD.len_le ((denL l).getD 0 default)
  have h4:(((denL l).getD 0 default).len:Int)≤9223372036854775807:=by unfold maxN at h3;omega
  simp only [Mn,List.not_mem_nil,or_false] at hm
  rcases hm with rfl | rfl
  ·show(-1*(den (.ap .len l)).iv+0)+0≤0
   rw [h2];omega
  ·show(1*(den (.ap .len l)).iv+0) + -9223372036854775807≤0
   rw [h2];omega
 ·rename_i l
  have h2:(den (.ap .slen l)).iv=(((denL l).getD 0 default).slen:Int):=rfl
  have h3:=CD.slen_le ((denL l).getD 0 default)
  have h4:(((denL l).getD 0 default).slen:Int)≤9223372036854775807:=by unfold maxN at h3;omega
  simp only [Mn,List.not_mem_nil,or_false] at hm
  rcases hm with rfl | rfl
  ·show(-1*(den (.ap .slen l)).iv+0)+0≤0
   rw [h2];omega
  ·show(1*(den (.ap .slen l)).iv+0) + -9223372036854775807≤0
   rw [h2];omega
 ·rename_i l
  have h2:(den (.ap .sidx l)).iv=((((arg (denL l) 0).str.toList.getD (arg (denL l) 1).iv.toNat 0).toNat:Nat):Int):=rfl
  have h3:=((arg (denL l) 0).str.toList.getD (arg (denL l) 1).iv.toNat 0).toNat_lt
  simp only [Mn,List.not_mem_nil,or_false] at hm
  rcases hm with rfl | rfl
  ·show(-1*(den (.ap .sidx l)).iv+0)+0≤0
   rw [h2];omega
  ·show(1*(den (.ap .sidx l)).iv+0) + -255≤0
   rw [h2];omega
 ·rename_i k l
  have h2:(den (.ap (.wr k) l)).iv=k.wrap ((arg (denL l) 0).iv):=rfl
  have h3:=buu k ((arg (denL l) 0).iv)
  simp only [Mn,List.not_mem_nil,or_false] at hm
  rcases hm with rfl | rfl
  ·show(-1*(den (.ap (.wr k) l)).iv+0)+k.min≤0
   rw [h2];omega
  ·show(1*(den (.ap (.wr k) l)).iv+0) + -k.max≤0
   rw [h2];omega
 ·cases hm
theorem a4w{α:Type}{p:α→Bool}:∀ {l:List α},anyB p l=true→∃ a∈l,p a=true
 | [],h=>by cases h
 | a::r,h=>by
  unfold anyB at h
  split at h
  ·rename_i h1;exact⟨a,Ms ..,h1⟩
  ·obtain⟨b,h1,h2⟩:=a4w h;exact⟨b,Mc _ h1,h2⟩
theorem bgg{fs:List Lin}(hf:∀ m∈fs,lv m≤0):∀ (n:Nat) (g:Lin),elim fs n g=true→lv g≤0:=by
 have base:∀ g:Lin,g.1=[]→awf (-g.2)=true→lv g≤0:=by
  rintro⟨l,c⟩ h1 h2
  simp only at h1
  subst h1
  have:=asz h2
  show(0:Int)+c≤0
  simp only at this
  omega
 intro n
 induction n with
 | zero =>
  intro g h
  unfold elim at h
  split at h
  ·rename_i h1;exact base g h1 h
  ·cases h
 | succ n ih =>
  intro g h
  unfold elim at h
  split at h
  ·rename_i h1;exact base g h1 h
  ·rename_i a c r h1
   obtain⟨f,hm,hp⟩:=a4w h
   have hle:lv f≤0:=by
    rcases List.mem_append.1 hm with h2 | h2
    ·exact hf f h2
    ·exact bq7 a f h2
   split at hp
   ·cases hp
   ·split at hp
    ·split at hp
     ·rename_i hq
      have hq:=asz hq
      have:=ih _ hp
      rw [a9x,bch] at this
      have h5:c / coef a f.1*lv f≤0:=Int.mul_nonpos_of_nonneg_of_nonpos hq hle
      omega
     ·cases hp
    ·cases hp
theorem acu{hy:List X}(hh:Holds hy){a b:X}(h:leX hy a b=true):(den a).iv≤(den b).iv:=by
 have:=bgg (a1q hh) 5 _ h
 rw [ber] at this
 omega
theorem agh{hy:List X}(hh:Holds hy){a b:X}(h:ltX hy a b=true):(den a).iv<(den b).iv:=by
 have:=bgg (a1q hh) 5 _ h
 rw [bsc] at this
 omega
theorem akp{x:X}:∀ {l:List X},memX x l=true→x∈l
 | [],h=>by cases h
 | y::r,h=>by
  unfold memX at h
  split at h
  ·rename_i h1;rw [aap h1];exact Ms ..
  ·exact Mc _ (akp h)
theorem bg7{x:X}(h:isI x=true):∃ k,den x=.v (.int k (den x).iv):=by
 unfold isI at h
 split at h
 ·exact⟨_,rfl⟩
 ·exact⟨_,rfl⟩
 ·exact⟨_,rfl⟩
 ·exact⟨_,rfl⟩
 ·exact⟨_,rfl⟩
 ·exact⟨_,rfl⟩
 ·exact⟨_,rfl⟩
 ·cases h
theorem brm{a b:X}(ha:isI a=true)(hb:isI b=true):(den (.ap .eq [a,b])).bv=decide ((den a).iv=(den b).iv):=by
 obtain⟨k,h1⟩:=bg7 ha
 obtain⟨k',h2⟩:=bg7 hb
 show eqC (den a) (den b)=_
 rw [h1,h2]
 rfl
theorem ad8{hy:List X}(hh:Holds hy){x:X}{b:Bool}(h:known1 hy x=some b):(den x).bv=b:=by
 unfold known1 at h
 split at h
 ·rename_i h1
  cases h
  exact hh _ (akp h1)
 ·split at h
  ·rename_i h1
   cases h
   have:=hh _ (akp h1)
   have h':(!(den x).bv)=true:=this
   simpa using h'
  ·split at h
   ·cases h;rfl
   ·rename_i a c _ _
    split at h
    ·rename_i h1
     cases h
     have:=agh hh h1
     show decide ((den a).iv<(den c).iv)=true
     exact decide_eq_true this
    ·split at h
     ·rename_i h1
      cases h
      have:=acu hh h1
      show decide ((den a).iv<(den c).iv)=false
      exact decide_eq_false (by omega)
     ·cases h
   ·rename_i a c _ _
    split at h
    ·rename_i h1
     cases h
     have:=acu hh h1
     show decide ((den a).iv≤(den c).iv)=true
     exact decide_eq_true this
    ·split at h
     ·rename_i h1
      cases h
      have:=agh hh h1
      show decide ((den a).iv≤(den c).iv)=false
      exact decide_eq_false (by omega)
     ·cases h
   ·rename_i a c _ _
    split at h
    ·rename_i hi
     rw [Ba] at hi
     rw [brm hi.1 hi.2]
     split at h
     ·rename_i h1
      cases h
      rw [Bool.or_eq_true] at h1
      rcases h1 with h1 | h1
      ·have:=agh hh h1
       exact decide_eq_false (by omega)
      ·have:=agh hh h1
       exact decide_eq_false (by omega)
     ·split at h
      ·rename_i h1
       cases h
       rw [Ba] at h1
       have:=acu hh h1.1
       have:=acu hh h1.2
       exact decide_eq_true (by omega)
      ·cases h
    ·cases h
   ·cases h
theorem ajb{hy:List X}(hh:Holds hy){x:X}{b:Bool}(h:known hy x=some b):(den x).bv=b:=by
 unfold known at h
 split at h
 ·rename_i b' h1
  cases h
  exact ad8 hh h1
 ·split at h
  ·rename_i y _
   split at h
   ·rename_i b' h1
    cases h
    show(!(den y).bv)=_
    rw [ad8 hh h1]
   ·cases h
  ·rename_i y z _
   have e:(den (.ap .and [y,z])).bv=((den y).bv&&(den z).bv):=rfl
   rw [e]
   split at h
   ·rename_i h1 h2
    cases h
    rw [ad8 hh h1,ad8 hh h2];rfl
   ·rename_i h1
    cases h
    rw [ad8 hh h1];rfl
   ·rename_i h2 _
    cases h
    rw [ad8 hh h2,Bool.and_false]
   ·cases h
  ·rename_i y z _
   have e:(den (.ap .or [y,z])).bv=((den y).bv||(den z).bv):=rfl
   rw [e]
   split at h
   ·rename_i h1 h2
    cases h
    rw [ad8 hh h1,ad8 hh h2];rfl
   ·rename_i h1
    cases h
    rw [ad8 hh h1];rfl
   ·rename_i h2 _
    cases h
    rw [ad8 hh h2,Bool.or_true]
   ·cases h
  ·cases h
end
end
def bzv:List (Nat×(Obj→Prop)):=[]
def TW(w:World):Prop:=∀ x∈bzv,∃ o,w.heap[x.1]? = some o∧x.2 o
theorem TW.keep{w w':World}(h:∀ k,k<w.heap.size→w'.heap[k]? = w.heap[k]?)(t:TW w):TW w':=fun x hx =>
 let ⟨o,h1,h2⟩:=t x hx
 ⟨o,by rw [h _ (Ga.1 h1).1];exact h1,h2⟩
end Go.Sx
