/-
  A symbolic executor: what stands in a program's variables. Conditions: none.
-/
import Derived.OrdersIn
import Derived.Laws.World
import Derived.Laws.Sem
import Derived.Laws.Entries
set_option linter.unusedSimpArgs false
set_option linter.unusedSectionVars false
set_option linter.unusedVariables false
namespace Go.Sx
inductive CD where
 | v (u:Value)
 | sl (nl:Bool) (rows:List (List CD))
 | ag (l:List CD)
instance:Inhabited CD:=⟨.v .nilFunc⟩
abbrev maxN:Nat:=9223372036854775807
def CD.iv:CD→Int
 | .v (.int _ n)=>n
 | _=>0
def CD.bv:CD→Bool
 | .v (.bool b)=>b
 | _=>false
def CD.str:CD→ByteArray
 | .v (.string s)=>s
 | _=>⟨#[]⟩
def CD.rows:CD→List (List CD)
 | .sl _ r=>r
 | _=>[]
def CD.isNil:CD→Bool
 | .sl b _=>b
 | _=>false
def clip(n:Nat):Nat:=min n maxN
theorem cx5(n:Nat):clip n≤maxN:=Nat.min_le_right _ _
theorem cbk{n:Nat}(h:n≤maxN):clip n=n:=Nat.min_eq_left h
def CD.len(d:CD):Nat:=clip d.rows.length
def CD.slen(d:CD):Nat:=clip d.str.size
theorem CD.len_le(d:CD):d.len≤maxN:=cx5 _
theorem CD.slen_le(d:CD):d.slen≤maxN:=cx5 _
def CD.cell(d:CD)(i:Int)(j:Nat):CD:=((d.rows.getD i.toNat []).getD j default)
def CD.fld(d:CD)(j:Nat):CD :=
 match d with
 | .ag l=>l.getD j default
 | _=>default
def eqU:Value→Value→Bool
 | .int _ a,.int _ b=>decide (a=b)
 | .bool a,.bool b=>a==b
 | .string a,.string b=>a.toList==b.toList
 | _,_=>false
def eqC:CD→CD→Bool
 | .v a,.v b=>eqU a b
 | _,_=>false
def cde(b:UInt8):List CD:=[.v (.int .u8 b.toNat)]
def b8a(r:List CD):UInt8:=UInt8.ofNat ((r.getD 0 default).iv.toNat)
def b4k:Value→Bool
 | .agg _=>false
 | .tuple _=>false
 | .int k n=>decide (k.min≤n)&&decide (n≤k.max)
 | .string s=>decide (s.size≤9223372036854775807)
 | .slice none n c=>Nat.beq n 0&&Nat.beq c 0
 | .slice (some _) _ _=>false
 | _=>true
inductive Srt where
 | int (k:IntKind)
 | bool
 | str
 | sl (w:List Srt)
instance:Inhabited Srt:=⟨.bool⟩
mutual
def co9:Srt→Srt→Bool
 | .int k,.int k'=>decide (k=k')
 | .bool,.bool=>true
 | .str,.str=>true
 | .sl a,.sl b=>b6n a b
 | _,_=>false
def b6n:List Srt→List Srt→Bool
 | [],[]=>true
 | a::r,b::s=>co9 a b&&b6n r s
 | _,_=>false
end
mutual
theorem b8y:∀ {a b:Srt},co9 a b=true→a=b
 | .int k,.int k',h=>by rw [of_decide_eq_true (show decide (k=k')=true from h)]
 | .bool,.bool,_=>rfl
 | .str,.str,_=>rfl
 | .sl a,.sl b,h=>by rw [b4i (show b6n a b=true from h)]
 | .int _,.bool,h=>by cases h
 | .int _,.str,h=>by cases h
 | .int _,.sl _,h=>by cases h
 | .bool,.int _,h=>by cases h
 | .bool,.str,h=>by cases h
 | .bool,.sl _,h=>by cases h
 | .str,.int _,h=>by cases h
 | .str,.bool,h=>by cases h
 | .str,.sl _,h=>by cases h
 | .sl _,.int _,h=>by cases h
 | .sl _,.bool,h=>by cases h
 | .sl _,.str,h=>by cases h
theorem b4i:∀ {a b:List Srt},b6n a b=true→a=b
 | [],[],_=>rfl
 | a::r,b::s,h=>by
  simp only [b6n,Bool.and_eq_true] at h
  rw [b8y h.1,b4i h.2]
 | [],_::_,h=>by cases h
 | _::_,[],h=>by cases h
end
abbrev Mem:=Nat→Obj→Prop
mutual
def RS(m:Mem):Srt→CD→Value→Prop
 | .int k,d,u=>∃ n,d=.v (.int k n)∧u=.int k n∧b4k (.int k n)=true
 | .bool,d,u=>∃ b,d=.v (.bool b)∧u=.bool b
 | .str,d,u=>∃ s:ByteArray,d=.v (.string s)∧u=.string s∧s.size≤maxN
 | .sl ss,d,u=>(d=.sl true []∧u=.slice none 0 0)∨(∃ (rows:List (List CD)) (b off cap:Nat),d=.sl false rows∧u=.slice (some ⟨b,off,none⟩) rows.length cap∧rows.length≤cap∧cap≤maxN ∧
   (rows≠[]→∃ arr t fr,(m b (.cells arr t fr)∧off+cap*ss.length≤arr.size)∧∀ i row,rows[i]? = some row→RSs m ss row fun j=>arr[off+i*ss.length+j]?))∨∃ a:Addr,d=.sl false []∧u=.slice (some a) 0 0
def RSs(m:Mem):List Srt→List CD→(Nat→Option Value)→Prop
 | [],row,_=>row=[]
 | s::ss,row,f=>∃ c r u,row=c::r∧f 0=some u∧RS m s c u∧RSs m ss r fun j=>f (j+1)
end
mutual
theorem RS.mono{m m':Mem}(h:∀ k o,m k o→m' k o):∀ {s:Srt} {d:CD} {u:Value},RS m s d u→RS m' s d u
 | .int _,_,_,hr=>hr
 | .bool,_,_,hr=>hr
 | .str,_,_,hr=>hr
 | .sl ss,d,u,hr=>by
  rcases(show(d=.sl true []∧u=.slice none 0 0)∨_ from hr) with h1 | ⟨rows,b,off,cap,h1,h2,h3,h4,h5⟩ | h1
  ·exact .inl h1
  rotate_left
  ·exact .inr (.inr h1)
  ·refine .inr (.inl ⟨rows,b,off,cap,h1,h2,h3,h4,fun hne=>?_⟩)
   obtain⟨arr,t,fr,h6,h7⟩:=h5 hne
   exact⟨arr,t,fr,⟨h _ _ h6.1,h6.2⟩,fun i row hi=>RSs.mono h (h7 i row hi)⟩
theorem RSs.mono{m m':Mem}(h:∀ k o,m k o→m' k o):∀ {ss:List Srt} {row:List CD} {f:Nat→Option Value},RSs m ss row f→RSs m' ss row f
 | [],_,_,hr=>hr
 | s::ss,row,f,hr=>by
  obtain⟨c,r,u,h1,h2,h3,h4⟩:=hr
  exact⟨c,r,u,h1,h2,RS.mono h h3,RSs.mono h h4⟩
end
theorem RSs.len{m:Mem}:∀ {ss:List Srt} {row:List CD} {f:Nat→Option Value},RSs m ss row f→row.length=ss.length
 | [],_,_,hr=>by cases (show _=_ from hr);rfl
 | s::ss,row,f,hr=>by
  obtain⟨c,r,u,rfl,h2,h3,h4⟩:=hr
  simp [h4.len]
theorem RSs.get{m:Mem}:∀ {ss:List Srt} {row:List CD} {f:Nat→Option Value},RSs m ss row f→∀ (j:Nat) (s:Srt),ss[j]? = some s→∃ u,f j=some u∧RS m s (row.getD j default) u
 | [],_,_,_,j,s,h=>by simp at h
 | s::ss,row,f,hr,0,s',h=>by
  obtain⟨c,r,u,rfl,h2,h3,h4⟩:=hr
  simp only [List.getElem?_cons_zero,Option.some.injEq] at h
  subst h
  exact⟨u,h2,h3⟩
 | s::ss,row,f,hr,j+1,s',h=>by
  obtain⟨c,r,u,rfl,h2,h3,h4⟩:=hr
  simp only [List.getElem?_cons_succ] at h
  obtain⟨u',h5,h6⟩:=h4.get j s' h
  exact⟨u',h5,by simpa using h6⟩
theorem RSs.of_get{m:Mem}:∀ {ss:List Srt} {row:List CD} {f:Nat→Option Value},row.length=ss.length→(∀ (j:Nat) (s:Srt),ss[j]? = some s→∃ u,f j=some u∧RS m s (row.getD j default) u)→RSs m ss row f
 | [],row,f,hl,_=>List.length_eq_zero_iff.1 hl
 | s::ss,[],f,hl,_=>by simp at hl
 | s::ss,c::r,f,hl,h=>by
  obtain⟨u,h1,h2⟩:=h 0 s (by simp)
  refine⟨c,r,u,rfl,h1,by simpa using h2,RSs.of_get (by simpa using hl) fun j s' hj=>?_⟩
  obtain⟨u',h3,h4⟩:=h (j+1) s' (by simpa using hj)
  exact⟨u',h3,by simpa using h4⟩
theorem RSs.congr{m:Mem}{ss:List Srt}{row:List CD}{f g:Nat→Option Value}(h:RSs m ss row f)(hg:∀ j,j<ss.length→g j=f j):RSs m ss row g :=
 RSs.of_get h.len fun j s hj=>by
  obtain⟨u,h1,h2⟩:=h.get j s hj
  exact⟨u,by rw [hg j (List.getElem?_eq_some_iff.1 hj).1];exact h1,h2⟩
theorem RS.oneCell{m:Mem}:∀ {s:Srt} {d:CD} {u:Value},RS m s d u→u.oneCell'=true
 | .int _,_,_,⟨_,_,h,_⟩=>by subst h;rfl
 | .bool,_,_,⟨_,_,h⟩=>by subst h;rfl
 | .str,_,_,⟨_,_,h,_⟩=>by subst h;rfl
 | .sl ss,d,u,hr=>by
  rcases(show(d=.sl true []∧u=.slice none 0 0)∨_ from hr) with ⟨_,h⟩ | ⟨_,_,_,_,_,h,_⟩ | ⟨_,_,h⟩<;>(subst h;rfl)
theorem RS.slice{m:Mem}{ss:List Srt}{d:CD}{u:Value}(h:RS m (.sl ss) d u):d.rows.length≤maxN∧d.len=d.rows.length∧(∀ (i:Nat) (row:List CD),d.rows[i]? = some row→row.length=ss.length) ∧
  ∃ (a:Option Addr) (cap:Nat),u=.slice a d.rows.length cap∧d.rows.length≤cap∧cap≤maxN∧(a=none→d.isNil=true∧cap=0)∧(∀ ad,a=some ad→d.isNil=false):=by
 rcases(show(d=.sl true []∧u=.slice none 0 0)∨_ from h) with ⟨h1,h2⟩ | ⟨rows,b,off,cap,h1,h2,h3,h4,h5⟩ | ⟨ad,h1,h2⟩
 rotate_right
 ·subst h1
  subst h2
  refine⟨by show 0≤maxN;omega,rfl,fun i row hi=>?_,some ad,0,rfl,Nat.le_refl _,by omega,(fun h=>(by cases h)),fun _ _=>rfl⟩
  have h':([]:List (List CD))[i]? = some row:=hi
  simp at h'
 ·subst h1
  subst h2
  refine⟨by show 0≤maxN;omega,rfl,fun i row hi=>?_,none,0,rfl,Nat.le_refl _,by omega,fun _=>⟨rfl,rfl⟩,fun ad h=>by cases h⟩
  have h':([]:List (List CD))[i]? = some row:=hi
  simp at h'
 ·clear h
  subst h1
  subst h2
  refine⟨by show rows.length≤maxN;omega,cbk (by show rows.length≤maxN;omega),fun i row hi=>?_,some ⟨b,off,none⟩,cap,rfl,h3,h4,?_,?_⟩
  ·have hi':rows[i]? = some row:=hi
   have hne:rows≠[]:=fun hh=>by rw [hh] at hi';simp at hi'
   obtain⟨arr,t,fr,_,h7⟩:=h5 hne
   exact(h7 i row hi').len
  ·intro h;cases h
  ·intro ad h;rfl
def Typ(s:Srt)(d:CD):Prop:=∃ (m:Mem) (u:Value),RS m s d u
mutual
theorem cjz:∀ (a:Srt),co9 a a=true
 | .int k=>decide_eq_true rfl
 | .bool=>rfl
 | .str=>rfl
 | .sl w=>cg0 w
theorem cg0:∀ (a:List Srt),b6n a a=true
 | []=>rfl
 | x::r=>by
  show(co9 x x&&b6n r r)=true
  rw [cjz x,cg0 r];rfl
end
instance:DecidableEq Srt:=fun a b=>match h:co9 a b with
 | true=>.isTrue (b8y h)
 | false=>.isFalse fun e=>by rw [e,cjz] at h;cases h
end Go.Sx

namespace Go.Sx
inductive Fs where
 | add (k:IntKind)
 | sub (k:IntKind)
 | mul (k:IntKind)
 | wr (k:IntKind)
 | cast (k:IntKind)
 | bin (o:BinOp) (k:IntKind)
 | shf (o:BinOp) (k:IntKind)
 | lt
 | le
 | eq
 | not
 | and
 | or
 | ite
 | sbin (o:BinOp)
 | len
 | slen
 | cell (j:Nat)
 | fld (j:Nat)
 | cut
 | nil (b:Bool)
 | mk (z:Bool)
 | snoc
 | cat
 | upd (j:Nat)
 | rep
 | str
 | byt
 | sidx
 | ssub
 | neg (k:IntKind)
 | typ (s:Srt)
 | same
 | isnil
 | mhas
 | mget (j:Nat)
 | mput
 | mall
 | mok
 | min
 | rlen
 | usr (n:Nat)
 deriving DecidableEq
def b8u(op:BinOp)(k:IntKind)(x y:Int):Option Value :=
 match op with
 | .add=>some (.int k (k.wrap (x+y)))
 | .sub=>some (.int k (k.wrap (x - y)))
 | .mul=>some (.int k (k.wrap (x*y)))
 | .quo=>if y=0 then none else some (.int k (k.wrap (x.tdiv y)))
 | .rem=>if y=0 then none else some (.int k (x.tmod y))
 | .and=>some (.int k (bits .and k x y))
 | .or=>some (.int k (bits .or k x y))
 | .xor=>some (.int k (bits .xor k x y))
 | .andNot=>some (.int k (bits .andNot k x y))
 | .eql=>some (.bool (x==y))
 | .neq=>some (.bool (x != y))
 | .lss=>some (.bool (decide (x<y)))
 | .leq=>some (.bool (decide (x≤y)))
 | .gtr=>some (.bool (decide (x > y)))
 | .geq=>some (.bool (decide (x≥y)))
 | _=>none
def cfj(op:BinOp)(k:IntKind)(a b:Int):Option Value :=
 match op with
 | .shl=>if 0≤b then some (.int k (k.wrap (a*2 ^ (min b.toNat k.bits)))) else none
 | .shr=>if 0≤b then some (.int k (a.fdiv (2 ^ (min b.toNat k.bits)))) else none
 | _=>none
def strA(op:BinOp)(a b:ByteArray):Option Value :=
 match op with
 | .add=>if a.size+b.size≤9223372036854775807 then some (.string (a++b)) else none
 | .eql=>some (.bool (a.toList==b.toList))
 | .neq=>some (.bool !(a.toList==b.toList))
 | .lss=>some (.bool (Op.bytesLess a.toList b.toList))
 | .leq=>some (.bool (Op.bytesLess a.toList b.toList||a.toList==b.toList))
 | .gtr=>some (.bool !(Op.bytesLess a.toList b.toList||a.toList==b.toList))
 | .geq=>some (.bool !(Op.bytesLess a.toList b.toList))
 | _=>none
def orV(x:Option Value):CD :=
 match x with
 | some v=>.v v
 | none=>default
def mHas(k:CD)(rows:List (List CD)):Bool:=rows.any fun r=>eqC k (r.getD 0 default)
def mGet(j:Nat)(k z:CD):List (List CD)→CD
 | []=>z
 | r::rs=>if eqC k (r.getD 0 default) then r.getD j default else mGet j k z rs
def mPut(k:CD)(vs:List CD)(c:CD):List (List CD)→List (List CD)
 | []=>[k::(vs++[c])]
 | r::rs=>if eqC k (r.getD 0 default) then(k::(vs++r.drop (1+vs.length)))::rs else r::mPut k vs c rs
def cb6(r:List CD):CD:=r.getLast?.getD default
def mIn(b:CD)(s:List (List CD)):Bool:=s.any fun q=>eqC b (q.getD 0 default)
def MOk(rows:List (List CD))(c:Int):Prop:=rows.Pairwise (fun a b=>(cb6 a).iv<(cb6 b).iv)∧∀ r∈rows,∃ n:Nat,cb6 r=.v (.int .i64 n)∧(n:Int)<c
noncomputable section
def vInt(k:IntKind)(n:Int):CD:=.v (.int k n)
def b34(b:Bool):CD:=.v (.bool b)
def setCell(rows:List (List CD))(i j:Nat)(c:CD):List (List CD):=rows.modify i fun r=>r.set j c
structure LCd where
 ps:Array Tmp
 assign:Code
 body:Code
class Us where
 u:Nat→List CD→CD
 lc:Nat→LCd
class Sg extends Us where
 v:Nat→CD
def arg(l:List CD)(i:Nat):CD:=l.getD i default
def Fs.ev[Us](f:Fs)(l:List CD):CD :=
 match f with
 | .add k=>vInt k ((arg l 0).iv+(arg l 1).iv)
 | .sub k=>vInt k ((arg l 0).iv - (arg l 1).iv)
 | .mul k=>vInt k ((arg l 0).iv*(arg l 1).iv)
 | .wr k=>vInt k (k.wrap (arg l 0).iv)
 | .cast k=>vInt k (arg l 0).iv
 | .lt=>b34 (decide ((arg l 0).iv<(arg l 1).iv))
 | .le=>b34 (decide ((arg l 0).iv≤(arg l 1).iv))
 | .eq=>b34 (eqC (arg l 0) (arg l 1))
 | .not=>b34 !(arg l 0).bv
 | .and=>b34 ((arg l 0).bv&&(arg l 1).bv)
 | .or=>b34 ((arg l 0).bv||(arg l 1).bv)
 | .ite=>if(arg l 0).bv then arg l 1 else arg l 2
 | .len=>vInt .i64 (arg l 0).len
 | .slen=>vInt .i64 (arg l 0).slen
 | .cell j=>(arg l 0).cell (arg l 1).iv j
 | .fld j=>(arg l 0).fld j
 | .cut=>.sl (arg l 0).isNil (((arg l 0).rows.take (arg l 2).iv.toNat).drop (arg l 1).iv.toNat)
 | .nil b=>.sl b []
 | .mk z=>.sl (z&&(arg l 0).rows.isEmpty) (arg l 0).rows
 | .snoc=>.sl false ((arg l 0).rows++[l.drop 1])
 | .cat=>.sl false ((arg l 0).rows++(arg l 1).rows)
 | .upd j=>.sl false (setCell (arg l 0).rows (arg l 1).iv.toNat j (arg l 2))
 | .rep=>.sl false (List.replicate (arg l 0).iv.toNat (l.drop 1))
 | .str=>.v (.string ⟨((arg l 0).rows.map b8a).toArray⟩)
 | .byt=>.sl false ((arg l 0).str.toList.map cde)
 | .sidx=>vInt .u8 ((arg l 0).str.toList.getD (arg l 1).iv.toNat 0).toNat
 | .ssub=>.v (.string ⟨(((arg l 0).str.toList.take (arg l 2).iv.toNat).drop (arg l 1).iv.toNat).toArray⟩)
 | .neg k=>vInt k (k.wrap (0 - (arg l 0).iv))
 | .usr n=>Us.u n l
 | .same=>b34 (@decide (arg l 0=arg l 1) (Classical.propDecidable _))
 | .isnil=>b34 (arg l 0).isNil
 | .mhas=>b34 (mHas (arg l 1) (arg l 0).rows)
 | .mget j=>mGet j (arg l 1) (arg l 2) (arg l 0).rows
 | .mput=>.sl false (mPut (arg l 2) (l.drop 3) (arg l 1) (arg l 0).rows)
 | .mall=>b34 ((arg l 0).rows.all fun r=>mIn (cb6 r) (arg l 1).rows)
 | .mok=>b34 (@decide (MOk (arg l 0).rows (arg l 1).iv) (Classical.propDecidable _))
 | .min=>b34 (mIn (arg l 0) (arg l 1).rows)
 | .rlen=>vInt .i64 (arg l 0).rows.length
 | .typ s=>b34 (@decide (Typ s (arg l 0)) (Classical.propDecidable _))
 | .bin o k=>orV (b8u o k (arg l 0).iv (arg l 1).iv)
 | .shf o k=>orV (cfj o k (arg l 0).iv (arg l 1).iv)
 | .sbin o=>orV (strA o (arg l 0).str (arg l 1).str)
inductive X where
 | var (n:Nat)
 | lit (u:Value)
 | ap (f:Fs) (l:List X)
instance:Inhabited X:=⟨.var 0⟩
mutual
def den[Sg]:X→CD
 | .var n=>Sg.v n
 | .lit u=>.v u
 | .ap f l=>f.ev (denL l)
def denL[Sg]:List X→List CD
 | []=>[]
 | x::r=>den x::denL r
end
end
end Go.Sx

namespace Go.Sx
noncomputable section
def eqV:Value→Value→Bool
 | .int k a,.int k' b=>decide (k=k')&&decide (a=b)
 | .bool a,.bool b=>decide (a=b)
 | .string a,.string b=>decide (a.data.toList=b.data.toList)
 | .pointer none,.pointer none=>true
 | .map none,.map none=>true
 | .nilFunc,.nilFunc=>true
 | .nilIface,.nilIface=>true
 | .slice none a b,.slice none a' b'=>Nat.beq a a'&&Nat.beq b b'
 | .func (.func f) a b,.func (.func g) c d=>Nat.beq f g&&(Nat.beq a.size 0&&Nat.beq b.size 0&&(Nat.beq c.size 0&&Nat.beq d.size 0))
 | _,_=>false
theorem cmg{a b:Value}(h:eqV a b=true):a=b:=by
 unfold eqV at h
 split at h
 ·simp only [Bool.and_eq_true,decide_eq_true_eq] at h;rw [h.1,h.2]
 ·simp only [decide_eq_true_eq] at h;rw [h]
 ·rename_i a b
  simp only [decide_eq_true_eq] at h
  obtain⟨⟨x⟩⟩:=a
  obtain⟨⟨y⟩⟩:=b
  simp only at h
  rw [h]
 ·rfl
 ·rfl
 ·rfl
 ·rfl
 ·simp only [Bool.and_eq_true] at h;rw [Nat.eq_of_beq_eq_true h.1,Nat.eq_of_beq_eq_true h.2]
 ·rename_i f a b g c d
  simp only [Bool.and_eq_true] at h
  obtain⟨h1,⟨h2,h3⟩,h4,h5⟩:=h
  rw [Nat.eq_of_beq_eq_true h1,Array.eq_empty_of_size_eq_zero (Nat.eq_of_beq_eq_true h2),Array.eq_empty_of_size_eq_zero (Nat.eq_of_beq_eq_true h3),Array.eq_empty_of_size_eq_zero (Nat.eq_of_beq_eq_true h4),Array.eq_empty_of_size_eq_zero (Nat.eq_of_beq_eq_true h5)]
 ·cases h
mutual
def eqX:X→X→Bool
 | .var n,.var m=>Nat.beq n m
 | .lit a,.lit b=>eqV a b
 | .ap f l,.ap g r=>decide (f=g)&&eqXs l r
 | _,_=>false
def eqXs:List X→List X→Bool
 | [],[]=>true
 | x::xs,y::ys=>eqX x y&&eqXs xs ys
 | _,_=>false
end
mutual
theorem b3n:∀ {x y:X},eqX x y=true→x=y
 | .var n,.var m,h=>by rw [Nat.eq_of_beq_eq_true (show Nat.beq n m=true from h)]
 | .lit a,.lit b,h=>by rw [cmg (show eqV a b=true from h)]
 | .ap f l,.ap g r,h=>by
  simp only [eqX,Bool.and_eq_true,decide_eq_true_eq] at h
  rw [h.1,cpa h.2]
 | .var _,.lit _,h=>by cases h
 | .var _,.ap _ _,h=>by cases h
 | .lit _,.var _,h=>by cases h
 | .lit _,.ap _ _,h=>by cases h
 | .ap _ _,.var _,h=>by cases h
 | .ap _ _,.lit _,h=>by cases h
theorem cpa:∀ {x y:List X},eqXs x y=true→x=y
 | [],[],_=>rfl
 | x::xs,y::ys,h=>by
  simp only [eqXs,Bool.and_eq_true] at h
  rw [b3n h.1,cpa h.2]
 | [],_::_,h=>by cases h
 | _::_,[],h=>by cases h
end
abbrev Lin:=List (X×Int)×Int
def c55(n:Int):Bool:=Int.rec (motive:=fun _=>Bool) (fun m=>Nat.beq m 0) (fun _=>false) n
def chq(n:Int):Bool:=Int.rec (motive:=fun _=>Bool) (fun _=>true) (fun _=>false) n
theorem cxe{n:Int}(h:c55 n=true):n=0:=by
 cases n with
 | ofNat m=>have:=Nat.eq_of_beq_eq_true (show Nat.beq m 0=true from h);subst this;rfl
 | negSucc m=>cases h
theorem ce2{n:Int}(h:chq n=true):0≤n:=by
 cases n with
 | ofNat m=>exact Int.natCast_nonneg m
 | negSucc m=>cases h
def addA(a:X)(c:Int):List (X×Int)→List (X×Int)
 | []=>[(a,c)]
 | (b,d)::r=>match eqX a b with
  | true=>match c55 (c+d) with
   | true=>r
   | false=>(b,c+d)::r
  | false=>(b,d)::addA a c r
def cxh:List (X×Int)→List (X×Int)→List (X×Int)
 | [],m=>m
 | (a,c)::r,m=>addA a c (cxh r m)
def addL(l m:Lin):Lin:=(cxh l.1 m.1,l.2+m.2)
def scA(k:Int):List (X×Int)→List (X×Int)
 | []=>[]
 | (a,c)::r=>(a,k*c)::scA k r
def scL(k:Int)(l:Lin):Lin:=(scA k l.1,k*l.2)
def subL(l m:Lin):Lin:=addL l (scL (-1) m)
section
variable [Sg]
def sumA:List (X×Int)→Int
 | []=>0
 | (a,c)::r=>c*(den a).iv+sumA r
def lv(l:Lin):Int:=sumA l.1+l.2
theorem cq4(a:X)(c:Int):∀ l,sumA (addA a c l)=c*(den a).iv+sumA l
 | []=>rfl
 | (b,d)::r=>by
  unfold addA
  split
  ·rename_i h
   have:=b3n h
   subst this
   split
   ·rename_i h0
    have:=cxe h0
    show sumA r=c*(den a).iv+(d*(den a).iv+sumA r)
    have e:c*(den a).iv+d*(den a).iv=(c+d)*(den a).iv:=(Int.add_mul c d _).symm
    rw [← Int.add_assoc,e,this]
    omega
   ·show(c+d)*(den a).iv+sumA r=c*(den a).iv+(d*(den a).iv+sumA r)
    rw [Int.add_mul]
    omega
  ·show d*(den b).iv+sumA (addA a c r)=c*(den a).iv+(d*(den b).iv+sumA r)
   rw [cq4 a c r]
   omega
theorem clu:∀ l m,sumA (cxh l m)=sumA l+sumA m
 | [],m=>by show sumA m=0+sumA m;omega
 | (a,c)::r,m=>by
  show sumA (addA a c (cxh r m))=(c*(den a).iv+sumA r)+sumA m
  rw [cq4,clu r m]
  omega
theorem cvn(k:Int):∀ l,sumA (scA k l)=k*sumA l
 | []=>by show(0:Int)=k*0;omega
 | (a,c)::r=>by
  show k*c*(den a).iv+sumA (scA k r)=k*(c*(den a).iv+sumA r)
  rw [cvn k r,Int.mul_add,Int.mul_assoc]
theorem cry(l m:Lin):lv (addL l m)=lv l+lv m:=by
 show sumA (cxh l.1 m.1)+(l.2+m.2)=(sumA l.1+l.2)+(sumA m.1+m.2)
 rw [clu]
 omega
theorem cua(k:Int)(l:Lin):lv (scL k l)=k*lv l:=by
 show sumA (scA k l.1)+k*l.2=k*(sumA l.1+l.2)
 rw [cvn,Int.mul_add]
theorem crz(l m:Lin):lv (subL l m)=lv l - lv m:=by
 unfold subL
 rw [cry,cua]
 omega
end
def c7b(x:X):Lin:=([(x,1)],0)
def linF(f:Fs)(self:X)(ls:List Lin):Lin :=
 match f,ls with
 | .add _,[a,b]=>addL a b
 | .sub _,[a,b]=>subL a b
 | .mul _,[([],c),b]=>scL c b
 | .mul _,[a,([],c)]=>scL c a
 | .cast _,[a]=>a
 | _,_=>c7b self
mutual
def lin:X→Lin
 | .var n=>c7b (.var n)
 | .lit u=>match u with
  | .int _ z=>([],z)
  | _=>([],0)
 | .ap f l=>linF f (.ap f l) (linL l)
def linL:List X→List Lin
 | []=>[]
 | x::r=>lin x::linL r
end
section
variable [Sg]
theorem czb(x:X):lv (c7b x)=(den x).iv:=by
 show(1*(den x).iv+0)+0=_
 omega
theorem ct4:∀ (l:List X),(linL l).length=l.length
 | []=>rfl
 | x::r=>by show(linL r).length+1=r.length+1;rw [ct4 r]
mutual
theorem czc:∀ (x:X),lv (lin x)=(den x).iv
 | .var n=>czb _
 | .lit u=>by
  show lv (match u with | .int _ z=>(([],z):Lin) | _=>([],0))=(CD.v u).iv
  cases u<;>first | (show(0:Int)+0=0;rfl) | (rename_i k z;show(0:Int)+z=z;omega)
 | .ap f l=>by
  have ih:=czd l
  have hn:=ct4 l
  show lv (linF f (.ap f l) (linL l))=_
  unfold linF
  split
  ·rename_i k a b he
   rw [he] at ih hn
   match l,hn with
   | [x,y],_ =>
    have h0:=ih 0 (by simp)
    have h1:=ih 1 (by simp)
    rw [cry]
    show _=(den x).iv+(den y).iv
    simpa using (show lv a+lv b=(den x).iv+(den y).iv by have h0':lv a=(den x).iv:=h0;have h1':lv b=(den y).iv:=h1;rw [h0',h1'])
  ·rename_i k a b he
   rw [he] at ih hn
   match l,hn with
   | [x,y],_ =>
    have h0:lv a=(den x).iv:=ih 0 (by simp)
    have h1:lv b=(den y).iv:=ih 1 (by simp)
    rw [crz,h0,h1]
    rfl
  ·rename_i k c b he
   rw [he] at ih hn
   match l,hn with
   | [x,y],_ =>
    have h0:lv ([],c)=(den x).iv:=ih 0 (by simp)
    have h1:lv b=(den y).iv:=ih 1 (by simp)
    rw [cua,h1]
    have h2:lv (([],c):Lin)=c:=by show(0:Int)+c=c;omega
    rw [h2] at h0
    rw [h0]
    rfl
  ·rename_i k a c _ he
   rw [he] at ih hn
   match l,hn with
   | [x,y],_ =>
    have h0:lv a=(den x).iv:=ih 0 (by simp)
    have h1:lv ([],c)=(den y).iv:=ih 1 (by simp)
    rw [cua,h0]
    have h2:lv (([],c):Lin)=c:=by show(0:Int)+c=c;omega
    rw [h2] at h1
    rw [h1]
    show _=(den x).iv*(den y).iv
    rw [Int.mul_comm]
  ·rename_i k a he
   rw [he] at ih hn
   match l,hn with
   | [x],_=>exact ih 0 (by simp)
  ·exact czb _
theorem czd:∀ (l:List X) (i:Nat),i<l.length→lv ((linL l).getD i ([],0))=(den (l.getD i default)).iv
 | [],_,h=>by simp at h
 | x::r,0,_=>by
  show lv (lin x)=(den x).iv
  exact czc x
 | x::r,i+1,h=>czd r i (by simpa using h)
end
end
def leL(a b:X):Lin:=subL (lin a) (lin b)
def ltL(a b:X):Lin:=addL (leL a b) ([],1)
def c7q(f:Fs)(l:List X):List Lin :=
 match f,l with
 | .lt,[a,b]=>[leL b a]
 | .le,[a,b]=>[ltL b a]
 | _,_=>[]
mutual
def fact:X→List Lin
 | .ap f l=>match f,l with
  | .lt,[a,b]=>[ltL a b]
  | .le,[a,b]=>[leL a b]
  | .eq,[a,b]=>[leL a b,leL b a]
  | .not,[.ap g m]=>c7q g m
  | .and,_=>match Nat.beq l.length 2 with
   | true=>cmh l
   | false=>[]
  | _,_=>[]
 | _=>[]
def cmh:List X→List Lin
 | []=>[]
 | x::r=>fact x++cmh r
end
section
variable [Sg]
def Tru(x:X):Prop:=(den x).bv=true
theorem cwm(a b:X):lv (leL a b)=(den a).iv - (den b).iv:=by unfold leL;rw [crz,czc,czc]
theorem c8b(a b:X):lv (ltL a b)=(den a).iv - (den b).iv+1:=by
 unfold ltL
 rw [cry,cwm]
 show _+((0:Int)+1)=_
 omega
theorem da7{a b:CD}(h:eqC a b=true):a.iv=b.iv:=by
 cases a<;>cases b<;>try cases h
 rename_i u u'
 cases u<;>cases u'<;>first | rfl | (cases h;done) | skip
 rename_i k a k' b
 exact of_decide_eq_true h
theorem c3d(f:Fs)(l:List X)(h:(den (.ap f l)).bv=false):∀ m∈c7q f l,lv m≤0:=by
 unfold c7q
 split
 ·rename_i a b
  have h':decide ((den a).iv<(den b).iv)=false:=h
  have h2:=of_decide_eq_false h'
  intro m hm
  rw [List.mem_singleton.1 hm,cwm]
  omega
 ·rename_i a b
  have h':decide ((den a).iv≤(den b).iv)=false:=h
  have h2:=of_decide_eq_false h'
  intro m hm
  rw [List.mem_singleton.1 hm,c8b]
  omega
 ·intro m hm;cases hm
mutual
theorem cym:∀ (x:X),Tru x→∀ m∈fact x,lv m≤0
 | .var _,_,m,hm=>by cases hm
 | .lit _,_,m,hm=>by cases hm
 | .ap f l,h,m,hm=>by
  have ih:=cj1 l
  unfold fact at hm
  split at hm
  ·rename_i a b
   have h':decide ((den a).iv<(den b).iv)=true:=h
   have:=of_decide_eq_true h'
   rw [List.mem_singleton.1 hm,c8b]
   omega
  ·rename_i a b
   have h':decide ((den a).iv≤(den b).iv)=true:=h
   have:=of_decide_eq_true h'
   rw [List.mem_singleton.1 hm,cwm]
   omega
  ·rename_i a b
   have h':eqC (den a) (den b)=true:=h
   have:=da7 h'
   simp only [List.mem_cons,List.not_mem_nil,or_false] at hm
   rcases hm with rfl | rfl
   ·rw [cwm];omega
   ·rw [cwm];omega
  ·rename_i g m'
   have h':(!(den (.ap g m')).bv)=true:=h
   exact c3d g m' (by simpa using h') m hm
  ·split at hm
   ·rename_i hl
    have hl:=Nat.eq_of_beq_eq_true hl
    match l,hl with
    | [a,b],_ =>
     have h':((den a).bv&&(den b).bv)=true:=h
     rw [Bool.and_eq_true] at h'
     refine ih (fun i hi=>?_) m hm
     match i,hi with
     | 0,_=>exact h'.1
     | 1,_=>exact h'.2
   ·cases hm
  ·cases hm
theorem cj1:∀ (l:List X),(∀ i,i<l.length→Tru (l.getD i default))→∀ m∈cmh l,lv m≤0
 | [],_,m,hm=>by cases hm
 | x::r,h,m,hm=>by
  rcases List.mem_append.1 (show m∈fact x++cmh r from hm) with h1 | h1
  ·exact cym x (h 0 (by simp)) m h1
  ·exact cj1 r (fun i hi=>h (i+1) (by simpa using hi)) m h1
end
def Holds(hy:List X):Prop:=∀ x∈hy,Tru x
end
def facts:List X→List Lin
 | []=>[]
 | x::r=>fact x++facts r
def auto(x:X):List Lin :=
 match x with
 | .ap .len _=>[([(x,-1)],0),([(x,1)],-9223372036854775807)]
 | .ap .slen _=>[([(x,-1)],0),([(x,1)],-9223372036854775807)]
 | .ap .sidx _=>[([(x,-1)],0),([(x,1)],-255)]
 | .ap (.wr k) _=>[([(x,-1)],k.min),([(x,1)],-k.max)]
 | _=>[]
def coef(a:X):List (X×Int)→Int
 | []=>0
 | (b,d)::r=>match eqX a b with
  | true=>d
  | false=>coef a r
def anyB{α:Type}(p:α→Bool):List α→Bool
 | []=>false
 | a::r=>match p a with
  | true=>true
  | false=>anyB p r
def elim(fs:List Lin):Nat→Lin→Bool
 | 0,g=>match g.1 with
  | []=>chq (-g.2)
  | _=>false
 | n+1,g=>match g.1 with
  | []=>chq (-g.2)
  | (a,c)::_=>anyB (fun f=>match c55 (coef a f.1) with
   | true=>false
   | false=>match c55 (c % coef a f.1) with
    | true=>match chq (c / coef a f.1) with
     | true=>elim fs n (subL g (scL (c / coef a f.1) f))
     | false=>false
    | false=>false) (fs++auto a)
def leX(hy:List X)(a b:X):Bool:=elim (facts hy) 5 (leL a b)
def ltX(hy:List X)(a b:X):Bool:=elim (facts hy) 5 (ltL a b)
def memX(x:X):List X→Bool
 | []=>false
 | y::r=>match eqX x y with
  | true=>true
  | false=>memX x r
def isI:X→Bool
 | .lit (.int _ _)=>true
 | .ap (.add _) _=>true
 | .ap (.sub _) _=>true
 | .ap (.mul _) _=>true
 | .ap (.cast _) _=>true
 | .ap .len _=>true
 | .ap .slen _=>true
 | _=>false
def known1(hy:List X)(x:X):Option Bool :=
 match memX x hy with
 | true=>some true
 | false=>match memX (.ap .not [x]) hy with
  | true=>some false
  | false=>match x with
   | .lit (.bool b)=>some b
   | .ap .lt [a,b]=>match ltX hy a b with
    | true=>some true
    | false=>match leX hy b a with
     | true=>some false
     | false=>none
   | .ap .le [a,b]=>match leX hy a b with
    | true=>some true
    | false=>match ltX hy b a with
     | true=>some false
     | false=>none
   | .ap .eq [a,b]=>match isI a&&isI b with
    | true=>match ltX hy a b||ltX hy b a with
     | true=>some false
     | false=>match leX hy a b&&leX hy b a with
      | true=>some true
      | false=>none
    | false=>none
   | _=>none
def known(hy:List X)(x:X):Option Bool :=
 match known1 hy x with
 | some b=>some b
 | none=>match x with
  | .ap .not [y]=>match known1 hy y with
   | some b=>some !b
   | none=>none
  | .ap .and [y,z]=>match known1 hy y,known1 hy z with
   | some true,some true=>some true
   | some false,_=>some false
   | _,some false=>some false
   | _,_=>none
  | .ap .or [y,z]=>match known1 hy y,known1 hy z with
   | some false,some false=>some false
   | some true,_=>some true
   | _,some true=>some true
   | _,_=>none
  | _=>none
section
variable [Sg]
theorem cmi:∀ {hy:List X},Holds hy→∀ m∈facts hy,lv m≤0
 | [],_,m,hm=>by cases hm
 | x::r,h,m,hm=>by
  rcases List.mem_append.1 (show m∈fact x++facts r from hm) with h1 | h1
  ·exact cym x (h x (List.mem_cons_self ..)) m h1
  ·exact cmi (fun y hy=>h y (List.mem_cons_of_mem _ hy)) m h1
theorem daf(k:IntKind)(n:Int):k.min≤k.wrap n∧k.wrap n≤k.max:=by
 unfold IntKind.wrap
 have hp:(0:Int)<2 ^ k.bits:=Int.pow_pos (by decide)
 have h1:=Int.emod_nonneg n (show(2:Int) ^ k.bits≠0 by omega)
 have h2:=Int.emod_lt_of_pos n hp
 simp only
 generalize n % 2 ^ k.bits=m at h1 h2
 cases k<;>simp only [IntKind.signed,IntKind.bits,IntKind.min,IntKind.max] at *<;>simp at *<;>(try split)<;>omega
theorem c7c(x:X):∀ m∈auto x,lv m≤0:=by
 intro m hm
 unfold auto at hm
 split at hm
 ·rename_i l
  have h2:(den (.ap .len l)).iv=(((denL l).getD 0 default).len:Int):=rfl
  have h3:=CD.len_le ((denL l).getD 0 default)
  have h4:(((denL l).getD 0 default).len:Int)≤9223372036854775807:=by unfold maxN at h3;omega
  simp only [List.mem_cons,List.not_mem_nil,or_false] at hm
  rcases hm with rfl | rfl
  ·show(-1*(den (.ap .len l)).iv+0)+0≤0
   rw [h2];omega
  ·show(1*(den (.ap .len l)).iv+0) + -9223372036854775807≤0
   rw [h2];omega
 ·rename_i l
  have h2:(den (.ap .slen l)).iv=(((denL l).getD 0 default).slen:Int):=rfl
  have h3:=CD.slen_le ((denL l).getD 0 default)
  have h4:(((denL l).getD 0 default).slen:Int)≤9223372036854775807:=by unfold maxN at h3;omega
  simp only [List.mem_cons,List.not_mem_nil,or_false] at hm
  rcases hm with rfl | rfl
  ·show(-1*(den (.ap .slen l)).iv+0)+0≤0
   rw [h2];omega
  ·show(1*(den (.ap .slen l)).iv+0) + -9223372036854775807≤0
   rw [h2];omega
 ·rename_i l
  have h2:(den (.ap .sidx l)).iv=((((arg (denL l) 0).str.toList.getD (arg (denL l) 1).iv.toNat 0).toNat:Nat):Int):=rfl
  have h3:=((arg (denL l) 0).str.toList.getD (arg (denL l) 1).iv.toNat 0).toNat_lt
  simp only [List.mem_cons,List.not_mem_nil,or_false] at hm
  rcases hm with rfl | rfl
  ·show(-1*(den (.ap .sidx l)).iv+0)+0≤0
   rw [h2];omega
  ·show(1*(den (.ap .sidx l)).iv+0) + -255≤0
   rw [h2];omega
 ·rename_i k l
  have h2:(den (.ap (.wr k) l)).iv=k.wrap ((arg (denL l) 0).iv):=rfl
  have h3:=daf k ((arg (denL l) 0).iv)
  simp only [List.mem_cons,List.not_mem_nil,or_false] at hm
  rcases hm with rfl | rfl
  ·show(-1*(den (.ap (.wr k) l)).iv+0)+k.min≤0
   rw [h2];omega
  ·show(1*(den (.ap (.wr k) l)).iv+0) + -k.max≤0
   rw [h2];omega
 ·cases hm
theorem coi{α:Type}{p:α→Bool}:∀ {l:List α},anyB p l=true→∃ a∈l,p a=true
 | [],h=>by cases h
 | a::r,h=>by
  unfold anyB at h
  split at h
  ·rename_i h1;exact⟨a,List.mem_cons_self ..,h1⟩
  ·obtain⟨b,h1,h2⟩:=coi h;exact⟨b,List.mem_cons_of_mem _ h1,h2⟩
theorem cyc{fs:List Lin}(hf:∀ m∈fs,lv m≤0):∀ (n:Nat) (g:Lin),elim fs n g=true→lv g≤0:=by
 have base:∀ g:Lin,g.1=[]→chq (-g.2)=true→lv g≤0:=by
  rintro⟨l,c⟩ h1 h2
  simp only at h1
  subst h1
  have:=ce2 h2
  show(0:Int)+c≤0
  simp only at this
  omega
 intro n
 induction n with
 | zero =>
  intro g h
  unfold elim at h
  split at h
  ·rename_i h1;exact base g h1 h
  ·cases h
 | succ n ih =>
  intro g h
  unfold elim at h
  split at h
  ·rename_i h1;exact base g h1 h
  ·rename_i a c r h1
   obtain⟨f,hm,hp⟩:=coi h
   have hle:lv f≤0:=by
    rcases List.mem_append.1 hm with h2 | h2
    ·exact hf f h2
    ·exact c7c a f h2
   split at hp
   ·cases hp
   ·split at hp
    ·split at hp
     ·rename_i hq
      have hq:=ce2 hq
      have:=ih _ hp
      rw [crz,cua] at this
      have h5:c / coef a f.1*lv f≤0:=Int.mul_nonpos_of_nonneg_of_nonpos hq hle
      omega
     ·cases hp
    ·cases hp
theorem b5r{hy:List X}(hh:Holds hy){a b:X}(h:leX hy a b=true):(den a).iv≤(den b).iv:=by
 have:=cyc (cmi hh) 5 _ h
 rw [cwm] at this
 omega
theorem b76{hy:List X}(hh:Holds hy){a b:X}(h:ltX hy a b=true):(den a).iv<(den b).iv:=by
 have:=cyc (cmi hh) 5 _ h
 rw [c8b] at this
 omega
theorem b94{x:X}:∀ {l:List X},memX x l=true→x∈l
 | [],h=>by cases h
 | y::r,h=>by
  unfold memX at h
  split at h
  ·rename_i h1;rw [b3n h1];exact List.mem_cons_self ..
  ·exact List.mem_cons_of_mem _ (b94 h)
theorem cyz{x:X}(h:isI x=true):∃ k,den x=.v (.int k (den x).iv):=by
 unfold isI at h
 split at h
 ·exact⟨_,rfl⟩
 ·exact⟨_,rfl⟩
 ·exact⟨_,rfl⟩
 ·exact⟨_,rfl⟩
 ·exact⟨_,rfl⟩
 ·exact⟨_,rfl⟩
 ·exact⟨_,rfl⟩
 ·cases h
theorem c7m{a b:X}(ha:isI a=true)(hb:isI b=true):(den (.ap .eq [a,b])).bv=decide ((den a).iv=(den b).iv):=by
 obtain⟨k,h1⟩:=cyz ha
 obtain⟨k',h2⟩:=cyz hb
 show eqC (den a) (den b)=_
 rw [h1,h2]
 rfl
theorem b53{hy:List X}(hh:Holds hy){x:X}{b:Bool}(h:known1 hy x=some b):(den x).bv=b:=by
 unfold known1 at h
 split at h
 ·rename_i h1
  cases h
  exact hh _ (b94 h1)
 ·split at h
  ·rename_i h1
   cases h
   have:=hh _ (b94 h1)
   have h':(!(den x).bv)=true:=this
   simpa using h'
  ·split at h
   ·cases h;rfl
   ·rename_i a c _ _
    split at h
    ·rename_i h1
     cases h
     have:=b76 hh h1
     show decide ((den a).iv<(den c).iv)=true
     exact decide_eq_true this
    ·split at h
     ·rename_i h1
      cases h
      have:=b5r hh h1
      show decide ((den a).iv<(den c).iv)=false
      exact decide_eq_false (by omega)
     ·cases h
   ·rename_i a c _ _
    split at h
    ·rename_i h1
     cases h
     have:=b5r hh h1
     show decide ((den a).iv≤(den c).iv)=true
     exact decide_eq_true this
    ·split at h
     ·rename_i h1
      cases h
      have:=b76 hh h1
      show decide ((den a).iv≤(den c).iv)=false
      exact decide_eq_false (by omega)
     ·cases h
   ·rename_i a c _ _
    split at h
    ·rename_i hi
     rw [Bool.and_eq_true] at hi
     rw [c7m hi.1 hi.2]
     split at h
     ·rename_i h1
      cases h
      rw [Bool.or_eq_true] at h1
      rcases h1 with h1 | h1
      ·have:=b76 hh h1
       exact decide_eq_false (by omega)
      ·have:=b76 hh h1
       exact decide_eq_false (by omega)
     ·split at h
      ·rename_i h1
       cases h
       rw [Bool.and_eq_true] at h1
       have:=b5r hh h1.1
       have:=b5r hh h1.2
       exact decide_eq_true (by omega)
      ·cases h
    ·cases h
   ·cases h
theorem b61{hy:List X}(hh:Holds hy){x:X}{b:Bool}(h:known hy x=some b):(den x).bv=b:=by
 unfold known at h
 split at h
 ·rename_i b' h1
  cases h
  exact b53 hh h1
 ·split at h
  ·rename_i y _
   split at h
   ·rename_i b' h1
    cases h
    show(!(den y).bv)=_
    rw [b53 hh h1]
   ·cases h
  ·rename_i y z _
   have e:(den (.ap .and [y,z])).bv=((den y).bv&&(den z).bv):=rfl
   rw [e]
   split at h
   ·rename_i h1 h2
    cases h
    rw [b53 hh h1,b53 hh h2];rfl
   ·rename_i h1
    cases h
    rw [b53 hh h1];rfl
   ·rename_i h2 _
    cases h
    rw [b53 hh h2,Bool.and_false]
   ·cases h
  ·rename_i y z _
   have e:(den (.ap .or [y,z])).bv=((den y).bv||(den z).bv):=rfl
   rw [e]
   split at h
   ·rename_i h1 h2
    cases h
    rw [b53 hh h1,b53 hh h2];rfl
   ·rename_i h1
    cases h
    rw [b53 hh h1];rfl
   ·rename_i h2 _
    cases h
    rw [b53 hh h2,Bool.or_true]
   ·cases h
  ·cases h
end
end
end Go.Sx

namespace Go.Sx
end Go.Sx

namespace Go.Sx
def ddn:List (Nat×(Obj→Prop)):=[]
def TW(w:World):Prop:=∀ x∈ddn,∃ o,w.heap[x.1]? = some o∧x.2 o
theorem TW.keep{w w':World}(h:∀ k,k<w.heap.size→w'.heap[k]? = w.heap[k]?)(t:TW w):TW w':=fun x hx =>
 let ⟨o,h1,h2⟩:=t x hx
 ⟨o,by rw [h _ (Array.getElem?_eq_some_iff.1 h1).1];exact h1,h2⟩
end Go.Sx
