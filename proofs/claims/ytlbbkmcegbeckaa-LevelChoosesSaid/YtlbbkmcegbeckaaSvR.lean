/-
  A second abstract evaluator of the model's code: one operation, whichever. Conditions: none; nothing here speaks of one program.
-/
import Derived.Test.YtlbbkmcegbeckaaSvH
import Derived.Laws.Append
import Derived.Laws.AppendOwn
import Derived.Lib.AppendZerosOnto
import Derived.Laws.IdiomStrings
import Derived.RangeFuncRecord
set_option linter.all false
set_option maxRecDepth 100000
noncomputable section
namespace Go.Sx
variable [Sg]
section
variable {P:Program} [Plain P] {ora:Ora} {E:Operand→Option AV} {H H':HP} {w:World} {ρ:PM} {ev:Operand→Value} {v:AV}
theorem HRel.of_heap{w':World}(h:HRel ρ H w)(he:w'.heap=w.heap):HRel ρ H w' :=
 ⟨fun b i c L hc hL=>(h.rel b i c L hc hL).of_heap (by rw [he]),h.inj,h.hy⟩
theorem Sim.same{w':World}(h:HRel ρ H w)(hd:Dom ρ H.n)(he:w'.heap=w.heap)(h1:w'.os=w.os)(h2:w'.tape=w.tape)(h3:w'.output=w.output):Sim ρ H w ρ H w':=Sim0.same {
 le:=PM.le.refl ρ
 grow:=Rl _
 dom:=hd
 rel:=h.of_heap he
 knc:=fun _ _ _ h=>h
 fr:=fun _ _ _=>by rw [he]
 new:=fun b L h1 h2=>by rw [h1] at h2;cases h2
 size:=by rw [he];exact Rl _
 os:=h1
 tape:=h2
 output:=h3
 old:=fun b L h1 h2=>by rw [h1] at h2;cases h2 } hd
theorem Sim.drop(h:HRel ρ H w)(hd:Dom ρ H.n)(b:Nat):Sim ρ H w ρ (H.drop b) w:=by
 have hk:∀ a,(H.drop b).Kn a→H.Kn a:=by
  rintro a ⟨i,c,hc⟩
  rw [HP.cell_drop] at hc
  split at hc
  ·cases hc
  ·exact⟨i,c,hc⟩
 refine Sim0.same ?_ hd
 exact {
  le:=PM.le.refl ρ
  grow:=Rl _
  dom:=hd
  rel:=⟨fun a i c L hc hL=>by
   rw [HP.cell_drop] at hc
   split at hc
   ·cases hc
   ·exact h.rel a i c L hc hL,fun a a' L L' g1 g2=>h.inj a a' L L' (hk a g1) (hk a' g2),h.hy⟩
  knc:=fun a i _ hc=>by
   rw [HP.cell_drop]
   split
   ·rfl
   ·exact hc
  fr:=fun _ _ _=>rfl
  new:=fun b L h1 h2=>by rw [h1] at h2;cases h2
  size:=Rl _
  os:=rfl
  tape:=rfl
  output:=rfl
  old:=fun b L h1 h2=>by rw [h1] at h2;cases h2 }
def bbc(s:ByteArray):List Cel:=s.data.toList.map fun b=>.lit (.int .u8 b.toNat)
theorem beb(s:ByteArray):All2 (CRel ρ) (bbc s) (s.data.toList.map fun b=>Value.int .u8 b.toNat):=by
 unfold bbc
 induction s.data.toList with
 | nil=>trivial
 | cons b l ih=>exact⟨⟨rfl,bou b⟩,ih⟩
def repC{α:Type}(zs:List α)(n:Nat):List α:=Nat.rec (motive:=fun _=>List α) [] (fun _ ih=>zs++ih) n
theorem am6{α:Type}(zs:List α):∀ n,(repC zs n).length=n*zs.length
 | 0=>by show([]:List α).length=_;simp
 | n+1=>by
  show(zs++repC zs n).length=_
  rw [List.length_append,am6 zs n,Nat.succ_mul,Nat.add_comm]
theorem a3u{α:Type}(zs:List α):∀ (n i:Nat),i<n*zs.length→(repC zs n)[i]? = zs[i % zs.length]?
 | 0,i,h=>by simp at h
 | n+1,i,h=>by
  show(zs++repC zs n)[i]? = _
  by_cases hi:i<zs.length
  ·rw [List.getElem?_append_left hi,Nat.mod_eq_of_lt hi]
  ·rw [List.getElem?_append_right (by omega),a3u zs n (i - zs.length) (by rw [Nat.succ_mul] at h;omega)]
   congr 1
   rw [Nat.mod_eq_sub_mod (a:=i) (by omega)]
def HP.kn1(H:HP)(b:Nat):Bool :=
 match H.read b 0 1 with
 | some _=>true
 | none=>false
theorem HP.kn1_spec{b:Nat}(h:H.kn1 b=true):∃ c,H.cell b 0=some (.c c):=by
 unfold HP.kn1 at h
 split at h
 ·rename_i cs hk
  obtain⟨h1,h2⟩:=HP.read_spec hk
  have h3:cs[0]? = some cs[0]:=Gl (by omega)
  exact⟨cs[0],h2 0 _ h3⟩
 ·cases h
def fewA(m bytes:Nat):Bool:=Nat.ble (m*bytes) 140737488355328&&Nat.ble m 9223372036854775807
def seqD:TypeDesc→Bool
 | .slice _=>true
 | .string=>true
 | _=>false
theorem avr{m bytes:Nat}(h:fewA m bytes=true):m*bytes≤140737488355328∧m≤9223372036854775807:=by
 simp only [fewA,Ba] at h
 exact⟨Nl h.1,Nl h.2⟩
theorem bf1(need old:Nat)(e:TypeId)(w:World):need≤grownCap w need old e:=by
 simp only [grownCap,Question.cut];omega
theorem bf2{need:Nat}(old:Nat)(e:TypeId)(w:World)(h:need≤9223372036854775807):grownCap w need old e≤9223372036854775807:=by
 simp only [grownCap,Question.cut]
 have:=Nat.mod_lt (w.tape w.drawn (.appendCap need old e)) (show 0<2 ^ 63 - need by omega)
 omega
def blg(P:Program)(du:TypeDesc)(i:TypeInfo)(z:Value)(w:World)(x:Value)(n:Nat)(news:List Value):Prop :=
 (seqD du=true∧∀ w':World,w'.heap=w.heap→(Builtin.lenOf x).run P w'=.ok n w'∧(Builtin.firstCells i.size n x).run P w'=.ok news.toArray w') ∨
 (∃ kn kq,du=.int kn∧x=.int kq n∧news=(Builtin.zeroCells z.cells n).toList∧n*i.bytes≤140737488355328∧n≤9223372036854775807)
section app
variable {t u e ty:TypeId} {du:TypeDesc} {i:TypeInfo} {z:Value} {n:Nat} {x:Value} {news:List Value} {base:Option Addr} {sLen sCap:Nat}
theorem bo2{n:Nat}(h:n≤9223372036854775807):IntKind.i64.wrap (n:Int)=n:=by rw [IntKind.wrap_i64];omega
theorem a0s(ht:P.underlying t=some (.slice e))(hu:P.underlying u=some du)(hi:P.info? e=some i)(hz:i.zero=some z)(hsz:0<i.size)
  (hx:blg P du i z w x n news) (hle:sLen+n≤sCap) {w1:World}
  (hst:match base with | some a=>(storeCells (a.add (sLen*i.size)) news).run P w=.ok () w1 | none=>w1=w) :
  (Builtin.append_ #[t,u] ty #[.slice base sLen sCap,x]).run P w=.ok (.slice base (sLen+n) sCap) w1:=by
 rcases hx with ⟨hdu,hx⟩ | ⟨kn,kq,rfl,rfl,rfl,hb,h63⟩
 ·obtain⟨h1,h2⟩:=hx w rfl
  have hz':((P.underlying u).elim false fun d=>d matches .int _)=false:=by rw [hu];cases du<;>first | rfl | cases hdu
  cases du<;>first | cases hdu | skip
  all_goals
   cases base with
   | none =>
    subst hst
    simp [Builtin.append_,run_underlying ht,run_underlying hu,sizeOf,typeInfo,hi,h1,h2,hle]
   | some a =>
    simp [Builtin.append_,run_underlying ht,run_underlying hu,sizeOf,typeInfo,hi,h1,h2,hle,hst]
 ·have hw:=bo2 h63
  have h48i:¬ (281474976710656<(n:Int)*(i.bytes:Int)):=by
   rw [← Int.natCast_mul]
   omega
  have hneg:¬ ((n:Int)<0):=by omega
  by_cases hn0:n=0
  ·subst hn0
   have hzc:(Builtin.zeroCells z.cells 0).toList=[]:=by simp [Builtin.zeroCells]
   rw [hzc] at hst
   have hle':sLen≤sCap:=by omega
   have hw0:IntKind.i64.wrap 0=0:=by decide
   cases base with
   | none =>
    subst hst
    simp [Builtin.append_,run_underlying ht,run_underlying hu,sizeOf,typeInfo,hi,asInt,asIntOf,hw0,hle']
   | some a =>
    simp [Builtin.append_,run_underlying ht,run_underlying hu,sizeOf,typeInfo,hi,asInt,asIntOf,hw0,hle',hst]
  ·have hns:¬ (n*i.size=0):=Nat.mul_ne_zero hn0 (by omega)
   cases base with
   | none =>
    subst hst
    simp [Builtin.append_,run_underlying ht,run_underlying hu,sizeOf,typeInfo,zeroValue,hi,hz,asInt,asIntOf,hw,hneg,h48i,hns,hle]
   | some a =>
    simp [Builtin.append_,run_underlying ht,run_underlying hu,sizeOf,typeInfo,zeroValue,hi,hz,asInt,asIntOf,hw,hneg,h48i,hns,hle,hst]
theorem bao(ht:P.underlying t=some (.slice e))(hu:P.underlying u=some du)(hi:P.info? e=some i)(hz:i.zero=some z)(hsz:0<i.size)
  (hx:blg P du i z w x n news) {olds:List Value}
  (ho:∀ w':World,w'.heap=w.heap→(Builtin.firstCells i.size sLen (.slice base sLen sCap)).run P w'=.ok olds.toArray w') (hg:sCap<sLen+n) (hfew:fewA (sLen+n) i.bytes=true) (hn0:n≠0) :
  (Builtin.append_ #[t,u] ty #[.slice base sLen sCap,x]).run P w =
   .ok (.slice (some ⟨w.heap.size,0,none⟩) (sLen+n) (grownCap w (sLen+n) sCap e)) (w.drew.alloc (.cells (olds.toArray++news.toArray++Builtin.zeroCells z.cells (grownCap w (sLen+n) sCap e - (sLen+n))) e)):=by
 obtain⟨f1,f2⟩:=avr hfew
 have h3:=ho w.drew rfl
 have hn:¬ (sLen+n≤sCap):=by omega
 have h63':¬ (9223372036854775807<((sLen:Int)+(n:Int))):=by omega
 have h48':¬ (281474976710656<Builtin.nextslicecap (sLen+n) sCap*i.bytes):=by
  have:=growslice_fits (bytes:=i.bytes) hg f1
  omega
 rcases hx with ⟨hdu,hx⟩ | ⟨kn,kq,rfl,rfl,rfl,hb,h63⟩
 ·obtain⟨h1,_⟩:=hx w rfl
  obtain⟨_,h2⟩:=hx w.drew rfl
  cases du<;>first | cases hdu | skip
  all_goals
   simp [Builtin.append_,run_underlying ht,run_underlying hu,sizeOf,typeInfo,zeroValue,hi,hz,hn,h63',h48',Question.forced,h1,h2,h3,newRow,grownCap]
   congr 2
   apply Array.ext'
   simp [List.append_assoc]
 ·have:=Lib.run_append_grow_zeros w t u ty e i z kq kn ht hu hi hz base sLen sCap olds h3 n (by omega) hsz hg (by omega) (by omega) (by
   have:=growslice_fits (bytes:=i.bytes) hg f1
   omega)
  rw [this]
end app
end
section
variable {P:Program} [Plain P] {ora:Ora} {E:Operand→Option AV} {H H':HP} {w:World} {ρ:PM} {ev:Operand→Value} {v:AV}
theorem OpS.of_run{op:Op}{u':Value}{w':World}(h:∀ dst ty pos after guard,(execOp ev ⟨dst,op,ty,pos,after,guard⟩).run P w=.ok (.value u') w')(hp:Post ρ H w v H' u' w'):OpS P ρ ev H w op v H':=by
 intro dst ty pos after guard
 rw [h]
 exact hp
theorem bor{args:Array Operand}{s x:AV}(h:ap3 E args.toList=some [s,x])(hx:∀ z∈args.toList,∀ a,E z=some a→VRel ρ a (ev z)):∃ a b,args = #[a,b]∧VRel ρ s (ev a)∧VRel ρ x (ev b):=by
 have hus:=acv (ρ:=ρ) (ev:=ev) hx h
 match hargs:args.toList,hus with
 | [a,b],hus =>
  have hargs':args = #[a,b]:=by rw [← Array.toList_inj];simpa using hargs
  exact⟨a,b,hargs',hus.1,hus.2.1⟩
end
section
variable {P:Program} [Plain P] {ora:Ora} {E:Operand→Option AV} {H H':HP} {w:World} {ρ:PM} {ev:Operand→Value} {v:AV}
noncomputable section
def bu2:Cel:=.lit (.int .u8 (.ofNat 0))
def isZ(c:Cel):Bool :=
 match c with
 | .lit (.int .u8 (.ofNat 0))=>true
 | _=>false
def uniB(zs:List Cel):Bool :=
 List.rec (motive:=fun _=>Bool) true (fun c _ ih=>Bool.casesOn (motive:=fun _=>Bool) (isZ c) false ih) zs
theorem bmm{c:Cel}(h:isZ c=true):c=bu2:=by
 unfold isZ at h
 split at h
 ·rfl
 ·cases h
theorem a8g:∀ (zs:List Cel),uniB zs=true→∀ x∈zs,x=bu2
 | [],_,x,hx=>by cases hx
 | c::zs,h,x,hx=>by
  have h':Bool.casesOn (motive:=fun _=>Bool) (isZ c) false (uniB zs)=true:=h
  cases hz:isZ c with
  | false=>rw [hz] at h';cases h'
  | true =>
   rw [hz] at h'
   rcases Mn.1 hx with h1 | h1
   ·rw [h1];exact bmm hz
   ·exact a8g zs h' x h1
def bmy(zs:List Cel)(n:Nat):Bk :=
 match uniB zs,Nat.ble 33 (Nat.mul n (lenC zs)) with
 | true,true=>.fl (Nat.mul n (lenC zs)) bu2
 | _,_=>aio (repC zs n)
theorem bhl{zs:List Cel}{n i:Nat}{c:Ct}(h:Bk.get (bmy zs n) i=some c):∃ x,(repC zs n)[i]? = some x∧c=.c x:=by
 unfold bmy at h
 split at h
 ·rename_i hu _
  rw [Bk.get_fl] at h
  split at h
  ·rename_i hi
   cases h
   rw [a1y] at hi
   have hi':i<n*zs.length:=hi
   have hp:0<zs.length:=by
    rcases Nat.eq_zero_or_pos zs.length with h0 | h0
    ·rw [h0] at hi';omega
    ·exact h0
   have hm:=Nat.mod_lt i hp
   rw [a3u zs n i hi',Gl hm]
   exact⟨_,rfl,by rw [a8g zs hu _ (List.getElem_mem hm)]⟩
  ·cases h
 ·exact alx h
end
def al3(P:Program)[Plain P](E:Operand→Option AV)(H:HP)(t:TypeId)(x y:Operand):R :=
 match undT P t,E x,E y with
 | some (.slice e),some (.one (.lit (.int _ l))),some (.one (.lit (.int _ c)))=>match szA P e,infoT P e with
  | some (_,sz),some i=>match i.zero with
   | some z=>if 0≤l∧l≤c∧fewA c.toNat i.bytes=true∧0<sz∧i.size=sz∧z.cells.size=sz then
     (lits z.cells.toList).map fun zs=>(.one (.sl H.n 0 l.toNat c.toNat),H.push (bmy zs c.toNat))
    else none
   | none=>none
  | _,_=>none
 | _,_,_=>none
theorem bk0(n:Int):IntKind.i64.wrap n=(n+9223372036854775808) % 18446744073709551616 - 9223372036854775808:=by
 simp [IntKind.wrap,IntKind.bits,IntKind.signed]
 split<;>omega
theorem wrap_small{n:Int}(h0:0≤n)(h1:n≤9223372036854775807):IntKind.i64.wrap n=n:=by
 have:IntKind.i64.wrap n=(n+9223372036854775808) % 18446744073709551616 - 9223372036854775808:=bk0 n
 rw [this]
 omega
theorem run_askRoom{n:Nat}(h:n≤140737488355328):(askRoom n).run P w=.ok () w:=by
 unfold askRoom roomBytes
 rw [if_neg (by omega)]
 rfl
theorem a2e{t:TypeId}{x y:Operand}(h:al3 P E H t x y=some (v,H'))(hx:∀ z,z=x∨z=y→∀ a,E z=some a→VRel ρ a (ev z))(hH:HRel ρ H w)(hd:Dom ρ H.n) :
  St H H'∧OpS P ρ ev H w (.makeSlice t x y) v H':=by
 unfold al3 at h
 simp only [ab6,aja] at h
 split at h
 ·rename_i e k l k' c hu hex hey
  obtain⟨he1,hl1⟩:=hx x (.inl rfl) _ hex
  obtain⟨he2,hl2⟩:=hx y (.inr rfl) _ hey
  split at h
  ·rename_i ag sz i hs hi
   split at h
   ·rename_i z hz
    split at h
    ·rename_i hc
     obtain⟨h0,h1,h2,h3,h4,h5⟩:=hc
     obtain⟨zs,hlits,hv⟩:=map_some h
     cases hv
     obtain⟨f1,f2⟩:=avr h2
     refine⟨St.push _ _,fun dst ty pos after guard=>?_⟩
     have hrel:=ajd (ρ:=ρ) hlits
     have hrep:All2 (CRel ρ) (repC zs c.toNat) ((Array.range (c.toNat*i.size)).map fun i=>z.cells[i % z.cells.size]!).toList:=by
      have hzl:=hrel.length
      simp only [Array.length_toList] at hzl
      refine All2.of_get (by simp [am6,hzl,h4,h5]) fun j a b ha hb=>?_
      have hj:j<c.toNat*zs.length:=by have:=(Ls.1 ha).1;rwa [am6] at this
      rw [a3u _ _ _ hj] at ha
      simp only [Array.toList_map,Array.toList_range,List.getElem?_map,Option.map_eq_some_iff] at hb
      obtain⟨j',hj',rfl⟩:=hb
      rw [List.getElem?_range (by rw [h4,← h5,← hzl];exact hj)] at hj'
      cases hj'
      obtain⟨b,hb,hr⟩:=hrel.get _ _ ha
      rw [hzl,Array.getElem?_toList] at hb
      have hlt:=(Ga.1 hb).1
      rw [getElem!_pos z.cells _ hlt]
      rw [Array.getElem?_eq_getElem hlt] at hb
      cases hb
      exact hr
     have hsim:=Sim.allocK (k:=bmy zs c.toNat) (fun _ _ h=>bhl h) (cs:=repC zs c.toNat) (t:=e) (us:=(Array.range (c.toNat*i.size)).map fun i=>z.cells[i % z.cells.size]!) hH hd (by rw [List.take_of_length_le (Nat.le_of_eq hrep.length.symm)];exact hrep)
     have hrun:(execOp ev ⟨dst,.makeSlice t x y,ty,pos,after,guard⟩).run P w=.ok (.value (.slice (some ⟨w.heap.size,0,none⟩) l.toNat c.toNat)) (w.alloc (.cells ((Array.range (c.toNat*i.size)).map fun i=>z.cells[i % z.cells.size]!) e)):=by
      obtain⟨l',rfl⟩:=Int.eq_ofNat_of_zero_le h0
      obtain⟨c',rfl⟩:=Int.eq_ofNat_of_zero_le (Int.le_trans h0 h1)
      simp only [Int.toNat_natCast] at f1 f2 ⊢
      have e1:IntKind.i64.wrap (l':Int)=l':=wrap_small (by omega) (by omega)
      have e2:IntKind.i64.wrap (c':Int)=c':=wrap_small (by omega) (by omega)
      have e3:((i.bytes:Int)*(c':Int))=((c'*i.bytes:Nat):Int):=by rw [Nat.mul_comm];simp
      have e4:¬ (281474976710656<((i.bytes:Int)*(c':Int))):=by rw [e3];omega
      have e5:¬ ((c':Int)<l'):=by omega
      have e6:=run_askRoom (P:=P) (w:=w) f1
      by_cases hn:c'=0
      ·subst hn
       have hl0:l'=0:=by omega
       subst hl0
       have e0:IntKind.i64.wrap 0=0:=by decide
       have e7:=run_askRoom (P:=P) (w:=w) (n:=0) (by omega)
       simp [e0,e7,execOp,Instr.makeSlice,run_underlying hu,he1,he2,asInt,asIntOf,typeInfo,sizeOf,hi,e1,e2,e4,e5,e6,newRow,zeroValue,hz]
       congr 2
       apply Array.ext'
       simp
      ·have hne:¬ (c'*i.size=0):=by
        intro hz'
        rcases Nat.mul_eq_zero.1 hz' with h | h<;>omega
       simp [execOp,Instr.makeSlice,run_underlying hu,he1,he2,asInt,asIntOf,typeInfo,sizeOf,hi,e1,e2,e4,e5,e6,hne,newRow,zeroValue,hz]
       intro hh
       omega
     rw [hrun]
     refine⟨_,⟨⟨⟨w.heap.size,0,_,none⟩,upd_same _ _ _,rfl⟩,by omega,by omega⟩,hsim⟩
    ·cases h
   ·cases h
  ·cases h
 ·cases h
end
section
variable {P:Program} [Plain P] {ora:Ora} {E:Operand→Option AV} {H H':HP} {w:World} {ρ:PM} {ev:Operand→Value} {v:AV}
theorem avy(w:World)(B o k:Nat):(w.freeze ⟨B,o,none⟩ 1).heap[k]? = if B=k then(w.heap[k]?).map (fun x=>match x with | .cells c e (lo,hi)=>.cells c e (if lo==hi then(o,o+1) else(min lo o,max hi (o+1))) | x=>x) else w.heap[k]?:=by
 unfold World.freeze
 rw [if_neg (by decide)]
 simp only [Array.getElem?_modify]
 split
 ·congr 1
 ·rfl
theorem ayk{fr:Nat×Nat}{n:Nat}(h:UF fr n):UF (if fr.1==fr.2 then(n,n+1) else(min fr.1 n,max fr.2 (n+1))) n:=by
 obtain⟨lo,hi⟩:=fr
 unfold UF at *
 simp only at *
 by_cases he:lo=hi
 ·subst he
  simp
 ·rcases h with h | h
  ·exact absurd h he
  ·have:(lo==hi)=false:=by simpa using he
   rw [this]
   simp only [Bool.false_eq_true,if_false]
   right
   omega
theorem Sim.freeze(hH:HRel ρ H w)(hd:Dom ρ H.n){b:Nat}{L:Loc}(hL:ρ b=some L)(hk:H.Kn b){arr:Array Value}{t:TypeId}{fr:Nat×Nat}(ha:w.heap[L.B]? = some (.cells arr t fr))(hu:UF fr arr.size) :
  Sim ρ H w ρ H (w.freeze ⟨L.B,arr.size,none⟩ 1):=by
 have hB:(w.freeze ⟨L.B,arr.size,none⟩ 1).heap[L.B]? = some (.cells arr t (if fr.1==fr.2 then(arr.size,arr.size+1) else(min fr.1 arr.size,max fr.2 (arr.size+1)))):=by
  rw [avy,if_pos rfl,ha]
  rfl
 have ho:∀ k,k≠L.B→(w.freeze ⟨L.B,arr.size,none⟩ 1).heap[k]? = w.heap[k]?:=fun k hk=>by rw [avy,if_neg (Ne.symm hk)]
 refine Sim0.same ?_ hd
 exact {
  le:=PM.le.refl ρ
  grow:=Rl _
  dom:=hd
  rel:=by
   refine⟨fun b' i c K hc hK=>?_,hH.inj,hH.hy⟩
   have h0:=hH.rel b' i c K hc hK
   by_cases hBK:K.B=L.B
   ·cases c with
    | c x =>
     obtain⟨arr',t',fr',u,h1,h2,h3,h4,h5⟩:=h0
     rw [hBK,ha] at h1
     cases h1
     exact⟨arr,t,_,u,by rw [hBK];exact hB,ayk hu,h3,h4,h5⟩
    | map es ck =>
     obtain⟨_,_,m,h1,_⟩:=h0
     rw [hBK,ha] at h1
     cases h1
    | iter m a1 a2 a3 =>
     obtain⟨_,_,m,h1,_⟩:=h0
     rw [hBK,ha] at h1
     cases h1
    | loop a1 a2 a3 a4 a5 =>
     obtain⟨_,_,m,h1,_⟩:=h0
     rw [hBK,ha] at h1
     cases h1
    | mx a1 a2 a3 a4 a5 =>
     obtain⟨_,_,m,_,h1,_⟩:=h0
     rw [hBK,ha] at h1
     cases h1
    | ix a1 a2 a3 =>
     obtain⟨_,_,_,_,_,_,h1,_⟩:=h0
     rw [hBK,ha] at h1
     cases h1
    | room =>
     obtain⟨arr',t',fr',h1,h2,h3,h4⟩:=h0
     rw [hBK,ha] at h1
     cases h1
     exact⟨arr,t,_,by rw [hBK];exact hB,ayk hu,h3,h4⟩
    | rows ss G e n =>
     obtain⟨h7,h8,h9,arr',t',fr',h1,h2,h3,h4⟩:=h0
     rw [hBK,ha] at h1
     cases h1
     exact⟨h7,h8,h9,arr,t,_,by rw [hBK];exact hB,⟨ayk hu,h2.2⟩,h3,h4⟩
   ·exact h0.of_heap (ho _ hBK)
  knc:=fun _ _ _ h=>h
  fr:=fun k _ hno=>ho k fun h=>hno b L hk hL h.symm
  new:=fun b L h1 h2=>by rw [h1] at h2;cases h2
  size:=by unfold World.freeze;rw [if_neg (by decide)];simp
  os:=by unfold World.freeze;rw [if_neg (by decide)]
  tape:=by unfold World.freeze;rw [if_neg (by decide)]
  output:=by unfold World.freeze;rw [if_neg (by decide)]
  old:=fun b L h1 h2=>by rw [h1] at h2;cases h2 }
def bb4:List Cel→Option (List Int)
 | []=>some []
 | .lit (.int .u8 n)::cs=>match bb4 cs with
  | some ns=>some (n::ns)
  | none=>none
 | _=>none
def strOf(ns:List Int):ByteArray:=ns.foldl (fun r n=>r.push (UInt8.ofNat n.toNat)) ByteArray.empty
def toStr(H:HP)(v:AV):Option ByteArray :=
 match v with
 | .one (.lit (.slice none _ _))=>some ByteArray.empty
 | v=>match a4x v with
  | some (b,off,len)=>match H.read b off len with
   | some cs=>match bb4 cs with
    | some ns=>match Nat.ble (strOf ns).size 9223372036854775807 with
     | true=>some (strOf ns)
     | false=>none
    | none=>none
   | none=>none
  | none=>none
def ao4(P:Program)[Plain P](E:Operand→Option AV)(H:HP)(t u:TypeId)(x:Operand):R :=
 match undT P t,undT P u,E x with
 | some _,some (.int k),some (.one (.lit (.int _ n)))=>some (.one (.lit (.int k (k.wrap n))),H)
 | some _,some .string,some (.one (.lit (.string s)))=>some (.one (.lit (.string s)),H)
 | some (.slice e),some .string,some v=>match undT P e with
  | some (.int .u8)=>(toStr H v).map fun s=>(.one (.lit (.string s)),H)
  | _=>none
 | some .string,some (.slice e),some (.one (.lit (.string s)))=>match undT P e with
  | some (.int .u8)=>some (.one (.su H.n 0 s.size 1),H.push (aio (bbc s)))
  | _=>none
 | some (.slice _),some (.slice e),some v=>match undT P e,Nat.beq t u,a4x v with
  | some (.int .u8),true,some (b,_,_)=>match H.kn1 b with
   | true=>some (v,H)
   | false=>none
  | _,_,_=>none
 | _,_,_=>none
theorem azu:∀ {cs:List Cel} {ns:List Int} {us:List Value},bb4 cs=some ns→All2 (CRel ρ) cs us→us=ns.map (Value.int .u8)
 | [],ns,us,h,hr=>by
  cases h
  cases us with
  | nil=>rfl
  | cons u us=>exact hr.elim
 | .lit (.int .u8 n)::cs,ns,us,h,hr=>by
  simp only [bb4] at h
  split at h
  ·rename_i ns' hns
   cases h
   cases us with
   | nil=>exact hr.elim
   | cons u us =>
    obtain⟨⟨rfl,_⟩,h2⟩:=hr
    rw [azu hns h2]
    rfl
  ·cases h
theorem bop{x:AV}{u:Value}{s:ByteArray}(h:toStr H x=some s)(hx:VRel ρ x u)(hH:HRel ρ H w):abw (.string s)=true∧∃ a l c,u=.slice a l c∧(Conv.bytesToString u).run P w=.ok (.string s) w:=by
 unfold toStr at h
 split at h
 ·cases h
  obtain⟨rfl,_⟩:=hx
  exact⟨by decide,_,_,_,rfl,rfl⟩
 ·split at h
  ·rename_i b off len hb
   split at h
   ·rename_i cs hcs
    split at h
    ·rename_i ns hns
     split at h
     ·rename_i hble
      cases h
      obtain⟨L,cap,hL,rfl,h1,h2⟩:=aon hb hx
      obtain⟨us,hl,hrel,hcell⟩:=HP.read_world hcs hH hL
      have hus:=azu hns hrel
      refine⟨by simp only [abw,Dt];exact Nl hble,_,_,_,rfl,run_bytesToString w _ _ _ ns ?_⟩
      rw [← hus,← hl]
      refine run_loadCells_list w _ us fun j v hj=>?_
      rw [abl]
      exact hcell j v hj
     ·cases h
    ·cases h
   ·cases h
  ·cases h
theorem a9z{t u:TypeId}{x:Operand}(h:ao4 P E H t u x=some (v,H'))(hx:∀ a,E x=some a→VRel ρ a (ev x))(hH:HRel ρ H w)(hd:Dom ρ H.n) :
  St H H'∧OpS P ρ ev H w (.convert t u x) v H':=by
 unfold ao4 at h
 simp only [ab6] at h
 split at h
 ·rename_i d k k' n ht hu hex
  cases h
  obtain⟨he,hl⟩:=hx _ hex
  refine⟨St.refl H,OpS.val hH hd (agx (aol k n)) fun dst ty pos after guard=>?_⟩
  have:(convert t u (.int k' n)).run P w=.ok (.int k (k.wrap n)) w:=by
   simp only [convert,Sem.run_bind,run_underlying ht,run_underlying hu,Result.andThen_ok]
   rfl
  simp [execOp,he,this]
 ·rename_i d s ht hu hex
  cases h
  obtain⟨he,hl⟩:=hx _ hex
  refine⟨St.refl H,OpS.val hH hd (agx hl) fun dst ty pos after guard=>?_⟩
  have:(convert t u (.string s)).run P w=.ok (.string s) w:=by
   simp only [convert,Sem.run_bind,run_underlying ht,run_underlying hu,Result.andThen_ok]
   rfl
  simp [execOp,he,this]
 ·rename_i e v0 _ ht hu hex
  split at h
  ·rename_i he
   obtain⟨s,hs,hv⟩:=map_some h
   cases hv
   obtain⟨hl,a,l,c,hev,hrun⟩:=bop (P:=P) hs (hx _ hex) hH
   refine⟨St.refl H,OpS.val hH hd (agx hl) fun dst ty pos after guard=>?_⟩
   have:=run_convert_bytes_string (P:=P) w t u e a l c ht he hu
   rw [← hev,hrun] at this
   simp [execOp,this]
  ·cases h
 ·rename_i e s ht hu hex
  split at h
  ·rename_i he
   cases h
   obtain⟨hev,hl⟩:=hx _ hex
   simp only [abw,Dt] at hl
   refine⟨St.push _ _,fun dst ty pos after guard=>?_⟩
   have hrun:=run_bytes_of_string (P:=P) w t u e s ht hu he
   have hc1:=bf1 s.size 0 e w
   have hc2:=bf2 (need:=s.size) 0 e w hl
   have hsz:(bytesRow s (grownCap w s.size 0 e)).size=grownCap w s.size 0 e:=by
    have:s.data.size=s.size:=rfl
    simp only [bytesRow,Array.size_append,Array.size_map,Array.size_replicate,this]
    omega
   have s2:Sim ρ H w ρ H w.drew:=Sim.same hH hd rfl rfl rfl rfl
   have s3:=Sim.alloc (H:=H) (ρ:=ρ) (w:=w.drew) (o:=.cells (bytesRow s (grownCap w s.size 0 e)) e ((bytesRow s (grownCap w s.size 0 e)).size,(bytesRow s (grownCap w s.size 0 e)).size+1)) (k:=aio (bbc s)) (L:=⟨w.heap.size,0,grownCap w s.size 0 e,none⟩) s2.rel hd rfl rfl fun i c hc=>by
    obtain⟨y,hy,rfl⟩:=alx hc
    obtain⟨b,hb,hr⟩:=(beb (ρ:=upd ρ H.n ⟨w.heap.size,0,grownCap w s.size 0 e,none⟩) s).get i y hy
    refine⟨_,e,_,b,(by rw [heap_alloc];exact if_pos rfl),.inr (Rl _),hsz,?_,hr⟩
    simp only [Nat.zero_add,bytesRow]
    have hi:i<s.data.size:=by
     have:=(Ls.1 hb).1
     simpa using this
    rw [Array.getElem?_append_left (by simpa using hi)]
    rw [← hb]
    simp
   have:(execOp ev ⟨dst,.convert t u x,ty,pos,after,guard⟩).run P w=.ok (.value (.slice (some ⟨w.heap.size,0,none⟩) s.size (grownCap w s.size 0 e))) (w.drew.alloc (.cells (bytesRow s (grownCap w s.size 0 e)) e ((bytesRow s (grownCap w s.size 0 e)).size,(bytesRow s (grownCap w s.size 0 e)).size+1))):=by
    simp [execOp,hev,hrun]
   rw [this]
   exact⟨_,⟨⟨w.heap.size,0,grownCap w s.size 0 e,none⟩,grownCap w s.size 0 e,upd_same _ _ _,rfl,hc1,hc2,by simp⟩,s2.trans hd s3⟩
  ·cases h
 ·rename_i e0 e v0 _ ht hu hex
  split at h
  ·rename_i b off len he htu hb
   have htu':=Nb htu
   subst htu'
   split at h
   ·rename_i hkn
    cases h
    obtain⟨c0,hc0⟩:=HP.kn1_spec hkn
    obtain⟨L,cap,hL,hev,h1,h2⟩:=aon hb (hx _ hex)
    obtain⟨arr,t',fr,u0,e1,e2,e3,e4,e5⟩:=hH.rel b 0 (.c c0) L hc0 hL
    refine⟨St.refl H,OpS.of_run (w':=w.freeze ⟨L.B,arr.size,none⟩ 1) (u':=ev x) (fun dst ty pos after guard=>?_) ⟨ρ,hx _ hex,Sim.freeze hH hd hL ⟨0,_,hc0⟩ e1 e2⟩⟩
    have hsh:w.shape? L.B=some (t',arr.size):=by unfold World.shape?;rw [e1]
    rw [hu] at ht
    cases ht
    simp [execOp,hev,convert,run_underlying hu,run_underlying he,markStringish,hsh]
   ·cases h
  ·cases h
 ·cases h
end
section
variable {P:Program} [Plain P] {ora:Ora} {E:Operand→Option AV} {H H':HP} {w:World} {ρ:PM} {ev:Operand→Value} {v:AV}
theorem PRel.mkV{ag:Bool}{xs:List Cel}{u:Value}(h:PRel ρ (ag,xs) u):∃ us,u=Sx.mkV ag us∧All2 (CRel ρ) xs us:=by
 cases ag with
 | true=>obtain⟨us,rfl,h2⟩:=h;exact⟨us.toList,rfl,h2⟩
 | false =>
  match xs,h with
  | [c],h=>exact⟨[u],rfl,h,trivial⟩
noncomputable section
def bmz(H:HP)(b:Nat):Option (List Ent×Nat) :=
 match H.t.get b with
 | some (.lf [some (.map es clock)])=>some (es,clock)
 | _=>none
end
theorem a1g{b:Nat}{x:Ct}(h:H.t.get b=some (.lf [some x])):H.cell b 0=some x∧∀ i,i≠0→H.cell b i=none:=by
 refine⟨by unfold HP.cell;rw [h];rfl,fun i hi=>?_⟩
 obtain⟨j,rfl⟩:=Nat.exists_eq_succ_of_ne_zero hi
 unfold HP.cell
 rw [h]
 rfl
theorem azz{b:Nat}{es:List Ent}{clock:Nat}(h:bmz H b=some (es,clock)):H.t.get b=some (.lf [some (.map es clock)]):=by
 unfold bmz at h
 split at h
 ·rename_i hk
  cases h
  exact hk
 ·cases h
theorem Sim.put1{b:Nat}{x c:Ct}{L:Loc}{o o':Obj}(hH:HRel ρ H w)(hd:Dom ρ H.n)(hL:ρ b=some L)(hb:H.t.get b=some (.lf [some c]))(ho:w.heap[L.B]? = some o)(hnc:∀ arr t fr,o≠.cells arr t fr)
  (hx:aei ρ (w.putObj L.B o') L 0 x):Sim ρ H w ρ (H.obj b x) (w.putObj L.B o') :=
 Sim.setObj hH hd hL ⟨_,(a1g hb).1⟩ (a1g hb).2 (fun arr t fr h=>by rw [ho] at h;cases h;exact hnc _ _ _ rfl) hx (fun k hk=>World.putObj_heap_other hk) (by simp) rfl rfl rfl
theorem bhm{b:Nat}{es:List Ent}{clock:Nat}{L:Loc}(hH:HRel ρ H w)(hL:ρ b=some L)(h:bmz H b=some (es,clock)):L.o=0∧∃ arr,w.heap[L.B]? = some (.map arr clock)∧All2 (auu ρ) es arr.toList:=by
 obtain⟨_,h1,h2⟩:=hH.rel b 0 _ L (a1g (azz h)).1 hL
 exact⟨h1,h2⟩
theorem Sim.map{b:Nat}{es es':List Ent}{clock clock':Nat}{L:Loc}{arr arr':Array MapEntry}(hH:HRel ρ H w)(hd:Dom ρ H.n)(hL:ρ b=some L)(h:bmz H b=some (es,clock))(harr:w.heap[L.B]? = some (.map arr clock))(hr:All2 (auu ρ) es' arr'.toList) :
  Sim ρ H w ρ (H.obj b (.map es' clock')) (w.putObj L.B (.map arr' clock')):=by
 refine Sim.put1 hH hd hL (azz h) harr (fun _ _ _ h=>by cases h) ?_
 exact⟨rfl,(bhm hH hL h).1,arr',World.putObj_heap_same (Ga.1 harr).1,hr⟩
noncomputable section
end
theorem All2.getD{α β:Type}{R:α→β→Prop}{as:List α}{bs:List β}(h:All2 R as bs){i:Nat}{a:α}(ha:as[i]? = some a):∃ b,bs[i]? = some b∧R a b:=h.get i a ha
noncomputable section
end
noncomputable section
end
end
section
variable {P:Program} [Plain P] {ora:Ora} {E:Operand→Option AV} {H H':HP} {w:World} {ρ:PM} {ev:Operand→Value} {v:AV}
def brf(P:Program)[Plain P](ora:Ora)(E:Operand→Option AV)(H:HP)(c:Call):R :=
 match c.callee with
 | .value f=>bm2 ora E H f c.args
 | .builtin b=>match b with
  | .len=>oLen P E H c.args c.argTypes
  | _=>none
 | _=>none
def acj(P:Program)[Plain P](ora:Ora)(E:Operand→Option AV)(H:HP)(op:Op):R :=
 match op with
 | .move x=>bsk E H x
 | .assign x=>bsk E H x
 | .pick c a b=>bm5 E H c a b
 | .alloc t=>a6q P H t
 | .box _ x=>oBox E H x
 | .build t ps=>bp5 P E H t ps
 | .buildSlice t n ps=>anb P E H t n ps
 | .load t x=>a92 P E H t x
 | .store t x y=>a6s P E H t x y
 | .nilCheck x=>oNil E H x
 | .binOp op t x y _=>oBin P E H op t x y
 | .unOp op _ x=>oUn E H op x
 | .convert t u x=>ao4 P E H t u x
 | .makeFunc f xs cs=>ao5 E H f xs cs
 | .makeSlice t x y=>al3 P E H t x y
 | .slice t x l h m=>bcq P E H t x l h m
 | .fieldAddr t x f=>al1 P E H t x f
 | .field t x f=>bcn P E H t x f
 | .indexAddr t x i=>al2 P E H t x i
 | .index t x i=>bcp P E H t x i
 | .extract x i=>aui E H x i
 | .call c=>brf P ora E H c
 | _=>none
theorem bog(ho:aom P ora){op:Op}(h:acj P ora E H op=some (v,H'))(hx:∀ x∈op.operands,∀ a,E x=some a→VRel ρ a (ev x))(hH:HRel ρ H w)(hd:Dom ρ H.n)(hj:J ρ H w) :
  St H H'∧OpS P ρ ev H w op v H':=by
 cases op with
 | move x=>exact⟨(auj (P:=P) h (fun a=>hx x (by simp [Op.operands]) a) hH hd).1,(auj (P:=P) h (fun a=>hx x (by simp [Op.operands]) a) hH hd).2.1⟩
 | assign x=>exact⟨(auj (P:=P) h (fun a=>hx x (by simp [Op.operands]) a) hH hd).1,(auj (P:=P) h (fun a=>hx x (by simp [Op.operands]) a) hH hd).2.2⟩
 | pick c a b=>exact bm6 h (fun z hz=>hx z (by rcases hz with rfl | rfl | rfl<;>simp [Op.operands])) hH hd
 | alloc t=>exact bhu h hH hd
 | box t x=>exact bsi h (hx x (by simp [Op.operands])) hH hd
 | build t ps=>exact bhw h (fun p hp=>hx p.2 (by simp only [Op.operands,List.mem_toArray,List.mem_map];exact⟨p,hp,rfl⟩)) hH hd
 | buildSlice t n ps=>exact ay6 h (fun p hp=>hx p.2 (by simp only [Op.operands,List.mem_toArray,List.mem_map];exact⟨p,hp,rfl⟩)) hH hd
 | load t x=>exact bm4 h (hx x (by simp [Op.operands])) hH hd
 | store t x y=>exact bh4 h (fun z hz=>hx z (by rcases hz with rfl | rfl<;>simp [Op.operands])) hH hd
 | nilCheck x=>exact bsl h (hx x (by simp [Op.operands])) hH hd
 | binOp op t x y ty=>exact bhv h (fun z hz=>hx z (by rcases hz with rfl | rfl<;>simp [Op.operands])) hH hd
 | unOp op t x=>exact bh5 h (hx x (by simp [Op.operands])) hH hd
 | convert t u x=>exact a9z h (hx x (by simp [Op.operands])) hH hd
 | makeFunc f xs cs=>exact a6r h (fun z hz=>hx z (by simp only [Op.operands,Array.mem_append];right;simpa using hz)) hH hd
 | makeSlice t x y=>exact a2e h (fun z hz=>hx z (by rcases hz with rfl | rfl<;>simp [Op.operands])) hH hd
 | slice t x l hh m=>exact bh3 h (fun z hz=>hx z (by rcases hz with rfl | hz | hz | hz<;>simp [Op.operands, *])) hH hd
 | fieldAddr t x f=>exact a2c h (hx x (by simp [Op.operands])) hH hd
 | field t x f=>exact bh0 h (hx x (by simp [Op.operands])) hH hd
 | indexAddr t x i=>exact a2d h (fun z hz=>hx z (by rcases hz with rfl | rfl<;>simp [Op.operands])) hH hd
 | index t x i=>exact bh2 h (fun z hz=>hx z (by rcases hz with rfl | rfl<;>simp [Op.operands])) hH hd
 | extract x i=>exact a90 h (hx x (by simp [Op.operands])) hH hd
 | call c =>
  obtain⟨callee,args,ats⟩:=c
  cases callee with
  | value f=>exact bm3 ho h (fun z hz=>hx z (by simp only [Op.operands,Call.operands,Array.mem_append];rcases hz with rfl | hz<;>simp_all)) hH hd hj
  | invoke r m=>cases h
  | builtin b =>
   have hx':∀ z∈args.toList,∀ a,E z=some a→VRel ρ a (ev z):=fun z hz=>hx z (by simp only [Op.operands,Call.operands,Array.mem_append];right;simpa using hz)
   cases b with
   | len =>
    exact bsj h hx' hH hd
   | _=>cases h
 | _=>cases h
def isPure:Op→Bool
 | .move _=>true
 | .assign _=>true
 | .pick _ _ _=>true
 | .build _ _=>true
 | .nilCheck _=>true
 | .binOp _ _ _ _ _=>true
 | .unOp _ _ _=>true
 | .makeFunc _ _ _=>true
 | .slice _ _ _ _ _=>true
 | .fieldAddr _ _ _=>true
 | .field _ _ _=>true
 | .indexAddr _ _ _=>true
 | .index _ _ _=>true
 | .extract _ _=>true
 | _=>false
theorem a2k{α:Type}{x:Option α}{f:α→AV}(h:x.map (fun a=>(f a,H))=some (v,H')):H'=H∧∀ G:HP,x.map (fun a=>(f a,G))=some (v,G):=by
 obtain⟨a,rfl,hv⟩:=map_some h
 cases hv
 exact⟨rfl,fun _=>rfl⟩
theorem a01{op:Op}(hp:isPure op=true)(h:acj P ora E H op=some (v,H')):H'=H∧∀ G:HP,acj P ora E G op=some (v,G):=by
  cases op with
  | move x=>exact a2k h
  | assign x=>exact a2k h
  | pick c a b =>
    simp only [acj,bm5] at h ⊢
    repeat' (split at h)
    all_goals first
     | (cases h;done)
     | (cases h;exact⟨rfl,fun G=>by simp [*]⟩)
     | (obtain⟨a,ha,hv⟩:=map_some h;cases hv;exact⟨rfl,fun G=>by simp [*]⟩)
  | build t ps=>exact a2k h
  | nilCheck x =>
    simp only [acj,oNil] at h ⊢
    repeat' (split at h)
    all_goals first
     | (cases h;done)
     | (cases h;exact⟨rfl,fun G=>by simp [*]⟩)
     | (obtain⟨a,ha,hv⟩:=map_some h;cases hv;exact⟨rfl,fun G=>by simp [*]⟩)
  | binOp op t x y ty =>
    simp only [acj,oBin] at h ⊢
    repeat' (split at h)
    all_goals first
     | (cases h;done)
     | (cases h;exact⟨rfl,fun G=>by simp [*]⟩)
     | (obtain⟨a,ha,hv⟩:=map_some h;cases hv;exact⟨rfl,fun G=>by simp [*]⟩)
  | unOp op t x =>
    simp only [acj,oUn] at h ⊢
    repeat' (split at h)
    all_goals first
     | (cases h;done)
     | (cases h;exact⟨rfl,fun G=>by simp [*]⟩)
     | (obtain⟨a,ha,hv⟩:=map_some h;cases hv;exact⟨rfl,fun G=>by simp [*]⟩)
  | makeFunc f xs cs =>
    simp only [acj,ao5] at h ⊢
    repeat' (split at h)
    all_goals first
     | (cases h;done)
     | (cases h;exact⟨rfl,fun G=>by simp [*]⟩)
     | (obtain⟨a,ha,hv⟩:=map_some h;cases hv;exact⟨rfl,fun G=>by simp [*]⟩)
  | slice t x l hh m =>
    simp only [acj,bcq] at h ⊢
    repeat' (split at h)
    all_goals first
     | (cases h;done)
     | (cases h;exact⟨rfl,fun G=>by simp [*]⟩)
     | (obtain⟨a,ha,hv⟩:=map_some h;cases hv;exact⟨rfl,fun G=>by simp [*]⟩)
  | fieldAddr t x f =>
    simp only [acj,al1] at h ⊢
    repeat' (split at h)
    all_goals first
     | (cases h;done)
     | (cases h;exact⟨rfl,fun G=>by simp [*]⟩)
     | (obtain⟨a,ha,hv⟩:=map_some h;cases hv;exact⟨rfl,fun G=>by simp [*]⟩)
  | field t x f =>
    simp only [acj,bcn] at h ⊢
    repeat' (split at h)
    all_goals first
     | (cases h;done)
     | (cases h;exact⟨rfl,fun G=>by simp [*]⟩)
     | (obtain⟨a,ha,hv⟩:=map_some h;cases hv;exact⟨rfl,fun G=>by simp [*]⟩)
  | indexAddr t x i =>
    simp only [acj,al2] at h ⊢
    repeat' (split at h)
    all_goals first
     | (cases h;done)
     | (cases h;exact⟨rfl,fun G=>by simp [*]⟩)
     | (obtain⟨a,ha,hv⟩:=map_some h;cases hv;exact⟨rfl,fun G=>by simp [*]⟩)
  | index t x i =>
    simp only [acj,bcp] at h ⊢
    repeat' (split at h)
    all_goals first
     | (cases h;done)
     | (cases h;exact⟨rfl,fun G=>by simp [*]⟩)
     | (obtain⟨a,ha,hv⟩:=map_some h;cases hv;exact⟨rfl,fun G=>by simp [*]⟩)
  | extract x i =>
    simp only [acj,aui] at h ⊢
    repeat' (split at h)
    all_goals first
     | (cases h;done)
     | (cases h;exact⟨rfl,fun G=>by simp [*]⟩)
     | (obtain⟨a,ha,hv⟩:=map_some h;cases hv;exact⟨rfl,fun G=>by simp [*]⟩)
  | _=>cases hp
end
end Go.Sx
