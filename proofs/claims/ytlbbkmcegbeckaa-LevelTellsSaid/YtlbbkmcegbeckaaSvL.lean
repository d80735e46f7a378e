/-
  A second abstract evaluator of the model's code: conversions. Conditions: none; nothing here speaks of one program.
-/
import Derived.Test.YtlbbkmcegbeckaaSvH
import Derived.Laws.Append
import Derived.Laws.AppendOwn
import Derived.Lib.AppendZerosOnto
import Derived.Laws.IdiomStrings
set_option linter.unusedSimpArgs false
set_option linter.unusedSectionVars false
set_option linter.unusedVariables false
namespace Go.Sx
variable [Sg]
section
variable {P:Program} [Plain P] {ora:Ora} {E:Operand→Option AV} {H H':HP} {w:World} {ρ:PM} {ev:Operand→Value} {v:AV}
theorem HRel.of_heap{w':World}(h:HRel ρ H w)(he:w'.heap=w.heap):HRel ρ H w' :=
 ⟨fun b i c L hc hL=>(h.rel b i c L hc hL).of_heap (by rw [he]),h.inj,h.hy⟩
theorem Sim.same{w':World}(h:HRel ρ H w)(hd:Dom ρ H.n)(he:w'.heap=w.heap)(h1:w'.os=w.os)(h2:w'.tape=w.tape)(h3:w'.output=w.output):Sim ρ H w ρ H w':=Sim0.same {
 le:=PM.le.refl ρ
 grow:=Nat.le_refl _
 dom:=hd
 rel:=h.of_heap he
 knc:=fun _ _ _ h=>h
 fr:=fun _ _ _=>by rw [he]
 new:=fun b L h1 h2=>by rw [h1] at h2;cases h2
 size:=by rw [he];exact Nat.le_refl _
 os:=h1
 tape:=h2
 output:=h3
 old:=fun b L h1 h2=>by rw [h1] at h2;cases h2 } hd
theorem Sim.drop(h:HRel ρ H w)(hd:Dom ρ H.n)(b:Nat):Sim ρ H w ρ (H.drop b) w:=by
 have hk:∀ a,(H.drop b).Kn a→H.Kn a:=by
  rintro a ⟨i,c,hc⟩
  rw [HP.cell_drop] at hc
  split at hc
  ·cases hc
  ·exact⟨i,c,hc⟩
 refine Sim0.same ?_ hd
 exact {
  le:=PM.le.refl ρ
  grow:=Nat.le_refl _
  dom:=hd
  rel:=⟨fun a i c L hc hL=>by
   rw [HP.cell_drop] at hc
   split at hc
   ·cases hc
   ·exact h.rel a i c L hc hL,fun a a' L L' g1 g2=>h.inj a a' L L' (hk a g1) (hk a' g2),h.hy⟩
  knc:=fun a i _ hc=>by
   rw [HP.cell_drop]
   split
   ·rfl
   ·exact hc
  fr:=fun _ _ _=>rfl
  new:=fun b L h1 h2=>by rw [h1] at h2;cases h2
  size:=Nat.le_refl _
  os:=rfl
  tape:=rfl
  output:=rfl
  old:=fun b L h1 h2=>by rw [h1] at h2;cases h2 }
def cjw(s:ByteArray):List Cel:=s.data.toList.map fun b=>.lit (.int .u8 b.toNat)
noncomputable def srcA(H:HP)(sz:Nat):AV→Option (Nat×List Cel)
 | .one (.sl b off len _)=>(H.read b off (len*sz)).map fun cs=>(len,cs)
 | .one (.su b off len _)=>(H.read b off (len*sz)).map fun cs=>(len,cs)
 | .one (.sz _ _)=>some (0,[])
 | .one (.lit (.slice none _ _))=>some (0,[])
 | .one (.lit (.string s))=>if sz=1 then some (s.size,cjw s) else none
 | _=>none
theorem cdf(s:ByteArray):All2 (CRel ρ) (cjw s) (s.data.toList.map fun b=>Value.int .u8 b.toNat):=by
 unfold cjw
 induction s.data.toList with
 | nil=>trivial
 | cons b l ih=>exact⟨⟨rfl,c5p b⟩,ih⟩
theorem c9x{sz n:Nat}{x:AV}{u:Value}{cs:List Cel}(h:srcA H sz x=some (n,cs))(hx:VRel ρ x u)(hH:HRel ρ H w) :
  n≤9223372036854775807∧∃ us:List Value,All2 (CRel ρ) cs us∧us.length=n*sz∧∀ w':World,w'.heap=w.heap→(Builtin.lenOf u).run P w'=.ok n w'∧(Builtin.firstCells sz n u).run P w'=.ok us.toArray w':=by
 have sl:∀ (b off len cap:Nat) (L:Loc),(H.read b off (len*sz)).map (fun cs=>(len,cs))=some (n,cs)→ρ b=some L→len≤cap→cap≤9223372036854775807 →
   n≤9223372036854775807∧∃ us:List Value,All2 (CRel ρ) cs us∧us.length=n*sz∧∀ w':World,w'.heap=w.heap→(Builtin.lenOf (.slice (some ⟨L.B,L.o+off,none⟩) len cap)).run P w'=.ok n w'∧(Builtin.firstCells sz n (.slice (some ⟨L.B,L.o+off,none⟩) len cap)).run P w'=.ok us.toArray w':=by
  intro b off len cap L h hL h1 h2
  obtain⟨cs',hr,hv⟩:=map_some h
  cases hv
  obtain⟨us,hl,hrel,hcell⟩:=HP.read_world hr hH hL
  refine⟨by omega,us,hrel,hl,fun w' hw=>⟨rfl,?_⟩⟩
  refine run_firstCells_some (P:=P) w' sz _ _ _ _ us hl fun j v hj=>?_
  rw [b36]
  have:=hcell j v hj
  unfold World.cell? at this ⊢
  rw [hw]
  exact this
 unfold srcA at h
 split at h
 ·obtain⟨⟨L,hL,rfl⟩,h1,h2⟩:=hx
  exact sl _ _ _ _ L h hL h1 h2
 ·obtain⟨L,cap,hL,rfl,h1,h2,_⟩:=hx
  exact sl _ _ _ _ L h hL h1 h2
 ·cases h
  obtain⟨L,off,cap,hL,rfl,_⟩:=hx
  refine⟨by omega,[],trivial,by simp,fun w' hw=>⟨rfl,?_⟩⟩
  exact run_firstCells_some (P:=P) w' sz 0 ⟨L.B,off,none⟩ 0 cap [] (by simp) fun j v hj=>by simp at hj
 ·cases h
  obtain⟨rfl,hlit⟩:=hx
  simp only [b4k,Bool.and_eq_true] at hlit
  have e1:=Nat.eq_of_beq_eq_true hlit.1
  subst e1
  exact⟨by omega,[],trivial,by simp,fun w' hw=>⟨rfl,rfl⟩⟩
 ·rename_i s
  split at h
  ·rename_i hsz
   subst hsz
   cases h
   obtain⟨rfl,hlit⟩:=hx
   simp only [b4k,decide_eq_true_eq] at hlit
   refine⟨hlit,_,cdf s,by simp,fun w' hw=>⟨rfl,?_⟩⟩
   simp only [Builtin.firstCells,Sem.run_pure]
   congr 1
   apply Array.ext'
   simp
  ·cases h
 ·cases h
def repC{α:Type}(zs:List α)(n:Nat):List α:=Nat.rec (motive:=fun _=>List α) [] (fun _ ih=>zs++ih) n
theorem b74{α:Type}(zs:List α):∀ n,(repC zs n).length=n*zs.length
 | 0=>by show([]:List α).length=_;simp
 | n+1=>by
  show(zs++repC zs n).length=_
  rw [List.length_append,b74 zs n,Nat.succ_mul,Nat.add_comm]
theorem cf1{α:Type}(zs:List α):∀ (n i:Nat),i<n*zs.length→(repC zs n)[i]? = zs[i % zs.length]?
 | 0,i,h=>by simp at h
 | n+1,i,h=>by
  show(zs++repC zs n)[i]? = _
  by_cases hi:i<zs.length
  ·rw [List.getElem?_append_left hi,Nat.mod_eq_of_lt hi]
  ·rw [List.getElem?_append_right (by omega),cf1 zs n (i - zs.length) (by rw [Nat.succ_mul] at h;omega)]
   congr 1
   rw [Nat.mod_eq_sub_mod (a:=i) (by omega)]
theorem cvd{zs:List Cel}{z:Array Value}{sz n:Nat}(h:All2 (CRel ρ) zs z.toList)(hz:zs.length=sz)(h0:0<sz):All2 (CRel ρ) (repC zs n) (Builtin.zeroCells z n).toList:=by
 have hzl:=h.length
 simp only [Array.length_toList] at hzl
 unfold Builtin.zeroCells
 refine All2.of_get (by simp [b74,hzl]) fun j a b ha hb=>?_
 have hj:j<n*zs.length:=by have:=(List.getElem?_eq_some_iff.1 ha).1;rwa [b74] at this
 rw [cf1 _ _ _ hj] at ha
 simp only [Array.toList_map,Array.toList_range,List.getElem?_map,Option.map_eq_some_iff] at hb
 obtain⟨j',hj',rfl⟩:=hb
 rw [List.getElem?_range (by rw [← hzl];exact hj)] at hj'
 cases hj'
 obtain⟨b,hb,hr⟩:=h.get _ _ ha
 rw [hzl,Array.getElem?_toList] at hb
 have hlt:=(Array.getElem?_eq_some_iff.1 hb).1
 rw [getElem!_pos z _ hlt]
 rw [Array.getElem?_eq_getElem hlt] at hb
 cases hb
 exact hr
noncomputable def HP.kn1(H:HP)(b:Nat):Bool :=
 match H.read b 0 1 with
 | some _=>true
 | none=>false
theorem HP.kn1_spec{b:Nat}(h:H.kn1 b=true):∃ c,H.cell b 0=some (.c c):=by
 unfold HP.kn1 at h
 split at h
 ·rename_i cs hk
  obtain⟨h1,h2⟩:=HP.read_spec hk
  have h3:cs[0]? = some cs[0]:=List.getElem?_eq_getElem (by omega)
  exact⟨cs[0],h2 0 _ h3⟩
 ·cases h
def fewA(m bytes:Nat):Bool:=Nat.ble (m*bytes) 140737488355328&&Nat.ble m 9223372036854775807
noncomputable def cdc(H:HP)(sz bytes:Nat)(s:AV)(n:Nat)(cs:List Cel):R :=
 match s with
 | .one (.lit (.slice none 0 0))=>if n=0 then some (s,H) else if fewA n bytes=true then some (.one (.su H.n 0 n sz),H.push (b6i cs)) else none
 | .one (.sl b off len cap) =>
  if len+n≤cap then(H.write b (off+len*sz) cs).map fun H'=>(.one (.sl b off (len+n) cap),H')
  else if fewA (len+n) bytes=true then match H.read b off (len*sz) with
   | some old=>some (.one (.su H.n 0 (len+n) sz),H.push (b6i (old++cs)))
   | none=>none
  else none
 | .one (.su b off len s') =>
  if n=0 then some (s,H)
  else if s'=sz∧fewA (len+n) bytes=true∧H.kn1 b=true then match H.write b (off+len*sz) cs with
   | some H'=>some (.one (.su b off (len+n) sz),H')
   | none=>match H.read b off (len*sz) with
    | some old=>some (.one (.su H.n 0 (len+n) sz),(H.drop b).push (b6i (old++cs)))
    | none=>none
  else none
 | .one (.sz b s') =>
  if n=0 then some (s,H)
  else if s'=sz∧fewA n bytes=true∧H.kn1 b=true then some (.one (.su H.n 0 n sz),(H.drop b).push (b6i cs))
  else none
 | _=>none
def seqD:TypeDesc→Bool
 | .slice _=>true
 | .string=>true
 | _=>false
noncomputable def srcU(H:HP)(sz bytes:Nat)(z:Value)(du:TypeDesc)(x:AV):Option (Nat×List Cel) :=
 match seqD du with
 | true=>srcA H sz x
 | false=>match du,x with
  | .int _,.one (.lit (.int _ l))=>if 0≤l∧fewA l.toNat bytes=true then(lits z.cells.toList).map fun zs=>(l.toNat,repC zs l.toNat) else none
  | _,_=>none
noncomputable def cht(P:Program)[Plain P](E:Operand→Option AV)(H:HP)(args:Array Operand)(ats:Array TypeId):R :=
 match b7p E args.toList,ats.toList with
 | some [s,x],[t,u]=>match undT P t,undT P u with
  | some (.slice e),some du=>match szA P e,infoT P e with
   | some (_,sz),some i=>match i.zero with
    | some z=>match srcU H sz i.bytes z du x with
     | some (n,cs)=>if 0<sz∧i.size=sz∧z.cells.size=sz then cdc H sz i.bytes s n cs else none
     | none=>none
    | none=>none
   | _,_=>none
  | _,_=>none
 | _,_=>none
theorem b9w{m bytes:Nat}(h:fewA m bytes=true):m*bytes≤140737488355328∧m≤9223372036854775807:=by
 simp only [fewA,Bool.and_eq_true] at h
 exact⟨Nat.le_of_ble_eq_true h.1,Nat.le_of_ble_eq_true h.2⟩
theorem coq(need old:Nat)(e:TypeId)(w:World):need≤grownCap w need old e:=by
 simp only [grownCap,Question.cut];omega
theorem ctg{need:Nat}(old:Nat)(e:TypeId)(w:World)(h:need≤9223372036854775807):grownCap w need old e≤9223372036854775807:=by
 simp only [grownCap,Question.cut]
 have:=Nat.mod_lt (w.tape w.drawn (.appendCap need old e)) (show 0<2 ^ 63 - need by omega)
 omega
def cv4(P:Program)(du:TypeDesc)(i:TypeInfo)(z:Value)(w:World)(x:Value)(n:Nat)(news:List Value):Prop :=
 (seqD du=true∧∀ w':World,w'.heap=w.heap→(Builtin.lenOf x).run P w'=.ok n w'∧(Builtin.firstCells i.size n x).run P w'=.ok news.toArray w') ∨
 (∃ kn kq,du=.int kn∧x=.int kq n∧news=(Builtin.zeroCells z.cells n).toList∧n*i.bytes≤140737488355328∧n≤9223372036854775807)
theorem c9z{sz bytes n:Nat}{z:Value}{du:TypeDesc}{i:TypeInfo}{x:AV}{u:Value}{cs:List Cel}(h:srcU H sz bytes z du x=some (n,cs))(hx:VRel ρ x u)(hH:HRel ρ H w)(hb:i.bytes=bytes)(hsz:i.size=sz)(h0:0<sz)(hzs:z.cells.size=sz) :
  n≤9223372036854775807∧∃ us:List Value,All2 (CRel ρ) cs us∧us.length=n*sz∧cv4 P du i z w u n us:=by
 subst hsz
 unfold srcU at h
 split at h
 ·rename_i hs
  obtain⟨h1,us,h2,h3,h4⟩:=c9x (P:=P) h hx hH
  exact⟨h1,us,h2,h3,.inl ⟨hs,h4⟩⟩
 ·split at h
  ·rename_i kn kq l _
   split at h
   ·rename_i hl
    obtain⟨zs,hzs',hv⟩:=map_some h
    cases hv
    obtain⟨rfl,_⟩:=hx
    obtain⟨f1,f2⟩:=b9w hl.2
    have hrel:=b62 (ρ:=ρ) hzs'
    have hl1:zs.length=i.size:=by have:=hrel.length;simp only [Array.length_toList] at this;omega
    refine⟨f2,_,cvd (n:=l.toNat) hrel hl1 h0,by simp [Builtin.zeroCells,hzs],.inr ⟨kn,kq,rfl,?_,rfl,by rw [hb];exact f1,f2⟩⟩
    rw [Int.toNat_of_nonneg hl.1]
   ·cases h
  ·cases h
section app
variable {t u e ty:TypeId} {du:TypeDesc} {i:TypeInfo} {z:Value} {n:Nat} {x:Value} {news:List Value} {base:Option Addr} {sLen sCap:Nat}
theorem c5u{n:Nat}(h:n≤9223372036854775807):IntKind.i64.wrap (n:Int)=n:=by rw [IntKind.wrap_i64];omega
theorem b6g(ht:P.underlying t=some (.slice e))(hu:P.underlying u=some du)(hi:P.info? e=some i)(hz:i.zero=some z)(hsz:0<i.size)
  (hx:cv4 P du i z w x n news) (hle:sLen+n≤sCap) {w1:World}
  (hst:match base with | some a=>(storeCells (a.add (sLen*i.size)) news).run P w=.ok () w1 | none=>w1=w) :
  (Builtin.append_ #[t,u] ty #[.slice base sLen sCap,x]).run P w=.ok (.slice base (sLen+n) sCap) w1:=by
 rcases hx with ⟨hdu,hx⟩ | ⟨kn,kq,rfl,rfl,rfl,hb,h63⟩
 ·obtain⟨h1,h2⟩:=hx w rfl
  have hz':((P.underlying u).elim false fun d=>d matches .int _)=false:=by rw [hu];cases du<;>first | rfl | cases hdu
  cases du<;>first | cases hdu | skip
  all_goals
   cases base with
   | none =>
    subst hst
    simp [Builtin.append_,run_underlying ht,run_underlying hu,sizeOf,typeInfo,hi,h1,h2,hle]
   | some a =>
    simp [Builtin.append_,run_underlying ht,run_underlying hu,sizeOf,typeInfo,hi,h1,h2,hle,hst]
 ·have hw:=c5u h63
  have h48i:¬ (281474976710656<(n:Int)*(i.bytes:Int)):=by
   rw [← Int.natCast_mul]
   omega
  have hneg:¬ ((n:Int)<0):=by omega
  by_cases hn0:n=0
  ·subst hn0
   have hzc:(Builtin.zeroCells z.cells 0).toList=[]:=by simp [Builtin.zeroCells]
   rw [hzc] at hst
   have hle':sLen≤sCap:=by omega
   have hw0:IntKind.i64.wrap 0=0:=by decide
   cases base with
   | none =>
    subst hst
    simp [Builtin.append_,run_underlying ht,run_underlying hu,sizeOf,typeInfo,hi,asInt,asIntOf,hw0,hle']
   | some a =>
    simp [Builtin.append_,run_underlying ht,run_underlying hu,sizeOf,typeInfo,hi,asInt,asIntOf,hw0,hle',hst]
  ·have hns:¬ (n*i.size=0):=Nat.mul_ne_zero hn0 (by omega)
   cases base with
   | none =>
    subst hst
    simp [Builtin.append_,run_underlying ht,run_underlying hu,sizeOf,typeInfo,zeroValue,hi,hz,asInt,asIntOf,hw,hneg,h48i,hns,hle]
   | some a =>
    simp [Builtin.append_,run_underlying ht,run_underlying hu,sizeOf,typeInfo,zeroValue,hi,hz,asInt,asIntOf,hw,hneg,h48i,hns,hle,hst]
theorem cim(ht:P.underlying t=some (.slice e))(hu:P.underlying u=some du)(hi:P.info? e=some i)(hz:i.zero=some z)(hsz:0<i.size)
  (hx:cv4 P du i z w x n news) {olds:List Value}
  (ho:∀ w':World,w'.heap=w.heap→(Builtin.firstCells i.size sLen (.slice base sLen sCap)).run P w'=.ok olds.toArray w') (hg:sCap<sLen+n) (hfew:fewA (sLen+n) i.bytes=true) (hn0:n≠0) :
  (Builtin.append_ #[t,u] ty #[.slice base sLen sCap,x]).run P w =
   .ok (.slice (some ⟨w.heap.size,0,none⟩) (sLen+n) (grownCap w (sLen+n) sCap e)) (w.drew.alloc (.cells (olds.toArray++news.toArray++Builtin.zeroCells z.cells (grownCap w (sLen+n) sCap e - (sLen+n))) e)):=by
 obtain⟨f1,f2⟩:=b9w hfew
 have h3:=ho w.drew rfl
 have hn:¬ (sLen+n≤sCap):=by omega
 have h63':¬ (9223372036854775807<((sLen:Int)+(n:Int))):=by omega
 have h48':¬ (281474976710656<Builtin.nextslicecap (sLen+n) sCap*i.bytes):=by
  have:=growslice_fits (bytes:=i.bytes) hg f1
  omega
 rcases hx with ⟨hdu,hx⟩ | ⟨kn,kq,rfl,rfl,rfl,hb,h63⟩
 ·obtain⟨h1,_⟩:=hx w rfl
  obtain⟨_,h2⟩:=hx w.drew rfl
  cases du<;>first | cases hdu | skip
  all_goals
   simp [Builtin.append_,run_underlying ht,run_underlying hu,sizeOf,typeInfo,zeroValue,hi,hz,hn,h63',h48',Question.forced,h1,h2,h3,newRow,grownCap]
   congr 2
   apply Array.ext'
   simp [List.append_assoc]
 ·have:=Lib.run_append_grow_zeros w t u ty e i z kq kn ht hu hi hz base sLen sCap olds h3 n (by omega) hsz hg (by omega) (by omega) (by
   have:=growslice_fits (bytes:=i.bytes) hg f1
   omega)
  rw [this]
end app
end
end Go.Sx

namespace Go.Sx
variable [Sg]
section
variable {P:Program} [Plain P] {ora:Ora} {E:Operand→Option AV} {H H':HP} {w:World} {ρ:PM} {ev:Operand→Value} {v:AV}
theorem HP.write_room{b o:Nat}{cs:List Cel}{L:Loc}(hH:HRel ρ H w)(h:H.write b o cs=some H')(hL:ρ b=some L)(hp:0<cs.length):L.o+o+cs.length≤L.C:=by
 obtain⟨_,_,h3⟩:=HP.write_spec h
 obtain⟨c,hc,hpl⟩:=h3 (cs.length - 1) (by omega)
 obtain⟨arr,t,fr,_,_,e3,e4⟩:=chz (hH.rel b _ c L hc hL) hpl
 omega
theorem cxl{cs:List Cel}{us:Array Value}{rest:Array Value}{vs:List Value}(h:All2 (CRel ρ) cs vs)(he:us=vs.toArray++rest):All2 (CRel ρ) cs (us.toList.take cs.length):=by
 subst he
 have:=h.length
 simp only [Array.toList_append,List.take_append_of_le_length (show cs.length≤vs.length by omega)]
 rw [List.take_of_length_le (by omega)]
 exact h
theorem cjs{t u e ty:TypeId}{du:TypeDesc}{i:TypeInfo}{z x:Value}{n:Nat}{cs:List Cel}{s:AV}{us:Value}(ht:P.underlying t=some (.slice e))(hu:P.underlying u=some du)(hi:P.info? e=some i)(hz:i.zero=some z)
  (hsz:0<i.size) (hzs:z.cells.size=i.size) (h:cdc H i.size i.bytes s n cs=some (v,H')) (hs:VRel ρ s us) {news:List Value} (hnr:All2 (CRel ρ) cs news) (hnl:news.length=n*i.size)
  (hx:cv4 P du i z w x n news) (hH:HRel ρ H w) (hd:Dom ρ H.n) :
  St H H'∧∃ u' w',(Builtin.append_ #[t,u] ty #[us,x]).run P w=.ok u' w'∧Post ρ H w v H' u' w':=by
 have hcl:=hnr.length
 have grow:∀ (base:Option Addr) (sLen sCap:Nat) (olds:List Value) (old:List Cel) (G:HP),(∀ w':World,w'.heap=w.heap→(Builtin.firstCells i.size sLen (.slice base sLen sCap)).run P w'=.ok olds.toArray w')→All2 (CRel ρ) old olds→olds.length=sLen*i.size→sCap<sLen+n→n≠0→fewA (sLen+n) i.bytes=true →
   Sim ρ H w ρ G w→G.n=H.n →
   ∃ u' w',(Builtin.append_ #[t,u] ty #[.slice base sLen sCap,x]).run P w=.ok u' w'∧Post ρ H w (.one (.su H.n 0 (sLen+n) i.size)) (G.push (b6i (old++cs))) u' w':=by
  intro base sLen sCap olds old G ho hor hol hg hn0 hfew hG hGn
  have hrun:=cim (ty:=ty) ht hu hi hz hsz hx ho hg hfew hn0
  refine⟨_,_,hrun,?_⟩
  obtain⟨f1,f2⟩:=b9w hfew
  have hdG:Dom ρ G.n:=by rw [hGn];exact hd
  have s2:Sim ρ G w ρ G w.drew:=Sim.same hG.rel hdG rfl rfl rfl rfl
  have hcells:All2 (CRel ρ) (old++cs) (olds++news):=hor.append hnr
  have s3:=Sim.allocC (t:=e) (us:=olds.toArray++news.toArray++Builtin.zeroCells z.cells (grownCap w (sLen+n) sCap e - (sLen+n))) s2.rel hdG (cxl (vs:=olds++news) (rest:=Builtin.zeroCells z.cells (grownCap w (sLen+n) sCap e - (sLen+n))) hcells (by simp))
  refine⟨_,⟨⟨w.heap.size,0,(olds.toArray++news.toArray++Builtin.zeroCells z.cells (grownCap w (sLen+n) sCap e - (sLen+n))).size,none⟩,grownCap w (sLen+n) sCap e,?_,rfl,coq _ _ _ _,ctg _ _ _ f2,?_⟩,hG.trans hd (s2.trans hdG s3)⟩
  ·rw [hGn];exact upd_same _ _ _
  ·have hcg:=coq (sLen+n) sCap e w
   simp only [Array.size_append,List.size_toArray,size_zeroCells,hzs,hol,hnl]
   rw [← Nat.add_mul,← Nat.add_mul,show sLen+n+(grownCap w (sLen+n) sCap e - (sLen+n))=grownCap w (sLen+n) sCap e by omega]
   omega
 have into:∀ (b off sLen cap:Nat) (L:Loc) (o:Nat) (olds:List Value) (old:List Cel),H.kn1 b=true→ρ b=some L→(∀ w':World,w'.heap=w.heap→(Builtin.firstCells i.size sLen (.slice (some ⟨L.B,o,none⟩) sLen cap)).run P w'=.ok olds.toArray w')→All2 (CRel ρ) old olds→olds.length=sLen*i.size →
   (∀ (j:Nat) (y:Value),olds[j]? = some y→w.cell? ⟨L.B,o+j,none⟩=some y)→sLen≤cap→cap≤9223372036854775807→o+cap*i.size≤L.C→(cap=0∨o+cap*i.size=L.C)→n≠0→fewA (sLen+n) i.bytes=true →
   ∃ u' w',(Builtin.append_ #[t,u] ty #[.slice (some ⟨L.B,o,none⟩) sLen cap,x]).run P w=.ok u' w'∧Post ρ H w (.one (.su H.n 0 (sLen+n) i.size)) ((H.drop b).push (b6i (old++cs))) u' w':=by
  intro b off sLen cap L o olds old hk hL ho hor hol hcell h1 h2 h3 h3' hn0 hfew
  by_cases hroom:sLen+n≤cap
  ·obtain⟨c0,hc0⟩:=HP.kn1_spec hk
   obtain⟨arr,t',fr,u0,e1,e2,e3,e4,e5⟩:=hH.rel b 0 (.c c0) L hc0 hL
   have hfit:(sLen+n)*i.size≤cap*i.size:=Nat.mul_le_mul_right _ hroom
   have hfit':sLen*i.size+n*i.size≤cap*i.size:=by rw [← Nat.add_mul];exact hfit
   have hst:(storeCells (Addr.add ⟨L.B,o,none⟩ (sLen*i.size)) news).run P w=.ok () (setRow w L.B (o+sLen*i.size) news):=by
    rw [b36]
    refine b56 L.B news w (o+sLen*i.size) 0 e1 e2 (by omega) fun y hy=>?_
    obtain⟨j,hj⟩:=List.getElem?_of_mem hy
    obtain⟨c,_,hc⟩:=hnr.get' j y hj
    exact hc.oneCell
   refine⟨_,_,b6g (ty:=ty) (base:=some ⟨L.B,o,none⟩) ht hu hi hz hsz hx hroom hst,upd ρ H.n ⟨L.B,o,L.C,none⟩,⟨⟨L.B,o,L.C,none⟩,cap,upd_same _ _ _,rfl,hroom,h2,?_⟩,?_⟩
   ·simp only
    rcases h3' with h3' | h3'
    ·omega
    ·exact h3'
   ·have hol':=hor.length
    have:=Sim.into (b:=b) (off:=off) (L:=L) (o:=o) hH hd hL ⟨0,_,hc0⟩ e1 e2 e3 (old:=old) (new:=cs) (us:=olds) (vs:=news) (by omega) hor (fun j y hy=>by
     have:=hcell j y hy
     rw [cell?_of e1] at this
     exact this) hnr
    rw [show old.length=sLen*i.size by omega] at this
    exact this
  ·exact grow (some ⟨L.B,o,none⟩) sLen cap olds old (H.drop b) ho hor hol (by omega) (by omega) hfew (Sim.drop hH hd b) rfl
 unfold cdc at h
 split at h
 ·-- nil
  obtain⟨rfl,_⟩:=hs
  split at h
  ·rename_i h0
   subst h0
   cases h
   have hnil:news=[]:=List.length_eq_zero_iff.1 (by omega)
   refine⟨St.refl H,_,_,b6g (ty:=ty) (base:=none) (sLen:=0) (sCap:=0) (w1:=w) ht hu hi hz hsz hx (by omega) rfl,ρ,⟨rfl,rfl⟩,Sim.refl hH hd⟩
  ·split at h
   ·rename_i h0 hfew
    cases h
    obtain⟨u',w',h1,h2⟩:=grow none 0 0 [] [] H (fun w' _=>run_firstCells_none _ _ _ _ _) trivial (by simp) (by omega) (by omega) (by rw [Nat.zero_add];exact hfew) (Sim.refl hH hd) rfl
    rw [Nat.zero_add,List.nil_append] at h2
    exact⟨St.push _ _,u',w',h1,h2⟩
   ·cases h
 ·-- a known capacity
  rename_i b off len cap
  obtain⟨⟨L,hL,rfl⟩,hc1,hc2⟩:=hs
  split at h
  ·rename_i hroom
   obtain⟨H1,hw,hv⟩:=map_some h
   cases hv
   refine⟨St.write hw,_,_,b6g (ty:=ty) (base:=some ⟨L.B,L.o+off,none⟩) ht hu hi hz hsz hx hroom (w1:=setRow w L.B (L.o+(off+len*i.size)) news) ?_,ρ,⟨⟨L,hL,rfl⟩,hroom,hc2⟩,Sim.write hH hd hw hL hnr⟩
   simp only
   rw [b36,Nat.add_assoc]
   exact HP.write_run hH hw hL hnr
  ·rename_i hroom
   split at h
   ·rename_i hfew
    split at h
    ·rename_i old hr
     cases h
     obtain⟨us,hl,hrel,hcell⟩:=HP.read_world hr hH hL
     obtain⟨u',w',h1,h2⟩:=grow (some ⟨L.B,L.o+off,none⟩) len cap us old H (fun w' hw=>run_firstCells_some (P:=P) w' i.size _ _ _ _ us hl fun j y hj=>by
      rw [b36]
      have:=hcell j y hj
      unfold World.cell? at this ⊢
      rw [hw]
      exact this) hrel hl (by omega) (by omega) hfew (Sim.refl hH hd) rfl
     exact⟨St.push _ _,u',w',h1,h2⟩
    ·cases h
   ·cases h
 ·-- to the object's end
  rename_i b off len s'
  obtain⟨L,cap,hL,rfl,hc1,hc2,hc3⟩:=hs
  split at h
  ·rename_i h0
   subst h0
   cases h
   have hnil:news=[]:=List.length_eq_zero_iff.1 (by omega)
   subst hnil
   refine⟨St.refl H,_,_,b6g (ty:=ty) (base:=some ⟨L.B,L.o+off,none⟩) ht hu hi hz hsz hx (by omega) (w1:=w) (by rfl),ρ,⟨L,cap,hL,rfl,hc1,hc2,hc3⟩,Sim.refl hH hd⟩
  ·split at h
   ·rename_i h0 hb
    obtain⟨rfl,hfew,hk⟩:=hb
    split at h
    ·rename_i H1 hw
     cases h
     have hpos:0<cs.length:=by rw [hcl,hnl];exact Nat.mul_pos (by omega) hsz
     have hroom:len+n≤cap:=by
      have:=HP.write_room hH hw hL hpos
      rw [hcl,hnl] at this
      have h4:(len+n)*i.size≤cap*i.size:=by rw [Nat.add_mul];omega
      exact Nat.le_of_mul_le_mul_right h4 hsz
     refine⟨St.write hw,_,_,b6g (ty:=ty) (base:=some ⟨L.B,L.o+off,none⟩) ht hu hi hz hsz hx hroom (w1:=setRow w L.B (L.o+(off+len*i.size)) news) ?_,ρ,⟨L,cap,hL,rfl,hroom,hc2,hc3⟩,Sim.write hH hd hw hL hnr⟩
     simp only
     rw [b36,Nat.add_assoc]
     exact HP.write_run hH hw hL hnr
    ·split at h
     ·rename_i old hr
      cases h
      obtain⟨us,hl,hrel,hcell⟩:=HP.read_world hr hH hL
      obtain⟨u',w',h1,h2⟩:=into b off len cap L (L.o+off) us old hk hL (fun w' hw=>run_firstCells_some (P:=P) w' i.size _ _ _ _ us hl fun j y hj=>by
       rw [b36]
       have:=hcell j y hj
       unfold World.cell? at this ⊢
       rw [hw]
       exact this) hrel hl hcell hc1 hc2 (Nat.le_of_eq hc3) (.inr hc3) h0 hfew
      exact⟨(St.drop H b).trans (St.push _ _),u',w',h1,h2⟩
     ·cases h
   ·cases h
 ·-- an empty one
  rename_i b s'
  obtain⟨L,off,cap,hL,rfl,hc2,hc3,hc4,hc5⟩:=hs
  split at h
  ·rename_i h0
   subst h0
   cases h
   have hnil:news=[]:=List.length_eq_zero_iff.1 (by omega)
   subst hnil
   refine⟨St.refl H,_,_,b6g (ty:=ty) (base:=some ⟨L.B,off,none⟩) ht hu hi hz hsz hx (by omega) (w1:=w) (by simp [storeCells]),ρ,⟨L,off,cap,hL,rfl,hc2,hc3,hc4,hc5⟩,Sim.refl hH hd⟩
  ·split at h
   ·rename_i h0 hb
    obtain⟨rfl,hfew,hk⟩:=hb
    cases h
    obtain⟨u',w',h1,h2⟩:=into b off 0 cap L off [] [] hk hL (fun w' hw=>run_firstCells_some (P:=P) w' i.size 0 ⟨L.B,off,none⟩ 0 cap [] (by simp) fun j y hj=>by simp at hj) trivial (by simp) (fun j y hy=>by simp at hy) (by omega) hc2 hc4 hc5 h0 (by rw [Nat.zero_add];exact hfew)
    rw [Nat.zero_add,List.nil_append] at h2
    exact⟨(St.drop H b).trans (St.push _ _),u',w',h1,h2⟩
   ·cases h
 ·cases h
theorem OpS.of_run{op:Op}{u':Value}{w':World}(h:∀ dst ty pos after guard,(execOp ev ⟨dst,op,ty,pos,after,guard⟩).run P w=.ok (.value u') w')(hp:Post ρ H w v H' u' w'):OpS P ρ ev H w op v H':=by
 intro dst ty pos after guard
 rw [h]
 exact hp
theorem cf5{args:Array Operand}{s x:AV}(h:b7p E args.toList=some [s,x])(hx:∀ z∈args.toList,∀ a,E z=some a→VRel ρ a (ev z)):∃ a b,args = #[a,b]∧VRel ρ s (ev a)∧VRel ρ x (ev b):=by
 have hus:=b49 (ρ:=ρ) (ev:=ev) hx h
 match hargs:args.toList,hus with
 | [a,b],hus =>
  have hargs':args = #[a,b]:=by rw [← Array.toList_inj];simpa using hargs
  exact⟨a,b,hargs',hus.1,hus.2.1⟩
theorem cwn{args:Array Operand}{ats:Array TypeId}(h:cht P E H args ats=some (v,H'))(hx:∀ z∈args.toList,∀ a,E z=some a→VRel ρ a (ev z))(hH:HRel ρ H w)(hd:Dom ρ H.n) :
  St H H'∧OpS P ρ ev H w (.call ⟨.builtin .append,args,ats⟩) v H':=by
 unfold cht at h
 simp only [b60,b3j] at h
 split at h
 ·rename_i s x t u hl hat
  obtain⟨a,b,rfl,ha,hb⟩:=cf5 hl hx
  have hats:ats = #[t,u]:=by rw [← Array.toList_inj];simpa using hat
  subst hats
  split at h
  ·rename_i e du ht hu
   split at h
   ·rename_i ag sz i hs hi
    split at h
    ·rename_i z hz
     split at h
     ·rename_i n cs hsrc
      split at h
      ·rename_i hc
       obtain⟨h0,rfl,hzs⟩:=hc
       obtain⟨_,us,hrel,hul,hsrc'⟩:=c9z (P:=P) (w:=w) (i:=i) hsrc hb hH rfl rfl h0 hzs
       refine⟨(cjs (ty:=0) ht hu hi hz h0 hzs h ha hrel hul hsrc' hH hd).1,fun dst ty pos after guard=>?_⟩
       obtain⟨_,u',w',hrun,hp⟩:=cjs (ty:=ty) ht hu hi hz h0 hzs h ha hrel hul hsrc' hH hd
       have:(execOp ev ⟨dst,.call ⟨.builtin .append,#[a,b],#[t,u]⟩,ty,pos,after,guard⟩).run P w=.ok (.value u') w':=by
        simp [execOp,resolve,invoke,builtin,hrun]
       rw [this]
       exact hp
      ·cases h
     ·cases h
    ·cases h
   ·cases h
  ·cases h
 ·cases h
end
end Go.Sx

namespace Go.Sx
variable [Sg]
section
variable {P:Program} [Plain P] {ora:Ora} {E:Operand→Option AV} {H H':HP} {w:World} {ρ:PM} {ev:Operand→Value} {v:AV}
def cvl:AV→Option Nat
 | .one (.sl _ _ len _)=>some len
 | .one (.su _ _ len _)=>some len
 | .one (.sz _ _)=>some 0
 | .one (.lit (.slice none _ _))=>some 0
 | .one (.lit (.string s))=>some s.size
 | _=>none
noncomputable def srcN(H:HP)(sz n:Nat):AV→Option (List Cel)
 | .one (.sl b off _ _)=>H.read b off (n*sz)
 | .one (.su b off _ _)=>H.read b off (n*sz)
 | .one (.sz _ _)=>some []
 | .one (.lit (.slice none _ _))=>some []
 | .one (.lit (.string s))=>if sz=1 then some ((cjw s).take n) else none
 | _=>none
theorem c1c{x:AV}{u:Value}{n:Nat}(h:cvl x=some n)(hx:VRel ρ x u):n≤9223372036854775807∧∀ w':World,(Builtin.lenOf u).run P w'=.ok n w':=by
 unfold cvl at h
 split at h
 ·obtain⟨⟨L,hL,rfl⟩,h1,h2⟩:=hx
  cases h
  exact⟨by omega,fun _=>rfl⟩
 ·obtain⟨L,cap,hL,rfl,h1,h2,_⟩:=hx
  cases h
  exact⟨by omega,fun _=>rfl⟩
 ·cases h
  obtain⟨L,off,cap,hL,rfl,_⟩:=hx
  exact⟨by omega,fun _=>rfl⟩
 ·cases h
  obtain⟨rfl,hlit⟩:=hx
  simp only [b4k,Bool.and_eq_true] at hlit
  have e1:=Nat.eq_of_beq_eq_true hlit.1
  subst e1
  exact⟨by omega,fun _=>rfl⟩
 ·cases h
  obtain⟨rfl,hlit⟩:=hx
  simp only [b4k,decide_eq_true_eq] at hlit
  exact⟨hlit,fun _=>rfl⟩
 ·cases h
theorem c9y{sz n m:Nat}{x:AV}{u:Value}{cs:List Cel}(h:srcN H sz n x=some cs)(hm:cvl x=some m)(hle:n≤m)(hx:VRel ρ x u)(hH:HRel ρ H w) :
  ∃ us:List Value,All2 (CRel ρ) cs us∧us.length=n*sz∧∀ w':World,w'.heap=w.heap→(Builtin.firstCells sz n u).run P w'=.ok us.toArray w':=by
 have sl:∀ (b off len cap:Nat) (L:Loc),H.read b off (n*sz)=some cs→ρ b=some L →
   ∃ us:List Value,All2 (CRel ρ) cs us∧us.length=n*sz∧∀ w':World,w'.heap=w.heap→(Builtin.firstCells sz n (.slice (some ⟨L.B,L.o+off,none⟩) len cap)).run P w'=.ok us.toArray w':=by
  intro b off len cap L hr hL
  obtain⟨us,hl,hrel,hcell⟩:=HP.read_world hr hH hL
  refine⟨us,hrel,hl,fun w' hw=>?_⟩
  refine run_firstCells_some (P:=P) w' sz _ _ _ _ us hl fun j v hj=>?_
  rw [b36]
  have:=hcell j v hj
  unfold World.cell? at this ⊢
  rw [hw]
  exact this
 unfold srcN at h
 split at h
 ·obtain⟨⟨L,hL,rfl⟩,h1,h2⟩:=hx
  exact sl _ _ _ _ L h hL
 ·obtain⟨L,cap,hL,rfl,h1,h2,_⟩:=hx
  exact sl _ _ _ _ L h hL
 ·cases h
  cases hm
  obtain⟨L,off,cap,hL,rfl,_⟩:=hx
  have hn:n=0:=by omega
  subst hn
  refine⟨[],trivial,by simp,fun w' hw=>?_⟩
  exact run_firstCells_some (P:=P) w' sz 0 ⟨L.B,off,none⟩ 0 cap [] (by simp) fun j v hj=>by simp at hj
 ·cases h
  cases hm
  obtain⟨rfl,hlit⟩:=hx
  have hn:n=0:=by omega
  subst hn
  exact⟨[],trivial,by simp,fun w' hw=>rfl⟩
 ·rename_i s
  split at h
  ·rename_i hsz
   subst hsz
   cases h
   cases hm
   obtain⟨rfl,hlit⟩:=hx
   refine⟨_,(cdf s).take n,by simp;omega,fun w' hw=>?_⟩
   simp only [Builtin.firstCells,Sem.run_pure]
   congr 1
   apply Array.ext'
   simp
  ·cases h
 ·cases h
def cyb:AV→Option Nat
 | .one (.sl _ _ len _)=>some len
 | .one (.su _ _ len _)=>some len
 | .one (.sz _ _)=>some 0
 | .one (.lit (.slice none _ _))=>some 0
 | _=>none
noncomputable def cx7(H:HP)(d:AV)(n:Nat)(cs:List Cel):R :=
 match cs with
 | []=>some (.one (.lit (.int .i64 n)),H)
 | _::_=>match cjf d with
  | some (b,off,_)=>(H.write b off cs).map fun H'=>(.one (.lit (.int .i64 n)),H')
  | none=>none
noncomputable def c4d(P:Program)[Plain P](E:Operand→Option AV)(H:HP)(args:Array Operand)(ats:Array TypeId):R :=
 match b7p E args.toList,ats.toList with
 | some [d,x],t::_=>match undT P t with
  | some (.slice e)=>match szA P e with
   | some (_,sz)=>match cyb d,cvl x with
    | some dl,some sl=>match srcN H sz (Nat.min sl dl) x with
     | some cs=>cx7 H d (Nat.min sl dl) cs
     | none=>none
    | _,_=>none
   | none=>none
  | _=>none
 | _,_=>none
theorem cwf{d:AV}{u:Value}{n:Nat}(h:cyb d=some n)(hx:VRel ρ d u):n≤9223372036854775807∧∃ a c,u=.slice a n c:=by
 unfold cyb at h
 split at h
 ·obtain⟨⟨L,hL,rfl⟩,h1,h2⟩:=hx
  cases h
  exact⟨by omega,_,_,rfl⟩
 ·obtain⟨L,cap,hL,rfl,h1,h2,_⟩:=hx
  cases h
  exact⟨by omega,_,_,rfl⟩
 ·cases h
  obtain⟨L,off,cap,hL,rfl,_⟩:=hx
  exact⟨by omega,_,_,rfl⟩
 ·cases h
  obtain⟨rfl,hlit⟩:=hx
  simp only [b4k,Bool.and_eq_true] at hlit
  have e1:=Nat.eq_of_beq_eq_true hlit.1
  subst e1
  exact⟨by omega,_,_,rfl⟩
 ·cases h
theorem c4e{args:Array Operand}{ats:Array TypeId}(h:c4d P E H args ats=some (v,H'))(hx:∀ z∈args.toList,∀ a,E z=some a→VRel ρ a (ev z))(hH:HRel ρ H w)(hd:Dom ρ H.n) :
  St H H'∧OpS P ρ ev H w (.call ⟨.builtin .copy,args,ats⟩) v H':=by
 unfold c4d at h
 simp only [b3j] at h
 split at h
 ·rename_i d x t rest hl hat
  obtain⟨a,b,rfl,ha,hb⟩:=cf5 hl hx
  have hats:ats[0]? = some t:=by rw [← Array.getElem?_toList,hat];rfl
  split at h
  ·rename_i e hu
   split at h
   ·rename_i ag sz hs
    split at h
    ·rename_i dl sl hdl hsl
     split at h
     ·rename_i cs hcs
      obtain⟨hsl1,hlen⟩:=c1c (P:=P) hsl hb
      obtain⟨hdl1,a0,c0,hdst⟩:=cwf hdl ha
      obtain⟨us,hrel,hul,hfirst⟩:=c9y (P:=P) hcs hsl (Nat.min_le_left _ _) hb hH
      have hn:Nat.min sl dl≤9223372036854775807:=Nat.le_trans (Nat.min_le_left _ _) hsl1
      have key:∀ w1,(match a0 with | some a=>(storeCells a us).run P w=.ok () w1 | none=>w1=w)→∀ dst ty pos after guard,(execOp ev ⟨dst,.call ⟨.builtin .copy,#[a,b],ats⟩,ty,pos,after,guard⟩).run P w=.ok (.value (.int .i64 (Nat.min sl dl:Nat))) w1:=by
       intro w1 hst dst ty pos after guard
       cases a0 with
       | none =>
        subst hst
        simp [execOp,resolve,invoke,builtin,Builtin.copy_,hats,hdst,run_underlying hu,run_sizeOf hs,hlen,hfirst,goInt]
       | some a0 =>
        simp [execOp,resolve,invoke,builtin,Builtin.copy_,hats,hdst,run_underlying hu,run_sizeOf hs,hlen,hfirst,hst,goInt]
      unfold cx7 at h
      split at h
      ·cases h
       have hnil:us=[]:=List.length_eq_zero_iff.1 (by have:=hrel.length;simpa using this.symm)
       subst hnil
       exact⟨St.refl H,OpS.val hH hd (b6a (cew hn)) (key w (by cases a0<;>rfl))⟩
      ·split at h
       ·rename_i b0 off len0 hbase
        obtain⟨H1,hw,hv⟩:=map_some h
        cases hv
        obtain⟨L,cap,hL,he,_,_⟩:=b8t hbase ha
        rw [hdst] at he
        cases he
        exact⟨St.write hw,OpS.of_run (key _ (HP.write_run hH hw hL hrel)) ⟨ρ,b6a (cew hn),Sim.write hH hd hw hL hrel⟩⟩
       ·cases h
     ·cases h
    ·cases h
   ·cases h
  ·cases h
 ·cases h
noncomputable section
def dap:Cel:=.lit (.int .u8 (.ofNat 0))
def isZ(c:Cel):Bool :=
 match c with
 | .lit (.int .u8 (.ofNat 0))=>true
 | _=>false
def uniB(zs:List Cel):Bool :=
 List.rec (motive:=fun _=>Bool) true (fun c _ ih=>Bool.casesOn (motive:=fun _=>Bool) (isZ c) false ih) zs
theorem c3m{c:Cel}(h:isZ c=true):c=dap:=by
 unfold isZ at h
 split at h
 ·rfl
 ·cases h
theorem cq8:∀ (zs:List Cel),uniB zs=true→∀ x∈zs,x=dap
 | [],_,x,hx=>by cases hx
 | c::zs,h,x,hx=>by
  have h':Bool.casesOn (motive:=fun _=>Bool) (isZ c) false (uniB zs)=true:=h
  cases hz:isZ c with
  | false=>rw [hz] at h';cases h'
  | true =>
   rw [hz] at h'
   rcases List.mem_cons.1 hx with h1 | h1
   ·rw [h1];exact c3m hz
   ·exact cq8 zs h' x h1
def c35(zs:List Cel)(n:Nat):Bk :=
 match uniB zs,Nat.ble 33 (Nat.mul n (lenC zs)) with
 | true,true=>.fl (Nat.mul n (lenC zs)) dap
 | _,_=>b6i (repC zs n)
theorem cze{zs:List Cel}{n i:Nat}{c:Ct}(h:Bk.get (c35 zs n) i=some c):∃ x,(repC zs n)[i]? = some x∧c=.c x:=by
 unfold c35 at h
 split at h
 ·rename_i hu _
  rw [Bk.get_fl] at h
  split at h
  ·rename_i hi
   cases h
   rw [cmw] at hi
   have hi':i<n*zs.length:=hi
   have hp:0<zs.length:=by
    rcases Nat.eq_zero_or_pos zs.length with h0 | h0
    ·rw [h0] at hi';omega
    ·exact h0
   have hm:=Nat.mod_lt i hp
   rw [cf1 zs n i hi',List.getElem?_eq_getElem hm]
   exact⟨_,rfl,by rw [cq8 zs hu _ (List.getElem_mem hm)]⟩
  ·cases h
 ·exact cax h
end
noncomputable def b7v(P:Program)[Plain P](E:Operand→Option AV)(H:HP)(t:TypeId)(x y:Operand):R :=
 match undT P t,E x,E y with
 | some (.slice e),some (.one (.lit (.int _ l))),some (.one (.lit (.int _ c)))=>match szA P e,infoT P e with
  | some (_,sz),some i=>match i.zero with
   | some z=>if 0≤l∧l≤c∧fewA c.toNat i.bytes=true∧0<sz∧i.size=sz∧z.cells.size=sz then
     (lits z.cells.toList).map fun zs=>(.one (.sl H.n 0 l.toNat c.toNat),H.push (c35 zs c.toNat))
    else none
   | none=>none
  | _,_=>none
 | _,_,_=>none
theorem c1y(n:Int):IntKind.i64.wrap n=(n+9223372036854775808) % 18446744073709551616 - 9223372036854775808:=by
 simp [IntKind.wrap,IntKind.bits,IntKind.signed]
 split<;>omega
theorem wrap_small{n:Int}(h0:0≤n)(h1:n≤9223372036854775807):IntKind.i64.wrap n=n:=by
 have:IntKind.i64.wrap n=(n+9223372036854775808) % 18446744073709551616 - 9223372036854775808:=c1y n
 rw [this]
 omega
theorem run_askRoom{n:Nat}(h:n≤140737488355328):(askRoom n).run P w=.ok () w:=by
 unfold askRoom roomBytes
 rw [if_neg (by omega)]
 rfl
theorem cna{t:TypeId}{x y:Operand}(h:b7v P E H t x y=some (v,H'))(hx:∀ z,z=x∨z=y→∀ a,E z=some a→VRel ρ a (ev z))(hH:HRel ρ H w)(hd:Dom ρ H.n) :
  St H H'∧OpS P ρ ev H w (.makeSlice t x y) v H':=by
 unfold b7v at h
 simp only [b3j,b60] at h
 split at h
 ·rename_i e k l k' c hu hex hey
  obtain⟨he1,hl1⟩:=hx x (.inl rfl) _ hex
  obtain⟨he2,hl2⟩:=hx y (.inr rfl) _ hey
  split at h
  ·rename_i ag sz i hs hi
   split at h
   ·rename_i z hz
    split at h
    ·rename_i hc
     obtain⟨h0,h1,h2,h3,h4,h5⟩:=hc
     obtain⟨zs,hlits,hv⟩:=map_some h
     cases hv
     obtain⟨f1,f2⟩:=b9w h2
     refine⟨St.push _ _,fun dst ty pos after guard=>?_⟩
     have hrel:=b62 (ρ:=ρ) hlits
     have hrep:All2 (CRel ρ) (repC zs c.toNat) ((Array.range (c.toNat*i.size)).map fun i=>z.cells[i % z.cells.size]!).toList:=by
      have hzl:=hrel.length
      simp only [Array.length_toList] at hzl
      refine All2.of_get (by simp [b74,hzl,h4,h5]) fun j a b ha hb=>?_
      have hj:j<c.toNat*zs.length:=by have:=(List.getElem?_eq_some_iff.1 ha).1;rwa [b74] at this
      rw [cf1 _ _ _ hj] at ha
      simp only [Array.toList_map,Array.toList_range,List.getElem?_map,Option.map_eq_some_iff] at hb
      obtain⟨j',hj',rfl⟩:=hb
      rw [List.getElem?_range (by rw [h4,← h5,← hzl];exact hj)] at hj'
      cases hj'
      obtain⟨b,hb,hr⟩:=hrel.get _ _ ha
      rw [hzl,Array.getElem?_toList] at hb
      have hlt:=(Array.getElem?_eq_some_iff.1 hb).1
      rw [getElem!_pos z.cells _ hlt]
      rw [Array.getElem?_eq_getElem hlt] at hb
      cases hb
      exact hr
     have hsim:=Sim.allocK (k:=c35 zs c.toNat) (fun _ _ h=>cze h) (cs:=repC zs c.toNat) (t:=e) (us:=(Array.range (c.toNat*i.size)).map fun i=>z.cells[i % z.cells.size]!) hH hd (by rw [List.take_of_length_le (Nat.le_of_eq hrep.length.symm)];exact hrep)
     have hrun:(execOp ev ⟨dst,.makeSlice t x y,ty,pos,after,guard⟩).run P w=.ok (.value (.slice (some ⟨w.heap.size,0,none⟩) l.toNat c.toNat)) (w.alloc (.cells ((Array.range (c.toNat*i.size)).map fun i=>z.cells[i % z.cells.size]!) e)):=by
      obtain⟨l',rfl⟩:=Int.eq_ofNat_of_zero_le h0
      obtain⟨c',rfl⟩:=Int.eq_ofNat_of_zero_le (Int.le_trans h0 h1)
      simp only [Int.toNat_natCast] at f1 f2 ⊢
      have e1:IntKind.i64.wrap (l':Int)=l':=wrap_small (by omega) (by omega)
      have e2:IntKind.i64.wrap (c':Int)=c':=wrap_small (by omega) (by omega)
      have e3:((i.bytes:Int)*(c':Int))=((c'*i.bytes:Nat):Int):=by rw [Nat.mul_comm];simp
      have e4:¬ (281474976710656<((i.bytes:Int)*(c':Int))):=by rw [e3];omega
      have e5:¬ ((c':Int)<l'):=by omega
      have e6:=run_askRoom (P:=P) (w:=w) f1
      by_cases hn:c'=0
      ·subst hn
       have hl0:l'=0:=by omega
       subst hl0
       have e0:IntKind.i64.wrap 0=0:=by decide
       have e7:=run_askRoom (P:=P) (w:=w) (n:=0) (by omega)
       simp [e0,e7,execOp,Instr.makeSlice,run_underlying hu,he1,he2,asInt,asIntOf,typeInfo,sizeOf,hi,e1,e2,e4,e5,e6,newRow,zeroValue,hz]
       congr 2
       apply Array.ext'
       simp
      ·have hne:¬ (c'*i.size=0):=by
        intro hz'
        rcases Nat.mul_eq_zero.1 hz' with h | h<;>omega
       simp [execOp,Instr.makeSlice,run_underlying hu,he1,he2,asInt,asIntOf,typeInfo,sizeOf,hi,e1,e2,e4,e5,e6,hne,newRow,zeroValue,hz]
       intro hh
       omega
     rw [hrun]
     refine⟨_,⟨⟨⟨w.heap.size,0,_,none⟩,upd_same _ _ _,rfl⟩,by omega,by omega⟩,hsim⟩
    ·cases h
   ·cases h
  ·cases h
 ·cases h
end
end Go.Sx

namespace Go.Sx
variable [Sg]
section
variable {P:Program} [Plain P] {ora:Ora} {E:Operand→Option AV} {H H':HP} {w:World} {ρ:PM} {ev:Operand→Value} {v:AV}
theorem cg8(w:World)(B o k:Nat):(w.freeze ⟨B,o,none⟩ 1).heap[k]? = if B=k then(w.heap[k]?).map (fun x=>match x with | .cells c e (lo,hi)=>.cells c e (if lo==hi then(o,o+1) else(min lo o,max hi (o+1))) | x=>x) else w.heap[k]?:=by
 unfold World.freeze
 rw [if_neg (by decide)]
 simp only [Array.getElem?_modify]
 split
 ·congr 1
 ·rfl
theorem ci4{fr:Nat×Nat}{n:Nat}(h:UF fr n):UF (if fr.1==fr.2 then(n,n+1) else(min fr.1 n,max fr.2 (n+1))) n:=by
 obtain⟨lo,hi⟩:=fr
 unfold UF at *
 simp only at *
 by_cases he:lo=hi
 ·subst he
  simp
 ·rcases h with h | h
  ·exact absurd h he
  ·have:(lo==hi)=false:=by simpa using he
   rw [this]
   simp only [Bool.false_eq_true,if_false]
   right
   omega
theorem Sim.freeze(hH:HRel ρ H w)(hd:Dom ρ H.n){b:Nat}{L:Loc}(hL:ρ b=some L)(hk:H.Kn b){arr:Array Value}{t:TypeId}{fr:Nat×Nat}(ha:w.heap[L.B]? = some (.cells arr t fr))(hu:UF fr arr.size) :
  Sim ρ H w ρ H (w.freeze ⟨L.B,arr.size,none⟩ 1):=by
 have hB:(w.freeze ⟨L.B,arr.size,none⟩ 1).heap[L.B]? = some (.cells arr t (if fr.1==fr.2 then(arr.size,arr.size+1) else(min fr.1 arr.size,max fr.2 (arr.size+1)))):=by
  rw [cg8,if_pos rfl,ha]
  rfl
 have ho:∀ k,k≠L.B→(w.freeze ⟨L.B,arr.size,none⟩ 1).heap[k]? = w.heap[k]?:=fun k hk=>by rw [cg8,if_neg (Ne.symm hk)]
 refine Sim0.same ?_ hd
 exact {
  le:=PM.le.refl ρ
  grow:=Nat.le_refl _
  dom:=hd
  rel:=by
   refine⟨fun b' i c K hc hK=>?_,hH.inj,hH.hy⟩
   have h0:=hH.rel b' i c K hc hK
   by_cases hBK:K.B=L.B
   ·cases c with
    | c x =>
     obtain⟨arr',t',fr',u,h1,h2,h3,h4,h5⟩:=h0
     rw [hBK,ha] at h1
     cases h1
     exact⟨arr,t,_,u,by rw [hBK];exact hB,ci4 hu,h3,h4,h5⟩
    | map es ck =>
     obtain⟨_,_,m,h1,_⟩:=h0
     rw [hBK,ha] at h1
     cases h1
    | iter m a1 a2 a3 =>
     obtain⟨_,_,m,h1,_⟩:=h0
     rw [hBK,ha] at h1
     cases h1
    | loop a1 a2 a3 a4 a5 =>
     obtain⟨_,_,m,h1,_⟩:=h0
     rw [hBK,ha] at h1
     cases h1
    | mx a1 a2 a3 a4 a5 =>
     obtain⟨_,_,m,_,h1,_⟩:=h0
     rw [hBK,ha] at h1
     cases h1
    | ix a1 a2 a3 =>
     obtain⟨_,_,_,_,_,_,h1,_⟩:=h0
     rw [hBK,ha] at h1
     cases h1
    | room =>
     obtain⟨arr',t',fr',h1,h2,h3,h4⟩:=h0
     rw [hBK,ha] at h1
     cases h1
     exact⟨arr,t,_,by rw [hBK];exact hB,ci4 hu,h3,h4⟩
    | rows ss G e n =>
     obtain⟨h7,h8,h9,arr',t',fr',h1,h2,h3,h4⟩:=h0
     rw [hBK,ha] at h1
     cases h1
     exact⟨h7,h8,h9,arr,t,_,by rw [hBK];exact hB,⟨ci4 hu,h2.2⟩,h3,h4⟩
   ·exact h0.of_heap (ho _ hBK)
  knc:=fun _ _ _ h=>h
  fr:=fun k _ hno=>ho k fun h=>hno b L hk hL h.symm
  new:=fun b L h1 h2=>by rw [h1] at h2;cases h2
  size:=by unfold World.freeze;rw [if_neg (by decide)];simp
  os:=by unfold World.freeze;rw [if_neg (by decide)]
  tape:=by unfold World.freeze;rw [if_neg (by decide)]
  output:=by unfold World.freeze;rw [if_neg (by decide)]
  old:=fun b L h1 h2=>by rw [h1] at h2;cases h2 }
def ctw:List Cel→Option (List Int)
 | []=>some []
 | .lit (.int .u8 n)::cs=>match ctw cs with
  | some ns=>some (n::ns)
  | none=>none
 | _=>none
def strOf(ns:List Int):ByteArray:=ns.foldl (fun r n=>r.push (UInt8.ofNat n.toNat)) ByteArray.empty
noncomputable def toStr(H:HP)(v:AV):Option ByteArray :=
 match v with
 | .one (.lit (.slice none _ _))=>some ByteArray.empty
 | v=>match cjf v with
  | some (b,off,len)=>match H.read b off len with
   | some cs=>match ctw cs with
    | some ns=>match Nat.ble (strOf ns).size 9223372036854775807 with
     | true=>some (strOf ns)
     | false=>none
    | none=>none
   | none=>none
  | none=>none
noncomputable def b9c(P:Program)[Plain P](E:Operand→Option AV)(H:HP)(t u:TypeId)(x:Operand):R :=
 match undT P t,undT P u,E x with
 | some _,some (.int k),some (.one (.lit (.int _ n)))=>some (.one (.lit (.int k (k.wrap n))),H)
 | some _,some .string,some (.one (.lit (.string s)))=>some (.one (.lit (.string s)),H)
 | some (.slice e),some .string,some v=>match undT P e with
  | some (.int .u8)=>(toStr H v).map fun s=>(.one (.lit (.string s)),H)
  | _=>none
 | some .string,some (.slice e),some (.one (.lit (.string s)))=>match undT P e with
  | some (.int .u8)=>some (.one (.su H.n 0 s.size 1),H.push (b6i (cjw s)))
  | _=>none
 | some (.slice _),some (.slice e),some v=>match undT P e,Nat.beq t u,cjf v with
  | some (.int .u8),true,some (b,_,_)=>match H.kn1 b with
   | true=>some (v,H)
   | false=>none
  | _,_,_=>none
 | _,_,_=>none
theorem cj8:∀ {cs:List Cel} {ns:List Int} {us:List Value},ctw cs=some ns→All2 (CRel ρ) cs us→us=ns.map (Value.int .u8)
 | [],ns,us,h,hr=>by
  cases h
  cases us with
  | nil=>rfl
  | cons u us=>exact hr.elim
 | .lit (.int .u8 n)::cs,ns,us,h,hr=>by
  simp only [ctw] at h
  split at h
  ·rename_i ns' hns
   cases h
   cases us with
   | nil=>exact hr.elim
   | cons u us =>
    obtain⟨⟨rfl,_⟩,h2⟩:=hr
    rw [cj8 hns h2]
    rfl
  ·cases h
theorem c5n{x:AV}{u:Value}{s:ByteArray}(h:toStr H x=some s)(hx:VRel ρ x u)(hH:HRel ρ H w):b4k (.string s)=true∧∃ a l c,u=.slice a l c∧(Conv.bytesToString u).run P w=.ok (.string s) w:=by
 unfold toStr at h
 split at h
 ·cases h
  obtain⟨rfl,_⟩:=hx
  exact⟨by decide,_,_,_,rfl,rfl⟩
 ·split at h
  ·rename_i b off len hb
   split at h
   ·rename_i cs hcs
    split at h
    ·rename_i ns hns
     split at h
     ·rename_i hble
      cases h
      obtain⟨L,cap,hL,rfl,h1,h2⟩:=b8t hb hx
      obtain⟨us,hl,hrel,hcell⟩:=HP.read_world hcs hH hL
      have hus:=cj8 hns hrel
      refine⟨by simp only [b4k,decide_eq_true_eq];exact Nat.le_of_ble_eq_true hble,_,_,_,rfl,run_bytesToString w _ _ _ ns ?_⟩
      rw [← hus,← hl]
      refine run_loadCells_list w _ us fun j v hj=>?_
      rw [b36]
      exact hcell j v hj
     ·cases h
    ·cases h
   ·cases h
  ·cases h
theorem cr1{t u:TypeId}{x:Operand}(h:b9c P E H t u x=some (v,H'))(hx:∀ a,E x=some a→VRel ρ a (ev x))(hH:HRel ρ H w)(hd:Dom ρ H.n) :
  St H H'∧OpS P ρ ev H w (.convert t u x) v H':=by
 unfold b9c at h
 simp only [b3j] at h
 split at h
 ·rename_i d k k' n ht hu hex
  cases h
  obtain⟨he,hl⟩:=hx _ hex
  refine⟨St.refl H,OpS.val hH hd (b6a (cb3 k n)) fun dst ty pos after guard=>?_⟩
  have:(convert t u (.int k' n)).run P w=.ok (.int k (k.wrap n)) w:=by
   simp only [convert,Sem.run_bind,run_underlying ht,run_underlying hu,Result.andThen_ok]
   rfl
  simp [execOp,he,this]
 ·rename_i d s ht hu hex
  cases h
  obtain⟨he,hl⟩:=hx _ hex
  refine⟨St.refl H,OpS.val hH hd (b6a hl) fun dst ty pos after guard=>?_⟩
  have:(convert t u (.string s)).run P w=.ok (.string s) w:=by
   simp only [convert,Sem.run_bind,run_underlying ht,run_underlying hu,Result.andThen_ok]
   rfl
  simp [execOp,he,this]
 ·rename_i e v0 _ ht hu hex
  split at h
  ·rename_i he
   obtain⟨s,hs,hv⟩:=map_some h
   cases hv
   obtain⟨hl,a,l,c,hev,hrun⟩:=c5n (P:=P) hs (hx _ hex) hH
   refine⟨St.refl H,OpS.val hH hd (b6a hl) fun dst ty pos after guard=>?_⟩
   have:=run_convert_bytes_string (P:=P) w t u e a l c ht he hu
   rw [← hev,hrun] at this
   simp [execOp,this]
  ·cases h
 ·rename_i e s ht hu hex
  split at h
  ·rename_i he
   cases h
   obtain⟨hev,hl⟩:=hx _ hex
   simp only [b4k,decide_eq_true_eq] at hl
   refine⟨St.push _ _,fun dst ty pos after guard=>?_⟩
   have hrun:=run_bytes_of_string (P:=P) w t u e s ht hu he
   have hc1:=coq s.size 0 e w
   have hc2:=ctg (need:=s.size) 0 e w hl
   have hsz:(bytesRow s (grownCap w s.size 0 e)).size=grownCap w s.size 0 e:=by
    have:s.data.size=s.size:=rfl
    simp only [bytesRow,Array.size_append,Array.size_map,Array.size_replicate,this]
    omega
   have s2:Sim ρ H w ρ H w.drew:=Sim.same hH hd rfl rfl rfl rfl
   have s3:=Sim.alloc (H:=H) (ρ:=ρ) (w:=w.drew) (o:=.cells (bytesRow s (grownCap w s.size 0 e)) e ((bytesRow s (grownCap w s.size 0 e)).size,(bytesRow s (grownCap w s.size 0 e)).size+1)) (k:=b6i (cjw s)) (L:=⟨w.heap.size,0,grownCap w s.size 0 e,none⟩) s2.rel hd rfl rfl fun i c hc=>by
    obtain⟨y,hy,rfl⟩:=cax hc
    obtain⟨b,hb,hr⟩:=(cdf (ρ:=upd ρ H.n ⟨w.heap.size,0,grownCap w s.size 0 e,none⟩) s).get i y hy
    refine⟨_,e,_,b,(by rw [heap_alloc];exact if_pos rfl),.inr (Nat.le_refl _),hsz,?_,hr⟩
    simp only [Nat.zero_add,bytesRow]
    have hi:i<s.data.size:=by
     have:=(List.getElem?_eq_some_iff.1 hb).1
     simpa using this
    rw [Array.getElem?_append_left (by simpa using hi)]
    rw [← hb]
    simp
   have:(execOp ev ⟨dst,.convert t u x,ty,pos,after,guard⟩).run P w=.ok (.value (.slice (some ⟨w.heap.size,0,none⟩) s.size (grownCap w s.size 0 e))) (w.drew.alloc (.cells (bytesRow s (grownCap w s.size 0 e)) e ((bytesRow s (grownCap w s.size 0 e)).size,(bytesRow s (grownCap w s.size 0 e)).size+1))):=by
    simp [execOp,hev,hrun]
   rw [this]
   exact⟨_,⟨⟨w.heap.size,0,grownCap w s.size 0 e,none⟩,grownCap w s.size 0 e,upd_same _ _ _,rfl,hc1,hc2,by simp⟩,s2.trans hd s3⟩
  ·cases h
 ·rename_i e0 e v0 _ ht hu hex
  split at h
  ·rename_i b off len he htu hb
   have htu':=Nat.eq_of_beq_eq_true htu
   subst htu'
   split at h
   ·rename_i hkn
    cases h
    obtain⟨c0,hc0⟩:=HP.kn1_spec hkn
    obtain⟨L,cap,hL,hev,h1,h2⟩:=b8t hb (hx _ hex)
    obtain⟨arr,t',fr,u0,e1,e2,e3,e4,e5⟩:=hH.rel b 0 (.c c0) L hc0 hL
    refine⟨St.refl H,OpS.of_run (w':=w.freeze ⟨L.B,arr.size,none⟩ 1) (u':=ev x) (fun dst ty pos after guard=>?_) ⟨ρ,hx _ hex,Sim.freeze hH hd hL ⟨0,_,hc0⟩ e1 e2⟩⟩
    have hsh:w.shape? L.B=some (t',arr.size):=by unfold World.shape?;rw [e1]
    rw [hu] at ht
    cases ht
    simp [execOp,hev,convert,run_underlying hu,run_underlying he,markStringish,hsh]
   ·cases h
  ·cases h
 ·cases h
end
end Go.Sx
