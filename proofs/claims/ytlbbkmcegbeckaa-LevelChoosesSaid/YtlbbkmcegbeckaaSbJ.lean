/-
  Contracts of a seat's functions: four levels; which one is over. Conditions: none.
-/
import Derived.Test.YtlbbkmcegbeckaaSbF
set_option linter.all false
set_option maxRecDepth 100000
noncomputable section
namespace Go.Proofs.Ytlbbkmcegbeckaa
open Go.Sx Go.Proofs
theorem us25(a:CD):@Us.u U 25 [a]=mkz a.rows:=rfl
theorem us26(a b:CD):@Us.u U 26 [a,b]=mkz (a.rows.take b.iv.toNat):=rfl
theorem us27(a b:CD):@Us.u U 27 [a,b]=levD a b.iv:=rfl
theorem aa1{r:List (List CD)}:CD.sl (true&&r.isEmpty) r=mkz r:=by unfold mkz;rfl
theorem acf{r r':List (List CD)}:(mkz r=mkz r')=(r=r'):=by rw [← aa1,av9]
theorem aaq{α:Type}{a b:α}:([a]=[b])=(a=b):=by simp
theorem afv{k:IntKind}{a b:Int}:(vInt k a=vInt k b)=(a=b):=by unfold vInt;simp
theorem aas(k:IntKind)(z:Int):CD.v (.int k z)=vInt k z:=rfl
theorem bp1{ss:List Srt}{d:CD}(hT:Typ (.sl ss) d)(h:d.isNil=true):d=.sl true []:=by
 obtain⟨m,u,hr⟩:=hT
 rcases(show(d=.sl true []∧u=.slice none 0 0)∨_ from hr) with ⟨h1,_⟩ | ⟨rows,b,off,cap,h1,_⟩ | ⟨_,h1,_⟩
 ·exact h1
 ·rw [h1] at h;cases h
 ·rw [h1] at h;cases h
theorem not_nil{ss:List Srt}{d:CD}(hT:Typ (.sl ss) d)(h:¬ d.isNil=true):d=.sl false d.rows:=by
 obtain⟨m,u,hr⟩:=hT
 rcases(show(d=.sl true []∧u=.slice none 0 0)∨_ from hr) with ⟨h1,_⟩ | ⟨rows,b,off,cap,h1,_⟩ | ⟨_,h1,_⟩
 ·rw [h1] at h;exact absurd rfl h
 ·rw [h1];rfl
 ·rw [h1];rfl
theorem b03{r:List CD}(h:r.length=5):r=[r.getD 0 default,r.getD 1 default,r.getD 2 default,r.getD 3 default,r.getD 4 default]:=by
 match r,h with
 | [_,_,_,_,_],_=>rfl
theorem row5{l:CD}{i:Int}(hT:Typ (.sl sRun) l)(h0:0≤i)(h:i<l.len):l.rows.getD i.toNat []=[l.cell i 0,l.cell i 1,l.cell i 2,l.cell i 3,l.cell i 4]:=by
 have hl:=hT.sl.1
 have hlt:i.toNat<l.rows.length:=by omega
 have h5:=(hT.row (i:=i.toNat) (row:=l.rows.getD i.toNat []) (by rw [Gd,Gl hlt];rfl)).1
 exact b03 h5
theorem adx{l:CD}{i:Int}(hT:Typ (.sl sRun) l)(h0:0≤i)(h:i<l.len):l.rows.take (i+1).toNat=l.rows.take i.toNat++[[l.cell i 0,l.cell i 1,l.cell i 2,l.cell i 3,l.cell i 4]]:=by
 rw [apq hT.sl.1 h0 h,row5 hT h0 h]
theorem abh{ss:List Srt}{l:CD}{i:Int}(hT:Typ (.sl ss) l)(h:¬ i<l.len):l.rows.take i.toNat=l.rows:=apo hT.sl.1 h
theorem a0x{l:CD}{i:Int}(h:¬ aag l 40=true)(hT:Typ (.sl sRun) l)(h0:0≤i)(hi:i<l.len):((l.cell i 3).len:Int)≤200∧((l.cell i 4).len:Int)≤200:=ax8 h hT.sl.1 h0 hi
def S97:Fsp:=⟨[(false,[sB])],[.ap .le [.ap .len [.var 0],.lit (.int .i64 200)]],[(false,[sB])],[([],[[.var 0]])],true⟩
def bt2:List VC:=[]
def bt1:List (List X×List (List X)):=[([(.ap .isnil [(V 0)]),(.ap (.typ (.sl [(.int .u8)])) [(V 0)]),(.ap .le [(.ap .len [(V 0)]),(I 200)])],[[(.ap (.nil true) [])]]),
 ([(.ap .not [(.ap .isnil [(V 0)])]),(.ap (.typ (.sl [(.int .u8)])) [(V 0)]),(.ap .le [(.ap .len [(V 0)]),(I 200)])],[[(.ap (.mk false) [(.ap (.mk false) [(V 0)])])]])]
theorem by3:runS Try.prog (acr T0) 10 4 ⟨aa0 [],hintA []⟩ Try.f97 (aau Try.f97) S97=some (bt2,bt1):=by kernel_rfl
set_option maxHeartbeats 4000000 in
theorem c97:aah U Try.prog 97 S97:=by
 refine aah.of (P:=Try.prog) (U:=U) (T:=T0) (f:=97) (fn:=Try.f97) (fuel:=10) (fk:=4) (hs:=⟨aa0 [],hintA []⟩) (S:=S97) (v:=bt2) (outs:=bt1) mixed hT1' at97 by3 ?_ ?_
 ·unfold bt2
  repeat' (first | exact aa7 _ | refine aai (fun v hh=>?_) ?_)
  all_goals
   simp only [aao,aax,aaw,aa2,b_le,abk,aa6,af5,abn,ac3,w_mk,aav,w_l0,w_l1,aae,aaf,aay,aac,aad,aak,aaj,aao,aaq] at hh ⊢
   repeat (obtain⟨_,hh⟩:=hh)
   try (first | grind [bp1,not_nil,= aae])
 ·intro o ho σ hU hh
  obtain⟨v⟩:=σ
  cases hU
  simp only [bt1,Mn,List.not_mem_nil,or_false] at ho
  repeat' (first | (rcases ho with rfl | ho) | subst ho)
  all_goals
   refine⟨_,Ms ..,by simp only [aao,aax,aaw,aa2,b_le,abk,aa6,af5,abn,ac3,w_mk,aav,w_l0,w_l1,aae,aaf,aay,aac,aad,aak,aaj],?_⟩
   simp only [aao,aax,aaw,aa2,b_le,abk,aa6,af5,abn,ac3,w_mk,aav,w_l0,w_l1,aae,aaf,aay,aac,aad,aak,aaj,aao,aaq] at hh
   simp only [List.map_cons,List.map_nil,aao,aax,aaw,aa2,b_le,abk,aa6,af5,abn,ac3,w_mk,aav,w_l0,w_l1,aae,aaf,aay,aac,aad,aak,aaj,w_le,akb,amj,aao,aaq]
   repeat (obtain⟨_,hh⟩:=hh)
   try (first | grind [bp1,not_nil,= aae])
def T10:List (FuncId×Fsp):=[(97,S97)]
def S50:Fsp:=⟨[(true,sRun)],[.ap .le [.ap .len [.var 3],.lit (.int .i64 200)],.ap .le [.ap .len [.var 4],.lit (.int .i64 200)]],[(true,sRun)],[([],[[.var 0,.var 1,.var 2,.var 3,.var 4]])],true⟩
theorem hT10:ae1 U Try.prog T10:=.cons c97 .nil
def btg:List VC:=[]
def btf:List (List X×List (List X)):=[([(.ap .le [LoI,(V 0)]),(.ap .le [(V 0),HiI]),(.ap .le [LoI,(V 1)]),(.ap .le [(V 1),HiI]),(.ap .le [LoI,(V 2)]),(.ap .le [(V 2),HiI]),(.ap (.typ (.sl [(.int .u8)])) [(V 3)]),(.ap (.typ (.sl [(.int .u8)])) [(V 4)]),(.ap .le [(.ap .len [(V 3)]),(I 200)]),(.ap .le [(.ap .len [(V 4)]),(I 200)])],[[(V 0),(V 1),(V 2),(V 3),(V 4)]])]
theorem byl:runS Try.prog (acr (tab T10)) 10 4 ⟨aa0 [],hintA []⟩ Try.f50 (aau Try.f50) S50=some (btg,btf):=by kernel_rfl
set_option maxHeartbeats 4000000 in
theorem c50:aah U Try.prog 50 S50:=by
 refine aah.of (P:=Try.prog) (U:=U) (T:=(tab T10)) (f:=50) (fn:=Try.f50) (fuel:=10) (fk:=4) (hs:=⟨aa0 [],hintA []⟩) (S:=S50) (v:=btg) (outs:=btf) mixed hT10 at50 byl ?_ ?_
 ·unfold btg
  repeat' (first | exact aa7 _ | refine aai (fun v hh=>?_) ?_)
  all_goals
   simp only [aao,aax,aaw,aa2,b_le,aa6,abn,aav,w_l0,w_l1,aae,aaf,aay,aac,aad,aak,aaj,aao,aaq] at hh ⊢
   repeat (obtain⟨_,hh⟩:=hh)
   try (first | grind [= aae])
 ·intro o ho σ hU hh
  obtain⟨v⟩:=σ
  cases hU
  simp only [btf,Mn,List.not_mem_nil,or_false] at ho
  repeat' (first | (rcases ho with rfl | ho) | subst ho)
  all_goals
   refine⟨_,Ms ..,by simp only [aao,aax,aaw,aa2,b_le,aa6,abn,aav,w_l0,w_l1,aae,aaf,aay,aac,aad,aak,aaj],?_⟩
   simp only [aao,aax,aaw,aa2,b_le,aa6,abn,aav,w_l0,w_l1,aae,aaf,aay,aac,aad,aak,aaj,aao,aaq] at hh
   simp only [List.map_cons,List.map_nil,aao,aax,aaw,aa2,b_le,aa6,abn,aav,w_l0,w_l1,aae,aaf,aay,aac,aad,aak,aaj,w_le,amj,aao,aaq]
   repeat (obtain⟨_,hh⟩:=hh)
   try (first | grind [= aae])
def T11:List (FuncId×Fsp):=[(50,S50)]
def lp63:Lp:=⟨[(.slot 3,.own true sRun),(.slot 8,.int .i64)],[2,6,7],[],fun F H k=>[.ap .le [zI,.var (k+2)],.ap .le [.var (k+2),.ap .len [.var 0]],.ap .le [.var k,.var (k+2)],.ap .le [.var (k+2),.var k],.ap .same [.ap (.mk true) [.var (k+1)],.ap (.usr 26) [.var 0,.var (k+2)]]],fun F H k=>.ap (.sub .i64) [.ap .len [.var 0],.var (k+2)]⟩
def as63:Fm→HP→List X:=fun F H=>[.ap .le [.ap .len [.ap (.cell 3) [.var 0,sx F 8]],.lit (.int .i64 200)],.ap .le [.ap .len [.ap (.cell 4) [.var 0,sx F 8]],.lit (.int .i64 200)]]
def S63:Fsp:=⟨[(false,[.sl sRun])],[.ap .le [.ap .len [.var 0],.lit (.int .i64 40)],.ap .not [.ap (.usr 0) [.var 0,.lit (.int .i64 40)]]],[(false,[.sl sRun])],[([],[[.ap (.usr 25) [.var 0]]])],true⟩
theorem hT11:ae1 U Try.prog T11:=.cons c50 .nil
abbrev bdb:List X:=[(.ap (.typ (.sl [(.int .i64),(.int .i64),(.int .i64),(.sl [(.int .u8)]),(.sl [(.int .u8)])])) [(V 0)]),(.ap .le [(.ap .len [(V 0)]),(I 40)]),(.ap .not [(.ap (.usr 0) [(V 0),(I 40)])])]
abbrev a0j:List X:=(.ap .le [(I 0),(V 3)])::(.ap .le [(V 3),(.ap .len [(V 0)])])::(.ap .le [(V 1),(V 3)])::(.ap .le [(V 3),(V 1)])::(.ap .same [(.ap (.mk true) [(V 2)]),(.ap (.usr 26) [(V 0),(V 3)])])::bdb
def bto:List VC:=[(bdb,(.ap .same [(.ap (.mk true) [(.ap (.nil true) [])]),(.ap (.usr 26) [(V 0),(I 0)])])),
 (((.ap .lt [(V 3),(.ap .len [(V 0)])])::a0j),(.ap .le [(.ap .len [(.ap (.cell 3) [(V 0),(V 3)])]),(I 200)])),
 (((.ap .lt [(V 3),(.ap .len [(V 0)])])::a0j),(.ap .le [(.ap .len [(.ap (.cell 4) [(V 0),(V 3)])]),(I 200)])),
 (((.ap .le [LoI,(.ap (.cell 0) [(V 0),(V 3)])])::(.ap .le [(.ap (.cell 0) [(V 0),(V 3)]),HiI])::(.ap .le [LoI,(.ap (.cell 1) [(V 0),(V 3)])])::(.ap .le [(.ap (.cell 1) [(V 0),(V 3)]),HiI])::(.ap .le [LoI,(.ap (.cell 2) [(V 0),(V 3)])])::(.ap .le [(.ap (.cell 2) [(V 0),(V 3)]),HiI])::(.ap (.typ (.sl [(.int .u8)])) [(.ap (.cell 3) [(V 0),(V 3)])])::(.ap (.typ (.sl [(.int .u8)])) [(.ap (.cell 4) [(V 0),(V 3)])])::(.ap .le [(.ap .len [(.ap (.cell 3) [(V 0),(V 3)])]),(I 200)])::(.ap .le [(.ap .len [(.ap (.cell 4) [(V 0),(V 3)])]),(I 200)])::(.ap .lt [(V 3),(.ap .len [(V 0)])])::a0j),(.ap .same [(.ap (.mk true) [(.ap .cat [(V 2),(.ap .snoc [(.ap (.nil false) []),(.ap (.cell 0) [(V 0),(V 3)]),(.ap (.cell 1) [(V 0),(V 3)]),(.ap (.cell 2) [(V 0),(V 3)]),(.ap (.cell 3) [(V 0),(V 3)]),(.ap (.cell 4) [(V 0),(V 3)])])])]),(.ap (.usr 26) [(V 0),(.ap (.add .i64) [(V 3),(I 1)])])]))]
def btn:List (List X×List (List X)):=[(((.ap .not [(.ap .lt [(V 3),(.ap .len [(V 0)])])])::a0j),[[(.ap (.mk true) [(V 2)])]])]
theorem byw:runS Try.prog (acr (tab T11)) 10 6 ⟨aa0 [(3,lp63)],hintA [(5,as63)]⟩ Try.f63 (aau Try.f63) S63=some (bto,btn):=by kernel_rfl
set_option maxHeartbeats 4000000 in
theorem c63:aah U Try.prog 63 S63:=by
 refine aah.of (P:=Try.prog) (U:=U) (T:=(tab T11)) (f:=63) (fn:=Try.f63) (fuel:=10) (fk:=6) (hs:=⟨aa0 [(3,lp63)],hintA [(5,as63)]⟩) (S:=S63) (v:=bto) (outs:=btn) mixed hT11 at63 byw ?_ ?_
 ·unfold bto
  repeat' (first | exact aa7 _ | refine aai (fun v hh=>?_) ?_)
  all_goals
   simp only [aao,aax,aaw,aa2,aco,b_lt,b_le,abk,aa6,abr,abn,abf,ac3,w_mk,abt,aef,aav,w_l0,w_l1,aae,aaf,aay,aac,aad,aak,aaj,us25,us26,us0,aa1,acf,aaq,List.nil_append,bdb,a0j] at hh ⊢
   repeat (obtain⟨_,hh⟩:=hh)
   try (first | grind [adx,abh,→ a0x,= aae])
 ·intro o ho σ hU hh
  obtain⟨v⟩:=σ
  cases hU
  simp only [btn,Mn,List.not_mem_nil,or_false] at ho
  repeat' (first | (rcases ho with rfl | ho) | subst ho)
  all_goals
   refine⟨_,Ms ..,by simp only [aao,aax,aaw,aa2,aco,b_lt,b_le,abk,aa6,abr,abn,abf,ac3,w_mk,abt,aef,aav,w_l0,w_l1,aae,aaf,aay,aac,aad,aak,aaj],?_⟩
   simp only [aao,aax,aaw,aa2,aco,b_lt,b_le,abk,aa6,abr,abn,abf,ac3,w_mk,abt,aef,aav,w_l0,w_l1,aae,aaf,aay,aac,aad,aak,aaj,us25,us26,us0,aa1,acf,aaq,List.nil_append,bdb,a0j] at hh
   simp only [List.map_cons,List.map_nil,aao,aax,aaw,aa2,aco,b_lt,b_le,abk,aa6,abr,abn,abf,ac3,w_mk,abt,aef,aav,w_l0,w_l1,aae,aaf,aay,aac,aad,aak,aaj,w_lt,w_le,akb,ayu,amj,us25,us26,us0,aa1,acf,aaq,List.nil_append]
   repeat (obtain⟨_,hh⟩:=hh)
   try (first | grind [adx,abh,→ a0x,= aae])
theorem a9i:∀ a b:List UInt8,Op.bytesLess a b=decide (Lib.compareBytes a b<0)
 | [],[]=>rfl
 | [],_::_=>rfl
 | _::_,[]=>rfl
 | a::x,b::y=>by
  have ih:=a9i x y
  unfold Op.bytesLess Lib.compareBytes
  rw [ih]
  by_cases h1:a<b
  ·simp [h1]
  ·by_cases h2:b<a
   ·simp [h1,h2]
    intro h;subst h;exact absurd h2 h1
   ·have:a=b:=by
     apply UInt8.toNat.inj
     have h1:¬ a.toNat<b.toNat:=fun h=>h1 (UInt8.lt_iff_toNat_lt.2 h)
     have h2:¬ b.toNat<a.toNat:=fun h=>h2 (UInt8.lt_iff_toNat_lt.2 h)
     omega
    simp [h1,h2,this]
theorem a1f:∀ a:List UInt8,Lib.compareBytes a a=0
 | []=>rfl
 | a::x=>by
  unfold Lib.compareBytes
  rw [a1f x]
  simp
theorem bf4:∀ a b:List UInt8,Lib.compareBytes a b=0→a=b
 | [],[],_=>rfl
 | [],_::_,h=>by simp [Lib.compareBytes] at h
 | _::_,[],h=>by simp [Lib.compareBytes] at h
 | a::x,b::y,h=>by
  unfold Lib.compareBytes at h
  split at h
  ·cases h
  split at h
  ·cases h
  rename_i h1 h2
  have:a=b:=by
   apply UInt8.toNat.inj
   have h1:¬ a.toNat<b.toNat:=fun h=>h1 (UInt8.lt_iff_toNat_lt.2 h)
   have h2:¬ b.toNat<a.toNat:=fun h=>h2 (UInt8.lt_iff_toNat_lt.2 h)
   omega
  rw [this,bf4 x y h]
theorem bpe:∀ a b:List UInt8,Lib.compareBytes b a = - Lib.compareBytes a b
 | [],[]=>rfl
 | [],_::_=>rfl
 | _::_,[]=>rfl
 | a::x,b::y=>by
  have ih:=bpe x y
  unfold Lib.compareBytes
  by_cases h1:a<b
  ·have h2:¬ b<a:=fun h=>by
    have h1:=(UInt8.lt_iff_toNat_lt).1 h1
    have h:=(UInt8.lt_iff_toNat_lt).1 h
    omega
   simp [h1,h2]
  ·by_cases h2:b<a
   ·simp [h1,h2]
   ·simp [h1,h2,ih]
theorem b0p(a b:List UInt8):(a==b)=decide (Lib.compareBytes a b=0):=by
 rw [Bool.eq_iff_iff,beq_iff_eq,Dt]
 exact⟨fun h=>by rw [h];exact a1f b,bf4 a b⟩
abbrev strOf(a:CD):ByteArray:=(CD.v (.string ⟨(a.rows.map aha).toArray⟩)).str
theorem ai3(a:CD):(strOf a).toList=byts a:=by
 show(⟨(a.rows.map aha).toArray⟩:ByteArray).toList=_
 rw [ByteArray.toList_eq]
 rfl
theorem ayf(a b:CD):orV (strA .lss (strOf a) (strOf b))=aan (decide (cmpC a b<0)):=by
 unfold strA
 simp only [ai3,a9i]
 rfl
theorem aln(a b:CD):orV (strA .leq (strOf a) (strOf b))=aan (decide (cmpC a b≤0)):=by
 unfold strA
 simp only [ai3,a9i,b0p]
 show aan (decide (cmpC a b<0)||decide (cmpC a b=0))=_
 congr 1
 rw [Bool.eq_iff_iff]
 simp only [Bool.or_eq_true,Dt]
 omega
theorem avd(a b:CD):cmpC b a = - cmpC a b:=bpe _ _
theorem us38(a:CD):@Us.u U 38 [a]=aan (decide (1≤a.len)&&decide (a.len≤32)):=rfl
theorem af0{d:CD}{n:Nat}{i:Int}(h0:0≤i):(anc n d i.toNat=true)=(1≤(d.cell i 2).iv∧(1≤(d.cell i 3).len∧(d.cell i 3).len≤32)∧(1≤(d.cell i 4).len∧(d.cell i 4).len≤32)∧¬ cmpC (d.cell i 4) (d.cell i 3)<0∧¬ (0<n∧0<i∧cmpC (d.cell i 3) (d.cell (i - 1) 4)≤0)):=by
 rw [al4 h0,avd (d.cell i 3) (d.cell i 4),avd (d.cell (i - 1) 4) (d.cell i 3)]
 show((decide (1≤(d.cell i 2).iv)&&decide (1≤(d.cell i 3).len)&&decide ((d.cell i 3).len≤32)&&decide (1≤(d.cell i 4).len)&&decide ((d.cell i 4).len≤32)&&decide (cmpC (d.cell i 3) (d.cell i 4)≤0)&&!(decide (0<n)&&decide (0<i)&&decide (0≤cmpC (d.cell (i - 1) 4) (d.cell i 3))))=true)=_
 rw [eq_iff_iff]
 simp only [Ba,Dt,Bool.not_eq_true',← Bool.not_eq_true]
 constructor
 ·rintro⟨⟨⟨⟨⟨⟨a,b⟩,c⟩,d⟩,e⟩,f⟩,g⟩
  refine⟨a,⟨b,c⟩,⟨d,e⟩,by omega,fun⟨x,y,z⟩=>g ⟨⟨x,y⟩,by omega⟩⟩
 ·rintro⟨a,⟨b,c⟩,⟨d,e⟩,f,g⟩
  exact⟨⟨⟨⟨⟨⟨a,b⟩,c⟩,d⟩,e⟩,by omega⟩,fun⟨⟨x,y⟩,z⟩=>g ⟨x,y,by omega⟩⟩
theorem all_true{f:Nat→Bool}{k n:Nat}(h:(List.range k).all f=true)(hn:n≤k):(List.range n).all f=true:=by
 rw [List.all_eq_true] at *
 exact fun j hj=>h j (List.mem_range.2 (by have:=List.mem_range.1 hj;omega))
def S57:Fsp:=⟨[(false,[sB])],[],[(false,[.bool])],[([],[[.ap (.usr 38) [.var 0]]])],true⟩
def byr:List VC:=[]
def btj:List (List X×List (List X)):=[([(.ap .le [(I 1),(.ap .len [(V 0)])]),(.ap (.typ (.sl [(.int .u8)])) [(V 0)])],[[(.ap .le [(.ap .len [(V 0)]),(I 32)])]]),
 ([(.ap .not [(.ap .le [(I 1),(.ap .len [(V 0)])])]),(.ap (.typ (.sl [(.int .u8)])) [(V 0)])],[[(.lit (.bool false))]])]
theorem byq:runS Try.prog (acr T0) 10 4 ⟨aa0 [],hintA []⟩ Try.f57 (aau Try.f57) S57=some (byr,btj):=by kernel_rfl
theorem c57:aah U Try.prog 57 S57:=by
 refine aah.of (P:=Try.prog) (U:=U) (T:=T0) (f:=57) (fn:=Try.f57) (fuel:=10) (fk:=4) (hs:=⟨aa0 [],hintA []⟩) (S:=S57) (v:=byr) (outs:=btj) mixed hT1' at57 byq (aa7 _) ?_
 intro o ho σ hU hh
 obtain⟨v⟩:=σ
 cases hU
 simp only [btj,Mn,List.not_mem_nil,or_false] at ho
 rcases ho with rfl | rfl
 all_goals
  refine⟨_,Ms ..,by simp only [aao,aax,aaw,aa2,aco,a8t,a8q,atv,w_wr,b_lt,b_le,b_eq,abk,aty,b_or,aa6,abr,af5,a8p,abn,atw,abf,ac3,w_mk,abt,aef,aeg,a8u,a8s,ai5,a8o,a8r,aav,ae0,a8n,w_l0,w_l1,aae,aaf,aay,aac,aad,aak,aaj,au3,ayr,ays,au2,a9g,a9f,ayt,afc],?_⟩
  simp only [aao,aax,aaw,aa2,aco,a8t,a8q,atv,w_wr,b_lt,b_le,b_eq,abk,aty,b_or,aa6,abr,af5,a8p,abn,atw,abf,ac3,w_mk,abt,aef,aeg,a8u,a8s,ai5,a8o,a8r,aav,ae0,a8n,w_l0,w_l1,aae,aaf,aay,aac,aad,aak,aaj,au3,ayr,ays,au2,a9g,a9f,ayt,afc] at hh
  simp only [List.map_cons,List.map_nil,aao,aax,aaw,aa2,aco,a8t,a8q,atv,w_wr,b_lt,b_le,b_eq,abk,aty,b_or,aa6,abr,af5,a8p,abn,atw,abf,ac3,w_mk,abt,aef,aeg,a8u,a8s,ai5,a8o,a8r,aav,ae0,a8n,w_l0,w_l1,aae,aaf,aay,aac,aad,aak,aaj,au3,ayr,ays,au2,a9g,a9f,ayt,afc,us38,w_le]
 ·obtain⟨h1,_⟩:=hh
  rw [decide_eq_true (show 1≤(v 0).len by omega),Bool.true_and]
  have e:decide ((v 0).len≤32)=decide (((v 0).len:Int)≤32):=decide_eq_decide.2 (by omega)
  rw [e]
  rfl
 ·obtain⟨h1,_⟩:=hh
  rw [decide_eq_false (show ¬ 1≤(v 0).len by omega),Bool.false_and]
  rfl
def T17:List (FuncId×Fsp):=[(57,S57)]
def bxh:Lp:=⟨[(.slot 3,.int .i64)],[0,2],[0],fun F H k=>[.ap .le [zI,.var k],.ap .le [.var k,.ap .len [.var 0]],.ap (.usr 23) [.var 0,.var k]],fun F H k=>.ap (.sub .i64) [.ap .len [.var 0],.var k]⟩
def bxi:Lp:=⟨[(.slot 4,.int .i64)],[0,2,3],[0],fun F H k=>[.ap .le [zI,.var k],.ap .le [.var k,.ap .len [.ap (.cell 0) [.var 0,sx F 3]]],.ap (.usr 24) [.var 0,sx F 3,.var k]],fun F H k=>.ap (.sub .i64) [.ap .len [.ap (.cell 0) [.var 0,sx F 3]],.var k]⟩
theorem hT17:ae1 U Try.prog T17:=.cons c57 .nil
abbrev agz:X:=(.ap (.cell 0) [(V 0),(V 1)])
abbrev bi8:X:=(.ap (.typ (.sl [(.sl [(.int .i64),(.int .i64),(.int .i64),(.sl [(.int .u8)]),(.sl [(.int .u8)])])])) [(V 0)])
abbrev bi9:X:=(.ap (.sbin .lss) [(.ap .str [(.ap (.cell 4) [agz,(V 2)])]),(.ap .str [(.ap (.cell 3) [agz,(V 2)])])])
abbrev bqc:X:=(.ap (.sbin .leq) [(.ap .str [(.ap (.cell 3) [agz,(V 2)])]),(.ap .str [(.ap (.cell 4) [agz,(.ap (.sub .i64) [(V 2),(I 1)])])])])
abbrev bcz:X:=(.ap (.usr 38) [(.ap (.cell 4) [agz,(V 2)])])
abbrev bja:X:=(.ap (.usr 24) [(V 0),(V 1),(.ap (.add .i64) [(V 2),(I 1)])])
abbrev a6x:List X:=[(.ap .le [(I 0),(V 1)]),(.ap .le [(V 1),(.ap .len [(V 0)])]),(.ap (.usr 23) [(V 0),(V 1)]),(.ap .not [(.ap .lt [(I 4),(.ap .len [(V 0)])])]),bi8]
abbrev az6:List X:=(.ap .le [(I 0),(V 2)])::(.ap .le [(V 2),(.ap .len [agz])])::(.ap (.usr 24) [(V 0),(V 1),(V 2)])::(.ap .lt [(V 1),(.ap .len [(V 0)])])::a6x
abbrev az7:List X:=(.ap (.usr 38) [(.ap (.cell 3) [agz,(V 2)])])::(.ap .not [(.ap .lt [(.ap (.cell 2) [agz,(V 2)]),(I 1)])])::(.ap .lt [(V 2),(.ap .len [agz])])::az6
abbrev a6y:List X:=(.ap .lt [(I 0),(V 1)])::(.ap .not [bi9])::bcz::az7
def bx6:List VC:=[([(.ap .not [(.ap .lt [(I 4),(.ap .len [(V 0)])])]),bi8],(.ap (.usr 23) [(V 0),(I 0)])),
 (((.ap .lt [(V 1),(.ap .len [(V 0)])])::a6x),(.ap (.usr 24) [(V 0),(V 1),(I 0)])),
 (((.ap .not [bqc])::(.ap .lt [(I 0),(V 2)])::a6y),bja),
 (((.ap .not [(.ap .lt [(I 0),(V 2)])])::a6y),bja),
 (((.ap .not [(.ap .lt [(I 0),(V 1)])])::(.ap .not [bi9])::bcz::az7),bja),
 (((.ap .not [(.ap .lt [(V 2),(.ap .len [agz])])])::az6),(.ap (.usr 23) [(V 0),(.ap (.add .i64) [(V 1),(I 1)])]))]
def bs6:List (List X×List (List X)):=[([(.ap .lt [(I 4),(.ap .len [(V 0)])]),bi8],[[(I 2)]]),
 (((.ap .lt [(.ap (.cell 2) [agz,(V 2)]),(I 1)])::(.ap .lt [(V 2),(.ap .len [agz])])::az6),[[(I 2)]]),
 (((.ap .not [(.ap (.usr 38) [(.ap (.cell 3) [agz,(V 2)])])])::(.ap .not [(.ap .lt [(.ap (.cell 2) [agz,(V 2)]),(I 1)])])::(.ap .lt [(V 2),(.ap .len [agz])])::az6),[[(I 2)]]),
 (((.ap .not [bcz])::az7),[[(I 2)]]),
 ((bi9::bcz::az7),[[(I 2)]]),
 ((bqc::(.ap .lt [(I 0),(V 2)])::a6y),[[(I 2)]]),
 (((.ap .not [(.ap .lt [(V 1),(.ap .len [(V 0)])])])::a6x),[[(I 0)]])]
theorem bx5:runS Try.prog (acr (tab T17)) 10 10 ⟨aa0 [(4,bxh),(7,bxi)],hintA []⟩ Try.f17 (aau Try.f17) S16=some (bx6,bs6):=by kernel_rfl
theorem c17:aah U Try.prog 17 S16:=by
 refine aah.of (P:=Try.prog) (U:=U) (T:=(tab T17)) (f:=17) (fn:=Try.f17) (fuel:=10) (fk:=10) (hs:=⟨aa0 [(4,bxh),(7,bxi)],hintA []⟩) (S:=S16) (v:=bx6) (outs:=bs6) mixed hT17 at17 bx5 ?_ ?_
 ·refine aai (fun v hh=>?_) (aai (fun v hh=>?_) (aai (fun v hh=>?_) (aai (fun v hh=>?_) (aai (fun v hh=>?_) (aai (fun v hh=>?_) (aa7 _))))))
  all_goals simp only [a6x,az6,az7,a6y,aao,aax,aaw,aa2,aco,a8t,a8q,atv,w_wr,b_lt,b_le,b_eq,abk,aty,b_or,aa6,abr,af5,a8p,abn,atw,abf,ac3,w_mk,abt,aef,aeg,a8u,a8s,ai5,a8o,a8r,aav,ae0,a8n,w_l0,w_l1,aae,aaf,aay,aac,aad,aak,aaj,au3,ayr,ays,au2,a9g,a9f,ayt,afc,us23,us24,us38,ayf,aln,Ba,Dt] at hh ⊢
  ·rfl
  ·rfl
  ·obtain⟨h1,h2,h3,h4,h5,h6,h7,h8,h9,h10,h11,_⟩:=hh
   rw [ab8 h9,h11,Bool.true_and,af0 h9]
   exact⟨by omega,h6,h5,h4,fun⟨_,_,h⟩=>h1 h⟩
  ·obtain⟨h2,h3,h4,h5,h6,h7,h8,h9,h10,h11,_⟩:=hh
   rw [ab8 h9,h11,Bool.true_and,af0 h9]
   exact⟨by omega,h6,h5,h4,fun⟨_,h,_⟩=>h2 h⟩
  ·obtain⟨h3,h4,h5,h6,h7,h8,h9,h10,h11,_⟩:=hh
   rw [ab8 h9,h11,Bool.true_and,af0 h9]
   exact⟨by omega,h6,h5,h4,fun⟨h,_,_⟩=>h3 (by omega)⟩
  ·obtain⟨h1,h2,h3,h4,h5,h6,h7,h8,h9,hT,_⟩:=hh
   have hl:=(hT.cell (j:=0) h6 h5 rfl).sl.1
   rw [ab8 h6,h8,Bool.true_and]
   have e:(v 0).cell ((v 1).iv.toNat:Nat) 0=(v 0).cell (v 1).iv 0:=by rw [Int.toNat_of_nonneg h6]
   unfold a95
   rw [e]
   exact all_true h4 (by omega)
 ·intro o ho σ hU hh
  obtain⟨v⟩:=σ
  cases hU
  simp only [bs6,Mn,List.not_mem_nil,or_false] at ho
  rcases ho with rfl | rfl | rfl | rfl | rfl | rfl | rfl
  all_goals
   refine⟨_,Ms ..,by simp only [aao,aax,aaw,aa2,aco,a8t,a8q,atv,w_wr,b_lt,b_le,b_eq,abk,aty,b_or,aa6,abr,af5,a8p,abn,atw,abf,ac3,w_mk,abt,aef,aeg,a8u,a8s,ai5,a8o,a8r,aav,ae0,a8n,w_l0,w_l1,aae,aaf,aay,aac,aad,aak,aaj,au3,ayr,ays,au2,a9g,a9f,ayt,afc],?_⟩
   simp only [a6x,az6,az7,a6y,aao,aax,aaw,aa2,aco,a8t,a8q,atv,w_wr,b_lt,b_le,b_eq,abk,aty,b_or,aa6,abr,af5,a8p,abn,atw,abf,ac3,w_mk,abt,aef,aeg,a8u,a8s,ai5,a8o,a8r,aav,ae0,a8n,w_l0,w_l1,aae,aaf,aay,aac,aad,aak,aaj,au3,ayr,ays,au2,a9g,a9f,ayt,afc,us23,us24,us38,ayf,aln,Ba,Dt] at hh
   simp only [List.map_cons,List.map_nil,aao,aax,aaw,aa2,aco,a8t,a8q,atv,w_wr,b_lt,b_le,b_eq,abk,aty,b_or,aa6,abr,af5,a8p,abn,atw,abf,ac3,w_mk,abt,aef,aeg,a8u,a8s,ai5,a8o,a8r,aav,ae0,a8n,w_l0,w_l1,aae,aaf,aay,aac,aad,aak,aaj,au3,ayr,ays,au2,a9g,a9f,ayt,afc,us22]
  ·obtain⟨h1,hT,_⟩:=hh
   rw [amo h1]
   rfl
  ·obtain⟨h7,h8,h9,h10,h11,h12,h13,h14,h15,h16,hT,_⟩:=hh
   rw [afj hT h13 h12 h9 h8 (by rw [← Bool.not_eq_true,af0 h9];rintro⟨a,_⟩;omega)]
   rfl
  ·obtain⟨h6,h7,h8,h9,h10,h11,h12,h13,h14,h15,h16,hT,_⟩:=hh
   rw [afj hT h13 h12 h9 h8 (by rw [← Bool.not_eq_true,af0 h9];rintro⟨a,b,_⟩;exact h6 b)]
   rfl
  ·obtain⟨h5,h6,h7,h8,h9,h10,h11,h12,h13,h14,h15,h16,hT,_⟩:=hh
   rw [afj hT h13 h12 h9 h8 (by rw [← Bool.not_eq_true,af0 h9];rintro⟨a,_,b,_⟩;exact h5 b)]
   rfl
  ·obtain⟨h4,h5,h6,h7,h8,h9,h10,h11,h12,h13,h14,h15,h16,hT,_⟩:=hh
   rw [afj hT h13 h12 h9 h8 (by rw [← Bool.not_eq_true,af0 h9];rintro⟨a,_,_,b,_⟩;exact b h4)]
   rfl
  ·obtain⟨h1,h2,h3,h4,h5,h6,h7,h8,h9,h10,h11,h12,h13,h14,h15,h16,hT,_⟩:=hh
   rw [afj hT h13 h12 h9 h8 (by rw [← Bool.not_eq_true,af0 h9];rintro⟨a,_,_,_,b⟩;exact b ⟨by omega,h2,h1⟩)]
   rfl
  ·obtain⟨h2,h3,h4,h5,h6,hT,_⟩:=hh
   have:aam (v 0)=true:=by
    unfold aam
    have hl:=hT.sl.1
    rw [Ba,Dt]
    exact⟨by omega,all_true h5 (by omega)⟩
   rw [this]
   rfl
abbrev sR:Srt:=.sl sRun
abbrev nilX:X:=.ap (.nil true) []
theorem adj(b:Bool):CD.v (.bool b)=aan b:=rfl
theorem ab4{a b:Bool}:(aan a=aan b)=(a=b):=by unfold aan;simp
theorem chkC{l:CD}:(eqC (vInt .i64 (if aam l=true then 0 else 2)) (vInt .i64 0)=true)=(aam l=true):=by
 cases aam l
 ·show(eqC (vInt .i64 2) (vInt .i64 0)=true)=(false=true)
  rfl
 ·show(eqC (vInt .i64 0) (vInt .i64 0)=true)=(true=true)
  rfl
theorem afk{l:CD}(h:aam l=true):(l.len:Int)≤4:=by
 unfold aam at h
 rw [Ba,Dt] at h
 omega
theorem aug(l:CD)(n:Int):levD l n=mkz (l.cell n 0).rows:=rfl
theorem ao1{l:CD}{n:Int}(hT:Typ sLev l)(h0:0≤n)(h:¬ n<l.len):levD l n=.sl true []:=by
 have hl:=hT.sl.1
 rw [aug]
 unfold CD.cell
 rw [show l.rows.getD n.toNat []=[] by rw [Gd,List.getElem?_eq_none (by omega)];rfl]
 rfl
theorem bb8{l:CD}{n:Int}(hT:Typ sLev l)(h0:0≤n):(levD l n).len=(l.cell n 0).len:=by
 by_cases h:n<l.len
 ·have hl:=(hT.cell (j:=0) h0 h rfl).sl
  rw [aug,hl.1]
  exact ai9 hl.2
 ·have hl:=hT.sl.1
  rw [ao1 hT h0 h]
  unfold CD.cell
  rw [show l.rows.getD n.toNat []=[] by rw [Gd,List.getElem?_eq_none (by omega)];rfl]
  rfl
theorem blo{l:CD}{n:Int}(hT:Typ sLev l)(h0:0≤n)(h:¬ n<l.len):(l.cell n 0).len=0:=by
 rw [← bb8 hT h0,ao1 hT h0 h]
 rfl
theorem a0w{l:CD}{i:Int}(h:¬ aa5 l 40=true)(hT:Typ sLev l)(h0:0≤i)(hi:i<l.len):((l.cell i 0).len:Int)≤40∧¬ aag (l.cell i 0) 40=true:=by
 have:=ax7 h hT.sl.1 h0 hi
 exact⟨a6g this,this⟩
theorem agr{l:CD}{i:Int}(h:¬ aa5 l 40=true)(hT:Typ sLev l)(h0:0≤i)(hi:i<l.len):((l.cell i 0).len:Int)≤40:=(a0w h hT h0 hi).1
theorem a0v{l:CD}{i:Int}(h:¬ aa5 l 40=true)(hT:Typ sLev l)(h0:0≤i)(hi:i<l.len):¬ aag (l.cell i 0) 40=true:=(a0w h hT h0 hi).2
def T47:List (FuncId×Fsp):=[(16,S16),(63,S63)]
def bvd:Fm→HP→List X:=fun F H=>[.ap .le [.ap .len [.var 0],I 4]]
def bve:Fm→HP→List X:=fun F H=>[.ap .le [.ap .len [.ap (.cell 0) [.var 0,sx F 13]],I 40],.ap .not [.ap (.usr 0) [.ap (.cell 0) [.var 0,sx F 13],I 40]]]
def S47:Fsp:=⟨[(false,[sLev])],[.ap .not [.ap (.usr 12) [.var 0,I 40]]],[(true,[sR,sR,sR,sR]),(false,[.bool])],[([.ap .eq [.ap (.usr 22) [.var 0],I 0]],[[.ap (.usr 27) [.var 0,I 0],.ap (.usr 27) [.var 0,I 1],.ap (.usr 27) [.var 0,I 2],.ap (.usr 27) [.var 0,I 3]],[.lit (.bool true)]]),([.ap .not [.ap .eq [.ap (.usr 22) [.var 0],I 0]]],[[nilX,nilX,nilX,nilX],[.lit (.bool false)]])],true⟩
theorem hT47:ae1 U Try.prog T47:=.cons c16 (.cons c63 .nil)
abbrev aed:X:=(.ap .len [(V 0)])
abbrev aiz:X:=(.ap (.cell 0) [(V 0),(I 0)])
abbrev afg:X:=(.ap (.nil true) [])
abbrev aj0:X:=(.ap (.cell 0) [(V 0),(I 1)])
abbrev alc:X:=(.ap (.cell 0) [(V 0),(I 2)])
abbrev amw:X:=(.ap (.cell 0) [(V 0),(I 3)])
abbrev atb:X:=(.ap .eq [(.ap (.usr 22) [(V 0)]),(I 0)])
abbrev as6:List X:=[(.ap .le [LoI,(.ap (.usr 22) [(V 0)])]),(.ap .le [(.ap (.usr 22) [(V 0)]),HiI]),(.ap (.typ (.sl [(.sl [(.int .i64),(.int .i64),(.int .i64),(.sl [(.int .u8)]),(.sl [(.int .u8)])])])) [(V 0)]),(.ap .not [(.ap (.usr 12) [(V 0),(I 40)])])]
abbrev axr:List X:=(.ap .lt [(I 0),aed])::(.ap .le [aed,(I 4)])::atb::as6
abbrev as7:List X:=(.ap (.typ (.sl [(.int .i64),(.int .i64),(.int .i64),(.sl [(.int .u8)]),(.sl [(.int .u8)])])) [(.ap (.usr 25) [aiz])])::(.ap .le [(.ap .len [aiz]),(I 40)])::(.ap .not [(.ap (.usr 0) [aiz,(I 40)])])::axr
abbrev as8:List X:=(.ap (.typ (.sl [(.int .i64),(.int .i64),(.int .i64),(.sl [(.int .u8)]),(.sl [(.int .u8)])])) [(.ap (.usr 25) [aj0])])::(.ap .le [(.ap .len [aj0]),(I 40)])::(.ap .not [(.ap (.usr 0) [aj0,(I 40)])])::(.ap .lt [(I 1),aed])::as7
abbrev ata:List X:=(.ap (.typ (.sl [(.int .i64),(.int .i64),(.int .i64),(.sl [(.int .u8)]),(.sl [(.int .u8)])])) [(.ap (.usr 25) [alc])])::(.ap .le [(.ap .len [alc]),(I 40)])::(.ap .not [(.ap (.usr 0) [alc,(I 40)])])::(.ap .lt [(I 2),aed])::as8
def btd:List VC:=[((atb::as6),(.ap .le [aed,(I 4)])),
 (axr,(.ap .le [(.ap .len [aiz]),(I 40)])),
 (axr,(.ap .not [(.ap (.usr 0) [aiz,(I 40)])])),
 (((.ap .lt [(I 1),aed])::as7),(.ap .le [(.ap .len [aj0]),(I 40)])),
 (((.ap .lt [(I 1),aed])::as7),(.ap .not [(.ap (.usr 0) [aj0,(I 40)])])),
 (((.ap .lt [(I 2),aed])::as8),(.ap .le [(.ap .len [alc]),(I 40)])),
 (((.ap .lt [(I 2),aed])::as8),(.ap .not [(.ap (.usr 0) [alc,(I 40)])])),
 (((.ap .lt [(I 3),aed])::ata),(.ap .le [(.ap .len [amw]),(I 40)])),
 (((.ap .lt [(I 3),aed])::ata),(.ap .not [(.ap (.usr 0) [amw,(I 40)])]))]
def btc:List (List X×List (List X)):=[(((.ap .not [atb])::as6),[[afg,afg,afg,afg],[(.lit (.bool false))]]),
 (((.ap (.typ (.sl [(.int .i64),(.int .i64),(.int .i64),(.sl [(.int .u8)]),(.sl [(.int .u8)])])) [(.ap (.usr 25) [amw])])::(.ap .le [(.ap .len [amw]),(I 40)])::(.ap .not [(.ap (.usr 0) [amw,(I 40)])])::(.ap .lt [(I 3),aed])::ata),[[(.ap (.usr 25) [aiz]),(.ap (.usr 25) [aj0]),(.ap (.usr 25) [alc]),(.ap (.usr 25) [amw])],[(.lit (.bool true))]]),
 (((.ap .not [(.ap .lt [(I 3),aed])])::ata),[[(.ap (.usr 25) [aiz]),(.ap (.usr 25) [aj0]),(.ap (.usr 25) [alc]),afg],[(.lit (.bool true))]]),
 (((.ap .not [(.ap .lt [(I 2),aed])])::as8),[[(.ap (.usr 25) [aiz]),(.ap (.usr 25) [aj0]),afg,afg],[(.lit (.bool true))]]),
 (((.ap .not [(.ap .lt [(I 1),aed])])::as7),[[(.ap (.usr 25) [aiz]),afg,afg,afg],[(.lit (.bool true))]]),
 (((.ap .not [(.ap .lt [(I 0),aed])])::(.ap .le [aed,(I 4)])::atb::as6),[[afg,afg,afg,afg],[(.lit (.bool true))]])]
theorem byi:runS Try.prog (acr (tab T47)) 10 10 ⟨aa0 [],hintA [(4,bvd),(7,bve)]⟩ Try.f47 (aau Try.f47) S47=some (btd,btc):=by kernel_rfl
set_option maxHeartbeats 4000000 in
theorem c47:aah U Try.prog 47 S47:=by
 refine aah.of (P:=Try.prog) (U:=U) (T:=(tab T47)) (f:=47) (fn:=Try.f47) (fuel:=10) (fk:=10) (hs:=⟨aa0 [],hintA [(4,bvd),(7,bve)]⟩) (S:=S47) (v:=btd) (outs:=btc) mixed hT47 at47 byi ?_ ?_
 ·unfold btd
  repeat' (first | exact aa7 _ | refine aai (fun v hh=>?_) ?_)
  all_goals
   simp only [wA,wB,aeg,afc,us0,us12,us22,us25,us27,chkC,aas,as6,aed,aiz,afg,aj0,alc,amw,atb,axr,as7,as8,ata] at hh ⊢
   repeat (obtain⟨_,hh⟩:=hh)
   try (first | grind [→ afk,ao1,aug,= aae] | (apply agr<;>first | assumption | grind) | (apply a0v<;>first | assumption | grind))
 ·intro o ho σ hU hh
  obtain⟨v⟩:=σ
  cases hU
  simp only [btc,Mn,List.not_mem_nil,or_false] at ho
  rcases ho with rfl | ho
  ·refine⟨_,Mc _ (Ms ..),?_,rfl⟩
   simp only [wA,wB,aeg,afc,as6,aed,aiz,afg,aj0,alc,amw,atb,axr,as7,as8,ata] at hh ⊢
   exact⟨hh.1,trivial⟩
  ·repeat' (first | (rcases ho with rfl | ho) | subst ho)
   all_goals
    refine⟨_,Ms ..,?_,?_⟩
    ·simp only [wA,wB,aeg,afc,us0,us12,us22,us25,us27,chkC,aas,as6,aed,aiz,afg,aj0,alc,amw,atb,axr,as7,as8,ata] at hh ⊢
     repeat (obtain⟨_,hh⟩:=hh)
     exact⟨by assumption,trivial⟩
    ·simp only [wA,wB,aeg,afc,us0,us12,us22,us25,us27,chkC,aas,as6,aed,aiz,afg,aj0,alc,amw,atb,axr,as7,as8,ata] at hh
     simp only [List.map_cons,List.map_nil,wA,wB,aeg,afc,us25,us27,aas]
     repeat (obtain⟨_,hh⟩:=hh)
     grind [ao1,aug]
end Go.Proofs.Ytlbbkmcegbeckaa
