/-
  Contracts of a seat's functions: which tables span keys. Conditions: none.
-/
import Derived.Test.YtlbbkmcegbeckaaSbJ
set_option linter.unusedSectionVars false
set_option linter.unusedVariables false
set_option linter.unusedSimpArgs false
namespace Go.Proofs.Ytlbbkmcegbeckaa
open Go.Sx Go.Proofs
def spQ(a b c d f t:CD)(n i:Int):List (List CD):=cqx f t [a.rows,b.rows,c.rows,d.rows] n.toNat i.toNat
theorem us33(a b c d f t n i:CD):@Us.u U 33 [a,b,c,d,f,t,n,i]=mkz (spQ a b c d f t n.iv i.iv):=rfl
theorem cl9(a b:CD):Lib.compareBytes (byts a) (byts b)=cmpC a b:=rfl
theorem len0{d:CD}:(eqC (vInt .i64 (d.len:Int)) (vInt .i64 0)=true)=(d.len=0):=by
 show(decide ((d.len:Int)=0)=true)=_
 rw [decide_eq_true_eq,eq_iff_iff]
 omega
def opt{α:Type}(b:Bool)(x:α):List α:=if b=true then [x] else []
theorem b9y{a:CD}{i:Int}{p:List CD→Bool}(hT:Typ (.sl sRun) a)(h0:0≤i)(h:i<a.len):(a.rows.take (i+1).toNat).filter p=(a.rows.take i.toNat).filter p++opt (p [a.cell i 0,a.cell i 1,a.cell i 2,a.cell i 3,a.cell i 4]) [a.cell i 0,a.cell i 1,a.cell i 2,a.cell i 3,a.cell i 4]:=by
 rw [cep hT h0 h,List.filter_append]
 congr 1
 cases hp:p [a.cell i 0,a.cell i 1,a.cell i 2,a.cell i 3,a.cell i 4]<;>simp [opt,hp]
theorem c4r{α:Type}{b:Bool}{x:α}(h:b=true):opt b x=[x]:=by rw [h];rfl
theorem c4q{α:Type}{b:Bool}{x:α}(h:¬ b=true):opt b x=[]:=by rw [Bool.not_eq_true] at h;rw [h];rfl
theorem cmr{f t x0 x1 x2 x3 x4:CD}:(cey f t [x0,x1,x2,x3,x4]=true)=(0≤cmpC x4 f∧(t.len=0∨cmpC x3 t<0)∧(t.len=0∨cmpC f t<0)):=by
 show((decide (0≤cmpC x4 f)&&(decide (t.len=0)||decide (cmpC x3 t<0))&&(decide (t.len=0)||decide (cmpC f t<0)))=true)=_
 simp only [Bool.and_eq_true,Bool.or_eq_true,decide_eq_true_eq,and_assoc]
section
variable {a b c d f t:CD} {i:Int}
theorem ddc:spQ a b c d f t 0 0=[]:=rfl
theorem ddb(hT:Typ (.sl sRun) a)(h0:0≤i)(h:i<a.len):spQ a b c d f t 0 (i+1)=spQ a b c d f t 0 i++opt (cey f t [a.cell i 0,a.cell i 1,a.cell i 2,a.cell i 3,a.cell i 4]) [a.cell i 0,a.cell i 1,a.cell i 2,a.cell i 3,a.cell i 4]:=by
 show []++List.filter _ (a.rows.take (i+1).toNat)=([]++List.filter _ (a.rows.take i.toNat))++_
 rw [b9y hT h0 h,List.append_assoc]
theorem dde(hT:Typ (.sl sRun) b)(h0:0≤i)(h:i<b.len):spQ a b c d f t 1 (i+1)=spQ a b c d f t 1 i++opt (cey f t [b.cell i 0,b.cell i 1,b.cell i 2,b.cell i 3,b.cell i 4]) [b.cell i 0,b.cell i 1,b.cell i 2,b.cell i 3,b.cell i 4]:=by
 show _++List.filter _ (b.rows.take (i+1).toNat)=(_++List.filter _ (b.rows.take i.toNat))++_
 rw [b9y hT h0 h,List.append_assoc]
theorem ddg(hT:Typ (.sl sRun) c)(h0:0≤i)(h:i<c.len):spQ a b c d f t 2 (i+1)=spQ a b c d f t 2 i++opt (cey f t [c.cell i 0,c.cell i 1,c.cell i 2,c.cell i 3,c.cell i 4]) [c.cell i 0,c.cell i 1,c.cell i 2,c.cell i 3,c.cell i 4]:=by
 show _++List.filter _ (c.rows.take (i+1).toNat)=(_++List.filter _ (c.rows.take i.toNat))++_
 rw [b9y hT h0 h,List.append_assoc]
theorem ddi(hT:Typ (.sl sRun) d)(h0:0≤i)(h:i<d.len):spQ a b c d f t 3 (i+1)=spQ a b c d f t 3 i++opt (cey f t [d.cell i 0,d.cell i 1,d.cell i 2,d.cell i 3,d.cell i 4]) [d.cell i 0,d.cell i 1,d.cell i 2,d.cell i 3,d.cell i 4]:=by
 show _++List.filter _ (d.rows.take (i+1).toNat)=(_++List.filter _ (d.rows.take i.toNat))++_
 rw [b9y hT h0 h,List.append_assoc]
theorem dda(hT:Typ (.sl sRun) a)(h:¬ i<a.len):spQ a b c d f t 0 i=spQ a b c d f t 1 0:=by
 show []++List.filter _ (a.rows.take i.toNat)=[a.rows].flatMap (b6c f t)++List.filter _ (b.rows.take 0)
 rw [b8e hT h]
 simp [b6c]
theorem ddd(hT:Typ (.sl sRun) b)(h:¬ i<b.len):spQ a b c d f t 1 i=spQ a b c d f t 2 0:=by
 show [a.rows].flatMap (b6c f t)++List.filter _ (b.rows.take i.toNat)=[a.rows,b.rows].flatMap (b6c f t)++List.filter _ (c.rows.take 0)
 rw [b8e hT h]
 simp [b6c]
theorem ddf(hT:Typ (.sl sRun) c)(h:¬ i<c.len):spQ a b c d f t 2 i=spQ a b c d f t 3 0:=by
 show [a.rows,b.rows].flatMap (b6c f t)++List.filter _ (c.rows.take i.toNat)=[a.rows,b.rows,c.rows].flatMap (b6c f t)++List.filter _ (d.rows.take 0)
 rw [b8e hT h]
 simp [b6c]
theorem ddh(hT:Typ (.sl sRun) d)(h:¬ i<d.len):spQ a b c d f t 3 i=[a.rows,b.rows,c.rows,d.rows].flatMap (b6c f t):=by
 show [a.rows,b.rows,c.rows].flatMap (b6c f t)++List.filter _ (d.rows.take i.toNat)=_
 rw [b8e hT h]
 simp [b6c]
end
theorem us35(l f t:CD):@Us.u U 35 [l,f,t]=b57 l f t:=rfl
noncomputable def litX(m:Int)(x:X):X:=match x with
 | .lit (.int _ n)=>I (m*n)
 | _=>I 0
noncomputable def dd9(l0 l1 l2 l3 fr to:X):Lp:=⟨[(.rcell 0 7 0,.own true sRun),(.slot 14,.int .i64)],[0,1,3,4,7,8,12,13],[12],fun F H k=>[.ap .le [zI,.var (k+2)],.ap .le [.var (k+2),.ap .len [sx F 12]],.ap .le [.var k,.ap (.add .i64) [litX 40 (sx F 8),.var (k+2)]],.ap .le [zI,.var k],.ap .same [.ap (.mk true) [.var (k+1)],.ap (.usr 33) [l0,l1,l2,l3,fr,to,sx F 8,.var (k+2)]]],fun F H k=>.ap (.sub .i64) [.ap .len [sx F 12],.var (k+2)]⟩
noncomputable abbrev lvX(n:Int):X:=.ap (.usr 27) [.var 0,I n]
noncomputable def c7w:List (FuncId×Inl):=[(55,⟨Try.f55,noH⟩),(99,⟨Try.f99,noH⟩),(130,⟨Try.f130,⟨b4p [(4,dd9 (lvX 0) (lvX 1) (lvX 2) (lvX 3) (.var 1) (.var 2))],hintA []⟩⟩)]
set_option maxRecDepth 100000 in
theorem dbj:cer U Try.prog c7w:=.cons ⟨at55,csg rfl (by kernel_rfl)⟩ (.cons (.of at99 (by kernel_rfl)) (.cons (.of ddy (by kernel_rfl)) .nil))
theorem dd3{l:List (List CD)}(h:l.length≤4)(g:List CD→List (List CD))(h0:g []=[]):[g (l.getD 0 []),g (l.getD 1 []),g (l.getD 2 []),g (l.getD 3 [])].flatten=(l.map g).flatten:=by
 match l,h with
 | [],_=>simp [h0]
 | [_],_=>simp [h0]
 | [_,_],_=>simp [h0]
 | [_,_,_],_=>simp [h0]
 | [_,_,_,_],_=>simp
 | _::_::_::_::_::_,h=>simp at h
theorem clp{l f t:CD}(hT:Typ sLev l)(h:b4c l=true):b57 l f t=mkz ([(levD l 0).rows,(levD l 1).rows,(levD l 2).rows,(levD l 3).rows].flatMap (b6c f t)):=by
 unfold b57
 rw [if_pos h]
 congr 1
 have hl:=b7w h
 have hl':=hT.sl.1
 have:=dd3 (l:=l.rows) (by omega) (fun r=>b6c f t (at' r 0).rows) rfl
 unfold cba
 rw [List.flatMap_map,List.flatMap_def,← this]
 rfl
theorem ciu{l f t:CD}(h:¬ b4c l=true):b57 l f t=.sl true []:=by
 unfold b57
 rw [if_neg h]
 rfl
theorem cy3{l:CD}{n:Int}(h:¬ b4a l 40=true)(hT:Typ sLev l)(h0:0≤n):((levD l n).len:Int)≤40:=by
 rw [cfx hT h0]
 by_cases hn:n<l.len
 ·exact b6x h hT h0 hn
 ·rw [cl6 hT h0 hn]
  omega
noncomputable def T15:List (FuncId×Fsp):=[(47,S47),(56,cbd 20)]
set_option maxRecDepth 100000 in
theorem hT15:b70 U Try.prog T15:=.cons c47 (.cons c56 .nil)
noncomputable def S15:Fsp:=⟨[(false,[sLev]),(false,[sB]),(false,[sB])],[.ap .not [.ap (.usr 12) [.var 0,I 40]]],[(false,[sR])],[([],[[.ap (.usr 35) [.var 0,.var 1,.var 2]]])],true⟩
noncomputable def as15:Fm→HP→List X:=fun F H=>[.ap .le [.ap .len [.ap (.usr 27) [.var 0,I 0]],I 40],.ap .le [.ap .len [.ap (.usr 27) [.var 0,I 1]],I 40],.ap .le [.ap .len [.ap (.usr 27) [.var 0,I 2]],I 40],.ap .le [.ap .len [.ap (.usr 27) [.var 0,I 3]],I 40]]
abbrev b5f:X:=(.ap (.usr 27) [(.var 0),(.lit (.int .i64 0))])
abbrev b5g:X:=(.ap (.usr 27) [(.var 0),(.lit (.int .i64 1))])
abbrev b5h:X:=(.ap (.usr 27) [(.var 0),(.lit (.int .i64 2))])
abbrev b5i:X:=(.ap (.usr 27) [(.var 0),(.lit (.int .i64 3))])
abbrev b9j:X:=(.ap (.usr 20) [(.ap (.cell 4) [b5h,(.var 11)]),(.var 1)])
abbrev b9k:X:=(.ap (.usr 20) [(.ap (.cell 4) [b5i,(.var 14)]),(.var 1)])
abbrev b9l:X:=(.ap (.usr 20) [(.ap (.cell 4) [b5f,(.var 5)]),(.var 1)])
abbrev b9m:X:=(.ap (.usr 20) [(.ap (.cell 4) [b5g,(.var 8)]),(.var 1)])
abbrev cbg:X:=(.ap (.usr 20) [(.var 1),(.var 2)])
abbrev ck5:X:=(.ap (.usr 33) [b5f,b5g,b5h,b5i,(.var 1),(.var 2),(.lit (.int .i64 2)),(.ap (.add .i64) [(.var 11),(.lit (.int .i64 1))])])
abbrev cdy:X:=(.ap (.usr 33) [b5f,b5g,b5h,b5i,(.var 1),(.var 2),(.lit (.int .i64 3)),(.ap (.add .i64) [(.var 14),(.lit (.int .i64 1))])])
abbrev cdz:X:=(.ap (.usr 33) [b5f,b5g,b5h,b5i,(.var 1),(.var 2),(.lit (.int .i64 0)),(.ap (.add .i64) [(.var 5),(.lit (.int .i64 1))])])
abbrev cd0:X:=(.ap (.usr 33) [b5f,b5g,b5h,b5i,(.var 1),(.var 2),(.lit (.int .i64 1)),(.ap (.add .i64) [(.var 8),(.lit (.int .i64 1))])])
abbrev b7g:X:=(.ap (.usr 20) [(.ap (.cell 3) [b5h,(.var 11)]),(.var 2)])
abbrev b7h:X:=(.ap (.usr 20) [(.ap (.cell 3) [b5i,(.var 14)]),(.var 2)])
abbrev b7i:X:=(.ap (.usr 20) [(.ap (.cell 3) [b5f,(.var 5)]),(.var 2)])
abbrev b7j:X:=(.ap (.usr 20) [(.ap (.cell 3) [b5g,(.var 8)]),(.var 2)])
abbrev b8m:X:=(.ap .eq [(.ap .len [(.var 2)]),(.lit (.int .i64 0))])
abbrev cd1:X:=(.ap (.typ (.sl [(.int .i64),(.int .i64),(.int .i64),(.sl [(.int .u8)]),(.sl [(.int .u8)])])) [(.ap (.nil true) [])])
abbrev cnl:X:=(.ap .same [(.ap (.mk true) [(.ap .cat [(.var 13),(.ap .snoc [(.ap (.nil false) []),(.ap (.cell 0) [b5i,(.var 14)]),(.ap (.cell 1) [b5i,(.var 14)]),(.ap (.cell 2) [b5i,(.var 14)]),(.ap (.cell 3) [b5i,(.var 14)]),(.ap (.cell 4) [b5i,(.var 14)])])])]),cdy])
abbrev cnm:X:=(.ap .same [(.ap (.mk true) [(.ap .cat [(.var 10),(.ap .snoc [(.ap (.nil false) []),(.ap (.cell 0) [b5h,(.var 11)]),(.ap (.cell 1) [b5h,(.var 11)]),(.ap (.cell 2) [b5h,(.var 11)]),(.ap (.cell 3) [b5h,(.var 11)]),(.ap (.cell 4) [b5h,(.var 11)])])])]),ck5])
abbrev cnn:X:=(.ap .same [(.ap (.mk true) [(.ap .cat [(.var 4),(.ap .snoc [(.ap (.nil false) []),(.ap (.cell 0) [b5f,(.var 5)]),(.ap (.cell 1) [b5f,(.var 5)]),(.ap (.cell 2) [b5f,(.var 5)]),(.ap (.cell 3) [b5f,(.var 5)]),(.ap (.cell 4) [b5f,(.var 5)])])])]),cdz])
abbrev cno:X:=(.ap .same [(.ap (.mk true) [(.ap .cat [(.var 7),(.ap .snoc [(.ap (.nil false) []),(.ap (.cell 0) [b5g,(.var 8)]),(.ap (.cell 1) [b5g,(.var 8)]),(.ap (.cell 2) [b5g,(.var 8)]),(.ap (.cell 3) [b5g,(.var 8)]),(.ap (.cell 4) [b5g,(.var 8)])])])]),cd0])
abbrev b8n:X:=(.ap .lt [cbg,(.lit (.int .i64 0))])
abbrev cd2:X:=(.ap .le [(.lit (.int .i64 (-9223372036854775808))),cbg])
abbrev cd3:X:=(.ap .le [(.lit (.int .i64 (-9223372036854775808))),b9l])
abbrev cd4:X:=(.ap .le [(.lit (.int .i64 (-9223372036854775808))),b9m])
abbrev cd5:X:=(.ap .le [(.lit (.int .i64 (-9223372036854775808))),b9j])
abbrev cd6:X:=(.ap .le [(.lit (.int .i64 (-9223372036854775808))),b9k])
abbrev cd7:X:=(.ap .le [cbg,(.lit (.int .i64 9223372036854775807))])
abbrev cd8:X:=(.ap .le [b9l,(.lit (.int .i64 9223372036854775807))])
abbrev cd9:X:=(.ap .le [b9m,(.lit (.int .i64 9223372036854775807))])
abbrev cea:X:=(.ap .le [b9j,(.lit (.int .i64 9223372036854775807))])
abbrev ceb:X:=(.ap .le [b9k,(.lit (.int .i64 9223372036854775807))])
abbrev cbs:X:=(.ap .lt [(.var 11),(.ap .len [b5h])])
abbrev cbt:X:=(.ap .lt [(.var 5),(.ap .len [b5f])])
abbrev cbu:X:=(.ap .lt [(.var 8),(.ap .len [b5g])])
abbrev cec:X:=(.ap .le [(.lit (.int .i64 (-1))),cbg])
abbrev ced:X:=(.ap .le [(.lit (.int .i64 (-1))),b9l])
abbrev cee:X:=(.ap .le [(.lit (.int .i64 (-1))),b9m])
abbrev ceg:X:=(.ap .le [(.lit (.int .i64 (-1))),b9j])
abbrev ceh:X:=(.ap .le [(.lit (.int .i64 (-1))),b9k])
abbrev cei:X:=(.ap .lt [(.var 14),(.ap .len [b5i])])
abbrev cux:List X:=[(.ap (.typ (.sl [(.sl [(.int .i64),(.int .i64),(.int .i64),(.sl [(.int .u8)]),(.sl [(.int .u8)])])])) [(.var 0)]),(.ap (.typ (.sl [(.int .u8)])) [(.var 1)]),(.ap (.typ (.sl [(.int .u8)])) [(.var 2)]),(.ap .not [(.ap (.usr 12) [(.var 0),(.lit (.int .i64 40))])])]
abbrev ch5:List X:=(.ap (.typ (.sl [(.int .i64),(.int .i64),(.int .i64),(.sl [(.int .u8)]),(.sl [(.int .u8)])])) [b5f])::(.ap (.typ (.sl [(.int .i64),(.int .i64),(.int .i64),(.sl [(.int .u8)]),(.sl [(.int .u8)])])) [b5g])::(.ap (.typ (.sl [(.int .i64),(.int .i64),(.int .i64),(.sl [(.int .u8)]),(.sl [(.int .u8)])])) [b5h])::(.ap (.typ (.sl [(.int .i64),(.int .i64),(.int .i64),(.sl [(.int .u8)]),(.sl [(.int .u8)])])) [b5i])::(.ap .eq [(.ap (.usr 22) [(.var 0)]),(.lit (.int .i64 0))])::cux
abbrev cuy:List X:=(.ap .le [(.ap .len [b5f]),(.lit (.int .i64 40))])::(.ap .le [(.ap .len [b5g]),(.lit (.int .i64 40))])::(.ap .le [(.ap .len [b5h]),(.lit (.int .i64 40))])::(.ap .le [(.ap .len [b5i]),(.lit (.int .i64 40))])::ch5
abbrev ch6:List X:=(.ap .le [(.lit (.int .i64 0)),(.var 5)])::(.ap .le [(.var 5),(.ap .len [b5f])])::(.ap .le [(.var 3),(.ap (.add .i64) [(.lit (.int .i64 0)),(.var 5)])])::(.ap .le [(.lit (.int .i64 0)),(.var 3)])::(.ap .same [(.ap (.mk true) [(.var 4)]),(.ap (.usr 33) [b5f,b5g,b5h,b5i,(.var 1),(.var 2),(.lit (.int .i64 0)),(.var 5)])])::cuy
abbrev cuz:List X:=(.ap .not [b8m])::(.ap .le [(.lit (.int .i64 0)),b9l])::cbt::ch6
abbrev cu0:List X:=cd2::cd7::cec::(.ap .le [cbg,(.lit (.int .i64 1))])::(.ap .le [(.lit (.int .i64 (-9223372036854775808))),b7i])::(.ap .le [b7i,(.lit (.int .i64 9223372036854775807))])::(.ap .le [(.lit (.int .i64 (-1))),b7i])::(.ap .le [b7i,(.lit (.int .i64 1))])::cd3::cd8::ced::(.ap .le [b9l,(.lit (.int .i64 1))])::(.ap .lt [b7i,(.lit (.int .i64 0))])::cuz
abbrev ch7:List X:=(.ap .le [(.lit (.int .i64 0)),(.var 8)])::(.ap .le [(.var 8),(.ap .len [b5g])])::(.ap .le [(.var 6),(.ap (.add .i64) [(.lit (.int .i64 40)),(.var 8)])])::(.ap .le [(.lit (.int .i64 0)),(.var 6)])::(.ap .same [(.ap (.mk true) [(.var 7)]),(.ap (.usr 33) [b5f,b5g,b5h,b5i,(.var 1),(.var 2),(.lit (.int .i64 1)),(.var 8)])])::(.ap .not [cbt])::ch6
abbrev cu1:List X:=(.ap .not [b8m])::(.ap .le [(.lit (.int .i64 0)),b9m])::cbu::ch7
abbrev cu2:List X:=cd2::cd7::cec::(.ap .le [cbg,(.lit (.int .i64 1))])::(.ap .le [(.lit (.int .i64 (-9223372036854775808))),b7j])::(.ap .le [b7j,(.lit (.int .i64 9223372036854775807))])::(.ap .le [(.lit (.int .i64 (-1))),b7j])::(.ap .le [b7j,(.lit (.int .i64 1))])::cd4::cd9::cee::(.ap .le [b9m,(.lit (.int .i64 1))])::(.ap .lt [b7j,(.lit (.int .i64 0))])::cu1
abbrev ch8:List X:=(.ap .le [(.lit (.int .i64 0)),(.var 11)])::(.ap .le [(.var 11),(.ap .len [b5h])])::(.ap .le [(.var 9),(.ap (.add .i64) [(.lit (.int .i64 80)),(.var 11)])])::(.ap .le [(.lit (.int .i64 0)),(.var 9)])::(.ap .same [(.ap (.mk true) [(.var 10)]),(.ap (.usr 33) [b5f,b5g,b5h,b5i,(.var 1),(.var 2),(.lit (.int .i64 2)),(.var 11)])])::(.ap .not [cbu])::ch7
abbrev cnh:List X:=(.ap .not [b8m])::(.ap .le [(.lit (.int .i64 0)),b9j])::cbs::ch8
abbrev cni:List X:=cd2::cd7::cec::(.ap .le [cbg,(.lit (.int .i64 1))])::(.ap .le [(.lit (.int .i64 (-9223372036854775808))),b7g])::(.ap .le [b7g,(.lit (.int .i64 9223372036854775807))])::(.ap .le [(.lit (.int .i64 (-1))),b7g])::(.ap .le [b7g,(.lit (.int .i64 1))])::cd5::cea::ceg::(.ap .le [b9j,(.lit (.int .i64 1))])::(.ap .lt [b7g,(.lit (.int .i64 0))])::cnh
abbrev cdx:List X:=(.ap .le [(.lit (.int .i64 0)),(.var 14)])::(.ap .le [(.var 14),(.ap .len [b5i])])::(.ap .le [(.var 12),(.ap (.add .i64) [(.lit (.int .i64 120)),(.var 14)])])::(.ap .le [(.lit (.int .i64 0)),(.var 12)])::(.ap .same [(.ap (.mk true) [(.var 13)]),(.ap (.usr 33) [b5f,b5g,b5h,b5i,(.var 1),(.var 2),(.lit (.int .i64 3)),(.var 14)])])::(.ap .not [cbs])::ch8
abbrev cnj:List X:=(.ap .not [b8m])::(.ap .le [(.lit (.int .i64 0)),b9k])::cei::cdx
abbrev cnk:List X:=cd2::cd7::cec::(.ap .le [cbg,(.lit (.int .i64 1))])::(.ap .le [(.lit (.int .i64 (-9223372036854775808))),b7h])::(.ap .le [b7h,(.lit (.int .i64 9223372036854775807))])::(.ap .le [(.lit (.int .i64 (-1))),b7h])::(.ap .le [b7h,(.lit (.int .i64 1))])::cd6::ceb::ceh::(.ap .le [b9k,(.lit (.int .i64 1))])::(.ap .lt [b7h,(.lit (.int .i64 0))])::cnj
set_option maxRecDepth 100000 in
def c83:List VC:=[(ch5,(.ap .le [(.ap .len [b5f]),(.lit (.int .i64 40))])),
 (ch5,(.ap .le [(.ap .len [b5g]),(.lit (.int .i64 40))])),
 (ch5,(.ap .le [(.ap .len [b5h]),(.lit (.int .i64 40))])),
 (ch5,(.ap .le [(.ap .len [b5i]),(.lit (.int .i64 40))])),
 (cuy,(.ap .same [(.ap (.mk true) [(.ap (.nil true) [])]),(.ap (.usr 33) [b5f,b5g,b5h,b5i,(.var 1),(.var 2),(.lit (.int .i64 0)),(.lit (.int .i64 0))])])),
 ((cd3::cd8::ced::(.ap .le [b9l,(.lit (.int .i64 1))])::b8m::(.ap .le [(.lit (.int .i64 0)),b9l])::cbt::ch6),cnn),
 ((b8n::cu0),cnn),
 (((.ap .not [b8n])::cu0),(.ap .same [(.ap (.mk true) [(.var 4)]),cdz])),
 (((.ap .le [(.lit (.int .i64 (-9223372036854775808))),b7i])::(.ap .le [b7i,(.lit (.int .i64 9223372036854775807))])::(.ap .le [(.lit (.int .i64 (-1))),b7i])::(.ap .le [b7i,(.lit (.int .i64 1))])::cd3::cd8::ced::(.ap .le [b9l,(.lit (.int .i64 1))])::(.ap .not [(.ap .lt [b7i,(.lit (.int .i64 0))])])::cuz),(.ap .same [(.ap (.mk true) [(.var 4)]),cdz])),
 ((cd3::cd8::ced::(.ap .le [b9l,(.lit (.int .i64 1))])::(.ap .not [(.ap .le [(.lit (.int .i64 0)),b9l])])::cbt::ch6),(.ap .same [(.ap (.mk true) [(.var 4)]),cdz])),
 (((.ap .not [cbt])::ch6),(.ap .same [(.ap (.mk true) [(.var 4)]),(.ap (.usr 33) [b5f,b5g,b5h,b5i,(.var 1),(.var 2),(.lit (.int .i64 1)),(.lit (.int .i64 0))])])),
 ((cd4::cd9::cee::(.ap .le [b9m,(.lit (.int .i64 1))])::b8m::(.ap .le [(.lit (.int .i64 0)),b9m])::cbu::ch7),cno),
 ((b8n::cu2),cno),
 (((.ap .not [b8n])::cu2),(.ap .same [(.ap (.mk true) [(.var 7)]),cd0])),
 (((.ap .le [(.lit (.int .i64 (-9223372036854775808))),b7j])::(.ap .le [b7j,(.lit (.int .i64 9223372036854775807))])::(.ap .le [(.lit (.int .i64 (-1))),b7j])::(.ap .le [b7j,(.lit (.int .i64 1))])::cd4::cd9::cee::(.ap .le [b9m,(.lit (.int .i64 1))])::(.ap .not [(.ap .lt [b7j,(.lit (.int .i64 0))])])::cu1),(.ap .same [(.ap (.mk true) [(.var 7)]),cd0])),
 ((cd4::cd9::cee::(.ap .le [b9m,(.lit (.int .i64 1))])::(.ap .not [(.ap .le [(.lit (.int .i64 0)),b9m])])::cbu::ch7),(.ap .same [(.ap (.mk true) [(.var 7)]),cd0])),
 (((.ap .not [cbu])::ch7),(.ap .same [(.ap (.mk true) [(.var 7)]),(.ap (.usr 33) [b5f,b5g,b5h,b5i,(.var 1),(.var 2),(.lit (.int .i64 2)),(.lit (.int .i64 0))])])),
 ((cd5::cea::ceg::(.ap .le [b9j,(.lit (.int .i64 1))])::b8m::(.ap .le [(.lit (.int .i64 0)),b9j])::cbs::ch8),cnm),
 ((b8n::cni),cnm),
 (((.ap .not [b8n])::cni),(.ap .same [(.ap (.mk true) [(.var 10)]),ck5])),
 (((.ap .le [(.lit (.int .i64 (-9223372036854775808))),b7g])::(.ap .le [b7g,(.lit (.int .i64 9223372036854775807))])::(.ap .le [(.lit (.int .i64 (-1))),b7g])::(.ap .le [b7g,(.lit (.int .i64 1))])::cd5::cea::ceg::(.ap .le [b9j,(.lit (.int .i64 1))])::(.ap .not [(.ap .lt [b7g,(.lit (.int .i64 0))])])::cnh),(.ap .same [(.ap (.mk true) [(.var 10)]),ck5])),
 ((cd5::cea::ceg::(.ap .le [b9j,(.lit (.int .i64 1))])::(.ap .not [(.ap .le [(.lit (.int .i64 0)),b9j])])::cbs::ch8),(.ap .same [(.ap (.mk true) [(.var 10)]),ck5])),
 (((.ap .not [cbs])::ch8),(.ap .same [(.ap (.mk true) [(.var 10)]),(.ap (.usr 33) [b5f,b5g,b5h,b5i,(.var 1),(.var 2),(.lit (.int .i64 3)),(.lit (.int .i64 0))])])),
 ((cd6::ceb::ceh::(.ap .le [b9k,(.lit (.int .i64 1))])::b8m::(.ap .le [(.lit (.int .i64 0)),b9k])::cei::cdx),cnl),
 ((b8n::cnk),cnl),
 (((.ap .not [b8n])::cnk),(.ap .same [(.ap (.mk true) [(.var 13)]),cdy])),
 (((.ap .le [(.lit (.int .i64 (-9223372036854775808))),b7h])::(.ap .le [b7h,(.lit (.int .i64 9223372036854775807))])::(.ap .le [(.lit (.int .i64 (-1))),b7h])::(.ap .le [b7h,(.lit (.int .i64 1))])::cd6::ceb::ceh::(.ap .le [b9k,(.lit (.int .i64 1))])::(.ap .not [(.ap .lt [b7h,(.lit (.int .i64 0))])])::cnj),(.ap .same [(.ap (.mk true) [(.var 13)]),cdy])),
 ((cd6::ceb::ceh::(.ap .le [b9k,(.lit (.int .i64 1))])::(.ap .not [(.ap .le [(.lit (.int .i64 0)),b9k])])::cei::cdx),(.ap .same [(.ap (.mk true) [(.var 13)]),cdy]))]
set_option maxRecDepth 100000 in
def c82:List (List X×List (List X)):=[(((.ap .not [cei])::cdx),[[(.ap (.mk true) [(.var 13)])]]),
 ((cd1::cd1::cd1::cd1::(.ap .not [(.ap .eq [(.ap (.usr 22) [(.var 0)]),(.lit (.int .i64 0))])])::cux),[[(.ap (.nil true) [])]])]
set_option maxRecDepth 100000 in
theorem dcb:runV Try.prog (cxOf Try.prog (b6d (tab T15)) 10 14 ⟨cmz c7w,noY,U.lc⟩ 4 15) ⟨b4p [],hintA [(4,as15)]⟩ Try.f15 (b4b Try.f15) S15=some (c83,c82):=by kernel_rfl
set_option maxHeartbeats 4000000 in
set_option maxRecDepth 100000 in
theorem c15:b3m U Try.prog 15 S15:=by
 refine b3m.ofV (P:=Try.prog) (U:=U) (T:=(tab T15)) (l:=c7w) (y:=noY) (dp:=4) (f:=15) (fn:=Try.f15) (fuel:=10) (fk:=14) (hs:=⟨b4p [],hintA [(4,as15)]⟩) (S:=S15) (v:=c83) (outs:=c82) mixed hT15 dbj at15 (b8j (by kernel_rfl)) dcb ?_ ?_
 ·unfold c83
  repeat' (first | exact b44 _ | refine b3r (fun v hh=>?_) ?_)
  all_goals
   simp only [b3o,b3t,b3s,b3z,b4d,b_lt,b_le,b_eq,b3w,b3y,b3p,b30,b3k,b35,w_mk,b3l,b4e,b3v,w_l0,w_l1,b3e,b3d,b3u,b3b,b3c,b3g,b3f,us33,us35,us12,us22,us27,us20,chkC,cl9,len0,b5y,b63,ccp,b73,List.nil_append,cux,b5f,b5g,b5h,b5i,b9j,b9k,b9l,b9m,cbg,ck5,cdy,cdz,cd0,b7g,b7h,b7i,b7j,b8m,cd1,cnl,cnm,cnn,cno,b8n,cd2,cd3,cd4,cd5,cd6,cd7,cd8,cd9,cea,ceb,cbs,cbt,cbu,cec,ced,cee,ceg,ceh,cei,ch5,cuy,ch6,cuz,cu0,ch7,cu1,cu2,ch8,cnh,cni,cdx,cnj,cnk] at hh ⊢
   repeat (obtain⟨_,hh⟩:=hh)
   try (first | grind [ddc,ddb,dde,ddg,ddi,dda,ddd,ddf,ddh,c4r,c4q,cmr,clp,ciu,= b3e] | (apply cy3<;>first | assumption | grind))
 ·intro o ho σ hU hh
  obtain⟨v⟩:=σ
  cases hU
  simp only [c82,List.mem_cons,List.not_mem_nil,or_false] at ho
  repeat' (first | (rcases ho with rfl | ho) | subst ho)
  all_goals
   refine⟨_,List.mem_cons_self ..,by simp only [b3o,b3t,b3s,b3z,b4d,b_lt,b_le,b_eq,b3w,b3y,b3p,b30,b3k,b35,w_mk,b3l,b4e,b3v,w_l0,w_l1,b3e,b3d,b3u,b3b,b3c,b3g,b3f],?_⟩
   simp only [b3o,b3t,b3s,b3z,b4d,b_lt,b_le,b_eq,b3w,b3y,b3p,b30,b3k,b35,w_mk,b3l,b4e,b3v,w_l0,w_l1,b3e,b3d,b3u,b3b,b3c,b3g,b3f,us33,us35,us12,us22,us27,us20,chkC,cl9,len0,b5y,b63,ccp,b73,List.nil_append,cux,b5f,b5g,b5h,b5i,b9j,b9k,b9l,b9m,cbg,ck5,cdy,cdz,cd0,b7g,b7h,b7i,b7j,b8m,cd1,cnl,cnm,cnn,cno,b8n,cd2,cd3,cd4,cd5,cd6,cd7,cd8,cd9,cea,ceb,cbs,cbt,cbu,cec,ced,cee,ceg,ceh,cei,ch5,cuy,ch6,cuz,cu0,ch7,cu1,cu2,ch8,cnh,cni,cdx,cnj,cnk] at hh
   simp only [List.map_cons,List.map_nil,b3o,b3t,b3s,b3z,b4d,b_lt,b_le,b_eq,b3w,b3y,b3p,b30,b3k,b35,w_mk,b3l,b4e,b3v,w_l0,w_l1,b3e,b3d,b3u,b3b,b3c,b3g,b3f,w_lt,w_le,w_eq,cs7,c1x,crg,us33,us35,us12,us22,us27,us20,chkC,cl9,len0,b5y,b63,ccp,b73,List.nil_append]
   repeat (obtain⟨_,hh⟩:=hh)
   try (first | grind [ddc,ddb,dde,ddg,ddi,dda,ddd,ddf,ddh,c4r,c4q,cmr,clp,ciu,= b3e] | (apply cy3<;>first | assumption | grind))
end Go.Proofs.Ytlbbkmcegbeckaa
