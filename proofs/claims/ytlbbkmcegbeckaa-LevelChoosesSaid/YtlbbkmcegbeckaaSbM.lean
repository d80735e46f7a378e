/-
  Contracts of a seat's functions: a table more, as the document says. Conditions: none.
-/
import Derived.Test.YtlbbkmcegbeckaaSbJ
import Derived.Test.YtlbbkmcegbeckaaSbA
set_option linter.all false
set_option maxRecDepth 100000
noncomputable section
namespace Go.Proofs.Ytlbbkmcegbeckaa
open Go.Sx Go.Proofs
def spQ(a b c d f t:CD)(n i:Int):List (List CD):=bua f t [a.rows,b.rows,c.rows,d.rows] n.toNat i.toNat
theorem us33(a b c d f t n i:CD):@Us.u U 33 [a,b,c,d,f,t,n,i]=mkz (spQ a b c d f t n.iv i.iv):=rfl
theorem abu(a b:CD):Lib.compareBytes (byts a) (byts b)=cmpC a b:=rfl
theorem len0{d:CD}:(eqC (vInt .i64 (d.len:Int)) (vInt .i64 0)=true)=(d.len=0):=by
 show(decide ((d.len:Int)=0)=true)=_
 rw [Dt,eq_iff_iff]
 omega
def opt{α:Type}(b:Bool)(x:α):List α:=if b=true then [x] else []
theorem ad7{a:CD}{i:Int}{p:List CD→Bool}(hT:Typ (.sl sRun) a)(h0:0≤i)(h:i<a.len):(a.rows.take (i+1).toNat).filter p=(a.rows.take i.toNat).filter p++opt (p [a.cell i 0,a.cell i 1,a.cell i 2,a.cell i 3,a.cell i 4]) [a.cell i 0,a.cell i 1,a.cell i 2,a.cell i 3,a.cell i 4]:=by
 rw [adx hT h0 h,List.filter_append]
 congr 1
 cases hp:p [a.cell i 0,a.cell i 1,a.cell i 2,a.cell i 3,a.cell i 4]<;>simp [opt,hp]
theorem beu{α:Type}{b:Bool}{x:α}(h:b=true):opt b x=[x]:=by rw [h];rfl
theorem bet{α:Type}{b:Bool}{x:α}(h:¬ b=true):opt b x=[]:=by rw [Bool.not_eq_true] at h;rw [h];rfl
theorem bg0{f t x0 x1 x2 x3 x4:CD}:(azs f t [x0,x1,x2,x3,x4]=true)=(0≤cmpC x4 f∧(t.len=0∨cmpC x3 t<0)∧(t.len=0∨cmpC f t<0)):=by
 show((decide (0≤cmpC x4 f)&&(decide (t.len=0)||decide (cmpC x3 t<0))&&(decide (t.len=0)||decide (cmpC f t<0)))=true)=_
 simp only [Ba,Bool.or_eq_true,Dt,and_assoc]
section
variable {a b c d f t:CD} {i:Int}
theorem bzl:spQ a b c d f t 0 0=[]:=rfl
theorem bzk(hT:Typ (.sl sRun) a)(h0:0≤i)(h:i<a.len):spQ a b c d f t 0 (i+1)=spQ a b c d f t 0 i++opt (azs f t [a.cell i 0,a.cell i 1,a.cell i 2,a.cell i 3,a.cell i 4]) [a.cell i 0,a.cell i 1,a.cell i 2,a.cell i 3,a.cell i 4]:=by
 show []++List.filter _ (a.rows.take (i+1).toNat)=([]++List.filter _ (a.rows.take i.toNat))++_
 rw [ad7 hT h0 h,List.append_assoc]
theorem bzn(hT:Typ (.sl sRun) b)(h0:0≤i)(h:i<b.len):spQ a b c d f t 1 (i+1)=spQ a b c d f t 1 i++opt (azs f t [b.cell i 0,b.cell i 1,b.cell i 2,b.cell i 3,b.cell i 4]) [b.cell i 0,b.cell i 1,b.cell i 2,b.cell i 3,b.cell i 4]:=by
 show _++List.filter _ (b.rows.take (i+1).toNat)=(_++List.filter _ (b.rows.take i.toNat))++_
 rw [ad7 hT h0 h,List.append_assoc]
theorem bzp(hT:Typ (.sl sRun) c)(h0:0≤i)(h:i<c.len):spQ a b c d f t 2 (i+1)=spQ a b c d f t 2 i++opt (azs f t [c.cell i 0,c.cell i 1,c.cell i 2,c.cell i 3,c.cell i 4]) [c.cell i 0,c.cell i 1,c.cell i 2,c.cell i 3,c.cell i 4]:=by
 show _++List.filter _ (c.rows.take (i+1).toNat)=(_++List.filter _ (c.rows.take i.toNat))++_
 rw [ad7 hT h0 h,List.append_assoc]
theorem bzr(hT:Typ (.sl sRun) d)(h0:0≤i)(h:i<d.len):spQ a b c d f t 3 (i+1)=spQ a b c d f t 3 i++opt (azs f t [d.cell i 0,d.cell i 1,d.cell i 2,d.cell i 3,d.cell i 4]) [d.cell i 0,d.cell i 1,d.cell i 2,d.cell i 3,d.cell i 4]:=by
 show _++List.filter _ (d.rows.take (i+1).toNat)=(_++List.filter _ (d.rows.take i.toNat))++_
 rw [ad7 hT h0 h,List.append_assoc]
theorem bzj(hT:Typ (.sl sRun) a)(h:¬ i<a.len):spQ a b c d f t 0 i=spQ a b c d f t 1 0:=by
 show []++List.filter _ (a.rows.take i.toNat)=[a.rows].flatMap (alm f t)++List.filter _ (b.rows.take 0)
 rw [abh hT h]
 simp [alm]
theorem bzm(hT:Typ (.sl sRun) b)(h:¬ i<b.len):spQ a b c d f t 1 i=spQ a b c d f t 2 0:=by
 show [a.rows].flatMap (alm f t)++List.filter _ (b.rows.take i.toNat)=[a.rows,b.rows].flatMap (alm f t)++List.filter _ (c.rows.take 0)
 rw [abh hT h]
 simp [alm]
theorem bzo(hT:Typ (.sl sRun) c)(h:¬ i<c.len):spQ a b c d f t 2 i=spQ a b c d f t 3 0:=by
 show [a.rows,b.rows].flatMap (alm f t)++List.filter _ (c.rows.take i.toNat)=[a.rows,b.rows,c.rows].flatMap (alm f t)++List.filter _ (d.rows.take 0)
 rw [abh hT h]
 simp [alm]
theorem bzq(hT:Typ (.sl sRun) d)(h:¬ i<d.len):spQ a b c d f t 3 i=[a.rows,b.rows,c.rows,d.rows].flatMap (alm f t):=by
 show [a.rows,b.rows,c.rows].flatMap (alm f t)++List.filter _ (d.rows.take i.toNat)=_
 rw [abh hT h]
 simp [alm]
end
theorem us35(l f t:CD):@Us.u U 35 [l,f,t]=a0y l f t:=rfl
def litX(m:Int)(x:X):X:=match x with
 | .lit (.int _ n)=>I (m*n)
 | _=>I 0
def b05(l0 l1 l2 l3 fr to:X):Lp:=⟨[(.rcell 0 7 0,.own true sRun),(.slot 14,.int .i64)],[0,1,3,4,7,8,12,13],[12],fun F H k=>[.ap .le [zI,.var (k+2)],.ap .le [.var (k+2),.ap .len [sx F 12]],.ap .le [.var k,.ap (.add .i64) [litX 40 (sx F 8),.var (k+2)]],.ap .le [zI,.var k],.ap .same [.ap (.mk true) [.var (k+1)],.ap (.usr 33) [l0,l1,l2,l3,fr,to,sx F 8,.var (k+2)]]],fun F H k=>.ap (.sub .i64) [.ap .len [sx F 12],.var (k+2)]⟩
abbrev lvX(n:Int):X:=.ap (.usr 27) [.var 0,I n]
def bry:List (FuncId×Inl):=[(55,⟨Try.f55,noH⟩),(99,⟨Try.f99,noH⟩),(130,⟨Try.f130,⟨aa0 [(4,b05 (lvX 0) (lvX 1) (lvX 2) (lvX 3) (.var 1) (.var 2))],hintA []⟩⟩)]
theorem bwl:ajx U Try.prog bry:=.cons ⟨at55,ag9 rfl (by kernel_rfl)⟩ (.cons (.of at99 (by kernel_rfl)) (.cons (.of bq5 (by kernel_rfl)) .nil))
theorem b0s{l:List (List CD)}(h:l.length≤4)(g:List CD→List (List CD))(h0:g []=[]):[g (l.getD 0 []),g (l.getD 1 []),g (l.getD 2 []),g (l.getD 3 [])].flatten=(l.map g).flatten:=by
 match l,h with
 | [],_=>simp [h0]
 | [_],_=>simp [h0]
 | [_,_],_=>simp [h0]
 | [_,_,_],_=>simp [h0]
 | [_,_,_,_],_=>simp
 | _::_::_::_::_::_,h=>simp at h
theorem a0z{l f t:CD}(hT:Typ sLev l)(h:aam l=true):a0y l f t=mkz ([(levD l 0).rows,(levD l 1).rows,(levD l 2).rows,(levD l 3).rows].flatMap (alm f t)):=by
 unfold a0y
 rw [if_pos h]
 congr 1
 have hl:=afk h
 have hl':=hT.sl.1
 have:=b0s (l:=l.rows) (by omega) (fun r=>alm f t (at' r 0).rows) rfl
 unfold br9
 rw [List.flatMap_map,List.flatMap_def,← this]
 rfl
theorem a7z{l f t:CD}(h:¬ aam l=true):a0y l f t=.sl true []:=by
 unfold a0y
 rw [if_neg h]
 rfl
theorem ajc{l:CD}{n:Int}(h:¬ aa5 l 40=true)(hT:Typ sLev l)(h0:0≤n):((levD l n).len:Int)≤40:=by
 rw [bb8 hT h0]
 by_cases hn:n<l.len
 ·exact agr h hT h0 hn
 ·rw [blo hT h0 hn]
  omega
def T15:List (FuncId×Fsp):=[(47,S47),(56,aml 20)]
theorem hT15:ae1 U Try.prog T15:=.cons c47 (.cons c56 .nil)
def S15:Fsp:=⟨[(false,[sLev]),(false,[sB]),(false,[sB])],[.ap .not [.ap (.usr 12) [.var 0,I 40]]],[(false,[sR])],[([],[[.ap (.usr 35) [.var 0,.var 1,.var 2]]])],true⟩
def as15:Fm→HP→List X:=fun F H=>[.ap .le [.ap .len [.ap (.usr 27) [.var 0,I 0]],I 40],.ap .le [.ap .len [.ap (.usr 27) [.var 0,I 1]],I 40],.ap .le [.ap .len [.ap (.usr 27) [.var 0,I 2]],I 40],.ap .le [.ap .len [.ap (.usr 27) [.var 0,I 3]],I 40]]
abbrev ac4:X:=(.ap (.usr 27) [(V 0),(I 0)])
abbrev ac5:X:=(.ap (.usr 27) [(V 0),(I 1)])
abbrev ac6:X:=(.ap (.usr 27) [(V 0),(I 2)])
abbrev acn:X:=(.ap (.usr 27) [(V 0),(I 3)])
abbrev ad9:X:=(.ap (.usr 20) [(.ap (.cell 4) [ac6,(V 11)]),(V 1)])
abbrev aea:X:=(.ap (.usr 20) [(.ap (.cell 4) [acn,(V 14)]),(V 1)])
abbrev aeb:X:=(.ap (.usr 20) [(.ap (.cell 4) [ac4,(V 5)]),(V 1)])
abbrev aec:X:=(.ap (.usr 20) [(.ap (.cell 4) [ac5,(V 8)]),(V 1)])
abbrev ae6:X:=(.ap (.usr 20) [(V 1),(V 2)])
abbrev ajz:X:=(.ap (.usr 20) [(.ap (.cell 3) [ac6,(V 11)]),(V 2)])
abbrev af8:X:=(.ap (.usr 20) [(.ap (.cell 3) [acn,(V 14)]),(V 2)])
abbrev af9:X:=(.ap (.usr 20) [(.ap (.cell 3) [ac4,(V 5)]),(V 2)])
abbrev aga:X:=(.ap (.usr 20) [(.ap (.cell 3) [ac5,(V 8)]),(V 2)])
abbrev aqi:X:=(.ap (.usr 33) [ac4,ac5,ac6,acn,(V 1),(V 2),(I 2),(.ap (.add .i64) [(V 11),(I 1)])])
abbrev aqj:X:=(.ap (.usr 33) [ac4,ac5,ac6,acn,(V 1),(V 2),(I 3),(.ap (.add .i64) [(V 14),(I 1)])])
abbrev aqk:X:=(.ap (.usr 33) [ac4,ac5,ac6,acn,(V 1),(V 2),(I 0),(.ap (.add .i64) [(V 5),(I 1)])])
abbrev aql:X:=(.ap (.usr 33) [ac4,ac5,ac6,acn,(V 1),(V 2),(I 1),(.ap (.add .i64) [(V 8),(I 1)])])
abbrev aqm:X:=(.ap (.typ (.sl [(.int .i64),(.int .i64),(.int .i64),(.sl [(.int .u8)]),(.sl [(.int .u8)])])) [(.ap (.nil true) [])])
abbrev a2t:X:=(.ap .same [(.ap (.mk true) [(.ap .cat [(V 10),(.ap .snoc [(.ap (.nil false) []),(.ap (.cell 0) [ac6,(V 11)]),(.ap (.cell 1) [ac6,(V 11)]),(.ap (.cell 2) [ac6,(V 11)]),(.ap (.cell 3) [ac6,(V 11)]),(.ap (.cell 4) [ac6,(V 11)])])])]),aqi])
abbrev a2u:X:=(.ap .same [(.ap (.mk true) [(.ap .cat [(V 13),(.ap .snoc [(.ap (.nil false) []),(.ap (.cell 0) [acn,(V 14)]),(.ap (.cell 1) [acn,(V 14)]),(.ap (.cell 2) [acn,(V 14)]),(.ap (.cell 3) [acn,(V 14)]),(.ap (.cell 4) [acn,(V 14)])])])]),aqj])
abbrev a2v:X:=(.ap .same [(.ap (.mk true) [(.ap .cat [(V 4),(.ap .snoc [(.ap (.nil false) []),(.ap (.cell 0) [ac4,(V 5)]),(.ap (.cell 1) [ac4,(V 5)]),(.ap (.cell 2) [ac4,(V 5)]),(.ap (.cell 3) [ac4,(V 5)]),(.ap (.cell 4) [ac4,(V 5)])])])]),aqk])
abbrev a2w:X:=(.ap .same [(.ap (.mk true) [(.ap .cat [(V 7),(.ap .snoc [(.ap (.nil false) []),(.ap (.cell 0) [ac5,(V 8)]),(.ap (.cell 1) [ac5,(V 8)]),(.ap (.cell 2) [ac5,(V 8)]),(.ap (.cell 3) [ac5,(V 8)]),(.ap (.cell 4) [ac5,(V 8)])])])]),aql])
abbrev ahr:X:=(.ap .eq [(.ap .len [(V 2)]),(I 0)])
abbrev ahs:X:=(.ap .lt [ae6,(I 0)])
abbrev anm:X:=(.ap .lt [(V 11),(.ap .len [ac6])])
abbrev ano:X:=(.ap .lt [(V 5),(.ap .len [ac4])])
abbrev anp:X:=(.ap .lt [(V 8),(.ap .len [ac5])])
abbrev bct:List X:=[(.ap (.typ (.sl [(.sl [(.int .i64),(.int .i64),(.int .i64),(.sl [(.int .u8)]),(.sl [(.int .u8)])])])) [(V 0)]),(.ap (.typ (.sl [(.int .u8)])) [(V 1)]),(.ap (.typ (.sl [(.int .u8)])) [(V 2)]),(.ap .not [(.ap (.usr 12) [(V 0),(I 40)])])]
abbrev awp:List X:=(.ap (.typ (.sl [(.int .i64),(.int .i64),(.int .i64),(.sl [(.int .u8)]),(.sl [(.int .u8)])])) [ac4])::(.ap (.typ (.sl [(.int .i64),(.int .i64),(.int .i64),(.sl [(.int .u8)]),(.sl [(.int .u8)])])) [ac5])::(.ap (.typ (.sl [(.int .i64),(.int .i64),(.int .i64),(.sl [(.int .u8)]),(.sl [(.int .u8)])])) [ac6])::(.ap (.typ (.sl [(.int .i64),(.int .i64),(.int .i64),(.sl [(.int .u8)]),(.sl [(.int .u8)])])) [acn])::(.ap .eq [(.ap (.usr 22) [(V 0)]),(I 0)])::bct
abbrev bcu:List X:=(.ap .le [(.ap .len [ac4]),(I 40)])::(.ap .le [(.ap .len [ac5]),(I 40)])::(.ap .le [(.ap .len [ac6]),(I 40)])::(.ap .le [(.ap .len [acn]),(I 40)])::awp
abbrev awq:List X:=(.ap .le [(I 0),(V 5)])::(.ap .le [(V 5),(.ap .len [ac4])])::(.ap .le [(V 3),(.ap (.add .i64) [(I 0),(V 5)])])::(.ap .le [(I 0),(V 3)])::(.ap .same [(.ap (.mk true) [(V 4)]),(.ap (.usr 33) [ac4,ac5,ac6,acn,(V 1),(V 2),(I 0),(V 5)])])::bcu
abbrev bcv:List X:=(.ap .not [ahr])::(.ap .le [(I 0),aeb])::ano::awq
abbrev bcw:List X:=(.ap .le [LoI,ae6])::(.ap .le [ae6,HiI])::(.ap .le [(I (-1)),ae6])::(.ap .le [ae6,(I 1)])::(.ap .le [LoI,af9])::(.ap .le [af9,HiI])::(.ap .le [(I (-1)),af9])::(.ap .le [af9,(I 1)])::(.ap .le [LoI,aeb])::(.ap .le [aeb,HiI])::(.ap .le [(I (-1)),aeb])::(.ap .le [aeb,(I 1)])::(.ap .lt [af9,(I 0)])::bcv
abbrev awr:List X:=(.ap .le [(I 0),(V 8)])::(.ap .le [(V 8),(.ap .len [ac5])])::(.ap .le [(V 6),(.ap (.add .i64) [(I 40),(V 8)])])::(.ap .le [(I 0),(V 6)])::(.ap .same [(.ap (.mk true) [(V 7)]),(.ap (.usr 33) [ac4,ac5,ac6,acn,(V 1),(V 2),(I 1),(V 8)])])::(.ap .not [ano])::awq
abbrev bcx:List X:=(.ap .not [ahr])::(.ap .le [(I 0),aec])::anp::awr
abbrev bcy:List X:=(.ap .le [LoI,ae6])::(.ap .le [ae6,HiI])::(.ap .le [(I (-1)),ae6])::(.ap .le [ae6,(I 1)])::(.ap .le [LoI,aga])::(.ap .le [aga,HiI])::(.ap .le [(I (-1)),aga])::(.ap .le [aga,(I 1)])::(.ap .le [LoI,aec])::(.ap .le [aec,HiI])::(.ap .le [(I (-1)),aec])::(.ap .le [aec,(I 1)])::(.ap .lt [aga,(I 0)])::bcx
abbrev awt:List X:=(.ap .le [(I 0),(V 11)])::(.ap .le [(V 11),(.ap .len [ac6])])::(.ap .le [(V 9),(.ap (.add .i64) [(I 80),(V 11)])])::(.ap .le [(I 0),(V 9)])::(.ap .same [(.ap (.mk true) [(V 10)]),(.ap (.usr 33) [ac4,ac5,ac6,acn,(V 1),(V 2),(I 2),(V 11)])])::(.ap .not [anp])::awr
abbrev a2p:List X:=(.ap .not [ahr])::(.ap .le [(I 0),ad9])::anm::awt
abbrev a2q:List X:=(.ap .le [LoI,ae6])::(.ap .le [ae6,HiI])::(.ap .le [(I (-1)),ae6])::(.ap .le [ae6,(I 1)])::(.ap .le [LoI,ajz])::(.ap .le [ajz,HiI])::(.ap .le [(I (-1)),ajz])::(.ap .le [ajz,(I 1)])::(.ap .le [LoI,ad9])::(.ap .le [ad9,HiI])::(.ap .le [(I (-1)),ad9])::(.ap .le [ad9,(I 1)])::(.ap .lt [ajz,(I 0)])::a2p
abbrev aqh:List X:=(.ap .le [(I 0),(V 14)])::(.ap .le [(V 14),(.ap .len [acn])])::(.ap .le [(V 12),(.ap (.add .i64) [(I 120),(V 14)])])::(.ap .le [(I 0),(V 12)])::(.ap .same [(.ap (.mk true) [(V 13)]),(.ap (.usr 33) [ac4,ac5,ac6,acn,(V 1),(V 2),(I 3),(V 14)])])::(.ap .not [anm])::awt
abbrev a2r:List X:=(.ap .not [ahr])::(.ap .le [(I 0),aea])::(.ap .lt [(V 14),(.ap .len [acn])])::aqh
abbrev a2s:List X:=(.ap .le [LoI,ae6])::(.ap .le [ae6,HiI])::(.ap .le [(I (-1)),ae6])::(.ap .le [ae6,(I 1)])::(.ap .le [LoI,af8])::(.ap .le [af8,HiI])::(.ap .le [(I (-1)),af8])::(.ap .le [af8,(I 1)])::(.ap .le [LoI,aea])::(.ap .le [aea,HiI])::(.ap .le [(I (-1)),aea])::(.ap .le [aea,(I 1)])::(.ap .lt [af8,(I 0)])::a2r
def bs4:List VC:=[(awp,(.ap .le [(.ap .len [ac4]),(I 40)])),
 (awp,(.ap .le [(.ap .len [ac5]),(I 40)])),
 (awp,(.ap .le [(.ap .len [ac6]),(I 40)])),
 (awp,(.ap .le [(.ap .len [acn]),(I 40)])),
 (bcu,(.ap .same [(.ap (.mk true) [(.ap (.nil true) [])]),(.ap (.usr 33) [ac4,ac5,ac6,acn,(V 1),(V 2),(I 0),(I 0)])])),
 (((.ap .le [LoI,aeb])::(.ap .le [aeb,HiI])::(.ap .le [(I (-1)),aeb])::(.ap .le [aeb,(I 1)])::ahr::(.ap .le [(I 0),aeb])::ano::awq),a2v),
 ((ahs::bcw),a2v),
 (((.ap .not [ahs])::bcw),(.ap .same [(.ap (.mk true) [(V 4)]),aqk])),
 (((.ap .le [LoI,af9])::(.ap .le [af9,HiI])::(.ap .le [(I (-1)),af9])::(.ap .le [af9,(I 1)])::(.ap .le [LoI,aeb])::(.ap .le [aeb,HiI])::(.ap .le [(I (-1)),aeb])::(.ap .le [aeb,(I 1)])::(.ap .not [(.ap .lt [af9,(I 0)])])::bcv),(.ap .same [(.ap (.mk true) [(V 4)]),aqk])),
 (((.ap .le [LoI,aeb])::(.ap .le [aeb,HiI])::(.ap .le [(I (-1)),aeb])::(.ap .le [aeb,(I 1)])::(.ap .not [(.ap .le [(I 0),aeb])])::ano::awq),(.ap .same [(.ap (.mk true) [(V 4)]),aqk])),
 (((.ap .not [ano])::awq),(.ap .same [(.ap (.mk true) [(V 4)]),(.ap (.usr 33) [ac4,ac5,ac6,acn,(V 1),(V 2),(I 1),(I 0)])])),
 (((.ap .le [LoI,aec])::(.ap .le [aec,HiI])::(.ap .le [(I (-1)),aec])::(.ap .le [aec,(I 1)])::ahr::(.ap .le [(I 0),aec])::anp::awr),a2w),
 ((ahs::bcy),a2w),
 (((.ap .not [ahs])::bcy),(.ap .same [(.ap (.mk true) [(V 7)]),aql])),
 (((.ap .le [LoI,aga])::(.ap .le [aga,HiI])::(.ap .le [(I (-1)),aga])::(.ap .le [aga,(I 1)])::(.ap .le [LoI,aec])::(.ap .le [aec,HiI])::(.ap .le [(I (-1)),aec])::(.ap .le [aec,(I 1)])::(.ap .not [(.ap .lt [aga,(I 0)])])::bcx),(.ap .same [(.ap (.mk true) [(V 7)]),aql])),
 (((.ap .le [LoI,aec])::(.ap .le [aec,HiI])::(.ap .le [(I (-1)),aec])::(.ap .le [aec,(I 1)])::(.ap .not [(.ap .le [(I 0),aec])])::anp::awr),(.ap .same [(.ap (.mk true) [(V 7)]),aql])),
 (((.ap .not [anp])::awr),(.ap .same [(.ap (.mk true) [(V 7)]),(.ap (.usr 33) [ac4,ac5,ac6,acn,(V 1),(V 2),(I 2),(I 0)])])),
 (((.ap .le [LoI,ad9])::(.ap .le [ad9,HiI])::(.ap .le [(I (-1)),ad9])::(.ap .le [ad9,(I 1)])::ahr::(.ap .le [(I 0),ad9])::anm::awt),a2t),
 ((ahs::a2q),a2t),
 (((.ap .not [ahs])::a2q),(.ap .same [(.ap (.mk true) [(V 10)]),aqi])),
 (((.ap .le [LoI,ajz])::(.ap .le [ajz,HiI])::(.ap .le [(I (-1)),ajz])::(.ap .le [ajz,(I 1)])::(.ap .le [LoI,ad9])::(.ap .le [ad9,HiI])::(.ap .le [(I (-1)),ad9])::(.ap .le [ad9,(I 1)])::(.ap .not [(.ap .lt [ajz,(I 0)])])::a2p),(.ap .same [(.ap (.mk true) [(V 10)]),aqi])),
 (((.ap .le [LoI,ad9])::(.ap .le [ad9,HiI])::(.ap .le [(I (-1)),ad9])::(.ap .le [ad9,(I 1)])::(.ap .not [(.ap .le [(I 0),ad9])])::anm::awt),(.ap .same [(.ap (.mk true) [(V 10)]),aqi])),
 (((.ap .not [anm])::awt),(.ap .same [(.ap (.mk true) [(V 10)]),(.ap (.usr 33) [ac4,ac5,ac6,acn,(V 1),(V 2),(I 3),(I 0)])])),
 (((.ap .le [LoI,aea])::(.ap .le [aea,HiI])::(.ap .le [(I (-1)),aea])::(.ap .le [aea,(I 1)])::ahr::(.ap .le [(I 0),aea])::(.ap .lt [(V 14),(.ap .len [acn])])::aqh),a2u),
 ((ahs::a2s),a2u),
 (((.ap .not [ahs])::a2s),(.ap .same [(.ap (.mk true) [(V 13)]),aqj])),
 (((.ap .le [LoI,af8])::(.ap .le [af8,HiI])::(.ap .le [(I (-1)),af8])::(.ap .le [af8,(I 1)])::(.ap .le [LoI,aea])::(.ap .le [aea,HiI])::(.ap .le [(I (-1)),aea])::(.ap .le [aea,(I 1)])::(.ap .not [(.ap .lt [af8,(I 0)])])::a2r),(.ap .same [(.ap (.mk true) [(V 13)]),aqj])),
 (((.ap .le [LoI,aea])::(.ap .le [aea,HiI])::(.ap .le [(I (-1)),aea])::(.ap .le [aea,(I 1)])::(.ap .not [(.ap .le [(I 0),aea])])::(.ap .lt [(V 14),(.ap .len [acn])])::aqh),(.ap .same [(.ap (.mk true) [(V 13)]),aqj]))]
def bs3:List (List X×List (List X)):=[(((.ap .not [(.ap .lt [(V 14),(.ap .len [acn])])])::aqh),[[(.ap (.mk true) [(V 13)])]]),
 ((aqm::aqm::aqm::aqm::(.ap .not [(.ap .eq [(.ap (.usr 22) [(V 0)]),(I 0)])])::bct),[[(.ap (.nil true) [])]])]
theorem bx2:runV Try.prog (cxOf Try.prog (acr (tab T15)) 10 14 ⟨ap4 bry,noY,U.lc⟩ 4 15) ⟨aa0 [],hintA [(4,as15)]⟩ Try.f15 (aau Try.f15) S15=some (bs4,bs3):=by kernel_rfl
set_option maxHeartbeats 4000000 in
theorem c15:aah U Try.prog 15 S15:=by
 refine aah.ofV (P:=Try.prog) (U:=U) (T:=(tab T15)) (l:=bry) (y:=noY) (dp:=4) (f:=15) (fn:=Try.f15) (fuel:=10) (fk:=14) (hs:=⟨aa0 [],hintA [(4,as15)]⟩) (S:=S15) (v:=bs4) (outs:=bs3) mixed hT15 bwl at15 (aez (by kernel_rfl)) bx2 ?_ ?_
 ·unfold bs4
  repeat' (first | exact aa7 _ | refine aai (fun v hh=>?_) ?_)
  all_goals
   simp only [aao,aax,aaw,aa2,aco,b_lt,b_le,b_eq,abk,aa6,abr,abn,abf,ac3,w_mk,abt,aef,aav,w_l0,w_l1,aae,aaf,aay,aac,aad,aak,aaj,us33,us35,us12,us22,us27,us20,chkC,abu,len0,aas,aa1,acf,aaq,List.nil_append,bct,ac4,ac5,ac6,acn,ad9,aea,aeb,aec,ae6,ajz,af8,af9,aga,aqi,aqj,aqk,aql,aqm,a2t,a2u,a2v,a2w,ahr,ahs,anm,ano,anp,awp,bcu,awq,bcv,bcw,awr,bcx,bcy,awt,a2p,a2q,aqh,a2r,a2s] at hh ⊢
   repeat (obtain⟨_,hh⟩:=hh)
   try (first | grind [bzl,bzk,bzn,bzp,bzr,bzj,bzm,bzo,bzq,beu,bet,bg0,a0z,a7z,= aae] | (apply ajc<;>first | assumption | grind))
 ·intro o ho σ hU hh
  obtain⟨v⟩:=σ
  cases hU
  simp only [bs3,Mn,List.not_mem_nil,or_false] at ho
  repeat' (first | (rcases ho with rfl | ho) | subst ho)
  all_goals
   refine⟨_,Ms ..,by simp only [aao,aax,aaw,aa2,aco,b_lt,b_le,b_eq,abk,aa6,abr,abn,abf,ac3,w_mk,abt,aef,aav,w_l0,w_l1,aae,aaf,aay,aac,aad,aak,aaj],?_⟩
   simp only [aao,aax,aaw,aa2,aco,b_lt,b_le,b_eq,abk,aa6,abr,abn,abf,ac3,w_mk,abt,aef,aav,w_l0,w_l1,aae,aaf,aay,aac,aad,aak,aaj,us33,us35,us12,us22,us27,us20,chkC,abu,len0,aas,aa1,acf,aaq,List.nil_append,bct,ac4,ac5,ac6,acn,ad9,aea,aeb,aec,ae6,ajz,af8,af9,aga,aqi,aqj,aqk,aql,aqm,a2t,a2u,a2v,a2w,ahr,ahs,anm,ano,anp,awp,bcu,awq,bcv,bcw,awr,bcx,bcy,awt,a2p,a2q,aqh,a2r,a2s] at hh
   simp only [List.map_cons,List.map_nil,aao,aax,aaw,aa2,aco,b_lt,b_le,b_eq,abk,aa6,abr,abn,abf,ac3,w_mk,abt,aef,aav,w_l0,w_l1,aae,aaf,aay,aac,aad,aak,aaj,w_lt,w_le,w_eq,akb,ayu,amj,us33,us35,us12,us22,us27,us20,chkC,abu,len0,aas,aa1,acf,aaq,List.nil_append]
   repeat (obtain⟨_,hh⟩:=hh)
   try (first | grind [bzl,bzk,bzn,bzp,bzr,bzj,bzm,bzo,bzq,beu,bet,bg0,a0z,a7z,= aae] | (apply ajc<;>first | assumption | grind))
section
variable {l f t:CD} {n i:Int}
end
end Go.Proofs.Ytlbbkmcegbeckaa
namespace Go.Sx
def a4s(U:Us)(P:Program)(f:FuncId)(S:Fsp):Prop :=
 ∀ σ:Sg,σ.toUs=U→∀ (m:Mem) (w:World) (us:Array Value),TW w→(∀ k o,m k o→w.heap[k]? = some o)→aeu m S.args ((at6 0 S.args).map (@denL σ)) us.toList→@Holds σ S.pre →
  abz P (fun u w'=>Keep w w'∧∃ o∈S.outs,@Holds σ o.1∧ResR (fun k ob=>w'.heap[k]? = some ob) S.res (o.2.map (@denL σ)) u) ((callFunc f us).run P w)
noncomputable section
def endM(P:Program)[Plain P](fn:Func)(S:Fsp)(x:Oc):Option (List X×List (List X)) :=
 match x.1 with
 | .ext _=>none
 | _=>match resL P x.2.2 x.2.1 fn.results.toList with
  | some vs=>match as2 x.2.2 S.res vs with
   | some (es,G,O)=>some (x.2.2.hy,es)
   | none=>none
  | none=>none
def blz(P:Program)[Plain P](fn:Func)(S:Fsp):List Oc→Option (List (List X×List (List X)))
 | []=>some []
 | x::r=>match endM P fn S x,blz P fn S r with
  | some o,some l=>some (o::l)
  | _,_=>none
def runM(P:Program)[Plain P](cx:Cx)(hs:Hs)(fn:Func)(c:Code)(S:Fsp):Option (List VC×List (List X×List (List X))) :=
 match F0 S,Nat.ble S.args.length fn.ntmps&&a7u (numV S.args) S.outs with
 | some F,true=>match ami P cx fn.ntmps hs c F (H0 S) with
  | some (v,l)=>match blz P fn S l with
   | some outs=>some (v,outs)
   | none=>none
  | none=>none
 | _,_=>none
end
section
variable {P:Program} [Plain P] {U:Us} {hs:Hs}
theorem a5t{fn:Func}{S:Fsp}:∀ {xs:List Oc} {os:List (List X×List (List X))},blz P fn S xs=some os→∀ x∈xs,∃ o∈os,endM P fn S x=some o
 | [],os,h,x,hx=>by cases hx
 | y::xs,os,h,x,hx=>by
  simp only [blz] at h
  split at h
  ·rename_i o l ho hl
   cases h
   rcases Mn.1 hx with rfl | hx
   ·exact⟨o,Ms ..,ho⟩
   ·obtain⟨q,h1,h2⟩:=a5t hl x hx
    exact⟨q,Mc _ h1,h2⟩
  ·cases h
theorem a4e{cx:Cx}{f:FuncId}{fn:Func}{c:Code}{S:Fsp}{v:List VC}{outs:List (List X×List (List X))}(hm:P.follows .mixedOrders=true)(hcx:CxOK U P cx)(hrb:cx.rb=none)(hrg:adv U.lc cx.rk c)(hf:P.funcs[f]? = some fn)(hb:fn.body=some c)(hcall:∀ us w,(callFunc f us).run P w=.ok (.enter f us) w)(hfl:acs c=true)
  (h:runM P cx hs fn c S=some (v,outs)) (hv:∀ z∈v,VCok U z) (hend:∀ o∈outs,∀ σ:Sg,σ.toUs=U→@Holds σ o.1→∃ q∈S.outs,@Holds σ q.1∧q.2.map (@denL σ)=o.2.map (@denL σ)):a4s U P f S:=by
 unfold runM at h
 split at h
 rotate_left
 ·cases h
 rename_i F hF hchk
 rw [Ba] at hchk
 have hlen:=Nl hchk.1
 split at h
 rotate_left
 ·cases h
 rename_i v0 l hcode
 split at h
 rotate_left
 ·cases h
 rename_i outs0 houts
 cases h
 intro σ hU m w us htw hmem hargs hpre
 rw [hcall]
 show Calls P f us w _
 refine callsIn_wide.1 (callsIn_of_wp_marks (F:=Fence.wide) (n:=0) hf hb trivial ?_)
 let ρ0:PM:=fun b=>if b=0 then some ⟨w.heap.size,0,0,some m⟩ else none
 have hρ0:ρ0 0=some ⟨w.heap.size,0,0,some m⟩:=if_pos rfl
 have hnone:∀ b,b≠0→ρ0 b=none:=fun b hb=>if_neg hb
 have hnocell:∀ b i c,(H0 S).cell b i=some c→False:=fun b i c hc=>HP.cell_nil hc
 obtain⟨ps,hps,rfl⟩:=map_some hF
 have hat:∀ k o,m k o→ρ0.at [0] k o:=fun k o h=>⟨0,Mg.2 rfl,_,m,hρ0,rfl,h⟩
 have hG0:∀ g∈[0],∃ L,ρ0 g=some L:=fun g hg=>by
  have:=Mg.1 hg
  subst this
  exact⟨_,hρ0⟩
 have hrel0:=@a1a ρ0 σ [0] hG0 _ _ _ _ hps (hargs.mono hat)
 have hargsR:=@anf ρ0 σ _ _ hrel0
 have hal:=All2.length hargsR
 have hpl:ps.length=us.size:=by
  have:=hal
  simp only [List.length_map,Array.length_toList] at this
  exact this
 have hpl2:=a09 hps
 have s0:@SRel σ fn.ntmps ρ0 (azp .nil 0 (ps.map as1)) (H0 S) { tmps:=us++Array.replicate (fn.ntmps - us.size) Go.undef,defers:=[] } w:=by
  refine @SRel.mk σ _ _ _ _ _ _ (@FRel.mk σ _ _ _ _ (by simp;omega) fun t v hv=>?_) ⟨fun b i c L hc=>(hnocell b i c hc).elim,fun b b' L L' ⟨i,c,hc⟩=>(hnocell b i c hc).elim,@aey σ _ _ (@a4m σ _ _ _ _ hargs) hpre⟩ (fun b hb=>hnone b (by have h1:1≤b:=hb;omega)) ⟨fun x hx=>⟨htw x hx,fun b L' ⟨i,c,hc⟩=>(hnocell b i c hc).elim⟩,fun g L M hg hM k o hko=>?_⟩
  ·rcases alv (ps.map as1) .nil 0 t v hv with ⟨_,h1⟩ | h1
   ·obtain⟨u,hu,hr⟩:=All2.get hargsR _ _ h1
    rw [Nat.sub_zero,Array.getElem?_toList] at hu
    exact⟨u,by rw [Array.getElem?_append_left (Ga.1 hu).1];exact hu,hr⟩
   ·rw [PT.get_nil] at h1;cases h1
  ·by_cases h0:g=0
   ·subst h0
    rw [hρ0] at hg
    cases hg
    cases hM
    exact⟨hmem k o hko,fun b L' ⟨i,c,hc⟩=>(hnocell b i c hc).elim⟩
   ·rw [hnone g h0] at hg;cases hg
 have K:=aos (n:=fn.ntmps) (m:=0) (r:=none) hm hcx c hfl hrg hcode hv σ hU
 rw [hrb] at K
 refine K.wp (m0:=w.heap.size) s0 trivial (Rl _) (DfOK.nil _ _ _ _) fun σ' he x hx ρ' a' w' s' hdf hs'=>?_
 obtain⟨o,ho,hend'⟩:=a5t houts x hx
 obtain⟨e,F,H1⟩:=x
 have hee:e=.nrm∨e=.rt:=by
  cases e with
  | nrm=>exact .inl rfl
  | rt=>exact .inr rfl
  | ext id=>cases hend'
 have hcore:(match resL P H1 F fn.results.toList with
  | some vs=>match as2 H1 S.res vs with
   | some (es,G,O)=>some (H1.hy,es)
   | none=>none
  | none=>none)=some o:=by rcases hee with rfl | rfl<;>exact hend'
 split at hcore
 rotate_left
 ·cases hcore
 rename_i vs hvs
 split at hcore
 rotate_left
 ·cases hcore
 rename_i es G O hparts
 cases hcore
 have hkeep:Keep w w':=⟨fun k hk=>hs'.fr k hk fun b L ⟨i,c,hc⟩=>(hnocell b i c hc).elim,hs'.size,hs'.os,hs'.tape,hs'.output⟩
 have hK:@EndK σ' w ρ' H1 w':=@EndK.mk σ' w ρ' H1 w' (@SRel.hp σ' _ _ _ _ _ _ s') (@SRel.j σ' _ _ _ _ _ _ s') htw hkeep
 have hpost:LeavesInM Fence.wide 0 P fn a'.tmps (fun r w''=>∃ u',r=.returned u'∧(Keep w w''∧∃ o∈S.outs,@Holds σ o.1∧ResR (fun k ob=>w''.heap[k]? = some ob) S.res (o.2.map (@denL σ)) u')) a'.defers .returning w':=by
  refine @am5 P _ H1 w σ' ρ' fn a'.tmps _ (fun w2 hK2=>?_) _ _ hK hdf
  obtain⟨uvs,huvs,hvr⟩:=@bag P _ _ H1 w2 ρ' F a' σ' (@SRel.fr σ' _ _ _ _ _ _ s') (@EndK.rel σ' w ρ' H1 w2 hK2) (@EndK.j σ' w ρ' H1 w2 hK2) _ _ hvs
  obtain⟨hG,hpr⟩:=@ao6 σ' _ _ _ (@EndK.rel σ' w ρ' H1 w2 hK2) _ _ _ _ _ _ hparts hvr
  obtain⟨q,hq,hqh,hqe⟩:=hend _ ho σ' (he.us.trans hU) (@HRel.hy σ' _ _ _ (@SRel.hp σ' _ _ _ _ _ _ s'))
  obtain⟨t1,t2⟩:=aoj he hchk.2 q hq
  refine⟨oneOf uvs,?_,_,rfl,@EndK.keep σ' w ρ' H1 w2 hK2,q,hq,t1 hqh,uvs,?_,rfl⟩
  ·unfold results
   rw [Sem.run_bind,Array.mapM_eq_mapM_toList,Sem.run_map]
   exact congrArg (fun r:Result (List Value)=>(r.andThen fun a w'=>Result.ok a.toArray w').andThen fun a w'=>Sem.run P (pure (if h:a.size=1 then a[0] else Value.tuple a)) w') huvs
  ·rw [← t2,hqe]
   refine hpr.mono fun k ob hko=>?_
   rcases hko with ⟨g,hg,L,M,h1,h2,h3⟩ | ⟨b,hb,L,h1,rfl,h2⟩
   ·exact((@EndK.j σ' w ρ' H1 w2 hK2).2 g L M h1 h2 k ob h3).1
   ·exact h2
 rcases hee with rfl | rfl
 ·exact hpost
 ·exact hpost
theorem a4s.ofV{T:FuncId→Option Fsp}{l:List (FuncId×Inl)}{y:Nat→Hs}{dp:Nat}{f:FuncId}{fn:Func}{fuel fk:Nat}{S:Fsp}{v:List VC}{outs:List (List X×List (List X))}(hm:P.follows .mixedOrders=true)(hT:∀ f S,T f=some S→aah U P f S)
  (hl:∀ x∈l,InlOK U P x) (hf:FnAt P f fn) (hrg:adv U.lc (keyOf f) (aau fn))
  (h:runM P (cxOf P (acr T) fuel fk ⟨ap4 l,y,U.lc⟩ dp f) hs fn (aau fn) S=some (v,outs)) (hv:∀ z∈v,VCok U z) (hend:∀ o∈outs,∀ σ:Sg,σ.toUs=U→@Holds σ o.1→∃ q∈S.outs,@Holds σ q.1∧q.2.map (@denL σ)=o.2.map (@denL σ)):a4s U P f S :=
 a4e hm ⟨amc hT,a2h hm (amc hT) (TbOK.of hl) dp,(TbOK.of hl).ent⟩ rfl hrg hf.at' hf.body hf.call hf.flow h hv hend
end
end Go.Sx
namespace Go.Proofs.Ytlbbkmcegbeckaa
open Go.Sx Go.Proofs
theorem us37(l a b c d e:CD):@Us.u U 37 [l,a,b,c,d,e]=vInt .i64 (addN l [a,b,c,d,e]):=rfl
def okD(n:Nat)(d:CD):Bool:=(List.range d.rows.length).all (anc n d)
theorem bm7{n:Nat}{d e:CD}(h:d.rows=e.rows):okD n d=okD n e:=by
 unfold okD anc
 rw [h]
theorem a2f(l:CD)(n:Nat):a95 l n=okD n (l.cell n 0):=rfl
theorem agt{l:CD}{n:Int}(hT:Typ sLev l)(h0:0≤n)(h:¬ n<l.len):(l.cell n 0).rows=[]:=by
 have hl:=hT.sl.1
 unfold CD.cell
 rw [show l.rows.getD n.toNat []=[] by rw [Gd,List.getElem?_eq_none (by omega)];rfl]
 rfl
theorem a94{l:CD}(n:Nat)(hT:Typ sLev l)(h:aam l=true):okD n (l.cell n 0)=true:=by
 by_cases hn:(n:Int)<l.len
 ·have hl:=hT.sl.1
  unfold aam at h
  rw [Ba,List.all_eq_true] at h
  exact h.2 n (List.mem_range.2 (by omega))
 ·rw [bm7 (e:=.sl true []) (agt hT (by omega) hn)]
  rfl
theorem all_nil:([]:List (List CD)).all afe=true:=rfl
def as12:Fm→HP→List X:=fun F H=>[.ap .le [.ap .len [.var 0],I 4]]
def as53:Fm→HP→List X:=fun F H=>[.ap .le [.ap .len [.ap (.cell 0) [.var 0,sx F 4]],I 40]]
end Go.Proofs.Ytlbbkmcegbeckaa
