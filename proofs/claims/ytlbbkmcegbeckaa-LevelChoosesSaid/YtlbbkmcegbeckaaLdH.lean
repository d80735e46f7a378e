/-
  Contracts of a seat's functions: what is chosen, as the document says. Conditions: none.
-/
import Derived.Test.YtlbbkmcegbeckaaLdI
set_option linter.all false
set_option maxRecDepth 100000
noncomputable section
namespace Go.Proofs.Ytlbbkmcegbeckaa
open Go.Sx Go.Proofs
def T25:List (FuncId×Fsp):=[(17,S16),(64,S64),(65,S65)]
theorem hT25:ae1 U Try.prog T25:=.cons c17 (.cons c64 (.cons c65 .nil))
def br0:List (FuncId×Inl):=[(53,⟨Try.f53,⟨aa0 [],hintA [(5,as53)]⟩⟩)]
def allX(t:Nat)(F:Fm)(H:HP)(n:Nat):X:=match(F.get t).bind bt8 with
 | some (b,o)=>match H.read b (Nat.add o n) 1 with
  | some [c]=>bvn H c
  | _=>zI
 | none=>zI
def lvN(x:X)(H:HP):Nat:=match litL H.hy x fewN with
 | some c=>c
 | none=>0
def b06:Lp:=⟨[(.slot 8,.int .i64),(.slot 9,.int .i64)],[0,1,4,5,6,7],[0],fun F H k=>[.ap .le [zI,.var k],.ap .lt [.var k,.var (k+1)],.ap .le [.var (k+1),.ap .len [allX 6 F H (lvN (.var 1) H)]],.ap .le [.var k,.ap (.usr 63) [allX 6 F H (lvN (.var 1) H),allX 6 F H (Nat.succ (lvN (.var 1) H)),.var (k+1)]],.ap .le [.ap (.usr 63) [allX 6 F H (lvN (.var 1) H),allX 6 F H (Nat.succ (lvN (.var 1) H)),.var (k+1)],.var k]],fun F H k=>.ap (.sub .i64) [.ap .len [allX 6 F H (lvN (.var 1) H)],.var (k+1)]⟩
theorem bwn:ajx U Try.prog br0:=.cons (.of at53 (by kernel_rfl)) .nil
def S25:Fsp:=⟨[(false,[sLev]),(false,[.int .i64])],[.ap .not [.ap (.usr 12) [.var 0,I 40]],.ap (.typ (.int .i64)) [.var 1]],[(true,[.int .i64,sR,sR,.bool]),(false,[.int .i64])],[([],[[.ap (.usr 66) [.var 0,.var 1],.ap (.usr 67) [.var 0,.var 1],.ap (.usr 68) [.var 0,.var 1],.ap (.usr 69) [.var 0,.var 1]],[.ap (.usr 70) [.var 0,.var 1]]])],false⟩
theorem us66(a b:CD):@Us.u U 66 [a,b]=vInt .i64 (aop a b.iv):=rfl
theorem us67(a b:CD):@Us.u U 67 [a,b]=aew a b.iv:=rfl
theorem us68(a b:CD):@Us.u U 68 [a,b]=aex a b.iv:=rfl
theorem us69(a b:CD):@Us.u U 69 [a,b]=aan (afx a b.iv):=rfl
theorem us70(a b:CD):@Us.u U 70 [a,b]=vInt .i64 (at0 a b.iv):=rfl
theorem be0(b:Bool)(r:List (List CD)):(CD.sl b r).rows=r:=rfl
theorem bbe{l:CD}{n:Int}(hT:Typ sLev l)(h0:0≤n)(h:n<l.len):Typ (.sl sRun) (l.cell n 0):=hT.cell (j:=0) h0 h rfl
theorem asl(b:Bool)(x:CD):(CD.sl b x.rows).len=x.len:=rfl
theorem ama(b:Bool)(x:CD)(i:Int)(j:Nat):(CD.sl b x.rows).cell i j=x.cell i j:=rfl
theorem aqa(b:Bool):(CD.sl b []).len=0:=rfl
theorem ap7:(mkz []).len=0:=rfl
section
variable {l x:CD} {n:Int} {p:List CD→Bool}
theorem bpf(h:¬ aam l=true):chOK l n=false:=by
 unfold chOK
 rw [Bool.not_eq_true] at h
 rw [h]
 rfl
theorem bpg(h:n<0):chOK l n=false:=by
 unfold chOK
 rw [decide_eq_false (show ¬ 0≤n by omega)]
 simp
theorem bph(h:2<n):chOK l n=false:=by
 unfold chOK
 rw [decide_eq_false (show ¬ n≤2 by omega)]
 simp
theorem ch_0(h:aam l=true):chOK l 0 = !(l.cell 0 0).rows.isEmpty:=by
 unfold chOK
 rw [h]
 rfl
theorem ch_1(h:aam l=true):chOK l 1 = !(l.cell 1 0).rows.isEmpty:=by
 unfold chOK
 rw [h]
 rfl
theorem ch_2(h:aam l=true):chOK l 2 = !(l.cell 2 0).rows.isEmpty:=by
 unfold chOK
 rw [h]
 rfl
theorem bv6(hT:Typ (.sl sRun) x)(h:x.len=0):x.rows.isEmpty=true:=by
 have:=hT.sl.1
 rw [List.isEmpty_iff,← List.length_eq_zero_iff]
 omega
theorem bv5(h:¬ x.len=0):x.rows.isEmpty=false:=by
 cases hr:x.rows with
 | nil =>
  exfalso
  apply h
  show clip x.rows.length=0
  rw [hr]
  rfl
 | cons a r=>rfl
theorem beh:([]:List (List CD)).isEmpty=true:=rfl
theorem bpm(h0:0≤n)(h:n<x.len):List.drop n.toNat (List.take (n+1).toNat x.rows)=[x.rows.getD n.toNat []]:=by
 have hl:x.len≤x.rows.length:=Nat.min_le_left _ _
 have hlt:n.toNat<x.rows.length:=by omega
 rw [show(n+1).toNat=n.toNat+1 by omega,List.take_succ_eq_append_getElem hlt,List.drop_append_of_le_length (by rw [List.length_take];omega),List.drop_eq_nil_of_le (by rw [List.length_take];omega),Gd,Gl hlt]
 rfl
theorem bz7(hT:Typ (.sl sRun) x)(h:(mkz (x.rows.filter p)).len=0):(x.rows.all fun r=>!p r)=true:=by
 rw [flen hT,List.length_eq_zero_iff,List.filter_eq_nil_iff] at h
 rw [List.all_eq_true]
 intro r hr
 have:=h r hr
 rw [Bool.not_eq_true] at this
 rw [this]
 rfl
theorem bz8(hT:Typ (.sl sRun) x)(h:¬ (mkz (x.rows.filter p)).len=0):(x.rows.all fun r=>!p r)=false:=by
 rw [flen hT,List.length_eq_zero_iff,List.filter_eq_nil_iff] at h
 rw [Bool.eq_false_iff]
 intro hh
 apply h
 intro r hr hp
 have:=List.all_eq_true.1 hh r hr
 rw [hp] at this
 cases this
end
def noOv(f t:CD)(rows:List (List CD)):Bool:=rows.all fun r=>!ovl f t r
section
variable {f t a b c d x:CD}
theorem no_y(hT:Typ (.sl sRun) x)(h:(mkz (x.rows.filter (ovl f t))).len=0):noOv f t x.rows=true:=bz7 hT h
theorem no_n(hT:Typ (.sl sRun) x)(h:¬ (mkz (x.rows.filter (ovl f t))).len=0):noOv f t x.rows=false:=bz8 hT h
theorem bp3:noOv f t []=true:=rfl
theorem bvy:clQ f t 0 a b c d 4 0=(noOv f t c.rows&&noOv f t d.rows):=by
 unfold clQ afy noOv
 simp [List.range_succ]
theorem bvz:clQ f t 1 a b c d 4 0=noOv f t d.rows:=by
 unfold clQ afy noOv
 simp [List.range_succ]
theorem bv0:clQ f t 2 a b c d 4 0=true:=by
 unfold clQ afy
 simp [List.range_succ]
end
theorem b0j{x y:List (List CD)}{n:Nat}{z:Int}(h1:z≤(abp x y n:Nat))(h2:((abp x y n:Nat):Int)≤z):z=(abp x y n:Nat):=by omega
theorem bfq(x:List (List CD)):∀ n:Nat,abp x [] n=0
 | 0=>rfl
 | n+1=>by
  unfold abp
  rw [if_neg (by unfold cntR;simp)]
  exact bfq x n
section
variable {x:CD}
theorem bbo{y:List (List CD)}{z i:Int}(h1:z≤(abp x.rows y i.toNat:Nat))(h2:((abp x.rows y i.toNat:Nat):Int)≤z)(h3:i≤x.len)(h4:¬ i<x.len)(h5:(x.len:Int)≤40)(h6:¬ x.len=0):List.drop z.toNat (List.take (z+1).toNat x.rows)=[x.rows.getD (abp x.rows y x.rows.length) []]:=by
 have e:x.len=min x.rows.length maxN:=rfl
 have hl:x.len=x.rows.length:=by unfold maxN at e;omega
 have hi:i.toNat=x.rows.length:=by omega
 rw [hi] at h1 h2
 have hb:=bra (x:=x.rows) (y:=y) (n:=x.rows.length) (by omega)
 rw [bpm (by omega) (by omega)]
 congr 2
 omega
end
theorem bos{x:CD}(h:Typ (.int .i64) x):x=vInt .i64 x.iv:=by
 obtain⟨m,u,n,e,_,_⟩:=h
 rw [e]
 rfl
theorem b07{x f t:CD}(hT:Typ (.sl sRun) x):eqC (vInt .i64 ((mkz (x.rows.filter (ovl f t))).len:Int)) (vInt .i64 0)=noOv f t x.rows:=by
 by_cases h:(mkz (x.rows.filter (ovl f t))).len=0
 ·rw [no_y hT h,h]
  rfl
 ·rw [no_n hT h]
  show decide (((mkz (x.rows.filter (ovl f t))).len:Int)=0)=false
  exact decide_eq_false (by omega)
theorem eq00:eqC (vInt .i64 ((0:Nat):Int)) (vInt .i64 0)=true:=rfl
theorem atg3(x:CD)(k:Nat):at' (x.rows.getD k []) 3=x.cell (k:Nat) 3:=rfl
theorem atg4(x:CD)(k:Nat):at' (x.rows.getD k []) 4=x.cell (k:Nat) 4:=rfl
theorem auk(r:List CD):(CD.sl false [r]).len=1:=rfl
theorem bju(l:CD):ace l=[(l.cell 0 0).rows,(l.cell 1 0).rows,(l.cell 2 0).rows,(l.cell 3 0).rows]:=rfl
theorem ahi(p:List CD→Bool):([]:List (List CD)).filter p=[]:=rfl
theorem five{z:Int}:z<0∨z=0∨z=1∨z=2∨2<z:=by omega
def hs25:Hs:=⟨aa0 [(10,b06)],hintA [(3,as12),(4,fun F H=>[fzP 6 0,fzP 6 1,fzP 6 2,fzP 6 3,.ap .le [.ap .len [allX 6 F H 0],I 40],.ap .le [.ap .len [allX 6 F H 1],I 40],.ap .le [.ap .len [allX 6 F H 2],I 40],.ap .le [.ap .len [allX 6 F H 3],I 40]]),(15,fun F H=>len1 (exAt (.cell 7 1) F H) 400),(18,fun F H=>.ap .le [.ap .len [exAt (.cell 7 2) F H],I 40]::len1 (.ap (.mk false) [.ap .cat [.ap (.mk false) [exAt (.cell 7 1) F H],exAt (.cell 7 2) F H]]) 400)]⟩
abbrev acw:X:=(.ap (.mk false) [(.ap (.mk false) [(.ap (.cell 0) [(V 0),(I 1)])])])
abbrev ady:X:=(.ap (.mk false) [(.ap (.mk false) [(.ap (.cell 0) [(V 0),(I 0)])])])
abbrev abx:X:=(.ap (.mk false) [(.ap (.mk false) [(.ap (.cell 0) [(V 0),(I 2)])])])
abbrev aff:X:=(.ap .cut [acw,(V 2),(.ap (.add .i64) [(V 2),(I 1)])])
abbrev ab0:X:=(.ap .cut [abx,(V 2),(.ap (.add .i64) [(V 2),(I 1)])])
abbrev aar:X:=(.ap (.nil true) [])
abbrev ahj:X:=(.ap (.mk false) [(.ap (.mk false) [(.ap (.cell 0) [(V 0),(I 3)])])])
abbrev amt:X:=(.ap .lt [(.ap .len [(.ap (.usr 40) [abx,(.ap (.cell 3) [acw,(V 3)]),(.ap (.cell 4) [acw,(V 3)])])]),(.ap .len [(.ap (.usr 40) [abx,(.ap (.cell 3) [acw,(V 2)]),(.ap (.cell 4) [acw,(V 2)])])])])
abbrev aht:X:=(.ap (.usr 40) [acw,(.ap (.usr 46) [ady]),(.ap (.usr 47) [ady])])
abbrev ams:X:=(.ap (.mk false) [(.ap .cat [(.ap (.mk false) [ady]),aht])])
abbrev acg:X:=(.ap .le [(.ap .len [aar]),(I 40)])
abbrev aq0:X:=(.ap .lt [(.ap .len [(.ap (.usr 40) [ahj,(.ap (.cell 3) [abx,(V 3)]),(.ap (.cell 4) [abx,(V 3)])])]),(.ap .len [(.ap (.usr 40) [ahj,(.ap (.cell 3) [abx,(V 2)]),(.ap (.cell 4) [abx,(V 2)])])])])
abbrev aq1:X:=(.ap .lt [(.ap .len [(.ap (.usr 40) [aar,(.ap (.cell 3) [abx,(V 3)]),(.ap (.cell 4) [abx,(V 3)])])]),(.ap .len [(.ap (.usr 40) [aar,(.ap (.cell 3) [abx,(V 2)]),(.ap (.cell 4) [abx,(V 2)])])])])
abbrev aq2:X:=(.ap .lt [(.ap .len [(.ap (.usr 40) [aar,(.ap (.cell 3) [acw,(V 3)]),(.ap (.cell 4) [acw,(V 3)])])]),(.ap .len [(.ap (.usr 40) [aar,(.ap (.cell 3) [acw,(V 2)]),(.ap (.cell 4) [acw,(V 2)])])])])
abbrev ad1:X:=(.ap .le [(V 1),(I 0)])
abbrev aq3:X:=(.ap (.add .i64) [(V 3),(I 1)])
abbrev afm:X:=(.ap .len [ady])
abbrev ahu:X:=(.ap .le [(.ap .len [(.ap (.cell 0) [(V 0),(I 0)])]),(I 40)])
abbrev ajk:X:=(.ap (.usr 40) [abx,(.ap (.usr 46) [aff]),(.ap (.usr 47) [aff])])
abbrev ahk:X:=(.ap (.mk false) [(.ap .cat [(.ap (.mk false) [aff]),ajk])])
abbrev aq6:X:=(.ap .eq [(.ap .len [(.ap (.usr 40) [abx,(.ap (.usr 46) [ams]),(.ap (.usr 47) [ams])])]),(I 0)])
abbrev aq7:X:=(.ap .eq [(.ap .len [(.ap (.usr 40) [aar,(.ap (.usr 46) [ams]),(.ap (.usr 47) [ams])])]),(I 0)])
abbrev akx:X:=(.ap .le [(.ap .len [(.ap (.cell 0) [(V 0),(I 3)])]),(I 40)])
abbrev afn:X:=(.ap .len [(V 0)])
abbrev adn:X:=(.ap .le [(V 1),(I 1)])
abbrev ahv:X:=(.ap (.usr 63) [acw,abx,aq3])
abbrev ad3:X:=(.ap .len [acw])
abbrev aem:X:=(.ap .lt [(V 3),ad3])
abbrev ahw:X:=(.ap .not [(.ap .eq [afm,(I 0)])])
abbrev anu:X:=(.ap (.usr 40) [aar,(.ap (.usr 46) [ady]),(.ap (.usr 47) [ady])])
abbrev akv:X:=(.ap (.mk false) [(.ap .cat [(.ap (.mk false) [ady]),anu])])
abbrev ado:X:=(.ap .not [ad1])
abbrev awy:X:=(.ap .eq [(.ap .len [(.ap (.usr 40) [aar,(.ap (.usr 46) [akv]),(.ap (.usr 47) [akv])])]),(I 0)])
abbrev ahx:X:=(.ap (.cell 0) [ady,(I 0)])
abbrev ahy:X:=(.ap (.cell 1) [ady,(I 0)])
abbrev ahz:X:=(.ap (.cell 2) [ady,(I 0)])
abbrev aky:X:=(.ap .le [(.ap .len [aht]),(I 40)])
abbrev akz:X:=(.ap .le [(.ap .len [ams]),(I 400)])
abbrev ak0:X:=(.ap .le [(.ap .len [aff]),(I 400)])
abbrev ak1:X:=(.ap .le [(I 1),(.ap .len [ams])])
abbrev ak2:X:=(.ap .le [(I 1),(.ap .len [aff])])
abbrev aq8:X:=(.ap (.typ (.sl [(.int .u8)])) [(.ap (.usr 46) [ady])])
abbrev aq9:X:=(.ap (.typ (.sl [(.int .u8)])) [(.ap (.usr 47) [ady])])
abbrev ah0:X:=(.ap .le [afm,(I 40)])
abbrev aen:X:=(.ap .len [abx])
abbrev ad2:X:=(.ap .lt [(V 3),aen])
abbrev ah1:X:=(.ap .lt [(I 2),afn])
abbrev ah2:X:=(.ap .le [(I 1),afm])
abbrev ag0:X:=(.ap (.usr 22) [(V 0)])
abbrev ara:X:=(.ap (.usr 40) [ahj,(.ap (.usr 46) [ab0]),(.ap (.usr 47) [ab0])])
abbrev aq4:X:=(.ap .len [(.ap (.mk false) [(.ap .cat [(.ap (.mk false) [ab0]),ara])])])
abbrev arb:X:=(.ap (.usr 40) [aar,(.ap (.usr 46) [ab0]),(.ap (.usr 47) [ab0])])
abbrev aq5:X:=(.ap .len [(.ap (.mk false) [(.ap .cat [(.ap (.mk false) [ab0]),arb])])])
abbrev ard:X:=(.ap (.usr 40) [aar,(.ap (.usr 46) [aff]),(.ap (.usr 47) [aff])])
abbrev akw:X:=(.ap (.mk false) [(.ap .cat [(.ap (.mk false) [aff]),ard])])
abbrev anv:X:=(.ap .not [(.ap .lt [(I 1),afn])])
abbrev ak3:X:=(.ap (.cell 0) [aff,(I 0)])
abbrev ak4:X:=(.ap (.cell 1) [aff,(I 0)])
abbrev ak5:X:=(.ap (.cell 2) [aff,(I 0)])
abbrev ag1:X:=(.ap .not [aem])
abbrev awz:X:=(.ap .le [(.ap .len [(.ap (.cell 0) [(V 0),(I 2)])]),(I 40)])
abbrev ak6:X:=(.ap .le [ad3,(I 40)])
abbrev arf:X:=(.ap (.usr 63) [abx,ahj,aq3])
abbrev arh:X:=(.ap (.usr 63) [abx,aar,aq3])
abbrev ari:X:=(.ap (.usr 63) [acw,aar,aq3])
abbrev aw0:X:=(.ap (.typ (.sl [(.int .u8)])) [(.ap (.usr 46) [aff])])
abbrev aw1:X:=(.ap (.typ (.sl [(.int .u8)])) [(.ap (.usr 47) [aff])])
abbrev a7a:List X:=[(.ap (.typ (.sl [(.sl [(.int .i64),(.int .i64),(.int .i64),(.sl [(.int .u8)]),(.sl [(.int .u8)])])])) [(V 0)]),(.ap .le [LoI,(V 1)]),(.ap .le [(V 1),HiI]),(.ap .not [(.ap (.usr 12) [(V 0),(I 40)])]),(.ap (.typ (.int .i64)) [(V 1)])]
abbrev az8:List X:=(.ap .le [LoI,ag0])::(.ap .le [ag0,HiI])::(.ap .not [(.ap .lt [(V 1),(I 0)])])::(.ap .eq [ag0,(I 0)])::a7a
abbrev amq:List X:=(.ap .lt [(I 0),afn])::(.ap .le [afn,(I 4)])::(.ap .not [(.ap .lt [(I 2),(V 1)])])::az8
abbrev amr:List X:=(.ap .le [(.ap .len [(.ap (.cell 0) [(V 0),(I 1)])]),(I 40)])::(.ap .lt [(I 1),afn])::ahu::amq
abbrev as4:List X:=(.ap .lt [(I 3),afn])::awz::ah1::amr
abbrev ao8:List X:=ah0::ak6::(.ap .le [aen,(I 40)])::(.ap .le [(.ap .len [ahj]),(I 40)])::akx::as4
abbrev az9:List X:=(.ap .le [LoI,ahx])::(.ap .le [ahx,HiI])::(.ap .le [LoI,ahy])::(.ap .le [ahy,HiI])::(.ap .le [LoI,ahz])::(.ap .le [ahz,HiI])::aq8::aq9::ah2::(.ap .le [afm,(I 400)])::ahw::ad1::ao8
abbrev bc8:List X:=aky::ak1::akz::az9
abbrev a0a:List X:=(.ap .not [(.ap .eq [ad3,(I 0)])])::adn::ado::ao8
abbrev ao9:List X:=(.ap .le [(I 0),(V 2)])::(.ap .lt [(V 2),(V 3)])::(.ap .le [(V 3),ad3])::(.ap .le [(V 2),(.ap (.usr 63) [acw,abx,(V 3)])])::(.ap .le [(.ap (.usr 63) [acw,abx,(V 3)]),(V 2)])::a0a
abbrev aqn:List X:=(.ap .le [LoI,ak3])::(.ap .le [ak3,HiI])::(.ap .le [LoI,ak4])::(.ap .le [ak4,HiI])::(.ap .le [LoI,ak5])::(.ap .le [ak5,HiI])::aw0::aw1::ak2::ak0::ag1::ao9
abbrev aqo:List X:=(.ap .not [(.ap .eq [aen,(I 0)])])::(.ap .not [adn])::ado::ao8
abbrev ajf:List X:=(.ap .le [(I 0),(V 2)])::(.ap .lt [(V 2),(V 3)])::(.ap .le [(V 3),aen])::(.ap .le [(V 2),(.ap (.usr 63) [abx,ahj,(V 3)])])::(.ap .le [(.ap (.usr 63) [abx,ahj,(V 3)]),(V 2)])::aqo
abbrev aqp:List X:=(.ap .le [LoI,(.ap (.cell 0) [ab0,(I 0)])])::(.ap .le [(.ap (.cell 0) [ab0,(I 0)]),HiI])::(.ap .le [LoI,(.ap (.cell 1) [ab0,(I 0)])])::(.ap .le [(.ap (.cell 1) [ab0,(I 0)]),HiI])::(.ap .le [LoI,(.ap (.cell 2) [ab0,(I 0)])])::(.ap .le [(.ap (.cell 2) [ab0,(I 0)]),HiI])::(.ap (.typ (.sl [(.int .u8)])) [(.ap (.usr 46) [ab0])])::(.ap (.typ (.sl [(.int .u8)])) [(.ap (.usr 47) [ab0])])::(.ap .le [(I 1),(.ap .len [ab0])])::(.ap .le [(.ap .len [ab0]),(I 400)])::(.ap .not [ad2])::ajf
abbrev anq:List X:=(.ap .not [(.ap .lt [(I 3),afn])])::awz::ah1::amr
abbrev ajg:List X:=ah0::ak6::(.ap .le [aen,(I 40)])::acg::anq
abbrev aqr:List X:=(.ap .le [LoI,ahx])::(.ap .le [ahx,HiI])::(.ap .le [LoI,ahy])::(.ap .le [ahy,HiI])::(.ap .le [LoI,ahz])::(.ap .le [ahz,HiI])::aq8::aq9::ah2::(.ap .le [afm,(I 400)])::ahw::ad1::ajg
abbrev a2x:List X:=aky::ak1::akz::aqr
abbrev aqs:List X:=(.ap .not [(.ap .eq [ad3,(I 0)])])::adn::ado::ajg
abbrev ajh:List X:=(.ap .le [(I 0),(V 2)])::(.ap .lt [(V 2),(V 3)])::(.ap .le [(V 3),ad3])::(.ap .le [(V 2),(.ap (.usr 63) [acw,abx,(V 3)])])::(.ap .le [(.ap (.usr 63) [acw,abx,(V 3)]),(V 2)])::aqs
abbrev aqt:List X:=(.ap .le [LoI,ak3])::(.ap .le [ak3,HiI])::(.ap .le [LoI,ak4])::(.ap .le [ak4,HiI])::(.ap .le [LoI,ak5])::(.ap .le [ak5,HiI])::aw0::aw1::ak2::ak0::ag1::ajh
abbrev aqu:List X:=(.ap .not [(.ap .eq [aen,(I 0)])])::(.ap .not [adn])::ado::ajg
abbrev aji:List X:=(.ap .le [(I 0),(V 2)])::(.ap .lt [(V 2),(V 3)])::(.ap .le [(V 3),aen])::(.ap .le [(V 2),(.ap (.usr 63) [abx,aar,(V 3)])])::(.ap .le [(.ap (.usr 63) [abx,aar,(V 3)]),(V 2)])::aqu
abbrev aqv:List X:=(.ap .le [LoI,(.ap (.cell 0) [ab0,(I 0)])])::(.ap .le [(.ap (.cell 0) [ab0,(I 0)]),HiI])::(.ap .le [LoI,(.ap (.cell 1) [ab0,(I 0)])])::(.ap .le [(.ap (.cell 1) [ab0,(I 0)]),HiI])::(.ap .le [LoI,(.ap (.cell 2) [ab0,(I 0)])])::(.ap .le [(.ap (.cell 2) [ab0,(I 0)]),HiI])::(.ap (.typ (.sl [(.int .u8)])) [(.ap (.usr 46) [ab0])])::(.ap (.typ (.sl [(.int .u8)])) [(.ap (.usr 47) [ab0])])::(.ap .le [(I 1),(.ap .len [ab0])])::(.ap .le [(.ap .len [ab0]),(I 400)])::(.ap .not [ad2])::aji
abbrev aku:List X:=ah0::ak6::acg::acg::(.ap .not [ah1])::amr
abbrev aqw:List X:=(.ap .le [LoI,ahx])::(.ap .le [ahx,HiI])::(.ap .le [LoI,ahy])::(.ap .le [ahy,HiI])::(.ap .le [LoI,ahz])::(.ap .le [ahz,HiI])::aq8::aq9::ah2::(.ap .le [afm,(I 400)])::ahw::ad1::aku
abbrev a2y:List X:=aky::ak1::akz::aqw
abbrev aqx:List X:=(.ap .not [(.ap .eq [ad3,(I 0)])])::adn::ado::aku
abbrev ajj:List X:=(.ap .le [(I 0),(V 2)])::(.ap .lt [(V 2),(V 3)])::(.ap .le [(V 3),ad3])::(.ap .le [(V 2),(.ap (.usr 63) [acw,aar,(V 3)])])::(.ap .le [(.ap (.usr 63) [acw,aar,(V 3)]),(V 2)])::aqx
abbrev aqy:List X:=(.ap .le [LoI,ak3])::(.ap .le [ak3,HiI])::(.ap .le [LoI,ak4])::(.ap .le [ak4,HiI])::(.ap .le [LoI,ak5])::(.ap .le [ak5,HiI])::aw0::aw1::ak2::ak0::ag1::ajj
abbrev anr:List X:=ah0::acg::acg::acg::anv::ahu::amq
abbrev aqz:List X:=(.ap .le [LoI,ahx])::(.ap .le [ahx,HiI])::(.ap .le [LoI,ahy])::(.ap .le [ahy,HiI])::(.ap .le [LoI,ahz])::(.ap .le [ahz,HiI])::aq8::aq9::ah2::(.ap .le [afm,(I 400)])::ahw::ad1::anr
abbrev a2z:List X:=(.ap .le [(.ap .len [anu]),(I 40)])::(.ap .le [(I 1),(.ap .len [akv])])::(.ap .le [(.ap .len [akv]),(I 400)])::aqz
abbrev ant:List X:=(.ap .not [(.ap .lt [(I 0),afn])])::(.ap .le [afn,(I 4)])::(.ap .not [(.ap .lt [(I 2),(V 1)])])::az8
abbrev awx:List X:=acg::acg::acg::acg::ant
def bno:List VC:=[(((.ap .not [(.ap .lt [(I 2),(V 1)])])::az8),(.ap .le [afn,(I 4)])),
 (amq,ahu),
 (((.ap .lt [(I 1),afn])::ahu::amq),(.ap .le [(.ap .len [(.ap (.cell 0) [(V 0),(I 1)])]),(I 40)])),
 ((ah1::amr),awz),
 (as4,akx),
 ((akx::as4),ah0),
 ((akx::as4),ak6),
 ((akx::as4),(.ap .le [aen,(I 40)])),
 ((akx::as4),(.ap .le [(.ap .len [ahj]),(I 40)])),
 ((ahw::ad1::ao8),ah2),
 (az9,aky),
 (az9,ak1),
 (az9,akz),
 (a0a,(.ap .le [(I 1),ad3])),
 (a0a,(.ap .le [(I 0),(.ap (.usr 63) [acw,abx,(I 1)])])),
 (a0a,(.ap .le [(.ap (.usr 63) [acw,abx,(I 1)]),(I 0)])),
 ((amt::aem::ao9),(.ap .le [(V 3),ahv])),
 ((amt::aem::ao9),(.ap .le [ahv,(V 3)])),
 (((.ap .not [amt])::aem::ao9),(.ap .le [(V 2),ahv])),
 (((.ap .not [amt])::aem::ao9),(.ap .le [ahv,(V 2)])),
 ((ag1::ao9),ak2),
 ((ag1::ao9),ak0),
 (aqn,(.ap .le [(.ap .len [ajk]),(I 40)])),
 (aqn,(.ap .le [(I 1),(.ap .len [ahk])])),
 (aqn,(.ap .le [(.ap .len [ahk]),(I 400)])),
 (aqo,(.ap .le [(I 1),aen])),
 (aqo,(.ap .le [(I 0),(.ap (.usr 63) [abx,ahj,(I 1)])])),
 (aqo,(.ap .le [(.ap (.usr 63) [abx,ahj,(I 1)]),(I 0)])),
 ((aq0::ad2::ajf),(.ap .le [(V 3),arf])),
 ((aq0::ad2::ajf),(.ap .le [arf,(V 3)])),
 (((.ap .not [aq0])::ad2::ajf),(.ap .le [(V 2),arf])),
 (((.ap .not [aq0])::ad2::ajf),(.ap .le [arf,(V 2)])),
 (((.ap .not [ad2])::ajf),(.ap .le [(I 1),(.ap .len [ab0])])),
 (((.ap .not [ad2])::ajf),(.ap .le [(.ap .len [ab0]),(I 400)])),
 (aqp,(.ap .le [(.ap .len [ara]),(I 40)])),
 (aqp,(.ap .le [(I 1),aq4])),
 (aqp,(.ap .le [aq4,(I 400)])),
 (anq,ah0),
 (anq,ak6),
 (anq,(.ap .le [aen,(I 40)])),
 (anq,acg),
 ((ahw::ad1::ajg),ah2),
 (aqr,aky),
 (aqr,ak1),
 (aqr,akz),
 (aqs,(.ap .le [(I 1),ad3])),
 (aqs,(.ap .le [(I 0),(.ap (.usr 63) [acw,abx,(I 1)])])),
 (aqs,(.ap .le [(.ap (.usr 63) [acw,abx,(I 1)]),(I 0)])),
 ((amt::aem::ajh),(.ap .le [(V 3),ahv])),
 ((amt::aem::ajh),(.ap .le [ahv,(V 3)])),
 (((.ap .not [amt])::aem::ajh),(.ap .le [(V 2),ahv])),
 (((.ap .not [amt])::aem::ajh),(.ap .le [ahv,(V 2)])),
 ((ag1::ajh),ak2),
 ((ag1::ajh),ak0),
 (aqt,(.ap .le [(.ap .len [ajk]),(I 40)])),
 (aqt,(.ap .le [(I 1),(.ap .len [ahk])])),
 (aqt,(.ap .le [(.ap .len [ahk]),(I 400)])),
 (aqu,(.ap .le [(I 1),aen])),
 (aqu,(.ap .le [(I 0),(.ap (.usr 63) [abx,aar,(I 1)])])),
 (aqu,(.ap .le [(.ap (.usr 63) [abx,aar,(I 1)]),(I 0)])),
 ((aq1::ad2::aji),(.ap .le [(V 3),arh])),
 ((aq1::ad2::aji),(.ap .le [arh,(V 3)])),
 (((.ap .not [aq1])::ad2::aji),(.ap .le [(V 2),arh])),
 (((.ap .not [aq1])::ad2::aji),(.ap .le [arh,(V 2)])),
 (((.ap .not [ad2])::aji),(.ap .le [(I 1),(.ap .len [ab0])])),
 (((.ap .not [ad2])::aji),(.ap .le [(.ap .len [ab0]),(I 400)])),
 (aqv,(.ap .le [(.ap .len [arb]),(I 40)])),
 (aqv,(.ap .le [(I 1),aq5])),
 (aqv,(.ap .le [aq5,(I 400)])),
 (((.ap .not [ah1])::amr),ah0),
 (((.ap .not [ah1])::amr),ak6),
 (((.ap .not [ah1])::amr),acg),
 (((.ap .not [ah1])::amr),acg),
 ((ahw::ad1::aku),ah2),
 (aqw,aky),
 (aqw,ak1),
 (aqw,akz),
 (aqx,(.ap .le [(I 1),ad3])),
 (aqx,(.ap .le [(I 0),(.ap (.usr 63) [acw,aar,(I 1)])])),
 (aqx,(.ap .le [(.ap (.usr 63) [acw,aar,(I 1)]),(I 0)])),
 ((aq2::aem::ajj),(.ap .le [(V 3),ari])),
 ((aq2::aem::ajj),(.ap .le [ari,(V 3)])),
 (((.ap .not [aq2])::aem::ajj),(.ap .le [(V 2),ari])),
 (((.ap .not [aq2])::aem::ajj),(.ap .le [ari,(V 2)])),
 ((ag1::ajj),ak2),
 ((ag1::ajj),ak0),
 (aqy,(.ap .le [(.ap .len [ard]),(I 40)])),
 (aqy,(.ap .le [(I 1),(.ap .len [akw])])),
 (aqy,(.ap .le [(.ap .len [akw]),(I 400)])),
 ((anv::ahu::amq),ah0),
 ((anv::ahu::amq),acg),
 ((anv::ahu::amq),acg),
 ((anv::ahu::amq),acg),
 ((ahw::ad1::anr),ah2),
 (aqz,(.ap .le [(.ap .len [anu]),(I 40)])),
 (aqz,(.ap .le [(I 1),(.ap .len [akv])])),
 (aqz,(.ap .le [(.ap .len [akv]),(I 400)])),
 (ant,acg),
 (ant,acg),
 (ant,acg),
 (ant,acg)]
def bnn:List (List X×List (List X)):=[(((.ap .le [LoI,ag0])::(.ap .le [ag0,HiI])::(.ap .not [(.ap .eq [ag0,(I 0)])])::a7a),[[(I 0),aar,aar,(.lit (.bool false))],[(I 2)]]),
 (((.ap .le [LoI,ag0])::(.ap .le [ag0,HiI])::(.ap .lt [(V 1),(I 0)])::(.ap .eq [ag0,(I 0)])::a7a),[[(I 0),aar,aar,(.lit (.bool false))],[(I 2)]]),
 (((.ap .lt [(I 2),(V 1)])::az8),[[(I 0),aar,aar,(.lit (.bool false))],[(I 2)]]),
 (((.ap .eq [afm,(I 0)])::ad1::ao8),[[(I 0),aar,aar,(.lit (.bool false))],[(I 2)]]),
 ((aq6::bc8),[[(V 1),ady,aht,(.ap .eq [(.ap .len [(.ap (.usr 40) [ahj,(.ap (.usr 46) [ams]),(.ap (.usr 47) [ams])])]),(I 0)])],[(I 0)]]),
 (((.ap .not [aq6])::bc8),[[(V 1),ady,aht,(.lit (.bool false))],[(I 0)]]),
 (((.ap .eq [ad3,(I 0)])::adn::ado::ao8),[[(I 0),aar,aar,(.lit (.bool false))],[(I 2)]]),
 (((.ap .le [(.ap .len [ajk]),(I 40)])::(.ap .le [(I 1),(.ap .len [ahk])])::(.ap .le [(.ap .len [ahk]),(I 400)])::aqn),[[(V 1),aff,ajk,(.ap .eq [(.ap .len [(.ap (.usr 40) [ahj,(.ap (.usr 46) [ahk]),(.ap (.usr 47) [ahk])])]),(I 0)])],[(I 0)]]),
 (((.ap .eq [aen,(I 0)])::(.ap .not [adn])::ado::ao8),[[(I 0),aar,aar,(.lit (.bool false))],[(I 2)]]),
 (((.ap .le [(.ap .len [ara]),(I 40)])::(.ap .le [(I 1),aq4])::(.ap .le [aq4,(I 400)])::aqp),[[(V 1),ab0,ara,(.lit (.bool true))],[(I 0)]]),
 (((.ap .eq [afm,(I 0)])::ad1::ajg),[[(I 0),aar,aar,(.lit (.bool false))],[(I 2)]]),
 ((aq6::a2x),[[(V 1),ady,aht,aq7],[(I 0)]]),
 (((.ap .not [aq6])::a2x),[[(V 1),ady,aht,(.lit (.bool false))],[(I 0)]]),
 (((.ap .eq [ad3,(I 0)])::adn::ado::ajg),[[(I 0),aar,aar,(.lit (.bool false))],[(I 2)]]),
 (((.ap .le [(.ap .len [ajk]),(I 40)])::(.ap .le [(I 1),(.ap .len [ahk])])::(.ap .le [(.ap .len [ahk]),(I 400)])::aqt),[[(V 1),aff,ajk,(.ap .eq [(.ap .len [(.ap (.usr 40) [aar,(.ap (.usr 46) [ahk]),(.ap (.usr 47) [ahk])])]),(I 0)])],[(I 0)]]),
 (((.ap .eq [aen,(I 0)])::(.ap .not [adn])::ado::ajg),[[(I 0),aar,aar,(.lit (.bool false))],[(I 2)]]),
 (((.ap .le [(.ap .len [arb]),(I 40)])::(.ap .le [(I 1),aq5])::(.ap .le [aq5,(I 400)])::aqv),[[(V 1),ab0,arb,(.lit (.bool true))],[(I 0)]]),
 (((.ap .eq [afm,(I 0)])::ad1::aku),[[(I 0),aar,aar,(.lit (.bool false))],[(I 2)]]),
 ((aq7::a2y),[[(V 1),ady,aht,aq7],[(I 0)]]),
 (((.ap .not [aq7])::a2y),[[(V 1),ady,aht,(.lit (.bool false))],[(I 0)]]),
 (((.ap .eq [ad3,(I 0)])::adn::ado::aku),[[(I 0),aar,aar,(.lit (.bool false))],[(I 2)]]),
 (((.ap .le [(.ap .len [ard]),(I 40)])::(.ap .le [(I 1),(.ap .len [akw])])::(.ap .le [(.ap .len [akw]),(I 400)])::aqy),[[(V 1),aff,ard,(.ap .eq [(.ap .len [(.ap (.usr 40) [aar,(.ap (.usr 46) [akw]),(.ap (.usr 47) [akw])])]),(I 0)])],[(I 0)]]),
 (((.ap .not [adn])::ado::aku),[[(I 0),aar,aar,(.lit (.bool false))],[(I 2)]]),
 (((.ap .eq [afm,(I 0)])::ad1::anr),[[(I 0),aar,aar,(.lit (.bool false))],[(I 2)]]),
 ((awy::a2z),[[(V 1),ady,anu,awy],[(I 0)]]),
 (((.ap .not [awy])::a2z),[[(V 1),ady,anu,(.lit (.bool false))],[(I 0)]]),
 ((adn::ado::anr),[[(I 0),aar,aar,(.lit (.bool false))],[(I 2)]]),
 (((.ap .not [adn])::ado::anr),[[(I 0),aar,aar,(.lit (.bool false))],[(I 2)]]),
 ((ad1::awx),[[(I 0),aar,aar,(.lit (.bool false))],[(I 2)]]),
 ((adn::ado::awx),[[(I 0),aar,aar,(.lit (.bool false))],[(I 2)]]),
 (((.ap .not [adn])::ado::awx),[[(I 0),aar,aar,(.lit (.bool false))],[(I 2)]])]
theorem bye:runM Try.prog (cxOf Try.prog (acr (tab T25)) 10 16 ⟨ap4 br0,noY,U.lc⟩ 3 25) hs25 Try.f25 (aau Try.f25) S25=some (bno,bnn):=by kernel_rfl
set_option maxHeartbeats 40000000 in
theorem b0m:∀ z∈bno,VCok U z:=by
  unfold bno
  repeat' (first | exact aa7 _ | refine aai (fun v hh=>?_) ?_)
  all_goals
    simp only [wA,wB,aeg,afc,us12,us22,us40,us46,us47,us63,us66,us67,us68,us69,us70,chkC,len0,aas,adj,c2_0,c2_1,Bool.false_and,aa1,acf,aaq,List.nil_append,Ba,Dt,aj5,aj6,afq,afr,atR3,atR4,aix,be0,asl,ama,aqa,ahi,ap7,beh,aop,aew,aex,afx,at0,a7a,acw,ady,abx,aff,ab0,aar,ahj,amt,aht,ams,acg,aq0,aq1,aq2,ad1,aq3,afm,ahu,ajk,ahk,aq6,aq7,akx,afn,adn,ahv,ad3,aem,ahw,anu,akv,ado,awy,ahx,ahy,ahz,aky,akz,ak0,ak1,ak2,aq8,aq9,ah0,aen,ad2,ah1,ah2,ag0,ara,aq4,arb,aq5,ard,akw,anv,ak3,ak4,ak5,ag1,awz,ak6,arf,arh,ari,aw0,aw1,az8,amq,amr,as4,ao8,az9,bc8,a0a,ao9,aqn,aqo,ajf,aqp,anq,ajg,aqr,a2x,aqs,ajh,aqt,aqu,aji,aqv,aku,aqw,a2y,aqx,ajj,aqy,anr,aqz,a2z,ant,awx] at hh
    simp only [wA,wB,aeg,afc,us12,us22,us40,us46,us47,us63,us66,us67,us68,us69,us70,chkC,len0,aas,adj,c2_0,c2_1,Bool.false_and,aa1,acf,aaq,List.nil_append,Ba,Dt,aj5,aj6,afq,afr,atR3,atR4,aix,be0,asl,ama,aqa,ahi,ap7,beh,aop,aew,aex,afx,at0,akb] at ⊢
    first
    | (repeat (obtain⟨_,hh⟩:=hh)
       first | (apply agr<;>first | assumption | omega) | omega)
    | (have hl:=@five (v 1).iv
       rcases hl with hl | hl | hl | hl | hl
       all_goals first
         | (repeat (obtain⟨_,hh⟩:=hh)
            exfalso
            omega)
         | (try simp only [hl,z01,z11,z21,tn0,tn1,tn2,tn3,be1,bfq,aix,be0,asl,ama,aqa,ahi,ap7,aj5,aj6,bju,bma,bmb,bmc,bmi,bmj,bmk,bbm,bvy,bvz,bv0] at hh ⊢
            repeat (obtain⟨_,hh⟩:=hh)
            first | omega | grind [be8,→ b0j,a1z,flen,be_y,be_n,be_e,bfq,a1e,avu,a9e,a96,atR3,atR4,→ afk,agt,bbe,afq,afr,bpf,bpg,bph,ch_0,ch_1,ch_2,bv6,bv5,beh,bpm,no_y,no_n,bp3,ahi]))
set_option maxHeartbeats 40000000 in
theorem b0l:∀ o∈bnn,∀ σ:Sg,σ.toUs=U→@Holds σ o.1→∃ q∈S25.outs,@Holds σ q.1∧q.2.map (@denL σ)=o.2.map (@denL σ):=by
  intro o ho σ hU hh
  obtain⟨v⟩:=σ
  cases hU
  simp only [bnn,Mn,List.not_mem_nil,or_false] at ho
  repeat' (first | (rcases ho with rfl | ho) | subst ho)
  all_goals
    refine⟨_,Ms ..,by simp only [wA,wB,aeg,afc],?_⟩
    simp only [wA,wB,aeg,afc,us12,us22,us40,us46,us47,us63,us66,us67,us68,us69,us70,chkC,len0,aas,adj,c2_0,c2_1,Bool.false_and,aa1,acf,aaq,List.nil_append,Ba,Dt,aj5,aj6,afq,afr,atR3,atR4,aix,be0,asl,ama,aqa,ahi,ap7,beh,aop,aew,aex,afx,at0,a7a,acw,ady,abx,aff,ab0,aar,ahj,amt,aht,ams,acg,aq0,aq1,aq2,ad1,aq3,afm,ahu,ajk,ahk,aq6,aq7,akx,afn,adn,ahv,ad3,aem,ahw,anu,akv,ado,awy,ahx,ahy,ahz,aky,akz,ak0,ak1,ak2,aq8,aq9,ah0,aen,ad2,ah1,ah2,ag0,ara,aq4,arb,aq5,ard,akw,anv,ak3,ak4,ak5,ag1,awz,ak6,arf,arh,ari,aw0,aw1,az8,amq,amr,as4,ao8,az9,bc8,a0a,ao9,aqn,aqo,ajf,aqp,anq,ajg,aqr,a2x,aqs,ajh,aqt,aqu,aji,aqv,aku,aqw,a2y,aqx,ajj,aqy,anr,aqz,a2z,ant,awx] at hh
    simp only [List.map_cons,List.map_nil,wA,wB,aeg,afc,us12,us22,us40,us46,us47,us63,us66,us67,us68,us69,us70,chkC,len0,aas,adj,c2_0,c2_1,Bool.false_and,aa1,acf,aaq,List.nil_append,Ba,Dt,aj5,aj6,afq,afr,atR3,atR4,aix,be0,asl,ama,aqa,ahi,ap7,beh,aop,aew,aex,afx,at0,akb,w_eq]
    have hl:=@five (v 1).iv
    rcases hl with hl | hl | hl | hl | hl
    all_goals first
      | (repeat (obtain⟨_,hh⟩:=hh)
         exfalso
         omega)
      | (try simp only [hl,z01,z11,z21,tn0,tn1,tn2,tn3,be1,aix,be0,asl,ama,aqa,ahi,ap7,aj5,aj6,bju,bma,bmb,bmc,bmi,bmj,bmk,bbm,bvy,bvz,bv0] at hh ⊢
         try first
          | (have hd:List.drop (v 2).iv.toNat (List.take ((v 2).iv+1).toNat ((v 0).cell 1 0).rows)=[((v 0).cell 1 0).rows.getD (abp ((v 0).cell 1 0).rows ((v 0).cell 2 0).rows ((v 0).cell 1 0).rows.length) []]:=(by have hh2:=hh;(repeat (obtain⟨_,hh2⟩:=hh2));exact bbo (i:=(v 3).iv) (by assumption) (by assumption) (by assumption) (by assumption) (by assumption) (by assumption));simp only [hd,afq,afr,atg3,atg4,auk] at hh ⊢)
          | (have hd:List.drop (v 2).iv.toNat (List.take ((v 2).iv+1).toNat ((v 0).cell 1 0).rows)=[((v 0).cell 1 0).rows.getD (abp ((v 0).cell 1 0).rows [] ((v 0).cell 1 0).rows.length) []]:=(by have hh2:=hh;(repeat (obtain⟨_,hh2⟩:=hh2));exact bbo (i:=(v 3).iv) (by assumption) (by assumption) (by assumption) (by assumption) (by assumption) (by assumption));simp only [hd,afq,afr,atg3,atg4,auk] at hh ⊢)
          | (have hd:List.drop (v 2).iv.toNat (List.take ((v 2).iv+1).toNat ((v 0).cell 2 0).rows)=[((v 0).cell 2 0).rows.getD (abp ((v 0).cell 2 0).rows ((v 0).cell 3 0).rows ((v 0).cell 2 0).rows.length) []]:=(by have hh2:=hh;(repeat (obtain⟨_,hh2⟩:=hh2));exact bbo (i:=(v 3).iv) (by assumption) (by assumption) (by assumption) (by assumption) (by assumption) (by assumption));simp only [hd,afq,afr,atg3,atg4,auk] at hh ⊢)
          | (have hd:List.drop (v 2).iv.toNat (List.take ((v 2).iv+1).toNat ((v 0).cell 2 0).rows)=[((v 0).cell 2 0).rows.getD (abp ((v 0).cell 2 0).rows [] ((v 0).cell 2 0).rows.length) []]:=(by have hh2:=hh;(repeat (obtain⟨_,hh2⟩:=hh2));exact bbo (i:=(v 3).iv) (by assumption) (by assumption) (by assumption) (by assumption) (by assumption) (by assumption));simp only [hd,afq,afr,atg3,atg4,auk] at hh ⊢)
         repeat (obtain⟨_,hh⟩:=hh)
         first | omega | grind [be8,→ bos,b07,eq00,→ afk,agt,bbe,bpf,bpg,bph,ch_0,ch_1,ch_2,bv6,bv5,beh,no_y,no_n,bp3,ahi])
theorem c25:a4s U Try.prog 25 S25 :=
 a4s.ofV (P:=Try.prog) (U:=U) (T:=(tab T25)) (l:=br0) (y:=noY) (dp:=3) (f:=25) (fn:=Try.f25) (fuel:=10) (fk:=16) (hs:=hs25) (S:=S25) (v:=bno) (outs:=bnn) mixed hT25 bwn at25 (aez (by kernel_rfl)) bye b0m b0l
end Go.Proofs.Ytlbbkmcegbeckaa
