/-
  Contracts of a seat's functions: what comes into the place of what is chosen, as the document says. Conditions: none.
-/
import Derived.Test.YtlbbkmcegbeckaaLdO
import Derived.Test.YtlbbkmcegbeckaaLdH
set_option linter.all false
set_option maxRecDepth 100000
noncomputable section
namespace Go.Proofs.Ytlbbkmcegbeckaa
open Go.Sx Go.Proofs
theorem us71(l n fr into fresh:CD):@Us.u U 71 [l,n,fr,into,fresh]=repT l n.iv fr.rows into.rows fresh.rows:=rfl
theorem us72(l n fr into fresh:CD):@Us.u U 72 [l,n,fr,into,fresh]=vInt .i64 (ai0 l n.iv fr.rows into.rows fresh.rows):=rfl
def fwQ(l fr:CD)(i:Int):List (List CD):=(fr.rows.take i.toNat).foldl ac2 l.rows
theorem us56(l fr i:CD):@Us.u U 56 [l,fr,i]=mkz (fwQ l fr i.iv):=rfl
theorem att(b:Bool)(r:List (List CD)):(CD.sl b r).rows=r:=rfl
theorem amb(b:Bool)(x:CD):(CD.sl b x.rows).len=x.len:=rfl
theorem al0(b:Bool):(CD.sl b []).len=0:=rfl
theorem bwi{z:Int}:z<0∨z=0∨z=1∨z=2∨2<z:=by omega
section
variable {l fr x:CD} {i n:Int} {f into fresh:List (List CD)}
theorem fw_z:fwQ l fr 0=l.rows:=rfl
theorem fw_s(hT:Typ (.sl sRun) fr)(h0:0≤i)(h:i<fr.len):fwQ l fr (i+1)=ac2 (fwQ l fr i) [fr.cell i 0,fr.cell i 1,fr.cell i 2,fr.cell i 3,fr.cell i 4]:=by
 unfold fwQ
 rw [adx hT h0 h,List.foldl_append]
 rfl
theorem fw_e(hT:Typ (.sl sRun) fr)(h:¬ i<fr.len):fwQ l fr i=fr.rows.foldl ac2 l.rows:=by
 unfold fwQ
 rw [abh hT h]
theorem bcj(rows:List (List CD))(r:List CD):mkz (ac2 rows r)=.sl false (ac2 rows r):=by
 unfold mkz
 have:(ac2 rows r).isEmpty=false:=by
  unfold ac2
  cases rows.takeWhile _<;>rfl
 rw [this]
theorem ba1(rows:List (List CD))(r:List CD):(ac2 rows r).length=rows.length+1:=by
 unfold ac2
 rw [List.length_append,List.length_cons]
 have:=congrArg List.length (List.takeWhile_append_dropWhile (p:=fun x=>decide (cmpC (at' x 3) (at' r 3)≤0)) (l:=rows))
 rw [List.length_append] at this
 omega
theorem bd2{r:List CD}(h:(x.len:Int)≤1000):(CD.sl false (ac2 x.rows r)).len=x.len+1:=by
 have h:x.len≤1000:=by omega
 show clip (ac2 x.rows r).length=_
 rw [ba1]
 have e:x.len=min x.rows.length maxN:=rfl
 unfold clip
 unfold maxN at *
 omega
theorem a5d(hT:Typ sLev l)(h0:0≤n)(h:n<l.len):Typ (.sl sRun) (l.cell n 0):=hT.cell (j:=0) h0 h rfl
theorem bqi(h:¬ aam l=true):agl l n f into fresh=false:=by
 unfold agl
 rw [Bool.not_eq_true] at h
 rw [h]
 rfl
theorem bqj(h:n<0):agl l n f into fresh=false:=by
 unfold agl
 rw [decide_eq_false (show ¬ 0≤n by omega)]
 simp
theorem bqk(h:2<n):agl l n f into fresh=false:=by
 unfold agl
 rw [decide_eq_false (show ¬ n≤2 by omega)]
 simp
theorem rp_0(h:aam l=true):agl l 0 f into fresh=(f.all (metR (l.cell 0 0).rows)&&into.all (metR (l.cell 1 0).rows)&&aam (repD l 0 f into fresh)):=by
 unfold agl
 rw [h]
 rfl
theorem rp_1(h:aam l=true):agl l 1 f into fresh=(f.all (metR (l.cell 1 0).rows)&&into.all (metR (l.cell 2 0).rows)&&aam (repD l 1 f into fresh)):=by
 unfold agl
 rw [h]
 rfl
theorem rp_2(h:aam l=true):agl l 2 f into fresh=(f.all (metR (l.cell 2 0).rows)&&into.all (metR (l.cell 3 0).rows)&&aam (repD l 2 f into fresh)):=by
 unfold agl
 rw [h]
 rfl
theorem rd_0:repD l 0 f into fresh=.sl false [[mkz ((refD l 0).rows.filter (woR f))],[mkz (fresh.foldl ac2 ((refD l 1).rows.filter (woR into)))],[refD l 2],[refD l 3]]:=rfl
theorem rd_1:repD l 1 f into fresh=.sl false [[refD l 0],[mkz ((refD l 1).rows.filter (woR f))],[mkz (fresh.foldl ac2 ((refD l 2).rows.filter (woR into)))],[refD l 3]]:=rfl
theorem rd_2:repD l 2 f into fresh=.sl false [[refD l 0],[refD l 1],[mkz ((refD l 2).rows.filter (woR f))],[mkz (fresh.foldl ac2 ((refD l 3).rows.filter (woR into)))]]:=rfl
theorem bqf(h:n<l.len):refD l n=.sl false (l.cell n 0).rows:=if_pos h
theorem bqe(h:¬ n<l.len):refD l n=.sl true []:=if_neg h
end
theorem aly:(mkz []).len=0:=rfl
theorem ais(p:List CD→Bool):([]:List (List CD)).filter p=[]:=rfl
def T29:List (FuncId×Fsp):=[(17,S16),(69,S69),(70,S70)]
theorem hT29:ae1 U Try.prog T29:=.cons c17 (.cons c69 (.cons c70 .nil))
def br1:List (FuncId×Inl):=[(53,⟨Try.f53,⟨aa0 [],hintA [(5,as53)]⟩⟩)]
theorem bwo:ajx U Try.prog br1:=.cons (.of at53 (by kernel_rfl)) .nil
def b29(F:Fm)(H:HP):X:=.ap (.usr 48) [allX 8 F H (Nat.succ (lvN (.var 1) H)),.var 3]
def lp29:Lp:=⟨[(.slot 11,.val sR),(.slot 13,.int .i64)],[0,2,4,6,7,8,9,10,12],[0,11],fun F H k=>[.ap .le [zI,.var (k+1)],.ap .le [.var (k+1),.ap .len [.var 5]],.ap .le [.ap .len [.var k],.ap (.add .i64) [I 40,.var (k+1)]],.ap .same [.var k,.ap (.usr 56) [b29 F H,.var 5,.var (k+1)]]],fun F H k=>.ap (.sub .i64) [.ap .len [.var 5],.var (k+1)]⟩
def hs29:Hs:=⟨aa0 [(9,lp29)],hintA [(3,as12),(4,fun F H=>[fzP 8 0,fzP 8 1,fzP 8 2,fzP 8 3,.ap .le [.ap .len [allX 8 F H 0],I 40],.ap .le [.ap .len [allX 8 F H 1],I 40],.ap .le [.ap .len [allX 8 F H 2],I 40],.ap .le [.ap .len [allX 8 F H 3],I 40]])]⟩
def S29:Fsp:=⟨[(false,[sLev]),(true,[.int .i64,sR,sR,.bool]),(false,[sR])],[.ap .not [.ap (.usr 12) [.var 0,I 40]],.ap .le [.ap .len [.var 5],I 40]],[(false,[sLev]),(false,[.int .i64])],[([],[[.ap (.usr 71) [.var 0,.var 1,.var 2,.var 3,.var 5]],[.ap (.usr 72) [.var 0,.var 1,.var 2,.var 3,.var 5]]])],false⟩
abbrev apb:X:=(.ap (.usr 54) [(V 6),(.ap (.cell 0) [(V 5),(V 7)]),(.ap (.cell 1) [(V 5),(V 7)]),(.ap (.cell 2) [(V 5),(V 7)]),(.ap (.cell 3) [(V 5),(V 7)]),(.ap (.cell 4) [(V 5),(V 7)])])
abbrev a0d:X:=(.ap (.mk false) [(.ap (.mk false) [(.ap (.cell 0) [(V 0),(I 0)])])])
abbrev apc:X:=(.ap (.mk false) [(.ap (.mk false) [(.ap (.cell 0) [(V 0),(I 1)])])])
abbrev aal:X:=(.ap (.nil true) [])
abbrev ab7:X:=(.ap (.typ (.sl [(.int .i64),(.int .i64),(.int .i64),(.sl [(.int .u8)]),(.sl [(.int .u8)])])) [apb])
abbrev ahl:X:=(.ap (.mk false) [(.ap (.mk false) [(.ap (.cell 0) [(V 0),(I 2)])])])
abbrev a0e:X:=(.ap .snoc [(.ap .snoc [(.ap (.nil false) []),(.ap (.usr 48) [a0d,(V 2)])]),(V 6)])
abbrev ab3:X:=(.ap .lt [(V 7),(.ap .len [(V 5)])])
abbrev af3:X:=(.ap (.mk false) [(.ap (.mk false) [(.ap (.cell 0) [(V 0),(I 3)])])])
abbrev adp:X:=(.ap .le [(.ap .len [apb]),(.ap (.add .i64) [(I 40),(.ap (.add .i64) [(V 7),(I 1)])])])
abbrev anz:X:=(.ap (.usr 48) [aal,(V 3)])
abbrev adq:X:=(.ap .le [(.ap .len [(V 6)]),(.ap (.add .i64) [(I 40),(V 7)])])
abbrev aby:X:=(.ap (.usr 50) [aal,(V 3)])
abbrev ak7:X:=(.ap (.usr 48) [aal,(V 2)])
abbrev ag2:X:=(.ap .same [apb,(.ap (.usr 56) [anz,(V 5),(.ap (.add .i64) [(V 7),(I 1)])])])
abbrev adg:X:=(.ap .le [(V 1),(I 0)])
abbrev ach:X:=(.ap .le [(.ap .len [aal]),(I 40)])
abbrev an0:X:=(.ap .snoc [(.ap (.nil false) []),a0d])
abbrev axq:X:=(.ap .snoc [(.ap .snoc [an0,(.ap (.usr 48) [apc,(V 2)])]),(V 6)])
abbrev axk:X:=(.ap .snoc [(.ap .snoc [(.ap .snoc [an0,apc]),(.ap (.usr 48) [ahl,(V 2)])]),(V 6)])
abbrev ag4:X:=(.ap .same [anz,(.ap (.usr 56) [anz,(V 5),(I 0)])])
abbrev adr:X:=(.ap .le [(V 7),(.ap .len [(V 5)])])
abbrev ah3:X:=(.ap (.usr 22) [(.ap .snoc [(.ap .snoc [a0e,aal]),aal])])
abbrev ag5:X:=(.ap .same [(V 6),(.ap (.usr 56) [anz,(V 5),(V 7)])])
abbrev an1:X:=(.ap .snoc [(.ap .snoc [(.ap .snoc [(.ap .snoc [(.ap (.nil false) []),ak7]),(V 6)]),aal]),aal])
abbrev an2:X:=(.ap .snoc [(.ap .snoc [(.ap .snoc [(.ap .snoc [(.ap (.nil false) []),aal]),ak7]),(V 6)]),aal])
abbrev an3:X:=(.ap .snoc [(.ap .snoc [(.ap .snoc [(.ap .snoc [(.ap (.nil false) []),aal]),aal]),ak7]),(V 6)])
abbrev ah4:X:=(.ap .le [(.ap .len [(.ap (.cell 0) [(V 0),(I 0)])]),(I 40)])
abbrev ajp:X:=(.ap (.usr 48) [apc,(V 3)])
abbrev afo:X:=(.ap .le [(V 1),(I 1)])
abbrev aeo:X:=(.ap (.usr 50) [aal,(V 2)])
abbrev ak8:X:=(.ap .le [(.ap .len [(.ap (.cell 0) [(V 0),(I 3)])]),(I 40)])
abbrev ah5:X:=(.ap (.usr 22) [(.ap .snoc [axq,aal])])
abbrev ae7:X:=(.ap (.usr 50) [a0d,(V 2)])
abbrev aci:X:=(.ap .not [adg])
abbrev afp:X:=(.ap .len [(V 0)])
abbrev an4:X:=(.ap .snoc [(.ap .snoc [(.ap .snoc [an0,apc]),ak7]),(V 6)])
abbrev an5:X:=(.ap .snoc [(.ap .snoc [(.ap .snoc [an0,ak7]),(V 6)]),aal])
abbrev an6:X:=(.ap .snoc [(.ap .snoc [(.ap .snoc [an0,aal]),ak7]),(V 6)])
abbrev ads:X:=(.ap .le [(I 0),(V 7)])
abbrev ah6:X:=(.ap .le [(.ap .len [a0d]),(I 40)])
abbrev agb:X:=(.ap (.usr 48) [ahl,(V 3)])
abbrev arv:X:=(.ap .snoc [a0e,ahl])
abbrev adt:X:=(.ap .not [ab3])
abbrev ah7:X:=(.ap (.usr 50) [ahl,(V 3)])
abbrev ak9:X:=(.ap .le [(.ap .len [apc]),(I 40)])
abbrev axl:X:=(.ap .same [apb,(.ap (.usr 56) [ajp,(V 5),(.ap (.add .i64) [(V 7),(I 1)])])])
abbrev ah8:X:=(.ap .lt [(I 2),afp])
abbrev ag6:X:=(.ap (.usr 22) [(V 0)])
abbrev ah9:X:=(.ap (.usr 22) [axk])
abbrev ajq:X:=(.ap (.add .i64) [(I 40),(I 0)])
abbrev ag3:X:=(.ap .le [(.ap .len [anz]),ajq])
abbrev an7:X:=(.ap .not [(.ap .lt [(I 1),afp])])
abbrev agc:X:=(.ap .not [afo])
abbrev ala:X:=(.ap (.usr 50) [apc,(V 3)])
abbrev alb:X:=(.ap (.usr 50) [apc,(V 2)])
abbrev arw:X:=(.ap (.usr 22) [(.ap .snoc [arv,af3])])
abbrev arx:X:=(.ap (.usr 22) [(.ap .snoc [arv,aal])])
abbrev arz:X:=(.ap (.usr 22) [(.ap .snoc [axq,af3])])
abbrev ag7:X:=(.ap .not [aby])
abbrev axn:X:=(.ap .le [(.ap .len [(.ap (.cell 0) [(V 0),(I 2)])]),(I 40)])
abbrev axo:X:=(.ap .same [ajp,(.ap (.usr 56) [ajp,(V 5),(I 0)])])
abbrev axp:X:=(.ap .same [(V 6),(.ap (.usr 56) [ajp,(V 5),(V 7)])])
abbrev a7b:List X:=[(.ap (.typ (.sl [(.sl [(.int .i64),(.int .i64),(.int .i64),(.sl [(.int .u8)]),(.sl [(.int .u8)])])])) [(V 0)]),(.ap .le [LoI,(V 1)]),(.ap .le [(V 1),HiI]),(.ap (.typ (.sl [(.int .i64),(.int .i64),(.int .i64),(.sl [(.int .u8)]),(.sl [(.int .u8)])])) [(V 2)]),(.ap (.typ (.sl [(.int .i64),(.int .i64),(.int .i64),(.sl [(.int .u8)]),(.sl [(.int .u8)])])) [(V 3)]),(.ap (.typ (.sl [(.int .i64),(.int .i64),(.int .i64),(.sl [(.int .u8)]),(.sl [(.int .u8)])])) [(V 5)]),(.ap .not [(.ap (.usr 12) [(V 0),(I 40)])]),(.ap .le [(.ap .len [(V 5)]),(I 40)])]
abbrev a0b:List X:=(.ap .le [LoI,ag6])::(.ap .le [ag6,HiI])::(.ap .not [(.ap .lt [(V 1),(I 0)])])::(.ap .eq [ag6,(I 0)])::a7b
abbrev amu:List X:=(.ap .lt [(I 0),afp])::(.ap .le [afp,(I 4)])::(.ap .not [(.ap .lt [(I 2),(V 1)])])::a0b
abbrev amv:List X:=(.ap .le [(.ap .len [(.ap (.cell 0) [(V 0),(I 1)])]),(I 40)])::(.ap .lt [(I 1),afp])::ah4::amu
abbrev as5:List X:=(.ap .lt [(I 3),afp])::axn::ah8::amv
abbrev apa:List X:=ah6::ak9::(.ap .le [(.ap .len [ahl]),(I 40)])::(.ap .le [(.ap .len [af3]),(I 40)])::ak8::as5
abbrev a7c:List X:=ala::ae7::adg::apa
abbrev a7d:List X:=ads::adr::adq::axp::a7c
abbrev bc9:List X:=(.ap .le [LoI,arw])::(.ap .le [arw,HiI])::adt::a7d
abbrev a0c:List X:=alb::afo::aci::apa
abbrev aw2:List X:=ads::adr::adq::(.ap .same [(V 6),(.ap (.usr 56) [agb,(V 5),(V 7)])])::ah7::a0c
abbrev a3a:List X:=(.ap .le [LoI,arz])::(.ap .le [arz,HiI])::adt::aw2
abbrev arj:List X:=(.ap (.usr 50) [ahl,(V 2)])::agc::aci::apa
abbrev aw3:List X:=ads::adr::adq::(.ap .same [(V 6),(.ap (.usr 56) [(.ap (.usr 48) [af3,(V 3)]),(V 5),(V 7)])])::(.ap (.usr 50) [af3,(V 3)])::arj
abbrev a3b:List X:=(.ap .le [LoI,ah9])::(.ap .le [ah9,HiI])::adt::aw3
abbrev anw:List X:=(.ap .not [(.ap .lt [(I 3),afp])])::axn::ah8::amv
abbrev ajl:List X:=ah6::ak9::(.ap .le [(.ap .len [ahl]),(I 40)])::ach::anw
abbrev aw4:List X:=ala::ae7::adg::ajl
abbrev aw5:List X:=ads::adr::adq::axp::aw4
abbrev a3c:List X:=(.ap .le [LoI,arx])::(.ap .le [arx,HiI])::adt::aw5
abbrev ark:List X:=alb::afo::aci::ajl
abbrev aw6:List X:=ads::adr::adq::(.ap .same [(V 6),(.ap (.usr 56) [agb,(V 5),(V 7)])])::ah7::ark
abbrev a3d:List X:=(.ap .le [LoI,ah5])::(.ap .le [ah5,HiI])::adt::aw6
abbrev arl:List X:=(.ap (.usr 50) [ahl,(V 2)])::agc::aci::ajl
abbrev aw7:List X:=ads::adr::adq::ag5::aby::arl
abbrev a3e:List X:=(.ap .le [LoI,ah9])::(.ap .le [ah9,HiI])::adt::aw7
abbrev ajm:List X:=ah6::ak9::ach::ach::(.ap .not [ah8])::amv
abbrev aw8:List X:=ala::ae7::adg::ajm
abbrev aw9:List X:=ads::adr::adq::axp::aw8
abbrev a3f:List X:=(.ap .le [LoI,ah3])::(.ap .le [ah3,HiI])::adt::aw9
abbrev arn:List X:=alb::afo::aci::ajm
abbrev axa:List X:=ads::adr::adq::ag5::aby::arn
abbrev a3g:List X:=(.ap .le [LoI,ah5])::(.ap .le [ah5,HiI])::adt::axa
abbrev aro:List X:=aeo::agc::aci::ajm
abbrev axb:List X:=ads::adr::adq::ag5::aby::aro
abbrev a3h:List X:=(.ap .le [LoI,(.ap (.usr 22) [an4])])::(.ap .le [(.ap (.usr 22) [an4]),HiI])::adt::axb
abbrev ajn:List X:=ah6::ach::ach::ach::an7::ah4::amu
abbrev axc:List X:=aby::ae7::adg::ajn
abbrev axd:List X:=ads::adr::adq::ag5::axc
abbrev a3i:List X:=(.ap .le [LoI,ah3])::(.ap .le [ah3,HiI])::adt::axd
abbrev arp:List X:=aeo::afo::aci::ajn
abbrev axe:List X:=ads::adr::adq::ag5::aby::arp
abbrev a3j:List X:=(.ap .le [LoI,(.ap (.usr 22) [an5])])::(.ap .le [(.ap (.usr 22) [an5]),HiI])::adt::axe
abbrev arq:List X:=aeo::agc::aci::ajn
abbrev axf:List X:=ads::adr::adq::ag5::aby::arq
abbrev a3k:List X:=(.ap .le [LoI,(.ap (.usr 22) [an6])])::(.ap .le [(.ap (.usr 22) [an6]),HiI])::adt::axf
abbrev anx:List X:=(.ap .not [(.ap .lt [(I 0),afp])])::(.ap .le [afp,(I 4)])::(.ap .not [(.ap .lt [(I 2),(V 1)])])::a0b
abbrev ajo:List X:=ach::ach::ach::ach::anx
abbrev axg:List X:=aby::aeo::adg::ajo
abbrev axh:List X:=ads::adr::adq::ag5::axg
abbrev a3l:List X:=(.ap .le [LoI,(.ap (.usr 22) [an1])])::(.ap .le [(.ap (.usr 22) [an1]),HiI])::adt::axh
abbrev ars:List X:=aeo::afo::aci::ajo
abbrev axi:List X:=ads::adr::adq::ag5::aby::ars
abbrev a3m:List X:=(.ap .le [LoI,(.ap (.usr 22) [an2])])::(.ap .le [(.ap (.usr 22) [an2]),HiI])::adt::axi
abbrev aru:List X:=aeo::agc::aci::ajo
abbrev axj:List X:=ads::adr::adq::ag5::aby::aru
abbrev a3n:List X:=(.ap .le [LoI,(.ap (.usr 22) [an3])])::(.ap .le [(.ap (.usr 22) [an3]),HiI])::adt::axj
def bnq:List VC:=[(((.ap .not [(.ap .lt [(I 2),(V 1)])])::a0b),(.ap .le [afp,(I 4)])),
 (amu,ah4),
 (((.ap .lt [(I 1),afp])::ah4::amu),(.ap .le [(.ap .len [(.ap (.cell 0) [(V 0),(I 1)])]),(I 40)])),
 ((ah8::amv),axn),
 (as5,ak8),
 ((ak8::as5),ah6),
 ((ak8::as5),ak9),
 ((ak8::as5),(.ap .le [(.ap .len [ahl]),(I 40)])),
 ((ak8::as5),(.ap .le [(.ap .len [af3]),(I 40)])),
 (a7c,(.ap .le [(.ap .len [ajp]),ajq])),
 (a7c,axo),
 ((ab7::ab3::a7d),adp),
 ((ab7::ab3::a7d),axl),
 ((ah7::a0c),(.ap .le [(.ap .len [agb]),ajq])),
 ((ah7::a0c),(.ap .same [agb,(.ap (.usr 56) [agb,(V 5),(I 0)])])),
 ((ab7::ab3::aw2),adp),
 ((ab7::ab3::aw2),(.ap .same [apb,(.ap (.usr 56) [agb,(V 5),(.ap (.add .i64) [(V 7),(I 1)])])])),
 (((.ap (.usr 50) [af3,(V 3)])::arj),(.ap .le [(.ap .len [(.ap (.usr 48) [af3,(V 3)])]),ajq])),
 (((.ap (.usr 50) [af3,(V 3)])::arj),(.ap .same [(.ap (.usr 48) [af3,(V 3)]),(.ap (.usr 56) [(.ap (.usr 48) [af3,(V 3)]),(V 5),(I 0)])])),
 ((ab7::ab3::aw3),adp),
 ((ab7::ab3::aw3),(.ap .same [apb,(.ap (.usr 56) [(.ap (.usr 48) [af3,(V 3)]),(V 5),(.ap (.add .i64) [(V 7),(I 1)])])])),
 (anw,ah6),
 (anw,ak9),
 (anw,(.ap .le [(.ap .len [ahl]),(I 40)])),
 (anw,ach),
 (aw4,(.ap .le [(.ap .len [ajp]),ajq])),
 (aw4,axo),
 ((ab7::ab3::aw5),adp),
 ((ab7::ab3::aw5),axl),
 ((ah7::ark),(.ap .le [(.ap .len [agb]),ajq])),
 ((ah7::ark),(.ap .same [agb,(.ap (.usr 56) [agb,(V 5),(I 0)])])),
 ((ab7::ab3::aw6),adp),
 ((ab7::ab3::aw6),(.ap .same [apb,(.ap (.usr 56) [agb,(V 5),(.ap (.add .i64) [(V 7),(I 1)])])])),
 ((aby::arl),ag3),
 ((aby::arl),ag4),
 ((ab7::ab3::aw7),adp),
 ((ab7::ab3::aw7),ag2),
 (((.ap .not [ah8])::amv),ah6),
 (((.ap .not [ah8])::amv),ak9),
 (((.ap .not [ah8])::amv),ach),
 (((.ap .not [ah8])::amv),ach),
 (aw8,(.ap .le [(.ap .len [ajp]),ajq])),
 (aw8,axo),
 ((ab7::ab3::aw9),adp),
 ((ab7::ab3::aw9),axl),
 ((aby::arn),ag3),
 ((aby::arn),ag4),
 ((ab7::ab3::axa),adp),
 ((ab7::ab3::axa),ag2),
 ((aby::aro),ag3),
 ((aby::aro),ag4),
 ((ab7::ab3::axb),adp),
 ((ab7::ab3::axb),ag2),
 ((an7::ah4::amu),ah6),
 ((an7::ah4::amu),ach),
 ((an7::ah4::amu),ach),
 ((an7::ah4::amu),ach),
 (axc,ag3),
 (axc,ag4),
 ((ab7::ab3::axd),adp),
 ((ab7::ab3::axd),ag2),
 ((aby::arp),ag3),
 ((aby::arp),ag4),
 ((ab7::ab3::axe),adp),
 ((ab7::ab3::axe),ag2),
 ((aby::arq),ag3),
 ((aby::arq),ag4),
 ((ab7::ab3::axf),adp),
 ((ab7::ab3::axf),ag2),
 (anx,ach),
 (anx,ach),
 (anx,ach),
 (anx,ach),
 (axg,ag3),
 (axg,ag4),
 ((ab7::ab3::axh),adp),
 ((ab7::ab3::axh),ag2),
 ((aby::ars),ag3),
 ((aby::ars),ag4),
 ((ab7::ab3::axi),adp),
 ((ab7::ab3::axi),ag2),
 ((aby::aru),ag3),
 ((aby::aru),ag4),
 ((ab7::ab3::axj),adp),
 ((ab7::ab3::axj),ag2)]
def bnp:List (List X×List (List X)):=[(((.ap .le [LoI,ag6])::(.ap .le [ag6,HiI])::(.ap .not [(.ap .eq [ag6,(I 0)])])::a7b),[[aal],[(I 2)]]),
 (((.ap .le [LoI,ag6])::(.ap .le [ag6,HiI])::(.ap .lt [(V 1),(I 0)])::(.ap .eq [ag6,(I 0)])::a7b),[[aal],[(I 2)]]),
 (((.ap .lt [(I 2),(V 1)])::a0b),[[aal],[(I 2)]]),
 (((.ap .not [ae7])::adg::apa),[[aal],[(I 2)]]),
 (((.ap .not [ala])::ae7::adg::apa),[[aal],[(I 2)]]),
 (((.ap .not [(.ap .eq [arw,(I 0)])])::bc9),[[aal],[(I 2)]]),
 (((.ap .eq [arw,(I 0)])::bc9),[[(.ap .snoc [arv,af3])],[(I 0)]]),
 (((.ap .not [alb])::afo::aci::apa),[[aal],[(I 2)]]),
 (((.ap .not [ah7])::a0c),[[aal],[(I 2)]]),
 (((.ap .not [(.ap .eq [arz,(I 0)])])::a3a),[[aal],[(I 2)]]),
 (((.ap .eq [arz,(I 0)])::a3a),[[(.ap .snoc [axq,af3])],[(I 0)]]),
 (((.ap .not [(.ap (.usr 50) [ahl,(V 2)])])::agc::aci::apa),[[aal],[(I 2)]]),
 (((.ap .not [(.ap (.usr 50) [af3,(V 3)])])::arj),[[aal],[(I 2)]]),
 (((.ap .not [(.ap .eq [ah9,(I 0)])])::a3b),[[aal],[(I 2)]]),
 (((.ap .eq [ah9,(I 0)])::a3b),[[axk],[(I 0)]]),
 (((.ap .not [ae7])::adg::ajl),[[aal],[(I 2)]]),
 (((.ap .not [ala])::ae7::adg::ajl),[[aal],[(I 2)]]),
 (((.ap .not [(.ap .eq [arx,(I 0)])])::a3c),[[aal],[(I 2)]]),
 (((.ap .eq [arx,(I 0)])::a3c),[[(.ap .snoc [arv,aal])],[(I 0)]]),
 (((.ap .not [alb])::afo::aci::ajl),[[aal],[(I 2)]]),
 (((.ap .not [ah7])::ark),[[aal],[(I 2)]]),
 (((.ap .not [(.ap .eq [ah5,(I 0)])])::a3d),[[aal],[(I 2)]]),
 (((.ap .eq [ah5,(I 0)])::a3d),[[(.ap .snoc [axq,aal])],[(I 0)]]),
 (((.ap .not [(.ap (.usr 50) [ahl,(V 2)])])::agc::aci::ajl),[[aal],[(I 2)]]),
 ((ag7::arl),[[aal],[(I 2)]]),
 (((.ap .not [(.ap .eq [ah9,(I 0)])])::a3e),[[aal],[(I 2)]]),
 (((.ap .eq [ah9,(I 0)])::a3e),[[axk],[(I 0)]]),
 (((.ap .not [ae7])::adg::ajm),[[aal],[(I 2)]]),
 (((.ap .not [ala])::ae7::adg::ajm),[[aal],[(I 2)]]),
 (((.ap .not [(.ap .eq [ah3,(I 0)])])::a3f),[[aal],[(I 2)]]),
 (((.ap .eq [ah3,(I 0)])::a3f),[[(.ap .snoc [(.ap .snoc [a0e,aal]),aal])],[(I 0)]]),
 (((.ap .not [alb])::afo::aci::ajm),[[aal],[(I 2)]]),
 ((ag7::arn),[[aal],[(I 2)]]),
 (((.ap .not [(.ap .eq [ah5,(I 0)])])::a3g),[[aal],[(I 2)]]),
 (((.ap .eq [ah5,(I 0)])::a3g),[[(.ap .snoc [axq,aal])],[(I 0)]]),
 (((.ap .not [aeo])::agc::aci::ajm),[[aal],[(I 2)]]),
 ((ag7::aro),[[aal],[(I 2)]]),
 (((.ap .not [(.ap .eq [(.ap (.usr 22) [an4]),(I 0)])])::a3h),[[aal],[(I 2)]]),
 (((.ap .eq [(.ap (.usr 22) [an4]),(I 0)])::a3h),[[an4],[(I 0)]]),
 (((.ap .not [ae7])::adg::ajn),[[aal],[(I 2)]]),
 ((ag7::ae7::adg::ajn),[[aal],[(I 2)]]),
 (((.ap .not [(.ap .eq [ah3,(I 0)])])::a3i),[[aal],[(I 2)]]),
 (((.ap .eq [ah3,(I 0)])::a3i),[[(.ap .snoc [(.ap .snoc [a0e,aal]),aal])],[(I 0)]]),
 (((.ap .not [aeo])::afo::aci::ajn),[[aal],[(I 2)]]),
 ((ag7::arp),[[aal],[(I 2)]]),
 (((.ap .not [(.ap .eq [(.ap (.usr 22) [an5]),(I 0)])])::a3j),[[aal],[(I 2)]]),
 (((.ap .eq [(.ap (.usr 22) [an5]),(I 0)])::a3j),[[an5],[(I 0)]]),
 (((.ap .not [aeo])::agc::aci::ajn),[[aal],[(I 2)]]),
 ((ag7::arq),[[aal],[(I 2)]]),
 (((.ap .not [(.ap .eq [(.ap (.usr 22) [an6]),(I 0)])])::a3k),[[aal],[(I 2)]]),
 (((.ap .eq [(.ap (.usr 22) [an6]),(I 0)])::a3k),[[an6],[(I 0)]]),
 (((.ap .not [aeo])::adg::ajo),[[aal],[(I 2)]]),
 ((ag7::aeo::adg::ajo),[[aal],[(I 2)]]),
 (((.ap .not [(.ap .eq [(.ap (.usr 22) [an1]),(I 0)])])::a3l),[[aal],[(I 2)]]),
 (((.ap .eq [(.ap (.usr 22) [an1]),(I 0)])::a3l),[[an1],[(I 0)]]),
 (((.ap .not [aeo])::afo::aci::ajo),[[aal],[(I 2)]]),
 ((ag7::ars),[[aal],[(I 2)]]),
 (((.ap .not [(.ap .eq [(.ap (.usr 22) [an2]),(I 0)])])::a3m),[[aal],[(I 2)]]),
 (((.ap .eq [(.ap (.usr 22) [an2]),(I 0)])::a3m),[[an2],[(I 0)]]),
 (((.ap .not [aeo])::agc::aci::ajo),[[aal],[(I 2)]]),
 ((ag7::aru),[[aal],[(I 2)]]),
 (((.ap .not [(.ap .eq [(.ap (.usr 22) [an3]),(I 0)])])::a3n),[[aal],[(I 2)]]),
 (((.ap .eq [(.ap (.usr 22) [an3]),(I 0)])::a3n),[[an3],[(I 0)]])]
theorem byh:runM Try.prog (cxOf Try.prog (acr (tab T29)) 10 16 ⟨ap4 br1,noY,U.lc⟩ 3 29) hs29 Try.f29 (aau Try.f29) S29=some (bnq,bnp):=by kernel_rfl
set_option maxHeartbeats 40000000 in
theorem b0o:∀ z∈bnq,VCok U z:=by
  unfold bnq
  repeat' (first | exact aa7 _ | refine aai (fun v hh=>?_) ?_)
  all_goals
    simp only [wA,wB,aeg,afc,us12,us22,us48,us50,us54,us56,us71,us72,chkC,aas,adj,ab4,afv,Bool.false_and,aa1,acf,aaq,List.nil_append,List.cons_append,Ba,Dt,aix,att,amb,al0,aly,ais,repT,ai0,a7b,apb,a0d,apc,aal,ab7,ahl,a0e,ab3,af3,adp,anz,adq,aby,ak7,ag2,adg,ach,an0,axq,axk,ag4,adr,ah3,ag5,an1,an2,an3,ah4,ajp,afo,aeo,ak8,ah5,ae7,aci,afp,an4,an5,an6,ads,ah6,agb,arv,adt,ah7,ak9,axl,ah8,ag6,ah9,ajq,ag3,an7,agc,ala,alb,arw,arx,arz,ag7,axn,axo,axp,a0b,amu,amv,as5,apa,a7c,a7d,bc9,a0c,aw2,a3a,arj,aw3,a3b,anw,ajl,aw4,aw5,a3c,ark,aw6,a3d,arl,aw7,a3e,ajm,aw8,aw9,a3f,arn,axa,a3g,aro,axb,a3h,ajn,axc,axd,a3i,arp,axe,a3j,arq,axf,a3k,anx,ajo,axg,axh,a3l,ars,axi,a3m,aru,axj,a3n] at hh
    simp only [wA,wB,aeg,afc,us12,us22,us48,us50,us54,us56,us71,us72,chkC,aas,adj,ab4,afv,Bool.false_and,aa1,acf,aaq,List.nil_append,List.cons_append,Ba,Dt,aix,att,amb,al0,aly,ais,repT,ai0,akb] at ⊢
    first
    | (repeat (obtain⟨_,hh⟩:=hh)
       first | (apply agr<;>first | assumption | omega) | omega)
    | (have hl:=@bwi (v 1).iv
       rcases hl with hl | hl | hl | hl | hl
       all_goals first
         | (repeat (obtain⟨_,hh⟩:=hh)
            exfalso
            omega)
         | (try simp only [hl,z01,z11,z21,tn0,tn1,tn2,tn3,aix,att,amb,al0,aly,ais,rd_0,rd_1,rd_2] at hh ⊢
            repeat (obtain⟨_,hh⟩:=hh)
            first | omega | grind [be8,aix,att,fw_z,fw_s,fw_e,bcj,bd2,avu,→ afk,agt,a5d,bqi,bqj,bqk,rp_0,rp_1,rp_2,rd_0,rd_1,rd_2,bqf,bqe]))
set_option maxHeartbeats 40000000 in
theorem b0n:∀ o∈bnp,∀ σ:Sg,σ.toUs=U→@Holds σ o.1→∃ q∈S29.outs,@Holds σ q.1∧q.2.map (@denL σ)=o.2.map (@denL σ):=by
  intro o ho σ hU hh
  obtain⟨v⟩:=σ
  cases hU
  simp only [bnp,Mn,List.not_mem_nil,or_false] at ho
  repeat' (first | (rcases ho with rfl | ho) | subst ho)
  all_goals
    refine⟨_,Ms ..,by simp only [wA,wB,aeg,afc],?_⟩
    simp only [wA,wB,aeg,afc,us12,us22,us48,us50,us54,us56,us71,us72,chkC,aas,adj,ab4,afv,Bool.false_and,aa1,acf,aaq,List.nil_append,List.cons_append,Ba,Dt,aix,att,amb,al0,aly,ais,repT,ai0,a7b,apb,a0d,apc,aal,ab7,ahl,a0e,ab3,af3,adp,anz,adq,aby,ak7,ag2,adg,ach,an0,axq,axk,ag4,adr,ah3,ag5,an1,an2,an3,ah4,ajp,afo,aeo,ak8,ah5,ae7,aci,afp,an4,an5,an6,ads,ah6,agb,arv,adt,ah7,ak9,axl,ah8,ag6,ah9,ajq,ag3,an7,agc,ala,alb,arw,arx,arz,ag7,axn,axo,axp,a0b,amu,amv,as5,apa,a7c,a7d,bc9,a0c,aw2,a3a,arj,aw3,a3b,anw,ajl,aw4,aw5,a3c,ark,aw6,a3d,arl,aw7,a3e,ajm,aw8,aw9,a3f,arn,axa,a3g,aro,axb,a3h,ajn,axc,axd,a3i,arp,axe,a3j,arq,axf,a3k,anx,ajo,axg,axh,a3l,ars,axi,a3m,aru,axj,a3n] at hh
    simp only [List.map_cons,List.map_nil,wA,wB,aeg,afc,us12,us22,us48,us50,us54,us56,us71,us72,chkC,aas,adj,ab4,afv,Bool.false_and,aa1,acf,aaq,List.nil_append,List.cons_append,Ba,Dt,aix,att,amb,al0,aly,ais,repT,ai0,akb]
    have hl:=@bwi (v 1).iv
    rcases hl with hl | hl | hl | hl | hl
    all_goals first
      | (repeat (obtain⟨_,hh⟩:=hh)
         exfalso
         omega)
      | (try simp only [hl,z01,z11,z21,tn0,tn1,tn2,tn3,aix,att,amb,al0,aly,ais,rd_0,rd_1,rd_2] at hh ⊢
         repeat (obtain⟨_,hh⟩:=hh)
         first | omega | grind [be8,aix,att,fw_z,fw_s,fw_e,bcj,bd2,avu,→ afk,agt,a5d,bqi,bqj,bqk,rp_0,rp_1,rp_2,rd_0,rd_1,rd_2,bqf,bqe])
theorem c29:a4s U Try.prog 29 S29 :=
 a4s.ofV (P:=Try.prog) (U:=U) (T:=(tab T29)) (l:=br1) (y:=noY) (dp:=3) (f:=29) (fn:=Try.f29) (fuel:=10) (fk:=16) (hs:=hs29) (S:=S29) (v:=bnq) (outs:=bnp) mixed hT29 bwo at29 (aez (by kernel_rfl)) byh b0o b0n
end Go.Proofs.Ytlbbkmcegbeckaa
