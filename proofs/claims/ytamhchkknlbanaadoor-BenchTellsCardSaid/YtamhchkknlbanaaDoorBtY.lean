/-
  Contracts of a seat's functions: the line of a deed, by the reference. Conditions: none.
-/
import Derived.Test.YtamhchkknlbanaaDoorBtT
import Derived.Test.YtamhchkknlbanaaDoorBtP
set_option linter.unusedSectionVars false
set_option linter.unusedVariables false
set_option linter.unusedSimpArgs false
set_option linter.all false
namespace Go.Proofs.YtamhchkknlbanaaDoor.Be
open Go.Sx Go.Proofs
noncomputable def T13:List (FuncId×Fsp):=[(34,bbt),(35,bn6),(36,bxe),(25,bbo),(8,bbr),(37,bn5)]
set_option maxRecDepth 100000 in
theorem hT13:an0 U Tryd.prog T13:=.cons b22 (.cons b23 (.cons b24 (.cons b2u (.cons b29 (.cons b25 .nil)))))
abbrev nuX:X:=.ap (.usr 286) [.var 0,.var 1,.var 2,.var 3,.var 5,.var 6]
abbrev spX1:X:=.lit (.string ⟨⟨[32]⟩⟩)
noncomputable def b1r:Lp:=⟨[(.slot 4,.str),(.slot 6,.int .i64)],[0,1,5],[],fun F H k=>[.ap .le [zI,.var (k+1)],.ap .le [.var (k+1),.ap .len [nuX]],.ap .same [.var k,.ap (.usr 287) [wX,nuX,.var (k+1)]],.ap (.usr 288) [nuX,.var (k+1)],.ap .le [.ap .slen [.var k],.ap (.add .i64) [I 6,.ap (.mul .i64) [I 21,.var (k+1)]]]],fun F H k=>.ap (.sub .i64) [.ap .len [nuX],.var (k+1)]⟩
abbrev s0X:X:=.ap (.usr 314) [wX,nuX,.var 7]
noncomputable def b1s:Lp:=⟨[(.slot 4,.str),(.slot 8,.int .i64)],[0,1],[],fun F H k=>[.ap .le [zI,.var (k+1)],.ap .le [.var (k+1),.ap .len [.var 8]],.ap .same [.var k,.ap (.usr 299) [s0X,.var 8,.var (k+1)]],.ap .le [.ap .slen [.var k],.ap (.add .i64) [I 5202,.ap (.mul .i64) [I 2,.var (k+1)]]],.ap (.typ sI) [.var (k+1)]],fun F H k=>.ap (.sub .i64) [.ap .len [.var 8],.var (k+1)]⟩
noncomputable def ceX(F:Fm):X:=.ap (.cell 0) [nuX,sx F 6]
abbrev l1X(n:UInt8):X:=.ap .le [.ap .slen [.lit (.string ⟨⟨[n]⟩⟩)],I 1]
abbrev e8X:X:=.ap .eq [.var 0,I 8]
abbrev e10X:X:=.ap .eq [.var 0,I 10]
abbrev pdX(j:Nat):X:=.ap (.usr j) [.var 0,nuX]
abbrev smX(is b e:X):X:=.ap (.usr 296) [.var 0,pdX 290,pdX 291,pdX 292,is,pdX 293,pdX 294,b,e,.var 0,.var 1,.var 2,.var 3,.var 4,.var 5,.var 6,.var 7,.var 8]
noncomputable def as17:Fm→HP→List X:=fun F H=>match memX (.var 4) H.hy,memX e8X H.hy,memX e10X H.hy with
 | true,true,_=>[.ap .not [smX (.ap .eq [.var 0,I 7]) (.var 7) (.ap (.nil true) [])]]
 | true,false,true=>[.ap .not [smX (.ap .eq [.var 0,I 7]) (.ap (.nil true) []) (.var 8)]]
 | _,_,_=>[]
noncomputable def as19:Fm→HP→List X:=fun F H=>match memX e8X H.hy with
 | true=>[]
 | false=>[.ap .le [.ap .len [.var 7],zI]]
noncomputable def hs13:Hs:=⟨afu [(6,b1r),(22,b1s)],hintA [(5,fun F H=>[.ap .le [.ap .len [nuX],I 4],.ap .le [.ap .slen [wX],I 6]]),(10,fun F H=>[l1X 32,.ap .le [.ap .slen [.ap (.usr 251) [ceX F]],I 20],.ap .le [.ap .slen [.ap (.sbin .add) [sx F 4,spX1]],I 120]]),(11,fun F H=>[.ap .le [.ap (.usr 289) [.var 0],.ap .len [nuX]]]),(17,as17),(19,as19),(20,fun F H=>[l1X 32,.ap .le [.ap .slen [.ap (.usr 298) [.var 7]],I 5000],.ap .le [.ap .slen [.ap (.sbin .add) [sx F 4,spX1]],I 200]]),(25,fun F H=>[l1X 32]),(26,fun F H=>[l1X 48,l1X 49,.ap .le [.ap .slen [sx F 4],I 12000]])]⟩
abbrev abw:X:=(.ap (.usr 286) [(.var 0),(.var 1),(.var 2),(.var 3),(.var 5),(.var 6)])
abbrev aby:X:=(.ap (.cell 0) [(.var 8),(.var 12)])
abbrev blm:X:=(.ap (.sbin .add) [(.var 11),(.lit (.string (.mk (.mk [32]))))])
abbrev bdv:X:=(.ap (.add .i64) [(I 5202),(.ap (.mul .i64) [(I 2),(.ap (.add .i64) [(.var 12),(I 1)])])])
abbrev ar1:X:=(.ap (.usr 296) [(.var 0),(.ap (.usr 290) [(.var 0),abw]),(.ap (.usr 291) [(.var 0),abw]),(.ap (.usr 292) [(.var 0),abw]),(.lit (.bool false)),(.ap (.usr 293) [(.var 0),abw]),(.ap (.usr 294) [(.var 0),abw]),(.var 7),(.ap (.nil true) []),(.var 0),(.var 1),(.var 2),(.var 3),(.var 4),(.var 5),(.var 6),(.var 7),(.var 8)])
abbrev ar2:X:=(.ap (.usr 296) [(.var 0),(.ap (.usr 290) [(.var 0),abw]),(.ap (.usr 291) [(.var 0),abw]),(.ap (.usr 292) [(.var 0),abw]),(.lit (.bool false)),(.ap (.usr 293) [(.var 0),abw]),(.ap (.usr 294) [(.var 0),abw]),(.var 7),(.var 8),(.var 0),(.var 1),(.var 2),(.var 3),(.var 4),(.var 5),(.var 6),(.var 7),(.var 8)])
abbrev ace:X:=(.ap .lt [(.var 12),(.ap .len [(.var 8)])])
abbrev ac6:X:=(.ap .le [(.ap .slen [(.lit (.string (.mk (.mk [48]))))]),(I 1)])
abbrev ac7:X:=(.ap .le [(.ap .slen [(.lit (.string (.mk (.mk [49]))))]),(I 1)])
abbrev aq2:X:=(.ap .not [(.ap (.usr 296) [(.var 0),(.ap (.usr 290) [(.var 0),abw]),(.ap (.usr 291) [(.var 0),abw]),(.ap (.usr 292) [(.var 0),abw]),(.ap .eq [(.var 0),(I 7)]),(.ap (.usr 293) [(.var 0),abw]),(.ap (.usr 294) [(.var 0),abw]),(.var 7),(.ap (.nil true) []),(.var 0),(.var 1),(.var 2),(.var 3),(.var 4),(.var 5),(.var 6),(.var 7),(.var 8)])])
abbrev ab3:X:=(.ap (.typ sI) [(.ap (.add .i64) [(.var 12),(I 1)])])
abbrev avy:X:=(.ap (.usr 296) [(.var 0),(.ap (.usr 290) [(.var 0),abw]),(.ap (.usr 291) [(.var 0),abw]),(.ap (.usr 292) [(.var 0),abw]),(.ap .eq [(.var 0),(I 7)]),(.ap (.usr 293) [(.var 0),abw]),(.ap (.usr 294) [(.var 0),abw]),(.ap (.nil true) []),(.ap (.nil true) []),(.var 0),(.var 1),(.var 2),(.var 3),(.var 4),(.var 5),(.var 6),(.var 7),(.var 8)])
abbrev ade:X:=(.ap .le [(.ap .slen [(.lit (.string (.mk (.mk [32]))))]),(I 1)])
abbrev avz:X:=(.ap (.usr 296) [(.var 0),(.ap (.usr 290) [(.var 0),abw]),(.ap (.usr 291) [(.var 0),abw]),(.ap (.usr 292) [(.var 0),abw]),(.lit (.bool false)),(.ap (.usr 293) [(.var 0),abw]),(.ap (.usr 294) [(.var 0),abw]),(.ap (.nil true) []),(.ap (.nil true) []),(.var 0),(.var 1),(.var 2),(.var 3),(.var 4),(.var 5),(.var 6),(.var 7),(.var 8)])
abbrev av0:X:=(.ap (.usr 296) [(.var 0),(.ap (.usr 290) [(.var 0),abw]),(.ap (.usr 291) [(.var 0),abw]),(.ap (.usr 292) [(.var 0),abw]),(.lit (.bool false)),(.ap (.usr 293) [(.var 0),abw]),(.ap (.usr 294) [(.var 0),abw]),(.ap (.nil true) []),(.var 8),(.var 0),(.var 1),(.var 2),(.var 3),(.var 4),(.var 5),(.var 6),(.var 7),(.var 8)])
abbrev blh:X:=(.ap (.sbin .add) [(.var 11),(.lit (.string (.mk (.mk [49]))))])
abbrev bli:X:=(.ap (.sbin .add) [(.var 11),(.lit (.string (.mk (.mk [48]))))])
abbrev aq3:X:=(.ap (.sbin .add) [(.var 9),(.lit (.string (.mk (.mk [32]))))])
abbrev blj:X:=(.ap (.sbin .add) [blm,(.lit (.string (.mk (.mk [49]))))])
abbrev bll:X:=(.ap (.sbin .add) [blm,(.lit (.string (.mk (.mk [48]))))])
abbrev afg:X:=(.ap .eq [(.var 12),(I 0)])
abbrev ajy:X:=(.ap .le [(.ap .slen [(.var 11)]),(.ap (.add .i64) [(I 5202),(.ap (.mul .i64) [(I 2),(.var 12)])])])
abbrev abt:X:=(.ap .not [aby])
abbrev baw:X:=(.ap (.usr 296) [(.var 0),(.ap (.usr 290) [(.var 0),abw]),(.ap (.usr 291) [(.var 0),abw]),(.ap (.usr 292) [(.var 0),abw]),(.ap .eq [(.var 0),(I 7)]),(.ap (.usr 293) [(.var 0),abw]),(.ap (.usr 294) [(.var 0),abw]),(.var 7),(.var 8),(.var 0),(.var 1),(.var 2),(.var 3),(.var 4),(.var 5),(.var 6),(.var 7),(.var 8)])
abbrev ai5:X:=(.ap .lt [(I 2200),(.ap .slen [(.var 11)])])
abbrev aeo:X:=(.ap .le [(.ap .slen [blm]),(I 12000)])
abbrev afh:X:=(.ap .lt [(I 0),(.ap .len [(.var 7)])])
abbrev ac3:X:=(.ap .not [afg])
abbrev ahi:X:=(.ap .le [(.ap .len [(.var 7)]),(I 0)])
abbrev bln:X:=(.ap .not [(.ap (.usr 296) [(.var 0),(.ap (.usr 290) [(.var 0),abw]),(.ap (.usr 291) [(.var 0),abw]),(.ap (.usr 292) [(.var 0),abw]),(.ap .eq [(.var 0),(I 7)]),(.ap (.usr 293) [(.var 0),abw]),(.ap (.usr 294) [(.var 0),abw]),(.ap (.nil true) []),(.var 8),(.var 0),(.var 1),(.var 2),(.var 3),(.var 4),(.var 5),(.var 6),(.var 7),(.var 8)])])
abbrev aj0:X:=(.ap .le [(.ap .slen [(.var 11)]),(I 12000)])
abbrev aj1:X:=(.ap (.usr 270) [(.var 0),(.var 4)])
abbrev a3a:X:=(.ap (.usr 314) [aj1,abw,(.var 7)])
abbrev bdu:X:=(.ap (.usr 299) [a3a,(.var 8),(.ap (.add .i64) [(.var 12),(I 1)])])
abbrev ajz:X:=(.ap .same [(.var 11),(.ap (.usr 299) [a3a,(.var 8),(.var 12)])])
abbrev aj2:X:=(.ap .le [(.var 12),(.ap .len [(.var 8)])])
abbrev aq5:X:=(.ap .same [(.var 9),(.ap (.usr 299) [a3a,(.var 8),(I 0)])])
abbrev aq6:X:=(.ap (.usr 298) [(.var 7)])
abbrev aj3:X:=(.ap .le [(.ap .slen [blj]),bdv])
abbrev aj4:X:=(.ap .le [(.ap .slen [bll]),bdv])
abbrev aj5:X:=(.ap .le [(.ap .slen [blh]),bdv])
abbrev aj6:X:=(.ap .le [(.ap .slen [bli]),bdv])
abbrev bax:X:=(.ap .le [(.ap .slen [(.ap (.sbin .add) [aq3,aq6])]),(.ap (.add .i64) [(I 5202),(.ap (.mul .i64) [(I 2),(I 0)])])])
abbrev aep:X:=(.ap .not [ace])
abbrev aj7:X:=(.ap .same [blj,bdu])
abbrev aj8:X:=(.ap .same [bll,bdu])
abbrev aj9:X:=(.ap .same [blh,bdu])
abbrev akb:X:=(.ap .same [bli,bdu])
abbrev aq7:X:=(.ap .le [(.ap .slen [aq6]),(I 5000)])
abbrev aq8:X:=(.ap .le [(.ap .slen [aq3]),(I 200)])
abbrev akc:X:=(.ap .le [(I 0),(.var 12)])
abbrev bay:X:=(.ap .same [(.ap (.sbin .add) [aq3,aq6]),(.ap (.usr 299) [a3a,(.var 8),(I 0)])])
abbrev akd:X:=(.ap (.typ sI) [(.var 12)])
abbrev ale:X:=(.ap .eq [(.var 0),(I 10)])
abbrev alf:X:=(.ap .eq [(.var 0),(I 8)])
abbrev av1:X:=(.ap .lt [(.var 10),(.ap .len [abw])])
abbrev ake:X:=(.ap (.typ sI) [(I 0)])
abbrev a3b:X:=(.ap .eq [aj1,(.lit (.string (.mk (.mk []))))])
abbrev aq9:X:=(.ap (.cell 0) [abw,(.var 10)])
abbrev aq4:X:=(.ap (.usr 251) [aq9])
abbrev akf:X:=(.ap .not [ai5])
abbrev a3c:X:=(.ap .le [(.ap .slen [aq3]),(I 120)])
abbrev a3d:X:=(.ap .le [(.ap .slen [aq4]),(I 20)])
abbrev bdp:List X:=[(.ap (.typ .str) [aj1]),(.ap .le [mnX,(.var 0)]),(.ap .le [(.var 0),mxX]),(.ap .le [mnX,(.var 1)]),(.ap .le [(.var 1),mxX]),(.ap .le [mnX,(.var 2)]),(.ap .le [(.var 2),mxX]),(.ap .le [mnX,(.var 3)]),(.ap .le [(.var 3),mxX]),(.ap .le [(.lit (.int .u8 0)),(.var 5)]),(.ap .le [(.var 5),(.lit (.int .u8 255))]),(.ap .le [mnX,(.var 6)]),(.ap .le [(.var 6),mxX]),(.ap (.typ (.sl [(.int .u8)])) [(.var 7)]),(.ap (.typ (.sl [.bool])) [(.var 8)]),(.ap (.typ sI) [(.var 0)]),(.ap (.typ sI) [(.var 1)]),(.ap (.typ sI) [(.var 2)]),(.ap (.typ sI) [(.var 3)]),(.ap (.typ .bool) [(.var 4)]),(.ap (.typ (.int .u8)) [(.var 5)]),(.ap (.typ sI) [(.var 6)]),(.ap .le [(.ap .len [(.var 7)]),(I 2500)]),(.ap .le [(.ap .len [(.var 8)]),(I 2500)])]
abbrev bld:List X:=(.ap .le [(.ap .len [abw]),(I 4)])::(.ap .le [(.ap .slen [aj1]),(I 6)])::(.ap (.typ (.sl [sI])) [abw])::(.ap .not [a3b])::bdp
abbrev a7a:List X:=(.ap .le [(I 0),(.var 10)])::(.ap .le [(.var 10),(.ap .len [abw])])::(.ap .same [(.var 9),(.ap (.usr 287) [aj1,abw,(.var 10)])])::(.ap (.usr 288) [abw,(.var 10)])::(.ap .le [(.ap .slen [(.var 9)]),(.ap (.add .i64) [(I 6),(.ap (.mul .i64) [(I 21),(.var 10)])])])::bld
abbrev ay8:List X:=(.ap .not [(.ap .lt [(I 1073741824),aq9])])::(.ap .not [(.ap .lt [aq9,(I 0)])])::av1::a7a
abbrev ar0:List X:=(.ap .le [mnX,(.var 0)])::(.ap .le [(.var 0),mxX])::(.ap .le [mnX,(.ap (.usr 290) [(.var 0),abw])])::(.ap .le [(.ap (.usr 290) [(.var 0),abw]),mxX])::(.ap .le [mnX,(.ap (.usr 291) [(.var 0),abw])])::(.ap .le [(.ap (.usr 291) [(.var 0),abw]),mxX])::(.ap .le [mnX,(.ap (.usr 292) [(.var 0),abw])])::(.ap .le [(.ap (.usr 292) [(.var 0),abw]),mxX])::(.ap .le [(.lit (.int .u8 0)),(.ap (.usr 293) [(.var 0),abw])])::(.ap .le [(.ap (.usr 293) [(.var 0),abw]),(.lit (.int .u8 255))])::(.ap .le [mnX,(.ap (.usr 294) [(.var 0),abw])])::(.ap .le [(.ap (.usr 294) [(.var 0),abw]),mxX])::(.ap (.typ (.sl [(.int .u8)])) [(.ap (.nil true) [])])::(.ap (.typ (.sl [.bool])) [(.ap (.nil true) [])])::(.ap .le [(.ap (.usr 289) [(.var 0)]),(.ap .len [abw])])::(.ap .not [av1])::a7a
abbrev bdq:List X:=ale::alf::(.var 4)::ar0
abbrev bdr:List X:=afh::baw::aq2::bdq
abbrev bds:List X:=(.ap (.typ .str) [aq6])::ade::aq7::aq8::bdr
abbrev ay9:List X:=akc::aj2::ajz::ajy::akd::bds
abbrev bdt:List X:=ade::afg::ace::ay9
abbrev aqh:List X:=ac6::ac7::aeo::bdt
abbrev aqi:List X:=ac6::ac7::aj0::ac3::ace::ay9
abbrev bav:List X:=(.ap .not [afh])::baw::aq2::bdq
abbrev ank:List X:=akc::aj2::ajz::ajy::akd::bav
abbrev a2q:List X:=ade::afg::ace::ank
abbrev aqj:List X:=ac6::ac7::aeo::a2q
abbrev aqk:List X:=ac6::ac7::aj0::ac3::ace::ank
abbrev blf:List X:=(.ap .not [ale])::alf::(.var 4)::ar0
abbrev blg:List X:=ale::(.ap .not [alf])::(.var 4)::ar0
abbrev avv:List X:=(.ap .not [ale])::(.ap .not [alf])::(.var 4)::ar0
abbrev anl:List X:=akc::aj2::ajz::ajy::akd::ahi::avy::avv
abbrev a2r:List X:=ade::afg::ace::anl
abbrev aql:List X:=ac6::ac7::aeo::a2r
abbrev aqm:List X:=ac6::ac7::aj0::ac3::ace::anl
abbrev alc:List X:=ale::alf::(.ap .not [(.var 4)])::ar0
abbrev a2s:List X:=(.ap (.typ .str) [aq6])::ade::aq7::aq8::afh::ar2::alc
abbrev aqn:List X:=akc::aj2::ajz::ajy::akd::a2s
abbrev a2t:List X:=ade::afg::ace::aqn
abbrev aqo:List X:=ac6::ac7::aeo::a2t
abbrev aqp:List X:=ac6::ac7::aj0::ac3::ace::aqn
abbrev anm:List X:=akc::aj2::ajz::ajy::akd::(.ap .not [afh])::ar2::alc
abbrev a2u:List X:=ade::afg::ace::anm
abbrev aqr:List X:=ac6::ac7::aeo::a2u
abbrev aqs:List X:=ac6::ac7::aj0::ac3::ace::anm
abbrev ald:List X:=(.ap .not [ale])::alf::(.ap .not [(.var 4)])::ar0
abbrev a2v:List X:=(.ap (.typ .str) [aq6])::ade::aq7::aq8::afh::ar1::ald
abbrev aqt:List X:=akc::aj2::ajz::ajy::akd::a2v
abbrev a2w:List X:=ade::afg::ace::aqt
abbrev aqu:List X:=ac6::ac7::aeo::a2w
abbrev aqv:List X:=ac6::ac7::aj0::ac3::ace::aqt
abbrev ano:List X:=akc::aj2::ajz::ajy::akd::(.ap .not [afh])::ar1::ald
abbrev a2x:List X:=ade::afg::ace::ano
abbrev aqw:List X:=ac6::ac7::aeo::a2x
abbrev aqx:List X:=ac6::ac7::aj0::ac3::ace::ano
abbrev avw:List X:=ale::(.ap .not [alf])::(.ap .not [(.var 4)])::ar0
abbrev anp:List X:=akc::aj2::ajz::ajy::akd::ahi::av0::avw
abbrev a2y:List X:=ade::afg::ace::anp
abbrev aqy:List X:=ac6::ac7::aeo::a2y
abbrev aqz:List X:=ac6::ac7::aj0::ac3::ace::anp
abbrev avx:List X:=(.ap .not [ale])::(.ap .not [alf])::(.ap .not [(.var 4)])::ar0
abbrev anq:List X:=akc::aj2::ajz::ajy::akd::ahi::avz::avx
abbrev a2z:List X:=ade::afg::ace::anq
abbrev aq0:List X:=ac6::ac7::aeo::a2z
abbrev aq1:List X:=ac6::ac7::aj0::ac3::ace::anq
set_option maxRecDepth 100000 in
def bve:List VC:=[(((.ap (.typ (.sl [sI])) [abw])::(.ap .not [a3b])::bdp),(.ap .le [(.ap .len [abw]),(I 4)])),
 (((.ap (.typ (.sl [sI])) [abw])::(.ap .not [a3b])::bdp),(.ap .le [(.ap .slen [aj1]),(I 6)])),
 (bld,(.ap .same [aj1,(.ap (.usr 287) [aj1,abw,(I 0)])])),
 (bld,(.ap (.usr 288) [abw,(I 0)])),
 (ay8,ade),
 (ay8,a3d),
 (ay8,a3c),
 (((.ap (.typ .str) [aq4])::ade::a3d::a3c::ay8),(.ap .same [(.ap (.sbin .add) [aq3,aq4]),(.ap (.usr 287) [aj1,abw,(.ap (.add .i64) [(.var 10),(I 1)])])])),
 (((.ap (.typ .str) [aq4])::ade::a3d::a3c::ay8),(.ap (.usr 288) [abw,(.ap (.add .i64) [(.var 10),(I 1)])])),
 (((.ap (.typ .str) [aq4])::ade::a3d::a3c::ay8),(.ap .le [(.ap .slen [(.ap (.sbin .add) [aq3,aq4])]),(.ap (.add .i64) [(I 6),(.ap (.mul .i64) [(I 21),(.ap (.add .i64) [(.var 10),(I 1)])])])])),
 (((.ap .not [av1])::a7a),(.ap .le [(.ap (.usr 289) [(.var 0)]),(.ap .len [abw])])),
 (bdq,aq2),
 (bdr,ade),
 (bdr,aq7),
 (bdr,aq8),
 (bds,bay),
 (bds,bax),
 (bds,ake),
 (bdt,ac6),
 (bdt,ac7),
 (bdt,aeo),
 ((ac3::ace::ay9),ac6),
 ((ac3::ace::ay9),ac7),
 ((aby::aqh),aj7),
 ((aby::aqh),aj3),
 ((aby::aqh),ab3),
 ((abt::aqh),aj8),
 ((abt::aqh),aj4),
 ((abt::aqh),ab3),
 ((aby::aqi),aj9),
 ((aby::aqi),aj5),
 ((aby::aqi),ab3),
 ((abt::aqi),akb),
 ((abt::aqi),aj6),
 ((abt::aqi),ab3),
 (bav,aq5),
 (bav,ake),
 ((afg::ace::ank),ade),
 (a2q,ac6),
 (a2q,ac7),
 (a2q,aeo),
 ((ac3::ace::ank),ac6),
 ((ac3::ace::ank),ac7),
 ((aby::aqj),aj7),
 ((aby::aqj),aj3),
 ((aby::aqj),ab3),
 ((abt::aqj),aj8),
 ((abt::aqj),aj4),
 ((abt::aqj),ab3),
 ((aby::aqk),aj9),
 ((aby::aqk),aj5),
 ((aby::aqk),ab3),
 ((abt::aqk),akb),
 ((abt::aqk),aj6),
 ((abt::aqk),ab3),
 (blf,aq2),
 (blg,bln),
 ((avy::avv),ahi),
 ((ahi::avy::avv),aq5),
 ((ahi::avy::avv),ake),
 ((afg::ace::anl),ade),
 (a2r,ac6),
 (a2r,ac7),
 (a2r,aeo),
 ((ac3::ace::anl),ac6),
 ((ac3::ace::anl),ac7),
 ((aby::aql),aj7),
 ((aby::aql),aj3),
 ((aby::aql),ab3),
 ((abt::aql),aj8),
 ((abt::aql),aj4),
 ((abt::aql),ab3),
 ((aby::aqm),aj9),
 ((aby::aqm),aj5),
 ((aby::aqm),ab3),
 ((abt::aqm),akb),
 ((abt::aqm),aj6),
 ((abt::aqm),ab3),
 ((afh::ar2::alc),ade),
 ((afh::ar2::alc),aq7),
 ((afh::ar2::alc),aq8),
 (a2s,bay),
 (a2s,bax),
 (a2s,ake),
 (a2t,ac6),
 (a2t,ac7),
 (a2t,aeo),
 ((ac3::ace::aqn),ac6),
 ((ac3::ace::aqn),ac7),
 ((aby::aqo),aj7),
 ((aby::aqo),aj3),
 ((aby::aqo),ab3),
 ((abt::aqo),aj8),
 ((abt::aqo),aj4),
 ((abt::aqo),ab3),
 ((aby::aqp),aj9),
 ((aby::aqp),aj5),
 ((aby::aqp),ab3),
 ((abt::aqp),akb),
 ((abt::aqp),aj6),
 ((abt::aqp),ab3),
 (((.ap .not [afh])::ar2::alc),aq5),
 (((.ap .not [afh])::ar2::alc),ake),
 ((afg::ace::anm),ade),
 (a2u,ac6),
 (a2u,ac7),
 (a2u,aeo),
 ((ac3::ace::anm),ac6),
 ((ac3::ace::anm),ac7),
 ((aby::aqr),aj7),
 ((aby::aqr),aj3),
 ((aby::aqr),ab3),
 ((abt::aqr),aj8),
 ((abt::aqr),aj4),
 ((abt::aqr),ab3),
 ((aby::aqs),aj9),
 ((aby::aqs),aj5),
 ((aby::aqs),ab3),
 ((abt::aqs),akb),
 ((abt::aqs),aj6),
 ((abt::aqs),ab3),
 ((afh::ar1::ald),ade),
 ((afh::ar1::ald),aq7),
 ((afh::ar1::ald),aq8),
 (a2v,bay),
 (a2v,bax),
 (a2v,ake),
 (a2w,ac6),
 (a2w,ac7),
 (a2w,aeo),
 ((ac3::ace::aqt),ac6),
 ((ac3::ace::aqt),ac7),
 ((aby::aqu),aj7),
 ((aby::aqu),aj3),
 ((aby::aqu),ab3),
 ((abt::aqu),aj8),
 ((abt::aqu),aj4),
 ((abt::aqu),ab3),
 ((aby::aqv),aj9),
 ((aby::aqv),aj5),
 ((aby::aqv),ab3),
 ((abt::aqv),akb),
 ((abt::aqv),aj6),
 ((abt::aqv),ab3),
 (((.ap .not [afh])::ar1::ald),aq5),
 (((.ap .not [afh])::ar1::ald),ake),
 ((afg::ace::ano),ade),
 (a2x,ac6),
 (a2x,ac7),
 (a2x,aeo),
 ((ac3::ace::ano),ac6),
 ((ac3::ace::ano),ac7),
 ((aby::aqw),aj7),
 ((aby::aqw),aj3),
 ((aby::aqw),ab3),
 ((abt::aqw),aj8),
 ((abt::aqw),aj4),
 ((abt::aqw),ab3),
 ((aby::aqx),aj9),
 ((aby::aqx),aj5),
 ((aby::aqx),ab3),
 ((abt::aqx),akb),
 ((abt::aqx),aj6),
 ((abt::aqx),ab3),
 ((av0::avw),ahi),
 ((ahi::av0::avw),aq5),
 ((ahi::av0::avw),ake),
 ((afg::ace::anp),ade),
 (a2y,ac6),
 (a2y,ac7),
 (a2y,aeo),
 ((ac3::ace::anp),ac6),
 ((ac3::ace::anp),ac7),
 ((aby::aqy),aj7),
 ((aby::aqy),aj3),
 ((aby::aqy),ab3),
 ((abt::aqy),aj8),
 ((abt::aqy),aj4),
 ((abt::aqy),ab3),
 ((aby::aqz),aj9),
 ((aby::aqz),aj5),
 ((aby::aqz),ab3),
 ((abt::aqz),akb),
 ((abt::aqz),aj6),
 ((abt::aqz),ab3),
 ((avz::avx),ahi),
 ((ahi::avz::avx),aq5),
 ((ahi::avz::avx),ake),
 ((afg::ace::anq),ade),
 (a2z,ac6),
 (a2z,ac7),
 (a2z,aeo),
 ((ac3::ace::anq),ac6),
 ((ac3::ace::anq),ac7),
 ((aby::aq0),aj7),
 ((aby::aq0),aj3),
 ((aby::aq0),ab3),
 ((abt::aq0),aj8),
 ((abt::aq0),aj4),
 ((abt::aq0),ab3),
 ((aby::aq1),aj9),
 ((aby::aq1),aj5),
 ((aby::aq1),ab3),
 ((abt::aq1),akb),
 ((abt::aq1),aj6),
 ((abt::aq1),ab3)]
set_option maxRecDepth 100000 in
def bvc:List (List X×List (List X)):=[((a3b::bdp),[[(.lit (.string (.mk (.mk []))))],[(I 2)]]),
 (((.ap .lt [aq9,(I 0)])::av1::a7a),[[(.lit (.string (.mk (.mk []))))],[(I 2)]]),
 (((.ap .lt [(I 1073741824),aq9])::(.ap .not [(.ap .lt [aq9,(I 0)])])::av1::a7a),[[(.lit (.string (.mk (.mk []))))],[(I 2)]]),
 (((.ap .not [baw])::aq2::bdq),[[(.lit (.string (.mk (.mk []))))],[(I 2)]]),
 ((ai5::aep::ay9),[[(.lit (.string (.mk (.mk []))))],[(I 3)]]),
 ((akf::aep::ay9),[[(.var 11)],[(I 0)]]),
 ((ai5::aep::ank),[[(.lit (.string (.mk (.mk []))))],[(I 3)]]),
 ((akf::aep::ank),[[(.var 11)],[(I 0)]]),
 ((aq2::blf),[[(.lit (.string (.mk (.mk []))))],[(I 2)]]),
 ((bln::blg),[[(.lit (.string (.mk (.mk []))))],[(I 2)]]),
 (((.ap .not [avy])::avv),[[(.lit (.string (.mk (.mk []))))],[(I 2)]]),
 ((ai5::aep::anl),[[(.lit (.string (.mk (.mk []))))],[(I 3)]]),
 ((akf::aep::anl),[[(.var 11)],[(I 0)]]),
 (((.ap .not [ar2])::alc),[[(.lit (.string (.mk (.mk []))))],[(I 2)]]),
 ((ai5::aep::aqn),[[(.lit (.string (.mk (.mk []))))],[(I 3)]]),
 ((akf::aep::aqn),[[(.var 11)],[(I 0)]]),
 ((ai5::aep::anm),[[(.lit (.string (.mk (.mk []))))],[(I 3)]]),
 ((akf::aep::anm),[[(.var 11)],[(I 0)]]),
 (((.ap .not [ar1])::ald),[[(.lit (.string (.mk (.mk []))))],[(I 2)]]),
 ((ai5::aep::aqt),[[(.lit (.string (.mk (.mk []))))],[(I 3)]]),
 ((akf::aep::aqt),[[(.var 11)],[(I 0)]]),
 ((ai5::aep::ano),[[(.lit (.string (.mk (.mk []))))],[(I 3)]]),
 ((akf::aep::ano),[[(.var 11)],[(I 0)]]),
 (((.ap .not [av0])::avw),[[(.lit (.string (.mk (.mk []))))],[(I 2)]]),
 ((ai5::aep::anp),[[(.lit (.string (.mk (.mk []))))],[(I 3)]]),
 ((akf::aep::anp),[[(.var 11)],[(I 0)]]),
 (((.ap .not [avz])::avx),[[(.lit (.string (.mk (.mk []))))],[(I 2)]]),
 ((ai5::aep::anq),[[(.lit (.string (.mk (.mk []))))],[(I 3)]]),
 ((akf::aep::anq),[[(.var 11)],[(I 0)]])]
set_option maxRecDepth 100000 in
theorem bzr:runS Tryd.prog (ahj (tab T13)) 10 20 hs13 Tryd.f13 (acv Tryd.f13) axn=some (bve,bvc):=by kernel_rfl
end Go.Proofs.YtamhchkknlbanaaDoor.Be
