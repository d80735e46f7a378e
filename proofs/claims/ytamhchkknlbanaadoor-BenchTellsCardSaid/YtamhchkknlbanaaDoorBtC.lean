/-
  Contracts of a seat's functions: the line of a deed, by the program. Conditions: none.
-/
import Derived.Test.YtamhchkknlbanaaDoorBtN
import Derived.Test.YtamhchkknlbanaaDoorBtB
import Derived.Test.YtamhchkknlbanaaDoorBtR
set_option linter.unusedSectionVars false
set_option linter.unusedVariables false
set_option linter.unusedSimpArgs false
set_option linter.all false
namespace Go.Proofs.YtamhchkknlbanaaDoor.Be
open Go.Sx Go.Proofs
noncomputable def T12:List (FuncId×Fsp):=[(29,bbs),(30,bxf),(31,bfg),(32,bbq),(33,bfh)]
set_option maxRecDepth 100000 in
theorem hT12:an0 U Tryd.prog T12:=.cons b2w (.cons b2x (.cons b2y (.cons b2z (.cons b21 .nil))))
abbrev allV:List X:=[.var 0,.var 1,.var 2,.var 3,.var 4,.var 5,.var 6,.var 7,.var 8]
noncomputable def axn:Fsp:=⟨[(true,ajr)],preD++[.ap .le [.ap .len [.var 7],I 2500],.ap .le [.ap .len [.var 8],I 2500]],[(false,[.str]),(false,[sI])],[([],[[.ap (.usr 283) allV],[.ap (.usr 284) allV]])],true⟩
abbrev fX:X:=.ap (.usr 273) [.var 0,.var 4]
abbrev wX:X:=.ap (.usr 270) [.var 0,.var 4]
noncomputable def lp12:Lp:=⟨[(.slot 37,.int .i64),(.cell 7 1,.int .i64),(.cell 7 2,.int .i64),(.cell 7 3,.int .i64),(.cell 7 6,.int .i64),(.cell 7 5,.int .u8),(.slot 8,.own false [.str])],[0,1,5,7,35,36],[],fun F H k=>[.ap .le [zI,.var k],.ap .le [.var k,.ap .slen [fX]],.ap .same [.var (k+1),.ap (.usr 277) [fX,.var k,I 119,.var 1]],.ap .same [.var (k+2),.ap (.usr 277) [fX,.var k,I 110,.var 2]],.ap .same [.var (k+3),.ap (.usr 277) [fX,.var k,I 97,.var 3]],.ap .same [.var (k+4),.ap (.usr 277) [fX,.var k,I 111,.var 6]],.ap .same [.var (k+5),.ap (.usr 278) [fX,.var k,I 109,.var 5]],.ap .le [.var (k+6),.ap (.add .i64) [.var k,I 1]],.ap .le [.ap (.add .i64) [.var k,I 1],.var (k+6)],.ap .same [.ap (.mk false) [.var (k+7)],.ap (.usr 276) [wX,fX,.var 1,.var 2,.var 3,.var 5,.var 6,.var k]],.ap (.usr 279) [fX,.var 1,.var 2,.var 3,.var 5,.var 6,.var k]],fun F H k=>.ap (.sub .i64) [.ap .slen [fX],.var k]⟩
noncomputable def ownX(F:Fm)(H:HP)(t:Nat):X:=match F.get t with
 | some (.one (.os z b n s G e))=>match ag4 H b with
  | some (_,_,e',_)=>.ap (.mk z) [e']
  | none=>zI
 | _=>zI
noncomputable def hs12:Hs:=⟨afu [(7,lp12)],hintA [(6,fun F H=>[.ap .le [.ap .slen [fX],I 4]]),(36,fun F H=>[.ap .le [.ap .len [ownX F H 8],I 2500],.ap .le [.ap .slen [.ap (.usr 282) [ownX F H 8,.lit (.string ⟨⟨[32]⟩⟩)]],I 40000]])]⟩
abbrev abz:X:=(.ap (.usr 273) [(.var 0),(.var 4)])
abbrev avu:X:=(.ap (.cell 0) [(.ap .byt [abz]),(.var 9)])
abbrev ahl:X:=(.ap (.usr 282) [(.ap (.mk false) [(.var 16)]),(.lit (.string (.mk (.mk [32]))))])
abbrev aew:X:=(.ap (.add .i64) [(.var 9),(I 1)])
abbrev afn:X:=(.ap .eq [avu,(.lit (.int .u8 97))])
abbrev arz:X:=(.ap (.usr 276) [(.ap (.usr 270) [(.var 0),(.var 4)]),abz,(.var 1),(.var 2),(.var 3),(.var 5),(.var 6),aew])
abbrev aei:X:=(.ap .eq [(.var 14),(.lit (.int .u8 0))])
abbrev agn:X:=(.ap .lt [(I 0),(.ap .len [(.var 8)])])
abbrev aev:X:=(.ap .eq [avu,(.lit (.int .u8 109))])
abbrev ael:X:=(.ap .lt [(.var 9),(.ap (.cast .i64) [(.ap .slen [abz])])])
abbrev af8:X:=(.ap (.usr 279) [abz,(.var 1),(.var 2),(.var 3),(.var 5),(.var 6),aew])
abbrev aik:X:=(.ap .lt [(I 0),(.ap .len [(.var 7)])])
abbrev ae5:X:=(.ap (.typ .str) [(.ap (.usr 251) [(.ap (.cast .i64) [(.var 5)])])])
abbrev ac2:X:=(.ap .eq [(.var 10),(I 0)])
abbrev ads:X:=(.ap .eq [(.var 11),(I 0)])
abbrev adt:X:=(.ap .eq [(.var 13),(I 0)])
abbrev af9:X:=(.ap .le [(.ap .len [(.ap (.mk false) [(.var 16)])]),(I 2500)])
abbrev ag8:X:=(.ap .same [(.var 11),(.ap (.usr 277) [abz,aew,(I 110),(.var 2)])])
abbrev ag9:X:=(.ap .same [(.var 13),(.ap (.usr 277) [abz,aew,(I 111),(.var 6)])])
abbrev aha:X:=(.ap .same [(.var 14),(.ap (.usr 278) [abz,aew,(I 109),(.var 5)])])
abbrev ahb:X:=(.ap .same [(.var 10),(.ap (.usr 277) [abz,aew,(I 119),(.var 1)])])
abbrev ahc:X:=(.ap .same [(.var 12),(.ap (.usr 277) [abz,aew,(I 97),(.var 3)])])
abbrev aea:X:=(.ap .eq [(.var 12),(I 0)])
abbrev ae6:X:=(.ap .not [(.ap .lt [(I 1073741824),(.var 1)])])
abbrev ae7:X:=(.ap .not [(.ap .lt [(I 1073741824),(.var 2)])])
abbrev ae8:X:=(.ap .not [(.ap .lt [(I 1073741824),(.var 3)])])
abbrev ae9:X:=(.ap .not [(.ap .lt [(I 1073741824),(.var 6)])])
abbrev afa:X:=(.ap (.typ .str) [(.ap (.usr 251) [(.var 1)])])
abbrev afb:X:=(.ap (.typ .str) [(.ap (.usr 251) [(.var 2)])])
abbrev afc:X:=(.ap (.typ .str) [(.ap (.usr 251) [(.var 3)])])
abbrev afd:X:=(.ap (.typ .str) [(.ap (.usr 251) [(.var 6)])])
abbrev aem:X:=(.ap .not [(.ap .lt [(.var 2),(I 0)])])
abbrev aen:X:=(.ap .not [(.ap .lt [(.var 3),(I 0)])])
abbrev afe:X:=(.ap (.typ .str) [(.ap (.usr 251) [(I 0)])])
abbrev ai3:X:=(.ap .eq [(.ap (.usr 274) [(.var 0),(.var 4)]),(.lit (.int .u8 98))])
abbrev ab7:X:=(.ap .not [afn])
abbrev aga:X:=(.ap .le [(.ap .slen [ahl]),(I 40000)])
abbrev agb:X:=(.ap .lt [(I 2200),(.ap .slen [ahl])])
abbrev aeb:X:=(.ap .eq [(.var 0),(I 7)])
abbrev adz:X:=(.ap .not [agn])
abbrev ai4:X:=(.ap .eq [avu,(.lit (.int .u8 119))])
abbrev aec:X:=(.ap .not [aik])
abbrev aqa:X:=(.ap .eq [(.ap (.usr 274) [(.var 0),(.var 4)]),(.lit (.int .u8 107))])
abbrev aff:X:=(.ap .not [aev])
abbrev agp:X:=(.ap (.nil false) [])
abbrev arw:X:=(.ap (.usr 282) [(.ap (.mk false) [(.ap .cat [(.var 16),(.ap .snoc [agp,(.ap (.usr 298) [(.var 7)])])])]),(.lit (.string (.mk (.mk [32]))))])
abbrev arx:X:=(.ap (.usr 282) [(.ap (.mk false) [(.ap .cat [(.var 16),(.ap .snoc [agp,(.ap (.usr 300) [(.var 8)])])])]),(.lit (.string (.mk (.mk [32]))))])
abbrev ap8:X:=(.ap .le [(.ap .len [(.ap (.mk false) [(.ap .cat [(.var 16),(.ap .snoc [agp,(.ap (.usr 298) [(.var 7)])])])])]),(I 2500)])
abbrev ap9:X:=(.ap .le [(.ap .len [(.ap (.mk false) [(.ap .cat [(.var 16),(.ap .snoc [agp,(.ap (.usr 300) [(.var 8)])])])])]),(I 2500)])
abbrev a2i:X:=(.ap .same [(.ap (.mk false) [(.ap .snoc [agp,(.ap (.usr 270) [(.var 0),(.var 4)])])]),(.ap (.usr 276) [(.ap (.usr 270) [(.var 0),(.var 4)]),abz,(.var 1),(.var 2),(.var 3),(.var 5),(.var 6),(I 0)])])
abbrev a2j:X:=(.ap .same [(.ap (.mk false) [(.var 16)]),(.ap (.usr 276) [(.ap (.usr 270) [(.var 0),(.var 4)]),abz,(.var 1),(.var 2),(.var 3),(.var 5),(.var 6),(.var 9)])])
abbrev ahd:X:=(.ap .not [ac2])
abbrev ahe:X:=(.ap .not [ads])
abbrev ahf:X:=(.ap .not [aea])
abbrev ahg:X:=(.ap .not [adt])
abbrev a2k:X:=(.ap .same [(.ap (.mk false) [(.ap .cat [(.var 16),(.ap .snoc [agp,(.ap (.usr 251) [(.ap (.cast .i64) [(.var 5)])])])])]),arz])
abbrev ani:X:=(.ap (.usr 275) [(.var 0),(.var 4)])
abbrev aqb:X:=(.ap (.typ .str) [(.ap (.usr 300) [(.var 8)])])
abbrev ahh:X:=(.ap .not [aei])
abbrev aqc:X:=(.ap .le [(.ap .slen [arw]),(I 40000)])
abbrev aqd:X:=(.ap .le [(.ap .slen [arx]),(I 40000)])
abbrev a2l:X:=(.ap .same [(.ap (.mk false) [(.ap .cat [(.var 16),(.ap .snoc [agp,(.ap (.usr 251) [(.var 1)])])])]),arz])
abbrev a2m:X:=(.ap .same [(.ap (.mk false) [(.ap .cat [(.var 16),(.ap .snoc [agp,(.ap (.usr 251) [(.var 2)])])])]),arz])
abbrev a2n:X:=(.ap .same [(.ap (.mk false) [(.ap .cat [(.var 16),(.ap .snoc [agp,(.ap (.usr 251) [(.var 3)])])])]),arz])
abbrev a2o:X:=(.ap .same [(.ap (.mk false) [(.ap .cat [(.var 16),(.ap .snoc [agp,(.ap (.usr 251) [(.var 6)])])])]),arz])
abbrev aqe:X:=(.ap .lt [(I 2200),(.ap .slen [arw])])
abbrev aqf:X:=(.ap .lt [(I 2200),(.ap .slen [arx])])
abbrev aqg:X:=(.ap .eq [avu,(.lit (.int .u8 110))])
abbrev anj:X:=(.ap .eq [avu,(.lit (.int .u8 111))])
abbrev adw:X:=(.ap .not [anj])
abbrev a2p:X:=(.ap .same [(.ap (.mk false) [(.ap .cat [(.var 16),(.ap .snoc [agp,(.ap (.usr 251) [(I 0)])])])]),arz])
abbrev avq:List X:=[(.ap (.typ .str) [(.ap (.usr 270) [(.var 0),(.var 4)])]),(.ap .le [mnX,(.ap (.usr 271) [(.var 0),(.var 4)])]),(.ap .le [(.ap (.usr 271) [(.var 0),(.var 4)]),mxX]),(.ap (.typ .str) [abz]),(.ap .le [(.lit (.int .u8 0)),(.ap (.usr 274) [(.var 0),(.var 4)])]),(.ap .le [(.ap (.usr 274) [(.var 0),(.var 4)]),(.lit (.int .u8 255))]),(.ap .le [mnX,(.var 0)]),(.ap .le [(.var 0),mxX]),(.ap .le [mnX,(.var 1)]),(.ap .le [(.var 1),mxX]),(.ap .le [mnX,(.var 2)]),(.ap .le [(.var 2),mxX]),(.ap .le [mnX,(.var 3)]),(.ap .le [(.var 3),mxX]),(.ap .le [(.lit (.int .u8 0)),(.var 5)]),(.ap .le [(.var 5),(.lit (.int .u8 255))]),(.ap .le [mnX,(.var 6)]),(.ap .le [(.var 6),mxX]),(.ap (.typ (.sl [(.int .u8)])) [(.var 7)]),(.ap (.typ (.sl [.bool])) [(.var 8)]),(.ap (.typ sI) [(.var 0)]),(.ap (.typ sI) [(.var 1)]),(.ap (.typ sI) [(.var 2)]),(.ap (.typ sI) [(.var 3)]),(.ap (.typ .bool) [(.var 4)]),(.ap (.typ (.int .u8)) [(.var 5)]),(.ap (.typ sI) [(.var 6)]),(.ap .le [(.ap .len [(.var 7)]),(I 2500)]),(.ap .le [(.ap .len [(.var 8)]),(I 2500)])]
abbrev amg:List X:=(.ap .le [(.ap .slen [abz]),(I 4)])::(.var 4)::ani::avq
abbrev amh:List X:=(.ap .le [(I 0),(.var 9)])::(.ap .le [(.var 9),(.ap .slen [abz])])::(.ap .same [(.var 10),(.ap (.usr 277) [abz,(.var 9),(I 119),(.var 1)])])::(.ap .same [(.var 11),(.ap (.usr 277) [abz,(.var 9),(I 110),(.var 2)])])::(.ap .same [(.var 12),(.ap (.usr 277) [abz,(.var 9),(I 97),(.var 3)])])::(.ap .same [(.var 13),(.ap (.usr 277) [abz,(.var 9),(I 111),(.var 6)])])::(.ap .same [(.var 14),(.ap (.usr 278) [abz,(.var 9),(I 109),(.var 5)])])::(.ap .le [(.var 15),aew])::(.ap .le [aew,(.var 15)])::a2j::(.ap (.usr 279) [abz,(.var 1),(.var 2),(.var 3),(.var 5),(.var 6),(.var 9)])::amg
abbrev ami:List X:=(.ap .not [(.ap .lt [(.var 1),(I 0)])])::ai4::ael::amh
abbrev alb:List X:=aqg::(.ap .not [ai4])::ael::amh
abbrev ad4:List X:=(.ap .not [aqg])::(.ap .not [ai4])::ael::amh
abbrev amj:List X:=(.ap .not [(.ap .lt [(.var 6),(I 0)])])::anj::ab7::ad4
abbrev ay5:List X:=(.ap (.typ .str) [(.ap (.usr 298) [(.var 7)])])::aik::ai3::(.ap .not [ael])::amh
abbrev ay6:List X:=aea::ads::ac2::ay5
abbrev ay7:List X:=adt::aei::aeb::ay6
abbrev a18:List X:=(.ap (.typ .str) [arw])::ap8::aqc::adz::ay7
abbrev apq:List X:=aec::ai3::(.ap .not [ael])::amh
abbrev apr:List X:=aea::ads::ac2::apq
abbrev aps:List X:=adt::aei::aeb::apr
abbrev a19:List X:=(.ap (.typ .str) [ahl])::af9::aga::adz::aps
abbrev anc:List X:=aqa::(.ap .not [ai3])::(.ap .not [ael])::amh
abbrev apt:List X:=ac2::aqb::agn::anc
abbrev apu:List X:=aeb::aea::ads::apt
abbrev avr:List X:=aec::adt::aei::apu
abbrev a2a:List X:=(.ap (.typ .str) [arx])::ap9::aqd::avr
abbrev apv:List X:=ads::ac2::adz::anc
abbrev ane:List X:=aei::aeb::aea::apv
abbrev a2b:List X:=(.ap (.typ .str) [ahl])::af9::aga::aec::adt::ane
abbrev apw:List X:=(.ap .not [aqa])::(.ap .not [ai3])::(.ap .not [ael])::amh
abbrev apx:List X:=aea::ads::ac2::apw
abbrev anf:List X:=adt::aei::aeb::apx
abbrev a2c:List X:=(.ap (.typ .str) [ahl])::af9::aga::adz::aec::anf
abbrev aiz:List X:=(.ap .le [(.ap .slen [abz]),(I 4)])::(.ap .not [(.var 4)])::ani::avq
abbrev ai0:List X:=(.ap .le [(I 0),(.var 9)])::(.ap .le [(.var 9),(.ap .slen [abz])])::(.ap .same [(.var 10),(.ap (.usr 277) [abz,(.var 9),(I 119),(.var 1)])])::(.ap .same [(.var 11),(.ap (.usr 277) [abz,(.var 9),(I 110),(.var 2)])])::(.ap .same [(.var 12),(.ap (.usr 277) [abz,(.var 9),(I 97),(.var 3)])])::(.ap .same [(.var 13),(.ap (.usr 277) [abz,(.var 9),(I 111),(.var 6)])])::(.ap .same [(.var 14),(.ap (.usr 278) [abz,(.var 9),(I 109),(.var 5)])])::(.ap .le [(.var 15),aew])::(.ap .le [aew,(.var 15)])::a2j::(.ap (.usr 279) [abz,(.var 1),(.var 2),(.var 3),(.var 5),(.var 6),(.var 9)])::aiz
abbrev ai1:List X:=(.ap .not [(.ap .lt [(.var 1),(I 0)])])::ai4::ael::ai0
abbrev aij:List X:=aqg::(.ap .not [ai4])::ael::ai0
abbrev ac1:List X:=(.ap .not [aqg])::(.ap .not [ai4])::ael::ai0
abbrev ai2:List X:=(.ap .not [(.ap .lt [(.var 6),(I 0)])])::anj::ab7::ac1
abbrev apy:List X:=(.ap (.typ .str) [(.ap (.usr 298) [(.var 7)])])::aik::ai3::(.ap .not [ael])::ai0
abbrev apz:List X:=aea::ads::ac2::apy
abbrev avs:List X:=adz::adt::aei::apz
abbrev a2d:List X:=(.ap (.typ .str) [arw])::ap8::aqc::avs
abbrev ap0:List X:=aec::ai3::(.ap .not [ael])::ai0
abbrev ap1:List X:=aea::ads::ac2::ap0
abbrev avt:List X:=adz::adt::aei::ap1
abbrev a2e:List X:=(.ap (.typ .str) [ahl])::af9::aga::avt
abbrev ang:List X:=aqa::(.ap .not [ai3])::(.ap .not [ael])::ai0
abbrev ap2:List X:=ac2::aqb::agn::ang
abbrev anh:List X:=aei::aea::ads::ap2
abbrev a2f:List X:=(.ap (.typ .str) [arx])::ap9::aqd::aec::adt::anh
abbrev ap3:List X:=ads::ac2::adz::ang
abbrev ap4:List X:=adt::aei::aea::ap3
abbrev a2g:List X:=(.ap (.typ .str) [ahl])::af9::aga::aec::ap4
abbrev ap5:List X:=(.ap .not [aqa])::(.ap .not [ai3])::(.ap .not [ael])::ai0
abbrev ap6:List X:=aea::ads::ac2::ap5
abbrev ap7:List X:=aec::adt::aei::ap6
abbrev a2h:List X:=(.ap (.typ .str) [ahl])::af9::aga::adz::ap7
set_option maxRecDepth 100000 in
def bqo:List VC:=[(((.var 4)::ani::avq),(.ap .le [(.ap .slen [abz]),(I 4)])),
 (amg,(.ap .same [(.var 1),(.ap (.usr 277) [abz,(I 0),(I 119),(.var 1)])])),
 (amg,(.ap .same [(.var 2),(.ap (.usr 277) [abz,(I 0),(I 110),(.var 2)])])),
 (amg,(.ap .same [(.var 3),(.ap (.usr 277) [abz,(I 0),(I 97),(.var 3)])])),
 (amg,(.ap .same [(.var 6),(.ap (.usr 277) [abz,(I 0),(I 111),(.var 6)])])),
 (amg,(.ap .same [(.var 5),(.ap (.usr 278) [abz,(I 0),(I 109),(.var 5)])])),
 (amg,a2i),
 (amg,(.ap (.usr 279) [abz,(.var 1),(.var 2),(.var 3),(.var 5),(.var 6),(I 0)])),
 ((afa::ae6::ami),(.ap .same [(I 0),(.ap (.usr 277) [abz,aew,(I 119),(.var 1)])])),
 ((afa::ae6::ami),ag8),
 ((afa::ae6::ami),ahc),
 ((afa::ae6::ami),ag9),
 ((afa::ae6::ami),aha),
 ((afa::ae6::ami),a2l),
 ((afa::ae6::ami),af8),
 ((afb::ae7::aem::alb),ahb),
 ((afb::ae7::aem::alb),(.ap .same [(I 0),(.ap (.usr 277) [abz,aew,(I 110),(.var 2)])])),
 ((afb::ae7::aem::alb),ahc),
 ((afb::ae7::aem::alb),ag9),
 ((afb::ae7::aem::alb),aha),
 ((afb::ae7::aem::alb),a2m),
 ((afb::ae7::aem::alb),af8),
 ((afc::ae8::aen::afn::ad4),ahb),
 ((afc::ae8::aen::afn::ad4),ag8),
 ((afc::ae8::aen::afn::ad4),(.ap .same [(I 0),(.ap (.usr 277) [abz,aew,(I 97),(.var 3)])])),
 ((afc::ae8::aen::afn::ad4),ag9),
 ((afc::ae8::aen::afn::ad4),aha),
 ((afc::ae8::aen::afn::ad4),a2n),
 ((afc::ae8::aen::afn::ad4),af8),
 ((afd::ae9::amj),ahb),
 ((afd::ae9::amj),ag8),
 ((afd::ae9::amj),ahc),
 ((afd::ae9::amj),(.ap .same [(I 0),(.ap (.usr 277) [abz,aew,(I 111),(.var 6)])])),
 ((afd::ae9::amj),aha),
 ((afd::ae9::amj),a2o),
 ((afd::ae9::amj),af8),
 ((ae5::aev::adw::ab7::ad4),ahb),
 ((ae5::aev::adw::ab7::ad4),ag8),
 ((ae5::aev::adw::ab7::ad4),ahc),
 ((ae5::aev::adw::ab7::ad4),ag9),
 ((ae5::aev::adw::ab7::ad4),(.ap .same [(.lit (.int .u8 0)),(.ap (.usr 278) [abz,aew,(I 109),(.var 5)])])),
 ((ae5::aev::adw::ab7::ad4),a2k),
 ((ae5::aev::adw::ab7::ad4),af8),
 ((afe::aff::adw::ab7::ad4),ahb),
 ((afe::aff::adw::ab7::ad4),ag8),
 ((afe::aff::adw::ab7::ad4),ahc),
 ((afe::aff::adw::ab7::ad4),ag9),
 ((afe::aff::adw::ab7::ad4),aha),
 ((afe::aff::adw::ab7::ad4),a2p),
 ((afe::aff::adw::ab7::ad4),af8),
 ((adz::ay7),ap8),
 ((adz::ay7),aqc),
 ((adz::aps),af9),
 ((adz::aps),aga),
 (avr,ap9),
 (avr,aqd),
 ((aec::adt::ane),af9),
 ((aec::adt::ane),aga),
 ((adz::aec::anf),af9),
 ((adz::aec::anf),aga),
 (((.ap .not [(.var 4)])::ani::avq),(.ap .le [(.ap .slen [abz]),(I 4)])),
 (aiz,(.ap .same [(.var 1),(.ap (.usr 277) [abz,(I 0),(I 119),(.var 1)])])),
 (aiz,(.ap .same [(.var 2),(.ap (.usr 277) [abz,(I 0),(I 110),(.var 2)])])),
 (aiz,(.ap .same [(.var 3),(.ap (.usr 277) [abz,(I 0),(I 97),(.var 3)])])),
 (aiz,(.ap .same [(.var 6),(.ap (.usr 277) [abz,(I 0),(I 111),(.var 6)])])),
 (aiz,(.ap .same [(.var 5),(.ap (.usr 278) [abz,(I 0),(I 109),(.var 5)])])),
 (aiz,a2i),
 (aiz,(.ap (.usr 279) [abz,(.var 1),(.var 2),(.var 3),(.var 5),(.var 6),(I 0)])),
 ((afa::ae6::ai1),(.ap .same [(I 0),(.ap (.usr 277) [abz,aew,(I 119),(.var 1)])])),
 ((afa::ae6::ai1),ag8),
 ((afa::ae6::ai1),ahc),
 ((afa::ae6::ai1),ag9),
 ((afa::ae6::ai1),aha),
 ((afa::ae6::ai1),a2l),
 ((afa::ae6::ai1),af8),
 ((afb::ae7::aem::aij),ahb),
 ((afb::ae7::aem::aij),(.ap .same [(I 0),(.ap (.usr 277) [abz,aew,(I 110),(.var 2)])])),
 ((afb::ae7::aem::aij),ahc),
 ((afb::ae7::aem::aij),ag9),
 ((afb::ae7::aem::aij),aha),
 ((afb::ae7::aem::aij),a2m),
 ((afb::ae7::aem::aij),af8),
 ((afc::ae8::aen::afn::ac1),ahb),
 ((afc::ae8::aen::afn::ac1),ag8),
 ((afc::ae8::aen::afn::ac1),(.ap .same [(I 0),(.ap (.usr 277) [abz,aew,(I 97),(.var 3)])])),
 ((afc::ae8::aen::afn::ac1),ag9),
 ((afc::ae8::aen::afn::ac1),aha),
 ((afc::ae8::aen::afn::ac1),a2n),
 ((afc::ae8::aen::afn::ac1),af8),
 ((afd::ae9::ai2),ahb),
 ((afd::ae9::ai2),ag8),
 ((afd::ae9::ai2),ahc),
 ((afd::ae9::ai2),(.ap .same [(I 0),(.ap (.usr 277) [abz,aew,(I 111),(.var 6)])])),
 ((afd::ae9::ai2),aha),
 ((afd::ae9::ai2),a2o),
 ((afd::ae9::ai2),af8),
 ((ae5::aev::adw::ab7::ac1),ahb),
 ((ae5::aev::adw::ab7::ac1),ag8),
 ((ae5::aev::adw::ab7::ac1),ahc),
 ((ae5::aev::adw::ab7::ac1),ag9),
 ((ae5::aev::adw::ab7::ac1),(.ap .same [(.lit (.int .u8 0)),(.ap (.usr 278) [abz,aew,(I 109),(.var 5)])])),
 ((ae5::aev::adw::ab7::ac1),a2k),
 ((ae5::aev::adw::ab7::ac1),af8),
 ((afe::aff::adw::ab7::ac1),ahb),
 ((afe::aff::adw::ab7::ac1),ag8),
 ((afe::aff::adw::ab7::ac1),ahc),
 ((afe::aff::adw::ab7::ac1),ag9),
 ((afe::aff::adw::ab7::ac1),aha),
 ((afe::aff::adw::ab7::ac1),a2p),
 ((afe::aff::adw::ab7::ac1),af8),
 (avs,ap8),
 (avs,aqc),
 (avt,af9),
 (avt,aga),
 ((aec::adt::anh),ap9),
 ((aec::adt::anh),aqd),
 ((aec::ap4),af9),
 ((aec::ap4),aga),
 ((adz::ap7),af9),
 ((adz::ap7),aga)]
set_option maxRecDepth 100000 in
def bqn:List (List X×List (List X)):=[(((.ap .not [ani])::avq),[[(.lit (.string (.mk (.mk []))))],[(I 2)]]),
 (((.ap .lt [(.var 1),(I 0)])::ai4::ael::amh),[[(.lit (.string (.mk (.mk []))))],[(I 2)]]),
 (((.ap .lt [(I 1073741824),(.var 1)])::ami),[[(.lit (.string (.mk (.mk []))))],[(I 2)]]),
 (((.ap .lt [(.var 2),(I 0)])::alb),[[(.lit (.string (.mk (.mk []))))],[(I 2)]]),
 (((.ap .lt [(I 1073741824),(.var 2)])::aem::alb),[[(.lit (.string (.mk (.mk []))))],[(I 2)]]),
 (((.ap .lt [(.var 3),(I 0)])::afn::ad4),[[(.lit (.string (.mk (.mk []))))],[(I 2)]]),
 (((.ap .lt [(I 1073741824),(.var 3)])::aen::afn::ad4),[[(.lit (.string (.mk (.mk []))))],[(I 2)]]),
 (((.ap .lt [(.var 6),(I 0)])::anj::ab7::ad4),[[(.lit (.string (.mk (.mk []))))],[(I 2)]]),
 (((.ap .lt [(I 1073741824),(.var 6)])::amj),[[(.lit (.string (.mk (.mk []))))],[(I 2)]]),
 ((ahd::ay5),[[(.lit (.string (.mk (.mk []))))],[(I 2)]]),
 ((ahe::ac2::ay5),[[(.lit (.string (.mk (.mk []))))],[(I 2)]]),
 ((ahf::ads::ac2::ay5),[[(.lit (.string (.mk (.mk []))))],[(I 2)]]),
 (((.ap .not [aeb])::ay6),[[(.lit (.string (.mk (.mk []))))],[(I 2)]]),
 ((ahh::aeb::ay6),[[(.lit (.string (.mk (.mk []))))],[(I 2)]]),
 ((ahg::aei::aeb::ay6),[[(.lit (.string (.mk (.mk []))))],[(I 2)]]),
 ((agn::ay7),[[(.lit (.string (.mk (.mk []))))],[(I 2)]]),
 ((aqe::a18),[[(.lit (.string (.mk (.mk []))))],[(I 3)]]),
 (((.ap .not [aqe])::a18),[[arw],[(I 0)]]),
 ((ahd::apq),[[(.lit (.string (.mk (.mk []))))],[(I 2)]]),
 ((ahe::ac2::apq),[[(.lit (.string (.mk (.mk []))))],[(I 2)]]),
 ((ahf::ads::ac2::apq),[[(.lit (.string (.mk (.mk []))))],[(I 2)]]),
 (((.ap .not [aeb])::apr),[[(.lit (.string (.mk (.mk []))))],[(I 2)]]),
 ((ahh::aeb::apr),[[(.lit (.string (.mk (.mk []))))],[(I 2)]]),
 ((ahg::aei::aeb::apr),[[(.lit (.string (.mk (.mk []))))],[(I 2)]]),
 ((agn::aps),[[(.lit (.string (.mk (.mk []))))],[(I 2)]]),
 ((agb::a19),[[(.lit (.string (.mk (.mk []))))],[(I 3)]]),
 (((.ap .not [agb])::a19),[[ahl],[(I 0)]]),
 ((ahd::aqb::agn::anc),[[(.lit (.string (.mk (.mk []))))],[(I 2)]]),
 ((ahe::apt),[[(.lit (.string (.mk (.mk []))))],[(I 2)]]),
 ((ahf::ads::apt),[[(.lit (.string (.mk (.mk []))))],[(I 2)]]),
 (((.ap .not [aeb])::aea::ads::apt),[[(.lit (.string (.mk (.mk []))))],[(I 2)]]),
 ((ahh::apu),[[(.lit (.string (.mk (.mk []))))],[(I 2)]]),
 ((ahg::aei::apu),[[(.lit (.string (.mk (.mk []))))],[(I 2)]]),
 ((aik::adt::aei::apu),[[(.lit (.string (.mk (.mk []))))],[(I 2)]]),
 ((aqf::a2a),[[(.lit (.string (.mk (.mk []))))],[(I 3)]]),
 (((.ap .not [aqf])::a2a),[[arx],[(I 0)]]),
 ((ahd::adz::anc),[[(.lit (.string (.mk (.mk []))))],[(I 2)]]),
 ((ahe::ac2::adz::anc),[[(.lit (.string (.mk (.mk []))))],[(I 2)]]),
 ((ahf::apv),[[(.lit (.string (.mk (.mk []))))],[(I 2)]]),
 (((.ap .not [aeb])::aea::apv),[[(.lit (.string (.mk (.mk []))))],[(I 2)]]),
 ((ahh::aeb::aea::apv),[[(.lit (.string (.mk (.mk []))))],[(I 2)]]),
 ((ahg::ane),[[(.lit (.string (.mk (.mk []))))],[(I 2)]]),
 ((aik::adt::ane),[[(.lit (.string (.mk (.mk []))))],[(I 2)]]),
 ((agb::a2b),[[(.lit (.string (.mk (.mk []))))],[(I 3)]]),
 (((.ap .not [agb])::a2b),[[ahl],[(I 0)]]),
 ((ahd::apw),[[(.lit (.string (.mk (.mk []))))],[(I 2)]]),
 ((ahe::ac2::apw),[[(.lit (.string (.mk (.mk []))))],[(I 2)]]),
 ((ahf::ads::ac2::apw),[[(.lit (.string (.mk (.mk []))))],[(I 2)]]),
 (((.ap .not [aeb])::apx),[[(.lit (.string (.mk (.mk []))))],[(I 2)]]),
 ((ahh::aeb::apx),[[(.lit (.string (.mk (.mk []))))],[(I 2)]]),
 ((ahg::aei::aeb::apx),[[(.lit (.string (.mk (.mk []))))],[(I 2)]]),
 ((aik::anf),[[(.lit (.string (.mk (.mk []))))],[(I 2)]]),
 ((agn::aec::anf),[[(.lit (.string (.mk (.mk []))))],[(I 2)]]),
 ((agb::a2c),[[(.lit (.string (.mk (.mk []))))],[(I 3)]]),
 (((.ap .not [agb])::a2c),[[ahl],[(I 0)]]),
 (((.ap .lt [(.var 1),(I 0)])::ai4::ael::ai0),[[(.lit (.string (.mk (.mk []))))],[(I 2)]]),
 (((.ap .lt [(I 1073741824),(.var 1)])::ai1),[[(.lit (.string (.mk (.mk []))))],[(I 2)]]),
 (((.ap .lt [(.var 2),(I 0)])::aij),[[(.lit (.string (.mk (.mk []))))],[(I 2)]]),
 (((.ap .lt [(I 1073741824),(.var 2)])::aem::aij),[[(.lit (.string (.mk (.mk []))))],[(I 2)]]),
 (((.ap .lt [(.var 3),(I 0)])::afn::ac1),[[(.lit (.string (.mk (.mk []))))],[(I 2)]]),
 (((.ap .lt [(I 1073741824),(.var 3)])::aen::afn::ac1),[[(.lit (.string (.mk (.mk []))))],[(I 2)]]),
 (((.ap .lt [(.var 6),(I 0)])::anj::ab7::ac1),[[(.lit (.string (.mk (.mk []))))],[(I 2)]]),
 (((.ap .lt [(I 1073741824),(.var 6)])::ai2),[[(.lit (.string (.mk (.mk []))))],[(I 2)]]),
 ((ahd::apy),[[(.lit (.string (.mk (.mk []))))],[(I 2)]]),
 ((ahe::ac2::apy),[[(.lit (.string (.mk (.mk []))))],[(I 2)]]),
 ((ahf::ads::ac2::apy),[[(.lit (.string (.mk (.mk []))))],[(I 2)]]),
 ((ahh::apz),[[(.lit (.string (.mk (.mk []))))],[(I 2)]]),
 ((ahg::aei::apz),[[(.lit (.string (.mk (.mk []))))],[(I 2)]]),
 ((agn::adt::aei::apz),[[(.lit (.string (.mk (.mk []))))],[(I 2)]]),
 ((aqe::a2d),[[(.lit (.string (.mk (.mk []))))],[(I 3)]]),
 (((.ap .not [aqe])::a2d),[[arw],[(I 0)]]),
 ((ahd::ap0),[[(.lit (.string (.mk (.mk []))))],[(I 2)]]),
 ((ahe::ac2::ap0),[[(.lit (.string (.mk (.mk []))))],[(I 2)]]),
 ((ahf::ads::ac2::ap0),[[(.lit (.string (.mk (.mk []))))],[(I 2)]]),
 ((ahh::ap1),[[(.lit (.string (.mk (.mk []))))],[(I 2)]]),
 ((ahg::aei::ap1),[[(.lit (.string (.mk (.mk []))))],[(I 2)]]),
 ((agn::adt::aei::ap1),[[(.lit (.string (.mk (.mk []))))],[(I 2)]]),
 ((agb::a2e),[[(.lit (.string (.mk (.mk []))))],[(I 3)]]),
 (((.ap .not [agb])::a2e),[[ahl],[(I 0)]]),
 ((ahd::aqb::agn::ang),[[(.lit (.string (.mk (.mk []))))],[(I 2)]]),
 ((ahe::ap2),[[(.lit (.string (.mk (.mk []))))],[(I 2)]]),
 ((ahf::ads::ap2),[[(.lit (.string (.mk (.mk []))))],[(I 2)]]),
 ((ahh::aea::ads::ap2),[[(.lit (.string (.mk (.mk []))))],[(I 2)]]),
 ((ahg::anh),[[(.lit (.string (.mk (.mk []))))],[(I 2)]]),
 ((aik::adt::anh),[[(.lit (.string (.mk (.mk []))))],[(I 2)]]),
 ((aqf::a2f),[[(.lit (.string (.mk (.mk []))))],[(I 3)]]),
 (((.ap .not [aqf])::a2f),[[arx],[(I 0)]]),
 ((ahd::adz::ang),[[(.lit (.string (.mk (.mk []))))],[(I 2)]]),
 ((ahe::ac2::adz::ang),[[(.lit (.string (.mk (.mk []))))],[(I 2)]]),
 ((ahf::ap3),[[(.lit (.string (.mk (.mk []))))],[(I 2)]]),
 ((ahh::aea::ap3),[[(.lit (.string (.mk (.mk []))))],[(I 2)]]),
 ((ahg::aei::aea::ap3),[[(.lit (.string (.mk (.mk []))))],[(I 2)]]),
 ((aik::ap4),[[(.lit (.string (.mk (.mk []))))],[(I 2)]]),
 ((agb::a2g),[[(.lit (.string (.mk (.mk []))))],[(I 3)]]),
 (((.ap .not [agb])::a2g),[[ahl],[(I 0)]]),
 ((ahd::ap5),[[(.lit (.string (.mk (.mk []))))],[(I 2)]]),
 ((ahe::ac2::ap5),[[(.lit (.string (.mk (.mk []))))],[(I 2)]]),
 ((ahf::ads::ac2::ap5),[[(.lit (.string (.mk (.mk []))))],[(I 2)]]),
 ((ahh::ap6),[[(.lit (.string (.mk (.mk []))))],[(I 2)]]),
 ((ahg::aei::ap6),[[(.lit (.string (.mk (.mk []))))],[(I 2)]]),
 ((aik::adt::aei::ap6),[[(.lit (.string (.mk (.mk []))))],[(I 2)]]),
 ((agn::ap7),[[(.lit (.string (.mk (.mk []))))],[(I 2)]]),
 ((agb::a2h),[[(.lit (.string (.mk (.mk []))))],[(I 3)]]),
 (((.ap .not [agb])::a2h),[[ahl],[(I 0)]])]
set_option maxRecDepth 100000 in
theorem bzq:runS Tryd.prog (ahj (tab T12)) 10 20 hs12 Tryd.f12 (acv Tryd.f12) axn=some (bqo,bqn):=by kernel_rfl
theorem bv9{ss:List Srt}{d:CD}(_:2≤2)(hT:Typ (.sl ss) d)(h:(d.len:Int)≤2500):2*d.rows.length≤5000:=by
 rw [hT.sl.1] at h
 omega
theorem bqt{ss:List Srt}{d:CD}(hT:Typ (.sl ss) d)(h:(d.len:Int)≤2500):d.rows.length≤5000:=by
 rw [hT.sl.1] at h
 omega
set_option maxHeartbeats 4000000 in
set_option maxRecDepth 100000 in
theorem bvb:∀ z∈bqo,VCok U z:=by
  unfold bqo
  repeat' (first | exact ae1 _ | refine ae3 (fun v hh=>?_) ?_)
  all_goals
    simp only [aay,aa5,aax,aa4,aa3,aam,b_lt,b_le,b_eq,aaz,aa1,aaj,abd,aal,aan,aa2,w_mk,aao,aa9,aa6,aa8,aa0,w_l0,w_l1,aaf,aae,aaw,aac,aad,aak,aai,w_eq,aco,aci,a4f,a4g,a4h,a4i,a4j,a4k,a4l,a4m,ax3,acj,a4n,mnX,mxX,avq,abz,avu,ahl,aew,afn,arz,aei,agn,aev,ael,af8,aik,ae5,ac2,ads,adt,af9,ag8,ag9,aha,ahb,ahc,aea,ae6,ae7,ae8,ae9,afa,afb,afc,afd,aem,aen,afe,ai3,ab7,aga,agb,aeb,adz,ai4,aec,aqa,aff,agp,arw,arx,ap8,ap9,a2i,a2j,ahd,ahe,ahf,ahg,a2k,ani,aqb,ahh,aqc,aqd,a2l,a2m,a2n,a2o,aqe,aqf,aqg,anj,adw,a2p,amg,amh,ami,alb,ad4,amj,ay5,ay6,ay7,a18,apq,apr,aps,a19,anc,apt,apu,avr,a2a,apv,ane,a2b,apw,apx,anf,a2c,aiz,ai0,ai1,aij,ac1,ai2,apy,apz,avs,a2d,ap0,ap1,avt,a2e,ang,ap2,anh,a2f,ap3,ap4,a2g,ap5,ap6,ap7,a2h,aa7,abx,acn] at hh ⊢
    first
    | exact b06 _ _
    | (have hA1:Typ sI (v 1):=by simp only [hh]
       have hA2:Typ sI (v 2):=by simp only [hh]
       have hA3:Typ sI (v 3):=by simp only [hh]
       have hA5:Typ (.int .u8) (v 5):=by simp only [hh]
       have hA6:Typ sI (v 6):=by simp only [hh]
       first | exact ae0 hA1 | exact ae0 hA2 | exact ae0 hA3 | exact b0m hA5 | exact ae0 hA6 | rfl)
    | (have hl4:=bix (v 0).iv (v 4).bv
       have hl6:=als (v 0).iv (v 4).bv
       have hs:=a95 (v 0).iv (v 4).bv
       unfold fF at hl4 hs
       unfold wF at hl6
       generalize frow (v 0).iv (v 4).bv=R at hh hl4 hl6 hs ⊢
       have hb:(R.2.2.2.1.take (v 9).iv.toNat).all (fun c=>inR (selV (v 1).iv (v 2).iv (v 3).iv (v 5).iv (v 6).iv c))=true:=by simp only [hh]
       have hr:CD.sl (false&&(v 16).rows.isEmpty) (v 16).rows=CD.sl false ((acp R.1 R.2.2.2.1 (v 1).iv (v 2).iv (v 3).iv (v 5).iv (v 6).iv (v 9).iv.toNat).map afz):=by simp only [hh]
       first
       | (have h0:0≤(v 9).iv:=by simp only [hh]
          have hi:(v 9).iv<(R.2.2.2.1.length:Int):=by
            rw [← hs]
            simp only [hh]
          simp only [br7 h0 hi,ad3] at hh
          first
          | (rw [bpe h0 hi (by simp only [hh];done)];done)
          | (rw [bjp h0 hi (by first | (simp only [hh,not_false_eq_true,ne_eq];done) | (simp only [hh];decide))];simp only [hh];done)
          | exact arh h0 hi hr (bq1 (by simp only [hh];done))
          | exact arh h0 hi hr (bqz (by simp only [hh];done))
          | exact arh h0 hi hr (bqy (by simp only [hh];done))
          | exact arh h0 hi hr (bq0 (by simp only [hh];done))
          | exact arh h0 hi hr (b0e (by simp only [hh];done))
          | exact arh h0 hi hr (b0d (by simp only [hh,not_false_eq_true];done) (by simp only [hh,not_false_eq_true];done) (by simp only [hh,not_false_eq_true];done) (by simp only [hh,not_false_eq_true];done) (by simp only [hh,not_false_eq_true];done))
          | (refine ayr h0 hi hb ((congrArg inR (bq1 ?_)).trans (a08 ?_ ?_))
             · (simp only [hh];done)
             · (simp only [hh,not_false_eq_true];done)
             · (simp only [hh,not_false_eq_true];done))
          | (refine ayr h0 hi hb ((congrArg inR (bqz ?_)).trans (a08 ?_ ?_))
             · (simp only [hh];done)
             · (simp only [hh,not_false_eq_true];done)
             · (simp only [hh,not_false_eq_true];done))
          | (refine ayr h0 hi hb ((congrArg inR (bqy ?_)).trans (a08 ?_ ?_))
             · (simp only [hh];done)
             · (simp only [hh,not_false_eq_true];done)
             · (simp only [hh,not_false_eq_true];done))
          | (refine ayr h0 hi hb ((congrArg inR (bq0 ?_)).trans (a08 ?_ ?_))
             · (simp only [hh];done)
             · (simp only [hh,not_false_eq_true];done)
             · (simp only [hh,not_false_eq_true];done))
          | (refine ayr h0 hi hb ((congrArg inR (b0e ?_)).trans ?_)
             · (simp only [hh];done)
             · have g1:0≤(v 5).iv:=by simp only [hh]
               have g2:(v 5).iv≤255:=by simp only [hh]
               exact a08 (by omega) (by omega))
          | (refine ayr h0 hi hb ((congrArg inR (b0d ?_ ?_ ?_ ?_ ?_)).trans (a08 (by decide) (by decide)))
             all_goals (simp only [hh,not_false_eq_true];done)))
       | exact a94 hl4 hr _ (Nat.le_refl 1)
       | exact a94 hl4 hr [] (Nat.zero_le 1)
       | exact(by
           have:=a94 hl4 hr [] (Nat.zero_le 1)
           rwa [List.append_nil] at this)
       | exact a0t hl4 hl6 hr hb [hexT (v 7).rows] (Nat.le_refl 1) (fun x hx=>by
           rw [List.mem_singleton.1 hx,bo6]
           exact bv9 (ss:=[.int .u8]) (by decide) (by simp only [hh];done) (by simp only [hh];done))
       | exact a0t hl4 hl6 hr hb [markT (v 8).rows] (Nat.le_refl 1) (fun x hx=>by
           rw [List.mem_singleton.1 hx,bc8]
           exact bqt (ss:=[.bool]) (by simp only [hh];done) (by simp only [hh];done))
       | exact(by
           have:=a0t hl4 hl6 hr hb [] (Nat.zero_le 1) (fun x hx=>by cases hx)
           rwa [List.map_nil,List.append_nil] at this))
end Go.Proofs.YtamhchkknlbanaaDoor.Be
