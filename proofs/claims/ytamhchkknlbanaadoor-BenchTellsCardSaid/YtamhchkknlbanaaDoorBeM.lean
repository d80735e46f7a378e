/-
  Contracts of a seat's functions: what a line says, by the program. Conditions: none.
-/
import Derived.Test.YtamhchkknlbanaaDoorBeO
import Derived.Test.YtamhchkknlbanaaDoorBeD
set_option linter.unusedSectionVars false
set_option linter.unusedVariables false
set_option linter.unusedSimpArgs false
set_option linter.all false
namespace Go.Proofs.YtamhchkknlbanaaDoor.Be
open Go.Sx Go.Proofs
set_option maxRecDepth 100000 in
theorem boy:agh U Tryd.prog (mapO 18 es18 15):=bt7 (anb mixed (aiv hT0) (TbOK.of byk) 2) bsi
noncomputable def T6:List (FuncId×Fsp):=[(17,SWrd),(44,bxg),(20,bbp),(21,bbn)]
set_option maxRecDepth 100000 in
theorem hT6:an0 U Tryd.prog T6:=.cons b2q (.cons b27 (.cons b2r (.cons b2s .nil)))
noncomputable def ora6:OraM:=orM2 (mapO 18 es18 15) (ahj (tab T6))
set_option maxRecDepth 100000 in
theorem bk3:agh U Tryd.prog ora6:=buq boy (aiv hT6)
noncomputable def svE(F:Fm)(t:Nat):X:=match F.get t with
 | some (.one (.sv _ _ e))=>e
 | _=>zI
noncomputable def hs43:Hs:=⟨afu [],hintA [(4,fun F H=>[.ap .le [I 1,.ap .len [svE F 8]],.ap .le [.ap .slen [.ap (.cell 0) [svE F 8,zI]],I 2500]])]⟩
noncomputable def inl6:List (FuncId×Inl):=[(19,⟨Tryd.f19,noH⟩),(43,⟨Tryd.f43,hs43⟩),(45,⟨Tryd.f45,noH⟩),(46,⟨Tryd.f46,noH⟩)]
set_option maxRecDepth 100000 in
theorem byj:amb U Tryd.prog inl6:=.cons (.of at19 (by kernel_rfl)) (.cons (.of at43 (by kernel_rfl)) (.cons (.of at45 (by kernel_rfl)) (.cons (.of at46 (by kernel_rfl)) .nil)))
noncomputable def tb6:Tb:=⟨apf inl6,noY,U.lc⟩
abbrev pcX:X:=.ap (.usr 252) [.var 0]
noncomputable def hs6:Hs:=⟨afu [],hintA [(6,fun F H=>[.ap .le [I 1,.ap .len [pcX]]]),(35,fun F H=>[.ap .le [.ap .slen [.ap (.cell 0) [svE F 14,zI]],I 2500]]),(37,fun F H=>[.ap .le [.ap .slen [.ap (.cell 0) [svE F 14,zI]],I 2500]])]⟩
abbrev bgg:X:=(.ap .cut [(.ap (.usr 252) [(.var 0)]),(I 1),mxX])
abbrev bls:X:=(.ap .cut [bgg,(I 1),mxX])
abbrev blv:X:=(.ap (.cell 0) [bgg,(I 0)])
abbrev aiq:X:=(.ap (.cell 0) [(.ap (.usr 252) [(.var 0)]),(I 0)])
abbrev aah:X:=(.ap (.nil true) [])
abbrev asv:X:=(.ap .cut [bls,(I 1),mxX])
abbrev blw:X:=(.ap (.cell 0) [bls,(I 0)])
abbrev aks:X:=(.ap .eq [(.ap .len [bgg]),(I 0)])
abbrev ac4:X:=(.ap (.usr 202) [blv])
abbrev bgh:X:=(.ap .len [bls])
abbrev adp:X:=(.ap .le [(.ap .slen [blv]),(I 2500)])
abbrev adq:X:=(.ap .le [(I 1),(.ap .len [bgg])])
abbrev afo:X:=(.ap (.usr 250) [blv])
abbrev afp:X:=(.ap (.cell 0) [asv,(I 0)])
abbrev afx:X:=(.ap .le [(.ap .len [asv]),(I 1)])
abbrev adu:X:=(.ap (.usr 202) [blw])
abbrev amw:X:=(.ap .eq [aiq,(.lit (.string (.mk (.mk [114,101,111,112,101,110]))))])
abbrev amx:X:=(.ap .eq [aiq,(.lit (.string (.mk (.mk [100,111,117,98,108,101]))))])
abbrev ahn:X:=(.ap .le [(.ap .slen [blw]),(I 2500)])
abbrev acw:X:=(.ap .not [aks])
abbrev amy:X:=(.ap .eq [aiq,(.lit (.string (.mk (.mk [102,108,111,119]))))])
abbrev am0:X:=(.ap .eq [aiq,(.lit (.string (.mk (.mk [106,111,105,110]))))])
abbrev ad6:X:=(.ap .le [bgh,(I 1)])
abbrev ajo:X:=(.ap (.usr 250) [blw])
abbrev ait:X:=(.ap .eq [(.ap .len [asv]),(I 1)])
abbrev agk:X:=(.ap .eq [bgh,(I 1)])
abbrev am1:X:=(.ap .le [(.ap .slen [afp]),(I 2500)])
abbrev ag0:X:=(.ap .le [mnX,afo])
abbrev ag1:X:=(.ap .le [afo,mxX])
abbrev awk:X:=(.ap .eq [aiq,(.lit (.string (.mk (.mk [116,117,114,110]))))])
abbrev aho:X:=(.ap .le [(I 1),bgh])
abbrev am2:X:=(.ap .cut [asv,(I 1),mxX])
abbrev alj:X:=(.ap (.cell 0) [am2,(I 0)])
abbrev awl:X:=(.ap .le [(I 1),(.ap .len [(.ap (.usr 252) [(.var 0)])])])
abbrev azw:X:=(.ap .eq [aiq,(.lit (.string (.mk (.mk [99,114,97,115,104]))))])
abbrev azx:X:=(.ap .eq [aiq,(.lit (.string (.mk (.mk [109,111,118,101]))))])
abbrev azy:X:=(.ap .eq [aiq,(.lit (.string (.mk (.mk [116,105,99,107]))))])
abbrev ag2:X:=(.ap .not [ac4])
abbrev azz:X:=(.ap .eq [aiq,(.lit (.string (.mk (.mk [97,115,107]))))])
abbrev az0:X:=(.ap .eq [aiq,(.lit (.string (.mk (.mk [97,116]))))])
abbrev az1:X:=(.ap .lt [(I 255),(.ap (.usr 250) [alj])])
abbrev az2:X:=(.ap .len [(.ap .cut [am2,(I 1),mxX])])
abbrev am3:X:=(.ap .eq [bgh,(I 0)])
abbrev aex:X:=(.ap .not [am3])
abbrev aom:X:=(.ap .le [mnX,ajo])
abbrev aon:X:=(.ap .le [ajo,mxX])
abbrev bqp:List X:=[(.ap .not [(.ap .lt [(I 2200),(.ap .slen [(.var 0)])])]),(.ap (.typ .str) [(.var 0)]),(.ap .le [(.ap .slen [(.var 0)]),(I 2500)])]
abbrev ba0:List X:=(.ap (.typ (.sl [.str])) [(.ap (.usr 252) [(.var 0)])])::(.ap (.usr 224) [(.var 0)])::(.ap .not [(.ap .isnil [(.ap (.usr 252) [(.var 0)])])])::bqp
abbrev blq:List X:=acw::azy::awl::ba0
abbrev bgb:List X:=ag0::ag1::adq::adp::blq
abbrev bgc:List X:=(.ap .eq [aiq,(.lit (.string (.mk (.mk [116,97,107,101]))))])::(.ap .not [azy])::awl::ba0
abbrev bgd:List X:=ag0::ag1::adq::adp::acw::bgc
abbrev ax0:List X:=(.ap .not [(.ap .eq [aiq,(.lit (.string (.mk (.mk [116,97,107,101]))))])])::(.ap .not [azy])::awl::ba0
abbrev bge:List X:=ag0::ag1::adq::adp::acw::amy::ax0
abbrev blr:List X:=acw::az0::(.ap .not [amy])::ax0
abbrev bgf:List X:=ag0::ag1::adq::adp::blr
abbrev azh:List X:=(.ap .eq [aiq,(.lit (.string (.mk (.mk [100,114,111,112]))))])::(.ap .not [az0])::(.ap .not [amy])::ax0
abbrev azi:List X:=ag0::ag1::adq::adp::acw::azh
abbrev amt:List X:=(.ap .not [(.ap .eq [aiq,(.lit (.string (.mk (.mk [100,114,111,112]))))])])::(.ap .not [az0])::(.ap .not [amy])::ax0
abbrev azj:List X:=ag0::ag1::adq::adp::acw::amx::amt
abbrev a7s:List X:=acw::azx::(.ap .not [amx])::amt
abbrev av8:List X:=ag0::ag1::adq::adp::a7s
abbrev azk:List X:=aom::aon::aho::ahn::aex::ac4::av8
abbrev azl:List X:=(.ap .eq [aiq,(.lit (.string (.mk (.mk [99,117,116]))))])::(.ap .not [azx])::(.ap .not [amx])::amt
abbrev av9:List X:=ag0::ag1::adq::adp::acw::azl
abbrev azm:List X:=aom::aon::aho::ahn::aex::ac4::av9
abbrev amu:List X:=(.ap .not [(.ap .eq [aiq,(.lit (.string (.mk (.mk [99,117,116]))))])])::(.ap .not [azx])::(.ap .not [amx])::amt
abbrev awc:List X:=ag0::ag1::adq::adp::acw::am0::amu
abbrev azn:List X:=aom::aon::aho::ahn::aex::ac4::awc
abbrev a7t:List X:=acw::azz::(.ap .not [am0])::amu
abbrev awd:List X:=ag0::ag1::adq::adp::a7t
abbrev azo:List X:=aom::aon::aho::ahn::aex::ac4::awd
abbrev a7u:List X:=ait::afx::adu::azo
abbrev azp:List X:=(.ap .eq [aiq,(.lit (.string (.mk (.mk [97,103,97,105,110]))))])::(.ap .not [azz])::(.ap .not [am0])::amu
abbrev azq:List X:=ag0::ag1::adq::adp::acw::azp
abbrev amv:List X:=(.ap .not [(.ap .eq [aiq,(.lit (.string (.mk (.mk [97,103,97,105,110]))))])])::(.ap .not [azz])::(.ap .not [am0])::amu
abbrev azr:List X:=ag0::ag1::adq::adp::acw::amw::amv
abbrev a7v:List X:=acw::azw::(.ap .not [amw])::amv
abbrev awe:List X:=ag0::ag1::adq::adp::a7v
abbrev azs:List X:=aom::aon::aho::ahn::aex::ac4::awe
abbrev a7w:List X:=ait::afx::adu::azs
abbrev azt:List X:=(.ap .eq [aiq,(.lit (.string (.mk (.mk [102,117,115,101]))))])::(.ap .not [azw])::(.ap .not [amw])::amv
abbrev awf:List X:=ag0::ag1::adq::adp::acw::azt
abbrev azu:List X:=aom::aon::aho::ahn::aex::ac4::awf
abbrev awg:List X:=(.ap .not [(.ap .eq [aiq,(.lit (.string (.mk (.mk [102,117,115,101]))))])])::(.ap .not [azw])::(.ap .not [amw])::amv
abbrev awh:List X:=ag0::ag1::adq::adp::acw::awk::awg
abbrev awi:List X:=aom::aon::aho::ahn::aex::ac4::awh
abbrev awj:List X:=(.ap .le [mnX,(.ap (.usr 250) [afp])])::(.ap .le [(.ap (.usr 250) [afp]),mxX])::(.ap .le [(I 1),(.ap .len [asv])])::am1::(.ap .not [(.ap .eq [(.ap .len [asv]),(I 0)])])::adu::awi
abbrev azv:List X:=(.ap .le [mnX,(.ap (.usr 250) [alj])])::(.ap .le [(.ap (.usr 250) [alj]),mxX])::(.ap .le [(I 1),(.ap .len [am2])])::(.ap .le [(.ap .slen [alj]),(I 2500)])::(.ap .not [(.ap .eq [(.ap .len [am2]),(I 0)])])::(.ap (.usr 202) [afp])::awj
abbrev bed:List X:=(.ap .le [az2,(I 1)])::(.ap (.usr 202) [alj])::(.ap .not [az1])::azv
set_option maxRecDepth 100000 in
def r6_v:List VC:=[(ba0,awl),
 (blq,adq),
 (blq,adp),
 ((acw::bgc),adq),
 ((acw::bgc),adp),
 ((acw::amy::ax0),adq),
 ((acw::amy::ax0),adp),
 (blr,adq),
 (blr,adp),
 ((acw::azh),adq),
 ((acw::azh),adp),
 ((acw::amx::amt),adq),
 ((acw::amx::amt),adp),
 (a7s,adq),
 (a7s,adp),
 ((aex::ac4::av8),aho),
 ((aex::ac4::av8),ahn),
 ((acw::azl),adq),
 ((acw::azl),adp),
 ((aex::ac4::av9),aho),
 ((aex::ac4::av9),ahn),
 ((acw::am0::amu),adq),
 ((acw::am0::amu),adp),
 ((aex::ac4::awc),aho),
 ((aex::ac4::awc),ahn),
 (a7t,adq),
 (a7t,adp),
 ((aex::ac4::awd),aho),
 ((aex::ac4::awd),ahn),
 (a7u,am1),
 ((acw::azp),adq),
 ((acw::azp),adp),
 ((acw::amw::amv),adq),
 ((acw::amw::amv),adp),
 (a7v,adq),
 (a7v,adp),
 ((aex::ac4::awe),aho),
 ((aex::ac4::awe),ahn),
 (a7w,am1),
 ((acw::azt),adq),
 ((acw::azt),adp),
 ((aex::ac4::awf),aho),
 ((aex::ac4::awf),ahn),
 ((acw::awk::awg),adq),
 ((acw::awk::awg),adp),
 ((aex::ac4::awh),aho),
 ((aex::ac4::awh),ahn),
 (((.ap .not [(.ap .eq [(.ap .len [asv]),(I 0)])])::adu::awi),(.ap .le [(I 1),(.ap .len [asv])])),
 (((.ap .not [(.ap .eq [(.ap .len [asv]),(I 0)])])::adu::awi),am1),
 (((.ap .not [(.ap .eq [(.ap .len [am2]),(I 0)])])::(.ap (.usr 202) [afp])::awj),(.ap .le [(I 1),(.ap .len [am2])])),
 (((.ap .not [(.ap .eq [(.ap .len [am2]),(I 0)])])::(.ap (.usr 202) [afp])::awj),(.ap .le [(.ap .slen [alj]),(I 2500)]))]
set_option maxRecDepth 100000 in
def r6_o:List (List X×List (List X)):=[([(.ap .lt [(I 2200),(.ap .slen [(.var 0)])]),(.ap (.typ .str) [(.var 0)]),(.ap .le [(.ap .slen [(.var 0)]),(I 2500)])],[[(I 0),(I 0),(I 0),(I 0),(.lit (.bool false)),(.lit (.int .u8 0)),(I 0),aah,aah],[(I 3)]]),
 ((aks::azy::awl::ba0),[[(I 0),(I 0),(I 0),(I 0),(.lit (.bool false)),(.lit (.int .u8 0)),(I 0),aah,aah],[(I 2)]]),
 ((agk::ad6::ac4::bgb),[[(I 0),(I 0),(I 0),(I 0),(.lit (.bool false)),(.lit (.int .u8 0)),(I 0),aah,aah],[(I 2)]]),
 (((.ap .not [agk])::ad6::ac4::bgb),[[(I 1),(I 0),afo,(I 0),(.lit (.bool false)),(.lit (.int .u8 0)),(I 0),aah,aah],[(I 0)]]),
 (((.ap .not [ad6])::ac4::bgb),[[(I 0),(I 0),(I 0),(I 0),(.lit (.bool false)),(.lit (.int .u8 0)),(I 0),aah,aah],[(I 2)]]),
 ((ag2::bgb),[[(I 0),(I 0),(I 0),(I 0),(.lit (.bool false)),(.lit (.int .u8 0)),(I 0),aah,aah],[(I 2)]]),
 ((aks::bgc),[[(I 0),(I 0),(I 0),(I 0),(.lit (.bool false)),(.lit (.int .u8 0)),(I 0),aah,aah],[(I 2)]]),
 ((agk::ad6::ac4::bgd),[[(I 0),(I 0),(I 0),(I 0),(.lit (.bool false)),(.lit (.int .u8 0)),(I 0),aah,aah],[(I 2)]]),
 (((.ap .not [agk])::ad6::ac4::bgd),[[(I 2),(I 0),afo,(I 0),(.lit (.bool false)),(.lit (.int .u8 0)),(I 0),aah,aah],[(I 0)]]),
 (((.ap .not [ad6])::ac4::bgd),[[(I 0),(I 0),(I 0),(I 0),(.lit (.bool false)),(.lit (.int .u8 0)),(I 0),aah,aah],[(I 2)]]),
 ((ag2::bgd),[[(I 0),(I 0),(I 0),(I 0),(.lit (.bool false)),(.lit (.int .u8 0)),(I 0),aah,aah],[(I 2)]]),
 ((aks::amy::ax0),[[(I 0),(I 0),(I 0),(I 0),(.lit (.bool false)),(.lit (.int .u8 0)),(I 0),aah,aah],[(I 2)]]),
 ((agk::ad6::ac4::bge),[[(I 0),(I 0),(I 0),(I 0),(.lit (.bool false)),(.lit (.int .u8 0)),(I 0),aah,aah],[(I 2)]]),
 (((.ap .not [agk])::ad6::ac4::bge),[[(I 14),(I 0),afo,(I 0),(.lit (.bool false)),(.lit (.int .u8 0)),(I 0),aah,aah],[(I 0)]]),
 (((.ap .not [ad6])::ac4::bge),[[(I 0),(I 0),(I 0),(I 0),(.lit (.bool false)),(.lit (.int .u8 0)),(I 0),aah,aah],[(I 2)]]),
 ((ag2::bge),[[(I 0),(I 0),(I 0),(I 0),(.lit (.bool false)),(.lit (.int .u8 0)),(I 0),aah,aah],[(I 2)]]),
 ((aks::az0::(.ap .not [amy])::ax0),[[(I 0),(I 0),(I 0),(I 0),(.lit (.bool false)),(.lit (.int .u8 0)),(I 0),aah,aah],[(I 2)]]),
 ((agk::ad6::ac4::bgf),[[(I 0),(I 0),(I 0),(I 0),(.lit (.bool false)),(.lit (.int .u8 0)),(I 0),aah,aah],[(I 2)]]),
 (((.ap .not [agk])::ad6::ac4::bgf),[[(I 3),(I 0),afo,(I 0),(.lit (.bool false)),(.lit (.int .u8 0)),(I 0),aah,aah],[(I 0)]]),
 (((.ap .not [ad6])::ac4::bgf),[[(I 0),(I 0),(I 0),(I 0),(.lit (.bool false)),(.lit (.int .u8 0)),(I 0),aah,aah],[(I 2)]]),
 ((ag2::bgf),[[(I 0),(I 0),(I 0),(I 0),(.lit (.bool false)),(.lit (.int .u8 0)),(I 0),aah,aah],[(I 2)]]),
 ((aks::azh),[[(I 0),(I 0),(I 0),(I 0),(.lit (.bool false)),(.lit (.int .u8 0)),(I 0),aah,aah],[(I 2)]]),
 ((agk::ad6::ac4::azi),[[(I 0),(I 0),(I 0),(I 0),(.lit (.bool false)),(.lit (.int .u8 0)),(I 0),aah,aah],[(I 2)]]),
 (((.ap .not [agk])::ad6::ac4::azi),[[(I 4),(I 0),afo,(I 0),(.lit (.bool false)),(.lit (.int .u8 0)),(I 0),aah,aah],[(I 0)]]),
 (((.ap .not [ad6])::ac4::azi),[[(I 0),(I 0),(I 0),(I 0),(.lit (.bool false)),(.lit (.int .u8 0)),(I 0),aah,aah],[(I 2)]]),
 ((ag2::azi),[[(I 0),(I 0),(I 0),(I 0),(.lit (.bool false)),(.lit (.int .u8 0)),(I 0),aah,aah],[(I 2)]]),
 ((aks::amx::amt),[[(I 0),(I 0),(I 0),(I 0),(.lit (.bool false)),(.lit (.int .u8 0)),(I 0),aah,aah],[(I 2)]]),
 ((agk::ad6::ac4::azj),[[(I 0),(I 0),(I 0),(I 0),(.lit (.bool false)),(.lit (.int .u8 0)),(I 0),aah,aah],[(I 2)]]),
 (((.ap .not [agk])::ad6::ac4::azj),[[(I 5),(I 0),afo,(I 0),(.lit (.bool false)),(.lit (.int .u8 0)),(I 0),aah,aah],[(I 0)]]),
 (((.ap .not [ad6])::ac4::azj),[[(I 0),(I 0),(I 0),(I 0),(.lit (.bool false)),(.lit (.int .u8 0)),(I 0),aah,aah],[(I 2)]]),
 ((ag2::azj),[[(I 0),(I 0),(I 0),(I 0),(.lit (.bool false)),(.lit (.int .u8 0)),(I 0),aah,aah],[(I 2)]]),
 ((aks::azx::(.ap .not [amx])::amt),[[(I 0),(I 0),(I 0),(I 0),(.lit (.bool false)),(.lit (.int .u8 0)),(I 0),aah,aah],[(I 2)]]),
 ((ag2::av8),[[(I 0),(I 0),(I 0),(I 0),(.lit (.bool false)),(.lit (.int .u8 0)),(I 0),aah,aah],[(I 2)]]),
 ((am3::ac4::av8),[[(I 0),(I 0),(I 0),(I 0),(.lit (.bool false)),(.lit (.int .u8 0)),(I 0),aah,aah],[(I 2)]]),
 ((ait::afx::adu::azk),[[(I 0),(I 0),(I 0),(I 0),(.lit (.bool false)),(.lit (.int .u8 0)),(I 0),aah,aah],[(I 2)]]),
 (((.ap .not [ait])::afx::adu::azk),[[(I 6),(I 0),afo,ajo,(.lit (.bool false)),(.lit (.int .u8 0)),(I 0),aah,aah],[(I 0)]]),
 (((.ap .not [afx])::adu::azk),[[(I 0),(I 0),(I 0),(I 0),(.lit (.bool false)),(.lit (.int .u8 0)),(I 0),aah,aah],[(I 2)]]),
 (((.ap .not [adu])::azk),[[(I 0),(I 0),(I 0),(I 0),(.lit (.bool false)),(.lit (.int .u8 0)),(I 0),aah,aah],[(I 2)]]),
 ((aks::azl),[[(I 0),(I 0),(I 0),(I 0),(.lit (.bool false)),(.lit (.int .u8 0)),(I 0),aah,aah],[(I 2)]]),
 ((ag2::av9),[[(I 0),(I 0),(I 0),(I 0),(.lit (.bool false)),(.lit (.int .u8 0)),(I 0),aah,aah],[(I 2)]]),
 ((am3::ac4::av9),[[(I 0),(I 0),(I 0),(I 0),(.lit (.bool false)),(.lit (.int .u8 0)),(I 0),aah,aah],[(I 2)]]),
 ((ait::afx::adu::azm),[[(I 0),(I 0),(I 0),(I 0),(.lit (.bool false)),(.lit (.int .u8 0)),(I 0),aah,aah],[(I 2)]]),
 (((.ap .not [ait])::afx::adu::azm),[[(I 7),afo,(I 0),ajo,(.lit (.bool true)),(.lit (.int .u8 0)),(I 0),aah,aah],[(I 0)]]),
 (((.ap .not [afx])::adu::azm),[[(I 0),(I 0),(I 0),(I 0),(.lit (.bool false)),(.lit (.int .u8 0)),(I 0),aah,aah],[(I 2)]]),
 (((.ap .not [adu])::azm),[[(I 0),(I 0),(I 0),(I 0),(.lit (.bool false)),(.lit (.int .u8 0)),(I 0),aah,aah],[(I 2)]]),
 ((aks::am0::amu),[[(I 0),(I 0),(I 0),(I 0),(.lit (.bool false)),(.lit (.int .u8 0)),(I 0),aah,aah],[(I 2)]]),
 ((ag2::awc),[[(I 0),(I 0),(I 0),(I 0),(.lit (.bool false)),(.lit (.int .u8 0)),(I 0),aah,aah],[(I 2)]]),
 ((am3::ac4::awc),[[(I 0),(I 0),(I 0),(I 0),(.lit (.bool false)),(.lit (.int .u8 0)),(I 0),aah,aah],[(I 2)]]),
 ((ait::afx::adu::azn),[[(I 0),(I 0),(I 0),(I 0),(.lit (.bool false)),(.lit (.int .u8 0)),(I 0),aah,aah],[(I 2)]]),
 (((.ap .not [ait])::afx::adu::azn),[[(I 7),afo,(I 0),ajo,(.lit (.bool false)),(.lit (.int .u8 0)),(I 0),aah,aah],[(I 0)]]),
 (((.ap .not [afx])::adu::azn),[[(I 0),(I 0),(I 0),(I 0),(.lit (.bool false)),(.lit (.int .u8 0)),(I 0),aah,aah],[(I 2)]]),
 (((.ap .not [adu])::azn),[[(I 0),(I 0),(I 0),(I 0),(.lit (.bool false)),(.lit (.int .u8 0)),(I 0),aah,aah],[(I 2)]]),
 ((aks::azz::(.ap .not [am0])::amu),[[(I 0),(I 0),(I 0),(I 0),(.lit (.bool false)),(.lit (.int .u8 0)),(I 0),aah,aah],[(I 2)]]),
 ((ag2::awd),[[(I 0),(I 0),(I 0),(I 0),(.lit (.bool false)),(.lit (.int .u8 0)),(I 0),aah,aah],[(I 2)]]),
 ((am3::ac4::awd),[[(I 0),(I 0),(I 0),(I 0),(.lit (.bool false)),(.lit (.int .u8 0)),(I 0),aah,aah],[(I 2)]]),
 (((.ap .not [(.ap (.usr 259) [afp])])::(.ap (.typ (.sl [(.int .u8)])) [(.ap (.usr 260) [afp])])::am1::a7u),[[(I 0),(I 0),(I 0),(I 0),(.lit (.bool false)),(.lit (.int .u8 0)),(I 0),aah,aah],[(I 2)]]),
 (((.ap (.usr 259) [afp])::(.ap (.typ (.sl [(.int .u8)])) [(.ap (.usr 260) [afp])])::am1::a7u),[[(I 8),afo,(I 0),(I 0),(.lit (.bool false)),(.lit (.int .u8 0)),ajo,(.ap (.usr 260) [afp]),aah],[(I 0)]]),
 (((.ap .not [ait])::afx::adu::azo),[[(I 8),afo,(I 0),(I 0),(.lit (.bool false)),(.lit (.int .u8 0)),ajo,aah,aah],[(I 0)]]),
 (((.ap .not [afx])::adu::azo),[[(I 0),(I 0),(I 0),(I 0),(.lit (.bool false)),(.lit (.int .u8 0)),(I 0),aah,aah],[(I 2)]]),
 (((.ap .not [adu])::azo),[[(I 0),(I 0),(I 0),(I 0),(.lit (.bool false)),(.lit (.int .u8 0)),(I 0),aah,aah],[(I 2)]]),
 ((aks::azp),[[(I 0),(I 0),(I 0),(I 0),(.lit (.bool false)),(.lit (.int .u8 0)),(I 0),aah,aah],[(I 2)]]),
 ((agk::ad6::ac4::azq),[[(I 0),(I 0),(I 0),(I 0),(.lit (.bool false)),(.lit (.int .u8 0)),(I 0),aah,aah],[(I 2)]]),
 (((.ap .not [agk])::ad6::ac4::azq),[[(I 9),afo,(I 0),(I 0),(.lit (.bool false)),(.lit (.int .u8 0)),(I 0),aah,aah],[(I 0)]]),
 (((.ap .not [ad6])::ac4::azq),[[(I 0),(I 0),(I 0),(I 0),(.lit (.bool false)),(.lit (.int .u8 0)),(I 0),aah,aah],[(I 2)]]),
 ((ag2::azq),[[(I 0),(I 0),(I 0),(I 0),(.lit (.bool false)),(.lit (.int .u8 0)),(I 0),aah,aah],[(I 2)]]),
 ((aks::amw::amv),[[(I 0),(I 0),(I 0),(I 0),(.lit (.bool false)),(.lit (.int .u8 0)),(I 0),aah,aah],[(I 2)]]),
 ((agk::ad6::ac4::azr),[[(I 0),(I 0),(I 0),(I 0),(.lit (.bool false)),(.lit (.int .u8 0)),(I 0),aah,aah],[(I 2)]]),
 (((.ap .not [agk])::ad6::ac4::azr),[[(I 11),afo,(I 0),(I 0),(.lit (.bool false)),(.lit (.int .u8 0)),(I 0),aah,aah],[(I 0)]]),
 (((.ap .not [ad6])::ac4::azr),[[(I 0),(I 0),(I 0),(I 0),(.lit (.bool false)),(.lit (.int .u8 0)),(I 0),aah,aah],[(I 2)]]),
 ((ag2::azr),[[(I 0),(I 0),(I 0),(I 0),(.lit (.bool false)),(.lit (.int .u8 0)),(I 0),aah,aah],[(I 2)]]),
 ((aks::azw::(.ap .not [amw])::amv),[[(I 0),(I 0),(I 0),(I 0),(.lit (.bool false)),(.lit (.int .u8 0)),(I 0),aah,aah],[(I 2)]]),
 ((ag2::awe),[[(I 0),(I 0),(I 0),(I 0),(.lit (.bool false)),(.lit (.int .u8 0)),(I 0),aah,aah],[(I 2)]]),
 ((am3::ac4::awe),[[(I 0),(I 0),(I 0),(I 0),(.lit (.bool false)),(.lit (.int .u8 0)),(I 0),aah,aah],[(I 2)]]),
 (((.ap .not [(.ap (.usr 258) [afp])])::(.ap (.typ (.sl [.bool])) [(.ap (.usr 206) [afp])])::am1::a7w),[[(I 0),(I 0),(I 0),(I 0),(.lit (.bool false)),(.lit (.int .u8 0)),(I 0),aah,aah],[(I 2)]]),
 (((.ap (.usr 258) [afp])::(.ap (.typ (.sl [.bool])) [(.ap (.usr 206) [afp])])::am1::a7w),[[(I 10),afo,ajo,(I 0),(.lit (.bool false)),(.lit (.int .u8 0)),(I 0),aah,(.ap (.usr 206) [afp])],[(I 0)]]),
 (((.ap .not [ait])::afx::adu::azs),[[(I 10),afo,ajo,(I 0),(.lit (.bool false)),(.lit (.int .u8 0)),(I 0),aah,aah],[(I 0)]]),
 (((.ap .not [afx])::adu::azs),[[(I 0),(I 0),(I 0),(I 0),(.lit (.bool false)),(.lit (.int .u8 0)),(I 0),aah,aah],[(I 2)]]),
 (((.ap .not [adu])::azs),[[(I 0),(I 0),(I 0),(I 0),(.lit (.bool false)),(.lit (.int .u8 0)),(I 0),aah,aah],[(I 2)]]),
 ((aks::azt),[[(I 0),(I 0),(I 0),(I 0),(.lit (.bool false)),(.lit (.int .u8 0)),(I 0),aah,aah],[(I 2)]]),
 ((ag2::awf),[[(I 0),(I 0),(I 0),(I 0),(.lit (.bool false)),(.lit (.int .u8 0)),(I 0),aah,aah],[(I 2)]]),
 ((am3::ac4::awf),[[(I 0),(I 0),(I 0),(I 0),(.lit (.bool false)),(.lit (.int .u8 0)),(I 0),aah,aah],[(I 2)]]),
 ((ait::afx::adu::azu),[[(I 0),(I 0),(I 0),(I 0),(.lit (.bool false)),(.lit (.int .u8 0)),(I 0),aah,aah],[(I 2)]]),
 (((.ap .not [ait])::afx::adu::azu),[[(I 12),afo,ajo,(I 0),(.lit (.bool false)),(.lit (.int .u8 0)),(I 0),aah,aah],[(I 0)]]),
 (((.ap .not [afx])::adu::azu),[[(I 0),(I 0),(I 0),(I 0),(.lit (.bool false)),(.lit (.int .u8 0)),(I 0),aah,aah],[(I 2)]]),
 (((.ap .not [adu])::azu),[[(I 0),(I 0),(I 0),(I 0),(.lit (.bool false)),(.lit (.int .u8 0)),(I 0),aah,aah],[(I 2)]]),
 ((aks::awk::awg),[[(I 0),(I 0),(I 0),(I 0),(.lit (.bool false)),(.lit (.int .u8 0)),(I 0),aah,aah],[(I 2)]]),
 ((ag2::awh),[[(I 0),(I 0),(I 0),(I 0),(.lit (.bool false)),(.lit (.int .u8 0)),(I 0),aah,aah],[(I 2)]]),
 ((am3::ac4::awh),[[(I 0),(I 0),(I 0),(I 0),(.lit (.bool false)),(.lit (.int .u8 0)),(I 0),aah,aah],[(I 2)]]),
 (((.ap .not [adu])::awi),[[(I 0),(I 0),(I 0),(I 0),(.lit (.bool false)),(.lit (.int .u8 0)),(I 0),aah,aah],[(I 2)]]),
 (((.ap .eq [(.ap .len [asv]),(I 0)])::adu::awi),[[(I 0),(I 0),(I 0),(I 0),(.lit (.bool false)),(.lit (.int .u8 0)),(I 0),aah,aah],[(I 2)]]),
 (((.ap .not [(.ap (.usr 202) [afp])])::awj),[[(I 0),(I 0),(I 0),(I 0),(.lit (.bool false)),(.lit (.int .u8 0)),(I 0),aah,aah],[(I 2)]]),
 (((.ap .eq [(.ap .len [am2]),(I 0)])::(.ap (.usr 202) [afp])::awj),[[(I 0),(I 0),(I 0),(I 0),(.lit (.bool false)),(.lit (.int .u8 0)),(I 0),aah,aah],[(I 2)]]),
 ((az1::azv),[[(I 0),(I 0),(I 0),(I 0),(.lit (.bool false)),(.lit (.int .u8 0)),(I 0),aah,aah],[(I 2)]]),
 (((.ap .eq [az2,(I 1)])::bed),[[(I 0),(I 0),(I 0),(I 0),(.lit (.bool false)),(.lit (.int .u8 0)),(I 0),aah,aah],[(I 2)]]),
 (((.ap .not [(.ap .eq [az2,(I 1)])])::bed),[[(I 13),afo,ajo,(.ap (.usr 250) [afp]),(.lit (.bool false)),(.ap (.wr .u8) [(.ap (.cast .u8) [(.ap (.usr 250) [alj])])]),(I 0),aah,aah],[(I 0)]]),
 (((.ap .not [(.ap .le [az2,(I 1)])])::(.ap (.usr 202) [alj])::(.ap .not [az1])::azv),[[(I 0),(I 0),(I 0),(I 0),(.lit (.bool false)),(.lit (.int .u8 0)),(I 0),aah,aah],[(I 2)]]),
 (((.ap .not [(.ap (.usr 202) [alj])])::(.ap .not [az1])::azv),[[(I 0),(I 0),(I 0),(I 0),(.lit (.bool false)),(.lit (.int .u8 0)),(I 0),aah,aah],[(I 2)]]),
 (((.ap .not [awk])::awg),[[(I 0),(I 0),(I 0),(I 0),(.lit (.bool false)),(.lit (.int .u8 0)),(I 0),aah,aah],[(I 6)]]),
 (((.ap (.typ (.sl [.str])) [aah])::(.ap .not [(.ap (.usr 224) [(.var 0)])])::(.ap .isnil [aah])::bqp),[[(I 0),(I 0),(I 0),(I 0),(.lit (.bool false)),(.lit (.int .u8 0)),(I 0),aah,aah],[(I 4)]])]
set_option maxRecDepth 100000 in
theorem b2h:runV Tryd.prog ⟨ora6,orvK Tryd.prog ora6 10 20 tb6 4,Tb.ent tb6,10,20,none,Go.Sx.keyOf 6⟩ hs6 Tryd.f6 (acv Tryd.f6) a4v=some (r6_v,r6_o):=by kernel_rfl
end Go.Proofs.YtamhchkknlbanaaDoor.Be
