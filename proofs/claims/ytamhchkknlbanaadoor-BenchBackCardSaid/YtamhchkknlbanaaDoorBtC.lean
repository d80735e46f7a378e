/-
  Contracts of a seat's functions: the line of a deed, by the program. Conditions: none.
-/
import Derived.Test.YtamhchkknlbanaaDoorBtH
import Derived.Test.YtamhchkknlbanaaDoorBtW
set_option linter.unusedSectionVars false
set_option linter.unusedVariables false
set_option linter.unusedSimpArgs false
set_option linter.all false
namespace Go.Proofs.YtamhchkknlbanaaDoor.Be
open Go.Sx Go.Proofs
noncomputable def T12 : List (FuncId × Fsp) := [(29, bn7), (30, b7t), (31, bq1), (32, bn6), (33, bq2)]
set_option maxRecDepth 100000 in
theorem hT12 : awn U Tryd.prog T12 := .cons cbm (.cons cbn (.cons cbo (.cons cbp (.cons cbq .nil))))
abbrev allV : List X := [.var 0, .var 1, .var 2, .var 3, .var 4, .var 5, .var 6, .var 7, .var 8]
noncomputable def bto : Fsp := ⟨[(true, bls)], preD ++ [.ap .le [.ap .len [.var 7], I 2500], .ap .le [.ap .len [.var 8], I 2500]], [(false, [.str]), (false, [sI])], [([], [[.ap (.usr 283) allV], [.ap (.usr 284) allV]])], true⟩
abbrev fX : X := .ap (.usr 273) [.var 0, .var 4]
abbrev wX : X := .ap (.usr 270) [.var 0, .var 4]
noncomputable def lp12 : Lp := ⟨[(.slot 37, .int .i64), (.cell 7 1, .int .i64), (.cell 7 2, .int .i64), (.cell 7 3, .int .i64), (.cell 7 6, .int .i64), (.cell 7 5, .int .u8), (.slot 8, .own false [.str])], [0, 1, 5, 7, 35, 36], [], fun F H k => [.ap .le [zI, .var k], .ap .le [.var k, .ap .slen [fX]], .ap .same [.var (k+1), .ap (.usr 277) [fX, .var k, I 119, .var 1]], .ap .same [.var (k+2), .ap (.usr 277) [fX, .var k, I 110, .var 2]], .ap .same [.var (k+3), .ap (.usr 277) [fX, .var k, I 97, .var 3]], .ap .same [.var (k+4), .ap (.usr 277) [fX, .var k, I 111, .var 6]], .ap .same [.var (k+5), .ap (.usr 278) [fX, .var k, I 109, .var 5]], .ap .le [.var (k+6), .ap (.add .i64) [.var k, I 1]], .ap .le [.ap (.add .i64) [.var k, I 1], .var (k+6)], .ap .same [.ap (.mk false) [.var (k+7)], .ap (.usr 276) [wX, fX, .var 1, .var 2, .var 3, .var 5, .var 6, .var k]], .ap (.usr 279) [fX, .var 1, .var 2, .var 3, .var 5, .var 6, .var k]], fun F H k => .ap (.sub .i64) [.ap .slen [fX], .var k]⟩
noncomputable def ownX (F : Fm) (H : HP) (t : Nat) : X := match F.get t with
 | some (.one (.os z b n s G e)) => match ajp H b with
  | some (_, _, e', _) => .ap (.mk z) [e']
  | none => zI
 | _ => zI
noncomputable def hs12 : Hs := ⟨an2 [(7, lp12)], hintA [(6, fun F H => [.ap .le [.ap .slen [fX], I 4]]), (36, fun F H => [.ap .le [.ap .len [ownX F H 8], I 2500], .ap .le [.ap .slen [.ap (.usr 282) [ownX F H 8, .lit (.string ⟨⟨[32]⟩⟩)]], I 40000]])]⟩
abbrev abp : X := (.ap (.usr 273) [(.var 0), (.var 4)])
abbrev a0x : X := (.ap (.cell 0) [(.ap .byt [abp]), (.var 9)])
abbrev aki : X := (.ap (.usr 282) [(.ap (.mk false) [(.var 16)]), (.lit (.string (.mk (.mk [32]))))])
abbrev agi : X := (.ap (.add .i64) [(.var 9), (I 1)])
abbrev ahc : X := (.ap .eq [a0x, (.lit (.int .u8 97))])
abbrev av6 : X := (.ap (.usr 276) [(.ap (.usr 270) [(.var 0), (.var 4)]), abp, (.var 1), (.var 2), (.var 3), (.var 5), (.var 6), agi])
abbrev af3 : X := (.ap .eq [(.var 14), (.lit (.int .u8 0))])
abbrev ai2 : X := (.ap .lt [(I 0), (.ap .len [(.var 8)])])
abbrev agh : X := (.ap .eq [a0x, (.lit (.int .u8 109))])
abbrev af5 : X := (.ap .lt [(.var 9), (.ap (.cast .i64) [(.ap .slen [abp])])])
abbrev aic : X := (.ap (.usr 279) [abp, (.var 1), (.var 2), (.var 3), (.var 5), (.var 6), agi])
abbrev alv : X := (.ap .lt [(I 0), (.ap .len [(.var 7)])])
abbrev agu : X := (.ap (.typ .str) [(.ap (.usr 251) [(.ap (.cast .i64) [(.var 5)])])])
abbrev adr : X := (.ap .eq [(.var 10), (I 0)])
abbrev aek : X := (.ap .eq [(.var 11), (I 0)])
abbrev ael : X := (.ap .eq [(.var 13), (I 0)])
abbrev aif : X := (.ap .le [(.ap .len [(.ap (.mk false) [(.var 16)])]), (I 2500)])
abbrev ajv : X := (.ap .same [(.var 11), (.ap (.usr 277) [abp, agi, (I 110), (.var 2)])])
abbrev ajy : X := (.ap .same [(.var 13), (.ap (.usr 277) [abp, agi, (I 111), (.var 6)])])
abbrev aj2 : X := (.ap .same [(.var 14), (.ap (.usr 278) [abp, agi, (I 109), (.var 5)])])
abbrev aj3 : X := (.ap .same [(.var 10), (.ap (.usr 277) [abp, agi, (I 119), (.var 1)])])
abbrev aj4 : X := (.ap .same [(.var 12), (.ap (.usr 277) [abp, agi, (I 97), (.var 3)])])
abbrev aft : X := (.ap .eq [(.var 12), (I 0)])
abbrev agv : X := (.ap .not [(.ap .lt [(I 1073741824), (.var 1)])])
abbrev agw : X := (.ap .not [(.ap .lt [(I 1073741824), (.var 2)])])
abbrev agx : X := (.ap .not [(.ap .lt [(I 1073741824), (.var 3)])])
abbrev agy : X := (.ap .not [(.ap .lt [(I 1073741824), (.var 6)])])
abbrev agz : X := (.ap (.typ .str) [(.ap (.usr 251) [(.var 1)])])
abbrev ag0 : X := (.ap (.typ .str) [(.ap (.usr 251) [(.var 2)])])
abbrev ag2 : X := (.ap (.typ .str) [(.ap (.usr 251) [(.var 3)])])
abbrev ag3 : X := (.ap (.typ .str) [(.ap (.usr 251) [(.var 6)])])
abbrev af6 : X := (.ap .not [(.ap .lt [(.var 2), (I 0)])])
abbrev af7 : X := (.ap .not [(.ap .lt [(.var 3), (I 0)])])
abbrev ag4 : X := (.ap (.typ .str) [(.ap (.usr 251) [(I 0)])])
abbrev amg : X := (.ap .eq [(.ap (.usr 274) [(.var 0), (.var 4)]), (.lit (.int .u8 98))])
abbrev aci : X := (.ap .not [ahc])
abbrev aii : X := (.ap .le [(.ap .slen [aki]), (I 40000)])
abbrev aik : X := (.ap .lt [(I 2200), (.ap .slen [aki])])
abbrev afu : X := (.ap .eq [(.var 0), (I 7)])
abbrev aes : X := (.ap .not [ai2])
abbrev amh : X := (.ap .eq [a0x, (.lit (.int .u8 119))])
abbrev afw : X := (.ap .not [alv])
abbrev au0 : X := (.ap .eq [(.ap (.usr 274) [(.var 0), (.var 4)]), (.lit (.int .u8 107))])
abbrev ag5 : X := (.ap .not [agh])
abbrev ai3 : X := (.ap (.nil false) [])
abbrev av4 : X := (.ap (.usr 282) [(.ap (.mk false) [(.ap .cat [(.var 16), (.ap .snoc [ai3, (.ap (.usr 298) [(.var 7)])])])]), (.lit (.string (.mk (.mk [32]))))])
abbrev av5 : X := (.ap (.usr 282) [(.ap (.mk false) [(.ap .cat [(.var 16), (.ap .snoc [ai3, (.ap (.usr 300) [(.var 8)])])])]), (.lit (.string (.mk (.mk [32]))))])
abbrev auy : X := (.ap .le [(.ap .len [(.ap (.mk false) [(.ap .cat [(.var 16), (.ap .snoc [ai3, (.ap (.usr 298) [(.var 7)])])])])]), (I 2500)])
abbrev auz : X := (.ap .le [(.ap .len [(.ap (.mk false) [(.ap .cat [(.var 16), (.ap .snoc [ai3, (.ap (.usr 300) [(.var 8)])])])])]), (I 2500)])
abbrev bcf : X := (.ap .same [(.ap (.mk false) [(.ap .snoc [ai3, (.ap (.usr 270) [(.var 0), (.var 4)])])]), (.ap (.usr 276) [(.ap (.usr 270) [(.var 0), (.var 4)]), abp, (.var 1), (.var 2), (.var 3), (.var 5), (.var 6), (I 0)])])
abbrev bch : X := (.ap .same [(.ap (.mk false) [(.var 16)]), (.ap (.usr 276) [(.ap (.usr 270) [(.var 0), (.var 4)]), abp, (.var 1), (.var 2), (.var 3), (.var 5), (.var 6), (.var 9)])])
abbrev aj6 : X := (.ap .not [adr])
abbrev aj7 : X := (.ap .not [aek])
abbrev aj8 : X := (.ap .not [aft])
abbrev akb : X := (.ap .not [ael])
abbrev bcj : X := (.ap .same [(.ap (.mk false) [(.ap .cat [(.var 16), (.ap .snoc [ai3, (.ap (.usr 251) [(.ap (.cast .i64) [(.var 5)])])])])]), av6])
abbrev arn : X := (.ap (.usr 275) [(.var 0), (.var 4)])
abbrev au3 : X := (.ap (.typ .str) [(.ap (.usr 300) [(.var 8)])])
abbrev akc : X := (.ap .not [af3])
abbrev au5 : X := (.ap .le [(.ap .slen [av4]), (I 40000)])
abbrev au6 : X := (.ap .le [(.ap .slen [av5]), (I 40000)])
abbrev bcl : X := (.ap .same [(.ap (.mk false) [(.ap .cat [(.var 16), (.ap .snoc [ai3, (.ap (.usr 251) [(.var 1)])])])]), av6])
abbrev bcn : X := (.ap .same [(.ap (.mk false) [(.ap .cat [(.var 16), (.ap .snoc [ai3, (.ap (.usr 251) [(.var 2)])])])]), av6])
abbrev bcp : X := (.ap .same [(.ap (.mk false) [(.ap .cat [(.var 16), (.ap .snoc [ai3, (.ap (.usr 251) [(.var 3)])])])]), av6])
abbrev bcy : X := (.ap .same [(.ap (.mk false) [(.ap .cat [(.var 16), (.ap .snoc [ai3, (.ap (.usr 251) [(.var 6)])])])]), av6])
abbrev au8 : X := (.ap .lt [(I 2200), (.ap .slen [av4])])
abbrev au9 : X := (.ap .lt [(I 2200), (.ap .slen [av5])])
abbrev ava : X := (.ap .eq [a0x, (.lit (.int .u8 110))])
abbrev arp : X := (.ap .eq [a0x, (.lit (.int .u8 111))])
abbrev aeo : X := (.ap .not [arp])
abbrev bc4 : X := (.ap .same [(.ap (.mk false) [(.ap .cat [(.var 16), (.ap .snoc [ai3, (.ap (.usr 251) [(I 0)])])])]), av6])
abbrev a0p : List X := [(.ap (.typ .str) [(.ap (.usr 270) [(.var 0), (.var 4)])]), (.ap .le [mnX, (.ap (.usr 271) [(.var 0), (.var 4)])]), (.ap .le [(.ap (.usr 271) [(.var 0), (.var 4)]), mxX]), (.ap (.typ .str) [abp]), (.ap .le [(.lit (.int .u8 0)), (.ap (.usr 274) [(.var 0), (.var 4)])]), (.ap .le [(.ap (.usr 274) [(.var 0), (.var 4)]), (.lit (.int .u8 255))]), (.ap .le [mnX, (.var 0)]), (.ap .le [(.var 0), mxX]), (.ap .le [mnX, (.var 1)]), (.ap .le [(.var 1), mxX]), (.ap .le [mnX, (.var 2)]), (.ap .le [(.var 2), mxX]), (.ap .le [mnX, (.var 3)]), (.ap .le [(.var 3), mxX]), (.ap .le [(.lit (.int .u8 0)), (.var 5)]), (.ap .le [(.var 5), (.lit (.int .u8 255))]), (.ap .le [mnX, (.var 6)]), (.ap .le [(.var 6), mxX]), (.ap (.typ (.sl [(.int .u8)])) [(.var 7)]), (.ap (.typ (.sl [.bool])) [(.var 8)]), (.ap (.typ sI) [(.var 0)]), (.ap (.typ sI) [(.var 1)]), (.ap (.typ sI) [(.var 2)]), (.ap (.typ sI) [(.var 3)]), (.ap (.typ .bool) [(.var 4)]), (.ap (.typ (.int .u8)) [(.var 5)]), (.ap (.typ sI) [(.var 6)]), (.ap .le [(.ap .len [(.var 7)]), (I 2500)]), (.ap .le [(.ap .len [(.var 8)]), (I 2500)])]
abbrev aqf : List X := (.ap .le [(.ap .slen [abp]), (I 4)]) :: (.var 4) :: arn :: a0p
abbrev aqg : List X := (.ap .le [(I 0), (.var 9)]) :: (.ap .le [(.var 9), (.ap .slen [abp])]) :: (.ap .same [(.var 10), (.ap (.usr 277) [abp, (.var 9), (I 119), (.var 1)])]) :: (.ap .same [(.var 11), (.ap (.usr 277) [abp, (.var 9), (I 110), (.var 2)])]) :: (.ap .same [(.var 12), (.ap (.usr 277) [abp, (.var 9), (I 97), (.var 3)])]) :: (.ap .same [(.var 13), (.ap (.usr 277) [abp, (.var 9), (I 111), (.var 6)])]) :: (.ap .same [(.var 14), (.ap (.usr 278) [abp, (.var 9), (I 109), (.var 5)])]) :: (.ap .le [(.var 15), agi]) :: (.ap .le [agi, (.var 15)]) :: bch :: (.ap (.usr 279) [abp, (.var 1), (.var 2), (.var 3), (.var 5), (.var 6), (.var 9)]) :: aqf
abbrev aql : List X := (.ap .not [(.ap .lt [(.var 1), (I 0)])]) :: amh :: af5 :: aqg
abbrev aoz : List X := ava :: (.ap .not [amh]) :: af5 :: aqg
abbrev ae8 : List X := (.ap .not [ava]) :: (.ap .not [amh]) :: af5 :: aqg
abbrev aqm : List X := (.ap .not [(.ap .lt [(.var 6), (I 0)])]) :: arp :: aci :: ae8
abbrev a6p : List X := (.ap (.typ .str) [(.ap (.usr 298) [(.var 7)])]) :: alv :: amg :: (.ap .not [af5]) :: aqg
abbrev a6q : List X := aft :: aek :: adr :: a6p
abbrev a6s : List X := ael :: af3 :: afu :: a6q
abbrev bbr : List X := (.ap (.typ .str) [av4]) :: auy :: au5 :: aes :: a6s
abbrev aua : List X := afw :: amg :: (.ap .not [af5]) :: aqg
abbrev aub : List X := aft :: aek :: adr :: aua
abbrev auc : List X := ael :: af3 :: afu :: aub
abbrev bbs : List X := (.ap (.typ .str) [aki]) :: aif :: aii :: aes :: auc
abbrev arh : List X := au0 :: (.ap .not [amg]) :: (.ap .not [af5]) :: aqg
abbrev aud : List X := adr :: au3 :: ai2 :: arh
abbrev aue : List X := afu :: aft :: aek :: aud
abbrev a0q : List X := afw :: ael :: af3 :: aue
abbrev bbt : List X := (.ap (.typ .str) [av5]) :: auz :: au6 :: a0q
abbrev auf : List X := aek :: adr :: aes :: arh
abbrev ari : List X := af3 :: afu :: aft :: auf
abbrev bby : List X := (.ap (.typ .str) [aki]) :: aif :: aii :: afw :: ael :: ari
abbrev aug : List X := (.ap .not [au0]) :: (.ap .not [amg]) :: (.ap .not [af5]) :: aqg
abbrev auh : List X := aft :: aek :: adr :: aug
abbrev arj : List X := ael :: af3 :: afu :: auh
abbrev bbz : List X := (.ap (.typ .str) [aki]) :: aif :: aii :: aes :: afw :: arj
abbrev amb : List X := (.ap .le [(.ap .slen [abp]), (I 4)]) :: (.ap .not [(.var 4)]) :: arn :: a0p
abbrev amc : List X := (.ap .le [(I 0), (.var 9)]) :: (.ap .le [(.var 9), (.ap .slen [abp])]) :: (.ap .same [(.var 10), (.ap (.usr 277) [abp, (.var 9), (I 119), (.var 1)])]) :: (.ap .same [(.var 11), (.ap (.usr 277) [abp, (.var 9), (I 110), (.var 2)])]) :: (.ap .same [(.var 12), (.ap (.usr 277) [abp, (.var 9), (I 97), (.var 3)])]) :: (.ap .same [(.var 13), (.ap (.usr 277) [abp, (.var 9), (I 111), (.var 6)])]) :: (.ap .same [(.var 14), (.ap (.usr 278) [abp, (.var 9), (I 109), (.var 5)])]) :: (.ap .le [(.var 15), agi]) :: (.ap .le [agi, (.var 15)]) :: bch :: (.ap (.usr 279) [abp, (.var 1), (.var 2), (.var 3), (.var 5), (.var 6), (.var 9)]) :: amb
abbrev ame : List X := (.ap .not [(.ap .lt [(.var 1), (I 0)])]) :: amh :: af5 :: amc
abbrev als : List X := ava :: (.ap .not [amh]) :: af5 :: amc
abbrev adq : List X := (.ap .not [ava]) :: (.ap .not [amh]) :: af5 :: amc
abbrev amf : List X := (.ap .not [(.ap .lt [(.var 6), (I 0)])]) :: arp :: aci :: adq
abbrev aui : List X := (.ap (.typ .str) [(.ap (.usr 298) [(.var 7)])]) :: alv :: amg :: (.ap .not [af5]) :: amc
abbrev aul : List X := aft :: aek :: adr :: aui
abbrev a0t : List X := aes :: ael :: af3 :: aul
abbrev bb4 : List X := (.ap (.typ .str) [av4]) :: auy :: au5 :: a0t
abbrev aun : List X := afw :: amg :: (.ap .not [af5]) :: amc
abbrev auo : List X := aft :: aek :: adr :: aun
abbrev a0w : List X := aes :: ael :: af3 :: auo
abbrev bb5 : List X := (.ap (.typ .str) [aki]) :: aif :: aii :: a0w
abbrev ark : List X := au0 :: (.ap .not [amg]) :: (.ap .not [af5]) :: amc
abbrev auq : List X := adr :: au3 :: ai2 :: ark
abbrev arl : List X := af3 :: aft :: aek :: auq
abbrev bb7 : List X := (.ap (.typ .str) [av5]) :: auz :: au6 :: afw :: ael :: arl
abbrev aus : List X := aek :: adr :: aes :: ark
abbrev aut : List X := ael :: af3 :: aft :: aus
abbrev bb8 : List X := (.ap (.typ .str) [aki]) :: aif :: aii :: afw :: aut
abbrev auu : List X := (.ap .not [au0]) :: (.ap .not [amg]) :: (.ap .not [af5]) :: amc
abbrev auv : List X := aft :: aek :: adr :: auu
abbrev auw : List X := afw :: ael :: af3 :: auv
abbrev bcb : List X := (.ap (.typ .str) [aki]) :: aif :: aii :: aes :: auw
set_option maxRecDepth 100000 in
def b1q : List VC := [(((.var 4) :: arn :: a0p), (.ap .le [(.ap .slen [abp]), (I 4)])),
 (aqf, (.ap .same [(.var 1), (.ap (.usr 277) [abp, (I 0), (I 119), (.var 1)])])),
 (aqf, (.ap .same [(.var 2), (.ap (.usr 277) [abp, (I 0), (I 110), (.var 2)])])),
 (aqf, (.ap .same [(.var 3), (.ap (.usr 277) [abp, (I 0), (I 97), (.var 3)])])),
 (aqf, (.ap .same [(.var 6), (.ap (.usr 277) [abp, (I 0), (I 111), (.var 6)])])),
 (aqf, (.ap .same [(.var 5), (.ap (.usr 278) [abp, (I 0), (I 109), (.var 5)])])),
 (aqf, bcf),
 (aqf, (.ap (.usr 279) [abp, (.var 1), (.var 2), (.var 3), (.var 5), (.var 6), (I 0)])),
 ((agz :: agv :: aql), (.ap .same [(I 0), (.ap (.usr 277) [abp, agi, (I 119), (.var 1)])])),
 ((agz :: agv :: aql), ajv),
 ((agz :: agv :: aql), aj4),
 ((agz :: agv :: aql), ajy),
 ((agz :: agv :: aql), aj2),
 ((agz :: agv :: aql), bcl),
 ((agz :: agv :: aql), aic),
 ((ag0 :: agw :: af6 :: aoz), aj3),
 ((ag0 :: agw :: af6 :: aoz), (.ap .same [(I 0), (.ap (.usr 277) [abp, agi, (I 110), (.var 2)])])),
 ((ag0 :: agw :: af6 :: aoz), aj4),
 ((ag0 :: agw :: af6 :: aoz), ajy),
 ((ag0 :: agw :: af6 :: aoz), aj2),
 ((ag0 :: agw :: af6 :: aoz), bcn),
 ((ag0 :: agw :: af6 :: aoz), aic),
 ((ag2 :: agx :: af7 :: ahc :: ae8), aj3),
 ((ag2 :: agx :: af7 :: ahc :: ae8), ajv),
 ((ag2 :: agx :: af7 :: ahc :: ae8), (.ap .same [(I 0), (.ap (.usr 277) [abp, agi, (I 97), (.var 3)])])),
 ((ag2 :: agx :: af7 :: ahc :: ae8), ajy),
 ((ag2 :: agx :: af7 :: ahc :: ae8), aj2),
 ((ag2 :: agx :: af7 :: ahc :: ae8), bcp),
 ((ag2 :: agx :: af7 :: ahc :: ae8), aic),
 ((ag3 :: agy :: aqm), aj3),
 ((ag3 :: agy :: aqm), ajv),
 ((ag3 :: agy :: aqm), aj4),
 ((ag3 :: agy :: aqm), (.ap .same [(I 0), (.ap (.usr 277) [abp, agi, (I 111), (.var 6)])])),
 ((ag3 :: agy :: aqm), aj2),
 ((ag3 :: agy :: aqm), bcy),
 ((ag3 :: agy :: aqm), aic),
 ((agu :: agh :: aeo :: aci :: ae8), aj3),
 ((agu :: agh :: aeo :: aci :: ae8), ajv),
 ((agu :: agh :: aeo :: aci :: ae8), aj4),
 ((agu :: agh :: aeo :: aci :: ae8), ajy),
 ((agu :: agh :: aeo :: aci :: ae8), (.ap .same [(.lit (.int .u8 0)), (.ap (.usr 278) [abp, agi, (I 109), (.var 5)])])),
 ((agu :: agh :: aeo :: aci :: ae8), bcj),
 ((agu :: agh :: aeo :: aci :: ae8), aic),
 ((ag4 :: ag5 :: aeo :: aci :: ae8), aj3),
 ((ag4 :: ag5 :: aeo :: aci :: ae8), ajv),
 ((ag4 :: ag5 :: aeo :: aci :: ae8), aj4),
 ((ag4 :: ag5 :: aeo :: aci :: ae8), ajy),
 ((ag4 :: ag5 :: aeo :: aci :: ae8), aj2),
 ((ag4 :: ag5 :: aeo :: aci :: ae8), bc4),
 ((ag4 :: ag5 :: aeo :: aci :: ae8), aic),
 ((aes :: a6s), auy),
 ((aes :: a6s), au5),
 ((aes :: auc), aif),
 ((aes :: auc), aii),
 (a0q, auz),
 (a0q, au6),
 ((afw :: ael :: ari), aif),
 ((afw :: ael :: ari), aii),
 ((aes :: afw :: arj), aif),
 ((aes :: afw :: arj), aii),
 (((.ap .not [(.var 4)]) :: arn :: a0p), (.ap .le [(.ap .slen [abp]), (I 4)])),
 (amb, (.ap .same [(.var 1), (.ap (.usr 277) [abp, (I 0), (I 119), (.var 1)])])),
 (amb, (.ap .same [(.var 2), (.ap (.usr 277) [abp, (I 0), (I 110), (.var 2)])])),
 (amb, (.ap .same [(.var 3), (.ap (.usr 277) [abp, (I 0), (I 97), (.var 3)])])),
 (amb, (.ap .same [(.var 6), (.ap (.usr 277) [abp, (I 0), (I 111), (.var 6)])])),
 (amb, (.ap .same [(.var 5), (.ap (.usr 278) [abp, (I 0), (I 109), (.var 5)])])),
 (amb, bcf),
 (amb, (.ap (.usr 279) [abp, (.var 1), (.var 2), (.var 3), (.var 5), (.var 6), (I 0)])),
 ((agz :: agv :: ame), (.ap .same [(I 0), (.ap (.usr 277) [abp, agi, (I 119), (.var 1)])])),
 ((agz :: agv :: ame), ajv),
 ((agz :: agv :: ame), aj4),
 ((agz :: agv :: ame), ajy),
 ((agz :: agv :: ame), aj2),
 ((agz :: agv :: ame), bcl),
 ((agz :: agv :: ame), aic),
 ((ag0 :: agw :: af6 :: als), aj3),
 ((ag0 :: agw :: af6 :: als), (.ap .same [(I 0), (.ap (.usr 277) [abp, agi, (I 110), (.var 2)])])),
 ((ag0 :: agw :: af6 :: als), aj4),
 ((ag0 :: agw :: af6 :: als), ajy),
 ((ag0 :: agw :: af6 :: als), aj2),
 ((ag0 :: agw :: af6 :: als), bcn),
 ((ag0 :: agw :: af6 :: als), aic),
 ((ag2 :: agx :: af7 :: ahc :: adq), aj3),
 ((ag2 :: agx :: af7 :: ahc :: adq), ajv),
 ((ag2 :: agx :: af7 :: ahc :: adq), (.ap .same [(I 0), (.ap (.usr 277) [abp, agi, (I 97), (.var 3)])])),
 ((ag2 :: agx :: af7 :: ahc :: adq), ajy),
 ((ag2 :: agx :: af7 :: ahc :: adq), aj2),
 ((ag2 :: agx :: af7 :: ahc :: adq), bcp),
 ((ag2 :: agx :: af7 :: ahc :: adq), aic),
 ((ag3 :: agy :: amf), aj3),
 ((ag3 :: agy :: amf), ajv),
 ((ag3 :: agy :: amf), aj4),
 ((ag3 :: agy :: amf), (.ap .same [(I 0), (.ap (.usr 277) [abp, agi, (I 111), (.var 6)])])),
 ((ag3 :: agy :: amf), aj2),
 ((ag3 :: agy :: amf), bcy),
 ((ag3 :: agy :: amf), aic),
 ((agu :: agh :: aeo :: aci :: adq), aj3),
 ((agu :: agh :: aeo :: aci :: adq), ajv),
 ((agu :: agh :: aeo :: aci :: adq), aj4),
 ((agu :: agh :: aeo :: aci :: adq), ajy),
 ((agu :: agh :: aeo :: aci :: adq), (.ap .same [(.lit (.int .u8 0)), (.ap (.usr 278) [abp, agi, (I 109), (.var 5)])])),
 ((agu :: agh :: aeo :: aci :: adq), bcj),
 ((agu :: agh :: aeo :: aci :: adq), aic),
 ((ag4 :: ag5 :: aeo :: aci :: adq), aj3),
 ((ag4 :: ag5 :: aeo :: aci :: adq), ajv),
 ((ag4 :: ag5 :: aeo :: aci :: adq), aj4),
 ((ag4 :: ag5 :: aeo :: aci :: adq), ajy),
 ((ag4 :: ag5 :: aeo :: aci :: adq), aj2),
 ((ag4 :: ag5 :: aeo :: aci :: adq), bc4),
 ((ag4 :: ag5 :: aeo :: aci :: adq), aic),
 (a0t, auy),
 (a0t, au5),
 (a0w, aif),
 (a0w, aii),
 ((afw :: ael :: arl), auz),
 ((afw :: ael :: arl), au6),
 ((afw :: aut), aif),
 ((afw :: aut), aii),
 ((aes :: auw), aif),
 ((aes :: auw), aii)]
set_option maxRecDepth 100000 in
def b1p : List (List X × List (List X)) := [(((.ap .not [arn]) :: a0p), [[(.lit (.string (.mk (.mk []))))], [(I 2)]]),
 (((.ap .lt [(.var 1), (I 0)]) :: amh :: af5 :: aqg), [[(.lit (.string (.mk (.mk []))))], [(I 2)]]),
 (((.ap .lt [(I 1073741824), (.var 1)]) :: aql), [[(.lit (.string (.mk (.mk []))))], [(I 2)]]),
 (((.ap .lt [(.var 2), (I 0)]) :: aoz), [[(.lit (.string (.mk (.mk []))))], [(I 2)]]),
 (((.ap .lt [(I 1073741824), (.var 2)]) :: af6 :: aoz), [[(.lit (.string (.mk (.mk []))))], [(I 2)]]),
 (((.ap .lt [(.var 3), (I 0)]) :: ahc :: ae8), [[(.lit (.string (.mk (.mk []))))], [(I 2)]]),
 (((.ap .lt [(I 1073741824), (.var 3)]) :: af7 :: ahc :: ae8), [[(.lit (.string (.mk (.mk []))))], [(I 2)]]),
 (((.ap .lt [(.var 6), (I 0)]) :: arp :: aci :: ae8), [[(.lit (.string (.mk (.mk []))))], [(I 2)]]),
 (((.ap .lt [(I 1073741824), (.var 6)]) :: aqm), [[(.lit (.string (.mk (.mk []))))], [(I 2)]]),
 ((aj6 :: a6p), [[(.lit (.string (.mk (.mk []))))], [(I 2)]]),
 ((aj7 :: adr :: a6p), [[(.lit (.string (.mk (.mk []))))], [(I 2)]]),
 ((aj8 :: aek :: adr :: a6p), [[(.lit (.string (.mk (.mk []))))], [(I 2)]]),
 (((.ap .not [afu]) :: a6q), [[(.lit (.string (.mk (.mk []))))], [(I 2)]]),
 ((akc :: afu :: a6q), [[(.lit (.string (.mk (.mk []))))], [(I 2)]]),
 ((akb :: af3 :: afu :: a6q), [[(.lit (.string (.mk (.mk []))))], [(I 2)]]),
 ((ai2 :: a6s), [[(.lit (.string (.mk (.mk []))))], [(I 2)]]),
 ((au8 :: bbr), [[(.lit (.string (.mk (.mk []))))], [(I 3)]]),
 (((.ap .not [au8]) :: bbr), [[av4], [(I 0)]]),
 ((aj6 :: aua), [[(.lit (.string (.mk (.mk []))))], [(I 2)]]),
 ((aj7 :: adr :: aua), [[(.lit (.string (.mk (.mk []))))], [(I 2)]]),
 ((aj8 :: aek :: adr :: aua), [[(.lit (.string (.mk (.mk []))))], [(I 2)]]),
 (((.ap .not [afu]) :: aub), [[(.lit (.string (.mk (.mk []))))], [(I 2)]]),
 ((akc :: afu :: aub), [[(.lit (.string (.mk (.mk []))))], [(I 2)]]),
 ((akb :: af3 :: afu :: aub), [[(.lit (.string (.mk (.mk []))))], [(I 2)]]),
 ((ai2 :: auc), [[(.lit (.string (.mk (.mk []))))], [(I 2)]]),
 ((aik :: bbs), [[(.lit (.string (.mk (.mk []))))], [(I 3)]]),
 (((.ap .not [aik]) :: bbs), [[aki], [(I 0)]]),
 ((aj6 :: au3 :: ai2 :: arh), [[(.lit (.string (.mk (.mk []))))], [(I 2)]]),
 ((aj7 :: aud), [[(.lit (.string (.mk (.mk []))))], [(I 2)]]),
 ((aj8 :: aek :: aud), [[(.lit (.string (.mk (.mk []))))], [(I 2)]]),
 (((.ap .not [afu]) :: aft :: aek :: aud), [[(.lit (.string (.mk (.mk []))))], [(I 2)]]),
 ((akc :: aue), [[(.lit (.string (.mk (.mk []))))], [(I 2)]]),
 ((akb :: af3 :: aue), [[(.lit (.string (.mk (.mk []))))], [(I 2)]]),
 ((alv :: ael :: af3 :: aue), [[(.lit (.string (.mk (.mk []))))], [(I 2)]]),
 ((au9 :: bbt), [[(.lit (.string (.mk (.mk []))))], [(I 3)]]),
 (((.ap .not [au9]) :: bbt), [[av5], [(I 0)]]),
 ((aj6 :: aes :: arh), [[(.lit (.string (.mk (.mk []))))], [(I 2)]]),
 ((aj7 :: adr :: aes :: arh), [[(.lit (.string (.mk (.mk []))))], [(I 2)]]),
 ((aj8 :: auf), [[(.lit (.string (.mk (.mk []))))], [(I 2)]]),
 (((.ap .not [afu]) :: aft :: auf), [[(.lit (.string (.mk (.mk []))))], [(I 2)]]),
 ((akc :: afu :: aft :: auf), [[(.lit (.string (.mk (.mk []))))], [(I 2)]]),
 ((akb :: ari), [[(.lit (.string (.mk (.mk []))))], [(I 2)]]),
 ((alv :: ael :: ari), [[(.lit (.string (.mk (.mk []))))], [(I 2)]]),
 ((aik :: bby), [[(.lit (.string (.mk (.mk []))))], [(I 3)]]),
 (((.ap .not [aik]) :: bby), [[aki], [(I 0)]]),
 ((aj6 :: aug), [[(.lit (.string (.mk (.mk []))))], [(I 2)]]),
 ((aj7 :: adr :: aug), [[(.lit (.string (.mk (.mk []))))], [(I 2)]]),
 ((aj8 :: aek :: adr :: aug), [[(.lit (.string (.mk (.mk []))))], [(I 2)]]),
 (((.ap .not [afu]) :: auh), [[(.lit (.string (.mk (.mk []))))], [(I 2)]]),
 ((akc :: afu :: auh), [[(.lit (.string (.mk (.mk []))))], [(I 2)]]),
 ((akb :: af3 :: afu :: auh), [[(.lit (.string (.mk (.mk []))))], [(I 2)]]),
 ((alv :: arj), [[(.lit (.string (.mk (.mk []))))], [(I 2)]]),
 ((ai2 :: afw :: arj), [[(.lit (.string (.mk (.mk []))))], [(I 2)]]),
 ((aik :: bbz), [[(.lit (.string (.mk (.mk []))))], [(I 3)]]),
 (((.ap .not [aik]) :: bbz), [[aki], [(I 0)]]),
 (((.ap .lt [(.var 1), (I 0)]) :: amh :: af5 :: amc), [[(.lit (.string (.mk (.mk []))))], [(I 2)]]),
 (((.ap .lt [(I 1073741824), (.var 1)]) :: ame), [[(.lit (.string (.mk (.mk []))))], [(I 2)]]),
 (((.ap .lt [(.var 2), (I 0)]) :: als), [[(.lit (.string (.mk (.mk []))))], [(I 2)]]),
 (((.ap .lt [(I 1073741824), (.var 2)]) :: af6 :: als), [[(.lit (.string (.mk (.mk []))))], [(I 2)]]),
 (((.ap .lt [(.var 3), (I 0)]) :: ahc :: adq), [[(.lit (.string (.mk (.mk []))))], [(I 2)]]),
 (((.ap .lt [(I 1073741824), (.var 3)]) :: af7 :: ahc :: adq), [[(.lit (.string (.mk (.mk []))))], [(I 2)]]),
 (((.ap .lt [(.var 6), (I 0)]) :: arp :: aci :: adq), [[(.lit (.string (.mk (.mk []))))], [(I 2)]]),
 (((.ap .lt [(I 1073741824), (.var 6)]) :: amf), [[(.lit (.string (.mk (.mk []))))], [(I 2)]]),
 ((aj6 :: aui), [[(.lit (.string (.mk (.mk []))))], [(I 2)]]),
 ((aj7 :: adr :: aui), [[(.lit (.string (.mk (.mk []))))], [(I 2)]]),
 ((aj8 :: aek :: adr :: aui), [[(.lit (.string (.mk (.mk []))))], [(I 2)]]),
 ((akc :: aul), [[(.lit (.string (.mk (.mk []))))], [(I 2)]]),
 ((akb :: af3 :: aul), [[(.lit (.string (.mk (.mk []))))], [(I 2)]]),
 ((ai2 :: ael :: af3 :: aul), [[(.lit (.string (.mk (.mk []))))], [(I 2)]]),
 ((au8 :: bb4), [[(.lit (.string (.mk (.mk []))))], [(I 3)]]),
 (((.ap .not [au8]) :: bb4), [[av4], [(I 0)]]),
 ((aj6 :: aun), [[(.lit (.string (.mk (.mk []))))], [(I 2)]]),
 ((aj7 :: adr :: aun), [[(.lit (.string (.mk (.mk []))))], [(I 2)]]),
 ((aj8 :: aek :: adr :: aun), [[(.lit (.string (.mk (.mk []))))], [(I 2)]]),
 ((akc :: auo), [[(.lit (.string (.mk (.mk []))))], [(I 2)]]),
 ((akb :: af3 :: auo), [[(.lit (.string (.mk (.mk []))))], [(I 2)]]),
 ((ai2 :: ael :: af3 :: auo), [[(.lit (.string (.mk (.mk []))))], [(I 2)]]),
 ((aik :: bb5), [[(.lit (.string (.mk (.mk []))))], [(I 3)]]),
 (((.ap .not [aik]) :: bb5), [[aki], [(I 0)]]),
 ((aj6 :: au3 :: ai2 :: ark), [[(.lit (.string (.mk (.mk []))))], [(I 2)]]),
 ((aj7 :: auq), [[(.lit (.string (.mk (.mk []))))], [(I 2)]]),
 ((aj8 :: aek :: auq), [[(.lit (.string (.mk (.mk []))))], [(I 2)]]),
 ((akc :: aft :: aek :: auq), [[(.lit (.string (.mk (.mk []))))], [(I 2)]]),
 ((akb :: arl), [[(.lit (.string (.mk (.mk []))))], [(I 2)]]),
 ((alv :: ael :: arl), [[(.lit (.string (.mk (.mk []))))], [(I 2)]]),
 ((au9 :: bb7), [[(.lit (.string (.mk (.mk []))))], [(I 3)]]),
 (((.ap .not [au9]) :: bb7), [[av5], [(I 0)]]),
 ((aj6 :: aes :: ark), [[(.lit (.string (.mk (.mk []))))], [(I 2)]]),
 ((aj7 :: adr :: aes :: ark), [[(.lit (.string (.mk (.mk []))))], [(I 2)]]),
 ((aj8 :: aus), [[(.lit (.string (.mk (.mk []))))], [(I 2)]]),
 ((akc :: aft :: aus), [[(.lit (.string (.mk (.mk []))))], [(I 2)]]),
 ((akb :: af3 :: aft :: aus), [[(.lit (.string (.mk (.mk []))))], [(I 2)]]),
 ((alv :: aut), [[(.lit (.string (.mk (.mk []))))], [(I 2)]]),
 ((aik :: bb8), [[(.lit (.string (.mk (.mk []))))], [(I 3)]]),
 (((.ap .not [aik]) :: bb8), [[aki], [(I 0)]]),
 ((aj6 :: auu), [[(.lit (.string (.mk (.mk []))))], [(I 2)]]),
 ((aj7 :: adr :: auu), [[(.lit (.string (.mk (.mk []))))], [(I 2)]]),
 ((aj8 :: aek :: adr :: auu), [[(.lit (.string (.mk (.mk []))))], [(I 2)]]),
 ((akc :: auv), [[(.lit (.string (.mk (.mk []))))], [(I 2)]]),
 ((akb :: af3 :: auv), [[(.lit (.string (.mk (.mk []))))], [(I 2)]]),
 ((alv :: ael :: af3 :: auv), [[(.lit (.string (.mk (.mk []))))], [(I 2)]]),
 ((ai2 :: auw), [[(.lit (.string (.mk (.mk []))))], [(I 2)]]),
 ((aik :: bcb), [[(.lit (.string (.mk (.mk []))))], [(I 3)]]),
 (((.ap .not [aik]) :: bcb), [[aki], [(I 0)]])]
set_option maxRecDepth 100000 in
theorem b9o : runS Tryd.prog (anq (tab T12)) 10 20 hs12 Tryd.f12 (aef Tryd.f12) bto = some (b1q, b1p) := by kernel_rfl
theorem b6q {ss : List Srt} {d : CD} (_ : 2 ≤ 2) (hT : Typ (.sl ss) d) (h : (d.len : Int) ≤ 2500) : 2 * d.rows.length ≤ 5000 := by
 rw [hT.sl.1] at h
 omega
theorem b1v {ss : List Srt} {d : CD} (hT : Typ (.sl ss) d) (h : (d.len : Int) ≤ 2500) : d.rows.length ≤ 5000 := by
 rw [hT.sl.1] at h
 omega
set_option maxHeartbeats 4000000 in
set_option maxRecDepth 100000 in
theorem b6a : ∀ z ∈ b1q, VCok U z := by
  unfold b1q
  repeat' (first | exact ake _ | refine aku (fun v hh => ?_) ?_)
  all_goals
    simp only [aey, afm, ae1, afl, afj, adk, b_lt, b_le, b_eq, ae0, ae6, ac7, ahh, adf, adw, afd, w_mk, ad5, agr, afn, agq, ae3, w_l0, w_l1, abl, abo, aev, aaw, aax, adb, acw, w_eq, ben, bet, beu, bew, bey, be0, be2, be6, bfc, bfe, a4c, bfi, bfj, mnX, mxX, a0p, abp, a0x, aki, agi, ahc, av6, af3, ai2, agh, af5, aic, alv, agu, adr, aek, ael, aif, ajv, ajy, aj2, aj3, aj4, aft, agv, agw, agx, agy, agz, ag0, ag2, ag3, af6, af7, ag4, amg, aci, aii, aik, afu, aes, amh, afw, au0, ag5, ai3, av4, av5, auy, auz, bcf, bch, aj6, aj7, aj8, akb, bcj, arn, au3, akc, au5, au6, bcl, bcn, bcp, bcy, au8, au9, ava, arp, aeo, bc4, aqf, aqg, aql, aoz, ae8, aqm, a6p, a6q, a6s, bbr, aua, aub, auc, bbs, arh, aud, aue, a0q, bbt, auf, ari, bby, aug, auh, arj, bbz, amb, amc, ame, als, adq, amf, aui, aul, a0t, bb4, aun, auo, a0w, bb5, ark, auq, arl, bb7, aus, aut, bb8, auu, auv, auw, bcb, ags, anz, bq6] at hh ⊢
    first
    | exact caw _ _
    | (have hA1 : Typ sI (v 1) := by simp only [hh]
       have hA2 : Typ sI (v 2) := by simp only [hh]
       have hA3 : Typ sI (v 3) := by simp only [hh]
       have hA5 : Typ (.int .u8) (v 5) := by simp only [hh]
       have hA6 : Typ sI (v 6) := by simp only [hh]
       first | exact as3 hA1 | exact as3 hA2 | exact as3 hA3 | exact cac hA5 | exact as3 hA6 | rfl)
    | (have hl4 := buw (v 0).iv (v 4).bv
       have hl6 := cai (v 0).iv (v 4).bv
       have hs := bmy (v 0).iv (v 4).bv
       unfold fF at hl4 hs
       unfold wF at hl6
       generalize frow (v 0).iv (v 4).bv = R at hh hl4 hl6 hs ⊢
       have hb : (R.2.2.2.1.take (v 9).iv.toNat).all (fun c => inR (selV (v 1).iv (v 2).iv (v 3).iv (v 5).iv (v 6).iv c)) = true := by simp only [hh]
       have hr : CD.sl (false && (v 16).rows.isEmpty) (v 16).rows = CD.sl false ((ac4 R.1 R.2.2.2.1 (v 1).iv (v 2).iv (v 3).iv (v 5).iv (v 6).iv (v 9).iv.toNat).map ah4) := by simp only [hh]
       first
       | (have h0 : 0 ≤ (v 9).iv := by simp only [hh]
          have hi : (v 9).iv < (R.2.2.2.1.length : Int) := by
            rw [← hs]
            simp only [hh]
          simp only [b3h h0 hi, amv] at hh
          first
          | (rw [b0d h0 hi (by simp only [hh]; done)]; done)
          | (rw [bvl h0 hi (by first | (simp only [hh, not_false_eq_true, ne_eq]; done) | (simp only [hh]; decide))]; simp only [hh]; done)
          | exact avk h0 hi hr (b2c (by simp only [hh]; done))
          | exact avk h0 hi hr (b2a (by simp only [hh]; done))
          | exact avk h0 hi hr (b1z (by simp only [hh]; done))
          | exact avk h0 hi hr (b2b (by simp only [hh]; done))
          | exact avk h0 hi hr (b91 (by simp only [hh]; done))
          | exact avk h0 hi hr (b90 (by simp only [hh, not_false_eq_true]; done) (by simp only [hh, not_false_eq_true]; done) (by simp only [hh, not_false_eq_true]; done) (by simp only [hh, not_false_eq_true]; done) (by simp only [hh, not_false_eq_true]; done))
          | (refine a5t h0 hi hb ((congrArg inR (b2c ?_)).trans (bm2 ?_ ?_))
             · (simp only [hh]; done)
             · (simp only [hh, not_false_eq_true]; done)
             · (simp only [hh, not_false_eq_true]; done))
          | (refine a5t h0 hi hb ((congrArg inR (b2a ?_)).trans (bm2 ?_ ?_))
             · (simp only [hh]; done)
             · (simp only [hh, not_false_eq_true]; done)
             · (simp only [hh, not_false_eq_true]; done))
          | (refine a5t h0 hi hb ((congrArg inR (b1z ?_)).trans (bm2 ?_ ?_))
             · (simp only [hh]; done)
             · (simp only [hh, not_false_eq_true]; done)
             · (simp only [hh, not_false_eq_true]; done))
          | (refine a5t h0 hi hb ((congrArg inR (b2b ?_)).trans (bm2 ?_ ?_))
             · (simp only [hh]; done)
             · (simp only [hh, not_false_eq_true]; done)
             · (simp only [hh, not_false_eq_true]; done))
          | (refine a5t h0 hi hb ((congrArg inR (b91 ?_)).trans ?_)
             · (simp only [hh]; done)
             · have g1 : 0 ≤ (v 5).iv := by simp only [hh]
               have g2 : (v 5).iv ≤ 255 := by simp only [hh]
               exact bm2 (by omega) (by omega))
          | (refine a5t h0 hi hb ((congrArg inR (b90 ?_ ?_ ?_ ?_ ?_)).trans (bm2 (by decide) (by decide)))
             all_goals (simp only [hh, not_false_eq_true]; done)))
       | exact bmx hl4 hr _ (Nat.le_refl 1)
       | exact bmx hl4 hr [] (Nat.zero_le 1)
       | exact (by
           have := bmx hl4 hr [] (Nat.zero_le 1)
           rwa [List.append_nil] at this)
       | exact a9r hl4 hl6 hr hb [hexT (v 7).rows] (Nat.le_refl 1) (fun x hx => by
           rw [List.mem_singleton.1 hx, bz4]
           exact b6q (ss := [.int .u8]) (by decide) (by simp only [hh]; done) (by simp only [hh]; done))
       | exact a9r hl4 hl6 hr hb [markT (v 8).rows] (Nat.le_refl 1) (fun x hx => by
           rw [List.mem_singleton.1 hx, bpk]
           exact b1v (ss := [.bool]) (by simp only [hh]; done) (by simp only [hh]; done))
       | exact (by
           have := a9r hl4 hl6 hr hb [] (Nat.zero_le 1) (fun x hx => by cases hx)
           rwa [List.map_nil, List.append_nil] at this))
end Go.Proofs.YtamhchkknlbanaaDoor.Be
