/-
  Contracts of a seat's functions: what a line says, by the program. Conditions: none.
-/
import Derived.Test.YtamhchkknlbanaaDoorBtF
set_option linter.unusedSectionVars false
set_option linter.unusedVariables false
set_option linter.unusedSimpArgs false
set_option linter.all false
namespace Go.Proofs.YtamhchkknlbanaaDoor.Be
open Go.Sx Go.Proofs
set_option maxRecDepth 100000 in
theorem bzx : air U Tryd.prog (mapO 18 es18 15) := b5d (arf mixed (al9 hT0) (TbOK.of b8s) 2) b3p
noncomputable def T6 : List (FuncId × Fsp) := [(17, SWrd), (44, b7u), (20, bn5), (21, bn4)]
set_option maxRecDepth 100000 in
theorem hT6 : awn U Tryd.prog T6 := .cons cbi (.cons cbs (.cons cbj (.cons cbk .nil)))
noncomputable def ora6 : OraM := orM2 (mapO 18 es18 15) (anq (tab T6))
set_option maxRecDepth 100000 in
theorem bwt : air U Tryd.prog ora6 := b5t bzx (al9 hT6)
noncomputable def svE (F : Fm) (t : Nat) : X := match F.get t with
 | some (.one (.sv _ _ e)) => e
 | _ => zI
noncomputable def hs43 : Hs := ⟨an2 [], hintA [(4, fun F H => [.ap .le [I 1, .ap .len [svE F 8]], .ap .le [.ap .slen [.ap (.cell 0) [svE F 8, zI]], I 2500]])]⟩
noncomputable def inl6 : List (FuncId × Inl) := [(19, ⟨Tryd.f19, noH⟩), (43, ⟨Tryd.f43, hs43⟩), (45, ⟨Tryd.f45, noH⟩), (46, ⟨Tryd.f46, noH⟩)]
set_option maxRecDepth 100000 in
theorem b8r : ap7 U Tryd.prog inl6 := .cons (.of at19 (by kernel_rfl)) (.cons (.of at43 (by kernel_rfl)) (.cons (.of at45 (by kernel_rfl)) (.cons (.of at46 (by kernel_rfl)) .nil)))
noncomputable def tb6 : Tb := ⟨asa inl6, noY, U.lc⟩
abbrev pcX : X := .ap (.usr 252) [.var 0]
noncomputable def hs6 : Hs := ⟨an2 [], hintA [(6, fun F H => [.ap .le [I 1, .ap .len [pcX]]]), (35, fun F H => [.ap .le [.ap .slen [.ap (.cell 0) [svE F 14, zI]], I 2500]]), (37, fun F H => [.ap .le [.ap .slen [.ap (.cell 0) [svE F 14, zI]], I 2500]])]⟩
abbrev br7 : X := (.ap .cut [(.ap (.usr 252) [(.var 0)]), (I 1), mxX])
abbrev bw7 : X := (.ap .cut [br7, (I 1), mxX])
abbrev bw8 : X := (.ap (.cell 0) [br7, (I 0)])
abbrev al2 : X := (.ap (.cell 0) [(.ap (.usr 252) [(.var 0)]), (I 0)])
abbrev aah : X := (.ap (.nil true) [])
abbrev awx : X := (.ap .cut [bw7, (I 1), mxX])
abbrev bw9 : X := (.ap (.cell 0) [bw7, (I 0)])
abbrev an4 : X := (.ap .eq [(.ap .len [br7]), (I 0)])
abbrev ads : X := (.ap (.usr 202) [bw8])
abbrev br8 : X := (.ap .len [bw7])
abbrev aec : X := (.ap .le [(.ap .slen [bw8]), (I 2500)])
abbrev aed : X := (.ap .le [(I 1), (.ap .len [br7])])
abbrev ahd : X := (.ap (.usr 250) [bw8])
abbrev ahe : X := (.ap (.cell 0) [awx, (I 0)])
abbrev ah0 : X := (.ap .le [(.ap .len [awx]), (I 1)])
abbrev aem : X := (.ap (.usr 202) [bw9])
abbrev aqv : X := (.ap .eq [al2, (.lit (.string (.mk (.mk [114, 101, 111, 112, 101, 110]))))])
abbrev aqw : X := (.ap .eq [al2, (.lit (.string (.mk (.mk [100, 111, 117, 98, 108, 101]))))])
abbrev akj : X := (.ap .le [(.ap .slen [bw9]), (I 2500)])
abbrev adp : X := (.ap .not [an4])
abbrev aqy : X := (.ap .eq [al2, (.lit (.string (.mk (.mk [102, 108, 111, 119]))))])
abbrev aqz : X := (.ap .eq [al2, (.lit (.string (.mk (.mk [106, 111, 105, 110]))))])
abbrev afp : X := (.ap .le [br8, (I 1)])
abbrev am7 : X := (.ap (.usr 250) [bw9])
abbrev al7 : X := (.ap .eq [(.ap .len [awx]), (I 1)])
abbrev ait : X := (.ap .eq [br8, (I 1)])
abbrev aq0 : X := (.ap .le [(.ap .slen [ahe]), (I 2500)])
abbrev ajl : X := (.ap .le [mnX, ahd])
abbrev ajm : X := (.ap .le [ahd, mxX])
abbrev a1l : X := (.ap .eq [al2, (.lit (.string (.mk (.mk [116, 117, 114, 110]))))])
abbrev akk : X := (.ap .le [(I 1), br8])
abbrev aq1 : X := (.ap .cut [awx, (I 1), mxX])
abbrev ao5 : X := (.ap (.cell 0) [aq1, (I 0)])
abbrev a1m : X := (.ap .le [(I 1), (.ap .len [(.ap (.usr 252) [(.var 0)])])])
abbrev a7w : X := (.ap .eq [al2, (.lit (.string (.mk (.mk [99, 114, 97, 115, 104]))))])
abbrev a7y : X := (.ap .eq [al2, (.lit (.string (.mk (.mk [109, 111, 118, 101]))))])
abbrev a8a : X := (.ap .eq [al2, (.lit (.string (.mk (.mk [116, 105, 99, 107]))))])
abbrev ajo : X := (.ap .not [ads])
abbrev a8c : X := (.ap .eq [al2, (.lit (.string (.mk (.mk [97, 115, 107]))))])
abbrev a8e : X := (.ap .eq [al2, (.lit (.string (.mk (.mk [97, 116]))))])
abbrev a8f : X := (.ap .lt [(I 255), (.ap (.usr 250) [ao5])])
abbrev a8g : X := (.ap .len [(.ap .cut [aq1, (I 1), mxX])])
abbrev aq2 : X := (.ap .eq [br8, (I 0)])
abbrev agj : X := (.ap .not [aq2])
abbrev asl : X := (.ap .le [mnX, am7])
abbrev asn : X := (.ap .le [am7, mxX])
abbrev b1t : List X := [(.ap .not [(.ap .lt [(I 2200), (.ap .slen [(.var 0)])])]), (.ap (.typ .str) [(.var 0)]), (.ap .le [(.ap .slen [(.var 0)]), (I 2500)])]
abbrev bnk : List X := (.ap (.typ (.sl [.str])) [(.ap (.usr 252) [(.var 0)])]) :: (.ap (.usr 224) [(.var 0)]) :: (.ap .not [(.ap .isnil [(.ap (.usr 252) [(.var 0)])])]) :: b1t
abbrev bw5 : List X := adp :: a8a :: a1m :: bnk
abbrev br2 : List X := ajl :: ajm :: aed :: aec :: bw5
abbrev br3 : List X := (.ap .eq [al2, (.lit (.string (.mk (.mk [116, 97, 107, 101]))))]) :: (.ap .not [a8a]) :: a1m :: bnk
abbrev br4 : List X := ajl :: ajm :: aed :: aec :: adp :: br3
abbrev a3z : List X := (.ap .not [(.ap .eq [al2, (.lit (.string (.mk (.mk [116, 97, 107, 101]))))])]) :: (.ap .not [a8a]) :: a1m :: bnk
abbrev br5 : List X := ajl :: ajm :: aed :: aec :: adp :: aqy :: a3z
abbrev bw6 : List X := adp :: a8e :: (.ap .not [aqy]) :: a3z
abbrev br6 : List X := ajl :: ajm :: aed :: aec :: bw6
abbrev a7c : List X := (.ap .eq [al2, (.lit (.string (.mk (.mk [100, 114, 111, 112]))))]) :: (.ap .not [a8e]) :: (.ap .not [aqy]) :: a3z
abbrev a7e : List X := ajl :: ajm :: aed :: aec :: adp :: a7c
abbrev aqs : List X := (.ap .not [(.ap .eq [al2, (.lit (.string (.mk (.mk [100, 114, 111, 112]))))])]) :: (.ap .not [a8e]) :: (.ap .not [aqy]) :: a3z
abbrev a7g : List X := ajl :: ajm :: aed :: aec :: adp :: aqw :: aqs
abbrev bk5 : List X := adp :: a7y :: (.ap .not [aqw]) :: aqs
abbrev a08 : List X := ajl :: ajm :: aed :: aec :: bk5
abbrev a7h : List X := asl :: asn :: akk :: akj :: agj :: ads :: a08
abbrev a7i : List X := (.ap .eq [al2, (.lit (.string (.mk (.mk [99, 117, 116]))))]) :: (.ap .not [a7y]) :: (.ap .not [aqw]) :: aqs
abbrev a1a : List X := ajl :: ajm :: aed :: aec :: adp :: a7i
abbrev a7k : List X := asl :: asn :: akk :: akj :: agj :: ads :: a1a
abbrev aqt : List X := (.ap .not [(.ap .eq [al2, (.lit (.string (.mk (.mk [99, 117, 116]))))])]) :: (.ap .not [a7y]) :: (.ap .not [aqw]) :: aqs
abbrev a1b : List X := ajl :: ajm :: aed :: aec :: adp :: aqz :: aqt
abbrev a7l : List X := asl :: asn :: akk :: akj :: agj :: ads :: a1b
abbrev bk8 : List X := adp :: a8c :: (.ap .not [aqz]) :: aqt
abbrev a1d : List X := ajl :: ajm :: aed :: aec :: bk8
abbrev a7o : List X := asl :: asn :: akk :: akj :: agj :: ads :: a1d
abbrev bld : List X := al7 :: ah0 :: aem :: a7o
abbrev a7p : List X := (.ap .eq [al2, (.lit (.string (.mk (.mk [97, 103, 97, 105, 110]))))]) :: (.ap .not [a8c]) :: (.ap .not [aqz]) :: aqt
abbrev a7q : List X := ajl :: ajm :: aed :: aec :: adp :: a7p
abbrev aqu : List X := (.ap .not [(.ap .eq [al2, (.lit (.string (.mk (.mk [97, 103, 97, 105, 110]))))])]) :: (.ap .not [a8c]) :: (.ap .not [aqz]) :: aqt
abbrev a7r : List X := ajl :: ajm :: aed :: aec :: adp :: aqv :: aqu
abbrev blf : List X := adp :: a7w :: (.ap .not [aqv]) :: aqu
abbrev a1e : List X := ajl :: ajm :: aed :: aec :: blf
abbrev a7s : List X := asl :: asn :: akk :: akj :: agj :: ads :: a1e
abbrev blh : List X := al7 :: ah0 :: aem :: a7s
abbrev a7t : List X := (.ap .eq [al2, (.lit (.string (.mk (.mk [102, 117, 115, 101]))))]) :: (.ap .not [a7w]) :: (.ap .not [aqv]) :: aqu
abbrev a1f : List X := ajl :: ajm :: aed :: aec :: adp :: a7t
abbrev a7u : List X := asl :: asn :: akk :: akj :: agj :: ads :: a1f
abbrev a1g : List X := (.ap .not [(.ap .eq [al2, (.lit (.string (.mk (.mk [102, 117, 115, 101]))))])]) :: (.ap .not [a7w]) :: (.ap .not [aqv]) :: aqu
abbrev a1h : List X := ajl :: ajm :: aed :: aec :: adp :: a1l :: a1g
abbrev a1i : List X := asl :: asn :: akk :: akj :: agj :: ads :: a1h
abbrev a1j : List X := (.ap .le [mnX, (.ap (.usr 250) [ahe])]) :: (.ap .le [(.ap (.usr 250) [ahe]), mxX]) :: (.ap .le [(I 1), (.ap .len [awx])]) :: aq0 :: (.ap .not [(.ap .eq [(.ap .len [awx]), (I 0)])]) :: aem :: a1i
abbrev a7v : List X := (.ap .le [mnX, (.ap (.usr 250) [ao5])]) :: (.ap .le [(.ap (.usr 250) [ao5]), mxX]) :: (.ap .le [(I 1), (.ap .len [aq1])]) :: (.ap .le [(.ap .slen [ao5]), (I 2500)]) :: (.ap .not [(.ap .eq [(.ap .len [aq1]), (I 0)])]) :: (.ap (.usr 202) [ahe]) :: a1j
abbrev bp3 : List X := (.ap .le [a8g, (I 1)]) :: (.ap (.usr 202) [ao5]) :: (.ap .not [a8f]) :: a7v
set_option maxRecDepth 100000 in
def r6_v : List VC := [(bnk, a1m),
 (bw5, aed),
 (bw5, aec),
 ((adp :: br3), aed),
 ((adp :: br3), aec),
 ((adp :: aqy :: a3z), aed),
 ((adp :: aqy :: a3z), aec),
 (bw6, aed),
 (bw6, aec),
 ((adp :: a7c), aed),
 ((adp :: a7c), aec),
 ((adp :: aqw :: aqs), aed),
 ((adp :: aqw :: aqs), aec),
 (bk5, aed),
 (bk5, aec),
 ((agj :: ads :: a08), akk),
 ((agj :: ads :: a08), akj),
 ((adp :: a7i), aed),
 ((adp :: a7i), aec),
 ((agj :: ads :: a1a), akk),
 ((agj :: ads :: a1a), akj),
 ((adp :: aqz :: aqt), aed),
 ((adp :: aqz :: aqt), aec),
 ((agj :: ads :: a1b), akk),
 ((agj :: ads :: a1b), akj),
 (bk8, aed),
 (bk8, aec),
 ((agj :: ads :: a1d), akk),
 ((agj :: ads :: a1d), akj),
 (bld, aq0),
 ((adp :: a7p), aed),
 ((adp :: a7p), aec),
 ((adp :: aqv :: aqu), aed),
 ((adp :: aqv :: aqu), aec),
 (blf, aed),
 (blf, aec),
 ((agj :: ads :: a1e), akk),
 ((agj :: ads :: a1e), akj),
 (blh, aq0),
 ((adp :: a7t), aed),
 ((adp :: a7t), aec),
 ((agj :: ads :: a1f), akk),
 ((agj :: ads :: a1f), akj),
 ((adp :: a1l :: a1g), aed),
 ((adp :: a1l :: a1g), aec),
 ((agj :: ads :: a1h), akk),
 ((agj :: ads :: a1h), akj),
 (((.ap .not [(.ap .eq [(.ap .len [awx]), (I 0)])]) :: aem :: a1i), (.ap .le [(I 1), (.ap .len [awx])])),
 (((.ap .not [(.ap .eq [(.ap .len [awx]), (I 0)])]) :: aem :: a1i), aq0),
 (((.ap .not [(.ap .eq [(.ap .len [aq1]), (I 0)])]) :: (.ap (.usr 202) [ahe]) :: a1j), (.ap .le [(I 1), (.ap .len [aq1])])),
 (((.ap .not [(.ap .eq [(.ap .len [aq1]), (I 0)])]) :: (.ap (.usr 202) [ahe]) :: a1j), (.ap .le [(.ap .slen [ao5]), (I 2500)]))]
set_option maxRecDepth 100000 in
def r6_o : List (List X × List (List X)) := [([(.ap .lt [(I 2200), (.ap .slen [(.var 0)])]), (.ap (.typ .str) [(.var 0)]), (.ap .le [(.ap .slen [(.var 0)]), (I 2500)])], [[(I 0), (I 0), (I 0), (I 0), (.lit (.bool false)), (.lit (.int .u8 0)), (I 0), aah, aah], [(I 3)]]),
 ((an4 :: a8a :: a1m :: bnk), [[(I 0), (I 0), (I 0), (I 0), (.lit (.bool false)), (.lit (.int .u8 0)), (I 0), aah, aah], [(I 2)]]),
 ((ait :: afp :: ads :: br2), [[(I 0), (I 0), (I 0), (I 0), (.lit (.bool false)), (.lit (.int .u8 0)), (I 0), aah, aah], [(I 2)]]),
 (((.ap .not [ait]) :: afp :: ads :: br2), [[(I 1), (I 0), ahd, (I 0), (.lit (.bool false)), (.lit (.int .u8 0)), (I 0), aah, aah], [(I 0)]]),
 (((.ap .not [afp]) :: ads :: br2), [[(I 0), (I 0), (I 0), (I 0), (.lit (.bool false)), (.lit (.int .u8 0)), (I 0), aah, aah], [(I 2)]]),
 ((ajo :: br2), [[(I 0), (I 0), (I 0), (I 0), (.lit (.bool false)), (.lit (.int .u8 0)), (I 0), aah, aah], [(I 2)]]),
 ((an4 :: br3), [[(I 0), (I 0), (I 0), (I 0), (.lit (.bool false)), (.lit (.int .u8 0)), (I 0), aah, aah], [(I 2)]]),
 ((ait :: afp :: ads :: br4), [[(I 0), (I 0), (I 0), (I 0), (.lit (.bool false)), (.lit (.int .u8 0)), (I 0), aah, aah], [(I 2)]]),
 (((.ap .not [ait]) :: afp :: ads :: br4), [[(I 2), (I 0), ahd, (I 0), (.lit (.bool false)), (.lit (.int .u8 0)), (I 0), aah, aah], [(I 0)]]),
 (((.ap .not [afp]) :: ads :: br4), [[(I 0), (I 0), (I 0), (I 0), (.lit (.bool false)), (.lit (.int .u8 0)), (I 0), aah, aah], [(I 2)]]),
 ((ajo :: br4), [[(I 0), (I 0), (I 0), (I 0), (.lit (.bool false)), (.lit (.int .u8 0)), (I 0), aah, aah], [(I 2)]]),
 ((an4 :: aqy :: a3z), [[(I 0), (I 0), (I 0), (I 0), (.lit (.bool false)), (.lit (.int .u8 0)), (I 0), aah, aah], [(I 2)]]),
 ((ait :: afp :: ads :: br5), [[(I 0), (I 0), (I 0), (I 0), (.lit (.bool false)), (.lit (.int .u8 0)), (I 0), aah, aah], [(I 2)]]),
 (((.ap .not [ait]) :: afp :: ads :: br5), [[(I 14), (I 0), ahd, (I 0), (.lit (.bool false)), (.lit (.int .u8 0)), (I 0), aah, aah], [(I 0)]]),
 (((.ap .not [afp]) :: ads :: br5), [[(I 0), (I 0), (I 0), (I 0), (.lit (.bool false)), (.lit (.int .u8 0)), (I 0), aah, aah], [(I 2)]]),
 ((ajo :: br5), [[(I 0), (I 0), (I 0), (I 0), (.lit (.bool false)), (.lit (.int .u8 0)), (I 0), aah, aah], [(I 2)]]),
 ((an4 :: a8e :: (.ap .not [aqy]) :: a3z), [[(I 0), (I 0), (I 0), (I 0), (.lit (.bool false)), (.lit (.int .u8 0)), (I 0), aah, aah], [(I 2)]]),
 ((ait :: afp :: ads :: br6), [[(I 0), (I 0), (I 0), (I 0), (.lit (.bool false)), (.lit (.int .u8 0)), (I 0), aah, aah], [(I 2)]]),
 (((.ap .not [ait]) :: afp :: ads :: br6), [[(I 3), (I 0), ahd, (I 0), (.lit (.bool false)), (.lit (.int .u8 0)), (I 0), aah, aah], [(I 0)]]),
 (((.ap .not [afp]) :: ads :: br6), [[(I 0), (I 0), (I 0), (I 0), (.lit (.bool false)), (.lit (.int .u8 0)), (I 0), aah, aah], [(I 2)]]),
 ((ajo :: br6), [[(I 0), (I 0), (I 0), (I 0), (.lit (.bool false)), (.lit (.int .u8 0)), (I 0), aah, aah], [(I 2)]]),
 ((an4 :: a7c), [[(I 0), (I 0), (I 0), (I 0), (.lit (.bool false)), (.lit (.int .u8 0)), (I 0), aah, aah], [(I 2)]]),
 ((ait :: afp :: ads :: a7e), [[(I 0), (I 0), (I 0), (I 0), (.lit (.bool false)), (.lit (.int .u8 0)), (I 0), aah, aah], [(I 2)]]),
 (((.ap .not [ait]) :: afp :: ads :: a7e), [[(I 4), (I 0), ahd, (I 0), (.lit (.bool false)), (.lit (.int .u8 0)), (I 0), aah, aah], [(I 0)]]),
 (((.ap .not [afp]) :: ads :: a7e), [[(I 0), (I 0), (I 0), (I 0), (.lit (.bool false)), (.lit (.int .u8 0)), (I 0), aah, aah], [(I 2)]]),
 ((ajo :: a7e), [[(I 0), (I 0), (I 0), (I 0), (.lit (.bool false)), (.lit (.int .u8 0)), (I 0), aah, aah], [(I 2)]]),
 ((an4 :: aqw :: aqs), [[(I 0), (I 0), (I 0), (I 0), (.lit (.bool false)), (.lit (.int .u8 0)), (I 0), aah, aah], [(I 2)]]),
 ((ait :: afp :: ads :: a7g), [[(I 0), (I 0), (I 0), (I 0), (.lit (.bool false)), (.lit (.int .u8 0)), (I 0), aah, aah], [(I 2)]]),
 (((.ap .not [ait]) :: afp :: ads :: a7g), [[(I 5), (I 0), ahd, (I 0), (.lit (.bool false)), (.lit (.int .u8 0)), (I 0), aah, aah], [(I 0)]]),
 (((.ap .not [afp]) :: ads :: a7g), [[(I 0), (I 0), (I 0), (I 0), (.lit (.bool false)), (.lit (.int .u8 0)), (I 0), aah, aah], [(I 2)]]),
 ((ajo :: a7g), [[(I 0), (I 0), (I 0), (I 0), (.lit (.bool false)), (.lit (.int .u8 0)), (I 0), aah, aah], [(I 2)]]),
 ((an4 :: a7y :: (.ap .not [aqw]) :: aqs), [[(I 0), (I 0), (I 0), (I 0), (.lit (.bool false)), (.lit (.int .u8 0)), (I 0), aah, aah], [(I 2)]]),
 ((ajo :: a08), [[(I 0), (I 0), (I 0), (I 0), (.lit (.bool false)), (.lit (.int .u8 0)), (I 0), aah, aah], [(I 2)]]),
 ((aq2 :: ads :: a08), [[(I 0), (I 0), (I 0), (I 0), (.lit (.bool false)), (.lit (.int .u8 0)), (I 0), aah, aah], [(I 2)]]),
 ((al7 :: ah0 :: aem :: a7h), [[(I 0), (I 0), (I 0), (I 0), (.lit (.bool false)), (.lit (.int .u8 0)), (I 0), aah, aah], [(I 2)]]),
 (((.ap .not [al7]) :: ah0 :: aem :: a7h), [[(I 6), (I 0), ahd, am7, (.lit (.bool false)), (.lit (.int .u8 0)), (I 0), aah, aah], [(I 0)]]),
 (((.ap .not [ah0]) :: aem :: a7h), [[(I 0), (I 0), (I 0), (I 0), (.lit (.bool false)), (.lit (.int .u8 0)), (I 0), aah, aah], [(I 2)]]),
 (((.ap .not [aem]) :: a7h), [[(I 0), (I 0), (I 0), (I 0), (.lit (.bool false)), (.lit (.int .u8 0)), (I 0), aah, aah], [(I 2)]]),
 ((an4 :: a7i), [[(I 0), (I 0), (I 0), (I 0), (.lit (.bool false)), (.lit (.int .u8 0)), (I 0), aah, aah], [(I 2)]]),
 ((ajo :: a1a), [[(I 0), (I 0), (I 0), (I 0), (.lit (.bool false)), (.lit (.int .u8 0)), (I 0), aah, aah], [(I 2)]]),
 ((aq2 :: ads :: a1a), [[(I 0), (I 0), (I 0), (I 0), (.lit (.bool false)), (.lit (.int .u8 0)), (I 0), aah, aah], [(I 2)]]),
 ((al7 :: ah0 :: aem :: a7k), [[(I 0), (I 0), (I 0), (I 0), (.lit (.bool false)), (.lit (.int .u8 0)), (I 0), aah, aah], [(I 2)]]),
 (((.ap .not [al7]) :: ah0 :: aem :: a7k), [[(I 7), ahd, (I 0), am7, (.lit (.bool true)), (.lit (.int .u8 0)), (I 0), aah, aah], [(I 0)]]),
 (((.ap .not [ah0]) :: aem :: a7k), [[(I 0), (I 0), (I 0), (I 0), (.lit (.bool false)), (.lit (.int .u8 0)), (I 0), aah, aah], [(I 2)]]),
 (((.ap .not [aem]) :: a7k), [[(I 0), (I 0), (I 0), (I 0), (.lit (.bool false)), (.lit (.int .u8 0)), (I 0), aah, aah], [(I 2)]]),
 ((an4 :: aqz :: aqt), [[(I 0), (I 0), (I 0), (I 0), (.lit (.bool false)), (.lit (.int .u8 0)), (I 0), aah, aah], [(I 2)]]),
 ((ajo :: a1b), [[(I 0), (I 0), (I 0), (I 0), (.lit (.bool false)), (.lit (.int .u8 0)), (I 0), aah, aah], [(I 2)]]),
 ((aq2 :: ads :: a1b), [[(I 0), (I 0), (I 0), (I 0), (.lit (.bool false)), (.lit (.int .u8 0)), (I 0), aah, aah], [(I 2)]]),
 ((al7 :: ah0 :: aem :: a7l), [[(I 0), (I 0), (I 0), (I 0), (.lit (.bool false)), (.lit (.int .u8 0)), (I 0), aah, aah], [(I 2)]]),
 (((.ap .not [al7]) :: ah0 :: aem :: a7l), [[(I 7), ahd, (I 0), am7, (.lit (.bool false)), (.lit (.int .u8 0)), (I 0), aah, aah], [(I 0)]]),
 (((.ap .not [ah0]) :: aem :: a7l), [[(I 0), (I 0), (I 0), (I 0), (.lit (.bool false)), (.lit (.int .u8 0)), (I 0), aah, aah], [(I 2)]]),
 (((.ap .not [aem]) :: a7l), [[(I 0), (I 0), (I 0), (I 0), (.lit (.bool false)), (.lit (.int .u8 0)), (I 0), aah, aah], [(I 2)]]),
 ((an4 :: a8c :: (.ap .not [aqz]) :: aqt), [[(I 0), (I 0), (I 0), (I 0), (.lit (.bool false)), (.lit (.int .u8 0)), (I 0), aah, aah], [(I 2)]]),
 ((ajo :: a1d), [[(I 0), (I 0), (I 0), (I 0), (.lit (.bool false)), (.lit (.int .u8 0)), (I 0), aah, aah], [(I 2)]]),
 ((aq2 :: ads :: a1d), [[(I 0), (I 0), (I 0), (I 0), (.lit (.bool false)), (.lit (.int .u8 0)), (I 0), aah, aah], [(I 2)]]),
 (((.ap .not [(.ap (.usr 259) [ahe])]) :: (.ap (.typ (.sl [(.int .u8)])) [(.ap (.usr 260) [ahe])]) :: aq0 :: bld), [[(I 0), (I 0), (I 0), (I 0), (.lit (.bool false)), (.lit (.int .u8 0)), (I 0), aah, aah], [(I 2)]]),
 (((.ap (.usr 259) [ahe]) :: (.ap (.typ (.sl [(.int .u8)])) [(.ap (.usr 260) [ahe])]) :: aq0 :: bld), [[(I 8), ahd, (I 0), (I 0), (.lit (.bool false)), (.lit (.int .u8 0)), am7, (.ap (.usr 260) [ahe]), aah], [(I 0)]]),
 (((.ap .not [al7]) :: ah0 :: aem :: a7o), [[(I 8), ahd, (I 0), (I 0), (.lit (.bool false)), (.lit (.int .u8 0)), am7, aah, aah], [(I 0)]]),
 (((.ap .not [ah0]) :: aem :: a7o), [[(I 0), (I 0), (I 0), (I 0), (.lit (.bool false)), (.lit (.int .u8 0)), (I 0), aah, aah], [(I 2)]]),
 (((.ap .not [aem]) :: a7o), [[(I 0), (I 0), (I 0), (I 0), (.lit (.bool false)), (.lit (.int .u8 0)), (I 0), aah, aah], [(I 2)]]),
 ((an4 :: a7p), [[(I 0), (I 0), (I 0), (I 0), (.lit (.bool false)), (.lit (.int .u8 0)), (I 0), aah, aah], [(I 2)]]),
 ((ait :: afp :: ads :: a7q), [[(I 0), (I 0), (I 0), (I 0), (.lit (.bool false)), (.lit (.int .u8 0)), (I 0), aah, aah], [(I 2)]]),
 (((.ap .not [ait]) :: afp :: ads :: a7q), [[(I 9), ahd, (I 0), (I 0), (.lit (.bool false)), (.lit (.int .u8 0)), (I 0), aah, aah], [(I 0)]]),
 (((.ap .not [afp]) :: ads :: a7q), [[(I 0), (I 0), (I 0), (I 0), (.lit (.bool false)), (.lit (.int .u8 0)), (I 0), aah, aah], [(I 2)]]),
 ((ajo :: a7q), [[(I 0), (I 0), (I 0), (I 0), (.lit (.bool false)), (.lit (.int .u8 0)), (I 0), aah, aah], [(I 2)]]),
 ((an4 :: aqv :: aqu), [[(I 0), (I 0), (I 0), (I 0), (.lit (.bool false)), (.lit (.int .u8 0)), (I 0), aah, aah], [(I 2)]]),
 ((ait :: afp :: ads :: a7r), [[(I 0), (I 0), (I 0), (I 0), (.lit (.bool false)), (.lit (.int .u8 0)), (I 0), aah, aah], [(I 2)]]),
 (((.ap .not [ait]) :: afp :: ads :: a7r), [[(I 11), ahd, (I 0), (I 0), (.lit (.bool false)), (.lit (.int .u8 0)), (I 0), aah, aah], [(I 0)]]),
 (((.ap .not [afp]) :: ads :: a7r), [[(I 0), (I 0), (I 0), (I 0), (.lit (.bool false)), (.lit (.int .u8 0)), (I 0), aah, aah], [(I 2)]]),
 ((ajo :: a7r), [[(I 0), (I 0), (I 0), (I 0), (.lit (.bool false)), (.lit (.int .u8 0)), (I 0), aah, aah], [(I 2)]]),
 ((an4 :: a7w :: (.ap .not [aqv]) :: aqu), [[(I 0), (I 0), (I 0), (I 0), (.lit (.bool false)), (.lit (.int .u8 0)), (I 0), aah, aah], [(I 2)]]),
 ((ajo :: a1e), [[(I 0), (I 0), (I 0), (I 0), (.lit (.bool false)), (.lit (.int .u8 0)), (I 0), aah, aah], [(I 2)]]),
 ((aq2 :: ads :: a1e), [[(I 0), (I 0), (I 0), (I 0), (.lit (.bool false)), (.lit (.int .u8 0)), (I 0), aah, aah], [(I 2)]]),
 (((.ap .not [(.ap (.usr 258) [ahe])]) :: (.ap (.typ (.sl [.bool])) [(.ap (.usr 206) [ahe])]) :: aq0 :: blh), [[(I 0), (I 0), (I 0), (I 0), (.lit (.bool false)), (.lit (.int .u8 0)), (I 0), aah, aah], [(I 2)]]),
 (((.ap (.usr 258) [ahe]) :: (.ap (.typ (.sl [.bool])) [(.ap (.usr 206) [ahe])]) :: aq0 :: blh), [[(I 10), ahd, am7, (I 0), (.lit (.bool false)), (.lit (.int .u8 0)), (I 0), aah, (.ap (.usr 206) [ahe])], [(I 0)]]),
 (((.ap .not [al7]) :: ah0 :: aem :: a7s), [[(I 10), ahd, am7, (I 0), (.lit (.bool false)), (.lit (.int .u8 0)), (I 0), aah, aah], [(I 0)]]),
 (((.ap .not [ah0]) :: aem :: a7s), [[(I 0), (I 0), (I 0), (I 0), (.lit (.bool false)), (.lit (.int .u8 0)), (I 0), aah, aah], [(I 2)]]),
 (((.ap .not [aem]) :: a7s), [[(I 0), (I 0), (I 0), (I 0), (.lit (.bool false)), (.lit (.int .u8 0)), (I 0), aah, aah], [(I 2)]]),
 ((an4 :: a7t), [[(I 0), (I 0), (I 0), (I 0), (.lit (.bool false)), (.lit (.int .u8 0)), (I 0), aah, aah], [(I 2)]]),
 ((ajo :: a1f), [[(I 0), (I 0), (I 0), (I 0), (.lit (.bool false)), (.lit (.int .u8 0)), (I 0), aah, aah], [(I 2)]]),
 ((aq2 :: ads :: a1f), [[(I 0), (I 0), (I 0), (I 0), (.lit (.bool false)), (.lit (.int .u8 0)), (I 0), aah, aah], [(I 2)]]),
 ((al7 :: ah0 :: aem :: a7u), [[(I 0), (I 0), (I 0), (I 0), (.lit (.bool false)), (.lit (.int .u8 0)), (I 0), aah, aah], [(I 2)]]),
 (((.ap .not [al7]) :: ah0 :: aem :: a7u), [[(I 12), ahd, am7, (I 0), (.lit (.bool false)), (.lit (.int .u8 0)), (I 0), aah, aah], [(I 0)]]),
 (((.ap .not [ah0]) :: aem :: a7u), [[(I 0), (I 0), (I 0), (I 0), (.lit (.bool false)), (.lit (.int .u8 0)), (I 0), aah, aah], [(I 2)]]),
 (((.ap .not [aem]) :: a7u), [[(I 0), (I 0), (I 0), (I 0), (.lit (.bool false)), (.lit (.int .u8 0)), (I 0), aah, aah], [(I 2)]]),
 ((an4 :: a1l :: a1g), [[(I 0), (I 0), (I 0), (I 0), (.lit (.bool false)), (.lit (.int .u8 0)), (I 0), aah, aah], [(I 2)]]),
 ((ajo :: a1h), [[(I 0), (I 0), (I 0), (I 0), (.lit (.bool false)), (.lit (.int .u8 0)), (I 0), aah, aah], [(I 2)]]),
 ((aq2 :: ads :: a1h), [[(I 0), (I 0), (I 0), (I 0), (.lit (.bool false)), (.lit (.int .u8 0)), (I 0), aah, aah], [(I 2)]]),
 (((.ap .not [aem]) :: a1i), [[(I 0), (I 0), (I 0), (I 0), (.lit (.bool false)), (.lit (.int .u8 0)), (I 0), aah, aah], [(I 2)]]),
 (((.ap .eq [(.ap .len [awx]), (I 0)]) :: aem :: a1i), [[(I 0), (I 0), (I 0), (I 0), (.lit (.bool false)), (.lit (.int .u8 0)), (I 0), aah, aah], [(I 2)]]),
 (((.ap .not [(.ap (.usr 202) [ahe])]) :: a1j), [[(I 0), (I 0), (I 0), (I 0), (.lit (.bool false)), (.lit (.int .u8 0)), (I 0), aah, aah], [(I 2)]]),
 (((.ap .eq [(.ap .len [aq1]), (I 0)]) :: (.ap (.usr 202) [ahe]) :: a1j), [[(I 0), (I 0), (I 0), (I 0), (.lit (.bool false)), (.lit (.int .u8 0)), (I 0), aah, aah], [(I 2)]]),
 ((a8f :: a7v), [[(I 0), (I 0), (I 0), (I 0), (.lit (.bool false)), (.lit (.int .u8 0)), (I 0), aah, aah], [(I 2)]]),
 (((.ap .eq [a8g, (I 1)]) :: bp3), [[(I 0), (I 0), (I 0), (I 0), (.lit (.bool false)), (.lit (.int .u8 0)), (I 0), aah, aah], [(I 2)]]),
 (((.ap .not [(.ap .eq [a8g, (I 1)])]) :: bp3), [[(I 13), ahd, am7, (.ap (.usr 250) [ahe]), (.lit (.bool false)), (.ap (.wr .u8) [(.ap (.cast .u8) [(.ap (.usr 250) [ao5])])]), (I 0), aah, aah], [(I 0)]]),
 (((.ap .not [(.ap .le [a8g, (I 1)])]) :: (.ap (.usr 202) [ao5]) :: (.ap .not [a8f]) :: a7v), [[(I 0), (I 0), (I 0), (I 0), (.lit (.bool false)), (.lit (.int .u8 0)), (I 0), aah, aah], [(I 2)]]),
 (((.ap .not [(.ap (.usr 202) [ao5])]) :: (.ap .not [a8f]) :: a7v), [[(I 0), (I 0), (I 0), (I 0), (.lit (.bool false)), (.lit (.int .u8 0)), (I 0), aah, aah], [(I 2)]]),
 (((.ap .not [a1l]) :: a1g), [[(I 0), (I 0), (I 0), (I 0), (.lit (.bool false)), (.lit (.int .u8 0)), (I 0), aah, aah], [(I 6)]]),
 (((.ap (.typ (.sl [.str])) [aah]) :: (.ap .not [(.ap (.usr 224) [(.var 0)])]) :: (.ap .isnil [aah]) :: b1t), [[(I 0), (I 0), (I 0), (I 0), (.lit (.bool false)), (.lit (.int .u8 0)), (I 0), aah, aah], [(I 4)]])]
set_option maxRecDepth 100000 in
theorem cbd : runV Tryd.prog ⟨ora6, orvK Tryd.prog ora6 10 20 tb6 4, Tb.ent tb6, 10, 20, none, Go.Sx.keyOf 6⟩ hs6 Tryd.f6 (aef Tryd.f6) a4j = some (r6_v, r6_o) := by kernel_rfl
end Go.Proofs.YtamhchkknlbanaaDoor.Be
