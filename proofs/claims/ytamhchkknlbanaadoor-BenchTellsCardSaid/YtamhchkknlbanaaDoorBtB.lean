/-
  Contracts of a seat's functions: bits and bytes as texts. Conditions: none.
-/
import Derived.Test.YtamhchkknlbanaaDoorBeD
set_option linter.unusedSectionVars false
set_option linter.unusedVariables false
set_option linter.unusedSimpArgs false
namespace Go.Proofs.YtamhchkknlbanaaDoor.Be
open Go.Sx Go.Proofs
theorem br2{d:CD}{l:List UInt8}(hT:Typ .str d):(eqC d (.v (.string ⟨⟨l⟩⟩))=true)=(by' d=l):=by
 obtain⟨s,rfl,h⟩:=bmy hT
 rw [arl,ByteArray.toList_eq ⟨⟨l⟩⟩]
 rfl
abbrev isW(l:List UInt8)(e:X):X:=.ap .eq [e,.lit (.string ⟨⟨l⟩⟩)]
abbrev noW(l:List UInt8)(e:X):X:=.ap .not [isW l e]
theorem air{d:CD}{l:List UInt8}(h:eqC d (.v (.string ⟨⟨l⟩⟩))=true)(hT:Typ .str d)(hn:l≠[99,117,116]):¬ eqC d (.v (.string ⟨⟨[99,117,116]⟩⟩))=true:=by
 rw [br2 hT] at h ⊢
 rw [h]
 exact hn
abbrev ajr:List Srt:=[sI,sI,sI,sI,.bool,.int .u8,sI,.sl [.int .u8],.sl [.bool]]
abbrev fo0:List X×List (List X):=([isW [116,105,99,107] (.var 0),noW [99,117,116] (.var 0)],[[I 1],[I 1],[I 0],[.lit (.bool true)]])
abbrev fo1:List X×List (List X):=([isW [116,97,107,101] (.var 0),noW [99,117,116] (.var 0)],[[I 2],[I 1],[I 0],[.lit (.bool true)]])
abbrev fo2:List X×List (List X):=([isW [102,108,111,119] (.var 0),noW [99,117,116] (.var 0)],[[I 14],[I 1],[I 0],[.lit (.bool true)]])
abbrev fo3:List X×List (List X):=([isW [97,116] (.var 0),noW [99,117,116] (.var 0)],[[I 3],[I 1],[I 0],[.lit (.bool true)]])
abbrev fo4:List X×List (List X):=([isW [100,114,111,112] (.var 0),noW [99,117,116] (.var 0)],[[I 4],[I 1],[I 0],[.lit (.bool true)]])
abbrev fo5:List X×List (List X):=([isW [100,111,117,98,108,101] (.var 0),noW [99,117,116] (.var 0)],[[I 5],[I 1],[I 0],[.lit (.bool true)]])
abbrev fo6:List X×List (List X):=([isW [109,111,118,101] (.var 0),noW [99,117,116] (.var 0)],[[I 6],[I 2],[I 0],[.lit (.bool true)]])
abbrev fo7:List X×List (List X):=([isW [99,117,116] (.var 0)],[[I 7],[I 2],[I 0],[.lit (.bool true)]])
abbrev fo8:List X×List (List X):=([isW [106,111,105,110] (.var 0),noW [99,117,116] (.var 0)],[[I 7],[I 2],[I 0],[.lit (.bool true)]])
abbrev fo9:List X×List (List X):=([isW [97,115,107] (.var 0),noW [99,117,116] (.var 0)],[[I 8],[I 2],[I 1],[.lit (.bool true)]])
abbrev fo10:List X×List (List X):=([isW [97,103,97,105,110] (.var 0),noW [99,117,116] (.var 0)],[[I 9],[I 1],[I 0],[.lit (.bool true)]])
abbrev fo11:List X×List (List X):=([isW [114,101,111,112,101,110] (.var 0),noW [99,117,116] (.var 0)],[[I 11],[I 1],[I 0],[.lit (.bool true)]])
abbrev fo12:List X×List (List X):=([isW [99,114,97,115,104] (.var 0),noW [99,117,116] (.var 0)],[[I 10],[I 2],[I 2],[.lit (.bool true)]])
abbrev fo13:List X×List (List X):=([isW [102,117,115,101] (.var 0),noW [99,117,116] (.var 0)],[[I 12],[I 2],[I 0],[.lit (.bool true)]])
abbrev fo14:List X×List (List X):=([isW [116,117,114,110] (.var 0),noW [99,117,116] (.var 0)],[[I 13],[I 4],[I 0],[.lit (.bool true)]])
abbrev fo15:List X×List (List X):=([noW [116,105,99,107] (.var 0),noW [116,97,107,101] (.var 0),noW [102,108,111,119] (.var 0),noW [97,116] (.var 0),noW [100,114,111,112] (.var 0),noW [100,111,117,98,108,101] (.var 0),noW [109,111,118,101] (.var 0),noW [99,117,116] (.var 0),noW [106,111,105,110] (.var 0),noW [97,115,107] (.var 0),noW [97,103,97,105,110] (.var 0),noW [114,101,111,112,101,110] (.var 0),noW [99,114,97,115,104] (.var 0),noW [102,117,115,101] (.var 0),noW [116,117,114,110] (.var 0)],[[I 0],[I 0],[I 0],[.lit (.bool false)]])
noncomputable def bn4:Fsp:=⟨[(false,[.str])],[],[(false,[sI]),(false,[sI]),(false,[sI]),(false,[.bool])],[fo0,fo1,fo2,fo3,fo4,fo5,fo6,fo7,fo8,fo9,fo10,fo11,fo12,fo13,fo14,fo15],true⟩
abbrev a7i:X:=(.ap .eq [(.var 0),(.lit (.string (.mk (.mk [114,101,111,112,101,110]))))])
abbrev a7j:X:=(.ap .eq [(.var 0),(.lit (.string (.mk (.mk [100,111,117,98,108,101]))))])
abbrev a7k:X:=(.ap .eq [(.var 0),(.lit (.string (.mk (.mk [102,108,111,119]))))])
abbrev a7l:X:=(.ap .eq [(.var 0),(.lit (.string (.mk (.mk [106,111,105,110]))))])
abbrev bd0:X:=(.ap .eq [(.var 0),(.lit (.string (.mk (.mk [99,114,97,115,104]))))])
abbrev bd1:X:=(.ap .eq [(.var 0),(.lit (.string (.mk (.mk [109,111,118,101]))))])
abbrev bd2:X:=(.ap .eq [(.var 0),(.lit (.string (.mk (.mk [116,105,99,107]))))])
abbrev bd3:X:=(.ap .eq [(.var 0),(.lit (.string (.mk (.mk [97,115,107]))))])
abbrev bd4:X:=(.ap .eq [(.var 0),(.lit (.string (.mk (.mk [97,116]))))])
abbrev a7e:List X:=[(.ap .not [(.ap .eq [(.var 0),(.lit (.string (.mk (.mk [116,97,107,101]))))])]),(.ap .not [bd2]),(.ap (.typ .str) [(.var 0)])]
abbrev a7f:List X:=(.ap .not [(.ap .eq [(.var 0),(.lit (.string (.mk (.mk [100,114,111,112]))))])])::(.ap .not [bd4])::(.ap .not [a7k])::a7e
abbrev a7g:List X:=(.ap .not [(.ap .eq [(.var 0),(.lit (.string (.mk (.mk [99,117,116]))))])])::(.ap .not [bd1])::(.ap .not [a7j])::a7f
abbrev a7h:List X:=(.ap .not [(.ap .eq [(.var 0),(.lit (.string (.mk (.mk [97,103,97,105,110]))))])])::(.ap .not [bd3])::(.ap .not [a7l])::a7g
abbrev blp:List X:=(.ap .not [(.ap .eq [(.var 0),(.lit (.string (.mk (.mk [102,117,115,101]))))])])::(.ap .not [bd0])::(.ap .not [a7i])::a7h
def bvp:List VC:=[]
def bvo:List (List X×List (List X)):=[([bd2,(.ap (.typ .str) [(.var 0)])],[[(I 1)],[(I 1)],[(I 0)],[(.lit (.bool true))]]),
 ([(.ap .eq [(.var 0),(.lit (.string (.mk (.mk [116,97,107,101]))))]),(.ap .not [bd2]),(.ap (.typ .str) [(.var 0)])],[[(I 2)],[(I 1)],[(I 0)],[(.lit (.bool true))]]),
 ((a7k::a7e),[[(I 14)],[(I 1)],[(I 0)],[(.lit (.bool true))]]),
 ((bd4::(.ap .not [a7k])::a7e),[[(I 3)],[(I 1)],[(I 0)],[(.lit (.bool true))]]),
 (((.ap .eq [(.var 0),(.lit (.string (.mk (.mk [100,114,111,112]))))])::(.ap .not [bd4])::(.ap .not [a7k])::a7e),[[(I 4)],[(I 1)],[(I 0)],[(.lit (.bool true))]]),
 ((a7j::a7f),[[(I 5)],[(I 1)],[(I 0)],[(.lit (.bool true))]]),
 ((bd1::(.ap .not [a7j])::a7f),[[(I 6)],[(I 2)],[(I 0)],[(.lit (.bool true))]]),
 (((.ap .eq [(.var 0),(.lit (.string (.mk (.mk [99,117,116]))))])::(.ap .not [bd1])::(.ap .not [a7j])::a7f),[[(I 7)],[(I 2)],[(I 0)],[(.lit (.bool true))]]),
 ((a7l::a7g),[[(I 7)],[(I 2)],[(I 0)],[(.lit (.bool true))]]),
 ((bd3::(.ap .not [a7l])::a7g),[[(I 8)],[(I 2)],[(I 1)],[(.lit (.bool true))]]),
 (((.ap .eq [(.var 0),(.lit (.string (.mk (.mk [97,103,97,105,110]))))])::(.ap .not [bd3])::(.ap .not [a7l])::a7g),[[(I 9)],[(I 1)],[(I 0)],[(.lit (.bool true))]]),
 ((a7i::a7h),[[(I 11)],[(I 1)],[(I 0)],[(.lit (.bool true))]]),
 ((bd0::(.ap .not [a7i])::a7h),[[(I 10)],[(I 2)],[(I 2)],[(.lit (.bool true))]]),
 (((.ap .eq [(.var 0),(.lit (.string (.mk (.mk [102,117,115,101]))))])::(.ap .not [bd0])::(.ap .not [a7i])::a7h),[[(I 12)],[(I 2)],[(I 0)],[(.lit (.bool true))]]),
 (((.ap .eq [(.var 0),(.lit (.string (.mk (.mk [116,117,114,110]))))])::blp),[[(I 13)],[(I 4)],[(I 0)],[(.lit (.bool true))]]),
 (((.ap .not [(.ap .eq [(.var 0),(.lit (.string (.mk (.mk [116,117,114,110]))))])])::blp),[[(I 0)],[(I 0)],[(I 0)],[(.lit (.bool false))]])]
theorem bzw:runS Tryd.prog (ahj T0) 10 20 ⟨afu [],hintA []⟩ Tryd.f23 (acv Tryd.f23) bn4=some (bvp,bvo):=by kernel_rfl
set_option maxRecDepth 100000 in
theorem b2t:abk U Tryd.prog 23 bn4:=by
 refine abk.of (P:=Tryd.prog) (U:=U) (T:=T0) (f:=23) (fn:=Tryd.f23) (fuel:=10) (fk:=20) (hs:=⟨afu [],hintA []⟩) (S:=bn4) (v:=bvp) (outs:=bvo) mixed hT0 at23 bzw ?_ ?_
 ·unfold bvp
  exact ae1 _
 ·intro o ho σ hU hh
  obtain⟨v⟩:=σ
  cases hU
  simp only [bvo,List.mem_cons,List.not_mem_nil,or_false] at ho
  rcases ho with rfl | rfl | rfl | rfl | rfl | rfl | rfl | rfl | rfl | rfl | rfl | rfl | rfl | rfl | rfl | rfl
  all_goals
   simp only [aay,aa5,aax,aa4,aa3,abr,abf,aam,w_wr,b_lt,b_le,b_eq,aaz,abl,b_or,aa1,aaj,aag,abp,abd,aal,aan,aa2,w_mk,aao,aa9,abo,abj,abg,aa6,aa8,abq,aa0,aau,abe,w_l0,w_l1,aaf,aae,aaw,aac,aad,aak,aai,aaq,aar,aas,aap,abn,abm,aat,abh,a7e,a7i,a7j,a7k,a7l,bd0,bd1,bd2,bd3,bd4,a7f,a7g,a7h,blp] at hh
  ·exact⟨fo0,(List.mem_cons_self ..),by simp only [aay,aa5,aax,aa4,aa3,abr,abf,aam,w_wr,b_lt,b_le,b_eq,aaz,abl,b_or,aa1,aaj,aag,abp,abd,aal,aan,aa2,w_mk,aao,aa9,abo,abj,abg,aa6,aa8,abq,aa0,aau,abe,w_l0,w_l1,aaf,aae,aaw,aac,aad,aak,aai,aaq,aar,aas,aap,abn,abm,aat,abh];exact⟨hh.1,air hh.1 (by grind) (by decide),trivial⟩,rfl⟩
  ·exact⟨fo1,(List.mem_cons_of_mem _ (List.mem_cons_self ..)),by simp only [aay,aa5,aax,aa4,aa3,abr,abf,aam,w_wr,b_lt,b_le,b_eq,aaz,abl,b_or,aa1,aaj,aag,abp,abd,aal,aan,aa2,w_mk,aao,aa9,abo,abj,abg,aa6,aa8,abq,aa0,aau,abe,w_l0,w_l1,aaf,aae,aaw,aac,aad,aak,aai,aaq,aar,aas,aap,abn,abm,aat,abh];exact⟨hh.1,air hh.1 (by grind) (by decide),trivial⟩,rfl⟩
  ·exact⟨fo2,(List.mem_cons_of_mem _ (List.mem_cons_of_mem _ (List.mem_cons_self ..))),by simp only [aay,aa5,aax,aa4,aa3,abr,abf,aam,w_wr,b_lt,b_le,b_eq,aaz,abl,b_or,aa1,aaj,aag,abp,abd,aal,aan,aa2,w_mk,aao,aa9,abo,abj,abg,aa6,aa8,abq,aa0,aau,abe,w_l0,w_l1,aaf,aae,aaw,aac,aad,aak,aai,aaq,aar,aas,aap,abn,abm,aat,abh];exact⟨hh.1,air hh.1 (by grind) (by decide),trivial⟩,rfl⟩
  ·exact⟨fo3,(List.mem_cons_of_mem _ (List.mem_cons_of_mem _ (List.mem_cons_of_mem _ (List.mem_cons_self ..)))),by simp only [aay,aa5,aax,aa4,aa3,abr,abf,aam,w_wr,b_lt,b_le,b_eq,aaz,abl,b_or,aa1,aaj,aag,abp,abd,aal,aan,aa2,w_mk,aao,aa9,abo,abj,abg,aa6,aa8,abq,aa0,aau,abe,w_l0,w_l1,aaf,aae,aaw,aac,aad,aak,aai,aaq,aar,aas,aap,abn,abm,aat,abh];exact⟨hh.1,air hh.1 (by grind) (by decide),trivial⟩,rfl⟩
  ·exact⟨fo4,(List.mem_cons_of_mem _ (List.mem_cons_of_mem _ (List.mem_cons_of_mem _ (List.mem_cons_of_mem _ (List.mem_cons_self ..))))),by simp only [aay,aa5,aax,aa4,aa3,abr,abf,aam,w_wr,b_lt,b_le,b_eq,aaz,abl,b_or,aa1,aaj,aag,abp,abd,aal,aan,aa2,w_mk,aao,aa9,abo,abj,abg,aa6,aa8,abq,aa0,aau,abe,w_l0,w_l1,aaf,aae,aaw,aac,aad,aak,aai,aaq,aar,aas,aap,abn,abm,aat,abh];exact⟨hh.1,air hh.1 (by grind) (by decide),trivial⟩,rfl⟩
  ·exact⟨fo5,(List.mem_cons_of_mem _ (List.mem_cons_of_mem _ (List.mem_cons_of_mem _ (List.mem_cons_of_mem _ (List.mem_cons_of_mem _ (List.mem_cons_self ..)))))),by simp only [aay,aa5,aax,aa4,aa3,abr,abf,aam,w_wr,b_lt,b_le,b_eq,aaz,abl,b_or,aa1,aaj,aag,abp,abd,aal,aan,aa2,w_mk,aao,aa9,abo,abj,abg,aa6,aa8,abq,aa0,aau,abe,w_l0,w_l1,aaf,aae,aaw,aac,aad,aak,aai,aaq,aar,aas,aap,abn,abm,aat,abh];exact⟨hh.1,air hh.1 (by grind) (by decide),trivial⟩,rfl⟩
  ·exact⟨fo6,(List.mem_cons_of_mem _ (List.mem_cons_of_mem _ (List.mem_cons_of_mem _ (List.mem_cons_of_mem _ (List.mem_cons_of_mem _ (List.mem_cons_of_mem _ (List.mem_cons_self ..))))))),by simp only [aay,aa5,aax,aa4,aa3,abr,abf,aam,w_wr,b_lt,b_le,b_eq,aaz,abl,b_or,aa1,aaj,aag,abp,abd,aal,aan,aa2,w_mk,aao,aa9,abo,abj,abg,aa6,aa8,abq,aa0,aau,abe,w_l0,w_l1,aaf,aae,aaw,aac,aad,aak,aai,aaq,aar,aas,aap,abn,abm,aat,abh];exact⟨hh.1,air hh.1 (by grind) (by decide),trivial⟩,rfl⟩
  ·exact⟨fo7,(List.mem_cons_of_mem _ (List.mem_cons_of_mem _ (List.mem_cons_of_mem _ (List.mem_cons_of_mem _ (List.mem_cons_of_mem _ (List.mem_cons_of_mem _ (List.mem_cons_of_mem _ (List.mem_cons_self ..)))))))),by simp only [aay,aa5,aax,aa4,aa3,abr,abf,aam,w_wr,b_lt,b_le,b_eq,aaz,abl,b_or,aa1,aaj,aag,abp,abd,aal,aan,aa2,w_mk,aao,aa9,abo,abj,abg,aa6,aa8,abq,aa0,aau,abe,w_l0,w_l1,aaf,aae,aaw,aac,aad,aak,aai,aaq,aar,aas,aap,abn,abm,aat,abh];exact⟨hh.1,trivial⟩,rfl⟩
  ·exact⟨fo8,(List.mem_cons_of_mem _ (List.mem_cons_of_mem _ (List.mem_cons_of_mem _ (List.mem_cons_of_mem _ (List.mem_cons_of_mem _ (List.mem_cons_of_mem _ (List.mem_cons_of_mem _ (List.mem_cons_of_mem _ (List.mem_cons_self ..))))))))),by simp only [aay,aa5,aax,aa4,aa3,abr,abf,aam,w_wr,b_lt,b_le,b_eq,aaz,abl,b_or,aa1,aaj,aag,abp,abd,aal,aan,aa2,w_mk,aao,aa9,abo,abj,abg,aa6,aa8,abq,aa0,aau,abe,w_l0,w_l1,aaf,aae,aaw,aac,aad,aak,aai,aaq,aar,aas,aap,abn,abm,aat,abh];exact⟨hh.1,air hh.1 (by grind) (by decide),trivial⟩,rfl⟩
  ·exact⟨fo9,(List.mem_cons_of_mem _ (List.mem_cons_of_mem _ (List.mem_cons_of_mem _ (List.mem_cons_of_mem _ (List.mem_cons_of_mem _ (List.mem_cons_of_mem _ (List.mem_cons_of_mem _ (List.mem_cons_of_mem _ (List.mem_cons_of_mem _ (List.mem_cons_self ..)))))))))),by simp only [aay,aa5,aax,aa4,aa3,abr,abf,aam,w_wr,b_lt,b_le,b_eq,aaz,abl,b_or,aa1,aaj,aag,abp,abd,aal,aan,aa2,w_mk,aao,aa9,abo,abj,abg,aa6,aa8,abq,aa0,aau,abe,w_l0,w_l1,aaf,aae,aaw,aac,aad,aak,aai,aaq,aar,aas,aap,abn,abm,aat,abh];exact⟨hh.1,air hh.1 (by grind) (by decide),trivial⟩,rfl⟩
  ·exact⟨fo10,(List.mem_cons_of_mem _ (List.mem_cons_of_mem _ (List.mem_cons_of_mem _ (List.mem_cons_of_mem _ (List.mem_cons_of_mem _ (List.mem_cons_of_mem _ (List.mem_cons_of_mem _ (List.mem_cons_of_mem _ (List.mem_cons_of_mem _ (List.mem_cons_of_mem _ (List.mem_cons_self ..))))))))))),by simp only [aay,aa5,aax,aa4,aa3,abr,abf,aam,w_wr,b_lt,b_le,b_eq,aaz,abl,b_or,aa1,aaj,aag,abp,abd,aal,aan,aa2,w_mk,aao,aa9,abo,abj,abg,aa6,aa8,abq,aa0,aau,abe,w_l0,w_l1,aaf,aae,aaw,aac,aad,aak,aai,aaq,aar,aas,aap,abn,abm,aat,abh];exact⟨hh.1,air hh.1 (by grind) (by decide),trivial⟩,rfl⟩
  ·exact⟨fo11,(List.mem_cons_of_mem _ (List.mem_cons_of_mem _ (List.mem_cons_of_mem _ (List.mem_cons_of_mem _ (List.mem_cons_of_mem _ (List.mem_cons_of_mem _ (List.mem_cons_of_mem _ (List.mem_cons_of_mem _ (List.mem_cons_of_mem _ (List.mem_cons_of_mem _ (List.mem_cons_of_mem _ (List.mem_cons_self ..)))))))))))),by simp only [aay,aa5,aax,aa4,aa3,abr,abf,aam,w_wr,b_lt,b_le,b_eq,aaz,abl,b_or,aa1,aaj,aag,abp,abd,aal,aan,aa2,w_mk,aao,aa9,abo,abj,abg,aa6,aa8,abq,aa0,aau,abe,w_l0,w_l1,aaf,aae,aaw,aac,aad,aak,aai,aaq,aar,aas,aap,abn,abm,aat,abh];exact⟨hh.1,air hh.1 (by grind) (by decide),trivial⟩,rfl⟩
  ·exact⟨fo12,(List.mem_cons_of_mem _ (List.mem_cons_of_mem _ (List.mem_cons_of_mem _ (List.mem_cons_of_mem _ (List.mem_cons_of_mem _ (List.mem_cons_of_mem _ (List.mem_cons_of_mem _ (List.mem_cons_of_mem _ (List.mem_cons_of_mem _ (List.mem_cons_of_mem _ (List.mem_cons_of_mem _ (List.mem_cons_of_mem _ (List.mem_cons_self ..))))))))))))),by simp only [aay,aa5,aax,aa4,aa3,abr,abf,aam,w_wr,b_lt,b_le,b_eq,aaz,abl,b_or,aa1,aaj,aag,abp,abd,aal,aan,aa2,w_mk,aao,aa9,abo,abj,abg,aa6,aa8,abq,aa0,aau,abe,w_l0,w_l1,aaf,aae,aaw,aac,aad,aak,aai,aaq,aar,aas,aap,abn,abm,aat,abh];exact⟨hh.1,air hh.1 (by grind) (by decide),trivial⟩,rfl⟩
  ·exact⟨fo13,(List.mem_cons_of_mem _ (List.mem_cons_of_mem _ (List.mem_cons_of_mem _ (List.mem_cons_of_mem _ (List.mem_cons_of_mem _ (List.mem_cons_of_mem _ (List.mem_cons_of_mem _ (List.mem_cons_of_mem _ (List.mem_cons_of_mem _ (List.mem_cons_of_mem _ (List.mem_cons_of_mem _ (List.mem_cons_of_mem _ (List.mem_cons_of_mem _ (List.mem_cons_self ..)))))))))))))),by simp only [aay,aa5,aax,aa4,aa3,abr,abf,aam,w_wr,b_lt,b_le,b_eq,aaz,abl,b_or,aa1,aaj,aag,abp,abd,aal,aan,aa2,w_mk,aao,aa9,abo,abj,abg,aa6,aa8,abq,aa0,aau,abe,w_l0,w_l1,aaf,aae,aaw,aac,aad,aak,aai,aaq,aar,aas,aap,abn,abm,aat,abh];exact⟨hh.1,air hh.1 (by grind) (by decide),trivial⟩,rfl⟩
  ·exact⟨fo14,(List.mem_cons_of_mem _ (List.mem_cons_of_mem _ (List.mem_cons_of_mem _ (List.mem_cons_of_mem _ (List.mem_cons_of_mem _ (List.mem_cons_of_mem _ (List.mem_cons_of_mem _ (List.mem_cons_of_mem _ (List.mem_cons_of_mem _ (List.mem_cons_of_mem _ (List.mem_cons_of_mem _ (List.mem_cons_of_mem _ (List.mem_cons_of_mem _ (List.mem_cons_of_mem _ (List.mem_cons_self ..))))))))))))))),by simp only [aay,aa5,aax,aa4,aa3,abr,abf,aam,w_wr,b_lt,b_le,b_eq,aaz,abl,b_or,aa1,aaj,aag,abp,abd,aal,aan,aa2,w_mk,aao,aa9,abo,abj,abg,aa6,aa8,abq,aa0,aau,abe,w_l0,w_l1,aaf,aae,aaw,aac,aad,aak,aai,aaq,aar,aas,aap,abn,abm,aat,abh];exact⟨hh.1,air hh.1 (by grind) (by decide),trivial⟩,rfl⟩
  ·exact⟨fo15,(List.mem_cons_of_mem _ (List.mem_cons_of_mem _ (List.mem_cons_of_mem _ (List.mem_cons_of_mem _ (List.mem_cons_of_mem _ (List.mem_cons_of_mem _ (List.mem_cons_of_mem _ (List.mem_cons_of_mem _ (List.mem_cons_of_mem _ (List.mem_cons_of_mem _ (List.mem_cons_of_mem _ (List.mem_cons_of_mem _ (List.mem_cons_of_mem _ (List.mem_cons_of_mem _ (List.mem_cons_of_mem _ (List.mem_cons_self ..)))))))))))))))),by simp only [aay,aa5,aax,aa4,aa3,abr,abf,aam,w_wr,b_lt,b_le,b_eq,aaz,abl,b_or,aa1,aaj,aag,abp,abd,aal,aan,aa2,w_mk,aao,aa9,abo,abj,abg,aa6,aa8,abq,aa0,aau,abe,w_l0,w_l1,aaf,aae,aaw,aac,aad,aak,aai,aaq,aar,aas,aap,abn,abm,aat,abh];grind,rfl⟩
end Go.Proofs.YtamhchkknlbanaaDoor.Be

set_option linter.all false
namespace Go.Proofs.YtamhchkknlbanaaDoor.Be
open Go.Sx Go.Proofs
abbrev Row5:=List UInt8×Int×Bool×List UInt8×Int
def fr(i:Nat):Row5:=frm.getD i ([],0,false,[],0)
theorem a97:frmR.length=15:=rfl
theorem bi8{i:Nat}(hi:i<15):frmR.getD i []=bck (fr i) i:=by
 have:i=0∨i=1∨i=2∨i=3∨i=4∨i=5∨i=6∨i=7∨i=8∨i=9∨i=10∨i=11∨i=12∨i=13∨i=14:=by omega
 rcases this with rfl | rfl | rfl | rfl | rfl | rfl | rfl | rfl | rfl | rfl | rfl | rfl | rfl | rfl | rfl<;>rfl
theorem ah7{i:Int}(h0:0≤i)(hi:i<(frmR.length:Int))(j:Nat):(CD.sl false frmR).cell i j=(bck (fr i.toNat) i.toNat).getD j default:=by
 rw [a97] at hi
 show(frmR.getD i.toNat []).getD j default=_
 rw [bi8 (by omega)]
theorem a8q{d:CD}(h:Typ .bool d):d=aav d.bv:=by
 obtain⟨m,u,b,rfl,_⟩:=h
 rfl
theorem ad3{a b:Int}{k:IntKind}:(eqC (vInt k a) (vInt k b)=true)=(a=b):=by
 show(decide (a=b)=true)=_
 simp
theorem bcd{a b:Bool}:(eqC (aav a) (aav b)=true)=(a=b):=by
 rw [eq_iff_iff]
 constructor
 ·intro h
  cases a<;>cases b<;>first | rfl | cases h
 ·rintro rfl
  cases a<;>rfl
theorem bt6(b:CD):mIn b []=false:=rfl
theorem a1h(b x:CD)(s:List (List CD)):mIn b (s++[[x]])=(mIn b s||eqC b x):=by
 unfold mIn
 rw [List.any_append]
 simp
theorem nf_0(k:Int)(is:Bool):af5 [] k is=true:=by
 unfold af5
 rw [List.all_eq_true]
 intro r _
 rw [bt6]
 rfl
theorem b0x{r:Row5×Nat}(h:r∈frm.zipIdx):r.2<15∧r.1=fr r.2:=by
 obtain⟨a,i⟩:=r
 have h:=List.mem_zipIdx_iff_getElem?.1 h
 have hl:i<15:=by
  rcases Nat.lt_or_ge i 15 with h1 | h1
  ·exact h1
  ·rw [List.getElem?_eq_none (show frm.length≤i from h1)] at h
   cases h
 refine⟨hl,?_⟩
 unfold fr
 rw [List.getD_eq_getElem?_getD]
 rw [show frm[i]? = some a from h]
 rfl
theorem bsb{i:Nat}(hi:i<15):(fr i,i)∈frm.zipIdx:=by
 rw [List.mem_zipIdx_iff_getElem?]
 unfold fr
 rw [List.getD_eq_getElem?_getD,List.getElem?_eq_getElem (show i<frm.length from hi)]
 rfl
theorem bub{s:List (List CD)}{k:Int}{is:Bool}{i:Nat}(hno:fits k is (fr i)=false)(h:af5 s k is=true):af5 (s++[[vInt .i64 (i:Nat)]]) k is=true:=by
 unfold af5 at h ⊢
 rw [List.all_eq_true] at h ⊢
 intro r hr
 have h1:=h r hr
 obtain⟨h2,h3⟩:=b0x hr
 rw [a1h]
 by_cases he:eqC (vInt .i64 (r.2:Nat)) (vInt .i64 (i:Nat))=true
 ·rw [ad3] at he
  have he:r.2=i:=by omega
  rw [h3,he,hno]
  simp
 ·rw [Bool.not_eq_true] at he
  rw [he,Bool.or_false]
  exact h1
theorem filter_lt{α:Type}{p q:α→Bool}:∀ {l:List α},(∀ x∈l,q x=true→p x=true)→(∃ x∈l,p x=true∧q x=false)→(l.filter q).length<(l.filter p).length
 | [],_,⟨x,hx,_⟩=>by cases hx
 | a::l,h,⟨x,hx,h1,h2⟩=>by
  have hle:∀ {l:List α},(∀ x∈l,q x=true→p x=true)→(l.filter q).length≤(l.filter p).length:=by
   intro l
   induction l with
   | nil=>intro _;exact Nat.le_refl _
   | cons b l ih =>
    intro hh
    have:=ih fun x hx=>hh x (List.mem_cons_of_mem _ hx)
    rw [List.filter_cons,List.filter_cons]
    by_cases hb:q b=true
    ·rw [if_pos hb,if_pos (hh b (List.mem_cons_self ..) hb)]
     simpa using this
    ·rw [if_neg hb]
     split
     ·simp only [List.length_cons];omega
     ·exact this
  rw [List.filter_cons,List.filter_cons]
  rcases List.mem_cons.1 hx with rfl | hx
  ·rw [if_pos h1,if_neg (by rw [h2];decide)]
   have:=hle fun y hy=>h y (List.mem_cons_of_mem _ hy)
   simp only [List.length_cons];omega
  ·have:=filter_lt (fun y hy=>h y (List.mem_cons_of_mem _ hy)) ⟨x,hx,h1,h2⟩
   by_cases hb:q a=true
   ·rw [if_pos hb,if_pos (h a (List.mem_cons_self ..) hb)]
    simpa using this
   ·rw [if_neg hb]
    split
    ·simp only [List.length_cons];omega
    ·exact this
theorem brg{s:List (List CD)}{i:Nat}(hi:i<15)(hn:¬ mIn (vInt .i64 (i:Nat)) s=true):anw (s++[[vInt .i64 (i:Nat)]])<anw s:=by
 unfold anw
 refine filter_lt (fun x hx h=>?_) ⟨(fr i,i),bsb hi,?_,?_⟩
 ·rw [a1h] at h
  revert h
  cases mIn (vInt .i64 (x.2:Nat)) s
  ·intro _;rfl
  ·intro h;cases h
 ·rw [Bool.not_eq_true] at hn
  show(!mIn (vInt .i64 (i:Nat)) s)=true
  rw [hn]
  rfl
 ·show(!mIn (vInt .i64 (i:Nat)) (s++[[vInt .i64 (i:Nat)]]))=false
  rw [a1h,(ad3 (k:=.i64)).mpr rfl,Bool.or_true]
  rfl
theorem brj{s:List (List CD)}{k:Int}{is:Bool}(h:af5 s k is=true)(hall:(frmR.all fun r=>mIn (amc r) s)=true):afj k is=none:=by
 unfold afj
 rw [List.find?_eq_none]
 intro r hr hf
 obtain⟨i,hi,rfl⟩:=List.getElem_of_mem hr
 have hi:i<15:=hi
 have e:frm[i]=fr i:=by
  unfold fr
  rw [List.getD_eq_getElem?_getD,List.getElem?_eq_getElem (show i<frm.length from hi)]
  rfl
 have hf:fits k is (fr i)=true:=by rw [← e];exact hf
 unfold af5 at h
 have h1:=List.all_eq_true.1 h _ (bsb hi)
 have h2:=List.all_eq_true.1 hall (frmR.getD i []) (by rw [List.getD_eq_getElem?_getD,List.getElem?_eq_getElem (show i<frmR.length from hi)];exact List.getElem_mem _)
 rw [bi8 hi] at h2
 have h2:mIn (vInt .i64 (i:Nat)) s=true:=h2
 simp only [hf,h2] at h1
 cases h1
theorem bw2{k:Int}{is:Bool}{i:Nat}(hi:i<15)(h:fits k is (fr i)=true):afj k is=some (fr i):=by
 unfold fits at h
 rw [Bool.and_eq_true,decide_eq_true_eq] at h
 obtain⟨rfl,h2⟩:=h
 have:i=0∨i=1∨i=2∨i=3∨i=4∨i=5∨i=6∨i=7∨i=8∨i=9∨i=10∨i=11∨i=12∨i=13∨i=14:=by omega
 rcases this with rfl | rfl | rfl | rfl | rfl | rfl | rfl | rfl | rfl | rfl | rfl | rfl | rfl | rfl | rfl<;>cases is<;>first | rfl | cases h2
end Go.Proofs.YtamhchkknlbanaaDoor.Be

namespace Go.Proofs.YtamhchkknlbanaaDoor.Be
open Go.Sx Go.Proofs
noncomputable def bk0:OraM:=bpn 18 .str true [sI,.bool,.str,.int .u8] (.ap (.usr 263) []) 15
noncomputable def tb0:Tb:=⟨apf [],noY,U.lc⟩
theorem htb0:TbOK U Tryd.prog tb0:=TbOK.of (y:=noY) amb.nil
theorem bdm:agh U Tryd.prog bk0:=bi7
abbrev preD:List X:=[.ap (.typ sI) [.var 0],.ap (.typ sI) [.var 1],.ap (.typ sI) [.var 2],.ap (.typ sI) [.var 3],.ap (.typ .bool) [.var 4],.ap (.typ (.int .u8)) [.var 5],.ap (.typ sI) [.var 6]]
noncomputable def bbs:Fsp:=⟨[(true,ajr)],preD,[(false,[.str]),(true,[sI,.bool,.str,.int .u8]),(false,[.bool])],[([],[[.ap (.usr 270) [.var 0,.var 4]],[.ap (.usr 271) [.var 0,.var 4],.ap (.usr 272) [.var 0,.var 4],.ap (.usr 273) [.var 0,.var 4],.ap (.usr 274) [.var 0,.var 4]],[.ap (.usr 275) [.var 0,.var 4]]])],true⟩
noncomputable def lp29:Lp:=⟨[(.slot 8,.iter)],[0,1,3,7],[],fun F H k=>[.ap (.usr 264) [.var k,.var 0,.var 4]],fun F H k=>.ap (.usr 265) [.var k]⟩
abbrev agc:X:=(.ap (.usr 263) [])
abbrev amm:X:=(.ap .eq [(.ap (.cell 1) [agc,(.var 10)]),(.var 0)])
abbrev asg:X:=(.ap .snoc [(.var 9),(.ap (.cell 5) [agc,(.var 10)])])
abbrev azf:X:=(.ap .eq [(.ap (.cell 2) [agc,(.var 10)]),(.var 4)])
abbrev a7m:List X:=[(.ap .mok [agc,(I 15)]),(.ap .le [mnX,(.var 0)]),(.ap .le [(.var 0),mxX]),(.ap .le [mnX,(.var 1)]),(.ap .le [(.var 1),mxX]),(.ap .le [mnX,(.var 2)]),(.ap .le [(.var 2),mxX]),(.ap .le [mnX,(.var 3)]),(.ap .le [(.var 3),mxX]),(.ap .le [(.lit (.int .u8 0)),(.var 5)]),(.ap .le [(.var 5),(.lit (.int .u8 255))]),(.ap .le [mnX,(.var 6)]),(.ap .le [(.var 6),mxX]),(.ap (.typ (.sl [(.int .u8)])) [(.var 7)]),(.ap (.typ (.sl [.bool])) [(.var 8)]),(.ap (.typ sI) [(.var 0)]),(.ap (.typ sI) [(.var 1)]),(.ap (.typ sI) [(.var 2)]),(.ap (.typ sI) [(.var 3)]),(.ap (.typ .bool) [(.var 4)]),(.ap (.typ (.int .u8)) [(.var 5)]),(.ap (.typ sI) [(.var 6)])]
abbrev aml:List X:=(.ap .le [(I 0),(.var 10)])::(.ap .lt [(.var 10),(.ap .rlen [agc])])::(.ap .not [(.ap .min [(.ap (.cell 5) [agc,(.var 10)]),(.var 9)])])::(.ap (.usr 264) [(.var 9),(.var 0),(.var 4)])::a7m
set_option maxRecDepth 100000 in
def bvw:List VC:=[(a7m,(.ap (.usr 264) [(.ap (.nil false) []),(.var 0),(.var 4)])),
 (((.ap .not [azf])::(.ap .eq [(.var 0),(I 7)])::amm::aml),(.ap .le [(I 0),(.ap (.usr 265) [asg])])),
 (((.ap .not [azf])::(.ap .eq [(.var 0),(I 7)])::amm::aml),(.ap .lt [(.ap (.usr 265) [asg]),(.ap (.usr 265) [(.var 9)])])),
 (((.ap .not [azf])::(.ap .eq [(.var 0),(I 7)])::amm::aml),(.ap (.usr 264) [asg,(.var 0),(.var 4)])),
 (((.ap .not [amm])::aml),(.ap .le [(I 0),(.ap (.usr 265) [asg])])),
 (((.ap .not [amm])::aml),(.ap .lt [(.ap (.usr 265) [asg]),(.ap (.usr 265) [(.var 9)])])),
 (((.ap .not [amm])::aml),(.ap (.usr 264) [asg,(.var 0),(.var 4)]))]
set_option maxRecDepth 100000 in
def bvv:List (List X×List (List X)):=[(((.ap .mall [agc,(.var 9)])::(.ap (.usr 264) [(.var 9),(.var 0),(.var 4)])::a7m),[[(.lit (.string (.mk (.mk []))))],[(I 0),(.lit (.bool false)),(.lit (.string (.mk (.mk [])))),(.lit (.int .u8 0))],[(.lit (.bool false))]]),
 (((.ap .not [(.ap .eq [(.var 0),(I 7)])])::amm::aml),[[(.ap (.cell 0) [agc,(.var 10)])],[(.ap (.cell 1) [agc,(.var 10)]),(.ap (.cell 2) [agc,(.var 10)]),(.ap (.cell 3) [agc,(.var 10)]),(.ap (.cell 4) [agc,(.var 10)])],[(.lit (.bool true))]]),
 ((azf::(.ap .eq [(.var 0),(I 7)])::amm::aml),[[(.ap (.cell 0) [agc,(.var 10)])],[(.ap (.cell 1) [agc,(.var 10)]),(.ap (.cell 2) [agc,(.var 10)]),(.ap (.cell 3) [agc,(.var 10)]),(.ap (.cell 4) [agc,(.var 10)])],[(.lit (.bool true))]])]
set_option maxRecDepth 100000 in
theorem bz1:runV Tryd.prog ⟨bk0,orvK Tryd.prog bk0 10 20 tb0 0,Tb.ent tb0,10,20,none,Go.Sx.keyOf 29⟩ ⟨afu [(2,lp29)],hintA []⟩ Tryd.f29 (acv Tryd.f29) bbs=some (bvw,bvv):=by kernel_rfl
theorem byc{a b:CD}{i:Int}(h1:¬ eqC ((CD.sl false frmR).cell i 2) b=true)(h7:eqC a (vInt .i64 7)=true)(h0:0≤i)(hi:i<(frmR.length:Int))(hA:Typ sI a)(hB:Typ .bool b):fits a.iv b.bv (fr i.toNat)=false:=by
 rw [ah7 h0 hi,a8q hB] at h1
 have h1:¬ eqC (aav (fr i.toNat).2.2.1) (aav b.bv)=true:=h1
 rw [bcd] at h1
 rw [ae0 hA,ad3] at h7
 unfold fits
 rw [h7,show((fr i.toNat).2.2.1==b.bv)=false from by simpa using h1]
 simp
theorem byb{a b:CD}{i:Int}(h1:¬ eqC ((CD.sl false frmR).cell i 1) a=true)(h0:0≤i)(hi:i<(frmR.length:Int))(hA:Typ sI a):fits a.iv b.bv (fr i.toNat)=false:=by
 rw [ah7 h0 hi,ae0 hA] at h1
 have h1:¬ eqC (vInt .i64 (fr i.toNat).2.1) (vInt .i64 a.iv)=true:=h1
 rw [ad3] at h1
 unfold fits
 rw [decide_eq_false h1]
 rfl
theorem byd{a b:CD}{i:Int}(h1:eqC ((CD.sl false frmR).cell i 1) a=true)(h2:¬ eqC a (vInt .i64 7)=true∨eqC ((CD.sl false frmR).cell i 2) b=true)(h0:0≤i)(hi:i<(frmR.length:Int))(hA:Typ sI a)(hB:Typ .bool b):fits a.iv b.bv (fr i.toNat)=true:=by
 rw [ah7 h0 hi,ae0 hA] at h1
 have h1:eqC (vInt .i64 (fr i.toNat).2.1) (vInt .i64 a.iv)=true:=h1
 rw [ad3] at h1
 unfold fits
 rw [decide_eq_true h1,Bool.true_and]
 rcases h2 with h2 | h2
 ·rw [ae0 hA,ad3] at h2
  rw [decide_eq_false h2]
  rfl
 ·rw [ah7 h0 hi,a8q hB] at h2
  have h2:eqC (aav (fr i.toNat).2.2.1) (aav b.bv)=true:=h2
  rw [bcd] at h2
  rw [h2]
  simp
theorem nf_s{s:CD}{i k:Int}{is:Bool}(hf:fits k is (fr i.toNat)=false)(h0:0≤i)(hi:i<(frmR.length:Int))(h:af5 s.rows k is=true):af5 (s.rows++[[(CD.sl false frmR).cell i 5]]) k is=true:=by
 rw [ah7 h0 hi]
 exact bub hf h
theorem b0o{s:CD}{i:Int}(h0:0≤i)(hi:i<(frmR.length:Int))(hn:¬ mIn ((CD.sl false frmR).cell i 5) s.rows=true):(anw (s.rows++[[(CD.sl false frmR).cell i 5]]):Int)<anw s.rows:=by
 rw [ah7 h0 hi] at hn ⊢
 have:=brg (s:=s.rows) (i:=i.toNat) (by rw [a97] at hi;omega) hn
 have e:(bck (fr i.toNat) i.toNat).getD 5 default=vInt .i64 (i.toNat:Nat):=rfl
 rw [e]
 omega
theorem b2a{k:Int}{is:Bool}(h:afj k is=none):[[tx (frow k is).1],[vInt .i64 (frow k is).2.1,aav (frow k is).2.2.1,tx (frow k is).2.2.2.1,vInt .u8 (frow k is).2.2.2.2],[aav (afj k is).isSome]]=[[CD.v (.string ⟨⟨[]⟩⟩)],[vInt .i64 0,aav false,CD.v (.string ⟨⟨[]⟩⟩),vInt .u8 0],[aav false]]:=by
 unfold frow
 rw [h]
 rfl
theorem bzj{k i:Int}{is:Bool}(h0:0≤i)(hi:i<(frmR.length:Int))(hf:fits k is (fr i.toNat)=true):[[tx (frow k is).1],[vInt .i64 (frow k is).2.1,aav (frow k is).2.2.1,tx (frow k is).2.2.2.1,vInt .u8 (frow k is).2.2.2.2],[aav (afj k is).isSome]]=[[(CD.sl false frmR).cell i 0],[(CD.sl false frmR).cell i 1,(CD.sl false frmR).cell i 2,(CD.sl false frmR).cell i 3,(CD.sl false frmR).cell i 4],[aav true]]:=by
 unfold frow
 rw [bw2 (by rw [a97] at hi;omega) hf,ah7 h0 hi,ah7 h0 hi,ah7 h0 hi,ah7 h0 hi,ah7 h0 hi]
 rfl
set_option maxHeartbeats 1000000 in
set_option maxRecDepth 100000 in
theorem b2w:abk U Tryd.prog 29 bbs:=by
 refine afr (P:=Tryd.prog) (U:=U) (f:=29) (fn:=Tryd.f29) (c:=acv Tryd.f29) (S:=bbs) (v:=bvw) (outs:=bvv) (hs:=⟨afu [(2,lp29)],hintA []⟩) (cx:=⟨bk0,orvK Tryd.prog bk0 10 20 tb0 0,Tb.ent tb0,10,20,none,Go.Sx.keyOf 29⟩) mixed ⟨bdm,anb (fuel:=10) (fk:=20) mixed bdm htb0 0,htb0.ent⟩ rfl (ag3 (by kernel_rfl)) at29.at' at29.body at29.call at29.flow bz1 ?_ ?_
 ·unfold bvw
  repeat' (first | exact ae1 _ | refine ae3 (fun v hh=>?_) ?_)
  all_goals
   simp only [aay,aa5,aax,aa4,aa3,abr,abf,aam,w_wr,b_lt,b_le,b_eq,aaz,abl,b_or,aa1,aaj,aag,abp,abd,aal,aan,aa2,w_mk,aao,aa9,abo,abj,abg,aa6,aa8,abq,aa0,aau,abe,w_l0,w_l1,aaf,aae,aaw,aac,aad,aak,aai,aaq,aar,aas,aap,abn,abm,aat,abh,w_eq,bgq,a8v,bgr,bgs,bgt,aw7,bgu,a3v,a3w,bbh,bgv,bgw,bgx,bgy,bgz,bg0,bg1,aw8,a3x,a3y,a3z,a4a,a8w,a8x,a8y,a8z,a81,a88,a9a,a9b,a9c,a9d,a9e,aco,asz,a4b,a4c,a9f,a9g,aw9,a4d,a4e,a9h,a9i,bbj,bg2,bg3,aci,a4f,bg4,a4g,a4h,a4i,a4j,a4k,a4l,a4m,ax3,bbk,bbl,acs,acy,acz,acr,ahv,ahw,ahx,ahy,ahz,acu,a9j,acj,ac0,a4n,a9k,bg5,mnX,mxX,a7m,agc,amm,asg,azf,aml,aa7] at hh ⊢
   try exact nf_0 _ _
  all_goals
   have hA:Typ sI (v 0):=by simp only [hh]
   have hB:Typ .bool (v 4):=by simp only [hh]
   have h0:0≤(v 10).iv:=by simp only [hh]
   have hi:(v 10).iv<(frmR.length:Int):=by simp only [hh]
   first
   | exact Int.natCast_nonneg _
   | exact b0o h0 hi hh.2.2.2.2.2.1
   | exact b0o h0 hi hh.2.2.2.1
   | exact nf_s (byc hh.1 hh.2.1 h0 hi hA hB) h0 hi hh.2.2.2.2.2.2.1
   | exact nf_s (byb hh.1 h0 hi hA) h0 hi hh.2.2.2.2.1
 ·intro o ho σ hU hh
  obtain⟨v⟩:=σ
  cases hU
  simp only [bvv,List.mem_cons,List.not_mem_nil,or_false] at ho
  rcases ho with rfl | rfl | rfl
  all_goals
   refine⟨_,List.mem_cons_self ..,by simp only [aay,aa5,aax,aa4,aa3,abr,abf,aam,w_wr,b_lt,b_le,b_eq,aaz,abl,b_or,aa1,aaj,aag,abp,abd,aal,aan,aa2,w_mk,aao,aa9,abo,abj,abg,aa6,aa8,abq,aa0,aau,abe,w_l0,w_l1,aaf,aae,aaw,aac,aad,aak,aai,aaq,aar,aas,aap,abn,abm,aat,abh],?_⟩
   simp only [aay,aa5,aax,aa4,aa3,abr,abf,aam,w_wr,b_lt,b_le,b_eq,aaz,abl,b_or,aa1,aaj,aag,abp,abd,aal,aan,aa2,w_mk,aao,aa9,abo,abj,abg,aa6,aa8,abq,aa0,aau,abe,w_l0,w_l1,aaf,aae,aaw,aac,aad,aak,aai,aaq,aar,aas,aap,abn,abm,aat,abh,w_eq,bgq,a8v,bgr,bgs,bgt,aw7,bgu,a3v,a3w,bbh,bgv,bgw,bgx,bgy,bgz,bg0,bg1,aw8,a3x,a3y,a3z,a4a,a8w,a8x,a8y,a8z,a81,a88,a9a,a9b,a9c,a9d,a9e,aco,asz,a4b,a4c,a9f,a9g,aw9,a4d,a4e,a9h,a9i,bbj,bg2,bg3,aci,a4f,bg4,a4g,a4h,a4i,a4j,a4k,a4l,a4m,ax3,bbk,bbl,acs,acy,acz,acr,ahv,ahw,ahx,ahy,ahz,acu,a9j,acj,ac0,a4n,a9k,bg5,mnX,mxX,a7m,agc,amm,asg,azf,aml,aa7] at hh
   simp only [List.map_cons,List.map_nil,aay,aa5,aax,aa4,aa3,abr,abf,aam,w_wr,b_lt,b_le,b_eq,aaz,abl,b_or,aa1,aaj,aag,abp,abd,aal,aan,aa2,w_mk,aao,aa9,abo,abj,abg,aa6,aa8,abq,aa0,aau,abe,w_l0,w_l1,aaf,aae,aaw,aac,aad,aak,aai,aaq,aar,aas,aap,abn,abm,aat,abh,w_lt,w_le,w_eq,ao0,as0,w_or,akp,aiw,ao1,bgq,a8v,bgr,bgs,bgt,aw7,bgu,a3v,a3w,bbh,bgv,bgw,bgx,bgy,bgz,bg0,bg1,aw8,a3x,a3y,a3z,a4a,a8w,a8x,a8y,a8z,a81,a88,a9a,a9b,a9c,a9d,a9e,aco,asz,a4b,a4c,a9f,a9g,aw9,a4d,a4e,a9h,a9i,bbj,bg2,bg3,aci,a4f,bg4,a4g,a4h,a4i,a4j,a4k,a4l,a4m,ax3,bbk,bbl,acs,acy,acz,acr,ahv,ahw,ahx,ahy,ahz,acu,a9j,acj,ac0,a4n,a9k,bg5,mnX,mxX,aa7,abx]
   have hA:Typ sI (v 0):=by simp only [hh]
   have hB:Typ .bool (v 4):=by simp only [hh]
  ·exact b2a (brj hh.2.1 hh.1)
  ·exact bzj hh.2.2.1 hh.2.2.2.1 (byd hh.2.1 (.inl hh.1) hh.2.2.1 hh.2.2.2.1 hA hB)
  ·exact bzj hh.2.2.2.1 hh.2.2.2.2.1 (byd hh.2.2.1 (.inr hh.1) hh.2.2.2.1 hh.2.2.2.2.1 hA hB)
end Go.Proofs.YtamhchkknlbanaaDoor.Be

namespace Go.Proofs.YtamhchkknlbanaaDoor.Be
open Go.Sx Go.Proofs
abbrev sYs:Srt:=.sl [.int .u8]
abbrev sOs:Srt:=.sl [.bool]
noncomputable def bbq:Fsp:=⟨[(false,[sOs])],[.ap .le [.ap .len [.var 0],I 2500]],[(false,[.str])],[([],[[.ap (.usr 300) [.var 0]]])],true⟩
noncomputable def lp32:Lp:=⟨[(.slot 3,.own false [.int .u8]),(.slot 11,.int .i64)],[0,2,9,10],[],fun F H k=>[.ap .le [zI,.var (k+2)],.ap .le [.var (k+2),.ap .len [.var 0]],.ap .le [.var k,.ap .len [.var 0]],.ap .le [.ap .len [.var 0],.var k],.ap .same [.ap (.mk false) [.var (k+1)],.ap (.usr 302) [.var 0,.var (k+2)]]],fun F H k=>.ap (.sub .i64) [.ap .len [.var 0],.var (k+2)]⟩
abbrev alh:X:=(.ap .len [(.var 0)])
abbrev a7n:List X:=[(.ap .le [(I 0),(.var 3)]),(.ap .le [(.var 3),alh]),(.ap .le [(.var 1),alh]),(.ap .le [alh,(.var 1)]),(.ap .same [(.ap (.mk false) [(.var 2)]),(.ap (.usr 302) [(.var 0),(.var 3)])]),(.ap (.typ (.sl [.bool])) [(.var 0)]),(.ap .le [alh,(I 2500)])]
set_option maxRecDepth 100000 in
def bvy:List VC:=[([(.ap (.typ (.sl [.bool])) [(.var 0)]),(.ap .le [alh,(I 2500)])],(.ap .same [(.ap (.mk false) [(.ap .rep [alh,(.lit (.int .u8 0))])]),(.ap (.usr 302) [(.var 0),(I 0)])])),
 (((.ap (.cell 0) [(.var 0),(.var 3)])::(.ap .lt [(.var 3),alh])::a7n),(.ap .same [(.ap (.mk false) [(.ap (.upd 0) [(.ap (.upd 0) [(.var 2),(.var 3),(.lit (.int .u8 48))]),(.var 3),(.lit (.int .u8 49))])]),(.ap (.usr 302) [(.var 0),(.ap (.add .i64) [(.var 3),(I 1)])])])),
 (((.ap .not [(.ap (.cell 0) [(.var 0),(.var 3)])])::(.ap .lt [(.var 3),alh])::a7n),(.ap .same [(.ap (.mk false) [(.ap (.upd 0) [(.var 2),(.var 3),(.lit (.int .u8 48))])]),(.ap (.usr 302) [(.var 0),(.ap (.add .i64) [(.var 3),(I 1)])])]))]
set_option maxRecDepth 100000 in
def bvx:List (List X×List (List X)):=[(((.ap .not [(.ap .lt [(.var 3),alh])])::a7n),[[(.ap .str [(.var 2)])]])]
set_option maxRecDepth 100000 in
theorem bz2:runS Tryd.prog (ahj T0) 10 20 ⟨afu [(3,lp32)],hintA []⟩ Tryd.f32 (acv Tryd.f32) bbq=some (bvy,bvx):=by kernel_rfl
def mkP(r:List (List CD))(i:Nat):List (List CD):=(markT (r.take i)++List.replicate (r.length - i) 0).map ab9
theorem bc8(r:List (List CD)):(markT r).length=r.length:=by
 unfold markT
 rw [List.length_map]
theorem bpp{α:Type}{f:α→α}{x:α}{r:List α}:∀ (p:List α),(p++x::r).modify p.length f=p++f x::r
 | []=>rfl
 | a::p=>by
  show a::(p++x::r).modify p.length f=_
  rw [bpp p]
  rfl
theorem mk_0(r:List (List CD)):List.replicate r.length [vInt .u8 0]=mkP r 0:=by
 unfold mkP
 rw [List.take_zero,Nat.sub_zero,show markT []=[] from rfl,List.nil_append,List.map_replicate]
 rfl
theorem bsk{r:List (List CD)}{i:Nat}(h:i<r.length):mkP r i=(markT (r.take i)).map ab9++ab9 0::(List.replicate (r.length - (i+1)) 0).map ab9∧((markT (r.take i)).map ab9).length=i:=by
 constructor
 ·unfold mkP
  rw [show r.length - i=(r.length - (i+1))+1 by omega,List.replicate_succ,List.map_append,List.map_cons]
 ·rw [List.length_map,bc8,List.length_take]
  omega
theorem bsl{r:List (List CD)}{i:Nat}(h:i<r.length){b:UInt8}(hb:b=if((r.getD i []).getD 0 default).bv=true then 49 else 48):(markT (r.take i)).map ab9++ab9 b::(List.replicate (r.length - (i+1)) 0).map ab9=mkP r (i+1):=by
 unfold mkP
 have e:markT (r.take (i+1))=markT (r.take i)++[b]:=by
  have e0:r.getD i []=r[i]:=by
   rw [List.getD_eq_getElem?_getD,List.getElem?_eq_getElem h]
   rfl
  unfold markT
  rw [List.take_add_one,List.getElem?_eq_getElem h,List.map_append,hb,e0]
  rfl
 rw [e,List.map_append,List.map_append,List.append_assoc]
 rfl
theorem mk_1{r:List (List CD)}{i:Nat}(h:i<r.length)(hb:((r.getD i []).getD 0 default).bv=true):setCell (setCell (mkP r i) i 0 (vInt .u8 48)) i 0 (vInt .u8 49)=mkP r (i+1):=by
 obtain⟨h1,h2⟩:=bsk h
 rw [h1]
 unfold setCell
 have e1:=bpp (f:=fun q=>q.set 0 (vInt .u8 48)) (x:=ab9 0) (r:=(List.replicate (r.length - (i+1)) 0).map ab9) ((markT (r.take i)).map ab9)
 rw [h2] at e1
 rw [e1]
 have e2:=bpp (f:=fun q=>q.set 0 (vInt .u8 49)) (x:=(ab9 0).set 0 (vInt .u8 48)) (r:=(List.replicate (r.length - (i+1)) 0).map ab9) ((markT (r.take i)).map ab9)
 rw [h2] at e2
 rw [e2]
 exact bsl (b:=49) h (by rw [if_pos hb])
theorem mk_2{r:List (List CD)}{i:Nat}(h:i<r.length)(hb:¬ ((r.getD i []).getD 0 default).bv=true):setCell (mkP r i) i 0 (vInt .u8 48)=mkP r (i+1):=by
 obtain⟨h1,h2⟩:=bsk h
 rw [h1]
 unfold setCell
 have e1:=bpp (f:=fun q=>q.set 0 (vInt .u8 48)) (x:=ab9 0) (r:=(List.replicate (r.length - (i+1)) 0).map ab9) ((markT (r.take i)).map ab9)
 rw [h2] at e1
 rw [e1]
 exact bsl (b:=48) h (by rw [if_neg hb])
theorem bqs(b:UInt8):ada (ab9 b)=b:=by
 show UInt8.ofNat ((b.toNat:Int).toNat)=b
 rw [Int.toNat_natCast]
 simp
theorem by8{r:List (List CD)}{i:Nat}(h:r.length≤i):(mkP r i).map ada=markT r:=by
 unfold mkP
 rw [List.take_of_length_le h,show r.length - i=0 by omega,List.replicate_zero,List.append_nil,List.map_map]
 exact List.map_id'' (fun b=>bqs b) _
set_option maxHeartbeats 1000000 in
set_option maxRecDepth 100000 in
theorem b2z:abk U Tryd.prog 32 bbq:=by
 refine abk.of (P:=Tryd.prog) (U:=U) (T:=T0) (f:=32) (fn:=Tryd.f32) (fuel:=10) (fk:=20) (hs:=⟨afu [(3,lp32)],hintA []⟩) (S:=bbq) (v:=bvy) (outs:=bvx) mixed hT0 at32 bz2 ?_ ?_
 ·unfold bvy
  repeat' (first | exact ae1 _ | refine ae3 (fun v hh=>?_) ?_)
  all_goals
   simp only [aay,aa5,aax,aa4,aa3,abr,abf,aam,w_wr,b_lt,b_le,b_eq,aaz,abl,b_or,aa1,aaj,aag,abp,abd,aal,aan,aa2,w_mk,aao,aa9,abo,abj,abg,aa6,aa8,abq,aa0,aau,abe,w_l0,w_l1,aaf,aae,aaw,aac,aad,aak,aai,aaq,aar,aas,aap,abn,abm,aat,abh,w_eq,bgq,a8v,bgr,bgs,bgt,aw7,bgu,a3v,a3w,bbh,bgv,bgw,bgx,bgy,bgz,bg0,bg1,aw8,a3x,a3y,a3z,a4a,a8w,a8x,a8y,a8z,a81,a88,a9a,a9b,a9c,a9d,a9e,aco,asz,a4b,a4c,a9f,a9g,aw9,a4d,a4e,a9h,a9i,bbj,bg2,bg3,aci,a4f,bg4,a4g,a4h,a4i,a4j,a4k,a4l,a4m,ax3,bbk,bbl,acs,acy,acz,acr,ahv,ahw,ahx,ahy,ahz,acu,a9j,acj,ac0,a4n,a9k,bg5,mnX,mxX,a7n,alh,aa7] at hh ⊢
   have hT:Typ sOs (v 0):=by simp only [hh]
  ·rw [hT.sl.1]
   exact congrArg (CD.sl false) (mk_0 _)
  ·have hi:(v 3).iv<((v 0).len:Int):=hh.2.1
   rw [hT.sl.1] at hi
   have hr:(v 2).rows=mkP (v 0).rows (v 3).iv.toNat:=by
    have:=hh.2.2.2.2.2.2.1
    exact(CD.sl.inj this).2
   have h0:0≤(v 3).iv:=hh.2.2.1
   rw [hr,show((v 3).iv+1).toNat=(v 3).iv.toNat+1 by omega]
   exact congrArg (CD.sl false) (mk_1 (by omega) hh.1)
  ·have hi:(v 3).iv<((v 0).len:Int):=hh.2.1
   rw [hT.sl.1] at hi
   have hr:(v 2).rows=mkP (v 0).rows (v 3).iv.toNat:=by
    have:=hh.2.2.2.2.2.2.1
    exact(CD.sl.inj this).2
   have h0:0≤(v 3).iv:=hh.2.2.1
   rw [hr,show((v 3).iv+1).toNat=(v 3).iv.toNat+1 by omega]
   exact congrArg (CD.sl false) (mk_2 (by omega) hh.1)
 ·intro o ho σ hU hh
  obtain⟨v⟩:=σ
  cases hU
  simp only [bvx,List.mem_cons,List.not_mem_nil,or_false] at ho
  subst ho
  refine⟨_,List.mem_cons_self ..,by simp only [aay,aa5,aax,aa4,aa3,abr,abf,aam,w_wr,b_lt,b_le,b_eq,aaz,abl,b_or,aa1,aaj,aag,abp,abd,aal,aan,aa2,w_mk,aao,aa9,abo,abj,abg,aa6,aa8,abq,aa0,aau,abe,w_l0,w_l1,aaf,aae,aaw,aac,aad,aak,aai,aaq,aar,aas,aap,abn,abm,aat,abh],?_⟩
  simp only [aay,aa5,aax,aa4,aa3,abr,abf,aam,w_wr,b_lt,b_le,b_eq,aaz,abl,b_or,aa1,aaj,aag,abp,abd,aal,aan,aa2,w_mk,aao,aa9,abo,abj,abg,aa6,aa8,abq,aa0,aau,abe,w_l0,w_l1,aaf,aae,aaw,aac,aad,aak,aai,aaq,aar,aas,aap,abn,abm,aat,abh,w_eq,bgq,a8v,bgr,bgs,bgt,aw7,bgu,a3v,a3w,bbh,bgv,bgw,bgx,bgy,bgz,bg0,bg1,aw8,a3x,a3y,a3z,a4a,a8w,a8x,a8y,a8z,a81,a88,a9a,a9b,a9c,a9d,a9e,aco,asz,a4b,a4c,a9f,a9g,aw9,a4d,a4e,a9h,a9i,bbj,bg2,bg3,aci,a4f,bg4,a4g,a4h,a4i,a4j,a4k,a4l,a4m,ax3,bbk,bbl,acs,acy,acz,acr,ahv,ahw,ahx,ahy,ahz,acu,a9j,acj,ac0,a4n,a9k,bg5,mnX,mxX,a7n,alh,aa7] at hh
  simp only [List.map_cons,List.map_nil,aay,aa5,aax,aa4,aa3,abr,abf,aam,w_wr,b_lt,b_le,b_eq,aaz,abl,b_or,aa1,aaj,aag,abp,abd,aal,aan,aa2,w_mk,aao,aa9,abo,abj,abg,aa6,aa8,abq,aa0,aau,abe,w_l0,w_l1,aaf,aae,aaw,aac,aad,aak,aai,aaq,aar,aas,aap,abn,abm,aat,abh,w_lt,w_le,w_eq,ao0,as0,w_or,akp,aiw,ao1,bgq,a8v,bgr,bgs,bgt,aw7,bgu,a3v,a3w,bbh,bgv,bgw,bgx,bgy,bgz,bg0,bg1,aw8,a3x,a3y,a3z,a4a,a8w,a8x,a8y,a8z,a81,a88,a9a,a9b,a9c,a9d,a9e,aco,asz,a4b,a4c,a9f,a9g,aw9,a4d,a4e,a9h,a9i,bbj,bg2,bg3,aci,a4f,bg4,a4g,a4h,a4i,a4j,a4k,a4l,a4m,ax3,bbk,bbl,acs,acy,acz,acr,ahv,ahw,ahx,ahy,ahz,acu,a9j,acj,ac0,a4n,a9k,bg5,mnX,mxX,aa7,abx]
  have hT:Typ sOs (v 0):=by simp only [hh]
  have hi:¬ (v 3).iv<((v 0).len:Int):=hh.1
  rw [hT.sl.1] at hi
  have hr:(v 2).rows=mkP (v 0).rows (v 3).iv.toNat:=by
   have:=hh.2.2.2.2.2.1
   exact(CD.sl.inj this).2
  rw [hr,by8 (by omega)]
  rfl
end Go.Proofs.YtamhchkknlbanaaDoor.Be
