/-
  Contracts of a seat's functions: which tables may be. Conditions: none.
-/
import Derived.Test.YtlbbkmcegbeckaaSbA
set_option linter.unusedSectionVars false
set_option linter.unusedVariables false
set_option linter.unusedSimpArgs false
namespace Go.Proofs.Ytlbbkmcegbeckaa
open Go.Sx Go.Proofs
noncomputable def S52:Fsp:=⟨[(false,[.sl [.int .u8]])],[.ap .le [.ap .len [.var 0],.lit (.int .i64 200)]],[(false,[.sl [.int .u8]])],[([],[[.ap (.mk false) [.var 0]]])],true⟩
def dcv:List VC:=[]
def c9l:List (List X×List (List X)):=[([(.ap (.typ (.sl [(.int .u8)])) [(.var 0)]),(.ap .le [(.ap .len [(.var 0)]),(.lit (.int .i64 200))])],[[(.ap (.mk false) [(.ap (.mk false) [(.var 0)])])]])]
theorem dcu:runS Try.prog (b6d T0) 10 4 ⟨b4p [],hintA []⟩ Try.f52 (b4b Try.f52) S52=some (dcv,c9l):=by kernel_rfl
noncomputable def T1:List (FuncId×Fsp):=[(52,S52)]
noncomputable def S11:Fsp:=⟨[(true,sRun)],[.ap .le [.ap .len [.var 3],.lit (.int .i64 200)],.ap .le [.ap .len [.var 4],.lit (.int .i64 200)]],[(true,sRun)],[([],[[.var 0,.var 1,.var 2,.ap (.mk false) [.var 3],.ap (.mk false) [.var 4]]])],true⟩
def db7:List VC:=[]
def c8t:List (List X×List (List X)):=[([(.ap (.typ (.sl [(.int .u8)])) [(.ap (.mk false) [(.var 4)])]),(.ap (.typ (.sl [(.int .u8)])) [(.ap (.mk false) [(.var 3)])]),(.ap .le [(.lit (.int .i64 (-9223372036854775808))),(.var 0)]),(.ap .le [(.var 0),(.lit (.int .i64 9223372036854775807))]),(.ap .le [(.lit (.int .i64 (-9223372036854775808))),(.var 1)]),(.ap .le [(.var 1),(.lit (.int .i64 9223372036854775807))]),(.ap .le [(.lit (.int .i64 (-9223372036854775808))),(.var 2)]),(.ap .le [(.var 2),(.lit (.int .i64 9223372036854775807))]),(.ap (.typ (.sl [(.int .u8)])) [(.var 3)]),(.ap (.typ (.sl [(.int .u8)])) [(.var 4)]),(.ap .le [(.ap .len [(.var 3)]),(.lit (.int .i64 200))]),(.ap .le [(.ap .len [(.var 4)]),(.lit (.int .i64 200))])],[[(.var 0),(.var 1),(.var 2),(.ap (.mk false) [(.var 3)]),(.ap (.mk false) [(.var 4)])]])]
theorem db6:runS Try.prog (b6d (tab T1)) 10 4 ⟨b4p [],hintA []⟩ Try.f11 (b4b Try.f11) S11=some (db7,c8t):=by kernel_rfl
noncomputable def T2:List (FuncId×Fsp):=[(11,S11)]
noncomputable def lp27:Lp:=⟨[(.slot 3,.own true sRun),(.slot 4,.int .i64)],[0,2],[],fun F H k=>[.ap .le [zI,.var (k+2)],.ap .le [.var (k+2),.ap .len [.var 0]],.ap .le [.var k,.var (k+2)],.ap .le [.var (k+2),.var k],.ap .same [.ap (.mk true) [.var (k+1)],.ap (.usr 3) [.var 0,.var (k+2)]]],fun F H k=>.ap (.sub .i64) [.ap .len [.var 0],.var (k+2)]⟩
noncomputable def as27:Fm→HP→List X:=fun F H=>[.ap .le [.ap .len [.ap (.cell 3) [.var 0,sx F 4]],.lit (.int .i64 200)],.ap .le [.ap .len [.ap (.cell 4) [.var 0,sx F 4]],.lit (.int .i64 200)]]
noncomputable def S27:Fsp:=⟨[(false,[.sl sRun])],[.ap .le [.ap .len [.var 0],.lit (.int .i64 40)],.ap .not [.ap (.usr 0) [.var 0,.lit (.int .i64 40)]]],[(false,[.sl sRun])],[([],[[.ap (.usr 2) [.var 0]]])],true⟩
def dcp:List VC:=[([(.ap (.typ (.sl [(.int .i64),(.int .i64),(.int .i64),(.sl [(.int .u8)]),(.sl [(.int .u8)])])) [(.var 0)]),(.ap .le [(.ap .len [(.var 0)]),(.lit (.int .i64 40))]),(.ap .not [(.ap (.usr 0) [(.var 0),(.lit (.int .i64 40))])])],(.ap .same [(.ap (.mk true) [(.ap (.nil true) [])]),(.ap (.usr 3) [(.var 0),(.lit (.int .i64 0))])])),
 ([(.ap .lt [(.var 3),(.ap .len [(.var 0)])]),(.ap .le [(.lit (.int .i64 0)),(.var 3)]),(.ap .le [(.var 3),(.ap .len [(.var 0)])]),(.ap .le [(.var 1),(.var 3)]),(.ap .le [(.var 3),(.var 1)]),(.ap .same [(.ap (.mk true) [(.var 2)]),(.ap (.usr 3) [(.var 0),(.var 3)])]),(.ap (.typ (.sl [(.int .i64),(.int .i64),(.int .i64),(.sl [(.int .u8)]),(.sl [(.int .u8)])])) [(.var 0)]),(.ap .le [(.ap .len [(.var 0)]),(.lit (.int .i64 40))]),(.ap .not [(.ap (.usr 0) [(.var 0),(.lit (.int .i64 40))])])],(.ap .le [(.ap .len [(.ap (.cell 3) [(.var 0),(.var 3)])]),(.lit (.int .i64 200))])),
 ([(.ap .lt [(.var 3),(.ap .len [(.var 0)])]),(.ap .le [(.lit (.int .i64 0)),(.var 3)]),(.ap .le [(.var 3),(.ap .len [(.var 0)])]),(.ap .le [(.var 1),(.var 3)]),(.ap .le [(.var 3),(.var 1)]),(.ap .same [(.ap (.mk true) [(.var 2)]),(.ap (.usr 3) [(.var 0),(.var 3)])]),(.ap (.typ (.sl [(.int .i64),(.int .i64),(.int .i64),(.sl [(.int .u8)]),(.sl [(.int .u8)])])) [(.var 0)]),(.ap .le [(.ap .len [(.var 0)]),(.lit (.int .i64 40))]),(.ap .not [(.ap (.usr 0) [(.var 0),(.lit (.int .i64 40))])])],(.ap .le [(.ap .len [(.ap (.cell 4) [(.var 0),(.var 3)])]),(.lit (.int .i64 200))])),
 ([(.ap .le [(.lit (.int .i64 (-9223372036854775808))),(.ap (.cell 0) [(.var 0),(.var 3)])]),(.ap .le [(.ap (.cell 0) [(.var 0),(.var 3)]),(.lit (.int .i64 9223372036854775807))]),(.ap .le [(.lit (.int .i64 (-9223372036854775808))),(.ap (.cell 1) [(.var 0),(.var 3)])]),(.ap .le [(.ap (.cell 1) [(.var 0),(.var 3)]),(.lit (.int .i64 9223372036854775807))]),(.ap .le [(.lit (.int .i64 (-9223372036854775808))),(.ap (.cell 2) [(.var 0),(.var 3)])]),(.ap .le [(.ap (.cell 2) [(.var 0),(.var 3)]),(.lit (.int .i64 9223372036854775807))]),(.ap (.typ (.sl [(.int .u8)])) [(.ap (.mk false) [(.ap (.cell 3) [(.var 0),(.var 3)])])]),(.ap (.typ (.sl [(.int .u8)])) [(.ap (.mk false) [(.ap (.cell 4) [(.var 0),(.var 3)])])]),(.ap .le [(.ap .len [(.ap (.cell 3) [(.var 0),(.var 3)])]),(.lit (.int .i64 200))]),(.ap .le [(.ap .len [(.ap (.cell 4) [(.var 0),(.var 3)])]),(.lit (.int .i64 200))]),(.ap .lt [(.var 3),(.ap .len [(.var 0)])]),(.ap .le [(.lit (.int .i64 0)),(.var 3)]),(.ap .le [(.var 3),(.ap .len [(.var 0)])]),(.ap .le [(.var 1),(.var 3)]),(.ap .le [(.var 3),(.var 1)]),(.ap .same [(.ap (.mk true) [(.var 2)]),(.ap (.usr 3) [(.var 0),(.var 3)])]),(.ap (.typ (.sl [(.int .i64),(.int .i64),(.int .i64),(.sl [(.int .u8)]),(.sl [(.int .u8)])])) [(.var 0)]),(.ap .le [(.ap .len [(.var 0)]),(.lit (.int .i64 40))]),(.ap .not [(.ap (.usr 0) [(.var 0),(.lit (.int .i64 40))])])],(.ap .same [(.ap (.mk true) [(.ap .cat [(.var 2),(.ap .snoc [(.ap (.nil false) []),(.ap (.cell 0) [(.var 0),(.var 3)]),(.ap (.cell 1) [(.var 0),(.var 3)]),(.ap (.cell 2) [(.var 0),(.var 3)]),(.ap (.mk false) [(.ap (.cell 3) [(.var 0),(.var 3)])]),(.ap (.mk false) [(.ap (.cell 4) [(.var 0),(.var 3)])])])])]),(.ap (.usr 3) [(.var 0),(.ap (.add .i64) [(.var 3),(.lit (.int .i64 1))])])]))]
def c9f:List (List X×List (List X)):=[([(.ap .not [(.ap .lt [(.var 3),(.ap .len [(.var 0)])])]),(.ap .le [(.lit (.int .i64 0)),(.var 3)]),(.ap .le [(.var 3),(.ap .len [(.var 0)])]),(.ap .le [(.var 1),(.var 3)]),(.ap .le [(.var 3),(.var 1)]),(.ap .same [(.ap (.mk true) [(.var 2)]),(.ap (.usr 3) [(.var 0),(.var 3)])]),(.ap (.typ (.sl [(.int .i64),(.int .i64),(.int .i64),(.sl [(.int .u8)]),(.sl [(.int .u8)])])) [(.var 0)]),(.ap .le [(.ap .len [(.var 0)]),(.lit (.int .i64 40))]),(.ap .not [(.ap (.usr 0) [(.var 0),(.lit (.int .i64 40))])])],[[(.ap (.mk true) [(.var 2)])]])]
theorem dco:runS Try.prog (b6d (tab T2)) 10 4 ⟨b4p [(3,lp27)],hintA [(5,as27)]⟩ Try.f27 (b4b Try.f27) S27=some (dcp,c9f):=by kernel_rfl
theorem hT1':∀ f S,T0 f=some S→b3m U Try.prog f S:=fun f S h=>nomatch h
set_option maxRecDepth 100000 in
theorem c52:b3m U Try.prog 52 S52:=by
 refine b3m.of (P:=Try.prog) (U:=U) (T:=T0) (f:=52) (fn:=Try.f52) (fuel:=10) (fk:=4) (hs:=⟨b4p [],hintA []⟩) (S:=S52) (v:=dcv) (outs:=c9l) mixed hT1' at52 dcu (b44 _) ?_
 intro o ho σ hU hh
 simp only [c9l,List.mem_cons,List.not_mem_nil,or_false] at ho
 subst ho
 exact⟨_,List.mem_cons_self ..,by simp only [b3o,b3t,b3s,b3z,b4d,b40,b4l,b31,w_wr,b_lt,b_le,b_eq,b3w,b4s,b_or,b3y,b3p,b3i,b4x,b30,b33,b3k,b35,w_mk,b3l,b4e,b41,b4z,b4m,b4w,b4y,b3v,b3x,b4v,w_l0,w_l1,b3e,b3d,b3u,b3b,b3c,b3g,b3f],rfl⟩
set_option maxRecDepth 100000 in
theorem hT1:b70 U Try.prog T1:=.cons c52 .nil
set_option maxRecDepth 100000 in
theorem c11:b3m U Try.prog 11 S11:=by
 refine b3m.of (P:=Try.prog) (U:=U) (T:=tab T1) (f:=11) (fn:=Try.f11) (fuel:=10) (fk:=4) (hs:=⟨b4p [],hintA []⟩) (S:=S11) (v:=db7) (outs:=c8t) mixed hT1 at11 db6 (b44 _) ?_
 intro o ho σ hU hh
 simp only [c8t,List.mem_cons,List.not_mem_nil,or_false] at ho
 subst ho
 exact⟨_,List.mem_cons_self ..,by simp only [b3o,b3t,b3s,b3z,b4d,b40,b4l,b31,w_wr,b_lt,b_le,b_eq,b3w,b4s,b_or,b3y,b3p,b3i,b4x,b30,b33,b3k,b35,w_mk,b3l,b4e,b41,b4z,b4m,b4w,b4y,b3v,b3x,b4v,w_l0,w_l1,b3e,b3d,b3u,b3b,b3c,b3g,b3f],rfl⟩
set_option maxRecDepth 100000 in
theorem hT2:b70 U Try.prog T2:=.cons c11 .nil
theorem us3(a b:CD):@Us.u U 3 [a,b]=mkz ((a.rows.take b.iv.toNat).map b6s):=rfl
theorem us0(a b:CD):((@Us.u U 0 [a,b]).bv=true)=(b3q a b.iv=true):=rfl
theorem chl{r r':List (List CD)}:(CD.sl (true&&r.isEmpty) r=mkz r')=(r=r'):=by
 unfold mkz
 simp only [Bool.true_and,CD.sl.injEq,eq_iff_iff]
 exact⟨fun h=>h.2,fun h=>by rw [h];exact⟨rfl,rfl⟩⟩
theorem cit{l:CD}{k i:Int}(h:¬ b3q l k=true)(hl:l.len=l.rows.length)(h0:0≤i)(hi:i<l.len):((l.cell i 3).len:Int)≤200∧((l.cell i 4).len:Int)≤200:=by
 have hlt:i.toNat<l.rows.length:=by omega
 unfold b3q at h
 simp only [Bool.or_eq_true,decide_eq_true_eq,not_or,List.any_eq_true,not_exists,not_and] at h
 have:=h.2 _ (List.getElem_mem hlt)
 unfold b68 at this
 simp only [Bool.or_eq_true,decide_eq_true_eq,not_or] at this
 unfold CD.cell
 rw [show l.rows.getD i.toNat []=l.rows[i.toNat] by rw [List.getD_eq_getElem?_getD,List.getElem?_eq_getElem hlt];rfl]
 omega
set_option maxRecDepth 100000 in
theorem c27:b3m U Try.prog 27 S27:=by
 refine b3m.of (P:=Try.prog) (U:=U) (T:=tab T2) (f:=27) (fn:=Try.f27) (fuel:=10) (fk:=4) (hs:=⟨b4p [(3,lp27)],hintA [(5,as27)]⟩) (S:=S27) (v:=dcp) (outs:=c9f) mixed hT2 at27 dco ?_ ?_
 ·refine b3r (fun v hh=>?_) (b3r (fun v hh=>?_) (b3r (fun v hh=>?_) (b3r (fun v hh=>?_) (b44 _))))
  all_goals simp only [b3o,b3t,b3s,b3z,b4d,b40,b4l,b31,w_wr,b_lt,b_le,b_eq,b3w,b4s,b_or,b3y,b3p,b3i,b4x,b30,b33,b3k,b35,w_mk,b3l,b4e,b41,b4z,b4m,b4w,b4y,b3v,b3x,b4v,w_l0,w_l1,b3e,b3d,b3u,b3b,b3c,b3g,b3f] at hh ⊢
  ·rw [us3,chl];rfl
  ·obtain⟨h1,h2,h3,_,_,h4,hT,h5,h6,_⟩:=hh
   rw [us0] at h6
   exact(cit h6 hT.sl.1 h2 h1).1
  ·obtain⟨h1,h2,h3,_,_,h4,hT,h5,h6,_⟩:=hh
   rw [us0] at h6
   exact(cit h6 hT.sl.1 h2 h1).2
  ·obtain⟨_,_,_,_,_,_,_,_,_,_,h1,h2,h3,_,_,h4,hT,h5,h6,_⟩:=hh
   rw [us3,chl] at h4 ⊢
   rw [b3e,cc6 hT.sl.1 h2 h1,List.map_append,← h4]
   rfl
 ·intro o ho σ hU hh
  obtain⟨v⟩:=σ
  cases hU
  simp only [c9f,List.mem_cons,List.not_mem_nil,or_false] at ho
  subst ho
  refine⟨_,List.mem_cons_self ..,by simp only [b3o,b3t,b3s,b3z,b4d,b40,b4l,b31,w_wr,b_lt,b_le,b_eq,b3w,b4s,b_or,b3y,b3p,b3i,b4x,b30,b33,b3k,b35,w_mk,b3l,b4e,b41,b4z,b4m,b4w,b4y,b3v,b3x,b4v,w_l0,w_l1,b3e,b3d,b3u,b3b,b3c,b3g,b3f],?_⟩
  simp only [b3o,b3t,b3s,b3z,b4d,b40,b4l,b31,w_wr,b_lt,b_le,b_eq,b3w,b4s,b_or,b3y,b3p,b3i,b4x,b30,b33,b3k,b35,w_mk,b3l,b4e,b41,b4z,b4m,b4w,b4y,b3v,b3x,b4v,w_l0,w_l1,b3e,b3d,b3u,b3b,b3c,b3g,b3f] at hh
  simp only [List.map_cons,List.map_nil,b3o,b3t,b3s,b3z,b4d,b40,b4l,b31,w_wr,b_lt,b_le,b_eq,b3w,b4s,b_or,b3y,b3p,b3i,b4x,b30,b33,b3k,b35,w_mk,b3l,b4e,b41,b4z,b4m,b4w,b4y,b3v,b3x,b4v,w_l0,w_l1,b3e,b3d,b3u,b3b,b3c,b3g,b3f]
  obtain⟨h1,h2,h3,_,_,h4,hT,h5,h6,_⟩:=hh
  rw [us3,cc5 hT.sl.1 h1] at h4
  rw [h4]
  rfl
end Go.Proofs.Ytlbbkmcegbeckaa

namespace Go.Proofs.Ytlbbkmcegbeckaa
open Go.Sx Go.Proofs
abbrev sB:Srt:=.sl [.int .u8]
noncomputable def S101:Fsp:=⟨[(false,[sB]),(false,[sB])],[],[(false,[.bool])],[([],[[.ap (.usr 4) [.var 0,.var 1]]])],true⟩
def c6x:List VC:=[]
def c0f:List (List X×List (List X)):=[([(.ap (.typ (.sl [(.int .u8)])) [(.var 0)]),(.ap (.typ (.sl [(.int .u8)])) [(.var 1)])],[[(.ap .eq [(.ap .str [(.var 0)]),(.ap .str [(.var 1)])])]])]
theorem c8s:runS Try.prog (b6d T0) 10 4 ⟨b4p [],hintA []⟩ Try.f101 (b4b Try.f101) S101=some (c6x,c0f):=by kernel_rfl
noncomputable def T3:List (FuncId×Fsp):=[(101,S101)]
noncomputable def S58:Fsp:=⟨[(true,sRun),(true,sRun)],[],[(false,[.bool])],[([],[[.ap (.usr 5) [.var 0,.var 1,.var 2,.var 3,.var 4,.var 5,.var 6,.var 7,.var 8,.var 9]]])],true⟩
def dc2:List VC:=[]
def c9q:List (List X×List (List X)):=[([(.ap (.usr 4) [(.var 3),(.var 8)]),(.ap .eq [(.var 2),(.var 7)]),(.ap .and [(.ap .eq [(.var 0),(.var 5)]),(.ap .and [(.ap .eq [(.var 1),(.var 6)]),(.lit (.bool true))])]),(.ap .le [(.lit (.int .i64 (-9223372036854775808))),(.var 0)]),(.ap .le [(.var 0),(.lit (.int .i64 9223372036854775807))]),(.ap .le [(.lit (.int .i64 (-9223372036854775808))),(.var 1)]),(.ap .le [(.var 1),(.lit (.int .i64 9223372036854775807))]),(.ap .le [(.lit (.int .i64 (-9223372036854775808))),(.var 2)]),(.ap .le [(.var 2),(.lit (.int .i64 9223372036854775807))]),(.ap (.typ (.sl [(.int .u8)])) [(.var 3)]),(.ap (.typ (.sl [(.int .u8)])) [(.var 4)]),(.ap .le [(.lit (.int .i64 (-9223372036854775808))),(.var 5)]),(.ap .le [(.var 5),(.lit (.int .i64 9223372036854775807))]),(.ap .le [(.lit (.int .i64 (-9223372036854775808))),(.var 6)]),(.ap .le [(.var 6),(.lit (.int .i64 9223372036854775807))]),(.ap .le [(.lit (.int .i64 (-9223372036854775808))),(.var 7)]),(.ap .le [(.var 7),(.lit (.int .i64 9223372036854775807))]),(.ap (.typ (.sl [(.int .u8)])) [(.var 8)]),(.ap (.typ (.sl [(.int .u8)])) [(.var 9)])],[[(.ap (.usr 4) [(.var 4),(.var 9)])]]),
 ([(.ap .not [(.ap (.usr 4) [(.var 3),(.var 8)])]),(.ap .eq [(.var 2),(.var 7)]),(.ap .and [(.ap .eq [(.var 0),(.var 5)]),(.ap .and [(.ap .eq [(.var 1),(.var 6)]),(.lit (.bool true))])]),(.ap .le [(.lit (.int .i64 (-9223372036854775808))),(.var 0)]),(.ap .le [(.var 0),(.lit (.int .i64 9223372036854775807))]),(.ap .le [(.lit (.int .i64 (-9223372036854775808))),(.var 1)]),(.ap .le [(.var 1),(.lit (.int .i64 9223372036854775807))]),(.ap .le [(.lit (.int .i64 (-9223372036854775808))),(.var 2)]),(.ap .le [(.var 2),(.lit (.int .i64 9223372036854775807))]),(.ap (.typ (.sl [(.int .u8)])) [(.var 3)]),(.ap (.typ (.sl [(.int .u8)])) [(.var 4)]),(.ap .le [(.lit (.int .i64 (-9223372036854775808))),(.var 5)]),(.ap .le [(.var 5),(.lit (.int .i64 9223372036854775807))]),(.ap .le [(.lit (.int .i64 (-9223372036854775808))),(.var 6)]),(.ap .le [(.var 6),(.lit (.int .i64 9223372036854775807))]),(.ap .le [(.lit (.int .i64 (-9223372036854775808))),(.var 7)]),(.ap .le [(.var 7),(.lit (.int .i64 9223372036854775807))]),(.ap (.typ (.sl [(.int .u8)])) [(.var 8)]),(.ap (.typ (.sl [(.int .u8)])) [(.var 9)])],[[(.lit (.bool false))]]),
 ([(.ap .not [(.ap .eq [(.var 2),(.var 7)])]),(.ap .and [(.ap .eq [(.var 0),(.var 5)]),(.ap .and [(.ap .eq [(.var 1),(.var 6)]),(.lit (.bool true))])]),(.ap .le [(.lit (.int .i64 (-9223372036854775808))),(.var 0)]),(.ap .le [(.var 0),(.lit (.int .i64 9223372036854775807))]),(.ap .le [(.lit (.int .i64 (-9223372036854775808))),(.var 1)]),(.ap .le [(.var 1),(.lit (.int .i64 9223372036854775807))]),(.ap .le [(.lit (.int .i64 (-9223372036854775808))),(.var 2)]),(.ap .le [(.var 2),(.lit (.int .i64 9223372036854775807))]),(.ap (.typ (.sl [(.int .u8)])) [(.var 3)]),(.ap (.typ (.sl [(.int .u8)])) [(.var 4)]),(.ap .le [(.lit (.int .i64 (-9223372036854775808))),(.var 5)]),(.ap .le [(.var 5),(.lit (.int .i64 9223372036854775807))]),(.ap .le [(.lit (.int .i64 (-9223372036854775808))),(.var 6)]),(.ap .le [(.var 6),(.lit (.int .i64 9223372036854775807))]),(.ap .le [(.lit (.int .i64 (-9223372036854775808))),(.var 7)]),(.ap .le [(.var 7),(.lit (.int .i64 9223372036854775807))]),(.ap (.typ (.sl [(.int .u8)])) [(.var 8)]),(.ap (.typ (.sl [(.int .u8)])) [(.var 9)])],[[(.lit (.bool false))]]),
 ([(.ap .not [(.ap .and [(.ap .eq [(.var 0),(.var 5)]),(.ap .and [(.ap .eq [(.var 1),(.var 6)]),(.lit (.bool true))])])]),(.ap .le [(.lit (.int .i64 (-9223372036854775808))),(.var 0)]),(.ap .le [(.var 0),(.lit (.int .i64 9223372036854775807))]),(.ap .le [(.lit (.int .i64 (-9223372036854775808))),(.var 1)]),(.ap .le [(.var 1),(.lit (.int .i64 9223372036854775807))]),(.ap .le [(.lit (.int .i64 (-9223372036854775808))),(.var 2)]),(.ap .le [(.var 2),(.lit (.int .i64 9223372036854775807))]),(.ap (.typ (.sl [(.int .u8)])) [(.var 3)]),(.ap (.typ (.sl [(.int .u8)])) [(.var 4)]),(.ap .le [(.lit (.int .i64 (-9223372036854775808))),(.var 5)]),(.ap .le [(.var 5),(.lit (.int .i64 9223372036854775807))]),(.ap .le [(.lit (.int .i64 (-9223372036854775808))),(.var 6)]),(.ap .le [(.var 6),(.lit (.int .i64 9223372036854775807))]),(.ap .le [(.lit (.int .i64 (-9223372036854775808))),(.var 7)]),(.ap .le [(.var 7),(.lit (.int .i64 9223372036854775807))]),(.ap (.typ (.sl [(.int .u8)])) [(.var 8)]),(.ap (.typ (.sl [(.int .u8)])) [(.var 9)])],[[(.lit (.bool false))]])]
theorem dc1:runS Try.prog (b6d (tab T3)) 10 5 ⟨b4p [],hintA []⟩ Try.f58 (b4b Try.f58) S58=some (dc2,c9q):=by kernel_rfl
noncomputable def T4:List (FuncId×Fsp):=[(58,S58)]
noncomputable def lp19:Lp:=⟨[(.slot 5,.int .i64)],[0,1,4],[0,1],fun F H k=>[.ap .le [zI,.var k],.ap .le [.var k,.ap .len [.var 0]],.ap (.usr 7) [.var 0,.var 1,.var k]],fun F H k=>.ap (.sub .i64) [.ap .len [.var 0],.var k]⟩
noncomputable def S19:Fsp:=⟨[(false,[.sl sRun]),(false,[.sl sRun])],[],[(false,[.bool])],[([],[[.ap (.usr 6) [.var 0,.var 1]]])],true⟩
def dcj:List VC:=[([(.ap .eq [(.ap .len [(.var 0)]),(.ap .len [(.var 1)])]),(.ap (.typ (.sl [(.int .i64),(.int .i64),(.int .i64),(.sl [(.int .u8)]),(.sl [(.int .u8)])])) [(.var 0)]),(.ap (.typ (.sl [(.int .i64),(.int .i64),(.int .i64),(.sl [(.int .u8)]),(.sl [(.int .u8)])])) [(.var 1)])],(.ap (.usr 7) [(.var 0),(.var 1),(.lit (.int .i64 0))])),
 ([(.ap (.usr 5) [(.ap (.cell 0) [(.var 0),(.var 2)]),(.ap (.cell 1) [(.var 0),(.var 2)]),(.ap (.cell 2) [(.var 0),(.var 2)]),(.ap (.cell 3) [(.var 0),(.var 2)]),(.ap (.cell 4) [(.var 0),(.var 2)]),(.ap (.cell 0) [(.var 1),(.var 2)]),(.ap (.cell 1) [(.var 1),(.var 2)]),(.ap (.cell 2) [(.var 1),(.var 2)]),(.ap (.cell 3) [(.var 1),(.var 2)]),(.ap (.cell 4) [(.var 1),(.var 2)])]),(.ap .lt [(.var 2),(.ap .len [(.var 0)])]),(.ap .le [(.lit (.int .i64 0)),(.var 2)]),(.ap .le [(.var 2),(.ap .len [(.var 0)])]),(.ap (.usr 7) [(.var 0),(.var 1),(.var 2)]),(.ap .eq [(.ap .len [(.var 0)]),(.ap .len [(.var 1)])]),(.ap (.typ (.sl [(.int .i64),(.int .i64),(.int .i64),(.sl [(.int .u8)]),(.sl [(.int .u8)])])) [(.var 0)]),(.ap (.typ (.sl [(.int .i64),(.int .i64),(.int .i64),(.sl [(.int .u8)]),(.sl [(.int .u8)])])) [(.var 1)])],(.ap (.usr 7) [(.var 0),(.var 1),(.ap (.add .i64) [(.var 2),(.lit (.int .i64 1))])]))]
def c89:List (List X×List (List X)):=[([(.ap .not [(.ap .eq [(.ap .len [(.var 0)]),(.ap .len [(.var 1)])])]),(.ap (.typ (.sl [(.int .i64),(.int .i64),(.int .i64),(.sl [(.int .u8)]),(.sl [(.int .u8)])])) [(.var 0)]),(.ap (.typ (.sl [(.int .i64),(.int .i64),(.int .i64),(.sl [(.int .u8)]),(.sl [(.int .u8)])])) [(.var 1)])],[[(.lit (.bool false))]]),
 ([(.ap .not [(.ap (.usr 5) [(.ap (.cell 0) [(.var 0),(.var 2)]),(.ap (.cell 1) [(.var 0),(.var 2)]),(.ap (.cell 2) [(.var 0),(.var 2)]),(.ap (.cell 3) [(.var 0),(.var 2)]),(.ap (.cell 4) [(.var 0),(.var 2)]),(.ap (.cell 0) [(.var 1),(.var 2)]),(.ap (.cell 1) [(.var 1),(.var 2)]),(.ap (.cell 2) [(.var 1),(.var 2)]),(.ap (.cell 3) [(.var 1),(.var 2)]),(.ap (.cell 4) [(.var 1),(.var 2)])])]),(.ap .lt [(.var 2),(.ap .len [(.var 0)])]),(.ap .le [(.lit (.int .i64 0)),(.var 2)]),(.ap .le [(.var 2),(.ap .len [(.var 0)])]),(.ap (.usr 7) [(.var 0),(.var 1),(.var 2)]),(.ap .eq [(.ap .len [(.var 0)]),(.ap .len [(.var 1)])]),(.ap (.typ (.sl [(.int .i64),(.int .i64),(.int .i64),(.sl [(.int .u8)]),(.sl [(.int .u8)])])) [(.var 0)]),(.ap (.typ (.sl [(.int .i64),(.int .i64),(.int .i64),(.sl [(.int .u8)]),(.sl [(.int .u8)])])) [(.var 1)])],[[(.lit (.bool false))]]),
 ([(.ap .not [(.ap .lt [(.var 2),(.ap .len [(.var 0)])])]),(.ap .le [(.lit (.int .i64 0)),(.var 2)]),(.ap .le [(.var 2),(.ap .len [(.var 0)])]),(.ap (.usr 7) [(.var 0),(.var 1),(.var 2)]),(.ap .eq [(.ap .len [(.var 0)]),(.ap .len [(.var 1)])]),(.ap (.typ (.sl [(.int .i64),(.int .i64),(.int .i64),(.sl [(.int .u8)]),(.sl [(.int .u8)])])) [(.var 0)]),(.ap (.typ (.sl [(.int .i64),(.int .i64),(.int .i64),(.sl [(.int .u8)]),(.sl [(.int .u8)])])) [(.var 1)])],[[(.lit (.bool true))]])]
theorem dci:runS Try.prog (b6d (tab T4)) 10 4 ⟨b4p [(4,lp19)],hintA []⟩ Try.f19 (b4b Try.f19) S19=some (dcj,c89):=by kernel_rfl
noncomputable def T5:List (FuncId×Fsp):=[(19,S19)]
noncomputable def lp18:Lp:=⟨[(.slot 5,.int .i64)],[0,1,4],[0,1],fun F H k=>[.ap .le [zI,.var k],.ap .le [.var k,.ap .len [.var 0]],.ap (.usr 9) [.var 0,.var 1,.var k]],fun F H k=>.ap (.sub .i64) [.ap .len [.var 0],.var k]⟩
noncomputable def S18:Fsp:=⟨[(false,[.sl [.sl sRun]]),(false,[.sl [.sl sRun]])],[],[(false,[.bool])],[([],[[.ap (.usr 8) [.var 0,.var 1]]])],true⟩
def dch:List VC:=[([(.ap .eq [(.ap .len [(.var 0)]),(.ap .len [(.var 1)])]),(.ap (.typ (.sl [(.sl [(.int .i64),(.int .i64),(.int .i64),(.sl [(.int .u8)]),(.sl [(.int .u8)])])])) [(.var 0)]),(.ap (.typ (.sl [(.sl [(.int .i64),(.int .i64),(.int .i64),(.sl [(.int .u8)]),(.sl [(.int .u8)])])])) [(.var 1)])],(.ap (.usr 9) [(.var 0),(.var 1),(.lit (.int .i64 0))])),
 ([(.ap (.usr 6) [(.ap (.cell 0) [(.var 0),(.var 2)]),(.ap (.cell 0) [(.var 1),(.var 2)])]),(.ap .lt [(.var 2),(.ap .len [(.var 0)])]),(.ap .le [(.lit (.int .i64 0)),(.var 2)]),(.ap .le [(.var 2),(.ap .len [(.var 0)])]),(.ap (.usr 9) [(.var 0),(.var 1),(.var 2)]),(.ap .eq [(.ap .len [(.var 0)]),(.ap .len [(.var 1)])]),(.ap (.typ (.sl [(.sl [(.int .i64),(.int .i64),(.int .i64),(.sl [(.int .u8)]),(.sl [(.int .u8)])])])) [(.var 0)]),(.ap (.typ (.sl [(.sl [(.int .i64),(.int .i64),(.int .i64),(.sl [(.int .u8)]),(.sl [(.int .u8)])])])) [(.var 1)])],(.ap (.usr 9) [(.var 0),(.var 1),(.ap (.add .i64) [(.var 2),(.lit (.int .i64 1))])]))]
def c88:List (List X×List (List X)):=[([(.ap .not [(.ap .eq [(.ap .len [(.var 0)]),(.ap .len [(.var 1)])])]),(.ap (.typ (.sl [(.sl [(.int .i64),(.int .i64),(.int .i64),(.sl [(.int .u8)]),(.sl [(.int .u8)])])])) [(.var 0)]),(.ap (.typ (.sl [(.sl [(.int .i64),(.int .i64),(.int .i64),(.sl [(.int .u8)]),(.sl [(.int .u8)])])])) [(.var 1)])],[[(.lit (.bool false))]]),
 ([(.ap .not [(.ap (.usr 6) [(.ap (.cell 0) [(.var 0),(.var 2)]),(.ap (.cell 0) [(.var 1),(.var 2)])])]),(.ap .lt [(.var 2),(.ap .len [(.var 0)])]),(.ap .le [(.lit (.int .i64 0)),(.var 2)]),(.ap .le [(.var 2),(.ap .len [(.var 0)])]),(.ap (.usr 9) [(.var 0),(.var 1),(.var 2)]),(.ap .eq [(.ap .len [(.var 0)]),(.ap .len [(.var 1)])]),(.ap (.typ (.sl [(.sl [(.int .i64),(.int .i64),(.int .i64),(.sl [(.int .u8)]),(.sl [(.int .u8)])])])) [(.var 0)]),(.ap (.typ (.sl [(.sl [(.int .i64),(.int .i64),(.int .i64),(.sl [(.int .u8)]),(.sl [(.int .u8)])])])) [(.var 1)])],[[(.lit (.bool false))]]),
 ([(.ap .not [(.ap .lt [(.var 2),(.ap .len [(.var 0)])])]),(.ap .le [(.lit (.int .i64 0)),(.var 2)]),(.ap .le [(.var 2),(.ap .len [(.var 0)])]),(.ap (.usr 9) [(.var 0),(.var 1),(.var 2)]),(.ap .eq [(.ap .len [(.var 0)]),(.ap .len [(.var 1)])]),(.ap (.typ (.sl [(.sl [(.int .i64),(.int .i64),(.int .i64),(.sl [(.int .u8)]),(.sl [(.int .u8)])])])) [(.var 0)]),(.ap (.typ (.sl [(.sl [(.int .i64),(.int .i64),(.int .i64),(.sl [(.int .u8)]),(.sl [(.int .u8)])])])) [(.var 1)])],[[(.lit (.bool true))]])]
theorem dcg:runS Try.prog (b6d (tab T5)) 10 4 ⟨b4p [(4,lp18)],hintA []⟩ Try.f18 (b4b Try.f18) S18=some (dch,c88):=by kernel_rfl
section
variable [Sg]
theorem dbd(a b:X):den (.ap .eq [.ap .str [a],.ap .str [b]])=b34 (cbb (den a) (den b)):=by
 show b34 ((⟨((den a).rows.map b8a).toArray⟩:ByteArray).toList==(⟨((den b).rows.map b8a).toArray⟩:ByteArray).toList)=_
 rw [ByteArray.toList_eq,ByteArray.toList_eq]
 rfl
end
set_option maxRecDepth 100000 in
theorem c101:b3m U Try.prog 101 S101:=by
 refine b3m.of (P:=Try.prog) (U:=U) (T:=T0) (f:=101) (fn:=Try.f101) (fuel:=10) (fk:=4) (hs:=⟨b4p [],hintA []⟩) (S:=S101) (v:=c6x) (outs:=c0f) mixed hT1' ddw c8s (b44 _) ?_
 intro o ho σ hU hh
 obtain⟨v⟩:=σ
 cases hU
 simp only [c0f,List.mem_cons,List.not_mem_nil,or_false] at ho
 subst ho
 refine⟨_,List.mem_cons_self ..,by simp only [b3o,b3t,b3s,b3z,b4d,b40,b4l,b31,w_wr,b_lt,b_le,b_eq,b3w,b4s,b_or,b3y,b3p,b3i,b4x,b30,b33,b3k,b35,w_mk,b3l,b4e,b41,b4z,b4m,b4w,b4y,b3v,b3x,b4v,w_l0,w_l1,b3e,b3d,b3u,b3b,b3c,b3g,b3f],?_⟩
 simp only [List.map_cons,List.map_nil,w_l1,w_l0,dbd]
 rfl
set_option maxRecDepth 100000 in
theorem hT3:b70 U Try.prog T3:=.cons c101 .nil
theorem us4(a b:CD):((@Us.u U 4 [a,b]).bv=true)=(cbb a b=true):=rfl
theorem us5(a b c d e f g h i j:CD):@Us.u U 5 [a,b,c,d,e,f,g,h,i,j]=b34 (eqC a f&&eqC b g&&eqC c h&&cbb d i&&cbb e j):=rfl
set_option maxRecDepth 100000 in
theorem c58:b3m U Try.prog 58 S58:=by
 refine b3m.of (P:=Try.prog) (U:=U) (T:=tab T3) (f:=58) (fn:=Try.f58) (fuel:=10) (fk:=5) (hs:=⟨b4p [],hintA []⟩) (S:=S58) (v:=dc2) (outs:=c9q) mixed hT3 at58 dc1 (b44 _) ?_
 intro o ho σ hU hh
 obtain⟨v⟩:=σ
 cases hU
 simp only [c9q,List.mem_cons,List.not_mem_nil,or_false] at ho
 rcases ho with rfl | rfl | rfl | rfl
 all_goals
  refine⟨_,List.mem_cons_self ..,by simp only [b3o,b3t,b3s,b3z,b4d,b40,b4l,b31,w_wr,b_lt,b_le,b_eq,b3w,b4s,b_or,b3y,b3p,b3i,b4x,b30,b33,b3k,b35,w_mk,b3l,b4e,b41,b4z,b4m,b4w,b4y,b3v,b3x,b4v,w_l0,w_l1,b3e,b3d,b3u,b3b,b3c,b3g,b3f],?_⟩
  simp only [b3o,b3t,b3s,b3z,b4d,b40,b4l,b31,w_wr,b_lt,b_le,b_eq,b3w,b4s,b_or,b3y,b3p,b3i,b4x,b30,b33,b3k,b35,w_mk,b3l,b4e,b41,b4z,b4m,b4w,b4y,b3v,b3x,b4v,w_l0,w_l1,b3e,b3d,b3u,b3b,b3c,b3g,b3f,us4] at hh
  simp only [List.map_cons,List.map_nil,b3o,b3t,b3s,b3z,b4d,b40,b4l,b31,w_wr,b_lt,b_le,b_eq,b3w,b4s,b_or,b3y,b3p,b3i,b4x,b30,b33,b3k,b35,w_mk,b3l,b4e,b41,b4z,b4m,b4w,b4y,b3v,b3x,b4v,w_l0,w_l1,b3e,b3d,b3u,b3b,b3c,b3g,b3f,us5]
 ·obtain⟨h1,h2,⟨h3,h4,_⟩,_⟩:=hh
  rw [h1,h2,h3,h4]
  rfl
 ·obtain⟨h1,h2,⟨h3,h4,_⟩,_⟩:=hh
  rw [h2,h3,h4,Bool.eq_false_iff.2 h1]
  rfl
 ·obtain⟨h1,⟨h3,h4,_⟩,_⟩:=hh
  rw [h3,h4,Bool.eq_false_iff.2 h1]
  rfl
 ·obtain⟨h1,_⟩:=hh
  have:(eqC (v 0) (v 5)&&eqC (v 1) (v 6))=false:=by
   cases ha:eqC (v 0) (v 5)<;>cases hb:eqC (v 1) (v 6)<;>first | rfl | (exfalso;exact h1 ⟨ha,hb,trivial⟩) | (exfalso;apply h1;simp [ha,hb])
  rw [this]
  rfl
set_option maxRecDepth 100000 in
theorem hT4:b70 U Try.prog T4:=.cons c58 .nil
theorem us6(a b:CD):@Us.u U 6 [a,b]=b34 (allS b8p a.rows b.rows):=rfl
theorem us7(a b c:CD):((@Us.u U 7 [a,b,c]).bv=true)=(allS b8p (a.rows.take c.iv.toNat) (b.rows.take c.iv.toNat)=true):=rfl
theorem us8(a b:CD):@Us.u U 8 [a,b]=b34 (allS cby a.rows b.rows):=rfl
theorem us9(a b c:CD):((@Us.u U 9 [a,b,c]).bv=true)=(allS cby (a.rows.take c.iv.toNat) (b.rows.take c.iv.toNat)=true):=rfl
set_option maxRecDepth 100000 in
theorem c19:b3m U Try.prog 19 S19:=by
 refine b3m.of (P:=Try.prog) (U:=U) (T:=tab T4) (f:=19) (fn:=Try.f19) (fuel:=10) (fk:=4) (hs:=⟨b4p [(4,lp19)],hintA []⟩) (S:=S19) (v:=dcj) (outs:=c89) mixed hT4 at19 dci ?_ ?_
 ·refine b3r (fun v hh=>?_) (b3r (fun v hh=>?_) (b44 _))
  all_goals simp only [b3o,b3t,b3s,b3z,b4d,b40,b4l,b31,w_wr,b_lt,b_le,b_eq,b3w,b4s,b_or,b3y,b3p,b3i,b4x,b30,b33,b3k,b35,w_mk,b3l,b4e,b41,b4z,b4m,b4w,b4y,b3v,b3x,b4v,w_l0,w_l1,b3e,b3d,b3u,b3b,b3c,b3g,b3f,ctt,us5,us6,us7] at hh ⊢
  ·rfl
  ·obtain⟨h1,h2,h3,_,h4,h5,hT0,hT1,_⟩:=hh
   exact ddm (f:=b8p) hT0.sl.1 hT1.sl.1 h5 h3 h2 h4 h1
 ·intro o ho σ hU hh
  obtain⟨v⟩:=σ
  cases hU
  simp only [c89,List.mem_cons,List.not_mem_nil,or_false] at ho
  rcases ho with rfl | rfl | rfl
  all_goals
   refine⟨_,List.mem_cons_self ..,by simp only [b3o,b3t,b3s,b3z,b4d,b40,b4l,b31,w_wr,b_lt,b_le,b_eq,b3w,b4s,b_or,b3y,b3p,b3i,b4x,b30,b33,b3k,b35,w_mk,b3l,b4e,b41,b4z,b4m,b4w,b4y,b3v,b3x,b4v,w_l0,w_l1,b3e,b3d,b3u,b3b,b3c,b3g,b3f],?_⟩
   simp only [b3o,b3t,b3s,b3z,b4d,b40,b4l,b31,w_wr,b_lt,b_le,b_eq,b3w,b4s,b_or,b3y,b3p,b3i,b4x,b30,b33,b3k,b35,w_mk,b3l,b4e,b41,b4z,b4m,b4w,b4y,b3v,b3x,b4v,w_l0,w_l1,b3e,b3d,b3u,b3b,b3c,b3g,b3f,ctt,us5,us6,us7] at hh
   simp only [List.map_cons,List.map_nil,b3o,b3t,b3s,b3z,b4d,b40,b4l,b31,w_wr,b_lt,b_le,b_eq,b3w,b4s,b_or,b3y,b3p,b3i,b4x,b30,b33,b3k,b35,w_mk,b3l,b4e,b41,b4z,b4m,b4w,b4y,b3v,b3x,b4v,w_l0,w_l1,b3e,b3d,b3u,b3b,b3c,b3g,b3f,us5,us6,us7]
  ·obtain⟨h1,hT0,hT1,_⟩:=hh
   rw [lenS (f:=b8p) hT0.sl.1 hT1.sl.1 h1]
   rfl
  ·obtain⟨h1,h2,h3,_,h4,h5,hT0,hT1,_⟩:=hh
   rw [rowS (f:=b8p) hT0.sl.1 h3 h2 h1]
   rfl
  ·obtain⟨h2,h3,_,h4,h5,hT0,hT1,_⟩:=hh
   rw [da5 (f:=b8p) hT0.sl.1 hT1.sl.1 h5 h2 h4]
   rfl
set_option maxRecDepth 100000 in
theorem hT5:b70 U Try.prog T5:=.cons c19 .nil
set_option maxRecDepth 100000 in
theorem c18:b3m U Try.prog 18 S18:=by
 refine b3m.of (P:=Try.prog) (U:=U) (T:=tab T5) (f:=18) (fn:=Try.f18) (fuel:=10) (fk:=4) (hs:=⟨b4p [(4,lp18)],hintA []⟩) (S:=S18) (v:=dch) (outs:=c88) mixed hT5 at18 dcg ?_ ?_
 ·refine b3r (fun v hh=>?_) (b3r (fun v hh=>?_) (b44 _))
  all_goals simp only [b3o,b3t,b3s,b3z,b4d,b40,b4l,b31,w_wr,b_lt,b_le,b_eq,b3w,b4s,b_or,b3y,b3p,b3i,b4x,b30,b33,b3k,b35,w_mk,b3l,b4e,b41,b4z,b4m,b4w,b4y,b3v,b3x,b4v,w_l0,w_l1,b3e,b3d,b3u,b3b,b3c,b3g,b3f,ctt,us6,us8,us9] at hh ⊢
  ·rfl
  ·obtain⟨h1,h2,h3,_,h4,h5,hT0,hT1,_⟩:=hh
   exact ddm (f:=cby) hT0.sl.1 hT1.sl.1 h5 h3 h2 h4 h1
 ·intro o ho σ hU hh
  obtain⟨v⟩:=σ
  cases hU
  simp only [c88,List.mem_cons,List.not_mem_nil,or_false] at ho
  rcases ho with rfl | rfl | rfl
  all_goals
   refine⟨_,List.mem_cons_self ..,by simp only [b3o,b3t,b3s,b3z,b4d,b40,b4l,b31,w_wr,b_lt,b_le,b_eq,b3w,b4s,b_or,b3y,b3p,b3i,b4x,b30,b33,b3k,b35,w_mk,b3l,b4e,b41,b4z,b4m,b4w,b4y,b3v,b3x,b4v,w_l0,w_l1,b3e,b3d,b3u,b3b,b3c,b3g,b3f],?_⟩
   simp only [b3o,b3t,b3s,b3z,b4d,b40,b4l,b31,w_wr,b_lt,b_le,b_eq,b3w,b4s,b_or,b3y,b3p,b3i,b4x,b30,b33,b3k,b35,w_mk,b3l,b4e,b41,b4z,b4m,b4w,b4y,b3v,b3x,b4v,w_l0,w_l1,b3e,b3d,b3u,b3b,b3c,b3g,b3f,ctt,us6,us8,us9] at hh
   simp only [List.map_cons,List.map_nil,b3o,b3t,b3s,b3z,b4d,b40,b4l,b31,w_wr,b_lt,b_le,b_eq,b3w,b4s,b_or,b3y,b3p,b3i,b4x,b30,b33,b3k,b35,w_mk,b3l,b4e,b41,b4z,b4m,b4w,b4y,b3v,b3x,b4v,w_l0,w_l1,b3e,b3d,b3u,b3b,b3c,b3g,b3f,us6,us8,us9]
  ·obtain⟨h1,hT0,hT1,_⟩:=hh
   rw [lenS (f:=cby) hT0.sl.1 hT1.sl.1 h1]
   rfl
  ·obtain⟨h1,h2,h3,_,h4,h5,hT0,hT1,_⟩:=hh
   rw [rowS (f:=cby) hT0.sl.1 h3 h2 h1]
   rfl
  ·obtain⟨h2,h3,_,h4,h5,hT0,hT1,_⟩:=hh
   rw [da5 (f:=cby) hT0.sl.1 hT1.sl.1 h5 h2 h4]
   rfl
end Go.Proofs.Ytlbbkmcegbeckaa

namespace Go.Proofs.Ytlbbkmcegbeckaa
open Go.Sx Go.Proofs
abbrev sLev:Srt:=.sl [.sl sRun]
noncomputable def T6:List (FuncId×Fsp):=[(23,S23),(27,S27)]
noncomputable def lp8:Lp:=⟨[(.slot 5,.int .i64)],[0,1,4],[0],fun F H k=>[.ap .le [zI,.var k],.ap .le [.var k,.ap .len [.var 0]],.ap .not [.ap (.usr 13) [.var 0,.var 1,.var k]]],fun F H k=>.ap (.sub .i64) [.ap .len [.var 0],.var k]⟩
noncomputable def S8:Fsp:=⟨[(false,[sLev]),(false,[.int .i64])],[],[(false,[.bool])],[([],[[.ap (.usr 12) [.var 0,.var 1]]])],true⟩
def r8_v:List VC:=[([(.ap .not [(.ap .lt [(.lit (.int .i64 8)),(.ap .len [(.var 0)])])]),(.ap (.typ (.sl [(.sl [(.int .i64),(.int .i64),(.int .i64),(.sl [(.int .u8)]),(.sl [(.int .u8)])])])) [(.var 0)]),(.ap .le [(.lit (.int .i64 (-9223372036854775808))),(.var 1)]),(.ap .le [(.var 1),(.lit (.int .i64 9223372036854775807))])],(.ap .not [(.ap (.usr 13) [(.var 0),(.var 1),(.lit (.int .i64 0))])])),
 ([(.ap .not [(.ap (.usr 0) [(.ap (.cell 0) [(.var 0),(.var 2)]),(.var 1)])]),(.ap .lt [(.var 2),(.ap .len [(.var 0)])]),(.ap .le [(.lit (.int .i64 0)),(.var 2)]),(.ap .le [(.var 2),(.ap .len [(.var 0)])]),(.ap .not [(.ap (.usr 13) [(.var 0),(.var 1),(.var 2)])]),(.ap .not [(.ap .lt [(.lit (.int .i64 8)),(.ap .len [(.var 0)])])]),(.ap (.typ (.sl [(.sl [(.int .i64),(.int .i64),(.int .i64),(.sl [(.int .u8)]),(.sl [(.int .u8)])])])) [(.var 0)]),(.ap .le [(.lit (.int .i64 (-9223372036854775808))),(.var 1)]),(.ap .le [(.var 1),(.lit (.int .i64 9223372036854775807))])],(.ap .not [(.ap (.usr 13) [(.var 0),(.var 1),(.ap (.add .i64) [(.var 2),(.lit (.int .i64 1))])])]))]
def r8_o:List (List X×List (List X)):=[([(.ap .lt [(.lit (.int .i64 8)),(.ap .len [(.var 0)])]),(.ap (.typ (.sl [(.sl [(.int .i64),(.int .i64),(.int .i64),(.sl [(.int .u8)]),(.sl [(.int .u8)])])])) [(.var 0)]),(.ap .le [(.lit (.int .i64 (-9223372036854775808))),(.var 1)]),(.ap .le [(.var 1),(.lit (.int .i64 9223372036854775807))])],[[(.lit (.bool true))]]),
 ([(.ap (.usr 0) [(.ap (.cell 0) [(.var 0),(.var 2)]),(.var 1)]),(.ap .lt [(.var 2),(.ap .len [(.var 0)])]),(.ap .le [(.lit (.int .i64 0)),(.var 2)]),(.ap .le [(.var 2),(.ap .len [(.var 0)])]),(.ap .not [(.ap (.usr 13) [(.var 0),(.var 1),(.var 2)])]),(.ap .not [(.ap .lt [(.lit (.int .i64 8)),(.ap .len [(.var 0)])])]),(.ap (.typ (.sl [(.sl [(.int .i64),(.int .i64),(.int .i64),(.sl [(.int .u8)]),(.sl [(.int .u8)])])])) [(.var 0)]),(.ap .le [(.lit (.int .i64 (-9223372036854775808))),(.var 1)]),(.ap .le [(.var 1),(.lit (.int .i64 9223372036854775807))])],[[(.lit (.bool true))]]),
 ([(.ap .not [(.ap .lt [(.var 2),(.ap .len [(.var 0)])])]),(.ap .le [(.lit (.int .i64 0)),(.var 2)]),(.ap .le [(.var 2),(.ap .len [(.var 0)])]),(.ap .not [(.ap (.usr 13) [(.var 0),(.var 1),(.var 2)])]),(.ap .not [(.ap .lt [(.lit (.int .i64 8)),(.ap .len [(.var 0)])])]),(.ap (.typ (.sl [(.sl [(.int .i64),(.int .i64),(.int .i64),(.sl [(.int .u8)]),(.sl [(.int .u8)])])])) [(.var 0)]),(.ap .le [(.lit (.int .i64 (-9223372036854775808))),(.var 1)]),(.ap .le [(.var 1),(.lit (.int .i64 9223372036854775807))])],[[(.lit (.bool false))]])]
theorem deh:runS Try.prog (b6d (tab T6)) 10 4 ⟨b4p [(4,lp8)],hintA []⟩ Try.f8 (b4b Try.f8) S8=some (r8_v,r8_o):=by kernel_rfl
noncomputable def lp9:Lp:=⟨[(.slot 3,.own true [.sl sRun]),(.slot 4,.int .i64)],[0,2],[],fun F H k=>[.ap .le [zI,.var (k+2)],.ap .le [.var (k+2),.ap .len [.var 0]],.ap .le [.var k,.var (k+2)],.ap .le [.var (k+2),.var k],.ap .same [.ap (.mk true) [.var (k+1)],.ap (.usr 11) [.var 0,.var (k+2)]]],fun F H k=>.ap (.sub .i64) [.ap .len [.var 0],.var (k+2)]⟩
noncomputable def as9:Fm→HP→List X:=fun F H=>[.ap .le [.ap .len [.ap (.cell 0) [.var 0,sx F 4]],.lit (.int .i64 40)],.ap .not [.ap (.usr 0) [.ap (.cell 0) [.var 0,sx F 4],.lit (.int .i64 40)]]]
noncomputable def S9:Fsp:=⟨[(false,[sLev])],[.ap .le [.ap .len [.var 0],.lit (.int .i64 8)],.ap .not [.ap (.usr 12) [.var 0,.lit (.int .i64 40)]]],[(false,[sLev])],[([],[[.ap (.usr 10) [.var 0]]])],true⟩
def r9_v:List VC:=[([(.ap (.typ (.sl [(.sl [(.int .i64),(.int .i64),(.int .i64),(.sl [(.int .u8)]),(.sl [(.int .u8)])])])) [(.var 0)]),(.ap .le [(.ap .len [(.var 0)]),(.lit (.int .i64 8))]),(.ap .not [(.ap (.usr 12) [(.var 0),(.lit (.int .i64 40))])])],(.ap .same [(.ap (.mk true) [(.ap (.nil true) [])]),(.ap (.usr 11) [(.var 0),(.lit (.int .i64 0))])])),
 ([(.ap .lt [(.var 3),(.ap .len [(.var 0)])]),(.ap .le [(.lit (.int .i64 0)),(.var 3)]),(.ap .le [(.var 3),(.ap .len [(.var 0)])]),(.ap .le [(.var 1),(.var 3)]),(.ap .le [(.var 3),(.var 1)]),(.ap .same [(.ap (.mk true) [(.var 2)]),(.ap (.usr 11) [(.var 0),(.var 3)])]),(.ap (.typ (.sl [(.sl [(.int .i64),(.int .i64),(.int .i64),(.sl [(.int .u8)]),(.sl [(.int .u8)])])])) [(.var 0)]),(.ap .le [(.ap .len [(.var 0)]),(.lit (.int .i64 8))]),(.ap .not [(.ap (.usr 12) [(.var 0),(.lit (.int .i64 40))])])],(.ap .le [(.ap .len [(.ap (.cell 0) [(.var 0),(.var 3)])]),(.lit (.int .i64 40))])),
 ([(.ap .lt [(.var 3),(.ap .len [(.var 0)])]),(.ap .le [(.lit (.int .i64 0)),(.var 3)]),(.ap .le [(.var 3),(.ap .len [(.var 0)])]),(.ap .le [(.var 1),(.var 3)]),(.ap .le [(.var 3),(.var 1)]),(.ap .same [(.ap (.mk true) [(.var 2)]),(.ap (.usr 11) [(.var 0),(.var 3)])]),(.ap (.typ (.sl [(.sl [(.int .i64),(.int .i64),(.int .i64),(.sl [(.int .u8)]),(.sl [(.int .u8)])])])) [(.var 0)]),(.ap .le [(.ap .len [(.var 0)]),(.lit (.int .i64 8))]),(.ap .not [(.ap (.usr 12) [(.var 0),(.lit (.int .i64 40))])])],(.ap .not [(.ap (.usr 0) [(.ap (.cell 0) [(.var 0),(.var 3)]),(.lit (.int .i64 40))])])),
 ([(.ap (.typ (.sl [(.int .i64),(.int .i64),(.int .i64),(.sl [(.int .u8)]),(.sl [(.int .u8)])])) [(.ap (.usr 2) [(.ap (.cell 0) [(.var 0),(.var 3)])])]),(.ap .le [(.ap .len [(.ap (.cell 0) [(.var 0),(.var 3)])]),(.lit (.int .i64 40))]),(.ap .not [(.ap (.usr 0) [(.ap (.cell 0) [(.var 0),(.var 3)]),(.lit (.int .i64 40))])]),(.ap .lt [(.var 3),(.ap .len [(.var 0)])]),(.ap .le [(.lit (.int .i64 0)),(.var 3)]),(.ap .le [(.var 3),(.ap .len [(.var 0)])]),(.ap .le [(.var 1),(.var 3)]),(.ap .le [(.var 3),(.var 1)]),(.ap .same [(.ap (.mk true) [(.var 2)]),(.ap (.usr 11) [(.var 0),(.var 3)])]),(.ap (.typ (.sl [(.sl [(.int .i64),(.int .i64),(.int .i64),(.sl [(.int .u8)]),(.sl [(.int .u8)])])])) [(.var 0)]),(.ap .le [(.ap .len [(.var 0)]),(.lit (.int .i64 8))]),(.ap .not [(.ap (.usr 12) [(.var 0),(.lit (.int .i64 40))])])],(.ap .same [(.ap (.mk true) [(.ap .cat [(.var 2),(.ap .snoc [(.ap (.nil false) []),(.ap (.usr 2) [(.ap (.cell 0) [(.var 0),(.var 3)])])])])]),(.ap (.usr 11) [(.var 0),(.ap (.add .i64) [(.var 3),(.lit (.int .i64 1))])])]))]
def r9_o:List (List X×List (List X)):=[([(.ap .not [(.ap .lt [(.var 3),(.ap .len [(.var 0)])])]),(.ap .le [(.lit (.int .i64 0)),(.var 3)]),(.ap .le [(.var 3),(.ap .len [(.var 0)])]),(.ap .le [(.var 1),(.var 3)]),(.ap .le [(.var 3),(.var 1)]),(.ap .same [(.ap (.mk true) [(.var 2)]),(.ap (.usr 11) [(.var 0),(.var 3)])]),(.ap (.typ (.sl [(.sl [(.int .i64),(.int .i64),(.int .i64),(.sl [(.int .u8)]),(.sl [(.int .u8)])])])) [(.var 0)]),(.ap .le [(.ap .len [(.var 0)]),(.lit (.int .i64 8))]),(.ap .not [(.ap (.usr 12) [(.var 0),(.lit (.int .i64 40))])])],[[(.ap (.mk true) [(.var 2)])]])]
theorem dej:runS Try.prog (b6d (tab T6)) 10 4 ⟨b4p [(3,lp9)],hintA [(5,as9)]⟩ Try.f9 (b4b Try.f9) S9=some (r9_v,r9_o):=by kernel_rfl
theorem us11(a b:CD):@Us.u U 11 [a,b]=mkz ((a.rows.take b.iv.toNat).map fun r=>[cgq (at' r 0)]):=rfl
theorem us12(a b:CD):@Us.u U 12 [a,b]=b34 (b4a a b.iv):=rfl
theorem dem(a b:CD):((@Us.u U 12 [a,b]).bv=true)=(b4a a b.iv=true):=rfl
theorem us13(a b c:CD):((@Us.u U 13 [a,b,c]).bv=true)=((a.rows.take c.iv.toNat).any (fun r=>b3q (at' r 0) b.iv)=true):=rfl
set_option maxRecDepth 100000 in
theorem hT6:b70 U Try.prog T6:=.cons c23 (.cons c27 .nil)
set_option maxRecDepth 100000 in
theorem c8:b3m U Try.prog 8 S8:=by
 refine b3m.of (P:=Try.prog) (U:=U) (T:=tab T6) (f:=8) (fn:=Try.f8) (fuel:=10) (fk:=4) (hs:=⟨b4p [(4,lp8)],hintA []⟩) (S:=S8) (v:=r8_v) (outs:=r8_o) mixed hT6 at8 deh ?_ ?_
 ·refine b3r (fun v hh=>?_) (b3r (fun v hh=>?_) (b44 _))
  all_goals simp only [b3o,b3t,b3s,b3z,b4d,b40,b4l,b31,w_wr,b_lt,b_le,b_eq,b3w,b4s,b_or,b3y,b3p,b3i,b4x,b30,b33,b3k,b35,w_mk,b3l,b4e,b41,b4z,b4m,b4w,b4y,b3v,b3x,b4v,w_l0,w_l1,b3e,b3d,b3u,b3b,b3c,b3g,b3f,us13,us0] at hh ⊢
  ·simp
  ·obtain⟨h1,h2,h3,_,h4,h5,hT,_⟩:=hh
   have:=any_succ (f:=fun r=>b3q (at' r 0) (v 1).iv) h3 h2 (by simpa using h4) (Bool.eq_false_iff.2 h1)
   rw [this]
   simp
 ·intro o ho σ hU hh
  obtain⟨v⟩:=σ
  cases hU
  simp only [r8_o,List.mem_cons,List.not_mem_nil,or_false] at ho
  rcases ho with rfl | rfl | rfl
  all_goals
   refine⟨_,List.mem_cons_self ..,by simp only [b3o,b3t,b3s,b3z,b4d,b40,b4l,b31,w_wr,b_lt,b_le,b_eq,b3w,b4s,b_or,b3y,b3p,b3i,b4x,b30,b33,b3k,b35,w_mk,b3l,b4e,b41,b4z,b4m,b4w,b4y,b3v,b3x,b4v,w_l0,w_l1,b3e,b3d,b3u,b3b,b3c,b3g,b3f],?_⟩
   simp only [b3o,b3t,b3s,b3z,b4d,b40,b4l,b31,w_wr,b_lt,b_le,b_eq,b3w,b4s,b_or,b3y,b3p,b3i,b4x,b30,b33,b3k,b35,w_mk,b3l,b4e,b41,b4z,b4m,b4w,b4y,b3v,b3x,b4v,w_l0,w_l1,b3e,b3d,b3u,b3b,b3c,b3g,b3f,us13,us0] at hh
   simp only [List.map_cons,List.map_nil,b3o,b3t,b3s,b3z,b4d,b40,b4l,b31,w_wr,b_lt,b_le,b_eq,b3w,b4s,b_or,b3y,b3p,b3i,b4x,b30,b33,b3k,b35,w_mk,b3l,b4e,b41,b4z,b4m,b4w,b4y,b3v,b3x,b4v,w_l0,w_l1,b3e,b3d,b3u,b3b,b3c,b3g,b3f,us12]
  ·obtain⟨h1,_⟩:=hh
   have:b4a (v 0) (v 1).iv=true:=by
    unfold b4a
    rw [Bool.or_eq_true,decide_eq_true_eq]
    left;omega
   rw [this]
   rfl
  ·obtain⟨h1,h2,h3,_⟩:=hh
   have:b4a (v 0) (v 1).iv=true:=by
    rw [b4a,cro (f:=fun r=>b3q (at' r 0) (v 1).iv) h3 h2 h1,Bool.or_true]
   rw [this]
   rfl
  ·obtain⟨h2,h3,_,h4,h5,hT,_⟩:=hh
   have:b4a (v 0) (v 1).iv=false:=by
    rw [b4a,cxm (f:=fun r=>b3q (at' r 0) (v 1).iv) hT.sl.1 h2 (Bool.eq_false_iff.2 h4),Bool.or_false,decide_eq_false_iff_not]
    omega
   rw [this]
   rfl
theorem cis{l:CD}{k i:Int}(h:¬ b4a l k=true)(hl:l.len=l.rows.length)(h0:0≤i)(hi:i<l.len):¬ b3q (l.cell i 0) k=true:=by
 have hlt:i.toNat<l.rows.length:=by omega
 unfold b4a at h
 simp only [Bool.or_eq_true,decide_eq_true_eq,not_or,List.any_eq_true,not_exists,not_and] at h
 have:=h.2 _ (List.getElem_mem hlt)
 unfold CD.cell
 rw [show l.rows.getD i.toNat []=l.rows[i.toNat] by rw [List.getD_eq_getElem?_getD,List.getElem?_eq_getElem hlt];rfl]
 exact this
theorem cph{l:CD}{k:Int}(h:¬ b3q l k=true):(l.len:Int)≤k:=by
 unfold b3q at h
 simp only [Bool.or_eq_true,decide_eq_true_eq,not_or] at h
 omega
set_option maxRecDepth 100000 in
theorem c9:b3m U Try.prog 9 S9:=by
 refine b3m.of (P:=Try.prog) (U:=U) (T:=tab T6) (f:=9) (fn:=Try.f9) (fuel:=10) (fk:=4) (hs:=⟨b4p [(3,lp9)],hintA [(5,as9)]⟩) (S:=S9) (v:=r9_v) (outs:=r9_o) mixed hT6 at9 dej ?_ ?_
 ·refine b3r (fun v hh=>?_) (b3r (fun v hh=>?_) (b3r (fun v hh=>?_) (b3r (fun v hh=>?_) (b44 _))))
  all_goals simp only [b3o,b3t,b3s,b3z,b4d,b40,b4l,b31,w_wr,b_lt,b_le,b_eq,b3w,b4s,b_or,b3y,b3p,b3i,b4x,b30,b33,b3k,b35,w_mk,b3l,b4e,b41,b4z,b4m,b4w,b4y,b3v,b3x,b4v,w_l0,w_l1,b3e,b3d,b3u,b3b,b3c,b3g,b3f,us11,dem,us0] at hh ⊢
  ·rw [chl];rfl
  ·obtain⟨h1,h2,h3,_,_,h4,hT,h5,h6,_⟩:=hh
   exact cph (cis h6 hT.sl.1 h2 h1)
  ·obtain⟨h1,h2,h3,_,_,h4,hT,h5,h6,_⟩:=hh
   exact cis h6 hT.sl.1 h2 h1
  ·obtain⟨_,_,_,h1,h2,h3,_,_,h4,hT,h5,h6,_⟩:=hh
   rw [chl] at h4 ⊢
   rw [cc6 hT.sl.1 h2 h1,List.map_append,← h4]
   rfl
 ·intro o ho σ hU hh
  obtain⟨v⟩:=σ
  cases hU
  simp only [r9_o,List.mem_cons,List.not_mem_nil,or_false] at ho
  subst ho
  refine⟨_,List.mem_cons_self ..,by simp only [b3o,b3t,b3s,b3z,b4d,b40,b4l,b31,w_wr,b_lt,b_le,b_eq,b3w,b4s,b_or,b3y,b3p,b3i,b4x,b30,b33,b3k,b35,w_mk,b3l,b4e,b41,b4z,b4m,b4w,b4y,b3v,b3x,b4v,w_l0,w_l1,b3e,b3d,b3u,b3b,b3c,b3g,b3f],?_⟩
  simp only [b3o,b3t,b3s,b3z,b4d,b40,b4l,b31,w_wr,b_lt,b_le,b_eq,b3w,b4s,b_or,b3y,b3p,b3i,b4x,b30,b33,b3k,b35,w_mk,b3l,b4e,b41,b4z,b4m,b4w,b4y,b3v,b3x,b4v,w_l0,w_l1,b3e,b3d,b3u,b3b,b3c,b3g,b3f,us11] at hh
  simp only [List.map_cons,List.map_nil,b3o,b3t,b3s,b3z,b4d,b40,b4l,b31,w_wr,b_lt,b_le,b_eq,b3w,b4s,b_or,b3y,b3p,b3i,b4x,b30,b33,b3k,b35,w_mk,b3l,b4e,b41,b4z,b4m,b4w,b4y,b3v,b3x,b4v,w_l0,w_l1,b3e,b3d,b3u,b3b,b3c,b3g,b3f]
  obtain⟨h1,h2,h3,_,_,h4,hT,h5,h6,_⟩:=hh
  rw [cc5 hT.sl.1 h1] at h4
  rw [h4]
  rfl
end Go.Proofs.Ytlbbkmcegbeckaa

namespace Go.Proofs.Ytlbbkmcegbeckaa
open Go.Sx Go.Proofs
theorem us20(a b:CD):@Us.u U 20 [a,b]=vInt .i64 (Lib.compareBytes (byts a) (byts b)):=rfl
set_option maxRecDepth 100000 in
theorem c100:b3m U Try.prog 100 (cbd 20):=co0 us20 Try.func100 (by kernel_rfl) (by kernel_rfl) (by kernel_rfl) (by kernel_rfl)
noncomputable def T7:List (FuncId×Fsp):=[(100,cbd 20)]
def dcy:List VC:=[]
def c9o:List (List X×List (List X)):=[([(.ap .le [(.lit (.int .i64 (-9223372036854775808))),(.ap (.usr 20) [(.var 0),(.var 1)])]),(.ap .le [(.ap (.usr 20) [(.var 0),(.var 1)]),(.lit (.int .i64 9223372036854775807))]),(.ap .le [(.lit (.int .i64 (-1))),(.ap (.usr 20) [(.var 0),(.var 1)])]),(.ap .le [(.ap (.usr 20) [(.var 0),(.var 1)]),(.lit (.int .i64 1))]),(.ap (.typ (.sl [(.int .u8)])) [(.var 0)]),(.ap (.typ (.sl [(.int .u8)])) [(.var 1)])],[[(.ap (.usr 20) [(.var 0),(.var 1)])]])]
theorem dcx:runS Try.prog (b6d (tab T7)) 10 4 ⟨b4p [],hintA []⟩ Try.f56 (b4b Try.f56) (cbd 20)=some (dcy,c9o):=by kernel_rfl
noncomputable def T8:List (FuncId×Fsp):=[(56,cbd 20)]
noncomputable def S48:Fsp:=⟨[(true,sRun)],[],[(false,[.bool])],[([],[[.ap (.usr 21) [.var 0,.var 1,.var 2,.var 3,.var 4]]])],true⟩
def dcs:List VC:=[]
def c9i:List (List X×List (List X)):=[([(.ap .le [(.lit (.int .i64 (-9223372036854775808))),(.ap (.usr 20) [(.var 3),(.var 4)])]),(.ap .le [(.ap (.usr 20) [(.var 3),(.var 4)]),(.lit (.int .i64 9223372036854775807))]),(.ap .le [(.lit (.int .i64 (-1))),(.ap (.usr 20) [(.var 3),(.var 4)])]),(.ap .le [(.ap (.usr 20) [(.var 3),(.var 4)]),(.lit (.int .i64 1))]),(.ap .le [(.ap .len [(.var 4)]),(.lit (.int .i64 32))]),(.ap .le [(.lit (.int .i64 1)),(.ap .len [(.var 4)])]),(.ap .le [(.ap .len [(.var 3)]),(.lit (.int .i64 32))]),(.ap .le [(.lit (.int .i64 1)),(.ap .len [(.var 3)])]),(.ap .le [(.lit (.int .i64 1)),(.var 2)]),(.ap .le [(.lit (.int .i64 (-9223372036854775808))),(.var 0)]),(.ap .le [(.var 0),(.lit (.int .i64 9223372036854775807))]),(.ap .le [(.lit (.int .i64 (-9223372036854775808))),(.var 1)]),(.ap .le [(.var 1),(.lit (.int .i64 9223372036854775807))]),(.ap .le [(.lit (.int .i64 (-9223372036854775808))),(.var 2)]),(.ap .le [(.var 2),(.lit (.int .i64 9223372036854775807))]),(.ap (.typ (.sl [(.int .u8)])) [(.var 3)]),(.ap (.typ (.sl [(.int .u8)])) [(.var 4)])],[[(.ap .le [(.ap (.usr 20) [(.var 3),(.var 4)]),(.lit (.int .i64 0))])]]),
 ([(.ap .not [(.ap .le [(.ap .len [(.var 4)]),(.lit (.int .i64 32))])]),(.ap .le [(.lit (.int .i64 1)),(.ap .len [(.var 4)])]),(.ap .le [(.ap .len [(.var 3)]),(.lit (.int .i64 32))]),(.ap .le [(.lit (.int .i64 1)),(.ap .len [(.var 3)])]),(.ap .le [(.lit (.int .i64 1)),(.var 2)]),(.ap .le [(.lit (.int .i64 (-9223372036854775808))),(.var 0)]),(.ap .le [(.var 0),(.lit (.int .i64 9223372036854775807))]),(.ap .le [(.lit (.int .i64 (-9223372036854775808))),(.var 1)]),(.ap .le [(.var 1),(.lit (.int .i64 9223372036854775807))]),(.ap .le [(.lit (.int .i64 (-9223372036854775808))),(.var 2)]),(.ap .le [(.var 2),(.lit (.int .i64 9223372036854775807))]),(.ap (.typ (.sl [(.int .u8)])) [(.var 3)]),(.ap (.typ (.sl [(.int .u8)])) [(.var 4)])],[[(.lit (.bool false))]]),
 ([(.ap .not [(.ap .le [(.lit (.int .i64 1)),(.ap .len [(.var 4)])])]),(.ap .le [(.ap .len [(.var 3)]),(.lit (.int .i64 32))]),(.ap .le [(.lit (.int .i64 1)),(.ap .len [(.var 3)])]),(.ap .le [(.lit (.int .i64 1)),(.var 2)]),(.ap .le [(.lit (.int .i64 (-9223372036854775808))),(.var 0)]),(.ap .le [(.var 0),(.lit (.int .i64 9223372036854775807))]),(.ap .le [(.lit (.int .i64 (-9223372036854775808))),(.var 1)]),(.ap .le [(.var 1),(.lit (.int .i64 9223372036854775807))]),(.ap .le [(.lit (.int .i64 (-9223372036854775808))),(.var 2)]),(.ap .le [(.var 2),(.lit (.int .i64 9223372036854775807))]),(.ap (.typ (.sl [(.int .u8)])) [(.var 3)]),(.ap (.typ (.sl [(.int .u8)])) [(.var 4)])],[[(.lit (.bool false))]]),
 ([(.ap .not [(.ap .le [(.ap .len [(.var 3)]),(.lit (.int .i64 32))])]),(.ap .le [(.lit (.int .i64 1)),(.ap .len [(.var 3)])]),(.ap .le [(.lit (.int .i64 1)),(.var 2)]),(.ap .le [(.lit (.int .i64 (-9223372036854775808))),(.var 0)]),(.ap .le [(.var 0),(.lit (.int .i64 9223372036854775807))]),(.ap .le [(.lit (.int .i64 (-9223372036854775808))),(.var 1)]),(.ap .le [(.var 1),(.lit (.int .i64 9223372036854775807))]),(.ap .le [(.lit (.int .i64 (-9223372036854775808))),(.var 2)]),(.ap .le [(.var 2),(.lit (.int .i64 9223372036854775807))]),(.ap (.typ (.sl [(.int .u8)])) [(.var 3)]),(.ap (.typ (.sl [(.int .u8)])) [(.var 4)])],[[(.lit (.bool false))]]),
 ([(.ap .not [(.ap .le [(.lit (.int .i64 1)),(.ap .len [(.var 3)])])]),(.ap .le [(.lit (.int .i64 1)),(.var 2)]),(.ap .le [(.lit (.int .i64 (-9223372036854775808))),(.var 0)]),(.ap .le [(.var 0),(.lit (.int .i64 9223372036854775807))]),(.ap .le [(.lit (.int .i64 (-9223372036854775808))),(.var 1)]),(.ap .le [(.var 1),(.lit (.int .i64 9223372036854775807))]),(.ap .le [(.lit (.int .i64 (-9223372036854775808))),(.var 2)]),(.ap .le [(.var 2),(.lit (.int .i64 9223372036854775807))]),(.ap (.typ (.sl [(.int .u8)])) [(.var 3)]),(.ap (.typ (.sl [(.int .u8)])) [(.var 4)])],[[(.lit (.bool false))]]),
 ([(.ap .not [(.ap .le [(.lit (.int .i64 1)),(.var 2)])]),(.ap .le [(.lit (.int .i64 (-9223372036854775808))),(.var 0)]),(.ap .le [(.var 0),(.lit (.int .i64 9223372036854775807))]),(.ap .le [(.lit (.int .i64 (-9223372036854775808))),(.var 1)]),(.ap .le [(.var 1),(.lit (.int .i64 9223372036854775807))]),(.ap .le [(.lit (.int .i64 (-9223372036854775808))),(.var 2)]),(.ap .le [(.var 2),(.lit (.int .i64 9223372036854775807))]),(.ap (.typ (.sl [(.int .u8)])) [(.var 3)]),(.ap (.typ (.sl [(.int .u8)])) [(.var 4)])],[[(.lit (.bool false))]])]
theorem dcr:runS Try.prog (b6d (tab T8)) 10 8 ⟨b4p [],hintA []⟩ Try.f48 (b4b Try.f48) S48=some (dcs,c9i):=by kernel_rfl
set_option maxRecDepth 100000 in
theorem hT7:b70 U Try.prog T7:=.cons c100 .nil
set_option maxRecDepth 100000 in
theorem c56:b3m U Try.prog 56 (cbd 20):=by
 refine b3m.of (P:=Try.prog) (U:=U) (T:=tab T7) (f:=56) (fn:=Try.f56) (fuel:=10) (fk:=4) (hs:=⟨b4p [],hintA []⟩) (S:=cbd 20) (v:=dcy) (outs:=c9o) mixed hT7 at56 dcx (b44 _) ?_
 intro o ho σ hU hh
 obtain⟨v⟩:=σ
 cases hU
 simp only [c9o,List.mem_cons,List.not_mem_nil,or_false] at ho
 subst ho
 refine⟨_,List.mem_cons_self ..,?_,rfl⟩
 intro x hx
 refine hh x ?_
 simp only [List.mem_cons,List.not_mem_nil,or_false] at hx ⊢
 rcases hx with rfl | rfl<;>simp
theorem us21(a b c d e:CD):@Us.u U 21 [a,b,c,d,e]=b34 (b5s [a,b,c,d,e]):=rfl
set_option maxRecDepth 100000 in
theorem hT8:b70 U Try.prog T8:=.cons c56 .nil
set_option maxRecDepth 100000 in
theorem c48:b3m U Try.prog 48 S48:=by
 refine b3m.of (P:=Try.prog) (U:=U) (T:=tab T8) (f:=48) (fn:=Try.f48) (fuel:=10) (fk:=8) (hs:=⟨b4p [],hintA []⟩) (S:=S48) (v:=dcs) (outs:=c9i) mixed hT8 at48 dcr (b44 _) ?_
 intro o ho σ hU hh
 obtain⟨v⟩:=σ
 cases hU
 simp only [c9i,List.mem_cons,List.not_mem_nil,or_false] at ho
 have hm:b5s [v 0,v 1,v 2,v 3,v 4]=(decide (1≤(v 2).iv)&&decide (1≤(v 3).len)&&decide ((v 3).len≤32)&&decide (1≤(v 4).len)&&decide ((v 4).len≤32)&&decide (cmpC (v 3) (v 4)≤0)):=rfl
 rcases ho with rfl | rfl | rfl | rfl | rfl | rfl
 all_goals
  refine⟨_,List.mem_cons_self ..,by simp only [b3o,b3t,b3s,b3z,b4d,b40,b4l,b31,w_wr,b_lt,b_le,b_eq,b3w,b4s,b_or,b3y,b3p,b3i,b4x,b30,b33,b3k,b35,w_mk,b3l,b4e,b41,b4z,b4m,b4w,b4y,b3v,b3x,b4v,w_l0,w_l1,b3e,b3d,b3u,b3b,b3c,b3g,b3f],?_⟩
  simp only [b3o,b3t,b3s,b3z,b4d,b40,b4l,b31,w_wr,b_lt,b_le,b_eq,b3w,b4s,b_or,b3y,b3p,b3i,b4x,b30,b33,b3k,b35,w_mk,b3l,b4e,b41,b4z,b4m,b4w,b4y,b3v,b3x,b4v,w_l0,w_l1,b3e,b3d,b3u,b3b,b3c,b3g,b3f,us20] at hh
  simp only [List.map_cons,List.map_nil,w_l1,w_l0,b3o,b3v,us21,hm]
 ·obtain⟨_,_,_,_,a1,a2,a3,a4,a5,_⟩:=hh
  simp only [a5,show 1≤(v 3).len by omega,show(v 3).len≤32 by omega,show 1≤(v 4).len by omega,show(v 4).len≤32 by omega,decide_true,Bool.true_and]
  rfl
 all_goals
  have hf:(decide (1≤(v 2).iv)&&decide (1≤(v 3).len)&&decide ((v 3).len≤32)&&decide (1≤(v 4).len)&&decide ((v 4).len≤32)&&decide (cmpC (v 3) (v 4)≤0))=false:=by
   rw [Bool.eq_false_iff]
   simp only [ne_eq,Bool.and_eq_true,decide_eq_true_eq]
   omega
  rw [hf]
  rfl
end Go.Proofs.Ytlbbkmcegbeckaa
