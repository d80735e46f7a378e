/-
  Contracts of a seat's functions: four levels; which one is over. Conditions: none.
-/
import Derived.Test.YtlbbkmcegbeckaaSbI
set_option linter.unusedSectionVars false
set_option linter.unusedVariables false
set_option linter.unusedSimpArgs false
namespace Go.Proofs.Ytlbbkmcegbeckaa
open Go.Sx Go.Proofs
theorem us28(a b c:CD):@Us.u U 28 [a,b,c]=vInt .i64 (cr9 a.len b.len c.len):=rfl
theorem us29(a b c:CD):@Us.u U 29 [a,b,c]=b34 (cr8 a.len b.len c.len):=rfl
theorem us30(a:CD):@Us.u U 30 [a]=vInt .i64 (cfo a):=rfl
theorem us31(a:CD):@Us.u U 31 [a]=b34 (cfm a):=rfl
abbrev I(z:Int):X:=.lit (.int .i64 z)
abbrev sR:Srt:=.sl sRun
abbrev nilX:X:=.ap (.nil true) []
theorem cc9(b:Bool):CD.v (.bool b)=b34 b:=rfl
theorem b6m{a b:Bool}:(b34 a=b34 b)=(a=b):=by unfold b34;simp
theorem lim0:((CD.sl false ([]++[[vInt IntKind.i64 4]]++[[vInt IntKind.i64 8]]++[[vInt IntKind.i64 16]])).cell 0 0).iv=4:=rfl
theorem lim1:((CD.sl false ([]++[[vInt IntKind.i64 4]]++[[vInt IntKind.i64 8]]++[[vInt IntKind.i64 16]])).cell 1 0).iv=8:=rfl
theorem lim2:((CD.sl false ([]++[[vInt IntKind.i64 4]]++[[vInt IntKind.i64 8]]++[[vInt IntKind.i64 16]])).cell 2 0).iv=16:=rfl
theorem chkC{l:CD}:(eqC (vInt .i64 (if b4c l=true then 0 else 2)) (vInt .i64 0)=true)=(b4c l=true):=by
 cases b4c l
 ·show(eqC (vInt .i64 2) (vInt .i64 0)=true)=(false=true)
  rfl
 ·show(eqC (vInt .i64 0) (vInt .i64 0)=true)=(true=true)
  rfl
theorem b7w{l:CD}(h:b4c l=true):(l.len:Int)≤4:=by
 unfold b4c at h
 rw [Bool.and_eq_true,decide_eq_true_eq] at h
 omega
theorem cfw(l:CD)(n:Int):levD l n=mkz (l.cell n 0).rows:=rfl
theorem ccl{l:CD}{n:Int}(hT:Typ sLev l)(h0:0≤n)(h:¬ n<l.len):levD l n=.sl true []:=by
 have hl:=hT.sl.1
 rw [cfw]
 unfold CD.cell
 rw [show l.rows.getD n.toNat []=[] by rw [List.getD_eq_getElem?_getD,List.getElem?_eq_none (by omega)];rfl]
 rfl
theorem cfx{l:CD}{n:Int}(hT:Typ sLev l)(h0:0≤n):(levD l n).len=(l.cell n 0).len:=by
 by_cases h:n<l.len
 ·have hl:=(hT.cell (j:=0) h0 h rfl).sl
  rw [cfw,hl.1]
  exact cbk hl.2
 ·have hl:=hT.sl.1
  rw [ccl hT h0 h]
  unfold CD.cell
  rw [show l.rows.getD n.toNat []=[] by rw [List.getD_eq_getElem?_getD,List.getElem?_eq_none (by omega)];rfl]
  rfl
theorem cl6{l:CD}{n:Int}(hT:Typ sLev l)(h0:0≤n)(h:¬ n<l.len):(l.cell n 0).len=0:=by
 rw [← cfx hT h0,ccl hT h0 h]
 rfl
theorem clm{l:CD}{i:Int}(h:¬ b4a l 40=true)(hT:Typ sLev l)(h0:0≤i)(hi:i<l.len):((l.cell i 0).len:Int)≤40∧¬ b3q (l.cell i 0) 40=true:=by
 have:=cis h hT.sl.1 h0 hi
 exact⟨cph this,this⟩
theorem b6x{l:CD}{i:Int}(h:¬ b4a l 40=true)(hT:Typ sLev l)(h0:0≤i)(hi:i<l.len):((l.cell i 0).len:Int)≤40:=(clm h hT h0 hi).1
theorem cll{l:CD}{i:Int}(h:¬ b4a l 40=true)(hT:Typ sLev l)(h0:0≤i)(hi:i<l.len):¬ b3q (l.cell i 0) 40=true:=(clm h hT h0 hi).2
noncomputable def T47:List (FuncId×Fsp):=[(16,S16),(63,S63)]
noncomputable def c2q:Fm→HP→List X:=fun F H=>[.ap .le [.ap .len [.var 0],I 4]]
noncomputable def daw:Fm→HP→List X:=fun F H=>[.ap .le [.ap .len [.ap (.cell 0) [.var 0,sx F 13]],I 40],.ap .not [.ap (.usr 0) [.ap (.cell 0) [.var 0,sx F 13],I 40]]]
noncomputable def S47:Fsp:=⟨[(false,[sLev])],[.ap .not [.ap (.usr 12) [.var 0,I 40]]],[(true,[sR,sR,sR,sR]),(false,[.bool])],[([.ap .eq [.ap (.usr 22) [.var 0],I 0]],[[.ap (.usr 27) [.var 0,I 0],.ap (.usr 27) [.var 0,I 1],.ap (.usr 27) [.var 0,I 2],.ap (.usr 27) [.var 0,I 3]],[.lit (.bool true)]]),([.ap .not [.ap .eq [.ap (.usr 22) [.var 0],I 0]]],[[nilX,nilX,nilX,nilX],[.lit (.bool false)]])],true⟩
set_option maxRecDepth 100000 in
theorem hT47:b70 U Try.prog T47:=.cons c16 (.cons c63 .nil)
abbrev b85:X:=(.ap (.cell 0) [(.var 0),(.lit (.int .i64 0))])
abbrev b9n:X:=(.ap (.cell 0) [(.var 0),(.lit (.int .i64 1))])
abbrev b99:X:=(.ap (.cell 0) [(.var 0),(.lit (.int .i64 2))])
abbrev b55:X:=(.ap .len [(.var 0)])
abbrev cbi:X:=(.ap (.cell 0) [(.var 0),(.lit (.int .i64 3))])
abbrev b6o:X:=(.ap (.nil true) [])
abbrev cfd:X:=(.ap .eq [(.ap (.usr 22) [(.var 0)]),(.lit (.int .i64 0))])
abbrev ce9:List X:=[(.ap .le [(.lit (.int .i64 (-9223372036854775808))),(.ap (.usr 22) [(.var 0)])]),(.ap .le [(.ap (.usr 22) [(.var 0)]),(.lit (.int .i64 9223372036854775807))]),(.ap (.typ (.sl [(.sl [(.int .i64),(.int .i64),(.int .i64),(.sl [(.int .u8)]),(.sl [(.int .u8)])])])) [(.var 0)]),(.ap .not [(.ap (.usr 12) [(.var 0),(.lit (.int .i64 40))])])]
abbrev cig:List X:=(.ap .lt [(.lit (.int .i64 0)),b55])::(.ap .le [b55,(.lit (.int .i64 4))])::cfd::ce9
abbrev cfa:List X:=(.ap (.typ (.sl [(.int .i64),(.int .i64),(.int .i64),(.sl [(.int .u8)]),(.sl [(.int .u8)])])) [(.ap (.usr 25) [b85])])::(.ap .le [(.ap .len [b85]),(.lit (.int .i64 40))])::(.ap .not [(.ap (.usr 0) [b85,(.lit (.int .i64 40))])])::cig
abbrev cfb:List X:=(.ap (.typ (.sl [(.int .i64),(.int .i64),(.int .i64),(.sl [(.int .u8)]),(.sl [(.int .u8)])])) [(.ap (.usr 25) [b9n])])::(.ap .le [(.ap .len [b9n]),(.lit (.int .i64 40))])::(.ap .not [(.ap (.usr 0) [b9n,(.lit (.int .i64 40))])])::(.ap .lt [(.lit (.int .i64 1)),b55])::cfa
abbrev cfc:List X:=(.ap (.typ (.sl [(.int .i64),(.int .i64),(.int .i64),(.sl [(.int .u8)]),(.sl [(.int .u8)])])) [(.ap (.usr 25) [b99])])::(.ap .le [(.ap .len [b99]),(.lit (.int .i64 40))])::(.ap .not [(.ap (.usr 0) [b99,(.lit (.int .i64 40))])])::(.ap .lt [(.lit (.int .i64 2)),b55])::cfb
set_option maxRecDepth 100000 in
def c9h:List VC:=[((cfd::ce9),(.ap .le [b55,(.lit (.int .i64 4))])),
 (cig,(.ap .le [(.ap .len [b85]),(.lit (.int .i64 40))])),
 (cig,(.ap .not [(.ap (.usr 0) [b85,(.lit (.int .i64 40))])])),
 (((.ap .lt [(.lit (.int .i64 1)),b55])::cfa),(.ap .le [(.ap .len [b9n]),(.lit (.int .i64 40))])),
 (((.ap .lt [(.lit (.int .i64 1)),b55])::cfa),(.ap .not [(.ap (.usr 0) [b9n,(.lit (.int .i64 40))])])),
 (((.ap .lt [(.lit (.int .i64 2)),b55])::cfb),(.ap .le [(.ap .len [b99]),(.lit (.int .i64 40))])),
 (((.ap .lt [(.lit (.int .i64 2)),b55])::cfb),(.ap .not [(.ap (.usr 0) [b99,(.lit (.int .i64 40))])])),
 (((.ap .lt [(.lit (.int .i64 3)),b55])::cfc),(.ap .le [(.ap .len [cbi]),(.lit (.int .i64 40))])),
 (((.ap .lt [(.lit (.int .i64 3)),b55])::cfc),(.ap .not [(.ap (.usr 0) [cbi,(.lit (.int .i64 40))])]))]
set_option maxRecDepth 100000 in
def c9g:List (List X×List (List X)):=[(((.ap .not [cfd])::ce9),[[b6o,b6o,b6o,b6o],[(.lit (.bool false))]]),
 (((.ap (.typ (.sl [(.int .i64),(.int .i64),(.int .i64),(.sl [(.int .u8)]),(.sl [(.int .u8)])])) [(.ap (.usr 25) [cbi])])::(.ap .le [(.ap .len [cbi]),(.lit (.int .i64 40))])::(.ap .not [(.ap (.usr 0) [cbi,(.lit (.int .i64 40))])])::(.ap .lt [(.lit (.int .i64 3)),b55])::cfc),[[(.ap (.usr 25) [b85]),(.ap (.usr 25) [b9n]),(.ap (.usr 25) [b99]),(.ap (.usr 25) [cbi])],[(.lit (.bool true))]]),
 (((.ap .not [(.ap .lt [(.lit (.int .i64 3)),b55])])::cfc),[[(.ap (.usr 25) [b85]),(.ap (.usr 25) [b9n]),(.ap (.usr 25) [b99]),b6o],[(.lit (.bool true))]]),
 (((.ap .not [(.ap .lt [(.lit (.int .i64 2)),b55])])::cfb),[[(.ap (.usr 25) [b85]),(.ap (.usr 25) [b9n]),b6o,b6o],[(.lit (.bool true))]]),
 (((.ap .not [(.ap .lt [(.lit (.int .i64 1)),b55])])::cfa),[[(.ap (.usr 25) [b85]),b6o,b6o,b6o],[(.lit (.bool true))]]),
 (((.ap .not [(.ap .lt [(.lit (.int .i64 0)),b55])])::(.ap .le [b55,(.lit (.int .i64 4))])::cfd::ce9),[[b6o,b6o,b6o,b6o],[(.lit (.bool true))]])]
set_option maxRecDepth 100000 in
theorem dcq:runS Try.prog (b6d (tab T47)) 10 10 ⟨b4p [],hintA [(4,c2q),(7,daw)]⟩ Try.f47 (b4b Try.f47) S47=some (c9h,c9g):=by kernel_rfl
set_option maxHeartbeats 4000000 in
set_option maxRecDepth 100000 in
theorem c47:b3m U Try.prog 47 S47:=by
 refine b3m.of (P:=Try.prog) (U:=U) (T:=(tab T47)) (f:=47) (fn:=Try.f47) (fuel:=10) (fk:=10) (hs:=⟨b4p [],hintA [(4,c2q),(7,daw)]⟩) (S:=S47) (v:=c9h) (outs:=c9g) mixed hT47 at47 dcq ?_ ?_
 ·unfold c9h
  repeat' (first | exact b44 _ | refine b3r (fun v hh=>?_) ?_)
  all_goals
   simp only [b3o,b3t,b3s,b3z,b4d,b40,b4l,b31,w_wr,b_lt,b_le,b_eq,b3w,b4s,b_or,b3y,b3p,b3i,b4x,b30,b33,b3k,b35,w_mk,b3l,b4e,caj,b41,b4z,b4m,b4w,b4y,b3v,b3x,b4v,w_l0,w_l1,b3e,b3d,b3u,b3b,b3c,b3g,b3f,b67,b7c,b7d,b66,b9s,b9r,b7e,cak,us0,us12,us22,us25,us27,chkC,b5y,ce9,b85,b9n,b99,b55,cbi,b6o,cfd,cig,cfa,cfb,cfc] at hh ⊢
   repeat (obtain⟨_,hh⟩:=hh)
   try (first | grind [→ b7w,ccl,cfw,= b3e] | (apply b6x<;>first | assumption | grind) | (apply cll<;>first | assumption | grind))
 ·intro o ho σ hU hh
  obtain⟨v⟩:=σ
  cases hU
  simp only [c9g,List.mem_cons,List.not_mem_nil,or_false] at ho
  rcases ho with rfl | ho
  ·refine⟨_,List.mem_cons_of_mem _ (List.mem_cons_self ..),?_,rfl⟩
   simp only [b3o,b3t,b3s,b3z,b4d,b40,b4l,b31,w_wr,b_lt,b_le,b_eq,b3w,b4s,b_or,b3y,b3p,b3i,b4x,b30,b33,b3k,b35,w_mk,b3l,b4e,caj,b41,b4z,b4m,b4w,b4y,b3v,b3x,b4v,w_l0,w_l1,b3e,b3d,b3u,b3b,b3c,b3g,b3f,b67,b7c,b7d,b66,b9s,b9r,b7e,cak,ce9,b85,b9n,b99,b55,cbi,b6o,cfd,cig,cfa,cfb,cfc] at hh ⊢
   exact⟨hh.1,trivial⟩
  ·repeat' (first | (rcases ho with rfl | ho) | subst ho)
   all_goals
    refine⟨_,List.mem_cons_self ..,?_,?_⟩
    ·simp only [b3o,b3t,b3s,b3z,b4d,b40,b4l,b31,w_wr,b_lt,b_le,b_eq,b3w,b4s,b_or,b3y,b3p,b3i,b4x,b30,b33,b3k,b35,w_mk,b3l,b4e,caj,b41,b4z,b4m,b4w,b4y,b3v,b3x,b4v,w_l0,w_l1,b3e,b3d,b3u,b3b,b3c,b3g,b3f,b67,b7c,b7d,b66,b9s,b9r,b7e,cak,us0,us12,us22,us25,us27,chkC,b5y,ce9,b85,b9n,b99,b55,cbi,b6o,cfd,cig,cfa,cfb,cfc] at hh ⊢
     repeat (obtain⟨_,hh⟩:=hh)
     exact⟨by assumption,trivial⟩
    ·simp only [b3o,b3t,b3s,b3z,b4d,b40,b4l,b31,w_wr,b_lt,b_le,b_eq,b3w,b4s,b_or,b3y,b3p,b3i,b4x,b30,b33,b3k,b35,w_mk,b3l,b4e,caj,b41,b4z,b4m,b4w,b4y,b3v,b3x,b4v,w_l0,w_l1,b3e,b3d,b3u,b3b,b3c,b3g,b3f,b67,b7c,b7d,b66,b9s,b9r,b7e,cak,us0,us12,us22,us25,us27,chkC,b5y,ce9,b85,b9n,b99,b55,cbi,b6o,cfd,cig,cfa,cfb,cfc] at hh
     simp only [List.map_cons,List.map_nil,b3o,b3t,b3s,b3z,b4d,b40,b4l,b31,w_wr,b_lt,b_le,b_eq,b3w,b4s,b_or,b3y,b3p,b3i,b4x,b30,b33,b3k,b35,w_mk,b3l,b4e,caj,b41,b4z,b4m,b4w,b4y,b3v,b3x,b4v,w_l0,w_l1,b3e,b3d,b3u,b3b,b3c,b3g,b3f,b67,b7c,b7d,b66,b9s,b9r,b7e,cak,us25,us27,b5y]
     repeat (obtain⟨_,hh⟩:=hh)
     grind [ccl,cfw]
noncomputable def S54:Fsp:=⟨[(true,[sR,sR,sR,sR])],[],[(false,[.int .i64]),(false,[.bool])],[([],[[.ap (.usr 28) [.var 0,.var 1,.var 2]],[.ap (.usr 29) [.var 0,.var 1,.var 2]]])],true⟩
abbrev cld:X:=(.ap .lt [(.lit (.int .i64 4)),(.ap .len [(.var 0)])])
abbrev clc:List X:=[(.ap (.typ (.sl [(.int .i64),(.int .i64),(.int .i64),(.sl [(.int .u8)]),(.sl [(.int .u8)])])) [(.var 0)]),(.ap (.typ (.sl [(.int .i64),(.int .i64),(.int .i64),(.sl [(.int .u8)]),(.sl [(.int .u8)])])) [(.var 1)]),(.ap (.typ (.sl [(.int .i64),(.int .i64),(.int .i64),(.sl [(.int .u8)]),(.sl [(.int .u8)])])) [(.var 2)]),(.ap (.typ (.sl [(.int .i64),(.int .i64),(.int .i64),(.sl [(.int .u8)]),(.sl [(.int .u8)])])) [(.var 3)])]
set_option maxRecDepth 100000 in
def c9n:List VC:=[]
set_option maxRecDepth 100000 in
def c9m:List (List X×List (List X)):=[((cld::clc),[[(.lit (.int .i64 0))],[(.lit (.bool true))]]),
 (((.ap .lt [(.lit (.int .i64 8)),(.ap .len [(.var 1)])])::(.ap .not [cld])::clc),[[(.lit (.int .i64 1))],[(.lit (.bool true))]]),
 (((.ap .lt [(.lit (.int .i64 16)),(.ap .len [(.var 2)])])::(.ap .not [(.ap .lt [(.lit (.int .i64 8)),(.ap .len [(.var 1)])])])::(.ap .not [cld])::clc),[[(.lit (.int .i64 2))],[(.lit (.bool true))]]),
 (((.ap .not [(.ap .lt [(.lit (.int .i64 16)),(.ap .len [(.var 2)])])])::(.ap .not [(.ap .lt [(.lit (.int .i64 8)),(.ap .len [(.var 1)])])])::(.ap .not [cld])::clc),[[(.lit (.int .i64 0))],[(.lit (.bool false))]])]
set_option maxRecDepth 100000 in
theorem dcw:runS Try.prog (b6d T0) 10 10 ⟨b4p [],hintA []⟩ Try.f54 (b4b Try.f54) S54=some (c9n,c9m):=by kernel_rfl
set_option maxHeartbeats 4000000 in
set_option maxRecDepth 100000 in
theorem c54:b3m U Try.prog 54 S54:=by
 refine b3m.of (P:=Try.prog) (U:=U) (T:=T0) (f:=54) (fn:=Try.f54) (fuel:=10) (fk:=10) (hs:=⟨b4p [],hintA []⟩) (S:=S54) (v:=c9n) (outs:=c9m) mixed hT1' at54 dcw ?_ ?_
 ·unfold c9n
  repeat' (first | exact b44 _ | refine b3r (fun v hh=>?_) ?_)
  all_goals
   simp only [b3o,b3t,b3s,b3z,b_lt,b3w,b3y,b30,b3v,w_l0,w_l1,b3e,b3d,b3u,b3b,b3c,b3g,b3f,us28,us29,b5y,cc9,b7r,b6m,List.cons.injEq,clc,cld] at hh ⊢
   repeat (obtain⟨_,hh⟩:=hh)
   try (first | grind [cr9,cr8,= b3e])
 ·intro o ho σ hU hh
  obtain⟨v⟩:=σ
  cases hU
  simp only [c9m,List.mem_cons,List.not_mem_nil,or_false] at ho
  repeat' (first | (rcases ho with rfl | ho) | subst ho)
  all_goals
   refine⟨_,List.mem_cons_self ..,by simp only [b3o,b3t,b3s,b3z,b_lt,b3w,b3y,b30,b3v,w_l0,w_l1,b3e,b3d,b3u,b3b,b3c,b3g,b3f],?_⟩
   simp only [b3o,b3t,b3s,b3z,b_lt,b3w,b3y,b30,b3v,w_l0,w_l1,b3e,b3d,b3u,b3b,b3c,b3g,b3f,us28,us29,b5y,cc9,b7r,b6m,List.cons.injEq,clc,cld] at hh
   simp only [List.map_cons,List.map_nil,b3o,b3t,b3s,b3z,b_lt,b3w,b3y,b30,b3v,w_l0,w_l1,b3e,b3d,b3u,b3b,b3c,b3g,b3f,w_lt,cs7,crg,us28,us29,b5y,cc9,b7r,b6m,List.cons.injEq]
   repeat (obtain⟨_,hh⟩:=hh)
   try (first | grind [cr9,cr8,= b3e])
noncomputable def T13:List (FuncId×Fsp):=[(47,S47),(54,S54)]
noncomputable def S13:Fsp:=⟨[(false,[sLev])],[.ap .not [.ap (.usr 12) [.var 0,I 40]]],[(false,[.int .i64]),(false,[.bool])],[([],[[.ap (.usr 30) [.var 0]],[.ap (.usr 31) [.var 0]]])],true⟩
set_option maxRecDepth 100000 in
theorem hT13:b70 U Try.prog T13:=.cons c47 (.cons c54 .nil)
set_option maxRecDepth 100000 in
def c8x:List VC:=[]
set_option maxRecDepth 100000 in
def c8w:List (List X×List (List X)):=[([(.ap .le [(.lit (.int .i64 (-9223372036854775808))),(.ap (.usr 28) [(.ap (.usr 27) [(.var 0),(.lit (.int .i64 0))]),(.ap (.usr 27) [(.var 0),(.lit (.int .i64 1))]),(.ap (.usr 27) [(.var 0),(.lit (.int .i64 2))])])]),(.ap .le [(.ap (.usr 28) [(.ap (.usr 27) [(.var 0),(.lit (.int .i64 0))]),(.ap (.usr 27) [(.var 0),(.lit (.int .i64 1))]),(.ap (.usr 27) [(.var 0),(.lit (.int .i64 2))])]),(.lit (.int .i64 9223372036854775807))]),(.ap (.typ (.sl [(.int .i64),(.int .i64),(.int .i64),(.sl [(.int .u8)]),(.sl [(.int .u8)])])) [(.ap (.usr 27) [(.var 0),(.lit (.int .i64 0))])]),(.ap (.typ (.sl [(.int .i64),(.int .i64),(.int .i64),(.sl [(.int .u8)]),(.sl [(.int .u8)])])) [(.ap (.usr 27) [(.var 0),(.lit (.int .i64 1))])]),(.ap (.typ (.sl [(.int .i64),(.int .i64),(.int .i64),(.sl [(.int .u8)]),(.sl [(.int .u8)])])) [(.ap (.usr 27) [(.var 0),(.lit (.int .i64 2))])]),(.ap (.typ (.sl [(.int .i64),(.int .i64),(.int .i64),(.sl [(.int .u8)]),(.sl [(.int .u8)])])) [(.ap (.usr 27) [(.var 0),(.lit (.int .i64 3))])]),(.ap .eq [(.ap (.usr 22) [(.var 0)]),(.lit (.int .i64 0))]),(.ap (.typ (.sl [(.sl [(.int .i64),(.int .i64),(.int .i64),(.sl [(.int .u8)]),(.sl [(.int .u8)])])])) [(.var 0)]),(.ap .not [(.ap (.usr 12) [(.var 0),(.lit (.int .i64 40))])])],[[(.ap (.usr 28) [(.ap (.usr 27) [(.var 0),(.lit (.int .i64 0))]),(.ap (.usr 27) [(.var 0),(.lit (.int .i64 1))]),(.ap (.usr 27) [(.var 0),(.lit (.int .i64 2))])])],[(.ap (.usr 29) [(.ap (.usr 27) [(.var 0),(.lit (.int .i64 0))]),(.ap (.usr 27) [(.var 0),(.lit (.int .i64 1))]),(.ap (.usr 27) [(.var 0),(.lit (.int .i64 2))])])]]),
 ([(.ap (.typ (.sl [(.int .i64),(.int .i64),(.int .i64),(.sl [(.int .u8)]),(.sl [(.int .u8)])])) [(.ap (.nil true) [])]),(.ap (.typ (.sl [(.int .i64),(.int .i64),(.int .i64),(.sl [(.int .u8)]),(.sl [(.int .u8)])])) [(.ap (.nil true) [])]),(.ap (.typ (.sl [(.int .i64),(.int .i64),(.int .i64),(.sl [(.int .u8)]),(.sl [(.int .u8)])])) [(.ap (.nil true) [])]),(.ap (.typ (.sl [(.int .i64),(.int .i64),(.int .i64),(.sl [(.int .u8)]),(.sl [(.int .u8)])])) [(.ap (.nil true) [])]),(.ap .not [(.ap .eq [(.ap (.usr 22) [(.var 0)]),(.lit (.int .i64 0))])]),(.ap (.typ (.sl [(.sl [(.int .i64),(.int .i64),(.int .i64),(.sl [(.int .u8)]),(.sl [(.int .u8)])])])) [(.var 0)]),(.ap .not [(.ap (.usr 12) [(.var 0),(.lit (.int .i64 40))])])],[[(.lit (.int .i64 0))],[(.lit (.bool false))]])]
set_option maxRecDepth 100000 in
theorem db9:runS Try.prog (b6d (tab T13)) 10 10 ⟨b4p [],hintA []⟩ Try.f13 (b4b Try.f13) S13=some (c8x,c8w):=by kernel_rfl
set_option maxHeartbeats 4000000 in
set_option maxRecDepth 100000 in
theorem c13:b3m U Try.prog 13 S13:=by
 refine b3m.of (P:=Try.prog) (U:=U) (T:=(tab T13)) (f:=13) (fn:=Try.f13) (fuel:=10) (fk:=10) (hs:=⟨b4p [],hintA []⟩) (S:=S13) (v:=c8x) (outs:=c8w) mixed hT13 at13 db9 ?_ ?_
 ·unfold c8x
  repeat' (first | exact b44 _ | refine b3r (fun v hh=>?_) ?_)
  all_goals
   simp only [b3o,b3t,b3s,b3z,b_le,b_eq,b3w,b3y,b35,b3v,w_l0,w_l1,b3e,b3d,b3u,b3b,b3c,b3g,b3f,us28,us29,us30,us31,us12,us22,us27,chkC,b5y,cc9,b7r,b6m,List.cons.injEq] at hh ⊢
   repeat (obtain⟨_,hh⟩:=hh)
   try (first | grind [cfo,cfm,cfx,= b3e])
 ·intro o ho σ hU hh
  obtain⟨v⟩:=σ
  cases hU
  simp only [c8w,List.mem_cons,List.not_mem_nil,or_false] at ho
  repeat' (first | (rcases ho with rfl | ho) | subst ho)
  all_goals
   refine⟨_,List.mem_cons_self ..,by simp only [b3o,b3t,b3s,b3z,b_le,b_eq,b3w,b3y,b35,b3v,w_l0,w_l1,b3e,b3d,b3u,b3b,b3c,b3g,b3f],?_⟩
   simp only [b3o,b3t,b3s,b3z,b_le,b_eq,b3w,b3y,b35,b3v,w_l0,w_l1,b3e,b3d,b3u,b3b,b3c,b3g,b3f,us28,us29,us30,us31,us12,us22,us27,chkC,b5y,cc9,b7r,b6m,List.cons.injEq] at hh
   simp only [List.map_cons,List.map_nil,b3o,b3t,b3s,b3z,b_le,b_eq,b3w,b3y,b35,b3v,w_l0,w_l1,b3e,b3d,b3u,b3b,b3c,b3g,b3f,w_le,w_eq,cs7,crg,us28,us29,us30,us31,us12,us22,us27,chkC,b5y,cc9,b7r,b6m,List.cons.injEq]
   repeat (obtain⟨_,hh⟩:=hh)
   try (first | grind [cfo,cfm,cfx,= b3e])
noncomputable def T14:List (FuncId×Fsp):=[(17,S16)]
noncomputable def S14:Fsp:=⟨[(false,[sLev])],[],[(false,[.int .i64]),(false,[.bool])],[([],[[.ap (.usr 30) [.var 0]],[.ap (.usr 31) [.var 0]]])],true⟩
set_option maxRecDepth 100000 in
theorem hT14:b70 U Try.prog T14:=.cons c17 .nil
abbrev cqd:X:=(.ap .snoc [(.ap .snoc [(.ap .snoc [(.ap (.nil false) []),(.lit (.int .i64 4))]),(.lit (.int .i64 8))]),(.lit (.int .i64 16))])
abbrev cqe:X:=(.ap .lt [(.ap (.cell 0) [cqd,(.lit (.int .i64 1))]),(.ap .len [(.ap (.cell 0) [(.var 0),(.lit (.int .i64 1))])])])
abbrev ck3:X:=(.ap .eq [(.ap (.usr 22) [(.var 0)]),(.lit (.int .i64 0))])
abbrev ck4:X:=(.ap .lt [(.lit (.int .i64 1)),(.ap .len [(.var 0)])])
abbrev cuv:X:=(.ap .lt [(.ap (.cell 0) [cqd,(.lit (.int .i64 0))]),(.ap .len [(.ap (.cell 0) [(.var 0),(.lit (.int .i64 0))])])])
abbrev cuw:X:=(.ap .lt [(.ap (.cell 0) [cqd,(.lit (.int .i64 2))]),(.ap .len [(.ap (.cell 0) [(.var 0),(.lit (.int .i64 2))])])])
abbrev ckz:List X:=[(.ap .le [(.lit (.int .i64 (-9223372036854775808))),(.ap (.usr 22) [(.var 0)])]),(.ap .le [(.ap (.usr 22) [(.var 0)]),(.lit (.int .i64 9223372036854775807))]),(.ap (.typ (.sl [(.sl [(.int .i64),(.int .i64),(.int .i64),(.sl [(.int .u8)]),(.sl [(.int .u8)])])])) [(.var 0)])]
abbrev ck0:List X:=(.ap .not [cuv])::(.ap .lt [(.lit (.int .i64 0)),(.ap .len [(.var 0)])])::ck3::ckz
abbrev cuu:List X:=(.ap .lt [(.lit (.int .i64 2)),(.ap .len [(.var 0)])])::(.ap .not [cqe])::ck4::ck0
set_option maxRecDepth 100000 in
def c81:List VC:=[]
set_option maxRecDepth 100000 in
def c8y:List (List X×List (List X)):=[(((.ap .not [ck3])::ckz),[[(.lit (.int .i64 0))],[(.lit (.bool false))]]),
 ((cuv::(.ap .lt [(.lit (.int .i64 0)),(.ap .len [(.var 0)])])::ck3::ckz),[[(.lit (.int .i64 0))],[(.lit (.bool true))]]),
 ((cqe::ck4::ck0),[[(.lit (.int .i64 1))],[(.lit (.bool true))]]),
 ((cuw::cuu),[[(.lit (.int .i64 2))],[(.lit (.bool true))]]),
 (((.ap .not [cuw])::cuu),[[(.lit (.int .i64 0))],[(.lit (.bool false))]]),
 (((.ap .not [(.ap .lt [(.lit (.int .i64 2)),(.ap .len [(.var 0)])])])::(.ap .not [cqe])::ck4::ck0),[[(.lit (.int .i64 0))],[(.lit (.bool false))]]),
 (((.ap .not [ck4])::ck0),[[(.lit (.int .i64 0))],[(.lit (.bool false))]]),
 (((.ap .not [(.ap .lt [(.lit (.int .i64 0)),(.ap .len [(.var 0)])])])::ck3::ckz),[[(.lit (.int .i64 0))],[(.lit (.bool false))]])]
set_option maxRecDepth 100000 in
theorem dca:runS Try.prog (b6d (tab T14)) 10 12 ⟨b4p [],hintA []⟩ Try.f14 (b4b Try.f14) S14=some (c81,c8y):=by kernel_rfl
set_option maxHeartbeats 4000000 in
set_option maxRecDepth 100000 in
theorem c14:b3m U Try.prog 14 S14:=by
 refine b3m.of (P:=Try.prog) (U:=U) (T:=(tab T14)) (f:=14) (fn:=Try.f14) (fuel:=10) (fk:=12) (hs:=⟨b4p [],hintA []⟩) (S:=S14) (v:=c81) (outs:=c8y) mixed hT14 at14 dca ?_ ?_
 ·unfold c81
  repeat' (first | exact b44 _ | refine b3r (fun v hh=>?_) ?_)
  all_goals
   simp only [b3o,b3t,b3s,b3z,b_lt,b_le,b_eq,b3w,b3y,b30,b3k,b35,b3l,b3v,w_l0,w_l1,b3e,b3d,b3u,b3b,b3c,b3g,b3f,us30,us31,us22,chkC,b5y,lim0,lim1,lim2,cc9,b7r,b6m,List.cons.injEq,ckz,cqd,cqe,ck3,ck4,cuv,cuw,ck0,cuu] at hh ⊢
   repeat (obtain⟨_,hh⟩:=hh)
   try (first | grind [cfo,cfm,cr9,cr8,cl6,= b3e])
 ·intro o ho σ hU hh
  obtain⟨v⟩:=σ
  cases hU
  simp only [c8y,List.mem_cons,List.not_mem_nil,or_false] at ho
  repeat' (first | (rcases ho with rfl | ho) | subst ho)
  all_goals
   refine⟨_,List.mem_cons_self ..,by simp only [b3o,b3t,b3s,b3z,b_lt,b_le,b_eq,b3w,b3y,b30,b3k,b35,b3l,b3v,w_l0,w_l1,b3e,b3d,b3u,b3b,b3c,b3g,b3f],?_⟩
   simp only [b3o,b3t,b3s,b3z,b_lt,b_le,b_eq,b3w,b3y,b30,b3k,b35,b3l,b3v,w_l0,w_l1,b3e,b3d,b3u,b3b,b3c,b3g,b3f,us30,us31,us22,chkC,b5y,lim0,lim1,lim2,cc9,b7r,b6m,List.cons.injEq,ckz,cqd,cqe,ck3,ck4,cuv,cuw,ck0,cuu] at hh
   simp only [List.map_cons,List.map_nil,b3o,b3t,b3s,b3z,b_lt,b_le,b_eq,b3w,b3y,b30,b3k,b35,b3l,b3v,w_l0,w_l1,b3e,b3d,b3u,b3b,b3c,b3g,b3f,w_lt,w_le,w_eq,cs7,crg,us30,us31,us22,chkC,b5y,lim0,lim1,lim2,cc9,b7r,b6m,List.cons.injEq]
   repeat (obtain⟨_,hh⟩:=hh)
   try (first | grind [cfo,cfm,cr9,cr8,cl6,= b3e])
end Go.Proofs.Ytlbbkmcegbeckaa
