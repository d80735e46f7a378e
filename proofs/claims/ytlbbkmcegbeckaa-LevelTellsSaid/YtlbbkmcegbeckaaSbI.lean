/-
  Contracts of a seat's functions: which levels may be, as the document says. Conditions: none.
-/
import Derived.Test.YtlbbkmcegbeckaaSbE
set_option linter.unusedSectionVars false
set_option linter.unusedVariables false
set_option linter.unusedSimpArgs false
namespace Go.Proofs.Ytlbbkmcegbeckaa
open Go.Sx Go.Proofs
noncomputable def T9:List (FuncId×Fsp):=[(56,cbd 20),(48,S48)]
noncomputable def dbs:Lp:=⟨[(.slot 12,.int .i64)],[0,2,10,11],[0,10],fun F H k=>[.ap .le [zI,.var k],.ap .le [.var k,.ap .len [.var 0]],.ap (.usr 23) [.var 0,.var k]],fun F H k=>.ap (.sub .i64) [.ap .len [.var 0],.var k]⟩
noncomputable def dbt:Lp:=⟨[(.slot 19,.int .i64)],[0,2,10,11,12,3,4,17,18],[0,10,4,17],fun F H k=>[.ap .le [zI,.var k],.ap .le [.var k,.ap .len [.ap (.cell 0) [.var 0,sx F 12]]],.ap (.usr 24) [.var 0,sx F 12,.var k]],fun F H k=>.ap (.sub .i64) [.ap .len [.ap (.cell 0) [.var 0,sx F 12]],.var k]⟩
noncomputable def S16:Fsp:=⟨[(false,[sLev])],[],[(false,[.int .i64])],[([],[[.ap (.usr 22) [.var 0]]])],true⟩
def dcd:List VC:=[([(.ap .not [(.ap .lt [(.lit (.int .i64 4)),(.ap .len [(.var 0)])])]),(.ap (.typ (.sl [(.sl [(.int .i64),(.int .i64),(.int .i64),(.sl [(.int .u8)]),(.sl [(.int .u8)])])])) [(.var 0)])],(.ap (.usr 23) [(.var 0),(.lit (.int .i64 0))])),
 ([(.ap .lt [(.var 1),(.ap .len [(.var 0)])]),(.ap .le [(.lit (.int .i64 0)),(.var 1)]),(.ap .le [(.var 1),(.ap .len [(.var 0)])]),(.ap (.usr 23) [(.var 0),(.var 1)]),(.ap .not [(.ap .lt [(.lit (.int .i64 4)),(.ap .len [(.var 0)])])]),(.ap (.typ (.sl [(.sl [(.int .i64),(.int .i64),(.int .i64),(.sl [(.int .u8)]),(.sl [(.int .u8)])])])) [(.var 0)])],(.ap (.usr 24) [(.var 0),(.var 1),(.lit (.int .i64 0))])),
 ([(.ap .not [(.ap .le [(.lit (.int .i64 0)),(.ap (.usr 20) [(.ap (.cell 4) [(.ap (.cell 0) [(.var 0),(.var 1)]),(.ap (.sub .i64) [(.var 2),(.lit (.int .i64 1))])]),(.ap (.cell 3) [(.ap (.cell 0) [(.var 0),(.var 1)]),(.var 2)])])])]),(.ap .lt [(.lit (.int .i64 0)),(.var 2)]),(.ap .lt [(.lit (.int .i64 0)),(.var 1)]),(.ap (.usr 21) [(.ap (.cell 0) [(.ap (.cell 0) [(.var 0),(.var 1)]),(.var 2)]),(.ap (.cell 1) [(.ap (.cell 0) [(.var 0),(.var 1)]),(.var 2)]),(.ap (.cell 2) [(.ap (.cell 0) [(.var 0),(.var 1)]),(.var 2)]),(.ap (.cell 3) [(.ap (.cell 0) [(.var 0),(.var 1)]),(.var 2)]),(.ap (.cell 4) [(.ap (.cell 0) [(.var 0),(.var 1)]),(.var 2)])]),(.ap .lt [(.var 2),(.ap .len [(.ap (.cell 0) [(.var 0),(.var 1)])])]),(.ap .le [(.lit (.int .i64 0)),(.var 2)]),(.ap .le [(.var 2),(.ap .len [(.ap (.cell 0) [(.var 0),(.var 1)])])]),(.ap (.usr 24) [(.var 0),(.var 1),(.var 2)]),(.ap .lt [(.var 1),(.ap .len [(.var 0)])]),(.ap .le [(.lit (.int .i64 0)),(.var 1)]),(.ap .le [(.var 1),(.ap .len [(.var 0)])]),(.ap (.usr 23) [(.var 0),(.var 1)]),(.ap .not [(.ap .lt [(.lit (.int .i64 4)),(.ap .len [(.var 0)])])]),(.ap (.typ (.sl [(.sl [(.int .i64),(.int .i64),(.int .i64),(.sl [(.int .u8)]),(.sl [(.int .u8)])])])) [(.var 0)])],(.ap (.usr 24) [(.var 0),(.var 1),(.ap (.add .i64) [(.var 2),(.lit (.int .i64 1))])])),
 ([(.ap .not [(.ap .lt [(.lit (.int .i64 0)),(.var 2)])]),(.ap .lt [(.lit (.int .i64 0)),(.var 1)]),(.ap (.usr 21) [(.ap (.cell 0) [(.ap (.cell 0) [(.var 0),(.var 1)]),(.var 2)]),(.ap (.cell 1) [(.ap (.cell 0) [(.var 0),(.var 1)]),(.var 2)]),(.ap (.cell 2) [(.ap (.cell 0) [(.var 0),(.var 1)]),(.var 2)]),(.ap (.cell 3) [(.ap (.cell 0) [(.var 0),(.var 1)]),(.var 2)]),(.ap (.cell 4) [(.ap (.cell 0) [(.var 0),(.var 1)]),(.var 2)])]),(.ap .lt [(.var 2),(.ap .len [(.ap (.cell 0) [(.var 0),(.var 1)])])]),(.ap .le [(.lit (.int .i64 0)),(.var 2)]),(.ap .le [(.var 2),(.ap .len [(.ap (.cell 0) [(.var 0),(.var 1)])])]),(.ap (.usr 24) [(.var 0),(.var 1),(.var 2)]),(.ap .lt [(.var 1),(.ap .len [(.var 0)])]),(.ap .le [(.lit (.int .i64 0)),(.var 1)]),(.ap .le [(.var 1),(.ap .len [(.var 0)])]),(.ap (.usr 23) [(.var 0),(.var 1)]),(.ap .not [(.ap .lt [(.lit (.int .i64 4)),(.ap .len [(.var 0)])])]),(.ap (.typ (.sl [(.sl [(.int .i64),(.int .i64),(.int .i64),(.sl [(.int .u8)]),(.sl [(.int .u8)])])])) [(.var 0)])],(.ap (.usr 24) [(.var 0),(.var 1),(.ap (.add .i64) [(.var 2),(.lit (.int .i64 1))])])),
 ([(.ap .not [(.ap .lt [(.lit (.int .i64 0)),(.var 1)])]),(.ap (.usr 21) [(.ap (.cell 0) [(.ap (.cell 0) [(.var 0),(.var 1)]),(.var 2)]),(.ap (.cell 1) [(.ap (.cell 0) [(.var 0),(.var 1)]),(.var 2)]),(.ap (.cell 2) [(.ap (.cell 0) [(.var 0),(.var 1)]),(.var 2)]),(.ap (.cell 3) [(.ap (.cell 0) [(.var 0),(.var 1)]),(.var 2)]),(.ap (.cell 4) [(.ap (.cell 0) [(.var 0),(.var 1)]),(.var 2)])]),(.ap .lt [(.var 2),(.ap .len [(.ap (.cell 0) [(.var 0),(.var 1)])])]),(.ap .le [(.lit (.int .i64 0)),(.var 2)]),(.ap .le [(.var 2),(.ap .len [(.ap (.cell 0) [(.var 0),(.var 1)])])]),(.ap (.usr 24) [(.var 0),(.var 1),(.var 2)]),(.ap .lt [(.var 1),(.ap .len [(.var 0)])]),(.ap .le [(.lit (.int .i64 0)),(.var 1)]),(.ap .le [(.var 1),(.ap .len [(.var 0)])]),(.ap (.usr 23) [(.var 0),(.var 1)]),(.ap .not [(.ap .lt [(.lit (.int .i64 4)),(.ap .len [(.var 0)])])]),(.ap (.typ (.sl [(.sl [(.int .i64),(.int .i64),(.int .i64),(.sl [(.int .u8)]),(.sl [(.int .u8)])])])) [(.var 0)])],(.ap (.usr 24) [(.var 0),(.var 1),(.ap (.add .i64) [(.var 2),(.lit (.int .i64 1))])])),
 ([(.ap .not [(.ap .lt [(.var 2),(.ap .len [(.ap (.cell 0) [(.var 0),(.var 1)])])])]),(.ap .le [(.lit (.int .i64 0)),(.var 2)]),(.ap .le [(.var 2),(.ap .len [(.ap (.cell 0) [(.var 0),(.var 1)])])]),(.ap (.usr 24) [(.var 0),(.var 1),(.var 2)]),(.ap .lt [(.var 1),(.ap .len [(.var 0)])]),(.ap .le [(.lit (.int .i64 0)),(.var 1)]),(.ap .le [(.var 1),(.ap .len [(.var 0)])]),(.ap (.usr 23) [(.var 0),(.var 1)]),(.ap .not [(.ap .lt [(.lit (.int .i64 4)),(.ap .len [(.var 0)])])]),(.ap (.typ (.sl [(.sl [(.int .i64),(.int .i64),(.int .i64),(.sl [(.int .u8)]),(.sl [(.int .u8)])])])) [(.var 0)])],(.ap (.usr 23) [(.var 0),(.ap (.add .i64) [(.var 1),(.lit (.int .i64 1))])]))]
def c84:List (List X×List (List X)):=[([(.ap .lt [(.lit (.int .i64 4)),(.ap .len [(.var 0)])]),(.ap (.typ (.sl [(.sl [(.int .i64),(.int .i64),(.int .i64),(.sl [(.int .u8)]),(.sl [(.int .u8)])])])) [(.var 0)])],[[(.lit (.int .i64 2))]]),
 ([(.ap .not [(.ap (.usr 21) [(.ap (.cell 0) [(.ap (.cell 0) [(.var 0),(.var 1)]),(.var 2)]),(.ap (.cell 1) [(.ap (.cell 0) [(.var 0),(.var 1)]),(.var 2)]),(.ap (.cell 2) [(.ap (.cell 0) [(.var 0),(.var 1)]),(.var 2)]),(.ap (.cell 3) [(.ap (.cell 0) [(.var 0),(.var 1)]),(.var 2)]),(.ap (.cell 4) [(.ap (.cell 0) [(.var 0),(.var 1)]),(.var 2)])])]),(.ap .lt [(.var 2),(.ap .len [(.ap (.cell 0) [(.var 0),(.var 1)])])]),(.ap .le [(.lit (.int .i64 0)),(.var 2)]),(.ap .le [(.var 2),(.ap .len [(.ap (.cell 0) [(.var 0),(.var 1)])])]),(.ap (.usr 24) [(.var 0),(.var 1),(.var 2)]),(.ap .lt [(.var 1),(.ap .len [(.var 0)])]),(.ap .le [(.lit (.int .i64 0)),(.var 1)]),(.ap .le [(.var 1),(.ap .len [(.var 0)])]),(.ap (.usr 23) [(.var 0),(.var 1)]),(.ap .not [(.ap .lt [(.lit (.int .i64 4)),(.ap .len [(.var 0)])])]),(.ap (.typ (.sl [(.sl [(.int .i64),(.int .i64),(.int .i64),(.sl [(.int .u8)]),(.sl [(.int .u8)])])])) [(.var 0)])],[[(.lit (.int .i64 2))]]),
 ([(.ap .le [(.lit (.int .i64 0)),(.ap (.usr 20) [(.ap (.cell 4) [(.ap (.cell 0) [(.var 0),(.var 1)]),(.ap (.sub .i64) [(.var 2),(.lit (.int .i64 1))])]),(.ap (.cell 3) [(.ap (.cell 0) [(.var 0),(.var 1)]),(.var 2)])])]),(.ap .lt [(.lit (.int .i64 0)),(.var 2)]),(.ap .lt [(.lit (.int .i64 0)),(.var 1)]),(.ap (.usr 21) [(.ap (.cell 0) [(.ap (.cell 0) [(.var 0),(.var 1)]),(.var 2)]),(.ap (.cell 1) [(.ap (.cell 0) [(.var 0),(.var 1)]),(.var 2)]),(.ap (.cell 2) [(.ap (.cell 0) [(.var 0),(.var 1)]),(.var 2)]),(.ap (.cell 3) [(.ap (.cell 0) [(.var 0),(.var 1)]),(.var 2)]),(.ap (.cell 4) [(.ap (.cell 0) [(.var 0),(.var 1)]),(.var 2)])]),(.ap .lt [(.var 2),(.ap .len [(.ap (.cell 0) [(.var 0),(.var 1)])])]),(.ap .le [(.lit (.int .i64 0)),(.var 2)]),(.ap .le [(.var 2),(.ap .len [(.ap (.cell 0) [(.var 0),(.var 1)])])]),(.ap (.usr 24) [(.var 0),(.var 1),(.var 2)]),(.ap .lt [(.var 1),(.ap .len [(.var 0)])]),(.ap .le [(.lit (.int .i64 0)),(.var 1)]),(.ap .le [(.var 1),(.ap .len [(.var 0)])]),(.ap (.usr 23) [(.var 0),(.var 1)]),(.ap .not [(.ap .lt [(.lit (.int .i64 4)),(.ap .len [(.var 0)])])]),(.ap (.typ (.sl [(.sl [(.int .i64),(.int .i64),(.int .i64),(.sl [(.int .u8)]),(.sl [(.int .u8)])])])) [(.var 0)])],[[(.lit (.int .i64 2))]]),
 ([(.ap .not [(.ap .lt [(.var 1),(.ap .len [(.var 0)])])]),(.ap .le [(.lit (.int .i64 0)),(.var 1)]),(.ap .le [(.var 1),(.ap .len [(.var 0)])]),(.ap (.usr 23) [(.var 0),(.var 1)]),(.ap .not [(.ap .lt [(.lit (.int .i64 4)),(.ap .len [(.var 0)])])]),(.ap (.typ (.sl [(.sl [(.int .i64),(.int .i64),(.int .i64),(.sl [(.int .u8)]),(.sl [(.int .u8)])])])) [(.var 0)])],[[(.lit (.int .i64 0))]])]
theorem dcc:runS Try.prog (b6d (tab T9)) 10 8 ⟨b4p [(4,dbs),(7,dbt)],hintA []⟩ Try.f16 (b4b Try.f16) S16=some (dcd,c84):=by kernel_rfl
theorem us22(a:CD):@Us.u U 22 [a]=vInt .i64 (if b4c a then 0 else 2):=rfl
theorem us23(a b:CD):((@Us.u U 23 [a,b]).bv=true)=((List.range b.iv.toNat).all (cr6 a)=true):=rfl
theorem us24(a b c:CD):((@Us.u U 24 [a,b,c]).bv=true)=((List.range c.iv.toNat).all (cbq b.iv.toNat (a.cell b.iv 0))=true):=rfl
theorem ddq(a b c d e:CD):((@Us.u U 21 [a,b,c,d,e]).bv=true)=(b5s [a,b,c,d,e]=true):=rfl
set_option maxRecDepth 100000 in
theorem hT9:b70 U Try.prog T9:=.cons c56 (.cons c48 .nil)
theorem cbf{l:CD}(h:4<(l.len:Int)):b4c l=false:=by
 unfold b4c
 rw [decide_eq_false (by omega)]
 rfl
theorem b6t{l:CD}{n i:Int}(hT:Typ sLev l)(h0:0≤n)(hn:n<l.len)(h1:0≤i)(hi:i<((l.cell n 0).len:Int))(h:cbq n.toNat (l.cell n 0) i.toNat=false):b4c l=false:=by
 have hl:=(hT.cell (j:=0) h0 hn rfl).sl.1
 have hl0:=hT.sl.1
 rw [Bool.eq_false_iff]
 intro hh
 unfold b4c at hh
 rw [Bool.and_eq_true,List.all_eq_true] at hh
 have:=hh.2 n.toNat (List.mem_range.2 (by omega))
 unfold cr6 at this
 rw [List.all_eq_true] at this
 have e:l.cell (n.toNat:Nat) 0=l.cell n 0:=by rw [Int.toNat_of_nonneg h0]
 rw [e] at this
 have:=this i.toNat (List.mem_range.2 (by omega))
 rw [h] at this
 cases this
set_option maxRecDepth 100000 in
theorem c16:b3m U Try.prog 16 S16:=by
 refine b3m.of (P:=Try.prog) (U:=U) (T:=tab T9) (f:=16) (fn:=Try.f16) (fuel:=10) (fk:=8) (hs:=⟨b4p [(4,dbs),(7,dbt)],hintA []⟩) (S:=S16) (v:=dcd) (outs:=c84) mixed hT9 at16 dcc ?_ ?_
 ·refine b3r (fun v hh=>?_) (b3r (fun v hh=>?_) (b3r (fun v hh=>?_) (b3r (fun v hh=>?_) (b3r (fun v hh=>?_) (b3r (fun v hh=>?_) (b44 _))))))
  all_goals simp only [b3o,b3t,b3s,b3z,b4d,b40,b4l,b31,w_wr,b_lt,b_le,b_eq,b3w,b4s,b_or,b3y,b3p,b3i,b4x,b30,b33,b3k,b35,w_mk,b3l,b4e,b41,b4z,b4m,b4w,b4y,b3v,b3x,b4v,w_l0,w_l1,b3e,b3d,b3u,b3b,b3c,b3g,b3f,us23,us24,ddq,us20] at hh ⊢
  ·rfl
  ·rfl
  ·obtain⟨h1,h2,h3,h4,h5,h6,_,h7,_⟩:=hh
   rw [b47 h6,h7,caz h6,h4,Bool.true_and,Bool.true_and,Bool.not_eq_true',Bool.and_eq_false_iff]
   exact .inr (decide_eq_false h1)
  ·obtain⟨h1,h2,h4,h5,h6,_,h7,_⟩:=hh
   rw [b47 h6,h7,caz h6,h4,decide_eq_false h1]
   simp
  ·obtain⟨h1,h4,h5,h6,_,h7,_⟩:=hh
   rw [b47 h6,h7,caz h6,h4,decide_eq_false (show ¬ 0<(v 1).iv.toNat by omega)]
   simp
  ·obtain⟨h1,h2,_,h3,h4,h5,_,h6,h7,hT,_⟩:=hh
   have hl:=(hT.cell (j:=0) h5 h4 rfl).sl.1
   rw [b47 h5,h6,Bool.true_and]
   have e:(v 0).cell ((v 1).iv.toNat:Nat) 0=(v 0).cell (v 1).iv 0:=by rw [Int.toNat_of_nonneg h5]
   unfold cr6
   rw [e,List.all_eq_true] at *
   intro j hj
   exact h3 j (List.mem_range.2 (by have:=List.mem_range.1 hj;omega))
 ·intro o ho σ hU hh
  obtain⟨v⟩:=σ
  cases hU
  simp only [c84,List.mem_cons,List.not_mem_nil,or_false] at ho
  rcases ho with rfl | rfl | rfl | rfl
  all_goals
   refine⟨_,List.mem_cons_self ..,by simp only [b3o,b3t,b3s,b3z,b4d,b40,b4l,b31,w_wr,b_lt,b_le,b_eq,b3w,b4s,b_or,b3y,b3p,b3i,b4x,b30,b33,b3k,b35,w_mk,b3l,b4e,b41,b4z,b4m,b4w,b4y,b3v,b3x,b4v,w_l0,w_l1,b3e,b3d,b3u,b3b,b3c,b3g,b3f],?_⟩
   simp only [b3o,b3t,b3s,b3z,b4d,b40,b4l,b31,w_wr,b_lt,b_le,b_eq,b3w,b4s,b_or,b3y,b3p,b3i,b4x,b30,b33,b3k,b35,w_mk,b3l,b4e,b41,b4z,b4m,b4w,b4y,b3v,b3x,b4v,w_l0,w_l1,b3e,b3d,b3u,b3b,b3c,b3g,b3f,us23,us24,ddq,us20] at hh
   simp only [List.map_cons,List.map_nil,b3o,b3t,b3s,b3z,b4d,b40,b4l,b31,w_wr,b_lt,b_le,b_eq,b3w,b4s,b_or,b3y,b3p,b3i,b4x,b30,b33,b3k,b35,w_mk,b3l,b4e,b41,b4z,b4m,b4w,b4y,b3v,b3x,b4v,w_l0,w_l1,b3e,b3d,b3u,b3b,b3c,b3g,b3f,us22]
  ·obtain⟨h1,hT,_⟩:=hh
   rw [cbf h1]
   rfl
  ·obtain⟨h1,h2,h3,_,h4,h5,h6,_,h7,h8,hT,_⟩:=hh
   rw [b6t hT h6 h5 h3 h2 (by rw [caz h3,Bool.eq_false_iff.2 h1];rfl)]
   rfl
  ·obtain⟨h1,a1,a2,a3,h2,h3,_,h4,h5,h6,_,h7,h8,hT,_⟩:=hh
   rw [b6t hT h6 h5 h3 h2 (by
    rw [caz h3,a3,decide_eq_true a1,decide_eq_true (show 0<(v 1).iv.toNat by omega),decide_eq_true (show 0≤cmpC _ _ from h1)]
    rfl)]
   rfl
  ·obtain⟨h1,h2,_,h3,h4,hT,_⟩:=hh
   have:b4c (v 0)=true:=by
    unfold b4c
    have hl:=hT.sl.1
    rw [Bool.and_eq_true,decide_eq_true_eq,List.all_eq_true]
    refine⟨by omega,fun n hn=>?_⟩
    rw [List.all_eq_true] at h3
    exact h3 n (List.mem_range.2 (by have:=List.mem_range.1 hn;omega))
   rw [this]
   rfl
end Go.Proofs.Ytlbbkmcegbeckaa

namespace Go.Proofs.Ytlbbkmcegbeckaa
open Go.Sx Go.Proofs
theorem us25(a:CD):@Us.u U 25 [a]=mkz a.rows:=rfl
theorem us26(a b:CD):@Us.u U 26 [a,b]=mkz (a.rows.take b.iv.toNat):=rfl
theorem us27(a b:CD):@Us.u U 27 [a,b]=levD a b.iv:=rfl
theorem b63{r:List (List CD)}:CD.sl (true&&r.isEmpty) r=mkz r:=by unfold mkz;rfl
theorem ccp{r r':List (List CD)}:(mkz r=mkz r')=(r=r'):=by rw [← b63,chl]
theorem b73{α:Type}{a b:α}:([a]=[b])=(a=b):=by simp
theorem b7r{k:IntKind}{a b:Int}:(vInt k a=vInt k b)=(a=b):=by unfold vInt;simp
theorem b5y(k:IntKind)(z:Int):CD.v (.int k z)=vInt k z:=rfl
theorem c6q{ss:List Srt}{d:CD}(hT:Typ (.sl ss) d)(h:d.isNil=true):d=.sl true []:=by
 obtain⟨m,u,hr⟩:=hT
 rcases(show(d=.sl true []∧u=.slice none 0 0)∨_ from hr) with ⟨h1,_⟩ | ⟨rows,b,off,cap,h1,_⟩ | ⟨_,h1,_⟩
 ·exact h1
 ·rw [h1] at h;cases h
 ·rw [h1] at h;cases h
theorem not_nil{ss:List Srt}{d:CD}(hT:Typ (.sl ss) d)(h:¬ d.isNil=true):d=.sl false d.rows:=by
 obtain⟨m,u,hr⟩:=hT
 rcases(show(d=.sl true []∧u=.slice none 0 0)∨_ from hr) with ⟨h1,_⟩ | ⟨rows,b,off,cap,h1,_⟩ | ⟨_,h1,_⟩
 ·rw [h1] at h;exact absurd rfl h
 ·rw [h1];rfl
 ·rw [h1];rfl
theorem dd8{r:List CD}(h:r.length=5):r=[r.getD 0 default,r.getD 1 default,r.getD 2 default,r.getD 3 default,r.getD 4 default]:=by
 match r,h with
 | [_,_,_,_,_],_=>rfl
theorem row5{l:CD}{i:Int}(hT:Typ (.sl sRun) l)(h0:0≤i)(h:i<l.len):l.rows.getD i.toNat []=[l.cell i 0,l.cell i 1,l.cell i 2,l.cell i 3,l.cell i 4]:=by
 have hl:=hT.sl.1
 have hlt:i.toNat<l.rows.length:=by omega
 have h5:=(hT.row (i:=i.toNat) (row:=l.rows.getD i.toNat []) (by rw [List.getD_eq_getElem?_getD,List.getElem?_eq_getElem hlt];rfl)).1
 exact dd8 h5
theorem cep{l:CD}{i:Int}(hT:Typ (.sl sRun) l)(h0:0≤i)(h:i<l.len):l.rows.take (i+1).toNat=l.rows.take i.toNat++[[l.cell i 0,l.cell i 1,l.cell i 2,l.cell i 3,l.cell i 4]]:=by
 rw [cc6 hT.sl.1 h0 h,row5 hT h0 h]
theorem b8e{ss:List Srt}{l:CD}{i:Int}(hT:Typ (.sl ss) l)(h:¬ i<l.len):l.rows.take i.toNat=l.rows:=cc5 hT.sl.1 h
theorem cln{l:CD}{i:Int}(h:¬ b3q l 40=true)(hT:Typ (.sl sRun) l)(h0:0≤i)(hi:i<l.len):((l.cell i 3).len:Int)≤200∧((l.cell i 4).len:Int)≤200:=cit h hT.sl.1 h0 hi
noncomputable def S97:Fsp:=⟨[(false,[sB])],[.ap .le [.ap .len [.var 0],.lit (.int .i64 200)]],[(false,[sB])],[([],[[.var 0]])],true⟩
set_option maxRecDepth 100000 in
def c9u:List VC:=[]
set_option maxRecDepth 100000 in
def c9t:List (List X×List (List X)):=[([(.ap .isnil [(.var 0)]),(.ap (.typ (.sl [(.int .u8)])) [(.var 0)]),(.ap .le [(.ap .len [(.var 0)]),(.lit (.int .i64 200))])],[[(.ap (.nil true) [])]]),
 ([(.ap .not [(.ap .isnil [(.var 0)])]),(.ap (.typ (.sl [(.int .u8)])) [(.var 0)]),(.ap .le [(.ap .len [(.var 0)]),(.lit (.int .i64 200))])],[[(.ap (.mk false) [(.ap (.mk false) [(.var 0)])])]])]
set_option maxRecDepth 100000 in
theorem dc4:runS Try.prog (b6d T0) 10 4 ⟨b4p [],hintA []⟩ Try.f97 (b4b Try.f97) S97=some (c9u,c9t):=by kernel_rfl
set_option maxHeartbeats 4000000 in
set_option maxRecDepth 100000 in
theorem c97:b3m U Try.prog 97 S97:=by
 refine b3m.of (P:=Try.prog) (U:=U) (T:=T0) (f:=97) (fn:=Try.f97) (fuel:=10) (fk:=4) (hs:=⟨b4p [],hintA []⟩) (S:=S97) (v:=c9u) (outs:=c9t) mixed hT1' at97 dc4 ?_ ?_
 ·unfold c9u
  repeat' (first | exact b44 _ | refine b3r (fun v hh=>?_) ?_)
  all_goals
   simp only [b3o,b3t,b3s,b3z,b_le,b3w,b3y,b3i,b30,b35,w_mk,b3v,w_l0,w_l1,b3e,b3d,b3u,b3b,b3c,b3g,b3f,b3o,b73] at hh ⊢
   repeat (obtain⟨_,hh⟩:=hh)
   try (first | grind [c6q,not_nil,= b3e])
 ·intro o ho σ hU hh
  obtain⟨v⟩:=σ
  cases hU
  simp only [c9t,List.mem_cons,List.not_mem_nil,or_false] at ho
  repeat' (first | (rcases ho with rfl | ho) | subst ho)
  all_goals
   refine⟨_,List.mem_cons_self ..,by simp only [b3o,b3t,b3s,b3z,b_le,b3w,b3y,b3i,b30,b35,w_mk,b3v,w_l0,w_l1,b3e,b3d,b3u,b3b,b3c,b3g,b3f],?_⟩
   simp only [b3o,b3t,b3s,b3z,b_le,b3w,b3y,b3i,b30,b35,w_mk,b3v,w_l0,w_l1,b3e,b3d,b3u,b3b,b3c,b3g,b3f,b3o,b73] at hh
   simp only [List.map_cons,List.map_nil,b3o,b3t,b3s,b3z,b_le,b3w,b3y,b3i,b30,b35,w_mk,b3v,w_l0,w_l1,b3e,b3d,b3u,b3b,b3c,b3g,b3f,w_le,cs7,crg,b3o,b73]
   repeat (obtain⟨_,hh⟩:=hh)
   try (first | grind [c6q,not_nil,= b3e])
noncomputable def T10:List (FuncId×Fsp):=[(97,S97)]
noncomputable def S50:Fsp:=⟨[(true,sRun)],[.ap .le [.ap .len [.var 3],.lit (.int .i64 200)],.ap .le [.ap .len [.var 4],.lit (.int .i64 200)]],[(true,sRun)],[([],[[.var 0,.var 1,.var 2,.var 3,.var 4]])],true⟩
set_option maxRecDepth 100000 in
theorem hT10:b70 U Try.prog T10:=.cons c97 .nil
set_option maxRecDepth 100000 in
def c9k:List VC:=[]
set_option maxRecDepth 100000 in
def c9j:List (List X×List (List X)):=[([(.ap .le [(.lit (.int .i64 (-9223372036854775808))),(.var 0)]),(.ap .le [(.var 0),(.lit (.int .i64 9223372036854775807))]),(.ap .le [(.lit (.int .i64 (-9223372036854775808))),(.var 1)]),(.ap .le [(.var 1),(.lit (.int .i64 9223372036854775807))]),(.ap .le [(.lit (.int .i64 (-9223372036854775808))),(.var 2)]),(.ap .le [(.var 2),(.lit (.int .i64 9223372036854775807))]),(.ap (.typ (.sl [(.int .u8)])) [(.var 3)]),(.ap (.typ (.sl [(.int .u8)])) [(.var 4)]),(.ap .le [(.ap .len [(.var 3)]),(.lit (.int .i64 200))]),(.ap .le [(.ap .len [(.var 4)]),(.lit (.int .i64 200))])],[[(.var 0),(.var 1),(.var 2),(.var 3),(.var 4)]])]
set_option maxRecDepth 100000 in
theorem dct:runS Try.prog (b6d (tab T10)) 10 4 ⟨b4p [],hintA []⟩ Try.f50 (b4b Try.f50) S50=some (c9k,c9j):=by kernel_rfl
set_option maxHeartbeats 4000000 in
set_option maxRecDepth 100000 in
theorem c50:b3m U Try.prog 50 S50:=by
 refine b3m.of (P:=Try.prog) (U:=U) (T:=(tab T10)) (f:=50) (fn:=Try.f50) (fuel:=10) (fk:=4) (hs:=⟨b4p [],hintA []⟩) (S:=S50) (v:=c9k) (outs:=c9j) mixed hT10 at50 dct ?_ ?_
 ·unfold c9k
  repeat' (first | exact b44 _ | refine b3r (fun v hh=>?_) ?_)
  all_goals
   simp only [b3o,b3t,b3s,b3z,b_le,b3y,b30,b3v,w_l0,w_l1,b3e,b3d,b3u,b3b,b3c,b3g,b3f,b3o,b73] at hh ⊢
   repeat (obtain⟨_,hh⟩:=hh)
   try (first | grind [= b3e])
 ·intro o ho σ hU hh
  obtain⟨v⟩:=σ
  cases hU
  simp only [c9j,List.mem_cons,List.not_mem_nil,or_false] at ho
  repeat' (first | (rcases ho with rfl | ho) | subst ho)
  all_goals
   refine⟨_,List.mem_cons_self ..,by simp only [b3o,b3t,b3s,b3z,b_le,b3y,b30,b3v,w_l0,w_l1,b3e,b3d,b3u,b3b,b3c,b3g,b3f],?_⟩
   simp only [b3o,b3t,b3s,b3z,b_le,b3y,b30,b3v,w_l0,w_l1,b3e,b3d,b3u,b3b,b3c,b3g,b3f,b3o,b73] at hh
   simp only [List.map_cons,List.map_nil,b3o,b3t,b3s,b3z,b_le,b3y,b30,b3v,w_l0,w_l1,b3e,b3d,b3u,b3b,b3c,b3g,b3f,w_le,crg,b3o,b73]
   repeat (obtain⟨_,hh⟩:=hh)
   try (first | grind [= b3e])
noncomputable def T11:List (FuncId×Fsp):=[(50,S50)]
noncomputable def lp63:Lp:=⟨[(.slot 3,.own true sRun),(.slot 8,.int .i64)],[2,6,7],[],fun F H k=>[.ap .le [zI,.var (k+2)],.ap .le [.var (k+2),.ap .len [.var 0]],.ap .le [.var k,.var (k+2)],.ap .le [.var (k+2),.var k],.ap .same [.ap (.mk true) [.var (k+1)],.ap (.usr 26) [.var 0,.var (k+2)]]],fun F H k=>.ap (.sub .i64) [.ap .len [.var 0],.var (k+2)]⟩
noncomputable def as63:Fm→HP→List X:=fun F H=>[.ap .le [.ap .len [.ap (.cell 3) [.var 0,sx F 8]],.lit (.int .i64 200)],.ap .le [.ap .len [.ap (.cell 4) [.var 0,sx F 8]],.lit (.int .i64 200)]]
noncomputable def S63:Fsp:=⟨[(false,[.sl sRun])],[.ap .le [.ap .len [.var 0],.lit (.int .i64 40)],.ap .not [.ap (.usr 0) [.var 0,.lit (.int .i64 40)]]],[(false,[.sl sRun])],[([],[[.ap (.usr 25) [.var 0]]])],true⟩
set_option maxRecDepth 100000 in
theorem hT11:b70 U Try.prog T11:=.cons c50 .nil
abbrev clf:X:=(.ap .lt [(.var 3),(.ap .len [(.var 0)])])
abbrev cvb:List X:=[(.ap (.typ (.sl [(.int .i64),(.int .i64),(.int .i64),(.sl [(.int .u8)]),(.sl [(.int .u8)])])) [(.var 0)]),(.ap .le [(.ap .len [(.var 0)]),(.lit (.int .i64 40))]),(.ap .not [(.ap (.usr 0) [(.var 0),(.lit (.int .i64 40))])])]
abbrev cle:List X:=(.ap .le [(.lit (.int .i64 0)),(.var 3)])::(.ap .le [(.var 3),(.ap .len [(.var 0)])])::(.ap .le [(.var 1),(.var 3)])::(.ap .le [(.var 3),(.var 1)])::(.ap .same [(.ap (.mk true) [(.var 2)]),(.ap (.usr 26) [(.var 0),(.var 3)])])::cvb
set_option maxRecDepth 100000 in
def c9s:List VC:=[(cvb,(.ap .same [(.ap (.mk true) [(.ap (.nil true) [])]),(.ap (.usr 26) [(.var 0),(.lit (.int .i64 0))])])),
 ((clf::cle),(.ap .le [(.ap .len [(.ap (.cell 3) [(.var 0),(.var 3)])]),(.lit (.int .i64 200))])),
 ((clf::cle),(.ap .le [(.ap .len [(.ap (.cell 4) [(.var 0),(.var 3)])]),(.lit (.int .i64 200))])),
 (((.ap .le [(.lit (.int .i64 (-9223372036854775808))),(.ap (.cell 0) [(.var 0),(.var 3)])])::(.ap .le [(.ap (.cell 0) [(.var 0),(.var 3)]),(.lit (.int .i64 9223372036854775807))])::(.ap .le [(.lit (.int .i64 (-9223372036854775808))),(.ap (.cell 1) [(.var 0),(.var 3)])])::(.ap .le [(.ap (.cell 1) [(.var 0),(.var 3)]),(.lit (.int .i64 9223372036854775807))])::(.ap .le [(.lit (.int .i64 (-9223372036854775808))),(.ap (.cell 2) [(.var 0),(.var 3)])])::(.ap .le [(.ap (.cell 2) [(.var 0),(.var 3)]),(.lit (.int .i64 9223372036854775807))])::(.ap (.typ (.sl [(.int .u8)])) [(.ap (.cell 3) [(.var 0),(.var 3)])])::(.ap (.typ (.sl [(.int .u8)])) [(.ap (.cell 4) [(.var 0),(.var 3)])])::(.ap .le [(.ap .len [(.ap (.cell 3) [(.var 0),(.var 3)])]),(.lit (.int .i64 200))])::(.ap .le [(.ap .len [(.ap (.cell 4) [(.var 0),(.var 3)])]),(.lit (.int .i64 200))])::clf::cle),(.ap .same [(.ap (.mk true) [(.ap .cat [(.var 2),(.ap .snoc [(.ap (.nil false) []),(.ap (.cell 0) [(.var 0),(.var 3)]),(.ap (.cell 1) [(.var 0),(.var 3)]),(.ap (.cell 2) [(.var 0),(.var 3)]),(.ap (.cell 3) [(.var 0),(.var 3)]),(.ap (.cell 4) [(.var 0),(.var 3)])])])]),(.ap (.usr 26) [(.var 0),(.ap (.add .i64) [(.var 3),(.lit (.int .i64 1))])])]))]
set_option maxRecDepth 100000 in
def c9r:List (List X×List (List X)):=[(((.ap .not [clf])::cle),[[(.ap (.mk true) [(.var 2)])]])]
set_option maxRecDepth 100000 in
theorem dc3:runS Try.prog (b6d (tab T11)) 10 6 ⟨b4p [(3,lp63)],hintA [(5,as63)]⟩ Try.f63 (b4b Try.f63) S63=some (c9s,c9r):=by kernel_rfl
set_option maxHeartbeats 4000000 in
set_option maxRecDepth 100000 in
theorem c63:b3m U Try.prog 63 S63:=by
 refine b3m.of (P:=Try.prog) (U:=U) (T:=(tab T11)) (f:=63) (fn:=Try.f63) (fuel:=10) (fk:=6) (hs:=⟨b4p [(3,lp63)],hintA [(5,as63)]⟩) (S:=S63) (v:=c9s) (outs:=c9r) mixed hT11 at63 dc3 ?_ ?_
 ·unfold c9s
  repeat' (first | exact b44 _ | refine b3r (fun v hh=>?_) ?_)
  all_goals
   simp only [b3o,b3t,b3s,b3z,b4d,b_lt,b_le,b3w,b3y,b3p,b30,b3k,b35,w_mk,b3l,b4e,b3v,w_l0,w_l1,b3e,b3d,b3u,b3b,b3c,b3g,b3f,us25,us26,us0,b63,ccp,b73,List.nil_append,cvb,clf,cle] at hh ⊢
   repeat (obtain⟨_,hh⟩:=hh)
   try (first | grind [cep,b8e,→ cln,= b3e])
 ·intro o ho σ hU hh
  obtain⟨v⟩:=σ
  cases hU
  simp only [c9r,List.mem_cons,List.not_mem_nil,or_false] at ho
  repeat' (first | (rcases ho with rfl | ho) | subst ho)
  all_goals
   refine⟨_,List.mem_cons_self ..,by simp only [b3o,b3t,b3s,b3z,b4d,b_lt,b_le,b3w,b3y,b3p,b30,b3k,b35,w_mk,b3l,b4e,b3v,w_l0,w_l1,b3e,b3d,b3u,b3b,b3c,b3g,b3f],?_⟩
   simp only [b3o,b3t,b3s,b3z,b4d,b_lt,b_le,b3w,b3y,b3p,b30,b3k,b35,w_mk,b3l,b4e,b3v,w_l0,w_l1,b3e,b3d,b3u,b3b,b3c,b3g,b3f,us25,us26,us0,b63,ccp,b73,List.nil_append,cvb,clf,cle] at hh
   simp only [List.map_cons,List.map_nil,b3o,b3t,b3s,b3z,b4d,b_lt,b_le,b3w,b3y,b3p,b30,b3k,b35,w_mk,b3l,b4e,b3v,w_l0,w_l1,b3e,b3d,b3u,b3b,b3c,b3g,b3f,w_lt,w_le,cs7,c1x,crg,us25,us26,us0,b63,ccp,b73,List.nil_append]
   repeat (obtain⟨_,hh⟩:=hh)
   try (first | grind [cep,b8e,→ cln,= b3e])
end Go.Proofs.Ytlbbkmcegbeckaa

namespace Go.Proofs.Ytlbbkmcegbeckaa
open Go.Sx Go.Proofs
theorem cl5:∀ a b:List UInt8,Op.bytesLess a b=decide (Lib.compareBytes a b<0)
 | [],[]=>rfl
 | [],_::_=>rfl
 | _::_,[]=>rfl
 | a::x,b::y=>by
  have ih:=cl5 x y
  unfold Op.bytesLess Lib.compareBytes
  rw [ih]
  by_cases h1:a<b
  ·simp [h1]
  ·by_cases h2:b<a
   ·simp [h1,h2]
    intro h;subst h;exact absurd h2 h1
   ·have:a=b:=by
     apply UInt8.toNat.inj
     have h1:¬ a.toNat<b.toNat:=fun h=>h1 (UInt8.lt_iff_toNat_lt.2 h)
     have h2:¬ b.toNat<a.toNat:=fun h=>h2 (UInt8.lt_iff_toNat_lt.2 h)
     omega
    simp [h1,h2,this]
theorem cx3:∀ a:List UInt8,Lib.compareBytes a a=0
 | []=>rfl
 | a::x=>by
  unfold Lib.compareBytes
  rw [cx3 x]
  simp
theorem cx4:∀ a b:List UInt8,Lib.compareBytes a b=0→a=b
 | [],[],_=>rfl
 | [],_::_,h=>by simp [Lib.compareBytes] at h
 | _::_,[],h=>by simp [Lib.compareBytes] at h
 | a::x,b::y,h=>by
  unfold Lib.compareBytes at h
  split at h
  ·cases h
  split at h
  ·cases h
  rename_i h1 h2
  have:a=b:=by
   apply UInt8.toNat.inj
   have h1:¬ a.toNat<b.toNat:=fun h=>h1 (UInt8.lt_iff_toNat_lt.2 h)
   have h2:¬ b.toNat<a.toNat:=fun h=>h2 (UInt8.lt_iff_toNat_lt.2 h)
   omega
  rw [this,cx4 x y h]
theorem c6g:∀ a b:List UInt8,Lib.compareBytes b a = - Lib.compareBytes a b
 | [],[]=>rfl
 | [],_::_=>rfl
 | _::_,[]=>rfl
 | a::x,b::y=>by
  have ih:=c6g x y
  unfold Lib.compareBytes
  by_cases h1:a<b
  ·have h2:¬ b<a:=fun h=>by
    have h1:=(UInt8.lt_iff_toNat_lt).1 h1
    have h:=(UInt8.lt_iff_toNat_lt).1 h
    omega
   simp [h1,h2]
  ·by_cases h2:b<a
   ·simp [h1,h2]
   ·simp [h1,h2,ih]
theorem dd0(a b:List UInt8):(a==b)=decide (Lib.compareBytes a b=0):=by
 rw [Bool.eq_iff_iff,beq_iff_eq,decide_eq_true_eq]
 exact⟨fun h=>by rw [h];exact cx3 b,cx4 a b⟩
abbrev strOf(a:CD):ByteArray:=(CD.v (.string ⟨(a.rows.map b8a).toArray⟩)).str
theorem b7z(a:CD):(strOf a).toList=byts a:=by
 show(⟨(a.rows.map b8a).toArray⟩:ByteArray).toList=_
 rw [ByteArray.toList_eq]
 rfl
theorem ci1(a b:CD):orV (strA .lss (strOf a) (strOf b))=b34 (decide (cmpC a b<0)):=by
 unfold strA
 simp only [b7z,cl5]
 rfl
theorem csw(a b:CD):orV (strA .geq (strOf a) (strOf b))=b34 (!decide (cmpC a b<0)):=by
 unfold strA
 simp only [b7z,cl5]
 rfl
theorem ci0(a b:CD):orV (strA .leq (strOf a) (strOf b))=b34 (decide (cmpC a b≤0)):=by
 unfold strA
 simp only [b7z,cl5,dd0]
 show b34 (decide (cmpC a b<0)||decide (cmpC a b=0))=_
 congr 1
 rw [Bool.eq_iff_iff]
 simp only [Bool.or_eq_true,decide_eq_true_eq]
 omega
theorem cgn(a b:CD):cmpC b a = - cmpC a b:=c6g _ _
end Go.Proofs.Ytlbbkmcegbeckaa

namespace Go.Proofs.Ytlbbkmcegbeckaa
open Go.Sx Go.Proofs
theorem us38(a:CD):@Us.u U 38 [a]=b34 (decide (1≤a.len)&&decide (a.len≤32)):=rfl
theorem b69{d:CD}{n:Nat}{i:Int}(h0:0≤i):(cbq n d i.toNat=true)=(1≤(d.cell i 2).iv∧(1≤(d.cell i 3).len∧(d.cell i 3).len≤32)∧(1≤(d.cell i 4).len∧(d.cell i 4).len≤32)∧¬ cmpC (d.cell i 4) (d.cell i 3)<0∧¬ (0<n∧0<i∧cmpC (d.cell i 3) (d.cell (i - 1) 4)≤0)):=by
 rw [caz h0,cgn (d.cell i 3) (d.cell i 4),cgn (d.cell (i - 1) 4) (d.cell i 3)]
 show((decide (1≤(d.cell i 2).iv)&&decide (1≤(d.cell i 3).len)&&decide ((d.cell i 3).len≤32)&&decide (1≤(d.cell i 4).len)&&decide ((d.cell i 4).len≤32)&&decide (cmpC (d.cell i 3) (d.cell i 4)≤0)&&!(decide (0<n)&&decide (0<i)&&decide (0≤cmpC (d.cell (i - 1) 4) (d.cell i 3))))=true)=_
 rw [eq_iff_iff]
 simp only [Bool.and_eq_true,decide_eq_true_eq,Bool.not_eq_true',← Bool.not_eq_true]
 constructor
 ·rintro⟨⟨⟨⟨⟨⟨a,b⟩,c⟩,d⟩,e⟩,f⟩,g⟩
  refine⟨a,⟨b,c⟩,⟨d,e⟩,by omega,fun⟨x,y,z⟩=>g ⟨⟨x,y⟩,by omega⟩⟩
 ·rintro⟨a,⟨b,c⟩,⟨d,e⟩,f,g⟩
  exact⟨⟨⟨⟨⟨⟨a,b⟩,c⟩,d⟩,e⟩,by omega⟩,fun⟨⟨x,y⟩,z⟩=>g ⟨x,y,by omega⟩⟩
theorem all_true{f:Nat→Bool}{k n:Nat}(h:(List.range k).all f=true)(hn:n≤k):(List.range n).all f=true:=by
 rw [List.all_eq_true] at *
 exact fun j hj=>h j (List.mem_range.2 (by have:=List.mem_range.1 hj;omega))
noncomputable def S57:Fsp:=⟨[(false,[sB])],[],[(false,[.bool])],[([],[[.ap (.usr 38) [.var 0]]])],true⟩
set_option maxRecDepth 100000 in
def dc0:List VC:=[]
set_option maxRecDepth 100000 in
def c9p:List (List X×List (List X)):=[([(.ap .le [(.lit (.int .i64 1)),(.ap .len [(.var 0)])]),(.ap (.typ (.sl [(.int .u8)])) [(.var 0)])],[[(.ap .le [(.ap .len [(.var 0)]),(.lit (.int .i64 32))])]]),
 ([(.ap .not [(.ap .le [(.lit (.int .i64 1)),(.ap .len [(.var 0)])])]),(.ap (.typ (.sl [(.int .u8)])) [(.var 0)])],[[(.lit (.bool false))]])]
set_option maxRecDepth 100000 in
theorem dcz:runS Try.prog (b6d T0) 10 4 ⟨b4p [],hintA []⟩ Try.f57 (b4b Try.f57) S57=some (dc0,c9p):=by kernel_rfl
set_option maxRecDepth 100000 in
theorem c57:b3m U Try.prog 57 S57:=by
 refine b3m.of (P:=Try.prog) (U:=U) (T:=T0) (f:=57) (fn:=Try.f57) (fuel:=10) (fk:=4) (hs:=⟨b4p [],hintA []⟩) (S:=S57) (v:=dc0) (outs:=c9p) mixed hT1' at57 dcz (b44 _) ?_
 intro o ho σ hU hh
 obtain⟨v⟩:=σ
 cases hU
 simp only [c9p,List.mem_cons,List.not_mem_nil,or_false] at ho
 rcases ho with rfl | rfl
 all_goals
  refine⟨_,List.mem_cons_self ..,by simp only [b3o,b3t,b3s,b3z,b4d,b40,b4l,b31,w_wr,b_lt,b_le,b_eq,b3w,b4s,b_or,b3y,b3p,b3i,b4x,b30,b33,b3k,b35,w_mk,b3l,b4e,caj,b41,b4z,b4m,b4w,b4y,b3v,b3x,b4v,w_l0,w_l1,b3e,b3d,b3u,b3b,b3c,b3g,b3f,b67,b7c,b7d,b66,b9s,b9r,b7e,cak],?_⟩
  simp only [b3o,b3t,b3s,b3z,b4d,b40,b4l,b31,w_wr,b_lt,b_le,b_eq,b3w,b4s,b_or,b3y,b3p,b3i,b4x,b30,b33,b3k,b35,w_mk,b3l,b4e,caj,b41,b4z,b4m,b4w,b4y,b3v,b3x,b4v,w_l0,w_l1,b3e,b3d,b3u,b3b,b3c,b3g,b3f,b67,b7c,b7d,b66,b9s,b9r,b7e,cak] at hh
  simp only [List.map_cons,List.map_nil,b3o,b3t,b3s,b3z,b4d,b40,b4l,b31,w_wr,b_lt,b_le,b_eq,b3w,b4s,b_or,b3y,b3p,b3i,b4x,b30,b33,b3k,b35,w_mk,b3l,b4e,caj,b41,b4z,b4m,b4w,b4y,b3v,b3x,b4v,w_l0,w_l1,b3e,b3d,b3u,b3b,b3c,b3g,b3f,b67,b7c,b7d,b66,b9s,b9r,b7e,cak,us38,w_le]
 ·obtain⟨h1,_⟩:=hh
  rw [decide_eq_true (show 1≤(v 0).len by omega),Bool.true_and]
  have e:decide ((v 0).len≤32)=decide (((v 0).len:Int)≤32):=decide_eq_decide.2 (by omega)
  rw [e]
  rfl
 ·obtain⟨h1,_⟩:=hh
  rw [decide_eq_false (show ¬ 1≤(v 0).len by omega),Bool.false_and]
  rfl
noncomputable def T17:List (FuncId×Fsp):=[(57,S57)]
noncomputable def dbu:Lp:=⟨[(.slot 3,.int .i64)],[0,2],[0],fun F H k=>[.ap .le [zI,.var k],.ap .le [.var k,.ap .len [.var 0]],.ap (.usr 23) [.var 0,.var k]],fun F H k=>.ap (.sub .i64) [.ap .len [.var 0],.var k]⟩
noncomputable def dbv:Lp:=⟨[(.slot 4,.int .i64)],[0,2,3],[0],fun F H k=>[.ap .le [zI,.var k],.ap .le [.var k,.ap .len [.ap (.cell 0) [.var 0,sx F 3]]],.ap (.usr 24) [.var 0,sx F 3,.var k]],fun F H k=>.ap (.sub .i64) [.ap .len [.ap (.cell 0) [.var 0,sx F 3]],.var k]⟩
set_option maxRecDepth 100000 in
theorem hT17:b70 U Try.prog T17:=.cons c57 .nil
abbrev cbh:X:=(.ap (.cell 0) [(.var 0),(.var 1)])
abbrev c0g:X:=(.ap (.typ (.sl [(.sl [(.int .i64),(.int .i64),(.int .i64),(.sl [(.int .u8)]),(.sl [(.int .u8)])])])) [(.var 0)])
abbrev c0h:X:=(.ap (.sbin .lss) [(.ap .str [(.ap (.cell 4) [cbh,(.var 2)])]),(.ap .str [(.ap (.cell 3) [cbh,(.var 2)])])])
abbrev c0i:X:=(.ap (.usr 24) [(.var 0),(.var 1),(.ap (.add .i64) [(.var 2),(.lit (.int .i64 1))])])
abbrev c6y:X:=(.ap (.sbin .leq) [(.ap .str [(.ap (.cell 3) [cbh,(.var 2)])]),(.ap .str [(.ap (.cell 4) [cbh,(.ap (.sub .i64) [(.var 2),(.lit (.int .i64 1))])])])])
abbrev cu3:X:=(.ap (.usr 38) [(.ap (.cell 4) [cbh,(.var 2)])])
abbrev c0j:X:=(.ap .lt [(.ap (.cell 2) [cbh,(.var 2)]),(.lit (.int .i64 1))])
abbrev cu4:X:=(.ap .lt [(.var 2),(.ap .len [cbh])])
abbrev cqf:List X:=[(.ap .le [(.lit (.int .i64 0)),(.var 1)]),(.ap .le [(.var 1),(.ap .len [(.var 0)])]),(.ap (.usr 23) [(.var 0),(.var 1)]),(.ap .not [(.ap .lt [(.lit (.int .i64 4)),(.ap .len [(.var 0)])])]),c0g]
abbrev ck6:List X:=(.ap .le [(.lit (.int .i64 0)),(.var 2)])::(.ap .le [(.var 2),(.ap .len [cbh])])::(.ap (.usr 24) [(.var 0),(.var 1),(.var 2)])::(.ap .lt [(.var 1),(.ap .len [(.var 0)])])::cqf
abbrev ck7:List X:=(.ap (.usr 38) [(.ap (.cell 3) [cbh,(.var 2)])])::(.ap .not [c0j])::cu4::ck6
abbrev cqg:List X:=(.ap .lt [(.lit (.int .i64 0)),(.var 1)])::(.ap .not [c0h])::cu3::ck7
set_option maxRecDepth 100000 in
def dcf:List VC:=[([(.ap .not [(.ap .lt [(.lit (.int .i64 4)),(.ap .len [(.var 0)])])]),c0g],(.ap (.usr 23) [(.var 0),(.lit (.int .i64 0))])),
 (((.ap .lt [(.var 1),(.ap .len [(.var 0)])])::cqf),(.ap (.usr 24) [(.var 0),(.var 1),(.lit (.int .i64 0))])),
 (((.ap .not [c6y])::(.ap .lt [(.lit (.int .i64 0)),(.var 2)])::cqg),c0i),
 (((.ap .not [(.ap .lt [(.lit (.int .i64 0)),(.var 2)])])::cqg),c0i),
 (((.ap .not [(.ap .lt [(.lit (.int .i64 0)),(.var 1)])])::(.ap .not [c0h])::cu3::ck7),c0i),
 (((.ap .not [cu4])::ck6),(.ap (.usr 23) [(.var 0),(.ap (.add .i64) [(.var 1),(.lit (.int .i64 1))])]))]
set_option maxRecDepth 100000 in
def c86:List (List X×List (List X)):=[([(.ap .lt [(.lit (.int .i64 4)),(.ap .len [(.var 0)])]),c0g],[[(.lit (.int .i64 2))]]),
 ((c0j::cu4::ck6),[[(.lit (.int .i64 2))]]),
 (((.ap .not [(.ap (.usr 38) [(.ap (.cell 3) [cbh,(.var 2)])])])::(.ap .not [c0j])::cu4::ck6),[[(.lit (.int .i64 2))]]),
 (((.ap .not [cu3])::ck7),[[(.lit (.int .i64 2))]]),
 ((c0h::cu3::ck7),[[(.lit (.int .i64 2))]]),
 ((c6y::(.ap .lt [(.lit (.int .i64 0)),(.var 2)])::cqg),[[(.lit (.int .i64 2))]]),
 (((.ap .not [(.ap .lt [(.var 1),(.ap .len [(.var 0)])])])::cqf),[[(.lit (.int .i64 0))]])]
set_option maxRecDepth 100000 in
theorem dce:runS Try.prog (b6d (tab T17)) 10 10 ⟨b4p [(4,dbu),(7,dbv)],hintA []⟩ Try.f17 (b4b Try.f17) S16=some (dcf,c86):=by kernel_rfl
set_option maxRecDepth 100000 in
theorem c17:b3m U Try.prog 17 S16:=by
 refine b3m.of (P:=Try.prog) (U:=U) (T:=(tab T17)) (f:=17) (fn:=Try.f17) (fuel:=10) (fk:=10) (hs:=⟨b4p [(4,dbu),(7,dbv)],hintA []⟩) (S:=S16) (v:=dcf) (outs:=c86) mixed hT17 at17 dce ?_ ?_
 ·refine b3r (fun v hh=>?_) (b3r (fun v hh=>?_) (b3r (fun v hh=>?_) (b3r (fun v hh=>?_) (b3r (fun v hh=>?_) (b3r (fun v hh=>?_) (b44 _))))))
  all_goals simp only [cqf,ck6,ck7,cqg,b3o,b3t,b3s,b3z,b4d,b40,b4l,b31,w_wr,b_lt,b_le,b_eq,b3w,b4s,b_or,b3y,b3p,b3i,b4x,b30,b33,b3k,b35,w_mk,b3l,b4e,caj,b41,b4z,b4m,b4w,b4y,b3v,b3x,b4v,w_l0,w_l1,b3e,b3d,b3u,b3b,b3c,b3g,b3f,b67,b7c,b7d,b66,b9s,b9r,b7e,cak,us23,us24,us38,ci1,ci0,Bool.and_eq_true,decide_eq_true_eq] at hh ⊢
  ·rfl
  ·rfl
  ·obtain⟨h1,h2,h3,h4,h5,h6,h7,h8,h9,h10,h11,_⟩:=hh
   rw [b47 h9,h11,Bool.true_and,b69 h9]
   exact⟨by omega,h6,h5,h4,fun⟨_,_,h⟩=>h1 h⟩
  ·obtain⟨h2,h3,h4,h5,h6,h7,h8,h9,h10,h11,_⟩:=hh
   rw [b47 h9,h11,Bool.true_and,b69 h9]
   exact⟨by omega,h6,h5,h4,fun⟨_,h,_⟩=>h2 h⟩
  ·obtain⟨h3,h4,h5,h6,h7,h8,h9,h10,h11,_⟩:=hh
   rw [b47 h9,h11,Bool.true_and,b69 h9]
   exact⟨by omega,h6,h5,h4,fun⟨h,_,_⟩=>h3 (by omega)⟩
  ·obtain⟨h1,h2,h3,h4,h5,h6,h7,h8,h9,hT,_⟩:=hh
   have hl:=(hT.cell (j:=0) h6 h5 rfl).sl.1
   rw [b47 h6,h8,Bool.true_and]
   have e:(v 0).cell ((v 1).iv.toNat:Nat) 0=(v 0).cell (v 1).iv 0:=by rw [Int.toNat_of_nonneg h6]
   unfold cr6
   rw [e]
   exact all_true h4 (by omega)
 ·intro o ho σ hU hh
  obtain⟨v⟩:=σ
  cases hU
  simp only [c86,List.mem_cons,List.not_mem_nil,or_false] at ho
  rcases ho with rfl | rfl | rfl | rfl | rfl | rfl | rfl
  all_goals
   refine⟨_,List.mem_cons_self ..,by simp only [b3o,b3t,b3s,b3z,b4d,b40,b4l,b31,w_wr,b_lt,b_le,b_eq,b3w,b4s,b_or,b3y,b3p,b3i,b4x,b30,b33,b3k,b35,w_mk,b3l,b4e,caj,b41,b4z,b4m,b4w,b4y,b3v,b3x,b4v,w_l0,w_l1,b3e,b3d,b3u,b3b,b3c,b3g,b3f,b67,b7c,b7d,b66,b9s,b9r,b7e,cak],?_⟩
   simp only [cqf,ck6,ck7,cqg,b3o,b3t,b3s,b3z,b4d,b40,b4l,b31,w_wr,b_lt,b_le,b_eq,b3w,b4s,b_or,b3y,b3p,b3i,b4x,b30,b33,b3k,b35,w_mk,b3l,b4e,caj,b41,b4z,b4m,b4w,b4y,b3v,b3x,b4v,w_l0,w_l1,b3e,b3d,b3u,b3b,b3c,b3g,b3f,b67,b7c,b7d,b66,b9s,b9r,b7e,cak,us23,us24,us38,ci1,ci0,Bool.and_eq_true,decide_eq_true_eq] at hh
   simp only [List.map_cons,List.map_nil,b3o,b3t,b3s,b3z,b4d,b40,b4l,b31,w_wr,b_lt,b_le,b_eq,b3w,b4s,b_or,b3y,b3p,b3i,b4x,b30,b33,b3k,b35,w_mk,b3l,b4e,caj,b41,b4z,b4m,b4w,b4y,b3v,b3x,b4v,w_l0,w_l1,b3e,b3d,b3u,b3b,b3c,b3g,b3f,b67,b7c,b7d,b66,b9s,b9r,b7e,cak,us22]
  ·obtain⟨h1,hT,_⟩:=hh
   rw [cbf h1]
   rfl
  ·obtain⟨h7,h8,h9,h10,h11,h12,h13,h14,h15,h16,hT,_⟩:=hh
   rw [b6t hT h13 h12 h9 h8 (by rw [← Bool.not_eq_true,b69 h9];rintro⟨a,_⟩;omega)]
   rfl
  ·obtain⟨h6,h7,h8,h9,h10,h11,h12,h13,h14,h15,h16,hT,_⟩:=hh
   rw [b6t hT h13 h12 h9 h8 (by rw [← Bool.not_eq_true,b69 h9];rintro⟨a,b,_⟩;exact h6 b)]
   rfl
  ·obtain⟨h5,h6,h7,h8,h9,h10,h11,h12,h13,h14,h15,h16,hT,_⟩:=hh
   rw [b6t hT h13 h12 h9 h8 (by rw [← Bool.not_eq_true,b69 h9];rintro⟨a,_,b,_⟩;exact h5 b)]
   rfl
  ·obtain⟨h4,h5,h6,h7,h8,h9,h10,h11,h12,h13,h14,h15,h16,hT,_⟩:=hh
   rw [b6t hT h13 h12 h9 h8 (by rw [← Bool.not_eq_true,b69 h9];rintro⟨a,_,_,b,_⟩;exact b h4)]
   rfl
  ·obtain⟨h1,h2,h3,h4,h5,h6,h7,h8,h9,h10,h11,h12,h13,h14,h15,h16,hT,_⟩:=hh
   rw [b6t hT h13 h12 h9 h8 (by rw [← Bool.not_eq_true,b69 h9];rintro⟨a,_,_,_,b⟩;exact b ⟨by omega,h2,h1⟩)]
   rfl
  ·obtain⟨h2,h3,h4,h5,h6,hT,_⟩:=hh
   have:b4c (v 0)=true:=by
    unfold b4c
    have hl:=hT.sl.1
    rw [Bool.and_eq_true,decide_eq_true_eq]
    exact⟨by omega,all_true h5 (by omega)⟩
   rw [this]
   rfl
end Go.Proofs.Ytlbbkmcegbeckaa
