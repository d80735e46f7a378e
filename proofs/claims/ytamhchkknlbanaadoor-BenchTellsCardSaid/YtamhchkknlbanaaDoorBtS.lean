/-
  Contracts of a seat's functions: two deeds; a deed of numbers; its numbers. Conditions: none.
-/
import Derived.Test.YtamhchkknlbanaaDoorBtB
import Derived.Test.YtamhchkknlbanaaDoorBtR
set_option linter.unusedSectionVars false
set_option linter.unusedVariables false
set_option linter.unusedSimpArgs false
set_option linter.all false
namespace Go.Proofs.YtamhchkknlbanaaDoor.Be
open Go.Sx Go.Proofs
noncomputable def bbr:Fsp:=⟨[(true,ajr),(true,ajr)],[],[(false,[.bool])],[([],[[.ap (.usr 296) [.var 0,.var 1,.var 2,.var 3,.var 4,.var 5,.var 6,.var 7,.var 8,.var 9,.var 10,.var 11,.var 12,.var 13,.var 14,.var 15,.var 16,.var 17]]])],true⟩
noncomputable def lp8g:Lp:=⟨[(.slot 5,.int .i64)],[2,3,4],[],fun F H k=>[.ap .le [zI,.var k],.ap .le [.var k,.ap .len [.var 8]],.ap .le [.var k,.ap .len [.var 17]],.ap .eq [.ap .len [.var 8],.ap .len [.var 17]],.ap (.usr 297) [.var 8,.var 17,.var k]],fun F H k=>.ap (.sub .i64) [.ap .len [.var 8],.var k]⟩
abbrev ajp:X:=(.ap .len [(.var 8)])
abbrev bee:List X:=[(.ap .le [mnX,(.var 0)]),(.ap .le [(.var 0),mxX]),(.ap .le [mnX,(.var 1)]),(.ap .le [(.var 1),mxX]),(.ap .le [mnX,(.var 2)]),(.ap .le [(.var 2),mxX]),(.ap .le [mnX,(.var 3)]),(.ap .le [(.var 3),mxX]),(.ap .le [(.lit (.int .u8 0)),(.var 5)]),(.ap .le [(.var 5),(.lit (.int .u8 255))]),(.ap .le [mnX,(.var 6)]),(.ap .le [(.var 6),mxX]),(.ap (.typ (.sl [(.int .u8)])) [(.var 7)]),(.ap (.typ (.sl [.bool])) [(.var 8)]),(.ap .le [mnX,(.var 9)]),(.ap .le [(.var 9),mxX]),(.ap .le [mnX,(.var 10)]),(.ap .le [(.var 10),mxX]),(.ap .le [mnX,(.var 11)]),(.ap .le [(.var 11),mxX]),(.ap .le [mnX,(.var 12)]),(.ap .le [(.var 12),mxX]),(.ap .le [(.lit (.int .u8 0)),(.var 14)]),(.ap .le [(.var 14),(.lit (.int .u8 255))]),(.ap .le [mnX,(.var 15)]),(.ap .le [(.var 15),mxX]),(.ap (.typ (.sl [(.int .u8)])) [(.var 16)]),(.ap (.typ (.sl [.bool])) [(.var 17)])]
abbrev bef:List X:=(.ap .le [ajp,(.ap .len [(.var 17)])])::(.ap .le [(.ap .len [(.var 17)]),ajp])::(.ap .eq [ajp,(.ap .len [(.var 17)])])::bee
abbrev awm:List X:=(.ap .le [(I 0),(.var 18)])::(.ap .le [(.var 18),ajp])::(.ap .le [(.var 18),(.ap .len [(.var 17)])])::(.ap .eq [ajp,(.ap .len [(.var 17)])])::(.ap (.usr 297) [(.var 8),(.var 17),(.var 18)])::bef
abbrev az3:List X:=(.ap .eq [(.var 1),(.var 10)])::(.ap .eq [(.var 0),(.var 9)])::(.ap .not [(.ap .lt [(.var 18),ajp])])::awm
abbrev a7x:List X:=(.ap .eq [(.var 4),(.var 13)])::(.ap .eq [(.var 3),(.var 12)])::(.ap .eq [(.var 2),(.var 11)])::az3
set_option maxRecDepth 100000 in
def bv8:List VC:=[(bef,(.ap (.usr 297) [(.var 8),(.var 17),(I 0)])),
 (((.ap .eq [(.ap (.cell 0) [(.var 8),(.var 18)]),(.ap (.cell 0) [(.var 17),(.var 18)])])::(.ap .lt [(.var 18),ajp])::awm),(.ap (.usr 297) [(.var 8),(.var 17),(.ap (.add .i64) [(.var 18),(I 1)])]))]
set_option maxRecDepth 100000 in
def bv7:List (List X×List (List X)):=[(((.ap .not [(.ap .eq [ajp,(.ap .len [(.var 17)])])])::bee),[[(.lit (.bool false))]]),
 (((.ap .not [(.ap .eq [(.ap (.cell 0) [(.var 8),(.var 18)]),(.ap (.cell 0) [(.var 17),(.var 18)])])])::(.ap .lt [(.var 18),ajp])::awm),[[(.lit (.bool false))]]),
 (((.ap .eq [(.var 6),(.var 15)])::(.ap .eq [(.var 5),(.var 14)])::a7x),[[(.ap .eq [(.ap .str [(.var 7)]),(.ap .str [(.var 16)])])]]),
 (((.ap .not [(.ap .eq [(.var 6),(.var 15)])])::(.ap .eq [(.var 5),(.var 14)])::a7x),[[(.lit (.bool false))]]),
 (((.ap .not [(.ap .eq [(.var 5),(.var 14)])])::a7x),[[(.lit (.bool false))]]),
 (((.ap .not [(.ap .eq [(.var 4),(.var 13)])])::(.ap .eq [(.var 3),(.var 12)])::(.ap .eq [(.var 2),(.var 11)])::az3),[[(.lit (.bool false))]]),
 (((.ap .not [(.ap .eq [(.var 3),(.var 12)])])::(.ap .eq [(.var 2),(.var 11)])::az3),[[(.lit (.bool false))]]),
 (((.ap .not [(.ap .eq [(.var 2),(.var 11)])])::az3),[[(.lit (.bool false))]]),
 (((.ap .not [(.ap .eq [(.var 1),(.var 10)])])::(.ap .eq [(.var 0),(.var 9)])::(.ap .not [(.ap .lt [(.var 18),ajp])])::awm),[[(.lit (.bool false))]]),
 (((.ap .not [(.ap .eq [(.var 0),(.var 9)])])::(.ap .not [(.ap .lt [(.var 18),ajp])])::awm),[[(.lit (.bool false))]])]
set_option maxRecDepth 100000 in
theorem bz9:runS Tryd.prog (ahj T0) 10 20 ⟨afu [(4,lp8g)],hintA [(3,fun F H=>[.ap .le [.ap .len [.var 8],.ap .len [.var 17]],.ap .le [.ap .len [.var 17],.ap .len [.var 8]]])]⟩ Tryd.f8 (acv Tryd.f8) bbr=some (bv8,bv7):=by kernel_rfl
theorem bh3{a b:CD}(h:a.rows.map adv=b.rows.map adv):a.len=b.len:=by
 have:=congrArg List.length h
 rw [List.length_map,List.length_map] at this
 unfold CD.len
 rw [this]
theorem b05(a b:List (List CD)):eqC (.v (.string ⟨(a.map ada).toArray⟩)) (.v (.string ⟨(b.map ada).toArray⟩))=decide (a.map ada=b.map ada):=by
 rw [Bool.eq_iff_iff,arl,decide_eq_true_eq,ByteArray.toList_eq,ByteArray.toList_eq]
theorem atn{f:List CD→Bool}{r:List (List CD)}{i:Int}(h0:0≤i)(hi:i<(r.length:Int)):(r.take (i+1).toNat).map f=(r.take i.toNat).map f++[f (r.getD i.toNat [])]:=by
 have hlt:i.toNat<r.length:=by omega
 rw [show(i+1).toNat=i.toNat+1 by omega,List.take_add_one,List.getElem?_eq_getElem hlt,List.map_append]
 have:r.getD i.toNat []=r[i.toNat]:=by
  rw [List.getD_eq_getElem?_getD,List.getElem?_eq_getElem hlt]
  rfl
 rw [this]
 rfl
theorem as3{d:CD}{i:Int}:adv (d.rows.getD i.toNat [])=(d.cell i 0).bv:=rfl
theorem a0n{d:CD}{i:Int}(hT:Typ sOs d)(h0:0≤i)(hi:i<(d.len:Int)):d.cell i 0=aav (d.cell i 0).bv:=by
 obtain⟨_,_,x,hx,_⟩:=hT.cell h0 hi (j:=0) rfl
 rw [hx]
 rfl
theorem bht{a b:CD}{i:Int}(hA:Typ sOs a)(hB:Typ sOs b)(h0:0≤i)(hi:i<(a.len:Int))(hi':i<(b.len:Int))(h:(a.rows.take i.toNat).map adv=(b.rows.take i.toNat).map adv)(he:eqC (a.cell i 0) (b.cell i 0)=true):(a.rows.take (i+1).toNat).map adv=(b.rows.take (i+1).toNat).map adv:=by
 rw [a0n hA h0 hi,a0n hB h0 hi',bcd] at he
 rw [hA.sl.1] at hi
 rw [hB.sl.1] at hi'
 rw [atn h0 hi,atn h0 hi',h,as3,as3,he]
theorem btd{a b:CD}{i:Int}(hA:Typ sOs a)(hB:Typ sOs b)(h0:0≤i)(hi:i<(a.len:Int))(hi':i<(b.len:Int))(he:¬ eqC (a.cell i 0) (b.cell i 0)=true):¬ a.rows.map adv=b.rows.map adv:=by
 rw [a0n hA h0 hi,a0n hB h0 hi',bcd] at he
 intro h
 apply he
 have h1:=congrArg (fun l=>l.take (i+1).toNat) h
 simp only [← List.map_take] at h1
 rw [hA.sl.1] at hi
 rw [hB.sl.1] at hi'
 rw [atn h0 hi,atn h0 hi'] at h1
 have:=List.append_inj_right' h1 rfl
 rw [as3,as3] at this
 simpa using this
theorem bme{x0 x1 x2 x3 x4 x5 x6 x7 x8 x9 x10 x11 x12 x13 x14 x15 x16 x17:CD}(h:¬ x8.rows.map adv=x17.rows.map adv):asx [x0,x1,x2,x3,x4,x5,x6,x7,x8,x9,x10,x11,x12,x13,x14,x15,x16,x17]=false:=by
 unfold asx
 have h:¬ ([x0,x1,x2,x3,x4,x5,x6,x7,x8,x9,x10,x11,x12,x13,x14,x15,x16,x17].getD 8 default).rows.map adv=([x0,x1,x2,x3,x4,x5,x6,x7,x8,x9,x10,x11,x12,x13,x14,x15,x16,x17].getD 17 default).rows.map adv:=h
 rw [decide_eq_false h]
 rfl
set_option maxHeartbeats 1000000 in
set_option maxRecDepth 100000 in
theorem b29:abk U Tryd.prog 8 bbr:=by
 refine abk.of (P:=Tryd.prog) (U:=U) (T:=T0) (f:=8) (fn:=Tryd.f8) (fuel:=10) (fk:=20) (hs:=⟨afu [(4,lp8g)],hintA [(3,fun F H=>[.ap .le [.ap .len [.var 8],.ap .len [.var 17]],.ap .le [.ap .len [.var 17],.ap .len [.var 8]]])]⟩) (S:=bbr) (v:=bv8) (outs:=bv7) mixed hT0 at8 bz9 ?_ ?_
 ·unfold bv8
  repeat' (first | exact ae1 _ | refine ae3 (fun v hh=>?_) ?_)
  all_goals
   simp only [aay,aa5,aax,aa4,aa3,abr,abf,aam,w_wr,b_lt,b_le,b_eq,aaz,abl,b_or,aa1,aaj,aag,abp,abd,aal,aan,aa2,w_mk,aao,aa9,abo,abj,abg,aa6,aa8,abq,aa0,aau,abe,w_l0,w_l1,aaf,aae,aaw,aac,aad,aak,aai,aaq,aar,aas,aap,abn,abm,aat,abh,w_eq,a9j,bee,ajp,bef,awm,az3,a7x,aa7] at hh ⊢
  ·have hA:Typ sOs (v 8):=by simp only [hh]
   have hB:Typ sOs (v 17):=by simp only [hh]
   exact decide_eq_true (show((v 8).rows.take (Int.toNat 0)).map adv=((v 17).rows.take (Int.toNat 0)).map adv from rfl)
  ·have hA:Typ sOs (v 8):=by simp only [hh]
   have hB:Typ sOs (v 17):=by simp only [hh]
   have h0:0≤(v 18).iv:=by simp only [hh]
   have hi:(v 18).iv<((v 8).len:Int):=hh.2.1
   have hl:((v 8).len:Int)≤(v 17).len:=by simp only [hh]
   have h1:((v 8).rows.take (v 18).iv.toNat).map adv=((v 17).rows.take (v 18).iv.toNat).map adv:=of_decide_eq_true hh.2.2.2.2.2.2.1
   exact decide_eq_true (bht hA hB h0 hi (by omega) h1 hh.1)
 ·intro o ho σ hU hh
  obtain⟨v⟩:=σ
  cases hU
  simp only [bv7,List.mem_cons,List.not_mem_nil,or_false] at ho
  repeat' (first | (rcases ho with rfl | ho) | subst ho)
  all_goals
   refine⟨_,List.mem_cons_self ..,by simp only [aay,aa5,aax,aa4,aa3,abr,abf,aam,w_wr,b_lt,b_le,b_eq,aaz,abl,b_or,aa1,aaj,aag,abp,abd,aal,aan,aa2,w_mk,aao,aa9,abo,abj,abg,aa6,aa8,abq,aa0,aau,abe,w_l0,w_l1,aaf,aae,aaw,aac,aad,aak,aai,aaq,aar,aas,aap,abn,abm,aat,abh],?_⟩
   simp only [aay,aa5,aax,aa4,aa3,abr,abf,aam,w_wr,b_lt,b_le,b_eq,aaz,abl,b_or,aa1,aaj,aag,abp,abd,aal,aan,aa2,w_mk,aao,aa9,abo,abj,abg,aa6,aa8,abq,aa0,aau,abe,w_l0,w_l1,aaf,aae,aaw,aac,aad,aak,aai,aaq,aar,aas,aap,abn,abm,aat,abh,w_eq,a9j,bee,ajp,bef,awm,az3,a7x,aa7] at hh
   simp only [List.map_cons,List.map_nil,aay,aa5,aax,aa4,aa3,abr,abf,aam,w_wr,b_lt,b_le,b_eq,aaz,abl,b_or,aa1,aaj,aag,abp,abd,aal,aan,aa2,w_mk,aao,aa9,abo,abj,abg,aa6,aa8,abq,aa0,aau,abe,w_l0,w_l1,aaf,aae,aaw,aac,aad,aak,aai,aaq,aar,aas,aap,abn,abm,aat,abh,w_lt,w_le,w_eq,ao0,as0,w_or,akp,aiw,ao1,acu,aa7,abx]
   have hA:Typ sOs (v 8):=by simp only [hh]
   have hB:Typ sOs (v 17):=by simp only [hh]
  ·rw [bme (show ¬ (v 8).rows.map adv=(v 17).rows.map adv from fun h=>hh.1 (ad3.mpr (by rw [bh3 h])))]
  ·have h0:0≤(v 18).iv:=by simp only [hh]
   have hi:(v 18).iv<((v 8).len:Int):=hh.2.1
   have hl:((v 8).len:Int)≤(v 17).len:=by simp only [hh]
   rw [bme (btd hA hB h0 hi (by omega) hh.1)]
  all_goals
   have hi:¬ (v 18).iv<((v 8).len:Int):=by simp only [hh,not_false_eq_true]
   have hl:((v 17).len:Int)≤(v 8).len:=by simp only [hh]
   have hh0:=hh
   have h1:((v 8).rows.take (v 18).iv.toNat).map adv=((v 17).rows.take (v 18).iv.toNat).map adv:=by
    repeat (first | exact hh.1 | exact of_decide_eq_true hh.1 | replace hh:=hh.2)
   have h2:(v 8).rows.map adv=(v 17).rows.map adv:=by
    have l1:=hA.sl.1
    have l2:=hB.sl.1
    rw [List.take_of_length_le (by omega),List.take_of_length_le (by omega)] at h1
    exact h1
   simp only [asx,List.getD_cons_zero,List.getD_cons_succ,h2,decide_true,Bool.true_and]
   simp [hh,b05]
noncomputable def bn6:Fsp:=⟨[(true,ajr)],preD,[(false,[.sl [sI]])],[([],[[.ap (.usr 286) [.var 0,.var 1,.var 2,.var 3,.var 5,.var 6]]])],true⟩
abbrev ash:X:=(.ap .snoc [(.ap (.nil false) []),(.var 1)])
abbrev a7o:List X:=[(.ap .le [mnX,(.var 0)]),(.ap .le [(.var 0),mxX]),(.ap .le [mnX,(.var 1)]),(.ap .le [(.var 1),mxX]),(.ap .le [mnX,(.var 2)]),(.ap .le [(.var 2),mxX]),(.ap .le [mnX,(.var 3)]),(.ap .le [(.var 3),mxX]),(.ap .le [(.lit (.int .u8 0)),(.var 5)]),(.ap .le [(.var 5),(.lit (.int .u8 255))]),(.ap .le [mnX,(.var 6)]),(.ap .le [(.var 6),mxX]),(.ap (.typ (.sl [(.int .u8)])) [(.var 7)]),(.ap (.typ (.sl [.bool])) [(.var 8)]),(.ap (.typ sI) [(.var 0)]),(.ap (.typ sI) [(.var 1)]),(.ap (.typ sI) [(.var 2)]),(.ap (.typ sI) [(.var 3)]),(.ap (.typ .bool) [(.var 4)]),(.ap (.typ (.int .u8)) [(.var 5)]),(.ap (.typ sI) [(.var 6)])]
abbrev a7p:List X:=(.ap .not [(.ap .eq [(.var 0),(I 8)])])::(.ap .not [(.ap .eq [(.var 0),(I 7)])])::(.ap .not [(.ap .eq [(.var 0),(I 6)])])::a7o
abbrev beb:List X:=(.ap .not [(.ap .eq [(.var 0),(I 10)])])::(.ap .not [(.ap .eq [(.var 0),(I 11)])])::(.ap .not [(.ap .eq [(.var 0),(I 9)])])::a7p
set_option maxRecDepth 100000 in
def bv2:List VC:=[]
set_option maxRecDepth 100000 in
def bv1:List (List X×List (List X)):=[(((.ap .eq [(.var 0),(I 6)])::a7o),[[(.ap (.mk false) [(.ap .snoc [(.ap .snoc [(.ap (.nil false) []),(.var 2)]),(.var 3)])])]]),
 (((.ap .eq [(.var 0),(I 7)])::(.ap .not [(.ap .eq [(.var 0),(I 6)])])::a7o),[[(.ap (.mk false) [(.ap .snoc [ash,(.var 3)])])]]),
 (((.ap .eq [(.var 0),(I 8)])::(.ap .not [(.ap .eq [(.var 0),(I 7)])])::(.ap .not [(.ap .eq [(.var 0),(I 6)])])::a7o),[[(.ap (.mk false) [(.ap .snoc [ash,(.var 6)])])]]),
 (((.ap .eq [(.var 0),(I 9)])::a7p),[[(.ap (.mk false) [ash])]]),
 (((.ap .eq [(.var 0),(I 11)])::(.ap .not [(.ap .eq [(.var 0),(I 9)])])::a7p),[[(.ap (.mk false) [ash])]]),
 (((.ap .eq [(.var 0),(I 10)])::(.ap .not [(.ap .eq [(.var 0),(I 11)])])::(.ap .not [(.ap .eq [(.var 0),(I 9)])])::a7p),[[(.ap (.mk false) [(.ap .snoc [ash,(.var 2)])])]]),
 (((.ap .eq [(.var 0),(I 12)])::beb),[[(.ap (.mk false) [(.ap .snoc [ash,(.var 2)])])]]),
 (((.ap .eq [(.var 0),(I 13)])::(.ap .not [(.ap .eq [(.var 0),(I 12)])])::beb),[[(.ap (.mk false) [(.ap .snoc [(.ap .snoc [(.ap .snoc [ash,(.var 2)]),(.var 3)]),(.ap (.cast .i64) [(.var 5)])])])]]),
 (((.ap .not [(.ap .eq [(.var 0),(I 13)])])::(.ap .not [(.ap .eq [(.var 0),(I 12)])])::beb),[[(.ap (.mk false) [(.ap .snoc [(.ap (.nil false) []),(.var 2)])])]])]
set_option maxRecDepth 100000 in
theorem bz4:runS Tryd.prog (ahj T0) 10 20 ⟨afu [],hintA []⟩ Tryd.f35 (acv Tryd.f35) bn6=some (bv2,bv1):=by kernel_rfl
set_option maxHeartbeats 1000000 in
set_option maxRecDepth 100000 in
theorem b23:abk U Tryd.prog 35 bn6:=by
 refine abk.of (P:=Tryd.prog) (U:=U) (T:=T0) (f:=35) (fn:=Tryd.f35) (fuel:=10) (fk:=20) (hs:=⟨afu [],hintA []⟩) (S:=bn6) (v:=bv2) (outs:=bv1) mixed hT0 at35 bz4 ?_ ?_
 ·unfold bv2
  exact ae1 _
 ·intro o ho σ hU hh
  obtain⟨v⟩:=σ
  cases hU
  simp only [bv1,List.mem_cons,List.not_mem_nil,or_false] at ho
  repeat' (first | (rcases ho with rfl | ho) | subst ho)
  all_goals
   refine⟨_,List.mem_cons_self ..,by simp only [aay,aa5,aax,aa4,aa3,abr,abf,aam,w_wr,b_lt,b_le,b_eq,aaz,abl,b_or,aa1,aaj,aag,abp,abd,aal,aan,aa2,w_mk,aao,aa9,abo,abj,abg,aa6,aa8,abq,aa0,aau,abe,w_l0,w_l1,aaf,aae,aaw,aac,aad,aak,aai,aaq,aar,aas,aap,abn,abm,aat,abh],?_⟩
   simp only [aay,aa5,aax,aa4,aa3,abr,abf,aam,w_wr,b_lt,b_le,b_eq,aaz,abl,b_or,aa1,aaj,aag,abp,abd,aal,aan,aa2,w_mk,aao,aa9,abo,abj,abg,aa6,aa8,abq,aa0,aau,abe,w_l0,w_l1,aaf,aae,aaw,aac,aad,aak,aai,aaq,aar,aas,aap,abn,abm,aat,abh,w_eq,a7o,ash,a7p,beb,aa7] at hh
   simp only [List.map_cons,List.map_nil,aay,aa5,aax,aa4,aa3,abr,abf,aam,w_wr,b_lt,b_le,b_eq,aaz,abl,b_or,aa1,aaj,aag,abp,abd,aal,aan,aa2,w_mk,aao,aa9,abo,abj,abg,aa6,aa8,abq,aa0,aau,abe,w_l0,w_l1,aaf,aae,aaw,aac,aad,aak,aai,aaq,aar,aas,aap,abn,abm,aat,abh,w_lt,w_le,w_eq,ao0,as0,w_or,akp,aiw,ao1,acs,aa7]
   have hA0:Typ sI (v 0):=by simp only [hh]
   have hA1:Typ sI (v 1):=by simp only [hh]
   have hA2:Typ sI (v 2):=by simp only [hh]
   have hA3:Typ sI (v 3):=by simp only [hh]
   have hA6:Typ sI (v 6):=by simp only [hh]
   have e0:=ae0 hA0
   have e1:=ae0 hA1
   have e2:=ae0 hA2
   have e3:=ae0 hA3
   have e6:=ae0 hA6
   generalize (v 0).iv=z0 at *
   generalize (v 1).iv=z1 at *
   generalize (v 2).iv=z2 at *
   generalize (v 3).iv=z3 at *
   generalize (v 6).iv=z6 at *
   simp only [e0,ad3] at hh
   simp only [e1,e2,e3,e6]
   clear hA0 hA1 hA2 hA3 hA6 e0 e1 e2 e3 e6
   simp [af6,hh,intRow,aaf]
noncomputable def bbo:Fsp:=⟨[(false,[sI]),(false,[.sl [sI]])],[.ap (.typ sI) [.var 0],.ap .le [.ap (.usr 289) [.var 0],.ap .len [.var 1]]],[(true,ajr)],[([],[[.var 0,.ap (.usr 290) [.var 0,.var 1],.ap (.usr 291) [.var 0,.var 1],.ap (.usr 292) [.var 0,.var 1],.lit (.bool false),.ap (.usr 293) [.var 0,.var 1],.ap (.usr 294) [.var 0,.var 1],.ap (.nil true) [],.ap (.nil true) []]])],true⟩
noncomputable def lenA(n:Int):Fm→HP→List X:=fun F H=>[.ap .le [I n,.ap .len [.var 1]]]
abbrev agj:X:=(.ap .le [(I 1),(.ap .len [(.var 1)])])
abbrev adx:X:=(.ap (.nil true) [])
abbrev ahm:X:=(.ap (.cell 0) [(.var 1),(I 0)])
abbrev akn:X:=(.ap .le [(I 2),(.ap .len [(.var 1)])])
abbrev asa:X:=(.ap (.cell 0) [(.var 1),(I 1)])
abbrev asb:X:=(.ap .eq [(.var 0),(I 1)])
abbrev asc:X:=(.ap .eq [(.var 0),(I 3)])
abbrev ase:X:=(.ap .eq [(.var 0),(I 6)])
abbrev asf:X:=(.ap .eq [(.var 0),(I 9)])
abbrev ar6:List X:=[(.ap .le [mnX,(.var 0)]),(.ap .le [(.var 0),mxX]),(.ap (.typ (.sl [sI])) [(.var 1)]),(.ap (.typ sI) [(.var 0)]),(.ap .le [(.ap (.usr 289) [(.var 0)]),(.ap .len [(.var 1)])])]
abbrev bd5:List X:=(.ap .eq [(.var 0),(I 14)])::(.ap .not [(.ap .eq [(.var 0),(I 2)])])::(.ap .not [asb])::ar6
abbrev ar7:List X:=(.ap .not [(.ap .eq [(.var 0),(I 14)])])::(.ap .not [(.ap .eq [(.var 0),(I 2)])])::(.ap .not [asb])::ar6
abbrev bd6:List X:=(.ap .eq [(.var 0),(I 5)])::(.ap .not [(.ap .eq [(.var 0),(I 4)])])::(.ap .not [asc])::ar7
abbrev ar8:List X:=(.ap .not [(.ap .eq [(.var 0),(I 5)])])::(.ap .not [(.ap .eq [(.var 0),(I 4)])])::(.ap .not [asc])::ar7
abbrev bd7:List X:=(.ap .eq [(.var 0),(I 8)])::(.ap .not [(.ap .eq [(.var 0),(I 7)])])::(.ap .not [ase])::ar8
abbrev ar9:List X:=(.ap .not [(.ap .eq [(.var 0),(I 8)])])::(.ap .not [(.ap .eq [(.var 0),(I 7)])])::(.ap .not [ase])::ar8
abbrev bd8:List X:=(.ap .eq [(.var 0),(I 10)])::(.ap .not [(.ap .eq [(.var 0),(I 11)])])::(.ap .not [asf])::ar9
abbrev aze:List X:=(.ap .not [(.ap .eq [(.var 0),(I 10)])])::(.ap .not [(.ap .eq [(.var 0),(I 11)])])::(.ap .not [asf])::ar9
set_option maxRecDepth 100000 in
def bvr:List VC:=[((asb::ar6),agj),
 (((.ap .eq [(.var 0),(I 2)])::(.ap .not [asb])::ar6),agj),
 (bd5,agj),
 ((asc::ar7),agj),
 (((.ap .eq [(.var 0),(I 4)])::(.ap .not [asc])::ar7),agj),
 (bd6,agj),
 ((ase::ar8),akn),
 (((.ap .eq [(.var 0),(I 7)])::(.ap .not [ase])::ar8),akn),
 (bd7,akn),
 ((asf::ar9),agj),
 (((.ap .eq [(.var 0),(I 11)])::(.ap .not [asf])::ar9),agj),
 (bd8,akn),
 (((.ap .eq [(.var 0),(I 12)])::aze),akn),
 (((.ap .not [(.ap .eq [(.var 0),(I 12)])])::aze),(.ap .le [(I 4),(.ap .len [(.var 1)])]))]
set_option maxRecDepth 100000 in
def bvq:List (List X×List (List X)):=[((agj::asb::ar6),[[(.var 0),(I 0),ahm,(I 0),(.lit (.bool false)),(.lit (.int .u8 0)),(I 0),adx,adx]]),
 ((agj::(.ap .eq [(.var 0),(I 2)])::(.ap .not [asb])::ar6),[[(.var 0),(I 0),ahm,(I 0),(.lit (.bool false)),(.lit (.int .u8 0)),(I 0),adx,adx]]),
 ((agj::bd5),[[(.var 0),(I 0),ahm,(I 0),(.lit (.bool false)),(.lit (.int .u8 0)),(I 0),adx,adx]]),
 ((agj::asc::ar7),[[(.var 0),(I 0),ahm,(I 0),(.lit (.bool false)),(.lit (.int .u8 0)),(I 0),adx,adx]]),
 ((agj::(.ap .eq [(.var 0),(I 4)])::(.ap .not [asc])::ar7),[[(.var 0),(I 0),ahm,(I 0),(.lit (.bool false)),(.lit (.int .u8 0)),(I 0),adx,adx]]),
 ((agj::bd6),[[(.var 0),(I 0),ahm,(I 0),(.lit (.bool false)),(.lit (.int .u8 0)),(I 0),adx,adx]]),
 ((akn::ase::ar8),[[(.var 0),(I 0),ahm,asa,(.lit (.bool false)),(.lit (.int .u8 0)),(I 0),adx,adx]]),
 ((akn::(.ap .eq [(.var 0),(I 7)])::(.ap .not [ase])::ar8),[[(.var 0),ahm,(I 0),asa,(.lit (.bool false)),(.lit (.int .u8 0)),(I 0),adx,adx]]),
 ((akn::bd7),[[(.var 0),ahm,(I 0),(I 0),(.lit (.bool false)),(.lit (.int .u8 0)),asa,adx,adx]]),
 ((agj::asf::ar9),[[(.var 0),ahm,(I 0),(I 0),(.lit (.bool false)),(.lit (.int .u8 0)),(I 0),adx,adx]]),
 ((agj::(.ap .eq [(.var 0),(I 11)])::(.ap .not [asf])::ar9),[[(.var 0),ahm,(I 0),(I 0),(.lit (.bool false)),(.lit (.int .u8 0)),(I 0),adx,adx]]),
 ((akn::bd8),[[(.var 0),ahm,asa,(I 0),(.lit (.bool false)),(.lit (.int .u8 0)),(I 0),adx,adx]]),
 ((akn::(.ap .eq [(.var 0),(I 12)])::aze),[[(.var 0),ahm,asa,(I 0),(.lit (.bool false)),(.lit (.int .u8 0)),(I 0),adx,adx]]),
 (((.ap .le [(I 4),(.ap .len [(.var 1)])])::(.ap .not [(.ap .eq [(.var 0),(I 12)])])::aze),[[(.var 0),ahm,asa,(.ap (.cell 0) [(.var 1),(I 2)]),(.lit (.bool false)),(.ap (.wr .u8) [(.ap (.cast .u8) [(.ap (.cell 0) [(.var 1),(I 3)])])]),(I 0),adx,adx]])]
set_option maxRecDepth 100000 in
theorem bzx:runS Tryd.prog (ahj T0) 10 20 ⟨afu [],hintA [(8,lenA 1),(10,lenA 2),(12,lenA 2),(14,lenA 2),(17,lenA 1),(20,lenA 2),(21,lenA 4)]⟩ Tryd.f25 (acv Tryd.f25) bbo=some (bvr,bvq):=by kernel_rfl
theorem bcm{d:CD}{j:Nat}(hT:Typ (.sl [sI]) d)(hj:((j:Nat):Int)+1≤(d.len:Int)):d.cell (j:Nat) 0=vInt .i64 (nAt d.rows j):=by
 have h1:=ae0 (hT.cell (i:=(j:Nat)) (j:=0) (by omega) (by omega) rfl)
 rw [h1]
 rfl
theorem i_c0{d:CD}(hT:Typ (.sl [sI]) d)(hj:1≤(d.len:Int)):d.cell 0 0=vInt .i64 (nAt d.rows 0):=bcm (j:=0) hT (by omega)
theorem i_c1{d:CD}(hT:Typ (.sl [sI]) d)(hj:2≤(d.len:Int)):d.cell 1 0=vInt .i64 (nAt d.rows 1):=bcm (j:=1) hT (by omega)
theorem i_c2{d:CD}(hT:Typ (.sl [sI]) d)(hj:4≤(d.len:Int)):d.cell 2 0=vInt .i64 (nAt d.rows 2):=bcm (j:=2) hT (by omega)
theorem i_c3{d:CD}(hT:Typ (.sl [sI]) d)(hj:4≤(d.len:Int)):d.cell 3 0=vInt .i64 (nAt d.rows 3):=bcm (j:=3) hT (by omega)
set_option maxHeartbeats 1000000 in
set_option maxRecDepth 100000 in
theorem b2u:abk U Tryd.prog 25 bbo:=by
 refine abk.of (P:=Tryd.prog) (U:=U) (T:=T0) (f:=25) (fn:=Tryd.f25) (fuel:=10) (fk:=20) (hs:=⟨afu [],hintA [(8,lenA 1),(10,lenA 2),(12,lenA 2),(14,lenA 2),(17,lenA 1),(20,lenA 2),(21,lenA 4)]⟩) (S:=bbo) (v:=bvr) (outs:=bvq) mixed hT0 at25 bzx ?_ ?_
 ·unfold bvr
  repeat' (first | exact ae1 _ | refine ae3 (fun v hh=>?_) ?_)
  all_goals
   simp only [aay,aa5,aax,aa4,aa3,abr,abf,aam,w_wr,b_lt,b_le,b_eq,aaz,abl,b_or,aa1,aaj,aag,abp,abd,aal,aan,aa2,w_mk,aao,aa9,abo,abj,abg,aa6,aa8,abq,aa0,aau,abe,w_l0,w_l1,aaf,aae,aaw,aac,aad,aak,aai,aaq,aar,aas,aap,abn,abm,aat,abh,w_eq,acr,ar6,agj,adx,ahm,akn,asa,asb,asc,ase,asf,bd5,ar7,bd6,ar8,bd7,ar9,bd8,aze,aa7] at hh ⊢
   have hA0:Typ sI (v 0):=by simp only [hh]
   have hN:need (v 0).iv≤((v 1).len:Int):=by simp only [hh]
   have e0:=ae0 hA0
   generalize (v 0).iv=z0 at *
   simp only [e0,ad3] at hh
   simp [need,hh] at hN
   omega
 ·intro o ho σ hU hh
  obtain⟨v⟩:=σ
  cases hU
  simp only [bvq,List.mem_cons,List.not_mem_nil,or_false] at ho
  repeat' (first | (rcases ho with rfl | ho) | subst ho)
  all_goals
   refine⟨_,List.mem_cons_self ..,by simp only [aay,aa5,aax,aa4,aa3,abr,abf,aam,w_wr,b_lt,b_le,b_eq,aaz,abl,b_or,aa1,aaj,aag,abp,abd,aal,aan,aa2,w_mk,aao,aa9,abo,abj,abg,aa6,aa8,abq,aa0,aau,abe,w_l0,w_l1,aaf,aae,aaw,aac,aad,aak,aai,aaq,aar,aas,aap,abn,abm,aat,abh],?_⟩
   simp only [aay,aa5,aax,aa4,aa3,abr,abf,aam,w_wr,b_lt,b_le,b_eq,aaz,abl,b_or,aa1,aaj,aag,abp,abd,aal,aan,aa2,w_mk,aao,aa9,abo,abj,abg,aa6,aa8,abq,aa0,aau,abe,w_l0,w_l1,aaf,aae,aaw,aac,aad,aak,aai,aaq,aar,aas,aap,abn,abm,aat,abh,w_eq,acr,ar6,agj,adx,ahm,akn,asa,asb,asc,ase,asf,bd5,ar7,bd6,ar8,bd7,ar9,bd8,aze,aa7] at hh
   simp only [List.map_cons,List.map_nil,aay,aa5,aax,aa4,aa3,abr,abf,aam,w_wr,b_lt,b_le,b_eq,aaz,abl,b_or,aa1,aaj,aag,abp,abd,aal,aan,aa2,w_mk,aao,aa9,abo,abj,abg,aa6,aa8,abq,aa0,aau,abe,w_l0,w_l1,aaf,aae,aaw,aac,aad,aak,aai,aaq,aar,aas,aap,abn,abm,aat,abh,w_lt,w_le,w_eq,ao0,as0,w_or,akp,aiw,ao1,ahv,ahw,ahx,ahy,ahz,aa7,abx]
   have hT:Typ (.sl [sI]) (v 1):=by simp only [hh]
   have hA0:Typ sI (v 0):=by simp only [hh]
   have hL:=hh.1
   have e0:=ae0 hA0
   generalize hz:(v 0).iv=z0 at *
   simp only [e0,ad3] at hh
   try rw [i_c0 hT (by omega)]
   try rw [i_c1 hT (by omega)]
   try rw [i_c2 hT (by omega),i_c3 hT (by omega)]
   clear hA0 hL hT e0 hz
   simp [agz,hh,aaf]
end Go.Proofs.YtamhchkknlbanaaDoor.Be
