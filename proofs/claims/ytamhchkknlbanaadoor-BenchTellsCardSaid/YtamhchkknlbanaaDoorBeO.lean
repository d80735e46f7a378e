/-
  What a line says, as the program tells it: laws. Conditions: none.
-/
import Derived.Test.YtamhchkknlbanaaDoorBeK
import Derived.Test.YtamhchkknlbanaaDoorBeH
set_option linter.unusedSectionVars false
set_option linter.unusedVariables false
set_option linter.unusedSimpArgs false
namespace Go.Proofs.YtamhchkknlbanaaDoor.Be
open Go.Sx Go.Proofs
abbrev sixL:List UInt8:=[48,49,50,51,52,53,54,55,56,57,97,98,99,100,101,102]
abbrev sixC:CD:=.v (.string ⟨⟨sixL⟩⟩)
theorem b2f{n:Nat}(h:(n:Int)≤2500):(orV (adf .quo .i64 (n:Int) 2)).iv=(n:Int) / 2:=by
 have:adf .quo .i64 (n:Int) 2=some (.int .i64 (IntKind.i64.wrap ((n:Int).tdiv 2))):=rfl
 rw [this]
 show IntKind.i64.wrap ((n:Int).tdiv 2)=_
 haveI:Sg:=@Sg.mk U fun _=>default
 rw [Int.tdiv_eq_ediv_of_nonneg (by omega),a4r (k:=.i64) (by show(-9223372036854775808:Int)≤_;omega) (by show _≤(9223372036854775807:Int);omega)]
noncomputable def opq{α:Type}(x:α):α:=Classical.choose (⟨x,rfl⟩:∃ y,y=x)
theorem bdk{α:Type}{x:α}:opq x=x:=Classical.choose_spec (⟨x,rfl⟩:∃ y,y=x)
noncomputable def quoI(a:Int):Int:=opq (orV (adf .quo .i64 a 2)).iv
theorem bdo{a:Int}:(orV (adf .quo .i64 a 2)).iv=quoI a:=bdk.symm
noncomputable def remC(a:Int):CD:=opq (orV (adf .rem .i64 a 2))
theorem beg{a:Int}:orV (adf .rem .i64 a 2)=remC a:=bdk.symm
noncomputable def nibI(a b:Int):Int:=opq (IntKind.u8.wrap (orV (adf .or .i64 (orV (ako .shl .i64 a 4)).iv b)).iv)
theorem bdc{a b:Int}:IntKind.u8.wrap (orV (adf .or .i64 (orV (ako .shl .i64 a 4)).iv b)).iv=nibI a b:=bdk.symm
theorem bga{n:Nat}(h:(n:Int)≤2500):quoI n=(n:Int) / 2:=by rw [← bdo,b2f h]
noncomputable def digI(a:Int):Int:=opq (digV a)
theorem d_eq{a:Int}:digI a=digV a:=bdk
theorem byo:((List.range 256).all fun n=>decide (Lib.indexByte sixL (UInt8.ofNat n)=digV n))=true:=by kernel_rfl
theorem buc:((List.range 16).all fun a=>(List.range 16).all fun b=>decide (IntKind.u8.wrap (orV (adf .or .i64 (orV (ako .shl .i64 (a:Int) 4)).iv (b:Int))).iv=16*(a:Int)+b))=true:=by kernel_rfl
theorem bsc{d:CD}{i:Int}:Lib.indexByte (by' sixC) (byAt d i).toNat.toUInt8=digI (byAt d i):=by
 rw [d_eq]
 have e:by' sixC=sixL:=by_v _
 rw [e]
 unfold byAt
 have hb:=((by' d).getD i.toNat 0).toNat_lt
 have:=List.all_eq_true.1 byo ((by' d).getD i.toNat 0).toNat (List.mem_range.2 hb)
 rw [decide_eq_true_eq] at this
 rw [← this]
 rfl
theorem nib{a b:Int}(h1:0≤a)(h2:a≤15)(h3:0≤b)(h4:b≤15):IntKind.u8.wrap (orV (adf .or .i64 (orV (ako .shl .i64 a 4)).iv b)).iv=16*a+b:=by
 obtain⟨x,rfl⟩:=Int.eq_ofNat_of_zero_le h1
 obtain⟨y,rfl⟩:=Int.eq_ofNat_of_zero_le h3
 have:=List.all_eq_true.1 (List.all_eq_true.1 buc x (List.mem_range.2 (by omega))) y (List.mem_range.2 (by omega))
 rwa [decide_eq_true_eq] at this
theorem bcl:∀ (n:Nat) (l:List UInt8),l.length≤n→(hexR l).length=l.length / 2
 | _,[],_=>rfl
 | _,[_],_=>by simp [hexR]
 | 0,_::_::_,h=>by simp at h
 | n+1,a::b::r,h=>by
  show(hexR r).length+1=(r.length+1+1) / 2
  rw [bcl n r (by simp only [List.length_cons] at h;omega)]
  omega
theorem take2{l:List UInt8}{k:Nat}(h:2*k+1<l.length):l.take (2*(k+1))=l.take (2*k)++[l.getD (2*k) 0,l.getD (2*k+1) 0]:=by
 have h1:l.take (2*k+1+1)=l.take (2*k+1)++[l.getD (2*k+1) 0]:=by
  rw [List.take_add_one,List.getD_eq_getElem?_getD,List.getElem?_eq_getElem h]
  rfl
 have h2:l.take (2*k+1)=l.take (2*k)++[l.getD (2*k) 0]:=by
  rw [List.take_add_one,List.getD_eq_getElem?_getD,List.getElem?_eq_getElem (by omega)]
  rfl
 rw [show 2*(k+1)=2*k+1+1 by omega,h1,h2,List.append_assoc]
 rfl
theorem bsm{α:Type}{f:α→α}{x:α}{r:List α}:∀ (p:List α),(p++x::r).modify p.length f=p++f x::r
 | []=>rfl
 | a::p=>by
  show a::(p++x::r).modify p.length f=_
  rw [bsm p]
  rfl
theorem bym{l:List UInt8}{k:Nat}(h:2*k+1<l.length):setCell (hexP l k) k 0 (vInt .u8 (btx (l.getD (2*k) 0) (l.getD (2*k+1) 0)))=hexP l (k+1):=by
 have hl:(hexR (l.take (2*k))).length=k:=by
  rw [bcl _ _ (Nat.le_refl _),List.length_take]
  omega
 have ev:(l.take (2*k)).length % 2=0:=by rw [List.length_take];omega
 unfold hexP setCell
 obtain⟨m,hm⟩:∃ m,l.length / 2 - k=m+1:=⟨l.length / 2 - k - 1,by omega⟩
 rw [hm,List.replicate_succ,show l.length / 2 - (k+1)=m by omega,take2 h,a07 ev]
 have:=bsm (f:=fun r=>r.set 0 (vInt .u8 (btx (l.getD (2*k) 0) (l.getD (2*k+1) 0)))) (x:=[vInt .u8 0]) (r:=List.replicate m [vInt .u8 0]) (hexR (l.take (2*k)))
 rw [hl] at this
 rw [this,List.append_assoc]
 rfl
theorem byl{l:List UInt8}{k:Nat}(h:2*k+1<l.length)(hb:hexB (l.take (2*k))=true)(h1:0≤digV (l.getD (2*k) 0).toNat)(h2:0≤digV (l.getD (2*k+1) 0).toNat):hexB (l.take (2*(k+1)))=true:=by
 have ev:(l.take (2*k)).length % 2=0:=by rw [List.length_take];omega
 rw [take2 h,atc ev,hb]
 have e:hexB [l.getD (2*k) 0,l.getD (2*k+1) 0]=(decide (0≤digV (l.getD (2*k) 0).toNat)&&decide (0≤digV (l.getD (2*k+1) 0).toNat)&&hexB []):=rfl
 rw [e,decide_eq_true h1,decide_eq_true h2]
 rfl
theorem bo5{l:List UInt8}{k:Nat}(h:2*k+1<l.length)(hx:digV (l.getD (2*k) 0).toNat<0∨digV (l.getD (2*k+1) 0).toNat<0):hexB l=false:=by
 have hs:l=l.take (2*(k+1))++l.drop (2*(k+1)):=(List.take_append_drop _ _).symm
 have ev:(l.take (2*k)).length % 2=0:=by rw [List.length_take];omega
 rw [hs,take2 h,List.append_assoc,atc ev]
 have e:(decide (0≤digV (l.getD (2*k) 0).toNat)&&decide (0≤digV (l.getD (2*k+1) 0).toNat))=false:=by
  rw [Bool.and_eq_false_iff]
  rcases hx with hx | hx
  ·exact .inl (decide_eq_false (by omega))
  ·exact .inr (decide_eq_false (by omega))
 show(_&&((_&&_)&&_))=false
 rw [e]
 simp
theorem q_0{d:CD}(h:(d.slen:Int)≤2500):0≤(quoI d.slen):=by rw [bga h];omega
theorem q_1{d:CD}(h:(d.slen:Int)≤2500):(quoI d.slen)≤1250:=by rw [bga h];omega
theorem q_z{d:CD}(hT:Typ .str d)(h:(d.slen:Int)≤2500):CD.sl (false&&(List.replicate (quoI d.slen).toNat [CD.v (.int .u8 0)]).isEmpty) (List.replicate (quoI d.slen).toNat [CD.v (.int .u8 0)])=CD.sl false (hexP (by' d) (Int.toNat 0)):=by
 rw [bga h,afi hT]
 show CD.sl false _=_
 have:(((by' d).length:Int) / 2).toNat=(by' d).length / 2:=by omega
 rw [this]
 rfl
theorem q_a{d:CD}{i:Int}(hi:i<(quoI d.slen))(h:(d.slen:Int)≤2500):2*i+1<(d.slen:Int):=by rw [bga h] at hi;omega
theorem q_b{d:CD}{i:Int}(hi:i<(quoI d.slen))(h:(d.slen:Int)≤2500)(h0:0≤i):2*i<(d.slen:Int):=by rw [bga h] at hi;omega
theorem at_2{d:CD}{i:Int}(h0:0≤i):byAt d (2*i)=(((by' d).getD (2*i.toNat) 0).toNat:Int)∧byAt d (2*i+1)=(((by' d).getD (2*i.toNat+1) 0).toNat:Int):=by
 unfold byAt
 rw [show(2*i).toNat=2*i.toNat by omega,show(2*i+1).toNat=2*i.toNat+1 by omega]
 exact⟨rfl,rfl⟩
theorem q_n{d:CD}{r:List (List CD)}{i:Int}(hr:CD.sl (false&&r.isEmpty) r=CD.sl false (hexP (by' d) i.toNat))(h1:¬ digI (byAt d (2*i))<0)(h2:¬ digI (byAt d (2*i+1))<0)(h3:2*i+1<(d.slen:Int))(h0:0≤i)(hT:Typ .str d) :
  CD.sl (false&&(setCell r i.toNat 0 (vInt .u8 (nibI (digI (byAt d (2*i))) (digI (byAt d (2*i+1)))))).isEmpty) (setCell r i.toNat 0 (vInt .u8 (nibI (digI (byAt d (2*i))) (digI (byAt d (2*i+1))))))=CD.sl false (hexP (by' d) (i+1).toNat):=by
 simp only [d_eq] at h1 h2 ⊢
 have hr:CD.sl false r=CD.sl false (hexP (by' d) i.toNat):=hr
 cases hr
 rw [← bdc,nib (by omega) bxz (by omega) bxz,(at_2 h0).1,(at_2 h0).2,show(i+1).toNat=i.toNat+1 by omega]
 rw [afi hT] at h3
 show CD.sl false _=_
 exact congrArg (CD.sl false) (bym (l:=by' d) (k:=i.toNat) (by omega))
theorem q_ok{d:CD}{i:Int}(hb:hexB ((by' d).take (2*i.toNat))=true)(h1:¬ digI (byAt d (2*i))<0)(h2:¬ digI (byAt d (2*i+1))<0)(h3:2*i+1<(d.slen:Int))(h0:0≤i)(hT:Typ .str d):hexB ((by' d).take (2*(i+1).toNat))=true:=by
 simp only [d_eq] at h1 h2
 rw [(at_2 h0).1] at h1
 rw [(at_2 h0).2] at h2
 rw [afi hT] at h3
 rw [show(i+1).toNat=i.toNat+1 by omega]
 exact byl (by omega) hb (by omega) (by omega)
theorem q_no{d:CD}{i:Int}(hx:digI (byAt d (2*i))<0∨digI (byAt d (2*i+1))<0)(h3:2*i+1<(d.slen:Int))(h0:0≤i)(hT:Typ .str d):[[if hexB (by' d)=true then CD.sl false (hexR (by' d)) else CD.sl true []],[aav (hexB (by' d)&&decide ((by' d).length % 2=0))]]=[[CD.sl true []],[aav false]]:=by
 simp only [d_eq] at hx
 rw [(at_2 h0).1,(at_2 h0).2] at hx
 rw [afi hT] at h3
 rw [bo5 (by omega) hx]
 rfl
theorem q_y{d:CD}{r:List (List CD)}{i n:Int}(hr:CD.sl (false&&r.isEmpty) r=CD.sl false (hexP (by' d) i.toNat))(hb:hexB ((by' d).take (2*i.toNat))=true)(h1:¬ i<(quoI d.slen))(h2:i≤n)(h3:n≤(quoI d.slen))(h0:0≤i)(hT:Typ .str d)(h:(d.slen:Int)≤2500):[[if hexB (by' d)=true then CD.sl false (hexR (by' d)) else CD.sl true []],[aav (hexB (by' d)&&decide ((by' d).length % 2=0))]]=[[CD.sl (false&&r.isEmpty) r],[aav (eqC (remC d.slen) (vInt .i64 0))]]:=by
 rw [hr]
 rw [bga h,afi hT] at h1 h3
 have hs:by' d=((by' d).take (2*i.toNat))++(by' d).drop (2*i.toNat):=(List.take_append_drop _ _).symm
 have ev:((by' d).take (2*i.toNat)).length % 2=0:=by rw [List.length_take];omega
 have hd:((by' d).drop (2*i.toNat)).length≤1:=by rw [List.length_drop];omega
 have e1:hexB ((by' d).drop (2*i.toNat))=true∧hexR ((by' d).drop (2*i.toNat))=[]:=by
  generalize (by' d).drop (2*i.toNat)=q at hd
  match q,hd with
  | [],_=>exact⟨rfl,rfl⟩
  | [_],_=>exact⟨rfl,rfl⟩
  | _::_::_,hd=>simp at hd
 have e2:=atc (q:=(by' d).drop (2*i.toNat)) ev
 have e3:=a07 (q:=(by' d).drop (2*i.toNat)) ev
 rw [← hs,hb,e1.1] at e2
 rw [← hs,e1.2,List.append_nil] at e3
 have e4:hexP (by' d) i.toNat=hexR (by' d):=by
  unfold hexP
  rw [show(by' d).length / 2 - i.toNat=0 by omega,e3]
  simp
 have hsl:d.slen=(by' d).length:=by have:=afi hT;omega
 rw [e4,e2,← beg,b2j,hsl]
 rfl
theorem q_z0{l:List UInt8}:hexB (l.take (2*Int.toNat 0))=true:=rfl
noncomputable def T20:List (FuncId×Fsp):=[(47,SIdx)]
set_option maxRecDepth 100000 in
theorem hT20:an0 U Tryd.prog T20:=.cons b28 .nil
noncomputable def bbp:Fsp:=⟨[(false,[.str])],[.ap .le [.ap .slen [.var 0],I 2500]],[(false,[.sl [.int .u8]]),(false,[.bool])],[([],[[.ap (.usr 260) [.var 0]],[.ap (.usr 259) [.var 0]]])],true⟩
abbrev qX:X:=.ap (.bin .quo .i64) [.ap .slen [.var 0],I 2]
noncomputable def lp20:Lp:=⟨[(.slot 4,.own false [.int .u8]),(.slot 14,.int .i64)],[0,2,3,13],[],fun F H k=>[.ap .le [zI,.var (k+2)],.ap .le [.var (k+2),.var k],.ap .le [.var k,qX],.ap .le [qX,.var k],.ap .same [.ap (.mk false) [.var (k+1)],.ap (.usr 261) [.var 0,.var (k+2)]],.ap (.usr 262) [.var 0,.var (k+2)]],fun F H k=>.ap (.sub .i64) [.var k,.var (k+2)]⟩
abbrev aoj:X:=(.ap (.mul .i64) [(I 2),(.var 3)])
abbrev av4:X:=(.ap (.usr 255) [(.lit (.string (.mk (.mk [48,49,50,51,52,53,54,55,56,57,97,98,99,100,101,102])))),(.ap .sidx [(.var 0),aoj])])
abbrev azc:X:=(.ap (.usr 255) [(.lit (.string (.mk (.mk [48,49,50,51,52,53,54,55,56,57,97,98,99,100,101,102])))),(.ap .sidx [(.var 0),(.ap (.add .i64) [aoj,(I 1)])])])
abbrev alg:X:=(.ap .slen [(.var 0)])
abbrev amk:X:=(.ap (.bin .quo .i64) [alg,(I 2)])
abbrev azd:X:=(.ap .lt [(.var 3),(.ap (.cast .i64) [(.ap (.cast .i64) [amk])])])
abbrev a7d:List X:=[(.ap .le [(I 0),amk]),(.ap .le [amk,(I 1250)]),(.ap (.typ .str) [(.var 0)]),(.ap .le [alg,(I 2500)])]
abbrev aza:List X:=(.ap .le [(I 0),(.var 3)])::(.ap .le [(.var 3),(.var 1)])::(.ap .le [(.var 1),amk])::(.ap .le [amk,(.var 1)])::(.ap .same [(.ap (.mk false) [(.var 2)]),(.ap (.usr 261) [(.var 0),(.var 3)])])::(.ap (.usr 262) [(.var 0),(.var 3)])::a7d
abbrev azb:List X:=(.ap .le [(I 0),aoj])::(.ap .lt [(.ap (.add .i64) [aoj,(I 1)]),alg])::(.ap .lt [aoj,alg])::azd::aza
def bvl:List VC:=[([(.ap (.typ .str) [(.var 0)]),(.ap .le [alg,(I 2500)])],(.ap .le [(I 0),amk])),
 ([(.ap (.typ .str) [(.var 0)]),(.ap .le [alg,(I 2500)])],(.ap .le [amk,(I 1250)])),
 (a7d,(.ap .same [(.ap (.mk false) [(.ap .rep [amk,(.lit (.int .u8 0))])]),(.ap (.usr 261) [(.var 0),(I 0)])])),
 (a7d,(.ap (.usr 262) [(.var 0),(I 0)])),
 ((azd::aza),(.ap .lt [(.ap (.add .i64) [aoj,(I 1)]),alg])),
 ((azd::aza),(.ap .lt [aoj,alg])),
 (((.ap .not [(.ap .lt [azc,(I 0)])])::(.ap .not [(.ap .lt [av4,(I 0)])])::azb),(.ap .same [(.ap (.mk false) [(.ap (.upd 0) [(.var 2),(.var 3),(.ap (.wr .u8) [(.ap (.cast .u8) [(.ap (.bin .or .i64) [(.ap (.shf .shl .i64) [av4,(.lit (.int .u64 4))]),azc])])])])]),(.ap (.usr 261) [(.var 0),(.ap (.add .i64) [(.var 3),(I 1)])])])),
 (((.ap .not [(.ap .lt [azc,(I 0)])])::(.ap .not [(.ap .lt [av4,(I 0)])])::azb),(.ap (.usr 262) [(.var 0),(.ap (.add .i64) [(.var 3),(I 1)])]))]
def bvk:List (List X×List (List X)):=[(((.ap .lt [av4,(I 0)])::azb),[[(.ap (.nil true) [])],[(.lit (.bool false))]]),
 (((.ap .lt [azc,(I 0)])::(.ap .not [(.ap .lt [av4,(I 0)])])::azb),[[(.ap (.nil true) [])],[(.lit (.bool false))]]),
 (((.ap .not [azd])::aza),[[(.ap (.mk false) [(.var 2)])],[(.ap .eq [(.ap (.bin .rem .i64) [alg,(I 2)]),(I 0)])]])]
theorem bzu:runS Tryd.prog (ahj (tab T20)) 10 10 ⟨afu [(3,lp20)],hintA [(1,fun F H=>[.ap .le [zI,qX],.ap .le [qX,I 1250]]),(5,fun F H=>[.ap .le [zI,.ap (.mul .i64) [I 2,sx F 5]],.ap .lt [.ap (.add .i64) [.ap (.mul .i64) [I 2,sx F 5],I 1],.ap .slen [.var 0]],.ap .lt [.ap (.mul .i64) [I 2,sx F 5],.ap .slen [.var 0]]])]⟩ Tryd.f20 (acv Tryd.f20) bbp=some (bvl,bvk):=by kernel_rfl
set_option maxHeartbeats 400000 in
set_option maxRecDepth 100000 in
theorem b2r:abk U Tryd.prog 20 bbp:=by
 refine abk.of (P:=Tryd.prog) (U:=U) (T:=(tab T20)) (f:=20) (fn:=Tryd.f20) (fuel:=10) (fk:=10) (hs:=⟨afu [(3,lp20)],hintA [(1,fun F H=>[.ap .le [zI,qX],.ap .le [qX,I 1250]]),(5,fun F H=>[.ap .le [zI,.ap (.mul .i64) [I 2,sx F 5]],.ap .lt [.ap (.add .i64) [.ap (.mul .i64) [I 2,sx F 5],I 1],.ap .slen [.var 0]],.ap .lt [.ap (.mul .i64) [I 2,sx F 5],.ap .slen [.var 0]]])]⟩) (S:=bbp) (v:=bvl) (outs:=bvk) mixed hT20 at20 bzu ?_ ?_
 ·unfold bvl
  repeat' (first | exact ae1 _ | refine ae3 (fun v hh=>?_) ?_)
  all_goals
   simp only [aay,aa5,aax,aa4,aa3,abf,aam,w_wr,b_lt,b_le,b_eq,aaz,b_or,aa1,aaj,aal,aa2,w_mk,abj,abg,aa6,aa0,abe,w_l0,w_l1,aaf,aae,aaw,aac,aad,aak,aai,abh,a4c,a9h,a9i,axi,bsc,bdo,beg,bdc,a7d,aoj,av4,azc,alg,amk,azd,aza,azb] at hh ⊢
   repeat (obtain⟨_,hh⟩:=hh)
   try first | exact q_0 (by assumption) | exact q_1 (by assumption) | exact q_z (by assumption) (by assumption) | exact q_z0 | exact q_a (by assumption) (by assumption) | exact q_b (by assumption) (by assumption) (by assumption) | exact q_n (by assumption) (by assumption) (by assumption) (by assumption) (by assumption) (by assumption) | exact q_ok (by assumption) (by assumption) (by assumption) (by assumption) (by assumption) (by assumption)
 ·intro o ho σ hU hh
  obtain⟨v⟩:=σ
  cases hU
  simp only [bvk,List.mem_cons,List.not_mem_nil,or_false] at ho
  repeat' (first | (rcases ho with rfl | ho) | subst ho)
  all_goals
   simp only [aay,aa5,aax,aa4,aa3,abf,aam,w_wr,b_lt,b_le,b_eq,aaz,b_or,aa1,aaj,aal,aa2,w_mk,abj,abg,aa6,aa0,abe,w_l0,w_l1,aaf,aae,aaw,aac,aad,aak,aai,abh,a4c,a9h,a9i,axi,bsc,bdo,beg,bdc,a7d,aoj,av4,azc,alg,amk,azd,aza,azb] at hh
   refine⟨_,List.mem_cons_self ..,by simp only [aay,aa5,aax,aa4,aa3,abf,aam,w_wr,b_lt,b_le,b_eq,aaz,b_or,aa1,aaj,aal,aa2,w_mk,abj,abg,aa6,aa0,abe,w_l0,w_l1,aaf,aae,aaw,aac,aad,aak,aai,abh],?_⟩
   simp only [List.map_cons,List.map_nil,aay,aa5,aax,aa4,aa3,abf,aam,w_wr,b_lt,b_le,b_eq,aaz,b_or,aa1,aaj,aal,aa2,w_mk,abj,abg,aa6,aa0,abe,w_l0,w_l1,aaf,aae,aaw,aac,aad,aak,aai,abh,w_lt,w_le,w_eq,ao0,w_or,aiw,ao1,a4c,a4d,a4e,bdo,beg,bdc]
  ·obtain⟨a1,a2,a3,a4,a5,a6,a7,a8,a9,a10,a11,a12,a13,a14,a15,_⟩:=hh
   exact q_no (.inl a1) a3 a6 a14
  ·obtain⟨a0,a1,a2,a3,a4,a5,a6,a7,a8,a9,a10,a11,a12,a13,a14,a15,_⟩:=hh
   exact q_no (.inr a0) a3 a6 a14
  ·obtain⟨a1,a2,a3,a4,a5,a6,a7,a8,a9,a10,a11,_⟩:=hh
   trace_state
   exact q_y a6 a7 a1 a3 a4 a2 a10 a11
end Go.Proofs.YtamhchkknlbanaaDoor.Be

namespace Go.Proofs.YtamhchkknlbanaaDoor.Be
open Go.Sx Go.Proofs
set_option linter.all false
noncomputable def a4v:Fsp:=⟨[(false,[.str])],[.ap .le [.ap .slen [.var 0],I 2500]],[(true,ajr),(false,[sI])],[([],[[.ap (.usr 240) [.var 0],.ap (.usr 241) [.var 0],.ap (.usr 242) [.var 0],.ap (.usr 243) [.var 0],.ap (.usr 244) [.var 0],.ap (.usr 245) [.var 0],.ap (.usr 246) [.var 0],.ap (.usr 247) [.var 0],.ap (.usr 248) [.var 0]],[.ap (.usr 249) [.var 0]]])],true⟩
theorem bik{k:IntKind}{a b:Int}:(eqC (vInt k a) (vInt k b)=true)=(a=b):=by
 show(decide (a=b)=true)=_
 simp
end Go.Proofs.YtamhchkknlbanaaDoor.Be

namespace Go.Proofs.YtamhchkknlbanaaDoor.Be
open Go.Sx Go.Proofs
abbrev wsC(d:CD):CD:=CD.sl false (ab8 (line d))
theorem b0s{d:CD}:(ab8 (line d)).length=(wds d).length:=by
 show((wds d).map afz).length=_
 rw [List.length_map]
theorem br0{d:CD}(hT:Typ (.sl [.str]) (wsC d))(k:Nat):((CD.sl false ((ab8 (line d)).drop k)).len:Int)=((wds d).length - k:Nat):=by
 have h:=hT.sl.2
 have h:(ab8 (line d)).length≤maxN:=h
 show((clip ((ab8 (line d)).drop k).length:Nat):Int)=_
 rw [aek (by rw [List.length_drop];omega),List.length_drop,b0s]
theorem a92{d:CD}(k:Nat):by' ((CD.sl false ((ab8 (line d)).drop k)).cell 0 0)=gw (wds d) k:=by
 have:=ad2 (d:=d) (k:Int)
 rw [Int.toNat_natCast] at this
 rw [← this]
 unfold CD.cell
 show by' ((((ab8 (line d)).drop k).getD (Int.toNat 0) []).getD 0 default)=by' (((ab8 (line d)).getD (k:Int).toNat []).getD 0 default)
 rw [Int.toNat_natCast]
 have e:((ab8 (line d)).drop k).getD (Int.toNat 0) []=(ab8 (line d)).getD k []:=by
  show((ab8 (line d)).drop k).getD 0 []=_
  rw [List.getD_eq_getElem?_getD,List.getD_eq_getElem?_getD,List.getElem?_drop,Nat.add_zero]
 rw [e]
theorem tk_0{d:CD}(hT:Typ (.sl [.str]) (wsC d)):(ab8 (line d)).take 9223372036854775807=ab8 (line d):=by
 have h:(ab8 (line d)).length≤maxN:=hT.sl.2
 exact List.take_of_length_le h
theorem tk_k{d:CD}(hT:Typ (.sl [.str]) (wsC d))(k:Nat):((ab8 (line d)).drop k).take 9223372036854775807=(ab8 (line d)).drop k:=by
 have h:(ab8 (line d)).length≤maxN:=hT.sl.2
 refine List.take_of_length_le ?_
 rw [List.length_drop]
 exact Nat.le_trans (Nat.sub_le _ _) h
theorem bof{d:CD}(hT:Typ .str d)(h:¬ 2200<(d.slen:Int))(k:Nat):(((CD.sl false ((ab8 (line d)).drop k)).cell 0 0).slen:Int)≤2500:=by
 have h1:=bwe ((CD.sl false ((ab8 (line d)).drop k)).cell 0 0)
 rw [a92] at h1
 have h2:=byh d k
 rw [afi hT] at h
 omega
theorem ws_1{d:CD}(hk:okW (line d)=true)(hT:Typ (.sl [.str]) (wsC d)):1≤((wsC d).len:Int):=by
 have:=a6y hT
 have:=b0i hk
 show 1≤((CD.sl false (ab8 (line d))).len:Int)
 omega
theorem kA{W:List (List UInt8)}{k m r:Int}{is:Bool}(h:(W.length:Int)<m+1):adj W k m r is=aiy 2:=by
 unfold adj
 rw [if_neg (by omega),if_neg (by omega)]
theorem bdb{W:List (List UInt8)}:∀ {n j:Nat},1≤j→j≤n→¬ nOk (gw W j)=true→nOks W n=false
 | 0,j,h1,h2,_=>by omega
 | n+1,j,h1,h2,h=>by
  unfold nOks
  rw [Bool.and_eq_false_iff]
  by_cases hj:j=n+1
  ·subst hj
   exact .inr (by simpa using h)
  ·exact .inl (bdb h1 (by omega) h)
theorem kB{W:List (List UInt8)}{k m r:Int}{is:Bool}(j:Nat)(h1:1≤j)(h2:j≤m.toNat)(h:¬ nOk (gw W j)=true):adj W k m r is=aiy 2:=by
 have e:=bdb h1 h2 h
 unfold adj
 rw [e]
 simp
theorem kC{W:List (List UInt8)}{k m r:Int}{is:Bool}(h:m+2<(W.length:Int)):adj W k m r is=aiy 2:=by
 unfold adj
 rw [if_neg (by omega),if_neg (by omega)]
theorem kC0{W:List (List UInt8)}{k m:Int}{is:Bool}(h:¬ (W.length:Int)=m+1):adj W k m 0 is=aiy 2:=by
 unfold adj
 rw [if_neg h,if_neg (by omega)]
theorem kM{W:List (List UInt8)}{m:Int}{is:Bool}(h:255<nV W 4):adj W 13 m 0 is=aiy 2:=by
 unfold adj
 simp [h]
theorem kD{W:List (List UInt8)}{k m r:Int}{is:Bool}(h:(W.length:Int)=m+1)(hn:nOks W m.toNat=true)(hm:¬ (k=13∧255<nV W 4)):adj W k m r is=axr k (nV W) is (.sl true []) (.sl true []):=by
 unfold adj
 rw [if_pos h,if_pos ⟨hn,hm⟩]
theorem kE1{W:List (List UInt8)}{k m:Int}{is:Bool}(h:(W.length:Int)=m+2)(hn:nOks W m.toNat=true):adj W k m 1 is=if a5x (gw W (m.toNat+1))=true then axr k (nV W) is (mkz (hexV (gw W (m.toNat+1)))) (.sl true []) else aiy 2:=by
 unfold adj
 rw [if_neg (by omega),if_pos ⟨by decide,h⟩,if_pos hn,if_pos rfl]
theorem kE2{W:List (List UInt8)}{k m:Int}{is:Bool}(h:(W.length:Int)=m+2)(hn:nOks W m.toNat=true):adj W k m 2 is=if bfl (gw W (m.toNat+1))=true then axr k (nV W) is (.sl true []) (mkz (a0m (gw W (m.toNat+1)))) else aiy 2:=by
 unfold adj
 rw [if_neg (by omega),if_pos ⟨by decide,h⟩,if_pos hn,if_neg (by decide)]
theorem w_pos{d:CD}(hk:okW (line d)=true){k:Nat}(h:k<(wds d).length):0<(gw (wds d) k).length:=by
 unfold okW at hk
 rw [Bool.and_eq_true] at hk
 have:=List.all_eq_true.1 hk.2 _ (bjb (W:=wds d) h)
 cases hg:gw (wds d) k with
 | nil=>rw [hg] at this;cases this
 | cons a r=>simp
theorem byn{d:CD}(hk:okW (line d)=true){k:Nat}(h:k<(wds d).length):(hexB (gw (wds d) k)&&decide ((gw (wds d) k).length % 2=0))=a5x (gw (wds d) k):=by
 unfold a5x
 rw [decide_eq_true (w_pos hk h),Bool.true_and]
theorem bxm{d:CD}(hk:okW (line d)=true){k:Nat}(h:k<(wds d).length):ad1 (gw (wds d) k)=bfl (gw (wds d) k):=by
 unfold bfl
 rw [decide_eq_true (w_pos hk h),Bool.and_true]
theorem bo7{l:List UInt8}(h:a5x l=true):(if hexB l=true then CD.sl false (hexR l) else CD.sl true [])=mkz (hexV l):=by
 unfold a5x at h
 simp only [Bool.and_eq_true,decide_eq_true_eq] at h
 unfold hexV
 rw [if_pos h.1,if_pos h.1]
 unfold mkz
 have:(hexR l).isEmpty=false:=by
  match l,h with
  | [],h=>exact absurd h.2.1 (by simp)
  | [_],h=>exact absurd h.2.2 (by simp)
  | _::_::_,_=>rfl
 rw [this]
theorem bu6{d:CD}(hw:eqC ((wsC d).cell 0 0) (.v (.string ⟨⟨[116,105,99,107]⟩⟩))=true)(h:¬ 2200<(d.slen:Int))(hT:Typ .str d)(hk:okW (line d)=true):ab0 d=adj (wds d) 1 1 0 false:=aii h hT hk (by have:=al9 hw;rwa [ad2] at this) (by decide:aeg [116,105,99,107]=some ([116,105,99,107],1,1,0))
theorem bu5{d:CD}(hw:eqC ((wsC d).cell 0 0) (.v (.string ⟨⟨[116,97,107,101]⟩⟩))=true)(h:¬ 2200<(d.slen:Int))(hT:Typ .str d)(hk:okW (line d)=true):ab0 d=adj (wds d) 2 1 0 false:=aii h hT hk (by have:=al9 hw;rwa [ad2] at this) (by decide:aeg [116,97,107,101]=some ([116,97,107,101],2,1,0))
theorem bu0{d:CD}(hw:eqC ((wsC d).cell 0 0) (.v (.string ⟨⟨[102,108,111,119]⟩⟩))=true)(h:¬ 2200<(d.slen:Int))(hT:Typ .str d)(hk:okW (line d)=true):ab0 d=adj (wds d) 14 1 0 false:=aii h hT hk (by have:=al9 hw;rwa [ad2] at this) (by decide:aeg [102,108,111,119]=some ([102,108,111,119],14,1,0))
theorem b2e{d:CD}(hw:eqC ((wsC d).cell 0 0) (.v (.string ⟨⟨[97,116]⟩⟩))=true)(h:¬ 2200<(d.slen:Int))(hT:Typ .str d)(hk:okW (line d)=true):ab0 d=adj (wds d) 3 1 0 false:=aii h hT hk (by have:=al9 hw;rwa [ad2] at this) (by decide:aeg [97,116]=some ([97,116],3,1,0))
theorem buz{d:CD}(hw:eqC ((wsC d).cell 0 0) (.v (.string ⟨⟨[100,114,111,112]⟩⟩))=true)(h:¬ 2200<(d.slen:Int))(hT:Typ .str d)(hk:okW (line d)=true):ab0 d=adj (wds d) 4 1 0 false:=aii h hT hk (by have:=al9 hw;rwa [ad2] at this) (by decide:aeg [100,114,111,112]=some ([100,114,111,112],4,1,0))
theorem bk7{d:CD}(hw:eqC ((wsC d).cell 0 0) (.v (.string ⟨⟨[100,111,117,98,108,101]⟩⟩))=true)(h:¬ 2200<(d.slen:Int))(hT:Typ .str d)(hk:okW (line d)=true):ab0 d=adj (wds d) 5 1 0 false:=aii h hT hk (by have:=al9 hw;rwa [ad2] at this) (by decide:aeg [100,111,117,98,108,101]=some ([100,111,117,98,108,101],5,1,0))
theorem bu3{d:CD}(hw:eqC ((wsC d).cell 0 0) (.v (.string ⟨⟨[109,111,118,101]⟩⟩))=true)(h:¬ 2200<(d.slen:Int))(hT:Typ .str d)(hk:okW (line d)=true):ab0 d=adj (wds d) 6 2 0 false:=aii h hT hk (by have:=al9 hw;rwa [ad2] at this) (by decide:aeg [109,111,118,101]=some ([109,111,118,101],6,2,0))
theorem bzo{d:CD}(hw:eqC ((wsC d).cell 0 0) (.v (.string ⟨⟨[99,117,116]⟩⟩))=true)(h:¬ 2200<(d.slen:Int))(hT:Typ .str d)(hk:okW (line d)=true):ab0 d=adj (wds d) 7 2 0 true:=aii h hT hk (by have:=al9 hw;rwa [ad2] at this) (by decide:aeg [99,117,116]=some ([99,117,116],7,2,0))
theorem bu2{d:CD}(hw:eqC ((wsC d).cell 0 0) (.v (.string ⟨⟨[106,111,105,110]⟩⟩))=true)(h:¬ 2200<(d.slen:Int))(hT:Typ .str d)(hk:okW (line d)=true):ab0 d=adj (wds d) 7 2 0 false:=aii h hT hk (by have:=al9 hw;rwa [ad2] at this) (by decide:aeg [106,111,105,110]=some ([106,111,105,110],7,2,0))
theorem bzn{d:CD}(hw:eqC ((wsC d).cell 0 0) (.v (.string ⟨⟨[97,115,107]⟩⟩))=true)(h:¬ 2200<(d.slen:Int))(hT:Typ .str d)(hk:okW (line d)=true):ab0 d=adj (wds d) 8 2 1 false:=aii h hT hk (by have:=al9 hw;rwa [ad2] at this) (by decide:aeg [97,115,107]=some ([97,115,107],8,2,1))
theorem bqg{d:CD}(hw:eqC ((wsC d).cell 0 0) (.v (.string ⟨⟨[97,103,97,105,110]⟩⟩))=true)(h:¬ 2200<(d.slen:Int))(hT:Typ .str d)(hk:okW (line d)=true):ab0 d=adj (wds d) 9 1 0 false:=aii h hT hk (by have:=al9 hw;rwa [ad2] at this) (by decide:aeg [97,103,97,105,110]=some ([97,103,97,105,110],9,1,0))
theorem bk8{d:CD}(hw:eqC ((wsC d).cell 0 0) (.v (.string ⟨⟨[114,101,111,112,101,110]⟩⟩))=true)(h:¬ 2200<(d.slen:Int))(hT:Typ .str d)(hk:okW (line d)=true):ab0 d=adj (wds d) 11 1 0 false:=aii h hT hk (by have:=al9 hw;rwa [ad2] at this) (by decide:aeg [114,101,111,112,101,110]=some ([114,101,111,112,101,110],11,1,0))
theorem bqh{d:CD}(hw:eqC ((wsC d).cell 0 0) (.v (.string ⟨⟨[99,114,97,115,104]⟩⟩))=true)(h:¬ 2200<(d.slen:Int))(hT:Typ .str d)(hk:okW (line d)=true):ab0 d=adj (wds d) 10 2 2 false:=aii h hT hk (by have:=al9 hw;rwa [ad2] at this) (by decide:aeg [99,114,97,115,104]=some ([99,114,97,115,104],10,2,2))
theorem bu1{d:CD}(hw:eqC ((wsC d).cell 0 0) (.v (.string ⟨⟨[102,117,115,101]⟩⟩))=true)(h:¬ 2200<(d.slen:Int))(hT:Typ .str d)(hk:okW (line d)=true):ab0 d=adj (wds d) 12 2 0 false:=aii h hT hk (by have:=al9 hw;rwa [ad2] at this) (by decide:aeg [102,117,115,101]=some ([102,117,115,101],12,2,0))
theorem bu7{d:CD}(hw:eqC ((wsC d).cell 0 0) (.v (.string ⟨⟨[116,117,114,110]⟩⟩))=true)(h:¬ 2200<(d.slen:Int))(hT:Typ .str d)(hk:okW (line d)=true):ab0 d=adj (wds d) 13 4 0 false:=aii h hT hk (by have:=al9 hw;rwa [ad2] at this) (by decide:aeg [116,117,114,110]=some ([116,117,114,110],13,4,0))
theorem bu4{d:CD}(n0:¬ eqC ((wsC d).cell 0 0) (.v (.string ⟨⟨[116,105,99,107]⟩⟩))=true)(n1:¬ eqC ((wsC d).cell 0 0) (.v (.string ⟨⟨[116,97,107,101]⟩⟩))=true)(n2:¬ eqC ((wsC d).cell 0 0) (.v (.string ⟨⟨[102,108,111,119]⟩⟩))=true)(n3:¬ eqC ((wsC d).cell 0 0) (.v (.string ⟨⟨[97,116]⟩⟩))=true)(n4:¬ eqC ((wsC d).cell 0 0) (.v (.string ⟨⟨[100,114,111,112]⟩⟩))=true)(n5:¬ eqC ((wsC d).cell 0 0) (.v (.string ⟨⟨[100,111,117,98,108,101]⟩⟩))=true)(n6:¬ eqC ((wsC d).cell 0 0) (.v (.string ⟨⟨[109,111,118,101]⟩⟩))=true)(n7:¬ eqC ((wsC d).cell 0 0) (.v (.string ⟨⟨[99,117,116]⟩⟩))=true)(n8:¬ eqC ((wsC d).cell 0 0) (.v (.string ⟨⟨[106,111,105,110]⟩⟩))=true)(n9:¬ eqC ((wsC d).cell 0 0) (.v (.string ⟨⟨[97,115,107]⟩⟩))=true)(n10:¬ eqC ((wsC d).cell 0 0) (.v (.string ⟨⟨[97,103,97,105,110]⟩⟩))=true)(n11:¬ eqC ((wsC d).cell 0 0) (.v (.string ⟨⟨[114,101,111,112,101,110]⟩⟩))=true)(n12:¬ eqC ((wsC d).cell 0 0) (.v (.string ⟨⟨[99,114,97,115,104]⟩⟩))=true)(n13:¬ eqC ((wsC d).cell 0 0) (.v (.string ⟨⟨[102,117,115,101]⟩⟩))=true)(n14:¬ eqC ((wsC d).cell 0 0) (.v (.string ⟨⟨[116,117,114,110]⟩⟩))=true)(h1:1≤((wsC d).len:Int))(hTs:Typ (.sl [.str]) (wsC d))(h:¬ 2200<(d.slen:Int))(hT:Typ .str d)(hk:okW (line d)=true):ab0 d=aiy 6:=by
 refine bzm h hT hk ?_
 have hc:Typ .str ((wsC d).cell 0 0):=hTs.cell (Int.le_refl 0) (by omega) rfl
 rw [br2 hc,ad2] at n0 n1 n2 n3 n4 n5 n6 n7 n8 n9 n10 n11 n12 n13 n14
 have e:Int.toNat 0=0:=rfl
 rw [e] at n0 n1 n2 n3 n4 n5 n6 n7 n8 n9 n10 n11 n12 n13 n14
 unfold aeg bi6
 have z:∀ l:List UInt8,¬ gw (wds d) 0=l→(l==gw (wds d) 0)=false:=fun l hl=>by
  rw [beq_eq_false_iff_ne]
  exact fun h=>hl h.symm
 simp only [List.find?,z _ n0,z _ n1,z _ n2,z _ n3,z _ n4,z _ n5,z _ n6,z _ n7,z _ n8,z _ n9,z _ n10,z _ n11,z _ n12,z _ n13,z _ n14]
end Go.Proofs.YtamhchkknlbanaaDoor.Be
