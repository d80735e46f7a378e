/-
  Contracts of a seat's functions: what is large. Conditions: none.
-/
import Derived.Test.YtlbbkmcegbeckaaSbBase
import Derived.Lib.BytesEntry
import Derived.RangeFuncLeaves
set_option linter.unusedSimpArgs false
set_option linter.unusedSectionVars false
set_option linter.unusedVariables false
namespace Go.Sx
section
variable [Sg]
theorem b3o(n:Nat):den (.var n)=Sg.v n:=rfl
theorem b3t(u:Value):den (.lit u)=.v u:=rfl
theorem b4d(k:IntKind)(a b:X):den (.ap (.add k) [a,b])=vInt k ((den a).iv+(den b).iv):=rfl
theorem b40(k:IntKind)(a b:X):den (.ap (.sub k) [a,b])=vInt k ((den a).iv - (den b).iv):=rfl
theorem b4l(k:IntKind)(a b:X):den (.ap (.mul k) [a,b])=vInt k ((den a).iv*(den b).iv):=rfl
theorem b31(k:IntKind)(a:X):den (.ap (.cast k) [a])=vInt k (den a).iv:=rfl
theorem w_wr(k:IntKind)(a:X):den (.ap (.wr k) [a])=vInt k (k.wrap (den a).iv):=rfl
theorem w_lt(a b:X):den (.ap .lt [a,b])=b34 (decide ((den a).iv<(den b).iv)):=rfl
theorem w_le(a b:X):den (.ap .le [a,b])=b34 (decide ((den a).iv≤(den b).iv)):=rfl
theorem w_eq(a b:X):den (.ap .eq [a,b])=b34 (eqC (den a) (den b)):=rfl
theorem cs7(a:X):den (.ap .not [a])=b34 (!(den a).bv):=rfl
theorem b4x(a b c:X):den (.ap .ite [a,b,c])=if(den a).bv then den b else den c:=rfl
theorem b30(a:X):den (.ap .len [a])=vInt .i64 (den a).len:=rfl
theorem b33(a:X):den (.ap .slen [a])=vInt .i64 (den a).slen:=rfl
theorem b3k(j:Nat)(a i:X):den (.ap (.cell j) [a,i])=(den a).cell (den i).iv j:=rfl
theorem b35(b:Bool):den (.ap (.nil b) [])=.sl b []:=rfl
theorem w_mk(z:Bool)(a:X):den (.ap (.mk z) [a])=.sl (z&&(den a).rows.isEmpty) (den a).rows:=rfl
theorem b3l(a:X)(l:List X):den (.ap .snoc (a::l))=.sl false ((den a).rows++[denL l]):=rfl
theorem b4e(a b:X):den (.ap .cat [a,b])=.sl false ((den a).rows++(den b).rows):=rfl
theorem caj(a l h:X):den (.ap .cut [a,l,h])=.sl (den a).isNil (((den a).rows.take (den h).iv.toNat).drop (den l).iv.toNat):=rfl
theorem b41(j:Nat)(a i c:X):den (.ap (.upd j) [a,i,c])=.sl false (setCell (den a).rows (den i).iv.toNat j (den c)):=rfl
theorem b4z(n:X)(l:List X):den (.ap .rep (n::l))=.sl false (List.replicate (den n).iv.toNat (denL l)):=rfl
theorem b4m(a:X):den (.ap .str [a])=.v (.string ⟨((den a).rows.map b8a).toArray⟩):=rfl
theorem b4w(a:X):den (.ap .byt [a])=.sl false ((den a).str.toList.map cde):=rfl
theorem b4y(k:IntKind)(a:X):den (.ap (.neg k) [a])=vInt k (k.wrap (0 - (den a).iv)):=rfl
theorem b3v(n:Nat)(l:List X):den (.ap (.usr n) l)=Us.u n (denL l):=rfl
theorem b3x(o:BinOp)(a b:X):den (.ap (.sbin o) [a,b])=orV (strA o (den a).str (den b).str):=rfl
theorem b4v(o:BinOp)(k:IntKind)(a b:X):den (.ap (.bin o k) [a,b])=orV (b8u o k (den a).iv (den b).iv):=rfl
theorem w_l0:denL []=[]:=rfl
theorem w_l1(a:X)(l:List X):denL (a::l)=den a::denL l:=rfl
theorem b_lt(a b:X):((den (.ap .lt [a,b])).bv=true)=((den a).iv<(den b).iv):=decide_eq_true_eq
theorem b_le(a b:X):((den (.ap .le [a,b])).bv=true)=((den a).iv≤(den b).iv):=decide_eq_true_eq
theorem b_eq(a b:X):((den (.ap .eq [a,b])).bv=true)=(eqC (den a) (den b)=true):=rfl
theorem b3w(a:X):((den (.ap .not [a])).bv=true)=¬ ((den a).bv=true):=by
 show((!(den a).bv)=true)=_
 cases (den a).bv<;>simp
theorem b4s(a b:X):((den (.ap .and [a,b])).bv=true)=((den a).bv=true∧(den b).bv=true):=by
 show(((den a).bv&&(den b).bv)=true)=_
 simp
theorem b_or(a b:X):((den (.ap .or [a,b])).bv=true)=((den a).bv=true∨(den b).bv=true):=by
 show(((den a).bv||(den b).bv)=true)=_
 simp
theorem b3u(x:X):Tru x=((den x).bv=true):=rfl
theorem b3b:Holds []=True:=by simp [Holds]
theorem b3c(x:X)(l:List X):Holds (x::l)=(Tru x∧Holds l):=by simp [Holds]
theorem b3p(a b:X):((den (.ap .same [a,b])).bv=true)=(den a=den b):=@decide_eq_true_eq _ (Classical.propDecidable _)
theorem b3i(a:X):((den (.ap .isnil [a])).bv=true)=((den a).isNil=true):=rfl
theorem b67(e k:X):((den (.ap .mhas [e,k])).bv=true)=(mHas (den k) (den e).rows=true):=rfl
theorem b7c(j:Nat)(e k z:X):den (.ap (.mget j) [e,k,z])=mGet j (den k) (den z) (den e).rows:=rfl
theorem b7d(e c k:X)(vs:List X):den (.ap .mput (e::c::k::vs))=.sl false (mPut (den k) (denL vs) (den c) (den e).rows):=rfl
theorem b66(e s:X):((den (.ap .mall [e,s])).bv=true)=(((den e).rows.all fun r=>mIn (cb6 r) (den s).rows)=true):=rfl
theorem b9s(e c:X):((den (.ap .mok [e,c])).bv=true)=MOk (den e).rows (den c).iv:=@decide_eq_true_eq _ (Classical.propDecidable _)
theorem b9r(b s:X):((den (.ap .min [b,s])).bv=true)=(mIn (den b) (den s).rows=true):=rfl
theorem b7e(e:X):den (.ap .rlen [e])=vInt .i64 (den e).rows.length:=rfl
theorem cak(o:BinOp)(k:IntKind)(a b:X):den (.ap (.shf o k) [a,b])=orV (cfj o k (den a).iv (den b).iv):=rfl
theorem c1x(a b:X):den (.ap .same [a,b])=b34 (@decide (den a=den b) (Classical.propDecidable _)):=rfl
theorem crg(s:Srt)(a:X):den (.ap (.typ s) [a])=b34 (@decide (Typ s (den a)) (Classical.propDecidable _)):=rfl
theorem b3y(s:Srt)(a:X):((den (.ap (.typ s) [a])).bv=true)=Typ s (den a):=@decide_eq_true_eq _ (Classical.propDecidable _)
end
theorem b3s(k:IntKind)(z:Int):(CD.v (.int k z)).iv=z:=rfl
theorem b3z(b:Bool):(CD.v (.bool b)).bv=b:=rfl
theorem b3e(k:IntKind)(z:Int):(vInt k z).iv=z:=rfl
theorem b3d(b:Bool):(b34 b).bv=b:=rfl
theorem b3g(b:Bool)(r:List (List CD)):(CD.sl b r).rows=r:=rfl
theorem b3f(b:Bool)(r:List (List CD)):(CD.sl b r).isNil=b:=rfl
theorem Typ.sl{ss:List Srt}{d:CD}(h:Typ (.sl ss) d):d.len=d.rows.length∧d.rows.length≤maxN:=by
 obtain⟨m,u,h⟩:=h
 exact⟨h.slice.2.1,h.slice.1⟩
theorem Typ.row{ss:List Srt}{d:CD}(h:Typ (.sl ss) d){i:Nat}{row:List CD}(hi:d.rows[i]? = some row):row.length=ss.length∧∀ (j:Nat) (s:Srt),ss[j]? = some s→Typ s (row.getD j default):=by
 obtain⟨m,u,h⟩:=h
 rcases(show(d=.sl true []∧u=.slice none 0 0)∨_ from h) with ⟨h1,_⟩ | ⟨rows,b,off,cap,h1,h2,h3,h4,h5⟩ | ⟨_,h1,_⟩
 rotate_right
 ·rw [h1] at hi
  cases (show([]:List (List CD))[i]? = some row from hi)
 ·rw [h1] at hi
  cases (show([]:List (List CD))[i]? = some row from hi)
 ·rw [h1] at hi
  have hi:rows[i]? = some row:=hi
  obtain⟨arr,t,fr,_,h7⟩:=h5 (fun hh=>by rw [hh] at hi;cases hi)
  have hr:=h7 i row hi
  refine⟨hr.len,fun j s hj=>?_⟩
  obtain⟨u',_,h8⟩:=hr.get j s hj
  exact⟨m,u',h8⟩
theorem Typ.cell{ss:List Srt}{d:CD}(h:Typ (.sl ss) d){i:Int}{j:Nat}{s:Srt}(h0:0≤i)(hi:i<d.len)(hj:ss[j]? = some s):Typ s (d.cell i j):=by
 have hlt:i.toNat<d.rows.length:=by have:=h.sl.1;omega
 unfold CD.cell
 rw [show d.rows.getD i.toNat []=d.rows[i.toNat] by rw [List.getD_eq_getElem?_getD,List.getElem?_eq_getElem hlt];rfl]
 exact(h.row (List.getElem?_eq_getElem hlt)).2 j s hj
theorem b44(U:Us):∀ z∈([]:List VC),VCok U z:=fun z hz=>by cases hz
theorem b3r{U:Us}{hy:List X}{x:X}{l:List VC}(h:∀ v:Nat→CD,@Holds ⟨v⟩ hy→@Tru ⟨v⟩ x)(hl:∀ z∈l,VCok U z):∀ z∈(hy,x)::l,VCok U z:=fun z hz=>by
 rcases List.mem_cons.1 hz with rfl | hz
 ·intro σ hU hh
  obtain⟨v⟩:=σ
  cases hU
  exact h v hh
 ·exact hl z hz
end Go.Sx

namespace Go.Sx
abbrev sBy:Srt:=.sl [.int .u8]
def byts(d:CD):List UInt8:=d.rows.map b8a
theorem c7g(rows:List (List CD)):Lib.bytesOf (rows.map fun r=>(r.getD 0 default).iv)=rows.map b8a:=by
 unfold Lib.bytesOf
 rw [List.map_map]
 rfl
theorem cio{P:Program}{m:Mem}{w:World}{d:CD}{u:Value}(hm:∀ k o,m k o→w.heap[k]? = some o)(h:RS m sBy d u):(Extern.Bytes.bytesOf u).run P w=.ok ⟨(byts d).toArray⟩ w:=by
 haveI:Sg:={ u:=fun _ _=>default,v:=fun _=>default,lc:=fun _=>⟨#[],.skip,.skip⟩ }
 rcases(show(d=.sl true []∧u=.slice none 0 0)∨_ from h) with ⟨e1,e2⟩ | ⟨rows,b,off,cap,e1,e2,e3,e4,e5⟩ | ⟨ad,e1,e2⟩
 rotate_right
 ·rw [e1,e2];rfl
 ·rw [e1,e2];rfl
 ·have hrows:byts d=rows.map b8a:=by rw [e1];rfl
  rw [hrows,e2]
  by_cases hne:rows=[]
  ·subst hne
   rfl
  ·obtain⟨arr,t,fr,g1,g2⟩:=e5 hne
   obtain⟨us,hf,hc⟩:=b9z g2
   have hob:=hm b _ g1.1
   have:=Lib.run_loadBytesX (P:=P) (w:=w) (rows.map fun r=>(r.getD 0 default).iv) ⟨b,off,none⟩ .empty (fun j x hj=>by
    rw [b36,cell?_of hob]
    refine hc j _ ?_
    rw [cpe hf,List.getElem?_map,hj]
    rfl)
   rw [List.length_map] at this
   show(Extern.Bytes.loadBytes ⟨b,off,none⟩ rows.length .empty).run P w=_
   rw [this,c7g]
   congr 2
   simp
theorem coz:∀ (xs ys:List UInt8),Lib.compareBytes xs ys = -1∨Lib.compareBytes xs ys=0∨Lib.compareBytes xs ys=1
 | [],[]=>.inr (.inl rfl)
 | [],_::_=>.inl rfl
 | _::_,[]=>.inr (.inr rfl)
 | x::xs,y::ys=>by
  simp only [Lib.compareBytes]
  split
  ·exact .inl rfl
  ·split
   ·exact .inr (.inr rfl)
   ·exact coz xs ys
noncomputable def cbd(k:Nat):Fsp:=⟨[(false,[sBy]),(false,[sBy])],[],[(false,[.int .i64])],[([.ap .le [.lit (.int .i64 (-1)),.ap (.usr k) [.var 0,.var 1]],.ap .le [.ap (.usr k) [.var 0,.var 1],.lit (.int .i64 1)]],[[.ap (.usr k) [.var 0,.var 1]]])],true⟩
theorem co0{P:Program}{U:Us}{f:FuncId}{fn:Func}{k:Nat}(hU:∀ a b,@Us.u U k [a,b]=vInt .i64 (Lib.compareBytes (byts a) (byts b)))(hf:P.funcs[f]? = some fn)(hname:(fn.name == "runtime.NumGoroutine")=false) (hb:fn.body.isNone=true) (hn:Extern.findNext fn=none) (he:Extern.find fn=some Extern.BytealgCompare.compare):b3m U P f (cbd k):=by
 intro σ hσ m w us _ hm hargs _
 obtain⟨v⟩:=σ
 cases hσ
 obtain⟨l⟩:=us
 match l,hargs with
 | [u,u'],hargs =>
  obtain⟨h1,h2,_⟩:=hargs
  have h1:RS m sBy (v 0) u:=h1
  have h2:RS m sBy (v 1) u':=h2
  rw [run_callFunc_extern hf hname hb hn he]
  have hrun:(Extern.BytealgCompare.compare #[u,u']).run P w=.ok (.int .i64 (Lib.compareBytes (byts (v 0)) (byts (v 1)))) w:=by
   change ((do pure (goInt (Extern.BytealgCompare.cmp (← Extern.Bytes.bytesOf u) (← Extern.Bytes.bytesOf u'))):Sem Value).run P w)=_
   simp only [Sem.run_bind,cio hm h1,cio hm h2,Result.andThen_ok,Sem.run_pure,Lib.cmp_eq,goInt]
  show b4n P _ (((Extern.BytealgCompare.compare #[u,u']).run P w).andThen fun v w'=>.ok (.value v) w')
  rw [hrun]
  have hr:=coz (byts (v 0)) (byts (v 1))
  refine⟨⟨fun _ _=>rfl,Nat.le_refl _,rfl,rfl,rfl⟩,_,List.mem_singleton.2 rfl,?_,[_],⟨?_,trivial⟩,rfl⟩
  ·simp only [cbd,b3c,b3b,b3u,b_le,b3v,w_l1,w_l0,b3o,b3t,b3s,hU,b3e]
   rcases hr with hr | hr | hr<;>rw [hr]<;>exact⟨by decide,by decide,trivial⟩
  ·refine⟨Lib.compareBytes (byts (v 0)) (byts (v 1)),?_,rfl,?_⟩
   ·exact(hU (v 0) (v 1)).trans rfl
   ·rcases hr with hr | hr | hr<;>rw [hr]<;>decide
 | [],h=>exact h.elim
 | [_],h=>exact h.2.elim
 | _::_::_::_,h=>exact h.2.2.elim
end Go.Sx

namespace Go.Sx
noncomputable section
def csk(P:Program)[Plain P](H:HP)(F:Fm):List ResultVar→Option (List (Bool×List Cel))
 | []=>some []
 | r::rs=>match resF P H F r,csk P H F rs with
  | some p,some l=>some (p::l)
  | _,_=>none
def endI(P:Program)[Plain P](fn:Func)(x:Oc):Option (AV×HP) :=
 match x.1 with
 | .ext _=>none
 | _=>match csk P x.2.2 x.2.1 fn.results.toList with
  | some ps=>some (csl ps,x.2.2)
  | none=>none
structure Inl where
 fn:Func
 hs:Hs
def runI(P:Program)[Plain P](cx:Cx)(d:Inl)(args:List AV)(H:HP):RV :=
 match Nat.ble args.length d.fn.ntmps with
 | true=>match ca9 P cx d.fn.ntmps d.hs (b4b d.fn) (cj5 .nil 0 args) H with
  | some (v,l)=>match b50 (l.map (endI P d.fn)) with
   | some outs=>some (v,outs)
   | none=>none
  | none=>none
 | false=>none
def c44(n:Nat):Fm→List Tmp→List AV→Option Fm
 | F,[],[]=>some F
 | F,p::ps,v::vs=>match putF n F (some p) v with
  | some F'=>c44 n F' ps vs
  | none=>none
 | _,_,_=>none
def ckp:Ex→Option Code
 | .nrm=>none
 | .ext id=>some (.exit id)
 | .rt=>some .ret
def stOf:Ex→LoopState
 | .nrm=>.ready
 | _=>.done
def dbp:Ex→Bool
 | .nrm=>true
 | _=>false
def isReady:LoopState→Bool
 | .ready=>true
 | _=>false
def cgu(b:Nat)(x:Oc):Option (AV×HP) :=
 match b80 x.2.2 b with
 | some l=>some (.one (.lit (.bool (dbp x.1))),x.2.2.obj b (LoopC.ct { l with st:=stOf x.1,pend:=ckp x.1 }))
 | none=>none
def cqp(P:Program)[Plain P](cx:Cx)(hs:Hs)(b n:Nat)(body:Code)(F:Fm)(H:HP):RV :=
 match b80 H b with
 | some l=>match isReady l.st with
  | true=>match ca9 P cx n hs body F (H.obj b (LoopC.ct { l with st:=.busy })) with
   | some (v,outs)=>match b50 (outs.map (cgu b)) with
    | some r=>some (v,r)
    | none=>none
   | none=>none
  | false=>none
 | none=>none
def c1q(P:Program)[Plain P](cx:Cx)(hs:Hs)(b n:Nat)(body:Code)(x:Oc):RV :=
 match x.1 with
 | .nrm=>cqp P cx hs b n body x.2.1 x.2.2
 | _=>none
def cv0(P:Program)[Plain P](cx:Cx)(hs:Nat→Hs)(lc:Nat→LCd)(b:Nat)(args:List AV)(H:HP):RV :=
 match b80 H b with
 | some l=>match c44 l.n l.F (lc l.k).ps.toList args,(b5d (lc l.k).assign&&b5d (lc l.k).body)&&(nilL (b6p (lc l.k).assign)&&nilL (b6p (lc l.k).body)) with
  | some F1,true=>match ca9 P cx l.n (hs l.k) (lc l.k).assign F1 H with
   | some (v,outs)=>addV v (crp (c1q P cx (hs l.k) b l.n (lc l.k).body) outs)
   | none=>none
  | _,_=>none
 | none=>none
structure Tb where
 f:FuncId→Option Inl
 y:Nat→Hs
 lc:Nat→LCd
def Tb.ent(T:Tb):FuncId→Bool:=fun g=>match T.f g with
 | some _=>true
 | none=>false
def keyOf(g id:Nat):Nat:=Nat.add (Nat.mul g 1000) id
def orvK(P:Program)[Plain P](ora:OraM)(fuel fk:Nat)(T:Tb)(d:Nat):OraV :=
 Nat.rec (motive:=fun _=>OraV) noV (fun _ ih t args H=>match t with
  | .f g=>match T.f g with
   | some d=>runI P ⟨ora,ih,T.ent,fuel,fk,none,keyOf g⟩ d args H
   | none=>none
  | .y b=>cv0 P ⟨ora,ih,T.ent,fuel,fk,some b,fun _=>0⟩ T.y T.lc b args H) d
end
theorem cgc{α β:Type}{f:α→Option β}{xs:List α}{ys:List β}(h:b50 (xs.map f)=some ys):(∀ x∈xs,∃ y∈ys,f x=some y)∧∀ y∈ys,∃ x∈xs,f x=some y:=by
 haveI:Sg:={ u:=fun _ _=>default,lc:=fun _=>⟨#[],.skip,.skip⟩,v:=fun _=>default }
 obtain⟨hlen,hget⟩:=b71 h
 rw [List.length_map] at hlen
 refine⟨fun x hx=>?_,fun y hy=>?_⟩
 ·obtain⟨i,hi⟩:=List.getElem?_of_mem hx
  have hlt:i<ys.length:=by rw [← hlen];exact(List.getElem?_eq_some_iff.1 hi).1
  have:=hget i ys[i] (List.getElem?_eq_getElem hlt)
  rw [List.getElem?_map,hi] at this
  simp only [Option.map_some,Option.some.injEq] at this
  exact⟨_,List.getElem_mem hlt,this⟩
 ·obtain⟨i,hi⟩:=List.getElem?_of_mem hy
  have:=hget i y hi
  rw [List.getElem?_map] at this
  cases ho:xs[i]? with
  | none=>rw [ho] at this;cases this
  | some x =>
   rw [ho] at this
   simp only [Option.map_some,Option.some.injEq] at this
   exact⟨x,List.mem_of_getElem? ho,this⟩
section
variable {P:Program} [Plain P] {n:Nat} {U:Us} {H H':HP} {w w':World} {ρ ρ':PM}
theorem cve{σ:Sg}{F:Fm}{a:Act}(hf:@FRel σ n ρ F a)(hH:@HRel σ ρ H w)(hj:J ρ H w):∀ (rs:List ResultVar) {ps:List (Bool×List Cel)},csk P H F rs=some ps →
  ∃ us,(rs.mapM fun | .tmp t=>pure (a.tmps.getD t undef) | .cell x t=>do loadVar t (← asAddr (a.tmps.getD x undef)):Sem (List Value)).run P w=.ok us w∧All2 (@PRel σ ρ) ps us
 | [],ps,h=>by cases h;exact⟨[],rfl,trivial⟩
 | r::rs,ps,h=>by
  simp only [csk] at h
  split at h
  ·rename_i p l hp hl
   cases h
   obtain⟨u,hu,hrel⟩:=@c0p P _ _ _ _ _ _ _ σ hf hH hj _ _ hp
   obtain⟨us,hus,hrels⟩:=cve hf hH hj rs hl
   refine⟨u::us,?_,hrel,hrels⟩
   simp only [List.mapM_cons,Sem.run_bind]
   refine(congrArg (fun x=>Result.andThen x _) hu).trans ?_
   simp only [Result.andThen_ok]
   refine(congrArg (fun x=>Result.andThen x _) hus).trans ?_
   rfl
  ·cases h
structure EndI (σ:Sg) (ρ:PM) (H:HP) (w:World) (ρ':PM) (H':HP) (w':World):Prop where
 rel:@HRel σ ρ' H' w'
 j:J ρ' H' w'
 tw:TW w
 sim:SimF ρ H w ρ' H' w'
theorem EndI.unowned{σ:Sg}{D:Nat}{o:Obj}(h:EndI σ ρ H w ρ' H' w')(hD:w.heap.size≤D)(hno:∀ b L,H'.Kn b→ρ' b=some L→L.B≠D)(hg:∀ g L M o,ρ' g=some L→L.M=some M→¬ M D o):EndI σ ρ H w ρ' H' (w'.putObj D o) where
 rel:=@HRel.mk σ _ _ _ (fun b i c L hc hL=>@b6h.of_heap σ _ _ _ _ _ (World.putObj_heap_other (hno b L ⟨i,c,hc⟩ hL)) _ (@HRel.rel σ _ _ _ h.rel b i c L hc hL)) (@HRel.inj σ _ _ _ h.rel) (@HRel.hy σ _ _ _ h.rel)
 j:=h.j.put h.tw hD hg
 tw:=h.tw
 sim:=⟨h.sim.le,h.sim.grow,h.sim.dom,h.sim.knc,fun k hk hno'=>by rw [World.putObj_heap_other (by omega)];exact h.sim.fr k hk hno',h.sim.new,by rw [World.putObj_size];exact h.sim.size,h.sim.os,h.sim.tape,h.sim.output,h.sim.old,fun hj=>(h.sim.jj hj).put h.tw hD hg,h.sim.ro⟩
theorem ce0{σ:Sg}{fn:Func}{tmps:Array Value}{R:Ending→World→Prop}
  (hend:∀ w',EndI σ ρ H w ρ' H' w'→∃ v,(results fn tmps).run P w'=.ok v w'∧R (.returned v) w'):∀ (ds:List Deferred) (w':World),EndI σ ρ H w ρ' H' w'→DfOK ρ' H' w' w.heap.size ds→LeavesInM Fence.wide 0 P fn tmps R ds .returning w'
 | [],w',s,_=>hend w' s
 | d::ds,w',s,⟨⟨D,h1,hm,h2,h3,h7⟩,h⟩=>by
  refine⟨by simp,.inl ⟨D,_,by rw [h1],run_takeDeferred h2,ce0 hend ds _ (s.unowned hm h3.1 h3.2) ?_⟩⟩
  have keep:∀ (es:List Deferred),(∀ d'∈es,∀ D',d'.target=.collected D'→D'≠D)→DfOK ρ' H' w' w.heap.size es→DfOK ρ' H' (w'.putObj D (.deferred none)) w.heap.size es:=by
   intro es
   induction es with
   | nil=>exact fun _ _=>trivial
   | cons e es ih =>
    rintro hne ⟨⟨D',g1,gm,g2,g3,g7⟩,g⟩
    exact⟨⟨D',g1,gm,by rw [World.putObj_heap_other (hne e (List.mem_cons_self ..) D' (by rw [g1]))];exact g2,g3,g7⟩,ih (fun d' hd'=>hne d' (List.mem_cons_of_mem _ hd')) g⟩
  exact keep ds h7 h
theorem c9w(hm:P.follows .mixedOrders=true){cx:Cx}(hcx:CxOK U P cx)(hrb:cx.rb=none){g:FuncId}{d:Inl}(hf:FnAt P g d.fn)(hrg:b5v U.lc cx.rk (b4b d.fn)){args:List AV}{v:List VC}{outs:List (AV×HP)}(h:runI P cx d args H=some (v,outs))(hv:∀ z∈v,VCok U z) :
  (∀ o∈outs,Sc H o.2)∧∀ σ:Sg,σ.toUs=U→∀ (ρ:PM) (w:World) (us:Array Value),All2 (@VRel σ ρ) args us.toList→@HRel σ ρ H w→Dom ρ H.n→J ρ H w→b4n P (cod σ ρ H w outs) ((callFunc g us).run P w):=by
 unfold runI at h
 split at h
 rotate_left
 ·cases h
 rename_i hlen
 have hlen:=Nat.le_of_ble_eq_true hlen
 split at h
 rotate_left
 ·cases h
 rename_i v1 l hcode
 split at h
 rotate_left
 ·cases h
 rename_i outs1 hall
 cases h
 obtain⟨e1,e2⟩:=cgc hall
 have K:=fun(σ:Sg) (hU:σ.toUs=U)=>ccb (n:=d.fn.ntmps) (m:=0) (r:=none) hm hcx (b4b d.fn) hf.flow hrg hcode hv σ hU
 rw [hrb] at K
 have hH:∀ x o,endI P d.fn x=some o→o.2=x.2.2∧(x.1=.nrm∨x.1=.rt)∧∃ ps,csk P x.2.2 x.2.1 d.fn.results.toList=some ps∧o.1=csl ps:=by
  intro x o hx
  obtain⟨e,F1,H1⟩:=x
  cases e with
  | ext id=>cases hx
  | nrm =>
   have hx:(match csk P H1 F1 d.fn.results.toList with
    | some ps=>some (csl ps,H1)
    | none=>none)=some o:=hx
   split at hx
   ·rename_i ps hps;cases hx;exact⟨rfl,.inl rfl,ps,hps,rfl⟩
   ·cases hx
  | rt =>
   have hx:(match csk P H1 F1 d.fn.results.toList with
    | some ps=>some (csl ps,H1)
    | none=>none)=some o:=hx
   split at hx
   ·rename_i ps hps;cases hx;exact⟨rfl,.inr rfl,ps,hps,rfl⟩
   ·cases hx
 haveI:Inhabited (Nat→CD):=⟨fun _=>default⟩
 refine⟨fun o ho=>?_,fun σ hU ρ w us hargs hH' hd hj=>?_⟩
 ·obtain⟨x,hx,hxo⟩:=e2 o ho
  rw [(hH x o hxo).1]
  exact(K { toUs:=U,v:=fun _=>default } rfl).st x hx
 ·rw [hf.call]
  show Calls P g us w _
  refine callsIn_wide.1 (callsIn_of_wp_marks (F:=Fence.wide) (n:=0) hf.at' hf.body trivial ?_)
  have hal:=All2.length hargs
  simp only [Array.length_toList] at hal
  have s0:@SRel σ d.fn.ntmps ρ (cj5 .nil 0 args) H { tmps:=us++Array.replicate (d.fn.ntmps - us.size) Go.undef,defers:=[] } w:=by
   refine @SRel.mk σ _ _ _ _ _ _ (@FRel.mk σ _ _ _ _ (by simp;omega) fun t v hv=>?_) hH' hd hj
   rcases caw args .nil 0 t v hv with ⟨_,h1⟩ | h1
   ·obtain⟨u,hu,hr⟩:=All2.get hargs _ _ h1
    rw [Nat.sub_zero,Array.getElem?_toList] at hu
    exact⟨u,by rw [Array.getElem?_append_left (Array.getElem?_eq_some_iff.1 hu).1];exact hu,hr⟩
   ·rw [PT.get_nil] at h1;cases h1
  refine(K σ hU).wp (m0:=w.heap.size) s0 trivial (Nat.le_refl _) (DfOK.nil _ _ _ _) fun σ' he x hx ρ' a' w' s' hdf hs'=>?_
  obtain⟨o,ho,hxo⟩:=e1 x hx
  obtain⟨q1,q2,ps,q3,q4⟩:=hH x o hxo
  have hpost:LeavesInM Fence.wide 0 P d.fn a'.tmps (fun r w''=>∃ u',r=.returned u'∧cod σ ρ H w outs u' w'') a'.defers .returning w':=by
   refine ce0 (P:=P) (σ:=σ') (ρ:=ρ) (H:=H) (w:=w) (ρ':=ρ') (H':=x.2.2) (fun w2 hE=>?_) _ _ ⟨@SRel.hp σ' _ _ _ _ _ _ s',@SRel.j σ' _ _ _ _ _ _ s',(show J ρ H w by assumption).tw,hs'⟩ hdf
   obtain⟨uvs,huvs,hvr⟩:=cve (P:=P) (@SRel.fr σ' _ _ _ _ _ _ s') hE.rel hE.j _ q3
   refine⟨oneOf uvs,?_,_,rfl,o,ho,σ',he,ρ',?_,by rw [q1];exact hE.sim,by rw [q1];exact hE.rel⟩
   ·unfold results
    rw [Sem.run_bind,Array.mapM_eq_mapM_toList,Sem.run_map]
    exact congrArg (fun r:Result (List Value)=>(r.andThen fun a w'=>Result.ok a.toArray w').andThen fun a w'=>Sem.run P (pure (if h:a.size=1 then a[0] else Value.tuple a)) w') huvs
   ·rw [q4]
    exact @cqo ρ' σ' _ _ hvr
  obtain⟨e,F1,H1⟩:=x
  rcases q2 with q2 | q2
  ·simp only at q2;subst q2;exact hpost
  ·simp only at q2;subst q2;exact hpost
theorem cp9[σ:Sg]:∀ {ps:List Tmp} {vs:List AV} {us:List Value} {F F':Fm} {tmps:Array Value},c44 n F ps vs=some F'→All2 (@VRel σ ρ) vs us→@FRel σ n ρ F ⟨tmps,[]⟩ →
  ps.length=us.length∧@FRel σ n ρ F' ⟨(ps.zip us).foldl (fun t (p:Tmp×Value)=>t.setIfInBounds p.1 p.2) tmps,[]⟩
 | [],[],[],F,F',tmps,h,_,hf=>by cases h;exact⟨rfl,hf⟩
 | [],[],_::_,_,_,_,_,h,_=>h.elim
 | [],_::_,_,_,_,_,h,_,_=>by cases h
 | _::_,[],_,_,_,_,h,_,_=>by cases h
 | p::ps,v::vs,[],_,_,_,_,h,_=>h.elim
 | p::ps,v::vs,u::us,F,F',tmps,h,⟨h1,h2⟩,hf=>by
  simp only [c44] at h
  split at h
  ·rename_i F1 hp
   have:=@cf0 σ _ _ _ _ _ _ _ _ hf h1 hp
   obtain⟨k1,k2⟩:=cp9 h h2 this
   exact⟨by simp [k1],k2⟩
  ·cases h
theorem cbe{b:Nat}{x:Oc}{o:AV×HP}(h:cgu b x=some o):∃ l,b80 x.2.2 b=some l∧o=(.one (.lit (.bool (dbp x.1))),x.2.2.obj b (LoopC.ct { l with st:=stOf x.1,pend:=ckp x.1 })):=by
 unfold cgu at h
 split at h
 ·rename_i l hl
  cases h
  exact⟨l,hl,rfl⟩
 ·cases h
theorem cho{α:Type}{l:List α}(h:nilL l=true):l=[]:=by
 cases l with
 | nil=>rfl
 | cons _ _=>cases h
theorem cqq(hm:P.follows .mixedOrders=true){cx:Cx}(hcx:CxOK U P cx){hs:Hs}{b:Nat}(hrb:cx.rb=some b){body:Code}{F:Fm}{v:List VC}{outs:List (AV×HP)}(hfl:b5d body=true)(hrg:b5v U.lc cx.rk body)
  (h:cqp P cx hs b n body F H=some (v,outs)) (hv:∀ z∈v,VCok U z):(∀ o∈outs,Sc H o.2)∧∀ σ:Sg,σ.toUs=U→∀ {ρ:PM} {a:Act} {w:World} {L:Loc} {R:Ending→World→Prop} {m0:Nat},ρ b=some L→@SRel σ n ρ F H a w→m0≤w.heap.size→DfOK ρ H w m0 a.defers →
   (∀ o∈outs,∀ σ',Ext H.nv σ σ'→∀ ρ' u w',@VRel σ' ρ' o.1 u→SimF ρ H w ρ' o.2 w'→@HRel σ' ρ' o.2 w'→R (.returned u) w')→∃ w₂,(Instr.beginRound L.B).run P w=.ok () w₂∧body.wpIn (WF (some L.B)) 0 P (roundPost P L.B R) a w₂:=by
 unfold cqp at h
 split at h
 rotate_left
 ·cases h
 rename_i l hl
 split at h
 rotate_left
 ·cases h
 rename_i hst
 split at h
 rotate_left
 ·cases h
 rename_i v1 l2 hc
 split at h
 rotate_left
 ·cases h
 rename_i r1 hall0
 cases h
 obtain⟨hall,hall'⟩:=cgc hall0
 have K:=fun(r:Option Nat) (σ:Sg) (hU:σ.toUs=U)=>ccb (n:=n) (m:=0) (r:=r) hm hcx body hfl hrg hc hv σ hU
 rw [hrb] at K
 refine⟨fun o ho=>?_,fun σ hU {ρ a w L R m0} hL s hm0 df hR=>?_⟩
 ·obtain⟨x,hx,hxe⟩:=hall' o ho
  obtain⟨l3,_,rfl⟩:=cbe hxe
  haveI:Sg:={ toUs:=U,v:=fun _=>default }
  exact((St.obj _ _ _).sc.trans ((K none { toUs:=U,v:=fun _=>default } rfl).st x hx)).trans (St.obj _ _ _).sc
 ·have hfr:=@SRel.fr σ _ _ _ _ _ _ s
  have hhp:=@SRel.hp σ _ _ _ _ _ _ s
  have hdm:=@SRel.dom σ _ _ _ _ _ _ s
  have hjj:=@SRel.j σ _ _ _ _ _ _ s
  obtain⟨q,hq,q1,q2,q3,q4,q5,q6⟩:=@ccm σ _ _ _ _ _ _ hhp hL hl
  have hqr:q.state=.ready:=by
   rw [q1]
   cases hx:l.st<;>rw [hx] at hst<;>first | rfl | cases hst
  refine⟨_,run_beginRound hq hqr,?_⟩
  have hs2:=@Sim.record σ H w ρ b l { l with st:=.busy } L q { q with state:=.busy } hhp hdm hL hl hq ⟨rfl,rfl,rfl⟩ (by rw [← q2])
  have hs2f:=@Sim.f σ _ _ _ _ _ _ hs2
  refine(K (some L.B) σ hU).wp (@SRel.mk σ _ _ _ _ _ _ hfr (@Sim.rel σ _ _ _ _ _ _ hs2) hs2f.dom (hs2f.jj hjj)) ⟨L,hL,rfl⟩ (Nat.le_trans hm0 hs2f.size) (DfOK.cn4 hdm hs2f df) fun σ3 he3 x hx ρ3 a3 w3 s3 _ hs3=>?_
  obtain⟨o,ho,hoe⟩:=hall x hx
  obtain⟨l3,hl3,rfl⟩:=cbe hoe
  have hL3:=hs3.le b L hL
  have hhp3:=@SRel.hp σ3 _ _ _ _ _ _ s3
  obtain⟨p,hp',p1,p2,p3,p4,p5,p6⟩:=@ccm σ3 _ _ _ _ _ _ hhp3 hL3 hl3
  obtain⟨e,F3,H3⟩:=x
  have fin:∀ (jump:Option Code),jump=ckp e→∃ v w',(Instr.endRound L.B jump).run P w3=.ok v w'∧R (Ending.returned v) w':=by
   intro jump hj
   subst hj
   have hs4:=@Sim.record σ3 H3 w3 ρ3 b l3 { l3 with st:=stOf e,pend:=ckp e } L p { p with state:=if(ckp e).isNone then .ready else .done,pending:=ckp e } hhp3 (@SRel.dom σ3 _ _ _ _ _ _ s3) hL3 hl3 hp' ⟨rfl,rfl,rfl⟩ (by cases e<;>rfl)
   have hs4f:=@Sim.f σ3 _ _ _ _ _ _ hs4
   have hs34:=@SimF.trans σ _ _ _ _ _ _ _ _ _ hs2f.dom hs3 hs4f
   have he:Ext H.nv σ σ3:=he3
   refine⟨_,_,run_endRound _ hp',hR _ ho σ3 he ρ3 _ _ ?_ (@SimF.trans σ _ _ _ _ _ _ _ _ _ hdm hs2f hs34) (@Sim.rel σ3 _ _ _ _ _ _ hs4)⟩
   cases e<;>exact⟨rfl,rfl⟩
  cases e with
  | nrm=>exact fin _ rfl
  | ext id=>exact fin _ rfl
  | rt=>exact fin _ rfl
theorem c2j(hm:P.follows .mixedOrders=true){cx:Cx}(hcx:CxOK U P cx){hs:Nat→Hs}{b:Nat}(hrb:cx.rb=some b){args:List AV}{v:List VC}{outs:List (AV×HP)}(h:cv0 P cx hs U.lc b args H=some (v,outs))(hv:∀ z∈v,VCok U z) :
  (∀ o∈outs,Sc H o.2)∧∀ σ:Sg,σ.toUs=U→∀ (ρ:PM) (w:World) (us:Array Value) (L:Loc),ρ b=some L→All2 (@VRel σ ρ) args us.toList→@HRel σ ρ H w→Dom ρ H.n→J ρ H w→b4n P (cod σ ρ H w outs) ((Instr.yield L.B us).run P w):=by
 unfold cv0 at h
 split at h
 rotate_left
 ·cases h
 rename_i l hl
 split at h
 rotate_left
 ·cases h
 rename_i F1 hp hfl
 simp only [Bool.and_eq_true] at hfl
 obtain⟨⟨hfl1,hfl2⟩,hn1,hn2⟩:=hfl
 have hr1:b5v U.lc cx.rk (U.lc l.k).assign:=fun x hx=>by rw [cho hn1] at hx;cases hx
 have hr2:b5v U.lc cx.rk (U.lc l.k).body:=fun x hx=>by rw [cho hn2] at hx;cases hx
 split at h
 rotate_left
 ·cases h
 rename_i v1 l1 hc1
 obtain⟨v2,h0,rfl⟩:=cgb h
 have hv1:∀ z∈v1,VCok U z:=fun z hz=>hv z (List.mem_append_left _ hz)
 obtain⟨hb1,hb2⟩:=b7s h0
 have K1:=fun(m:Nat) (r:Option Nat) (σ:Sg) (hU:σ.toUs=U)=>ccb (n:=l.n) (m:=m) (r:=r) hm hcx (U.lc l.k).assign hfl1 hr1 hc1 hv1 σ hU
 rw [hrb] at K1
 have hth:∀ x∈l1,∃ F2 H2,x=(.nrm,F2,H2)∧∃ v3 zs,cqp P cx (hs l.k) b l.n (U.lc l.k).body F2 H2=some (v3,zs)∧(∀ z∈zs,z∈outs)∧∀ z∈v3,VCok U z:=by
  intro x hx
  obtain⟨v3,zs,h1,h2,h3⟩:=hb1 x hx
  obtain⟨e,F2,H2⟩:=x
  cases e with
  | nrm=>exact⟨F2,H2,rfl,v3,zs,h1,h2,fun z hz=>hv z (List.mem_append_right _ (h3 z hz))⟩
  | ext id=>cases h1
  | rt=>cases h1
 refine⟨fun o ho=>?_,fun σ hU ρ w us L hL hargs hH hd hj=>?_⟩
 ·obtain⟨x,hx,v3,zs,h1,h2⟩:=hb2 o ho
  obtain⟨F2,H2,rfl,v4,zs',h3,h4,h5⟩:=hth x hx
  have h1:cqp P cx (hs l.k) b l.n (U.lc l.k).body F2 H2=some (v3,zs):=h1
  rw [h3] at h1
  cases h1
  haveI:Sg:={ toUs:=U,v:=fun _=>default }
  exact((K1 0 none { toUs:=U,v:=fun _=>default } rfl).st _ hx).trans ((cqq hm hcx hrb hfl2 hr2 h3 h5).1 o h2)
 ·obtain⟨r,hr,r1,r2,r3,r4,r5,r6⟩:=@ccm σ _ _ _ _ _ _ hH hL hl
  rw [show(@Us.lc σ.toUs l.k)=U.lc l.k by rw [hU]] at r3 r4 r5
  obtain⟨hlen,hf⟩:=cp9 hp hargs r6
  have hy:=run_yield (P:=P) (w:=w) (args:=us) hr (by rw [r3,← Array.length_toList,← hlen,Array.length_toList])
  rw [hy]
  show RoundIn Fence.wide 0 P L.B r.fn _ r.assign r.body w _
  refine roundIn_of_wpIn trivial ?_
  rw [r4,r5]
  have hzip:((r.params.zip us).foldl (fun tmps (x:Tmp×Value)=>tmps.setIfInBounds x.1 x.2) r.tmps)=((U.lc l.k).ps.toList.zip us.toList).foldl (fun t (p:Tmp×Value)=>t.setIfInBounds p.1 p.2) r.tmps:=by
   rw [r3,← Array.foldl_toList,Array.toList_zip]
  have s0:@SRel σ l.n ρ F1 H { tmps:=(r.params.zip us).foldl (fun tmps (x:Tmp×Value)=>tmps.setIfInBounds x.1 x.2) r.tmps,defers:=[] } w:=@SRel.mk σ _ _ _ _ _ _ (by rw [hzip];exact hf) hH hd hj
  refine(K1 0 (some L.B) σ hU).wp s0 ⟨L,hL,rfl⟩ (Nat.zero_le _) (DfOK.nil _ _ _ 0) fun σ1 he1 x hx ρ1 a1 w1 s1 df1 hs1=>?_
  obtain⟨F2,H2,rfl,v4,zs,h1,h2,h3⟩:=hth x hx
  have hL1:=hs1.le b L hL
  exact(cqq hm hcx hrb hfl2 hr2 h1 h3).2 σ1 (he1.us.trans hU) hL1 s1 (Nat.zero_le _) df1 fun o ho σ' he' ρ' u w' hv hs hrel=>⟨u,rfl,o,h2 o ho,σ',he1.trans ((K1 0 none { toUs:=U,v:=fun _=>default } rfl).st _ hx).2.2 he',ρ',hv,@SimF.trans σ _ _ _ _ _ _ _ _ _ hd hs1 hs,hrel⟩
structure TbOK (U:Us) (P:Program) (T:Tb):Prop where
 f:∀ g d,T.f g=some d→FnAt P g d.fn∧b5v U.lc (keyOf g) (b4b d.fn)
 lc:T.lc=U.lc
theorem TbOK.ent{T:Tb}(h:TbOK U P T):∀ g,T.ent g=true→∀ us w,(callFunc g us).run P w=.ok (.enter g us) w:=by
 intro g hg us w
 unfold Tb.ent at hg
 split at hg
 ·rename_i d hd
  exact(h.f g d hd).1.call us w
 ·cases hg
theorem cr7(hm:P.follows .mixedOrders=true){ora:OraM}(hora:cb4 U P ora){fuel fk:Nat}{T:Tb}(hT:TbOK U P T):∀ (k:Nat),b9q U P (orvK P ora fuel fk T k)
 | 0=>c6r
 | k+1=>by
  have ih:=cr7 hm hora (fuel:=fuel) (fk:=fk) hT k
  intro t args H v outs h hv
  cases t with
  | f g =>
   have h':(match T.f g with
    | some d=>runI P ⟨ora,orvK P ora fuel fk T k,T.ent,fuel,fk,none,keyOf g⟩ d args H
    | none=>none)=some (v,outs):=h
   split at h'
   ·rename_i d hd
    obtain⟨h1,h2⟩:=hT.f g d hd
    obtain⟨k1,k2⟩:=c9w hm (⟨hora,ih,hT.ent⟩:CxOK U P ⟨ora,orvK P ora fuel fk T k,T.ent,fuel,fk,none,keyOf g⟩) rfl h1 h2 h' hv
    exact⟨k1,fun σ hU ρ w us s hs hargs hH hd hj=>by rw [show s=callFunc g us from hs];exact k2 σ hU ρ w us hargs hH hd hj⟩
   ·cases h'
  | y b =>
   have h':cv0 P ⟨ora,orvK P ora fuel fk T k,T.ent,fuel,fk,some b,fun _=>0⟩ T.y T.lc b args H=some (v,outs):=h
   rw [hT.lc] at h'
   obtain⟨k1,k2⟩:=c2j hm (⟨hora,ih,hT.ent⟩:CxOK U P ⟨ora,orvK P ora fuel fk T k,T.ent,fuel,fk,some b,fun _=>0⟩) rfl h' hv
   refine⟨k1,fun σ hU ρ w us s hs hargs hH hd hj=>?_⟩
   obtain⟨L,hL,he⟩:=hs
   rw [he]
   exact k2 σ hU ρ w us L hL hargs hH hd hj
end
end Go.Sx

namespace Go.Sx
noncomputable def cy8:List (FuncId×Func)→Nat→Option Func
 | [],_=>none
 | x::r,k=>match Nat.beq k x.1 with
  | true=>some x.2
  | false=>cy8 r k
noncomputable def lcOf(L:List (FuncId×Func))(k:Nat):LCd:=match cy8 L (Nat.div k 1000) with
 | some fn=>cy9 (b6p (b4b fn)) (Nat.mod k 1000)
 | none=>⟨#[],.skip,.skip⟩
noncomputable def c60(fn:Func):Bool:=c2w (b6p (b4b fn))&&(b6p (b4b fn)).all fun x=>Nat.ble (Nat.succ x.1) 1000
theorem c78(g x:Nat)(h:x<1000):(g*1000+x) / 1000=g:=by omega
theorem c79(g x:Nat)(h:x<1000):(g*1000+x) % 1000=x:=by omega
theorem csg{L:List (FuncId×Func)}{g:FuncId}{fn:Func}(h1:cy8 L g=some fn)(h2:c60 fn=true):b5v (lcOf L) (keyOf g) (b4b fn):=by
 intro x hx
 unfold c60 at h2
 rw [Bool.and_eq_true] at h2
 have hlt:x.1<1000:=Nat.le_of_ble_eq_true (List.all_eq_true.1 h2.2 x hx)
 unfold lcOf
 have e1:Nat.div (keyOf g x.1) 1000=g:=c78 g x.1 hlt
 have e2:Nat.mod (keyOf g x.1) 1000=x.1:=c79 g x.1 hlt
 rw [e1,h1,e2]
 exact ct9 h2.1 x hx
theorem b8j{lc:Nat→LCd}{rk:Nat→Nat}{c:Code}(h:nilL (b6p c)=true):b5v lc rk c:=fun x hx=>by
 rw [cho h] at hx
 cases hx
noncomputable def cmz:List (FuncId×Inl)→FuncId→Option Inl
 | [],_=>none
 | x::r,k=>match Nat.beq k x.1 with
  | true=>some x.2
  | false=>cmz r k
theorem chf:∀ {l:List (FuncId×Inl)} {g:FuncId} {d:Inl},cmz l g=some d→(g,d)∈l
 | [],g,d,h=>by cases h
 | x::r,g,d,h=>by
  unfold cmz at h
  split at h
  ·rename_i hb
   cases h
   rw [Nat.eq_of_beq_eq_true hb]
   exact List.mem_cons_self ..
  ·exact List.mem_cons_of_mem _ (chf h)
variable {P:Program}
structure InlOK (U:Us) (P:Program) (x:FuncId×Inl):Prop where
 at':FnAt P x.1 x.2.fn
 rg:b5v U.lc (keyOf x.1) (b4b x.2.fn)
theorem TbOK.of{U:Us}{l:List (FuncId×Inl)}{y:Nat→Hs}(h:∀ x∈l,InlOK U P x):TbOK U P ⟨cmz l,y,U.lc⟩:=⟨fun g d hd=>⟨(h _ (chf hd)).at',(h _ (chf hd)).rg⟩,rfl⟩
theorem InlOK.of{U:Us}{g:FuncId}{fn:Func}{hs:Hs}(h:FnAt P g fn)(hn:nilL (b6p (b4b fn))=true):InlOK U P (g,⟨fn,hs⟩):=⟨h,b8j hn⟩
def cer(U:Us)(P:Program)(l:List (FuncId×Inl)):Prop:=∀ x∈l,InlOK U P x
theorem cer.nil{U:Us}:cer U P []:=fun x hx=>by cases hx
theorem cer.cons{U:Us}{x:FuncId×Inl}{l:List (FuncId×Inl)}(h:InlOK U P x)(hl:cer U P l):cer U P (x::l):=fun y hy=>by
 rcases List.mem_cons.1 hy with rfl | hy
 ·exact h
 ·exact hl y hy
noncomputable def noY:Nat→Hs:=fun _=>⟨fun _=>none,fun _ _ _=>[]⟩
noncomputable def noH:Hs:=⟨fun _=>none,fun _ _ _=>[]⟩
noncomputable def cxOf(P:Program)[Plain P](ora:OraM)(fuel fk:Nat)(T:Tb)(d:Nat)(f:FuncId):Cx:=⟨ora,orvK P ora fuel fk T d,T.ent,fuel,fk,none,keyOf f⟩
theorem b3m.ofV{P:Program}[Plain P]{U:Us}{T:FuncId→Option Fsp}{l:List (FuncId×Inl)}{y:Nat→Hs}{dp:Nat}{f:FuncId}{fn:Func}{fuel fk:Nat}{hs:Hs}{S:Fsp}{v:List VC}{outs:List (List X×List (List X))}(hm:P.follows .mixedOrders=true)(hT:∀ f S,T f=some S→b3m U P f S)
  (hl:∀ x∈l,InlOK U P x) (hf:FnAt P f fn) (hrg:b5v U.lc (keyOf f) (b4b fn))
  (h:runV P (cxOf P (b6d T) fuel fk ⟨cmz l,y,U.lc⟩ dp f) hs fn (b4b fn) S=some (v,outs)) (hv:∀ z∈v,VCok U z) (hend:∀ o∈outs,∀ σ:Sg,σ.toUs=U→@Holds σ o.1→∃ q∈S.outs,@Holds σ q.1∧q.2.map (@denL σ)=o.2.map (@denL σ)):b3m U P f S :=
 cbj hm ⟨cc2 hT,cr7 hm (cc2 hT) (TbOK.of hl) dp,(TbOK.of hl).ent⟩ rfl hrg hf.at' hf.body hf.call hf.flow h hv hend
end Go.Sx

namespace Go.Proofs.Ytlbbkmcegbeckaa
open Go.Sx Go.Proofs
abbrev sRun:List Srt:=[.int .i64,.int .i64,.int .i64,.sl [.int .u8],.sl [.int .u8]]
def mkz(r:List (List CD)):CD:=.sl r.isEmpty r
def at'(r:List CD)(j:Nat):CD:=r.getD j default
def b68(r:List CD):Bool:=decide (200<(r.getD 3 default).len)||decide (200<(r.getD 4 default).len)
def b3q(l:CD)(most:Int):Bool:=decide (most<l.len)||l.rows.any b68
def cpB(d:CD):CD:=.sl false d.rows
def b6s(r:List CD):List CD:=[at' r 0,at' r 1,at' r 2,cpB (at' r 3),cpB (at' r 4)]
def cgq(l:CD):CD:=mkz (l.rows.map b6s)
def cbb(a b:CD):Bool:=byts a==byts b
def b8p(r q:List CD):Bool:=eqC (at' r 0) (at' q 0)&&eqC (at' r 1) (at' q 1)&&eqC (at' r 2) (at' q 2)&&cbb (at' r 3) (at' q 3)&&cbb (at' r 4) (at' q 4)
def allS(f:List CD→List CD→Bool):List (List CD)→List (List CD)→Bool
 | [],[]=>true
 | r::l,q::m=>f r q&&allS f l m
 | _,_=>false
abbrev b59:=allS b8p
def cby(r q:List CD):Bool:=b59 (at' r 0).rows (at' q 0).rows
abbrev ca2:=allS cby
def b48(l:CD):CD:=mkz (l.rows.map fun r=>[cgq (at' r 0)])
def b4a(l:CD)(most:Int):Bool:=decide (8<l.len)||l.rows.any fun r=>b3q (at' r 0) most
def cmpC(a b:CD):Int:=Lib.compareBytes (byts a) (byts b)
def b5s(r:List CD):Bool:=decide (1≤(at' r 2).iv)&&decide (1≤(at' r 3).len)&&decide ((at' r 3).len≤32)&&decide (1≤(at' r 4).len)&&decide ((at' r 4).len≤32)&&decide (cmpC (at' r 3) (at' r 4)≤0)
def cbq(n:Nat)(d:CD)(j:Nat):Bool:=b5s (d.rows.getD j [])&&!(decide (0<n)&&decide (0<j)&&decide (0≤cmpC (at' (d.rows.getD (j - 1) []) 4) (at' (d.rows.getD j []) 3)))
def cr6(l:CD)(n:Nat):Bool:=(List.range (l.cell n 0).rows.length).all (cbq n (l.cell n 0))
def b4c(l:CD):Bool:=decide (l.len≤4)&&(List.range l.rows.length).all (cr6 l)
def levD(l:CD)(n:Int):CD:=mkz (l.cell n 0).rows
def cr9(a b c:Int):Int:=if 4<a then 0 else if 8<b then 1 else if 16<c then 2 else 0
def cr8(a b c:Int):Bool:=decide (4<a)||(decide (8<b)||decide (16<c))
def cfo(l:CD):Int:=if b4c l then cr9 (l.cell 0 0).len (l.cell 1 0).len (l.cell 2 0).len else 0
def cfm(l:CD):Bool:=b4c l&&cr8 (l.cell 0 0).len (l.cell 1 0).len (l.cell 2 0).len
def cey(f t:CD)(r:List CD):Bool:=decide (0≤cmpC (at' r 4) f)&&(decide (t.len=0)||decide (cmpC (at' r 3) t<0))&&(decide (t.len=0)||decide (cmpC f t<0))
def b6c(f t:CD)(rows:List (List CD)):List (List CD):=rows.filter (cey f t)
def cqx(f t:CD)(ls:List (List (List CD)))(n i:Nat):List (List CD):=(ls.take n).flatMap (b6c f t)++b6c f t ((ls.getD n []).take i)
def cba(l:CD):List (List (List CD)):=l.rows.map fun r=>(at' r 0).rows
def b57(l f t:CD):CD:=if b4c l then mkz ((cba l).flatMap (b6c f t)) else mkz []
def b6q(l:CD)(r:List CD):Bool:=b4c l&&b5s r
def addD(l:CD)(r:List CD):CD:=if b6q l r then .sl false [[.sl false (r::(l.cell 0 0).rows)],[levD l 1],[levD l 2],[levD l 3]] else .sl true []
def refD(l:CD)(n:Int):CD:=if n<l.len then .sl false (l.cell n 0).rows else .sl true []
def addR(l:CD)(r:List CD):CD:=if b6q l r then .sl false [[.sl false (r::(l.cell 0 0).rows)],[refD l 1],[refD l 2],[refD l 3]] else .sl true []
def addN(l:CD)(r:List CD):Int:=if b6q l r then 0 else 2
@[reducible] noncomputable def U:Us:=⟨fun n l=>match n with
 | 0=>b34 (b3q (l.getD 0 default) (l.getD 1 default).iv)
 | 1=>b34 (((l.getD 0 default).rows.take (l.getD 1 default).iv.toNat).any b68)
 | 2=>cgq (l.getD 0 default)
 | 3=>mkz (((l.getD 0 default).rows.take (l.getD 1 default).iv.toNat).map b6s)
 | 4=>b34 (cbb (l.getD 0 default) (l.getD 1 default))
 | 5=>b34 (b8p (l.take 5) (l.drop 5))
 | 6=>b34 (b59 (l.getD 0 default).rows (l.getD 1 default).rows)
 | 7=>b34 (b59 ((l.getD 0 default).rows.take (l.getD 2 default).iv.toNat) ((l.getD 1 default).rows.take (l.getD 2 default).iv.toNat))
 | 8=>b34 (ca2 (l.getD 0 default).rows (l.getD 1 default).rows)
 | 9=>b34 (ca2 ((l.getD 0 default).rows.take (l.getD 2 default).iv.toNat) ((l.getD 1 default).rows.take (l.getD 2 default).iv.toNat))
 | 10=>b48 (l.getD 0 default)
 | 11=>mkz (((l.getD 0 default).rows.take (l.getD 1 default).iv.toNat).map fun r=>[cgq (at' r 0)])
 | 12=>b34 (b4a (l.getD 0 default) (l.getD 1 default).iv)
 | 13=>b34 (((l.getD 0 default).rows.take (l.getD 2 default).iv.toNat).any fun r=>b3q (at' r 0) (l.getD 1 default).iv)
 | 20=>vInt .i64 (Lib.compareBytes (byts (l.getD 0 default)) (byts (l.getD 1 default)))
 | 21=>b34 (b5s l)
 | 22=>vInt .i64 (if b4c (l.getD 0 default) then 0 else 2)
 | 23=>b34 ((List.range (l.getD 1 default).iv.toNat).all (cr6 (l.getD 0 default)))
 | 24=>b34 ((List.range (l.getD 2 default).iv.toNat).all (cbq (l.getD 1 default).iv.toNat ((l.getD 0 default).cell (l.getD 1 default).iv 0)))
 | 25=>mkz (l.getD 0 default).rows
 | 26=>mkz ((l.getD 0 default).rows.take (l.getD 1 default).iv.toNat)
 | 27=>levD (l.getD 0 default) (l.getD 1 default).iv
 | 28=>vInt .i64 (cr9 (l.getD 0 default).len (l.getD 1 default).len (l.getD 2 default).len)
 | 29=>b34 (cr8 (l.getD 0 default).len (l.getD 1 default).len (l.getD 2 default).len)
 | 30=>vInt .i64 (cfo (l.getD 0 default))
 | 31=>b34 (cfm (l.getD 0 default))
 | 32=>mkz ([(l.getD 0 default).rows,(l.getD 1 default).rows,(l.getD 2 default).rows,(l.getD 3 default).rows].flatMap (b6c (l.getD 4 default) (l.getD 5 default)))
 | 33=>mkz (cqx (l.getD 4 default) (l.getD 5 default) [(l.getD 0 default).rows,(l.getD 1 default).rows,(l.getD 2 default).rows,(l.getD 3 default).rows] (l.getD 6 default).iv.toNat (l.getD 7 default).iv.toNat)
 | 34=>mkz (cqx (l.getD 1 default) (l.getD 2 default) (cba (l.getD 0 default)) (l.getD 3 default).iv.toNat (l.getD 4 default).iv.toNat)
 | 35=>b57 (l.getD 0 default) (l.getD 1 default) (l.getD 2 default)
 | 36=>addR (l.getD 0 default) (l.drop 1)
 | 37=>vInt .i64 (addN (l.getD 0 default) (l.drop 1))
 | 38=>b34 (decide (1≤(l.getD 0 default).len)&&decide ((l.getD 0 default).len≤32))
 | 39=>addD (l.getD 0 default) (l.drop 1)
 | _=>default,lcOf [(55,Try.f55)]⟩
theorem c6p{d:CD}{i:Int}(h:i<d.len):i.toNat<d.rows.length∨i<0:=by
 have:d.len≤d.rows.length:=Nat.min_le_left _ _
 omega
theorem any_succ{l:CD}{i:Int}{f:List CD→Bool}(h0:0≤i)(h:i<l.len)(ha:(l.rows.take i.toNat).any f=false)(hr:f (l.rows.getD i.toNat [])=false):(l.rows.take (i+1).toNat).any f=false:=by
 have hlt:i.toNat<l.rows.length:=by rcases c6p h with h | h<;>omega
 rw [show(i+1).toNat=i.toNat+1 by omega,List.take_succ_eq_append_getElem hlt,List.any_append,ha]
 rw [List.getD_eq_getElem?_getD,List.getElem?_eq_getElem hlt] at hr
 simpa using hr
theorem cro{l:CD}{i:Int}{f:List CD→Bool}(h0:0≤i)(h:i<l.len)(hr:f (l.rows.getD i.toNat [])=true):l.rows.any f=true:=by
 have hlt:i.toNat<l.rows.length:=by rcases c6p h with h | h<;>omega
 rw [List.getD_eq_getElem?_getD,List.getElem?_eq_getElem hlt] at hr
 exact List.any_eq_true.2 ⟨_,List.getElem_mem hlt,hr⟩
theorem cxm{l:CD}{i:Int}{f:List CD→Bool}(hl:l.len=l.rows.length)(h:¬ i<l.len)(ha:(l.rows.take i.toNat).any f=false):l.rows.any f=false:=by
 rwa [List.take_of_length_le (by omega)] at ha
theorem coh{f:List CD→List CD→Bool}{r q:List CD}:∀ {l m:List (List CD)},l.length=m.length→allS f (l++[r]) (m++[q])=(allS f l m&&f r q)
 | [],[],_=>by simp [allS]
 | x::l,y::m,h=>by
  simp only [List.cons_append,allS]
  rw [coh (by simpa using h),Bool.and_assoc]
 | [],_::_,h=>by simp at h
 | _::_,[],h=>by simp at h
theorem ctb{f:List CD→List CD→Bool}:∀ {l m:List (List CD)},allS f l m=true→l.length=m.length
 | [],[],_=>rfl
 | x::l,y::m,h=>by
  simp only [allS,Bool.and_eq_true] at h
  simp [ctb h.2]
 | [],_::_,h=>by cases h
 | _::_,[],h=>by cases h
theorem cta{f:List CD→List CD→Bool}:∀ {l m:List (List CD)},allS f l m=true→∀ (i:Nat) (hi:i<l.length),f (l.getD i []) (m.getD i [])=true
 | [],[],_,i,hi=>by simp at hi
 | x::l,y::m,h,0,_=>by
  simp only [allS,Bool.and_eq_true] at h
  simpa using h.1
 | x::l,y::m,h,i+1,hi=>by
  simp only [allS,Bool.and_eq_true] at h
  simpa using cta h.2 i (by simpa using hi)
 | [],_::_,h,_,_=>by cases h
 | _::_,[],h,_,_=>by cases h
theorem cc6{l:CD}{i:Int}(hl:l.len=l.rows.length)(h0:0≤i)(h:i<l.len):l.rows.take (i+1).toNat=l.rows.take i.toNat++[l.rows.getD i.toNat []]:=by
 have hlt:i.toNat<l.rows.length:=by omega
 rw [show(i+1).toNat=i.toNat+1 by omega,List.take_succ_eq_append_getElem hlt,List.getD_eq_getElem?_getD,List.getElem?_eq_getElem hlt]
 rfl
theorem cc5{l:CD}{i:Int}(hl:l.len=l.rows.length)(h:¬ i<l.len):l.rows.take i.toNat=l.rows:=List.take_of_length_le (by omega)
theorem ctt{a b:Nat}:(eqC (vInt .i64 a) (vInt .i64 b)=true)=(a=b):=by
 show(decide ((a:Int)=b)=true)=_
 rw [decide_eq_true_eq,Int.natCast_inj]
section
variable {f:List CD→List CD→Bool} {l m:CD} {i:Int}
theorem ddm(hl:l.len=l.rows.length)(hm:m.len=m.rows.length)(he:l.len=m.len)(h0:0≤i)(hi:i<l.len)(ht:allS f (l.rows.take i.toNat) (m.rows.take i.toNat)=true)(hr:f (l.rows.getD i.toNat []) (m.rows.getD i.toNat [])=true) :
  allS f (l.rows.take (i+1).toNat) (m.rows.take (i+1).toNat)=true:=by
 rw [cc6 hl h0 hi,cc6 hm h0 (by omega),coh (by rw [List.length_take,List.length_take];omega),ht,hr]
 rfl
theorem lenS(hl:l.len=l.rows.length)(hm:m.len=m.rows.length)(he:¬ l.len=m.len):allS f l.rows m.rows=false:=by
 rw [Bool.eq_false_iff]
 intro h
 exact he (by have:=ctb h;omega)
theorem rowS(hl:l.len=l.rows.length)(h0:0≤i)(hi:i<l.len)(hr:¬ f (l.rows.getD i.toNat []) (m.rows.getD i.toNat [])=true):allS f l.rows m.rows=false:=by
 rw [Bool.eq_false_iff]
 intro h
 exact hr (cta h i.toNat (by omega))
theorem da5(hl:l.len=l.rows.length)(hm:m.len=m.rows.length)(he:l.len=m.len)(hi:¬ i<l.len)(ht:allS f (l.rows.take i.toNat) (m.rows.take i.toNat)=true):allS f l.rows m.rows=true:=by
 rwa [cc5 hl hi,cc5 hm (by omega)] at ht
end
theorem b47{f:Nat→Bool}{i:Int}(h0:0≤i):(List.range (i+1).toNat).all f=((List.range i.toNat).all f&&f i.toNat):=by
 rw [show(i+1).toNat=i.toNat+1 by omega,List.range_succ,List.all_append]
 simp
theorem caz{d:CD}{n:Nat}{i:Int}(h0:0≤i):cbq n d i.toNat=(b5s [d.cell i 0,d.cell i 1,d.cell i 2,d.cell i 3,d.cell i 4]&&!(decide (0<n)&&decide (0<i)&&decide (0≤cmpC (d.cell (i - 1) 4) (d.cell i 3)))):=by
 have h1:decide (0<i.toNat)=decide (0<i):=by rw [decide_eq_decide];omega
 have h2:(i - 1).toNat=i.toNat - 1:=by omega
 unfold cbq
 rw [h1]
 unfold CD.cell
 rw [h2]
 rfl
end Go.Proofs.Ytlbbkmcegbeckaa

namespace Go.Proofs.Ytlbbkmcegbeckaa
open Go.Sx Go.Proofs
noncomputable def S23:Fsp:=⟨[(false,[.sl sRun]),(false,[.int .i64])],[],[(false,[.bool])],[([],[[.ap (.usr 0) [.var 0,.var 1]]])],true⟩
noncomputable def lp23:Lp:=⟨[(.slot 5,.int .i64)],[0,1,4],[0],fun F H k=>[.ap .le [zI,.var k],.ap .le [.var k,.ap .len [.var 0]],.ap .not [.ap (.usr 1) [.var 0,.var k]]],fun F H k=>.ap (.sub .i64) [.ap .len [.var 0],.var k]⟩
noncomputable def T0:FuncId→Option Fsp:=fun _=>none
def dcn:List VC:=[([(.ap .not [(.ap .lt [(.var 1),(.ap .len [(.var 0)])])]),(.ap (.typ (.sl [(.int .i64),(.int .i64),(.int .i64),(.sl [(.int .u8)]),(.sl [(.int .u8)])])) [(.var 0)]),(.ap .le [(.lit (.int .i64 (-9223372036854775808))),(.var 1)]),(.ap .le [(.var 1),(.lit (.int .i64 9223372036854775807))])],(.ap .not [(.ap (.usr 1) [(.var 0),(.lit (.int .i64 0))])])),
 ([(.ap .not [(.ap .lt [(.lit (.int .i64 200)),(.ap .len [(.ap (.cell 4) [(.var 0),(.var 2)])])])]),(.ap .not [(.ap .lt [(.lit (.int .i64 200)),(.ap .len [(.ap (.cell 3) [(.var 0),(.var 2)])])])]),(.ap .lt [(.var 2),(.ap .len [(.var 0)])]),(.ap .le [(.lit (.int .i64 0)),(.var 2)]),(.ap .le [(.var 2),(.ap .len [(.var 0)])]),(.ap .not [(.ap (.usr 1) [(.var 0),(.var 2)])]),(.ap .not [(.ap .lt [(.var 1),(.ap .len [(.var 0)])])]),(.ap (.typ (.sl [(.int .i64),(.int .i64),(.int .i64),(.sl [(.int .u8)]),(.sl [(.int .u8)])])) [(.var 0)]),(.ap .le [(.lit (.int .i64 (-9223372036854775808))),(.var 1)]),(.ap .le [(.var 1),(.lit (.int .i64 9223372036854775807))])],(.ap .not [(.ap (.usr 1) [(.var 0),(.ap (.add .i64) [(.var 2),(.lit (.int .i64 1))])])]))]
def c9e:List (List X×List (List X)):=[([(.ap .lt [(.var 1),(.ap .len [(.var 0)])]),(.ap (.typ (.sl [(.int .i64),(.int .i64),(.int .i64),(.sl [(.int .u8)]),(.sl [(.int .u8)])])) [(.var 0)]),(.ap .le [(.lit (.int .i64 (-9223372036854775808))),(.var 1)]),(.ap .le [(.var 1),(.lit (.int .i64 9223372036854775807))])],[[(.lit (.bool true))]]),
 ([(.ap .lt [(.lit (.int .i64 200)),(.ap .len [(.ap (.cell 3) [(.var 0),(.var 2)])])]),(.ap .lt [(.var 2),(.ap .len [(.var 0)])]),(.ap .le [(.lit (.int .i64 0)),(.var 2)]),(.ap .le [(.var 2),(.ap .len [(.var 0)])]),(.ap .not [(.ap (.usr 1) [(.var 0),(.var 2)])]),(.ap .not [(.ap .lt [(.var 1),(.ap .len [(.var 0)])])]),(.ap (.typ (.sl [(.int .i64),(.int .i64),(.int .i64),(.sl [(.int .u8)]),(.sl [(.int .u8)])])) [(.var 0)]),(.ap .le [(.lit (.int .i64 (-9223372036854775808))),(.var 1)]),(.ap .le [(.var 1),(.lit (.int .i64 9223372036854775807))])],[[(.lit (.bool true))]]),
 ([(.ap .lt [(.lit (.int .i64 200)),(.ap .len [(.ap (.cell 4) [(.var 0),(.var 2)])])]),(.ap .not [(.ap .lt [(.lit (.int .i64 200)),(.ap .len [(.ap (.cell 3) [(.var 0),(.var 2)])])])]),(.ap .lt [(.var 2),(.ap .len [(.var 0)])]),(.ap .le [(.lit (.int .i64 0)),(.var 2)]),(.ap .le [(.var 2),(.ap .len [(.var 0)])]),(.ap .not [(.ap (.usr 1) [(.var 0),(.var 2)])]),(.ap .not [(.ap .lt [(.var 1),(.ap .len [(.var 0)])])]),(.ap (.typ (.sl [(.int .i64),(.int .i64),(.int .i64),(.sl [(.int .u8)]),(.sl [(.int .u8)])])) [(.var 0)]),(.ap .le [(.lit (.int .i64 (-9223372036854775808))),(.var 1)]),(.ap .le [(.var 1),(.lit (.int .i64 9223372036854775807))])],[[(.lit (.bool true))]]),
 ([(.ap .not [(.ap .lt [(.var 2),(.ap .len [(.var 0)])])]),(.ap .le [(.lit (.int .i64 0)),(.var 2)]),(.ap .le [(.var 2),(.ap .len [(.var 0)])]),(.ap .not [(.ap (.usr 1) [(.var 0),(.var 2)])]),(.ap .not [(.ap .lt [(.var 1),(.ap .len [(.var 0)])])]),(.ap (.typ (.sl [(.int .i64),(.int .i64),(.int .i64),(.sl [(.int .u8)]),(.sl [(.int .u8)])])) [(.var 0)]),(.ap .le [(.lit (.int .i64 (-9223372036854775808))),(.var 1)]),(.ap .le [(.var 1),(.lit (.int .i64 9223372036854775807))])],[[(.lit (.bool false))]])]
theorem dcm:runS Try.prog (b6d T0) 10 4 ⟨b4p [(4,lp23)],hintA []⟩ Try.f23 (b4b Try.f23) S23=some (dcn,c9e):=by kernel_rfl
theorem us1(a b:CD):((@Us.u U 1 [a,b]).bv=true)=((a.rows.take b.iv.toNat).any b68=true):=rfl
theorem c6f{l:CD}{i:Int}(h:200<((l.cell i 3).len:Int)∨200<((l.cell i 4).len:Int)):b68 (l.rows.getD i.toNat [])=true:=by
 unfold CD.cell at h
 unfold b68
 rw [Bool.or_eq_true,decide_eq_true_eq,decide_eq_true_eq]
 omega
theorem c5d{l:CD}{i:Int}(h:¬ 200<((l.cell i 3).len:Int))(h':¬ 200<((l.cell i 4).len:Int)):b68 (l.rows.getD i.toNat [])=false:=by
 unfold CD.cell at h h'
 unfold b68
 rw [Bool.or_eq_false_iff,decide_eq_false_iff_not,decide_eq_false_iff_not]
 omega
set_option maxRecDepth 100000 in
theorem c23:b3m U Try.prog 23 S23:=by
 have hT:∀ f S,T0 f=some S→b3m U Try.prog f S:=fun f S h=>nomatch h
 refine b3m.of (P:=Try.prog) (U:=U) (T:=T0) (f:=23) (fn:=Try.f23) (fuel:=10) (fk:=4) (hs:=⟨b4p [(4,lp23)],hintA []⟩) (S:=S23) (v:=dcn) (outs:=c9e) mixed hT at23 dcm ?_ ?_
 ·refine b3r (fun v hh=>?_) (b3r (fun v hh=>?_) (b44 _))
  ·simp only [b3o,b3t,b3s,b3z,b4d,b40,b4l,b31,w_wr,b_lt,b_le,b_eq,b3w,b4s,b_or,b3y,b3p,b3i,b4x,b30,b33,b3k,b35,w_mk,b3l,b4e,b41,b4z,b4m,b4w,b4y,b3v,b3x,b4v,w_l0,w_l1,b3e,b3d,b3u,b3b,b3c,b3g,b3f]
   show ¬ (((v 0).rows.take 0).any b68=true)
   simp
  ·simp only [b3o,b3t,b3s,b3z,b4d,b40,b4l,b31,w_wr,b_lt,b_le,b_eq,b3w,b4s,b_or,b3y,b3p,b3i,b4x,b30,b33,b3k,b35,w_mk,b3l,b4e,b41,b4z,b4m,b4w,b4y,b3v,b3x,b4v,w_l0,w_l1,b3e,b3d,b3u,b3b,b3c,b3g,b3f] at hh ⊢
   obtain⟨h1,h2,h3,h4,h5,h6,h7,_⟩:=hh
   rw [us1] at h6 ⊢
   have:=any_succ (f:=b68) h4 h3 (by simpa using h6) (c5d h2 h1)
   show ¬ (((v 0).rows.take ((v 2).iv+1).toNat).any b68=true)
   simp [this]
 ·intro o ho σ hU hh
  obtain⟨v⟩:=σ
  cases hU
  refine⟨_,List.mem_cons_self ..,by simp only [b3o,b3t,b3s,b3z,b4d,b40,b4l,b31,w_wr,b_lt,b_le,b_eq,b3w,b4s,b_or,b3y,b3p,b3i,b4x,b30,b33,b3k,b35,w_mk,b3l,b4e,b41,b4z,b4m,b4w,b4y,b3v,b3x,b4v,w_l0,w_l1,b3e,b3d,b3u,b3b,b3c,b3g,b3f],?_⟩
  simp only [c9e,List.mem_cons,List.not_mem_nil,or_false] at ho
  rcases ho with rfl | rfl | rfl | rfl
  all_goals
   simp only [b3o,b3t,b3s,b3z,b4d,b40,b4l,b31,w_wr,b_lt,b_le,b_eq,b3w,b4s,b_or,b3y,b3p,b3i,b4x,b30,b33,b3k,b35,w_mk,b3l,b4e,b41,b4z,b4m,b4w,b4y,b3v,b3x,b4v,w_l0,w_l1,b3e,b3d,b3u,b3b,b3c,b3g,b3f] at hh
   simp only [List.map_cons,List.map_nil,b3o,b3t,b3s,b3z,b4d,b40,b4l,b31,w_wr,b_lt,b_le,b_eq,b3w,b4s,b_or,b3y,b3p,b3i,b4x,b30,b33,b3k,b35,w_mk,b3l,b4e,b41,b4z,b4m,b4w,b4y,b3v,b3x,b4v,w_l0,w_l1,b3e,b3d,b3u,b3b,b3c,b3g,b3f]
  ·have:b3q (v 0) (v 1).iv=true:=by simp [b3q,hh.1]
   show [[b34 (b3q (v 0) (v 1).iv)]]=_
   rw [this];rfl
  ·obtain⟨h1,h3,h4,_⟩:=hh
   have:b3q (v 0) (v 1).iv=true:=by
    rw [b3q,cro (f:=b68) h4 h3 (c6f (by first | exact .inl h1 | exact .inr h1)),Bool.or_true]
   show [[b34 (b3q (v 0) (v 1).iv)]]=_
   rw [this];rfl
  ·obtain⟨h1,_,h3,h4,_⟩:=hh
   have:b3q (v 0) (v 1).iv=true:=by
    rw [b3q,cro (f:=b68) h4 h3 (c6f (by first | exact .inl h1 | exact .inr h1)),Bool.or_true]
   show [[b34 (b3q (v 0) (v 1).iv)]]=_
   rw [this];rfl
  ·obtain⟨h1,h3,h4,h5,h6,hT,_⟩:=hh
   rw [us1] at h5
   have:b3q (v 0) (v 1).iv=false:=by
    have hany:(v 0).rows.any b68=false:=cxm hT.sl.1 h1 (by simpa using h5)
    rw [b3q,hany]
    simpa using h6
   show [[b34 (b3q (v 0) (v 1).iv)]]=_
   rw [this];rfl
end Go.Proofs.Ytlbbkmcegbeckaa
