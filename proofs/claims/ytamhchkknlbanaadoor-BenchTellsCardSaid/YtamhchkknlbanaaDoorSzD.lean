/-
  A symbolic executor: contracts from runs in which calls are walked in place. Conditions: none; nothing here speaks of one program.
-/
import Derived.Test.YtamhchkknlbanaaDoorBeBase
import Derived.Lib.BytesEntry
import Derived.RangeFuncLeaves
set_option linter.unusedSimpArgs false
set_option linter.unusedSectionVars false
set_option linter.unusedVariables false
namespace Go.Sx
section
variable [Sg]
theorem aay(n:Nat):den (.var n)=Sg.v n:=rfl
theorem aa5(u:Value):den (.lit u)=.v u:=rfl
theorem aa3(k:IntKind)(a b:X):den (.ap (.add k) [a,b])=vInt k ((den a).iv+(den b).iv):=rfl
theorem abr(k:IntKind)(a b:X):den (.ap (.sub k) [a,b])=vInt k ((den a).iv - (den b).iv):=rfl
theorem abf(k:IntKind)(a b:X):den (.ap (.mul k) [a,b])=vInt k ((den a).iv*(den b).iv):=rfl
theorem aam(k:IntKind)(a:X):den (.ap (.cast k) [a])=vInt k (den a).iv:=rfl
theorem w_wr(k:IntKind)(a:X):den (.ap (.wr k) [a])=vInt k (k.wrap (den a).iv):=rfl
theorem w_lt(a b:X):den (.ap .lt [a,b])=aav (decide ((den a).iv<(den b).iv)):=rfl
theorem w_le(a b:X):den (.ap .le [a,b])=aav (decide ((den a).iv≤(den b).iv)):=rfl
theorem w_eq(a b:X):den (.ap .eq [a,b])=aav (eqC (den a) (den b)):=rfl
theorem ao0(a:X):den (.ap .not [a])=aav (!(den a).bv):=rfl
theorem as0(a b:X):den (.ap .and [a,b])=aav ((den a).bv&&(den b).bv):=rfl
theorem w_or(a b:X):den (.ap .or [a,b])=aav ((den a).bv||(den b).bv):=rfl
theorem abp(a b c:X):den (.ap .ite [a,b,c])=if(den a).bv then den b else den c:=rfl
theorem abd(a:X):den (.ap .len [a])=vInt .i64 (den a).len:=rfl
theorem aal(a:X):den (.ap .slen [a])=vInt .i64 (den a).slen:=rfl
theorem aan(j:Nat)(a i:X):den (.ap (.cell j) [a,i])=(den a).cell (den i).iv j:=rfl
theorem aa2(b:Bool):den (.ap (.nil b) [])=.sl b []:=rfl
theorem w_mk(z:Bool)(a:X):den (.ap (.mk z) [a])=.sl (z&&(den a).rows.isEmpty) (den a).rows:=rfl
theorem aao(a:X)(l:List X):den (.ap .snoc (a::l))=.sl false ((den a).rows++[denL l]):=rfl
theorem aa9(a b:X):den (.ap .cat [a,b])=.sl false ((den a).rows++(den b).rows):=rfl
theorem abo(a l h:X):den (.ap .cut [a,l,h])=.sl (den a).isNil (((den a).rows.take (den h).iv.toNat).drop (den l).iv.toNat):=rfl
theorem abj(j:Nat)(a i c:X):den (.ap (.upd j) [a,i,c])=.sl false (setCell (den a).rows (den i).iv.toNat j (den c)):=rfl
theorem abg(n:X)(l:List X):den (.ap .rep (n::l))=.sl false (List.replicate (den n).iv.toNat (denL l)):=rfl
theorem aa6(a:X):den (.ap .str [a])=.v (.string ⟨((den a).rows.map ada).toArray⟩):=rfl
theorem aa8(a:X):den (.ap .byt [a])=.sl false ((den a).str.toList.map ab9):=rfl
theorem abq(k:IntKind)(a:X):den (.ap (.neg k) [a])=vInt k (k.wrap (0 - (den a).iv)):=rfl
theorem aa0(n:Nat)(l:List X):den (.ap (.usr n) l)=Us.u n (denL l):=rfl
theorem aau(o:BinOp)(a b:X):den (.ap (.sbin o) [a,b])=orV (strA o (den a).str (den b).str):=rfl
theorem abe(o:BinOp)(k:IntKind)(a b:X):den (.ap (.bin o k) [a,b])=orV (adf o k (den a).iv (den b).iv):=rfl
theorem w_l0:denL []=[]:=rfl
theorem w_l1(a:X)(l:List X):denL (a::l)=den a::denL l:=rfl
theorem b_lt(a b:X):((den (.ap .lt [a,b])).bv=true)=((den a).iv<(den b).iv):=decide_eq_true_eq
theorem b_le(a b:X):((den (.ap .le [a,b])).bv=true)=((den a).iv≤(den b).iv):=decide_eq_true_eq
theorem b_eq(a b:X):((den (.ap .eq [a,b])).bv=true)=(eqC (den a) (den b)=true):=rfl
theorem aaz(a:X):((den (.ap .not [a])).bv=true)=¬ ((den a).bv=true):=by
 show((!(den a).bv)=true)=_
 cases (den a).bv<;>simp
theorem abl(a b:X):((den (.ap .and [a,b])).bv=true)=((den a).bv=true∧(den b).bv=true):=by
 show(((den a).bv&&(den b).bv)=true)=_
 simp
theorem b_or(a b:X):((den (.ap .or [a,b])).bv=true)=((den a).bv=true∨(den b).bv=true):=by
 show(((den a).bv||(den b).bv)=true)=_
 simp
theorem aaw(x:X):Tru x=((den x).bv=true):=rfl
theorem aac:Holds []=True:=by simp [Holds]
theorem aad(x:X)(l:List X):Holds (x::l)=(Tru x∧Holds l):=by simp [Holds]
theorem aaj(a b:X):((den (.ap .same [a,b])).bv=true)=(den a=den b):=@decide_eq_true_eq _ (Classical.propDecidable _)
theorem aag(a:X):((den (.ap .isnil [a])).bv=true)=((den a).isNil=true):=rfl
theorem akp(e k:X):den (.ap .mhas [e,k])=aav (mHas (den k) (den e).rows):=rfl
theorem aaq(e k:X):((den (.ap .mhas [e,k])).bv=true)=(mHas (den k) (den e).rows=true):=rfl
theorem aar(j:Nat)(e k z:X):den (.ap (.mget j) [e,k,z])=mGet j (den k) (den z) (den e).rows:=rfl
theorem aas(e c k:X)(vs:List X):den (.ap .mput (e::c::k::vs))=.sl false (mPut (den k) (denL vs) (den c) (den e).rows):=rfl
theorem aap(e s:X):((den (.ap .mall [e,s])).bv=true)=(((den e).rows.all fun r=>mIn (amc r) (den s).rows)=true):=rfl
theorem abn(e c:X):((den (.ap .mok [e,c])).bv=true)=MOk (den e).rows (den c).iv:=@decide_eq_true_eq _ (Classical.propDecidable _)
theorem abm(b s:X):((den (.ap .min [b,s])).bv=true)=(mIn (den b) (den s).rows=true):=rfl
theorem aat(e:X):den (.ap .rlen [e])=vInt .i64 (den e).rows.length:=rfl
theorem abh(o:BinOp)(k:IntKind)(a b:X):den (.ap (.shf o k) [a,b])=orV (ako o k (den a).iv (den b).iv):=rfl
theorem aiw(a b:X):den (.ap .same [a,b])=aav (@decide (den a=den b) (Classical.propDecidable _)):=rfl
theorem ao1(s:Srt)(a:X):den (.ap (.typ s) [a])=aav (@decide (Typ s (den a)) (Classical.propDecidable _)):=rfl
theorem aa1(s:Srt)(a:X):((den (.ap (.typ s) [a])).bv=true)=Typ s (den a):=@decide_eq_true_eq _ (Classical.propDecidable _)
end
theorem aax(k:IntKind)(z:Int):(CD.v (.int k z)).iv=z:=rfl
theorem aa4(b:Bool):(CD.v (.bool b)).bv=b:=rfl
theorem aaf(k:IntKind)(z:Int):(vInt k z).iv=z:=rfl
theorem aae(b:Bool):(aav b).bv=b:=rfl
theorem aak(b:Bool)(r:List (List CD)):(CD.sl b r).rows=r:=rfl
theorem aai(b:Bool)(r:List (List CD)):(CD.sl b r).isNil=b:=rfl
theorem Typ.sl{ss:List Srt}{d:CD}(h:Typ (.sl ss) d):d.len=d.rows.length∧d.rows.length≤maxN:=by
 obtain⟨m,u,h⟩:=h
 exact⟨h.slice.2.1,h.slice.1⟩
theorem Typ.row{ss:List Srt}{d:CD}(h:Typ (.sl ss) d){i:Nat}{row:List CD}(hi:d.rows[i]? = some row):row.length=ss.length∧∀ (j:Nat) (s:Srt),ss[j]? = some s→Typ s (row.getD j default):=by
 obtain⟨m,u,h⟩:=h
 rcases(show(d=.sl true []∧u=.slice none 0 0)∨_ from h) with ⟨h1,_⟩ | ⟨rows,b,off,cap,h1,h2,h3,h4,h5⟩ | ⟨_,h1,_⟩
 rotate_right
 ·rw [h1] at hi
  cases (show([]:List (List CD))[i]? = some row from hi)
 ·rw [h1] at hi
  cases (show([]:List (List CD))[i]? = some row from hi)
 ·rw [h1] at hi
  have hi:rows[i]? = some row:=hi
  obtain⟨arr,t,fr,_,h7⟩:=h5 (fun hh=>by rw [hh] at hi;cases hi)
  have hr:=h7 i row hi
  refine⟨hr.len,fun j s hj=>?_⟩
  obtain⟨u',_,h8⟩:=hr.get j s hj
  exact⟨m,u',h8⟩
theorem Typ.cell{ss:List Srt}{d:CD}(h:Typ (.sl ss) d){i:Int}{j:Nat}{s:Srt}(h0:0≤i)(hi:i<d.len)(hj:ss[j]? = some s):Typ s (d.cell i j):=by
 have hlt:i.toNat<d.rows.length:=by have:=h.sl.1;omega
 unfold CD.cell
 rw [show d.rows.getD i.toNat []=d.rows[i.toNat] by rw [List.getD_eq_getElem?_getD,List.getElem?_eq_getElem hlt];rfl]
 exact(h.row (List.getElem?_eq_getElem hlt)).2 j s hj
theorem ae1(U:Us):∀ z∈([]:List VC),VCok U z:=fun z hz=>by cases hz
theorem ae3{U:Us}{hy:List X}{x:X}{l:List VC}(h:∀ v:Nat→CD,@Holds ⟨v⟩ hy→@Tru ⟨v⟩ x)(hl:∀ z∈l,VCok U z):∀ z∈(hy,x)::l,VCok U z:=fun z hz=>by
 rcases List.mem_cons.1 hz with rfl | hz
 ·intro σ hU hh
  obtain⟨v⟩:=σ
  cases hU
  exact h v hh
 ·exact hl z hz
end Go.Sx

namespace Go.Sx
end Go.Sx

namespace Go.Sx
noncomputable section
def ba2(P:Program)[Plain P](H:HP)(F:Fm):List ResultVar→Option (List (Bool×List Cel))
 | []=>some []
 | r::rs=>match resF P H F r,ba2 P H F rs with
  | some p,some l=>some (p::l)
  | _,_=>none
def endI(P:Program)[Plain P](fn:Func)(x:Oc):Option (AV×HP) :=
 match x.1 with
 | .ext _=>none
 | _=>match ba2 P x.2.2 x.2.1 fn.results.toList with
  | some ps=>some (ba3 ps,x.2.2)
  | none=>none
structure Inl where
 fn:Func
 hs:Hs
def runI(P:Program)[Plain P](cx:Cx)(d:Inl)(args:List AV)(H:HP):RV :=
 match Nat.ble args.length d.fn.ntmps with
 | true=>match am6 P cx d.fn.ntmps d.hs (acv d.fn) (a5w .nil 0 args) H with
  | some (v,l)=>match ae4 (l.map (endI P d.fn)) with
   | some outs=>some (v,outs)
   | none=>none
  | none=>none
 | false=>none
def bqm(n:Nat):Fm→List Tmp→List AV→Option Fm
 | F,[],[]=>some F
 | F,p::ps,v::vs=>match putF n F (some p) v with
  | some F'=>bqm n F' ps vs
  | none=>none
 | _,_,_=>none
def ay1:Ex→Option Code
 | .nrm=>none
 | .ext id=>some (.exit id)
 | .rt=>some .ret
def stOf:Ex→LoopState
 | .nrm=>.ready
 | _=>.done
def byr:Ex→Bool
 | .nrm=>true
 | _=>false
def isReady:LoopState→Bool
 | .ready=>true
 | _=>false
def auf(b:Nat)(x:Oc):Option (AV×HP) :=
 match ajg x.2.2 b with
 | some l=>some (.one (.lit (.bool (byr x.1))),x.2.2.obj b (LoopC.ct { l with st:=stOf x.1,pend:=ay1 x.1 }))
 | none=>none
def a8a(P:Program)[Plain P](cx:Cx)(hs:Hs)(b n:Nat)(body:Code)(F:Fm)(H:HP):RV :=
 match ajg H b with
 | some l=>match isReady l.st with
  | true=>match am6 P cx n hs body F (H.obj b (LoopC.ct { l with st:=.busy })) with
   | some (v,outs)=>match ae4 (outs.map (auf b)) with
    | some r=>some (v,r)
    | none=>none
   | none=>none
  | false=>none
 | none=>none
def bm8(P:Program)[Plain P](cx:Cx)(hs:Hs)(b n:Nat)(body:Code)(x:Oc):RV :=
 match x.1 with
 | .nrm=>a8a P cx hs b n body x.2.1 x.2.2
 | _=>none
def bfd(P:Program)[Plain P](cx:Cx)(hs:Nat→Hs)(lc:Nat→LCd)(b:Nat)(args:List AV)(H:HP):RV :=
 match ajg H b with
 | some l=>match bqm l.n l.F (lc l.k).ps.toList args,(ad8 (lc l.k).assign&&ad8 (lc l.k).body)&&(nilL (ahp (lc l.k).assign)&&nilL (ahp (lc l.k).body)) with
  | some F1,true=>match am6 P cx l.n (hs l.k) (lc l.k).assign F1 H with
   | some (v,outs)=>addV v (a9y (bm8 P cx (hs l.k) b l.n (lc l.k).body) outs)
   | none=>none
  | _,_=>none
 | none=>none
structure Tb where
 f:FuncId→Option Inl
 y:Nat→Hs
 lc:Nat→LCd
def Tb.ent(T:Tb):FuncId→Bool:=fun g=>match T.f g with
 | some _=>true
 | none=>false
def keyOf(g id:Nat):Nat:=Nat.add (Nat.mul g 1000) id
def orvK(P:Program)[Plain P](ora:OraM)(fuel fk:Nat)(T:Tb)(d:Nat):OraV :=
 Nat.rec (motive:=fun _=>OraV) noV (fun _ ih t args H=>match t with
  | .f g=>match T.f g with
   | some d=>runI P ⟨ora,ih,T.ent,fuel,fk,none,keyOf g⟩ d args H
   | none=>none
  | .y b=>bfd P ⟨ora,ih,T.ent,fuel,fk,some b,fun _=>0⟩ T.y T.lc b args H) d
end
theorem atw{α β:Type}{f:α→Option β}{xs:List α}{ys:List β}(h:ae4 (xs.map f)=some ys):(∀ x∈xs,∃ y∈ys,f x=some y)∧∀ y∈ys,∃ x∈xs,f x=some y:=by
 haveI:Sg:={ u:=fun _ _=>default,lc:=fun _=>⟨#[],.skip,.skip⟩,v:=fun _=>default }
 obtain⟨hlen,hget⟩:=ah6 h
 rw [List.length_map] at hlen
 refine⟨fun x hx=>?_,fun y hy=>?_⟩
 ·obtain⟨i,hi⟩:=List.getElem?_of_mem hx
  have hlt:i<ys.length:=by rw [← hlen];exact(List.getElem?_eq_some_iff.1 hi).1
  have:=hget i ys[i] (List.getElem?_eq_getElem hlt)
  rw [List.getElem?_map,hi] at this
  simp only [Option.map_some,Option.some.injEq] at this
  exact⟨_,List.getElem_mem hlt,this⟩
 ·obtain⟨i,hi⟩:=List.getElem?_of_mem hy
  have:=hget i y hi
  rw [List.getElem?_map] at this
  cases ho:xs[i]? with
  | none=>rw [ho] at this;cases this
  | some x =>
   rw [ho] at this
   simp only [Option.map_some,Option.some.injEq] at this
   exact⟨x,List.mem_of_getElem? ho,this⟩
section
variable {P:Program} [Plain P] {n:Nat} {U:Us} {H H':HP} {w w':World} {ρ ρ':PM}
theorem bej{σ:Sg}{F:Fm}{a:Act}(hf:@FRel σ n ρ F a)(hH:@HRel σ ρ H w)(hj:J ρ H w):∀ (rs:List ResultVar) {ps:List (Bool×List Cel)},ba2 P H F rs=some ps →
  ∃ us,(rs.mapM fun | .tmp t=>pure (a.tmps.getD t undef) | .cell x t=>do loadVar t (← asAddr (a.tmps.getD x undef)):Sem (List Value)).run P w=.ok us w∧All2 (@PRel σ ρ) ps us
 | [],ps,h=>by cases h;exact⟨[],rfl,trivial⟩
 | r::rs,ps,h=>by
  simp only [ba2] at h
  split at h
  ·rename_i p l hp hl
   cases h
   obtain⟨u,hu,hrel⟩:=@bl1 P _ _ _ _ _ _ _ σ hf hH hj _ _ hp
   obtain⟨us,hus,hrels⟩:=bej hf hH hj rs hl
   refine⟨u::us,?_,hrel,hrels⟩
   simp only [List.mapM_cons,Sem.run_bind]
   refine(congrArg (fun x=>Result.andThen x _) hu).trans ?_
   simp only [Result.andThen_ok]
   refine(congrArg (fun x=>Result.andThen x _) hus).trans ?_
   rfl
  ·cases h
structure EndI (σ:Sg) (ρ:PM) (H:HP) (w:World) (ρ':PM) (H':HP) (w':World):Prop where
 rel:@HRel σ ρ' H' w'
 j:J ρ' H' w'
 tw:TW w
 sim:SimF ρ H w ρ' H' w'
theorem EndI.unowned{σ:Sg}{D:Nat}{o:Obj}(h:EndI σ ρ H w ρ' H' w')(hD:w.heap.size≤D)(hno:∀ b L,H'.Kn b→ρ' b=some L→L.B≠D)(hg:∀ g L M o,ρ' g=some L→L.M=some M→¬ M D o):EndI σ ρ H w ρ' H' (w'.putObj D o) where
 rel:=@HRel.mk σ _ _ _ (fun b i c L hc hL=>@aft.of_heap σ _ _ _ _ _ (World.putObj_heap_other (hno b L ⟨i,c,hc⟩ hL)) _ (@HRel.rel σ _ _ _ h.rel b i c L hc hL)) (@HRel.inj σ _ _ _ h.rel) (@HRel.hy σ _ _ _ h.rel)
 j:=h.j.put h.tw hD hg
 tw:=h.tw
 sim:=⟨h.sim.le,h.sim.grow,h.sim.dom,h.sim.knc,fun k hk hno'=>by rw [World.putObj_heap_other (by omega)];exact h.sim.fr k hk hno',h.sim.new,by rw [World.putObj_size];exact h.sim.size,h.sim.os,h.sim.tape,h.sim.output,h.sim.old,fun hj=>(h.sim.jj hj).put h.tw hD hg,h.sim.ro⟩
theorem arp{σ:Sg}{fn:Func}{tmps:Array Value}{R:Ending→World→Prop}
  (hend:∀ w',EndI σ ρ H w ρ' H' w'→∃ v,(results fn tmps).run P w'=.ok v w'∧R (.returned v) w'):∀ (ds:List Deferred) (w':World),EndI σ ρ H w ρ' H' w'→DfOK ρ' H' w' w.heap.size ds→LeavesInM Fence.wide 0 P fn tmps R ds .returning w'
 | [],w',s,_=>hend w' s
 | d::ds,w',s,⟨⟨D,h1,hm,h2,h3,h7⟩,h⟩=>by
  refine⟨by simp,.inl ⟨D,_,by rw [h1],run_takeDeferred h2,arp hend ds _ (s.unowned hm h3.1 h3.2) ?_⟩⟩
  have keep:∀ (es:List Deferred),(∀ d'∈es,∀ D',d'.target=.collected D'→D'≠D)→DfOK ρ' H' w' w.heap.size es→DfOK ρ' H' (w'.putObj D (.deferred none)) w.heap.size es:=by
   intro es
   induction es with
   | nil=>exact fun _ _=>trivial
   | cons e es ih =>
    rintro hne ⟨⟨D',g1,gm,g2,g3,g7⟩,g⟩
    exact⟨⟨D',g1,gm,by rw [World.putObj_heap_other (hne e (List.mem_cons_self ..) D' (by rw [g1]))];exact g2,g3,g7⟩,ih (fun d' hd'=>hne d' (List.mem_cons_of_mem _ hd')) g⟩
  exact keep ds h7 h
theorem bwc(hm:P.follows .mixedOrders=true){cx:Cx}(hcx:CxOK U P cx)(hrb:cx.rb=none){g:FuncId}{d:Inl}(hf:FnAt P g d.fn)(hrg:af2 U.lc cx.rk (acv d.fn)){args:List AV}{v:List VC}{outs:List (AV×HP)}(h:runI P cx d args H=some (v,outs))(hv:∀ z∈v,VCok U z) :
  (∀ o∈outs,Sc H o.2)∧∀ σ:Sg,σ.toUs=U→∀ (ρ:PM) (w:World) (us:Array Value),All2 (@VRel σ ρ) args us.toList→@HRel σ ρ H w→Dom ρ H.n→J ρ H w→ach P (a4u σ ρ H w outs) ((callFunc g us).run P w):=by
 unfold runI at h
 split at h
 rotate_left
 ·cases h
 rename_i hlen
 have hlen:=Nat.le_of_ble_eq_true hlen
 split at h
 rotate_left
 ·cases h
 rename_i v1 l hcode
 split at h
 rotate_left
 ·cases h
 rename_i outs1 hall
 cases h
 obtain⟨e1,e2⟩:=atw hall
 have K:=fun(σ:Sg) (hU:σ.toUs=U)=>ata (n:=d.fn.ntmps) (m:=0) (r:=none) hm hcx (acv d.fn) hf.flow hrg hcode hv σ hU
 rw [hrb] at K
 have hH:∀ x o,endI P d.fn x=some o→o.2=x.2.2∧(x.1=.nrm∨x.1=.rt)∧∃ ps,ba2 P x.2.2 x.2.1 d.fn.results.toList=some ps∧o.1=ba3 ps:=by
  intro x o hx
  obtain⟨e,F1,H1⟩:=x
  cases e with
  | ext id=>cases hx
  | nrm =>
   have hx:(match ba2 P H1 F1 d.fn.results.toList with
    | some ps=>some (ba3 ps,H1)
    | none=>none)=some o:=hx
   split at hx
   ·rename_i ps hps;cases hx;exact⟨rfl,.inl rfl,ps,hps,rfl⟩
   ·cases hx
  | rt =>
   have hx:(match ba2 P H1 F1 d.fn.results.toList with
    | some ps=>some (ba3 ps,H1)
    | none=>none)=some o:=hx
   split at hx
   ·rename_i ps hps;cases hx;exact⟨rfl,.inr rfl,ps,hps,rfl⟩
   ·cases hx
 haveI:Inhabited (Nat→CD):=⟨fun _=>default⟩
 refine⟨fun o ho=>?_,fun σ hU ρ w us hargs hH' hd hj=>?_⟩
 ·obtain⟨x,hx,hxo⟩:=e2 o ho
  rw [(hH x o hxo).1]
  exact(K { toUs:=U,v:=fun _=>default } rfl).st x hx
 ·rw [hf.call]
  show Calls P g us w _
  refine callsIn_wide.1 (callsIn_of_wp_marks (F:=Fence.wide) (n:=0) hf.at' hf.body trivial ?_)
  have hal:=All2.length hargs
  simp only [Array.length_toList] at hal
  have s0:@SRel σ d.fn.ntmps ρ (a5w .nil 0 args) H { tmps:=us++Array.replicate (d.fn.ntmps - us.size) Go.undef,defers:=[] } w:=by
   refine @SRel.mk σ _ _ _ _ _ _ (@FRel.mk σ _ _ _ _ (by simp;omega) fun t v hv=>?_) hH' hd hj
   rcases apd args .nil 0 t v hv with ⟨_,h1⟩ | h1
   ·obtain⟨u,hu,hr⟩:=All2.get hargs _ _ h1
    rw [Nat.sub_zero,Array.getElem?_toList] at hu
    exact⟨u,by rw [Array.getElem?_append_left (Array.getElem?_eq_some_iff.1 hu).1];exact hu,hr⟩
   ·rw [PT.get_nil] at h1;cases h1
  refine(K σ hU).wp (m0:=w.heap.size) s0 trivial (Nat.le_refl _) (DfOK.nil _ _ _ _) fun σ' he x hx ρ' a' w' s' hdf hs'=>?_
  obtain⟨o,ho,hxo⟩:=e1 x hx
  obtain⟨q1,q2,ps,q3,q4⟩:=hH x o hxo
  have hpost:LeavesInM Fence.wide 0 P d.fn a'.tmps (fun r w''=>∃ u',r=.returned u'∧a4u σ ρ H w outs u' w'') a'.defers .returning w':=by
   refine arp (P:=P) (σ:=σ') (ρ:=ρ) (H:=H) (w:=w) (ρ':=ρ') (H':=x.2.2) (fun w2 hE=>?_) _ _ ⟨@SRel.hp σ' _ _ _ _ _ _ s',@SRel.j σ' _ _ _ _ _ _ s',(show J ρ H w by assumption).tw,hs'⟩ hdf
   obtain⟨uvs,huvs,hvr⟩:=bej (P:=P) (@SRel.fr σ' _ _ _ _ _ _ s') hE.rel hE.j _ q3
   refine⟨oneOf uvs,?_,_,rfl,o,ho,σ',he,ρ',?_,by rw [q1];exact hE.sim,by rw [q1];exact hE.rel⟩
   ·unfold results
    rw [Sem.run_bind,Array.mapM_eq_mapM_toList,Sem.run_map]
    exact congrArg (fun r:Result (List Value)=>(r.andThen fun a w'=>Result.ok a.toArray w').andThen fun a w'=>Sem.run P (pure (if h:a.size=1 then a[0] else Value.tuple a)) w') huvs
   ·rw [q4]
    exact @a7z ρ' σ' _ _ hvr
  obtain⟨e,F1,H1⟩:=x
  rcases q2 with q2 | q2
  ·simp only at q2;subst q2;exact hpost
  ·simp only at q2;subst q2;exact hpost
theorem a6z[σ:Sg]:∀ {ps:List Tmp} {vs:List AV} {us:List Value} {F F':Fm} {tmps:Array Value},bqm n F ps vs=some F'→All2 (@VRel σ ρ) vs us→@FRel σ n ρ F ⟨tmps,[]⟩ →
  ps.length=us.length∧@FRel σ n ρ F' ⟨(ps.zip us).foldl (fun t (p:Tmp×Value)=>t.setIfInBounds p.1 p.2) tmps,[]⟩
 | [],[],[],F,F',tmps,h,_,hf=>by cases h;exact⟨rfl,hf⟩
 | [],[],_::_,_,_,_,_,h,_=>h.elim
 | [],_::_,_,_,_,_,h,_,_=>by cases h
 | _::_,[],_,_,_,_,h,_,_=>by cases h
 | p::ps,v::vs,[],_,_,_,_,h,_=>h.elim
 | p::ps,v::vs,u::us,F,F',tmps,h,⟨h1,h2⟩,hf=>by
  simp only [bqm] at h
  split at h
  ·rename_i F1 hp
   have:=@ati σ _ _ _ _ _ _ _ _ hf h1 hp
   obtain⟨k1,k2⟩:=a6z h h2 this
   exact⟨by simp [k1],k2⟩
  ·cases h
theorem ame{b:Nat}{x:Oc}{o:AV×HP}(h:auf b x=some o):∃ l,ajg x.2.2 b=some l∧o=(.one (.lit (.bool (byr x.1))),x.2.2.obj b (LoopC.ct { l with st:=stOf x.1,pend:=ay1 x.1 })):=by
 unfold auf at h
 split at h
 ·rename_i l hl
  cases h
  exact⟨l,hl,rfl⟩
 ·cases h
theorem avc{α:Type}{l:List α}(h:nilL l=true):l=[]:=by
 cases l with
 | nil=>rfl
 | cons _ _=>cases h
theorem a8b(hm:P.follows .mixedOrders=true){cx:Cx}(hcx:CxOK U P cx){hs:Hs}{b:Nat}(hrb:cx.rb=some b){body:Code}{F:Fm}{v:List VC}{outs:List (AV×HP)}(hfl:ad8 body=true)(hrg:af2 U.lc cx.rk body)
  (h:a8a P cx hs b n body F H=some (v,outs)) (hv:∀ z∈v,VCok U z):(∀ o∈outs,Sc H o.2)∧∀ σ:Sg,σ.toUs=U→∀ {ρ:PM} {a:Act} {w:World} {L:Loc} {R:Ending→World→Prop} {m0:Nat},ρ b=some L→@SRel σ n ρ F H a w→m0≤w.heap.size→DfOK ρ H w m0 a.defers →
   (∀ o∈outs,∀ σ',Ext H.nv σ σ'→∀ ρ' u w',@VRel σ' ρ' o.1 u→SimF ρ H w ρ' o.2 w'→@HRel σ' ρ' o.2 w'→R (.returned u) w')→∃ w₂,(Instr.beginRound L.B).run P w=.ok () w₂∧body.wpIn (WF (some L.B)) 0 P (roundPost P L.B R) a w₂:=by
 unfold a8a at h
 split at h
 rotate_left
 ·cases h
 rename_i l hl
 split at h
 rotate_left
 ·cases h
 rename_i hst
 split at h
 rotate_left
 ·cases h
 rename_i v1 l2 hc
 split at h
 rotate_left
 ·cases h
 rename_i r1 hall0
 cases h
 obtain⟨hall,hall'⟩:=atw hall0
 have K:=fun(r:Option Nat) (σ:Sg) (hU:σ.toUs=U)=>ata (n:=n) (m:=0) (r:=r) hm hcx body hfl hrg hc hv σ hU
 rw [hrb] at K
 refine⟨fun o ho=>?_,fun σ hU {ρ a w L R m0} hL s hm0 df hR=>?_⟩
 ·obtain⟨x,hx,hxe⟩:=hall' o ho
  obtain⟨l3,_,rfl⟩:=ame hxe
  haveI:Sg:={ toUs:=U,v:=fun _=>default }
  exact((St.obj _ _ _).sc.trans ((K none { toUs:=U,v:=fun _=>default } rfl).st x hx)).trans (St.obj _ _ _).sc
 ·have hfr:=@SRel.fr σ _ _ _ _ _ _ s
  have hhp:=@SRel.hp σ _ _ _ _ _ _ s
  have hdm:=@SRel.dom σ _ _ _ _ _ _ s
  have hjj:=@SRel.j σ _ _ _ _ _ _ s
  obtain⟨q,hq,q1,q2,q3,q4,q5,q6⟩:=@aoc σ _ _ _ _ _ _ hhp hL hl
  have hqr:q.state=.ready:=by
   rw [q1]
   cases hx:l.st<;>rw [hx] at hst<;>first | rfl | cases hst
  refine⟨_,run_beginRound hq hqr,?_⟩
  have hs2:=@Sim.record σ H w ρ b l { l with st:=.busy } L q { q with state:=.busy } hhp hdm hL hl hq ⟨rfl,rfl,rfl⟩ (by rw [← q2])
  have hs2f:=@Sim.f σ _ _ _ _ _ _ hs2
  refine(K (some L.B) σ hU).wp (@SRel.mk σ _ _ _ _ _ _ hfr (@Sim.rel σ _ _ _ _ _ _ hs2) hs2f.dom (hs2f.jj hjj)) ⟨L,hL,rfl⟩ (Nat.le_trans hm0 hs2f.size) (DfOK.a3o hdm hs2f df) fun σ3 he3 x hx ρ3 a3 w3 s3 _ hs3=>?_
  obtain⟨o,ho,hoe⟩:=hall x hx
  obtain⟨l3,hl3,rfl⟩:=ame hoe
  have hL3:=hs3.le b L hL
  have hhp3:=@SRel.hp σ3 _ _ _ _ _ _ s3
  obtain⟨p,hp',p1,p2,p3,p4,p5,p6⟩:=@aoc σ3 _ _ _ _ _ _ hhp3 hL3 hl3
  obtain⟨e,F3,H3⟩:=x
  have fin:∀ (jump:Option Code),jump=ay1 e→∃ v w',(Instr.endRound L.B jump).run P w3=.ok v w'∧R (Ending.returned v) w':=by
   intro jump hj
   subst hj
   have hs4:=@Sim.record σ3 H3 w3 ρ3 b l3 { l3 with st:=stOf e,pend:=ay1 e } L p { p with state:=if(ay1 e).isNone then .ready else .done,pending:=ay1 e } hhp3 (@SRel.dom σ3 _ _ _ _ _ _ s3) hL3 hl3 hp' ⟨rfl,rfl,rfl⟩ (by cases e<;>rfl)
   have hs4f:=@Sim.f σ3 _ _ _ _ _ _ hs4
   have hs34:=@SimF.trans σ _ _ _ _ _ _ _ _ _ hs2f.dom hs3 hs4f
   have he:Ext H.nv σ σ3:=he3
   refine⟨_,_,run_endRound _ hp',hR _ ho σ3 he ρ3 _ _ ?_ (@SimF.trans σ _ _ _ _ _ _ _ _ _ hdm hs2f hs34) (@Sim.rel σ3 _ _ _ _ _ _ hs4)⟩
   cases e<;>exact⟨rfl,rfl⟩
  cases e with
  | nrm=>exact fin _ rfl
  | ext id=>exact fin _ rfl
  | rt=>exact fin _ rfl
theorem bn0(hm:P.follows .mixedOrders=true){cx:Cx}(hcx:CxOK U P cx){hs:Nat→Hs}{b:Nat}(hrb:cx.rb=some b){args:List AV}{v:List VC}{outs:List (AV×HP)}(h:bfd P cx hs U.lc b args H=some (v,outs))(hv:∀ z∈v,VCok U z) :
  (∀ o∈outs,Sc H o.2)∧∀ σ:Sg,σ.toUs=U→∀ (ρ:PM) (w:World) (us:Array Value) (L:Loc),ρ b=some L→All2 (@VRel σ ρ) args us.toList→@HRel σ ρ H w→Dom ρ H.n→J ρ H w→ach P (a4u σ ρ H w outs) ((Instr.yield L.B us).run P w):=by
 unfold bfd at h
 split at h
 rotate_left
 ·cases h
 rename_i l hl
 split at h
 rotate_left
 ·cases h
 rename_i F1 hp hfl
 simp only [Bool.and_eq_true] at hfl
 obtain⟨⟨hfl1,hfl2⟩,hn1,hn2⟩:=hfl
 have hr1:af2 U.lc cx.rk (U.lc l.k).assign:=fun x hx=>by rw [avc hn1] at hx;cases hx
 have hr2:af2 U.lc cx.rk (U.lc l.k).body:=fun x hx=>by rw [avc hn2] at hx;cases hx
 split at h
 rotate_left
 ·cases h
 rename_i v1 l1 hc1
 obtain⟨v2,h0,rfl⟩:=atv h
 have hv1:∀ z∈v1,VCok U z:=fun z hz=>hv z (List.mem_append_left _ hz)
 obtain⟨hb1,hb2⟩:=ah0 h0
 have K1:=fun(m:Nat) (r:Option Nat) (σ:Sg) (hU:σ.toUs=U)=>ata (n:=l.n) (m:=m) (r:=r) hm hcx (U.lc l.k).assign hfl1 hr1 hc1 hv1 σ hU
 rw [hrb] at K1
 have hth:∀ x∈l1,∃ F2 H2,x=(.nrm,F2,H2)∧∃ v3 zs,a8a P cx (hs l.k) b l.n (U.lc l.k).body F2 H2=some (v3,zs)∧(∀ z∈zs,z∈outs)∧∀ z∈v3,VCok U z:=by
  intro x hx
  obtain⟨v3,zs,h1,h2,h3⟩:=hb1 x hx
  obtain⟨e,F2,H2⟩:=x
  cases e with
  | nrm=>exact⟨F2,H2,rfl,v3,zs,h1,h2,fun z hz=>hv z (List.mem_append_right _ (h3 z hz))⟩
  | ext id=>cases h1
  | rt=>cases h1
 refine⟨fun o ho=>?_,fun σ hU ρ w us L hL hargs hH hd hj=>?_⟩
 ·obtain⟨x,hx,v3,zs,h1,h2⟩:=hb2 o ho
  obtain⟨F2,H2,rfl,v4,zs',h3,h4,h5⟩:=hth x hx
  have h1:a8a P cx (hs l.k) b l.n (U.lc l.k).body F2 H2=some (v3,zs):=h1
  rw [h3] at h1
  cases h1
  haveI:Sg:={ toUs:=U,v:=fun _=>default }
  exact((K1 0 none { toUs:=U,v:=fun _=>default } rfl).st _ hx).trans ((a8b hm hcx hrb hfl2 hr2 h3 h5).1 o h2)
 ·obtain⟨r,hr,r1,r2,r3,r4,r5,r6⟩:=@aoc σ _ _ _ _ _ _ hH hL hl
  rw [show(@Us.lc σ.toUs l.k)=U.lc l.k by rw [hU]] at r3 r4 r5
  obtain⟨hlen,hf⟩:=a6z hp hargs r6
  have hy:=run_yield (P:=P) (w:=w) (args:=us) hr (by rw [r3,← Array.length_toList,← hlen,Array.length_toList])
  rw [hy]
  show RoundIn Fence.wide 0 P L.B r.fn _ r.assign r.body w _
  refine roundIn_of_wpIn trivial ?_
  rw [r4,r5]
  have hzip:((r.params.zip us).foldl (fun tmps (x:Tmp×Value)=>tmps.setIfInBounds x.1 x.2) r.tmps)=((U.lc l.k).ps.toList.zip us.toList).foldl (fun t (p:Tmp×Value)=>t.setIfInBounds p.1 p.2) r.tmps:=by
   rw [r3,← Array.foldl_toList,Array.toList_zip]
  have s0:@SRel σ l.n ρ F1 H { tmps:=(r.params.zip us).foldl (fun tmps (x:Tmp×Value)=>tmps.setIfInBounds x.1 x.2) r.tmps,defers:=[] } w:=@SRel.mk σ _ _ _ _ _ _ (by rw [hzip];exact hf) hH hd hj
  refine(K1 0 (some L.B) σ hU).wp s0 ⟨L,hL,rfl⟩ (Nat.zero_le _) (DfOK.nil _ _ _ 0) fun σ1 he1 x hx ρ1 a1 w1 s1 df1 hs1=>?_
  obtain⟨F2,H2,rfl,v4,zs,h1,h2,h3⟩:=hth x hx
  have hL1:=hs1.le b L hL
  exact(a8b hm hcx hrb hfl2 hr2 h1 h3).2 σ1 (he1.us.trans hU) hL1 s1 (Nat.zero_le _) df1 fun o ho σ' he' ρ' u w' hv hs hrel=>⟨u,rfl,o,h2 o ho,σ',he1.trans ((K1 0 none { toUs:=U,v:=fun _=>default } rfl).st _ hx).2.2 he',ρ',hv,@SimF.trans σ _ _ _ _ _ _ _ _ _ hd hs1 hs,hrel⟩
structure TbOK (U:Us) (P:Program) (T:Tb):Prop where
 f:∀ g d,T.f g=some d→FnAt P g d.fn∧af2 U.lc (keyOf g) (acv d.fn)
 lc:T.lc=U.lc
theorem TbOK.ent{T:Tb}(h:TbOK U P T):∀ g,T.ent g=true→∀ us w,(callFunc g us).run P w=.ok (.enter g us) w:=by
 intro g hg us w
 unfold Tb.ent at hg
 split at hg
 ·rename_i d hd
  exact(h.f g d hd).1.call us w
 ·cases hg
theorem anb(hm:P.follows .mixedOrders=true){ora:OraM}(hora:agh U P ora){fuel fk:Nat}{T:Tb}(hT:TbOK U P T):∀ (k:Nat),af0 U P (orvK P ora fuel fk T k)
 | 0=>bsn
 | k+1=>by
  have ih:=anb hm hora (fuel:=fuel) (fk:=fk) hT k
  intro t args H v outs h hv
  cases t with
  | f g =>
   have h':(match T.f g with
    | some d=>runI P ⟨ora,orvK P ora fuel fk T k,T.ent,fuel,fk,none,keyOf g⟩ d args H
    | none=>none)=some (v,outs):=h
   split at h'
   ·rename_i d hd
    obtain⟨h1,h2⟩:=hT.f g d hd
    obtain⟨k1,k2⟩:=bwc hm (⟨hora,ih,hT.ent⟩:CxOK U P ⟨ora,orvK P ora fuel fk T k,T.ent,fuel,fk,none,keyOf g⟩) rfl h1 h2 h' hv
    exact⟨k1,fun σ hU ρ w us s hs hargs hH hd hj=>by rw [show s=callFunc g us from hs];exact k2 σ hU ρ w us hargs hH hd hj⟩
   ·cases h'
  | y b =>
   have h':bfd P ⟨ora,orvK P ora fuel fk T k,T.ent,fuel,fk,some b,fun _=>0⟩ T.y T.lc b args H=some (v,outs):=h
   rw [hT.lc] at h'
   obtain⟨k1,k2⟩:=bn0 hm (⟨hora,ih,hT.ent⟩:CxOK U P ⟨ora,orvK P ora fuel fk T k,T.ent,fuel,fk,some b,fun _=>0⟩) rfl h' hv
   refine⟨k1,fun σ hU ρ w us s hs hargs hH hd hj=>?_⟩
   obtain⟨L,hL,he⟩:=hs
   rw [he]
   exact k2 σ hU ρ w us L hL hargs hH hd hj
end
end Go.Sx

namespace Go.Sx
noncomputable def bsh:List (FuncId×Func)→Nat→Option Func
 | [],_=>none
 | x::r,k=>match Nat.beq k x.1 with
  | true=>some x.2
  | false=>bsh r k
noncomputable def lcOf(L:List (FuncId×Func))(k:Nat):LCd:=match bsh L (Nat.div k 1000) with
 | some fn=>by1 (ahp (acv fn)) (Nat.mod k 1000)
 | none=>⟨#[],.skip,.skip⟩
theorem ag3{lc:Nat→LCd}{rk:Nat→Nat}{c:Code}(h:nilL (ahp c)=true):af2 lc rk c:=fun x hx=>by
 rw [avc h] at hx
 cases hx
noncomputable def apf:List (FuncId×Inl)→FuncId→Option Inl
 | [],_=>none
 | x::r,k=>match Nat.beq k x.1 with
  | true=>some x.2
  | false=>apf r k
theorem au4:∀ {l:List (FuncId×Inl)} {g:FuncId} {d:Inl},apf l g=some d→(g,d)∈l
 | [],g,d,h=>by cases h
 | x::r,g,d,h=>by
  unfold apf at h
  split at h
  ·rename_i hb
   cases h
   rw [Nat.eq_of_beq_eq_true hb]
   exact List.mem_cons_self ..
  ·exact List.mem_cons_of_mem _ (au4 h)
variable {P:Program}
structure InlOK (U:Us) (P:Program) (x:FuncId×Inl):Prop where
 at':FnAt P x.1 x.2.fn
 rg:af2 U.lc (keyOf x.1) (acv x.2.fn)
theorem TbOK.of{U:Us}{l:List (FuncId×Inl)}{y:Nat→Hs}(h:∀ x∈l,InlOK U P x):TbOK U P ⟨apf l,y,U.lc⟩:=⟨fun g d hd=>⟨(h _ (au4 hd)).at',(h _ (au4 hd)).rg⟩,rfl⟩
theorem InlOK.of{U:Us}{g:FuncId}{fn:Func}{hs:Hs}(h:FnAt P g fn)(hn:nilL (ahp (acv fn))=true):InlOK U P (g,⟨fn,hs⟩):=⟨h,ag3 hn⟩
def amb(U:Us)(P:Program)(l:List (FuncId×Inl)):Prop:=∀ x∈l,InlOK U P x
theorem amb.nil{U:Us}:amb U P []:=fun x hx=>by cases hx
theorem amb.cons{U:Us}{x:FuncId×Inl}{l:List (FuncId×Inl)}(h:InlOK U P x)(hl:amb U P l):amb U P (x::l):=fun y hy=>by
 rcases List.mem_cons.1 hy with rfl | hy
 ·exact h
 ·exact hl y hy
noncomputable def noY:Nat→Hs:=fun _=>⟨fun _=>none,fun _ _ _=>[]⟩
noncomputable def noH:Hs:=⟨fun _=>none,fun _ _ _=>[]⟩
noncomputable def cxOf(P:Program)[Plain P](ora:OraM)(fuel fk:Nat)(T:Tb)(d:Nat)(f:FuncId):Cx:=⟨ora,orvK P ora fuel fk T d,T.ent,fuel,fk,none,keyOf f⟩
theorem abk.ofV{P:Program}[Plain P]{U:Us}{T:FuncId→Option Fsp}{l:List (FuncId×Inl)}{y:Nat→Hs}{dp:Nat}{f:FuncId}{fn:Func}{fuel fk:Nat}{hs:Hs}{S:Fsp}{v:List VC}{outs:List (List X×List (List X))}(hm:P.follows .mixedOrders=true)(hT:∀ f S,T f=some S→abk U P f S)
  (hl:∀ x∈l,InlOK U P x) (hf:FnAt P f fn) (hrg:af2 U.lc (keyOf f) (acv fn))
  (h:runV P (cxOf P (ahj T) fuel fk ⟨apf l,y,U.lc⟩ dp f) hs fn (acv fn) S=some (v,outs)) (hv:∀ z∈v,VCok U z) (hend:∀ o∈outs,∀ σ:Sg,σ.toUs=U→@Holds σ o.1→∃ q∈S.outs,@Holds σ q.1∧q.2.map (@denL σ)=o.2.map (@denL σ)):abk U P f S :=
 afr hm ⟨aiv hT,anb hm (aiv hT) (TbOK.of hl) dp,(TbOK.of hl).ent⟩ rfl hrg hf.at' hf.body hf.call hf.flow h hv hend
end Go.Sx
