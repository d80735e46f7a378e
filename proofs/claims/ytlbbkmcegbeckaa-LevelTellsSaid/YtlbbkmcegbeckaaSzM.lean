/-
  A symbolic executor: maps that read as expressions. Conditions: none; nothing here speaks of one program.
-/
import Derived.Test.YtlbbkmcegbeckaaSzA
set_option linter.unusedSimpArgs false
set_option linter.unusedSectionVars false
set_option linter.unusedVariables false
namespace Go.Sx
@[reducible] noncomputable def sg0:Sg:={ u:=fun _ _=>default,lc:=fun _=>⟨#[],.skip,.skip⟩,v:=fun _=>default }
def fIdx(k:CD):List (List CD)→Option Nat
 | []=>none
 | r::rs=>if eqC k (r.getD 0 default) then some 0 else(fIdx k rs).map (·+1)
theorem chi(k:CD):∀ rows:List (List CD),mHas k rows=(fIdx k rows).isSome
 | []=>rfl
 | r::rs=>by
  have ih:=chi k rs
  show(eqC k (r.getD 0 default)||mHas k rs)=_
  unfold fIdx
  cases h:eqC k (r.getD 0 default) with
  | true=>simp
  | false=>simp [ih]
theorem cpn{k z:CD}{j:Nat}:∀ {rows:List (List CD)} {i:Nat},fIdx k rows=some i→mGet j k z rows=(rows.getD i []).getD j default
 | [],i,h=>by cases h
 | r::rs,i,h=>by
  unfold fIdx at h
  unfold mGet
  split at h
  ·rename_i he
   cases h
   rw [if_pos he]
   rfl
  ·rename_i he
   rw [if_neg he]
   cases hf:fIdx k rs with
   | none=>rw [hf] at h;cases h
   | some i' =>
    rw [hf] at h
    cases h
    rw [cpn hf]
    simp
theorem cpm{k z:CD}{j:Nat}:∀ {rows:List (List CD)},fIdx k rows=none→mGet j k z rows=z
 | [],h=>rfl
 | r::rs,h=>by
  unfold fIdx at h
  unfold mGet
  split at h
  ·cases h
  ·rename_i he
   rw [if_neg he]
   cases hf:fIdx k rs with
   | none=>exact cpm hf
   | some i=>rw [hf] at h;cases h
theorem cpq{k c:CD}{vs:List CD}:∀ {rows:List (List CD)} {i:Nat},fIdx k rows=some i→mPut k vs c rows=rows.modify i fun r=>k::(vs++r.drop (1+vs.length))
 | [],i,h=>by cases h
 | r::rs,i,h=>by
  unfold fIdx at h
  unfold mPut
  split at h
  ·rename_i he
   cases h
   rw [if_pos he]
   rfl
  ·rename_i he
   rw [if_neg he]
   cases hf:fIdx k rs with
   | none=>rw [hf] at h;cases h
   | some i' =>
    rw [hf] at h
    cases h
    rw [cpq hf]
    rfl
theorem cyl{k:CD}:∀ {rows:List (List CD)} {i:Nat},fIdx k rows=some i→match rows[i]? with | some r=>eqC k (r.getD 0 default)=true | none=>False
 | [],i,h=>by cases h
 | r::rs,i,h=>by
  unfold fIdx at h
  split at h
  ·rename_i he
   cases h
   exact he
  ·cases hf:fIdx k rs with
   | none=>rw [hf] at h;cases h
   | some i' =>
    rw [hf] at h
    cases h
    have:=cyl hf
    show match(r::rs)[i'+1]? with | some r=>eqC k (r.getD 0 default)=true | none=>False
    rw [List.getElem?_cons_succ]
    exact this
theorem cpo{k c:CD}{vs:List CD}:∀ {rows:List (List CD)},fIdx k rows=none→mPut k vs c rows=rows++[k::(vs++[c])]
 | [],h=>rfl
 | r::rs,h=>by
  unfold fIdx at h
  unfold mPut
  split at h
  ·cases h
  ·rename_i he
   rw [if_neg he]
   cases hf:fIdx k rs with
   | none=>rw [cpo hf];rfl
   | some i=>rw [hf] at h;cases h
def ckq:Srt→Bool
 | .int _=>true
 | .bool=>true
 | .str=>true
 | .sl _=>false
theorem RS.plain{m m':Mem}{s:Srt}{d:CD}{u:Value}(hp:ckq s=true)(h:RS m s d u):RS m' s d u:=by
 cases s with
 | int k=>exact h
 | bool=>exact h
 | str=>exact h
 | sl w=>cases hp
theorem RSs.plain{m m':Mem}:∀ {ss:List Srt} {row:List CD} {f:Nat→Option Value},(ss.all ckq)=true→RSs m ss row f→RSs m' ss row f
 | [],row,f,_,h=>h
 | s::ss,row,f,hp,h=>by
  simp only [List.all_cons,Bool.and_eq_true] at hp
  obtain⟨c,r,u,h1,h2,h3,h4⟩:=h
  exact⟨c,r,u,h1,h2,RS.plain hp.1 h3,RSs.plain hp.2 h4⟩
theorem RS.val{m:Mem}{s:Srt}{d:CD}{u:Value}(hp:ckq s=true)(h:RS m s d u):d=.v u:=by
 cases s with
 | int k=>obtain⟨n,h1,h2,_⟩:=h;rw [h1,h2]
 | bool=>obtain⟨n,h1,h2⟩:=h;rw [h1,h2]
 | str=>obtain⟨n,h1,h2,_⟩:=h;rw [h1,h2]
 | sl w=>cases hp
noncomputable def keyS(P:Program)[Plain P](kt:TypeId)(s:Srt):Bool :=
 match undT P kt,s with
 | some (.int k),.int k'=>decide (k=k')
 | some .bool,.bool=>true
 | some .string,.str=>true
 | _,_=>false
section
variable {P:Program} [Plain P] {E:Operand→Option AV} {H H':HP} {w w':World} {ρ ρ':PM} {U:Us}
attribute [local instance] sg0
theorem ckb{kt:TypeId}{s:Srt}(h:keyS P kt s=true):ckq s=true:=by
 unfold keyS at h
 split at h<;>first | rfl | cases h
theorem cka{kt:TypeId}{s:Srt}{m:Mem}{d:CD}{u:Value}(h:keyS P kt s=true)(hu:RS m s d u)(e:Bool)(n:Nat):(Instr.checkKey e (n+1) kt u).run P w=.ok () w:=by
 unfold keyS at h
 split at h
 ·rename_i hk;rw [b3j] at hk;simp [Instr.checkKey,run_underlying hk]
 ·rename_i hk;rw [b3j] at hk;simp [Instr.checkKey,run_underlying hk]
 ·rename_i hk;rw [b3j] at hk;simp [Instr.checkKey,run_underlying hk]
 ·cases h
theorem c3o{kt:TypeId}{s:Srt}(h:keyS P kt s=true):∃ d,P.underlying kt=some d:=by
 unfold keyS at h
 split at h
 ·rename_i hk;rw [b3j] at hk;exact⟨_,hk⟩
 ·rename_i hk;rw [b3j] at hk;exact⟨_,hk⟩
 ·rename_i hk;rw [b3j] at hk;exact⟨_,hk⟩
 ·cases h
theorem c77{kt:TypeId}{s:Srt}{m m':Mem}{d d':CD}{u u':Value}(h:keyS P kt s=true)(hu:RS m s d u)(hu':RS m' s d' u'):(Op.equal kt u u').run P w=.ok (eqC d d') w:=by
 unfold keyS at h
 split at h
 ·rename_i k k' hk
  rw [b3j] at hk
  rw [← of_decide_eq_true h] at hu hu'
  obtain⟨n,rfl,rfl,_⟩:=hu
  obtain⟨n',rfl,rfl,_⟩:=hu'
  rw [b39]
  exact run_equalIn_int w _ kt _ _ _ _ hk
 ·rename_i hk
  rw [b3j] at hk
  obtain⟨n,rfl,rfl⟩:=hu
  obtain⟨n',rfl,rfl⟩:=hu'
  rw [b39]
  exact run_equalIn_bool w _ kt _ _ hk
 ·rename_i hk
  rw [b3j] at hk
  obtain⟨n,rfl,rfl,_⟩:=hu
  obtain⟨n',rfl,rfl,_⟩:=hu'
  rw [b39,run_equalIn_string _ _ kt _ _ hk]
  rfl
 ·cases h
theorem cy1{kt:TypeId}{s:Srt}{m m':Mem}{d d':CD}{u u':Value}(h:keyS P kt s=true)(hu:RS m s d u)(hu':RS m' s d' u')(he:eqC d d'=true):Instr.sameBits 10000 u' u=true:=by
 have hp:=ckb h
 cases s with
 | int k =>
  obtain⟨n,rfl,rfl,_⟩:=hu
  obtain⟨n',rfl,rfl,_⟩:=hu'
  have:n=n':=of_decide_eq_true he
  subst this
  simp [Instr.sameBits]
 | bool =>
  obtain⟨n,rfl,rfl⟩:=hu
  obtain⟨n',rfl,rfl⟩:=hu'
  have:(n==n')=true:=he
  simp only [beq_iff_eq] at this
  subst this
  simp [Instr.sameBits]
 | str =>
  obtain⟨n,rfl,rfl,_⟩:=hu
  obtain⟨n',rfl,rfl,_⟩:=hu'
  have h2:(n.toList==n'.toList)=true:=he
  show(n'==n)=true
  rw [beq_toListBytes,eq_of_beq h2]
  simp
 | sl w=>cases hp
theorem PlR.one{s:Srt}{kr:List CD}{u:Value}(h:PlR false [s] kr u):∃ d,kr=[d]∧RS (fun _ _=>False) s d u:=by
 obtain⟨us,h1,h2,_,h4⟩:=h
 match us,h2 with
 | [x],_ =>
  obtain⟨c,r,u',h5,h6,h7,h8⟩:=h4
  have h8:r=[]:=h8
  subst h8
  have h6:some x=some u':=h6
  cases h6
  have h1:u=x:=h1
  rw [h1]
  exact⟨c,h5,h7⟩
abbrev RowR(s:Srt)(va:Bool)(vw:List Srt)(clock:Nat):List CD→MapEntry→Prop:=fun row m=>∃ kr vr,row=kr++(vr++[.v (.int .i64 m.born)])∧m.born<clock∧PlR false [s] kr m.key∧PlR va vw vr m.val
theorem cae{kt:TypeId}{s:Srt}{m:Mem}{d:CD}{u:Value}{va:Bool}{vw:List Srt}{clock:Nat}(h:keyS P kt s=true)(hu:RS m s d u):∀ {rows:List (List CD)} {ms:List MapEntry} {i:Nat},All2 (RowR s va vw clock) rows ms →
  ∃ r,(Instr.findAsking kt u ms i).run P w=.ok r w∧match fIdx d rows with
   | none=>r=none
   | some j=>∃ e,ms[j]? = some e∧r=some (i+j,e.val)
 | [],[],i,_=>⟨none,rfl,rfl⟩
 | [],_::_,_,h=>h.elim
 | _::_,[],_,h=>h.elim
 | row::rows,e::ms,i,⟨⟨kr,vr,h1,h2,h3,h4⟩,h5⟩=>by
  obtain⟨dk,rfl,hk⟩:=h3.one
  have heq:=c77 (w:=w) h hu hk
  have hrow:row.getD 0 default=dk:=by rw [h1];rfl
  unfold fIdx
  rw [hrow]
  cases hc:eqC d dk with
  | true =>
   rw [hc] at heq
   refine⟨some (i,e.val),?_,?_⟩
   ·simp only [Instr.findAsking,Sem.run_bind,heq,Result.andThen_ok,if_true,Sem.run_pure]
   ·rw [if_pos rfl]
    exact⟨e,rfl,rfl⟩
  | false =>
   rw [hc] at heq
   obtain⟨r,h6,h7⟩:=cae (i:=i+1) h hu h5
   refine⟨r,?_,?_⟩
   ·simp only [Instr.findAsking,Sem.run_bind,heq,Result.andThen_ok,Bool.false_eq_true,if_false]
    exact h6
   ·rw [if_neg (by simp)]
    cases hf:fIdx d rows with
    | none=>rw [hf] at h7;exact h7
    | some j =>
     rw [hf] at h7
     obtain⟨e',g1,g2⟩:=h7
     exact⟨e',by simpa using g1,by rw [g2,show i+1+j=i+(j+1) by omega]⟩
theorem cff{kt:TypeId}{s:Srt}{m:Mem}{d:CD}{u:Value}{va:Bool}{vw:List Srt}{clock:Nat}(h:keyS P kt s=true)(hu:RS m s d u){rows:List (List CD)}{ms:List MapEntry}(he:All2 (RowR s va vw clock) rows ms) :
  ∃ r,(Instr.findKey kt u ms).run P w=.ok r w∧match fIdx d rows with
   | none=>r=none
   | some j=>∃ e,ms[j]? = some e∧r=some (j,e.val):=by
 obtain⟨r,h1,h2⟩:=cae (w:=w) (i:=0) h hu he
 obtain⟨dd,hd⟩:=c3o h
 refine⟨r,?_,by simpa using h2⟩
 simp only [Instr.findKey,Sem.run_bind,run_underlying hd,Result.andThen_ok]
 split
 ·rename_i x hx
  have hx:=b6z (w:=w) hd hx
  rw [h1] at hx
  cases hx
  rfl
 ·exact h1
end
noncomputable section
def mxAt(H:HP)(b:Nat):Option (List Srt×Bool×List Srt×X×X) :=
 match H.t.get b with
 | some (.lf [some (.mx kw va vw e c)])=>some (kw,va,vw,e,c)
 | _=>none
def ixAt(H:HP)(b:Nat):Option (Nat×X×X) :=
 match H.t.get b with
 | some (.lf [some (.ix m s c)])=>some (m,s,c)
 | _=>none
def cmq(e ek:X):Nat→List Srt→List X→Option (List Cel)
 | _,[],[]=>some []
 | j,s::ss,z::zs=>match cmq e ek (Nat.succ j) ss zs with
  | some r=>some (.sv s [] (.ap (.mget j) [e,ek,z])::r)
  | none=>none
 | _,_,_=>none
def b9d(e i:X):Nat→List Srt→List Cel
 | _,[]=>[]
 | j,s::ss=>.sv s [] (.ap (.cell j) [e,i])::b9d e i (Nat.succ j) ss
def c71(ok:Bool)(p:Bool×List Cel)(b:X)(H:HP):R :=
 match ok with
 | true=>some (.tup [p,(false,[.sv .bool [] b])],H)
 | false=>match avOf p with
  | some v=>some (v,H)
  | none=>none
def cui(P:Program)[Plain P](E:Operand→Option AV)(H:HP)(t:TypeId)(x i:Operand)(ok:Bool):R :=
 match undT P t,E x,E i with
 | some (.map kt et),some (.one (.mp b)),some (.one k)=>match mxAt H b with
  | some ([s],va,vw,e,c)=>match keyS P kt s&&vw.all ckq,toS s k,c2l P et with
   | true,some (ek,_),some (za,zc)=>match eqB va za,cs4 vw zc with
    | true,some (zs,_)=>match cmq e ek 1 vw zs with
     | some cs=>c71 ok (va,cs) (.ap .mhas [e,ek]) H
     | none=>none
    | _,_=>none
   | _,_,_=>none
  | _=>none
 | _,_,_=>none
def c4l(P:Program)[Plain P](E:Operand→Option AV)(H:HP)(t:TypeId)(m k x:Operand):R :=
 match undT P t,E m,E k,(E x).bind partOf with
 | some (.map kt _),some (.one (.mp b)),some (.one k0),some (pa,pc)=>match mxAt H b with
  | some ([s],va,vw,e,c)=>match keyS P kt s&&(eqB va pa&&vw.all ckq),toS s k0,cs4 vw pc with
   | true,some (ek,_),some (vs,_)=>some (b5a,H.obj b (.mx [s] va vw (.ap .mput (e::c::ek::vs)) (.ap .ite [.ap .mhas [e,ek],c,.ap (.add .i64) [c,.lit (.int .i64 1)]])))
   | _,_,_=>none
  | _=>none
 | _,_,_,_=>none
def cnb(P:Program)[Plain P](E:Operand→Option AV)(H:HP)(t:TypeId)(x:Operand):R :=
 match undT P t,E x with
 | some (.map _ _),some (.one (.mp b))=>match mxAt H b with
  | some (_,_,_,e,c)=>some (.one (.ptr H.n 0),(H.push (.lf [some (.ix b (nilE false) c)])).learn (.ap .mok [e,c]))
  | none=>none
 | _,_=>none
def c7u(hy:List X)(i e:X):Bool:=match known hy (.ap .le [zI,i]),known hy (.ap .lt [i,.ap .rlen [e]]) with
 | some true,some true=>true
 | _,_=>false
def cm5(E:Operand→Option AV)(H:HP)(x:Operand):R :=
 match E x with
 | some (.one (.ptr b 0))=>match ixAt H b with
  | some (m,.ap .snoc [s0,.ap (.cell j) [e',i]],c)=>match mxAt H m with
   | some ([s],va,vw,e,c')=>match eqX c c'&&(eqX e' e&&(Nat.beq j (Nat.succ vw.length)&&c7u H.hy i e)) with
    | true=>some (.tup [(false,[.sv s [] (.ap (.cell 0) [e,i])]),(va,b9d e i 1 vw)],H)
    | false=>none
   | _=>none
  | _=>none
 | _=>none
def dea(H:HP)(b m:Nat)(e s c:X)(j:Nat):HP :=
 ⟨(H.obj b (.ix m (.ap .snoc [s,.ap (.cell j) [e,.var H.nv]]) c)).t,H.n,minN H.lo b,
  .ap .le [zI,.var H.nv]::.ap .lt [.var H.nv,.ap .rlen [e]]::.ap .not [.ap .min [.ap (.cell j) [e,.var H.nv],s]]::H.hy,Nat.succ H.nv⟩
def czw(E:Operand→Option AV)(H:HP)(x:Operand):Option (List (AV×HP)) :=
 match E x with
 | some (.one (.ptr b 0))=>match ixAt H b with
  | some (m,s,c)=>match mxAt H m with
   | some ([ks],va,vw,e,c')=>match eqX c c'&&cqt H with
    | true=>some [(.tup [(false,[.lit (.bool false)])],H.learn (.ap .mall [e,s])),
     (.tup [(false,[.lit (.bool true)]),(false,[.sv ks [] (.ap (.cell 0) [e,.var H.nv])]),(va,b9d e (.var H.nv) 1 vw)],dea H b m e s c (Nat.succ vw.length))]
    | false=>none
   | _=>none
  | none=>none
 | _=>none
end
theorem chm{H:HP}{b:Nat}{kw:List Srt}{va:Bool}{vw:List Srt}{e c:X}(h:mxAt H b=some (kw,va,vw,e,c)):H.t.get b=some (.lf [some (.mx kw va vw e c)]):=by
 unfold mxAt at h
 split at h
 ·rename_i hk;cases h;exact hk
 ·cases h
theorem chc{H:HP}{b m:Nat}{s c:X}(h:ixAt H b=some (m,s,c)):H.t.get b=some (.lf [some (.ix m s c)]):=by
 unfold ixAt at h
 split at h
 ·rename_i hk;cases h;exact hk
 ·cases h
section
variable [Sg] {P:Program} [Plain P] {E:Operand→Option AV} {H H':HP} {w w':World} {ρ ρ':PM} {ev:Operand→Value} {v:AV}
theorem dbz(ag:Bool)(us:List Value):mkV ag us=if ag then .agg us.toArray else us.getD 0 undef:=by
 cases ag with
 | true=>rfl
 | false=>cases us<;>rfl
theorem ccq{b:Nat}{kw:List Srt}{va:Bool}{vw:List Srt}{e c:X}{L:Loc}(hH:HRel ρ H w)(hL:ρ b=some L)(h:mxAt H b=some (kw,va,vw,e,c)):L.o=0∧∃ arr clock,w.heap[L.B]? = some (.map arr clock)∧den c=.v (.int .i64 clock)∧cxf kw va vw (den e).rows arr.toList clock:=by
 obtain⟨_,h1,h2⟩:=hH.rel b 0 _ L (b9b (chm h)).1 hL
 exact⟨h1,h2⟩
theorem c1m{f:Nat→X}:∀ {ss:List Srt} {ds:List CD} {us:List Value} {j:Nat} {cs:List Cel},cs.length=ss.length→(∀ i s,ss[i]? = some s→cs[i]? = some (Cel.sv s [] (f (j+i))))→(∀ i,i<ss.length→den (f (j+i))=ds.getD i default)→us.length=ss.length→RSs (fun _ _=>False) ss ds (fun j=>us[j]?)→All2 (CRel ρ) cs us:=by
 intro ss ds us j cs hl hc hd hu hr
 refine All2.of_get (by omega) fun i c u hi hv=>?_
 have hlt:i<ss.length:=by have:=(List.getElem?_eq_some_iff.1 hi).1;omega
 obtain⟨u',h1,h2⟩:=hr.get i _ (List.getElem?_eq_getElem hlt)
 have h1:us[i]? = some u':=h1
 rw [hv] at h1
 cases h1
 have:=hc i _ (List.getElem?_eq_getElem hlt)
 rw [hi] at this
 cases this
 refine⟨fun g hg=>(by cases hg),?_⟩
 rw [hd i hlt]
 exact h2.mono fun _ _ h=>h.elim
theorem cij(e i:X):∀ (ss:List Srt) (j k:Nat) (s:Srt),ss[k]? = some s→(b9d e i j ss)[k]? = some (Cel.sv s [] (.ap (.cell (j+k)) [e,i]))
 | [],_,_,_,h=>by simp at h
 | s::ss,j,0,s',h=>by
  simp only [List.getElem?_cons_zero,Option.some.injEq] at h
  subst h
  rfl
 | s::ss,j,k+1,s',h=>by
  simp only [List.getElem?_cons_succ] at h
  show(b9d e i (j+1) ss)[k]? = _
  rw [cij e i ss (j+1) k s' h]
  congr 4
  omega
theorem cik(e i:X):∀ (ss:List Srt) (j:Nat),(b9d e i j ss).length=ss.length
 | [],_=>rfl
 | _::ss,j=>by show(b9d e i (j+1) ss).length+1=_;rw [cik e i ss (j+1)];rfl
theorem cg6{e ek:X}:∀ {ss:List Srt} {zs:List X} {cs:List Cel} {j:Nat},cmq e ek j ss zs=some cs→cs.length=ss.length∧zs.length=ss.length∧∀ k s,ss[k]? = some s→cs[k]? = some (Cel.sv s [] (.ap (.mget (j+k)) [e,ek,zs.getD k default]))
 | [],[],cs,j,h=>by cases h;exact⟨rfl,rfl,fun k s h=>by simp at h⟩
 | [],_::_,_,_,h=>by cases h
 | _::_,[],_,_,h=>by cases h
 | s::ss,z::zs,cs,j,h=>by
  simp only [cmq] at h
  split at h
  ·rename_i r hr
   cases h
   obtain⟨h1,h2,h3⟩:=cg6 hr
   refine⟨by simp [h1],by simp [h2],fun k s' hk=>?_⟩
   cases k with
   | zero =>
    simp only [List.getElem?_cons_zero,Option.some.injEq] at hk
    subst hk
    rfl
   | succ k =>
    simp only [List.getElem?_cons_succ] at hk ⊢
    rw [h3 k s' hk]
    have:Nat.succ j+k=j+(k+1):=by omega
    rw [this]
    rfl
  ·cases h
theorem co2:∀ (l:List X) (k:Nat),k<l.length→(denL l).getD k default=den (l.getD k default)
 | [],k,h=>by simp at h
 | x::l,0,_=>rfl
 | x::l,k+1,h=>by
  show(denL l).getD k default=den (l.getD k default)
  exact co2 l k (by simpa using h)
theorem PlR.part{va:Bool}{vw:List Srt}{vr:List CD}{u:Value}{cs:List Cel}{f:Nat→X}{j:Nat}(h:PlR va vw vr u)(hl:cs.length=vw.length)(hc:∀ i s,vw[i]? = some s→cs[i]? = some (Cel.sv s [] (f (j+i))))(hd:∀ i,i<vw.length→den (f (j+i))=vr.getD i default):PRel ρ (va,cs) u:=by
 obtain⟨us,h1,h2,h3,h4⟩:=h
 have hr:=c1m (ρ:=ρ) hl hc hd h2 h4
 subst h1
 cases va with
 | true=>exact⟨us.toArray,rfl,by simpa using hr⟩
 | false =>
  have h3:=h3 rfl
  match cs,us,(show cs.length=1 by omega),(show us.length=1 by omega),hr with
  | [c],[u],_,_,hr=>exact hr.1
theorem PRel.len1{xs:List Cel}{u:Value}(h:PRel ρ (false,xs) u):xs.length=1 :=
 match xs,h with
 | [_],_=>rfl
 | [],h=>h.elim
 | _::_::_,h=>h.elim
theorem czu{t:TypeId}{x i:Operand}{ok:Bool}(h:cui P E H t x i ok=some (v,H'))(hx:∀ z,z=x∨z=i→∀ a,E z=some a→VRel ρ a (ev z))(hH:HRel ρ H w)(hd:Dom ρ H.n):Sc H H'∧OpS P ρ ev H w (.lookup t x i ok) v H':=by
 unfold cui at h
 rw [b3j] at h
 split at h
 rotate_left
 ·cases h
 rename_i kt et b k hu hxv hiv
 split at h
 rotate_left
 ·cases h
 rename_i s va vw e c hm
 split at h
 rotate_left
 ·cases h
 rename_i ek G za zc hks hek hz
 rw [Bool.and_eq_true] at hks
 obtain⟨hks,hpl⟩:=hks
 split at h
 rotate_left
 ·cases h
 rename_i zs G' hva hzr
 split at h
 rotate_left
 ·cases h
 rename_i cs hcs
 have hva:=cau hva
 subst hva
 obtain⟨L,hL,hxe⟩:=hx x (.inl rfl) _ hxv
 obtain⟨_,arr,clock,hheap,hc,hrel,hpw⟩:=ccq hH hL hm
 obtain⟨_,hkr⟩:=cq7 hek (hx i (.inr rfl) _ hiv)
 obtain⟨r,hr1,hr2⟩:=cff (P:=P) (w:=w) hks hkr hrel
 obtain⟨z,hz1,hz2⟩:=cf9 (ρ:=ρ) hz
 obtain⟨c1,c2,c3⟩:=cg6 hcs
 have hval:∃ u,PRel ρ (va,cs) u∧((∃ j,r=some (j,u)∧mHas (den ek) (den e).rows=true)∨(r=none∧mHas (den ek) (den e).rows=false∧(zeroValue et).run P w=.ok u w)):=by
  cases hf:fIdx (den ek) (den e).rows with
  | some j =>
   rw [hf] at hr2
   obtain⟨m,g1,g2⟩:=hr2
   obtain⟨row,g3,kr,vr,g4,g5,g6,g7⟩:=hrel.get' j m g1
   obtain⟨dk,rfl,_⟩:=g6.one
   refine⟨m.val,g7.part (f:=fun q=>.ap (.mget q) [e,ek,zs.getD (q - 1) default]) (j:=1) c1 (fun i s' hi=>by rw [c3 i s' hi];simp) (fun i hi=>?_),.inl ⟨j,g2,by rw [chi,hf];rfl⟩⟩
   show mGet (1+i) (den ek) (den (zs.getD (1+i - 1) default)) (den e).rows=_
   rw [cpn hf]
   have:(den e).rows.getD j []=row:=by simp [List.getD_eq_getElem?_getD,g3]
   rw [this,g4]
   obtain⟨us,_,hul,_,hus⟩:=g7
   have hvl:=hus.len
   have e1:[dk]++(vr++[CD.v (.int .i64 m.born)])=dk::(vr++[CD.v (.int .i64 m.born)]):=rfl
   rw [e1,List.getD_eq_getElem?_getD,List.getD_eq_getElem?_getD,show 1+i=i+1 by omega,List.getElem?_cons_succ,List.getElem?_append_left (by omega)]
  | none =>
   rw [hf] at hr2
   refine⟨z,?_,.inr ⟨hr2,by rw [chi,hf];rfl,hz1 w⟩⟩
   obtain⟨us,rfl,hus⟩:=PRel.mkV (ag:=va) hz2
   obtain⟨_,hul,hrow⟩:=cc8 hzr hus
   have hall:All2 (CRel ρ) cs us:=by
    refine c1m (f:=fun q=>.ap (.mget q) [e,ek,zs.getD (q - 1) default]) (j:=1) c1 (fun i s' hi=>by rw [c3 i s' hi];simp) (fun i hi=>?_) hul (RSs.plain hpl hrow)
    show mGet (1+i) (den ek) (den (zs.getD (1+i - 1) default)) (den e).rows=_
    rw [cpm hf,show 1+i - 1=i by omega,co2 zs i (by omega)]
   cases va with
   | true=>exact⟨us.toArray,rfl,by simpa using hall⟩
   | false =>
    have hl1:=PRel.len1 hz2
    have hl2:=hus.length
    have hl3:=hall.length
    match cs,us,(show cs.length=1 by omega),(show us.length=1 by omega),hall with
    | [c],[u],_,_,hall=>exact hall.1
 obtain⟨u,hu1,hu2⟩:=hval
 have hck:∀ e,(Instr.checkKey e 10000 kt (ev i)).run P w=.ok () w:=fun e=>cka hks hkr e 9999
 have hb:∃ bb:Bool,mHas (den ek) (den e).rows=bb∧(Instr.lookup t (ev x) (ev i) ok).run P w=.ok (if ok then .tuple #[u,.bool bb] else u) w:=by
  rcases hu2 with ⟨j,rfl,hb⟩ | ⟨rfl,hb,hz0⟩
  ·refine⟨true,hb,?_⟩
   unfold Instr.lookup
   rw [Sem.run_bind,run_underlying hu,Result.andThen_ok]
   simp only [hxe,Sem.run_bind,b37 hheap,Sem.run_pure,Result.andThen_ok,hck,hr1]
  ·refine⟨false,hb,?_⟩
   unfold Instr.lookup
   rw [Sem.run_bind,run_underlying hu,Result.andThen_ok]
   simp only [hxe,Sem.run_bind,b37 hheap,Sem.run_pure,Result.andThen_ok,hck,hr1,hz0]
 obtain⟨bb,hb1,hb2⟩:=hb
 unfold c71 at h
 cases ok with
 | true =>
  have e1:AV.tup [(va,cs),(false,[.sv .bool [] (.ap .mhas [e,ek])])]=v:=congrArg Prod.fst (Option.some.inj h)
  have e2:H=H':=congrArg Prod.snd (Option.some.inj h)
  rw [← e1,← e2]
  exact⟨Sc.refl _,OpS.val hH hd (u:=.tuple #[u,.bool bb]) ⟨_,rfl,hu1,⟨fun g hg=>(by cases hg),_,(show den (.ap .mhas [e,ek])=.v (.bool bb) by rw [← hb1];rfl),rfl⟩,trivial⟩ fun dst ty pos after guard=>b4u hb2⟩
 | false =>
  simp only at h
  split at h
  ·rename_i v' hv'
   have e1:v'=v:=congrArg Prod.fst (Option.some.inj h)
   have e2:H=H':=congrArg Prod.snd (Option.some.inj h)
   rw [← e1,← e2]
   exact⟨Sc.refl _,OpS.val hH hd (u:=u) (cl2 hv' hu1) fun dst ty pos after guard=>b4u hb2⟩
  ·cases h
theorem HRel.learn1{x:X}(h:HRel ρ H w)(hx:Tru x):HRel ρ (H.learn x) w :=
 ⟨h.rel,h.inj,fun y hy=>by
  rcases List.mem_cons.1 hy with rfl | hy
  ·exact hx
  ·exact h.hy y hy⟩
theorem Sim.learn1{x:X}(h:Sim ρ H w ρ' H' w')(hx:Tru x):Sim ρ H w ρ' (H'.learn x) w' :=
 ⟨h.le,h.grow,h.dom,h.rel.learn1 hx,h.knc,h.fr,h.new,h.size,h.os,h.tape,h.output,h.old,h.jj,h.ro⟩
theorem c4m{t:TypeId}{m k x:Operand}(h:c4l P E H t m k x=some (v,H'))(hx:∀ z,z=m∨z=k∨z=x→∀ a,E z=some a→VRel ρ a (ev z))(hH:HRel ρ H w)(hd:Dom ρ H.n):Sc H H'∧OpS P ρ ev H w (.mapUpdate t m k x) v H':=by
 unfold c4l at h
 rw [b3j] at h
 split at h
 rotate_left
 ·cases h
 rename_i kt et b k0 pa pc hu hmv hkv hxv
 split at h
 rotate_left
 ·cases h
 rename_i s va vw e c hm
 split at h
 rotate_left
 ·cases h
 rename_i ek G vs G' hks hek hvs
 simp only [Option.some.injEq,Prod.mk.injEq] at h
 obtain⟨rfl,rfl⟩:=h
 simp only [Bool.and_eq_true] at hks
 obtain⟨hks,hva,hpl⟩:=hks
 have hva:=cau hva
 subst hva
 obtain⟨L,hL,hme⟩:=hx m (.inl rfl) _ hmv
 obtain⟨hL0,arr,clock,hheap,hc,hrel,hpw⟩:=ccq hH hL hm
 obtain⟨_,hkr⟩:=cq7 hek (hx k (.inr (.inl rfl)) _ hkv)
 obtain⟨xv,hxv,hpart⟩:=b3h hxv
 have hpr:=b6v hpart (hx x (.inr (.inr rfl)) _ hxv)
 obtain⟨us,hux,hus⟩:=PRel.mkV (ag:=va) hpr
 obtain⟨_,hul,hrow⟩:=cc8 hvs hus
 have hrow:=RSs.plain (m':=fun _ _=>False) hpl hrow
 have hvl:=hrow.len
 have hval:PlR va vw (denL vs) (ev x):=by
  refine⟨us,by rw [hux,dbz],hul,fun hf=>?_,hrow⟩
  subst hf
  have:=PRel.len1 hpr
  have:=hus.length
  omega
 have hkey:PlR false [s] [den ek] (ev k):=⟨[ev k],rfl,rfl,fun _=>rfl,den ek,[],ev k,rfl,rfl,RS.plain (ckb hks) hkr,rfl⟩
 have hck:∀ e,(Instr.checkKey e 10000 kt (ev k)).run P w=.ok () w:=fun e=>cka hks hkr e 9999
 obtain⟨r,hr1,hr2⟩:=cff (P:=P) (w:=w) hks hkr hrel
 have hden:(den (.ap .mput (e::c::ek::vs))).rows=mPut (den ek) (denL vs) (den c) (den e).rows:=rfl
 have hdenc:den (.ap .ite [.ap .mhas [e,ek],c,.ap (.add .i64) [c,.lit (.int .i64 1)]])=if mHas (den ek) (den e).rows then den c else vInt .i64 ((den c).iv+1):=rfl
 have core:∀ arr' clock',(Instr.mapUpdate t (ev m) (ev k) (ev x)).run P w=.ok () (w.putObj L.B (.map arr' clock'))→den (.ap .ite [.ap .mhas [e,ek],c,.ap (.add .i64) [c,.lit (.int .i64 1)]])=.v (.int .i64 (clock':Nat))→cxf [s] va vw (mPut (den ek) (denL vs) (den c) (den e).rows) arr'.toList clock' →
   Sc H (H.obj b (.mx [s] va vw (.ap .mput (e::c::ek::vs)) (.ap .ite [.ap .mhas [e,ek],c,.ap (.add .i64) [c,.lit (.int .i64 1)]])))∧OpS P ρ ev H w (.mapUpdate t m k x) b5a (H.obj b (.mx [s] va vw (.ap .mput (e::c::ek::vs)) (.ap .ite [.ap .mhas [e,ek],c,.ap (.add .i64) [c,.lit (.int .i64 1)]]))):=by
  intro arr' clock' hrun hcl hrel'
  refine⟨(St.obj _ _ _).sc,fun dst ty pos after guard=>?_⟩
  have:(execOp ev ⟨dst,.mapUpdate t m k x,ty,pos,after,guard⟩).run P w=.ok .skip _:=cw0 hrun
  rw [this]
  exact⟨ρ,b6l ρ,Sim.put1 hH hd hL (chm hm) hheap (fun _ _ _ h=>by cases h) ⟨rfl,hL0,arr',clock',World.putObj_heap_same (Array.getElem?_eq_some_iff.1 hheap).1,hcl,by rw [hden];exact hrel'⟩⟩
 cases hf:fIdx (den ek) (den e).rows with
 | some j =>
  rw [hf] at hr2
  obtain⟨me,g1,rfl⟩:=hr2
  have g1':arr[j]? = some me:=by rw [← Array.getElem?_toList];exact g1
  obtain⟨row,g3,kr,vr,g4,g5,g6,g7⟩:=hrel.get' j me g1
  obtain⟨dk,rfl,hdk⟩:=g6.one
  have heq:eqC (den ek) dk=true:=by
   have:=cyl hf
   rw [g3] at this
   rw [g4] at this
   exact this
  have hbits:=cy1 hks hkr hdk heq
  have hstay:(Instr.keyThatStays (((arr[j]?).map (·.key)).getD (ev k)) (ev k)).run P w=.ok (ev k) w:=by
   simp [Instr.keyThatStays,g1',hbits]
  refine core (arr.modify j fun e=>{ e with key:=ev k,val:=ev x }) clock ?_ ?_ ?_
  ·unfold Instr.mapUpdate
   rw [Sem.run_bind,run_underlying hu,Result.andThen_ok]
   simp only [hme,Sem.run_bind,b37 hheap,Result.andThen_ok,hck,hr1,hstay,b5o _ hheap]
  ·rw [hdenc,chi,hf]
   exact hc
  ·have hms:(arr.modify j fun e=>{ e with key:=ev k,val:=ev x }).toList=arr.toList.set j { me with key:=ev k,val:=ev x }:=by
    rw [Array.toList_modify,List.modify_eq_set]
    simp [g1']
   have hrs:mPut (den ek) (denL vs) (den c) (den e).rows=(den e).rows.set j (den ek::(denL vs++row.drop (1+(denL vs).length))):=by
    rw [cpq hf,List.modify_eq_set]
    simp [g3]
   rw [hms,hrs]
   have hrr:den ek::(denL vs++row.drop (1+(denL vs).length))=[den ek]++(denL vs++[CD.v (.int .i64 me.born)]):=by
    rw [g4]
    obtain⟨us',_,hul',_,hus'⟩:=g7
    have hvl':=hus'.len
    have hl:(denL vs).length=vr.length:=by omega
    rw [hl]
    show den ek::(denL vs++(dk::(vr++[CD.v (.int .i64 me.born)])).drop (1+vr.length))=den ek::(denL vs++[CD.v (.int .i64 me.born)])
    rw [Nat.add_comm,List.drop_succ_cons,List.drop_left]
   refine⟨hrel.set ⟨[den ek],denL vs,hrr,g5,hkey,hval⟩ j,?_⟩
   ·have hg:∀ (i:Nat) (m':MapEntry),(arr.toList.set j { me with key:=ev k,val:=ev x })[i]? = some m'→∃ m0:MapEntry,arr.toList[i]? = some m0∧m0.born=m'.born:=by
     intro i m' hi
     by_cases hij:i=j
     ·subst hij
      have hlt:=(List.getElem?_eq_some_iff.1 g1).1
      rw [List.getElem?_set_self hlt] at hi
      cases hi
      exact⟨me,g1,rfl⟩
     ·rw [List.getElem?_set_ne (Ne.symm hij)] at hi
      exact⟨m',hi,rfl⟩
    rw [List.pairwise_iff_getElem] at hpw ⊢
    intro i i' hi hi' hlt
    obtain⟨m0,k1,k2⟩:=hg i _ (List.getElem?_eq_getElem hi)
    obtain⟨m1,k3,k4⟩:=hg i' _ (List.getElem?_eq_getElem hi')
    obtain⟨l1,e1⟩:=List.getElem?_eq_some_iff.1 k1
    obtain⟨l2,e2⟩:=List.getElem?_eq_some_iff.1 k3
    have:=hpw i i' l1 l2 hlt
    rw [e1,e2,k2,k4] at this
    exact this
 | none =>
  rw [hf] at hr2
  subst hr2
  refine core (arr.push { key:=ev k,val:=ev x,born:=clock }) (clock+1) ?_ ?_ ?_
  ·unfold Instr.mapUpdate
   rw [Sem.run_bind,run_underlying hu,Result.andThen_ok]
   simp only [hme,Sem.run_bind,b37 hheap,Result.andThen_ok,hck,hr1,b5o _ hheap]
  ·rw [hdenc,chi,hf,hc]
   rfl
  ·rw [cpo hf,Array.toList_push,hc]
   refine⟨(hrel.mono fun row m' ⟨kr,vr,q1,q2,q3,q4⟩=>⟨kr,vr,q1,by omega,q3,q4⟩).append ⟨⟨[den ek],denL vs,rfl,Nat.lt_succ_self _,hkey,hval⟩,trivial⟩,?_⟩
   rw [List.pairwise_append]
   refine⟨hpw,List.pairwise_singleton _ _,fun a ha b' hb'=>?_⟩
   rw [List.mem_singleton.1 hb']
   obtain⟨i,hi⟩:=List.getElem?_of_mem ha
   obtain⟨row,_,kr,vr,_,q2,_⟩:=hrel.get' i a hi
   exact q2
theorem cjv{kr vr:List CD}{n:Nat}:cb6 (kr++(vr++[CD.v (.int .i64 n)]))=.v (.int .i64 n):=by
 unfold cb6
 rw [← List.append_assoc,List.getLast?_append]
 rfl
theorem cxf.mok{kw:List Srt}{va:Bool}{vw:List Srt}{rows:List (List CD)}{ms:List MapEntry}{clock:Nat}(h:cxf kw va vw rows ms clock):MOk rows clock:=by
 obtain⟨h1,h2⟩:=h
 have hb:∀ (i:Nat) (r:List CD),rows[i]? = some r→∃ m:MapEntry,ms[i]? = some m∧cb6 r=.v (.int .i64 m.born)∧m.born<clock:=by
  intro i r hr
  obtain⟨m,g1,kr,vr,g2,g3,_⟩:=h1.get i r hr
  exact⟨m,g1,by rw [g2];exact cjv,g3⟩
 refine⟨?_,fun r hr=>?_⟩
 ·rw [List.pairwise_iff_getElem] at h2 ⊢
  intro i j hi hj hlt
  obtain⟨m,g1,g2,_⟩:=hb i _ (List.getElem?_eq_getElem hi)
  obtain⟨m',g3,g4,_⟩:=hb j _ (List.getElem?_eq_getElem hj)
  obtain⟨l1,e1⟩:=List.getElem?_eq_some_iff.1 g1
  obtain⟨l2,e2⟩:=List.getElem?_eq_some_iff.1 g3
  have:=h2 i j l1 l2 hlt
  rw [e1,e2] at this
  rw [g2,g4]
  show(m.born:Int)<m'.born
  omega
 ·obtain⟨i,hi⟩:=List.getElem?_of_mem hr
  obtain⟨m,_,g2,g3⟩:=hb i r hi
  exact⟨m.born,g2,by omega⟩
theorem cwu{t:TypeId}{x:Operand}(h:cnb P E H t x=some (v,H'))(hx:∀ a,E x=some a→VRel ρ a (ev x))(hH:HRel ρ H w)(hd:Dom ρ H.n):Sc H H'∧OpS P ρ ev H w (.range t x) v H':=by
 unfold cnb at h
 rw [b3j] at h
 split at h
 rotate_left
 ·cases h
 rename_i kt et b hu hxv
 split at h
 rotate_left
 ·cases h
 rename_i kw va vw e c hm
 simp only [Option.some.injEq,Prod.mk.injEq] at h
 obtain⟨rfl,rfl⟩:=h
 obtain⟨L,hL,hv⟩:=hx _ hxv
 obtain⟨_,arr,clock,hheap,hc,hrel⟩:=ccq hH hL hm
 have hsc:=(St.push H (.lf [some (.ix b (nilE false) c)])).sc
 refine⟨⟨hsc.1,hsc.2.1,hsc.2.2⟩,fun dst ty pos after guard=>?_⟩
 have hrun:(Instr.range t (ev x)).run P w=.ok (.pointer (some ⟨w.heap.size,0,none⟩)) (w.alloc (.mapIter (some L.B) clock #[] clock)):=by
  simp only [Instr.range,hv,Sem.run_bind,run_underlying hu,Result.andThen_ok,b37 hheap,Sem.run_pure,run_newObj_alloc]
 have hrun':(execOp ev ⟨dst,.range t x,ty,pos,after,guard⟩).run P w=.ok (.value (.pointer (some ⟨w.heap.size,0,none⟩))) (w.alloc (.mapIter (some L.B) clock #[] clock)):=b4u hrun
 rw [hrun']
 have hle:PM.le ρ (upd ρ H.n ⟨w.heap.size,0,0,none⟩):=b8f (hd _ (Nat.le_refl _))
 refine⟨upd ρ H.n ⟨w.heap.size,0,0,none⟩,⟨⟨w.heap.size,0,0,none⟩,upd_same _ _ _,rfl⟩,(Sim.alloc hH hd rfl rfl fun i c' hc'=>?_).learn1 ?_⟩
 ·cases i with
  | zero =>
   cases hc'
   exact⟨rfl,rfl,L,clock,[],hle _ _ hL,by rw [heap_alloc,if_pos rfl],hc,rfl⟩
  | succ i=>cases (show(none:Option Ct)=some c' from hc')
 ·show @decide (MOk (den e).rows (den c).iv) (Classical.propDecidable _)=true
  have:(den c).iv=clock:=by rw [hc];rfl
  rw [this]
  exact @decide_eq_true _ (Classical.propDecidable _) hrel.mok
theorem c3k{i e:X}(hh:Holds H.hy)(h:c7u H.hy i e=true):0≤(den i).iv∧(den i).iv.toNat<(den e).rows.length:=by
 unfold c7u at h
 split at h
 ·rename_i h1 h2
  have k1:=b61 hh h1
  have k2:=b61 hh h2
  have k1:decide ((0:Int)≤(den i).iv)=true:=k1
  have k2:decide ((den i).iv<((den e).rows.length:Int))=true:=k2
  have k1:=of_decide_eq_true k1
  have k2:=of_decide_eq_true k2
  exact⟨k1,by omega⟩
 ·cases h
theorem cqr{s:Srt}{va:Bool}{vw:List Srt}{e i:X}{m:MapEntry}{kr vr:List CD}{n:Nat}(hrow:(den e).rows[(den i).iv.toNat]? = some (kr++(vr++[CD.v (.int .i64 n)])))(hk:PlR false [s] kr m.key)(hv:PlR va vw vr m.val) :
  PRel ρ (false,[.sv s [] (.ap (.cell 0) [e,i])]) m.key∧PRel ρ (va,b9d e i 1 vw) m.val:=by
 obtain⟨dk,rfl,hdk⟩:=hk.one
 have hg:∀ j,den (.ap (.cell j) [e,i])=(([dk]++(vr++[CD.v (.int .i64 n)])):List CD).getD j default:=fun j=>by
  show((den e).rows.getD (den i).iv.toNat []).getD j default=_
  rw [List.getD_eq_getElem?_getD (l:=(den e).rows),hrow]
  rfl
 refine⟨⟨fun g hg=>(by cases hg),?_⟩,PlR.part hv (f:=fun q=>.ap (.cell q) [e,i]) (j:=1) (cik _ _ _ _) (fun k s' hk=>cij e i vw 1 k s' hk) fun k hk=>?_⟩
 ·rw [hg]
  exact hdk.mono fun _ _ h=>h.elim
 ·rw [hg]
  obtain⟨us,_,hul,_,hus⟩:=hv
  have:=hus.len
  show(dk::(vr++[CD.v (.int .i64 n)])).getD (1+k) default=_
  rw [List.getD_eq_getElem?_getD,List.getD_eq_getElem?_getD,show 1+k=k+1 by omega,List.getElem?_cons_succ,List.getElem?_append_left (by omega)]
theorem ct2{b m:Nat}{s c:X}{L:Loc}(hH:HRel ρ H w)(hL:ρ b=some L)(h:ixAt H b=some (m,s,c)):L.o=0∧∃ K since seen,ρ m=some K∧w.heap[L.B]? = some (.mapIter (some K.B) since (List.toArray seen) since)∧den c=.v (.int .i64 since)∧(den s).rows=seen.map fun n:Nat=>[.v (.int .i64 n)]:=by
 obtain⟨_,h1,h2⟩:=hH.rel b 0 _ L (b9b (chc h)).1 hL
 exact⟨h1,h2⟩
theorem int_inj{a b:Nat}(h:CD.v (.int .i64 a)=CD.v (.int .i64 b)):a=b:=by
 simp only [CD.v.injEq,Value.int.injEq,true_and] at h
 omega
theorem find_born{ms:List MapEntry}(hp:ms.Pairwise fun a b=>a.born<b.born){i:Nat}{m:MapEntry}(h:ms[i]? = some m):ms.find? (fun e=>e.born==m.born)=some m:=by
 induction ms generalizing i with
 | nil=>simp at h
 | cons x ms ih =>
  rw [List.pairwise_cons] at hp
  cases i with
  | zero =>
   simp only [List.getElem?_cons_zero,Option.some.injEq] at h
   subst h
   simp
  | succ i =>
   simp only [List.getElem?_cons_succ] at h
   have:=hp.1 m (List.mem_of_getElem? h)
   rw [List.find?_cons_of_neg (by simp;omega)]
   exact ih hp.2 h
theorem cwq{x:Operand}(h:cm5 E H x=some (v,H'))(hx:∀ a,E x=some a→VRel ρ a (ev x))(hH:HRel ρ H w)(hd:Dom ρ H.n):Sc H H'∧OpS P ρ ev H w (.entry x) v H':=by
 unfold cm5 at h
 split at h
 rotate_left
 ·cases h
 rename_i b hxv
 split at h
 rotate_left
 ·cases h
 rename_i m s0 j e' i c hix
 split at h
 rotate_left
 ·cases h
 rename_i s va vw e c' hm
 split at h
 rotate_left
 ·cases h
 rename_i hok
 have e1:AV.tup [(false,[.sv s [] (.ap (.cell 0) [e,i])]),(va,b9d e i 1 vw)]=v:=congrArg Prod.fst (Option.some.inj h)
 have e2:H=H':=congrArg Prod.snd (Option.some.inj h)
 rw [← e1,← e2]
 simp only [Bool.and_eq_true] at hok
 obtain⟨q1,q2,q3,q4⟩:=hok
 have q1:=b3n q1
 have q2:=b3n q2
 have q3:=Nat.eq_of_beq_eq_true q3
 subst q1
 subst q2
 obtain⟨L,hL,hv⟩:=hx _ hxv
 obtain⟨hL0,K,since,seen,hK,hih,hci,hsr⟩:=ct2 hH hL hix
 obtain⟨_,arr,clock,hheap,hc,hrel,hpw⟩:=ccq hH hK hm
 have hcs:clock=since:=int_inj (hc.symm.trans hci)
 obtain⟨hi0,hilt⟩:=c3k hH.hy q4
 obtain⟨me,g1,kr,vr,g2,g3,g4,g5⟩:=hrel.get _ _ (List.getElem?_eq_getElem hilt)
 have hrow:(den e').rows[(den i).iv.toNat]? = some (kr++(vr++[CD.v (.int .i64 me.born)])):=by rw [List.getElem?_eq_getElem hilt,g2]
 obtain⟨k1,k2⟩:=cqr (ρ:=ρ) hrow g4 g5
 have hborn:den (.ap (.cell j) [e',i])=.v (.int .i64 me.born):=by
  show((den e').rows.getD (den i).iv.toNat []).getD j default=_
  rw [List.getD_eq_getElem?_getD (l:=(den e').rows),hrow]
  obtain⟨dk,rfl,_⟩:=g4.one
  obtain⟨us,_,hul,_,hus⟩:=g5
  have:=hus.len
  show(dk::(vr++[CD.v (.int .i64 me.born)])).getD j default=_
  rw [q3,List.getD_eq_getElem?_getD,show Nat.succ vw.length=vw.length+1 from rfl,List.getElem?_cons_succ,List.getElem?_append_right (by omega)]
  simp [show vw.length - vr.length=0 by omega]
 have hsn:(den (.ap .snoc [s0,.ap (.cell j) [e',i]])).rows=(den s0).rows++[[.v (.int .i64 me.born)]]:=by
  show(den s0).rows++[[den (.ap (.cell j) [e',i])]]=_
  rw [hborn]
 rw [hsn] at hsr
 have hlast:seen.getLast? = some me.born:=by
  have h1:(seen.map fun n:Nat=>[CD.v (.int .i64 n)]).getLast? = some [.v (.int .i64 me.born)]:=by
   rw [← hsr,List.getLast?_append]
   rfl
  rw [List.getLast?_map] at h1
  cases hl:seen.getLast? with
  | none=>rw [hl] at h1;cases h1
  | some n =>
   rw [hl] at h1
   simp only [Option.map_some,Option.some.injEq,List.cons.injEq,and_true] at h1
   rw [int_inj h1]
 have hfind:arr.find? (fun e=>e.born==me.born)=some me:=by
  rw [← Array.find?_toList]
  exact find_born hpw g1
 have hgi:=b6k (P:=P) hih (fun _ _ _ h=>by cases h)
 have hgm:=b37 (P:=P) hheap
 have hrun:(Instr.entry (ev x)).run P w=.ok (.tuple #[me.key,me.val]) w:=by
  rw [hv,hL0]
  simp only [Instr.entry,Sem.run_bind,Nat.zero_add,hgi,Result.andThen_ok,List.back?_toArray,hlast,hgm,hcs,bne_self_eq_false,Bool.false_eq_true,if_false,Sem.run_pure,hfind]
 exact⟨Sc.refl _,OpS.val hH hd (u:=.tuple #[me.key,me.val]) ⟨_,rfl,k1,k2,trivial⟩ fun dst ty pos after guard=>b4u hrun⟩
end
section
variable {P:Program} [Plain P] {E:Operand→Option AV} {H H':HP} {w w':World} {ρ ρ':PM} {ev:Operand→Value}
@[reducible] noncomputable def Sg.more (σ:Sg) (k:Nat) (d:CD):Sg:={ toUs:=σ.toUs,v:=fun n=>if n=k then d else σ.v n }
theorem c3c(σ:Sg)(k:Nat)(d:CD):Ext k σ (σ.more k d):=⟨rfl,fun n hn=>by
 show(if n=k then d else σ.v n)=σ.v n
 rw [if_neg (by omega)]⟩
theorem cub{n:Nat}{seen:List Nat}:mIn (.v (.int .i64 n)) (seen.map fun k:Nat=>[CD.v (.int .i64 k)])=seen.contains n:=by
 unfold mIn
 induction seen with
 | nil=>rfl
 | cons x l ih =>
  simp only [List.map_cons,List.any_cons,List.contains_cons,ih]
  congr 1
  show decide ((n:Int)=x)=(n==x)
  rw [Bool.eq_iff_iff,decide_eq_true_eq,beq_iff_eq]
  omega
theorem cp5{x:Operand}{outs:List (AV×HP)}(h:czw E H x=some outs):(∀ o∈outs,Sc H o.2)∧∀ (σ:Sg),(∀ a,E x=some a→@VRel σ ρ a (ev x))→@HRel σ ρ H w→Dom ρ H.n→∀ (dst:Option Tmp) (ty:TypeId) (pos:String) (after:Array Edge) (guard:Option (Nat×Bool)),b4n P (cod σ ρ H w outs) ((execOp ev ⟨dst,.next x false,ty,pos,after,guard⟩).run P w):=by
 unfold czw at h
 split at h
 rotate_left
 ·cases h
 rename_i b hxv
 split at h
 rotate_left
 ·cases h
 rename_i m s c hix
 split at h
 rotate_left
 ·cases h
 rename_i ks va vw e c' hm
 split at h
 rotate_left
 ·cases h
 rename_i hok
 rw [Bool.and_eq_true] at hok
 obtain⟨q1,q2⟩:=hok
 have q1:=b3n q1
 subst q1
 have houts:=Option.some.inj h
 rw [← houts]
 refine⟨fun o ho=>?_,fun σ hx hH hd dst ty pos after guard=>?_⟩
 ·rcases List.mem_cons.1 ho with rfl | ho
  ·exact @Sc.refl sg0 H
  ·rw [List.mem_singleton.1 ho]
   have hsc:=@St.sc sg0 _ _ (@St.obj sg0 H b (.ix m (.ap .snoc [s,.ap (.cell (Nat.succ vw.length)) [e,.var H.nv]]) c))
   exact⟨hsc.1,hsc.2.1,Nat.le_succ _⟩
 ·obtain⟨L,hL,hv⟩:=hx _ hxv
  obtain⟨hL0,K,since,seen,hK,hih,hci,hsr⟩:=@ct2 σ _ _ _ _ _ _ _ _ hH hL hix
  obtain⟨_,arr,clock,hheap,hc,hrel,hpw⟩:=@ccq σ _ _ _ _ _ _ _ _ _ _ hH hK hm
  have hcs:clock=since:=int_inj (hc.symm.trans hci)
  subst hcs
  have hgi:=b6k (P:=P) hih (fun _ _ _ h=>by cases h)
  have hgm:=b37 (P:=P) hheap
  have hlt:∀ m'∈arr.toList,m'.born<clock:=by
   intro m' hm'
   obtain⟨i,hi⟩:=List.getElem?_of_mem hm'
   obtain⟨row,_,kr,vr,_,q,_⟩:=All2.get' hrel i m' hi
   exact q
  have hcond:(!(List.toArray seen).isEmpty&&!arr.isEmpty&&arr.all fun e=>decide (e.born≥clock))=false:=by
   cases he:arr.isEmpty with
   | true=>simp
   | false =>
    have:arr.all (fun e=>decide (e.born≥clock))=false:=by
     rw [Bool.eq_false_iff]
     intro hall
     rw [← Array.all_toList,List.all_eq_true] at hall
     cases hl:arr.toList with
     | nil =>
      have:arr = #[]:=by rw [← Array.toList_inj,hl]
      rw [this] at he
      cases he
     | cons a r =>
      have h1:=hall a (by rw [hl];exact List.mem_cons_self ..)
      have h2:=hlt a (by rw [hl];exact List.mem_cons_self ..)
      simp only [decide_eq_true_eq] at h1
      omega
    rw [this,Bool.and_false]
  generalize hC:((if((arr.filter fun e=>!(List.toArray seen).contains e.born).filter fun e=>decide (e.born<clock)).isEmpty then #[none] else #[]) ++
   ((arr.filter fun e=>!(List.toArray seen).contains e.born).filter (fun e=>decide (e.born<clock))++(arr.filter fun e=>!(List.toArray seen).contains e.born).filter fun e=>decide (e.born≥clock)).map some:Array (Option MapEntry))=C
  have hsz:0<C.size:=by
   rw [← hC]
   by_cases he:((arr.filter fun e=>!(List.toArray seen).contains e.born).filter fun e=>decide (e.born<clock)).isEmpty=true
   ·rw [if_pos he];simp only [Array.size_append,List.size_toArray,List.length_cons,List.length_nil];omega
   ·rw [if_neg he]
    have:0<((arr.filter fun e=>!(List.toArray seen).contains e.born).filter fun e=>decide (e.born<clock)).size:=by
     rw [Array.isEmpty_iff_size_eq_zero] at he
     omega
    simp only [Array.size_append,Array.size_map]
    omega
  obtain⟨k,w1,hk,hch,hw1⟩:∃ k w1,k<C.size∧(choose (.mapNext C.size)).run P w=.ok k w1∧(w1=w∨w1=w.drew):=by
   rw [run_choose_drew]
   by_cases hf:(Question.mapNext C.size).forced=true
   ·rw [if_pos hf];exact⟨0,w,hsz,rfl,.inl rfl⟩
   ·rw [if_neg hf];exact⟨_,w.drew,Nat.mod_lt _ hsz,rfl,.inr rfl⟩
  have hs1:@Sim σ ρ H w ρ H w1:=by
   rcases hw1 with rfl | rfl
   ·exact @Sim.refl σ _ _ _ hH hd
   ·exact @Sim.same σ _ _ _ _ hH hd rfl rfl rfl rfl
  have hs1f:=@Sim.f σ _ _ _ _ _ _ hs1
  have hrel1:=@Sim.rel σ _ _ _ _ _ _ hs1
  have hheap1:w1.heap=w.heap:=by rcases hw1 with rfl | rfl<;>rfl
  have hCk:C[k]? = some C[k]:=Array.getElem?_eq_getElem hk
  have hrun:∀ u w2,(match C[k]? with
    | some (some e)=>do setObj L.B (.mapIter (some K.B) clock ((List.toArray seen).push e.born) clock);pure (.tuple #[.bool true,e.key,e.val])
    | some none=>pure (.tuple #[.bool false])
    | none=>stuck "Next: no such candidate" : Sem Value).run P w1=.ok u w2→(execOp ev ⟨dst,.next x false,ty,pos,after,guard⟩).run P w=.ok (.value u) w2:=by
   intro u w2 h
   refine b4u ?_
   rw [hv,hL0]
   simp only [Instr.next,Sem.run_bind,Nat.zero_add,hgi,Result.andThen_ok,hgm,hcond,Bool.false_eq_true,if_false,Sem.run_pure,hC,hch]
   exact h
  rw [hCk] at hrun
  have hmemC:∀ y,C[k]=y→y∈C.toList:=fun y hy=>by rw [← hy,Array.mem_toList_iff];exact Array.getElem_mem hk
  have hmemC:=hmemC _ rfl
  generalize hyy:C[k]=yy at hmemC hrun
  rw [← hC] at hmemC
  simp only [Array.toList_append,List.mem_append,Array.toList_map,Array.toList_filter,List.mem_map,List.mem_filter] at hmemC
  cases yy with
  | none =>
   have hall:∀ m'∈arr.toList,seen.contains m'.born=true:=by
    rcases hmemC with hmemC | ⟨a,_,ha⟩
    ·intro m' hm'
     split at hmemC
     ·rename_i he
      cases hcon:seen.contains m'.born with
      | true=>rfl
      | false =>
       exfalso
       have:m'∈((arr.filter fun e=>!(List.toArray seen).contains e.born).filter fun e=>decide (e.born<clock)).toList:=by
        simp only [Array.toList_filter,List.mem_filter,decide_eq_true_eq,Bool.not_eq_true']
        exact⟨⟨hm',by simpa using hcon⟩,hlt m' hm'⟩
       rw [Array.isEmpty_iff] at he
       rw [he] at this
       cases this
     ·cases hmemC
    ·cases ha
   rw [hrun _ w1 rfl]
   refine⟨_,List.mem_cons_self ..,σ,Ext.refl _ _,ρ,⟨_,rfl,⟨rfl,rfl⟩,trivial⟩,⟨hs1f.le,hs1f.grow,hs1f.dom,hs1f.knc,hs1f.fr,hs1f.new,hs1f.size,hs1f.os,hs1f.tape,hs1f.output,hs1f.old,hs1f.jj,hs1f.ro⟩,@HRel.learn1 σ _ _ _ _ hrel1 ?_⟩
   show((@den σ e).rows.all fun r=>mIn (cb6 r) (@den σ s).rows)=true
   rw [List.all_eq_true]
   intro r hr
   obtain⟨i,hi⟩:=List.getElem?_of_mem hr
   obtain⟨m',g1,kr,vr,g2,_⟩:=All2.get hrel i r hi
   rw [g2,cjv,hsr,cub]
   exact hall m' (List.mem_of_getElem? g1)
  | some me =>
   have hme:me∈arr.toList∧seen.contains me.born=false:=by
    rcases hmemC with hmemC | ⟨a,ha,ha2⟩
    ·split at hmemC
     ·simp at hmemC
     ·cases hmemC
    ·cases ha2
     rcases ha with ⟨⟨h1,h2⟩,_⟩ | ⟨⟨h1,h2⟩,_⟩
     ·exact⟨h1,by simpa using h2⟩
     ·exact⟨h1,by simpa using h2⟩
   obtain⟨i,hi⟩:=List.getElem?_of_mem hme.1
   obtain⟨row,hrow,kr,vr,g2,g3,g4,g5⟩:=All2.get' hrel i me hi
   have hilt:=(List.getElem?_eq_some_iff.1 hrow).1
   let σ':=σ.more H.nv (.v (.int .i64 i))
   have hext:Ext H.nv σ σ':=c3c σ H.nv _
   unfold cqt at q2
   have hsc0:cqt H=true:=q2
   rw [Bool.and_eq_true] at q2
   have hcell:=fun(b:Nat) (x:Ct) (hb:H.t.get b=some (.lf [some x]))=>b9f (b7y q2.1 b _ hb) 0 x rfl
   have scx:=hcell b _ (chc hix)
   have scm:=hcell m _ (chm hm)
   simp only [cag,Bool.and_eq_true] at scx scm
   have hde:@den σ' e=@den σ e:=b5j hext e scm.1
   have hds:@den σ' s=@den σ s:=b5j hext s scx.1
   have hdc:@den σ' c=@den σ c:=b5j hext c scx.2
   have hvar:@den σ' (.var H.nv)=.v (.int .i64 i):=if_pos rfl
   have hvi:(@den σ' (.var H.nv)).iv=i:=by rw [hvar];rfl
   have hH1:@HRel σ' ρ H w1:=HRel.ext hext hsc0 hrel1
   have hrow':(@den σ' e).rows[(@den σ' (.var H.nv)).iv.toNat]? = some (kr++(vr++[CD.v (.int .i64 me.born)])):=by
    rw [hvi,hde,Int.toNat_natCast,hrow,g2]
   have hparts:=@cqr σ' ρ ks va vw e (.var H.nv) me kr vr me.born hrow' g4 g5
   have hborn:@den σ' (.ap (.cell (Nat.succ vw.length)) [e,.var H.nv])=.v (.int .i64 me.born):=by
    show((@den σ' e).rows.getD (@den σ' (.var H.nv)).iv.toNat []).getD (Nat.succ vw.length) default=_
    rw [List.getD_eq_getElem?_getD (l:=(@den σ' e).rows),hrow']
    obtain⟨dk,rfl,_⟩:=@PlR.one _ _ _ g4
    obtain⟨us,_,hul,_,hus⟩:=g5
    have:=hus.len
    show(dk::(vr++[CD.v (.int .i64 me.born)])).getD (vw.length+1) default=_
    rw [List.getD_eq_getElem?_getD,List.getElem?_cons_succ,List.getElem?_append_right (by omega)]
    simp [show vw.length - vr.length=0 by omega]
   have hset:=b8o (P:=P) (w:=w1) (r:=L.B) (.mapIter (some K.B) clock ((List.toArray seen).push me.born) clock) (by rw [hheap1];exact hih) (fun _ _ _ h=>by cases h)
   rw [hrun (.tuple #[.bool true,me.key,me.val]) (w1.putObj L.B (.mapIter (some K.B) clock ((List.toArray seen).push me.born) clock)) (by simp only [Sem.run_bind,hset,Result.andThen_ok,Sem.run_pure])]
   have hltL:L.B<w1.heap.size:=by rw [hheap1];exact(Array.getElem?_eq_some_iff.1 hih).1
   have hs2:@Sim σ' ρ H w1 ρ (H.obj b (.ix m (.ap .snoc [s,.ap (.cell (Nat.succ vw.length)) [e,.var H.nv]]) c)) (w1.putObj L.B (.mapIter (some K.B) clock ((List.toArray seen).push me.born) clock)):=by
    refine @Sim.put1 σ' _ _ _ _ _ _ _ _ _ hH1 hd hL (chc hix) (by rw [hheap1];exact hih) (fun _ _ _ h=>by cases h) ?_
    refine⟨rfl,hL0,K,clock,seen++[me.born],hK,?_,by rw [hdc];exact hci,?_⟩
    ·rw [World.putObj_heap_same hltL]
     simp
    ·show(@den σ' s).rows++[[@den σ' (.ap (.cell (Nat.succ vw.length)) [e,.var H.nv])]]=_
     rw [hborn,hds,hsr]
     simp
   have hs2f:=@Sim.f σ' _ _ _ _ _ _ hs2
   have hs2r:=@Sim.rel σ' _ _ _ _ _ _ hs2
   have hall:=@SimF.trans σ _ _ _ _ _ _ _ _ _ hd hs1f hs2f
   refine⟨_,List.mem_cons_of_mem _ (List.mem_singleton.2 rfl),σ',hext,ρ,⟨_,rfl,⟨rfl,rfl⟩,hparts.1,hparts.2,trivial⟩,⟨hall.le,hall.grow,hall.dom,hall.knc,hall.fr,hall.new,hall.size,hall.os,hall.tape,hall.output,hall.old,hall.jj,hall.ro⟩,@HRel.mk σ' _ _ _ (fun b' i' c' L' hc' hL'=>@HRel.rel σ' _ _ _ hs2r b' i' c' L' hc' hL') (fun b1 b2 L1 L2 h1 h2=>@HRel.inj σ' _ _ _ hs2r b1 b2 L1 L2 h1 h2) fun y hy=>?_⟩
   rcases List.mem_cons.1 hy with rfl | hy
   ·show decide ((0:Int)≤(@den σ' (.var H.nv)).iv)=true
    rw [hvi]
    exact decide_eq_true (by omega)
   ·rcases List.mem_cons.1 hy with rfl | hy
    ·show decide ((@den σ' (.var H.nv)).iv<(((@den σ' e).rows.length:Nat):Int))=true
     rw [hvi,hde]
     exact decide_eq_true (by omega)
    ·rcases List.mem_cons.1 hy with rfl | hy
     ·show(!mIn (@den σ' (.ap (.cell (Nat.succ vw.length)) [e,.var H.nv])) (@den σ' s).rows)=true
      rw [hborn,hds,hsr,cub,hme.2]
      rfl
     ·exact @HRel.hy σ' _ _ _ hH1 y hy
end
noncomputable def rv1(x:R):RV:=match x with
 | some y=>some ([],[y])
 | none=>none
noncomputable def opV(P:Program)[Plain P](orv:OraV)(E:Operand→Option AV)(H:HP)(op:Op):RV :=
 match op with
 | .call c=>match c.callee with
  | .value f=>czo orv E H f c.args
  | _=>none
 | .lookup t x i ok=>rv1 (cui P E H t x i ok)
 | .mapUpdate t m k x=>rv1 (c4l P E H t m k x)
 | .range t x=>rv1 (cnb P E H t x)
 | .entry x=>rv1 (cm5 E H x)
 | .next x false=>match czw E H x with
  | some l=>some ([],l)
  | none=>none
 | _=>none
theorem c6u{P:Program}[Plain P]{orv:OraV}{U:Us}(ho:b9q U P orv){E:Operand→Option AV}{H:HP}{op:Op}{v:List VC}{outs:List (AV×HP)}(h:opV P orv E H op=some (v,outs))(hv:∀ z∈v,VCok U z) :
  (∀ c,op≠.defer c)∧(∀ o∈outs,Sc H o.2)∧∀ (σ:Sg),σ.toUs=U→∀ {ρ:PM} {w:World} {ev:Operand→Value},(∀ x∈op.operands,∀ a,E x=some a→@VRel σ ρ a (ev x))→@HRel σ ρ H w→Dom ρ H.n→J ρ H w →
   ∀ (dst:Option Tmp) (ty:TypeId) (pos:String) (after:Array Edge) (guard:Option (Nat×Bool)),b4n P (cod σ ρ H w outs) ((execOp ev ⟨dst,op,ty,pos,after,guard⟩).run P w):=by
 have one:∀ {r:R},rv1 r=some (v,outs)→(∀ v' H',r=some (v',H')→∀ (σ:Sg),Sc H H')→(∀ v' H',r=some (v',H')→∀ (σ:Sg) {ρ:PM} {w:World} {ev:Operand→Value},(∀ x∈op.operands,∀ a,E x=some a→@VRel σ ρ a (ev x))→@HRel σ ρ H w→Dom ρ H.n→@OpS σ P ρ ev H w op v' H') →
   (∀ o∈outs,Sc H o.2)∧∀ (σ:Sg),σ.toUs=U→∀ {ρ:PM} {w:World} {ev:Operand→Value},(∀ x∈op.operands,∀ a,E x=some a→@VRel σ ρ a (ev x))→@HRel σ ρ H w→Dom ρ H.n→J ρ H w →
   ∀ (dst:Option Tmp) (ty:TypeId) (pos:String) (after:Array Edge) (guard:Option (Nat×Bool)),b4n P (cod σ ρ H w outs) ((execOp ev ⟨dst,op,ty,pos,after,guard⟩).run P w):=by
  intro r hr hsc hop
  unfold rv1 at hr
  split at hr
  ·rename_i y
   obtain⟨v',H'⟩:=y
   cases hr
   refine⟨fun o ho=>by rw [List.mem_singleton.1 ho];exact hsc v' H' rfl sg0,fun σ hU ρ w ev hx hH hd hj dst ty pos after guard=>?_⟩
   exact b4n.mono (fun u w' ⟨ρ',hv',hs⟩=>⟨_,List.mem_singleton.2 rfl,σ,Ext.refl _ _,ρ',hv',@Sim.f σ _ _ _ _ _ _ hs,@Sim.rel σ _ _ _ _ _ _ hs⟩) (hop v' H' rfl σ hx hH hd dst ty pos after guard)
  ·cases hr
 unfold opV at h
 split at h
 ·rename_i c
  obtain⟨callee,args,ats⟩:=c
  split at h
  ·rename_i f hc
   simp only at hc
   subst hc
   obtain⟨h1,h2⟩:=czp (ats:=ats) ho h hv
   exact⟨fun c hh=>(by cases hh),h1,fun σ hU ρ w ev hx hH hd hj=>h2 σ hU (fun z hz=>hx z (by simp only [Op.operands,Call.operands,Array.mem_append];rcases hz with rfl | hz<;>simp_all)) hH hd hj⟩
  ·cases h
 ·rename_i t x i ok
  refine⟨fun c hh=>(by cases hh),one h (fun v' H' hr σ=>?_) fun v' H' hr σ ρ w ev hx hH hd=>(@czu σ P _ _ _ _ _ _ _ _ _ _ _ _ hr (fun z hz=>hx z (by rcases hz with rfl | rfl<;>simp [Op.operands])) hH hd).2⟩
  unfold cui at hr
  repeat' (split at hr)
  all_goals first
   | (cases hr;done)
   | skip
  unfold c71 at hr
  repeat' (split at hr)
  all_goals first
   | (cases hr;done)
   | (cases hr;exact Sc.refl _)
 ·rename_i t m k x
  refine⟨fun c hh=>(by cases hh),one h (fun v' H' hr σ=>?_) fun v' H' hr σ ρ w ev hx hH hd=>(@c4m σ P _ _ _ _ _ _ _ _ _ _ _ _ hr (fun z hz=>hx z (by rcases hz with rfl | rfl | rfl<;>simp [Op.operands])) hH hd).2⟩
  unfold c4l at hr
  repeat' (split at hr)
  all_goals first
   | (cases hr;done)
   | (cases hr;exact(St.obj _ _ _).sc)
 ·rename_i t x
  refine⟨fun c hh=>(by cases hh),one h (fun v' H' hr σ=>?_) fun v' H' hr σ ρ w ev hx hH hd=>(@cwu σ P _ _ _ _ _ _ _ _ _ _ hr (hx x (by simp [Op.operands])) hH hd).2⟩
  unfold cnb at hr
  repeat' (split at hr)
  all_goals first
   | (cases hr;done)
   | skip
  rename_i b _ hxv _ kw va vw e c hm
  cases hr
  have hsc:=(St.push H (.lf [some (.ix b (nilE false) c)])).sc
  exact⟨hsc.1,hsc.2.1,hsc.2.2⟩
 ·rename_i x
  refine⟨fun c hh=>(by cases hh),one h (fun v' H' hr σ=>?_) fun v' H' hr σ ρ w ev hx hH hd=>(@cwq σ P _ _ _ _ _ _ _ _ _ hr (hx x (by simp [Op.operands])) hH hd).2⟩
  unfold cm5 at hr
  repeat' (split at hr)
  all_goals first
   | (cases hr;done)
   | (cases hr;exact Sc.refl _)
 ·rename_i x
  split at h
  ·rename_i l hl
   cases h
   obtain⟨h1,_⟩:=cp5 (P:=P) (ρ:=fun _=>none) (w:=default) (ev:=fun _=>undef) hl
   exact⟨fun c hh=>(by cases hh),h1,fun σ hU ρ w ev hx hH hd hj=>(cp5 (P:=P) hl).2 σ (hx x (by simp [Op.operands])) hH hd⟩
  ·cases h
 ·cases h
end Go.Sx
