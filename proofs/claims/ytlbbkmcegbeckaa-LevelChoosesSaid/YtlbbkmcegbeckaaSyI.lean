/-
  A symbolic executor: contracts are used. Conditions: none; nothing here speaks of one program.
-/
import Derived.Test.YtlbbkmcegbeckaaSyG
set_option linter.all false
set_option maxRecDepth 100000
noncomputable section
namespace Go.Sx
abbrev Shp:=Bool×List Srt
def afi(m:Mem):Shp→List CD→Value→Prop
 | (false,[s]),[d],u=>RS m s d u
 | (true,ss),ds,u=>∃ us:Array Value,u=.agg us∧us.size=ss.length∧RSs m ss ds fun j=>us[j]?
 | (false,_::_::ss),_::_::ds,u=>∃ (k o:Nat) (arr:Array Value) (t:TypeId) (fr:Nat×Nat),u=.pointer (some ⟨k,o,none⟩)∧m k (.cells arr t fr)∧RSs m ss ds fun j=>arr[o+j]?
 | _,_,_=>False
def aeu(m:Mem):List Shp→List (List CD)→List Value→Prop
 | [],[],[]=>True
 | p::ps,d::ds,u::us=>afi m p d u∧aeu m ps ds us
 | _,_,_=>False
theorem afi.mono{m m':Mem}(h:∀ k o,m k o→m' k o):∀ {p:Shp} {ds:List CD} {u:Value},afi m p ds u→afi m' p ds u
 | (false,[s]),[d],u,hr=>RS.mono h hr
 | (true,ss),ds,u,⟨us,h1,h2,h3⟩=>⟨us,h1,h2,h3.mono h⟩
 | (false,_::_::_),_::_::_,_,⟨k,o,arr,t,fr,h1,h2,h3⟩=>⟨k,o,arr,t,fr,h1,h _ _ h2,h3.mono h⟩
 | (false,[]),_,_,hr=>hr.elim
 | (false,_::_::_),[],_,hr=>hr.elim
 | (false,_::_::_),[_],_,hr=>hr.elim
 | (false,[_]),[],_,hr=>hr.elim
 | (false,[_]),_::_::_,_,hr=>hr.elim
theorem aeu.mono{m m':Mem}(h:∀ k o,m k o→m' k o):∀ {ps:List Shp} {ds:List (List CD)} {us:List Value},aeu m ps ds us→aeu m' ps ds us
 | [],[],[],_=>trivial
 | p::ps,d::ds,u::us,⟨h1,h2⟩=>⟨h1.mono h,h2.mono h⟩
 | [],[],_::_,hr=>hr.elim
 | [],_::_,_,hr=>hr.elim
 | _::_,[],_,hr=>hr.elim
 | _::_,_::_,[],hr=>hr.elim
def oneOf(us:List Value):Value:=if hh:us.toArray.size=1 then us.toArray[0] else .tuple us.toArray
def ResR(m:Mem)(ps:List Shp)(ds:List (List CD))(u:Value):Prop:=∃ us,aeu m ps ds us∧u=oneOf us
structure Keep (w w':World):Prop where
 old:∀ k,k<w.heap.size→w'.heap[k]? = w.heap[k]?
 size:w.heap.size≤w'.heap.size
 os:w'.os=w.os
 tape:w'.tape=w.tape
 output:w'.output=w.output
structure Fsp where
 args:List Shp
 pre:List X
 res:List Shp
 outs:List (List X×List (List X))
 fresh:Bool
noncomputable section
def a7l(k:Nat):Nat→List X
 | 0=>[]
 | n+1=>.var k::a7l (k+1) n
def at6(k:Nat):List Shp→List (List X)
 | []=>[]
 | p::ps=>a7l k p.2.length::at6 (k+p.2.length) ps
def aah(U:Us)(P:Program)(f:FuncId)(S:Fsp):Prop :=
 ∀ σ:Sg,σ.toUs=U→∀ (m:Mem) (w:World) (us:Array Value),TW w→(∀ k o,m k o→w.heap[k]? = some o)→aeu m S.args ((at6 0 S.args).map (@denL σ)) us.toList→@Holds σ S.pre →
  abz P (fun u w'=>Keep w w'∧∃ o∈S.outs,@Holds σ o.1∧ResR (fun k ob=>(w.heap.size≤k∧w'.heap[k]? = some ob∧Nice ob)∨(S.fresh=false∧m k ob)) S.res (o.2.map (@denL σ)) u) ((callFunc f us).run P w)
def toS1(H:HP)(s:Srt)(c:Cel):Option (X×List Nat×List Nat) :=
 match c with
 | .os z b n sz G ec=>match s,af4 H b with
  | .sl w,some (w',G',e,nb)=>match afd w w'&&(eqX n nb&&(Nat.beq sz w.length&&(subN G' G&&fitE H.hy z n ec e))) with
   | true=>some (.ap (.mk z) [e],G',[b])
   | false=>none
  | _,_=>none
 | c=>match toS s c with
  | some (e,G)=>some (e,G,[])
  | none=>none
def a5e(f:Srt→Cel→Option (X×List Nat×List Nat)):List Srt→List Cel→Option (List X×List Nat×List Nat)
 | [],[]=>some ([],[],[])
 | s::ss,c::cs=>match f s c,a5e f ss cs with
  | some (e,G,O),some (es,G',O')=>some (e::es,ab1 G G',O++O')
  | _,_=>none
 | _,_=>none
def bjv(f:Srt→Cel→Option (X×List Nat×List Nat))(ws:List Srt):Nat→List Cel→Option (List (List X)×List Nat×List Nat)
 | 0,[]=>some ([],[],[])
 | 0,_::_=>none
 | k+1,cs=>match a5e f ws (cs.take ws.length),bjv f ws k (cs.drop ws.length) with
  | some (r,G,O),some (rs,G',O')=>some (r::rs,ab1 G G',O++O')
  | _,_=>none
def bam:X→List (List X)→X
 | e,[]=>e
 | e,r::rs=>bam (.ap .snoc (e::r)) rs
def roomy(H:HP)(b off len n:Nat):Bool:=Nat.beq len 0||(match H.cell b (Nat.pred (Nat.add off n)) with
 | some (.c _)=>true
 | some .room=>true
 | _=>false)
def toSN(H:HP):Nat→Srt→Cel→Option (X×List Nat×List Nat)
 | 0=>toS1 H
 | n+1=>fun s c=>match c with
  | .sl b off len cap=>match s with
   | .sl ws=>match Nat.ble 1 ws.length&&roomy H b off len (Nat.mul cap ws.length),H.read b off (Nat.mul len ws.length) with
    | true,some cs=>match bjv (toSN H n) ws len cs with
     | some (rs,G,O)=>some (bam (nilE false) rs,G,b::O)
     | none=>none
    | _,_=>none
   | _=>none
  | .su b off len sz=>match s with
   | .sl ws=>match Nat.ble 1 ws.length&&Nat.beq sz ws.length,H.read b off (Nat.mul len ws.length) with
    | true,some cs=>match bjv (toSN H n) ws len cs with
     | some (rs,G,O)=>some (bam (nilE false) rs,G,b::O)
     | none=>none
    | _,_=>none
   | _=>none
  | c=>toS1 H s c
def toSo(H:HP):Srt→Cel→Option (X×List Nat×List Nat):=toSN H 3
def bon(H:HP):List Srt→List Cel→Option (List X×List Nat×List Nat):=a5e (toSo H)
def bsr(H:HP)(p:Shp)(v:AV):Option (List X×List Nat×List Nat) :=
 match p,v with
 | (false,[s]),.one c=>bon H [s] [c]
 | (true,ss),.agg cs=>bon H ss cs
 | (false,_::_::s::ss),.one (.ptr b off)=>match(H.read b off (Nat.succ ss.length)).bind (bon H (s::ss)) with
  | some (es,G,O)=>some (.lit (.bool true)::.lit (.bool true)::es,G,b::O)
  | none=>none
 | _,_=>none
def as2(H:HP):List Shp→List AV→Option (List (List X)×List Nat×List Nat)
 | [],[]=>some ([],[],[])
 | p::ps,v::vs=>match bsr H p v,as2 H ps vs with
  | some (e,G,O),some (es,G',O')=>some (e::es,ab1 G G',O++O')
  | _,_=>none
 | _,_=>none
end
def memO(ρ:PM)(w:World)(G O:List Nat):Mem:=fun k o=>ρ.at G k o∨∃ b∈O,∃ L,ρ b=some L∧k=L.B∧w.heap[k]? = some o
section
variable [Sg] {P:Program} {H H':HP} {w:World} {ρ:PM}
theorem av8{G G' O O':List Nat}:∀ k o,memO ρ w G O k o→memO ρ w (ab1 G G') (O++O') k o:=fun k o h=>h.imp (alp k o) fun⟨b,h1,h2⟩=>⟨b,List.mem_append_left _ h1,h2⟩
theorem ap5{G G' O O':List Nat}:∀ k o,memO ρ w G' O' k o→memO ρ w (ab1 G G') (O++O') k o:=fun k o h=>h.imp (alq k o) fun⟨b,h1,h2⟩=>⟨b,List.mem_append_right _ h1,h2⟩
theorem bkr{s:Srt}{c:Cel}{e:X}{G O:List Nat}{u:Value}(h:toS1 H s c=some (e,G,O))(hr:CRel ρ c u)(hH:HRel ρ H w):LocG ρ G∧RS (memO ρ w G O) s (den e) u:=by
 unfold toS1 at h
 split at h
 ·rename_i z b n sz Gc ec
  split at h
  ·rename_i ws w' G' e' nb hrw
   split at h
   ·rename_i hok
    cases h
    simp only [Ba] at hok
    obtain⟨q1,q2,q3,q4,q5⟩:=hok
    have q1:=abj q1
    subst q1
    have q2:=aap q2
    subst q2
    have q3:=Nb q3
    refine⟨LocG.sub hr.1 q4,?_⟩
    have hden:den (.ap (.mk z) [e'])=.sl (z&&(den e').rows.isEmpty) (den e').rows:=rfl
    rcases hr.2 with ⟨e0,e1,e1',e2⟩ | ⟨e0,L,k,cap,e1,e2,e3,e4,e5,e6,e7⟩
    ·have hrows:=avt hH.hy q5 e0 e1 e1'
     refine .inl ⟨?_,e2⟩
     rw [hden,hrows,e0]
     rfl
    ·obtain⟨_,hG',g0,arr,tt,fr,g1,g2,g3,g4,g5,g6⟩:=hH.rel b 0 _ L (abm hrw).1 e1
     have hk:k=(den e').rows.length:=by omega
     refine .inr (.inl ⟨(den e').rows,L.B,L.o,cap,?_,by rw [e3,hk],by omega,e5,fun hne=>⟨arr,tt,fr,⟨.inr ⟨b,Mg.2 rfl,L,e1,rfl,g1⟩,by rw [← q3];omega⟩,fun i row hi=>(g6 i row hi).mono fun k o hko=>.inl hko⟩⟩)
     rw [hden]
     have:(z&&(den e').rows.isEmpty)=false:=by
      cases z with
      | false=>rfl
      | true =>
       cases hr0:(den e').rows with
       | nil=>exfalso;rw [hr0] at g0;exact e0 ⟨rfl,g0⟩
       | cons r rs=>rfl
     rw [this]
   ·cases h
  ·cases h
 ·split at h
  ·rename_i e' G' hs
   cases h
   obtain⟨h1,h2⟩:=bks hs hr
   exact⟨h1,h2.mono fun k o hko=>.inl hko⟩
  ·cases h
def bfg(w:World)(ρ:PM)(f:Srt→Cel→Option (X×List Nat×List Nat)):Prop:=∀ (s:Srt) (c:Cel) (e:X) (G O:List Nat) (u:Value),f s c=some (e,G,O)→CRel ρ c u→LocG ρ G∧RS (memO ρ w G O) s (den e) u
theorem au7{f:Srt→Cel→Option (X×List Nat×List Nat)}(hf:bfg w ρ f):∀ {ss:List Srt} {cs:List Cel} {es:List X} {G O:List Nat} {us:List Value},a5e f ss cs=some (es,G,O)→All2 (CRel ρ) cs us→LocG ρ G∧us.length=ss.length∧RSs (memO ρ w G O) ss (denL es) fun j=>us[j]?
 | [],[],es,G,O,[],h,_=>by cases h;exact⟨fun g hg=>(by cases hg),rfl,rfl⟩
 | s::ss,c::cs,es,G,O,u::us,h,⟨h1,h2⟩=>by
  simp only [a5e] at h
  split at h
  ·rename_i e G1 O1 es1 G2 O2 he hes
   cases h
   obtain⟨k1,k2⟩:=hf _ _ _ _ _ _ he h1
   obtain⟨k3,k4,k5⟩:=au7 hf hes h2
   refine⟨k1.union k3,by simp [k4],den e,denL es1,u,rfl,rfl,k2.mono av8,?_⟩
   exact(k5.mono ap5).congr fun j _=>by simp
  ·cases h
 | [],[],_,_,_,_::_,_,h=>h.elim
 | [],_::_,_,_,_,_,h,_=>by cases h
 | _::_,[],_,_,_,_,h,_=>by cases h
 | _::_,_::_,_,_,_,[],_,h=>h.elim
theorem a3v{f:Srt→Cel→Option (X×List Nat×List Nat)}(hf:bfg w ρ f){ws:List Srt}:∀ {k:Nat} {cs:List Cel} {rs:List (List X)} {G O:List Nat} {us:List Value},bjv f ws k cs=some (rs,G,O)→All2 (CRel ρ) cs us→LocG ρ G∧rs.length=k∧∀ (i:Nat) (r:List X),rs[i]? = some r→RSs (memO ρ w G O) ws (denL r) fun j=>us[i*ws.length+j]?
 | 0,[],rs,G,O,us,h,_=>by cases h;exact⟨fun g hg=>(by cases hg),rfl,fun i r hi=>by simp at hi⟩
 | 0,_::_,_,_,_,_,h,_=>by cases h
 | k+1,cs,rs,G,O,us,h,hr=>by
  simp only [bjv] at h
  split at h
  ·rename_i r G1 O1 rs1 G2 O2 h1 h2
   cases h
   obtain⟨a1,a2,a3⟩:=au7 hf h1 (hr.take ws.length)
   obtain⟨b1,b2,b3⟩:=a3v hf h2 (hr.drop ws.length)
   refine⟨a1.union b1,by simp [b2],fun i r' hi=>?_⟩
   cases i with
   | zero =>
    simp only [List.getElem?_cons_zero,Oi] at hi
    subst hi
    refine(a3.mono av8).congr fun j hj=>?_
    rw [List.getElem?_take,if_pos hj,Nat.zero_mul,Nat.zero_add]
   | succ i =>
    simp only [List.getElem?_cons_succ] at hi
    refine((b3 i r' hi).mono ap5).congr fun j hj=>?_
    rw [List.getElem?_drop,Nat.add_mul,Nat.one_mul]
    congr 1
    omega
  ·cases h
theorem ax2:∀ {rs:List (List X)} {e:X} {b:Bool} {r0:List (List CD)},den e=.sl b r0→den (bam e rs)=.sl (match rs with | []=>b | _=>false) (r0++rs.map denL)
 | [],e,b,r0,h=>by
  show den e=_
  rw [h]
  simp
 | r::rs,e,b,r0,h=>by
  have h1:den (.ap .snoc (e::r))=.sl false (r0++[denL r]):=by
   show CD.sl false ((den e).rows++[denL r])=_
   rw [h]
   rfl
  show den (bam (.ap .snoc (e::r)) rs)=_
  rw [ax2 h1]
  cases rs<;>simp
theorem bnw(hH:HRel ρ H w){b off len n:Nat}{L:Loc}{arr:Array Value}{t:TypeId}{fr:Nat×Nat}(h:roomy H b off len n=true)(hlen:0<len)(hL:ρ b=some L)(ha:w.heap[L.B]? = some (.cells arr t fr)):L.o+off+n≤arr.size:=by
 unfold roomy at h
 rw [Bool.or_eq_true] at h
 rcases h with h | h
 ·have:=Nb h;omega
 have key:L.o+Nat.pred (off+n)<arr.size:=by
  split at h
  ·rename_i x hc
   obtain⟨arr',t',fr',u,h1,_,_,h4,_⟩:=hH.rel b _ _ L hc hL
   rw [ha] at h1
   cases h1
   exact(Ga.1 h4).1
  ·rename_i hc
   obtain⟨arr',t',fr',h1,_,_,h4⟩:=hH.rel b _ _ L hc hL
   rw [ha] at h1
   cases h1
   exact h4
  ·cases h
 have:Nat.pred (off+n)=off+n - 1:=rfl
 omega
theorem baw(hH:HRel ρ H w):∀ n:Nat,bfg w ρ (toSN H n)
 | 0=>fun _ _ _ _ _ _ h hr=>bkr h hr hH
 | n+1=>by
  intro s c e G O u h hr
  unfold toSN at h
  split at h
  ·rename_i b off len cap
   split at h
   rotate_left
   ·cases h
   rename_i ws
   split at h
   rotate_left
   ·cases h
   rename_i cs hw hrd
   split at h
   rotate_left
   ·cases h
   rename_i rs G1 O1 hrs
   cases h
   rw [Ba] at hw
   obtain⟨hw,hroom⟩:=hw
   have hw:=Nl hw
   obtain⟨⟨L,hL,hu⟩,hlc,hcap⟩:=hr
   obtain⟨us,hul,hrel,hcell⟩:=HP.read_world hrd hH hL
   obtain⟨g1,g2,g3⟩:=a3v (baw hH n) hrs hrel
   have hden:den (bam (nilE false) rs)=.sl false (rs.map denL):=by
    rw [ax2 (b:=false) (r0:=[]) rfl]
    cases rs<;>rfl
   refine⟨g1,.inr (.inl ⟨rs.map denL,L.B,L.o+off,cap,hden,by rw [hu,List.length_map,g2],by rw [List.length_map,g2];exact hlc,hcap,fun hne=>?_⟩)⟩
   have hlen:0<len:=by
    rw [← g2]
    cases rs with
    | nil=>exact absurd rfl hne
    | cons r rs=>simp
   have hul:us.length=len*ws.length:=hul
   have hpos:0<len*ws.length:=Nat.mul_pos hlen hw
   obtain⟨k1,k2⟩:=HP.read_spec hrd
   have hcs0:cs[0]? = some cs[0]:=Gl (by rw [k1];exact hpos)
   obtain⟨arr,tt,fr,_,e1,_,_,_,_⟩:=hH.rel b (off+0) (.c cs[0]) L (k2 0 _ hcs0) hL
   refine⟨arr,tt,fr,⟨.inr ⟨b,Ms ..,L,hL,rfl,e1⟩,bnw hH hroom hlen hL e1⟩,fun i row hi=>?_⟩
   rw [List.getElem?_map] at hi
   cases hri:rs[i]? with
   | none=>rw [hri] at hi;cases hi
   | some r =>
    rw [hri] at hi
    cases hi
    refine((g3 i r hri).mono fun k o hko=>hko.imp (fun h=>h) fun⟨b',hb',h'⟩=>⟨b',Mc _ hb',h'⟩).congr fun j hj=>?_
    have hil:i<len:=by rw [← g2];exact(Ls.1 hri).1
    have hlt:i*ws.length+j<len*ws.length:=by
     have:=Nat.mul_le_mul_right ws.length (show i+1≤len from hil)
     rw [Nat.add_mul,Nat.one_mul] at this
     omega
    have h5:=hcell (i*ws.length+j) _ (Gl (by omega))
    rw [cell?_of e1] at h5
    rw [← Nat.add_assoc] at h5
    rw [h5,Gl (by omega)]
  ·rename_i b off len sz
   split at h
   rotate_left
   ·cases h
   rename_i ws
   split at h
   rotate_left
   ·cases h
   rename_i cs hw hrd
   split at h
   rotate_left
   ·cases h
   rename_i rs G1 O1 hrs
   cases h
   rw [Ba] at hw
   obtain⟨hw,hsz⟩:=hw
   have hw:=Nl hw
   have hsz:=Nb hsz
   obtain⟨L,cap,hL,hu,hlc,hcap,hend⟩:=hr
   obtain⟨us,hul,hrel,hcell⟩:=HP.read_world hrd hH hL
   obtain⟨g1,g2,g3⟩:=a3v (baw hH n) hrs hrel
   have hden:den (bam (nilE false) rs)=.sl false (rs.map denL):=by
    rw [ax2 (b:=false) (r0:=[]) rfl]
    cases rs<;>rfl
   refine⟨g1,.inr (.inl ⟨rs.map denL,L.B,L.o+off,cap,hden,by rw [hu,List.length_map,g2],by rw [List.length_map,g2];exact hlc,hcap,fun hne=>?_⟩)⟩
   have hlen:0<len:=by
    rw [← g2]
    cases rs with
    | nil=>exact absurd rfl hne
    | cons r rs=>simp
   have hul:us.length=len*ws.length:=hul
   have hpos:0<len*ws.length:=Nat.mul_pos hlen hw
   obtain⟨k1,k2⟩:=HP.read_spec hrd
   have hcs0:cs[0]? = some cs[0]:=Gl (by rw [k1];exact hpos)
   obtain⟨arr,tt,fr,_,e1,_,e3,_,_⟩:=hH.rel b (off+0) (.c cs[0]) L (k2 0 _ hcs0) hL
   refine⟨arr,tt,fr,⟨.inr ⟨b,Ms ..,L,hL,rfl,e1⟩,by rw [e3,← hsz];omega⟩,fun i row hi=>?_⟩
   rw [List.getElem?_map] at hi
   cases hri:rs[i]? with
   | none=>rw [hri] at hi;cases hi
   | some r =>
    rw [hri] at hi
    cases hi
    refine((g3 i r hri).mono fun k o hko=>hko.imp (fun h=>h) fun⟨b',hb',h'⟩=>⟨b',Mc _ hb',h'⟩).congr fun j hj=>?_
    have hil:i<len:=by rw [← g2];exact(Ls.1 hri).1
    have hlt:i*ws.length+j<len*ws.length:=by
     have:=Nat.mul_le_mul_right ws.length (show i+1≤len from hil)
     rw [Nat.add_mul,Nat.one_mul] at this
     omega
    have h5:=hcell (i*ws.length+j) _ (Gl (by omega))
    rw [cell?_of e1] at h5
    rw [← Nat.add_assoc] at h5
    rw [h5,Gl (by omega)]
  ·exact bkr h hr hH
theorem a4l(hH:HRel ρ H w){ss:List Srt}{cs:List Cel}{es:List X}{G O:List Nat}{us:List Value}(h:bon H ss cs=some (es,G,O))(hr:All2 (CRel ρ) cs us):LocG ρ G∧us.length=ss.length∧RSs (memO ρ w G O) ss (denL es) fun j=>us[j]?:=au7 (baw hH 3) h hr
theorem bng(hH:HRel ρ H w){p:Shp}{v:AV}{es:List X}{G O:List Nat}{u:Value}(h:bsr H p v=some (es,G,O))(hv:VRel ρ v u):LocG ρ G∧afi (memO ρ w G O) p (denL es) u:=by
 unfold bsr at h
 split at h
 ·rename_i s c
  obtain⟨h1,h2,d,r,u',h3,h4,h5,h6⟩:=a4l hH (us:=[u]) h ⟨hv,trivial⟩
  refine⟨h1,?_⟩
  cases h4
  have h6:r=[]:=h6
  subst h6
  rw [h3]
  exact h5
 ·rename_i ss cs
  obtain⟨us,rfl,hr⟩:=hv
  obtain⟨h1,h2,h3⟩:=a4l hH h hr
  refine⟨h1,us,rfl,by simpa using h2,h3.congr fun j _=>by simp⟩
 ·rename_i s0 s1 s ss b off
  split at h
  ·rename_i es1 G1 O1 hb
   cases h
   obtain⟨cs,hrd,hcs⟩:=aa8 hb
   obtain⟨L,hL,rfl⟩:=hv
   obtain⟨us,hul,hrel,hcell⟩:=HP.read_world hrd hH hL
   obtain⟨h1,h2,h3⟩:=a4l hH hcs hrel
   obtain⟨k1,k2⟩:=HP.read_spec hrd
   have hcs0:cs[0]? = some cs[0]:=Gl (by rw [k1];exact Nat.succ_pos _)
   obtain⟨arr,tt,fr,_,e1,_,_,_,_⟩:=hH.rel b (off+0) (.c cs[0]) L (k2 0 _ hcs0) hL
   refine⟨h1,L.B,L.o+off,arr,tt,fr,rfl,.inr ⟨b,Ms ..,L,hL,rfl,e1⟩,?_⟩
   refine(h3.mono fun k o hko=>hko.imp (fun h=>h) fun⟨b',hb',h'⟩=>⟨b',Mc _ hb',h'⟩).congr fun j hj=>?_
   have h5:=hcell j _ (Gl (by rw [hul];exact hj))
   rw [cell?_of e1] at h5
   rw [h5,Gl (by rw [hul];exact hj)]
  ·cases h
 ·cases h
theorem ao6(hH:HRel ρ H w):∀ {ps:List Shp} {vs:List AV} {es:List (List X)} {G O:List Nat} {us:List Value},as2 H ps vs=some (es,G,O)→All2 (VRel ρ) vs us→LocG ρ G∧aeu (memO ρ w G O) ps (es.map denL) us
 | [],[],es,G,O,[],h,_=>by cases h;exact⟨fun g hg=>(by cases hg),trivial⟩
 | p::ps,v::vs,es,G,O,u::us,h,⟨h1,h2⟩=>by
  simp only [as2] at h
  split at h
  ·rename_i e G1 O1 es1 G2 O2 he hes
   cases h
   obtain⟨k1,k2⟩:=bng hH he h1
   obtain⟨k3,k4⟩:=ao6 hH hes h2
   exact⟨k1.union k3,k2.mono av8,k4.mono ap5⟩
  ·cases h
 | [],[],_,_,_,_::_,_,h=>h.elim
 | [],_::_,_,_,_,_,h,_=>by cases h
 | _::_,[],_,_,_,_,h,_=>by cases h
 | _::_,_::_,_,_,_,[],_,h=>h.elim
end
noncomputable section
def mkC(s:Srt)(G:List Nat)(e:X):Cel :=
 match e with
 | .lit (.int k z)=>match s with
  | .int k'=>if k'=k then .lit (.int k z) else .sv s G e
  | _=>.sv s G e
 | .lit (.bool b)=>match s with
  | .bool=>.lit (.bool b)
  | _=>.sv s G e
 | _=>match s with
  | .sl w=>.sv (.sl w) G e
  | s=>.sv s [] e
def mkCs:List Srt→List Nat→List X→Option (List Cel)
 | [],_,[]=>some []
 | s::ss,G,e::es=>match mkCs ss G es with
  | some r=>some (mkC s G e::r)
  | none=>none
 | _,_,_=>none
def mkP:List Shp→List Nat→List (List X)→Option (List (Bool×List Cel))
 | [],_,[]=>some []
 | p::ps,G,e::es=>match mkCs p.2 G e,mkP ps G es with
  | some c,some r=>match p.1 with
   | true=>some ((true,c)::r)
   | false=>match c with
    | [x]=>some ((false,[x])::r)
    | _=>none
  | _,_=>none
 | _,_,_=>none
def bai:List (Bool×List Cel)→AV
 | [(true,xs)]=>.agg xs
 | [(false,[c])]=>.one c
 | rs=>.tup rs
def catL:List (List X)→List X
 | []=>[]
 | l::r=>l++catL r
def auf(hy:List X)(l:List X):List X→Bool
 | []=>true
 | p::r=>match known hy (subX 0 l p) with
  | some true=>auf hy l r
  | _=>false
def atu(l:List X):List (List X)→List (List X)
 | []=>[]
 | e::r=>apn 0 l e::atu l r
def typF(s:Srt)(e:X):List X :=
 match e with
 | .lit _=>[]
 | e=>match s with
  | .int k=>[.ap .le [.lit (.int k k.min),e],.ap .le [e,.lit (.int k k.max)]]
  | .bool=>[]
  | s=>[.ap (.typ s) [e]]
def typL:List Srt→List X→List X
 | s::ss,e::es=>typF s e++typL ss es
 | _,_=>[]
def typS(p:Shp)(e:List X):List X :=
 match p with
 | (false,_::_::ss)=>match e with
  | _::_::e=>typL ss e
  | _=>[]
 | (_,ss)=>typL ss e
def typP:List Shp→List (List X)→List X
 | p::ps,e::es=>typS p e++typP ps es
 | _,_=>[]
def outS(S:Fsp)(G:List Nat)(H:HP)(l:List X)(o:List X×List (List X)):Option (AV×HP) :=
 match mkP S.res (match S.fresh with | true=>[H.n] | false=>H.n::G) (atu l o.2) with
 | some r=>some (bai r,(H.push (.lf [])).learns (typP S.res (atu l o.2)++apn 0 l o.1))
 | none=>none
def bnb(S:Fsp)(G:List Nat)(H:HP)(l:List X):List (List X×List (List X))→RM
 | []=>some []
 | o::r=>match outS S G H l o,bnb S G H l r with
  | some x,some y=>some (x::y)
  | _,_=>none
def bv7:List Nat→Bool
 | []=>true
 | _::_=>false
def bl2:List Shp→List (List X)→Bool
 | [],[]=>true
 | p::ps,e::es=>Nat.beq p.2.length e.length&&bl2 ps es
 | _,_=>false
def bfz(s:Srt):Bool:=match s with
 | .sl [.int .u8]=>true
 | .sl _=>false
 | _=>true
def au5(ps:List Shp):Bool:=ps.all fun p=>p.2.all bfz
def bnx(H:HP)(O:List Nat):Bool:=O.all fun b=>match af4 H b with
 | some (w,_,_,_)=>uniS w&&!(w.all s8)
 | none=>false
def bfj(S:Fsp)(args:List AV)(H:HP):RM :=
 match as2 H S.args args with
 | some (es,G,O)=>match auf H.hy (catL es) S.pre&&(S.fresh||(bv7 O||(au5 S.res&&bnx H O)))&&bl2 S.args es with
  | true=>bnb S G H (catL es) S.outs
  | false=>none
 | none=>none
def acr(T:FuncId→Option Fsp):OraM:=fun t args H =>
 match t with
 | .f f=>match T f with
  | some S=>bfj S args H
  | none=>none
 | .y _=>none
end
section
variable {P:Program} {H H':HP} {w w':World} {ρ:PM}
theorem a6t{S:Fsp}{G:List Nat}{l:List X}:∀ {os:List (List X×List (List X))} {xs:List (AV×HP)},bnb S G H l os=some xs→(∀ o∈os,∃ x∈xs,outS S G H l o=some x)∧∀ x∈xs,∃ o∈os,outS S G H l o=some x
 | [],xs,h=>by cases h;exact⟨fun o ho=>(by cases ho),fun o ho=>(by cases ho)⟩
 | o::os,xs,h=>by
  simp only [bnb] at h
  split at h
  ·rename_i x y hx hy
   cases h
   obtain⟨h1,h2⟩:=a6t hy
   refine⟨fun q hq=>?_,fun q hq=>?_⟩
   ·rcases Mn.1 hq with rfl | hq
    ·exact⟨x,Ms ..,hx⟩
    ·obtain⟨z,h3,h4⟩:=h1 q hq
     exact⟨z,Mc _ h3,h4⟩
   ·rcases Mn.1 hq with rfl | hq
    ·exact⟨o,Ms ..,hx⟩
    ·obtain⟨z,h3,h4⟩:=h2 q hq
     exact⟨z,Mc _ h3,h4⟩
  ·cases h
section
variable [Sg]
theorem bkv{s:Srt}{e:X}{m:Mem}{u:Value}(h:RS m s (den e) u):Holds (typF s e):=by
 unfold typF
 split
 ·exact fun x hx=>by cases hx
 ·split
  ·rename_i k
   obtain⟨n,h1,h2,h3⟩:=h
   simp only [abw,Ba,Dt] at h3
   intro x hx
   have hiv:(den e).iv=n:=by rw [h1];rfl
   rcases Mn.1 hx with rfl | hx
   ·show decide (k.min≤(den e).iv)=true
    rw [hiv];exact decide_eq_true h3.1
   ·rcases Mn.1 hx with rfl | hx
    ·show decide ((den e).iv≤k.max)=true
     rw [hiv];exact decide_eq_true h3.2
    ·cases hx
  ·exact fun x hx=>by cases hx
  ·rename_i s' _ _
   intro x hx
   rcases Mn.1 hx with rfl | hx
   ·show @decide (Typ s (den e)) (Classical.propDecidable _)=true
    exact @decide_eq_true _ (Classical.propDecidable _) ⟨m,u,h⟩
   ·cases hx
theorem aey{a b:List X}(h:Holds a)(h':Holds b):Holds (a++b):=fun x hx=>(List.mem_append.1 hx).elim (h x) (h' x)
theorem bax{m:Mem}:∀ {ss:List Srt} {es:List X} {f:Nat→Option Value},RSs m ss (denL es) f→Holds (typL ss es)
 | [],es,_,_=>by cases es<;>exact fun x hx=>(by cases hx)
 | s::ss,[],_,_=>fun x hx=>(by cases hx)
 | s::ss,e::es,f,h=>by
  obtain⟨c,r,u,h1,h2,h3,h4⟩:=h
  have h1:den e::denL es=c::r:=h1
  cases h1
  exact aey (bkv h3) (bax h4)
theorem a4m{m:Mem}:∀ {ps:List Shp} {es:List (List X)} {us:List Value},aeu m ps (es.map denL) us→Holds (typP ps es)
 | [],es,_,_=>by cases es<;>exact fun x hx=>(by cases hx)
 | p::ps,[],_,_=>fun x hx=>(by cases hx)
 | p::ps,e::es,[],h=>h.elim
 | p::ps,e::es,u::us,⟨h1,h2⟩=>by
  refine aey ?_ (a4m h2)
  obtain⟨b,ss⟩:=p
  cases b with
  | true =>
   obtain⟨az,_,_,h3⟩:=h1
   exact bax h3
  | false =>
   match ss,e,h1 with
   | [s],[d],h1=>exact aey (bkv (show RS m s (den d) u from h1)) (fun x hx=>(by cases hx))
   | [s],[],h1=>exact h1.elim
   | [s],_::_::_,h1=>exact h1.elim
   | [],_,h1=>exact h1.elim
   | _::_::_,[],h1=>exact h1.elim
   | _::_::_,[_],h1=>exact h1.elim
   | _::_::_,_::_::_,⟨_,_,_,_,_,_,_,h3⟩=>exact bax h3
theorem bse{s:Srt}{G:List Nat}{e:X}{u:Value}(hG:LocG ρ G)(h:RS (ρ.at G) s (den e) u):CRel ρ (mkC s G e) u:=by
 have gen:CRel ρ (.sv s G e) u:=⟨hG,h⟩
 have bare:∀ s',s=s'→(∀ w,s'≠.sl w)→CRel ρ (.sv s' [] e) u:=fun s' hs hne=>by
  subst hs
  refine⟨fun g hg=>(by cases hg),?_⟩
  cases s with
  | int k=>exact h
  | bool=>exact h
  | str=>exact h
  | sl w=>exact absurd rfl (hne w)
 unfold mkC
 split
 ·rename_i k z
  split
  ·rename_i k'
   split
   ·rename_i hk
    subst hk
    obtain⟨n,h1,h2,h3⟩:=h
    have h1:CD.v (.int k' z)=.v (.int k' n):=h1
    cases h1
    exact⟨h2,h3⟩
   ·exact gen
  ·exact gen
 ·rename_i b
  split
  ·obtain⟨n,h1,h2⟩:=h
   have h1:CD.v (.bool b)=.v (.bool n):=h1
   cases h1
   exact⟨h2,rfl⟩
  ·exact gen
 ·split
  ·exact gen
  ·rename_i s' hne
   exact bare _ rfl hne
theorem a19{G:List Nat}(hG:LocG ρ G):∀ {ss:List Srt} {es:List X} {cs:List Cel} {us:List Value},mkCs ss G es=some cs→us.length=ss.length→RSs (ρ.at G) ss (denL es) (fun j=>us[j]?)→All2 (CRel ρ) cs us
 | [],[],cs,us,h,hl,_=>by
  cases h
  have:us=[]:=List.length_eq_zero_iff.1 hl
  subst this
  trivial
 | s::ss,e::es,cs,[],h,hl,_=>by simp at hl
 | s::ss,e::es,cs,u::us,h,hl,hr=>by
  simp only [mkCs] at h
  split at h
  ·rename_i r hr'
   cases h
   obtain⟨c,r',u',h1,h2,h3,h4⟩:=hr
   have h1:den e::denL es=c::r':=h1
   cases h1
   have h2:some u=some u':=by simpa using h2
   cases h2
   exact⟨bse hG h3,a19 hG hr' (by simpa using hl) (h4.congr fun j _=>by simp)⟩
  ·cases h
 | [],_::_,_,_,h,_,_=>by cases h
 | _::_,[],_,_,h,_,_=>by cases h
theorem a2a{G:List Nat}(hG:LocG ρ G):∀ {ps:List Shp} {es:List (List X)} {rs:List (Bool×List Cel)} {us:List Value},mkP ps G es=some rs→aeu (ρ.at G) ps (es.map denL) us→All2 (PRel ρ) rs us
 | [],[],rs,[],h,_=>by cases h;trivial
 | p::ps,e::es,rs,u::us,h,⟨h1,h2⟩=>by
  simp only [mkP] at h
  split at h
  ·rename_i c r hc hr
   obtain⟨b,ss⟩:=p
   cases b with
   | true =>
    cases h
    obtain⟨az,rfl,h3,h4⟩:=h1
    exact⟨⟨az,rfl,a19 hG hc (by simpa using h3) (h4.congr fun j _=>by simp)⟩,a2a hG hr h2⟩
   | false =>
    simp only at h
    split at h
    ·rename_i x
     cases h
     refine⟨?_,a2a hG hr h2⟩
     match ss,e,h1,hc with
     | [s],[d],h1,hc =>
      have h1':RS (ρ.at G) s (den d) u:=h1
      have:=a19 (us:=[u]) hG hc rfl ⟨den d,[],u,rfl,rfl,h1',rfl⟩
      exact this.1
     | [s],[],h1,_=>exact h1.elim
     | [s],_::_::_,h1,_=>exact h1.elim
     | [],_,h1,_=>exact h1.elim
     | _::_::_,[],_,hc=>cases hc
     | s0::s1::ss,[_],_,hc=>cases hc
     | s0::s1::ss,e0::e1::es,_,hc =>
      exfalso
      simp only [mkCs] at hc
      cases hm:mkCs ss G es with
      | none=>rw [hm] at hc;cases hc
      | some r=>rw [hm] at hc;cases hc
    ·cases h
  ·cases h
 | [],[],_,_::_,_,h=>h.elim
 | [],_::_,_,_,h,_=>by cases h
 | _::_,[],_,_,h,_=>by cases h
 | _::_,_::_,_,[],_,h=>h.elim
theorem a7m{rs:List (Bool×List Cel)}{us:List Value}(h:All2 (PRel ρ) rs us):VRel ρ (bai rs) (oneOf us):=by
 have tup:∀ (rs:List (Bool×List Cel)) (us:List Value),All2 (PRel ρ) rs us→us.length≠1→VRel ρ (.tup rs) (oneOf us):=by
  intro rs us h hl
  unfold oneOf
  rw [dif_neg (by simpa using hl)]
  exact⟨us.toArray,rfl,by simpa using h⟩
 match rs,us,h with
 | [],[],h=>exact tup [] [] h (by simp)
 | [(true,xs)],[u],h=>exact h.1
 | [(false,[c])],[u],h=>exact h.1
 | [(false,[])],[u],h=>exact h.1.elim
 | [(false,_::_::_)],[u],h=>exact h.1.elim
 | p::q::rs,u::u'::us,h =>
  have e:bai (p::q::rs)=.tup (p::q::rs):=by
   obtain⟨b,l⟩:=p
   cases b
   ·cases l with
    | nil=>rfl
    | cons x l=>cases l<;>rfl
   ·rfl
  rw [e]
  exact tup _ _ h (by simp)
theorem Sim.call{M:Mem}{l:List X}(hH:HRel ρ H w)(hd:Dom ρ H.n)(hk:Keep w w')(hM:∀ k o,M k o→w.heap.size≤k∧w'.heap[k]? = some o∧Nice o)(hl:Holds l) :
  Sim ρ H w (upd ρ H.n ⟨w.heap.size,0,0,some M⟩) ((H.push (.lf [])).learns l) w':=by
 have hfr:=hd H.n (Rl _)
 have hle:PM.le ρ (upd ρ H.n ⟨w.heap.size,0,0,some M⟩):=ahp hfr
 obtain⟨p1,p2,p3,p4⟩:=akl (H.push (.lf [])) l
 have hcell:∀ b i,((H.push (.lf [])).learns l).cell b i=if b=H.n then none else H.cell b i:=by
  intro b i
  have:((H.push (.lf [])).learns l).cell b i=(H.push (.lf [])).cell b i:=by unfold HP.cell;rw [p1]
  rw [this,HP.cell_push]
  split<;>rfl
 have hkn:∀ b,((H.push (.lf [])).learns l).Kn b→b≠H.n∧H.Kn b:=by
  rintro b ⟨i,c,hc⟩
  rw [hcell] at hc
  split at hc
  ·cases hc
  ·rename_i hb;exact⟨hb,i,c,hc⟩
 have hlt:∀ b L,H.Kn b→ρ b=some L→L.B<w.heap.size:=fun b L ⟨i,c,hc⟩ hL=>(hH.rel b i c L hc hL).lt
 have hrel:HRel (upd ρ H.n ⟨w.heap.size,0,0,some M⟩) ((H.push (.lf [])).learns l) w':=by
  refine⟨fun b i c L hc hL=>?_,fun b b' L L' g1 g2 hL hL' he=>?_,?_⟩
  ·rw [hcell] at hc
   split at hc
   ·cases hc
   ·rename_i hb
    rw [upd_ne hb] at hL
    have:=hH.rel b i c L hc hL
    exact(this.mono hle).of_heap (hk.old _ this.lt)
  ·obtain⟨h1,h2⟩:=hkn b g1
   obtain⟨h3,h4⟩:=hkn b' g2
   rw [upd_ne h1] at hL
   rw [upd_ne h3] at hL'
   exact hH.inj b b' L L' h2 h4 hL hL' he
  ·have:∀ (l:List X),Holds l→Holds ((H.push (.lf [])).learns l).hy:=by
    intro l
    induction l with
    | nil=>exact fun _=>hH.hy
    | cons x l ih =>
     intro h y hy
     rcases Mn.1 hy with rfl | hy
     ·exact h _ (Ms ..)
     ·exact ih (fun z hz=>h z (Mc _ hz)) y hy
   exact this l hl
 exact {
  le:=hle
  grow:=by rw [p2];exact Nat.le_succ _
  dom:=fun b hb=>by
   rw [p2] at hb
   have hb:H.n+1≤b:=hb
   rw [upd_ne (by omega)]
   exact hd b (by omega)
  rel:=hrel
  knc:=fun b i hb hc=>by
   rw [hcell]
   split
   ·rfl
   ·exact hc
  fr:=fun k hk' _=>hk.old k hk'
  new:=fun b L h1 h2=>by
   by_cases hb:b=H.n
   ·subst hb;rw [upd_same] at h2;cases h2;exact .inl (Rl _)
   ·rw [upd_ne hb,h1] at h2;cases h2
  size:=hk.size
  os:=hk.os
  tape:=hk.tape
  output:=hk.output
  old:=fun b L h1 h2=>by
   by_cases hb:b=H.n
   ·exact Nat.le_of_eq hb.symm
   ·rw [upd_ne hb,h1] at h2;cases h2
  jj:=fun hj=>⟨fun x hx=>⟨hj.tw.keep hk.old x hx,fun b L' hb hL'=>by
   obtain⟨h3,h4⟩:=hkn b hb
   rw [upd_ne h3] at hL'
   exact(hj.1 x hx).2 b L' h4 hL'⟩,fun g L M' hg hM' k o ho=>by
   by_cases hb:g=H.n
   ·subst hb
    rw [upd_same] at hg
    cases hg
    cases hM'
    obtain⟨h1,h2,_⟩:=hM k o ho
    refine⟨h2,fun b L' hb' hL' he=>?_⟩
    obtain⟨h3,h4⟩:=hkn b hb'
    rw [upd_ne h3] at hL'
    have:=hlt b L' h4 hL'
    omega
   ·rw [upd_ne hb] at hg
    obtain⟨h1,h2⟩:=hj.2 g L M' hg hM' k o ho
    refine⟨by rw [hk.old k (Ga.1 h1).1];exact h1,fun b L' hb' hL'=>?_⟩
    obtain⟨h3,h4⟩:=hkn b hb'
    rw [upd_ne h3] at hL'
    exact h2 b L' h4 hL'⟩
  ro:=fun g L M' k o h1 h2 h3 h4=>by
   by_cases hb:g=H.n
   ·subst hb
    rw [upd_same] at h2
    cases h2
    cases h3
    exact⟨.inl (hM k o h4).1,(hM k o h4).2.2⟩
   ·rw [upd_ne hb,h1] at h2;cases h2 }
end
theorem a8d{l:List X}:∀ {r:List X} {x:X},x∈apn 0 l r→∃ y∈r,x=subX 0 l y
 | [],x,h=>by cases (show x∈([]:List X) from h)
 | z::r,x,h=>by
  rcases Mn.1 (show x∈subX 0 l z::apn 0 l r from h) with rfl | h
  ·exact⟨z,Ms ..,rfl⟩
  ·obtain⟨y,h1,h2⟩:=a8d h
   exact⟨y,Mc _ h1,h2⟩
theorem aso(σ:Sg)(l:List X):∀ (es:List (List X)),(atu l es).map (@denL σ)=es.map (@denL (σ.sub 0 l))
 | []=>rfl
 | e::r=>by
  show @denL σ (apn 0 l e)::(atu l r).map (@denL σ)=@denL (σ.sub 0 l) e::r.map (@denL (σ.sub 0 l))
  rw [a1l,aso σ l r]
theorem a0p(σ':Sg):∀ (n k:Nat) (ds:List CD),ds.length=n→(∀ j,j<n→σ'.v (k+j)=ds.getD j default)→@denL σ' (a7l k n)=ds
 | 0,k,ds,hl,_=>by
  have:ds=[]:=List.length_eq_zero_iff.1 hl
  subst this
  rfl
 | n+1,k,[],hl,_=>by simp at hl
 | n+1,k,d::ds,hl,h=>by
  show σ'.v k::@denL σ' (a7l (k+1) n)=d::ds
  rw [a0p σ' n (k+1) ds (by simpa using hl) (fun j hj=>by
   have:=h (j+1) (by omega)
   rw [show k+1+j=k+(j+1) by omega,this]
   rfl)]
  have:=h 0 (by omega)
  rw [show σ'.v k=d from this]
theorem bbk(σ:Sg):∀ (l:List X),(@denL σ l).length=l.length
 | []=>rfl
 | x::r=>by show(@denL σ r).length+1=r.length+1;rw [bbk σ r]
theorem bbj(σ:Sg):∀ (l:List X) (j:Nat),j<l.length→(@denL σ l).getD j default=@den σ (l.getD j default)
 | x::r,0,_=>rfl
 | x::r,j+1,h=>by
  show(@denL σ r).getD j default=_
  rw [bbj σ r j (by simpa using h)]
  rfl
theorem bdx(σ σ':Sg):∀ (ps:List Shp) (es:List (List X)) (k:Nat),bl2 ps es=true→(∀ j,j<(catL es).length→σ'.v (k+j)=@den σ ((catL es).getD j default))→(at6 k ps).map (@denL σ')=es.map (@denL σ)
 | [],[],k,_,_=>rfl
 | p::ps,e::es,k,hl,h=>by
  simp only [bl2,Ba] at hl
  have h1:=Nb hl.1
  have hcat:catL (e::es)=e++catL es:=rfl
  rw [hcat] at h
  show @denL σ' (a7l k p.2.length)::(at6 (k+p.2.length) ps).map (@denL σ')=@denL σ e::es.map (@denL σ)
  rw [a0p σ' p.2.length k (@denL σ e) (by rw [bbk,h1]) (fun j hj=>by
   rw [h j (by rw [List.length_append];omega),bbj σ e j (by omega)]
   congr 1
   rw [Gd,Gd,List.getElem?_append_left (by omega)])]
  rw [bdx σ σ' ps es (k+p.2.length) hl.2 (fun j hj=>by
   rw [show k+p.2.length+j=k+(e.length+j) by omega,h (e.length+j) (by rw [List.length_append];omega)]
   congr 1
   rw [Gd,Gd,List.getElem?_append_right (by omega)]
   congr 2
   omega)]
 | [],_::_,_,h,_=>by cases h
 | _::_,[],_,h,_=>by cases h
theorem ao0{σ:Sg}{hy l:List X}(hh:@Holds σ hy):∀ {ps:List X},auf hy l ps=true→@Holds (σ.sub 0 l) ps
 | [],_=>fun x hx=>(by cases hx)
 | p::r,h=>by
  unfold auf at h
  split at h
  ·rename_i hk
   intro x hx
   rcases Mn.1 hx with rfl | hx
   ·show(@den (σ.sub 0 l) x).bv=true
    rw [← apy]
    exact @ajb σ _ hh _ _ hk
   ·exact ao0 hh h x hx
  ·cases h
theorem rsB{m m':Mem}(hm:∀ k ob,m k ob→m' k ob∨∃ arr t fr,ob=.cells arr t fr∧∀ (j:Nat) (u:Value),arr[j]? = some u→is8 u=false){s:Srt}(hs:bfz s=true){d:CD}{u:Value}(h:RS m s d u):RS m' s d u:=by
 unfold bfz at hs
 split at hs
 ·rcases(show(d=.sl true []∧u=.slice none 0 0)∨_ from h) with h1 | ⟨rows,b,off,cap,h1,h2,h3,h4,h5⟩ | h1
  ·exact .inl h1
  rotate_left
  ·exact .inr (.inr h1)
  ·refine .inr (.inl ⟨rows,b,off,cap,h1,h2,h3,h4,fun hne=>?_⟩)
   obtain⟨arr,t,fr,⟨h6,h6'⟩,h7⟩:=h5 hne
   rcases hm _ _ h6 with h8 | ⟨arr',t',fr',e,h8⟩
   ·refine⟨arr,t,fr,⟨h8,h6'⟩,fun i row hi=>?_⟩
    obtain⟨c,r,u',e1,e2,e3,e4⟩:=h7 i row hi
    exact⟨c,r,u',e1,e2,e3,e4⟩
   ·exfalso
    cases e
    cases hr:rows with
    | nil=>exact hne hr
    | cons x r =>
     obtain⟨c,_,u',_,e2,⟨n,_,rfl,_⟩,_⟩:=h7 0 x (by rw [hr];rfl)
     have:=h8 _ _ e2
     cases this
 ·cases hs
 ·rename_i h1 h2
  cases s with
  | int k=>exact h
  | bool=>exact h
  | str=>exact h
  | sl w=>exact absurd rfl (h2 w)
theorem rssB{m m':Mem}(hm:∀ k ob,m k ob→m' k ob∨∃ arr t fr,ob=.cells arr t fr∧∀ (j:Nat) (u:Value),arr[j]? = some u→is8 u=false):∀ {ss:List Srt},ss.all bfz=true→∀ {row:List CD} {f:Nat→Option Value},RSs m ss row f→RSs m' ss row f
 | [],_,_,_,h=>h
 | s::ss,hs,_,_,⟨c,r,u,h1,h2,h3,h4⟩=>by
  rw [List.all_cons,Ba] at hs
  exact⟨c,r,u,h1,h2,rsB hm hs.1 h3,rssB hm hs.2 h4⟩
theorem bxw{m m':Mem}(hm:∀ k ob,m k ob→m' k ob∨∃ arr t fr,ob=.cells arr t fr∧∀ (j:Nat) (u:Value),arr[j]? = some u→is8 u=false):∀ {p:Shp} {ds:List CD} {u:Value},p.2.all bfz=true→(∀ s t r,p≠(false,s::t::r))→afi m p ds u→afi m' p ds u
 | (false,[s]),[d],u,hs,_,hr=>rsB hm (by simpa using hs) hr
 | (true,ss),ds,u,hs,_,⟨us,h1,h2,h3⟩=>⟨us,h1,h2,rssB hm hs h3⟩
 | (false,s::t::r),_,_,_,hn,_=>absurd rfl (hn s t r)
 | (false,[]),_,_,_,_,hr=>hr.elim
 | (false,[_]),[],_,_,_,hr=>hr.elim
 | (false,[_]),_::_::_,_,_,_,hr=>hr.elim
theorem bim{m m':Mem}(hm:∀ k ob,m k ob→m' k ob∨∃ arr t fr,ob=.cells arr t fr∧∀ (j:Nat) (u:Value),arr[j]? = some u→is8 u=false):∀ {ps:List Shp} {ds:List (List CD)} {us:List Value},au5 ps=true→(∀ p∈ps,∀ s t r,p≠(false,s::t::r))→aeu m ps ds us→aeu m' ps ds us
 | [],[],[],_,_,_=>trivial
 | p::ps,d::ds,u::us,hb,hn,⟨h1,h2⟩=>by
  unfold au5 at hb
  rw [List.all_cons,Ba] at hb
  exact⟨bxw hm hb.1 (hn p (Ms ..)) h1,bim hm hb.2 (fun q hq=>hn q (Mc _ hq)) h2⟩
 | [],[],_::_,_,_,hr=>hr.elim
 | [],_::_,_,_,_,hr=>hr.elim
 | _::_,[],_,_,_,hr=>hr.elim
 | _::_,_::_,[],_,_,hr=>hr.elim
theorem bhp:∀ {ps:List Shp} {G:List Nat} {es:List (List X)} {rs:List (Bool×List Cel)},mkP ps G es=some rs→∀ p∈ps,∀ s t r,p≠(false,s::t::r)
 | [],_,_,_,_,p,hp=>by cases hp
 | q::ps,G,[],_,h,_,_=>by cases h
 | q::ps,G,e::es,rs,h,p,hp=>by
  simp only [mkP] at h
  split at h
  ·rename_i c r' hc hr
   rcases Mn.1 hp with rfl | hp
   ·intro s t r e1
    subst e1
    simp only at h
    split at h
    ·rename_i x
     match e,hc with
     | [],hc=>cases hc
     | [_],hc=>cases hc
     | e0::e1::es',hc =>
      simp only [mkCs] at hc
      cases hm:mkCs r G es' with
      | none=>rw [hm] at hc;cases hc
      | some r=>rw [hm] at hc;cases hc
    ·cases h
   ·exact bhp hr p hp
  ·cases h
def bq4(p:Shp)(G:List Nat)(e:List X):Option (Bool×List Cel) :=
 match p,e with
 | (false,_::_::s::ss),_::_::e'=>match Nat.beq e'.length (Nat.succ ss.length) with
  | true=>some (false,[.pv (s::ss) G (.ap .snoc (.ap (.nil false) []::e')) zI 0])
  | false=>none
 | p,e=>match mkP [p] G [e] with
  | some [x]=>some x
  | _=>none
def argA:List Shp→List Nat→List (List X)→Option (List (Bool×List Cel))
 | [],_,[]=>some []
 | p::ps,G,e::es=>match bq4 p G e,argA ps G es with
  | some x,some r=>some (x::r)
  | _,_=>none
 | _,_,_=>none
theorem bfl{ρ:PM}[Sg]{G:List Nat}(hG:LocG ρ G){p:Shp}{e:List X}{x:Bool×List Cel}{u:Value}(h:bq4 p G e=some x)(hr:afi (ρ.at G) p (denL e) u):PRel ρ x u:=by
 unfold bq4 at h
 split at h
 ·rename_i s0 s1 s ss e0 e1 e'
  split at h
  ·rename_i hlen
   have hlen:=Nb hlen
   cases h
   obtain⟨k,o,arr,t,fr,rfl,h2,h3⟩:=hr
   have hl:=h3.len
   have hden:den (.ap .snoc (.ap (.nil false) []::e'))=.sl false [denL e']:=rfl
   obtain⟨u',hu',_⟩:=h3.get ss.length ((s::ss)[ss.length]'(by simp)) (Gl _)
   have hsz:o+ss.length<arr.size:=(Ga.1 hu').1
   refine⟨hG,k,o,1,?_,Int.le_refl _,?_,?_⟩
   ·rw [hden]
    refine .inr (.inl ⟨[denL e'],k,o,1,rfl,rfl,Rl _,by unfold maxN;omega,fun _=>⟨arr,t,fr,⟨h2,?_⟩,fun i row hi=>?_⟩⟩)
    ·show o+1*(ss.length+1)≤arr.size
     omega
    ·cases i with
     | zero =>
      cases hi
      exact h3.congr fun j hj=>by rw [Nat.zero_mul,Nat.add_zero]
     | succ i=>simp at hi
   ·rw [hden]
    show(0:Int)<1
    omega
   ·show _=Value.pointer (some ⟨k,o+(0:Int).toNat*_+0,none⟩)
    simp
  ·cases h
 ·split at h
  ·rename_i y hy
   cases h
   exact(a2a (us:=[u]) hG hy ⟨hr,trivial⟩).1
  ·cases h
theorem a1a{ρ:PM}[Sg]{G:List Nat}(hG:LocG ρ G):∀ {ps:List Shp} {es:List (List X)} {rs:List (Bool×List Cel)} {us:List Value},argA ps G es=some rs→aeu (ρ.at G) ps (es.map denL) us→All2 (PRel ρ) rs us
 | [],[],rs,[],h,_=>by cases h;trivial
 | p::ps,e::es,rs,u::us,h,⟨h1,h2⟩=>by
  simp only [argA] at h
  split at h
  ·rename_i x r hx hr
   cases h
   exact⟨bfl hG hx h1,a1a hG hr h2⟩
  ·cases h
 | [],[],_,_::_,_,h=>h.elim
 | [],_::_,_,_,h,_=>by cases h
 | _::_,[],_,_,h,_=>by cases h
 | _::_,_::_,_,[],_,h=>h.elim
theorem a09{G:List Nat}:∀ {ps:List Shp} {es:List (List X)} {rs:List (Bool×List Cel)},argA ps G es=some rs→rs.length=ps.length
 | [],[],rs,h=>by cases h;rfl
 | p::ps,e::es,rs,h=>by
  simp only [argA] at h
  split at h
  ·rename_i x r hx hr
   cases h
   simp [a09 hr]
  ·cases h
 | [],_::_,_,h=>by cases h
 | _::_,[],_,h=>by cases h
theorem bfk{U:Us}{f:FuncId}{S:Fsp}(hS:aah U P f S){args:List AV}{outs:List (AV×HP)}(h:bfj S args H=some outs)(σ:Sg)(hU:σ.toUs=U) :
  (∀ o∈outs,Sc H o.2)∧∀ (ρ:PM) (w:World) (us:Array Value),All2 (@VRel σ ρ) args us.toList→@HRel σ ρ H w→Dom ρ H.n→J ρ H w→abz P (@bqw σ ρ H w outs) ((callFunc f us).run P w):=by
 unfold bfj at h
 split at h
 rotate_left
 ·cases h
 rename_i es G O hes
 split at h
 rotate_left
 ·cases h
 rename_i hok
 simp only [Ba,Bool.or_eq_true] at hok
 obtain⟨⟨q1,q2⟩,q3⟩:=hok
 obtain⟨m1,m2⟩:=a6t h
 refine⟨fun x hx=>?_,fun ρ w us hus hH hd hj=>?_⟩
 ·obtain⟨o,_,ho⟩:=m2 x hx
  unfold outS at ho
  split at ho
  ·cases ho
   obtain⟨p1,p2,p3,p4⟩:=akl (H.push (.lf [])) (typP S.res (atu (catL es) o.2)++apn 0 (catL es) o.1)
   refine⟨⟨by show((H.push (.lf [])).learns _).lo≤H.lo;rw [p3];exact(Unt.push H _).1,fun b h1 h2=>?_⟩,?_,?_⟩
   ·show((H.push (.lf [])).learns _).t.get b=_
    rw [p1]
    rw [show((H.push (.lf [])).learns (typP S.res (atu (catL es) o.2)++apn 0 (catL es) o.1)).lo=_ from p3] at h1
    exact(Unt.push H _).2 b h1 h2
   ·show H.n≤((H.push (.lf [])).learns _).n
    rw [p2];exact Nat.le_succ _
   ·show H.nv≤((H.push (.lf [])).learns _).nv
    rw [p4];exact Rl _
  ·cases ho
 ·obtain⟨hG,hparts⟩:=@ao6 σ _ _ _ hH _ _ _ _ _ _ hes hus
  have hm:∀ k o,memO ρ w G O k o→w.heap[k]? = some o:=fun k o hko=>by
   rcases hko with hko | ⟨b,_,L,_,rfl,h1⟩
   ·exact @J.obj σ H w ρ _ _ _ hj hko
   ·exact h1
  have hvars:(at6 0 S.args).map (@denL (σ.sub 0 (catL es)))=es.map (@denL σ):=bdx σ _ _ _ 0 q3 fun j hj'=>by
   show @den σ (θ 0 (catL es) (0+j))=_
   unfold θ
   rw [show Nat.ble 0 (0+j)=true from by simp]
   simp only
   rw [show 0+j - 0=j by omega,Gd,Gd,Gl hj']
   rfl
  have hrun:=hS (σ.sub 0 (catL es)) hU (memO ρ w G O) w us hj.tw hm (by rw [hvars];exact hparts) (ao0 (@HRel.hy σ _ _ _ hH) q1)
  refine abz.mono (fun u w' hp=>?_) hrun
  obtain⟨hk,o,ho,hf,hr⟩:=hp
  obtain⟨x,hx,hxo⟩:=m1 o ho
  refine⟨x,hx,?_⟩
  unfold outS at hxo
  split at hxo
  ·rename_i rs hrs
   cases hxo
   have hfacts:@Holds σ (apn 0 (catL es) o.1):=fun y hy=>by
    obtain⟨z,hz,rfl⟩:=a8d hy
    show(@den σ (subX 0 (catL es) z)).bv=true
    rw [apy]
    exact hf z hz
   have hfacts:@Holds σ (typP S.res (atu (catL es) o.2)++apn 0 (catL es) o.1):=by
    obtain⟨vs,hvs,_⟩:=hr
    rw [← aso] at hvs
    exact @aey σ _ _ (@a4m σ _ _ _ _ hvs) hfacts
   have hsim:=@Sim.call H w w' ρ σ (fun k ob=>w.heap.size≤k∧w'.heap[k]? = some ob∧Nice ob) _ hH hd hk (fun k o h=>h) hfacts
   refine⟨_,?_,hsim⟩
   obtain⟨vs,hvs,rfl⟩:=hr
   have hle:PM.le ρ (upd ρ H.n ⟨w.heap.size,0,0,some fun k ob=>w.heap.size≤k∧w'.heap[k]? = some ob∧Nice ob⟩):=ahp (hd _ (Rl _))
   refine @a7m _ σ _ _ (@a2a _ σ _ ?_ _ _ _ _ hrs ?_)
   ·intro g hg
    have hnew:g=H.n→∃ L,upd ρ H.n ⟨w.heap.size,0,0,some fun k ob=>w.heap.size≤k∧w'.heap[k]? = some ob∧Nice ob⟩ g=some L:=fun hg=>⟨_,by rw [hg];exact upd_same _ _ _⟩
    split at hg
    ·exact hnew (Mg.1 hg)
    ·rcases Mn.1 hg with hg | hg
     ·exact hnew hg
     ·obtain⟨L,hL⟩:=hG g hg
      exact⟨L,hle _ _ hL⟩
   ·rw [aso]
    have hbyte:au5 S.res=true→bnx H O=true→∀ (M:Mem),(∀ k ob,(w.heap.size≤k∧w'.heap[k]? = some ob∧Nice ob)→M k ob)→(S.fresh=false→∀ k ob,ρ.at G k ob→M k ob)→aeu M S.res (o.2.map (@denL (σ.sub 0 (catL es)))) vs:=fun hb1 hb2 M g1 g2=>by
     refine bim (m':=M) (fun k ob hko=>?_) hb1 (bhp hrs) hvs
     rcases hko with hko | ⟨hfr,hko | ⟨b,hb,L,hL,rfl,hob⟩⟩
     ·exact .inl (g1 _ _ hko)
     ·exact .inl (g2 hfr _ _ hko)
     ·right
      unfold bnx at hb2
      have:=List.all_eq_true.1 hb2 b hb
      split at this
      ·rename_i ws G' e' nb hrw
       rw [Ba,Bool.not_eq_true'] at this
       obtain⟨_,_,_,arr,tt,fr,g3,g4,_⟩:=@HRel.rel σ _ _ _ hH b 0 _ L (abm hrw).1 hL
       rw [g3] at hob
       cases hob
       exact⟨arr,tt,fr,rfl,fun j u hu=>by rw [g4.2 this.1 j u hu,this.2]⟩
      ·cases this
    by_cases hbb:(au5 S.res&&bnx H O)=true
    ·rw [Ba] at hbb
     refine hbyte hbb.1 hbb.2 _ (fun k ob hko=>⟨H.n,?_,_,_,upd_same _ _ _,rfl,hko⟩) (fun hfr k ob hko=>?_)
     ·split<;>simp
     ·rw [hfr]
      obtain⟨g,h1,L,M,h2,h3,h4⟩:=hko
      exact⟨g,Mc _ h1,L,M,hle _ _ h2,h3,h4⟩
    refine hvs.mono fun k ob hko=>?_
    rcases hko with hko | ⟨hfr,hko⟩
    ·refine⟨H.n,?_,_,_,upd_same _ _ _,rfl,hko⟩
     split<;>simp
    ·rw [hfr]
     have hO:O=[]:=by
      rw [hfr] at q2
      rcases q2 with q2 | q2 | q2
      ·cases q2
      rotate_left
      ·exact absurd (by rw [q2.1,q2.2];rfl) hbb
      ·cases O with
       | nil=>rfl
       | cons b r=>cases q2
     rcases hko with hko | ⟨b,hb,_⟩
     ·obtain⟨g,h1,L,M,h2,h3,h4⟩:=hko
      exact⟨g,Mc _ h1,L,M,hle _ _ h2,h3,h4⟩
     ·rw [hO] at hb;cases hb
  ·cases hxo
theorem amc{U:Us}{T:FuncId→Option Fsp}(h:∀ f S,T f=some S→aah U P f S):ahh U P (acr T):=by
 intro σ hU t args H outs ho
 unfold acr at ho
 split at ho
 ·rename_i f
  split at ho
  ·rename_i S hS
   obtain⟨h1,h2⟩:=bfk (h f S hS) ho σ hU
   refine⟨h1,fun ρ w us s hs=>?_⟩
   have hs:s=callFunc f us:=hs
   subst hs
   exact h2 ρ w us
  ·cases ho
 ·cases ho
end
end Go.Sx
