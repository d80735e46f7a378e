/-
  A second abstract evaluator of the model's code: records of loops over functions. Conditions: none; nothing here speaks of one program.
-/
import Derived.Test.YtlbbkmcegbeckaaSuA
import Derived.Test.YtlbbkmcegbeckaaSvO
import Derived.RangeFuncMany
import Derived.RangeFuncRecord
set_option linter.all false
set_option maxRecDepth 100000
noncomputable section
namespace Go.Sx
structure SimF (ρ:PM) (H:HP) (w:World) (ρ':PM) (H':HP) (w':World):Prop where
 le:PM.le ρ ρ'
 grow:H.n≤H'.n
 dom:Dom ρ' H'.n
 knc:∀ b i,b<H.n→H.cell b i=none→H'.cell b i=none
 fr:∀ k,k<w.heap.size→(∀ b L,H.Kn b→ρ b=some L→L.B≠k)→w'.heap[k]? = w.heap[k]?
 new:∀ b L,ρ b=none→ρ' b=some L→w.heap.size≤L.B∨∃ b0 L0,H.Kn b0∧ρ b0=some L0∧L0.B=L.B
 size:w.heap.size≤w'.heap.size
 os:w'.os=w.os
 tape:w'.tape=w.tape
 output:w'.output=w.output
 old:∀ b L,ρ b=none→ρ' b=some L→H.n≤b
 jj:J ρ H w→J ρ' H' w'
 ro:∀ g L M k o,ρ g=none→ρ' g=some L→L.M=some M→M k o→(w.heap.size≤k∨∃ b0 L0,H.Kn b0∧ρ b0=some L0∧L0.B=k)∧Nice o
theorem Sim.f[Sg]{ρ ρ':PM}{H H':HP}{w w':World}(h:Sim ρ H w ρ' H' w'):SimF ρ H w ρ' H' w' :=
 ⟨h.le,h.grow,h.dom,h.knc,h.fr,h.new,h.size,h.os,h.tape,h.output,h.old,h.jj,h.ro⟩
theorem SimF.up[Sg]{ρ ρ':PM}{H H':HP}{w w':World}(h:SimF ρ H w ρ' H' w')(hr:HRel ρ' H' w'):Sim ρ H w ρ' H' w' :=
 ⟨h.le,h.grow,h.dom,hr,h.knc,h.fr,h.new,h.size,h.os,h.tape,h.output,h.old,h.jj,h.ro⟩
section
variable [Sg]
theorem SimF.kn{ρ ρ':PM}{H H':HP}{w w':World}(h:SimF ρ H w ρ' H' w'){b:Nat}(hb:b<H.n)(hk:H'.Kn b):H.Kn b:=by
 obtain⟨i,c,hc⟩:=hk
 cases hh:H.cell b i with
 | some c'=>exact⟨i,c',hh⟩
 | none=>rw [h.knc b i hb hh] at hc;cases hc
theorem SimF.trans{ρ ρ1 ρ2:PM}{H H1 H2:HP}{w w1 w2:World}(hd:Dom ρ H.n)(h:SimF ρ H w ρ1 H1 w1)(h':SimF ρ1 H1 w1 ρ2 H2 w2):SimF ρ H w ρ2 H2 w2:=by
 have orig:∀ b0 L0,H1.Kn b0→ρ1 b0=some L0→w.heap.size≤L0.B∨∃ b1 L1,H.Kn b1∧ρ b1=some L1∧L1.B=L0.B:=by
  intro b0 L0 g1 g2
  cases hb0:ρ b0 with
  | some L1 =>
   have:=h.le b0 L1 hb0
   rw [g2] at this
   cases this
   exact .inr ⟨b0,L0,h.kn (hd.lt hb0) g1,hb0,rfl⟩
  | none=>exact h.new b0 L0 hb0 g2
 have key:∀ b L k,H1.Kn b→ρ1 b=some L→k<w.heap.size→(∀ b L,H.Kn b→ρ b=some L→L.B≠k)→L.B≠k:=by
  intro b L k hk hL hlt hno
  rcases orig b L hk hL with h1 | ⟨b1,L1,h1,h2,h3⟩
  ·omega
  ·rw [← h3];exact hno b1 L1 h1 h2
 refine⟨h.le.trans h'.le,Nat.le_trans h.grow h'.grow,h'.dom,fun b i hb hk=>h'.knc b i (Nat.lt_of_lt_of_le hb h.grow) (h.knc b i hb hk),fun k hk hno=>?_,fun b L h1 h2=>?_,
  Nat.le_trans h.size h'.size,h'.os.trans h.os,h'.tape.trans h.tape,h'.output.trans h.output,fun b L h1 h2=>?_,fun hj=>h'.jj (h.jj hj),fun g L M k o h1 h2 h3 h4=>?_⟩
 ·rw [h'.fr k (Nat.lt_of_lt_of_le hk h.size) (fun b L hb hL=>key b L k hb hL hk hno),h.fr k hk hno]
 ·cases hb:ρ1 b with
  | some L1 =>
   have:=h'.le b L1 hb
   rw [h2] at this
   cases this
   exact h.new b L h1 hb
  | none =>
   rcases h'.new b L hb h2 with h3 | ⟨b0,L0,h3,h4,h5⟩
   ·exact .inl (Nat.le_trans h.size h3)
   ·rw [← h5];exact orig b0 L0 h3 h4
 ·cases hb:ρ1 b with
  | some L1=>exact h.old b L1 h1 hb
  | none=>exact Nat.le_trans h.grow (h'.old b L hb h2)
 ·cases hb:ρ1 g with
  | some L1 =>
   have:=h'.le g L1 hb
   rw [h2] at this
   cases this
   exact h.ro g L M k o h1 hb h3 h4
  | none =>
   refine⟨?_,(h'.ro g L M k o hb h2 h3 h4).2⟩
   rcases(h'.ro g L M k o hb h2 h3 h4).1 with h5 | ⟨b0,L0,h5,h6,h7⟩
   ·exact .inl (Nat.le_trans h.size h5)
   ·rw [← h7];exact orig b0 L0 h5 h6
end
structure Ext (k:Nat) (σ σ':Sg):Prop where
 us:σ'.toUs=σ.toUs
 eq:∀ n,n<k→σ'.v n=σ.v n
theorem Ext.refl(k:Nat)(σ:Sg):Ext k σ σ:=⟨rfl,fun _ _=>rfl⟩
theorem Ext.trans{k k':Nat}{σ σ1 σ2:Sg}(h:Ext k σ σ1)(hk:k≤k')(h':Ext k' σ1 σ2):Ext k σ σ2 :=
 ⟨h'.us.trans h.us,fun n hn=>(h'.eq n (Nat.lt_of_lt_of_le hn hk)).trans (h.eq n hn)⟩
def θ(nv:Nat)(l:List X)(n:Nat):X:=match Nat.ble nv n with
 | true=>l.getD (n - nv) (.var n)
 | false=>.var n
mutual
def subX(nv:Nat)(l:List X):X→X
 | .var n=>θ nv l n
 | .lit u=>.lit u
 | .ap f r=>.ap f (apn nv l r)
def apn(nv:Nat)(l:List X):List X→List X
 | []=>[]
 | x::r=>subX nv l x::apn nv l r
end
@[reducible] noncomputable def Sg.sub (σ:Sg) (nv:Nat) (l:List X):Sg:={ toUs:=σ.toUs,v:=fun n=>@den σ (θ nv l n) }
mutual
theorem apy(σ:Sg)(nv:Nat)(l:List X):∀ (e:X),@den σ (subX nv l e)=@den (σ.sub nv l) e
 | .var n=>rfl
 | .lit u=>rfl
 | .ap f r=>by
  show @Fs.ev σ.toUs f (@denL σ (apn nv l r))=@Fs.ev (σ.sub nv l).toUs f (@denL (σ.sub nv l) r)
  rw [a1l σ nv l r]
theorem a1l(σ:Sg)(nv:Nat)(l:List X):∀ (e:List X),@denL σ (apn nv l e)=@denL (σ.sub nv l) e
 | []=>rfl
 | x::r=>by
  show @den σ (subX nv l x)::@denL σ (apn nv l r)=@den (σ.sub nv l) x::@denL (σ.sub nv l) r
  rw [apy σ nv l x,a1l σ nv l r]
end
theorem bgo(σ:Sg)(nv:Nat)(l:List X):Ext nv σ (σ.sub nv l):=⟨rfl,fun n hn=>by
 show @den σ (θ nv l n)=σ.v n
 unfold θ
 have:Nat.ble nv n=false:=by rw [Bool.eq_false_iff];intro h;have:=Nl h;omega
 rw [this]
 rfl⟩
structure Mp where
 ne:Nat
 nv:Nat
 l:List X
 bm:List (Nat×Nat)
 rg:Nat
 rs:List Nat
 ev:List Nat
noncomputable section
def aj9(b:Nat):List (Nat×Nat)→Option Nat
 | []=>none
 | (x,y)::r=>match Nat.beq b x with
  | true=>some y
  | false=>aj9 b r
def Mp.b(m:Mp)(b:Nat):Option Nat:=match Nat.ble (Nat.succ b) m.ne with
 | true=>some b
 | false=>aj9 b m.bm
def Loc.bare(L:Loc):Loc:=⟨L.B,L.o,L.C,none⟩
def Mp.ρ(m:Mp)(ρ1:PM)(w1:World):PM:=fun b=>match Nat.ble (Nat.succ b) m.ne with
 | true=>ρ1 b
 | false=>match Nat.beq b m.rg with
  | true=>some ⟨w1.heap.size,0,0,some (ρ1.at m.rs)⟩
  | false=>match aj9 b m.bm with
   | some b1=>(ρ1 b1).map Loc.bare
   | none=>none
def Mp.x(m:Mp)(e:X):X:=subX m.nv m.l e
def memN(n:Nat):List Nat→Bool
 | []=>false
 | x::r=>match Nat.beq n x with
  | true=>true
  | false=>memN n r
theorem ao3{n:Nat}:∀ {l:List Nat},memN n l=true→n∈l
 | [],h=>by cases h
 | x::r,h=>by
  unfold memN at h
  split at h
  ·rename_i h1;rw [Nb h1];exact Ms ..
  ·exact Mc _ (ao3 h)
def lowN(ne b:Nat):Bool:=Nat.ble (Nat.succ b) ne
def Mp.regs(m:Mp)(loc G G':List Nat):Bool :=
 (G'.all fun g'=>G.any fun g=>match lowN m.ne g with
  | true=>Nat.beq g g'
  | false=>Nat.beq g m.rg&&memN g' m.rs) &&
 (G.all fun g=>match lowN m.ne g with
  | true=>memN g loc||memN g G'
  | false=>Nat.beq g m.rg)
def litS:Srt→Value→Bool
 | .int k,.int k' _=>decide (k=k')
 | .bool,.bool _=>true
 | .str,.string _=>true
 | _,_=>false
def mapB(m:Mp)(b b':Nat):Bool:=match m.b b with
 | some x=>Nat.beq x b'
 | none=>false
def bd0(m:Mp):List (Nat×Nat)→List (Nat×Nat)→Bool
 | [],[]=>true
 | (a,b)::r,(c,d)::s=>mapB m a c&&(Nat.beq b d&&bd0 m r s)
 | _,_=>false
def a4r:X:=.lit (.int .i64 0)
def a8l(m:Mp)(hy:List X)(loc:List Nat):Cel→Cel→Bool
 | .lit a,.lit b=>eqV a b
 | .ptr a b,.ptr c d=>mapB m a c&&Nat.beq b d
 | .sl a b c d,.sl a' b' c' d'=>mapB m a a'&&(Nat.beq b b'&&(Nat.beq c c'&&Nat.beq d d'))
 | .su a b c d,.su a' b' c' d'=>mapB m a a'&&(Nat.beq b b'&&(Nat.beq c c'&&Nat.beq d d'))
 | .sz a b,.sz c d=>mapB m a c&&Nat.beq b d
 | .fn (.func f) xs,.fn (.func g) ys=>Nat.beq f g&&bd0 m xs ys
 | .mp a,.mp b=>mapB m a b
 | .yd a,.yd b=>mapB m a b
 | .us,.us=>true
 | .un k,.un k'=>decide (k=k')
 | .sv s G e,.sv s' G' e'=>eqX (m.x e) e'&&(a5x s s'&&m.regs loc G G')
 | .sv (.sl _) G e,.lit (.slice none _ _)=>eqX (m.x e) (.ap (.nil true) [])&&m.regs loc G []
 | .sv s G e,.lit v=>eqX (m.x e) (.lit v)&&(litS s v&&m.regs loc G [])
 | .pv w G e i o,.pv w' G' e' i' o'=>eqX (m.x e) e'&&(eqX (m.x i) i'&&(Nat.beq o o'&&(afd w w'&&m.regs loc G G')))
 | .os z b n s G e,.os z' b' n' s' G' e'=>mapB m b b'&&(Nat.beq s s'&&(eqX (m.x n) n'&&((eqB z z'||(!z'&&ltX hy a4r n'))&&(m.regs loc G G'&&(eqX (m.x e) e'||(eqB z false||ltX hy a4r n'))))))
 | .os true _ n _ G e,.lit (.slice none _ _)=>leX hy (m.x n) a4r&&(leX hy a4r (m.x n)&&(m.regs loc G []&&eqX (m.x e) (.ap (.nil true) [])))
 | .po b s i o,.po b' s' i' o'=>mapB m b b'&&(Nat.beq s s'&&(eqX (m.x i) i'&&Nat.beq o o'))
 | _,_=>false
def ayl(m:Mp)(hy:List X)(loc:List Nat):List Cel→List Cel→Bool
 | [],[]=>true
 | a::r,b::s=>a8l m hy loc a b&&ayl m hy loc r s
 | _,_=>false
def bkx(m:Mp)(hy:List X)(loc:List Nat)(p q:Bool×List Cel):Bool:=eqB p.1 q.1&&ayl m hy loc p.2 q.2
def a4o(m:Mp)(hy:List X)(loc:List Nat):List (Bool×List Cel)→List (Bool×List Cel)→Bool
 | [],[]=>true
 | a::r,b::s=>bkx m hy loc a b&&a4o m hy loc r s
 | _,_=>false
def bow(m:Mp)(hy:List X)(loc:List Nat):AV→AV→Bool
 | .one a,.one b=>a8l m hy loc a b
 | .agg a,.agg b=>ayl m hy loc a b
 | .tup a,.tup b=>a4o m hy loc a b
 | _,_=>false
def azd(m:Mp)(hy:List X)(loc:List Nat):Fm→Fm→Bool
 | .nil,_=>true
 | .node none l r,t=>azd m hy loc l t.l&&azd m hy loc r t.r
 | .node (some v) l r,.node (some v') l' r'=>bow m hy loc v v'&&(azd m hy loc l l'&&azd m hy loc r r')
 | _,_=>false
def aut(m:Mp)(hy:List X)(loc:List Nat):List Ent→List Ent→Bool
 | [],[]=>true
 | x::r,y::s=>bkx m hy loc x.1 y.1&&(bkx m hy loc x.2.1 y.2.1&&(Nat.beq x.2.2 y.2.2&&aut m hy loc r s))
 | _,_=>false
def ayn(m:Mp)(hy:List X)(loc:List Nat):Ct→Ct→Bool
 | .c a,.c b=>a8l m hy loc a b
 | .room,.room=>true
 | .map es c,.map es' c'=>aut m hy loc es es'&&Nat.beq c c'
 | .rows w G e n,.rows w' G' e' n'=>eqX (m.x e) e'&&(eqX (m.x n) n'&&(afd w w'&&m.regs loc G G'))
 | .loop .ready none n F k,.loop .ready none n' F' k'=>Nat.beq n n'&&(Nat.beq k k'&&azd m hy loc F F')
 | .mx kw va vw e c,.mx kw' va' vw' e' c'=>eqX (m.x e) e'&&(eqX (m.x c) c'&&(afd kw kw'&&(eqB va va'&&afd vw vw')))
 | .mx _ _ _ e c,.map [] clock=>eqX (m.x e) (.ap (.nil false) [])&&eqX (m.x c) (.lit (.int .i64 (Int.ofNat clock)))
 | .ix b s c,.ix b' s' c'=>mapB m b b'&&(eqX (m.x s) s'&&eqX (m.x c) c')
 | _,_=>false
def bfb(m:Mp)(hy:List X)(loc:List Nat):List (Option Ct)→List (Option Ct)→Bool
 | [],_=>true
 | none::r,_::s=>bfb m hy loc r s
 | some a::r,some b::s=>ayn m hy loc a b&&bfb m hy loc r s
 | _,_=>false
def be9(m:Mp)(hy:List X)(loc:List Nat):Bk→Bk→Bool
 | .lf a,.lf b=>bfb m hy loc a b
 | .fl n c,.fl n' c'=>Nat.beq n n'&&a8l m hy loc c c'
 | .nd n l r,.nd n' l' r'=>Nat.beq n n'&&(be9 m hy loc l l'&&be9 m hy loc r r')
 | _,_=>false
def kn0:Bk→Bool
 | .lf (some _::_)=>true
 | _=>false
def boy(m:Mp)(hy:List X)(loc:List Nat)(H2 H1:HP)(b:Nat):Bool :=
 match H2.t.get b with
 | none=>true
 | some k2=>match m.b b with
  | none=>true
  | some b1=>match H1.t.get b1 with
   | some k1=>be9 m hy loc k2 k1
   | none=>false
def allN(p:Nat→Bool)(n:Nat):Bool:=Nat.rec (motive:=fun _=>Bool) true (fun k ih=>p k&&ih) n
theorem a4u{p:Nat→Bool}:∀ {n:Nat},allN p n=true→∀ i,i<n→p i=true
 | 0,_,i,hi=>by omega
 | n+1,h,i,hi=>by
  have h':(p n&&allN p n)=true:=h
  rw [Ba] at h'
  rcases Nat.lt_or_ge i n with h1 | h1
  ·exact a4u h'.2 i h1
  ·rw [show i=n by omega];exact h'.1
def bmOK(m:Mp)(H2 H1:HP):List (Nat×Nat)→List Nat→Bool
 | [],_=>true
 | (h,b)::r,seen=>Nat.ble m.ne h&&(Nat.ble (Nat.succ h) H2.n&&(!Nat.beq h m.rg&&((match H1.t.get b with
  | some k=>kn0 k
  | none=>false)&&((match lowN m.ne b with
   | true=>(match H2.t.get b with | none=>true | some _=>false)
   | false=>true)&&(!memN b seen&&bmOK m H2 H1 r (b::seen))))))
def locC:List Cel→List Nat
 | []=>[]
 | .sv _ G _::r=>G++locC r
 | _::r=>locC r
def locE(F:Fm):List Nat→List Nat
 | []=>[]
 | t::r=>match F.get t with
  | some (.one (.sv _ G _))=>G++locE F r
  | some (.one (.os _ _ _ _ G _))=>G++locE F r
  | some (.agg xs)=>locC xs++locE F r
  | _=>locE F r
def a06(m:Mp)(F2:Fm)(H2:HP)(F1:Fm)(H1:HP):Bool :=
 Nat.ble (Nat.succ m.rg) H2.n&&(Nat.ble m.ne m.rg&&((match H2.t.get m.rg with | none=>true | some _=>false)&&((m.rs.all fun g=>Nat.ble m.ne g) &&
  (bmOK m H2 H1 m.bm []&&(azd m H1.hy (locE F1 m.ev) F2 F1&&allN (boy m H1.hy (locE F1 m.ev) H2 H1) H2.n)))))
end
structure MpOK (m:Mp) (ρ1 ρ2:PM) (loc:List Nat):Prop where
 b:∀ h b L,m.b h=some b→ρ1 b=some L→∃ L',ρ2 h=some L'∧L'.B=L.B∧L'.o=L.o∧L'.C=L.C
 lo:∀ g,g<m.ne→ρ2 g=ρ1 g
 rg:∃ L,ρ2 m.rg=some L∧L.M=some (ρ1.at m.rs)
 loc:∀ g∈loc,∃ L,ρ1 g=some L
theorem a6k{ne b:Nat}(h:lowN ne b=true):b<ne:=Nl h
theorem Mp.regs_ok{m:Mp}{ρ1 ρ2:PM}{loc G G':List Nat}(M:MpOK m ρ1 ρ2 loc)(h:m.regs loc G G'=true)(hG:∀ g∈G',∃ L,ρ1 g=some L) :
  (∀ g∈G,∃ L,ρ2 g=some L)∧∀ k o,ρ1.at G' k o→ρ2.at G k o:=by
 unfold Mp.regs at h
 rw [Ba] at h
 obtain⟨h1,h2⟩:=h
 refine⟨fun g hg=>?_,fun k o ⟨g',hg',L,Mm,e1,e2,e3⟩=>?_⟩
 ·have:=List.all_eq_true.1 h2 g hg
  split at this
  ·rename_i hl
   rw [M.lo g (a6k hl)]
   rw [Bool.or_eq_true] at this
   rcases this with h3 | h3
   ·exact M.loc g (ao3 h3)
   ·exact hG g (ao3 h3)
  ·rw [Nb this]
   obtain⟨L,hL,_⟩:=M.rg
   exact⟨L,hL⟩
 ·obtain⟨g,hg,h3⟩:=List.any_eq_true.1 (List.all_eq_true.1 h1 g' hg')
  split at h3
  ·rename_i hl
   rw [Nb h3] at hl hg
   exact⟨g',hg,L,Mm,by rw [M.lo g' (a6k hl)];exact e1,e2,e3⟩
  ·rw [Ba] at h3
   obtain⟨L2,hL2,hM2⟩:=M.rg
   exact⟨g,hg,L2,_,by rw [Nb h3.1];exact hL2,hM2,g',ao3 h3.2,L,Mm,e1,e2,e3⟩
theorem adl{m:Mp}{b b':Nat}(h:mapB m b b'=true):m.b b=some b':=by
 unfold mapB at h
 split at h
 ·rename_i x hx;rw [hx,Nb h]
 ·cases h
section
variable {σ:Sg} {m:Mp} {ρ1 ρ2:PM} {loc:List Nat} {hy:List X}
theorem aik(e:X):@den σ (m.x e)=@den (Sg.sub σ m.nv m.l) e:=apy σ m.nv m.l e
theorem a8m(M:MpOK m ρ1 ρ2 loc):∀ {xs ys:List (Nat×Nat)} {us:List Value},bd0 m xs ys=true→All2 (fun(p:Nat×Nat) v=>∃ L,ρ1 p.1=some L∧v=Value.pointer (some ⟨L.B,L.o+p.2,none⟩)) ys us →
  All2 (fun(p:Nat×Nat) v=>∃ L,ρ2 p.1=some L∧v=Value.pointer (some ⟨L.B,L.o+p.2,none⟩)) xs us
 | [],[],[],_,_=>trivial
 | (a,b)::r,(c,d)::s,u::us,h,⟨⟨L,h1,h2⟩,h3⟩=>by
  simp only [bd0,Ba] at h
  obtain⟨g1,g2,g3⟩:=h
  obtain⟨L',e1,e2,e3,_⟩:=M.b a c L (adl g1) h1
  have:=Nb g2
  simp only at this h2
  subst this
  exact⟨⟨L',e1,by rw [h2,e2,e3]⟩,a8m M g3 h3⟩
 | [],[],_::_,_,h=>h.elim
 | [],_::_,_,h,_=>by cases h
 | _::_,[],_,h,_=>by cases h
 | _::_,_::_,[],_,h=>h.elim
theorem aus(M:MpOK m ρ1 ρ2 loc)(hhy:@Holds σ hy){c2 c1:Cel}{u:Value}(h:a8l m hy loc c2 c1=true)(hr:@CRel σ ρ1 c1 u):@CRel (Sg.sub σ m.nv m.l) ρ2 c2 u:=by
 unfold a8l at h
 split at h
 ·rw [a1o h];exact hr
 ·rename_i a b c d
  rw [Ba] at h
  obtain⟨L,h1,h2⟩:=hr
  obtain⟨L',e1,e2,e3,_⟩:=M.b a c L (adl h.1) h1
  rw [Nb h.2]
  exact⟨L',e1,by rw [h2,e2,e3]⟩
 ·rename_i a b c d a' b' c' d'
  simp only [Ba] at h
  obtain⟨g1,g2,g3,g4⟩:=h
  obtain⟨⟨L,h1,h2⟩,h3⟩:=hr
  obtain⟨L',e1,e2,e3,_⟩:=M.b a a' L (adl g1) h1
  rw [Nb g2,Nb g3,Nb g4]
  exact⟨⟨L',e1,by rw [h2,e2,e3]⟩,h3⟩
 ·rename_i a b c d a' b' c' d'
  simp only [Ba] at h
  obtain⟨g1,g2,g3,g4⟩:=h
  obtain⟨L,cap,h1,h2,h3,h4,h5⟩:=hr
  obtain⟨L',e1,e2,e3,e4⟩:=M.b a a' L (adl g1) h1
  rw [Nb g2,Nb g3,Nb g4]
  exact⟨L',cap,e1,by rw [h2,e2,e3],h3,h4,by rw [e3,e4];exact h5⟩
 ·rename_i a b c d
  rw [Ba] at h
  obtain⟨L,o,cap,h1,h2,h3,h4,h5,h6⟩:=hr
  obtain⟨L',e1,e2,e3,e4⟩:=M.b a c L (adl h.1) h1
  rw [Nb h.2]
  exact⟨L',o,cap,e1,by rw [h2,e2],h3,by rw [e3];exact h4,by rw [e4];exact h5,by rw [e4];exact h6⟩
 ·rename_i f xs g ys
  rw [Ba] at h
  obtain⟨us,h1,h2⟩:=hr
  rw [Nb h.1]
  exact⟨us,h1,a8m M h.2 h2⟩
 ·rename_i a c
  obtain⟨L,h1,h2⟩:=hr
  obtain⟨L',e1,e2,e3,_⟩:=M.b a c L (adl h) h1
  exact⟨L',e1,by rw [h2,e2]⟩
 ·rename_i a c
  obtain⟨L,h1,h2⟩:=hr
  obtain⟨L',e1,e2,e3,_⟩:=M.b a c L (adl h) h1
  exact⟨L',e1,by rw [h2,e2]⟩
 ·exact hr
 ·rw [of_decide_eq_true h];exact hr
 ·rename_i s G e s2 G2 e2
  simp only [Ba] at h
  obtain⟨g1,g2,g3⟩:=h
  obtain⟨h1,h2⟩:=hr
  obtain⟨k1,k2⟩:=m.regs_ok M g3 h1
  refine⟨k1,?_⟩
  rw [← aik,aap g1,air g2]
  exact h2.mono k2
 ·rename_i w G e n c
  rw [Ba] at h
  obtain⟨g1,g3⟩:=h
  obtain⟨h1,h2⟩:=hr
  obtain⟨k1,k2⟩:=m.regs_ok M g3 (fun g hg=>by cases hg)
  simp only [abw,Ba] at h2
  have e1:=Nb h2.1
  have e2:=Nb h2.2
  subst e1
  subst e2
  subst h1
  refine⟨k1,?_⟩
  rw [← aik,aap g1]
  exact .inl ⟨rfl,rfl⟩
 ·rename_i s G e v
  simp only [Ba] at h
  obtain⟨g1,g2,g3⟩:=h
  obtain⟨h1,h2⟩:=hr
  obtain⟨k1,k2⟩:=m.regs_ok M g3 (fun g hg=>by cases hg)
  refine⟨k1,?_⟩
  rw [← aik,aap g1]
  subst h1
  unfold litS at g2
  split at g2
  ·rename_i k k' z
   rw [of_decide_eq_true g2]
   exact⟨z,rfl,rfl,h2⟩
  ·rename_i b
   exact⟨b,rfl,rfl⟩
  ·rename_i s
   refine⟨s,rfl,rfl,?_⟩
   simp only [abw,Dt] at h2
   exact h2
  ·cases g2
 ·rename_i w G e i o w2 G2 e2 i2 o2
  simp only [Ba] at h
  obtain⟨g1,g2,g3,g4,g5⟩:=h
  obtain⟨h1,b,oo,cap,h2,h3,h4,h5⟩:=hr
  obtain⟨k1,k2⟩:=m.regs_ok M g5 h1
  refine⟨k1,b,oo,cap,?_,?_,?_,?_⟩
  ·rw [← aik,aap g1,abj g4];exact h2.mono k2
  ·rw [← aik,aap g2];exact h3
  ·rw [← aik,← aik,aap g2,aap g1];exact h4
  ·rw [← aik,aap g2,abj g4,Nb g3];exact h5
 ·rename_i z b n s G e z2 b2 n2 s2 G2 e2
  simp only [Ba] at h
  obtain⟨g1,g2,g3,g4,g5,g6⟩:=h
  obtain⟨hG,hr⟩:=hr
  refine⟨(m.regs_ok M g5 hG).1,?_⟩
  have hs:=Nb g2
  subst hs
  have hn:@den (Sg.sub σ m.nv m.l) n=@den σ n2:=by rw [← aik,aap g3]
  rw [Bool.or_eq_true] at g4
  rcases g4 with hz | hz
  rotate_left
  ·rw [Ba] at hz
   have hlt:=@agh σ hy hhy _ _ hz.2
   have hzx:(@den σ a4r).iv=0:=rfl
   rcases hr with ⟨h1,h2,h2',h3⟩ | ⟨h0,L,k,cap,h1,h2,h3,h4,h5,h6,h7⟩
   ·omega
   ·obtain⟨L',e1,e2,e3,e4⟩:=M.b b b2 L (adl g1) h1
    exact .inr ⟨fun hh=>by rw [hn] at hh;omega,L',k,cap,e1,by rw [hn];exact h2,by rw [h3,e2,e3],h4,h5,h6,by rw [e3,e4];exact h7⟩
  have hz:=aue hz
  subst hz
  rcases hr with ⟨h1,h2,h2',h3⟩ | ⟨h0,L,k,cap,h1,h2,h3,h4,h5,h6,h7⟩
  ·refine .inl ⟨h1,by rw [hn];exact h2,?_,h3⟩
   simp only [Bool.or_eq_true] at g6
   rcases g6 with g6 | g6 | g6
   ·rw [← aik,aap g6];exact h2'
   ·rw [h1] at g6;cases g6
   ·have:=@agh σ hy hhy _ _ g6
    have hz:(@den σ a4r).iv=0:=rfl
    omega
  ·obtain⟨L',e1,e2,e3,e4⟩:=M.b b b2 L (adl g1) h1
   exact .inr ⟨by rw [hn];exact h0,L',k,cap,e1,by rw [hn];exact h2,by rw [h3,e2,e3],h4,h5,h6,by rw [e3,e4];exact h7⟩
 ·rename_i b n s G e a c
  simp only [Ba] at h
  obtain⟨h1,h2⟩:=hr
  have k1:=@acu σ hy hhy _ _ h.1
  have k2:=@acu σ hy hhy _ _ h.2.1
  have hz:(@den σ a4r).iv=0:=rfl
  simp only [abw,Ba] at h2
  refine⟨(m.regs_ok M h.2.2.1 (fun g hg=>by cases hg)).1,.inl ⟨rfl,?_,?_,?_⟩⟩
  ·rw [← aik];omega
  ·rw [← aik,aap h.2.2.2];rfl
  ·rw [h1,Nb h2.1,Nb h2.2]
 ·rename_i b s i o b2 s2 i2 o2
  simp only [Ba] at h
  obtain⟨g1,g2,g3,g4⟩:=h
  obtain⟨L,h1,h2,h3⟩:=hr
  obtain⟨L',e1,e2,e3,e4⟩:=M.b b b2 L (adl g1) h1
  have hn:@den (Sg.sub σ m.nv m.l) i=@den σ i2:=by rw [← aik,aap g3]
  exact⟨L',e1,by rw [hn];exact h2,by rw [hn,h3,e2,e3,Nb g2,Nb g4]⟩
 ·cases h
theorem aym(M:MpOK m ρ1 ρ2 loc)(hhy:@Holds σ hy):∀ {xs ys:List Cel} {us:List Value},ayl m hy loc xs ys=true→All2 (@CRel σ ρ1) ys us→All2 (@CRel (Sg.sub σ m.nv m.l) ρ2) xs us
 | [],[],[],_,_=>trivial
 | a::r,b::s,u::us,h,⟨h1,h2⟩=>by
  simp only [ayl,Ba] at h
  exact⟨aus M hhy h.1 h1,aym M hhy h.2 h2⟩
 | [],[],_::_,_,h=>h.elim
 | [],_::_,_,h,_=>by cases h
 | _::_,[],_,h,_=>by cases h
 | _::_,_::_,[],_,h=>h.elim
theorem a4n(M:MpOK m ρ1 ρ2 loc)(hhy:@Holds σ hy){p q:Bool×List Cel}{u:Value}(h:bkx m hy loc p q=true)(hr:@PRel σ ρ1 q u):@PRel (Sg.sub σ m.nv m.l) ρ2 p u:=by
 unfold bkx at h
 rw [Ba] at h
 obtain⟨b,xs⟩:=p
 obtain⟨b',ys⟩:=q
 have hb:=aue h.1
 simp only at hb h
 subst hb
 cases b with
 | true =>
  obtain⟨us,h1,h2⟩:=hr
  exact⟨us,h1,aym M hhy h.2 h2⟩
 | false =>
  match xs,ys,h.2,hr with
  | [x],[y],h2,hr =>
   have:a8l m hy loc x y=true:=by
    have h3:(a8l m hy loc x y&&ayl m hy loc [] [])=true:=h2
    rw [Ba] at h3
    exact h3.1
   exact aus M hhy this hr
  | _,[],_,hr=>exact hr.elim
  | _,_::_::_,_,hr=>exact hr.elim
  | [],[_],h2,_=>cases h2
  | _::_::_,[_],h2,_ =>
   have h3:=h2
   simp only [ayl,Ba] at h3
   cases h3.2
theorem a07(M:MpOK m ρ1 ρ2 loc)(hhy:@Holds σ hy):∀ {xs ys:List (Bool×List Cel)} {us:List Value},a4o m hy loc xs ys=true→All2 (@PRel σ ρ1) ys us→All2 (@PRel (Sg.sub σ m.nv m.l) ρ2) xs us
 | [],[],[],_,_=>trivial
 | a::r,b::s,u::us,h,⟨h1,h2⟩=>by
  simp only [a4o,Ba] at h
  exact⟨a4n M hhy h.1 h1,a07 M hhy h.2 h2⟩
 | [],[],_::_,_,h=>h.elim
 | [],_::_,_,h,_=>by cases h
 | _::_,[],_,h,_=>by cases h
 | _::_,_::_,[],_,h=>h.elim
theorem bdz(M:MpOK m ρ1 ρ2 loc)(hhy:@Holds σ hy){a b:AV}{u:Value}(h:bow m hy loc a b=true)(hr:@VRel σ ρ1 b u):@VRel (Sg.sub σ m.nv m.l) ρ2 a u:=by
 unfold bow at h
 split at h
 ·exact aus M hhy h hr
 ·obtain⟨us,h1,h2⟩:=hr
  exact⟨us,h1,aym M hhy h h2⟩
 ·obtain⟨us,h1,h2⟩:=hr
  exact⟨us,h1,a07 M hhy h h2⟩
 ·cases h
theorem amg:∀ {s t:Fm},azd m hy loc s t=true→∀ n v,s.get n=some v→∃ v',t.get n=some v'∧bow m hy loc v v'=true
 | .nil,t,_,n,v,h=>by rw [PT.get_nil] at h;cases h
 | .node none l r,t,h,n,v,hg=>by
  simp only [azd,Ba] at h
  rw [PT.get_eq] at hg ⊢
  by_cases h0:n=0
  ·rw [if_pos h0] at hg
   cases (show(none:Option AV)=some v from hg)
  ·rw [if_neg h0] at hg ⊢
   by_cases h1:n % 2=1
   ·rw [if_pos h1] at hg ⊢;exact amg h.1 _ v hg
   ·rw [if_neg h1] at hg ⊢;exact amg h.2 _ v hg
 | .node (some v0) l r,.node (some v0') l' r',h,n,v,hg=>by
  simp only [azd,Ba] at h
  rw [PT.get_eq] at hg ⊢
  by_cases h0:n=0
  ·rw [if_pos h0] at hg ⊢
   cases (show some v0=some v from hg)
   exact⟨v0',rfl,h.1⟩
  ·rw [if_neg h0] at hg ⊢
   by_cases h1:n % 2=1
   ·rw [if_pos h1] at hg ⊢;exact amg h.2.1 _ v hg
   ·rw [if_neg h1] at hg ⊢;exact amg h.2.2 _ v hg
 | .node (some _) _ _,.nil,h,_,_,_=>by cases h
 | .node (some _) _ _,.node none _ _,h,_,_,_=>by cases h
theorem ayo(M:MpOK m ρ1 ρ2 loc)(hhy:@Holds σ hy):∀ {xs ys:List Ent} {us:List MapEntry},aut m hy loc xs ys=true→All2 (@auu σ ρ1) ys us→All2 (@auu (Sg.sub σ m.nv m.l) ρ2) xs us
 | [],[],[],_,_=>trivial
 | a::r,b::s,u::us,h,⟨⟨h1,h2,h3⟩,h4⟩=>by
  simp only [aut,Ba] at h
  obtain⟨g1,g2,g3,g4⟩:=h
  exact⟨⟨a4n M hhy g1 h1,a4n M hhy g2 h2,by rw [h3,Nb g3]⟩,ayo M hhy g4 h4⟩
 | [],[],_::_,_,h=>h.elim
 | [],_::_,_,h,_=>by cases h
 | _::_,[],_,h,_=>by cases h
 | _::_,_::_,[],_,h=>h.elim
theorem bkw(M:MpOK m ρ1 ρ2 loc)(hhy:@Holds σ hy){a b:Ct}{w:World}{L L':Loc}{i:Nat}(hL:L'.B=L.B∧L'.o=L.o∧L'.C=L.C)(h:ayn m hy loc a b=true)(hr:@aei σ ρ1 w L i b):@aei (Sg.sub σ m.nv m.l) ρ2 w L' i a:=by
 obtain⟨e1,e2,e3⟩:=hL
 unfold ayn at h
 split at h
 ·obtain⟨arr,t,fr,u,h1,h2,h3,h4,h5⟩:=hr
  exact⟨arr,t,fr,u,by rw [e1];exact h1,h2,by rw [e3];exact h3,by rw [e2];exact h4,aus M hhy h h5⟩
 ·obtain⟨arr,t,fr,h1,h2,h3,h4⟩:=hr
  exact⟨arr,t,fr,by rw [e1];exact h1,h2,by rw [e3];exact h3,by rw [e2];exact h4⟩
 ·rw [Ba] at h
  obtain⟨h1,h2,arr,h3,h4⟩:=hr
  exact⟨h1,by rw [e2];exact h2,arr,by rw [e1,Nb h.2];exact h3,ayo M hhy h.1 h4⟩
 ·rename_i w1 G e n w2 G2 e2' n2
  simp only [Ba] at h
  obtain⟨g1,g1',g2,g3⟩:=h
  have hnn:@den (Sg.sub σ m.nv m.l) n=@den σ n2:=by rw [← aik,aap g1']
  obtain⟨h0,hG,hln,arr,t,fr,h1,h2,h3,h4,h5,h6⟩:=hr
  obtain⟨k1,k2⟩:=m.regs_ok M g3 hG
  have hn:@den (Sg.sub σ m.nv m.l) e=@den σ e2':=by rw [← aik,aap g1]
  have hs:=abj g2
  subst hs
  exact⟨h0,k1,by rw [hnn,hn];exact hln,arr,t,fr,by rw [e1];exact h1,h2,by rw [e3];exact h3,by rw [hn,e2];exact h4,by rw [hn];exact h5,fun i row hi=>by
   rw [hn] at hi
   have:=(h6 i row hi).mono k2
   rw [e2]
   exact this⟩
 ·rename_i n F k n' F' k'
  simp only [Ba] at h
  obtain⟨g1,g2,g3⟩:=h
  obtain⟨h1,h2,r,h3,h4,h5,h6,h7,h8,h9,h10⟩:=hr
  have hk:=Nb g2
  subst hk
  refine⟨h1,by rw [e2];exact h2,r,by rw [e1];exact h3,h4,h5,h6,h7,h8,h9.trans (Nb g1).symm,fun t v hv=>?_⟩
  obtain⟨v',k1,k2⟩:=amg g3 t v hv
  obtain⟨u,k3,k4⟩:=h10 t v' k1
  exact⟨u,k3,bdz M hhy k2 k4⟩
 ·rename_i kw va vw e c kw' va' vw' e' c'
  simp only [Ba] at h
  obtain⟨g1,g2,g3,g4,g5⟩:=h
  obtain⟨h1,h2,arr,clock,h3,h4,h5⟩:=hr
  rw [abj g3,aue g4,abj g5]
  exact⟨h1,by rw [e2];exact h2,arr,clock,by rw [e1];exact h3,by rw [← aik,aap g2];exact h4,by rw [← aik,aap g1];exact h5⟩
 ·rename_i e c clock
  rw [Ba] at h
  obtain⟨g1,g2⟩:=h
  obtain⟨h1,h2,arr,h3,h4⟩:=hr
  refine⟨h1,by rw [e2];exact h2,arr,clock,by rw [e1];exact h3,by rw [← aik,aap g2];rfl,?_⟩
  rw [← aik,aap g1]
  cases hl:arr.toList with
  | nil=>exact⟨trivial,.nil⟩
  | cons x r=>rw [hl] at h4;exact h4.elim
 ·rename_i b s c b' s' c'
  simp only [Ba] at h
  obtain⟨g1,g2,g3⟩:=h
  obtain⟨h1,h2,K,since,seen,h3,h4,h5,h6⟩:=hr
  obtain⟨K',k1,k2,_⟩:=M.b b b' K (adl g1) h3
  exact⟨h1,by rw [e2];exact h2,K',since,seen,k1,by rw [e1,k2];exact h4,by rw [← aik,aap g3];exact h5,by rw [← aik,aap g2];exact h6⟩
 ·cases h
theorem ayp:∀ {xs ys:List (Option Ct)},bfb m hy loc xs ys=true→∀ (i:Nat) (c:Ct),(xs[i]?).join=some c→∃ c',(ys[i]?).join=some c'∧ayn m hy loc c c'=true
 | [],ys,_,i,c,h=>by simp at h
 | none::r,y::s,h,i,c,hc=>by
  have h':bfb m hy loc r s=true:=h
  cases i with
  | zero=>simp at hc
  | succ i =>
   simp only [List.getElem?_cons_succ] at hc ⊢
   exact ayp h' i c hc
 | some a::r,some b::s,h,i,c,hc=>by
  simp only [bfb,Ba] at h
  cases i with
  | zero =>
   simp only [List.getElem?_cons_zero,Option.join_some,Oi] at hc ⊢
   subst hc
   exact⟨b,rfl,h.1⟩
  | succ i =>
   simp only [List.getElem?_cons_succ] at hc ⊢
   exact ayp h.2 i c hc
 | none::_,[],h,_,_,_=>by cases h
 | some _::_,[],h,_,_,_=>by cases h
 | some _::_,none::_,h,_,_,_=>by cases h
theorem aps:∀ {k k':Bk},be9 m hy loc k k'=true→∀ (i:Nat) (c:Ct),k.get i=some c→∃ c',k'.get i=some c'∧ayn m hy loc c c'=true
 | .lf a,.lf b,h,i,c,hc=>by
  exact ayp h i c hc
 | .fl n x,.fl n' x',h,i,c,hc=>by
  simp only [be9,Ba] at h
  have hc:(if i<n then some (Ct.c x) else none)=some c:=hc
  show ∃ c',(if i<n' then some (Ct.c x') else none)=some c'∧_
  rw [← Nb h.1]
  split at hc
  ·rename_i hi
   cases hc
   exact⟨.c x',if_pos hi,h.2⟩
  ·cases hc
 | .nd n l r,.nd n' l' r',h,i,c,hc=>by
  simp only [be9,Ba] at h
  obtain⟨g1,g2,g3⟩:=h
  have hc:(if i<n then l.get i else r.get (i - n))=some c:=hc
  show ∃ c',(if i<n' then l'.get i else r'.get (i - n'))=some c'∧_
  rw [← Nb g1]
  split at hc
  ·rename_i hi
   rw [if_pos hi]
   exact aps g2 i c hc
  ·rename_i hi
   rw [if_neg hi]
   exact aps g3 _ c hc
 | .lf _,.fl _ _,h,_,_,_=>by cases h
 | .lf _,.nd _ _ _,h,_,_,_=>by cases h
 | .fl _ _,.lf _,h,_,_,_=>by cases h
 | .fl _ _,.nd _ _ _,h,_,_,_=>by cases h
 | .nd _ _ _,.lf _,h,_,_,_=>by cases h
 | .nd _ _ _,.fl _ _,h,_,_,_=>by cases h
theorem ae3{b y:Nat}:∀ {l:List (Nat×Nat)},aj9 b l=some y→(b,y)∈l
 | [],h=>by cases h
 | (x,z)::r,h=>by
  unfold aj9 at h
  split at h
  ·rename_i h1
   cases h
   rw [Nb h1]
   exact Ms ..
  ·exact Mc _ (ae3 h)
structure BmOne (m:Mp) (H2 H1:HP) (h b:Nat):Prop where
 ge:m.ne≤h
 lt:h<H2.n
 ne:h≠m.rg
 kn:H1.Kn b
 out:b<m.ne→H2.t.get b=none
theorem bmn{H:HP}{b:Nat}{k:Bk}(h:H.t.get b=some k)(hk:kn0 k=true):H.Kn b:=by
 unfold kn0 at hk
 split at hk
 ·rename_i c r
  exact⟨0,c,by unfold HP.cell;rw [h];rfl⟩
 ·cases hk
theorem a4y{m:Mp}{H2 H1:HP}:∀ {l:List (Nat×Nat)} {seen:List Nat},bmOK m H2 H1 l seen=true→(∀ p∈l,BmOne m H2 H1 p.1 p.2∧p.2∉seen)∧∀ p∈l,∀ q∈l,p.2=q.2→aj9 p.1 l=some p.2→aj9 q.1 l=some q.2→p.1=q.1
 | [],seen,_=>⟨fun p hp=>(by cases hp),fun p hp=>(by cases hp)⟩
 | (h,b)::r,seen,hk=>by
  simp only [bmOK,Ba,Bool.not_eq_true'] at hk
  obtain⟨g1,g2,g3,g4,g5,g6,g7⟩:=hk
  obtain⟨k1,k2⟩:=a4y g7
  have hone:BmOne m H2 H1 h b:=by
   refine⟨Nl g1,Nl g2,fun e=>?_,?_,fun hb=>?_⟩
   ·rw [e,Nat.beq_refl] at g3;cases g3
   ·split at g4
    ·rename_i k hk;exact bmn hk g4
    ·cases g4
   ·have:lowN m.ne b=true:=Nat.ble_eq_true_of_le hb
    rw [this] at g5
    simp only at g5
    split at g5
    ·assumption
    ·cases g5
  have hns:b∉seen:=fun hm=>by
   have:∀ (l:List Nat),b∈l→memN b l=true:=by
    intro l
    induction l with
    | nil=>intro h;cases h
    | cons x l ih =>
     intro hm
     unfold memN
     split
     ·rfl
     ·rename_i h1
      rcases Mn.1 hm with rfl | hm
      ·rw [Nat.beq_refl] at h1;cases h1
      ·exact ih hm
   rw [this seen hm] at g6
   cases g6
  refine⟨fun p hp=>?_,fun p hp q hq he hlp hlq=>?_⟩
  ·rcases Mn.1 hp with rfl | hp
   ·exact⟨hone,hns⟩
   ·exact⟨(k1 p hp).1,fun hm=>(k1 p hp).2 (Mc _ hm)⟩
  ·have hdiff:∀ q∈r,q.2≠b:=fun q hq e=>(k1 q hq).2 (by rw [e];exact Ms ..)
   have hn:∀ {x:Nat},x≠h→Nat.beq x h=false:=fun {x} hx=>by
    rw [Bool.eq_false_iff];intro hh;exact hx (Nb hh)
   have hfst:∀ (x y:Nat),aj9 x ((h,b)::r)=some y→(x=h∧y=b)∨(x≠h∧aj9 x r=some y):=fun x y hl=>by
    by_cases e:x=h
    ·refine .inl ⟨e,?_⟩
     unfold aj9 at hl
     rw [e,Nat.beq_refl] at hl
     exact(Option.some.inj hl).symm
    ·refine .inr ⟨e,?_⟩
     unfold aj9 at hl
     rw [hn e] at hl
     exact hl
   rcases Mn.1 hp with hp1 | hp1
   ·rcases Mn.1 hq with hq1 | hq1
    ·rw [hp1,hq1]
    ·exact absurd (by rw [← he,hp1]) (hdiff q hq1)
   ·rcases Mn.1 hq with hq1 | hq1
    ·exact absurd (by rw [he,hq1]) (hdiff p hp1)
    ·rcases hfst _ _ hlp with ⟨_,e⟩ | ⟨_,e1⟩
     ·exact absurd e (hdiff p hp1)
     ·rcases hfst _ _ hlq with ⟨_,e⟩ | ⟨_,e2⟩
      ·exact absurd e (hdiff q hq1)
      ·exact k2 p hp1 q hq1 he e1 e2
end
section
variable {σ:Sg} {m:Mp} {n:Nat} {F1 F2:Fm} {H1 H2 He:HP} {ρe ρ1:PM} {a:Act} {we w1:World}
theorem a9u:∀ {xs:List Cel} {us:List Value},All2 (@CRel σ ρ1) xs us→∀ g∈locC xs,∃ L,ρ1 g=some L
 | [],[],_,g,hg=>by cases hg
 | c::cs,u::us,⟨h1,h2⟩,g,hg=>by
  cases c with
  | sv s G e =>
   rcases List.mem_append.1 (show g∈G++locC cs from hg) with h3 | h3
   ·exact h1.1 g h3
   ·exact a9u h2 g h3
  | _=>exact a9u h2 g hg
 | [],_::_,h,_,_=>h.elim
 | _::_,[],h,_,_=>h.elim
theorem av3(h:@FRel σ n ρ1 F1 a):∀ (l:List Nat),∀ g∈locE F1 l,∃ L,ρ1 g=some L
 | [],g,hg=>by cases hg
 | t::r,g,hg=>by
  unfold locE at hg
  split at hg
  ·rename_i s G e ht
   rcases List.mem_append.1 hg with h1 | h1
   ·obtain⟨u,_,h2,_⟩:=@FRel.get σ _ _ _ _ h t _ ht
    exact h2 g h1
   ·exact av3 h r g h1
  ·rename_i z b n s G e ht
   rcases List.mem_append.1 hg with h1 | h1
   ·obtain⟨u,_,h2,_⟩:=@FRel.get σ _ _ _ _ h t _ ht
    exact h2 g h1
   ·exact av3 h r g h1
  ·rename_i xs ht
   rcases List.mem_append.1 hg with h1 | h1
   ·obtain⟨u,_,us,_,h2⟩:=@FRel.get σ _ _ _ _ h t _ ht
    exact a9u h2 g h1
   ·exact av3 h r g h1
  ·exact av3 h r g hg
structure VOK (m:Mp) (F2:Fm) (H2:HP) (F1:Fm) (H1:HP):Prop where
 rlt:m.rg<H2.n
 rge:m.ne≤m.rg
 rno:H2.t.get m.rg=none
 rs:∀ g∈m.rs,m.ne≤g
 bm:bmOK m H2 H1 m.bm []=true
 fr:azd m H1.hy (locE F1 m.ev) F2 F1=true
 hp:∀ b,b<H2.n→boy m H1.hy (locE F1 m.ev) H2 H1 b=true
theorem ayq(h:a06 m F2 H2 F1 H1=true):VOK m F2 H2 F1 H1:=by
 unfold a06 at h
 simp only [Ba] at h
 obtain⟨h1,h2,h3,h4,h5,h6,h7⟩:=h
 refine⟨Nl h1,Nl h2,?_,fun g hg=>Nl (List.all_eq_true.1 h4 g hg),h5,h6,fun b hb=>a4u h7 b hb⟩
 split at h3
 ·assumption
 ·cases h3
theorem Mp.b_low{b:Nat}(h:b<m.ne):m.b b=some b:=by
 unfold Mp.b
 rw [Nat.ble_eq_true_of_le (show Nat.succ b≤m.ne from h)]
theorem Mp.b_high{b:Nat}(h:m.ne≤b):m.b b=aj9 b m.bm:=by
 unfold Mp.b
 have:Nat.ble (Nat.succ b) m.ne=false:=by rw [Bool.eq_false_iff];intro hh;have:=Nl hh;omega
 rw [this]
theorem Mp.ρ_low{b:Nat}(h:b<m.ne):m.ρ ρ1 w1 b=ρ1 b:=by
 unfold Mp.ρ
 rw [Nat.ble_eq_true_of_le (show Nat.succ b≤m.ne from h)]
theorem Mp.ρ_rg(h:m.ne≤m.rg):m.ρ ρ1 w1 m.rg=some ⟨w1.heap.size,0,0,some (ρ1.at m.rs)⟩:=by
 unfold Mp.ρ
 have:Nat.ble (Nat.succ m.rg) m.ne=false:=by rw [Bool.eq_false_iff];intro hh;have:=Nl hh;omega
 rw [this,Nat.beq_refl]
theorem Mp.ρ_high{b:Nat}(h:m.ne≤b)(hr:b≠m.rg):m.ρ ρ1 w1 b=(aj9 b m.bm).bind fun b1=>(ρ1 b1).map Loc.bare:=by
 unfold Mp.ρ
 have h1:Nat.ble (Nat.succ b) m.ne=false:=by rw [Bool.eq_false_iff];intro hh;have:=Nl hh;omega
 have h2:Nat.beq b m.rg=false:=by rw [Bool.eq_false_iff];intro hh;exact hr (Nb hh)
 rw [h1,h2]
 cases aj9 b m.bm<;>rfl
theorem bfp{x:Option Loc}{L:Loc}(h:x.map Loc.bare=some L):∃ L1,x=some L1∧L.B=L1.B∧L.o=L1.o∧L.C=L1.C∧L.M=none:=by
 cases x with
 | none=>cases h
 | some L1=>cases h;exact⟨L1,rfl,rfl,rfl,rfl,rfl⟩
theorem bky(hv:a06 m F2 H2 F1 H1=true)(s:@SRel σ n ρ1 F1 H1 a w1)(hs:SimF ρe He we ρ1 H1 w1)(hde:Dom ρe He.n)(hne:He.n=m.ne)(hhy:@Holds (σ.sub m.nv m.l) H2.hy) :
  ∃ ρ2,@SRel (σ.sub m.nv m.l) n ρ2 F2 H2 a w1∧SimF ρe He we ρ2 H2 w1∧(∀ b,b<m.ne→ρ2 b=ρ1 b)∧(∀ b L,H2.Kn b→ρ2 b=some L→∃ b1 L1,H1.Kn b1∧ρ1 b1=some L1∧L1.B=L.B)∧∀ g L M k o,ρ2 g=some L→L.M=some M→M k o→∃ g1 L1 M1,ρ1 g1=some L1∧L1.M=some M1∧M1 k o:=by
 have V:=ayq hv
 obtain⟨B1,B2⟩:=a4y V.bm
 have hfr:=@SRel.fr σ _ _ _ _ _ _ s
 have hhp:=@SRel.hp σ _ _ _ _ _ _ s
 have hdm:=@SRel.dom σ _ _ _ _ _ _ s
 have hjj:=@SRel.j σ _ _ _ _ _ _ s
 have hhy1:=@HRel.hy σ _ _ _ hhp
 let ρ2:=m.ρ ρ1 w1
 have hlow:∀ b,b<m.ne→ρ2 b=ρ1 b:=fun b hb=>Mp.ρ_low hb
 have hrg:ρ2 m.rg=some ⟨w1.heap.size,0,0,some (ρ1.at m.rs)⟩:=Mp.ρ_rg V.rge
 have hhigh:∀ b L,m.ne≤b→b≠m.rg→ρ2 b=some L→∃ b1 L1,aj9 b m.bm=some b1∧ρ1 b1=some L1∧L.B=L1.B∧L.o=L1.o∧L.C=L1.C∧L.M=none:=by
  intro b L hb hr hL
  have h1:(aj9 b m.bm).bind (fun b1=>(ρ1 b1).map Loc.bare)=some L:=(Mp.ρ_high hb hr).symm.trans hL
  cases hl:aj9 b m.bm with
  | none=>rw [hl] at h1;cases h1
  | some b1 =>
   rw [hl] at h1
   obtain⟨L1,g1,g2⟩:=bfp (show(ρ1 b1).map Loc.bare=some L from h1)
   exact⟨b1,L1,rfl,g1,g2⟩
 have hgg:∀ g L M k o,ρ2 g=some L→L.M=some M→M k o→∃ g1 L1 M1,ρ1 g1=some L1∧L1.M=some M1∧M1 k o:=fun g L M k o h1 h2 h3=>by
  rcases Nat.lt_or_ge g m.ne with h4 | h4
  ·rw [hlow g h4] at h1
   exact⟨g,L,M,h1,h2,h3⟩
  ·by_cases h5:g=m.rg
   ·subst h5
    rw [hrg] at h1
    cases h1
    cases h2
    obtain⟨g1,_,L1,M1,k1,k2,k3⟩:=h3
    exact⟨g1,L1,M1,k1,k2,k3⟩
   ·obtain⟨_,_,_,_,_,_,_,h6⟩:=hhigh g L h4 h5 h1
    rw [h6] at h2
    cases h2
 have MO:MpOK m ρ1 ρ2 (locE F1 m.ev):=by
  refine⟨fun h b L hb hL=>?_,hlow,⟨_,hrg,rfl⟩,av3 hfr m.ev⟩
  rcases Nat.lt_or_ge h m.ne with h1 | h1
  ·rw [Mp.b_low h1] at hb
   cases hb
   exact⟨L,by rw [hlow h h1];exact hL,rfl,rfl,rfl⟩
  ·rw [Mp.b_high h1] at hb
   have hne':=(B1 (h,b) (ae3 hb)).1.ne
   refine⟨L.bare,?_,rfl,rfl,rfl⟩
   show m.ρ ρ1 w1 h=_
   rw [Mp.ρ_high h1 hne',hb]
   show(ρ1 b).map Loc.bare=_
   rw [hL]
   rfl
 have image:∀ b i c L,H2.cell b i=some c→ρ2 b=some L→∃ b1 c1 L1,m.b b=some b1∧H1.cell b1 i=some c1∧ayn m H1.hy (locE F1 m.ev) c c1=true∧ρ1 b1=some L1∧L.B=L1.B∧L.o=L1.o∧L.C=L1.C∧(b<m.ne∨(m.ne≤b∧aj9 b m.bm=some b1)):=by
  intro b i c L hc hL
  have hbn:b<H2.n:=by
   rcases Nat.lt_or_ge b m.ne with h1 | h1
   ·have:=V.rlt;have:=V.rge;omega
   ·by_cases hr:b=m.rg
    ·rw [hr];exact V.rlt
    ·obtain⟨b1,L1,g1,_⟩:=hhigh b L h1 hr hL
     exact(B1 _ (ae3 g1)).1.lt
  have hvb:=V.hp b hbn
  unfold boy at hvb
  unfold HP.cell at hc
  cases hk2:H2.t.get b with
  | none=>rw [hk2] at hc;cases hc
  | some k2 =>
   rw [hk2] at hvb hc
   simp only at hvb
   have key:∀ b1 L1,m.b b=some b1→ρ1 b1=some L1→∃ c1,H1.cell b1 i=some c1∧ayn m H1.hy (locE F1 m.ev) c c1=true:=by
    intro b1 L1 hb1 _
    rw [hb1] at hvb
    simp only at hvb
    cases hk1:H1.t.get b1 with
    | none=>rw [hk1] at hvb;cases hvb
    | some k1 =>
     rw [hk1] at hvb
     obtain⟨c',g1,g2⟩:=aps hvb i c (by simpa using hc)
     exact⟨c',by unfold HP.cell;rw [hk1];simpa using g1,g2⟩
   rcases Nat.lt_or_ge b m.ne with h1 | h1
   ·rw [hlow b h1] at hL
    obtain⟨c1,g1,g2⟩:=key b L (Mp.b_low h1) hL
    exact⟨b,c1,L,Mp.b_low h1,g1,g2,hL,rfl,rfl,rfl,.inl h1⟩
   ·have hr:b≠m.rg:=fun e=>by rw [e,V.rno] at hk2;cases hk2
    obtain⟨b1,L1,g1,g2,g3,g4,g5,_⟩:=hhigh b L h1 hr hL
    obtain⟨c1,k1,k2⟩:=key b1 L1 (by rw [Mp.b_high h1];exact g1) g2
    exact⟨b1,c1,L1,by rw [Mp.b_high h1];exact g1,k1,k2,g2,g3,g4,g5,.inr ⟨h1,g1⟩⟩
 have hnn:m.ne≤H2.n:=by have:=V.rlt;have:=V.rge;omega
 have hdom:Dom ρ2 H2.n:=by
  intro b hb
  cases h:ρ2 b with
  | none=>rfl
  | some L =>
   exfalso
   have hr:b≠m.rg:=by have:=V.rlt;omega
   obtain⟨b1,L1,g1,_⟩:=hhigh b L (by omega) hr h
   have:=(B1 _ (ae3 g1)).1.lt
   simp only at this
   omega
 have hrel:@HRel (σ.sub m.nv m.l) ρ2 H2 w1:=by
  refine @HRel.mk (σ.sub m.nv m.l) ρ2 H2 w1 (fun b i c L hc hL=>?_) (fun b b' L L' ⟨i,c,hc⟩ ⟨i',c',hc'⟩ hL hL' he=>?_) hhy
  ·obtain⟨b1,c1,L1,_,g1,g2,g3,g4,g5,g6,_⟩:=image b i c L hc hL
   exact bkw MO hhy1 ⟨g4,g5,g6⟩ g2 (@HRel.rel σ _ _ _ hhp b1 i c1 L1 g1 g3)
  ·obtain⟨b1,c1,L1,m1,g1,_,g3,g4,_,_,g7⟩:=image b i c L hc hL
   obtain⟨b2,c2,L2,m2,k1,_,k3,k4,_,_,k7⟩:=image b' i' c' L' hc' hL'
   have heq:b1=b2:=@HRel.inj σ _ _ _ hhp b1 b2 L1 L2 ⟨i,c1,g1⟩ ⟨i',c2,k1⟩ g3 k3 (by rw [← g4,← k4];exact he)
   subst heq
   rcases g7 with g7 | ⟨g7,g8⟩
   ·rw [Mp.b_low g7] at m1
    cases m1
    rcases k7 with k7 | ⟨k7,k8⟩
    ·rw [Mp.b_low k7] at m2
     exact(Option.some.inj m2).symm
    ·have:=(B1 _ (ae3 k8)).1.out g7
     simp only at this
     unfold HP.cell at hc
     rw [this] at hc
     cases hc
   ·rcases k7 with k7 | ⟨k7,k8⟩
    ·rw [Mp.b_low k7] at m2
     cases m2
     have:=(B1 _ (ae3 g8)).1.out k7
     simp only at this
     unfold HP.cell at hc'
     rw [this] at hc'
     cases hc'
    ·exact B2 _ (ae3 g8) _ (ae3 k8) rfl g8 k8
 have hkn:∀ b L,H2.Kn b→ρ2 b=some L→∃ b1 L1,H1.Kn b1∧ρ1 b1=some L1∧L1.B=L.B:=by
  rintro b L ⟨i,c,hc⟩ hL
  obtain⟨b1,c1,L1,_,g1,_,g3,g4,_⟩:=image b i c L hc hL
  exact⟨b1,L1,⟨i,c1,g1⟩,g3,g4.symm⟩
 have hj2:J ρ1 H1 w1→J ρ2 H2 w1:=by
  intro hj
  refine⟨fun x hx=>⟨hj.tw x hx,fun b L' hb hL'=>?_⟩,fun g L M hg hM k o hk=>?_⟩
  ·obtain⟨b1,L2,q1,q2,q3⟩:=hkn b L' hb hL'
   rw [← q3]
   exact(hj.1 x hx).2 b1 L2 q1 q2
  have core:∀ g1 L1 M1,ρ1 g1=some L1→L1.M=some M1→M1 k o→w1.heap[k]? = some o∧∀ b L',H2.Kn b→ρ2 b=some L'→L'.B≠k:=by
   intro g1 L1 M1 e1 e2 e3
   obtain⟨k1,k2⟩:=hj.2 g1 L1 M1 e1 e2 k o e3
   refine⟨k1,fun b L' hb hL'=>?_⟩
   obtain⟨b1,L2,q1,q2,q3⟩:=hkn b L' hb hL'
   rw [← q3]
   exact k2 b1 L2 q1 q2
  rcases Nat.lt_or_ge g m.ne with h1 | h1
  ·rw [hlow g h1] at hg
   exact core g L M hg hM hk
  ·by_cases hr:g=m.rg
   ·subst hr
    rw [hrg] at hg
    cases hg
    cases hM
    obtain⟨g',hg',L',M',e1,e2,e3⟩:=hk
    exact core g' L' M' e1 e2 e3
   ·obtain⟨_,_,_,_,_,_,_,hn⟩:=hhigh g L h1 hr hg
    rw [hn] at hM
    cases hM
 refine⟨ρ2,@SRel.mk (σ.sub m.nv m.l) n ρ2 F2 H2 a w1 (@FRel.mk (σ.sub m.nv m.l) n ρ2 F2 a (@FRel.sz σ _ _ _ _ hfr) fun t v hv=>?_) hrel hdom (hj2 hjj),?_,hlow,hkn,hgg⟩
 ·obtain⟨v',g1,g2⟩:=amg V.fr t v hv
  obtain⟨u,g3,g4⟩:=@FRel.get σ _ _ _ _ hfr t v' g1
  exact⟨u,g3,bdz MO hhy1 g2 g4⟩
 ·refine⟨fun b x hb=>?_,by rw [hne];exact hnn,hdom,fun b i hb hc=>?_,hs.fr,fun b L h1 h2=>?_,hs.size,hs.os,hs.tape,hs.output,fun b L h1 h2=>?_,fun hj=>hj2 (hs.jj hj),fun g L M k o h1 h2 h3 h4=>?_⟩
  ·have hbn:b<m.ne:=by
    rcases Nat.lt_or_ge b m.ne with h | h
    ·exact h
    ·rw [hde b (by omega)] at hb;cases hb
   rw [hlow b hbn]
   exact hs.le b x hb
  ·rw [hne] at hb
   cases h:H2.cell b i with
   | none=>rfl
   | some c =>
    exfalso
    have hvb:=V.hp b (by omega)
    unfold boy at hvb
    unfold HP.cell at h
    cases hk2:H2.t.get b with
    | none=>rw [hk2] at h;cases h
    | some k2 =>
     rw [hk2] at hvb h
     rw [Mp.b_low hb] at hvb
     simp only at hvb
     cases hk1:H1.t.get b with
     | none=>rw [hk1] at hvb;cases hvb
     | some k1 =>
      rw [hk1] at hvb
      obtain⟨c',g1,_⟩:=aps hvb i c (by simpa using h)
      have h3:=hs.knc b i (by rw [hne];exact hb) hc
      unfold HP.cell at h3
      rw [hk1] at h3
      simp only [Option.bind_some] at h3
      rw [g1] at h3
      cases h3
  ·rcases Nat.lt_or_ge b m.ne with h | h
   ·rw [hlow b h] at h2
    exact hs.new b L h1 h2
   ·by_cases hr:b=m.rg
    ·subst hr
     rw [hrg] at h2
     cases h2
     exact .inl hs.size
    ·obtain⟨b1,L1,g1,g2,g3,_⟩:=hhigh b L h hr h2
     have hk:=(B1 _ (ae3 g1)).1.kn
     simp only at hk
     cases hb1:ρe b1 with
     | none =>
      rw [g3]
      exact hs.new b1 L1 hb1 g2
     | some L0 =>
      have:=hs.le b1 L0 hb1
      rw [g2] at this
      cases this
      have hlt:b1<He.n:=by
       rcases Nat.lt_or_ge b1 He.n with q | q
       ·exact q
       ·rw [hde b1 q] at hb1;cases hb1
      obtain⟨i,c,hc⟩:=hk
      refine .inr ⟨b1,L1,?_,hb1,g3.symm⟩
      cases hh:He.cell b1 i with
      | some c'=>exact⟨i,c',hh⟩
      | none=>rw [hs.knc b1 i hlt hh] at hc;cases hc
  ·rcases Nat.lt_or_ge b m.ne with h | h
   ·rw [hlow b h] at h2
    exact hs.old b L h1 h2
   ·omega
  ·rcases Nat.lt_or_ge g m.ne with h | h
   ·rw [hlow g h] at h2
    exact hs.ro g L M k o h1 h2 h3 h4
   ·by_cases hr:g=m.rg
    ·subst hr
     rw [hrg] at h2
     cases h2
     cases h3
     obtain⟨g',hg',L',M',e1,e2,e3⟩:=h4
     exact hs.ro g' L' M' k o (hde g' (by rw [hne];exact V.rs g' hg')) e1 e2 e3
    ·obtain⟨_,_,_,_,_,_,_,hn⟩:=hhigh g L h hr h2
     rw [hn] at h3
     cases h3
end
end Go.Sx
namespace Go.Sx
variable [Sg]
variable {P:Program} [Plain P] {n:Nat} {H H':HP} {w:World} {ρ:PM}
structure LoopC where
 st:LoopState
 pend:Option Code
 n:Nat
 F:Fm
 k:Nat
def LoopC.ct(l:LoopC):Ct:=.loop l.st l.pend l.n l.F l.k
noncomputable section
def aiv(H:HP)(b:Nat):Option LoopC :=
 match H.t.get b with
 | some (.lf [some (.loop st pend n F k)])=>some ⟨st,pend,n,F,k⟩
 | _=>none
end
theorem av5{b:Nat}{l:LoopC}(h:aiv H b=some l):H.cell b 0=some l.ct∧∀ i,i≠0→H.cell b i=none:=by
 unfold aiv at h
 split at h
 ·rename_i st pend n F k hk
  cases h
  refine⟨by unfold HP.cell;rw [hk];rfl,fun i hi=>?_⟩
  obtain⟨j,rfl⟩:=Nat.exists_eq_succ_of_ne_zero hi
  unfold HP.cell
  rw [hk]
  rfl
 ·cases h
theorem Sim.record{b:Nat}{l l':LoopC}{L:Loc}{r r':Loop}(hH:HRel ρ H w)(hd:Dom ρ H.n)(hL:ρ b=some L)(hl:aiv H b=some l)(hr:w.heap[L.B]? = some (.loop r))(hsame:l'.n=l.n∧l'.F=l.F∧l'.k=l.k)
  (hr':r'={ r with state:=l'.st,pending:=l'.pend }):Sim ρ H w ρ (H.obj b l'.ct) (w.putObj L.B (.loop r')):=by
 obtain⟨hc,hone⟩:=av5 hl
 obtain⟨h1,h2,r0,g1,g2,g3,g4,g5,g6,g7,g8⟩:=hH.rel b 0 _ L hc hL
 rw [hr] at g1
 cases g1
 obtain⟨e1,e2,e3⟩:=hsame
 have hlt:=(Ga.1 hr).1
 refine Sim.setObj hH hd hL ⟨_,hc⟩ hone (fun arr t fr h=>by rw [hr] at h;cases h) ?_ (fun k hk=>World.putObj_heap_other hk) (by simp [World.putObj]) rfl rfl rfl
 refine⟨rfl,h2,r',World.putObj_heap_same hlt,?_⟩
 subst hr'
 exact⟨rfl,rfl,by rw [e3];exact g4,by rw [e3];exact g5,by rw [e3];exact g6,by rw [e1];exact g7,by rw [e2];exact g8⟩
theorem ao2{b:Nat}{l:LoopC}{L:Loc}(hH:HRel ρ H w)(hL:ρ b=some L)(hl:aiv H b=some l):∃ r:Loop,w.heap[L.B]? = some (.loop r)∧r.state=l.st∧r.pending=l.pend∧r.params=(Us.lc l.k).ps∧r.assign=(Us.lc l.k).assign∧r.body=(Us.lc l.k).body∧FRel l.n ρ l.F ⟨r.tmps,[]⟩:=by
 obtain⟨hc,hone⟩:=av5 hl
 obtain⟨h1,h2,r0,g1,g2,g3,g4,g5,g6,g7,g8⟩:=hH.rel b 0 _ L hc hL
 exact⟨r0,g1,g2,g3,g4,g5,g6,g7,g8⟩
def RR(ρ:PM):Option Nat→Option Nat→Prop
 | none,none=>True
 | some b,some l=>∃ L,ρ b=some L∧L.B=l
 | _,_=>False
theorem RR.mono{ρ':PM}(h:PM.le ρ ρ'):∀ {rb r:Option Nat},RR ρ rb r→RR ρ' rb r
 | none,none,_=>trivial
 | some _,some _,⟨L,h1,h2⟩=>⟨L,h _ _ h1,h2⟩
 | none,some _,hh=>hh.elim
 | some _,none,hh=>hh.elim
theorem run_enterLoop_inner{lz:Nat}{r0:Loop}(fn:FuncId)(tmps:Array Value)(ps:Array Tmp)(assign body:Code)(h:w.heap[lz]? = some (.loop r0)) :
  (Instr.enterLoop fn tmps ps assign body (some lz)).run P w=.ok (w.heap.size,[]) (w.alloc (.loop { state:=.ready,pending:=none,fn,tmps,params:=ps,assign,body,defers:=r0.defers })):=by
 unfold Instr.enterLoop
 simp only [Sem.run_bind,run_getLoop h,run_newObj_alloc,Result.andThen,Sem.run_pure]
def aua(H:HP):Option Nat→Bool
 | none=>true
 | some b=>(aiv H b).isSome
theorem bl1{F:Fm}{a:Act}{rb r:Option Nat}{m0:Nat}{ps:Array Tmp}{assign body:Code}{k:Nat}(hk:Us.lc k=⟨ps,assign,body⟩)(s:SRel n ρ F H a w)(hr:RR ρ rb r)(ha:aua H rb=true)(hm0:m0≤w.heap.size)(df:DfOK ρ H w m0 a.defers)(fn:FuncId) :
  ∃ (l:Nat) (mark:List Deferred) (w₁:World) (ρ1:PM),(Instr.enterLoop fn a.tmps ps assign body r).run P w=.ok (l,mark) w₁∧Sim ρ H w ρ1 (H.push (.lf [some (.loop .ready none n F k)])) w₁∧ρ1 H.n=some ⟨l,0,0,none⟩ ∧
   DfOK ρ1 (H.push (.lf [some (.loop .ready none n F k)])) w₁ m0 (mark++a.defers):=by
 have hrec:∀ (w0:World) (df0:Nat),HRel ρ H w0→Sim ρ H w0 (upd ρ H.n ⟨w0.heap.size,0,0,none⟩) (H.push (.lf [some (.loop .ready none n F k)])) (w0.alloc (.loop { state:=.ready,pending:=none,fn,tmps:=a.tmps,params:=ps,assign,body,defers:=df0 })):=by
  intro w0 df0 hH0
  have hle:PM.le ρ (upd ρ H.n ⟨w0.heap.size,0,0,none⟩):=ahp (s.dom _ (Rl _))
  refine Sim.alloc hH0 s.dom rfl rfl fun i c hc=>?_
  cases i with
  | zero =>
   cases hc
   refine⟨rfl,rfl,_,by rw [heap_alloc,if_pos rfl],rfl,rfl,by rw [hk],by rw [hk],by rw [hk],s.fr.sz,fun t v hv=>?_⟩
   obtain⟨u,h1,h2⟩:=s.fr.get t v hv
   exact⟨u,h1,h2.mono hle⟩
  | succ i=>cases (show(none:Option Ct)=some c from hc)
 cases rb with
 | some b =>
  cases r with
  | none=>exact hr.elim
  | some lz =>
   obtain⟨L,hL,rfl⟩:=hr
   simp only [aua,Option.isSome_iff_exists] at ha
   obtain⟨l0,hl0⟩:=ha
   obtain⟨r0,hr0,_⟩:=ao2 s.hp hL hl0
   have hs:=hrec w r0.defers s.hp
   exact⟨_,[],_,_,run_enterLoop_inner fn a.tmps ps assign body hr0,hs,upd_same _ _ _,DfOK.step s.dom hs df⟩
 | none =>
  cases r with
  | some lz=>exact hr.elim
  | none =>
   have h0:=Sim.laid (o:=.deferred (some [])) s.hp s.dom
   have hs:=hrec (w.alloc (.deferred (some []))) w.heap.size h0.rel
   have hss:=h0.trans s.dom hs
   refine⟨_,_,_,_,run_enterLoop_outer fn a.tmps ps assign body,by
    have:=hss
    simp only [World.size_alloc] at this
    exact this,upd_same _ _ _,?_⟩
   have hdf:=DfOK.step s.dom hss df
   refine⟨⟨w.heap.size,rfl,hm0,?_,⟨fun b L hk hL=>?_,fun g L M o hg hM ho=>?_⟩,fun d' hd' D' ht=>?_⟩,by
    simp only [World.size_alloc] at hdf
    exact hdf⟩
   ·rw [heap_alloc,if_neg (by rw [World.size_alloc];omega),heap_alloc,if_pos rfl]
   ·obtain⟨i,c,hc⟩:=hk
    by_cases hb:b=H.n
    ·subst hb
     rw [upd_same] at hL
     cases hL
     show w.heap.size+1≠w.heap.size
     omega
    ·rw [HP.cell_push,if_neg hb] at hc
     rw [upd_ne hb] at hL
     have:=(s.hp.rel b i c L hc hL).lt
     omega
   ·by_cases hb:g=H.n
    ·subst hb
     rw [upd_same] at hg
     cases hg
     cases hM
    ·rw [upd_ne hb] at hg
     have:=(Ga.1 (s.j.2 g L M hg hM _ o ho).1).1
     omega
   ·clear hdf
    have:∀ (ds:List Deferred),DfOK ρ H w m0 ds→d'∈ds→D'<w.heap.size:=by
     intro ds
     induction ds with
     | nil=>intro _ h;cases h
     | cons e es ih =>
      rintro⟨⟨D,g1,_,g2,_⟩,g⟩ hmem
      rcases Mn.1 hmem with rfl | hmem
      ·rw [g1] at ht
       cases ht
       exact(Ga.1 g2).1
      ·exact ih g hmem
    have:=this _ df hd'
    omega
end Go.Sx
