/-
  A second abstract evaluator of the model's code: an object that is laid without a block. Conditions: none; nothing here speaks of one program.
-/
import Derived.Test.YtlbbkmcegbeckaaSvX
import Derived.Test.YtlbbkmcegbeckaaSvA
import Derived.Test.YtlbbkmcegbeckaaSvC
set_option linter.all false
set_option maxRecDepth 100000
noncomputable section
namespace Go.Sx
variable [Sg]
section
variable {P:Program} [Plain P] {ora:Ora} {n:Nat} {ops:List Oper} {Fs:Nat→Fm} {Hs:Nat→HP} {vs:Nat→AV} {cl:Nat→Cls} {H0:HP} {ρ0 ρ:PM} {w0 w:World} {df:List Deferred} {listed:Array Bool} {a:Act}
theorem aot{k:Nat}(h:dOf listed k=true):k<listed.size:=by
 unfold dOf at h
 rcases Nat.lt_or_ge k listed.size with h1 | h1
 ·exact h1
 ·simp [h1] at h
theorem HRel.fresh{H:HP}(h:HRel ρ H w):HRel ρ H.fresh w:=⟨h.rel,h.inj,h.hy⟩
theorem J.fresh{H:HP}(h:J ρ H w):J ρ H.fresh w:=h
theorem Sim.lower{ρ':PM}{H G:HP}{w':World}{lo:Nat}(s:Sim ρ H.fresh w ρ' G w'):Sim ρ H w ρ' (G.lower lo) w' :=
 ⟨s.le,s.grow,s.dom,⟨s.rel.rel,s.rel.inj,s.rel.hy⟩,s.knc,s.fr,s.new,s.size,s.os,s.tape,s.output,s.old,s.jj,s.ro⟩
theorem awg{F:Fm}{o:Oper}(h:∀ t,t∈o.looksAt ops.toArray→∀ v,F.get t=some v→∃ u,a.tmps[t]? = some u∧VRel ρ v u):∀ x∈o.op.operands,∀ v,evF F x=some v→VRel ρ v (a.eval x):=by
 intro x hx v hv
 cases x with
 | tmp t =>
  obtain⟨u,hu,hr⟩:=h t (beo hx) v hv
  have:a.eval (.tmp t)=u:=by simp [Act.eval,Array.getD_eq_getD_getElem?,hu]
  rw [this]
  exact hr
 | const c =>
  simp only [evF] at hv
  split at hv
  ·rename_i hc
   cases hv
   exact⟨rfl,hc⟩
  ·cases hv
 | global g=>cases hv;exact⟨rfl,rfl⟩
 | func f=>cases hv;exact⟨rfl,rfl⟩
theorem ayw{F:Fm}{o:Oper}{b:Bool}{hy:List X}(hhy:Holds hy)(h:∀ t,t∈o.looksAt ops.toArray→∀ v,F.get t=some v→∃ u,a.tmps[t]? = some u∧VRel ρ v u)(hw:ayv hy ops F o.guard=some b):Region.wanted o (yielded ops.toArray a.tmps)=b:=by
 unfold ayv at hw
 unfold Region.wanted
 cases hg:o.guard with
 | none=>rw [hg] at hw;cases hw;rfl
 | some p =>
  obtain⟨j,want⟩:=p
  rw [hg] at hw
  simp only at hw ⊢
  unfold yielded
  simp only [List.getElem?_toArray]
  cases hd:(ops[j]?).bind (·.dst) with
  | none=>rw [hd] at hw;cases hw;cases want<;>rfl
  | some t =>
   rw [hd] at hw
   simp only [bgx] at hw
   simp only [Option.bind_some]
   have hl:=a14 (ops:=ops) hg hd
   split at hw
   ·rename_i b' hb
    cases hw
    obtain⟨u,hu,rfl,_⟩:=h t hl _ hb
    rw [hu]
    cases b'<;>cases want<;>rfl
   ·rename_i vs hb
    cases hw
    obtain⟨u,hu,us,rfl,_⟩:=h t hl _ hb
    rw [hu]
    cases want<;>rfl
   ·rename_i G e hb
    split at hw
    ·rename_i b' hk
     cases hw
     obtain⟨u,hu,hr⟩:=h t hl _ hb
     rw [hu,bav hr,ajb hhy hk]
     cases b'<;>cases want<;>rfl
    ·cases hw
   ·cases hw
theorem bca{ρ ρ':PM}:∀ {c:Cel} {u:Value},litC c=true→CRel ρ c u→CRel ρ' c u
 | .lit _,_,_,h=>h
theorem bhb{ρ ρ':PM}{v:AV}{u:Value}(h:bsa v=true)(hr:VRel ρ v u):VRel ρ' v u:=by
 cases v with
 | one c=>exact bca (ρ:=ρ) h hr
 | agg xs =>
  obtain⟨us,rfl,h2⟩:=hr
  refine⟨us,rfl,?_⟩
  have hx:∀ c∈xs,litC c=true:=List.all_eq_true.1 h
  refine All2.of_get h2.length fun i c u hc hu=>?_
  obtain⟨u',hu',hr'⟩:=h2.get i c hc
  rw [hu] at hu'
  cases hu'
  exact bca (hx c (List.mem_of_getElem? hc)) hr'
 | tup vs=>cases h
theorem azy{F:Fm}{m:Nat}{op:Op}{v:AV}{k:Bk}(h:a9y P ora F m op=some (v,k)) :
  ∃ G,(∀ x∈op.operands,∀ a,evF F x=some a→bsa a=true)∧ad5 P ora (evF F) ⟨.nil,m,0,[],0⟩ op=some (v,G)∧G.n=m+1∧G.t.get m=some k:=by
 unfold a9y at h
 split at h
 ·rename_i hall
  split at h
  ·rename_i v' G hs
   split at h
   ·rename_i k' hn hk
    cases h
    refine⟨G,fun x hx a ha=>?_,hs,Nb hn,hk⟩
    have:=List.all_eq_true.1 hall x (by simpa using hx)
    unfold bxb at this
    rw [ha] at this
    exact this
   ·cases h
  ·cases h
 ·cases h
theorem akn{B:List Nat}{i j:Nat}{c d:Cls}(h:agi B i j c d=true)(hc:c.loud=true)(hd:d.loud=true∨d=.N):ancB B i j=true:=by
 cases c<;>cases d<;>simp_all [agi,Cls.loud]
theorem bij{B:List Nat}{i j:Nat}{c d:Cls}(h:agi B i j c d=true)(hc:c.loud=true∨c=.N)(hd:d.loud=true):ancB B i j=true:=by
 cases c<;>cases d<;>simp_all [agi,Cls.loud]
theorem Inv.jj(R:Run P ora n ops Fs Hs vs cl)(I:Inv n ops Fs Hs vs cl H0 ρ0 w0 df listed ρ a w)(ho:amh ora)(hd0:Dom ρ0 (Hs 0).n)(hj0:J ρ0 H0 w0)(m lo nv:Nat)(hy:List X):J ρ ⟨.nil,m,lo,hy,nv⟩ w:=by
 obtain⟨t1,ht1⟩:=I.itv
 obtain⟨t,_,ht,hmax⟩:=Itv.max _ t1 rfl ht1
 have htl:=ht.1
 have hbt:∀ b0,ρ b0≠none→b0<(Hs t).n:=by
  intro b0 hρ
  rcases Nat.lt_or_ge b0 (Hs t).n with h | h
  ·exact h
  ·exfalso
   rcases I.new b0 hρ with h3 | ⟨k,h3,h4,h5⟩ | ⟨k,h3,h4⟩
   rotate_left 2
   ·obtain⟨_,_,_,_,_,hlt⟩:=R.mak k b0 h4
    have:=R.n_le ho (Nat.zero_le t) htl
    omega
   ·cases h0:ρ0 b0 with
    | none=>exact h3 h0
    | some y =>
     have:=hd0.lt h0
     have:=R.n_le ho (Nat.zero_le t) htl
     omega
   ·have hkl:=aot h3
    rw [I.sz] at hkl
    have hkt:t≤k:=by
     rcases Nat.lt_or_ge k t with h6 | h6
     ·have:=R.n_le ho (show k+1≤t by omega) htl
      omega
     ·exact h6
    have hmk:(cl k).makes=true:=by
     cases h:(cl k).makes with
     | true=>rfl
     | false=>have:=R.noMake hkl h;omega
    have hkn:cl k=.N:=by
     cases hc:cl k with
     | N=>rfl
     | X=>have:=ht.2.2 k h3 (by rw [hc];rfl);omega
     | Y b s=>have:=ht.2.2 k h3 (by rw [hc];rfl);omega
     | T b=>have:=ht.2.2 k h3 (by rw [hc];rfl);omega
     | A=>rw [hc] at hmk;cases hmk
     | L b=>rw [hc] at hmk;cases hmk
     | S b=>rw [hc] at hmk;cases hmk
     | M b=>rw [hc] at hmk;cases hmk
    rcases hmax with hm | hm
    ·omega
    ·have hne:t≠k:=fun h=>by rw [h,hkn] at hm;cases hm
     have:=I.clo k t h3 (akn (R.pair t k (by omega) hkl) hm (.inr hkn))
     have:=ht.2.2 t this hm
     omega
 have hJ:=hj0.step (I.sim t ht)
 refine⟨fun x hx=>⟨hJ.tw x hx,fun b L' ⟨i,c,hc⟩=>(HP.cell_nil hc).elim⟩,fun g L M hg hM k o hk=>?_⟩
 refine⟨(hJ.2 g L M (by rw [abg (hbt g (by rw [hg];simp))];exact hg) hM k o hk).1,fun b L' ⟨i,c,hc⟩=>(HP.cell_nil hc).elim⟩
theorem Inv.hy(R:Run P ora n ops Fs Hs vs cl)(I:Inv n ops Fs Hs vs cl H0 ρ0 w0 df listed ρ a w)(ho:amh ora){j:Nat}(hj:j≤ops.length):Holds (Hs j).hy:=by
 obtain⟨t,ht⟩:=I.itv
 have h:=(I.sim t ht).rel.hy
 rw [R.hy ho ht.1] at h
 rw [R.hy ho hj]
 exact h
theorem bnj{ρ:PM}{a:AV}{u:Value}{b:Nat}(h:ptrB a=some b)(hr:VRel ρ a u):∃ L,ρ b=some L:=by
 unfold ptrB at h
 split at h
 ·cases h;obtain⟨L,h1,_⟩:=hr;exact⟨L,h1⟩
 ·cases h;obtain⟨L,h1,_⟩:=hr;exact⟨L,h1⟩
 ·cases h
theorem biq{ρ ρ':PM}{a:AV}{u:Value}{b:Nat}(h:ptrB a=some b)(hb:ρ' b=ρ b)(hr:VRel ρ a u):VRel ρ' a u:=by
 unfold ptrB at h
 split at h
 ·cases h;obtain⟨L,h1,h2⟩:=hr;exact⟨L,hb.trans h1,h2⟩
 ·cases h;obtain⟨L,h1,h2⟩:=hr;exact⟨L,hb.trans h1,h2⟩
 ·cases h
section
variable (R:Run P ora n ops Fs Hs vs cl) (I:Inv n ops Fs Hs vs cl H0 ρ0 w0 df listed ρ a w) (ho:amh ora) (hd0:Dom ρ0 (Hs 0).n)
 {j:Nat} {o:Oper} (hj:ops[j]? = some o) (hjD:dOf listed j=false) (hanc:∀ i,((befs ops).getD j 0).testBit i=true→dOf listed i=true)
include R I hj hjD hanc
theorem bpv(hc:(cl j).loud=true∨cl j=.N):Itv ops cl (dOf listed) j:=by
 have hjl:j<ops.length:=(Ls.1 hj).1
 refine⟨by omega,fun k hk hl=>?_,fun k hk hl=>?_⟩
 ·exact hanc k (akn (R.pair k j hk hjl) hl hc)
 ·rcases Nat.lt_trichotomy k j with h | h | h
  ·exact h
  ·subst h;rw [hjD] at hk;cases hk
  ·have:=I.clo k j hk (bij (R.pair j k h (by have:=aot hk;rw [I.sz] at this;exact this)) hc hl)
   rw [hjD] at this
   cases this
include ho hd0
theorem bl9{b:Nat}(h1:(Hs j).n≤b)(h2:b<(Hs (j+1)).n):ρ b=none:=by
 have hjl:j<ops.length:=(Ls.1 hj).1
 cases h:ρ b with
 | none=>rfl
 | some x =>
  exfalso
  rcases I.new b (by rw [h];simp) with h3 | ⟨k,h3,h4,h5⟩ | ⟨k,h3,h4⟩
  rotate_left 2
  ·obtain⟨_,_,_,_,_,hlt⟩:=R.mak k b h4
   have:=R.n_le ho (Nat.zero_le j) (by omega)
   omega
  ·cases h0:ρ0 b with
   | none=>exact h3 h0
   | some y =>
    have:=hd0.lt h0
    have:=R.n_le ho (Nat.zero_le j) (by omega)
    omega
  ·have hkl:=aot h3
   rw [I.sz] at hkl
   rcases Nat.lt_trichotomy k j with h6 | h6 | h6
   ·have:=R.n_le ho (show k+1≤j by omega) (by omega)
    omega
   ·subst h6;rw [hjD] at h3;cases h3
   ·have:=R.n_le ho (show j+1≤k by omega) (by omega)
    omega
theorem bkj(hora:aom P ora)(hj0:J ρ0 H0 w0)(hd00:Dom ρ0 H0.n)(hlt0:∀ b L,H0.Kn b→ρ0 b=some L→L.B<w0.heap.size)(hp:awi (evF (Fs j)) o.op=true)(hcl:cl j=.A){G:HP}(hs:ad5 P ora (evF (Fs j)) (Hs j).fresh o.op=some (vs j,G)) :
  abz P (fun u w'=>∃ ρ',Inv n ops Fs Hs vs cl H0 ρ0 w0 df (listed.setIfInBounds j true) ρ' (a.put o.dst u) w') ((execOp a.eval o).run P w):=by
 have hjl:j<ops.length:=(Ls.1 hj).1
 have hD':=akf listed (j:=j) (by rw [I.sz];exact hjl)
 have h':=(aok hp hs).2 ⟨.nil,(Hs j).n,0,(Hs j).hy,0⟩ rfl
 obtain⟨_,hop⟩:=ame (w:=w) (ev:=a.eval) (ρ:=bel ρ (Hs j).n) hora h' (awg fun t ht v hv=>I.seen R ho hd0 hj hjD hanc t ht v hv)
  ⟨fun b i c L hc=>(HP.cell_nil hc).elim,fun b b' L L' ⟨i,c,hc⟩=>(HP.cell_nil hc).elim,I.hy R ho (by omega)⟩ (apu _ _) ((I.jj R ho hd0 hj0 _ _ _ _).less (ba9 ρ _) fun b L h _=>h)
 have hput:=fun u w'=>I.put (ρ':=ρ) (u:=u) (w':=w') R hj hjD hanc (PM.le.refl ρ)
 obtain⟨dst,op,ty,pos,after,guard⟩:=o
 refine abz.mono ?_ (hop dst ty pos after guard)
 rintro u w' ⟨ρ2,hv,hs2⟩
 have hle2:PM.le ρ2 (bel ρ (Hs j).n):=fun b L hb=>by
  cases h:bel ρ (Hs j).n b with
  | some x=>have:=hs2.le b x h;rw [hb] at this;cases this;rfl
  | none =>
   have h1:=hs2.old b L h hb
   have h2:=hs2.dom.lt hb
   simp only at h1 h2
   omega
 have hq:(cl j).loud=false:=by rw [hcl];rfl
 have hn:(Hs (j+1)).n=(Hs j).n:=R.noMake hjl (by rw [hcl];rfl)
 refine⟨ρ,hput u w' ?_ ?_ ?_ ?_⟩
 ·rw [hn];exact hv.mono hle2
 ·obtain⟨t,ht⟩:=I.itv
  exact⟨t,(Itv.quiet hD' hq).2 ht⟩
 ·intro t ht
  have hI:=I.sim t ((Itv.quiet hD' hq).1 ht)
  exact hI.still (fun k hk=>hs2.fr k hk (fun b L ⟨i,c,hc⟩=>(HP.cell_nil hc).elim)) hs2.size hs2.os hs2.tape hs2.output hd00 (fun b L hk hL=>Nat.lt_of_lt_of_le (hlt0 b L hk hL) hI.size)
 ·exact fun b h1 h2=>absurd h1 h2
theorem bkh(hora:aom P ora)(hj0:J ρ0 H0 w0){b0:Nat}(hcl:cl j=.L b0){t0:TypeId}{x:Operand}(hop:o.op=.load t0 x){a0:AV}(hx0:evF (Fs j) x=some a0)(hb0:ptrB a0=some b0)(hnp:awi (evF (Fs j)) o.op=false)(hok:(vs j).below (Hs j).n=true)
  {G:HP} (hs:ad5 P ora (evF (Fs j)) (Hs j).fresh o.op=some (vs j,G)) :
  abz P (fun u w'=>∃ ρ',Inv n ops Fs Hs vs cl H0 ρ0 w0 df (listed.setIfInBounds j true) ρ' (a.put o.dst u) w') ((execOp a.eval o).run P w):=by
 have hjl:j<ops.length:=(Ls.1 hj).1
 have hD':=akf listed (j:=j) (by rw [I.sz];exact hjl)
 have hq:(cl j).loud=false:=by rw [hcl];rfl
 have hn:(Hs (j+1)).n=(Hs j).n:=R.noMake hjl (by rw [hcl];rfl)
 have hseen:=awg fun t ht v hv=>I.seen R ho hd0 hj hjD hanc t ht v hv
 have hvx:=hseen x (by rw [hop];simp [Op.operands]) _ hx0
 obtain⟨L,hL⟩:=bnj hb0 hvx
 obtain⟨hb,hρ⟩:=abb hL
 obtain⟨t1,ht1⟩:=I.itv
 obtain⟨t,_,ht,hmax⟩:=Itv.max _ t1 rfl ht1
 have htl:=ht.1
 have hbt:b0<(Hs t).n:=by
  rcases Nat.lt_or_ge b0 (Hs t).n with h | h
  ·exact h
  ·exfalso
   rcases I.new b0 (by rw [hρ];simp) with h3 | ⟨k,h3,h4,h5⟩ | ⟨k,h3,h4⟩
   rotate_left 2
   ·obtain⟨_,_,_,_,_,hlt⟩:=R.mak k b0 h4
    have:=R.n_le ho (Nat.zero_le t) htl
    omega
   ·cases h0:ρ0 b0 with
    | none=>exact h3 h0
    | some y =>
     have:=hd0.lt h0
     have:=R.n_le ho (Nat.zero_le t) htl
     omega
   ·have hkl:=aot h3
    rw [I.sz] at hkl
    have hkt:t≤k:=by
     rcases Nat.lt_or_ge k t with h6 | h6
     ·have:=R.n_le ho (show k+1≤t by omega) htl
      omega
     ·exact h6
    have hmk:(cl k).makes=true:=by
     cases h:(cl k).makes with
     | true=>rfl
     | false=>have:=R.noMake hkl h;omega
    have hkn:cl k=.N:=by
     cases hc:cl k with
     | N=>rfl
     | X=>have:=ht.2.2 k h3 (by rw [hc];rfl);omega
     | Y b s=>have:=ht.2.2 k h3 (by rw [hc];rfl);omega
     | T b=>have:=ht.2.2 k h3 (by rw [hc];rfl);omega
     | A=>rw [hc] at hmk;cases hmk
     | L b=>rw [hc] at hmk;cases hmk
     | S b=>rw [hc] at hmk;cases hmk
     | M b=>rw [hc] at hmk;cases hmk
    rcases hmax with hm | hm
    ·omega
    ·have hne:t≠k:=fun h=>by rw [h,hkn] at hm;cases hm
     have:=I.clo k t h3 (akn (R.pair t k (by omega) hkl) hm (.inr hkn))
     have:=ht.2.2 t this hm
     omega
 have hsame:(Hs t).t.get b0=(Hs j).t.get b0:=by
  have chain:∀ (s e:Nat),s≤e→(∀ m,s≤m→m<e→(Hs (m+1)).t.get b0=(Hs m).t.get b0)→(Hs e).t.get b0=(Hs s).t.get b0:=by
   intro s e
   induction e with
   | zero=>intro h _;rw [show s=0 by omega]
   | succ e ih =>
    intro h hm
    rcases Nat.lt_or_ge s (e+1) with h1 | h1
    ·rw [hm e (by omega) (by omega)];exact ih (by omega) fun m h2 h3=>hm m h2 (by omega)
    ·rw [show s=e+1 by omega]
  rcases Nat.le_total t j with h | h
  ·refine(chain t j h fun m h1 h2=>?_).symm
   cases hc:(cl m).loud with
   | false=>exact R.quiet ho (by omega) hc b0 (Nat.lt_of_lt_of_le hbt (R.n_le ho h1 (by omega)))
   | true =>
    have hp:=R.pair m j h2 hjl
    rw [hcl] at hp
    have hno:ancB (befs ops) m j=false:=by
     cases hA:ancB (befs ops) m j with
     | false=>rfl
     | true=>have:=ht.2.2 m (hanc m hA) hc;omega
    cases hcm:cl m with
    | S b =>
     rw [hcm] at hp
     simp only [agi,hno,Bool.or_false,Bool.not_eq_true'] at hp
     exact R.other (by omega) hcm b0 (fun e=>by subst e;simp at hp)
    | T b =>
     rw [hcm] at hp
     simp only [agi,hno,Bool.or_false,Bool.not_eq_true'] at hp
     exact R.otherT ho (by omega) hcm b0 (fun e=>by subst e;simp at hp) (Nat.lt_of_lt_of_le hbt (R.n_le ho h1 (by omega)))
    | Y b s =>
     rw [hcm] at hp
     simp only [agi,hno,Bool.false_or] at hp
     exact R.otherY ho (by omega) hcm b0 hp (Nat.lt_of_lt_of_le hbt (R.n_le ho h1 (by omega)))
    | X=>rw [hcm] at hp;simp only [agi,hno] at hp;cases hp
    | A=>rw [hcm] at hc;cases hc
    | L b=>rw [hcm] at hc;cases hc
    | N=>rw [hcm] at hc;cases hc
    | M b=>rw [hcm] at hc;cases hc
  ·refine chain j t h fun m h1 h2=>?_
   cases hc:(cl m).loud with
   | false=>exact R.quiet ho (by omega) hc b0 (Nat.lt_of_lt_of_le hb (R.n_le ho h1 (by omega)))
   | true =>
    have hjm:j<m:=by
     rcases Nat.lt_or_ge j m with h3 | h3
     ·exact h3
     ·rw [show m=j by omega,hq] at hc;cases hc
    have hp:=R.pair j m hjm (by omega)
    rw [hcl] at hp
    have hDm:=ht.2.1 m h2 hc
    have hno:ancB (befs ops) j m=false:=by
     cases hA:ancB (befs ops) j m with
     | false=>rfl
     | true=>have:=I.clo m j hDm hA;rw [hjD] at this;cases this
    cases hcm:cl m with
    | S b =>
     rw [hcm] at hp
     simp only [agi,hno,Bool.or_false,Bool.not_eq_true'] at hp
     exact R.other (by omega) hcm b0 (fun e=>by subst e;simp at hp)
    | T b =>
     rw [hcm] at hp
     simp only [agi,hno,Bool.or_false,Bool.not_eq_true'] at hp
     exact R.otherT ho (by omega) hcm b0 (fun e=>by subst e;simp at hp) (Nat.lt_of_lt_of_le hb (R.n_le ho h1 (by omega)))
    | Y b s =>
     rw [hcm] at hp
     simp only [agi,hno,Bool.false_or] at hp
     exact R.otherY ho (by omega) hcm b0 hp (Nat.lt_of_lt_of_le hb (R.n_le ho h1 (by omega)))
    | X=>rw [hcm] at hp;simp only [agi,hno] at hp;cases hp
    | A=>rw [hcm] at hc;cases hc
    | L b=>rw [hcm] at hc;cases hc
    | N=>rw [hcm] at hc;cases hc
    | M b=>rw [hcm] at hc;cases hc
 rw [hop] at hs hnp
 obtain⟨a1,b1,hx1,hb1,hG,hat⟩:=a13 hnp hs
 rw [hx0] at hx1
 cases hx1
 rw [hb0] at hb1
 cases hb1
 have h':=hat (Hs t) hsame ((R.hy ho htl).trans (R.hy ho (by omega)).symm)
 obtain⟨u,hv,hrun⟩:=bmu (w:=w) (ev:=a.eval) (ρ:=bel ρ (Hs t).n) h' (fun a' ha'=>by
  rw [hx0] at ha'
  cases ha'
  exact biq hb0 (by rw [abg hbt,abg hb]) hvx) (I.sim t ht).rel ((I.sim t ht).jj hj0)
 have hput:=I.put (ρ':=ρ) (u:=u) (w':=w) R hj hjD hanc (PM.le.refl ρ)
 obtain⟨dst,op,ty,pos,after,guard⟩:=o
 simp only at hop
 subst hop
 rw [hrun dst ty pos after guard]
 refine⟨ρ,hput ?_ ?_ ?_ ?_⟩
 ·exact(VRel.bel hok hv).mono (ai7 (ba9 _ _) (by omega))
 ·exact⟨t,(Itv.quiet hD' hq).2 ht⟩
 ·exact fun t ht=>I.sim t ((Itv.quiet hD' hq).1 ht)
 ·exact fun b h1 h2=>absurd h1 h2
theorem bki(hora:aom P ora)(hj0:J ρ0 H0 w0)(hd00:Dom ρ0 H0.n)(hlt0:∀ b L,H0.Kn b→ρ0 b=some L→L.B<w0.heap.size){b:Nat}(hcl:cl j=.M b)(hb0:H0.n≤b) :
  abz P (fun u w'=>∃ ρ',Inv n ops Fs Hs vs cl H0 ρ0 w0 df (listed.setIfInBounds j true) ρ' (a.put o.dst u) w') ((execOp a.eval o).run P w):=by
 have hjl:j<ops.length:=(Ls.1 hj).1
 have hD':=akf listed (j:=j) (by rw [I.sz];exact hjl)
 have hq:(cl j).loud=false:=by rw [hcl];rfl
 obtain⟨o',k0,g1,g2,g4,g5⟩:=R.mak j b hcl
 rw [hj] at g1
 cases g1
 have hno:ρ b=none:=by
  cases h:ρ b with
  | none=>rfl
  | some x =>
   exfalso
   rcases I.new b (by rw [h];simp) with h3 | ⟨k,h3,h4,h5⟩ | ⟨k,h3,h4⟩
   ·exact h3 (hd00 b hb0)
   ·have hkl:=aot h3
    rw [I.sz] at hkl
    have:=R.n_le ho (Nat.zero_le k) (by omega)
    omega
   ·have:=R.inj k j b h4 hcl
    subst this
    rw [hjD] at h3
    cases h3
 have hbn:∀ t,t≤ops.length→b<(Hs t).n:=fun t ht=>by have:=R.n_le ho (Nat.zero_le t) ht;omega
 have hkeep:∀ t,Itv ops cl (dOf listed) t→(Hs t).t.get b=some k0:=by
  intro t ht
  have:∀ m,m≤t→(Hs m).t.get b=some k0:=by
   intro m
   induction m with
   | zero=>exact fun _=>g4
   | succ m ih =>
    intro hm
    have htl:=ht.1
    rw [← ih (by omega)]
    cases hc:(cl m).loud with
    | false=>exact R.quiet ho (by omega) hc b (hbn m (by omega))
    | true =>
     refine R.keep j b m hcl (by omega) hc ?_
     cases hA:ancB (befs ops) j m with
     | false=>rfl
     | true =>
      have:=I.clo m j (ht.2.1 m (by omega) hc) hA
      rw [hjD] at this
      cases this
  exact this t (Rl _)
 obtain⟨G,hlit,hstep,hGn,hGb⟩:=azy g2
 obtain⟨_,hop⟩:=ame (w:=w) (ev:=a.eval) (ρ:=fun _=>none) (E:=evF (Fs j)) hora hstep (fun x hx v hv=>bhb (hlit x hx v hv) (awg (fun t ht v hv=>I.seen R ho hd0 hj hjD hanc t ht v hv) x hx v hv))
  ⟨fun b i c L hc=>(HP.cell_nil hc).elim,fun b b' L L' ⟨i,c,hc⟩=>(HP.cell_nil hc).elim,fun x hx=>by cases hx⟩ (fun _ _=>rfl) ⟨fun x hx=>⟨(Inv.jj R I ho hd0 hj0 0 0 0 []).tw x hx,fun b L' _ h=>by cases h⟩,fun g L M h=>by cases h⟩
 have hput:=fun ρ' u w'=>I.put (ρ':=ρ') (u:=u) (w':=w') R hj hjD hanc
 obtain⟨dst,op,ty,pos,after,guard⟩:=o
 refine abz.mono ?_ (hop dst ty pos after guard)
 rintro u w' ⟨ρ2,hu,hs2⟩
 have hw:∀ k,k<w.heap.size→w'.heap[k]? = w.heap[k]?:=fun k hk=>hs2.fr k hk fun b' L' ⟨i,c,hc⟩=>(HP.cell_nil hc).elim
 have hLB:∀ L,ρ2 b=some L→w.heap.size≤L.B:=fun L hL=>by
  rcases hs2.new b L rfl hL with h | ⟨b1,L1,⟨i,c,hc⟩,_⟩
  ·exact h
  ·exact(HP.cell_nil hc).elim
 have h2:∀ x y,ρ2 x=some y→x=b:=fun x y hx=>by
  have h1:=hs2.old x y rfl hx
  have h3:=hs2.dom.lt hx
  rw [hGn] at h3
  simp only at h1
  omega
 let ρ':PM:=fun x=>if x=b then ρ2 b else ρ x
 have hb':ρ' b=ρ2 b:=if_pos rfl
 have hoth:∀ x,x≠b→ρ' x=ρ x:=fun x hx=>if_neg hx
 have hle:PM.le ρ ρ':=fun x y hx=>by
  by_cases h:x=b
  ·subst h;rw [hno] at hx;cases hx
  ·rw [hoth x h];exact hx
 have hle2:∀ t,t≤ops.length→PM.le ρ2 (bel ρ' (Hs t).n):=fun t ht x y hx=>by
  obtain rfl:=h2 x y hx
  rw [abg (hbn t ht),hb']
  exact hx
 have h0n:∀ x y,ρ0 x=some y→x≠b:=fun x y hx h=>by subst h;rw [hd00 x hb0] at hx;cases hx
 have hcb:∀ i c,Bk.get k0 i=some c→G.cell b i=some c:=fun i c h=>by
  unfold HP.cell
  rw [hGb]
  exact h
 refine⟨ρ',hput ρ' u w' hle ?_ ?_ ?_ ?_⟩
 ·exact hu.mono (hle2 (j+1) (by omega))
 ·obtain⟨t,ht⟩:=I.itv
  exact⟨t,(Itv.quiet hD' hq).2 ht⟩
 ·intro t ht'
  have ht:=(Itv.quiet hD' hq).1 ht'
  have hIt:=I.sim t ht
  have htl:=ht.1
  have hkb:=hkeep t ht
  have hcell:∀ i c,(Hs t).cell b i=some c→G.cell b i=some c:=fun i c h=>by
   unfold HP.cell at h
   rw [hkb] at h
   exact hcb i c h
  have hbel:∀ x y,x≠b→bel ρ' (Hs t).n x=some y→bel ρ (Hs t).n x=some y:=fun x y hx h=>by
   obtain⟨k1,k2⟩:=abb h
   rw [abg k1,← hoth x hx]
   exact k2
  have hbb:∀ y,bel ρ' (Hs t).n b=some y→ρ2 b=some y:=fun y h=>by
   have:=(abb h).2
   rw [hb'] at this
   exact this
  exact {
   le:=fun x y hx=>by
    have h:=hIt.le x y hx
    obtain⟨k1,k2⟩:=abb h
    rw [abg k1,hoth x (h0n x y hx)]
    exact k2
   grow:=hIt.grow
   dom:=apu _ _
   rel:=by
    refine⟨fun x i c y hc hy=>?_,fun x x' y y' ⟨i,c,hc⟩ ⟨i',c',hc'⟩ hy hy' he=>?_,hIt.rel.hy⟩
    ·by_cases hx:x=b
     ·subst hx
      exact(hs2.rel.rel x i c y (hcell i c hc) (hbb y hy)).mono (hle2 t htl)
     ·have hy':=hbel x y hx hy
      have hr:=hIt.rel.rel x i c y hc hy'
      exact(hr.of_heap (hw y.B hr.lt)).mono (ai7 hle (Rl _))
    ·by_cases hx:x=b
     ·by_cases hx':x'=b
      ·rw [hx,hx']
      ·subst hx
       have:=hLB y (hbb y hy)
       have:=(hIt.rel.rel x' i' c' y' hc' (hbel x' y' hx' hy')).lt
       omega
     ·by_cases hx':x'=b
      ·subst hx'
       have:=hLB y' (hbb y' hy')
       have:=(hIt.rel.rel x i c y hc (hbel x y hx hy)).lt
       omega
      ·exact hIt.rel.inj x x' y y' ⟨i,c,hc⟩ ⟨i',c',hc'⟩ (hbel x y hx hy) (hbel x' y' hx' hy') he
   knc:=hIt.knc
   fr:=fun k hk hno'=>by rw [hw k (Nat.lt_of_lt_of_le hk hIt.size)];exact hIt.fr k hk hno'
   new:=fun x y k1 k2=>by
    by_cases hx:x=b
    ·subst hx
     exact .inl (Nat.le_trans hIt.size (hLB y (hbb y k2)))
    ·exact hIt.new x y k1 (hbel x y hx k2)
   size:=Nat.le_trans hIt.size hs2.size
   os:=hs2.os.trans hIt.os
   tape:=hs2.tape.trans hIt.tape
   output:=hs2.output.trans hIt.output
   old:=fun x y k1 k2=>by
    by_cases hx:x=b
    ·subst hx;exact hb0
    ·exact hIt.old x y k1 (hbel x y hx k2)
   jj:=fun hj=>⟨fun x hx=>⟨(hIt.jj hj).tw.keep hw x hx,fun y L' ⟨i,c,hc⟩ hy=>by
    by_cases hyb:y=b
    ·subst hyb
     have:=hLB L' (hbb L' hy)
     obtain⟨o,h1,_⟩:=(hIt.jj hj).tw x hx
     have:=(Ga.1 h1).1
     omega
    ·exact((hIt.jj hj).1 x hx).2 y L' ⟨i,c,hc⟩ (hbel y L' hyb hy)⟩,fun g L M hg hM k o hk=>by
    by_cases hgb:g=b
    ·subst hgb
     have hg2:=hbb L hg
     have hJ2:=hs2.jj ⟨fun x hx=>⟨(hIt.jj hj).tw x hx,fun b L' _ h=>by cases h⟩,fun g L M h=>by cases h⟩
     obtain⟨e1,e2⟩:=hJ2.2 g L M hg2 hM k o hk
     refine⟨e1,fun x y ⟨i,c,hc⟩ hy=>?_⟩
     by_cases hx:x=g
     ·subst hx
      exact e2 x y ⟨i,c,hcell i c hc⟩ (hbb y hy)
     ·rcases(hs2.ro g L M k o rfl hg2 hM hk).1 with h5 | ⟨b1,L1,⟨i1,c1,hc1⟩,_⟩
      ·have:=(hIt.rel.rel x i c y hc (hbel x y hx hy)).lt
       omega
      ·exact(HP.cell_nil hc1).elim
    ·obtain⟨e1,e2⟩:=(hIt.jj hj).2 g L M (hbel g L hgb hg) hM k o hk
     have hkl:=(Ga.1 e1).1
     refine⟨by rw [hw k hkl];exact e1,fun x y ⟨i,c,hc⟩ hy=>?_⟩
     by_cases hx:x=b
     ·subst hx
      have:=hLB y (hbb y hy)
      omega
     ·exact e2 x y ⟨i,c,hc⟩ (hbel x y hx hy)⟩
   ro:=fun g L M k o h1 h2 h3 h4=>by
    by_cases hgb:g=b
    ·subst hgb
     refine⟨?_,(hs2.ro g L M k o rfl (hbb L h2) h3 h4).2⟩
     rcases(hs2.ro g L M k o rfl (hbb L h2) h3 h4).1 with h5 | ⟨b1,L1,⟨i1,c1,hc1⟩,_⟩
     ·exact .inl (Nat.le_trans hIt.size h5)
     ·exact(HP.cell_nil hc1).elim
    ·exact hIt.ro g L M k o h1 (hbel g L hgb h2) h3 h4 }
 ·intro x k1 k2
  by_cases hx:x=b
  ·subst hx;exact .inr hcl
  ·rw [hoth x hx] at k2;exact absurd k1 k2
end
end
section
variable {P:Program} [Plain P] {ora:Ora} {n:Nat} {ops:List Oper} {Fs:Nat→Fm} {Hs:Nat→HP} {vs:Nat→AV} {cl:Nat→Cls} {H0:HP} {ρ0 ρ:PM} {w0 w:World} {df:List Deferred} {listed:Array Bool} {a:Act}
theorem a1x{H1 H2:HP}{b:Nat}(h:H1.t.get b=H2.t.get b)(hk:H1.Kn b):H2.Kn b:=by
 obtain⟨i,c,hc⟩:=hk
 exact⟨i,c,by unfold HP.cell at *;rw [← h];exact hc⟩
theorem cell_of{H1 H2:HP}{b i:Nat}(h:H1.t.get b=H2.t.get b):H1.cell b i=H2.cell b i:=by unfold HP.cell;rw [h]
section
variable (R:Run P ora n ops Fs Hs vs cl) (I:Inv n ops Fs Hs vs cl H0 ρ0 w0 df listed ρ a w) (ho:amh ora) (hd0:Dom ρ0 (Hs 0).n) (hd00:Dom ρ0 H0.n)
 {j:Nat} {o:Oper} (hj:ops[j]? = some o) (hjD:dOf listed j=false) (hanc:∀ i,((befs ops).getD j 0).testBit i=true→dOf listed i=true)
include R I hj hjD hanc ho hd0 hd00
theorem boi(hora:aom P ora)(hj0:J ρ0 H0 w0)(hcl:cl j=.N){G:HP}(hs:ad5 P ora (evF (Fs j)) (Hs j).fresh o.op=some (vs j,G))(hG:Hs (j+1)=G.lower (Hs j).lo) :
  abz P (fun u w'=>∃ ρ',Inv n ops Fs Hs vs cl H0 ρ0 w0 df (listed.setIfInBounds j true) ρ' (a.put o.dst u) w') ((execOp a.eval o).run P w):=by
 have hjl:j<ops.length:=(Ls.1 hj).1
 have hD':=akf listed (j:=j) (by rw [I.sz];exact hjl)
 have hq:(cl j).loud=false:=by rw [hcl];rfl
 have hij:=bpv R I hj hjD hanc (.inr hcl)
 have hIj:=I.sim j hij
 have hnn:(Hs j).n≤(Hs (j+1)).n:=R.n_le ho (by omega) (by omega)
 have hn0:(Hs 0).n≤(Hs j).n:=R.n_le ho (by omega) (by omega)
 obtain⟨_,hop⟩:=ame (w:=w) (ev:=a.eval) (ρ:=bel ρ (Hs j).n) hora hs (awg fun t ht v hv=>I.seen R ho hd0 hj hjD hanc t ht v hv) hIj.rel.fresh (apu _ _) (hj0.step hIj).fresh
 have hfresh:=fun b=>bl9 R I ho hd0 hj hjD hanc (b:=b)
 have hput:=fun ρ' u w'=>I.put (ρ':=ρ') (u:=u) (w':=w') R hj hjD hanc
 obtain⟨dst,op,ty,pos,after,guard⟩:=o
 refine abz.mono ?_ (hop dst ty pos after guard)
 rintro u w' ⟨ρ2,hv,hs2⟩
 have hs2:Sim (bel ρ (Hs j).n) (Hs j) w ρ2 (Hs (j+1)) w':=by rw [hG];exact hs2.lower
 have S:=hIj.trans hd00 hs2
 have hold:∀ b,b<(Hs j).n→ρ2 b=ρ b:=fun b hb=>by
  cases h:ρ b with
  | some x=>exact hs2.le b x (by rw [abg hb];exact h)
  | none =>
   cases h2:ρ2 b with
   | none=>rfl
   | some x=>have:=hs2.old b x (by rw [abg hb];exact h) h2;omega
 let ρ':PM:=fun b=>if(Hs j).n≤b∧b<(Hs (j+1)).n then ρ2 b else ρ b
 have hnew:∀ b,(Hs j).n≤b→b<(Hs (j+1)).n→ρ' b=ρ2 b:=fun b h1 h2=>if_pos ⟨h1,h2⟩
 have hoth:∀ b,¬ ((Hs j).n≤b∧b<(Hs (j+1)).n)→ρ' b=ρ b:=fun b h=>if_neg h
 have hlow:∀ b,b<(Hs (j+1)).n→ρ' b=ρ2 b:=fun b hb=>by
  rcases Nat.lt_or_ge b (Hs j).n with h | h
  ·rw [hoth b (by omega),hold b h]
  ·exact hnew b h hb
 have hle:PM.le ρ ρ':=fun b x hb=>by
  by_cases h:(Hs j).n≤b∧b<(Hs (j+1)).n
  ·rw [hfresh b h.1 h.2] at hb;cases hb
  ·rw [hoth b h];exact hb
 have hbel2:bel ρ' (Hs (j+1)).n=ρ2:=by
  funext b
  unfold bel
  split
  ·rename_i hb;exact hlow b hb
  ·rw [hs2.dom b (by omega)]
 refine⟨ρ',hput ρ' u w' hle ?_ ?_ ?_ ?_⟩
 ·rw [hbel2];exact hv
 ·obtain⟨t,ht⟩:=I.itv
  exact⟨t,(Itv.quiet hD' hq).2 ht⟩
 ·intro t ht'
  have ht:=(Itv.quiet hD' hq).1 ht'
  have hIt:=I.sim t ht
  have htl:=ht.1
  rcases Nat.lt_or_ge j t with h | h
  ·-- behind it
   have hsame1:=R.same ho (show j+1≤t by omega) htl (fun k h1 h2=>hij.between ht (by omega) h2)
   have hsame0:=R.same ho (show j≤t by omega) htl (fun k h1 h2=>hij.between ht h1 h2)
   have hnt:(Hs (j+1)).n≤(Hs t).n:=R.n_le ho (by omega) htl
   have hle2:PM.le ρ2 (bel ρ' (Hs t).n):=by rw [← hbel2];exact ai7 (PM.le.refl _) hnt
   have hstill:∀ b i c L,(Hs (j+1)).n≤b→(Hs t).cell b i=some c→bel ρ (Hs t).n b=some L→w'.heap[L.B]? = w.heap[L.B]?:=by
    intro b i c L hb hc hL
    refine hs2.fr L.B (hIt.rel.rel b i c L hc hL).lt fun b0 L0 hk0 hL0 he=>?_
    obtain⟨hb0,hρ0⟩:=abb hL0
    have hk:=a1x (hsame0 b0 hb0).symm hk0
    have:=hIt.rel.inj b0 b L0 L hk ⟨i,c,hc⟩ (by rw [abg (by omega)];exact hρ0) hL he
    omega
   have mixed:∀ b b' L L' i' c',(Hs j).n≤b→b<(Hs (j+1)).n→(Hs (j+1)).n≤b'→ρ2 b=some L→(Hs t).cell b' i'=some c'→bel ρ (Hs t).n b'=some L'→L.B=L'.B→False:=by
    intro b b' L L' i' c' h1 h2 h3 hL hc' hL' he
    rcases hs2.new b L (ba8 h1) hL with h4 | ⟨b0,L0,h4,h5,h6⟩
    ·have:=(hIt.rel.rel b' i' c' L' hc' hL').lt
     omega
    ·obtain⟨hb0,hρ0⟩:=abb h5
     have hk:=a1x (hsame0 b0 hb0).symm h4
     have:=hIt.rel.inj b0 b' L0 L' hk ⟨i',c',hc'⟩ (by rw [abg (by omega)];exact hρ0) hL' (h6.trans he)
     omega
   exact {
    le:=fun b x hb=>by
     have hb1:=hd0.lt hb
     rw [abg (by omega),hlow b (by omega)]
     exact S.le b x hb
    grow:=Nat.le_trans I.h00 (R.n_le ho (by omega) htl)
    dom:=apu _ _
    rel:=by
     refine⟨fun b i c L hc hL=>?_,fun b b' L L' ⟨i,c,hc⟩ ⟨i',c',hc'⟩ hL hL' he=>?_,hIt.rel.hy⟩
     ·obtain⟨h1,h2⟩:=abb hL
      rcases Nat.lt_or_ge b (Hs (j+1)).n with h3 | h3
      ·rw [hlow b h3] at h2
       exact(S.rel.rel b i c L (by rw [cell_of (hsame1 b h3).symm];exact hc) h2).mono hle2
      ·rw [hoth b (by omega)] at h2
       have hL2:bel ρ (Hs t).n b=some L:=by rw [abg h1];exact h2
       exact((hIt.rel.rel b i c L hc hL2).of_heap (hstill b i c L h3 hc hL2)).mono (ai7 hle (Rl _))
     ·obtain⟨h1,h2⟩:=abb hL
      obtain⟨h1',h2'⟩:=abb hL'
      rcases Nat.lt_or_ge b (Hs (j+1)).n with h3 | h3
      ·rcases Nat.lt_or_ge b' (Hs (j+1)).n with h4 | h4
       ·rw [hlow b h3] at h2
        rw [hlow b' h4] at h2'
        exact S.rel.inj b b' L L' ⟨i,c,by rw [cell_of (hsame1 b h3).symm];exact hc⟩ ⟨i',c',by rw [cell_of (hsame1 b' h4).symm];exact hc'⟩ h2 h2' he
       ·rw [hoth b' (by omega)] at h2'
        have hL2':bel ρ (Hs t).n b'=some L':=by rw [abg h1'];exact h2'
        rcases Nat.lt_or_ge b (Hs j).n with h5 | h5
        ·rw [hoth b (by omega)] at h2
         exact hIt.rel.inj b b' L L' ⟨i,c,hc⟩ ⟨i',c',hc'⟩ (by rw [abg h1];exact h2) hL2' he
        ·rw [hlow b h3] at h2
         exact(mixed b b' L L' i' c' h5 h3 h4 h2 hc' hL2' he).elim
      ·rw [hoth b (by omega)] at h2
       have hL2:bel ρ (Hs t).n b=some L:=by rw [abg h1];exact h2
       rcases Nat.lt_or_ge b' (Hs (j+1)).n with h4 | h4
       ·rcases Nat.lt_or_ge b' (Hs j).n with h5 | h5
        ·rw [hoth b' (by omega)] at h2'
         exact hIt.rel.inj b b' L L' ⟨i,c,hc⟩ ⟨i',c',hc'⟩ hL2 (by rw [abg h1'];exact h2') he
        ·rw [hlow b' h4] at h2'
         exact(mixed b' b L' L i c h5 h4 h3 h2' hc hL2 he.symm).elim
       ·rw [hoth b' (by omega)] at h2'
        exact hIt.rel.inj b b' L L' ⟨i,c,hc⟩ ⟨i',c',hc'⟩ hL2 (by rw [abg h1'];exact h2') he
    knc:=hIt.knc
    fr:=S.fr
    new:=fun b L g1 g2=>by
     obtain⟨h1,h2⟩:=abb g2
     by_cases h3:(Hs j).n≤b∧b<(Hs (j+1)).n
     ·rw [hnew b h3.1 h3.2] at h2
      exact S.new b L g1 h2
     ·rw [hoth b h3] at h2
      exact hIt.new b L g1 (by rw [abg h1];exact h2)
    size:=S.size
    os:=S.os
    tape:=S.tape
    output:=S.output
    old:=fun b L g1 g2=>by
     obtain⟨h1,h2⟩:=abb g2
     by_cases h3:(Hs j).n≤b∧b<(Hs (j+1)).n
     ·have:=I.h00;omega
     ·rw [hoth b h3] at h2
      exact hIt.old b L g1 (by rw [abg h1];exact h2)
    jj:=fun hj=>⟨fun x hx=>⟨(S.jj hj).tw x hx,fun b L' hkb hL'=>by
     obtain⟨k1,k2⟩:=abb hL'
     rcases Nat.lt_or_ge b (Hs (j+1)).n with h4 | h4
     ·rw [hlow b h4] at k2
      exact((S.jj hj).1 x hx).2 b L' (a1x (hsame1 b h4) hkb) k2
     ·rw [hoth b (by omega)] at k2
      exact((hIt.jj hj).1 x hx).2 b L' hkb (by rw [abg k1];exact k2)⟩,fun g L M hg hM k o hk=>by
     obtain⟨h1,h2⟩:=abb hg
     have J2:=S.jj hj
     have Jt:=hIt.jj hj
     by_cases h3:(Hs j).n≤g∧g<(Hs (j+1)).n
     ·rw [hnew g h3.1 h3.2] at h2
      obtain⟨e1,e2⟩:=J2.2 g L M h2 hM k o hk
      refine⟨e1,fun b L' hkb hL'=>?_⟩
      obtain⟨k1,k2⟩:=abb hL'
      rcases Nat.lt_or_ge b (Hs (j+1)).n with h4 | h4
      ·rw [hlow b h4] at k2
       exact e2 b L' (a1x (hsame1 b h4) hkb) k2
      ·rw [hoth b (by omega)] at k2
       obtain⟨i,c,hc⟩:=hkb
       have hL2:bel ρ (Hs t).n b=some L':=by rw [abg k1];exact k2
       rcases(hs2.ro g L M k o (ba8 h3.1) h2 hM hk).1 with h5 | ⟨b0,L0,h5,h6,h7⟩
       ·have:=(hIt.rel.rel b i c L' hc hL2).lt
        omega
       ·intro he
        obtain⟨hb0,hρ0⟩:=abb h6
        have hk0:=a1x (hsame0 b0 hb0).symm h5
        have:=hIt.rel.inj b0 b L0 L' hk0 ⟨i,c,hc⟩ (by rw [abg (by omega)];exact hρ0) hL2 (h7.trans he.symm)
        omega
     ·rw [hoth g h3] at h2
      obtain⟨e1,e2⟩:=Jt.2 g L M (by rw [abg h1];exact h2) hM k o hk
      have hkl:=(Ga.1 e1).1
      have e3:w'.heap[k]? = w.heap[k]?:=hs2.fr k hkl fun b0 L0 hk0 hL0=>by
       obtain⟨hb0,hρ0⟩:=abb hL0
       exact e2 b0 L0 (a1x (hsame0 b0 hb0).symm hk0) (by rw [abg (by omega)];exact hρ0)
      refine⟨by rw [e3];exact e1,fun b L' hkb hL'=>?_⟩
      obtain⟨k1,k2⟩:=abb hL'
      by_cases h4:(Hs j).n≤b∧b<(Hs (j+1)).n
      ·rw [hnew b h4.1 h4.2] at k2
       rcases hs2.new b L' (ba8 h4.1) k2 with h5 | ⟨b0,L0,h5,h6,h7⟩
       ·omega
       ·rw [← h7]
        obtain⟨hb0,hρ0⟩:=abb h6
        exact e2 b0 L0 (a1x (hsame0 b0 hb0).symm h5) (by rw [abg (by omega)];exact hρ0)
      ·rw [hoth b h4] at k2
       exact e2 b L' hkb (by rw [abg k1];exact k2)⟩
    ro:=fun g L M k o g1 g2 g3 g4=>by
     obtain⟨h1,h2⟩:=abb g2
     by_cases h3:(Hs j).n≤g∧g<(Hs (j+1)).n
     ·rw [hnew g h3.1 h3.2] at h2
      exact S.ro g L M k o g1 h2 g3 g4
     ·rw [hoth g h3] at h2
      exact hIt.ro g L M k o g1 (by rw [abg h1];exact h2) g3 g4 }
  ·-- ahead of it
   have hnt:(Hs t).n≤(Hs j).n:=R.n_le ho h (by omega)
   have hsame:=R.same ho (show t≤j+1 by omega) (by omega) (fun k h1 h2=>by
    rcases Nat.lt_or_ge k j with h3 | h3
    ·exact ht.between hij h1 h3
    ·rw [show k=j by omega];exact hq)
   have e1:bel ρ' (Hs t).n=bel ρ2 (Hs t).n:=by
    funext b
    unfold bel
    split
    ·rw [hlow b (by omega)]
    ·rfl
   have e2:bel ρ2 (Hs t).n=bel ρ (Hs t).n:=by
    funext b
    unfold bel
    split
    ·rw [hold b (by omega)]
    ·rfl
   rw [e1]
   refine S.less hd00 (Nat.le_trans I.h00 (R.n_le ho (by omega) htl)) (fun b hb=>(hsame b hb).symm) ⟨fun b i c L hc hL=>?_,fun b b' L L' h1 h2 g1 g2=>?_,hIt.rel.hy⟩
   ·obtain⟨h1,h2⟩:=abb hL
    have hnewr:=S.rel.rel b i c L (by rw [cell_of (hsame b h1)];exact hc) h2
    rw [e2]
    have hL':bel ρ (Hs t).n b=some L:=by rw [← e2];exact hL
    exact aei.back (by rw [← e2];exact ba9 _ _) (hIt.rel.rel b i c L hc hL') hnewr
   ·obtain⟨k1,k2⟩:=abb g1
    obtain⟨k3,k4⟩:=abb g2
    exact S.rel.inj b b' L L' (a1x (hsame b k1).symm h1) (a1x (hsame b' k3).symm h2) k2 k4
 ·intro b h1 h2
  by_cases h:(Hs j).n≤b∧b<(Hs (j+1)).n
  ·exact .inl h
  ·rw [hoth b h] at h2;exact absurd h1 h2
theorem aye(hora:aom P ora)(hj0:J ρ0 H0 w0)(hcl:(cl j).loud=true){G:HP}(hs:ad5 P ora (evF (Fs j)) (Hs j).fresh o.op=some (vs j,G))(hG:Hs (j+1)=G.lower (Hs j).lo) :
  abz P (fun u w'=>∃ ρ',Inv n ops Fs Hs vs cl H0 ρ0 w0 df (listed.setIfInBounds j true) ρ' (a.put o.dst u) w') ((execOp a.eval o).run P w):=by
 have hjl:j<ops.length:=(Ls.1 hj).1
 have hD':=akf listed (j:=j) (by rw [I.sz];exact hjl)
 have hij:=bpv R I hj hjD hanc (.inl hcl)
 have hIj:=I.sim j hij
 have hρn:∀ b,ρ b≠none→b<(Hs j).n:=by
  intro b hb
  rcases I.new b hb with h3 | ⟨k,h3,h4,h5⟩ | ⟨k,h3,h4⟩
  rotate_left 2
  ·obtain⟨_,_,_,_,_,hlt⟩:=R.mak k b h4
   have:=R.n_le ho (Nat.zero_le j) (by omega)
   omega
  ·cases h0:ρ0 b with
   | none=>exact absurd h0 h3
   | some y =>
    have:=hd0.lt h0
    have:=R.n_le ho (Nat.zero_le j) (by omega)
    omega
  ·have hkl:=aot h3
   rw [I.sz] at hkl
   rcases Nat.lt_trichotomy k j with h6 | h6 | h6
   ·have:=R.n_le ho (show k+1≤j by omega) (by omega)
    omega
   ·subst h6;rw [hjD] at h3;cases h3
   ·exfalso
    have hmk:(cl k).makes=true:=by
     cases h:(cl k).makes with
     | true=>rfl
     | false=>have:=R.noMake hkl h;omega
    have hkc:(cl k).loud=true∨cl k=.N:=by
     cases hc:cl k<;>rw [hc] at hmk<;>simp_all [Cls.makes,Cls.loud]
    have:=I.clo k j h3 (akn (R.pair j k h6 hkl) hcl hkc)
    rw [hjD] at this
    cases this
 obtain⟨_,hop⟩:=ame (w:=w) (ev:=a.eval) (ρ:=bel ρ (Hs j).n) hora hs (awg fun t ht v hv=>I.seen R ho hd0 hj hjD hanc t ht v hv) hIj.rel.fresh (apu _ _) (hj0.step hIj).fresh
 have hput:=fun ρ' u w'=>I.put (ρ':=ρ') (u:=u) (w':=w') R hj hjD hanc
 obtain⟨dst,op,ty,pos,after,guard⟩:=o
 refine abz.mono ?_ (hop dst ty pos after guard)
 rintro u w' ⟨ρ2,hv,hs2⟩
 have hs2:Sim (bel ρ (Hs j).n) (Hs j) w ρ2 (Hs (j+1)) w':=by rw [hG];exact hs2.lower
 have S:=hIj.trans hd00 hs2
 have hitv':∀ t,Itv ops cl (dOf (listed.setIfInBounds j true)) t→j<t∧∀ k,j+1≤k→k<t→(cl k).loud=false:=by
  intro t ht
  refine⟨ht.2.2 j (by rw [hD'];simp) hcl,fun k h1 h2=>?_⟩
  cases hc:(cl k).loud with
  | false=>rfl
  | true =>
   exfalso
   have hk:=ht.2.1 k h2 hc
   rw [hD'] at hk
   have hkj:¬ k=j:=by omega
   simp only [hkj,if_false] at hk
   have hkl:=aot hk
   rw [I.sz] at hkl
   have:=I.clo k j hk (akn (R.pair j k (by omega) hkl) hcl (.inl hc))
   rw [hjD] at this
   cases this
 refine⟨ρ2,hput ρ2 u w' ?_ ?_ ?_ ?_ ?_⟩
 ·intro b x hb
  exact hs2.le b x (by rw [abg (hρn b (by rw [hb];simp))];exact hb)
 ·rw [bfs hs2.dom (Rl _)];exact hv
 ·refine⟨j+1,by omega,fun k hk hl=>?_,fun k hk hl=>?_⟩
  ·rw [hD']
   by_cases hkj:k=j
   ·simp [hkj]
   ·simp only [hkj,if_false];exact hij.2.1 k (by omega) hl
  ·rw [hD'] at hk
   by_cases hkj:k=j
   ·omega
   ·simp only [hkj,if_false] at hk
    have:=hij.2.2 k hk hl
    omega
 ·intro t ht
  obtain⟨h1,h2⟩:=hitv' t ht
  rw [bfs hs2.dom (R.n_le ho (show j+1≤t by omega) ht.1)]
  exact S.ghost (R.n_le ho (show j+1≤t by omega) ht.1) ((R.hy ho ht.1).trans (R.hy ho (by omega)).symm) (R.same ho (show j+1≤t by omega) ht.1 h2)
 ·intro b h1 h2
  cases h:ρ2 b with
  | none=>exact absurd h h2
  | some x =>
   refine .inl ⟨hs2.old b x ?_ h,hs2.dom.lt h⟩
   unfold bel
   split
   ·exact h1
   ·rfl
end
end
section
variable {P:Program} [Plain P] {ora:Ora} {n m:Nat} {r:Option Nat} {ops:List Oper} {Fs:Nat→Fm} {Hs:Nat→HP} {vs:Nat→AV} {cl:Nat→Cls} {H0:HP} {ρ0 ρ:PM} {w0 w:World} {df:List Deferred} {listed:Array Bool} {a:Act}
theorem Inv.step(R:Run P ora n ops Fs Hs vs cl)(hora:aom P ora)(hj0:J ρ0 H0 w0)(hd0:Dom ρ0 (Hs 0).n)(hd00:Dom ρ0 H0.n)(hM:∀ k b,cl k=.M b→H0.n≤b)(hlt0:∀ b L,H0.Kn b→ρ0 b=some L→L.B<w0.heap.size)(I:Inv n ops Fs Hs vs cl H0 ρ0 w0 df listed ρ a w)
  {j:Nat} {o:Oper} (hj:ops[j]? = some o) (hjD:dOf listed j=false) (hanc:∀ i,((befs ops).getD j 0).testBit i=true→dOf listed i=true)
  {K:Act→World→Prop} {Q:Exit→Act→World→Prop} (hk:∀ ρ' u w',Inv n ops Fs Hs vs cl H0 ρ0 w0 df (listed.setIfInBounds j true) ρ' (a.put o.dst u) w'→K (a.put o.dst u) w') :
  wpOpIn (WF r) m P ops.toArray Q j K a w:=by
 have hjl:j<ops.length:=(Ls.1 hj).1
 have ho:=hora.st
 have hseen:=fun t ht v hv=>I.seen R ho hd0 hj hjD hanc t ht v hv
 unfold wpOpIn
 simp only [List.getElem?_toArray,hj]
 rcases R.step j o hj with ⟨hw,hv,hc,hH,hp⟩ | ⟨hw,G,hs,hH,hp,hc,hok⟩ | ⟨b,k0,hmk,hw,hc,hH,hp⟩
 rotate_left 2
 ·rw [if_pos (ayw (I.hy R ho (by omega)) hseen hw)]
  have key:=bki R I ho hd0 hj hjD hanc hora hj0 hd00 hlt0 hc (hM j b hc)
  refine⟨fun f _=>trivial,?_⟩
  obtain⟨G,_,hs,_⟩:=azy hmk
  rw [Oper.semAt_eq _ _ _ (aii hs)]
  exact agm key fun u w' ⟨ρ',h⟩=>hk ρ' u w' h
 ·rw [if_neg (by rw [ayw (I.hy R ho (by omega)) hseen hw];simp)]
  refine⟨fun f _=>trivial,hk ρ _ _ ?_⟩
  have hD':=akf listed (j:=j) (by rw [I.sz];exact hjl)
  have hq:(cl j).loud=false:=by rw [hc];rfl
  refine I.put R hj hjD hanc (PM.le.refl ρ) (by rw [hv];exact apr _) ?_ (fun t ht=>I.sim t ((Itv.quiet hD' hq).1 ht)) (fun b h1 h2=>absurd h1 h2)
  obtain⟨t,ht⟩:=I.itv
  exact⟨t,(Itv.quiet hD' hq).2 ht⟩
 ·rw [if_pos (ayw (I.hy R ho (by omega)) hseen hw)]
  have key:abz P (fun u w'=>∃ ρ',Inv n ops Fs Hs vs cl H0 ρ0 w0 df (listed.setIfInBounds j true) ρ' (a.put o.dst u) w') ((execOp a.eval o).run P w):=by
   have hc':=hc
   unfold clsA at hc
   split at hc
   ·rename_i hpure
    exact bkj R I ho hd0 hj hjD hanc hora hj0 hd00 hlt0 hpure hc hs
   ·rename_i hnp
    split at hc
    ·rename_i t x hop
     have hs':=hs
     rw [hop] at hs'
     have hnp':=hnp
     rw [hop] at hnp'
     obtain⟨a0,b0,hx,hb0,_,_⟩:=a13 hnp' hs'
     have hc:cl j=.L b0:=by
      rw [hc]
      unfold ava
      simp only [hx,hb0]
     exact bkh R I ho hd0 hj hjD hanc hora hj0 hc hop hx hb0 hnp (by rw [hc] at hok;exact hok) hs
    ·rename_i t x y hop
     have hs':=hs
     rw [hop] at hs'
     obtain⟨a0,b0,hx,hb0,_,_⟩:=a4h hs'
     have hc:cl j=.S b0:=by
      rw [hc]
      unfold aor
      simp only [hx,hb0]
     exact aye R I ho hd0 hd00 hj hjD hanc hora hj0 (by rw [hc];rfl) hs hH
    ·split at hc
     ·exact boi R I ho hd0 hd00 hj hjD hanc hora hj0 hc hs hH
     ·split at hc
      ·exact aye R I ho hd0 hd00 hj hjD hanc hora hj0 (by rw [hc];rfl) hs hH
      ·exact aye R I ho hd0 hd00 hj hjD hanc hora hj0 (by rw [hc];rfl) hs hH
  refine⟨fun f _=>trivial,?_⟩
  rw [Oper.semAt_eq _ _ _ (aii hs)]
  exact agm key fun u w' ⟨ρ',h⟩=>hk ρ' u w' h
theorem bwu(R:Run P ora n ops Fs Hs vs cl)(hora:aom P ora)(hj0:J ρ0 H0 w0)(hd0:Dom ρ0 (Hs 0).n)(hd00:Dom ρ0 H0.n)(hM:∀ k b,cl k=.M b→H0.n≤b)(hlt0:∀ b L,H0.Kn b→ρ0 b=some L→L.B<w0.heap.size){Q:Exit→Act→World→Prop}
  (hq:∀ ρ' a' w',SRel n ρ' (Fs ops.length) (Hs ops.length) a' w'→a'.defers=df→Sim ρ0 H0 w0 ρ' (Hs ops.length) w'→Q .normal a' w') :
  ∀ (fuel:Nat) (listed:Array Bool) (ρ:PM) (a:Act) (w:World),Inv n ops Fs Hs vs cl H0 ρ0 w0 df listed ρ a w→bga ops.length listed≤fuel→wpAnyIn (WF r) m P .any ops.toArray Q fuel listed a w:=by
 have ho:=hora.st
 have hfl:=R.flow
 simp only [akj,Ba] at hfl
 have hdone:∀ (listed:Array Bool) (ρ:PM) (a:Act) (w:World),Inv n ops Fs Hs vs cl H0 ρ0 w0 df listed ρ a w→(Region.ready .any ops.toArray listed=[]→Q .normal a w):=by
  intro listed ρ a w inv hemp
  have hall:∀ k,k<ops.length→dOf listed k=true:=by
   intro k
   induction k using Nat.strongRecOn with
   | _ k ih =>
    intro hk
    cases hD:dOf listed k with
    | true=>rfl
    | false =>
     exfalso
     have hmem:k∈Region.ready .any ops.toArray listed:=by
      rw [mem_ready]
      refine⟨?_,ops[k],by simp [hk],fun e he hb=>?_⟩
      ·unfold dOf at hD
       have:k<listed.size:=by rw [inv.sz];exact hk
       simp [this] at hD ⊢
       exact hD
      ·have hlt:=asv ops 0 hfl.1.1 k ops[k] (Gl hk) e he hb
       exact ih e.on (by omega) (by omega)
     rw [hemp] at hmem
     cases hmem
  have hI:Itv ops cl (dOf listed) ops.length:=⟨Rl _,fun k hk _=>hall k hk,fun k hk _=>by have:=aot hk;rw [inv.sz] at this;exact this⟩
  have S:=inv.sim _ hI
  refine hq _ a w ⟨⟨inv.tsz,fun t v hv=>?_⟩,S.rel,S.dom,hj0.step S⟩ inv.df S
  rcases R.frame ops.length (Rl _) t v hv with ⟨p,h1,h2,rfl⟩ | ⟨h1,h2⟩
  ·obtain⟨u,hu,hr⟩:=inv.fr1 p t (hall p h1) h2
   exact⟨u,hu,hr.mono (ai7 (PM.le.refl ρ) (R.n_le ho (by omega) (Rl _)))⟩
  ·obtain⟨u,hu,hr⟩:=inv.fr2 t v (fun p hp=>h1 p (by have:=aot hp;rw [inv.sz] at this;exact this)) h2
   exact⟨u,hu,hr.mono S.le⟩
 intro fuel
 induction fuel with
 | zero =>
  intro listed ρ a w inv hc
  have hemp:Region.ready .any ops.toArray listed=[]:=by
   cases hre:Region.ready .any ops.toArray listed with
   | nil=>rfl
   | cons j l =>
    exfalso
    have hj:j∈Region.ready .any ops.toArray listed:=by rw [hre];exact Ms ..
    obtain⟨h0,o,ho,_⟩:=mem_ready.1 hj
    have ho':ops[j]? = some o:=by simpa using ho
    have hjl:j<ops.length:=(Ls.1 ho').1
    have hD:dOf listed j=false:=by
     unfold dOf
     have:j<listed.size:=by rw [inv.sz];exact hjl
     simp [this] at h0 ⊢
     exact h0
    have:=bbg hjl inv.sz hD
    omega
  exact⟨hemp,hdone listed ρ a w inv hemp⟩
 | succ fuel ih =>
  intro listed ρ a w inv hc
  refine⟨hdone listed ρ a w inv,fun j hj=>?_⟩
  obtain⟨h0,o,ho,hall⟩:=mem_ready.1 hj
  have ho':ops[j]? = some o:=by simpa using ho
  have hjl:j<ops.length:=(Ls.1 ho').1
  have hjs:j<listed.size:=by rw [inv.sz];exact hjl
  have hD:dOf listed j=false:=by
   unfold dOf
   simp [hjs] at h0 ⊢
   exact h0
  have hcnt:=bbg hjl inv.sz hD
  have hanc:∀ i,((befs ops).getD j 0).testBit i=true→dOf listed i=true:=fun i hi=>by
   obtain⟨e,he,hb,_,hr⟩:=bfr ho' hi
   have hl:=hall e (by simpa using he) hb
   rcases hr with rfl | hr
   ·exact hl
   ·exact inv.clo e.on i hl hr
  exact inv.step R hora hj0 hd0 hd00 hM hlt0 ho' hD hanc fun ρ' u w' inv'=>ih _ ρ' _ _ inv' (by omega)
theorem bo1(hm:P.follows .mixedOrders=true)(hora:aom P ora)(hfl:akj ops=true){id:Nat}{F F':Fm}{H H':HP}{Q:Exit→Act→World→Prop}(h:bgd P ora n ops F H=some (F',H'))(s:SRel n ρ F H a w)
  (hq:∀ ρ' a' w',SRel n ρ' F' H' a' w'→a'.defers=a.defers→Sim ρ H w ρ' H' w'→Q .normal a' w'):(Code.region id ops.toArray true).wpIn (WF r) m P Q a w:=by
 obtain⟨Fs,Hs,vs,cl,R,rfl,rfl,rfl,hn00,hst0,hsame0,hM⟩:=a5r hfl h
 refine wpIn_region_any hm ?_
 have hlt0:∀ b L,H.Kn b→ρ b=some L→L.B<w.heap.size:=fun b L ⟨i,c,hc⟩ hL=>(s.hp.rel b i c L hc hL).lt
 have hsim0:Sim ρ H w ρ H { w with drawn:=w.drawn+1 }:=Sim.same s.hp s.dom rfl rfl rfl rfl
 have hsim:Sim ρ H w ρ (Hs 0) { w with drawn:=w.drawn+1 }:=hsim0.ghost hn00 hst0.2.2.1 hsame0
 have hno:∀ k,dOf (Array.replicate ops.toArray.size false) k=false:=fun k=>by
  unfold dOf
  rw [Array.getD_eq_getD_getElem?,Array.getElem?_replicate]
  split<;>rfl
 refine bwu (H0:=H) R hora s.j hsim.dom s.dom hM hlt0 hq _ _ ρ a _ ⟨by simp,fun k i hk=>?_,s.fr.sz,fun p t hp=>?_,fun t v _ hv=>s.fr.get t v hv,rfl,?_,fun t ht=>?_,fun b hb=>.inl hb,hn00,PM.le.refl ρ⟩ (by
  unfold bga
  exact Nat.le_trans (List.countP_le_length) (by simp))
 ·rw [hno] at hk;cases hk
 ·rw [hno] at hp;cases hp
 ·obtain⟨t,_,h1,_⟩:=Itv.max (ops:=ops) (cl:=cl) (D:=dOf (Array.replicate ops.toArray.size false)) _ 0 rfl ⟨Nat.zero_le _,fun k hk=>by omega,fun k hk=>by rw [hno] at hk;cases hk⟩
  exact⟨t,h1⟩
 ·have hq0:∀ k,0≤k→k<t→(cl k).loud=false:=fun k _ hk=>by
   cases hc:(cl k).loud with
   | false=>rfl
   | true=>have:=ht.2.1 k hk hc;rw [hno] at this;cases this
  have hn:=R.n_le hora.st (Nat.zero_le t) ht.1
  rw [bfs hsim.dom hn]
  exact hsim.ghost hn (R.hy hora.st ht.1) (R.same hora.st (Nat.zero_le t) ht.1 hq0)
theorem blw(ho:amh ora)(hfl:akj ops=true){F F':Fm}{H H':HP}(h:bgd P ora n ops F H=some (F',H')):St H H':=by
 obtain⟨Fs,Hs,vs,cl,R,rfl,rfl,rfl,hn00,hst0,hsame0,hM⟩:=a5r hfl h
 have:∀ k,k≤ops.length→St (Hs 0) (Hs k):=by
  intro k
  induction k with
  | zero=>exact fun _=>St.refl _
  | succ k ih=>exact fun hk=>(ih (by omega)).trans (R.st ho (by omega))
 exact hst0.trans (this _ (Rl _))
end
def DfOK(ρ:PM)(H:HP)(w:World)(m:Nat):List Deferred→Prop
 | []=>True
 | d::ds=>(∃ D:Nat,d={ target:=.collected D,args:=#[] }∧m≤D∧w.heap[D]? = some (.deferred (some []))∧((∀ b L,H.Kn b→ρ b=some L→L.B≠D)∧∀ g L M o,ρ g=some L→L.M=some M→¬ M D o)∧∀ d'∈ds,∀ D',d'.target=.collected D'→D'≠D)∧DfOK ρ H w m ds
theorem DfOK.nil(ρ:PM)(H:HP)(w:World)(m:Nat):DfOK ρ H w m []:=trivial
theorem DfOK.step{ρ ρ':PM}{H H':HP}{w w':World}{m:Nat}(hd:Dom ρ H.n)(s:Sim ρ H w ρ' H' w'):∀ {ds:List Deferred},DfOK ρ H w m ds→DfOK ρ' H' w' m ds
 | [],_=>trivial
 | d::ds,⟨⟨D,h1,hm,h2,h3,h7⟩,h⟩=>by
  have hlt:=(Ga.1 h2).1
  refine⟨⟨D,h1,hm,by rw [s.fr D hlt h3.1];exact h2,⟨fun b L hk hL he=>?_,fun g L M o hg hM ho=>?_⟩,h7⟩,DfOK.step hd s h⟩
  ·cases hb:ρ b with
   | some L0 =>
    have:=s.le b L0 hb
    rw [hL] at this
    cases this
    exact h3.1 b L (s.kn (hd.lt hb) hk) hb he
   | none =>
    rcases s.new b L hb hL with h4 | ⟨b0,L0,h4,h5,h6⟩
    ·omega
    ·exact h3.1 b0 L0 h4 h5 (h6.trans he)
  ·cases hb:ρ g with
   | some L0 =>
    have:=s.le g L0 hb
    rw [hg] at this
    cases this
    exact h3.2 g L M o hb hM ho
   | none =>
    rcases(s.ro g L M D o hb hg hM ho).1 with h4 | ⟨b0,L0,h4,h5,h6⟩
    ·omega
    ·exact h3.1 b0 L0 h4 h5 h6
theorem Sim.laid{ρ:PM}{H:HP}{w:World}{o:Obj}(h:HRel ρ H w)(hd:Dom ρ H.n):Sim ρ H w ρ H (w.alloc o):=by
 have hk:∀ k,k<w.heap.size→(w.alloc o).heap[k]? = w.heap[k]?:=fun k hk=>by rw [heap_alloc,if_neg (by omega)]
 refine Sim0.same ?_ hd
 exact {
  le:=PM.le.refl ρ
  grow:=Rl _
  dom:=hd
  rel:=⟨fun b i c L hc hL=>(h.rel b i c L hc hL).of_heap (hk _ (h.rel b i c L hc hL).lt),h.inj,h.hy⟩
  knc:=fun _ _ _ h=>h
  fr:=fun k hk' _=>hk k hk'
  new:=fun b L h1 h2=>by rw [h1] at h2;cases h2
  size:=by simp
  os:=rfl
  tape:=rfl
  output:=rfl
  old:=fun b L h1 h2=>by rw [h1] at h2;cases h2 }
end Go.Sx
