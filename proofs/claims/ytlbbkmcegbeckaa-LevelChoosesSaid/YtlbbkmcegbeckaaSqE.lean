/-
  What is handed on alone reads behind the call as it read before. Conditions: none; nothing here speaks of one program.
-/
import Derived.Test.YtlbbkmcegbeckaaLeG
import Derived.Test.YtlbbkmcegbeckaaLdH
import Derived.Test.YtlbbkmcegbeckaaLdP
import Derived.Test.YtlbbkmcegbeckaaLdS
import Derived.Test.YtlbbkmcegbeckaaSyN
import Derived.ChangeFn
import Derived.WideFn
import Derived.ChangeSame
import Derived.RowKit3
import Derived.ChangeReads
import Derived.ChangeOld
import Derived.ReadAgain
set_option linter.all false
set_option maxRecDepth 100000
noncomputable section
namespace Go.Proofs.Ytlbbkmcegbeckaa
open Go.Sx Go.Proofs Go.RowKit Go.Lib
section
variable {W:World} {l:CD} {u:Value}
theorem akk(h:RS (memW W) sR l u):Calls Try.prog 23 #[u,.int .i64 40] W fun e w'=>e=.returned (.bool (aag l 40))∧Keep W w':=by
 refine(acd c23 at23 (ofL [l,vInt .i64 40]) (us:=[u,.int .i64 40]) ⟨h,⟨40,rfl,rfl,rfl⟩,trivial⟩ holds0).mono fun e w' hh=>?_
 obtain⟨u',rfl,hk,o,ho,hx,hres⟩:=hh
 rw [Mg.1 ho] at hres
 exact⟨by rw [al6 hres];rfl,hk⟩
theorem ay1(h:RS (memW W) sR l u)(h1:(l.len:Int)≤40)(h2:¬ aag l 40=true):Calls Try.prog 27 #[u] W fun e w'=>∃ (a:Option Addr) (n c:Nat),e=.returned (.slice a n c)∧Keep W w'∧RS (newM W w') sR (aiq l) (.slice a n c):=by
 refine(acd c27 at27 (ofL [l]) (us:=[u]) ⟨h,trivial⟩ ?_).mono fun e w' hh=>?_
 ·unfold S27
  simp only [aad,aac,aay,b_le,abk,abn,aao,aax,aav,w_l1,w_l0,aaw,us0,aae]
  exact⟨h1,h2,trivial⟩
 obtain⟨u',rfl,hk,o,ho,hx,hres⟩:=hh
 rw [Mg.1 ho] at hres
 have hr:=(bjq hres).mono bck
 obtain⟨a,n,c,rfl⟩:=abe hr
 exact⟨a,n,c,rfl,hk,hr⟩
theorem a1h{n:Int}(h:RS (memW W) sLev l u)(hn:RS (memW W) (.int .i64) (vInt .i64 n) (.int .i64 n))(hs:small l):Calls Try.prog 25 #[u,.int .i64 n] W fun e w'=>∃ (af:Option Addr) (nf cf:Nat) (ai:Option Addr) (ni ci:Nat),e=.returned (.tuple #[.agg #[.int .i64 (aop l n),.slice af nf cf,.slice ai ni ci,.bool (afx l n)],.int .i64 (at0 l n)])∧Keep W w'∧RS (memW w') (.int .i64) (vInt .i64 (aop l n)) (.int .i64 (aop l n))∧RS (memW w') sR (aew l n) (.slice af nf cf)∧RS (memW w') sR (aex l n) (.slice ai ni ci):=by
 refine(ax9 c25 at25 (ofL [l,vInt .i64 n]) (us:=[u,.int .i64 n]) ⟨h,hn,trivial⟩ ?_).mono fun e w' hh=>?_
 ·unfold S25
  simp only [aad,aac,aay,abk,aa6,aao,aax,aav,w_l1,w_l0,aaw,us12,aaf]
  exact⟨hs,⟨_,_,hn⟩,trivial⟩
 obtain⟨u',rfl,hk,o,ho,hx,hres⟩:=hh
 rw [Mg.1 ho] at hres
 obtain⟨us,hq,rfl⟩:=hres
 obtain⟨u1,u2,rfl,h1,h2⟩:=bil hq
 obtain⟨n',af,nf,cf,ai,ni,ci,b,rfl,e0,e3,g0,g1,g2⟩:=a97 h1
 obtain⟨z,e4,rfl,_⟩:=(show RS (memW w') (.int .i64) (vInt .i64 (at0 l n)) u2 from h2)
 cases (show vInt .i64 (aop l n)=vInt .i64 n' from e0)
 cases (show aan (afx l n)=aan b from e3)
 cases e4
 exact⟨af,nf,cf,ai,ni,ci,rfl,hk,g0,g1,g2⟩
theorem am1{n:Int}{F I N:CD}{vf vi vn:Value}{b:Bool}(h:RS (memW W) sLev l u)(hn:RS (memW W) (.int .i64) (vInt .i64 n) (.int .i64 n))(hF:RS (memW W) sR F vf)(hI:RS (memW W) sR I vi)(hN:RS (memW W) sR N vn)(hs:small l)(hl:(N.len:Int)≤40):Calls Try.prog 29 #[u,.agg #[.int .i64 n,vf,vi,.bool b],vn] W fun e w'=>∃ (a:Option Addr) (m c:Nat),e=.returned (.tuple #[.slice a m c,.int .i64 (ai0 l n F.rows I.rows N.rows)])∧Keep W w'∧RS (memW w') sLev (repT l n F.rows I.rows N.rows) (.slice a m c):=by
 refine(ax9 c29 at29 (ofL [l,vInt .i64 n,F,I,aan b,N]) (us:=[u,.agg #[.int .i64 n,vf,vi,.bool b],vn]) ⟨h,bik (c1:=vf) (c2:=vf) hn hF hI,hN,trivial⟩ ?_).mono fun e w' hh=>?_
 ·unfold S29
  simp only [aad,aac,aay,abk,b_le,abn,aao,aax,aav,w_l1,w_l0,aaw,us12,aaf,aae]
  exact⟨hs,hl,trivial⟩
 obtain⟨u',rfl,hk,o,ho,hx,hres⟩:=hh
 rw [Mg.1 ho] at hres
 obtain⟨s,h1,rfl⟩:=by5 hres
 obtain⟨a,m,c,rfl⟩:=abe h1
 exact⟨a,m,c,rfl,hk,h1⟩
end
theorem ato{w:World}{L Fd Id Nd:CD}{u:Value}{n:Int}{af ai an:Option Addr}{nf cf ni ci nn cn:Nat}{b:Bool}{fr into fresh:List (List CD)}(h:RS (memW w) sLev (ab2 L) u)(hs:small (ab2 L))(hT:Typ sLev L)(hFd:RS (memW w) sR Fd (.slice af nf cf))(hId:RS (memW w) sR Id (.slice ai ni ci))(hN:RS (memW w) sR Nd (.slice an nn cn))(lg:¬ aag Nd 40=true)(lF:(Fd.len:Int)≤40)(lI:(Id.len:Int)≤40)(lN:(Nd.len:Int)≤40)(hF:Alike Fd.rows fr)(hI:Alike Id.rows into)(hr:Nd.rows=fresh.map aa9)(hf:∀ r∈fresh,keyT r) :
  Calls Try.prog 28 #[u,.agg #[.int .i64 n,.slice af nf cf,.slice ai ni ci,.bool b],.slice an nn cn] w fun e w'=>∃ (a:Option Addr) (m c:Nat) (D:CD),e=.returned (.tuple #[.slice a m c,.int .i64 (ai0 L n fr into fresh)])∧Below w.heap.size w w'∧RS (newM w w') sLev D (.slice a m c)∧ahn D.rows (repT L n fr into fresh).rows=true∧(Value.slice a m c=nilV∨∃ d:Nat→CD,D=avg d∧aam (avg d)=true∧Apart w w' (d 0) (d 1) (d 2) (d 3) (.slice a m c)):=by
 by_cases hno:¬ aam L=true∨n<0∨2<n
 ·refine(bnu h hs (by rw [bsm];exact hno)).mono fun e w' hh=>?_
  obtain⟨rfl,hb⟩:=hh
  obtain⟨e1,e2⟩:=bjk (bt4 (fr:=fr) (into:=into) (fresh:=fresh) hno)
  exact⟨none,0,0,.sl true [],by rw [e2],hb,.inl ⟨rfl,rfl⟩,by rw [e1];rfl,.inl rfl⟩
 ·have ho:aam L=true:=Classical.byContradiction fun h=>hno (.inl h)
  have h0:¬ n<0:=fun h=>hno (.inr (.inl h))
  have h2:¬ 2<n:=fun h=>hno (.inr (.inr h))
  obtain⟨k,rfl⟩:∃ k:Nat,n=(k:Int):=⟨n.toNat,by omega⟩
  have hk:k<3:=by omega
  refine(bjl h hs (by rw [bsm];exact ho) hk hFd hId hN lg lF lI lN).mono fun e w' hh=>?_
  rcases hh with ⟨rfl,hb,hnm⟩ | ⟨v,rfl,hb,hm,d,hd,hok,hrs,hap⟩
  ·have hfalse:agl L (k:Int) fr into fresh=false:=by
    rcases hnm with hnm | ⟨d,hd,hok⟩
    ·exact bew ho hk hF hI hnm
    ·rw [bqg hT ho hk hF hI hr hd,hok,Bool.and_false]
   obtain⟨e1,e2⟩:=bjk hfalse
   exact⟨none,0,0,.sl true [],by rw [e2],hb,.inl ⟨rfl,rfl⟩,by rw [e1];rfl,.inl rfl⟩
  ·have htrue:agl L (k:Int) fr into fresh=true:=by rw [bqg hT ho hk hF hI hr hd,hm,hok];rfl
   obtain⟨a,m,c,rfl⟩:=abe hrs
   have e2:ai0 L (k:Int) fr into fresh=0:=if_pos htrue
   exact⟨a,m,c,avg d,by rw [e2],hb,hrs,bnv hT hk hF hI hr hf hd htrue,.inr ⟨d,rfl,hok,hap⟩⟩
set_option maxHeartbeats 1000000 in
theorem b1g{wf:World}{B:Nat}{x0 x1 x2 x3:Value}{tmps:Array Value}(h:wf.heap[B]? = some (.cells #[x0,x1,x2,x3] 45 (0,0)))(ht:tmps.getD 4 undef=.pointer (some ⟨B,0,none⟩)):(results Try.f24 tmps).run Try.prog wf=.ok (.tuple #[.agg #[x0,x1,x2,x3],tmps.getD 5 undef]) wf:=by
 obtain⟨q0,q1,q2,q3⟩:=acp h
 rw [results_cell_tmp (p:=4) (u:=5) (ty:=45) rfl,ht]
 simp [asAddr,Result.andThen,loadVar,go_sem,q0,q1,q2,q3]
theorem bpw{wr wr':World}{b:Nat}{o:Obj}(h:wr.heap[b]? = some o)(hb:Below wr.heap.size wr wr'):wr'.heap[b]? = some o:=(hb.block b (Ga.1 h).1).trans h
def CutC(w:World)(kx:Nat)(k:Int)(F I:CD)(db:Bool)(wx:World):Prop:=∃ (sa:Option Addr) (sn sc:Nat) (ta:Option Addr) (tn tc:Nat) (a b c d:Nat),Below w.heap.size w wx∧kx<wx.heap.size∧wx.heap[kx]? = some (.cells #[.int .i64 k,.slice sa sn sc,.slice ta tn tc,.bool db] 45 (0,0))∧kx<a∧a≤b∧b≤c∧RS (nm a b wx) sR F (.slice sa sn sc)∧RS (nm c d wx) sR I (.slice ta tn tc)∧w.heap.size<kx∧wx.heap[w.heap.size]? = some (.cells #[.int .i64 0,nilV,nilV,.bool false] 45 (0,0))
theorem bgc{w w4 w5 w6 w7:World}{k:Int}{F I:CD}{db:Bool}{af ai sa ta:Option Addr}{nf cf ni ci sn sc tn tc:Nat}(hb:Below w.heap.size w w4)(hr:w4.heap[w.heap.size]? = some (.cells #[.int .i64 0,nilV,nilV,.bool false] 45 (0,0)))(h5:KX w4.heap.size w4 w5)(hx:w5.heap[w4.heap.size]? = some (.cells #[.int .i64 k,.slice af nf cf,.slice ai ni ci,.bool db] 45 (0,0)))(h6:Below w5.heap.size w5 w6)(r6:RS (nm w5.heap.size w6.heap.size w6) sR F (.slice sa sn sc))(h7:Below w6.heap.size w6 w7)(r7:RS (nm w6.heap.size w7.heap.size w7) sR I (.slice ta tn tc)):CutC w w4.heap.size k F I db ((w7.setCell ⟨w4.heap.size,1,none⟩ (.slice sa sn sc)).setCell ⟨w4.heap.size,2,none⟩ (.slice ta tn tc)):=by
 have hlt:w4.heap.size<w5.heap.size:=(Ga.1 hx).1
 have hwlt:w.heap.size<w4.heap.size:=(Ga.1 hr).1
 have s6:=h6.size
 have s7:=h7.size
 have hx7:=(h7.block _ (Nat.lt_of_lt_of_le hlt s6)).trans ((h6.block _ hlt).trans hx)
 have h4:=hb.size
 have K7:=(h5.call h6).call h7
 have K9:KX w4.heap.size w7 ((w7.setCell ⟨w4.heap.size,1,none⟩ (.slice sa sn sc)).setCell ⟨w4.heap.size,2,none⟩ (.slice ta tn tc)):=((KX.refl w4.heap.size w7).set 1 (.slice sa sn sc)).set 2 (.slice ta tn tc)
 have K69:KX w4.heap.size w6 ((w7.setCell ⟨w4.heap.size,1,none⟩ (.slice sa sn sc)).setCell ⟨w4.heap.size,2,none⟩ (.slice ta tn tc)):=(((KX.refl w4.heap.size w6).call h7).set 1 (.slice sa sn sc)).set 2 (.slice ta tn tc)
 have hend:=heap_setCell_same _ _ 2 _ _ (.slice ta tn tc) (heap_setCell_same _ _ 1 _ _ (.slice sa sn sc) hx7)
 refine⟨sa,sn,sc,ta,tn,tc,w5.heap.size,w6.heap.size,w6.heap.size,w7.heap.size,?_,(Ga.1 hend).1,hend,hlt,s6,Rl _,K69.rs r6 hlt,K9.rs r7 (Nat.lt_of_lt_of_le hlt s6),hwlt,(K9.block _ (Nat.lt_of_lt_of_le hwlt K7.size) (Nat.ne_of_lt hwlt)).trans ((K7.block _ hwlt (Nat.ne_of_lt hwlt)).trans hr)⟩
 have hb7:Below w.heap.size w w7:=⟨K7.os.trans hb.os,K7.tape.trans hb.tape,K7.output.trans hb.output,Nat.le_trans h4 K7.size,fun i hi=>(K7.block i (Nat.lt_of_lt_of_le hi h4) (by omega)).trans (hb.block i hi)⟩
 exact(hb7.setCell (p:=⟨w4.heap.size,1,none⟩) h4 _).setCell (p:=⟨w4.heap.size,2,none⟩) h4 _
theorem CutC.drew{w wx:World}{kx:Nat}{k:Int}{F I:CD}{db:Bool}(h:CutC w kx k F I db wx):CutC w kx k F I db wx.drew:=by
 obtain⟨sa,sn,sc,ta,tn,tc,a,b,c,d,hb,h⟩:=h
 exact⟨sa,sn,sc,ta,tn,tc,a,b,c,d,hb.drew,h⟩
set_option maxHeartbeats 8000000 in
theorem bed{w:World}{L:CD}{u:Value}{n:Int}(h:RS (memW w) sLev L u)(hs:small L)(hc:chOK L n=true) :
    Calls Try.prog 24 #[u,.int .i64 n] w fun e w'=>∃ (af:Option Addr) (nf cf:Nat) (ai:Option Addr) (ni ci:Nat),e=.returned (.tuple #[.agg #[.int .i64 n,.slice af nf cf,.slice ai ni ci,.bool (at1 (ace L) n.toNat)],.int .i64 0])∧Below w.heap.size w w'∧∃ a b c d,w.heap.size≤a∧b≤c∧a≤b∧RS (nm a b w') sR (mkz (aek (ace L) n.toNat)) (.slice af nf cf)∧RS (nm c d w') sR (mkz (afz (ace L) n.toNat)) (.slice ai ni ci):=by
  obtain⟨hok,p0,p2,pne⟩:=akd hc
  obtain⟨k,rfl⟩:∃ k:Nat,n=(k:Int):=⟨n.toNat,by omega⟩
  have hk:k<3:=by omega
  have hT:Typ sLev L:=⟨_,_,h⟩
  obtain⟨W,hW⟩:∃ W,W=w.alloc (.cells #[.int .i64 0,nilV,nilV,.bool false] 45 (0,0)):=⟨_,rfl⟩
  have HB:=hidj (show Below w.heap.size w W by rw [hW];exact(Below.refl _ w).alloc (Rl _) _)
  have HX:=hidj (show W.heap[w.heap.size]? = some (.cells #[.int .i64 0,nilV,nilV,.bool false] 45 (0,0)) by rw [hW];exact aa4 w _)
  have HW:=hidj hW
  have HHW:=hidj (ac0 h HB.out)
  have HS:=hidj hs
  have HC:=hidj hc
  have HOK:=hidj hok
  have HT:=hidj hT
  have HNE:=hidj pne
  clear h hs hW hc hok hT pne
  go_enter Try.func24,Try.ntmps24
  go_wp2_with fail
  rw [← HW.out]
  refine(agp HHW.out HS.out HOK.out).mono ?_
  rintro e w2 ⟨x0,x1,x2,x3,rfl,hp⟩
  have HX2:=hidj ((hp.below.block _ (Ga.1 HX.out).1).trans HX.out)
  have HB2:=hidj (HB.out.trans (hp.below.mono HB.out.size))
  obtain⟨a0,n0,c0,a1,n1,c1,a2,n2,c2,a3,n3,c3,rfl,rfl,rfl,rfl,h4⟩:=brt hp
  have H4:=hidj h4
  clear hp h4
  obtain⟨W3,hW3⟩:∃ W3,W3=w2.alloc (.cells #[.slice a0 n0 c0,.slice a1 n1 c1,.slice a2 n2 c2,.slice a3 n3 c3] 78 (0,0)):=⟨_,rfl⟩
  have hb23:Below w2.heap.size w2 W3:=by rw [hW3];exact(Below.refl _ w2).alloc (Rl _) _
  have HX3:=hidj ((hb23.block _ (Ga.1 HX2.out).1).trans HX2.out)
  have HA3:=hidj (show W3.heap[w2.heap.size]? = some (.cells #[.slice a0 n0 c0,.slice a1 n1 c1,.slice a2 n2 c2,.slice a3 n3 c3] 78 (0,0)) by rw [hW3];exact aa4 w2 _)
  have HB3:=hidj (HB2.out.trans (hb23.mono HB2.out.size))
  have HB23:=hidj hb23
  have HW3:=hidj hW3
  clear hb23 hW3
  obtain⟨ak,nk,ck,ek,hn⟩:=H4.out.at (k:=k) (by omega)
  have hn0:0<nk:=by
    have h1:=HNE.out
    rw [Int.toNat_natCast] at h1
    rw [hn]
    cases h2:(ace L).getD k [] with
    | nil=>rw [h2] at h1;cases h1
    | cons a r=>exact Nat.succ_pos _
  have yk:=a9k HA3.out ek
  rw [HW3.out] at yk
  clear hn ek
  obtain⟨n',rfl⟩:∃ n',nk=n'+1:=⟨nk - 1,by omega⟩
  have hnz:((n':Int)+1==0)=false:=by rw [beq_eq_false_iff_ne];omega
  have k0:(0:Int)≤(k:Int):=Int.natCast_nonneg _
  have k2:(k:Int)<4:=by omega
  have k5:¬ (2:Int)<(k:Int):=by omega
  have k6:¬ (k:Int)<0:=by omega
  obtain⟨z0,z1,z2,z3⟩:=acp HA3.out
  rw [HW3.out] at z0 z1 z2 z3
  have hd1:decide ((k:Int)<0)=false:=decide_eq_false k6
  have hd2:decide (2<(k:Int))=false:=decide_eq_false k5
  go_wp2_with fail
  rw [← HW3.out]
  refine(blp (n:=(k:Int)) (ac0 H4.out.r0 HB23.out) (ac0 H4.out.r1 HB23.out) (ac0 H4.out.r2 HB23.out) (ac0 H4.out.r3 HB23.out) HS.out HT.out k0 p2 HNE.out).mono ?_
  rintro e w4 ⟨af,nf,cf,ai,ni,ci,rfl,hk4,hf4,hi4⟩
  have HB34:=hidj (aaz hk4)
  have HF4:=hidj hf4
  have HI4:=hidj hi4
  clear hk4 hf4 hi4 z0 z1 z2 z3 yk
  obtain⟨db,hdb⟩:∃ b,at1 (ace L) (k:Int).toNat=b:=⟨_,rfl⟩
  rw [hdb]
  obtain⟨W5,hW5⟩:∃ W5,W5=w4.alloc (.cells #[.int .i64 (k:Int),.slice af nf cf,.slice ai ni ci,.bool db] 45 (0,0)):=⟨_,rfl⟩
  have hb45:Below w4.heap.size w4 W5:=by rw [hW5];exact(Below.refl _ w4).alloc (Rl _) _
  have HX5:=hidj (show W5.heap[w4.heap.size]? = some (.cells #[.int .i64 (k:Int),.slice af nf cf,.slice ai ni ci,.bool db] 45 (0,0)) by rw [hW5];exact aa4 w4 _)
  have HK5:=hidj (((KX.refl w4.heap.size w4).call hb45).drew)
  have HDB:=hidj hdb
  have HFS:=hidj (azq HS.out HT.out HOK.out hk (by have h:=HNE.out;rwa [Int.toNat_natCast] at h))
  have HIS:=hidj (azt HS.out HT.out HOK.out hk)
  have hc1:Calls Try.prog 63 #[.slice af nf cf] W5.drew fun e w'=>∃ (a:Option Addr) (n c:Nat),e=.returned (.slice a n c)∧Below W5.drew.heap.size W5.drew w'∧RS (nm W5.drew.heap.size w'.heap.size w') sR (mkz (aek (ace L) k)) (.slice a n c):=bxv HF4.out HK5.out HFS.out.1 HFS.out.2
  have hc2:∀ W,KX w4.heap.size w4 W→Calls Try.prog 63 #[.slice ai ni ci] W fun e w'=>∃ (a:Option Addr) (n c:Nat),e=.returned (.slice a n c)∧Below W.heap.size W w'∧RS (nm W.heap.size w'.heap.size w') sR (mkz (afz (ace L) k)) (.slice a n c):=fun W hW=>bxv HI4.out hW HIS.out.1 HIS.out.2
  have HC1:=hidj hc1
  have HC2:=hidj hc2
  clear hc1 hc2
  obtain⟨z0,z1,z2,z3⟩:=acp HX5.out
  have f1:=ac1 (j:=1) HX5.out
  have f2:=ac1 (j:=2) HX5.out
  rw [hW5] at z0 z1 z2 z3 f1 f2
  have HB45:=hidj hb45
  have HW5:=hidj hW5
  clear hb45 hW5 hdb
  go_wp2_with fail
  rw [← HW5.out] at z0 z1 z2 z3 f1 f2 ⊢
  have HB4:=hidj (show Below w.heap.size w w4 from HB3.out.trans (HB34.out.mono HB3.out.size))
  have HR4:=hidj (bpw (bpw HX3.out HB34.out) (Below.refl _ _))
  go_cut [] from 35 to 43 (fun wx=>Hid (CutC w w4.heap.size (k:Int) (mkz (aek (ace L) k)) (mkz (afz (ace L) k)) db wx))
  case first =>
    go_region_with (first
      | (go_at_call 63
         with_reducible refine Calls.mono HC1.out ?_
         rintro e w6 ⟨sa,sn,sc,rfl,hb6,hr6⟩
         have H6:=hidj (And.intro hb6 hr6)
         have HX6:=hidj ((hb6.block _ (Ga.1 HX5.out).1).trans HX5.out)
         have HK6:=hidj (HK5.out.call hb6)
         clear hb6 hr6
         obtain⟨y0,y1,y2,y3⟩:=acp HX6.out)
      | (go_at_call 63
         with_reducible refine Calls.mono (HC2.out _ HK6.out) ?_
         rintro e w7 ⟨ta,tn,tc,rfl,hb7,hr7⟩
         have H7:=hidj (And.intro hb7 hr7)
         have HX7:=hidj ((hb7.block _ (Ga.1 HX6.out).1).trans HX6.out)
         clear hb7 hr7
         obtain⟨x0,x1,x2,x3⟩:=acp HX7.out
         have g1:=ac1 (j:=1) HX7.out
         have g2:=ac1 (j:=2) HX7.out))
    all_goals
      go_wp2_with fail
      go_meet
      case rel=>first | exact hidj (bgc HB4.out HR4.out HK5.out HX5.out H6.out.1 H6.out.2 H7.out.1 H7.out.2) | exact hidj (bgc HB4.out HR4.out HK5.out HX5.out H6.out.1 H6.out.2 H7.out.1 H7.out.2).drew
  case rest =>
    obtain⟨w8,hw8⟩:∃ x:World,x=wc:=⟨_,rfl⟩
    subst hw8
    have HC:=hidj hcut.out
    clear hcut
    obtain⟨sa,sn,sc,ta,tn,tc,a,b,c,d,hb,hlt,hx,ha,hab,hbc,r1,r2,hwl,hr⟩:=HC.out
    have HQ:=hidj (And.intro hb (And.intro ha (And.intro hab (And.intro hbc (And.intro r1 (And.intro r2 (And.intro hwl hr)))))))
    obtain⟨z0,z1,z2,z3⟩:=acp hx
    obtain⟨x0,x1,x2,x3⟩:=acp hr
    have f0:=ac1 (j:=0) hr
    have f1:=ac1 (j:=1) hr
    have f2:=ac1 (j:=2) hr
    have f3:=ac1 (j:=3) hr
    clear hb hlt hx ha hab hbc r1 r2 hwl hr HC
    go_wp2_with fail
    refine bodyPost_ret (b1g (set4 HQ.out.2.2.2.2.2.2.2) rfl) rfl ?_
    have K:=(((((KX.refl w.heap.size w8).set 0 (.int .i64 (k:Int))).set 1 (.slice sa sn sc)).set 2 (.slice ta tn tc)).set 3 (.bool db))
    exact⟨sa,sn,sc,ta,tn,tc,by rw [HDB.out];rfl,apv HQ.out.1,a,b,c,d,Nat.le_of_lt (Nat.lt_trans HQ.out.2.2.2.2.2.2.1 HQ.out.2.1),HQ.out.2.2.2.1,HQ.out.2.2.1,K.rs HQ.out.2.2.2.2.1 (Nat.lt_trans HQ.out.2.2.2.2.2.2.1 HQ.out.2.1),K.rs HQ.out.2.2.2.2.2.1 (Nat.lt_trans HQ.out.2.2.2.2.2.2.1 (Nat.lt_of_lt_of_le HQ.out.2.1 (Nat.le_trans HQ.out.2.2.1 HQ.out.2.2.2.1)))⟩
theorem bpi{l:CD}{n:Int}(h:chOK l n=true):aop l n=n∧at0 l n=0∧afx l n=at1 (ace l) n.toNat∧aew l n=.sl false (aek (ace l) n.toNat)∧aex l n=mkz (afz (ace l) n.toNat) :=
 ⟨if_pos h,if_pos h,by unfold afx;rw [h];rfl,if_pos h,if_pos h⟩
theorem bvo{l:CD}{n:Int}(h:chOK l n=false):aop l n=0∧at0 l n=2∧afx l n=false∧aew l n=.sl true []∧aex l n=.sl true []:=by
 have h':¬ chOK l n=true:=by rw [h];exact Bool.false_ne_true
 exact⟨if_neg h',if_neg h',by unfold afx;rw [h];rfl,if_neg h',if_neg h'⟩
theorem a9l{w:World}{L:CD}{u:Value}{n:Int}(h:RS (memW w) sLev (ab2 L) u)(hs:small (ab2 L)) :
  Calls Try.prog 24 #[u,.int .i64 n] w fun e w'=>∃ (af:Option Addr) (nf cf:Nat) (ai:Option Addr) (ni ci:Nat) (F I:CD) (a b c d:Nat),e=.returned (.tuple #[.agg #[.int .i64 (aop L n),.slice af nf cf,.slice ai ni ci,.bool (afx L n)],.int .i64 (at0 L n)])∧Below w.heap.size w w'∧w.heap.size≤a∧w.heap.size≤c∧b≤c∧RS (nm a b w') sR F (.slice af nf cf)∧RS (nm c d w') sR I (.slice ai ni ci)∧F.rows=(aew (ab2 L) n).rows∧I.rows=(aex (ab2 L) n).rows∧(F.len:Int)≤40∧(I.len:Int)≤40:=by
 cases hc:chOK (ab2 L) n with
 | false =>
  have hc':chOK L n=false:=by rw [← au8];exact hc
  obtain⟨e1,e2,e3,_,_⟩:=bvo hc'
  obtain⟨_,_,_,e4,e5⟩:=bvo hc
  refine(bf7 h hs hc).mono fun e w' hh=>?_
  obtain⟨rfl,hb⟩:=hh
  exact⟨none,0,0,none,0,0,.sl true [],.sl true [],w.heap.size,0,w.heap.size,0,by rw [e1,e2,e3],hb,Rl _,Rl _,Nat.zero_le _,.inl ⟨rfl,rfl⟩,.inl ⟨rfl,rfl⟩,by rw [e4],by rw [e5],by decide,by decide⟩
 | true =>
  have hc':chOK L n=true:=by rw [← au8];exact hc
  obtain⟨e1,e2,e3,_,_⟩:=bpi hc'
  obtain⟨_,_,e6,e4,e5⟩:=bpi hc
  obtain⟨hok,p0,p2,pne⟩:=akd hc
  have hT:Typ sLev (ab2 L):=⟨_,_,h⟩
  have hfs:=azq (k:=n.toNat) hs hT hok (by omega) pne
  have his:=azt (k:=n.toNat) hs hT hok (by omega)
  refine(bed h hs hc).mono fun e w' hh=>?_
  obtain⟨af,nf,cf,ai,ni,ci,rfl,hb,a,b,c,d,h1,h2,h3,r1,r2⟩:=hh
  refine⟨af,nf,cf,ai,ni,ci,_,_,a,b,c,d,by rw [e1,e2,← bf6,e6],hb,h1,Nat.le_trans h1 (Nat.le_trans h3 h2),h2,r1,r2,by rw [e4];rfl,by rw [e5],hfs.1,his.1⟩
theorem af6{wr wr':World}{b:Nat}{o:Obj}(h:wr.heap[b]? = some o)(hb:Below wr.heap.size wr wr'):wr'.heap[b]? = some o:=(hb.block b (Ga.1 h).1).trans h
structure Mid (w6 w7 w12 wr:World):Prop where
 below:Below w6.heap.size w6 wr
 mid:∀ i,w7.heap.size≤i→i<w12.heap.size→wr.heap[i]? = w12.heap[i]?
theorem Mid.call{w6 w7 w12 wr wr':World}(h:Mid w6 w7 w12 wr)(hs:w12.heap.size≤wr.heap.size)(hb:Below wr.heap.size wr wr'):Mid w6 w7 w12 wr' :=
 ⟨h.below.trans (hb.mono h.below.size),fun i h1 h2=>(hb.block i (Nat.lt_of_lt_of_le h2 hs)).trans (h.mid i h1 h2)⟩
theorem Mid.ov{w6 w7 w12 wr wr':World}{P:Nat→Prop}(h:Mid w6 w7 w12 wr)(ho:OvP P wr wr')(hP:∀ k,P k→w6.heap.size≤k∧(k<w7.heap.size∨w12.heap.size≤k)):Mid w6 w7 w12 wr' :=
 ⟨h.below.trans ⟨ho.os,ho.tape,ho.output,by rw [ho.size];exact Rl _,fun i hi=>ho.other i fun hh=>by have:=(hP i hh).1;omega⟩,fun i h1 h2=>(ho.other i fun hh=>by have:=(hP i hh).2;omega).trans (h.mid i h1 h2)⟩
structure LoopJ (w6 w7 w12 wr:World) (kx k:Nat) (A:Nat→Nat→Prop) (x0 x1 x2 x3:Value) (arr:Array Value):Prop where
 mid:Mid w6 w7 w12 wr
 top:wr.heap[kx]? = some (.cells (#[x0,x1,x2,x3]++arr) 36 (0,0))
 runs:∀ j x,k≤j→[x0,x1,x2,x3][j]? = some x→a9a (A j) wr x
theorem bep{w6 w7 w12 wr w':World}{kx k:Nat}{A:Nat→Nat→Prop}{x0 x1 x2 x3:Value}{arr:Array Value}(h:LoopJ w6 w7 w12 wr kx k A x0 x1 x2 x3 arr)(hs:w6.heap.size≤w12.heap.size)(hA:∀ j k,A j k→w12.heap.size≤k∧k≠kx)(hD:∀ i j k,A i k→A j k→i=j)(ho:OvP (A k) wr w'):LoopJ w6 w7 w12 w' kx (k+1) A x0 x1 x2 x3 arr:=by
 refine⟨h.mid.ov ho fun i hi=>⟨Nat.le_trans hs (hA k i hi).1,.inr (hA k i hi).1⟩,(ho.other kx fun hh=>(hA k kx hh).2 rfl).trans h.top,fun j x hj hx=>?_⟩
 exact a0t (h.runs j x (by omega) hx) fun i hi=>ho.other i fun hh=>by
  have:=hD k j i hh hi
  omega
theorem a9v{w6 w7 w12 w13 wr:World}{d:Nat→CD}{kx:Nat}{A:Nat→Nat→Prop}{x0 x1 x2 x3:Value}{arr:Array Value}{m:Mem}{v:Value}(hm:Mid w6 w7 w12 wr)(hk:∀ i,w12.heap.size≤i→i<w13.heap.size→wr.heap[i]? = w13.heap[i]?)(hr:RS m sLev (avg d) v)(ho:aam (avg d)=true)(hkx:w12.heap.size≤kx)(htop:w13.heap[kx]? = some (.cells (#[x0,x1,x2,x3]++arr) 36 (0,0)))(hA:∀ j k,A j k→w12.heap.size≤k∧k≠kx)
  (q0:RS (fun k o=>A 0 k∧w13.heap[k]? = some o∧Nice o) sR (d 0) x0) (q1:RS (fun k o=>A 1 k∧w13.heap[k]? = some o∧Nice o) sR (d 1) x1) (q2:RS (fun k o=>A 2 k∧w13.heap[k]? = some o∧Nice o) sR (d 2) x2) (q3:RS (fun k o=>A 3 k∧w13.heap[k]? = some o∧Nice o) sR (d 3) x3):LoopJ w6 w7 w12 wr kx 0 A x0 x1 x2 x3 arr:=by
 have hT:Typ sLev (avg d):=⟨_,_,hr⟩
 refine⟨hm,(hk kx hkx (Ga.1 htop).1).trans htop,fun j x _ hx=>?_⟩
 have tr:∀ (j:Nat) (x:Value),RS (fun k o=>A j k∧w13.heap[k]? = some o∧Nice o) sR (d j) x→(∀ r∈(d j).rows,keyed r)→a9a (A j) wr x:=fun j x hr hkk=>bj4 (hr.mono fun k o ⟨a,b,c⟩=>⟨a,(hk k (hA j k a).1 (Ga.1 b).1).trans b,c⟩) hkk
 match j,hx with
 | 0,hx=>cases hx;exact tr 0 _ q0 (aiu hT ho 0)
 | 1,hx=>cases hx;exact tr 1 _ q1 (aiu hT ho 1)
 | 2,hx=>cases hx;exact tr 2 _ q2 (aiu hT ho 2)
 | 3,hx=>cases hx;exact tr 3 _ q3 (aiu hT ho 3)
theorem bj3{a b:Nat}{w7 wr:World}{d:CD}{u:Value}(h:RS (nm a b w7) sR d u)(hb:Below w7.heap.size w7 wr)(hk:∀ r∈d.rows,keyed r):a9a (fun k=>a≤k∧k<b∧k<w7.heap.size) wr u :=
 bj4 (h.mono fun k o ⟨h1,h2,h3,h4⟩=>⟨⟨h1,h2,(Ga.1 h3).1⟩,(hb.block k (Ga.1 h3).1).trans h3,h4⟩) hk
theorem am8{lo hi:Nat}{w wr:World}{s:Srt}{d:CD}{u:Value}(h:RS (nm lo hi w) s d u)(hb:Below w.heap.size w wr):RS (memW wr) s d u:=aat (awd h) hb
theorem ana{d:CD}(h:aag d 40=false):(d.len:Int)≤40∧¬ aag d 40=true:=by
 refine⟨?_,by rw [h];exact Bool.false_ne_true⟩
 unfold aag at h
 rw [Bool.or_eq_false_iff,decide_eq_false_iff_not] at h
 omega
theorem bls(d:CD):(aiq d).len=d.len:=by
 unfold CD.len
 rw [avf,List.length_map]
set_option maxHeartbeats 8000000 in
theorem a1i{w:World}{L Fp Ip Fr:CD}{u:Value}{n m:Int}{ap aq ar:Option Addr}{np cp nq cq nr cr:Nat}{bp:Bool}(h:RS (memW w) sLev L u)(hn:RS (memW w) (.int .i64) (vInt .i64 n) (.int .i64 n))(hm:RS (memW w) (.int .i64) (vInt .i64 m) (.int .i64 m))(hFp:RS (memW w) sR Fp (.slice ap np cp))(hIp:RS (memW w) sR Ip (.slice aq nq cq))(hFr:RS (memW w) sR Fr (.slice ar nr cr)) :
  Calls Try.prog 4 #[u,.int .i64 n,.agg #[.int .i64 m,.slice ap np cp,.slice aq nq cq,.bool bp],.slice ar nr cr] w fun e w'=>e=.returned (.bool true)∧Below w.heap.size w w':=by
 have HH:=hidj h
 have HNM:=hidj (And.intro hn hm)
 have HP:=hidj (And.intro hFp (And.intro hIp hFr))
 have HTy:=hidj (show Typ sLev L from⟨_,_,h⟩)
 have HTF:=hidj (show Typ sR Fr from⟨_,_,hFr⟩)
 obtain⟨w1,hw1⟩:∃ w1,w1=w.alloc (.cells #[.int .i64 m,.slice ap np cp,.slice aq nq cq,.bool bp] 45 (0,0)):=⟨_,rfl⟩
 have HB1:=hidj (show Below w.heap.size w w1 by rw [hw1];exact(Below.refl _ w).alloc (Rl _) _)
 have HX1:=hidj (show w1.heap[w.heap.size]? = some (.cells #[.int .i64 m,.slice ap np cp,.slice aq nq cq,.bool bp] 45 (0,0)) by rw [hw1];exact aa4 w _)
 have HW:=hidj hw1
 clear h hn hm hFp hIp hFr hw1
 go_enter Try.func4,Try.ntmps4
 go_wp2_with fail
 rw [← HW.out]
 refine(a9t (aat HH.out HB1.out)).mono ?_
 rintro e w2 ⟨rfl,hk2⟩
 have HB2:=hidj (aa3 HB1.out (aaz hk2))
 have HX2:=hidj (af6 HX1.out (aaz hk2))
 clear hk2 HW HB1 HX1
 obtain⟨z0,z1,z2,z3⟩:=acp HX2.out
 by_cases hbig:aa5 L 40=true
 ·rw [hbig]
  go_wp2_with fail
  go_returns
  exact⟨rfl,HB2.out⟩
 have HS:=hidj hbig
 rw [show aa5 L 40=false from Bool.eq_false_iff.2 hbig]
 clear hbig
 go_wp2_with fail
 refine(akk (aat HP.out.1 HB2.out)).mono ?_
 rintro e w3 ⟨rfl,hk3⟩
 have HB3:=hidj (aa3 HB2.out (aaz hk3))
 have HX3:=hidj (af6 HX2.out (aaz hk3))
 clear hk3 HB2 HX2 z0 z1 z2 z3
 obtain⟨z0,z1,z2,z3⟩:=acp HX3.out
 cases hF:aag Fp 40 with
 | true =>
  go_wp2_with fail
  go_returns
  exact⟨rfl,HB3.out⟩
 | false =>
 have HLF:=hidj (ana hF)
 clear hF
 go_wp2_with fail
 refine(akk (aat HP.out.2.1 HB3.out)).mono ?_
 rintro e w4 ⟨rfl,hk4⟩
 have HB4:=hidj (aa3 HB3.out (aaz hk4))
 have HX4:=hidj (af6 HX3.out (aaz hk4))
 clear hk4 HB3 HX3 z0 z1 z2 z3
 obtain⟨z0,z1,z2,z3⟩:=acp HX4.out
 cases hI:aag Ip 40 with
 | true =>
  go_wp2_with fail
  go_returns
  exact⟨rfl,HB4.out⟩
 | false =>
 have HLI:=hidj (ana hI)
 clear hI
 go_wp2_with fail
 refine(akk (aat HP.out.2.2 HB4.out)).mono ?_
 rintro e w5 ⟨rfl,hk5⟩
 have HB5:=hidj (aa3 HB4.out (aaz hk5))
 have HX5:=hidj (af6 HX4.out (aaz hk5))
 clear hk5 HB4 HX4 z0 z1 z2 z3
 cases hN:aag Fr 40 with
 | true =>
  go_wp2_with fail
  go_returns
  exact⟨rfl,HB5.out⟩
 | false =>
 have HLN:=hidj (ana hN)
 clear hN
 go_wp2_with fail
 refine(bee (aat HH.out HB5.out) HS.out (bzi HS.out)).mono ?_
 rintro e w6 ⟨si,rfl,hk6,hr6⟩
 have HB6:=hidj (aa3 HB5.out (aaz hk6))
 have HX6:=hidj (af6 HX5.out (aaz hk6))
 have HI6:=hidj (awd hr6)
 clear hk6 hr6 HB5 HX5
 go_wp2_with fail
 refine(a9l HI6.out (a4d HS.out)).mono ?_
 obtain⟨lv,hlv⟩:∃ z,aop L n=z:=⟨_,rfl⟩
 obtain⟨dr,hdr⟩:∃ z,afx L n=z:=⟨_,rfl⟩
 obtain⟨er,her⟩:∃ z,at0 L n=z:=⟨_,rfl⟩
 rintro e w7 ⟨af,nf,cf,ai,ni,ci,F,I,a,b,c,d,rfl,hb7,ha,hc,hbc,rF,rI,eF,eI,lF,lI⟩
 rw [hlv,hdr,her]
 have HCH:=hidj (And.intro hlv (And.intro hdr her))
 have HFI:=hidj (And.intro rF (And.intro rI (And.intro eF (And.intro eI (And.intro lF lI)))))
 have HAB:=hidj (And.intro ha (And.intro hc hbc))
 have H67:=hidj hb7
 clear hlv hdr her hb7 ha hc hbc rF rI eF eI lF lI
 obtain⟨w8,hw8⟩:∃ w8,w8=w7.alloc (.cells #[.int .i64 lv,.slice af nf cf,.slice ai ni ci,.bool dr] 45 (0,0)):=⟨_,rfl⟩
 have H78:=hidj (show Below w7.heap.size w7 w8 by rw [hw8];exact(Below.refl _ w7).alloc (Rl _) _)
 have HQ8:=hidj (show w8.heap[w7.heap.size]? = some (.cells #[.int .i64 lv,.slice af nf cf,.slice ai ni ci,.bool dr] 45 (0,0)) by rw [hw8];exact aa4 w7 _)
 have HX8:=hidj (af6 (af6 HX6.out H67.out) H78.out)
 have HB8:=hidj (aa3 HB6.out (aa3 H67.out H78.out))
 have HW8:=hidj hw8
 clear hw8
 go_wp2_with fail
 rw [← HW8.out]
 refine(a1h (aat HH.out HB8.out) (aat HNM.out.1 HB8.out) HS.out).mono ?_
 rintro e w9 ⟨ag,ng,cg,aj,nj,cj,rfl,hk9,r0,rG,rJ⟩
 rw [HCH.out.1,HCH.out.2.1,HCH.out.2.2]
 rw [HCH.out.1] at r0
 have H89:=hidj (aaz hk9)
 have HGJ9:=hidj (And.intro r0 (And.intro rG rJ))
 clear hk9 r0 rG rJ
 obtain⟨w10,hw10⟩:∃ w10,w10=w9.alloc (.cells #[.int .i64 lv,.slice ag ng cg,.slice aj nj cj,.bool dr] 45 (0,0)):=⟨_,rfl⟩
 have H910:=hidj (show Below w9.heap.size w9 w10 by rw [hw10];exact(Below.refl _ w9).alloc (Rl _) _)
 have HY10:=hidj (show w10.heap[w9.heap.size]? = some (.cells #[.int .i64 lv,.slice ag ng cg,.slice aj nj cj,.bool dr] 45 (0,0)) by rw [hw10];exact aa4 w9 _)
 have H810:=hidj (aa3 H89.out H910.out)
 have HX10:=hidj (af6 HX8.out H810.out)
 have HQ10:=hidj (af6 HQ8.out H810.out)
 have HB10:=hidj (aa3 HB8.out H810.out)
 have H710:=hidj (aa3 H78.out H810.out)
 obtain⟨z0,z1,z2,z3⟩:=acp HQ10.out
 obtain⟨y0,y1,y2,y3⟩:=acp HY10.out
 rw [hw10] at z0 z1 z2 z3 y0 y1 y2 y3
 have HW10:=hidj hw10
 clear hw10
 go_wp2_with fail
 rw [← HW10.out]
 refine(bj7 (am8 HFI.out.1 H710.out) (am8 HFI.out.2.1 H710.out) (aat HGJ9.out.2.1 H910.out) (aat HGJ9.out.2.2 H910.out) rfl rfl (by rw [HFI.out.2.2.1];exact bj5 HTy.out n) (by rw [HFI.out.2.2.2.1];exact bj6 HTy.out n)).mono ?_
 rintro e w11 ⟨rfl,hb11⟩
 have H1011:=hidj hb11
 clear hb11 z0 z1 z2 z3 y0 y1 y2 y3
 have HX11:=hidj (af6 HX10.out H1011.out)
 have HQ11:=hidj (af6 HQ10.out H1011.out)
 have HY11:=hidj (af6 HY10.out H1011.out)
 have HB11:=hidj (aa3 HB10.out H1011.out)
 have H711:=hidj (aa3 H710.out H1011.out)
 go_wp2_with fail
 refine(ay1 (aat HP.out.2.2 HB11.out) HLN.out.1 HLN.out.2).mono ?_
 rintro e w12 ⟨ao,no,co,rfl,hk12,ro⟩
 have H1112:=hidj (aaz hk12)
 have HO12:=hidj ro
 clear hk12 ro
 have HX12:=hidj (af6 HX11.out H1112.out)
 have HQ12:=hidj (af6 HQ11.out H1112.out)
 have HY12:=hidj (af6 HY11.out H1112.out)
 have HB12:=hidj (aa3 HB11.out H1112.out)
 have H712:=hidj (aa3 H711.out H1112.out)
 obtain⟨z0,z1,z2,z3⟩:=acp HQ12.out
 obtain⟨z4,hz4⟩:∃ z,ai0 L lv (aew L n).rows (aex L n).rows Fr.rows=z:=⟨_,rfl⟩
 obtain⟨z5,hz5⟩:∃ z,ai0 L m Fp.rows Ip.rows Fr.rows=z:=⟨_,rfl⟩
 have HZ:=hidj (And.intro hz4 hz5)
 clear hz4 hz5
 have HCO:=hidj (show(((aiq Fr).len:Int)≤40)∧¬ aag (aiq Fr) 40=true from⟨by rw [bls];exact HLN.out.1,by rw [asx];exact HLN.out.2⟩)
 go_wp2_with fail
 refine(ato (fr:=(aew L n).rows) (into:=(aex L n).rows) (fresh:=Fr.rows) (aat HI6.out (aa3 H67.out H712.out)) (a4d HS.out) HTy.out (am8 HFI.out.1 H712.out) (am8 HFI.out.2.1 H712.out) (awd HO12.out) HCO.out.2 HFI.out.2.2.2.2.1 HFI.out.2.2.2.2.2 HCO.out.1 (by rw [HFI.out.2.2.1,a5h];exact Alike.cp _) (by rw [HFI.out.2.2.2.1,a5i];exact Alike.cp _) rfl (a1w HTF.out)).mono ?_
 rintro e w13 ⟨aA,nA,cA,D1,rfl,hb13,rD1,sD1,hA⟩
 rw [HZ.out.1]
 have H1213:=hidj hb13
 have HD13:=hidj (And.intro rD1 (And.intro sD1 hA))
 clear hb13 rD1 sD1 hA z0 z1 z2 z3
 have HX13:=hidj (af6 HX12.out H1213.out)
 have HQ13:=hidj (af6 HQ12.out H1213.out)
 have HY13:=hidj (af6 HY12.out H1213.out)
 have HB13:=hidj (aa3 HB12.out H1213.out)
 obtain⟨y0,y1,y2,y3⟩:=acp HY13.out
 go_wp2_with fail
 refine(am1 (aat HH.out HB13.out) (aat HGJ9.out.1 (aa3 H910.out (aa3 H1011.out (aa3 H1112.out H1213.out)))) (aat HGJ9.out.2.1 (aa3 H910.out (aa3 H1011.out (aa3 H1112.out H1213.out)))) (aat HGJ9.out.2.2 (aa3 H910.out (aa3 H1011.out (aa3 H1112.out H1213.out)))) (aat HP.out.2.2 HB13.out) HS.out HLN.out.1).mono ?_
 rintro e w14 ⟨aB,nB,cB,rfl,hk14,rB⟩
 rw [HZ.out.1]
 have H1314:=hidj (aaz hk14)
 have HRB:=hidj rB
 clear hk14 rB y0 y1 y2 y3
 have HX14:=hidj (af6 HX13.out H1314.out)
 have HQ14:=hidj (af6 HQ13.out H1314.out)
 have HB14:=hidj (aa3 HB13.out H1314.out)
 have H1214:=hidj (aa3 H1213.out H1314.out)
 obtain⟨z0,z1,z2,z3⟩:=acp HX14.out
 go_wp2_with fail
 refine(ato (fr:=Fp.rows) (into:=Ip.rows) (fresh:=Fr.rows) (aat HI6.out (aa3 H67.out (aa3 H712.out H1214.out))) (a4d HS.out) HTy.out (aat HP.out.1 HB14.out) (aat HP.out.2.1 HB14.out) (am8 HO12.out H1214.out) HCO.out.2 HLF.out.1 HLI.out.1 HCO.out.1 (Alike.refl _) (Alike.refl _) rfl (a1w HTF.out)).mono ?_
 rintro e w15 ⟨aC,nC,cC,D2,rfl,hb15,rD2,sD2,_⟩
 rw [HZ.out.2]
 have H1415:=hidj hb15
 have HD15:=hidj (And.intro rD2 sD2)
 clear hb15 rD2 sD2 z0 z1 z2 z3
 have HX15:=hidj (af6 HX14.out H1415.out)
 have HQ15:=hidj (af6 HQ14.out H1415.out)
 have HB15:=hidj (aa3 HB14.out H1415.out)
 have H1315:=hidj (aa3 H1314.out H1415.out)
 obtain⟨z0,z1,z2,z3⟩:=acp HX15.out
 go_wp2_with fail
 refine(am1 (aat HH.out HB15.out) (aat HNM.out.2 HB15.out) (aat HP.out.1 HB15.out) (aat HP.out.2.1 HB15.out) (aat HP.out.2.2 HB15.out) HS.out HLN.out.1).mono ?_
 rintro e w16 ⟨aE,nE,cE,rfl,hk16,rE⟩
 rw [HZ.out.2]
 have H1516:=hidj (aaz hk16)
 have HRE:=hidj rE
 clear hk16 rE z0 z1 z2 z3
 have HQ16:=hidj (af6 HQ15.out H1516.out)
 have H1316:=hidj (aa3 H1315.out H1516.out)
 have H1416:=hidj (aa3 H1415.out H1516.out)
 go_wp2_with fail
 refine(ajs (am8 HD13.out.1 H1316.out) (aat HRB.out H1416.out)).mono ?_
 rintro e w17 ⟨rfl,hk17⟩
 rw [HD13.out.2.1]
 have H1617:=hidj (aaz hk17)
 clear hk17
 have HQ17:=hidj (af6 HQ16.out H1617.out)
 have H1317:=hidj (aa3 H1316.out H1617.out)
 go_wp2_with fail
 refine(ajs (am8 HD15.out.1 (aa3 H1516.out H1617.out)) (aat HRE.out H1617.out)).mono ?_
 rintro e w18 ⟨rfl,hk18⟩
 rw [HD15.out.2]
 have H1718:=hidj (aaz hk18)
 clear hk18
 have HQ18:=hidj (af6 HQ17.out H1718.out)
 have H1318:=hidj (aa3 H1317.out H1718.out)
 have H718:=hidj (aa3 H712.out (aa3 H1213.out H1318.out))
 obtain⟨z0,z1,z2,z3⟩:=acp HQ18.out
 have HM18:=hidj (show Mid w6 w7 w12 w18 from⟨aa3 H67.out H718.out,fun i _ hi=>(aa3 H1213.out H1318.out).block i hi⟩)
 have HTI:=hidj (show Typ sLev (ab2 L) from⟨_,_,HI6.out⟩)
 have HG1:=hidj (bj3 HFI.out.1 H718.out (by rw [HFI.out.2.2.1];exact bej HTI.out n))
 have HG2:=hidj (bj3 HFI.out.2.1 H718.out (by rw [HFI.out.2.2.2.1];exact ben HTI.out n))
 go_wp2_with fail
 refine(aqc HG1.out).mono ?_
 rintro e w19 ⟨rfl,ho19⟩
 have HO19:=hidj (bic ho19)
 clear ho19 z0 z1 z2 z3
 have HQ19:=hidj ((HO19.out.other w7.heap.size (fun hh=>Nat.lt_irrefl _ hh.2.2)).trans HQ18.out)
 have HM19:=hidj (HM18.out.ov HO19.out (fun k hh=>⟨Nat.le_trans HAB.out.1 hh.1,.inl hh.2.2⟩))
 have HG3:=hidj (a0t HG2.out (fun k hk=>HO19.out.other k (fun hh=>by have h1:=HAB.out.2.2;have h2:=hh.2.1;have h3:=hk.1;omega)))
 obtain⟨z0,z1,z2,z3⟩:=acp HQ19.out
 go_wp2_with fail
 refine(aqc HG3.out).mono ?_
 rintro e w20 ⟨rfl,ho20⟩
 have HO20:=hidj (bic ho20)
 clear ho20 z0 z1 z2 z3
 have HM20:=hidj (HM19.out.ov HO20.out (fun k hh=>⟨Nat.le_trans HAB.out.2.1 hh.1,.inl hh.2.2⟩))
 have HK20:=hidj (show ∀ i,w7.heap.size≤i→w20.heap[i]? = w18.heap[i]? from fun i hi=>(HO20.out.other i (fun hh=>by have:=hh.2.2;omega)).trans (HO19.out.other i (fun hh=>by have:=hh.2.2;omega)))
 have HEND:=hidj (show ∀ wr,Mid w6 w7 w12 wr→RS (memW wr) sLev (ab2 L) si∧RS (memW wr) sR (aiq Fr) (.slice ao no co)∧Below w.heap.size w wr from fun wr hm=>⟨aat HI6.out hm.below,HO12.out.mono fun k o ⟨h1,h2,h3,_⟩=>(hm.mid k (Nat.le_trans H711.out.size h1) h2).trans h3,aa3 HB6.out hm.below⟩)
 have HSI:=hidj (And.intro (bt7 HTy.out) (show afb (aiq Fr).rows Fr.rows=true from a7t HTF.out))
 rcases HD13.out.2.2 with hx | ⟨dd,hdd,hok,hx⟩
 ·cases hx
  go_wp2_with fail
  go_loopw [23] (fun q wr=>q=.int .i64 0∧Hid (Mid w6 w7 w12 wr)) (fun _ _=>0)
  case atStart=>exact⟨rfl,HM20⟩
  case round =>
   obtain⟨rfl,HW⟩:=hrel
   have HE:=hidj (HEND.out _ HW.out)
   go_wp2_with fail
   refine(ajs HE.out.1 (aat HH.out HE.out.2.2)).mono ?_
   rintro e w21 ⟨rfl,hk21⟩
   rw [HSI.out.1]
   have H21:=hidj (aaz hk21)
   clear hk21
   go_wp2_with fail
   refine(ajt (aat HE.out.2.1 H21.out) (aat HP.out.2.2 (aa3 HE.out.2.2 H21.out))).mono ?_
   rintro e w22 ⟨rfl,hk22⟩
   rw [HSI.out.2]
   have H22:=hidj (aa3 H21.out (aaz hk22))
   clear hk22
   go_wp2_with fail
   refine au0.mono ?_
   rintro e w23 ⟨rfl,hk23⟩
   go_wp2_with fail
   go_returns
   exact⟨rfl,aa3 (aa3 HE.out.2.2 H22.out) (aaz hk23)⟩
 ·obtain⟨kx,cap,arr,x0,x1,x2,x3,A,hs,htop,hkx,hA,hD,q0,q1,q2,q3⟩:=hx
  cases hs
  have hrs:=HD13.out.1
  rw [hdd] at hrs
  have HL:=hidj (a9v HM20.out (fun i h1 h2=>(HK20.out i (Nat.le_trans H712.out.size h1)).trans (H1318.out.block i h2)) hrs hok hkx htop hA q0 q1 q2 q3)
  have HAD:=hidj (And.intro hA hD)
  clear hok htop hkx hA hD q0 q1 q2 q3 hrs hdd
  go_wp2_with fail
  go_loopw [23] (fun q wr=>∃ k:Nat,k≤4∧q=.int .i64 (k:Int)∧Hid (LoopJ w6 w7 w12 wr kx k A x0 x1 x2 x3 arr)) (fun q _=>4 - (RowKit.intOf q).toNat)
  case atStart=>exact⟨0,Nat.zero_le _,rfl,HL⟩
  case round =>
   obtain⟨k,hk,rfl,HW⟩:=hrel
   by_cases hk4:k<4
   ·obtain⟨x,hx⟩:∃ x,[x0,x1,x2,x3][k]? = some x:=⟨_,Gl hk4⟩
    have hcell:=boq HW.out.top hk4 hx
    have HRX:=hidj (HW.out.runs k x (Rl _) hx)
    have hk0:(0:Int)≤(k:Int):=Int.natCast_nonneg _
    have hk1:(k:Int)<4:=by omega
    have hkw:IntKind.i64.wrap ((k:Int)+1)=(k:Int)+1:=by rw [IntKind.wrap_i64];omega
    clear hx
    go_wp2_with fail
    refine(aqc HRX.out).mono ?_
    rintro e w16 ⟨rfl,ho16⟩
    have HW2:=hidj (bep HW.out (aa3 H67.out H712.out).size (fun j i hh=>⟨(HAD.out.1 j i hh).1,(HAD.out.1 j i hh).2⟩) HAD.out.2 (bic ho16))
    clear ho16 hcell
    go_wp2_with fail
    exact⟨⟨k+1,by omega,by go_num,HW2⟩,by simp [RowKit.intOf];omega⟩
   ·have hke:k=4:=by omega
    subst hke
    have HE:=hidj (HEND.out _ HW.out.mid)
    go_wp2_with fail
    refine(ajs HE.out.1 (aat HH.out HE.out.2.2)).mono ?_
    rintro e w21 ⟨rfl,hk21⟩
    rw [HSI.out.1]
    have H21:=hidj (aaz hk21)
    clear hk21
    go_wp2_with fail
    refine(ajt (aat HE.out.2.1 H21.out) (aat HP.out.2.2 (aa3 HE.out.2.2 H21.out))).mono ?_
    rintro e w22 ⟨rfl,hk22⟩
    rw [HSI.out.2]
    have H22:=hidj (aa3 H21.out (aaz hk22))
    clear hk22
    go_wp2_with fail
    refine au0.mono ?_
    rintro e w23 ⟨rfl,hk23⟩
    go_wp2_with fail
    go_returns
    exact⟨rfl,aa3 (aa3 HE.out.2.2 H22.out) (aaz hk23)⟩
end Go.Proofs.Ytlbbkmcegbeckaa
namespace Go.Sx
open Go.ChangeShapes Go.WideShapes
variable {P:Program}
def bn8(P:Program)(rec:TypeId→Option (List Srt)):Nat→List Field→Option (List Srt)
 | _,[]=>some []
 | off,f::fs=>match rec f.type with
  | some ks=>if f.offset=off∧P.cellsOf f.type=ks.length then(bn8 P rec (off+ks.length) fs).map (ks++·) else none
  | none=>none
def srtP(P:Program):Nat→TypeId→Option (List Srt)
 | 0,_=>none
 | n+1,t=>match P.underlying t with
  | some (.int k)=>some [.int k]
  | some .bool=>some [.bool]
  | some .string=>some [.str]
  | some (.slice e)=>match srtP P n e with
   | some ws=>if P.cellsOf e=ws.length∧0<ws.length then some [.sl ws] else none
   | none=>none
  | some (.struct fs)=>match bn8 P (srtP P n) 0 fs.toList with
   | some ks=>if P.cellsOf t=ks.length then some ks else none
   | none=>none
  | _=>none
def memW(W:World):Mem:=fun k o=>W.heap[k]? = some o
def HasS(m:Mem)(ss:List Srt)(cs:List Value):Prop:=cs.length=ss.length∧∃ ds,RSs m ss ds fun j=>cs[j]?
theorem a0r{m:Mem}:∀ {ss ss':List Srt} {ds ds':List CD} {cs cs':List Value},cs.length=ss.length→RSs m ss ds (fun j=>cs[j]?)→RSs m ss' ds' (fun j=>cs'[j]?)→RSs m (ss++ss') (ds++ds') fun j=>(cs++cs')[j]?
 | [],ss',ds,ds',cs,cs',hl,h,h'=>by
  have h:ds=[]:=h
  have:cs=[]:=List.length_eq_zero_iff.1 hl
  subst h
  subst this
  exact h'
 | s::ss,ss',ds,ds',[],cs',hl,h,h'=>by simp at hl
 | s::ss,ss',ds,ds',c::cs,cs',hl,h,h'=>by
  obtain⟨d,r,u,rfl,h1,h2,h3⟩:=h
  refine⟨d,r++ds',u,rfl,h1,h2,?_⟩
  have h3':RSs m ss r fun j=>cs[j]?:=h3.congr fun j _=>by simp
  have:=a0r (by simpa using hl) h3' h'
  exact this.congr fun j _=>by simp
theorem HasS.append{m:Mem}{ss ss':List Srt}{cs cs':List Value}(h:HasS m ss cs)(h':HasS m ss' cs'):HasS m (ss++ss') (cs++cs'):=by
 obtain⟨h1,ds,h2⟩:=h
 obtain⟨h3,ds',h4⟩:=h'
 exact⟨by simp [h1,h3],ds++ds',a0r h1 h2 h4⟩
theorem aya{m:Mem}{rec:TypeId→Option (List Srt)}{cs:List Value}:∀ (fs:List Field) {off:Nat} {ks:List Srt},bn8 P rec off fs=some ks →
  (∀ f∈fs,∀ ks',rec f.type=some ks'→HasS m ks' ((cs.drop f.offset).take (P.cellsOf f.type)))→HasS m ks ((cs.drop off).take ks.length)
 | [],off,ks,h,_=>by cases h;exact⟨by simp,[],rfl⟩
 | f::fs,off,ks,h,hr=>by
  simp only [bn8] at h
  cases hk:rec f.type with
  | none=>rw [hk] at h;cases h
  | some k1 =>
   rw [hk] at h
   simp only at h
   split at h
   ·rename_i hc
    obtain⟨k2,hk2,rfl⟩:=Option.map_eq_some_iff.1 h
    have h2:=aya fs hk2 fun g hg=>hr g (Mc _ hg)
    have h1:=hr f (Ms ..) k1 hk
    rw [hc.1,hc.2] at h1
    have e:(cs.drop off).take (k1++k2).length=(cs.drop off).take k1.length++(cs.drop (off+k1.length)).take k2.length:=by
     rw [List.length_append,List.take_add,List.drop_drop]
    rw [e]
    exact h1.append h2
   ·cases h
theorem avq{α:Type}{Q:Nat→α→Prop}:∀ (n:Nat),(∀ i,i<n→∃ r,Q i r)→∃ l:List α,l.length=n∧∀ (i:Nat) (r:α),l[i]? = some r→Q i r
 | 0,_=>⟨[],rfl,fun i r h=>by simp at h⟩
 | n+1,h=>by
  obtain⟨l,h1,h2⟩:=avq n fun i hi=>h i (by omega)
  obtain⟨r,hr⟩:=h n (by omega)
  refine⟨l++[r],by simp [h1],fun i r' hi=>?_⟩
  rw [List.getElem?_append] at hi
  split at hi
  ·exact h2 i r' hi
  ·rename_i hlt
   have:i=n:=by
    have:=(Ls.1 hi).1
    simp at this
    omega
   subst this
   rw [h1,Nat.sub_self] at hi
   cases hi
   exact hr
theorem bkd{W:World}{a:Addr}{v:Value}(h:W.cell? a=some v):∃ b off arr t fr,a=⟨b,off,none⟩∧W.heap[b]? = some (.cells arr t fr):=by
 obtain⟨b,off,sp⟩:=a
 unfold World.cell? at h
 simp only at h
 split at h
 ·rename_i c t fr hc
  cases sp with
  | none=>exact⟨b,off,c,t,fr,rfl,hc⟩
  | some _=>simp at h
 ·cases h
theorem mapM_mem{α β:Type}{g:α→Option β}:∀ {l:List α} {xs:List β},l.mapM g=some xs→∀ a∈l,∃ x∈xs,g a=some x
 | [],_,_,a,ha=>by cases ha
 | b::l,xs,h,a,ha=>by
  simp only [List.mapM_cons,Option.bind_eq_bind,Option.bind_eq_some_iff,Option.pure_def,Oi] at h
  obtain⟨y,hy,ys,hys,rfl⟩:=h
  rcases Mn.1 ha with rfl | ha
  ·exact⟨y,Ms ..,hy⟩
  ·obtain⟨x,hx,hgx⟩:=mapM_mem hys a ha
   exact⟨x,Mc _ hx,hgx⟩
section
variable {H:Type} {enc:TypeId×Value→H} {W:World} {base:Nat} {held:Bool}
theorem apl:∀ (n:Nat) {t:TypeId} {ks:List Srt},srtP P n t=some ks→∀ {fuel:Nat} {cs:List Value} {x:DataW H×List MemPlace},DataW.trod enc P W base (fun _=>true) held fuel t cs=some x→HasS (memW W) ks cs
 | 0,_,_,h,_,_,_,_=>by cases h
 | n+1,t,ks,h,fuel,cs,x,hx=>by
  simp only [srtP] at h
  split at h
  ·rename_i k hu
   cases h
   cases fuel with
   | zero=>simp [DataW.trod] at hx
   | succ m =>
    obtain⟨i,rfl,rfl,hw⟩:=DataW.trod_int hu hx
    refine⟨rfl,[.v (.int k i)],_,_,_,rfl,rfl,⟨i,rfl,rfl,?_⟩,rfl⟩
    simpa [Lit.wf,abw] using hw
  ·rename_i hu
   cases h
   cases fuel with
   | zero=>simp [DataW.trod] at hx
   | succ m =>
    obtain⟨b,rfl⟩:∃ b,cs=[.bool b]:=by
     unfold DataW.trod at hx
     rw [hu] at hx
     split at hx<;>simp_all
    exact⟨rfl,[.v (.bool b)],_,_,_,rfl,rfl,⟨b,rfl,rfl⟩,rfl⟩
  ·rename_i hu
   cases h
   cases fuel with
   | zero=>simp [DataW.trod] at hx
   | succ m =>
    obtain⟨s,rfl,hs⟩:∃ s:ByteArray,cs=[.string s]∧s.size≤maxLen:=by
     unfold DataW.trod at hx
     rw [hu] at hx
     split at hx<;>simp_all
    exact⟨rfl,[.v (.string s)],_,_,_,rfl,rfl,⟨s,rfl,rfl,by unfold maxN;unfold maxLen at hs;omega⟩,rfl⟩
  ·rename_i e hu
   split at h
   ·rename_i ws hws
    split at h
    ·rename_i hc
     cases h
     rcases DataW.trod_slice hu hx with ⟨rfl,_⟩ | ⟨a,len,cap,elems,rest,m,_,rfl,rfl,hb,hl,hm,hlen,hel,hsp,_⟩
     ·exact⟨rfl,[.sl true []],_,_,_,rfl,rfl,.inl ⟨rfl,rfl⟩,rfl⟩
     ·obtain⟨hrl,hre⟩:=hsp rfl
      rw [hc.1] at hel hre
      have cell0:0<cap→∃ v,W.cell? a=some v:=by
       intro hcap
       have key:∀ y,((W.cells? base (a.add 0) ws.length).bind (DataW.trod enc P W base (fun _=>true) held m e))=some y→∃ v,W.cell? a=some v:=by
        intro y hy
        obtain⟨cs',hcs,_⟩:=Option.bind_eq_some_iff.1 hy
        obtain⟨_,h2,h3⟩:=World.cells?_some hcs
        have h4:=h3 0 hc.2
        rw [Gl (by omega)] at h4
        have e1:(a.add 0).add 0=a:=by simp [Addr.add]
        rw [e1] at h4
        exact⟨_,h4⟩
       by_cases h0:0<len
       ·have:=hel 0 h0
        rw [Nat.zero_mul,Gl (by omega)] at this
        exact key _ this
       ·have h0:len=0:=by omega
        have:=hre 0 (by omega)
        rw [h0,Nat.zero_add,Nat.zero_mul,Gl (by omega)] at this
        exact key _ this
      by_cases hcap:cap=0
      ·subst hcap
       have:len=0:=by omega
       subst this
       exact⟨rfl,[.sl false []],_,_,_,rfl,rfl,.inr (.inr ⟨a,rfl,rfl⟩),rfl⟩
      ·obtain⟨v0,hv0⟩:=cell0 (by omega)
       obtain⟨b,off,arr,tt,fr,rfl,harr⟩:=bkd hv0
       have hcell:∀ j,W.cell? ⟨b,j,none⟩=arr[j]?:=fun j=>by unfold World.cell?;simp [harr]
       obtain⟨rows,hr1,hr2⟩:=avq (Q:=fun i r=>RSs (memW W) ws r fun j=>arr[off+i*ws.length+j]?) len fun i hi=>by
        have h1:=hel i hi
        rw [Gl (by omega)] at h1
        obtain⟨cs',hcs,hy⟩:=Option.bind_eq_some_iff.1 h1
        obtain⟨_,h2,h3⟩:=World.cells?_some hcs
        obtain⟨_,ds,hds⟩:=apl n hws hy
        refine⟨ds,hds.congr fun j hj=>?_⟩
        have h4:=h3 j hj
        have e1:(Addr.add (Addr.add ⟨b,off,none⟩ (i*ws.length)) j)=⟨b,off+i*ws.length+j,none⟩:=by
         rw [Addr.add_lit,Addr.add_lit]
        rw [e1,hcell] at h4
        exact h4
       have hlast:off+cap*ws.length≤arr.size:=by
        have kk:∀ y,((W.cells? base ((⟨b,off,none⟩:Addr).add ((cap - 1)*ws.length)) ws.length).bind (DataW.trod enc P W base (fun _=>true) held m e))=some y→off+cap*ws.length≤arr.size:=by
         intro y hy
         obtain⟨cs',hcs,_⟩:=Option.bind_eq_some_iff.1 hy
         obtain⟨_,h2,h3⟩:=World.cells?_some hcs
         have h4:=h3 (ws.length - 1) (by omega)
         rw [Gl (by omega),Addr.add_lit,Addr.add_lit,hcell] at h4
         have h5:=(Ga.1 h4).1
         have h6:(cap - 1)*ws.length+ws.length=cap*ws.length:=by
          rw [← Nat.succ_mul]
          congr 1
          omega
         omega
        by_cases h0:cap - 1<len
        ·have:=hel (cap - 1) h0
         rw [Gl (by omega)] at this
         exact kk _ this
        ·have:=hre (cap - 1 - len) (by omega)
         rw [show len+(cap - 1 - len)=cap - 1 by omega,Gl (by omega)] at this
         exact kk _ this
       refine⟨rfl,[.sl false rows],_,_,_,rfl,rfl,.inr (.inl ⟨rows,b,off,cap,rfl,by rw [hr1],by rw [hr1];exact hl,hm,fun _=>⟨arr,tt,fr,⟨harr,hlast⟩,hr2⟩⟩),rfl⟩
    ·cases h
   ·cases h
  ·rename_i fs hu
   split at h
   ·rename_i ks' hks
    split at h
    ·rename_i hc
     cases h
     cases fuel with
     | zero=>simp [DataW.trod] at hx
     | succ m =>
      have hx':=hx
      unfold DataW.trod at hx'
      rw [hu] at hx'
      have hl:cs.length=P.cellsOf t∧∃ xs,fs.toList.mapM (fun f=>DataW.trod enc P W base (fun _=>true) held m f.type ((cs.drop f.offset).take (P.cellsOf f.type)))=some xs:=by
       obtain⟨xs,n',hn,hx2,hl2,hlen,hget⟩:=DataW.trod_struct hu hx
       refine⟨hl2,?_⟩
       split at hx'<;>simp_all
       obtain⟨a,h1,h2,h3⟩:=hx'
       exact⟨a,h1⟩
      obtain⟨hl,xs,hp⟩:=hl
      have:=aya (P:=P) (cs:=cs) fs.toList hks fun f hf k1 hk1=>by
        obtain⟨y,_,hfy⟩:=mapM_mem hp f hf
        exact apl n hk1 hfy
      rw [List.drop_zero,← hc,← hl,List.take_length] at this
      exact this
    ·cases h
   ·cases h
  ·cases h
end
end Go.Sx
namespace Go.Sx
open Go.WideShapes Go.ChangeShapes
theorem ay4{W W':World}(hk:∀ k,k<W.heap.size→W'.heap[k]? = W.heap[k]?)(hos:W'.os=W.os)(hout:W'.output=W.output)(may:MemPlace→Prop):W.keptBut W' may :=
 ⟨hos,hout,fun i hi=>by rw [hk i hi];exact(World.keptBut_refl W may).2.2 i hi⟩
theorem a1r{W W':World}(hk:∀ k,k<W.heap.size→W'.heap[k]? = W.heap[k]?){a:Addr}(ha:a.block<W.heap.size):W'.frozen? a=W.frozen? a:=by
 unfold World.frozen?
 rw [hk _ ha]
theorem a99{H:Type}{enc:TypeId×Value→H}{P:Program}{f:Func}{s:ChangeSpec}{apart fresh handsOn again:Bool}{W W':World}{args:Array Value}{v:Value}{ds gs:List (DataW H)}{before pa pv:List MemPlace}
  (hW:DataW.Whole enc P f.params.toList s.vars apart W args.toList ds gs before)
  (hres:∀ (b:Nat) (sp:Nat→Bool) (hd:Bool),DataW.TrodAll enc P W' b sp hd f.resultTypes.toList (v.resultList f.resultTypes.size) (s.fn H (ds++gs)).results [])
  (hargs:∀ sp:Nat→Bool,(∀ p∈before,sp p.block=true)→DataW.TrodAll enc P W' 0 sp true f.params.toList args.toList (s.fn H (ds++gs)).args pa)
  (hvars:∀ sp:Nat→Bool,(∀ p∈before,sp p.block=true)→DataW.TrodVars enc P W' sp s.vars (s.fn H (ds++gs)).vars pv)
  (hps:before=pa++pv) (hk:∀ k,k<W.heap.size→W'.heap[k]? = W.heap[k]?) (hos:W'.os=W.os) (hout:W'.output=W.output)
  (hok:∀ (j:Nat) (t:TypeId) (r:Value),f.resultTypes[j]? = some t→(v.resultList f.resultTypes.size)[j]? = some r→Value.okWide P W' .any 0 t r) :
  s.post enc P f apart fresh handsOn again W args v W':=by
 have hold:∀ p∈before,(fun b=>decide (b<W.heap.size)) p.block=true:=fun p hp=>by simpa using hW.lt p hp
 have hlt:∀ p∈before,p.block<W.heap.size:=fun p hp=>hW.lt p hp
 refine⟨ds,gs,before,[],pa,pv,hW,hres _ _ _,hargs _ hold,hvars _ hold,World.keptBut_mono (fun p hp=>⟨hp,?_⟩) (ay4 hk hos hout (·∈before)),fun _=>?_⟩
 ·rw [hps,List.mem_append] at hp
  exact Or.inr hp
 ·obtain⟨_,_,_,_,_,hz,hn⟩:=hW
  refine⟨hok,_,_,([]++pa)++pv,⟨[]++pa,pv,trodAll_append (hargs _ (fun _ _=>rfl)) (hres _ _ _),hvars _ (fun _ _=>rfl),rfl,?_,?_⟩,?_⟩
  ·intro b off hp
   have hp':MemPlace.cell b off∈before:=by rw [hps];simpa using hp
   rw [a1r hk (show(⟨b,off,none⟩:Addr).block<W.heap.size from hlt _ hp')]
   exact hz b off hp'
  ·intro ha
   have:=hn ha
   rw [hps] at this
   simpa using this
  ·intro p hp _
   rw [hps]
   simpa using hp
section
variable {H:Type} {enc:TypeId×Value→H} {P:Program} {W W':World} {base:Nat} {sp:Nat→Bool} {held:Bool}
theorem bdv(hk:∀ k,k<W.heap.size→W'.heap[k]? = W.heap[k]?):∀ (n:Nat) (t:TypeId) (cs:List Value) (x:DataW H×List MemPlace),DataW.trod enc P W base sp held n t cs=some x→DataW.trod enc P W' base sp held n t cs=some x
 | 0,_,_,_,h=>by simp [DataW.trod] at h
 | n+1,t,cs,x,h=>by
  have hlt:=DataW.trod_lt (n+1) t cs x h
  rw [DataW.trod_step] at h ⊢
  refine DataW.trodStep_carry (fun t cs x hx _=>bdv hk n t cs x hx) h fun p hp=>?_
  have hb:=hlt p hp
  cases p with
  | cell b off =>
   show W'.cell? ⟨b,off,none⟩=W.cell? ⟨b,off,none⟩
   unfold World.cell?
   rw [hk b hb]
  | map b=>exact hk b hb
theorem Trod.old(hk:∀ k,k<W.heap.size→W'.heap[k]? = W.heap[k]?){t:TypeId}{v:Value}{d:DataW H}{ps:List MemPlace}(h:DataW.Trod enc P W base sp held t v d ps):DataW.Trod enc P W' base sp held t v d ps:=by
 obtain⟨n,hn⟩:=h
 exact⟨n,bdv hk n _ _ _ hn⟩
theorem TrodAll.old(hk:∀ k,k<W.heap.size→W'.heap[k]? = W.heap[k]?):∀ {ts:List TypeId} {vs:List Value} {ds:List (DataW H)} {ps:List MemPlace},DataW.TrodAll enc P W base sp held ts vs ds ps→DataW.TrodAll enc P W' base sp held ts vs ds ps
 | [],[],[],_,h=>h
 | _::_,_::_,_::_,_,⟨p,q,h1,h2,e⟩=>⟨p,q,Trod.old hk h1,TrodAll.old hk h2,e⟩
end
end Go.Sx
