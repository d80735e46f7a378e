/-
  'LevelTellsSaid': for every input exchequerlaw15.LevelTells returns true; the input reads as it did. Conditions: none but the given ones.
-/
import Derived.Test.YtlbbkmcegbeckaaScA
import Derived.Test.YtlbbkmcegbeckaaSbA
import Derived.ChangeFn
import Derived.WideFn
import Derived.ChangeSame
import Derived.RowKit3
import Derived.ChangeReads
import Derived.ChangeOld
import Derived.ReadAgain
import Derived.WalkKit
import Derived.ProofKit
import Derived.OpenShut
set_option linter.unusedSectionVars false
set_option linter.unusedVariables false
set_option linter.unusedSimpArgs false
set_option linter.all false
namespace Go.Proofs.Ytlbbkmcegbeckaa
open Go.Sx Go.Proofs Go.RowKit Go.Lib
set_option maxRecDepth 100000 in
theorem c2p{w:World}{L r0 r1 r2 r3 r4:CD}{u v:Value}(h:RS (memW w) sLev L u)(hs:small L)(hv:b5z (memW w) (true,sRun) [r0,r1,r2,r3,r4] v)(l3:(r3.len:Int)≤200)(l4:(r4.len:Int)≤200) :
  Calls Try.prog 10 #[u,v] w fun e w'=>∃ s,e=.returned (.tuple #[s,.int .i64 (addN L [r0,r1,r2,r3,r4])])∧Below w.heap.size w w'∧RS (newM w w') sLev (addD L [r0,r1,r2,r3,r4]) s∧(s=nilV∨b6q L [r0,r1,r2,r3,r4]=true∧Apart w w' (.sl false ([r0,r1,r2,r3,r4]::(L.cell 0 0).rows)) (levD L 1) (levD L 2) (levD L 3) s):=by
 by_cases ho:b6q L [r0,r1,r2,r3,r4]=true
 ·refine(cxk h hs hv l3 l4 ho).mono fun e w' hh=>?_
  obtain⟨s,rfl,hb,hr,ha⟩:=hh
  have hn:addN L [r0,r1,r2,r3,r4]=0:=if_pos ho
  exact⟨s,by rw [hn],hb,hr,.inr ⟨ho,ha⟩⟩
 ·have ho:b6q L [r0,r1,r2,r3,r4]=false:=Bool.eq_false_iff.2 ho
  refine(cs9 h hs hv ho).mono fun e w' hh=>?_
  obtain⟨rfl,hb⟩:=hh
  obtain⟨e1,e2⟩:=c6c ho
  exact⟨nilV,by rw [e1],hb,by rw [e2];exact .inl ⟨rfl,rfl⟩,.inl rfl⟩
theorem b4g{W W':World}{s:Srt}{d:CD}{u:Value}(h:RS (memW W) s d u)(hb:Below W.heap.size W W'):RS (memW W') s d u:=h.mono fun k o hk=>(hb.block k (Array.getElem?_eq_some_iff.1 hk).1).trans hk
theorem cko{W W':World}{p:Shp}{d:List CD}{u:Value}(h:b5z (memW W) p d u)(hb:Below W.heap.size W W'):b5z (memW W') p d u:=b5z.mono (fun k o hk=>(hb.block k (Array.getElem?_eq_some_iff.1 hk).1).trans hk) h
theorem czh{lo hi:Nat}{w:World}{s:Srt}{d:CD}{u:Value}(h:RS (nm lo hi w) s d u):RS (memW w) s d u:=h.mono fun k o hk=>hk.2.2.1
theorem c8g{lo hi:Nat}{w:World}{p:Shp}{d:List CD}{u:Value}(h:b5z (nm lo hi w) p d u):b5z (memW w) p d u:=b5z.mono (fun k o hk=>hk.2.2.1) h
theorem cvi{m:Mem}{ss:List Srt}{d:CD}{u:Value}(h:RS m (.sl ss) d u):∃ a n c,u=.slice a n c∧(d.len:Int)=n:=by
 obtain⟨_,h2,_,a,c,rfl,_⟩:=h.slice
 exact⟨_,_,_,rfl,by rw [h2]⟩
theorem b46{w w1 w2:World}(h:Below w.heap.size w w1)(h':Below w1.heap.size w1 w2):Below w.heap.size w w2:=h.trans (h'.mono h.size)
structure LoopI (lo:Nat) (wb wr:World) (kx k:Nat) (A:Nat→Nat→Prop) (x0 x1 x2 x3:Value) (arr:Array Value):Prop where
 below:Below lo wb wr
 top:wr.heap[kx]? = some (.cells (#[x0,x1,x2,x3]++arr) 36 (0,0))
 runs:∀ j x,k≤j→[x0,x1,x2,x3][j]? = some x→cv2 (A j) wr x
theorem cza{lo:Nat}{wb wr w':World}{kx k:Nat}{A:Nat→Nat→Prop}{x0 x1 x2 x3:Value}{arr:Array Value}(h:LoopI lo wb wr kx k A x0 x1 x2 x3 arr)(hA:∀ j k,A j k→lo≤k∧k≠kx)(hD:∀ i j k,A i k→A j k→i=j)(ho:OvP (A k) wr w'):LoopI lo wb w' kx (k+1) A x0 x1 x2 x3 arr:=by
 refine⟨h.below.trans ⟨ho.os,ho.tape,ho.output,by rw [ho.size];exact Nat.le_refl _,fun i hi=>ho.other i fun hh=>?_⟩,(ho.other kx fun hh=>(hA k kx hh).2 rfl).trans h.top,fun j x hj hx=>?_⟩
 ·have:=(hA k i hh).1
  omega
 ·exact cw1 (h.runs j x (by omega) hx) fun i hi=>ho.other i fun hh=>by
   have:=hD k j i hh hi
   omega
theorem c5o{w:World}{kx k:Nat}{x0 x1 x2 x3 x:Value}{arr:Array Value}{t:TypeId}(h:w.heap[kx]? = some (.cells (#[x0,x1,x2,x3]++arr) t (0,0)))(hk:k<4)(hx:[x0,x1,x2,x3][k]? = some x):w.cell? ⟨kx,k,none⟩=some x:=by
 haveI:Sg:=sg0
 rw [cell?_of h,Array.getElem?_append_left (by show k<4;exact hk),List.getElem?_toArray]
 exact hx
theorem cx8(r0 r1 r2 r3 r4:CD):b6s [r0,r1,r2,r3,r4]=[r0,r1,r2,cpB r3,cpB r4]:=rfl
theorem c02{L r0 r1 r2 r3 r4:CD}(hT:Typ sLev L)(hk:keyT [r0,r1,r2,r3,r4]):ca2 (addD (b48 L) [r0,r1,r2,cpB r3,cpB r4]).rows (addR L [r0,r1,r2,r3,r4]).rows=true:=by
 have h:=c5c hT hk
 rw [cx8] at h
 exact h
theorem c2o(L r0 r1 r2 r3 r4:CD):addN (b48 L) [r0,r1,r2,cpB r3,cpB r4]=addN L [r0,r1,r2,r3,r4]:=by
 rw [← cx8,c69]
theorem cxi(L r0 r1 r2 r3 r4:CD):b6q (b48 L) [r0,r1,r2,cpB r3,cpB r4]=b6q L [r0,r1,r2,r3,r4]:=by
 rw [← cx8,cl1]
theorem c2s{w5 w8 w9 w14 w15:World}(h:Below w5.heap.size w5 w14)(hs:w5.heap.size≤w8.heap.size)(ho:OvP (fun k=>w8.heap.size≤k∧k<w9.heap.size) w14 w15):Below w5.heap.size w5 w15:=by
 refine h.trans ⟨ho.os,ho.tape,ho.output,by rw [ho.size];exact Nat.le_refl _,fun k hk=>ho.other k fun hh=>?_⟩
 have:=hh.1
 omega
theorem cwl{w4 w5 w15:World}{L d0:CD}{kx:Nat}{A:Nat→Nat→Prop}{x0 x1 x2 x3:Value}{arr:Array Value}(h45:Below w4.heap.size w4 w5)(h:Below w5.heap.size w5 w15)(hT:Typ sLev L)(ho:b4c L=true)(hd:∀ r∈d0.rows,keyed r)(htop:w5.heap[kx]? = some (.cells (#[x0,x1,x2,x3]++arr) 36 (0,0)))
  (q0:RS (fun k o=>A 0 k∧w5.heap[k]? = some o∧Nice o) sR d0 x0) (q1:RS (fun k o=>A 1 k∧w5.heap[k]? = some o∧Nice o) sR (levD L 1) x1) (q2:RS (fun k o=>A 2 k∧w5.heap[k]? = some o∧Nice o) sR (levD L 2) x2) (q3:RS (fun k o=>A 3 k∧w5.heap[k]? = some o∧Nice o) sR (levD L 3) x3):LoopI w4.heap.size w5 w15 kx 0 A x0 x1 x2 x3 arr:=by
 refine⟨h.mono h45.size,(h.block kx (Array.getElem?_eq_some_iff.1 htop).1).trans htop,fun j x _ hx=>?_⟩
 have tr:∀ (j:Nat) (d:CD) (x:Value),RS (fun k o=>A j k∧w5.heap[k]? = some o∧Nice o) sR d x→(∀ r∈d.rows,keyed r)→cv2 (A j) w15 x:=fun j d x hr hk=>c01 (hr.mono fun k o ⟨a,b,c⟩=>⟨a,(h.block k (Array.getElem?_eq_some_iff.1 b).1).trans b,c⟩) hk
 match j,hx with
 | 0,hx=>cases hx;exact tr 0 _ _ q0 hd
 | 1,hx=>cases hx;exact tr 1 _ _ q1 (b92 hT ho 1)
 | 2,hx=>cases hx;exact tr 2 _ _ q2 (b92 hT ho 2)
 | 3,hx=>cases hx;exact tr 3 _ _ q3 (b92 hT ho 3)
theorem cv5{l:CD}{r:List CD}(h:b6q l r=true):b4c l=true:=by
 unfold b6q at h
 rw [Bool.and_eq_true] at h
 exact h.1
theorem dc9{l:CD}(h:small l):(l.len:Int)≤8:=by
 unfold small b4a at h
 rw [Bool.or_eq_true,decide_eq_true_eq,not_or] at h
 omega
theorem cn1{l:CD}(h:small l):small (b48 l):=by
 unfold small at h ⊢
 rw [c3r]
 exact h
set_option maxHeartbeats 4000000 in
set_option maxRecDepth 100000 in
theorem csz{w:World}{L r0 r1 r2 r3 r4 F T:CD}{u v f t:Value}(h:RS (memW w) sLev L u)(hv:b5z (memW w) (true,sRun) [r0,r1,r2,r3,r4] v)(hf:RS (memW w) sB F f)(ht:RS (memW w) sB T t) :
  Calls Try.prog 3 #[u,v,f,t] w fun e w'=>e=.returned (.bool true)∧Below w.heap.size w w':=by
 obtain⟨n0,n1,n2,a3,n3,c3,a4,n4,c4,rfl,hrow⟩:=c4x hv
 obtain⟨af,nf,cf,rfl,lf⟩:=cvi hf
 obtain⟨at',nt,ct,rfl,lt⟩:=cvi ht
 have hl3:(r3.len:Int)=n3∧(r4.len:Int)=n4:=by
  obtain⟨u3,e3,g3⟩:=hrow.get 3 sB rfl
  obtain⟨u4,e4,g4⟩:=hrow.get 4 sB rfl
  cases e3
  cases e4
  obtain⟨_,_,_,e,hl⟩:=cvi g3
  obtain⟨_,_,_,e',hl'⟩:=cvi g4
  cases e
  cases e'
  exact⟨hl,hl'⟩
 have hky:keyT [r0,r1,r2,r3,r4]:=by
  obtain⟨u0,e0,g0⟩:=hrow.get 0 (.int .i64) rfl
  obtain⟨u1,e1,g1⟩:=hrow.get 1 (.int .i64) rfl
  obtain⟨u2,e2,g2⟩:=hrow.get 2 (.int .i64) rfl
  exact⟨ceq ⟨_,_,g0⟩,ceq ⟨_,_,g1⟩,ceq ⟨_,_,g2⟩⟩
 have HH:=hidj h
 have HV:=hidj hv
 have HF:=hidj hf
 have HT:=hidj ht
 have HTy:=hidj (show Typ sLev L from⟨_,_,h⟩)
 obtain⟨w1,hw1⟩:∃ w1,w1=w.alloc (.cells #[.int .i64 n0,.int .i64 n1,.int .i64 n2,.slice a3 n3 c3,.slice a4 n4 c4] 27 (0,0)):=⟨_,rfl⟩
 have HB1:=hidj (show Below w.heap.size w w1 by rw [hw1];exact(Below.refl _ w).alloc (Nat.le_refl _) _)
 have HX1:=hidj (show w1.heap[w.heap.size]? = some (.cells #[.int .i64 n0,.int .i64 n1,.int .i64 n2,.slice a3 n3 c3,.slice a4 n4 c4] 27 (0,0)) by rw [hw1];exact cev w _)
 have HW:=hidj hw1
 clear h hv hf ht hrow hw1
 go_enter Try.func3,Try.ntmps3
 go_wp2_with fail
 rw [← HW.out]
 refine(crv (b4g HH.out HB1.out)).mono ?_
 rintro e w2 ⟨rfl,hk2⟩
 have HB2:=hidj (b46 HB1.out (b4j hk2))
 have HX2:=hidj ((hk2.old _ (Array.getElem?_eq_some_iff.1 HX1.out).1).trans HX1.out)
 clear hk2 HW HB1 HX1
 obtain⟨z0,z1,z2,z3,z4⟩:=cot HX2.out
 by_cases hbig:b4a L 40=true
 ·rw [hbig]
  go_wp2_with fail
  go_returns
  exact⟨rfl,HB2.out⟩
 have hbf:b4a L 40=false:=Bool.eq_false_iff.2 hbig
 rw [hbf]
 by_cases hb3:(200:Int)<n3
 ·go_wp2_with fail
  go_returns
  exact⟨rfl,HB2.out⟩
 by_cases hb4:(200:Int)<n4
 ·go_wp2_with fail
  go_returns
  exact⟨rfl,HB2.out⟩
 by_cases hbf:(200:Int)<nf
 ·go_wp2_with fail
  go_returns
  exact⟨rfl,HB2.out⟩
 by_cases hbt:(200:Int)<nt
 ·go_wp2_with fail
  go_returns
  exact⟨rfl,HB2.out⟩
 have l3:(r3.len:Int)≤200:=by omega
 have l4:(r4.len:Int)≤200:=by omega
 obtain⟨z,hz⟩:∃ z:Int,z=if b4c L=true then 0 else 2:=⟨_,rfl⟩
 have hN:addN (b48 L) [r0,r1,r2,cpB r3,cpB r4]=addN L [r0,r1,r2,r3,r4]:=c2o L r0 r1 r2 r3 r4
 have hO:b6q (b48 L) [r0,r1,r2,cpB r3,cpB r4]=b6q L [r0,r1,r2,r3,r4]:=cxi L r0 r1 r2 r3 r4
 obtain⟨za,hza⟩:∃ z:Int,z=addN L [r0,r1,r2,r3,r4]:=⟨_,rfl⟩
 obtain⟨zo,hzo⟩:∃ z:Int,z=cfo L:=⟨_,rfl⟩
 obtain⟨bo,hbo⟩:∃ z:Bool,z=cfm L:=⟨_,rfl⟩
 have HZ:=hidj (And.intro hz (And.intro hN (And.intro hza (And.intro hzo (And.intro hbo hO)))))
 have HSA:=hidj (c02 HTy.out hky)
 have HS:=hidj (And.intro hbig (And.intro l3 l4))
 clear hz hN hza hzo hbo hbig hO l3 l4 hl3 lf lt hky
 go_wp2_with fail
 refine(cwb (b4g HH.out HB2.out) HS.out.1 (dc9 HS.out.1)).mono ?_
 rintro e w3 ⟨si,rfl,hk3,hr3⟩
 have HB3:=hidj (b46 HB2.out (b4j hk3))
 have HX3:=hidj ((hk3.old _ (Array.getElem?_eq_some_iff.1 HX2.out).1).trans HX2.out)
 have HI3:=hidj (czh hr3)
 clear hk3 hr3 HB2 HX2 z0 z1 z2 z3 z4
 obtain⟨z0,z1,z2,z3,z4⟩:=cot HX3.out
 go_wp2_with fail
 refine(cma (cko HV.out HB3.out) HS.out.2.1 HS.out.2.2).mono ?_
 rintro e w4 ⟨vr,rfl,hk4,hp4⟩
 have HB4:=hidj (b46 HB3.out (b4j hk4))
 have HX4:=hidj ((hk4.old _ (Array.getElem?_eq_some_iff.1 HX3.out).1).trans HX3.out)
 have HI4:=hidj (b4g HI3.out (b4j hk4))
 have HP4:=hidj (show b5z (memW w4) (true,sRun) [r0,r1,r2,cpB r3,cpB r4] vr from c8g hp4)
 clear hk4 hp4 HB3 HX3 HI3 z0 z1 z2 z3 z4
 go_wp2_with fail
 refine(c2p HI4.out (cn1 HS.out.1) HP4.out HS.out.2.1 HS.out.2.2).mono ?_
 rintro e w5 ⟨sx,rfl,hb5,hx5,hxa⟩
 rw [HZ.out.2.1,← HZ.out.2.2.1]
 obtain⟨ax,nx,cx,rfl⟩:=b5q hx5
 have HB5:=hidj (b46 HB4.out hb5)
 have HX5:=hidj ((hb5.block _ (Array.getElem?_eq_some_iff.1 HX4.out).1).trans HX4.out)
 have HI5:=hidj (b4g HI4.out hb5)
 have HXX:=hidj (czh hx5)
 have H45:=hidj hb5
 have HXA:=hidj hxa
 clear hb5 hx5 hxa HX4 HP4
 obtain⟨z0,z1,z2,z3,z4⟩:=cot HX5.out
 go_wp2_with fail
 refine(cv6 (b4g HH.out HB5.out) (cko HV.out HB5.out) HS.out.1).mono ?_
 rintro e w6 ⟨sy,rfl,hk6,hy6⟩
 rw [← HZ.out.2.2.1]
 have H56:=hidj (b4j hk6)
 have HY6:=hidj hy6
 clear hk6 hy6 HX5 z0 z1 z2 z3 z4
 go_wp2_with fail
 refine(cwx (b4g HI5.out H56.out) (cn1 HS.out.1)).mono ?_
 rintro e w7 ⟨rfl,hk7⟩
 rw [c4v,c4u,← HZ.out.2.2.2.1,← HZ.out.2.2.2.2.1]
 have H57:=hidj (b46 H56.out (b4j hk7))
 have HY7:=hidj (b4g HY6.out (b4j hk7))
 clear hk7 H56 HY6
 go_wp2_with fail
 refine(csa (b4g HH.out (b46 HB5.out H57.out))).mono ?_
 rintro e w8 ⟨rfl,hk8⟩
 rw [← HZ.out.2.2.2.1,← HZ.out.2.2.2.2.1]
 have H58:=hidj (b46 H57.out (b4j hk8))
 have HY8:=hidj (b4g HY7.out (b4j hk8))
 clear hk8 H57 HY7
 go_wp2_with fail
 refine(csq (b4g HI5.out H58.out) (b4g HF.out (b46 HB5.out H58.out)) (b4g HT.out (b46 HB5.out H58.out)) (cn1 HS.out.1)).mono ?_
 rintro e w9 ⟨sl,rfl,hk9,hl9⟩
 obtain⟨al,nl,cl,rfl⟩:=b5q hl9
 have H59:=hidj (b46 H58.out (b4j hk9))
 have HY9:=hidj (b4g HY8.out (b4j hk9))
 have HLL:=hidj hl9
 have HSZ:=hidj (show w5.heap.size≤w8.heap.size from H58.out.size)
 clear hk9 hl9 HY8
 go_wp2_with fail
 refine(cgk (b4g HI5.out H59.out)).mono ?_
 rintro e w10 ⟨rfl,hk10⟩
 rw [cz2,← HZ.out.1]
 have H9a:=hidj (b4j hk10)
 clear hk10
 go_wp2_with fail
 refine(cwa (b4g HH.out (b46 HB5.out (b46 H59.out H9a.out)))).mono ?_
 rintro e w11 ⟨rfl,hk11⟩
 rw [← HZ.out.1]
 have H9b:=hidj (b46 H9a.out (b4j hk11))
 clear hk11 H9a
 go_wp2_with fail
 refine(cbx (b4g HXX.out (b46 H59.out H9b.out)) (b4g HY9.out H9b.out)).mono ?_
 rintro e w12 ⟨rfl,hk12⟩
 rw [HSA.out]
 have H9c:=hidj (b46 H9b.out (b4j hk12))
 clear hk12 H9b HY9
 go_wp2_with fail
 refine(cqy (b4g HH.out (b46 HB5.out (b46 H59.out H9c.out))) (b4g HF.out (b46 HB5.out (b46 H59.out H9c.out))) (b4g HT.out (b46 HB5.out (b46 H59.out H9c.out))) HS.out.1).mono ?_
 rintro e w13 ⟨sr,rfl,hk13,hr13⟩
 have H9d:=hidj (b46 H9c.out (b4j hk13))
 have HR13:=hidj hr13
 clear hk13 hr13 H9c
 go_wp2_with fail
 refine(cso (b4g (czh HLL.out) H9d.out) HR13.out).mono ?_
 rintro e w14 ⟨rfl,hk14⟩
 rw [cw3 HTy.out]
 have H9e:=hidj (b46 H9d.out (b4j hk14))
 clear hk14 H9d HR13
 go_wp2_with fail
 have HTI:=hidj (show Typ sLev (b48 L) from⟨_,_,HI5.out⟩)
 have HRL:=hidj (show RS (inP (fun k=>w8.heap.size≤k∧k<w9.heap.size) w14) sR (b57 (b48 L) F T) (.slice al nl cl) from HLL.out.mono fun k o ⟨a,b,c,d⟩=>⟨⟨a,b⟩,(H9e.out.block k b).trans c,d⟩)
 refine(ckm (c01 HRL.out (csr HTI.out))).mono ?_
 rintro e w15 ⟨rfl,ho15⟩
 have H15:=hidj (c2s (b46 H59.out H9e.out) HSZ.out (c6v ho15))
 clear ho15 HRL H9e HLL H59 HSZ H58
 rcases HXA.out with hx | ⟨hok,hx⟩
 ·cases hx
  clear HXA
  go_wp2_with fail
  go_loopw [19] (fun q wr=>q=.int .i64 0∧Hid (Below w5.heap.size w5 wr)) (fun _ _=>0)
  case atStart=>exact⟨rfl,H15⟩
  case round =>
   obtain⟨rfl,HW⟩:=hrel
   go_wp2_with fail
   refine(cbx (b4g HI5.out HW.out) (b4g HH.out (b46 HB5.out HW.out))).mono ?_
   rintro e w16 ⟨rfl,hk16⟩
   rw [c04 HTy.out]
   go_wp2_with fail
   refine cge.mono ?_
   rintro e w17 ⟨rfl,hk17⟩
   go_wp2_with fail
   go_returns
   exact⟨rfl,b46 (b46 (b46 HB5.out HW.out) (b4j hk16)) (b4j hk17)⟩
 ·obtain⟨kx,cap,arr,x0,x1,x2,x3,A,hs,htop,hkx,hA,hD,q0,q1,q2,q3⟩:=hx
  cases hs
  clear HXA
  have HL:=hidj (cwl H45.out H15.out HTI.out (cv5 hok) (cxj HTI.out hok) htop q0 q1 q2 q3)
  have HAD:=hidj (And.intro hA hD)
  clear hok htop hkx hA hD q0 q1 q2 q3 H15
  go_wp2_with fail
  go_loopw [19] (fun q wr=>∃ k:Nat,k≤4∧q=.int .i64 (k:Int)∧Hid (LoopI w4.heap.size w5 wr kx k A x0 x1 x2 x3 arr)) (fun q _=>4 - (RowKit.intOf q).toNat)
  case atStart=>exact⟨0,Nat.zero_le _,rfl,HL⟩
  case round =>
   obtain⟨k,hk,rfl,HW⟩:=hrel
   by_cases hk4:k<4
   ·obtain⟨x,hx⟩:∃ x,[x0,x1,x2,x3][k]? = some x:=⟨_,List.getElem?_eq_getElem hk4⟩
    have hcell:=c5o HW.out.top hk4 hx
    have HRX:=hidj (HW.out.runs k x (Nat.le_refl _) hx)
    have hk0:(0:Int)≤(k:Int):=Int.natCast_nonneg _
    have hk1:(k:Int)<4:=by omega
    have hkw:IntKind.i64.wrap ((k:Int)+1)=(k:Int)+1:=by rw [IntKind.wrap_i64];omega
    clear hx
    go_wp2_with fail
    refine(ckm HRX.out).mono ?_
    rintro e w16 ⟨rfl,ho16⟩
    have HW2:=hidj (cza HW.out (fun j i hh=>⟨(HAD.out.1 j i hh).1,(HAD.out.1 j i hh).2⟩) HAD.out.2 (c6v ho16))
    clear ho16 hcell
    go_wp2_with fail
    exact⟨⟨k+1,by omega,by go_num,HW2⟩,by simp [RowKit.intOf];omega⟩
   ·have hke:k=4:=by omega
    subst hke
    go_wp2_with fail
    refine(cbx (b4g HI4.out (H45.out.trans HW.out.below)) (b4g HH.out (b46 HB4.out (H45.out.trans HW.out.below)))).mono ?_
    rintro e w16 ⟨rfl,hk16⟩
    rw [c04 HTy.out]
    go_wp2_with fail
    refine cge.mono ?_
    rintro e w17 ⟨rfl,hk17⟩
    go_wp2_with fail
    go_returns
    exact⟨rfl,b46 (b46 (b46 HB4.out (H45.out.trans HW.out.below)) (b4j hk16)) (b4j hk17)⟩
end Go.Proofs.Ytlbbkmcegbeckaa

namespace Go.Sx
open Go.ChangeShapes Go.WideShapes
variable {P:Program}
def c5f(P:Program)(rec:TypeId→Option (List Srt)):Nat→List Field→Option (List Srt)
 | _,[]=>some []
 | off,f::fs=>match rec f.type with
  | some ks=>if f.offset=off∧P.cellsOf f.type=ks.length then(c5f P rec (off+ks.length) fs).map (ks++·) else none
  | none=>none
def srtP(P:Program):Nat→TypeId→Option (List Srt)
 | 0,_=>none
 | n+1,t=>match P.underlying t with
  | some (.int k)=>some [.int k]
  | some .bool=>some [.bool]
  | some .string=>some [.str]
  | some (.slice e)=>match srtP P n e with
   | some ws=>if P.cellsOf e=ws.length∧0<ws.length then some [.sl ws] else none
   | none=>none
  | some (.struct fs)=>match c5f P (srtP P n) 0 fs.toList with
   | some ks=>if P.cellsOf t=ks.length then some ks else none
   | none=>none
  | _=>none
def memW(W:World):Mem:=fun k o=>W.heap[k]? = some o
def HasS(m:Mem)(ss:List Srt)(cs:List Value):Prop:=cs.length=ss.length∧∃ ds,RSs m ss ds fun j=>cs[j]?
theorem clj{m:Mem}:∀ {ss ss':List Srt} {ds ds':List CD} {cs cs':List Value},cs.length=ss.length→RSs m ss ds (fun j=>cs[j]?)→RSs m ss' ds' (fun j=>cs'[j]?)→RSs m (ss++ss') (ds++ds') fun j=>(cs++cs')[j]?
 | [],ss',ds,ds',cs,cs',hl,h,h'=>by
  have h:ds=[]:=h
  have:cs=[]:=List.length_eq_zero_iff.1 hl
  subst h
  subst this
  exact h'
 | s::ss,ss',ds,ds',[],cs',hl,h,h'=>by simp at hl
 | s::ss,ss',ds,ds',c::cs,cs',hl,h,h'=>by
  obtain⟨d,r,u,rfl,h1,h2,h3⟩:=h
  refine⟨d,r++ds',u,rfl,h1,h2,?_⟩
  have h3':RSs m ss r fun j=>cs[j]?:=h3.congr fun j _=>by simp
  have:=clj (by simpa using hl) h3' h'
  exact this.congr fun j _=>by simp
theorem HasS.append{m:Mem}{ss ss':List Srt}{cs cs':List Value}(h:HasS m ss cs)(h':HasS m ss' cs'):HasS m (ss++ss') (cs++cs'):=by
 obtain⟨h1,ds,h2⟩:=h
 obtain⟨h3,ds',h4⟩:=h'
 exact⟨by simp [h1,h3],ds++ds',clj h1 h2 h4⟩
theorem civ{m:Mem}{rec:TypeId→Option (List Srt)}{cs:List Value}:∀ (fs:List Field) {off:Nat} {ks:List Srt},c5f P rec off fs=some ks →
  (∀ f∈fs,∀ ks',rec f.type=some ks'→HasS m ks' ((cs.drop f.offset).take (P.cellsOf f.type)))→HasS m ks ((cs.drop off).take ks.length)
 | [],off,ks,h,_=>by cases h;exact⟨by simp,[],rfl⟩
 | f::fs,off,ks,h,hr=>by
  simp only [c5f] at h
  cases hk:rec f.type with
  | none=>rw [hk] at h;cases h
  | some k1 =>
   rw [hk] at h
   simp only at h
   split at h
   ·rename_i hc
    obtain⟨k2,hk2,rfl⟩:=Option.map_eq_some_iff.1 h
    have h2:=civ fs hk2 fun g hg=>hr g (List.mem_cons_of_mem _ hg)
    have h1:=hr f (List.mem_cons_self ..) k1 hk
    rw [hc.1,hc.2] at h1
    have e:(cs.drop off).take (k1++k2).length=(cs.drop off).take k1.length++(cs.drop (off+k1.length)).take k2.length:=by
     rw [List.length_append,List.take_add,List.drop_drop]
    rw [e]
    exact h1.append h2
   ·cases h
theorem cg1{α:Type}{Q:Nat→α→Prop}:∀ (n:Nat),(∀ i,i<n→∃ r,Q i r)→∃ l:List α,l.length=n∧∀ (i:Nat) (r:α),l[i]? = some r→Q i r
 | 0,_=>⟨[],rfl,fun i r h=>by simp at h⟩
 | n+1,h=>by
  obtain⟨l,h1,h2⟩:=cg1 n fun i hi=>h i (by omega)
  obtain⟨r,hr⟩:=h n (by omega)
  refine⟨l++[r],by simp [h1],fun i r' hi=>?_⟩
  rw [List.getElem?_append] at hi
  split at hi
  ·exact h2 i r' hi
  ·rename_i hlt
   have:i=n:=by
    have:=(List.getElem?_eq_some_iff.1 hi).1
    simp at this
    omega
   subst this
   rw [h1,Nat.sub_self] at hi
   cases hi
   exact hr
theorem c1b{W:World}{a:Addr}{v:Value}(h:W.cell? a=some v):∃ b off arr t fr,a=⟨b,off,none⟩∧W.heap[b]? = some (.cells arr t fr):=by
 obtain⟨b,off,sp⟩:=a
 unfold World.cell? at h
 simp only at h
 split at h
 ·rename_i c t fr hc
  cases sp with
  | none=>exact⟨b,off,c,t,fr,rfl,hc⟩
  | some _=>simp at h
 ·cases h
theorem mapM_mem{α β:Type}{g:α→Option β}:∀ {l:List α} {xs:List β},l.mapM g=some xs→∀ a∈l,∃ x∈xs,g a=some x
 | [],_,_,a,ha=>by cases ha
 | b::l,xs,h,a,ha=>by
  simp only [List.mapM_cons,Option.bind_eq_bind,Option.bind_eq_some_iff,Option.pure_def,Option.some.injEq] at h
  obtain⟨y,hy,ys,hys,rfl⟩:=h
  rcases List.mem_cons.1 ha with rfl | ha
  ·exact⟨y,List.mem_cons_self ..,hy⟩
  ·obtain⟨x,hx,hgx⟩:=mapM_mem hys a ha
   exact⟨x,List.mem_cons_of_mem _ hx,hgx⟩
section
variable {H:Type} {enc:TypeId×Value→H} {W:World} {base:Nat} {held:Bool}
theorem cf3:∀ (n:Nat) {t:TypeId} {ks:List Srt},srtP P n t=some ks→∀ {fuel:Nat} {cs:List Value} {x:DataW H×List MemPlace},DataW.trod enc P W base (fun _=>true) held fuel t cs=some x→HasS (memW W) ks cs
 | 0,_,_,h,_,_,_,_=>by cases h
 | n+1,t,ks,h,fuel,cs,x,hx=>by
  simp only [srtP] at h
  split at h
  ·rename_i k hu
   cases h
   cases fuel with
   | zero=>simp [DataW.trod] at hx
   | succ m =>
    obtain⟨i,rfl,rfl,hw⟩:=DataW.trod_int hu hx
    refine⟨rfl,[.v (.int k i)],_,_,_,rfl,rfl,⟨i,rfl,rfl,?_⟩,rfl⟩
    simpa [Lit.wf,b4k] using hw
  ·rename_i hu
   cases h
   cases fuel with
   | zero=>simp [DataW.trod] at hx
   | succ m =>
    obtain⟨b,rfl⟩:∃ b,cs=[.bool b]:=by
     unfold DataW.trod at hx
     rw [hu] at hx
     split at hx<;>simp_all
    exact⟨rfl,[.v (.bool b)],_,_,_,rfl,rfl,⟨b,rfl,rfl⟩,rfl⟩
  ·rename_i hu
   cases h
   cases fuel with
   | zero=>simp [DataW.trod] at hx
   | succ m =>
    obtain⟨s,rfl,hs⟩:∃ s:ByteArray,cs=[.string s]∧s.size≤maxLen:=by
     unfold DataW.trod at hx
     rw [hu] at hx
     split at hx<;>simp_all
    exact⟨rfl,[.v (.string s)],_,_,_,rfl,rfl,⟨s,rfl,rfl,by unfold maxN;unfold maxLen at hs;omega⟩,rfl⟩
  ·rename_i e hu
   split at h
   ·rename_i ws hws
    split at h
    ·rename_i hc
     cases h
     rcases DataW.trod_slice hu hx with ⟨rfl,_⟩ | ⟨a,len,cap,elems,rest,m,_,rfl,rfl,hb,hl,hm,hlen,hel,hsp,_⟩
     ·exact⟨rfl,[.sl true []],_,_,_,rfl,rfl,.inl ⟨rfl,rfl⟩,rfl⟩
     ·obtain⟨hrl,hre⟩:=hsp rfl
      rw [hc.1] at hel hre
      have cell0:0<cap→∃ v,W.cell? a=some v:=by
       intro hcap
       have key:∀ y,((W.cells? base (a.add 0) ws.length).bind (DataW.trod enc P W base (fun _=>true) held m e))=some y→∃ v,W.cell? a=some v:=by
        intro y hy
        obtain⟨cs',hcs,_⟩:=Option.bind_eq_some_iff.1 hy
        obtain⟨_,h2,h3⟩:=World.cells?_some hcs
        have h4:=h3 0 hc.2
        rw [List.getElem?_eq_getElem (by omega)] at h4
        have e1:(a.add 0).add 0=a:=by simp [Addr.add]
        rw [e1] at h4
        exact⟨_,h4⟩
       by_cases h0:0<len
       ·have:=hel 0 h0
        rw [Nat.zero_mul,List.getElem?_eq_getElem (by omega)] at this
        exact key _ this
       ·have h0:len=0:=by omega
        have:=hre 0 (by omega)
        rw [h0,Nat.zero_add,Nat.zero_mul,List.getElem?_eq_getElem (by omega)] at this
        exact key _ this
      by_cases hcap:cap=0
      ·subst hcap
       have:len=0:=by omega
       subst this
       exact⟨rfl,[.sl false []],_,_,_,rfl,rfl,.inr (.inr ⟨a,rfl,rfl⟩),rfl⟩
      ·obtain⟨v0,hv0⟩:=cell0 (by omega)
       obtain⟨b,off,arr,tt,fr,rfl,harr⟩:=c1b hv0
       have hcell:∀ j,W.cell? ⟨b,j,none⟩=arr[j]?:=fun j=>by unfold World.cell?;simp [harr]
       obtain⟨rows,hr1,hr2⟩:=cg1 (Q:=fun i r=>RSs (memW W) ws r fun j=>arr[off+i*ws.length+j]?) len fun i hi=>by
        have h1:=hel i hi
        rw [List.getElem?_eq_getElem (by omega)] at h1
        obtain⟨cs',hcs,hy⟩:=Option.bind_eq_some_iff.1 h1
        obtain⟨_,h2,h3⟩:=World.cells?_some hcs
        obtain⟨_,ds,hds⟩:=cf3 n hws hy
        refine⟨ds,hds.congr fun j hj=>?_⟩
        have h4:=h3 j hj
        have e1:(Addr.add (Addr.add ⟨b,off,none⟩ (i*ws.length)) j)=⟨b,off+i*ws.length+j,none⟩:=by
         rw [Addr.add_lit,Addr.add_lit]
        rw [e1,hcell] at h4
        exact h4
       have hlast:off+cap*ws.length≤arr.size:=by
        have kk:∀ y,((W.cells? base ((⟨b,off,none⟩:Addr).add ((cap - 1)*ws.length)) ws.length).bind (DataW.trod enc P W base (fun _=>true) held m e))=some y→off+cap*ws.length≤arr.size:=by
         intro y hy
         obtain⟨cs',hcs,_⟩:=Option.bind_eq_some_iff.1 hy
         obtain⟨_,h2,h3⟩:=World.cells?_some hcs
         have h4:=h3 (ws.length - 1) (by omega)
         rw [List.getElem?_eq_getElem (by omega),Addr.add_lit,Addr.add_lit,hcell] at h4
         have h5:=(Array.getElem?_eq_some_iff.1 h4).1
         have h6:(cap - 1)*ws.length+ws.length=cap*ws.length:=by
          rw [← Nat.succ_mul]
          congr 1
          omega
         omega
        by_cases h0:cap - 1<len
        ·have:=hel (cap - 1) h0
         rw [List.getElem?_eq_getElem (by omega)] at this
         exact kk _ this
        ·have:=hre (cap - 1 - len) (by omega)
         rw [show len+(cap - 1 - len)=cap - 1 by omega,List.getElem?_eq_getElem (by omega)] at this
         exact kk _ this
       refine⟨rfl,[.sl false rows],_,_,_,rfl,rfl,.inr (.inl ⟨rows,b,off,cap,rfl,by rw [hr1],by rw [hr1];exact hl,hm,fun _=>⟨arr,tt,fr,⟨harr,hlast⟩,hr2⟩⟩),rfl⟩
    ·cases h
   ·cases h
  ·rename_i fs hu
   split at h
   ·rename_i ks' hks
    split at h
    ·rename_i hc
     cases h
     cases fuel with
     | zero=>simp [DataW.trod] at hx
     | succ m =>
      have hx':=hx
      unfold DataW.trod at hx'
      rw [hu] at hx'
      have hl:cs.length=P.cellsOf t∧∃ xs,fs.toList.mapM (fun f=>DataW.trod enc P W base (fun _=>true) held m f.type ((cs.drop f.offset).take (P.cellsOf f.type)))=some xs:=by
       obtain⟨xs,n',hn,hx2,hl2,hlen,hget⟩:=DataW.trod_struct hu hx
       refine⟨hl2,?_⟩
       split at hx'<;>simp_all
       obtain⟨a,h1,h2,h3⟩:=hx'
       exact⟨a,h1⟩
      obtain⟨hl,xs,hp⟩:=hl
      have:=civ (P:=P) (cs:=cs) fs.toList hks fun f hf k1 hk1=>by
        obtain⟨y,_,hfy⟩:=mapM_mem hp f hf
        exact cf3 n hk1 hfy
      rw [List.drop_zero,← hc,← hl,List.take_length] at this
      exact this
    ·cases h
   ·cases h
  ·cases h
end
end Go.Sx

namespace Go.Sx
open Go.WideShapes Go.ChangeShapes
theorem cji{W W':World}(hk:∀ k,k<W.heap.size→W'.heap[k]? = W.heap[k]?)(hos:W'.os=W.os)(hout:W'.output=W.output)(may:MemPlace→Prop):W.keptBut W' may :=
 ⟨hos,hout,fun i hi=>by rw [hk i hi];exact(World.keptBut_refl W may).2.2 i hi⟩
theorem cmk{W W':World}(hk:∀ k,k<W.heap.size→W'.heap[k]? = W.heap[k]?){a:Addr}(ha:a.block<W.heap.size):W'.frozen? a=W.frozen? a:=by
 unfold World.frozen?
 rw [hk _ ha]
theorem csc{H:Type}{enc:TypeId×Value→H}{P:Program}{f:Func}{s:ChangeSpec}{apart fresh handsOn again:Bool}{W W':World}{args:Array Value}{v:Value}{ds gs:List (DataW H)}{before pa pv:List MemPlace}
  (hW:DataW.Whole enc P f.params.toList s.vars apart W args.toList ds gs before)
  (hres:∀ (b:Nat) (sp:Nat→Bool) (hd:Bool),DataW.TrodAll enc P W' b sp hd f.resultTypes.toList (v.resultList f.resultTypes.size) (s.fn H (ds++gs)).results [])
  (hargs:∀ sp:Nat→Bool,(∀ p∈before,sp p.block=true)→DataW.TrodAll enc P W' 0 sp true f.params.toList args.toList (s.fn H (ds++gs)).args pa)
  (hvars:∀ sp:Nat→Bool,(∀ p∈before,sp p.block=true)→DataW.TrodVars enc P W' sp s.vars (s.fn H (ds++gs)).vars pv)
  (hps:before=pa++pv) (hk:∀ k,k<W.heap.size→W'.heap[k]? = W.heap[k]?) (hos:W'.os=W.os) (hout:W'.output=W.output)
  (hok:∀ (j:Nat) (t:TypeId) (r:Value),f.resultTypes[j]? = some t→(v.resultList f.resultTypes.size)[j]? = some r→Value.okWide P W' .any 0 t r) :
  s.post enc P f apart fresh handsOn again W args v W':=by
 have hold:∀ p∈before,(fun b=>decide (b<W.heap.size)) p.block=true:=fun p hp=>by simpa using hW.lt p hp
 have hlt:∀ p∈before,p.block<W.heap.size:=fun p hp=>hW.lt p hp
 refine⟨ds,gs,before,[],pa,pv,hW,hres _ _ _,hargs _ hold,hvars _ hold,World.keptBut_mono (fun p hp=>⟨hp,?_⟩) (cji hk hos hout (·∈before)),fun _=>?_⟩
 ·rw [hps,List.mem_append] at hp
  exact Or.inr hp
 ·obtain⟨_,_,_,_,_,hz,hn⟩:=hW
  refine⟨hok,_,_,([]++pa)++pv,⟨[]++pa,pv,trodAll_append (hargs _ (fun _ _=>rfl)) (hres _ _ _),hvars _ (fun _ _=>rfl),rfl,?_,?_⟩,?_⟩
  ·intro b off hp
   have hp':MemPlace.cell b off∈before:=by rw [hps];simpa using hp
   rw [cmk hk (show(⟨b,off,none⟩:Addr).block<W.heap.size from hlt _ hp')]
   exact hz b off hp'
  ·intro ha
   have:=hn ha
   rw [hps] at this
   simpa using this
  ·intro p hp _
   rw [hps]
   simpa using hp
section
variable {H:Type} {enc:TypeId×Value→H} {P:Program} {W W':World} {base:Nat} {sp:Nat→Bool} {held:Bool}
theorem cvp(hk:∀ k,k<W.heap.size→W'.heap[k]? = W.heap[k]?):∀ (n:Nat) (t:TypeId) (cs:List Value) (x:DataW H×List MemPlace),DataW.trod enc P W base sp held n t cs=some x→DataW.trod enc P W' base sp held n t cs=some x
 | 0,_,_,_,h=>by simp [DataW.trod] at h
 | n+1,t,cs,x,h=>by
  have hlt:=DataW.trod_lt (n+1) t cs x h
  rw [DataW.trod_step] at h ⊢
  refine DataW.trodStep_carry (fun t cs x hx _=>cvp hk n t cs x hx) h fun p hp=>?_
  have hb:=hlt p hp
  cases p with
  | cell b off =>
   show W'.cell? ⟨b,off,none⟩=W.cell? ⟨b,off,none⟩
   unfold World.cell?
   rw [hk b hb]
  | map b=>exact hk b hb
theorem Trod.old(hk:∀ k,k<W.heap.size→W'.heap[k]? = W.heap[k]?){t:TypeId}{v:Value}{d:DataW H}{ps:List MemPlace}(h:DataW.Trod enc P W base sp held t v d ps):DataW.Trod enc P W' base sp held t v d ps:=by
 obtain⟨n,hn⟩:=h
 exact⟨n,cvp hk n _ _ _ hn⟩
theorem TrodAll.old(hk:∀ k,k<W.heap.size→W'.heap[k]? = W.heap[k]?):∀ {ts:List TypeId} {vs:List Value} {ds:List (DataW H)} {ps:List MemPlace},DataW.TrodAll enc P W base sp held ts vs ds ps→DataW.TrodAll enc P W' base sp held ts vs ds ps
 | [],[],[],_,h=>h
 | _::_,_::_,_::_,_,⟨p,q,h1,h2,e⟩=>⟨p,q,Trod.old hk h1,TrodAll.old hk h2,e⟩
end
end Go.Sx

namespace Go.Proofs.Ytlbbkmcegbeckaa
open Go.ChangeShapes Go.WideShapes Go.ChangeAt Go.RowKit Go.Sx
theorem own:ownKnob Try.prog.godebug=none:=by kernel_rfl
theorem kids:Kids Try.prog (· < Try.prog.types.size):=kids_rows (by kernel_rfl) (by kernel_rfl)
theorem full:∀ t e,t<Try.prog.types.size→Try.prog.underlying t=some (.slice e)→0<Try.prog.cellsOf e:=slices_full_of Try.prog (by kernel_rfl)
theorem dd6:srtP Try.prog 6 22=some [sLev]:=by kernel_rfl
theorem da2:srtP Try.prog 6 25=some [sB]:=by kernel_rfl
theorem runT:srtP Try.prog 6 27=some sRun:=by kernel_rfl
theorem c74{w w':World}(h:Below w.heap.size w w'):Keep w w':=⟨h.block,h.size,h.os,h.tape,h.output⟩
theorem c0x{m:Mem}:∀ {ss:List Srt} {row:List CD} {f:Nat→Option Value},RSs m ss row f→row.length=ss.length
 | [],row,f,h=>by rw [show row=[] from h];rfl
 | s::ss,row,f,⟨c,r,u,e,_,_,h⟩=>by rw [e,List.length_cons,c0x h,List.length_cons]
theorem csh{H:Type}{enc:TypeId×Value→H}{W:World}{v:Value}{d:DataW H}{ps:List MemPlace}{t:TypeId}{s:Srt}(hs:srtP Try.prog 6 t=some [s])(h:DataW.Trod enc Try.prog W 0 (fun _=>true) true t v d ps)(hv:∃ a n c,v=.slice a n c):∃ e:CD,RS (Go.Sx.memW W) s e v:=by
 obtain⟨fuel,hf⟩:=h
 obtain⟨a,n,c,rfl⟩:=hv
 obtain⟨_,ds,e,r,u,_,h2,h3,_⟩:=cf3 6 hs hf
 cases h2
 exact⟨e,h3⟩
theorem c5a{H:Type}{enc:TypeId×Value→H}{W:World}{v:Value}{d:DataW H}{ps:List MemPlace}(h:DataW.Trod enc Try.prog W 0 (fun _=>true) true 27 v d ps)(hv:∃ cs,v=.agg cs):∃ d0 d1 d2 d3 d4:CD,b5z (Go.Sx.memW W) (true,sRun) [d0,d1,d2,d3,d4] v:=by
 obtain⟨fuel,hf⟩:=h
 obtain⟨cs,rfl⟩:=hv
 obtain⟨hl,ds,hd⟩:=cf3 6 runT hf
 have hl:cs.toList.length=5:=hl
 have hlen:=c0x hd
 match ds,hlen,hd with
 | [d0,d1,d2,d3,d4],_,hd =>
  refine⟨d0,d1,d2,d3,d4,cs,rfl,by simpa using hl,?_⟩
  have e:(fun j:Nat=>cs.toList[j]?)=fun j:Nat=>cs[j]?:=by
   funext j
   simp
  rw [← e]
  exact hd
set_option maxRecDepth 100000 in
theorem cdl(os:Os)(started:os.Started)(H:Type)(enc:TypeId×Value→H) :
  ReturnsInHanded {} Try.checked os 3 .any (Rows.levelTellsSpec.pre6 enc Try.prog Try.f3 Rows.levelTellsRow.domain false) (Rows.levelTellsSpec.post enc Try.prog Try.f3 false true false false):=by
 refine returnsInHanded_of_change (C:=Try.checked) own started (by kernel_rfl) Try.func3
  (ChangeSpec.witness6 (enc:=enc) (C:=Try.checked) false ⟨#[],#[.slice none 0 0,.agg #[.int .i64 0,.int .i64 0,.int .i64 0,.slice none 0 0,.slice none 0 0],.slice none 0 0,.slice none 0 0],[]⟩ 8 (by kernel_rfl) (by kernel_rfl) (by kernel_rfl) (by kernel_rfl)) ?_
 intro W base args ds gs before hval0 hW hcnd _
 have hval:∀ (j:Nat) t v,Try.f3.params[j]? = some t→args[j]? = some v→Value.okWide Try.prog W .any base t v:=hval0
 have hW':=hW
 obtain⟨p,q,hA0,hV,rfl,hfz,hnd⟩:=hW
 have hA:DataW.TrodAll enc Try.prog W 0 (fun _=>true) true Try.f3.params.toList args.toList ds p:=hA0
 have hAk:=hA
 rw [Try.params3] at hA hval
 obtain⟨v0,vs0,d0,ds0,p0,q0,hargs,rfl,rfl,h0,r0⟩:=trodAll_cons hA
 obtain⟨v1,vs1,d1,ds1,p1,q1,rfl,rfl,rfl,h1,r1⟩:=trodAll_cons r0
 obtain⟨v2,vs2,d2,ds2,p2,q2,rfl,rfl,rfl,h2,r2⟩:=trodAll_cons r1
 obtain⟨v3,vs3,d3,ds3,p3,q3,rfl,rfl,rfl,h3,r3⟩:=trodAll_cons r2
 obtain⟨rfl,rfl,rfl⟩:=trodAll_nil r3
 obtain rfl:args = #[v0,v1,v2,v3]:=by cases args;simp_all
 obtain⟨rfl,rfl⟩:=trodVars_none hV
 obtain⟨L,hL⟩:=csh dd6 h0 (okWide_slice Try.underlying22 (hval 0 22 v0 rfl rfl))
 obtain⟨cs,hcs,_⟩:=okWide_struct Try.underlying27 (hval 1 27 v1 rfl rfl)
 obtain⟨r0',r1',r2',r3',r4',hr⟩:=c5a h1 ⟨cs,hcs⟩
 obtain⟨F,hF⟩:=csh da2 h2 (okWide_slice Try.underlying25 (hval 2 25 v2 rfl rfl))
 obtain⟨T,hT⟩:=csh da2 h3 (okWide_slice Try.underlying25 (hval 3 25 v3 rfl rfl))
 clear hA0 hval0
 simp only [List.append_nil] at hW'
 refine(csz hL hr hF hT).mono fun e W' ⟨he,hg0⟩=>?_
 have hg:=c74 hg0
 subst he
 exact⟨_,rfl,csc (pv:=[]) hW' (fun _ _ _=>(trodAll_cons_mk (shut_bool Try.underlying4 _) trodAll_mk0)) (fun sp hsp=>TrodAll.old hg.old (DataW.TrodAll.respare kids full (by rw [Try.params3];decide +kernel) hAk (fun p hp=>hsp p (by simpa using hp)))) (fun _ _=>rfl) (by simp)
  hg.old hg.os hg.output (ok_one (by kernel_rfl) rfl (okWide_bool_mk Try.underlying4 _))⟩
theorem levelTells:Rows.LevelTellsSaid :=
 OpenClaim.holds_of_wide 3 Try.f3 rfl rfl rfl rfl rfl rfl rfl ⟨rfl,rfl,rfl,rfl,rfl⟩ rfl rfl rfl rfl rfl (by kernel_rfl) Try.func3 (by kernel_rfl)
  (of_decide_eq_true (by kernel_rfl)) (by unfold Func.isWrapper;first | (rw [if_pos (by decide +kernel)];kernel_rfl) | (rw [if_neg (by decide +kernel)];exact⟨rfl,rfl⟩))
  (fun os started H enc _=>cdl os started H enc)
#print axioms levelTells
end Go.Proofs.Ytlbbkmcegbeckaa
