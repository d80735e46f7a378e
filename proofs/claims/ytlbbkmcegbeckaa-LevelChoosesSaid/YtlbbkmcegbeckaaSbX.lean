/-
  Results written over. Conditions: none.
-/
import Derived.Test.YtlbbkmcegbeckaaSbQ
import Derived.Lib.LazyBuf
set_option linter.all false
set_option maxRecDepth 100000
noncomputable section
namespace Go.Proofs.Ytlbbkmcegbeckaa
open Go.Sx Go.Proofs Go.RowKit Go.Lib
theorem bwq:(Try.prog.info? 36).map (fun i=>(i.zero,i.size,i.bytes))=some (some nilV,1,24):=by kernel_rfl
theorem t22:Try.prog.underlying 22=some (.slice 36):=by kernel_rfl
set_option maxHeartbeats 1000000 in
theorem a9m{w:World}{b:Nat}{x0 x1 x2 x3:Value}{t:TypeId}{c:Nat}(h:w.heap[b]? = some (.cells #[x0,x1,x2,x3] t (0,0)))(h0:x0.oneCell'=true)(h1:x1.oneCell'=true)(h2:x2.oneCell'=true)(h3:x3.oneCell'=true) :
  Calls Try.prog 98 #[.slice (some ⟨b,0,none⟩) 4 c] w fun e w'=>∃ k cap arr,e=.returned (.slice (some ⟨k,0,none⟩) 4 cap)∧Below w.heap.size w w'∧w.heap.size≤k∧4≤cap∧cap≤maxLen∧w'.heap[k]? = some (.cells (#[x0,x1,x2,x3]++arr) 36 (0,0))∧arr.size=cap - 4∧∀ (j:Nat) (u:Value),arr[j]? = some u→u=nilV:=by
 obtain⟨i0,hi0,hz0,hzs,hzb⟩:=info_parts bwq
 have HH:=hidj h
 have hnil:∀ W:World,(binOp .eql 22 (.slice (some ⟨b,0,none⟩) 4 c) nilV).run Try.prog W=.ok (.bool false) W:=fun W=>Lib.run_eql_slice_nil W 22 36 (some ⟨b,0,none⟩) 4 c 0 0 t22
 obtain⟨W1,hW1⟩:∃ W1,W1=w.alloc (.cells #[] 36 (0,0)):=⟨_,rfl⟩
 have hbw:b<w.heap.size:=(Ga.1 HH.out).1
 have hb1:Below w.heap.size w W1:=by rw [hW1];exact(Below.refl _ w).alloc (Rl _) _
 have hs1:W1.heap.size=w.heap.size+1:=by rw [hW1];show(w.heap.push _).size=_;rw [Array.size_push]
 obtain⟨q0,q1,q2,q3⟩:=acp ((hb1.block b hbw).trans HH.out)
 have hsrc:Src Try.prog i0.size 22 (.slice (some ⟨b,0,none⟩) 4 c) 4 [x0,x1,x2,x3] W1:=Src.ofSlice W1 t22 ⟨b,0,none⟩ 4 c [x0,x1,x2,x3] (by rw [hzs];rfl) (fun j u hj=>by
  rw [Addr.add_lit,Nat.zero_add]
  match j,hj with
  | 0,hj=>cases hj;exact q0
  | 1,hj=>cases hj;exact q1
  | 2,hj=>cases hj;exact q2
  | 3,hj=>cases hj;exact q3) (fun u hu=>by
  simp only [Mn,List.not_mem_nil,or_false] at hu
  rcases hu with rfl | rfl | rfl | rfl
  ·exact h0
  ·exact h1
  ·exact h2
  ·exact h3)
 have hold:(Builtin.firstCells i0.size 0 (.slice (some ⟨w.heap.size,0,none⟩) 0 0)).run Try.prog W1.drew=.ok ([]:List Value).toArray W1.drew:=run_firstCells_some W1.drew i0.size 0 ⟨w.heap.size,0,none⟩ 0 0 [] (by simp) (fun j v hj=>by simp at hj)
 have hrun:∀ ty,(Builtin.append_ #[22,22] ty #[.slice (some ⟨w.heap.size,0,none⟩) 0 0,.slice (some ⟨b,0,none⟩) 4 c]).run Try.prog W1=.ok (.slice (some ⟨W1.heap.size,0,none⟩) 4 (grownCap W1 4 0 36)) (W1.drew.alloc (.cells (#[x0,x1,x2,x3]++Builtin.zeroCells nilV.cells (grownCap W1 4 0 36 - 4)) 36)):=fun ty=>by
  have h:=run_append_grow_src W1 22 22 ty 36 i0 _ t22 hi0 hz0 (some ⟨w.heap.size,0,none⟩) 0 0 [] hold _ 4 [x0,x1,x2,x3] hsrc (by omega) (by omega) (by rw [hzb];exact growslice_fits (need:=0+4) (by omega) (by omega))
  simpa using h
 have hg:=grownCap_ge W1 4 0 36
 have hgx:=grownCap_le_maxLen W1 4 0 36 (by unfold maxLen;omega)
 generalize grownCap W1 4 0 36=G at *
 subst hW1
 go_enter Try.func98,Try.ntmps98
 go_wp2_with (at_builtin;refine Lib.wpList_append_run _ rfl _ _ _ _ rfl _ _ rfl rfl _ _ (hrun _) ?_)
 go_returns
 refine⟨_,_,Builtin.zeroCells #[nilV] (G - 4),rfl,hb1.drew.alloc hb1.size _,by have:=hs1;omega,hg,hgx,?_,?_,fun j u hj=>?_⟩
 ·show((w.heap.push _).push _)[w.heap.size+1]? = _
  rw [Array.getElem?_push,if_pos (by rw [Array.size_push])]
 ·unfold Builtin.zeroCells
  rw [Array.size_map,Array.size_range]
  exact Nat.mul_one _
 ·unfold Builtin.zeroCells at hj
  rw [Array.getElem?_map] at hj
  obtain⟨i,hi,rfl⟩:=Option.map_eq_some_iff.1 hj
  show(#[nilV])[i % 1]! = nilV
  rw [Nat.mod_one]
  rfl
structure Told (w w':World) (x0 x1 x2 x3 s:Value):Prop where
 below:Below w.heap.size w w'
 at':∃ k cap arr,s=.slice (some ⟨k,0,none⟩) 4 cap∧w.heap.size≤k∧4≤cap∧cap≤maxLen∧w'.heap[k]? = some (.cells (#[x0,x1,x2,x3]++arr) 36 (0,0))∧arr.size=cap - 4∧∀ (j:Nat) (u:Value),arr[j]? = some u→u=nilV
set_option maxHeartbeats 1000000 in
theorem azx{w:World}{a0 a1 a2 a3:Option Addr}{n0 n1 n2 n3 c0 c1 c2 c3:Nat} :
  Calls Try.prog 51 #[.agg #[.slice a0 n0 c0,.slice a1 n1 c1,.slice a2 n2 c2,.slice a3 n3 c3]] w fun e w'=>∃ s,e=.returned s∧Told w w' (.slice a0 n0 c0) (.slice a1 n1 c1) (.slice a2 n2 c2) (.slice a3 n3 c3) s:=by
 have hob:(w.alloc (.cells #[.slice a0 n0 c0,.slice a1 n1 c1,.slice a2 n2 c2,.slice a3 n3 c3] 78 (0,0))).heap[w.heap.size]? = some (.cells #[.slice a0 n0 c0,.slice a1 n1 c1,.slice a2 n2 c2,.slice a3 n3 c3] 78 (0,0)):=by
  show(w.heap.push _)[w.heap.size]? = _
  rw [Array.getElem?_push,if_pos rfl]
 have HO:=hidj hob
 clear hob
 go_enter Try.func51,Try.ntmps51
 go_wp2_with fail
 refine(a9m HO.out rfl rfl rfl rfl).mono ?_
 rintro e w2 ⟨k,cap,arr,rfl,hb,hk,h4,hm,hh,ha,hz⟩
 go_wp2_with fail
 go_returns
 have hs:(w.alloc (.cells #[.slice a0 n0 c0,.slice a1 n1 c1,.slice a2 n2 c2,.slice a3 n3 c3] 78 (0,0))).heap.size=w.heap.size+1:=by
  show(w.heap.push _).size=_
  rw [Array.size_push]
 exact⟨_,rfl,((Below.refl _ w).alloc (Rl _) _).trans (hb.mono (by omega)),k,cap,arr,rfl,by omega,h4,hm,hh,ha,hz⟩
theorem bjz{w w':World}{M:Mem}{x0 x1 x2 x3 s:Value}{d0 d1 d2 d3:CD}(h:Told w w' x0 x1 x2 x3 s)(hM:∀ k o,w.heap.size≤k→w'.heap[k]? = some o→Nice o→M k o)(h0:RS M sR d0 x0)(h1:RS M sR d1 x1)(h2:RS M sR d2 x2)(h3:RS M sR d3 x3):RS M sLev (.sl false [[d0],[d1],[d2],[d3]]) s:=by
 obtain⟨k,cap,arr,rfl,hk,h4,hm,hh,ha,hz⟩:=h.at'
 have hno8:∀ (j:Nat) (u:Value),(#[x0,x1,x2,x3]++arr)[j]? = some u→is8 u=false:=fun j u hj=>by
  haveI:Sg:=sg0
  match j,hj with
  | 0,hj=>rw [Array.getElem?_append_left (by simp)] at hj;cases hj;exact h0.is8
  | 1,hj=>rw [Array.getElem?_append_left (by simp)] at hj;cases hj;exact h1.is8
  | 2,hj=>rw [Array.getElem?_append_left (by simp)] at hj;cases hj;exact h2.is8
  | 3,hj=>rw [Array.getElem?_append_left (by simp)] at hj;cases hj;exact h3.is8
  | j+4,hj =>
   rw [Array.getElem?_append_right (by simp)] at hj
   rw [hz _ _ hj]
   rfl
 have hN:Nice (.cells (#[x0,x1,x2,x3]++arr) 36 (0,0)):=⟨_,_,_,rfl,.inl rfl,false,hno8⟩
 have g0:(#[x0,x1,x2,x3]++arr)[0]? = some x0:=by rw [Array.getElem?_append_left (by simp)];rfl
 have g1:(#[x0,x1,x2,x3]++arr)[1]? = some x1:=by rw [Array.getElem?_append_left (by simp)];rfl
 have g2:(#[x0,x1,x2,x3]++arr)[2]? = some x2:=by rw [Array.getElem?_append_left (by simp)];rfl
 have g3:(#[x0,x1,x2,x3]++arr)[3]? = some x3:=by rw [Array.getElem?_append_left (by simp)];rfl
 rw [a15] at hm
 refine .inr (.inl ⟨_,k,0,cap,rfl,rfl,h4,hm,fun _=>⟨_,_,_,⟨hM _ _ hk hh hN,?_⟩,fun i row hi=>?_⟩⟩)
 ·rw [Array.size_append,ha]
  show 0+cap*1≤4+(cap - 4)
  omega
 ·match i,hi with
  | 0,hi=>cases hi;exact⟨_,_,x0,rfl,g0,h0,rfl⟩
  | 1,hi=>cases hi;exact⟨_,_,x1,rfl,g1,h1,rfl⟩
  | 2,hi=>cases hi;exact⟨_,_,x2,rfl,g2,h2,rfl⟩
  | 3,hi=>cases hi;exact⟨_,_,x3,rfl,g3,h3,rfl⟩
theorem bsq{m:Mem}{r0 r1 r2 r3 r4:CD}{u:Value}(h:afi m (true,sRun) [r0,r1,r2,r3,r4] u):∃ (n0 n1 n2:Int) (a3:Option Addr) (n3 c3:Nat) (a4:Option Addr) (n4 c4:Nat),u=.agg #[.int .i64 n0,.int .i64 n1,.int .i64 n2,.slice a3 n3 c3,.slice a4 n4 c4]∧RSs m sRun [r0,r1,r2,r3,r4] fun j=>[Value.int .i64 n0,.int .i64 n1,.int .i64 n2,.slice a3 n3 c3,.slice a4 n4 c4][j]?:=by
 obtain⟨us,rfl,hs,h⟩:=h
 have h':=h
 obtain⟨c0,q0,u0,e0,f0,⟨n0,g0,k0,_⟩,c1,q1,u1,e1,f1,⟨n1,g1,k1,_⟩,c2,q2,u2,e2,f2,⟨n2,g2,k2,_⟩,c3,q3,u3,e3,f3,g3,c4,q4,u4,e4,f4,g4,e5⟩:=h
 obtain⟨a3,n3,p3,k3⟩:=abe g3
 obtain⟨a4,n4,p4,k4⟩:=abe g4
 subst k0;subst k1;subst k2;subst k3;subst k4
 have hl:us.size=5:=hs
 have e:us = #[.int .i64 n0,.int .i64 n1,.int .i64 n2,.slice a3 n3 p3,.slice a4 n4 p4]:=by
  apply Array.ext_getElem?
  intro j
  match j with
  | 0=>exact f0
  | 1=>exact f1
  | 2=>exact f2
  | 3=>exact f3
  | 4=>exact f4
  | j+5=>rw [Array.getElem?_eq_none (by omega),Array.getElem?_eq_none (by show 5≤j+5;omega)]
 refine⟨n0,n1,n2,a3,n3,p3,a4,n4,p4,by rw [e],h'.congr fun j _=>?_⟩
 show _=us[j]?
 rw [e,List.getElem?_toArray]
structure AddI (w wr:World) (L:CD) (B:Nat) (r:List Value) (x0 x1 x2 x3:Value):Prop where
 below:Below w.heap.size w wr
 box:wr.heap[w.heap.size]? = some (.cells r.toArray 27 (0,0))
 arr:wr.heap[B]? = some (.cells #[x0,x1,x2,x3] 78 (0,0))
 regs:∃ p1 p2 p3,w.heap.size+1≤p1∧p1≤p2∧p2≤p3∧p3≤B∧RS (nm (w.heap.size+1) p1 wr) sR (levD L 0) x0∧RS (nm p1 p2 wr) sR (levD L 1) x1∧RS (nm p2 p3 wr) sR (levD L 2) x2∧RS (nm p3 B wr) sR (levD L 3) x3
theorem aze{w w1 w2:World}{L:CD}{r:List Value}{x0 x1 x2 x3:Value}(h1:w1=w.alloc (.cells r.toArray 27 (0,0)))(h:FourP w1 w2 L x0 x1 x2 x3) :
  AddI w (w2.alloc (.cells #[x0,x1,x2,x3] 78 (0,0))) L w2.heap.size r x0 x1 x2 x3:=by
 have hs1:w1.heap.size=w.heap.size+1:=by rw [h1];show(w.heap.push _).size=_;rw [Array.size_push]
 have hb1:Below w.heap.size w w1:=by rw [h1];exact(Below.refl _ w).alloc (Rl _) _
 have hb2:Below w.heap.size w w2:=hb1.trans (h.below.mono (by omega))
 have hsz:=h.below.size
 have hkeep:∀ k,k<w2.heap.size→(w2.alloc (.cells #[x0,x1,x2,x3] 78 (0,0))).heap[k]? = w2.heap[k]?:=fun k hk=>Below.heap_alloc w2 _ k hk
 obtain⟨p0,p1,p2,p3,l0,l1,l2,l3,l4,r0,r1,r2,r3⟩:=h.regs
 have hw:w.heap.size≤w2.heap.size:=hb2.size
 refine⟨hb2.alloc hw _,?_,?_,p1,p2,p3,by omega,l2,l3,l4,?_,?_,?_,?_⟩
 ·rw [hkeep _ (by omega),h.below.block _ (by omega),h1]
  show(w.heap.push _)[w.heap.size]? = _
  rw [Array.getElem?_push,if_pos rfl]
 ·show(w2.heap.push _)[w2.heap.size]? = _
  rw [Array.getElem?_push,if_pos rfl]
 ·exact(r0.mono (ade (fun k _ hk=>hkeep k (by omega)) (Rl _))).mono fun k o hk=>⟨by have:=hk.1;omega,hk.2⟩
 ·exact r1.mono (ade (fun k _ hk=>hkeep k (by omega)) (Rl _))
 ·exact r2.mono (ade (fun k _ hk=>hkeep k (by omega)) (Rl _))
 ·exact r3.mono (ade (fun k _ hk=>hkeep k hk) (Rl _))
theorem apt{w wr w':World}{L:CD}{B:Nat}{r:List Value}{x0 x1 x2 x3:Value}(h:AddI w wr L B r x0 x1 x2 x3)(hb:Below wr.heap.size wr w'):AddI w w' L B r x0 x1 x2 x3:=by
 have hB:B<wr.heap.size:=(Ga.1 h.arr).1
 have hx:w.heap.size<wr.heap.size:=(Ga.1 h.box).1
 obtain⟨p1,p2,p3,l1,l2,l3,l4,r0,r1,r2,r3⟩:=h.regs
 exact⟨h.below.trans (hb.mono (by omega)),(hb.block _ hx).trans h.box,(hb.block _ hB).trans h.arr,p1,p2,p3,l1,l2,l3,l4,r0.mono (ade (fun k _ hk=>hb.block k (by omega)) (Rl _)),r1.mono (ade (fun k _ hk=>hb.block k (by omega)) (Rl _)),r2.mono (ade (fun k _ hk=>hb.block k (by omega)) (Rl _)),r3.mono (ade (fun k _ hk=>hb.block k (by omega)) (Rl _))⟩
theorem a4t{w wr w':World}{L:CD}{B:Nat}{r:List Value}{x0 x1 x2 x3:Value}(h:AddI w wr L B r x0 x1 x2 x3)(hk:Keep wr w'):AddI w w' L B r x0 x1 x2 x3:=apt h (aaz hk)
theorem a9j{w:World}{B:Nat}{x0 x1 x2 x3 x4:Value}{t:TypeId}(h:w.heap[B]? = some (.cells #[x0,x1,x2,x3,x4] t (0,0))):w.cell? ⟨B,0,none⟩=some x0∧w.cell? ⟨B,1,none⟩=some x1∧w.cell? ⟨B,2,none⟩=some x2∧w.cell? ⟨B,3,none⟩=some x3∧w.cell? ⟨B,4,none⟩=some x4:=by
 haveI:Sg:=sg0
 exact⟨by rw [cell?_of h];rfl,by rw [cell?_of h];rfl,by rw [cell?_of h];rfl,by rw [cell?_of h];rfl,by rw [cell?_of h];rfl⟩
theorem bu5{L:CD}{r:List CD}(h:atx L r=false):addN L r=2∧addD L r=.sl true []:=by
 unfold addN addD
 rw [h]
 exact⟨rfl,rfl⟩
set_option maxHeartbeats 400000 in
theorem blj{w:World}{L r0 r1 r2 r3 r4:CD}{u v:Value}(h:RS (memW w) sLev L u)(hs:small L)(hv:afi (memW w) (true,sRun) [r0,r1,r2,r3,r4] v)(ho:atx L [r0,r1,r2,r3,r4]=false) :
  Calls Try.prog 10 #[u,v] w fun e w'=>e=.returned (.tuple #[nilV,.int .i64 2])∧Below w.heap.size w w':=by
 obtain⟨n0,n1,n2,a3,n3,c3,a4,n4,c4,rfl,hrow⟩:=bsq hv
 have HH:=hidj h
 have HV:=hidj hv
 have HS:=hidj hs
 obtain⟨w1,hw1⟩:∃ w1,w1=w.alloc (.cells #[.int .i64 n0,.int .i64 n1,.int .i64 n2,.slice a3 n3 c3,.slice a4 n4 c4] 27 (0,0)):=⟨_,rfl⟩
 have HB:=hidj (show Below w.heap.size w w1 by rw [hw1];exact(Below.refl _ w).alloc (Rl _) _)
 have HR:=hidj (h.mono fun k o hk=>(HB.out.block k (Ga.1 hk).1).trans hk)
 have HW:=hidj hw1
 clear h hv hs hrow
 by_cases hok:aam L=true
 ·have hmay:afe [r0,r1,r2,r3,r4]=false:=by
   unfold atx at ho
   rw [hok,Bool.true_and] at ho
   exact ho
  go_enter Try.func10,Try.ntmps10
  go_wp2_with fail
  rw [← HW.out]
  refine(agp HR.out HS.out hok).mono ?_
  rintro e w2 ⟨x0,x1,x2,x3,rfl,hp⟩
  obtain⟨_,_,_,_,_,_,_,_,_,q0,q1,q2,q3⟩:=hp.regs
  obtain⟨b0,m0,d0,rfl⟩:=abe q0
  obtain⟨b1,m1,d1,rfl⟩:=abe q1
  obtain⟨b2,m2,d2,rfl⟩:=abe q2
  obtain⟨b3,m3,d3,rfl⟩:=abe q3
  clear q0 q1 q2 q3
  have HA:=hidj (aze (r:=[.int .i64 n0,.int .i64 n1,.int .i64 n2,.slice a3 n3 c3,.slice a4 n4 c4]) HW.out hp)
  clear hp
  obtain⟨z0,z1,z2,z3,z4⟩:=a9j HA.out.box
  go_wp2_with fail
  refine(a6n (HV.out.mono fun k o hk=>(HA.out.below.block k (Ga.1 hk).1).trans hk)).mono ?_
  rintro e w3 ⟨rfl,hk3⟩
  rw [hmay]
  go_wp2_with fail
  go_returns
  exact⟨rfl,(a4t HA.out hk3).below⟩
 ·go_enter Try.func10,Try.ntmps10
  go_wp2_with fail
  rw [← HW.out]
  refine(avw HR.out hok).mono ?_
  rintro e w2 ⟨rfl,hb⟩
  go_wp2_with fail
  go_returns
  have hs1:w1.heap.size=w.heap.size+1:=by rw [HW.out];show(w.heap.push _).size=_;rw [Array.size_push]
  exact⟨rfl,(HB.out.trans (hb.mono (by omega))).alloc (Nat.le_trans HB.out.size hb.size) _⟩
theorem bmq{L:CD}(hs:small L)(hT:Typ sLev L):(L.cell 0 0).rows.length≤1000:=by
 by_cases h:(0:Int)<L.len
 ·have h1:=agr hs hT (Int.le_refl 0) h
  have h2:=(hT.cell (i:=0) (j:=0) (Int.le_refl 0) h rfl).sl.1
  omega
 ·rw [agt hT (Int.le_refl 0) h]
  exact Nat.zero_le _
structure AddJ (w wr:World) (L:CD) (B p1 p2 p3:Nat) (r:List CD) (s x1 x2 x3:Value):Prop where
 below:Below w.heap.size w wr
 ord:w.heap.size<p1∧p1≤p2∧p2≤p3∧p3≤B
 arr:wr.heap[B]? = some (.cells #[s,x1,x2,x3] 78 (0,0))
 r0:RS (fun k o=>((w.heap.size≤k∧k<p1)∨B<k)∧wr.heap[k]? = some o∧Nice o) sR (.sl false (r::(L.cell 0 0).rows)) s
 r1:RS (nm p1 p2 wr) sR (levD L 1) x1
 r2:RS (nm p2 p3 wr) sR (levD L 2) x2
 r3:RS (nm p3 B wr) sR (levD L 3) x3
set_option maxHeartbeats 1000000 in
theorem bqy{w w3 w4 w5 W5:World}{L:CD}{B p1 p2 p3:Nat}{r:List Value}{row:List CD}{x0 x1 x2 x3 s:Value}(h:AddI w W5 L B r x0 x1 x2 x3)(l1:w.heap.size+1≤p1)(l2:p1≤p2)(l3:p2≤p3)(l4:p3≤B)(h1:RS (nm p1 p2 W5) sR (levD L 1) x1)(h2:RS (nm p2 p3 W5) sR (levD L 2) x2)(h3:RS (nm p3 B W5) sR (levD L 3) x3)
  (hB3:B<w3.heap.size) (h34:Below w3.heap.size w3 w4) (h45:Below w4.heap.size w4 W5) (hb5:Below (w.heap.size+1) W5 w5) (hk5:∀ k,p1≤k→k<W5.heap.size→w5.heap[k]? = W5.heap[k]?)
  (hM:∀ M:Mem,(∀ k o,nm w3.heap.size w4.heap.size w4 k o→M k o)→(∀ k o,w.heap.size+1≤k→(k<p1∨W5.heap.size≤k)→w5.heap[k]? = some o→Nice o→M k o)→RS M sR (.sl false (row::(L.cell 0 0).rows)) s) :
  AddJ w (w5.setCell ⟨B,0,none⟩ s) L B p1 p2 p3 row s x1 x2 x3:=by
 have hne:∀ k,k≠B→(w5.setCell ⟨B,0,none⟩ s).heap[k]? = w5.heap[k]?:=fun k hk=>Below.heap_setCell w5 ⟨B,0,none⟩ s k hk
 have hs4:=h34.size
 have hs5:=h45.size
 have hBW:B<W5.heap.size:=(Ga.1 h.arr).1
 have tr:∀ k,p1≤k→k<B→(w5.setCell ⟨B,0,none⟩ s).heap[k]? = W5.heap[k]?:=fun k a b=>by rw [hne k (by omega),hk5 k a (by omega)]
 refine⟨(h.below.trans (hb5.mono (by omega))).setCell (p:=⟨B,0,none⟩) (by show w.heap.size≤B;omega) _,by omega,?_,hM _ (fun k o ⟨a,b,c,d⟩=>⟨.inr (by omega),?_,d⟩) (fun k o a b c d=>⟨by omega,by rw [hne k (by omega)];exact c,d⟩),h1.mono (ade (fun k a b=>tr k a (by omega)) (Rl _)),h2.mono (ade (fun k a b=>tr k (by omega) (by omega)) (Rl _)),h3.mono (ade (fun k a b=>tr k (by omega) b) (Rl _))⟩
 ·rw [heap_setCell_same w5 B 0 _ _ s ((hk5 B (by omega) hBW).trans h.arr)]
  rfl
 ·rw [hne k (by omega),hk5 k (by omega) (by omega),h45.block k b]
  exact c
def Apart(w w':World)(d0 d1 d2 d3:CD)(s:Value):Prop:=∃ (kx cap:Nat) (arr:Array Value) (x0 x1 x2 x3:Value) (A:Nat→Nat→Prop),s=.slice (some ⟨kx,0,none⟩) 4 cap∧w'.heap[kx]? = some (.cells (#[x0,x1,x2,x3]++arr) 36 (0,0))∧w.heap.size≤kx∧(∀ j k,A j k→w.heap.size≤k∧k≠kx)∧(∀ i j k,A i k→A j k→i=j) ∧
 RS (fun k o=>A 0 k∧w'.heap[k]? = some o∧Nice o) sR d0 x0∧RS (fun k o=>A 1 k∧w'.heap[k]? = some o∧Nice o) sR d1 x1∧RS (fun k o=>A 2 k∧w'.heap[k]? = some o∧Nice o) sR d2 x2∧RS (fun k o=>A 3 k∧w'.heap[k]? = some o∧Nice o) sR d3 x3
set_option maxHeartbeats 1000000 in
theorem bli{w wr w':World}{L:CD}{B p1 p2 p3:Nat}{r:List CD}{x0 x1 x2 x3 s:Value}(h:AddJ w wr L B p1 p2 p3 r x0 x1 x2 x3)(ho:atx L r=true)(ht:Told wr w' x0 x1 x2 x3 s):Below w.heap.size w w'∧RS (newM w w') sLev (addD L r) s∧Apart w w' (.sl false (r::(L.cell 0 0).rows)) (levD L 1) (levD L 2) (levD L 3) s:=by
 have hsz:=h.below.size
 obtain⟨l1,l2,l3,l4⟩:=h.ord
 have hB:B<wr.heap.size:=(Ga.1 h.arr).1
 have e:addD L r=.sl false [[.sl false (r::(L.cell 0 0).rows)],[levD L 1],[levD L 2],[levD L 3]]:=by
  unfold addD
  rw [if_pos ho]
 have tr0:∀ k o,wr.heap[k]? = some o→k<wr.heap.size∧w'.heap[k]? = some o:=fun k o c=>by
  have hk:k<wr.heap.size:=(Ga.1 c).1
  exact⟨hk,(ht.below.block k hk).trans c⟩
 have tr:∀ k o,w.heap.size≤k→wr.heap[k]? = some o→Nice o→newM w w' k o:=fun k o a c d=>by
  obtain⟨hk,h2⟩:=tr0 k o c
  exact⟨a,by have:=ht.below.size;omega,h2,d⟩
 refine⟨h.below.trans (ht.below.mono hsz),?_,?_⟩
 ·rw [e]
  exact bjz ht (fun k o a b c=>⟨by omega,(Ga.1 b).1,b,c⟩) (h.r0.mono fun k o hk=>tr k o (by omega) hk.2.1 hk.2.2) (h.r1.mono fun k o hk=>tr k o (by have:=hk.1;omega) hk.2.2.1 hk.2.2.2) (h.r2.mono fun k o hk=>tr k o (by have:=hk.1;omega) hk.2.2.1 hk.2.2.2) (h.r3.mono fun k o hk=>tr k o (by have:=hk.1;omega) hk.2.2.1 hk.2.2.2)
 ·obtain⟨kx,cap,arr,rfl,hk,_,_,hh,_,_⟩:=ht.at'
  let A:Nat→Nat→Prop:=fun j k=>k<wr.heap.size∧((j=0∧((w.heap.size≤k∧k<p1)∨B<k))∨(j=1∧p1≤k∧k<p2)∨(j=2∧p2≤k∧k<p3)∨(j=3∧p3≤k∧k<B))
  refine⟨kx,cap,arr,x0,x1,x2,x3,A,rfl,hh,by omega,fun j k ⟨a,b⟩=>by omega,fun i j k ⟨a,b⟩ ⟨c,d⟩=>by omega,?_,?_,?_,?_⟩
  ·exact h.r0.mono fun k o hk=>⟨⟨(tr0 k o hk.2.1).1,.inl ⟨rfl,hk.1⟩⟩,(tr0 k o hk.2.1).2,hk.2.2⟩
  ·exact h.r1.mono fun k o hk=>⟨⟨(tr0 k o hk.2.2.1).1,.inr (.inl ⟨rfl,hk.1,hk.2.1⟩)⟩,(tr0 k o hk.2.2.1).2,hk.2.2.2⟩
  ·exact h.r2.mono fun k o hk=>⟨⟨(tr0 k o hk.2.2.1).1,.inr (.inr (.inl ⟨rfl,hk.1,hk.2.1⟩))⟩,(tr0 k o hk.2.2.1).2,hk.2.2.2⟩
  ·exact h.r3.mono fun k o hk=>⟨⟨(tr0 k o hk.2.2.1).1,.inr (.inr (.inr ⟨rfl,hk.1,hk.2.1⟩))⟩,(tr0 k o hk.2.2.1).2,hk.2.2.2⟩
theorem Below.trans'{w w1 w2:World}(h:Below w.drew.heap.size w.drew w1)(h':Below w1.heap.size w1 w2):Below w.heap.size w w2:=by
 have hs:=h.size
 exact⟨h'.os.trans h.os,h'.tape.trans h.tape,h'.output.trans h.output,Nat.le_trans hs h'.size,fun k hk=>(h'.block k (Nat.lt_of_lt_of_le hk hs)).trans (h.block k hk)⟩
theorem aa4(w:World)(o:Obj):(w.alloc o).heap[w.heap.size]? = some o:=by
 show(w.heap.push _)[w.heap.size]? = _
 rw [Array.getElem?_push,if_pos rfl]
set_option maxHeartbeats 4000000 in
theorem bqz{w:World}{L r0 r1 r2 r3 r4:CD}{u v:Value}(h:RS (memW w) sLev L u)(hs:small L)(hv:afi (memW w) (true,sRun) [r0,r1,r2,r3,r4] v)(l3:(r3.len:Int)≤200)(l4:(r4.len:Int)≤200)(ho:atx L [r0,r1,r2,r3,r4]=true) :
    Calls Try.prog 10 #[u,v] w fun e w'=>∃ s,e=.returned (.tuple #[s,.int .i64 0])∧Below w.heap.size w w'∧RS (newM w w') sLev (addD L [r0,r1,r2,r3,r4]) s∧Apart w w' (.sl false ([r0,r1,r2,r3,r4]::(L.cell 0 0).rows)) (levD L 1) (levD L 2) (levD L 3) s:=by
  obtain⟨n0,n1,n2,a3,n3,c3,a4,n4,c4,rfl,hrow⟩:=bsq hv
  have hok:aam L=true:=by
    unfold atx at ho
    rw [Ba] at ho
    exact ho.1
  have hmay:afe [r0,r1,r2,r3,r4]=true:=by
    unfold atx at ho
    rw [Ba] at ho
    exact ho.2
  have HV:=hidj hv
  have HS:=hidj hs
  have HT:=hidj (show Typ sLev L from⟨_,_,h⟩)
  have HOK:=hidj ho
  have HL:=hidj (And.intro l3 l4)
  obtain⟨w1,hw1⟩:∃ w1,w1=w.alloc (.cells #[.int .i64 n0,.int .i64 n1,.int .i64 n2,.slice a3 n3 c3,.slice a4 n4 c4] 27 (0,0)):=⟨_,rfl⟩
  have HB:=hidj (show Below w.heap.size w w1 by rw [hw1];exact(Below.refl _ w).alloc (Rl _) _)
  have HR:=hidj (h.mono fun k o hk=>(HB.out.block k (Ga.1 hk).1).trans hk)
  have HW:=hidj hw1
  clear h hv hs hrow ho l3 l4 hw1
  go_enter Try.func10,Try.ntmps10
  go_wp2_with fail
  rw [← HW.out]
  refine(agp HR.out HS.out hok).mono ?_
  rintro e w2 ⟨x0,x1,x2,x3,rfl,hp⟩
  obtain⟨_,_,_,_,_,_,_,_,_,q0,q1,q2,q3⟩:=hp.regs
  obtain⟨b0,m0,d0,rfl⟩:=abe q0
  obtain⟨b1,m1,d1,rfl⟩:=abe q1
  obtain⟨b2,m2,d2,rfl⟩:=abe q2
  obtain⟨b3,m3,d3,rfl⟩:=abe q3
  clear q0 q1 q2 q3
  have HA:=hidj (aze (r:=[.int .i64 n0,.int .i64 n1,.int .i64 n2,.slice a3 n3 c3,.slice a4 n4 c4]) HW.out hp)
  clear hp
  obtain⟨z0,z1,z2,z3,z4⟩:=a9j HA.out.box
  go_wp2_with fail
  refine(a6n (HV.out.mono fun k o hk=>(HA.out.below.block k (Ga.1 hk).1).trans hk)).mono ?_
  rintro e w3 ⟨rfl,hk3⟩
  rw [hmay]
  have HA3:=hidj (a4t HA.out hk3)
  have hB3:w2.heap.size<w3.heap.size:=(Ga.1 HA3.out.arr).1
  clear hk3 HA z0 z1 z2 z3 z4 hok hmay
  obtain⟨B,hBe⟩:∃ B,B=w2.heap.size:=⟨_,rfl⟩
  rw [← hBe] at HA3 hB3 ⊢
  clear hBe HR HB
  obtain⟨z0,z1,z2,z3,z4⟩:=a9j HA3.out.box
  obtain⟨y0,y1,y2,y3⟩:=acp HA3.out.arr
  go_wp2_with fail
  go_region_with (first
    | (go_at_call 50
       refine(bii (W:=w3.drew) (HV.out.mono fun k o hk=>(HA3.out.below.block k (Ga.1 hk).1).trans hk) HL.out.1 HL.out.2).mono ?_
       rintro e w4 ⟨yv,rfl,hk4,hp4⟩
       obtain⟨m0',m1',m2',e3,f3,g3,e4,f4,g4,rfl,hrow4⟩:=bsq hp4
       have HK4:=hidj (aaz hk4)
       have HA4:=hidj (apt HA3.out (Below.trans' HK4.out (Below.refl _ _)))
       have HR4:=hidj hrow4
       clear hk4 hp4 hrow4
       obtain⟨z0,z1,z2,z3,z4⟩:=a9j HA4.out.box
       obtain⟨y0,y1,y2,y3⟩:=acp HA4.out.arr
       obtain⟨ya,_,_,_⟩:=acp ((Below.heap_alloc w4 (.cells #[.int .i64 m0',.int .i64 m1',.int .i64 m2',.slice e3 f3 g3,.slice e4 f4 g4] 27 (0,0)) B (Ga.1 HA4.out.arr).1).trans HA4.out.arr))
    | (go_at_call 49
       have HA5:=hidj (apt HA4.out ((Below.refl w4.heap.size w4).alloc (Rl _) (.cells #[.int .i64 m0',.int .i64 m1',.int .i64 m2',.slice e3 f3 g3,.slice e4 f4 g4] 27 (0,0))))
       obtain⟨p,p2,p3,l1,l2,l3,l4,q0,q1,q2,q3⟩:=HA5.out.regs
       have HQ:=hidj (And.intro q1 (And.intro q2 q3))
       have hB4:B<w4.heap.size:=(Ga.1 HA4.out.arr).1
       refine(bwt (lo:=w.heap.size+1) (hi:=p) (vb:=w4.heap.size) (rows:=(L.cell 0 0).rows) (r:=[r0,r1,r2,r3,r4]) (vs:=[.int .i64 m0',.int .i64 m1',.int .i64 m2',.slice e3 f3 g3,.slice e4 f4 g4]) q0 (bmq HS.out HT.out) l1 (by omega) (aa4 w4 _) rfl HR4.out).mono ?_
       clear q0 q1 q2 q3
       rintro e w5 ⟨s',rfl,hb5,hk5,hM5⟩
       obtain⟨s1,s2,s3,rfl⟩:=abe (hM5 (fun _ _=>True) (fun _ _ _=>trivial) (fun _ _ _ _ _ _=>trivial))
       have HJ:=hidj (bqy HA5.out l1 l2 l3 l4 HQ.out.1 HQ.out.2.1 HQ.out.2.2 hB3 (Below.trans' HK4.out (Below.refl _ _)) ((Below.refl w4.heap.size w4).alloc (Rl _) _) hb5 hk5 hM5)
       have hX:=(hb5.block w.heap.size (by omega)).trans HA5.out.box
       have hY:=(hk5 B (by omega) (Ga.1 HA5.out.arr).1).trans HA5.out.arr
       obtain⟨z0,z1,z2,z3,z4⟩:=a9j hX
       obtain⟨y0,y1,y2,y3⟩:=acp hY
       have f0:=ac1 (j:=0) hY
       clear hb5 hk5 hM5 hX hY HA5 HQ))
  all_goals
    obtain⟨k0,k1,k2,k3⟩:=acp HJ.out.arr
    go_wp2_with fail
    refine azx.mono ?_
    rintro e w6 ⟨s,rfl,ht⟩
    go_wp2_with fail
    go_returns
    obtain⟨hb,hr,ha⟩:=bli HJ.out HOK.out ht
    exact⟨_,rfl,hb,hr,ha⟩
end Go.Proofs.Ytlbbkmcegbeckaa
namespace Go.Proofs.Ytlbbkmcegbeckaa
open Go.Sx Go.Proofs
theorem us39(l a b c d e:CD):@Us.u U 39 [l,a,b,c,d,e]=addD l [a,b,c,d,e]:=rfl
def S10:Fsp:=⟨[(false,[sLev]),(true,sRun)],[.ap .not [.ap (.usr 12) [.var 0,I 40]],.ap .le [.ap .len [.var 4],I 200],.ap .le [.ap .len [.var 5],I 200]],[(false,[sLev]),(false,[.int .i64])],[([],[[.ap (.usr 39) [.var 0,.var 1,.var 2,.var 3,.var 4,.var 5]],[.ap (.usr 37) [.var 0,.var 1,.var 2,.var 3,.var 4,.var 5]]])],true⟩
theorem c10:aah U Try.prog 10 S10:=by
 intro σ hU m w us htw hm hargs hpre
 obtain⟨v⟩:=σ
 cases hU
 rw [at10.call]
 obtain⟨u1,u2,hus,h1,h2⟩:=bil hargs
 have hus:us = #[u1,u2]:=by rw [← Array.toList_inj,hus]
 subst hus
 have h1:RS m sLev (v 0) u1:=h1
 have h2:afi m (true,sRun) [v 1,v 2,v 3,v 4,v 5] u2:=h2
 have hp:small (v 0)∧((v 4).len:Int)≤200∧((v 5).len:Int)≤200:=by
  unfold S10 at hpre
  simp only [wA,wB,aeg,afc,us12] at hpre
  exact⟨hpre.1,hpre.2.1,hpre.2.2.1⟩
 obtain⟨p1,p2,p3⟩:=hp
 show Calls Try.prog 10 #[u1,u2] w _
 have e:List.map (@denL (@Sg.mk U v)) [[.ap (.usr 39) [.var 0,.var 1,.var 2,.var 3,.var 4,.var 5]],[.ap (.usr 37) [.var 0,.var 1,.var 2,.var 3,.var 4,.var 5]]]=[[addD (v 0) [v 1,v 2,v 3,v 4,v 5]],[vInt .i64 (addN (v 0) [v 1,v 2,v 3,v 4,v 5])]]:=by
  simp only [List.map_cons,List.map_nil,w_l1,w_l0,aav,aao,us39,us37]
 by_cases ho:atx (v 0) [v 1,v 2,v 3,v 4,v 5]=true
 ·refine(bqz (h1.mono hm) p1 (afi.mono hm h2) p2 p3 ho).mono fun e' w' hh=>?_
  obtain⟨s,rfl,hb,hr,_⟩:=hh
  have hn:addN (v 0) [v 1,v 2,v 3,v 4,v 5]=0:=if_pos ho
  refine⟨_,rfl,⟨hb.block,hb.size,hb.os,hb.tape,hb.output⟩,_,Ms ..,holds0,?_⟩
  show ResR _ [(false,[sLev]),(false,[.int .i64])] (List.map (@denL (@Sg.mk U v)) [[.ap (.usr 39) [.var 0,.var 1,.var 2,.var 3,.var 4,.var 5]],[.ap (.usr 37) [.var 0,.var 1,.var 2,.var 3,.var 4,.var 5]]]) _
  rw [e,hn]
  exact⟨[s,.int .i64 0],⟨RS.mono (m':=fun k ob=>(w.heap.size≤k∧w'.heap[k]? = some ob∧Nice ob)∨(S10.fresh=false∧m k ob)) (fun k o hk=>Or.inl ⟨hk.1,hk.2.2.1,hk.2.2.2⟩) hr,⟨0,rfl,rfl,rfl⟩,trivial⟩,rfl⟩
 ·have ho:atx (v 0) [v 1,v 2,v 3,v 4,v 5]=false:=Bool.eq_false_iff.2 ho
  refine(blj (h1.mono hm) p1 (afi.mono hm h2) ho).mono fun e' w' hh=>?_
  obtain⟨rfl,hb⟩:=hh
  obtain⟨e1,e2⟩:=bu5 ho
  refine⟨_,rfl,⟨hb.block,hb.size,hb.os,hb.tape,hb.output⟩,_,Ms ..,holds0,?_⟩
  show ResR _ [(false,[sLev]),(false,[.int .i64])] (List.map (@denL (@Sg.mk U v)) [[.ap (.usr 39) [.var 0,.var 1,.var 2,.var 3,.var 4,.var 5]],[.ap (.usr 37) [.var 0,.var 1,.var 2,.var 3,.var 4,.var 5]]]) _
  rw [e,e1,e2]
  exact⟨[nilV,.int .i64 2],⟨.inl ⟨rfl,rfl⟩,⟨2,rfl,rfl,rfl⟩,trivial⟩,rfl⟩
def T22:List (FuncId×Fsp):=[(10,S10),(15,S15),(18,S18),(19,S19)]
theorem hT22:ae1 U Try.prog T22:=.cons c10 (.cons c15 (.cons c18 (.cons c19 .nil)))
def brz:List (FuncId×Inl):=[(60,⟨Try.f60,noH⟩),(61,⟨Try.f61,noH⟩),(102,⟨Try.f102,noH⟩)]
theorem bwm:ajx U Try.prog brz:=.cons (.of at60 (by kernel_rfl)) (.cons (.of at61 (by kernel_rfl)) (.cons (.of b0a (by kernel_rfl)) .nil))
def S22:Fsp:=⟨[],[],[(false,[.bool])],[([],[[.lit (.bool true)]])],true⟩
abbrev bX(n:Int):X:=.ap .snoc [.ap (.nil false) [],.lit (.int .u8 n)]
abbrev xX:X:=.ap (.usr 39) [nilX,I 1,I 0,I 1,bX 97,bX 99]
abbrev yX:X:=.ap (.usr 39) [xX,I 2,I 0,I 1,bX 98,bX 100]
def bu9:Fm→HP→List X:=fun _ _=>[.ap .not [.ap (.usr 12) [nilX,I 40]],.ap .le [.ap .len [bX 97],I 200],.ap .le [.ap .len [bX 99],I 200]]
def bva:Fm→HP→List X:=fun _ _=>[.ap .not [.ap (.usr 12) [xX,I 40]],.ap .le [.ap .len [bX 98],I 200],.ap .le [.ap .len [bX 100],I 200]]
def bvc:Fm→HP→List X:=fun _ _=>[.ap .eq [.ap (.usr 37) [nilX,I 1,I 0,I 1,bX 97,bX 99],I 0],.ap .eq [.ap (.usr 37) [xX,I 2,I 0,I 1,bX 98,bX 100],I 0],.ap .not [.ap (.usr 12) [yX,I 40]]]
abbrev af2:X:=(.ap (.nil false) [])
abbrev awv:X:=(.ap .snoc [af2,(.lit (.int .u8 100))])
abbrev aww:X:=(.ap .snoc [af2,(.lit (.int .u8 99))])
abbrev bjc:X:=(.ap .snoc [(.ap .snoc [af2,(I 2),(I 0),(I 1),(.ap .snoc [af2,(.lit (.int .u8 98))]),awv]),(I 1),(I 0),(I 1),(.ap .snoc [af2,(.lit (.int .u8 97))]),aww])
abbrev a6z:X:=(.ap (.usr 39) [(.ap (.nil true) []),(I 1),(I 0),(I 1),(.ap .snoc [af2,(.lit (.int .u8 97))]),aww])
abbrev awu:X:=(.ap (.usr 39) [a6z,(I 2),(I 0),(I 1),(.ap .snoc [af2,(.lit (.int .u8 98))]),awv])
abbrev bc6:X:=(.ap (.usr 37) [(.ap (.nil true) []),(I 1),(I 0),(I 1),(.ap .snoc [af2,(.lit (.int .u8 97))]),aww])
abbrev bc7:X:=(.ap (.usr 37) [a6z,(I 2),(I 0),(I 1),(.ap .snoc [af2,(.lit (.int .u8 98))]),awv])
abbrev bjd:X:=(.ap (.usr 8) [awu,(.ap .snoc [(.ap .snoc [(.ap .snoc [(.ap .snoc [af2,bjc]),(.ap (.nil true) [])]),(.ap (.nil true) [])]),(.ap (.nil true) [])])])
abbrev bc4:List X:=[(.ap (.typ (.sl [(.sl [(.int .i64),(.int .i64),(.int .i64),(.sl [(.int .u8)]),(.sl [(.int .u8)])])])) [a6z]),(.ap .le [LoI,bc6]),(.ap .le [bc6,HiI]),(.ap .not [(.ap (.usr 12) [(.ap (.nil true) []),(I 40)])]),(.ap .le [(.ap .len [(.ap .snoc [af2,(.lit (.int .u8 97))])]),(I 200)]),(.ap .le [(.ap .len [aww]),(I 200)])]
abbrev bc5:List X:=(.ap (.typ (.sl [(.sl [(.int .i64),(.int .i64),(.int .i64),(.sl [(.int .u8)]),(.sl [(.int .u8)])])])) [awu])::(.ap .le [LoI,bc7])::(.ap .le [bc7,HiI])::(.ap .not [(.ap (.usr 12) [a6z,(I 40)])])::(.ap .le [(.ap .len [(.ap .snoc [af2,(.lit (.int .u8 98))])]),(I 200)])::(.ap .le [(.ap .len [awv]),(I 200)])::bc4
abbrev bjb:List X:=(.ap .eq [bc6,(I 0)])::(.ap .eq [bc7,(I 0)])::(.ap .not [(.ap (.usr 12) [awu,(I 40)])])::bc5
def bnm:List VC:=[([],(.ap .not [(.ap (.usr 12) [(.ap (.nil true) []),(I 40)])])),
 ([],(.ap .le [(.ap .len [(.ap .snoc [af2,(.lit (.int .u8 97))])]),(I 200)])),
 ([],(.ap .le [(.ap .len [aww]),(I 200)])),
 (bc4,(.ap .not [(.ap (.usr 12) [a6z,(I 40)])])),
 (bc4,(.ap .le [(.ap .len [(.ap .snoc [af2,(.lit (.int .u8 98))])]),(I 200)])),
 (bc4,(.ap .le [(.ap .len [awv]),(I 200)])),
 (bc5,(.ap .eq [bc6,(I 0)])),
 (bc5,(.ap .eq [bc7,(I 0)])),
 (bc5,(.ap .not [(.ap (.usr 12) [awu,(I 40)])]))]
def bs9:List (List X×List (List X)):=[(((.ap .not [bjd])::bjb),[[(.lit (.bool false))]]),
 (((.ap (.usr 6) [(.ap (.usr 35) [awu,aww,(.ap (.nil true) [])]),bjc])::bjd::bjb),[[(.ap (.usr 6) [(.ap (.usr 35) [awu,awv,(.ap .snoc [af2,(.lit (.int .u8 101))])]),(.ap .snoc [af2,(I 2),(I 0),(I 1),(.ap .snoc [af2,(.lit (.int .u8 98))]),awv])])]]),
 (((.ap .not [(.ap (.usr 6) [(.ap (.usr 35) [awu,aww,(.ap (.nil true) [])]),bjc])])::bjd::bjb),[[(.lit (.bool false))]])]
theorem byb:runV Try.prog (cxOf Try.prog (acr (tab T22)) 10 14 ⟨ap4 brz,noY,U.lc⟩ 3 22) ⟨aa0 [],hintA [(1,bu9),(2,bva),(4,bvc)]⟩ Try.f22 (aau Try.f22) S22=some (bnm,bs9):=by kernel_rfl
theorem bht{x:X}{l:List X}{v:Nat→CD}{p:Prop}(h:@Holds (@Sg.mk U v) (x::l))(e:(@den (@Sg.mk U v) x).bv=false):p:=by
 have h1:(@den (@Sg.mk U v) x).bv=true:=h x (Ms ..)
 rw [e] at h1
 cases h1
theorem bzz{hy:List X}{x:X}(h:∀ v:Nat→CD,(@den (@Sg.mk U v) x).bv=true):VCok U (hy,x):=fun σ hU hh=>by
 obtain⟨v⟩:=σ
 cases hU
 exact h v
set_option maxHeartbeats 4000000 in
theorem v22:∀ z∈bnm,VCok U z:=by
 intro z hz
 unfold bnm at hz
 simp only [Mn,List.not_mem_nil,or_false] at hz
 repeat' (first | (rcases hz with rfl | hz) | subst hz)
 all_goals exact bzz fun v=>by kernel_rfl
set_option maxHeartbeats 4000000 in
theorem c22:aah U Try.prog 22 S22:=by
 refine aah.ofV (P:=Try.prog) (U:=U) (T:=(tab T22)) (l:=brz) (y:=noY) (dp:=3) (f:=22) (fn:=Try.f22) (fuel:=10) (fk:=14) (hs:=⟨aa0 [],hintA [(1,bu9),(2,bva),(4,bvc)]⟩) (S:=S22) (v:=bnm) (outs:=bs9) mixed hT22 bwm at22 (aez (by kernel_rfl)) byb v22 ?_
 intro o ho σ hU hh
 obtain⟨v⟩:=σ
 cases hU
 simp only [bs9,Mn,List.not_mem_nil,or_false] at ho
 rcases ho with rfl | rfl | rfl
 ·exact bht hh (by kernel_rfl)
 ·exact⟨_,Ms ..,holds0,by kernel_rfl⟩
 ·exact bht hh (by kernel_rfl)
end Go.Proofs.Ytlbbkmcegbeckaa
namespace Go.Proofs.Ytlbbkmcegbeckaa
open Go.Sx Go.Proofs Go.RowKit Go.Lib
theorem br4{u:Value}(h:is8 u=true):∃ z,u=.int .u8 z:=by
 unfold is8 at h
 split at h
 ·exact⟨_,rfl⟩
 ·cases h
def abq(w:World)(b n:Nat):Prop:=∃ arr t fr,w.heap[b]? = some (.cells arr t fr)∧UF fr arr.size∧n≤arr.size∧∀ (j:Nat) (u:Value),arr[j]? = some u→is8 u=true
structure ByteStep (b:Nat) (w w':World):Prop where
 os:w'.os=w.os
 tape:w'.tape=w.tape
 output:w'.output=w.output
 size:w'.heap.size=w.heap.size
 other:∀ k,k≠b→w'.heap[k]? = w.heap[k]?
 keep:∀ n,abq w b n→abq w' b n
theorem ByteStep.refl(b:Nat)(w:World):ByteStep b w w:=⟨rfl,rfl,rfl,rfl,fun _ _=>rfl,fun _ h=>h⟩
theorem bln{b j:Nat}{w0 w:World}{v:Int}(h:ByteStep b w0 w):ByteStep b w0 (w.setCell ⟨b,j,none⟩ (.int .u8 v)):=by
 refine⟨h.os,h.tape,h.output,by rw [World.size_setCell];exact h.size,fun k hk=>(Below.heap_setCell w ⟨b,j,none⟩ _ k hk).trans (h.other k hk),fun n hn=>?_⟩
 obtain⟨arr,t,fr,h1,h2,h3,h4⟩:=h.keep n hn
 have h1':(w.setCell ⟨b,j,none⟩ (.int .u8 v)).heap[b]? = some (.cells (arr.setIfInBounds j (.int .u8 v)) t fr):=by
  unfold World.setCell
  simp [Array.getElem?_modify,h1]
 refine⟨_,t,fr,h1',by rw [Array.size_setIfInBounds];exact h2,by rw [Array.size_setIfInBounds];exact h3,fun i u hi=>?_⟩
 by_cases hij:j=i
 ·subst hij
  rw [Array.getElem?_setIfInBounds_self] at hi
  split at hi
  ·cases hi;rfl
  ·cases hi
 ·rw [Array.getElem?_setIfInBounds_ne hij] at hi
  exact h4 i u hi
set_option maxHeartbeats 1000000 in
theorem bnf(w:World):Calls Try.prog 59 #[nilV] w fun e w'=>e=.returned (.tuple #[])∧w'=w:=by
 go_enter Try.func59,Try.ntmps59
 go_wp2_with fail
 go_loopw [3] (fun q wr=>q=.int .i64 0∧wr=w) (fun _ _=>0)
 case atStart=>exact⟨rfl,rfl⟩
 case round =>
  obtain⟨rfl,rfl⟩:=hrel
  go_wp2_with fail
  go_returns
  exact⟨rfl,rfl⟩
set_option maxHeartbeats 1000000 in
theorem bev{w:World}{b off n cap:Nat}(h:abq w b (off+cap))(hn:n≤cap)(hc:cap≤Go.Sx.maxN):Calls Try.prog 59 #[.slice (some ⟨b,off,none⟩) n cap] w fun e w'=>e=.returned (.tuple #[])∧ByteStep b w w':=by
 have HH:=hidj h
 have HC:=hidj hc
 clear h hc
 have hb0:(0:Int)≤(cap:Int):=Int.natCast_nonneg _
 go_enter Try.func59,Try.ntmps59
 go_wp2_with fail
 go_loopw [3] (fun q wr=>∃ k:Nat,k≤cap∧q=.int .i64 (k:Int)∧Hid (ByteStep b w wr)) (fun q _=>cap - (RowKit.intOf q).toNat)
 case atStart=>exact⟨0,Nat.zero_le _,rfl,hidj (ByteStep.refl b w)⟩
 case round =>
  obtain⟨k,hk,rfl,HW⟩:=hrel
  by_cases hkn:k<cap
  ·obtain⟨arr,t,fr,h1,h2,h3,h4⟩:=HW.out.keep _ HH.out
   have hlt:off+k<arr.size:=by omega
   obtain⟨z,hz⟩:=br4 (h4 (off+k) _ (Array.getElem?_eq_getElem hlt))
   have hcell:wr.cell? ⟨b,off+k,none⟩=some (.int .u8 z):=by
    haveI:Sg:=sg0
    rw [cell?_of h1,Array.getElem?_eq_getElem hlt,hz]
   have hfr:wr.frozen? ⟨b,off+k,none⟩=false:=ayj h1 h2 hlt
   have hk0:(0:Int)≤(k:Int):=Int.natCast_nonneg _
   have hk1:(k:Int)<(cap:Int):=by omega
   clear h1 h2 h3 h4 hz hlt
   have hkw:IntKind.i64.wrap ((k:Int)+1)=(k:Int)+1:=by have h1:=HC.out;rw [IntKind.wrap_i64];unfold Go.Sx.maxN at h1;omega
   go_wp2_with fail
   exact⟨⟨k+1,by omega,by go_num,hidj (bln HW.out)⟩,by simp [RowKit.intOf];omega⟩
  ·have hke:k=cap:=by omega
   subst hke
   go_wp2_with fail
   go_returns
   exact⟨rfl,HW.out⟩
def ayy(P:Nat→Prop)(w:World)(v:Value):Prop:=v=nilV∨∃ d o n c,v=.slice (some ⟨d,o,none⟩) n c∧n≤c∧c≤Go.Sx.maxN∧P d∧abq w d (o+c)
def a88(P:Nat→Prop)(w:World)(b off n:Nat):Prop:=∃ arr t fr,w.heap[b]? = some (.cells arr t fr)∧UF fr arr.size∧off+n*5≤arr.size∧(∀ (j:Nat) (u:Value),arr[j]? = some u→is8 u=false) ∧
 ∀ i,i<n→∃ z0 z1 z2 v3 v4,arr[off+i*5]? = some (.int .i64 z0)∧arr[off+i*5+1]? = some (.int .i64 z1)∧arr[off+i*5+2]? = some (.int .i64 z2)∧arr[off+i*5+3]? = some v3∧ayy P w v3∧arr[off+i*5+4]? = some v4∧ayy P w v4
structure Ov (P:Nat→Prop) (b:Nat) (w w':World):Prop where
 os:w'.os=w.os
 tape:w'.tape=w.tape
 output:w'.output=w.output
 size:w'.heap.size=w.heap.size
 other:∀ k,k≠b→w'.heap[k]? = w.heap[k]?∨(P k∧∃ m,abq w k m)
 keep:∀ k n,abq w k n→abq w' k n
theorem Ov.refl(P:Nat→Prop)(b:Nat)(w:World):Ov P b w w:=⟨rfl,rfl,rfl,rfl,fun _ _=>.inl rfl,fun _ _ h=>h⟩
theorem Ov.byte{P:Nat→Prop}{b d m:Nat}{w0 w w':World}(h:Ov P b w0 w)(hs:ByteStep d w w')(hP:P d)(hd:abq w d m)(hd0:d≠b→abq w0 d 0∨True)(hbk:∀ k n,abq w k n→(w0.heap[k]? = w.heap[k]?→abq w0 k n)):Ov P b w0 w':=by
 refine⟨hs.os.trans h.os,hs.tape.trans h.tape,hs.output.trans h.output,hs.size.trans h.size,fun k hk=>?_,fun k n hn=>?_⟩
 ·by_cases hkd:k=d
  ·subst hkd
   rcases h.other k hk with h1 | h1
   ·exact .inr ⟨hP,m,hbk k m hd h1.symm⟩
   ·exact .inr h1
  ·rw [hs.other k hkd]
   exact h.other k hk
 ·by_cases hkd:k=d
  ·subst hkd
   exact hs.keep n (h.keep k n hn)
  ·have:=h.keep k n hn
   unfold abq at this ⊢
   rw [hs.other k hkd]
   exact this
theorem aoo{w w0:World}{k n:Nat}(h:abq w k n)(e:w0.heap[k]? = w.heap[k]?):abq w0 k n:=by
 unfold abq at h ⊢
 rw [e]
 exact h
theorem aoy{P:Nat→Prop}{w w':World}{v:Value}(h:ayy P w v)(hk:∀ k n,abq w k n→abq w' k n):ayy P w' v:=by
 rcases h with h | ⟨d,o,n,c,h1,h2,h3,h4,h5⟩
 ·exact .inl h
 ·exact .inr ⟨d,o,n,c,h1,h2,h3,h4,hk _ _ h5⟩
theorem bjx{P:Nat→Prop}{w:World}{b off n d m:Nat}(h:a88 P w b off n)(hn:0<n)(hd:abq w d m):d≠b:=by
 intro e
 subst e
 obtain⟨arr,t,fr,h1,h2,h3,h4,h5⟩:=h
 obtain⟨arr',t',fr',g1,g2,g3,g4⟩:=hd
 rw [h1] at g1
 cases g1
 obtain⟨z0,_,_,_,_,e0,_⟩:=h5 0 hn
 have:=g4 _ _ e0
 cases this
theorem bjw{P:Nat→Prop}{w w':World}{b off n:Nat}(h:a88 P w b off n)(he:w'.heap[b]? = w.heap[b]?)(hk:∀ k n,abq w k n→abq w' k n):a88 P w' b off n:=by
 obtain⟨arr,t,fr,h1,h2,h3,h4,h5⟩:=h
 refine⟨arr,t,fr,he.trans h1,h2,h3,h4,fun i hi=>?_⟩
 obtain⟨z0,z1,z2,v3,v4,e0,e1,e2,e3,g3,e4,g4⟩:=h5 i hi
 exact⟨z0,z1,z2,v3,v4,e0,e1,e2,e3,aoy g3 hk,e4,aoy g4 hk⟩
theorem bkg{d:Nat}{w w':World}(h:ByteStep d w w'):∀ k n,abq w k n→abq w' k n:=fun k n hn=>by
 by_cases hkd:k=d
 ·subst hkd
  exact h.keep n hn
 ·exact aoo hn (h.other k hkd)
structure OvI (P:Nat→Prop) (w wr:World) (b off n:Nat):Prop where
 ov:Ov P b w wr
 rows:a88 P wr b off n
theorem bnc{P:Nat→Prop}{w wr w':World}{b off n d m:Nat}(h:OvI P w wr b off n)(hn:0<n)(hs:ByteStep d wr w')(hP:P d)(hd:abq wr d m):OvI P w w' b off n:=by
 have hne:=bjx h.rows hn hd
 exact⟨h.ov.byte hs hP hd (fun _=>.inr trivial) (fun k n hk e=>aoo hk e),bjw h.rows (hs.other b (Ne.symm hne)) (bkg hs)⟩
set_option maxHeartbeats 1000000 in
theorem bcs{P:Nat→Prop}{w:World}{v:Value}(h:ayy P w v):Calls Try.prog 59 #[v] w fun e w'=>e=.returned (.tuple #[])∧(w'=w∨∃ d m,P d∧abq w d m∧ByteStep d w w'):=by
 rcases h with rfl | ⟨d,o,n,c,rfl,h2,h3,h4,h5⟩
 ·exact(bnf w).mono fun e w' hh=>⟨hh.1,.inl hh.2⟩
 ·exact(bev h5 h2 h3).mono fun e w' hh=>⟨hh.1,.inr ⟨d,_,h4,h5,hh.2⟩⟩
theorem bh9{P:Nat→Prop}{w wr w':World}{b off n:Nat}(h:OvI P w wr b off n)(hn:0<n)(hs:w'=wr∨∃ d m,P d∧abq wr d m∧ByteStep d wr w'):OvI P w w' b off n:=by
 rcases hs with rfl | ⟨d,m,h1,h2,h3⟩
 ·exact h
 ·exact bnc h hn h3 h1 h2
theorem bjs{P:Nat→Prop}{w:World}{b off n i:Nat}(h:a88 P w b off n)(hi:i<n):∃ z0 z1 z2 v3 v4,w.cell? ⟨b,off+i*5,none⟩=some (.int .i64 z0)∧w.cell? ⟨b,off+i*5+1,none⟩=some (.int .i64 z1)∧w.cell? ⟨b,off+i*5+2,none⟩=some (.int .i64 z2)∧w.cell? ⟨b,off+i*5+3,none⟩=some v3∧ayy P w v3∧w.cell? ⟨b,off+i*5+4,none⟩=some v4∧ayy P w v4∧∀ j,j<5→w.frozen? ⟨b,off+i*5+j,none⟩=false:=by
 haveI:Sg:=sg0
 obtain⟨arr,t,fr,h1,h2,h3,h4,h5⟩:=h
 obtain⟨z0,z1,z2,v3,v4,e0,e1,e2,e3,g3,e4,g4⟩:=h5 i hi
 refine⟨z0,z1,z2,v3,v4,by rw [cell?_of h1];exact e0,by rw [cell?_of h1];exact e1,by rw [cell?_of h1];exact e2,by rw [cell?_of h1];exact e3,g3,by rw [cell?_of h1];exact e4,g4,fun j hj=>ayj h1 h2 ?_⟩
 have:=Nat.mul_le_mul_right 5 (show i+1≤n from hi)
 omega
theorem set5(w:World)(b o:Nat)(a0 a1 a2 a3 a4:Value):w.setCells b o [a0,a1,a2,a3,a4]=((((w.setCell ⟨b,o,none⟩ a0).setCell ⟨b,o+1,none⟩ a1).setCell ⟨b,o+2,none⟩ a2).setCell ⟨b,o+3,none⟩ a3).setCell ⟨b,o+4,none⟩ a4:=rfl
theorem at5n{q:Nat}{u:Value}(hlt:q<5)(h:some u=[Value.int .i64 0,.int .i64 0,.int .i64 0,nilV,nilV][q]?):is8 u=false:=by
 match q,hlt with
 | 0,_=>cases h;rfl
 | 1,_=>cases h;rfl
 | 2,_=>cases h;rfl
 | 3,_=>cases h;rfl
 | 4,_=>cases h;rfl
theorem bh8{P:Nat→Prop}{w wr:World}{b off n k:Nat}(h:OvI P w wr b off n)(hk:k<n):OvI P w (((((wr.setCell ⟨b,off+k*5,none⟩ (.int .i64 0)).setCell ⟨b,off+k*5+1,none⟩ (.int .i64 0)).setCell ⟨b,off+k*5+2,none⟩ (.int .i64 0)).setCell ⟨b,off+k*5+3,none⟩ nilV).setCell ⟨b,off+k*5+4,none⟩ nilV) b off n:=by
 rw [← set5]
 have hrows:=h.rows
 obtain⟨arr,t,fr,h1,h2,h3,h4,h5⟩:=h.rows
 obtain⟨arr',g1,g2,g3,g4⟩:=ab5 [.int .i64 0,.int .i64 0,.int .i64 0,nilV,nilV] (off+k*5) wr arr h1
 have hk5:=Nat.mul_le_mul_right 5 (show k+1≤n from hk)
 have hne:∀ i,i≠b→(wr.setCells b (off+k*5) [.int .i64 0,.int .i64 0,.int .i64 0,nilV,nilV]).heap[i]? = wr.heap[i]?:=fun i hi=>abo hi _ _ _
 have hbk:∀ i m,abq wr i m→abq (wr.setCells b (off+k*5) [.int .i64 0,.int .i64 0,.int .i64 0,nilV,nilV]) i m:=fun i m hm=>aoo hm (hne i (bjx hrows (by omega) hm))
 have at5:∀ j,j<5→arr'[off+k*5+j]? = [Value.int .i64 0,.int .i64 0,.int .i64 0,nilV,nilV][j]?:=fun j hj=>by
  rw [g3 j _ (Gl hj) (by omega),Gl hj]
 have out:∀ m,(m<off+k*5∨off+k*5+5≤m)→arr'[m]? = arr[m]?:=g4
 have hb:=below_setCells (lo:=0) (w:=wr) b (Nat.zero_le _) [.int .i64 0,.int .i64 0,.int .i64 0,nilV,nilV] (off+k*5) wr (Below.refl 0 wr)
 refine⟨⟨hb.os.trans h.ov.os,hb.tape.trans h.ov.tape,hb.output.trans h.ov.output,?_,fun i hi=>?_,fun i m hm=>hbk i m (h.ov.keep i m hm)⟩,arr',t,fr,g1,by rw [g2];exact h2,by rw [g2];exact h3,fun j u hj=>?_,fun i hi=>?_⟩
 ·rw [size_setCells];exact h.ov.size
 ·rw [hne i hi]
  exact h.ov.other i hi
 ·by_cases hin:off+k*5≤j∧j<off+k*5+5
  ·have:=at5 (j - (off+k*5)) (by omega)
   rw [show off+k*5+(j - (off+k*5))=j by omega,hj] at this
   exact at5n (show j - (off+k*5)<5 by omega) this
  ·rw [out j (by omega)] at hj
   exact h4 j u hj
 ·by_cases hik:i=k
  ·subst hik
   exact⟨0,0,0,nilV,nilV,at5 0 (by omega),at5 1 (by omega),at5 2 (by omega),at5 3 (by omega),.inl rfl,at5 4 (by omega),.inl rfl⟩
  ·obtain⟨z0,z1,z2,v3,v4,e0,e1,e2,e3,q3,e4,q4⟩:=h5 i hi
   have ho:∀ j,j<5→arr'[off+i*5+j]? = arr[off+i*5+j]?:=fun j hj=>out _ (by
    rcases Nat.lt_or_gt_of_ne hik with hlt | hlt
    ·have:=Nat.mul_le_mul_right 5 (show i+1≤k from hlt)
     omega
    ·have:=Nat.mul_le_mul_right 5 (show k+1≤i from hlt)
     omega)
   exact⟨z0,z1,z2,v3,v4,(ho 0 (by omega)).trans e0,(ho 1 (by omega)).trans e1,(ho 2 (by omega)).trans e2,(ho 3 (by omega)).trans e3,aoy q3 hbk,(ho 4 (by omega)).trans e4,aoy q4 hbk⟩
set_option maxHeartbeats 2000000 in
theorem bid{P:Nat→Prop}{w:World}{b off n cap:Nat}(h:a88 P w b off n)(hn:n≤cap)(hc:cap≤Go.Sx.maxN):Calls Try.prog 21 #[.slice (some ⟨b,off,none⟩) n cap] w fun e w'=>e=.returned (.tuple #[])∧Ov P b w w':=by
 have HI:=hidj (show OvI P w w b off n from⟨Ov.refl P b w,h⟩)
 have HC:=hidj hc
 clear h hc
 go_enter Try.func21,Try.ntmps21
 go_wp2_with fail
 go_loopw [2] (fun q wr=>∃ k:Nat,k≤n∧q=.int .i64 (k:Int)∧Hid (OvI P w wr b off n)) (fun q _=>n - (RowKit.intOf q).toNat)
 case atStart=>exact⟨0,Nat.zero_le _,rfl,HI⟩
 case round =>
  obtain⟨k,hk,rfl,HW⟩:=hrel
  by_cases hkn:k<n
  ·obtain⟨z0,z1,z2,v3,v4,e0,e1,e2,e3,g3,e4,g4,hf⟩:=bjs HW.out.rows hkn
   have HG:=hidj g3
   have hk0:(0:Int)≤(k:Int):=Int.natCast_nonneg _
   have hk1:(k:Int)<(n:Int):=by omega
   have hkw:IntKind.i64.wrap ((k:Int)+1)=(k:Int)+1:=by have h1:=HC.out;rw [IntKind.wrap_i64];unfold Go.Sx.maxN at h1;omega
   clear e0 e1 e2 e4 g3 g4 hf
   go_wp2_with fail
   refine(bcs HG.out).mono ?_
   rintro e w2 ⟨rfl,hs2⟩
   have H2:=hidj (bh9 HW.out (by omega) hs2)
   clear hs2 HG e3
   obtain⟨z0,z1,z2,v3,v4,e0,e1,e2,e3,g3,e4,g4,hf⟩:=bjs H2.out.rows hkn
   have HG:=hidj g4
   clear e0 e1 e2 e3 g3 g4 hf
   go_wp2_with fail
   refine(bcs HG.out).mono ?_
   rintro e w3 ⟨rfl,hs3⟩
   have H3:=hidj (bh9 H2.out (by omega) hs3)
   clear hs3 HG e4
   obtain⟨z0,z1,z2,v3,v4,e0,e1,e2,e3,g3,e4,g4,hf⟩:=bjs H3.out.rows hkn
   have f0:=hf 0 (by omega)
   have f1:=hf 1 (by omega)
   have f2:=hf 2 (by omega)
   have f3:=hf 3 (by omega)
   have f4:=hf 4 (by omega)
   rw [Nat.add_zero] at f0
   clear g3 g4 hf
   go_wp2_with fail
   exact⟨⟨k+1,by omega,by go_num,hidj (bh8 H3.out hkn)⟩,by simp [RowKit.intOf];omega⟩
  ·have hke:k=n:=by omega
   subst hke
   go_wp2_with fail
   go_returns
   exact⟨rfl,HW.out.ov⟩
end Go.Proofs.Ytlbbkmcegbeckaa
