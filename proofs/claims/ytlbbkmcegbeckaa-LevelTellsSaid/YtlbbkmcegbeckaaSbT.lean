/-
  A table more: level.Add, walked. Conditions: none.
-/
import Derived.Test.YtlbbkmcegbeckaaSbP
import Derived.Handy
import Derived.Laws.ResultCell
import Derived.Lib.LazyBuf
set_option linter.unusedSectionVars false
set_option linter.unusedVariables false
set_option linter.unusedSimpArgs false
set_option linter.all false
namespace Go.Proofs.Ytlbbkmcegbeckaa
open Go.Sx Go.Proofs Go.RowKit Go.Lib
theorem hidj{p:Prop}(h:p):Hid p:=h
abbrev nilV:Value:=.slice none 0 0
set_option maxRecDepth 100000 in
theorem c3u{m:Mem}{w:World}{L:CD}{u:Value}(hm:∀ k o,m k o→w.heap[k]? = some o)(h:RS m sLev L u):L.len=L.rows.length∧∃ (a:Option Addr) (cap:Nat),u=.slice a L.rows.length cap∧L.rows.length≤cap ∧
  ∀ i:Nat,i<L.rows.length→∃ b off s,a=some ⟨b,off,none⟩∧b<w.heap.size∧w.cell? ⟨b,off+i,none⟩=some s∧RS m sR (L.cell i 0) s:=by
 haveI:Sg:=sg0
 refine⟨h.slice.2.1,?_⟩
 rcases(show(L=.sl true []∧u=.slice none 0 0)∨_ from h) with ⟨e1,rfl⟩ | ⟨rows,b,off,cap,e1,rfl,h3,h4,h5⟩ | ⟨a,e1,rfl⟩
 ·exact⟨none,0,by rw [e1];rfl,by rw [e1];exact Nat.le_refl _,fun i hi=>by rw [e1] at hi;exact absurd hi (Nat.not_lt_zero _)⟩
 rotate_left
 ·exact⟨some a,0,by rw [e1];rfl,by rw [e1];exact Nat.le_refl _,fun i hi=>by rw [e1] at hi;exact absurd hi (Nat.not_lt_zero _)⟩
 have hrows:L.rows=rows:=by rw [e1];rfl
 rw [hrows]
 refine⟨some ⟨b,off,none⟩,cap,rfl,h3,fun i hi=>?_⟩
 obtain⟨arr,t,fr,⟨h6,h7⟩,h8⟩:=h5 (fun e=>by rw [e] at hi;exact absurd hi (Nat.not_lt_zero _))
 have hw:=hm _ _ h6
 obtain⟨c,r,s,q1,q2,q3,_⟩:=h8 i rows[i] (List.getElem?_eq_getElem hi)
 refine⟨b,off,s,rfl,(Array.getElem?_eq_some_iff.1 hw).1,?_,?_⟩
 ·rw [cell?_of hw]
  simpa using q2
 ·have:L.cell i 0=c:=by
   unfold CD.cell
   rw [hrows,Int.toNat_natCast,show rows.getD i []=rows[i] by rw [List.getD_eq_getElem?_getD,List.getElem?_eq_getElem hi];rfl,q1]
   rfl
  rw [this]
  exact q3
structure FourI (w wr:World) (L:CD) (k:Nat) (ss:List Value):Prop where
 below:Below w.heap.size w wr
 size:w.heap.size+2≤wr.heap.size
 x:wr.heap[w.heap.size]? = some (.cells #[nilV,nilV,nilV,nilV] 78 (0,0))
 y:wr.heap[w.heap.size+1]? = some (.cells ss.toArray 78 (0,0))
 len:ss.length=4
 rest:∀ j,k≤j→j<4→ss[j]? = some nilV
 regs:∃ q:Nat→Nat,w.heap.size+2≤q 0∧(∀ j,j<k→q j≤q (j+1))∧q k≤wr.heap.size∧∀ j:Nat,j<k→∃ s,ss[j]? = some s∧RS (nm (q j) (q (j+1)) wr) sR (levD L j) s
theorem ckt{q:Nat→Nat}{k:Nat}(h:∀ j,j<k→q j≤q (j+1)):∀ (i j:Nat),i≤j→j≤k→q i≤q j:=by
 intro i j hij hjk
 induction j with
 | zero=>rw [show i=0 by omega];exact Nat.le_refl _
 | succ j ih =>
  by_cases he:i=j+1
  ·rw [he];exact Nat.le_refl _
  ·exact Nat.le_trans (ih (by omega) (by omega)) (h j (by omega))
theorem b5p{lo hi hi':Nat}{w w':World}(h:∀ k,lo≤k→k<hi→w'.heap[k]? = w.heap[k]?)(hh:hi≤hi'):∀ k o,nm lo hi w k o→nm lo hi' w' k o:=fun k o hk=>⟨hk.1,Nat.lt_of_lt_of_le hk.2.1 hh,(h k hk.1 hk.2.1).trans hk.2.2.1,hk.2.2.2⟩
set_option maxRecDepth 100000 in
theorem cj4(w:World)(L:CD):FourI w ((w.alloc (.cells #[nilV,nilV,nilV,nilV] 78 (0,0))).alloc (.cells #[nilV,nilV,nilV,nilV] 78 (0,0))) L 0 [nilV,nilV,nilV,nilV]:=by
 have e:((w.alloc (.cells #[nilV,nilV,nilV,nilV] 78 (0,0))).alloc (.cells #[nilV,nilV,nilV,nilV] 78 (0,0))).heap=(w.heap.push (.cells #[nilV,nilV,nilV,nilV] 78 (0,0))).push (.cells #[nilV,nilV,nilV,nilV] 78 (0,0)):=rfl
 refine⟨((Below.refl _ w).alloc (Nat.le_refl _) _).alloc ?_ _,?_,?_,?_,rfl,fun j _ hj=>?_,fun _=>w.heap.size+2,Nat.le_refl _,fun _ _=>Nat.le_refl _,?_,fun j hj=>absurd hj (Nat.not_lt_zero _)⟩
 ·show w.heap.size≤(w.heap.push _).size
  rw [Array.size_push]
  omega
 ·rw [e,Array.size_push,Array.size_push]
  omega
 ·rw [e,Array.getElem?_push,if_neg (by rw [Array.size_push];omega),Array.getElem?_push,if_pos rfl]
 ·rw [e,Array.getElem?_push,if_pos (by rw [Array.size_push])]
 ·match j,hj with
  | 0,_=>rfl
  | 1,_=>rfl
  | 2,_=>rfl
  | 3,_=>rfl
 ·show w.heap.size+2≤_
  rw [e,Array.size_push,Array.size_push]
  omega
set_option maxRecDepth 100000 in
theorem cg5{w wr w':World}{L:CD}{k:Nat}{ss:List Value}(h:FourI w wr L k ss)(hk:Keep wr w'):FourI w w' L k ss:=by
 have hs:=h.size
 refine⟨h.below.trans ((b4j hk).mono (by omega)),Nat.le_trans h.size hk.size,(hk.old _ (by omega)).trans h.x,(hk.old _ (by omega)).trans h.y,h.len,h.rest,?_⟩
 obtain⟨q,q0,q1,q2,hr⟩:=h.regs
 refine⟨q,q0,q1,Nat.le_trans q2 hk.size,fun j hj=>?_⟩
 obtain⟨s',e1,r1⟩:=hr j hj
 have:=ckt q1 (j+1) k (by omega) (Nat.le_refl _)
 exact⟨s',e1,r1.mono (b5p (fun i _ hlt=>hk.old i (by omega)) (Nat.le_refl _))⟩
theorem cyr{w wr w':World}{L:CD}{k:Nat}{ss:List Value}{s:Value}(h:FourI w wr L k ss)(hk:Keep wr w')(hs:RS (newM wr w') sR (levD L k) s)(hk4:k<4) :
  FourI w (w'.setCell ⟨w.heap.size+1,k,none⟩ s) L (k+1) (ss.set k s):=by
 have h':=cg5 h hk
 have hsz:=h.size
 have hsz':=hk.size
 have hne:∀ j,j≠w.heap.size+1→(w'.setCell ⟨w.heap.size+1,k,none⟩ s).heap[j]? = w'.heap[j]?:=fun j hj=>Below.heap_setCell w' ⟨w.heap.size+1,k,none⟩ s j hj
 have hs':RS (nm wr.heap.size (w'.setCell ⟨w.heap.size+1,k,none⟩ s).heap.size (w'.setCell ⟨w.heap.size+1,k,none⟩ s)) sR (levD L k) s:=hs.mono (b5p (fun j hj hlt=>hne j (by omega)) (by rw [World.size_setCell];exact Nat.le_refl _))
 have hl:=h.len
 refine⟨h'.below.setCell (p:=⟨w.heap.size+1,k,none⟩) (by show w.heap.size≤w.heap.size+1;omega) _,by rw [World.size_setCell];omega,(hne _ (by omega)).trans h'.x,?_,by rw [List.length_set];exact hl,fun j h1 h2=>?_,?_⟩
 ·rw [heap_setCell_same w' _ _ _ _ s h'.y,List.setIfInBounds_toArray]
 ·rw [List.getElem?_set_ne (by omega)]
  exact h.rest j (by omega) h2
 ·obtain⟨q,q0,q1,q2,hr⟩:=h.regs
  have htr:∀ j,w.heap.size+2≤j→j<wr.heap.size→(w'.setCell ⟨w.heap.size+1,k,none⟩ s).heap[j]? = wr.heap[j]?:=fun j h1 h2=>(hne j (by omega)).trans (hk.old j h2)
  refine⟨fun i=>if i≤k then q i else(w'.setCell ⟨w.heap.size+1,k,none⟩ s).heap.size,?_,fun j hj=>?_,?_,fun j hj=>?_⟩
  ·dsimp only
   rw [if_pos (Nat.zero_le _)]
   exact q0
  ·dsimp only
   by_cases hjk:j=k
   ·rw [if_pos (by omega),if_neg (by omega),World.size_setCell,hjk]
    omega
   ·rw [if_pos (by omega),if_pos (by omega)]
    exact q1 j (by omega)
  ·dsimp only
   rw [if_neg (by omega)]
   exact Nat.le_refl _
  ·dsimp only
   by_cases hjk:j=k
   ·subst hjk
    rw [if_pos (Nat.le_refl _),if_neg (by omega)]
    exact⟨s,by rw [List.getElem?_set_self (by omega)],hs'.mono fun i o hi=>⟨by have:=hi.1;omega,hi.2⟩⟩
   ·obtain⟨s1,e1,r1⟩:=hr j (by omega)
    have m1:=ckt q1 0 j (by omega) (by omega)
    have m2:=ckt q1 (j+1) k (by omega) (Nat.le_refl _)
    rw [if_pos (by omega),if_pos (by omega)]
    exact⟨s1,by rw [List.getElem?_set_ne (by omega)];exact e1,r1.mono (b5p (fun i h3 h4=>htr i (by omega) (by omega)) (Nat.le_refl _))⟩
theorem b5q{m:Mem}{ss:List Srt}{d:CD}{u:Value}(h:RS m (.sl ss) d u):∃ a n c,u=.slice a n c:=by
 obtain⟨_,_,_,a,c,rfl,_⟩:=h.slice
 exact⟨_,_,_,rfl⟩
theorem dd7{ss:List Value}(h:ss.length=4):∃ a b c d,ss=[a,b,c,d]:=by
 match ss,h with
 | [a,b,c,d],_=>exact⟨a,b,c,d,rfl⟩
structure FourP (w w':World) (L:CD) (x0 x1 x2 x3:Value):Prop where
 below:Below w.heap.size w w'
 regs:∃ p0 p1 p2 p3,w.heap.size+2≤p0∧p0≤p1∧p1≤p2∧p2≤p3∧p3≤w'.heap.size∧RS (nm p0 p1 w') sR (levD L 0) x0∧RS (nm p1 p2 w') sR (levD L 1) x1∧RS (nm p2 p3 w') sR (levD L 2) x2∧RS (nm p3 w'.heap.size w') sR (levD L 3) x3
set_option maxRecDepth 100000 in
theorem c3g{w wr:World}{L:CD}{x0 x1 x2 x3:Value}(hT:Typ sLev L)(hl:L.rows.length≤4)(h:FourI w wr L L.rows.length [x0,x1,x2,x3]):FourP w wr L x0 x1 x2 x3:=by
 have hln:=hT.sl.1
 have hsz:=h.size
 have out:∀ (m:Mem) (j:Nat) (x:Value),L.rows.length≤j→[x0,x1,x2,x3][j]? = some x→j<4→RS m sR (levD L j) x:=fun m j x h1 h2 h3=>by
  have:=h.rest j h1 h3
  rw [h2] at this
  cases this
  rw [ccl hT (Int.natCast_nonneg _) (by omega)]
  exact .inl ⟨rfl,rfl⟩
 refine⟨h.below,?_⟩
 obtain⟨q,q0,q1,q2,hr⟩:=h.regs
 have key:∀ (j:Nat) (x:Value),j<4→[x0,x1,x2,x3][j]? = some x→RS (nm (q (min j L.rows.length)) (q (min (j+1) L.rows.length)) wr) sR (levD L j) x:=fun j x h2 h3=>by
  by_cases hj:j<L.rows.length
  ·obtain⟨s,e1,r1⟩:=hr j hj
   rw [h3] at e1
   cases e1
   rw [Nat.min_eq_left (by omega),Nat.min_eq_left (by omega)]
   exact r1
  ·exact out _ j x (by omega) h3 h2
 have mono:∀ i j,i≤j→q (min i L.rows.length)≤q (min j L.rows.length):=fun i j hij=>ckt q1 _ _ (by omega) (by omega)
 refine⟨q (min 0 L.rows.length),q (min 1 L.rows.length),q (min 2 L.rows.length),q (min 3 L.rows.length),?_,mono 0 1 (by omega),mono 1 2 (by omega),mono 2 3 (by omega),?_,key 0 _ (by omega) rfl,key 1 _ (by omega) rfl,key 2 _ (by omega) rfl,(key 3 _ (by omega) rfl).mono fun k o hk=>⟨hk.1,?_,hk.2.2⟩⟩
 ·rw [Nat.zero_min];exact q0
 ·exact Nat.le_trans (ckt q1 _ _ (by omega) (Nat.le_refl _)) q2
 ·have:=hk.2.1
  have:=ckt q1 (min (3+1) L.rows.length) L.rows.length (by omega) (Nat.le_refl _)
  omega
set_option maxRecDepth 100000 in
theorem cyp{w w' w2:World}{L:CD}{x0 x1 x2 x3:Value}(h:FourP w w' L x0 x1 x2 x3)(hb:Below w.heap.size w w2)(hs:w2.heap.size=w'.heap.size)(hk:∀ k,w.heap.size+2≤k→w2.heap[k]? = w'.heap[k]?):FourP w w2 L x0 x1 x2 x3:=by
 obtain⟨p0,p1,p2,p3,l0,l1,l2,l3,l4,r0,r1,r2,r3⟩:=h.regs
 exact⟨hb,p0,p1,p2,p3,l0,l1,l2,l3,by omega,r0.mono (b5p (fun k h1 _=>hk k (by omega)) (Nat.le_refl _)),r1.mono (b5p (fun k h1 _=>hk k (by omega)) (Nat.le_refl _)),r2.mono (b5p (fun k h1 _=>hk k (by omega)) (Nat.le_refl _)),r3.mono (b5p (fun k h1 _=>hk k (by omega)) (by omega))⟩
theorem cgi{w:World}{B:Nat}{x0 x1 x2 x3:Value}{t:TypeId}(h:w.heap[B]? = some (.cells #[x0,x1,x2,x3] t (0,0))):w.cell? ⟨B,0,none⟩=some x0∧w.cell? ⟨B,1,none⟩=some x1∧w.cell? ⟨B,2,none⟩=some x2∧w.cell? ⟨B,3,none⟩=some x3:=by
 haveI:Sg:=sg0
 exact⟨by rw [cell?_of h];rfl,by rw [cell?_of h];rfl,by rw [cell?_of h];rfl,by rw [cell?_of h];rfl⟩
theorem cc7{w:World}{B j:Nat}{cs:Array Value}{t:TypeId}(h:w.heap[B]? = some (.cells cs t (0,0))):w.frozen? ⟨B,j,none⟩=false:=by
 unfold World.frozen?
 rw [show w.heap[(⟨B,j,none⟩:Addr).block]? = _ from h]
 simp
theorem set4{wr:World}{B:Nat}{x0 x1 x2 x3 y0 y1 y2 y3:Value}{t:TypeId}(h:wr.heap[B]? = some (.cells #[y0,y1,y2,y3] t (0,0))):((((wr.setCell ⟨B,0,none⟩ x0).setCell ⟨B,1,none⟩ x1).setCell ⟨B,2,none⟩ x2).setCell ⟨B,3,none⟩ x3).heap[B]? = some (.cells #[x0,x1,x2,x3] t (0,0)):=by
 rw [heap_setCell_same _ _ _ _ _ x3 (heap_setCell_same _ _ _ _ _ x2 (heap_setCell_same _ _ _ _ _ x1 (heap_setCell_same _ _ _ _ _ x0 h)))]
 rfl
set_option maxHeartbeats 1000000 in
set_option maxRecDepth 100000 in
theorem dc6{wf:World}{B:Nat}{x0 x1 x2 x3:Value}{tmps:Array Value}(h:wf.heap[B]? = some (.cells #[x0,x1,x2,x3] 78 (0,0)))(ht:tmps.getD 2 undef=.pointer (some ⟨B,0,none⟩)):(results Try.f47 tmps).run Try.prog wf=.ok (.tuple #[.agg #[x0,x1,x2,x3],tmps.getD 3 undef]) wf:=by
 obtain⟨q0,q1,q2,q3⟩:=cgi h
 rw [results_cell_tmp (p:=2) (u:=3) (ty:=78) rfl,ht]
 simp [asAddr,Result.andThen,loadVar,go_sem,q0,q1,q2,q3]
set_option maxHeartbeats 1000000 in
set_option maxRecDepth 100000 in
theorem cj3{w:World}{L:CD}{u:Value}(h:RS (memW w) sLev L u)(hs:small L)(ho:b4c L=true) :
  Calls Try.prog 47 #[u] w fun e w'=>∃ x0 x1 x2 x3,e=.returned (.tuple #[.agg #[x0,x1,x2,x3],.bool true])∧FourP w w' L x0 x1 x2 x3:=by
 obtain⟨hl,a,cap,rfl,hc,hrow⟩:=c3u (fun _ _ h=>h) h
 obtain⟨n,hn⟩:∃ n,L.rows.length=n:=⟨_,rfl⟩
 have hn4:n≤4:=by have:=b7w ho;omega
 rw [hn] at h hc hrow ⊢
 have HR:=hidj hrow
 have HH:=hidj h
 have HO:=hidj ho
 have HS:=hidj hs
 have HN:=hidj (And.intro hn hl)
 have hT:Typ sLev L:=⟨_,_,h⟩
 have HT:=hidj hT
 clear hrow h ho hs hl hn hT
 have P1:=hidj (cj4 w L)
 go_enter Try.func47,Try.ntmps47
 go_wp2_with fail
 refine(cgk (HH.out.mono fun k o hk=>(P1.out.below.block k (Array.getElem?_eq_some_iff.1 hk).1).trans hk)).mono ?_
 rintro e w2 ⟨rfl,hk2⟩
 have P2:=hidj (cg5 P1.out hk2)
 clear hk2 P1
 rw [if_pos HO.out]
 go_wp2_with fail
 go_loopw [13] (fun q wr=>∃ (k:Nat) (ss:List Value),k≤n∧q=.int .i64 (k:Int)∧Hid (FourI w wr L k ss)) (fun q _=>n - (RowKit.intOf q).toNat)
 case atStart =>
  exact⟨0,_,Nat.zero_le _,rfl,P2⟩
 case round =>
  obtain⟨k,ss,hk,rfl,HW⟩:=hrel
  by_cases hkn:k<n
  ·obtain⟨b,off,s,rfl,hb,hcell,hrs⟩:=HR.out k hkn
   have hcell':wr.cell? ⟨b,off+k,none⟩=some s:=by
    rw [HW.out.below.cell (p:=⟨b,off+k,none⟩) hb]
    exact hcell
   have HRS:=hidj (hrs.mono fun j o hj=>(HW.out.below.block j (Array.getElem?_eq_some_iff.1 hj).1).trans hj)
   clear hrs
   have hb0:(0:Int)≤(k:Int):=Int.natCast_nonneg _
   have hb1:(k:Int)<(n:Int):=by omega
   have hb2:(k:Int)<4:=by omega
   have hy:=HW.out.y
   have hlk:(k:Int)<L.len:=by rw [HN.out.2,HN.out.1];exact hb1
   go_wp2_with fail
   refine(csb HRS.out (b6x HS.out HT.out hb0 hlk) (cll HS.out HT.out hb0 hlk)).mono ?_
   rintro e w3 ⟨s3,rfl,hk3,hr3⟩
   obtain⟨a3,n3,c3,rfl⟩:=b5q hr3
   have hlt:w.heap.size+1<wr.heap.size:=by have:=HW.out.size;omega
   have hy3:w3.heap[w.heap.size+1]? = some (.cells ss.toArray 78 (0,0)):=(hk3.old _ hlt).trans hy
   have hc3:w3.cell? ⟨w.heap.size+1,k,none⟩=some nilV:=by
    haveI:Sg:=sg0
    rw [cell?_of hy3,List.getElem?_toArray]
    exact HW.out.rest k (Nat.le_refl _) (by omega)
   have hf3:w3.frozen? ⟨w.heap.size+1,k,none⟩=false:=by
    unfold World.frozen?
    rw [show w3.heap[(⟨w.heap.size+1,k,none⟩:Addr).block]? = _ from hy3]
    simp
   have P3:=hidj (cyr HW.out hk3 hr3 (by omega))
   clear hk3 hr3 hy hy3
   go_wp2_with fail
   exact⟨⟨k+1,_,by omega,by go_num,P3⟩,by simp [RowKit.intOf];omega⟩
  ·have hke:k=n:=by omega
   subst hke
   obtain⟨x0,x1,x2,x3,rfl⟩:=dd7 HW.out.len
   obtain⟨y0,y1,y2,y3⟩:=cgi HW.out.y
   obtain⟨z0,z1,z2,z3⟩:=cgi HW.out.x
   have f0:=cc7 (j:=0) HW.out.x
   have f1:=cc7 (j:=1) HW.out.x
   have f2:=cc7 (j:=2) HW.out.x
   have f3:=cc7 (j:=3) HW.out.x
   have FP:=hidj (c3g HT.out (by rw [HN.out.1];omega) (by rw [HN.out.1];exact HW.out))
   obtain⟨_,_,_,_,_,_,_,_,_,r0,r1,r2,r3⟩:=FP.out.regs
   obtain⟨a0,n0,c0,rfl⟩:=b5q r0
   obtain⟨a1,n1,c1,rfl⟩:=b5q r1
   obtain⟨a2,n2,c2,rfl⟩:=b5q r2
   obtain⟨a3,n3,c3,rfl⟩:=b5q r3
   clear r0 r1 r2 r3
   go_wp2_with fail
   refine bodyPost_ret (dc6 (set4 HW.out.x) rfl) rfl ?_
   refine⟨_,_,_,_,rfl,cyp FP.out ?_ ?_ ?_⟩
   ·exact(((HW.out.below.setCell (p:=⟨w.heap.size,0,none⟩) (Nat.le_refl _) _).setCell (p:=⟨w.heap.size,1,none⟩) (Nat.le_refl _) _).setCell (p:=⟨w.heap.size,2,none⟩) (Nat.le_refl _) _).setCell (p:=⟨w.heap.size,3,none⟩) (Nat.le_refl _) _
   ·rw [World.size_setCell,World.size_setCell,World.size_setCell,World.size_setCell]
   ·intro j hj
    rw [Below.heap_setCell _ _ _ _ (show j≠w.heap.size by omega),Below.heap_setCell _ _ _ _ (show j≠w.heap.size by omega),Below.heap_setCell _ _ _ _ (show j≠w.heap.size by omega),Below.heap_setCell _ _ _ _ (show j≠w.heap.size by omega)]
set_option maxHeartbeats 1000000 in
set_option maxRecDepth 100000 in
theorem cyq{w:World}{L:CD}{u:Value}(h:RS (memW w) sLev L u)(ho:¬ b4c L=true) :
  Calls Try.prog 47 #[u] w fun e w'=>e=.returned (.tuple #[.agg #[nilV,nilV,nilV,nilV],.bool false])∧Below w.heap.size w w':=by
 have HH:=hidj h
 have HO:=hidj ho
 clear h ho
 have P1:=hidj (cj4 w L)
 go_enter Try.func47,Try.ntmps47
 go_wp2_with fail
 refine(cgk (HH.out.mono fun k o hk=>(P1.out.below.block k (Array.getElem?_eq_some_iff.1 hk).1).trans hk)).mono ?_
 rintro e w2 ⟨rfl,hk2⟩
 have P2:=hidj (cg5 P1.out hk2)
 clear hk2 P1
 rw [if_neg HO.out]
 obtain⟨z0,z1,z2,z3⟩:=cgi P2.out.x
 obtain⟨y0,y1,y2,y3⟩:=cgi P2.out.y
 have f0:=cc7 (j:=0) P2.out.x
 have f1:=cc7 (j:=1) P2.out.x
 have f2:=cc7 (j:=2) P2.out.x
 have f3:=cc7 (j:=3) P2.out.x
 go_wp2_with fail
 refine bodyPost_ret (dc6 (set4 P2.out.x) rfl) rfl ?_
 refine⟨rfl,?_⟩
 exact(((P2.out.below.setCell (p:=⟨w.heap.size,0,none⟩) (Nat.le_refl _) _).setCell (p:=⟨w.heap.size,1,none⟩) (Nat.le_refl _) _).setCell (p:=⟨w.heap.size,2,none⟩) (Nat.le_refl _) _).setCell (p:=⟨w.heap.size,3,none⟩) (Nat.le_refl _) _
end Go.Proofs.Ytlbbkmcegbeckaa

namespace Go.Proofs.Ytlbbkmcegbeckaa
open Go.Sx Go.Proofs Go.RowKit Go.Lib
theorem dbl:(Try.prog.info? 36).map (fun i=>(i.zero,i.size,i.bytes))=some (some nilV,1,24):=by kernel_rfl
theorem t22:Try.prog.underlying 22=some (.slice 36):=by kernel_rfl
set_option maxHeartbeats 1000000 in
set_option maxRecDepth 100000 in
theorem crq{w:World}{b:Nat}{x0 x1 x2 x3:Value}{t:TypeId}{c:Nat}(h:w.heap[b]? = some (.cells #[x0,x1,x2,x3] t (0,0)))(h0:x0.oneCell'=true)(h1:x1.oneCell'=true)(h2:x2.oneCell'=true)(h3:x3.oneCell'=true) :
  Calls Try.prog 98 #[.slice (some ⟨b,0,none⟩) 4 c] w fun e w'=>∃ k cap arr,e=.returned (.slice (some ⟨k,0,none⟩) 4 cap)∧Below w.heap.size w w'∧w.heap.size≤k∧4≤cap∧cap≤maxLen∧w'.heap[k]? = some (.cells (#[x0,x1,x2,x3]++arr) 36 (0,0))∧arr.size=cap - 4∧∀ (j:Nat) (u:Value),arr[j]? = some u→u=nilV:=by
 obtain⟨i0,hi0,hz0,hzs,hzb⟩:=info_parts dbl
 have HH:=hidj h
 have hnil:∀ W:World,(binOp .eql 22 (.slice (some ⟨b,0,none⟩) 4 c) nilV).run Try.prog W=.ok (.bool false) W:=fun W=>Lib.run_eql_slice_nil W 22 36 (some ⟨b,0,none⟩) 4 c 0 0 t22
 obtain⟨W1,hW1⟩:∃ W1,W1=w.alloc (.cells #[] 36 (0,0)):=⟨_,rfl⟩
 have hbw:b<w.heap.size:=(Array.getElem?_eq_some_iff.1 HH.out).1
 have hb1:Below w.heap.size w W1:=by rw [hW1];exact(Below.refl _ w).alloc (Nat.le_refl _) _
 have hs1:W1.heap.size=w.heap.size+1:=by rw [hW1];show(w.heap.push _).size=_;rw [Array.size_push]
 obtain⟨q0,q1,q2,q3⟩:=cgi ((hb1.block b hbw).trans HH.out)
 have hsrc:Src Try.prog i0.size 22 (.slice (some ⟨b,0,none⟩) 4 c) 4 [x0,x1,x2,x3] W1:=Src.ofSlice W1 t22 ⟨b,0,none⟩ 4 c [x0,x1,x2,x3] (by rw [hzs];rfl) (fun j u hj=>by
  rw [Addr.add_lit,Nat.zero_add]
  match j,hj with
  | 0,hj=>cases hj;exact q0
  | 1,hj=>cases hj;exact q1
  | 2,hj=>cases hj;exact q2
  | 3,hj=>cases hj;exact q3) (fun u hu=>by
  simp only [List.mem_cons,List.not_mem_nil,or_false] at hu
  rcases hu with rfl | rfl | rfl | rfl
  ·exact h0
  ·exact h1
  ·exact h2
  ·exact h3)
 have hold:(Builtin.firstCells i0.size 0 (.slice (some ⟨w.heap.size,0,none⟩) 0 0)).run Try.prog W1.drew=.ok ([]:List Value).toArray W1.drew:=run_firstCells_some W1.drew i0.size 0 ⟨w.heap.size,0,none⟩ 0 0 [] (by simp) (fun j v hj=>by simp at hj)
 have hrun:∀ ty,(Builtin.append_ #[22,22] ty #[.slice (some ⟨w.heap.size,0,none⟩) 0 0,.slice (some ⟨b,0,none⟩) 4 c]).run Try.prog W1=.ok (.slice (some ⟨W1.heap.size,0,none⟩) 4 (grownCap W1 4 0 36)) (W1.drew.alloc (.cells (#[x0,x1,x2,x3]++Builtin.zeroCells nilV.cells (grownCap W1 4 0 36 - 4)) 36)):=fun ty=>by
  have h:=run_append_grow_src W1 22 22 ty 36 i0 _ t22 hi0 hz0 (some ⟨w.heap.size,0,none⟩) 0 0 [] hold _ 4 [x0,x1,x2,x3] hsrc (by omega) (by omega) (by rw [hzb];exact growslice_fits (need:=0+4) (by omega) (by omega))
  simpa using h
 have hg:=grownCap_ge W1 4 0 36
 have hgx:=grownCap_le_maxLen W1 4 0 36 (by unfold maxLen;omega)
 generalize grownCap W1 4 0 36=G at *
 subst hW1
 go_enter Try.func98,Try.ntmps98
 go_wp2_with (at_builtin;refine Lib.wpList_append_run _ rfl _ _ _ _ rfl _ _ rfl rfl _ _ (hrun _) ?_)
 go_returns
 refine⟨_,_,Builtin.zeroCells #[nilV] (G - 4),rfl,hb1.drew.alloc hb1.size _,by have:=hs1;omega,hg,hgx,?_,?_,fun j u hj=>?_⟩
 ·show((w.heap.push _).push _)[w.heap.size+1]? = _
  rw [Array.getElem?_push,if_pos (by rw [Array.size_push])]
 ·unfold Builtin.zeroCells
  rw [Array.size_map,Array.size_range]
  exact Nat.mul_one _
 ·unfold Builtin.zeroCells at hj
  rw [Array.getElem?_map] at hj
  obtain⟨i,hi,rfl⟩:=Option.map_eq_some_iff.1 hj
  show(#[nilV])[i % 1]! = nilV
  rw [Nat.mod_one]
  rfl
structure Told (w w':World) (x0 x1 x2 x3 s:Value):Prop where
 below:Below w.heap.size w w'
 at':∃ k cap arr,s=.slice (some ⟨k,0,none⟩) 4 cap∧w.heap.size≤k∧4≤cap∧cap≤maxLen∧w'.heap[k]? = some (.cells (#[x0,x1,x2,x3]++arr) 36 (0,0))∧arr.size=cap - 4∧∀ (j:Nat) (u:Value),arr[j]? = some u→u=nilV
set_option maxHeartbeats 1000000 in
set_option maxRecDepth 100000 in
theorem cwj{w:World}{a0 a1 a2 a3:Option Addr}{n0 n1 n2 n3 c0 c1 c2 c3:Nat} :
  Calls Try.prog 51 #[.agg #[.slice a0 n0 c0,.slice a1 n1 c1,.slice a2 n2 c2,.slice a3 n3 c3]] w fun e w'=>∃ s,e=.returned s∧Told w w' (.slice a0 n0 c0) (.slice a1 n1 c1) (.slice a2 n2 c2) (.slice a3 n3 c3) s:=by
 have hob:(w.alloc (.cells #[.slice a0 n0 c0,.slice a1 n1 c1,.slice a2 n2 c2,.slice a3 n3 c3] 78 (0,0))).heap[w.heap.size]? = some (.cells #[.slice a0 n0 c0,.slice a1 n1 c1,.slice a2 n2 c2,.slice a3 n3 c3] 78 (0,0)):=by
  show(w.heap.push _)[w.heap.size]? = _
  rw [Array.getElem?_push,if_pos rfl]
 have HO:=hidj hob
 clear hob
 go_enter Try.func51,Try.ntmps51
 go_wp2_with fail
 refine(crq HO.out rfl rfl rfl rfl).mono ?_
 rintro e w2 ⟨k,cap,arr,rfl,hb,hk,h4,hm,hh,ha,hz⟩
 go_wp2_with fail
 go_returns
 have hs:(w.alloc (.cells #[.slice a0 n0 c0,.slice a1 n1 c1,.slice a2 n2 c2,.slice a3 n3 c3] 78 (0,0))).heap.size=w.heap.size+1:=by
  show(w.heap.push _).size=_
  rw [Array.size_push]
 exact⟨_,rfl,((Below.refl _ w).alloc (Nat.le_refl _) _).trans (hb.mono (by omega)),k,cap,arr,rfl,by omega,h4,hm,hh,ha,hz⟩
end Go.Proofs.Ytlbbkmcegbeckaa

namespace Go.Proofs.Ytlbbkmcegbeckaa
open Go.Sx Go.Proofs Go.RowKit Go.Lib
theorem c9v{w w':World}{M:Mem}{x0 x1 x2 x3 s:Value}{d0 d1 d2 d3:CD}(h:Told w w' x0 x1 x2 x3 s)(hM:∀ k o,w.heap.size≤k→w'.heap[k]? = some o→Nice o→M k o)(h0:RS M sR d0 x0)(h1:RS M sR d1 x1)(h2:RS M sR d2 x2)(h3:RS M sR d3 x3):RS M sLev (.sl false [[d0],[d1],[d2],[d3]]) s:=by
 obtain⟨k,cap,arr,rfl,hk,h4,hm,hh,ha,hz⟩:=h.at'
 have hno8:∀ (j:Nat) (u:Value),(#[x0,x1,x2,x3]++arr)[j]? = some u→is8 u=false:=fun j u hj=>by
  haveI:Sg:=sg0
  match j,hj with
  | 0,hj=>rw [Array.getElem?_append_left (by simp)] at hj;cases hj;exact h0.is8
  | 1,hj=>rw [Array.getElem?_append_left (by simp)] at hj;cases hj;exact h1.is8
  | 2,hj=>rw [Array.getElem?_append_left (by simp)] at hj;cases hj;exact h2.is8
  | 3,hj=>rw [Array.getElem?_append_left (by simp)] at hj;cases hj;exact h3.is8
  | j+4,hj =>
   rw [Array.getElem?_append_right (by simp)] at hj
   rw [hz _ _ hj]
   rfl
 have hN:Nice (.cells (#[x0,x1,x2,x3]++arr) 36 (0,0)):=⟨_,_,_,rfl,.inl rfl,false,hno8⟩
 have g0:(#[x0,x1,x2,x3]++arr)[0]? = some x0:=by rw [Array.getElem?_append_left (by simp)];rfl
 have g1:(#[x0,x1,x2,x3]++arr)[1]? = some x1:=by rw [Array.getElem?_append_left (by simp)];rfl
 have g2:(#[x0,x1,x2,x3]++arr)[2]? = some x2:=by rw [Array.getElem?_append_left (by simp)];rfl
 have g3:(#[x0,x1,x2,x3]++arr)[3]? = some x3:=by rw [Array.getElem?_append_left (by simp)];rfl
 rw [cm1] at hm
 refine .inr (.inl ⟨_,k,0,cap,rfl,rfl,h4,hm,fun _=>⟨_,_,_,⟨hM _ _ hk hh hN,?_⟩,fun i row hi=>?_⟩⟩)
 ·rw [Array.size_append,ha]
  show 0+cap*1≤4+(cap - 4)
  omega
 ·match i,hi with
  | 0,hi=>cases hi;exact⟨_,_,x0,rfl,g0,h0,rfl⟩
  | 1,hi=>cases hi;exact⟨_,_,x1,rfl,g1,h1,rfl⟩
  | 2,hi=>cases hi;exact⟨_,_,x2,rfl,g2,h2,rfl⟩
  | 3,hi=>cases hi;exact⟨_,_,x3,rfl,g3,h3,rfl⟩
set_option maxRecDepth 100000 in
theorem c4x{m:Mem}{r0 r1 r2 r3 r4:CD}{u:Value}(h:b5z m (true,sRun) [r0,r1,r2,r3,r4] u):∃ (n0 n1 n2:Int) (a3:Option Addr) (n3 c3:Nat) (a4:Option Addr) (n4 c4:Nat),u=.agg #[.int .i64 n0,.int .i64 n1,.int .i64 n2,.slice a3 n3 c3,.slice a4 n4 c4]∧RSs m sRun [r0,r1,r2,r3,r4] fun j=>[Value.int .i64 n0,.int .i64 n1,.int .i64 n2,.slice a3 n3 c3,.slice a4 n4 c4][j]?:=by
 obtain⟨us,rfl,hs,h⟩:=h
 have h':=h
 obtain⟨c0,q0,u0,e0,f0,⟨n0,g0,k0,_⟩,c1,q1,u1,e1,f1,⟨n1,g1,k1,_⟩,c2,q2,u2,e2,f2,⟨n2,g2,k2,_⟩,c3,q3,u3,e3,f3,g3,c4,q4,u4,e4,f4,g4,e5⟩:=h
 obtain⟨a3,n3,p3,k3⟩:=b5q g3
 obtain⟨a4,n4,p4,k4⟩:=b5q g4
 subst k0;subst k1;subst k2;subst k3;subst k4
 have hl:us.size=5:=hs
 have e:us = #[.int .i64 n0,.int .i64 n1,.int .i64 n2,.slice a3 n3 p3,.slice a4 n4 p4]:=by
  apply Array.ext_getElem?
  intro j
  match j with
  | 0=>exact f0
  | 1=>exact f1
  | 2=>exact f2
  | 3=>exact f3
  | 4=>exact f4
  | j+5=>rw [Array.getElem?_eq_none (by omega),Array.getElem?_eq_none (by show 5≤j+5;omega)]
 refine⟨n0,n1,n2,a3,n3,p3,a4,n4,p4,by rw [e],h'.congr fun j _=>?_⟩
 show _=us[j]?
 rw [e,List.getElem?_toArray]
structure AddI (w wr:World) (L:CD) (B:Nat) (r:List Value) (x0 x1 x2 x3:Value):Prop where
 below:Below w.heap.size w wr
 box:wr.heap[w.heap.size]? = some (.cells r.toArray 27 (0,0))
 arr:wr.heap[B]? = some (.cells #[x0,x1,x2,x3] 78 (0,0))
 regs:∃ p1 p2 p3,w.heap.size+1≤p1∧p1≤p2∧p2≤p3∧p3≤B∧RS (nm (w.heap.size+1) p1 wr) sR (levD L 0) x0∧RS (nm p1 p2 wr) sR (levD L 1) x1∧RS (nm p2 p3 wr) sR (levD L 2) x2∧RS (nm p3 B wr) sR (levD L 3) x3
set_option maxRecDepth 100000 in
theorem cjr{w w1 w2:World}{L:CD}{r:List Value}{x0 x1 x2 x3:Value}(h1:w1=w.alloc (.cells r.toArray 27 (0,0)))(h:FourP w1 w2 L x0 x1 x2 x3) :
  AddI w (w2.alloc (.cells #[x0,x1,x2,x3] 78 (0,0))) L w2.heap.size r x0 x1 x2 x3:=by
 have hs1:w1.heap.size=w.heap.size+1:=by rw [h1];show(w.heap.push _).size=_;rw [Array.size_push]
 have hb1:Below w.heap.size w w1:=by rw [h1];exact(Below.refl _ w).alloc (Nat.le_refl _) _
 have hb2:Below w.heap.size w w2:=hb1.trans (h.below.mono (by omega))
 have hsz:=h.below.size
 have hkeep:∀ k,k<w2.heap.size→(w2.alloc (.cells #[x0,x1,x2,x3] 78 (0,0))).heap[k]? = w2.heap[k]?:=fun k hk=>Below.heap_alloc w2 _ k hk
 obtain⟨p0,p1,p2,p3,l0,l1,l2,l3,l4,r0,r1,r2,r3⟩:=h.regs
 have hw:w.heap.size≤w2.heap.size:=hb2.size
 refine⟨hb2.alloc hw _,?_,?_,p1,p2,p3,by omega,l2,l3,l4,?_,?_,?_,?_⟩
 ·rw [hkeep _ (by omega),h.below.block _ (by omega),h1]
  show(w.heap.push _)[w.heap.size]? = _
  rw [Array.getElem?_push,if_pos rfl]
 ·show(w2.heap.push _)[w2.heap.size]? = _
  rw [Array.getElem?_push,if_pos rfl]
 ·exact(r0.mono (b5p (fun k _ hk=>hkeep k (by omega)) (Nat.le_refl _))).mono fun k o hk=>⟨by have:=hk.1;omega,hk.2⟩
 ·exact r1.mono (b5p (fun k _ hk=>hkeep k (by omega)) (Nat.le_refl _))
 ·exact r2.mono (b5p (fun k _ hk=>hkeep k (by omega)) (Nat.le_refl _))
 ·exact r3.mono (b5p (fun k _ hk=>hkeep k hk) (Nat.le_refl _))
theorem cdb{w wr w':World}{L:CD}{B:Nat}{r:List Value}{x0 x1 x2 x3:Value}(h:AddI w wr L B r x0 x1 x2 x3)(hb:Below wr.heap.size wr w'):AddI w w' L B r x0 x1 x2 x3:=by
 have hB:B<wr.heap.size:=(Array.getElem?_eq_some_iff.1 h.arr).1
 have hx:w.heap.size<wr.heap.size:=(Array.getElem?_eq_some_iff.1 h.box).1
 obtain⟨p1,p2,p3,l1,l2,l3,l4,r0,r1,r2,r3⟩:=h.regs
 exact⟨h.below.trans (hb.mono (by omega)),(hb.block _ hx).trans h.box,(hb.block _ hB).trans h.arr,p1,p2,p3,l1,l2,l3,l4,r0.mono (b5p (fun k _ hk=>hb.block k (by omega)) (Nat.le_refl _)),r1.mono (b5p (fun k _ hk=>hb.block k (by omega)) (Nat.le_refl _)),r2.mono (b5p (fun k _ hk=>hb.block k (by omega)) (Nat.le_refl _)),r3.mono (b5p (fun k _ hk=>hb.block k (by omega)) (Nat.le_refl _))⟩
theorem cof{w wr w':World}{L:CD}{B:Nat}{r:List Value}{x0 x1 x2 x3:Value}(h:AddI w wr L B r x0 x1 x2 x3)(hk:Keep wr w'):AddI w w' L B r x0 x1 x2 x3:=cdb h (b4j hk)
theorem cot{w:World}{B:Nat}{x0 x1 x2 x3 x4:Value}{t:TypeId}(h:w.heap[B]? = some (.cells #[x0,x1,x2,x3,x4] t (0,0))):w.cell? ⟨B,0,none⟩=some x0∧w.cell? ⟨B,1,none⟩=some x1∧w.cell? ⟨B,2,none⟩=some x2∧w.cell? ⟨B,3,none⟩=some x3∧w.cell? ⟨B,4,none⟩=some x4:=by
 haveI:Sg:=sg0
 exact⟨by rw [cell?_of h];rfl,by rw [cell?_of h];rfl,by rw [cell?_of h];rfl,by rw [cell?_of h];rfl,by rw [cell?_of h];rfl⟩
theorem c6c{L:CD}{r:List CD}(h:b6q L r=false):addN L r=2∧addD L r=.sl true []:=by
 unfold addN addD
 rw [h]
 exact⟨rfl,rfl⟩
set_option maxHeartbeats 400000 in
set_option maxRecDepth 100000 in
theorem cs9{w:World}{L r0 r1 r2 r3 r4:CD}{u v:Value}(h:RS (memW w) sLev L u)(hs:small L)(hv:b5z (memW w) (true,sRun) [r0,r1,r2,r3,r4] v)(ho:b6q L [r0,r1,r2,r3,r4]=false) :
  Calls Try.prog 10 #[u,v] w fun e w'=>e=.returned (.tuple #[nilV,.int .i64 2])∧Below w.heap.size w w':=by
 obtain⟨n0,n1,n2,a3,n3,c3,a4,n4,c4,rfl,hrow⟩:=c4x hv
 have HH:=hidj h
 have HV:=hidj hv
 have HS:=hidj hs
 obtain⟨w1,hw1⟩:∃ w1,w1=w.alloc (.cells #[.int .i64 n0,.int .i64 n1,.int .i64 n2,.slice a3 n3 c3,.slice a4 n4 c4] 27 (0,0)):=⟨_,rfl⟩
 have HB:=hidj (show Below w.heap.size w w1 by rw [hw1];exact(Below.refl _ w).alloc (Nat.le_refl _) _)
 have HR:=hidj (h.mono fun k o hk=>(HB.out.block k (Array.getElem?_eq_some_iff.1 hk).1).trans hk)
 have HW:=hidj hw1
 clear h hv hs hrow
 by_cases hok:b4c L=true
 ·have hmay:b5s [r0,r1,r2,r3,r4]=false:=by
   unfold b6q at ho
   rw [hok,Bool.true_and] at ho
   exact ho
  go_enter Try.func10,Try.ntmps10
  go_wp2_with fail
  rw [← HW.out]
  refine(cj3 HR.out HS.out hok).mono ?_
  rintro e w2 ⟨x0,x1,x2,x3,rfl,hp⟩
  obtain⟨_,_,_,_,_,_,_,_,_,q0,q1,q2,q3⟩:=hp.regs
  obtain⟨b0,m0,d0,rfl⟩:=b5q q0
  obtain⟨b1,m1,d1,rfl⟩:=b5q q1
  obtain⟨b2,m2,d2,rfl⟩:=b5q q2
  obtain⟨b3,m3,d3,rfl⟩:=b5q q3
  clear q0 q1 q2 q3
  have HA:=hidj (cjr (r:=[.int .i64 n0,.int .i64 n1,.int .i64 n2,.slice a3 n3 c3,.slice a4 n4 c4]) HW.out hp)
  clear hp
  obtain⟨z0,z1,z2,z3,z4⟩:=cot HA.out.box
  go_wp2_with fail
  refine(cpt (HV.out.mono fun k o hk=>(HA.out.below.block k (Array.getElem?_eq_some_iff.1 hk).1).trans hk)).mono ?_
  rintro e w3 ⟨rfl,hk3⟩
  rw [hmay]
  go_wp2_with fail
  go_returns
  exact⟨rfl,(cof HA.out hk3).below⟩
 ·go_enter Try.func10,Try.ntmps10
  go_wp2_with fail
  rw [← HW.out]
  refine(cyq HR.out hok).mono ?_
  rintro e w2 ⟨rfl,hb⟩
  go_wp2_with fail
  go_returns
  have hs1:w1.heap.size=w.heap.size+1:=by rw [HW.out];show(w.heap.push _).size=_;rw [Array.size_push]
  exact⟨rfl,(HB.out.trans (hb.mono (by omega))).alloc (Nat.le_trans HB.out.size hb.size) _⟩
theorem c3t{L:CD}(hs:small L)(hT:Typ sLev L):(L.cell 0 0).rows.length≤1000:=by
 by_cases h:(0:Int)<L.len
 ·have h1:=b6x hs hT (Int.le_refl 0) h
  have h2:=(hT.cell (i:=0) (j:=0) (Int.le_refl 0) h rfl).sl.1
  omega
 ·rw [cb8 hT (Int.le_refl 0) h]
  exact Nat.zero_le _
structure AddJ (w wr:World) (L:CD) (B p1 p2 p3:Nat) (r:List CD) (s x1 x2 x3:Value):Prop where
 below:Below w.heap.size w wr
 ord:w.heap.size<p1∧p1≤p2∧p2≤p3∧p3≤B
 arr:wr.heap[B]? = some (.cells #[s,x1,x2,x3] 78 (0,0))
 r0:RS (fun k o=>((w.heap.size≤k∧k<p1)∨B<k)∧wr.heap[k]? = some o∧Nice o) sR (.sl false (r::(L.cell 0 0).rows)) s
 r1:RS (nm p1 p2 wr) sR (levD L 1) x1
 r2:RS (nm p2 p3 wr) sR (levD L 2) x2
 r3:RS (nm p3 B wr) sR (levD L 3) x3
set_option maxHeartbeats 1000000 in
set_option maxRecDepth 100000 in
theorem c68{w w3 w4 w5 W5:World}{L:CD}{B p1 p2 p3:Nat}{r:List Value}{row:List CD}{x0 x1 x2 x3 s:Value}(h:AddI w W5 L B r x0 x1 x2 x3)(l1:w.heap.size+1≤p1)(l2:p1≤p2)(l3:p2≤p3)(l4:p3≤B)(h1:RS (nm p1 p2 W5) sR (levD L 1) x1)(h2:RS (nm p2 p3 W5) sR (levD L 2) x2)(h3:RS (nm p3 B W5) sR (levD L 3) x3)
  (hB3:B<w3.heap.size) (h34:Below w3.heap.size w3 w4) (h45:Below w4.heap.size w4 W5) (hb5:Below (w.heap.size+1) W5 w5) (hk5:∀ k,p1≤k→k<W5.heap.size→w5.heap[k]? = W5.heap[k]?)
  (hM:∀ M:Mem,(∀ k o,nm w3.heap.size w4.heap.size w4 k o→M k o)→(∀ k o,w.heap.size+1≤k→(k<p1∨W5.heap.size≤k)→w5.heap[k]? = some o→Nice o→M k o)→RS M sR (.sl false (row::(L.cell 0 0).rows)) s) :
  AddJ w (w5.setCell ⟨B,0,none⟩ s) L B p1 p2 p3 row s x1 x2 x3:=by
 have hne:∀ k,k≠B→(w5.setCell ⟨B,0,none⟩ s).heap[k]? = w5.heap[k]?:=fun k hk=>Below.heap_setCell w5 ⟨B,0,none⟩ s k hk
 have hs4:=h34.size
 have hs5:=h45.size
 have hBW:B<W5.heap.size:=(Array.getElem?_eq_some_iff.1 h.arr).1
 have tr:∀ k,p1≤k→k<B→(w5.setCell ⟨B,0,none⟩ s).heap[k]? = W5.heap[k]?:=fun k a b=>by rw [hne k (by omega),hk5 k a (by omega)]
 refine⟨(h.below.trans (hb5.mono (by omega))).setCell (p:=⟨B,0,none⟩) (by show w.heap.size≤B;omega) _,by omega,?_,hM _ (fun k o ⟨a,b,c,d⟩=>⟨.inr (by omega),?_,d⟩) (fun k o a b c d=>⟨by omega,by rw [hne k (by omega)];exact c,d⟩),h1.mono (b5p (fun k a b=>tr k a (by omega)) (Nat.le_refl _)),h2.mono (b5p (fun k a b=>tr k (by omega) (by omega)) (Nat.le_refl _)),h3.mono (b5p (fun k a b=>tr k (by omega) b) (Nat.le_refl _))⟩
 ·rw [heap_setCell_same w5 B 0 _ _ s ((hk5 B (by omega) hBW).trans h.arr)]
  rfl
 ·rw [hne k (by omega),hk5 k (by omega) (by omega),h45.block k b]
  exact c
def Apart(w w':World)(d0 d1 d2 d3:CD)(s:Value):Prop:=∃ (kx cap:Nat) (arr:Array Value) (x0 x1 x2 x3:Value) (A:Nat→Nat→Prop),s=.slice (some ⟨kx,0,none⟩) 4 cap∧w'.heap[kx]? = some (.cells (#[x0,x1,x2,x3]++arr) 36 (0,0))∧w.heap.size≤kx∧(∀ j k,A j k→w.heap.size≤k∧k≠kx)∧(∀ i j k,A i k→A j k→i=j) ∧
 RS (fun k o=>A 0 k∧w'.heap[k]? = some o∧Nice o) sR d0 x0∧RS (fun k o=>A 1 k∧w'.heap[k]? = some o∧Nice o) sR d1 x1∧RS (fun k o=>A 2 k∧w'.heap[k]? = some o∧Nice o) sR d2 x2∧RS (fun k o=>A 3 k∧w'.heap[k]? = some o∧Nice o) sR d3 x3
set_option maxHeartbeats 1000000 in
set_option maxRecDepth 100000 in
theorem c2n{w wr w':World}{L:CD}{B p1 p2 p3:Nat}{r:List CD}{x0 x1 x2 x3 s:Value}(h:AddJ w wr L B p1 p2 p3 r x0 x1 x2 x3)(ho:b6q L r=true)(ht:Told wr w' x0 x1 x2 x3 s):Below w.heap.size w w'∧RS (newM w w') sLev (addD L r) s∧Apart w w' (.sl false (r::(L.cell 0 0).rows)) (levD L 1) (levD L 2) (levD L 3) s:=by
 have hsz:=h.below.size
 obtain⟨l1,l2,l3,l4⟩:=h.ord
 have hB:B<wr.heap.size:=(Array.getElem?_eq_some_iff.1 h.arr).1
 have e:addD L r=.sl false [[.sl false (r::(L.cell 0 0).rows)],[levD L 1],[levD L 2],[levD L 3]]:=by
  unfold addD
  rw [if_pos ho]
 have tr0:∀ k o,wr.heap[k]? = some o→k<wr.heap.size∧w'.heap[k]? = some o:=fun k o c=>by
  have hk:k<wr.heap.size:=(Array.getElem?_eq_some_iff.1 c).1
  exact⟨hk,(ht.below.block k hk).trans c⟩
 have tr:∀ k o,w.heap.size≤k→wr.heap[k]? = some o→Nice o→newM w w' k o:=fun k o a c d=>by
  obtain⟨hk,h2⟩:=tr0 k o c
  exact⟨a,by have:=ht.below.size;omega,h2,d⟩
 refine⟨h.below.trans (ht.below.mono hsz),?_,?_⟩
 ·rw [e]
  exact c9v ht (fun k o a b c=>⟨by omega,(Array.getElem?_eq_some_iff.1 b).1,b,c⟩) (h.r0.mono fun k o hk=>tr k o (by omega) hk.2.1 hk.2.2) (h.r1.mono fun k o hk=>tr k o (by have:=hk.1;omega) hk.2.2.1 hk.2.2.2) (h.r2.mono fun k o hk=>tr k o (by have:=hk.1;omega) hk.2.2.1 hk.2.2.2) (h.r3.mono fun k o hk=>tr k o (by have:=hk.1;omega) hk.2.2.1 hk.2.2.2)
 ·obtain⟨kx,cap,arr,rfl,hk,_,_,hh,_,_⟩:=ht.at'
  let A:Nat→Nat→Prop:=fun j k=>k<wr.heap.size∧((j=0∧((w.heap.size≤k∧k<p1)∨B<k))∨(j=1∧p1≤k∧k<p2)∨(j=2∧p2≤k∧k<p3)∨(j=3∧p3≤k∧k<B))
  refine⟨kx,cap,arr,x0,x1,x2,x3,A,rfl,hh,by omega,fun j k ⟨a,b⟩=>by omega,fun i j k ⟨a,b⟩ ⟨c,d⟩=>by omega,?_,?_,?_,?_⟩
  ·exact h.r0.mono fun k o hk=>⟨⟨(tr0 k o hk.2.1).1,.inl ⟨rfl,hk.1⟩⟩,(tr0 k o hk.2.1).2,hk.2.2⟩
  ·exact h.r1.mono fun k o hk=>⟨⟨(tr0 k o hk.2.2.1).1,.inr (.inl ⟨rfl,hk.1,hk.2.1⟩)⟩,(tr0 k o hk.2.2.1).2,hk.2.2.2⟩
  ·exact h.r2.mono fun k o hk=>⟨⟨(tr0 k o hk.2.2.1).1,.inr (.inr (.inl ⟨rfl,hk.1,hk.2.1⟩))⟩,(tr0 k o hk.2.2.1).2,hk.2.2.2⟩
  ·exact h.r3.mono fun k o hk=>⟨⟨(tr0 k o hk.2.2.1).1,.inr (.inr (.inr ⟨rfl,hk.1,hk.2.1⟩))⟩,(tr0 k o hk.2.2.1).2,hk.2.2.2⟩
end Go.Proofs.Ytlbbkmcegbeckaa

namespace Go.Proofs.Ytlbbkmcegbeckaa
open Go.Sx Go.Proofs Go.RowKit Go.Lib
theorem Below.trans'{w w1 w2:World}(h:Below w.drew.heap.size w.drew w1)(h':Below w1.heap.size w1 w2):Below w.heap.size w w2:=by
 have hs:=h.size
 exact⟨h'.os.trans h.os,h'.tape.trans h.tape,h'.output.trans h.output,Nat.le_trans hs h'.size,fun k hk=>(h'.block k (Nat.lt_of_lt_of_le hk hs)).trans (h.block k hk)⟩
theorem cev(w:World)(o:Obj):(w.alloc o).heap[w.heap.size]? = some o:=by
 show(w.heap.push _)[w.heap.size]? = _
 rw [Array.getElem?_push,if_pos rfl]
set_option maxHeartbeats 4000000 in
set_option maxRecDepth 100000 in
theorem cxk{w:World}{L r0 r1 r2 r3 r4:CD}{u v:Value}(h:RS (memW w) sLev L u)(hs:small L)(hv:b5z (memW w) (true,sRun) [r0,r1,r2,r3,r4] v)(l3:(r3.len:Int)≤200)(l4:(r4.len:Int)≤200)(ho:b6q L [r0,r1,r2,r3,r4]=true) :
    Calls Try.prog 10 #[u,v] w fun e w'=>∃ s,e=.returned (.tuple #[s,.int .i64 0])∧Below w.heap.size w w'∧RS (newM w w') sLev (addD L [r0,r1,r2,r3,r4]) s∧Apart w w' (.sl false ([r0,r1,r2,r3,r4]::(L.cell 0 0).rows)) (levD L 1) (levD L 2) (levD L 3) s:=by
  obtain⟨n0,n1,n2,a3,n3,c3,a4,n4,c4,rfl,hrow⟩:=c4x hv
  have hok:b4c L=true:=by
    unfold b6q at ho
    rw [Bool.and_eq_true] at ho
    exact ho.1
  have hmay:b5s [r0,r1,r2,r3,r4]=true:=by
    unfold b6q at ho
    rw [Bool.and_eq_true] at ho
    exact ho.2
  have HV:=hidj hv
  have HS:=hidj hs
  have HT:=hidj (show Typ sLev L from⟨_,_,h⟩)
  have HOK:=hidj ho
  have HL:=hidj (And.intro l3 l4)
  obtain⟨w1,hw1⟩:∃ w1,w1=w.alloc (.cells #[.int .i64 n0,.int .i64 n1,.int .i64 n2,.slice a3 n3 c3,.slice a4 n4 c4] 27 (0,0)):=⟨_,rfl⟩
  have HB:=hidj (show Below w.heap.size w w1 by rw [hw1];exact(Below.refl _ w).alloc (Nat.le_refl _) _)
  have HR:=hidj (h.mono fun k o hk=>(HB.out.block k (Array.getElem?_eq_some_iff.1 hk).1).trans hk)
  have HW:=hidj hw1
  clear h hv hs hrow ho l3 l4 hw1
  go_enter Try.func10,Try.ntmps10
  go_wp2_with fail
  rw [← HW.out]
  refine(cj3 HR.out HS.out hok).mono ?_
  rintro e w2 ⟨x0,x1,x2,x3,rfl,hp⟩
  obtain⟨_,_,_,_,_,_,_,_,_,q0,q1,q2,q3⟩:=hp.regs
  obtain⟨b0,m0,d0,rfl⟩:=b5q q0
  obtain⟨b1,m1,d1,rfl⟩:=b5q q1
  obtain⟨b2,m2,d2,rfl⟩:=b5q q2
  obtain⟨b3,m3,d3,rfl⟩:=b5q q3
  clear q0 q1 q2 q3
  have HA:=hidj (cjr (r:=[.int .i64 n0,.int .i64 n1,.int .i64 n2,.slice a3 n3 c3,.slice a4 n4 c4]) HW.out hp)
  clear hp
  obtain⟨z0,z1,z2,z3,z4⟩:=cot HA.out.box
  go_wp2_with fail
  refine(cpt (HV.out.mono fun k o hk=>(HA.out.below.block k (Array.getElem?_eq_some_iff.1 hk).1).trans hk)).mono ?_
  rintro e w3 ⟨rfl,hk3⟩
  rw [hmay]
  have HA3:=hidj (cof HA.out hk3)
  have hB3:w2.heap.size<w3.heap.size:=(Array.getElem?_eq_some_iff.1 HA3.out.arr).1
  clear hk3 HA z0 z1 z2 z3 z4 hok hmay
  obtain⟨B,hBe⟩:∃ B,B=w2.heap.size:=⟨_,rfl⟩
  rw [← hBe] at HA3 hB3 ⊢
  clear hBe HR HB
  obtain⟨z0,z1,z2,z3,z4⟩:=cot HA3.out.box
  obtain⟨y0,y1,y2,y3⟩:=cgi HA3.out.arr
  go_wp2_with fail
  go_region_with (first
    | (go_at_call 50
       refine(cz8 (W:=w3.drew) (HV.out.mono fun k o hk=>(HA3.out.below.block k (Array.getElem?_eq_some_iff.1 hk).1).trans hk) HL.out.1 HL.out.2).mono ?_
       rintro e w4 ⟨yv,rfl,hk4,hp4⟩
       obtain⟨m0',m1',m2',e3,f3,g3,e4,f4,g4,rfl,hrow4⟩:=c4x hp4
       have HK4:=hidj (b4j hk4)
       have HA4:=hidj (cdb HA3.out (Below.trans' HK4.out (Below.refl _ _)))
       have HR4:=hidj hrow4
       clear hk4 hp4 hrow4
       obtain⟨z0,z1,z2,z3,z4⟩:=cot HA4.out.box
       obtain⟨y0,y1,y2,y3⟩:=cgi HA4.out.arr
       obtain⟨ya,_,_,_⟩:=cgi ((Below.heap_alloc w4 (.cells #[.int .i64 m0',.int .i64 m1',.int .i64 m2',.slice e3 f3 g3,.slice e4 f4 g4] 27 (0,0)) B (Array.getElem?_eq_some_iff.1 HA4.out.arr).1).trans HA4.out.arr))
    | (go_at_call 49
       have HA5:=hidj (cdb HA4.out ((Below.refl w4.heap.size w4).alloc (Nat.le_refl _) (.cells #[.int .i64 m0',.int .i64 m1',.int .i64 m2',.slice e3 f3 g3,.slice e4 f4 g4] 27 (0,0))))
       obtain⟨p,p2,p3,l1,l2,l3,l4,q0,q1,q2,q3⟩:=HA5.out.regs
       have HQ:=hidj (And.intro q1 (And.intro q2 q3))
       have hB4:B<w4.heap.size:=(Array.getElem?_eq_some_iff.1 HA4.out.arr).1
       refine(dbm (lo:=w.heap.size+1) (hi:=p) (vb:=w4.heap.size) (rows:=(L.cell 0 0).rows) (r:=[r0,r1,r2,r3,r4]) (vs:=[.int .i64 m0',.int .i64 m1',.int .i64 m2',.slice e3 f3 g3,.slice e4 f4 g4]) q0 (c3t HS.out HT.out) l1 (by omega) (cev w4 _) rfl HR4.out).mono ?_
       clear q0 q1 q2 q3
       rintro e w5 ⟨s',rfl,hb5,hk5,hM5⟩
       obtain⟨s1,s2,s3,rfl⟩:=b5q (hM5 (fun _ _=>True) (fun _ _ _=>trivial) (fun _ _ _ _ _ _=>trivial))
       have HJ:=hidj (c68 HA5.out l1 l2 l3 l4 HQ.out.1 HQ.out.2.1 HQ.out.2.2 hB3 (Below.trans' HK4.out (Below.refl _ _)) ((Below.refl w4.heap.size w4).alloc (Nat.le_refl _) _) hb5 hk5 hM5)
       have hX:=(hb5.block w.heap.size (by omega)).trans HA5.out.box
       have hY:=(hk5 B (by omega) (Array.getElem?_eq_some_iff.1 HA5.out.arr).1).trans HA5.out.arr
       obtain⟨z0,z1,z2,z3,z4⟩:=cot hX
       obtain⟨y0,y1,y2,y3⟩:=cgi hY
       have f0:=cc7 (j:=0) hY
       clear hb5 hk5 hM5 hX hY HA5 HQ))
  all_goals
    obtain⟨k0,k1,k2,k3⟩:=cgi HJ.out.arr
    go_wp2_with fail
    refine cwj.mono ?_
    rintro e w6 ⟨s,rfl,ht⟩
    go_wp2_with fail
    go_returns
    obtain⟨hb,hr,ha⟩:=c2n HJ.out HOK.out ht
    exact⟨_,rfl,hb,hr,ha⟩
end Go.Proofs.Ytlbbkmcegbeckaa
