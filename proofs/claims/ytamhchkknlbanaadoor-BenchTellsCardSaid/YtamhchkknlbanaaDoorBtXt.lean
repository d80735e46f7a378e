/-
  'BenchTellsCardSaid': for every input exchequerlaw32.BenchTells returns true; the input reads as it did (a tied card). Conditions: none but the given ones.
-/
import Derived.Test.YtamhchkknlbanaaDoorBtU
import Derived.ChangeSame
import Derived.RowKit3
import Derived.ChangeReads
import Derived.ChangeOld
import Derived.ReadAgain
import Derived.Lib.LaidU8
import Derived.ChangeMaps5
import Derived.Shelf.Vars
import Derived.Test.YtamhchkknlbanaaDoorTie
import Derived.Test.YtamhchkknlbanaaDoorCards
import Derived.Handy
import Derived.Lay
import Derived.SevenTiedAt
import Derived.WalkKit
import Derived.ProofKit
import Derived.OpenShut
set_option linter.unusedSectionVars false
set_option linter.unusedVariables false
set_option linter.unusedSimpArgs false
set_option linter.all false
namespace Go.Proofs.YtamhchkknlbanaaDoor.Be
open Go.Sx Go.Proofs Go.RowKit Go.Lib
theorem byy(l:List UInt8)(a:Option Addr)(c n:Nat)(w:World)(hn:l.length=n)(hl:n≤2500)(h:l≠[]→∃ ad,a=some ad∧∀ (j:Nat) b,l[j]? = some b→w.cell? (ad.add j)=some (.int .u8 b.toNat)) :
  Calls Tryd.prog 10 #[.slice a n c] w fun e w'=>∃ g,e=.returned (.slice (some ⟨g,0,none⟩) n (n+3))∧w.heap.size≤g∧Below w.heap.size w w'∧w'.heap[g]? = some (.cells ((numB l).map (Value.int .u8)).toArray 5 (0,0)) :=
 (bsf l a c n w hn hl h).mono fun _ _ h=>⟨_,h.1,Nat.le_refl _,h.2⟩
theorem byz(l:List Bool)(a:Option Addr)(c n:Nat)(w:World)(hn:l.length=n)(hl:n≤2500)(h:l≠[]→∃ ad,a=some ad∧∀ (j:Nat) b,l[j]? = some b→w.cell? (ad.add j)=some (.bool b)) :
  Calls Tryd.prog 11 #[.slice a n c] w fun e w'=>∃ g,e=.returned (.slice (some ⟨g,0,none⟩) n (n+3))∧w.heap.size≤g∧Below w.heap.size w w'∧w'.heap[g]? = some (.cells ((numO l).map Value.bool).toArray 4 (0,0)) :=
 (bsg l a c n w hn hl h).mono fun _ _ h=>⟨_,h.1,Nat.le_refl _,h.2⟩
theorem nine{w:World}{B:Nat}{x0 x1 x2 x3 x4 x5 x6 x7 x8:Value}{t:TypeId}(h:w.heap[B]? = some (.cells #[x0,x1,x2,x3,x4,x5,x6,x7,x8] t (0,0))):w.cell? ⟨B,0,none⟩=some x0∧w.cell? ⟨B,1,none⟩=some x1∧w.cell? ⟨B,2,none⟩=some x2∧w.cell? ⟨B,3,none⟩=some x3∧w.cell? ⟨B,4,none⟩=some x4∧w.cell? ⟨B,5,none⟩=some x5∧w.cell? ⟨B,6,none⟩=some x6∧w.cell? ⟨B,7,none⟩=some x7∧w.cell? ⟨B,8,none⟩=some x8 :=
 ⟨by rw [Lib.cell_of_heap h];rfl,by rw [Lib.cell_of_heap h];rfl,by rw [Lib.cell_of_heap h];rfl,by rw [Lib.cell_of_heap h];rfl,by rw [Lib.cell_of_heap h];rfl,by rw [Lib.cell_of_heap h];rfl,by rw [Lib.cell_of_heap h];rfl,by rw [Lib.cell_of_heap h];rfl,by rw [Lib.cell_of_heap h];rfl⟩
theorem thaw{w:World}{B j:Nat}{cs:Array Value}{t:TypeId}(h:w.heap[B]? = some (.cells cs t (0,0))):w.frozen? ⟨B,j,none⟩=false:=by
 unfold World.frozen?
 rw [show w.heap[(⟨B,j,none⟩:Addr).block]? = _ from h]
 simp
theorem atb{α:Type}{l:List α}{a:Option Addr}{w w':World}{f:α→Value}(h:l≠[]→∃ ad,a=some ad∧∀ (j:Nat) b,l[j]? = some b→w.cell? (ad.add j)=some (f b))(hb:Below w.heap.size w w'):l≠[]→∃ ad,a=some ad∧∀ (j:Nat) b,l[j]? = some b→w'.cell? (ad.add j)=some (f b):=fun hne=>by
 obtain⟨ad,e,hc⟩:=h hne
 refine⟨ad,e,fun j b hj=>?_⟩
 rw [hb.cell (World.block_lt_of_cell? w _ (hc j b hj))]
 exact hc j b hj
theorem bj4{w w':World}(hb:Below w.heap.size w w'):∀ k o,memW w k o→memW w' k o:=fun k o h=>(hb.block k (Lib.lt_of_heap h)).trans h
structure Ph (w wr:World) (O Y:Array Value):Prop where
 below:Below w.heap.size w wr
 x:wr.heap[w.heap.size]? = some (.cells O 25 (0,0))
 y:wr.heap[w.heap.size+1]? = some (.cells Y 25 (0,0))
 size:w.heap.size+2≤wr.heap.size
theorem bqi(w:World)(O:Array Value):Ph w ((w.alloc (.cells O 25 (0,0))).alloc (.cells O 25 (0,0))) O O:=by
 have e:((w.alloc (.cells O 25 (0,0))).alloc (.cells O 25 (0,0))).heap=(w.heap.push (.cells O 25 (0,0))).push (.cells O 25 (0,0)):=rfl
 refine⟨((Below.refl _ w).alloc (Nat.le_refl _) _).alloc ?_ _,?_,?_,?_⟩
 ·show w.heap.size≤(w.heap.push _).size
  rw [Array.size_push]
  omega
 ·rw [e,Array.getElem?_push,if_neg (by rw [Array.size_push];omega),Array.getElem?_push,if_pos rfl]
 ·rw [e,Array.getElem?_push,if_pos (by rw [Array.size_push])]
 ·rw [e,Array.size_push,Array.size_push]
  omega
theorem aog{w wr w':World}{O Y:Array Value}(h:Ph w wr O Y)(hb:Below wr.heap.size wr w'):Ph w w' O Y :=
 ⟨h.below.trans (hb.mono (by have:=h.size;omega)),(hb.block _ (by have:=h.size;omega)).trans h.x,(hb.block _ (by have:=h.size;omega)).trans h.y,Nat.le_trans h.size hb.size⟩
theorem bap{w wr w':World}{O Y:Array Value}(h:Ph w wr O Y)(hk:Keep wr w'):Ph w w' O Y:=aog h ⟨hk.os,hk.tape,hk.output,hk.size,hk.old⟩
theorem a1y{w wr:World}{O Y:Array Value}{j:Nat}{v:Value}(h:Ph w wr O Y):Ph w (wr.setCell ⟨w.heap.size+1,j,none⟩ v) O (Y.setIfInBounds j v) :=
 ⟨h.below.setCell (p:=⟨w.heap.size+1,j,none⟩) (by show w.heap.size≤w.heap.size+1;omega) _,(Below.heap_setCell wr ⟨w.heap.size+1,j,none⟩ v _ (by show w.heap.size≠w.heap.size+1;omega)).trans h.x,heap_setCell_same wr _ _ _ _ v h.y,by rw [World.size_setCell];exact h.size⟩
theorem bu8{w wr:World}{O Y:Array Value}(h:Ph w wr O Y)(ht:TW w):TW wr:=bwy ht (ak2 h.below)
theorem buy{m m':Mem}{d0 d1 d2 d3 d4 d5 d6 d7 d8 e7 e8:CD}{x0 x1 x2 x3 x4 x5 x6 x7 x8 y7 y8:Value}(h:am4 m (true,ajr) [d0,d1,d2,d3,d4,d5,d6,d7,d8] (.agg #[x0,x1,x2,x3,x4,x5,x6,x7,x8]))(h7:RS m' sYs e7 y7)(h8:RS m' sOs e8 y8):am4 m' (true,ajr) [d0,d1,d2,d3,d4,d5,d6,e7,e8] (.agg #[x0,x1,x2,x3,x4,x5,x6,y7,y8]):=by
 obtain⟨z0,z1,z2,z3,z4,z5,z6,z7,z8,e,h0,h1,h2,h3,h4,h5,h6,_,_⟩:=a1w h
 cases e
 exact bux h0 h1 h2 h3 h4 h5 h6 h7 h8
theorem bjr{l:List UInt8}{n:Nat}(hn:l.length=n)(h:n≤2500):((CD.sl false (aoo l)).len:Int)≤2500:=by
 show((clip (aoo l).length:Nat):Int)≤2500
 unfold aoo
 rw [List.length_map,aek (by unfold maxN;omega)]
 omega
theorem bjs{l:List Bool}{n:Nat}(hn:l.length=n)(h:n≤2500):((CD.sl false (aop l)).len:Int)≤2500:=by
 show((clip (aop l).length:Nat):Int)≤2500
 unfold aop
 rw [List.length_map,aek (by unfold maxN;omega)]
 omega
set_option maxRecDepth 100000 in
theorem bm5{d0 d1 d2 d3 d4 d5 d6 d7 d8:CD}{x0 x1 x2 x3 x4 x5 x6 x7 x8:Value}{W:World}{m:Mem}{body:List UInt8}{keeps:List Bool}{g7 g8 nb nk:Nat}{T:List UInt8×Int}(htw:TW W)(hp:am4 m (true,ajr) [d0,d1,d2,d3,d4,d5,d6,d7,d8] (.agg #[x0,x1,x2,x3,x4,x5,x6,x7,x8]))
  (h7:W.heap[g7]? = some (.cells ((numB body).map (Value.int .u8)).toArray 5 (0,0))) (h8:W.heap[g8]? = some (.cells ((numO keeps).map Value.bool).toArray 4 (0,0))) (hnb:body.length=nb) (hnk:keeps.length=nk) (b1:nb≤2500) (k1:nk≤2500) (r7:d7.rows=aoo body) (r8:d8.rows=aop keeps) (hT:aox [d0,d1,d2,d3,d4,d5,d6,d7,d8]=T) :
  Calls Tryd.prog 12 #[.agg #[x0,x1,x2,x3,x4,x5,x6,.slice (some ⟨g7,0,none⟩) nb (nb+3),.slice (some ⟨g8,0,none⟩) nk (nk+3)]] W fun e w'=>e=.returned (.tuple #[.string ⟨T.1.toArray⟩,.int .i64 T.2])∧Keep W w':=by
 subst hnb
 subst hnk
 rw [← bgp (e7:=CD.sl false (aoo body)) (e8:=CD.sl false (aop keeps)) r7.symm r8.symm] at hT
 rw [← hT]
 exact a0d b2n at12.call htw (buy hp (bqw h7 b1) (bqx h8 k1)) (bjr rfl b1) (bjs rfl k1)
set_option maxRecDepth 100000 in
theorem brb{d0 d1 d2 d3 d4 d5 d6 d7 d8:CD}{u:Value}{W:World}{nb nk:Nat}{T:List UInt8×Int}(htw:TW W)(hp:am4 (memW W) (true,ajr) [d0,d1,d2,d3,d4,d5,d6,d7,d8] u)(b1:nb≤2500)(k1:nk≤2500)(l7:(d7.len:Int)=nb)(l8:(d8.len:Int)=nk)(hT:aox [d0,d1,d2,d3,d4,d5,d6,d7,d8]=T) :
  Calls Tryd.prog 13 #[u] W fun e w'=>e=.returned (.tuple #[.string ⟨T.1.toArray⟩,.int .i64 T.2])∧Keep W w':=by
 rw [← hT]
 exact a0d b2o at13.call htw hp (by omega) (by omega)
set_option maxHeartbeats 4000000 in
set_option maxRecDepth 100000 in
theorem bbd(k who n a m o:Int)(is:Bool)(body:List UInt8)(ab:Option Addr)(cb nb:Nat)(keeps:List Bool)(ak:Option Addr)(ck nk:Nat)(w:World)(hnb:body.length=nb)(hnk:keeps.length=nk)(htw:TW w)
  (hcb:body≠[]→∃ ad,ab=some ad∧∀ (j:Nat) b,body[j]? = some b→w.cell? (ad.add j)=some (.int .u8 b.toNat)) (hck:keeps≠[]→∃ ad,ak=some ad∧∀ (j:Nat) b,keeps[j]? = some b→w.cell? (ad.add j)=some (.bool b))
  (d0 d1 d2 d3 d4 d5 d6 d7 d8:CD) (hp:am4 (memW w) (true,ajr) [d0,d1,d2,d3,d4,d5,d6,d7,d8] (.agg #[.int .i64 k,.int .i64 who,.int .i64 n,.int .i64 a,.bool is,.int .u8 m,.int .i64 o,.slice ab nb cb,.slice ak nk ck])) (r7:d7.rows=aoo body) (r8:d8.rows=aop keeps) (l7:(d7.len:Int)=nb) (l8:(d8.len:Int)=nk) :
  Calls Tryd.prog 4 #[.agg #[.int .i64 k,.int .i64 who,.int .i64 n,.int .i64 a,.bool is,.int .u8 m,.int .i64 o,.slice ab nb cb,.slice ak nk ck]] w fun e w'=>e=.returned (.bool true)∧Below w.heap.size w w':=by
 by_cases hbig:¬ (nb:Int)≤1200∨¬ (nk:Int)≤2500
 ·clear hp r7 r8 l7 l8 hcb hck htw hnb hnk
  by_cases hb1:(1200:Int)<nb
  ·clear hbig
   go_enter Tryd.func4,Tryd.ntmps4
   go_wp2_with fail
   go_ret
   exact⟨rfl,(Below.refl _ w).alloc (Nat.le_refl _) _⟩
  ·have hk1:(2500:Int)<nk:=by omega
   clear hbig
   go_enter Tryd.func4,Tryd.ntmps4
   go_wp2_with fail
   go_ret
   exact⟨rfl,(Below.refl _ w).alloc (Nat.le_refl _) _⟩
 obtain⟨hb1,hk1⟩:(nb:Int)≤1200∧(nk:Int)≤2500:=by omega
 clear hbig
 have hb2:¬ (1200:Int)<nb:=by omega
 have hk2:¬ (2500:Int)<nk:=by omega
 have HCB:=Any.hidJ hcb
 have HCK:=Any.hidJ hck
 have HT:=Any.hidJ htw
 have HP:=Any.hidJ hp
 have HR:=Any.hidJ (And.intro r7 r8)
 have HL:=Any.hidJ (And.intro l7 l8)
 have HN:=Any.hidJ (And.intro hnb hnk)
 clear hcb hck htw hp r7 r8 l7 l8 hnb hnk
 obtain⟨T,hT⟩:∃ T,aox [d0,d1,d2,d3,d4,d5,d6,d7,d8]=T:=⟨_,rfl⟩
 have HD:=Any.hidJ hT
 clear hT
 have P1:=Any.hidJ (bqi w #[.int .i64 k,.int .i64 who,.int .i64 n,.int .i64 a,.bool is,.int .u8 m,.int .i64 o,.slice ab nb cb,.slice ak nk ck])
 go_enter Tryd.func4,Tryd.ntmps4
 go_wp2_with fail
 refine(byy body ab cb nb _ HN.out.1 (by omega) ?_).mono ?_
 ·exact atb HCB.out P1.out.below
 rintro e w2 ⟨g7,rfl,hg7,hb2',hn7⟩
 have P2:=Any.hidJ (aog P1.out hb2')
 have G2:=Any.hidJ hn7
 have L2:=Any.hidJ (show w.heap.size+2≤g7 from Nat.le_trans P1.out.size hg7)
 clear hg7 hb2' hn7 P1
 obtain⟨_,_,_,_,_,_,_,_,q8⟩:=nine P2.out.x
 obtain⟨_,_,_,_,_,_,_,e7,_⟩:=nine P2.out.y
 have t7:=thaw (j:=7) P2.out.y
 go_wp2_with fail
 refine(byz keeps ak ck nk _ HN.out.2 (by omega) ?_).mono ?_
 ·exact atb HCK.out (a1y P2.out).below
 rintro e w3 ⟨g8,rfl,hg8,hb3,hn8⟩
 have P3:=Any.hidJ (aog (a1y (j:=7) (v:=.slice (some ⟨g7,0,none⟩) nb (nb+3)) P2.out) hb3)
 have G3:=Any.hidJ ((hb3.block g7 (by rw [World.size_setCell];exact Lib.lt_of_heap G2.out)).trans ((Below.heap_setCell w2 ⟨w.heap.size+1,7,none⟩ _ g7 (by show g7≠w.heap.size+1;have:=L2.out;omega)).trans G2.out))
 have K3:=Any.hidJ hn8
 have L3:=Any.hidJ (show w.heap.size+2≤g8 from Nat.le_trans P2.out.size (by rw [World.size_setCell] at hg8;exact hg8))
 clear hg8 hb3 hn8 P2 G2 q8 e7 t7
 obtain⟨_,_,_,_,_,_,_,e7,e8⟩:=nine (x7:=.slice (some ⟨g7,0,none⟩) nb (nb+3)) P3.out.y
 have t8:=thaw (j:=8) P3.out.y
 go_wp2_with fail
 have P4:=Any.hidJ (a1y (j:=8) (v:=.slice (some ⟨g8,0,none⟩) nk (nk+3)) P3.out)
 have G4:=Any.hidJ ((Below.heap_setCell w3 ⟨w.heap.size+1,8,none⟩ (.slice (some ⟨g8,0,none⟩) nk (nk+3)) g7 (by show g7≠w.heap.size+1;have:=L2.out;omega)).trans G3.out)
 have K4:=Any.hidJ ((Below.heap_setCell w3 ⟨w.heap.size+1,8,none⟩ (.slice (some ⟨g8,0,none⟩) nk (nk+3)) g8 (by show g8≠w.heap.size+1;have:=L3.out;omega)).trans K3.out)
 refine(bm5 (bu8 P4.out HT.out) HP.out G4.out K4.out HN.out.1 HN.out.2 (by omega) (by omega) HR.out.1 HR.out.2 HD.out).mono ?_
 rintro e w4 ⟨rfl,hk4⟩
 have P5:=Any.hidJ (bap P4.out hk4)
 have G5:=Any.hidJ ((hk4.old g7 (Lib.lt_of_heap G4.out)).trans G4.out)
 have K5:=Any.hidJ ((hk4.old g8 (Lib.lt_of_heap K4.out)).trans K4.out)
 clear hk4 P4 G4 K4 P3 G3 K3 e7 e8 t8
 obtain⟨q0,q1,q2,q3,q4,q5,q6,q7,q8⟩:=nine P5.out.x
 go_wp2_with fail
 refine(brb (bu8 P5.out HT.out) (HP.out.mono (bj4 P5.out.below)) (by omega) (by omega) HL.out.1 HL.out.2 HD.out).mono ?_
 rintro e w5 ⟨rfl,hk5⟩
 have P6:=Any.hidJ (bap P5.out hk5)
 have G6:=Any.hidJ ((hk5.old g7 (Lib.lt_of_heap G5.out)).trans G5.out)
 have K6:=Any.hidJ ((hk5.old g8 (Lib.lt_of_heap K5.out)).trans K5.out)
 clear hk5 P5 G5 K5 q0 q1 q2 q3 q4 q5 q6 q7 q8
 obtain⟨_,_,_,_,_,_,_,q7,q8⟩:=nine P6.out.x
 obtain⟨_,_,_,_,_,_,_,e7,e8⟩:=nine (x7:=.slice (some ⟨g7,0,none⟩) nb (nb+3)) (x8:=.slice (some ⟨g8,0,none⟩) nk (nk+3)) P6.out.y
 go_wp2_with fail
 refine(b1m body ab cb g7 nb _ HN.out.1 (by have h1:body.length=nb:=HN.out.1;omega) (atb HCB.out P6.out.below) G6.out).mono ?_
 rintro e w6 ⟨rfl,hb6⟩
 have P7:=Any.hidJ (aog P6.out hb6)
 have K7:=Any.hidJ ((hb6.block g8 (Lib.lt_of_heap K6.out)).trans K6.out)
 clear hb6 P6 G6 K6 q7 q8 e7 e8
 obtain⟨_,_,_,_,_,_,_,_,q8⟩:=nine P7.out.x
 obtain⟨_,_,_,_,_,_,_,_,e8⟩:=nine (x7:=.slice (some ⟨g7,0,none⟩) nb (nb+3)) (x8:=.slice (some ⟨g8,0,none⟩) nk (nk+3)) P7.out.y
 go_wp2_with fail
 refine(b1n keeps ak ck g8 nk _ HN.out.2 (by have h1:keeps.length=nk:=HN.out.2;omega) (atb HCK.out P7.out.below) K7.out).mono ?_
 rintro e w7 ⟨rfl,hb7⟩
 have P8:=Any.hidJ (aog P7.out hb7)
 clear hb7 P7 K7 q8 e8
 go_wp2_with fail
 refine(a9x (bu8 P8.out HT.out)).mono ?_
 rintro e w8 ⟨rfl,hk8⟩
 have P9:=Any.hidJ (bap P8.out hk8)
 clear hk8 P8
 go_wp2_with fail
 go_ret
 exact⟨rfl,P9.out.below⟩
set_option maxRecDepth 100000 in
theorem bob{w:World}{d0 d1 d2 d3 d4 d5 d6 d7 d8:CD}{u:Value}(htw:TW w)(hp:am4 (memW w) (true,ajr) [d0,d1,d2,d3,d4,d5,d6,d7,d8] u):Calls Tryd.prog 4 #[u] w fun e w'=>e=.returned (.bool true)∧Below w.heap.size w w':=by
 obtain⟨x0,x1,x2,x3,x4,x5,x6,x7,x8,rfl,h0,h1,h2,h3,h4,h5,h6,h7,h8⟩:=a1w hp
 obtain⟨k,e0,rfl,_⟩:=h0
 obtain⟨who,e1,rfl,_⟩:=h1
 obtain⟨n,e2,rfl,_⟩:=h2
 obtain⟨a,e3,rfl,_⟩:=h3
 obtain⟨is,e4,rfl⟩:=h4
 obtain⟨m,e5,rfl,_⟩:=h5
 obtain⟨o,e6,rfl,_⟩:=h6
 obtain⟨body,ab,cb,rfl,r7,_,l7,hcb⟩:=b0a (fun _ _ h=>h) h7
 obtain⟨keeps,ak,ck,rfl,r8,_,l8,hck⟩:=b0b (fun _ _ h=>h) h8
 exact bbd k who n a m o is body ab cb _ keeps ak ck _ w rfl rfl htw hcb hck d0 d1 d2 d3 d4 d5 d6 d7 d8 hp r7 r8 l7 l8
end Go.Proofs.YtamhchkknlbanaaDoor.Be

namespace Go.Sx
open Go.WideShapes Go.ChangeShapes
theorem axw{W W':World}(hk:∀ k,k<W.heap.size→W'.heap[k]? = W.heap[k]?)(hos:W'.os=W.os)(hout:W'.output=W.output)(may:MemPlace→Prop):W.keptBut W' may :=
 ⟨hos,hout,fun i hi=>by rw [hk i hi];exact(World.keptBut_refl W may).2.2 i hi⟩
theorem a02{W W':World}(hk:∀ k,k<W.heap.size→W'.heap[k]? = W.heap[k]?){a:Addr}(ha:a.block<W.heap.size):W'.frozen? a=W.frozen? a:=by
 unfold World.frozen?
 rw [hk _ ha]
theorem bas{H:Type}{enc:TypeId×Value→H}{P:Program}{f:Func}{s:ChangeSpec}{apart fresh handsOn again:Bool}{W W':World}{args:Array Value}{v:Value}{ds gs:List (DataW H)}{before pa pv:List MemPlace}
  (hW:DataW.Whole enc P f.params.toList s.vars apart W args.toList ds gs before)
  (hres:∀ (b:Nat) (sp:Nat→Bool) (hd:Bool),DataW.TrodAll enc P W' b sp hd f.resultTypes.toList (v.resultList f.resultTypes.size) (s.fn H (ds++gs)).results [])
  (hargs:∀ sp:Nat→Bool,(∀ p∈before,sp p.block=true)→DataW.TrodAll enc P W' 0 sp true f.params.toList args.toList (s.fn H (ds++gs)).args pa)
  (hvars:∀ sp:Nat→Bool,(∀ p∈before,sp p.block=true)→DataW.TrodVars enc P W' sp s.vars (s.fn H (ds++gs)).vars pv)
  (hps:before=pa++pv) (hk:∀ k,k<W.heap.size→W'.heap[k]? = W.heap[k]?) (hos:W'.os=W.os) (hout:W'.output=W.output)
  (hok:∀ (j:Nat) (t:TypeId) (r:Value),f.resultTypes[j]? = some t→(v.resultList f.resultTypes.size)[j]? = some r→Value.okWide P W' .any 0 t r) :
  s.post enc P f apart fresh handsOn again W args v W':=by
 have hold:∀ p∈before,(fun b=>decide (b<W.heap.size)) p.block=true:=fun p hp=>by simpa using hW.lt p hp
 have hlt:∀ p∈before,p.block<W.heap.size:=fun p hp=>hW.lt p hp
 refine⟨ds,gs,before,[],pa,pv,hW,hres _ _ _,hargs _ hold,hvars _ hold,World.keptBut_mono (fun p hp=>⟨hp,?_⟩) (axw hk hos hout (·∈before)),fun _=>?_⟩
 ·rw [hps,List.mem_append] at hp
  exact Or.inr hp
 ·obtain⟨_,_,_,_,_,hz,hn⟩:=hW
  refine⟨hok,_,_,([]++pa)++pv,⟨[]++pa,pv,trodAll_append (hargs _ (fun _ _=>rfl)) (hres _ _ _),hvars _ (fun _ _=>rfl),rfl,?_,?_⟩,?_⟩
  ·intro b off hp
   have hp':MemPlace.cell b off∈before:=by rw [hps];simpa using hp
   rw [a02 hk (show(⟨b,off,none⟩:Addr).block<W.heap.size from hlt _ hp')]
   exact hz b off hp'
  ·intro ha
   have:=hn ha
   rw [hps] at this
   simpa using this
  ·intro p hp _
   rw [hps]
   simpa using hp
section
variable {H:Type} {enc:TypeId×Value→H} {P:Program} {W W':World} {base:Nat} {sp:Nat→Bool} {held:Bool}
theorem be1(hk:∀ k,k<W.heap.size→W'.heap[k]? = W.heap[k]?):∀ (n:Nat) (t:TypeId) (cs:List Value) (x:DataW H×List MemPlace),DataW.trod enc P W base sp held n t cs=some x→DataW.trod enc P W' base sp held n t cs=some x
 | 0,_,_,_,h=>by simp [DataW.trod] at h
 | n+1,t,cs,x,h=>by
  have hlt:=DataW.trod_lt (n+1) t cs x h
  rw [DataW.trod_step] at h ⊢
  refine DataW.trodStep_carry (fun t cs x hx _=>be1 hk n t cs x hx) h fun p hp=>?_
  have hb:=hlt p hp
  cases p with
  | cell b off =>
   show W'.cell? ⟨b,off,none⟩=W.cell? ⟨b,off,none⟩
   unfold World.cell?
   rw [hk b hb]
  | map b=>exact hk b hb
theorem Trod.old(hk:∀ k,k<W.heap.size→W'.heap[k]? = W.heap[k]?){t:TypeId}{v:Value}{d:DataW H}{ps:List MemPlace}(h:DataW.Trod enc P W base sp held t v d ps):DataW.Trod enc P W' base sp held t v d ps:=by
 obtain⟨n,hn⟩:=h
 exact⟨n,be1 hk n _ _ _ hn⟩
theorem TrodAll.old(hk:∀ k,k<W.heap.size→W'.heap[k]? = W.heap[k]?):∀ {ts:List TypeId} {vs:List Value} {ds:List (DataW H)} {ps:List MemPlace},DataW.TrodAll enc P W base sp held ts vs ds ps→DataW.TrodAll enc P W' base sp held ts vs ds ps
 | [],[],[],_,h=>h
 | _::_,_::_,_::_,_,⟨p,q,h1,h2,e⟩=>⟨p,q,Trod.old hk h1,TrodAll.old hk h2,e⟩
end
end Go.Sx

namespace Go.Proofs.YtamhchkknlbanaaDoor
open Go.ChangeShapes Go.WideShapes Go.ChangeAt Go.RowKit Go.Sx
theorem own:ownKnob Tryd.prog.godebug=none:=by kernel_rfl
theorem kids:Kids Tryd.prog (· < Tryd.prog.types.size):=kids_rows (by kernel_rfl) (by kernel_rfl)
theorem full:∀ t e,t<Tryd.prog.types.size→Tryd.prog.underlying t=some (.slice e)→0<Tryd.prog.cellsOf e:=slices_full_of Tryd.prog (by kernel_rfl)
theorem aud{P:Program}{W:World}{n:String}{g:Nat}{name:String}{x:DataW Unit}(hn:P.globalNamed n=some g)
  (ht:(match(P.globals[g]?).bind (fun y=>P.underlying y.type) with | some (.interface _)=>true | _=>false)=true) (h:Lib.VarReads P W n (.iface name x)):∃ o,W.heap[g]? = some o∧isE1 o:=by
 obtain⟨g',t,cs,fuel,p,hg,hty,hvar,hd⟩:=h
 obtain rfl:=Option.some.inj (hn.symm.trans hg)
 have hcs:∃ u v,cs.toList=[Value.iface u v]:=by
  cases hgl:P.globals[g]? with
  | none=>rw [hgl] at hty;cases hty
  | some y =>
   rw [hgl] at hty ht
   obtain rfl:=Option.some.inj hty
   simp only [Option.bind_some] at ht
   cases fuel with
   | zero=>simp [DataW.trod] at hd
   | succ k =>
    cases hu:P.underlying y.type with
    | none=>rw [hu] at ht;cases ht
    | some d =>
     rw [hu] at ht
     cases d<;>first | cases ht | skip
     unfold DataW.trod at hd
     rw [hu] at hd
     split at hd<;>simp_all
 obtain⟨u,v,hcs⟩:=hcs
 have hc2:cs = #[Value.iface u v]:=by rw [← Array.toArray_toList (xs:=cs),hcs]
 subst hc2
 simp only [World.var?,hn,Option.bind_some] at hvar
 split at hvar
 ·rename_i cs t' fr hh
  cases hvar
  exact⟨_,hh,u,v,t',fr,rfl⟩
 ·cases hvar
theorem bab{P:Program}{W:World}{n:String}{g t e m:Nat}{zs:List Int}(hn:P.globalNamed n=some g)(hty:(P.globals[g]?).map (·.type)=some t)
  (ht:P.underlying t=some (.array m e)) (he:P.underlying e=some (.int .u64)) (hce:P.cellsOf e=1) (hct:P.cellsOf t=m) (h:Lib.VarReads P W n (Lib.tabData .u64 zs)):∃ o,W.heap[g]? = some o∧isL1 zs o:=by
 obtain⟨g',t',cs,fuel,p,hg,hty',hvar,hd⟩:=h
 obtain rfl:=Option.some.inj (hn.symm.trans hg)
 obtain rfl:=Option.some.inj (hty.symm.trans hty')
 have hcs:=Lib.cells_of_tab ht he hce hct hd
 have hc2:cs=(zs.map fun z=>Value.int .u64 z).toArray:=by rw [← Array.toArray_toList (xs:=cs),hcs]
 subst hc2
 simp only [World.var?,hn,Option.bind_some] at hvar
 split at hvar
 ·rename_i cs t' fr hh
  cases hvar
  exact⟨_,hh,t',fr,rfl⟩
 ·cases hvar
theorem a98{P:Program}{W:World}{g:Nat}{t:TypeId}{zero:Array Value}(h:W.ShapedOpen P)(hg:g<P.globals.size)
  (h0:((begin P (fun _ _=>0) default).world.heap[g]?).bind Obj.row? = some (zero,t)) (hz:zero.size=1)
  (hb:P.buildable t=true) (hc:P.cellTypes P.depth t=some [t]) (hu:P.underlying t=some (.int .i64)):∃ o,W.heap[g]? = some o∧isI1 o:=by
 obtain⟨cs,hh,hs,hr⟩:=h.1 g zero t hg h0
 obtain⟨m,hm⟩:=cell_of_shapedOpen_int h hg h0 hz hb hc hu
 have h1:0<cs.size:=by omega
 have hcell:W.cell? ⟨g,0,none⟩=some cs[0]:=by simp [World.cell?,hh,h1]
 rw [hcell] at hm
 have e0:=Option.some.inj hm
 have hc2:cs = #[Value.int .i64 m]:=by
  apply Array.ext
  ·rw [hs,hz];rfl
  ·intro i hi hj
   have:i=0:=by simp at hj;omega
   subst this
   exact e0
 subst hc2
 exact⟨_,hh,m,t,_,rfl⟩
theorem bnb{W:World}(h0:laidMetH Tryd.prog Rows.benchTellsRow.laid W)(hs:W.ShapedOpen Tryd.prog):TW W:=by
 have h:laidMet Tryd.prog Rows.benchTellsRow.laid W:=by rw [← MakeChecks.laidMetH_plain Tryd.prog Rows.benchTellsRow.laid W (by kernel_rfl)];exact h0
 have h1:=Lib.laidMet.reads h (n:="internal/strconv.uint64pow10") (d:=Rows.laid_internal_strconv_uint64pow10) (by simp only [Rows.benchTellsRow,List.mem_cons,true_or,or_true])
 have h2:=Lib.laidMet.reads h (n:="strconv.ErrSyntax") (d:=Rows.laid_strconv_ErrSyntax) (by simp only [Rows.benchTellsRow,List.mem_cons,true_or,or_true])
 have h3:=Lib.laidMet.reads h (n:="strconv.ErrRange") (d:=Rows.laid_strconv_ErrRange) (by simp only [Rows.benchTellsRow,List.mem_cons,true_or,or_true])
 intro x hx
 simp only [bm4,List.mem_cons,List.not_mem_nil,or_false] at hx
 rcases hx with rfl | rfl | rfl | rfl
 ·exact a98 (t:=3) (zero:=#[.int .i64 0]) hs (Nat.le_of_ble_eq_true (by kernel_rfl)) (by kernel_rfl) rfl (by kernel_rfl) (by kernel_rfl) Tryd.underlying3
 ·exact bab (t:=117) (e:=98) (m:=20) (by kernel_rfl) (by kernel_rfl) Tryd.underlying117 Tryd.underlying98 (by kernel_rfl) (by kernel_rfl) h1
 ·exact aud (by kernel_rfl) (by kernel_rfl) h2
 ·exact aud (by kernel_rfl) (by kernel_rfl) h3
theorem a0o{H:Type}{enc:TypeId×Value→H}{a:Assume}{C:Checked}{os:Os}{f:FuncId}{fn:Func}{s:ChangeSpec}{conds:List PathCond}{apart fresh handsOn again:Bool}{X:World→Array Value→Prop}
  (hX:∀ (w w':World) (args:Array Value),w.heap=w'.heap→X w args→X w' args)
  (own:ownKnob C.prog.godebug=none) (started:os.Started) (noInit:C.prog.inits.idxOf? f=none) (hfn:C.prog.funcs[f]? = some fn)
  (witness:∃ (w:World) (tape:Tape) (i:Input),w.os=os∧(w.forCall tape i).Shaped C.prog∧i.vars=[]∧Input.okWide C.prog (w.forCall tape i) .any w.heap.size f i ∧
   ((s.pre enc C.prog fn conds apart (w.forCall tape i).memory i.args∧X (w.forCall tape i).memory i.args)∧sizedMet enc C.prog fn (OpenSpec.ofChange s) apart (w.forCall tape i).memory i.args)∧a.holds C.prog (lone (Frame.enter C.prog f i.args .normal) [] (w.forCall tape i)))
  (contract:∀ (W:World) (base:Nat) (args:Array Value) (ds gs:List (DataW H)) (before:List MemPlace),
   (∀ (j:Nat) t v,fn.params[j]? = some t→args[j]? = some v→Value.okWide C.prog W .any base t v) →
   DataW.Whole enc C.prog fn.params.toList s.vars apart W args.toList ds gs before →
   conds.all (PathCond.test C.prog ⟨fn.params.toList,ds,s.plain.varTypes C.prog,gs⟩)=true →
   (DataW.weightsEach C.prog (fn.params.toList++s.plain.varTypes C.prog) (ds++gs)).all (·≤reachBytes)=true→X W args →
   W.ShapedOpen C.prog →
   Calls C.prog f args W fun e W'=>∃ v,e=.returned v∧s.post enc C.prog fn apart fresh handsOn again W args v W') :
  ReturnsInHanded a C os f .any (fun w args=>(s.pre enc C.prog fn conds apart w args∧X w args)∧sizedMet enc C.prog fn (OpenSpec.ofChange s) apart w args) (s.post enc C.prog fn apart fresh handsOn again):=by
 refine returnsInHanded_of_calls own started noInit witness ?_
 intro w tape i _ hsh _ hok hpre hholds
 obtain⟨_,_,_,fn',hfn',_,_,_,_,hval⟩:=hok
 have e:fn'=fn:=Option.some.inj (hfn'.symm.trans hfn)
 subst e
 obtain⟨⟨⟨ds,gs,before,hw,hc⟩,hx⟩,hz⟩:=hpre
 have hw':=DataW.Whole.of_heap (w':=w.forCall tape i) (by rfl) hw
 refine(contract (w.forCall tape i) w.heap.size i.args ds gs before hval hw' hc (hz.weights hw) (hX _ _ _ (by rfl) hx) hsh).mono fun e W' ⟨v,he,hp⟩=>?_
 subst he
 exact ChangeSpec.post_blind hp
theorem bl8{m:Mem}:∀ {ss:List Srt} {row:List CD} {f:Nat→Option Value},RSs m ss row f→row.length=ss.length
 | [],row,f,h=>by rw [show row=[] from h];rfl
 | s::ss,row,f,⟨c,r,u,e,_,_,h⟩=>by rw [e,List.length_cons,bl8 h,List.length_cons]
theorem b04:srtP Tryd.prog 6 25=some Be.ajr:=by kernel_rfl
theorem bly{H:Type}{enc:TypeId×Value→H}{W:World}{v:Value}{d:DataW H}{ps:List MemPlace}(h:DataW.Trod enc Tryd.prog W 0 (fun _=>true) true 25 v d ps)(hv:∃ cs,v=.agg cs):∃ d0 d1 d2 d3 d4 d5 d6 d7 d8:CD,am4 (memW W) (true,Be.ajr) [d0,d1,d2,d3,d4,d5,d6,d7,d8] v ∧
  Typ Be.sI d0∧Typ Be.sI d1∧Typ Be.sI d2∧Typ Be.sI d3∧Typ .bool d4∧Typ (.int .u8) d5∧Typ Be.sI d6:=by
 obtain⟨fuel,hf⟩:=h
 obtain⟨cs,rfl⟩:=hv
 obtain⟨hl,ds,hd⟩:=a3n 6 b04 hf
 have hl:cs.toList.length=9:=hl
 have hlen:=bl8 hd
 match ds,hlen,hd with
 | [d0,d1,d2,d3,d4,d5,d6,d7,d8],_,hd =>
  refine⟨d0,d1,d2,d3,d4,d5,d6,d7,d8,⟨cs,rfl,by simpa using hl,?_⟩,?_⟩
  ·have e:(fun j:Nat=>cs.toList[j]?)=fun j:Nat=>cs[j]?:=by
    funext j
    simp
   rw [← e]
   exact hd
  ·obtain⟨_,_,_,e0,_,t0,hd⟩:=hd
   cases e0
   obtain⟨_,_,_,e0,_,t1,hd⟩:=hd
   cases e0
   obtain⟨_,_,_,e0,_,t2,hd⟩:=hd
   cases e0
   obtain⟨_,_,_,e0,_,t3,hd⟩:=hd
   cases e0
   obtain⟨_,_,_,e0,_,t4,hd⟩:=hd
   cases e0
   obtain⟨_,_,_,e0,_,t5,hd⟩:=hd
   cases e0
   obtain⟨_,_,_,e0,_,t6,hd⟩:=hd
   cases e0
   exact⟨⟨_,_,t0⟩,⟨_,_,t1⟩,⟨_,_,t2⟩,⟨_,_,t3⟩,⟨_,_,t4⟩,⟨_,_,t5⟩,⟨_,_,t6⟩⟩
set_option maxRecDepth 100000 in
theorem ao4(os:Os)(started:os.Started)(H:Type)(enc:TypeId×Value→H) :
  ReturnsInHanded {} Tryd.checked os 4 .any (fun w args=>(Rows.benchTellsSpec.pre enc Tryd.prog Tryd.f4 [] false w args∧laidMetH Tryd.prog Rows.benchTellsRow.laid w)∧sizedMet enc Tryd.prog Tryd.f4 (OpenSpec.ofChange Rows.benchTellsSpec) false w args)
   (Rows.benchTellsSpec.post enc Tryd.prog Tryd.f4 false true false false):=by
 refine a0o (C:=Tryd.checked) (X:=fun w _=>laidMetH Tryd.prog Rows.benchTellsRow.laid w) (fun _ _ _ hh h=>h.of_heap hh) own started (by kernel_rfl) Tryd.func4
  (ChangeSpec.witness_shaped (enc:=enc) (C:=Tryd.checked) (os:=os) (X:=fun w _=>laidMetH Tryd.prog Rows.benchTellsRow.laid w) false (World.laidAll Tryd.prog os Rows.benchTellsRow.laid) #[.agg #[.int .i64 0,.int .i64 0,.int .i64 0,.int .i64 0,.bool false,.int .u8 0,.int .i64 0,.slice none 0 0,.slice none 0 0]] 8 (World.laidAll_os _ _ _)
   (World.shaped_of_ZipB (by kernel_rfl) (by kernel_rfl)) (by kernel_rfl) (by kernel_rfl) (by kernel_rfl)
   (by rw [MakeChecks.laidMetH_plain _ _ _ (by kernel_rfl)];exact laidMet_laidAll _ (by kernel_rfl) (by kernel_rfl))) ?_
 intro W base args ds gs before hval0 hW _ _ hX hsh
 have hval:∀ (j:Nat) t v,Tryd.f4.params[j]? = some t→args[j]? = some v→Value.okWide Tryd.prog W .any base t v:=hval0
 have hW':=hW
 obtain⟨p,q,hA0,hV,rfl,hfz,hnd⟩:=hW
 have hA:DataW.TrodAll enc Tryd.prog W 0 (fun _=>true) true Tryd.f4.params.toList args.toList ds p:=hA0
 have hAk:=hA
 rw [Tryd.params4] at hA hval
 obtain⟨v0,vs0,d0,ds0,p0,q0,hargs,rfl,rfl,h0,r0⟩:=trodAll_cons hA
 obtain⟨rfl,rfl,rfl⟩:=trodAll_nil r0
 obtain rfl:args = #[v0]:=by cases args;simp_all
 obtain⟨rfl,rfl⟩:=trodVars_none hV
 obtain⟨cs,hcs,_⟩:=okWide_struct Tryd.underlying25 (hval 0 25 v0 rfl rfl)
 obtain⟨y0,y1,y2,y3,y4,y5,y6,y7,y8,hp,t0,t1,t2,t3,t4,t5,t6⟩:=bly h0 ⟨cs,hcs⟩
 clear hA0 hval0
 simp only [List.append_nil] at hW'
 refine(Be.bob (bnb hX hsh) hp).mono fun e W' ⟨he,hg0⟩=>?_
 have hg:=Be.ak2 hg0
 subst he
 exact⟨_,rfl,bas (pv:=[]) hW' (fun _ _ _=>(trodAll_cons_mk (shut_bool Tryd.underlying4 _) trodAll_mk0)) (fun sp hsp=>TrodAll.old hg.old (DataW.TrodAll.respare kids full (by rw [Tryd.params4];decide +kernel) hAk (fun p hp=>hsp p (by simpa using hp)))) (fun _ _=>rfl) (by simp)
  hg.old hg.os hg.output (ok_one (by kernel_rfl) rfl (okWide_bool_mk Tryd.underlying4 _))⟩
theorem axp:Rows.BenchTellsSaid :=
 OpenClaim.holds_of_wide 4 Tryd.f4 rfl rfl rfl rfl rfl rfl rfl ⟨rfl,rfl,rfl,rfl,rfl⟩ rfl rfl rfl rfl rfl (by kernel_rfl) Tryd.func4 (by kernel_rfl)
  (of_decide_eq_true (by kernel_rfl)) (by unfold Func.isWrapper;first | (rw [if_pos (by decide +kernel)];kernel_rfl) | (rw [if_neg (by decide +kernel)];exact⟨rfl,rfl⟩))
  (fun os started H enc _=>ao4 os started H enc)
theorem benchTells:Rows.BenchTellsCardSaid :=
 Claim7.holds_tied_plain_at .later [] [.data,.data,.data,.data,.sentinel,.sentinel,.pinned] true (true, "369914c67c7c728ebd9ee9220aed351f4a5de5ef306f4d75731c54d34570bea5") true axp (fun _ h=>by cases h) (by kernel_rfl) (fun _ h=>by cases h) benchTells_row_tie rfl ⟨rfl,rfl⟩ (by kernel_rfl) rfl
  (fun f fn hf hfn=>by
   obtain rfl:f=4:=Option.some.inj ((show Tryd.prog.funcNamed "exchequer/exchequerlaw32.BenchTells" = some 4 by kernel_rfl).symm.trans hf) |>.symm
   obtain rfl:fn=Tryd.f4:=(Option.some.inj (Tryd.func4.symm.trans hfn)).symm
   exact⟨by kernel_rfl,fun j t ht=>by
    rw [Tryd.params4] at ht
    have hm:t∈[25]:=by simpa using Array.mem_of_getElem? ht
    have hall:([25].all fun u=>!Tryd.prog.wantsStandIn u)=true:=by kernel_rfl
    exact(show Tryd.prog.wantsStandIn t=false by simpa using List.all_eq_true.1 hall t hm)⟩)
  (by kernel_rfl)
#print axioms benchTells
end Go.Proofs.YtamhchkknlbanaaDoor
