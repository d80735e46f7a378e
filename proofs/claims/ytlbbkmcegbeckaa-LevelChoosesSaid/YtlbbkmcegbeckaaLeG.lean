/-
  What is replaced in copied levels is what the document says. Conditions: none.
-/
import Derived.Test.YtlbbkmcegbeckaaLdS
import Derived.Test.YtlbbkmcegbeckaaLdF
import Derived.Test.YtlbbkmcegbeckaaLcD
import Derived.Test.YtlbbkmcegbeckaaLdI
set_option linter.all false
set_option maxRecDepth 100000
noncomputable section
namespace Go.Proofs.Ytlbbkmcegbeckaa
open Go.Sx Go.Proofs Go.RowKit Go.Lib Go.Stb
abbrev rowAt(rows:List (List CD))(i:Nat):List CD:=rows.getD i []
def insI(rows:List (List CD))(l:List Nat)(k:Nat):List Nat:=l.takeWhile (fun i=>decide (cvR rows i k≤0))++k::l.dropWhile (fun i=>decide (cvR rows i k≤0))
theorem br2(rows:List (List CD))(l:List Nat)(k:Nat):(insI rows l k).map (rowAt rows)=ac2 (l.map (rowAt rows)) (rowAt rows k):=by
 unfold insI ac2
 rw [List.map_append,List.map_cons,List.takeWhile_map,List.dropWhile_map]
 rfl
theorem bby(rows:List (List CD))(l:List Nat)(k:Nat):(insI rows l k).Perm (k::l):=by
 unfold insI
 refine List.perm_middle.trans ?_
 rw [List.takeWhile_append_dropWhile]
theorem bv3(rows:List (List CD))(i j:Nat):cvR rows i j = - cvR rows j i:=avd (keyR rows j) (keyR rows i)
theorem bpu(rows:List (List CD))(k:Nat):∀ l:List Nat,l.Pairwise (TR rows)→(∀ i∈l,i<k)→(insI rows l k).Pairwise (TR rows)
 | [],_,_=>List.pairwise_singleton _ _
 | a::l,h,hk=>by
  obtain⟨h1,h2⟩:=List.pairwise_cons.1 h
  by_cases hc:cvR rows a k≤0
  ·have e:insI rows (a::l) k=a::insI rows l k:=by
    unfold insI
    rw [List.takeWhile_cons_of_pos (p:=fun i=>decide (cvR rows i k≤0)) (decide_eq_true hc),List.dropWhile_cons_of_pos (p:=fun i=>decide (cvR rows i k≤0)) (decide_eq_true hc)]
    rfl
   rw [e]
   refine List.pairwise_cons.2 ⟨fun x hx=>?_,bpu rows k l h2 fun i hi=>hk i (Mc _ hi)⟩
   rcases Mn.1 ((bby rows l k).mem_iff.1 hx) with rfl | hx
   ·have:=hk a (Ms ..)
    unfold TR
    omega
   ·exact h1 x hx
  ·have e:insI rows (a::l) k=k::a::l:=by
    unfold insI
    rw [List.takeWhile_cons_of_neg (p:=fun i=>decide (cvR rows i k≤0)) (by simpa using hc),List.dropWhile_cons_of_neg (p:=fun i=>decide (cvR rows i k≤0)) (by simpa using hc)]
    rfl
   rw [e]
   have ka:TR rows k a:=.inl (by have:=bv3 rows a k;omega)
   refine List.pairwise_cons.2 ⟨fun x hx=>?_,h⟩
   rcases Mn.1 hx with rfl | hx
   ·exact ka
   ·exact(aul rows).tr _ _ _ ka (h1 x hx)
theorem bbu(rows:List (List CD))(m:Nat)(l0:List Nat)(h0:l0.Pairwise (TR rows))(hp:l0.Perm (List.range m)):∀ n,m+n≤rows.length→∃ l:List Nat,l.Pairwise (TR rows)∧l.Perm (List.range (m+n))∧l.map (rowAt rows)=((rows.drop m).take n).foldl ac2 (l0.map (rowAt rows))
 | 0,_=>⟨l0,h0,hp,rfl⟩
 | n+1,hn=>by
  obtain⟨l,g1,g2,g3⟩:=bbu rows m l0 h0 hp n (by omega)
  refine⟨insI rows l (m+n),bpu rows (m+n) l g1 fun i hi=>?_,?_,?_⟩
  ·exact List.mem_range.1 (g2.mem_iff.1 hi)
  ·refine(bby rows l (m+n)).trans ?_
   rw [← Nat.add_assoc,List.range_succ]
   exact(List.Perm.cons _ g2).trans (List.perm_append_singleton _ _).symm
  ·have hlt:m+n<rows.length:=by omega
   have hlt2:n<(rows.drop m).length:=by rw [List.length_drop];omega
   rw [br2,g3,List.take_succ_eq_append_getElem hlt2,List.foldl_append,List.getElem_drop]
   show ac2 _ (rows.getD (m+n) [])=ac2 _ _
   rw [Gd,Gl hlt]
   rfl
theorem bsb{α β:Type}(f:α→β)(g:Nat→α)(n:Nat):lst (fun i=>f (g i)) 0 n=(lst g 0 n).map f:=by
 unfold lst
 rw [List.map_map]
 rfl
theorem bxn(n:Nat):lst id 0 n=List.range n:=by
 unfold lst
 rw [List.map_id,List.range_eq_range']
 rfl
theorem bzs{T:Nat→Nat→Prop}{g:Nat→Nat}{n:Nat}(h:Srt T g 0 n):(lst g 0 n).Pairwise T:=by
 unfold lst
 rw [List.pairwise_map]
 refine(List.pairwise_lt_range' (s:=0) (n:=n - 0)).imp_of_mem fun {a b} ha hb hlt=>?_
 have hb:=List.mem_range'_1.1 hb
 exact h a b (Nat.zero_le _) hlt (by omega)
theorem bq9{base fresh:List (List CD)}(hb:base.Pairwise fun a b=>cmpC (at' a 3) (at' b 3)≤0):(List.range base.length).Pairwise (TR (base++fresh)):=by
 refine List.pairwise_lt_range.imp_of_mem fun {a b} ha hb' hlt=>?_
 have ha:=List.mem_range.1 ha
 have hb':=List.mem_range.1 hb'
 have h:=(List.pairwise_iff_getElem.1 hb) a b ha hb' hlt
 have e:∀ i (hi:i<base.length),(base++fresh).getD i []=base[i]:=fun i hi=>by
  rw [Gd,List.getElem?_append_left hi,Gl hi]
  rfl
 have h2:cvR (base++fresh) a b≤0:=by
  show cmpC (at' ((base++fresh).getD a []) 3) (at' ((base++fresh).getD b []) 3)≤0
  rw [e a ha,e b hb']
  exact h
 unfold TR
 omega
theorem be3{base fresh:List (List CD)}{g:Nat→Nat}{n:Nat}(hb:base.Pairwise fun a b=>cmpC (at' a 3) (at' b 3)≤0)(h:Sorted (base++fresh) g n)(hn:n=(base++fresh).length):lst (fun i=>(base++fresh).getD (g i) []) 0 n=fresh.foldl ac2 base:=by
 obtain⟨l,h1,h2,h3⟩:=bbu (base++fresh) base.length (List.range base.length) (bq9 hb) (List.Perm.refl _) fresh.length (by rw [List.length_append];exact Rl _)
 have hn2:base.length+fresh.length=n:=by rw [hn,List.length_append]
 have e1:(base++fresh).drop base.length=fresh:=List.drop_left
 have e2:(List.range base.length).map (rowAt (base++fresh))=base:=by
  refine List.ext_getElem (by rw [List.length_map,List.length_range]) fun i h1 h2=>?_
  rw [List.getElem_map,List.getElem_range]
  show(base++fresh).getD i []=_
  rw [Gd,List.getElem?_append_left h2,Gl h2]
  rfl
 rw [e1,e2,List.take_length] at h3
 rw [← h3,bsb (rowAt (base++fresh)) g n]
 congr 1
 refine List.Perm.eq_of_pairwise (le:=TR (base++fresh)) (fun a b _ _ h1 h2=>?_) (bzs h.bk.srt) h1 ?_
 ·exact absurd ((aul (base++fresh)).tr _ _ _ h1 h2) ((aul (base++fresh)).irr _)
 ·rw [hn2,← bxn] at h2
  exact h.bk.perm.trans h2.symm
theorem bes{n:Nat}{d:CD}(h:okD n d=true)(hn:0<n):d.rows.Pairwise fun a b=>cmpC (at' a 3) (at' b 3)≤0:=by
 unfold okD at h
 rw [List.all_eq_true] at h
 have hrow:∀ i,i<d.rows.length→anc n d i=true:=fun i hi=>h i (List.mem_range.2 hi)
 have step:∀ i,i+1<d.rows.length→cmpC (at' (d.rows.getD i []) 3) (at' (d.rows.getD (i+1) []) 3)≤0:=fun i hi=>by
  have h1:=hrow i (by omega)
  have h2:=hrow (i+1) hi
  unfold anc at h1 h2
  rw [Ba] at h1 h2
  have h3:=h1.1
  unfold afe at h3
  simp only [Ba,Dt] at h3
  have h4:=h2.2
  rw [decide_eq_true hn,decide_eq_true (show 0<i+1 by omega),Nat.add_sub_cancel] at h4
  simp only [Bool.and_self,Bool.true_and,Bool.not_eq_true',decide_eq_false_iff_not] at h4
  exact(aud _ _ _ h3.2 (by unfold cmpC at h4;omega)).1
 have all:∀ m i,i+m<d.rows.length→cmpC (at' (d.rows.getD i []) 3) (at' (d.rows.getD (i+m) []) 3)≤0:=fun m=>by
  induction m with
  | zero =>
   intro i hi
   have:cmpC (at' (d.rows.getD i []) 3) (at' (d.rows.getD i []) 3)=0:=a1f _
   rw [Nat.add_zero,this]
   exact Int.le_refl _
  | succ m ih =>
   intro i hi
   exact(aud _ _ _ (ih i (by omega)) (step (i+m) (by omega))).1
 rw [List.pairwise_iff_getElem]
 intro i j hi hj hlt
 have h:=all (j - i) i (by omega)
 rw [show i+(j - i)=j by omega] at h
 rw [Gd,Gd,Gl hi,Gl hj] at h
 exact h
theorem bzc{m:Mem}{ss:List Srt}{u:Value}(h:RS m (.sl ss) (.sl true []) u):u=nilV:=by
 rcases(show(CD.sl true []=.sl true []∧u=.slice none 0 0)∨_ from h) with ⟨_,e⟩ | ⟨rows,b,off,cap,e1,_⟩ | ⟨a,e1,_⟩
 ·exact e
 ·cases e1
 ·cases e1
theorem bhq{m:Mem}{rows:List (List CD)}{u:Value}{l:List R5}(h:RS m sR (mkz rows) u)(hr:RelL m rows l)(e:l=[]):u=nilV:=by
 have:rows=[]:=List.length_eq_zero_iff.1 (by rw [hr.1,e];rfl)
 rw [this] at h
 exact bzc h
theorem bjy{W W':World}{s:Srt}{d:CD}{u:Value}(h:RS (memW W) s d u)(hb:Below W.heap.size W W'):RS (memW W') s d u:=h.mono fun k o hk=>(hb.block k (Ga.1 hk).1).trans hk
structure RepD (L:CD) (k:Nat) (fr into fresh:List (List CD)) (d:Nat→CD):Prop where
 same:∀ j,j≠k→j≠k+1→d j=levD L (j:Nat)
 lev:(d k).rows=(levD L (k:Nat)).rows.filter (woR fr)
 next:(d (k+1)).rows=fresh.foldl ac2 ((levD L (k+1:Nat)).rows.filter (woR into))
def avg(d:Nat→CD):CD:=.sl false [[d 0],[d 1],[d 2],[d 3]]
def MetD(L:CD)(k:Nat)(fr into:List (List CD)):Bool:=fr.all (metR (levD L (k:Nat)).rows)&&into.all (metR (levD L (k+1:Nat)).rows)
def bz6(w w':World)(L:CD)(k:Nat)(fr into fresh:List (List CD)):Prop:=Below w.heap.size w w'∧(MetD L k fr into=false∨∃ d,RepD L k fr into fresh d∧aam (avg d)=false)
def bu3(w w':World)(L:CD)(k:Nat)(fr into fresh:List (List CD))(v:Value):Prop:=Below w.heap.size w w'∧MetD L k fr into=true∧∃ d,RepD L k fr into fresh d∧aam (avg d)=true∧RS (newM w w') sLev (avg d) v∧Apart w w' (d 0) (d 1) (d 2) (d 3) v
theorem bl7{w w':World}{L:CD}{x0 x1 x2 x3:Value}(h:FourP w w' L x0 x1 x2 x3):∃ q:Nat→Nat,w.heap.size+2≤q 0∧(∀ j,j<4→q j≤q (j+1))∧q 4≤w'.heap.size∧∀ j,j<4→∃ a n c,[x0,x1,x2,x3][j]? = some (.slice a n c)∧RS (nm (q j) (q (j+1)) w') sR (levD L j) (.slice a n c):=by
 obtain⟨p0,p1,p2,p3,l0,l1,l2,l3,l4,r0,r1,r2,r3⟩:=h.regs
 refine⟨fun j=>[p0,p1,p2,p3,w'.heap.size].getD j 0,l0,fun j hj=>?_,Rl _,fun j hj=>?_⟩
 ·match j,hj with
  | 0,_=>exact l1
  | 1,_=>exact l2
  | 2,_=>exact l3
  | 3,_=>exact l4
 ·match j,hj with
  | 0,_ =>
   obtain⟨a,n,c,e⟩:=abe r0
   exact⟨a,n,c,by rw [← e];rfl,by rw [← e];exact r0⟩
  | 1,_ =>
   obtain⟨a,n,c,e⟩:=abe r1
   exact⟨a,n,c,by rw [← e];rfl,by rw [← e];exact r1⟩
  | 2,_ =>
   obtain⟨a,n,c,e⟩:=abe r2
   exact⟨a,n,c,by rw [← e];rfl,by rw [← e];exact r2⟩
  | 3,_ =>
   obtain⟨a,n,c,e⟩:=abe r3
   exact⟨a,n,c,by rw [← e];rfl,by rw [← e];exact r3⟩
theorem a9k{w:World}{B k:Nat}{x0 x1 x2 x3 x:Value}{t:TypeId}{fr:Nat×Nat}(h:w.heap[B]? = some (.cells #[x0,x1,x2,x3] t fr))(hx:[x0,x1,x2,x3][k]? = some x):w.cell? ⟨B,k,none⟩=some x:=by
 haveI:Sg:=sg0
 rw [cell?_of h,← hx,show(#[x0,x1,x2,x3]:Array Value)=[x0,x1,x2,x3].toArray from rfl,List.getElem?_toArray]
theorem ayx{w:World}{v g:Value}{l s:List R5}(h:InR w v l)(hz:l=[]→v=nilV)(hs:InR w g s)(hl:l.length≤1000)(hsl:s.length≤1000) :
  Calls Try.prog 66 #[v,g] w fun e w'=>∃ a n c,e=.returned (.tuple #[.slice a n c,.bool (s.all fun t=>l.any (delR t))])∧Below w.heap.size w w'∧((s.all fun t=>l.any (delR t))=true→OwnR w.heap.size w' (.slice a n c) (l.filter (woL s))):=by
 refine(a4p h hz hs hl hsl).mono fun e w' hh=>?_
 obtain⟨hb,⟨y,h1,rfl,h2⟩ | ⟨h1,rfl⟩⟩:=hh
 ·obtain⟨a,n,c,rfl⟩:=aum h2
  exact⟨a,n,c,by rw [h1],hb,fun _=>h2⟩
 ·exact⟨none,0,0,by rw [h1],hb,fun hh=>by rw [h1] at hh;cases hh⟩
set_option maxHeartbeats 4000000 in
theorem bjl{w:World}{L:CD}{u:Value}{k:Nat}{af ai an:Option Addr}{nf cf ni ci nn cn:Nat}{b:Bool}{Fd Id Nd:CD}(h:RS (memW w) sLev L u)(hs:small L)(hok:aam L=true)(hk:k<3)(hFd:RS (memW w) sR Fd (.slice af nf cf))(hId:RS (memW w) sR Id (.slice ai ni ci))(hN:RS (memW w) sR Nd (.slice an nn cn))(lg:¬ aag Nd 40=true)(lF:(Fd.len:Int)≤40)(lI:(Id.len:Int)≤40)(lN:(Nd.len:Int)≤40) :
  Calls Try.prog 28 #[u,.agg #[.int .i64 (k:Int),.slice af nf cf,.slice ai ni ci,.bool b],.slice an nn cn] w fun e w'=>(e=.returned (.tuple #[nilV,.int .i64 2])∧bz6 w w' L k Fd.rows Id.rows Nd.rows)∨∃ v,e=.returned (.tuple #[v,.int .i64 0])∧bu3 w w' L k Fd.rows Id.rows Nd.rows v:=by
 have HH:=hidj h
 have HS:=hidj hs
 have HOK:=hidj hok
 obtain⟨F,hF,rF⟩:=a6f (w:=w) (fun _ _ h=>h) hFd
 obtain⟨I,hI,rI⟩:=a6f (w:=w) (fun _ _ h=>h) hId
 have eF:=a1v (w:=w) hFd rF
 have eI:=a1v (w:=w) hId rI
 have lF:F.length≤40:=by omega
 have lI:I.length≤40:=by omega
 have HF:=hidj hF
 have HI:=hidj hI
 have HRF:=hidj (And.intro rF rI)
 have HN:=hidj hN
 have HL:=hidj (And.intro lF (And.intro lI (And.intro lN lg)))
 clear hF hI hN lF lI lN lg hFd hId rF rI eF eI
 have k0:(0:Int)≤(k:Int):=Int.natCast_nonneg _
 have k1:(k:Int)<3:=by omega
 have k2:(k:Int)<4:=by omega
 have k3:(k:Int)+1<4:=by omega
 have k4:IntKind.i64.wrap ((k:Int)+1)=(k:Int)+1:=by rw [IntKind.wrap_i64];omega
 have k5:¬ (2:Int)<(k:Int):=by omega
 have k6:¬ (k:Int)<0:=by omega
 obtain⟨W,hW⟩:∃ W,W=w.alloc (.cells #[.int .i64 (k:Int),.slice af nf cf,.slice ai ni ci,.bool b] 45 (0,0)):=⟨_,rfl⟩
 have HB:=hidj (show Below w.heap.size w W by rw [hW];exact(Below.refl _ w).alloc (Rl _) _)
 have HX:=hidj (show W.heap[w.heap.size]? = some (.cells #[.int .i64 (k:Int),.slice af nf cf,.slice ai ni ci,.bool b] 45 (0,0)) by rw [hW];exact aa4 w _)
 have HW:=hidj hW
 have HHW:=hidj (h.mono fun k o hk=>(HB.out.block k (Ga.1 hk).1).trans hk)
 clear h hs hW
 go_enter Try.func28,Try.ntmps28
 go_wp2_with fail
 rw [← HW.out]
 refine(agp HHW.out HS.out hok).mono ?_
 rintro e w2 ⟨x0,x1,x2,x3,rfl,hp⟩
 obtain⟨q,hq0,hq1,hq2,hq⟩:=bl7 hp
 obtain⟨b0,m0,d0,e0,R0⟩:=hq 0 (by omega)
 obtain⟨b1,m1,d1,e1,R1⟩:=hq 1 (by omega)
 obtain⟨b2,m2,d2,e2,R2⟩:=hq 2 (by omega)
 obtain⟨b3,m3,d3,e3,R3⟩:=hq 3 (by omega)
 cases e0;cases e1;cases e2;cases e3
 have HR4:=hidj (And.intro R0 (And.intro R1 (And.intro R2 R3)))
 clear R0 R1 R2 R3
 obtain⟨ak,nk,ck,ek,rk⟩:=hq k (by omega)
 obtain⟨al,nl,cl,el,rl⟩:=hq (k+1) (by omega)
 have HP:=hidj hp
 obtain⟨W3,hW3⟩:∃ W3,W3=w2.alloc (.cells #[.slice b0 m0 d0,.slice b1 m1 d1,.slice b2 m2 d2,.slice b3 m3 d3] 78 (0,0)):=⟨_,rfl⟩
 have hb23:Below w2.heap.size w2 W3:=by rw [hW3];exact(Below.refl _ w2).alloc (Rl _) _
 have HX2:=hp.below.block _ (Ga.1 HX.out).1
 have HX3:=hidj ((hb23.block _ (by have:=hp.below.size;have:=(Ga.1 HX.out).1;omega)).trans (HX2.trans HX.out))
 have HA3:=hidj (show W3.heap[w2.heap.size]? = some (.cells #[.slice b0 m0 d0,.slice b1 m1 d1,.slice b2 m2 d2,.slice b3 m3 d3] 78 (0,0)) by rw [hW3];exact aa4 w2 _)
 obtain⟨z0,z1,z2,z3⟩:=acp HX3.out
 have yk:=a9k HA3.out ek
 have yl:=a9k HA3.out el
 have HK:=hidj (And.intro rk rl)
 have HQ:=hidj (And.intro hq0 (And.intro hq1 (And.intro hq2 (And.intro ek el))))
 clear rk rl hq hq0 hq1 hq2 ek el
 rw [hW3] at z0 z1 z2 z3 yk yl
 have HB23:=hidj hb23
 have HW3:=hidj hW3
 clear hp HX2 hW3 hb23
 go_wp2_with fail
 rw [← HW3.out] at z0 z1 z2 z3 yk yl ⊢
 have HB3:=hidj (show Below w.heap.size w W3.drew from(HB.out.trans ((HP.out.below.mono HB.out.size).trans (HB23.out.mono (Nat.le_trans HB.out.size HP.out.below.size)))).drew)
 obtain⟨lk,ilk,rlk⟩:=a6f (w:=W3.drew) (fun i o hi=>(HB23.out.block i (Ga.1 hi.2.2.1).1).trans hi.2.2.1) HK.out.1
 have hlk:lk.length≤1000:=by
  have h1:=ajc (n:=(k:Int)) HS.out (⟨_,_,HHW.out⟩:Typ sLev L) (Int.natCast_nonneg k)
  have h2:=a1v (w:=w2) HK.out.1 rlk
  omega
 have hcall:=ayx ilk (bhq HK.out.1 rlk) (HF.out.below HB3.out) hlk (by have:=HL.out.1;omega)
 have HRK:=hidj rlk
 clear ilk rlk hlk
 go_cut [10,11] from 31 to 40 (fun p q wx=>∃ (ya:Option Addr) (yn yc:Nat),p=.slice ya yn yc∧q=.bool (F.all fun t=>lk.any (delR t))∧Hid (Below W3.drew.heap.size W3.drew wx∧((F.all fun t=>lk.any (delR t))=true→OwnR W3.drew.heap.size wx (.slice ya yn yc) (lk.filter (woL F)))))
 case first =>
  go_region_with (go_at_call 66;refine hcall.mono ?_;rintro e w4 ⟨ya,yn,yc,rfl,hb4,ho4⟩;have H4:=hidj (And.intro hb4 ho4);clear hb4 ho4)
  all_goals
   go_wp2_with fail
   go_meet
   case rel=>exact⟨ya,yn,yc,rfl,rfl,H4⟩
 case rest =>
  obtain⟨ya,yn,yc,rfl,rfl,H4⟩:=hcut
  clear hcall
  obtain⟨w5,hw5⟩:∃ x:World,x=wc:=⟨_,rfl⟩
  subst hw5
  have hs3:w2.heap.size<W3.heap.size:=(Ga.1 HA3.out).1
  have hs2:w.heap.size<W3.heap.size:=(Ga.1 HX3.out).1
  have HX4:=hidj ((H4.out.1.block _ hs2).trans HX3.out)
  have HA4:=hidj ((H4.out.1.block _ hs3).trans HA3.out)
  have HB4:=hidj (show Below w.heap.size w w5.drew from(HB3.out.trans (H4.out.1.mono HB3.out.size)).drew)
  have H34:=hidj (show Below w2.heap.size w2 w5.drew from(HB23.out.drew.trans (H4.out.1.mono HB23.out.size)).drew)
  obtain⟨z0,z1,z2,z3⟩:=acp HX4.out
  have yl:=a9k HA4.out HQ.out.2.2.2.2
  obtain⟨ll,ill,rll⟩:=a6f (w:=w5.drew) (fun i o hi=>(H34.out.block i (Ga.1 hi.2.2.1).1).trans hi.2.2.1) HK.out.2
  have hll:ll.length≤1000:=by
   have h1:=ajc (n:=((k+1:Nat):Int)) HS.out (⟨_,_,HHW.out⟩:Typ sLev L) (Int.natCast_nonneg (k+1))
   have h2:=a1v (w:=w2) HK.out.2 rll
   omega
  have HLL:=hidj hll
  have hcall:=ayx ill (bhq HK.out.2 rll) (HI.out.below HB4.out) hll (by have:=HL.out.2.1;omega)
  have HRL:=hidj rll
  clear ill rll hll
  go_wp2_with fail
  go_cut [12,13] from 40 to 51 (fun p q wx=>∃ (za:Option Addr) (zn zc:Nat),p=.slice za zn zc∧q=.bool (I.all fun t=>ll.any (delR t))∧Hid (Below w5.drew.heap.size w5.drew wx∧((I.all fun t=>ll.any (delR t))=true→OwnR w5.drew.heap.size wx (.slice za zn zc) (ll.filter (woL I)))))
  case first =>
   go_region_with (go_at_call 66;refine hcall.mono ?_;rintro e w4 ⟨ya,yn,yc,rfl,hb4,ho4⟩;have H5:=hidj (And.intro hb4 ho4);clear hb4 ho4)
   all_goals
    go_wp2_with fail
    go_meet
    case rel=>exact⟨ya,yn,yc,rfl,rfl,H5⟩
  case rest =>
   obtain⟨za,zn,zc,rfl,rfl,H5⟩:=hcut
   clear hcall
   obtain⟨w6,hw6⟩:∃ x:World,x=wc:=⟨_,rfl⟩
   subst hw6
   obtain⟨m1,hm1⟩:∃ m,m=F.all fun t=>lk.any (delR t):=⟨_,rfl⟩
   obtain⟨m2,hm2⟩:∃ m,m=I.all fun t=>ll.any (delR t):=⟨_,rfl⟩
   rw [← hm1] at H4
   rw [← hm2] at H5
   rw [← hm1,← hm2]
   have hmd:MetD L k Fd.rows Id.rows=(m1&&m2):=by
    unfold MetD
    rw [hm1,hm2,bpz HRF.out.1 HRK.out,bpz HRF.out.2 HRL.out]
   have HM:=hidj hmd
   have HB6:=hidj (show Below w.heap.size w w6 from HB4.out.trans (H5.out.1.mono HB4.out.size))
   clear hm1 hm2 hmd
   cases m1
   ·go_wp2_with fail
    go_returns
    exact .inl ⟨rfl,HB6.out,.inl (HM.out.trans (Bool.false_and _))⟩
   cases m2
   ·go_wp2_with fail
    go_returns
    exact .inl ⟨rfl,HB6.out,.inl HM.out⟩
   have hsl:w2.heap.size<w5.heap.size:=Nat.lt_of_lt_of_le hs3 H4.out.1.size
   have hsx:w.heap.size<w5.heap.size:=Nat.lt_of_lt_of_le hs2 H4.out.1.size
   have HX6:=hidj ((H5.out.1.block _ hsx).trans HX4.out)
   have HA6:=hidj ((H5.out.1.block _ hsl).trans HA4.out)
   clear z0 z1 z2 z3 yl
   go_wp2_with fail
   refine(ane (bjy HN.out HB6.out) HL.out.2.2.1 HL.out.2.2.2).mono ?_
   rintro e w7 ⟨sn,rfl,hk7,hr7⟩
   obtain⟨sa,sb,sc,rfl⟩:=abe hr7
   have HB67:=hidj (aaz hk7)
   have HB7:=hidj (show Below w.heap.size w w7 from HB6.out.trans (HB67.out.mono HB6.out.size))
   obtain⟨ln,iln,rln⟩:=a6f (w:=w7) (fun i o hi=>hi.2.2.1) hr7
   have hlf:(ll.filter (woL I)).length≤10000:=by have h1:=List.length_filter_le (woL I) ll;have h2:=HLL.out;omega
   have hln:ln.length≤10000:=by have h1:Nd.rows.length=ln.length:=rln.1;have h3:=HN.out.slice.2.1;have h2:=HL.out.2.2.1;omega
   have HLF:=hidj (And.intro hlf hln)
   have hs56:w5.drew.heap.size≤w6.heap.size:=H5.out.1.size
   obtain⟨y,W8,hrun,hB8,hO8,hfr8,hfm8⟩:=bq3 ((H5.out.2 trivial).below HB67.out) iln (Nat.le_trans hs56 HB67.out.size) hlf hln
   obtain⟨pa,pn,pc,rfl⟩:=aum hO8
   have HR7:=hidj rln
   have H8:=hidj (And.intro hB8 (And.intro hO8 (And.intro hfr8 hfm8)))
   have h6s:w2.heap.size<w6.heap.size:=Nat.lt_of_lt_of_le hsl hs56
   have h6x:w.heap.size<w6.heap.size:=Nat.lt_of_lt_of_le hsx hs56
   have HX7:=hidj ((HB67.out.block _ h6x).trans HX6.out)
   have HA7:=hidj ((HB67.out.block _ h6s).trans HA6.out)
   have HX8:=hidj ((hB8.block _ (by exact hsx)).trans HX7.out)
   have HA8:=hidj ((hB8.block _ (by exact hsl)).trans HA7.out)
   clear hk7 hr7 iln rln hlf hln hB8 hO8 hfr8 hfm8
   go_wp2_with (at_builtin;refine Lib.wpList_append_run _ rfl _ _ _ _ rfl _ _ rfl rfl _ _ (hrun _) ?_)
   obtain⟨M8,hM8⟩:∃ M:Mem,M=fun i o=>W8.heap[i]? = some o∧Nice o∧((q (k+1)≤i∧i<q (k+2))∨(w6.heap.size≤i∧i<w7.heap.size)):=⟨_,rfl⟩
   have hrel:RelL M8 ((levD L (k+1:Nat)).rows.filter (woR Id.rows)++Nd.rows) (ll.filter (woL I)++ln):=by
    rw [hM8]
    refine RelL.append (aoc (bz1 HRF.out.2) (HRL.out.mono fun i o hi=>?_)) (HR7.out.mono fun i o hi=>?_)
    ·have hiw:i<w2.heap.size:=(Ga.1 hi.2.2.1).1
     refine⟨?_,hi.2.2.2,.inl ⟨hi.1,hi.2.1⟩⟩
     rw [H8.out.1.block i (Nat.lt_trans hiw hsl),HB67.out.block i (by omega),H5.out.1.block i (Nat.lt_trans hiw hsl),H34.out.block i hiw]
     exact hi.2.2.1
    ·have hiw:i<w7.heap.size:=(Ga.1 hi.2.2.1).1
     refine⟨?_,hi.2.2.2,.inr ⟨hi.1,hiw⟩⟩
     rw [H8.out.2.2.1 i hiw ?_]
     ·exact hi.2.2.1
     ·intro b c e hb
      rcases H5.out.2 trivial with ⟨_,e'⟩ | ⟨blk,cap,e',ho⟩
      ·rw [e'] at e
       cases e
      ·rw [e'] at e
       obtain⟨arr,t,h1,_⟩:=ho.obj
       have hlt:=(Ga.1 h1).1
       have:blk=b:=by injection e with e1 _ _;injection e1 with e1;injection e1
       have:=hi.1
       omega
   have hln:(ll.filter (woL I)++ln).length≤1000000:=by rw [List.length_append];have h1:=HLF.out;omega
   have hsort:=bn1 H8.out.2.1 hrel (fun i o hi=>by rw [hM8] at hi;exact hi.1) hln
   have HREL:=hidj (And.intro hM8 hrel)
   clear hM8 hrel hln hrun
   refine hsort.mono ?_
   rintro e w9 ⟨rfl,g,hg,ho9,hb9,hs9,hf9⟩
   have HX9:=hidj ((hb9.block _ (by exact hsx)).trans HX8.out)
   have HA9:=hidj ((hb9.block _ (by exact hsl)).trans HA8.out)
   have H9:=hidj (And.intro hg (And.intro ho9 (And.intro hb9 (And.intro hs9 hf9))))
   clear hg ho9 hb9 hs9 hf9 hsort
   obtain⟨z0,z1,z2,z3⟩:=acp HX9.out
   have yk:=a9k HA9.out HQ.out.2.2.2.1
   have yl:=a9k HA9.out HQ.out.2.2.2.2
   have fk:=ac1 (j:=k) HA9.out
   have fl:=ac1 (j:=k+1) HA9.out
   go_wp2_with fail
   have k7:((k:Int)+1).toNat=k+1:=by omega
   have k8:(0:Int)≤(k:Int)+1:=by omega
   have hne:w2.heap.size≠w.heap.size:=by have:=HP.out.below.size;have:=(Ga.1 HX.out).1;omega
   have v1:=(World.cell?_setCell_other (w:=w9) (a:=⟨w2.heap.size,k,none⟩) (b:=⟨w.heap.size,0,none⟩) (v:=.slice ya yn yc) (fun h=>hne (congrArg Addr.block h))).trans z0
   have v2:=(World.cell?_setCell_other (w:=w9) (a:=⟨w2.heap.size,k+1,none⟩) (b:=⟨w.heap.size,0,none⟩) (v:=.slice pa pn pc) (fun h=>hne (congrArg Addr.block h))).trans z0
   have v3:=(World.cell?_setCell_other (w:=w9) (a:=⟨w2.heap.size,k,none⟩) (b:=⟨w2.heap.size,k+1,none⟩) (v:=.slice ya yn yc) (fun h=>by cases h)).trans yl
   have v4:=(World.cell?_setCell_other (w:=w9) (a:=⟨w2.heap.size,k+1,none⟩) (b:=⟨w2.heap.size,k,none⟩) (v:=.slice pa pn pc) (fun h=>by cases h)).trans yk
   obtain⟨WX,hWX⟩:∃ x:World,x=((w9.setCell ⟨w2.heap.size,k,none⟩ (.slice ya yn yc)).setCell ⟨w2.heap.size,k+1,none⟩ (.slice pa pn pc)).drew:=⟨_,rfl⟩
   have hend:∃ (A:Nat→Nat→Prop) (e0:Option Addr) (i0 j0:Nat) (e1:Option Addr) (i1 j1:Nat) (e2:Option Addr) (i2 j2:Nat) (e3:Option Addr) (i3 j3:Nat) (d:Nat→CD),FourA w WX A (d 0) (d 1) (d 2) (d 3) (.slice e0 i0 j0) (.slice e1 i1 j1) (.slice e2 i2 j2) (.slice e3 i3 j3)∧WX.heap[w2.heap.size]? = some (.cells #[.slice e0 i0 j0,.slice e1 i1 j1,.slice e2 i2 j2,.slice e3 i3 j3] 78 (0,0))∧(∀ j,j≠k→j≠k+1→d j=levD L (j:Nat))∧(d k).rows=(levD L k).rows.filter (woR Fd.rows)∧(d (k+1)).rows=lst (fun i=>((levD L (k+1:Nat)).rows.filter (woR Id.rows)++Nd.rows).getD (g i) []) 0 (ll.filter (woL I)++ln).length :=
    bt3 hk (show Below w.heap.size w w2 from HB.out.trans (HP.out.below.mono HB.out.size)) (Nat.le_trans (Nat.add_le_add_right HB.out.size 2) HQ.out.1) HQ.out.2.1 HQ.out.2.2.1 HR4.out hs3 HB23.out HRK.out HRF.out.1 ⟨H4.out.1,H4.out.2 trivial⟩ ⟨H5.out.1,H5.out.2 trivial⟩ HB67.out HB7.out ⟨H8.out.1,H8.out.2.2.1,H8.out.2.2.2⟩ (HREL.out.1 ▸ HREL.out.2) H9.out.1 H9.out.2.1 H9.out.2.2.1 H9.out.2.2.2.2 HA9.out hWX
   have HE:=hidj hend
   clear hend
   go_region
   go_wp2_with fail
   rw [← hWX]
   obtain⟨A,e0,i0,j0,e1,i1,j1,e2,i2,j2,e3,i3,j3,d,hfa,hob,hd,hdk,hdl⟩:=HE.out
   have tr:∀ j k o,(A j k∧WX.heap[k]? = some o∧Nice o)→memW WX k o:=fun j k o h=>h.2.1
   have hlv:=bzb hob (hfa.r0.mono (tr 0)) (hfa.r1.mono (tr 1)) (hfa.r2.mono (tr 2)) (hfa.r3.mono (tr 3))
   have HF4:=hidj hfa
   have HOB:=hidj hob
   have hT:Typ sLev L:=⟨_,_,HH.out⟩
   have hRD:RepD L k Fd.rows Id.rows Nd.rows d:=⟨hd,hdk,hdl.trans (be3 ((bes (a94 (k+1) hT HOK.out) (Nat.succ_pos k)).filter _) H9.out.1 HREL.out.2.1.symm)⟩
   have HRD:=hidj hRD
   clear hT hRD
   clear hfa hob hd hdk hdl z0 z1 z2 z3 yk yl fk fl v1 v2 v3 v4
   refine(au9 hlv).mono ?_
   clear hlv
   rintro e w10 ⟨rfl,hk10⟩
   have HB10:=hidj (aaz hk10)
   have HOB10:=hidj ((HB10.out.block _ (Ga.1 HOB.out).1).trans HOB.out)
   clear hk10
   obtain⟨o4,ho4⟩:∃ o4,o4=aam (.sl false [[d 0],[d 1],[d 2],[d 3]]):=⟨_,rfl⟩
   rw [← ho4]
   have HO4:=hidj ho4
   clear ho4
   cases o4
   ·go_wp2_with fail
    go_returns
    exact .inl ⟨rfl,HF4.out.below.trans (HB10.out.mono HF4.out.below.size),.inr ⟨d,HRD.out,HO4.out.symm⟩⟩
   ·obtain⟨z0,z1,z2,z3⟩:=acp HOB10.out
    go_wp2_with fail
    refine azx.mono ?_
    rintro e w11 ⟨s,rfl,ht⟩
    have HFT:=hidj ((HF4.out.keep HB10.out).told ht)
    clear ht
    go_wp2_with fail
    go_returns
    exact .inr ⟨s,rfl,HFT.out.1,HM.out,d,HRD.out,HO4.out.symm,HFT.out.2.1,HFT.out.2.2⟩
end Go.Proofs.Ytlbbkmcegbeckaa
namespace Go.Proofs.Ytlbbkmcegbeckaa
open Go.Sx Go.Proofs Go.RowKit Go.Lib
abbrev sPl:List Srt:=[.int .i64,sR,sR,.bool]
theorem a97{m:Mem}{c0 c1 c2 c3:CD}{u:Value}(h:afi m (true,sPl) [c0,c1,c2,c3] u):∃ (n:Int) (af:Option Addr) (nf cf:Nat) (ai:Option Addr) (ni ci:Nat) (b:Bool),u=.agg #[.int .i64 n,.slice af nf cf,.slice ai ni ci,.bool b]∧c0=vInt .i64 n∧c3=aan b∧RS m (.int .i64) c0 (.int .i64 n)∧RS m sR c1 (.slice af nf cf)∧RS m sR c2 (.slice ai ni ci):=by
 obtain⟨us,rfl,hs,h⟩:=h
 obtain⟨c0',q0,u0,e0,f0,r0,c1',q1,u1,e1,f1,r1,c2',q2,u2,e2,f2,r2,c3',q3,u3,e3,f3,r3,e4⟩:=h
 cases e0
 cases e1
 cases e2
 cases e3
 obtain⟨n,g0,k0,p0⟩:=r0
 obtain⟨b,g3,k3⟩:=r3
 obtain⟨af,nf,cf,k1⟩:=abe r1
 obtain⟨ai,ni,ci,k2⟩:=abe r2
 subst k0;subst k1;subst k2;subst k3
 have hl:us.size=4:=hs
 have e:us = #[.int .i64 n,.slice af nf cf,.slice ai ni ci,.bool b]:=by
  apply Array.ext_getElem?
  intro j
  match j with
  | 0=>exact f0
  | 1=>exact f1
  | 2=>exact f2
  | 3=>exact f3
  | j+4=>rw [Array.getElem?_eq_none (by omega)];rfl
 exact⟨n,af,nf,cf,ai,ni,ci,b,by rw [e],g0,g3,⟨n,g0,rfl,p0⟩,r1,r2⟩
theorem bik{m:Mem}{n:Int}{c1 c2 u1 u2:Value}{d0 d1 d2:CD}{b:Bool}(h0:RS m (.int .i64) d0 (.int .i64 n))(h1:RS m sR d1 u1)(h2:RS m sR d2 u2):afi m (true,sPl) [d0,d1,d2,aan b] (.agg #[.int .i64 n,u1,u2,.bool b]) :=
 ⟨_,rfl,rfl,_,_,_,rfl,rfl,h0,_,_,_,rfl,rfl,h1,_,_,_,rfl,rfl,h2,_,_,_,rfl,rfl,⟨b,rfl,rfl⟩,rfl⟩
theorem ac0{W W':World}{s:Srt}{d:CD}{u:Value}(h:RS (memW W) s d u)(hb:Below W.heap.size W W'):RS (memW W') s d u:=h.mono fun k o hk=>(hb.block k (Ga.1 hk).1).trans hk
theorem lit2{n:Int}(h0:0≤n)(h2:n≤2):abw (.int .i64 n)=true:=by
 obtain rfl | rfl | rfl:n=0∨n=1∨n=2:=by omega
 all_goals rfl
theorem blp{W:World}{L:CD}{x0 x1 x2 x3:Value}{n:Int}(r0:RS (memW W) sR (levD L 0) x0)(r1:RS (memW W) sR (levD L 1) x1)(r2:RS (memW W) sR (levD L 2) x2)(r3:RS (memW W) sR (levD L 3) x3)(hs:small L)(hT:Typ sLev L)(h0:0≤n)(h2:n≤2)(hne:((ace L).getD n.toNat []).isEmpty=false) :
  Calls Try.prog 62 #[.agg #[x0,x1,x2,x3],.int .i64 n] W fun e w'=>∃ (af:Option Addr) (nf cf:Nat) (ai:Option Addr) (ni ci:Nat),e=.returned (.agg #[.int .i64 n,.slice af nf cf,.slice ai ni ci,.bool (at1 (ace L) n.toNat)])∧Keep W w'∧RS (memW w') sR (.sl false (aek (ace L) n.toNat)) (.slice af nf cf)∧RS (memW w') sR (mkz (afz (ace L) n.toNat)) (.slice ai ni ci):=by
 refine(acd c62 at62 (ofL [levD L 0,levD L 1,levD L 2,levD L 3,vInt .i64 n]) (us:=[.agg #[x0,x1,x2,x3],.int .i64 n]) ⟨⟨_,rfl,rfl,_,_,_,rfl,rfl,r0,_,_,_,rfl,rfl,r1,_,_,_,rfl,rfl,r2,_,_,_,rfl,rfl,r3,rfl⟩,⟨n,rfl,rfl,lit2 h0 h2⟩,trivial⟩ ?_).mono fun e w' hh=>?_
 ·unfold S62
  simp only [aad,aac,aay,b_le,abk,abn,aao,aax,aav,w_l1,w_l0,aaw,us74,aae,aaf]
  exact⟨ajc (n:=0) hs hT (by decide),ajc (n:=1) hs hT (by decide),ajc (n:=2) hs hT (by decide),ajc (n:=3) hs hT (by decide),h0,h2,by
   show(!(((ace L).getD n.toNat []).isEmpty))=true
   rw [hne]
   rfl,trivial⟩
 obtain⟨u',rfl,hk,o,ho,hx,hres⟩:=hh
 rw [Mg.1 ho] at hres
 obtain⟨us,hq,rfl⟩:=hres
 obtain⟨u,rfl,h1⟩:=a6u hq
 obtain⟨n',af,nf,cf,ai,ni,ci,b,rfl,e0,e3,_,g1,g2⟩:=a97 h1
 have tr:∀ k o,((W.heap.size≤k∧w'.heap[k]? = some o∧Nice o)∨(S62.fresh=false∧memW W k o))→memW w' k o:=fun k o hh=>by
  rcases hh with ⟨_,h,_⟩ | ⟨_,h⟩
  ·exact h
  ·exact(hk.old k (Ga.1 h).1).trans h
 cases (show vInt .i64 n=vInt .i64 n' from e0)
 cases (show aan (at1 (ace L) n.toNat)=aan b from e3)
 exact⟨af,nf,cf,ai,ni,ci,rfl,hk,g1.mono tr,g2.mono tr⟩
structure KX (kx:Nat) (w w':World):Prop where
 os:w'.os=w.os
 tape:w'.tape=w.tape
 output:w'.output=w.output
 size:w.heap.size≤w'.heap.size
 block:∀ k,k<w.heap.size→k≠kx→w'.heap[k]? = w.heap[k]?
theorem KX.refl(kx:Nat)(w:World):KX kx w w:=⟨rfl,rfl,rfl,Rl _,fun _ _ _=>rfl⟩
theorem KX.call{kx:Nat}{w w' w'':World}(h:KX kx w w')(hb:Below w'.heap.size w' w''):KX kx w w'':=⟨hb.os.trans h.os,hb.tape.trans h.tape,hb.output.trans h.output,Nat.le_trans h.size hb.size,fun k hk hn=>(hb.block k (Nat.lt_of_lt_of_le hk h.size)).trans (h.block k hk hn)⟩
theorem KX.drew{kx:Nat}{w w':World}(h:KX kx w w'):KX kx w w'.drew:=⟨h.os,h.tape,h.output,h.size,h.block⟩
theorem KX.set{kx:Nat}{w w':World}(h:KX kx w w')(j:Nat)(v:Value):KX kx w (w'.setCell ⟨kx,j,none⟩ v):=⟨h.os,h.tape,h.output,by simpa [World.setCell] using h.size,fun k hk hn=>(Below.heap_setCell _ ⟨kx,j,none⟩ _ k hn).trans (h.block k hk hn)⟩
theorem KX.rs{kx a b:Nat}{w w':World}{s:Srt}{d:CD}{u:Value}(h:KX kx w w')(hr:RS (nm a b w) s d u)(ha:kx<a):RS (nm a b w') s d u:=hr.mono fun k o ⟨h1,h2,h3,h4⟩=>⟨h1,h2,(h.block k (Ga.1 h3).1 (by omega)).trans h3,h4⟩
theorem bxv{w0 W:World}{d:CD}{u:Value}(h:RS (memW w0) sR d u)(hb:KX w0.heap.size w0 W)(h1:(d.len:Int)≤40)(h2:¬ aag d 40=true):Calls Try.prog 63 #[u] W fun e w'=>∃ (a:Option Addr) (n c:Nat),e=.returned (.slice a n c)∧Below W.heap.size W w'∧RS (nm W.heap.size w'.heap.size w') sR (mkz d.rows) (.slice a n c) :=
 (ane (h.mono fun k o hk=>by
  have hlt:k<w0.heap.size:=(Ga.1 hk).1
  exact(hb.block k hlt (by omega)).trans hk) h1 h2).mono fun e w' hh=>by
  obtain⟨s,rfl,hk,hr⟩:=hh
  obtain⟨a,n,c,rfl⟩:=abe hr
  exact⟨a,n,c,rfl,aaz hk,hr⟩
theorem a0q{l:CD}{n:Nat}(hT:Typ sLev l)(ho:aam l=true):∀ r∈(l.cell (n:Nat) 0).rows,aev r=false:=fun r hr=>by
 have h:=bh6 (a94 n hT ho) r hr
 unfold afe at h
 simp only [Ba,Dt] at h
 have h3:=h.1.1.1.2
 have h4:=h.1.2
 unfold aev
 unfold at' at h3 h4
 rw [decide_eq_false (by omega),decide_eq_false (by omega)]
 rfl
theorem bf5{l:CD}{n:Nat}(hs:small l)(hT:Typ sLev l):(l.cell (n:Nat) 0).rows.length≤40:=by
 have h:=ajc (n:=(n:Int)) hs hT (Int.natCast_nonneg n)
 have e:(levD l n).len=clip (l.cell (n:Nat) 0).rows.length:=rfl
 rw [e] at h
 unfold clip maxN at h
 omega
theorem a6p{d:CD}{rows:List (List CD)}(h:∀ r∈d.rows,r∈rows)(hl:d.rows.length≤40)(hb:∀ r∈rows,aev r=false):(d.len:Int)≤40∧¬ aag d 40=true:=by
 have hlen:(d.len:Int)≤40:=by
  have e:d.len=clip d.rows.length:=rfl
  rw [e]
  unfold clip
  omega
 refine⟨hlen,?_⟩
 unfold aag
 rw [Bool.or_eq_true,Dt,not_or]
 refine⟨by omega,?_⟩
 rw [List.any_eq_true]
 rintro⟨r,hr,hb'⟩
 rw [hb r (h r hr)] at hb'
 cases hb'
theorem azq{l:CD}{k:Nat}(hs:small l)(hT:Typ sLev l)(ho:aam l=true)(hk:k<3)(hne:((ace l).getD k []).isEmpty=false):((CD.sl false (aek (ace l) k)).len:Int)≤40∧¬ aag (.sl false (aek (ace l) k)) 40=true:=by
 have e:=apf l (k:=k) (by omega)
 refine a6p (d:=.sl false (aek (ace l) k)) (rows:=(l.cell (k:Nat) 0).rows) (fun r hr=>e ▸ bbv _ _ hne r hr) ?_ (a0q hT ho)
 show(aek (ace l) k).length≤40
 unfold aek
 split
 ·exact bf5 (n:=0) hs hT
 ·show 1≤40
  decide
theorem azt{l:CD}{k:Nat}(hs:small l)(hT:Typ sLev l)(ho:aam l=true)(hk:k<3):((mkz (afz (ace l) k)).len:Int)≤40∧¬ aag (mkz (afz (ace l) k)) 40=true:=by
 have e:=apf l (k:=k+1) (by omega)
 refine a6p (d:=mkz (afz (ace l) k)) (rows:=(l.cell ((k+1:Nat):Nat) 0).rows) (fun r hr=>e ▸ bbz _ _ r hr) ?_ (a0q hT ho)
 show(afz (ace l) k).length≤40
 unfold afz
 refine Nat.le_trans (List.length_filter_le _ _) ?_
 rw [e]
 exact bf5 hs hT
structure Four4 (w2:World) (L:CD) (a0:Option Addr) (n0 c0:Nat) (a1:Option Addr) (n1 c1:Nat) (a2:Option Addr) (n2 c2:Nat) (a3:Option Addr) (n3 c3:Nat):Prop where
 r0:RS (memW w2) sR (levD L (0:Nat)) (.slice a0 n0 c0)
 r1:RS (memW w2) sR (levD L (1:Nat)) (.slice a1 n1 c1)
 r2:RS (memW w2) sR (levD L (2:Nat)) (.slice a2 n2 c2)
 r3:RS (memW w2) sR (levD L (3:Nat)) (.slice a3 n3 c3)
theorem brt{w w':World}{L:CD}{x0 x1 x2 x3:Value}(h:FourP w w' L x0 x1 x2 x3):∃ a0 n0 c0 a1 n1 c1 a2 n2 c2 a3 n3 c3,x0=.slice a0 n0 c0∧x1=.slice a1 n1 c1∧x2=.slice a2 n2 c2∧x3=.slice a3 n3 c3∧Four4 w' L a0 n0 c0 a1 n1 c1 a2 n2 c2 a3 n3 c3:=by
 obtain⟨p0,p1,p2,p3,l0,l1,l2,l3,l4,r0,r1,r2,r3⟩:=h.regs
 obtain⟨a0,n0,c0,rfl⟩:=abe r0
 obtain⟨a1,n1,c1,rfl⟩:=abe r1
 obtain⟨a2,n2,c2,rfl⟩:=abe r2
 obtain⟨a3,n3,c3,rfl⟩:=abe r3
 exact⟨a0,n0,c0,a1,n1,c1,a2,n2,c2,a3,n3,c3,rfl,rfl,rfl,rfl,awd r0,awd r1,awd r2,awd r3⟩
theorem Four4.at{w2:World}{L:CD}{a0 a1 a2 a3:Option Addr}{n0 c0 n1 c1 n2 c2 n3 c3:Nat}(h:Four4 w2 L a0 n0 c0 a1 n1 c1 a2 n2 c2 a3 n3 c3){k:Nat}(hk:k<4):∃ a n c,[Value.slice a0 n0 c0,.slice a1 n1 c1,.slice a2 n2 c2,.slice a3 n3 c3][k]? = some (.slice a n c)∧n=((ace L).getD k []).length:=by
 have hl:∀ {j:Nat} {a:Option Addr} {n c:Nat},j<4→RS (memW w2) sR (levD L (j:Nat)) (.slice a n c)→n=((ace L).getD j []).length:=fun {j a n c} hj hr=>by
  rw [apf L hj]
  obtain⟨h1,h2,h3,a',c',e,_⟩:=hr.slice
  cases e
  rw [show(L.cell (j:Nat) 0).rows.length=(levD L (j:Nat)).rows.length from rfl,← h2]
 match k,hk with
 | 0,_=>exact⟨_,_,_,rfl,hl (by decide) h.r0⟩
 | 1,_=>exact⟨_,_,_,rfl,hl (by decide) h.r1⟩
 | 2,_=>exact⟨_,_,_,rfl,hl (by decide) h.r2⟩
 | 3,_=>exact⟨_,_,_,rfl,hl (by decide) h.r3⟩
theorem bzh{w:World}{kx:Nat}{x0 x1 x2 x3 v0 v1 v2 v3:Value}{t:TypeId}(h:w.heap[kx]? = some (.cells #[x0,x1,x2,x3] t (0,0))) :
  (w.setCell ⟨kx,0,none⟩ v0).cell? ⟨kx,0,none⟩=some v0∧((w.setCell ⟨kx,0,none⟩ v0).setCell ⟨kx,1,none⟩ v1).cell? ⟨kx,1,none⟩=some v1∧(((w.setCell ⟨kx,0,none⟩ v0).setCell ⟨kx,1,none⟩ v1).setCell ⟨kx,2,none⟩ v2).cell? ⟨kx,2,none⟩=some v2∧((((w.setCell ⟨kx,0,none⟩ v0).setCell ⟨kx,1,none⟩ v1).setCell ⟨kx,2,none⟩ v2).setCell ⟨kx,3,none⟩ v3).cell? ⟨kx,3,none⟩=some v3:=by
 haveI:Sg:=sg0
 have h0:=heap_setCell_same _ _ 0 _ _ v0 h
 have h1:=heap_setCell_same _ _ 1 _ _ v1 h0
 have h2:=heap_setCell_same _ _ 2 _ _ v2 h1
 have h3:=heap_setCell_same _ _ 3 _ _ v3 h2
 exact⟨by rw [cell?_of h0];rfl,by rw [cell?_of h1];rfl,by rw [cell?_of h2];rfl,by rw [cell?_of h3];rfl⟩
theorem apv{w w':World}{v0 v1 v2 v3:Value}(h:Below w.heap.size w w'):Below w.heap.size w ((((w'.setCell ⟨w.heap.size,0,none⟩ v0).setCell ⟨w.heap.size,1,none⟩ v1).setCell ⟨w.heap.size,2,none⟩ v2).setCell ⟨w.heap.size,3,none⟩ v3) :=
 (((h.setCell (p:=⟨w.heap.size,0,none⟩) (Rl _) v0).setCell (p:=⟨w.heap.size,1,none⟩) (Rl _) v1).setCell (p:=⟨w.heap.size,2,none⟩) (Rl _) v2).setCell (p:=⟨w.heap.size,3,none⟩) (Rl _) v3
set_option maxHeartbeats 4000000 in
theorem bf7{w:World}{L:CD}{u:Value}{n:Int}(h:RS (memW w) sLev L u)(hs:small L)(hc:chOK L n=false) :
  Calls Try.prog 24 #[u,.int .i64 n] w fun e w'=>e=.returned (.tuple #[.agg #[.int .i64 0,nilV,nilV,.bool false],.int .i64 2])∧Below w.heap.size w w':=by
 obtain⟨W,hW⟩:∃ W,W=w.alloc (.cells #[.int .i64 0,nilV,nilV,.bool false] 45 (0,0)):=⟨_,rfl⟩
 have HB:=hidj (show Below w.heap.size w W by rw [hW];exact(Below.refl _ w).alloc (Rl _) _)
 have HX:=hidj (show W.heap[w.heap.size]? = some (.cells #[.int .i64 0,nilV,nilV,.bool false] 45 (0,0)) by rw [hW];exact aa4 w _)
 have HW:=hidj hW
 have HHW:=hidj (ac0 h HB.out)
 have HS:=hidj hs
 have HC:=hidj hc
 clear h hs hW hc
 by_cases hok:aam L=true
 ·have HOK:=hidj hok
  have hcase:n<0∨2<n∨∃ k:Nat,n=(k:Int)∧k<3∧(ace L).getD k []=[]:=by
   by_cases h1:n<0
   ·exact .inl h1
   ·by_cases h2:2<n
    ·exact .inr (.inl h2)
    ·refine .inr (.inr ⟨n.toNat,by omega,by omega,?_⟩)
     have h:=HC.out
     unfold chOK at h
     rw [hok,decide_eq_true (show 0≤n by omega),decide_eq_true (show n≤2 by omega)] at h
     simpa using h
  clear hok
  go_enter Try.func24,Try.ntmps24
  go_wp2_with fail
  rw [← HW.out]
  refine(agp HHW.out HS.out HOK.out).mono ?_
  rintro e w2 ⟨x0,x1,x2,x3,rfl,hp⟩
  have HX2:=hidj ((hp.below.block _ (Ga.1 HX.out).1).trans HX.out)
  have HB2:=hidj (HB.out.trans (hp.below.mono HB.out.size))
  obtain⟨a0,n0,c0,a1,n1,c1,a2,n2,c2,a3,n3,c3,rfl,rfl,rfl,rfl,h4⟩:=brt hp
  have H4:=hidj h4
  clear hp h4
  obtain⟨z0,z1,z2,z3⟩:=acp HX2.out
  obtain⟨W3,hW3⟩:∃ W3,W3=w2.alloc (.cells #[.slice a0 n0 c0,.slice a1 n1 c1,.slice a2 n2 c2,.slice a3 n3 c3] 78 (0,0)):=⟨_,rfl⟩
  have hb23:Below w2.heap.size w2 W3:=by rw [hW3];exact(Below.refl _ w2).alloc (Rl _) _
  have HX3:=hidj ((hb23.block _ (Ga.1 HX2.out).1).trans HX2.out)
  have HA3:=hidj (show W3.heap[w2.heap.size]? = some (.cells #[.slice a0 n0 c0,.slice a1 n1 c1,.slice a2 n2 c2,.slice a3 n3 c3] 78 (0,0)) by rw [hW3];exact aa4 w2 _)
  have HB3:=hidj (HB2.out.trans (hb23.mono HB2.out.size))
  obtain⟨z0,z1,z2,z3⟩:=acp HX3.out
  have f0:=ac1 (j:=0) HX3.out
  have f1:=ac1 (j:=1) HX3.out
  have f2:=ac1 (j:=2) HX3.out
  have f3:=ac1 (j:=3) HX3.out
  obtain⟨g0,g1,g2,g3⟩:=bzh (v0:=.int .i64 0) (v1:=nilV) (v2:=nilV) (v3:=.bool false) HX3.out
  have HE:=hidj (apv (v0:=.int .i64 0) (v1:=nilV) (v2:=nilV) (v3:=.bool false) HB3.out)
  rw [hW3] at z0 z1 z2 z3 f0 f1 f2 f3 g0 g1 g2 g3 HE
  have HW3:=hidj hW3
  clear hb23 hW3
  rcases hcase with h0 | h2 | ⟨k,rfl,hk,hnil⟩
  ·go_wp2_with fail
   refine bodyPost_ret (by simp [results,Try.results24,go_sem,g0,g1,g2,g3];try rfl) rfl ?_
   exact⟨rfl,HE.out⟩
  ·have h0:¬ n<0:=by omega
   go_wp2_with fail
   refine bodyPost_ret (by simp [results,Try.results24,go_sem,g0,g1,g2,g3];try rfl) rfl ?_
   exact⟨rfl,HE.out⟩
  ·obtain⟨ak,nk,ck,ek,hn⟩:=H4.out.at (k:=k) (by omega)
   have hn0:nk=0:=by rw [hn,hnil];rfl
   clear hn
   have yk:=a9k HA3.out ek
   rw [HW3.out] at yk
   subst hn0
   have k0:(0:Int)≤(k:Int):=Int.natCast_nonneg _
   have k2:(k:Int)<4:=by omega
   have k5:¬ (2:Int)<(k:Int):=by omega
   have k6:¬ (k:Int)<0:=by omega
   clear ek hnil
   go_wp2_with fail
   refine bodyPost_ret (by simp [results,Try.results24,go_sem,g0,g1,g2,g3];try rfl) rfl ?_
   exact⟨rfl,HE.out⟩
 ·have HOK:=hidj hok
  clear hok
  go_enter Try.func24,Try.ntmps24
  go_wp2_with fail
  rw [← HW.out]
  refine(avw HHW.out HOK.out).mono ?_
  rintro e w2 ⟨rfl,hb⟩
  have HX2:=hidj ((hb.block _ (Ga.1 HX.out).1).trans HX.out)
  have HB2:=hidj (HB.out.trans (hb.mono HB.out.size))
  clear hb
  obtain⟨W3,hW3⟩:∃ W3,W3=w2.alloc (.cells #[nilV,nilV,nilV,nilV] 78 (0,0)):=⟨_,rfl⟩
  have hb23:Below w2.heap.size w2 W3:=by rw [hW3];exact(Below.refl _ w2).alloc (Rl _) _
  have HX3:=hidj ((hb23.block _ (Ga.1 HX2.out).1).trans HX2.out)
  have HB3:=hidj (HB2.out.trans (hb23.mono HB2.out.size))
  obtain⟨z0,z1,z2,z3⟩:=acp HX3.out
  have f0:=ac1 (j:=0) HX3.out
  have f1:=ac1 (j:=1) HX3.out
  have f2:=ac1 (j:=2) HX3.out
  have f3:=ac1 (j:=3) HX3.out
  obtain⟨g0,g1,g2,g3⟩:=bzh (v0:=.int .i64 0) (v1:=nilV) (v2:=nilV) (v3:=.bool false) HX3.out
  have HE:=hidj (apv (v0:=.int .i64 0) (v1:=nilV) (v2:=nilV) (v3:=.bool false) HB3.out)
  rw [hW3] at z0 z1 z2 z3 f0 f1 f2 f3 g0 g1 g2 g3 HE
  clear hb23 hW3
  go_wp2_with fail
  refine bodyPost_ret (by simp [results,Try.results24,go_sem,g0,g1,g2,g3];try rfl) rfl ?_
  exact⟨rfl,HE.out⟩
set_option maxHeartbeats 4000000 in
theorem bnu{w:World}{L:CD}{u vf:Value}{n:Int}{af ai:Option Addr}{nf cf ni ci:Nat}{b:Bool}(h:RS (memW w) sLev L u)(hs:small L)(hno:¬ aam L=true∨n<0∨2<n) :
  Calls Try.prog 28 #[u,.agg #[.int .i64 n,.slice af nf cf,.slice ai ni ci,.bool b],vf] w fun e w'=>e=.returned (.tuple #[nilV,.int .i64 2])∧Below w.heap.size w w':=by
 obtain⟨W,hW⟩:∃ W,W=w.alloc (.cells #[.int .i64 n,.slice af nf cf,.slice ai ni ci,.bool b] 45 (0,0)):=⟨_,rfl⟩
 have HB:=hidj (show Below w.heap.size w W by rw [hW];exact(Below.refl _ w).alloc (Rl _) _)
 have HX:=hidj (show W.heap[w.heap.size]? = some (.cells #[.int .i64 n,.slice af nf cf,.slice ai ni ci,.bool b] 45 (0,0)) by rw [hW];exact aa4 w _)
 have HW:=hidj hW
 have HHW:=hidj (ac0 h HB.out)
 have HS:=hidj hs
 clear h hs hW
 by_cases hok:aam L=true
 ·have HOK:=hidj hok
  have hcase:n<0∨2<n:=hno.resolve_left (fun h=>h hok)
  clear hok hno
  go_enter Try.func28,Try.ntmps28
  go_wp2_with fail
  rw [← HW.out]
  refine(agp HHW.out HS.out HOK.out).mono ?_
  rintro e w2 ⟨x0,x1,x2,x3,rfl,hp⟩
  have HX2:=hidj ((hp.below.block _ (Ga.1 HX.out).1).trans HX.out)
  have HB2:=hidj (HB.out.trans (hp.below.mono HB.out.size))
  obtain⟨a0,n0,c0,a1,n1,c1,a2,n2,c2,a3,n3,c3,rfl,rfl,rfl,rfl,h4⟩:=brt hp
  clear hp h4
  obtain⟨W3,hW3⟩:∃ W3,W3=w2.alloc (.cells #[.slice a0 n0 c0,.slice a1 n1 c1,.slice a2 n2 c2,.slice a3 n3 c3] 78 (0,0)):=⟨_,rfl⟩
  have hb23:Below w2.heap.size w2 W3:=by rw [hW3];exact(Below.refl _ w2).alloc (Rl _) _
  have HX3:=hidj ((hb23.block _ (Ga.1 HX2.out).1).trans HX2.out)
  have HB3:=hidj (HB2.out.trans (hb23.mono HB2.out.size))
  obtain⟨z0,z1,z2,z3⟩:=acp HX3.out
  rw [hW3] at z0 z1 z2 z3 HB3
  clear hb23 hW3
  rcases hcase with h0 | h2
  ·go_wp2_with fail
   go_returns
   exact⟨rfl,HB3.out⟩
  ·have h0:¬ n<0:=by omega
   go_wp2_with fail
   go_returns
   exact⟨rfl,HB3.out⟩
 ·have HOK:=hidj hok
  clear hok hno
  go_enter Try.func28,Try.ntmps28
  go_wp2_with fail
  rw [← HW.out]
  refine(avw HHW.out HOK.out).mono ?_
  rintro e w2 ⟨rfl,hb⟩
  have HX2:=hidj ((hb.block _ (Ga.1 HX.out).1).trans HX.out)
  have HB2:=hidj (HB.out.trans (hb.mono HB.out.size))
  clear hb
  obtain⟨W3,hW3⟩:∃ W3,W3=w2.alloc (.cells #[nilV,nilV,nilV,nilV] 78 (0,0)):=⟨_,rfl⟩
  have hb23:Below w2.heap.size w2 W3:=by rw [hW3];exact(Below.refl _ w2).alloc (Rl _) _
  have HX3:=hidj ((hb23.block _ (Ga.1 HX2.out).1).trans HX2.out)
  have HB3:=hidj (HB2.out.trans (hb23.mono HB2.out.size))
  obtain⟨z0,z1,z2,z3⟩:=acp HX3.out
  rw [hW3] at z0 z1 z2 z3 HB3
  clear hb23 hW3
  go_wp2_with fail
  go_returns
  exact⟨rfl,HB3.out⟩
set_option maxHeartbeats 4000000 in
theorem bj7{w:World}{n m:Int}{af ai ag aj:Option Addr}{nf cf ni ci ng cg nj cj:Nat}{a b:Bool}{F I G J:CD}(hF:RS (memW w) sR F (.slice af nf cf))(hI:RS (memW w) sR I (.slice ai ni ci))(hG:RS (memW w) sR G (.slice ag ng cg))(hJ:RS (memW w) sR J (.slice aj nj cj))(e0:n=m)(e3:a=b)(e1:afb F.rows G.rows=true)(e2:afb I.rows J.rows=true) :
  Calls Try.prog 26 #[.agg #[.int .i64 n,.slice af nf cf,.slice ai ni ci,.bool a],.agg #[.int .i64 m,.slice ag ng cg,.slice aj nj cj,.bool b]] w fun e w'=>e=.returned (.bool true)∧Below w.heap.size w w':=by
 subst e0
 subst e3
 obtain⟨W1,hW1⟩:∃ W,W=w.alloc (.cells #[.int .i64 n,.slice af nf cf,.slice ai ni ci,.bool a] 45 (0,0)):=⟨_,rfl⟩
 obtain⟨W2,hW2⟩:∃ W,W=W1.alloc (.cells #[.int .i64 n,.slice ag ng cg,.slice aj nj cj,.bool a] 45 (0,0)):=⟨_,rfl⟩
 have hb1:Below w.heap.size w W1:=by rw [hW1];exact(Below.refl _ w).alloc (Rl _) _
 have hb2:Below W1.heap.size W1 W2:=by rw [hW2];exact(Below.refl _ W1).alloc (Rl _) _
 have hx1:W1.heap[w.heap.size]? = some (.cells #[.int .i64 n,.slice af nf cf,.slice ai ni ci,.bool a] 45 (0,0)):=by rw [hW1];exact aa4 w _
 have HX1:=hidj ((hb2.block _ (Ga.1 hx1).1).trans hx1)
 have HX2:=hidj (show W2.heap[W1.heap.size]? = some (.cells #[.int .i64 n,.slice ag ng cg,.slice aj nj cj,.bool a] 45 (0,0)) by rw [hW2];exact aa4 W1 _)
 have HB:=hidj (hb1.trans (hb2.mono hb1.size))
 have HR:=hidj (And.intro (ac0 hF HB.out) (And.intro (ac0 hI HB.out) (And.intro (ac0 hG HB.out) (ac0 hJ HB.out))))
 have HE:=hidj (And.intro e1 e2)
 have hsz:W1.heap.size=w.heap.size+1:=by rw [hW1];simp
 obtain⟨z0,z1,z2,z3⟩:=acp HX1.out
 obtain⟨y0,y1,y2,y3⟩:=acp HX2.out
 rw [hsz] at y0 y1 y2 y3
 rw [hW2,hW1] at z0 z1 z2 z3 y0 y1 y2 y3
 have HW1:=hidj hW1
 have HW2:=hidj hW2
 have HSZ:=hidj hsz
 clear hF hI hG hJ e1 e2 hW1 hW2 hb1 hb2 hx1 hsz
 go_enter Try.func26,Try.ntmps26
 go_wp2_with fail
 rw [← HW1.out,← HW2.out]
 refine(ajt HR.out.1 HR.out.2.2.1).mono ?_
 rintro e w3 ⟨rfl,hk3⟩
 rw [HE.out.1]
 have HB3:=hidj (aaz hk3)
 have HX31:=hidj ((HB3.out.block _ (Ga.1 HX1.out).1).trans HX1.out)
 have HX32:=hidj ((HB3.out.block _ (Ga.1 HX2.out).1).trans HX2.out)
 clear hk3 z0 z1 z2 z3 y0 y1 y2 y3
 obtain⟨z0,z1,z2,z3⟩:=acp HX31.out
 obtain⟨y0,y1,y2,y3⟩:=acp HX32.out
 rw [HSZ.out] at y0 y1 y2 y3
 go_wp2_with fail
 refine(ajt (ac0 HR.out.2.1 HB3.out) (ac0 HR.out.2.2.2 HB3.out)).mono ?_
 rintro e w4 ⟨rfl,hk4⟩
 rw [HE.out.2]
 have HB4:=hidj (aaz hk4)
 clear hk4
 go_wp2_with fail
 go_returns
 exact⟨rfl,HB.out.trans ((HB3.out.trans (HB4.out.mono HB3.out.size)).mono HB.out.size)⟩
end Go.Proofs.Ytlbbkmcegbeckaa
namespace Go.Proofs.Ytlbbkmcegbeckaa
open Go.Sx Go.Proofs
theorem ape{L:CD}(hT:Typ sLev L)(j:Nat):(refD L (j:Nat)).rows=(L.cell (j:Nat) 0).rows:=by
 unfold refD
 split
 ·rfl
 ·rename_i h
  exact(agt hT (Int.natCast_nonneg j) h).symm
theorem akm(L:CD)(j:Nat):(levD (ab2 L) (j:Nat)).rows=(L.cell (j:Nat) 0).rows.map aa9:=apx L j
theorem bkz{g h:List (List CD)}{A B:List (List CD)}(hw:woR g=woR h)(hA:A=B.map aa9):A.filter (woR g)=(B.filter (woR h)).map aa9:=by
 rw [hw,hA,bgr]
theorem bjn{L:CD}{k:Nat}{F fr I into:List (List CD)}(hF:∀ l,F.all (metR l)=fr.all (metR l))(hI:∀ l,I.all (metR l)=into.all (metR l))(hk:k<3):MetD (ab2 L) k F I=(fr.all (metR ((ace L).getD k []))&&into.all (metR ((ace L).getD (k+1) []))):=by
 unfold MetD
 rw [akm,akm,bpy,bpy,hF,hI,apf L (by omega),apf L (by omega)]
theorem bjm{L:CD}{k:Nat}{F fr I into N fresh:List (List CD)}{d:Nat→CD}(hT:Typ sLev L)(hd:RepD (ab2 L) k F I N d)(hk:k<3)(hF:woR F=woR fr)(hI:woR I=woR into)(hN:N=fresh.map aa9):CpL [d 0,d 1,d 2,d 3] (repL [refD L (0:Nat),refD L (1:Nat),refD L (2:Nat),refD L (3:Nat)] k fr into fresh):=by
 have hs:∀ j,j≠k→j≠k+1→(d j).rows=(refD L (j:Nat)).rows.map aa9:=fun j h1 h2=>by
  rw [hd.same j h1 h2,akm,ape hT]
 have hl:(d k).rows=((refD L (k:Nat)).rows.filter (woR fr)).map aa9:=by
  rw [hd.lev,akm,ape hT]
  exact bkz hF rfl
 have hn:(d (k+1)).rows=(fresh.foldl ac2 ((refD L (k+1:Nat)).rows.filter (woR into))).map aa9:=by
  rw [hd.next,akm,ape hT,bkz hI rfl,hN,bd3]
 match k,hk with
 | 0,_ =>
  refine⟨rfl,fun j hj=>?_⟩
  match j,hj with
  | 0,_=>exact hl
  | 1,_=>exact hn
  | 2,_=>exact hs 2 (by decide) (by decide)
  | 3,_=>exact hs 3 (by decide) (by decide)
 | 1,_ =>
  refine⟨rfl,fun j hj=>?_⟩
  match j,hj with
  | 0,_=>exact hs 0 (by decide) (by decide)
  | 1,_=>exact hl
  | 2,_=>exact hn
  | 3,_=>exact hs 3 (by decide) (by decide)
 | 2,_ =>
  refine⟨rfl,fun j hj=>?_⟩
  match j,hj with
  | 0,_=>exact hs 0 (by decide) (by decide)
  | 1,_=>exact hs 1 (by decide) (by decide)
  | 2,_=>exact hl
  | 3,_=>exact hn
theorem bnt{L:CD}{k:Nat}{fr into fresh:List (List CD)}(hT:Typ sLev L)(hf:∀ r∈fresh,keyT r)(hk:k<3):∀ e∈repL [refD L (0:Nat),refD L (1:Nat),refD L (2:Nat),refD L (3:Nat)] k fr into fresh,∀ r∈e.rows,keyT r:=by
 have hs:∀ j:Nat,∀ r∈(refD L (j:Nat)).rows,keyT r:=fun j r hr=>a10 hT (j:Nat) r (by rwa [ape hT] at hr)
 have hl:∀ j:Nat,∀ r∈(mkz ((refD L (j:Nat)).rows.filter (woR fr))).rows,keyT r:=fun j r hr=>hs j r (List.mem_filter.1 hr).1
 have hn:∀ j:Nat,∀ r∈(mkz (fresh.foldl ac2 ((refD L (j:Nat)).rows.filter (woR into)))).rows,keyT r:=fun j r hr=>by
  rcases a8v fresh _ hr with h | h
  ·exact hf r h
  ·exact hs j r (List.mem_filter.1 h).1
 intro e he
 match k,hk with
 | 0,_ =>
  have he:e∈[mkz ((refD L (0:Nat)).rows.filter (woR fr)),mkz (fresh.foldl ac2 ((refD L (1:Nat)).rows.filter (woR into))),refD L (2:Nat),refD L (3:Nat)]:=he
  simp only [Mn,List.not_mem_nil,or_false] at he
  rcases he with rfl | rfl | rfl | rfl
  ·exact hl 0
  ·exact hn 1
  ·exact hs 2
  ·exact hs 3
 | 1,_ =>
  have he:e∈[refD L (0:Nat),mkz ((refD L (1:Nat)).rows.filter (woR fr)),mkz (fresh.foldl ac2 ((refD L (2:Nat)).rows.filter (woR into))),refD L (3:Nat)]:=he
  simp only [Mn,List.not_mem_nil,or_false] at he
  rcases he with rfl | rfl | rfl | rfl
  ·exact hs 0
  ·exact hl 1
  ·exact hn 2
  ·exact hs 3
 | 2,_ =>
  have he:e∈[refD L (0:Nat),refD L (1:Nat),mkz ((refD L (2:Nat)).rows.filter (woR fr)),mkz (fresh.foldl ac2 ((refD L (3:Nat)).rows.filter (woR into)))]:=he
  simp only [Mn,List.not_mem_nil,or_false] at he
  rcases he with rfl | rfl | rfl | rfl
  ·exact hs 0
  ·exact hs 1
  ·exact hl 2
  ·exact hn 3
structure Alike (F fr:List (List CD)):Prop where
 wo:woR F=woR fr
 met:∀ l,F.all (metR l)=fr.all (metR l)
theorem Alike.refl(F:List (List CD)):Alike F F:=⟨rfl,fun _=>rfl⟩
theorem Alike.cp(F:List (List CD)):Alike (F.map aa9) F:=⟨bz0 F,fun l=>bq0 F l⟩
theorem bdk{L:CD}{k:Nat}{fr into fresh:List (List CD)}(hk:k<3)(ho:aam L=true):agl L (k:Int) fr into fresh=(fr.all (metR ((ace L).getD k []))&&into.all (metR ((ace L).getD (k+1) []))&&aam (repD L k fr into fresh)):=by
 unfold agl
 rw [ho,decide_eq_true (show(0:Int)≤(k:Int) by omega),decide_eq_true (show(k:Int)≤2 by omega),Int.toNat_natCast]
 rfl
theorem bjj(L:CD)(k:Nat)(fr into fresh:List (List CD)):repD L k fr into fresh=.sl false ((repL [refD L (0:Nat),refD L (1:Nat),refD L (2:Nat),refD L (3:Nat)] k fr into fresh).map fun d=>[d]):=rfl
theorem bqg{L:CD}{k:Nat}{F fr I into N fresh:List (List CD)}{d:Nat→CD}(hT:Typ sLev L)(ho:aam L=true)(hk:k<3)(hF:Alike F fr)(hI:Alike I into)(hN:N=fresh.map aa9)(hd:RepD (ab2 L) k F I N d):agl L (k:Int) fr into fresh=(MetD (ab2 L) k F I&&aam (avg d)):=by
 rw [bdk hk ho,bjn hF.met hI.met hk,bjj,← bxr (bjm hT hd hk hF.wo hI.wo hN)]
 rfl
theorem bnv{L:CD}{k:Nat}{F fr I into N fresh:List (List CD)}{d:Nat→CD}(hT:Typ sLev L)(hk:k<3)(hF:Alike F fr)(hI:Alike I into)(hN:N=fresh.map aa9)(hf:∀ r∈fresh,keyT r)(hd:RepD (ab2 L) k F I N d)(hok:agl L (k:Int) fr into fresh=true):ahn (avg d).rows (repT L (k:Int) fr into fresh).rows=true:=by
 unfold repT
 rw [if_pos hok,Int.toNat_natCast,bjj]
 exact bdo (bjm hT hd hk hF.wo hI.wo hN) (bnt hT hf hk)
theorem bjk{L:CD}{n:Int}{fr into fresh:List (List CD)}(h:agl L n fr into fresh=false):repT L n fr into fresh=.sl true []∧ai0 L n fr into fresh=2:=by
 unfold repT ai0
 rw [h]
 exact⟨rfl,rfl⟩
theorem bew{L:CD}{k:Nat}{F fr I into fresh:List (List CD)}(ho:aam L=true)(hk:k<3)(hF:Alike F fr)(hI:Alike I into)(h:MetD (ab2 L) k F I=false):agl L (k:Int) fr into fresh=false:=by
 rw [bdk hk ho,← bjn hF.met hI.met hk,h]
 rfl
theorem bt4{L:CD}{n:Int}{fr into fresh:List (List CD)}(h:¬ aam L=true∨n<0∨2<n):agl L n fr into fresh=false:=by
 unfold agl
 rcases h with h | h | h
 ·rw [Bool.not_eq_true] at h
  rw [h]
  rfl
 ·rw [decide_eq_false (show ¬ 0≤n by omega),Bool.and_false]
  rfl
 ·rw [decide_eq_false (show ¬ n≤2 by omega),Bool.and_false]
  rfl
end Go.Proofs.Ytlbbkmcegbeckaa
