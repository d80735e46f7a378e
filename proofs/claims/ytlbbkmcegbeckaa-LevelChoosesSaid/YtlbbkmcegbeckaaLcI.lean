/-
  Blocks of one size, sorted each, are merged two by two. Conditions: none; no program.
-/
import Derived.Test.YtlbbkmcegbeckaaLcD
import Derived.BigQuiet
import Derived.Deep.DeepCutAuto
set_option linter.all false
set_option maxRecDepth 100000
noncomputable section
namespace Go.Stb
variable {α:Type}
theorem b0r{T:α→α→Prop}{f:Nat→α}{a i m:Nat}(p1:a≤i)(p2:i≤m)(h1:Srt T f a m)(q3:∀ x,a≤x→x<i→T (f x) (f m))(q4:∀ x,i≤x→x<m→T (f m) (f x)):Mrg T f (dnF f m (m - i)) a (m+1):=by
 have g:=a5q f m (m - i) (by omega)
 rw [show m - (m - i)=i by omega] at g
 generalize dnF f m (m - i)=u at *
 have ga:∀ k,i<k→k≤m→u k=f (k - 1):=fun k h1 h2=>by rw [g,if_pos (by omega)]
 have gb:u i=f m:=by rw [g,if_neg (by omega),if_pos rfl]
 have gc:∀ k,(k<i∨m<k)→u k=f k:=fun k hk=>by rw [g,if_neg (by omega),if_neg (by omega)]
 refine⟨fun x y hx hxy hy=>?_,fun k hk=>gc k (by omega),?_⟩
 ·by_cases hxi:x<i
  ·rw [gc x (.inl hxi)]
   by_cases hyi:y<i
   ·rw [gc y (.inl hyi)]
    exact h1 _ _ hx hxy (by omega)
   ·by_cases hye:y=i
    ·rw [hye,gb]
     exact q3 _ hx hxi
    ·rw [ga y (by omega) (by omega)]
     by_cases hz:x=y - 1
     ·omega
     ·exact h1 _ _ hx (by omega) (by omega)
  ·by_cases hxe:x=i
   ·rw [hxe,gb,ga y (by omega) (by omega)]
    exact q4 _ (by omega) (by omega)
   ·rw [ga x (by omega) (by omega),ga y (by omega) (by omega)]
    exact h1 _ _ (by omega) (by omega) (by omega)
 ·have e1:lst u (i+1) (m+1)=lst f i m:=by
   have:=ako (f:=f) (g:=u) (a:=i+1) (c:=i) (n:=m - i) (fun k hk=>by rw [ga _ (by omega) (by omega)];congr 1;omega)
   rw [show i+1+(m - i)=m+1 by omega,show i+(m - i)=m by omega] at this
   exact this
  rw [abd u (show a≤i by omega) (show i≤m+1 by omega),abd u (show i≤i+1 by omega) (show i+1≤m+1 by omega),agy,gb,e1,ae4 (fun k _ h2=>gc k (.inl h2)),abd f (show a≤m by omega) (show m≤m+1 by omega),agy,abd f p1 p2,List.append_assoc]
  exact List.perm_append_comm.append_left _
structure Ord (lt:Nat→Nat→Bool) (T:Nat→Nat→Prop):Prop where
 irr:∀ x,¬ T x x
 tr:∀ x y z,T x y→T y z→T x z
 cmp:∀ p q,p<q→(lt q p=true→T q p)∧(lt q p=false→T p q)
structure Bk (T:Nat→Nat→Prop) (g:Nat→Nat) (a b:Nat):Prop where
 srt:Srt T g a b
 perm:(lst g a b).Perm (lst id a b)
theorem Bk.mem{T:Nat→Nat→Prop}{g:Nat→Nat}{a b i:Nat}(h:Bk T g a b)(h1:a≤i)(h2:i<b):a≤g i∧g i<b:=by
 have:g i∈lst id a b:=h.perm.mem_iff.1 (a18.2 ⟨i,h1,h2,rfl⟩)
 obtain⟨j,h3,h4,h5⟩:=a18.1 this
 have h5:j=g i:=h5
 omega
theorem Bk.congr{T:Nat→Nat→Prop}{g g':Nat→Nat}{a b:Nat}(h:Bk T g a b)(he:∀ k,a≤k→k<b→g' k=g k):Bk T g' a b :=
 ⟨fun i j h1 h2 h3=>by rw [he i h1 (by omega),he j (by omega) h3];exact h.srt i j h1 h2 h3,by rw [ae4 he];exact h.perm⟩
theorem Bk.one{T:Nat→Nat→Prop}{g:Nat→Nat}{a b:Nat}(hb:b≤a+1)(he:a<b→g a=a):Bk T g a b:=by
 refine⟨fun i j h1 h2 h3=>by omega,?_⟩
 by_cases h:a<b
 ·have:b=a+1:=by omega
  subst this
  rw [agy,agy,he h]
  exact List.Perm.refl _
 ·rw [av7 g (by omega),av7 id (by omega)]
theorem Bk.ins{lt:Nat→Nat→Bool}{T:Nat→Nat→Prop}(O:Ord lt T){g:Nat→Nat}{a i m:Nat}(h:Bk T g a m)(p1:a≤i)(p2:i≤m)(hm:g m=m)(hup:∀ x,i≤x→x<m→lt m (g x)=true)(hst:a<i→lt m (g (i - 1))=false):Bk T (dnF g m (m - i)) a (m+1)∧∀ k,(k<a∨m+1≤k)→dnF g m (m - i) k=g k:=by
 have hM:=b0r (T:=T) (f:=g) p1 p2 h.srt (fun x hx hxi=>by
  have hb:=h.mem (show a≤i - 1 by omega) (show i - 1<m by omega)
  have t:=(O.cmp _ _ hb.2).2 (hst (by omega))
  rw [hm]
  by_cases he:x=i - 1
  ·rw [he];exact t
  ·exact O.tr _ _ _ (h.srt x (i - 1) hx (by omega) (by omega)) t) (fun x hx hxm=>by
  rw [hm]
  exact(O.cmp _ _ (h.mem (by omega) hxm).2).1 (hup x hx hxm))
 refine⟨⟨hM.srt,hM.perm.trans ?_⟩,hM.out⟩
 rw [abd g (show a≤m by omega) (show m≤m+1 by omega),abd id (show a≤m by omega) (show m≤m+1 by omega),agy,agy,hm]
 exact h.perm.append_right _
theorem Bk.merge{lt:Nat→Nat→Bool}{T:Nat→Nat→Prop}(O:Ord lt T){g:Nat→Nat}{a m b n:Nat}(h1:a<m)(h2:m<b)(hn:b - a≤n)(ha:Bk T g a m)(hb:Bk T g m b):Bk T (symF lt n g a m b) a b∧∀ k,(k<a∨b≤k)→symF lt n g a m b k=g k:=by
 have hM:=bqs (lt:=lt) O.irr O.tr n g a m b h1 h2 hn ha.srt hb.srt (fun i j q1 q2 q3 q4=>by
  have:=ha.mem q1 q2
  have:=hb.mem q3 q4
  exact O.cmp _ _ (by omega))
 refine⟨⟨hM.srt,hM.perm.trans ?_⟩,hM.out⟩
 rw [abd g (show a≤m by omega) (show m≤b by omega),abd id (show a≤m by omega) (show m≤b by omega)]
 exact ha.perm.append hb.perm
end Go.Stb
namespace Go.Proofs.Ytlbbkmcegbeckaa
open Go.Sx Go.Proofs Go.RowKit Go.Lib Go.Stb
abbrev R5.agg(r:R5):Value:=.agg #[.int .i64 r.z0,.int .i64 r.z1,.int .i64 r.z2,.slice r.a3 r.n3 r.c3,.slice r.a4 r.n4 r.c4]
structure WBy (w0:World) (blk off n:Nat) (R:Nat→R5) (g:Nat→Nat) where
 w:World
 row:RowW w0 blk off n R g w
structure CmpOK (w0:World) (blk off n:Nat) (R:Nat→R5) (cv:Nat→Nat→Int):Prop where
 calls:∀ (g:Nat→Nat) (p:WBy w0 blk off n R g) (i j:Nat),i<n→j<n→Calls Try.prog 68 #[(R i).agg,(R j).agg] p.w fun e w'=>e=.returned (.int .i64 (cv i j))∧∃ q:WBy w0 blk off n R g,w'=q.w
abbrev ltC(cv:Nat→Nat→Int):Nat→Nat→Bool:=fun i j=>decide (cv i j<0)
theorem aeh{w0:World}{blk off n:Nat}{R:Nat→R5}{g:Nat→Nat}{id:Nat}{Q:Exit→Act→World→Prop}{a:Act}{w:World}{l:List Oper}(hm:Try.prog.follows .mixedOrders=true)(hB:Region.lexB .any l.toArray=true)(h0:RowW w0 blk off n R g w)
  (h:wpQuiet Try.prog l.toArray (fun w'=>∃ p:WBy w0 blk off n R g,w'=p.w) (fun a'=>∀ w',(∃ p:WBy w0 blk off n R g,w'=p.w)→Q .normal a' w') l a):(Code.region id l.toArray true).wp Try.prog Q a w :=
 wp_region_quiet (C:=fun w'=>∃ p:WBy w0 blk off n R g,w'=p.w) hm hB ⟨⟨_,h0.drew⟩,rfl⟩ (by simpa using h)
abbrev cmpV:Value:=.func (.func 68) #[] #[]
structure InsI (w0:World) (blk off n:Nat) (R:Nat→R5) (lt:Nat→Nat→Bool) (g:Nat→Nat) (a i j:Nat) (wr:World):Prop where
 row:RowW w0 blk off n R (dnF g i (i - j)) wr
 up:∀ x,j≤x→x<i→lt i (g x)=true
structure InsO (w0:World) (blk off n:Nat) (R:Nat→R5) (T:Nat→Nat→Prop) (g:Nat→Nat) (a i:Nat) (wr:World):Prop where
 row:∃ gi,RowW w0 blk off n R gi wr∧Bk T gi a i∧∀ k,(k<a∨i≤k)→gi k=g k
theorem a9p{g:Nat→Nat}{i j:Nat}(h:j≤i):dnF g i (i - j) j=g i:=by
 rw [a5q g i (i - j) (by omega),if_neg (by omega),if_pos (by omega)]
theorem a9o{g:Nat→Nat}{i j k:Nat}(h:j≤i)(hk:k<j):dnF g i (i - j) k=g k:=by
 rw [a5q g i (i - j) (by omega),if_neg (by omega),if_neg (by omega)]
theorem bbl{g:Nat→Nat}{i j:Nat}(h:j≤i)(h0:0<j):dnF g i (i - (j - 1))=swF (dnF g i (i - j)) j (j - 1):=by
 rw [show i - (j - 1)=(i - j)+1 by omega]
 show swF (dnF g i (i - j)) (i - (i - j)) (i - (i - j) - 1)=_
 rw [show i - (i - j)=j by omega]
set_option maxHeartbeats 4000000 in
theorem asw{w0 wr:World}{blk off n cap a b:Nat}{R:Nat→R5}{cv:Nat→Nat→Int}{T:Nat→Nat→Prop}(O:Ord (ltC cv) T)(C:CmpOK w0 blk off n R cv){g:Nat→Nat}(h:RowW w0 blk off n R g wr)(hab:a≤b)(hb:b≤n)(hn:n≤1000000)(hg:∀ k,a≤k→k<b→g k=k) :
  Calls Try.prog 136 #[.slice (some ⟨blk,off,none⟩) n cap,.int .i64 a,.int .i64 b,cmpV] wr fun e w'=>e=.returned (.tuple #[])∧∃ g',RowW w0 blk off n R g' w'∧Bk T g' a b∧∀ k,(k<a∨b≤k)→g' k=g k:=by
 have HH:=hidj h
 have HC:=hidj C
 have HO:=hidj O
 have HG:=hidj hg
 clear h C O hg
 have i0:IntKind.i64.wrap ((a:Int)+1)=(a:Int)+1:=by rw [IntKind.wrap_i64];omega
 go_enter Try.func136,Try.ntmps136
 go_wp2_with fail
 go_loopw [8] (fun q w=>∃ i:Nat,a+1≤i∧(i≤b∨i=a+1)∧q=.int .i64 (i:Int)∧Hid ((a<b→InsO w0 blk off n R T g a i w)∧(b≤a→RowW w0 blk off n R g w))) (fun q _=>b - (RowKit.intOf q).toNat)
 case atStart=>exact⟨a+1,Rl _,.inr rfl,by go_num,hidj ⟨fun hlt=>⟨⟨g,HH.out,Bk.one (Rl _) (fun _=>HG.out a (Rl _) hlt),fun k _=>rfl⟩⟩,fun _=>HH.out⟩⟩
 case round =>
  obtain⟨i,hi1,hi2,rfl,HW⟩:=hrel
  by_cases hib:i<b
  ·obtain⟨gi,hr,hbk,hgo⟩:=(HW.out.1 (by omega)).row
   have hgi:gi i=i:=by rw [hgo i (.inr (Rl _))];exact HG.out i (by omega) hib
   have HR:=hidj hr
   have HB:=hidj hbk
   have HX:=hidj hgo
   clear hr hbk hgo HW
   have t0:(i:Int)<(b:Int):=by omega
   go_wp2_with fail
   go_loopw [9] (fun q w=>∃ j:Nat,a≤j∧j≤i∧q=.int .i64 (j:Int)∧Hid (InsI w0 blk off n R (ltC cv) gi a i j w)) (fun q _=>(RowKit.intOf q).toNat)
   case atStart=>exact⟨i,by omega,Rl _,rfl,hidj ⟨by rw [Nat.sub_self];exact HR.out,fun x h1 h2=>by omega⟩⟩
   case round =>
    obtain⟨j,hj1,hj2,rfl,HI⟩:=hrel
    by_cases hja:a<j
    ·have HRow:=hidj HI.out.row
     have HUp:=hidj HI.out.up
     have c1:∀ p:WBy w0 blk off n R (dnF gi i (i - j)),p.w.cell? ⟨blk,off+j*5,none⟩=some (.int .i64 (R i).z0)∧p.w.cell? ⟨blk,off+j*5+1,none⟩=some (.int .i64 (R i).z1)∧p.w.cell? ⟨blk,off+j*5+2,none⟩=some (.int .i64 (R i).z2)∧p.w.cell? ⟨blk,off+j*5+3,none⟩=some (.slice (R i).a3 (R i).n3 (R i).c3)∧p.w.cell? ⟨blk,off+j*5+4,none⟩=some (.slice (R i).a4 (R i).n4 (R i).c4):=fun p=>by
      have:=p.row.cells (show j<n by omega)
      rw [a9p hj2,hgi] at this
      exact this
     obtain⟨y,hy⟩:∃ y,gi (j - 1)=y:=⟨_,rfl⟩
     have c2:∀ p:WBy w0 blk off n R (dnF gi i (i - j)),p.w.cell? ⟨blk,off+(j - 1)*5,none⟩=some (.int .i64 (R y).z0)∧p.w.cell? ⟨blk,off+(j - 1)*5+1,none⟩=some (.int .i64 (R y).z1)∧p.w.cell? ⟨blk,off+(j - 1)*5+2,none⟩=some (.int .i64 (R y).z2)∧p.w.cell? ⟨blk,off+(j - 1)*5+3,none⟩=some (.slice (R y).a3 (R y).n3 (R y).c3)∧p.w.cell? ⟨blk,off+(j - 1)*5+4,none⟩=some (.slice (R y).a4 (R y).n4 (R y).c4):=fun p=>by
      have:=p.row.cells (show j - 1<n by omega)
      rw [a9o hj2 (show j - 1<j by omega),hy] at this
      exact this
     have x0:=fun p=>(c1 p).1
     have x1:=fun p=>(c1 p).2.1
     have x2:=fun p=>(c1 p).2.2.1
     have x3:=fun p=>(c1 p).2.2.2.1
     have x4:=fun p=>(c1 p).2.2.2.2
     have y0:=fun p=>(c2 p).1
     have y1:=fun p=>(c2 p).2.1
     have y2:=fun p=>(c2 p).2.2.1
     have y3:=fun p=>(c2 p).2.2.2.1
     have y4:=fun p=>(c2 p).2.2.2.2
     have v0:IntKind.i64.wrap ((j:Int) - 1)=((j - 1:Nat):Int):=by rw [IntKind.wrap_i64];omega
     have t1:(a:Int)<(j:Int):=by omega
     have t2:(0:Int)≤(j:Int):=Int.natCast_nonneg _
     have t3:(j:Int)<(n:Int):=by omega
     have t4:(0:Int)≤((j - 1:Nat):Int):=Int.natCast_nonneg _
     have t5:((j - 1:Nat):Int)<(n:Int):=by omega
     have hin:y<n:=by rw [← hy];exact HR.out.inr (j - 1) (by omega)
     have hcall:=fun p=>HC.out.calls (dnF gi i (i - j)) p i y (by omega) hin
     clear c1 c2 HI
     go_wp2_with fail
     haveI:Inhabited (WBy w0 blk off n R (dnF gi i (i - j))):=⟨⟨_,HRow.out⟩⟩
     refine aeh (g:=dnF gi i (i - j)) mixed (by kernel_rfl) HRow.out ?_
     repeat (go_big_quiet_step ((go_at_call 68;exact hcall _)))
     refine wpQuiet_nil ?_
     intro w2 hw2
     obtain⟨q,rfl⟩:=hw2
     have HRq:=hidj q.row
     have x0:=x0 q
     have x1:=x1 q
     have x2:=x2 q
     have x3:=x3 q
     have x4:=x4 q
     have y0:=y0 q
     have y1:=y1 q
     have y2:=y2 q
     have y3:=y3 q
     have y4:=y4 q
     clear hcall
     generalize q.w=wq at *
     by_cases hlt:cv i y<0
     ·have p0:=HRq.out.thaw (j:=0) (show j<n by omega) (by omega)
      have p1:=HRq.out.thaw (j:=1) (show j<n by omega) (by omega)
      have p2:=HRq.out.thaw (j:=2) (show j<n by omega) (by omega)
      have p3:=HRq.out.thaw (j:=3) (show j<n by omega) (by omega)
      have p4:=HRq.out.thaw (j:=4) (show j<n by omega) (by omega)
      have q0:=HRq.out.thaw (j:=0) (show j - 1<n by omega) (by omega)
      have q1:=HRq.out.thaw (j:=1) (show j - 1<n by omega) (by omega)
      have q2:=HRq.out.thaw (j:=2) (show j - 1<n by omega) (by omega)
      have q3:=HRq.out.thaw (j:=3) (show j - 1<n by omega) (by omega)
      have q4:=HRq.out.thaw (j:=4) (show j - 1<n by omega) (by omega)
      rw [Nat.add_zero] at p0 q0
      have HS:Hid (InsI w0 blk off n R (ltC cv) gi a i (j - 1) (((((((((((wq.setCell ⟨blk,off+j*5,none⟩ (.int .i64 (R y).z0)).setCell ⟨blk,off+j*5+1,none⟩ (.int .i64 (R y).z1)).setCell ⟨blk,off+j*5+2,none⟩ (.int .i64 (R y).z2)).setCell ⟨blk,off+j*5+3,none⟩ (.slice (R y).a3 (R y).n3 (R y).c3)).setCell ⟨blk,off+j*5+4,none⟩ (.slice (R y).a4 (R y).n4 (R y).c4)).setCell ⟨blk,off+(j - 1)*5,none⟩ (.int .i64 (R i).z0)).setCell ⟨blk,off+(j - 1)*5+1,none⟩ (.int .i64 (R i).z1)).setCell ⟨blk,off+(j - 1)*5+2,none⟩ (.int .i64 (R i).z2)).setCell ⟨blk,off+(j - 1)*5+3,none⟩ (.slice (R i).a3 (R i).n3 (R i).c3)).setCell ⟨blk,off+(j - 1)*5+4,none⟩ (.slice (R i).a4 (R i).n4 (R i).c4)).drew)):=by
       have hsw:=HRq.out.swapC (show j<n by omega) (show j - 1<n by omega)
       rw [a9p hj2,hgi,a9o hj2 (show j - 1<j by omega),hy,← bbl hj2 (by omega)] at hsw
       refine⟨hsw,fun x h1 h2=>?_⟩
       by_cases hx:x=j - 1
       ·rw [hx,hy]
        exact decide_eq_true hlt
       ·exact HUp.out x (by omega) h2
      clear hin HRow
      go_wp2_with fail
      go_region
      go_wp2_with fail
      go_roundw
      case rel=>exact⟨j - 1,by omega,by omega,rfl,HS⟩
      case measure=>simp [RowKit.intOf];omega
     ·have HN:Hid (InsO w0 blk off n R T g a (i+1) wq):=by
       obtain⟨k1,k2⟩:=Bk.ins HO.out HB.out hj1 hj2 hgi HUp.out (fun _=>by rw [hy];exact decide_eq_false hlt)
       exact⟨_,HRq.out,k1,fun k hk=>(k2 k hk).trans (HX.out k (by omega))⟩
      clear hin HRow x0 x1 x2 x3 x4 y0 y1 y2 y3 y4
      have e1:IntKind.i64.wrap ((i:Int)+1)=(i:Int)+1:=by rw [IntKind.wrap_i64];omega
      go_wp2_with fail
      exact⟨⟨i+1,by omega,by omega,by go_num,hidj ⟨fun _=>HN.out,fun h=>by omega⟩⟩,by simp [RowKit.intOf];omega⟩
    ·have hje:j=a:=by omega
     subst hje
     have HRow:=hidj HI.out.row
     have HN:∀ p:WBy w0 blk off n R (dnF gi i (i - j)),Hid (InsO w0 blk off n R T g j (i+1) p.w):=fun p=>by
      obtain⟨k1,k2⟩:=Bk.ins HO.out HB.out hj1 hj2 hgi HI.out.up (fun h=>by omega)
      exact⟨_,p.row,k1,fun k hk=>(k2 k hk).trans (HX.out k (by omega))⟩
     have e1:IntKind.i64.wrap ((i:Int)+1)=(i:Int)+1:=by rw [IntKind.wrap_i64];omega
     have t1:decide ((j:Int)<(j:Int))=false:=decide_eq_false (by omega)
     clear HI
     go_wp2_with fail
     haveI:Inhabited (WBy w0 blk off n R (dnF gi i (i - j))):=⟨⟨_,HRow.out⟩⟩
     refine aeh (g:=dnF gi i (i - j)) mixed (by kernel_rfl) HRow.out ?_
     repeat (go_big_quiet_step (fail))
     refine wpQuiet_nil ?_
     intro w2 hw2
     obtain⟨q,rfl⟩:=hw2
     have HN:=HN q
     generalize q.w=wq at *
     go_wp2_with fail
     exact⟨⟨i+1,by omega,by omega,by go_num,hidj ⟨fun _=>HN.out,fun h=>by omega⟩⟩,by simp [RowKit.intOf];omega⟩
  ·have HF:∃ g',RowW w0 blk off n R g' wr∧Bk T g' a b∧∀ k,(k<a∨b≤k)→g' k=g k:=by
    by_cases hab':a<b
    ·obtain⟨gi,h1,h2,h3⟩:=(HW.out.1 hab').row
     have:i=b:=by omega
     subst this
     exact⟨gi,h1,h2,h3⟩
    ·exact⟨g,HW.out.2 (by omega),Bk.one (by omega) (fun h=>absurd h hab'),fun _ _=>rfl⟩
   have t0:¬ (i:Int)<(b:Int):=by omega
   have HF:=hidj HF
   clear HW
   go_wp2_with fail
   go_returns
   exact⟨rfl,HF.out⟩
theorem bvm{p:Nat→Bool}{c i j:Nat}(h:i<j):bsF p (c+1) i j=if p ((i+j) / 2) then bsF p c ((i+j) / 2+1) j else bsF p c i ((i+j) / 2):=by
 show(if i<j then _ else _)=_
 rw [if_pos h]
theorem bvl{p:Nat→Bool}{c i:Nat}:bsF p c i i=i:=by
 cases c with
 | zero=>rfl
 | succ c=>show(if i<i then _ else _)=_;rw [if_neg (Nat.lt_irrefl _)]
structure BsI (p:Nat→Bool) (fin lo hi i j:Nat):Prop where
 run:∃ c,j - i≤c∧bsF p c i j=fin
 li:lo≤i
 ij:i≤j
 jh:j≤hi
theorem BsI.yes{p:Nat→Bool}{fin lo hi i j:Nat}(h:BsI p fin lo hi i j)(hlt:i<j)(hp:p ((i+j) / 2)=true):BsI p fin lo hi ((i+j) / 2+1) j:=by
 obtain⟨⟨c,h1,h2⟩,h3,h4,h5⟩:=h
 cases c with
 | zero=>omega
 | succ c =>
  rw [bvm hlt,if_pos hp] at h2
  exact⟨⟨c,by omega,h2⟩,by omega,by omega,h5⟩
theorem BsI.no{p:Nat→Bool}{fin lo hi i j:Nat}(h:BsI p fin lo hi i j)(hlt:i<j)(hp:p ((i+j) / 2)=false):BsI p fin lo hi i ((i+j) / 2):=by
 obtain⟨⟨c,h1,h2⟩,h3,h4,h5⟩:=h
 cases c with
 | zero=>omega
 | succ c =>
  rw [bvm hlt,if_neg (by rw [hp];exact Bool.false_ne_true)] at h2
  exact⟨⟨c,by omega,h2⟩,h3,by omega,by omega⟩
theorem BsI.fin{p:Nat→Bool}{fin lo hi i j:Nat}(h:BsI p fin lo hi i j)(hlt:¬ i<j):i=fin∧j=fin:=by
 obtain⟨⟨c,h1,h2⟩,h3,h4,h5⟩:=h
 have:i=j:=by omega
 subst this
 rw [bvl] at h2
 exact⟨h2,h2⟩
theorem aee{w0:World}{blk off n:Nat}{R:Nat→R5}{g:Nat→Nat}{k y:Nat}(hk:k<n)(hy:g k=y)(p:WBy w0 blk off n R g):p.w.cell? ⟨blk,off+k*5,none⟩=some (.int .i64 (R y).z0)∧p.w.cell? ⟨blk,off+k*5+1,none⟩=some (.int .i64 (R y).z1)∧p.w.cell? ⟨blk,off+k*5+2,none⟩=some (.int .i64 (R y).z2)∧p.w.cell? ⟨blk,off+k*5+3,none⟩=some (.slice (R y).a3 (R y).n3 (R y).c3)∧p.w.cell? ⟨blk,off+k*5+4,none⟩=some (.slice (R y).a4 (R y).n4 (R y).c4):=by
 have:=p.row.cells hk
 rw [hy] at this
 exact this
set_option maxHeartbeats 4000000 in
theorem a4j{w0 wr:World}{blk off n cap a b N:Nat}{R:Nat→R5}{cv:Nat→Nat→Int}(C:CmpOK w0 blk off n R cv){g:Nat→Nat}(h:RowW w0 blk off n R g wr)(hmb:a+1<b)(hb:b≤n)(hn:n≤1000000) :
  Calls Try.prog 137 #[.slice (some ⟨blk,off,none⟩) n cap,.int .i64 a,.int .i64 ((a:Int)+1),.int .i64 b,cmpV] wr fun e w'=>e=.returned (.tuple #[])∧RowW w0 blk off n R (symF (ltC cv) (N+1) g a (a+1) b) w':=by
 have e0:symF (ltC cv) (N+1) g a (a+1) b=upF g a (bsF (fun h=>ltC cv (g h) (g a)) (b - (a+1)) (a+1) b - 1 - a):=by
  show(if a+1 - a=1 then _ else _)=_
  rw [if_pos (by omega)]
 rw [e0]
 generalize hfin:bsF (fun h=>ltC cv (g h) (g a)) (b - (a+1)) (a+1) b=fin
 have HH:=hidj h
 have HC:=hidj C
 have HB:Hid (BsI (fun h=>ltC cv (g h) (g a)) fin (a+1) b (a+1) b):=⟨⟨b - (a+1),Rl _,hfin⟩,Rl _,by omega,Rl _⟩
 obtain⟨ya,hya⟩:∃ y,g a=y:=⟨_,rfl⟩
 have hian:ya<n:=by rw [← hya];exact h.inr a (by omega)
 clear h C e0 hfin
 have i0:IntKind.i64.wrap ((a:Int)+1 - (a:Int))=1:=by rw [IntKind.wrap_i64];omega
 have i1:(a:Int)+1 - (a:Int)=1:=by omega
 go_enter Try.func137,Try.ntmps137
 go_wp2_with fail
 go_loopw [10,11] (fun p q w=>∃ i j:Nat,p=.int .i64 (i:Int)∧q=.int .i64 (j:Int)∧Hid (BsI (fun h=>ltC cv (g h) (g a)) fin (a+1) b i j)∧Hid (RowW w0 blk off n R g w)) (fun p q _=>(RowKit.intOf q).toNat - (RowKit.intOf p).toNat)
 case atStart=>exact⟨a+1,b,by go_num,rfl,HB,HH⟩
 case round =>
  obtain⟨i,j,rfl,rfl,HI,HR⟩:=hrel
  have l1:=HI.out.li
  have l2:=HI.out.ij
  have l3:=HI.out.jh
  by_cases hij:i<j
  ·obtain⟨d,hd⟩:∃ d,(i+j) / 2=d:=⟨_,rfl⟩
   have t0:(i:Int)<(j:Int):=by omega
   have v0:IntKind.i64.wrap ((i:Int)+(j:Int))=(i:Int)+(j:Int):=by rw [IntKind.wrap_i64];omega
   have v1:((i:Int)+(j:Int)) / 2=(d:Int):=by omega
   obtain⟨yd,hyd⟩:∃ y,g d=y:=⟨_,rfl⟩
   have c1:=aee (w0:=w0) (blk:=blk) (off:=off) (R:=R) (show d<n by omega) hyd
   have c2:=aee (w0:=w0) (blk:=blk) (off:=off) (R:=R) (show a<n by omega) hya
   have x0:=fun p=>(c1 p).1
   have x1:=fun p=>(c1 p).2.1
   have x2:=fun p=>(c1 p).2.2.1
   have x3:=fun p=>(c1 p).2.2.2.1
   have x4:=fun p=>(c1 p).2.2.2.2
   have y0:=fun p=>(c2 p).1
   have y1:=fun p=>(c2 p).2.1
   have y2:=fun p=>(c2 p).2.2.1
   have y3:=fun p=>(c2 p).2.2.2.1
   have y4:=fun p=>(c2 p).2.2.2.2
   have t2:(0:Int)≤(d:Int):=Int.natCast_nonneg _
   have t3:(d:Int)<(n:Int):=by omega
   have t4:(0:Int)≤(a:Int):=Int.natCast_nonneg _
   have t5:(a:Int)<(n:Int):=by omega
   have hin:yd<n:=by rw [← hyd];exact HR.out.inr d (by omega)
   have hcall:=fun p=>HC.out.calls g p yd ya hin hian
   have w1:IntKind.i64.wrap ((d:Int)+1)=(d:Int)+1:=by rw [IntKind.wrap_i64];omega
   have HY:Hid (cv yd ya<0→BsI (fun h=>ltC cv (g h) (g a)) fin (a+1) b (d+1) j):=fun h=>by
    have:=HI.out.yes hij (show ltC cv (g ((i+j) / 2)) (g a)=true by rw [hd,hyd,hya];exact decide_eq_true h)
    rw [hd] at this
    exact this
   have HN:Hid (¬ cv yd ya<0→BsI (fun h=>ltC cv (g h) (g a)) fin (a+1) b i d):=fun h=>by
    have:=HI.out.no hij (show ltC cv (g ((i+j) / 2)) (g a)=false by rw [hd,hyd,hya];exact decide_eq_false h)
    rw [hd] at this
    exact this
   clear c1 c2
   go_wp2_with fail
   haveI:Inhabited (WBy w0 blk off n R g):=⟨⟨_,HR.out⟩⟩
   refine aeh (g:=g) mixed (by kernel_rfl) HR.out ?_
   repeat (go_big_quiet_step ((go_at_call 68;exact hcall _)))
   refine wpQuiet_nil ?_
   intro w2 hw2
   obtain⟨q,rfl⟩:=hw2
   have HRq:=hidj q.row
   clear hcall x0 x1 x2 x3 x4 y0 y1 y2 y3 y4
   generalize q.w=wq at *
   by_cases hlt:cv yd ya<0
   ·have HY:=hidj (HY.out (by omega))
    go_wp2_with fail
    go_roundw
    case rel=>exact⟨d+1,j,by go_num,rfl,HY,HRq⟩
    case measure=>simp [RowKit.intOf];omega
   ·have HN:=hidj (HN.out (by omega))
    go_wp2_with fail
    go_roundw
    case rel=>exact⟨i,d,rfl,rfl,HN,HRq⟩
    case measure=>simp [RowKit.intOf];omega
  ·obtain⟨e1,e2⟩:=HI.out.fin hij
   clear HI HB
   subst e1
   have e2:=e2.symm
   subst e2
   have t0:¬ (i:Int)<(i:Int):=by omega
   go_wp2_with fail
   go_loopw [13] (fun q w=>∃ k:Nat,a≤k∧k+1≤i∧q=.int .i64 (k:Int)∧Hid (RowW w0 blk off n R (upF g a (k - a)) w)) (fun q _=>i - (RowKit.intOf q).toNat)
   case atStart=>exact⟨a,Rl _,by omega,rfl,by rw [Nat.sub_self];exact HR⟩
   case round =>
    obtain⟨k,hk1,hk2,rfl,HU⟩:=hrel
    by_cases hki:k+1<i
    ·have HW:=HU.out
     have t1:(k:Int)<(i:Int) - 1:=by omega
     have v0:IntKind.i64.wrap ((i:Int) - 1)=(i:Int) - 1:=by rw [IntKind.wrap_i64];omega
     have v1:IntKind.i64.wrap ((k:Int)+1)=((k+1:Nat):Int):=by rw [IntKind.wrap_i64];omega
     have u0:upF g a (k - a) k=ya:=by rw [bdw,if_neg (by omega),if_pos (by omega),hya]
     obtain⟨y,hy⟩:∃ y,g (k+1)=y:=⟨_,rfl⟩
     have u1:upF g a (k - a) (k+1)=y:=by rw [bdw,if_neg (by omega),if_neg (by omega),hy]
     obtain⟨x0,x1,x2,x3,x4⟩:=aee (show k<n by omega) u0 ⟨_,HW⟩
     obtain⟨y0,y1,y2,y3,y4⟩:=aee (show k+1<n by omega) u1 ⟨_,HW⟩
     dsimp only at x0 x1 x2 x3 x4 y0 y1 y2 y3 y4
     have p0:=HW.thaw (j:=0) (show k<n by omega) (by omega)
     have p1:=HW.thaw (j:=1) (show k<n by omega) (by omega)
     have p2:=HW.thaw (j:=2) (show k<n by omega) (by omega)
     have p3:=HW.thaw (j:=3) (show k<n by omega) (by omega)
     have p4:=HW.thaw (j:=4) (show k<n by omega) (by omega)
     have q0:=HW.thaw (j:=0) (show k+1<n by omega) (by omega)
     have q1:=HW.thaw (j:=1) (show k+1<n by omega) (by omega)
     have q2:=HW.thaw (j:=2) (show k+1<n by omega) (by omega)
     have q3:=HW.thaw (j:=3) (show k+1<n by omega) (by omega)
     have q4:=HW.thaw (j:=4) (show k+1<n by omega) (by omega)
     rw [Nat.add_zero] at p0 q0
     have t2:(0:Int)≤(k:Int):=Int.natCast_nonneg _
     have t3:(k:Int)<(n:Int):=by omega
     have t4:(0:Int)≤((k+1:Nat):Int):=Int.natCast_nonneg _
     have t5:((k+1:Nat):Int)<(n:Int):=by omega
     have hsw:=HW.swapC (show k<n by omega) (show k+1<n by omega)
     have e1:swF (upF g a (k - a)) k (k+1)=upF g a (k+1 - a):=by
      rw [show k+1 - a=(k - a)+1 by omega]
      show _=swF (upF g a (k - a)) (a+(k - a)) (a+(k - a)+1)
      rw [show a+(k - a)=k by omega]
     rw [u0,u1,e1] at hsw
     have HS:=hidj hsw
     clear hsw HW HU e1 u0 u1
     go_wp2_with fail
     go_region
     go_wp2_with fail
     exact⟨⟨k+1,by omega,by omega,by go_num,HS⟩,by simp [RowKit.intOf];omega⟩
    ·have hke:k+1=i:=by omega
     subst hke
     have HW:=hidj HU.out
     have t1:¬ (k:Int)<((k+1:Nat):Int) - 1:=by omega
     have v0:IntKind.i64.wrap (((k+1:Nat):Int) - 1)=(k:Int):=by rw [IntKind.wrap_i64];omega
     go_wp2_with fail
     go_returns
     refine⟨rfl,?_⟩
     exact HW.out
set_option maxHeartbeats 4000000 in
theorem ay9{w0 wr:World}{blk off n cap a m N:Nat}{R:Nat→R5}{cv:Nat→Nat→Int}(C:CmpOK w0 blk off n R cv){g:Nat→Nat}(h:RowW w0 blk off n R g wr)(ham:a+1<m)(hb:m+1≤n)(hn:n≤1000000) :
  Calls Try.prog 137 #[.slice (some ⟨blk,off,none⟩) n cap,.int .i64 a,.int .i64 m,.int .i64 ((m:Int)+1),cmpV] wr fun e w'=>e=.returned (.tuple #[])∧RowW w0 blk off n R (symF (ltC cv) (N+1) g a m (m+1)) w':=by
 have e0:symF (ltC cv) (N+1) g a m (m+1)=dnF g m (m - bsF (fun h=>!ltC cv (g m) (g h)) (m - a) a m):=by
  show(if m - a=1 then _ else if m+1 - m=1 then _ else _)=_
  rw [if_neg (by omega),if_pos (by omega)]
 rw [e0]
 generalize hfin:bsF (fun h=>!ltC cv (g m) (g h)) (m - a) a m=fin
 have HH:=hidj h
 have HC:=hidj C
 have HB:Hid (BsI (fun h=>!ltC cv (g m) (g h)) fin a m a m):=⟨⟨m - a,Rl _,hfin⟩,Rl _,by omega,Rl _⟩
 obtain⟨ym,hym⟩:∃ y,g m=y:=⟨_,rfl⟩
 have hian:ym<n:=by rw [← hym];exact h.inr m (by omega)
 have HM:=hidj hym
 clear h C e0 hfin hym
 have i0:IntKind.i64.wrap ((m:Int) - (a:Int))=(m:Int) - (a:Int):=by rw [IntKind.wrap_i64];omega
 have i1:((m:Int) - (a:Int)==1)=false:=by rw [beq_eq_false_iff_ne];omega
 have i2:IntKind.i64.wrap ((m:Int)+1 - (m:Int))=1:=by rw [IntKind.wrap_i64];omega
 have i3:(m:Int)+1 - (m:Int)=1:=by omega
 go_enter Try.func137,Try.ntmps137
 go_wp2_with fail
 go_loopw [14,15] (fun p q w=>∃ i j:Nat,p=.int .i64 (i:Int)∧q=.int .i64 (j:Int)∧Hid (BsI (fun h=>!ltC cv (g m) (g h)) fin a m i j)∧Hid (RowW w0 blk off n R g w)) (fun p q _=>(RowKit.intOf q).toNat - (RowKit.intOf p).toNat)
 case atStart=>exact⟨a,m,rfl,rfl,HB,HH⟩
 case round =>
  obtain⟨i,j,rfl,rfl,HI,HR⟩:=hrel
  have l1:=HI.out.li
  have l2:=HI.out.ij
  have l3:=HI.out.jh
  by_cases hij:i<j
  ·obtain⟨d,hd⟩:∃ d,(i+j) / 2=d:=⟨_,rfl⟩
   have t0:(i:Int)<(j:Int):=by omega
   have v0:IntKind.i64.wrap ((i:Int)+(j:Int))=(i:Int)+(j:Int):=by rw [IntKind.wrap_i64];omega
   have v1:((i:Int)+(j:Int)) / 2=(d:Int):=by omega
   obtain⟨yd,hyd⟩:∃ y,g d=y:=⟨_,rfl⟩
   have c1:=aee (w0:=w0) (blk:=blk) (off:=off) (R:=R) (show d<n by omega) hyd
   have c2:=aee (w0:=w0) (blk:=blk) (off:=off) (R:=R) (show m<n by omega) HM.out
   have x0:=fun p=>(c1 p).1
   have x1:=fun p=>(c1 p).2.1
   have x2:=fun p=>(c1 p).2.2.1
   have x3:=fun p=>(c1 p).2.2.2.1
   have x4:=fun p=>(c1 p).2.2.2.2
   have y0:=fun p=>(c2 p).1
   have y1:=fun p=>(c2 p).2.1
   have y2:=fun p=>(c2 p).2.2.1
   have y3:=fun p=>(c2 p).2.2.2.1
   have y4:=fun p=>(c2 p).2.2.2.2
   have t2:(0:Int)≤(d:Int):=Int.natCast_nonneg _
   have t3:(d:Int)<(n:Int):=by omega
   have t4:(0:Int)≤(m:Int):=Int.natCast_nonneg _
   have t5:(m:Int)<(n:Int):=by omega
   have hin:yd<n:=by rw [← hyd];exact HR.out.inr d (by omega)
   have hcall:=fun p=>HC.out.calls g p ym yd hian hin
   have w1:IntKind.i64.wrap ((d:Int)+1)=(d:Int)+1:=by rw [IntKind.wrap_i64];omega
   have HY:Hid (¬ cv ym yd<0→BsI (fun h=>!ltC cv (g m) (g h)) fin a m (d+1) j):=fun h=>by
    have:=HI.out.yes hij (show(!ltC cv (g m) (g ((i+j) / 2)))=true by rw [hd,hyd,HM.out];simp;omega)
    rw [hd] at this
    exact this
   have HN:Hid (cv ym yd<0→BsI (fun h=>!ltC cv (g m) (g h)) fin a m i d):=fun h=>by
    have:=HI.out.no hij (show(!ltC cv (g m) (g ((i+j) / 2)))=false by rw [hd,hyd,HM.out];simp;omega)
    rw [hd] at this
    exact this
   clear c1 c2
   go_wp2_with fail
   haveI:Inhabited (WBy w0 blk off n R g):=⟨⟨_,HR.out⟩⟩
   refine aeh (g:=g) mixed (by kernel_rfl) HR.out ?_
   repeat (go_big_quiet_step ((go_at_call 68;exact hcall _)))
   refine wpQuiet_nil ?_
   intro w2 hw2
   obtain⟨q,rfl⟩:=hw2
   have HRq:=hidj q.row
   clear hcall x0 x1 x2 x3 x4 y0 y1 y2 y3 y4
   generalize q.w=wq at *
   by_cases hlt:cv ym yd<0
   ·have HN:=hidj (HN.out (by omega))
    have t6:decide (cv ym yd<0)=true:=decide_eq_true hlt
    rw [t6]
    go_wp2_with fail
    go_roundw
    case rel=>exact⟨i,d,rfl,rfl,HN,HRq⟩
    case measure=>simp [RowKit.intOf];omega
   ·have HY:=hidj (HY.out (by omega))
    have t6:decide (cv ym yd<0)=false:=decide_eq_false hlt
    rw [t6]
    go_wp2_with fail
    go_roundw
    case rel=>exact⟨d+1,j,by go_num,rfl,HY,HRq⟩
    case measure=>simp [RowKit.intOf];omega
  ·obtain⟨e1,e2⟩:=HI.out.fin hij
   clear HI HB
   subst e1
   have e2:=e2.symm
   subst e2
   have t0:¬ (i:Int)<(i:Int):=by omega
   go_wp2_with fail
   go_loopw [17] (fun q w=>∃ k:Nat,i≤k∧k≤m∧q=.int .i64 (k:Int)∧Hid (RowW w0 blk off n R (dnF g m (m - k)) w)) (fun q _=>(RowKit.intOf q).toNat)
   case atStart=>exact⟨m,by omega,Rl _,rfl,by rw [Nat.sub_self];exact HR⟩
   case round =>
    obtain⟨k,hk1,hk2,rfl,HU⟩:=hrel
    by_cases hki:i<k
    ·have HW:=HU.out
     have t1:(i:Int)<(k:Int):=by omega
     have v1:IntKind.i64.wrap ((k:Int) - 1)=((k - 1:Nat):Int):=by rw [IntKind.wrap_i64];omega
     have u0:dnF g m (m - k) k=ym:=by rw [a9p hk2,HM.out]
     obtain⟨y,hy⟩:∃ y,g (k - 1)=y:=⟨_,rfl⟩
     have u1:dnF g m (m - k) (k - 1)=y:=by rw [a9o hk2 (by omega),hy]
     obtain⟨x0,x1,x2,x3,x4⟩:=aee (show k<n by omega) u0 ⟨_,HW⟩
     obtain⟨y0,y1,y2,y3,y4⟩:=aee (show k - 1<n by omega) u1 ⟨_,HW⟩
     dsimp only at x0 x1 x2 x3 x4 y0 y1 y2 y3 y4
     have p0:=HW.thaw (j:=0) (show k<n by omega) (by omega)
     have p1:=HW.thaw (j:=1) (show k<n by omega) (by omega)
     have p2:=HW.thaw (j:=2) (show k<n by omega) (by omega)
     have p3:=HW.thaw (j:=3) (show k<n by omega) (by omega)
     have p4:=HW.thaw (j:=4) (show k<n by omega) (by omega)
     have q0:=HW.thaw (j:=0) (show k - 1<n by omega) (by omega)
     have q1:=HW.thaw (j:=1) (show k - 1<n by omega) (by omega)
     have q2:=HW.thaw (j:=2) (show k - 1<n by omega) (by omega)
     have q3:=HW.thaw (j:=3) (show k - 1<n by omega) (by omega)
     have q4:=HW.thaw (j:=4) (show k - 1<n by omega) (by omega)
     rw [Nat.add_zero] at p0 q0
     have t2:(0:Int)≤(k:Int):=Int.natCast_nonneg _
     have t3:(k:Int)<(n:Int):=by omega
     have t4:(0:Int)≤((k - 1:Nat):Int):=Int.natCast_nonneg _
     have t5:((k - 1:Nat):Int)<(n:Int):=by omega
     have hsw:=HW.swapC (show k<n by omega) (show k - 1<n by omega)
     rw [u0,u1,← bbl hk2 (by omega)] at hsw
     have HS:=hidj hsw
     clear hsw HW HU u0 u1
     go_wp2_with fail
     go_region
     go_wp2_with fail
     exact⟨⟨k - 1,by omega,by omega,rfl,HS⟩,by simp [RowKit.intOf];omega⟩
    ·have hke:k=i:=by omega
     subst hke
     have HW:=hidj HU.out
     go_wp2_with fail
     go_returns
     refine⟨rfl,?_⟩
     exact HW.out
theorem bzu{lt:Nat→Nat→Bool}{N:Nat}{g:Nat→Nat}{a m b d s e s0 r0:Nat}(h1:¬ m - a=1)(h2:¬ b - m=1)(hd:(a+b) / 2=d)(hs0:(if d<m then d+m - b else a)=s0)(hr0:(if d<m then d else m)=r0)(hs:bsF (fun c=>!lt (g (d+m - 1 - c)) (g c)) (r0 - s0) s0 r0=s)(he:d+m - s=e) :
  symF lt (N+1) g a m b=if d<e∧e<b then symF lt N (if a<s∧s<d then symF lt N (rtF g s m e) a s d else rtF g s m e) d e b else(if a<s∧s<d then symF lt N (rtF g s m e) a s d else rtF g s m e):=by
 subst hd
 subst hs0
 subst hr0
 subst hs
 subst he
 show(if m - a=1 then _ else if b - m=1 then _ else _)=_
 rw [if_neg h1,if_neg h2]
set_option maxHeartbeats 8000000 in
theorem aza{w0 wr:World}{blk off n cap a m b N:Nat}{R:Nat→R5}{cv:Nat→Nat→Int}(C:CmpOK w0 blk off n R cv){g:Nat→Nat}(h:RowW w0 blk off n R g wr)(ham:a+1<m)(hmb:m+1<b)(hb:b≤n)(hN:b - a≤N+1)(hn:n≤1000000)
  (IH:∀ (g:Nat→Nat) (a m b:Nat) (wr:World),RowW w0 blk off n R g wr→a<m→m<b→b≤n→b - a≤N→Calls Try.prog 137 #[.slice (some ⟨blk,off,none⟩) n cap,.int .i64 a,.int .i64 m,.int .i64 b,cmpV] wr fun e w'=>e=.returned (.tuple #[])∧RowW w0 blk off n R (symF (ltC cv) N g a m b) w') :
  Calls Try.prog 137 #[.slice (some ⟨blk,off,none⟩) n cap,.int .i64 a,.int .i64 m,.int .i64 b,cmpV] wr fun e w'=>e=.returned (.tuple #[])∧RowW w0 blk off n R (symF (ltC cv) (N+1) g a m b) w':=by
 obtain⟨d,hd⟩:∃ d,(a+b) / 2=d:=⟨_,rfl⟩
 obtain⟨s0,hs0⟩:∃ s0,(if d<m then d+m - b else a)=s0:=⟨_,rfl⟩
 obtain⟨r0,hr0⟩:∃ r0,(if d<m then d else m)=r0:=⟨_,rfl⟩
 obtain⟨s,hs⟩:∃ s,bsF (fun c=>!ltC cv (g (d+m - 1 - c)) (g c)) (r0 - s0) s0 r0=s:=⟨_,rfl⟩
 obtain⟨e,he⟩:∃ e,d+m - s=e:=⟨_,rfl⟩
 rw [bzu (by omega) (by omega) hd hs0 hr0 hs he]
 obtain⟨g1,hg1⟩:∃ g1,rtF g s m e=g1:=⟨_,rfl⟩
 rw [hg1]
 obtain⟨g2,hg2⟩:∃ g2,(if a<s∧s<d then symF (ltC cv) N g1 a s d else g1)=g2:=⟨_,rfl⟩
 rw [hg2]
 obtain⟨g3,hg3⟩:∃ g3,(if d<e∧e<b then symF (ltC cv) N g2 d e b else g2)=g3:=⟨_,rfl⟩
 rw [hg3]
 have k1:a≤s0∧s0≤r0∧r0≤m∧r0≤d∧d+m≤s0+b:=by
  subst hs0
  subst hr0
  split<;>omega
 obtain⟨k1,k2,k3,k4,k5⟩:=k1
 have k6:d+1≤b:=by omega
 have k9:a+1≤d:=by omega
 obtain⟨pp,hpp⟩:∃ pp,d+m - 1=pp:=⟨_,rfl⟩
 rw [hpp] at hs
 have HB:Hid (BsI (fun c=>!ltC cv (g (pp - c)) (g c)) s s0 r0 s0 r0):=⟨⟨r0 - s0,Rl _,hs⟩,Rl _,k2,Rl _⟩
 have HH:=hidj h
 have HC:=hidj C
 have HI:=hidj IH
 have HS0:=hidj hs0
 have HR0:=hidj hr0
 have HG1:=hidj hg1
 have HG2:=hidj hg2
 have HG3:=hidj hg3
 have HE:=hidj he
 have HP:=hidj hpp
 have HN:=hidj hN
 have i0:IntKind.i64.wrap ((m:Int) - (a:Int))=(m:Int) - (a:Int):=by rw [IntKind.wrap_i64];omega
 have i1:((m:Int) - (a:Int)==1)=false:=by rw [beq_eq_false_iff_ne];omega
 have i2:IntKind.i64.wrap ((b:Int) - (m:Int))=(b:Int) - (m:Int):=by rw [IntKind.wrap_i64];omega
 have i3:((b:Int) - (m:Int)==1)=false:=by rw [beq_eq_false_iff_ne];omega
 have i4:IntKind.i64.wrap ((a:Int)+(b:Int))=(a:Int)+(b:Int):=by rw [IntKind.wrap_i64];omega
 have i5:((a:Int)+(b:Int)) / 2=(d:Int):=by omega
 have i6:IntKind.i64.wrap ((d:Int)+(m:Int))=(d:Int)+(m:Int):=by rw [IntKind.wrap_i64];omega
 have i7:IntKind.i64.wrap ((d:Int)+(m:Int) - 1)=(pp:Int):=by rw [IntKind.wrap_i64];omega
 clear h C IH hs0 hr0 hg1 hg2 hg3 he hpp hs hN hd
 go_enter Try.func137,Try.ntmps137
 go_upto_if 140 with (fail)
 go_cut [20,21] (fun s20 s21 wx=>s20=.int .i64 (s0:Int)∧s21=.int .i64 (r0:Int)∧Hid (RowW w0 blk off n R g wx))
 case first=>as_aux_lemma =>
  by_cases hdm:d<m
  ·have e1:IntKind.i64.wrap ((d:Int)+(m:Int) - (b:Int))=(s0:Int):=by
    have:=HS0.out
    rw [if_pos hdm] at this
    rw [IntKind.wrap_i64];omega
   have e2:(d:Int)=(r0:Int):=by
    have:=HR0.out
    rw [if_pos hdm] at this
    omega
   have t0:(d:Int)<(m:Int):=by omega
   have E2:=hidj e2
   clear e2
   go_wp2_with fail
   go_meet
   exact⟨rfl,by rw [E2.out],HH⟩
  ·have e1:(a:Int)=(s0:Int):=by
    have:=HS0.out
    rw [if_neg hdm] at this
    omega
   have e2:(m:Int)=(r0:Int):=by
    have:=HR0.out
    rw [if_neg hdm] at this
    omega
   have t0:¬ (d:Int)<(m:Int):=by omega
   have E1:=hidj e1
   have E2:=hidj e2
   clear e1 e2
   go_wp2_with fail
   go_meet
   exact⟨by rw [E1.out],by rw [E2.out],HH⟩
 case rest =>
 obtain⟨rfl,rfl,HR⟩:=hcut
 have k7:pp+1=d+m:=by have:=HP.out;omega
 clear i0 i1 i2 i3 i4 i5 HP HS0 HR0
 go_wp2_with fail
 go_loopw [20,21] (fun p q w=>∃ i j:Nat,p=.int .i64 (i:Int)∧q=.int .i64 (j:Int)∧Hid (BsI (fun c=>!ltC cv (g (pp - c)) (g c)) s s0 r0 i j)∧Hid (RowW w0 blk off n R g w)) (fun p q _=>(RowKit.intOf q).toNat - (RowKit.intOf p).toNat)
 case atStart=>exact⟨s0,r0,rfl,rfl,HB,HR⟩
 case round =>
  clear HR
  obtain⟨i,j,rfl,rfl,HX,HR⟩:=hrel
  have l1:=HX.out.li
  have l2:=HX.out.ij
  have l3:=HX.out.jh
  by_cases hij:i<j
  ·as_aux_lemma =>
   obtain⟨x,hx⟩:∃ x,(i+j) / 2=x:=⟨_,rfl⟩
   have t0:(i:Int)<(j:Int):=by omega
   have v0:IntKind.i64.wrap ((i:Int)+(j:Int))=(i:Int)+(j:Int):=by rw [IntKind.wrap_i64];omega
   have v1:((i:Int)+(j:Int)) / 2=(x:Int):=by omega
   obtain⟨z,hz⟩:∃ z,pp - x=z:=⟨_,rfl⟩
   have v2:IntKind.i64.wrap ((pp:Int) - (x:Int))=(z:Int):=by rw [IntKind.wrap_i64];omega
   obtain⟨yx,hyx⟩:∃ y,g x=y:=⟨_,rfl⟩
   obtain⟨yz,hyz⟩:∃ y,g z=y:=⟨_,rfl⟩
   have c1:=aee (w0:=w0) (blk:=blk) (off:=off) (R:=R) (show z<n by omega) hyz
   have c2:=aee (w0:=w0) (blk:=blk) (off:=off) (R:=R) (show x<n by omega) hyx
   have x0:=fun p=>(c1 p).1
   have x1:=fun p=>(c1 p).2.1
   have x2:=fun p=>(c1 p).2.2.1
   have x3:=fun p=>(c1 p).2.2.2.1
   have x4:=fun p=>(c1 p).2.2.2.2
   have y0:=fun p=>(c2 p).1
   have y1:=fun p=>(c2 p).2.1
   have y2:=fun p=>(c2 p).2.2.1
   have y3:=fun p=>(c2 p).2.2.2.1
   have y4:=fun p=>(c2 p).2.2.2.2
   have t2:(0:Int)≤(z:Int):=Int.natCast_nonneg _
   have t3:(z:Int)<(n:Int):=by omega
   have t4:(0:Int)≤(x:Int):=Int.natCast_nonneg _
   have t5:(x:Int)<(n:Int):=by omega
   have hinx:yx<n:=by rw [← hyx];exact HR.out.inr x (by omega)
   have hinz:yz<n:=by rw [← hyz];exact HR.out.inr z (by omega)
   have hcall:=fun p=>HC.out.calls g p yz yx hinz hinx
   have w1:IntKind.i64.wrap ((x:Int)+1)=(x:Int)+1:=by rw [IntKind.wrap_i64];omega
   have HY:Hid (¬ cv yz yx<0→BsI (fun c=>!ltC cv (g (pp - c)) (g c)) s s0 r0 (x+1) j):=fun h=>by
    have:=HX.out.yes hij (show(!ltC cv (g (pp - (i+j) / 2)) (g ((i+j) / 2)))=true by rw [hx,hz,hyx,hyz];simp;omega)
    rw [hx] at this
    exact this
   have HN':Hid (cv yz yx<0→BsI (fun c=>!ltC cv (g (pp - c)) (g c)) s s0 r0 i x):=fun h=>by
    have:=HX.out.no hij (show(!ltC cv (g (pp - (i+j) / 2)) (g ((i+j) / 2)))=false by rw [hx,hz,hyx,hyz];simp;omega)
    rw [hx] at this
    exact this
   have hx:=hidj hx
   have hz:=hidj hz
   have hyx:=hidj hyx
   have hyz:=hidj hyz
   clear c1 c2
   go_wp2_with fail
   haveI:Inhabited (WBy w0 blk off n R g):=⟨⟨_,HR.out⟩⟩
   refine aeh (g:=g) mixed (by kernel_rfl) HR.out ?_
   repeat (go_big_quiet_step ((go_at_call 68;exact hcall _)))
   refine wpQuiet_nil ?_
   intro w2 hw2
   obtain⟨q,rfl⟩:=hw2
   have HRq:=hidj q.row
   clear hcall x0 x1 x2 x3 x4 y0 y1 y2 y3 y4
   generalize q.w=wq at *
   by_cases hlt:cv yz yx<0
   ·have HN':=hidj (HN'.out (by omega))
    have t6:decide (cv yz yx<0)=true:=decide_eq_true hlt
    rw [t6]
    go_wp2_with fail
    go_roundw
    case rel=>exact⟨i,x,rfl,rfl,HN',HRq⟩
    case measure=>have:=hx.out;simp [RowKit.intOf];omega
   ·have HY:=hidj (HY.out (by omega))
    have t6:decide (cv yz yx<0)=false:=decide_eq_false hlt
    rw [t6]
    go_wp2_with fail
    go_roundw
    case rel=>exact⟨x+1,j,by go_num,rfl,HY,HRq⟩
    case measure=>have:=hx.out;simp [RowKit.intOf];omega
  ·obtain⟨e1,e2⟩:=HX.out.fin hij
   clear HX HB
   subst e1
   have e2:=e2.symm
   subst e2
   have v3:IntKind.i64.wrap ((d:Int)+(m:Int) - (i:Int))=(e:Int):=by have:=HE.out;rw [IntKind.wrap_i64];omega
   have k8:e+i=d+m:=by have:=HE.out;omega
   have HG1:Hid ((if i<m∧m<e then rtF g i m e else g)=g1):=by
    have:=HG1.out
    unfold rtF at this
    by_cases c:i<m∧m<e
    ·rw [if_pos c] at this
     show(if i<m∧m<e then rtF g i m e else g)=g1
     rw [if_pos c]
     unfold rtF
     rw [if_pos c]
     exact this
    ·rw [if_neg c] at this
     show(if i<m∧m<e then rtF g i m e else g)=g1
     rw [if_neg c]
     exact this
   go_upto_region 39 with (fail)
   go_cut [185] (fun v wx=>v=.bool (decide (i<m∧m<e))∧Hid (RowW w0 blk off n R g wx))
   case first=>as_aux_lemma =>
    by_cases c1:i<m
    ·have c1':(i:Int)<(m:Int):=by omega
     by_cases c2:m<e
     ·have c2':(m:Int)<(e:Int):=by omega
      go_wp2_with fail
      go_meet
      exact⟨by simp [c1,c2],HR⟩
     ·have c2':¬ (m:Int)<(e:Int):=by omega
      go_wp2_with fail
      go_meet
      exact⟨by simp [c1,c2],HR⟩
    ·have c1':¬ (i:Int)<(m:Int):=by omega
     go_wp2_with fail
     go_meet
     exact⟨by simp [c1],HR⟩
   case rest =>
   clear HR
   obtain⟨rfl,HR⟩:=hcut
   go_upto_if 185 with (fail)
   go_cut [] (fun wx=>Hid (RowW w0 blk off n R g1 wx))
   case first=>as_aux_lemma =>
    by_cases c3:i<m∧m<e
    ·rw [decide_eq_true c3]
     have hr:=a7n (c:=cmpV) (cap:=cap) HR.out c3.1 c3.2 (by omega) hn
     have hgg:=HG1.out
     rw [if_pos c3] at hgg
     rw [hgg] at hr
     clear hgg
     go_wp2_with (go_at_call 153;refine hr.mono ?_;rintro e' w' ⟨rfl,hw'⟩;skip)
     go_meet
     exact hw'
    ·rw [decide_eq_false c3]
     have hgg:=HG1.out
     rw [if_neg c3] at hgg
     have HGG:=hidj hgg
     clear hgg
     go_wp2_with fail
     go_meet
     rw [← HGG.out]
     exact HR
   case rest =>
   have HR1:=hcut
   clear hcut HR
   go_upto_region 41 with (fail)
   go_cut [199] (fun v wx=>v=.bool (decide (a<i∧i<d))∧Hid (RowW w0 blk off n R g1 wx))
   case first=>as_aux_lemma =>
    by_cases c1:a<i
    ·have c1':(a:Int)<(i:Int):=by omega
     by_cases c2:i<d
     ·have c2':(i:Int)<(d:Int):=by omega
      go_wp2_with fail
      go_meet
      exact⟨by simp [c1,c2],HR1⟩
     ·have c2':¬ (i:Int)<(d:Int):=by omega
      go_wp2_with fail
      go_meet
      exact⟨by simp [c1,c2],HR1⟩
    ·have c1':¬ (a:Int)<(i:Int):=by omega
     go_wp2_with fail
     go_meet
     exact⟨by simp [c1],HR1⟩
   case rest =>
   clear HR1
   obtain⟨rfl,HR1⟩:=hcut
   go_upto_if 199 with (fail)
   go_cut [] (fun wx=>Hid (RowW w0 blk off n R g2 wx))
   case first=>as_aux_lemma =>
    by_cases c3:a<i∧i<d
    ·rw [decide_eq_true c3]
     have hr:=HI.out g1 a i d _ HR1.out c3.1 c3.2 (by omega) (by have:=HN.out;omega)
     have hgg:=HG2.out
     rw [if_pos c3] at hgg
     rw [hgg] at hr
     clear hgg
     go_wp2_with (go_at_call 137;refine hr.mono ?_;rintro e' w' ⟨rfl,hw'⟩;skip)
     go_meet
     exact hw'
    ·rw [decide_eq_false c3]
     have hgg:=HG2.out
     rw [if_neg c3] at hgg
     have HGG:=hidj hgg
     clear hgg
     go_wp2_with fail
     go_meet
     rw [← HGG.out]
     exact HR1
   case rest =>
   have HR2:=hcut
   clear hcut HR1
   go_upto_region 43 with (fail)
   go_cut [213] (fun v wx=>v=.bool (decide (d<e∧e<b))∧Hid (RowW w0 blk off n R g2 wx))
   case first=>as_aux_lemma =>
    by_cases c1:d<e
    ·have c1':(d:Int)<(e:Int):=by omega
     by_cases c2:e<b
     ·have c2':(e:Int)<(b:Int):=by omega
      go_wp2_with fail
      go_meet
      exact⟨by simp [c1,c2],HR2⟩
     ·have c2':¬ (e:Int)<(b:Int):=by omega
      go_wp2_with fail
      go_meet
      exact⟨by simp [c1,c2],HR2⟩
    ·have c1':¬ (d:Int)<(e:Int):=by omega
     go_wp2_with fail
     go_meet
     exact⟨by simp [c1],HR2⟩
   case rest =>
   clear HR2
   obtain⟨rfl,HR2⟩:=hcut
   by_cases c3:d<e∧e<b
   ·rw [decide_eq_true c3]
    have hr:=HI.out g2 d e b _ HR2.out c3.1 c3.2 (by omega) (by have:=HN.out;omega)
    have hgg:=HG3.out
    rw [if_pos c3] at hgg
    rw [hgg] at hr
    clear hgg
    go_wp2_with (go_at_call 137;refine hr.mono ?_;rintro e' w' ⟨rfl,hw'⟩;skip)
    go_returns
    exact⟨rfl,hw'⟩
   ·rw [decide_eq_false c3]
    have hgg:=HG3.out
    rw [if_neg c3] at hgg
    have HGG:=hidj hgg
    clear hgg
    go_wp2_with fail
    go_returns
    rw [← HGG.out]
    exact⟨rfl,HR2.out⟩
theorem ayh{w0:World}{blk off n cap:Nat}{R:Nat→R5}{cv:Nat→Nat→Int}(C:CmpOK w0 blk off n R cv)(hn:n≤1000000):∀ (N:Nat) (g:Nat→Nat) (a m b:Nat) (wr:World),RowW w0 blk off n R g wr→a<m→m<b→b≤n→b - a≤N →
  Calls Try.prog 137 #[.slice (some ⟨blk,off,none⟩) n cap,.int .i64 a,.int .i64 m,.int .i64 b,cmpV] wr fun e w'=>e=.returned (.tuple #[])∧RowW w0 blk off n R (symF (ltC cv) N g a m b) w'
 | 0,g,a,m,b,wr,h,h1,h2,h3,h4=>by omega
 | N+1,g,a,m,b,wr,h,h1,h2,h3,h4=>by
  by_cases c1:m=a+1
  ·subst c1
   have:=a4j (cap:=cap) (N:=N) C h h2 h3 hn
   rw [show(((a+1:Nat):Int))=(a:Int)+1 by omega]
   exact this
  ·by_cases c2:b=m+1
   ·subst c2
    have:=ay9 (cap:=cap) (N:=N) C h (show a+1<m by omega) h3 hn
    rw [show(((m+1:Nat):Int))=(m:Int)+1 by omega]
    exact this
   ·exact aza C h (by omega) (by omega) h3 (by omega) hn (ayh C hn N)
end Go.Proofs.Ytlbbkmcegbeckaa
namespace Go.Stb
def Bks(T:Nat→Nat→Prop)(g:Nat→Nat)(S n:Nat):Prop:=∀ j,j*S<n→Bk T g (j*S) (min (j*S+S) n)
structure InsP (T:Nat→Nat→Prop) (g:Nat→Nat) (S n k:Nat):Prop where
 done:∀ j,j<k→Bk T g (j*S) (j*S+S)
 rest:∀ x,k*S≤x→x<n→g x=x
structure MrgP (T:Nat→Nat→Prop) (g:Nat→Nat) (S n k:Nat):Prop where
 done:∀ j,j<k→Bk T g (j*(2*S)) (j*(2*S)+2*S)
 rest:∀ j,2*k≤j→j*S<n→Bk T g (j*S) (min (j*S+S) n)
theorem alz{j k S:Nat}(h:j<k):j*S+S≤k*S:=by
 have:=Nat.mul_le_mul_right S (show j+1≤k from h)
 rw [Nat.add_mul,Nat.one_mul] at this
 exact this
theorem InsP.next{T:Nat→Nat→Prop}{g g':Nat→Nat}{S n k:Nat}(h:InsP T g S n k)(hb:Bk T g' (k*S) (k*S+S))(ho:∀ x,(x<k*S∨k*S+S≤x)→g' x=g x):InsP T g' S n (k+1):=by
 have e:(k+1)*S=k*S+S:=by rw [Nat.add_mul,Nat.one_mul]
 refine⟨fun j hj=>?_,fun x hx hn=>?_⟩
 ·by_cases hjk:j=k
  ·rw [hjk];exact hb
  ·have:=alz (S:=S) (show j<k by omega)
   exact(h.done j (by omega)).congr fun x _ h2=>ho x (.inl (by omega))
 ·rw [e] at hx
  rw [ho x (.inr hx)]
  exact h.rest x (by omega) hn
theorem InsP.last{T:Nat→Nat→Prop}{g g':Nat→Nat}{S n k:Nat}(h:InsP T g S n k)(hkn:k*S≤n)(hn:n<k*S+S)(hb:Bk T g' (k*S) n)(ho:∀ x,(x<k*S∨n≤x)→g' x=g x):Bks T g' S n:=by
 intro j hj
 have hjk:j≤k:=by
  rcases Nat.lt_or_ge k j with h' | h'
  ·have:=alz (S:=S) h'
   omega
  ·exact h'
 by_cases he:j=k
 ·rw [he,Nat.min_eq_right (by omega)];exact hb
 ·have:=alz (S:=S) (show j<k by omega)
  rw [Nat.min_eq_left (by omega)]
  exact(h.done j (by omega)).congr fun x _ h2=>ho x (.inl (by omega))
theorem MrgP.start{T:Nat→Nat→Prop}{g:Nat→Nat}{S n:Nat}(h:Bks T g S n):MrgP T g S n 0:=⟨fun j hj=>absurd hj (Nat.not_lt_zero _),fun j _ hj=>h j hj⟩
theorem ai4(k S:Nat):2*k*S=k*(2*S):=by rw [Nat.mul_comm 2 k,Nat.mul_assoc]
theorem MrgP.left{T:Nat→Nat→Prop}{g:Nat→Nat}{S n k:Nat}(h:MrgP T g S n k)(hS:0<S)(hn:k*(2*S)+S≤n):Bk T g (k*(2*S)) (k*(2*S)+S):=by
 have:=h.rest (2*k) (Nat.le_refl _) (by rw [ai4];omega)
 rw [ai4,Nat.min_eq_left hn] at this
 exact this
theorem MrgP.right{T:Nat→Nat→Prop}{g:Nat→Nat}{S n k b:Nat}(h:MrgP T g S n k)(hn:k*(2*S)+S<n)(hb:b=min (k*(2*S)+2*S) n):Bk T g (k*(2*S)+S) b:=by
 have e:(2*k+1)*S=k*(2*S)+S:=by rw [Nat.add_mul,Nat.one_mul,ai4]
 have:=h.rest (2*k+1) (by omega) (by rw [e];omega)
 rw [e] at this
 rw [hb]
 have e2:min (k*(2*S)+S+S) n=min (k*(2*S)+2*S) n:=by rw [show k*(2*S)+S+S=k*(2*S)+2*S by omega]
 rw [e2] at this
 exact this
theorem MrgP.next{T:Nat→Nat→Prop}{g g':Nat→Nat}{S n k:Nat}(h:MrgP T g S n k)(hb:Bk T g' (k*(2*S)) (k*(2*S)+2*S))(ho:∀ x,(x<k*(2*S)∨k*(2*S)+2*S≤x)→g' x=g x):MrgP T g' S n (k+1):=by
 refine⟨fun j hj=>?_,fun j hj hn=>?_⟩
 ·by_cases hjk:j=k
  ·rw [hjk];exact hb
  ·have:=alz (S:=2*S) (show j<k by omega)
   exact(h.done j (by omega)).congr fun x _ h2=>ho x (.inl (by omega))
 ·have e:k*(2*S)+2*S≤j*S:=by
   have:=Nat.mul_le_mul_right S hj
   rw [ai4,Nat.add_mul,Nat.one_mul] at this
   exact this
  exact(h.rest j (by omega) hn).congr fun x h1 _=>ho x (.inr (by omega))
theorem MrgP.last{T:Nat→Nat→Prop}{g g':Nat→Nat}{S n k:Nat}(h:MrgP T g S n k)(hkn:k*(2*S)≤n)(hn:n<k*(2*S)+2*S)(hb:k*(2*S)<n→Bk T g' (k*(2*S)) n)(ho:∀ x,(x<k*(2*S)∨n≤x)→g' x=g x):Bks T g' (2*S) n:=by
 intro j hj
 have hjk:j≤k:=by
  rcases Nat.lt_or_ge k j with h' | h'
  ·have:=alz (S:=2*S) h'
   omega
  ·exact h'
 by_cases he:j=k
 ·rw [he,Nat.min_eq_right (by omega)]
  rw [he] at hj
  exact hb hj
 ·have hst:=alz (S:=2*S) (show j<k by omega)
  have hc:Bk T g (j*(2*S)) (j*(2*S)+2*S):=h.done j (by omega)
  rw [Nat.min_eq_left (by omega)]
  exact hc.congr fun x _ h2=>ho x (.inl (by omega))
end Go.Stb
