/-
  Rows that change their places: two parts side by side. Conditions: none.
-/
import Derived.Test.YtlbbkmcegbeckaaSbX
set_option linter.all false
set_option maxRecDepth 100000
noncomputable section
namespace Go.Proofs.Ytlbbkmcegbeckaa
open Go.Sx Go.Proofs Go.RowKit Go.Lib
section
variable {W:World} {l m r f t:CD} {u u' a b:Value}
theorem a9t(h:RS (memW W) sLev l u):Calls Try.prog 8 #[u,.int .i64 40] W fun e w'=>e=.returned (.bool (aa5 l 40))∧Keep W w':=by
 refine(acd c8 at8 (ofL [l,vInt .i64 40]) (us:=[u,.int .i64 40]) ⟨h,⟨40,rfl,rfl,rfl⟩,trivial⟩ holds0).mono fun e w' hh=>?_
 obtain⟨u',rfl,hk,o,ho,hx,hres⟩:=hh
 rw [Mg.1 ho] at hres
 exact⟨by rw [al6 hres];rfl,hk⟩
theorem bee(h:RS (memW W) sLev l u)(hs:small l)(hl:(l.len:Int)≤8):Calls Try.prog 9 #[u] W fun e w'=>∃ s,e=.returned s∧Keep W w'∧RS (newM W w') sLev (ab2 l) s:=by
 refine(acd c9 at9 (ofL [l]) (us:=[u]) ⟨h,trivial⟩ ?_).mono fun e w' hh=>?_
 ·unfold S9
  simp only [aad,aac,aay,b_le,abk,abn,aao,aax,aav,w_l1,w_l0,aaw,us12,aae,aaf]
  exact⟨hl,hs,trivial⟩
 obtain⟨u',rfl,hk,o,ho,hx,hres⟩:=hh
 rw [Mg.1 ho] at hres
 exact⟨_,rfl,hk,(bjq hres).mono bck⟩
theorem ajs(h:RS (memW W) sLev l u)(h1:RS (memW W) sLev m a):Calls Try.prog 18 #[u,a] W fun e w'=>e=.returned (.bool (ahn l.rows m.rows))∧Keep W w':=by
 refine(acd c18 at18 (ofL [l,m]) (us:=[u,a]) ⟨h,h1,trivial⟩ holds0).mono fun e w' hh=>?_
 obtain⟨u',rfl,hk,o,ho,hx,hres⟩:=hh
 rw [Mg.1 ho] at hres
 exact⟨by rw [al6 hres];rfl,hk⟩
theorem ajt(h:RS (memW W) sR l u)(h1:RS (memW W) sR m a):Calls Try.prog 19 #[u,a] W fun e w'=>e=.returned (.bool (afb l.rows m.rows))∧Keep W w':=by
 refine(acd c19 at19 (ofL [l,m]) (us:=[u,a]) ⟨h,h1,trivial⟩ holds0).mono fun e w' hh=>?_
 obtain⟨u',rfl,hk,o,ho,hx,hres⟩:=hh
 rw [Mg.1 ho] at hres
 exact⟨by rw [al6 hres];rfl,hk⟩
theorem au0:Calls Try.prog 22 #[] W fun e w'=>e=.returned (.bool true)∧Keep W w':=by
 refine(acd c22 at22 (fun _=>default) (us:=[]) trivial holds0).mono fun e w' hh=>?_
 obtain⟨u',rfl,hk,o,ho,hx,hres⟩:=hh
 rw [Mg.1 ho] at hres
 exact⟨by rw [al6 (b:=true) hres],hk⟩
end
end Go.Proofs.Ytlbbkmcegbeckaa
namespace Go.Proofs.Ytlbbkmcegbeckaa
open Go.Sx Go.Proofs
theorem agu(l:CD):(ab2 l).rows=l.rows.map fun r=>[aiq (at' r 0)]:=rfl
theorem avf(d:CD):(aiq d).rows=d.rows.map aa9:=rfl
theorem getD_map{g:List CD→List CD}{l:List (List CD)}{i:Nat}(h:i<l.length):(l.map g).getD i []=g (l.getD i []):=by
 rw [Gd,List.getElem?_map,Gl h,Gd,Gl h]
 rfl
theorem aox{l:List (List CD)}{i:Nat}(h:l.length≤i):l.getD i []=[]:=by
 rw [Gd,List.getElem?_eq_none h]
 rfl
theorem apx(l:CD)(n:Int):((ab2 l).cell n 0).rows=(l.cell n 0).rows.map aa9:=by
 unfold CD.cell
 rw [agu]
 by_cases h:n.toNat<l.rows.length
 ·rw [getD_map h]
  rfl
 ·rw [aox (by rw [List.length_map];omega),aox (by omega)]
  rfl
theorem bpk(l:CD):(ab2 l).len=l.len:=by
 unfold CD.len
 rw [agu,List.length_map]
theorem bm8{d e:CD}(n:Nat)(h:d.rows=e.rows.map aa9)(j:Nat):anc n d j=anc n e j:=by
 have h1:∀ i,afe (d.rows.getD i [])=afe (e.rows.getD i [])∧cmpC (at' (d.rows.getD (i - 1) []) 4) (at' (d.rows.getD i []) 3)=cmpC (at' (e.rows.getD (i - 1) []) 4) (at' (e.rows.getD i []) 3):=by
  intro i
  have key:∀ k,d.rows.getD k []=aa9 (e.rows.getD k [])∨(d.rows.getD k []=[]∧e.rows.getD k []=[]):=fun k=>by
   rw [h]
   by_cases hk:k<e.rows.length
   ·exact .inl (getD_map hk)
   ·exact .inr ⟨aox (by rw [List.length_map];omega),aox (by omega)⟩
  rcases key i with h2 | ⟨h2,h3⟩<;>rcases key (i - 1) with h4 | ⟨h4,h5⟩
  ·rw [h2,h4];exact⟨rfl,rfl⟩
  ·rw [h2,h4,h5];exact⟨rfl,rfl⟩
  ·rw [h2,h3,h4];exact⟨rfl,rfl⟩
  ·rw [h2,h3,h4,h5];exact⟨rfl,rfl⟩
 unfold anc
 rw [(h1 j).1,(h1 j).2]
theorem bp6{d e:CD}(n:Nat)(h:d.rows=e.rows.map aa9):okD n d=okD n e:=by
 unfold okD
 rw [h,List.length_map]
 congr 1
 funext j
 exact bm8 n h j
theorem bsm(l:CD):aam (ab2 l)=aam l:=by
 unfold aam
 rw [bpk,agu,List.length_map]
 congr 1
 congr 1
 funext n
 rw [a2f,a2f]
 exact bp6 n (apx l n)
theorem bfu(r:List CD):aev (aa9 r)=aev r:=rfl
theorem any_congr{α:Type}{f g:α→Bool}(h:∀ x,f x=g x):∀ l:List α,l.any f=l.any g:=fun l=>by rw [funext h]
theorem asx(d:CD)(k:Int):aag (aiq d) k=aag d k:=by
 unfold aag CD.len
 rw [avf,List.length_map,List.any_map,any_congr (f:=aev∘aa9) bfu]
theorem bmo(l:CD)(k:Int):aa5 (ab2 l) k=aa5 l k:=by
 unfold aa5
 rw [bpk,agu,List.any_map]
 congr 1
 exact any_congr (fun r=>asx (at' r 0) k) l.rows
def keyT(r:List CD):Prop:=eqC (at' r 0) (at' r 0)=true∧eqC (at' r 1) (at' r 1)=true∧eqC (at' r 2) (at' r 2)=true
theorem a0u(a:CD):aph a a=true:=beq_self_eq_true _
theorem al9{r:List CD}(h:keyT r):aju (aa9 r) r=true:=by
 show(eqC (at' r 0) (at' r 0)&&eqC (at' r 1) (at' r 1)&&eqC (at' r 2) (at' r 2)&&aph (at' r 3) (at' r 3)&&aph (at' r 4) (at' r 4))=true
 rw [h.1,h.2.1,h.2.2,a0u,a0u]
 rfl
theorem alo{f:List CD→List CD→Bool}{g:List CD→List CD}:∀ {l:List (List CD)},(∀ r∈l,f (g r) r=true)→allS f (l.map g) l=true
 | [],_=>rfl
 | r::l,h=>by
  show(f (g r) r&&allS f (l.map g) l)=true
  rw [h r (Ms ..),alo fun x hx=>h x (Mc _ hx)]
  rfl
theorem brl(z:Int):eqC (vInt .i64 z) (vInt .i64 z)=true:=by
 show decide (z=z)=true
 exact decide_eq_true rfl
theorem bay{d:CD}(h:Typ (.int .i64) d):eqC d d=true:=by
 obtain⟨m,u,n,rfl,_⟩:=h
 exact brl n
theorem a1w{l:CD}(hT:Typ sR l):∀ r∈l.rows,keyT r:=fun r hr=>by
 obtain⟨i,hi,rfl⟩:=List.getElem_of_mem hr
 have h:=(hT.row (Gl hi)).2
 exact⟨bay (h 0 _ rfl),bay (h 1 _ rfl),bay (h 2 _ rfl)⟩
theorem a7t{d:CD}(hT:Typ sR d):afb (d.rows.map aa9) d.rows=true:=alo fun r hr=>al9 (a1w hT r hr)
theorem bha{l:CD}(hT:Typ sLev l):∀ r∈l.rows,Typ sR (at' r 0):=fun r hr=>by
 obtain⟨i,hi,rfl⟩:=List.getElem_of_mem hr
 exact(hT.row (Gl hi)).2 0 _ rfl
theorem bt7{l:CD}(hT:Typ sLev l):ahn (ab2 l).rows l.rows=true:=by
 rw [agu]
 exact alo fun r hr=>a7t (bha hT r hr)
theorem a10{l:CD}(hT:Typ sLev l)(n:Int):∀ r∈(l.cell n 0).rows,keyT r:=fun r hr=>by
 unfold CD.cell at hr
 by_cases h:n.toNat<l.rows.length
 ·have hm:l.rows.getD n.toNat []∈l.rows:=by
   rw [Gd,Gl h]
   exact List.getElem_mem h
  exact a1w (bha hT _ hm) r hr
 ·rw [aox (by omega)] at hr
  cases hr
def keyed(r:List CD):Prop:=1≤(at' r 3).len∧1≤(at' r 4).len
theorem bhn{r:List CD}(h:afe r=true):keyed r:=by
 unfold afe at h
 simp only [Ba,Dt] at h
 exact⟨h.1.1.1.1.2,h.1.1.2⟩
theorem bh6{n:Nat}{d:CD}(h:okD n d=true):∀ r∈d.rows,afe r=true:=fun r hr=>by
 obtain⟨i,hi,rfl⟩:=List.getElem_of_mem hr
 unfold okD at h
 rw [List.all_eq_true] at h
 have:=h i (List.mem_range.2 hi)
 unfold anc at this
 rw [Ba] at this
 have h1:=this.1
 rw [Gd,Gl hi] at h1
 exact h1
theorem aiu{l:CD}(hT:Typ sLev l)(ho:aam l=true)(n:Nat):∀ r∈(levD l n).rows,keyed r:=fun r hr=>bhn (bh6 (a94 n hT ho) r hr)
end Go.Proofs.Ytlbbkmcegbeckaa
namespace Go.Proofs.Ytlbbkmcegbeckaa
open Go.Sx Go.Proofs Go.RowKit Go.Lib
def a9a(P:Nat→Prop)(w:World)(v:Value):Prop:=(∃ a cap,v=.slice a 0 cap)∨∃ b off n cap,v=.slice (some ⟨b,off,none⟩) n cap∧0<n∧n≤cap∧cap≤Go.Sx.maxN∧P b∧a88 P w b off n
abbrev inP(P:Nat→Prop)(w:World):Mem:=fun k o=>P k∧w.heap[k]? = some o∧Nice o
theorem bgw{P:Nat→Prop}{w:World}{d:CD}{u:Value}(h:RS (inP P w) sB d u)(hl:1≤d.len):ayy P w u:=by
 haveI:Sg:=sg0
 rcases(show(d=.sl true []∧u=.slice none 0 0)∨_ from h) with ⟨e1,rfl⟩ | ⟨rows,b,off,cap,e1,rfl,h3,h4,h5⟩ | ⟨a,e1,rfl⟩
 ·exact .inl rfl
 rotate_left
 ·exfalso
  rw [e1] at hl
  exact absurd hl (by decide)
 have hne:rows≠[]:=fun e=>by
  rw [e1,e] at hl
  exact absurd hl (by decide)
 obtain⟨arr,t,fr,⟨⟨g1,g2,arr0,t0,fr0,q1,q2,bb,q3⟩,g3⟩,g4⟩:=h5 hne
 cases q1
 refine .inr ⟨b,off,rows.length,cap,rfl,h3,h4,g1,arr,t,fr,g2,q2,?_,?_⟩
 ·have:off+cap*1≤arr.size:=g3
  omega
 ·have hb:bb=true:=by
   cases hr:rows with
   | nil=>exact absurd hr hne
   | cons x r =>
    obtain⟨c,_,u,_,e2,e3,_⟩:=g4 0 x (by rw [hr];rfl)
    rw [← q3 _ _ e2,e3.is8]
    rfl
  rw [← hb]
  exact q3
theorem bj4{P:Nat→Prop}{w:World}{d:CD}{u:Value}(h:RS (inP P w) sR d u)(hk:∀ r∈d.rows,keyed r):a9a P w u:=by
 haveI:Sg:=sg0
 rcases(show(d=.sl true []∧u=.slice none 0 0)∨_ from h) with ⟨e1,rfl⟩ | ⟨rows,b,off,cap,e1,rfl,h3,h4,h5⟩ | ⟨a,e1,rfl⟩
 ·exact .inl ⟨_,_,rfl⟩
 rotate_left
 ·exact .inl ⟨_,_,rfl⟩
 by_cases hne:rows=[]
 ·subst hne
  exact .inl ⟨_,_,rfl⟩
 obtain⟨arr,t,fr,⟨⟨g1,g2,arr0,t0,fr0,q1,q2,bb,q3⟩,g3⟩,g4⟩:=h5 hne
 cases q1
 have h0:0<rows.length:=by cases rows with
  | nil=>exact absurd rfl hne
  | cons x r=>simp
 have hlen:(5:Nat)=sRun.length:=rfl
 have g3:off+cap*5≤arr.size:=g3
 have hrow:∀ (i:Nat) (hi:i<rows.length),RSs (inP P w) sRun rows[i] fun j=>arr[off+i*5+j]?:=fun i hi=>g4 i _ (Gl hi)
 have hb:bb=false:=by
  obtain⟨c,_,u,_,e2,e3,_⟩:=hrow 0 h0
  rw [← q3 _ _ e2,e3.is8]
  rfl
 subst hb
 have hle:rows.length*5≤cap*5:=Nat.mul_le_mul_right 5 h3
 refine .inr ⟨b,off,rows.length,cap,rfl,h0,h3,h4,g1,arr,t,fr,g2,q2,by omega,q3,fun i hi=>?_⟩
 obtain⟨c0,q0',u0,e0,f0,⟨n0,k0,m0,_⟩,c1,q1',u1,e1',f1,⟨n1,k1,m1,_⟩,c2,q2',u2,e2,f2,⟨n2,k2,m2,_⟩,c3,q3',u3,e3,f3,r3,c4,q4',u4,e4,f4,r4,e5⟩:=hrow i hi
 have hkey:=hk rows[i] (by rw [e1];exact List.getElem_mem hi)
 have ha:rows[i]=[c0,c1,c2,c3,c4]:=by rw [e0,e1',e2,e3,e4,show q4'=[] from e5]
 rw [ha] at hkey
 subst m0;subst m1;subst m2
 exact⟨n0,n1,n2,u3,u4,f0,f1,f2,f3,bgw r3 hkey.1,f4,bgw r4 hkey.2⟩
set_option maxHeartbeats 1000000 in
theorem bie(w:World)(a:Option Addr)(cap:Nat):Calls Try.prog 21 #[.slice a 0 cap] w fun e w'=>e=.returned (.tuple #[])∧w'=w:=by
 go_enter Try.func21,Try.ntmps21
 go_wp2_with fail
 go_loopw [2] (fun q wr=>q=.int .i64 0∧wr=w) (fun _ _=>0)
 case atStart=>exact⟨rfl,rfl⟩
 case round =>
  obtain⟨rfl,rfl⟩:=hrel
  go_wp2_with fail
  go_returns
  exact⟨rfl,rfl⟩
theorem aqc{P:Nat→Prop}{w:World}{v:Value}(h:a9a P w v):Calls Try.prog 21 #[v] w fun e w'=>e=.returned (.tuple #[])∧(w'=w∨∃ b,P b∧Ov P b w w'):=by
 rcases h with ⟨a,cap,rfl⟩ | ⟨b,off,n,cap,rfl,_,h1,h2,h3,h4⟩
 ·exact(bie w a cap).mono fun e w' hh=>⟨hh.1,.inl hh.2⟩
 ·exact(bid h4 h1 h2).mono fun e w' hh=>⟨hh.1,.inr ⟨b,h3,hh.2⟩⟩
structure OvP (P:Nat→Prop) (w w':World):Prop where
 os:w'.os=w.os
 tape:w'.tape=w.tape
 output:w'.output=w.output
 size:w'.heap.size=w.heap.size
 other:∀ k,¬ P k→w'.heap[k]? = w.heap[k]?
theorem bic{P:Nat→Prop}{w w':World}(h:w'=w∨∃ b,P b∧Ov P b w w'):OvP P w w':=by
 rcases h with rfl | ⟨b,hb,h⟩
 ·exact⟨rfl,rfl,rfl,rfl,fun _ _=>rfl⟩
 ·refine⟨h.os,h.tape,h.output,h.size,fun k hk=>?_⟩
  rcases h.other k (fun e=>hk (e ▸ hb)) with h1 | ⟨h1,_⟩
  ·exact h1
  ·exact absurd h1 hk
theorem azr{P:Nat→Prop}{w w':World}{v:Value}(h:ayy P w v)(he:∀ k,P k→w'.heap[k]? = w.heap[k]?):ayy P w' v:=by
 rcases h with h | ⟨d,o,n,c,h1,h2,h3,h4,h5⟩
 ·exact .inl h
 ·exact .inr ⟨d,o,n,c,h1,h2,h3,h4,aoo h5 (he d h4)⟩
theorem a0t{P:Nat→Prop}{w w':World}{v:Value}(h:a9a P w v)(he:∀ k,P k→w'.heap[k]? = w.heap[k]?):a9a P w' v:=by
 rcases h with h | ⟨b,off,n,cap,h1,h2,h3,h4,h5,arr,t,fr,g1,g2,g3,g4,g5⟩
 ·exact .inl h
 ·refine .inr ⟨b,off,n,cap,h1,h2,h3,h4,h5,arr,t,fr,(he b h5).trans g1,g2,g3,g4,fun i hi=>?_⟩
  obtain⟨z0,z1,z2,v3,v4,e0,e1,e2,e3,q3,e4,q4⟩:=g5 i hi
  exact⟨z0,z1,z2,v3,v4,e0,e1,e2,e3,azr q3 he,e4,azr q4 he⟩
theorem aat{W W':World}{s:Srt}{d:CD}{u:Value}(h:RS (memW W) s d u)(hb:Below W.heap.size W W'):RS (memW W') s d u:=h.mono fun k o hk=>(hb.block k (Ga.1 hk).1).trans hk
theorem awd{lo hi:Nat}{w:World}{s:Srt}{d:CD}{u:Value}(h:RS (nm lo hi w) s d u):RS (memW w) s d u:=h.mono fun k o hk=>hk.2.2.1
theorem aa3{w w1 w2:World}(h:Below w.heap.size w w1)(h':Below w1.heap.size w1 w2):Below w.heap.size w w2:=h.trans (h'.mono h.size)
theorem boq{w:World}{kx k:Nat}{x0 x1 x2 x3 x:Value}{arr:Array Value}{t:TypeId}(h:w.heap[kx]? = some (.cells (#[x0,x1,x2,x3]++arr) t (0,0)))(hk:k<4)(hx:[x0,x1,x2,x3][k]? = some x):w.cell? ⟨kx,k,none⟩=some x:=by
 haveI:Sg:=sg0
 rw [cell?_of h,Array.getElem?_append_left (by show k<4;exact hk),List.getElem?_toArray]
 exact hx
theorem bzi{l:CD}(h:small l):(l.len:Int)≤8:=by
 unfold small aa5 at h
 rw [Bool.or_eq_true,Dt,not_or] at h
 omega
theorem a4d{l:CD}(h:small l):small (ab2 l):=by
 unfold small at h ⊢
 rw [bmo]
 exact h
end Go.Proofs.Ytlbbkmcegbeckaa
namespace Go.Stb
variable {α:Type}
def lst(f:Nat→α)(a b:Nat):List α:=(List.range' a (b - a)).map f
theorem a18{f:Nat→α}{a b:Nat}{x:α}:x∈lst f a b↔∃ i,a≤i∧i<b∧f i=x:=by
 unfold lst
 rw [List.mem_map]
 constructor
 ·rintro⟨i,hi,rfl⟩
  rw [List.mem_range'_1] at hi
  exact⟨i,hi.1,by omega,rfl⟩
 ·rintro⟨i,h1,h2,rfl⟩
  exact⟨i,by rw [List.mem_range'_1];omega,rfl⟩
theorem abd(f:Nat→α){a m b:Nat}(h1:a≤m)(h2:m≤b):lst f a b=lst f a m++lst f m b:=by
 unfold lst
 rw [← List.map_append]
 congr 1
 have:=@List.range'_append_1 a (m - a) (b - m)
 rw [show a+(m - a)=m by omega,show m - a+(b - m)=b - a by omega] at this
 exact this.symm
theorem ae4{f g:Nat→α}{a b:Nat}(h:∀ k,a≤k→k<b→g k=f k):lst g a b=lst f a b:=by
 unfold lst
 refine List.map_congr_left fun k hk=>?_
 rw [List.mem_range'_1] at hk
 exact h k hk.1 (by omega)
theorem ako{f g:Nat→α}{a c n:Nat}(h:∀ k,k<n→g (a+k)=f (c+k)):lst g a (a+n)=lst f c (c+n):=by
 unfold lst
 rw [Nat.add_sub_cancel_left,Nat.add_sub_cancel_left,List.range'_eq_map_range,List.range'_eq_map_range,List.map_map,List.map_map]
 refine List.map_congr_left fun k hk=>?_
 rw [List.mem_range] at hk
 exact h k hk
theorem av7(f:Nat→α){a b:Nat}(h:b≤a):lst f a b=[]:=by
 unfold lst
 rw [show b - a=0 by omega]
 rfl
def swF(f:Nat→α)(i j:Nat):Nat→α:=fun k=>if k=i then f j else if k=j then f i else f k
def swR(f:Nat→α)(a b:Nat):Nat→(Nat→α)
 | 0=>f
 | n+1=>swF (swR f a b n) (a+n) (b+n)
theorem bdt(f:Nat→α){a b:Nat}:∀ n,a+n≤b→∀ k,swR f a b n k=if a≤k∧k<a+n then f (k - a+b) else if b≤k∧k<b+n then f (k - b+a) else f k
 | 0,_,k=>by
  rw [if_neg (by omega),if_neg (by omega)]
  rfl
 | n+1,h,k=>by
  have ih:=bdt f (a:=a) (b:=b) n (by omega)
  show swF (swR f a b n) (a+n) (b+n) k=_
  unfold swF
  rw [ih,ih,ih]
  by_cases h1:k=a+n
  ·subst h1
   rw [if_pos rfl,if_neg (by omega),if_neg (by omega),if_pos (by omega),show a+n - a+b=b+n by omega]
  ·rw [if_neg h1]
   by_cases h2:k=b+n
   ·subst h2
    rw [if_pos rfl,if_neg (by omega),if_neg (by omega),if_neg (by omega),if_pos (by omega),show b+n - b+a=a+n by omega]
   ·rw [if_neg h2]
    by_cases h3:a≤k∧k<a+n
    ·rw [if_pos h3,if_pos (by omega)]
    ·rw [if_neg h3,if_neg (show ¬ (a≤k∧k<a+(n+1)) by omega)]
     by_cases h4:b≤k∧k<b+n
     ·rw [if_pos h4,if_pos (by omega)]
     ·rw [if_neg h4,if_neg (by omega)]
def rotF:Nat→(Nat→α)→Nat→Nat→Nat→(Nat→α)
 | 0,f,_,_,_=>f
 | n+1,f,m,i,j=>if i=j then swR f (m - i) m i else if j<i then rotF n (swR f (m - i) m j) m (i - j) j else rotF n (swR f (m - i) (m+j - i) i) m i (j - i)
theorem baj:∀ (n:Nat) (f:Nat→α) (m i j:Nat),i≤m→0<i→0<j→i+j≤n→∀ k,rotF n f m i j k=if m - i≤k∧k<m - i+j then f (k+i) else if m - i+j≤k∧k<m+j then f (k - j) else f k
 | 0,_,_,_,_,_,h1,_,h2,_=>by omega
 | n+1,f,m,i,j,h,hi,hj,hn,k=>by
  show(if i=j then swR f (m - i) m i else if j<i then rotF n (swR f (m - i) m j) m (i - j) j else rotF n (swR f (m - i) (m+j - i) i) m i (j - i)) k=_
  by_cases he:i=j
  ·subst he
   rw [if_pos rfl,bdt f i (by omega)]
   by_cases h1:m - i≤k∧k<m - i+i
   ·rw [if_pos h1,if_pos h1]
    congr 1
    omega
   ·rw [if_neg h1,if_neg h1]
    by_cases h2:m≤k∧k<m+i
    ·rw [if_pos h2,if_pos (by omega)]
     congr 1
     omega
    ·rw [if_neg h2,if_neg (by omega)]
  ·rw [if_neg he]
   by_cases hji:j<i
   ·rw [if_pos hji,baj n _ m (i - j) j (by omega) (by omega) hj (by omega) k]
    have s:=bdt f (a:=m - i) (b:=m) j (by omega)
    by_cases h1:m - i≤k∧k<m - i+j
    ·rw [if_neg (by omega),if_neg (by omega),s,if_pos h1,if_pos h1]
     congr 1
     omega
    ·rw [if_neg h1]
     by_cases h2:m - i+j≤k∧k<m+j
     ·rw [if_pos h2]
      by_cases h3:m - (i - j)≤k∧k<m - (i - j)+j
      ·rw [if_pos h3,s,if_neg (by omega),if_pos (by omega)]
       congr 1
       omega
      ·rw [if_neg h3,if_pos (by omega),s,if_neg (by omega),if_neg (by omega)]
     ·rw [if_neg h2,if_neg (by omega),if_neg (by omega),s,if_neg (by omega),if_neg (by omega)]
   ·rw [if_neg hji,baj n _ m i (j - i) h hi (by omega) (by omega) k]
    have s:=bdt f (a:=m - i) (b:=m+j - i) i (by omega)
    by_cases h1:m - i≤k∧k<m - i+j
    ·rw [if_pos h1]
     by_cases h3:m - i≤k∧k<m - i+(j - i)
     ·rw [if_pos h3,s,if_neg (by omega),if_neg (by omega)]
     ·rw [if_neg h3]
      by_cases h4:m - i+(j - i)≤k∧k<m+(j - i)
      ·rw [if_pos h4,s,if_pos (by omega)]
       congr 1
       omega
      ·omega
    ·rw [if_neg h1,if_neg (by omega),if_neg (by omega)]
     by_cases h2:m - i+j≤k∧k<m+j
     ·rw [if_pos h2,s,if_neg (by omega),if_pos (by omega)]
      congr 1
      omega
     ·rw [if_neg h2,s,if_neg (by omega),if_neg (by omega)]
def rtF(f:Nat→α)(s m e:Nat):Nat→α:=if s<m∧m<e then rotF (e - s) f m (m - s) (e - m) else f
theorem bzf(f:Nat→α){s m e d:Nat}(h1:s≤m)(h2:m≤e)(hd:d+m=s+e)(k:Nat):rtF f s m e k=if s≤k∧k<d then f (k - s+m) else if d≤k∧k<e then f (k - d+s) else f k:=by
 unfold rtF
 split
 ·rename_i h
  rw [baj (e - s) f m (m - s) (e - m) (by omega) (by omega) (by omega) (by omega) k]
  by_cases h3:s≤k∧k<d
  ·rw [if_pos (by omega),if_pos h3]
   congr 1
   omega
  ·rw [if_neg (by omega),if_neg h3]
   by_cases h4:d≤k∧k<e
   ·rw [if_pos (by omega),if_pos h4]
    congr 1
    omega
   ·rw [if_neg (by omega),if_neg h4]
 ·by_cases h3:s≤k∧k<d
  ·rw [if_pos h3]
   congr 1
   omega
  ·rw [if_neg h3]
   by_cases h4:d≤k∧k<e
   ·rw [if_pos h4]
    congr 1
    omega
   ·rw [if_neg h4]
def bsF(p:Nat→Bool):Nat→Nat→Nat→Nat
 | 0,i,_=>i
 | n+1,i,j=>if i<j then(if p ((i+j) / 2) then bsF p n ((i+j) / 2+1) j else bsF p n i ((i+j) / 2)) else i
theorem a5a{p:Nat→Bool}{lo hi:Nat}(hp:∀ x y,lo≤x→x<y→y<hi→p y=true→p x=true):∀ (n i j:Nat),lo≤i→i≤j→j≤hi→j - i≤n→(∀ x,lo≤x→x<i→p x=true)→(∀ x,j≤x→x<hi→p x=false) →
  i≤bsF p n i j∧bsF p n i j≤j∧(∀ x,lo≤x→x<bsF p n i j→p x=true)∧∀ x,bsF p n i j≤x→x<hi→p x=false
 | 0,i,j,h0,h1,h2,h3,hl,hr=>by
  have:i=j:=by omega
  subst this
  exact⟨Nat.le_refl _,Nat.le_refl _,hl,hr⟩
 | n+1,i,j,h0,h1,h2,h3,hl,hr=>by
  unfold bsF
  split
  ·rename_i hlt
   have hm1:i≤(i+j) / 2:=by omega
   have hm2:(i+j) / 2<j:=by omega
   split
   ·rename_i hpm
    obtain⟨a,b,c,d⟩:=a5a hp n ((i+j) / 2+1) j (by omega) (by omega) h2 (by omega) (fun x hx hx'=>by
     by_cases he:x=(i+j) / 2
     ·rw [he];exact hpm
     ·exact hp x ((i+j) / 2) hx (by omega) (by omega) hpm) hr
    exact⟨by omega,b,c,d⟩
   ·rename_i hpm
    have hpm:p ((i+j) / 2)=false:=by simpa using hpm
    obtain⟨a,b,c,d⟩:=a5a hp n i ((i+j) / 2) h0 hm1 (by omega) (by omega) hl (fun x hx hx'=>by
     by_cases he:x=(i+j) / 2
     ·rw [he];exact hpm
     ·cases hq:p x with
      | false=>rfl
      | true =>
       have:=hp ((i+j) / 2) x (by omega) (by omega) hx' hq
       rw [hpm] at this
       cases this)
    exact⟨a,by omega,c,d⟩
  ·have:i=j:=by omega
   subst this
   exact⟨Nat.le_refl _,Nat.le_refl _,hl,hr⟩
def upF(f:Nat→α)(a:Nat):Nat→(Nat→α)
 | 0=>f
 | n+1=>swF (upF f a n) (a+n) (a+n+1)
theorem bdw(f:Nat→α)(a:Nat):∀ n k,upF f a n k=if a≤k∧k<a+n then f (k+1) else if k=a+n then f a else f k
 | 0,k=>by
  show f k=_
  rw [if_neg (by omega)]
  split
  ·rename_i h;rw [h];rfl
  ·rfl
 | n+1,k=>by
  have ih:=bdw f a n
  show swF (upF f a n) (a+n) (a+n+1) k=_
  unfold swF
  rw [ih,ih,ih]
  by_cases h1:k=a+n
  ·subst h1
   rw [if_pos rfl,if_neg (by omega),if_neg (by omega),if_pos (by omega)]
  ·rw [if_neg h1]
   by_cases h2:k=a+n+1
   ·subst h2
    rw [if_pos rfl,if_neg (by omega),if_pos rfl,if_neg (by omega),if_pos (by omega)]
   ·rw [if_neg h2]
    by_cases h3:a≤k∧k<a+n
    ·rw [if_pos h3,if_pos (by omega)]
    ·rw [if_neg h3,if_neg h1,if_neg (by omega),if_neg (by omega)]
def dnF(f:Nat→α)(m:Nat):Nat→(Nat→α)
 | 0=>f
 | n+1=>swF (dnF f m n) (m - n) (m - n - 1)
theorem a5q(f:Nat→α)(m:Nat):∀ n,n≤m→∀ k,dnF f m n k=if m - n<k∧k≤m then f (k - 1) else if k=m - n then f m else f k
 | 0,_,k=>by
  show f k=_
  rw [if_neg (by omega)]
  split
  ·rename_i h;rw [h];rfl
  ·rfl
 | n+1,hn,k=>by
  have ih:=a5q f m n (by omega)
  show swF (dnF f m n) (m - n) (m - n - 1) k=_
  unfold swF
  rw [ih,ih,ih]
  by_cases h1:k=m - n
  ·subst h1
   rw [if_pos rfl,if_neg (by omega),if_neg (by omega),if_pos (by omega)]
  ·rw [if_neg h1]
   by_cases h2:k=m - n - 1
   ·subst h2
    rw [if_pos rfl,if_neg (by omega),if_pos rfl,if_neg (by omega),if_pos (by omega)]
   ·rw [if_neg h2]
    by_cases h3:m - n<k∧k≤m
    ·rw [if_pos h3,if_pos (by omega)]
    ·rw [if_neg h3,if_neg h1,if_neg (by omega),if_neg (by omega)]
def symF(lt:α→α→Bool):Nat→(Nat→α)→Nat→Nat→Nat→(Nat→α)
 | 0,f,_,_,_=>f
 | n+1,f,a,m,b =>
  if m - a=1 then upF f a (bsF (fun h=>lt (f h) (f a)) (b - m) m b - 1 - a)
  else if b - m=1 then dnF f m (m - bsF (fun h=>!lt (f m) (f h)) (m - a) a m)
  else
   let mid:=(a+b) / 2
   let s0:=if mid<m then mid+m - b else a
   let r0:=if mid<m then mid else m
   let s:=bsF (fun c=>!lt (f (mid+m - 1 - c)) (f c)) (r0 - s0) s0 r0
   let e:=mid+m - s
   let g:=rtF f s m e
   let g1:=if a<s∧s<mid then symF lt n g a s mid else g
   if mid<e∧e<b then symF lt n g1 mid e b else g1
def Srt(T:α→α→Prop)(f:Nat→α)(a b:Nat):Prop:=∀ i j,a≤i→i<j→j<b→T (f i) (f j)
def Cmp(lt:α→α→Bool)(T:α→α→Prop)(f:Nat→α)(a m b:Nat):Prop:=∀ i j,a≤i→i<m→m≤j→j<b→(lt (f j) (f i)=true→T (f j) (f i))∧(lt (f j) (f i)=false→T (f i) (f j))
structure Mrg (T:α→α→Prop) (f g:Nat→α) (a b:Nat):Prop where
 srt:Srt T g a b
 out:∀ k,(k<a∨b≤k)→g k=f k
 perm:(lst g a b).Perm (lst f a b)
theorem agy(f:Nat→α)(a:Nat):lst f a (a+1)=[f a]:=by
 unfold lst
 rw [Nat.add_sub_cancel_left]
 rfl
theorem Mrg.mem{T:α→α→Prop}{f g:Nat→α}{a b:Nat}(h:Mrg T f g a b){i:Nat}(h1:a≤i)(h2:i<b):∃ j,a≤j∧j<b∧f j=g i:=by
 have:g i∈lst f a b:=h.perm.mem_iff.1 (a18.2 ⟨i,h1,h2,rfl⟩)
 exact a18.1 this
section
variable {lt:α→α→Bool} {T:α→α→Prop} (irr:∀ x,¬ T x x) (tr:∀ x y z,T x y→T y z→T x z)
include irr tr
theorem bul{f:Nat→α}{a m b:Nat}(hm:m=a+1)(hb:m<b)(h2:Srt T f m b)(hc:Cmp lt T f a m b):Mrg T f (upF f a (bsF (fun h=>lt (f h) (f a)) (b - m) m b - 1 - a)) a b:=by
 subst hm
 obtain⟨p1,p2,p3,p4⟩:=a5a (p:=fun h=>lt (f h) (f a)) (lo:=a+1) (hi:=b) (fun x y hx hxy hy hp=>by
  have hc':=hc a x (Nat.le_refl _) (by omega) hx (by omega)
  have hy':=(hc a y (Nat.le_refl _) (by omega) (by omega) hy).1 hp
  cases hq:lt (f x) (f a) with
  | true=>rfl
  | false=>exact absurd (tr _ _ _ (tr _ _ _ (h2 x y hx hxy hy) hy') (hc'.2 hq)) (irr _)) (b - (a+1)) (a+1) b (Nat.le_refl _) (by omega) (Nat.le_refl _) (Nat.le_refl _) (fun x h1 h2=>by omega) (fun x h1 h2=>by omega)
 generalize bsF (fun h=>lt (f h) (f a)) (b - (a+1)) (a+1) b=i at *
 have q3:∀ x,a+1≤x→x<i→T (f x) (f a):=fun x hx hxi=>(hc a x (Nat.le_refl _) (by omega) hx (by omega)).1 (p3 x hx hxi)
 have q4:∀ x,i≤x→x<b→T (f a) (f x):=fun x hx hxb=>(hc a x (Nat.le_refl _) (by omega) (by omega) hxb).2 (p4 x hx hxb)
 have g:=bdw f a (i - 1 - a)
 generalize upF f a (i - 1 - a)=u at *
 have ga:∀ k,a≤k→k<i - 1→u k=f (k+1):=fun k h1 h2=>by rw [g,if_pos (by omega)]
 have gb:u (i - 1)=f a:=by rw [g,if_neg (by omega),if_pos (by omega)]
 have gc:∀ k,(k<a∨i≤k)→u k=f k:=fun k hk=>by rw [g,if_neg (by omega),if_neg (by omega)]
 refine⟨fun x y hx hxy hy=>?_,fun k hk=>gc k (by omega),?_⟩
 ·by_cases hxi:x<i - 1
  ·rw [ga x hx hxi]
   by_cases hyi:y<i - 1
   ·rw [ga y (by omega) hyi]
    exact h2 _ _ (by omega) (by omega) (by omega)
   ·by_cases hye:y=i - 1
    ·rw [hye,gb]
     exact q3 _ (by omega) (by omega)
    ·rw [gc y (by omega)]
     exact h2 _ _ (by omega) (by omega) hy
  ·by_cases hxe:x=i - 1
   ·rw [hxe,gb,gc y (by omega)]
    exact q4 _ (by omega) hy
   ·rw [gc x (by omega),gc y (by omega)]
    exact h2 _ _ (by omega) hxy hy
 ·have e1:lst u a (i - 1)=lst f (a+1) i:=by
   have:=ako (f:=f) (g:=u) (a:=a) (c:=a+1) (n:=i - 1 - a) (fun k hk=>by rw [ga _ (by omega) (by omega)];congr 1;omega)
   rw [show a+(i - 1 - a)=i - 1 by omega,show a+1+(i - 1 - a)=i by omega] at this
   exact this
  have e2:lst u (i - 1) i=[f a]:=by
   have:=agy u (i - 1)
   rw [show i - 1+1=i by omega,gb] at this
   exact this
  rw [abd u (show a≤i - 1 by omega) (show i - 1≤b by omega),abd u (show i - 1≤i by omega) p2,e1,e2,ae4 (fun k h1 _=>gc k (.inr h1)),abd f (show a≤a+1 by omega) (show a+1≤b by omega),agy,abd f p1 p2,← List.append_assoc,← List.append_assoc]
  exact List.perm_append_comm.append_right _
theorem bom{f:Nat→α}{a m b:Nat}(ha:a<m)(hb:b=m+1)(h1:Srt T f a m)(hc:Cmp lt T f a m b):Mrg T f (dnF f m (m - bsF (fun h=>!lt (f m) (f h)) (m - a) a m)) a b:=by
 subst hb
 obtain⟨p1,p2,p3,p4⟩:=a5a (p:=fun h=>!lt (f m) (f h)) (lo:=a) (hi:=m) (fun x y hx hxy hy hp=>by
  have hp:lt (f m) (f y)=false:=by simpa using hp
  have hy':=(hc y m (by omega) hy (Nat.le_refl _) (by omega)).2 hp
  cases hq:lt (f m) (f x) with
  | false=>rfl
  | true=>exact absurd (tr _ _ _ (tr _ _ _ (h1 x y hx hxy hy) hy') ((hc x m hx (by omega) (Nat.le_refl _) (by omega)).1 hq)) (irr _)) (m - a) a m (Nat.le_refl _) (by omega) (Nat.le_refl _) (Nat.le_refl _) (fun x h1 h2=>by omega) (fun x h1 h2=>by omega)
 generalize bsF (fun h=>!lt (f m) (f h)) (m - a) a m=i at *
 have q3:∀ x,a≤x→x<i→T (f x) (f m):=fun x hx hxi=>(hc x m hx (by omega) (Nat.le_refl _) (by omega)).2 (by simpa using p3 x hx hxi)
 have q4:∀ x,i≤x→x<m→T (f m) (f x):=fun x hx hxb=>(hc x m (by omega) hxb (Nat.le_refl _) (by omega)).1 (by simpa using p4 x hx hxb)
 have g:=a5q f m (m - i) (by omega)
 rw [show m - (m - i)=i by omega] at g
 generalize dnF f m (m - i)=u at *
 have ga:∀ k,i<k→k≤m→u k=f (k - 1):=fun k h1 h2=>by rw [g,if_pos (by omega)]
 have gb:u i=f m:=by rw [g,if_neg (by omega),if_pos rfl]
 have gc:∀ k,(k<i∨m<k)→u k=f k:=fun k hk=>by rw [g,if_neg (by omega),if_neg (by omega)]
 refine⟨fun x y hx hxy hy=>?_,fun k hk=>gc k (by omega),?_⟩
 ·by_cases hxi:x<i
  ·rw [gc x (.inl hxi)]
   by_cases hyi:y<i
   ·rw [gc y (.inl hyi)]
    exact h1 _ _ hx hxy (by omega)
   ·by_cases hye:y=i
    ·rw [hye,gb]
     exact q3 _ hx hxi
    ·rw [ga y (by omega) (by omega)]
     by_cases hz:x=y - 1
     ·omega
     ·exact h1 _ _ hx (by omega) (by omega)
  ·by_cases hxe:x=i
   ·rw [hxe,gb,ga y (by omega) (by omega)]
    exact q4 _ (by omega) (by omega)
   ·rw [ga x (by omega) (by omega),ga y (by omega) (by omega)]
    exact h1 _ _ (by omega) (by omega) (by omega)
 ·have e1:lst u (i+1) (m+1)=lst f i m:=by
   have:=ako (f:=f) (g:=u) (a:=i+1) (c:=i) (n:=m - i) (fun k hk=>by rw [ga _ (by omega) (by omega)];congr 1;omega)
   rw [show i+1+(m - i)=m+1 by omega,show i+(m - i)=m by omega] at this
   exact this
  rw [abd u (show a≤i by omega) (show i≤m+1 by omega),abd u (show i≤i+1 by omega) (show i+1≤m+1 by omega),agy,gb,e1,ae4 (fun k _ h2=>gc k (.inl h2)),abd f (show a≤m by omega) (show m≤m+1 by omega),agy,abd f p1 p2,List.append_assoc]
  exact List.perm_append_comm.append_left _
theorem bgy{n:Nat}(ih:∀ (f:Nat→α) (a m b:Nat),a<m→m<b→b - a≤n→Srt T f a m→Srt T f m b→Cmp lt T f a m b→Mrg T f (symF lt n f a m b) a b){g:Nat→α}{a s d:Nat}(h1:a≤s)(h2:s≤d)(hn:d - a≤n)(hs1:Srt T g a s)(hs2:Srt T g s d)(hc:Cmp lt T g a s d):Mrg T g (if a<s∧s<d then symF lt n g a s d else g) a d:=by
 split
 ·rename_i h
  exact ih g a s d h.1 h.2 hn hs1 hs2 hc
 ·rename_i h
  refine⟨fun i j hi hij hj=>?_,fun _ _=>rfl,List.Perm.refl _⟩
  by_cases hh:a<s
  ·exact hs1 i j hi hij (by omega)
  ·exact hs2 i j (by omega) hij hj
theorem bqs:∀ (n:Nat) (f:Nat→α) (a m b:Nat),a<m→m<b→b - a≤n→Srt T f a m→Srt T f m b→Cmp lt T f a m b→Mrg T f (symF lt n f a m b) a b
 | 0,f,a,m,b,h1,h2,h3,_,_,_=>by omega
 | n+1,f,a,m,b,h1,h2,h3,s1,s2,hc=>by
  show Mrg T f (if m - a=1 then _ else if b - m=1 then _ else _) a b
  by_cases c1:m - a=1
  ·rw [if_pos c1]
   exact bul irr tr (by omega) h2 s2 hc
  rw [if_neg c1]
  by_cases c2:b - m=1
  ·rw [if_pos c2]
   exact bom irr tr h1 (by omega) s1 hc
  rw [if_neg c2]
  dsimp only
  generalize hd:(a+b) / 2=d
  generalize hs0:(if d<m then d+m - b else a)=s0
  generalize hr0:(if d<m then d else m)=r0
  have k1:a≤s0∧s0≤r0∧r0≤m∧r0≤d:=by
   subst hs0
   subst hr0
   split<;>omega
  have k2:∀ c,s0≤c→c<r0→m≤d+m - 1 - c∧d+m - 1 - c<b:=fun c hc1 hc2=>by
   subst hs0
   subst hr0
   split at hc1<;>split at hc2<;>omega
  obtain⟨p1,p2,p3,p4⟩:=a5a (p:=fun c=>!lt (f (d+m - 1 - c)) (f c)) (lo:=s0) (hi:=r0) (fun x y hx hxy hy hp=>by
   have hp:lt (f (d+m - 1 - y)) (f y)=false:=by simpa using hp
   have ky:=k2 y (by omega) hy
   have kx:=k2 x hx (by omega)
   have hy':=(hc y (d+m - 1 - y) (by omega) (by omega) ky.1 ky.2).2 hp
   cases hq:lt (f (d+m - 1 - x)) (f x) with
   | false=>rfl
   | true =>
    have hx':=(hc x (d+m - 1 - x) (by omega) (by omega) kx.1 kx.2).1 hq
    have t1:=tr _ _ _ (s1 x y (by omega) hxy (by omega)) hy'
    have t2:=tr _ _ _ t1 (s2 (d+m - 1 - y) (d+m - 1 - x) ky.1 (by omega) kx.2)
    exact absurd (tr _ _ _ t2 hx') (irr _)) (r0 - s0) s0 r0 (Nat.le_refl _) k1.2.1 (Nat.le_refl _) (Nat.le_refl _) (fun x h1 h2=>by omega) (fun x h1 h2=>by omega)
  generalize bsF (fun c=>!lt (f (d+m - 1 - c)) (f c)) (r0 - s0) s0 r0=s at *
  generalize he:d+m - s=e
  have hse:s≤d∧s≤m∧a≤s∧m≤e∧d≤e∧e≤b:=by
   subst hs0
   subst hr0
   split at p1<;>split at p2<;>omega
  obtain⟨b1,b2,b3,b4,b5,b6⟩:=hse
  have x1:∀ i j,a≤i→i<s→e≤j→j<b→T (f i) (f j):=fun i j hi his hj hjb=>by
   have hs:s0<s:=by
    subst hs0
    split at p1
    ·rename_i hdm
     rw [if_pos hdm]
     omega
    ·rename_i hdm
     rw [if_neg hdm]
     omega
   have hp:=p3 (s - 1) (by omega) (by omega)
   have hp:lt (f (d+m - 1 - (s - 1))) (f (s - 1))=false:=by simpa using hp
   have kk:=k2 (s - 1) (by omega) (by omega)
   have t:=(hc (s - 1) (d+m - 1 - (s - 1)) (by omega) (by omega) kk.1 kk.2).2 hp
   have hee:d+m - 1 - (s - 1)=e:=by omega
   rw [hee] at t
   have t1:T (f i) (f e):=by
    by_cases hi':i=s - 1
    ·rw [hi'];exact t
    ·exact tr _ _ _ (s1 i (s - 1) hi (by omega) (by omega)) t
   by_cases hj':j=e
   ·rw [hj'];exact t1
   ·exact tr _ _ _ t1 (s2 e j (by omega) (by omega) hjb)
  have x2:∀ i j,s≤i→i<m→m≤j→j<e→T (f j) (f i):=fun i j hi him hj hje=>by
   have hs:s<r0:=by
    subst hr0
    split at p2
    ·rename_i hdm
     rw [if_pos hdm]
     omega
    ·rename_i hdm
     rw [if_neg hdm]
     omega
   have hp:=p4 s (Nat.le_refl _) hs
   have hp:lt (f (d+m - 1 - s)) (f s)=true:=by simpa using hp
   have kk:=k2 s p1 hs
   have t:=(hc s (d+m - 1 - s) (by omega) (by omega) kk.1 kk.2).1 hp
   have hee:d+m - 1 - s=e - 1:=by omega
   rw [hee] at t
   have t1:T (f j) (f s):=by
    by_cases hj':j=e - 1
    ·rw [hj'];exact t
    ·exact tr _ _ _ (s2 j (e - 1) hj (by omega) (by omega)) t
   by_cases hi':i=s
   ·rw [hi'];exact t1
   ·exact tr _ _ _ t1 (s1 s i (by omega) (by omega) him)
  have g:=bzf f (s:=s) (m:=m) (e:=e) (d:=d) b2 b4 (by omega)
  generalize rtF f s m e=u at *
  have g1:∀ k,s≤k→k<d→u k=f (k - s+m):=fun k q1 q2=>by rw [g,if_pos ⟨q1,q2⟩]
  have g2:∀ k,d≤k→k<e→u k=f (k - d+s):=fun k q1 q2=>by rw [g,if_neg (by omega),if_pos ⟨q1,q2⟩]
  have g3:∀ k,(k<s∨e≤k)→u k=f k:=fun k hk=>by rw [g,if_neg (by omega),if_neg (by omega)]
  have ih:=bqs n
  have hl:=bgy (lt:=lt) irr tr ih (g:=u) (a:=a) (s:=s) (d:=d) b3 b1 (by omega)
   (fun i j hi hij hj=>by rw [g3 i (.inl (by omega)),g3 j (.inl hj)];exact s1 i j hi hij (by omega))
   (fun i j hi hij hj=>by rw [g1 i hi (by omega),g1 j (by omega) hj];exact s2 _ _ (by omega) (by omega) (by omega))
   (fun i j hi his hj hjd=>by rw [g3 i (.inl his),g1 j hj hjd];exact hc i _ hi (by omega) (by omega) (by omega))
  generalize (if a<s∧s<d then symF lt n u a s d else u)=v at *
  have hr:=bgy (lt:=lt) irr tr ih (g:=v) (a:=d) (s:=e) (d:=b) b5 b6 (by omega)
   (fun i j hi hij hj=>by rw [hl.out i (.inr hi),hl.out j (.inr (by omega)),g2 i hi (by omega),g2 j (by omega) hj];exact s1 _ _ (by omega) (by omega) (by omega))
   (fun i j hi hij hj=>by rw [hl.out i (.inr (by omega)),hl.out j (.inr (by omega)),g3 i (.inr hi),g3 j (.inr (by omega))];exact s2 i j (by omega) hij hj)
   (fun i j hi his hj hjd=>by rw [hl.out i (.inr hi),hl.out j (.inr (by omega)),g2 i hi his,g3 j (.inr hj)];exact hc _ j (by omega) (by omega) (by omega) hjd)
  generalize (if d<e∧e<b then symF lt n v d e b else v)=z at *
  have cross:∀ i j,a≤i→i<d→d≤j→j<b→T (u i) (u j):=fun i j hi hid hj hjb=>by
   by_cases hi':i<s
   ·rw [g3 i (.inl hi')]
    by_cases hj':j<e
    ·rw [g2 j hj hj']
     exact s1 i _ hi (by omega) (by omega)
    ·rw [g3 j (.inr (by omega))]
     exact x1 i j hi hi' (by omega) hjb
   ·rw [g1 i (by omega) hid]
    by_cases hj':j<e
    ·rw [g2 j hj hj']
     exact x2 _ _ (by omega) (by omega) (by omega) (by omega)
    ·rw [g3 j (.inr (by omega))]
     exact s2 _ j (by omega) (by omega) hjb
  refine⟨fun i j hi hij hj=>?_,fun k hk=>?_,?_⟩
  ·by_cases hjd:j<d
   ·rw [hr.out i (.inl (by omega)),hr.out j (.inl hjd)]
    exact hl.srt i j hi hij hjd
   ·by_cases hid:i<d
    ·obtain⟨i',w1,w2,w3⟩:=hl.mem hi hid
     obtain⟨j',w4,w5,w6⟩:=hr.mem (show d≤j by omega) hj
     rw [hr.out i (.inl hid),← w3,← w6,hl.out j' (.inr w4)]
     exact cross i' j' w1 w2 w4 w5
    ·exact hr.srt i j (by omega) hij hj
  ·rw [hr.out k (by omega),hl.out k (by omega),g3 k (by omega)]
  ·have e1:lst u s d=lst f m e:=by
    have:=ako (f:=f) (g:=u) (a:=s) (c:=m) (n:=d - s) (fun k hk=>by rw [g1 _ (by omega) (by omega)];congr 1;omega)
    rw [show s+(d - s)=d by omega,show m+(d - s)=e by omega] at this
    exact this
   have e2:lst u d e=lst f s m:=by
    have:=ako (f:=f) (g:=u) (a:=d) (c:=s) (n:=e - d) (fun k hk=>by rw [g2 _ (by omega) (by omega)];congr 1;omega)
    rw [show d+(e - d)=e by omega,show s+(e - d)=m by omega] at this
    exact this
   have e3:lst u a d=lst f a s++lst f m e:=by
    rw [abd u b3 b1,e1,ae4 (fun k _ h2=>g3 k (.inl h2))]
   have e4:lst u d b=lst f s m++lst f e b:=by
    rw [abd u b5 b6,e2,ae4 (fun k h2 _=>g3 k (.inr h2))]
   have e5:lst z a d=lst v a d:=ae4 fun k _ h2=>hr.out k (.inl h2)
   have e6:lst v d b=lst u d b:=ae4 fun k h2 _=>hl.out k (.inr h2)
   rw [abd z (show a≤d by omega) (show d≤b by omega),e5]
   refine(hl.perm.append (hr.perm.trans (by rw [e6]))).trans ?_
   rw [e3,e4,abd f b3 (show s≤b by omega),abd f b2 (show m≤b by omega),abd f b4 b6,List.append_assoc]
   refine List.Perm.append_left _ ?_
   rw [← List.append_assoc,← List.append_assoc]
   exact List.perm_append_comm.append_right _
end
end Go.Stb
namespace Go.Proofs.Ytlbbkmcegbeckaa
open Go.Sx Go.Proofs Go.RowKit Go.Lib Go.Stb
structure R5 where
 z0:Int
 z1:Int
 z2:Int
 a3:Option Addr
 n3:Nat
 c3:Nat
 a4:Option Addr
 n4:Nat
 c4:Nat
def R5.cells(r:R5):List Value:=[.int .i64 r.z0,.int .i64 r.z1,.int .i64 r.z2,.slice r.a3 r.n3 r.c3,.slice r.a4 r.n4 r.c4]
structure RowW (w0:World) (blk off n:Nat) (R:Nat→R5) (g:Nat→Nat) (wr:World):Prop where
 os:wr.os=w0.os
 tape:wr.tape=w0.tape
 output:wr.output=w0.output
 size:w0.heap.size≤wr.heap.size
 other:∀ k,k<w0.heap.size→k≠blk→wr.heap[k]? = w0.heap[k]?
 lt:blk<w0.heap.size
 obj:∃ arr arr0 t fr,wr.heap[blk]? = some (.cells arr t fr)∧w0.heap[blk]? = some (.cells arr0 t fr)∧UF fr arr.size∧off+n*5≤arr.size∧arr.size=arr0.size∧(∀ j,(j<off∨off+n*5≤j)→arr[j]? = arr0[j]?)∧∀ k,k<n→∀ j,j<5→arr[off+k*5+j]? = (R (g k)).cells[j]?
 inr:∀ k,k<n→g k<n
section
variable {w0:World} {blk off n:Nat} {R:Nat→R5} {g:Nat→Nat} {wr w':World}
theorem RowW.below(h:RowW w0 blk off n R g wr)(hb:Below wr.heap.size wr w'):RowW w0 blk off n R g w':=by
 have hl:blk<wr.heap.size:=Nat.lt_of_lt_of_le h.lt h.size
 obtain⟨arr,arr0,t,fr,h1,h2⟩:=h.obj
 exact⟨hb.os.trans h.os,hb.tape.trans h.tape,hb.output.trans h.output,Nat.le_trans h.size hb.size,fun k hk hn=>(hb.block k (Nat.lt_of_lt_of_le hk h.size)).trans (h.other k hk hn),h.lt,⟨arr,arr0,t,fr,(hb.block blk hl).trans h1,h2⟩,h.inr⟩
theorem RowW.keep(h:RowW w0 blk off n R g wr)(hk:Keep wr w'):RowW w0 blk off n R g w':=h.below (aaz hk)
theorem RowW.cells(h:RowW w0 blk off n R g wr){k:Nat}(hk:k<n):wr.cell? ⟨blk,off+k*5,none⟩=some (.int .i64 (R (g k)).z0)∧wr.cell? ⟨blk,off+k*5+1,none⟩=some (.int .i64 (R (g k)).z1)∧wr.cell? ⟨blk,off+k*5+2,none⟩=some (.int .i64 (R (g k)).z2)∧wr.cell? ⟨blk,off+k*5+3,none⟩=some (.slice (R (g k)).a3 (R (g k)).n3 (R (g k)).c3)∧wr.cell? ⟨blk,off+k*5+4,none⟩=some (.slice (R (g k)).a4 (R (g k)).n4 (R (g k)).c4):=by
 haveI:Sg:=sg0
 obtain⟨arr,arr0,t,fr,h1,_,_,_,_,_,h7⟩:=h.obj
 exact⟨by rw [cell?_of h1];exact h7 k hk 0 (by omega),by rw [cell?_of h1];exact h7 k hk 1 (by omega),by rw [cell?_of h1];exact h7 k hk 2 (by omega),by rw [cell?_of h1];exact h7 k hk 3 (by omega),by rw [cell?_of h1];exact h7 k hk 4 (by omega)⟩
theorem RowW.thaw(h:RowW w0 blk off n R g wr){k j:Nat}(hk:k<n)(hj:j<5):wr.frozen? ⟨blk,off+k*5+j,none⟩=false:=by
 obtain⟨arr,arr0,t,fr,h1,_,h3,h4,_,_,_⟩:=h.obj
 have:=Nat.mul_le_mul_right 5 (show k+1≤n from hk)
 exact ayj h1 h3 (by omega)
theorem RowW.put(h:RowW w0 blk off n R g wr){i x:Nat}(hi:i<n)(hx:x<n):RowW w0 blk off n R (fun k=>if k=i then x else g k) (wr.setCells blk (off+i*5) (R x).cells):=by
 obtain⟨arr,arr0,t,fr,h1,h2,h3,h4,h5,h6,h7⟩:=h.obj
 have hi5:=Nat.mul_le_mul_right 5 (show i+1≤n from hi)
 obtain⟨arr',g1,g2,g3,g4⟩:=ab5 (R x).cells (off+i*5) wr arr h1
 have hb:=below_setCells (lo:=0) (w:=wr) blk (Nat.zero_le _) (R x).cells (off+i*5) wr (Below.refl 0 wr)
 have hl:(R x).cells.length=5:=rfl
 rw [hl] at g4
 refine⟨hb.os.trans h.os,hb.tape.trans h.tape,hb.output.trans h.output,by rw [size_setCells];exact h.size,fun k hk hn=>(abo hn _ _ _).trans (h.other k hk hn),h.lt,⟨arr',arr0,t,fr,g1,h2,by rw [g2];exact h3,by rw [g2];exact h4,by rw [g2];exact h5,fun j hj=>(g4 j (by omega)).trans (h6 j hj),fun k hk j hj=>?_⟩,fun k hk=>?_⟩
 ·have hk5:=Nat.mul_le_mul_right 5 (show k+1≤n from hk)
  by_cases hki:k=i
  ·subst hki
   rw [if_pos rfl,g3 j _ (Gl (by rw [hl];exact hj)) (by omega),Gl (by rw [hl];exact hj)]
  ·rw [if_neg hki,← h7 k hk j hj]
   refine g4 _ ?_
   rcases Nat.lt_or_gt_of_ne hki with hlt | hlt
   ·have:=Nat.mul_le_mul_right 5 (show k+1≤i from hlt)
    omega
   ·have:=Nat.mul_le_mul_right 5 (show i+1≤k from hlt)
    omega
 ·show(if k=i then x else g k)<n
  split
  ·exact hx
  ·exact h.inr k hk
theorem RowW.congr(h:RowW w0 blk off n R g wr){g':Nat→Nat}(he:∀ k,k<n→g' k=g k):RowW w0 blk off n R g' wr:=by
 obtain⟨arr,arr0,t,fr,h1,h2,h3,h4,h5,h6,h7⟩:=h.obj
 exact⟨h.os,h.tape,h.output,h.size,h.other,h.lt,⟨arr,arr0,t,fr,h1,h2,h3,h4,h5,h6,fun k hk j hj=>by rw [he k hk];exact h7 k hk j hj⟩,fun k hk=>by rw [he k hk];exact h.inr k hk⟩
theorem RowW.swap(h:RowW w0 blk off n R g wr){i j:Nat}(hi:i<n)(hj:j<n):RowW w0 blk off n R (swF g i j) ((wr.setCells blk (off+i*5) (R (g j)).cells).setCells blk (off+j*5) (R (g i)).cells):=by
 refine((h.put hi (h.inr j hj)).put hj (h.inr i hi)).congr fun k hk=>?_
 unfold swF
 by_cases h1:k=i
 ·subst h1
  by_cases h2:k=j
  ·subst h2;simp
  ·simp [h2]
 ·by_cases h2:k=j
  ·subst h2;simp [h1]
  ·simp [h1,h2]
theorem RowW.drew(h:RowW w0 blk off n R g wr):RowW w0 blk off n R g wr.drew:=⟨h.os,h.tape,h.output,h.size,h.other,h.lt,h.obj,h.inr⟩
theorem RowW.swapC(h:RowW w0 blk off n R g wr){i j:Nat}(hi:i<n)(hj:j<n):RowW w0 blk off n R (swF g i j) (((((((((((wr.setCell ⟨blk,off+i*5,none⟩ (.int .i64 (R (g j)).z0)).setCell ⟨blk,off+i*5+1,none⟩ (.int .i64 (R (g j)).z1)).setCell ⟨blk,off+i*5+2,none⟩ (.int .i64 (R (g j)).z2)).setCell ⟨blk,off+i*5+3,none⟩ (.slice (R (g j)).a3 (R (g j)).n3 (R (g j)).c3)).setCell ⟨blk,off+i*5+4,none⟩ (.slice (R (g j)).a4 (R (g j)).n4 (R (g j)).c4)).setCell ⟨blk,off+j*5,none⟩ (.int .i64 (R (g i)).z0)).setCell ⟨blk,off+j*5+1,none⟩ (.int .i64 (R (g i)).z1)).setCell ⟨blk,off+j*5+2,none⟩ (.int .i64 (R (g i)).z2)).setCell ⟨blk,off+j*5+3,none⟩ (.slice (R (g i)).a3 (R (g i)).n3 (R (g i)).c3)).setCell ⟨blk,off+j*5+4,none⟩ (.slice (R (g i)).a4 (R (g i)).n4 (R (g i)).c4)).drew):=(h.swap hi hj).drew
end
set_option maxHeartbeats 4000000 in
theorem ahf{w0 wr:World}{blk off n cap a b m:Nat}{R:Nat→R5}{g:Nat→Nat}{c:Value}(h:RowW w0 blk off n R g wr)(hab:a+m≤b)(hb:b+m≤n)(hn:n≤1000000):Calls Try.prog 161 #[.slice (some ⟨blk,off,none⟩) n cap,.int .i64 a,.int .i64 b,.int .i64 m,c] wr fun e w'=>e=.returned (.tuple #[])∧RowW w0 blk off n R (swR g a b m) w':=by
 have HH:=hidj h
 clear h
 go_enter Try.func161,Try.ntmps161
 go_wp2_with fail
 go_loopw [10] (fun q w=>∃ k:Nat,k≤m∧q=.int .i64 (k:Int)∧Hid (RowW w0 blk off n R (swR g a b k) w)) (fun q _=>m - (RowKit.intOf q).toNat)
 case atStart=>exact⟨0,Nat.zero_le _,rfl,HH⟩
 case round =>
  obtain⟨k,hk,rfl,HW⟩:=hrel
  by_cases hkm:k<m
  ·obtain⟨x0,x1,x2,x3,x4⟩:=HW.out.cells (show a+k<n by omega)
   obtain⟨y0,y1,y2,y3,y4⟩:=HW.out.cells (show b+k<n by omega)
   have p0:=HW.out.thaw (j:=0) (show a+k<n by omega) (by omega)
   have p1:=HW.out.thaw (j:=1) (show a+k<n by omega) (by omega)
   have p2:=HW.out.thaw (j:=2) (show a+k<n by omega) (by omega)
   have p3:=HW.out.thaw (j:=3) (show a+k<n by omega) (by omega)
   have p4:=HW.out.thaw (j:=4) (show a+k<n by omega) (by omega)
   have q0:=HW.out.thaw (j:=0) (show b+k<n by omega) (by omega)
   have q1:=HW.out.thaw (j:=1) (show b+k<n by omega) (by omega)
   have q2:=HW.out.thaw (j:=2) (show b+k<n by omega) (by omega)
   have q3:=HW.out.thaw (j:=3) (show b+k<n by omega) (by omega)
   have q4:=HW.out.thaw (j:=4) (show b+k<n by omega) (by omega)
   rw [Nat.add_zero] at p0 q0
   have i0:IntKind.i64.wrap ((a:Int)+(k:Int))=((a+k:Nat):Int):=by rw [IntKind.wrap_i64];omega
   have i1:IntKind.i64.wrap ((b:Int)+(k:Int))=((b+k:Nat):Int):=by rw [IntKind.wrap_i64];omega
   have i2:IntKind.i64.wrap ((k:Int)+1)=(k:Int)+1:=by rw [IntKind.wrap_i64];omega
   have j0:(0:Int)≤((a+k:Nat):Int):=Int.natCast_nonneg _
   have j1:((a+k:Nat):Int)<(n:Int):=by omega
   have j2:(0:Int)≤((b+k:Nat):Int):=Int.natCast_nonneg _
   have j3:((b+k:Nat):Int)<(n:Int):=by omega
   have j4:(k:Int)<(m:Int):=by omega
   go_wp2_with fail
   go_region
   have HW2:=hidj (HW.out.swapC (show a+k<n by omega) (show b+k<n by omega))
   go_wp2_with fail
   go_roundw
   case rel=>exact⟨k+1,by omega,by go_num,HW2⟩
   case measure=>simp [RowKit.intOf];omega
  ·have hke:k=m:=by omega
   subst hke
   go_wp2_with fail
   go_returns
   exact⟨rfl,HW.out⟩
theorem by9{f:Nat→Nat}{m i j c:Nat}(hj:j<i):rotF (c+1) f m i j=rotF c (swR f (m - i) m j) m (i - j) j:=by
 show(if i=j then _ else _)=_
 rw [if_neg (by omega),if_pos hj]
theorem by8{f:Nat→Nat}{m i j c:Nat}(hj:i<j):rotF (c+1) f m i j=rotF c (swR f (m - i) (m+j - i) i) m i (j - i):=by
 show(if i=j then _ else _)=_
 rw [if_neg (by omega),if_neg (by omega)]
theorem by7{f:Nat→Nat}{m i c:Nat}:rotF (c+1) f m i i=swR f (m - i) m i:=by
 show(if i=i then _ else _)=_
 rw [if_pos rfl]
structure RotI (w0:World) (blk off n:Nat) (R:Nat→R5) (fin:Nat→Nat) (m i j:Nat) (wr:World):Prop where
 row:∃ g c,RowW w0 blk off n R g wr∧i+j≤c∧rotF c g m i j=fin
 i0:0<i
 j0:0<j
 im:i≤m
 jn:m+j≤n
set_option maxHeartbeats 4000000 in
theorem a7n{w0 wr:World}{blk off n cap a m b:Nat}{R:Nat→R5}{g:Nat→Nat}{c:Value}(h:RowW w0 blk off n R g wr)(ham:a<m)(hmb:m<b)(hb:b≤n)(hn:n≤1000000):Calls Try.prog 153 #[.slice (some ⟨blk,off,none⟩) n cap,.int .i64 a,.int .i64 m,.int .i64 b,c] wr fun e w'=>e=.returned (.tuple #[])∧RowW w0 blk off n R (rtF g a m b) w':=by
 have HH:=hidj h
 clear h
 have e0:rtF g a m b=rotF (b - a) g m (m - a) (b - m):=by
  unfold rtF
  rw [if_pos ⟨ham,hmb⟩]
 rw [e0]
 generalize hfin:rotF (b - a) g m (m - a) (b - m)=fin
 have u0:IntKind.i64.wrap ((m:Int) - (a:Int))=((m - a:Nat):Int):=by rw [IntKind.wrap_i64];omega
 have u1:IntKind.i64.wrap ((b:Int) - (m:Int))=((b - m:Nat):Int):=by rw [IntKind.wrap_i64];omega
 go_enter Try.func153,Try.ntmps153
 go_wp2_with fail
 go_loopw [10,11] (fun p q w=>∃ i j:Nat,p=.int .i64 (i:Int)∧q=.int .i64 (j:Int)∧Hid (RotI w0 blk off n R fin m i j w)) (fun p q _=>(RowKit.intOf p).toNat+(RowKit.intOf q).toNat)
 case atStart=>exact⟨m - a,b - m,rfl,rfl,hidj ⟨⟨g,b - a,HH.out,by omega,hfin⟩,by omega,by omega,by omega,by omega⟩⟩
 case round =>
  obtain⟨i,j,rfl,rfl,HW⟩:=hrel
  have i0:=HW.out.i0
  have j0:=HW.out.j0
  have im:=HW.out.im
  have jn:=HW.out.jn
  have v0:IntKind.i64.wrap ((m:Int) - (i:Int))=((m - i:Nat):Int):=by rw [IntKind.wrap_i64];omega
  have v1:IntKind.i64.wrap ((m:Int)+(j:Int))=(m:Int)+(j:Int):=by rw [IntKind.wrap_i64];omega
  have v2:IntKind.i64.wrap ((m:Int)+(j:Int) - (i:Int))=((m+j - i:Nat):Int):=by rw [IntKind.wrap_i64];omega
  by_cases hij:i=j
  ·subst hij
   obtain⟨g',cc,hr,hc,he⟩:=HW.out.row
   have hcall:=ahf (c:=c) (cap:=cap) (a:=m - i) (b:=m) (m:=i) hr (by omega) (by omega) hn
   have hcc:cc=(cc - 1)+1:=by omega
   rw [hcc,by7] at he
   rw [he] at hcall
   clear hr he hc HW hcc
   go_wp2_with (go_at_call 161;refine hcall.mono ?_;rintro e w' ⟨rfl,hw'⟩;skip)
   go_returns
   exact⟨rfl,hw'⟩
  ·by_cases hji:j<i
   ·have t2:¬ ((i:Int)=(j:Int)):=by omega
    have t0:(j:Int)<(i:Int):=by omega
    have v3:IntKind.i64.wrap ((i:Int) - (j:Int))=((i - j:Nat):Int):=by rw [IntKind.wrap_i64];omega
    obtain⟨g',cc,hr,hc,he⟩:=HW.out.row
    have hcall:=ahf (c:=c) (cap:=cap) (a:=m - i) (b:=m) (m:=j) hr (by omega) (by omega) hn
    have hcc:cc=(cc - 1)+1:=by omega
    rw [hcc,by9 hji] at he
    have hnext:∀ w',RowW w0 blk off n R (swR g' (m - i) m j) w'→Hid (RotI w0 blk off n R fin m (i - j) j w'):=fun w' hw'=>hidj ⟨⟨_,cc - 1,hw',by omega,he⟩,by omega,by omega,by omega,by omega⟩
    clear hr he hc HW hcc
    go_wp2_with (go_at_call 161;refine hcall.mono ?_;rintro e w' ⟨rfl,hw'⟩;skip)
    go_roundw
    case rel=>exact⟨i - j,j,rfl,rfl,hnext _ hw'⟩
    case measure=>simp [RowKit.intOf];omega
   ·have t2:¬ ((i:Int)=(j:Int)):=by omega
    have t0:(i:Int)<(j:Int):=by omega
    have t1:¬ (j:Int)<(i:Int):=by omega
    have v3:IntKind.i64.wrap ((j:Int) - (i:Int))=((j - i:Nat):Int):=by rw [IntKind.wrap_i64];omega
    obtain⟨g',cc,hr,hc,he⟩:=HW.out.row
    have hcall:=ahf (c:=c) (cap:=cap) (a:=m - i) (b:=m+j - i) (m:=i) hr (by omega) (by omega) hn
    have hcc:cc=(cc - 1)+1:=by omega
    rw [hcc,by8 (show i<j by omega)] at he
    have hnext:∀ w',RowW w0 blk off n R (swR g' (m - i) (m+j - i) i) w'→Hid (RotI w0 blk off n R fin m i (j - i) w'):=fun w' hw'=>hidj ⟨⟨_,cc - 1,hw',by omega,he⟩,by omega,by omega,by omega,by omega⟩
    clear hr he hc HW hcc
    go_wp2_with (go_at_call 161;refine hcall.mono ?_;rintro e w' ⟨rfl,hw'⟩;skip)
    go_roundw
    case rel=>exact⟨i,j - i,rfl,rfl,hnext _ hw'⟩
    case measure=>simp [RowKit.intOf];omega
end Go.Proofs.Ytlbbkmcegbeckaa
