/-
  The four levels behind the change in Replace. Conditions: none.
-/
import Derived.Test.YtlbbkmcegbeckaaLcD
import Derived.Test.YtlbbkmcegbeckaaLdC
import Derived.Test.YtlbbkmcegbeckaaLdF
import Derived.Test.YtlbbkmcegbeckaaSbX
set_option linter.all false
set_option maxRecDepth 100000
noncomputable section
namespace Go.Proofs.Ytlbbkmcegbeckaa
open Go.Sx Go.Proofs
theorem bqa(f t:CD)(r:List CD):ovl f t (aa9 r)=ovl f t r:=rfl
theorem bxu{f f' t t':CD}(hf:byts f=byts f')(ht:byts t=byts t'):ovl f t=ovl f' t':=by
 funext r
 unfold ovl cmpC
 rw [hf,ht]
theorem auo(l:CD):ace (ab2 l)=(ace l).map fun x=>x.map aa9:=by
 unfold ace
 rw [apx,apx,apx,apx]
 rfl
theorem agw(ls:List (List (List CD)))(n:Nat):(ls.map fun x=>x.map aa9).getD n []=(ls.getD n []).map aa9:=by
 rw [Gd,List.getElem?_map,Gd]
 cases ls[n]?<;>rfl
theorem au8(l:CD)(n:Int):chOK (ab2 l) n=chOK l n:=by
 unfold chOK
 rw [bsm,auo,agw,List.isEmpty_map]
theorem bpj(nx:List (List CD))(r:List CD):cntR (nx.map aa9) (aa9 r)=cntR nx r:=by
 unfold cntR
 rw [List.filter_map,List.length_map]
 congr 2
theorem a1d(lv nx:List (List CD)):∀ i,0<i→abp lv nx i<i
 | 0,h=>absurd h (Nat.lt_irrefl _)
 | 1,_=>by
  show(if _ then 0 else 0)<1
  split<;>decide
 | i+2,_=>by
  have:=a1d lv nx (i+1) (by omega)
  show(if cntR nx (lv.getD (i+1) [])<cntR nx (lv.getD (abp lv nx (i+1)) []) then i+1 else abp lv nx (i+1))<i+2
  split
  ·exact Nat.lt_succ_self _
  ·omega
theorem bft(lv nx:List (List CD)):∀ i,i≤lv.length→abp (lv.map aa9) (nx.map aa9) i=abp lv nx i
 | 0,_=>rfl
 | i+1,h=>by
  have ih:=bft lv nx i (by omega)
  show(if cntR (nx.map aa9) ((lv.map aa9).getD i [])<cntR (nx.map aa9) ((lv.map aa9).getD (abp (lv.map aa9) (nx.map aa9) i) []) then i else abp (lv.map aa9) (nx.map aa9) i)=if cntR nx (lv.getD i [])<cntR nx (lv.getD (abp lv nx i) []) then i else abp lv nx i
  have hb:abp lv nx i<lv.length:=by
   by_cases h0:0<i
   ·have:=a1d lv nx i h0
    omega
   ·have:i=0:=by omega
    subst this
    show 0<lv.length
    omega
  rw [ih,getD_map (by omega),getD_map hb,bpj,bpj]
theorem a9r(ls:List (List (List CD)))(lv:Nat)(hne:(ls.getD lv []).isEmpty=false):aek (ls.map fun x=>x.map aa9) lv=(aek ls lv).map aa9:=by
 unfold aek
 split
 ·exact agw ls 0
 ·have hp:0<(ls.getD lv []).length:=by
   cases h:ls.getD lv [] with
   | nil=>rw [h] at hne;cases hne
   | cons a r=>exact Nat.succ_pos _
  rw [agw,agw,List.length_map,bft _ _ _ (Rl _),getD_map (a1d _ _ _ hp)]
  rfl
theorem bbv(ls:List (List (List CD)))(lv:Nat)(hne:(ls.getD lv []).isEmpty=false):∀ r∈aek ls lv,r∈ls.getD lv []:=by
 intro r hr
 unfold aek at hr
 split at hr
 ·rename_i h
  rw [h]
  exact hr
 ·have hp:0<(ls.getD lv []).length:=by
   cases h:ls.getD lv [] with
   | nil=>rw [h] at hne;cases hne
   | cons a r=>exact Nat.succ_pos _
  have hb:=a1d (ls.getD lv []) (ls.getD (lv+1) []) _ hp
  rw [Mg] at hr
  rw [hr]
  generalize abp (ls.getD lv []) (ls.getD (lv+1) []) (ls.getD lv []).length=b at hb ⊢
  generalize ls.getD lv []=m at hb ⊢
  rw [Gd,Gl hb]
  exact List.getElem_mem hb
theorem azn:∀ (l:List (List CD)) (m m':CD),byts m=byts m'→byts ((l.map aa9).foldl (fun m r=>if cmpC (at' r 3) m<0 then at' r 3 else m) m)=byts (l.foldl (fun m r=>if cmpC (at' r 3) m<0 then at' r 3 else m) m')
 | [],_,_,h=>h
 | r::l,m,m',h=>by
  rw [List.map_cons,List.foldl_cons,List.foldl_cons]
  refine azn l _ _ ?_
  have e:cmpC (at' (aa9 r) 3) m=cmpC (at' r 3) m':=by
   unfold cmpC
   rw [h]
   rfl
  rw [e]
  split
  ·rfl
  ·exact h
theorem a6e:∀ (l:List (List CD)) (m m':CD),byts m=byts m'→byts ((l.map aa9).foldl (fun m r=>if 0<cmpC (at' r 4) m then at' r 4 else m) m)=byts (l.foldl (fun m r=>if 0<cmpC (at' r 4) m then at' r 4 else m) m')
 | [],_,_,h=>h
 | r::l,m,m',h=>by
  rw [List.map_cons,List.foldl_cons,List.foldl_cons]
  refine a6e l _ _ ?_
  have e:cmpC (at' (aa9 r) 4) m=cmpC (at' r 4) m':=by
   unfold cmpC
   rw [h]
   rfl
  rw [e]
  split
  ·rfl
  ·exact h
theorem bbs(l:List (List CD))(j:Nat)(hj:j=3∨j=4):byts (at' ((l.map aa9).getD 0 []) j)=byts (at' (l.getD 0 []) j):=by
 cases l with
 | nil=>rfl
 | cons r l=>rcases hj with rfl | rfl<;>rfl
theorem bqo(l:List (List CD)):byts (spF (l.map aa9) (l.map aa9).length)=byts (spF l l.length):=by
 unfold spF
 rw [List.take_length,List.take_length,← List.map_drop]
 exact azn _ _ _ (bbs l 3 (.inl rfl))
theorem bqp(l:List (List CD)):byts (spL (l.map aa9) (l.map aa9).length)=byts (spL l l.length):=by
 unfold spL
 rw [List.take_length,List.take_length,← List.map_drop]
 exact a6e _ _ _ (bbs l 4 (.inr rfl))
theorem bg6(ls:List (List (List CD)))(lv:Nat)(hne:(ls.getD lv []).isEmpty=false):afz (ls.map fun x=>x.map aa9) lv=(afz ls lv).map aa9:=by
 unfold afz
 rw [a9r ls lv hne,agw,bxu (bqo _) (bqp _),List.filter_map]
 rfl
theorem bbz(ls:List (List (List CD)))(lv:Nat):∀ r∈afz ls lv,r∈ls.getD (lv+1) []:=fun r hr=>(List.mem_filter.1 hr).1
theorem a08{p:List CD→Bool}(hp:∀ r,p (aa9 r)=p r)(l:List (List CD)):(l.map aa9).all p=l.all p:=by
 rw [List.all_map]
 congr 1
 funext r
 exact hp r
theorem blq{f f' t t':CD}(hf:byts f=byts f')(ht:byts t=byts t')(lv:Nat)(ls:List (List (List CD)))(n i:Nat):afy f t lv (ls.map fun x=>x.map aa9) n i=afy f' t' lv ls n i:=by
 unfold afy
 rw [bxu hf ht]
 have e:∀ j,((ls.map fun x=>x.map aa9).getD j []).all (fun r=>!ovl f' t' r)=(ls.getD j []).all fun r=>!ovl f' t' r:=fun j=>by
  rw [agw,a08 (fun r=>by rw [bqa])]
 congr 1
 ·congr 1
  funext j
  rw [e]
 ·rw [agw,← List.map_take,a08 (fun r=>by rw [bqa])]
theorem brj(ls:List (List (List CD)))(lv:Nat)(hne:(ls.getD lv []).isEmpty=false):at1 (ls.map fun x=>x.map aa9) lv=at1 ls lv:=by
 unfold at1
 rw [a9r ls lv hne,bg6 ls lv hne,← List.map_append]
 exact blq (bqo _) (bqp _) lv ls 4 0
theorem akd{l:CD}{n:Int}(h:chOK l n=true):aam l=true∧0≤n∧n≤2∧((ace l).getD n.toNat []).isEmpty=false:=by
 unfold chOK at h
 simp only [Ba,Dt,Bool.not_eq_true'] at h
 exact⟨h.1.1.1,h.1.1.2,h.1.2,h.2⟩
theorem a5h(l:CD)(n:Int):(aew (ab2 l) n).rows=(aew l n).rows.map aa9:=by
 unfold aew
 rw [au8]
 by_cases h:chOK l n=true
 ·rw [if_pos h,if_pos h,auo]
  exact a9r _ _ (akd h).2.2.2
 ·rw [if_neg h,if_neg h]
  rfl
theorem a5i(l:CD)(n:Int):(aex (ab2 l) n).rows=(aex l n).rows.map aa9:=by
 unfold aex
 rw [au8]
 by_cases h:chOK l n=true
 ·rw [if_pos h,if_pos h,auo]
  exact bg6 _ _ (akd h).2.2.2
 ·rw [if_neg h,if_neg h]
  rfl
theorem bf6(l:CD)(n:Int):afx (ab2 l) n=afx l n:=by
 unfold afx
 rw [au8]
 by_cases h:chOK l n=true
 ·rw [h,auo,brj _ _ (akd h).2.2.2]
 ·rw [Bool.not_eq_true] at h
  rw [h]
  rfl
theorem a7q{l:CD}{n:Nat}:∀ r∈(ace l).getD n [],∃ m:Nat,m=n∧r∈(l.cell (m:Nat) 0).rows:=by
 intro r hr
 match n,hr with
 | 0,hr=>exact⟨0,rfl,hr⟩
 | 1,hr=>exact⟨1,rfl,hr⟩
 | 2,hr=>exact⟨2,rfl,hr⟩
 | 3,hr=>exact⟨3,rfl,hr⟩
 | k+4,hr=>cases hr
theorem azi{l:CD}{n:Int}:∀ r∈(aew l n).rows,aam l=true∧∃ m:Nat,r∈(l.cell (m:Nat) 0).rows:=by
 intro r hr
 unfold aew at hr
 by_cases h:chOK l n=true
 ·rw [if_pos h] at hr
  obtain⟨m,_,hm⟩:=a7q r (bbv _ _ (akd h).2.2.2 r hr)
  exact⟨(akd h).1,m,hm⟩
 ·rw [if_neg h] at hr
  cases hr
theorem azj{l:CD}{n:Int}:∀ r∈(aex l n).rows,aam l=true∧∃ m:Nat,r∈(l.cell (m:Nat) 0).rows:=by
 intro r hr
 unfold aex at hr
 by_cases h:chOK l n=true
 ·rw [if_pos h] at hr
  obtain⟨m,_,hm⟩:=a7q r (bbz _ _ r hr)
  exact⟨(akd h).1,m,hm⟩
 ·rw [if_neg h] at hr
  cases hr
theorem bj5{l:CD}(hT:Typ sLev l)(n:Int):afb (aew (ab2 l) n).rows (aew l n).rows=true:=by
 rw [a5h]
 exact alo fun r hr=>by
  obtain⟨_,m,hm⟩:=azi r hr
  exact al9 (a10 hT _ r hm)
theorem bj6{l:CD}(hT:Typ sLev l)(n:Int):afb (aex (ab2 l) n).rows (aex l n).rows=true:=by
 rw [a5i]
 exact alo fun r hr=>by
  obtain⟨_,m,hm⟩:=azj r hr
  exact al9 (a10 hT _ r hm)
theorem bej{l:CD}(hT:Typ sLev l)(n:Int):∀ r∈(aew l n).rows,keyed r:=fun r hr=>by
 obtain⟨ho,m,hm⟩:=azi r hr
 exact aiu hT ho m r hm
theorem ben{l:CD}(hT:Typ sLev l)(n:Int):∀ r∈(aex l n).rows,keyed r:=fun r hr=>by
 obtain⟨ho,m,hm⟩:=azj r hr
 exact aiu hT ho m r hm
theorem bz0(g:List (List CD)):woR (g.map aa9)=woR g:=by
 funext r
 unfold woR
 rw [List.any_map]
 rfl
theorem bpy(l:List (List CD)):metR (l.map aa9)=metR l:=by
 funext s
 unfold metR
 rw [List.any_map]
 rfl
theorem bq0(f l:List (List CD)):(f.map aa9).all (metR l)=f.all (metR l):=a08 (p:=metR l) (fun r=>rfl) f
theorem bgr(g rows:List (List CD)):(rows.map aa9).filter (woR g)=(rows.filter (woR g)).map aa9:=by
 rw [List.filter_map]
 rfl
theorem bup(rows:List (List CD))(r:List CD):ac2 (rows.map aa9) (aa9 r)=(ac2 rows r).map aa9:=by
 unfold ac2
 rw [List.takeWhile_map,List.dropWhile_map,List.map_append,List.map_cons]
 rfl
theorem bd3:∀ (f rows:List (List CD)),(f.map aa9).foldl ac2 (rows.map aa9)=(f.foldl ac2 rows).map aa9
 | [],_=>rfl
 | r::f,rows=>by
  rw [List.map_cons,List.foldl_cons,List.foldl_cons,bup,bd3 f]
theorem bo0{rows:List (List CD)}{r x:List CD}(h:x∈ac2 rows r):x=r∨x∈rows:=by
 unfold ac2 at h
 rcases List.mem_append.1 h with h | h
 ·exact .inr ((List.takeWhile_prefix _).subset h)
 ·rcases Mn.1 h with h | h
  ·exact .inl h
  ·exact .inr ((List.dropWhile_suffix _).subset h)
theorem a8v{x:List CD}:∀ (f rows:List (List CD)),x∈f.foldl ac2 rows→x∈f∨x∈rows
 | [],_,h=>.inr h
 | r::f,rows,h=>by
  rcases a8v f (ac2 rows r) h with h | h
  ·exact .inl (Mc _ h)
  ·rcases bo0 h with rfl | h
   ·exact .inl (Ms ..)
   ·exact .inr h
theorem apf(l:CD){k:Nat}(h:k<4):(ace l).getD k []=(l.cell (k:Nat) 0).rows:=by
 match k,h with
 | 0,_=>rfl
 | 1,_=>rfl
 | 2,_=>rfl
 | 3,_=>rfl
theorem auz{f g:Nat→Bool}{n:Nat}(h:∀ k,k<n→f k=g k):(List.range n).all f=(List.range n).all g:=by
 rw [Bool.eq_iff_iff,List.all_eq_true,List.all_eq_true]
 exact⟨fun hh k hk=>by rw [← h k (List.mem_range.1 hk)];exact hh k hk,fun hh k hk=>by rw [h k (List.mem_range.1 hk)];exact hh k hk⟩
def CpL(ds es:List CD):Prop:=ds.length=es.length∧∀ j,j<ds.length→(ds.getD j default).rows=(es.getD j default).rows.map aa9
theorem bxr{ds es:List CD}(h:CpL ds es):aam (.sl false (ds.map fun d=>[d]))=aam (.sl false (es.map fun d=>[d])):=by
 have hr:∀ fs:List CD,(CD.sl false (fs.map fun d=>[d])).rows=fs.map fun d=>[d]:=fun _=>rfl
 have hlen:∀ fs:List CD,(CD.sl false (fs.map fun d=>[d])).len=clip fs.length:=fun fs=>by
  show clip (fs.map fun d=>[d]).length=_
  rw [List.length_map]
 unfold aam
 rw [hr,hr,hlen,hlen,List.length_map,List.length_map,h.1]
 congr 1
 refine auz fun n hn=>?_
 rw [a2f,a2f]
 have hc:∀ (fs:List CD) (n:Nat),n<fs.length→(CD.sl false (fs.map fun d=>[d])).cell (n:Nat) 0=fs.getD n default:=fun fs n hn=>by
  unfold CD.cell
  rw [hr,Int.toNat_natCast]
  have e1:(fs.map fun d=>[d]).getD n []=[fs[n]]:=by
   rw [Gd,List.getElem?_map,Gl hn]
   rfl
  have e2:fs.getD n default=fs[n]:=by
   rw [Gd,Gl hn]
   rfl
  rw [e1,e2]
  rfl
 rw [hc ds n (by rw [h.1];exact hn),hc es n hn]
 exact bp6 n (h.2 n (by rw [h.1];exact hn))
theorem bdo:∀ {ds es:List CD},CpL ds es→(∀ e∈es,∀ r∈e.rows,keyT r)→ahn (ds.map fun d=>[d]) (es.map fun d=>[d])=true
 | [],[],_,_=>rfl
 | [],_::_,h,_=>by have:=h.1;simp at this
 | _::_,[],h,_=>by have:=h.1;simp at this
 | d::ds,e::es,h,hk=>by
  have h0:d.rows=e.rows.map aa9:=h.2 0 (Nat.succ_pos _)
  show(afb d.rows e.rows&&ahn (ds.map fun d=>[d]) (es.map fun d=>[d]))=true
  rw [bdo (ds:=ds) (es:=es) ⟨by have:=h.1;simpa using this,fun j hj=>h.2 (j+1) (by simpa using hj)⟩ fun e he=>hk e (Mc _ he),h0,Bool.and_true]
  exact alo fun r hr=>al9 (hk e (Ms ..) r hr)
end Go.Proofs.Ytlbbkmcegbeckaa
namespace Go.Proofs.Ytlbbkmcegbeckaa
open Go.Sx Go.Proofs Go.RowKit Go.Lib Go.Stb
def woL(s:List R5)(x:R5):Bool:=s.all fun t=>keepR t x
structure WoI (w wr:World) (y:Value) (l s:List R5) (k:Nat):Prop where
 below:Below w.heap.size w wr
 own:OwnR w.heap.size wr y (l.filter (woL (s.take k)))
 met:((s.take k).all fun t=>l.any (delR t))=true
theorem bsp{lo:Nat}{w:World}{y:Value}{l:List R5}(h:OwnR lo w y l):∀ b o n c,y=.slice (some ⟨b,o,none⟩) n c→w.heap.size≠b:=fun b o n c e=>by
 rcases h with ⟨_,rfl⟩ | ⟨blk,cap,rfl,h⟩
 ·cases e
 ·cases e
  obtain⟨arr,t,h1,_⟩:=h.obj
  have:=(Ga.1 h1).1
  omega
theorem aum{lo:Nat}{w:World}{y:Value}{l:List R5}(h:OwnR lo w y l):∃ a n c,y=.slice a n c:=by
 rcases h with ⟨_,rfl⟩ | ⟨blk,cap,rfl,h⟩
 ·exact⟨_,_,_,rfl⟩
 ·exact⟨_,_,_,rfl⟩
theorem buq{l s:List R5}{k:Nat}(hk:k<s.length):(l.filter (woL (s.take k))).filter (keepR (s.getD k R5.z))=l.filter (woL (s.take (k+1))):=by
 rw [List.filter_filter]
 congr 1
 funext x
 unfold woL
 rw [take_at hk,List.all_append]
 simp [Bool.and_comm]
theorem bm0{l s:List R5}{k:Nat}(hk:k<s.length):((s.take (k+1)).all fun t=>l.any (delR t))=(((s.take k).all fun t=>l.any (delR t))&&l.any (delR (s.getD k R5.z))):=by
 rw [take_at hk,List.all_append]
 simp
set_option maxHeartbeats 2000000 in
theorem a4p{w:World}{v g:Value}{l s:List R5}(h:InR w v l)(hz:l=[]→v=nilV)(hs:InR w g s)(hl:l.length≤1000)(hsl:s.length≤1000) :
  Calls Try.prog 66 #[v,g] w fun e w'=>Below w.heap.size w w'∧((∃ y,(s.all fun t=>l.any (delR t))=true∧e=.returned (.tuple #[y,.bool true])∧OwnR w.heap.size w' y (l.filter (woL s)))∨((s.all fun t=>l.any (delR t))=false∧e=.returned (.tuple #[nilV,.bool false]))):=by
 have hcl:=ayz h hz hl
 have HH:=hidj h
 have HS:=hidj hs
 obtain⟨a,cap,rfl,_⟩:=h
 obtain⟨ag,cg,rfl,_⟩:=hs
 obtain⟨n,hn⟩:∃ n,s.length=n:=⟨_,rfl⟩
 rw [hn] at hsl ⊢
 obtain⟨nl,hnl⟩:∃ n,l.length=n:=⟨_,rfl⟩
 rw [hnl] at hcl hl ⊢
 have HN:=hidj (And.intro hn hnl)
 clear hz hn hnl
 go_enter Try.func66,Try.ntmps66
 go_wp2_with fail
 refine hcl.mono ?_
 rintro e w1 ⟨y1,rfl,hb1,ho1⟩
 obtain⟨ya,yn,yc,rfl⟩:=aum ho1
 have HI:=hidj (WoI.mk hb1 (s:=s) (k:=0) (l:=l) (y:=.slice ya yn yc) (by rw [List.take_zero,show l.filter (woL [])=l from List.filter_eq_self.2 (fun x _=>rfl)];exact ho1) rfl)
 clear hcl hb1 ho1
 go_wp2_with fail
 go_loopw [6,14] (fun p q wr=>∃ (k:Nat) (pa:Option Addr) (pn pc:Nat),k≤n∧p=.slice pa pn pc∧q=.int .i64 (k:Int)∧Hid (WoI w wr (.slice pa pn pc) l s k)) (fun _ q _=>n - (RowKit.intOf q).toNat)
 case atStart=>exact⟨0,ya,yn,yc,Nat.zero_le _,rfl,rfl,HI⟩
 case round =>
  obtain⟨k,pa,pn,pc,hk,rfl,rfl,HW⟩:=hrel
  by_cases hkn:k<n
  ·obtain⟨b,off,rfl,_,x0,x1,x2,x3,x4⟩:=(HS.out.below HW.out.below).cells (k:=k) (by rw [HN.out.1];exact hkn)
   obtain⟨x,hx⟩:∃ x,s.getD k R5.z=x:=⟨_,rfl⟩
   rw [hx] at x0 x1 x2 x3 x4
   have HX:=hidj hx
   clear hx
   have t0:(k:Int)<(n:Int):=by omega
   have t1:(0:Int)≤(k:Int):=Int.natCast_nonneg _
   have v0:IntKind.i64.wrap ((k:Int)+1)=(k:Int)+1:=by rw [IntKind.wrap_i64];omega
   obtain⟨W,hW⟩:∃ W,W=wr.alloc (.cells #[.int .i64 x.z0,.int .i64 x.z1,.int .i64 x.z2,.slice x.a3 x.n3 x.c3,.slice x.a4 x.n4 x.c4] 27 (0,0)):=⟨_,rfl⟩
   have hBW:Below wr.heap.size wr W:=by rw [hW];exact(Below.refl _ wr).alloc (Rl _) _
   have hbox:BoxR W wr.heap.size x:=by rw [hW];exact aa4 wr _
   have hcon:=ay0 (HH.out.below (HW.out.below.trans (hBW.mono HW.out.below.size))) hbox (by rw [HN.out.2];omega)
   rw [HN.out.2] at hcon
   have HBW:=hidj hBW
   have HBX:=hidj hbox
   have HWE:=hidj hW
   clear hW hBW hbox
   go_wp2_with fail
   rw [← HWE.out]
   refine hcon.mono ?_
   rintro e w2 ⟨rfl,hw2⟩
   have hB2:=HW.out.below.trans ((HBW.out.mono HW.out.below.size).trans (hw2.mono (Nat.le_trans HW.out.below.size HBW.out.size)))
   by_cases hany:l.any (delR x)=true
   ·have hdel:=a5p (lo:=w.heap.size) ((HW.out.own.below HBW.out).below hw2) hB2.size (HBX.out.below hw2) (fun b o n c e=>by
     have:=bsp HW.out.own b o n c e
     exact this) (Nat.le_trans (List.length_filter_le _ _) (by rw [HN.out.2];omega))
    rw [hany]
    have HB2:=hidj hB2
    have HA:=hidj hany
    clear hB2 hw2 hcon
    go_wp2_with fail
    refine hdel.mono ?_
    rintro e w3 ⟨y,rfl,hd⟩
    obtain⟨qa,qn,qc,rfl⟩:=aum hd.own
    have hs':=HX.out
    have hf:=buq (l:=l) (s:=s) (k:=k) (by rw [HN.out.1];exact hkn)
    have hm:=bm0 (l:=l) (s:=s) (k:=k) (by rw [HN.out.1];exact hkn)
    rw [hs'] at hf hm
    rw [HW.out.met,HA.out] at hm
    have hown:=hd.own
    rw [hf] at hown
    have HK:=hidj (WoI.mk (HB2.out.trans hd.below) hown hm)
    clear hd hdel hf hm hown
    go_wp2_with fail
    exact⟨⟨k+1,qa,qn,qc,by omega,rfl,by go_num,HK⟩,by simp [RowKit.intOf];omega⟩
   ·have hany:l.any (delR x)=false:=Bool.eq_false_iff.2 hany
    rw [hany]
    have HB2:=hidj hB2
    have HA:=hidj hany
    clear hB2 hw2 hcon
    go_wp2_with fail
    go_returns
    refine⟨HB2.out,.inr ⟨?_,rfl⟩⟩
    rw [Bool.eq_false_iff]
    intro hh
    have:=List.all_eq_true.1 hh x (by
     rw [← HX.out,Gd,Gl (by rw [HN.out.1];exact hkn)]
     exact List.getElem_mem _)
    rw [HA.out] at this
    cases this
  ·have hke:k=n:=by omega
   subst hke
   go_wp2_with fail
   go_returns
   have ht:s.take k=s:=List.take_of_length_le (by rw [HN.out.1];exact Rl _)
   have hm:=HW.out.met
   have ho:=HW.out.own
   rw [ht] at hm ho
   exact⟨HW.out.below,.inl ⟨_,hm,rfl,ho⟩⟩
def S68:Fsp:=⟨[(true,sRun),(true,sRun)],[],[(false,[.int .i64])],[([],[[.ap (.usr 20) [.var 3,.var 8]]])],true⟩
def btu:List VC:=[]
def btt:List (List X×List (List X)):=[([(.ap .le [LoI,(.ap (.usr 20) [(V 3),(V 8)])]),(.ap .le [(.ap (.usr 20) [(V 3),(V 8)]),HiI]),(.ap .le [(I (-1)),(.ap (.usr 20) [(V 3),(V 8)])]),(.ap .le [(.ap (.usr 20) [(V 3),(V 8)]),(I 1)]),(.ap .le [LoI,(V 0)]),(.ap .le [(V 0),HiI]),(.ap .le [LoI,(V 1)]),(.ap .le [(V 1),HiI]),(.ap .le [LoI,(V 2)]),(.ap .le [(V 2),HiI]),(.ap (.typ (.sl [(.int .u8)])) [(V 3)]),(.ap (.typ (.sl [(.int .u8)])) [(V 4)]),(.ap .le [LoI,(V 5)]),(.ap .le [(V 5),HiI]),(.ap .le [LoI,(V 6)]),(.ap .le [(V 6),HiI]),(.ap .le [LoI,(V 7)]),(.ap .le [(V 7),HiI]),(.ap (.typ (.sl [(.int .u8)])) [(V 8)]),(.ap (.typ (.sl [(.int .u8)])) [(V 9)])],[[(.ap (.usr 20) [(V 3),(V 8)])]])]
theorem byz:runS Try.prog (acr (tab T8)) 10 4 ⟨aa0 [],hintA []⟩ Try.f68 (aau Try.f68) S68=some (btu,btt):=by kernel_rfl
set_option maxHeartbeats 4000000 in
theorem c68:aah U Try.prog 68 S68:=by
 refine aah.of (P:=Try.prog) (U:=U) (T:=(tab T8)) (f:=68) (fn:=Try.f68) (fuel:=10) (fk:=4) (hs:=⟨aa0 [],hintA []⟩) (S:=S68) (v:=btu) (outs:=btt) mixed bme at68 byz ?_ ?_
 ·unfold btu
  repeat' (first | exact aa7 _ | refine aai (fun v hh=>?_) ?_)
  all_goals
   simp only [aao,aax,aaw,aa2,b_le,aa6,aav,w_l0,w_l1,aae,aaf,aay,aac,aad,aak,aaj,aao,us20,abu,aas,aaq,List.cons.injEq] at hh ⊢
   repeat (obtain⟨_,hh⟩:=hh)
   try (first | grind [= aae])
 ·intro o ho σ hU hh
  obtain⟨v⟩:=σ
  cases hU
  simp only [btt,Mn,List.not_mem_nil,or_false] at ho
  repeat' (first | (rcases ho with rfl | ho) | subst ho)
  all_goals
   refine⟨_,Ms ..,by simp only [aao,aax,aaw,aa2,b_le,aa6,aav,w_l0,w_l1,aae,aaf,aay,aac,aad,aak,aaj],?_⟩
   simp only [aao,aax,aaw,aa2,b_le,aa6,aav,w_l0,w_l1,aae,aaf,aay,aac,aad,aak,aaj,aao,us20,abu,aas,aaq,List.cons.injEq] at hh
   simp only [List.map_cons,List.map_nil,aao,aax,aaw,aa2,b_le,aa6,aav,w_l0,w_l1,aae,aaf,aay,aac,aad,aak,aaj,w_le,amj,aao,us20,abu,aas,aaq,List.cons.injEq]
   repeat (obtain⟨_,hh⟩:=hh)
   try (first | grind [= aae])
theorem aud:∀ (a b c:List UInt8),compareBytes a b≤0→compareBytes b c≤0→compareBytes a c≤0∧(compareBytes a c=0→compareBytes a b=0∧compareBytes b c=0)
 | [],[],[],_,_=>⟨by decide,fun _=>⟨rfl,rfl⟩⟩
 | [],[],_::_,_,_=>⟨by show(-1:Int)≤0;decide,fun h=>by cases h⟩
 | [],_::_,[],_,h=>by exact absurd (show(1:Int)≤0 from h) (by decide)
 | [],_::_,_::_,_,_=>⟨by show(-1:Int)≤0;decide,fun h=>by cases h⟩
 | _::_,[],_,h,_=>by exact absurd (show(1:Int)≤0 from h) (by decide)
 | _::_,_::_,[],_,h=>by exact absurd (show(1:Int)≤0 from h) (by decide)
 | x::a,y::b,z::c,h1,h2=>by
  have ih:=aud a b c
  unfold compareBytes at h1 h2 ⊢
  have key:∀ p q:UInt8,(p<q)=(p.toNat<q.toNat):=fun p q=>propext UInt8.lt_iff_toNat_lt
  simp only [key] at h1 h2 ⊢
  split at h1
  ·split at h2
   ·rw [if_pos (by omega)]
    exact⟨by decide,fun h=>by cases h⟩
   ·split at h2
    ·exact absurd h2 (by decide)
    ·rw [if_pos (by omega)]
     exact⟨by decide,fun h=>by cases h⟩
  ·split at h1
   ·exact absurd h1 (by decide)
   ·split at h2
    ·rw [if_pos (by omega)]
     exact⟨by decide,fun h=>by cases h⟩
    ·split at h2
     ·exact absurd h2 (by decide)
     ·rw [if_neg (by omega),if_neg (by omega)]
      obtain⟨g1,g2⟩:=ih h1 h2
      exact⟨g1,fun h=>by
       obtain⟨g3,g4⟩:=g2 h
       rw [if_neg (by omega),if_neg (by omega),if_neg (by omega),if_neg (by omega)]
       exact⟨g3,g4⟩⟩
abbrev keyR(rows:List (List CD))(i:Nat):CD:=at' (rows.getD i []) 3
abbrev cvR(rows:List (List CD))(i j:Nat):Int:=cmpC (keyR rows i) (keyR rows j)
def TR(rows:List (List CD))(i j:Nat):Prop:=cvR rows i j<0∨(cvR rows i j=0∧i<j)
theorem aul(rows:List (List CD)):Ord (ltC (cvR rows)) (TR rows):=by
 have neg:∀ i j,cvR rows i j = - cvR rows j i:=fun i j=>by
  have:=avd (keyR rows j) (keyR rows i)
  exact this
 refine⟨fun x h=>?_,fun x y z h1 h2=>?_,fun p q hpq=>⟨fun h=>?_,fun h=>?_⟩⟩
 ·have h0:cvR rows x x=0:=a1f _
  rcases h with h | ⟨_,h⟩<;>omega
 ·have ht:=aud (byts (keyR rows x)) (byts (keyR rows y)) (byts (keyR rows z))
  have h3:cvR rows x y≤0:=by rcases h1 with h1 | h1<;>omega
  have h4:cvR rows y z≤0:=by rcases h2 with h2 | h2<;>omega
  obtain⟨h5,h6⟩:=ht h3 h4
  have h5:cvR rows x z≤0:=h5
  by_cases h7:cvR rows x z=0
  ·obtain⟨h8,h9⟩:=h6 h7
   have h8:cvR rows x y=0:=h8
   have h9:cvR rows y z=0:=h9
   refine .inr ⟨h7,?_⟩
   rcases h1 with h1 | h1
   ·omega
   ·rcases h2 with h2 | h2<;>omega
  ·exact .inl (by omega)
 ·have h:=of_decide_eq_true h
  exact .inl h
 ·have h:=of_decide_eq_false h
  have:=neg p q
  by_cases h0:cvR rows p q=0
  ·exact .inr ⟨h0,hpq⟩
  ·exact .inl (by omega)
theorem bll{m:Mem}{r:List CD}{x:R5}(h:RSs m sRun r fun j=>x.cells[j]?):∃ c0 c1 c2 c3 c4,r=[c0,c1,c2,c3,c4]∧afi m (true,sRun) [c0,c1,c2,c3,c4] x.agg:=by
 have hl:=h.len
 match r,hl,h with
 | [c0,c1,c2,c3,c4],_,h =>
  refine⟨c0,c1,c2,c3,c4,rfl,_,rfl,rfl,h.congr fun j hj=>?_⟩
  match j,hj with
  | 0,_=>rfl
  | 1,_=>rfl
  | 2,_=>rfl
  | 3,_=>rfl
  | 4,_=>rfl
theorem bv1{lo:Nat}{w0:World}{blk cap:Nat}{l:List R5}{m:Mem}{rows:List (List CD)}(h:OwnA lo w0 blk cap l)(hr:RelL m rows l)(hm:∀ k o,m k o→w0.heap[k]? = some o):CmpOK w0 blk 0 l.length (fun k=>l.getD k R5.z) (cvR rows):=by
 refine⟨fun g p i j hi hj=>?_⟩
 obtain⟨arr,t,h1,h2,h3,h4⟩:=h.obj
 have hmem:∀ k ob,m k ob→(memW p.w) k ob∨∃ arr t fr,ob=.cells arr t fr∧∀ (j:Nat) (u:Value),arr[j]? = some u→is8 u=false:=fun k ob hk=>by
  have hw:=hm k ob hk
  by_cases hb:k=blk
  ·subst hb
   rw [h1] at hw
   cases hw
   exact .inr ⟨arr,t,(0,0),rfl,h4⟩
  ·exact .inl ((p.row.other k (Ga.1 hw).1 hb).trans hw)
 have row:∀ i,i<l.length→∃ c0 c1 c2 c3 c4,rows.getD i []=[c0,c1,c2,c3,c4]∧afi (memW p.w) (true,sRun) [c0,c1,c2,c3,c4] (l.getD i R5.z).agg:=fun i hi=>bll (rssB hmem (by decide) (hr.2 i hi))
 obtain⟨a0,a1,a2,a3,a4,ea,ha⟩:=row i hi
 obtain⟨b0,b1,b2,b3,b4,eb,hb⟩:=row j hj
 refine(acd c68 at68 (ofL [a0,a1,a2,a3,a4,b0,b1,b2,b3,b4]) (us:=[(l.getD i R5.z).agg,(l.getD j R5.z).agg]) ⟨ha,hb,trivial⟩ holds0).mono fun e w' hh=>?_
 obtain⟨u,rfl,hk,o,ho,hx,hres⟩:=hh
 rw [Mg.1 ho] at hres
 have:=bjp (z:=cmpC a3 b3) hres
 subst this
 refine⟨?_,⟨w',p.row.keep hk⟩,rfl⟩
 show _=Ending.returned (.int .i64 (cmpC (at' (rows.getD i []) 3) (at' (rows.getD j []) 3)))
 rw [ea,eb]
 rfl
structure Sorted (rows:List (List CD)) (g:Nat→Nat) (n:Nat):Prop where
 bk:Bk (TR rows) g 0 n
theorem RowW.frame{w0 wr:World}{blk off n:Nat}{R:Nat→R5}{g:Nat→Nat}(h:RowW w0 blk off n R g wr):wr.os=w0.os∧wr.tape=w0.tape∧wr.output=w0.output:=⟨h.os,h.tape,h.output⟩
theorem bns{m:Mem}{rows:List (List CD)}{l:List R5}{g:Nat→Nat}(hr:RelL m rows l)(hg:∀ k,k<l.length→g k<l.length):RelL m (lst (fun k=>rows.getD (g k) []) 0 l.length) (lst (fun k=>l.getD (g k) R5.z) 0 l.length):=by
 have len:∀ {α:Type} (f:Nat→α) n,(lst f 0 n).length=n:=fun f n=>by unfold lst;rw [List.length_map,List.length_range'];rfl
 refine⟨by rw [len,len],fun k hk=>?_⟩
 rw [len] at hk
 rw [auh _ _ hk,auh _ _ hk]
 exact hr.2 _ (hg k hk)
theorem bkc{lo:Nat}{w:World}{blk cap:Nat}{l:List R5}{m:Mem}{rows:List (List CD)}(h:OwnA lo w blk cap l)(hr:RelL m rows l)(hm:∀ k o,m k o→w.heap[k]? = some o)(hn:l.length≤1000000) :
  Calls Try.prog 67 #[.slice (some ⟨blk,0,none⟩) l.length cap,cmpV] w fun e w'=>e=.returned (.tuple #[])∧∃ g,Sorted rows g l.length∧OwnA lo w' blk cap (lst (fun k=>l.getD (g k) R5.z) 0 l.length)∧RowW w blk 0 l.length (fun k=>l.getD k R5.z) g w':=by
 refine(be2 (cap:=cap) (aul rows) (bv1 h hr hm) (RowW.start h) hn).mono fun e w' hh=>?_
 obtain⟨rfl,g,h1,h2⟩:=hh
 exact⟨rfl,g,⟨h2⟩,RowW.own h h1 (Rl _),h1⟩
set_option maxHeartbeats 2000000 in
theorem bem(w:World):Calls Try.prog 136 #[nilV,.int .i64 0,.int .i64 0,cmpV] w fun e w'=>e=.returned (.tuple #[])∧w'=w:=by
 go_enter Try.func136,Try.ntmps136
 go_wp2_with fail
 go_loopw [8] (fun q wr=>q=.int .i64 1∧wr=w) (fun _ _=>0)
 case atStart=>exact⟨rfl,rfl⟩
 case round =>
  obtain⟨rfl,hw⟩:=hrel
  have hw:=hw.symm
  subst hw
  go_wp2_with fail
  go_returns
  exact⟨rfl,rfl⟩
set_option maxHeartbeats 2000000 in
theorem be4(w:World):Calls Try.prog 114 #[nilV,.int .i64 0,cmpV] w fun e w'=>e=.returned (.tuple #[])∧w'=w:=by
 go_enter Try.func114,Try.ntmps114
 go_wp2_with fail
 go_loopw [7,8] (fun p q wr=>p=.int .i64 0∧q=.int .i64 20∧wr=w) (fun _ _ _=>0)
 case atStart=>exact⟨rfl,rfl,rfl⟩
 case round =>
  obtain⟨rfl,rfl,hw⟩:=hrel
  have hw:=hw.symm
  subst hw
  have hcall:=bem w
  go_wp2_with (go_at_call 136;refine hcall.mono ?_;rintro e w' ⟨rfl,hw'⟩;skip)
  subst hw'
  go_loopw [6] (fun p wr=>p=.int .i64 20∧wr=w') (fun _ _=>0)
  case atStart=>exact⟨rfl,rfl⟩
  case round =>
   obtain⟨rfl,hw⟩:=hrel
   have hw:=hw.symm
   subst hw
   go_wp2_with fail
   go_returns
   exact⟨rfl,rfl⟩
theorem bn2(w:World):Calls Try.prog 67 #[nilV,cmpV] w fun e w'=>e=.returned (.tuple #[])∧w'=w:=by
 have hcall:=be4 w
 go_enter Try.func67,Try.ntmps67
 go_wp2_with (go_at_call 114;refine hcall.mono ?_;rintro e w' ⟨rfl,hw'⟩;skip)
 go_returns
 exact⟨rfl,rfl⟩
theorem bn1{lo:Nat}{w:World}{v:Value}{l:List R5}{m:Mem}{rows:List (List CD)}(h:OwnR lo w v l)(hr:RelL m rows l)(hm:∀ k o,m k o→w.heap[k]? = some o)(hn:l.length≤1000000) :
  Calls Try.prog 67 #[v,cmpV] w fun e w'=>e=.returned (.tuple #[])∧∃ g,Sorted rows g l.length∧OwnR lo w' v (lst (fun k=>l.getD (g k) R5.z) 0 l.length)∧Below lo w w'∧w.heap.size≤w'.heap.size∧∀ k,k<w.heap.size→(∀ b c,v=.slice (some ⟨b,0,none⟩) l.length c→k≠b)→w'.heap[k]? = w.heap[k]?:=by
 rcases h with ⟨rfl,rfl⟩ | ⟨blk,cap,rfl,h⟩
 ·refine(bn2 w).mono fun e w' hh=>?_
  obtain⟨rfl,rfl⟩:=hh
  exact⟨rfl,id,⟨Bk.one (Nat.zero_le _) (fun h=>absurd h (Nat.lt_irrefl _))⟩,.inl ⟨rfl,rfl⟩,Below.refl _ _,Rl _,fun _ _ _=>rfl⟩
 ·refine(bkc h hr hm hn).mono fun e w' hh=>?_
  obtain⟨rfl,g,h1,h2,h3⟩:=hh
  have hl:(lst (fun k=>l.getD (g k) R5.z) 0 l.length).length=l.length:=by unfold lst;rw [List.length_map,List.length_range'];rfl
  refine⟨rfl,g,h1,.inr ⟨blk,cap,by rw [hl],h2⟩,?_,h3.size,fun k hk hb=>h3.other k hk (hb blk cap rfl)⟩
  have hlo:=h.old
  exact⟨h3.os,h3.tape,h3.output,h3.size,fun k hk=>by
   by_cases hlt:k<w.heap.size
   ·exact h3.other k hlt (by omega)
   ·have:=h3.lt
    omega⟩
theorem aod{m:Mem}{r:List CD}{rows:List (List CD)}{x:R5}{l:List R5}(h:RelL m (r::rows) (x::l)):(RSs m sRun r fun j=>x.cells[j]?)∧RelL m rows l:=by
 refine⟨h.2 0 (by simp),by have:=h.1;simpa using this,fun k hk=>?_⟩
 exact h.2 (k+1) (by simpa using hk)
theorem bji{m:Mem}{r:List CD}{rows:List (List CD)}{x:R5}{l:List R5}(h:RSs m sRun r fun j=>x.cells[j]?)(h':RelL m rows l):RelL m (r::rows) (x::l):=by
 refine⟨by simp [h'.1],fun k hk=>?_⟩
 cases k with
 | zero=>exact h
 | succ k=>exact h'.2 k (by simpa using hk)
theorem aoc{m:Mem}{p:List CD→Bool}{q:R5→Bool}(hpq:∀ r x,(RSs m sRun r fun j=>x.cells[j]?)→p r=q x):∀ {rows:List (List CD)} {l:List R5},RelL m rows l→RelL m (rows.filter p) (l.filter q)
 | [],[],h=>h
 | [],_::_,h=>by have:=h.1;simp at this
 | _::_,[],h=>by have:=h.1;simp at this
 | r::rows,x::l,h=>by
  obtain⟨h1,h2⟩:=aod h
  have ih:=aoc hpq h2
  rw [List.filter_cons,List.filter_cons,hpq r x h1]
  cases q x
  ·exact ih
  ·exact bji h1 ih
theorem a3t{m:Mem}{p:List CD→Bool}{q:R5→Bool}(hpq:∀ r x,(RSs m sRun r fun j=>x.cells[j]?)→p r=q x):∀ {rows:List (List CD)} {l:List R5},RelL m rows l→rows.any p=l.any q
 | [],[],h=>rfl
 | [],_::_,h=>by have:=h.1;simp at this
 | _::_,[],h=>by have:=h.1;simp at this
 | r::rows,x::l,h=>by
  obtain⟨h1,h2⟩:=aod h
  rw [List.any_cons,List.any_cons,hpq r x h1,a3t hpq h2]
theorem bdi{m:Mem}{p:List CD→Bool}{q:R5→Bool}(hpq:∀ r x,(RSs m sRun r fun j=>x.cells[j]?)→p r=q x):∀ {rows:List (List CD)} {l:List R5},RelL m rows l→rows.all p=l.all q
 | [],[],h=>rfl
 | [],_::_,h=>by have:=h.1;simp at this
 | _::_,[],h=>by have:=h.1;simp at this
 | r::rows,x::l,h=>by
  obtain⟨h1,h2⟩:=aod h
  rw [List.all_cons,List.all_cons,hpq r x h1,bdi hpq h2]
theorem bdm{m:Mem}{r:List CD}{x:R5}(h:RSs m sRun r fun j=>x.cells[j]?):at' r 0=vInt .i64 x.z0∧at' r 1=vInt .i64 x.z1:=by
 obtain⟨c0,q0,u0,rfl,f0,⟨n0,k0,m0,_⟩,c1,q1,u1,e1,f1,⟨n1,k1,m1,_⟩,_⟩:=h
 subst m0 m1
 have f0:some (Value.int .i64 x.z0)=some (.int .i64 n0):=f0
 have f1:some (Value.int .i64 x.z1)=some (.int .i64 n1):=f1
 cases f0
 cases f1
 rw [e1]
 exact⟨k0,k1⟩
theorem bjr{m m':Mem}{r s:List CD}{x y:R5}(h:RSs m sRun r fun j=>x.cells[j]?)(h':RSs m' sRun s fun j=>y.cells[j]?):a7s r s=delR y x:=by
 obtain⟨a0,a1⟩:=bdm h
 obtain⟨b0,b1⟩:=bdm h'
 unfold a7s
 rw [a0,a1,b0,b1]
 rfl
theorem bz1{m m':Mem}{g:List (List CD)}{s:List R5}(hg:RelL m' g s):∀ r x,(RSs m sRun r fun j=>x.cells[j]?)→woR g r=woL s x:=fun r x h=>by
 unfold woR woL
 rw [a3t (q:=fun t=>delR t x) (fun a t ha=>bjr h ha) hg]
 rw [List.not_any_eq_all_not]
theorem bpz{m m':Mem}{g rows:List (List CD)}{s l:List R5}(hg:RelL m' g s)(hr:RelL m rows l):g.all (metR rows)=s.all fun t=>l.any (delR t) :=
 bdi (fun a t ha=>a3t (fun r x h=>bjr h ha) hr) hg
theorem bzb{w:World}{B:Nat}{x0 x1 x2 x3:Value}{d0 d1 d2 d3:CD}{t:TypeId}(hh:w.heap[B]? = some (.cells #[x0,x1,x2,x3] t (0,0)))(h0:RS (memW w) sR d0 x0)(h1:RS (memW w) sR d1 x1)(h2:RS (memW w) sR d2 x2)(h3:RS (memW w) sR d3 x3):RS (memW w) sLev (.sl false [[d0],[d1],[d2],[d3]]) (.slice (some ⟨B,0,none⟩) 4 4):=by
 refine .inr (.inl ⟨_,B,0,4,rfl,rfl,Rl 4,by decide,fun _=>⟨#[x0,x1,x2,x3],t,(0,0),⟨hh,?_⟩,fun i row hi=>?_⟩⟩)
 ·show 0+4*1≤4
  omega
 ·match i,hi with
  | 0,hi=>cases hi;exact⟨_,_,x0,rfl,rfl,h0,rfl⟩
  | 1,hi=>cases hi;exact⟨_,_,x1,rfl,rfl,h1,rfl⟩
  | 2,hi=>cases hi;exact⟨_,_,x2,rfl,rfl,h2,rfl⟩
  | 3,hi=>cases hi;exact⟨_,_,x3,rfl,rfl,h3,rfl⟩
structure FourA (w wr:World) (A:Nat→Nat→Prop) (d0 d1 d2 d3:CD) (x0 x1 x2 x3:Value):Prop where
 below:Below w.heap.size w wr
 new:∀ j k,A j k→w.heap.size≤k
 one:∀ i j k,A i k→A j k→i=j
 r0:RS (fun k o=>A 0 k∧wr.heap[k]? = some o∧Nice o) sR d0 x0
 r1:RS (fun k o=>A 1 k∧wr.heap[k]? = some o∧Nice o) sR d1 x1
 r2:RS (fun k o=>A 2 k∧wr.heap[k]? = some o∧Nice o) sR d2 x2
 r3:RS (fun k o=>A 3 k∧wr.heap[k]? = some o∧Nice o) sR d3 x3
theorem FourA.keep{w wr w':World}{A:Nat→Nat→Prop}{d0 d1 d2 d3:CD}{x0 x1 x2 x3:Value}(h:FourA w wr A d0 d1 d2 d3 x0 x1 x2 x3)(hb:Below wr.heap.size wr w'):FourA w w' A d0 d1 d2 d3 x0 x1 x2 x3 :=
 have tr:∀ j k o,(A j k∧wr.heap[k]? = some o∧Nice o)→(A j k∧w'.heap[k]? = some o∧Nice o):=fun j k o ⟨a,b,c⟩=>⟨a,(hb.block k (Ga.1 b).1).trans b,c⟩
 ⟨h.below.trans (hb.mono h.below.size),h.new,h.one,h.r0.mono (tr 0),h.r1.mono (tr 1),h.r2.mono (tr 2),h.r3.mono (tr 3)⟩
theorem FourA.told{w wr w':World}{A:Nat→Nat→Prop}{d0 d1 d2 d3:CD}{x0 x1 x2 x3 s:Value}(h:FourA w wr A d0 d1 d2 d3 x0 x1 x2 x3)(ht:Told wr w' x0 x1 x2 x3 s):Below w.heap.size w w'∧RS (newM w w') sLev (.sl false [[d0],[d1],[d2],[d3]]) s∧Apart w w' d0 d1 d2 d3 s:=by
 have hsz:=h.below.size
 have tr0:∀ k o,wr.heap[k]? = some o→k<wr.heap.size∧w'.heap[k]? = some o:=fun k o c=>by
  have hk:k<wr.heap.size:=(Ga.1 c).1
  exact⟨hk,(ht.below.block k hk).trans c⟩
 have tr:∀ j k o,(A j k∧wr.heap[k]? = some o∧Nice o)→newM w w' k o:=fun j k o ⟨a,c,d⟩=>by
  obtain⟨hk,h2⟩:=tr0 k o c
  exact⟨h.new j k a,by have:=ht.below.size;omega,h2,d⟩
 refine⟨h.below.trans (ht.below.mono hsz),bjz ht (fun k o a b c=>⟨by omega,(Ga.1 b).1,b,c⟩) (h.r0.mono (tr 0)) (h.r1.mono (tr 1)) (h.r2.mono (tr 2)) (h.r3.mono (tr 3)),?_⟩
 obtain⟨kx,cap,arr,rfl,hk,_,_,hh,_,_⟩:=ht.at'
 have tr1:∀ j k o,(A j k∧wr.heap[k]? = some o∧Nice o)→((A j k∧k<wr.heap.size)∧w'.heap[k]? = some o∧Nice o):=fun j k o ⟨a,c,d⟩=>⟨⟨a,(tr0 k o c).1⟩,(tr0 k o c).2,d⟩
 exact⟨kx,cap,arr,x0,x1,x2,x3,fun j k=>A j k∧k<wr.heap.size,rfl,hh,by omega,fun j k ⟨a,b⟩=>⟨h.new j k a,by omega⟩,fun i j k ⟨a,_⟩ ⟨c,_⟩=>h.one i j k a c,h.r0.mono (tr1 0),h.r1.mono (tr1 1),h.r2.mono (tr1 2),h.r3.mono (tr1 3)⟩
def at2{α:Type}(k:Nat)(y z:α)(x:α)(j:Nat):α:=if j=k then y else if j=k+1 then z else x
theorem set2{w:World}{B k:Nat}{x0 x1 x2 x3 y z:Value}{t:TypeId}(h:w.heap[B]? = some (.cells #[x0,x1,x2,x3] t (0,0)))(hk:k<3):(((w.setCell ⟨B,k,none⟩ y).setCell ⟨B,k+1,none⟩ z).drew).heap[B]? = some (.cells #[at2 k y z x0 0,at2 k y z x1 1,at2 k y z x2 2,at2 k y z x3 3] t (0,0)):=by
 show((w.setCell ⟨B,k,none⟩ y).setCell ⟨B,k+1,none⟩ z).heap[B]? = _
 rw [heap_setCell_same _ _ _ _ _ z (heap_setCell_same _ _ _ _ _ y h)]
 match k,hk with
 | 0,_=>rfl
 | 1,_=>rfl
 | 2,_=>rfl
def RA(q:Nat→Nat)(k lo hi j b:Nat):Prop:=j<4∧((q j≤b∧b<q (j+1))∨(j=k∧lo≤b∧b<hi)∨(j=k+1∧hi≤b))
theorem by4{q:Nat→Nat}{k lo hi:Nat}(h1:∀ j,j<4→q j≤q (j+1))(h4:q 4≤lo)(h5:lo≤hi):∀ i j b,RA q k lo hi i b→RA q k lo hi j b→i=j:=by
 intro i j b ⟨i4,a⟩ ⟨j4,c⟩
 have m0:=h1 0 (by omega)
 have m1:=h1 1 (by omega)
 have m2:=h1 2 (by omega)
 have m3:=h1 3 (by omega)
 have hi':i=0∨i=1∨i=2∨i=3:=by omega
 have hj':j=0∨j=1∨j=2∨j=3:=by omega
 simp only [Nat.zero_add,Nat.reduceAdd] at m0 m1 m2 m3
 rcases hi' with rfl | rfl | rfl | rfl<;>rcases hj' with rfl | rfl | rfl | rfl<;>simp only [Nat.zero_add,Nat.reduceAdd] at a c<;>omega
theorem bqd{q:Nat→Nat}{k lo hi n:Nat}(h1:∀ j,j<4→q j≤q (j+1))(h0:n≤q 0)(h4:q 4≤lo)(h5:lo≤hi):∀ j b,RA q k lo hi j b→n≤b:=by
 intro j b ⟨j4,c⟩
 have m0:=h1 0 (by omega)
 have m1:=h1 1 (by omega)
 have m2:=h1 2 (by omega)
 have m3:=h1 3 (by omega)
 have hj':j=0∨j=1∨j=2∨j=3:=by omega
 simp only [Nat.zero_add,Nat.reduceAdd] at m0 m1 m2 m3
 rcases hj' with rfl | rfl | rfl | rfl<;>simp only [Nat.zero_add,Nat.reduceAdd] at c<;>omega
theorem bl6{w w2 WX:World}{q:Nat→Nat}{k lo hi:Nat}{d:Nat→CD}{x:Nat→Value}{dY dZ:CD}{y z:Value}(hb:Below w.heap.size w WX)(h1:∀ j,j<4→q j≤q (j+1))(h0:w.heap.size≤q 0)(h4:q 4≤lo)(h5:lo≤hi)(hr:∀ j,j<4→RS (nm (q j) (q (j+1)) w2) sR (d j) (x j))(hold:∀ i,i<w2.heap.size→w.heap.size≤i→i<q 4→WX.heap[i]? = w2.heap[i]?)
  (hy:RS (fun i o=>RA q k lo hi k i∧WX.heap[i]? = some o∧Nice o) sR dY y) (hz:RS (fun i o=>RA q k lo hi (k+1) i∧WX.heap[i]? = some o∧Nice o) sR dZ z) :
  FourA w WX (RA q k lo hi) (at2 k dY dZ (d 0) 0) (at2 k dY dZ (d 1) 1) (at2 k dY dZ (d 2) 2) (at2 k dY dZ (d 3) 3) (at2 k y z (x 0) 0) (at2 k y z (x 1) 1) (at2 k y z (x 2) 2) (at2 k y z (x 3) 3):=by
 have all:∀ j,j<4→RS (fun i o=>RA q k lo hi j i∧WX.heap[i]? = some o∧Nice o) sR (at2 k dY dZ (d j) j) (at2 k y z (x j) j):=by
  intro j hj
  unfold at2
  by_cases e:j=k
  ·rw [if_pos e,if_pos e,e]
   exact hy
  ·rw [if_neg e,if_neg e]
   by_cases e':j=k+1
   ·rw [if_pos e',if_pos e',e']
    exact hz
   ·rw [if_neg e',if_neg e']
    refine(hr j hj).mono fun i o hi'=>?_
    have ha:RA q k lo hi j i:=⟨hj,.inl ⟨hi'.1,hi'.2.1⟩⟩
    have hn:=bqd h1 h0 h4 h5 j i ha
    have hq:q (j+1)≤q 4:=by
     have m1:=h1 1 (by omega)
     have m2:=h1 2 (by omega)
     have m3:=h1 3 (by omega)
     simp only [Nat.reduceAdd] at m1 m2 m3
     match j,hj with
     | 0,_=>show q 1≤q 4;omega
     | 1,_=>show q 2≤q 4;omega
     | 2,_=>show q 3≤q 4;omega
     | 3,_=>exact Rl _
    exact⟨ha,(hold i (Ga.1 hi'.2.2.1).1 hn (Nat.lt_of_lt_of_le hi'.2.1 hq)).trans hi'.2.2.1,hi'.2.2.2⟩
 exact⟨hb,bqd h1 h0 h4 h5,by4 h1 h4 h5,all 0 (by omega),all 1 (by omega),all 2 (by omega),all 3 (by omega)⟩
theorem ba6{k:Nat}{a b c:Option Addr}{a1 a2 b1 b2 c1 c2:Nat}(j:Nat):∃ (e:Option Addr) (i m:Nat),at2 k (Value.slice a a1 a2) (Value.slice b b1 b2) (Value.slice c c1 c2) j=Value.slice e i m:=by
 unfold at2
 by_cases h:j=k
 ·rw [if_pos h];exact⟨_,_,_,rfl⟩
 ·rw [if_neg h]
  by_cases h':j=k+1
  ·rw [if_pos h'];exact⟨_,_,_,rfl⟩
  ·rw [if_neg h'];exact⟨_,_,_,rfl⟩
theorem bt3{w w2 W3 w5 w6 w7 W8 w9:World}{L Fd Id Nd:CD}{q:Nat→Nat}{k:Nat}{ya za pa b0 b1 b2 b3:Option Addr}{yn yc zn zc pn pc m0 d0 m1 d1 m2 d2 m3 d3:Nat}{F I lk ll ln:List R5}{g:Nat→Nat}{M:Mem}(hk:k<3)
  (hb02:Below w.heap.size w w2) (hq0:w.heap.size+2≤q 0) (hq1:∀ j,j<4→q j≤q (j+1)) (hq2:q 4≤w2.heap.size)
  (hr4:RS (nm (q 0) (q 1) w2) sR (levD L (0:Nat)) (.slice b0 m0 d0)∧RS (nm (q 1) (q 2) w2) sR (levD L (1:Nat)) (.slice b1 m1 d1)∧RS (nm (q 2) (q 3) w2) sR (levD L (2:Nat)) (.slice b2 m2 d2)∧RS (nm (q 3) (q 4) w2) sR (levD L (3:Nat)) (.slice b3 m3 d3))
  (hs23:w2.heap.size<W3.heap.size) (hb23:Below w2.heap.size w2 W3) (hrk:RelL (nm (q k) (q (k+1)) w2) (levD L k).rows lk) (hrf:RelL M Fd.rows F)
  (h4:Below W3.drew.heap.size W3.drew w5∧OwnR W3.drew.heap.size w5 (.slice ya yn yc) (lk.filter (woL F)))
  (h5:Below w5.drew.heap.size w5.drew w6∧OwnR w5.drew.heap.size w6 (.slice za zn zc) (ll.filter (woL I)))
  (hb67:Below w6.heap.size w6 w7) (hb07:Below w.heap.size w w7)
  (h8:Below w5.drew.heap.size w7 W8∧(∀ i,i<w7.heap.size→(∀ b c,Value.slice za zn zc=.slice (some ⟨b,0,none⟩) (ll.filter (woL I)).length c→i≠b)→W8.heap[i]? = w7.heap[i]?)∧((W8.heap.size=w7.heap.size∧∃ b c,Value.slice za zn zc=.slice (some ⟨b,0,none⟩) (ll.filter (woL I)).length c∧Value.slice pa pn pc=.slice (some ⟨b,0,none⟩) (ll.filter (woL I)++ln).length c)∨Value.slice pa pn pc=nilV∨∃ c,Value.slice pa pn pc=.slice (some ⟨w7.heap.size,0,none⟩) (ll.filter (woL I)++ln).length c))
  (hrel:RelL (fun i o=>W8.heap[i]? = some o∧Nice o∧((q (k+1)≤i∧i<q (k+2))∨(w6.heap.size≤i∧i<w7.heap.size))) ((levD L (k+1:Nat)).rows.filter (woR Id.rows)++Nd.rows) (ll.filter (woL I)++ln))
  (hg:Sorted ((levD L (k+1:Nat)).rows.filter (woR Id.rows)++Nd.rows) g (ll.filter (woL I)++ln).length)
  (ho9:OwnR w5.drew.heap.size w9 (.slice pa pn pc) (lst (fun k=>(ll.filter (woL I)++ln).getD (g k) R5.z) 0 (ll.filter (woL I)++ln).length))
  (hb9:Below w5.drew.heap.size W8 w9) (hf9:∀ i,i<W8.heap.size→(∀ b c,Value.slice pa pn pc=.slice (some ⟨b,0,none⟩) (ll.filter (woL I)++ln).length c→i≠b)→w9.heap[i]? = W8.heap[i]?)
  (ha9:w9.heap[w2.heap.size]? = some (.cells #[.slice b0 m0 d0,.slice b1 m1 d1,.slice b2 m2 d2,.slice b3 m3 d3] 78 (0,0))) {WX:World} (hWX:WX=((w9.setCell ⟨w2.heap.size,k,none⟩ (.slice ya yn yc)).setCell ⟨w2.heap.size,k+1,none⟩ (.slice pa pn pc)).drew) :
  ∃ (A:Nat→Nat→Prop) (e0:Option Addr) (i0 j0:Nat) (e1:Option Addr) (i1 j1:Nat) (e2:Option Addr) (i2 j2:Nat) (e3:Option Addr) (i3 j3:Nat) (d:Nat→CD),FourA w WX A (d 0) (d 1) (d 2) (d 3) (.slice e0 i0 j0) (.slice e1 i1 j1) (.slice e2 i2 j2) (.slice e3 i3 j3)∧WX.heap[w2.heap.size]? = some (.cells #[.slice e0 i0 j0,.slice e1 i1 j1,.slice e2 i2 j2,.slice e3 i3 j3] 78 (0,0))∧(∀ j,j≠k→j≠k+1→d j=levD L (j:Nat))∧(d k).rows=(levD L k).rows.filter (woR Fd.rows)∧(d (k+1)).rows=lst (fun i=>((levD L (k+1:Nat)).rows.filter (woR Id.rows)++Nd.rows).getD (g i) []) 0 (ll.filter (woL I)++ln).length:=by
 have hs0:=hb02.size
 have hs35:W3.heap.size≤w5.heap.size:=h4.1.size
 have hs56:w5.heap.size≤w6.heap.size:=h5.1.size
 have hs67:=hb67.size
 have hs78:w7.heap.size≤W8.heap.size:=h8.1.size
 have hs89:W8.heap.size≤w9.heap.size:=hb9.size
 have old9:∀ i,i≠w2.heap.size→WX.heap[i]? = w9.heap[i]?:=fun i hi=>by
  rw [hWX]
  show((w9.setCell _ _).setCell _ _).heap[i]? = _
  rw [Below.heap_setCell _ ⟨w2.heap.size,k+1,none⟩ _ i hi,Below.heap_setCell _ ⟨w2.heap.size,k,none⟩ _ i hi]
 have old95:∀ i,i<w5.heap.size→w9.heap[i]? = w5.heap[i]?:=fun i hi=>by
  rw [hb9.block i hi,h8.1.block i hi,hb67.block i (by omega),h5.1.block i hi]
  rfl
 have old5:∀ i,i<w5.heap.size→i≠w2.heap.size→WX.heap[i]? = w5.heap[i]?:=fun i hi hn=>(old9 i hn).trans (old95 i hi)
 have old2:∀ i,i<w2.heap.size→WX.heap[i]? = w2.heap[i]?:=fun i hi=>by
  rw [old5 i (by omega) (by omega),h4.1.block i (show i<W3.heap.size by omega)]
  exact hb23.block i hi
 have hq4:q (k+2)≤q 4:=by
  have m3:=hq1 3 (by omega)
  have m2:=hq1 2 (by omega)
  simp only [Nat.reduceAdd] at m2 m3
  match k,hk with
  | 0,_=>show q 2≤q 4;omega
  | 1,_=>show q 3≤q 4;omega
  | 2,_=>exact Rl _
 have hbw:Below w.heap.size w WX:=by
  have h79:Below w.heap.size w w9:=(hb07.trans (h8.1.mono (by show w.heap.size≤w5.heap.size;omega))).trans (hb9.mono (by show w.heap.size≤w5.heap.size;omega))
  rw [hWX]
  exact((h79.setCell (p:=⟨w2.heap.size,k,none⟩) hs0 _).setCell (p:=⟨w2.heap.size,k+1,none⟩) hs0 _).drew
 obtain⟨dY,hdY,rY⟩:=bql (M:=fun i o=>RA q k W3.heap.size w5.heap.size k i∧WX.heap[i]? = some o∧Nice o) h4.2 (aoc (bz1 hrf) hrk)
  (fun i o hi hw hn=>by
   have hlt:=(Ga.1 hw).1
   have hi:W3.heap.size≤i:=hi
   exact⟨⟨by omega,.inr (.inl ⟨rfl,hi,hlt⟩)⟩,(old5 i hlt (by omega)).trans hw,hn⟩)
  (fun i o hi=>⟨⟨by omega,.inl ⟨hi.1,hi.2.1⟩⟩,(old2 i (Ga.1 hi.2.2.1).1).trans hi.2.2.1,hi.2.2.2⟩)
 have hz7:∀ i o,w6.heap.size≤i→i<w7.heap.size→W8.heap[i]? = some o→w9.heap[i]? = some o:=fun i o h6 h7 hw=>by
  rw [hf9 i (by omega) ?_]
  ·exact hw
  ·intro b c e hb
   rcases h8.2.2 with ⟨_,b',c',e1,e2⟩ | e1 | ⟨c',e1⟩
   ·rw [e2] at e
    injection e with e _ _
    injection e with e
    injection e with e
    rcases h5.2 with ⟨_,e'⟩ | ⟨blk,cap,e',ho⟩
    ·rw [e'] at e1
     cases e1
    ·rw [e'] at e1
     obtain⟨arr,t,h1,_⟩:=ho.obj
     have hlt:=(Ga.1 h1).1
     have:blk=b':=by injection e1 with e1 _ _;injection e1 with e1;injection e1
     omega
   ·rw [e1] at e
    cases e
   ·rw [e1] at e
    injection e with e _ _
    injection e with e
    injection e with e
    omega
 obtain⟨dZ,hdZ,rZ⟩:=bql (M:=fun i o=>RA q k W3.heap.size w5.heap.size (k+1) i∧WX.heap[i]? = some o∧Nice o) ho9 (bns hrel (fun j hj=>(hg.bk.mem (Nat.zero_le _) hj).2))
  (fun i o hi hw hn=>by
   have hi:w5.heap.size≤i:=hi
   exact⟨⟨by omega,.inr (.inr ⟨rfl,hi⟩)⟩,(old9 i (by omega)).trans hw,hn⟩)
  (fun i o hi=>by
   obtain⟨h1,h2,h3 | h3⟩:=hi
   ·exact⟨⟨by omega,.inl h3⟩,by rw [old2 i (by omega),← h1,← hb9.block i (show i<w5.heap.size by omega),old95 i (by omega)];have:=old5 i (by omega) (by omega);rw [← this];exact(old2 i (by omega)).symm,h2⟩
   ·exact⟨⟨by omega,.inr (.inr ⟨rfl,by omega⟩)⟩,by rw [old9 i (by omega)];exact hz7 i o h3.1 h3.2 h1,h2⟩)
 have hfa:=bl6 (d:=fun j=>levD L (j:Nat)) (x:=fun j=>[Value.slice b0 m0 d0,.slice b1 m1 d1,.slice b2 m2 d2,.slice b3 m3 d3].getD j nilV) hbw hq1 (by omega) (by omega:q 4≤W3.heap.size) hs35
  (fun j hj=>match j,hj with
   | 0,_=>hr4.1
   | 1,_=>hr4.2.1
   | 2,_=>hr4.2.2.1
   | 3,_=>hr4.2.2.2)
  (fun i hi _ _=>old2 i hi) rY rZ
 have hset:WX.heap[w2.heap.size]? = _:=hWX ▸ set2 (y:=.slice ya yn yc) (z:=.slice pa pn pc) ha9 hk
 obtain⟨e0,i0,j0,s0⟩:=ba6 (k:=k) (a:=ya) (a1:=yn) (a2:=yc) (b:=pa) (b1:=pn) (b2:=pc) (c:=b0) (c1:=m0) (c2:=d0) 0
 obtain⟨e1,i1,j1,s1⟩:=ba6 (k:=k) (a:=ya) (a1:=yn) (a2:=yc) (b:=pa) (b1:=pn) (b2:=pc) (c:=b1) (c1:=m1) (c2:=d1) 1
 obtain⟨e2,i2,j2,s2⟩:=ba6 (k:=k) (a:=ya) (a1:=yn) (a2:=yc) (b:=pa) (b1:=pn) (b2:=pc) (c:=b2) (c1:=m2) (c2:=d2) 2
 obtain⟨e3,i3,j3,s3⟩:=ba6 (k:=k) (a:=ya) (a1:=yn) (a2:=yc) (b:=pa) (b1:=pn) (b2:=pc) (c:=b3) (c1:=m3) (c2:=d3) 3
 rw [s0,s1,s2,s3] at hset
 refine⟨RA q k W3.heap.size w5.heap.size,e0,i0,j0,e1,i1,j1,e2,i2,j2,e3,i3,j3,fun j=>at2 k dY dZ (levD L (j:Nat)) j,?_,hset,fun j h1 h2=>?_,?_,?_⟩
 ·rw [← s0,← s1,← s2,← s3]
  exact hfa
 ·show at2 k dY dZ (levD L (j:Nat)) j=_
  unfold at2
  rw [if_neg h1,if_neg h2]
 ·show(at2 k dY dZ (levD L (k:Nat)) k).rows=_
  unfold at2
  rw [if_pos rfl]
  exact hdY
 ·show(at2 k dY dZ (levD L (k+1:Nat)) (k+1)).rows=_
  unfold at2
  rw [if_neg (by omega),if_pos rfl]
  exact hdZ
end Go.Proofs.Ytlbbkmcegbeckaa
