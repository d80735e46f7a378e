/-
  Results written over, by what they read as. Conditions: none.
-/
import Derived.Test.YtlbbkmcegbeckaaSbT
set_option linter.unusedSectionVars false
set_option linter.unusedVariables false
set_option linter.unusedSimpArgs false
namespace Go.Proofs.Ytlbbkmcegbeckaa
open Go.Sx Go.Proofs
theorem us39(l a b c d e:CD):@Us.u U 39 [l,a,b,c,d,e]=addD l [a,b,c,d,e]:=rfl
noncomputable def S10:Fsp:=⟨[(false,[sLev]),(true,sRun)],[.ap .not [.ap (.usr 12) [.var 0,I 40]],.ap .le [.ap .len [.var 4],I 200],.ap .le [.ap .len [.var 5],I 200]],[(false,[sLev]),(false,[.int .i64])],[([],[[.ap (.usr 39) [.var 0,.var 1,.var 2,.var 3,.var 4,.var 5]],[.ap (.usr 37) [.var 0,.var 1,.var 2,.var 3,.var 4,.var 5]]])],true⟩
set_option maxRecDepth 100000 in
theorem c10:b3m U Try.prog 10 S10:=by
 intro σ hU m w us htw hm hargs hpre
 obtain⟨v⟩:=σ
 cases hU
 rw [at10.call]
 obtain⟨u1,u2,hus,h1,h2⟩:=c0c hargs
 have hus:us = #[u1,u2]:=by rw [← Array.toList_inj,hus]
 subst hus
 have h1:RS m sLev (v 0) u1:=h1
 have h2:b5z m (true,sRun) [v 1,v 2,v 3,v 4,v 5] u2:=h2
 have hp:small (v 0)∧((v 4).len:Int)≤200∧((v 5).len:Int)≤200:=by
  unfold S10 at hpre
  simp only [b3o,b3t,b3s,b3z,b4d,b40,b4l,b31,w_wr,b_lt,b_le,b_eq,b3w,b4s,b_or,b3y,b3p,b3i,b4x,b30,b33,b3k,b35,w_mk,b3l,b4e,caj,b41,b4z,b4m,b4w,b4y,b3v,b3x,b4v,w_l0,w_l1,b3e,b3d,b3u,b3b,b3c,b3g,b3f,b67,b7c,b7d,b66,b9s,b9r,b7e,cak,us12] at hpre
  exact⟨hpre.1,hpre.2.1,hpre.2.2.1⟩
 obtain⟨p1,p2,p3⟩:=hp
 show Calls Try.prog 10 #[u1,u2] w _
 have e:List.map (@denL (@Sg.mk U v)) [[.ap (.usr 39) [.var 0,.var 1,.var 2,.var 3,.var 4,.var 5]],[.ap (.usr 37) [.var 0,.var 1,.var 2,.var 3,.var 4,.var 5]]]=[[addD (v 0) [v 1,v 2,v 3,v 4,v 5]],[vInt .i64 (addN (v 0) [v 1,v 2,v 3,v 4,v 5])]]:=by
  simp only [List.map_cons,List.map_nil,w_l1,w_l0,b3v,b3o,us39,us37]
 by_cases ho:b6q (v 0) [v 1,v 2,v 3,v 4,v 5]=true
 ·refine(cxk (h1.mono hm) p1 (b5z.mono hm h2) p2 p3 ho).mono fun e' w' hh=>?_
  obtain⟨s,rfl,hb,hr,_⟩:=hh
  have hn:addN (v 0) [v 1,v 2,v 3,v 4,v 5]=0:=if_pos ho
  refine⟨_,rfl,⟨hb.block,hb.size,hb.os,hb.tape,hb.output⟩,_,List.mem_cons_self ..,holds0,?_⟩
  show ResR _ [(false,[sLev]),(false,[.int .i64])] (List.map (@denL (@Sg.mk U v)) [[.ap (.usr 39) [.var 0,.var 1,.var 2,.var 3,.var 4,.var 5]],[.ap (.usr 37) [.var 0,.var 1,.var 2,.var 3,.var 4,.var 5]]]) _
  rw [e,hn]
  exact⟨[s,.int .i64 0],⟨RS.mono (m':=fun k ob=>(w.heap.size≤k∧w'.heap[k]? = some ob∧Nice ob)∨(S10.fresh=false∧m k ob)) (fun k o hk=>Or.inl ⟨hk.1,hk.2.2.1,hk.2.2.2⟩) hr,⟨0,rfl,rfl,rfl⟩,trivial⟩,rfl⟩
 ·have ho:b6q (v 0) [v 1,v 2,v 3,v 4,v 5]=false:=Bool.eq_false_iff.2 ho
  refine(cs9 (h1.mono hm) p1 (b5z.mono hm h2) ho).mono fun e' w' hh=>?_
  obtain⟨rfl,hb⟩:=hh
  obtain⟨e1,e2⟩:=c6c ho
  refine⟨_,rfl,⟨hb.block,hb.size,hb.os,hb.tape,hb.output⟩,_,List.mem_cons_self ..,holds0,?_⟩
  show ResR _ [(false,[sLev]),(false,[.int .i64])] (List.map (@denL (@Sg.mk U v)) [[.ap (.usr 39) [.var 0,.var 1,.var 2,.var 3,.var 4,.var 5]],[.ap (.usr 37) [.var 0,.var 1,.var 2,.var 3,.var 4,.var 5]]]) _
  rw [e,e1,e2]
  exact⟨[nilV,.int .i64 2],⟨.inl ⟨rfl,rfl⟩,⟨2,rfl,rfl,rfl⟩,trivial⟩,rfl⟩
noncomputable def T22:List (FuncId×Fsp):=[(10,S10),(15,S15),(18,S18),(19,S19)]
set_option maxRecDepth 100000 in
theorem hT22:b70 U Try.prog T22:=.cons c10 (.cons c15 (.cons c18 (.cons c19 .nil)))
noncomputable def c7x:List (FuncId×Inl):=[(60,⟨Try.f60,noH⟩),(61,⟨Try.f61,noH⟩),(102,⟨Try.f102,noH⟩)]
set_option maxRecDepth 100000 in
theorem dbk:cer U Try.prog c7x:=.cons (.of at60 (by kernel_rfl)) (.cons (.of at61 (by kernel_rfl)) (.cons (.of ddx (by kernel_rfl)) .nil))
noncomputable def S22:Fsp:=⟨[],[],[(false,[.bool])],[([],[[.lit (.bool true)]])],true⟩
noncomputable abbrev bX(n:Int):X:=.ap .snoc [.ap (.nil false) [],.lit (.int .u8 n)]
noncomputable abbrev xX:X:=.ap (.usr 39) [nilX,I 1,I 0,I 1,bX 97,bX 99]
noncomputable abbrev yX:X:=.ap (.usr 39) [xX,I 2,I 0,I 1,bX 98,bX 100]
noncomputable def das:Fm→HP→List X:=fun _ _=>[.ap .not [.ap (.usr 12) [nilX,I 40]],.ap .le [.ap .len [bX 97],I 200],.ap .le [.ap .len [bX 99],I 200]]
noncomputable def dau:Fm→HP→List X:=fun _ _=>[.ap .not [.ap (.usr 12) [xX,I 40]],.ap .le [.ap .len [bX 98],I 200],.ap .le [.ap .len [bX 100],I 200]]
noncomputable def dav:Fm→HP→List X:=fun _ _=>[.ap .eq [.ap (.usr 37) [nilX,I 1,I 0,I 1,bX 97,bX 99],I 0],.ap .eq [.ap (.usr 37) [xX,I 2,I 0,I 1,bX 98,bX 100],I 0],.ap .not [.ap (.usr 12) [yX,I 40]]]
abbrev b7a:X:=(.ap (.nil false) [])
abbrev cie:X:=(.ap .snoc [b7a,(.lit (.int .u8 100))])
abbrev cif:X:=(.ap .snoc [b7a,(.lit (.int .u8 99))])
abbrev c0l:X:=(.ap .snoc [(.ap .snoc [b7a,(.lit (.int .i64 2)),(.lit (.int .i64 0)),(.lit (.int .i64 1)),(.ap .snoc [b7a,(.lit (.int .u8 98))]),cie]),(.lit (.int .i64 1)),(.lit (.int .i64 0)),(.lit (.int .i64 1)),(.ap .snoc [b7a,(.lit (.int .u8 97))]),cif])
abbrev cqm:X:=(.ap (.usr 39) [(.ap (.nil true) []),(.lit (.int .i64 1)),(.lit (.int .i64 0)),(.lit (.int .i64 1)),(.ap .snoc [b7a,(.lit (.int .u8 97))]),cif])
abbrev cid:X:=(.ap (.usr 39) [cqm,(.lit (.int .i64 2)),(.lit (.int .i64 0)),(.lit (.int .i64 1)),(.ap .snoc [b7a,(.lit (.int .u8 98))]),cie])
abbrev cu9:X:=(.ap (.usr 37) [(.ap (.nil true) []),(.lit (.int .i64 1)),(.lit (.int .i64 0)),(.lit (.int .i64 1)),(.ap .snoc [b7a,(.lit (.int .u8 97))]),cif])
abbrev cva:X:=(.ap (.usr 37) [cqm,(.lit (.int .i64 2)),(.lit (.int .i64 0)),(.lit (.int .i64 1)),(.ap .snoc [b7a,(.lit (.int .u8 98))]),cie])
abbrev c0m:X:=(.ap (.usr 8) [cid,(.ap .snoc [(.ap .snoc [(.ap .snoc [(.ap .snoc [b7a,c0l]),(.ap (.nil true) [])]),(.ap (.nil true) [])]),(.ap (.nil true) [])])])
abbrev cu7:List X:=[(.ap (.typ (.sl [(.sl [(.int .i64),(.int .i64),(.int .i64),(.sl [(.int .u8)]),(.sl [(.int .u8)])])])) [cqm]),(.ap .le [(.lit (.int .i64 (-9223372036854775808))),cu9]),(.ap .le [cu9,(.lit (.int .i64 9223372036854775807))]),(.ap .not [(.ap (.usr 12) [(.ap (.nil true) []),(.lit (.int .i64 40))])]),(.ap .le [(.ap .len [(.ap .snoc [b7a,(.lit (.int .u8 97))])]),(.lit (.int .i64 200))]),(.ap .le [(.ap .len [cif]),(.lit (.int .i64 200))])]
abbrev cu8:List X:=(.ap (.typ (.sl [(.sl [(.int .i64),(.int .i64),(.int .i64),(.sl [(.int .u8)]),(.sl [(.int .u8)])])])) [cid])::(.ap .le [(.lit (.int .i64 (-9223372036854775808))),cva])::(.ap .le [cva,(.lit (.int .i64 9223372036854775807))])::(.ap .not [(.ap (.usr 12) [cqm,(.lit (.int .i64 40))])])::(.ap .le [(.ap .len [(.ap .snoc [b7a,(.lit (.int .u8 98))])]),(.lit (.int .i64 200))])::(.ap .le [(.ap .len [cie]),(.lit (.int .i64 200))])::cu7
abbrev c0k:List X:=(.ap .eq [cu9,(.lit (.int .i64 0))])::(.ap .eq [cva,(.lit (.int .i64 0))])::(.ap .not [(.ap (.usr 12) [cid,(.lit (.int .i64 40))])])::cu8
set_option maxRecDepth 100000 in
def c45:List VC:=[([],(.ap .not [(.ap (.usr 12) [(.ap (.nil true) []),(.lit (.int .i64 40))])])),
 ([],(.ap .le [(.ap .len [(.ap .snoc [b7a,(.lit (.int .u8 97))])]),(.lit (.int .i64 200))])),
 ([],(.ap .le [(.ap .len [cif]),(.lit (.int .i64 200))])),
 (cu7,(.ap .not [(.ap (.usr 12) [cqm,(.lit (.int .i64 40))])])),
 (cu7,(.ap .le [(.ap .len [(.ap .snoc [b7a,(.lit (.int .u8 98))])]),(.lit (.int .i64 200))])),
 (cu7,(.ap .le [(.ap .len [cie]),(.lit (.int .i64 200))])),
 (cu8,(.ap .eq [cu9,(.lit (.int .i64 0))])),
 (cu8,(.ap .eq [cva,(.lit (.int .i64 0))])),
 (cu8,(.ap .not [(.ap (.usr 12) [cid,(.lit (.int .i64 40))])]))]
set_option maxRecDepth 100000 in
def c9d:List (List X×List (List X)):=[(((.ap .not [c0m])::c0k),[[(.lit (.bool false))]]),
 (((.ap (.usr 6) [(.ap (.usr 35) [cid,cif,(.ap (.nil true) [])]),c0l])::c0m::c0k),[[(.ap (.usr 6) [(.ap (.usr 35) [cid,cie,(.ap .snoc [b7a,(.lit (.int .u8 101))])]),(.ap .snoc [b7a,(.lit (.int .i64 2)),(.lit (.int .i64 0)),(.lit (.int .i64 1)),(.ap .snoc [b7a,(.lit (.int .u8 98))]),cie])])]]),
 (((.ap .not [(.ap (.usr 6) [(.ap (.usr 35) [cid,cif,(.ap (.nil true) [])]),c0l])])::c0m::c0k),[[(.lit (.bool false))]])]
set_option maxRecDepth 100000 in
theorem dcl:runV Try.prog (cxOf Try.prog (b6d (tab T22)) 10 14 ⟨cmz c7x,noY,U.lc⟩ 3 22) ⟨b4p [],hintA [(1,das),(2,dau),(4,dav)]⟩ Try.f22 (b4b Try.f22) S22=some (c45,c9d):=by kernel_rfl
theorem czi{x:X}{l:List X}{v:Nat→CD}{p:Prop}(h:@Holds (@Sg.mk U v) (x::l))(e:(@den (@Sg.mk U v) x).bv=false):p:=by
 have h1:(@den (@Sg.mk U v) x).bv=true:=h x (List.mem_cons_self ..)
 rw [e] at h1
 cases h1
theorem ddr{hy:List X}{x:X}(h:∀ v:Nat→CD,(@den (@Sg.mk U v) x).bv=true):VCok U (hy,x):=fun σ hU hh=>by
 obtain⟨v⟩:=σ
 cases hU
 exact h v
set_option maxHeartbeats 4000000 in
set_option maxRecDepth 100000 in
theorem v22:∀ z∈c45,VCok U z:=by
 intro z hz
 unfold c45 at hz
 simp only [List.mem_cons,List.not_mem_nil,or_false] at hz
 repeat' (first | (rcases hz with rfl | hz) | subst hz)
 all_goals exact ddr fun v=>by kernel_rfl
set_option maxHeartbeats 4000000 in
set_option maxRecDepth 100000 in
theorem c22:b3m U Try.prog 22 S22:=by
 refine b3m.ofV (P:=Try.prog) (U:=U) (T:=(tab T22)) (l:=c7x) (y:=noY) (dp:=3) (f:=22) (fn:=Try.f22) (fuel:=10) (fk:=14) (hs:=⟨b4p [],hintA [(1,das),(2,dau),(4,dav)]⟩) (S:=S22) (v:=c45) (outs:=c9d) mixed hT22 dbk at22 (b8j (by kernel_rfl)) dcl v22 ?_
 intro o ho σ hU hh
 obtain⟨v⟩:=σ
 cases hU
 simp only [c9d,List.mem_cons,List.not_mem_nil,or_false] at ho
 rcases ho with rfl | rfl | rfl
 ·exact czi hh (by kernel_rfl)
 ·exact⟨_,List.mem_cons_self ..,holds0,by kernel_rfl⟩
 ·exact czi hh (by kernel_rfl)
end Go.Proofs.Ytlbbkmcegbeckaa

set_option linter.all false
namespace Go.Proofs.Ytlbbkmcegbeckaa
open Go.Sx Go.Proofs Go.RowKit Go.Lib
theorem c7z{u:Value}(h:is8 u=true):∃ z,u=.int .u8 z:=by
 unfold is8 at h
 split at h
 ·exact⟨_,rfl⟩
 ·cases h
def b4o(w:World)(b n:Nat):Prop:=∃ arr t fr,w.heap[b]? = some (.cells arr t fr)∧UF fr arr.size∧n≤arr.size∧∀ (j:Nat) (u:Value),arr[j]? = some u→is8 u=true
structure ByteStep (b:Nat) (w w':World):Prop where
 os:w'.os=w.os
 tape:w'.tape=w.tape
 output:w'.output=w.output
 size:w'.heap.size=w.heap.size
 other:∀ k,k≠b→w'.heap[k]? = w.heap[k]?
 keep:∀ n,b4o w b n→b4o w' b n
theorem ByteStep.refl(b:Nat)(w:World):ByteStep b w w:=⟨rfl,rfl,rfl,rfl,fun _ _=>rfl,fun _ h=>h⟩
theorem c2u{b j:Nat}{w0 w:World}{v:Int}(h:ByteStep b w0 w):ByteStep b w0 (w.setCell ⟨b,j,none⟩ (.int .u8 v)):=by
 refine⟨h.os,h.tape,h.output,by rw [World.size_setCell];exact h.size,fun k hk=>(Below.heap_setCell w ⟨b,j,none⟩ _ k hk).trans (h.other k hk),fun n hn=>?_⟩
 obtain⟨arr,t,fr,h1,h2,h3,h4⟩:=h.keep n hn
 have h1':(w.setCell ⟨b,j,none⟩ (.int .u8 v)).heap[b]? = some (.cells (arr.setIfInBounds j (.int .u8 v)) t fr):=by
  unfold World.setCell
  simp [Array.getElem?_modify,h1]
 refine⟨_,t,fr,h1',by rw [Array.size_setIfInBounds];exact h2,by rw [Array.size_setIfInBounds];exact h3,fun i u hi=>?_⟩
 by_cases hij:j=i
 ·subst hij
  rw [Array.getElem?_setIfInBounds_self] at hi
  split at hi
  ·cases hi;rfl
  ·cases hi
 ·rw [Array.getElem?_setIfInBounds_ne hij] at hi
  exact h4 i u hi
set_option maxHeartbeats 1000000 in
set_option maxRecDepth 100000 in
theorem c4w(w:World):Calls Try.prog 59 #[nilV] w fun e w'=>e=.returned (.tuple #[])∧w'=w:=by
 go_enter Try.func59,Try.ntmps59
 go_wp2_with fail
 go_loopw [3] (fun q wr=>q=.int .i64 0∧wr=w) (fun _ _=>0)
 case atStart=>exact⟨rfl,rfl⟩
 case round =>
  obtain⟨rfl,rfl⟩:=hrel
  go_wp2_with fail
  go_returns
  exact⟨rfl,rfl⟩
set_option maxHeartbeats 1000000 in
set_option maxRecDepth 100000 in
theorem cww{w:World}{b off n cap:Nat}(h:b4o w b (off+cap))(hn:n≤cap)(hc:cap≤Go.Sx.maxN):Calls Try.prog 59 #[.slice (some ⟨b,off,none⟩) n cap] w fun e w'=>e=.returned (.tuple #[])∧ByteStep b w w':=by
 have HH:=hidj h
 have HC:=hidj hc
 clear h hc
 have hb0:(0:Int)≤(cap:Int):=Int.natCast_nonneg _
 go_enter Try.func59,Try.ntmps59
 go_wp2_with fail
 go_loopw [3] (fun q wr=>∃ k:Nat,k≤cap∧q=.int .i64 (k:Int)∧Hid (ByteStep b w wr)) (fun q _=>cap - (RowKit.intOf q).toNat)
 case atStart=>exact⟨0,Nat.zero_le _,rfl,hidj (ByteStep.refl b w)⟩
 case round =>
  obtain⟨k,hk,rfl,HW⟩:=hrel
  by_cases hkn:k<cap
  ·obtain⟨arr,t,fr,h1,h2,h3,h4⟩:=HW.out.keep _ HH.out
   have hlt:off+k<arr.size:=by omega
   obtain⟨z,hz⟩:=c7z (h4 (off+k) _ (Array.getElem?_eq_getElem hlt))
   have hcell:wr.cell? ⟨b,off+k,none⟩=some (.int .u8 z):=by
    haveI:Sg:=sg0
    rw [cell?_of h1,Array.getElem?_eq_getElem hlt,hz]
   have hfr:wr.frozen? ⟨b,off+k,none⟩=false:=cs3 h1 h2 hlt
   have hk0:(0:Int)≤(k:Int):=Int.natCast_nonneg _
   have hk1:(k:Int)<(cap:Int):=by omega
   clear h1 h2 h3 h4 hz hlt
   have hkw:IntKind.i64.wrap ((k:Int)+1)=(k:Int)+1:=by have h1:=HC.out;rw [IntKind.wrap_i64];unfold Go.Sx.maxN at h1;omega
   go_wp2_with fail
   exact⟨⟨k+1,by omega,by go_num,hidj (c2u HW.out)⟩,by simp [RowKit.intOf];omega⟩
  ·have hke:k=cap:=by omega
   subst hke
   go_wp2_with fail
   go_returns
   exact⟨rfl,HW.out⟩
def cje(P:Nat→Prop)(w:World)(v:Value):Prop:=v=nilV∨∃ d o n c,v=.slice (some ⟨d,o,none⟩) n c∧n≤c∧c≤Go.Sx.maxN∧P d∧b4o w d (o+c)
def crl(P:Nat→Prop)(w:World)(b off n:Nat):Prop:=∃ arr t fr,w.heap[b]? = some (.cells arr t fr)∧UF fr arr.size∧off+n*5≤arr.size∧(∀ (j:Nat) (u:Value),arr[j]? = some u→is8 u=false) ∧
 ∀ i,i<n→∃ z0 z1 z2 v3 v4,arr[off+i*5]? = some (.int .i64 z0)∧arr[off+i*5+1]? = some (.int .i64 z1)∧arr[off+i*5+2]? = some (.int .i64 z2)∧arr[off+i*5+3]? = some v3∧cje P w v3∧arr[off+i*5+4]? = some v4∧cje P w v4
structure Ov (P:Nat→Prop) (b:Nat) (w w':World):Prop where
 os:w'.os=w.os
 tape:w'.tape=w.tape
 output:w'.output=w.output
 size:w'.heap.size=w.heap.size
 other:∀ k,k≠b→w'.heap[k]? = w.heap[k]?∨(P k∧∃ m,b4o w k m)
 keep:∀ k n,b4o w k n→b4o w' k n
theorem Ov.refl(P:Nat→Prop)(b:Nat)(w:World):Ov P b w w:=⟨rfl,rfl,rfl,rfl,fun _ _=>.inl rfl,fun _ _ h=>h⟩
theorem Ov.byte{P:Nat→Prop}{b d m:Nat}{w0 w w':World}(h:Ov P b w0 w)(hs:ByteStep d w w')(hP:P d)(hd:b4o w d m)(hd0:d≠b→b4o w0 d 0∨True)(hbk:∀ k n,b4o w k n→(w0.heap[k]? = w.heap[k]?→b4o w0 k n)):Ov P b w0 w':=by
 refine⟨hs.os.trans h.os,hs.tape.trans h.tape,hs.output.trans h.output,hs.size.trans h.size,fun k hk=>?_,fun k n hn=>?_⟩
 ·by_cases hkd:k=d
  ·subst hkd
   rcases h.other k hk with h1 | h1
   ·exact .inr ⟨hP,m,hbk k m hd h1.symm⟩
   ·exact .inr h1
  ·rw [hs.other k hkd]
   exact h.other k hk
 ·by_cases hkd:k=d
  ·subst hkd
   exact hs.keep n (h.keep k n hn)
  ·have:=h.keep k n hn
   unfold b4o at this ⊢
   rw [hs.other k hkd]
   exact this
theorem cb7{w w0:World}{k n:Nat}(h:b4o w k n)(e:w0.heap[k]? = w.heap[k]?):b4o w0 k n:=by
 unfold b4o at h ⊢
 rw [e]
 exact h
theorem ccj{P:Nat→Prop}{w w':World}{v:Value}(h:cje P w v)(hk:∀ k n,b4o w k n→b4o w' k n):cje P w' v:=by
 rcases h with h | ⟨d,o,n,c,h1,h2,h3,h4,h5⟩
 ·exact .inl h
 ·exact .inr ⟨d,o,n,c,h1,h2,h3,h4,hk _ _ h5⟩
theorem c0w{P:Nat→Prop}{w:World}{b off n d m:Nat}(h:crl P w b off n)(hn:0<n)(hd:b4o w d m):d≠b:=by
 intro e
 subst e
 obtain⟨arr,t,fr,h1,h2,h3,h4,h5⟩:=h
 obtain⟨arr',t',fr',g1,g2,g3,g4⟩:=hd
 rw [h1] at g1
 cases g1
 obtain⟨z0,_,_,_,_,e0,_⟩:=h5 0 hn
 have:=g4 _ _ e0
 cases this
theorem c0v{P:Nat→Prop}{w w':World}{b off n:Nat}(h:crl P w b off n)(he:w'.heap[b]? = w.heap[b]?)(hk:∀ k n,b4o w k n→b4o w' k n):crl P w' b off n:=by
 obtain⟨arr,t,fr,h1,h2,h3,h4,h5⟩:=h
 refine⟨arr,t,fr,he.trans h1,h2,h3,h4,fun i hi=>?_⟩
 obtain⟨z0,z1,z2,v3,v4,e0,e1,e2,e3,g3,e4,g4⟩:=h5 i hi
 exact⟨z0,z1,z2,v3,v4,e0,e1,e2,e3,ccj g3 hk,e4,ccj g4 hk⟩
theorem c1g{d:Nat}{w w':World}(h:ByteStep d w w'):∀ k n,b4o w k n→b4o w' k n:=fun k n hn=>by
 by_cases hkd:k=d
 ·subst hkd
  exact h.keep n hn
 ·exact cb7 hn (h.other k hkd)
structure OvI (P:Nat→Prop) (w wr:World) (b off n:Nat):Prop where
 ov:Ov P b w wr
 rows:crl P wr b off n
theorem c4t{P:Nat→Prop}{w wr w':World}{b off n d m:Nat}(h:OvI P w wr b off n)(hn:0<n)(hs:ByteStep d wr w')(hP:P d)(hd:b4o wr d m):OvI P w w' b off n:=by
 have hne:=c0w h.rows hn hd
 exact⟨h.ov.byte hs hP hd (fun _=>.inr trivial) (fun k n hk e=>cb7 hk e),c0v h.rows (hs.other b (Ne.symm hne)) (c1g hs)⟩
set_option maxHeartbeats 1000000 in
set_option maxRecDepth 100000 in
theorem cuk{P:Nat→Prop}{w:World}{v:Value}(h:cje P w v):Calls Try.prog 59 #[v] w fun e w'=>e=.returned (.tuple #[])∧(w'=w∨∃ d m,P d∧b4o w d m∧ByteStep d w w'):=by
 rcases h with rfl | ⟨d,o,n,c,rfl,h2,h3,h4,h5⟩
 ·exact(c4w w).mono fun e w' hh=>⟨hh.1,.inl hh.2⟩
 ·exact(cww h5 h2 h3).mono fun e w' hh=>⟨hh.1,.inr ⟨d,_,h4,h5,hh.2⟩⟩
theorem cz5{P:Nat→Prop}{w wr w':World}{b off n:Nat}(h:OvI P w wr b off n)(hn:0<n)(hs:w'=wr∨∃ d m,P d∧b4o wr d m∧ByteStep d wr w'):OvI P w w' b off n:=by
 rcases hs with rfl | ⟨d,m,h1,h2,h3⟩
 ·exact h
 ·exact c4t h hn h3 h1 h2
theorem c0s{P:Nat→Prop}{w:World}{b off n i:Nat}(h:crl P w b off n)(hi:i<n):∃ z0 z1 z2 v3 v4,w.cell? ⟨b,off+i*5,none⟩=some (.int .i64 z0)∧w.cell? ⟨b,off+i*5+1,none⟩=some (.int .i64 z1)∧w.cell? ⟨b,off+i*5+2,none⟩=some (.int .i64 z2)∧w.cell? ⟨b,off+i*5+3,none⟩=some v3∧cje P w v3∧w.cell? ⟨b,off+i*5+4,none⟩=some v4∧cje P w v4∧∀ j,j<5→w.frozen? ⟨b,off+i*5+j,none⟩=false:=by
 haveI:Sg:=sg0
 obtain⟨arr,t,fr,h1,h2,h3,h4,h5⟩:=h
 obtain⟨z0,z1,z2,v3,v4,e0,e1,e2,e3,g3,e4,g4⟩:=h5 i hi
 refine⟨z0,z1,z2,v3,v4,by rw [cell?_of h1];exact e0,by rw [cell?_of h1];exact e1,by rw [cell?_of h1];exact e2,by rw [cell?_of h1];exact e3,g3,by rw [cell?_of h1];exact e4,g4,fun j hj=>cs3 h1 h2 ?_⟩
 have:=Nat.mul_le_mul_right 5 (show i+1≤n from hi)
 omega
theorem set5(w:World)(b o:Nat)(a0 a1 a2 a3 a4:Value):w.setCells b o [a0,a1,a2,a3,a4]=((((w.setCell ⟨b,o,none⟩ a0).setCell ⟨b,o+1,none⟩ a1).setCell ⟨b,o+2,none⟩ a2).setCell ⟨b,o+3,none⟩ a3).setCell ⟨b,o+4,none⟩ a4:=rfl
theorem at5n{q:Nat}{u:Value}(hlt:q<5)(h:some u=[Value.int .i64 0,.int .i64 0,.int .i64 0,nilV,nilV][q]?):is8 u=false:=by
 match q,hlt with
 | 0,_=>cases h;rfl
 | 1,_=>cases h;rfl
 | 2,_=>cases h;rfl
 | 3,_=>cases h;rfl
 | 4,_=>cases h;rfl
theorem cz4{P:Nat→Prop}{w wr:World}{b off n k:Nat}(h:OvI P w wr b off n)(hk:k<n):OvI P w (((((wr.setCell ⟨b,off+k*5,none⟩ (.int .i64 0)).setCell ⟨b,off+k*5+1,none⟩ (.int .i64 0)).setCell ⟨b,off+k*5+2,none⟩ (.int .i64 0)).setCell ⟨b,off+k*5+3,none⟩ nilV).setCell ⟨b,off+k*5+4,none⟩ nilV) b off n:=by
 rw [← set5]
 have hrows:=h.rows
 obtain⟨arr,t,fr,h1,h2,h3,h4,h5⟩:=h.rows
 obtain⟨arr',g1,g2,g3,g4⟩:=b5x [.int .i64 0,.int .i64 0,.int .i64 0,nilV,nilV] (off+k*5) wr arr h1
 have hk5:=Nat.mul_le_mul_right 5 (show k+1≤n from hk)
 have hne:∀ i,i≠b→(wr.setCells b (off+k*5) [.int .i64 0,.int .i64 0,.int .i64 0,nilV,nilV]).heap[i]? = wr.heap[i]?:=fun i hi=>b5b hi _ _ _
 have hbk:∀ i m,b4o wr i m→b4o (wr.setCells b (off+k*5) [.int .i64 0,.int .i64 0,.int .i64 0,nilV,nilV]) i m:=fun i m hm=>cb7 hm (hne i (c0w hrows (by omega) hm))
 have at5:∀ j,j<5→arr'[off+k*5+j]? = [Value.int .i64 0,.int .i64 0,.int .i64 0,nilV,nilV][j]?:=fun j hj=>by
  rw [g3 j _ (List.getElem?_eq_getElem hj) (by omega),List.getElem?_eq_getElem hj]
 have out:∀ m,(m<off+k*5∨off+k*5+5≤m)→arr'[m]? = arr[m]?:=g4
 have hb:=below_setCells (lo:=0) (w:=wr) b (Nat.zero_le _) [.int .i64 0,.int .i64 0,.int .i64 0,nilV,nilV] (off+k*5) wr (Below.refl 0 wr)
 refine⟨⟨hb.os.trans h.ov.os,hb.tape.trans h.ov.tape,hb.output.trans h.ov.output,?_,fun i hi=>?_,fun i m hm=>hbk i m (h.ov.keep i m hm)⟩,arr',t,fr,g1,by rw [g2];exact h2,by rw [g2];exact h3,fun j u hj=>?_,fun i hi=>?_⟩
 ·rw [size_setCells];exact h.ov.size
 ·rw [hne i hi]
  exact h.ov.other i hi
 ·by_cases hin:off+k*5≤j∧j<off+k*5+5
  ·have:=at5 (j - (off+k*5)) (by omega)
   rw [show off+k*5+(j - (off+k*5))=j by omega,hj] at this
   exact at5n (show j - (off+k*5)<5 by omega) this
  ·rw [out j (by omega)] at hj
   exact h4 j u hj
 ·by_cases hik:i=k
  ·subst hik
   exact⟨0,0,0,nilV,nilV,at5 0 (by omega),at5 1 (by omega),at5 2 (by omega),at5 3 (by omega),.inl rfl,at5 4 (by omega),.inl rfl⟩
  ·obtain⟨z0,z1,z2,v3,v4,e0,e1,e2,e3,q3,e4,q4⟩:=h5 i hi
   have ho:∀ j,j<5→arr'[off+i*5+j]? = arr[off+i*5+j]?:=fun j hj=>out _ (by
    rcases Nat.lt_or_gt_of_ne hik with hlt | hlt
    ·have:=Nat.mul_le_mul_right 5 (show i+1≤k from hlt)
     omega
    ·have:=Nat.mul_le_mul_right 5 (show k+1≤i from hlt)
     omega)
   exact⟨z0,z1,z2,v3,v4,(ho 0 (by omega)).trans e0,(ho 1 (by omega)).trans e1,(ho 2 (by omega)).trans e2,(ho 3 (by omega)).trans e3,ccj q3 hbk,(ho 4 (by omega)).trans e4,ccj q4 hbk⟩
set_option maxHeartbeats 2000000 in
set_option maxRecDepth 100000 in
theorem cz6{P:Nat→Prop}{w:World}{b off n cap:Nat}(h:crl P w b off n)(hn:n≤cap)(hc:cap≤Go.Sx.maxN):Calls Try.prog 21 #[.slice (some ⟨b,off,none⟩) n cap] w fun e w'=>e=.returned (.tuple #[])∧Ov P b w w':=by
 have HI:=hidj (show OvI P w w b off n from⟨Ov.refl P b w,h⟩)
 have HC:=hidj hc
 clear h hc
 go_enter Try.func21,Try.ntmps21
 go_wp2_with fail
 go_loopw [2] (fun q wr=>∃ k:Nat,k≤n∧q=.int .i64 (k:Int)∧Hid (OvI P w wr b off n)) (fun q _=>n - (RowKit.intOf q).toNat)
 case atStart=>exact⟨0,Nat.zero_le _,rfl,HI⟩
 case round =>
  obtain⟨k,hk,rfl,HW⟩:=hrel
  by_cases hkn:k<n
  ·obtain⟨z0,z1,z2,v3,v4,e0,e1,e2,e3,g3,e4,g4,hf⟩:=c0s HW.out.rows hkn
   have HG:=hidj g3
   have hk0:(0:Int)≤(k:Int):=Int.natCast_nonneg _
   have hk1:(k:Int)<(n:Int):=by omega
   have hkw:IntKind.i64.wrap ((k:Int)+1)=(k:Int)+1:=by have h1:=HC.out;rw [IntKind.wrap_i64];unfold Go.Sx.maxN at h1;omega
   clear e0 e1 e2 e4 g3 g4 hf
   go_wp2_with fail
   refine(cuk HG.out).mono ?_
   rintro e w2 ⟨rfl,hs2⟩
   have H2:=hidj (cz5 HW.out (by omega) hs2)
   clear hs2 HG e3
   obtain⟨z0,z1,z2,v3,v4,e0,e1,e2,e3,g3,e4,g4,hf⟩:=c0s H2.out.rows hkn
   have HG:=hidj g4
   clear e0 e1 e2 e3 g3 g4 hf
   go_wp2_with fail
   refine(cuk HG.out).mono ?_
   rintro e w3 ⟨rfl,hs3⟩
   have H3:=hidj (cz5 H2.out (by omega) hs3)
   clear hs3 HG e4
   obtain⟨z0,z1,z2,v3,v4,e0,e1,e2,e3,g3,e4,g4,hf⟩:=c0s H3.out.rows hkn
   have f0:=hf 0 (by omega)
   have f1:=hf 1 (by omega)
   have f2:=hf 2 (by omega)
   have f3:=hf 3 (by omega)
   have f4:=hf 4 (by omega)
   rw [Nat.add_zero] at f0
   clear g3 g4 hf
   go_wp2_with fail
   exact⟨⟨k+1,by omega,by go_num,hidj (cz4 H3.out hkn)⟩,by simp [RowKit.intOf];omega⟩
  ·have hke:k=n:=by omega
   subst hke
   go_wp2_with fail
   go_returns
   exact⟨rfl,HW.out.ov⟩
end Go.Proofs.Ytlbbkmcegbeckaa

namespace Go.Proofs.Ytlbbkmcegbeckaa
open Go.Sx Go.Proofs Go.RowKit Go.Lib
section
variable {W:World} {l m r f t:CD} {u u' a b:Value}
set_option maxRecDepth 100000 in
theorem crv(h:RS (memW W) sLev l u):Calls Try.prog 8 #[u,.int .i64 40] W fun e w'=>e=.returned (.bool (b4a l 40))∧Keep W w':=by
 refine(b4r c8 at8 (ofL [l,vInt .i64 40]) (us:=[u,.int .i64 40]) ⟨h,⟨40,rfl,rfl,rfl⟩,trivial⟩ holds0).mono fun e w' hh=>?_
 obtain⟨u',rfl,hk,o,ho,hx,hres⟩:=hh
 rw [List.mem_singleton.1 ho] at hres
 exact⟨by rw [ccv hres];rfl,hk⟩
set_option maxRecDepth 100000 in
theorem cwb(h:RS (memW W) sLev l u)(hs:small l)(hl:(l.len:Int)≤8):Calls Try.prog 9 #[u] W fun e w'=>∃ s,e=.returned s∧Keep W w'∧RS (newM W w') sLev (b48 l) s:=by
 refine(b4r c9 at9 (ofL [l]) (us:=[u]) ⟨h,trivial⟩ ?_).mono fun e w' hh=>?_
 ·unfold S9
  simp only [b3c,b3b,b3u,b_le,b3w,b30,b3o,b3t,b3v,w_l1,w_l0,b3s,us12,b3e,b3d]
  exact⟨hl,hs,trivial⟩
 obtain⟨u',rfl,hk,o,ho,hx,hres⟩:=hh
 rw [List.mem_singleton.1 ho] at hres
 exact⟨_,rfl,hk,(cvf hres).mono cpx⟩
set_option maxRecDepth 100000 in
theorem cma{r0 r1 r2 r3 r4:CD}(h:b5z (memW W) (true,sRun) [r0,r1,r2,r3,r4] u)(h1:(r3.len:Int)≤200)(h2:(r4.len:Int)≤200):Calls Try.prog 11 #[u] W fun e w'=>∃ s,e=.returned s∧Keep W w'∧b5z (newM W w') (true,sRun) (b6s [r0,r1,r2,r3,r4]) s:=by
 refine(b4r c11 at11 (ofL [r0,r1,r2,r3,r4]) (us:=[u]) ⟨h,trivial⟩ ?_).mono fun e w' hh=>?_
 ·unfold S11
  simp only [b3c,b3b,b3u,b_le,b30,b3o,b3t,b3s,b3e]
  exact⟨h1,h2,trivial⟩
 obtain⟨u',rfl,hk,o,ho,hx,hres⟩:=hh
 rw [List.mem_singleton.1 ho] at hres
 exact⟨_,rfl,hk,b5z.mono cpx (c0r hres)⟩
set_option maxRecDepth 100000 in
theorem cv6{r0 r1 r2 r3 r4:CD}(h:RS (memW W) sLev l u)(hv:b5z (memW W) (true,sRun) [r0,r1,r2,r3,r4] a)(hs:small l):Calls Try.prog 12 #[u,a] W fun e w'=>∃ s,e=.returned (.tuple #[s,.int .i64 (addN l [r0,r1,r2,r3,r4])])∧Keep W w'∧RS (memW w') sLev (addR l [r0,r1,r2,r3,r4]) s:=by
 refine(csu c12 at12 (ofL [l,r0,r1,r2,r3,r4]) (us:=[u,a]) ⟨h,hv,trivial⟩ ?_).mono fun e w' hh=>?_
 ·unfold S12
  simp only [b3c,b3b,b3u,b3w,b3o,b3t,b3v,w_l1,w_l0,b3s,us12,b3d]
  exact⟨hs,trivial⟩
 obtain⟨u',rfl,hk,o,ho,hx,hres⟩:=hh
 rw [List.mem_singleton.1 ho] at hres
 obtain⟨s,h1,rfl⟩:=dc5 hres
 exact⟨s,rfl,hk,h1⟩
set_option maxRecDepth 100000 in
theorem cwx(h:RS (memW W) sLev l u)(hs:small l):Calls Try.prog 13 #[u] W fun e w'=>e=.returned (.tuple #[.int .i64 (cfo l),.bool (cfm l)])∧Keep W w':=by
 refine(b4r c13 at13 (ofL [l]) (us:=[u]) ⟨h,trivial⟩ ?_).mono fun e w' hh=>?_
 ·unfold S13
  simp only [b3c,b3b,b3u,b3w,b3o,b3t,b3v,w_l1,w_l0,b3s,us12,b3d]
  exact⟨hs,trivial⟩
 obtain⟨u',rfl,hk,o,ho,hx,hres⟩:=hh
 rw [List.mem_singleton.1 ho] at hres
 exact⟨by rw [c6z hres];rfl,hk⟩
set_option maxRecDepth 100000 in
theorem csa(h:RS (memW W) sLev l u):Calls Try.prog 14 #[u] W fun e w'=>e=.returned (.tuple #[.int .i64 (cfo l),.bool (cfm l)])∧Keep W w':=by
 refine(b4r c14 at14 (ofL [l]) (us:=[u]) ⟨h,trivial⟩ holds0).mono fun e w' hh=>?_
 obtain⟨u',rfl,hk,o,ho,hx,hres⟩:=hh
 rw [List.mem_singleton.1 ho] at hres
 exact⟨by rw [c6z hres];rfl,hk⟩
set_option maxRecDepth 100000 in
theorem csq(h:RS (memW W) sLev l u)(h1:RS (memW W) sB f a)(h2:RS (memW W) sB t b)(hs:small l):Calls Try.prog 15 #[u,a,b] W fun e w'=>∃ s,e=.returned s∧Keep W w'∧RS (newM W w') sR (b57 l f t) s:=by
 refine(b4r c15 at15 (ofL [l,f,t]) (us:=[u,a,b]) ⟨h,h1,h2,trivial⟩ ?_).mono fun e w' hh=>?_
 ·unfold S15
  simp only [b3c,b3b,b3u,b3w,b3o,b3t,b3v,w_l1,w_l0,b3s,us12,b3d]
  exact⟨hs,trivial⟩
 obtain⟨u',rfl,hk,o,ho,hx,hres⟩:=hh
 rw [List.mem_singleton.1 ho] at hres
 exact⟨_,rfl,hk,(cvf hres).mono cpx⟩
set_option maxRecDepth 100000 in
theorem cqy(h:RS (memW W) sLev l u)(h1:RS (memW W) sB f a)(h2:RS (memW W) sB t b)(hs:small l):Calls Try.prog 20 #[u,a,b] W fun e w'=>∃ s,e=.returned s∧Keep W w'∧RS (memW w') sR (b57 l f t) s:=by
 refine(b4r c20 at20 (ofL [l,f,t]) (us:=[u,a,b]) ⟨h,h1,h2,trivial⟩ ?_).mono fun e w' hh=>?_
 ·unfold S20
  simp only [b3c,b3b,b3u,b3w,b3o,b3t,b3v,w_l1,w_l0,b3s,us12,b3d]
  exact⟨hs,trivial⟩
 obtain⟨u',rfl,hk,o,ho,hx,hres⟩:=hh
 rw [List.mem_singleton.1 ho] at hres
 refine⟨_,rfl,hk,(cvf hres).mono fun k o hko=>?_⟩
 rcases hko with ⟨_,h,_⟩ | ⟨_,h⟩
 ·exact h
 ·exact(hk.old k (Array.getElem?_eq_some_iff.1 h).1).trans h
set_option maxRecDepth 100000 in
theorem cbx(h:RS (memW W) sLev l u)(h1:RS (memW W) sLev m a):Calls Try.prog 18 #[u,a] W fun e w'=>e=.returned (.bool (ca2 l.rows m.rows))∧Keep W w':=by
 refine(b4r c18 at18 (ofL [l,m]) (us:=[u,a]) ⟨h,h1,trivial⟩ holds0).mono fun e w' hh=>?_
 obtain⟨u',rfl,hk,o,ho,hx,hres⟩:=hh
 rw [List.mem_singleton.1 ho] at hres
 exact⟨by rw [ccv hres];rfl,hk⟩
set_option maxRecDepth 100000 in
theorem cso(h:RS (memW W) sR l u)(h1:RS (memW W) sR m a):Calls Try.prog 19 #[u,a] W fun e w'=>e=.returned (.bool (b59 l.rows m.rows))∧Keep W w':=by
 refine(b4r c19 at19 (ofL [l,m]) (us:=[u,a]) ⟨h,h1,trivial⟩ holds0).mono fun e w' hh=>?_
 obtain⟨u',rfl,hk,o,ho,hx,hres⟩:=hh
 rw [List.mem_singleton.1 ho] at hres
 exact⟨by rw [ccv hres];rfl,hk⟩
set_option maxRecDepth 100000 in
theorem cge:Calls Try.prog 22 #[] W fun e w'=>e=.returned (.bool true)∧Keep W w':=by
 refine(b4r c22 at22 (fun _=>default) (us:=[]) trivial holds0).mono fun e w' hh=>?_
 obtain⟨u',rfl,hk,o,ho,hx,hres⟩:=hh
 rw [List.mem_singleton.1 ho] at hres
 exact⟨by rw [ccv (b:=true) hres],hk⟩
end
end Go.Proofs.Ytlbbkmcegbeckaa

namespace Go.Proofs.Ytlbbkmcegbeckaa
open Go.Sx Go.Proofs
theorem b6r(l:CD):(b48 l).rows=l.rows.map fun r=>[cgq (at' r 0)]:=rfl
theorem crs(d:CD):(cgq d).rows=d.rows.map b6s:=rfl
theorem dby(r:List CD):b5s (b6s r)=b5s r:=rfl
theorem getD_map{g:List CD→List CD}{l:List (List CD)}{i:Nat}(h:i<l.length):(l.map g).getD i []=g (l.getD i []):=by
 rw [List.getD_eq_getElem?_getD,List.getElem?_map,List.getElem?_eq_getElem h,List.getD_eq_getElem?_getD,List.getElem?_eq_getElem h]
 rfl
theorem cch{l:List (List CD)}{i:Nat}(h:l.length≤i):l.getD i []=[]:=by
 rw [List.getD_eq_getElem?_getD,List.getElem?_eq_none h]
 rfl
theorem cmb(l:CD)(n:Int):((b48 l).cell n 0).rows=(l.cell n 0).rows.map b6s:=by
 unfold CD.cell
 rw [b6r]
 by_cases h:n.toNat<l.rows.length
 ·rw [getD_map h]
  rfl
 ·rw [cch (by rw [List.length_map];omega),cch (by omega)]
  rfl
theorem c6h(l:CD):(b48 l).len=l.len:=by
 unfold CD.len
 rw [b6r,List.length_map]
theorem cdh(l:CD)(n:Int):((b48 l).cell n 0).len=(l.cell n 0).len:=by
 unfold CD.len
 rw [cmb,List.length_map]
theorem c4o{d e:CD}(n:Nat)(h:d.rows=e.rows.map b6s)(j:Nat):cbq n d j=cbq n e j:=by
 have h1:∀ i,b5s (d.rows.getD i [])=b5s (e.rows.getD i [])∧cmpC (at' (d.rows.getD (i - 1) []) 4) (at' (d.rows.getD i []) 3)=cmpC (at' (e.rows.getD (i - 1) []) 4) (at' (e.rows.getD i []) 3):=by
  intro i
  have key:∀ k,d.rows.getD k []=b6s (e.rows.getD k [])∨(d.rows.getD k []=[]∧e.rows.getD k []=[]):=fun k=>by
   rw [h]
   by_cases hk:k<e.rows.length
   ·exact .inl (getD_map hk)
   ·exact .inr ⟨cch (by rw [List.length_map];omega),cch (by omega)⟩
  rcases key i with h2 | ⟨h2,h3⟩<;>rcases key (i - 1) with h4 | ⟨h4,h5⟩
  ·rw [h2,h4];exact⟨rfl,rfl⟩
  ·rw [h2,h4,h5];exact⟨rfl,rfl⟩
  ·rw [h2,h3,h4];exact⟨rfl,rfl⟩
  ·rw [h2,h3,h4,h5];exact⟨rfl,rfl⟩
 unfold cbq
 rw [(h1 j).1,(h1 j).2]
theorem db2{d e:CD}(n:Nat)(h:d.rows=e.rows.map b6s):okD n d=okD n e:=by
 unfold okD
 rw [h,List.length_map]
 congr 1
 funext j
 exact c4o n h j
theorem cz2(l:CD):b4c (b48 l)=b4c l:=by
 unfold b4c
 rw [c6h,b6r,List.length_map]
 congr 1
 congr 1
 funext n
 rw [cz1,cz1]
 exact db2 n (cmb l n)
theorem cl1(l:CD)(r:List CD):b6q (b48 l) (b6s r)=b6q l r:=by
 unfold b6q
 rw [cz2,dby]
theorem c69(l:CD)(r:List CD):addN (b48 l) (b6s r)=addN l r:=by
 unfold addN
 rw [cl1]
theorem c4v(l:CD):cfo (b48 l)=cfo l:=by
 unfold cfo
 rw [cz2,cdh,cdh,cdh]
theorem c4u(l:CD):cfm (b48 l)=cfm l:=by
 unfold cfm
 rw [cz2,cdh,cdh,cdh]
theorem cxv(r:List CD):b68 (b6s r)=b68 r:=rfl
theorem any_congr{α:Type}{f g:α→Bool}(h:∀ x,f x=g x):∀ l:List α,l.any f=l.any g:=fun l=>by rw [funext h]
theorem cpg(d:CD)(k:Int):b3q (cgq d) k=b3q d k:=by
 unfold b3q CD.len
 rw [crs,List.length_map,List.any_map,any_congr (f:=b68∘b6s) cxv]
theorem c3r(l:CD)(k:Int):b4a (b48 l) k=b4a l k:=by
 unfold b4a
 rw [c6h,b6r,List.any_map]
 congr 1
 exact any_congr (fun r=>cpg (at' r 0) k) l.rows
def keyT(r:List CD):Prop:=eqC (at' r 0) (at' r 0)=true∧eqC (at' r 1) (at' r 1)=true∧eqC (at' r 2) (at' r 2)=true
theorem clk(a:CD):cbb a a=true:=beq_self_eq_true _
theorem b87{r:List CD}(h:keyT r):b8p (b6s r) r=true:=by
 show(eqC (at' r 0) (at' r 0)&&eqC (at' r 1) (at' r 1)&&eqC (at' r 2) (at' r 2)&&cbb (at' r 3) (at' r 3)&&cbb (at' r 4) (at' r 4))=true
 rw [h.1,h.2.1,h.2.2,clk,clk]
 rfl
theorem cal{f:List CD→List CD→Bool}{g:List CD→List CD}:∀ {l:List (List CD)},(∀ r∈l,f (g r) r=true)→allS f (l.map g) l=true
 | [],_=>rfl
 | r::l,h=>by
  show(f (g r) r&&allS f (l.map g) l)=true
  rw [h r (List.mem_cons_self ..),cal fun x hx=>h x (List.mem_cons_of_mem _ hx)]
  rfl
theorem c7l(z:Int):eqC (vInt .i64 z) (vInt .i64 z)=true:=by
 show decide (z=z)=true
 exact decide_eq_true rfl
theorem ceq{d:CD}(h:Typ (.int .i64) d):eqC d d=true:=by
 obtain⟨m,u,n,rfl,_⟩:=h
 exact c7l n
theorem cru{l:CD}(hT:Typ sR l):∀ r∈l.rows,keyT r:=fun r hr=>by
 obtain⟨i,hi,rfl⟩:=List.getElem_of_mem hr
 have h:=(hT.row (List.getElem?_eq_getElem hi)).2
 exact⟨ceq (h 0 _ rfl),ceq (h 1 _ rfl),ceq (h 2 _ rfl)⟩
theorem c05{d:CD}(hT:Typ sR d):b59 (d.rows.map b6s) d.rows=true:=cal fun r hr=>b87 (cru hT r hr)
theorem crw{l:CD}(hT:Typ sLev l):∀ r∈l.rows,Typ sR (at' r 0):=fun r hr=>by
 obtain⟨i,hi,rfl⟩:=List.getElem_of_mem hr
 exact(hT.row (List.getElem?_eq_getElem hi)).2 0 _ rfl
theorem c04{l:CD}(hT:Typ sLev l):ca2 (b48 l).rows l.rows=true:=by
 rw [b6r]
 exact cal fun r hr=>c05 (crw hT r hr)
theorem ct3{l:CD}(hT:Typ sLev l)(n:Int):∀ r∈(l.cell n 0).rows,keyT r:=fun r hr=>by
 unfold CD.cell at hr
 by_cases h:n.toNat<l.rows.length
 ·have hm:l.rows.getD n.toNat []∈l.rows:=by
   rw [List.getD_eq_getElem?_getD,List.getElem?_eq_getElem h]
   exact List.getElem_mem h
  exact cru (crw hT _ hm) r hr
 ·rw [cch (by omega)] at hr
  cases hr
theorem c5c{l:CD}{r:List CD}(hT:Typ sLev l)(hr:keyT r):ca2 (addD (b48 l) (b6s r)).rows (addR l r).rows=true:=by
 unfold addD addR
 rw [cl1]
 split
 ·have e:∀ n,(levD (b48 l) n).rows=(l.cell n 0).rows.map b6s:=fun n=>cmb l n
  have f:∀ n,(refD l n).rows=(l.cell n 0).rows∨((refD l n).rows=[]∧(l.cell n 0).rows=[] ):=fun n=>by
   unfold refD
   split
   ·exact .inl rfl
   ·rename_i h
    by_cases h0:0≤n
    ·exact .inr ⟨rfl,cb8 hT h0 h⟩
    ·exact absurd (Int.natCast_nonneg l.len) (by omega)
  have g:∀ n,b59 (levD (b48 l) n).rows (refD l n).rows=true:=fun n=>by
   rw [e]
   rcases f n with h | ⟨h,h'⟩
   ·rw [h]
    exact cal fun x hx=>b87 (ct3 hT n x hx)
   ·rw [h,h']
    rfl
  show((b8p (b6s r) r&&b59 ((b48 l).cell 0 0).rows (l.cell 0 0).rows)&&(b59 (levD (b48 l) 1).rows (refD l 1).rows&&(b59 (levD (b48 l) 2).rows (refD l 2).rows&&(b59 (levD (b48 l) 3).rows (refD l 3).rows&&true))))=true
  have g0:b59 ((l.cell 0 0).rows.map b6s) (l.cell 0 0).rows=true:=cal fun x hx=>b87 (ct3 hT 0 x hx)
  rw [b87 hr,g,g,g,cmb,g0]
  rfl
 ·rfl
theorem c5e(f t:CD)(rows:List (List CD)):b6c f t (rows.map b6s)=(b6c f t rows).map b6s:=by
 unfold b6c
 rw [List.filter_map]
 rfl
theorem c3v(l:CD):cba (b48 l)=(cba l).map fun x=>x.map b6s:=by
 unfold cba
 rw [b6r,List.map_map,List.map_map]
 rfl
theorem cyo(f t:CD):∀ ls:List (List (List CD)),(ls.map fun x=>x.map b6s).flatMap (b6c f t)=(ls.flatMap (b6c f t)).map b6s
 | []=>rfl
 | x::ls=>by
  rw [List.map_cons,List.flatMap_cons,List.flatMap_cons,List.map_append,c5e,cyo f t ls]
theorem cw4(l f t:CD):(b57 (b48 l) f t).rows=(b57 l f t).rows.map b6s:=by
 unfold b57
 rw [cz2]
 split
 ·rw [c3v,cyo]
  rfl
 ·rfl
theorem cpw{l f t:CD}{r:List CD}(h:r∈(b57 l f t).rows):b4c l=true∧∃ q∈l.rows,r∈(at' q 0).rows:=by
 unfold b57 at h
 split at h
 ·rename_i ho
  refine⟨ho,?_⟩
  have h:r∈(cba l).flatMap (b6c f t):=h
  rw [List.mem_flatMap] at h
  obtain⟨x,hx,hr⟩:=h
  unfold cba at hx
  obtain⟨q,hq,rfl⟩:=List.mem_map.1 hx
  exact⟨q,hq,(List.mem_filter.1 hr).1⟩
 ·cases h
theorem cw3{l f t:CD}(hT:Typ sLev l):b59 (b57 (b48 l) f t).rows (b57 l f t).rows=true:=by
 rw [cw4]
 exact cal fun r hr=>by
  obtain⟨_,q,hq,h⟩:=cpw hr
  exact b87 (cru (crw hT q hq) r h)
def keyed(r:List CD):Prop:=1≤(at' r 3).len∧1≤(at' r 4).len
theorem cpv{r:List CD}(h:b5s r=true):keyed r:=by
 unfold b5s at h
 simp only [Bool.and_eq_true,decide_eq_true_eq] at h
 exact⟨h.1.1.1.1.2,h.1.1.2⟩
theorem c8o{n:Nat}{d:CD}(h:okD n d=true):∀ r∈d.rows,b5s r=true:=fun r hr=>by
 obtain⟨i,hi,rfl⟩:=List.getElem_of_mem hr
 unfold okD at h
 rw [List.all_eq_true] at h
 have:=h i (List.mem_range.2 hi)
 unfold cbq at this
 rw [Bool.and_eq_true] at this
 have h1:=this.1
 rw [List.getD_eq_getElem?_getD,List.getElem?_eq_getElem hi] at h1
 exact h1
theorem b92{l:CD}(hT:Typ sLev l)(ho:b4c l=true)(n:Nat):∀ r∈(levD l n).rows,keyed r:=fun r hr=>cpv (c8o (chv n hT ho) r hr)
theorem cxj{l:CD}{r:List CD}(hT:Typ sLev l)(ho:b6q l r=true):∀ x∈(CD.sl false (r::(l.cell 0 0).rows)).rows,keyed x:=fun x hx=>by
 unfold b6q at ho
 rw [Bool.and_eq_true] at ho
 rcases List.mem_cons.1 hx with rfl | hx
 ·exact cpv ho.2
 ·exact b92 hT ho.1 0 x hx
theorem csr{l f t:CD}(hT:Typ sLev l):∀ r∈(b57 l f t).rows,keyed r:=fun r hr=>by
 obtain⟨ho,q,hq,h⟩:=cpw hr
 obtain⟨i,hi,rfl⟩:=List.getElem_of_mem hq
 have e:(levD l (i:Nat)).rows=(at' l.rows[i] 0).rows:=by
  show(l.cell (i:Nat) 0).rows=_
  unfold CD.cell
  rw [Int.toNat_natCast,show l.rows.getD i []=l.rows[i] by rw [List.getD_eq_getElem?_getD,List.getElem?_eq_getElem hi];rfl]
  rfl
 exact b92 hT ho i r (by rw [e];exact h)
end Go.Proofs.Ytlbbkmcegbeckaa

namespace Go.Proofs.Ytlbbkmcegbeckaa
open Go.Sx Go.Proofs Go.RowKit Go.Lib
def cv2(P:Nat→Prop)(w:World)(v:Value):Prop:=(∃ a cap,v=.slice a 0 cap)∨∃ b off n cap,v=.slice (some ⟨b,off,none⟩) n cap∧0<n∧n≤cap∧cap≤Go.Sx.maxN∧P b∧crl P w b off n
abbrev inP(P:Nat→Prop)(w:World):Mem:=fun k o=>P k∧w.heap[k]? = some o∧Nice o
theorem cyt{P:Nat→Prop}{w:World}{d:CD}{u:Value}(h:RS (inP P w) sB d u)(hl:1≤d.len):cje P w u:=by
 haveI:Sg:=sg0
 rcases(show(d=.sl true []∧u=.slice none 0 0)∨_ from h) with ⟨e1,rfl⟩ | ⟨rows,b,off,cap,e1,rfl,h3,h4,h5⟩ | ⟨a,e1,rfl⟩
 ·exact .inl rfl
 rotate_left
 ·exfalso
  rw [e1] at hl
  exact absurd hl (by decide)
 have hne:rows≠[]:=fun e=>by
  rw [e1,e] at hl
  exact absurd hl (by decide)
 obtain⟨arr,t,fr,⟨⟨g1,g2,arr0,t0,fr0,q1,q2,bb,q3⟩,g3⟩,g4⟩:=h5 hne
 cases q1
 refine .inr ⟨b,off,rows.length,cap,rfl,h3,h4,g1,arr,t,fr,g2,q2,?_,?_⟩
 ·have:off+cap*1≤arr.size:=g3
  omega
 ·have hb:bb=true:=by
   cases hr:rows with
   | nil=>exact absurd hr hne
   | cons x r =>
    obtain⟨c,_,u,_,e2,e3,_⟩:=g4 0 x (by rw [hr];rfl)
    rw [← q3 _ _ e2,e3.is8]
    rfl
  rw [← hb]
  exact q3
theorem c01{P:Nat→Prop}{w:World}{d:CD}{u:Value}(h:RS (inP P w) sR d u)(hk:∀ r∈d.rows,keyed r):cv2 P w u:=by
 haveI:Sg:=sg0
 rcases(show(d=.sl true []∧u=.slice none 0 0)∨_ from h) with ⟨e1,rfl⟩ | ⟨rows,b,off,cap,e1,rfl,h3,h4,h5⟩ | ⟨a,e1,rfl⟩
 ·exact .inl ⟨_,_,rfl⟩
 rotate_left
 ·exact .inl ⟨_,_,rfl⟩
 by_cases hne:rows=[]
 ·subst hne
  exact .inl ⟨_,_,rfl⟩
 obtain⟨arr,t,fr,⟨⟨g1,g2,arr0,t0,fr0,q1,q2,bb,q3⟩,g3⟩,g4⟩:=h5 hne
 cases q1
 have h0:0<rows.length:=by cases rows with
  | nil=>exact absurd rfl hne
  | cons x r=>simp
 have hlen:(5:Nat)=sRun.length:=rfl
 have g3:off+cap*5≤arr.size:=g3
 have hrow:∀ (i:Nat) (hi:i<rows.length),RSs (inP P w) sRun rows[i] fun j=>arr[off+i*5+j]?:=fun i hi=>g4 i _ (List.getElem?_eq_getElem hi)
 have hb:bb=false:=by
  obtain⟨c,_,u,_,e2,e3,_⟩:=hrow 0 h0
  rw [← q3 _ _ e2,e3.is8]
  rfl
 subst hb
 have hle:rows.length*5≤cap*5:=Nat.mul_le_mul_right 5 h3
 refine .inr ⟨b,off,rows.length,cap,rfl,h0,h3,h4,g1,arr,t,fr,g2,q2,by omega,q3,fun i hi=>?_⟩
 obtain⟨c0,q0',u0,e0,f0,⟨n0,k0,m0,_⟩,c1,q1',u1,e1',f1,⟨n1,k1,m1,_⟩,c2,q2',u2,e2,f2,⟨n2,k2,m2,_⟩,c3,q3',u3,e3,f3,r3,c4,q4',u4,e4,f4,r4,e5⟩:=hrow i hi
 have hkey:=hk rows[i] (by rw [e1];exact List.getElem_mem hi)
 have ha:rows[i]=[c0,c1,c2,c3,c4]:=by rw [e0,e1',e2,e3,e4,show q4'=[] from e5]
 rw [ha] at hkey
 subst m0;subst m1;subst m2
 exact⟨n0,n1,n2,u3,u4,f0,f1,f2,f3,cyt r3 hkey.1,f4,cyt r4 hkey.2⟩
set_option maxHeartbeats 1000000 in
set_option maxRecDepth 100000 in
theorem cz7(w:World)(a:Option Addr)(cap:Nat):Calls Try.prog 21 #[.slice a 0 cap] w fun e w'=>e=.returned (.tuple #[])∧w'=w:=by
 go_enter Try.func21,Try.ntmps21
 go_wp2_with fail
 go_loopw [2] (fun q wr=>q=.int .i64 0∧wr=w) (fun _ _=>0)
 case atStart=>exact⟨rfl,rfl⟩
 case round =>
  obtain⟨rfl,rfl⟩:=hrel
  go_wp2_with fail
  go_returns
  exact⟨rfl,rfl⟩
set_option maxRecDepth 100000 in
theorem ckm{P:Nat→Prop}{w:World}{v:Value}(h:cv2 P w v):Calls Try.prog 21 #[v] w fun e w'=>e=.returned (.tuple #[])∧(w'=w∨∃ b,P b∧Ov P b w w'):=by
 rcases h with ⟨a,cap,rfl⟩ | ⟨b,off,n,cap,rfl,_,h1,h2,h3,h4⟩
 ·exact(cz7 w a cap).mono fun e w' hh=>⟨hh.1,.inl hh.2⟩
 ·exact(cz6 h4 h1 h2).mono fun e w' hh=>⟨hh.1,.inr ⟨b,h3,hh.2⟩⟩
structure OvP (P:Nat→Prop) (w w':World):Prop where
 os:w'.os=w.os
 tape:w'.tape=w.tape
 output:w'.output=w.output
 size:w'.heap.size=w.heap.size
 other:∀ k,¬ P k→w'.heap[k]? = w.heap[k]?
theorem c6v{P:Nat→Prop}{w w':World}(h:w'=w∨∃ b,P b∧Ov P b w w'):OvP P w w':=by
 rcases h with rfl | ⟨b,hb,h⟩
 ·exact⟨rfl,rfl,rfl,rfl,fun _ _=>rfl⟩
 ·refine⟨h.os,h.tape,h.output,h.size,fun k hk=>?_⟩
  rcases h.other k (fun e=>hk (e ▸ hb)) with h1 | ⟨h1,_⟩
  ·exact h1
  ·exact absurd h1 hk
theorem cj6{P:Nat→Prop}{w w':World}{v:Value}(h:cje P w v)(he:∀ k,P k→w'.heap[k]? = w.heap[k]?):cje P w' v:=by
 rcases h with h | ⟨d,o,n,c,h1,h2,h3,h4,h5⟩
 ·exact .inl h
 ·exact .inr ⟨d,o,n,c,h1,h2,h3,h4,cb7 h5 (he d h4)⟩
theorem cw1{P:Nat→Prop}{w w':World}{v:Value}(h:cv2 P w v)(he:∀ k,P k→w'.heap[k]? = w.heap[k]?):cv2 P w' v:=by
 rcases h with h | ⟨b,off,n,cap,h1,h2,h3,h4,h5,arr,t,fr,g1,g2,g3,g4,g5⟩
 ·exact .inl h
 ·refine .inr ⟨b,off,n,cap,h1,h2,h3,h4,h5,arr,t,fr,(he b h5).trans g1,g2,g3,g4,fun i hi=>?_⟩
  obtain⟨z0,z1,z2,v3,v4,e0,e1,e2,e3,q3,e4,q4⟩:=g5 i hi
  exact⟨z0,z1,z2,v3,v4,e0,e1,e2,e3,cj6 q3 he,e4,cj6 q4 he⟩
end Go.Proofs.Ytlbbkmcegbeckaa
