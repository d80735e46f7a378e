/-
  Four levels in memory of their own, apart. Conditions: none.
-/
import Derived.Test.YtlbbkmcegbeckaaSbM
import Derived.Shelf.Spec.SlicesInsertGrow
import Derived.OwnWalk
import Derived.Laws.CopyOwn
import Derived.Laws.Rows
import Derived.Deep.RegionHeld3
import Derived.Handy
import Derived.Laws.ResultCell
set_option linter.all false
set_option maxRecDepth 100000
noncomputable section
namespace Go.Proofs.Ytlbbkmcegbeckaa
open Go.Sx Go.Proofs Go.RowKit Go.Lib
theorem al7{P:Program}(w:World)(dT sT ty elem:TypeId)(k b o dLen dCap:Nat)(a:Addr)(sLen sCap:Nat)(cs:List Value)
  (hu:P.underlying dT=some (.slice elem)) (hs:(P.info? elem).map (·.size)=some k) (hn:cs.length=Nat.min sLen dLen*k)
  (hsrc:∀ j v,cs[j]? = some v→w.cell? (a.add j)=some v) (hc:∀ j,j<cs.length→(w.cell? ⟨b,o+j,none⟩).isSome=true) (hf:∀ j,j<cs.length→w.frozen? ⟨b,o+j,none⟩=false) (h1:∀ v∈cs,v.oneCell'=true) :
  (Builtin.copy_ #[dT,sT] ty #[.slice (some ⟨b,o,none⟩) dLen dCap,.slice (some a) sLen sCap]).run P w=.ok (goInt (Nat.min sLen dLen)) (w.setCells b o cs):=by
 have hl:=run_loadCells_list (P:=P) w a cs hsrc
 have hst:=run_storeCells_cells (P:=P) b o cs 0 w (by simpa using hc) (by simpa using hf) h1
 cases hq:P.info? elem with
 | none=>simp [hq] at hs
 | some i =>
  have hi:i.size=k:=by simpa [hq] using hs
  simp [Builtin.copy_,run_underlying hu,Builtin.lenOf,Builtin.firstCells,sizeOf,typeInfo,hq,hi,← hn,hl,hst]
theorem ab5{b:Nat}{t:TypeId}{fr:Nat×Nat}:∀ (vs:List Value) (o:Nat) (w:World) (arr:Array Value),w.heap[b]? = some (.cells arr t fr)→∃ arr',(w.setCells b o vs).heap[b]? = some (.cells arr' t fr)∧arr'.size=arr.size∧(∀ j v,vs[j]? = some v→o+j<arr.size→arr'[o+j]? = some v)∧∀ j,(j<o∨o+vs.length≤j)→arr'[j]? = arr[j]?
 | [],o,w,arr,h=>⟨arr,h,rfl,fun j v hj=>by simp at hj,fun _ _=>rfl⟩
 | v::vs,o,w,arr,h=>by
  have h':(w.setCell ⟨b,o,none⟩ v).heap[b]? = some (.cells (arr.setIfInBounds o v) t fr):=by
   unfold World.setCell
   simp [Array.getElem?_modify,h]
  obtain⟨arr',h1,h2,h3,h4⟩:=ab5 vs (o+1) _ _ h'
  refine⟨arr',h1,by rw [h2];simp,fun j u hj hlt=>?_,fun j hj=>?_⟩
  ·cases j with
   | zero =>
    simp only [List.getElem?_cons_zero,Oi] at hj
    subst hj
    rw [Nat.add_zero,h4 o (Or.inl (by omega)),Array.getElem?_setIfInBounds_self_of_lt (by omega)]
   | succ j =>
    rw [show o+(j+1)=o+1+j by omega]
    exact h3 j u (by simpa using hj) (by simp;omega)
  ·rw [List.length_cons] at hj
   rw [h4 j (by omega),Array.getElem?_setIfInBounds_ne (by omega)]
theorem below_setCells{lo:Nat}{w:World}(b:Nat)(hb:lo≤b):∀ (vs:List Value) (o:Nat) (w':World),Below lo w w'→Below lo w (w'.setCells b o vs)
 | [],_,_,h=>h
 | v::vs,o,w',h=>below_setCells b hb vs (o+1) _ (h.setCell (p:=⟨b,o,none⟩) hb v)
theorem abo{b k:Nat}(hk:k≠b):∀ (vs:List Value) (o:Nat) (w:World),(w.setCells b o vs).heap[k]? = w.heap[k]?
 | [],_,_=>rfl
 | v::vs,o,w=>by
  rw [World.setCells,abo hk vs,Below.heap_setCell w ⟨b,o,none⟩ v k hk]
theorem size_setCells(b:Nat):∀ (vs:List Value) (o:Nat) (w:World),(w.setCells b o vs).heap.size=w.heap.size
 | [],_,_=>rfl
 | v::vs,o,w=>by rw [World.setCells,size_setCells b vs,World.size_setCell]
theorem avz:(Try.prog.info? 27).map (fun i=>(i.zero,i.size,i.bytes))=some (some (.agg #[.int .i64 0,.int .i64 0,.int .i64 0,.slice none 0 0,.slice none 0 0]),5,72):=by kernel_rfl
abbrev zRun:Value:=.agg #[.int .i64 0,.int .i64 0,.int .i64 0,.slice none 0 0,.slice none 0 0]
theorem t36:Try.prog.underlying 36=some (.slice 27):=by kernel_rfl
theorem t3:Try.prog.underlying 3=some (.int .i64):=by kernel_rfl
set_option maxHeartbeats 4000000 in
theorem bmh(b off n c vb vc:Nat)(cs vs:List Value)(w:World)(hn:0<n)(hnc:n≤c)(hroom:c<n+1)(hbig:n≤1000)
  (hcl:cs.length=n*5) (hvl:vs.length=5) (hcs:∀ j v,cs[j]? = some v→w.cell? ⟨b,off+j,none⟩=some v) (hvs:∀ j v,vs[j]? = some v→w.cell? ⟨vb,j,none⟩=some v) (h1c:∀ v∈cs,v.oneCell'=true) (h1v:∀ v∈vs,v.oneCell'=true) :
  Calls Try.prog 49 #[.slice (some ⟨b,off,none⟩) n c,.int .i64 0,.slice (some ⟨vb,0,none⟩) 1 vc] w fun e w' =>
   e=.returned (.slice (some ⟨w.heap.size,0,none⟩) (n+1) (grownCap w (n+1) c 27)) ∧
   w'=(((w.alloc (.cells (Builtin.zeroCells zRun.cells (n+1)++Builtin.zeroCells zRun.cells (grownCap w (n+1) c 27 - (n+1))) 27)).drew.setCells w.heap.size 0 vs).drew).setCells w.heap.size 5 cs:=by
 obtain⟨i0,hi0,hz0,hzs,hzb⟩:=info_parts avz
 have mixed:=Ytlbbkmcegbeckaa.mixed
 have hsz:(Try.prog.info? 27).map (·.size)=some 5:=by rw [hi0];simp [hzs]
 have hz1:¬ ((0:Int)=(n:Int)):=by omega
 have hz3:(c:Int)<(n:Int)+1:=by omega
 have hbw:b<w.heap.size:=block_lt_of_cell (hcs 0 _ (Gl (by omega)))
 have hvw:vb<w.heap.size:=block_lt_of_cell (hvs 0 _ (Gl (by omega)))
 have hold:(Builtin.firstCells i0.size 0 (.slice (some ⟨b,off,none⟩) 0 c)).run Try.prog w.drew=.ok ([]:List Value).toArray w.drew:=run_firstCells_some w.drew i0.size 0 ⟨b,off,none⟩ 0 c [] (by simp) (fun j v hj=>by simp at hj)
 have hrz:∀ ty,(Builtin.append_ #[36,3] ty #[.slice (some ⟨b,off,none⟩) 0 c,.int .i64 ((n:Int)+1)]).run Try.prog w =
   .ok (.slice (some ⟨w.heap.size,0,none⟩) (n+1) (grownCap w (n+1) c 27)) (w.drew.alloc (.cells (Builtin.zeroCells zRun.cells (n+1)++Builtin.zeroCells zRun.cells (grownCap w (n+1) c 27 - (n+1))) 27)):=fun ty=>by
  have h:=Lib.run_append_grow_zeros w 36 3 ty 27 i0 _ .i64 .i64 t36 t3 hi0 hz0 (some ⟨b,off,none⟩) 0 c [] hold (n+1) (by omega) (by omega) (by omega) (by omega) (by rw [hzb];omega) (by rw [hzb,Nat.zero_add];exact growslice_fits hroom (by omega))
  rw [Nat.zero_add] at h
  rw [show((n:Int)+1)=((n+1:Nat):Int) by omega]
  rw [h]
  simp
 obtain⟨G,hG⟩:∃ G,G=grownCap w (n+1) c 27:=⟨_,rfl⟩
 obtain⟨ROW,hROW⟩:∃ ROW:Array Value,ROW=Builtin.zeroCells zRun.cells (n+1)++Builtin.zeroCells zRun.cells (G - (n+1)):=⟨_,rfl⟩
 rw [← hG] at hrz ⊢
 rw [← hROW] at hrz ⊢
 have hRl:(n+1)*5≤ROW.size:=by
  rw [hROW]
  simp [Builtin.zeroCells,Value.cells]
 obtain⟨W1,hW1⟩:∃ W1,W1=w.drew.alloc (.cells ROW 27):=⟨_,rfl⟩
 rw [← hW1] at hrz
 have hN:∀ j,j<(n+1)*5→(W1.cell? ⟨w.heap.size,j,none⟩).isSome=true:=fun j hj=>by
  rw [hW1,World.cell?_alloc_at (w:=w.drew) ROW _ w.heap.size j rfl,Array.getElem?_eq_getElem (by omega)];rfl
 have hNf:∀ j,W1.frozen? ⟨w.heap.size,j,none⟩=false:=fun j=>by rw [hW1];exact World.frozen?_alloc_at (w:=w.drew) ROW _ w.heap.size j rfl
 have hOb:∀ j v,w.cell? ⟨b,j,none⟩=some v→W1.cell? ⟨b,j,none⟩=some v:=fun j v h=>by rw [hW1,World.cell?_alloc_past (w:=w.drew) _ b j hbw];exact h
 have hOv:∀ j v,w.cell? ⟨vb,j,none⟩=some v→W1.cell? ⟨vb,j,none⟩=some v:=fun j v h=>by rw [hW1,World.cell?_alloc_past (w:=w.drew) _ vb j hvw];exact h
 have hcpA:∀ (W:World),(∀ x,W.cell? x=W1.cell? x)→(∀ x,W.frozen? x=W1.frozen? x)→∀ ty dc,(Builtin.copy_ #[36,36] ty #[.slice (some ⟨w.heap.size,0,none⟩) (n+1) dc,.slice (some ⟨vb,0,none⟩) 1 vc]).run Try.prog W=.ok (goInt 1) (W.setCells w.heap.size 0 vs):=fun W hWc hWf ty dc=>by
  have h:=al7 (P:=Try.prog) W 36 36 ty 27 5 w.heap.size 0 (n+1) dc ⟨vb,0,none⟩ 1 vc vs t36 hsz (by rw [hvl];simp only [Nat.min_def];split<;>omega)
   (fun j v hj=>by rw [Addr.add_lit,hWc,Nat.zero_add];exact hOv _ v (hvs j v hj))
   (fun j hj=>by rw [hWc,Nat.zero_add];exact hN _ (by omega)) (fun j hj=>by rw [hWf];exact hNf _) h1v
  rw [show Nat.min 1 (n+1)=1 by simp only [Nat.min_def];split<;>omega] at h
  exact h
 have hGn:n+1≤G:=by rw [hG];exact grownCap_ge w _ _ _
 have hG63:G≤9223372036854775807:=by
  have:=grownCap_le_maxLen w (n+1) c 27 (by unfold maxLen;omega)
  rw [← hG] at this
  unfold maxLen at this
  omega
 have hGi:¬ (G=0):=by omega
 have hGim:¬ (G=1):=by omega
 have hci:¬ (c=0):=by omega
 have hbN:b≠w.heap.size:=by omega
 have hcpB:∀ (W:World),(∀ x,W.cell? x=(W1.setCells w.heap.size 0 vs).cell? x)→(∀ x,W.frozen? x=(W1.setCells w.heap.size 0 vs).frozen? x)→∀ ty dc sc,(Builtin.copy_ #[36,36] ty #[.slice (some ⟨w.heap.size,5,none⟩) n dc,.slice (some ⟨b,off,none⟩) n sc]).run Try.prog W=.ok (goInt n) (W.setCells w.heap.size 5 cs):=fun W hWc hWf ty dc sc=>by
  have h:=al7 (P:=Try.prog) W 36 36 ty 27 5 w.heap.size 5 n dc ⟨b,off,none⟩ n sc cs t36 hsz (by rw [hcl];simp only [Nat.min_def];split<;>omega)
   (fun j v hj=>by
    rw [Addr.add_lit,hWc,World.cell?_setCells_out _ _ _ _ _ (fun h _=>absurd h hbN)]
    exact hOb _ v (hcs j v hj))
   (fun j hj=>by rw [hWc];exact isSome_setCells _ _ _ _ (fun t ht=>hN _ (by omega)) _ (hN _ (by omega)))
   (fun j hj=>by rw [hWf,World.frozen?_setCells];exact hNf _) h1c
  rw [show Nat.min n n=n by simp only [Nat.min_def];split<;>omega] at h
  exact h
 subst hW1
 have hE1:∀ x,((w.alloc (.cells ROW 27)).drew).cell? x=(w.drew.alloc (.cells ROW 27)).cell? x:=fun x=>rfl
 have hE2:∀ x,((w.alloc (.cells ROW 27)).drew).frozen? x=(w.drew.alloc (.cells ROW 27)).frozen? x:=fun x=>rfl
 have hF1:∀ x,(((w.alloc (.cells ROW 27)).drew.setCells w.heap.size 0 vs).drew).cell? x=((w.drew.alloc (.cells ROW 27)).setCells w.heap.size 0 vs).cell? x:=fun x=>rfl
 have hF2:∀ x,(((w.alloc (.cells ROW 27)).drew.setCells w.heap.size 0 vs).drew).frozen? x=((w.drew.alloc (.cells ROW 27)).setCells w.heap.size 0 vs).frozen? x:=fun x=>rfl
 have hw1:IntKind.i64.wrap ((n:Int)+1)=(n:Int)+1:=by rw [IntKind.wrap_i64];omega
 have hw0:IntKind.i64.wrap 1=1:=by rw [IntKind.wrap_i64];omega
 have hb0:(0:Int)≤(n:Int):=by omega
 have hb1:(0:Int)≤(n:Int)+1:=by omega
 have hb2:(1:Int)≤(n:Int)+1:=by omega
 have hb3:((n:Int)+1).toNat=n+1:=by omega
 clear hold hROW hG hRl
 go_enter Try.func49,Try.ntmps49
 go_wp2_with (first
  | (at_builtin;refine Lib.wpList_append_run _ rfl _ _ _ _ rfl _ _ rfl rfl _ _ (hrz _) ?_)
  | (at_builtin;refine wpList_copy_runI _ rfl _ _ 36 36 rfl _ _ rfl rfl (hcpA _ hE1 hE2 _ _) ?_))
 go_region_law_o (refine step_copy_runI rfl _ _ 36 36 rfl (.slice (some ⟨w.heap.size,5,none⟩) n (G - 1)) (.slice (some ⟨b,off,none⟩) n c) (by simp [Act.eval,Act.put]) (by simp [Act.eval,Act.put]) (hcpB _ hF1 hF2 3 (G - 1) c) ?_)
 go_wp2
 go_ret
 exact⟨rfl,rfl⟩
set_option maxHeartbeats 4000000 in
theorem bg3(b off n c vb vc:Nat)(cs vs:List Value)(w:World)(hn:0<n)(hroom:n+1≤c)(hc63:c≤9223372036854775807)(hvb:vb≠b)
  (hcl:cs.length=n*5) (hvl:vs.length=5) (hcs:∀ j v,cs[j]? = some v→w.cell? ⟨b,off+j,none⟩=some v) (hsp:∀ j,j<(n+1)*5→(w.cell? ⟨b,off+j,none⟩).isSome=true) (hfz:∀ j,j<(n+1)*5→w.frozen? ⟨b,off+j,none⟩=false)
  (hvs:∀ j v,vs[j]? = some v→w.cell? ⟨vb,j,none⟩=some v) (h1c:∀ v∈cs,v.oneCell'=true) (h1v:∀ v∈vs,v.oneCell'=true)
  (tA tB:TypeId) (kA kB:Nat) (hsa:w.shape? vb=some (tA,kA)) (hsb:w.shape? b=some (tB,kB)) (hkB:kB≠0) (hfa:w.frozen? ⟨vb,0,none⟩=false) (hfe:w.frozen? ⟨vb,kA,none⟩=false) :
  Calls Try.prog 49 #[.slice (some ⟨b,off,none⟩) n c,.int .i64 0,.slice (some ⟨vb,0,none⟩) 1 vc] w fun e w' =>
   e=.returned (.slice (some ⟨b,off,none⟩) (n+1) c)∧w'=(w.drew.setCells b (off+5) cs).setCells b off vs:=by
 have mixed:=Ytlbbkmcegbeckaa.mixed
 have hsz:(Try.prog.info? 27).map (·.size)=some 5:=by kernel_rfl
 obtain⟨i0,hi0,hz0,hzs,hzb⟩:=info_parts avz
 have hzz:∀ w:World,(sizeOf 27).run Try.prog w=.ok 5 w:=fun w=>by simp [sizeOf,typeInfo,hi0,hzs]
 clear hi0 hz0 hzs hzb i0
 have hz1:¬ ((0:Int)=(n:Int)):=by omega
 have hov:∀ lb cb,(callFunc 95 #[.slice (some ⟨vb,0,none⟩) 1 vc,.slice (some ⟨b,off+5,none⟩) lb cb]).run Try.prog w=.ok (.value (.bool false)) w:=fun lb cb=>by
  rw [run_callFunc_extern Try.func95 (by kernel_rfl) (by kernel_rfl) (by kernel_rfl) (e:=Extern.SlicesOverlaps.overlaps #[36,36] #[4]) (by kernel_rfl),
   Lib.run_overlaps_apart w 36 4 27 t36 5 hzz ⟨vb,0,none⟩ ⟨b,off+5,none⟩ 1 vc lb cb hvb tA tB kA kB hsa hsb hkB hfa hfe]
  rfl
 have hw0:IntKind.i64.wrap 1=1:=by rw [IntKind.wrap_i64];omega
 have hw1:IntKind.i64.wrap ((n:Int)+1)=(n:Int)+1:=by rw [IntKind.wrap_i64];omega
 have hb0:(0:Int)≤(n:Int):=by omega
 have hb1:(0:Int)≤(n:Int)+1:=by omega
 have hb2:(1:Int)≤(n:Int)+1:=by omega
 have hb3:((n:Int)+1).toNat=n+1:=by omega
 have hb4:¬ (c=0):=by omega
 have hb5:¬ (c=1):=by omega
 have hb6:(n:Int)+1≤(c:Int):=by omega
 have hb7:¬ ((c:Int)<(n:Int)+1):=by omega
 have hcp1:∀ ty dc sc,(Builtin.copy_ #[36,36] ty #[.slice (some ⟨b,off+5,none⟩) n dc,.slice (some ⟨b,off,none⟩) (n+1) sc]).run Try.prog w.drew=.ok (goInt n) (w.drew.setCells b (off+5) cs):=fun ty dc sc=>by
  have h:=al7 (P:=Try.prog) w.drew 36 36 ty 27 5 b (off+5) n dc ⟨b,off,none⟩ (n+1) sc cs t36 hsz (by rw [hcl];simp only [Nat.min_def];split<;>omega)
   (fun j v hj=>by rw [Addr.add_lit];exact hcs j v hj)
   (fun j hj=>by rw [Nat.add_assoc];exact hsp _ (by omega)) (fun j hj=>by rw [Nat.add_assoc];exact hfz _ (by omega)) h1c
  rw [show Nat.min (n+1) n=n by simp only [Nat.min_def];split<;>omega] at h
  exact h
 obtain⟨W1,hW1⟩:∃ W1,W1=w.drew.setCells b (off+5) cs:=⟨_,rfl⟩
 have hsp1:∀ k,k<(n+1)*5→(W1.cell? ⟨b,off+k,none⟩).isSome=true:=fun k hk=>by
  rw [hW1]
  exact isSome_setCells b _ _ _ (fun j hj=>by rw [Nat.add_assoc];exact hsp _ (by omega)) _ (hsp k hk)
 have hcp2:∀ (W:World),(∀ x,W.cell? x=W1.cell? x)→(∀ x,W.frozen? x=W1.frozen? x)→∀ ty dc,(Builtin.copy_ #[36,36] ty #[.slice (some ⟨b,off,none⟩) (n+1) dc,.slice (some ⟨vb,0,none⟩) 1 vc]).run Try.prog W=.ok (goInt 1) (W.setCells b off vs):=fun W hWc hWf ty dc=>by
  have h:=al7 (P:=Try.prog) W 36 36 ty 27 5 b off (n+1) dc ⟨vb,0,none⟩ 1 vc vs t36 hsz (by rw [hvl];simp only [Nat.min_def];split<;>omega)
   (fun j v hj=>by
    rw [Addr.add_lit,hWc,hW1,World.cell?_setCells_out b _ _ _ _ (fun h _=>absurd h hvb),Nat.zero_add]
    exact hvs j v hj)
   (fun j hj=>by rw [hWc];exact hsp1 _ (by omega)) (fun j hj=>by rw [hWf,hW1,World.frozen?_setCells];exact hfz _ (by omega)) h1v
  rw [show Nat.min 1 (n+1)=1 by simp only [Nat.min_def];split<;>omega] at h
  exact h
 rw [← hW1] at hcp1
 go_enter Try.func49,Try.ntmps49
 go_wp2_with (simp only [hov])
 go_region_law_o (refine step_copy_runI rfl _ _ 36 36 rfl _ _ (by simp [Act.eval,Act.put]) (by simp [Act.eval,Act.put]) (hcp1 _ _ _) ?_)
 go_wp2_with (at_builtin;refine wpList_copy_runI _ rfl _ _ 36 36 rfl _ _ rfl rfl (hcp2 _ (fun _=>rfl) (fun _=>rfl) _ _) ?_)
 go_ret
 first | exact⟨rfl,rfl⟩ | exact⟨rfl,by rw [hW1]⟩
set_option maxHeartbeats 4000000 in
theorem br3(vb vc:Nat)(vs:List Value)(w:World)(hvl:vs.length=5)(hvs:∀ j v,vs[j]? = some v→w.cell? ⟨vb,j,none⟩=some v)(h1v:∀ v∈vs,v.oneCell'=true) :
  Calls Try.prog 49 #[.slice none 0 0,.int .i64 0,.slice (some ⟨vb,0,none⟩) 1 vc] w fun e w' =>
   e=.returned (.slice (some ⟨w.heap.size,0,none⟩) 1 (grownCap w 1 0 27))∧w'=w.drew.alloc (.cells (vs.toArray++Builtin.zeroCells zRun.cells (grownCap w 1 0 27 - 1)) 27):=by
 obtain⟨i0,hi0,hz0,hzs,hzb⟩:=info_parts avz
 have mixed:=Ytlbbkmcegbeckaa.mixed
 have hsrc:Src Try.prog i0.size 36 (.slice (some ⟨vb,0,none⟩) 1 vc) 1 vs w:=Src.ofSlice w t36 ⟨vb,0,none⟩ 1 vc vs (by rw [hzs];omega) (fun j u hj=>by rw [Addr.add_lit,Nat.zero_add];exact hvs j u hj) h1v
 have hold:(Builtin.firstCells i0.size 0 (.slice none 0 0)).run Try.prog w.drew=.ok ([]:List Value).toArray w.drew:=run_firstCells_none w.drew i0.size 0 0 0
 have hrun:∀ ty,(Builtin.append_ #[36,36] ty #[.slice none 0 0,.slice (some ⟨vb,0,none⟩) 1 vc]).run Try.prog w=.ok (.slice (some ⟨w.heap.size,0,none⟩) 1 (grownCap w 1 0 27)) (w.drew.alloc (.cells (vs.toArray++Builtin.zeroCells zRun.cells (grownCap w 1 0 27 - 1)) 27)):=fun ty=>by
  have h:=run_append_grow_src w 36 36 ty 27 i0 _ t36 hi0 hz0 none 0 0 [] hold _ 1 vs hsrc (by omega) (by omega) (by rw [hzb];exact growslice_fits (need:=0+1) (by omega) (by omega))
  simpa using h
 go_enter Try.func49,Try.ntmps49
 go_wp2_with (at_builtin;refine Lib.wpList_append_run _ rfl _ _ _ _ rfl _ _ rfl rfl _ _ (hrun _) ?_)
 go_ret
 exact⟨rfl,rfl⟩
def nm(lo hi:Nat)(w:World):Mem:=fun k o=>lo≤k∧k<hi∧w.heap[k]? = some o∧Nice o
def noB(m:Mem)(b:Nat):Prop:=∀ arr t fr,m b (.cells arr t fr)→∀ (j:Nat) (u:Value),arr[j]? = some u→is8 u=false
def wo(m:Mem)(b:Nat):Mem:=fun k o=>m k o∧k≠b
theorem bzd{m:Mem}{b:Nat}(h:noB m b){d:CD}{u:Value}(hr:RS m sB d u):RS (wo m b) sB d u:=by
 haveI:Sg:=sg0
 rcases(show(d=.sl true []∧u=.slice none 0 0)∨_ from hr) with h1 | ⟨rows,c,off,cap,h1,h2,h3,h4,h5⟩ | h1
 ·exact .inl h1
 rotate_left
 ·exact .inr (.inr h1)
 refine .inr (.inl ⟨rows,c,off,cap,h1,h2,h3,h4,fun hne=>?_⟩)
 obtain⟨arr,t,fr,⟨h6,h7⟩,h8⟩:=h5 hne
 have hc:c≠b:=by
  intro e
  subst e
  cases hrw:rows with
  | nil=>exact hne hrw
  | cons x r =>
   obtain⟨c0,r0,u0,e1,e2,e3,_⟩:=h8 0 x (by rw [hrw];rfl)
   have:=h arr t fr h6 _ _ e2
   rw [e3.is8] at this
   cases this
 refine⟨arr,t,fr,⟨⟨h6,hc⟩,h7⟩,fun i row hi=>?_⟩
 obtain⟨c0,r0,u0,e1,e2,e3,e4⟩:=h8 i row hi
 obtain⟨n,q1,q2,q3⟩:=e3
 exact⟨c0,r0,u0,e1,e2,⟨n,q1,q2,q3⟩,e4⟩
theorem bza{m:Mem}{b:Nat}(h:noB m b){row:List CD}{f:Nat→Option Value}(hr:RSs m sRun row f):RSs (wo m b) sRun row f:=by
 obtain⟨c0,r0,u0,e0,f0,⟨n0,g0⟩,c1,r1,u1,e1,f1,⟨n1,g1⟩,c2,r2,u2,e2,f2,⟨n2,g2⟩,c3,r3,u3,e3,f3,g3,c4,r4,u4,e4,f4,g4,e5⟩:=hr
 exact⟨c0,r0,u0,e0,f0,⟨n0,g0⟩,c1,r1,u1,e1,f1,⟨n1,g1⟩,c2,r2,u2,e2,f2,⟨n2,g2⟩,c3,r3,u3,e3,f3,bzd h g3,c4,r4,u4,e4,f4,bzd h g4,e5⟩
theorem bqt:uniS sRun=true:=rfl
theorem ba3{n j:Nat}{u:Value}(h:(Builtin.zeroCells zRun.cells n)[j]? = some u):is8 u=false:=by
 unfold Builtin.zeroCells at h
 rw [Array.getElem?_map] at h
 obtain⟨i,hi,rfl⟩:=Option.map_eq_some_iff.1 h
 have h5:i % zRun.cells.size<5:=Nat.mod_lt _ (by decide)
 have:zRun.cells.size=5:=rfl
 generalize hk:i % zRun.cells.size=k at *
 match k,h5 with
 | 0,_=>rfl
 | 1,_=>rfl
 | 2,_=>rfl
 | 3,_=>rfl
 | 4,_=>rfl
theorem ahg{n:Nat}:(Builtin.zeroCells zRun.cells n).size=n*5:=by
 unfold Builtin.zeroCells
 rw [Array.size_map,Array.size_range]
 rfl
theorem a15:maxLen=Go.Sx.maxN:=rfl
structure Ahead (arr:Array Value) (o cap:Nat) (vs cs:List Value):Prop where
 size:o+cap*5≤arr.size
 head:∀ j v,vs[j]? = some v→arr[o+j]? = some v
 tail:∀ j v,cs[j]? = some v→arr[o+5+j]? = some v
 no8:∀ (j:Nat) (u:Value),arr[j]? = some u→is8 u=false
theorem a3w{M m mr:Mem}{arr:Array Value}{o cap k:Nat}{vs cs:List Value}{rows:List (List CD)}{r:List CD}{t:TypeId}{fr:Nat×Nat}(hA:Ahead arr o cap vs cs)(hM:M k (.cells arr t fr))(hvl:vs.length=5)(hr:RSs mr sRun r fun j=>vs[j]?)(hf:Flat m sRun rows cs)
  (h1:∀ k o,mr k o→M k o) (h2:∀ k o,m k o→M k o) (hc:rows.length+1≤cap) (hc2:cap≤Go.Sx.maxN):RS M sR (.sl false (r::rows)) (.slice (some ⟨k,o,none⟩) (rows.length+1) cap):=by
 refine .inr (.inl ⟨r::rows,k,o,cap,rfl,rfl,hc,hc2,fun _=>⟨arr,t,fr,⟨hM,hA.size⟩,fun i row hi=>?_⟩⟩)
 cases i with
 | zero =>
  simp only [List.getElem?_cons_zero,Oi] at hi
  subst hi
  refine(hr.mono h1).congr fun j hj=>?_
  have hj:j<5:=hj
  rw [Nat.zero_mul,Nat.add_zero,hA.head j _ (Gl (by omega)),Gl (by omega)]
 | succ i =>
  rw [List.getElem?_cons_succ] at hi
  have hil:=(Ls.1 hi).1
  refine((hf.2 i row hi).mono h2).congr fun j hj=>?_
  have hj:j<5:=hj
  have h5:sRun.length=5:=rfl
  have hlt:i*5+j<cs.length:=by rw [hf.1,h5];omega
  rw [h5,show o+(i+1)*5+j=o+5+(i*5+j) by omega,hA.tail _ _ (Gl hlt),Gl hlt]
theorem row_one{m:Mem}{row:List CD}{vs:List Value}(hl:vs.length=5)(h:RSs m sRun row fun j=>vs[j]?):(∀ v∈vs,v.oneCell'=true)∧∀ (j:Nat) (v:Value),vs[j]? = some v→is8 v=false:=by
 haveI:Sg:=sg0
 have hf:=Flat.one (ws:=sRun) hl h
 exact⟨hf.one',fun j v hj=>aur hf bqt hj⟩
theorem bsd{w w':World}{lo hi:Nat}(h:∀ k,lo≤k→k<hi→w'.heap[k]? = w.heap[k]?){k:Nat}{o:Obj}(hk:nm lo hi w k o):lo≤k∧k<hi∧w'.heap[k]? = some o∧Nice o:=⟨hk.1,hk.2.1,(h k hk.1 hk.2.1).trans hk.2.2.1,hk.2.2.2⟩
theorem bdp{w:World}{b:Nat}{arr:Array Value}{t:TypeId}{fr:Nat×Nat}(h:w.heap[b]? = some (.cells arr t fr)):w.shape? b=some (t,arr.size):=by
 unfold World.shape?
 rw [h]
theorem ayj{w:World}{b j:Nat}{arr:Array Value}{t:TypeId}{fr:Nat×Nat}(h:w.heap[b]? = some (.cells arr t fr))(hu:UF fr arr.size)(hj:j<arr.size):w.frozen? ⟨b,j,none⟩=false:=haveI:Sg:=sg0;frozen?_of h hu hj
set_option maxHeartbeats 2000000 in
theorem bwt{w:World}{lo hi vb:Nat}{rows:List (List CD)}{r:List CD}{s0:Value}{vs:List Value}{mr:Mem}(h0:RS (nm lo hi w) sR (mkz rows) s0)(hlen:rows.length≤1000)(hlo:lo≤hi)(hhi:hi≤vb)(hv:w.heap[vb]? = some (.cells vs.toArray 27 (0,0)))(hvl:vs.length=5)(hr:RSs mr sRun r fun j=>vs[j]?) :
  Calls Try.prog 49 #[s0,.int .i64 0,.slice (some ⟨vb,0,none⟩) 1 1] w fun e w'=>∃ s',e=.returned s'∧Below lo w w'∧(∀ k,hi≤k→k<w.heap.size→w'.heap[k]? = w.heap[k]?) ∧
   ∀ M:Mem,(∀ k o,mr k o→M k o)→(∀ k o,lo≤k→(k<hi∨w.heap.size≤k)→w'.heap[k]? = some o→Nice o→M k o)→RS M sR (.sl false (r::rows)) s':=by
 haveI:Sg:=sg0
 have hvb:vb<w.heap.size:=(Ga.1 hv).1
 obtain⟨h1v,hv8⟩:=row_one hvl hr
 have hvs:∀ j v,vs[j]? = some v→w.cell? ⟨vb,j,none⟩=some v:=fun j v hj=>by
  rw [cell?_of hv,List.getElem?_toArray]
  exact hj
 have hnew:∀ {arr:Array Value} {t:TypeId} {fr:Nat×Nat},UF fr arr.size→(∀ (j:Nat) (u:Value),arr[j]? = some u→is8 u=false)→Nice (.cells arr t fr):=fun h1 h2=>⟨_,_,_,rfl,h1,false,h2⟩
 cases hrw:rows with
 | nil =>
  subst hrw
  have hs0:s0=.slice none 0 0:=by
   rcases(show(mkz []=.sl true []∧s0=.slice none 0 0)∨_ from h0) with h1 | ⟨_,_,_,_,h1,_⟩ | ⟨_,h1,_⟩
   ·exact h1.2
   ·cases h1
   ·cases h1
  subst hs0
  refine(br3 vb 1 vs w hvl hvs h1v).mono ?_
  rintro e w' ⟨rfl,rfl⟩
  have hg:=grownCap_ge w 1 0 27
  have hgx:=grownCap_le_maxLen w 1 0 27 (by unfold maxLen;omega)
  rw [a15] at hgx
  refine⟨_,rfl,((Below.refl lo w).drew).alloc (by show lo≤w.heap.size;omega) _,fun k _ hk=>Below.heap_alloc w.drew _ k hk,fun M hM1 hM2=>?_⟩
  have hob:(w.drew.alloc (.cells (vs.toArray++Builtin.zeroCells zRun.cells (grownCap w 1 0 27 - 1)) 27)).heap[w.heap.size]? = some (.cells (vs.toArray++Builtin.zeroCells zRun.cells (grownCap w 1 0 27 - 1)) 27 (0,0)):=by
   show(w.heap.push _)[w.heap.size]? = _
   rw [Array.getElem?_push,if_pos rfl]
  have hno8:∀ (j:Nat) (u:Value),(vs.toArray++Builtin.zeroCells zRun.cells (grownCap w 1 0 27 - 1))[j]? = some u→is8 u=false:=fun j u hj=>by
   rw [Array.getElem?_append] at hj
   split at hj
   ·exact hv8 j u (by rwa [List.getElem?_toArray] at hj)
   ·exact ba3 hj
  have hA:Ahead (vs.toArray++Builtin.zeroCells zRun.cells (grownCap w 1 0 27 - 1)) 0 (grownCap w 1 0 27) vs []:=⟨by rw [Array.size_append,ahg,List.size_toArray,hvl];omega,fun j v hj=>by
    have:=(Ls.1 hj).1
    rw [Nat.zero_add,Array.getElem?_append_left (by simpa using this),List.getElem?_toArray]
    exact hj,fun j v hj=>by simp at hj,hno8⟩
  exact a3w (m:=fun _ _=>False) (rows:=[]) hA (hM2 _ _ (by omega) (.inr (Rl _)) hob (hnew (.inl rfl) hno8)) hvl hr (Flat.nil _ _) hM1 (fun _ _ h=>h.elim) hg hgx
 | cons x rest =>
  have hne:rows≠[]:=by rw [hrw];simp
  rw [← hrw]
  have hmk:mkz rows=.sl false rows:=by rw [hrw];rfl
  rw [hmk] at h0
  rcases(show(CD.sl false rows=.sl true []∧s0=.slice none 0 0)∨_ from h0) with ⟨h1,_⟩ | ⟨rows',b,off,cap,h1,h2,h3,h4,h5⟩ | ⟨ad,h1,_⟩
  ·cases h1
  rotate_left
  ·cases h1;exact absurd rfl hne
  cases h1
  obtain⟨arr,t,fr,⟨⟨g1,g2,g3,g4⟩,g5⟩,g6⟩:=h5 hne
  obtain⟨cs,hf,hc⟩:=aki g6
  have hn:0<rows.length:=by rw [hrw];simp
  have h5':sRun.length=5:=rfl
  have hcl:cs.length=rows.length*5:=by rw [hf.1,h5']
  rw [h5'] at g5
  have h1c:∀ v∈cs,v.oneCell'=true:=hf.one'
  have hc8:∀ (j:Nat) (u:Value),cs[j]? = some u→is8 u=false:=fun j u hj=>aur hf bqt hj
  obtain⟨arr0,t0,fr0,q1,q2,bb,q3⟩:=g4
  cases q1
  have hb8:bb=false:=by
   have h0c:0<cs.length:=by omega
   have e1:=hc 0 _ (Gl h0c)
   rw [← q3 _ _ e1]
   exact hc8 0 _ (Gl h0c)
  subst hb8
  have hcs:∀ j v,cs[j]? = some v→w.cell? ⟨b,off+j,none⟩=some v:=fun j v hj=>by
   rw [cell?_of g3]
   exact hc j v hj
  have hbs:b<w.heap.size:=(Ga.1 g3).1
  subst h2
  by_cases hroom:cap<rows.length+1
  ·refine(bmh b off rows.length cap vb 1 cs vs w hn h3 hroom hlen hcl hvl hcs hvs h1c h1v).mono ?_
   rintro e w' ⟨rfl,rfl⟩
   have hg:=grownCap_ge w (rows.length+1) cap 27
   have hgx:=grownCap_le_maxLen w (rows.length+1) cap 27 (by unfold maxLen;omega)
   rw [a15] at hgx
   generalize hG:grownCap w (rows.length+1) cap 27=G at *
   have hob:((w.alloc (.cells (Builtin.zeroCells zRun.cells (rows.length+1)++Builtin.zeroCells zRun.cells (G - (rows.length+1))) 27)).drew).heap[w.heap.size]? = some (.cells (Builtin.zeroCells zRun.cells (rows.length+1)++Builtin.zeroCells zRun.cells (G - (rows.length+1))) 27 (0,0)):=by
    show(w.heap.push _)[w.heap.size]? = _
    rw [Array.getElem?_push,if_pos rfl]
   have hsz:(Builtin.zeroCells zRun.cells (rows.length+1)++Builtin.zeroCells zRun.cells (G - (rows.length+1))).size=G*5:=by
    rw [Array.size_append,ahg,ahg]
    omega
   have hz8:∀ (j:Nat) (u:Value),(Builtin.zeroCells zRun.cells (rows.length+1)++Builtin.zeroCells zRun.cells (G - (rows.length+1)))[j]? = some u→is8 u=false:=fun j u hj=>by
    rw [Array.getElem?_append] at hj
    split at hj
    ·exact ba3 hj
    ·exact ba3 hj
   obtain⟨a1,e1,e2,e3,e4⟩:=ab5 vs 0 _ _ hob
   obtain⟨a2,f1,f2,f3,f4⟩:=ab5 cs 5 (((w.alloc (.cells (Builtin.zeroCells zRun.cells (rows.length+1)++Builtin.zeroCells zRun.cells (G - (rows.length+1))) 27)).drew.setCells w.heap.size 0 vs).drew) a1 e1
   have hsame:∀ k,k<w.heap.size→((((w.alloc (.cells (Builtin.zeroCells zRun.cells (rows.length+1)++Builtin.zeroCells zRun.cells (G - (rows.length+1))) 27)).drew.setCells w.heap.size 0 vs).drew).setCells w.heap.size 5 cs).heap[k]? = w.heap[k]?:=fun k hk=>by
    rw [abo (by omega)]
    show((w.alloc _).drew.setCells w.heap.size 0 vs).heap[k]? = _
    rw [abo (by omega)]
    exact Below.heap_alloc w _ k hk
   have hno8:∀ (j:Nat) (u:Value),a2[j]? = some u→is8 u=false:=fun j u hj=>by
    have hjl:=(Ga.1 hj).1
    by_cases k1:5≤j∧j<5+cs.length
    ·have:=f3 (j - 5) _ (Gl (by omega)) (by omega)
     rw [show 5+(j - 5)=j by omega,hj] at this
     cases this
     exact hc8 _ _ (Gl (by omega))
    ·rw [f4 j (by omega)] at hj
     by_cases k2:j<5
     ·have:=e3 j _ (Gl (by omega)) (by omega)
      rw [Nat.zero_add,hj] at this
      cases this
      exact hv8 _ _ (Gl (by omega))
     ·rw [e4 j (by omega)] at hj
      exact hz8 j u hj
   have hA:Ahead a2 0 G vs cs:=⟨by omega,fun j v hj=>by
     have hjl:=(Ls.1 hj).1
     rw [f4 _ (by omega)]
     exact e3 j v hj (by omega),fun j v hj=>by
     have hjl:=(Ls.1 hj).1
     rw [Nat.zero_add]
     exact f3 j v hj (by omega),hno8⟩
   refine⟨_,rfl,below_setCells _ (by omega) _ _ _ ((below_setCells _ (by omega) _ _ _ (((Below.refl lo w).alloc (by omega) _).drew)).drew),fun k _ hk=>hsame k hk,fun M hM1 hM2=>?_⟩
   refine a3w hA (hM2 _ _ (by omega) (.inr (Rl _)) f1 (hnew (.inl rfl) hno8)) hvl hr hf hM1 (fun k o hk=>?_) hg hgx
   obtain⟨j1,j2,j3,j4⟩:=bsd (w':=(((w.alloc (.cells (Builtin.zeroCells zRun.cells (rows.length+1)++Builtin.zeroCells zRun.cells (G - (rows.length+1))) 27)).drew.setCells w.heap.size 0 vs).drew).setCells w.heap.size 5 cs) (fun k _ hk=>hsame k (by omega)) hk
   exact hM2 k o j1 (.inl j2) j3 j4
  ·have hbv:vb≠b:=by omega
   have hle:(rows.length+1)*5≤cap*5:=Nat.mul_le_mul_right 5 (by omega)
   refine(bg3 b off rows.length cap vb 1 cs vs w hn (by omega) (by unfold Go.Sx.maxN at h4;omega) hbv hcl hvl hcs (fun j hj=>?_) (fun j hj=>ayj g3 q2 (by omega)) hvs h1c h1v 27 t 5 arr.size ?_ (bdp g3) (by omega) ?_ ?_).mono ?_
   ·rw [cell?_of g3,Array.getElem?_eq_getElem (by omega)]
    rfl
   ·have:=bdp hv
    rwa [List.size_toArray,hvl] at this
   ·unfold World.frozen?
    rw [show w.heap[(⟨vb,0,none⟩:Addr).block]? = _ from hv]
    simp
   ·unfold World.frozen?
    rw [show w.heap[(⟨vb,5,none⟩:Addr).block]? = _ from hv]
    simp
   rintro e w' ⟨rfl,rfl⟩
   obtain⟨a1,e1,e2,e3,e4⟩:=ab5 cs (off+5) w.drew arr g3
   obtain⟨a2,f1,f2,f3,f4⟩:=ab5 vs off (w.drew.setCells b (off+5) cs) a1 e1
   have hsame:∀ k,k≠b→((w.drew.setCells b (off+5) cs).setCells b off vs).heap[k]? = w.heap[k]?:=fun k hk=>by
    rw [abo hk,abo hk]
    rfl
   have hno8:∀ (j:Nat) (u:Value),a2[j]? = some u→is8 u=false:=fun j u hj=>by
    have hjl:=(Ga.1 hj).1
    by_cases k1:off≤j∧j<off+vs.length
    ·have:=f3 (j - off) _ (Gl (by omega)) (by omega)
     rw [show off+(j - off)=j by omega,hj] at this
     cases this
     exact hv8 _ _ (Gl (by omega))
    ·rw [f4 j (by omega)] at hj
     by_cases k2:off+5≤j∧j<off+5+cs.length
     ·have:=e3 (j - (off+5)) _ (Gl (by omega)) (by omega)
      rw [show off+5+(j - (off+5))=j by omega,hj] at this
      cases this
      exact hc8 _ _ (Gl (by omega))
     ·rw [e4 j (by omega)] at hj
      exact q3 j u hj
   have hA:Ahead a2 off cap vs cs:=⟨by omega,fun j v hj=>f3 j v hj (by have:=(Ls.1 hj).1;omega),fun j v hj=>by
     have hjl:=(Ls.1 hj).1
     rw [f4 _ (by omega)]
     exact e3 j v hj (by omega),hno8⟩
   have hu2:UF fr a2.size:=by rw [f2,e2];exact q2
   refine⟨_,rfl,below_setCells _ g1 _ _ _ (below_setCells _ g1 _ _ _ ((Below.refl lo w).drew)),fun k hk _=>hsame k (by omega),fun M hM1 hM2=>?_⟩
   refine a3w (m:=wo (nm lo hi w) b) hA (hM2 _ _ g1 (.inl g2) f1 (hnew hu2 hno8)) hvl hr ⟨hf.1,fun i row hi=>bza (fun arr1 t1 fr1 hk=>?_) (hf.2 i row hi)⟩ hM1 (fun k o hk=>?_) (by omega) h4
   ·obtain⟨_,_,hk,_⟩:=hk
    rw [g3] at hk
    cases hk
    exact q3
   ·exact hM2 k o hk.1.1 (.inl hk.1.2.1) ((hsame k hk.2).trans hk.1.2.2.1) hk.1.2.2.2
def memW(w:World):Mem:=fun k o=>w.heap[k]? = some o
theorem tw0(w:World):TW w:=fun x hx=>by cases hx
theorem aaz{w w':World}(h:Keep w w'):Below w.heap.size w w':=⟨h.os,h.tape,h.output,h.size,h.old⟩
abbrev newM(w w':World):Mem:=nm w.heap.size w'.heap.size w'
theorem bck{w w':World}{m:Mem}:∀ k o,((w.heap.size≤k∧w'.heap[k]? = some o∧Nice o)∨(true=false∧m k o))→newM w w' k o:=fun k o h=>by
 rcases h with ⟨h1,h2,h3⟩ | ⟨h,_⟩
 ·exact⟨h1,(Ga.1 h2).1,h2,h3⟩
 ·cases h
theorem acd{f:FuncId}{fn:Func}{S:Fsp}(h:aah U Try.prog f S)(hf:FnAt Try.prog f fn)(v:Nat→CD){W:World}{us:List Value}(hp:aeu (memW W) S.args ((at6 0 S.args).map (@denL (@Sg.mk U v))) us)(hpre:@Holds (@Sg.mk U v) S.pre) :
  Calls Try.prog f us.toArray W fun e w'=>∃ u,e=.returned u∧Keep W w'∧∃ o∈S.outs,@Holds (@Sg.mk U v) o.1∧ResR (fun k ob=>(W.heap.size≤k∧w'.heap[k]? = some ob∧Nice ob)∨(S.fresh=false∧memW W k ob)) S.res (o.2.map (@denL (@Sg.mk U v))) u:=by
 have h1:=h (@Sg.mk U v) rfl (memW W) W us.toArray (tw0 W) (fun _ _ h=>h) hp hpre
 rw [hf.call] at h1
 exact h1
theorem ax9{f:FuncId}{fn:Func}{S:Fsp}(h:a4s U Try.prog f S)(hf:FnAt Try.prog f fn)(v:Nat→CD){W:World}{us:List Value}(hp:aeu (memW W) S.args ((at6 0 S.args).map (@denL (@Sg.mk U v))) us)(hpre:@Holds (@Sg.mk U v) S.pre) :
  Calls Try.prog f us.toArray W fun e w'=>∃ u,e=.returned u∧Keep W w'∧∃ o∈S.outs,@Holds (@Sg.mk U v) o.1∧ResR (memW w') S.res (o.2.map (@denL (@Sg.mk U v))) u:=by
 have h1:=h (@Sg.mk U v) rfl (memW W) W us.toArray (tw0 W) (fun _ _ h=>h) hp hpre
 rw [hf.call] at h1
 exact h1
abbrev ofL(l:List CD):Nat→CD:=fun j=>l.getD j default
theorem holds0{v:Nat→CD}:@Holds (@Sg.mk U v) []:=fun x hx=>by cases hx
theorem a6u{m:Mem}{p:Shp}{ds:List CD}{us:List Value}(h:aeu m [p] [ds] us):∃ u,us=[u]∧afi m p ds u:=by
 cases us with
 | nil=>exact h.elim
 | cons u t=>cases t with
  | nil=>exact⟨u,rfl,h.1⟩
  | cons _ _=>exact h.2.elim
theorem bil{m:Mem}{p q:Shp}{ds es:List CD}{us:List Value}(h:aeu m [p,q] [ds,es] us):∃ u v,us=[u,v]∧afi m p ds u∧afi m q es v:=by
 cases us with
 | nil=>exact h.elim
 | cons u t=>cases t with
  | nil=>exact h.2.elim
  | cons v t=>cases t with
   | nil=>exact⟨u,v,rfl,h.1,h.2.1⟩
   | cons _ _=>exact h.2.2.elim
theorem bjp{m:Mem}{z:Int}{u:Value}(h:ResR m [(false,[.int .i64])] [[vInt .i64 z]] u):u=.int .i64 z:=by
 obtain⟨us,hq,rfl⟩:=h
 ·obtain⟨u,rfl,h1⟩:=a6u hq
  obtain⟨n,e1,rfl,_⟩:=(show RS m (.int .i64) (vInt .i64 z) u from h1)
  cases e1
  rfl
theorem al6{m:Mem}{b:Bool}{u:Value}(h:ResR m [(false,[.bool])] [[aan b]] u):u=.bool b:=by
 obtain⟨us,hq,rfl⟩:=h
 ·obtain⟨u,rfl,h1⟩:=a6u hq
  obtain⟨n,e1,rfl⟩:=(show RS m .bool (aan b) u from h1)
  cases e1
  rfl
theorem bjq{m:Mem}{ss:List Srt}{d:CD}{u:Value}(h:ResR m [(false,[.sl ss])] [[d]] u):RS m (.sl ss) d u:=by
 obtain⟨us,hq,rfl⟩:=h
 obtain⟨u,rfl,h1⟩:=a6u hq
 exact h1
theorem by5{m:Mem}{z:Int}{d:CD}{u:Value}(h:ResR m [(false,[sLev]),(false,[.int .i64])] [[d],[vInt .i64 z]] u):∃ s,RS m sLev d s∧u=.tuple #[s,.int .i64 z]:=by
 obtain⟨us,hq,rfl⟩:=h
 ·obtain⟨u,u',rfl,h1,h2⟩:=bil hq
  obtain⟨n,e1,rfl,_⟩:=(show RS m (.int .i64) (vInt .i64 z) u' from h2)
  cases e1
  exact⟨u,h1,rfl⟩
theorem bt5{m:Mem}{r0 r1 r2 r3 r4:CD}{u:Value}(h:ResR m [(true,sRun)] [[r0,r1,r2,r3,r4]] u):afi m (true,sRun) [r0,r1,r2,r3,r4] u:=by
 obtain⟨us,hq,rfl⟩:=h
 obtain⟨u,rfl,h1⟩:=a6u hq
 exact h1
abbrev small(l:CD):Prop:=¬ aa5 l 40=true
section
variable {W:World} {l r:CD} {u:Value}
theorem au9(h:RS (memW W) sLev l u):Calls Try.prog 16 #[u] W fun e w'=>e=.returned (.int .i64 (if aam l then 0 else 2))∧Keep W w':=by
 refine(acd c16 at16 (ofL [l]) (us:=[u]) ⟨h,trivial⟩ holds0).mono fun e w' hh=>?_
 obtain⟨u',rfl,hk,o,ho,hx,hres⟩:=hh
 rw [Mg.1 ho] at hres
 exact⟨by rw [bjp hres];rfl,hk⟩
theorem ane(h:RS (memW W) sR l u)(h1:(l.len:Int)≤40)(h2:¬ aag l 40=true):Calls Try.prog 63 #[u] W fun e w'=>∃ s,e=.returned s∧Keep W w'∧RS (newM W w') sR (mkz l.rows) s:=by
 refine(acd c63 at63 (ofL [l]) (us:=[u]) ⟨h,trivial⟩ ?_).mono fun e w' hh=>?_
 ·unfold S63
  simp only [aad,aac,aay,b_le,abk,abn,aao,aax,aav,w_l1,w_l0,aaw,us0,aae]
  exact⟨h1,h2,trivial⟩
 obtain⟨u',rfl,hk,o,ho,hx,hres⟩:=hh
 rw [Mg.1 ho] at hres
 exact⟨_,rfl,hk,(bjq hres).mono bck⟩
theorem a6n{r0 r1 r2 r3 r4:CD}(h:afi (memW W) (true,sRun) [r0,r1,r2,r3,r4] u):Calls Try.prog 48 #[u] W fun e w'=>e=.returned (.bool (afe [r0,r1,r2,r3,r4]))∧Keep W w':=by
 refine(acd c48 at48 (ofL [r0,r1,r2,r3,r4]) (us:=[u]) ⟨h,trivial⟩ holds0).mono fun e w' hh=>?_
 obtain⟨u',rfl,hk,o,ho,hx,hres⟩:=hh
 rw [Mg.1 ho] at hres
 exact⟨by rw [al6 hres];rfl,hk⟩
theorem bii{r0 r1 r2 r3 r4:CD}(h:afi (memW W) (true,sRun) [r0,r1,r2,r3,r4] u)(h1:(r3.len:Int)≤200)(h2:(r4.len:Int)≤200):Calls Try.prog 50 #[u] W fun e w'=>∃ s,e=.returned s∧Keep W w'∧afi (newM W w') (true,sRun) [r0,r1,r2,r3,r4] s:=by
 refine(acd c50 at50 (ofL [r0,r1,r2,r3,r4]) (us:=[u]) ⟨h,trivial⟩ ?_).mono fun e w' hh=>?_
 ·unfold S50
  simp only [aad,aac,aay,b_le,abn,aao,aax,aaw,aae]
  exact⟨h1,h2,trivial⟩
 obtain⟨u',rfl,hk,o,ho,hx,hres⟩:=hh
 rw [Mg.1 ho] at hres
 exact⟨_,rfl,hk,afi.mono bck (bt5 hres)⟩
end
theorem hidj{p:Prop}(h:p):Hid p:=h
abbrev nilV:Value:=.slice none 0 0
theorem bmr{m:Mem}{w:World}{L:CD}{u:Value}(hm:∀ k o,m k o→w.heap[k]? = some o)(h:RS m sLev L u):L.len=L.rows.length∧∃ (a:Option Addr) (cap:Nat),u=.slice a L.rows.length cap∧L.rows.length≤cap ∧
  ∀ i:Nat,i<L.rows.length→∃ b off s,a=some ⟨b,off,none⟩∧b<w.heap.size∧w.cell? ⟨b,off+i,none⟩=some s∧RS m sR (L.cell i 0) s:=by
 haveI:Sg:=sg0
 refine⟨h.slice.2.1,?_⟩
 rcases(show(L=.sl true []∧u=.slice none 0 0)∨_ from h) with ⟨e1,rfl⟩ | ⟨rows,b,off,cap,e1,rfl,h3,h4,h5⟩ | ⟨a,e1,rfl⟩
 ·exact⟨none,0,by rw [e1];rfl,by rw [e1];exact Rl _,fun i hi=>by rw [e1] at hi;exact absurd hi (Nat.not_lt_zero _)⟩
 rotate_left
 ·exact⟨some a,0,by rw [e1];rfl,by rw [e1];exact Rl _,fun i hi=>by rw [e1] at hi;exact absurd hi (Nat.not_lt_zero _)⟩
 have hrows:L.rows=rows:=by rw [e1];rfl
 rw [hrows]
 refine⟨some ⟨b,off,none⟩,cap,rfl,h3,fun i hi=>?_⟩
 obtain⟨arr,t,fr,⟨h6,h7⟩,h8⟩:=h5 (fun e=>by rw [e] at hi;exact absurd hi (Nat.not_lt_zero _))
 have hw:=hm _ _ h6
 obtain⟨c,r,s,q1,q2,q3,_⟩:=h8 i rows[i] (Gl hi)
 refine⟨b,off,s,rfl,(Ga.1 hw).1,?_,?_⟩
 ·rw [cell?_of hw]
  simpa using q2
 ·have:L.cell i 0=c:=by
   unfold CD.cell
   rw [hrows,Int.toNat_natCast,show rows.getD i []=rows[i] by rw [Gd,Gl hi];rfl,q1]
   rfl
  rw [this]
  exact q3
structure FourI (w wr:World) (L:CD) (k:Nat) (ss:List Value):Prop where
 below:Below w.heap.size w wr
 size:w.heap.size+2≤wr.heap.size
 x:wr.heap[w.heap.size]? = some (.cells #[nilV,nilV,nilV,nilV] 78 (0,0))
 y:wr.heap[w.heap.size+1]? = some (.cells ss.toArray 78 (0,0))
 len:ss.length=4
 rest:∀ j,k≤j→j<4→ss[j]? = some nilV
 regs:∃ q:Nat→Nat,w.heap.size+2≤q 0∧(∀ j,j<k→q j≤q (j+1))∧q k≤wr.heap.size∧∀ j:Nat,j<k→∃ s,ss[j]? = some s∧RS (nm (q j) (q (j+1)) wr) sR (levD L j) s
theorem az5{q:Nat→Nat}{k:Nat}(h:∀ j,j<k→q j≤q (j+1)):∀ (i j:Nat),i≤j→j≤k→q i≤q j:=by
 intro i j hij hjk
 induction j with
 | zero=>rw [show i=0 by omega];exact Rl _
 | succ j ih =>
  by_cases he:i=j+1
  ·rw [he];exact Rl _
  ·exact Nat.le_trans (ih (by omega) (by omega)) (h j (by omega))
theorem ade{lo hi hi':Nat}{w w':World}(h:∀ k,lo≤k→k<hi→w'.heap[k]? = w.heap[k]?)(hh:hi≤hi'):∀ k o,nm lo hi w k o→nm lo hi' w' k o:=fun k o hk=>⟨hk.1,Nat.lt_of_lt_of_le hk.2.1 hh,(h k hk.1 hk.2.1).trans hk.2.2.1,hk.2.2.2⟩
theorem azo(w:World)(L:CD):FourI w ((w.alloc (.cells #[nilV,nilV,nilV,nilV] 78 (0,0))).alloc (.cells #[nilV,nilV,nilV,nilV] 78 (0,0))) L 0 [nilV,nilV,nilV,nilV]:=by
 have e:((w.alloc (.cells #[nilV,nilV,nilV,nilV] 78 (0,0))).alloc (.cells #[nilV,nilV,nilV,nilV] 78 (0,0))).heap=(w.heap.push (.cells #[nilV,nilV,nilV,nilV] 78 (0,0))).push (.cells #[nilV,nilV,nilV,nilV] 78 (0,0)):=rfl
 refine⟨((Below.refl _ w).alloc (Rl _) _).alloc ?_ _,?_,?_,?_,rfl,fun j _ hj=>?_,fun _=>w.heap.size+2,Rl _,fun _ _=>Rl _,?_,fun j hj=>absurd hj (Nat.not_lt_zero _)⟩
 ·show w.heap.size≤(w.heap.push _).size
  rw [Array.size_push]
  omega
 ·rw [e,Array.size_push,Array.size_push]
  omega
 ·rw [e,Array.getElem?_push,if_neg (by rw [Array.size_push];omega),Array.getElem?_push,if_pos rfl]
 ·rw [e,Array.getElem?_push,if_pos (by rw [Array.size_push])]
 ·match j,hj with
  | 0,_=>rfl
  | 1,_=>rfl
  | 2,_=>rfl
  | 3,_=>rfl
 ·show w.heap.size+2≤_
  rw [e,Array.size_push,Array.size_push]
  omega
theorem avv{w wr w':World}{L:CD}{k:Nat}{ss:List Value}(h:FourI w wr L k ss)(hk:Keep wr w'):FourI w w' L k ss:=by
 have hs:=h.size
 refine⟨h.below.trans ((aaz hk).mono (by omega)),Nat.le_trans h.size hk.size,(hk.old _ (by omega)).trans h.x,(hk.old _ (by omega)).trans h.y,h.len,h.rest,?_⟩
 obtain⟨q,q0,q1,q2,hr⟩:=h.regs
 refine⟨q,q0,q1,Nat.le_trans q2 hk.size,fun j hj=>?_⟩
 obtain⟨s',e1,r1⟩:=hr j hj
 have:=az5 q1 (j+1) k (by omega) (Rl _)
 exact⟨s',e1,r1.mono (ade (fun i _ hlt=>hk.old i (by omega)) (Rl _))⟩
theorem bgu{w wr w':World}{L:CD}{k:Nat}{ss:List Value}{s:Value}(h:FourI w wr L k ss)(hk:Keep wr w')(hs:RS (newM wr w') sR (levD L k) s)(hk4:k<4) :
  FourI w (w'.setCell ⟨w.heap.size+1,k,none⟩ s) L (k+1) (ss.set k s):=by
 have h':=avv h hk
 have hsz:=h.size
 have hsz':=hk.size
 have hne:∀ j,j≠w.heap.size+1→(w'.setCell ⟨w.heap.size+1,k,none⟩ s).heap[j]? = w'.heap[j]?:=fun j hj=>Below.heap_setCell w' ⟨w.heap.size+1,k,none⟩ s j hj
 have hs':RS (nm wr.heap.size (w'.setCell ⟨w.heap.size+1,k,none⟩ s).heap.size (w'.setCell ⟨w.heap.size+1,k,none⟩ s)) sR (levD L k) s:=hs.mono (ade (fun j hj hlt=>hne j (by omega)) (by rw [World.size_setCell];exact Rl _))
 have hl:=h.len
 refine⟨h'.below.setCell (p:=⟨w.heap.size+1,k,none⟩) (by show w.heap.size≤w.heap.size+1;omega) _,by rw [World.size_setCell];omega,(hne _ (by omega)).trans h'.x,?_,by rw [List.length_set];exact hl,fun j h1 h2=>?_,?_⟩
 ·rw [heap_setCell_same w' _ _ _ _ s h'.y,List.setIfInBounds_toArray]
 ·rw [List.getElem?_set_ne (by omega)]
  exact h.rest j (by omega) h2
 ·obtain⟨q,q0,q1,q2,hr⟩:=h.regs
  have htr:∀ j,w.heap.size+2≤j→j<wr.heap.size→(w'.setCell ⟨w.heap.size+1,k,none⟩ s).heap[j]? = wr.heap[j]?:=fun j h1 h2=>(hne j (by omega)).trans (hk.old j h2)
  refine⟨fun i=>if i≤k then q i else(w'.setCell ⟨w.heap.size+1,k,none⟩ s).heap.size,?_,fun j hj=>?_,?_,fun j hj=>?_⟩
  ·dsimp only
   rw [if_pos (Nat.zero_le _)]
   exact q0
  ·dsimp only
   by_cases hjk:j=k
   ·rw [if_pos (by omega),if_neg (by omega),World.size_setCell,hjk]
    omega
   ·rw [if_pos (by omega),if_pos (by omega)]
    exact q1 j (by omega)
  ·dsimp only
   rw [if_neg (by omega)]
   exact Rl _
  ·dsimp only
   by_cases hjk:j=k
   ·subst hjk
    rw [if_pos (Rl _),if_neg (by omega)]
    exact⟨s,by rw [List.getElem?_set_self (by omega)],hs'.mono fun i o hi=>⟨by have:=hi.1;omega,hi.2⟩⟩
   ·obtain⟨s1,e1,r1⟩:=hr j (by omega)
    have m1:=az5 q1 0 j (by omega) (by omega)
    have m2:=az5 q1 (j+1) k (by omega) (Rl _)
    rw [if_pos (by omega),if_pos (by omega)]
    exact⟨s1,by rw [List.getElem?_set_ne (by omega)];exact e1,r1.mono (ade (fun i h3 h4=>htr i (by omega) (by omega)) (Rl _))⟩
theorem abe{m:Mem}{ss:List Srt}{d:CD}{u:Value}(h:RS m (.sl ss) d u):∃ a n c,u=.slice a n c:=by
 obtain⟨_,_,_,a,c,rfl,_⟩:=h.slice
 exact⟨_,_,_,rfl⟩
theorem b0z{ss:List Value}(h:ss.length=4):∃ a b c d,ss=[a,b,c,d]:=by
 match ss,h with
 | [a,b,c,d],_=>exact⟨a,b,c,d,rfl⟩
structure FourP (w w':World) (L:CD) (x0 x1 x2 x3:Value):Prop where
 below:Below w.heap.size w w'
 regs:∃ p0 p1 p2 p3,w.heap.size+2≤p0∧p0≤p1∧p1≤p2∧p2≤p3∧p3≤w'.heap.size∧RS (nm p0 p1 w') sR (levD L 0) x0∧RS (nm p1 p2 w') sR (levD L 1) x1∧RS (nm p2 p3 w') sR (levD L 2) x2∧RS (nm p3 w'.heap.size w') sR (levD L 3) x3
theorem bl8{w wr:World}{L:CD}{x0 x1 x2 x3:Value}(hT:Typ sLev L)(hl:L.rows.length≤4)(h:FourI w wr L L.rows.length [x0,x1,x2,x3]):FourP w wr L x0 x1 x2 x3:=by
 have hln:=hT.sl.1
 have hsz:=h.size
 have out:∀ (m:Mem) (j:Nat) (x:Value),L.rows.length≤j→[x0,x1,x2,x3][j]? = some x→j<4→RS m sR (levD L j) x:=fun m j x h1 h2 h3=>by
  have:=h.rest j h1 h3
  rw [h2] at this
  cases this
  rw [ao1 hT (Int.natCast_nonneg _) (by omega)]
  exact .inl ⟨rfl,rfl⟩
 refine⟨h.below,?_⟩
 obtain⟨q,q0,q1,q2,hr⟩:=h.regs
 have key:∀ (j:Nat) (x:Value),j<4→[x0,x1,x2,x3][j]? = some x→RS (nm (q (min j L.rows.length)) (q (min (j+1) L.rows.length)) wr) sR (levD L j) x:=fun j x h2 h3=>by
  by_cases hj:j<L.rows.length
  ·obtain⟨s,e1,r1⟩:=hr j hj
   rw [h3] at e1
   cases e1
   rw [Nat.min_eq_left (by omega),Nat.min_eq_left (by omega)]
   exact r1
  ·exact out _ j x (by omega) h3 h2
 have mono:∀ i j,i≤j→q (min i L.rows.length)≤q (min j L.rows.length):=fun i j hij=>az5 q1 _ _ (by omega) (by omega)
 refine⟨q (min 0 L.rows.length),q (min 1 L.rows.length),q (min 2 L.rows.length),q (min 3 L.rows.length),?_,mono 0 1 (by omega),mono 1 2 (by omega),mono 2 3 (by omega),?_,key 0 _ (by omega) rfl,key 1 _ (by omega) rfl,key 2 _ (by omega) rfl,(key 3 _ (by omega) rfl).mono fun k o hk=>⟨hk.1,?_,hk.2.2⟩⟩
 ·rw [Nat.zero_min];exact q0
 ·exact Nat.le_trans (az5 q1 _ _ (by omega) (Rl _)) q2
 ·have:=hk.2.1
  have:=az5 q1 (min (3+1) L.rows.length) L.rows.length (by omega) (Rl _)
  omega
theorem bgt{w w' w2:World}{L:CD}{x0 x1 x2 x3:Value}(h:FourP w w' L x0 x1 x2 x3)(hb:Below w.heap.size w w2)(hs:w2.heap.size=w'.heap.size)(hk:∀ k,w.heap.size+2≤k→w2.heap[k]? = w'.heap[k]?):FourP w w2 L x0 x1 x2 x3:=by
 obtain⟨p0,p1,p2,p3,l0,l1,l2,l3,l4,r0,r1,r2,r3⟩:=h.regs
 exact⟨hb,p0,p1,p2,p3,l0,l1,l2,l3,by omega,r0.mono (ade (fun k h1 _=>hk k (by omega)) (Rl _)),r1.mono (ade (fun k h1 _=>hk k (by omega)) (Rl _)),r2.mono (ade (fun k h1 _=>hk k (by omega)) (Rl _)),r3.mono (ade (fun k h1 _=>hk k (by omega)) (by omega))⟩
theorem acp{w:World}{B:Nat}{x0 x1 x2 x3:Value}{t:TypeId}(h:w.heap[B]? = some (.cells #[x0,x1,x2,x3] t (0,0))):w.cell? ⟨B,0,none⟩=some x0∧w.cell? ⟨B,1,none⟩=some x1∧w.cell? ⟨B,2,none⟩=some x2∧w.cell? ⟨B,3,none⟩=some x3:=by
 haveI:Sg:=sg0
 exact⟨by rw [cell?_of h];rfl,by rw [cell?_of h];rfl,by rw [cell?_of h];rfl,by rw [cell?_of h];rfl⟩
theorem ac1{w:World}{B j:Nat}{cs:Array Value}{t:TypeId}(h:w.heap[B]? = some (.cells cs t (0,0))):w.frozen? ⟨B,j,none⟩=false:=by
 unfold World.frozen?
 rw [show w.heap[(⟨B,j,none⟩:Addr).block]? = _ from h]
 simp
theorem set4{wr:World}{B:Nat}{x0 x1 x2 x3 y0 y1 y2 y3:Value}{t:TypeId}(h:wr.heap[B]? = some (.cells #[y0,y1,y2,y3] t (0,0))):((((wr.setCell ⟨B,0,none⟩ x0).setCell ⟨B,1,none⟩ x1).setCell ⟨B,2,none⟩ x2).setCell ⟨B,3,none⟩ x3).heap[B]? = some (.cells #[x0,x1,x2,x3] t (0,0)):=by
 rw [heap_setCell_same _ _ _ _ _ x3 (heap_setCell_same _ _ _ _ _ x2 (heap_setCell_same _ _ _ _ _ x1 (heap_setCell_same _ _ _ _ _ x0 h)))]
 rfl
set_option maxHeartbeats 1000000 in
theorem by6{wf:World}{B:Nat}{x0 x1 x2 x3:Value}{tmps:Array Value}(h:wf.heap[B]? = some (.cells #[x0,x1,x2,x3] 78 (0,0)))(ht:tmps.getD 2 undef=.pointer (some ⟨B,0,none⟩)):(results Try.f47 tmps).run Try.prog wf=.ok (.tuple #[.agg #[x0,x1,x2,x3],tmps.getD 3 undef]) wf:=by
 obtain⟨q0,q1,q2,q3⟩:=acp h
 rw [results_cell_tmp (p:=2) (u:=3) (ty:=78) rfl,ht]
 simp [asAddr,Result.andThen,loadVar,go_sem,q0,q1,q2,q3]
set_option maxHeartbeats 1000000 in
theorem agp{w:World}{L:CD}{u:Value}(h:RS (memW w) sLev L u)(hs:small L)(ho:aam L=true) :
  Calls Try.prog 47 #[u] w fun e w'=>∃ x0 x1 x2 x3,e=.returned (.tuple #[.agg #[x0,x1,x2,x3],.bool true])∧FourP w w' L x0 x1 x2 x3:=by
 obtain⟨hl,a,cap,rfl,hc,hrow⟩:=bmr (fun _ _ h=>h) h
 obtain⟨n,hn⟩:∃ n,L.rows.length=n:=⟨_,rfl⟩
 have hn4:n≤4:=by have:=afk ho;omega
 rw [hn] at h hc hrow ⊢
 have HR:=hidj hrow
 have HH:=hidj h
 have HO:=hidj ho
 have HS:=hidj hs
 have HN:=hidj (And.intro hn hl)
 have hT:Typ sLev L:=⟨_,_,h⟩
 have HT:=hidj hT
 clear hrow h ho hs hl hn hT
 have P1:=hidj (azo w L)
 go_enter Try.func47,Try.ntmps47
 go_wp2_with fail
 refine(au9 (HH.out.mono fun k o hk=>(P1.out.below.block k (Ga.1 hk).1).trans hk)).mono ?_
 rintro e w2 ⟨rfl,hk2⟩
 have P2:=hidj (avv P1.out hk2)
 clear hk2 P1
 rw [if_pos HO.out]
 go_wp2_with fail
 go_loopw [13] (fun q wr=>∃ (k:Nat) (ss:List Value),k≤n∧q=.int .i64 (k:Int)∧Hid (FourI w wr L k ss)) (fun q _=>n - (RowKit.intOf q).toNat)
 case atStart =>
  exact⟨0,_,Nat.zero_le _,rfl,P2⟩
 case round =>
  obtain⟨k,ss,hk,rfl,HW⟩:=hrel
  by_cases hkn:k<n
  ·obtain⟨b,off,s,rfl,hb,hcell,hrs⟩:=HR.out k hkn
   have hcell':wr.cell? ⟨b,off+k,none⟩=some s:=by
    rw [HW.out.below.cell (p:=⟨b,off+k,none⟩) hb]
    exact hcell
   have HRS:=hidj (hrs.mono fun j o hj=>(HW.out.below.block j (Ga.1 hj).1).trans hj)
   clear hrs
   have hb0:(0:Int)≤(k:Int):=Int.natCast_nonneg _
   have hb1:(k:Int)<(n:Int):=by omega
   have hb2:(k:Int)<4:=by omega
   have hy:=HW.out.y
   have hlk:(k:Int)<L.len:=by rw [HN.out.2,HN.out.1];exact hb1
   go_wp2_with fail
   refine(ane HRS.out (agr HS.out HT.out hb0 hlk) (a0v HS.out HT.out hb0 hlk)).mono ?_
   rintro e w3 ⟨s3,rfl,hk3,hr3⟩
   obtain⟨a3,n3,c3,rfl⟩:=abe hr3
   have hlt:w.heap.size+1<wr.heap.size:=by have:=HW.out.size;omega
   have hy3:w3.heap[w.heap.size+1]? = some (.cells ss.toArray 78 (0,0)):=(hk3.old _ hlt).trans hy
   have hc3:w3.cell? ⟨w.heap.size+1,k,none⟩=some nilV:=by
    haveI:Sg:=sg0
    rw [cell?_of hy3,List.getElem?_toArray]
    exact HW.out.rest k (Rl _) (by omega)
   have hf3:w3.frozen? ⟨w.heap.size+1,k,none⟩=false:=by
    unfold World.frozen?
    rw [show w3.heap[(⟨w.heap.size+1,k,none⟩:Addr).block]? = _ from hy3]
    simp
   have P3:=hidj (bgu HW.out hk3 hr3 (by omega))
   clear hk3 hr3 hy hy3
   go_wp2_with fail
   exact⟨⟨k+1,_,by omega,by go_num,P3⟩,by simp [RowKit.intOf];omega⟩
  ·have hke:k=n:=by omega
   subst hke
   obtain⟨x0,x1,x2,x3,rfl⟩:=b0z HW.out.len
   obtain⟨y0,y1,y2,y3⟩:=acp HW.out.y
   obtain⟨z0,z1,z2,z3⟩:=acp HW.out.x
   have f0:=ac1 (j:=0) HW.out.x
   have f1:=ac1 (j:=1) HW.out.x
   have f2:=ac1 (j:=2) HW.out.x
   have f3:=ac1 (j:=3) HW.out.x
   have FP:=hidj (bl8 HT.out (by rw [HN.out.1];omega) (by rw [HN.out.1];exact HW.out))
   obtain⟨_,_,_,_,_,_,_,_,_,r0,r1,r2,r3⟩:=FP.out.regs
   obtain⟨a0,n0,c0,rfl⟩:=abe r0
   obtain⟨a1,n1,c1,rfl⟩:=abe r1
   obtain⟨a2,n2,c2,rfl⟩:=abe r2
   obtain⟨a3,n3,c3,rfl⟩:=abe r3
   clear r0 r1 r2 r3
   go_wp2_with fail
   refine bodyPost_ret (by6 (set4 HW.out.x) rfl) rfl ?_
   refine⟨_,_,_,_,rfl,bgt FP.out ?_ ?_ ?_⟩
   ·exact(((HW.out.below.setCell (p:=⟨w.heap.size,0,none⟩) (Rl _) _).setCell (p:=⟨w.heap.size,1,none⟩) (Rl _) _).setCell (p:=⟨w.heap.size,2,none⟩) (Rl _) _).setCell (p:=⟨w.heap.size,3,none⟩) (Rl _) _
   ·rw [World.size_setCell,World.size_setCell,World.size_setCell,World.size_setCell]
   ·intro j hj
    rw [Below.heap_setCell _ _ _ _ (show j≠w.heap.size by omega),Below.heap_setCell _ _ _ _ (show j≠w.heap.size by omega),Below.heap_setCell _ _ _ _ (show j≠w.heap.size by omega),Below.heap_setCell _ _ _ _ (show j≠w.heap.size by omega)]
set_option maxHeartbeats 1000000 in
theorem avw{w:World}{L:CD}{u:Value}(h:RS (memW w) sLev L u)(ho:¬ aam L=true) :
  Calls Try.prog 47 #[u] w fun e w'=>e=.returned (.tuple #[.agg #[nilV,nilV,nilV,nilV],.bool false])∧Below w.heap.size w w':=by
 have HH:=hidj h
 have HO:=hidj ho
 clear h ho
 have P1:=hidj (azo w L)
 go_enter Try.func47,Try.ntmps47
 go_wp2_with fail
 refine(au9 (HH.out.mono fun k o hk=>(P1.out.below.block k (Ga.1 hk).1).trans hk)).mono ?_
 rintro e w2 ⟨rfl,hk2⟩
 have P2:=hidj (avv P1.out hk2)
 clear hk2 P1
 rw [if_neg HO.out]
 obtain⟨z0,z1,z2,z3⟩:=acp P2.out.x
 obtain⟨y0,y1,y2,y3⟩:=acp P2.out.y
 have f0:=ac1 (j:=0) P2.out.x
 have f1:=ac1 (j:=1) P2.out.x
 have f2:=ac1 (j:=2) P2.out.x
 have f3:=ac1 (j:=3) P2.out.x
 go_wp2_with fail
 refine bodyPost_ret (by6 (set4 P2.out.x) rfl) rfl ?_
 refine⟨rfl,?_⟩
 exact(((P2.out.below.setCell (p:=⟨w.heap.size,0,none⟩) (Rl _) _).setCell (p:=⟨w.heap.size,1,none⟩) (Rl _) _).setCell (p:=⟨w.heap.size,2,none⟩) (Rl _) _).setCell (p:=⟨w.heap.size,3,none⟩) (Rl _) _
end Go.Proofs.Ytlbbkmcegbeckaa
