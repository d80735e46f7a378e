/-
  Contracts of a seat's functions: which tables of a level meet a span. Conditions: none.
-/
import Derived.Test.YtlbbkmcegbeckaaLdC
import Derived.Lib.AppendZerosOnto
import Derived.Test.YtlbbkmcegbeckaaSbX
set_option linter.all false
set_option maxRecDepth 100000
noncomputable section
namespace Go.Proofs.Ytlbbkmcegbeckaa
open Go.Sx Go.Proofs Go.RowKit Go.Lib Go.Stb
theorem t3i:Try.prog.underlying 3=some (.int .i64):=by kernel_rfl
set_option maxHeartbeats 1000000 in
theorem a9s{w:World}{n:Nat}(h0:0<n)(hn:n≤100000):Calls Try.prog 134 #[nilV,.int .i64 n] w fun e w'=>∃ blk cap arr,e=.returned (.slice (some ⟨blk,0,none⟩) 0 cap)∧n≤cap∧cap≤maxLen∧w.heap.size≤blk∧Below w.heap.size w w'∧w'.heap[blk]? = some (.cells arr 27 (0,0))∧arr.size=cap*5∧∀ (j:Nat) (u:Value),arr[j]? = some u→is8 u=false:=by
 obtain⟨i0,hi0,hz0,hzs,hzb⟩:=info_parts avz
 have hrun:∀ ty,(Builtin.append_ #[36,3] ty #[nilV,.int .i64 n]).run Try.prog w=.ok (.slice (some ⟨w.heap.size,0,none⟩) n (grownCap w n 0 27)) (w.drew.alloc (.cells (Builtin.zeroCells zRun.cells n++Builtin.zeroCells zRun.cells (grownCap w n 0 27 - n)) 27)):=fun ty =>
  run_append_nil_zeros w 36 3 ty 27 i0 zRun .i64 .i64 t36 t3i hi0 hz0 n h0 (by omega) (by omega) (by rw [hzb];omega)
 have hg:=grownCap_ge w n 0 27
 have hgx:=grownCap_le_maxLen w n 0 27 (by unfold maxLen;omega)
 have hcn:((grownCap w n 0 27:Nat):Int)≤9223372036854775807:=by unfold maxLen at hgx;omega
 have t1:(0:Int)<(n:Int):=by omega
 have t2:IntKind.i64.wrap (n:Int)=(n:Int):=by rw [IntKind.wrap_i64];omega
 generalize grownCap w n 0 27=G at *
 go_enter Try.func134,Try.ntmps134
 go_wp2_with (at_builtin;refine Lib.wpList_append_run _ rfl _ _ _ _ rfl _ _ rfl rfl _ _ (hrun _) ?_)
 go_returns
 refine⟨_,G,Builtin.zeroCells zRun.cells n++Builtin.zeroCells zRun.cells (G - n),rfl,by omega,hgx,Rl _,((Below.refl _ w).drew.mono (Rl _)).alloc (Rl _) _,?_,?_,fun j u hj=>?_⟩
 ·show(w.heap.push _)[w.heap.size]? = _
  rw [Array.getElem?_push,if_pos rfl]
  rfl
 ·rw [Array.size_append,ahg,ahg]
  omega
 ·rw [Array.getElem?_append] at hj
  split at hj
  ·exact ba3 hj
  ·exact ba3 hj
end Go.Proofs.Ytlbbkmcegbeckaa
namespace Go.Proofs.Ytlbbkmcegbeckaa
open Go.Sx Go.Proofs
theorem us43(a b c d:CD):@Us.u U 43 [a,b,c,d]=aan (decide (cmpC a d≤0)&&decide (cmpC c b≤0)):=rfl
theorem us40(l f t:CD):@Us.u U 40 [l,f,t]=mkz (l.rows.filter (ovl f t)):=rfl
def mtQ(l f t:CD)(i:Int):List (List CD):=(l.rows.take i.toNat).filter (ovl f t)
theorem us41(l f t i:CD):@Us.u U 41 [l,f,t,i]=mkz (mtQ l f t i.iv):=rfl
theorem ovl5{f t x0 x1 x2 x3 x4:CD}:(ovl f t [x0,x1,x2,x3,x4]=true)=(cmpC x3 t≤0∧cmpC f x4≤0):=by
 show((decide (cmpC x3 t≤0)&&decide (cmpC f x4≤0))=true)=_
 simp only [Ba,Dt]
section
variable {l f t:CD} {i:Int}
theorem mt_z:mtQ l f t 0=[]:=rfl
theorem mt_s(hT:Typ (.sl sRun) l)(h0:0≤i)(h:i<l.len):mtQ l f t (i+1)=mtQ l f t i++opt (ovl f t [l.cell i 0,l.cell i 1,l.cell i 2,l.cell i 3,l.cell i 4]) [l.cell i 0,l.cell i 1,l.cell i 2,l.cell i 3,l.cell i 4]:=ad7 hT h0 h
theorem mt_e(hT:Typ (.sl sRun) l)(h:¬ i<l.len):mtQ l f t i=l.rows.filter (ovl f t):=by
 unfold mtQ
 rw [abh hT h]
end
theorem bme:ae1 U Try.prog T8:=.cons c56 .nil
def S108:Fsp:=⟨[(false,[sB]),(false,[sB]),(false,[sB]),(false,[sB])],[],[(false,[.bool])],[([],[[.ap (.usr 43) [.var 0,.var 1,.var 2,.var 3]]])],true⟩
abbrev af7:X:=(.ap (.usr 20) [(V 0),(V 3)])
abbrev a2n:List X:=[(.ap (.typ (.sl [(.int .u8)])) [(V 0)]),(.ap (.typ (.sl [(.int .u8)])) [(V 1)]),(.ap (.typ (.sl [(.int .u8)])) [(V 2)]),(.ap (.typ (.sl [(.int .u8)])) [(V 3)])]
def bi1:List VC:=[]
def bi0:List (List X×List (List X)):=[(((.ap .le [LoI,(.ap (.usr 20) [(V 2),(V 1)])])::(.ap .le [(.ap (.usr 20) [(V 2),(V 1)]),HiI])::(.ap .le [(I (-1)),(.ap (.usr 20) [(V 2),(V 1)])])::(.ap .le [(.ap (.usr 20) [(V 2),(V 1)]),(I 1)])::(.ap .le [LoI,af7])::(.ap .le [af7,HiI])::(.ap .le [(I (-1)),af7])::(.ap .le [af7,(I 1)])::(.ap .le [af7,(I 0)])::a2n),[[(.ap .le [(.ap (.usr 20) [(V 2),(V 1)]),(I 0)])]]),
 (((.ap .le [LoI,af7])::(.ap .le [af7,HiI])::(.ap .le [(I (-1)),af7])::(.ap .le [af7,(I 1)])::(.ap .not [(.ap .le [af7,(I 0)])])::a2n),[[(.lit (.bool false))]])]
theorem bsy:runS Try.prog (acr (tab T8)) 10 6 ⟨aa0 [],hintA []⟩ Try.f108 (aau Try.f108) S108=some (bi1,bi0):=by kernel_rfl
set_option maxHeartbeats 4000000 in
theorem c108:aah U Try.prog 108 S108:=by
 refine aah.of (P:=Try.prog) (U:=U) (T:=(tab T8)) (f:=108) (fn:=Try.f108) (fuel:=10) (fk:=6) (hs:=⟨aa0 [],hintA []⟩) (S:=S108) (v:=bi1) (outs:=bi0) mixed bme b0e bsy ?_ ?_
 ·unfold bi1
  repeat' (first | exact aa7 _ | refine aai (fun v hh=>?_) ?_)
  all_goals
   simp only [aao,aax,aaw,aa2,b_le,abk,aa6,aav,w_l0,w_l1,aae,aaf,aay,aac,aad,aak,aaj,us43,us20,abu,aas,adj,ab4,aaq,List.cons.injEq,a2n,af7] at hh ⊢
   repeat (obtain⟨_,hh⟩:=hh)
   try (first | grind [= aae])
 ·intro o ho σ hU hh
  obtain⟨v⟩:=σ
  cases hU
  simp only [bi0,Mn,List.not_mem_nil,or_false] at ho
  repeat' (first | (rcases ho with rfl | ho) | subst ho)
  all_goals
   refine⟨_,Ms ..,by simp only [aao,aax,aaw,aa2,b_le,abk,aa6,aav,w_l0,w_l1,aae,aaf,aay,aac,aad,aak,aaj],?_⟩
   simp only [aao,aax,aaw,aa2,b_le,abk,aa6,aav,w_l0,w_l1,aae,aaf,aay,aac,aad,aak,aaj,us43,us20,abu,aas,adj,ab4,aaq,List.cons.injEq,a2n,af7] at hh
   simp only [List.map_cons,List.map_nil,aao,aax,aaw,aa2,b_le,abk,aa6,aav,w_l0,w_l1,aae,aaf,aay,aac,aad,aak,aaj,w_le,akb,amj,us43,us20,abu,aas,adj,ab4,aaq,List.cons.injEq]
   repeat (obtain⟨_,hh⟩:=hh)
   try (first | grind [= aae])
def S109:Fsp:=⟨[(true,sRun),(true,sRun)],[],[(false,[.bool])],[([],[[.ap (.usr 43) [.var 3,.var 4,.var 8,.var 9]]])],true⟩
abbrev a2o:List X:=[(.ap .le [LoI,(V 0)]),(.ap .le [(V 0),HiI]),(.ap .le [LoI,(V 1)]),(.ap .le [(V 1),HiI]),(.ap .le [LoI,(V 2)]),(.ap .le [(V 2),HiI]),(.ap (.typ (.sl [(.int .u8)])) [(V 3)]),(.ap (.typ (.sl [(.int .u8)])) [(V 4)]),(.ap .le [LoI,(V 5)]),(.ap .le [(V 5),HiI]),(.ap .le [LoI,(V 6)]),(.ap .le [(V 6),HiI]),(.ap .le [LoI,(V 7)]),(.ap .le [(V 7),HiI]),(.ap (.typ (.sl [(.int .u8)])) [(V 8)]),(.ap (.typ (.sl [(.int .u8)])) [(V 9)])]
def bi3:List VC:=[]
def bi2:List (List X×List (List X)):=[(((.ap (.sbin .leq) [(.ap .str [(V 3)]),(.ap .str [(V 9)])])::a2o),[[(.ap (.sbin .leq) [(.ap .str [(V 8)]),(.ap .str [(V 4)])])]]),
 (((.ap .not [(.ap (.sbin .leq) [(.ap .str [(V 3)]),(.ap .str [(V 9)])])])::a2o),[[(.lit (.bool false))]])]
theorem bsz:runS Try.prog (acr T0) 10 6 ⟨aa0 [],hintA []⟩ Try.f109 (aau Try.f109) S109=some (bi3,bi2):=by kernel_rfl
set_option maxHeartbeats 4000000 in
theorem c109:aah U Try.prog 109 S109:=by
 refine aah.of (P:=Try.prog) (U:=U) (T:=T0) (f:=109) (fn:=Try.f109) (fuel:=10) (fk:=6) (hs:=⟨aa0 [],hintA []⟩) (S:=S109) (v:=bi3) (outs:=bi2) mixed hT1' b0f bsz ?_ ?_
 ·unfold bi3
  repeat' (first | exact aa7 _ | refine aai (fun v hh=>?_) ?_)
  all_goals
   simp only [aao,aax,aaw,aa2,b_le,abk,aa6,ai5,aav,ae0,w_l0,w_l1,aae,aaf,aay,aac,aad,aak,aaj,us43,aln,abu,aas,adj,ab4,aaq,List.cons.injEq,a2o] at hh ⊢
   repeat (obtain⟨_,hh⟩:=hh)
   try (first | grind [= aae])
 ·intro o ho σ hU hh
  obtain⟨v⟩:=σ
  cases hU
  simp only [bi2,Mn,List.not_mem_nil,or_false] at ho
  repeat' (first | (rcases ho with rfl | ho) | subst ho)
  all_goals
   refine⟨_,Ms ..,by simp only [aao,aax,aaw,aa2,b_le,abk,aa6,ai5,aav,ae0,w_l0,w_l1,aae,aaf,aay,aac,aad,aak,aaj],?_⟩
   simp only [aao,aax,aaw,aa2,b_le,abk,aa6,ai5,aav,ae0,w_l0,w_l1,aae,aaf,aay,aac,aad,aak,aaj,us43,aln,abu,aas,adj,ab4,aaq,List.cons.injEq,a2o] at hh
   simp only [List.map_cons,List.map_nil,aao,aax,aaw,aa2,b_le,abk,aa6,ai5,aav,ae0,w_l0,w_l1,aae,aaf,aay,aac,aad,aak,aaj,w_le,akb,amj,us43,aln,abu,aas,adj,ab4,aaq,List.cons.injEq]
   repeat (obtain⟨_,hh⟩:=hh)
   try (first | grind [= aae])
def T64:List (FuncId×Fsp):=[(109,S109)]
theorem hT64:ae1 U Try.prog T64:=.cons c109 .nil
def lp64:Lp:=⟨[(.slot 5,.own true sRun),(.slot 6,.int .i64)],[0,3],[0],fun F H k=>[.ap .le [zI,.var (k+2)],.ap .le [.var (k+2),.ap .len [.var 0]],.ap .le [.var k,.var (k+2)],.ap .le [zI,.var k],.ap .same [.ap (.mk true) [.var (k+1)],.ap (.usr 41) [.var 0,.var 4,.var 5,.var (k+2)]]],fun F H k=>.ap (.sub .i64) [.ap .len [.var 0],.var (k+2)]⟩
def S64:Fsp:=⟨[(false,[sR]),(true,sRun)],[.ap .le [.ap .len [.var 0],I 1000]],[(false,[sR])],[([],[[.ap (.usr 40) [.var 0,.var 4,.var 5]]])],false⟩
abbrev bdc:List X:=[(.ap (.typ (.sl [(.int .i64),(.int .i64),(.int .i64),(.sl [(.int .u8)]),(.sl [(.int .u8)])])) [(V 0)]),(.ap .le [LoI,(V 1)]),(.ap .le [(V 1),HiI]),(.ap .le [LoI,(V 2)]),(.ap .le [(V 2),HiI]),(.ap .le [LoI,(V 3)]),(.ap .le [(V 3),HiI]),(.ap (.typ (.sl [(.int .u8)])) [(V 4)]),(.ap (.typ (.sl [(.int .u8)])) [(V 5)]),(.ap .le [(.ap .len [(V 0)]),(I 1000)])]
abbrev a7g:List X:=(.ap .le [(I 0),(V 8)])::(.ap .le [(V 8),(.ap .len [(V 0)])])::(.ap .le [(V 6),(V 8)])::(.ap .le [(I 0),(V 6)])::(.ap .same [(.ap (.mk true) [(V 7)]),(.ap (.usr 41) [(V 0),(V 4),(V 5),(V 8)])])::bdc
def btq:List VC:=[(bdc,(.ap .same [(.ap (.mk true) [(.ap (.nil true) [])]),(.ap (.usr 41) [(V 0),(V 4),(V 5),(I 0)])])),
 (((.ap (.usr 43) [(.ap (.cell 3) [(V 0),(V 8)]),(.ap (.cell 4) [(V 0),(V 8)]),(V 4),(V 5)])::(.ap .lt [(V 8),(.ap .len [(V 0)])])::a7g),(.ap .same [(.ap (.mk true) [(.ap .cat [(V 7),(.ap .snoc [(.ap (.nil false) []),(.ap (.cell 0) [(V 0),(V 8)]),(.ap (.cell 1) [(V 0),(V 8)]),(.ap (.cell 2) [(V 0),(V 8)]),(.ap (.cell 3) [(V 0),(V 8)]),(.ap (.cell 4) [(V 0),(V 8)])])])]),(.ap (.usr 41) [(V 0),(V 4),(V 5),(.ap (.add .i64) [(V 8),(I 1)])])])),
 (((.ap .not [(.ap (.usr 43) [(.ap (.cell 3) [(V 0),(V 8)]),(.ap (.cell 4) [(V 0),(V 8)]),(V 4),(V 5)])])::(.ap .lt [(V 8),(.ap .len [(V 0)])])::a7g),(.ap .same [(.ap (.mk true) [(V 7)]),(.ap (.usr 41) [(V 0),(V 4),(V 5),(.ap (.add .i64) [(V 8),(I 1)])])]))]
def btp:List (List X×List (List X)):=[(((.ap .not [(.ap .lt [(V 8),(.ap .len [(V 0)])])])::a7g),[[(.ap (.mk true) [(V 7)])]])]
theorem byx:runS Try.prog (acr (tab T64)) 10 6 ⟨aa0 [(3,lp64)],hintA []⟩ Try.f64 (aau Try.f64) S64=some (btq,btp):=by kernel_rfl
set_option maxHeartbeats 4000000 in
theorem c64:aah U Try.prog 64 S64:=by
 refine aah.of (P:=Try.prog) (U:=U) (T:=(tab T64)) (f:=64) (fn:=Try.f64) (fuel:=10) (fk:=6) (hs:=⟨aa0 [(3,lp64)],hintA []⟩) (S:=S64) (v:=btq) (outs:=btp) mixed hT64 at64 byx ?_ ?_
 ·unfold btq
  repeat' (first | exact aa7 _ | refine aai (fun v hh=>?_) ?_)
  all_goals
   simp only [aao,aax,aaw,aa2,aco,b_lt,b_le,abk,aa6,abr,abn,abf,ac3,w_mk,abt,aef,aav,w_l0,w_l1,aae,aaf,aay,aac,aad,aak,aaj,us43,us40,us41,us43,aas,aa1,acf,aaq,List.nil_append,Ba,Dt,bdc,a7g] at hh ⊢
   repeat (obtain⟨_,hh⟩:=hh)
   try (first | grind [mt_z,mt_s,mt_e,beu,bet,ovl5,= aae])
 ·intro o ho σ hU hh
  obtain⟨v⟩:=σ
  cases hU
  simp only [btp,Mn,List.not_mem_nil,or_false] at ho
  repeat' (first | (rcases ho with rfl | ho) | subst ho)
  all_goals
   refine⟨_,Ms ..,by simp only [aao,aax,aaw,aa2,aco,b_lt,b_le,abk,aa6,abr,abn,abf,ac3,w_mk,abt,aef,aav,w_l0,w_l1,aae,aaf,aay,aac,aad,aak,aaj],?_⟩
   simp only [aao,aax,aaw,aa2,aco,b_lt,b_le,abk,aa6,abr,abn,abf,ac3,w_mk,abt,aef,aav,w_l0,w_l1,aae,aaf,aay,aac,aad,aak,aaj,us43,us40,us41,us43,aas,aa1,acf,aaq,List.nil_append,Ba,Dt,bdc,a7g] at hh
   simp only [List.map_cons,List.map_nil,aao,aax,aaw,aa2,aco,b_lt,b_le,abk,aa6,abr,abn,abf,ac3,w_mk,abt,aef,aav,w_l0,w_l1,aae,aaf,aay,aac,aad,aak,aaj,w_lt,w_le,akb,ayu,amj,us43,us40,us41,us43,aas,aa1,acf,aaq,List.nil_append,Ba,Dt]
   repeat (obtain⟨_,hh⟩:=hh)
   try (first | grind [mt_z,mt_s,mt_e,beu,bet,ovl5,= aae])
theorem us44(l i:CD):@Us.u U 44 [l,i]=spF l.rows i.iv.toNat:=rfl
theorem us45(l i:CD):@Us.u U 45 [l,i]=spL l.rows i.iv.toNat:=rfl
theorem us46(l:CD):@Us.u U 46 [l]=spF l.rows l.rows.length:=rfl
theorem us47(l:CD):@Us.u U 47 [l]=spL l.rows l.rows.length:=rfl
theorem amm{α:Type}{l:List α}{n:Nat}(h1:1≤n)(h:n<l.length):(l.take (n+1)).drop 1=(l.take n).drop 1++[l[n]]:=by
 rw [List.take_succ_eq_append_getElem h,List.drop_append_of_le_length (by rw [List.length_take];omega)]
section
variable {l:CD} {i:Int}
theorem bn3:spF l.rows (1:Int).toNat=l.cell 0 3:=by
 show((l.rows.take 1).drop 1).foldl _ _=_
 rw [List.drop_eq_nil_of_le (by rw [List.length_take];omega)]
 rfl
theorem bn6:spL l.rows (1:Int).toNat=l.cell 0 4:=by
 show((l.rows.take 1).drop 1).foldl _ _=_
 rw [List.drop_eq_nil_of_le (by rw [List.length_take];omega)]
 rfl
theorem bn5(hT:Typ (.sl sRun) l)(h0:1≤i)(h:i<l.len):spF l.rows (i+1).toNat=if cmpC (l.cell i 3) (spF l.rows i.toNat)<0 then l.cell i 3 else spF l.rows i.toNat:=by
 have hl:=hT.sl.1
 have hlt:i.toNat<l.rows.length:=by omega
 unfold spF
 rw [show(i+1).toNat=i.toNat+1 by omega,amm (by omega) hlt,List.foldl_append]
 have e:at' l.rows[i.toNat] 3=l.cell i 3:=by
  show _=at' (l.rows.getD i.toNat []) 3
  rw [Gd,Gl hlt]
  rfl
 simp only [List.foldl_cons,List.foldl_nil,e]
theorem bt9(hT:Typ (.sl sRun) l)(h0:1≤i)(h:i<l.len):spL l.rows (i+1).toNat=if 0<cmpC (l.cell i 4) (spL l.rows i.toNat) then l.cell i 4 else spL l.rows i.toNat:=by
 have hl:=hT.sl.1
 have hlt:i.toNat<l.rows.length:=by omega
 unfold spL
 rw [show(i+1).toNat=i.toNat+1 by omega,amm (by omega) hlt,List.foldl_append]
 have e:at' l.rows[i.toNat] 4=l.cell i 4:=by
  show _=at' (l.rows.getD i.toNat []) 4
  rw [Gd,Gl hlt]
  rfl
 simp only [List.foldl_cons,List.foldl_nil,e]
theorem bqq(hT:Typ (.sl sRun) l)(h0:1≤i)(h:i<l.len):spL l.rows (i+1).toNat=if cmpC (spL l.rows i.toNat) (l.cell i 4)<0 then l.cell i 4 else spL l.rows i.toNat:=by
 rw [bt9 hT h0 h]
 have:=avd (l.cell i 4) (spL l.rows i.toNat)
 congr 1
 rw [eq_iff_iff]
 omega
theorem bn4(hT:Typ (.sl sRun) l)(h:¬ i<l.len):spF l.rows i.toNat=spF l.rows l.rows.length:=by
 have hl:=hT.sl.1
 unfold spF
 rw [List.take_of_length_le (by omega),List.take_length]
theorem bn7(hT:Typ (.sl sRun) l)(h:¬ i<l.len):spL l.rows i.toNat=spL l.rows l.rows.length:=by
 have hl:=hT.sl.1
 unfold spL
 rw [List.take_of_length_le (by omega),List.take_length]
end
def lp65:Lp:=⟨[(.cell 3 3,.val sB),(.cell 3 4,.val sB),(.slot 4,.int .i64)],[0,2,3],[0],fun F H k=>[.ap .le [I 1,.var (k+2)],.ap .le [.var (k+2),.ap .len [.var 0]],.ap .same [.var k,.ap (.usr 44) [.var 0,.var (k+2)]],.ap .same [.var (k+1),.ap (.usr 45) [.var 0,.var (k+2)]]],fun F H k=>.ap (.sub .i64) [.ap .len [.var 0],.var (k+2)]⟩
def S65:Fsp:=⟨[(false,[sR])],[.ap .le [I 1,.ap .len [.var 0]],.ap .le [.ap .len [.var 0],I 1000]],[(true,sRun)],[([],[[.ap (.cell 0) [.var 0,I 0],.ap (.cell 1) [.var 0,I 0],.ap (.cell 2) [.var 0,I 0],.ap (.usr 46) [.var 0],.ap (.usr 47) [.var 0]]])],false⟩
abbrev amx:X:=(.ap (.sbin .lss) [(.ap .str [(V 2)]),(.ap .str [(.ap (.cell 4) [(V 0),(V 3)])])])
abbrev amy:X:=(.ap (.sbin .lss) [(.ap .str [(.ap (.cell 3) [(V 0),(V 3)])]),(.ap .str [(V 1)])])
abbrev alh:X:=(.ap .lt [(V 3),(.ap .len [(V 0)])])
abbrev am0:X:=(.ap (.add .i64) [(V 3),(I 1)])
abbrev a7h:List X:=[(.ap (.typ (.sl [(.int .i64),(.int .i64),(.int .i64),(.sl [(.int .u8)]),(.sl [(.int .u8)])])) [(V 0)]),(.ap .le [(I 1),(.ap .len [(V 0)])]),(.ap .le [(.ap .len [(V 0)]),(I 1000)])]
abbrev alg:List X:=(.ap .le [(I 1),(V 3)])::(.ap .le [(V 3),(.ap .len [(V 0)])])::(.ap .same [(V 1),(.ap (.usr 44) [(V 0),(V 3)])])::(.ap .same [(V 2),(.ap (.usr 45) [(V 0),(V 3)])])::a7h
def bts:List VC:=[(a7h,(.ap .same [(.ap (.cell 3) [(V 0),(I 0)]),(.ap (.usr 44) [(V 0),(I 1)])])),
 (a7h,(.ap .same [(.ap (.cell 4) [(V 0),(I 0)]),(.ap (.usr 45) [(V 0),(I 1)])])),
 ((amx::amy::alh::alg),(.ap .same [(.ap (.cell 3) [(V 0),(V 3)]),(.ap (.usr 44) [(V 0),am0])])),
 ((amx::amy::alh::alg),(.ap .same [(.ap (.cell 4) [(V 0),(V 3)]),(.ap (.usr 45) [(V 0),am0])])),
 (((.ap .not [amx])::amy::alh::alg),(.ap .same [(.ap (.cell 3) [(V 0),(V 3)]),(.ap (.usr 44) [(V 0),am0])])),
 (((.ap .not [amx])::amy::alh::alg),(.ap .same [(V 2),(.ap (.usr 45) [(V 0),am0])])),
 ((amx::(.ap .not [amy])::alh::alg),(.ap .same [(V 1),(.ap (.usr 44) [(V 0),am0])])),
 ((amx::(.ap .not [amy])::alh::alg),(.ap .same [(.ap (.cell 4) [(V 0),(V 3)]),(.ap (.usr 45) [(V 0),am0])])),
 (((.ap .not [amx])::(.ap .not [amy])::alh::alg),(.ap .same [(V 1),(.ap (.usr 44) [(V 0),am0])])),
 (((.ap .not [amx])::(.ap .not [amy])::alh::alg),(.ap .same [(V 2),(.ap (.usr 45) [(V 0),am0])]))]
def btr:List (List X×List (List X)):=[(((.ap .not [alh])::alg),[[(.ap (.cell 0) [(V 0),(I 0)]),(.ap (.cell 1) [(V 0),(I 0)]),(.ap (.cell 2) [(V 0),(I 0)]),(V 1),(V 2)]])]
theorem byy:runS Try.prog (acr T0) 10 8 ⟨aa0 [(3,lp65)],hintA []⟩ Try.f65 (aau Try.f65) S65=some (bts,btr):=by kernel_rfl
set_option maxHeartbeats 4000000 in
theorem c65:aah U Try.prog 65 S65:=by
 refine aah.of (P:=Try.prog) (U:=U) (T:=T0) (f:=65) (fn:=Try.f65) (fuel:=10) (fk:=8) (hs:=⟨aa0 [(3,lp65)],hintA []⟩) (S:=S65) (v:=bts) (outs:=btr) mixed hT1' at65 byy ?_ ?_
 ·unfold bts
  repeat' (first | exact aa7 _ | refine aai (fun v hh=>?_) ?_)
  all_goals
   simp only [aao,aax,aaw,aa2,aco,b_lt,b_le,abk,aa6,abr,abn,abf,ai5,aav,ae0,w_l0,w_l1,aae,aaf,aay,aac,aad,aak,aaj,us44,us45,us46,us47,ayf,aas,aaq,List.cons.injEq,Dt,a7h,amx,amy,alh,am0,alg] at hh ⊢
   repeat (obtain⟨_,hh⟩:=hh)
   try (first | grind [bn3,bn6,bn5,bqq,bn4,bn7,= aae])
 ·intro o ho σ hU hh
  obtain⟨v⟩:=σ
  cases hU
  simp only [btr,Mn,List.not_mem_nil,or_false] at ho
  repeat' (first | (rcases ho with rfl | ho) | subst ho)
  all_goals
   refine⟨_,Ms ..,by simp only [aao,aax,aaw,aa2,aco,b_lt,b_le,abk,aa6,abr,abn,abf,ai5,aav,ae0,w_l0,w_l1,aae,aaf,aay,aac,aad,aak,aaj],?_⟩
   simp only [aao,aax,aaw,aa2,aco,b_lt,b_le,abk,aa6,abr,abn,abf,ai5,aav,ae0,w_l0,w_l1,aae,aaf,aay,aac,aad,aak,aaj,us44,us45,us46,us47,ayf,aas,aaq,List.cons.injEq,Dt,a7h,amx,amy,alh,am0,alg] at hh
   simp only [List.map_cons,List.map_nil,aao,aax,aaw,aa2,aco,b_lt,b_le,abk,aa6,abr,abn,abf,ai5,aav,ae0,w_l0,w_l1,aae,aaf,aay,aac,aad,aak,aaj,w_lt,w_le,akb,ayu,amj,us44,us45,us46,us47,ayf,aas,aaq,List.cons.injEq,Dt]
   repeat (obtain⟨_,hh⟩:=hh)
   try (first | grind [bn3,bn6,bn5,bqq,bn4,bn7,= aae])
def bxc(f:Nat)(w:Nat):Lp:=⟨[(.cell 5 0,.int .i64),(.cell 5 1,.int .i64),(.cell 5 2,.int .i64),(.cell 5 3,.val sB),(.cell 5 4,.val sB),(.slot 6,.int .i64)],[0,1,4,5],[0],fun F H k=>[.ap .le [I 1,.var (k+5)],.ap .le [.var (k+5),.ap .len [.var 0]],.ap .same [.var (k+f),.ap (.usr w) [.var 0,.var (k+5)]]],fun F H k=>.ap (.sub .i64) [.ap .len [.var 0],.var (k+5)]⟩
def S131:Fsp:=⟨[(true,sRun),(true,sRun)],[],[(false,[.int .i64])],[([],[[.ap (.usr 20) [.var 3,.var 8]]])],true⟩
def S133:Fsp:=⟨[(true,sRun),(true,sRun)],[],[(false,[.int .i64])],[([],[[.ap (.usr 20) [.var 4,.var 9]]])],true⟩
def bi5:List VC:=[]
def bi4:List (List X×List (List X)):=[([(.ap .le [LoI,(.ap (.usr 20) [(V 3),(V 8)])]),(.ap .le [(.ap (.usr 20) [(V 3),(V 8)]),HiI]),(.ap .le [(I (-1)),(.ap (.usr 20) [(V 3),(V 8)])]),(.ap .le [(.ap (.usr 20) [(V 3),(V 8)]),(I 1)]),(.ap .le [LoI,(V 0)]),(.ap .le [(V 0),HiI]),(.ap .le [LoI,(V 1)]),(.ap .le [(V 1),HiI]),(.ap .le [LoI,(V 2)]),(.ap .le [(V 2),HiI]),(.ap (.typ (.sl [(.int .u8)])) [(V 3)]),(.ap (.typ (.sl [(.int .u8)])) [(V 4)]),(.ap .le [LoI,(V 5)]),(.ap .le [(V 5),HiI]),(.ap .le [LoI,(V 6)]),(.ap .le [(V 6),HiI]),(.ap .le [LoI,(V 7)]),(.ap .le [(V 7),HiI]),(.ap (.typ (.sl [(.int .u8)])) [(V 8)]),(.ap (.typ (.sl [(.int .u8)])) [(V 9)])],[[(.ap (.usr 20) [(V 3),(V 8)])]])]
theorem bs1:runS Try.prog (acr (tab T8)) 10 4 ⟨aa0 [],hintA []⟩ Try.f131 (aau Try.f131) S131=some (bi5,bi4):=by kernel_rfl
set_option maxHeartbeats 4000000 in
theorem c131:aah U Try.prog 131 S131:=by
 refine aah.of (P:=Try.prog) (U:=U) (T:=(tab T8)) (f:=131) (fn:=Try.f131) (fuel:=10) (fk:=4) (hs:=⟨aa0 [],hintA []⟩) (S:=S131) (v:=bi5) (outs:=bi4) mixed bme b0g bs1 ?_ ?_
 ·unfold bi5
  repeat' (first | exact aa7 _ | refine aai (fun v hh=>?_) ?_)
  all_goals
   simp only [aao,aax,aaw,aa2,b_le,aa6,aav,w_l0,w_l1,aae,aaf,aay,aac,aad,aak,aaj,aao,us20,abu,aas,aaq,List.cons.injEq] at hh ⊢
   repeat (obtain⟨_,hh⟩:=hh)
   try (first | grind [= aae])
 ·intro o ho σ hU hh
  obtain⟨v⟩:=σ
  cases hU
  simp only [bi4,Mn,List.not_mem_nil,or_false] at ho
  repeat' (first | (rcases ho with rfl | ho) | subst ho)
  all_goals
   refine⟨_,Ms ..,by simp only [aao,aax,aaw,aa2,b_le,aa6,aav,w_l0,w_l1,aae,aaf,aay,aac,aad,aak,aaj],?_⟩
   simp only [aao,aax,aaw,aa2,b_le,aa6,aav,w_l0,w_l1,aae,aaf,aay,aac,aad,aak,aaj,aao,us20,abu,aas,aaq,List.cons.injEq] at hh
   simp only [List.map_cons,List.map_nil,aao,aax,aaw,aa2,b_le,aa6,aav,w_l0,w_l1,aae,aaf,aay,aac,aad,aak,aaj,w_le,amj,aao,us20,abu,aas,aaq,List.cons.injEq]
   repeat (obtain⟨_,hh⟩:=hh)
   try (first | grind [= aae])
def bi7:List VC:=[]
def bi6:List (List X×List (List X)):=[([(.ap .le [LoI,(.ap (.usr 20) [(V 4),(V 9)])]),(.ap .le [(.ap (.usr 20) [(V 4),(V 9)]),HiI]),(.ap .le [(I (-1)),(.ap (.usr 20) [(V 4),(V 9)])]),(.ap .le [(.ap (.usr 20) [(V 4),(V 9)]),(I 1)]),(.ap .le [LoI,(V 0)]),(.ap .le [(V 0),HiI]),(.ap .le [LoI,(V 1)]),(.ap .le [(V 1),HiI]),(.ap .le [LoI,(V 2)]),(.ap .le [(V 2),HiI]),(.ap (.typ (.sl [(.int .u8)])) [(V 3)]),(.ap (.typ (.sl [(.int .u8)])) [(V 4)]),(.ap .le [LoI,(V 5)]),(.ap .le [(V 5),HiI]),(.ap .le [LoI,(V 6)]),(.ap .le [(V 6),HiI]),(.ap .le [LoI,(V 7)]),(.ap .le [(V 7),HiI]),(.ap (.typ (.sl [(.int .u8)])) [(V 8)]),(.ap (.typ (.sl [(.int .u8)])) [(V 9)])],[[(.ap (.usr 20) [(V 4),(V 9)])]])]
theorem bs2:runS Try.prog (acr (tab T8)) 10 4 ⟨aa0 [],hintA []⟩ Try.f133 (aau Try.f133) S133=some (bi7,bi6):=by kernel_rfl
set_option maxHeartbeats 4000000 in
theorem c133:aah U Try.prog 133 S133:=by
 refine aah.of (P:=Try.prog) (U:=U) (T:=(tab T8)) (f:=133) (fn:=Try.f133) (fuel:=10) (fk:=4) (hs:=⟨aa0 [],hintA []⟩) (S:=S133) (v:=bi7) (outs:=bi6) mixed bme b0i bs2 ?_ ?_
 ·unfold bi7
  repeat' (first | exact aa7 _ | refine aai (fun v hh=>?_) ?_)
  all_goals
   simp only [aao,aax,aaw,aa2,b_le,aa6,aav,w_l0,w_l1,aae,aaf,aay,aac,aad,aak,aaj,aao,us20,abu,aas,aaq,List.cons.injEq] at hh ⊢
   repeat (obtain⟨_,hh⟩:=hh)
   try (first | grind [= aae])
 ·intro o ho σ hU hh
  obtain⟨v⟩:=σ
  cases hU
  simp only [bi6,Mn,List.not_mem_nil,or_false] at ho
  repeat' (first | (rcases ho with rfl | ho) | subst ho)
  all_goals
   refine⟨_,Ms ..,by simp only [aao,aax,aaw,aa2,b_le,aa6,aav,w_l0,w_l1,aae,aaf,aay,aac,aad,aak,aaj],?_⟩
   simp only [aao,aax,aaw,aa2,b_le,aa6,aav,w_l0,w_l1,aae,aaf,aay,aac,aad,aak,aaj,aao,us20,abu,aas,aaq,List.cons.injEq] at hh
   simp only [List.map_cons,List.map_nil,aao,aax,aaw,aa2,b_le,aa6,aav,w_l0,w_l1,aae,aaf,aay,aac,aad,aak,aaj,w_le,amj,aao,us20,abu,aas,aaq,List.cons.injEq]
   repeat (obtain⟨_,hh⟩:=hh)
   try (first | grind [= aae])
def T106:List (FuncId×Fsp):=[(131,S131),(133,S133)]
theorem b0v:ae1 U Try.prog T106:=.cons c131 (.cons c133 .nil)
def bg2:List (FuncId×Inl):=[(103,⟨Try.f103,⟨aa0 [(5,bxc 3 44)],hintA []⟩⟩),(132,⟨Try.f132,⟨aa0 [(5,bxc 4 45)],hintA []⟩⟩)]
theorem brx:ajx U Try.prog bg2:=.cons (.of bvf (by kernel_rfl)) (.cons (.of b0h (by kernel_rfl)) .nil)
def S106:Fsp:=⟨[(false,[sR])],[.ap .le [I 1,.ap .len [.var 0]],.ap .le [.ap .len [.var 0],I 1000]],[(false,[sB]),(false,[sB])],[([],[[.ap (.usr 46) [.var 0]],[.ap (.usr 47) [.var 0]]])],false⟩
abbrev afl:X:=(.ap .len [(V 0)])
abbrev a2m:List X:=[(.ap (.typ (.sl [(.int .i64),(.int .i64),(.int .i64),(.sl [(.int .u8)]),(.sl [(.int .u8)])])) [(V 0)]),(.ap .le [(I 1),afl]),(.ap .le [afl,(I 1000)])]
abbrev aqg:List X:=(.ap .le [(I 1),(V 6)])::(.ap .le [(V 6),afl])::(.ap .same [(V 4),(.ap (.usr 44) [(V 0),(V 6)])])::a2m
abbrev awo:List X:=(.ap .le [(I 1),(V 12)])::(.ap .le [(V 12),afl])::(.ap .same [(V 11),(.ap (.usr 45) [(V 0),(V 12)])])::(.ap .not [(.ap .lt [(V 6),afl])])::aqg
def biz:List VC:=[(a2m,(.ap .same [(.ap (.cell 3) [(V 0),(I 0)]),(.ap (.usr 44) [(V 0),(I 1)])])),
 (((.ap .lt [(.ap (.usr 20) [(.ap (.cell 3) [(V 0),(V 6)]),(V 4)]),(I 0)])::(.ap .lt [(V 6),afl])::aqg),(.ap .same [(.ap (.cell 3) [(V 0),(V 6)]),(.ap (.usr 44) [(V 0),(.ap (.add .i64) [(V 6),(I 1)])])])),
 (((.ap .not [(.ap .lt [(.ap (.usr 20) [(.ap (.cell 3) [(V 0),(V 6)]),(V 4)]),(I 0)])])::(.ap .lt [(V 6),afl])::aqg),(.ap .same [(V 4),(.ap (.usr 44) [(V 0),(.ap (.add .i64) [(V 6),(I 1)])])])),
 (((.ap .not [(.ap .lt [(V 6),afl])])::aqg),(.ap .same [(.ap (.cell 4) [(V 0),(I 0)]),(.ap (.usr 45) [(V 0),(I 1)])])),
 (((.ap .lt [(I 0),(.ap (.usr 20) [(.ap (.cell 4) [(V 0),(V 12)]),(V 11)])])::(.ap .lt [(V 12),afl])::awo),(.ap .same [(.ap (.cell 4) [(V 0),(V 12)]),(.ap (.usr 45) [(V 0),(.ap (.add .i64) [(V 12),(I 1)])])])),
 (((.ap .not [(.ap .lt [(I 0),(.ap (.usr 20) [(.ap (.cell 4) [(V 0),(V 12)]),(V 11)])])])::(.ap .lt [(V 12),afl])::awo),(.ap .same [(V 11),(.ap (.usr 45) [(V 0),(.ap (.add .i64) [(V 12),(I 1)])])]))]
def biy:List (List X×List (List X)):=[(((.ap .not [(.ap .lt [(V 12),afl])])::awo),[[(V 4)],[(V 11)]])]
theorem bsx:runV Try.prog (cxOf Try.prog (acr (tab T106)) 10 8 ⟨ap4 bg2,noY,U.lc⟩ 4 106) ⟨aa0 [],hintA []⟩ Try.f106 (aau Try.f106) S106=some (biz,biy):=by kernel_rfl
set_option maxHeartbeats 4000000 in
theorem c106:aah U Try.prog 106 S106:=by
 refine aah.ofV (P:=Try.prog) (U:=U) (T:=(tab T106)) (l:=bg2) (y:=noY) (dp:=4) (f:=106) (fn:=Try.f106) (fuel:=10) (fk:=8) (hs:=⟨aa0 [],hintA []⟩) (S:=S106) (v:=biz) (outs:=biy) mixed b0v brx b0c (aez (by kernel_rfl)) bsx ?_ ?_
 ·unfold biz
  repeat' (first | exact aa7 _ | refine aai (fun v hh=>?_) ?_)
  all_goals
   simp only [aao,aax,aaw,aa2,aco,b_lt,b_le,abk,aa6,abr,abn,abf,aav,w_l0,w_l1,aae,aaf,aay,aac,aad,aak,aaj,us44,us45,us46,us47,us20,abu,aas,aaq,List.cons.injEq,Dt,a2m,afl,aqg,awo] at hh ⊢
   repeat (obtain⟨_,hh⟩:=hh)
   try (first | grind [bn3,bn6,bn5,bt9,bn4,bn7,= aae])
 ·intro o ho σ hU hh
  obtain⟨v⟩:=σ
  cases hU
  simp only [biy,Mn,List.not_mem_nil,or_false] at ho
  repeat' (first | (rcases ho with rfl | ho) | subst ho)
  all_goals
   refine⟨_,Ms ..,by simp only [aao,aax,aaw,aa2,aco,b_lt,b_le,abk,aa6,abr,abn,abf,aav,w_l0,w_l1,aae,aaf,aay,aac,aad,aak,aaj],?_⟩
   simp only [aao,aax,aaw,aa2,aco,b_lt,b_le,abk,aa6,abr,abn,abf,aav,w_l0,w_l1,aae,aaf,aay,aac,aad,aak,aaj,us44,us45,us46,us47,us20,abu,aas,aaq,List.cons.injEq,Dt,a2m,afl,aqg,awo] at hh
   simp only [List.map_cons,List.map_nil,aao,aax,aaw,aa2,aco,b_lt,b_le,abk,aa6,abr,abn,abf,aav,w_l0,w_l1,aae,aaf,aay,aac,aad,aak,aaj,w_lt,w_le,akb,ayu,amj,us44,us45,us46,us47,us20,abu,aas,aaq,List.cons.injEq,Dt]
   repeat (obtain⟨_,hh⟩:=hh)
   try (first | grind [bn3,bn6,bn5,bt9,bn4,bn7,= aae])
end Go.Proofs.Ytlbbkmcegbeckaa
namespace Go.Proofs.Ytlbbkmcegbeckaa
open Go.Sx Go.Proofs Go.RowKit Go.Lib Go.Stb
theorem bub{P:Program}{U:Us}{f:FuncId}{S:Fsp}(hc:∀ us w,(callFunc f us).run P w=.ok (.enter f us) w)
  (h:∀ (v:Nat→CD) (m:Mem) (w:World) (us:List Value),(∀ k o,m k o→w.heap[k]? = some o)→aeu m S.args ((at6 0 S.args).map (@denL ⟨v⟩)) us→@Holds (@Sg.mk U v) S.pre →
   Calls P f us.toArray w fun e w'=>∃ u,e=.returned u∧Keep w w'∧∃ o∈S.outs,@Holds (@Sg.mk U v) o.1∧ResR (fun k ob=>(w.heap.size≤k∧w'.heap[k]? = some ob∧Nice ob)∨(S.fresh=false∧m k ob)) S.res (o.2.map (@denL (@Sg.mk U v))) u):aah U P f S:=by
 intro σ hU m w us htw hm hargs hpre
 obtain⟨v⟩:=σ
 cases hU
 rw [hc]
 have:=h v m w us.toList hm hargs hpre
 rw [Array.toArray_toList] at this
 exact this
theorem azw{w w':World}(h:Below w.heap.size w w'):Keep w w':=⟨h.block,h.size,h.os,h.tape,h.output⟩
theorem bek(v:Nat→CD):@Holds (@Sg.mk U v) []:=fun x hx=>by cases hx
theorem aoz{v:Nat→CD}{l:List X}{a b:X}(h:@Holds (@Sg.mk U v) l)(hm:.ap .le [a,b]∈l):(@den (@Sg.mk U v) a).iv≤(@den (@Sg.mk U v) b).iv:=by
 have:(@den (@Sg.mk U v) (.ap .le [a,b])).bv=true:=h _ hm
 rwa [@b_le (@Sg.mk U v)] at this
theorem bnz{m:Mem}{ss:List Srt}{d:CD}{u:Value}(h:RS m (.sl ss) d u)(hne:d.rows≠[]):d=.sl false d.rows:=by
 rcases(show(d=.sl true []∧u=.slice none 0 0)∨_ from h) with ⟨e1,_⟩ | ⟨rows,_,_,_,e1,_⟩ | ⟨_,e1,_⟩
 ·rw [e1] at hne;exact absurd rfl hne
 ·rw [e1];rfl
 ·rw [e1] at hne;exact absurd rfl hne
theorem a1v{m:Mem}{d:CD}{u:Value}{w:World}{l:List R5}(h:RS m sR d u)(hr:RelL m d.rows l):(d.len:Int)=l.length:=by rw [h.slice.2.1,hr.1]
end Go.Proofs.Ytlbbkmcegbeckaa
namespace Go.Proofs.Ytlbbkmcegbeckaa
open Go.Sx Go.Proofs
def ipQ(a b c d lv f t:CD)(n i:Int):List (List CD):=bml f t lv [a.rows,b.rows,c.rows,d.rows] n.toNat i.toNat
theorem us57(a b c d lv f t:CD):@Us.u U 57 [a,b,c,d,lv,f,t]=mkz (ipQ a b c d lv f t 4 0):=rfl
theorem us58(a b c d lv f t n i:CD):@Us.u U 58 [a,b,c,d,lv,f,t,n,i]=mkz (ipQ a b c d lv f t n.iv i.iv):=rfl
section
variable {a b c d lv f t:CD} {i:Int}
theorem a7w{j:Nat}{z:Int}{rows:List (List CD)}(hz:(j:Int)=z)(hq:eqC (vInt .i64 z) lv=true):selL f t lv j rows=rows.filter (ovl f t):=by
 subst hz
 exact if_pos hq
theorem a7v{j:Nat}{z:Int}{rows:List (List CD)}(hz:(j:Int)=z)(hq:¬ eqC (vInt .i64 z) lv=true):selL f t lv j rows=[]:=by
 subst hz
 exact if_neg hq
theorem ip_z:ipQ a b c d lv f t 0 0=[]:=by
 unfold ipQ bml selL
 simp
theorem bwx(hT:Typ (.sl sRun) a)(hq:eqC (vInt .i64 0) lv=true)(h0:0≤i)(h:i<a.len):ipQ a b c d lv f t 0 (i+1)=ipQ a b c d lv f t 0 i++opt (ovl f t [a.cell i 0,a.cell i 1,a.cell i 2,a.cell i 3,a.cell i 4]) [a.cell i 0,a.cell i 1,a.cell i 2,a.cell i 3,a.cell i 4]:=by
 show _++selL f t lv 0 (a.rows.take (i+1).toNat)=(_++selL f t lv 0 (a.rows.take i.toNat))++_
 rw [a7w (j:=0) rfl hq,a7w (j:=0) rfl hq,ad7 hT h0 h,List.append_assoc]
theorem bww(hq:¬ eqC (vInt .i64 0) lv=true):ipQ a b c d lv f t 0 (i+1)=ipQ a b c d lv f t 0 i:=by
 show _++selL f t lv 0 (a.rows.take (i+1).toNat)=_++selL f t lv 0 (a.rows.take i.toNat)
 rw [a7v (j:=0) rfl hq,a7v (j:=0) rfl hq]
theorem bwv(hT:Typ (.sl sRun) a)(h:¬ i<a.len):ipQ a b c d lv f t 0 i=ipQ a b c d lv f t 1 0:=by
 show(((List.range 0).flatMap fun k=>selL f t lv k ([a.rows,b.rows,c.rows,d.rows].getD k []))++selL f t lv 0 (a.rows.take i.toNat))=((List.range (0+1)).flatMap fun k=>selL f t lv k ([a.rows,b.rows,c.rows,d.rows].getD k []))++selL f t lv (0+1) (([a.rows,b.rows,c.rows,d.rows].getD (0+1) []).take 0)
 rw [abh hT h,List.take_zero,List.range_succ,List.flatMap_append]
 have:selL f t lv (0+1) []=[]:=by unfold selL;split<;>rfl
 rw [this,List.append_nil]
 simp [List.range_succ]
theorem bw0(hT:Typ (.sl sRun) b)(hq:eqC (vInt .i64 1) lv=true)(h0:0≤i)(h:i<b.len):ipQ a b c d lv f t 1 (i+1)=ipQ a b c d lv f t 1 i++opt (ovl f t [b.cell i 0,b.cell i 1,b.cell i 2,b.cell i 3,b.cell i 4]) [b.cell i 0,b.cell i 1,b.cell i 2,b.cell i 3,b.cell i 4]:=by
 show _++selL f t lv 1 (b.rows.take (i+1).toNat)=(_++selL f t lv 1 (b.rows.take i.toNat))++_
 rw [a7w (j:=1) rfl hq,a7w (j:=1) rfl hq,ad7 hT h0 h,List.append_assoc]
theorem bwz(hq:¬ eqC (vInt .i64 1) lv=true):ipQ a b c d lv f t 1 (i+1)=ipQ a b c d lv f t 1 i:=by
 show _++selL f t lv 1 (b.rows.take (i+1).toNat)=_++selL f t lv 1 (b.rows.take i.toNat)
 rw [a7v (j:=1) rfl hq,a7v (j:=1) rfl hq]
theorem bwy(hT:Typ (.sl sRun) b)(h:¬ i<b.len):ipQ a b c d lv f t 1 i=ipQ a b c d lv f t 2 0:=by
 show(((List.range 1).flatMap fun k=>selL f t lv k ([a.rows,b.rows,c.rows,d.rows].getD k []))++selL f t lv 1 (b.rows.take i.toNat))=((List.range (1+1)).flatMap fun k=>selL f t lv k ([a.rows,b.rows,c.rows,d.rows].getD k []))++selL f t lv (1+1) (([a.rows,b.rows,c.rows,d.rows].getD (1+1) []).take 0)
 rw [abh hT h,List.take_zero,List.range_succ,List.flatMap_append]
 have:selL f t lv (1+1) []=[]:=by unfold selL;split<;>rfl
 rw [this,List.append_nil]
 simp [List.range_succ]
theorem bw3(hT:Typ (.sl sRun) c)(hq:eqC (vInt .i64 2) lv=true)(h0:0≤i)(h:i<c.len):ipQ a b c d lv f t 2 (i+1)=ipQ a b c d lv f t 2 i++opt (ovl f t [c.cell i 0,c.cell i 1,c.cell i 2,c.cell i 3,c.cell i 4]) [c.cell i 0,c.cell i 1,c.cell i 2,c.cell i 3,c.cell i 4]:=by
 show _++selL f t lv 2 (c.rows.take (i+1).toNat)=(_++selL f t lv 2 (c.rows.take i.toNat))++_
 rw [a7w (j:=2) rfl hq,a7w (j:=2) rfl hq,ad7 hT h0 h,List.append_assoc]
theorem bw2(hq:¬ eqC (vInt .i64 2) lv=true):ipQ a b c d lv f t 2 (i+1)=ipQ a b c d lv f t 2 i:=by
 show _++selL f t lv 2 (c.rows.take (i+1).toNat)=_++selL f t lv 2 (c.rows.take i.toNat)
 rw [a7v (j:=2) rfl hq,a7v (j:=2) rfl hq]
theorem bw1(hT:Typ (.sl sRun) c)(h:¬ i<c.len):ipQ a b c d lv f t 2 i=ipQ a b c d lv f t 3 0:=by
 show(((List.range 2).flatMap fun k=>selL f t lv k ([a.rows,b.rows,c.rows,d.rows].getD k []))++selL f t lv 2 (c.rows.take i.toNat))=((List.range (2+1)).flatMap fun k=>selL f t lv k ([a.rows,b.rows,c.rows,d.rows].getD k []))++selL f t lv (2+1) (([a.rows,b.rows,c.rows,d.rows].getD (2+1) []).take 0)
 rw [abh hT h,List.take_zero,List.range_succ,List.flatMap_append]
 have:selL f t lv (2+1) []=[]:=by unfold selL;split<;>rfl
 rw [this,List.append_nil]
 simp [List.range_succ]
theorem bw6(hT:Typ (.sl sRun) d)(hq:eqC (vInt .i64 3) lv=true)(h0:0≤i)(h:i<d.len):ipQ a b c d lv f t 3 (i+1)=ipQ a b c d lv f t 3 i++opt (ovl f t [d.cell i 0,d.cell i 1,d.cell i 2,d.cell i 3,d.cell i 4]) [d.cell i 0,d.cell i 1,d.cell i 2,d.cell i 3,d.cell i 4]:=by
 show _++selL f t lv 3 (d.rows.take (i+1).toNat)=(_++selL f t lv 3 (d.rows.take i.toNat))++_
 rw [a7w (j:=3) rfl hq,a7w (j:=3) rfl hq,ad7 hT h0 h,List.append_assoc]
theorem bw5(hq:¬ eqC (vInt .i64 3) lv=true):ipQ a b c d lv f t 3 (i+1)=ipQ a b c d lv f t 3 i:=by
 show _++selL f t lv 3 (d.rows.take (i+1).toNat)=_++selL f t lv 3 (d.rows.take i.toNat)
 rw [a7v (j:=3) rfl hq,a7v (j:=3) rfl hq]
theorem bw4(hT:Typ (.sl sRun) d)(h:¬ i<d.len):ipQ a b c d lv f t 3 i=ipQ a b c d lv f t 4 0:=by
 show(((List.range 3).flatMap fun k=>selL f t lv k ([a.rows,b.rows,c.rows,d.rows].getD k []))++selL f t lv 3 (d.rows.take i.toNat))=((List.range (3+1)).flatMap fun k=>selL f t lv k ([a.rows,b.rows,c.rows,d.rows].getD k []))++selL f t lv (3+1) (([a.rows,b.rows,c.rows,d.rows].getD (3+1) []).take 0)
 rw [abh hT h,List.take_zero,List.range_succ,List.flatMap_append]
 have:selL f t lv (3+1) []=[]:=by unfold selL;split<;>rfl
 rw [this,List.append_nil]
 simp [List.range_succ]
end
def b04:Lp:=⟨[(.rcell 0 9 0,.own true sRun),(.slot 14,.int .i64)],[0,1,3,4,7,8,12,13],[12],fun F H k=>[.ap .le [zI,.var (k+2)],.ap .le [.var (k+2),.ap .len [sx F 12]],.ap .le [.var k,.ap (.add .i64) [litX 40 (sx F 8),.var (k+2)]],.ap .le [zI,.var k],.ap .same [.ap (.mk true) [.var (k+1)],.ap (.usr 58) [.var 0,.var 1,.var 2,.var 3,.var 4,.var 5,.var 6,sx F 8,.var (k+2)]]],fun F H k=>.ap (.sub .i64) [.ap .len [sx F 12],.var (k+2)]⟩
def bg1:List (FuncId×Inl):=[(105,⟨Try.f105,noH⟩),(99,⟨Try.f99,noH⟩),(130,⟨Try.f130,⟨aa0 [(4,b04)],hintA []⟩⟩)]
theorem brw:ajx U Try.prog bg1:=.cons ⟨bvg,ag9 rfl (by kernel_rfl)⟩ (.cons (.of at99 (by kernel_rfl)) (.cons (.of bq5 (by kernel_rfl)) .nil))
def T105:List (FuncId×Fsp):=[(108,S108)]
theorem b0u:ae1 U Try.prog T105:=.cons c108 .nil
def P105:List X:=[.ap .le [.ap .len [.var 0],I 40],.ap .le [.ap .len [.var 1],I 40],.ap .le [.ap .len [.var 2],I 40],.ap .le [.ap .len [.var 3],I 40]]
def S105:Fsp:=⟨[(true,[sR,sR,sR,sR]),(false,[.int .i64]),(false,[sB]),(false,[sB])],P105,[(false,[sR])],[([],[[.ap (.usr 57) [.var 0,.var 1,.var 2,.var 3,.var 4,.var 5,.var 6]]])],false⟩
abbrev awk:X:=(.ap (.usr 58) [(V 0),(V 1),(V 2),(V 3),(V 4),(V 5),(V 6),(I 1),(.ap (.add .i64) [(V 12),(I 1)])])
abbrev awl:X:=(.ap (.usr 58) [(V 0),(V 1),(V 2),(V 3),(V 4),(V 5),(V 6),(I 2),(.ap (.add .i64) [(V 15),(I 1)])])
abbrev awm:X:=(.ap (.usr 58) [(V 0),(V 1),(V 2),(V 3),(V 4),(V 5),(V 6),(I 3),(.ap (.add .i64) [(V 18),(I 1)])])
abbrev awn:X:=(.ap (.usr 58) [(V 0),(V 1),(V 2),(V 3),(V 4),(V 5),(V 6),(I 0),(.ap (.add .i64) [(V 9),(I 1)])])
abbrev anj:X:=(.ap .lt [(V 12),(.ap .len [(V 1)])])
abbrev ank:X:=(.ap .lt [(V 15),(.ap .len [(V 2)])])
abbrev anl:X:=(.ap .lt [(V 9),(.ap .len [(V 0)])])
abbrev a2l:List X:=[(.ap (.typ (.sl [(.int .i64),(.int .i64),(.int .i64),(.sl [(.int .u8)]),(.sl [(.int .u8)])])) [(V 0)]),(.ap (.typ (.sl [(.int .i64),(.int .i64),(.int .i64),(.sl [(.int .u8)]),(.sl [(.int .u8)])])) [(V 1)]),(.ap (.typ (.sl [(.int .i64),(.int .i64),(.int .i64),(.sl [(.int .u8)]),(.sl [(.int .u8)])])) [(V 2)]),(.ap (.typ (.sl [(.int .i64),(.int .i64),(.int .i64),(.sl [(.int .u8)]),(.sl [(.int .u8)])])) [(V 3)]),(.ap .le [LoI,(V 4)]),(.ap .le [(V 4),HiI]),(.ap (.typ (.sl [(.int .u8)])) [(V 5)]),(.ap (.typ (.sl [(.int .u8)])) [(V 6)]),(.ap .le [(.ap .len [(V 0)]),(I 40)]),(.ap .le [(.ap .len [(V 1)]),(I 40)]),(.ap .le [(.ap .len [(V 2)]),(I 40)]),(.ap .le [(.ap .len [(V 3)]),(I 40)])]
abbrev ang:List X:=(.ap .le [(I 0),(V 9)])::(.ap .le [(V 9),(.ap .len [(V 0)])])::(.ap .le [(V 7),(.ap (.add .i64) [(I 0),(V 9)])])::(.ap .le [(I 0),(V 7)])::(.ap .same [(.ap (.mk true) [(V 8)]),(.ap (.usr 58) [(V 0),(V 1),(V 2),(V 3),(V 4),(V 5),(V 6),(I 0),(V 9)])])::a2l
abbrev anh:List X:=(.ap .le [(I 0),(V 12)])::(.ap .le [(V 12),(.ap .len [(V 1)])])::(.ap .le [(V 10),(.ap (.add .i64) [(I 40),(V 12)])])::(.ap .le [(I 0),(V 10)])::(.ap .same [(.ap (.mk true) [(V 11)]),(.ap (.usr 58) [(V 0),(V 1),(V 2),(V 3),(V 4),(V 5),(V 6),(I 1),(V 12)])])::(.ap .not [anl])::ang
abbrev ani:List X:=(.ap .le [(I 0),(V 15)])::(.ap .le [(V 15),(.ap .len [(V 2)])])::(.ap .le [(V 13),(.ap (.add .i64) [(I 80),(V 15)])])::(.ap .le [(I 0),(V 13)])::(.ap .same [(.ap (.mk true) [(V 14)]),(.ap (.usr 58) [(V 0),(V 1),(V 2),(V 3),(V 4),(V 5),(V 6),(I 2),(V 15)])])::(.ap .not [anj])::anh
abbrev aqf:List X:=(.ap .le [(I 0),(V 18)])::(.ap .le [(V 18),(.ap .len [(V 3)])])::(.ap .le [(V 16),(.ap (.add .i64) [(I 120),(V 18)])])::(.ap .le [(I 0),(V 16)])::(.ap .same [(.ap (.mk true) [(V 17)]),(.ap (.usr 58) [(V 0),(V 1),(V 2),(V 3),(V 4),(V 5),(V 6),(I 3),(V 18)])])::(.ap .not [ank])::ani
def bix:List VC:=[(a2l,(.ap .same [(.ap (.mk true) [(.ap (.nil true) [])]),(.ap (.usr 58) [(V 0),(V 1),(V 2),(V 3),(V 4),(V 5),(V 6),(I 0),(I 0)])])),
 (((.ap (.usr 43) [(.ap (.cell 3) [(V 0),(V 9)]),(.ap (.cell 4) [(V 0),(V 9)]),(V 5),(V 6)])::(.ap .eq [(I 0),(V 4)])::anl::ang),(.ap .same [(.ap (.mk true) [(.ap .cat [(V 8),(.ap .snoc [(.ap (.nil false) []),(.ap (.cell 0) [(V 0),(V 9)]),(.ap (.cell 1) [(V 0),(V 9)]),(.ap (.cell 2) [(V 0),(V 9)]),(.ap (.cell 3) [(V 0),(V 9)]),(.ap (.cell 4) [(V 0),(V 9)])])])]),awn])),
 (((.ap .not [(.ap (.usr 43) [(.ap (.cell 3) [(V 0),(V 9)]),(.ap (.cell 4) [(V 0),(V 9)]),(V 5),(V 6)])])::(.ap .eq [(I 0),(V 4)])::anl::ang),(.ap .same [(.ap (.mk true) [(V 8)]),awn])),
 (((.ap .not [(.ap .eq [(I 0),(V 4)])])::anl::ang),(.ap .same [(.ap (.mk true) [(V 8)]),awn])),
 (((.ap .not [anl])::ang),(.ap .same [(.ap (.mk true) [(V 8)]),(.ap (.usr 58) [(V 0),(V 1),(V 2),(V 3),(V 4),(V 5),(V 6),(I 1),(I 0)])])),
 (((.ap (.usr 43) [(.ap (.cell 3) [(V 1),(V 12)]),(.ap (.cell 4) [(V 1),(V 12)]),(V 5),(V 6)])::(.ap .eq [(I 1),(V 4)])::anj::anh),(.ap .same [(.ap (.mk true) [(.ap .cat [(V 11),(.ap .snoc [(.ap (.nil false) []),(.ap (.cell 0) [(V 1),(V 12)]),(.ap (.cell 1) [(V 1),(V 12)]),(.ap (.cell 2) [(V 1),(V 12)]),(.ap (.cell 3) [(V 1),(V 12)]),(.ap (.cell 4) [(V 1),(V 12)])])])]),awk])),
 (((.ap .not [(.ap (.usr 43) [(.ap (.cell 3) [(V 1),(V 12)]),(.ap (.cell 4) [(V 1),(V 12)]),(V 5),(V 6)])])::(.ap .eq [(I 1),(V 4)])::anj::anh),(.ap .same [(.ap (.mk true) [(V 11)]),awk])),
 (((.ap .not [(.ap .eq [(I 1),(V 4)])])::anj::anh),(.ap .same [(.ap (.mk true) [(V 11)]),awk])),
 (((.ap .not [anj])::anh),(.ap .same [(.ap (.mk true) [(V 11)]),(.ap (.usr 58) [(V 0),(V 1),(V 2),(V 3),(V 4),(V 5),(V 6),(I 2),(I 0)])])),
 (((.ap (.usr 43) [(.ap (.cell 3) [(V 2),(V 15)]),(.ap (.cell 4) [(V 2),(V 15)]),(V 5),(V 6)])::(.ap .eq [(I 2),(V 4)])::ank::ani),(.ap .same [(.ap (.mk true) [(.ap .cat [(V 14),(.ap .snoc [(.ap (.nil false) []),(.ap (.cell 0) [(V 2),(V 15)]),(.ap (.cell 1) [(V 2),(V 15)]),(.ap (.cell 2) [(V 2),(V 15)]),(.ap (.cell 3) [(V 2),(V 15)]),(.ap (.cell 4) [(V 2),(V 15)])])])]),awl])),
 (((.ap .not [(.ap (.usr 43) [(.ap (.cell 3) [(V 2),(V 15)]),(.ap (.cell 4) [(V 2),(V 15)]),(V 5),(V 6)])])::(.ap .eq [(I 2),(V 4)])::ank::ani),(.ap .same [(.ap (.mk true) [(V 14)]),awl])),
 (((.ap .not [(.ap .eq [(I 2),(V 4)])])::ank::ani),(.ap .same [(.ap (.mk true) [(V 14)]),awl])),
 (((.ap .not [ank])::ani),(.ap .same [(.ap (.mk true) [(V 14)]),(.ap (.usr 58) [(V 0),(V 1),(V 2),(V 3),(V 4),(V 5),(V 6),(I 3),(I 0)])])),
 (((.ap (.usr 43) [(.ap (.cell 3) [(V 3),(V 18)]),(.ap (.cell 4) [(V 3),(V 18)]),(V 5),(V 6)])::(.ap .eq [(I 3),(V 4)])::(.ap .lt [(V 18),(.ap .len [(V 3)])])::aqf),(.ap .same [(.ap (.mk true) [(.ap .cat [(V 17),(.ap .snoc [(.ap (.nil false) []),(.ap (.cell 0) [(V 3),(V 18)]),(.ap (.cell 1) [(V 3),(V 18)]),(.ap (.cell 2) [(V 3),(V 18)]),(.ap (.cell 3) [(V 3),(V 18)]),(.ap (.cell 4) [(V 3),(V 18)])])])]),awm])),
 (((.ap .not [(.ap (.usr 43) [(.ap (.cell 3) [(V 3),(V 18)]),(.ap (.cell 4) [(V 3),(V 18)]),(V 5),(V 6)])])::(.ap .eq [(I 3),(V 4)])::(.ap .lt [(V 18),(.ap .len [(V 3)])])::aqf),(.ap .same [(.ap (.mk true) [(V 17)]),awm])),
 (((.ap .not [(.ap .eq [(I 3),(V 4)])])::(.ap .lt [(V 18),(.ap .len [(V 3)])])::aqf),(.ap .same [(.ap (.mk true) [(V 17)]),awm]))]
def biw:List (List X×List (List X)):=[(((.ap .not [(.ap .lt [(V 18),(.ap .len [(V 3)])])])::aqf),[[(.ap (.mk true) [(V 17)])]])]
theorem bsw:runV Try.prog (cxOf Try.prog (acr (tab T105)) 10 14 ⟨ap4 bg1,noY,U.lc⟩ 4 105) ⟨aa0 [],hintA []⟩ Try.f105 (aau Try.f105) S105=some (bix,biw):=by kernel_rfl
set_option maxHeartbeats 4000000 in
theorem c105:aah U Try.prog 105 S105:=by
 refine aah.ofV (P:=Try.prog) (U:=U) (T:=(tab T105)) (l:=bg1) (y:=noY) (dp:=4) (f:=105) (fn:=Try.f105) (fuel:=10) (fk:=14) (hs:=⟨aa0 [],hintA []⟩) (S:=S105) (v:=bix) (outs:=biw) mixed b0u brw bvg (ag9 rfl (by kernel_rfl)) bsw ?_ ?_
 ·unfold bix
  repeat' (first | exact aa7 _ | refine aai (fun v hh=>?_) ?_)
  all_goals
   simp only [aao,aax,aaw,aa2,aco,b_lt,b_le,b_eq,abk,aa6,abr,abn,abf,ac3,w_mk,abt,aef,aav,w_l0,w_l1,aae,aaf,aay,aac,aad,aak,aaj,us57,us58,us43,aas,aa1,acf,aaq,List.nil_append,Ba,Dt,a2l,awk,awl,awm,awn,anj,ank,anl,ang,anh,ani,aqf] at hh ⊢
   repeat (obtain⟨_,hh⟩:=hh)
   try (first | grind [ip_z,bwx,bww,bwv,bw0,bwz,bwy,bw3,bw2,bw1,bw6,bw5,bw4,beu,bet,ovl5,= aae])
 ·intro o ho σ hU hh
  obtain⟨v⟩:=σ
  cases hU
  simp only [biw,Mn,List.not_mem_nil,or_false] at ho
  repeat' (first | (rcases ho with rfl | ho) | subst ho)
  all_goals
   refine⟨_,Ms ..,by simp only [aao,aax,aaw,aa2,aco,b_lt,b_le,b_eq,abk,aa6,abr,abn,abf,ac3,w_mk,abt,aef,aav,w_l0,w_l1,aae,aaf,aay,aac,aad,aak,aaj],?_⟩
   simp only [aao,aax,aaw,aa2,aco,b_lt,b_le,b_eq,abk,aa6,abr,abn,abf,ac3,w_mk,abt,aef,aav,w_l0,w_l1,aae,aaf,aay,aac,aad,aak,aaj,us57,us58,us43,aas,aa1,acf,aaq,List.nil_append,Ba,Dt,a2l,awk,awl,awm,awn,anj,ank,anl,ang,anh,ani,aqf] at hh
   simp only [List.map_cons,List.map_nil,aao,aax,aaw,aa2,aco,b_lt,b_le,b_eq,abk,aa6,abr,abn,abf,ac3,w_mk,abt,aef,aav,w_l0,w_l1,aae,aaf,aay,aac,aad,aak,aaj,w_lt,w_le,w_eq,akb,ayu,amj,us57,us58,us43,aas,aa1,acf,aaq,List.nil_append,Ba,Dt]
   repeat (obtain⟨_,hh⟩:=hh)
   try (first | grind [ip_z,bwx,bww,bwv,bw0,bwz,bwy,bw3,bw2,bw1,bw6,bw5,bw4,beu,bet,ovl5,= aae])
end Go.Proofs.Ytlbbkmcegbeckaa
