/-
  Contracts of a seat's functions: a table sorted in, as the document says. Conditions: none.
-/
import Derived.Test.YtlbbkmcegbeckaaLdF
set_option linter.all false
set_option maxRecDepth 100000
noncomputable section
namespace Go.Proofs.Ytlbbkmcegbeckaa
open Go.Sx Go.Proofs
theorem us48(l g:CD):@Us.u U 48 [l,g]=mkz (l.rows.filter (woR g.rows)):=rfl
def wpQ(l g:CD)(i:Int):List (List CD):=(l.rows.take i.toNat).filter (woR g.rows)
theorem us49(l g i:CD):@Us.u U 49 [l,g,i]=mkz (wpQ l g i.iv):=rfl
theorem us50(l g:CD):@Us.u U 50 [l,g]=aan (g.rows.all (metR l.rows)):=rfl
def mpQ(l g:CD)(i:Int):Bool:=(g.rows.take i.toNat).all (metR l.rows)
theorem us51(l g i:CD):@Us.u U 51 [l,g,i]=aan (mpQ l g i.iv):=rfl
def a1Q(l a b:CD)(i:Int):Bool:=(l.rows.take i.toNat).any fun r=>eqC (at' r 0) a&&eqC (at' r 1) b
theorem us52(l i a b:CD):@Us.u U 52 [l,i,a,b]=aan (a1Q l a b i.iv):=rfl
def a2Q(l a b:CD)(i:Int):Bool:=(l.rows.take i.toNat).any fun r=>eqC a (at' r 0)&&eqC b (at' r 1)
theorem us53(l i a b:CD):@Us.u U 53 [l,i,a,b]=aan (a2Q l a b i.iv):=rfl
theorem bvb(b:Bool):(aan b).bv=b:=rfl
section
variable {l g a b:CD} {i:Int}
theorem bu7{p:List CD→Bool}(hT:Typ (.sl sRun) l)(h0:0≤i)(h:i<l.len):(l.rows.take (i+1).toNat).any p=((l.rows.take i.toNat).any p||p [l.cell i 0,l.cell i 1,l.cell i 2,l.cell i 3,l.cell i 4]):=by
 rw [adx hT h0 h,List.any_append]
 simp
theorem a1_z:a1Q l a b 0=false:=rfl
theorem a1_s(hT:Typ (.sl sRun) l)(h0:0≤i)(h:i<l.len):a1Q l a b (i+1)=(a1Q l a b i||(eqC (l.cell i 0) a&&eqC (l.cell i 1) b)):=bu7 hT h0 h
theorem a2_z:a2Q l a b 0=false:=rfl
theorem a2_s(hT:Typ (.sl sRun) l)(h0:0≤i)(h:i<l.len):a2Q l a b (i+1)=(a2Q l a b i||(eqC a (l.cell i 0)&&eqC b (l.cell i 1))):=bu7 hT h0 h
theorem mp_z:mpQ l g 0=true:=rfl
theorem mp_s{j:Int}(hT:Typ (.sl sRun) g)(hl:Typ (.sl sRun) l)(h0:0≤i)(h:i<g.len)(hj:¬ j<l.len):mpQ l g (i+1)=(mpQ l g i&&a1Q l (g.cell i 0) (g.cell i 1) j):=by
 unfold mpQ a1Q
 rw [adx hT h0 h,List.all_append,abh hl hj]
 simp [metR,a7s,at']
theorem mp_e(hT:Typ (.sl sRun) g)(h:¬ i<g.len):mpQ l g i=g.rows.all (metR l.rows):=by
 unfold mpQ
 rw [abh hT h]
theorem wp_z:wpQ l g 0=[]:=rfl
theorem wp_s{j:Int}(hT:Typ (.sl sRun) l)(hg:Typ (.sl sRun) g)(h0:0≤i)(h:i<l.len)(hj:¬ j<g.len):wpQ l g (i+1)=wpQ l g i++opt (!a2Q g (l.cell i 0) (l.cell i 1) j) [l.cell i 0,l.cell i 1,l.cell i 2,l.cell i 3,l.cell i 4]:=by
 unfold wpQ
 rw [ad7 hT h0 h]
 unfold a2Q
 rw [abh hg hj]
 rfl
theorem wp_e(hT:Typ (.sl sRun) l)(h:¬ i<l.len):wpQ l g i=l.rows.filter (woR g.rows):=by
 unfold wpQ
 rw [abh hT h]
theorem bp9{α:Type}{x:α}{b:Bool}(h:¬ b=true):opt (!b) x=[x]:=by rw [Bool.not_eq_true] at h;rw [h];rfl
theorem bp8{α:Type}{x:α}{b:Bool}(h:b=true):opt (!b) x=[]:=by rw [h];rfl
end
def bxj:Lp:=⟨[(.slot 6,.bool),(.slot 7,.int .i64)],[0,1,4,5],[0],fun F H k=>[.ap .le [zI,.var (k+1)],.ap .le [.var (k+1),.ap .len [.var 1]],.ap .same [.var k,.ap (.usr 51) [.var 0,.var 1,.var (k+1)]]],fun F H k=>.ap (.sub .i64) [.ap .len [.var 1],.var (k+1)]⟩
def bxk:Lp:=⟨[(.slot 8,.bool),(.slot 9,.int .i64)],[0,1,4,5,6,7],[0],fun F H k=>[.ap .le [zI,.var (k+1)],.ap .le [.var (k+1),.ap .len [.var 0]],.ap .same [.var k,.ap (.usr 52) [.var 0,.var (k+1),.ap (.cell 0) [.var 1,sx F 7],.ap (.cell 1) [.var 1,sx F 7]]]],fun F H k=>.ap (.sub .i64) [.ap .len [.var 0],.var (k+1)]⟩
def bxl:Lp:=⟨[(.slot 10,.own true sRun),(.slot 11,.int .i64)],[0,1,4,5,6],[0],fun F H k=>[.ap .le [zI,.var (k+2)],.ap .le [.var (k+2),.ap .len [.var 0]],.ap .le [.var k,.var (k+2)],.ap .le [zI,.var k],.ap .same [.ap (.mk true) [.var (k+1)],.ap (.usr 49) [.var 0,.var 1,.var (k+2)]]],fun F H k=>.ap (.sub .i64) [.ap .len [.var 0],.var (k+2)]⟩
def bxm:Lp:=⟨[(.slot 12,.bool),(.slot 13,.int .i64)],[0,1,4,5,6,10,11],[0],fun F H k=>[.ap .le [zI,.var (k+1)],.ap .le [.var (k+1),.ap .len [.var 1]],.ap .same [.var k,.ap (.usr 53) [.var 1,.var (k+1),.ap (.cell 0) [.var 0,sx F 11],.ap (.cell 1) [.var 0,sx F 11]]]],fun F H k=>.ap (.sub .i64) [.ap .len [.var 1],.var (k+1)]⟩
def S69:Fsp:=⟨[(false,[sR]),(false,[sR])],[.ap .le [.ap .len [.var 0],I 1000]],[(false,[sR]),(false,[.bool])],[([],[[.ap (.usr 48) [.var 0,.var 1]],[.ap (.usr 50) [.var 0,.var 1]]])],false⟩
abbrev ati:X:=(.ap (.cell 0) [(V 0),(V 6)])
abbrev atj:X:=(.ap (.cell 1) [(V 0),(V 6)])
abbrev aj3:X:=(.ap .len [(V 0)])
abbrev aj4:X:=(.ap .len [(V 1)])
abbrev bde:X:=(.ap (.usr 52) [(V 0),(.ap (.add .i64) [(V 5),(I 1)]),(.ap (.cell 0) [(V 1),(V 3)]),(.ap (.cell 1) [(V 1),(V 3)])])
abbrev bdd:List X:=[(.ap (.typ (.sl [(.int .i64),(.int .i64),(.int .i64),(.sl [(.int .u8)]),(.sl [(.int .u8)])])) [(V 0)]),(.ap (.typ (.sl [(.int .i64),(.int .i64),(.int .i64),(.sl [(.int .u8)]),(.sl [(.int .u8)])])) [(V 1)]),(.ap .le [aj3,(I 1000)])]
abbrev a0k:List X:=(.ap .le [(I 0),(V 3)])::(.ap .le [(V 3),aj4])::(.ap .same [(V 2),(.ap (.usr 51) [(V 0),(V 1),(V 3)])])::bdd
abbrev a0l:List X:=(.ap .le [(I 0),(V 5)])::(.ap .le [(V 5),aj3])::(.ap .same [(V 4),(.ap (.usr 52) [(V 0),(V 5),(.ap (.cell 0) [(V 1),(V 3)]),(.ap (.cell 1) [(V 1),(V 3)])])])::(.ap .lt [(V 3),aj4])::a0k
abbrev a7i:List X:=(.ap .le [(I 0),(V 6)])::(.ap .le [(V 6),aj3])::(.ap .le [(V 4),(V 6)])::(.ap .le [(I 0),(V 4)])::(.ap .same [(.ap (.mk true) [(V 5)]),(.ap (.usr 49) [(V 0),(V 1),(V 6)])])::(.ap .not [(.ap .lt [(V 3),aj4])])::a0k
abbrev a0m:List X:=(.ap .le [(I 0),(V 8)])::(.ap .le [(V 8),aj4])::(.ap .same [(V 7),(.ap (.usr 53) [(V 1),(V 8),ati,atj])])::(.ap .lt [(V 6),aj3])::a7i
def btw:List VC:=[(bdd,(.ap .same [(.lit (.bool true)),(.ap (.usr 51) [(V 0),(V 1),(I 0)])])),
 (((.ap .lt [(V 3),aj4])::a0k),(.ap .same [(.lit (.bool false)),(.ap (.usr 52) [(V 0),(I 0),(.ap (.cell 0) [(V 1),(V 3)]),(.ap (.cell 1) [(V 1),(V 3)])])])),
 (((V 4)::(.ap .lt [(V 5),aj3])::a0l),(.ap .same [(.lit (.bool true)),bde])),
 (((.ap .not [(V 4)])::(.ap .lt [(V 5),aj3])::a0l),(.ap .same [(.ap .and [(.ap .eq [(.ap (.cell 0) [(V 0),(V 5)]),(.ap (.cell 0) [(V 1),(V 3)])]),(.ap .and [(.ap .eq [(.ap (.cell 1) [(V 0),(V 5)]),(.ap (.cell 1) [(V 1),(V 3)])]),(.lit (.bool true))])]),bde])),
 (((V 2)::(.ap .not [(.ap .lt [(V 5),aj3])])::a0l),(.ap .same [(V 4),(.ap (.usr 51) [(V 0),(V 1),(.ap (.add .i64) [(V 3),(I 1)])])])),
 (((.ap .not [(V 2)])::(.ap .not [(.ap .lt [(V 5),aj3])])::a0l),(.ap .same [(.lit (.bool false)),(.ap (.usr 51) [(V 0),(V 1),(.ap (.add .i64) [(V 3),(I 1)])])])),
 (((.ap .not [(.ap .lt [(V 3),aj4])])::a0k),(.ap .same [(.ap (.mk true) [(.ap (.nil true) [])]),(.ap (.usr 49) [(V 0),(V 1),(I 0)])])),
 (((.ap .lt [(V 6),aj3])::a7i),(.ap .same [(.lit (.bool false)),(.ap (.usr 53) [(V 1),(I 0),ati,atj])])),
 (((V 7)::(.ap .lt [(V 8),aj4])::a0m),(.ap .same [(.lit (.bool true)),(.ap (.usr 53) [(V 1),(.ap (.add .i64) [(V 8),(I 1)]),ati,atj])])),
 (((.ap .not [(V 7)])::(.ap .lt [(V 8),aj4])::a0m),(.ap .same [(.ap .and [(.ap .eq [ati,(.ap (.cell 0) [(V 1),(V 8)])]),(.ap .and [(.ap .eq [atj,(.ap (.cell 1) [(V 1),(V 8)])]),(.lit (.bool true))])]),(.ap (.usr 53) [(V 1),(.ap (.add .i64) [(V 8),(I 1)]),ati,atj])])),
 (((.ap .not [(V 7)])::(.ap .not [(.ap .lt [(V 8),aj4])])::a0m),(.ap .same [(.ap (.mk true) [(.ap .cat [(V 5),(.ap .snoc [(.ap (.nil false) []),ati,atj,(.ap (.cell 2) [(V 0),(V 6)]),(.ap (.cell 3) [(V 0),(V 6)]),(.ap (.cell 4) [(V 0),(V 6)])])])]),(.ap (.usr 49) [(V 0),(V 1),(.ap (.add .i64) [(V 6),(I 1)])])])),
 (((V 7)::(.ap .not [(.ap .lt [(V 8),aj4])])::a0m),(.ap .same [(.ap (.mk true) [(V 5)]),(.ap (.usr 49) [(V 0),(V 1),(.ap (.add .i64) [(V 6),(I 1)])])]))]
def btv:List (List X×List (List X)):=[(((.ap .not [(.ap .lt [(V 6),aj3])])::a7i),[[(.ap (.mk true) [(V 5)])],[(V 2)]])]
theorem by0:runS Try.prog (acr T0) 10 8 ⟨aa0 [(3,bxj),(7,bxk),(13,bxl),(17,bxm)],hintA []⟩ Try.f69 (aau Try.f69) S69=some (btw,btv):=by kernel_rfl
set_option maxHeartbeats 4000000 in
theorem c69:aah U Try.prog 69 S69:=by
 refine aah.of (P:=Try.prog) (U:=U) (T:=T0) (f:=69) (fn:=Try.f69) (fuel:=10) (fk:=8) (hs:=⟨aa0 [(3,bxj),(7,bxk),(13,bxl),(17,bxm)],hintA []⟩) (S:=S69) (v:=btw) (outs:=btv) mixed hT1' at69 by0 ?_ ?_
 ·unfold btw
  repeat' (first | exact aa7 _ | refine aai (fun v hh=>?_) ?_)
  all_goals
   simp only [aao,aax,aaw,aa2,aco,b_lt,b_le,b_eq,abk,aty,aa6,abr,abn,abf,ac3,w_mk,abt,aef,aav,w_l0,w_l1,aae,aaf,aay,aac,aad,aak,aaj,us48,us49,us50,us51,us52,us53,boz,w_eq,aa2,aas,adj,ab4,aa1,acf,aaq,List.nil_append,List.cons.injEq,Ba,Dt,bdd,ati,atj,aj3,aj4,bde,a0k,a0l,a7i,a0m] at hh ⊢
   repeat (obtain⟨_,hh⟩:=hh)
   try (first | grind [bvb,a1_z,a1_s,a2_z,a2_s,mp_z,mp_s,mp_e,wp_z,wp_s,wp_e,bp9,bp8,= aae])
 ·intro o ho σ hU hh
  obtain⟨v⟩:=σ
  cases hU
  simp only [btv,Mn,List.not_mem_nil,or_false] at ho
  repeat' (first | (rcases ho with rfl | ho) | subst ho)
  all_goals
   refine⟨_,Ms ..,by simp only [aao,aax,aaw,aa2,aco,b_lt,b_le,b_eq,abk,aty,aa6,abr,abn,abf,ac3,w_mk,abt,aef,aav,w_l0,w_l1,aae,aaf,aay,aac,aad,aak,aaj],?_⟩
   simp only [aao,aax,aaw,aa2,aco,b_lt,b_le,b_eq,abk,aty,aa6,abr,abn,abf,ac3,w_mk,abt,aef,aav,w_l0,w_l1,aae,aaf,aay,aac,aad,aak,aaj,us48,us49,us50,us51,us52,us53,boz,w_eq,aa2,aas,adj,ab4,aa1,acf,aaq,List.nil_append,List.cons.injEq,Ba,Dt,bdd,ati,atj,aj3,aj4,bde,a0k,a0l,a7i,a0m] at hh
   simp only [List.map_cons,List.map_nil,aao,aax,aaw,aa2,aco,b_lt,b_le,b_eq,abk,aty,aa6,abr,abn,abf,ac3,w_mk,abt,aef,aav,w_l0,w_l1,aae,aaf,aay,aac,aad,aak,aaj,w_lt,w_le,w_eq,akb,boz,ayu,amj,us48,us49,us50,us51,us52,us53,boz,w_eq,aa2,aas,adj,ab4,aa1,acf,aaq,List.nil_append,List.cons.injEq,Ba,Dt]
   repeat (obtain⟨_,hh⟩:=hh)
   try (first | grind [bvb,a1_z,a1_s,a2_z,a2_s,mp_z,mp_s,mp_e,wp_z,wp_s,wp_e,bp9,bp8,= aae])
theorem us54(l a b c d e:CD):@Us.u U 54 [l,a,b,c,d,e]=.sl false (ac2 l.rows [a,b,c,d,e]):=rfl
def alQ(l key:CD)(i:Int):Bool:=(l.rows.take i.toNat).all fun x=>decide (cmpC (at' x 3) key≤0)
theorem us55(l i key:CD):@Us.u U 55 [l,i,key]=aan (alQ l key i.iv):=rfl
section
variable {l a b c d e:CD} {i:Int}
theorem al_z:alQ l d 0=true:=rfl
theorem al_s(hT:Typ (.sl sRun) l)(h0:0≤i)(h:i<l.len):alQ l d (i+1)=(alQ l d i&&decide (cmpC (l.cell i 3) d≤0)):=by
 unfold alQ
 rw [adx hT h0 h,List.all_append]
 simp [at']
theorem bku{p:List CD→Bool}:∀ {x y:List (List CD)},x.all p=true→(x++y).takeWhile p=x++y.takeWhile p∧(x++y).dropWhile p=y.dropWhile p
 | [],y,_=>⟨rfl,rfl⟩
 | r::x,y,h=>by
  rw [List.all_cons,Ba] at h
  obtain⟨h1,h2⟩:=bku (y:=y) h.2
  rw [List.cons_append,List.takeWhile_cons_of_pos h.1,List.dropWhile_cons_of_pos h.1,h1,h2]
  exact⟨rfl,rfl⟩
theorem wi_1(hT:Typ (.sl sRun) l)(h:alQ l d i=true)(hi:¬ i<l.len):ac2 l.rows [a,b,c,d,e]=l.rows.take i.toNat++[[a,b,c,d,e]]++l.rows.drop i.toNat:=by
 have hl:=hT.sl.1
 have e1:l.rows.take i.toNat=l.rows:=abh hT hi
 unfold alQ at h
 rw [e1] at h ⊢
 have:=bku (y:=[]) h
 rw [List.append_nil] at this
 rw [List.drop_eq_nil_of_le (by omega)]
 show l.rows.takeWhile (fun x=>decide (cmpC (at' x 3) d≤0))++[a,b,c,d,e]::l.rows.dropWhile (fun x=>decide (cmpC (at' x 3) d≤0))=_
 rw [this.1,this.2]
 simp
theorem wi_2(hT:Typ (.sl sRun) l)(h:alQ l d i=true)(h0:0≤i)(hi:i<l.len)(hc:¬ cmpC (l.cell i 3) d≤0):ac2 l.rows [a,b,c,d,e]=l.rows.take i.toNat++[[a,b,c,d,e]]++l.rows.drop i.toNat:=by
 have hl:=hT.sl.1
 have hlt:i.toNat<l.rows.length:=by omega
 have e1:l.rows=l.rows.take i.toNat++l.rows.drop i.toNat:=(List.take_append_drop _ _).symm
 unfold alQ at h
 have:=bku (y:=l.rows.drop i.toNat) h
 rw [← e1] at this
 show l.rows.takeWhile (fun x=>decide (cmpC (at' x 3) d≤0))++[a,b,c,d,e]::l.rows.dropWhile (fun x=>decide (cmpC (at' x 3) d≤0))=_
 rw [this.1,this.2]
 have hneg:¬ (fun x:List CD=>decide (cmpC (at' x 3) d≤0)) l.rows[i.toNat]=true:=by
  show ¬ decide (cmpC (at' l.rows[i.toNat] 3) d≤0)=true
  rw [Dt]
  have:at' l.rows[i.toNat] 3=l.cell i 3:=by
   show _=at' (l.rows.getD i.toNat []) 3
   rw [Gd,Gl hlt]
   rfl
  rw [this]
  exact hc
 rw [List.drop_eq_getElem_cons hlt,List.takeWhile_cons_of_neg (p:=fun x=>decide (cmpC (at' x 3) d≤0)) hneg,List.dropWhile_cons_of_neg (p:=fun x=>decide (cmpC (at' x 3) d≤0)) hneg]
 simp
def bgf(l:CD)(i:Int):List (List CD):=List.drop i.toNat (List.take (9223372036854775807:Int).toNat l.rows)
theorem a9q:List.drop i.toNat (List.take (9223372036854775807:Int).toNat l.rows)=bgf l i:=rfl
theorem a1m(hT:Typ (.sl sRun) l):bgf l i=l.rows.drop i.toNat:=by
 unfold bgf
 rw [List.take_of_length_le]
 have:=hT.sl.2
 have e:(9223372036854775807:Int).toNat=maxN:=rfl
 rw [e]
 exact this
theorem bpl{b:Bool}{n:Nat}:(CD.sl b (List.take n l.rows)).len=min (CD.sl b (List.take n l.rows)).len l.len:=by
 show clip (List.take n l.rows).length=min (clip (List.take n l.rows).length) (clip l.rows.length)
 have:(List.take n l.rows).length≤l.rows.length:=by rw [List.length_take];omega
 unfold clip
 omega
theorem bgb{b:Bool}(hT:Typ (.sl sRun) l):(CD.sl b (bgf l i)).len=min (CD.sl b (bgf l i)).len l.len:=by
 rw [a1m hT]
 show clip (List.drop i.toNat l.rows).length=min (clip (List.drop i.toNat l.rows).length) (clip l.rows.length)
 have:(List.drop i.toNat l.rows).length≤l.rows.length:=by rw [List.length_drop];omega
 unfold clip
 omega
end
def lp70:Lp:=⟨[(.slot 5,.int .i64)],[0,3,4],[0],fun F H k=>[.ap .le [zI,.var k],.ap .le [.var k,.ap .len [.var 0]],.ap (.usr 55) [.var 0,.var k,.var 4]],fun F H k=>.ap (.sub .i64) [.ap .len [.var 0],.var k]⟩
def cutA(F:Fm):X:=.ap .cut [.var 0,zI,sx F 5]
def cutB(F:Fm):X:=.ap .cut [.var 0,sx F 5,.lit (.int .i64 9223372036854775807)]
def hs70:Hs:=⟨aa0 [(2,lp70)],hintA [(4,fun F H=>[.ap .le [.ap .len [cutA F],I 1000]]),(6,fun F H=>[.ap .le [.ap .len [cutB F],I 1000]])]⟩
def S70:Fsp:=⟨[(false,[sR]),(true,sRun)],[.ap .le [.ap .len [.var 0],I 1000]],[(false,[sR])],[([],[[.ap (.usr 54) [.var 0,.var 1,.var 2,.var 3,.var 4,.var 5]]])],false⟩
theorem slr(b:Bool)(r:List (List CD)):(CD.sl b r).rows=r:=rfl
theorem d0(x:List (List CD)):List.drop (0:Int).toNat x=x:=rfl
abbrev axz:X:=(.ap .le [(.ap .len [(.ap .cut [(V 0),(I 0),(V 6)])]),(I 1000)])
abbrev bdh:X:=(.ap (.mk false) [(.ap .cat [(.ap .cat [(.ap (.mk false) [(.ap .cut [(V 0),(I 0),(V 6)])]),(.ap .snoc [(.ap (.nil false) []),(V 1),(V 2),(V 3),(V 4),(V 5)])]),(.ap .cut [(V 0),(V 6),HiI])])])
abbrev a0n:X:=(.ap .le [(.ap .len [(.ap .cut [(V 0),(V 6),HiI])]),(I 1000)])
abbrev atm:X:=(.ap .lt [(V 6),(.ap .len [(V 0)])])
abbrev a7j:X:=(.ap (.sbin .leq) [(.ap .str [(.ap (.cell 3) [(V 0),(V 6)])]),(.ap .str [(V 4)])])
abbrev bdf:List X:=[(.ap (.typ (.sl [(.int .i64),(.int .i64),(.int .i64),(.sl [(.int .u8)]),(.sl [(.int .u8)])])) [(V 0)]),(.ap .le [LoI,(V 1)]),(.ap .le [(V 1),HiI]),(.ap .le [LoI,(V 2)]),(.ap .le [(V 2),HiI]),(.ap .le [LoI,(V 3)]),(.ap .le [(V 3),HiI]),(.ap (.typ (.sl [(.int .u8)])) [(V 4)]),(.ap (.typ (.sl [(.int .u8)])) [(V 5)]),(.ap .le [(.ap .len [(V 0)]),(I 1000)])]
abbrev atl:List X:=(.ap .le [(I 0),(V 6)])::(.ap .le [(V 6),(.ap .len [(V 0)])])::(.ap (.usr 55) [(V 0),(V 6),(V 4)])::bdf
abbrev bdg:List X:=axz::(.ap .not [a7j])::atm::atl
def bty:List VC:=[(bdf,(.ap (.usr 55) [(V 0),(I 0),(V 4)])),
 ((a7j::atm::atl),(.ap (.usr 55) [(V 0),(.ap (.add .i64) [(V 6),(I 1)]),(V 4)])),
 (((.ap .not [a7j])::atm::atl),axz),
 (bdg,a0n),
 (((.ap .not [atm])::atl),axz),
 ((axz::(.ap .not [atm])::atl),a0n)]
def btx:List (List X×List (List X)):=[((a0n::bdg),[[bdh]]),
 ((a0n::axz::(.ap .not [atm])::atl),[[bdh]])]
theorem by1:runS Try.prog (acr T0) 10 8 hs70 Try.f70 (aau Try.f70) S70=some (bty,btx):=by kernel_rfl
set_option maxHeartbeats 4000000 in
theorem c70:aah U Try.prog 70 S70:=by
 refine aah.of (P:=Try.prog) (U:=U) (T:=T0) (f:=70) (fn:=Try.f70) (fuel:=10) (fk:=8) (hs:=hs70) (S:=S70) (v:=bty) (outs:=btx) mixed hT1' at70 by1 ?_ ?_
 ·unfold bty
  repeat' (first | exact aa7 _ | refine aai (fun v hh=>?_) ?_)
  all_goals
   simp only [aao,aax,aaw,aa2,aco,b_lt,b_le,abk,aa6,abn,abf,ac3,w_mk,abt,aef,aeg,ai5,aav,ae0,w_l0,w_l1,aae,aaf,aay,aac,aad,aak,aaj,us54,us55,aln,aas,adj,ab4,aa1,acf,aaq,List.nil_append,List.cons.injEq,Bool.false_and,slr,a9q,d0,Dt,bdf,axz,bdh,a0n,atm,a7j,atl,bdg] at hh ⊢
   repeat (obtain⟨_,hh⟩:=hh)
   try (first | grind [bvb,al_z,al_s,wi_1,wi_2,a1m,bpl,bgb,= aae])
 ·intro o ho σ hU hh
  obtain⟨v⟩:=σ
  cases hU
  simp only [btx,Mn,List.not_mem_nil,or_false] at ho
  repeat' (first | (rcases ho with rfl | ho) | subst ho)
  all_goals
   refine⟨_,Ms ..,by simp only [aao,aax,aaw,aa2,aco,b_lt,b_le,abk,aa6,abn,abf,ac3,w_mk,abt,aef,aeg,ai5,aav,ae0,w_l0,w_l1,aae,aaf,aay,aac,aad,aak,aaj],?_⟩
   simp only [aao,aax,aaw,aa2,aco,b_lt,b_le,abk,aa6,abn,abf,ac3,w_mk,abt,aef,aeg,ai5,aav,ae0,w_l0,w_l1,aae,aaf,aay,aac,aad,aak,aaj,us54,us55,aln,aas,adj,ab4,aa1,acf,aaq,List.nil_append,List.cons.injEq,Bool.false_and,slr,a9q,d0,Dt,bdf,axz,bdh,a0n,atm,a7j,atl,bdg] at hh
   simp only [List.map_cons,List.map_nil,aao,aax,aaw,aa2,aco,b_lt,b_le,abk,aa6,abn,abf,ac3,w_mk,abt,aef,aeg,ai5,aav,ae0,w_l0,w_l1,aae,aaf,aay,aac,aad,aak,aaj,w_lt,w_le,akb,amj,us54,us55,aln,aas,adj,ab4,aa1,acf,aaq,List.nil_append,List.cons.injEq,Bool.false_and,slr,a9q,d0,Dt]
   repeat (obtain⟨_,hh⟩:=hh)
   try (first | grind [bvb,al_z,al_s,wi_1,wi_2,a1m,bpl,bgb,= aae])
end Go.Proofs.Ytlbbkmcegbeckaa
