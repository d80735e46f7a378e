/-
  A symbolic executor: a function without arguments that makes a map whose entries are known: told once, for any heap. Conditions: none; nothing here speaks of one program.
-/
import Derived.Test.YtlbbkmcegbeckaaLdF
import Derived.Test.YtlbbkmcegbeckaaSbA
set_option linter.all false
set_option maxRecDepth 100000
noncomputable section
namespace Go.Proofs.Ytlbbkmcegbeckaa
open Go.Sx Go.Proofs Go.RowKit Go.Lib
theorem us73(a b:CD):@Us.u U 73 [a,b]=vInt .i64 (cmpZ a.iv b.iv):=rfl
theorem cell1(r:List CD)(j:Nat):(CD.sl false ([]++[r])).cell 0 j=r.getD j default:=rfl
def S120:Fsp:=⟨[(false,[.int .i64])],[],[(false,[.bool])],[([],[[.lit (.bool false)]])],true⟩
theorem bhr(x:Int)(w:World):Calls Try.prog 120 #[.int .i64 x] w fun e w'=>e=.returned (.bool false)∧w'=w:=by
 go_enter Try.func120,Try.ntmps120
 go_wp2_with fail
 go_returns
 refine⟨?_,rfl⟩
 simp
theorem c120:aah U Try.prog 120 S120:=by
 refine bub Try.call120 fun v m w us hm hargs hpre=>?_
 cases us with
 | nil=>exact hargs.elim
 | cons u r =>
 obtain⟨h1,h2⟩:=hargs
 cases r with
 | cons _ _=>exact h2.elim
 | nil =>
  obtain⟨n,_,rfl,_⟩:RS m (.int .i64) (v 0) u:=h1
  refine(bhr n w).mono ?_
  rintro e w' ⟨rfl,rfl⟩
  exact⟨_,rfl,azw (Below.refl _ _),_,Mg.2 rfl,bek v,[.bool false],⟨⟨false,rfl,rfl⟩,trivial⟩,rfl⟩
def T75:List (FuncId×Fsp):=[(120,S120)]
theorem hT75:ae1 U Try.prog T75:=.cons c120 .nil
def S75:Fsp:=⟨[(false,[.int .i64]),(false,[.int .i64])],[],[(false,[.int .i64])],[([],[[.ap (.usr 73) [.var 0,.var 1]]])],true⟩
abbrev a7k:List X:=[(.ap .le [LoI,(V 0)]),(.ap .le [(V 0),HiI]),(.ap .le [LoI,(V 1)]),(.ap .le [(V 1),HiI])]
def bt0:List VC:=[]
def btz:List (List X×List (List X)):=[(((.ap .lt [(V 0),(V 1)])::a7k),[[(I (-1))]]),
 (((.ap .lt [(V 1),(V 0)])::(.ap .not [(.ap .lt [(V 0),(V 1)])])::a7k),[[(I 1)]]),
 (((.ap .not [(.ap .lt [(V 1),(V 0)])])::(.ap .not [(.ap .lt [(V 0),(V 1)])])::a7k),[[(I 0)]])]
theorem by2:runS Try.prog (acr (tab T75)) 10 4 ⟨aa0 [],hintA []⟩ Try.f75 (aau Try.f75) S75=some (bt0,btz):=by kernel_rfl
set_option maxHeartbeats 4000000 in
theorem c75:aah U Try.prog 75 S75:=by
 refine aah.of (P:=Try.prog) (U:=U) (T:=(tab T75)) (f:=75) (fn:=Try.f75) (fuel:=10) (fk:=4) (hs:=⟨aa0 [],hintA []⟩) (S:=S75) (v:=bt0) (outs:=btz) mixed hT75 at75 by2 ?_ ?_
 ·unfold bt0
  repeat' (first | exact aa7 _ | refine aai (fun v hh=>?_) ?_)
  all_goals
   simp only [aao,aax,aaw,aa2,b_lt,b_le,abk,aav,w_l0,w_l1,aae,aaf,aay,aac,aad,aak,aaj,us73,us73,aas,afv,aaq,List.cons.injEq,a7k] at hh ⊢
   repeat (obtain⟨_,hh⟩:=hh)
   try (first | grind [cmpZ,= aae])
 ·intro o ho σ hU hh
  obtain⟨v⟩:=σ
  cases hU
  simp only [btz,Mn,List.not_mem_nil,or_false] at ho
  repeat' (first | (rcases ho with rfl | ho) | subst ho)
  all_goals
   refine⟨_,Ms ..,by simp only [aao,aax,aaw,aa2,b_lt,b_le,abk,aav,w_l0,w_l1,aae,aaf,aay,aac,aad,aak,aaj],?_⟩
   simp only [aao,aax,aaw,aa2,b_lt,b_le,abk,aav,w_l0,w_l1,aae,aaf,aay,aac,aad,aak,aaj,us73,us73,aas,afv,aaq,List.cons.injEq,a7k] at hh
   simp only [List.map_cons,List.map_nil,aao,aax,aaw,aa2,b_lt,b_le,abk,aav,w_l0,w_l1,aae,aaf,aay,aac,aad,aak,aaj,w_lt,w_le,akb,us73,us73,aas,afv,aaq,List.cons.injEq]
   repeat (obtain⟨_,hh⟩:=hh)
   try (first | grind [cmpZ,= aae])
abbrev lvl(k:Nat):X:=.ap (.add .i64) [.var k,I 1]
def bu4:Fsp:=⟨[(true,[sR,sR,sR,sR]),(false,[.int .i64]),(false,[sB]),(false,[sB])],P105,[(false,[sR])],[([.ap .le [.ap .len [.ap (.usr 57) [.var 0,.var 1,.var 2,.var 3,.var 4,.var 5,.var 6]],I 160]],[[.ap (.usr 57) [.var 0,.var 1,.var 2,.var 3,.var 4,.var 5,.var 6]]])],false⟩
def T104:List (FuncId×Fsp):=[(105,S105),(75,S75)]
theorem b0t:ae1 U Try.prog T104:=.cons c105 (.cons c75 .nil)
def S104:Fsp:=⟨[(true,sRun),(true,sRun),(false,[.bool,.bool,sR,sR,sR,sR]),(false,[.bool,.bool,.int .i64])],[.ap .le [.ap .len [.var 12],I 40],.ap .le [.ap .len [.var 13],I 40],.ap .le [.ap .len [.var 14],I 40],.ap .le [.ap .len [.var 15],I 40],.ap .le [.var 18,I 2],.ap .le [zI,.var 18]],[(false,[.int .i64])],[([],[[.ap (.usr 73) [.ap .len [.ap (.usr 57) [.var 12,.var 13,.var 14,.var 15,lvl 18,.var 3,.var 4]],.ap .len [.ap (.usr 57) [.var 12,.var 13,.var 14,.var 15,lvl 18,.var 8,.var 9]]]]])],true⟩
def bu8:Fm→HP→List X:=fun F H=>[.ap .le [.ap .len [.ap (.cell 0) [.ap .snoc [.ap (.nil false) [],.var 12,.var 13,.var 14,.var 15],zI]],I 40],.ap .le [.ap .len [.ap (.cell 1) [.ap .snoc [.ap (.nil false) [],.var 12,.var 13,.var 14,.var 15],zI]],I 40],.ap .le [.ap .len [.ap (.cell 2) [.ap .snoc [.ap (.nil false) [],.var 12,.var 13,.var 14,.var 15],zI]],I 40],.ap .le [.ap .len [.ap (.cell 3) [.ap .snoc [.ap (.nil false) [],.var 12,.var 13,.var 14,.var 15],zI]],I 40],.ap .le [.ap (.cell 0) [.ap .snoc [.ap (.nil false) [],.var 18],zI],I 2],.ap .le [zI,.ap (.cell 0) [.ap .snoc [.ap (.nil false) [],.var 18],zI]]]
abbrev adf:X:=(.ap .snoc [(.ap (.nil false) []),(V 12),(V 13),(V 14),(V 15)])
abbrev akt:X:=(.ap (.cell 0) [(.ap .snoc [(.ap (.nil false) []),(V 18)]),(I 0)])
abbrev aje:List X:=[(.ap .le [LoI,(V 0)]),(.ap .le [(V 0),HiI]),(.ap .le [LoI,(V 1)]),(.ap .le [(V 1),HiI]),(.ap .le [LoI,(V 2)]),(.ap .le [(V 2),HiI]),(.ap (.typ (.sl [(.int .u8)])) [(V 3)]),(.ap (.typ (.sl [(.int .u8)])) [(V 4)]),(.ap .le [LoI,(V 5)]),(.ap .le [(V 5),HiI]),(.ap .le [LoI,(V 6)]),(.ap .le [(V 6),HiI]),(.ap .le [LoI,(V 7)]),(.ap .le [(V 7),HiI]),(.ap (.typ (.sl [(.int .u8)])) [(V 8)]),(.ap (.typ (.sl [(.int .u8)])) [(V 9)]),(.ap (.typ (.sl [(.int .i64),(.int .i64),(.int .i64),(.sl [(.int .u8)]),(.sl [(.int .u8)])])) [(V 12)]),(.ap (.typ (.sl [(.int .i64),(.int .i64),(.int .i64),(.sl [(.int .u8)]),(.sl [(.int .u8)])])) [(V 13)]),(.ap (.typ (.sl [(.int .i64),(.int .i64),(.int .i64),(.sl [(.int .u8)]),(.sl [(.int .u8)])])) [(V 14)]),(.ap (.typ (.sl [(.int .i64),(.int .i64),(.int .i64),(.sl [(.int .u8)]),(.sl [(.int .u8)])])) [(V 15)]),(.ap .le [LoI,(V 18)]),(.ap .le [(V 18),HiI]),(.ap .le [(.ap .len [(V 12)]),(I 40)]),(.ap .le [(.ap .len [(V 13)]),(I 40)]),(.ap .le [(.ap .len [(V 14)]),(I 40)]),(.ap .le [(.ap .len [(V 15)]),(I 40)]),(.ap .le [(V 18),(I 2)]),(.ap .le [(I 0),(V 18)])]
def biv:List VC:=[(aje,(.ap .le [(.ap .len [(.ap (.cell 0) [adf,(I 0)])]),(I 40)])),
 (aje,(.ap .le [(.ap .len [(.ap (.cell 1) [adf,(I 0)])]),(I 40)])),
 (aje,(.ap .le [(.ap .len [(.ap (.cell 2) [adf,(I 0)])]),(I 40)])),
 (aje,(.ap .le [(.ap .len [(.ap (.cell 3) [adf,(I 0)])]),(I 40)])),
 (aje,(.ap .le [akt,(I 2)])),
 (aje,(.ap .le [(I 0),akt]))]
def biu:List (List X×List (List X)):=[(((.ap .le [(.ap .len [(.ap (.cell 0) [adf,(I 0)])]),(I 40)])::(.ap .le [(.ap .len [(.ap (.cell 1) [adf,(I 0)])]),(I 40)])::(.ap .le [(.ap .len [(.ap (.cell 2) [adf,(I 0)])]),(I 40)])::(.ap .le [(.ap .len [(.ap (.cell 3) [adf,(I 0)])]),(I 40)])::(.ap .le [akt,(I 2)])::(.ap .le [(I 0),akt])::aje),[[(.ap (.usr 73) [(.ap .len [(.ap (.usr 57) [(.ap (.cell 0) [adf,(I 0)]),(.ap (.cell 1) [adf,(I 0)]),(.ap (.cell 2) [adf,(I 0)]),(.ap (.cell 3) [adf,(I 0)]),(.ap (.add .i64) [akt,(I 1)]),(V 3),(V 4)])]),(.ap .len [(.ap (.usr 57) [(.ap (.cell 0) [adf,(I 0)]),(.ap (.cell 1) [adf,(I 0)]),(.ap (.cell 2) [adf,(I 0)]),(.ap (.cell 3) [adf,(I 0)]),(.ap (.add .i64) [akt,(I 1)]),(V 8),(V 9)])])])]])]
theorem bsv:runS Try.prog (acr (tab T104)) 10 4 ⟨aa0 [],hintA [(1,bu8)]⟩ Try.f104 (aau Try.f104) S104=some (biv,biu):=by kernel_rfl
set_option maxHeartbeats 4000000 in
theorem c104:aah U Try.prog 104 S104:=by
 refine aah.of (P:=Try.prog) (U:=U) (T:=(tab T104)) (f:=104) (fn:=Try.f104) (fuel:=10) (fk:=4) (hs:=⟨aa0 [],hintA [(1,bu8)]⟩) (S:=S104) (v:=biv) (outs:=biu) mixed b0t b0b bsv ?_ ?_
 ·unfold biv
  repeat' (first | exact aa7 _ | refine aai (fun v hh=>?_) ?_)
  all_goals
   simp only [aao,aax,aaw,aa2,aco,b_le,aa6,abn,abf,ac3,abt,aav,w_l0,w_l1,aae,aaf,aay,aac,aad,aak,aaj,us73,us73,us57,cell1,aas,afv,aaq,List.cons.injEq,List.getD_cons_zero,List.getD_cons_succ,aje,adf,akt] at hh ⊢
   repeat (obtain⟨_,hh⟩:=hh)
   try (first | grind [= aae])
 ·intro o ho σ hU hh
  obtain⟨v⟩:=σ
  cases hU
  simp only [biu,Mn,List.not_mem_nil,or_false] at ho
  repeat' (first | (rcases ho with rfl | ho) | subst ho)
  all_goals
   refine⟨_,Ms ..,by simp only [aao,aax,aaw,aa2,aco,b_le,aa6,abn,abf,ac3,abt,aav,w_l0,w_l1,aae,aaf,aay,aac,aad,aak,aaj],?_⟩
   simp only [aao,aax,aaw,aa2,aco,b_le,aa6,abn,abf,ac3,abt,aav,w_l0,w_l1,aae,aaf,aay,aac,aad,aak,aaj,us73,us73,us57,cell1,aas,afv,aaq,List.cons.injEq,List.getD_cons_zero,List.getD_cons_succ,aje,adf,akt] at hh
   simp only [List.map_cons,List.map_nil,aao,aax,aaw,aa2,aco,b_le,aa6,abn,abf,ac3,abt,aav,w_l0,w_l1,aae,aaf,aay,aac,aad,aak,aaj,w_le,amj,us73,us73,us57,cell1,aas,afv,aaq,List.cons.injEq,List.getD_cons_zero,List.getD_cons_succ]
   repeat (obtain⟨_,hh⟩:=hh)
   try (first | grind [= aae])
theorem ax4{f t lv:CD}{j:Nat}{rows:List (List CD)}:(selL f t lv j rows).length≤rows.length:=by
 unfold selL
 split
 ·exact List.length_filter_le _ _
 ·exact Nat.zero_le _
theorem bw7(a b c d lv f t:CD):(ipQ a b c d lv f t 4 0).length≤a.rows.length+b.rows.length+c.rows.length+d.rows.length:=by
 show(((List.range 4).flatMap fun k=>selL f t lv k ([a.rows,b.rows,c.rows,d.rows].getD k []))++selL f t lv 4 []).length≤_
 have h0:=ax4 (f:=f) (t:=t) (lv:=lv) (j:=0) (rows:=a.rows)
 have h1:=ax4 (f:=f) (t:=t) (lv:=lv) (j:=1) (rows:=b.rows)
 have h2:=ax4 (f:=f) (t:=t) (lv:=lv) (j:=2) (rows:=c.rows)
 have h3:=ax4 (f:=f) (t:=t) (lv:=lv) (j:=3) (rows:=d.rows)
 have h4:=ax4 (f:=f) (t:=t) (lv:=lv) (j:=4) (rows:=[])
 simp only [List.length_nil] at h4
 simp [List.range_succ]
 omega
theorem aah.more{f:FuncId}{S S':Fsp}(h:aah U Try.prog f S)(ha:S'.args=S.args)(hp:S'.pre=S.pre)(hr:S'.res=S.res)(hf:S'.fresh=S.fresh)
  (ho:∀ (v:Nat→CD) (m:Mem) (us:List Value),aeu m S.args ((at6 0 S.args).map (@denL (@Sg.mk U v))) us→@Holds (@Sg.mk U v) S.pre→∀ o∈S.outs,@Holds (@Sg.mk U v) o.1→∃ o'∈S'.outs,@Holds (@Sg.mk U v) o'.1∧o'.2.map (@denL (@Sg.mk U v))=o.2.map (@denL (@Sg.mk U v))):aah U Try.prog f S':=by
 intro σ hU m w us htw hm hargs hpre
 obtain⟨v⟩:=σ
 cases hU
 rw [ha] at hargs
 rw [hp] at hpre
 haveI:Sg:=@Sg.mk U v
 refine abz.mono (fun u w' hh=>?_) (h (@Sg.mk U v) rfl m w us htw hm hargs hpre)
 obtain⟨hk,o,h1,h2,h3⟩:=hh
 obtain⟨o',g1,g2,g3⟩:=ho v m us.toList hargs hpre o h1 h2
 exact⟨hk,o',g1,g2,by rw [hr,hf,g3];exact h3⟩
theorem b0k:aah U Try.prog 105 bu4:=by
 refine aah.more c105 rfl rfl rfl rfl fun v m us hargs hpre o ho hh=>⟨_,Mg.2 rfl,fun x hx=>?_,by rw [Mg.1 ho]⟩
 cases Mg.1 hx
 have hp:∀ x∈P105,(@den (@Sg.mk U v) x).bv=true:=hpre
 have q0:((v 0).len:Int)≤40:=aoz hpre (Ms ..)
 have q1:((v 1).len:Int)≤40:=aoz hpre (Mc _ (Ms ..))
 have q2:((v 2).len:Int)≤40:=aoz hpre (Mc _ (Mc _ (Ms ..)))
 have q3:((v 3).len:Int)≤40:=aoz hpre (Mc _ (Mc _ (Mc _ (Ms ..))))
 match us,hargs with
 | u::us,⟨⟨az,_,_,h0⟩,_⟩ =>
  obtain⟨c0,r0,u0,e0,_,t0,c1,r1,u1,e1,_,t1,c2,r2,u2,e2,_,t2,c3,r3,u3,e3,_,t3,_⟩:=h0
  have e0:[v 0,v 1,v 2,v 3]=c0::r0:=e0
  subst e1;subst e2;subst e3
  cases e0
  have l0:=t0.slice.2.1
  have l1:=t1.slice.2.1
  have l2:=t2.slice.2.1
  have l3:=t3.slice.2.1
  have hb:=bw7 (v 0) (v 1) (v 2) (v 3) (v 4) (v 5) (v 6)
  show(@den (@Sg.mk U v) (.ap .le [.ap .len [.ap (.usr 57) [.var 0,.var 1,.var 2,.var 3,.var 4,.var 5,.var 6]],I 160])).bv=true
  rw [@b_le (@Sg.mk U v)]
  show((mkz (ipQ (v 0) (v 1) (v 2) (v 3) (v 4) (v 5) (v 6) 4 0)).len:Int)≤160
  have:(mkz (ipQ (v 0) (v 1) (v 2) (v 3) (v 4) (v 5) (v 6) 4 0)).len≤(ipQ (v 0) (v 1) (v 2) (v 3) (v 4) (v 5) (v 6) 4 0).length:=Nat.min_le_left _ _
  omega
end Go.Proofs.Ytlbbkmcegbeckaa
namespace Go.Sx
noncomputable section
end
noncomputable section
def He:HP:=⟨.nil,0,0,[],0⟩
def orM2(a b:OraM):OraM:=fun t args H=>match a t args H with
 | some r=>some r
 | none=>b t args H
end
theorem bsn{U:Us}{P:Program}{a b:OraM}(ha:ahh U P a)(hb:ahh U P b):ahh U P (orM2 a b):=by
 intro σ hU t args H outs h
 unfold orM2 at h
 split at h
 ·rename_i r hr
  cases h
  exact ha σ hU t args H outs hr
 ·exact hb σ hU t args H outs h
section
variable {ρ ρ':PM}
theorem CRel.lit{σ σ':Sg}{v:Value}{u:Value}(h:@CRel σ ρ (.lit v) u):@CRel σ' ρ' (.lit v) u:=h
end
theorem Sim.newCt[Sg]{ρ:PM}{H:HP}{w w':World}{x:Ct}{B C:Nat}(hH:HRel ρ H w)(hd:Dom ρ H.n)(hk:Keep w w')(hB:w.heap.size≤B)(hr:∀ ρ':PM,aei ρ' w' ⟨B,0,C,none⟩ 0 x) :
  Sim ρ H w (upd ρ H.n ⟨B,0,C,none⟩) (H.push (.lf [some x])) w':=by
 have hfr:=hd H.n (Rl _)
 have hle:PM.le ρ (upd ρ H.n ⟨B,0,C,none⟩):=ahp hfr
 have hnew:∀ i c,(H.push (.lf [some x])).cell H.n i=some c→i=0∧c=x:=by
  intro i c hc
  rw [HP.cell_push,if_pos rfl] at hc
  cases i with
  | zero=>cases hc;exact⟨rfl,rfl⟩
  | succ i=>cases (show(none:Option Ct)=some c from hc)
 have hkn:∀ b,b≠H.n→(H.push (.lf [some x])).Kn b→H.Kn b:=by
  rintro b hb ⟨i,c,hc⟩
  rw [HP.cell_push,if_neg hb] at hc
  exact⟨i,c,hc⟩
 have hlt:∀ b L,H.Kn b→ρ b=some L→L.B<w.heap.size:=fun b L ⟨i,c,hc⟩ hL=>(hH.rel b i c L hc hL).lt
 refine Sim0.up ?_ hd fun b L h1 h2=>?_
 rotate_left
 ·by_cases hb:b=H.n
  ·subst hb
   rw [upd_same] at h2
   cases h2
   rfl
  ·rw [upd_ne hb,h1] at h2;cases h2
 exact {
  le:=hle
  grow:=Nat.le_succ _
  dom:=fun b hb=>by
   have hb:H.n+1≤b:=hb
   rw [upd_ne (by omega)]
   exact hd b (by omega)
  rel:=by
   refine⟨fun b i c L hc hL=>?_,fun b b' L L' g1 g2 hL hL' he=>?_,hH.hy⟩
   ·by_cases hb:b=H.n
    ·subst hb
     rw [upd_same] at hL
     cases hL
     obtain⟨rfl,rfl⟩:=hnew i c hc
     exact hr _
    ·rw [HP.cell_push,if_neg hb] at hc
     rw [upd_ne hb] at hL
     have:=hH.rel b i c L hc hL
     exact(this.mono hle).of_heap (hk.old _ this.lt)
   ·by_cases hb:b=H.n
    ·by_cases hb':b'=H.n
     ·rw [hb,hb']
     ·subst hb
      rw [upd_same] at hL
      rw [upd_ne hb'] at hL'
      cases hL
      have:=hlt b' L' (hkn b' hb' g2) hL'
      have:B=L'.B:=he
      omega
    ·by_cases hb':b'=H.n
     ·subst hb'
      rw [upd_same] at hL'
      rw [upd_ne hb] at hL
      cases hL'
      have:=hlt b L (hkn b hb g1) hL
      have:L.B=B:=he
      omega
     ·rw [upd_ne hb] at hL
      rw [upd_ne hb'] at hL'
      exact hH.inj b b' L L' (hkn b hb g1) (hkn b' hb' g2) hL hL' he
  knc:=fun b i hb hc=>by
   rw [HP.cell_push,if_neg (by omega)]
   exact hc
  fr:=fun k hk' _=>hk.old k hk'
  new:=fun b L h1 h2=>by
   by_cases hb:b=H.n
   ·subst hb;rw [upd_same] at h2;cases h2;exact .inl hB
   ·rw [upd_ne hb,h1] at h2;cases h2
  size:=hk.size
  os:=hk.os
  tape:=hk.tape
  output:=hk.output
  old:=fun b L h1 h2=>by
   by_cases hb:b=H.n
   ·exact Nat.le_of_eq hb.symm
   ·rw [upd_ne hb,h1] at h2;cases h2 }
end Go.Sx
