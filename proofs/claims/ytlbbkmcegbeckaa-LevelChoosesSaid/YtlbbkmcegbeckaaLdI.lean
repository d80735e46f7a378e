/-
  What is chosen of a level: the run. Conditions: none.
-/
import Derived.Test.YtlbbkmcegbeckaaSzG
set_option linter.all false
set_option maxRecDepth 100000
noncomputable section
namespace Go.Proofs.Ytlbbkmcegbeckaa
open Go.Sx Go.Proofs Go.RowKit Go.Lib
def brv:OraM:=fun t args H=>match t,args with
 | .f g,[.one (.lit (.slice none 0 0)),.one n]=>match Nat.beq g 134,iX n with
  | true,some (.i64,e)=>match ltX H.hy Go.Sx.zI e&&leX H.hy e (.lit (.int .i64 100000)) with
   | true=>some [ap8 H sRun [] (nilE false) (litN 0)]
   | false=>none
  | _,_=>none
 | _,_=>none
theorem bmd:ahh U Try.prog brv:=by
 intro σ hU t args H outs h
 unfold brv at h
 split at h
 rotate_left
 ·cases h
 rename_i g n
 split at h
 rotate_left
 ·cases h
 rename_i e hg hn
 have hg:=Nb hg
 subst hg
 split at h
 rotate_left
 ·cases h
 rename_i hb
 rw [Ba] at hb
 cases h
 refine⟨fun o ho'=>?_,fun ρ w us s hs hus hH hd hj=>?_⟩
 ·rw [Mg.1 ho']
  exact @St.sc σ _ _ (@St.push σ _ _)
 ·have hs:s=callFunc 134 us:=hs
  subst hs
  obtain⟨l⟩:=us
  match l,hus with
  | [u1,u2],⟨h1,h2,_⟩ =>
   have h1:@CRel σ ρ (.lit (.slice none 0 0)) u1:=h1
   have e1:u1=nilV:=h1.1
   subst e1
   obtain⟨_,_,e2,_⟩:=@ael σ _ _ _ _ _ hn h2
   subst e2
   have q1:(0:Int)<(@den σ e).iv:=@agh σ _ (@HRel.hy σ _ _ _ hH) _ _ hb.1
   have q2:(@den σ e).iv≤100000:=@acu σ _ (@HRel.hy σ _ _ _ hH) _ _ hb.2
   obtain⟨k,hk⟩:∃ k:Nat,(@den σ e).iv=k:=⟨(@den σ e).iv.toNat,by omega⟩
   rw [hk] at q1 q2 ⊢
   rw [Try.call134]
   refine(a9s (w:=w) (n:=k) (by omega) (by omega)).mono ?_
   rintro ex w' ⟨blk,cap,arr,rfl,g1,g2,g3,g4,g5,g6,g7⟩
   have hkeep:Keep w w':=azw g4
   refine⟨_,rfl,_,Mg.2 rfl,upd ρ H.n ⟨blk,0,cap*5+1,none⟩,?_,@Sim.newCt σ _ _ _ _ _ _ _ hH hd hkeep g3 fun ρ2=>?_⟩
   ·refine⟨fun g hg=>(by cases hg),.inr ⟨fun h=>(by cases h.1),⟨blk,0,cap*5+1,none⟩,0,cap,upd_same _ _ _,rfl,rfl,Nat.zero_le _,?_,by decide,?_⟩⟩
    ·unfold maxLen at g2;omega
    ·show 0+cap*5+1=cap*5+1
     omega
   ·refine⟨rfl,fun g hg=>(by cases hg),rfl,arr,27,(0,0),g5,⟨.inl rfl,fun _ j u hu=>?_⟩,by rw [g6],?_,Nat.zero_le _,fun i row hi=>?_⟩
    ·rw [g7 j u hu];rfl
    ·show 0+0*5≤arr.size
     omega
    ·have hi:([]:List (List CD))[i]? = some row:=hi
     simp at hi
theorem us60(a b c d lv:CD):@Us.u U 60 [a,b,c,d,lv]=.sl false (aek [a.rows,b.rows,c.rows,d.rows] lv.iv.toNat):=rfl
theorem us61(a b c d lv:CD):@Us.u U 61 [a,b,c,d,lv]=mkz (afz [a.rows,b.rows,c.rows,d.rows] lv.iv.toNat):=rfl
theorem us62(a b c d lv:CD):@Us.u U 62 [a,b,c,d,lv]=aan (at1 [a.rows,b.rows,c.rows,d.rows] lv.iv.toNat):=rfl
theorem us63(a b i:CD):@Us.u U 63 [a,b,i]=vInt .i64 (abp a.rows b.rows i.iv.toNat):=rfl
theorem us64(a b c d f t lv n i:CD):@Us.u U 64 [a,b,c,d,f,t,lv,n,i]=aan (afy f t lv.iv.toNat [a.rows,b.rows,c.rows,d.rows] n.iv.toNat i.iv.toNat):=rfl
theorem us65(a b:CD):@Us.u U 65 [a,b]=.sl false (a.rows++b.rows):=rfl
theorem us74(a b c d lv:CD):@Us.u U 74 [a,b,c,d,lv]=aan (!(([a.rows,b.rows,c.rows,d.rows]).getD lv.iv.toNat []).isEmpty):=rfl
theorem c2_0(a b:CD):(CD.sl false ([[a]]++[[b]])).cell 0 0=a:=rfl
theorem c2_1(a b:CD):(CD.sl false ([[a]]++[[b]])).cell 1 0=b:=rfl
theorem tn0:(0:Int).toNat=0:=rfl
theorem tn1:(1:Int).toNat=1:=rfl
theorem tn2:(2:Int).toNat=2:=rfl
theorem tn3:(3:Int).toNat=3:=rfl
theorem z01:(0:Int)+1=1:=rfl
theorem z11:(1:Int)+1=2:=rfl
theorem z21:(2:Int)+1=3:=rfl
section
variable {a b c d f t:CD}
theorem bj9{f t:CD}{k j:Nat}{rows:List (List CD)}:selL f t (vInt .i64 (k:Int)) j rows=if j=k then rows.filter (ovl f t) else []:=by
 unfold selL
 have:(eqC (vInt .i64 (j:Int)) (vInt .i64 (k:Int))=true)=(j=k):=a5z
 simp only [this]
theorem ip1:ipQ a b c d (vInt .i64 1) f t 4 0=b.rows.filter (ovl f t):=by
 have h:∀ j rows,selL f t (vInt .i64 1) j rows=if j=1 then rows.filter (ovl f t) else []:=fun j rows=>bj9 (k:=1)
 show(((List.range 4).flatMap fun k=>selL f t (vInt .i64 1) k ([a.rows,b.rows,c.rows,d.rows].getD k []))++selL f t (vInt .i64 1) 4 [])=_
 simp [List.range_succ,h]
theorem ip2:ipQ a b c d (vInt .i64 2) f t 4 0=c.rows.filter (ovl f t):=by
 have h:∀ j rows,selL f t (vInt .i64 2) j rows=if j=2 then rows.filter (ovl f t) else []:=fun j rows=>bj9 (k:=2)
 show(((List.range 4).flatMap fun k=>selL f t (vInt .i64 2) k ([a.rows,b.rows,c.rows,d.rows].getD k []))++selL f t (vInt .i64 2) 4 [])=_
 simp [List.range_succ,h]
theorem ip3:ipQ a b c d (vInt .i64 3) f t 4 0=d.rows.filter (ovl f t):=by
 have h:∀ j rows,selL f t (vInt .i64 3) j rows=if j=3 then rows.filter (ovl f t) else []:=fun j rows=>bj9 (k:=3)
 show(((List.range 4).flatMap fun k=>selL f t (vInt .i64 3) k ([a.rows,b.rows,c.rows,d.rows].getD k []))++selL f t (vInt .i64 3) 4 [])=_
 simp [List.range_succ,h]
end
def clQ(f t:CD)(lv:Nat)(a b c d:CD)(n:Nat)(i:Int):Bool:=afy f t lv [a.rows,b.rows,c.rows,d.rows] n i.toNat
theorem bf8(f t:CD)(lv:Nat)(a b c d:CD)(n:Nat)(i:Int):afy f t lv [a.rows,b.rows,c.rows,d.rows] n i.toNat=clQ f t lv a b c d n i:=rfl
theorem bbf(f t:CD)(lv:Nat)(a b c d:CD)(n:Nat):afy f t lv [a.rows,b.rows,c.rows,d.rows] n 0=clQ f t lv a b c d n 0:=rfl
section
variable {f t a b c d:CD} {lv:Nat} {i:Int}
theorem cl_z:clQ f t lv a b c d 0 0=true:=by
 unfold clQ afy
 simp
theorem all_succ{x:CD}{p:List CD→Bool}(hT:Typ (.sl sRun) x)(h0:0≤i)(h:i<x.len):(x.rows.take (i+1).toNat).all p=((x.rows.take i.toNat).all p&&p [x.cell i 0,x.cell i 1,x.cell i 2,x.cell i 3,x.cell i 4]):=by
 rw [adx hT h0 h,List.all_append]
 simp
theorem bvq(hT:Typ (.sl sRun) a)(h0:0≤i)(h:i<a.len):clQ f t lv a b c d 0 (i+1)=(clQ f t lv a b c d 0 i&&(decide (0≤lv+1)||!ovl f t [a.cell i 0,a.cell i 1,a.cell i 2,a.cell i 3,a.cell i 4])):=by
 unfold clQ afy
 rw [show [a.rows,b.rows,c.rows,d.rows].getD 0 []=a.rows from rfl,all_succ hT h0 h,Bool.and_assoc]
 congr 1
 all_goals (cases decide (0≤lv+1)<;>simp)
theorem bvp(hT:Typ (.sl sRun) a)(h:¬ i<a.len):clQ f t lv a b c d 0 i=clQ f t lv a b c d 1 0:=by
 show(((List.range 0).all fun k=>decide (k≤lv+1)||([a.rows,b.rows,c.rows,d.rows].getD k []).all fun r=>!ovl f t r)&&(decide (0≤lv+1)||(a.rows.take i.toNat).all fun r=>!ovl f t r))=(((List.range (0+1)).all fun k=>decide (k≤lv+1)||([a.rows,b.rows,c.rows,d.rows].getD k []).all fun r=>!ovl f t r)&&(decide (0+1≤lv+1)||(([a.rows,b.rows,c.rows,d.rows].getD (0+1) []).take 0).all fun r=>!ovl f t r))
 rw [abh hT h,List.take_zero]
 simp [List.range_succ,Bool.and_assoc]
theorem bvt(hT:Typ (.sl sRun) b)(h0:0≤i)(h:i<b.len):clQ f t lv a b c d 1 (i+1)=(clQ f t lv a b c d 1 i&&(decide (1≤lv+1)||!ovl f t [b.cell i 0,b.cell i 1,b.cell i 2,b.cell i 3,b.cell i 4])):=by
 unfold clQ afy
 rw [show [a.rows,b.rows,c.rows,d.rows].getD 1 []=b.rows from rfl,all_succ hT h0 h,Bool.and_assoc]
 congr 1
 all_goals (cases decide (1≤lv+1)<;>simp)
theorem bvr(hT:Typ (.sl sRun) b)(h:¬ i<b.len):clQ f t lv a b c d 1 i=clQ f t lv a b c d 2 0:=by
 show(((List.range 1).all fun k=>decide (k≤lv+1)||([a.rows,b.rows,c.rows,d.rows].getD k []).all fun r=>!ovl f t r)&&(decide (1≤lv+1)||(b.rows.take i.toNat).all fun r=>!ovl f t r))=(((List.range (1+1)).all fun k=>decide (k≤lv+1)||([a.rows,b.rows,c.rows,d.rows].getD k []).all fun r=>!ovl f t r)&&(decide (1+1≤lv+1)||(([a.rows,b.rows,c.rows,d.rows].getD (1+1) []).take 0).all fun r=>!ovl f t r))
 rw [abh hT h,List.take_zero]
 simp [List.range_succ,Bool.and_assoc]
theorem bvv(hT:Typ (.sl sRun) c)(h0:0≤i)(h:i<c.len):clQ f t lv a b c d 2 (i+1)=(clQ f t lv a b c d 2 i&&(decide (2≤lv+1)||!ovl f t [c.cell i 0,c.cell i 1,c.cell i 2,c.cell i 3,c.cell i 4])):=by
 unfold clQ afy
 rw [show [a.rows,b.rows,c.rows,d.rows].getD 2 []=c.rows from rfl,all_succ hT h0 h,Bool.and_assoc]
 congr 1
 all_goals (cases decide (2≤lv+1)<;>simp)
theorem bvu(hT:Typ (.sl sRun) c)(h:¬ i<c.len):clQ f t lv a b c d 2 i=clQ f t lv a b c d 3 0:=by
 show(((List.range 2).all fun k=>decide (k≤lv+1)||([a.rows,b.rows,c.rows,d.rows].getD k []).all fun r=>!ovl f t r)&&(decide (2≤lv+1)||(c.rows.take i.toNat).all fun r=>!ovl f t r))=(((List.range (2+1)).all fun k=>decide (k≤lv+1)||([a.rows,b.rows,c.rows,d.rows].getD k []).all fun r=>!ovl f t r)&&(decide (2+1≤lv+1)||(([a.rows,b.rows,c.rows,d.rows].getD (2+1) []).take 0).all fun r=>!ovl f t r))
 rw [abh hT h,List.take_zero]
 simp [List.range_succ,Bool.and_assoc]
theorem bvx(hT:Typ (.sl sRun) d)(h0:0≤i)(h:i<d.len):clQ f t lv a b c d 3 (i+1)=(clQ f t lv a b c d 3 i&&(decide (3≤lv+1)||!ovl f t [d.cell i 0,d.cell i 1,d.cell i 2,d.cell i 3,d.cell i 4])):=by
 unfold clQ afy
 rw [show [a.rows,b.rows,c.rows,d.rows].getD 3 []=d.rows from rfl,all_succ hT h0 h,Bool.and_assoc]
 congr 1
 all_goals (cases decide (3≤lv+1)<;>simp)
theorem bvw(hT:Typ (.sl sRun) d)(h:¬ i<d.len):clQ f t lv a b c d 3 i=clQ f t lv a b c d 4 0:=by
 show(((List.range 3).all fun k=>decide (k≤lv+1)||([a.rows,b.rows,c.rows,d.rows].getD k []).all fun r=>!ovl f t r)&&(decide (3≤lv+1)||(d.rows.take i.toNat).all fun r=>!ovl f t r))=(((List.range (3+1)).all fun k=>decide (k≤lv+1)||([a.rows,b.rows,c.rows,d.rows].getD k []).all fun r=>!ovl f t r)&&(decide (3+1≤lv+1)||(([a.rows,b.rows,c.rows,d.rows].getD (3+1) []).take 0).all fun r=>!ovl f t r))
 rw [abh hT h,List.take_zero]
 simp [List.range_succ,Bool.and_assoc]
end
def spF2(a b:List (List CD)):CD:=spF (a++b) (a++b).length
def spL2(a b:List (List CD)):CD:=spL (a++b) (a++b).length
theorem aj5(a b:List (List CD)):spF (a++b) (a++b).length=spF2 a b:=rfl
theorem aj6(a b:List (List CD)):spL (a++b) (a++b).length=spL2 a b:=rfl
theorem afq(r:List CD):spF [r] [r].length=at' r 3:=rfl
theorem afr(r:List CD):spL [r] [r].length=at' r 4:=rfl
theorem atR3(a b c d e:CD):at' [a,b,c,d,e] 3=d:=rfl
theorem atR4(a b c d e:CD):at' [a,b,c,d,e] 4=e:=rfl
theorem be8(b:Bool):(aan b).bv=b:=rfl
theorem aix(r:List (List CD)):(mkz r).rows=r:=rfl
theorem a1j{a b:Int}:(cmpZ a b<0)=(a<b):=by
 unfold cmpZ
 split
 ·rename_i h
  simp [h]
 ·split<;>simp<;>omega
theorem flen{x:CD}{p:List CD→Bool}(hT:Typ (.sl sRun) x):(mkz (x.rows.filter p)).len=(x.rows.filter p).length:=by
 have:=hT.sl.2
 have h2:=List.length_filter_le p x.rows
 show clip (x.rows.filter p).length=_
 exact ai9 (by omega)
theorem avu{x:CD}{p:List CD→Bool}(hT:Typ (.sl sRun) x):(mkz (x.rows.filter p)).len≤x.len:=by
 have h1:=hT.sl.1
 have h2:=List.length_filter_le p x.rows
 rw [flen hT]
 omega
theorem be1(x y:List (List CD)):abp x y 1=0:=by
 unfold abp
 split<;>rfl
theorem bra{x y:List (List CD)}:∀ {n:Nat},0<n→abp x y n<n
 | n+1,_=>by
  unfold abp
  split
  ·omega
  ·by_cases h:0<n
   ·have:=bra (x:=x) (y:=y) h;omega
   ·have:n=0:=by omega
    subst this
    show 0<1
    omega
section
variable {a c:CD} {i:Int}
theorem be_y(hT:Typ (.sl sRun) c)(h0:1≤i)(h:((mkz (c.rows.filter (ovl (a.cell i 3) (a.cell i 4)))).len:Int)<(mkz (c.rows.filter (ovl (a.cell (abp a.rows c.rows i.toNat:Nat) 3) (a.cell (abp a.rows c.rows i.toNat:Nat) 4)))).len):((abp a.rows c.rows (i+1).toNat:Nat):Int)=i:=by
 rw [flen hT,flen hT] at h
 rw [show(i+1).toNat=i.toNat+1 by omega,abp]
 have:cntR c.rows (a.rows.getD i.toNat [])<cntR c.rows (a.rows.getD (abp a.rows c.rows i.toNat) []):=Int.ofNat_lt.1 h
 rw [if_pos this]
 omega
theorem be_n(hT:Typ (.sl sRun) c)(h0:1≤i)(h:¬ ((mkz (c.rows.filter (ovl (a.cell i 3) (a.cell i 4)))).len:Int)<(mkz (c.rows.filter (ovl (a.cell (abp a.rows c.rows i.toNat:Nat) 3) (a.cell (abp a.rows c.rows i.toNat:Nat) 4)))).len):abp a.rows c.rows (i+1).toNat=abp a.rows c.rows i.toNat:=by
 rw [flen hT,flen hT] at h
 rw [show(i+1).toNat=i.toNat+1 by omega,abp]
 have:¬ cntR c.rows (a.rows.getD i.toNat [])<cntR c.rows (a.rows.getD (abp a.rows c.rows i.toNat) []):=fun hh=>h (Int.ofNat_lt.2 hh)
 rw [if_neg this]
theorem bny{k:Nat}(hT:Typ (.sl sRun) a)(h:k<a.rows.length):a.rows.getD k []=[a.cell k 0,a.cell k 1,a.cell k 2,a.cell k 3,a.cell k 4]:=by
 have hl:=hT.sl.1
 have h1:=adx (i:=(k:Int)) hT (Int.natCast_nonneg _) (by omega)
 rw [show((k:Int)+1).toNat=k+1 by omega,Int.toNat_natCast,List.take_succ_eq_append_getElem h] at h1
 have h2:=List.append_cancel_left h1
 rw [Gd,Gl h]
 exact List.singleton_inj.1 h2
theorem be_e(hT:Typ (.sl sRun) a)(h2:i≤a.len)(h:¬ i<a.len):abp a.rows c.rows i.toNat=abp a.rows c.rows a.rows.length:=by
 have hl:=hT.sl.1
 rw [show i.toNat=a.rows.length by omega]
theorem a1e(hT:Typ (.sl sRun) a)(h1:1≤(a.len:Int)):a.rows.getD (abp a.rows c.rows a.rows.length) []=[a.cell (abp a.rows c.rows a.rows.length:Nat) 0,a.cell (abp a.rows c.rows a.rows.length:Nat) 1,a.cell (abp a.rows c.rows a.rows.length:Nat) 2,a.cell (abp a.rows c.rows a.rows.length:Nat) 3,a.cell (abp a.rows c.rows a.rows.length:Nat) 4]:=by
 have hl:=hT.sl.1
 exact bny hT (bra (by omega))
theorem bp0(hT:Typ (.sl sRun) a)(h:(!a.rows.isEmpty)=true):1≤(a.len:Int):=by
 have hl:=hT.sl.1
 cases hr:a.rows with
 | nil=>rw [hr] at h;cases h
 | cons x r=>rw [hl,hr,List.length_cons];omega
theorem bqn(hT:Typ (.sl sRun) a)(h:1≤(a.len:Int)):a=.sl false a.rows:=by
 obtain⟨m,u,hr⟩:=hT
 refine bnz hr fun e=>?_
 have:=hr.slice.2.1
 rw [e] at this
 simp at this
 omega
theorem a9e{x y:List (List CD)}(h:x.length+y.length≤1000):((CD.sl false (x++y)).len:Int)=x.length+y.length:=by
 show((clip (x++y).length:Nat):Int)=_
 rw [ai9 (by rw [List.length_append];unfold maxN;omega),List.length_append]
 omega
theorem a1z(hT:Typ (.sl sRun) a):a.rows.length=a.len:=hT.sl.1.symm
theorem a96(r:List CD):(CD.sl false [r]).len=1:=rfl
end
section
variable {a b c d:CD}
theorem bma:aek [a.rows,b.rows,c.rows,d.rows] 0=a.rows:=rfl
theorem bmb:aek [a.rows,b.rows,c.rows,d.rows] 1=[b.rows.getD (abp b.rows c.rows b.rows.length) []]:=rfl
theorem bmc:aek [a.rows,b.rows,c.rows,d.rows] 2=[c.rows.getD (abp c.rows d.rows c.rows.length) []]:=rfl
theorem bmi:afz [a.rows,b.rows,c.rows,d.rows] 0=b.rows.filter (ovl (spF a.rows a.rows.length) (spL a.rows a.rows.length)):=rfl
theorem bmj:afz [a.rows,b.rows,c.rows,d.rows] 1=c.rows.filter (ovl (at' (b.rows.getD (abp b.rows c.rows b.rows.length) []) 3) (at' (b.rows.getD (abp b.rows c.rows b.rows.length) []) 4)):=rfl
theorem bmk:afz [a.rows,b.rows,c.rows,d.rows] 2=d.rows.filter (ovl (at' (c.rows.getD (abp c.rows d.rows c.rows.length) []) 3) (at' (c.rows.getD (abp c.rows d.rows c.rows.length) []) 4)):=rfl
theorem bbm(n:Nat):at1 [a.rows,b.rows,c.rows,d.rows] n=clQ (spF2 (aek [a.rows,b.rows,c.rows,d.rows] n) (afz [a.rows,b.rows,c.rows,d.rows] n)) (spL2 (aek [a.rows,b.rows,c.rows,d.rows] n) (afz [a.rows,b.rows,c.rows,d.rows] n)) n a b c d 4 0:=rfl
theorem lv0:[a.rows,b.rows,c.rows,d.rows].getD 0 []=a.rows:=rfl
theorem lv1:[a.rows,b.rows,c.rows,d.rows].getD 1 []=b.rows:=rfl
theorem lv2:[a.rows,b.rows,c.rows,d.rows].getD 2 []=c.rows:=rfl
end
def bvn(H:HP)(c:Cel):X:=match toSo H sR c with
 | some (e,_,_)=>e
 | none=>Go.Sx.zI
def exAt(p:Pl)(F:Fm)(H:HP):X:=match p.get F H with
 | some c=>bvn H c
 | none=>Go.Sx.zI
def bzy(p:Pl)(F:Fm)(H:HP):X:=match p.get F H with
 | some (.sv _ _ e)=>e
 | _=>Go.Sx.zI
def nxX(x:X):X:=match x with
 | .var n=>.var (Nat.succ n)
 | x=>x
def len1(e:X)(n:Int):List X:=[.ap .le [I 1,.ap .len [e]],.ap .le [.ap .len [e],I n]]
def bxd:Lp:=⟨[(.cell 5 0,.int .i64),(.cell 5 1,.int .i64),(.cell 5 2,.int .i64),(.cell 5 3,.val sB),(.cell 5 4,.val sB),(.slot 6,.int .i64)],[0,1,4,5],[0],fun F H k=>[.ap .le [I 1,.var (k+5)],.ap .le [.var (k+5),.ap .len [sx F 0]],.ap .same [.var k,.ap (.cell 0) [sx F 0,.ap (.usr 63) [sx F 0,nxX (sx F 0),.var (k+5)]]],.ap .same [.var (k+1),.ap (.cell 1) [sx F 0,.ap (.usr 63) [sx F 0,nxX (sx F 0),.var (k+5)]]],.ap .same [.var (k+2),.ap (.cell 2) [sx F 0,.ap (.usr 63) [sx F 0,nxX (sx F 0),.var (k+5)]]],.ap .same [.var (k+3),.ap (.cell 3) [sx F 0,.ap (.usr 63) [sx F 0,nxX (sx F 0),.var (k+5)]]],.ap .same [.var (k+4),.ap (.cell 4) [sx F 0,.ap (.usr 63) [sx F 0,nxX (sx F 0),.var (k+5)]]]],fun F H k=>.ap (.sub .i64) [.ap .len [sx F 0],.var (k+5)]⟩
def bxe:Lp:=⟨[(.rcell 0 5 3,.bool),(.slot 14,.int .i64)],[0,1,3,4,7,8,12,13],[12],fun F H k=>[.ap .le [Go.Sx.zI,.var (k+1)],.ap .le [.var (k+1),.ap .len [sx F 12]],.ap .same [.var k,.ap (.usr 64) [.var 0,.var 1,.var 2,.var 3,bzy (.rcell 0 6 0) F H,bzy (.rcell 0 7 0) F H,.var 4,sx F 8,.var (k+1)]]],fun F H k=>.ap (.sub .i64) [.ap .len [sx F 12],.var (k+1)]⟩
def bwr:List (FuncId×Inl):=[(62,⟨Try.f62,noH⟩),(103,⟨Try.f103,⟨aa0 [(5,bxd)],hintA [(1,fun F H=>len1 (sx F 0) 40)]⟩⟩),(107,⟨Try.f107,⟨aa0 [],hintA [(5,fun F H=>[.ap .le [.ap .len [sx F 5],I 200]]),(9,fun F H=>[.ap .lt [Go.Sx.zI,sx F 3],.ap .le [sx F 3,I 1000]]),(15,fun F H=>len1 (exAt (.slot 6) F H) 1000)]⟩⟩),(99,⟨Try.f99,noH⟩),(130,⟨Try.f130,⟨aa0 [(4,bxe)],hintA []⟩⟩)]
theorem bps:ajx U Try.prog bwr:=.cons ⟨at62,ag9 rfl (by kernel_rfl)⟩ (.cons (.of bvf (by kernel_rfl)) (.cons (.of b0d (by kernel_rfl)) (.cons (.of at99 (by kernel_rfl)) (.cons (.of bq5 (by kernel_rfl)) .nil))))
def T62:List (FuncId×Fsp):=[(104,S104),(105,bu4),(106,S106),(108,S108)]
theorem hT62:ae1 U Try.prog T62:=.cons c104 (.cons b0k (.cons c106 (.cons c108 .nil)))
def bso:OraM:=orM2 brv (acr (tab T62))
theorem bcr:ahh U Try.prog bso:=bsn bmd (amc hT62)
def tb62:Tb:=⟨ap4 bwr,noY,U.lc⟩
def S62:Fsp:=⟨[(true,[sR,sR,sR,sR]),(false,[.int .i64])],[.ap .le [.ap .len [.var 0],I 40],.ap .le [.ap .len [.var 1],I 40],.ap .le [.ap .len [.var 2],I 40],.ap .le [.ap .len [.var 3],I 40],.ap .le [Go.Sx.zI,.var 4],.ap .le [.var 4,I 2],.ap (.usr 74) [.var 0,.var 1,.var 2,.var 3,.var 4]],[(true,[.int .i64,sR,sR,.bool])],[([],[[.var 4,.ap (.usr 60) [.var 0,.var 1,.var 2,.var 3,.var 4],.ap (.usr 61) [.var 0,.var 1,.var 2,.var 3,.var 4],.ap (.usr 62) [.var 0,.var 1,.var 2,.var 3,.var 4]]])],false⟩
def hs62:Hs:=⟨aa0 [],hintA [(4,fun F H=>len1 (exAt (.cell 5 1) F H) 40),(7,fun F H=>[fzP 5 1])]⟩
abbrev aj1:X:=(.ap .lt [(.ap (.usr 73) [(.ap .len [(.ap (.usr 57) [(V 0),(V 1),(V 2),(V 3),(.ap (.add .i64) [(V 4),(I 1)]),(.ap (.cell 3) [(V 1),(V 10)]),(.ap (.cell 4) [(V 1),(V 10)])])]),(.ap .len [(.ap (.usr 57) [(V 0),(V 1),(V 2),(V 3),(.ap (.add .i64) [(V 4),(I 1)]),(V 8),(V 9)])])]),(I 0)])
abbrev aj2:X:=(.ap .lt [(.ap (.usr 73) [(.ap .len [(.ap (.usr 57) [(V 0),(V 1),(V 2),(V 3),(.ap (.add .i64) [(V 4),(I 1)]),(.ap (.cell 3) [(V 2),(V 10)]),(.ap (.cell 4) [(V 2),(V 10)])])]),(.ap .len [(.ap (.usr 57) [(V 0),(V 1),(V 2),(V 3),(.ap (.add .i64) [(V 4),(I 1)]),(V 8),(V 9)])])]),(I 0)])
abbrev ae9:X:=(.ap (.mk false) [(.ap .snoc [(.ap (.nil false) []),(V 5),(V 6),(V 7),(V 8),(V 9)])])
abbrev ajr:X:=(.ap (.usr 57) [(V 0),(V 1),(V 2),(V 3),(.ap (.add .i64) [(V 4),(I 1)]),(.ap (.usr 46) [ae9]),(.ap (.usr 47) [ae9])])
abbrev ate:X:=(.ap .snoc [(.ap .snoc [(.ap (.nil false) []),ae9]),ajr])
abbrev apd:X:=(.ap (.mk false) [(.ap .cat [(.ap (.mk false) [(.ap (.cell 0) [ate,(I 0)])]),(.ap (.cell 0) [ate,(I 1)])])])
abbrev ath:X:=(.ap (.add .i64) [(.ap (.add .i64) [(I 0),(.ap .len [(.ap (.cell 0) [ate,(I 0)])])]),(.ap .len [(.ap (.cell 0) [ate,(I 1)])])])
abbrev adh:X:=(.ap (.usr 46) [apd])
abbrev adi:X:=(.ap (.usr 47) [apd])
abbrev ar8:X:=(.ap (.add .i64) [(V 10),(I 1)])
abbrev ac7:X:=(.ap .lt [(V 10),(.ap .len [(V 2)])])
abbrev aia:X:=(.ap .le [(.ap .len [(.ap (.cell 0) [ate,(I 0)])]),(I 200)])
abbrev ad4:X:=(.ap .len [(V 1)])
abbrev ar9:X:=(.ap (.usr 64) [(V 0),(V 1),(V 2),(V 3),adh,adi,(V 4),(I 0),(.ap (.add .i64) [(V 12),(I 1)])])
abbrev asa:X:=(.ap (.usr 64) [(V 0),(V 1),(V 2),(V 3),adh,adi,(V 4),(I 1),(.ap (.add .i64) [(V 14),(I 1)])])
abbrev asb:X:=(.ap (.usr 64) [(V 0),(V 1),(V 2),(V 3),adh,adi,(V 4),(I 2),(.ap (.add .i64) [(V 16),(I 1)])])
abbrev asc:X:=(.ap (.usr 64) [(V 0),(V 1),(V 2),(V 3),adh,adi,(V 4),(I 3),(.ap (.add .i64) [(V 18),(I 1)])])
abbrev agd:X:=(.ap (.usr 63) [(V 1),(V 2),ar8])
abbrev agf:X:=(.ap (.usr 63) [(V 2),(V 3),ar8])
abbrev ale:X:=(.ap .le [(.ap .len [(.ap (.cell 0) [ate,(I 1)])]),(I 200)])
abbrev aer:X:=(.ap .lt [(V 10),ad4])
abbrev ase:X:=(.ap (.usr 57) [(V 0),(V 1),(V 2),(V 3),(.ap (.add .i64) [(V 4),(I 1)]),(.ap (.usr 46) [(V 0)]),(.ap (.usr 47) [(V 0)])])
abbrev atg:X:=(.ap .snoc [(.ap .snoc [(.ap (.nil false) []),(V 0)]),ase])
abbrev atf:X:=(.ap (.mk false) [(.ap .cat [(.ap (.mk false) [(.ap (.cell 0) [atg,(I 0)])]),(.ap (.cell 0) [atg,(I 1)])])])
abbrev acy:X:=(.ap (.usr 46) [atf])
abbrev acz:X:=(.ap (.usr 47) [atf])
abbrev axx:X:=(.ap (.add .i64) [(.ap (.add .i64) [(I 0),(.ap .len [(.ap (.cell 0) [atg,(I 0)])])]),(.ap .len [(.ap (.cell 0) [atg,(I 1)])])])
abbrev ae8:X:=(.ap .len [(V 0)])
abbrev aib:X:=(.ap .lt [(V 16),(.ap .len [(V 2)])])
abbrev asf:X:=(.ap .le [(.ap .len [(.ap (.cell 0) [atg,(I 0)])]),(I 200)])
abbrev alf:X:=(.ap .lt [(V 18),(.ap .len [(V 3)])])
abbrev aic:X:=(.ap .lt [(V 12),ae8])
abbrev aie:X:=(.ap .lt [(V 14),ad4])
abbrev an8:X:=(.ap (.usr 63) [(V 1),(V 2),(V 10)])
abbrev an9:X:=(.ap (.usr 63) [(V 2),(V 3),(V 10)])
abbrev aoa:X:=(.ap (.usr 63) [(V 1),(V 2),(I 1)])
abbrev aob:X:=(.ap (.usr 63) [(V 2),(V 3),(I 1)])
abbrev axy:X:=(.ap .le [(.ap .len [(.ap (.cell 0) [atg,(I 1)])]),(I 200)])
abbrev a3q:X:=(.ap .same [(.lit (.bool true)),(.ap (.usr 64) [(V 0),(V 1),(V 2),(V 3),adh,adi,(V 4),(I 0),(I 0)])])
abbrev asg:X:=(.ap .le [(.ap .len [apd]),(I 1000)])
abbrev a3r:X:=(.ap (.usr 64) [(V 0),(V 1),(V 2),(V 3),acy,acz,(V 4),(I 3),(.ap (.add .i64) [(V 12),(I 1)])])
abbrev atc:List X:=[(.ap (.typ (.sl [(.int .i64),(.int .i64),(.int .i64),(.sl [(.int .u8)]),(.sl [(.int .u8)])])) [(V 0)]),(.ap (.typ (.sl [(.int .i64),(.int .i64),(.int .i64),(.sl [(.int .u8)]),(.sl [(.int .u8)])])) [(V 1)]),(.ap (.typ (.sl [(.int .i64),(.int .i64),(.int .i64),(.sl [(.int .u8)]),(.sl [(.int .u8)])])) [(V 2)]),(.ap (.typ (.sl [(.int .i64),(.int .i64),(.int .i64),(.sl [(.int .u8)]),(.sl [(.int .u8)])])) [(V 3)]),(.ap .le [LoI,(V 4)]),(.ap .le [(V 4),HiI]),(.ap .le [ae8,(I 40)]),(.ap .le [ad4,(I 40)]),(.ap .le [(.ap .len [(V 2)]),(I 40)]),(.ap .le [(.ap .len [(V 3)]),(I 40)]),(.ap .le [(I 0),(V 4)]),(.ap .le [(V 4),(I 2)]),(.ap (.usr 74) [(V 0),(V 1),(V 2),(V 3),(V 4)])]
abbrev a0f:List X:=(.ap (.typ (.sl [(.int .i64),(.int .i64),(.int .i64),(.sl [(.int .u8)]),(.sl [(.int .u8)])])) [ase])::(.ap .le [(.ap .len [ase]),(I 160)])::(.ap (.typ (.sl [(.int .u8)])) [(.ap (.usr 46) [(V 0)])])::(.ap (.typ (.sl [(.int .u8)])) [(.ap (.usr 47) [(V 0)])])::(.ap .le [(I 1),ae8])::(.ap .le [ae8,(I 40)])::(.ap .le [(V 4),(I 0)])::atc
abbrev a7e:List X:=(.ap .lt [(I 0),axx])::(.ap .le [axx,(I 1000)])::axy::asf::a0f
abbrev bda:List X:=(.ap (.typ (.sl [(.int .u8)])) [acy])::(.ap (.typ (.sl [(.int .u8)])) [acz])::(.ap .le [(I 1),(.ap .len [atf])])::(.ap .le [(.ap .len [atf]),(I 1000)])::a7e
abbrev a0g:List X:=(.ap .le [(I 0),(V 6)])::(.ap .le [(V 6),ae8])::(.ap .same [(V 5),(.ap (.usr 64) [(V 0),(V 1),(V 2),(V 3),acy,acz,(V 4),(I 0),(V 6)])])::bda
abbrev a0h:List X:=(.ap .le [(I 0),(V 8)])::(.ap .le [(V 8),ad4])::(.ap .same [(V 7),(.ap (.usr 64) [(V 0),(V 1),(V 2),(V 3),acy,acz,(V 4),(I 1),(V 8)])])::(.ap .not [(.ap .lt [(V 6),ae8])])::a0g
abbrev a0i:List X:=(.ap .le [(I 0),(V 10)])::(.ap .le [(V 10),(.ap .len [(V 2)])])::(.ap .same [(V 9),(.ap (.usr 64) [(V 0),(V 1),(V 2),(V 3),acy,acz,(V 4),(I 2),(V 10)])])::(.ap .not [(.ap .lt [(V 8),ad4])])::a0h
abbrev a7f:List X:=(.ap .le [(I 0),(V 12)])::(.ap .le [(V 12),(.ap .len [(V 3)])])::(.ap .same [(V 11),(.ap (.usr 64) [(V 0),(V 1),(V 2),(V 3),acy,acz,(V 4),(I 3),(V 12)])])::(.ap .not [ac7])::a0i
abbrev atd:List X:=(.ap .le [(I 1),ad4])::(.ap .le [ad4,(I 40)])::(.ap .le [(V 4),(I 1)])::(.ap .not [(.ap .le [(V 4),(I 0)])])::atc
abbrev ag8:List X:=(.ap .le [(I 1),(V 10)])::(.ap .le [(V 10),ad4])::(.ap .same [(V 5),(.ap (.cell 0) [(V 1),an8])])::(.ap .same [(V 6),(.ap (.cell 1) [(V 1),an8])])::(.ap .same [(V 7),(.ap (.cell 2) [(V 1),an8])])::(.ap .same [(V 8),(.ap (.cell 3) [(V 1),an8])])::(.ap .same [(V 9),(.ap (.cell 4) [(V 1),an8])])::atd
abbrev ar0:List X:=(.ap (.typ (.sl [(.int .i64),(.int .i64),(.int .i64),(.sl [(.int .u8)]),(.sl [(.int .u8)])])) [ajr])::(.ap .le [(.ap .len [ajr]),(I 160)])::(.ap (.typ (.sl [(.int .u8)])) [(.ap (.usr 46) [ae9])])::(.ap (.typ (.sl [(.int .u8)])) [(.ap (.usr 47) [ae9])])::(.ap .le [(I 1),(.ap .len [ae9])])::(.ap .le [(.ap .len [ae9]),(I 40)])::(.ap .not [aer])::ag8
abbrev axt:List X:=(.ap .lt [(I 0),ath])::(.ap .le [ath,(I 1000)])::ale::aia::ar0
abbrev a3o:List X:=(.ap (.typ (.sl [(.int .u8)])) [adh])::(.ap (.typ (.sl [(.int .u8)])) [adi])::(.ap .le [(I 1),(.ap .len [apd])])::asg::axt
abbrev ar1:List X:=(.ap .le [(I 0),(V 12)])::(.ap .le [(V 12),ae8])::(.ap .same [(V 11),(.ap (.usr 64) [(V 0),(V 1),(V 2),(V 3),adh,adi,(V 4),(I 0),(V 12)])])::a3o
abbrev ar2:List X:=(.ap .le [(I 0),(V 14)])::(.ap .le [(V 14),ad4])::(.ap .same [(V 13),(.ap (.usr 64) [(V 0),(V 1),(V 2),(V 3),adh,adi,(V 4),(I 1),(V 14)])])::(.ap .not [aic])::ar1
abbrev ar3:List X:=(.ap .le [(I 0),(V 16)])::(.ap .le [(V 16),(.ap .len [(V 2)])])::(.ap .same [(V 15),(.ap (.usr 64) [(V 0),(V 1),(V 2),(V 3),adh,adi,(V 4),(I 2),(V 16)])])::(.ap .not [aie])::ar2
abbrev axu:List X:=(.ap .le [(I 0),(V 18)])::(.ap .le [(V 18),(.ap .len [(V 3)])])::(.ap .same [(V 17),(.ap (.usr 64) [(V 0),(V 1),(V 2),(V 3),adh,adi,(V 4),(I 3),(V 18)])])::(.ap .not [aib])::ar3
abbrev ald:List X:=(.ap .le [(I 1),(.ap .len [(V 2)])])::(.ap .le [(.ap .len [(V 2)]),(I 40)])::(.ap .not [(.ap .le [(V 4),(I 1)])])::(.ap .not [(.ap .le [(V 4),(I 0)])])::atc
abbrev aep:List X:=(.ap .le [(I 1),(V 10)])::(.ap .le [(V 10),(.ap .len [(V 2)])])::(.ap .same [(V 5),(.ap (.cell 0) [(V 2),an9])])::(.ap .same [(V 6),(.ap (.cell 1) [(V 2),an9])])::(.ap .same [(V 7),(.ap (.cell 2) [(V 2),an9])])::(.ap .same [(V 8),(.ap (.cell 3) [(V 2),an9])])::(.ap .same [(V 9),(.ap (.cell 4) [(V 2),an9])])::ald
abbrev ar4:List X:=(.ap (.typ (.sl [(.int .i64),(.int .i64),(.int .i64),(.sl [(.int .u8)]),(.sl [(.int .u8)])])) [ajr])::(.ap .le [(.ap .len [ajr]),(I 160)])::(.ap (.typ (.sl [(.int .u8)])) [(.ap (.usr 46) [ae9])])::(.ap (.typ (.sl [(.int .u8)])) [(.ap (.usr 47) [ae9])])::(.ap .le [(I 1),(.ap .len [ae9])])::(.ap .le [(.ap .len [ae9]),(I 40)])::(.ap .not [ac7])::aep
abbrev axv:List X:=(.ap .lt [(I 0),ath])::(.ap .le [ath,(I 1000)])::ale::aia::ar4
abbrev a3p:List X:=(.ap (.typ (.sl [(.int .u8)])) [adh])::(.ap (.typ (.sl [(.int .u8)])) [adi])::(.ap .le [(I 1),(.ap .len [apd])])::asg::axv
abbrev ar5:List X:=(.ap .le [(I 0),(V 12)])::(.ap .le [(V 12),ae8])::(.ap .same [(V 11),(.ap (.usr 64) [(V 0),(V 1),(V 2),(V 3),adh,adi,(V 4),(I 0),(V 12)])])::a3p
abbrev ar6:List X:=(.ap .le [(I 0),(V 14)])::(.ap .le [(V 14),ad4])::(.ap .same [(V 13),(.ap (.usr 64) [(V 0),(V 1),(V 2),(V 3),adh,adi,(V 4),(I 1),(V 14)])])::(.ap .not [aic])::ar5
abbrev ar7:List X:=(.ap .le [(I 0),(V 16)])::(.ap .le [(V 16),(.ap .len [(V 2)])])::(.ap .same [(V 15),(.ap (.usr 64) [(V 0),(V 1),(V 2),(V 3),adh,adi,(V 4),(I 2),(V 16)])])::(.ap .not [aie])::ar6
abbrev axw:List X:=(.ap .le [(I 0),(V 18)])::(.ap .le [(V 18),(.ap .len [(V 3)])])::(.ap .same [(V 17),(.ap (.usr 64) [(V 0),(V 1),(V 2),(V 3),adh,adi,(V 4),(I 3),(V 18)])])::(.ap .not [aib])::ar7
def btm:List VC:=[(((.ap .le [(V 4),(I 0)])::atc),(.ap .le [(I 1),ae8])),
 (a0f,asf),
 ((asf::a0f),axy),
 ((axy::asf::a0f),(.ap .lt [(I 0),axx])),
 (a7e,(.ap .le [(I 1),(.ap .len [atf])])),
 (a7e,(.ap .le [(.ap .len [atf]),(I 1000)])),
 (bda,(.ap .same [(.lit (.bool true)),(.ap (.usr 64) [(V 0),(V 1),(V 2),(V 3),acy,acz,(V 4),(I 0),(I 0)])])),
 (((V 5)::(.ap .lt [(V 6),ae8])::a0g),(.ap .same [(.lit (.bool true)),(.ap (.usr 64) [(V 0),(V 1),(V 2),(V 3),acy,acz,(V 4),(I 0),(.ap (.add .i64) [(V 6),(I 1)])])])),
 (((.ap .not [(V 5)])::(.ap .lt [(V 6),ae8])::a0g),(.ap .same [(.lit (.bool false)),(.ap (.usr 64) [(V 0),(V 1),(V 2),(V 3),acy,acz,(V 4),(I 0),(.ap (.add .i64) [(V 6),(I 1)])])])),
 (((.ap .not [(.ap .lt [(V 6),ae8])])::a0g),(.ap .same [(V 5),(.ap (.usr 64) [(V 0),(V 1),(V 2),(V 3),acy,acz,(V 4),(I 1),(I 0)])])),
 (((V 7)::(.ap .lt [(V 8),ad4])::a0h),(.ap .same [(.lit (.bool true)),(.ap (.usr 64) [(V 0),(V 1),(V 2),(V 3),acy,acz,(V 4),(I 1),(.ap (.add .i64) [(V 8),(I 1)])])])),
 (((.ap .not [(V 7)])::(.ap .lt [(V 8),ad4])::a0h),(.ap .same [(.lit (.bool false)),(.ap (.usr 64) [(V 0),(V 1),(V 2),(V 3),acy,acz,(V 4),(I 1),(.ap (.add .i64) [(V 8),(I 1)])])])),
 (((.ap .not [(.ap .lt [(V 8),ad4])])::a0h),(.ap .same [(V 7),(.ap (.usr 64) [(V 0),(V 1),(V 2),(V 3),acy,acz,(V 4),(I 2),(I 0)])])),
 (((V 9)::ac7::a0i),(.ap .same [(.ap .not [(.ap (.usr 43) [(.ap (.cell 3) [(V 2),(V 10)]),(.ap (.cell 4) [(V 2),(V 10)]),acy,acz])]),(.ap (.usr 64) [(V 0),(V 1),(V 2),(V 3),acy,acz,(V 4),(I 2),ar8])])),
 (((.ap .not [(V 9)])::ac7::a0i),(.ap .same [(.lit (.bool false)),(.ap (.usr 64) [(V 0),(V 1),(V 2),(V 3),acy,acz,(V 4),(I 2),ar8])])),
 (((.ap .not [ac7])::a0i),(.ap .same [(V 9),(.ap (.usr 64) [(V 0),(V 1),(V 2),(V 3),acy,acz,(V 4),(I 3),(I 0)])])),
 (((V 11)::(.ap .lt [(V 12),(.ap .len [(V 3)])])::a7f),(.ap .same [(.ap .not [(.ap (.usr 43) [(.ap (.cell 3) [(V 3),(V 12)]),(.ap (.cell 4) [(V 3),(V 12)]),acy,acz])]),a3r])),
 (((.ap .not [(V 11)])::(.ap .lt [(V 12),(.ap .len [(V 3)])])::a7f),(.ap .same [(.lit (.bool false)),a3r])),
 (((.ap .le [(V 4),(I 1)])::(.ap .not [(.ap .le [(V 4),(I 0)])])::atc),(.ap .le [(I 1),ad4])),
 (atd,(.ap .same [(.ap (.cell 0) [(V 1),(I 0)]),(.ap (.cell 0) [(V 1),aoa])])),
 (atd,(.ap .same [(.ap (.cell 1) [(V 1),(I 0)]),(.ap (.cell 1) [(V 1),aoa])])),
 (atd,(.ap .same [(.ap (.cell 2) [(V 1),(I 0)]),(.ap (.cell 2) [(V 1),aoa])])),
 (atd,(.ap .same [(.ap (.cell 3) [(V 1),(I 0)]),(.ap (.cell 3) [(V 1),aoa])])),
 (atd,(.ap .same [(.ap (.cell 4) [(V 1),(I 0)]),(.ap (.cell 4) [(V 1),aoa])])),
 ((aj1::aer::ag8),(.ap .same [(.ap (.cell 0) [(V 1),(V 10)]),(.ap (.cell 0) [(V 1),agd])])),
 ((aj1::aer::ag8),(.ap .same [(.ap (.cell 1) [(V 1),(V 10)]),(.ap (.cell 1) [(V 1),agd])])),
 ((aj1::aer::ag8),(.ap .same [(.ap (.cell 2) [(V 1),(V 10)]),(.ap (.cell 2) [(V 1),agd])])),
 ((aj1::aer::ag8),(.ap .same [(.ap (.cell 3) [(V 1),(V 10)]),(.ap (.cell 3) [(V 1),agd])])),
 ((aj1::aer::ag8),(.ap .same [(.ap (.cell 4) [(V 1),(V 10)]),(.ap (.cell 4) [(V 1),agd])])),
 (((.ap .not [aj1])::aer::ag8),(.ap .same [(V 5),(.ap (.cell 0) [(V 1),agd])])),
 (((.ap .not [aj1])::aer::ag8),(.ap .same [(V 6),(.ap (.cell 1) [(V 1),agd])])),
 (((.ap .not [aj1])::aer::ag8),(.ap .same [(V 7),(.ap (.cell 2) [(V 1),agd])])),
 (((.ap .not [aj1])::aer::ag8),(.ap .same [(V 8),(.ap (.cell 3) [(V 1),agd])])),
 (((.ap .not [aj1])::aer::ag8),(.ap .same [(V 9),(.ap (.cell 4) [(V 1),agd])])),
 (((.ap .not [aer])::ag8),(.ap .le [(I 1),(.ap .len [ae9])])),
 (((.ap .not [aer])::ag8),(.ap .le [(.ap .len [ae9]),(I 40)])),
 (ar0,aia),
 ((aia::ar0),ale),
 ((ale::aia::ar0),(.ap .lt [(I 0),ath])),
 (axt,(.ap .le [(I 1),(.ap .len [apd])])),
 (axt,asg),
 (a3o,a3q),
 (((V 11)::aic::ar1),(.ap .same [(.lit (.bool true)),ar9])),
 (((.ap .not [(V 11)])::aic::ar1),(.ap .same [(.lit (.bool false)),ar9])),
 (((.ap .not [aic])::ar1),(.ap .same [(V 11),(.ap (.usr 64) [(V 0),(V 1),(V 2),(V 3),adh,adi,(V 4),(I 1),(I 0)])])),
 (((V 13)::aie::ar2),(.ap .same [(.lit (.bool true)),asa])),
 (((.ap .not [(V 13)])::aie::ar2),(.ap .same [(.lit (.bool false)),asa])),
 (((.ap .not [aie])::ar2),(.ap .same [(V 13),(.ap (.usr 64) [(V 0),(V 1),(V 2),(V 3),adh,adi,(V 4),(I 2),(I 0)])])),
 (((V 15)::aib::ar3),(.ap .same [(.lit (.bool true)),asb])),
 (((.ap .not [(V 15)])::aib::ar3),(.ap .same [(.lit (.bool false)),asb])),
 (((.ap .not [aib])::ar3),(.ap .same [(V 15),(.ap (.usr 64) [(V 0),(V 1),(V 2),(V 3),adh,adi,(V 4),(I 3),(I 0)])])),
 (((V 17)::alf::axu),(.ap .same [(.ap .not [(.ap (.usr 43) [(.ap (.cell 3) [(V 3),(V 18)]),(.ap (.cell 4) [(V 3),(V 18)]),adh,adi])]),asc])),
 (((.ap .not [(V 17)])::alf::axu),(.ap .same [(.lit (.bool false)),asc])),
 (((.ap .not [(.ap .le [(V 4),(I 1)])])::(.ap .not [(.ap .le [(V 4),(I 0)])])::atc),(.ap .le [(I 1),(.ap .len [(V 2)])])),
 (ald,(.ap .same [(.ap (.cell 0) [(V 2),(I 0)]),(.ap (.cell 0) [(V 2),aob])])),
 (ald,(.ap .same [(.ap (.cell 1) [(V 2),(I 0)]),(.ap (.cell 1) [(V 2),aob])])),
 (ald,(.ap .same [(.ap (.cell 2) [(V 2),(I 0)]),(.ap (.cell 2) [(V 2),aob])])),
 (ald,(.ap .same [(.ap (.cell 3) [(V 2),(I 0)]),(.ap (.cell 3) [(V 2),aob])])),
 (ald,(.ap .same [(.ap (.cell 4) [(V 2),(I 0)]),(.ap (.cell 4) [(V 2),aob])])),
 ((aj2::ac7::aep),(.ap .same [(.ap (.cell 0) [(V 2),(V 10)]),(.ap (.cell 0) [(V 2),agf])])),
 ((aj2::ac7::aep),(.ap .same [(.ap (.cell 1) [(V 2),(V 10)]),(.ap (.cell 1) [(V 2),agf])])),
 ((aj2::ac7::aep),(.ap .same [(.ap (.cell 2) [(V 2),(V 10)]),(.ap (.cell 2) [(V 2),agf])])),
 ((aj2::ac7::aep),(.ap .same [(.ap (.cell 3) [(V 2),(V 10)]),(.ap (.cell 3) [(V 2),agf])])),
 ((aj2::ac7::aep),(.ap .same [(.ap (.cell 4) [(V 2),(V 10)]),(.ap (.cell 4) [(V 2),agf])])),
 (((.ap .not [aj2])::ac7::aep),(.ap .same [(V 5),(.ap (.cell 0) [(V 2),agf])])),
 (((.ap .not [aj2])::ac7::aep),(.ap .same [(V 6),(.ap (.cell 1) [(V 2),agf])])),
 (((.ap .not [aj2])::ac7::aep),(.ap .same [(V 7),(.ap (.cell 2) [(V 2),agf])])),
 (((.ap .not [aj2])::ac7::aep),(.ap .same [(V 8),(.ap (.cell 3) [(V 2),agf])])),
 (((.ap .not [aj2])::ac7::aep),(.ap .same [(V 9),(.ap (.cell 4) [(V 2),agf])])),
 (((.ap .not [ac7])::aep),(.ap .le [(I 1),(.ap .len [ae9])])),
 (((.ap .not [ac7])::aep),(.ap .le [(.ap .len [ae9]),(I 40)])),
 (ar4,aia),
 ((aia::ar4),ale),
 ((ale::aia::ar4),(.ap .lt [(I 0),ath])),
 (axv,(.ap .le [(I 1),(.ap .len [apd])])),
 (axv,asg),
 (a3p,a3q),
 (((V 11)::aic::ar5),(.ap .same [(.lit (.bool true)),ar9])),
 (((.ap .not [(V 11)])::aic::ar5),(.ap .same [(.lit (.bool false)),ar9])),
 (((.ap .not [aic])::ar5),(.ap .same [(V 11),(.ap (.usr 64) [(V 0),(V 1),(V 2),(V 3),adh,adi,(V 4),(I 1),(I 0)])])),
 (((V 13)::aie::ar6),(.ap .same [(.lit (.bool true)),asa])),
 (((.ap .not [(V 13)])::aie::ar6),(.ap .same [(.lit (.bool false)),asa])),
 (((.ap .not [aie])::ar6),(.ap .same [(V 13),(.ap (.usr 64) [(V 0),(V 1),(V 2),(V 3),adh,adi,(V 4),(I 2),(I 0)])])),
 (((V 15)::aib::ar7),(.ap .same [(.lit (.bool true)),asb])),
 (((.ap .not [(V 15)])::aib::ar7),(.ap .same [(.lit (.bool false)),asb])),
 (((.ap .not [aib])::ar7),(.ap .same [(V 15),(.ap (.usr 64) [(V 0),(V 1),(V 2),(V 3),adh,adi,(V 4),(I 3),(I 0)])])),
 (((V 17)::alf::axw),(.ap .same [(.lit (.bool true)),asc])),
 (((.ap .not [(V 17)])::alf::axw),(.ap .same [(.lit (.bool false)),asc]))]
def btl:List (List X×List (List X)):=[(((.ap .not [(.ap .lt [(V 12),(.ap .len [(V 3)])])])::a7f),[[(V 4),(V 0),ase,(V 11)]]),
 (((.ap .not [alf])::axu),[[(V 4),ae9,ajr,(V 17)]]),
 (((.ap .not [alf])::axw),[[(V 4),ae9,ajr,(V 17)]])]
theorem byv:runV Try.prog ⟨bso,orvK Try.prog bso 10 14 tb62 5,Tb.ent tb62,10,14,none,Go.Sx.keyOf 62⟩ hs62 Try.f62 (aau Try.f62) S62=some (btm,btl):=by kernel_rfl
set_option maxHeartbeats 4000000 in
theorem c62:aah U Try.prog 62 S62:=by
 refine aif (P:=Try.prog) (outs:=btl) (v:=btm) mixed ⟨bcr,a2h mixed bcr (TbOK.of bps) 5,(TbOK.of bps).ent⟩ rfl (ag9 rfl (by kernel_rfl)) at62.at' at62.body at62.call at62.flow byv ?_ ?_
 ·unfold btm
  repeat' (first | exact aa7 _ | refine aai (fun v hh=>?_) ?_)
  all_goals
   simp only [wA,wB,aeg,afc,us43,us46,us47,us57,us60,us61,us62,us63,us64,us65,us73,us74,aas,adj,c2_0,c2_1,Bool.false_and,aa1,acf,aaq,List.nil_append,Ba,Dt,aj5,aj6,afq,afr,atR3,atR4,aix,a1j,atc,aj1,aj2,ae9,ajr,ate,apd,ath,adh,adi,ar8,ac7,aia,ad4,ar9,asa,asb,asc,agd,agf,ale,aer,ase,atg,atf,acy,acz,axx,ae8,aib,asf,alf,aic,aie,an8,an9,aoa,aob,axy,a3q,asg,a3r,a0f,a7e,bda,a0g,a0h,a0i,a7f,atd,ag8,ar0,axt,a3o,ar1,ar2,ar3,axu,ald,aep,ar4,axv,a3p,ar5,ar6,ar7,axw] at hh
   simp only [wA,wB,aeg,afc,us43,us46,us47,us57,us60,us61,us62,us63,us64,us65,us73,us74,aas,adj,c2_0,c2_1,Bool.false_and,aa1,acf,aaq,List.nil_append,Ba,Dt,aj5,aj6,afq,afr,atR3,atR4,aix,a1j,akb] at ⊢
   have hl:(v 4).iv=0∨(v 4).iv=1∨(v 4).iv=2:=by
    repeat (obtain⟨_,hh⟩:=hh)
    omega
   rcases hl with hl | hl | hl
   all_goals
    simp only [hl,z01,z11,z21,tn0,tn1,tn2,tn3,ip1,ip2,ip3,bf8,bbf,be1,aix,aj5,aj6,bma,bmb,bmc,bmi,bmj,bmk,bbm,lv0,lv1,lv2] at hh ⊢
    repeat (obtain⟨_,hh⟩:=hh)
    try (first | grind [be8,cl_z,bvq,bvt,bvv,bvx,bvp,bvr,bvu,bvw,ovl5,be_y,be_n,be_e,a1e,→ bp0,→ bqn,avu,a9e,→ a1z,a96,atR3,atR4])
 ·intro o ho σ hU hh
  obtain⟨v⟩:=σ
  cases hU
  simp only [btl,Mn,List.not_mem_nil,or_false] at ho
  repeat' (first | (rcases ho with rfl | ho) | subst ho)
  all_goals
   refine⟨_,Ms ..,by simp only [wA,wB,aeg,afc],?_⟩
   simp only [wA,wB,aeg,afc,us43,us46,us47,us57,us60,us61,us62,us63,us64,us65,us73,us74,aas,adj,c2_0,c2_1,Bool.false_and,aa1,acf,aaq,List.nil_append,Ba,Dt,aj5,aj6,afq,afr,atR3,atR4,aix,a1j,atc,aj1,aj2,ae9,ajr,ate,apd,ath,adh,adi,ar8,ac7,aia,ad4,ar9,asa,asb,asc,agd,agf,ale,aer,ase,atg,atf,acy,acz,axx,ae8,aib,asf,alf,aic,aie,an8,an9,aoa,aob,axy,a3q,asg,a3r,a0f,a7e,bda,a0g,a0h,a0i,a7f,atd,ag8,ar0,axt,a3o,ar1,ar2,ar3,axu,ald,aep,ar4,axv,a3p,ar5,ar6,ar7,axw] at hh
   simp only [List.map_cons,List.map_nil,wA,wB,aeg,afc,us43,us46,us47,us57,us60,us61,us62,us63,us64,us65,us73,us74,aas,adj,c2_0,c2_1,Bool.false_and,aa1,acf,aaq,List.nil_append,Ba,Dt,aj5,aj6,afq,afr,atR3,atR4,aix,a1j,akb]
   have hl:(v 4).iv=0∨(v 4).iv=1∨(v 4).iv=2:=by
    repeat (obtain⟨_,hh⟩:=hh)
    omega
   rcases hl with hl | hl | hl
   all_goals
    simp only [hl,z01,z11,z21,tn0,tn1,tn2,tn3,ip1,ip2,ip3,bf8,bbf,be1,aix,aj5,aj6,bma,bmb,bmc,bmi,bmj,bmk,bbm,lv0,lv1,lv2] at hh ⊢
    repeat (obtain⟨_,hh⟩:=hh)
    try (first | grind [be8,cl_z,bvq,bvt,bvv,bvx,bvp,bvr,bvu,bvw,ovl5,be_y,be_n,be_e,a1e,→ bp0,→ bqn,avu,a9e,→ a1z,a96,atR3,atR4])
end Go.Proofs.Ytlbbkmcegbeckaa
