/-
  Contracts of a seat's functions: the line of a deed, by the reference: its parts. Conditions: none.
-/
import Derived.Test.YtamhchkknlbanaaDoorBtB
import Derived.Test.YtamhchkknlbanaaDoorBtN
import Derived.Test.YtamhchkknlbanaaDoorBeD
import Derived.Test.YtamhchkknlbanaaDoorBeH
set_option linter.unusedSectionVars false
set_option linter.unusedVariables false
set_option linter.unusedSimpArgs false
set_option linter.all false
namespace Go.Proofs.YtamhchkknlbanaaDoor.Be
open Go.Sx Go.Proofs
theorem akk{l:List UInt8}(h:l.length≤maxN):((tx l).slen:Int)=l.length:=by
 show((clip l.length:Nat):Int)=_
 rw [aek h]
abbrev fF(k:Int)(is:Bool):List UInt8:=(frow k is).2.2.2.1
abbrev wF(k:Int)(is:Bool):List UInt8:=(frow k is).1
abbrev rF(k:Int)(is:Bool):Int:=(frow k is).2.2.2.2
theorem bo1(k:Int)(is:Bool):frow k is=([],0,false,[],0)∨∃ i,i<15∧frow k is=fr i∧afj k is=some (fr i):=by
 unfold frow
 cases h:afj k is with
 | none=>exact .inl rfl
 | some r =>
  refine .inr ?_
  have hm:=List.mem_of_find?_eq_some h
  obtain⟨i,hi,rfl⟩:=List.getElem_of_mem hm
  have e:frm[i]=fr i:=by
   unfold fr
   rw [List.getD_eq_getElem?_getD,List.getElem?_eq_getElem hi]
   rfl
  exact⟨i,hi,e,by rw [← e]⟩
theorem bsa{p:Row5→Prop}(h:∀ i,i<15→p (fr i))(h0:p ([],0,false,[],0))(k:Int)(is:Bool):p (frow k is):=by
 rcases bo1 k is with h1 | ⟨i,hi,h1,_⟩
 ·rw [h1];exact h0
 ·rw [h1];exact h i hi
theorem bxh{p:Row5→Bool}(h:(frm.all p)=true){i:Nat}(hi:i<15):p (fr i)=true:=by
 have:fr i∈frm:=by
  unfold fr
  rw [List.getD_eq_getElem?_getD,List.getElem?_eq_getElem (show i<frm.length from hi)]
  exact List.getElem_mem _
 exact List.all_eq_true.1 h _ this
theorem bix(k:Int)(is:Bool):(fF k is).length≤4:=by
 refine bsa (p:=fun r=>r.2.2.2.1.length≤4) (fun i hi=>?_) (by simp) k is
 have:=bxh (p:=fun r=>decide (r.2.2.2.1.length≤4)) (by decide) hi
 simpa using this
theorem als(k:Int)(is:Bool):(wF k is).length≤6:=by
 refine bsa (p:=fun r=>r.1.length≤6) (fun i hi=>?_) (by simp) k is
 have:=bxh (p:=fun r=>decide (r.1.length≤6)) (by decide) hi
 simpa using this
theorem a95(k:Int)(is:Bool):((tx (fF k is)).slen:Int)=(fF k is).length:=akk (by have:=bix k is;unfold maxN;omega)
theorem b06(k:Int)(is:Bool):((tx (fF k is)).slen:Int)≤4:=by
 rw [a95]
 have:=bix k is
 omega
section
variable {F:List UInt8} {i:Int}
theorem br7(h0:0≤i)(hi:i<(F.length:Int)):(CD.sl false (F.map ab9)).cell i 0=vInt .u8 ((F.getD i.toNat 0).toNat:Nat):=by
 have hlt:i.toNat<F.length:=by omega
 show((F.map ab9).getD i.toNat []).getD 0 default=_
 rw [List.getD_eq_getElem?_getD (l:=F.map ab9),List.getElem?_map,List.getElem?_eq_getElem hlt]
 have e2:F.getD i.toNat 0=F[i.toNat]:=by
  rw [List.getD_eq_getElem?_getD,List.getElem?_eq_getElem hlt]
  rfl
 rw [e2]
 rfl
theorem bcj(h0:0≤i)(hi:i<(F.length:Int)):F.take (i+1).toNat=F.take i.toNat++[F.getD i.toNat 0]:=by
 rw [show(i+1).toNat=i.toNat+1 by omega,bhx (by omega)]
theorem bpe{c x:Int}(h0:0≤i)(hi:i<(F.length:Int))(hc:((F.getD i.toNat 0).toNat:Int)=c):leftV (F.take (i+1).toNat) c x=0:=by
 unfold leftV hasC
 rw [bcj h0 hi,List.any_append]
 simp only [List.any_cons,List.any_nil,Bool.or_false,decide_eq_true hc,Bool.or_true,if_true]
theorem bjp{c x:Int}(h0:0≤i)(hi:i<(F.length:Int))(hc:((F.getD i.toNat 0).toNat:Int)≠c):leftV (F.take (i+1).toNat) c x=leftV (F.take i.toNat) c x:=by
 unfold leftV hasC
 rw [bcj h0 hi,List.any_append]
 simp only [List.any_cons,List.any_nil,Bool.or_false,decide_eq_false hc]
theorem arh{w:List UInt8}{who n a m o x:Int}{r:List (List CD)}(h0:0≤i)(hi:i<(F.length:Int))(hr:CD.sl (false&&r.isEmpty) r=CD.sl false ((acp w F who n a m o i.toNat).map afz))(hx:selV who n a m o (F.getD i.toNat 0)=x):CD.sl (false&&(r++([]++[[tx (Lib.itoa x)]])).isEmpty) (r++([]++[[tx (Lib.itoa x)]]))=CD.sl false ((acp w F who n a m o (i+1).toNat).map afz):=by
 have hr:r=(acp w F who n a m o i.toNat).map afz:=(CD.sl.inj hr).2
 have e:acp w F who n a m o (i+1).toNat=acp w F who n a m o i.toNat++[Lib.itoa x]:=by
  unfold acp
  rw [bcj h0 hi,List.map_append,← hx]
  rfl
 rw [e,List.map_append,hr]
 rfl
theorem ayr{who n a m o:Int}(h0:0≤i)(hi:i<(F.length:Int))(hb:((F.take i.toNat).all fun c=>inR (selV who n a m o c))=true)(hx:inR (selV who n a m o (F.getD i.toNat 0))=true):((F.take (i+1).toNat).all fun c=>inR (selV who n a m o c))=true:=by
 rw [bcj h0 hi,List.all_append,hb,List.all_cons,hx]
 rfl
theorem bpu{who n a m o:Int}(h0:0≤i)(hi:i<(F.length:Int))(hx:inR (selV who n a m o (F.getD i.toNat 0))=false):(F.all fun c=>inR (selV who n a m o c))=false:=by
 rw [List.all_eq_false]
 have hlt:i.toNat<F.length:=by omega
 refine⟨F.getD i.toNat 0,?_,by rw [hx];decide⟩
 rw [List.getD_eq_getElem?_getD,List.getElem?_eq_getElem hlt]
 exact List.getElem_mem _
theorem a0x(hi:¬ i<(F.length:Int)):F.take i.toNat=F:=List.take_of_length_le (by omega)
end
theorem bq1{who n a m o:Int}{c:UInt8}(h:(c.toNat:Int)=119):selV who n a m o c=who:=by
 unfold selV
 rw [if_pos (by omega)]
theorem bqz{who n a m o:Int}{c:UInt8}(h:(c.toNat:Int)=110):selV who n a m o c=n:=by
 unfold selV
 rw [if_neg (by omega),if_pos (by omega)]
theorem bqy{who n a m o:Int}{c:UInt8}(h:(c.toNat:Int)=97):selV who n a m o c=a:=by
 unfold selV
 rw [if_neg (by omega),if_neg (by omega),if_pos (by omega)]
theorem bq0{who n a m o:Int}{c:UInt8}(h:(c.toNat:Int)=111):selV who n a m o c=o:=by
 unfold selV
 rw [if_neg (by omega),if_neg (by omega),if_neg (by omega),if_pos (by omega)]
theorem b0e{who n a m o:Int}{c:UInt8}(h:(c.toNat:Int)=109):selV who n a m o c=m:=by
 unfold selV
 rw [if_neg (by omega),if_neg (by omega),if_neg (by omega),if_neg (by omega),if_pos (by omega)]
theorem b0d{who n a m o:Int}{c:UInt8}(h1:¬ (c.toNat:Int)=119)(h2:¬ (c.toNat:Int)=110)(h3:¬ (c.toNat:Int)=97)(h4:¬ (c.toNat:Int)=111)(h5:¬ (c.toNat:Int)=109):selV who n a m o c=0:=by
 unfold selV
 rw [if_neg (by omega),if_neg (by omega),if_neg (by omega),if_neg (by omega),if_neg (by omega)]
theorem a08{x:Int}(h1:¬ x<0)(h2:¬ 1073741824<x):inR x=true:=by
 unfold inR
 rw [decide_eq_true (by omega),decide_eq_true (by omega)]
 rfl
theorem a5z{x:Int}(h1:x<0):inR x=false:=by
 unfold inR
 rw [decide_eq_false (by omega)]
 rfl
theorem a5y{x:Int}(h1:1073741824<x):inR x=false:=by
 unfold inR
 rw [decide_eq_false (show ¬ x≤1073741824 by omega),Bool.and_false]
theorem join_le{B:Nat}:∀ {L:List (List UInt8)},(∀ x∈L,x.length≤B)→(Lib.join L [32]).length≤L.length*(B+1)
 | [],_=>Nat.zero_le _
 | x::r,h=>by
  have hl:∀ {r:List (List UInt8)},(∀ x∈r,x.length≤B)→Lib.lens r≤r.length*B:=by
   intro r
   induction r with
   | nil=>intro _;exact Nat.zero_le _
   | cons y r ih =>
    intro hh
    have h1:=ih fun x hx=>hh x (List.mem_cons_of_mem _ hx)
    have h2:=hh y (List.mem_cons_self ..)
    have e:Lib.lens (y::r)=y.length+Lib.lens r:=by simp [Lib.lens]
    rw [e,List.length_cons,Nat.add_mul]
    omega
  have:=hl h
  rw [Lib.join_length,List.length_cons,Nat.mul_add,Nat.mul_one]
  rw [List.length_cons] at this
  simp only [List.length_cons,List.length_nil]
  omega
theorem bl7(L:List (List UInt8)):(L.map afz).map asw=L:=by
 rw [List.map_map]
 exact List.map_id'' (fun l=>acn l) _
theorem a9p{w F:List UInt8}{who n a m o:Int}{i:Nat}:(acp w F who n a m o i).length≤F.length+1:=by
 unfold acp
 rw [List.length_cons,List.length_map,List.length_take]
 omega
theorem a99{x:Int}(h:inR x=true):(Lib.itoa x).length≤20:=by
 unfold inR at h
 simp only [Bool.and_eq_true,decide_eq_true_eq] at h
 exact an9 (by omega) (by omega)
theorem bg9{w F:List UInt8}{who n a m o:Int}{i:Nat}(hw:w.length≤6)(hb:(F.take i).all (fun c=>inR (selV who n a m o c))=true):∀ x∈acp w F who n a m o i,x.length≤20:=by
 intro x hx
 rcases List.mem_cons.1 hx with rfl | hx
 ·omega
 ·obtain⟨c,hc,rfl⟩:=List.mem_map.1 hx
  exact a99 (List.all_eq_true.1 hb c hc)
theorem bm6{k who n a m o:Int}{is:Bool}{b e:List (List CD)}(h:¬ (afj k is).isSome=true):ag6 k who n a m o is b e=([],2):=by
 unfold ag6
 cases hw:afj k is with
 | none=>rfl
 | some r=>rw [hw] at h;exact absurd rfl h
theorem ato{k who n a m o:Int}{is:Bool}{b e:List (List CD)}(h:(afj k is).isSome=true):ag6 k who n a m o is b e=if(fF k is).all (fun c=>inR (selV who n a m o c))=true then
   if ad9 k who n a m o is (fF k is) (rF k is) b e=true then([],2)
   else if 2200<(Lib.join (acp (wF k is) (fF k is) who n a m o (fF k is).length++ajs (rF k is) b e) [32]).length then([],3)
   else(Lib.join (acp (wF k is) (fF k is) who n a m o (fF k is).length++ajs (rF k is) b e) [32],0)
  else([],2):=by
 unfold ag6
 cases hw:afj k is with
 | none=>rw [hw] at h;cases h
 | some r =>
  have e1:frow k is=r:=by unfold frow;rw [hw];rfl
  unfold fF wF rF
  rw [e1]
theorem bez{k who n a m o:Int}{is:Bool}{b e:List (List CD)}(h:(afj k is).isSome=true)(hn:((fF k is).all fun c=>inR (selV who n a m o c))=false):ag6 k who n a m o is b e=([],2):=by
 rw [ato h,if_neg (by rw [hn];decide)]
theorem a8o{k who n a m o:Int}{is:Bool}{b e:List (List CD)}(h:(afj k is).isSome=true)(hn:((fF k is).all fun c=>inR (selV who n a m o c))=true)(hl:ad9 k who n a m o is (fF k is) (rF k is) b e=true):ag6 k who n a m o is b e=([],2):=by
 rw [ato h,if_pos hn,if_pos hl]
theorem a8p{k who n a m o:Int}{is:Bool}{b e:List (List CD)}{L:List (List UInt8)}(h:(afj k is).isSome=true)(hn:((fF k is).all fun c=>inR (selV who n a m o c))=true)(hl:ad9 k who n a m o is (fF k is) (rF k is) b e=false)(hL:acp (wF k is) (fF k is) who n a m o (fF k is).length++ajs (rF k is) b e=L)(hg:2200<(Lib.join L [32]).length):ag6 k who n a m o is b e=([],3):=by
 rw [ato h,if_pos hn,if_neg (by rw [hl];decide),hL,if_pos hg]
theorem bm7{k who n a m o:Int}{is:Bool}{b e:List (List CD)}{L:List (List UInt8)}(h:(afj k is).isSome=true)(hn:((fF k is).all fun c=>inR (selV who n a m o c))=true)(hl:ad9 k who n a m o is (fF k is) (rF k is) b e=false)(hL:acp (wF k is) (fF k is) who n a m o (fF k is).length++ajs (rF k is) b e=L)(hg:¬ 2200<(Lib.join L [32]).length):ag6 k who n a m o is b e=(Lib.join L [32],0):=by
 rw [ato h,if_pos hn,if_neg (by rw [hl];decide),hL,if_neg hg]
theorem b0m{c:CD}(h:Typ (.int .u8) c):c=vInt .u8 c.iv:=by
 obtain⟨m,u,n,rfl,_⟩:=h
 rfl
theorem byx{b:Bool}{r:List (List CD)}{n:Nat}(h:r.length≤n)(hn:n≤2500):((CD.sl b r).len:Int)≤2500:=by
 show((clip r.length:Nat):Int)≤2500
 unfold clip
 omega
theorem bmk{l:List UInt8}(h:l.length≤40000):((tx l).slen:Int)≤40000:=by
 rw [akk (by unfold maxN;omega)]
 omega
theorem a94{w F:List UInt8}{who n a m o:Int}{i:Nat}{r:List (List CD)}(hF:F.length≤4)(hr:CD.sl (false&&r.isEmpty) r=CD.sl false ((acp w F who n a m o i).map afz))(t:List (List CD))(ht:t.length≤1):((CD.sl (false&&(r++t).isEmpty) (r++t)).len:Int)≤2500:=by
 have hr:r=_:=(CD.sl.inj hr).2
 refine byx (n:=6) ?_ (by decide)
 rw [List.length_append,hr,List.length_map]
 have:=a9p (w:=w) (F:=F) (who:=who) (n:=n) (a:=a) (m:=m) (o:=o) (i:=i)
 omega
theorem a0t{w F:List UInt8}{who n a m o:Int}{i:Nat}{r:List (List CD)}(hF:F.length≤4)(hw:w.length≤6)(hr:CD.sl (false&&r.isEmpty) r=CD.sl false ((acp w F who n a m o i).map afz))(hb:(F.take i).all (fun c=>inR (selV who n a m o c))=true)(T:List (List UInt8))(h1:T.length≤1)(h2:∀ x∈T,x.length≤5000):((tx (Lib.join ((r++T.map afz).map asw) (by' (CD.v (.string ⟨⟨[32]⟩⟩))))).slen:Int)≤40000:=by
 have hr:r=_:=(CD.sl.inj hr).2
 refine bmk ?_
 rw [by_v,hr,← List.map_append,bl7]
 have h3:=join_le (B:=5000) (L:=acp w F who n a m o i++T) (fun x hx=>by
  rcases List.mem_append.1 hx with hx | hx
  ·have:=bg9 hw hb x hx;omega
  ·exact h2 x hx)
 have h4:=a9p (w:=w) (F:=F) (who:=who) (n:=n) (a:=a) (m:=m) (o:=o) (i:=i)
 rw [List.length_append] at h3
 have h6:((acp w F who n a m o i).length+T.length)*(5000+1)≤6*5001:=Nat.mul_le_mul (by omega) (by omega)
 have h7:(Lib.join (acp w F who n a m o i++T) [32]).length≤6*5001:=Nat.le_trans h3 h6
 show(Lib.join _ [32]).length≤40000
 omega
section
variable {k who n a m o:Int} {is:Bool} {b e:List (List CD)} {R:Row5}
theorem bzh(hS:¬ (afj k is).isSome=true):[[tx (ag6 k who n a m o is b e).1],[vInt .i64 (ag6 k who n a m o is b e).2]]=[[CD.v (.string ⟨⟨[]⟩⟩)],[vInt .i64 2]]:=by
 rw [bm6 hS]
 rfl
theorem ak9{i:Int}(hR:frow k is=R)(hS:(afj k is).isSome=true)(h0:0≤i)(hi:i<(R.2.2.2.1.length:Int)){x:Int}(hx:selV who n a m o (R.2.2.2.1.getD i.toNat 0)=x)(hb:inR x=false):[[tx (ag6 k who n a m o is b e).1],[vInt .i64 (ag6 k who n a m o is b e).2]]=[[CD.v (.string ⟨⟨[]⟩⟩)],[vInt .i64 2]]:=by
 rw [bez hS (by unfold fF;rw [hR];exact bpu h0 hi (by rw [hx];exact hb))]
 rfl
theorem bqb{i:Int}(hR:frow k is=R)(hS:(afj k is).isSome=true)(hn:((R.2.2.2.1.take i.toNat).all fun c=>inR (selV who n a m o c))=true)(hi:¬ i<(R.2.2.2.1.length:Int))(hl:ad9 k who n a m o is R.2.2.2.1 R.2.2.2.2 b e=true):[[tx (ag6 k who n a m o is b e).1],[vInt .i64 (ag6 k who n a m o is b e).2]]=[[CD.v (.string ⟨⟨[]⟩⟩)],[vInt .i64 2]]:=by
 rw [a0x hi] at hn
 rw [a8o hS (by unfold fF;rw [hR];exact hn) (by unfold fF rF;rw [hR];exact hl)]
 rfl
theorem bnn{w F:List UInt8}{i:Int}(hi:¬ i<(F.length:Int)):acp w F who n a m o i.toNat=acp w F who n a m o F.length:=by
 unfold acp
 rw [a0x hi,List.take_length]
theorem join_eq{w F:List UInt8}{i:Int}{r:List (List CD)}(hr:CD.sl (false&&r.isEmpty) r=CD.sl false ((acp w F who n a m o i.toNat).map afz))(hi:¬ i<(F.length:Int))(T:List (List UInt8)):Lib.join ((r++T.map afz).map asw) (by' (CD.v (.string ⟨⟨[32]⟩⟩)))=Lib.join (acp w F who n a m o F.length++T) [32]:=by
 have hr:r=_:=(CD.sl.inj hr).2
 rw [by_v,hr,← List.map_append,bl7,bnn hi]
theorem a3l{l:List UInt8}:((2200:Int)<(tx l).slen)=(2200<l.length):=by
 show((2200:Int)<((clip l.length:Nat):Int))=_
 rw [eq_iff_iff]
 unfold clip maxN
 omega
theorem a1v{i:Int}(hR:frow k is=R)(hS:(afj k is).isSome=true)(hn:((R.2.2.2.1.take i.toNat).all fun c=>inR (selV who n a m o c))=true)(hi:¬ i<(R.2.2.2.1.length:Int))(hl:ad9 k who n a m o is R.2.2.2.1 R.2.2.2.2 b e=false){T:List (List UInt8)}(hT:ajs R.2.2.2.2 b e=T)(hg:(2200:Int)<(tx (Lib.join (acp R.1 R.2.2.2.1 who n a m o R.2.2.2.1.length++T) [32])).slen):[[tx (ag6 k who n a m o is b e).1],[vInt .i64 (ag6 k who n a m o is b e).2]]=[[CD.v (.string ⟨⟨[]⟩⟩)],[vInt .i64 3]]:=by
 rw [a0x hi] at hn
 rw [a3l] at hg
 rw [a8p hS (by unfold fF;rw [hR];exact hn) (by unfold fF rF;rw [hR];exact hl) (L:=acp R.1 R.2.2.2.1 who n a m o R.2.2.2.1.length++T) (by unfold fF wF rF;rw [hR,hT]) hg]
 rfl
theorem bzi{i:Int}(hR:frow k is=R)(hS:(afj k is).isSome=true)(hn:((R.2.2.2.1.take i.toNat).all fun c=>inR (selV who n a m o c))=true)(hi:¬ i<(R.2.2.2.1.length:Int))(hl:ad9 k who n a m o is R.2.2.2.1 R.2.2.2.2 b e=false){T:List (List UInt8)}(hT:ajs R.2.2.2.2 b e=T)(hg:¬ (2200:Int)<(tx (Lib.join (acp R.1 R.2.2.2.1 who n a m o R.2.2.2.1.length++T) [32])).slen):[[tx (ag6 k who n a m o is b e).1],[vInt .i64 (ag6 k who n a m o is b e).2]]=[[tx (Lib.join (acp R.1 R.2.2.2.1 who n a m o R.2.2.2.1.length++T) [32])],[vInt .i64 0]]:=by
 rw [a0x hi] at hn
 rw [a3l] at hg
 rw [bm7 hS (by unfold fF;rw [hR];exact hn) (by unfold fF rF;rw [hR];exact hl) (L:=acp R.1 R.2.2.2.1 who n a m o R.2.2.2.1.length++T) (by unfold fF wF rF;rw [hR,hT]) hg]
end
theorem au2{ss:List Srt}{d:CD}(hT:Typ (.sl ss) d):((0:Int)<(d.len:Int))=(d.rows.isEmpty=false):=by
 rw [hT.sl.1,eq_iff_iff]
 cases d.rows with
 | nil=>simp
 | cons _ _=>simp
theorem bev{x:Int}{b e:List (List CD)}(h:x=98)(hb:b.isEmpty=false):ajs x b e=[hexT b]:=by
 unfold ajs
 rw [if_pos h,if_neg (by cases b with | nil=>cases hb | cons _ _=>simp)]
theorem a3s{x:Int}{b e:List (List CD)}(h:x=98)(hb:¬ b.isEmpty=false):ajs x b e=[]:=by
 unfold ajs
 rw [if_pos h,if_pos (by cases b with | nil=>rfl | cons _ _=>exact absurd rfl hb)]
theorem bew{x:Int}{b e:List (List CD)}(h:x=107)(hb:e.isEmpty=false):ajs x b e=[markT e]:=by
 unfold ajs
 rw [if_neg (by omega),if_pos h,if_neg (by cases e with | nil=>cases hb | cons _ _=>simp)]
theorem a3t{x:Int}{b e:List (List CD)}(h:x=107)(hb:¬ e.isEmpty=false):ajs x b e=[]:=by
 unfold ajs
 rw [if_neg (by omega),if_pos h,if_pos (by cases e with | nil=>rfl | cons _ _=>exact absurd rfl hb)]
theorem bex{x:Int}{b e:List (List CD)}(h:¬ x=98)(h':¬ x=107):ajs x b e=[]:=by
 unfold ajs
 rw [if_neg h,if_neg h']
end Go.Proofs.YtamhchkknlbanaaDoor.Be

namespace Go.Proofs.YtamhchkknlbanaaDoor.Be
open Go.Sx Go.Proofs
theorem bjd(r:List CD)(b:List (List CD)):hexT (r::b)=hexC ((ada r).toNat / 16)::hexC ((ada r).toNat % 16)::hexT b:=rfl
theorem an8(b:List (List CD)):(hexT b).length=2*b.length:=by
 induction b with
 | nil=>rfl
 | cons r b ih =>
  rw [bjd]
  simp only [List.length_cons,ih]
  omega
end Go.Proofs.YtamhchkknlbanaaDoor.Be

namespace Go.Proofs.YtamhchkknlbanaaDoor.Be
open Go.Sx Go.Proofs
noncomputable def bn5:Fsp:=⟨[(false,[sYs])],[.ap .le [.ap .len [.var 0],I 2500]],[(false,[.str])],[([],[[.ap (.usr 298) [.var 0]]])],true⟩
noncomputable def lp37:Lp:=⟨[(.slot 3,.str),(.slot 4,.int .i64)],[0,2],[],fun F H k=>[.ap .le [zI,.var (k+1)],.ap .le [.var (k+1),.ap .len [.var 0]],.ap .same [.var k,.ap (.usr 301) [.var 0,.var (k+1)]],.ap .le [.ap .slen [.var k],.ap (.mul .i64) [I 2,.var (k+1)]]],fun F H k=>.ap (.sub .i64) [.ap .len [.var 0],.var (k+1)]⟩
abbrev hxX:X:=.lit (.string ⟨⟨[48,49,50,51,52,53,54,55,56,57,97,98,99,100,101,102]⟩⟩)
noncomputable def nX1(F:Fm):X:=.ap (.wr .i64) [.ap (.cast .i64) [.ap (.cell 0) [.var 0,sx F 4]]]
noncomputable def qX1(F:Fm):X:=.ap (.bin .quo .i64) [nX1 F,I 16]
noncomputable def rX1(F:Fm):X:=.ap (.bin .rem .i64) [nX1 F,I 16]
noncomputable def as37:Fm→HP→List X:=fun F H=>[.ap .le [I 16,.ap .slen [hxX]],.ap .le [zI,qX1 F],.ap .le [qX1 F,I 15],.ap .le [zI,rX1 F],.ap .le [rX1 F,I 15],.ap .le [.ap .slen [.ap .ssub [hxX,qX1 F,.ap (.add .i64) [qX1 F,I 1]]],I 1],.ap .le [.ap .slen [.ap .ssub [hxX,rX1 F,.ap (.add .i64) [rX1 F,I 1]]],I 1],.ap .le [.ap .slen [.ap (.sbin .add) [sx F 3,.ap .ssub [hxX,qX1 F,.ap (.add .i64) [qX1 F,I 1]]]],I 5001]]
abbrev bec:X:=(.ap (.wr .i64) [(.ap (.cast .i64) [(.ap (.cell 0) [(.var 0),(.var 2)])])])
abbrev ajn:X:=(.ap .lt [(.var 2),(.ap .len [(.var 0)])])
abbrev a7q:X:=(.ap .le [(I 16),(.ap .slen [(.lit (.string (.mk (.mk [48,49,50,51,52,53,54,55,56,57,97,98,99,100,101,102]))))])])
abbrev amr:X:=(.ap (.bin .quo .i64) [bec,(I 16)])
abbrev asi:X:=(.ap .ssub [(.lit (.string (.mk (.mk [48,49,50,51,52,53,54,55,56,57,97,98,99,100,101,102])))),amr,(.ap (.add .i64) [amr,(I 1)])])
abbrev ams:X:=(.ap (.bin .rem .i64) [bec,(I 16)])
abbrev av7:X:=(.ap .ssub [(.lit (.string (.mk (.mk [48,49,50,51,52,53,54,55,56,57,97,98,99,100,101,102])))),ams,(.ap (.add .i64) [ams,(I 1)])])
abbrev a7r:X:=(.ap .le [(.ap .slen [(.ap (.sbin .add) [(.var 1),asi])]),(I 5001)])
abbrev ajm:List X:=[(.ap .le [(I 0),(.var 2)]),(.ap .le [(.var 2),(.ap .len [(.var 0)])]),(.ap .same [(.var 1),(.ap (.usr 301) [(.var 0),(.var 2)])]),(.ap .le [(.ap .slen [(.var 1)]),(.ap (.mul .i64) [(I 2),(.var 2)])]),(.ap (.typ (.sl [(.int .u8)])) [(.var 0)]),(.ap .le [(.ap .len [(.var 0)]),(I 2500)])]
set_option maxRecDepth 100000 in
def bv6:List VC:=[([(.ap (.typ (.sl [(.int .u8)])) [(.var 0)]),(.ap .le [(.ap .len [(.var 0)]),(I 2500)])],(.ap .same [(.lit (.string (.mk (.mk [])))),(.ap (.usr 301) [(.var 0),(I 0)])])),
 ([(.ap (.typ (.sl [(.int .u8)])) [(.var 0)]),(.ap .le [(.ap .len [(.var 0)]),(I 2500)])],(.ap .le [(.ap .slen [(.lit (.string (.mk (.mk []))))]),(.ap (.mul .i64) [(I 2),(I 0)])])),
 ((ajn::ajm),a7q),
 ((ajn::ajm),(.ap .le [(I 0),amr])),
 ((ajn::ajm),(.ap .le [amr,(I 15)])),
 ((ajn::ajm),(.ap .le [(I 0),ams])),
 ((ajn::ajm),(.ap .le [ams,(I 15)])),
 ((ajn::ajm),(.ap .le [(.ap .slen [asi]),(I 1)])),
 ((ajn::ajm),(.ap .le [(.ap .slen [av7]),(I 1)])),
 ((ajn::ajm),a7r),
 ((a7q::(.ap .le [(I 0),amr])::(.ap .le [amr,(I 15)])::(.ap .le [(I 0),ams])::(.ap .le [ams,(I 15)])::(.ap .le [(.ap .slen [asi]),(I 1)])::(.ap .le [(.ap .slen [av7]),(I 1)])::a7r::ajn::ajm),(.ap .same [(.ap (.sbin .add) [(.ap (.sbin .add) [(.var 1),asi]),av7]),(.ap (.usr 301) [(.var 0),(.ap (.add .i64) [(.var 2),(I 1)])])])),
 ((a7q::(.ap .le [(I 0),amr])::(.ap .le [amr,(I 15)])::(.ap .le [(I 0),ams])::(.ap .le [ams,(I 15)])::(.ap .le [(.ap .slen [asi]),(I 1)])::(.ap .le [(.ap .slen [av7]),(I 1)])::a7r::ajn::ajm),(.ap .le [(.ap .slen [(.ap (.sbin .add) [(.ap (.sbin .add) [(.var 1),asi]),av7])]),(.ap (.mul .i64) [(I 2),(.ap (.add .i64) [(.var 2),(I 1)])])]))]
set_option maxRecDepth 100000 in
def bv5:List (List X×List (List X)):=[(((.ap .not [ajn])::ajm),[[(.var 1)]])]
set_option maxRecDepth 100000 in
theorem bz6:runS Tryd.prog (ahj T0) 10 20 ⟨afu [(3,lp37)],hintA [(5,as37)]⟩ Tryd.f37 (acv Tryd.f37) bn5=some (bv6,bv5):=by kernel_rfl
theorem blc:((List.range 256).all fun n=>decide ((orV (adf .quo .i64 (IntKind.i64.wrap (n:Int)) 16)).iv=((n / 16:Nat):Int))&&decide ((orV (adf .rem .i64 (IntKind.i64.wrap (n:Int)) 16)).iv=((n % 16:Nat):Int)))=true:=by kernel_rfl
theorem b2g(b:UInt8):(orV (adf .quo .i64 (IntKind.i64.wrap ((b.toNat:Nat):Int)) 16)).iv=((b.toNat / 16:Nat):Int):=by
 have:=List.all_eq_true.1 blc b.toNat (List.mem_range.2 b.toNat_lt)
 rw [Bool.and_eq_true,decide_eq_true_eq] at this
 exact this.1
theorem b2k(b:UInt8):(orV (adf .rem .i64 (IntKind.i64.wrap ((b.toNat:Nat):Int)) 16)).iv=((b.toNat % 16:Nat):Int):=by
 have:=List.all_eq_true.1 blc b.toNat (List.mem_range.2 b.toNat_lt)
 rw [Bool.and_eq_true,decide_eq_true_eq,decide_eq_true_eq] at this
 exact this.2
abbrev hexD:CD:=.v (.string ⟨⟨[48,49,50,51,52,53,54,55,56,57,97,98,99,100,101,102]⟩⟩)
theorem btf:hexD.str.toList=[48,49,50,51,52,53,54,55,56,57,97,98,99,100,101,102]:=by
 show(ByteArray.mk _).toList=_
 rw [ByteArray.toList_eq]
theorem bmz{n:Nat}(h:n<16):subT hexD ((n:Nat):Int) (((n:Nat):Int)+1)=tx [hexC n]:=by
 unfold subT
 rw [btf,show(((n:Nat):Int)+1).toNat=n+1 by omega,Int.toNat_natCast]
 have:n=0∨n=1∨n=2∨n=3∨n=4∨n=5∨n=6∨n=7∨n=8∨n=9∨n=10∨n=11∨n=12∨n=13∨n=14∨n=15:=by omega
 rcases this with rfl | rfl | rfl | rfl | rfl | rfl | rfl | rfl | rfl | rfl | rfl | rfl | rfl | rfl | rfl | rfl<;>rfl
theorem bxu{d:CD}{i:Int}(hT:Typ sYs d)(h0:0≤i)(hi:i<(d.len:Int)):∃ b:UInt8,d.cell i 0=vInt .u8 (b.toNat:Nat)∧hexT (d.rows.take (i+1).toNat)=hexT (d.rows.take i.toNat)++aus b:=by
 obtain⟨_,_,z,hz,_,h3⟩:=hT.cell h0 hi (j:=0) rfl
 rw [hT.sl.1] at hi
 have hz1:0≤z∧z≤255:=by
  simp only [ab6,Bool.and_eq_true,decide_eq_true_eq] at h3
  exact h3
 have hlt:i.toNat<d.rows.length:=by omega
 refine⟨UInt8.ofNat z.toNat,?_,?_⟩
 ·rw [hz,UInt8.toNat_ofNat']
  show CD.v (.int .u8 z)=CD.v (.int .u8 _)
  congr 2
  omega
 ·rw [show(i+1).toNat=i.toNat+1 by omega,List.take_add_one,List.getElem?_eq_getElem hlt]
  unfold hexT
  rw [List.map_append,List.flatMap_append]
  congr 1
  show(ada d.rows[i.toNat]::[]).flatMap aus=_
  have e:ada d.rows[i.toNat]=UInt8.ofNat z.toNat:=by
   have h2:d.cell i 0=(d.rows[i.toNat]).getD 0 default:=by
    show(d.rows.getD i.toNat []).getD 0 default=_
    have:d.rows.getD i.toNat []=d.rows[i.toNat]:=by
     rw [List.getD_eq_getElem?_getD,List.getElem?_eq_getElem hlt]
     rfl
    rw [this]
   unfold ada
   rw [← h2,hz]
   rfl
  rw [e]
  simp
theorem bmj:(16:Int)≤(hexD.slen:Int):=by
 show(16:Int)≤((clip 16:Nat):Int)
 unfold clip maxN
 omega
theorem bwn{A:List UInt8}{x:UInt8}(h:A.length≤5000):orV (strA .add (tx A).str (tx [x]).str)=tx (A++[x]):=a4w (by simp only [List.length_cons,List.length_nil];omega)
set_option maxHeartbeats 1000000 in
set_option maxRecDepth 100000 in
theorem b25:abk U Tryd.prog 37 bn5:=by
  refine abk.of (P:=Tryd.prog) (U:=U) (T:=T0) (f:=37) (fn:=Tryd.f37) (fuel:=10) (fk:=20) (hs:=⟨afu [(3,lp37)],hintA [(5,as37)]⟩) (S:=bn5) (v:=bv6) (outs:=bv5) mixed hT0 at37 bz6 ?_ ?_
  · unfold bv6
    repeat' (first | exact ae1 _ | refine ae3 (fun v hh=>?_) ?_)
    all_goals
      simp only [aay,aa5,aax,aa4,aa3,abr,abf,aam,w_wr,b_lt,b_le,b_eq,aaz,abl,b_or,aa1,aaj,aag,abp,abd,aal,aan,aa2,w_mk,aao,aa9,abo,abj,abg,aa6,aa8,abq,aa0,aau,abe,w_l0,w_l1,aaf,aae,aaw,aac,aad,aak,aai,aaq,aar,aas,aap,abn,abm,aat,abh,w_eq,bnl,a9k,ajm,bec,ajn,a7q,amr,asi,ams,av7,a7r,aa7] at hh ⊢
    · rfl
    · exact sl0 (by decide)
    all_goals
      have hT:Typ sYs (v 0):=by simp only [hh]
      have hl:((v 0).len:Int)≤2500:=by simp only [hh]
      have h0:0≤(v 2).iv:=by simp only [hh]
      have hi:(v 2).iv<((v 0).len:Int):=by simp only [hh]
      have h1:v 1=tx (hexT ((v 0).rows.take (v 2).iv.toNat)):=by simp only [hh]
      obtain⟨b,hb,hn⟩:=bxu hT h0 hi
      have hA:(hexT ((v 0).rows.take (v 2).iv.toNat)).length=2*(v 2).iv.toNat:=by
        rw [an8,List.length_take]
        have:=hT.sl.1
        omega
      clear hh
      try simp only [hb,aaf,b2g,b2k,h1,hn,bmz (show b.toNat / 16<16 by have:=b.toNat_lt;omega),bmz (show b.toNat % 16<16 by omega)]
      generalize hexT ((v 0).rows.take (v 2).iv.toNat)=A at hA ⊢
      have hb1:=b.toNat_lt
      first
      | exact bmj
      | omega
      | (show((1:Nat):Int)≤1;omega)
      | (rw [bwn (by omega),akk (by rw [List.length_append];unfold maxN;simp only [List.length_cons,List.length_nil];omega),List.length_append]
         simp only [List.length_cons,List.length_nil]
         omega)
      | (rw [bwn (by omega),a4w (by simp only [List.length_append,List.length_cons,List.length_nil];omega),List.append_assoc];rfl)
      | (rw [bwn (by omega),a4w (by simp only [List.length_append,List.length_cons,List.length_nil];omega),akk (by simp only [List.length_append,List.length_cons,List.length_nil];unfold maxN;omega)]
         simp only [List.length_append,List.length_cons,List.length_nil]
         omega)
  · intro o ho σ hU hh
    obtain⟨v⟩:=σ
    cases hU
    simp only [bv5,List.mem_cons,List.not_mem_nil,or_false] at ho
    subst ho
    refine⟨_,List.mem_cons_self ..,by simp only [aay,aa5,aax,aa4,aa3,abr,abf,aam,w_wr,b_lt,b_le,b_eq,aaz,abl,b_or,aa1,aaj,aag,abp,abd,aal,aan,aa2,w_mk,aao,aa9,abo,abj,abg,aa6,aa8,abq,aa0,aau,abe,w_l0,w_l1,aaf,aae,aaw,aac,aad,aak,aai,aaq,aar,aas,aap,abn,abm,aat,abh],?_⟩
    simp only [aay,aa5,aax,aa4,aa3,abr,abf,aam,w_wr,b_lt,b_le,b_eq,aaz,abl,b_or,aa1,aaj,aag,abp,abd,aal,aan,aa2,w_mk,aao,aa9,abo,abj,abg,aa6,aa8,abq,aa0,aau,abe,w_l0,w_l1,aaf,aae,aaw,aac,aad,aak,aai,aaq,aar,aas,aap,abn,abm,aat,abh,w_eq,a9k,ajm,bec,ajn,a7q,amr,asi,ams,av7,a7r,aa7] at hh
    simp only [List.map_cons,List.map_nil,aay,aa5,aax,aa4,aa3,abr,abf,aam,w_wr,b_lt,b_le,b_eq,aaz,abl,b_or,aa1,aaj,aag,abp,abd,aal,aan,aa2,w_mk,aao,aa9,abo,abj,abg,aa6,aa8,abq,aa0,aau,abe,w_l0,w_l1,aaf,aae,aaw,aac,aad,aak,aai,aaq,aar,aas,aap,abn,abm,aat,abh,w_lt,w_le,w_eq,ao0,as0,w_or,akp,aiw,ao1,acj]
    have hT:Typ sYs (v 0):=by simp only [hh]
    have hi:¬ (v 2).iv<((v 0).len:Int):=hh.1
    have h1:v 1=tx (hexT ((v 0).rows.take (v 2).iv.toNat)):=by simp only [hh]
    rw [hT.sl.1] at hi
    rw [h1,List.take_of_length_le (by omega)]
end Go.Proofs.YtamhchkknlbanaaDoor.Be
