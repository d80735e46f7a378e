/-
  A list, lent with room behind it, and whether it was kept: marks. Conditions: none.
-/
import Derived.Test.YtamhchkknlbanaaDoorBeH
import Derived.Test.YtamhchkknlbanaaDoorBeD
import Derived.Test.YtamhchkknlbanaaDoorBtB
import Derived.OwnWalk
import Derived.Laws.CopyOwn
import Derived.Laws.BytesArg
import Derived.Laws.Rows
import Derived.Deep.RegionHeld3
set_option linter.unusedSectionVars false
set_option linter.unusedVariables false
set_option linter.unusedSimpArgs false
namespace Go.Proofs.YtamhchkknlbanaaDoor.Be
open Go.Sx Go.Proofs Go.RowKit Go.Lib
theorem ak2{w w':World}(h:Below w.heap.size w w'):Keep w w':=⟨h.block,h.size,h.os,h.tape,h.output⟩
theorem abk.calls{P:Program}{U:Us}{f:FuncId}{S:Fsp}(hc:∀ us w,(callFunc f us).run P w=.ok (.enter f us) w)
  (h:∀ (v:Nat→CD) (m:Mem) (w:World) (us:List Value),TW w→(∀ k o,m k o→w.heap[k]? = some o)→akt m S.args ((axb 0 S.args).map (@denL ⟨v⟩)) us→@Holds (@Sg.mk U v) S.pre →
   Calls P f us.toArray w fun e w'=>∃ u,e=.returned u∧Keep w w'∧∃ o∈S.outs,@Holds (@Sg.mk U v) o.1∧ResR (fun k ob=>(w.heap.size≤k∧w'.heap[k]? = some ob∧Nice ob)∨(S.fresh=false∧m k ob)) S.res (o.2.map (@denL (@Sg.mk U v))) u):abk U P f S:=by
 intro σ hU m w us htw hm hargs hpre
 obtain⟨v⟩:=σ
 cases hU
 rw [hc]
 have:=h v m w us.toList htw hm hargs hpre
 rw [Array.toArray_toList] at this
 exact this
theorem by_v(s:ByteArray):by' (.v (.string s))=s.data.toList:=by
 show s.toList=_
 rw [ByteArray.toList_eq]
theorem holds_nil(v:Nat→CD):@Holds (@Sg.mk U v) []:=fun x hx=>by cases hx
theorem bwb{m:Mem}{l:List UInt8}(h:l.length≤maxN):RS m .str (tx l) (.string ⟨l.toArray⟩):=⟨⟨l.toArray⟩,rfl,rfl,h⟩
theorem bsw{m:Mem}{k:IntKind}{z:Int}(h:ab6 (.int k z)=true):RS m (.int k) (vInt k z) (.int k z):=⟨z,rfl,rfl,h⟩
theorem bwa{m:Mem}{b:Bool}:RS m .bool (aav b) (.bool b):=⟨b,rfl,rfl⟩
theorem an9{n:Int}(h0 : -9223372036854775808≤n)(h1:n≤9223372036854775807):(Lib.itoa n).length≤20:=by
 unfold Lib.itoa
 split
 ·have:=bb7 18 n.natAbs (by omega)
  rw [List.length_cons]
  omega
 ·have:=bb7 18 n.toNat (by omega)
  omega
theorem bjj{n:Int}(h:ab6 (.int .i64 n)=true) : -9223372036854775808≤n∧n≤9223372036854775807:=by
 simp only [ab6,Bool.and_eq_true,decide_eq_true_eq] at h
 exact h
noncomputable def bxf:Fsp:=⟨[(false,[sI])],[],[(false,[.str])],[([],[[.ap (.usr 251) [.var 0]]])],true⟩
set_option maxRecDepth 100000 in
theorem b2x:abk U Tryd.prog 30 bxf:=by
 refine abk.calls Tryd.call30 fun v m w us htw hm hargs _=>?_
 cases us with
 | nil=>exact hargs.elim
 | cons u r =>
 obtain⟨h1,h2⟩:=hargs
 cases r with
 | cons _ _=>exact h2.elim
 | nil =>
  obtain⟨n,e1,rfl,h3⟩:RS m sI (v 0) u:=h1
  have g:=(bjj h3)
  have g0:=g.1
  have g1:=g.2
  refine(ayj n g0 g1 w htw).mono ?_
  rintro e w' ⟨rfl,hb⟩
  refine⟨_,rfl,ak2 hb,_,List.mem_singleton.2 rfl,holds_nil v,[_],⟨?_,trivial⟩,rfl⟩
  show RS m .str (tx (Lib.itoa (v 0).iv)) _
  rw [e1,aax]
  exact bwb (m:=m) (by have:=an9 g0 g1;unfold maxN;omega)
noncomputable def bxg:Fsp:=⟨[(false,[.str])],[.ap .le [.ap .slen [.var 0],I 2500]],[(false,[sI]),(false,[.bool])],[([],[[.ap (.usr 250) [.var 0]],[.ap (.usr 202) [.var 0]]])],true⟩
theorem bqk:∀ {l:List UInt8},-9223372036854775808≤aip l∧aip l≤9223372036854775807:=by
 intro l
 unfold aip
 split
 ·rename_i v hv
  unfold Lib.atoiAll at hv
  cases l with
  | nil=>cases hv
  | cons c r =>
   simp only at hv
   split at hv
   ·cases hv
   ·cases hv
   ·rename_i u hu
    split at hv
    ·cases hv
    ·split at hv
     ·cases hv
     ·cases hv
      split<;>omega
 ·omega
 ·unfold Lib.atoiSat
  split<;>omega
theorem bq2{s:ByteArray}{d:CD}{v:Nat→CD}(e:v 0=.v (.string s))(hs:s.size≤maxN)(h:@Holds (@Sg.mk U v) [.ap .le [.ap .slen [.var 0],I 2500]]):s.size≤2500:=by
 have:=h _ (List.mem_singleton.2 rfl)
 have:decide (((v 0).slen:Int)≤2500)=true:=this
 rw [decide_eq_true_eq,e] at this
 have:((clip s.size:Nat):Int)≤2500:=this
 rw [aek hs] at this
 omega
set_option maxRecDepth 100000 in
theorem b27:abk U Tryd.prog 44 bxg:=by
 refine abk.calls Tryd.call44 fun v m w us htw hm hargs hpre=>?_
 match us,hargs with
 | [u],⟨h1,_⟩ =>
  obtain⟨s,e1,rfl,h3⟩:RS m .str (v 0) u:=h1
  have hs:=bq2 (d:=default) e1 h3 hpre
  refine(a6o s (by omega) w htw).mono ?_
  rintro e w' ⟨rfl,hb⟩
  refine⟨_,rfl,ak2 hb,_,List.mem_singleton.2 rfl,holds_nil v,[.int .i64 (aip s.data.toList),.bool (nOk s.data.toList)],⟨?_,?_,trivial⟩,rfl⟩
  ·show RS m sI (vInt .i64 (aip (by' (v 0)))) _
   rw [e1,by_v]
   refine bsw (m:=m) ?_
   simp only [ab6,Bool.and_eq_true,decide_eq_true_eq]
   exact bqk
  ·show RS m .bool (aav (nOk (by' (v 0)))) _
   rw [e1,by_v]
   exact bwa (m:=m)
noncomputable def SIdx:Fsp:=⟨[(false,[.str]),(false,[.int .u8])],[],[(false,[sI])],[([],[[.ap (.usr 255) [.var 0,.var 1]]])],true⟩
theorem bjg(l:List UInt8)(c:UInt8) : -1≤Lib.indexByte l c∧Lib.indexByte l c≤l.length:=by
 induction l with
 | nil=>exact⟨Int.le_refl _,by show(-1:Int)≤0;decide⟩
 | cons b l ih =>
  unfold Lib.indexByte
  rw [List.length_cons]
  split
  ·omega
  ·split<;>omega
set_option maxRecDepth 100000 in
theorem b28:abk U Tryd.prog 47 SIdx:=by
 refine abk.calls Tryd.call47 fun v m w us htw hm hargs hpre=>?_
 match us,hargs with
 | [u,u'],⟨h1,h2,_⟩ =>
  obtain⟨s,e1,rfl,h3⟩:RS m .str (v 0) u:=h1
  obtain⟨n,e2,rfl,h4⟩:RS m (.int .u8) (v 1) u':=h2
  have hs:s.size≤9223372036854775807:=h3
  refine(Any.strings_IndexByte Tryd.lays137 s n w).mono ?_
  rintro e w' ⟨rfl,rfl⟩
  refine⟨_,rfl,ak2 (Below.refl _ _),_,List.mem_singleton.2 rfl,holds_nil v,[_],⟨?_,trivial⟩,rfl⟩
  show RS m sI (vInt .i64 (Lib.indexByte (by' (v 0)) (v 1).iv.toNat.toUInt8)) _
  rw [e1,e2,by_v]
  refine bsw (m:=m) ?_
  have:=bjg s.data.toList n.toNat.toUInt8
  have hl:s.data.toList.length=s.size:=rfl
  rw [aax]
  generalize Lib.indexByte s.data.toList n.toNat.toUInt8=q at this ⊢
  simp only [ab6,Bool.and_eq_true,decide_eq_true_eq]
  show -9223372036854775808≤q∧q≤(9223372036854775807:Int)
  omega
noncomputable def brv:Fsp:=⟨[(false,[.str]),(false,[.str])],[.ap .le [.ap .slen [.var 0],I 2500],.ap .same [.var 1,.lit (.string ⟨⟨[32]⟩⟩)]],[(false,[.sl [.str]])],[([],[[.ap (.usr 252) [.var 0]]])],true⟩
theorem bfv{v:Nat→CD}{l:List X}{a b:X}(h:@Holds (@Sg.mk U v) l)(hm:.ap .same [a,b]∈l):@den (@Sg.mk U v) a=@den (@Sg.mk U v) b:=by
 have:(@den (@Sg.mk U v) (.ap .same [a,b])).bv=true:=h _ hm
 rwa [@aaj (@Sg.mk U v)] at this
theorem atd{v:Nat→CD}{l:List X}{a b:X}(h:@Holds (@Sg.mk U v) l)(hm:.ap .le [a,b]∈l):(@den (@Sg.mk U v) a).iv≤(@den (@Sg.mk U v) b).iv:=by
 have:(@den (@Sg.mk U v) (.ap .le [a,b])).bv=true:=h _ hm
 rwa [@b_le (@Sg.mk U v)] at this
theorem awy{s:ByteArray}{d:CD}(e:d=.v (.string s))(hs:s.size≤maxN):(d.slen:Int)=s.size:=by
 rw [e]
 show((clip s.size:Nat):Int)=s.size
 rw [aek hs]
theorem bfo(l:List ByteArray)(t:TypeId):Nice (.cells (l.map Value.string).toArray t (0,0)):=by
 refine⟨_,_,_,rfl,?_,false,fun j u hu=>?_⟩
 ·exact .inl rfl
 ·have hu:(l.map Value.string)[j]? = some u:=by simpa using hu
  rw [List.getElem?_map] at hu
  cases hl:l[j]? with
  | none=>rw [hl] at hu;cases hu
  | some s=>rw [hl] at hu;cases hu;rfl
set_option maxRecDepth 100000 in
theorem b26:abk U Tryd.prog 40 brv:=by
 refine abk.calls Tryd.call40 fun v m w us htw hm hargs hpre=>?_
 match us,hargs with
 | [u,u'],⟨h1,h2,_⟩ =>
  obtain⟨s,e1,rfl,h3⟩:RS m .str (v 0) u:=h1
  obtain⟨s',e2,rfl,h4⟩:RS m .str (v 1) u':=h2
  have hs:((v 0).slen:Int)≤2500:=atd hpre (List.mem_cons_self ..)
  rw [awy e1 h3] at hs
  have he:v 1=.v (.string ⟨⟨[32]⟩⟩):=bfv hpre (List.mem_cons_of_mem _ (List.mem_singleton.2 rfl))
  rw [he] at e2
  cases e2
  obtain⟨mx,hmx⟩:=b0k htw
  refine(Any.strings_Split Tryd.lays146 (by kernel_rfl) s ⟨⟨[32]⟩⟩ mx w (by omega) hmx (by decide)).mono ?_
  rintro e w' ⟨rfl,rfl⟩
  have hw:=ba7 s
  refine⟨_,rfl,ak2 ((Below.refl _ w).alloc (Nat.le_refl _) _),_,List.mem_singleton.2 rfl,holds_nil v,[_],⟨?_,trivial⟩,rfl⟩
  generalize hbs:Lib.splitB (ByteArray.mk ⟨[32]⟩) 0 (Lib.countB s (ByteArray.mk ⟨[32]⟩)) s=bs at hw ⊢
  have hbl:bs.length=Lib.countB s (ByteArray.mk ⟨[32]⟩)+1:=by rw [← hbs];exact Lib.splitB_all _ (by decide) 0 _ s rfl
  have hcl:Lib.countB s (ByteArray.mk ⟨[32]⟩)≤s.size:=Lib.countB_le _ (by decide) s.size s (Nat.le_refl _)
  have hrows:ab8 (line (v 0))=bs.map fun b=>[CD.v (.string b)]:=by
   have hln:line (v 0)=s.data.toList++[32]:=by rw [e1];unfold line;rw [by_v]
   have hws:(st (line (v 0))).1=bs.map fun b=>b.data.toList:=by rw [hln,hw]
   unfold ab8
   rw [hws,List.map_map]
   refine List.map_congr_left fun b _=>?_
   rfl
  have e:@denL (@Sg.mk U v) [X.ap (Fs.usr 252) [X.var 0]]=[CD.sl false (ab8 (line (v 0)))]:=rfl
  rw [e,hrows]
  refine .inr (.inl ⟨bs.map fun b=>[CD.v (.string b)],w.heap.size,0,_,rfl,by rw [List.length_map,hbl],by rw [List.length_map,hbl];exact Nat.le_refl _,by unfold maxN;omega,fun _=>⟨(bs.map Value.string).toArray,Tryd.lays146_ren.t 9,(0,0),.inl ⟨Nat.le_refl _,?_,bfo bs _⟩,fun i row hi=>?_⟩⟩)
  ·show(w.heap.push _)[w.heap.size]? = _
   simp
  ·rw [List.getElem?_map] at hi
   cases hb:bs[i]? with
   | none=>rw [hb] at hi;cases hi
   | some b =>
    rw [hb] at hi
    cases hi
    have hsz:b.size≤maxN:=by
     have hm:b.data.toList∈(st (line (v 0))).1:=by
      have hln:line (v 0)=s.data.toList++[32]:=by rw [e1];unfold line;rw [by_v]
      rw [hln,← hw]
      exact List.mem_map.2 ⟨b,List.mem_of_getElem? hb,rfl⟩
     have:=(bmo (line (v 0)) ([],[]) 0 (fun w hw=>by cases hw) (Nat.le_refl 0)).1 _ hm
     have hln:(line (v 0)).length=s.size+1:=by
      rw [e1];unfold line;rw [by_v,List.length_append];rfl
     have hbz:b.data.toList.length=b.size:=rfl
     unfold maxN
     omega
    refine⟨_,[],.string b,rfl,?_,⟨b,rfl,rfl,hsz⟩,rfl⟩
    simp [hb]
def badR(r:Nat):Bool:=decide (r<33)||decide (126<r)
theorem btl(s:ByteArray)(p:Nat)(hp:p<s.size):(badR (Utf8.decode s p).1=badB (s.get! p))∧(badB (s.get! p)=false→(Utf8.decode s p).2=1):=by
 have hbig:∀ r:Nat,128≤r→badR r=true:=fun r hr=>by
  unfold badR
  rw [decide_eq_true (show 126<r by omega)]
  simp
 unfold Utf8.decode
 simp only [Nat.add_zero]
 by_cases h:(s.get! p).toNat<128
 ·rw [if_pos h]
  exact⟨rfl,fun _=>rfl⟩
 ·rw [if_neg h]
  have hb:badB (s.get! p)=true:=by
   unfold badB
   rw [decide_eq_true (show 126<(s.get! p).toNat by omega)]
   simp
  rw [hb]
  refine⟨?_,fun hh=>by cases hh⟩
  repeat' split
  all_goals first | exact hbig _ (by decide) | (rename_i hc;refine hbig _ ?_;first | omega | (simp only [ge_iff_le,Bool.and_eq_true,decide_eq_true_eq] at hc;omega))
theorem bcn(s:ByteArray):∀ (f p:Nat),s.size≤p+f→((0≤Lib.idxFuncFrom badR true s f p)↔∃ j,p≤j∧j<s.size∧badB (s.get! j)=true)
 | 0,p,h=>by
  show(0:Int)≤-1↔_
  exact⟨fun h=>by omega,fun⟨j,h1,h2,_⟩=>by omega⟩
 | f+1,p,h=>by
  unfold Lib.idxFuncFrom
  by_cases hp:p<s.size
  ·rw [if_pos hp]
   obtain⟨h1,h2⟩:=btl s p hp
   rw [h1]
   by_cases hb:badB (s.get! p)=true
   ·rw [if_pos hb]
    exact⟨fun _=>⟨p,Nat.le_refl _,hp,hb⟩,fun _=>by omega⟩
   ·rw [if_neg hb]
    rw [h2 (by simpa using hb)]
    rw [bcn s f (p+1) (by omega)]
    constructor
    ·rintro⟨j,a,b,c⟩
     exact⟨j,by omega,b,c⟩
    ·rintro⟨j,a,b,c⟩
     refine⟨j,?_,b,c⟩
     rcases Nat.lt_or_ge p j with g | g
     ·exact g
     ·have:j=p:=by omega
      subst this
      exact absurd c hb
  ·rw [if_neg hp]
   exact⟨fun h=>by omega,fun⟨j,a,b,_⟩=>by omega⟩
theorem bs6(s:ByteArray):decide (0≤Lib.idxFunc badR true s)=s.data.toList.any badB:=by
 rw [Bool.eq_iff_iff,decide_eq_true_eq]
 unfold Lib.idxFunc
 rw [bcn s s.size 0 (by omega),List.any_eq_true]
 constructor
 ·rintro⟨j,_,h2,h3⟩
  have hj:j<s.data.toList.length:=h2
  refine⟨s.data.toList[j],List.getElem_mem hj,?_⟩
  have:s.get! j=s.data.toList[j]:=by
   show s.data[j]! = _
   rw [getElem!_pos s.data j h2]
   simp
  rwa [← this]
 ·rintro⟨b,hb,h3⟩
  obtain⟨j,hj,rfl⟩:=List.getElem_of_mem hb
  refine⟨j,Nat.zero_le _,hj,?_⟩
  have:s.get! j=s.data.toList[j]:=by
   show s.data[j]! = _
   rw [getElem!_pos s.data j hj]
   simp
  rwa [this]
set_option maxRecDepth 100000 in
theorem bwu(w:World):PredAt Tryd.prog 42 #[] encR badR w:=fun W r _=>by
 unfold FnGives
 by_cases h1:r<33<;>by_cases h2:126<r
 all_goals
  have z1:(r:Int)<33↔r<33:=by omega
  have z2:126<(r:Int)↔126<r:=by omega
  go_enter Tryd.func42,Tryd.ntmps42
  go_wp2
  all_goals first | (exfalso;omega) | (go_ret;exact⟨by simp [h1,h2,badR],0,rfl⟩)
theorem axq(s:ByteArray)(w:World):Calls Tryd.prog 41 #[.string s,.func (.func 42) #[] #[]] w fun e w'=>e=.returned (.bool (s.data.toList.any badB))∧Below w.heap.size w w':=by
 rw [← bs6]
 exact Any.strings_ContainsFunc Tryd.laysGw17 42 #[] Tryd.call42 badR s w (bwu w)
end Go.Proofs.YtamhchkknlbanaaDoor.Be

set_option linter.all false
namespace Go.Proofs.YtamhchkknlbanaaDoor.Be
open Go.Sx Go.Proofs Go.RowKit Go.Lib
abbrev hexS:ByteArray:=⟨#[48,49,50,51,52,53,54,55,56,57,97,98,99,100,101,102]⟩
theorem bjc{n:Nat}(h:n<hexS.size):hexS[n]'h=hexC n:=by
 have h':n<16:=h
 have:n=0∨n=1∨n=2∨n=3∨n=4∨n=5∨n=6∨n=7∨n=8∨n=9∨n=10∨n=11∨n=12∨n=13∨n=14∨n=15:=by omega
 rcases this with rfl | rfl | rfl | rfl | rfl | rfl | rfl | rfl | rfl | rfl | rfl | rfl | rfl | rfl | rfl | rfl<;>rfl
theorem aut(l:List UInt8):(l.flatMap aus).length=2*l.length:=by
 induction l with
 | nil=>rfl
 | cons a l ih =>
  rw [List.flatMap_cons,List.length_append,ih,List.length_cons]
  show 2+_=_
  omega
set_option maxHeartbeats 1000000 in
set_option maxRecDepth 100000 in
theorem a9z(l:List UInt8)(bk o c:Nat)(w:World)(hl:l.length≤2500)(hc:l.length≤c)(hbk:bk<w.heap.size)
  (h:∀ (j:Nat) b,l[j]? = some b→w.cell? ⟨bk,o+j,none⟩=some (.int .u8 b.toNat)) :
  Calls Tryd.prog 31 #[.slice (some ⟨bk,o,none⟩) l.length c] w fun e w'=>e=.returned (.string ⟨(l.flatMap aus).toArray⟩)∧Below w.heap.size w w':=by
 have HC:=Any.hidJ h
 clear h
 go_enter Tryd.func31,Tryd.ntmps31
 go_wp2_with fail
 go_loopw [8] (fun i wr=>∃ k:Nat,k≤l.length∧i=.int .i64 k∧Hid (Lib.IsBuilder 81 5 w.heap.size w.heap.size (Lib.byteCells ((l.take k).flatMap aus)) wr)∧Hid (Below w.heap.size w wr)) (fun i _=>l.length - (intOf i).toNat)
 case atStart =>
  refine⟨0,Nat.zero_le _,rfl,Any.hidJ (Lib.fresh_isBuilder 81 5 w),Any.hidJ ((Below.refl w.heap.size w).alloc (Nat.le_refl _) _)⟩
 case round =>
  obtain⟨k,hk,rfl,HB,HW⟩:=hrel
  by_cases hkl:k<l.length
  ·obtain⟨b,hb⟩:∃ b,l[k]? = some b:=⟨l[k],List.getElem?_eq_getElem hkl⟩
   have hcb:wr.cell? ⟨bk,o+k,none⟩=some (.int .u8 b.toNat):=by
    rw [HW.out.cell (p:=⟨bk,o+k,none⟩) hbk]
    exact HC.out k b hb
   have hb0:(0:Int)≤(b.toNat:Int):=Int.natCast_nonneg _
   have hb1:(b.toNat:Int)<256:=by have:=b.toNat_lt;omega
   have hBw:w.heap.size≤wr.heap.size:=HW.out.size
   go_wp2_with fail
   have hlen:(Lib.byteCells ((l.take k).flatMap aus)).length+2≤140737488355328:=by
    rw [Lib.byteCells_length,aut,List.length_take]
    omega
   refine(Any.Builder_WriteByte Tryd.lays167 Tryd.extra167 w.heap.size w.heap.size _ _ wr HB.out (by omega) hBw).mono ?_
   rintro e w1 ⟨rfl,h1,hb2⟩
   have H1:=Any.hidJ h1
   have Hb2:=Any.hidJ hb2
   have hBw1:w.heap.size≤w1.heap.size:=Nat.le_trans hBw hb2.size
   clear h1 hb2
   go_wp2_with fail
   refine(Any.Builder_WriteByte Tryd.lays167 Tryd.extra167 w.heap.size w.heap.size _ _ w1 (Or.inr H1.out) (by rw [List.length_append];simp only [List.length_cons,List.length_nil];omega) hBw1).mono ?_
   rintro e w2 ⟨rfl,h2,hb3⟩
   have hnext:Lib.byteCells ((l.take k).flatMap aus)++[Value.int .u8 ((hexS[b.toNat / 16]'(by have:=b.toNat_lt;show _<16;omega)).toNat:Nat)]++[Value.int .u8 ((hexS[b.toNat % 16]'(by show _<16;omega)).toNat:Nat)]=Lib.byteCells ((l.take (k+1)).flatMap aus):=by
    rw [bjc,bjc,List.take_add_one,hb,List.flatMap_append,Lib.byteCells_append,List.append_assoc]
    rfl
   have h2':=h2
   rw [hnext] at h2'
   have H2:=Any.hidJ (Or.inr h2':Lib.IsBuilder 81 5 w.heap.size w.heap.size _ w2)
   have Hb3:=Any.hidJ (HW.out.trans (Hb2.out.trans hb3))
   clear h2 h2' hb3 hnext
   go_wp2_with fail
   exact⟨⟨k+1,by omega,by go_num,H2,Hb3⟩,by simp [intOf];omega⟩
  ·have hke:k=l.length:=by omega
   subst hke
   have hB':=HB.out
   rw [List.take_length] at hB'
   have hBw:w.heap.size≤wr.heap.size:=HW.out.size
   go_wp2_with fail
   refine(Any.Builder_String_any Tryd.lays169 Tryd.extra169 w.heap.size w.heap.size _ wr hB' hBw).mono ?_
   rintro e w5 ⟨rfl,hb5⟩
   have Hb5:=Any.hidJ (HW.out.trans hb5)
   clear hb5 hB'
   go_wp2
   go_ret
   exact⟨rfl,Hb5.out⟩
set_option maxHeartbeats 1000000 in
set_option maxRecDepth 100000 in
theorem aku(a:Option Addr)(c:Nat)(w:World) :
  Calls Tryd.prog 31 #[.slice a 0 c] w fun e w'=>e=.returned (.string ⟨([]:List UInt8).toArray⟩)∧Below w.heap.size w w':=by
 go_enter Tryd.func31,Tryd.ntmps31
 go_wp2_with fail
 go_loopw [8] (fun i wr=>i=.int .i64 0∧Hid (Lib.IsBuilder 81 5 w.heap.size w.heap.size (Lib.byteCells []) wr)∧Hid (Below w.heap.size w wr)) (fun _ _=>0)
 case atStart =>
  refine⟨rfl,Any.hidJ (Lib.fresh_isBuilder 81 5 w),Any.hidJ ((Below.refl w.heap.size w).alloc (Nat.le_refl _) _)⟩
 case round =>
  obtain⟨rfl,HB,HW⟩:=hrel
  have hB':=HB.out
  have hBw:w.heap.size≤wr.heap.size:=HW.out.size
  go_wp2_with fail
  refine(Any.Builder_String_any Tryd.lays169 Tryd.extra169 w.heap.size w.heap.size [] wr hB' hBw).mono ?_
  rintro e w5 ⟨rfl,hb5⟩
  have Hb5:=Any.hidJ (HW.out.trans hb5)
  clear hb5 hB'
  go_wp2
  go_ret
  exact⟨rfl,Hb5.out⟩
theorem bl5{m:Mem}{rows:List (List CD)}{f:Nat→Nat→Option Value}(h:∀ i row,rows[i]? = some row→RSs m [.int .u8] row (f i))(j:Nat)(b:UInt8)(hb:(rows.map ada)[j]? = some b):f j 0=some (.int .u8 b.toNat):=by
 rw [List.getElem?_map] at hb
 cases hr:rows[j]? with
 | none=>rw [hr] at hb;cases hb
 | some row =>
  rw [hr] at hb
  cases hb
  obtain⟨c,r,u,rfl,h1,⟨z,rfl,rfl,h3⟩,h4⟩:=h j row hr
  rw [h1]
  have hz:0≤z∧z≤255:=by
   simp only [ab6,Bool.and_eq_true,decide_eq_true_eq] at h3
   exact h3
  show _=some (Value.int .u8 ((UInt8.ofNat z.toNat).toNat:Nat))
  have:(UInt8.ofNat z.toNat).toNat=z.toNat:=by
   rw [UInt8.toNat_ofNat']
   omega
  rw [this]
  congr 2
  omega
noncomputable def bfg:Fsp:=⟨[(false,[sYs])],[.ap .le [.ap .len [.var 0],I 2500]],[(false,[.str])],[([],[[.ap (.usr 298) [.var 0]]])],true⟩
theorem bo6(r:List (List CD)):(hexT r).length=2*r.length:=by
 unfold hexT
 rw [aut,List.length_map]
theorem bje{v:Nat→CD}{a b:X}(h:@Holds (@Sg.mk U v) [.ap .le [a,b]]):(@den (@Sg.mk U v) a).iv≤(@den (@Sg.mk U v) b).iv:=atd h (List.mem_cons_self ..)
set_option maxRecDepth 100000 in
theorem b2y:abk U Tryd.prog 31 bfg:=by
 refine abk.calls Tryd.call31 fun v m w us htw hm hargs hpre=>?_
 match us,hargs with
 | [u],⟨h1,_⟩ =>
  have hl:((v 0).len:Int)≤2500:=bje hpre
  have hres:∀ (l:List UInt8) (hl:l=(v 0).rows.map ada) (hlen:l.length≤2500),∀ (e:Ending) (w':World),(e=.returned (.string ⟨(l.flatMap aus).toArray⟩)∧Below w.heap.size w w')→∃ u,e=.returned u∧Keep w w'∧∃ o∈bfg.outs,@Holds (@Sg.mk U v) o.1∧ResR (fun k ob=>(w.heap.size≤k∧w'.heap[k]? = some ob∧Nice ob)∨(bfg.fresh=false∧m k ob)) bfg.res (o.2.map (@denL (@Sg.mk U v))) u:=by
   rintro l hl hlen e w' ⟨rfl,hb⟩
   refine⟨_,rfl,ak2 hb,_,List.mem_singleton.2 rfl,holds_nil v,[_],⟨?_,trivial⟩,rfl⟩
   show RS (fun k ob=>(w.heap.size≤k∧w'.heap[k]? = some ob∧Nice ob)∨(bfg.fresh=false∧m k ob)) .str (tx (hexT (v 0).rows)) _
   unfold hexT
   rw [← hl]
   refine bwb (l:=l.flatMap aus) ?_
   rw [aut]
   unfold maxN
   omega
  rcases(show((v 0)=.sl true []∧u=.slice none 0 0)∨_ from h1) with ⟨e1,rfl⟩ | ⟨rows,b,off,cap,e1,rfl,h3,h4,h5⟩ | ⟨a,e1,rfl⟩
  ·have e1:v 0=_:=e1
   refine(aku none 0 w).mono (hres [] (by rw [e1];rfl) (by simp))
  ·have e1:v 0=_:=e1
   have hrl:rows.length≤2500:=by
    rw [e1] at hl
    have:((clip rows.length:Nat):Int)≤2500:=hl
    rw [aek (by omega)] at this
    omega
   by_cases hne:rows=[]
   ·subst hne
    exact(aku (some ⟨b,off,none⟩) cap w).mono (hres [] (by rw [e1];rfl) (by simp))
   ·obtain⟨arr,tt,fr,g1,g2⟩:=h5 hne
    have hw:=hm _ _ g1
    have:=a9z (rows.map ada) b off cap w (by simpa using hrl) (by simpa using h3) (Lib.lt_of_heap hw) (fun j x hx=>by
     rw [Lib.cell_of_heap hw]
     have:=bl5 (f:=fun i q=>arr[off+i*1+q]?) g2 j x hx
     simpa using this)
    rw [List.length_map] at this
    exact this.mono (hres _ (by rw [e1];rfl) (by simpa using hrl))
  ·have e1:v 0=_:=e1
   exact(aku (some a) 0 w).mono (hres [] (by rw [e1];rfl) (by simp))
noncomputable def bfh:Fsp:=⟨[(false,[.sl [.str]]),(false,[.str])],[.ap .le [.ap .len [.var 0],I 2500],.ap .le [.ap .slen [.ap (.usr 282) [.var 0,.var 1]],I 40000]],[(false,[.str])],[([],[[.ap (.usr 282) [.var 0,.var 1]]])],true⟩
theorem bwf{l:List UInt8}(h:((tx l).slen:Int)≤40000):l.length≤40000:=by
 have:((clip l.length:Nat):Int)≤40000:=h
 unfold clip maxN at this
 omega
def bem(r:List CD):ByteArray:=(r.getD 0 default).str
theorem ayp(rows:List (List CD)):(rows.map bem).map (fun x=>x.data.toList)=rows.map asw:=by
 rw [List.map_map]
 refine List.map_congr_left fun r _=>?_
 show(bem r).data.toList=(r.getD 0 default).str.toList
 rw [ByteArray.toList_eq]
 rfl
theorem bqv{m:Mem}{rows:List (List CD)}{f:Nat→Nat→Option Value}(h:∀ i row,rows[i]? = some row→RSs m [.str] row (f i))(j:Nat)(b:ByteArray)(hb:(rows.map bem)[j]? = some b):f j 0=some (.string b):=by
 rw [List.getElem?_map] at hb
 cases hr:rows[j]? with
 | none=>rw [hr] at hb;cases hb
 | some row =>
  rw [hr] at hb
  cases hb
  obtain⟨c,r,u,rfl,h1,⟨z,rfl,rfl,h3⟩,h4⟩:=h j row hr
  exact h1
set_option maxRecDepth 100000 in
theorem b21:abk U Tryd.prog 33 bfh:=by
 refine abk.calls Tryd.call33 fun v m w us htw hm hargs hpre=>?_
 match us,hargs with
 | [u,u'],⟨h1,h2,_⟩ =>
  obtain⟨s,e2,rfl,k3⟩:RS m .str (v 1) u':=h2
  have hl:((v 0).len:Int)≤2500:=atd hpre (List.mem_cons_self ..)
  have hj0:((@Us.u U 282 [v 0,v 1]).slen:Int)≤40000:=atd hpre (List.mem_cons_of_mem _ (List.mem_singleton.2 rfl))
  rw [ax3] at hj0
  have hj:=bwf hj0
  rw [e2,by_v] at hj
  have hres:∀ (l:List UInt8) (hl:l=Lib.join ((v 0).rows.map asw) s.data.toList),∀ (e:Ending) (w':World),(e=.returned (.string ⟨l.toArray⟩)∧Below w.heap.size w w')→∃ u,e=.returned u∧Keep w w'∧∃ o∈bfh.outs,@Holds (@Sg.mk U v) o.1∧ResR (fun k ob=>(w.heap.size≤k∧w'.heap[k]? = some ob∧Nice ob)∨(bfh.fresh=false∧m k ob)) bfh.res (o.2.map (@denL (@Sg.mk U v))) u:=by
   rintro l hl e w' ⟨rfl,hb⟩
   refine⟨_,rfl,ak2 hb,_,List.mem_singleton.2 rfl,holds_nil v,[_],⟨?_,trivial⟩,rfl⟩
   show RS (fun k ob=>(w.heap.size≤k∧w'.heap[k]? = some ob∧Nice ob)∨(bfh.fresh=false∧m k ob)) .str (tx (Lib.join ((v 0).rows.map asw) (by' (v 1)))) _
   rw [e2,by_v,← hl]
   refine bwb ?_
   rw [hl]
   unfold maxN
   omega
  rcases(show((v 0)=.sl true []∧u=.slice none 0 0)∨_ from h1) with ⟨e1,rfl⟩ | ⟨rows,b,off,cap,e1,rfl,h3,h4,h5⟩ | ⟨a,e1,rfl⟩
  ·refine(Any.strings_Join_none Tryd.lays156 Tryd.extra156 none 0 s w).mono ?_
   rintro e w' ⟨rfl,rfl⟩
   exact hres [] (by rw [e1];rfl) _ _ ⟨rfl,Below.refl _ _⟩
  ·have e1:v 0=_:=e1
   have hrl:rows.length≤2500:=by
    rw [e1] at hl
    have:((clip rows.length:Nat):Int)≤2500:=hl
    rw [aek (by omega)] at this
    omega
   by_cases hne:rows=[]
   ·subst hne
    refine(Any.strings_Join_none Tryd.lays156 Tryd.extra156 (some ⟨b,off,none⟩) cap s w).mono ?_
    rintro e w' ⟨rfl,rfl⟩
    exact hres [] (by rw [e1];rfl) _ _ ⟨rfl,Below.refl _ _⟩
   ·obtain⟨arr,tt,fr,g1,g2⟩:=h5 hne
    have hw:=hm _ _ g1
    have hj':(Lib.join (rows.map asw) s.data.toList).length≤40000:=by rw [e1] at hj;exact hj
    have:=Any.strings_Join Tryd.lays156 Tryd.extra156 b off cap (rows.map bem) s w (fun j x hx=>by
     rw [Lib.cell_of_heap hw]
     have:=bqv (f:=fun i q=>arr[off+i*1+q]?) g2 j x hx
     simpa using this) (Lib.lt_of_heap hw) (by rw [List.length_map];omega) (by simpa using h3) (by rw [ayp];omega)
    rw [List.length_map,ayp] at this
    exact this.mono (hres _ (by rw [e1];rfl))
  ·have e1:v 0=_:=e1
   refine(Any.strings_Join_none Tryd.lays156 Tryd.extra156 (some a) 0 s w).mono ?_
   rintro e w' ⟨rfl,rfl⟩
   exact hres [] (by rw [e1];rfl) _ _ ⟨rfl,Below.refl _ _⟩
end Go.Proofs.YtamhchkknlbanaaDoor.Be

namespace Go.Proofs.YtamhchkknlbanaaDoor.Be
open Go.Sx Go.Proofs Go.RowKit Go.Lib
theorem by4{P:Program}(w:World)(t e:TypeId)(i:TypeInfo)(z:Value)(n:Nat)(ht:P.underlying t=some (.slice e))(hi:P.info? e=some i)(hz:i.zero=some z)(hs:i.size=1)(hb:i.bytes=1)(hc:z.cells = #[z])(hn:n≤2500) :
  ∃ w',(Instr.makeSlice t (.int .i64 ((n:Int)+3)) (.int .i64 ((n:Int)+3))).run P w=.ok (.slice (some ⟨w.heap.size,0,none⟩) (n+3) (n+3)) w'∧Below w.heap.size w w'∧w'.heap[w.heap.size]? = some (.cells (List.replicate (n+3) z).toArray e (0,0)):=by
 obtain⟨w',hrun,hown,hgrow⟩:=run_make_full (P:=P) (w:=w) w.heap.size t e i z 1 ht hi hz hs .i64 .i64 (n+3) (by rw [hb];omega) (by unfold maxLen;omega) (Nat.le_refl _)
 refine⟨w',?_,(Below.refl _ w).grown hgrow (Nat.le_refl _) (fun k hk=>by cases hk),?_⟩
 ·rw [show((n:Int)+3)=((n+3:Nat):Int) by omega]
  exact hrun
 ·obtain⟨_,h | ⟨g,cap,cur,h1,h2,h3,h4,h5,h6,h7⟩⟩:=hown
  ·cases h.1
  ·cases h1
   rw [h3,hc,toList_madeCells_one] at *
   rw [List.take_of_length_le (by rw [Array.length_toList];omega)] at h7
   rw [show cur=(List.replicate (n+3) z).toArray by rw [← Array.toArray_toList (xs:=cur),h7];simp]
theorem bxw{P:Program}(w:World)(t ty e:TypeId)(g:Nat)(a:Option Addr)(c n:Nat)(vs:List Value)(z:Value)(hu:P.underlying t=some (.slice e))(hs:(P.info? e).map (·.size)=some 1)(hn:vs.length=n)
  (hg:w.heap[g]? = some (.cells (List.replicate (n+3) z).toArray e (0,0))) (h1:∀ v∈vs,v.oneCell'=true) (hsrc:vs≠[]→∃ ad,a=some ad∧∀ (j:Nat) v,vs[j]? = some v→w.cell? (ad.add j)=some v) :
  ∃ w',(Builtin.copy_ #[t,t] ty #[.slice (some ⟨g,0,none⟩) (n+3) (n+3),.slice a n c]).run P w=.ok (goInt n) w'∧Below g w w'∧w'.heap[g]? = some (.cells (vs++List.replicate 3 z).toArray e (0,0)):=by
 by_cases he:vs=[]
 ·subst he
  cases hn
  exact⟨w,run_copy_none (P:=P) w t t ty e _ a _ _ 0 c hu hs rfl,Below.refl _ _,hg⟩
 ·obtain⟨ad,rfl,hsr⟩:=hsrc he
  have hrun:=run_copy_row (P:=P) w t t ty e g 0 (n+3) (n+3) ad n c _ e vs hu hs hg (by rw [hn];exact(Nat.min_eq_left (by omega)).symm) hsr (by simp;omega) h1
  rw [hn] at hrun
  refine⟨_,hrun,below_setRow (Below.refl _ _) (Nat.le_refl _) _,?_⟩
  rw [setRow_heap w g _ _ e _ hg]
  simp
def u8v(b:UInt8):Value:=.int .u8 (b.toNat:Int)
theorem set3{w:World}{g n k:Nat}{vs fs:List Value}{z u:Value}{e:TypeId}(hv:vs.length=n)(hf:fs.length=3)(hk:k<3)(hu:fs[k]? = some u)(h:w.heap[g]? = some (.cells (vs++(fs.take k++List.replicate (3 - k) z)).toArray e (0,0))) :
  (w.setCell ⟨g,n+k,none⟩ u).heap[g]? = some (.cells (vs++(fs.take (k+1)++List.replicate (3 - (k+1)) z)).toArray e (0,0)):=by
 rw [heap_setCell_same w g _ _ e u h]
 congr 2
 rw [List.setIfInBounds_toArray]
 congr 1
 rw [List.set_append_right _ _ (by omega),hv,Nat.add_sub_cancel_left,List.set_append_right _ _ (by rw [List.length_take];omega),List.length_take,hf,Nat.min_eq_left (by omega),Nat.sub_self,show 3 - k=3 - (k+1)+1 by omega,List.replicate_succ,List.set_cons_zero,List.take_add_one,hu,List.append_assoc]
 rfl
theorem bxt{w:World}{g n k:Nat}{vs fs:List Value}{z:Value}{e:TypeId}(hv:vs.length=n)(hf:fs.length=3)(hk:k<3)(h:w.heap[g]? = some (.cells (vs++(fs.take k++List.replicate (3 - k) z)).toArray e (0,0))):w.cell? ⟨g,n+k,none⟩=some z∧w.frozen? ⟨g,n+k,none⟩=false:=by
 constructor
 ·rw [Lib.cell_of_heap h,List.getElem?_toArray,List.getElem?_append_right (by omega),hv,Nat.add_sub_cancel_left,List.getElem?_append_right (by rw [List.length_take];omega),List.length_take,hf,Nat.min_eq_left (by omega),Nat.sub_self,List.getElem?_replicate,if_pos (by omega)]
 ·unfold World.frozen?
  rw [show w.heap[(⟨g,n+k,none⟩:Addr).block]? = _ from h]
  simp
def bi0(n:Nat):List Value:=[n,n+1,n+2].map fun(i:Nat)=>Value.int .u8 (160+(i:Int) % 90)
theorem b08:(Tryd.prog.info? 5).map (fun i=>(i.zero,i.size,i.bytes))=some (some (.int .u8 0),1,1):=by kernel_rfl
set_option maxHeartbeats 1000000 in
set_option maxRecDepth 100000 in
theorem b1p(l:List UInt8)(a:Option Addr)(c:Nat)(w:World)(hl:l.length≤2500)(h:l≠[]→∃ ad,a=some ad∧∀ (j:Nat) b,l[j]? = some b→w.cell? (ad.add j)=some (.int .u8 b.toNat)) :
  Calls Tryd.prog 10 #[.slice a l.length c] w fun e w'=>e=.returned (.slice (some ⟨w.heap.size,0,none⟩) l.length (l.length+3))∧Below w.heap.size w w'∧w'.heap[w.heap.size]? = some (.cells (l.map u8v++bi0 l.length).toArray 5 (0,0)):=by
 obtain⟨i,hi,hz0,hz1,hz2⟩:=info_parts b08
 obtain⟨w1,hm1,hb1,hg1⟩:=by4 (P:=Tryd.prog) w 22 5 i _ l.length rfl hi hz0 hz1 hz2 rfl hl
 obtain⟨w2,hm2,hb2,hg2⟩:=bxw (P:=Tryd.prog) w1 22 3 5 w.heap.size a c l.length (l.map u8v) _ rfl (by kernel_rfl) (by rw [List.length_map]) hg1 (fun v hv=>by
  obtain⟨b,_,rfl⟩:=List.mem_map.1 hv
  rfl) (fun hne=>by
  obtain⟨ad,e,hc⟩:=h (fun h0=>hne (by rw [h0];rfl))
  refine⟨ad,e,fun j v hv=>?_⟩
  rw [List.getElem?_map] at hv
  obtain⟨x,hx,rfl⟩:=Option.map_eq_some_iff.1 hv
  rw [hb1.cell (World.block_lt_of_cell? w _ (hc j x hx))]
  exact hc j x hx)
 clear h hi hz0 hz1 hz2
 have HB:=Any.hidJ (hb1.trans hb2)
 have HG:=Any.hidJ hg2
 clear hb1 hb2 hg1 hg2
 go_enter Tryd.func10,Tryd.ntmps10
 go_wp2_with fail
 go_loopw [4] (fun q wr=>∃ k:Nat,k≤3∧q=.int .i64 ((l.length+k:Nat):Int)∧Hid (Below w.heap.size w wr)∧Hid (wr.heap[w.heap.size]? = some (.cells (l.map u8v++((bi0 l.length).take k++List.replicate (3 - k) (Value.int .u8 0))).toArray 5 (0,0)))) (fun q _=>l.length+3 - (intOf q).toNat)
 case atStart =>
  exact⟨0,Nat.zero_le _,rfl,HB,HG⟩
 case round =>
  obtain⟨k,hk,rfl,HW,HR⟩:=hrel
  by_cases hk3:k<3
  ·obtain⟨hcell,hfr⟩:=bxt (by rw [List.length_map]) rfl hk3 HR.out
   go_wp2_with fail
   refine⟨⟨k+1,by omega,by go_num,Any.hidJ (HW.out.setCell (Nat.le_refl _) _),?_⟩,by simp [intOf];omega⟩
   exact Any.hidJ (set3 (by rw [List.length_map]) rfl hk3 (by
    have:k=0∨k=1∨k=2:=by omega
    rcases this with rfl | rfl | rfl<;>rfl) HR.out)
  ·have hke:k=3:=by omega
   subst hke
   go_wp2_with fail
   go_ret
   refine⟨rfl,HW.out,?_⟩
   have h:=HR.out
   rw [List.take_of_length_le (i:=3) (l:=bi0 l.length) (Nat.le_refl 3),Nat.sub_self,List.replicate_zero,List.append_nil] at h
   exact h
def bov(b:Bool):Value:=.bool b
def bi1(n:Nat):List Value:=[n,n+1,n+2].map fun(i:Nat)=>Value.bool (decide ((i:Int) % 2=0))
theorem b09:(Tryd.prog.info? 4).map (fun i=>(i.zero,i.size,i.bytes))=some (some (.bool false),1,1):=by kernel_rfl
set_option maxHeartbeats 1000000 in
set_option maxRecDepth 100000 in
theorem b1q(l:List Bool)(a:Option Addr)(c:Nat)(w:World)(hl:l.length≤2500)(h:l≠[]→∃ ad,a=some ad∧∀ (j:Nat) b,l[j]? = some b→w.cell? (ad.add j)=some (.bool b)) :
  Calls Tryd.prog 11 #[.slice a l.length c] w fun e w'=>e=.returned (.slice (some ⟨w.heap.size,0,none⟩) l.length (l.length+3))∧Below w.heap.size w w'∧w'.heap[w.heap.size]? = some (.cells (l.map bov++bi1 l.length).toArray 4 (0,0)):=by
 obtain⟨i,hi,hz0,hz1,hz2⟩:=info_parts b09
 obtain⟨w1,hm1,hb1,hg1⟩:=by4 (P:=Tryd.prog) w 23 4 i _ l.length rfl hi hz0 hz1 hz2 rfl hl
 obtain⟨w2,hm2,hb2,hg2⟩:=bxw (P:=Tryd.prog) w1 23 3 4 w.heap.size a c l.length (l.map bov) _ rfl (by kernel_rfl) (by rw [List.length_map]) hg1 (fun v hv=>by
  obtain⟨b,_,rfl⟩:=List.mem_map.1 hv
  rfl) (fun hne=>by
  obtain⟨ad,e,hc⟩:=h (fun h0=>hne (by rw [h0];rfl))
  refine⟨ad,e,fun j v hv=>?_⟩
  rw [List.getElem?_map] at hv
  obtain⟨x,hx,rfl⟩:=Option.map_eq_some_iff.1 hv
  rw [hb1.cell (World.block_lt_of_cell? w _ (hc j x hx))]
  exact hc j x hx)
 clear h hi hz0 hz1 hz2
 have HB:=Any.hidJ (hb1.trans hb2)
 have HG:=Any.hidJ hg2
 clear hb1 hb2 hg1 hg2
 go_enter Tryd.func11,Tryd.ntmps11
 go_wp2_with fail
 go_loopw [4] (fun q wr=>∃ k:Nat,k≤3∧q=.int .i64 ((l.length+k:Nat):Int)∧Hid (Below w.heap.size w wr)∧Hid (wr.heap[w.heap.size]? = some (.cells (l.map bov++((bi1 l.length).take k++List.replicate (3 - k) (Value.bool false))).toArray 4 (0,0)))) (fun q _=>l.length+3 - (intOf q).toNat)
 case atStart =>
  exact⟨0,Nat.zero_le _,rfl,HB,HG⟩
 case round =>
  obtain⟨k,hk,rfl,HW,HR⟩:=hrel
  by_cases hk3:k<3
  ·obtain⟨hcell,hfr⟩:=bxt (by rw [List.length_map]) rfl hk3 HR.out
   go_wp2_with fail
   refine⟨⟨k+1,by omega,by go_num,Any.hidJ (HW.out.setCell (Nat.le_refl _) _),?_⟩,by simp [intOf];omega⟩
   exact Any.hidJ (set3 (by rw [List.length_map]) rfl hk3 (by
    have:k=0∨k=1∨k=2:=by omega
    rcases this with rfl | rfl | rfl<;>rfl) HR.out)
  ·have hke:k=3:=by omega
   subst hke
   go_wp2_with fail
   go_ret
   refine⟨rfl,HW.out,?_⟩
   have h:=HR.out
   rw [List.take_of_length_le (i:=3) (l:=bi1 l.length) (Nat.le_refl 3),Nat.sub_self,List.replicate_zero,List.append_nil] at h
   exact h
def numB(l:List UInt8):List Int:=l.map (fun b=>(b.toNat:Int))++[l.length,l.length+1,l.length+2].map fun(i:Nat)=>160+(i:Int) % 90
theorem bfz(l:List UInt8):l.map u8v++bi0 l.length=(numB l).map (Value.int .u8):=by
 unfold numB bi0
 rw [List.map_append,List.map_map,List.map_map]
 rfl
theorem bps(l:List UInt8):(numB l).length=l.length+3:=by
 unfold numB
 simp
set_option maxHeartbeats 1000000 in
set_option maxRecDepth 100000 in
theorem ba5(xs:List Int)(n g1 g2 p1 p2:Nat)(w:World)(hn:xs.length=n)(h1:w.heap[g1]? = some (.cells (xs.map (Value.int .u8)).toArray 5 (0,0)))(h2:w.heap[g2]? = some (.cells (xs.map (Value.int .u8)).toArray 5 (0,0))) :
  Calls Tryd.prog 38 #[.slice (some ⟨g1,0,none⟩) n p1,.slice (some ⟨g2,0,none⟩) n p2] w fun e w'=>e=.returned (.bool true)∧w'=w:=by
 have hc:∀ {g:Nat},w.heap[g]? = some (.cells (xs.map (Value.int .u8)).toArray 5 (0,0))→∀ i,i<n→w.cell? ⟨g,0+i,none⟩=some (.int .u8 (xs.getD i 0)):=fun h i hi=>by
  rw [Lib.cell_of_heap h,List.getElem?_toArray,List.getElem?_map,Nat.zero_add,List.getElem?_eq_getElem (by omega),List.getD_eq_getElem?_getD,List.getElem?_eq_getElem (by omega)]
  rfl
 have e1:=run_convert_bytes_arg (P:=Tryd.prog) w 22 5 rfl rfl g1 0 n p1 xs hn (hc h1) 9 rfl
 have e2:=run_convert_bytes_arg (P:=Tryd.prog) w 22 5 rfl rfl g2 0 n p2 xs hn (hc h2) 9 rfl
 clear hc h1 h2
 go_enter Tryd.func38,Tryd.ntmps38
 go_wp2_with fail
 go_ret
 exact⟨rfl,rfl⟩
theorem bsf(l:List UInt8)(a:Option Addr)(c n:Nat)(w:World)(hn:l.length=n)(hl:n≤2500)(h:l≠[]→∃ ad,a=some ad∧∀ (j:Nat) b,l[j]? = some b→w.cell? (ad.add j)=some (.int .u8 b.toNat)) :
  Calls Tryd.prog 10 #[.slice a n c] w fun e w'=>e=.returned (.slice (some ⟨w.heap.size,0,none⟩) n (n+3))∧Below w.heap.size w w'∧w'.heap[w.heap.size]? = some (.cells ((numB l).map (Value.int .u8)).toArray 5 (0,0)):=by
 subst hn
 rw [← bfz]
 exact b1p l a c w hl h
set_option maxHeartbeats 1000000 in
set_option maxRecDepth 100000 in
theorem b1m(l:List UInt8)(a:Option Addr)(c g n:Nat)(w:World)(hnl:l.length=n)(hl:l.length≤2500)(h:l≠[]→∃ ad,a=some ad∧∀ (j:Nat) b,l[j]? = some b→w.cell? (ad.add j)=some (.int .u8 b.toNat))(hg:w.heap[g]? = some (.cells ((numB l).map (Value.int .u8)).toArray 5 (0,0))) :
  Calls Tryd.prog 14 #[.slice (some ⟨g,0,none⟩) n (n+3),.slice a n c] w fun e w'=>e=.returned (.bool true)∧Below w.heap.size w w':=by
 have HL:=Any.hidJ hnl
 have HN:=Any.hidJ (show(numB l).length=n+3 by rw [bps];omega)
 have hn25:n≤2500:=by omega
 have HM:=Any.hidJ hn25
 have hi0:(0:Int)≤(n:Int):=by omega
 have hi1:(0:Int)≤(n:Int)+3:=by omega
 have hi2:¬ (n:Int)+3<0:=by omega
 have hi3:((n:Int)+3).toNat=n+3:=by omega
 have hiw:IntKind.i64.wrap ((n:Int)+3)=(n:Int)+3:=by rw [IntKind.wrap_i64];omega
 clear hnl hl
 have HC:=Any.hidJ h
 have HG:=Any.hidJ hg
 have HK:=Any.hidJ (show g<w.drew.heap.size from Lib.lt_of_heap hg)
 clear h hg
 go_enter Tryd.func14,Tryd.ntmps14
 go_wp2_with fail
 go_region_held3 (fun _=>True) (exact trivial) (first
  | (go_at_call 10;refine(bsf l a c n _ HL.out HM.out ?_).mono ?_;exact HC.out;rintro e w1 ⟨rfl,hb,hg1⟩;have HB:=Any.hidJ hb;have HG1:=Any.hidJ hg1;clear hb hg1)
  | (go_at_call 38;refine(ba5 (numB l) (n+3) _ _ _ _ _ HN.out ?_ ?_).mono ?_;exact(HB.out.block g HK.out).trans HG.out;exact HG1.out;rintro e w' ⟨rfl,rfl⟩))
 go_wp2
 go_ret
 exact⟨rfl,(Below.refl _ w).drew.trans HB.out⟩
end Go.Proofs.YtamhchkknlbanaaDoor.Be

namespace Go.Proofs.YtamhchkknlbanaaDoor.Be
open Go.Sx Go.Proofs Go.RowKit Go.Lib
def numO(l:List Bool):List Bool:=l++[l.length,l.length+1,l.length+2].map fun(i:Nat)=>decide ((i:Int) % 2=0)
theorem bf0(l:List Bool):l.map bov++bi1 l.length=(numO l).map Value.bool:=by
 unfold numO bi1
 rw [List.map_append,List.map_map]
 rfl
theorem bpt(l:List Bool):(numO l).length=l.length+3:=by
 unfold numO
 simp
set_option maxHeartbeats 1000000 in
set_option maxRecDepth 100000 in
theorem b2l(xs:List Bool)(n g1 g2 p1 p2:Nat)(w:World)(hn:xs.length=n)(hb25:n≤2503)(hc1:n≤p1)(hc2:n≤p2)(h1:w.heap[g1]? = some (.cells (xs.map Value.bool).toArray 4 (0,0)))(h2:w.heap[g2]? = some (.cells (xs.map Value.bool).toArray 4 (0,0))) :
  Calls Tryd.prog 39 #[.slice (some ⟨g1,0,none⟩) n p1,.slice (some ⟨g2,0,none⟩) n p2] w fun e w'=>e=.returned (.bool true)∧Below w.heap.size w w':=by
 have HN:=Any.hidJ hn
 have H1:=Any.hidJ h1
 have H2:=Any.hidJ h2
 have HL1:=Any.hidJ (Lib.lt_of_heap h1)
 have HL2:=Any.hidJ (Lib.lt_of_heap h2)
 clear hn h1 h2
 go_enter Tryd.func39,Tryd.ntmps39
 go_wp2_with fail
 go_loopw [5] (fun i wr=>∃ k:Nat,k≤n∧i=.int .i64 (k:Int)∧Hid (Below w.heap.size w wr)) (fun i _=>n - (intOf i).toNat)
 case atStart =>
  exact⟨0,Nat.zero_le _,rfl,Any.hidJ (Below.refl _ w)⟩
 case round =>
  obtain⟨k,hk,rfl,HW⟩:=hrel
  by_cases hkn:k<n
  ·obtain⟨b,hb⟩:∃ b,xs[k]? = some b:=⟨xs[k]'(by rw [HN.out];exact hkn),List.getElem?_eq_getElem _⟩
   have p1:wr.cell? ⟨g1,k,none⟩=some (.bool b):=by
    rw [HW.out.cell (p:=⟨g1,k,none⟩) HL1.out,Lib.cell_of_heap H1.out,List.getElem?_toArray,List.getElem?_map,hb]
    rfl
   have p2:wr.cell? ⟨g2,k,none⟩=some (.bool b):=by
    rw [HW.out.cell (p:=⟨g2,k,none⟩) HL2.out,Lib.cell_of_heap H2.out,List.getElem?_toArray,List.getElem?_map,hb]
    rfl
   have hb0:(0:Int)≤(k:Int):=Int.natCast_nonneg _
   have hb1:(k:Int)<(n:Int):=by omega
   go_wp2_with fail
   go_region_held3 (fun w'=>w'.cell? ⟨g1,k,none⟩=some (.bool b)∧w'.cell? ⟨g2,k,none⟩=some (.bool b)) (go_keep) (fail)
   go_wp2_with fail
   exact⟨⟨k+1,by omega,by go_num,Any.hidJ HW.out.drew⟩,by simp [intOf];omega⟩
  ·go_wp2_with fail
   go_ret
   exact⟨rfl,HW.out⟩
theorem bsg(l:List Bool)(a:Option Addr)(c n:Nat)(w:World)(hn:l.length=n)(hl:n≤2500)(h:l≠[]→∃ ad,a=some ad∧∀ (j:Nat) b,l[j]? = some b→w.cell? (ad.add j)=some (.bool b)) :
  Calls Tryd.prog 11 #[.slice a n c] w fun e w'=>e=.returned (.slice (some ⟨w.heap.size,0,none⟩) n (n+3))∧Below w.heap.size w w'∧w'.heap[w.heap.size]? = some (.cells ((numO l).map Value.bool).toArray 4 (0,0)):=by
 subst hn
 rw [← bf0]
 exact b1q l a c w hl h
set_option maxHeartbeats 1000000 in
set_option maxRecDepth 100000 in
theorem b1n(l:List Bool)(a:Option Addr)(c g n:Nat)(w:World)(hnl:l.length=n)(hl:l.length≤2500)(h:l≠[]→∃ ad,a=some ad∧∀ (j:Nat) b,l[j]? = some b→w.cell? (ad.add j)=some (.bool b))(hg:w.heap[g]? = some (.cells ((numO l).map Value.bool).toArray 4 (0,0))) :
  Calls Tryd.prog 15 #[.slice (some ⟨g,0,none⟩) n (n+3),.slice a n c] w fun e w'=>e=.returned (.bool true)∧Below w.heap.size w w':=by
 have HL:=Any.hidJ hnl
 have HN:=Any.hidJ (show(numO l).length=n+3 by rw [bpt];omega)
 have hn25:n≤2500:=by omega
 have HM:=Any.hidJ hn25
 have hi0:(0:Int)≤(n:Int):=by omega
 have hi1:(0:Int)≤(n:Int)+3:=by omega
 have hi2:¬ (n:Int)+3<0:=by omega
 have hi3:((n:Int)+3).toNat=n+3:=by omega
 have hiw:IntKind.i64.wrap ((n:Int)+3)=(n:Int)+3:=by rw [IntKind.wrap_i64];omega
 clear hnl hl
 have HC:=Any.hidJ h
 have HG:=Any.hidJ hg
 have HK:=Any.hidJ (show g<w.drew.heap.size from Lib.lt_of_heap hg)
 clear h hg
 go_enter Tryd.func15,Tryd.ntmps15
 go_wp2_with fail
 go_region_held3 (fun _=>True) (exact trivial) (first
  | (go_at_call 11;refine(bsg l a c n _ HL.out HM.out ?_).mono ?_;exact HC.out;rintro e w1 ⟨rfl,hb,hg1⟩;have HB:=Any.hidJ hb;have HG1:=Any.hidJ hg1;clear hb hg1)
  | (go_at_call 39;refine(b2l (numO l) (n+3) _ _ _ _ _ HN.out (by omega) (Nat.le_refl _) (Nat.le_refl _) ?_ ?_).mono ?_;exact(HB.out.block g HK.out).trans HG.out;exact HG1.out;rintro e w' ⟨rfl,hb2⟩;have HB2:=Any.hidJ hb2;clear hb2))
 go_wp2
 go_ret
 exact⟨rfl,(Below.refl _ w).drew.trans (HB.out.trans (HB2.out.mono HB.out.size))⟩
end Go.Proofs.YtamhchkknlbanaaDoor.Be
