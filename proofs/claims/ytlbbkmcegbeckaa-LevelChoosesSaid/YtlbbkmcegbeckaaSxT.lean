/-
  A symbolic executor: slices and rows that are known by expressions: lengths, places, what stands there. Conditions: none; nothing here speaks of one program.
-/
import Derived.Test.YtlbbkmcegbeckaaSxS
set_option linter.all false
set_option maxRecDepth 100000
noncomputable section
namespace Go.Sx
noncomputable section
def lenE(e:X):X:=.ap .len [e]
def zI:X:=.lit (.int .i64 0)
def af4(H:HP)(b:Nat):Option (List Srt×List Nat×X×X) :=
 match H.t.get b with
 | some (.lf [some (.rows w G e n)])=>some (w,G,e,n)
 | _=>none
def bf3(e:X):X:=match e with
 | .ap .len l=>.ap .len l
 | e=>.ap (.cast .i64) [e]
def beg(s:Srt)(G:List Nat):List Nat:=match s with
 | .sl _=>G
 | _=>[]
def a5f(w:List Srt)(G:List Nat)(e i:X):Nat→Nat→Option (List Cel)
 | _,0=>some []
 | off,n+1=>match w[off]? with
  | some s=>match a5f w G e i (off+1) n with
   | some r=>some (.sv s (beg s G) (.ap (.cell off) [e,i])::r)
   | none=>none
  | none=>none
section
variable (P:Program) [Plain P] (E:Operand→Option AV) (H:HP)
def yLen(args:Array Operand)(ats:Array TypeId):R :=
 match ap3 E args.toList,ats.toList with
 | some [.one (.sv (.sl _) _ e)],t::_=>match undT P t with
  | some (.slice _)=>some (.one (svI .i64 (lenE e)),H)
  | _=>none
 | some [.one (.sv .str _ e)],t::_=>match undT P t with
  | some .string=>some (.one (svI .i64 (.ap .slen [e])),H)
  | _=>none
 | some [.one (.os _ _ n _ _ _)],t::_=>match undT P t with
  | some (.slice _)=>some (.one (svI .i64 (bf3 n)),H)
  | _=>none
 | _,_=>none
def idxY(hy:List X)(a:AV)(s:Nat)(i:X):Option Cel :=
 match a with
 | .one (.sv (.sl w) G e)=>match Nat.beq s w.length&&(leX hy zI i&&ltX hy i (lenE e)) with
  | true=>some (.pv w G e i 0)
  | false=>none
 | .one (.os _ b n s' _ _)=>match Nat.beq s s'&&(leX hy zI i&&ltX hy i n) with
  | true=>some (.po b s i 0)
  | false=>none
 | _=>none
def litL(hy:List X)(e:X):List Nat→Option Nat
 | []=>none
 | c::r=>match leX hy e (.lit (.int .i64 (Int.ofNat c))) with
  | true=>match leX hy (.lit (.int .i64 (Int.ofNat c))) e with
   | true=>some c
   | false=>none
  | false=>litL hy e r
def bm9(hy:List X)(e:X):List Nat→Option X
 | []=>none
 | c::r=>match leX hy e (.lit (.int .i64 (Int.ofNat c))) with
  | true=>none
  | false=>match ltX hy (.lit (.int .i64 (Int.ofNat c))) e with
   | true=>bm9 hy e r
   | false=>some (.ap .le [e,.lit (.int .i64 (Int.ofNat c))])
abbrev fewN:List Nat:=[0,1,2,3,4,5]
def idxC(hy:List X)(a:AV)(len s:Nat)(i:X):Option Cel :=
 match a with
 | .one (.ptr b off)=>match litL hy i fewN with
  | some c=>match Nat.ble (Nat.succ c) len with
   | true=>some (.ptr b (off+c*s))
   | false=>none
  | none=>none
 | _=>none
def a8x(t:TypeId)(x i:Operand):R :=
 match undT P t,E x,(oneC (E i)).bind iX with
 | some (.slice el),some a,some (_,ie)=>match szA P el,a4x a with
  | some (_,s),some (b,off,len)=>(idxC H.hy (.one (.ptr b off)) len s ie).map fun c=>(.one c,H)
  | _,_=>none
 | some (.array len el),some a,some (_,ie)=>match szA P el with
  | some (_,s)=>(idxC H.hy a len s ie).map fun c=>(.one c,H)
  | none=>none
 | _,_,_=>none
def yIdx(t:TypeId)(x i:Operand):R :=
 match undT P t,E x,(oneC (E i)).bind iX with
 | some (.slice el),some a,some (_,ie)=>match szA P el with
  | some (_,s)=>(idxY H.hy a s ie).map fun c=>(.one c,H)
  | none=>none
 | _,_,_=>none
def bndX(E:Operand→Option AV)(d:X):Option Operand→Option X
 | none=>some d
 | some x=>match(oneC (E x)).bind iX with
  | some (_,e)=>some e
  | none=>none
def cutE(hi:Option Operand)(e l h:X):X:=match hi with
 | none=>.ap .cut [e,l,.lit (.int .i64 9223372036854775807)]
 | some _=>.ap .cut [e,l,h]
def ySl(t:TypeId)(x:Operand)(lo hi mx:Option Operand):R :=
 match undT P t,oneC (E x),mx with
 | some (.slice el),some (.sv (.sl w) G e),none=>match szA P el,bndX E zI lo,bndX E (lenE e) hi with
  | some (_,s),some l,some h=>match Nat.beq s w.length&&(leX H.hy zI l&&(leX H.hy l h&&leX H.hy h (lenE e))) with
   | true=>some (.one (.sv (.sl w) G (cutE hi e l h)),H)
   | false=>none
  | _,_,_=>none
 | _,_,_=>none
def isIh(hy:List X)(x:X):Bool:=isI x||memX (.ap (.typ (.int .i64)) [x]) hy
def neX(hy:List X)(a b:X):Bool:=memX (.ap .not [.ap .eq [a,b]]) hy&&(leX hy a b&&(isIh hy a&&isIh hy b))
def yAt(t:TypeId)(x i:Operand):R :=
 match undT P t,(oneC (E x)).bind sX,(oneC (E i)).bind iX with
 | some .string,some e,some (_,ie)=>match leX H.hy zI ie&&(ltX H.hy ie (.ap .slen [e])||neX H.hy ie (.ap .slen [e])) with
  | true=>some (.one (svI .u8 (.ap .sidx [e,ie])),H)
  | false=>none
 | _,_,_=>none
def ySub(t:TypeId)(x:Operand)(lo hi mx:Option Operand):R :=
 match undT P t,(oneC (E x)).bind sX,mx with
 | some .string,some e,none=>match bndX E zI lo,bndX E (.ap .slen [e]) hi with
  | some l,some h=>match leX H.hy zI l&&(leX H.hy l h&&leX H.hy h (.ap .slen [e])) with
   | true=>some (.one (svS (.ap .ssub [e,l,h])),H)
   | false=>none
  | _,_=>none
 | _,_,_=>none
def yMax(mn:Bool)(args:Array Operand):R :=
 match ap3 E args.toList with
 | some [.one c,.one c']=>match iX c,iX c' with
  | some (k,a),some (k',b)=>if k=k' then some (.one (svI k (.ap .ite [.ap .lt (if mn then [b,a] else [a,b]),b,a])),H) else none
  | _,_=>none
 | _=>none
def fldY(a:AV)(o:Nat):Option Cel :=
 match a with
 | .one (.pv w G e i off)=>some (.pv w G e i (off+o))
 | .one (.po b s i off)=>some (.po b s i (off+o))
 | _=>none
def yFld(t:TypeId)(x:Operand)(f:Nat):R :=
 match undT P t,E x with
 | some (.struct fs),some a=>match fs[f]? with
  | some fl=>match szA P fl.type with
   | some (_,n)=>if n=0 then none else(fldY a fl.offset).map fun c=>(.one c,H)
   | none=>none
  | none=>none
 | _,_=>none
def ay5(H:HP)(a:AV)(m:Nat):Option (List Cel) :=
 match a with
 | .one (.pv w G e i off)=>a5f w G e i off m
 | .one (.po b s i off)=>match af4 H b with
  | some (w,G,e,n)=>match Nat.beq s w.length&&ltX H.hy i n with
   | true=>a5f w G e i off m
   | false=>none
  | none=>none
 | _=>none
def bk8(t:TypeId)(x:Operand):R :=
 match E x,szA P t with
 | some a,some (ag,n)=>((ay5 H a (wid ag n)).bind (mkA ag)).map fun v=>(v,H)
 | _,_=>none
end
end
section
variable [Sg] {P:Program} [Plain P] {E:Operand→Option AV} {H H':HP} {w:World} {ρ:PM} {ev:Operand→Value} {v:AV}
theorem abm{b:Nat}{ws:List Srt}{G:List Nat}{e n:X}(h:af4 H b=some (ws,G,e,n)):H.cell b 0=some (.rows ws G e n)∧H.t.get b=some (.lf [some (.rows ws G e n)]):=by
 unfold af4 at h
 split at h
 ·rename_i w G e n hk
  cases h
  exact⟨by unfold HP.cell;rw [hk];rfl,hk⟩
 ·cases h
theorem J.obj{G:List Nat}{k:Nat}{o:Obj}(hj:J ρ H w)(h:ρ.at G k o):w.heap[k]? = some o:=by
 obtain⟨g,_,L,M,h1,h2,h3⟩:=h
 exact(hj.2 g L M h1 h2 k o h3).1
theorem bmp(e:X):den (lenE e)=.v (.int .i64 (den e).len):=rfl
theorem bg9(n:Nat)(h:n≤maxN):abw (.int .i64 n)=true:=bpt h
theorem a5c{e:X}:den (bf3 e)=.v (.int .i64 (den e).iv):=by
 unfold bf3
 split
 ·rfl
 ·rfl
theorem buz{args:Array Operand}{ats:Array TypeId}(h:yLen P E H args ats=some (v,H'))(hx:∀ z∈args.toList,∀ a,E z=some a→VRel ρ a (ev z))(hH:HRel ρ H w)(hd:Dom ρ H.n) :
  St H H'∧OpS P ρ ev H w (.call ⟨.builtin .len,args,ats⟩) v H':=by
 unfold yLen at h
 simp only [ab6] at h
 have one:∀ {x:AV},ap3 E args.toList=some [x]→∃ a,args = #[a]∧VRel ρ x (ev a):=by
  intro x hl
  obtain⟨a,ha,hE⟩:=a6i hl
  exact⟨a,by rw [← Array.toList_inj];simpa using ha,hx a (by rw [ha];simp) _ hE⟩
 split at h
 ·rename_i ws G e t r hl hat
  obtain⟨a,rfl,hr⟩:=one hl
  have hats:ats[0]? = some t:=by rw [← Array.getElem?_toList,hat];rfl
  split at h
  ·rename_i el hu
   cases h
   obtain⟨_,hrs⟩:=hr
   obtain⟨h1,h2,_,ad,cap,h3,_⟩:=hrs.slice
   refine⟨St.refl H,OpS.val hH hd (u:=.int .i64 ((den e).rows.length:Nat)) ?_ fun dst ty pos after guard=>?_⟩
   ·exact ac9 (ρ:=ρ) (by rw [bmp,h2]) (bg9 _ h1)
   ·simp [execOp,resolve,invoke,builtin,Builtin.len_,hats,run_underlying hu,h3,goInt]
  ·cases h
 ·rename_i G e t r hl hat
  obtain⟨a,rfl,hr⟩:=one hl
  have hats:ats[0]? = some t:=by rw [← Array.getElem?_toList,hat];rfl
  split at h
  ·rename_i hu
   cases h
   obtain⟨_,s,h1,h2,h3⟩:=hr
   have hl:(den e).slen=s.size:=by rw [h1];exact ai9 h3
   refine⟨St.refl H,OpS.val hH hd (u:=.int .i64 (s.size:Nat)) ?_ fun dst ty pos after guard=>?_⟩
   ·exact ac9 (ρ:=ρ) (by show CD.v (.int .i64 ((den e).slen:Int))=_;rw [hl]) (bg9 _ h3)
   ·simp [execOp,resolve,invoke,builtin,Builtin.len_,hats,run_underlying hu,h2,goInt]
  ·cases h
 ·rename_i z b n s G e0 t r hl hat
  obtain⟨a,rfl,hr⟩:=one hl
  have hats:ats[0]? = some t:=by rw [← Array.getElem?_toList,hat];rfl
  split at h
  ·rename_i el hu
   cases h
   obtain⟨k,ad,cap,h1,h2,h3⟩:∃ (k:Nat) (ad:Option Addr) (cap:Nat),(den n).iv=k∧ev a=.slice ad k cap∧k≤maxN:=by
    rcases hr.2 with ⟨_,h1,_,h2⟩ | ⟨_,L,k,cap,_,h1,h2,h3,h4,_⟩
    ·exact⟨0,none,0,h1,h2,Nat.zero_le _⟩
    ·exact⟨k,_,cap,h1,h2,Nat.le_trans h3 h4⟩
   refine⟨St.refl H,OpS.val hH hd (u:=.int .i64 (k:Nat)) ?_ fun dst ty pos after guard=>?_⟩
   ·exact ac9 (ρ:=ρ) (by rw [a5c,h1]) (bg9 _ h3)
   ·simp [execOp,resolve,invoke,builtin,Builtin.len_,hats,run_underlying hu,h2,goInt]
  ·cases h
 ·cases h
theorem ae5{a:Option AV}{c:Cel}(h:oneC a=some c):a=some (.one c):=by
 unfold oneC at h
 split at h
 ·cases h;rfl
 ·cases h
theorem bhc{hy:List X}(hh:Holds hy){e:X}:∀ {l:List Nat} {c:Nat},litL hy e l=some c→(den e).iv=(c:Int)
 | [],_,h=>by cases h
 | x::r,c,h=>by
  unfold litL at h
  split at h
  ·rename_i h1
   split at h
   ·rename_i h2
    cases h
    have h1:=acu hh h1
    have h2:=acu hh h2
    have e1:(den (.lit (.int .i64 (Int.ofNat x)))).iv=(x:Int):=rfl
    rw [e1] at h1 h2
    omega
   ·cases h
  ·exact bhc hh h
theorem bgz{hy:List X}(hh:Holds hy){a:AV}{len s:Nat}{i:X}{c:Cel}(h:idxC hy a len s i=some c):∃ b off k,a=.one (.ptr b off)∧c=.ptr b (off+k*s)∧(den i).iv=((k:Nat):Int)∧k<len:=by
 unfold idxC at h
 split at h
 ·rename_i b off
  split at h
  ·rename_i k hk
   split at h
   ·rename_i hl
    cases h
    exact⟨b,off,k,rfl,rfl,bhc hh hk,Nl hl⟩
   ·cases h
  ·cases h
 ·cases h
theorem bo4{t:TypeId}{x i:Operand}(h:a8x P E H t x i=some (v,H'))(hx:∀ z,z=x∨z=i→∀ a,E z=some a→VRel ρ a (ev z))(hH:HRel ρ H w)(hd:Dom ρ H.n):St H H'∧OpS P ρ ev H w (.indexAddr t x i) v H':=by
 unfold a8x at h
 rw [ab6] at h
 split at h
 ·rename_i el a k ie hu hxe hie
  split at h
  ·rename_i ag s b off len hs hb
   obtain⟨c,hc,e⟩:=map_some h
   cases e
   obtain⟨ci,hci,hki⟩:=aa8 hie
   have hri:CRel ρ ci (ev i):=hx i (.inr rfl) _ (ae5 hci)
   obtain⟨_,_,hei,_⟩:=ael hki hri
   obtain⟨b',off',n,e1,rfl,hn,hlt⟩:=bgz hH.hy hc
   cases e1
   obtain⟨L,cap,hL,hev,_⟩:=aon hb (hx x (.inl rfl) _ hxe)
   refine⟨St.refl H,OpS.val hH hd (u:=.pointer (some ⟨L.B,L.o+(off+n*s),none⟩)) ⟨L,hL,rfl⟩ fun dst ty pos after guard=>adb ?_⟩
   have hn2:(0:Int)≤(n:Int)∧(n:Int)<(len:Int):=⟨Int.natCast_nonneg _,by omega⟩
   rw [hn] at hei
   simp only [Instr.indexAt,hei,hev,asIntOf,Sem.run_bind,Sem.run_pure,Result.andThen_ok,run_underlying hu,if_pos hn2,run_sizeOf hs,abl,Nat.add_assoc,Int.toNat_natCast]
  ·cases h
 ·rename_i len el a k ie hu hxe hie
  split at h
  ·rename_i ag s hs
   obtain⟨c,hc,e⟩:=map_some h
   cases e
   obtain⟨ci,hci,hki⟩:=aa8 hie
   have hri:CRel ρ ci (ev i):=hx i (.inr rfl) _ (ae5 hci)
   obtain⟨_,_,hei,_⟩:=ael hki hri
   obtain⟨b,off,n,rfl,rfl,hn,hlt⟩:=bgz hH.hy hc
   obtain⟨L,hL,hev⟩:=hx x (.inl rfl) _ hxe
   refine⟨St.refl H,OpS.val hH hd (u:=.pointer (some ⟨L.B,L.o+(off+n*s),none⟩)) ⟨L,hL,rfl⟩ fun dst ty pos after guard=>adb ?_⟩
   have hn2:(0:Int)≤(n:Int)∧(n:Int)<(len:Int):=⟨Int.natCast_nonneg _,by omega⟩
   rw [hn] at hei
   simp only [Instr.indexAt,hei,hev,asIntOf,Sem.run_bind,Sem.run_pure,Result.andThen_ok,run_underlying hu,Instr.sureAddr,if_pos hn2,run_sizeOf hs,abl,Nat.add_assoc,Int.toNat_natCast]
  ·cases h
 ·cases h
theorem buy{t:TypeId}{x i:Operand}(h:yIdx P E H t x i=some (v,H'))(hx:∀ z,z=x∨z=i→∀ a,E z=some a→VRel ρ a (ev z))(hH:HRel ρ H w)(hd:Dom ρ H.n):St H H'∧OpS P ρ ev H w (.indexAddr t x i) v H':=by
 unfold yIdx at h
 rw [ab6] at h
 split at h
 ·rename_i el a k ie hu hxe hie
  split at h
  ·rename_i ag s hs
   obtain⟨c,hc,e⟩:=map_some h
   cases e
   obtain⟨ci,hci,hki⟩:=aa8 hie
   have hri:CRel ρ ci (ev i):=hx i (.inr rfl) _ (ae5 hci)
   obtain⟨_,_,hei,_⟩:=ael hki hri
   have hrx:=hx x (.inl rfl) _ hxe
   unfold idxY at hc
   split at hc
   ·rename_i ws G e
    split at hc
    ·rename_i hok
     cases hc
     simp only [Ba] at hok
     obtain⟨k1,k2,k3⟩:=hok
     have k1:=Nb k1
     have k2:(0:Int)≤(den ie).iv:=acu hH.hy k2
     have k3:(den ie).iv<((den e).len:Int):=agh hH.hy k3
     obtain⟨hG,hrs⟩:=hrx
     have hsl:=hrs.slice
     rw [hsl.2.1] at k3
     rcases(show(den e=.sl true []∧ev x=.slice none 0 0)∨_ from hrs) with ⟨e1,_⟩ | ⟨rows,b,off,cap,e1,e2,e3,e4,e5⟩ | ⟨_,e1,_⟩
     rotate_right
     ·rw [e1] at k3
      simp only [CD.rows,List.length_nil] at k3
      omega
     ·rw [e1] at k3
      simp only [CD.rows,List.length_nil] at k3
      omega
     ·have hrows:(den e).rows=rows:=by rw [e1];rfl
      refine⟨St.refl H,OpS.val hH hd (u:=.pointer (some ⟨b,off+(den ie).iv.toNat*ws.length+0,none⟩)) ⟨hG,b,off,cap,?_,k2,k3,rfl⟩ fun dst ty pos after guard=>adb ?_⟩
      ·rw [hrows,← e2];exact hrs
      ·have hn:0≤(den ie).iv∧(den ie).iv<rows.length:=⟨k2,by rw [← hrows];exact k3⟩
       simp only [Instr.indexAt,hei,e2,asIntOf,Sem.run_bind,Sem.run_pure,Result.andThen_ok,run_underlying hu,if_pos hn,run_sizeOf hs,abl,k1,Nat.add_zero]
    ·cases hc
   ·rename_i z b n s' G e0
    split at hc
    ·rename_i hok
     cases hc
     simp only [Ba] at hok
     obtain⟨k1,k2,k3⟩:=hok
     have k1:=Nb k1
     have k2:(0:Int)≤(den ie).iv:=acu hH.hy k2
     have k3:(den ie).iv<(den n).iv:=agh hH.hy k3
     rcases hrx.2 with ⟨_,e1,_⟩ | ⟨_,L,k,cap,e1,e2,e3,e4,e5,_⟩
     ·omega
     ·have hn:0≤(den ie).iv∧(den ie).iv<k:=⟨k2,by omega⟩
      refine⟨St.refl H,OpS.val hH hd (u:=.pointer (some ⟨L.B,L.o+((den ie).iv.toNat*s+0),none⟩)) ⟨L,e1,k2,rfl⟩ fun dst ty pos after guard=>adb ?_⟩
      simp only [Instr.indexAt,hei,e3,asIntOf,Sem.run_bind,Sem.run_pure,Result.andThen_ok,run_underlying hu,if_pos hn,run_sizeOf hs,abl,Nat.add_zero]
    ·cases hc
   ·cases hc
  ·cases h
 ·cases h
theorem bux{t:TypeId}{x:Operand}{f:Nat}(h:yFld P E H t x f=some (v,H'))(hx:∀ a,E x=some a→VRel ρ a (ev x))(hH:HRel ρ H w)(hd:Dom ρ H.n):St H H'∧OpS P ρ ev H w (.fieldAddr t x f) v H':=by
 unfold yFld at h
 rw [ab6] at h
 split at h
 ·rename_i fs a hu hx'
  split at h
  ·rename_i fl hf
   split at h
   ·rename_i ag n hs
    split at h
    ·cases h
    ·rename_i hn
     obtain⟨c,hc,e⟩:=map_some h
     cases e
     have hr:=hx _ hx'
     unfold fldY at hc
     split at hc
     ·rename_i ws G e i off
      cases hc
      obtain⟨hG,b,o,cap,h1,h2,h3,hev⟩:=hr
      refine⟨St.refl H,OpS.val hH hd (u:=.pointer (some ⟨b,o+(den i).iv.toNat*ws.length+(off+fl.offset),none⟩)) ⟨hG,b,o,cap,h1,h2,h3,rfl⟩ fun dst ty pos after guard=>adb ?_⟩
      simp only [Instr.fieldAt,Sem.run_bind,run_underlying hu,Result.andThen_ok,hf,hev,Instr.sureAddr,Sem.run_pure,fieldPlace,run_sizeOf hs,if_neg hn,Sem.run_ite,abl,Nat.add_assoc]
     ·rename_i b s i off
      cases hc
      obtain⟨L,h1,h2,hev⟩:=hr
      refine⟨St.refl H,OpS.val hH hd (u:=.pointer (some ⟨L.B,L.o+((den i).iv.toNat*s+(off+fl.offset)),none⟩)) ⟨L,h1,h2,rfl⟩ fun dst ty pos after guard=>adb ?_⟩
      simp only [Instr.fieldAt,Sem.run_bind,run_underlying hu,Result.andThen_ok,hf,hev,Instr.sureAddr,Sem.run_pure,fieldPlace,run_sizeOf hs,if_neg hn,Sem.run_ite,abl,Nat.add_assoc]
     ·cases hc
   ·cases h
  ·cases h
 ·cases h
theorem RS.beg{s:Srt}{G:List Nat}{d:CD}{u:Value}(h:RS (ρ.at G) s d u):RS (ρ.at (Go.Sx.beg s G)) s d u:=by
 cases s<;>exact h
theorem bho{s:Srt}{G:List Nat}{g:Nat}(h:g∈beg s G):g∈G:=by
 cases s<;>first | exact h | cases h
theorem aip{ws:List Srt}{G:List Nat}{e i:X}{f:Nat→Option Value}{row:List CD}(hG:∀ g∈G,∃ L,ρ g=some L)(hrow:(den e).rows[(den i).iv.toNat]? = some row)(hr:RSs (ρ.at G) ws row f) :
  ∀ (n off:Nat) {cs:List Cel},a5f ws G e i off n=some cs→∃ us:List Value,us.length=n∧All2 (CRel ρ) cs us∧∀ j u,us[j]? = some u→f (off+j)=some u
 | 0,off,cs,h=>by cases h;exact⟨[],rfl,trivial,fun j u h=>by simp at h⟩
 | n+1,off,cs,h=>by
  simp only [a5f] at h
  split at h
  ·rename_i s hs
   split at h
   ·rename_i r hr'
    cases h
    obtain⟨us,h1,h2,h3⟩:=aip hG hrow hr n (off+1) hr'
    obtain⟨u,h4,h5⟩:=hr.get off s hs
    refine⟨u::us,by simp [h1],⟨⟨fun g hg=>hG g (bho hg),?_⟩,h2⟩,fun j y hj=>?_⟩
    ·refine RS.beg ?_
     show RS (ρ.at G) s ((den e).cell (den i).iv off) u
     unfold CD.cell
     rw [show(den e).rows.getD (den i).iv.toNat []=row by rw [Gd,hrow];rfl]
     exact h5
    ·cases j with
     | zero=>simp at hj;subst hj;exact h4
     | succ j =>
      simp only [List.getElem?_cons_succ] at hj
      have:=h3 j y hj
      rw [show off+(j+1)=off+1+j by omega]
      exact this
   ·cases h
  ·cases h
theorem a8y{t:TypeId}{x:Operand}(h:bk8 P E H t x=some (v,H'))(hx:∀ a,E x=some a→VRel ρ a (ev x))(hH:HRel ρ H w)(hj:J ρ H w) :
  H'=H∧∃ u,VRel ρ v u∧∀ dst ty pos after guard,(execOp ev ⟨dst,.load t x,ty,pos,after,guard⟩).run P w=.ok (.value u) w:=by
 unfold bk8 at h
 split at h
 ·rename_i a ag n hxa hs
  obtain⟨v',hv,e⟩:=map_some h
  cases e
  obtain⟨cs,hcs,hm⟩:=aa8 hv
  refine⟨rfl,?_⟩
  have hr:=hx _ hxa
  unfold ay5 at hcs
  split at hcs
  ·rename_i ws G e i off
   obtain⟨hG,b,o,cap,h1,h2,h3,hev⟩:=hr
   have hi:(den i).iv.toNat<(den e).rows.length:=by omega
   rcases(show(den e=.sl true []∧_)∨_ from h1) with ⟨e1,_⟩ | ⟨rows,b',off',cap',e1,e2,e3,e4,e5⟩ | ⟨_,e1,_⟩
   rotate_right
   ·rw [e1] at hi;simp [CD.rows] at hi
   ·rw [e1] at hi;simp [CD.rows] at hi
   ·have hrows:(den e).rows=rows:=by rw [e1];rfl
    rw [hrows] at hi
    simp only [Value.slice.injEq,Oi,Addr.mk.injEq,and_true] at e2
    obtain⟨⟨rfl,rfl⟩,_,rfl⟩:=e2
    obtain⟨arr,tt,fr,g1,g2⟩:=e5 (fun hh=>by rw [hh] at hi;simp at hi)
    have hob:=hj.obj g1.1
    have hrow:rows[(den i).iv.toNat]? = some rows[(den i).iv.toNat]:=Gl hi
    obtain⟨us,k1,k2,k3⟩:=aip hG (by rw [hrows];exact hrow) (g2 _ _ hrow) _ _ hcs
    refine⟨mkV ag us,ap6 hm k2,fun dst ty pos after guard=>adb ?_⟩
    simp only [Instr.loadAt,hev,Instr.sureAddr,Sem.run_bind,Sem.run_pure,Result.andThen_ok]
    refine aes hs k1 fun j u hu=>?_
    rw [cell?_of hob]
    have:=k3 j u hu
    rw [← this]
    congr 1
    omega
  ·rename_i b s i off
   obtain⟨L,h1,h2,hev⟩:=hr
   split at hcs
   ·rename_i ws G e nb hrw
    split at hcs
    ·rename_i hok
     rw [Ba] at hok
     have k1:=Nb hok.1
     have k2:(den i).iv<(den nb).iv:=agh hH.hy hok.2
     obtain⟨_,hG,hnb,arr,tt,fr,e1,e2,e3,e4,e5,e6⟩:=hH.rel b 0 _ L (abm hrw).1 h1
     have hi:(den i).iv.toNat<(den e).rows.length:=by omega
     have hrow:(den e).rows[(den i).iv.toNat]? = some (den e).rows[(den i).iv.toNat]:=Gl hi
     obtain⟨us,q1,q2,q3⟩:=aip hG hrow (e6 _ _ hrow) _ _ hcs
     refine⟨mkV ag us,ap6 hm q2,fun dst ty pos after guard=>adb ?_⟩
     simp only [Instr.loadAt,hev,Instr.sureAddr,Sem.run_bind,Sem.run_pure,Result.andThen_ok]
     refine aes hs q1 fun j u hu=>?_
     rw [cell?_of e1]
     have:=q3 j u hu
     rw [← this,k1]
     congr 1
     omega
    ·cases hcs
   ·cases hcs
  ·cases hcs
 ·cases h
theorem au4{d:X}{o:Option Operand}{e:X}(h:bndX E d o=some e)(hx:∀ z,o=some z→∀ a,E z=some a→VRel ρ a (ev z)):(o=none∧e=d)∨∃ z k,o=some z∧ev z=.int k (den e).iv:=by
 cases o with
 | none=>cases h;exact .inl ⟨rfl,rfl⟩
 | some z =>
  simp only [bndX] at h
  split at h
  ·rename_i k e' hz
   cases h
   obtain⟨ci,hci,hki⟩:=aa8 hz
   have hri:CRel ρ ci (ev z):=hx z rfl _ (ae5 hci)
   obtain⟨_,_,hei,_⟩:=ael hki hri
   exact .inr ⟨z,k,rfl,hei⟩
  ·cases h
theorem auc{d:X}{o:Option Operand}{e:X}(h:bndX E d o=some e)(h0:0≤(den e).iv)(hx:∀ z,o=some z→∀ a,E z=some a→VRel ρ a (ev z)):BRel (o.map fun _=>(den e).iv.toNat) (o.map ev):=by
 rcases au4 h hx with ⟨rfl,rfl⟩ | ⟨z,k,rfl,hz⟩
 ·trivial
 ·exact⟨k,by rw [hz,Int.toNat_of_nonneg h0]⟩
theorem bz3{t:TypeId}{x:Operand}{lo hi mx:Option Operand}(h:ySl P E H t x lo hi mx=some (v,H'))(hx:∀ z,(z=x∨lo=some z∨hi=some z∨mx=some z)→∀ a,E z=some a→VRel ρ a (ev z))(hH:HRel ρ H w)(hd:Dom ρ H.n):St H H'∧OpS P ρ ev H w (.slice t x lo hi mx) v H':=by
 unfold ySl at h
 rw [ab6] at h
 split at h
 ·rename_i el ws G e hu hxe
  split at h
  ·rename_i ag s l u hs hl hh
   split at h
   ·rename_i hok
    cases h
    simp only [Ba] at hok
    obtain⟨k1,k2,k3,k4⟩:=hok
    have k1:=Nb k1
    have k2:(0:Int)≤(den l).iv:=acu hH.hy k2
    have k3:(den l).iv≤(den u).iv:=acu hH.hy k3
    have k4:(den u).iv≤((den e).len:Int):=acu hH.hy k4
    have bl:=auc hl k2 (ρ:=ρ) (ev:=ev) fun z hz=>hx z (.inr (.inl hz))
    have bh:=auc hh (by omega) (ρ:=ρ) (ev:=ev) fun z hz=>hx z (.inr (.inr (.inl hz)))
    have gl:=au4 hl (ρ:=ρ) (ev:=ev) fun z hz=>hx z (.inr (.inl hz))
    have gh:=au4 hh (ρ:=ρ) (ev:=ev) fun z hz=>hx z (.inr (.inr (.inl hz)))
    obtain⟨hG,hrs⟩:CRel ρ (.sv (.sl ws) G e) (ev x):=hx x (.inl rfl) _ (ae5 hxe)
    have hlen:=hrs.slice.2.1
    have el0:(lo.map fun _=>(den l).iv.toNat).getD 0=(den l).iv.toNat:=by
     rcases gl with ⟨rfl,rfl⟩ | ⟨z,k,rfl,_⟩<;>rfl
    have ehi:(hi.map fun _=>(den u).iv.toNat).getD (den e).rows.length=(den u).iv.toNat:=by
     rcases gh with ⟨rfl,rfl⟩ | ⟨z,k,rfl,_⟩
     ·show _=((den e).len:Int).toNat
      rw [hlen];simp
     ·rfl
    have hden:den (cutE hi e l u)=.sl (den e).isNil (((den e).rows.take (den u).iv.toNat).drop (den l).iv.toNat):=by
     cases hi with
     | some z=>rfl
     | none =>
      have hu':u=lenE e:=by
       unfold bndX at hh
       exact(Option.some.inj hh).symm
      have e1:(den u).iv.toNat=(den e).rows.length:=by
       rw [hu']
       show(((den e).len:Int)).toNat=_
       rw [hlen];simp
      have e2:den (cutE none e l u)=.sl (den e).isNil (((den e).rows.take 9223372036854775807).drop (den l).iv.toNat):=rfl
      rw [e2,e1,List.take_of_length_le (Rl _),List.take_of_length_le hrs.slice.1]
    have go:∀ (ad:Option Addr) (cap:Nat),ev x=.slice ad (den e).rows.length cap→(den e).rows.length≤cap→∀ dst ty pos after guard,(execOp ev ⟨dst,.slice t x lo hi none,ty,pos,after,guard⟩).run P w=.ok (.value (.slice (if cap=(den l).iv.toNat then ad else ad.map (·.add ((den l).iv.toNat*s))) ((den u).iv.toNat - (den l).iv.toNat) (cap - (den l).iv.toNat))) w:=by
     intro ad cap hev hc dst ty pos after guard
     have:=ab9 (P:=P) (w:=w) (isS:=true) (len:=(den e).rows.length) (cap:=cap) bl bh (show BRel none none from trivial) (.inl rfl) (by simp) (.inl (by rw [ehi];simp only [Option.getD_none];omega)) (by rw [el0,ehi];omega)
     rw [el0,ehi] at this
     simp only [Option.getD_none] at this
     refine adb ?_
     simp only [Instr.sliceAt,Instr.slice,hev,Option.map_none,Sem.run_bind,run_underlying hu,Result.andThen_ok,this,run_sizeOf hs,Sem.run_pure]
    rcases(show(den e=.sl true []∧ev x=.slice none 0 0)∨_ from hrs) with ⟨e1,e2⟩ | ⟨rows,b,off,cap,e1,e2,e3,e4,e5⟩ | ⟨ad,e1,e2⟩
    rotate_right
    ·have z1:(den e).rows.length=0:=by rw [e1];rfl
     have:=go (some ad) 0 (by rw [e2,z1]) (by omega)
     refine⟨St.refl H,OpS.val hH hd (u:=.slice (some ad) 0 0) ⟨hG,.inr (.inr ⟨ad,?_,rfl⟩)⟩ fun dst ty pos after guard=>?_⟩
     ·rw [hden,e1];simp [CD.isNil,CD.rows]
     ·rw [this dst ty pos after guard]
      have:(den u).iv.toNat=0:=by omega
      have:(den l).iv.toNat=0:=by omega
      simp [*]
    ·have z1:(den e).rows.length=0:=by rw [e1];rfl
     have:=go none 0 (by rw [e2,z1]) (by omega)
     refine⟨St.refl H,OpS.val hH hd (u:=.slice none 0 0) ⟨hG,.inl ⟨?_,rfl⟩⟩ fun dst ty pos after guard=>?_⟩
     ·rw [hden,e1];simp [CD.isNil,CD.rows]
     ·rw [this dst ty pos after guard]
      have:(den u).iv.toNat=0:=by omega
      have:(den l).iv.toNat=0:=by omega
      simp [*]
    ·have z1:(den e).rows=rows:=by rw [e1];rfl
     have:=go (some ⟨b,off,none⟩) cap (by rw [e2,z1]) (by rw [z1];exact e3)
     have hlr:(((den e).rows.take (den u).iv.toNat).drop (den l).iv.toNat).length=(den u).iv.toNat - (den l).iv.toNat:=by
      rw [List.length_drop,List.length_take];omega
     have hni:(den e).isNil=false:=by rw [e1];rfl
     have hrow:∀ i row,(((den e).rows.take (den u).iv.toNat).drop (den l).iv.toNat)[i]? = some row→rows[(den l).iv.toNat+i]? = some row:=by
      intro i row hi
      rw [List.getElem?_drop,List.getElem?_take] at hi
      split at hi
      ·rw [← z1];exact hi
      ·cases hi
     refine⟨St.refl H,OpS.val hH hd ?_ this⟩
     refine⟨hG,.inr (.inl ⟨_,b,if cap=(den l).iv.toNat then off else off+(den l).iv.toNat*s,cap - (den l).iv.toNat,by rw [hden,hni],?_,by rw [hlr];rw [z1] at hlen;omega,by omega,?_⟩)⟩
     ·rw [hlr]
      split
      ·rfl
      ·simp only [Option.map_some,abl]
     ·intro hne
      have hr:rows≠[]:=by
       intro h0
       apply hne
       rw [z1,h0];simp
      obtain⟨arr,tt,fr,f1,f2⟩:=e5 hr
      refine⟨arr,tt,fr,⟨f1.1,?_⟩,fun i row hi=>?_⟩
      ·have f1:=f1.2
       rw [← k1]
       have hle:(den l).iv.toNat≤cap:=by rw [z1] at hlen;omega
       have hms:(den l).iv.toNat*s+(cap - (den l).iv.toNat)*s=cap*s:=by rw [← Nat.add_mul];congr 1;omega
       rw [← k1] at f1
       split<;>omega
      have hlt:i<(den u).iv.toNat - (den l).iv.toNat:=by
       rw [← hlr]
       exact(Ls.1 hi).1
      rw [if_neg (by rw [z1] at hlen;omega)]
      have:=f2 _ row (hrow i row hi)
      refine this.congr fun j _=>?_
      congr 1
      rw [k1,Nat.add_mul]
      omega
   ·cases h
  ·cases h
 ·cases h
theorem bk9{mn:Bool}{args:Array Operand}{ats:Array TypeId}(h:yMax E H mn args=some (v,H'))(hx:∀ z∈args.toList,∀ a,E z=some a→VRel ρ a (ev z))(hH:HRel ρ H w)(hd:Dom ρ H.n) :
  St H H'∧OpS P ρ ev H w (.call ⟨.builtin (if mn then .min else .max),args,ats⟩) v H':=by
 unfold yMax at h
 split at h
 ·rename_i c c' hl
  split at h
  ·rename_i k a k' b hc hc'
   split at h
   ·rename_i hk
    subst hk
    cases h
    have hus:=acv (ρ:=ρ) (ev:=ev) hx hl
    match hargs:args.toList,hus with
    | [x,y],hus =>
     obtain⟨r1,r2,_⟩:=hus
     obtain⟨_,d1,u1,o1⟩:=ael hc r1
     obtain⟨_,d2,u2,o2⟩:=ael hc' r2
     have hargs':args = #[x,y]:=by rw [← Array.toList_inj];simpa using hargs
     subst hargs'
     cases mn with
     | false =>
      have hd':den (.ap .ite [.ap .lt [a,b],b,a])=.v (.int k (if(den a).iv<(den b).iv then(den b).iv else(den a).iv)):=by
       show(if(decide ((den a).iv<(den b).iv))=true then den b else den a)=_
       split
       ·rename_i hh;rw [if_pos (of_decide_eq_true hh),← d2]
       ·rename_i hh;rw [if_neg (by simpa using hh),← d1]
      refine⟨St.refl H,OpS.val hH hd (u:=.int k (if(den a).iv<(den b).iv then(den b).iv else(den a).iv)) (ac9 hd' (by split<;>assumption)) fun dst ty pos after guard=>?_⟩
      simp [execOp,resolve,invoke,builtin,Builtin.max_,u1,u2,Builtin.max2]
     | true =>
      have hd':den (.ap .ite [.ap .lt [b,a],b,a])=.v (.int k (if(den b).iv<(den a).iv then(den b).iv else(den a).iv)):=by
       show(if(decide ((den b).iv<(den a).iv))=true then den b else den a)=_
       split
       ·rename_i hh;rw [if_pos (of_decide_eq_true hh),← d2]
       ·rename_i hh;rw [if_neg (by simpa using hh),← d1]
      refine⟨St.refl H,OpS.val hH hd (u:=.int k (if(den b).iv<(den a).iv then(den b).iv else(den a).iv)) (ac9 hd' (by split<;>assumption)) fun dst ty pos after guard=>?_⟩
      simp [execOp,resolve,invoke,builtin,Builtin.min_,u1,u2,Builtin.min2]
   ·cases h
  ·cases h
 ·cases h
theorem a8c{a:Option AV}{e:X}(h:(oneC a).bind sX=some e):∃ c,a=some (.one c)∧sX c=some e:=by
 obtain⟨c,h1,h2⟩:=Option.bind_eq_some_iff.1 h
 exact⟨c,ae5 h1,h2⟩
theorem bg4{a:Option AV}{p:IntKind×X}(h:(oneC a).bind iX=some p):∃ c,a=some (.one c)∧iX c=some p:=by
 obtain⟨c,h1,h2⟩:=Option.bind_eq_some_iff.1 h
 exact⟨c,ae5 h1,h2⟩
theorem a4c(e:X)(h:(den e).str.size≤maxN):(den (.ap .slen [e])).iv=((den e).str.size:Int):=by
 show(((den e).slen:Nat):Int)=_
 unfold CD.slen
 rw [ai9 h]
theorem bvi{s:ByteArray}{n:Nat}(h:n<s.size):s[n]? = some (s.toList.getD n 0):=by
 rw [ByteArray.toList_eq,Gd,Array.getElem?_toList]
 have:n<s.data.size:=h
 rw [Array.getElem?_eq_getElem this]
 show s[n]? = some s.data[n]
 rw [getElem?_pos s n h]
 rfl
theorem bvj(s:ByteArray)(l h:Nat):s.extract l h=⟨((s.toList.take h).drop l).toArray⟩:=by
 apply ByteArray.ext
 rw [ByteArray.data_extract,ByteArray.toList_eq]
 apply Array.ext'
 rw [Array.toList_extract,List.toList_toArray]
 show List.extract _ _ _=_
 rw [List.extract_eq_take_drop,List.drop_take]
theorem bg8{hy:List X}(hh:Holds hy){x:X}(h:isIh hy x=true):∃ k,den x=.v (.int k (den x).iv):=by
 unfold isIh at h
 rw [Bool.or_eq_true] at h
 rcases h with h | h
 ·exact bg7 h
 ·have h1:=hh _ (akp h)
  have h2:Typ (.int .i64) (den x):=@of_decide_eq_true _ (Classical.propDecidable _) h1
  obtain⟨m,u,n,h3,_⟩:=h2
  exact⟨.i64,by rw [h3];rfl⟩
theorem bxp{hy:List X}(hh:Holds hy){a b:X}(h:neX hy a b=true):(den a).iv<(den b).iv:=by
 unfold neX at h
 simp only [Ba] at h
 obtain⟨h1,h2,h3,h4⟩:=h
 have k1:=acu hh h2
 obtain⟨k,e1⟩:=bg8 hh h3
 obtain⟨k',e2⟩:=bg8 hh h4
 have h5:(den (.ap .not [.ap .eq [a,b]])).bv=true:=hh _ (akp h1)
 have h6:eqC (den a) (den b)=false:=by
  have:(!eqC (den a) (den b))=true:=h5
  simpa using this
 rw [e1,e2] at h6
 have h7:decide ((den a).iv=(den b).iv)=false:=h6
 have h8:=of_decide_eq_false h7
 omega
theorem bz2{t:TypeId}{x i:Operand}(h:yAt P E H t x i=some (v,H'))(hx:∀ z,z=x∨z=i→∀ a,E z=some a→VRel ρ a (ev z))(hH:HRel ρ H w)(hd:Dom ρ H.n):St H H'∧OpS P ρ ev H w (.index t x i) v H':=by
 unfold yAt at h
 rw [ab6] at h
 split at h
 ·rename_i e k ie hu hxe hie
  split at h
  ·rename_i hok
   cases h
   rw [Ba] at hok
   obtain⟨c1,a1,a2⟩:=a8c hxe
   obtain⟨c2,b1,b2⟩:=bg4 hie
   obtain⟨_,s1,s2,s3⟩:=ash a2 (hx x (.inl rfl) _ a1)
   obtain⟨_,i1,i2,i3⟩:=ael b2 (hx i (.inr rfl) _ b1)
   have k1:(0:Int)≤(den ie).iv:=acu hH.hy hok.1
   have k2:(den ie).iv<(den (.ap .slen [e])).iv:=(Bool.or_eq_true _ _ ▸ hok.2:ltX H.hy ie (.ap .slen [e])=true∨neX H.hy ie (.ap .slen [e])=true).elim (agh hH.hy) (bxp hH.hy)
   rw [a4c e s3] at k2
   have hb:=bvi (s:=(den e).str) (n:=(den ie).iv.toNat) (by omega)
   refine⟨St.refl H,OpS.val hH hd (u:=.int .u8 ((den e).str.toList.getD (den ie).iv.toNat 0).toNat) (ac9 (ρ:=ρ) rfl (bou _)) fun dst ty pos after guard=>adb ?_⟩
   simp only [Instr.index,i2,s2,asIntOf,Sem.run_bind,Sem.run_pure,Result.andThen_ok,run_underlying hu,if_pos k1,hb]
  ·cases h
 ·cases h
theorem bu1{t:TypeId}{x:Operand}{lo hi mx:Option Operand}(h:ySub P E H t x lo hi mx=some (v,H'))(hx:∀ z,(z=x∨lo=some z∨hi=some z∨mx=some z)→∀ a,E z=some a→VRel ρ a (ev z))(hH:HRel ρ H w)(hd:Dom ρ H.n):St H H'∧OpS P ρ ev H w (.slice t x lo hi mx) v H':=by
 unfold ySub at h
 rw [ab6] at h
 split at h
 ·rename_i e hu hxe
  split at h
  ·rename_i l u hl hh
   split at h
   ·rename_i hok
    cases h
    simp only [Ba] at hok
    obtain⟨c1,a1,a2⟩:=a8c hxe
    obtain⟨_,s1,s2,s3⟩:=ash a2 (hx x (.inl rfl) _ a1)
    have k2:(0:Int)≤(den l).iv:=acu hH.hy hok.1
    have k3:(den l).iv≤(den u).iv:=acu hH.hy hok.2.1
    have k4:(den u).iv≤(den (.ap .slen [e])).iv:=acu hH.hy hok.2.2
    rw [a4c e s3] at k4
    have bl:=auc hl k2 (ρ:=ρ) (ev:=ev) fun z hz=>hx z (.inr (.inl hz))
    have bh:=auc hh (by omega) (ρ:=ρ) (ev:=ev) fun z hz=>hx z (.inr (.inr (.inl hz)))
    have gl:=au4 hl (ρ:=ρ) (ev:=ev) fun z hz=>hx z (.inr (.inl hz))
    have gh:=au4 hh (ρ:=ρ) (ev:=ev) fun z hz=>hx z (.inr (.inr (.inl hz)))
    have el0:(lo.map fun _=>(den l).iv.toNat).getD 0=(den l).iv.toNat:=by
     rcases gl with ⟨rfl,rfl⟩ | ⟨z,k,rfl,_⟩<;>rfl
    have ehi:(hi.map fun _=>(den u).iv.toNat).getD (den e).str.size=(den u).iv.toNat:=by
     rcases gh with ⟨rfl,rfl⟩ | ⟨z,k,rfl,_⟩
     ·show _=(den (.ap .slen [e])).iv.toNat
      rw [a4c e s3];simp
     ·rfl
    have:=ab9 (P:=P) (w:=w) (isS:=false) (len:=(den e).str.size) (cap:=(den e).str.size) bl bh (show BRel none none from trivial) (.inl rfl) (by simp) (.inl (by rw [ehi];simp only [Option.getD_none];omega)) (by rw [el0,ehi];omega)
    rw [el0,ehi] at this
    simp only [Option.getD_none] at this
    refine⟨St.refl H,OpS.val hH hd (u:=.string ((den e).str.extract (den l).iv.toNat (den u).iv.toNat)) (bau (ρ:=ρ) (by rw [bvj];rfl) (by simp only [abw,Dt,ByteArray.size_extract];have hM:maxN=9223372036854775807:=rfl;omega)) fun dst ty pos after guard=>adb ?_⟩
    simp only [Instr.sliceAt,Sem.run_bind,run_underlying hu,Result.andThen_ok,Instr.slice,s2,Option.map_none,Option.isSome_none,Bool.false_eq_true,if_false,this,Sem.run_pure]
   ·cases h
  ·cases h
 ·cases h
end
end Go.Sx
