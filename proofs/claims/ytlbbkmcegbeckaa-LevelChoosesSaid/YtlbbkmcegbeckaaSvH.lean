/-
  A second abstract evaluator of the model's code: slicing, closures made, the greater of two. Conditions: none; nothing here speaks of one program.
-/
import Derived.Test.YtlbbkmcegbeckaaSvE
set_option linter.all false
set_option maxRecDepth 100000
noncomputable section
namespace Go.Sx
variable [Sg]
theorem adb{P:Program}{w:World}{s:Sem Value}{u:Value}{w':World}(h:s.run P w=.ok u w'):(do pure (.value (← s)):Sem Next).run P w=.ok (.value u) w':=by
 rw [Sem.run_bind,h];rfl
theorem bzg{P:Program}{w:World}{s:Sem Unit}{w':World}(h:s.run P w=.ok () w'):(do s;pure .skip:Sem Next).run P w=.ok .skip w':=by
 rw [Sem.run_bind,h];rfl
theorem map_some{α β:Type}{f:α→β}{x:Option α}{y:β}(h:x.map f=some y):∃ a,x=some a∧f a=y:=by
 cases x with
 | none=>cases h
 | some a=>cases h;exact⟨a,rfl,rfl⟩
theorem aa8{α β:Type}{f:α→Option β}{x:Option α}{y:β}(h:x.bind f=some y):∃ a,x=some a∧f a=some y:=by
 cases x with
 | none=>cases h
 | some a=>exact⟨a,rfl,h⟩
theorem a9b{α β:Type}{f:α→Option β}{xs:List α}{y:β}(h:aej (xs.map f)=some [y]):∃ x,xs=[x]∧f x=some y:=by
 match xs,h with
 | [],h=>cases h
 | [x],h =>
  simp only [List.map_cons,List.map_nil,aej] at h
  cases hx:f x with
  | none=>rw [hx] at h;cases h
  | some b=>rw [hx] at h;simp [aej] at h;exact⟨x,rfl,by rw [hx,h]⟩
 | x::x'::xs,h =>
  have:=(ags h).1
  simp at this
theorem agx{ρ:PM}{v:Value}(h:abw v=true):VRel ρ (.one (.lit v)) v:=⟨rfl,h⟩
section
variable {P:Program} [Plain P] {ora:Ora} {E:Operand→Option AV} {H H':HP} {w:World} {ρ:PM} {ev:Operand→Value} {v:AV}
theorem acv:∀ {xs:List Operand} {vs:List AV},(∀ x∈xs,∀ v,E x=some v→VRel ρ v (ev x))→ap3 E xs=some vs→All2 (VRel ρ) vs (xs.map ev)
 | [],vs,_,h=>by cases h;trivial
 | x::xs,vs,hx,h=>by
  simp only [ap3,List.map_cons,aej] at h
  cases h1:E x with
  | none=>rw [h1] at h;cases h
  | some a =>
   rw [h1] at h
   simp only [aej] at h
   obtain⟨r,hr,hv⟩:=map_some h
   subst hv
   exact⟨hx x (Ms ..) a h1,acv (fun y hy=>hx y (Mc _ hy)) hr⟩
theorem al5:∀ {xs:List (Nat×Operand)} {vs:List (Nat×AV)},(∀ p∈xs,∀ v,E p.2=some v→VRel ρ v (ev p.2))→awh E xs=some vs→at7 ρ vs (xs.map fun p=>(p.1,ev p.2))
 | [],vs,_,h=>by cases h;trivial
 | (i,x)::xs,vs,hx,h=>by
  simp only [awh] at h
  cases h1:E x with
  | none=>rw [h1] at h;cases h
  | some a =>
   cases h2:awh E xs with
   | none=>rw [h1,h2] at h;cases h
   | some r =>
    rw [h1,h2] at h
    cases h
    exact⟨⟨rfl,hx (i,x) (Ms ..) a h1⟩,al5 (fun y hy=>hx y (Mc _ hy)) h2⟩
def OpS(P:Program)(ρ:PM)(ev:Operand→Value)(H:HP)(w:World)(op:Op)(v:AV)(H':HP):Prop :=
 ∀ (dst:Option Tmp) (ty:TypeId) (pos:String) (after:Array Edge) (guard:Option (Nat×Bool)),abz P (Post ρ H w v H') ((execOp ev ⟨dst,op,ty,pos,after,guard⟩).run P w)
theorem OpS.val{op:Op}{u:Value}(hH:HRel ρ H w)(hd:Dom ρ H.n)(hv:VRel ρ v u)(h:∀ dst ty pos after guard,(execOp ev ⟨dst,op,ty,pos,after,guard⟩).run P w=.ok (.value u) w):OpS P ρ ev H w op v H:=by
 intro dst ty pos after guard
 rw [h]
 exact⟨ρ,hv,Sim.refl hH hd⟩
theorem auj{x:Operand}(h:bsk E H x=some (v,H'))(hx:∀ a,E x=some a→VRel ρ a (ev x))(hH:HRel ρ H w)(hd:Dom ρ H.n):St H H'∧OpS P ρ ev H w (.move x) v H'∧OpS P ρ ev H w (.assign x) v H':=by
 obtain⟨a,ha,hv⟩:=map_some h
 cases hv
 exact⟨St.refl H,OpS.val hH hd (hx _ ha) fun _ _ _ _ _=>rfl,OpS.val hH hd (hx _ ha) fun _ _ _ _ _=>rfl⟩
theorem bm6{c a b:Operand}(h:bm5 E H c a b=some (v,H'))(hx:∀ x,x=c∨x=a∨x=b→∀ r,E x=some r→VRel ρ r (ev x))(hH:HRel ρ H w)(hd:Dom ρ H.n):St H H'∧OpS P ρ ev H w (.pick c a b) v H':=by
 unfold bm5 at h
 split at h
 ·rename_i t ht
  obtain⟨a',ha,hv⟩:=map_some h
  cases hv
  obtain⟨hc,_⟩:=hx c (.inl rfl) _ ht
  refine⟨St.refl H,OpS.val hH hd (u:=if t then ev a else ev b) ?_ fun dst ty pos after guard=>?_⟩
  ·cases t
   ·exact hx b (.inr (.inr rfl)) _ ha
   ·exact hx a (.inr (.inl rfl)) _ ha
  ·simp only [execOp,hc,asBool]
   cases t<;>rfl
 ·cases h
theorem bhu{t:TypeId}(h:a6q P H t=some (v,H'))(hH:HRel ρ H w)(hd:Dom ρ H.n):St H H'∧OpS P ρ ev H w (.alloc t) v H':=by
 unfold a6q at h
 rw [aja] at h
 split at h
 ·rename_i i hi
  split at h
  ·rename_i z hz
   obtain⟨cs,hcs,hv⟩:=map_some h
   cases hv
   refine⟨St.push _ _,fun dst ty pos after guard=>?_⟩
   have hrun:(execOp ev ⟨dst,.alloc t,ty,pos,after,guard⟩).run P w=.ok (.value (.pointer (some ⟨w.heap.size,0,none⟩))) (w.alloc (.cells z.cells t)):=by
    refine adb ?_
    simp only [Instr.alloc,Sem.run_bind,afa hi hz,Result.andThen_ok,newVar,newRow,run_newObj,Sem.run_pure,World.alloc_eq]
   rw [hrun]
   have hr:=ajd (ρ:=ρ) hcs
   refine⟨_,⟨_,upd_same _ _ _,rfl⟩,Sim.allocC hH hd ?_⟩
   rw [List.take_of_length_le (by have:=hr.length;omega)]
   exact hr
  ·cases h
 ·cases h
theorem bsi{t:TypeId}{x:Operand}(h:oBox E H x=some (v,H'))(hx:∀ a,E x=some a→VRel ρ a (ev x))(hH:HRel ρ H w)(hd:Dom ρ H.n):St H H'∧OpS P ρ ev H w (.box t x) v H':=by
 obtain⟨cs,hcs,hv⟩:=map_some h
 cases hv
 obtain⟨a,ha,hc⟩:=aa8 hcs
 refine⟨St.push _ _,fun dst ty pos after guard=>?_⟩
 have hrun:(execOp ev ⟨dst,.box t x,ty,pos,after,guard⟩).run P w=.ok (.value (.pointer (some ⟨w.heap.size,0,none⟩))) (w.alloc (.cells (ev x).cells t)):=by
  refine adb ?_
  simp only [Instr.box,newVar,newRow,Sem.run_bind,run_newObj,Result.andThen_ok,Sem.run_pure,World.alloc_eq]
 rw [hrun]
 have hr:=(hx _ ha).cels hc
 refine⟨_,⟨_,upd_same _ _ _,rfl⟩,Sim.allocC hH hd ?_⟩
 rw [List.take_of_length_le (by have:=hr.length;omega)]
 exact hr
theorem bhw{t:TypeId}{ps:Array (Nat×Operand)}(h:bp5 P E H t ps=some (v,H'))(hx:∀ p∈ps.toList,∀ a,E p.2=some a→VRel ρ a (ev p.2))(hH:HRel ρ H w)(hd:Dom ρ H.n):St H H'∧OpS P ρ ev H w (.build t ps) v H':=by
 obtain⟨a,ha,hv⟩:=map_some h
 cases hv
 obtain⟨vs,hvs,hb⟩:=aa8 ha
 have hps:=al5 (ρ:=ρ) (ev:=ev) hx hvs
 obtain⟨u,hu,hr⟩:=bfy (w:=w) (qs:=(ps.map fun(i,x)=>(i,ev x))) hb (by simpa using hps)
 exact⟨St.refl H,OpS.val hH hd hr fun dst ty pos after guard=>adb hu⟩
theorem ay6{t:TypeId}{len:Nat}{ps:Array (Nat×Operand)}(h:anb P E H t len ps=some (v,H'))(hx:∀ p∈ps.toList,∀ a,E p.2=some a→VRel ρ a (ev p.2))(hH:HRel ρ H w)(hd:Dom ρ H.n) :
  St H H'∧OpS P ρ ev H w (.buildSlice t len ps) v H':=by
 obtain⟨a,ha,hv⟩:=map_some h
 cases hv
 obtain⟨vs,hvs,hb⟩:=aa8 ha
 have hps:=al5 (ρ:=ρ) (ev:=ev) hx hvs
 obtain⟨⟨e,us,hu,hr⟩,hlen⟩:=amk (w:=w) (qs:=(ps.map fun(i,x)=>(i,ev x))) hb (by simpa using hps)
 refine⟨St.push _ _,fun dst ty pos after guard=>?_⟩
 have hrun:(execOp ev ⟨dst,.buildSlice t len ps,ty,pos,after,guard⟩).run P w=.ok (.value (.slice (some ⟨w.heap.size,0,none⟩) len len)) (w.alloc (.cells us e)):=adb hu
 rw [hrun]
 refine⟨_,⟨⟨_,upd_same _ _ _,rfl⟩,Rl _,hlen⟩,Sim.allocC hH hd ?_⟩
 rw [List.take_of_length_le (by have:=hr.length;omega)]
 exact hr
theorem bm4{t:TypeId}{x:Operand}(h:a92 P E H t x=some (v,H'))(hx:∀ a,E x=some a→VRel ρ a (ev x))(hH:HRel ρ H w)(hd:Dom ρ H.n):St H H'∧OpS P ρ ev H w (.load t x) v H':=by
 unfold a92 at h
 split at h
 ·rename_i b off ag n hx' hs
  obtain⟨a,ha,hv⟩:=map_some h
  cases hv
  obtain⟨cs,hcs,hm⟩:=aa8 ha
  obtain⟨L,hL,hev⟩:=hx _ hx'
  obtain⟨us,hl,hrel,hcell⟩:=HP.read_world hcs hH hL
  refine⟨St.refl H,OpS.val hH hd (ap6 hm hrel) fun dst ty pos after guard=>adb ?_⟩
  simp only [Instr.loadAt,hev,Instr.sureAddr,Sem.run_bind,Sem.run_pure,Result.andThen_ok]
  exact aes hs hl hcell
 ·cases h
theorem bh4{t:TypeId}{x y:Operand}(h:a6s P E H t x y=some (v,H'))(hx:∀ z,z=x∨z=y→∀ a,E z=some a→VRel ρ a (ev z))(hH:HRel ρ H w)(hd:Dom ρ H.n):St H H'∧OpS P ρ ev H w (.store t x y) v H':=by
 unfold a6s at h
 split at h
 ·rename_i b off cs ag n hx' hc hs
  split at h
  ·rename_i hl
   obtain⟨H1,hw,hv⟩:=map_some h
   cases hv
   obtain⟨a,ha,hcs⟩:=aa8 hc
   have hr:=(hx y (.inr rfl) _ ha).cels hcs
   obtain⟨L,hL,hev⟩:=hx x (.inl rfl) _ hx'
   refine⟨St.write hw,fun dst ty pos after guard=>?_⟩
   have hsz:(ev y).cells.size=n:=by
    have:=hr.length
    simp only [Array.length_toList] at this
    omega
   have hrun:(execOp ev ⟨dst,.store t x y,ty,pos,after,guard⟩).run P w=.ok .skip (setRow w L.B (L.o+off) (ev y).cells.toList):=by
    refine bzg ?_
    simp only [Instr.storeAt,hev,Instr.sureAddr,Sem.run_bind,Sem.run_pure,Result.andThen_ok,storeVar,run_sizeOf hs,hsz,ne_eq,not_true_eq_false,if_false]
    exact HP.write_run hH hw hL hr
   rw [hrun]
   exact⟨ρ,apr ρ,Sim.write hH hd hw hL hr⟩
  ·cases h
 ·cases h
theorem bsl{x:Operand}(h:oNil E H x=some (v,H'))(hx:∀ a,E x=some a→VRel ρ a (ev x))(hH:HRel ρ H w)(hd:Dom ρ H.n):St H H'∧OpS P ρ ev H w (.nilCheck x) v H':=by
 unfold oNil at h
 split at h
 ·rename_i b off hx'
  cases h
  obtain⟨L,hL,hev⟩:=hx _ hx'
  refine⟨St.refl H,OpS.val hH hd (u:=.pointer (some ⟨L.B,L.o+off,none⟩)) ⟨L,hL,rfl⟩ fun dst ty pos after guard=>?_⟩
  simp only [execOp,hev]
  rfl
 ·cases h
theorem bh5{op:UnOp}{t:TypeId}{x:Operand}(h:oUn E H op x=some (v,H'))(hx:∀ a,E x=some a→VRel ρ a (ev x))(hH:HRel ρ H w)(hd:Dom ρ H.n):St H H'∧OpS P ρ ev H w (.unOp op t x) v H':=by
 unfold oUn at h
 split at h
 ·rename_i b hx'
  cases h
  obtain⟨hev,_⟩:=hx _ hx'
  refine⟨St.refl H,OpS.val hH hd (agx rfl) fun dst ty pos after guard=>adb ?_⟩
  simp only [hev,Op.unary,Sem.run_pure]
 ·rename_i k n hx'
  cases h
  obtain⟨hev,_⟩:=hx _ hx'
  refine⟨St.refl H,OpS.val hH hd (agx (aol _ _)) fun dst ty pos after guard=>adb ?_⟩
  simp only [hev,Op.unary,Op.intArith,Sem.run_pure]
 ·rename_i k n hx'
  cases h
  obtain⟨hev,_⟩:=hx _ hx'
  refine⟨St.refl H,OpS.val hH hd (agx (aol _ _)) fun dst ty pos after guard=>adb ?_⟩
  simp only [hev,Op.unary]
  cases k<;>simp [Op.intBits,bits,IntKind.signed]
 ·cases h
theorem a2c{t:TypeId}{x:Operand}{f:Nat}(h:al1 P E H t x f=some (v,H'))(hx:∀ a,E x=some a→VRel ρ a (ev x))(hH:HRel ρ H w)(hd:Dom ρ H.n):St H H'∧OpS P ρ ev H w (.fieldAddr t x f) v H':=by
 unfold al1 at h
 rw [ab6] at h
 split at h
 ·rename_i fs b off hu hx'
  split at h
  ·rename_i fl hf
   split at h
   ·rename_i ag n hs
    split at h
    ·cases h
    ·rename_i hn
     cases h
     obtain⟨L,hL,hev⟩:=hx _ hx'
     refine⟨St.refl H,OpS.val hH hd (u:=.pointer (some ⟨L.B,L.o+(off+fl.offset),none⟩)) ⟨L,hL,rfl⟩ fun dst ty pos after guard=>adb ?_⟩
     simp only [Instr.fieldAt,Sem.run_bind,run_underlying hu,Result.andThen_ok,hf,hev,Instr.sureAddr,Sem.run_pure,fieldPlace,run_sizeOf hs,if_neg hn,Sem.run_ite,abl,Nat.add_assoc]
   ·cases h
  ·cases h
 ·cases h
theorem bh0{t:TypeId}{x:Operand}{f:Nat}(h:bcn P E H t x f=some (v,H'))(hx:∀ a,E x=some a→VRel ρ a (ev x))(hH:HRel ρ H w)(hd:Dom ρ H.n):St H H'∧OpS P ρ ev H w (.field t x f) v H':=by
 unfold bcn at h
 rw [ab6] at h
 split at h
 ·rename_i fs xs hu hx'
  split at h
  ·rename_i fl hf
   split at h
   ·rename_i ag n hs
    split at h
    ·rename_i hle
     obtain⟨a,ha,hv⟩:=map_some h
     cases hv
     obtain⟨us,hev,hrel⟩:=hx _ hx'
     have hl:=hrel.length
     have hp:=al8 (P:=P) (w:=w) (us:=us.toList) hs (off:=fl.offset) (by omega)
     simp only [Array.toArray_toList] at hp
     refine⟨St.refl H,OpS.val hH hd (ap6 ha (hrel.cut _ _)) fun dst ty pos after guard=>adb ?_⟩
     simp only [Instr.field,Sem.run_bind,run_underlying hu,Result.andThen_ok,hf,hev,asAgg,Sem.run_pure,hp]
    ·cases h
   ·cases h
  ·cases h
 ·cases h
theorem aon{a:AV}{b off len:Nat}{u:Value}(h:a4x a=some (b,off,len))(hr:VRel ρ a u):∃ L cap,ρ b=some L∧u=.slice (some ⟨L.B,L.o+off,none⟩) len cap∧len≤cap∧cap≤9223372036854775807:=by
 unfold a4x at h
 split at h
 ·cases h
  obtain⟨⟨L,h1,h2⟩,h3,h4⟩:=hr
  exact⟨L,_,h1,h2,h3,h4⟩
 ·cases h
  obtain⟨L,cap,h1,h2,h3,h4,_⟩:=hr
  exact⟨L,cap,h1,h2,h3,h4⟩
 ·cases h
theorem bbx{n:Int}{len:Nat}(h:inA n len=true):0≤n∧n<len:=by
 unfold inA at h
 split at h
 ·rename_i j
  have:j+1≤len:=Nl h
  constructor
  ·exact Int.natCast_nonneg j
  ·show(j:Int)<len
   omega
 ·cases h
theorem a2d{t:TypeId}{x i:Operand}(h:al2 P E H t x i=some (v,H'))(hx:∀ z,z=x∨z=i→∀ a,E z=some a→VRel ρ a (ev z))(hH:HRel ρ H w)(hd:Dom ρ H.n):St H H'∧OpS P ρ ev H w (.indexAddr t x i) v H':=by
 unfold al2 at h
 rw [ab6] at h
 split at h
 ·rename_i e a k n hu hx' hi'
  split at h
  ·rename_i b off len ag s hb hs
   split at h
   ·rename_i hn
    have hn:=bbx hn
    cases h
    obtain⟨L,cap,hL,hev,_⟩:=aon hb (hx x (.inl rfl) _ hx')
    obtain⟨hei,_⟩:=hx i (.inr rfl) _ hi'
    refine⟨St.refl H,OpS.val hH hd (u:=.pointer (some ⟨L.B,L.o+(off+n.toNat*s),none⟩)) ⟨L,hL,rfl⟩ fun dst ty pos after guard=>adb ?_⟩
    simp only [Instr.indexAt,hei,hev,asIntOf,Sem.run_bind,Sem.run_pure,Result.andThen_ok,run_underlying hu,if_pos hn,run_sizeOf hs,abl,Nat.add_assoc]
   ·cases h
  ·cases h
 ·rename_i len e b off k n hu hx' hi'
  split at h
  ·rename_i ag s hs
   split at h
   ·rename_i hn
    have hn:=bbx hn
    cases h
    obtain⟨L,hL,hev⟩:=hx x (.inl rfl) _ hx'
    obtain⟨hei,_⟩:=hx i (.inr rfl) _ hi'
    refine⟨St.refl H,OpS.val hH hd (u:=.pointer (some ⟨L.B,L.o+(off+n.toNat*s),none⟩)) ⟨L,hL,rfl⟩ fun dst ty pos after guard=>adb ?_⟩
    simp only [Instr.indexAt,hei,hev,asIntOf,Sem.run_bind,Sem.run_pure,Result.andThen_ok,run_underlying hu,Instr.sureAddr,if_pos hn,run_sizeOf hs,abl,Nat.add_assoc]
   ·cases h
  ·cases h
 ·cases h
theorem bou(b:UInt8):abw (.int .u8 b.toNat)=true:=by
 have:=b.toNat_lt
 simp only [abw,Ba,Dt]
 have h1:IntKind.u8.min=0:=by decide
 have h2:IntKind.u8.max=255:=by decide
 omega
theorem bh2{t:TypeId}{x i:Operand}(h:bcp P E H t x i=some (v,H'))(hx:∀ z,z=x∨z=i→∀ a,E z=some a→VRel ρ a (ev z))(hH:HRel ρ H w)(hd:Dom ρ H.n):St H H'∧OpS P ρ ev H w (.index t x i) v H':=by
 unfold bcp at h
 rw [ab6] at h
 split at h
 ·rename_i s k n hu hx' hi'
  split at h
  ·rename_i hn
   split at h
   ·rename_i b hb
    cases h
    obtain⟨hev,_⟩:=hx x (.inl rfl) _ hx'
    obtain⟨hei,_⟩:=hx i (.inr rfl) _ hi'
    refine⟨St.refl H,OpS.val hH hd (agx (bou b)) fun dst ty pos after guard=>adb ?_⟩
    simp only [Instr.index,hei,hev,asIntOf,Sem.run_bind,Sem.run_pure,Result.andThen_ok,run_underlying hu,if_pos hn,hb]
   ·cases h
  ·cases h
 ·rename_i len e xs k n hu hx' hi'
  split at h
  ·rename_i ag s hs
   split at h
   ·rename_i hn
    obtain⟨a,ha,hv⟩:=map_some h
    cases hv
    obtain⟨us,hev,hrel⟩:=hx x (.inl rfl) _ hx'
    obtain⟨hei,_⟩:=hx i (.inr rfl) _ hi'
    have hl:=hrel.length
    have hp:=al8 (P:=P) (w:=w) (us:=us.toList) hs (off:=n.toNat*s) (by omega)
    simp only [Array.toArray_toList] at hp
    refine⟨St.refl H,OpS.val hH hd (ap6 ha (hrel.cut _ _)) fun dst ty pos after guard=>adb ?_⟩
    simp only [Instr.index,hei,hev,asIntOf,Sem.run_bind,Sem.run_pure,Result.andThen_ok,run_underlying hu,if_pos (show 0≤n∧n<len from⟨hn.1,hn.2.1⟩),run_sizeOf hs,hp]
   ·cases h
  ·cases h
 ·cases h
theorem a90{x:Operand}{i:Nat}(h:aui E H x i=some (v,H'))(hx:∀ a,E x=some a→VRel ρ a (ev x))(hH:HRel ρ H w)(hd:Dom ρ H.n):St H H'∧OpS P ρ ev H w (.extract x i) v H':=by
 unfold aui at h
 split at h
 ·rename_i vs hx'
  obtain⟨us,hev,hrel⟩:=hx _ hx'
  have key:∀ p,vs[i]? = some p→∃ u,us[i]? = some u∧PRel ρ p u:=fun p hp=>by
   obtain⟨u,hu,hr⟩:=hrel.get i p hp
   exact⟨u,by simpa using hu,hr⟩
  have hrun:∀ u,us[i]? = some u→∀ dst ty pos after guard,(execOp ev ⟨dst,.extract x i,ty,pos,after,guard⟩).run P w=.ok (.value u) w:=fun u hu _ _ _ _ _=>by
   refine adb ?_
   simp only [Instr.extract,hev,hu,Sem.run_pure]
  split at h
  ·rename_i xs hp
   cases h
   obtain⟨u,hu,hr⟩:=key _ hp
   exact⟨St.refl H,OpS.val hH hd (v:=.agg xs) hr (hrun u hu)⟩
  ·rename_i c hp
   cases h
   obtain⟨u,hu,hr⟩:=key _ hp
   exact⟨St.refl H,OpS.val hH hd (v:=.one c) hr (hrun u hu)⟩
  ·cases h
 ·cases h
end
section
variable {P:Program} [Plain P] {ora:Ora} {E:Operand→Option AV} {H H':HP} {w:World} {ρ:PM} {ev:Operand→Value} {v:AV}
theorem bud{op:BinOp}{a b:ByteArray}{r:Value}(t:TypeId)(h:strA op a b=some r):(binOp op t (.string a) (.string b)).run P w=.ok r w∧abw r=true:=by
 unfold strA at h
 split at h
 ·split at h
  ·rename_i hle
   cases h
   have hmax:IntKind.i64.max=9223372036854775807:=by decide
   refine⟨?_,by simp only [abw,Dt,ByteArray.size_append];exact hle⟩
   simp only [binOp,Op.stringOp]
   rw [if_neg (by rw [hmax];omega)]
   rfl
  ·cases h
 all_goals first | (cases h;exact⟨by simp [binOp,Op.stringOp],rfl⟩) | cases h
theorem azv{x:AV}{u:Value}{p:Bool}(h:bb5 x=some p)(hr:VRel ρ x u) :
  (ap9 x=1∧∃ a,u=.pointer a∧a.isNone=p)∨(ap9 x=2∧∃ a n c,u=.slice a n c∧a.isNone=p)∨(ap9 x=3∧∃ r,u=.map r∧r.isNone=p) ∨
  (ap9 x=4∧((u=.nilFunc∧p=true)∨∃ f a c,u=.func f a c∧p=false)):=by
 unfold bb5 at h
 split at h<;>cases h
 ·exact .inl ⟨rfl,none,hr.1,rfl⟩
 ·exact .inr (.inl ⟨rfl,none,_,_,hr.1,rfl⟩)
 ·exact .inr (.inr (.inl ⟨rfl,none,hr.1,rfl⟩))
 ·exact .inr (.inr (.inr ⟨rfl,.inl ⟨hr.1,rfl⟩⟩))
 ·exact .inr (.inr (.inr ⟨rfl,.inr ⟨_,_,_,hr.1,rfl⟩⟩))
 ·obtain⟨L,_,h2⟩:=hr
  exact .inl ⟨rfl,_,h2,rfl⟩
 ·obtain⟨⟨L,_,h2⟩,_⟩:=hr
  exact .inr (.inl ⟨rfl,_,_,_,h2,rfl⟩)
 ·obtain⟨L,cap,_,h2,_⟩:=hr
  exact .inr (.inl ⟨rfl,_,_,_,h2,rfl⟩)
 ·obtain⟨L,off,cap,_,h2,_⟩:=hr
  exact .inr (.inl ⟨rfl,_,_,_,h2,rfl⟩)
 ·obtain⟨us,h2,_⟩:=hr
  exact .inr (.inr (.inr ⟨rfl,.inr ⟨_,_,_,h2,rfl⟩⟩))
 ·obtain⟨L,_,h2⟩:=hr
  exact .inr (.inr (.inl ⟨rfl,_,h2,rfl⟩))
theorem brn{d:Nat}{t e:TypeId}{b:Option Addr}(hu:P.underlying t=some (.pointer e)):(Op.equalIn (d+1) t (.pointer none) (.pointer b)).run P w=.ok b.isNone w:=by simp [Op.equalIn,run_underlying hu]
theorem bro{d:Nat}{t e:TypeId}{a:Addr}(hu:P.underlying t=some (.pointer e)):(Op.equalIn (d+1) t (.pointer (some a)) (.pointer none)).run P w=.ok false w:=by simp [Op.equalIn,run_underlying hu]
theorem bpn{d:Nat}{t e:TypeId}{b:Option Addr}{n c n' c':Nat}(hu:P.underlying t=some (.slice e)):(Op.equalIn (d+1) t (.slice none n c) (.slice b n' c')).run P w=.ok b.isNone w:=by simp [Op.equalIn,run_underlying hu]
theorem bpo{d:Nat}{t e:TypeId}{a:Addr}{n c n' c':Nat}(hu:P.underlying t=some (.slice e)):(Op.equalIn (d+1) t (.slice (some a) n c) (.slice none n' c')).run P w=.ok false w:=by simp [Op.equalIn,run_underlying hu]
theorem bwc{d:Nat}{t e f:TypeId}{b:Option Nat}(hu:P.underlying t=some (.map e f)):(Op.equalIn (d+1) t (.map none) (.map b)).run P w=.ok b.isNone w:=by simp [Op.equalIn,run_underlying hu]
theorem bwe{d:Nat}{t e f:TypeId}{a:Nat}(hu:P.underlying t=some (.map e f)):(Op.equalIn (d+1) t (.map (some a)) (.map none)).run P w=.ok false w:=by simp [Op.equalIn,run_underlying hu]
theorem bv9{d:Nat}{t:TypeId}{e f:Array TypeId}{g:Bool}(hu:P.underlying t=some (.func e f g)):(Op.equalIn (d+1) t .nilFunc .nilFunc).run P w=.ok true w:=by simp [Op.equalIn,run_underlying hu]
theorem bwa{d:Nat}{t:TypeId}{e f:Array TypeId}{g:Bool}{h:Fn}{a c:Array Value}(hu:P.underlying t=some (.func e f g)):(Op.equalIn (d+1) t .nilFunc (.func h a c)).run P w=.ok false w:=by simp [Op.equalIn,run_underlying hu]
theorem bwb{d:Nat}{t:TypeId}{e f:Array TypeId}{g:Bool}{h:Fn}{a c:Array Value}(hu:P.underlying t=some (.func e f g)):(Op.equalIn (d+1) t (.func h a c) .nilFunc).run P w=.ok false w:=by simp [Op.equalIn,run_underlying hu]
theorem adk(t:TypeId)(u u':Value):Op.equal t u u'=Op.equalIn (9999+1) t u u':=rfl
set_option maxHeartbeats 1000000 in
theorem bsg{op:BinOp}{d:TypeDesc}{t:TypeId}{x y:AV}{u u' r:Value}(hu:P.underlying t=some d)(h:nilA op d x y=some r)(hx:VRel ρ x u)(hy:VRel ρ y u')(ox oy:Operand) :
  (do eqGuard op t ox oy u u';binOp op t u u':Sem Value).run P w=.ok r w∧abw r=true:=by
 unfold nilA at h
 split at h
 ·rename_i p q hp hq
  split at h
  ·rename_i hk
   obtain⟨k1,k2,hpq⟩:=hk
   have key:∀ (eqv:Bool),(Op.equal t u u').run P w=.ok eqv w→(eqGuard op t ox oy u u').run P w=.ok () w→(∀ (k k':IntKind) a b,¬ (u=.int k a∧u'=.int k' b))→(∀ a b,¬ (u=.string a∧u'=.string b)) →
     (∀ (k k':FloatKind) a b,¬ (u=.float k a∧u'=.float k' b))→(∀ (k k':FloatKind) a b c e,¬ (u=.complex k a b∧u'=.complex k' c e))→eqv=(p&&q) →
     (do eqGuard op t ox oy u u';binOp op t u u':Sem Value).run P w=.ok r w∧abw r=true:=by
    intro eqv h1 h2 n1 n2 n3 n4 he
    subst he
    rw [Sem.run_bind,h2,Result.andThen_ok]
    split at h
    ·cases h
     refine⟨?_,rfl⟩
     have:binOp .eql t u u'=(do pure (.bool (← Op.equal t u u'))):=by
      unfold binOp
      split<;>first | (rename_i a b;exact absurd ⟨rfl,rfl⟩ (n2 _ _)) | (exact absurd ⟨rfl,rfl⟩ (n1 _ _ _ _)) | (exact absurd ⟨rfl,rfl⟩ (n3 _ _ _ _)) | (exact absurd ⟨rfl,rfl⟩ (n4 _ _ _ _ _ _)) | rfl | simp_all
     rw [this,Sem.run_bind,h1]
     rfl
    ·cases h
     refine⟨?_,rfl⟩
     have:binOp .neq t u u'=(do pure (.bool (!(← Op.equal t u u')))):=by
      unfold binOp
      split<;>first | (rename_i a b;exact absurd ⟨rfl,rfl⟩ (n2 _ _)) | (exact absurd ⟨rfl,rfl⟩ (n1 _ _ _ _)) | (exact absurd ⟨rfl,rfl⟩ (n3 _ _ _ _)) | (exact absurd ⟨rfl,rfl⟩ (n4 _ _ _ _ _ _)) | rfl | simp_all
     rw [this,Sem.run_bind,h1]
     rfl
    ·cases h
   have hmk:∀ {k1 k2 k3:Nat},k1=k3→k2=k3→k1=k2:=fun a b=>a.trans b.symm
   rcases azv hp hx with ⟨e1,a,rfl,ha⟩ | ⟨e1,a,n,c,rfl,ha⟩ | ⟨e1,a,rfl,ha⟩ | ⟨e1,hu1⟩<;>rcases azv hq hy with ⟨e2,b,rfl,hb⟩ | ⟨e2,b,n',c',rfl,hb⟩ | ⟨e2,b,rfl,hb⟩ | ⟨e2,hu2⟩<;>first | (exfalso;omega) | skip
   ·rw [e1] at k1
    have hd':∃ e,d=.pointer e:=by cases d<;>first | exact⟨_,rfl⟩ | (exfalso;simp [alr] at k1)
    obtain⟨e,rfl⟩:=hd'
    refine key (p&&q) ?_ (by rw [eqGuard_at_pointer];rfl) (by rintro _ _ _ _ ⟨h,_⟩;cases h) (by rintro _ _ ⟨h,_⟩;cases h) (by rintro _ _ _ _ ⟨h,_⟩;cases h) (by rintro _ _ _ _ _ _ ⟨h,_⟩;cases h) rfl
    rw [adk]
    cases a with
    | none =>
     subst ha
     rw [brn hu,hb];rfl
    | some a =>
     cases b with
     | none=>subst ha;rw [bro hu];rfl
     | some b=>subst ha;subst hb;simp at hpq
   ·rw [e1] at k1
    have hd':∃ e,d=.slice e:=by cases d<;>first | exact⟨_,rfl⟩ | (exfalso;simp [alr] at k1)
    obtain⟨e,rfl⟩:=hd'
    refine key (p&&q) ?_ (by rw [eqGuard_at_slice];rfl) (by rintro _ _ _ _ ⟨h,_⟩;cases h) (by rintro _ _ ⟨h,_⟩;cases h) (by rintro _ _ _ _ ⟨h,_⟩;cases h) (by rintro _ _ _ _ _ _ ⟨h,_⟩;cases h) rfl
    rw [adk]
    cases a with
    | none =>
     subst ha
     rw [bpn hu,hb];rfl
    | some a =>
     cases b with
     | none=>subst ha;rw [bpo hu];rfl
     | some b=>subst ha;subst hb;simp at hpq
   ·rw [e1] at k1
    have hd':∃ e f,d=.map e f:=by cases d<;>first | exact⟨_,_,rfl⟩ | (exfalso;simp [alr] at k1)
    obtain⟨e,f,rfl⟩:=hd'
    refine key (p&&q) ?_ (by rw [eqGuard_at_map];rfl) (by rintro _ _ _ _ ⟨h,_⟩;cases h) (by rintro _ _ ⟨h,_⟩;cases h) (by rintro _ _ _ _ ⟨h,_⟩;cases h) (by rintro _ _ _ _ _ _ ⟨h,_⟩;cases h) rfl
    rw [adk]
    cases a with
    | none =>
     subst ha
     rw [bwc hu,hb];rfl
    | some a =>
     cases b with
     | none=>subst ha;rw [bwe hu];rfl
     | some b=>subst ha;subst hb;simp at hpq
   ·rw [e1] at k1
    have hd':∃ e f g,d=.func e f g:=by cases d<;>first | exact⟨_,_,_,rfl⟩ | (exfalso;simp [alr] at k1)
    obtain⟨e,f,g,rfl⟩:=hd'
    rcases hu1 with ⟨rfl,rfl⟩ | ⟨f1,a1,c1,rfl,rfl⟩<;>rcases hu2 with ⟨rfl,rfl⟩ | ⟨f2,a2,c2,rfl,rfl⟩
    ·refine key true ?_ (by cases op<;>rfl) (by rintro _ _ _ _ ⟨h,_⟩;cases h) (by rintro _ _ ⟨h,_⟩;cases h) (by rintro _ _ _ _ ⟨h,_⟩;cases h) (by rintro _ _ _ _ _ _ ⟨h,_⟩;cases h) rfl
     rw [adk];exact bv9 hu
    ·refine key false ?_ (by cases op<;>rfl) (by rintro _ _ _ _ ⟨h,_⟩;cases h) (by rintro _ _ ⟨h,_⟩;cases h) (by rintro _ _ _ _ ⟨h,_⟩;cases h) (by rintro _ _ _ _ _ _ ⟨h,_⟩;cases h) rfl
     rw [adk];exact bwa hu
    ·refine key false ?_ (by cases op<;>rfl) (by rintro _ _ _ _ ⟨h,_⟩;cases h) (by rintro _ _ ⟨h,_⟩;cases h) (by rintro _ _ _ _ ⟨h,_⟩;cases h) (by rintro _ _ _ _ _ _ ⟨h,_⟩;cases h) rfl
     rw [adk];exact bwb hu
    ·simp at hpq
  ·cases h
 ·cases h
theorem bhv{op:BinOp}{t yt:TypeId}{x y:Operand}(h:oBin P E H op t x y=some (v,H'))(hx:∀ z,z=x∨z=y→∀ a,E z=some a→VRel ρ a (ev z))(hH:HRel ρ H w)(hd:Dom ρ H.n):St H H'∧OpS P ρ ev H w (.binOp op t x y yt) v H':=by
 unfold oBin at h
 split at h
 ·rename_i a b ha hb
  have ra:=hx x (.inl rfl) _ ha
  have rb:=hx y (.inr rfl) _ hb
  split at h
  ·rename_i r hr
   cases h
   obtain⟨h1,h2⟩:=brc (w:=w) (ox:=x) (oy:=y) hr ra rb
   exact⟨St.refl H,OpS.val hH hd (agx h2) fun dst ty pos after guard=>adb h1⟩
  ·obtain⟨r,hr,hv⟩:=map_some h
   cases hv
   have key:(do eqGuard op t x y (ev x) (ev y);binOp op t (ev x) (ev y):Sem Value).run P w=.ok r w∧abw r=true:=by
    unfold bsf at hr
    split at hr
    ·rename_i s s'
     obtain⟨e1,_⟩:=ra
     obtain⟨e2,_⟩:=rb
     obtain⟨h1,h2⟩:=bud (P:=P) (w:=w) t hr
     refine⟨?_,h2⟩
     rw [e1,e2,Sem.run_bind,eqGuard_at_string]
     simp only [Sem.run_pure,Result.andThen_ok]
     exact h1
    ·rw [ab6] at hr
     split at hr
     ·rename_i d hu
      exact bsg hu hr ra rb x y
     ·cases hr
   exact⟨St.refl H,OpS.val hH hd (agx key.2) fun dst ty pos after guard=>adb key.1⟩
 ·cases h
theorem ao7:∀ {caps:List (Nat×Nat)} {us:List Value},All2 (fun(p:Nat×Nat) v=>∃ L,ρ p.1=some L∧v=Value.pointer (some ⟨L.B,L.o+p.2,none⟩)) caps us→All2 (VRel ρ) (ptrs caps) us
 | [],[],_=>trivial
 | _::_,_::_,⟨h1,h2⟩=>⟨h1,ao7 h2⟩
 | [],_::_,h=>h.elim
 | _::_,[],h=>h.elim
theorem bm3(ho:aom P ora){f:Operand}{args:Array Operand}{ats:Array TypeId}(h:bm2 ora E H f args=some (v,H'))(hx:∀ z,(z=f∨z∈args.toList)→∀ a,E z=some a→VRel ρ a (ev z))(hH:HRel ρ H w)(hd:Dom ρ H.n)(hj:J ρ H w) :
  St H H'∧OpS P ρ ev H w (.call ⟨.value f,args,ats⟩) v H':=by
 unfold bm2 at h
 split at h
 ·rename_i g a b vs hf hl
  split at h
  ·rename_i hab
   obtain⟨hst,hg⟩:=ho _ _ _ _ _ h
   obtain⟨hev,_⟩:=hx f (.inl rfl) _ hf
   have hus:=acv (ρ:=ρ) (ev:=ev) (xs:=args.toList) (fun x hx' v hv=>hx x (.inr hx') v hv) hl
   refine⟨hst,fun dst ty pos after guard=>?_⟩
   have ha:a = #[]:=Array.eq_empty_of_size_eq_zero hab.1
   have hb:b = #[]:=Array.eq_empty_of_size_eq_zero hab.2
   subst ha
   subst hb
   have hrun:(execOp ev ⟨dst,.call ⟨.value f,args,ats⟩,ty,pos,after,guard⟩).run P w=(callFunc g (args.map ev)).run P w:=by
    simp [execOp,resolve,hev,Deferred.ofValue,invoke]
   rw [hrun]
   exact hg ρ w _ _ rfl (by simpa using hus) hH hd hj
  ·cases h
 ·rename_i g caps vs hf hl
  obtain⟨hst,hg⟩:=ho _ _ _ _ _ h
  obtain⟨us,hev,hcaps⟩:=hx f (.inl rfl) _ hf
  have hus:=acv (ρ:=ρ) (ev:=ev) (xs:=args.toList) (fun x hx' v hv=>hx x (.inr hx') v hv) hl
  refine⟨hst,fun dst ty pos after guard=>?_⟩
  have hrun:(execOp ev ⟨dst,.call ⟨.value f,args,ats⟩,ty,pos,after,guard⟩).run P w=(callFunc g (args.map ev++us)).run P w:=by
   simp [execOp,resolve,hev,Deferred.ofValue,invoke]
  rw [hrun]
  exact hg ρ w _ _ rfl (by simpa using hus.append (ao7 hcaps)) hH hd hj
 ·rename_i b vs hf hl
  obtain⟨hst,hg⟩:=ho _ _ _ _ _ h
  obtain⟨L,hL,hev⟩:=hx f (.inl rfl) _ hf
  have hus:=acv (ρ:=ρ) (ev:=ev) (xs:=args.toList) (fun x hx' v hv=>hx x (.inr hx') v hv) hl
  refine⟨hst,fun dst ty pos after guard=>?_⟩
  have hrun:(execOp ev ⟨dst,.call ⟨.value f,args,ats⟩,ty,pos,after,guard⟩).run P w=(Instr.yield L.B (args.map ev)).run P w:=by
   simp [execOp,resolve,hev,Deferred.ofValue,invoke]
  rw [hrun]
  exact hg ρ w _ _ ⟨L,hL,rfl⟩ (by simpa using hus) hH hd hj
 ·cases h
theorem a6i{xs:List Operand}{y:AV}(h:ap3 E xs=some [y]):∃ x,xs=[x]∧E x=some y:=a9b h
theorem bpt{n:Nat}(h:n≤9223372036854775807):abw (.int .i64 n)=true:=by
 have hmin:IntKind.i64.min = -9223372036854775808:=by decide
 have hmax:IntKind.i64.max=9223372036854775807:=by decide
 simp only [abw,Ba,Dt,hmin,hmax]
 omega
theorem bsj{args:Array Operand}{ats:Array TypeId}(h:oLen P E H args ats=some (v,H'))(hx:∀ z∈args.toList,∀ a,E z=some a→VRel ρ a (ev z))(hH:HRel ρ H w)(hd:Dom ρ H.n) :
  St H H'∧OpS P ρ ev H w (.call ⟨.builtin .len,args,ats⟩) v H':=by
 unfold oLen at h
 split at h
 ·rename_i x t rest hl hat
  obtain⟨n,hn,hv⟩:=map_some h
  cases hv
  obtain⟨y,hy,hx'⟩:=a6i hl
  have hev:=hx y (by rw [hy];simp) _ hx'
  have hargs:args = #[y]:=by rw [← Array.toList_inj];simpa using hy
  have hats:ats[0]? = some t:=by rw [← Array.getElem?_toList,hat];rfl
  subst hargs
  have hlen:∀ ty,(Builtin.len_ ats ty #[ev y]).run P w=.ok (.int .i64 n) w∧n≤9223372036854775807:=by
   intro ty
   unfold lenA at hn
   rw [ab6] at hn
   split at hn
   ·rename_i s hu
    cases hn
    obtain⟨he,hs⟩:=hev
    simp only [abw,Dt] at hs
    exact⟨by simp [Builtin.len_,hats,run_underlying hu,he,goInt],hs⟩
   ·rename_i n' e hu
    split at hn
    ·rename_i hle
     cases hn
     exact⟨by simp [Builtin.len_,hats,run_underlying hu,goInt],hle⟩
    ·cases hn
   ·rename_i e b off n' cap hu
    cases hn
    obtain⟨⟨L,_,he⟩,h1,h2⟩:=hev
    exact⟨by simp [Builtin.len_,hats,run_underlying hu,he,goInt],by omega⟩
   ·rename_i e b off n' s hu
    cases hn
    obtain⟨L,cap,_,he,h1,h2,_⟩:=hev
    exact⟨by simp [Builtin.len_,hats,run_underlying hu,he,goInt],by omega⟩
   ·rename_i e b s hu
    cases hn
    obtain⟨L,off,cap,_,he,_⟩:=hev
    exact⟨by simp [Builtin.len_,hats,run_underlying hu,he,goInt],by omega⟩
   ·rename_i e n' c hu
    cases hn
    obtain⟨he,hs⟩:=hev
    simp only [abw,Ba] at hs
    have h0:=Nb hs.1
    exact⟨by simp [Builtin.len_,hats,run_underlying hu,he,goInt],by omega⟩
   ·cases hn
  refine⟨St.refl H,OpS.val hH hd (agx (bpt (hlen 0).2)) fun dst ty pos after guard=>?_⟩
  simp [execOp,resolve,invoke,builtin,(hlen ty).1]
 ·cases h
end
section
variable {P:Program} [Plain P] {ora:Ora} {E:Operand→Option AV} {H H':HP} {w:World} {ρ:PM} {ev:Operand→Value} {v:AV}
def a4z(E:Operand→Option AV):Option Operand→Option (Option Nat)
 | none=>some none
 | some x=>match E x with
  | some (.one (.lit (.int _ n)))=>if 0≤n then some (some n.toNat) else none
  | _=>none
def bef(b off len cap l h m s:Nat):Option AV :=
 if l≤h∧h≤m∧m≤cap then(if m=l then some (.one (.sl b off (h - l) (m - l))) else some (.one (.sl b (off+l*s) (h - l) (m - l)))) else none
def brh(b off len cap l h s:Nat):Option AV :=
 if l≤h∧h≤cap then(if cap=l then some (.one (.sl b off (h - l) (cap - l))) else some (.one (.sl b (off+l*s) (h - l) (cap - l)))) else none
theorem bbh(b off len cap l h s:Nat):brh b off len cap l h s=bef b off len cap l h cap s:=by
 have e:(l≤h∧h≤cap∧cap≤cap)=(l≤h∧h≤cap):=propext ⟨fun h'=>⟨h'.1,h'.2.1⟩,fun h'=>⟨h'.1,h'.2,Rl _⟩⟩
 unfold brh bef
 simp only [e]
def a7y(sz:Nat)(x:AV)(lo hi mx:Option Nat):Option AV :=
 match x,mx with
 | .one (.sl b off len cap),none=>brh b off len cap (lo.getD 0) (hi.getD len) sz
 | .one (.sl b off len cap),some m=>match hi with
  | some h=>bef b off len cap (lo.getD 0) h m sz
  | none=>none
 | .one (.su b off len s),none =>
  if s=sz∧lo.getD 0≤hi.getD len∧hi.getD len≤len then
   if lo.getD 0<len then some (.one (.su b (off+lo.getD 0*sz) (hi.getD len - lo.getD 0) sz)) else some (.one (.sz b sz))
  else none
 | .one (.su b off len s),some m=>match hi with
  | some h=>bef b off len len (lo.getD 0) h m sz
  | none=>none
 | .one (.sz b s),none=>if s=sz∧lo.getD 0=0∧hi.getD 0=0 then some (.one (.sz b sz)) else none
 | .one (.lit (.slice none n c)),none=>if lo.getD 0=0∧hi.getD 0=0 then some (.one (.lit (.slice none 0 0))) else none
 | .one (.lit (.slice none n c)),some m=>if lo.getD 0=0∧hi=some 0∧m=0 then some (.one (.lit (.slice none 0 0))) else none
 | .one (.sz b s),some m=>if s=sz∧lo.getD 0=0∧hi=some 0∧m=0 then some (.one (.sz b sz)) else none
 | _,_=>none
def bcq(P:Program)[Plain P](E:Operand→Option AV)(H:HP)(t:TypeId)(x:Operand)(lo hi mx:Option Operand):R :=
 match undT P t,E x,a4z E lo,a4z E hi,a4z E mx with
 | some (.array n e),some (.one (.ptr b off)),some l,some h,some m =>
  match szA P e with
  | some (_,s)=>if n≤9223372036854775807 then(a7y s (.one (.sl b off n n)) l h m).map fun v=>(v,H) else none
  | none=>none
 | some (.slice e),some a,some l,some h,some m =>
  match szA P e with
  | some (_,s)=>(a7y s a l h m).map fun v=>(v,H)
  | none=>none
 | some .string,some (.one (.lit (.string s))),some l,some h,some none =>
  if l.getD 0≤h.getD s.size∧h.getD s.size≤s.size then some (.one (.lit (.string (s.extract (l.getD 0) (h.getD s.size)))),H) else none
 | _,_,_,_,_=>none
def BRel:Option Nat→Option Value→Prop
 | none,none=>True
 | some n,some u=>∃ k,u=.int k (n:Int)
 | _,_=>False
theorem adw{x:Option Operand}{b:Option Nat}(h:a4z E x=some b)(hx:∀ z,x=some z→∀ a,E z=some a→VRel ρ a (ev z)):BRel b (x.map ev):=by
 cases x with
 | none=>cases h;trivial
 | some z =>
  simp only [a4z] at h
  split at h
  ·rename_i k n hz
   split at h
   ·rename_i hn
    cases h
    obtain⟨he,_⟩:=hx z rfl _ hz
    exact⟨k,by rw [he,Int.toNat_of_nonneg hn]⟩
   ·cases h
  ·cases h
theorem ai1{u:Value}{k:IntKind}{n y:Nat}{code:BoundsCode}(hu:u=.int k (n:Int))(h:n≤y):(Instr.sliceBound u y code).run P w=.ok n w:=by
 subst hu
 simp only [Instr.sliceBound,asIntOf,Sem.run_bind,Sem.run_pure,Result.andThen_ok]
 rw [if_pos ⟨by omega,by omega⟩]
 simp
theorem ab9{isS:Bool}{len cap:Nat}{lo hi mx:Option Nat}{ul uh um:Option Value}(hl:BRel lo ul)(hh:BRel hi uh)(hm:BRel mx um)(hmx:mx=none∨hi≠none)
  (h1:mx.getD cap≤cap) (h2:hi.getD len≤mx.getD cap∨(mx=none∧hi=none)) (h3:lo.getD 0≤hi.getD len) :
  (Instr.sliceBounds isS len cap ul uh um).run P w=.ok (lo.getD 0,hi.getD len,mx.getD cap) w:=by
 unfold Instr.sliceBounds
 cases mx with
 | none =>
  cases um with
  | some _=>exact hm.elim
  | none =>
   simp only [Sem.run_bind,Sem.run_pure,Result.andThen_ok,Option.getD_none]
   cases hi with
   | none =>
    cases uh with
    | some _=>exact hh.elim
    | none =>
     simp only [Sem.run_pure,Result.andThen_ok,Option.getD_none]
     cases lo with
     | none=>cases ul with
      | some _=>exact hl.elim
      | none=>simp
     | some l=>cases ul with
      | none=>exact hl.elim
      | some u =>
       obtain⟨k,hu⟩:=hl
       simp only [Sem.run_bind,Sem.run_pure,ai1 hu (show l≤len by simpa using h3),Result.andThen_ok,Option.getD_some]
   | some hv =>
    cases uh with
    | none=>exact hh.elim
    | some u =>
     obtain⟨k,hu⟩:=hh
     have h2':hv≤cap:=by
      rcases h2 with h2 | h2
      ·simpa using h2
      ·exact absurd h2.2 (by simp)
     simp only [Sem.run_bind,ai1 hu h2',Result.andThen_ok,Option.getD_some]
     cases lo with
     | none=>cases ul with
      | some _=>exact hl.elim
      | none=>simp
     | some l=>cases ul with
      | none=>exact hl.elim
      | some u =>
       obtain⟨k,hu⟩:=hl
       simp only [Sem.run_bind,Sem.run_pure,ai1 hu (show l≤hv by simpa using h3),Result.andThen_ok,Option.getD_some]
 | some m =>
  cases um with
  | none=>exact hm.elim
  | some um =>
   obtain⟨k,hum⟩:=hm
   cases hi with
   | none=>exact absurd rfl (hmx.resolve_left (by simp))
   | some hv =>
    cases uh with
    | none=>exact hh.elim
    | some u =>
     obtain⟨k,hu⟩:=hh
     have h2':hv≤m:=by
      rcases h2 with h2 | h2
      ·simpa using h2
      ·exact absurd h2.1 (by simp)
     simp only [Sem.run_bind,ai1 hum (show m≤cap by simpa using h1),ai1 hu h2',Result.andThen_ok,Option.getD_some]
     cases lo with
     | none=>cases ul with
      | some _=>exact hl.elim
      | none=>simp
     | some l=>cases ul with
      | none=>exact hl.elim
      | some u =>
       obtain⟨k,hu⟩:=hl
       simp only [Sem.run_bind,Sem.run_pure,ai1 hu (show l≤hv by simpa using h3),Result.andThen_ok,Option.getD_some]
theorem ake{b off len cap l h m s:Nat}{r:AV}{L:Loc}(hr:bef b off len cap l h m s=some r)(hL:ρ b=some L)(hc:cap≤9223372036854775807) :
  (l≤h∧h≤m∧m≤cap)∧VRel ρ r (.slice (if m=l then some ⟨L.B,L.o+off,none⟩ else(some ⟨L.B,L.o+off,none⟩:Option Addr).map (·.add (l*s))) (h - l) (m - l)):=by
 unfold bef at hr
 split at hr
 ·rename_i hb
  refine⟨hb,?_⟩
  split at hr
  ·rename_i hm
   cases hr
   rw [if_pos hm]
   exact⟨⟨L,hL,rfl⟩,by omega,by omega⟩
  ·rename_i hm
   cases hr
   rw [if_neg hm]
   refine⟨⟨L,hL,?_⟩,by omega,by omega⟩
   simp only [Option.map_some,abl,Nat.add_assoc]
 ·cases hr
theorem bkb{t e:TypeId}{s:Nat}{ag:Bool}{x r:AV}{u:Value}{lo hi mx:Option Nat}{ul uh um:Option Value}(hu:P.underlying t=some (.slice e))(hs:szA P e=some (ag,s))(h:a7y s x lo hi mx=some r)(hx:VRel ρ x u)
  (hl:BRel lo ul) (hh:BRel hi uh) (hm:BRel mx um):∃ u',(Instr.slice t u ul uh um).run P w=.ok u' w∧VRel ρ r u':=by
 unfold a7y at h
 split at h
 ·rename_i b off len cap
  obtain⟨⟨L,hL,rfl⟩,h1,h2⟩:=hx
  rw [bbh] at h
  obtain⟨hb,hr⟩:=ake h hL h2
  refine⟨_,?_,hr⟩
  have:=ab9 (P:=P) (w:=w) (isS:=true) (len:=len) (cap:=cap) hl hh hm (.inl rfl) (by simp) (.inl (by simpa using hb.2.1)) hb.1
  simp only [Option.getD_none] at this
  simp only [Instr.slice,Sem.run_bind,run_underlying hu,Result.andThen_ok,this,run_sizeOf hs,Sem.run_pure]
 ·rename_i b off len cap m
  obtain⟨⟨L,hL,rfl⟩,h1,h2⟩:=hx
  split at h
  ·rename_i hv
   obtain⟨hb,hr⟩:=ake h hL h2
   refine⟨_,?_,hr⟩
   have:=ab9 (P:=P) (w:=w) (isS:=true) (len:=len) (cap:=cap) hl hh hm (.inr (by simp)) (by simpa using hb.2.2) (.inl (by simpa using hb.2.1)) (by simpa using hb.1)
   simp only [Option.getD_some] at this
   simp only [Instr.slice,Sem.run_bind,run_underlying hu,Result.andThen_ok,this,run_sizeOf hs,Sem.run_pure]
  ·cases h
 ·rename_i b off len s'
  obtain⟨L,cap,hL,rfl,h1,h2,h3⟩:=hx
  split at h
  ·rename_i hb
   obtain⟨rfl,hb1,hb2⟩:=hb
   have:=ab9 (P:=P) (w:=w) (isS:=true) (len:=len) (cap:=cap) hl hh hm (.inl rfl) (by simp) (.inl (by simp only [Option.getD_none];omega)) hb1
   simp only [Option.getD_none] at this
   have hrun:(Instr.slice t (.slice (some ⟨L.B,L.o+off,none⟩) len cap) ul uh um).run P w=.ok (.slice (if cap=lo.getD 0 then some ⟨L.B,L.o+off,none⟩ else(some ⟨L.B,L.o+off,none⟩:Option Addr).map (·.add (lo.getD 0*s'))) (hi.getD len - lo.getD 0) (cap - lo.getD 0)) w:=by
    simp only [Instr.slice,Sem.run_bind,run_underlying hu,Result.andThen_ok,this,run_sizeOf hs,Sem.run_pure]
   refine⟨_,hrun,?_⟩
   have hmul:lo.getD 0*s'+(cap - lo.getD 0)*s'=cap*s':=by rw [← Nat.add_mul];congr 1;omega
   split at h
   ·rename_i hlt
    cases h
    rw [if_neg (by omega)]
    refine⟨L,cap - lo.getD 0,hL,?_,by omega,by omega,by omega⟩
    simp only [Option.map_some,abl,Nat.add_assoc]
   ·rename_i hlt
    cases h
    have e0:hi.getD len - lo.getD 0=0:=by omega
    rw [e0]
    by_cases hc:cap=lo.getD 0
    ·rw [if_pos hc]
     exact⟨L,L.o+off,cap - lo.getD 0,hL,rfl,by omega,by omega,by omega⟩
    ·rw [if_neg hc]
     refine⟨L,L.o+off+lo.getD 0*s',cap - lo.getD 0,hL,?_,by omega,by omega,by omega⟩
     simp only [Option.map_some,abl]
  ·cases h
 ·rename_i b off len s' m
  obtain⟨L,cap,hL,rfl,h1,h2,h3⟩:=hx
  split at h
  ·rename_i hv
   obtain⟨hb,hr⟩:=ake h hL (by omega)
   refine⟨_,?_,hr⟩
   have:=ab9 (P:=P) (w:=w) (isS:=true) (len:=len) (cap:=cap) hl hh hm (.inr (by simp)) (by simp only [Option.getD_some];omega) (.inl (by simpa using hb.2.1)) (by simpa using hb.1)
   simp only [Option.getD_some] at this
   simp only [Instr.slice,Sem.run_bind,run_underlying hu,Result.andThen_ok,this,run_sizeOf hs,Sem.run_pure]
  ·cases h
 ·rename_i b s'
  obtain⟨L,off,cap,hL,rfl,h1,h2,h3⟩:=hx
  split at h
  ·rename_i hb
   obtain⟨rfl,hb1,hb2⟩:=hb
   cases h
   have:=ab9 (P:=P) (w:=w) (isS:=true) (len:=0) (cap:=cap) hl hh hm (.inl rfl) (by simp) (.inl (by simp only [Option.getD_none];omega)) (by omega)
   simp only [Option.getD_none,hb1,hb2] at this
   have hrun:(Instr.slice t (.slice (some ⟨L.B,off,none⟩) 0 cap) ul uh um).run P w=.ok (.slice (if cap=0 then some ⟨L.B,off,none⟩ else(some ⟨L.B,off,none⟩:Option Addr).map (·.add (0*s'))) (0 - 0) (cap - 0)) w:=by
    simp only [Instr.slice,Sem.run_bind,run_underlying hu,Result.andThen_ok,this,run_sizeOf hs,Sem.run_pure]
   refine⟨_,hrun,L,off,cap,hL,?_,h1,h2,h3⟩
   split
   ·rfl
   ·simp [abl]
  ·cases h
 ·rename_i n c
  obtain⟨rfl,hlit⟩:=hx
  simp only [abw,Ba] at hlit
  have e1:=Nb hlit.1
  have e2:=Nb hlit.2
  subst e1
  subst e2
  split at h
  ·rename_i hb
   cases h
   have:=ab9 (P:=P) (w:=w) (isS:=true) (len:=0) (cap:=0) hl hh hm (.inl rfl) (by simp) (.inl (by simp only [Option.getD_none];omega)) (by omega)
   simp only [Option.getD_none,hb.1,hb.2] at this
   refine⟨.slice none 0 0,?_,rfl,rfl⟩
   simp only [Instr.slice,Sem.run_bind,run_underlying hu,Result.andThen_ok,this,run_sizeOf hs,Sem.run_pure]
   rfl
  ·cases h
 ·rename_i n c m
  obtain⟨rfl,hlit⟩:=hx
  simp only [abw,Ba] at hlit
  have e1:=Nb hlit.1
  have e2:=Nb hlit.2
  subst e1
  subst e2
  split at h
  ·rename_i hb
   obtain⟨hb0,rfl,rfl⟩:=hb
   cases h
   have:=ab9 (P:=P) (w:=w) (isS:=true) (len:=0) (cap:=0) hl hh hm (.inr (by simp)) (by simp) (.inl (by simp)) (by simp [hb0])
   simp only [Option.getD_some,hb0] at this
   refine⟨.slice none 0 0,?_,rfl,rfl⟩
   simp only [Instr.slice,Sem.run_bind,run_underlying hu,Result.andThen_ok,this,run_sizeOf hs,Sem.run_pure]
   rfl
  ·cases h
 ·rename_i b s' m
  obtain⟨L,off,cap,hL,rfl,h1,h2,h3⟩:=hx
  split at h
  ·rename_i hb
   obtain⟨rfl,hb0,rfl,rfl⟩:=hb
   cases h
   have:=ab9 (P:=P) (w:=w) (isS:=true) (len:=0) (cap:=cap) hl hh hm (.inr (by simp)) (by simp) (.inl (by simp)) (by simp [hb0])
   simp only [Option.getD_some,hb0] at this
   have hrun:(Instr.slice t (.slice (some ⟨L.B,off,none⟩) 0 cap) ul uh um).run P w=.ok (.slice (some ⟨L.B,off,none⟩) 0 0) w:=by
    simp only [Instr.slice,Sem.run_bind,run_underlying hu,Result.andThen_ok,this,run_sizeOf hs,Sem.run_pure]
    rfl
   refine⟨_,hrun,L,off,0,hL,rfl,by omega,by omega,by omega⟩
  ·cases h
 ·cases h
theorem bh3{t:TypeId}{x:Operand}{lo hi mx:Option Operand}(h:bcq P E H t x lo hi mx=some (v,H'))(hx:∀ z,(z=x∨lo=some z∨hi=some z∨mx=some z)→∀ a,E z=some a→VRel ρ a (ev z))(hH:HRel ρ H w)(hd:Dom ρ H.n) :
  St H H'∧OpS P ρ ev H w (.slice t x lo hi mx) v H':=by
 unfold bcq at h
 rw [ab6] at h
 split at h
 ·rename_i n e b off l h' m hu hxx hl hh hm
  have bl:=adw hl (ρ:=ρ) (ev:=ev) fun z hz=>hx z (.inr (.inl hz))
  have bh:=adw hh (ρ:=ρ) (ev:=ev) fun z hz=>hx z (.inr (.inr (.inl hz)))
  have bm:=adw hm (ρ:=ρ) (ev:=ev) fun z hz=>hx z (.inr (.inr (.inr hz)))
  obtain⟨L,hL,hev⟩:=hx x (.inl rfl) _ hxx
  split at h
  ·rename_i ag s hs
   split at h
   ·rename_i hn
    obtain⟨r,hr,hv⟩:=map_some h
    cases hv
    have key:∃ u',(Instr.sliceAt t (ev x) (lo.map ev) (hi.map ev) (mx.map ev)).run P w=.ok u' w∧VRel ρ v u':=by
     unfold a7y at hr
     cases m with
     | none =>
      simp only at hr
      rw [bbh] at hr
      obtain⟨hb,hrel⟩:=ake hr hL hn
      have:=ab9 (P:=P) (w:=w) (isS:=false) (len:=n) (cap:=n) bl bh bm (.inl rfl) (by simp) (.inl (by simpa using hb.2.1)) hb.1
      simp only [Option.getD_none] at this
      refine⟨_,?_,hrel⟩
      simp only [Instr.sliceAt,Sem.run_bind,run_underlying hu,Result.andThen_ok,hev,Instr.sureAddr,this,run_sizeOf hs,Sem.run_pure]
      split<;>rfl
     | some m =>
      cases h' with
      | none=>simp at hr
      | some hv =>
       simp only at hr
       obtain⟨hb,hrel⟩:=ake hr hL hn
       have:=ab9 (P:=P) (w:=w) (isS:=false) (len:=n) (cap:=n) bl bh bm (.inr (by simp)) (by simpa using hb.2.2) (.inl (by simpa using hb.2.1)) (by simpa using hb.1)
       simp only [Option.getD_some] at this
       refine⟨_,?_,hrel⟩
       simp only [Instr.sliceAt,Sem.run_bind,run_underlying hu,Result.andThen_ok,hev,Instr.sureAddr,this,run_sizeOf hs,Sem.run_pure]
       split<;>rfl
    obtain⟨u',h1,h2⟩:=key
    exact⟨St.refl H,OpS.val hH hd h2 fun dst ty pos after guard=>adb h1⟩
   ·cases h
  ·cases h
 ·rename_i e a l h' m hu hxx hl hh hm
  have bl:=adw hl (ρ:=ρ) (ev:=ev) fun z hz=>hx z (.inr (.inl hz))
  have bh:=adw hh (ρ:=ρ) (ev:=ev) fun z hz=>hx z (.inr (.inr (.inl hz)))
  have bm:=adw hm (ρ:=ρ) (ev:=ev) fun z hz=>hx z (.inr (.inr (.inr hz)))
  split at h
  ·rename_i ag s hs
   obtain⟨r,hr,hv⟩:=map_some h
   cases hv
   obtain⟨u',h1,h2⟩:=bkb (w:=w) hu hs hr (hx x (.inl rfl) _ hxx) bl bh bm
   refine⟨St.refl H,OpS.val hH hd h2 fun dst ty pos after guard=>adb ?_⟩
   simp only [Instr.sliceAt,Sem.run_bind,run_underlying hu,Result.andThen_ok]
   exact h1
  ·cases h
 ·rename_i s l h' hu hxx hl hh hm
  have bl:=adw hl (ρ:=ρ) (ev:=ev) fun z hz=>hx z (.inr (.inl hz))
  have bh:=adw hh (ρ:=ρ) (ev:=ev) fun z hz=>hx z (.inr (.inr (.inl hz)))
  have bm:=adw hm (ρ:=ρ) (ev:=ev) fun z hz=>hx z (.inr (.inr (.inr hz)))
  obtain⟨hev,hlit⟩:=hx x (.inl rfl) _ hxx
  simp only [abw,Dt] at hlit
  split at h
  ·rename_i hb
   cases h
   have:=ab9 (P:=P) (w:=w) (isS:=false) (len:=s.size) (cap:=s.size) bl bh (by trivial:BRel none none) (.inl rfl) (by simp) (.inl (by simpa using hb.2)) hb.1
   have hmx:mx.map ev=none:=by
    cases hq:mx.map ev with
    | none=>rfl
    | some _=>rw [hq] at bm;exact bm.elim
   refine⟨St.refl H,OpS.val hH hd (agx (v:=.string (s.extract (l.getD 0) (h'.getD s.size))) ?_) fun dst ty pos after guard=>adb ?_⟩
   ·simp only [abw,Dt,ByteArray.size_extract];omega
   ·simp only [Instr.sliceAt,Sem.run_bind,run_underlying hu,Result.andThen_ok,Instr.slice,hev,hmx,Option.isSome_none,Bool.false_eq_true,if_false,this,Sem.run_pure]
  ·cases h
 ·cases h
theorem a6l:∀ {vs:List AV} {ps:List (Nat×Nat)} {us:List Value},vs.mapM (fun v=>match v with | .one (.ptr b off)=>some (b,off) | _=>none)=some ps→All2 (VRel ρ) vs us →
  All2 (fun(p:Nat×Nat) v=>∃ L,ρ p.1=some L∧v=Value.pointer (some ⟨L.B,L.o+p.2,none⟩)) ps us
 | [],ps,[],h,_=>by simp at h;subst h;trivial
 | x::vs,ps,u::us,h,⟨h1,h2⟩=>by
  rw [List.mapM_cons] at h
  match x,h,h1 with
  | .one (.ptr b off),h,h1 =>
   simp only [Option.pure_def,Option.bind_eq_bind,Option.bind_some] at h
   cases hr:vs.mapM (fun v=>match v with | .one (.ptr b off)=>some (b,off) | _=>none) with
   | none=>rw [hr] at h;cases h
   | some r =>
    rw [hr] at h
    cases h
    exact⟨h1,a6l hr h2⟩
 | [],_,_::_,_,h=>h.elim
 | _::_,_,[],_,h=>h.elim
theorem a6r{fn:Fn}{first caps:Array Operand}(h:ao5 E H fn first caps=some (v,H'))(hx:∀ z∈caps.toList,∀ a,E z=some a→VRel ρ a (ev z))(hH:HRel ρ H w)(hd:Dom ρ H.n) :
  St H H'∧OpS P ρ ev H w (.makeFunc fn first caps) v H':=by
 unfold ao5 at h
 split at h
 ·rename_i vs hl
  split at h
  ·rename_i ps hp
   split at h
   ·rename_i h0
    cases h
    have hus:=acv (ρ:=ρ) (ev:=ev) hx hl
    have hf:first = #[]:=Array.eq_empty_of_size_eq_zero h0
    subst hf
    refine⟨St.refl H,OpS.val hH hd (u:=.func fn #[] (caps.map ev)) ⟨_,rfl,by simpa using a6l hp hus⟩ fun dst ty pos after guard=>adb ?_⟩
    simp [Instr.makeFunc]
   ·cases h
  ·cases h
 ·cases h
end
end Go.Sx
