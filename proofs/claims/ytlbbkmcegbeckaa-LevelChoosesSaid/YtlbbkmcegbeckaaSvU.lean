/-
  A second abstract evaluator of the model's code: places cut at a number, and what a step says of less and of more. Conditions: none; nothing here speaks of one program.
-/
import Derived.Test.YtlbbkmcegbeckaaSxW
import Derived.TacticsIn
import Derived.OrdersIn
set_option linter.all false
set_option maxRecDepth 100000
noncomputable section
namespace Go.Sx
variable [Sg]
noncomputable section
def symP(P:Program)[Plain P](E:Operand→Option AV)(H:HP)(op:Op):R :=
 match Nat.beq H.nv 0 with
 | true=>none
 | false=>match op with
  | .alloc t=>bd4 P H t
  | .box t x=>yBox P E H t x
  | .buildSlice t n ps=>a4q P E H t n ps
  | .makeSlice t x y=>bo5 P E H t x y
  | .call ⟨.builtin .append,args,ats⟩=>yApp P E H args ats
  | _=>none
def symA(P:Program)[Plain P](E:Operand→Option AV)(H:HP)(op:Op):R :=
 match op with
 | .binOp op t x y _=>match yBin P E H op t x y with
  | some r=>some r
  | none=>yNil P E H op t x y
 | .unOp op _ x=>yUn E H op x
 | .pick c a b=>blb E H c a b
 | .indexAddr t x i=>match yIdx P E H t x i with
  | some r=>some r
  | none=>a8x P E H t x i
 | .fieldAddr t x f=>yFld P E H t x f
 | .load t x=>bk8 P E H t x
 | .store t x y=>a8z P E H t x y
 | .convert t u x=>bk7 P E H t u x
 | .slice t x lo hi mx=>match ySl P E H t x lo hi mx with
  | some r=>some r
  | none=>ySub P E H t x lo hi mx
 | .index t x i=>yAt P E H t x i
 | .call ⟨.builtin .max,args,_⟩=>yMax E H false args
 | .call ⟨.builtin .min,args,_⟩=>yMax E H true args
 | .call ⟨.builtin .len,args,ats⟩=>yLen P E H args ats
 | .call ⟨.builtin .append,args,ats⟩=>yApp P E H args ats
 | _=>none
end
section
variable {P:Program} [Plain P] {E:Operand→Option AV} {H H':HP} {w:World} {ρ:PM} {ev:Operand→Value} {v:AV}
def makes:Op→Bool
 | .alloc _=>true
 | .box _ _=>true
 | .buildSlice _ _ _=>true
 | .makeSlice _ _ _=>true
 | .call _=>true
 | _=>false
theorem bko{op:Op}(h:makes op=false):symP P E H op=none:=by
 unfold symP
 split
 ·rfl
 ·cases op<;>first | rfl | cases h
theorem buj{op:Op}(h:symP P E H op=some (v,H'))(hx:∀ x∈op.operands,∀ a,E x=some a→VRel ρ a (ev x))(hH:HRel ρ H w)(hd:Dom ρ H.n)(hj:J ρ H w):St H H'∧OpS P ρ ev H w op v H':=by
 unfold symP at h
 split at h
 ·cases h
 ·split at h
  ·exact bk3 h hH hd
  ·exact buw h (hx _ (by simp [Op.operands])) hH hd
  ·rename_i t n ps
   exact bfe h (fun p hp=>hx p.2 (by simp only [Op.operands,List.mem_toArray,List.mem_map];exact⟨p,hp,rfl⟩)) hH hd
  ·rename_i t x y
   exact bo6 h (fun z hz=>hx z (by rcases hz with rfl | rfl<;>simp [Op.operands])) hH hd
  ·rename_i args ats
   exact bk4 h (fun z hz=>hx z (by simp only [Op.operands,Call.operands,Array.mem_append];right;simpa using hz)) hH hd hj
  ·cases h
theorem buh{op:Op}(h:symA P E H op=some (v,H'))(hx:∀ x∈op.operands,∀ a,E x=some a→VRel ρ a (ev x))(hH:HRel ρ H w)(hd:Dom ρ H.n)(hj:J ρ H w):St H H'∧OpS P ρ ev H w op v H':=by
 unfold symA at h
 split at h
 ·split at h
  ·rename_i r hr
   cases h
   exact buv hr (fun z hz=>hx z (by rcases hz with rfl | rfl<;>simp [Op.operands])) hH hd
  ·exact bu0 h (fun z hz=>hx z (by rcases hz with rfl | rfl<;>simp [Op.operands])) hH hd
 ·exact bz4 h (hx _ (by simp [Op.operands])) hH hd
 ·exact bo7 h (fun z hz=>hx z (by rcases hz with rfl | rfl | rfl<;>simp [Op.operands])) hH hd
 ·split at h
  ·rename_i r hr
   cases h
   exact buy hr (fun z hz=>hx z (by rcases hz with rfl | rfl<;>simp [Op.operands])) hH hd
  ·exact bo4 h (fun z hz=>hx z (by rcases hz with rfl | rfl<;>simp [Op.operands])) hH hd
 ·exact bux h (hx _ (by simp [Op.operands])) hH hd
 ·rename_i t x
  obtain⟨rfl,u,h1,h2⟩:=a8y h (hx _ (by simp [Op.operands])) hH hj
  exact⟨St.refl _,OpS.val hH hd h1 h2⟩
 ·exact blc h (fun z hz=>hx z (by rcases hz with rfl | rfl<;>simp [Op.operands])) hH hd
 ·exact bo3 h (hx _ (by simp [Op.operands])) hH hd hj
 ·split at h
  ·rename_i r hr
   cases h
   exact bz3 hr (fun z hz=>hx z (by rcases hz with rfl | rfl | rfl | rfl<;>simp [Op.operands])) hH hd
  ·exact bu1 h (fun z hz=>hx z (by rcases hz with rfl | rfl | rfl | rfl<;>simp [Op.operands])) hH hd
 ·exact bz2 h (fun z hz=>hx z (by rcases hz with rfl | rfl<;>simp [Op.operands])) hH hd
 ·exact bk9 (mn:=false) h (fun z hz=>hx z (by simp only [Op.operands,Call.operands,Array.mem_append];right;simpa using hz)) hH hd
 ·exact bk9 (mn:=true) h (fun z hz=>hx z (by simp only [Op.operands,Call.operands,Array.mem_append];right;simpa using hz)) hH hd
 ·rename_i args ats
  exact buz h (fun z hz=>hx z (by simp only [Op.operands,Call.operands,Array.mem_append];right;simpa using hz)) hH hd
 ·rename_i args ats
  exact bk4 h (fun z hz=>hx z (by simp only [Op.operands,Call.operands,Array.mem_append];right;simpa using hz)) hH hd hj
 ·cases h
theorem bfn{ws:List Srt}{n:Nat}{cs:List Cel}(h:arrR H ws n cs=some (v,H')):St H H':=by
 unfold arrR at h
 split at h
 ·cases h;exact St.push _ _
 ·cases h
theorem bly(ob:Option Nat)(k:Bk):St H ((am2 H ob).push k):=by
 cases ob with
 | none=>exact St.push _ _
 | some b=>exact(St.drop H b).trans (St.push _ _)
theorem bk5{args:Array Operand}{ats:Array TypeId}(h:yApp P E H args ats=some (v,H')):St H H':=by
 unfold yApp at h
 repeat' (split at h)
 all_goals first
  | (cases h;done)
  | (cases h;exact bly _ _)
theorem buk{op:Op}(h:symP P E H op=some (v,H')):St H H':=by
 unfold symP at h
 split at h
 ·cases h
 ·split at h
  ·unfold bd4 at h
   repeat' (split at h)
   all_goals first
    | (cases h;done)
    | exact bfn h
  ·unfold yBox at h
   repeat' (split at h)
   all_goals first
    | (cases h;done)
    | exact bfn h
  ·unfold a4q at h
   repeat' (split at h)
   all_goals first
    | (cases h;done)
    | (cases h;exact St.push _ _)
  ·unfold bo5 at h
   repeat' (split at h)
   all_goals first
    | (cases h;done)
    | (cases h;exact St.push _ _)
  ·exact bk5 h
  ·cases h
theorem ba2{t:TypeId}{x:Operand}{lo hi mx:Option Operand}{G:HP}(hG:G.hy=H.hy):ySl P E G t x lo hi mx=(ySl P E H t x lo hi mx).map fun r=>(r.1,G):=by
 unfold ySl
 rw [hG]
 repeat' split
 all_goals rfl
theorem bd7{t:TypeId}{x:Operand}{lo hi mx:Option Operand}{G:HP}(hG:G.hy=H.hy):ySub P E G t x lo hi mx=(ySub P E H t x lo hi mx).map fun r=>(r.1,G):=by
 unfold ySub
 rw [hG]
 repeat' split
 all_goals rfl
theorem bk6{t:TypeId}{x i:Operand}{G:HP}(hG:G.hy=H.hy):yAt P E G t x i=(yAt P E H t x i).map fun r=>(r.1,G):=by
 unfold yAt
 rw [hG]
 repeat' split
 all_goals rfl
theorem bd6{t:TypeId}{x:Operand}{lo hi mx:Option Operand}(h:ySl P E H t x lo hi mx=some (v,H')):H'=H:=by
 have:=ba2 (P:=P) (E:=E) (t:=t) (x:=x) (lo:=lo) (hi:=hi) (mx:=mx) (G:=H) (H:=H) rfl
 rw [h] at this
 simp only [Option.map_some,Oi,Prod.mk.injEq,true_and] at this
 exact this
theorem a81{t:TypeId}{x:Operand}{lo hi mx:Option Operand}(h:ySub P E H t x lo hi mx=some (v,H')):H'=H:=by
 have:=bd7 (P:=P) (E:=E) (t:=t) (x:=x) (lo:=lo) (hi:=hi) (mx:=mx) (G:=H) (H:=H) rfl
 rw [h] at this
 simp only [Option.map_some,Oi,Prod.mk.injEq,true_and] at this
 exact this
theorem bd5{t:TypeId}{x i:Operand}(h:yAt P E H t x i=some (v,H')):H'=H:=by
 have:=bk6 (P:=P) (E:=E) (t:=t) (x:=x) (i:=i) (G:=H) (H:=H) rfl
 rw [h] at this
 simp only [Option.map_some,Oi,Prod.mk.injEq,true_and] at this
 exact this
theorem bui{op:Op}(h:symA P E H op=some (v,H')):St H H':=by
 unfold symA at h
 split at h
 ·split at h
  ·rename_i r hr
   cases h
   unfold yBin at hr
   repeat' (split at hr)
   all_goals first
    | (cases hr;done)
    | (obtain⟨a,ha,hv⟩:=map_some hr;cases hv;exact St.refl _)
  ·unfold yNil at h
   repeat' (split at h)
   all_goals first
    | (cases h;done)
    | (obtain⟨a,ha,hv⟩:=map_some h;cases hv;exact St.refl _)
 ·unfold yUn at h
  repeat' (split at h)
  all_goals first
   | (cases h;done)
   | (obtain⟨a,ha,hv⟩:=map_some h;cases hv;exact St.refl _)
 ·unfold blb at h
  repeat' (split at h)
  all_goals first
   | (cases h;done)
   | (obtain⟨a,ha,hv⟩:=map_some h;cases hv;exact St.refl _)
 ·split at h
  ·rename_i r hr
   cases h
   unfold yIdx at hr
   repeat' (split at hr)
   all_goals first
    | (cases hr;done)
    | (obtain⟨a,ha,hv⟩:=map_some hr;cases hv;exact St.refl _)
  ·unfold a8x at h
   repeat' (split at h)
   all_goals first
    | (cases h;done)
    | (obtain⟨a,ha,hv⟩:=map_some h;cases hv;exact St.refl _)
 ·unfold yFld at h
  repeat' (split at h)
  all_goals first
   | (cases h;done)
   | (obtain⟨a,ha,hv⟩:=map_some h;cases hv;exact St.refl _)
 ·unfold bk8 at h
  repeat' (split at h)
  all_goals first
   | (cases h;done)
   | (obtain⟨a,ha,hv⟩:=map_some h;cases hv;exact St.refl _)
 ·unfold a8z at h
  repeat' (split at h)
  all_goals first
   | (cases h;done)
   | (cases h;exact St.obj _ _ _)
 ·unfold bk7 at h
  repeat' (split at h)
  all_goals first
   | (cases h;done)
   | (cases h;exact St.refl _)
   | (cases h;exact St.push _ _)
   | (obtain⟨a,ha,hv⟩:=map_some h;cases hv;exact St.refl _)
 ·split at h
  ·rename_i r hr
   cases h
   rw [bd6 hr]
   exact St.refl _
  ·rw [a81 h]
   exact St.refl _
 ·rw [bd5 h]
  exact St.refl _
 ·unfold yMax at h
  repeat' (split at h)
  all_goals first
   | (cases h;done)
   | (cases h;exact St.refl _)
 ·unfold yMax at h
  repeat' (split at h)
  all_goals first
   | (cases h;done)
   | (cases h;exact St.refl _)
 ·unfold yLen at h
  repeat' (split at h)
  all_goals first
   | (cases h;done)
   | (cases h;exact St.refl _)
 ·exact bk5 h
 ·cases h
theorem bkn{op:Op}(hp:isPure op=true)(h:symA P E H op=some (v,H')):H'=H∧∀ G:HP,G.hy=H.hy→symA P E G op=some (v,G):=by
  cases op with
  | binOp op t x y ty =>
    simp only [symA] at h ⊢
    split at h
    · rename_i r hr
      cases h
      unfold yBin at hr ⊢
      split at hr
      · rename_i a b ha hb
        obtain⟨c,hc,e⟩:=map_some hr
        cases e
        refine⟨rfl,fun G hG=>?_⟩
        rw [hG,hc]
        rfl
      · cases hr
    · rename_i hr
      have hno:∀ G:HP,G.hy=H.hy→yBin P E G op t x y=none:=fun G hG=>by
        unfold yBin at hr ⊢
        split
        · rename_i a b ha hb
          rw [ha,hb] at hr
          simp only at hr
          cases hc:binY P H.hy op t a b with
          | none=>rw [hG,hc];rfl
          | some c=>rw [hc] at hr;cases hr
        · rfl
      unfold yNil at h ⊢
      split at h
      · rename_i el a b hu ha hb
        split at h
        · rename_i e he hn
          obtain⟨c,hc,hv⟩:=map_some h
          cases hv
          refine⟨rfl,fun G hG=>?_⟩
          rw [hno G hG]
          simp only [he,hn,hc]
          rfl
        · rename_i hno2
          split at h
          · rename_i e he hn
            obtain⟨c,hc,hv⟩:=map_some h
            cases hv
            refine⟨rfl,fun G hG=>?_⟩
            rw [hno G hG]
            simp only [he,hn,hc]
            rfl
          · cases h
      · cases h
  | unOp op t x =>
    simp only [symA,yUn] at h ⊢
    split at h
    · rename_i c hc
      obtain⟨c',hc',e⟩:=map_some h
      cases e
      refine⟨rfl,fun G hG=>?_⟩
      rw [hG,hc']
      rfl
    · cases h
  | pick c a b =>
    simp only [symA,blb] at h ⊢
    split at h
    · rename_i G0 e hc
      split at h
      · rename_i t ht
        obtain⟨c',hc',e⟩:=map_some h
        cases e
        refine⟨rfl,fun G hG=>?_⟩
        rw [hG,ht]
        simp only [hc']
        rfl
      · cases h
    · cases h
  | indexAddr t x i =>
    simp only [symA] at h ⊢
    have hmap:∀ G:HP,G.hy=H.hy→yIdx P E G t x i=(yIdx P E H t x i).map fun r=>(r.1,G):=fun G hG=>by
      unfold yIdx
      split
      · split
        · rw [hG]
          cases idxY H.hy _ _ _<;>rfl
        · rfl
      · rfl
    have hmapC:∀ G:HP,G.hy=H.hy→a8x P E G t x i=(a8x P E H t x i).map fun r=>(r.1,G):=fun G hG=>by
      unfold a8x
      split
      · split
        · rw [hG]
          cases idxC H.hy _ _ _ _<;>rfl
        · rfl
      · split
        · rw [hG]
          cases idxC H.hy _ _ _ _<;>rfl
        · rfl
      · rfl
    have hsame:∀ {r},yIdx P E H t x i=some r→r.2=H:=fun {r} hr=>by
      unfold yIdx at hr
      repeat' (split at hr)
      all_goals first
        | (cases hr;done)
        | (obtain⟨a,ha,hv⟩:=map_some hr;cases hv;rfl)
    split at h
    · rename_i r hr
      cases h
      refine⟨hsame hr,fun G hG=>?_⟩
      rw [hmap G hG,hr]
      rfl
    · rename_i hr
      refine⟨?_,fun G hG=>?_⟩
      · unfold a8x at h
        repeat' (split at h)
        all_goals first
          | (cases h;done)
          | (obtain⟨a,ha,hv⟩:=map_some h;cases hv;rfl)
      · rw [hmap G hG,hr,hmapC G hG,h]
        rfl
  | fieldAddr t x f =>
    simp only [symA,yFld] at h ⊢
    repeat' (split at h)
    all_goals first
      | (cases h;done)
      | (obtain⟨c',hc',e⟩:=map_some h
         cases e
         refine⟨rfl,fun G hG=>?_⟩
         simp_all)
  | slice t x lo hi mx =>
    simp only [symA] at h ⊢
    split at h
    · rename_i r hr
      cases h
      refine⟨bd6 hr,fun G hG=>?_⟩
      rw [ba2 hG,hr]
      rfl
    · rename_i hr
      refine⟨a81 h,fun G hG=>?_⟩
      rw [ba2 hG,hr,bd7 hG,h]
      rfl
  | index t x i =>
    simp only [symA] at h ⊢
    refine⟨bd5 h,fun G hG=>?_⟩
    rw [bk6 hG,h]
    rfl
  | _=>first | (cases hp;done) | (cases h;done)
def ptrB:AV→Option Nat
 | .one (.ptr b _)=>some b
 | .one (.po b _ _ _)=>some b
 | _=>none
def isPv:AV→Bool
 | .one (.pv _ _ _ _ _)=>true
 | _=>false
theorem bmt{a:AV}{m:Nat}{cs:List Cel}(h:ay5 H a m=some cs):(isPv a=true∧∀ G:HP,G.hy=H.hy→ay5 G a m=some cs)∨∃ b,ptrB a=some b∧isPv a=false∧∀ G:HP,G.t.get b=H.t.get b→G.hy=H.hy→ay5 G a m=some cs:=by
 unfold ay5 at h
 split at h
 ·exact .inl ⟨rfl,fun G _=>h⟩
 ·rename_i b s i off
  refine .inr ⟨b,rfl,rfl,fun G hG hy=>?_⟩
  have hr:af4 G b=af4 H b:=by unfold af4;rw [hG]
  simp only [ay5,hr,hy]
  exact h
 ·cases h
theorem a8f{t:TypeId}{x:Operand}(h:symA P E H (.load t x)=some (v,H')):∃ a,E x=some a∧H'=H∧((isPv a=true∧∀ G:HP,G.hy=H.hy→symA P E G (.load t x)=some (v,G))∨∃ b,ptrB a=some b∧isPv a=false∧∀ G:HP,G.t.get b=H.t.get b→G.hy=H.hy→symA P E G (.load t x)=some (v,G)):=by
 simp only [symA,bk8] at h ⊢
 split at h
 ·rename_i a ag n hxa hs
  obtain⟨v',hv,e⟩:=map_some h
  cases e
  obtain⟨cs,hcs,hm⟩:=aa8 hv
  refine⟨a,hxa,rfl,?_⟩
  rcases bmt hcs with ⟨h1,h2⟩ | ⟨b,h1,h2,h3⟩
  ·refine .inl ⟨h1,fun G hG=>?_⟩
   rw [h2 G hG]
   simp [hm]
  ·refine .inr ⟨b,h1,h2,fun G hG hy=>?_⟩
   rw [h3 G hG hy]
   simp [hm]
 ·cases h
theorem be6{t:TypeId}{x y:Operand}(h:symA P E H (.store t x y)=some (v,H')):∃ a b,E x=some a∧ptrB a=some b∧H'.n=H.n∧∀ b',b'≠b→H'.t.get b'=H.t.get b':=by
  simp only [symA,a8z] at h
  split at h
  · rename_i b s i off cs ag n hx' hc hs
    repeat' (split at h)
    all_goals first
      | (cases h;done)
      | (cases h
         refine⟨_,b,hx',rfl,rfl,fun b' hb'=>?_⟩
         unfold HP.obj
         simp only [PT.get_put]
         rw [if_neg hb'])
  · cases h
theorem a4i{t:TypeId}{x:Operand}(h:symA P E H (.load t x)=some (v,H'))(hx:∀ a,E x=some a→VRel ρ a (ev x))(hH:HRel ρ H w)(hj:J ρ H w) :
  ∃ u,VRel ρ v u∧∀ dst ty pos after guard,(execOp ev ⟨dst,.load t x,ty,pos,after,guard⟩).run P w=.ok (.value u) w:=(a8y h hx hH hj).2
theorem bkm{t u:TypeId}{x:Operand}(h:symA P E H (.convert t u x)=some (v,H'))(hx:∃ k n,E x=some (.one (.lit (.int k n)))):H'=H∧∀ G:HP,G.hy=H.hy→symA P E G (.convert t u x)=some (v,G):=by
 obtain⟨k,n,hx⟩:=hx
 simp only [symA,bk7,hx] at h
 have hb:bbd H (.one (.lit (.int k n)))=none:=rfl
 split at h
 ·rename_i h1;cases h1
 ·rename_i h1;cases h1
 ·rename_i v0 _ _ _ h1
  have h1:=Option.some.inj h1
  rw [← h1,hb] at h
  split at h<;>cases h
 ·rename_i h1;cases h1
 ·cases h
def bq8(v:AV):Option Nat :=
 match v with
 | .one (.sl b _ _ _)=>some b
 | .one (.su b _ _ _)=>some b
 | .one (.sz b _)=>some b
 | _=>none
def appT(E:Operand→Option AV)(op:Op):Option Nat :=
 match op with
 | .call ⟨.builtin .append,args,_⟩=>match args.toList with
  | x::_=>match E x with
   | some v=>bq8 v
   | none=>none
  | []=>none
 | _=>none
theorem a8w{args:Array Operand}{ats:Array TypeId}{b:Nat}(hb:appT E (.call ⟨.builtin .append,args,ats⟩)=some b)(h:yApp P E H args ats=some (v,H')):False:=by
 unfold yApp at h
 split at h
 ·rename_i s x t u hl hat
  have hs:bq8 s=some b:=by
   simp only [appT] at hb
   split at hb
   ·rename_i z zs hz
    rw [hz] at hl
    have:E z=some s:=by
     have:=(ags (show aej ((z::zs).map E)=some [s,x] from hl)).2 0 s rfl
     simpa using this
    rw [this] at hb
    exact hb
   ·cases hb
  have hn:∀ w sz,dstY H w sz s=none:=fun w sz=>by
   unfold dstY
   unfold bq8 at hs
   split at hs<;>first | rfl | cases hs
  simp only [hn] at h
  repeat' (split at h)
  all_goals cases h
 ·cases h
theorem boj{op:Op}{b:Nat}(hb:appT E op=some b)(h:symA P E H op=some (v,H')):∀ b',b'≠b→b'<H.n→H'.t.get b'=H.t.get b':=by
 exfalso
 unfold symA at h
 split at h<;>first | (cases hb;done) | (cases h;done) | exact a8w hb h
theorem bok{op:Op}{b:Nat}(hb:appT E op=some b):symP P E H op=none:=by
 cases hh:symP P E H op with
 | none=>rfl
 | some r =>
  exfalso
  obtain⟨v,H'⟩:=r
  unfold symP at hh
  split at hh
  ·cases hh
  ·split at hh<;>first | (cases hb;done) | (cases hh;done) | exact a8w hb hh
section
variable {ora:Ora}
def asn(P:Program)[Plain P](ora:Ora)(E:Operand→Option AV)(H:HP)(op:Op):R :=
 match acj P ora E H op with
 | some r=>some r
 | none=>symA P E H op
def ad5(P:Program)[Plain P](ora:Ora)(E:Operand→Option AV)(H:HP)(op:Op):R :=
 match symP P E H op with
 | some r=>some r
 | none=>asn P ora E H op
def a8b(op:Op)(P:Program)(I:Plain P)(ora:Ora)(E:Operand→Option AV)(H:HP):R :=
 match @symP P I E H op with
 | some r=>some r
 | none=>match acj P ora E H op with
  | some r=>some r
  | none=>@symA P I E H op
theorem boe(P:Program)[I:Plain P](ora:Ora)(E:Operand→Option AV)(H:HP)(op:Op):a8b op P I ora E H=ad5 P ora E H op:=by
 rfl
theorem amd{op:Op}(h:makes op=false)(G:HP):ad5 P ora E G op=asn P ora E G op:=by
 unfold ad5
 rw [bko h]
theorem adu{op:Op}(h:asn P ora E H op=some (v,H')):acj P ora E H op=some (v,H')∨(acj P ora E H op=none∧symA P E H op=some (v,H')):=by
 unfold asn at h
 split at h
 ·rename_i r hr;cases h;exact .inl hr
 ·rename_i hr;exact .inr ⟨hr,h⟩
theorem ayb{op:Op}(h:ad5 P ora E H op=some (v,H')):symP P E H op=some (v,H')∨asn P ora E H op=some (v,H'):=by
 unfold ad5 at h
 split at h
 ·rename_i r hr;cases h;exact .inl hr
 ·exact .inr h
theorem ame(ho:aom P ora){op:Op}(h:ad5 P ora E H op=some (v,H'))(hx:∀ x∈op.operands,∀ a,E x=some a→VRel ρ a (ev x))(hH:HRel ρ H w)(hd:Dom ρ H.n)(hj:J ρ H w) :
  St H H'∧OpS P ρ ev H w op v H':=by
 rcases ayb h with h | h
 ·exact buj h hx hH hd hj
 ·rcases adu h with h | ⟨_,h⟩
  ·exact bog ho h hx hH hd hj
  ·exact buh h hx hH hd hj
end
end
def WF(r:Option Nat):Fence:={ Fence.wide with round:=r }
theorem azh{r:Option Nat}{n:Nat}{P:Program}{f:FuncId}{args:Array Value}{w:World}{R:Ending→World→Prop}:CallsIn (WF r) n P f args w R↔Calls P f args w R:=callsIn_wide (n:=n)
theorem bey{r:Option Nat}{n:Nat}{P:Program}{l:Nat}{f:FuncId}{tmps:Array Value}{assign body:Code}{w:World}{R:Ending→World→Prop}(h:RoundIn Fence.wide 0 P l f tmps assign body w R):RoundIn (WF r) n P l f tmps assign body w R :=
 ⟨trivial,fun c cs _=>h.2 c cs (room_wide _)⟩
abbrev Fm:=PT AV
structure FRel (n:Nat) (ρ:PM) (F:Fm) (a:Act):Prop where
 sz:a.tmps.size=n
 get:∀ t v,F.get t=some v→∃ u,a.tmps[t]? = some u∧VRel ρ v u
theorem FRel.mono{n:Nat}{ρ ρ':PM}{F:Fm}{a:Act}(h:FRel n ρ F a)(hle:PM.le ρ ρ'):FRel n ρ' F a :=
 ⟨h.sz,fun t v hv=>let ⟨u,h1,h2⟩:=h.get t v hv;⟨u,h1,h2.mono hle⟩⟩
noncomputable section
def evF(F:Fm):Operand→Option AV
 | .tmp t=>F.get t
 | .const v=>if abw v then some (.one (.lit v)) else none
 | .global g=>some (.one (.lit (.pointer (some ⟨g,0,none⟩))))
 | .func f=>some (.one (.lit (.func (.func f) #[] #[])))
mutual
def fX{α:Type}:X→(X→α)→α
 | .var n,f=>f (.var n)
 | .lit u,f=>f (.lit u)
 | .ap g l,f=>fXs l fun l=>f (.ap g l)
def fXs{α:Type}:List X→(List X→α)→α
 | [],f=>f []
 | x::r,f=>fX x fun x=>fXs r fun r=>f (x::r)
end
mutual
theorem bwh{α:Type}:∀ (x:X) (f:X→α),fX x f=f x
 | .var _,_=>rfl
 | .lit _,_=>rfl
 | .ap g l,f=>by
  show fXs l (fun l=>f (.ap g l))=_
  rw [bpq]
theorem bpq{α:Type}:∀ (l:List X) (f:List X→α),fXs l f=f l
 | [],_=>rfl
 | x::r,f=>by
  show fX x (fun x=>fXs r fun r=>f (x::r))=_
  rw [bwh,bpq]
end
def fC{α:Type}(c:Cel)(f:Cel→α):α:=match c with
 | .sv s G e=>fX e fun e=>f (.sv s G e)
 | .pv w G e i o=>fX e fun e=>fX i fun i=>f (.pv w G e i o)
 | .os z b n s G e=>fX n fun n=>fX e fun e=>f (.os z b n s G e)
 | .po b s i o=>fX i fun i=>f (.po b s i o)
 | c=>f c
theorem bwg{α:Type}(c:Cel)(f:Cel→α):fC c f=f c:=by
 cases c<;>first | rfl | (simp only [fC,bwh])
def fCs{α:Type}:List Cel→(List Cel→α)→α
 | [],f=>f []
 | c::r,f=>fC c fun c=>fCs r fun r=>f (c::r)
theorem bgp{α:Type}:∀ (l:List Cel) (f:List Cel→α),fCs l f=f l
 | [],_=>rfl
 | c::r,f=>by
  show fC c (fun c=>fCs r fun r=>f (c::r))=_
  rw [bwg,bgp]
def fPs{α:Type}:List (Bool×List Cel)→(List (Bool×List Cel)→α)→α
 | [],f=>f []
 | p::r,f=>fCs p.2 fun c=>fPs r fun r=>f ((p.1,c)::r)
theorem bpp{α:Type}:∀ (l:List (Bool×List Cel)) (f:List (Bool×List Cel)→α),fPs l f=f l
 | [],_=>rfl
 | p::r,f=>by
  show fCs p.2 (fun c=>fPs r fun r=>f ((p.1,c)::r))=_
  rw [bgp,bpp]
def fA{α:Type}(v:AV)(f:AV→α):α:=match v with
 | .one c=>fC c fun c=>f (.one c)
 | .agg l=>fCs l fun l=>f (.agg l)
 | .tup l=>fPs l fun l=>f (.tup l)
theorem brp{α:Type}(v:AV)(f:AV→α):fA v f=f v:=by
 cases v with
 | one c=>exact bwg c fun c=>f (.one c)
 | agg l=>exact bgp l fun l=>f (.agg l)
 | tup l=>exact bpp l fun l=>f (.tup l)
def putF(n:Nat)(F:Fm)(dst:Option Tmp)(v:AV):Option Fm :=
 match dst with
 | none=>some F
 | some d=>match Nat.ble (Nat.succ d) n with
  | true=>fA v fun v=>some (F.put d (some v))
  | false=>none
end
theorem am3{n:Nat}{ρ:PM}{F:Fm}{a:Act}(h:FRel n ρ F a){x:Operand}{v:AV}(hx:evF F x=some v):VRel ρ v (a.eval x):=by
 cases x with
 | tmp t =>
  obtain⟨u,hu,hr⟩:=h.get t v hx
  have:a.eval (.tmp t)=u:=by simp [Act.eval,Array.getD_eq_getD_getElem?,hu]
  rw [this]
  exact hr
 | const c =>
  simp only [evF] at hx
  split at hx
  ·rename_i hc
   cases hx
   exact⟨rfl,hc⟩
  ·cases hx
 | global g=>cases hx;exact⟨rfl,rfl⟩
 | func f=>cases hx;exact⟨rfl,rfl⟩
theorem aun{n:Nat}{ρ:PM}{F F':Fm}{a:Act}{dst:Option Tmp}{v:AV}{u:Value}(h:FRel n ρ F a)(hv:VRel ρ v u)(hp:putF n F dst v=some F'):FRel n ρ F' (a.put dst u):=by
 cases dst with
 | none=>cases hp;exact h
 | some d =>
  simp only [putF,brp] at hp
  split at hp
  ·rename_i hb
   cases hp
   have hd:d<a.tmps.size:=by rw [h.sz];exact Nl hb
   refine⟨by simp [Act.put,h.sz],fun t v' hv'=>?_⟩
   rw [PT.get_put] at hv'
   simp only [Act.put]
   split at hv'
   ·rename_i ht
    subst ht
    cases hv'
    exact⟨u,by rw [Array.getElem?_setIfInBounds_self_of_lt hd],hv⟩
   ·rename_i ht
    obtain⟨u',h1,h2⟩:=h.get t v' hv'
    exact⟨u',by rw [Array.getElem?_setIfInBounds_ne (Ne.symm ht)];exact h1,h2⟩
  ·cases hp
theorem put_defers(a:Act)(dst:Option Tmp)(u:Value):(a.put dst u).defers=a.defers:=by cases dst<;>rfl
structure SRel (n:Nat) (ρ:PM) (F:Fm) (H:HP) (a:Act) (w:World):Prop where
 fr:FRel n ρ F a
 hp:HRel ρ H w
 dom:Dom ρ H.n
 j:J ρ H w
section
variable {P:Program} [Plain P] {ora:Ora} {n m:Nat} {r:Option Nat} {ρ:PM} {F F':Fm} {H H':HP} {a:Act} {w:World} {v:AV}
theorem aii{E:Operand→Option AV}{op:Op}(h:ad5 P ora E H op=some (v,H'))(c:Call):op≠.defer c:=by
 rintro rfl
 rw [amd rfl] at h
 cases h
theorem agm{o:Oper}{K:Act→World→Prop}{Q:Exit→Act→World→Prop}{Q':Value→World→Prop}{x:Result Next}(h:abz P Q' x)
  (hk:∀ u w',Q' u w'→K (a.put o.dst u) w'):o.uponIn (WF r) m P a K Q x:=by
 unfold abz at h
 split at h
 ·exact hk _ _ h
 ·exact hk _ _ h
 ·refine⟨fun hh=>by simp [WF,Fence.wide] at hh,azh.2 (Calls.mono h fun e w' ⟨u,he,hq⟩=>?_)⟩
  subst he
  exact hk _ _ hq
 ·refine⟨fun hh=>by simp [WF,Fence.wide] at hh,bey (RoundIn.mono h fun e w' ⟨u,he,hq⟩=>?_)⟩
  subst he
  exact hk _ _ hq
 ·exact h.elim
def bgx(hy:List X)(F:Fm)(t:Option Tmp)(want:Bool):Option Bool :=
 match t with
 | none=>some false
 | some t=>match F.get t with
  | some (.one (.lit (.bool b)))=>some (b==want)
  | some (.tup _)=>some false
  | some (.one (.sv .bool _ e))=>match known hy e with
   | some b=>some (b==want)
   | none=>none
  | _=>none
def ayv(hy:List X)(ops:List Oper)(F:Fm)(g:Option (Nat×Bool)):Option Bool :=
 match g with
 | none=>some true
 | some (j,want)=>bgx hy F ((ops[j]?).bind (·.dst)) want
theorem bav{ρ:PM}{G:List Nat}{e:X}{u:Value}(h:CRel ρ (.sv .bool G e) u):u=.bool (den e).bv:=by
 obtain⟨_,b,h1,h2⟩:=h
 rw [h1,h2]
 rfl
theorem bd1{ops:List Oper}{o:Oper}{b:Bool}{hy:List X}(hhy:Holds hy)(h:FRel n ρ F a)(hw:ayv hy ops F o.guard=some b):Region.wanted o (yielded ops.toArray a.tmps)=b:=by
 unfold ayv at hw
 unfold Region.wanted
 cases hg:o.guard with
 | none=>rw [hg] at hw;cases hw;rfl
 | some p =>
  obtain⟨j,want⟩:=p
  rw [hg] at hw
  simp only at hw ⊢
  unfold yielded
  simp only [List.getElem?_toArray]
  cases hd:(ops[j]?).bind (·.dst) with
  | none=>rw [hd] at hw;cases hw;cases want<;>rfl
  | some t =>
   rw [hd] at hw
   simp only [bgx] at hw
   simp only [Option.bind_some]
   split at hw
   ·rename_i b' hb
    cases hw
    obtain⟨u,hu,rfl,_⟩:=h.get t _ hb
    rw [hu]
    cases b'<;>cases want<;>rfl
   ·rename_i vs hb
    cases hw
    obtain⟨u,hu,us,rfl,_⟩:=h.get t _ hb
    rw [hu]
    cases want<;>rfl
   ·rename_i G e hb
    split at hw
    ·rename_i b' hk
     cases hw
     obtain⟨u,hu,hr⟩:=h.get t _ hb
     rw [hu,bav hr,ajb hhy hk]
     cases b'<;>cases want<;>rfl
    ·cases hw
   ·cases hw
end
def az0(k:Nat)(acc:List Nat)(es:List Edge):Nat :=
 es.foldl (fun s e=>if Region.binds .any e&&decide (e.on<k) then s ||| 2 ^ e.on ||| acc.getD e.on 0 else s) 0
def a1b:List Oper→Nat→List Nat→List Nat
 | [],_,acc=>acc
 | o::os,k,acc=>a1b os (k+1) (acc++[az0 k acc o.after.toList])
def befs(ops:List Oper):List Nat:=a1b ops 0 []
theorem a6m{k:Nat}{acc:List Nat}{j:Nat}:∀ (es:List Edge) (s:Nat),(es.foldl (fun s e=>if Region.binds .any e&&decide (e.on<k) then s ||| 2 ^ e.on ||| acc.getD e.on 0 else s) s).testBit j=true →
  s.testBit j=true∨∃ e∈es,Region.binds .any e=true∧e.on<k∧(j=e.on∨(acc.getD e.on 0).testBit j=true)
 | [],s,h=>.inl h
 | e::es,s,h=>by
  simp only [List.foldl_cons] at h
  rcases a6m es _ h with h1 | ⟨e',he,hr⟩
  ·split at h1
   ·rename_i hb
    simp only [Ba,Dt] at hb
    simp only [Nat.testBit_or,Bool.or_eq_true,Nat.testBit_two_pow,Dt] at h1
    rcases h1 with (h1 | h1) | h1
    ·exact .inl h1
    ·exact .inr ⟨e,Ms ..,hb.1,hb.2,.inl h1.symm⟩
    ·exact .inr ⟨e,Ms ..,hb.1,hb.2,.inr h1⟩
   ·exact .inl h1
  ·exact .inr ⟨e',Mc _ he,hr⟩
theorem asq:∀ (os:List Oper) (k:Nat) (acc:List Nat),acc.length=k→∃ r,a1b os k acc=acc++r∧r.length=os.length
 | [],_,acc,_=>⟨[],by simp [a1b],rfl⟩
 | o::os,k,acc,hk=>by
  obtain⟨r,h1,h2⟩:=asq os (k+1) (acc++[az0 k acc o.after.toList]) (by simp [hk])
  exact⟨az0 k acc o.after.toList::r,by simp [a1b,h1],by simp [h2]⟩
theorem azf:∀ (os:List Oper) (k:Nat) (acc:List Nat),acc.length=k→∀ (i:Nat) (o:Oper),os[i]? = some o→(a1b os k acc)[k+i]? = some (az0 (k+i) ((a1b os k acc).take (k+i)) o.after.toList)
 | [],_,_,_,i,o,h=>by simp at h
 | o::os,k,acc,hk,0,o',h=>by
  simp only [List.getElem?_cons_zero,Oi] at h
  subst h
  obtain⟨r,h1,_⟩:=asq os (k+1) (acc++[az0 k acc o.after.toList]) (by simp [hk])
  simp only [a1b,h1,Nat.add_zero]
  subst hk
  simp
 | o::os,k,acc,hk,i+1,o',h=>by
  simp only [List.getElem?_cons_succ] at h
  have:=azf os (k+1) (acc++[az0 k acc o.after.toList]) (by simp [hk]) i o' h
  simp only [a1b]
  rw [show k+(i+1)=k+1+i by omega]
  exact this
theorem bfr{ops:List Oper}{k j:Nat}{o:Oper}(ho:ops[k]? = some o)(h:((befs ops).getD k 0).testBit j=true) :
  ∃ e∈o.after.toList,Region.binds .any e=true∧e.on<k∧(j=e.on∨((befs ops).getD e.on 0).testBit j=true):=by
 have h1:=azf ops 0 [] rfl k o ho
 simp only [Nat.zero_add] at h1
 change (befs ops)[k]? = _ at h1
 rw [Gd,h1,Option.getD_some] at h
 rcases a6m _ _ h with h2 | ⟨e,he,hb,hlt,hr⟩
 ·simp at h2
 ·refine⟨e,he,hb,hlt,hr.imp id fun hr=>?_⟩
  change ((List.take k (befs ops)).getD e.on 0).testBit j=true at hr
  rw [Gd,List.getElem?_take_of_lt hlt] at hr
  rw [Gd]
  exact hr
def avj:List Oper→Nat→Bool
 | [],_=>true
 | o::os,k=>o.after.toList.all (fun e=>!Region.binds .any e||decide (e.on<k))&&avj os (k+1)
def bbn:List Oper→Bool
 | []=>true
 | o::os=>(match o.dst with | some d=>os.all fun p=>p.dst != some d | none=>true)&&bbn os
def ai6(B:List Nat)(k:Nat)(seen:List Tmp):List Oper→Nat→Bool
 | [],_=>true
 | p::ps,j=>(match p.dst with
   | some d=>!seen.contains d||j==k||(if j<k then(B.getD k 0).testBit j else(B.getD j 0).testBit k)
   | none=>true)&&ai6 B k seen ps (j+1)
def ax0(ops:List Oper)(B:List Nat):List Oper→Nat→Bool
 | [],_=>true
 | o::os,k=>ai6 B k (o.looksAt ops.toArray) ops 0&&ax0 ops B os (k+1)
def akj(ops:List Oper):Bool:=avj ops 0&&bbn ops&&ax0 ops (befs ops) ops 0
theorem asv:∀ (os:List Oper) (k:Nat),avj os k=true→∀ (i:Nat) (o:Oper),os[i]? = some o→∀ e∈o.after,Region.binds .any e=true→e.on<k+i
 | [],_,_,i,o,h=>by simp at h
 | o::os,k,hk,0,o',h=>by
  simp only [List.getElem?_cons_zero,Oi] at h
  subst h
  simp only [avj,Ba,List.all_eq_true] at hk
  intro e he hb
  have:=hk.1 e (by simpa using he)
  simpa [hb] using this
 | o::os,k,hk,i+1,o',h=>by
  simp only [List.getElem?_cons_succ] at h
  simp only [avj,Ba] at hk
  intro e he hb
  have:=asv os (k+1) hk.2 i o' h e he hb
  omega
theorem avi:∀ (os:List Oper),bbn os=true→∀ (i j:Nat) (o p:Oper) (d:Tmp),os[i]? = some o→os[j]? = some p→o.dst=some d→p.dst=some d→i=j
 | [],_,i,_,_,_,_,h,_,_,_=>by simp at h
 | x::os,hk,i,j,o,p,d,hi,hj,ho,hp=>by
  simp only [bbn,Ba] at hk
  cases i with
  | zero =>
   cases j with
   | zero=>rfl
   | succ j =>
    simp only [List.getElem?_cons_zero,Oi,List.getElem?_cons_succ] at hi hj
    subst hi
    rw [ho] at hk
    have:=List.all_eq_true.1 hk.1 p (List.mem_of_getElem? hj)
    simp [hp] at this
  | succ i =>
   cases j with
   | zero =>
    simp only [List.getElem?_cons_zero,Oi,List.getElem?_cons_succ] at hi hj
    subst hj
    rw [hp] at hk
    have:=List.all_eq_true.1 hk.1 o (List.mem_of_getElem? hi)
    simp [ho] at this
   | succ j =>
    simp only [List.getElem?_cons_succ] at hi hj
    rw [avi os hk.2 i j o p d hi hj ho hp]
theorem aij{B:List Nat}{k:Nat}{seen:List Tmp}:∀ (ps:List Oper) (j0:Nat),ai6 B k seen ps j0=true→∀ (j:Nat) (p:Oper) (t:Tmp),ps[j]? = some p→p.dst=some t→t∈seen→j0+j≠k →
  (j0+j<k∧(B.getD k 0).testBit (j0+j)=true)∨(k<j0+j∧(B.getD (j0+j) 0).testBit k=true)
 | [],_,_,j,_,_,h,_,_,_=>by simp at h
 | x::ps,j0,hk,0,p,t,hj,hp,ht,hne=>by
  simp only [List.getElem?_cons_zero,Oi] at hj
  subst hj
  simp only [ai6,hp,Ba,Bool.or_eq_true,Bool.not_eq_true',beq_iff_eq,Nat.add_zero] at hk hne ⊢
  rcases hk.1 with (h | h) | h
  ·simp [ht] at h
  ·exact absurd h hne
  ·split at h
   ·rename_i hlt;exact .inl ⟨hlt,h⟩
   ·exact .inr ⟨by omega,h⟩
 | x::ps,j0,hk,j+1,p,t,hj,hp,ht,hne=>by
  simp only [List.getElem?_cons_succ] at hj
  simp only [ai6,Ba] at hk
  have:=aij ps (j0+1) hk.2 j p t hj hp ht (by omega)
  rw [show j0+(j+1)=j0+1+j by omega]
  exact this
theorem atn{ops:List Oper}{B:List Nat}:∀ (os:List Oper) (k:Nat),ax0 ops B os k=true→∀ (i:Nat) (o:Oper),os[i]? = some o→ai6 B (k+i) (o.looksAt ops.toArray) ops 0=true
 | [],_,_,i,_,h=>by simp at h
 | x::os,k,hk,0,o,h=>by
  simp only [List.getElem?_cons_zero,Oi] at h
  subst h
  simp only [ax0,Ba] at hk
  exact hk.1
 | x::os,k,hk,i+1,o,h=>by
  simp only [List.getElem?_cons_succ] at h
  simp only [ax0,Ba] at hk
  have:=atn os (k+1) hk.2 i o h
  rw [show k+(i+1)=k+1+i by omega]
  exact this
def dOf(listed:Array Bool):Nat→Bool:=fun j=>listed.getD j false
theorem akf(listed:Array Bool){j:Nat}(hj:j<listed.size):dOf (listed.setIfInBounds j true)=fun i=>if i=j then true else dOf listed i:=by
 funext i
 unfold dOf
 by_cases h:i=j
 ·subst h
  simp [hj]
 ·rw [if_neg h,getD_set_ne false (Ne.symm h)]
def bga(n:Nat)(listed:Array Bool):Nat:=(List.range n).countP fun i=>!dOf listed i
theorem a5o{p q:Nat→Bool}{j:Nat}:∀ (l:List Nat),j∈l→(∀ i∈l,q i=true→p i=true)→p j=true→q j=false→l.countP q<l.countP p
 | [],h,_,_,_=>by cases h
 | x::l,h,hq,hp,hqj=>by
  have hle:l.countP q≤l.countP p:=List.countP_mono_left fun i hi=>hq i (Mc _ hi)
  rcases Mn.1 h with rfl | h
  ·rw [List.countP_cons,List.countP_cons]
   simp [hp,hqj]
   omega
  ·have ih:=a5o l h (fun i hi=>hq i (Mc _ hi)) hp hqj
   rw [List.countP_cons,List.countP_cons]
   have:=hq x (Ms ..)
   cases hqx:q x with
   | false=>simp;cases p x<;>simp<;>omega
   | true=>simp [this hqx];omega
theorem bbg{n j:Nat}{listed:Array Bool}(hj:j<n)(hs:listed.size=n)(hD:dOf listed j=false):bga n (listed.setIfInBounds j true)<bga n listed:=by
 unfold bga
 rw [akf listed (by omega)]
 refine a5o (j:=j) _ (List.mem_range.2 hj) (fun i _ h=>?_) (by simp [hD]) (by simp)
 by_cases hij:i=j
 ·simp [hij] at h
 ·simpa [hij] using h
section
variable {ops:List Oper}
theorem beo{o:Oper}{t:Tmp}(h:Operand.tmp t∈o.op.operands):t∈o.looksAt ops.toArray :=
 List.mem_append_left _ (List.mem_filterMap.2 ⟨.tmp t,by simpa using h,rfl⟩)
theorem a14{o:Oper}{j:Nat}{want:Bool}{t:Tmp}(h:o.guard=some (j,want))(ht:(ops[j]?).bind (·.dst)=some t):t∈o.looksAt ops.toArray:=by
 unfold Oper.looksAt
 rw [h]
 refine List.mem_append_right _ ?_
 have ht':(ops.toArray[j]?).bind (·.dst)=some t:=by simpa using ht
 simp only [ht']
 exact Mg.2 rfl
end
def bel(ρ:PM)(n:Nat):PM:=fun b=>if b<n then ρ b else none
theorem abg{ρ:PM}{n b:Nat}(h:b<n):bel ρ n b=ρ b:=if_pos h
theorem ba8{ρ:PM}{n b:Nat}(h:n≤b):bel ρ n b=none:=if_neg (by omega)
theorem abb{ρ:PM}{n b:Nat}{L:Loc}(h:bel ρ n b=some L):b<n∧ρ b=some L:=by
 unfold bel at h
 split at h
 ·rename_i hb;exact⟨hb,h⟩
 ·cases h
theorem apu(ρ:PM)(n:Nat):Dom (bel ρ n) n:=fun _ h=>ba8 h
theorem ba9(ρ:PM)(n:Nat):PM.le (bel ρ n) ρ:=fun b x h=>(abb h).2
theorem ai7{ρ ρ':PM}{n n':Nat}(h:PM.le ρ ρ')(hn:n≤n'):PM.le (bel ρ n) (bel ρ' n'):=fun b x hb=>by
 obtain⟨h1,h2⟩:=abb hb
 rw [abg (by omega)]
 exact h _ _ h2
theorem bfs{ρ:PM}{n m:Nat}(h:Dom ρ n)(hm:n≤m):bel ρ m=ρ:=by
 funext b
 unfold bel
 split
 ·rfl
 ·rw [h b (by omega)]
theorem All2.back{α β:Type}{R R':α→β→Prop}(h:∀ a b b',R a b→R' a b'→R a b'):∀ {as:List α} {bs bs':List β},All2 R as bs→All2 R' as bs'→All2 R as bs'
 | [],[],[],_,_=>trivial
 | _::_,_::_,_::_,⟨h1,h2⟩,⟨h3,h4⟩=>⟨h _ _ _ h1 h3,All2.back h h2 h4⟩
 | [],[],_::_,_,h=>h.elim
 | [],_::_,_,h,_=>h.elim
 | _::_,[],_,h,_=>h.elim
 | _::_,_::_,[],_,h=>h.elim
theorem CRel.back{ρ ρ':PM}(hle:PM.le ρ ρ'):∀ {c:Cel} {u u':Value},CRel ρ c u→CRel ρ' c u'→CRel ρ c u'
 | .lit _,_,_,_,h=>h
 | .ptr b _,_,_,⟨L,h1,_⟩,⟨L',h2,h3⟩=>⟨L',by have:=hle b L h1;rw [h2] at this;cases this;exact h1,h3⟩
 | .sl b _ _ _,_,_,⟨⟨L,h1,_⟩,_⟩,⟨⟨L',h2,h3⟩,h4⟩=>⟨⟨L',by have:=hle b L h1;rw [h2] at this;cases this;exact h1,h3⟩,h4⟩
 | .su b _ _ _,_,_,⟨L,_,h1,_⟩,⟨L',cap,h2,h3⟩=>⟨L',cap,by have:=hle b L h1;rw [h2] at this;cases this;exact h1,h3⟩
 | .sz b _,_,_,⟨L,_,_,h1,_⟩,⟨L',o,cap,h2,h3⟩=>⟨L',o,cap,by have:=hle b L h1;rw [h2] at this;cases this;exact h1,h3⟩
 | .kp b _ _,_,_,⟨L,_,h1,_⟩,⟨L',cap,h2,h3⟩=>⟨L',cap,by have:=hle b L h1;rw [h2] at this;cases this;exact h1,h3⟩
 | .us,_,_,_,h=>h
 | .un _,_,_,_,h=>h
 | .fn _ _,_,_,⟨us,_,h1⟩,⟨us',h2,h3⟩=>⟨us',h2,h1.back (fun p v v' ⟨L,g1,_⟩ ⟨L',g2,g3⟩=>⟨L',by have:=hle _ L g1;rw [g2] at this;cases this;exact g1,g3⟩) h3⟩
 | .mp b,_,_,⟨L,h1,_⟩,⟨L',h2,h3⟩=>⟨L',by have:=hle b L h1;rw [h2] at this;cases this;exact h1,h3⟩
 | .yd b,_,_,⟨L,h1,_⟩,⟨L',h2,h3⟩=>⟨L',by have:=hle b L h1;rw [h2] at this;cases this;exact h1,h3⟩
 | .sv _ G _,_,_,⟨h1,_⟩,⟨_,h2⟩=>⟨h1,h2.mono (PM.at_back hle h1)⟩
 | .pv _ G _ _ _,_,_,⟨h1,_⟩,⟨_,b,o,cap,h2,h3⟩=>⟨h1,b,o,cap,h2.mono (PM.at_back hle h1),h3⟩
 | .os _ _ _ _ _ _,_,_,⟨hG,_⟩,⟨_,.inl h⟩=>⟨hG,.inl h⟩
 | .os _ _ _ _ _ _,_,_,⟨_,.inl ⟨h1,h2,_⟩⟩,⟨_,.inr ⟨h3,_⟩⟩=>absurd ⟨h1,h2⟩ h3
 | .os _ b _ _ _ _,_,_,⟨hG,.inr ⟨_,L,_,_,h1,_⟩⟩,⟨_,.inr ⟨h3,L',k,cap,h4,h5⟩⟩=>⟨hG,.inr ⟨h3,L',k,cap,by have:=hle b L h1;rw [h4] at this;cases this;exact h1,h5⟩⟩
 | .po b _ _ _,_,_,⟨L,h1,_⟩,⟨L',h2,h3⟩=>⟨L',by have:=hle b L h1;rw [h2] at this;cases this;exact h1,h3⟩
theorem PRel.back{ρ ρ':PM}(hle:PM.le ρ ρ'):∀ {p:Bool×List Cel} {u u':Value},PRel ρ p u→PRel ρ' p u'→PRel ρ p u'
 | (true,_),_,_,⟨us,_,h1⟩,⟨us',h2,h3⟩=>⟨us',h2,h1.back (R':=CRel ρ') (fun _ _ _=>CRel.back hle) h3⟩
 | (false,[_]),_,_,h1,h2=>CRel.back (ρ:=ρ) hle h1 h2
 | (false,[]),_,_,h,_=>h.elim
 | (false,_::_::_),_,_,h,_=>h.elim
theorem VRel.back{ρ ρ':PM}(hle:PM.le ρ ρ'):∀ {v:AV} {u u':Value},VRel ρ v u→VRel ρ' v u'→VRel ρ v u'
 | .one _,_,_,h1,h2=>CRel.back (ρ:=ρ) hle h1 h2
 | .agg _,_,_,⟨us,_,h1⟩,⟨us',h2,h3⟩=>⟨us',h2,h1.back (R':=CRel ρ') (fun _ _ _=>CRel.back hle) h3⟩
 | .tup _,_,_,⟨us,_,h1⟩,⟨us',h2,h3⟩=>⟨us',h2,h1.back (R':=PRel ρ') (fun _ _ _=>PRel.back hle) h3⟩
theorem aei.back{ρ ρ':PM}(hle:PM.le ρ ρ'){w w':World}{L:Loc}{i:Nat}:∀ {x:Ct},aei ρ w L i x→aei ρ' w' L i x→aei ρ w' L i x
 | .c _,⟨_,_,_,_,_,_,_,_,h⟩,⟨arr,t,fr,u,h1,h2,h3,h4,h5⟩=>⟨arr,t,fr,u,h1,h2,h3,h4,h.back hle h5⟩
 | .map _ _,⟨_,_,_,_,h⟩,⟨h1,h2,arr,h3,h4⟩=>⟨h1,h2,arr,h3,h.back (fun _ _ _ ⟨a1,a2,a3⟩ ⟨b1,b2,b3⟩=>⟨a1.back hle b1,a2.back hle b2,b3⟩) h4⟩
 | .iter none _ _ _,_,h=>h
 | .iter (some b) _ _ _,⟨_,_,_,_,K,g1,_⟩,⟨h1,h2,mm,h3,K',g2,g3⟩=>⟨h1,h2,mm,h3,K',by have:=hle b K g1;rw [g2] at this;cases this;exact g1,g3⟩
 | .loop _ _ _ _ _,⟨_,_,r,_,_,_,_,_,_,h8,h⟩,⟨h1,h2,r',h3,h4,h5,h6,h7,h7',h8',h'⟩=>⟨h1,h2,r',h3,h4,h5,h6,h7,h7',h8',fun t v hv=>by
  obtain⟨u,_,g2⟩:=h t v hv
  obtain⟨u',g3,g4⟩:=h' t v hv
  exact⟨u',g3,g2.back hle g4⟩⟩
 | .room,_,h=>h
 | .mx _ _ _ _ _,_,h=>h
 | .ix _ _ _,⟨_,_,K,_,_,g1,_⟩,⟨h1,h2,K',since,seen,g2,h4⟩=>⟨h1,h2,K',since,seen,by have:=hle _ K g1;rw [g2] at this;cases this;exact g1,h4⟩
 | .rows _ _ _ _,⟨_,hG,_⟩,⟨h0,_,hn,arr,t,fr,h1,h2,h3,h4,h5,h6⟩=>⟨h0,hG,hn,arr,t,fr,h1,h2,h3,h4,h5,fun i row hi=>(h6 i row hi).mono (PM.at_back hle hG)⟩
def Cel.below(n:Nat):Cel→Bool
 | .lit _=>true
 | .ptr b _=>Nat.ble (Nat.succ b) n
 | .sl b _ _ _=>Nat.ble (Nat.succ b) n
 | .su b _ _ _=>Nat.ble (Nat.succ b) n
 | .sz b _=>Nat.ble (Nat.succ b) n
 | .kp b _ _=>Nat.ble (Nat.succ b) n
 | .us=>true
 | .un _=>true
 | .fn _ caps=>caps.all fun p=>Nat.ble (Nat.succ p.1) n
 | .mp b=>Nat.ble (Nat.succ b) n
 | .yd b=>Nat.ble (Nat.succ b) n
 | .sv _ G _=>G.all fun b=>Nat.ble (Nat.succ b) n
 | .pv _ G _ _ _=>G.all fun b=>Nat.ble (Nat.succ b) n
 | .os _ b _ _ G _=>Nat.ble (Nat.succ b) n&&G.all fun b=>Nat.ble (Nat.succ b) n
 | .po b _ _ _=>Nat.ble (Nat.succ b) n
def AV.below(n:Nat):AV→Bool
 | .one c=>c.below n
 | .agg xs=>xs.all (Cel.below n)
 | .tup vs=>vs.all fun p=>p.2.all (Cel.below n)
theorem All2.cutAll{α β:Type}{R R':α→β→Prop}{q:α→Bool}(h:∀ a b,q a=true→R a b→R' a b):∀ {as:List α} {bs:List β},as.all q=true→All2 R as bs→All2 R' as bs
 | [],[],_,_=>trivial
 | a::as,b::bs,hq,⟨h1,h2⟩=>by
  simp only [List.all_cons,Ba] at hq
  exact⟨h _ _ hq.1 h1,All2.cutAll h hq.2 h2⟩
 | [],_::_,_,h=>h.elim
 | _::_,[],_,h=>h.elim
theorem ada{b n:Nat}(h:Nat.ble (Nat.succ b) n=true):b<n:=Nl h
theorem bpc{ρ:PM}{n:Nat}{G:List Nat}(h:(G.all fun b=>Nat.ble (Nat.succ b) n)=true):∀ k o,ρ.at G k o→(bel ρ n).at G k o:=fun k o ⟨g,h1,L,M,h2,h3⟩ =>
 ⟨g,h1,L,M,by rw [abg (ada (List.all_eq_true.1 h g h1))];exact h2,h3⟩
theorem a1c{ρ:PM}{n:Nat}{G:List Nat}(h:(G.all fun b=>Nat.ble (Nat.succ b) n)=true)(h1:∀ g∈G,∃ L,ρ g=some L):∀ g∈G,∃ L,bel ρ n g=some L:=fun g hg =>
 let ⟨L,hL⟩:=h1 g hg;⟨L,by rw [abg (ada (List.all_eq_true.1 h g hg))];exact hL⟩
theorem CRel.bel{ρ:PM}{n:Nat}:∀ {c:Cel} {u:Value},c.below n=true→CRel ρ c u→CRel (bel ρ n) c u
 | .lit _,_,_,h=>h
 | .ptr _ _,_,hb,⟨L,h1,h2⟩=>⟨L,by rw [abg (ada hb)];exact h1,h2⟩
 | .sl _ _ _ _,_,hb,⟨⟨L,h1,h2⟩,h3⟩=>⟨⟨L,by rw [abg (ada hb)];exact h1,h2⟩,h3⟩
 | .su _ _ _ _,_,hb,⟨L,cap,h1,h2⟩=>⟨L,cap,by rw [abg (ada hb)];exact h1,h2⟩
 | .sz _ _,_,hb,⟨L,o,cap,h1,h2⟩=>⟨L,o,cap,by rw [abg (ada hb)];exact h1,h2⟩
 | .kp _ _ _,_,hb,⟨L,cap,h1,h2⟩=>⟨L,cap,by rw [abg (ada hb)];exact h1,h2⟩
 | .us,_,_,h=>h
 | .un _,_,_,h=>h
 | .fn _ _,_,hb,⟨us,h1,h2⟩=>⟨us,h1,h2.cutAll (fun p v hp ⟨L,g1,g2⟩=>⟨L,by rw [abg (ada hp)];exact g1,g2⟩) hb⟩
 | .mp _,_,hb,⟨L,h1,h2⟩=>⟨L,by rw [abg (ada hb)];exact h1,h2⟩
 | .yd _,_,hb,⟨L,h1,h2⟩=>⟨L,by rw [abg (ada hb)];exact h1,h2⟩
 | .sv _ _ _,_,hb,⟨h1,h2⟩=>⟨a1c hb h1,h2.mono (bpc hb)⟩
 | .pv _ _ _ _ _,_,hb,⟨h1,b,o,cap,h2,h3⟩=>⟨a1c hb h1,b,o,cap,h2.mono (bpc hb),h3⟩
 | .os _ _ _ _ _ _,_,hb,⟨hG,.inl h⟩=>⟨a1c (by simp only [Cel.below,Ba] at hb;exact hb.2) hG,.inl h⟩
 | .os _ _ _ _ _ _,_,hb,⟨hG,.inr ⟨h0,L,k,cap,h1,h2⟩⟩=>⟨a1c (by simp only [Cel.below,Ba] at hb;exact hb.2) hG,.inr ⟨h0,L,k,cap,by simp only [Cel.below,Ba] at hb;rw [abg (ada hb.1)];exact h1,h2⟩⟩
 | .po _ _ _ _,_,hb,⟨L,h1,h2⟩=>⟨L,by rw [abg (ada hb)];exact h1,h2⟩
theorem PRel.bel{ρ:PM}{n:Nat}:∀ {p:Bool×List Cel} {u:Value},p.2.all (Cel.below n)=true→PRel ρ p u→PRel (bel ρ n) p u
 | (true,_),_,hb,⟨us,h1,h2⟩=>⟨us,h1,h2.cutAll (fun _ _=>CRel.bel) hb⟩
 | (false,[c]),_,hb,h=>by
  simp only [List.all_cons,List.all_nil,Bool.and_true] at hb
  exact CRel.bel (ρ:=ρ) hb h
 | (false,[]),_,_,h=>h.elim
 | (false,_::_::_),_,_,h=>h.elim
theorem VRel.bel{ρ:PM}{n:Nat}:∀ {v:AV} {u:Value},v.below n=true→VRel ρ v u→VRel (bel ρ n) v u
 | .one _,_,hb,h=>CRel.bel hb h
 | .agg _,_,hb,⟨us,h1,h2⟩=>⟨us,h1,h2.cutAll (fun _ _=>CRel.bel) hb⟩
 | .tup _,_,hb,⟨us,h1,h2⟩=>⟨us,h1,h2.cutAll (fun _ _=>PRel.bel) hb⟩
section
variable {ρ0 ρ ρ' ρ2:PM} {H0 H H1 H2:HP} {w0 w w':World}
theorem HRel.still(h:HRel ρ H w)(hs:∀ k,k<w.heap.size→w'.heap[k]? = w.heap[k]?):HRel ρ H w' :=
 ⟨fun b i c L hc hL=>(h.rel b i c L hc hL).of_heap (hs _ (h.rel b i c L hc hL).lt),h.inj,h.hy⟩
theorem Sim.still(s:Sim ρ0 H0 w0 ρ H w)(hs:∀ k,k<w.heap.size→w'.heap[k]? = w.heap[k]?)(h1:w.heap.size≤w'.heap.size)(h2:w'.os=w.os)(h3:w'.tape=w.tape)(h4:w'.output=w.output)(hd:Dom ρ0 H0.n)(hlt:∀ b L,H0.Kn b→ρ0 b=some L→L.B<w.heap.size):Sim ρ0 H0 w0 ρ H w' where
 le:=s.le
 grow:=s.grow
 dom:=s.dom
 rel:=s.rel.still hs
 knc:=s.knc
 fr:=fun k hk hno=>by rw [hs k (Nat.lt_of_lt_of_le hk s.size)];exact s.fr k hk hno
 new:=s.new
 size:=Nat.le_trans s.size h1
 os:=h2.trans s.os
 tape:=h3.trans s.tape
 output:=h4.trans s.output
 old:=s.old
 jj:=fun hj=>(s.jj hj).world hs
 ro:=s.ro
theorem Sim.less(s:Sim ρ0 H0 w0 ρ2 H2 w)(hd:Dom ρ0 H0.n)(h0:H0.n≤H1.n)(hsame:∀ b,b<H1.n→H1.t.get b=H2.t.get b)(hr:HRel (bel ρ2 H1.n) H1 w):Sim ρ0 H0 w0 (bel ρ2 H1.n) H1 w:=by
 have hcell:∀ b i,b<H1.n→H1.cell b i=H2.cell b i:=fun b i hb=>by unfold HP.cell;rw [hsame b hb]
 exact {
  le:=fun b x hb=>by rw [abg (Nat.lt_of_lt_of_le (hd.lt hb) h0)];exact s.le b x hb
  grow:=h0
  dom:=apu _ _
  rel:=hr
  knc:=fun b i hb hc=>by rw [hcell b i (by omega)];exact s.knc b i hb hc
  fr:=s.fr
  new:=fun b L g1 g2=>s.new b L g1 (abb g2).2
  size:=s.size
  os:=s.os
  tape:=s.tape
  output:=s.output
  old:=fun b L g1 g2=>s.old b L g1 (abb g2).2
  jj:=fun hj=>(s.jj hj).less (ba9 _ _) fun b L ⟨i,c,hc⟩ hL=>⟨i,c,by rw [← hcell b i (abb hL).1];exact hc⟩
  ro:=fun g L M k o g1 g2=>s.ro g L M k o g1 (abb g2).2 }
theorem Sim.ghost(s:Sim ρ0 H0 w0 ρ H w)(h1:H.n≤H2.n)(hhy:H2.hy=H.hy)(hsame:∀ b,b<H.n→H2.t.get b=H.t.get b):Sim ρ0 H0 w0 ρ H2 w:=by
 have hcell:∀ b i,b<H.n→H2.cell b i=H.cell b i:=fun b i hb=>by unfold HP.cell;rw [hsame b hb]
 exact {
  le:=s.le
  grow:=Nat.le_trans s.grow h1
  dom:=fun b hb=>s.dom b (by omega)
  rel:=⟨fun b i c L hc hL=>s.rel.rel b i c L (by rw [← hcell b i (s.dom.lt hL)];exact hc) hL,
   fun b b' L L' ⟨i,c,hc⟩ ⟨i',c',hc'⟩ hL hL'=>s.rel.inj b b' L L' ⟨i,c,by rw [← hcell b i (s.dom.lt hL)];exact hc⟩ ⟨i',c',by rw [← hcell b' i' (s.dom.lt hL')];exact hc'⟩ hL hL',by rw [hhy];exact s.rel.hy⟩
  knc:=fun b i hb hc=>by rw [hcell b i (Nat.lt_of_lt_of_le hb s.grow)];exact s.knc b i hb hc
  fr:=s.fr
  new:=s.new
  size:=s.size
  os:=s.os
  tape:=s.tape
  output:=s.output
  old:=s.old
  jj:=fun hj=>(s.jj hj).less (PM.le.refl _) fun b L ⟨i,c,hc⟩ hL=>⟨i,c,by rw [← hcell b i (s.dom.lt hL)];exact hc⟩
  ro:=s.ro }
end
end Go.Sx
