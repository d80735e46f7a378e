/-
  A second abstract evaluator of the model's code: equality of cells, contents and blocks, tested. Conditions: none; nothing here speaks of one program.
-/
import Derived.Test.YtlbbkmcegbeckaaSvU
import Derived.Test.YtlbbkmcegbeckaaSvR
set_option linter.all false
set_option maxRecDepth 100000
noncomputable section
namespace Go.Sx
variable [Sg]
def amh(ora:Ora):Prop:=∀ (f:Tg) (args:List AV) (H:HP) (v:AV) (H':HP),ora f args H=some (v,H')→St H H'
theorem aom.st{P:Program}{ora:Ora}(h:aom P ora):amh ora:=fun f args H v H' hr=>(h f args H v H' hr).1
section
variable {P:Program} [Plain P] {ora:Ora} {E:Operand→Option AV} {H H':HP} {w:World} {ρ:PM} {ev:Operand→Value} {v:AV}
def ay7(E:Operand→Option AV)(op:Op):Bool :=
 match isPure op with
 | true=>true
 | false=>match op with
  | .convert _ _ x=>match E x with
   | some (.one (.lit (.int _ _)))=>true
   | _=>false
  | _=>false
theorem ayd{op:Op}(hp:ay7 E op=true)(h:acj P ora E H op=some (v,H')):H'=H∧∀ G:HP,acj P ora E G op=some (v,G):=by
 unfold ay7 at hp
 split at hp
 ·rename_i h1
  exact a01 h1 h
 ·split at hp
  ·rename_i t u x
   split at hp
   ·rename_i k n hx
    simp only [acj,ao4,hx] at h ⊢
    split at h
    ·cases h;rename_i h1;exact⟨rfl,fun G=>by first | rfl | simp [*]⟩
    ·rename_i h1;cases h1
    ·rename_i h1
     cases h1
     split at h
     ·simp [toStr,a4x] at h
     ·cases h
    ·rename_i h1;cases h1
    ·rename_i h1
     cases h1
     simp [a4x] at h
    ·cases h
   ·cases hp
  ·cases hp
theorem boh(ho:amh ora){op:Op}(h:acj P ora E H op=some (v,H')):St H H':=by
  by_cases hp:isPure op=true
  · rw [(a01 hp h).1];exact St.refl H
  · cases op with
    | alloc t =>
        simp only [acj,a6q] at h
        repeat' (split at h)
        all_goals first
         | (cases h;done)
         | (cases h;exact St.refl _)
         | (cases h;exact St.push _ _)
         | (cases h;exact(St.drop _ _).trans (St.push _ _))
         | (cases h;exact St.obj _ _ _)
         | (cases h;exact St.write (by assumption))
         | (obtain⟨a,ha,hv⟩:=map_some h;cases hv;first | exact St.refl _ | exact St.push _ _ | exact St.write ha)
    | box t x =>
        simp only [acj,oBox] at h
        repeat' (split at h)
        all_goals first
         | (cases h;done)
         | (cases h;exact St.refl _)
         | (cases h;exact St.push _ _)
         | (cases h;exact(St.drop _ _).trans (St.push _ _))
         | (cases h;exact St.obj _ _ _)
         | (cases h;exact St.write (by assumption))
         | (obtain⟨a,ha,hv⟩:=map_some h;cases hv;first | exact St.refl _ | exact St.push _ _ | exact St.write ha)
    | buildSlice t m ps =>
        simp only [acj,anb] at h
        repeat' (split at h)
        all_goals first
         | (cases h;done)
         | (cases h;exact St.refl _)
         | (cases h;exact St.push _ _)
         | (cases h;exact(St.drop _ _).trans (St.push _ _))
         | (cases h;exact St.obj _ _ _)
         | (cases h;exact St.write (by assumption))
         | (obtain⟨a,ha,hv⟩:=map_some h;cases hv;first | exact St.refl _ | exact St.push _ _ | exact St.write ha)
    | load t x =>
        simp only [acj,a92] at h
        repeat' (split at h)
        all_goals first
         | (cases h;done)
         | (cases h;exact St.refl _)
         | (cases h;exact St.push _ _)
         | (cases h;exact(St.drop _ _).trans (St.push _ _))
         | (cases h;exact St.obj _ _ _)
         | (cases h;exact St.write (by assumption))
         | (obtain⟨a,ha,hv⟩:=map_some h;cases hv;first | exact St.refl _ | exact St.push _ _ | exact St.write ha)
    | store t x y =>
        simp only [acj,a6s] at h
        repeat' (split at h)
        all_goals first
         | (cases h;done)
         | (cases h;exact St.refl _)
         | (cases h;exact St.push _ _)
         | (cases h;exact(St.drop _ _).trans (St.push _ _))
         | (cases h;exact St.obj _ _ _)
         | (cases h;exact St.write (by assumption))
         | (obtain⟨a,ha,hv⟩:=map_some h;cases hv;first | exact St.refl _ | exact St.push _ _ | exact St.write ha)
    | makeSlice t x y =>
        simp only [acj,al3] at h
        repeat' (split at h)
        all_goals first
         | (cases h;done)
         | (cases h;exact St.refl _)
         | (cases h;exact St.push _ _)
         | (cases h;exact(St.drop _ _).trans (St.push _ _))
         | (cases h;exact St.obj _ _ _)
         | (cases h;exact St.write (by assumption))
         | (obtain⟨a,ha,hv⟩:=map_some h;cases hv;first | exact St.refl _ | exact St.push _ _ | exact St.write ha)
    | convert t u x =>
        simp only [acj,ao4] at h
        repeat' (split at h)
        all_goals first
         | (cases h;done)
         | (cases h;exact St.refl _)
         | (cases h;exact St.push _ _)
         | (cases h;exact(St.drop _ _).trans (St.push _ _))
         | (cases h;exact St.obj _ _ _)
         | (cases h;exact St.write (by assumption))
         | (obtain⟨a,ha,hv⟩:=map_some h;cases hv;first | exact St.refl _ | exact St.push _ _ | exact St.write ha)
    | call c =>
      obtain⟨callee,args,ats⟩:=c
      cases callee with
      | value f =>
        simp only [acj,brf,bm2] at h
        repeat' (split at h)
        all_goals first
          | (cases h;done)
          | exact ho _ _ _ _ _ h
      | invoke r m=>cases h
      | builtin b =>
        cases b with
        | len =>
          simp only [acj,brf,oLen] at h
          repeat' (split at h)
          all_goals first
            | (cases h;done)
            | (obtain⟨a,ha,hv⟩:=map_some h;cases hv;exact St.refl _)
        | _=>cases h
    | _=>first | cases h | exact absurd rfl hp
theorem bcc{t:TypeId}{x:Operand}(h:acj P ora E H (.load t x)=some (v,H')):∃ b off,E x=some (.one (.ptr b off))∧H'=H∧∀ G:HP,G.t.get b=H.t.get b→acj P ora E G (.load t x)=some (v,G):=by
 simp only [acj,a92] at h ⊢
 split at h
 ·rename_i b off ag m hx hs
  obtain⟨a,ha,hv⟩:=map_some h
  cases hv
  refine⟨b,off,hx,rfl,fun G hG=>?_⟩
  have:G.read b off (wid ag m)=H.read b off (wid ag m):=by unfold HP.read;rw [hG]
  rw [this,ha]
  rfl
 ·cases h
theorem bkk{t:TypeId}{x y:Operand}(h:acj P ora E H (.store t x y)=some (v,H')):∃ b off,E x=some (.one (.ptr b off))∧H'.n=H.n∧∀ b',b'≠b→H'.t.get b'=H.t.get b':=by
 simp only [acj,a6s] at h
 split at h
 ·rename_i b off cs ag m hx hy hs
  split at h
  ·obtain⟨G,hG,hv⟩:=map_some h
   cases hv
   refine⟨b,off,hx,(HP.write_spec hG).1,fun b' hb=>?_⟩
   unfold HP.write at hG
   split at hG
   ·split at hG
    ·cases hG
     simp only [PT.get_put]
     rw [if_neg hb]
    ·cases hG
   ·cases hG
  ·cases h
 ·cases h
theorem bhe{t:TypeId}{x:Operand}(h:acj P ora E H (.load t x)=some (v,H'))(hx:∀ a,E x=some a→VRel ρ a (ev x))(hH:HRel ρ H w) :
  ∃ u,VRel ρ v u∧∀ dst ty pos after guard,(execOp ev ⟨dst,.load t x,ty,pos,after,guard⟩).run P w=.ok (.value u) w:=by
 simp only [acj,a92] at h
 split at h
 ·rename_i b off ag n hx' hs
  obtain⟨a,ha,hv⟩:=map_some h
  cases hv
  obtain⟨cs,hcs,hm⟩:=aa8 ha
  obtain⟨L,hL,hev⟩:=hx _ hx'
  obtain⟨us,hl,hrel,hcell⟩:=HP.read_world hcs hH hL
  refine⟨_,ap6 hm hrel,fun dst ty pos after guard=>adb ?_⟩
  simp only [Instr.loadAt,hev,Instr.sureAddr,Sem.run_bind,Sem.run_pure,Result.andThen_ok]
  exact aes hs hl hcell
 ·cases h
theorem apm(ho:amh ora){op:Op}(h:ad5 P ora E H op=some (v,H')):St H H':=by
 rcases ayb h with h | h
 ·exact buk h
 ·rcases adu h with h | ⟨_,h⟩
  ·exact boh ho h
  ·exact bui h
theorem bae{op:Op}(h:ay7 E op=true):makes op=false:=by
 unfold ay7 at h
 cases op<;>first | rfl | (exfalso;simp [isPure] at h;done)
def awi(E:Operand→Option AV)(op:Op):Bool :=
 match ay7 E op with
 | true=>true
 | false=>match op with
  | .load _ x=>match E x with
   | some a=>isPv a
   | none=>false
  | _=>false
theorem a00{op:Op}(hp:ay7 E op=true)(h:acj P ora E H op=none)(G:HP):acj P ora E G op=none:=by
 cases hh:acj P ora E G op with
 | none=>rfl
 | some r =>
  obtain⟨v',G'⟩:=r
  have:=(ayd hp hh).2 H
  rw [h] at this
  cases this
theorem bcd{t:TypeId}{x:Operand}{a:AV}(hx:E x=some a)(hp:isPv a=true):acj P ora E H (.load t x)=none:=by
 unfold isPv at hp
 split at hp
 ·simp only [acj,a92,hx]
 ·cases hp
theorem bab{op:Op}(h:awi E op=true):makes op=false:=by
 unfold awi at h
 split at h
 ·rename_i h1;exact bae h1
 ·split at h
  ·rfl
  ·cases h
theorem bat{op:Op}(hp:awi E op=true)(h:asn P ora E H op=some (v,H')):H'=H∧∀ G:HP,G.hy=H.hy→asn P ora E G op=some (v,G):=by
 unfold awi at hp
 split at hp
 ·rename_i h1
  rcases adu h with h | ⟨h0,h⟩
  ·obtain⟨h2,h3⟩:=ayd h1 h
   refine⟨h2,fun G _=>?_⟩
   unfold asn
   rw [h3 G]
  ·unfold ay7 at h1
   have hpo:ay7 E op=true:=by unfold ay7;exact h1
   split at h1
   ·rename_i h4
    obtain⟨h2,h3⟩:=bkn h4 h
    refine⟨h2,fun G hG=>?_⟩
    unfold asn
    rw [a00 hpo h0 G]
    exact h3 G hG
   ·split at h1
    ·rename_i t u x
     obtain⟨h2,h3⟩:=bkm h (by split at h1<;>simp_all)
     refine⟨h2,fun G hG=>?_⟩
     unfold asn
     rw [a00 hpo h0 G]
     exact h3 G hG
    ·cases h1
 ·split at hp
  ·rename_i t x
   split at hp
   ·rename_i a ha
    rcases adu h with h | ⟨h0,h⟩
    ·rw [bcd ha hp] at h;cases h
    ·obtain⟨a',ha',h2,h3⟩:=a8f h
     rw [ha] at ha'
     cases ha'
     rcases h3 with ⟨_,h3⟩ | ⟨b,_,h4,_⟩
     ·refine⟨h2,fun G hG=>?_⟩
      unfold asn
      rw [bcd ha hp]
      exact h3 G hG
     ·rw [hp] at h4;cases h4
   ·cases hp
  ·cases hp
theorem aok{op:Op}(hp:awi E op=true)(h:ad5 P ora E H op=some (v,H')):H'=H∧∀ G:HP,G.hy=H.hy→ad5 P ora E G op=some (v,G):=by
 have hm:=bab hp
 rw [amd hm] at h
 obtain⟨h1,h2⟩:=bat hp h
 exact⟨h1,fun G hG=>by rw [amd hm];exact h2 G hG⟩
theorem a13{t:TypeId}{x:Operand}(hnp:awi E (.load t x)=false)(h:ad5 P ora E H (.load t x)=some (v,H')):∃ a b,E x=some a∧ptrB a=some b∧H'=H∧∀ G:HP,G.t.get b=H.t.get b→G.hy=H.hy→ad5 P ora E G (.load t x)=some (v,G):=by
 simp only [amd (show makes (.load t x)=false from rfl)] at h ⊢
 rcases adu h with h | ⟨h0,h⟩
 ·obtain⟨b,off,h1,h2,h3⟩:=bcc h
  refine⟨_,b,h1,rfl,h2,fun G hG _=>?_⟩
  unfold asn
  rw [h3 G hG]
 ·obtain⟨a,ha,h2,h3⟩:=a8f h
  rcases h3 with ⟨hp,_⟩ | ⟨b,h4,h5,h3⟩
  ·exfalso
   have:awi E (.load t x)=true:=by
    unfold awi
    rw [show ay7 E (.load t x)=false from rfl]
    simp only [ha,hp]
   rw [this] at hnp;cases hnp
  ·refine⟨a,b,ha,h4,h2,fun G hG hy=>?_⟩
   have h6:acj P ora E G (.load t x)=none:=by
    cases hh:acj P ora E G (.load t x) with
    | none=>rfl
    | some r =>
     obtain⟨v',G'⟩:=r
     obtain⟨b',off,g1,g2,g3⟩:=bcc hh
     rw [ha] at g1
     cases g1
     cases h4
     rw [g3 H hG.symm] at h0
     cases h0
   unfold asn
   rw [h6]
   exact h3 G hG hy
theorem a4h{t:TypeId}{x y:Operand}(h:ad5 P ora E H (.store t x y)=some (v,H')):∃ a b,E x=some a∧ptrB a=some b∧H'.n=H.n∧∀ b',b'≠b→H'.t.get b'=H.t.get b':=by
 rw [amd rfl] at h
 rcases adu h with h | ⟨h0,h⟩
 ·obtain⟨b,off,h1,h2⟩:=bkk h
  exact⟨_,b,h1,rfl,h2⟩
 ·exact be6 h
theorem bmu{t:TypeId}{x:Operand}(h:ad5 P ora E H (.load t x)=some (v,H'))(hx:∀ a,E x=some a→VRel ρ a (ev x))(hH:HRel ρ H w)(hj:J ρ H w) :
  ∃ u,VRel ρ v u∧∀ dst ty pos after guard,(execOp ev ⟨dst,.load t x,ty,pos,after,guard⟩).run P w=.ok (.value u) w:=by
 rw [amd rfl] at h
 rcases adu h with h | ⟨h0,h⟩
 ·exact bhe h hx hH
 ·exact a4i h hx hH hj
end
abbrev RM:=Option (List (AV×HP))
abbrev OraM:=Tg→List AV→HP→RM
noncomputable section
def oneL{α:Type}(x:Option (List α)):Option α :=
 match x with
 | some [y]=>some y
 | _=>none
def OraM.one(o:OraM):Ora:=fun t args H =>
 match oneL (o t args H) with
 | some (v,H')=>match Nat.beq H'.nv H.nv with
  | true=>some (v,⟨H'.t,H'.n,H'.lo,H.hy,H'.nv⟩)
  | false=>none
 | none=>none
def single{α:Type}(x:Option α):Option (List α) :=
 match x with
 | some y=>some [y]
 | none=>none
end
theorem ahe{α:Type}{x:Option α}{l:List α}(h:single x=some l):∃ y,x=some y∧l=[y]:=by
 cases x with
 | none=>cases h
 | some y=>cases h;exact⟨y,rfl,rfl⟩
theorem bh7{α:Type}{x:Option (List α)}{y:α}(h:oneL x=some y):x=some [y]:=by
 unfold oneL at h
 split at h
 ·cases h;rfl
 ·cases h
def bqw(ρ:PM)(H:HP)(w:World)(outs:List (AV×HP)):Value→World→Prop:=fun u w'=>∃ o∈outs,Post ρ H w o.1 o.2 u w'
def auv(P:Program)(ora:OraM):Prop :=
 ∀ (t:Tg) (args:List AV) (H:HP) (outs:List (AV×HP)),ora t args H=some outs→(∀ o∈outs,Sc H o.2) ∧
  ∀ (ρ:PM) (w:World) (us:Array Value) (s:Sem Next),bqx ρ us s t→All2 (VRel ρ) args us.toList→HRel ρ H w→Dom ρ H.n→J ρ H w→abz P (bqw ρ H w outs) (s.run P w)
theorem auv.one{P:Program}{ora:OraM}(h:auv P ora):aom P ora.one:=by
 intro t args H v H' hr
 unfold OraM.one at hr
 split at hr
 rotate_left
 ·cases hr
 rename_i v1 H1 hr1
 split at hr
 rotate_left
 ·cases hr
 rename_i e2
 cases hr
 obtain⟨h1,h2⟩:=h t args H _ (bh7 hr1)
 obtain⟨g1,g2,g3⟩:=h1 _ (Mg.2 rfl)
 refine⟨⟨g1,g2,rfl,Nb e2⟩,fun ρ w us s hs hu hH hd hj=>abz.mono (fun u w' ⟨o,ho,hp⟩=>?_) (h2 ρ w us s hs hu hH hd hj)⟩
 rw [Mg.1 ho] at hp
 obtain⟨ρ',h3,h4⟩:=hp
 exact⟨ρ',h3,⟨h4.le,h4.grow,h4.dom,⟨h4.rel.rel,h4.rel.inj,hH.hy⟩,h4.knc,h4.fr,h4.new,h4.size,h4.os,h4.tape,h4.output,h4.old,h4.jj,h4.ro⟩⟩
def OpSM(P:Program)(ρ:PM)(ev:Operand→Value)(H:HP)(w:World)(op:Op)(outs:List (AV×HP)):Prop :=
 ∀ (dst:Option Tmp) (ty:TypeId) (pos:String) (after:Array Edge) (guard:Option (Nat×Bool)),abz P (bqw ρ H w outs) ((execOp ev ⟨dst,op,ty,pos,after,guard⟩).run P w)
theorem OpS.many{P:Program}{ρ:PM}{ev:Operand→Value}{H H':HP}{w:World}{op:Op}{v:AV}(h:OpS P ρ ev H w op v H'):OpSM P ρ ev H w op [(v,H')]:=fun dst ty pos after guard =>
 abz.mono (fun _ _ hp=>⟨_,Mg.2 rfl,hp⟩) (h dst ty pos after guard)
section
variable {P:Program} [Plain P] {ora:OraM} {E:Operand→Option AV} {H H':HP} {w:World} {ρ:PM} {ev:Operand→Value} {v:AV} {outs:List (AV×HP)}
def bcm(ora:OraM)(E:Operand→Option AV)(H:HP)(f:Operand)(args:Array Operand):RM :=
 match E f,ap3 E args.toList with
 | some (.one (.lit (.func (.func g) a b))),some vs=>if a.size=0∧b.size=0 then ora (.f g) vs H else none
 | some (.one (.fn (.func g) caps)),some vs=>ora (.f g) (vs++ptrs caps) H
 | some (.one (.yd b)),some vs=>ora (.y b) vs H
 | _,_=>none
theorem bhx(ho:auv P ora){f:Operand}{args:Array Operand}{ats:Array TypeId}(h:bcm ora E H f args=some outs)(hx:∀ z,(z=f∨z∈args.toList)→∀ a,E z=some a→VRel ρ a (ev z))(hH:HRel ρ H w)(hd:Dom ρ H.n)(hj:J ρ H w) :
  (∀ o∈outs,Sc H o.2)∧OpSM P ρ ev H w (.call ⟨.value f,args,ats⟩) outs:=by
 unfold bcm at h
 split at h
 ·rename_i g a b vs hf hl
  split at h
  ·rename_i hab
   obtain⟨hst,hg⟩:=ho _ _ _ _ h
   obtain⟨hev,_⟩:=hx f (.inl rfl) _ hf
   have hus:=acv (ρ:=ρ) (ev:=ev) (xs:=args.toList) (fun x hx' v hv=>hx x (.inr hx') v hv) hl
   refine⟨hst,fun dst ty pos after guard=>?_⟩
   have ha:a = #[]:=Array.eq_empty_of_size_eq_zero hab.1
   have hb:b = #[]:=Array.eq_empty_of_size_eq_zero hab.2
   subst ha
   subst hb
   have hrun:(execOp ev ⟨dst,.call ⟨.value f,args,ats⟩,ty,pos,after,guard⟩).run P w=(callFunc g (args.map ev)).run P w:=by
    simp [execOp,resolve,hev,Deferred.ofValue,invoke]
   rw [hrun]
   exact hg ρ w _ _ rfl (by simpa using hus) hH hd hj
  ·cases h
 ·rename_i g caps vs hf hl
  obtain⟨hst,hg⟩:=ho _ _ _ _ h
  obtain⟨us,hev,hcaps⟩:=hx f (.inl rfl) _ hf
  have hus:=acv (ρ:=ρ) (ev:=ev) (xs:=args.toList) (fun x hx' v hv=>hx x (.inr hx') v hv) hl
  refine⟨hst,fun dst ty pos after guard=>?_⟩
  have hrun:(execOp ev ⟨dst,.call ⟨.value f,args,ats⟩,ty,pos,after,guard⟩).run P w=(callFunc g (args.map ev++us)).run P w:=by
   simp [execOp,resolve,hev,Deferred.ofValue,invoke]
  rw [hrun]
  exact hg ρ w _ _ rfl (by simpa using hus.append (ao7 hcaps)) hH hd hj
 ·rename_i b vs hf hl
  obtain⟨hst,hg⟩:=ho _ _ _ _ h
  obtain⟨L,hL,hev⟩:=hx f (.inl rfl) _ hf
  have hus:=acv (ρ:=ρ) (ev:=ev) (xs:=args.toList) (fun x hx' v hv=>hx x (.inr hx') v hv) hl
  refine⟨hst,fun dst ty pos after guard=>?_⟩
  have hrun:(execOp ev ⟨dst,.call ⟨.value f,args,ats⟩,ty,pos,after,guard⟩).run P w=(Instr.yield L.B (args.map ev)).run P w:=by
   simp [execOp,resolve,hev,Deferred.ofValue,invoke]
  rw [hrun]
  exact hg ρ w _ _ ⟨L,hL,rfl⟩ (by simpa using hus) hH hd hj
 ·cases h
noncomputable section
def a2g(a b:R):R :=
 match a with
 | some x=>some x
 | none=>b
end
def b0w:BinOp→Bool
 | .eql=>true
 | .neq=>true
 | .lss=>true
 | .leq=>true
 | .gtr=>true
 | .geq=>true
 | _=>false
def bxa:AV→Option IntKind
 | .one (.lit (.int k _))=>some k
 | .one (.un k)=>some k
 | _=>none
noncomputable section
def bxq(E:Operand→Option AV)(H:HP)(op:BinOp)(x y:Operand):RM :=
 match b0w op,(E x).bind bxa,(E y).bind bxa with
 | true,some k,some k'=>if k=k' then some [(.one (.lit (.bool false)),H),(.one (.lit (.bool true)),H)] else none
 | _,_,_=>none
end
def stepM(P:Program)[Plain P](ora:OraM)(E:Operand→Option AV)(H:HP)(op:Op):RM :=
 match op with
 | .call c=>match c.callee with
  | .value f=>bcm ora E H f c.args
  | _=>single (ad5 P ora.one E H op)
 | op=>single (ad5 P ora.one E H op)
theorem as0{a b:R}{x:AV×HP}(h:a2g a b=some x):a=some x∨b=some x:=by
 unfold a2g at h
 split at h
 ·exact .inl h
 ·exact .inr h
theorem bof(ho:auv P ora){op:Op}(h:stepM P ora E H op=some outs)(hx:∀ x∈op.operands,∀ a,E x=some a→VRel ρ a (ev x))(hH:HRel ρ H w)(hd:Dom ρ H.n)(hj:J ρ H w) :
  (∀ o∈outs,Sc H o.2)∧OpSM P ρ ev H w op outs:=by
 have two:∀ (b:R),single (a2g (ad5 P ora.one E H op) b)=some outs→(∀ v H',b=some (v,H')→St H H'∧OpS P ρ ev H w op v H')→(∀ o∈outs,Sc H o.2)∧OpSM P ρ ev H w op outs:=by
  intro b h hb
  obtain⟨⟨v,H'⟩,h1,rfl⟩:=ahe h
  have key:St H H'∧OpS P ρ ev H w op v H':=by
   rcases as0 h1 with h1 | h1
   ·exact ame ho.one h1 hx hH hd hj
   ·exact hb v H' h1
  exact⟨fun o ho=>by rw [Mg.1 ho];exact key.1.sc,key.2.many⟩
 have one:single (ad5 P ora.one E H op)=some outs→(∀ o∈outs,Sc H o.2)∧OpSM P ρ ev H w op outs:=by
  intro h
  obtain⟨⟨v,H'⟩,h1,rfl⟩:=ahe h
  obtain⟨k1,k2⟩:=ame ho.one h1 hx hH hd hj
  exact⟨fun o ho=>by rw [Mg.1 ho];exact k1.sc,k2.many⟩
 unfold stepM at h
 split at h
 ·rename_i c
  obtain⟨callee,args,ats⟩:=c
  split at h
  ·rename_i f hc
   simp only at hc
   subst hc
   exact bhx ho h (fun z hz=>hx z (by simp only [Op.operands,Call.operands,Array.mem_append];rcases hz with rfl | hz<;>simp_all)) hH hd hj
  ·exact one h
 ·exact one h
theorem ay8{E:Operand→Option AV}{op:Op}(h:stepM P ora E H op=some outs)(c:Call):op≠.defer c:=by
 rintro rfl
 obtain⟨x,h1,_⟩:=ahe (show single (ad5 P ora.one E H (.defer c))=some outs from h)
 exact absurd rfl (aii h1 c)
end
section
variable {P:Program} [Plain P] {ora:OraM} {n m:Nat} {r:Option Nat} {ρ:PM} {F F':Fm} {H H':HP} {a:Act} {w:World} {v:AV} {outs:List (AV×HP)}
theorem bna(ho:auv P ora){o:Oper}{K:Act→World→Prop}{Q:Exit→Act→World→Prop}(h:stepM P ora (evF F) H o.op=some outs)(hp:∀ x∈outs,∃ F',putF n F o.dst x.1=some F')(s:SRel n ρ F H a w)
  (hk:∀ x∈outs,∀ F',putF n F o.dst x.1=some F'→∀ ρ' a' w',SRel n ρ' F' x.2 a' w'→a'.defers=a.defers→Sim ρ H w ρ' x.2 w'→K a' w'):o.wpIn (WF r) m P a w K Q:=by
 obtain⟨hst,hop⟩:=bof (w:=w) (ev:=a.eval) (ρ:=ρ) ho h (fun x _ v hv=>am3 s.fr hv) s.hp s.dom s.j
 refine⟨fun f _=>trivial,?_⟩
 rw [Oper.semAt_eq _ _ _ (ay8 h)]
 obtain⟨dst,op,ty,pos,after,guard⟩:=o
 refine agm (hop dst ty pos after guard) fun u w' ⟨x,hx,ρ',hv,hs⟩=>?_
 obtain⟨F',hF⟩:=hp x hx
 exact hk x hx F' hF ρ' _ w' ⟨aun (s.fr.mono hs.le) hv hF,hs.rel,hs.dom,s.j.step hs⟩ (put_defers _ _ _) hs
noncomputable section
def bkf(op:Op)(P:Program)(I:Plain P)(ora:OraM)(E:Operand→Option AV)(H:HP):RM :=
 match @symP P I E H op with
 | some r=>some [r]
 | none=>stepM P ora E H op
end
theorem be7{op:Op}{E:Operand→Option AV}{r:AV×HP}(h:symP P E H op=some r):stepM P ora E H op=some [r]:=by
 have hA:ad5 P ora.one E H op=some r:=by unfold ad5;rw [h]
 have hs:single (ad5 P ora.one E H op)=some [r]:=by rw [hA];rfl
 unfold symP at h
 split at h
 ·cases h
 ·split at h<;>first | exact hs | cases h
theorem ayc{op:Op}{E:Operand→Option AV}(h:bkf op P inferInstance ora E H=some outs):stepM P ora E H op=some outs:=by
 unfold bkf at h
 split at h
 ·rename_i r hr
  cases h
  exact be7 hr
 ·exact h
theorem bdr(ho:auv P ora){E:Operand→Option AV}{op:Op}(h:stepM P ora E H op=some outs):∀ o∈outs,Sc H o.2:=by
 have two:∀ (b:R),single (a2g (ad5 P ora.one E H op) b)=some outs→(∀ v H',b=some (v,H')→H'=H)→∀ o∈outs,Sc H o.2:=by
  intro b h hb
  obtain⟨⟨v,H'⟩,h1,rfl⟩:=ahe h
  intro o hm
  rw [Mg.1 hm]
  rcases as0 h1 with h1 | h1
  ·exact(apm ho.one.st h1).sc
  ·rw [hb v H' h1];exact Sc.refl _
 have one:single (ad5 P ora.one E H op)=some outs→∀ o∈outs,Sc H o.2:=by
  intro h
  obtain⟨⟨v,H'⟩,h1,rfl⟩:=ahe h
  exact fun o hm=>by rw [Mg.1 hm];exact(apm ho.one.st h1).sc
 have cmp:∀ {o:BinOp} {x y:Operand},bxq E H o x y=some outs→∀ o∈outs,Sc H o.2:=by
  intro o x y h
  unfold bxq at h
  repeat' (split at h)
  all_goals first
   | (cases h;done)
   | skip
  cases h
  intro p hp
  rcases Mn.1 hp with rfl | hp
  ·exact Sc.refl _
  ·rw [Mg.1 hp];exact Sc.refl _
 unfold stepM at h
 split at h
 ·rename_i c
  split at h
  ·unfold bcm at h
   repeat' (split at h)
   all_goals first
    | (cases h;done)
    | exact(ho _ _ _ _ h).1
  ·exact one h
 ·exact one h
end
noncomputable section
def eqNs:List Nat→List Nat→Bool
 | [],[]=>true
 | a::r,b::s=>Nat.beq a b&&eqNs r s
 | _,_=>false
def eqB:Bool→Bool→Bool
 | true,true=>true
 | false,false=>true
 | _,_=>false
def eqPs:List (Nat×Nat)→List (Nat×Nat)→Bool
 | [],[]=>true
 | (a,b)::r,(c,d)::s=>Nat.beq a c&&(Nat.beq b d&&eqPs r s)
 | _,_=>false
def bgh:Cel→Cel→Bool
 | .lit a,.lit b=>eqV a b
 | .ptr a b,.ptr c d=>Nat.beq a c&&Nat.beq b d
 | .sl a b c d,.sl a' b' c' d'=>Nat.beq a a'&&(Nat.beq b b'&&(Nat.beq c c'&&Nat.beq d d'))
 | .su a b c d,.su a' b' c' d'=>Nat.beq a a'&&(Nat.beq b b'&&(Nat.beq c c'&&Nat.beq d d'))
 | .sz a b,.sz c d=>Nat.beq a c&&Nat.beq b d
 | .fn (.func f) xs,.fn (.func g) ys=>Nat.beq f g&&eqPs xs ys
 | .mp a,.mp b=>Nat.beq a b
 | .us,.us=>true
 | .un k,.un k'=>decide (k=k')
 | .sv s G e,.sv s' G' e'=>eqX e e'&&(a5x s s'&&eqNs G G')
 | .pv w G e i o,.pv w' G' e' i' o'=>eqX e e'&&(eqX i i'&&(Nat.beq o o'&&(afd w w'&&eqNs G G')))
 | .os z b n s G e,.os z' b' n' s' G' e'=>Nat.beq b b'&&(Nat.beq s s'&&(eqX n n'&&(eqB z z'&&(eqNs G G'&&eqX e e'))))
 | .po b s i o,.po b' s' i' o'=>Nat.beq b b'&&(Nat.beq s s'&&(eqX i i'&&Nat.beq o o'))
 | _,_=>false
def bbp:List Cel→List Cel→Bool
 | [],[]=>true
 | x::xs,y::ys=>bgh x y&&bbp xs ys
 | _,_=>false
def bbr(p q:Bool×List Cel):Bool:=decide (p.1=q.1)&&bbp p.2 q.2
def bbq:List Ent→List Ent→Bool
 | [],[]=>true
 | x::xs,y::ys=>bbr x.1 y.1&&(bbr x.2.1 y.2.1&&(Nat.beq x.2.2 y.2.2&&bbq xs ys))
 | _,_=>false
def eqCt:Ct→Ct→Bool
 | .c a,.c b=>bgh a b
 | .map es c,.map es' c'=>bbq es es'&&Nat.beq c c'
 | .rows w G e n,.rows w' G' e' n'=>eqX e e'&&(eqX n n'&&(afd w w'&&eqNs G G'))
 | _,_=>false
def eqLB:List (Option Ct)→List (Option Ct)→Bool
 | [],[]=>true
 | none::r,none::s=>eqLB r s
 | some a::r,some b::s=>eqCt a b&&eqLB r s
 | _,_=>false
def eqBk:Bk→Bk→Bool
 | .lf a,.lf b=>eqLB a b
 | .fl n a,.fl m b=>Nat.beq n m&&bgh a b
 | .nd n l r,.nd m l' r'=>Nat.beq n m&&(eqBk l l'&&eqBk r r')
 | _,_=>false
end
theorem akg:∀ {xs ys:List Nat},eqNs xs ys=true→xs=ys
 | [],[],_=>rfl
 | a::r,b::s,h=>by
  simp only [eqNs,Ba] at h
  rw [Nb h.1,akg h.2]
 | [],_::_,h=>by cases h
 | _::_,[],h=>by cases h
theorem aue:∀ {a b:Bool},eqB a b=true→a=b
 | true,true,_=>rfl
 | false,false,_=>rfl
 | true,false,h=>by cases h
 | false,true,h=>by cases h
theorem a5w:∀ {xs ys:List (Nat×Nat)},eqPs xs ys=true→xs=ys
 | [],[],_=>rfl
 | (a,b)::r,(c,d)::s,h=>by
  simp only [eqPs,Ba] at h
  rw [Nb h.1,Nb h.2.1,a5w h.2.2]
 | [],_::_,h=>by cases h
 | _::_,[],h=>by cases h
theorem ap0{a b:Cel}(h:bgh a b=true):a=b:=by
 unfold bgh at h
 split at h
 ·rw [a1o h]
 all_goals first
  | (cases h;done)
  | (simp only [Ba] at h;obtain⟨h1,h2,h3,h4⟩:=h;rw [Nb h1,Nb h2,Nb h3,Nb h4];done)
  | (simp only [Ba] at h;rw [Nb h.1,Nb h.2];done)
  | (simp only [Ba] at h;rw [Nb h.1,a5w h.2];done)
  | (rw [Nb h];done)
  | rfl
  | (rw [of_decide_eq_true h];done)
  | (simp only [Ba] at h;obtain⟨h1,h2,h3⟩:=h;rw [aap h1,air h2,akg h3];done)
  | (simp only [Ba] at h;obtain⟨h1,h2,h3,h4,h5⟩:=h;rw [aap h1,aap h2,Nb h3,abj h4,akg h5];done)
  | (simp only [Ba] at h;obtain⟨h1,h2,h3,h4,h5,h6⟩:=h;rw [Nb h1,Nb h2,aap h3,aue h4,akg h5,aap h6];done)
  | (simp only [Ba] at h;obtain⟨h1,h2,h3,h4⟩:=h;rw [Nb h1,Nb h2,aap h3,Nb h4];done)
theorem avl:∀ {xs ys:List Cel},bbp xs ys=true→xs=ys
 | [],[],_=>rfl
 | x::xs,y::ys,h=>by
  simp only [bbp,Ba] at h
  rw [ap0 h.1,avl h.2]
 | [],_::_,h=>by cases h
 | _::_,[],h=>by cases h
theorem avo{p q:Bool×List Cel}(h:bbr p q=true):p=q:=by
 simp only [bbr,Ba,Dt] at h
 exact Prod.ext h.1 (avl h.2)
theorem avm:∀ {xs ys:List Ent},bbq xs ys=true→xs=ys
 | [],[],_=>rfl
 | x::xs,y::ys,h=>by
  simp only [bbq,Ba] at h
  obtain⟨h1,h2,h3,h4⟩:=h
  have:x=y:=Prod.ext (avo h1) (Prod.ext (avo h2) (Nb h3))
  rw [this,avm h4]
 | [],_::_,h=>by cases h
 | _::_,[],h=>by cases h
theorem bgi{a b:Ct}(h:eqCt a b=true):a=b:=by
 unfold eqCt at h
 split at h
 ·rw [ap0 h]
 ·simp only [Ba] at h;rw [avm h.1,Nb h.2]
 ·simp only [Ba] at h;obtain⟨h1,h2,h3,h4⟩:=h;rw [aap h1,aap h2,abj h3,akg h4]
 ·cases h
theorem avn:∀ {xs ys:List (Option Ct)},eqLB xs ys=true→xs=ys
 | [],[],_=>rfl
 | none::r,none::s,h=>by rw [avn (show eqLB r s=true from h)]
 | some a::r,some b::s,h=>by
  simp only [eqLB,Ba] at h
  rw [bgi h.1,avn h.2]
 | none::_,some _::_,h=>by cases h
 | some _::_,none::_,h=>by cases h
 | [],_::_,h=>by cases h
 | none::_,[],h=>by cases h
 | some _::_,[],h=>by cases h
theorem aou:∀ {xs ys:Bk},eqBk xs ys=true→xs=ys
 | .lf a,.lf b,h=>by rw [avn (show eqLB a b=true from h)]
 | .fl n a,.fl m b,h=>by
  simp only [eqBk,Ba] at h
  rw [Nb h.1,ap0 h.2]
 | .nd n l r,.nd m l' r',h=>by
  simp only [eqBk,Ba] at h
  rw [Nb h.1,aou h.2.1,aou h.2.2]
 | .lf _,.fl _ _,h=>by cases h
 | .lf _,.nd _ _ _,h=>by cases h
 | .fl _ _,.lf _,h=>by cases h
 | .fl _ _,.nd _ _ _,h=>by cases h
 | .nd _ _ _,.lf _,h=>by cases h
 | .nd _ _ _,.fl _ _,h=>by cases h
noncomputable section
def eqOB(a b:Option Bk):Bool :=
 match a,b with
 | none,none=>true
 | some x,some y=>eqBk x y
 | _,_=>false
def aph(H G:HP)(b:Nat):Bool:=Nat.ble (Nat.succ b) G.lo||eqOB (H.t.get b) (G.t.get b)
end
theorem a5v{a b:Option Bk}(h:eqOB a b=true):a=b:=by
 cases a<;>cases b<;>first | rfl | (cases h;done) | exact congrArg some (aou h)
theorem bez{H G:HP}{b:Nat}(h:aph H G b=true)(h1:G.lo≤b):H.t.get b=G.t.get b:=by
 unfold aph at h
 rw [Bool.or_eq_true] at h
 rcases h with h | h
 ·have:=Nl h
  omega
 ·exact a5v h
end Go.Sx
