/-
  A second abstract evaluator of the model's code: steps that come to one of several outcomes; regions in the text's order. Conditions: none; nothing here speaks of one program.
-/
import Derived.Test.YtlbbkmcegbeckaaSvU
import Derived.Test.YtlbbkmcegbeckaaSvM
set_option linter.unusedSimpArgs false
set_option linter.unusedSectionVars false
set_option linter.unusedVariables false
namespace Go.Sx
variable [Sg]
def ca7(ora:Ora):Prop:=∀ (f:Tg) (args:List AV) (H:HP) (v:AV) (H':HP),ora f args H=some (v,H')→St H H'
theorem cb5.st{P:Program}{ora:Ora}(h:cb5 P ora):ca7 ora:=fun f args H v H' hr=>(h f args H v H' hr).1
section
variable {P:Program} [Plain P] {ora:Ora} {E:Operand→Option AV} {H H':HP} {w:World} {ρ:PM} {ev:Operand→Value} {v:AV}
noncomputable def ch0(E:Operand→Option AV)(op:Op):Bool :=
 match isPure op with
 | true=>true
 | false=>match op with
  | .convert _ _ x=>match E x with
   | some (.one (.lit (.int _ _)))=>true
   | _=>false
  | _=>false
theorem ciy{op:Op}(hp:ch0 E op=true)(h:b4h P ora E H op=some (v,H')):H'=H∧∀ G:HP,b4h P ora E G op=some (v,G):=by
 unfold ch0 at hp
 split at hp
 ·rename_i h1
  exact clr h1 h
 ·split at hp
  ·rename_i t u x
   split at hp
   ·rename_i k n hx
    simp only [b4h,b9c,hx] at h ⊢
    split at h
    ·cases h;rename_i h1;exact⟨rfl,fun G=>by first | rfl | simp [*]⟩
    ·rename_i h1;cases h1
    ·rename_i h1
     cases h1
     split at h
     ·simp [toStr,cjf] at h
     ·cases h
    ·rename_i h1;cases h1
    ·rename_i h1
     cases h1
     simp [cjf] at h
    ·cases h
   ·cases hp
  ·cases hp
theorem c5j(ho:ca7 ora){op:Op}(h:b4h P ora E H op=some (v,H')):St H H':=by
  by_cases hp:isPure op=true
  · rw [(clr hp h).1];exact St.refl H
  · cases op with
    | alloc t =>
        simp only [b4h,chs] at h
        repeat' (split at h)
        all_goals first
         | (cases h;done)
         | (cases h;exact St.refl _)
         | (cases h;exact St.push _ _)
         | (cases h;exact(St.drop _ _).trans (St.push _ _))
         | (cases h;exact St.obj _ _ _)
         | (cases h;exact St.write (by assumption))
         | (obtain⟨a,ha,hv⟩:=map_some h;cases hv;first | exact St.refl _ | exact St.push _ _ | exact St.write ha)
    | box t x =>
        simp only [b4h,oBox] at h
        repeat' (split at h)
        all_goals first
         | (cases h;done)
         | (cases h;exact St.refl _)
         | (cases h;exact St.push _ _)
         | (cases h;exact(St.drop _ _).trans (St.push _ _))
         | (cases h;exact St.obj _ _ _)
         | (cases h;exact St.write (by assumption))
         | (obtain⟨a,ha,hv⟩:=map_some h;cases hv;first | exact St.refl _ | exact St.push _ _ | exact St.write ha)
    | buildSlice t m ps =>
        simp only [b4h,b77] at h
        repeat' (split at h)
        all_goals first
         | (cases h;done)
         | (cases h;exact St.refl _)
         | (cases h;exact St.push _ _)
         | (cases h;exact(St.drop _ _).trans (St.push _ _))
         | (cases h;exact St.obj _ _ _)
         | (cases h;exact St.write (by assumption))
         | (obtain⟨a,ha,hv⟩:=map_some h;cases hv;first | exact St.refl _ | exact St.push _ _ | exact St.write ha)
    | load t x =>
        simp only [b4h,cm9] at h
        repeat' (split at h)
        all_goals first
         | (cases h;done)
         | (cases h;exact St.refl _)
         | (cases h;exact St.push _ _)
         | (cases h;exact(St.drop _ _).trans (St.push _ _))
         | (cases h;exact St.obj _ _ _)
         | (cases h;exact St.write (by assumption))
         | (obtain⟨a,ha,hv⟩:=map_some h;cases hv;first | exact St.refl _ | exact St.push _ _ | exact St.write ha)
    | store t x y =>
        simp only [b4h,chu] at h
        repeat' (split at h)
        all_goals first
         | (cases h;done)
         | (cases h;exact St.refl _)
         | (cases h;exact St.push _ _)
         | (cases h;exact(St.drop _ _).trans (St.push _ _))
         | (cases h;exact St.obj _ _ _)
         | (cases h;exact St.write (by assumption))
         | (obtain⟨a,ha,hv⟩:=map_some h;cases hv;first | exact St.refl _ | exact St.push _ _ | exact St.write ha)
    | makeSlice t x y =>
        simp only [b4h,b7v] at h
        repeat' (split at h)
        all_goals first
         | (cases h;done)
         | (cases h;exact St.refl _)
         | (cases h;exact St.push _ _)
         | (cases h;exact(St.drop _ _).trans (St.push _ _))
         | (cases h;exact St.obj _ _ _)
         | (cases h;exact St.write (by assumption))
         | (obtain⟨a,ha,hv⟩:=map_some h;cases hv;first | exact St.refl _ | exact St.push _ _ | exact St.write ha)
    | convert t u x =>
        simp only [b4h,b9c] at h
        repeat' (split at h)
        all_goals first
         | (cases h;done)
         | (cases h;exact St.refl _)
         | (cases h;exact St.push _ _)
         | (cases h;exact(St.drop _ _).trans (St.push _ _))
         | (cases h;exact St.obj _ _ _)
         | (cases h;exact St.write (by assumption))
         | (obtain⟨a,ha,hv⟩:=map_some h;cases hv;first | exact St.refl _ | exact St.push _ _ | exact St.write ha)
    | makeMap t r =>
        simp only [b4h,ccr] at h
        repeat' (split at h)
        all_goals first
         | (cases h;done)
         | (cases h;exact St.refl _)
         | (cases h;exact St.push _ _)
         | (cases h;exact(St.drop _ _).trans (St.push _ _))
         | (cases h;exact St.obj _ _ _)
         | (cases h;exact St.write (by assumption))
         | (obtain⟨a,ha,hv⟩:=map_some h;cases hv;first | exact St.refl _ | exact St.push _ _ | exact St.write ha)
    | lookup t x i ok =>
        simp only [b4h,cdq] at h
        repeat' (split at h)
        all_goals first
         | (cases h;done)
         | (cases h;exact St.refl _)
         | (cases h;exact St.push _ _)
         | (cases h;exact(St.drop _ _).trans (St.push _ _))
         | (cases h;exact St.obj _ _ _)
         | (cases h;exact St.write (by assumption))
         | (obtain⟨a,ha,hv⟩:=map_some h;cases hv;first | exact St.refl _ | exact St.push _ _ | exact St.write ha)
    | mapUpdate t m k x =>
        simp only [b4h,b78] at h
        repeat' (split at h)
        all_goals first
         | (cases h;done)
         | (cases h;exact St.refl _)
         | (cases h;exact St.push _ _)
         | (cases h;exact(St.drop _ _).trans (St.push _ _))
         | (cases h;exact St.obj _ _ _)
         | (cases h;exact St.write (by assumption))
         | (obtain⟨a,ha,hv⟩:=map_some h;cases hv;first | exact St.refl _ | exact St.push _ _ | exact St.write ha)
    | insert t m k x =>
        simp only [b4h,b78] at h
        repeat' (split at h)
        all_goals first
         | (cases h;done)
         | (cases h;exact St.refl _)
         | (cases h;exact St.push _ _)
         | (cases h;exact(St.drop _ _).trans (St.push _ _))
         | (cases h;exact St.obj _ _ _)
         | (cases h;exact St.write (by assumption))
         | (obtain⟨a,ha,hv⟩:=map_some h;cases hv;first | exact St.refl _ | exact St.push _ _ | exact St.write ha)
    | range t x =>
        simp only [b4h,ckl] at h
        repeat' (split at h)
        all_goals first
         | (cases h;done)
         | (cases h;exact St.refl _)
         | (cases h;exact St.push _ _)
         | (cases h;exact(St.drop _ _).trans (St.push _ _))
         | (cases h;exact St.obj _ _ _)
         | (cases h;exact St.write (by assumption))
         | (obtain⟨a,ha,hv⟩:=map_some h;cases hv;first | exact St.refl _ | exact St.push _ _ | exact St.write ha)
    | entry x =>
        simp only [b4h,ckh] at h
        repeat' (split at h)
        all_goals first
         | (cases h;done)
         | (cases h;exact St.refl _)
         | (cases h;exact St.push _ _)
         | (cases h;exact(St.drop _ _).trans (St.push _ _))
         | (cases h;exact St.obj _ _ _)
         | (cases h;exact St.write (by assumption))
         | (obtain⟨a,ha,hv⟩:=map_some h;cases hv;first | exact St.refl _ | exact St.push _ _ | exact St.write ha)
    | mapEntry t m k =>
        simp only [b4h,b83] at h
        repeat' (split at h)
        all_goals first
         | (cases h;done)
         | (cases h;exact St.refl _)
         | (cases h;exact St.push _ _)
         | (cases h;exact(St.drop _ _).trans (St.push _ _))
         | (cases h;exact St.obj _ _ _)
         | (cases h;exact St.write (by assumption))
         | (obtain⟨a,ha,hv⟩:=map_some h;cases hv;first | exact St.refl _ | exact St.push _ _ | exact St.write ha)
    | entryStore t m s x =>
        simp only [b4h,b6u] at h
        repeat' (split at h)
        all_goals first
         | (cases h;done)
         | (cases h;exact St.refl _)
         | (cases h;exact St.push _ _)
         | (cases h;exact(St.drop _ _).trans (St.push _ _))
         | (cases h;exact St.obj _ _ _)
         | (cases h;exact St.write (by assumption))
         | (obtain⟨a,ha,hv⟩:=map_some h;cases hv;first | exact St.refl _ | exact St.push _ _ | exact St.write ha)
    | call c =>
      obtain⟨callee,args,ats⟩:=c
      cases callee with
      | value f =>
        simp only [b4h,cdg,c39] at h
        repeat' (split at h)
        all_goals first
          | (cases h;done)
          | exact ho _ _ _ _ _ h
      | invoke r m=>cases h
      | builtin b =>
        cases b with
        | len =>
          simp only [b4h,cdg] at h
          split at h
          · rename_i r hr
            cases h
            simp only [oLen] at hr
            repeat' (split at hr)
            all_goals first
              | (cases hr;done)
              | (obtain⟨a,ha,hv⟩:=map_some hr;cases hv;exact St.refl _)
          · simp only [cm8] at h
            repeat' (split at h)
            all_goals first
             | (cases h;done)
             | (cases h;exact St.refl _)
             | (cases h;exact St.push _ _)
             | (cases h;exact(St.drop _ _).trans (St.push _ _))
             | (cases h;exact St.obj _ _ _)
             | (cases h;exact St.write (by assumption))
             | (obtain⟨a,ha,hv⟩:=map_some h;cases hv;first | exact St.refl _ | exact St.push _ _ | exact St.write ha)
        | delete =>
            simp only [b4h,cdg,cm4] at h
            repeat' (split at h)
            all_goals first
             | (cases h;done)
             | (cases h;exact St.refl _)
             | (cases h;exact St.push _ _)
             | (cases h;exact(St.drop _ _).trans (St.push _ _))
             | (cases h;exact St.obj _ _ _)
             | (cases h;exact St.write (by assumption))
             | (obtain⟨a,ha,hv⟩:=map_some h;cases hv;first | exact St.refl _ | exact St.push _ _ | exact St.write ha)
        | clear =>
            simp only [b4h,cdg,cug] at h
            repeat' (split at h)
            all_goals first
             | (cases h;done)
             | (cases h;exact St.refl _)
             | (cases h;exact St.push _ _)
             | (cases h;exact(St.drop _ _).trans (St.push _ _))
             | (cases h;exact St.obj _ _ _)
             | (cases h;exact St.write (by assumption))
             | (obtain⟨a,ha,hv⟩:=map_some h;cases hv;first | exact St.refl _ | exact St.push _ _ | exact St.write ha)
        | cap =>
            simp only [b4h,cdg,oCap] at h
            repeat' (split at h)
            all_goals first
             | (cases h;done)
             | (cases h;exact St.refl _)
             | (cases h;exact St.push _ _)
             | (cases h;exact(St.drop _ _).trans (St.push _ _))
             | (cases h;exact St.obj _ _ _)
             | (cases h;exact St.write (by assumption))
             | (obtain⟨a,ha,hv⟩:=map_some h;cases hv;first | exact St.refl _ | exact St.push _ _ | exact St.write ha)
        | append =>
            simp only [b4h,cdg,cht,cdc] at h
            repeat' (split at h)
            all_goals first
             | (cases h;done)
             | (cases h;exact St.refl _)
             | (cases h;exact St.push _ _)
             | (cases h;exact(St.drop _ _).trans (St.push _ _))
             | (cases h;exact St.obj _ _ _)
             | (cases h;exact St.write (by assumption))
             | (obtain⟨a,ha,hv⟩:=map_some h;cases hv;first | exact St.refl _ | exact St.push _ _ | exact St.write ha)
        | copy =>
            simp only [b4h,cdg,c4d,cx7] at h
            repeat' (split at h)
            all_goals first
             | (cases h;done)
             | (cases h;exact St.refl _)
             | (cases h;exact St.push _ _)
             | (cases h;exact(St.drop _ _).trans (St.push _ _))
             | (cases h;exact St.obj _ _ _)
             | (cases h;exact St.write (by assumption))
             | (obtain⟨a,ha,hv⟩:=map_some h;cases hv;first | exact St.refl _ | exact St.push _ _ | exact St.write ha)
        | max =>
            simp only [b4h,cdg,oMax] at h
            repeat' (split at h)
            all_goals first
             | (cases h;done)
             | (cases h;exact St.refl _)
             | (cases h;exact St.push _ _)
             | (cases h;exact(St.drop _ _).trans (St.push _ _))
             | (cases h;exact St.obj _ _ _)
             | (cases h;exact St.write (by assumption))
             | (obtain⟨a,ha,hv⟩:=map_some h;cases hv;first | exact St.refl _ | exact St.push _ _ | exact St.write ha)
        | min =>
            simp only [b4h,cdg,oMax] at h
            repeat' (split at h)
            all_goals first
             | (cases h;done)
             | (cases h;exact St.refl _)
             | (cases h;exact St.push _ _)
             | (cases h;exact(St.drop _ _).trans (St.push _ _))
             | (cases h;exact St.obj _ _ _)
             | (cases h;exact St.write (by assumption))
             | (obtain⟨a,ha,hv⟩:=map_some h;cases hv;first | exact St.refl _ | exact St.push _ _ | exact St.write ha)
        | _=>cases h
    | _=>first | cases h | exact absurd rfl hp
theorem ct7{t:TypeId}{x:Operand}(h:b4h P ora E H (.load t x)=some (v,H')):∃ b off,E x=some (.one (.ptr b off))∧H'=H∧∀ G:HP,G.t.get b=H.t.get b→b4h P ora E G (.load t x)=some (v,G):=by
 simp only [b4h,cm9] at h ⊢
 split at h
 ·rename_i b off ag m hx hs
  obtain⟨a,ha,hv⟩:=map_some h
  cases hv
  refine⟨b,off,hx,rfl,fun G hG=>?_⟩
  have:G.read b off (wid ag m)=H.read b off (wid ag m):=by unfold HP.read;rw [hG]
  rw [this,ha]
  rfl
 ·cases h
theorem c1k{t:TypeId}{x y:Operand}(h:b4h P ora E H (.store t x y)=some (v,H')):∃ b off,E x=some (.one (.ptr b off))∧H'.n=H.n∧∀ b',b'≠b→H'.t.get b'=H.t.get b':=by
 simp only [b4h,chu] at h
 split at h
 ·rename_i b off cs ag m hx hy hs
  split at h
  ·obtain⟨G,hG,hv⟩:=map_some h
   cases hv
   refine⟨b,off,hx,(HP.write_spec hG).1,fun b' hb=>?_⟩
   unfold HP.write at hG
   split at hG
   ·split at hG
    ·cases hG
     simp only [PT.get_put]
     rw [if_neg hb]
    ·cases hG
   ·cases hG
  ·cases h
 ·cases h
theorem cy6{t:TypeId}{x:Operand}(h:b4h P ora E H (.load t x)=some (v,H'))(hx:∀ a,E x=some a→VRel ρ a (ev x))(hH:HRel ρ H w) :
  ∃ u,VRel ρ v u∧∀ dst ty pos after guard,(execOp ev ⟨dst,.load t x,ty,pos,after,guard⟩).run P w=.ok (.value u) w:=by
 simp only [b4h,cm9] at h
 split at h
 ·rename_i b off ag n hx' hs
  obtain⟨a,ha,hv⟩:=map_some h
  cases hv
  obtain⟨cs,hcs,hm⟩:=b3h ha
  obtain⟨L,hL,hev⟩:=hx _ hx'
  obtain⟨us,hl,hrel,hcell⟩:=HP.read_world hcs hH hL
  refine⟨_,cdo hm hrel,fun dst ty pos after guard=>b4u ?_⟩
  simp only [Instr.loadAt,hev,Instr.sureAddr,Sem.run_bind,Sem.run_pure,Result.andThen_ok]
  exact b6b hs hl hcell
 ·cases h
theorem cc3(ho:ca7 ora){op:Op}(h:b5e P ora E H op=some (v,H')):St H H':=by
 rcases ciw h with h | h
 ·exact c98 h
 ·rcases b5u h with h | ⟨_,h⟩
  ·exact c5j ho h
  ·exact c95 h
theorem csf{op:Op}(h:ch0 E op=true):makes op=false:=by
 unfold ch0 at h
 cases op<;>first | rfl | (exfalso;simp [isPure] at h;done)
noncomputable def cdu(E:Operand→Option AV)(op:Op):Bool :=
 match ch0 E op with
 | true=>true
 | false=>match op with
  | .load _ x=>match E x with
   | some a=>isPv a
   | none=>false
  | _=>false
theorem clq{op:Op}(hp:ch0 E op=true)(h:b4h P ora E H op=none)(G:HP):b4h P ora E G op=none:=by
 cases hh:b4h P ora E G op with
 | none=>rfl
 | some r =>
  obtain⟨v',G'⟩:=r
  have:=(ciy hp hh).2 H
  rw [h] at this
  cases this
theorem ct8{t:TypeId}{x:Operand}{a:AV}(hx:E x=some a)(hp:isPv a=true):b4h P ora E H (.load t x)=none:=by
 unfold isPv at hp
 split at hp
 ·simp only [b4h,cm9,hx]
 ·cases hp
theorem csd{op:Op}(h:cdu E op=true):makes op=false:=by
 unfold cdu at h
 split at h
 ·rename_i h1;exact csf h1
 ·split at h
  ·rfl
  ·cases h
theorem csv{op:Op}(hp:cdu E op=true)(h:cb2 P ora E H op=some (v,H')):H'=H∧∀ G:HP,G.hy=H.hy→cb2 P ora E G op=some (v,G):=by
 unfold cdu at hp
 split at hp
 ·rename_i h1
  rcases b5u h with h | ⟨h0,h⟩
  ·obtain⟨h2,h3⟩:=ciy h1 h
   refine⟨h2,fun G _=>?_⟩
   unfold cb2
   rw [h3 G]
  ·unfold ch0 at h1
   have hpo:ch0 E op=true:=by unfold ch0;exact h1
   split at h1
   ·rename_i h4
    obtain⟨h2,h3⟩:=c1o h4 h
    refine⟨h2,fun G hG=>?_⟩
    unfold cb2
    rw [clq hpo h0 G]
    exact h3 G hG
   ·split at h1
    ·rename_i t u x
     obtain⟨h2,h3⟩:=c1n h (by split at h1<;>simp_all)
     refine⟨h2,fun G hG=>?_⟩
     unfold cb2
     rw [clq hpo h0 G]
     exact h3 G hG
    ·cases h1
 ·split at hp
  ·rename_i t x
   split at hp
   ·rename_i a ha
    rcases b5u h with h | ⟨h0,h⟩
    ·rw [ct8 ha hp] at h;cases h
    ·obtain⟨a',ha',h2,h3⟩:=cq5 h
     rw [ha] at ha'
     cases ha'
     rcases h3 with ⟨_,h3⟩ | ⟨b,_,h4,_⟩
     ·refine⟨h2,fun G hG=>?_⟩
      unfold cb2
      rw [ct8 ha hp]
      exact h3 G hG
     ·rw [hp] at h4;cases h4
   ·cases hp
  ·cases hp
theorem cb1{op:Op}(hp:cdu E op=true)(h:b5e P ora E H op=some (v,H')):H'=H∧∀ G:HP,G.hy=H.hy→b5e P ora E G op=some (v,G):=by
 have hm:=csd hp
 rw [ca3 hm] at h
 obtain⟨h1,h2⟩:=csv hp h
 exact⟨h1,fun G hG=>by rw [ca3 hm];exact h2 G hG⟩
theorem cmy{t:TypeId}{x:Operand}(hnp:cdu E (.load t x)=false)(h:b5e P ora E H (.load t x)=some (v,H')):∃ a b,E x=some a∧ptrB a=some b∧H'=H∧∀ G:HP,G.t.get b=H.t.get b→G.hy=H.hy→b5e P ora E G (.load t x)=some (v,G):=by
 simp only [ca3 (show makes (.load t x)=false from rfl)] at h ⊢
 rcases b5u h with h | ⟨h0,h⟩
 ·obtain⟨b,off,h1,h2,h3⟩:=ct7 h
  refine⟨_,b,h1,rfl,h2,fun G hG _=>?_⟩
  unfold cb2
  rw [h3 G hG]
 ·obtain⟨a,ha,h2,h3⟩:=cq5 h
  rcases h3 with ⟨hp,_⟩ | ⟨b,h4,h5,h3⟩
  ·exfalso
   have:cdu E (.load t x)=true:=by
    unfold cdu
    rw [show ch0 E (.load t x)=false from rfl]
    simp only [ha,hp]
   rw [this] at hnp;cases hnp
  ·refine⟨a,b,ha,h4,h2,fun G hG hy=>?_⟩
   have h6:b4h P ora E G (.load t x)=none:=by
    cases hh:b4h P ora E G (.load t x) with
    | none=>rfl
    | some r =>
     obtain⟨v',G'⟩:=r
     obtain⟨b',off,g1,g2,g3⟩:=ct7 hh
     rw [ha] at g1
     cases g1
     cases h4
     rw [g3 H hG.symm] at h0
     cases h0
   unfold cb2
   rw [h6]
   exact h3 G hG hy
theorem cn6{t:TypeId}{x y:Operand}(h:b5e P ora E H (.store t x y)=some (v,H')):∃ a b,E x=some a∧ptrB a=some b∧H'.n=H.n∧∀ b',b'≠b→H'.t.get b'=H.t.get b':=by
 rw [ca3 rfl] at h
 rcases b5u h with h | ⟨h0,h⟩
 ·obtain⟨b,off,h1,h2⟩:=c1k h
  exact⟨_,b,h1,rfl,h2⟩
 ·exact cw6 h
theorem c3y{t:TypeId}{x:Operand}(h:b5e P ora E H (.load t x)=some (v,H'))(hx:∀ a,E x=some a→VRel ρ a (ev x))(hH:HRel ρ H w)(hj:J ρ H w) :
  ∃ u,VRel ρ v u∧∀ dst ty pos after guard,(execOp ev ⟨dst,.load t x,ty,pos,after,guard⟩).run P w=.ok (.value u) w:=by
 rw [ca3 rfl] at h
 rcases b5u h with h | ⟨h0,h⟩
 ·exact cy6 h hx hH
 ·exact cn7 h hx hH hj
end
end Go.Sx

namespace Go.Sx
variable [Sg]
abbrev RM:=Option (List (AV×HP))
abbrev OraM:=Tg→List AV→HP→RM
noncomputable section
def oneL{α:Type}(x:Option (List α)):Option α :=
 match x with
 | some [y]=>some y
 | _=>none
def OraM.one(o:OraM):Ora:=fun t args H =>
 match oneL (o t args H) with
 | some (v,H')=>match Nat.beq H'.nv H.nv with
  | true=>some (v,⟨H'.t,H'.n,H'.lo,H.hy,H'.nv⟩)
  | false=>none
 | none=>none
def single{α:Type}(x:Option α):Option (List α) :=
 match x with
 | some y=>some [y]
 | none=>none
end
theorem b6w{α:Type}{x:Option α}{l:List α}(h:single x=some l):∃ y,x=some y∧l=[y]:=by
 cases x with
 | none=>cases h
 | some y=>cases h;exact⟨y,rfl,rfl⟩
theorem cz3{α:Type}{x:Option (List α)}{y:α}(h:oneL x=some y):x=some [y]:=by
 unfold oneL at h
 split at h
 ·cases h;rfl
 ·cases h
def cv1(ρ:PM)(H:HP)(w:World)(outs:List (AV×HP)):Value→World→Prop:=fun u w'=>∃ o∈outs,Post ρ H w o.1 o.2 u w'
def cga(P:Program)(ora:OraM):Prop :=
 ∀ (t:Tg) (args:List AV) (H:HP) (outs:List (AV×HP)),ora t args H=some outs→(∀ o∈outs,Sc H o.2) ∧
  ∀ (ρ:PM) (w:World) (us:Array Value) (s:Sem Next),c67 ρ us s t→All2 (VRel ρ) args us.toList→HRel ρ H w→Dom ρ H.n→J ρ H w→b4n P (cv1 ρ H w outs) (s.run P w)
theorem cga.one{P:Program}{ora:OraM}(h:cga P ora):cb5 P ora.one:=by
 intro t args H v H' hr
 unfold OraM.one at hr
 split at hr
 rotate_left
 ·cases hr
 rename_i v1 H1 hr1
 split at hr
 rotate_left
 ·cases hr
 rename_i e2
 cases hr
 obtain⟨h1,h2⟩:=h t args H _ (cz3 hr1)
 obtain⟨g1,g2,g3⟩:=h1 _ (List.mem_singleton.2 rfl)
 refine⟨⟨g1,g2,rfl,Nat.eq_of_beq_eq_true e2⟩,fun ρ w us s hs hu hH hd hj=>b4n.mono (fun u w' ⟨o,ho,hp⟩=>?_) (h2 ρ w us s hs hu hH hd hj)⟩
 rw [List.mem_singleton.1 ho] at hp
 obtain⟨ρ',h3,h4⟩:=hp
 exact⟨ρ',h3,⟨h4.le,h4.grow,h4.dom,⟨h4.rel.rel,h4.rel.inj,hH.hy⟩,h4.knc,h4.fr,h4.new,h4.size,h4.os,h4.tape,h4.output,h4.old,h4.jj,h4.ro⟩⟩
def OpSM(P:Program)(ρ:PM)(ev:Operand→Value)(H:HP)(w:World)(op:Op)(outs:List (AV×HP)):Prop :=
 ∀ (dst:Option Tmp) (ty:TypeId) (pos:String) (after:Array Edge) (guard:Option (Nat×Bool)),b4n P (cv1 ρ H w outs) ((execOp ev ⟨dst,op,ty,pos,after,guard⟩).run P w)
theorem OpS.many{P:Program}{ρ:PM}{ev:Operand→Value}{H H':HP}{w:World}{op:Op}{v:AV}(h:OpS P ρ ev H w op v H'):OpSM P ρ ev H w op [(v,H')]:=fun dst ty pos after guard =>
 b4n.mono (fun _ _ hp=>⟨_,List.mem_singleton.2 rfl,hp⟩) (h dst ty pos after guard)
section
variable {P:Program} [Plain P] {ora:OraM} {E:Operand→Option AV} {H H':HP} {w:World} {ρ:PM} {ev:Operand→Value} {v:AV} {outs:List (AV×HP)}
noncomputable def cpz(ora:OraM)(E:Operand→Option AV)(H:HP)(f:Operand)(args:Array Operand):RM :=
 match E f,b7p E args.toList with
 | some (.one (.lit (.func (.func g) a b))),some vs=>if a.size=0∧b.size=0 then ora (.f g) vs H else none
 | some (.one (.fn (.func g) caps)),some vs=>ora (.f g) (vs++ptrs caps) H
 | some (.one (.yd b)),some vs=>ora (.y b) vs H
 | _,_=>none
theorem czn(ho:cga P ora){f:Operand}{args:Array Operand}{ats:Array TypeId}(h:cpz ora E H f args=some outs)(hx:∀ z,(z=f∨z∈args.toList)→∀ a,E z=some a→VRel ρ a (ev z))(hH:HRel ρ H w)(hd:Dom ρ H.n)(hj:J ρ H w) :
  (∀ o∈outs,Sc H o.2)∧OpSM P ρ ev H w (.call ⟨.value f,args,ats⟩) outs:=by
 unfold cpz at h
 split at h
 ·rename_i g a b vs hf hl
  split at h
  ·rename_i hab
   obtain⟨hst,hg⟩:=ho _ _ _ _ h
   obtain⟨hev,_⟩:=hx f (.inl rfl) _ hf
   have hus:=b49 (ρ:=ρ) (ev:=ev) (xs:=args.toList) (fun x hx' v hv=>hx x (.inr hx') v hv) hl
   refine⟨hst,fun dst ty pos after guard=>?_⟩
   have ha:a = #[]:=Array.eq_empty_of_size_eq_zero hab.1
   have hb:b = #[]:=Array.eq_empty_of_size_eq_zero hab.2
   subst ha
   subst hb
   have hrun:(execOp ev ⟨dst,.call ⟨.value f,args,ats⟩,ty,pos,after,guard⟩).run P w=(callFunc g (args.map ev)).run P w:=by
    simp [execOp,resolve,hev,Deferred.ofValue,invoke]
   rw [hrun]
   exact hg ρ w _ _ rfl (by simpa using hus) hH hd hj
  ·cases h
 ·rename_i g caps vs hf hl
  obtain⟨hst,hg⟩:=ho _ _ _ _ h
  obtain⟨us,hev,hcaps⟩:=hx f (.inl rfl) _ hf
  have hus:=b49 (ρ:=ρ) (ev:=ev) (xs:=args.toList) (fun x hx' v hv=>hx x (.inr hx') v hv) hl
  refine⟨hst,fun dst ty pos after guard=>?_⟩
  have hrun:(execOp ev ⟨dst,.call ⟨.value f,args,ats⟩,ty,pos,after,guard⟩).run P w=(callFunc g (args.map ev++us)).run P w:=by
   simp [execOp,resolve,hev,Deferred.ofValue,invoke]
  rw [hrun]
  exact hg ρ w _ _ rfl (by simpa using hus.append (cct hcaps)) hH hd hj
 ·rename_i b vs hf hl
  obtain⟨hst,hg⟩:=ho _ _ _ _ h
  obtain⟨L,hL,hev⟩:=hx f (.inl rfl) _ hf
  have hus:=b49 (ρ:=ρ) (ev:=ev) (xs:=args.toList) (fun x hx' v hv=>hx x (.inr hx') v hv) hl
  refine⟨hst,fun dst ty pos after guard=>?_⟩
  have hrun:(execOp ev ⟨dst,.call ⟨.value f,args,ats⟩,ty,pos,after,guard⟩).run P w=(Instr.yield L.B (args.map ev)).run P w:=by
   simp [execOp,resolve,hev,Deferred.ofValue,invoke]
  rw [hrun]
  exact hg ρ w _ _ ⟨L,hL,rfl⟩ (by simpa using hus) hH hd hj
 ·cases h
theorem cgd{α:Type}(a:Array α):a.isEmpty=a.toList.isEmpty:=by
 obtain⟨l⟩:=a
 cases l<;>simp
theorem c3a{es:List Ent}{ms:List MapEntry}{k:Nat}(h:All2 (b5c ρ) es ms):(ms.all fun e=>decide (e.born≥k))=es.all fun e=>decide (e.2.2≥k):=by
 induction es generalizing ms with
 | nil=>cases ms with | nil=>rfl | cons _ _=>exact h.elim
 | cons e es ih =>
  cases ms with
  | nil=>exact h.elim
  | cons m ms =>
   obtain⟨⟨_,_,hb⟩,h2⟩:=h
   simp only [List.all_cons,hb,ih h2]
theorem cwg{es:List Ent}{ms:List MapEntry}(h:All2 (b5c ρ) es ms):ms.isEmpty=es.isEmpty:=by
 have:=h.length
 rw [Bool.eq_iff_iff,List.isEmpty_iff_length_eq_zero,List.isEmpty_iff_length_eq_zero,this]
theorem c36{b m:Nat}{it:IterC}{es:List Ent}{clock:Nat}{arr:Array MapEntry}{L K:Loc}{x:Operand}{Z:Prop}{ty:TypeId}(hrel:All2 (b5c ρ) es arr.toList)
  (hgi:(getObj L.B).run P w=.ok (.mapIter (some K.B) it.since it.seen.toArray it.stepped) w) (hgm:(getObj K.B).run P w=.ok (.map arr clock) w)
  (hcond:(!it.seen.toArray.isEmpty&&!arr.isEmpty&&arr.all fun e=>decide (e.born≥it.stepped))=false) (hL0:L.o=0) (hv:ev x=.pointer (some ⟨L.B,0+0,none⟩)) (hxv:E x=some (.one (.ptr b 0))) (hH:HRel ρ H w) (hd:Dom ρ H.n) (hL:ρ b=some L)
  (hit:H.t.get b=some (.lf [some (.iter it.m it.since it.seen it.stepped)])) (hms:it.m=some m) (hheap:w.heap[L.B]? = some (.mapIter (some K.B) it.since it.seen.toArray it.stepped)) (hK:ρ m=some K)
  (fin:∀ (u:Value) (w':World),(Instr.next (ev x) false ty).run P w=.ok u w'→cv1 ρ H w ((cv8 it.since it.seen es).map (cud H b it clock)) u w'→Z):Z:=by
 generalize hC:((if((arr.filter fun e=>!it.seen.toArray.contains e.born).filter fun e=>decide (e.born<it.since)).isEmpty then #[none] else #[]) ++
   ((arr.filter fun e=>!it.seen.toArray.contains e.born).filter (fun e=>decide (e.born<it.since))++(arr.filter fun e=>!it.seen.toArray.contains e.born).filter fun e=>decide (e.born≥it.since)).map some:Array (Option MapEntry))=C
 have hsz:0<C.size:=by
  rw [← hC]
  by_cases he:((arr.filter fun e=>!it.seen.toArray.contains e.born).filter fun e=>decide (e.born<it.since)).isEmpty=true
  ·rw [if_pos he];simp only [Array.size_append,List.size_toArray,List.length_cons,List.length_nil];omega
  ·rw [if_neg he]
   have:0<((arr.filter fun e=>!it.seen.toArray.contains e.born).filter fun e=>decide (e.born<it.since)).size:=by
    rw [Array.isEmpty_iff_size_eq_zero] at he
    omega
   simp only [Array.size_append,Array.size_map]
   omega
 obtain⟨k,w1,hk,hch,hw1⟩:∃ k w1,k<C.size∧(choose (.mapNext C.size)).run P w=.ok k w1∧(w1=w∨w1=w.drew):=by
  rw [run_choose_drew]
  by_cases hf:(Question.mapNext C.size).forced=true
  ·rw [if_pos hf];exact⟨0,w,hsz,rfl,.inl rfl⟩
  ·rw [if_neg hf];exact⟨_,w.drew,Nat.mod_lt _ hsz,rfl,.inr rfl⟩
 have hs1:Sim ρ H w ρ H w1:=by
  rcases hw1 with rfl | rfl
  ·exact Sim.refl hH hd
  ·exact Sim.same hH hd rfl rfl rfl rfl
 have hheap1:w1.heap=w.heap:=by rcases hw1 with rfl | rfl<;>rfl
 have hCk:C[k]? = some C[k]:=Array.getElem?_eq_getElem hk
 obtain⟨a,ha,hac⟩:=cx1 (since:=it.since) (seen:=it.seen) hrel k C[k] (by
  rw [← hCk,← Array.getElem?_toList]
  congr 1
  rw [← hC]
  simp only [List.contains_toArray,Array.toList_append,Array.toList_map,Array.toList_filter]
  congr 1
  rw [cgd,Array.toList_filter,Array.toList_filter]
  split<;>rfl)
 have hrun:∀ u w2,(match C[k]? with
   | some (some e)=>do setObj L.B (.mapIter (some K.B) it.since (it.seen.toArray.push e.born) clock);pure (.tuple #[.bool true,e.key,e.val])
   | some none=>pure (.tuple #[.bool false])
   | none=>stuck "Next: no such candidate" : Sem Value).run P w1=.ok u w2→(Instr.next (ev x) false ty).run P w=.ok u w2:=by
  intro u w2 h
  rw [hv]
  simp only [Instr.next,Sem.run_bind,hgi,Result.andThen_ok,hgm,hcond,Bool.false_eq_true,if_false,Sem.run_pure,hC,hch]
  exact h
 rw [hCk] at hrun
 have hmem:cud H b it clock a∈(cv8 it.since it.seen es).map (cud H b it clock):=List.mem_map.2 ⟨a,List.mem_of_getElem? ha,rfl⟩
 cases hcc:C[k] with
 | none =>
  rw [hcc] at hrun hac
  cases a with
  | some e=>exact hac.elim
  | none=>exact fin _ w1 (hrun _ w1 rfl) ⟨_,hmem,ρ,⟨_,rfl,⟨rfl,rfl⟩,trivial⟩,hs1⟩
 | some e' =>
  rw [hcc] at hrun hac
  cases a with
  | none=>exact hac.elim
  | some e =>
   obtain⟨h1,h2,h3⟩:=hac
   have hset:=b8o (P:=P) (w:=w1) (r:=L.B) (.mapIter (some K.B) it.since (it.seen.toArray.push e'.born) clock) (by rw [hheap1];exact hheap) (fun _ _ _ h=>by cases h)
   refine fin (.tuple #[.bool true,e'.key,e'.val]) (w1.putObj L.B (.mapIter (some K.B) it.since (it.seen.toArray.push e'.born) clock)) (hrun _ _ ?_) ⟨_,hmem,ρ,⟨_,rfl,⟨rfl,rfl⟩,h1,h2,trivial⟩,?_⟩
   ·simp only [Sem.run_bind,hset,Result.andThen_ok,Sem.run_pure]
   ·refine hs1.trans hd (Sim.put1 (o:=.mapIter (some K.B) it.since it.seen.toArray it.stepped) hs1.rel hd hL hit (by rw [hheap1];exact hheap) (fun _ _ _ h=>by cases h) ?_)
    have hlt:L.B<w1.heap.size:=by rw [hheap1];exact(Array.getElem?_eq_some_iff.1 hheap).1
    refine⟨rfl,hL0,some K.B,?_,?_⟩
    ·rw [World.putObj_heap_same hlt,h3]
     simp
    ·rw [hms]
     exact⟨K,hK,rfl⟩
theorem czv{x:Operand}(h:cp3 E H x=some outs)(hx:∀ a,E x=some a→VRel ρ a (ev x))(hH:HRel ρ H w)(hd:Dom ρ H.n):(∀ o∈outs,Sc H o.2)∧OpSM P ρ ev H w (.next x false) outs:=by
 refine⟨fun o ho=>(cp4 h o ho).sc,fun dst ty pos after guard=>?_⟩
 unfold cp3 at h
 have fin:∀ (u:Value) (w':World),(Instr.next (ev x) false ty).run P w=.ok u w'→cv1 ρ H w outs u w'→b4n P (cv1 ρ H w outs) ((execOp ev ⟨dst,.next x false,ty,pos,after,guard⟩).run P w):=fun u w' hrun hp=>by
  have:(execOp ev ⟨dst,.next x false,ty,pos,after,guard⟩).run P w=.ok (.value u) w':=b4u hrun
  rw [this]
  exact hp
 split at h
 ·rename_i b hxv
  obtain⟨L,hL,hv⟩:=hx _ hxv
  split at h
  ·rename_i it hit
   have hit':=chb hit
   obtain⟨_,hL0,mm,hheap,hm⟩:=hH.rel b 0 _ L (b9b hit').1 hL
   have hgi:=b6k (P:=P) hheap (fun _ _ _ h=>by cases h)
   rw [hL0] at hv
   split at h
   ·rename_i hmn
    cases h
    rw [hmn] at hm
    simp only at hm
    subst hm
    refine fin (.tuple #[.bool false]) w ?_ ⟨_,List.mem_singleton.2 rfl,ρ,⟨_,rfl,⟨rfl,rfl⟩,trivial⟩,Sim.refl hH hd⟩
    simp [Instr.next,hv,hgi]
   ·rename_i m hms
    rw [hms] at hm
    obtain⟨K,hK,rfl⟩:=hm
    split at h
    ·rename_i es clock hmap
     split at h
     ·rename_i hcond
      cases h
      obtain⟨_,arr,hmheap,hrel⟩:=b54 hH hK hmap
      have hgm:=b37 (P:=P) hmheap
      refine c36 hrel hgi hgm ?_ hL0 hv hxv hH hd hL hit' hms hheap hK fin
      rw [← hcond,← Array.all_toList,c3a hrel,cgd arr,cwg hrel,cgd]
     ·cases h
    ·cases h
  ·cases h
 ·cases h
noncomputable section
def Bk.peek(k:Bk)(i:Nat):Option Ct :=
 Bk.rec (motive:=fun _=>Nat→Option Ct) (fun l i=>match b8x i l with
  | x::_=>x
  | []=>none) (fun n c i=>match Nat.ble (Nat.succ i) n with
  | true=>some (.c c)
  | false=>none) (fun n _ _ gl gr i=>match Nat.ble (Nat.succ i) n with
  | true=>gl i
  | false=>gr (Nat.sub i n)) k i
def HP.hasAt(H:HP)(b i:Nat):Bool :=
 match H.t.get b with
 | some k=>match k.peek i with
  | some (.c _)=>true
  | some .room=>true
  | _=>false
 | none=>false
def c4b(P:Program)[Plain P](E:Operand→Option AV)(H:HP)(args:Array Operand)(ats:Array TypeId):R :=
 match b7p E args.toList,ats.toList with
 | some [.one (.su b off _ s)],t::_=>match undT P t,Nat.ble 1 s with
  | some (.slice _),true=>some (.one (.kp b off s),H)
  | _,_=>none
 | _,_=>none
def c4f(E:Operand→Option AV)(H:HP)(x y:Operand):R :=
 match E x,E y with
 | some (.one (.lit (.int .i64 n))),some (.one (.kp b off s))=>if 0<n then match H.hasAt b (off+n.toNat*s - 1) with
   | true=>some (.one (.lit (.bool false)),H)
   | false=>none
  else none
 | _,_=>none
def cnc(P:Program)[Plain P](E:Operand→Option AV)(H:HP)(t:TypeId)(x hi:Operand):R :=
 match undT P t,E x,E hi with
 | some (.slice e),some (.one (.su b off _ s)),some (.one (.lit (.int _ n)))=>match szA P e with
  | some (_,sz)=>if s=sz∧0<sz∧0<n then match H.hasAt b (off+n.toNat*s - 1) with
    | true=>some (.one (.su b off n.toNat s),H)
    | false=>none
   else none
  | none=>none
 | _,_,_=>none
def b97(a b:R):R :=
 match a with
 | some x=>some x
 | none=>b
end
theorem Bk.peek_eq:∀ (k:Bk) (i:Nat),k.peek i=k.get i
 | .lf l,i=>by
  show(match b8x i l with | x::_=>x | []=>none)=(l[i]?).join
  rw [b58]
  split
  ·rename_i x r hd
   have:l[i]? = some x:=by
    have:=congrArg (·[0]?) hd
    simpa using this
   rw [this]
   rfl
  ·rename_i hd
   rw [List.getElem?_eq_none (by simpa using hd)]
   rfl
 | .fl n c,i=>by
  show(match Nat.ble (Nat.succ i) n with | true=>some (.c c) | false=>none)=if i<n then some (Ct.c c) else none
  split
  ·rename_i hb;rw [if_pos (show i<n from Nat.le_of_ble_eq_true hb)]
  ·rename_i hb;rw [if_neg (by have:=b51 hb;omega)]
 | .nd n l r,i=>by
  show(match Nat.ble (Nat.succ i) n with | true=>l.peek i | false=>r.peek (i - n))=if i<n then l.get i else r.get (i - n)
  split
  ·rename_i hb;rw [if_pos (show i<n from Nat.le_of_ble_eq_true hb),Bk.peek_eq l i]
  ·rename_i hb;rw [if_neg (by have:=b51 hb;omega),Bk.peek_eq r]
theorem HP.hasAt_spec{b i:Nat}(h:H.hasAt b i=true):∃ c,H.cell b i=some c∧c.plc:=by
 unfold HP.hasAt at h
 split at h
 ·rename_i k hk
  rw [Bk.peek_eq] at h
  have hg:H.cell b i=k.get i:=by unfold HP.cell;rw [hk];rfl
  split at h
  ·rename_i x hx;exact⟨_,hg.trans hx,trivial⟩
  ·rename_i hx;exact⟨_,hg.trans hx,trivial⟩
  ·cases h
 ·cases h
theorem cj7{b off s cap:Nat}{n:Nat}{L:Loc}(h:H.hasAt b (off+n*s - 1)=true)(hH:HRel ρ H w)(hL:ρ b=some L)(hs:0<s)(hn:0<n)(he:L.o+off+cap*s=L.C):n≤cap:=by
 obtain⟨c,hc,hp⟩:=HP.hasAt_spec h
 obtain⟨arr,t,fr,_,_,e3,e4⟩:=chz (hH.rel b _ c L hc hL) hp
 have h1:0<n*s:=Nat.mul_pos hn hs
 have h2:n*s≤cap*s:=by omega
 exact Nat.le_of_mul_le_mul_right h2 hs
theorem c4c{args:Array Operand}{ats:Array TypeId}(h:c4b P E H args ats=some (v,H'))(hx:∀ z∈args.toList,∀ a,E z=some a→VRel ρ a (ev z))(hH:HRel ρ H w)(hd:Dom ρ H.n) :
  St H H'∧OpS P ρ ev H w (.call ⟨.builtin .cap,args,ats⟩) v H':=by
 unfold c4b at h
 simp only [b3j] at h
 split at h
 ·rename_i b off len s t rest hl hat
  obtain⟨y,hy,hx'⟩:=b75 hl
  have hev:=hx y (by rw [hy];simp) _ hx'
  have hargs:args = #[y]:=by rw [← Array.toList_inj];simpa using hy
  have hats:ats[0]? = some t:=by rw [← Array.getElem?_toList,hat];rfl
  subst hargs
  split at h
  ·rename_i e hu hs
   cases h
   obtain⟨L,cap,hL,he,h1,h2,h3⟩:=hev
   refine⟨St.refl H,OpS.val hH hd (u:=.int .i64 cap) ⟨L,cap,hL,rfl,h2,Nat.le_of_ble_eq_true hs,h3⟩ fun dst ty pos after guard=>?_⟩
   simp [execOp,resolve,invoke,builtin,Builtin.cap_,hats,run_underlying hu,he,goInt]
  ·cases h
 ·cases h
theorem c4g{t ty0:TypeId}{x y:Operand}(h:c4f E H x y=some (v,H'))(hx:∀ z,z=x∨z=y→∀ a,E z=some a→VRel ρ a (ev z))(hH:HRel ρ H w)(hd:Dom ρ H.n) :
  St H H'∧OpS P ρ ev H w (.binOp .gtr t x y ty0) v H':=by
 unfold c4f at h
 split at h
 ·rename_i n b off s hex hey
  obtain⟨he1,hl1⟩:=hx x (.inl rfl) _ hex
  obtain⟨L,cap,hL,he2,h2,hs,h3⟩:=hx y (.inr rfl) _ hey
  split at h
  ·rename_i hn
   split at h
   ·rename_i hh
    cases h
    obtain⟨n',rfl⟩:=Int.eq_ofNat_of_zero_le (show(0:Int)≤n by omega)
    have hle:=cj7 (n:=n') (by simpa using hh) hH hL hs (by omega) h3
    have hcmp:decide ((n':Int) > (cap:Int))=false:=by simp;omega
    refine⟨St.refl H,OpS.val hH hd (u:=.bool false) ⟨rfl,rfl⟩ fun dst ty pos after guard=>b4u ?_⟩
    rw [he1,he2,Sem.run_bind,eqGuard_at_int]
    simp only [Sem.run_pure,Result.andThen_ok]
    simp [binOp,Op.intCmp,hcmp]
    omega
   ·cases h
  ·cases h
 ·cases h
theorem cwv{t:TypeId}{x hi:Operand}(h:cnc P E H t x hi=some (v,H'))(hx:∀ z,z=x∨z=hi→∀ a,E z=some a→VRel ρ a (ev z))(hH:HRel ρ H w)(hd:Dom ρ H.n) :
  St H H'∧OpS P ρ ev H w (.slice t x none (some hi) none) v H':=by
 unfold cnc at h
 simp only [b3j] at h
 split at h
 ·rename_i e b off len s k n hu hex hey
  obtain⟨L,cap,hL,he1,h1,h2,h3⟩:=hx x (.inl rfl) _ hex
  obtain⟨he2,hl2⟩:=hx hi (.inr rfl) _ hey
  split at h
  ·rename_i ag sz hs
   split at h
   ·rename_i hc
    obtain⟨rfl,hs0,hn⟩:=hc
    split at h
    ·rename_i hh
     cases h
     obtain⟨n',rfl⟩:=Int.eq_ofNat_of_zero_le (show(0:Int)≤n by omega)
     have hle:=cj7 (n:=n') (by simpa using hh) hH hL hs0 (by omega) h3
     have hb:=b42 (P:=P) (w:=w) (isS:=true) (len:=len) (cap:=cap) (lo:=none) (hi:=some n') (mx:=none) (ul:=none) (uh:=some (.int k n')) (um:=none) trivial ⟨k,rfl⟩ trivial (.inl rfl) (by simp) (.inl (by simpa using hle)) (by simp)
     simp only [Option.getD_none,Option.getD_some] at hb
     refine⟨St.refl H,OpS.val hH hd (u:=.slice (some ⟨L.B,L.o+off,none⟩) n' cap) ⟨L,cap,hL,rfl,hle,h2,h3⟩ fun dst ty pos after guard=>b4u ?_⟩
     simp only [Instr.sliceAt,Sem.run_bind,run_underlying hu,Result.andThen_ok,Option.map_none,Option.map_some,he1,he2]
     simp only [Instr.slice,Sem.run_bind,run_underlying hu,Result.andThen_ok,hb,run_sizeOf hs,Sem.run_pure,Nat.sub_zero,Nat.zero_mul]
     congr 2
     split
     ·rfl
     ·simp [b36]
    ·cases h
   ·cases h
  ·cases h
 ·cases h
def dd4:BinOp→Bool
 | .eql=>true
 | .neq=>true
 | .lss=>true
 | .leq=>true
 | .gtr=>true
 | .geq=>true
 | _=>false
def c3p:AV→Option IntKind
 | .one (.lit (.int k _))=>some k
 | .one (.un k)=>some k
 | _=>none
noncomputable section
def cwo(E:Operand→Option AV)(H:HP)(op:BinOp)(x y:Operand):RM :=
 match dd4 op,(E x).bind c3p,(E y).bind c3p with
 | true,some k,some k'=>if k=k' then some [(.one (.lit (.bool false)),H),(.one (.lit (.bool true)),H)] else none
 | _,_,_=>none
def c4h(P:Program)[Plain P](E:Operand→Option AV)(H:HP)(args:Array Operand)(ats:Array TypeId):R :=
 match b7p E args.toList,ats.toList with
 | some [.one .us],t::_=>match undT P t with
  | some (.slice _)=>some (.one (.un .i64),H)
  | _=>none
 | _,_=>none
def chx(a b:RM):RM :=
 match a with
 | some x=>some x
 | none=>b
end
theorem cpf{x:AV}{u:Value}{k:IntKind}(h:c3p x=some k)(hx:VRel ρ x u):∃ n,u=.int k n:=by
 unfold c3p at h
 split at h
 ·cases h;exact⟨_,hx.1⟩
 ·cases h;obtain⟨n,hn,_⟩:=hx;exact⟨n,hn⟩
 ·cases h
theorem cuh{op:BinOp}{t ty0:TypeId}{x y:Operand}(h:cwo E H op x y=some outs)(hx:∀ z,z=x∨z=y→∀ a,E z=some a→VRel ρ a (ev z))(hH:HRel ρ H w)(hd:Dom ρ H.n) :
  (∀ o∈outs,Sc H o.2)∧OpSM P ρ ev H w (.binOp op t x y ty0) outs:=by
 unfold cwo at h
 split at h
 ·rename_i k k' hop hkx hky
  obtain⟨a,hex,hka⟩:=b3h hkx
  obtain⟨b,hey,hkb⟩:=b3h hky
  split at h
  ·rename_i hkk
   subst hkk
   cases h
   obtain⟨n,hn⟩:=cpf hka (hx x (.inl rfl) _ hex)
   obtain⟨m,hm⟩:=cpf hkb (hx y (.inr rfl) _ hey)
   refine⟨fun o ho=>?_,fun dst ty pos after guard=>?_⟩
   ·rcases List.mem_cons.1 ho with rfl | ho
    ·exact Sc.refl _
    ·rw [List.mem_singleton.1 ho];exact Sc.refl _
   ·have hrun:∃ r:Bool,(do eqGuard op t x y (ev x) (ev y);binOp op t (ev x) (ev y):Sem Value).run P w=.ok (.bool r) w:=by
     rw [hn,hm,Sem.run_bind,eqGuard_at_int]
     simp only [Sem.run_pure,Result.andThen_ok]
     cases op<;>first | (cases hop;done) | exact⟨_,by simp [binOp,Op.intCmp];rfl⟩
    obtain⟨r,hr⟩:=hrun
    have:(execOp ev ⟨dst,.binOp op t x y ty0,ty,pos,after,guard⟩).run P w=.ok (.value (.bool r)) w:=b4u hr
    rw [this]
    cases r with
    | false=>exact⟨_,List.mem_cons_self ..,ρ,⟨rfl,rfl⟩,Sim.refl hH hd⟩
    | true=>exact⟨_,List.mem_cons_of_mem _ (List.mem_singleton.2 rfl),ρ,⟨rfl,rfl⟩,Sim.refl hH hd⟩
  ·cases h
 ·cases h
theorem c4i{args:Array Operand}{ats:Array TypeId}(h:c4h P E H args ats=some (v,H'))(hx:∀ z∈args.toList,∀ a,E z=some a→VRel ρ a (ev z))(hH:HRel ρ H w)(hd:Dom ρ H.n) :
  St H H'∧OpS P ρ ev H w (.call ⟨.builtin .len,args,ats⟩) v H':=by
 unfold c4h at h
 simp only [b3j] at h
 split at h
 ·rename_i t rest hl hat
  obtain⟨y,hy,hx'⟩:=b75 hl
  have hev:=hx y (by rw [hy];simp) _ hx'
  have hargs:args = #[y]:=by rw [← Array.toList_inj];simpa using hy
  have hats:ats[0]? = some t:=by rw [← Array.getElem?_toList,hat];rfl
  subst hargs
  split at h
  ·rename_i e hu
   cases h
   obtain⟨a,n,c,he,h1⟩:=hev
   refine⟨St.refl H,OpS.val hH hd (u:=.int .i64 n) ⟨n,rfl,cew h1⟩ fun dst ty pos after guard=>?_⟩
   simp [execOp,resolve,invoke,builtin,Builtin.len_,hats,run_underlying hu,he,goInt]
  ·cases h
 ·cases h
noncomputable def stepM(P:Program)[Plain P](ora:OraM)(E:Operand→Option AV)(H:HP)(op:Op):RM :=
 match op with
 | .call c=>match c.callee with
  | .value f=>cpz ora E H f c.args
  | .builtin .cap=>single (b97 (b5e P ora.one E H op) (c4b P E H c.args c.argTypes))
  | .builtin .len=>single (b97 (b5e P ora.one E H op) (c4h P E H c.args c.argTypes))
  | _=>single (b5e P ora.one E H op)
 | .next x false=>cp3 E H x
 | .binOp .gtr _ x y _=>chx (single (b97 (b5e P ora.one E H op) (c4f E H x y))) (cwo E H .gtr x y)
 | .binOp o _ x y _=>chx (single (b5e P ora.one E H op)) (cwo E H o x y)
 | .slice t x none (some hi) none=>single (b97 (b5e P ora.one E H op) (cnc P E H t x hi))
 | op=>single (b5e P ora.one E H op)
theorem b8h{a b:RM}{x:List (AV×HP)}(h:chx a b=some x):a=some x∨b=some x:=by
 unfold chx at h
 split at h
 ·exact .inl h
 ·exact .inr h
theorem ce3{a b:R}{x:AV×HP}(h:b97 a b=some x):a=some x∨b=some x:=by
 unfold b97 at h
 split at h
 ·exact .inl h
 ·exact .inr h
theorem c5h(ho:cga P ora){op:Op}(h:stepM P ora E H op=some outs)(hx:∀ x∈op.operands,∀ a,E x=some a→VRel ρ a (ev x))(hH:HRel ρ H w)(hd:Dom ρ H.n)(hj:J ρ H w) :
  (∀ o∈outs,Sc H o.2)∧OpSM P ρ ev H w op outs:=by
 have two:∀ (b:R),single (b97 (b5e P ora.one E H op) b)=some outs→(∀ v H',b=some (v,H')→St H H'∧OpS P ρ ev H w op v H')→(∀ o∈outs,Sc H o.2)∧OpSM P ρ ev H w op outs:=by
  intro b h hb
  obtain⟨⟨v,H'⟩,h1,rfl⟩:=b6w h
  have key:St H H'∧OpS P ρ ev H w op v H':=by
   rcases ce3 h1 with h1 | h1
   ·exact ca4 ho.one h1 hx hH hd hj
   ·exact hb v H' h1
  exact⟨fun o ho=>by rw [List.mem_singleton.1 ho];exact key.1.sc,key.2.many⟩
 have one:single (b5e P ora.one E H op)=some outs→(∀ o∈outs,Sc H o.2)∧OpSM P ρ ev H w op outs:=by
  intro h
  obtain⟨⟨v,H'⟩,h1,rfl⟩:=b6w h
  obtain⟨k1,k2⟩:=ca4 ho.one h1 hx hH hd hj
  exact⟨fun o ho=>by rw [List.mem_singleton.1 ho];exact k1.sc,k2.many⟩
 unfold stepM at h
 split at h
 ·rename_i c
  obtain⟨callee,args,ats⟩:=c
  split at h
  ·rename_i f hc
   simp only at hc
   subst hc
   exact czn ho h (fun z hz=>hx z (by simp only [Op.operands,Call.operands,Array.mem_append];rcases hz with rfl | hz<;>simp_all)) hH hd hj
  ·rename_i hc
   simp only at hc
   subst hc
   exact two _ h fun v H' hb=>c4c hb (fun z hz=>hx z (by simp only [Op.operands,Call.operands,Array.mem_append];right;simpa using hz)) hH hd
  ·rename_i hc
   simp only at hc
   subst hc
   exact two _ h fun v H' hb=>c4i hb (fun z hz=>hx z (by simp only [Op.operands,Call.operands,Array.mem_append];right;simpa using hz)) hH hd
  ·exact one h
 ·exact czv h (hx _ (by simp [Op.operands])) hH hd
 ·rcases b8h h with h | h
  ·exact two _ h fun v H' hb=>c4g hb (fun z hz=>hx z (by rcases hz with rfl | rfl<;>simp [Op.operands])) hH hd
  ·exact cuh h (fun z hz=>hx z (by rcases hz with rfl | rfl<;>simp [Op.operands])) hH hd
 ·rcases b8h h with h | h
  ·exact one h
  ·exact cuh h (fun z hz=>hx z (by rcases hz with rfl | rfl<;>simp [Op.operands])) hH hd
 ·exact two _ h fun v H' hb=>cwv hb (fun z hz=>hx z (by rcases hz with rfl | rfl<;>simp [Op.operands])) hH hd
 ·exact one h
theorem cjm{E:Operand→Option AV}{op:Op}(h:stepM P ora E H op=some outs)(c:Call):op≠.defer c:=by
 rintro rfl
 obtain⟨x,h1,_⟩:=b6w (show single (b5e P ora.one E H (.defer c))=some outs from h)
 exact absurd rfl (b8q h1 c)
end
section
variable {P:Program} [Plain P] {ora:OraM} {n m:Nat} {r:Option Nat} {ρ:PM} {F F':Fm} {H H':HP} {a:Act} {w:World} {v:AV} {outs:List (AV×HP)}
theorem c4p(ho:cga P ora){o:Oper}{K:Act→World→Prop}{Q:Exit→Act→World→Prop}(h:stepM P ora (evF F) H o.op=some outs)(hp:∀ x∈outs,∃ F',putF n F o.dst x.1=some F')(s:SRel n ρ F H a w)
  (hk:∀ x∈outs,∀ F',putF n F o.dst x.1=some F'→∀ ρ' a' w',SRel n ρ' F' x.2 a' w'→a'.defers=a.defers→Sim ρ H w ρ' x.2 w'→K a' w'):o.wpIn (WF r) m P a w K Q:=by
 obtain⟨hst,hop⟩:=c5h (w:=w) (ev:=a.eval) (ρ:=ρ) ho h (fun x _ v hv=>cbn s.fr hv) s.hp s.dom s.j
 refine⟨fun f _=>trivial,?_⟩
 rw [Oper.semAt_eq _ _ _ (cjm h)]
 obtain⟨dst,op,ty,pos,after,guard⟩:=o
 refine b7q (hop dst ty pos after guard) fun u w' ⟨x,hx,ρ',hv,hs⟩=>?_
 obtain⟨F',hF⟩:=hp x hx
 exact hk x hx F' hF ρ' _ w' ⟨cf0 (s.fr.mono hs.le) hv hF,hs.rel,hs.dom,s.j.step hs⟩ (put_defers _ _ _) hs
noncomputable section
def ddz(o:BinOp)(P:Program)(I:Plain P)(ora:OraM)(E:Operand→Option AV)(H:HP)(t:TypeId)(x y:Operand)(u:TypeId):RM :=
 match o with
 | .gtr=>stepM P ora E H (.binOp .gtr t x y u)
 | o=>single (oBin P E H o t x y)
def da3(c:Call)(P:Program)(I:Plain P)(ora:OraM)(E:Operand→Option AV)(H:HP):RM :=
 match c.callee with
 | .value f=>cpz ora E H f c.args
 | .builtin b=>stepM P ora E H (.call ⟨.builtin b,c.args,c.argTypes⟩)
 | .invoke r m=>single none
def c1f(op:Op):(P:Program)→Plain P→OraM→(Operand→Option AV)→HP→RM :=
 Op.rec (motive:=fun _=>(P:Program)→Plain P→OraM→(Operand→Option AV)→HP→RM)
  (fun x P I ora E H=>single (cr5 E H x))
  (fun x P I ora E H=>single (cr5 E H x))
  (fun c a b P I ora E H=>single (cwt E H c a b))
  (fun t P I ora E H=>single (chs P H t))
  (fun t x P I ora E H=>single (oBox E H x))
  (fun t ps P I ora E H=>single (cuf P E H t ps))
  (fun t n ps P I ora E H=>single (b77 P E H t n ps))
  (fun t m k x P I ora E H=>single (b78 P E H t m k x))
  (fun t x P I ora E H=>single (cm9 P E H t x))
  (fun t x y P I ora E H=>single (chu P E H t x y))
  (fun g P I ora E H=>single none)
  (fun g P I ora E H=>single none)
  (fun x P I ora E H=>single (oNil E H x))
  (fun o t x y u P I ora E H=>ddz o P I ora E H t x y u)
  (fun o t x P I ora E H=>single (oUn E H o x))
  (fun t u x P I ora E H=>single (b9c P E H t u x))
  (fun t x P I ora E H=>single (ckg P E H t x))
  (fun t x P I ora E H=>single none)
  (fun f xs cs P I ora E H=>single (b82 E H f xs cs))
  (fun t r P I ora E H=>single (ccr E H r))
  (fun t x P I ora E H=>single none)
  (fun t x y P I ora E H=>single (b7v P E H t x y))
  (fun t x l h m P I ora E H=>stepM P ora E H (.slice t x l h m))
  (fun t x f P I ora E H=>single (b7t P E H t x f))
  (fun t x f P I ora E H=>single (cki P E H t x f))
  (fun t x i P I ora E H=>single (b7u P E H t x i))
  (fun t x i P I ora E H=>single (ckj P E H t x i))
  (fun t x i ok P I ora E H=>single (cdq P E H t x i ok))
  (fun t m k x P I ora E H=>single (b78 P E H t m k x))
  (fun t m k P I ora E H=>single (b83 P E H t m k))
  (fun t m s x P I ora E H=>single (b6u E H m s x))
  (fun t x P I ora E H=>single (ckl P E H t x))
  (fun x s P I ora E H=>stepM P ora E H (.next x s))
  (fun x P I ora E H=>single (ckh E H x))
  (fun x t u k P I ora E H=>single none)
  (fun x i P I ora E H=>single (cay E H x i))
  (fun c P I ora E H=>da3 c P I ora E H)
  (fun c P I ora E H=>single none)
  (fun c P I ora E H=>single none)
  (fun x P I ora E H=>single none)
  (fun c x P I ora E H=>single none)
  (fun t c k P I ora E H=>single none)
  (fun cs b P I ora E H=>single none) op
def c1e(op:Op)(P:Program)(I:Plain P)(ora:OraM)(E:Operand→Option AV)(H:HP):RM :=
 match @symP P I E H op with
 | some r=>some [r]
 | none=>match c1f op P I ora E H with
  | some r=>some r
  | none=>stepM P ora E H op
end
theorem cir{op:Op}{E:Operand→Option AV}{r:R}(hr:r=b4h P ora.one E H op)(hp:symP P E H op=none)(h:single r=some outs):single (b5e P ora.one E H op)=some outs:=by
 obtain⟨x,h1,rfl⟩:=b6w h
 unfold b5e cb2
 rw [hp,← hr,h1]
 rfl
theorem cw7{op:Op}{E:Operand→Option AV}{r:AV×HP}(h:symP P E H op=some r):stepM P ora E H op=some [r]:=by
 have hA:b5e P ora.one E H op=some r:=by unfold b5e;rw [h]
 have hs:single (b5e P ora.one E H op)=some [r]:=by rw [hA];rfl
 unfold symP at h
 split at h
 ·cases h
 ·split at h<;>first | exact hs | cases h
theorem cq1{op:Op}{E:Operand→Option AV}(hp:symP P E H op=none)(h:c1f op P inferInstance ora E H=some outs):stepM P ora E H op=some outs:=by
 cases op with
 | binOp o t x y u =>
  cases o
  case gtr=>exact h
  all_goals
   have h1:=cir (ora:=ora) (op:=.binOp _ t x y u) rfl hp h
   show chx _ _=_
   rw [h1]
   rfl
 | call c =>
  obtain⟨callee,args,ats⟩:=c
  cases callee with
  | value f=>exact h
  | builtin b=>exact h
  | invoke r m=>cases h
 | slice t x l hh m=>exact h
 | next x s=>exact h
 | _=>first | exact cir (ora:=ora) rfl hp h | cases h
theorem cix{op:Op}{E:Operand→Option AV}(h:c1e op P inferInstance ora E H=some outs):stepM P ora E H op=some outs:=by
 unfold c1e at h
 split at h
 ·rename_i r hr
  cases h
  exact cw7 hr
 ·rename_i hp
  split at h
  ·rename_i r hr
   cases h
   exact cq1 hp hr
  ·exact h
theorem cvm(ho:cga P ora){E:Operand→Option AV}{op:Op}(h:stepM P ora E H op=some outs):∀ o∈outs,Sc H o.2:=by
 have two:∀ (b:R),single (b97 (b5e P ora.one E H op) b)=some outs→(∀ v H',b=some (v,H')→H'=H)→∀ o∈outs,Sc H o.2:=by
  intro b h hb
  obtain⟨⟨v,H'⟩,h1,rfl⟩:=b6w h
  intro o hm
  rw [List.mem_singleton.1 hm]
  rcases ce3 h1 with h1 | h1
  ·exact(cc3 ho.one.st h1).sc
  ·rw [hb v H' h1];exact Sc.refl _
 have one:single (b5e P ora.one E H op)=some outs→∀ o∈outs,Sc H o.2:=by
  intro h
  obtain⟨⟨v,H'⟩,h1,rfl⟩:=b6w h
  exact fun o hm=>by rw [List.mem_singleton.1 hm];exact(cc3 ho.one.st h1).sc
 have cmp:∀ {o:BinOp} {x y:Operand},cwo E H o x y=some outs→∀ o∈outs,Sc H o.2:=by
  intro o x y h
  unfold cwo at h
  repeat' (split at h)
  all_goals first
   | (cases h;done)
   | skip
  cases h
  intro p hp
  rcases List.mem_cons.1 hp with rfl | hp
  ·exact Sc.refl _
  ·rw [List.mem_singleton.1 hp];exact Sc.refl _
 unfold stepM at h
 split at h
 ·rename_i c
  split at h
  ·unfold cpz at h
   repeat' (split at h)
   all_goals first
    | (cases h;done)
    | exact(ho _ _ _ _ h).1
  ·refine two _ h fun v H' hb=>?_
   unfold c4b at hb
   repeat' (split at hb)
   all_goals first
    | (cases hb;done)
    | (cases hb;rfl)
  ·refine two _ h fun v H' hb=>?_
   unfold c4h at hb
   repeat' (split at hb)
   all_goals first
    | (cases hb;done)
    | (cases hb;rfl)
  ·exact one h
 ·exact fun o ho=>(cp4 h o ho).sc
 ·rcases b8h h with h | h
  ·refine two _ h fun v H' hb=>?_
   unfold c4f at hb
   repeat' (split at hb)
   all_goals first
    | (cases hb;done)
    | (cases hb;rfl)
  ·exact cmp h
 ·rcases b8h h with h | h
  ·exact one h
  ·exact cmp h
 ·refine two _ h fun v H' hb=>?_
  unfold cnc at hb
  repeat' (split at hb)
  all_goals first
   | (cases hb;done)
   | (cases hb;rfl)
 ·exact one h
end
end Go.Sx
