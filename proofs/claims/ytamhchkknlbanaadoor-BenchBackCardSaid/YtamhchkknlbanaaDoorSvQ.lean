/-
  A second abstract evaluator of the model's code: steps that come to one of several outcomes; regions in the text's order. Conditions: none; nothing here speaks of one program.
-/
import Derived.Test.YtamhchkknlbanaaDoorSvU
import Derived.Test.YtamhchkknlbanaaDoorSvM
set_option linter.unusedSimpArgs false
set_option linter.unusedSectionVars false
set_option linter.unusedVariables false
namespace Go.Sx
variable [Sg]
def ap5 (ora : Ora) : Prop := ∀ (f : Tg) (args : List AV) (H : HP) (v : AV) (H' : HP), ora f args H = some (v, H') → St H H'
theorem ar0.st {P : Program} {ora : Ora} (h : ar0 P ora) : ap5 ora := fun f args H v H' hr => (h f args H v H' hr).1
section
variable {P : Program} [Plain P] {ora : Ora} {E : Operand → Option AV} {H H' : HP} {w : World} {ρ : PM} {ev : Operand → Value} {v : AV}
noncomputable def a0m (E : Operand → Option AV) (op : Op) : Bool :=
 match isPure op with
 | true => true
 | false => match op with
  | .convert _ _ x => match E x with
   | some (.one (.lit (.int _ _))) => true
   | _ => false
  | _ => false
theorem a2e {op : Op} (hp : a0m E op = true) (h : acv P ora E H op = some (v, H')) : H' = H ∧ ∀ G : HP, acv P ora E G op = some (v, G) := by
 unfold a0m at hp
 split at hp
 ·rename_i h1
  exact a8p h1 h
 ·split at hp
  ·rename_i t u x
   split at hp
   ·rename_i k n hx
    simp only [acv, anj, hx] at h ⊢
    split at h
    ·cases h; rename_i h1; exact ⟨rfl, fun G => by first | rfl | simp [*]⟩
    ·rename_i h1; cases h1
    ·rename_i h1
     cases h1
     split at h
     ·simp [toStr, a3j] at h
     ·cases h
    ·rename_i h1; cases h1
    ·rename_i h1
     cases h1
     simp [a3j] at h
    ·cases h
   ·cases hp
  ·cases hp
theorem b2i (ho : ap5 ora) {op : Op} (h : acv P ora E H op = some (v, H')) : St H H' := by
  by_cases hp : isPure op = true
  · rw [(a8p hp h).1]; exact St.refl H
  · cases op with
    | alloc t =>
        simp only [acv, az8] at h
        repeat' (split at h)
        all_goals first
         | (cases h; done)
         | (cases h; exact St.refl _)
         | (cases h; exact St.push _ _)
         | (cases h; exact (St.drop _ _).trans (St.push _ _))
         | (cases h; exact St.obj _ _ _)
         | (cases h; exact St.write (by assumption))
         | (obtain ⟨a, ha, hv⟩ := map_some h; cases hv; first | exact St.refl _ | exact St.push _ _ | exact St.write ha)
    | box t x =>
        simp only [acv, oBox] at h
        repeat' (split at h)
        all_goals first
         | (cases h; done)
         | (cases h; exact St.refl _)
         | (cases h; exact St.push _ _)
         | (cases h; exact (St.drop _ _).trans (St.push _ _))
         | (cases h; exact St.obj _ _ _)
         | (cases h; exact St.write (by assumption))
         | (obtain ⟨a, ha, hv⟩ := map_some h; cases hv; first | exact St.refl _ | exact St.push _ _ | exact St.write ha)
    | buildSlice t m ps =>
        simp only [acv, ali] at h
        repeat' (split at h)
        all_goals first
         | (cases h; done)
         | (cases h; exact St.refl _)
         | (cases h; exact St.push _ _)
         | (cases h; exact (St.drop _ _).trans (St.push _ _))
         | (cases h; exact St.obj _ _ _)
         | (cases h; exact St.write (by assumption))
         | (obtain ⟨a, ha, hv⟩ := map_some h; cases hv; first | exact St.refl _ | exact St.push _ _ | exact St.write ha)
    | load t x =>
        simp only [acv, bbf] at h
        repeat' (split at h)
        all_goals first
         | (cases h; done)
         | (cases h; exact St.refl _)
         | (cases h; exact St.push _ _)
         | (cases h; exact (St.drop _ _).trans (St.push _ _))
         | (cases h; exact St.obj _ _ _)
         | (cases h; exact St.write (by assumption))
         | (obtain ⟨a, ha, hv⟩ := map_some h; cases hv; first | exact St.refl _ | exact St.push _ _ | exact St.write ha)
    | store t x y =>
        simp only [acv, a0b] at h
        repeat' (split at h)
        all_goals first
         | (cases h; done)
         | (cases h; exact St.refl _)
         | (cases h; exact St.push _ _)
         | (cases h; exact (St.drop _ _).trans (St.push _ _))
         | (cases h; exact St.obj _ _ _)
         | (cases h; exact St.write (by assumption))
         | (obtain ⟨a, ha, hv⟩ := map_some h; cases hv; first | exact St.refl _ | exact St.push _ _ | exact St.write ha)
    | makeSlice t x y =>
        simp only [acv, ak3] at h
        repeat' (split at h)
        all_goals first
         | (cases h; done)
         | (cases h; exact St.refl _)
         | (cases h; exact St.push _ _)
         | (cases h; exact (St.drop _ _).trans (St.push _ _))
         | (cases h; exact St.obj _ _ _)
         | (cases h; exact St.write (by assumption))
         | (obtain ⟨a, ha, hv⟩ := map_some h; cases hv; first | exact St.refl _ | exact St.push _ _ | exact St.write ha)
    | convert t u x =>
        simp only [acv, anj] at h
        repeat' (split at h)
        all_goals first
         | (cases h; done)
         | (cases h; exact St.refl _)
         | (cases h; exact St.push _ _)
         | (cases h; exact (St.drop _ _).trans (St.push _ _))
         | (cases h; exact St.obj _ _ _)
         | (cases h; exact St.write (by assumption))
         | (obtain ⟨a, ha, hv⟩ := map_some h; cases hv; first | exact St.refl _ | exact St.push _ _ | exact St.write ha)
    | makeMap t r =>
        simp only [acv, asg] at h
        repeat' (split at h)
        all_goals first
         | (cases h; done)
         | (cases h; exact St.refl _)
         | (cases h; exact St.push _ _)
         | (cases h; exact (St.drop _ _).trans (St.push _ _))
         | (cases h; exact St.obj _ _ _)
         | (cases h; exact St.write (by assumption))
         | (obtain ⟨a, ha, hv⟩ := map_some h; cases hv; first | exact St.refl _ | exact St.push _ _ | exact St.write ha)
    | lookup t x i ok =>
        simp only [acv, atv] at h
        repeat' (split at h)
        all_goals first
         | (cases h; done)
         | (cases h; exact St.refl _)
         | (cases h; exact St.push _ _)
         | (cases h; exact (St.drop _ _).trans (St.push _ _))
         | (cases h; exact St.obj _ _ _)
         | (cases h; exact St.write (by assumption))
         | (obtain ⟨a, ha, hv⟩ := map_some h; cases hv; first | exact St.refl _ | exact St.push _ _ | exact St.write ha)
    | mapUpdate t m k x =>
        simp only [acv, alm] at h
        repeat' (split at h)
        all_goals first
         | (cases h; done)
         | (cases h; exact St.refl _)
         | (cases h; exact St.push _ _)
         | (cases h; exact (St.drop _ _).trans (St.push _ _))
         | (cases h; exact St.obj _ _ _)
         | (cases h; exact St.write (by assumption))
         | (obtain ⟨a, ha, hv⟩ := map_some h; cases hv; first | exact St.refl _ | exact St.push _ _ | exact St.write ha)
    | insert t m k x =>
        simp only [acv, alm] at h
        repeat' (split at h)
        all_goals first
         | (cases h; done)
         | (cases h; exact St.refl _)
         | (cases h; exact St.push _ _)
         | (cases h; exact (St.drop _ _).trans (St.push _ _))
         | (cases h; exact St.obj _ _ _)
         | (cases h; exact St.write (by assumption))
         | (obtain ⟨a, ha, hv⟩ := map_some h; cases hv; first | exact St.refl _ | exact St.push _ _ | exact St.write ha)
    | range t x =>
        simp only [acv, a6e] at h
        repeat' (split at h)
        all_goals first
         | (cases h; done)
         | (cases h; exact St.refl _)
         | (cases h; exact St.push _ _)
         | (cases h; exact (St.drop _ _).trans (St.push _ _))
         | (cases h; exact St.obj _ _ _)
         | (cases h; exact St.write (by assumption))
         | (obtain ⟨a, ha, hv⟩ := map_some h; cases hv; first | exact St.refl _ | exact St.push _ _ | exact St.write ha)
    | entry x =>
        simp only [acv, a5x] at h
        repeat' (split at h)
        all_goals first
         | (cases h; done)
         | (cases h; exact St.refl _)
         | (cases h; exact St.push _ _)
         | (cases h; exact (St.drop _ _).trans (St.push _ _))
         | (cases h; exact St.obj _ _ _)
         | (cases h; exact St.write (by assumption))
         | (obtain ⟨a, ha, hv⟩ := map_some h; cases hv; first | exact St.refl _ | exact St.push _ _ | exact St.write ha)
    | mapEntry t m k =>
        simp only [acv, am5] at h
        repeat' (split at h)
        all_goals first
         | (cases h; done)
         | (cases h; exact St.refl _)
         | (cases h; exact St.push _ _)
         | (cases h; exact (St.drop _ _).trans (St.push _ _))
         | (cases h; exact St.obj _ _ _)
         | (cases h; exact St.write (by assumption))
         | (obtain ⟨a, ha, hv⟩ := map_some h; cases hv; first | exact St.refl _ | exact St.push _ _ | exact St.write ha)
    | entryStore t m s x =>
        simp only [acv, ai0] at h
        repeat' (split at h)
        all_goals first
         | (cases h; done)
         | (cases h; exact St.refl _)
         | (cases h; exact St.push _ _)
         | (cases h; exact (St.drop _ _).trans (St.push _ _))
         | (cases h; exact St.obj _ _ _)
         | (cases h; exact St.write (by assumption))
         | (obtain ⟨a, ha, hv⟩ := map_some h; cases hv; first | exact St.refl _ | exact St.push _ _ | exact St.write ha)
    | call c =>
      obtain ⟨callee, args, ats⟩ := c
      cases callee with
      | value f =>
        simp only [acv, atb, b0t] at h
        repeat' (split at h)
        all_goals first
          | (cases h; done)
          | exact ho _ _ _ _ _ h
      | invoke r m => cases h
      | builtin b =>
        cases b with
        | len =>
          simp only [acv, atb] at h
          split at h
          · rename_i r hr
            cases h
            simp only [oLen] at hr
            repeat' (split at hr)
            all_goals first
              | (cases hr; done)
              | (obtain ⟨a, ha, hv⟩ := map_some hr; cases hv; exact St.refl _)
          · simp only [bbd] at h
            repeat' (split at h)
            all_goals first
             | (cases h; done)
             | (cases h; exact St.refl _)
             | (cases h; exact St.push _ _)
             | (cases h; exact (St.drop _ _).trans (St.push _ _))
             | (cases h; exact St.obj _ _ _)
             | (cases h; exact St.write (by assumption))
             | (obtain ⟨a, ha, hv⟩ := map_some h; cases hv; first | exact St.refl _ | exact St.push _ _ | exact St.write ha)
        | delete =>
            simp only [acv, atb, ba5] at h
            repeat' (split at h)
            all_goals first
             | (cases h; done)
             | (cases h; exact St.refl _)
             | (cases h; exact St.push _ _)
             | (cases h; exact (St.drop _ _).trans (St.push _ _))
             | (cases h; exact St.obj _ _ _)
             | (cases h; exact St.write (by assumption))
             | (obtain ⟨a, ha, hv⟩ := map_some h; cases hv; first | exact St.refl _ | exact St.push _ _ | exact St.write ha)
        | clear =>
            simp only [acv, atb, bpr] at h
            repeat' (split at h)
            all_goals first
             | (cases h; done)
             | (cases h; exact St.refl _)
             | (cases h; exact St.push _ _)
             | (cases h; exact (St.drop _ _).trans (St.push _ _))
             | (cases h; exact St.obj _ _ _)
             | (cases h; exact St.write (by assumption))
             | (obtain ⟨a, ha, hv⟩ := map_some h; cases hv; first | exact St.refl _ | exact St.push _ _ | exact St.write ha)
        | cap =>
            simp only [acv, atb, oCap] at h
            repeat' (split at h)
            all_goals first
             | (cases h; done)
             | (cases h; exact St.refl _)
             | (cases h; exact St.push _ _)
             | (cases h; exact (St.drop _ _).trans (St.push _ _))
             | (cases h; exact St.obj _ _ _)
             | (cases h; exact St.write (by assumption))
             | (obtain ⟨a, ha, hv⟩ := map_some h; cases hv; first | exact St.refl _ | exact St.push _ _ | exact St.write ha)
        | append =>
            simp only [acv, atb, a0a, as6] at h
            repeat' (split at h)
            all_goals first
             | (cases h; done)
             | (cases h; exact St.refl _)
             | (cases h; exact St.push _ _)
             | (cases h; exact (St.drop _ _).trans (St.push _ _))
             | (cases h; exact St.obj _ _ _)
             | (cases h; exact St.write (by assumption))
             | (obtain ⟨a, ha, hv⟩ := map_some h; cases hv; first | exact St.refl _ | exact St.push _ _ | exact St.write ha)
        | copy =>
            simp only [acv, atb, b0x, bub] at h
            repeat' (split at h)
            all_goals first
             | (cases h; done)
             | (cases h; exact St.refl _)
             | (cases h; exact St.push _ _)
             | (cases h; exact (St.drop _ _).trans (St.push _ _))
             | (cases h; exact St.obj _ _ _)
             | (cases h; exact St.write (by assumption))
             | (obtain ⟨a, ha, hv⟩ := map_some h; cases hv; first | exact St.refl _ | exact St.push _ _ | exact St.write ha)
        | max =>
            simp only [acv, atb, oMax] at h
            repeat' (split at h)
            all_goals first
             | (cases h; done)
             | (cases h; exact St.refl _)
             | (cases h; exact St.push _ _)
             | (cases h; exact (St.drop _ _).trans (St.push _ _))
             | (cases h; exact St.obj _ _ _)
             | (cases h; exact St.write (by assumption))
             | (obtain ⟨a, ha, hv⟩ := map_some h; cases hv; first | exact St.refl _ | exact St.push _ _ | exact St.write ha)
        | min =>
            simp only [acv, atb, oMax] at h
            repeat' (split at h)
            all_goals first
             | (cases h; done)
             | (cases h; exact St.refl _)
             | (cases h; exact St.push _ _)
             | (cases h; exact (St.drop _ _).trans (St.push _ _))
             | (cases h; exact St.obj _ _ _)
             | (cases h; exact St.write (by assumption))
             | (obtain ⟨a, ha, hv⟩ := map_some h; cases hv; first | exact St.refl _ | exact St.push _ _ | exact St.write ha)
        | _ => cases h
    | _ => first | cases h | exact absurd rfl hp
theorem bpg {t : TypeId} {x : Operand} (h : acv P ora E H (.load t x) = some (v, H')) : ∃ b off, E x = some (.one (.ptr b off)) ∧ H' = H ∧ ∀ G : HP, G.t.get b = H.t.get b → acv P ora E G (.load t x) = some (v, G) := by
 simp only [acv, bbf] at h ⊢
 split at h
 ·rename_i b off ag m hx hs
  obtain ⟨a, ha, hv⟩ := map_some h
  cases hv
  refine ⟨b, off, hx, rfl, fun G hG => ?_⟩
  have : G.read b off (wid ag m) = H.read b off (wid ag m) := by unfold HP.read; rw [hG]
  rw [this, ha]
  rfl
 ·cases h
theorem bx6 {t : TypeId} {x y : Operand} (h : acv P ora E H (.store t x y) = some (v, H')) : ∃ b off, E x = some (.one (.ptr b off)) ∧ H'.n = H.n ∧ ∀ b', b' ≠ b → H'.t.get b' = H.t.get b' := by
 simp only [acv, a0b] at h
 split at h
 ·rename_i b off cs ag m hx hy hs
  split at h
  ·obtain ⟨G, hG, hv⟩ := map_some h
   cases hv
   refine ⟨b, off, hx, (HP.write_spec hG).1, fun b' hb => ?_⟩
   unfold HP.write at hG
   split at hG
   ·split at hG
    ·cases hG
     simp only [PT.get_put]
     rw [if_neg hb]
    ·cases hG
   ·cases hG
  ·cases h
 ·cases h
theorem bvt {t : TypeId} {x : Operand} (h : acv P ora E H (.load t x) = some (v, H')) (hx : ∀ a, E x = some a → VRel ρ a (ev x)) (hH : HRel ρ H w) :
  ∃ u, VRel ρ v u ∧ ∀ dst ty pos after guard, (execOp ev ⟨dst, .load t x, ty, pos, after, guard⟩).run P w = .ok (.value u) w := by
 simp only [acv, bbf] at h
 split at h
 ·rename_i b off ag n hx' hs
  obtain ⟨a, ha, hv⟩ := map_some h
  cases hv
  obtain ⟨cs, hcs, hm⟩ := aav ha
  obtain ⟨L, hL, hev⟩ := hx _ hx'
  obtain ⟨us, hl, hrel, hcell⟩ := HP.read_world hcs hH hL
  refine ⟨_, atr hm hrel, fun dst ty pos after guard => ad1 ?_⟩
  simp only [Instr.loadAt, hev, Instr.sureAddr, Sem.run_bind, Sem.run_pure, Result.andThen_ok]
  exact ahm hs hl hcell
 ·cases h
theorem asy (ho : ap5 ora) {op : Op} (h : afa P ora E H op = some (v, H')) : St H H' := by
 rcases a2b h with h | h
 ·exact b68 h
 ·rcases agm h with h | ⟨_, h⟩
  ·exact b2i ho h
  ·exact b66 h
theorem bni {op : Op} (h : a0m E op = true) : makes op = false := by
 unfold a0m at h
 cases op <;> first | rfl | (exfalso; simp [isPure] at h; done)
noncomputable def at7 (E : Operand → Option AV) (op : Op) : Bool :=
 match a0m E op with
 | true => true
 | false => match op with
  | .load _ x => match E x with
   | some a => isPv a
   | none => false
  | _ => false
theorem a8n {op : Op} (hp : a0m E op = true) (h : acv P ora E H op = none) (G : HP) : acv P ora E G op = none := by
 cases hh : acv P ora E G op with
 | none => rfl
 | some r =>
  obtain ⟨v', G'⟩ := r
  have := (a2e hp hh).2 H
  rw [h] at this
  cases this
theorem bph {t : TypeId} {x : Operand} {a : AV} (hx : E x = some a) (hp : isPv a = true) : acv P ora E H (.load t x) = none := by
 unfold isPv at hp
 split at hp
 ·simp only [acv, bbf, hx]
 ·cases hp
theorem bnh {op : Op} (h : at7 E op = true) : makes op = false := by
 unfold at7 at h
 split at h
 ·rename_i h1; exact bni h1
 ·split at h
  ·rfl
  ·cases h
theorem bnr {op : Op} (hp : at7 E op = true) (h : arv P ora E H op = some (v, H')) : H' = H ∧ ∀ G : HP, G.hy = H.hy → arv P ora E G op = some (v, G) := by
 unfold at7 at hp
 split at hp
 ·rename_i h1
  rcases agm h with h | ⟨h0, h⟩
  ·obtain ⟨h2, h3⟩ := a2e h1 h
   refine ⟨h2, fun G _ => ?_⟩
   unfold arv
   rw [h3 G]
  ·unfold a0m at h1
   have hpo : a0m E op = true := by unfold a0m; exact h1
   split at h1
   ·rename_i h4
    obtain ⟨h2, h3⟩ := bya h4 h
    refine ⟨h2, fun G hG => ?_⟩
    unfold arv
    rw [a8n hpo h0 G]
    exact h3 G hG
   ·split at h1
    ·rename_i t u x
     obtain ⟨h2, h3⟩ := bx9 h (by split at h1 <;> simp_all)
     refine ⟨h2, fun G hG => ?_⟩
     unfold arv
     rw [a8n hpo h0 G]
     exact h3 G hG
    ·cases h1
 ·split at hp
  ·rename_i t x
   split at hp
   ·rename_i a ha
    rcases agm h with h | ⟨h0, h⟩
    ·rw [bph ha hp] at h; cases h
    ·obtain ⟨a', ha', h2, h3⟩ := bl3 h
     rw [ha] at ha'
     cases ha'
     rcases h3 with ⟨_, h3⟩ | ⟨b, _, h4, _⟩
     ·refine ⟨h2, fun G hG => ?_⟩
      unfold arv
      rw [bph ha hp]
      exact h3 G hG
     ·rw [hp] at h4; cases h4
   ·cases hp
  ·cases hp
theorem aru {op : Op} (hp : at7 E op = true) (h : afa P ora E H op = some (v, H')) : H' = H ∧ ∀ G : HP, G.hy = H.hy → afa P ora E G op = some (v, G) := by
 have hm := bnh hp
 rw [apz hm] at h
 obtain ⟨h1, h2⟩ := bnr hp h
 exact ⟨h1, fun G hG => by rw [apz hm]; exact h2 G hG⟩
theorem bau {t : TypeId} {x : Operand} (hnp : at7 E (.load t x) = false) (h : afa P ora E H (.load t x) = some (v, H')) : ∃ a b, E x = some a ∧ ptrB a = some b ∧ H' = H ∧ ∀ G : HP, G.t.get b = H.t.get b → G.hy = H.hy → afa P ora E G (.load t x) = some (v, G) := by
 simp only [apz (show makes (.load t x) = false from rfl)] at h ⊢
 rcases agm h with h | ⟨h0, h⟩
 ·obtain ⟨b, off, h1, h2, h3⟩ := bpg h
  refine ⟨_, b, h1, rfl, h2, fun G hG _ => ?_⟩
  unfold arv
  rw [h3 G hG]
 ·obtain ⟨a, ha, h2, h3⟩ := bl3 h
  rcases h3 with ⟨hp, _⟩ | ⟨b, h4, h5, h3⟩
  ·exfalso
   have : at7 E (.load t x) = true := by
    unfold at7
    rw [show a0m E (.load t x) = false from rfl]
    simp only [ha, hp]
   rw [this] at hnp; cases hnp
  ·refine ⟨a, b, ha, h4, h2, fun G hG hy => ?_⟩
   have h6 : acv P ora E G (.load t x) = none := by
    cases hh : acv P ora E G (.load t x) with
    | none => rfl
    | some r =>
     obtain ⟨v', G'⟩ := r
     obtain ⟨b', off, g1, g2, g3⟩ := bpg hh
     rw [ha] at g1
     cases g1
     cases h4
     rw [g3 H hG.symm] at h0
     cases h0
   unfold arv
   rw [h6]
   exact h3 G hG hy
theorem bd7 {t : TypeId} {x y : Operand} (h : afa P ora E H (.store t x y) = some (v, H')) : ∃ a b, E x = some a ∧ ptrB a = some b ∧ H'.n = H.n ∧ ∀ b', b' ≠ b → H'.t.get b' = H.t.get b' := by
 rw [apz rfl] at h
 rcases agm h with h | ⟨h0, h⟩
 ·obtain ⟨b, off, h1, h2⟩ := bx6 h
  exact ⟨_, b, h1, rfl, h2⟩
 ·exact bse h
theorem b0h {t : TypeId} {x : Operand} (h : afa P ora E H (.load t x) = some (v, H')) (hx : ∀ a, E x = some a → VRel ρ a (ev x)) (hH : HRel ρ H w) (hj : J ρ H w) :
  ∃ u, VRel ρ v u ∧ ∀ dst ty pos after guard, (execOp ev ⟨dst, .load t x, ty, pos, after, guard⟩).run P w = .ok (.value u) w := by
 rw [apz rfl] at h
 rcases agm h with h | ⟨h0, h⟩
 ·exact bvt h hx hH
 ·exact bd8 h hx hH hj
end
end Go.Sx

namespace Go.Sx
variable [Sg]
abbrev RM := Option (List (AV × HP))
abbrev OraM := Tg → List AV → HP → RM
noncomputable section
def oneL {α : Type} (x : Option (List α)) : Option α :=
 match x with
 | some [y] => some y
 | _ => none
def OraM.one (o : OraM) : Ora := fun t args H =>
 match oneL (o t args H) with
 | some (v, H') => match Nat.beq H'.nv H.nv with
  | true => some (v, ⟨H'.t, H'.n, H'.lo, H.hy, H'.nv⟩)
  | false => none
 | none => none
def single {α : Type} (x : Option α) : Option (List α) :=
 match x with
 | some y => some [y]
 | none => none
end
theorem ai6 {α : Type} {x : Option α} {l : List α} (h : single x = some l) : ∃ y, x = some y ∧ l = [y] := by
 cases x with
 | none => cases h
 | some y => cases h; exact ⟨y, rfl, rfl⟩
theorem bwq {α : Type} {x : Option (List α)} {y : α} (h : oneL x = some y) : x = some [y] := by
 unfold oneL at h
 split at h
 ·cases h; rfl
 ·cases h
def bq0 (ρ : PM) (H : HP) (w : World) (outs : List (AV × HP)) : Value → World → Prop := fun u w' => ∃ o ∈ outs, Post ρ H w o.1 o.2 u w'
def aya (P : Program) (ora : OraM) : Prop :=
 ∀ (t : Tg) (args : List AV) (H : HP) (outs : List (AV × HP)), ora t args H = some outs → (∀ o ∈ outs, Sc H o.2) ∧
  ∀ (ρ : PM) (w : World) (us : Array Value) (s : Sem Next), b4b ρ us s t → All2 (VRel ρ) args us.toList → HRel ρ H w → Dom ρ H.n → J ρ H w → adh P (bq0 ρ H w outs) (s.run P w)
theorem aya.one {P : Program} {ora : OraM} (h : aya P ora) : ar0 P ora.one := by
 intro t args H v H' hr
 unfold OraM.one at hr
 split at hr
 rotate_left
 ·cases hr
 rename_i v1 H1 hr1
 split at hr
 rotate_left
 ·cases hr
 rename_i e2
 cases hr
 obtain ⟨h1, h2⟩ := h t args H _ (bwq hr1)
 obtain ⟨g1, g2, g3⟩ := h1 _ (List.mem_singleton.2 rfl)
 refine ⟨⟨g1, g2, rfl, Nat.eq_of_beq_eq_true e2⟩, fun ρ w us s hs hu hH hd hj => adh.mono (fun u w' ⟨o, ho, hp⟩ => ?_) (h2 ρ w us s hs hu hH hd hj)⟩
 rw [List.mem_singleton.1 ho] at hp
 obtain ⟨ρ', h3, h4⟩ := hp
 exact ⟨ρ', h3, ⟨h4.le, h4.grow, h4.dom, ⟨h4.rel.rel, h4.rel.inj, hH.hy⟩, h4.knc, h4.fr, h4.new, h4.size, h4.os, h4.tape, h4.output, h4.old, h4.jj, h4.ro⟩⟩
def OpSM (P : Program) (ρ : PM) (ev : Operand → Value) (H : HP) (w : World) (op : Op) (outs : List (AV × HP)) : Prop :=
 ∀ (dst : Option Tmp) (ty : TypeId) (pos : String) (after : Array Edge) (guard : Option (Nat × Bool)), adh P (bq0 ρ H w outs) ((execOp ev ⟨dst, op, ty, pos, after, guard⟩).run P w)
theorem OpS.many {P : Program} {ρ : PM} {ev : Operand → Value} {H H' : HP} {w : World} {op : Op} {v : AV} (h : OpS P ρ ev H w op v H') : OpSM P ρ ev H w op [(v, H')] := fun dst ty pos after guard =>
 adh.mono (fun _ _ hp => ⟨_, List.mem_singleton.2 rfl, hp⟩) (h dst ty pos after guard)
section
variable {P : Program} [Plain P] {ora : OraM} {E : Operand → Option AV} {H H' : HP} {w : World} {ρ : PM} {ev : Operand → Value} {v : AV} {outs : List (AV × HP)}
noncomputable def bjl (ora : OraM) (E : Operand → Option AV) (H : HP) (f : Operand) (args : Array Operand) : RM :=
 match E f, akr E args.toList with
 | some (.one (.lit (.func (.func g) a b))), some vs => if a.size = 0 ∧ b.size = 0 then ora (.f g) vs H else none
 | some (.one (.fn (.func g) caps)), some vs => ora (.f g) (vs ++ ptrs caps) H
 | some (.one (.yd b)), some vs => ora (.y b) vs H
 | _, _ => none
theorem bv8 (ho : aya P ora) {f : Operand} {args : Array Operand} {ats : Array TypeId} (h : bjl ora E H f args = some outs) (hx : ∀ z, (z = f ∨ z ∈ args.toList) → ∀ a, E z = some a → VRel ρ a (ev z)) (hH : HRel ρ H w) (hd : Dom ρ H.n) (hj : J ρ H w) :
  (∀ o ∈ outs, Sc H o.2) ∧ OpSM P ρ ev H w (.call ⟨.value f, args, ats⟩) outs := by
 unfold bjl at h
 split at h
 ·rename_i g a b vs hf hl
  split at h
  ·rename_i hab
   obtain ⟨hst, hg⟩ := ho _ _ _ _ h
   obtain ⟨hev, _⟩ := hx f (.inl rfl) _ hf
   have hus := aeg (ρ := ρ) (ev := ev) (xs := args.toList) (fun x hx' v hv => hx x (.inr hx') v hv) hl
   refine ⟨hst, fun dst ty pos after guard => ?_⟩
   have ha : a = #[] := Array.eq_empty_of_size_eq_zero hab.1
   have hb : b = #[] := Array.eq_empty_of_size_eq_zero hab.2
   subst ha
   subst hb
   have hrun : (execOp ev ⟨dst, .call ⟨.value f, args, ats⟩, ty, pos, after, guard⟩).run P w = (callFunc g (args.map ev)).run P w := by
    simp [execOp, resolve, hev, Deferred.ofValue, invoke]
   rw [hrun]
   exact hg ρ w _ _ rfl (by simpa using hus) hH hd hj
  ·cases h
 ·rename_i g caps vs hf hl
  obtain ⟨hst, hg⟩ := ho _ _ _ _ h
  obtain ⟨us, hev, hcaps⟩ := hx f (.inl rfl) _ hf
  have hus := aeg (ρ := ρ) (ev := ev) (xs := args.toList) (fun x hx' v hv => hx x (.inr hx') v hv) hl
  refine ⟨hst, fun dst ty pos after guard => ?_⟩
  have hrun : (execOp ev ⟨dst, .call ⟨.value f, args, ats⟩, ty, pos, after, guard⟩).run P w = (callFunc g (args.map ev ++ us)).run P w := by
   simp [execOp, resolve, hev, Deferred.ofValue, invoke]
  rw [hrun]
  exact hg ρ w _ _ rfl (by simpa using hus.append (ash hcaps)) hH hd hj
 ·rename_i b vs hf hl
  obtain ⟨hst, hg⟩ := ho _ _ _ _ h
  obtain ⟨L, hL, hev⟩ := hx f (.inl rfl) _ hf
  have hus := aeg (ρ := ρ) (ev := ev) (xs := args.toList) (fun x hx' v hv => hx x (.inr hx') v hv) hl
  refine ⟨hst, fun dst ty pos after guard => ?_⟩
  have hrun : (execOp ev ⟨dst, .call ⟨.value f, args, ats⟩, ty, pos, after, guard⟩).run P w = (Instr.yield L.B (args.map ev)).run P w := by
   simp [execOp, resolve, hev, Deferred.ofValue, invoke]
  rw [hrun]
  exact hg ρ w _ _ ⟨L, hL, rfl⟩ (by simpa using hus) hH hd hj
 ·cases h
theorem ayf {α : Type} (a : Array α) : a.isEmpty = a.toList.isEmpty := by
 obtain ⟨l⟩ := a
 cases l <;> simp
theorem bzo {es : List Ent} {ms : List MapEntry} {k : Nat} (h : All2 (aeb ρ) es ms) : (ms.all fun e => decide (e.born ≥ k)) = es.all fun e => decide (e.2.2 ≥ k) := by
 induction es generalizing ms with
 | nil => cases ms with | nil => rfl | cons _ _ => exact h.elim
 | cons e es ih =>
  cases ms with
  | nil => exact h.elim
  | cons m ms =>
   obtain ⟨⟨_, _, hb⟩, h2⟩ := h
   simp only [List.all_cons, hb, ih h2]
theorem bre {es : List Ent} {ms : List MapEntry} (h : All2 (aeb ρ) es ms) : ms.isEmpty = es.isEmpty := by
 have := h.length
 rw [Bool.eq_iff_iff, List.isEmpty_iff_length_eq_zero, List.isEmpty_iff_length_eq_zero, this]
theorem b0q {b m : Nat} {it : IterC} {es : List Ent} {clock : Nat} {arr : Array MapEntry} {L K : Loc} {x : Operand} {Z : Prop} {ty : TypeId} (hrel : All2 (aeb ρ) es arr.toList)
  (hgi : (getObj L.B).run P w = .ok (.mapIter (some K.B) it.since it.seen.toArray it.stepped) w) (hgm : (getObj K.B).run P w = .ok (.map arr clock) w)
  (hcond : (!it.seen.toArray.isEmpty && !arr.isEmpty && arr.all fun e => decide (e.born ≥ it.stepped)) = false) (hL0 : L.o = 0) (hv : ev x = .pointer (some ⟨L.B, 0 + 0, none⟩)) (hxv : E x = some (.one (.ptr b 0))) (hH : HRel ρ H w) (hd : Dom ρ H.n) (hL : ρ b = some L)
  (hit : H.t.get b = some (.lf [some (.iter it.m it.since it.seen it.stepped)])) (hms : it.m = some m) (hheap : w.heap[L.B]? = some (.mapIter (some K.B) it.since it.seen.toArray it.stepped)) (hK : ρ m = some K)
  (fin : ∀ (u : Value) (w' : World), (Instr.next (ev x) false ty).run P w = .ok u w' → bq0 ρ H w ((bq8 it.since it.seen es).map (bpo H b it clock)) u w' → Z) : Z := by
 generalize hC : ((if ((arr.filter fun e => !it.seen.toArray.contains e.born).filter fun e => decide (e.born < it.since)).isEmpty then #[none] else #[]) ++
   ((arr.filter fun e => !it.seen.toArray.contains e.born).filter (fun e => decide (e.born < it.since)) ++ (arr.filter fun e => !it.seen.toArray.contains e.born).filter fun e => decide (e.born ≥ it.since)).map some : Array (Option MapEntry)) = C
 have hsz : 0 < C.size := by
  rw [← hC]
  by_cases he : ((arr.filter fun e => !it.seen.toArray.contains e.born).filter fun e => decide (e.born < it.since)).isEmpty = true
  ·rw [if_pos he]; simp only [Array.size_append, List.size_toArray, List.length_cons, List.length_nil]; omega
  ·rw [if_neg he]
   have : 0 < ((arr.filter fun e => !it.seen.toArray.contains e.born).filter fun e => decide (e.born < it.since)).size := by
    rw [Array.isEmpty_iff_size_eq_zero] at he
    omega
   simp only [Array.size_append, Array.size_map]
   omega
 obtain ⟨k, w1, hk, hch, hw1⟩ : ∃ k w1, k < C.size ∧ (choose (.mapNext C.size)).run P w = .ok k w1 ∧ (w1 = w ∨ w1 = w.drew) := by
  rw [run_choose_drew]
  by_cases hf : (Question.mapNext C.size).forced = true
  ·rw [if_pos hf]; exact ⟨0, w, hsz, rfl, .inl rfl⟩
  ·rw [if_neg hf]; exact ⟨_, w.drew, Nat.mod_lt _ hsz, rfl, .inr rfl⟩
 have hs1 : Sim ρ H w ρ H w1 := by
  rcases hw1 with rfl | rfl
  ·exact Sim.refl hH hd
  ·exact Sim.same hH hd rfl rfl rfl rfl
 have hheap1 : w1.heap = w.heap := by rcases hw1 with rfl | rfl <;> rfl
 have hCk : C[k]? = some C[k] := Array.getElem?_eq_getElem hk
 obtain ⟨a, ha, hac⟩ := bt7 (since := it.since) (seen := it.seen) hrel k C[k] (by
  rw [← hCk, ← Array.getElem?_toList]
  congr 1
  rw [← hC]
  simp only [List.contains_toArray, Array.toList_append, Array.toList_map, Array.toList_filter]
  congr 1
  rw [ayf, Array.toList_filter, Array.toList_filter]
  split <;> rfl)
 have hrun : ∀ u w2, (match C[k]? with
   | some (some e) => do setObj L.B (.mapIter (some K.B) it.since (it.seen.toArray.push e.born) clock); pure (.tuple #[.bool true, e.key, e.val])
   | some none => pure (.tuple #[.bool false])
   | none => stuck "Next: no such candidate" : Sem Value).run P w1 = .ok u w2 → (Instr.next (ev x) false ty).run P w = .ok u w2 := by
  intro u w2 h
  rw [hv]
  simp only [Instr.next, Sem.run_bind, hgi, Result.andThen_ok, hgm, hcond, Bool.false_eq_true, if_false, Sem.run_pure, hC, hch]
  exact h
 rw [hCk] at hrun
 have hmem : bpo H b it clock a ∈ (bq8 it.since it.seen es).map (bpo H b it clock) := List.mem_map.2 ⟨a, List.mem_of_getElem? ha, rfl⟩
 cases hcc : C[k] with
 | none =>
  rw [hcc] at hrun hac
  cases a with
  | some e => exact hac.elim
  | none => exact fin _ w1 (hrun _ w1 rfl) ⟨_, hmem, ρ, ⟨_, rfl, ⟨rfl, rfl⟩, trivial⟩, hs1⟩
 | some e' =>
  rw [hcc] at hrun hac
  cases a with
  | none => exact hac.elim
  | some e =>
   obtain ⟨h1, h2, h3⟩ := hac
   have hset := ami (P := P) (w := w1) (r := L.B) (.mapIter (some K.B) it.since (it.seen.toArray.push e'.born) clock) (by rw [hheap1]; exact hheap) (fun _ _ _ h => by cases h)
   refine fin (.tuple #[.bool true, e'.key, e'.val]) (w1.putObj L.B (.mapIter (some K.B) it.since (it.seen.toArray.push e'.born) clock)) (hrun _ _ ?_) ⟨_, hmem, ρ, ⟨_, rfl, ⟨rfl, rfl⟩, h1, h2, trivial⟩, ?_⟩
   ·simp only [Sem.run_bind, hset, Result.andThen_ok, Sem.run_pure]
   ·refine hs1.trans hd (Sim.put1 (o := .mapIter (some K.B) it.since it.seen.toArray it.stepped) hs1.rel hd hL hit (by rw [hheap1]; exact hheap) (fun _ _ _ h => by cases h) ?_)
    have hlt : L.B < w1.heap.size := by rw [hheap1]; exact (Array.getElem?_eq_some_iff.1 hheap).1
    refine ⟨rfl, hL0, some K.B, ?_, ?_⟩
    ·rw [World.putObj_heap_same hlt, h3]
     simp
    ·rw [hms]
     exact ⟨K, hK, rfl⟩
theorem bwh {x : Operand} (h : bj0 E H x = some outs) (hx : ∀ a, E x = some a → VRel ρ a (ev x)) (hH : HRel ρ H w) (hd : Dom ρ H.n) : (∀ o ∈ outs, Sc H o.2) ∧ OpSM P ρ ev H w (.next x false) outs := by
 refine ⟨fun o ho => (bj2 h o ho).sc, fun dst ty pos after guard => ?_⟩
 unfold bj0 at h
 have fin : ∀ (u : Value) (w' : World), (Instr.next (ev x) false ty).run P w = .ok u w' → bq0 ρ H w outs u w' → adh P (bq0 ρ H w outs) ((execOp ev ⟨dst, .next x false, ty, pos, after, guard⟩).run P w) := fun u w' hrun hp => by
  have : (execOp ev ⟨dst, .next x false, ty, pos, after, guard⟩).run P w = .ok (.value u) w' := ad1 hrun
  rw [this]
  exact hp
 split at h
 ·rename_i b hxv
  obtain ⟨L, hL, hv⟩ := hx _ hxv
  split at h
  ·rename_i it hit
   have hit' := azl hit
   obtain ⟨_, hL0, mm, hheap, hm⟩ := hH.rel b 0 _ L (ang hit').1 hL
   have hgi := aio (P := P) hheap (fun _ _ _ h => by cases h)
   rw [hL0] at hv
   split at h
   ·rename_i hmn
    cases h
    rw [hmn] at hm
    simp only at hm
    subst hm
    refine fin (.tuple #[.bool false]) w ?_ ⟨_, List.mem_singleton.2 rfl, ρ, ⟨_, rfl, ⟨rfl, rfl⟩, trivial⟩, Sim.refl hH hd⟩
    simp [Instr.next, hv, hgi]
   ·rename_i m hms
    rw [hms] at hm
    obtain ⟨K, hK, rfl⟩ := hm
    split at h
    ·rename_i es clock hmap
     split at h
     ·rename_i hcond
      cases h
      obtain ⟨_, arr, hmheap, hrel⟩ := agd hH hK hmap
      have hgm := abr (P := P) hmheap
      refine b0q hrel hgi hgm ?_ hL0 hv hxv hH hd hL hit' hms hheap hK fin
      rw [← hcond, ← Array.all_toList, bzo hrel, ayf arr, bre hrel, ayf]
     ·cases h
    ·cases h
  ·cases h
 ·cases h
noncomputable section
def Bk.peek (k : Bk) (i : Nat) : Option Ct :=
 Bk.rec (motive := fun _ => Nat → Option Ct) (fun l i => match amu i l with
  | x :: _ => x
  | [] => none) (fun n c i => match Nat.ble (Nat.succ i) n with
  | true => some (.c c)
  | false => none) (fun n _ _ gl gr i => match Nat.ble (Nat.succ i) n with
  | true => gl i
  | false => gr (Nat.sub i n)) k i
def HP.hasAt (H : HP) (b i : Nat) : Bool :=
 match H.t.get b with
 | some k => match k.peek i with
  | some (.c _) => true
  | some .room => true
  | _ => false
 | none => false
def b0v (P : Program) [Plain P] (E : Operand → Option AV) (H : HP) (args : Array Operand) (ats : Array TypeId) : R :=
 match akr E args.toList, ats.toList with
 | some [.one (.su b off _ s)], t :: _ => match undT P t, Nat.ble 1 s with
  | some (.slice _), true => some (.one (.kp b off s), H)
  | _, _ => none
 | _, _ => none
def b0z (E : Operand → Option AV) (H : HP) (x y : Operand) : R :=
 match E x, E y with
 | some (.one (.lit (.int .i64 n))), some (.one (.kp b off s)) => if 0 < n then match H.hasAt b (off + n.toNat * s - 1) with
   | true => some (.one (.lit (.bool false)), H)
   | false => none
  else none
 | _, _ => none
def bbm (P : Program) [Plain P] (E : Operand → Option AV) (H : HP) (t : TypeId) (x hi : Operand) : R :=
 match undT P t, E x, E hi with
 | some (.slice e), some (.one (.su b off _ s)), some (.one (.lit (.int _ n))) => match szA P e with
  | some (_, sz) => if s = sz ∧ 0 < sz ∧ 0 < n then match H.hasAt b (off + n.toNat * s - 1) with
    | true => some (.one (.su b off n.toNat s), H)
    | false => none
   else none
  | none => none
 | _, _, _ => none
def aot (a b : R) : R :=
 match a with
 | some x => some x
 | none => b
end
theorem Bk.peek_eq : ∀ (k : Bk) (i : Nat), k.peek i = k.get i
 | .lf l, i => by
  show (match amu i l with | x :: _ => x | [] => none) = (l[i]?).join
  rw [ahj]
  split
  ·rename_i x r hd
   have : l[i]? = some x := by
    have := congrArg (·[0]?) hd
    simpa using this
   rw [this]
   rfl
  ·rename_i hd
   rw [List.getElem?_eq_none (by simpa using hd)]
   rfl
 | .fl n c, i => by
  show (match Nat.ble (Nat.succ i) n with | true => some (.c c) | false => none) = if i < n then some (Ct.c c) else none
  split
  ·rename_i hb; rw [if_pos (show i < n from Nat.le_of_ble_eq_true hb)]
  ·rename_i hb; rw [if_neg (by have := ag8 hb; omega)]
 | .nd n l r, i => by
  show (match Nat.ble (Nat.succ i) n with | true => l.peek i | false => r.peek (i - n)) = if i < n then l.get i else r.get (i - n)
  split
  ·rename_i hb; rw [if_pos (show i < n from Nat.le_of_ble_eq_true hb), Bk.peek_eq l i]
  ·rename_i hb; rw [if_neg (by have := ag8 hb; omega), Bk.peek_eq r]
theorem HP.hasAt_spec {b i : Nat} (h : H.hasAt b i = true) : ∃ c, H.cell b i = some c ∧ c.plc := by
 unfold HP.hasAt at h
 split at h
 ·rename_i k hk
  rw [Bk.peek_eq] at h
  have hg : H.cell b i = k.get i := by unfold HP.cell; rw [hk]; rfl
  split at h
  ·rename_i x hx; exact ⟨_, hg.trans hx, trivial⟩
  ·rename_i hx; exact ⟨_, hg.trans hx, trivial⟩
  ·cases h
 ·cases h
theorem a4z {b off s cap : Nat} {n : Nat} {L : Loc} (h : H.hasAt b (off + n * s - 1) = true) (hH : HRel ρ H w) (hL : ρ b = some L) (hs : 0 < s) (hn : 0 < n) (he : L.o + off + cap * s = L.C) : n ≤ cap := by
 obtain ⟨c, hc, hp⟩ := HP.hasAt_spec h
 obtain ⟨arr, t, fr, _, _, e3, e4⟩ := a0k (hH.rel b _ c L hc hL) hp
 have h1 : 0 < n * s := Nat.mul_pos hn hs
 have h2 : n * s ≤ cap * s := by omega
 exact Nat.le_of_mul_le_mul_right h2 hs
theorem b0w {args : Array Operand} {ats : Array TypeId} (h : b0v P E H args ats = some (v, H')) (hx : ∀ z ∈ args.toList, ∀ a, E z = some a → VRel ρ a (ev z)) (hH : HRel ρ H w) (hd : Dom ρ H.n) :
  St H H' ∧ OpS P ρ ev H w (.call ⟨.builtin .cap, args, ats⟩) v H' := by
 unfold b0v at h
 simp only [aay] at h
 split at h
 ·rename_i b off len s t rest hl hat
  obtain ⟨y, hy, hx'⟩ := ale hl
  have hev := hx y (by rw [hy]; simp) _ hx'
  have hargs : args = #[y] := by rw [← Array.toList_inj]; simpa using hy
  have hats : ats[0]? = some t := by rw [← Array.getElem?_toList, hat]; rfl
  subst hargs
  split at h
  ·rename_i e hu hs
   cases h
   obtain ⟨L, cap, hL, he, h1, h2, h3⟩ := hev
   refine ⟨St.refl H, OpS.val hH hd (u := .int .i64 cap) ⟨L, cap, hL, rfl, h2, Nat.le_of_ble_eq_true hs, h3⟩ fun dst ty pos after guard => ?_⟩
   simp [execOp, resolve, invoke, builtin, Builtin.cap_, hats, run_underlying hu, he, goInt]
  ·cases h
 ·cases h
theorem b03 {t ty0 : TypeId} {x y : Operand} (h : b0z E H x y = some (v, H')) (hx : ∀ z, z = x ∨ z = y → ∀ a, E z = some a → VRel ρ a (ev z)) (hH : HRel ρ H w) (hd : Dom ρ H.n) :
  St H H' ∧ OpS P ρ ev H w (.binOp .gtr t x y ty0) v H' := by
 unfold b0z at h
 split at h
 ·rename_i n b off s hex hey
  obtain ⟨he1, hl1⟩ := hx x (.inl rfl) _ hex
  obtain ⟨L, cap, hL, he2, h2, hs, h3⟩ := hx y (.inr rfl) _ hey
  split at h
  ·rename_i hn
   split at h
   ·rename_i hh
    cases h
    obtain ⟨n', rfl⟩ := Int.eq_ofNat_of_zero_le (show (0 : Int) ≤ n by omega)
    have hle := a4z (n := n') (by simpa using hh) hH hL hs (by omega) h3
    have hcmp : decide ((n' : Int) > (cap : Int)) = false := by simp; omega
    refine ⟨St.refl H, OpS.val hH hd (u := .bool false) ⟨rfl, rfl⟩ fun dst ty pos after guard => ad1 ?_⟩
    rw [he1, he2, Sem.run_bind, eqGuard_at_int]
    simp only [Sem.run_pure, Result.andThen_ok]
    simp [binOp, Op.intCmp, hcmp]
    omega
   ·cases h
  ·cases h
 ·cases h
theorem bru {t : TypeId} {x hi : Operand} (h : bbm P E H t x hi = some (v, H')) (hx : ∀ z, z = x ∨ z = hi → ∀ a, E z = some a → VRel ρ a (ev z)) (hH : HRel ρ H w) (hd : Dom ρ H.n) :
  St H H' ∧ OpS P ρ ev H w (.slice t x none (some hi) none) v H' := by
 unfold bbm at h
 simp only [aay] at h
 split at h
 ·rename_i e b off len s k n hu hex hey
  obtain ⟨L, cap, hL, he1, h1, h2, h3⟩ := hx x (.inl rfl) _ hex
  obtain ⟨he2, hl2⟩ := hx hi (.inr rfl) _ hey
  split at h
  ·rename_i ag sz hs
   split at h
   ·rename_i hc
    obtain ⟨rfl, hs0, hn⟩ := hc
    split at h
    ·rename_i hh
     cases h
     obtain ⟨n', rfl⟩ := Int.eq_ofNat_of_zero_le (show (0 : Int) ≤ n by omega)
     have hle := a4z (n := n') (by simpa using hh) hH hL hs0 (by omega) h3
     have hb := ad4 (P := P) (w := w) (isS := true) (len := len) (cap := cap) (lo := none) (hi := some n') (mx := none) (ul := none) (uh := some (.int k n')) (um := none) trivial ⟨k, rfl⟩ trivial (.inl rfl) (by simp) (.inl (by simpa using hle)) (by simp)
     simp only [Option.getD_none, Option.getD_some] at hb
     refine ⟨St.refl H, OpS.val hH hd (u := .slice (some ⟨L.B, L.o + off, none⟩) n' cap) ⟨L, cap, hL, rfl, hle, h2, h3⟩ fun dst ty pos after guard => ad1 ?_⟩
     simp only [Instr.sliceAt, Sem.run_bind, run_underlying hu, Result.andThen_ok, Option.map_none, Option.map_some, he1, he2]
     simp only [Instr.slice, Sem.run_bind, run_underlying hu, Result.andThen_ok, hb, run_sizeOf hs, Sem.run_pure, Nat.sub_zero, Nat.zero_mul]
     congr 2
     split
     ·rfl
     ·simp [abu]
    ·cases h
   ·cases h
  ·cases h
 ·cases h
def cay : BinOp → Bool
 | .eql => true
 | .neq => true
 | .lss => true
 | .leq => true
 | .gtr => true
 | .geq => true
 | _ => false
def b0b : AV → Option IntKind
 | .one (.lit (.int k _)) => some k
 | .one (.un k) => some k
 | _ => none
noncomputable section
def brn (E : Operand → Option AV) (H : HP) (op : BinOp) (x y : Operand) : RM :=
 match cay op, (E x).bind b0b, (E y).bind b0b with
 | true, some k, some k' => if k = k' then some [(.one (.lit (.bool false)), H), (.one (.lit (.bool true)), H)] else none
 | _, _, _ => none
def b04 (P : Program) [Plain P] (E : Operand → Option AV) (H : HP) (args : Array Operand) (ats : Array TypeId) : R :=
 match akr E args.toList, ats.toList with
 | some [.one .us], t :: _ => match undT P t with
  | some (.slice _) => some (.one (.un .i64), H)
  | _ => none
 | _, _ => none
def a0e (a b : RM) : RM :=
 match a with
 | some x => some x
 | none => b
end
theorem bh7 {x : AV} {u : Value} {k : IntKind} (h : b0b x = some k) (hx : VRel ρ x u) : ∃ n, u = .int k n := by
 unfold b0b at h
 split at h
 ·cases h; exact ⟨_, hx.1⟩
 ·cases h; obtain ⟨n, hn, _⟩ := hx; exact ⟨n, hn⟩
 ·cases h
theorem bps {op : BinOp} {t ty0 : TypeId} {x y : Operand} (h : brn E H op x y = some outs) (hx : ∀ z, z = x ∨ z = y → ∀ a, E z = some a → VRel ρ a (ev z)) (hH : HRel ρ H w) (hd : Dom ρ H.n) :
  (∀ o ∈ outs, Sc H o.2) ∧ OpSM P ρ ev H w (.binOp op t x y ty0) outs := by
 unfold brn at h
 split at h
 ·rename_i k k' hop hkx hky
  obtain ⟨a, hex, hka⟩ := aav hkx
  obtain ⟨b, hey, hkb⟩ := aav hky
  split at h
  ·rename_i hkk
   subst hkk
   cases h
   obtain ⟨n, hn⟩ := bh7 hka (hx x (.inl rfl) _ hex)
   obtain ⟨m, hm⟩ := bh7 hkb (hx y (.inr rfl) _ hey)
   refine ⟨fun o ho => ?_, fun dst ty pos after guard => ?_⟩
   ·rcases List.mem_cons.1 ho with rfl | ho
    ·exact Sc.refl _
    ·rw [List.mem_singleton.1 ho]; exact Sc.refl _
   ·have hrun : ∃ r : Bool, (do eqGuard op t x y (ev x) (ev y); binOp op t (ev x) (ev y) : Sem Value).run P w = .ok (.bool r) w := by
     rw [hn, hm, Sem.run_bind, eqGuard_at_int]
     simp only [Sem.run_pure, Result.andThen_ok]
     cases op <;> first | (cases hop; done) | exact ⟨_, by simp [binOp, Op.intCmp]; rfl⟩
    obtain ⟨r, hr⟩ := hrun
    have : (execOp ev ⟨dst, .binOp op t x y ty0, ty, pos, after, guard⟩).run P w = .ok (.value (.bool r)) w := ad1 hr
    rw [this]
    cases r with
    | false => exact ⟨_, List.mem_cons_self .., ρ, ⟨rfl, rfl⟩, Sim.refl hH hd⟩
    | true => exact ⟨_, List.mem_cons_of_mem _ (List.mem_singleton.2 rfl), ρ, ⟨rfl, rfl⟩, Sim.refl hH hd⟩
  ·cases h
 ·cases h
theorem b05 {args : Array Operand} {ats : Array TypeId} (h : b04 P E H args ats = some (v, H')) (hx : ∀ z ∈ args.toList, ∀ a, E z = some a → VRel ρ a (ev z)) (hH : HRel ρ H w) (hd : Dom ρ H.n) :
  St H H' ∧ OpS P ρ ev H w (.call ⟨.builtin .len, args, ats⟩) v H' := by
 unfold b04 at h
 simp only [aay] at h
 split at h
 ·rename_i t rest hl hat
  obtain ⟨y, hy, hx'⟩ := ale hl
  have hev := hx y (by rw [hy]; simp) _ hx'
  have hargs : args = #[y] := by rw [← Array.toList_inj]; simpa using hy
  have hats : ats[0]? = some t := by rw [← Array.getElem?_toList, hat]; rfl
  subst hargs
  split at h
  ·rename_i e hu
   cases h
   obtain ⟨a, n, c, he, h1⟩ := hev
   refine ⟨St.refl H, OpS.val hH hd (u := .int .i64 n) ⟨n, rfl, avt h1⟩ fun dst ty pos after guard => ?_⟩
   simp [execOp, resolve, invoke, builtin, Builtin.len_, hats, run_underlying hu, he, goInt]
  ·cases h
 ·cases h
noncomputable def stepM (P : Program) [Plain P] (ora : OraM) (E : Operand → Option AV) (H : HP) (op : Op) : RM :=
 match op with
 | .call c => match c.callee with
  | .value f => bjl ora E H f c.args
  | .builtin .cap => single (aot (afa P ora.one E H op) (b0v P E H c.args c.argTypes))
  | .builtin .len => single (aot (afa P ora.one E H op) (b04 P E H c.args c.argTypes))
  | _ => single (afa P ora.one E H op)
 | .next x false => bj0 E H x
 | .binOp .gtr _ x y _ => a0e (single (aot (afa P ora.one E H op) (b0z E H x y))) (brn E H .gtr x y)
 | .binOp o _ x y _ => a0e (single (afa P ora.one E H op)) (brn E H o x y)
 | .slice t x none (some hi) none => single (aot (afa P ora.one E H op) (bbm P E H t x hi))
 | op => single (afa P ora.one E H op)
theorem al3 {a b : RM} {x : List (AV × HP)} (h : a0e a b = some x) : a = some x ∨ b = some x := by
 unfold a0e at h
 split at h
 ·exact .inl h
 ·exact .inr h
theorem av1 {a b : R} {x : AV × HP} (h : aot a b = some x) : a = some x ∨ b = some x := by
 unfold aot at h
 split at h
 ·exact .inl h
 ·exact .inr h
theorem b2g (ho : aya P ora) {op : Op} (h : stepM P ora E H op = some outs) (hx : ∀ x ∈ op.operands, ∀ a, E x = some a → VRel ρ a (ev x)) (hH : HRel ρ H w) (hd : Dom ρ H.n) (hj : J ρ H w) :
  (∀ o ∈ outs, Sc H o.2) ∧ OpSM P ρ ev H w op outs := by
 have two : ∀ (b : R), single (aot (afa P ora.one E H op) b) = some outs → (∀ v H', b = some (v, H') → St H H' ∧ OpS P ρ ev H w op v H') → (∀ o ∈ outs, Sc H o.2) ∧ OpSM P ρ ev H w op outs := by
  intro b h hb
  obtain ⟨⟨v, H'⟩, h1, rfl⟩ := ai6 h
  have key : St H H' ∧ OpS P ρ ev H w op v H' := by
   rcases av1 h1 with h1 | h1
   ·exact ap0 ho.one h1 hx hH hd hj
   ·exact hb v H' h1
  exact ⟨fun o ho => by rw [List.mem_singleton.1 ho]; exact key.1.sc, key.2.many⟩
 have one : single (afa P ora.one E H op) = some outs → (∀ o ∈ outs, Sc H o.2) ∧ OpSM P ρ ev H w op outs := by
  intro h
  obtain ⟨⟨v, H'⟩, h1, rfl⟩ := ai6 h
  obtain ⟨k1, k2⟩ := ap0 ho.one h1 hx hH hd hj
  exact ⟨fun o ho => by rw [List.mem_singleton.1 ho]; exact k1.sc, k2.many⟩
 unfold stepM at h
 split at h
 ·rename_i c
  obtain ⟨callee, args, ats⟩ := c
  split at h
  ·rename_i f hc
   simp only at hc
   subst hc
   exact bv8 ho h (fun z hz => hx z (by simp only [Op.operands, Call.operands, Array.mem_append]; rcases hz with rfl | hz <;> simp_all)) hH hd hj
  ·rename_i hc
   simp only at hc
   subst hc
   exact two _ h fun v H' hb => b0w hb (fun z hz => hx z (by simp only [Op.operands, Call.operands, Array.mem_append]; right; simpa using hz)) hH hd
  ·rename_i hc
   simp only at hc
   subst hc
   exact two _ h fun v H' hb => b05 hb (fun z hz => hx z (by simp only [Op.operands, Call.operands, Array.mem_append]; right; simpa using hz)) hH hd
  ·exact one h
 ·exact bwh h (hx _ (by simp [Op.operands])) hH hd
 ·rcases al3 h with h | h
  ·exact two _ h fun v H' hb => b03 hb (fun z hz => hx z (by rcases hz with rfl | rfl <;> simp [Op.operands])) hH hd
  ·exact bps h (fun z hz => hx z (by rcases hz with rfl | rfl <;> simp [Op.operands])) hH hd
 ·rcases al3 h with h | h
  ·exact one h
  ·exact bps h (fun z hz => hx z (by rcases hz with rfl | rfl <;> simp [Op.operands])) hH hd
 ·exact two _ h fun v H' hb => bru hb (fun z hz => hx z (by rcases hz with rfl | rfl <;> simp [Op.operands])) hH hd
 ·exact one h
theorem a4a {E : Operand → Option AV} {op : Op} (h : stepM P ora E H op = some outs) (c : Call) : op ≠ .defer c := by
 rintro rfl
 obtain ⟨x, h1, _⟩ := ai6 (show single (afa P ora.one E H (.defer c)) = some outs from h)
 exact absurd rfl (amj h1 c)
end
section
variable {P : Program} [Plain P] {ora : OraM} {n m : Nat} {r : Option Nat} {ρ : PM} {F F' : Fm} {H H' : HP} {a : Act} {w : World} {v : AV} {outs : List (AV × HP)}
theorem b1c (ho : aya P ora) {o : Oper} {K : Act → World → Prop} {Q : Exit → Act → World → Prop} (h : stepM P ora (evF F) H o.op = some outs) (hp : ∀ x ∈ outs, ∃ F', putF n F o.dst x.1 = some F') (s : SRel n ρ F H a w)
  (hk : ∀ x ∈ outs, ∀ F', putF n F o.dst x.1 = some F' → ∀ ρ' a' w', SRel n ρ' F' x.2 a' w' → a'.defers = a.defers → Sim ρ H w ρ' x.2 w' → K a' w') : o.wpIn (WF r) m P a w K Q := by
 obtain ⟨hst, hop⟩ := b2g (w := w) (ev := a.eval) (ρ := ρ) ho h (fun x _ v hv => ara s.fr hv) s.hp s.dom s.j
 refine ⟨fun f _ => trivial, ?_⟩
 rw [Oper.semAt_eq _ _ _ (a4a h)]
 obtain ⟨dst, op, ty, pos, after, guard⟩ := o
 refine akt (hop dst ty pos after guard) fun u w' ⟨x, hx, ρ', hv, hs⟩ => ?_
 obtain ⟨F', hF⟩ := hp x hx
 exact hk x hx F' hF ρ' _ w' ⟨axy (s.fr.mono hs.le) hv hF, hs.rel, hs.dom, s.j.step hs⟩ (put_defers _ _ _) hs
noncomputable section
def cau (o : BinOp) (P : Program) (I : Plain P) (ora : OraM) (E : Operand → Option AV) (H : HP) (t : TypeId) (x y : Operand) (u : TypeId) : RM :=
 match o with
 | .gtr => stepM P ora E H (.binOp .gtr t x y u)
 | o => single (oBin P E H o t x y)
def b76 (c : Call) (P : Program) (I : Plain P) (ora : OraM) (E : Operand → Option AV) (H : HP) : RM :=
 match c.callee with
 | .value f => bjl ora E H f c.args
 | .builtin b => stepM P ora E H (.call ⟨.builtin b, c.args, c.argTypes⟩)
 | .invoke r m => single none
def bx2 (op : Op) : (P : Program) → Plain P → OraM → (Operand → Option AV) → HP → RM :=
 Op.rec (motive := fun _ => (P : Program) → Plain P → OraM → (Operand → Option AV) → HP → RM)
  (fun x P I ora E H => single (bnf E H x))
  (fun x P I ora E H => single (bnf E H x))
  (fun c a b P I ora E H => single (brs E H c a b))
  (fun t P I ora E H => single (az8 P H t))
  (fun t x P I ora E H => single (oBox E H x))
  (fun t ps P I ora E H => single (bpq P E H t ps))
  (fun t n ps P I ora E H => single (ali P E H t n ps))
  (fun t m k x P I ora E H => single (alm P E H t m k x))
  (fun t x P I ora E H => single (bbf P E H t x))
  (fun t x y P I ora E H => single (a0b P E H t x y))
  (fun g P I ora E H => single none)
  (fun g P I ora E H => single none)
  (fun x P I ora E H => single (oNil E H x))
  (fun o t x y u P I ora E H => cau o P I ora E H t x y u)
  (fun o t x P I ora E H => single (oUn E H o x))
  (fun t u x P I ora E H => single (anj P E H t u x))
  (fun t x P I ora E H => single (a5v P E H t x))
  (fun t x P I ora E H => single none)
  (fun f xs cs P I ora E H => single (am4 E H f xs cs))
  (fun t r P I ora E H => single (asg E H r))
  (fun t x P I ora E H => single none)
  (fun t x y P I ora E H => single (ak3 P E H t x y))
  (fun t x l h m P I ora E H => stepM P ora E H (.slice t x l h m))
  (fun t x f P I ora E H => single (aky P E H t x f))
  (fun t x f P I ora E H => single (a5z P E H t x f))
  (fun t x i P I ora E H => single (akz P E H t x i))
  (fun t x i P I ora E H => single (a6b P E H t x i))
  (fun t x i ok P I ora E H => single (atv P E H t x i ok))
  (fun t m k x P I ora E H => single (alm P E H t m k x))
  (fun t m k P I ora E H => single (am5 P E H t m k))
  (fun t m s x P I ora E H => single (ai0 E H m s x))
  (fun t x P I ora E H => single (a6e P E H t x))
  (fun x s P I ora E H => stepM P ora E H (.next x s))
  (fun x P I ora E H => single (a5x E H x))
  (fun x t u k P I ora E H => single none)
  (fun x i P I ora E H => single (apw E H x i))
  (fun c P I ora E H => b76 c P I ora E H)
  (fun c P I ora E H => single none)
  (fun c P I ora E H => single none)
  (fun x P I ora E H => single none)
  (fun c x P I ora E H => single none)
  (fun t c k P I ora E H => single none)
  (fun cs b P I ora E H => single none) op
def bxz (op : Op) (P : Program) (I : Plain P) (ora : OraM) (E : Operand → Option AV) (H : HP) : RM :=
 match @symP P I E H op with
 | some r => some [r]
 | none => match bx2 op P I ora E H with
  | some r => some r
  | none => stepM P ora E H op
end
theorem a18 {op : Op} {E : Operand → Option AV} {r : R} (hr : r = acv P ora.one E H op) (hp : symP P E H op = none) (h : single r = some outs) : single (afa P ora.one E H op) = some outs := by
 obtain ⟨x, h1, rfl⟩ := ai6 h
 unfold afa arv
 rw [hp, ← hr, h1]
 rfl
theorem bsf {op : Op} {E : Operand → Option AV} {r : AV × HP} (h : symP P E H op = some r) : stepM P ora E H op = some [r] := by
 have hA : afa P ora.one E H op = some r := by unfold afa; rw [h]
 have hs : single (afa P ora.one E H op) = some [r] := by rw [hA]; rfl
 unfold symP at h
 split at h
 ·cases h
 ·split at h <;> first | exact hs | cases h
theorem bly {op : Op} {E : Operand → Option AV} (hp : symP P E H op = none) (h : bx2 op P inferInstance ora E H = some outs) : stepM P ora E H op = some outs := by
 cases op with
 | binOp o t x y u =>
  cases o
  case gtr => exact h
  all_goals
   have h1 := a18 (ora := ora) (op := .binOp _ t x y u) rfl hp h
   show a0e _ _ = _
   rw [h1]
   rfl
 | call c =>
  obtain ⟨callee, args, ats⟩ := c
  cases callee with
  | value f => exact h
  | builtin b => exact h
  | invoke r m => cases h
 | slice t x l hh m => exact h
 | next x s => exact h
 | _ => first | exact a18 (ora := ora) rfl hp h | cases h
theorem a2d {op : Op} {E : Operand → Option AV} (h : bxz op P inferInstance ora E H = some outs) : stepM P ora E H op = some outs := by
 unfold bxz at h
 split at h
 ·rename_i r hr
  cases h
  exact bsf hr
 ·rename_i hp
  split at h
  ·rename_i r hr
   cases h
   exact bly hp hr
  ·exact h
theorem bqf (ho : aya P ora) {E : Operand → Option AV} {op : Op} (h : stepM P ora E H op = some outs) : ∀ o ∈ outs, Sc H o.2 := by
 have two : ∀ (b : R), single (aot (afa P ora.one E H op) b) = some outs → (∀ v H', b = some (v, H') → H' = H) → ∀ o ∈ outs, Sc H o.2 := by
  intro b h hb
  obtain ⟨⟨v, H'⟩, h1, rfl⟩ := ai6 h
  intro o hm
  rw [List.mem_singleton.1 hm]
  rcases av1 h1 with h1 | h1
  ·exact (asy ho.one.st h1).sc
  ·rw [hb v H' h1]; exact Sc.refl _
 have one : single (afa P ora.one E H op) = some outs → ∀ o ∈ outs, Sc H o.2 := by
  intro h
  obtain ⟨⟨v, H'⟩, h1, rfl⟩ := ai6 h
  exact fun o hm => by rw [List.mem_singleton.1 hm]; exact (asy ho.one.st h1).sc
 have cmp : ∀ {o : BinOp} {x y : Operand}, brn E H o x y = some outs → ∀ o ∈ outs, Sc H o.2 := by
  intro o x y h
  unfold brn at h
  repeat' (split at h)
  all_goals first
   | (cases h; done)
   | skip
  cases h
  intro p hp
  rcases List.mem_cons.1 hp with rfl | hp
  ·exact Sc.refl _
  ·rw [List.mem_singleton.1 hp]; exact Sc.refl _
 unfold stepM at h
 split at h
 ·rename_i c
  split at h
  ·unfold bjl at h
   repeat' (split at h)
   all_goals first
    | (cases h; done)
    | exact (ho _ _ _ _ h).1
  ·refine two _ h fun v H' hb => ?_
   unfold b0v at hb
   repeat' (split at hb)
   all_goals first
    | (cases hb; done)
    | (cases hb; rfl)
  ·refine two _ h fun v H' hb => ?_
   unfold b04 at hb
   repeat' (split at hb)
   all_goals first
    | (cases hb; done)
    | (cases hb; rfl)
  ·exact one h
 ·exact fun o ho => (bj2 h o ho).sc
 ·rcases al3 h with h | h
  ·refine two _ h fun v H' hb => ?_
   unfold b0z at hb
   repeat' (split at hb)
   all_goals first
    | (cases hb; done)
    | (cases hb; rfl)
  ·exact cmp h
 ·rcases al3 h with h | h
  ·exact one h
  ·exact cmp h
 ·refine two _ h fun v H' hb => ?_
  unfold bbm at hb
  repeat' (split at hb)
  all_goals first
   | (cases hb; done)
   | (cases hb; rfl)
 ·exact one h
end
end Go.Sx
