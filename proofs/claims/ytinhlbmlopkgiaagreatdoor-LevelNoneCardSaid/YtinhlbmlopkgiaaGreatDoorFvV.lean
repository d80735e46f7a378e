/-
  A second abstract evaluator of the model's code: regions that draw their order: the run in the text's order, and what it says. Conditions: none; nothing here speaks of one program.
-/
import Derived.Test.YtinhlbmlopkgiaaGreatDoorFvU
set_option linter.unusedSectionVars false
set_option linter.unusedVariables false
namespace Go.Fv

/-- What is said of the heaps alone, of calls. -/
def OraSt (ora : Ora) : Prop := ∀ (f : Tg) (args : List AV) (H : HP) (v : AV) (H' : HP), ora f args H = some (v, H') → St H H'
theorem OraOK.st {P : Program} {ora : Ora} (h : OraOK P ora) : OraSt ora := fun f args H v H' hr => (h f args H v H' hr).1

section
variable {P : Program} [Plain P] {ora : Ora} {E : Operand → Option AV} {H H' : HP} {w : World} {ρ : PM} {ev : Operand → Value} {v : AV}

theorem stepA_st (ho : OraSt ora) {op : Op} (h : stepA P ora E H op = some (v, H')) : St H H' := by
  by_cases hp : isPure op = true
  · rw [(stepA_pure hp h).1]; exact St.refl H
  · cases op with
    | alloc t =>
        simp only [stepA, oAlloc] at h
        repeat' (split at h)
        all_goals first
         | (cases h; done)
         | (cases h; exact St.refl _)
         | (cases h; exact St.push _ _)
         | (cases h; exact (St.drop _ _).trans (St.push _ _))
         | (cases h; exact St.obj _ _ _)
         | (cases h; exact St.write (by assumption))
         | (obtain ⟨a, ha, hv⟩ := map_some h; cases hv; first | exact St.refl _ | exact St.push _ _ | exact St.write ha)
    | box t x =>
        simp only [stepA, oBox] at h
        repeat' (split at h)
        all_goals first
         | (cases h; done)
         | (cases h; exact St.refl _)
         | (cases h; exact St.push _ _)
         | (cases h; exact (St.drop _ _).trans (St.push _ _))
         | (cases h; exact St.obj _ _ _)
         | (cases h; exact St.write (by assumption))
         | (obtain ⟨a, ha, hv⟩ := map_some h; cases hv; first | exact St.refl _ | exact St.push _ _ | exact St.write ha)
    | buildSlice t m ps =>
        simp only [stepA, oBuildSlice] at h
        repeat' (split at h)
        all_goals first
         | (cases h; done)
         | (cases h; exact St.refl _)
         | (cases h; exact St.push _ _)
         | (cases h; exact (St.drop _ _).trans (St.push _ _))
         | (cases h; exact St.obj _ _ _)
         | (cases h; exact St.write (by assumption))
         | (obtain ⟨a, ha, hv⟩ := map_some h; cases hv; first | exact St.refl _ | exact St.push _ _ | exact St.write ha)
    | load t x =>
        simp only [stepA, oLoad] at h
        repeat' (split at h)
        all_goals first
         | (cases h; done)
         | (cases h; exact St.refl _)
         | (cases h; exact St.push _ _)
         | (cases h; exact (St.drop _ _).trans (St.push _ _))
         | (cases h; exact St.obj _ _ _)
         | (cases h; exact St.write (by assumption))
         | (obtain ⟨a, ha, hv⟩ := map_some h; cases hv; first | exact St.refl _ | exact St.push _ _ | exact St.write ha)
    | store t x y =>
        simp only [stepA, oStore] at h
        repeat' (split at h)
        all_goals first
         | (cases h; done)
         | (cases h; exact St.refl _)
         | (cases h; exact St.push _ _)
         | (cases h; exact (St.drop _ _).trans (St.push _ _))
         | (cases h; exact St.obj _ _ _)
         | (cases h; exact St.write (by assumption))
         | (obtain ⟨a, ha, hv⟩ := map_some h; cases hv; first | exact St.refl _ | exact St.push _ _ | exact St.write ha)
    | makeSlice t x y =>
        simp only [stepA, oMakeSlice] at h
        repeat' (split at h)
        all_goals first
         | (cases h; done)
         | (cases h; exact St.refl _)
         | (cases h; exact St.push _ _)
         | (cases h; exact (St.drop _ _).trans (St.push _ _))
         | (cases h; exact St.obj _ _ _)
         | (cases h; exact St.write (by assumption))
         | (obtain ⟨a, ha, hv⟩ := map_some h; cases hv; first | exact St.refl _ | exact St.push _ _ | exact St.write ha)
    | convert t u x =>
        simp only [stepA, oConvert] at h
        repeat' (split at h)
        all_goals first
         | (cases h; done)
         | (cases h; exact St.refl _)
         | (cases h; exact St.push _ _)
         | (cases h; exact (St.drop _ _).trans (St.push _ _))
         | (cases h; exact St.obj _ _ _)
         | (cases h; exact St.write (by assumption))
         | (obtain ⟨a, ha, hv⟩ := map_some h; cases hv; first | exact St.refl _ | exact St.push _ _ | exact St.write ha)
    | makeMap t r =>
        simp only [stepA, oMakeMap] at h
        repeat' (split at h)
        all_goals first
         | (cases h; done)
         | (cases h; exact St.refl _)
         | (cases h; exact St.push _ _)
         | (cases h; exact (St.drop _ _).trans (St.push _ _))
         | (cases h; exact St.obj _ _ _)
         | (cases h; exact St.write (by assumption))
         | (obtain ⟨a, ha, hv⟩ := map_some h; cases hv; first | exact St.refl _ | exact St.push _ _ | exact St.write ha)
    | lookup t x i ok =>
        simp only [stepA, oLookup] at h
        repeat' (split at h)
        all_goals first
         | (cases h; done)
         | (cases h; exact St.refl _)
         | (cases h; exact St.push _ _)
         | (cases h; exact (St.drop _ _).trans (St.push _ _))
         | (cases h; exact St.obj _ _ _)
         | (cases h; exact St.write (by assumption))
         | (obtain ⟨a, ha, hv⟩ := map_some h; cases hv; first | exact St.refl _ | exact St.push _ _ | exact St.write ha)
    | mapUpdate t m k x =>
        simp only [stepA, oMapUpd] at h
        repeat' (split at h)
        all_goals first
         | (cases h; done)
         | (cases h; exact St.refl _)
         | (cases h; exact St.push _ _)
         | (cases h; exact (St.drop _ _).trans (St.push _ _))
         | (cases h; exact St.obj _ _ _)
         | (cases h; exact St.write (by assumption))
         | (obtain ⟨a, ha, hv⟩ := map_some h; cases hv; first | exact St.refl _ | exact St.push _ _ | exact St.write ha)
    | insert t m k x =>
        simp only [stepA, oMapUpd] at h
        repeat' (split at h)
        all_goals first
         | (cases h; done)
         | (cases h; exact St.refl _)
         | (cases h; exact St.push _ _)
         | (cases h; exact (St.drop _ _).trans (St.push _ _))
         | (cases h; exact St.obj _ _ _)
         | (cases h; exact St.write (by assumption))
         | (obtain ⟨a, ha, hv⟩ := map_some h; cases hv; first | exact St.refl _ | exact St.push _ _ | exact St.write ha)
    | range t x =>
        simp only [stepA, oRange] at h
        repeat' (split at h)
        all_goals first
         | (cases h; done)
         | (cases h; exact St.refl _)
         | (cases h; exact St.push _ _)
         | (cases h; exact (St.drop _ _).trans (St.push _ _))
         | (cases h; exact St.obj _ _ _)
         | (cases h; exact St.write (by assumption))
         | (obtain ⟨a, ha, hv⟩ := map_some h; cases hv; first | exact St.refl _ | exact St.push _ _ | exact St.write ha)
    | entry x =>
        simp only [stepA, oEntry] at h
        repeat' (split at h)
        all_goals first
         | (cases h; done)
         | (cases h; exact St.refl _)
         | (cases h; exact St.push _ _)
         | (cases h; exact (St.drop _ _).trans (St.push _ _))
         | (cases h; exact St.obj _ _ _)
         | (cases h; exact St.write (by assumption))
         | (obtain ⟨a, ha, hv⟩ := map_some h; cases hv; first | exact St.refl _ | exact St.push _ _ | exact St.write ha)
    | mapEntry t m k =>
        simp only [stepA, oMapEntry] at h
        repeat' (split at h)
        all_goals first
         | (cases h; done)
         | (cases h; exact St.refl _)
         | (cases h; exact St.push _ _)
         | (cases h; exact (St.drop _ _).trans (St.push _ _))
         | (cases h; exact St.obj _ _ _)
         | (cases h; exact St.write (by assumption))
         | (obtain ⟨a, ha, hv⟩ := map_some h; cases hv; first | exact St.refl _ | exact St.push _ _ | exact St.write ha)
    | entryStore t m s x =>
        simp only [stepA, oEntryStore] at h
        repeat' (split at h)
        all_goals first
         | (cases h; done)
         | (cases h; exact St.refl _)
         | (cases h; exact St.push _ _)
         | (cases h; exact (St.drop _ _).trans (St.push _ _))
         | (cases h; exact St.obj _ _ _)
         | (cases h; exact St.write (by assumption))
         | (obtain ⟨a, ha, hv⟩ := map_some h; cases hv; first | exact St.refl _ | exact St.push _ _ | exact St.write ha)
    | call c =>
      obtain ⟨callee, args, ats⟩ := c
      cases callee with
      | value f =>
        simp only [stepA, callA, oCall] at h
        repeat' (split at h)
        all_goals first
          | (cases h; done)
          | exact ho _ _ _ _ _ h
      | invoke r m => cases h
      | builtin b =>
        cases b with
        | len =>
          simp only [stepA, callA] at h
          split at h
          · rename_i r hr
            cases h
            simp only [oLen] at hr
            repeat' (split at hr)
            all_goals first
              | (cases hr; done)
              | (obtain ⟨a, ha, hv⟩ := map_some hr; cases hv; exact St.refl _)
          · simp only [oLenMap] at h
            repeat' (split at h)
            all_goals first
             | (cases h; done)
             | (cases h; exact St.refl _)
             | (cases h; exact St.push _ _)
             | (cases h; exact (St.drop _ _).trans (St.push _ _))
             | (cases h; exact St.obj _ _ _)
             | (cases h; exact St.write (by assumption))
             | (obtain ⟨a, ha, hv⟩ := map_some h; cases hv; first | exact St.refl _ | exact St.push _ _ | exact St.write ha)
        | delete =>
            simp only [stepA, callA, oDelete] at h
            repeat' (split at h)
            all_goals first
             | (cases h; done)
             | (cases h; exact St.refl _)
             | (cases h; exact St.push _ _)
             | (cases h; exact (St.drop _ _).trans (St.push _ _))
             | (cases h; exact St.obj _ _ _)
             | (cases h; exact St.write (by assumption))
             | (obtain ⟨a, ha, hv⟩ := map_some h; cases hv; first | exact St.refl _ | exact St.push _ _ | exact St.write ha)
        | clear =>
            simp only [stepA, callA, oClear] at h
            repeat' (split at h)
            all_goals first
             | (cases h; done)
             | (cases h; exact St.refl _)
             | (cases h; exact St.push _ _)
             | (cases h; exact (St.drop _ _).trans (St.push _ _))
             | (cases h; exact St.obj _ _ _)
             | (cases h; exact St.write (by assumption))
             | (obtain ⟨a, ha, hv⟩ := map_some h; cases hv; first | exact St.refl _ | exact St.push _ _ | exact St.write ha)
        | cap =>
            simp only [stepA, callA, oCap] at h
            repeat' (split at h)
            all_goals first
             | (cases h; done)
             | (cases h; exact St.refl _)
             | (cases h; exact St.push _ _)
             | (cases h; exact (St.drop _ _).trans (St.push _ _))
             | (cases h; exact St.obj _ _ _)
             | (cases h; exact St.write (by assumption))
             | (obtain ⟨a, ha, hv⟩ := map_some h; cases hv; first | exact St.refl _ | exact St.push _ _ | exact St.write ha)
        | append =>
            simp only [stepA, callA, oAppend, appendA] at h
            repeat' (split at h)
            all_goals first
             | (cases h; done)
             | (cases h; exact St.refl _)
             | (cases h; exact St.push _ _)
             | (cases h; exact (St.drop _ _).trans (St.push _ _))
             | (cases h; exact St.obj _ _ _)
             | (cases h; exact St.write (by assumption))
             | (obtain ⟨a, ha, hv⟩ := map_some h; cases hv; first | exact St.refl _ | exact St.push _ _ | exact St.write ha)
        | copy =>
            simp only [stepA, callA, oCopy, copyTo] at h
            repeat' (split at h)
            all_goals first
             | (cases h; done)
             | (cases h; exact St.refl _)
             | (cases h; exact St.push _ _)
             | (cases h; exact (St.drop _ _).trans (St.push _ _))
             | (cases h; exact St.obj _ _ _)
             | (cases h; exact St.write (by assumption))
             | (obtain ⟨a, ha, hv⟩ := map_some h; cases hv; first | exact St.refl _ | exact St.push _ _ | exact St.write ha)
        | max =>
            simp only [stepA, callA, oMax] at h
            repeat' (split at h)
            all_goals first
             | (cases h; done)
             | (cases h; exact St.refl _)
             | (cases h; exact St.push _ _)
             | (cases h; exact (St.drop _ _).trans (St.push _ _))
             | (cases h; exact St.obj _ _ _)
             | (cases h; exact St.write (by assumption))
             | (obtain ⟨a, ha, hv⟩ := map_some h; cases hv; first | exact St.refl _ | exact St.push _ _ | exact St.write ha)
        | min =>
            simp only [stepA, callA, oMax] at h
            repeat' (split at h)
            all_goals first
             | (cases h; done)
             | (cases h; exact St.refl _)
             | (cases h; exact St.push _ _)
             | (cases h; exact (St.drop _ _).trans (St.push _ _))
             | (cases h; exact St.obj _ _ _)
             | (cases h; exact St.write (by assumption))
             | (obtain ⟨a, ha, hv⟩ := map_some h; cases hv; first | exact St.refl _ | exact St.push _ _ | exact St.write ha)
        | _ => cases h
    | _ => first | cases h | exact absurd rfl hp

theorem load_at {t : TypeId} {x : Operand} (h : stepA P ora E H (.load t x) = some (v, H')) : ∃ b off, E x = some (.one (.ptr b off)) ∧ H' = H ∧ ∀ G : HP, G.t.get b = H.t.get b → stepA P ora E G (.load t x) = some (v, G) := by
  simp only [stepA, oLoad] at h ⊢
  split at h
  · rename_i b off ag m hx hs
    obtain ⟨a, ha, hv⟩ := map_some h
    cases hv
    refine ⟨b, off, hx, rfl, fun G hG => ?_⟩
    have : G.read b off (wid ag m) = H.read b off (wid ag m) := by unfold HP.read; rw [hG]
    rw [this, ha]
    rfl
  · cases h

theorem store_at {t : TypeId} {x y : Operand} (h : stepA P ora E H (.store t x y) = some (v, H')) : ∃ b off, E x = some (.one (.ptr b off)) ∧ H'.n = H.n ∧ ∀ b', b' ≠ b → H'.t.get b' = H.t.get b' := by
  simp only [stepA, oStore] at h
  split at h
  · rename_i b off cs ag m hx hy hs
    split at h
    · obtain ⟨G, hG, hv⟩ := map_some h
      cases hv
      refine ⟨b, off, hx, (HP.write_spec hG).1, fun b' hb => ?_⟩
      unfold HP.write at hG
      split at hG
      · split at hG
        · cases hG
          simp only [PT.get_put]
          rw [if_neg hb]
        · cases hG
      · cases hG
    · cases h
  · cases h

theorem load_run {t : TypeId} {x : Operand} (h : stepA P ora E H (.load t x) = some (v, H')) (hx : ∀ a, E x = some a → VRel ρ a (ev x)) (hH : HRel ρ H w) :
    ∃ u, VRel ρ v u ∧ ∀ dst ty pos after guard, (execOp ev ⟨dst, .load t x, ty, pos, after, guard⟩).run P w = .ok (.value u) w := by
  simp only [stepA, oLoad] at h
  split at h
  · rename_i b off ag n hx' hs
    obtain ⟨a, ha, hv⟩ := map_some h
    cases hv
    obtain ⟨cs, hcs, hm⟩ := bind_some' ha
    obtain ⟨L, hL, hev⟩ := hx _ hx'
    obtain ⟨us, hl, hrel, hcell⟩ := HP.read_world hcs hH hL
    refine ⟨_, mkA_rel hm hrel, fun dst ty pos after guard => run_v ?_⟩
    simp only [Instr.loadAt, hev, Instr.sureAddr, Sem.run_bind, Sem.run_pure, Result.andThen_ok]
    exact run_loadVar hs hl hcell
  · cases h

end
end Go.Fv
