/-
  A second abstract evaluator of the model's code: regions that draw their order: the run in the text's order, and what it says. Conditions: none; nothing here speaks of one program.
  A second abstract evaluator of the model's code: equality of cells, contents and blocks, tested. Conditions: none; nothing here speaks of one program.
-/
import Derived.Test.YtdkoockhfmbcaaaGreatDoorFvU
set_option linter.unusedSectionVars false
set_option linter.unusedVariables false
namespace Go.Fv

/-- What is said of the heaps alone, of calls. -/
def OraSt (ora : Ora) : Prop := ∀ (f : Tg) (args : List AV) (H : HP) (v : AV) (H' : HP), ora f args H = some (v, H') → St H H'
theorem OraOK.st {P : Program} {ora : Ora} (h : OraOK P ora) : OraSt ora := fun f args H v H' hr => (h f args H v H' hr).1

section
variable {P : Program} [Plain P] {ora : Ora} {E : Operand → Option AV} {H H' : HP} {w : World} {ρ : PM} {ev : Operand → Value} {v : AV}

/-- One that sees no heap: by its kind, or a conversion of a known number. -/
noncomputable def pureA (E : Operand → Option AV) (op : Op) : Bool :=
  match isPure op with
  | true => true
  | false => match op with
    | .convert _ _ x => match E x with
      | some (.one (.lit (.int _ _))) => true
      | _ => false
    | _ => false
theorem stepA_pureA {op : Op} (hp : pureA E op = true) (h : stepA P ora E H op = some (v, H')) : H' = H ∧ ∀ G : HP, stepA P ora E G op = some (v, G) := by
  unfold pureA at hp
  split at hp
  · rename_i h1
    exact stepA_pure h1 h
  · split at hp
    · rename_i t u x
      split at hp
      · rename_i k n hx
        simp only [stepA, oConvert, hx] at h ⊢
        split at h
        · cases h; rename_i h1; exact ⟨rfl, fun G => by first | rfl | simp [*]⟩
        · rename_i h1; cases h1
        · rename_i h1
          cases h1
          split at h
          · simp [toStr, baseA] at h
          · cases h
        · rename_i h1; cases h1
        · rename_i h1
          cases h1
          simp [baseA] at h
        · cases h
      · cases hp
    · cases hp

theorem stepA_st (ho : OraSt ora) {op : Op} (h : stepA P ora E H op = some (v, H')) : St H H' := by
  by_cases hp : isPure op = true
  · rw [(stepA_pure hp h).1]; exact St.refl H
  · cases op with
    | alloc t =>
        simp only [stepA, oAlloc] at h
        repeat' (split at h)
        all_goals first
         | (cases h; done)
         | (cases h; exact St.refl _)
         | (cases h; exact St.push _ _)
         | (cases h; exact (St.drop _ _).trans (St.push _ _))
         | (cases h; exact St.obj _ _ _)
         | (cases h; exact St.write (by assumption))
         | (obtain ⟨a, ha, hv⟩ := map_some h; cases hv; first | exact St.refl _ | exact St.push _ _ | exact St.write ha)
    | box t x =>
        simp only [stepA, oBox] at h
        repeat' (split at h)
        all_goals first
         | (cases h; done)
         | (cases h; exact St.refl _)
         | (cases h; exact St.push _ _)
         | (cases h; exact (St.drop _ _).trans (St.push _ _))
         | (cases h; exact St.obj _ _ _)
         | (cases h; exact St.write (by assumption))
         | (obtain ⟨a, ha, hv⟩ := map_some h; cases hv; first | exact St.refl _ | exact St.push _ _ | exact St.write ha)
    | buildSlice t m ps =>
        simp only [stepA, oBuildSlice] at h
        repeat' (split at h)
        all_goals first
         | (cases h; done)
         | (cases h; exact St.refl _)
         | (cases h; exact St.push _ _)
         | (cases h; exact (St.drop _ _).trans (St.push _ _))
         | (cases h; exact St.obj _ _ _)
         | (cases h; exact St.write (by assumption))
         | (obtain ⟨a, ha, hv⟩ := map_some h; cases hv; first | exact St.refl _ | exact St.push _ _ | exact St.write ha)
    | load t x =>
        simp only [stepA, oLoad] at h
        repeat' (split at h)
        all_goals first
         | (cases h; done)
         | (cases h; exact St.refl _)
         | (cases h; exact St.push _ _)
         | (cases h; exact (St.drop _ _).trans (St.push _ _))
         | (cases h; exact St.obj _ _ _)
         | (cases h; exact St.write (by assumption))
         | (obtain ⟨a, ha, hv⟩ := map_some h; cases hv; first | exact St.refl _ | exact St.push _ _ | exact St.write ha)
    | store t x y =>
        simp only [stepA, oStore] at h
        repeat' (split at h)
        all_goals first
         | (cases h; done)
         | (cases h; exact St.refl _)
         | (cases h; exact St.push _ _)
         | (cases h; exact (St.drop _ _).trans (St.push _ _))
         | (cases h; exact St.obj _ _ _)
         | (cases h; exact St.write (by assumption))
         | (obtain ⟨a, ha, hv⟩ := map_some h; cases hv; first | exact St.refl _ | exact St.push _ _ | exact St.write ha)
    | makeSlice t x y =>
        simp only [stepA, oMakeSlice] at h
        repeat' (split at h)
        all_goals first
         | (cases h; done)
         | (cases h; exact St.refl _)
         | (cases h; exact St.push _ _)
         | (cases h; exact (St.drop _ _).trans (St.push _ _))
         | (cases h; exact St.obj _ _ _)
         | (cases h; exact St.write (by assumption))
         | (obtain ⟨a, ha, hv⟩ := map_some h; cases hv; first | exact St.refl _ | exact St.push _ _ | exact St.write ha)
    | convert t u x =>
        simp only [stepA, oConvert] at h
        repeat' (split at h)
        all_goals first
         | (cases h; done)
         | (cases h; exact St.refl _)
         | (cases h; exact St.push _ _)
         | (cases h; exact (St.drop _ _).trans (St.push _ _))
         | (cases h; exact St.obj _ _ _)
         | (cases h; exact St.write (by assumption))
         | (obtain ⟨a, ha, hv⟩ := map_some h; cases hv; first | exact St.refl _ | exact St.push _ _ | exact St.write ha)
    | makeMap t r =>
        simp only [stepA, oMakeMap] at h
        repeat' (split at h)
        all_goals first
         | (cases h; done)
         | (cases h; exact St.refl _)
         | (cases h; exact St.push _ _)
         | (cases h; exact (St.drop _ _).trans (St.push _ _))
         | (cases h; exact St.obj _ _ _)
         | (cases h; exact St.write (by assumption))
         | (obtain ⟨a, ha, hv⟩ := map_some h; cases hv; first | exact St.refl _ | exact St.push _ _ | exact St.write ha)
    | lookup t x i ok =>
        simp only [stepA, oLookup] at h
        repeat' (split at h)
        all_goals first
         | (cases h; done)
         | (cases h; exact St.refl _)
         | (cases h; exact St.push _ _)
         | (cases h; exact (St.drop _ _).trans (St.push _ _))
         | (cases h; exact St.obj _ _ _)
         | (cases h; exact St.write (by assumption))
         | (obtain ⟨a, ha, hv⟩ := map_some h; cases hv; first | exact St.refl _ | exact St.push _ _ | exact St.write ha)
    | mapUpdate t m k x =>
        simp only [stepA, oMapUpd] at h
        repeat' (split at h)
        all_goals first
         | (cases h; done)
         | (cases h; exact St.refl _)
         | (cases h; exact St.push _ _)
         | (cases h; exact (St.drop _ _).trans (St.push _ _))
         | (cases h; exact St.obj _ _ _)
         | (cases h; exact St.write (by assumption))
         | (obtain ⟨a, ha, hv⟩ := map_some h; cases hv; first | exact St.refl _ | exact St.push _ _ | exact St.write ha)
    | insert t m k x =>
        simp only [stepA, oMapUpd] at h
        repeat' (split at h)
        all_goals first
         | (cases h; done)
         | (cases h; exact St.refl _)
         | (cases h; exact St.push _ _)
         | (cases h; exact (St.drop _ _).trans (St.push _ _))
         | (cases h; exact St.obj _ _ _)
         | (cases h; exact St.write (by assumption))
         | (obtain ⟨a, ha, hv⟩ := map_some h; cases hv; first | exact St.refl _ | exact St.push _ _ | exact St.write ha)
    | range t x =>
        simp only [stepA, oRange] at h
        repeat' (split at h)
        all_goals first
         | (cases h; done)
         | (cases h; exact St.refl _)
         | (cases h; exact St.push _ _)
         | (cases h; exact (St.drop _ _).trans (St.push _ _))
         | (cases h; exact St.obj _ _ _)
         | (cases h; exact St.write (by assumption))
         | (obtain ⟨a, ha, hv⟩ := map_some h; cases hv; first | exact St.refl _ | exact St.push _ _ | exact St.write ha)
    | entry x =>
        simp only [stepA, oEntry] at h
        repeat' (split at h)
        all_goals first
         | (cases h; done)
         | (cases h; exact St.refl _)
         | (cases h; exact St.push _ _)
         | (cases h; exact (St.drop _ _).trans (St.push _ _))
         | (cases h; exact St.obj _ _ _)
         | (cases h; exact St.write (by assumption))
         | (obtain ⟨a, ha, hv⟩ := map_some h; cases hv; first | exact St.refl _ | exact St.push _ _ | exact St.write ha)
    | mapEntry t m k =>
        simp only [stepA, oMapEntry] at h
        repeat' (split at h)
        all_goals first
         | (cases h; done)
         | (cases h; exact St.refl _)
         | (cases h; exact St.push _ _)
         | (cases h; exact (St.drop _ _).trans (St.push _ _))
         | (cases h; exact St.obj _ _ _)
         | (cases h; exact St.write (by assumption))
         | (obtain ⟨a, ha, hv⟩ := map_some h; cases hv; first | exact St.refl _ | exact St.push _ _ | exact St.write ha)
    | entryStore t m s x =>
        simp only [stepA, oEntryStore] at h
        repeat' (split at h)
        all_goals first
         | (cases h; done)
         | (cases h; exact St.refl _)
         | (cases h; exact St.push _ _)
         | (cases h; exact (St.drop _ _).trans (St.push _ _))
         | (cases h; exact St.obj _ _ _)
         | (cases h; exact St.write (by assumption))
         | (obtain ⟨a, ha, hv⟩ := map_some h; cases hv; first | exact St.refl _ | exact St.push _ _ | exact St.write ha)
    | call c =>
      obtain ⟨callee, args, ats⟩ := c
      cases callee with
      | value f =>
        simp only [stepA, callA, oCall] at h
        repeat' (split at h)
        all_goals first
          | (cases h; done)
          | exact ho _ _ _ _ _ h
      | invoke r m => cases h
      | builtin b =>
        cases b with
        | len =>
          simp only [stepA, callA] at h
          split at h
          · rename_i r hr
            cases h
            simp only [oLen] at hr
            repeat' (split at hr)
            all_goals first
              | (cases hr; done)
              | (obtain ⟨a, ha, hv⟩ := map_some hr; cases hv; exact St.refl _)
          · simp only [oLenMap] at h
            repeat' (split at h)
            all_goals first
             | (cases h; done)
             | (cases h; exact St.refl _)
             | (cases h; exact St.push _ _)
             | (cases h; exact (St.drop _ _).trans (St.push _ _))
             | (cases h; exact St.obj _ _ _)
             | (cases h; exact St.write (by assumption))
             | (obtain ⟨a, ha, hv⟩ := map_some h; cases hv; first | exact St.refl _ | exact St.push _ _ | exact St.write ha)
        | delete =>
            simp only [stepA, callA, oDelete] at h
            repeat' (split at h)
            all_goals first
             | (cases h; done)
             | (cases h; exact St.refl _)
             | (cases h; exact St.push _ _)
             | (cases h; exact (St.drop _ _).trans (St.push _ _))
             | (cases h; exact St.obj _ _ _)
             | (cases h; exact St.write (by assumption))
             | (obtain ⟨a, ha, hv⟩ := map_some h; cases hv; first | exact St.refl _ | exact St.push _ _ | exact St.write ha)
        | clear =>
            simp only [stepA, callA, oClear] at h
            repeat' (split at h)
            all_goals first
             | (cases h; done)
             | (cases h; exact St.refl _)
             | (cases h; exact St.push _ _)
             | (cases h; exact (St.drop _ _).trans (St.push _ _))
             | (cases h; exact St.obj _ _ _)
             | (cases h; exact St.write (by assumption))
             | (obtain ⟨a, ha, hv⟩ := map_some h; cases hv; first | exact St.refl _ | exact St.push _ _ | exact St.write ha)
        | cap =>
            simp only [stepA, callA, oCap] at h
            repeat' (split at h)
            all_goals first
             | (cases h; done)
             | (cases h; exact St.refl _)
             | (cases h; exact St.push _ _)
             | (cases h; exact (St.drop _ _).trans (St.push _ _))
             | (cases h; exact St.obj _ _ _)
             | (cases h; exact St.write (by assumption))
             | (obtain ⟨a, ha, hv⟩ := map_some h; cases hv; first | exact St.refl _ | exact St.push _ _ | exact St.write ha)
        | append =>
            simp only [stepA, callA, oAppend, appendA] at h
            repeat' (split at h)
            all_goals first
             | (cases h; done)
             | (cases h; exact St.refl _)
             | (cases h; exact St.push _ _)
             | (cases h; exact (St.drop _ _).trans (St.push _ _))
             | (cases h; exact St.obj _ _ _)
             | (cases h; exact St.write (by assumption))
             | (obtain ⟨a, ha, hv⟩ := map_some h; cases hv; first | exact St.refl _ | exact St.push _ _ | exact St.write ha)
        | copy =>
            simp only [stepA, callA, oCopy, copyTo] at h
            repeat' (split at h)
            all_goals first
             | (cases h; done)
             | (cases h; exact St.refl _)
             | (cases h; exact St.push _ _)
             | (cases h; exact (St.drop _ _).trans (St.push _ _))
             | (cases h; exact St.obj _ _ _)
             | (cases h; exact St.write (by assumption))
             | (obtain ⟨a, ha, hv⟩ := map_some h; cases hv; first | exact St.refl _ | exact St.push _ _ | exact St.write ha)
        | max =>
            simp only [stepA, callA, oMax] at h
            repeat' (split at h)
            all_goals first
             | (cases h; done)
             | (cases h; exact St.refl _)
             | (cases h; exact St.push _ _)
             | (cases h; exact (St.drop _ _).trans (St.push _ _))
             | (cases h; exact St.obj _ _ _)
             | (cases h; exact St.write (by assumption))
             | (obtain ⟨a, ha, hv⟩ := map_some h; cases hv; first | exact St.refl _ | exact St.push _ _ | exact St.write ha)
        | min =>
            simp only [stepA, callA, oMax] at h
            repeat' (split at h)
            all_goals first
             | (cases h; done)
             | (cases h; exact St.refl _)
             | (cases h; exact St.push _ _)
             | (cases h; exact (St.drop _ _).trans (St.push _ _))
             | (cases h; exact St.obj _ _ _)
             | (cases h; exact St.write (by assumption))
             | (obtain ⟨a, ha, hv⟩ := map_some h; cases hv; first | exact St.refl _ | exact St.push _ _ | exact St.write ha)
        | _ => cases h
    | _ => first | cases h | exact absurd rfl hp

theorem load_at {t : TypeId} {x : Operand} (h : stepA P ora E H (.load t x) = some (v, H')) : ∃ b off, E x = some (.one (.ptr b off)) ∧ H' = H ∧ ∀ G : HP, G.t.get b = H.t.get b → stepA P ora E G (.load t x) = some (v, G) := by
  simp only [stepA, oLoad] at h ⊢
  split at h
  · rename_i b off ag m hx hs
    obtain ⟨a, ha, hv⟩ := map_some h
    cases hv
    refine ⟨b, off, hx, rfl, fun G hG => ?_⟩
    have : G.read b off (wid ag m) = H.read b off (wid ag m) := by unfold HP.read; rw [hG]
    rw [this, ha]
    rfl
  · cases h

theorem store_at {t : TypeId} {x y : Operand} (h : stepA P ora E H (.store t x y) = some (v, H')) : ∃ b off, E x = some (.one (.ptr b off)) ∧ H'.n = H.n ∧ ∀ b', b' ≠ b → H'.t.get b' = H.t.get b' := by
  simp only [stepA, oStore] at h
  split at h
  · rename_i b off cs ag m hx hy hs
    split at h
    · obtain ⟨G, hG, hv⟩ := map_some h
      cases hv
      refine ⟨b, off, hx, (HP.write_spec hG).1, fun b' hb => ?_⟩
      unfold HP.write at hG
      split at hG
      · split at hG
        · cases hG
          simp only [PT.get_put]
          rw [if_neg hb]
        · cases hG
      · cases hG
    · cases h
  · cases h

theorem load_run {t : TypeId} {x : Operand} (h : stepA P ora E H (.load t x) = some (v, H')) (hx : ∀ a, E x = some a → VRel ρ a (ev x)) (hH : HRel ρ H w) :
    ∃ u, VRel ρ v u ∧ ∀ dst ty pos after guard, (execOp ev ⟨dst, .load t x, ty, pos, after, guard⟩).run P w = .ok (.value u) w := by
  simp only [stepA, oLoad] at h
  split at h
  · rename_i b off ag n hx' hs
    obtain ⟨a, ha, hv⟩ := map_some h
    cases hv
    obtain ⟨cs, hcs, hm⟩ := bind_some' ha
    obtain ⟨L, hL, hev⟩ := hx _ hx'
    obtain ⟨us, hl, hrel, hcell⟩ := HP.read_world hcs hH hL
    refine ⟨_, mkA_rel hm hrel, fun dst ty pos after guard => run_v ?_⟩
    simp only [Instr.loadAt, hev, Instr.sureAddr, Sem.run_bind, Sem.run_pure, Result.andThen_ok]
    exact run_loadVar hs hl hcell
  · cases h

end
end Go.Fv

set_option linter.unusedSectionVars false
set_option linter.unusedVariables false
namespace Go.Fv
/-! ### Equality, tested -/
noncomputable section
def eqV : Value → Value → Bool
  | .int k a, .int k' b => decide (k = k') && decide (a = b)
  | .bool a, .bool b => decide (a = b)
  | .string a, .string b => decide (a.data.toList = b.data.toList)
  | .pointer none, .pointer none => true
  | .map none, .map none => true
  | .nilFunc, .nilFunc => true
  | .nilIface, .nilIface => true
  | .slice none a b, .slice none a' b' => Nat.beq a a' && Nat.beq b b'
  | .func (.func f) a b, .func (.func g) c d => Nat.beq f g && (Nat.beq a.size 0 && Nat.beq b.size 0 && (Nat.beq c.size 0 && Nat.beq d.size 0))
  | _, _ => false
def eqPs : List (Nat × Nat) → List (Nat × Nat) → Bool
  | [], [] => true
  | (a, b) :: r, (c, d) :: s => Nat.beq a c && (Nat.beq b d && eqPs r s)
  | _, _ => false
def eqCel : Cel → Cel → Bool
  | .lit a, .lit b => eqV a b
  | .ptr a b, .ptr c d => Nat.beq a c && Nat.beq b d
  | .sl a b c d, .sl a' b' c' d' => Nat.beq a a' && (Nat.beq b b' && (Nat.beq c c' && Nat.beq d d'))
  | .su a b c d, .su a' b' c' d' => Nat.beq a a' && (Nat.beq b b' && (Nat.beq c c' && Nat.beq d d'))
  | .sz a b, .sz c d => Nat.beq a c && Nat.beq b d
  | .fn (.func f) xs, .fn (.func g) ys => Nat.beq f g && eqPs xs ys
  | .mp a, .mp b => Nat.beq a b
  | .us, .us => true
  | .un k, .un k' => decide (k = k')
  | _, _ => false
def eqCels : List Cel → List Cel → Bool
  | [], [] => true
  | x :: xs, y :: ys => eqCel x y && eqCels xs ys
  | _, _ => false
def eqPart (p q : Bool × List Cel) : Bool := decide (p.1 = q.1) && eqCels p.2 q.2
def eqParts : List (Bool × List Cel) → List (Bool × List Cel) → Bool
  | [], [] => true
  | x :: xs, y :: ys => eqPart x y && eqParts xs ys
  | _, _ => false
def eqAV : AV → AV → Bool
  | .one a, .one b => eqCel a b
  | .agg a, .agg b => eqCels a b
  | .tup a, .tup b => eqParts a b
  | _, _ => false
def eqEnts : List Ent → List Ent → Bool
  | [], [] => true
  | x :: xs, y :: ys => eqPart x.1 y.1 && (eqPart x.2.1 y.2.1 && (Nat.beq x.2.2 y.2.2 && eqEnts xs ys))
  | _, _ => false
def eqCt : Ct → Ct → Bool
  | .c a, .c b => eqCel a b
  | .map es c, .map es' c' => eqEnts es es' && Nat.beq c c'
  | _, _ => false
def eqLB : List (Option Ct) → List (Option Ct) → Bool
  | [], [] => true
  | none :: r, none :: s => eqLB r s
  | some a :: r, some b :: s => eqCt a b && eqLB r s
  | _, _ => false
def eqBk : Bk → Bk → Bool
  | .lf a, .lf b => eqLB a b
  | .fl n a, .fl m b => Nat.beq n m && eqCel a b
  | .nd n l r, .nd m l' r' => Nat.beq n m && (eqBk l l' && eqBk r r')
  | _, _ => false
def noneT {α : Type} : PT α → Bool
  | .nil => true
  | .node none l r => noneT l && noneT r
  | _ => false
def eqT' : PT Bk → PT Bk → Bool
  | .nil, t => noneT t
  | .node none l r, .nil => noneT l && noneT r
  | .node none l r, .node none l' r' => eqT' l l' && eqT' r r'
  | .node (some k) l r, .node (some k') l' r' => eqBk k k' && (eqT' l l' && eqT' r r')
  | _, _ => false
end
theorem eqV_spec {a b : Value} (h : eqV a b = true) : a = b := by
  unfold eqV at h
  split at h
  · simp only [Bool.and_eq_true, decide_eq_true_eq] at h; rw [h.1, h.2]
  · simp only [decide_eq_true_eq] at h; rw [h]
  · rename_i a b
    simp only [decide_eq_true_eq] at h
    obtain ⟨⟨x⟩⟩ := a
    obtain ⟨⟨y⟩⟩ := b
    simp only at h
    rw [h]
  · rfl
  · rfl
  · rfl
  · rfl
  · simp only [Bool.and_eq_true] at h; rw [Nat.eq_of_beq_eq_true h.1, Nat.eq_of_beq_eq_true h.2]
  · rename_i f a b g c d
    simp only [Bool.and_eq_true] at h
    obtain ⟨h1, ⟨h2, h3⟩, h4, h5⟩ := h
    rw [Nat.eq_of_beq_eq_true h1, Array.eq_empty_of_size_eq_zero (Nat.eq_of_beq_eq_true h2), Array.eq_empty_of_size_eq_zero (Nat.eq_of_beq_eq_true h3), Array.eq_empty_of_size_eq_zero (Nat.eq_of_beq_eq_true h4), Array.eq_empty_of_size_eq_zero (Nat.eq_of_beq_eq_true h5)]
  · cases h
theorem eqPs_spec : ∀ {xs ys : List (Nat × Nat)}, eqPs xs ys = true → xs = ys
  | [], [], _ => rfl
  | (a, b) :: r, (c, d) :: s, h => by
    simp only [eqPs, Bool.and_eq_true] at h
    rw [Nat.eq_of_beq_eq_true h.1, Nat.eq_of_beq_eq_true h.2.1, eqPs_spec h.2.2]
  | [], _ :: _, h => by cases h
  | _ :: _, [], h => by cases h
theorem eqCel_spec {a b : Cel} (h : eqCel a b = true) : a = b := by
  unfold eqCel at h
  split at h
  · rw [eqV_spec h]
  all_goals first
    | (cases h; done)
    | (simp only [Bool.and_eq_true] at h; obtain ⟨h1, h2, h3, h4⟩ := h; rw [Nat.eq_of_beq_eq_true h1, Nat.eq_of_beq_eq_true h2, Nat.eq_of_beq_eq_true h3, Nat.eq_of_beq_eq_true h4]; done)
    | (simp only [Bool.and_eq_true] at h; rw [Nat.eq_of_beq_eq_true h.1, Nat.eq_of_beq_eq_true h.2]; done)
    | (simp only [Bool.and_eq_true] at h; rw [Nat.eq_of_beq_eq_true h.1, eqPs_spec h.2]; done)
    | (rw [Nat.eq_of_beq_eq_true h]; done)
    | rfl
    | (rw [of_decide_eq_true h]; done)
theorem eqCels_spec : ∀ {xs ys : List Cel}, eqCels xs ys = true → xs = ys
  | [], [], _ => rfl
  | x :: xs, y :: ys, h => by
    simp only [eqCels, Bool.and_eq_true] at h
    rw [eqCel_spec h.1, eqCels_spec h.2]
  | [], _ :: _, h => by cases h
  | _ :: _, [], h => by cases h
theorem eqPart_spec {p q : Bool × List Cel} (h : eqPart p q = true) : p = q := by
  simp only [eqPart, Bool.and_eq_true, decide_eq_true_eq] at h
  exact Prod.ext h.1 (eqCels_spec h.2)
theorem eqParts_spec : ∀ {xs ys : List (Bool × List Cel)}, eqParts xs ys = true → xs = ys
  | [], [], _ => rfl
  | x :: xs, y :: ys, h => by
    simp only [eqParts, Bool.and_eq_true] at h
    rw [eqPart_spec h.1, eqParts_spec h.2]
  | [], _ :: _, h => by cases h
  | _ :: _, [], h => by cases h
theorem eqAV_spec {a b : AV} (h : eqAV a b = true) : a = b := by
  unfold eqAV at h
  split at h
  · rw [eqCel_spec h]
  · rw [eqCels_spec h]
  · rw [eqParts_spec h]
  · cases h
theorem eqEnts_spec : ∀ {xs ys : List Ent}, eqEnts xs ys = true → xs = ys
  | [], [], _ => rfl
  | x :: xs, y :: ys, h => by
    simp only [eqEnts, Bool.and_eq_true] at h
    obtain ⟨h1, h2, h3, h4⟩ := h
    have : x = y := Prod.ext (eqPart_spec h1) (Prod.ext (eqPart_spec h2) (Nat.eq_of_beq_eq_true h3))
    rw [this, eqEnts_spec h4]
  | [], _ :: _, h => by cases h
  | _ :: _, [], h => by cases h
theorem eqCt_spec {a b : Ct} (h : eqCt a b = true) : a = b := by
  unfold eqCt at h
  split at h
  · rw [eqCel_spec h]
  · simp only [Bool.and_eq_true] at h; rw [eqEnts_spec h.1, Nat.eq_of_beq_eq_true h.2]
  · cases h
theorem eqLB_spec : ∀ {xs ys : List (Option Ct)}, eqLB xs ys = true → xs = ys
  | [], [], _ => rfl
  | none :: r, none :: s, h => by rw [eqLB_spec (show eqLB r s = true from h)]
  | some a :: r, some b :: s, h => by
    simp only [eqLB, Bool.and_eq_true] at h
    rw [eqCt_spec h.1, eqLB_spec h.2]
  | none :: _, some _ :: _, h => by cases h
  | some _ :: _, none :: _, h => by cases h
  | [], _ :: _, h => by cases h
  | none :: _, [], h => by cases h
  | some _ :: _, [], h => by cases h
theorem eqBk_spec : ∀ {xs ys : Bk}, eqBk xs ys = true → xs = ys
  | .lf a, .lf b, h => by rw [eqLB_spec (show eqLB a b = true from h)]
  | .fl n a, .fl m b, h => by
    simp only [eqBk, Bool.and_eq_true] at h
    rw [Nat.eq_of_beq_eq_true h.1, eqCel_spec h.2]
  | .nd n l r, .nd m l' r', h => by
    simp only [eqBk, Bool.and_eq_true] at h
    rw [Nat.eq_of_beq_eq_true h.1, eqBk_spec h.2.1, eqBk_spec h.2.2]
  | .lf _, .fl _ _, h => by cases h
  | .lf _, .nd _ _ _, h => by cases h
  | .fl _ _, .lf _, h => by cases h
  | .fl _ _, .nd _ _ _, h => by cases h
  | .nd _ _ _, .lf _, h => by cases h
  | .nd _ _ _, .fl _ _, h => by cases h
theorem noneT_spec {α : Type} : ∀ {t : PT α}, noneT t = true → ∀ n, t.get n = none
  | .nil, _, n => PT.get_nil n
  | .node none l r, h, n => by
    simp only [noneT, Bool.and_eq_true] at h
    cases n with
    | zero => rfl
    | succ n =>
      rw [PT.get_succ]
      split
      · exact noneT_spec h.1 _
      · exact noneT_spec h.2 _
  | .node (some _) _ _, h, _ => by cases h
theorem eqT'_spec : ∀ {t s : PT Bk}, eqT' t s = true → ∀ n, t.get n = s.get n
  | .nil, s, h, n => (PT.get_nil n).trans (noneT_spec (t := s) (by cases s <;> exact h) n).symm
  | .node none l r, .nil, h, n => (noneT_spec (t := .node none l r) h n).trans (PT.get_nil n).symm
  | .node none l r, .node none l' r', h, n => by
    simp only [eqT', Bool.and_eq_true] at h
    cases n with
    | zero => rfl
    | succ n => rw [PT.get_succ, PT.get_succ, eqT'_spec h.1, eqT'_spec h.2]
  | .node (some k) l r, .node (some k') l' r', h, n => by
    simp only [eqT', Bool.and_eq_true] at h
    cases n with
    | zero => rw [eqBk_spec h.1]; rfl
    | succ n => rw [PT.get_succ, PT.get_succ, eqT'_spec h.2.1, eqT'_spec h.2.2]
  | .node none _ _, .node (some _) _ _, h, _ => by cases h
  | .node (some _) _ _, .node none _ _, h, _ => by cases h
  | .node (some _) _ _, .nil, h, _ => by cases h

noncomputable section
def eqOB (a b : Option Bk) : Bool :=
  match a, b with
  | none, none => true
  | some x, some y => eqBk x y
  | _, _ => false
/-- Is a block the same one in both? -/
def sameB (H G : HP) (b : Nat) : Bool := Nat.ble (Nat.succ b) G.lo || eqOB (H.t.get b) (G.t.get b)
end
theorem eqOB_spec {a b : Option Bk} (h : eqOB a b = true) : a = b := by
  cases a <;> cases b <;> first | rfl | (cases h; done) | exact congrArg some (eqBk_spec h)
theorem sameB_spec {H G : HP} {b : Nat} (h : sameB H G b = true) (h1 : G.lo ≤ b) : H.t.get b = G.t.get b := by
  unfold sameB at h
  rw [Bool.or_eq_true] at h
  rcases h with h | h
  · have := Nat.le_of_ble_eq_true h
    omega
  · exact eqOB_spec h
end Go.Fv
