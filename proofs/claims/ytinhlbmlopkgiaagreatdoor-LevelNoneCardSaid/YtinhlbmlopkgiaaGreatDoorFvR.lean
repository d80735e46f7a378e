/-
  A second abstract evaluator of the model's code: one operation, whichever. Conditions: none; nothing here speaks of one program.
-/
import Derived.Test.YtinhlbmlopkgiaaGreatDoorFvM
set_option linter.unusedSectionVars false
set_option linter.unusedVariables false
namespace Go.Fv
section
variable {P : Program} [Plain P] {ora : Ora} {E : Operand → Option AV} {H H' : HP} {w : World} {ρ : PM} {ev : Operand → Value} {v : AV}

noncomputable def callA (P : Program) [Plain P] (ora : Ora) (E : Operand → Option AV) (H : HP) (c : Call) : R :=
  match c.callee with
  | .value f => oCall ora E H f c.args
  | .builtin b => match b with
    | .len => match oLen P E H c.args c.argTypes with
      | some r => some r
      | none => oLenMap P E H c.args c.argTypes
    | .delete => oDelete P E H c.args c.argTypes
    | .clear => oClear P E H c.args c.argTypes
    | .cap => oCap P E H c.args c.argTypes
    | .append => oAppend P E H c.args c.argTypes
    | .copy => oCopy P E H c.args c.argTypes
    | .max => oMax E H false c.args
    | .min => oMax E H true c.args
    | _ => none
  | _ => none

noncomputable def stepA (P : Program) [Plain P] (ora : Ora) (E : Operand → Option AV) (H : HP) (op : Op) : R :=
  match op with
  | .move x => oMove E H x
  | .assign x => oMove E H x
  | .pick c a b => oPick E H c a b
  | .alloc t => oAlloc P H t
  | .box _ x => oBox E H x
  | .build t ps => oBuild P E H t ps
  | .buildSlice t n ps => oBuildSlice P E H t n ps
  | .load t x => oLoad P E H t x
  | .store t x y => oStore P E H t x y
  | .nilCheck x => oNil E H x
  | .binOp op t x y _ => oBin P E H op t x y
  | .unOp op _ x => oUn E H op x
  | .convert t u x => oConvert P E H t u x
  | .makeFunc f xs cs => oMakeFunc E H f xs cs
  | .makeSlice t x y => oMakeSlice P E H t x y
  | .slice t x l h m => oSlice P E H t x l h m
  | .fieldAddr t x f => oFieldAddr P E H t x f
  | .field t x f => oField P E H t x f
  | .indexAddr t x i => oIndexAddr P E H t x i
  | .index t x i => oIndex P E H t x i
  | .extract x i => oExtract E H x i
  | .makeMap _ r => oMakeMap E H r
  | .lookup t x i ok => oLookup P E H t x i ok
  | .mapUpdate t m k x => oMapUpd P E H t m k x
  | .insert t m k x => oMapUpd P E H t m k x
  | .range t x => oRange P E H t x
  | .entry x => oEntry E H x
  | .mapEntry t m k => oMapEntry P E H t m k
  | .entryStore _ m s x => oEntryStore E H m s x
  | .call c => callA P ora E H c
  | _ => none

theorem mem_ops {op : Op} {xs : List Operand} (h : op.operands.toList = xs) {x : Operand} (hx : x ∈ xs) : x ∈ op.operands := by
  rw [← Array.mem_toList_iff, h]; exact hx

theorem stepA_ok (ho : OraOK P ora) {op : Op} (h : stepA P ora E H op = some (v, H')) (hx : ∀ x ∈ op.operands, ∀ a, E x = some a → VRel ρ a (ev x)) (hH : HRel ρ H w) (hd : Dom ρ H.n) :
    St H H' ∧ OpS P ρ ev H w op v H' := by
  cases op with
  | move x => exact ⟨(oMove_ok (P := P) h (fun a => hx x (by simp [Op.operands]) a) hH hd).1, (oMove_ok (P := P) h (fun a => hx x (by simp [Op.operands]) a) hH hd).2.1⟩
  | assign x => exact ⟨(oMove_ok (P := P) h (fun a => hx x (by simp [Op.operands]) a) hH hd).1, (oMove_ok (P := P) h (fun a => hx x (by simp [Op.operands]) a) hH hd).2.2⟩
  | pick c a b => exact oPick_ok h (fun z hz => hx z (by rcases hz with rfl | rfl | rfl <;> simp [Op.operands])) hH hd
  | alloc t => exact oAlloc_ok h hH hd
  | box t x => exact oBox_ok h (hx x (by simp [Op.operands])) hH hd
  | build t ps => exact oBuild_ok h (fun p hp => hx p.2 (by simp only [Op.operands, List.mem_toArray, List.mem_map]; exact ⟨p, hp, rfl⟩)) hH hd
  | buildSlice t n ps => exact oBuildSlice_ok h (fun p hp => hx p.2 (by simp only [Op.operands, List.mem_toArray, List.mem_map]; exact ⟨p, hp, rfl⟩)) hH hd
  | load t x => exact oLoad_ok h (hx x (by simp [Op.operands])) hH hd
  | store t x y => exact oStore_ok h (fun z hz => hx z (by rcases hz with rfl | rfl <;> simp [Op.operands])) hH hd
  | nilCheck x => exact oNil_ok h (hx x (by simp [Op.operands])) hH hd
  | binOp op t x y ty => exact oBin_ok h (fun z hz => hx z (by rcases hz with rfl | rfl <;> simp [Op.operands])) hH hd
  | unOp op t x => exact oUn_ok h (hx x (by simp [Op.operands])) hH hd
  | convert t u x => exact oConvert_ok h (hx x (by simp [Op.operands])) hH hd
  | makeFunc f xs cs => exact oMakeFunc_ok h (fun z hz => hx z (by simp only [Op.operands, Array.mem_append]; right; simpa using hz)) hH hd
  | makeSlice t x y => exact oMakeSlice_ok h (fun z hz => hx z (by rcases hz with rfl | rfl <;> simp [Op.operands])) hH hd
  | slice t x l hh m => exact oSlice_ok h (fun z hz => hx z (by rcases hz with rfl | hz | hz | hz <;> simp [Op.operands, *])) hH hd
  | fieldAddr t x f => exact oFieldAddr_ok h (hx x (by simp [Op.operands])) hH hd
  | field t x f => exact oField_ok h (hx x (by simp [Op.operands])) hH hd
  | indexAddr t x i => exact oIndexAddr_ok h (fun z hz => hx z (by rcases hz with rfl | rfl <;> simp [Op.operands])) hH hd
  | index t x i => exact oIndex_ok h (fun z hz => hx z (by rcases hz with rfl | rfl <;> simp [Op.operands])) hH hd
  | extract x i => exact oExtract_ok h (hx x (by simp [Op.operands])) hH hd
  | makeMap t r => exact oMakeMap_ok (E := E) h hH hd
  | lookup t x i ok => exact oLookup_ok h (fun z hz => hx z (by rcases hz with rfl | rfl <;> simp [Op.operands])) hH hd
  | mapUpdate t m k x => exact (oMapUpd_ok h (fun z hz => hx z (by rcases hz with rfl | rfl | rfl <;> simp [Op.operands])) hH hd).imp_right And.left
  | insert t m k x => exact (oMapUpd_ok h (fun z hz => hx z (by rcases hz with rfl | rfl | rfl <;> simp [Op.operands])) hH hd).imp_right And.right
  | range t x => exact oRange_ok h (hx x (by simp [Op.operands])) hH hd
  | entry x => exact oEntry_ok h (hx x (by simp [Op.operands])) hH hd
  | mapEntry t m k => exact oMapEntry_ok h (fun z hz => hx z (by rcases hz with rfl | rfl <;> simp [Op.operands])) hH hd
  | entryStore t m s x => exact oEntryStore_ok h (fun z hz => hx z (by rcases hz with rfl | rfl | rfl <;> simp [Op.operands])) hH hd
  | call c =>
    obtain ⟨callee, args, ats⟩ := c
    cases callee with
    | value f => exact oCall_ok ho h (fun z hz => hx z (by simp only [Op.operands, Call.operands, Array.mem_append]; rcases hz with rfl | hz <;> simp_all)) hH hd
    | invoke r m => cases h
    | builtin b =>
      have hx' : ∀ z ∈ args.toList, ∀ a, E z = some a → VRel ρ a (ev z) := fun z hz => hx z (by simp only [Op.operands, Call.operands, Array.mem_append]; right; simpa using hz)
      cases b with
      | len =>
        simp only [stepA, callA] at h
        split at h
        · rename_i r hr
          cases h
          exact oLen_ok hr hx' hH hd
        · exact oLenMap_ok h hx' hH hd
      | delete => exact oDelete_ok h hx' hH hd
      | clear => exact oClear_ok h hx' hH hd
      | cap => exact oCap_ok h hx' hH hd
      | append => exact oAppend_ok h hx' hH hd
      | copy => exact oCopy_ok h hx' hH hd
      | max => exact oMax_ok h hx' hH hd
      | min => exact oMin_ok h hx' hH hd
      | _ => cases h
  | _ => cases h

/-! ### Operations that see no heap -/
def isPure : Op → Bool
  | .move _ => true
  | .assign _ => true
  | .pick _ _ _ => true
  | .build _ _ => true
  | .nilCheck _ => true
  | .binOp _ _ _ _ _ => true
  | .unOp _ _ _ => true
  | .makeFunc _ _ _ => true
  | .slice _ _ _ _ _ => true
  | .fieldAddr _ _ _ => true
  | .field _ _ _ => true
  | .indexAddr _ _ _ => true
  | .index _ _ _ => true
  | .extract _ _ => true
  | _ => false

theorem pure_map {α : Type} {x : Option α} {f : α → AV} (h : x.map (fun a => (f a, H)) = some (v, H')) : H' = H ∧ ∀ G : HP, x.map (fun a => (f a, G)) = some (v, G) := by
  obtain ⟨a, rfl, hv⟩ := map_some h
  cases hv
  exact ⟨rfl, fun _ => rfl⟩

theorem stepA_pure {op : Op} (hp : isPure op = true) (h : stepA P ora E H op = some (v, H')) : H' = H ∧ ∀ G : HP, stepA P ora E G op = some (v, G) := by
  cases op with
  | move x => exact pure_map h
  | assign x => exact pure_map h
  | pick c a b =>
    simp only [stepA, oPick] at h ⊢
    repeat' (split at h)
    all_goals first
     | (cases h; done)
     | (cases h; exact ⟨rfl, fun G => by simp [*]⟩)
     | (obtain ⟨a, ha, hv⟩ := map_some h; cases hv; exact ⟨rfl, fun G => by simp [*]⟩)
  | build t ps => exact pure_map h
  | nilCheck x =>
    simp only [stepA, oNil] at h ⊢
    repeat' (split at h)
    all_goals first
     | (cases h; done)
     | (cases h; exact ⟨rfl, fun G => by simp [*]⟩)
     | (obtain ⟨a, ha, hv⟩ := map_some h; cases hv; exact ⟨rfl, fun G => by simp [*]⟩)
  | binOp op t x y ty =>
    simp only [stepA, oBin] at h ⊢
    repeat' (split at h)
    all_goals first
     | (cases h; done)
     | (cases h; exact ⟨rfl, fun G => by simp [*]⟩)
     | (obtain ⟨a, ha, hv⟩ := map_some h; cases hv; exact ⟨rfl, fun G => by simp [*]⟩)
  | unOp op t x =>
    simp only [stepA, oUn] at h ⊢
    repeat' (split at h)
    all_goals first
     | (cases h; done)
     | (cases h; exact ⟨rfl, fun G => by simp [*]⟩)
     | (obtain ⟨a, ha, hv⟩ := map_some h; cases hv; exact ⟨rfl, fun G => by simp [*]⟩)
  | makeFunc f xs cs =>
    simp only [stepA, oMakeFunc] at h ⊢
    repeat' (split at h)
    all_goals first
     | (cases h; done)
     | (cases h; exact ⟨rfl, fun G => by simp [*]⟩)
     | (obtain ⟨a, ha, hv⟩ := map_some h; cases hv; exact ⟨rfl, fun G => by simp [*]⟩)
  | slice t x l hh m =>
    simp only [stepA, oSlice] at h ⊢
    repeat' (split at h)
    all_goals first
     | (cases h; done)
     | (cases h; exact ⟨rfl, fun G => by simp [*]⟩)
     | (obtain ⟨a, ha, hv⟩ := map_some h; cases hv; exact ⟨rfl, fun G => by simp [*]⟩)
  | fieldAddr t x f =>
    simp only [stepA, oFieldAddr] at h ⊢
    repeat' (split at h)
    all_goals first
     | (cases h; done)
     | (cases h; exact ⟨rfl, fun G => by simp [*]⟩)
     | (obtain ⟨a, ha, hv⟩ := map_some h; cases hv; exact ⟨rfl, fun G => by simp [*]⟩)
  | field t x f =>
    simp only [stepA, oField] at h ⊢
    repeat' (split at h)
    all_goals first
     | (cases h; done)
     | (cases h; exact ⟨rfl, fun G => by simp [*]⟩)
     | (obtain ⟨a, ha, hv⟩ := map_some h; cases hv; exact ⟨rfl, fun G => by simp [*]⟩)
  | indexAddr t x i =>
    simp only [stepA, oIndexAddr] at h ⊢
    repeat' (split at h)
    all_goals first
     | (cases h; done)
     | (cases h; exact ⟨rfl, fun G => by simp [*]⟩)
     | (obtain ⟨a, ha, hv⟩ := map_some h; cases hv; exact ⟨rfl, fun G => by simp [*]⟩)
  | index t x i =>
    simp only [stepA, oIndex] at h ⊢
    repeat' (split at h)
    all_goals first
     | (cases h; done)
     | (cases h; exact ⟨rfl, fun G => by simp [*]⟩)
     | (obtain ⟨a, ha, hv⟩ := map_some h; cases hv; exact ⟨rfl, fun G => by simp [*]⟩)
  | extract x i =>
    simp only [stepA, oExtract] at h ⊢
    repeat' (split at h)
    all_goals first
     | (cases h; done)
     | (cases h; exact ⟨rfl, fun G => by simp [*]⟩)
     | (obtain ⟨a, ha, hv⟩ := map_some h; cases hv; exact ⟨rfl, fun G => by simp [*]⟩)
  | _ => cases hp
end
end Go.Fv
