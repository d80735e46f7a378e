/-
  A second abstract evaluator of the model's code: one operation, whichever. Conditions: none; nothing here speaks of one program.
  A second abstract evaluator of the model's code: frames, and regions that keep the text's order. Conditions: none; nothing here speaks of one program.
  A second abstract evaluator of the model's code: regions that draw their order: plain facts on who waits for whom. Conditions: none; nothing here speaks of one program.
  A second abstract evaluator of the model's code: places cut at a number, and what a step says of less and of more. Conditions: none; nothing here speaks of one program.
-/
import Derived.Test.YtdkoockhfmbcaaaGreatDoorFvM
import Derived.TacticsIn
import Derived.OrdersIn
set_option linter.unusedSectionVars false
set_option linter.unusedVariables false
namespace Go.Fv
section
variable {P : Program} [Plain P] {ora : Ora} {E : Operand → Option AV} {H H' : HP} {w : World} {ρ : PM} {ev : Operand → Value} {v : AV}

noncomputable def callA (P : Program) [Plain P] (ora : Ora) (E : Operand → Option AV) (H : HP) (c : Call) : R :=
  match c.callee with
  | .value f => oCall ora E H f c.args
  | .builtin b => match b with
    | .len => match oLen P E H c.args c.argTypes with
      | some r => some r
      | none => oLenMap P E H c.args c.argTypes
    | .delete => oDelete P E H c.args c.argTypes
    | .clear => oClear P E H c.args c.argTypes
    | .cap => oCap P E H c.args c.argTypes
    | .append => oAppend P E H c.args c.argTypes
    | .copy => oCopy P E H c.args c.argTypes
    | .max => oMax E H false c.args
    | .min => oMax E H true c.args
    | _ => none
  | _ => none

noncomputable def stepA (P : Program) [Plain P] (ora : Ora) (E : Operand → Option AV) (H : HP) (op : Op) : R :=
  match op with
  | .move x => oMove E H x
  | .assign x => oMove E H x
  | .pick c a b => oPick E H c a b
  | .alloc t => oAlloc P H t
  | .box _ x => oBox E H x
  | .build t ps => oBuild P E H t ps
  | .buildSlice t n ps => oBuildSlice P E H t n ps
  | .load t x => oLoad P E H t x
  | .store t x y => oStore P E H t x y
  | .nilCheck x => oNil E H x
  | .binOp op t x y _ => oBin P E H op t x y
  | .unOp op _ x => oUn E H op x
  | .convert t u x => oConvert P E H t u x
  | .makeFunc f xs cs => oMakeFunc E H f xs cs
  | .makeSlice t x y => oMakeSlice P E H t x y
  | .slice t x l h m => oSlice P E H t x l h m
  | .fieldAddr t x f => oFieldAddr P E H t x f
  | .field t x f => oField P E H t x f
  | .indexAddr t x i => oIndexAddr P E H t x i
  | .index t x i => oIndex P E H t x i
  | .sliceToArrayPointer t x => oArrAt P E H t x
  | .extract x i => oExtract E H x i
  | .makeMap _ r => oMakeMap E H r
  | .lookup t x i ok => oLookup P E H t x i ok
  | .mapUpdate t m k x => oMapUpd P E H t m k x
  | .insert t m k x => oMapUpd P E H t m k x
  | .range t x => oRange P E H t x
  | .entry x => oEntry E H x
  | .mapEntry t m k => oMapEntry P E H t m k
  | .entryStore _ m s x => oEntryStore E H m s x
  | .call c => callA P ora E H c
  | _ => none

/-- The same, by the recursor, with arms that hold no variable: cheap for the kernel. -/
noncomputable def stepF (op : Op) : (P : Program) → Plain P → Ora → (Operand → Option AV) → HP → R :=
  Op.rec (motive := fun _ => (P : Program) → Plain P → Ora → (Operand → Option AV) → HP → R)
    (fun x P _ ora E H => oMove E H x)
    (fun x P _ ora E H => oMove E H x)
    (fun c a b P _ ora E H => oPick E H c a b)
    (fun t P _ ora E H => oAlloc P H t)
    (fun t x P _ ora E H => oBox E H x)
    (fun t ps P _ ora E H => oBuild P E H t ps)
    (fun t n ps P _ ora E H => oBuildSlice P E H t n ps)
    (fun t m k x P _ ora E H => oMapUpd P E H t m k x)
    (fun t x P _ ora E H => oLoad P E H t x)
    (fun t x y P _ ora E H => oStore P E H t x y)
    (fun g P _ ora E H => none)
    (fun g P _ ora E H => none)
    (fun x P _ ora E H => oNil E H x)
    (fun o t x y u P _ ora E H => oBin P E H o t x y)
    (fun o t x P _ ora E H => oUn E H o x)
    (fun t u x P _ ora E H => oConvert P E H t u x)
    (fun t x P _ ora E H => oArrAt P E H t x)
    (fun t x P _ ora E H => none)
    (fun f xs cs P _ ora E H => oMakeFunc E H f xs cs)
    (fun t r P _ ora E H => oMakeMap E H r)
    (fun t x P _ ora E H => none)
    (fun t x y P _ ora E H => oMakeSlice P E H t x y)
    (fun t x l h m P _ ora E H => oSlice P E H t x l h m)
    (fun t x f P _ ora E H => oFieldAddr P E H t x f)
    (fun t x f P _ ora E H => oField P E H t x f)
    (fun t x i P _ ora E H => oIndexAddr P E H t x i)
    (fun t x i P _ ora E H => oIndex P E H t x i)
    (fun t x i ok P _ ora E H => oLookup P E H t x i ok)
    (fun t m k x P _ ora E H => oMapUpd P E H t m k x)
    (fun t m k P _ ora E H => oMapEntry P E H t m k)
    (fun t m s x P _ ora E H => oEntryStore E H m s x)
    (fun t x P _ ora E H => oRange P E H t x)
    (fun x s P _ ora E H => none)
    (fun x P _ ora E H => oEntry E H x)
    (fun x t u k P _ ora E H => none)
    (fun x i P _ ora E H => oExtract E H x i)
    (fun c P _ ora E H => callA P ora E H c)
    (fun c P _ ora E H => none)
    (fun c P _ ora E H => none)
    (fun x P _ ora E H => none)
    (fun c x P _ ora E H => none)
    (fun t c k P _ ora E H => none)
    (fun cs b P _ ora E H => none) op
theorem stepF_eq (P : Program) [I : Plain P] (ora : Ora) (E : Operand → Option AV) (H : HP) (op : Op) : stepF op P I ora E H = stepA P ora E H op := by cases op <;> rfl

theorem mem_ops {op : Op} {xs : List Operand} (h : op.operands.toList = xs) {x : Operand} (hx : x ∈ xs) : x ∈ op.operands := by
  rw [← Array.mem_toList_iff, h]; exact hx

theorem stepA_ok (ho : OraOK P ora) {op : Op} (h : stepA P ora E H op = some (v, H')) (hx : ∀ x ∈ op.operands, ∀ a, E x = some a → VRel ρ a (ev x)) (hH : HRel ρ H w) (hd : Dom ρ H.n) (hj : J ρ w) :
    St H H' ∧ OpS P ρ ev H w op v H' := by
  cases op with
  | move x => exact ⟨(oMove_ok (P := P) h (fun a => hx x (by simp [Op.operands]) a) hH hd).1, (oMove_ok (P := P) h (fun a => hx x (by simp [Op.operands]) a) hH hd).2.1⟩
  | assign x => exact ⟨(oMove_ok (P := P) h (fun a => hx x (by simp [Op.operands]) a) hH hd).1, (oMove_ok (P := P) h (fun a => hx x (by simp [Op.operands]) a) hH hd).2.2⟩
  | pick c a b => exact oPick_ok h (fun z hz => hx z (by rcases hz with rfl | rfl | rfl <;> simp [Op.operands])) hH hd
  | alloc t => exact oAlloc_ok h hH hd
  | box t x => exact oBox_ok h (hx x (by simp [Op.operands])) hH hd
  | build t ps => exact oBuild_ok h (fun p hp => hx p.2 (by simp only [Op.operands, List.mem_toArray, List.mem_map]; exact ⟨p, hp, rfl⟩)) hH hd
  | buildSlice t n ps => exact oBuildSlice_ok h (fun p hp => hx p.2 (by simp only [Op.operands, List.mem_toArray, List.mem_map]; exact ⟨p, hp, rfl⟩)) hH hd
  | load t x => exact oLoad_ok h (hx x (by simp [Op.operands])) hH hd
  | store t x y => exact oStore_ok h (fun z hz => hx z (by rcases hz with rfl | rfl <;> simp [Op.operands])) hH hd
  | nilCheck x => exact oNil_ok h (hx x (by simp [Op.operands])) hH hd
  | binOp op t x y ty => exact oBin_ok h (fun z hz => hx z (by rcases hz with rfl | rfl <;> simp [Op.operands])) hH hd
  | unOp op t x => exact oUn_ok h (hx x (by simp [Op.operands])) hH hd
  | convert t u x => exact oConvert_ok h (hx x (by simp [Op.operands])) hH hd
  | makeFunc f xs cs => exact oMakeFunc_ok h (fun z hz => hx z (by simp only [Op.operands, Array.mem_append]; right; simpa using hz)) hH hd
  | makeSlice t x y => exact oMakeSlice_ok h (fun z hz => hx z (by rcases hz with rfl | rfl <;> simp [Op.operands])) hH hd
  | slice t x l hh m => exact oSlice_ok h (fun z hz => hx z (by rcases hz with rfl | hz | hz | hz <;> simp [Op.operands, *])) hH hd
  | fieldAddr t x f => exact oFieldAddr_ok h (hx x (by simp [Op.operands])) hH hd
  | field t x f => exact oField_ok h (hx x (by simp [Op.operands])) hH hd
  | indexAddr t x i => exact oIndexAddr_ok h (fun z hz => hx z (by rcases hz with rfl | rfl <;> simp [Op.operands])) hH hd
  | sliceToArrayPointer t x => exact oArrAt_ok h (hx x (by simp [Op.operands])) hH hd
  | index t x i => exact oIndex_ok h (fun z hz => hx z (by rcases hz with rfl | rfl <;> simp [Op.operands])) hH hd
  | extract x i => exact oExtract_ok h (hx x (by simp [Op.operands])) hH hd
  | makeMap t r => exact oMakeMap_ok (E := E) h hH hd
  | lookup t x i ok => exact oLookup_ok h (fun z hz => hx z (by rcases hz with rfl | rfl <;> simp [Op.operands])) hH hd
  | mapUpdate t m k x => exact (oMapUpd_ok h (fun z hz => hx z (by rcases hz with rfl | rfl | rfl <;> simp [Op.operands])) hH hd).imp_right And.left
  | insert t m k x => exact (oMapUpd_ok h (fun z hz => hx z (by rcases hz with rfl | rfl | rfl <;> simp [Op.operands])) hH hd).imp_right And.right
  | range t x => exact oRange_ok h (hx x (by simp [Op.operands])) hH hd
  | entry x => exact oEntry_ok h (hx x (by simp [Op.operands])) hH hd
  | mapEntry t m k => exact oMapEntry_ok h (fun z hz => hx z (by rcases hz with rfl | rfl <;> simp [Op.operands])) hH hd
  | entryStore t m s x => exact oEntryStore_ok h (fun z hz => hx z (by rcases hz with rfl | rfl | rfl <;> simp [Op.operands])) hH hd
  | call c =>
    obtain ⟨callee, args, ats⟩ := c
    cases callee with
    | value f => exact oCall_ok ho h (fun z hz => hx z (by simp only [Op.operands, Call.operands, Array.mem_append]; rcases hz with rfl | hz <;> simp_all)) hH hd hj
    | invoke r m => cases h
    | builtin b =>
      have hx' : ∀ z ∈ args.toList, ∀ a, E z = some a → VRel ρ a (ev z) := fun z hz => hx z (by simp only [Op.operands, Call.operands, Array.mem_append]; right; simpa using hz)
      cases b with
      | len =>
        simp only [stepA, callA] at h
        split at h
        · rename_i r hr
          cases h
          exact oLen_ok hr hx' hH hd
        · exact oLenMap_ok h hx' hH hd
      | delete => exact oDelete_ok h hx' hH hd
      | clear => exact oClear_ok h hx' hH hd
      | cap => exact oCap_ok h hx' hH hd
      | append => exact oAppend_ok h hx' hH hd
      | copy => exact oCopy_ok h hx' hH hd
      | max => exact oMax_ok h hx' hH hd
      | min => exact oMin_ok h hx' hH hd
      | _ => cases h
  | _ => cases h

/-! ### Operations that see no heap -/
def isPure : Op → Bool
  | .move _ => true
  | .assign _ => true
  | .pick _ _ _ => true
  | .build _ _ => true
  | .nilCheck _ => true
  | .binOp _ _ _ _ _ => true
  | .unOp _ _ _ => true
  | .makeFunc _ _ _ => true
  | .slice _ _ _ _ _ => true
  | .fieldAddr _ _ _ => true
  | .field _ _ _ => true
  | .indexAddr _ _ _ => true
  | .index _ _ _ => true
  | .sliceToArrayPointer _ _ => true
  | .extract _ _ => true
  | _ => false

theorem pure_map {α : Type} {x : Option α} {f : α → AV} (h : x.map (fun a => (f a, H)) = some (v, H')) : H' = H ∧ ∀ G : HP, x.map (fun a => (f a, G)) = some (v, G) := by
  obtain ⟨a, rfl, hv⟩ := map_some h
  cases hv
  exact ⟨rfl, fun _ => rfl⟩

theorem stepA_pure {op : Op} (hp : isPure op = true) (h : stepA P ora E H op = some (v, H')) : H' = H ∧ ∀ G : HP, stepA P ora E G op = some (v, G) := by
  cases op with
  | move x => exact pure_map h
  | assign x => exact pure_map h
  | pick c a b =>
    simp only [stepA, oPick] at h ⊢
    repeat' (split at h)
    all_goals first
     | (cases h; done)
     | (cases h; exact ⟨rfl, fun G => by simp [*]⟩)
     | (obtain ⟨a, ha, hv⟩ := map_some h; cases hv; exact ⟨rfl, fun G => by simp [*]⟩)
  | build t ps => exact pure_map h
  | nilCheck x =>
    simp only [stepA, oNil] at h ⊢
    repeat' (split at h)
    all_goals first
     | (cases h; done)
     | (cases h; exact ⟨rfl, fun G => by simp [*]⟩)
     | (obtain ⟨a, ha, hv⟩ := map_some h; cases hv; exact ⟨rfl, fun G => by simp [*]⟩)
  | binOp op t x y ty =>
    simp only [stepA, oBin] at h ⊢
    repeat' (split at h)
    all_goals first
     | (cases h; done)
     | (cases h; exact ⟨rfl, fun G => by simp [*]⟩)
     | (obtain ⟨a, ha, hv⟩ := map_some h; cases hv; exact ⟨rfl, fun G => by simp [*]⟩)
  | unOp op t x =>
    simp only [stepA, oUn] at h ⊢
    repeat' (split at h)
    all_goals first
     | (cases h; done)
     | (cases h; exact ⟨rfl, fun G => by simp [*]⟩)
     | (obtain ⟨a, ha, hv⟩ := map_some h; cases hv; exact ⟨rfl, fun G => by simp [*]⟩)
  | makeFunc f xs cs =>
    simp only [stepA, oMakeFunc] at h ⊢
    repeat' (split at h)
    all_goals first
     | (cases h; done)
     | (cases h; exact ⟨rfl, fun G => by simp [*]⟩)
     | (obtain ⟨a, ha, hv⟩ := map_some h; cases hv; exact ⟨rfl, fun G => by simp [*]⟩)
  | slice t x l hh m =>
    simp only [stepA, oSlice] at h ⊢
    repeat' (split at h)
    all_goals first
     | (cases h; done)
     | (cases h; exact ⟨rfl, fun G => by simp [*]⟩)
     | (obtain ⟨a, ha, hv⟩ := map_some h; cases hv; exact ⟨rfl, fun G => by simp [*]⟩)
  | fieldAddr t x f =>
    simp only [stepA, oFieldAddr] at h ⊢
    repeat' (split at h)
    all_goals first
     | (cases h; done)
     | (cases h; exact ⟨rfl, fun G => by simp [*]⟩)
     | (obtain ⟨a, ha, hv⟩ := map_some h; cases hv; exact ⟨rfl, fun G => by simp [*]⟩)
  | field t x f =>
    simp only [stepA, oField] at h ⊢
    repeat' (split at h)
    all_goals first
     | (cases h; done)
     | (cases h; exact ⟨rfl, fun G => by simp [*]⟩)
     | (obtain ⟨a, ha, hv⟩ := map_some h; cases hv; exact ⟨rfl, fun G => by simp [*]⟩)
  | indexAddr t x i =>
    simp only [stepA, oIndexAddr] at h ⊢
    repeat' (split at h)
    all_goals first
     | (cases h; done)
     | (cases h; exact ⟨rfl, fun G => by simp [*]⟩)
     | (obtain ⟨a, ha, hv⟩ := map_some h; cases hv; exact ⟨rfl, fun G => by simp [*]⟩)
  | index t x i =>
    simp only [stepA, oIndex] at h ⊢
    repeat' (split at h)
    all_goals first
     | (cases h; done)
     | (cases h; exact ⟨rfl, fun G => by simp [*]⟩)
     | (obtain ⟨a, ha, hv⟩ := map_some h; cases hv; exact ⟨rfl, fun G => by simp [*]⟩)
  | sliceToArrayPointer t x =>
    simp only [stepA, oArrAt] at h ⊢
    repeat' (split at h)
    all_goals first
     | (cases h; done)
     | (cases h; exact ⟨rfl, fun G => by simp [*]⟩)
     | (obtain ⟨a, ha, hv⟩ := map_some h; cases hv; exact ⟨rfl, fun G => by simp [*]⟩)
  | extract x i =>
    simp only [stepA, oExtract] at h ⊢
    repeat' (split at h)
    all_goals first
     | (cases h; done)
     | (cases h; exact ⟨rfl, fun G => by simp [*]⟩)
     | (obtain ⟨a, ha, hv⟩ := map_some h; cases hv; exact ⟨rfl, fun G => by simp [*]⟩)
  | _ => cases hp
end
end Go.Fv

set_option linter.unusedSectionVars false
set_option linter.unusedVariables false
namespace Go.Fv

/-- The wide fence, in a round or not. -/
def WF (r : Option Nat) : Fence := { Fence.wide with round := r }
theorem wf_fn (r : Option Nat) (f : FuncId) : (WF r).fn f := trivial
theorem callsIn_wf {r : Option Nat} {n : Nat} {P : Program} {f : FuncId} {args : Array Value} {w : World} {R : Ending → World → Prop} : CallsIn (WF r) n P f args w R ↔ Calls P f args w R := callsIn_wide (n := n)

theorem roundIn_wf {r : Option Nat} {n : Nat} {P : Program} {l : Nat} {f : FuncId} {tmps : Array Value} {assign body : Code} {w : World} {R : Ending → World → Prop} (h : RoundIn Fence.wide 0 P l f tmps assign body w R) : RoundIn (WF r) n P l f tmps assign body w R :=
  ⟨trivial, fun c cs _ => h.2 c cs (room_wide _)⟩

/-- A frame: its slots as a tree. -/
abbrev Fm := PT AV

structure FRel (n : Nat) (ρ : PM) (F : Fm) (a : Act) : Prop where
  sz : a.tmps.size = n
  get : ∀ t v, F.get t = some v → ∃ u, a.tmps[t]? = some u ∧ VRel ρ v u

theorem FRel.mono {n : Nat} {ρ ρ' : PM} {F : Fm} {a : Act} (h : FRel n ρ F a) (hle : PM.le ρ ρ') : FRel n ρ' F a :=
  ⟨h.sz, fun t v hv => let ⟨u, h1, h2⟩ := h.get t v hv; ⟨u, h1, h2.mono hle⟩⟩

noncomputable section
def evF (F : Fm) : Operand → Option AV
  | .tmp t => F.get t
  | .const v => if litOK v then some (.one (.lit v)) else none
  | .global g => some (.one (.lit (.pointer (some ⟨g, 0, none⟩))))
  | .func f => some (.one (.lit (.func (.func f) #[] #[])))
def putF (n : Nat) (F : Fm) (dst : Option Tmp) (v : AV) : Option Fm :=
  match dst with
  | none => some F
  | some d => match Nat.ble (Nat.succ d) n with
    | true => some (F.put d (some v))
    | false => none
end

theorem evF_rel {n : Nat} {ρ : PM} {F : Fm} {a : Act} (h : FRel n ρ F a) {x : Operand} {v : AV} (hx : evF F x = some v) : VRel ρ v (a.eval x) := by
  cases x with
  | tmp t =>
    obtain ⟨u, hu, hr⟩ := h.get t v hx
    have : a.eval (.tmp t) = u := by simp [Act.eval, Array.getD_eq_getD_getElem?, hu]
    rw [this]
    exact hr
  | const c =>
    simp only [evF] at hx
    split at hx
    · rename_i hc
      cases hx
      exact ⟨rfl, hc⟩
    · cases hx
  | global g => cases hx; exact ⟨rfl, rfl⟩
  | func f => cases hx; exact ⟨rfl, rfl⟩

theorem putF_rel {n : Nat} {ρ : PM} {F F' : Fm} {a : Act} {dst : Option Tmp} {v : AV} {u : Value} (h : FRel n ρ F a) (hv : VRel ρ v u) (hp : putF n F dst v = some F') : FRel n ρ F' (a.put dst u) := by
  cases dst with
  | none => cases hp; exact h
  | some d =>
    simp only [putF] at hp
    split at hp
    · rename_i hb
      cases hp
      have hd : d < a.tmps.size := by rw [h.sz]; exact Nat.le_of_ble_eq_true hb
      refine ⟨by simp [Act.put, h.sz], fun t v' hv' => ?_⟩
      rw [PT.get_put] at hv'
      simp only [Act.put]
      split at hv'
      · rename_i ht
        subst ht
        cases hv'
        exact ⟨u, by rw [Array.getElem?_setIfInBounds_self_of_lt hd], hv⟩
      · rename_i ht
        obtain ⟨u', h1, h2⟩ := h.get t v' hv'
        exact ⟨u', by rw [Array.getElem?_setIfInBounds_ne (Ne.symm ht)]; exact h1, h2⟩
    · cases hp

theorem put_defers (a : Act) (dst : Option Tmp) (u : Value) : (a.put dst u).defers = a.defers := by cases dst <;> rfl

/-- The abstract state stands for the activation and the world. -/
structure SRel (n : Nat) (ρ : PM) (F : Fm) (H : HP) (a : Act) (w : World) : Prop where
  fr : FRel n ρ F a
  hp : HRel ρ H w
  dom : Dom ρ H.n
  j : J ρ w

section
variable {P : Program} [Plain P] {ora : Ora} {n m : Nat} {r : Option Nat} {ρ : PM} {F F' : Fm} {H H' : HP} {a : Act} {w : World} {v : AV}

theorem stepA_no_defer {E : Operand → Option AV} {op : Op} (h : stepA P ora E H op = some (v, H')) (c : Call) : op ≠ .defer c := by
  rintro rfl
  cases h

theorem upon_of_gives {o : Oper} {K : Act → World → Prop} {Q : Exit → Act → World → Prop} {Q' : Value → World → Prop} {x : Result Next} (h : GivesR P Q' x)
    (hk : ∀ u w', Q' u w' → K (a.put o.dst u) w') : o.uponIn (WF r) m P a K Q x := by
  unfold GivesR at h
  split at h
  · exact hk _ _ h
  · exact hk _ _ h
  · refine ⟨fun hh => by simp [WF, Fence.wide] at hh, callsIn_wf.2 (Calls.mono h fun e w' ⟨u, he, hq⟩ => ?_)⟩
    subst he
    exact hk _ _ hq
  · refine ⟨fun hh => by simp [WF, Fence.wide] at hh, roundIn_wf (RoundIn.mono h fun e w' ⟨u, he, hq⟩ => ?_)⟩
    subst he
    exact hk _ _ hq
  · exact h.elim

theorem oper_ok (ho : OraOK P ora) {o : Oper} {K : Act → World → Prop} {Q : Exit → Act → World → Prop} (h : stepA P ora (evF F) H o.op = some (v, H')) (hp : putF n F o.dst v = some F') (s : SRel n ρ F H a w)
    (hk : ∀ ρ' a' w', SRel n ρ' F' H' a' w' → a'.defers = a.defers → Sim ρ H w ρ' H' w' → K a' w') : o.wpIn (WF r) m P a w K Q := by
  obtain ⟨hst, hop⟩ := stepA_ok (w := w) (ev := a.eval) (ρ := ρ) ho h (fun x _ v hv => evF_rel s.fr hv) s.hp s.dom s.j
  refine ⟨fun f _ => trivial, ?_⟩
  rw [Oper.semAt_eq _ _ _ (stepA_no_defer h)]
  obtain ⟨dst, op, ty, pos, after, guard⟩ := o
  refine upon_of_gives (hop dst ty pos after guard) fun u w' ⟨ρ', hv, hs⟩ => ?_
  exact hk ρ' _ w' ⟨putF_rel (s.fr.mono hs.le) hv hp, hs.rel, hs.dom, s.j.step hs⟩ (put_defers _ _ _) hs

/-! ### Guards -/
noncomputable def guardF (F : Fm) (t : Option Tmp) (want : Bool) : Option Bool :=
  match t with
  | none => some false
  | some t => match F.get t with
    | some (.one (.lit (.bool b))) => some (b == want)
    | some (.tup _) => some false
    | _ => none
noncomputable def wantF (ops : List Oper) (F : Fm) (g : Option (Nat × Bool)) : Option Bool :=
  match g with
  | none => some true
  | some (j, want) => guardF F ((ops[j]?).bind (·.dst)) want

theorem wantF_ok {ops : List Oper} {o : Oper} {b : Bool} (h : FRel n ρ F a) (hw : wantF ops F o.guard = some b) : Region.wanted o (yielded ops.toArray a.tmps) = b := by
  unfold wantF at hw
  unfold Region.wanted
  cases hg : o.guard with
  | none => rw [hg] at hw; cases hw; rfl
  | some p =>
    obtain ⟨j, want⟩ := p
    rw [hg] at hw
    simp only at hw ⊢
    unfold yielded
    simp only [List.getElem?_toArray]
    cases hd : (ops[j]?).bind (·.dst) with
    | none => rw [hd] at hw; cases hw; cases want <;> rfl
    | some t =>
      rw [hd] at hw
      simp only [guardF] at hw
      simp only [Option.bind_some]
      split at hw
      · rename_i b' hb
        cases hw
        obtain ⟨u, hu, rfl, _⟩ := h.get t _ hb
        rw [hu]
        cases b' <;> cases want <;> rfl
      · rename_i vs hb
        cases hw
        obtain ⟨u, hu, us, rfl, _⟩ := h.get t _ hb
        rw [hu]
        cases want <;> rfl
      · cases hw

/-- A region in the text's order. -/
noncomputable def seqA (P : Program) [Plain P] (ora : Ora) (n : Nat) (ops : List Oper) : List Oper → Fm → HP → Option (Fm × HP)
  | [], F, H => some (F, H)
  | o :: rest, F, H =>
    match wantF ops F o.guard with
    | some true => match stepA P ora (evF F) H o.op with
      | some (v, H') => match putF n F o.dst v with
        | some F' => seqA P ora n ops rest F' H'
        | none => none
      | none => none
    | some false => match putF n F o.dst undefA with
      | some F' => seqA P ora n ops rest F' H
      | none => none
    | none => none

theorem seqA_wp (ho : OraOK P ora) {ops : List Oper} {Q : Exit → Act → World → Prop} : ∀ (rest : List Oper) {ρ : PM} {F F' : Fm} {H H' : HP} {a : Act} {w : World},
    seqA P ora n ops rest F H = some (F', H') → SRel n ρ F H a w → (∀ ρ' a' w', SRel n ρ' F' H' a' w' → a'.defers = a.defers → Sim ρ H w ρ' H' w' → Q .normal a' w') → wpListIn (WF r) m P ops.toArray Q rest a w
  | [], ρ, F, F', H, H', a, w, h, s, hq => by cases h; exact hq ρ a w s rfl (Sim.refl s.hp s.dom)
  | o :: rest, ρ, F, F', H, H', a, w, h, s, hq => by
    simp only [seqA] at h
    split at h
    · rename_i hw
      have hwant := wantF_ok s.fr hw
      split at h
      · rename_i v H1 hstep
        split at h
        · rename_i F1 hput
          simp only [wpListIn]
          rw [if_pos hwant]
          exact oper_ok ho hstep hput s fun ρ' a' w' s' hd hs => seqA_wp ho rest h s' fun ρ2 a2 w2 s2 hd2 hs2 => hq ρ2 a2 w2 s2 (hd2.trans hd) (hs.trans s.dom hs2)
        · cases h
      · cases h
    · rename_i hw
      have hwant := wantF_ok s.fr hw
      split at h
      · rename_i F1 hput
        simp only [wpListIn]
        rw [if_neg (by rw [hwant]; simp)]
        refine ⟨fun f _ => trivial, ?_⟩
        exact seqA_wp ho rest h ⟨putF_rel s.fr (undef_rel ρ) hput, s.hp, s.dom, s.j⟩ fun ρ2 a2 w2 s2 hd2 hs2 => hq ρ2 a2 w2 s2 (hd2.trans (put_defers _ _ _)) hs2
      · cases h
    · cases h

theorem wp_seqA (ho : OraOK P ora) {id : Nat} {ops : List Oper} {Q : Exit → Act → World → Prop} (h : seqA P ora n ops ops F H = some (F', H')) (s : SRel n ρ F H a w)
    (hq : ∀ ρ' a' w', SRel n ρ' F' H' a' w' → a'.defers = a.defers → Sim ρ H w ρ' H' w' → Q .normal a' w') : (Code.region id ops.toArray false).wpIn (WF r) m P Q a w :=
  wpIn_region_lit (seqA_wp ho ops h s hq)
end
end Go.Fv

set_option linter.unusedSectionVars false
set_option linter.unusedVariables false
namespace Go.Fv

/-! ### Who waits for whom -/
def maskOf (k : Nat) (acc : List Nat) (es : List Edge) : Nat :=
  es.foldl (fun s e => if Region.binds .any e && decide (e.on < k) then s ||| 2 ^ e.on ||| acc.getD e.on 0 else s) 0

def befGo : List Oper → Nat → List Nat → List Nat
  | [], _, acc => acc
  | o :: os, k, acc => befGo os (k + 1) (acc ++ [maskOf k acc o.after.toList])
def befs (ops : List Oper) : List Nat := befGo ops 0 []

theorem mask_spec {k : Nat} {acc : List Nat} {j : Nat} : ∀ (es : List Edge) (s : Nat), (es.foldl (fun s e => if Region.binds .any e && decide (e.on < k) then s ||| 2 ^ e.on ||| acc.getD e.on 0 else s) s).testBit j = true →
    s.testBit j = true ∨ ∃ e ∈ es, Region.binds .any e = true ∧ e.on < k ∧ (j = e.on ∨ (acc.getD e.on 0).testBit j = true)
  | [], s, h => .inl h
  | e :: es, s, h => by
    simp only [List.foldl_cons] at h
    rcases mask_spec es _ h with h1 | ⟨e', he, hr⟩
    · split at h1
      · rename_i hb
        simp only [Bool.and_eq_true, decide_eq_true_eq] at hb
        simp only [Nat.testBit_or, Bool.or_eq_true, Nat.testBit_two_pow, decide_eq_true_eq] at h1
        rcases h1 with (h1 | h1) | h1
        · exact .inl h1
        · exact .inr ⟨e, List.mem_cons_self .., hb.1, hb.2, .inl h1.symm⟩
        · exact .inr ⟨e, List.mem_cons_self .., hb.1, hb.2, .inr h1⟩
      · exact .inl h1
    · exact .inr ⟨e', List.mem_cons_of_mem _ he, hr⟩

theorem befGo_prefix : ∀ (os : List Oper) (k : Nat) (acc : List Nat), acc.length = k → ∃ r, befGo os k acc = acc ++ r ∧ r.length = os.length
  | [], _, acc, _ => ⟨[], by simp [befGo], rfl⟩
  | o :: os, k, acc, hk => by
    obtain ⟨r, h1, h2⟩ := befGo_prefix os (k + 1) (acc ++ [maskOf k acc o.after.toList]) (by simp [hk])
    exact ⟨maskOf k acc o.after.toList :: r, by simp [befGo, h1], by simp [h2]⟩

theorem befGo_spec : ∀ (os : List Oper) (k : Nat) (acc : List Nat), acc.length = k → ∀ (i : Nat) (o : Oper), os[i]? = some o → (befGo os k acc)[k + i]? = some (maskOf (k + i) ((befGo os k acc).take (k + i)) o.after.toList)
  | [], _, _, _, i, o, h => by simp at h
  | o :: os, k, acc, hk, 0, o', h => by
    simp only [List.getElem?_cons_zero, Option.some.injEq] at h
    subst h
    obtain ⟨r, h1, _⟩ := befGo_prefix os (k + 1) (acc ++ [maskOf k acc o.after.toList]) (by simp [hk])
    simp only [befGo, h1, Nat.add_zero]
    subst hk
    simp
  | o :: os, k, acc, hk, i + 1, o', h => by
    simp only [List.getElem?_cons_succ] at h
    have := befGo_spec os (k + 1) (acc ++ [maskOf k acc o.after.toList]) (by simp [hk]) i o' h
    simp only [befGo]
    rw [show k + (i + 1) = k + 1 + i by omega]
    exact this

theorem befs_spec {ops : List Oper} {k j : Nat} {o : Oper} (ho : ops[k]? = some o) (h : ((befs ops).getD k 0).testBit j = true) :
    ∃ e ∈ o.after.toList, Region.binds .any e = true ∧ e.on < k ∧ (j = e.on ∨ ((befs ops).getD e.on 0).testBit j = true) := by
  have h1 := befGo_spec ops 0 [] rfl k o ho
  simp only [Nat.zero_add] at h1
  change (befs ops)[k]? = _ at h1
  rw [List.getD_eq_getElem?_getD, h1, Option.getD_some] at h
  rcases mask_spec _ _ h with h2 | ⟨e, he, hb, hlt, hr⟩
  · simp at h2
  · refine ⟨e, he, hb, hlt, hr.imp id fun hr => ?_⟩
    change ((List.take k (befs ops)).getD e.on 0).testBit j = true at hr
    rw [List.getD_eq_getElem?_getD, List.getElem?_take_of_lt hlt] at hr
    rw [List.getD_eq_getElem?_getD]
    exact hr

theorem befs_lt {ops : List Oper} : ∀ (k j : Nat), ((befs ops).getD k 0).testBit j = true → j < k := by
  intro k
  induction k using Nat.strongRecOn with
  | _ k ih =>
    intro j h
    cases ho : ops[k]? with
    | none =>
      obtain ⟨r, h1, h2⟩ := befGo_prefix ops 0 [] rfl
      have hl : (befs ops).length = ops.length := by unfold befs; rw [h1]; simpa using h2
      have : (befs ops)[k]? = none := by rw [List.getElem?_eq_none_iff] at ho ⊢; omega
      rw [List.getD_eq_getElem?_getD, this] at h
      simp at h
    | some o =>
      obtain ⟨e, _, _, hlt, hr⟩ := befs_spec ho h
      rcases hr with rfl | hr
      · exact hlt
      · exact Nat.lt_trans (ih e.on hlt j hr) hlt

/-! ### What does not hang on the run -/
def edgesOk : List Oper → Nat → Bool
  | [], _ => true
  | o :: os, k => o.after.toList.all (fun e => !Region.binds .any e || decide (e.on < k)) && edgesOk os (k + 1)
def dstsOk : List Oper → Bool
  | [] => true
  | o :: os => (match o.dst with | some d => os.all fun p => p.dst != some d | none => true) && dstsOk os
/-- Everybody who writes one of 'seen' is ordered with number k. -/
def writersOk (B : List Nat) (k : Nat) (seen : List Tmp) : List Oper → Nat → Bool
  | [], _ => true
  | p :: ps, j => (match p.dst with
      | some d => !seen.contains d || j == k || (if j < k then (B.getD k 0).testBit j else (B.getD j 0).testBit k)
      | none => true) && writersOk B k seen ps (j + 1)
def readsOk (ops : List Oper) (B : List Nat) : List Oper → Nat → Bool
  | [], _ => true
  | o :: os, k => writersOk B k (o.looksAt ops.toArray) ops 0 && readsOk ops B os (k + 1)
def flowOk (ops : List Oper) : Bool := edgesOk ops 0 && dstsOk ops && readsOk ops (befs ops) ops 0

theorem edgesOk_spec : ∀ (os : List Oper) (k : Nat), edgesOk os k = true → ∀ (i : Nat) (o : Oper), os[i]? = some o → ∀ e ∈ o.after, Region.binds .any e = true → e.on < k + i
  | [], _, _, i, o, h => by simp at h
  | o :: os, k, hk, 0, o', h => by
    simp only [List.getElem?_cons_zero, Option.some.injEq] at h
    subst h
    simp only [edgesOk, Bool.and_eq_true, List.all_eq_true] at hk
    intro e he hb
    have := hk.1 e (by simpa using he)
    simpa [hb] using this
  | o :: os, k, hk, i + 1, o', h => by
    simp only [List.getElem?_cons_succ] at h
    simp only [edgesOk, Bool.and_eq_true] at hk
    intro e he hb
    have := edgesOk_spec os (k + 1) hk.2 i o' h e he hb
    omega

theorem dstsOk_spec : ∀ (os : List Oper), dstsOk os = true → ∀ (i j : Nat) (o p : Oper) (d : Tmp), os[i]? = some o → os[j]? = some p → o.dst = some d → p.dst = some d → i = j
  | [], _, i, _, _, _, _, h, _, _, _ => by simp at h
  | x :: os, hk, i, j, o, p, d, hi, hj, ho, hp => by
    simp only [dstsOk, Bool.and_eq_true] at hk
    cases i with
    | zero =>
      cases j with
      | zero => rfl
      | succ j =>
        simp only [List.getElem?_cons_zero, Option.some.injEq, List.getElem?_cons_succ] at hi hj
        subst hi
        rw [ho] at hk
        have := List.all_eq_true.1 hk.1 p (List.mem_of_getElem? hj)
        simp [hp] at this
    | succ i =>
      cases j with
      | zero =>
        simp only [List.getElem?_cons_zero, Option.some.injEq, List.getElem?_cons_succ] at hi hj
        subst hj
        rw [hp] at hk
        have := List.all_eq_true.1 hk.1 o (List.mem_of_getElem? hi)
        simp [ho] at this
      | succ j =>
        simp only [List.getElem?_cons_succ] at hi hj
        rw [dstsOk_spec os hk.2 i j o p d hi hj ho hp]

theorem writersOk_spec {B : List Nat} {k : Nat} {seen : List Tmp} : ∀ (ps : List Oper) (j0 : Nat), writersOk B k seen ps j0 = true → ∀ (j : Nat) (p : Oper) (t : Tmp), ps[j]? = some p → p.dst = some t → t ∈ seen → j0 + j ≠ k →
    (j0 + j < k ∧ (B.getD k 0).testBit (j0 + j) = true) ∨ (k < j0 + j ∧ (B.getD (j0 + j) 0).testBit k = true)
  | [], _, _, j, _, _, h, _, _, _ => by simp at h
  | x :: ps, j0, hk, 0, p, t, hj, hp, ht, hne => by
    simp only [List.getElem?_cons_zero, Option.some.injEq] at hj
    subst hj
    simp only [writersOk, hp, Bool.and_eq_true, Bool.or_eq_true, Bool.not_eq_true', beq_iff_eq, Nat.add_zero] at hk hne ⊢
    rcases hk.1 with (h | h) | h
    · simp [ht] at h
    · exact absurd h hne
    · split at h
      · rename_i hlt; exact .inl ⟨hlt, h⟩
      · exact .inr ⟨by omega, h⟩
  | x :: ps, j0, hk, j + 1, p, t, hj, hp, ht, hne => by
    simp only [List.getElem?_cons_succ] at hj
    simp only [writersOk, Bool.and_eq_true] at hk
    have := writersOk_spec ps (j0 + 1) hk.2 j p t hj hp ht (by omega)
    rw [show j0 + (j + 1) = j0 + 1 + j by omega]
    exact this

theorem readsOk_spec {ops : List Oper} {B : List Nat} : ∀ (os : List Oper) (k : Nat), readsOk ops B os k = true → ∀ (i : Nat) (o : Oper), os[i]? = some o → writersOk B (k + i) (o.looksAt ops.toArray) ops 0 = true
  | [], _, _, i, _, h => by simp at h
  | x :: os, k, hk, 0, o, h => by
    simp only [List.getElem?_cons_zero, Option.some.injEq] at h
    subst h
    simp only [readsOk, Bool.and_eq_true] at hk
    exact hk.1
  | x :: os, k, hk, i + 1, o, h => by
    simp only [List.getElem?_cons_succ] at h
    simp only [readsOk, Bool.and_eq_true] at hk
    have := readsOk_spec os (k + 1) hk.2 i o h
    rw [show k + (i + 1) = k + 1 + i by omega]
    exact this


def dOf (listed : Array Bool) : Nat → Bool := fun j => listed.getD j false
theorem dOf_set (listed : Array Bool) {j : Nat} (hj : j < listed.size) : dOf (listed.setIfInBounds j true) = fun i => if i = j then true else dOf listed i := by
  funext i
  unfold dOf
  by_cases h : i = j
  · subst h
    simp [hj]
  · rw [if_neg h, getD_set_ne false (Ne.symm h)]

def cntOf (n : Nat) (listed : Array Bool) : Nat := (List.range n).countP fun i => !dOf listed i

theorem countP_lt {p q : Nat → Bool} {j : Nat} : ∀ (l : List Nat), j ∈ l → (∀ i ∈ l, q i = true → p i = true) → p j = true → q j = false → l.countP q < l.countP p
  | [], h, _, _, _ => by cases h
  | x :: l, h, hq, hp, hqj => by
    have hle : l.countP q ≤ l.countP p := List.countP_mono_left fun i hi => hq i (List.mem_cons_of_mem _ hi)
    rcases List.mem_cons.1 h with rfl | h
    · rw [List.countP_cons, List.countP_cons]
      simp [hp, hqj]
      omega
    · have ih := countP_lt l h (fun i hi => hq i (List.mem_cons_of_mem _ hi)) hp hqj
      rw [List.countP_cons, List.countP_cons]
      have := hq x (List.mem_cons_self ..)
      cases hqx : q x with
      | false => simp; cases p x <;> simp <;> omega
      | true => simp [this hqx]; omega

theorem cntOf_lt {n j : Nat} {listed : Array Bool} (hj : j < n) (hs : listed.size = n) (hD : dOf listed j = false) : cntOf n (listed.setIfInBounds j true) < cntOf n listed := by
  unfold cntOf
  rw [dOf_set listed (by omega)]
  refine countP_lt (j := j) _ (List.mem_range.2 hj) (fun i _ h => ?_) (by simp [hD]) (by simp)
  by_cases hij : i = j
  · simp [hij] at h
  · simpa [hij] using h


section
variable {ops : List Oper}
theorem looksAt_op {o : Oper} {t : Tmp} (h : Operand.tmp t ∈ o.op.operands) : t ∈ o.looksAt ops.toArray :=
  List.mem_append_left _ (List.mem_filterMap.2 ⟨.tmp t, by simpa using h, rfl⟩)

theorem looksAt_guard {o : Oper} {j : Nat} {want : Bool} {t : Tmp} (h : o.guard = some (j, want)) (ht : (ops[j]?).bind (·.dst) = some t) : t ∈ o.looksAt ops.toArray := by
  unfold Oper.looksAt
  rw [h]
  refine List.mem_append_right _ ?_
  have ht' : (ops.toArray[j]?).bind (·.dst) = some t := by simpa using ht
  simp only [ht']
  exact List.mem_singleton.2 rfl


end
end Go.Fv

set_option linter.unusedSectionVars false
set_option linter.unusedVariables false
namespace Go.Fv

/-- Only blocks below n. -/
def bel (ρ : PM) (n : Nat) : PM := fun b => if b < n then ρ b else none
theorem bel_lt {ρ : PM} {n b : Nat} (h : b < n) : bel ρ n b = ρ b := if_pos h
theorem bel_ge {ρ : PM} {n b : Nat} (h : n ≤ b) : bel ρ n b = none := if_neg (by omega)
theorem bel_some {ρ : PM} {n b : Nat} {L : Loc} (h : bel ρ n b = some L) : b < n ∧ ρ b = some L := by
  unfold bel at h
  split at h
  · rename_i hb; exact ⟨hb, h⟩
  · cases h
theorem bel_dom (ρ : PM) (n : Nat) : Dom (bel ρ n) n := fun _ h => bel_ge h
theorem bel_le (ρ : PM) (n : Nat) : PM.le (bel ρ n) ρ := fun b x h => (bel_some h).2
theorem bel_mono {ρ ρ' : PM} {n n' : Nat} (h : PM.le ρ ρ') (hn : n ≤ n') : PM.le (bel ρ n) (bel ρ' n') := fun b x hb => by
  obtain ⟨h1, h2⟩ := bel_some hb
  rw [bel_lt (by omega)]
  exact h _ _ h2
theorem bel_eq {ρ : PM} {n m : Nat} (h : Dom ρ n) (hm : n ≤ m) : bel ρ m = ρ := by
  funext b
  unfold bel
  split
  · rfl
  · rw [h b (by omega)]

theorem All2.back {α β : Type} {R R' : α → β → Prop} (h : ∀ a b b', R a b → R' a b' → R a b') : ∀ {as : List α} {bs bs' : List β}, All2 R as bs → All2 R' as bs' → All2 R as bs'
  | [], [], [], _, _ => trivial
  | _ :: _, _ :: _, _ :: _, ⟨h1, h2⟩, ⟨h3, h4⟩ => ⟨h _ _ _ h1 h3, All2.back h h2 h4⟩
  | [], [], _ :: _, _, h => h.elim
  | [], _ :: _, _, h, _ => h.elim
  | _ :: _, [], _, h, _ => h.elim
  | _ :: _, _ :: _, [], _, h => h.elim

theorem CRel.back {ρ ρ' : PM} (hle : PM.le ρ ρ') : ∀ {c : Cel} {u u' : Value}, CRel ρ c u → CRel ρ' c u' → CRel ρ c u'
  | .lit _, _, _, _, h => h
  | .ptr b _, _, _, ⟨L, h1, _⟩, ⟨L', h2, h3⟩ => ⟨L', by have := hle b L h1; rw [h2] at this; cases this; exact h1, h3⟩
  | .sl b _ _ _, _, _, ⟨⟨L, h1, _⟩, _⟩, ⟨⟨L', h2, h3⟩, h4⟩ => ⟨⟨L', by have := hle b L h1; rw [h2] at this; cases this; exact h1, h3⟩, h4⟩
  | .su b _ _ _, _, _, ⟨L, _, h1, _⟩, ⟨L', cap, h2, h3⟩ => ⟨L', cap, by have := hle b L h1; rw [h2] at this; cases this; exact h1, h3⟩
  | .sz b _, _, _, ⟨L, _, _, h1, _⟩, ⟨L', o, cap, h2, h3⟩ => ⟨L', o, cap, by have := hle b L h1; rw [h2] at this; cases this; exact h1, h3⟩
  | .kp b _ _, _, _, ⟨L, _, h1, _⟩, ⟨L', cap, h2, h3⟩ => ⟨L', cap, by have := hle b L h1; rw [h2] at this; cases this; exact h1, h3⟩
  | .us, _, _, _, h => h
  | .un _, _, _, _, h => h
  | .fn _ _, _, _, ⟨us, _, h1⟩, ⟨us', h2, h3⟩ => ⟨us', h2, h1.back (fun p v v' ⟨L, g1, _⟩ ⟨L', g2, g3⟩ => ⟨L', by have := hle _ L g1; rw [g2] at this; cases this; exact g1, g3⟩) h3⟩
  | .mp b, _, _, ⟨L, h1, _⟩, ⟨L', h2, h3⟩ => ⟨L', by have := hle b L h1; rw [h2] at this; cases this; exact h1, h3⟩
  | .yd b, _, _, ⟨L, h1, _⟩, ⟨L', h2, h3⟩ => ⟨L', by have := hle b L h1; rw [h2] at this; cases this; exact h1, h3⟩
theorem PRel.back {ρ ρ' : PM} (hle : PM.le ρ ρ') : ∀ {p : Bool × List Cel} {u u' : Value}, PRel ρ p u → PRel ρ' p u' → PRel ρ p u'
  | (true, _), _, _, ⟨us, _, h1⟩, ⟨us', h2, h3⟩ => ⟨us', h2, h1.back (R' := CRel ρ') (fun _ _ _ => CRel.back hle) h3⟩
  | (false, [_]), _, _, h1, h2 => CRel.back (ρ := ρ) hle h1 h2
  | (false, []), _, _, h, _ => h.elim
  | (false, _ :: _ :: _), _, _, h, _ => h.elim
theorem VRel.back {ρ ρ' : PM} (hle : PM.le ρ ρ') : ∀ {v : AV} {u u' : Value}, VRel ρ v u → VRel ρ' v u' → VRel ρ v u'
  | .one _, _, _, h1, h2 => CRel.back (ρ := ρ) hle h1 h2
  | .agg _, _, _, ⟨us, _, h1⟩, ⟨us', h2, h3⟩ => ⟨us', h2, h1.back (R' := CRel ρ') (fun _ _ _ => CRel.back hle) h3⟩
  | .tup _, _, _, ⟨us, _, h1⟩, ⟨us', h2, h3⟩ => ⟨us', h2, h1.back (R' := PRel ρ') (fun _ _ _ => PRel.back hle) h3⟩
theorem CtRel.back {ρ ρ' : PM} (hle : PM.le ρ ρ') {w w' : World} {L : Loc} {i : Nat} : ∀ {x : Ct}, CtRel ρ w L i x → CtRel ρ' w' L i x → CtRel ρ w' L i x
  | .c _, ⟨_, _, _, _, _, _, _, _, h⟩, ⟨arr, t, fr, u, h1, h2, h3, h4, h5⟩ => ⟨arr, t, fr, u, h1, h2, h3, h4, h.back hle h5⟩
  | .map _ _, ⟨_, _, _, _, h⟩, ⟨h1, h2, arr, h3, h4⟩ => ⟨h1, h2, arr, h3, h.back (fun _ _ _ ⟨a1, a2, a3⟩ ⟨b1, b2, b3⟩ => ⟨a1.back hle b1, a2.back hle b2, b3⟩) h4⟩
  | .iter none _ _ _, _, h => h
  | .iter (some b) _ _ _, ⟨_, _, _, _, K, g1, _⟩, ⟨h1, h2, mm, h3, K', g2, g3⟩ => ⟨h1, h2, mm, h3, K', by have := hle b K g1; rw [g2] at this; cases this; exact g1, g3⟩
  | .loop _ _ _ _ _ _ _, ⟨_, _, r, _, _, _, _, _, _, h8, h⟩, ⟨h1, h2, r', h3, h4, h5, h6, h7, h7', h8', h'⟩ => ⟨h1, h2, r', h3, h4, h5, h6, h7, h7', h8', fun t v hv => by
    obtain ⟨u, _, g2⟩ := h t v hv
    obtain ⟨u', g3, g4⟩ := h' t v hv
    exact ⟨u', g3, g2.back hle g4⟩⟩
  | .room, _, h => h

/-! ### Names below a number -/
def Cel.below (n : Nat) : Cel → Bool
  | .lit _ => true
  | .ptr b _ => Nat.ble (Nat.succ b) n
  | .sl b _ _ _ => Nat.ble (Nat.succ b) n
  | .su b _ _ _ => Nat.ble (Nat.succ b) n
  | .sz b _ => Nat.ble (Nat.succ b) n
  | .kp b _ _ => Nat.ble (Nat.succ b) n
  | .us => true
  | .un _ => true
  | .fn _ caps => caps.all fun p => Nat.ble (Nat.succ p.1) n
  | .mp b => Nat.ble (Nat.succ b) n
  | .yd b => Nat.ble (Nat.succ b) n
def AV.below (n : Nat) : AV → Bool
  | .one c => c.below n
  | .agg xs => xs.all (Cel.below n)
  | .tup vs => vs.all fun p => p.2.all (Cel.below n)

theorem All2.cutAll {α β : Type} {R R' : α → β → Prop} {q : α → Bool} (h : ∀ a b, q a = true → R a b → R' a b) : ∀ {as : List α} {bs : List β}, as.all q = true → All2 R as bs → All2 R' as bs
  | [], [], _, _ => trivial
  | a :: as, b :: bs, hq, ⟨h1, h2⟩ => by
    simp only [List.all_cons, Bool.and_eq_true] at hq
    exact ⟨h _ _ hq.1 h1, All2.cutAll h hq.2 h2⟩
  | [], _ :: _, _, h => h.elim
  | _ :: _, [], _, h => h.elim
theorem lt_of_ble {b n : Nat} (h : Nat.ble (Nat.succ b) n = true) : b < n := Nat.le_of_ble_eq_true h

theorem CRel.bel {ρ : PM} {n : Nat} : ∀ {c : Cel} {u : Value}, c.below n = true → CRel ρ c u → CRel (bel ρ n) c u
  | .lit _, _, _, h => h
  | .ptr _ _, _, hb, ⟨L, h1, h2⟩ => ⟨L, by rw [bel_lt (lt_of_ble hb)]; exact h1, h2⟩
  | .sl _ _ _ _, _, hb, ⟨⟨L, h1, h2⟩, h3⟩ => ⟨⟨L, by rw [bel_lt (lt_of_ble hb)]; exact h1, h2⟩, h3⟩
  | .su _ _ _ _, _, hb, ⟨L, cap, h1, h2⟩ => ⟨L, cap, by rw [bel_lt (lt_of_ble hb)]; exact h1, h2⟩
  | .sz _ _, _, hb, ⟨L, o, cap, h1, h2⟩ => ⟨L, o, cap, by rw [bel_lt (lt_of_ble hb)]; exact h1, h2⟩
  | .kp _ _ _, _, hb, ⟨L, cap, h1, h2⟩ => ⟨L, cap, by rw [bel_lt (lt_of_ble hb)]; exact h1, h2⟩
  | .us, _, _, h => h
  | .un _, _, _, h => h
  | .fn _ _, _, hb, ⟨us, h1, h2⟩ => ⟨us, h1, h2.cutAll (fun p v hp ⟨L, g1, g2⟩ => ⟨L, by rw [bel_lt (lt_of_ble hp)]; exact g1, g2⟩) hb⟩
  | .mp _, _, hb, ⟨L, h1, h2⟩ => ⟨L, by rw [bel_lt (lt_of_ble hb)]; exact h1, h2⟩
  | .yd _, _, hb, ⟨L, h1, h2⟩ => ⟨L, by rw [bel_lt (lt_of_ble hb)]; exact h1, h2⟩
theorem PRel.bel {ρ : PM} {n : Nat} : ∀ {p : Bool × List Cel} {u : Value}, p.2.all (Cel.below n) = true → PRel ρ p u → PRel (bel ρ n) p u
  | (true, _), _, hb, ⟨us, h1, h2⟩ => ⟨us, h1, h2.cutAll (fun _ _ => CRel.bel) hb⟩
  | (false, [c]), _, hb, h => by
    simp only [List.all_cons, List.all_nil, Bool.and_true] at hb
    exact CRel.bel (ρ := ρ) hb h
  | (false, []), _, _, h => h.elim
  | (false, _ :: _ :: _), _, _, h => h.elim
theorem VRel.bel {ρ : PM} {n : Nat} : ∀ {v : AV} {u : Value}, v.below n = true → VRel ρ v u → VRel (bel ρ n) v u
  | .one _, _, hb, h => CRel.bel hb h
  | .agg _, _, hb, ⟨us, h1, h2⟩ => ⟨us, h1, h2.cutAll (fun _ _ => CRel.bel) hb⟩
  | .tup _, _, hb, ⟨us, h1, h2⟩ => ⟨us, h1, h2.cutAll (fun _ _ => PRel.bel) hb⟩

/-! ### A step, less of it and more -/
section
variable {ρ0 ρ ρ' ρ2 : PM} {H0 H H1 H2 : HP} {w0 w w' : World}

/-- A place of the same world: no object that was there is another. -/
theorem HRel.still (h : HRel ρ H w) (hs : ∀ k, k < w.heap.size → w'.heap[k]? = w.heap[k]?) : HRel ρ H w' :=
  ⟨fun b i c L hc hL => (h.rel b i c L hc hL).of_heap (hs _ (h.rel b i c L hc hL).lt), h.inj⟩

theorem Sim.still (s : Sim ρ0 H0 w0 ρ H w) (hs : ∀ k, k < w.heap.size → w'.heap[k]? = w.heap[k]?) (h1 : w.heap.size ≤ w'.heap.size) (h2 : w'.os = w.os) (h3 : w'.tape = w.tape) (h4 : w'.output = w.output) (hd : Dom ρ0 H0.n) (hlt : ∀ b L, H0.Kn b → ρ0 b = some L → L.B < w.heap.size) : Sim ρ0 H0 w0 ρ H w' where
  le := s.le
  grow := s.grow
  dom := s.dom
  rel := s.rel.still hs
  knc := s.knc
  frc := fun b L i g1 g2 g3 g4 => (s.frc b L i g1 g2 g3 g4).trans (SameAt.of_heap (hs _ (hlt b L g1 g3)) _)
  fr := fun k hk hno => by rw [hs k (Nat.lt_of_lt_of_le hk s.size)]; exact s.fr k hk hno
  new := s.new
  size := Nat.le_trans s.size h1
  os := h2.trans s.os
  tape := h3.trans s.tape
  output := h4.trans s.output
  old := s.old

/-- Less of the end. -/
theorem Sim.less (s : Sim ρ0 H0 w0 ρ2 H2 w) (hd : Dom ρ0 H0.n) (h0 : H0.n ≤ H1.n) (hsame : ∀ b, b < H1.n → H1.t.get b = H2.t.get b) (hr : HRel (bel ρ2 H1.n) H1 w) : Sim ρ0 H0 w0 (bel ρ2 H1.n) H1 w := by
  have hcell : ∀ b i, b < H1.n → H1.cell b i = H2.cell b i := fun b i hb => by unfold HP.cell; rw [hsame b hb]
  exact {
    le := fun b x hb => by rw [bel_lt (Nat.lt_of_lt_of_le (hd.lt hb) h0)]; exact s.le b x hb
    grow := h0
    dom := bel_dom _ _
    rel := hr
    knc := fun b i hb hc => by rw [hcell b i (by omega)]; exact s.knc b i hb hc
    frc := fun b L i g1 ⟨j, c, hc⟩ g3 g4 => s.frc b L i g1 ⟨j, c, by rw [← hcell b j (Nat.lt_of_lt_of_le (hd.lt g3) h0)]; exact hc⟩ g3 g4
    fr := s.fr
    new := fun b L g1 g2 => s.new b L g1 (bel_some g2).2
    size := s.size
    os := s.os
    tape := s.tape
    output := s.output
    old := fun b L g1 g2 => s.old b L g1 (bel_some g2).2 }

/-- More blocks, of which none lies anywhere. -/
theorem Sim.ghost (s : Sim ρ0 H0 w0 ρ H w) (h1 : H.n ≤ H2.n) (hsame : ∀ b, b < H.n → H2.t.get b = H.t.get b) : Sim ρ0 H0 w0 ρ H2 w := by
  have hcell : ∀ b i, b < H.n → H2.cell b i = H.cell b i := fun b i hb => by unfold HP.cell; rw [hsame b hb]
  exact {
    le := s.le
    grow := Nat.le_trans s.grow h1
    dom := fun b hb => s.dom b (by omega)
    rel := ⟨fun b i c L hc hL => s.rel.rel b i c L (by rw [← hcell b i (s.dom.lt hL)]; exact hc) hL,
      fun b b' L L' ⟨i, c, hc⟩ ⟨i', c', hc'⟩ hL hL' => s.rel.inj b b' L L' ⟨i, c, by rw [← hcell b i (s.dom.lt hL)]; exact hc⟩ ⟨i', c', by rw [← hcell b' i' (s.dom.lt hL')]; exact hc'⟩ hL hL'⟩
    knc := fun b i hb hc => by rw [hcell b i (Nat.lt_of_lt_of_le hb s.grow)]; exact s.knc b i hb hc
    frc := fun b L i g1 ⟨j, c, hc⟩ g3 g4 => by
      by_cases hb : b < H.n
      · exact s.frc b L i g1 ⟨j, c, by rw [← hcell b j hb]; exact hc⟩ g3 g4
      · have := s.le b L g3
        rw [s.dom b (by omega)] at this
        cases this
    fr := s.fr
    new := s.new
    size := s.size
    os := s.os
    tape := s.tape
    output := s.output
    old := s.old }
end
end Go.Fv
