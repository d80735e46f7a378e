/-
  A second abstract evaluator of the model's code: frames, and regions that keep the text's order. Conditions: none; nothing here speaks of one program.
-/
import Derived.Test.YtinhlbmlopkgiaaGreatDoorFvR
import Derived.TacticsIn
set_option linter.unusedSectionVars false
set_option linter.unusedVariables false
namespace Go.Fv

/-- The wide fence, in a round or not. -/
def WF (r : Option Nat) : Fence := { Fence.wide with round := r }
theorem wf_fn (r : Option Nat) (f : FuncId) : (WF r).fn f := trivial
theorem callsIn_wf {r : Option Nat} {n : Nat} {P : Program} {f : FuncId} {args : Array Value} {w : World} {R : Ending → World → Prop} : CallsIn (WF r) n P f args w R ↔ Calls P f args w R := callsIn_wide (n := n)

theorem roundIn_wf {r : Option Nat} {n : Nat} {P : Program} {l : Nat} {f : FuncId} {tmps : Array Value} {assign body : Code} {w : World} {R : Ending → World → Prop} (h : RoundIn Fence.wide 0 P l f tmps assign body w R) : RoundIn (WF r) n P l f tmps assign body w R :=
  ⟨trivial, fun c cs _ => h.2 c cs (room_wide _)⟩

/-- A frame: its slots as a tree. -/
abbrev Fm := PT AV

structure FRel (n : Nat) (ρ : PM) (F : Fm) (a : Act) : Prop where
  sz : a.tmps.size = n
  get : ∀ t v, F.get t = some v → ∃ u, a.tmps[t]? = some u ∧ VRel ρ v u

theorem FRel.mono {n : Nat} {ρ ρ' : PM} {F : Fm} {a : Act} (h : FRel n ρ F a) (hle : PM.le ρ ρ') : FRel n ρ' F a :=
  ⟨h.sz, fun t v hv => let ⟨u, h1, h2⟩ := h.get t v hv; ⟨u, h1, h2.mono hle⟩⟩

noncomputable section
def evF (F : Fm) : Operand → Option AV
  | .tmp t => F.get t
  | .const v => if litOK v then some (.one (.lit v)) else none
  | .global g => some (.one (.lit (.pointer (some ⟨g, 0, none⟩))))
  | .func f => some (.one (.lit (.func (.func f) #[] #[])))
def putF (n : Nat) (F : Fm) (dst : Option Tmp) (v : AV) : Option Fm :=
  match dst with
  | none => some F
  | some d => match Nat.ble (Nat.succ d) n with
    | true => some (F.put d (some v))
    | false => none
end

theorem evF_rel {n : Nat} {ρ : PM} {F : Fm} {a : Act} (h : FRel n ρ F a) {x : Operand} {v : AV} (hx : evF F x = some v) : VRel ρ v (a.eval x) := by
  cases x with
  | tmp t =>
    obtain ⟨u, hu, hr⟩ := h.get t v hx
    have : a.eval (.tmp t) = u := by simp [Act.eval, Array.getD_eq_getD_getElem?, hu]
    rw [this]
    exact hr
  | const c =>
    simp only [evF] at hx
    split at hx
    · rename_i hc
      cases hx
      exact ⟨rfl, hc⟩
    · cases hx
  | global g => cases hx; exact ⟨rfl, rfl⟩
  | func f => cases hx; exact ⟨rfl, rfl⟩

theorem putF_rel {n : Nat} {ρ : PM} {F F' : Fm} {a : Act} {dst : Option Tmp} {v : AV} {u : Value} (h : FRel n ρ F a) (hv : VRel ρ v u) (hp : putF n F dst v = some F') : FRel n ρ F' (a.put dst u) := by
  cases dst with
  | none => cases hp; exact h
  | some d =>
    simp only [putF] at hp
    split at hp
    · rename_i hb
      cases hp
      have hd : d < a.tmps.size := by rw [h.sz]; exact Nat.le_of_ble_eq_true hb
      refine ⟨by simp [Act.put, h.sz], fun t v' hv' => ?_⟩
      rw [PT.get_put] at hv'
      simp only [Act.put]
      split at hv'
      · rename_i ht
        subst ht
        cases hv'
        exact ⟨u, by rw [Array.getElem?_setIfInBounds_self_of_lt hd], hv⟩
      · rename_i ht
        obtain ⟨u', h1, h2⟩ := h.get t v' hv'
        exact ⟨u', by rw [Array.getElem?_setIfInBounds_ne (Ne.symm ht)]; exact h1, h2⟩
    · cases hp

theorem put_defers (a : Act) (dst : Option Tmp) (u : Value) : (a.put dst u).defers = a.defers := by cases dst <;> rfl

/-- The abstract state stands for the activation and the world. -/
structure SRel (n : Nat) (ρ : PM) (F : Fm) (H : HP) (a : Act) (w : World) : Prop where
  fr : FRel n ρ F a
  hp : HRel ρ H w
  dom : Dom ρ H.n

section
variable {P : Program} [Plain P] {ora : Ora} {n m : Nat} {r : Option Nat} {ρ : PM} {F F' : Fm} {H H' : HP} {a : Act} {w : World} {v : AV}

theorem stepA_no_defer {E : Operand → Option AV} {op : Op} (h : stepA P ora E H op = some (v, H')) (c : Call) : op ≠ .defer c := by
  rintro rfl
  cases h

theorem upon_of_gives {o : Oper} {K : Act → World → Prop} {Q : Exit → Act → World → Prop} {Q' : Value → World → Prop} {x : Result Next} (h : GivesR P Q' x)
    (hk : ∀ u w', Q' u w' → K (a.put o.dst u) w') : o.uponIn (WF r) m P a K Q x := by
  unfold GivesR at h
  split at h
  · exact hk _ _ h
  · exact hk _ _ h
  · refine ⟨fun hh => by simp [WF, Fence.wide] at hh, callsIn_wf.2 (Calls.mono h fun e w' ⟨u, he, hq⟩ => ?_)⟩
    subst he
    exact hk _ _ hq
  · refine ⟨fun hh => by simp [WF, Fence.wide] at hh, roundIn_wf (RoundIn.mono h fun e w' ⟨u, he, hq⟩ => ?_)⟩
    subst he
    exact hk _ _ hq
  · exact h.elim

theorem oper_ok (ho : OraOK P ora) {o : Oper} {K : Act → World → Prop} {Q : Exit → Act → World → Prop} (h : stepA P ora (evF F) H o.op = some (v, H')) (hp : putF n F o.dst v = some F') (s : SRel n ρ F H a w)
    (hk : ∀ ρ' a' w', SRel n ρ' F' H' a' w' → a'.defers = a.defers → Sim ρ H w ρ' H' w' → K a' w') : o.wpIn (WF r) m P a w K Q := by
  obtain ⟨hst, hop⟩ := stepA_ok (w := w) (ev := a.eval) (ρ := ρ) ho h (fun x _ v hv => evF_rel s.fr hv) s.hp s.dom
  refine ⟨fun f _ => trivial, ?_⟩
  rw [Oper.semAt_eq _ _ _ (stepA_no_defer h)]
  obtain ⟨dst, op, ty, pos, after, guard⟩ := o
  refine upon_of_gives (hop dst ty pos after guard) fun u w' ⟨ρ', hv, hs⟩ => ?_
  exact hk ρ' _ w' ⟨putF_rel (s.fr.mono hs.le) hv hp, hs.rel, hs.dom⟩ (put_defers _ _ _) hs

/-! ### Guards -/
noncomputable def guardF (F : Fm) (t : Option Tmp) (want : Bool) : Option Bool :=
  match t with
  | none => some false
  | some t => match F.get t with
    | some (.one (.lit (.bool b))) => some (b == want)
    | some (.tup _) => some false
    | _ => none
noncomputable def wantF (ops : List Oper) (F : Fm) (g : Option (Nat × Bool)) : Option Bool :=
  match g with
  | none => some true
  | some (j, want) => guardF F ((ops[j]?).bind (·.dst)) want

theorem wantF_ok {ops : List Oper} {o : Oper} {b : Bool} (h : FRel n ρ F a) (hw : wantF ops F o.guard = some b) : Region.wanted o (yielded ops.toArray a.tmps) = b := by
  unfold wantF at hw
  unfold Region.wanted
  cases hg : o.guard with
  | none => rw [hg] at hw; cases hw; rfl
  | some p =>
    obtain ⟨j, want⟩ := p
    rw [hg] at hw
    simp only at hw ⊢
    unfold yielded
    simp only [List.getElem?_toArray]
    cases hd : (ops[j]?).bind (·.dst) with
    | none => rw [hd] at hw; cases hw; cases want <;> rfl
    | some t =>
      rw [hd] at hw
      simp only [guardF] at hw
      simp only [Option.bind_some]
      split at hw
      · rename_i b' hb
        cases hw
        obtain ⟨u, hu, rfl, _⟩ := h.get t _ hb
        rw [hu]
        cases b' <;> cases want <;> rfl
      · rename_i vs hb
        cases hw
        obtain ⟨u, hu, us, rfl, _⟩ := h.get t _ hb
        rw [hu]
        cases want <;> rfl
      · cases hw

/-- A region in the text's order. -/
noncomputable def seqA (P : Program) [Plain P] (ora : Ora) (n : Nat) (ops : List Oper) : List Oper → Fm → HP → Option (Fm × HP)
  | [], F, H => some (F, H)
  | o :: rest, F, H =>
    match wantF ops F o.guard with
    | some true => match stepA P ora (evF F) H o.op with
      | some (v, H') => match putF n F o.dst v with
        | some F' => seqA P ora n ops rest F' H'
        | none => none
      | none => none
    | some false => match putF n F o.dst undefA with
      | some F' => seqA P ora n ops rest F' H
      | none => none
    | none => none

theorem seqA_wp (ho : OraOK P ora) {ops : List Oper} {Q : Exit → Act → World → Prop} : ∀ (rest : List Oper) {ρ : PM} {F F' : Fm} {H H' : HP} {a : Act} {w : World},
    seqA P ora n ops rest F H = some (F', H') → SRel n ρ F H a w → (∀ ρ' a' w', SRel n ρ' F' H' a' w' → a'.defers = a.defers → Sim ρ H w ρ' H' w' → Q .normal a' w') → wpListIn (WF r) m P ops.toArray Q rest a w
  | [], ρ, F, F', H, H', a, w, h, s, hq => by cases h; exact hq ρ a w s rfl (Sim.refl s.hp s.dom)
  | o :: rest, ρ, F, F', H, H', a, w, h, s, hq => by
    simp only [seqA] at h
    split at h
    · rename_i hw
      have hwant := wantF_ok s.fr hw
      split at h
      · rename_i v H1 hstep
        split at h
        · rename_i F1 hput
          simp only [wpListIn]
          rw [if_pos hwant]
          exact oper_ok ho hstep hput s fun ρ' a' w' s' hd hs => seqA_wp ho rest h s' fun ρ2 a2 w2 s2 hd2 hs2 => hq ρ2 a2 w2 s2 (hd2.trans hd) (hs.trans s.dom hs2)
        · cases h
      · cases h
    · rename_i hw
      have hwant := wantF_ok s.fr hw
      split at h
      · rename_i F1 hput
        simp only [wpListIn]
        rw [if_neg (by rw [hwant]; simp)]
        refine ⟨fun f _ => trivial, ?_⟩
        exact seqA_wp ho rest h ⟨putF_rel s.fr (undef_rel ρ) hput, s.hp, s.dom⟩ fun ρ2 a2 w2 s2 hd2 hs2 => hq ρ2 a2 w2 s2 (hd2.trans (put_defers _ _ _)) hs2
      · cases h
    · cases h

theorem wp_seqA (ho : OraOK P ora) {id : Nat} {ops : List Oper} {Q : Exit → Act → World → Prop} (h : seqA P ora n ops ops F H = some (F', H')) (s : SRel n ρ F H a w)
    (hq : ∀ ρ' a' w', SRel n ρ' F' H' a' w' → a'.defers = a.defers → Sim ρ H w ρ' H' w' → Q .normal a' w') : (Code.region id ops.toArray false).wpIn (WF r) m P Q a w :=
  wpIn_region_lit (seqA_wp ho ops h s hq)
end
end Go.Fv
