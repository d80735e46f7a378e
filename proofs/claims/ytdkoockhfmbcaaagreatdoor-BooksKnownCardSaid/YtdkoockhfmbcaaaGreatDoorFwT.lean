/-
  A second abstract evaluator of the model's code: code. Conditions: none; nothing here speaks of one program.
  A second abstract evaluator of the model's code: one round of a loop over a function. Conditions: none; nothing here speaks of one program.
  A second abstract evaluator of the model's code: several outcomes told as fewer: what nothing leads to is out of view; outcomes that are alike are one. Conditions: none; nothing here speaks of one program.
-/
import Derived.Test.YtdkoockhfmbcaaaGreatDoorFwA
import Derived.Test.YtdkoockhfmbcaaaGreatDoorFvP
import Derived.LoopNIn
import Derived.Scope
set_option linter.unusedSectionVars false
set_option linter.unusedVariables false
namespace Go.Fv

/-- How code ends. -/
inductive Ex where
  | nrm
  | ext (id : Nat)
  | rt
def Ex.out : Ex → Exit
  | .nrm => .normal
  | .ext id => .exit id
  | .rt => .ret
/-- One outcome of code; all of them. -/
abbrev Oc := Ex × Fm × HP
abbrev RC := Option (List Oc)

/-! ### Scopes through which no jump goes -/
section
variable {P : Program} {b : Frame} {a : Act} {k : List Item} {cs : List Frame} {w : World} {Q : Exit → Act → World → Prop} {D : Fence} {n : Nat}
theorem stepR_scope {c : Code} : step P (lone (b.atR a (.code (.scope c) :: k)) cs w) = .next (lone (b.atR a (.code c :: .inScope c :: k)) cs w) :=
  step_lone_go (by simp [stepG, stepG.exec, Frame.atR])
theorem stepR_inScope {c : Code} : step P (lone (b.atR a (.inScope c :: k)) cs w) = .next (lone (b.atR a k) cs w) :=
  step_lone_go (by simp [stepG, stepG.exec, Frame.atR])
theorem wpIn_scope {c : Code} (h : c.wpIn D n P (Exit.noGoto Q) a w) : (Code.scope c).wpIn D n P Q a w := by
  intro b k cs hro hb hr
  have h0 : (lone (b.atR a (.code (.scope c) :: k)) cs w).fenced P D := fenced_calm hb hr rfl
  obtain ⟨e, a₁, w₁, hq, harr⟩ := h b (.inScope c :: k) cs hro hb hr
  cases e with
  | normal => exact ⟨.normal, a₁, w₁, hq, .head h0 stepR_scope (StepsIn.trans harr (.one (fenced_calm hb hr rfl) stepR_inScope))⟩
  | exit id =>
    have hx : exitTo id (.inScope c :: k) = exitTo id k := by simp [exitTo]
    exact ⟨.exit id, a₁, w₁, hq, fun k' hk => .head h0 stepR_scope (harr.1 k' (by rw [hx]; exact hk)),
      fun hr' hk => let ⟨k₁, h1, h2⟩ := harr.2 hr' (by rw [hx]; exact hk); ⟨k₁, h1, .head h0 stepR_scope h2⟩⟩
  | goto l => exact hq.elim
  | ret => exact ⟨_, a₁, w₁, hq, .of_steps (.one h0 stepR_scope) harr⟩
  | panic ch => exact ⟨_, a₁, w₁, hq, .of_steps (.one h0 stepR_scope) harr⟩
  | outgrown => exact ⟨_, a₁, w₁, hq, .of_steps (.one h0 stepR_scope) harr⟩
end

noncomputable section
/-- A number at hand before it is used. -/
def force {α : Type} (x : Nat) (f : Nat → α) : α := Nat.rec (motive := fun _ => α) (f 0) (fun n _ => f (Nat.succ n)) x
theorem force_eq {α : Type} (x : Nat) (f : Nat → α) : force x f = f x := by cases x <;> rfl
/-- The heap's numbers at hand. -/
def normH (H : HP) : HP := force H.n fun n => force H.lo fun lo => ⟨H.t, n, lo⟩
theorem normH_eq (H : HP) : normH H = H := by
  unfold normH
  rw [force_eq, force_eq]
def regA (P : Program) [Plain P] (ora : OraM) (n : Nat) (ops : Array Oper) (draw : Bool) (F : Fm) (H : HP) : Option (List (Fm × HP)) :=
  match draw with
  | true => single (drawA P ora.one n ops.toList F H)
  | false => seqM P ora n ops.toList ops.toList F H
def contC (k : Fm → HP → RC) (x : Oc) : RC :=
  match x.1 with
  | .nrm => k x.2.1 x.2.2
  | _ => some [x]
def seqC (x : RC) (k : Fm → HP → RC) : RC :=
  match x with
  | some l => bindL (contC k) l
  | none => none
def condC (v : Option AV) (x y : RC) : RC :=
  match v with
  | some (.one (.lit (.bool true))) => x
  | some (.one (.lit (.bool false))) => y
  | _ => none
def blockOne (id : Nat) (x : Oc) : Oc :=
  match x.1 with
  | .ext id' => match Nat.beq id' id with
    | true => (.nrm, x.2)
    | false => x
  | _ => x
def blockC (id : Nat) (x : RC) : RC :=
  match x with
  | some l => some (l.map (blockOne id))
  | none => none
def loopC (step : Fm → HP → RC) (fuel : Nat) : Fm → HP → RC :=
  Nat.rec (motive := fun _ => Fm → HP → RC) (fun _ _ => none) (fun _ ih F H => seqC (step F H) ih) fuel
/-- A loop over a function has ended. -/
def loopEnd (F : Fm) (b : Nat) (o : AV × HP) : Option Oc :=
  match loopAt o.2 b with
  | some l => match l.st with
    | .busy => none
    | _ => match l.pend with
      | none => some (.nrm, F, (o.2.obj b (LoopC.ct { l with st := .exhausted })).drop b)
      | some .ret => some (.rt, F, (o.2.obj b (LoopC.ct { l with st := .exhausted })).drop b)
      | some (.exit id) => some (.ext id, F, (o.2.obj b (LoopC.ct { l with st := .exhausted })).drop b)
      | _ => none
  | none => none
def rangeGo (ora : OraM) (ent : FuncId → Bool) (n : Nat) (ps : Array Tmp) (assign body : Code) (F : Fm) (H : HP) (g : FuncId) (caps : List AV) : RC :=
  match ent g, ora (.f g) (.one (.yd H.n) :: caps) (H.push (.lf [some (.loop .ready none n F ps assign body)])) with
  | true, some outs => allSome (outs.map (loopEnd F H.n))
  | _, _ => none
def rangeC (ora : OraM) (ent : FuncId → Bool) (n : Nat) (rb : Option Nat) (f : Operand) (ps : Array Tmp) (assign body : Code) (F : Fm) (H : HP) : RC :=
  match aroundOK H rb, evF F f with
  | true, some (.one (.lit (.func (.func g) a b))) => if a.size = 0 ∧ b.size = 0 then rangeGo ora ent n ps assign body F H g [] else none
  | true, some (.one (.fn (.func g) caps)) => rangeGo ora ent n ps assign body F H g (ptrs caps)
  | _, _ => none
def codeA (P : Program) [Plain P] (ora : OraM) (ent : FuncId → Bool) (n fuel : Nat) (rb : Option Nat) (c : Code) : Fm → HP → RC :=
  Code.rec (motive := fun _ => Fm → HP → RC)
    (fun F H => some [(.nrm, F, H)])
    (fun _ ops draw F H => match regA P ora n ops draw F H with
      | some l => some (l.map fun x => (.nrm, x.1, normH x.2))
      | none => none)
    (fun _ _ x y F H => seqC (x F H) y)
    (fun c _ _ x y F H => condC (evF F c) (x F H) (y F H))
    (fun id _ x F H => blockC id (x F H))
    (fun _ x F H => loopC x fuel F H)
    (fun f ps a b _ _ F H => rangeC ora ent n rb f ps a b F H)
    (fun id F H => some [(.ext id, F, H)])
    (fun _ x F H => x F H)
    (fun _ F H => some [(.nrm, F, H)])
    (fun _ _ _ => none)
    (fun F H => some [(.rt, F, H)])
    (fun _ _ _ => none) c
end

def flowAll : Code → Bool
  | .region _ ops draw => !draw || flowOk ops.toList
  | .seq a b => flowAll a && flowAll b
  | .cond _ a b => flowAll a && flowAll b
  | .block _ b => flowAll b
  | .loop b => flowAll b
  | .rangeFunc _ _ a b => flowAll a && flowAll b
  | .scope b => flowAll b
  | _ => true

/-! ### What is said of a code's run -/
structure CodeOK (P : Program) (n m : Nat) (rb r : Option Nat) (c : Code) (F : Fm) (H : HP) (Z : Oc → Prop) : Prop where
  st : ∀ x, Z x → St H x.2.2
  wp : ∀ {Q : Exit → Act → World → Prop} {ρ : PM} {a : Act} {w : World} {m0 : Nat}, SRel n ρ F H a w → RR ρ rb r → m0 ≤ w.heap.size → DfOK ρ H w m0 a.defers →
    (∀ x, Z x → ∀ ρ' a' w', SRel n ρ' x.2.1 x.2.2 a' w' → DfOK ρ' x.2.2 w' m0 a'.defers → Sim ρ H w ρ' x.2.2 w' → Q x.1.out a' w') → c.wpIn (WF r) m P Q a w

section
variable {P : Program} {n m : Nat} {rb r : Option Nat} {F : Fm} {H : HP} {Z : Oc → Prop}
theorem CodeOK.weaken {c : Code} {Z' : Oc → Prop} (h : CodeOK P n m rb r c F H Z) (hz : ∀ x, Z x → Z' x) (hst : ∀ x, Z' x → St H x.2.2) : CodeOK P n m rb r c F H Z' :=
  ⟨hst, fun s hr hm df hq => h.wp s hr hm df fun x hx => hq x (hz x hx)⟩
theorem CodeOK.seq {x y : Code} {Z1 : Oc → Prop} (h1 : CodeOK P n m rb r x F H Z1) (hst : ∀ x, Z x → St H x.2.2) (h2 : ∀ F1 H1, Z1 (.nrm, F1, H1) → ∃ Z2, CodeOK P n m rb r y F1 H1 Z2 ∧ ∀ x, Z2 x → Z x) (h3 : ∀ x, Z1 x → x.1 ≠ .nrm → Z x) : CodeOK P n m rb r (.seq x y) F H Z := by
  refine ⟨hst, fun {Q ρ a w m0} s hr hm df hq => wpIn_seq (h1.wp s hr hm df fun x hx ρ1 a1 w1 s1 hd1 hs1 => ?_)⟩
  obtain ⟨e, F1, H1⟩ := x
  cases e with
  | nrm =>
    obtain ⟨Z2, k1, k2⟩ := h2 F1 H1 hx
    exact k1.wp s1 (hr.mono hs1.le) (Nat.le_trans hm hs1.size) hd1 fun y hy ρ2 a2 w2 s2 hd2 hs2 => hq y (k2 y hy) ρ2 a2 w2 s2 hd2 (hs1.trans s.dom hs2)
  | ext id => exact hq _ (h3 _ hx (fun h => by cases h)) ρ1 a1 w1 s1 hd1 hs1
  | rt => exact hq _ (h3 _ hx (fun h => by cases h)) ρ1 a1 w1 s1 hd1 hs1
end

section
variable {P : Program} [Plain P] {ora : OraM} {ent : FuncId → Bool} {n m fuel : Nat} {rb r : Option Nat}

theorem regA_st (ho : OraMOK P ora) {ops : Array Oper} {draw : Bool} (hf : (!draw || flowOk ops.toList) = true) {F : Fm} {H : HP} {l : List (Fm × HP)} (h : regA P ora n ops draw F H = some l) : ∀ x ∈ l, St H x.2 := by
  cases draw with
  | true =>
    obtain ⟨⟨F', H'⟩, h1, rfl⟩ := single_some (show single (drawA P ora.one n ops.toList F H) = some l from h)
    intro x hx
    rw [List.mem_singleton.1 hx]
    exact drawA_st ho.one.st (by simpa using hf) h1
  | false => exact seqM_st ho _ h

theorem seqC_some {x : RC} {k : Fm → HP → RC} {l : List Oc} (h : seqC x k = some l) : ∃ l1, x = some l1 ∧ (∀ F1 H1, (Ex.nrm, F1, H1) ∈ l1 → ∃ l2, k F1 H1 = some l2 ∧ ∀ z ∈ l2, z ∈ l) ∧ (∀ z ∈ l1, z.1 ≠ .nrm → z ∈ l) ∧
    ∀ z ∈ l, (∃ F1 H1 l2, (Ex.nrm, F1, H1) ∈ l1 ∧ k F1 H1 = some l2 ∧ z ∈ l2) ∨ z ∈ l1 := by
  unfold seqC at h
  split at h
  · rename_i l1
    obtain ⟨h1, h2⟩ := bindL_spec h
    refine ⟨l1, rfl, fun F1 H1 hm => ?_, fun z hz hne => ?_, fun z hz => ?_⟩
    · obtain ⟨zs, h3, h4⟩ := h1 _ hm
      exact ⟨zs, h3, h4⟩
    · obtain ⟨zs, h3, h4⟩ := h1 z hz
      have : contC k z = some [z] := by
        obtain ⟨e, F1, H1⟩ := z
        cases e <;> first | rfl | exact absurd rfl hne
      rw [this] at h3
      cases h3
      exact h4 z (List.mem_singleton.2 rfl)
    · obtain ⟨x, hx, zs, h3, h4⟩ := h2 z hz
      obtain ⟨e, F1, H1⟩ := x
      cases e with
      | nrm => exact .inl ⟨F1, H1, zs, hx, h3, h4⟩
      | ext id =>
        cases (show some [(Ex.ext id, F1, H1)] = some zs from h3)
        rw [List.mem_singleton.1 h4]
        exact .inr hx
      | rt =>
        cases (show some [(Ex.rt, F1, H1)] = some zs from h3)
        rw [List.mem_singleton.1 h4]
        exact .inr hx
  · cases h

theorem rangeGo_ok (hora : OraMOK P ora) (hent : ∀ g, ent g = true → ∀ us w, (callFunc g us).run P w = .ok (.enter g us) w) {f : Operand} {ps : Array Tmp} {assign body : Code} {F : Fm} {H : HP} {l : List Oc} {g : FuncId} {caps : List AV}
    (ha : aroundOK H rb = true) (h : rangeGo ora ent n ps assign body F H g caps = some l) (hev : ∀ {ρ : PM} {a : Act} {w : World}, SRel n ρ F H a w → ∃ us : Array Value, a.eval f = .func (.func g) #[] us ∧ All2 (VRel ρ) caps us.toList) :
    CodeOK P n m rb r (.rangeFunc f ps assign body) F H (· ∈ l) := by
  unfold rangeGo at h
  split at h
  · rename_i outs hg hout
    obtain ⟨hst, hcall⟩ := hora _ _ _ _ hout
    obtain ⟨hlen, hget⟩ := allSome_get h
    have hmem : ∀ x ∈ l, ∃ o ∈ outs, loopEnd F H.n o = some x := by
      intro x hx
      obtain ⟨i, hi⟩ := List.getElem?_of_mem hx
      have := hget i x hi
      rw [List.getElem?_map] at this
      cases ho : outs[i]? with
      | none => rw [ho] at this; cases this
      | some o =>
        rw [ho] at this
        simp only [Option.map_some, Option.some.injEq] at this
        exact ⟨o, List.mem_of_getElem? ho, this⟩
    have hmem' : ∀ o ∈ outs, ∃ x ∈ l, loopEnd F H.n o = some x := by
      intro o ho
      obtain ⟨i, hi⟩ := List.getElem?_of_mem ho
      have hlt : i < l.length := by rw [← hlen, List.length_map]; exact (List.getElem?_eq_some_iff.1 hi).1
      have := hget i l[i] (List.getElem?_eq_getElem hlt)
      rw [List.getElem?_map, hi] at this
      simp only [Option.map_some, Option.some.injEq] at this
      exact ⟨_, List.getElem_mem hlt, this⟩
    have hend : ∀ {o : AV × HP} {x : Oc}, loopEnd F H.n o = some x → ∃ l1, loopAt o.2 H.n = some l1 ∧ l1.st ≠ .busy ∧ x.2.1 = F ∧ x.2.2 = (o.2.obj H.n (LoopC.ct { l1 with st := .exhausted })).drop H.n ∧
        ((x.1 = .nrm ∧ l1.pend = none) ∨ (x.1 = .rt ∧ l1.pend = some .ret) ∨ ∃ id, x.1 = .ext id ∧ l1.pend = some (.exit id)) := by
      intro o x hx
      unfold loopEnd at hx
      split at hx
      · rename_i l1 hl1
        split at hx
        · cases hx
        · rename_i hnb
          split at hx
          · rename_i hp; cases hx; exact ⟨l1, hl1, hnb, rfl, rfl, .inl ⟨rfl, hp⟩⟩
          · rename_i hp; cases hx; exact ⟨l1, hl1, hnb, rfl, rfl, .inr (.inl ⟨rfl, hp⟩)⟩
          · rename_i id hp; cases hx; exact ⟨l1, hl1, hnb, rfl, rfl, .inr (.inr ⟨id, rfl, hp⟩)⟩
          · cases hx
      · cases hx
    refine ⟨fun x hx => ?_, fun {Q ρ a w m0} s hr hm df hq => ?_⟩
    · obtain ⟨o, ho, hx⟩ := hmem x hx
      obtain ⟨l1, _, _, _, h2, _⟩ := hend hx
      rw [h2]
      exact (((St.push _ _).trans (hst o ho)).trans (St.obj _ _ _)).trans (St.drop _ _)
    · refine wpIn_rangeFunc fun fn _ => ?_
      obtain ⟨us, hus, hcaps⟩ := hev s
      obtain ⟨lz, mark, w₁, ρ1, he, hs1, hρ1, df1⟩ := enter_ok (P := P) s hr ha hm df fn (ps := ps) (assign := assign) (body := body)
      have hround : (WF r).round = r := rfl
      refine ⟨lz, mark, w₁, ⟨.fn (.func g) us, #[.func (.yield lz) #[] #[]]⟩, w₁, g, #[.func (.yield lz) #[] #[]] ++ us, w₁, by rw [hround]; exact he, ?_, fun f' _ => trivial, ?_, fun hh => by simp [WF, Fence.wide] at hh, ?_⟩
      · simp [resolve, hus, Deferred.ofValue]
        rfl
      · show (callFunc g (#[.func (.yield lz) #[] #[]] ++ us)).run P w₁ = _
        exact hent g hg _ _
      · refine callsIn_wf.2 ?_
        have hc := hcall ρ1 w₁ (#[.func (.yield lz) #[] #[]] ++ us) _ rfl (by
          rw [Array.toList_append]
          exact ⟨⟨_, hρ1, rfl⟩, by simpa using hcaps.mono fun _ _ => VRel.mono hs1.le⟩) hs1.rel hs1.dom (s.j.step hs1)
        rw [hent g hg] at hc
        refine Calls.mono hc fun e w3 ⟨u, he', o, ho, ρ2, _, hs2⟩ => ?_
        subst he'
        obtain ⟨x, hx, hxe⟩ := hmem' o ho
        obtain ⟨l1, hl1, hnb, hF, hH, hcase⟩ := hend hxe
        have hL2 := hs2.le _ _ hρ1
        obtain ⟨r1, g1, g2, g3, g4, g5, g6, g7⟩ := loop_rel hs2.rel hL2 hl1
        have hrun := run_endLoop (P := P) g1 (by rw [g2]; exact hnb)
        have hs3 := Sim.record (l' := { l1 with st := .exhausted }) (r' := { r1 with state := .exhausted }) hs2.rel hs2.dom hL2 hl1 g1 ⟨rfl, rfl, rfl, rfl, rfl⟩ (by rw [← g3])
        have hs4 := Sim.drop hs3.rel hs3.dom H.n
        have hs14 := hs2.trans hs1.dom (hs3.trans hs2.dom hs4)
        have hall := hs1.trans s.dom hs14
        have df4 := DfOK.step hs1.dom hs14 df1
        have s4 : SRel n ρ2 F ((o.2.obj H.n (LoopC.ct { l1 with st := .exhausted })).drop H.n) { a with defers := mark ++ a.defers } (w3.putObj lz (.loop { r1 with state := .exhausted })) :=
          ⟨⟨s.fr.sz, fun t v hv => let ⟨u, k1, k2⟩ := s.fr.get t v hv; ⟨u, k1, k2.mono hall.le⟩⟩, hs4.rel, hs4.dom, s.j.step hall⟩
        refine ⟨r1.pending, _, hrun, ?_⟩
        have hfin := hq x hx ρ2 { a with defers := mark ++ a.defers } (w3.putObj lz (.loop { r1 with state := .exhausted })) (by rw [hF, hH]; exact s4) (by rw [hH]; exact df4) (by rw [hH]; exact hall)
        have key : ∀ j, j = r1.pending → (match j with
            | none => Q .normal { a with defers := mark ++ a.defers } (w3.putObj lz (.loop { r1 with state := .exhausted }))
            | some c => c.wpIn (WF r) m P Q { a with defers := mark ++ a.defers } (w3.putObj lz (.loop { r1 with state := .exhausted }))) := by
          intro j hj
          rw [g3] at hj
          rcases hcase with ⟨h1, h2⟩ | ⟨h1, h2⟩ | ⟨id, h1, h2⟩
          · rw [h2] at hj; subst hj; rw [h1] at hfin; exact hfin
          · rw [h2] at hj; subst hj; rw [h1] at hfin; exact wpIn_ret hfin
          · rw [h2] at hj; subst hj; rw [h1] at hfin; exact wpIn_exit hfin
        exact key _ rfl
  · cases h

theorem codeA_ok (hm : P.follows .mixedOrders = true) (hora : OraMOK P ora) (hent : ∀ g, ent g = true → ∀ us w, (callFunc g us).run P w = .ok (.enter g us) w) : ∀ (c : Code) {F : Fm} {H : HP} {l : List Oc}, flowAll c = true → codeA P ora ent n fuel rb c F H = some l → CodeOK P n m rb r c F H (· ∈ l) := by
  intro c
  have triv : ∀ {c : Code} {F : Fm} {H : HP} {e : Ex}, (∀ {Q : Exit → Act → World → Prop} {a : Act} {w : World}, Q e.out a w → c.wpIn (WF r) m P Q a w) → CodeOK P n m rb r c F H (· ∈ [(e, F, H)]) := fun h =>
    ⟨fun x hx => by rw [List.mem_singleton.1 hx]; exact St.refl _, fun s hr hm df hq => h (hq _ (List.mem_singleton.2 rfl) _ _ _ s df (Sim.refl s.hp s.dom))⟩
  induction c with
  | skip => intro F H l _ h; cases h; exact triv (e := .nrm) wpIn_skip
  | label lb => intro F H l _ h; cases h; exact triv (e := .nrm) wpIn_label
  | exit id => intro F H l _ h; cases h; exact triv (e := .ext id) wpIn_exit
  | ret => intro F H l _ h; cases h; exact triv (e := .rt) wpIn_ret
  | goto lb => intro F H l _ h; cases h
  | refuse why => intro F H l _ h; cases h
  | rangeFunc f ps a b _ _ =>
    intro F H l _ h
    have h' : rangeC ora ent n rb f ps a b F H = some l := h
    unfold rangeC at h'
    split at h'
    · rename_i g x y ha hf
      split at h'
      · rename_i hxy
        refine rangeGo_ok hora hent ha h' fun {ρ a w} s => ?_
        obtain ⟨hev, _⟩ := evF_rel s.fr hf
        have hx : x = #[] := Array.eq_empty_of_size_eq_zero hxy.1
        have hy : y = #[] := Array.eq_empty_of_size_eq_zero hxy.2
        subst hx
        subst hy
        exact ⟨#[], hev, trivial⟩
      · cases h'
    · rename_i g caps ha hf
      refine rangeGo_ok hora hent ha h' fun {ρ a w} s => ?_
      obtain ⟨us, hev, hcaps⟩ := evF_rel s.fr hf
      exact ⟨us, hev, ptrs_rel hcaps⟩
    · cases h'
  | scope b ih =>
    intro F H l hf h
    have k1 := ih (F := F) (H := H) (l := l) hf h
    refine ⟨k1.st, fun {Q ρ a w m0} s hr hm df hq => wpIn_scope (k1.wp s hr hm df fun x hx ρ1 a1 w1 s1 hd1 hs1 => ?_)⟩
    have := hq x hx ρ1 a1 w1 s1 hd1 hs1
    obtain ⟨e, F1, H1⟩ := x
    cases e <;> exact this
  | region id ops draw =>
    intro F H l hf h
    have h0 : (match regA P ora n ops draw F H with | some l => some (l.map fun x => (Ex.nrm, x.1, normH x.2)) | none => none) = some l := h
    have h' : (match regA P ora n ops draw F H with | some l => some (l.map fun x => (Ex.nrm, x)) | none => none) = some l := by simpa only [normH_eq] using h0
    split at h'
    · rename_i l1 hr
      cases h'
      refine ⟨fun x hx => ?_, fun {Q ρ a w m0} s _ _ df hq => ?_⟩
      · obtain ⟨y, hy, rfl⟩ := List.mem_map.1 hx
        exact regA_st hora hf hr y hy
      · obtain ⟨ol⟩ := ops
        cases draw with
        | true =>
          obtain ⟨⟨F', H'⟩, h1, rfl⟩ := single_some (show single (drawA P ora.one n ol F H) = some l1 from hr)
          exact wp_drawA hm hora.one (by simpa [flowAll] using hf) h1 s fun ρ' a' w' s' hd' hs' => hq (.nrm, F', H') (List.mem_singleton.2 rfl) ρ' a' w' s' (by rw [hd']; exact DfOK.step s.dom hs' df) hs'
        | false => exact wp_seqM hora hr s fun x hx ρ' a' w' s' hd' hs' => hq (.nrm, x) (List.mem_map.2 ⟨x, hx, rfl⟩) ρ' a' w' s' (by rw [hd']; exact DfOK.step s.dom hs' df) hs'
    · cases h'
  | seq x y ihx ihy =>
    intro F H l hf h
    simp only [flowAll, Bool.and_eq_true] at hf
    obtain ⟨l1, h1, h2, h3, h4⟩ := seqC_some (show seqC (codeA P ora ent n fuel rb x F H) (codeA P ora ent n fuel rb y) = some l from h)
    have k1 := ihx hf.1 h1
    refine k1.seq (fun z hz => ?_) (fun F1 H1 hz => ?_) h3
    · rcases h4 z hz with ⟨F1, H1, l2, h5, h6, h7⟩ | h5
      · exact (k1.st _ h5).trans ((ihy hf.2 h6).st z h7)
      · exact k1.st z h5
    · obtain ⟨l2, h5, h6⟩ := h2 F1 H1 hz
      exact ⟨_, ihy hf.2 h5, h6⟩
  | cond c x y ihx ihy =>
    intro F H l hf h
    simp only [flowAll, Bool.and_eq_true] at hf
    have h' : condC (evF F c) (codeA P ora ent n fuel rb x F H) (codeA P ora ent n fuel rb y F H) = some l := h
    unfold condC at h'
    split at h'
    · rename_i hc
      have k1 := ihx hf.1 h'
      exact ⟨k1.st, fun {Q ρ a w m0} s hr hm df hq => wpIn_cond (t := true) (evF_rel s.fr hc).1 (k1.wp s hr hm df hq)⟩
    · rename_i hc
      have k1 := ihy hf.2 h'
      exact ⟨k1.st, fun {Q ρ a w m0} s hr hm df hq => wpIn_cond (t := false) (evF_rel s.fr hc).1 (k1.wp s hr hm df hq)⟩
    · cases h'
  | block id x ih =>
    intro F H l hf h
    have h' : blockC id (codeA P ora ent n fuel rb x F H) = some l := h
    unfold blockC at h'
    split at h'
    · rename_i l1 hx
      cases h'
      have k1 := ih hf hx
      have hH : ∀ y : Oc, (blockOne id y).2 = y.2 := by
        rintro ⟨e, F1, H1⟩
        cases e with
        | nrm => rfl
        | rt => rfl
        | ext id' =>
          show (match Nat.beq id' id with | true => ((.nrm, F1, H1) : Oc) | false => (.ext id', F1, H1)).2 = (F1, H1)
          split <;> rfl
      refine ⟨fun z hz => ?_, fun {Q ρ a w m0} s hr hm df hq => wpIn_block (k1.wp s hr hm df fun y hy ρ1 a1 w1 s1 hd1 hs1 => ?_)⟩
      · obtain ⟨y, hy, rfl⟩ := List.mem_map.1 hz
        rw [hH]
        exact k1.st y hy
      · have := hq _ (List.mem_map.2 ⟨y, hy, rfl⟩) ρ1 a1 w1 (by rw [hH]; exact s1) (by rw [hH]; exact hd1) (by rw [hH]; exact hs1)
        obtain ⟨e, F1, H1⟩ := y
        cases e with
        | nrm => exact this
        | rt => exact this
        | ext id' =>
          by_cases hb : id' = id
          · subst hb
            have hone : blockOne id' (.ext id', F1, H1) = (.nrm, F1, H1) := by
              show (match Nat.beq id' id' with | true => ((.nrm, F1, H1) : Oc) | false => (.ext id', F1, H1)) = _
              rw [Nat.beq_refl]
            rw [hone] at this
            simp only [Ex.out, Exit.inBlock, if_true]
            exact this
          · have hone : blockOne id (.ext id', F1, H1) = (.ext id', F1, H1) := by
              show (match Nat.beq id' id with | true => ((.nrm, F1, H1) : Oc) | false => (.ext id', F1, H1)) = _
              have : Nat.beq id' id = false := by rw [Bool.eq_false_iff]; intro h; exact hb (Nat.eq_of_beq_eq_true h)
              rw [this]
            rw [hone] at this
            simp only [Ex.out, Exit.inBlock, hb, if_false]
            exact this
    · cases h'
  | loop x ih =>
    intro F H l hf h
    have key : ∀ (k : Nat) {F : Fm} {H : HP} {l : List Oc}, loopC (codeA P ora ent n fuel rb x) k F H = some l → (∀ z ∈ l, St H z.2.2) ∧ ∀ {Q : Exit → Act → World → Prop} {ρ : PM} {a : Act} {w : World} {m0 : Nat}, SRel n ρ F H a w → RR ρ rb r → m0 ≤ w.heap.size → DfOK ρ H w m0 a.defers →
        (∀ z ∈ l, ∀ ρ' a' w', SRel n ρ' z.2.1 z.2.2 a' w' → DfOK ρ' z.2.2 w' m0 a'.defers → Sim ρ H w ρ' z.2.2 w' → Q z.1.out a' w') → Code.roundsIn (WF r) m P x Q k a w := by
      intro k
      induction k with
      | zero => intro F H l h; cases h
      | succ k ihk =>
        intro F H l h
        obtain ⟨l1, h1, h2, h3, h4⟩ := seqC_some (show seqC (codeA P ora ent n fuel rb x F H) (loopC (codeA P ora ent n fuel rb x) k) = some l from h)
        have k1 := ih hf h1
        refine ⟨fun z hz => ?_, fun {Q ρ a w m0} s hr hm df hq => ?_⟩
        · rcases h4 z hz with ⟨F1, H1, l2, h5, h6, h7⟩ | h5
          · exact (k1.st _ h5).trans ((ihk h6).1 z h7)
          · exact k1.st z h5
        · rw [roundsIn_succ]
          refine k1.wp s hr hm df fun z hz ρ1 a1 w1 s1 hd1 hs1 => ?_
          obtain ⟨e, F1, H1⟩ := z
          cases e with
          | nrm =>
            obtain ⟨l2, h5, h6⟩ := h2 F1 H1 hz
            exact (ihk h5).2 s1 (hr.mono hs1.le) (Nat.le_trans hm hs1.size) hd1 fun y hy ρ2 a2 w2 s2 hd2 hs2 => hq y (h6 y hy) ρ2 a2 w2 s2 hd2 (hs1.trans s.dom hs2)
          | ext id => exact hq _ (h3 _ hz (fun h => by cases h)) ρ1 a1 w1 s1 hd1 hs1
          | rt => exact hq _ (h3 _ hz (fun h => by cases h)) ρ1 a1 w1 s1 hd1 hs1
    obtain ⟨k1, k2⟩ := key fuel h
    exact ⟨k1, fun {Q ρ a w m0} s hr hm df hq => wpIn_loop_rounds fuel (k2 s hr hm df hq)⟩
end
end Go.Fv

set_option linter.unusedSectionVars false
set_option linter.unusedVariables false
namespace Go.Fv
variable {P : Program} [Plain P] {ora : OraM} {ent : FuncId → Bool} {n fuel : Nat} {H H' : HP} {w : World} {ρ : PM}

noncomputable section
def putsF (n : Nat) : Fm → List Tmp → List AV → Option Fm
  | F, [], [] => some F
  | F, p :: ps, v :: vs => match putF n F (some p) v with
    | some F' => putsF n F' ps vs
    | none => none
  | _, _, _ => none
def pendOf : Ex → Option Code
  | .nrm => none
  | .ext id => some (.exit id)
  | .rt => some .ret
def stOf : Ex → LoopState
  | .nrm => .ready
  | _ => .done
def isNrm : Ex → Bool
  | .nrm => true
  | _ => false
def isReady : LoopState → Bool
  | .ready => true
  | _ => false
def endRoundA (b : Nat) (x : Oc) : Option (AV × HP) :=
  match loopAt x.2.2 b with
  | some l => some (.one (.lit (.bool (isNrm x.1))), x.2.2.obj b (LoopC.ct { l with st := stOf x.1, pend := pendOf x.1 }))
  | none => none
def roundA (P : Program) [Plain P] (ora : OraM) (ent : FuncId → Bool) (fuel : Nat) (b n : Nat) (body : Code) (F : Fm) (H : HP) : RM :=
  match loopAt H b with
  | some l => match isReady l.st with
    | true => match codeA P ora ent n fuel (some b) body F (H.obj b (LoopC.ct { l with st := .busy })) with
      | some outs => allSome (outs.map (endRoundA b))
      | none => none
    | false => none
  | none => none
def thenRound (P : Program) [Plain P] (ora : OraM) (ent : FuncId → Bool) (fuel : Nat) (b n : Nat) (body : Code) (x : Oc) : RM :=
  match x.1 with
  | .nrm => roundA P ora ent fuel b n body x.2.1 x.2.2
  | _ => none
def yieldA (P : Program) [Plain P] (ora : OraM) (ent : FuncId → Bool) (fuel : Nat) (b : Nat) (args : List AV) (H : HP) : RM :=
  match loopAt H b with
  | some l => match putsF l.n l.F l.ps.toList args, flowAll l.assign && flowAll l.body with
    | some F1, true => match codeA P ora ent l.n fuel (some b) l.assign F1 H with
      | some outs => bindL (thenRound P ora ent fuel b l.n l.body) outs
      | none => none
    | _, _ => none
  | none => none
end

theorem allSome_mem {α β : Type} {f : α → Option β} {xs : List α} {ys : List β} (h : allSome (xs.map f) = some ys) : (∀ x ∈ xs, ∃ y ∈ ys, f x = some y) ∧ ∀ y ∈ ys, ∃ x ∈ xs, f x = some y := by
  obtain ⟨hlen, hget⟩ := allSome_get h
  rw [List.length_map] at hlen
  refine ⟨fun x hx => ?_, fun y hy => ?_⟩
  · obtain ⟨i, hi⟩ := List.getElem?_of_mem hx
    have hlt : i < ys.length := by rw [← hlen]; exact (List.getElem?_eq_some_iff.1 hi).1
    have := hget i ys[i] (List.getElem?_eq_getElem hlt)
    rw [List.getElem?_map, hi] at this
    simp only [Option.map_some, Option.some.injEq] at this
    exact ⟨_, List.getElem_mem hlt, this⟩
  · obtain ⟨i, hi⟩ := List.getElem?_of_mem hy
    have := hget i y hi
    rw [List.getElem?_map] at this
    cases ho : xs[i]? with
    | none => rw [ho] at this; cases this
    | some x =>
      rw [ho] at this
      simp only [Option.map_some, Option.some.injEq] at this
      exact ⟨x, List.mem_of_getElem? ho, this⟩

theorem putsF_rel : ∀ {ps : List Tmp} {vs : List AV} {us : List Value} {F F' : Fm} {tmps : Array Value}, putsF n F ps vs = some F' → All2 (VRel ρ) vs us → FRel n ρ F ⟨tmps, []⟩ →
    ps.length = us.length ∧ FRel n ρ F' ⟨(ps.zip us).foldl (fun t (p : Tmp × Value) => t.setIfInBounds p.1 p.2) tmps, []⟩
  | [], [], [], F, F', tmps, h, _, hf => by cases h; exact ⟨rfl, hf⟩
  | [], [], _ :: _, _, _, _, _, h, _ => h.elim
  | [], _ :: _, _, _, _, _, h, _, _ => by cases h
  | _ :: _, [], _, _, _, _, h, _, _ => by cases h
  | p :: ps, v :: vs, [], _, _, _, _, h, _ => h.elim
  | p :: ps, v :: vs, u :: us, F, F', tmps, h, ⟨h1, h2⟩, hf => by
    simp only [putsF] at h
    split at h
    · rename_i F1 hp
      have := putF_rel hf h1 hp
      obtain ⟨k1, k2⟩ := putsF_rel h h2 this
      exact ⟨by simp [k1], k2⟩
    · cases h

theorem endRoundA_some {b : Nat} {x : Oc} {o : AV × HP} (h : endRoundA b x = some o) : ∃ l, loopAt x.2.2 b = some l ∧ o = (.one (.lit (.bool (isNrm x.1))), x.2.2.obj b (LoopC.ct { l with st := stOf x.1, pend := pendOf x.1 })) := by
  unfold endRoundA at h
  split at h
  · rename_i l hl
    cases h
    exact ⟨l, hl, rfl⟩
  · cases h

/-- A round behind the assignments to the loop's left sides. -/
theorem roundA_ok (hm : P.follows .mixedOrders = true) (hora : OraMOK P ora) (hent : ∀ g, ent g = true → ∀ us w, (callFunc g us).run P w = .ok (.enter g us) w) {b : Nat} {body : Code} {F : Fm} {outs : List (AV × HP)} (hfl : flowAll body = true)
    (h : roundA P ora ent fuel b n body F H = some outs) : (∀ o ∈ outs, St H o.2) ∧ ∀ {ρ : PM} {a : Act} {w : World} {L : Loc} {R : Ending → World → Prop} {m0 : Nat}, ρ b = some L → SRel n ρ F H a w → m0 ≤ w.heap.size → DfOK ρ H w m0 a.defers →
      (∀ o ∈ outs, ∀ ρ' u w', VRel ρ' o.1 u → Sim ρ H w ρ' o.2 w' → R (.returned u) w') → ∃ w₂, (Instr.beginRound L.B).run P w = .ok () w₂ ∧ body.wpIn (WF (some L.B)) 0 P (roundPost P L.B R) a w₂ := by
  unfold roundA at h
  split at h
  · rename_i l hl
    split at h
    · rename_i hst
      split at h
      · rename_i l2 hc
        obtain ⟨hall, hall'⟩ := allSome_mem h
        have K := fun r => codeA_ok (n := n) (m := 0) (rb := some b) (r := r) hm hora hent body hfl hc
        refine ⟨fun o ho => ?_, fun {ρ a w L R m0} hL s hm0 df hR => ?_⟩
        · obtain ⟨x, hx, hxe⟩ := hall' o ho
          obtain ⟨l3, _, rfl⟩ := endRoundA_some hxe
          exact ((St.obj _ _ _).trans ((K none).st x hx)).trans (St.obj _ _ _)
        · obtain ⟨q, hq, q1, q2, q3, q4, q5, q6⟩ := loop_rel s.hp hL hl
          have hqr : q.state = .ready := by
            rw [q1]
            cases hx : l.st <;> rw [hx] at hst <;> first | rfl | cases hst
          refine ⟨_, run_beginRound hq hqr, ?_⟩
          have hs2 := Sim.record (l' := { l with st := .busy }) (r' := { q with state := .busy }) s.hp s.dom hL hl hq ⟨rfl, rfl, rfl, rfl, rfl⟩ (by rw [← q2])
          refine (K (some L.B)).wp ⟨s.fr, hs2.rel, hs2.dom, s.j.step hs2⟩ ⟨L, hL, rfl⟩ (Nat.le_trans hm0 hs2.size) (DfOK.step s.dom hs2 df) fun x hx ρ3 a3 w3 s3 _ hs3 => ?_
          obtain ⟨o, ho, hoe⟩ := hall x hx
          obtain ⟨l3, hl3, rfl⟩ := endRoundA_some hoe
          have hL3 := hs3.le b L hL
          obtain ⟨p, hp', p1, p2, p3, p4, p5, p6⟩ := loop_rel s3.hp hL3 hl3
          obtain ⟨e, F3, H3⟩ := x
          have fin : ∀ (jump : Option Code), jump = pendOf e → ∃ v w', (Instr.endRound L.B jump).run P w3 = .ok v w' ∧ R (Ending.returned v) w' := by
            intro jump hj
            subst hj
            have hs4 := Sim.record (l' := { l3 with st := stOf e, pend := pendOf e }) (r' := { p with state := if (pendOf e).isNone then .ready else .done, pending := pendOf e }) s3.hp s3.dom hL3 hl3 hp' ⟨rfl, rfl, rfl, rfl, rfl⟩ (by cases e <;> rfl)
            refine ⟨_, _, run_endRound _ hp', hR _ ho ρ3 _ _ ?_ (hs2.trans s.dom (hs3.trans hs2.dom hs4))⟩
            cases e <;> exact ⟨rfl, rfl⟩
          cases e with
          | nrm => exact fin _ rfl
          | ext id => exact fin _ rfl
          | rt => exact fin _ rfl
      · cases h
    · cases h
  · cases h

theorem yieldA_ok (hm : P.follows .mixedOrders = true) (hora : OraMOK P ora) (hent : ∀ g, ent g = true → ∀ us w, (callFunc g us).run P w = .ok (.enter g us) w) {b : Nat} {args : List AV} {outs : List (AV × HP)} (h : yieldA P ora ent fuel b args H = some outs) :
    (∀ o ∈ outs, St H o.2) ∧ ∀ (ρ : PM) (w : World) (us : Array Value) (L : Loc), ρ b = some L → All2 (VRel ρ) args us.toList → HRel ρ H w → Dom ρ H.n → J ρ w → GivesR P (PostM ρ H w outs) ((Instr.yield L.B us).run P w) := by
  unfold yieldA at h
  split at h
  · rename_i l hl
    split at h
    · rename_i F1 hp hfl
      simp only [Bool.and_eq_true] at hfl
      split at h
      · rename_i l1 hc1
        obtain ⟨hb1, hb2⟩ := bindL_spec h
        have K1 := fun m r => codeA_ok (n := l.n) (m := m) (rb := some b) (r := r) hm hora hent l.assign hfl.1 hc1
        have hth : ∀ x ∈ l1, ∃ F2 H2, x = (.nrm, F2, H2) ∧ ∃ zs, roundA P ora ent fuel b l.n l.body F2 H2 = some zs ∧ ∀ z ∈ zs, z ∈ outs := by
          intro x hx
          obtain ⟨zs, h1, h2⟩ := hb1 x hx
          obtain ⟨e, F2, H2⟩ := x
          cases e with
          | nrm => exact ⟨F2, H2, rfl, zs, h1, h2⟩
          | ext id => cases h1
          | rt => cases h1
        refine ⟨fun o ho => ?_, fun ρ w us L hL hargs hH hd hj => ?_⟩
        · obtain ⟨x, hx, zs, h1, h2⟩ := hb2 o ho
          obtain ⟨e, F2, H2⟩ := x
          cases e with
          | nrm => exact ((K1 0 none).st _ hx).trans ((roundA_ok hm hora hent hfl.2 h1).1 o h2)
          | ext id => cases h1
          | rt => cases h1
        · obtain ⟨r, hr, r1, r2, r3, r4, r5, r6⟩ := loop_rel hH hL hl
          obtain ⟨hlen, hf⟩ := putsF_rel hp hargs r6
          have hy := run_yield (P := P) (w := w) (args := us) hr (by rw [r3, ← Array.length_toList, ← hlen, Array.length_toList])
          rw [hy]
          show RoundIn Fence.wide 0 P L.B r.fn _ r.assign r.body w _
          refine roundIn_of_wpIn trivial ?_
          rw [r4, r5]
          have hzip : ((r.params.zip us).foldl (fun tmps (x : Tmp × Value) => tmps.setIfInBounds x.1 x.2) r.tmps) = (l.ps.toList.zip us.toList).foldl (fun t (p : Tmp × Value) => t.setIfInBounds p.1 p.2) r.tmps := by
            rw [r3, ← Array.foldl_toList, Array.toList_zip]
          have s0 : SRel l.n ρ F1 H { tmps := (r.params.zip us).foldl (fun tmps (x : Tmp × Value) => tmps.setIfInBounds x.1 x.2) r.tmps, defers := [] } w := ⟨by rw [hzip]; exact hf, hH, hd, hj⟩
          refine (K1 0 (some L.B)).wp s0 ⟨L, hL, rfl⟩ (Nat.zero_le _) (DfOK.nil _ _ _ 0) fun x hx ρ1 a1 w1 s1 df1 hs1 => ?_
          obtain ⟨F2, H2, rfl, zs, h1, h2⟩ := hth x hx
          have hL1 := hs1.le b L hL
          exact (roundA_ok hm hora hent hfl.2 h1).2 hL1 s1 (Nat.zero_le _) df1 fun o ho ρ' u w' hv hs => ⟨u, rfl, o, h2 o ho, ρ', hv, hs1.trans hd hs⟩
      · cases h
    · cases h
  · cases h
end Go.Fv

set_option linter.unusedSectionVars false
set_option linter.unusedVariables false
namespace Go.Fv

/-! ### One outcome told as another -/
def Wk (o o2 : AV × HP) : Prop := ∀ (ρ : PM) (u : Value) (w : World), VRel ρ o.1 u → HRel ρ o.2 w → Dom ρ o.2.n → ∃ ρ', VRel ρ' o2.1 u ∧ Sim ρ o.2 w ρ' o2.2 w
theorem Wk.refl (o : AV × HP) : Wk o o := fun ρ u w h1 h2 h3 => ⟨ρ, h1, Sim.refl h2 h3⟩
theorem Wk.trans {o o1 o2 : AV × HP} (h : Wk o o1) (h' : Wk o1 o2) : Wk o o2 := fun ρ u w h1 h2 h3 => by
  obtain ⟨ρ1, g1, g2⟩ := h ρ u w h1 h2 h3
  obtain ⟨ρ2, g3, g4⟩ := h' ρ1 u w g1 g2.rel g2.dom
  exact ⟨ρ2, g3, g2.trans h3 g4⟩
theorem Wk.drop (v : AV) (H : HP) (b : Nat) : Wk (v, H) (v, H.drop b) := fun ρ u w h1 h2 h3 => ⟨ρ, h1, Sim.drop h2 h3 b⟩
theorem Wk.cells {v : AV} {H H' : HP} (hn : H.n ≤ H'.n) (hc : ∀ b i, H'.cell b i = H.cell b i) : Wk (v, H) (v, H') := fun ρ u w h1 h2 h3 => ⟨ρ, h1, {
  le := PM.le.refl ρ
  grow := hn
  dom := fun b hb => h3 b (Nat.le_trans hn hb)
  rel := ⟨fun b i c L h => h2.rel b i c L (by rw [← hc]; exact h), fun b b' L L' ⟨i, c, g1⟩ ⟨i', c', g2⟩ => h2.inj b b' L L' ⟨i, c, by rw [← hc]; exact g1⟩ ⟨i', c', by rw [← hc]; exact g2⟩⟩
  knc := fun b i _ h => by rw [hc]; exact h
  frc := fun _ _ _ _ _ _ _ => SameAt.of_heap rfl _
  fr := fun _ _ _ => rfl
  new := fun b L g1 g2 => by rw [g1] at g2; cases g2
  size := Nat.le_refl _
  os := rfl
  tape := rfl
  output := rfl
  old := fun b L g1 g2 => by rw [g1] at g2; cases g2 }⟩

/-! ### What is reached -/
noncomputable section
def refsC : Cel → List Nat
  | .lit _ => []
  | .ptr b _ => [b]
  | .sl b _ _ _ => [b]
  | .su b _ _ _ => [b]
  | .sz b _ => [b]
  | .fn _ caps => caps.map (·.1)
  | .mp b => [b]
  | .yd b => [b]
  | .kp b _ _ => [b]
  | .us => []
  | .un _ => []
def refsCs : List Cel → List Nat → List Nat
  | [], acc => acc
  | .lit _ :: r, acc => refsCs r acc
  | x :: r, acc => refsCs r (refsC x ++ acc)
def refsPs : List (Bool × List Cel) → List Nat → List Nat
  | [], acc => acc
  | p :: r, acc => refsPs r (refsCs p.2 acc)
def refsV (v : AV) (acc : List Nat) : List Nat :=
  match v with
  | .one c => refsC c ++ acc
  | .agg xs => refsCs xs acc
  | .tup ps => refsPs ps acc
def refsEs : List Ent → List Nat → List Nat
  | [], acc => acc
  | e :: r, acc => refsEs r (refsCs e.1.2 (refsCs e.2.1.2 acc))
def refsL : List (Option Ct) → List Nat → List Nat
  | [], acc => acc
  | some (.c (.lit _)) :: r, acc => refsL r acc
  | some (.c x) :: r, acc => refsL r (refsC x ++ acc)
  | some (.map es _) :: r, acc => refsL r (refsEs es acc)
  | some (.iter (some m) _ _ _) :: r, acc => refsL r (m :: acc)
  | _ :: r, acc => refsL r acc
def refsB : Bk → List Nat → List Nat
  | .lf l, acc => refsL l acc
  | .fl _ c, acc => refsC c ++ acc
  | .nd _ l r, acc => refsB l (refsB r acc)
/-- Blocks from n0 on that are reached. -/
def markG (H : HP) (n0 fuel : Nat) : List Nat → PT Unit → PT Unit :=
  Nat.rec (motive := fun _ => List Nat → PT Unit → PT Unit) (fun _ s => s) (fun _ ih todo s =>
    match todo with
    | [] => s
    | b :: r => match Nat.ble n0 b, s.get b with
      | true, none => ih (match H.t.get b with | some k => refsB k r | none => r) (s.put b (some ()))
      | _, _ => ih r s) fuel
/-- What the old blocks from lo on hold. -/
def rootsG (H : HP) (lo k : Nat) (acc : List Nat) : List Nat :=
  Nat.rec (motive := fun _ => Nat → List Nat → List Nat) (fun _ acc => acc) (fun _ ih b acc => ih (Nat.succ b) (match H.t.get b with | some k => refsB k acc | none => acc)) k lo acc
def dropsG (s : PT Unit) (k : Nat) : Nat → HP → HP :=
  Nat.rec (motive := fun _ => Nat → HP → HP) (fun _ H => H) (fun _ ih b H => match s.get b with
    | some _ => ih (Nat.succ b) H
    | none => match H.t.get b with
      | some _ => ih (Nat.succ b) (H.drop b)
      | none => ih (Nat.succ b) H) k
/-- Blocks from n0 on that nothing leads to are out of view. -/
def gcG (n0 : Nat) (o : AV × HP) : AV × HP :=
  (o.1, dropsG (markG o.2 n0 100000 (refsV o.1 (rootsG o.2 o.2.lo (n0 - o.2.lo) [])) .nil) (o.2.n - n0) n0 o.2)
def maxN : List (AV × HP) → Nat → Nat
  | [], m => m
  | o :: r, m => maxN r (match Nat.ble m o.2.n with | true => o.2.n | false => m)
def minLo : List (AV × HP) → Nat → Nat
  | [], m => m
  | o :: r, m => minLo r (minN m o.2.lo)
def setN (N lo : Nat) (o : AV × HP) : AV × HP := (o.1, ⟨o.2.t, match Nat.ble o.2.n N with | true => N | false => o.2.n, minN lo o.2.lo⟩)
def eqO (o o2 : AV × HP) : Bool := eqAV o.1 o2.1 && (eqT' o2.2.t o.2.t && Nat.ble o.2.n o2.2.n)
def mergeG : List (AV × HP) → List (AV × HP) → List (AV × HP)
  | [], acc => acc
  | o :: r, acc => match acc.any (eqO o) with
    | true => mergeG r acc
    | false => mergeG r (o :: acc)
def tidyG (n0 : Nat) (outs : List (AV × HP)) : List (AV × HP) :=
  match outs with
  | [] => []
  | [o] => [o]
  | o :: p :: r => mergeG ((o :: p :: r).map fun x => setN (maxN (o :: p :: r) 0) (minLo (o :: p :: r) n0) (gcG n0 x)) []
end

theorem dropsG_spec {s : PT Unit} : ∀ (k b : Nat) (v : AV) (H : HP), Wk (v, H) (v, dropsG s k b H) ∧ St H (dropsG s k b H)
  | 0, _, v, H => ⟨Wk.refl _, St.refl _⟩
  | k + 1, b, v, H => by
    show Wk (v, H) (v, match s.get b with | some _ => dropsG s k (Nat.succ b) H | none => match H.t.get b with | some _ => dropsG s k (Nat.succ b) (H.drop b) | none => dropsG s k (Nat.succ b) H) ∧
      St H (match s.get b with | some _ => dropsG s k (Nat.succ b) H | none => match H.t.get b with | some _ => dropsG s k (Nat.succ b) (H.drop b) | none => dropsG s k (Nat.succ b) H)
    split
    · exact dropsG_spec k _ v H
    · split
      · obtain ⟨h1, h2⟩ := dropsG_spec k (Nat.succ b) v (H.drop b)
        exact ⟨(Wk.drop v H b).trans h1, (St.drop H b).trans h2⟩
      · exact dropsG_spec k _ v H
theorem gcG_spec (n0 : Nat) (o : AV × HP) : Wk o (gcG n0 o) ∧ St o.2 (gcG n0 o).2 := dropsG_spec _ _ o.1 o.2
theorem setN_spec (N lo : Nat) (o : AV × HP) : Wk o (setN N lo o) ∧ St o.2 (setN N lo o).2 := by
  have hn : o.2.n ≤ (setN N lo o).2.n := by
    show o.2.n ≤ (match Nat.ble o.2.n N with | true => N | false => o.2.n)
    split
    · rename_i h; exact Nat.le_of_ble_eq_true h
    · exact Nat.le_refl _
  exact ⟨Wk.cells hn fun _ _ => rfl, ⟨(minN_le _ _).2, fun _ _ _ => rfl⟩, hn⟩
theorem eqO_spec {o o2 : AV × HP} (h : eqO o o2 = true) : Wk o o2 := by
  simp only [eqO, Bool.and_eq_true] at h
  obtain ⟨h1, h2, h3⟩ := h
  obtain ⟨v, H⟩ := o
  obtain ⟨v', H'⟩ := o2
  have := eqAV_spec h1
  simp only at this
  subst this
  refine Wk.cells (Nat.le_of_ble_eq_true h3) fun b i => ?_
  unfold HP.cell
  rw [eqT'_spec h2 b]
theorem mergeG_spec : ∀ (l acc : List (AV × HP)), (∀ o, (o ∈ l ∨ o ∈ acc) → ∃ o2 ∈ mergeG l acc, Wk o o2) ∧ ∀ o ∈ mergeG l acc, o ∈ l ∨ o ∈ acc
  | [], acc => ⟨fun o ho => ⟨o, ho.resolve_left (by simp), Wk.refl o⟩, fun o ho => .inr ho⟩
  | x :: r, acc => by
    show (∀ o, (o ∈ x :: r ∨ o ∈ acc) → ∃ o2 ∈ (match acc.any (eqO x) with | true => mergeG r acc | false => mergeG r (x :: acc)), Wk o o2) ∧ ∀ o ∈ (match acc.any (eqO x) with | true => mergeG r acc | false => mergeG r (x :: acc)), o ∈ x :: r ∨ o ∈ acc
    split
    · rename_i hany
      obtain ⟨h1, h2⟩ := mergeG_spec r acc
      obtain ⟨y, hy, he⟩ := List.any_eq_true.1 hany
      refine ⟨fun o ho => ?_, fun o ho => (h2 o ho).imp (List.mem_cons_of_mem _) id⟩
      rcases ho with ho | ho
      · rcases List.mem_cons.1 ho with rfl | ho
        · obtain ⟨o2, g1, g2⟩ := h1 y (.inr hy)
          exact ⟨o2, g1, (eqO_spec he).trans g2⟩
        · exact h1 o (.inl ho)
      · exact h1 o (.inr ho)
    · obtain ⟨h1, h2⟩ := mergeG_spec r (x :: acc)
      refine ⟨fun o ho => h1 o ?_, fun o ho => ?_⟩
      · rcases ho with ho | ho
        · rcases List.mem_cons.1 ho with rfl | ho
          · exact .inr (List.mem_cons_self ..)
          · exact .inl ho
        · exact .inr (List.mem_cons_of_mem _ ho)
      · rcases h2 o ho with ho | ho
        · exact .inl (List.mem_cons_of_mem _ ho)
        · rcases List.mem_cons.1 ho with rfl | ho
          · exact .inl (List.mem_cons_self ..)
          · exact .inr ho
theorem tidyG_spec (n0 : Nat) (outs : List (AV × HP)) : (∀ o ∈ outs, ∃ o2 ∈ tidyG n0 outs, Wk o o2) ∧ ∀ o2 ∈ tidyG n0 outs, ∃ o ∈ outs, St o.2 o2.2 := by
  unfold tidyG
  split
  · exact ⟨fun _ h => (by cases h), fun _ h => (by cases h)⟩
  · exact ⟨fun o ho => ⟨o, ho, Wk.refl o⟩, fun o ho => ⟨o, ho, St.refl _⟩⟩
  · rename_i o p r
    generalize o :: p :: r = l
    have key : ∀ x : AV × HP, Wk x (setN (maxN l 0) (minLo l n0) (gcG n0 x)) ∧ St x.2 (setN (maxN l 0) (minLo l n0) (gcG n0 x)).2 := fun x => by
      obtain ⟨g1, g2⟩ := gcG_spec n0 x
      obtain ⟨g3, g4⟩ := setN_spec (maxN l 0) (minLo l n0) (gcG n0 x)
      exact ⟨g1.trans g3, g2.trans g4⟩
    obtain ⟨h1, h2⟩ := mergeG_spec (l.map fun x => setN (maxN l 0) (minLo l n0) (gcG n0 x)) []
    refine ⟨fun x hx => ?_, fun y hy => ?_⟩
    · obtain ⟨o2, g1, g2⟩ := h1 _ (.inl (List.mem_map.2 ⟨x, hx, rfl⟩))
      exact ⟨o2, g1, (key x).1.trans g2⟩
    · rcases h2 y hy with hy | hy
      · obtain ⟨x, hx, rfl⟩ := List.mem_map.1 hy
        exact ⟨x, hx, (key x).2⟩
      · cases hy
end Go.Fv
