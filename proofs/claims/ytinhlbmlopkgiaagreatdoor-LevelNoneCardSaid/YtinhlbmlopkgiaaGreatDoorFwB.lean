/-
  A second abstract evaluator of the model's code: code. Conditions: none; nothing here speaks of one program.
-/
import Derived.Test.YtinhlbmlopkgiaaGreatDoorFwA
import Derived.Test.YtinhlbmlopkgiaaGreatDoorFvP
import Derived.LoopNIn
import Derived.Scope
set_option linter.unusedSectionVars false
set_option linter.unusedVariables false
namespace Go.Fv

/-- How code ends. -/
inductive Ex where
  | nrm
  | ext (id : Nat)
  | rt
def Ex.out : Ex → Exit
  | .nrm => .normal
  | .ext id => .exit id
  | .rt => .ret
/-- One outcome of code; all of them. -/
abbrev Oc := Ex × Fm × HP
abbrev RC := Option (List Oc)

/-! ### Scopes through which no jump goes -/
section
variable {P : Program} {b : Frame} {a : Act} {k : List Item} {cs : List Frame} {w : World} {Q : Exit → Act → World → Prop} {D : Fence} {n : Nat}
theorem stepR_scope {c : Code} : step P (lone (b.atR a (.code (.scope c) :: k)) cs w) = .next (lone (b.atR a (.code c :: .inScope c :: k)) cs w) :=
  step_lone_go (by simp [stepG, stepG.exec, Frame.atR])
theorem stepR_inScope {c : Code} : step P (lone (b.atR a (.inScope c :: k)) cs w) = .next (lone (b.atR a k) cs w) :=
  step_lone_go (by simp [stepG, stepG.exec, Frame.atR])
theorem wpIn_scope {c : Code} (h : c.wpIn D n P (Exit.noGoto Q) a w) : (Code.scope c).wpIn D n P Q a w := by
  intro b k cs hro hb hr
  have h0 : (lone (b.atR a (.code (.scope c) :: k)) cs w).fenced P D := fenced_calm hb hr rfl
  obtain ⟨e, a₁, w₁, hq, harr⟩ := h b (.inScope c :: k) cs hro hb hr
  cases e with
  | normal => exact ⟨.normal, a₁, w₁, hq, .head h0 stepR_scope (StepsIn.trans harr (.one (fenced_calm hb hr rfl) stepR_inScope))⟩
  | exit id =>
    have hx : exitTo id (.inScope c :: k) = exitTo id k := by simp [exitTo]
    exact ⟨.exit id, a₁, w₁, hq, fun k' hk => .head h0 stepR_scope (harr.1 k' (by rw [hx]; exact hk)),
      fun hr' hk => let ⟨k₁, h1, h2⟩ := harr.2 hr' (by rw [hx]; exact hk); ⟨k₁, h1, .head h0 stepR_scope h2⟩⟩
  | goto l => exact hq.elim
  | ret => exact ⟨_, a₁, w₁, hq, .of_steps (.one h0 stepR_scope) harr⟩
  | panic ch => exact ⟨_, a₁, w₁, hq, .of_steps (.one h0 stepR_scope) harr⟩
  | outgrown => exact ⟨_, a₁, w₁, hq, .of_steps (.one h0 stepR_scope) harr⟩
end

noncomputable section
def regA (P : Program) [Plain P] (ora : OraM) (n : Nat) (ops : Array Oper) (draw : Bool) (F : Fm) (H : HP) : Option (List (Fm × HP)) :=
  match draw with
  | true => single (drawA P ora.one n ops.toList F H)
  | false => seqM P ora n ops.toList ops.toList F H
def contC (k : Fm → HP → RC) (x : Oc) : RC :=
  match x.1 with
  | .nrm => k x.2.1 x.2.2
  | _ => some [x]
def seqC (x : RC) (k : Fm → HP → RC) : RC :=
  match x with
  | some l => bindL (contC k) l
  | none => none
def condC (v : Option AV) (x y : RC) : RC :=
  match v with
  | some (.one (.lit (.bool true))) => x
  | some (.one (.lit (.bool false))) => y
  | _ => none
def blockOne (id : Nat) (x : Oc) : Oc :=
  match x.1 with
  | .ext id' => match Nat.beq id' id with
    | true => (.nrm, x.2)
    | false => x
  | _ => x
def blockC (id : Nat) (x : RC) : RC :=
  match x with
  | some l => some (l.map (blockOne id))
  | none => none
def loopC (step : Fm → HP → RC) (fuel : Nat) : Fm → HP → RC :=
  Nat.rec (motive := fun _ => Fm → HP → RC) (fun _ _ => none) (fun _ ih F H => seqC (step F H) ih) fuel
/-- A loop over a function has ended. -/
def loopEnd (F : Fm) (b : Nat) (o : AV × HP) : Option Oc :=
  match loopAt o.2 b with
  | some l => match l.st with
    | .busy => none
    | _ => match l.pend with
      | none => some (.nrm, F, (o.2.obj b (LoopC.ct { l with st := .exhausted })).drop b)
      | some .ret => some (.rt, F, (o.2.obj b (LoopC.ct { l with st := .exhausted })).drop b)
      | some (.exit id) => some (.ext id, F, (o.2.obj b (LoopC.ct { l with st := .exhausted })).drop b)
      | _ => none
  | none => none
def rangeGo (ora : OraM) (ent : FuncId → Bool) (n : Nat) (ps : Array Tmp) (assign body : Code) (F : Fm) (H : HP) (g : FuncId) (caps : List AV) : RC :=
  match ent g, ora (.f g) (.one (.yd H.n) :: caps) (H.push [some (.loop .ready none n F ps assign body)]) with
  | true, some outs => allSome (outs.map (loopEnd F H.n))
  | _, _ => none
def rangeC (ora : OraM) (ent : FuncId → Bool) (n : Nat) (rb : Option Nat) (f : Operand) (ps : Array Tmp) (assign body : Code) (F : Fm) (H : HP) : RC :=
  match aroundOK H rb, evF F f with
  | true, some (.one (.lit (.func (.func g) a b))) => if a.size = 0 ∧ b.size = 0 then rangeGo ora ent n ps assign body F H g [] else none
  | true, some (.one (.fn (.func g) caps)) => rangeGo ora ent n ps assign body F H g (ptrs caps)
  | _, _ => none
def codeA (P : Program) [Plain P] (ora : OraM) (ent : FuncId → Bool) (n fuel : Nat) (rb : Option Nat) (c : Code) : Fm → HP → RC :=
  Code.rec (motive := fun _ => Fm → HP → RC)
    (fun F H => some [(.nrm, F, H)])
    (fun _ ops draw F H => match regA P ora n ops draw F H with
      | some l => some (l.map fun x => (.nrm, x))
      | none => none)
    (fun _ _ x y F H => seqC (x F H) y)
    (fun c _ _ x y F H => condC (evF F c) (x F H) (y F H))
    (fun id _ x F H => blockC id (x F H))
    (fun _ x F H => loopC x fuel F H)
    (fun f ps a b _ _ F H => rangeC ora ent n rb f ps a b F H)
    (fun id F H => some [(.ext id, F, H)])
    (fun _ x F H => x F H)
    (fun _ F H => some [(.nrm, F, H)])
    (fun _ _ _ => none)
    (fun F H => some [(.rt, F, H)])
    (fun _ _ _ => none) c
end

def flowAll : Code → Bool
  | .region _ ops draw => !draw || flowOk ops.toList
  | .seq a b => flowAll a && flowAll b
  | .cond _ a b => flowAll a && flowAll b
  | .block _ b => flowAll b
  | .loop b => flowAll b
  | .rangeFunc _ _ a b => flowAll a && flowAll b
  | .scope b => flowAll b
  | _ => true

/-! ### What is said of a code's run -/
structure CodeOK (P : Program) (n m : Nat) (rb r : Option Nat) (c : Code) (F : Fm) (H : HP) (Z : Oc → Prop) : Prop where
  st : ∀ x, Z x → St H x.2.2
  wp : ∀ {Q : Exit → Act → World → Prop} {ρ : PM} {a : Act} {w : World} {m0 : Nat}, SRel n ρ F H a w → RR ρ rb r → m0 ≤ w.heap.size → DfOK ρ H w m0 a.defers →
    (∀ x, Z x → ∀ ρ' a' w', SRel n ρ' x.2.1 x.2.2 a' w' → DfOK ρ' x.2.2 w' m0 a'.defers → Sim ρ H w ρ' x.2.2 w' → Q x.1.out a' w') → c.wpIn (WF r) m P Q a w

section
variable {P : Program} {n m : Nat} {rb r : Option Nat} {F : Fm} {H : HP} {Z : Oc → Prop}
theorem CodeOK.weaken {c : Code} {Z' : Oc → Prop} (h : CodeOK P n m rb r c F H Z) (hz : ∀ x, Z x → Z' x) (hst : ∀ x, Z' x → St H x.2.2) : CodeOK P n m rb r c F H Z' :=
  ⟨hst, fun s hr hm df hq => h.wp s hr hm df fun x hx => hq x (hz x hx)⟩
theorem CodeOK.seq {x y : Code} {Z1 : Oc → Prop} (h1 : CodeOK P n m rb r x F H Z1) (hst : ∀ x, Z x → St H x.2.2) (h2 : ∀ F1 H1, Z1 (.nrm, F1, H1) → ∃ Z2, CodeOK P n m rb r y F1 H1 Z2 ∧ ∀ x, Z2 x → Z x) (h3 : ∀ x, Z1 x → x.1 ≠ .nrm → Z x) : CodeOK P n m rb r (.seq x y) F H Z := by
  refine ⟨hst, fun {Q ρ a w m0} s hr hm df hq => wpIn_seq (h1.wp s hr hm df fun x hx ρ1 a1 w1 s1 hd1 hs1 => ?_)⟩
  obtain ⟨e, F1, H1⟩ := x
  cases e with
  | nrm =>
    obtain ⟨Z2, k1, k2⟩ := h2 F1 H1 hx
    exact k1.wp s1 (hr.mono hs1.le) (Nat.le_trans hm hs1.size) hd1 fun y hy ρ2 a2 w2 s2 hd2 hs2 => hq y (k2 y hy) ρ2 a2 w2 s2 hd2 (hs1.trans s.dom hs2)
  | ext id => exact hq _ (h3 _ hx (fun h => by cases h)) ρ1 a1 w1 s1 hd1 hs1
  | rt => exact hq _ (h3 _ hx (fun h => by cases h)) ρ1 a1 w1 s1 hd1 hs1
end

section
variable {P : Program} [Plain P] {ora : OraM} {ent : FuncId → Bool} {n m fuel : Nat} {rb r : Option Nat}

theorem regA_st (ho : OraMOK P ora) {ops : Array Oper} {draw : Bool} (hf : (!draw || flowOk ops.toList) = true) {F : Fm} {H : HP} {l : List (Fm × HP)} (h : regA P ora n ops draw F H = some l) : ∀ x ∈ l, St H x.2 := by
  cases draw with
  | true =>
    obtain ⟨⟨F', H'⟩, h1, rfl⟩ := single_some (show single (drawA P ora.one n ops.toList F H) = some l from h)
    intro x hx
    rw [List.mem_singleton.1 hx]
    exact drawA_st ho.one.st (by simpa using hf) h1
  | false => exact seqM_st ho _ h

theorem seqC_some {x : RC} {k : Fm → HP → RC} {l : List Oc} (h : seqC x k = some l) : ∃ l1, x = some l1 ∧ (∀ F1 H1, (Ex.nrm, F1, H1) ∈ l1 → ∃ l2, k F1 H1 = some l2 ∧ ∀ z ∈ l2, z ∈ l) ∧ (∀ z ∈ l1, z.1 ≠ .nrm → z ∈ l) ∧
    ∀ z ∈ l, (∃ F1 H1 l2, (Ex.nrm, F1, H1) ∈ l1 ∧ k F1 H1 = some l2 ∧ z ∈ l2) ∨ z ∈ l1 := by
  unfold seqC at h
  split at h
  · rename_i l1
    obtain ⟨h1, h2⟩ := bindL_spec h
    refine ⟨l1, rfl, fun F1 H1 hm => ?_, fun z hz hne => ?_, fun z hz => ?_⟩
    · obtain ⟨zs, h3, h4⟩ := h1 _ hm
      exact ⟨zs, h3, h4⟩
    · obtain ⟨zs, h3, h4⟩ := h1 z hz
      have : contC k z = some [z] := by
        obtain ⟨e, F1, H1⟩ := z
        cases e <;> first | rfl | exact absurd rfl hne
      rw [this] at h3
      cases h3
      exact h4 z (List.mem_singleton.2 rfl)
    · obtain ⟨x, hx, zs, h3, h4⟩ := h2 z hz
      obtain ⟨e, F1, H1⟩ := x
      cases e with
      | nrm => exact .inl ⟨F1, H1, zs, hx, h3, h4⟩
      | ext id =>
        cases (show some [(Ex.ext id, F1, H1)] = some zs from h3)
        rw [List.mem_singleton.1 h4]
        exact .inr hx
      | rt =>
        cases (show some [(Ex.rt, F1, H1)] = some zs from h3)
        rw [List.mem_singleton.1 h4]
        exact .inr hx
  · cases h

theorem rangeGo_ok (hora : OraMOK P ora) (hent : ∀ g, ent g = true → ∀ us w, (callFunc g us).run P w = .ok (.enter g us) w) {f : Operand} {ps : Array Tmp} {assign body : Code} {F : Fm} {H : HP} {l : List Oc} {g : FuncId} {caps : List AV}
    (ha : aroundOK H rb = true) (h : rangeGo ora ent n ps assign body F H g caps = some l) (hev : ∀ {ρ : PM} {a : Act} {w : World}, SRel n ρ F H a w → ∃ us : Array Value, a.eval f = .func (.func g) #[] us ∧ All2 (VRel ρ) caps us.toList) :
    CodeOK P n m rb r (.rangeFunc f ps assign body) F H (· ∈ l) := by
  unfold rangeGo at h
  split at h
  · rename_i outs hg hout
    obtain ⟨hst, hcall⟩ := hora _ _ _ _ hout
    obtain ⟨hlen, hget⟩ := allSome_get h
    have hmem : ∀ x ∈ l, ∃ o ∈ outs, loopEnd F H.n o = some x := by
      intro x hx
      obtain ⟨i, hi⟩ := List.getElem?_of_mem hx
      have := hget i x hi
      rw [List.getElem?_map] at this
      cases ho : outs[i]? with
      | none => rw [ho] at this; cases this
      | some o =>
        rw [ho] at this
        simp only [Option.map_some, Option.some.injEq] at this
        exact ⟨o, List.mem_of_getElem? ho, this⟩
    have hmem' : ∀ o ∈ outs, ∃ x ∈ l, loopEnd F H.n o = some x := by
      intro o ho
      obtain ⟨i, hi⟩ := List.getElem?_of_mem ho
      have hlt : i < l.length := by rw [← hlen, List.length_map]; exact (List.getElem?_eq_some_iff.1 hi).1
      have := hget i l[i] (List.getElem?_eq_getElem hlt)
      rw [List.getElem?_map, hi] at this
      simp only [Option.map_some, Option.some.injEq] at this
      exact ⟨_, List.getElem_mem hlt, this⟩
    have hend : ∀ {o : AV × HP} {x : Oc}, loopEnd F H.n o = some x → ∃ l1, loopAt o.2 H.n = some l1 ∧ l1.st ≠ .busy ∧ x.2.1 = F ∧ x.2.2 = (o.2.obj H.n (LoopC.ct { l1 with st := .exhausted })).drop H.n ∧
        ((x.1 = .nrm ∧ l1.pend = none) ∨ (x.1 = .rt ∧ l1.pend = some .ret) ∨ ∃ id, x.1 = .ext id ∧ l1.pend = some (.exit id)) := by
      intro o x hx
      unfold loopEnd at hx
      split at hx
      · rename_i l1 hl1
        split at hx
        · cases hx
        · rename_i hnb
          split at hx
          · rename_i hp; cases hx; exact ⟨l1, hl1, hnb, rfl, rfl, .inl ⟨rfl, hp⟩⟩
          · rename_i hp; cases hx; exact ⟨l1, hl1, hnb, rfl, rfl, .inr (.inl ⟨rfl, hp⟩)⟩
          · rename_i id hp; cases hx; exact ⟨l1, hl1, hnb, rfl, rfl, .inr (.inr ⟨id, rfl, hp⟩)⟩
          · cases hx
      · cases hx
    refine ⟨fun x hx => ?_, fun {Q ρ a w m0} s hr hm df hq => ?_⟩
    · obtain ⟨o, ho, hx⟩ := hmem x hx
      obtain ⟨l1, _, _, _, h2, _⟩ := hend hx
      rw [h2]
      exact (((St.push _ _).trans (hst o ho)).trans (St.obj _ _ _)).trans (St.drop _ _)
    · refine wpIn_rangeFunc fun fn _ => ?_
      obtain ⟨us, hus, hcaps⟩ := hev s
      obtain ⟨lz, mark, w₁, ρ1, he, hs1, hρ1, df1⟩ := enter_ok (P := P) s hr ha hm df fn (ps := ps) (assign := assign) (body := body)
      have hround : (WF r).round = r := rfl
      refine ⟨lz, mark, w₁, ⟨.fn (.func g) us, #[.func (.yield lz) #[] #[]]⟩, w₁, g, #[.func (.yield lz) #[] #[]] ++ us, w₁, by rw [hround]; exact he, ?_, fun f' _ => trivial, ?_, fun hh => by simp [WF, Fence.wide] at hh, ?_⟩
      · simp [resolve, hus, Deferred.ofValue]
        rfl
      · show (callFunc g (#[.func (.yield lz) #[] #[]] ++ us)).run P w₁ = _
        exact hent g hg _ _
      · refine callsIn_wf.2 ?_
        have hc := hcall ρ1 w₁ (#[.func (.yield lz) #[] #[]] ++ us) _ rfl (by
          rw [Array.toList_append]
          exact ⟨⟨_, hρ1, rfl⟩, by simpa using hcaps.mono fun _ _ => VRel.mono hs1.le⟩) hs1.rel hs1.dom
        rw [hent g hg] at hc
        refine Calls.mono hc fun e w3 ⟨u, he', o, ho, ρ2, _, hs2⟩ => ?_
        subst he'
        obtain ⟨x, hx, hxe⟩ := hmem' o ho
        obtain ⟨l1, hl1, hnb, hF, hH, hcase⟩ := hend hxe
        have hL2 := hs2.le _ _ hρ1
        obtain ⟨r1, g1, g2, g3, g4, g5, g6, g7⟩ := loop_rel hs2.rel hL2 hl1
        have hrun := run_endLoop (P := P) g1 (by rw [g2]; exact hnb)
        have hs3 := Sim.record (l' := { l1 with st := .exhausted }) (r' := { r1 with state := .exhausted }) hs2.rel hs2.dom hL2 hl1 g1 ⟨rfl, rfl, rfl, rfl, rfl⟩ (by rw [← g3])
        have hs4 := Sim.drop hs3.rel hs3.dom H.n
        have hs14 := hs2.trans hs1.dom (hs3.trans hs2.dom hs4)
        have hall := hs1.trans s.dom hs14
        have df4 := DfOK.step hs1.dom hs14 df1
        have s4 : SRel n ρ2 F ((o.2.obj H.n (LoopC.ct { l1 with st := .exhausted })).drop H.n) { a with defers := mark ++ a.defers } (w3.putObj lz (.loop { r1 with state := .exhausted })) :=
          ⟨⟨s.fr.sz, fun t v hv => let ⟨u, k1, k2⟩ := s.fr.get t v hv; ⟨u, k1, k2.mono hall.le⟩⟩, hs4.rel, hs4.dom⟩
        refine ⟨r1.pending, _, hrun, ?_⟩
        have hfin := hq x hx ρ2 { a with defers := mark ++ a.defers } (w3.putObj lz (.loop { r1 with state := .exhausted })) (by rw [hF, hH]; exact s4) (by rw [hH]; exact df4) (by rw [hH]; exact hall)
        have key : ∀ j, j = r1.pending → (match j with
            | none => Q .normal { a with defers := mark ++ a.defers } (w3.putObj lz (.loop { r1 with state := .exhausted }))
            | some c => c.wpIn (WF r) m P Q { a with defers := mark ++ a.defers } (w3.putObj lz (.loop { r1 with state := .exhausted }))) := by
          intro j hj
          rw [g3] at hj
          rcases hcase with ⟨h1, h2⟩ | ⟨h1, h2⟩ | ⟨id, h1, h2⟩
          · rw [h2] at hj; subst hj; rw [h1] at hfin; exact hfin
          · rw [h2] at hj; subst hj; rw [h1] at hfin; exact wpIn_ret hfin
          · rw [h2] at hj; subst hj; rw [h1] at hfin; exact wpIn_exit hfin
        exact key _ rfl
  · cases h

theorem codeA_ok (hm : P.follows .mixedOrders = true) (hora : OraMOK P ora) (hent : ∀ g, ent g = true → ∀ us w, (callFunc g us).run P w = .ok (.enter g us) w) : ∀ (c : Code) {F : Fm} {H : HP} {l : List Oc}, flowAll c = true → codeA P ora ent n fuel rb c F H = some l → CodeOK P n m rb r c F H (· ∈ l) := by
  intro c
  have triv : ∀ {c : Code} {F : Fm} {H : HP} {e : Ex}, (∀ {Q : Exit → Act → World → Prop} {a : Act} {w : World}, Q e.out a w → c.wpIn (WF r) m P Q a w) → CodeOK P n m rb r c F H (· ∈ [(e, F, H)]) := fun h =>
    ⟨fun x hx => by rw [List.mem_singleton.1 hx]; exact St.refl _, fun s hr hm df hq => h (hq _ (List.mem_singleton.2 rfl) _ _ _ s df (Sim.refl s.hp s.dom))⟩
  induction c with
  | skip => intro F H l _ h; cases h; exact triv (e := .nrm) wpIn_skip
  | label lb => intro F H l _ h; cases h; exact triv (e := .nrm) wpIn_label
  | exit id => intro F H l _ h; cases h; exact triv (e := .ext id) wpIn_exit
  | ret => intro F H l _ h; cases h; exact triv (e := .rt) wpIn_ret
  | goto lb => intro F H l _ h; cases h
  | refuse why => intro F H l _ h; cases h
  | rangeFunc f ps a b _ _ =>
    intro F H l _ h
    have h' : rangeC ora ent n rb f ps a b F H = some l := h
    unfold rangeC at h'
    split at h'
    · rename_i g x y ha hf
      split at h'
      · rename_i hxy
        refine rangeGo_ok hora hent ha h' fun {ρ a w} s => ?_
        obtain ⟨hev, _⟩ := evF_rel s.fr hf
        have hx : x = #[] := Array.eq_empty_of_size_eq_zero hxy.1
        have hy : y = #[] := Array.eq_empty_of_size_eq_zero hxy.2
        subst hx
        subst hy
        exact ⟨#[], hev, trivial⟩
      · cases h'
    · rename_i g caps ha hf
      refine rangeGo_ok hora hent ha h' fun {ρ a w} s => ?_
      obtain ⟨us, hev, hcaps⟩ := evF_rel s.fr hf
      exact ⟨us, hev, ptrs_rel hcaps⟩
    · cases h'
  | scope b ih =>
    intro F H l hf h
    have k1 := ih (F := F) (H := H) (l := l) hf h
    refine ⟨k1.st, fun {Q ρ a w m0} s hr hm df hq => wpIn_scope (k1.wp s hr hm df fun x hx ρ1 a1 w1 s1 hd1 hs1 => ?_)⟩
    have := hq x hx ρ1 a1 w1 s1 hd1 hs1
    obtain ⟨e, F1, H1⟩ := x
    cases e <;> exact this
  | region id ops draw =>
    intro F H l hf h
    have h' : (match regA P ora n ops draw F H with | some l => some (l.map fun x => (Ex.nrm, x)) | none => none) = some l := h
    split at h'
    · rename_i l1 hr
      cases h'
      refine ⟨fun x hx => ?_, fun {Q ρ a w m0} s _ _ df hq => ?_⟩
      · obtain ⟨y, hy, rfl⟩ := List.mem_map.1 hx
        exact regA_st hora hf hr y hy
      · obtain ⟨ol⟩ := ops
        cases draw with
        | true =>
          obtain ⟨⟨F', H'⟩, h1, rfl⟩ := single_some (show single (drawA P ora.one n ol F H) = some l1 from hr)
          exact wp_drawA hm hora.one (by simpa [flowAll] using hf) h1 s fun ρ' a' w' s' hd' hs' => hq (.nrm, F', H') (List.mem_singleton.2 rfl) ρ' a' w' s' (by rw [hd']; exact DfOK.step s.dom hs' df) hs'
        | false => exact wp_seqM hora hr s fun x hx ρ' a' w' s' hd' hs' => hq (.nrm, x) (List.mem_map.2 ⟨x, hx, rfl⟩) ρ' a' w' s' (by rw [hd']; exact DfOK.step s.dom hs' df) hs'
    · cases h'
  | seq x y ihx ihy =>
    intro F H l hf h
    simp only [flowAll, Bool.and_eq_true] at hf
    obtain ⟨l1, h1, h2, h3, h4⟩ := seqC_some (show seqC (codeA P ora ent n fuel rb x F H) (codeA P ora ent n fuel rb y) = some l from h)
    have k1 := ihx hf.1 h1
    refine k1.seq (fun z hz => ?_) (fun F1 H1 hz => ?_) h3
    · rcases h4 z hz with ⟨F1, H1, l2, h5, h6, h7⟩ | h5
      · exact (k1.st _ h5).trans ((ihy hf.2 h6).st z h7)
      · exact k1.st z h5
    · obtain ⟨l2, h5, h6⟩ := h2 F1 H1 hz
      exact ⟨_, ihy hf.2 h5, h6⟩
  | cond c x y ihx ihy =>
    intro F H l hf h
    simp only [flowAll, Bool.and_eq_true] at hf
    have h' : condC (evF F c) (codeA P ora ent n fuel rb x F H) (codeA P ora ent n fuel rb y F H) = some l := h
    unfold condC at h'
    split at h'
    · rename_i hc
      have k1 := ihx hf.1 h'
      exact ⟨k1.st, fun {Q ρ a w m0} s hr hm df hq => wpIn_cond (t := true) (evF_rel s.fr hc).1 (k1.wp s hr hm df hq)⟩
    · rename_i hc
      have k1 := ihy hf.2 h'
      exact ⟨k1.st, fun {Q ρ a w m0} s hr hm df hq => wpIn_cond (t := false) (evF_rel s.fr hc).1 (k1.wp s hr hm df hq)⟩
    · cases h'
  | block id x ih =>
    intro F H l hf h
    have h' : blockC id (codeA P ora ent n fuel rb x F H) = some l := h
    unfold blockC at h'
    split at h'
    · rename_i l1 hx
      cases h'
      have k1 := ih hf hx
      have hH : ∀ y : Oc, (blockOne id y).2 = y.2 := by
        rintro ⟨e, F1, H1⟩
        cases e with
        | nrm => rfl
        | rt => rfl
        | ext id' =>
          show (match Nat.beq id' id with | true => ((.nrm, F1, H1) : Oc) | false => (.ext id', F1, H1)).2 = (F1, H1)
          split <;> rfl
      refine ⟨fun z hz => ?_, fun {Q ρ a w m0} s hr hm df hq => wpIn_block (k1.wp s hr hm df fun y hy ρ1 a1 w1 s1 hd1 hs1 => ?_)⟩
      · obtain ⟨y, hy, rfl⟩ := List.mem_map.1 hz
        rw [hH]
        exact k1.st y hy
      · have := hq _ (List.mem_map.2 ⟨y, hy, rfl⟩) ρ1 a1 w1 (by rw [hH]; exact s1) (by rw [hH]; exact hd1) (by rw [hH]; exact hs1)
        obtain ⟨e, F1, H1⟩ := y
        cases e with
        | nrm => exact this
        | rt => exact this
        | ext id' =>
          by_cases hb : id' = id
          · subst hb
            have hone : blockOne id' (.ext id', F1, H1) = (.nrm, F1, H1) := by
              show (match Nat.beq id' id' with | true => ((.nrm, F1, H1) : Oc) | false => (.ext id', F1, H1)) = _
              rw [Nat.beq_refl]
            rw [hone] at this
            simp only [Ex.out, Exit.inBlock, if_true]
            exact this
          · have hone : blockOne id (.ext id', F1, H1) = (.ext id', F1, H1) := by
              show (match Nat.beq id' id with | true => ((.nrm, F1, H1) : Oc) | false => (.ext id', F1, H1)) = _
              have : Nat.beq id' id = false := by rw [Bool.eq_false_iff]; intro h; exact hb (Nat.eq_of_beq_eq_true h)
              rw [this]
            rw [hone] at this
            simp only [Ex.out, Exit.inBlock, hb, if_false]
            exact this
    · cases h'
  | loop x ih =>
    intro F H l hf h
    have key : ∀ (k : Nat) {F : Fm} {H : HP} {l : List Oc}, loopC (codeA P ora ent n fuel rb x) k F H = some l → (∀ z ∈ l, St H z.2.2) ∧ ∀ {Q : Exit → Act → World → Prop} {ρ : PM} {a : Act} {w : World} {m0 : Nat}, SRel n ρ F H a w → RR ρ rb r → m0 ≤ w.heap.size → DfOK ρ H w m0 a.defers →
        (∀ z ∈ l, ∀ ρ' a' w', SRel n ρ' z.2.1 z.2.2 a' w' → DfOK ρ' z.2.2 w' m0 a'.defers → Sim ρ H w ρ' z.2.2 w' → Q z.1.out a' w') → Code.roundsIn (WF r) m P x Q k a w := by
      intro k
      induction k with
      | zero => intro F H l h; cases h
      | succ k ihk =>
        intro F H l h
        obtain ⟨l1, h1, h2, h3, h4⟩ := seqC_some (show seqC (codeA P ora ent n fuel rb x F H) (loopC (codeA P ora ent n fuel rb x) k) = some l from h)
        have k1 := ih hf h1
        refine ⟨fun z hz => ?_, fun {Q ρ a w m0} s hr hm df hq => ?_⟩
        · rcases h4 z hz with ⟨F1, H1, l2, h5, h6, h7⟩ | h5
          · exact (k1.st _ h5).trans ((ihk h6).1 z h7)
          · exact k1.st z h5
        · rw [roundsIn_succ]
          refine k1.wp s hr hm df fun z hz ρ1 a1 w1 s1 hd1 hs1 => ?_
          obtain ⟨e, F1, H1⟩ := z
          cases e with
          | nrm =>
            obtain ⟨l2, h5, h6⟩ := h2 F1 H1 hz
            exact (ihk h5).2 s1 (hr.mono hs1.le) (Nat.le_trans hm hs1.size) hd1 fun y hy ρ2 a2 w2 s2 hd2 hs2 => hq y (h6 y hy) ρ2 a2 w2 s2 hd2 (hs1.trans s.dom hs2)
          | ext id => exact hq _ (h3 _ hz (fun h => by cases h)) ρ1 a1 w1 s1 hd1 hs1
          | rt => exact hq _ (h3 _ hz (fun h => by cases h)) ρ1 a1 w1 s1 hd1 hs1
    obtain ⟨k1, k2⟩ := key fuel h
    exact ⟨k1, fun {Q ρ a w m0} s hr hm df hq => wpIn_loop_rounds fuel (k2 s hr hm df hq)⟩
end
end Go.Fv
