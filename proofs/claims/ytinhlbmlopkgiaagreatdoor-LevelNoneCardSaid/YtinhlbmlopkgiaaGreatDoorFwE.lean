/-
  A second abstract evaluator of the model's code: one round of a loop over a function. Conditions: none; nothing here speaks of one program.
-/
import Derived.Test.YtinhlbmlopkgiaaGreatDoorFwB
set_option linter.unusedSectionVars false
set_option linter.unusedVariables false
namespace Go.Fv
variable {P : Program} [Plain P] {ora : OraM} {ent : FuncId → Bool} {n fuel : Nat} {H H' : HP} {w : World} {ρ : PM}

noncomputable section
def putsF (n : Nat) : Fm → List Tmp → List AV → Option Fm
  | F, [], [] => some F
  | F, p :: ps, v :: vs => match putF n F (some p) v with
    | some F' => putsF n F' ps vs
    | none => none
  | _, _, _ => none
def pendOf : Ex → Option Code
  | .nrm => none
  | .ext id => some (.exit id)
  | .rt => some .ret
def stOf : Ex → LoopState
  | .nrm => .ready
  | _ => .done
def isNrm : Ex → Bool
  | .nrm => true
  | _ => false
def isReady : LoopState → Bool
  | .ready => true
  | _ => false
def endRoundA (b : Nat) (x : Oc) : Option (AV × HP) :=
  match loopAt x.2.2 b with
  | some l => some (.one (.lit (.bool (isNrm x.1))), x.2.2.obj b (LoopC.ct { l with st := stOf x.1, pend := pendOf x.1 }))
  | none => none
def roundA (P : Program) [Plain P] (ora : OraM) (ent : FuncId → Bool) (fuel : Nat) (b n : Nat) (body : Code) (F : Fm) (H : HP) : RM :=
  match loopAt H b with
  | some l => match isReady l.st with
    | true => match codeA P ora ent n fuel (some b) body F (H.obj b (LoopC.ct { l with st := .busy })) with
      | some outs => allSome (outs.map (endRoundA b))
      | none => none
    | false => none
  | none => none
def thenRound (P : Program) [Plain P] (ora : OraM) (ent : FuncId → Bool) (fuel : Nat) (b n : Nat) (body : Code) (x : Oc) : RM :=
  match x.1 with
  | .nrm => roundA P ora ent fuel b n body x.2.1 x.2.2
  | _ => none
def yieldA (P : Program) [Plain P] (ora : OraM) (ent : FuncId → Bool) (fuel : Nat) (b : Nat) (args : List AV) (H : HP) : RM :=
  match loopAt H b with
  | some l => match putsF l.n l.F l.ps.toList args, flowAll l.assign && flowAll l.body with
    | some F1, true => match codeA P ora ent l.n fuel (some b) l.assign F1 H with
      | some outs => bindL (thenRound P ora ent fuel b l.n l.body) outs
      | none => none
    | _, _ => none
  | none => none
end

theorem allSome_mem {α β : Type} {f : α → Option β} {xs : List α} {ys : List β} (h : allSome (xs.map f) = some ys) : (∀ x ∈ xs, ∃ y ∈ ys, f x = some y) ∧ ∀ y ∈ ys, ∃ x ∈ xs, f x = some y := by
  obtain ⟨hlen, hget⟩ := allSome_get h
  rw [List.length_map] at hlen
  refine ⟨fun x hx => ?_, fun y hy => ?_⟩
  · obtain ⟨i, hi⟩ := List.getElem?_of_mem hx
    have hlt : i < ys.length := by rw [← hlen]; exact (List.getElem?_eq_some_iff.1 hi).1
    have := hget i ys[i] (List.getElem?_eq_getElem hlt)
    rw [List.getElem?_map, hi] at this
    simp only [Option.map_some, Option.some.injEq] at this
    exact ⟨_, List.getElem_mem hlt, this⟩
  · obtain ⟨i, hi⟩ := List.getElem?_of_mem hy
    have := hget i y hi
    rw [List.getElem?_map] at this
    cases ho : xs[i]? with
    | none => rw [ho] at this; cases this
    | some x =>
      rw [ho] at this
      simp only [Option.map_some, Option.some.injEq] at this
      exact ⟨x, List.mem_of_getElem? ho, this⟩

theorem putsF_rel : ∀ {ps : List Tmp} {vs : List AV} {us : List Value} {F F' : Fm} {tmps : Array Value}, putsF n F ps vs = some F' → All2 (VRel ρ) vs us → FRel n ρ F ⟨tmps, []⟩ →
    ps.length = us.length ∧ FRel n ρ F' ⟨(ps.zip us).foldl (fun t (p : Tmp × Value) => t.setIfInBounds p.1 p.2) tmps, []⟩
  | [], [], [], F, F', tmps, h, _, hf => by cases h; exact ⟨rfl, hf⟩
  | [], [], _ :: _, _, _, _, _, h, _ => h.elim
  | [], _ :: _, _, _, _, _, h, _, _ => by cases h
  | _ :: _, [], _, _, _, _, h, _, _ => by cases h
  | p :: ps, v :: vs, [], _, _, _, _, h, _ => h.elim
  | p :: ps, v :: vs, u :: us, F, F', tmps, h, ⟨h1, h2⟩, hf => by
    simp only [putsF] at h
    split at h
    · rename_i F1 hp
      have := putF_rel hf h1 hp
      obtain ⟨k1, k2⟩ := putsF_rel h h2 this
      exact ⟨by simp [k1], k2⟩
    · cases h

theorem endRoundA_some {b : Nat} {x : Oc} {o : AV × HP} (h : endRoundA b x = some o) : ∃ l, loopAt x.2.2 b = some l ∧ o = (.one (.lit (.bool (isNrm x.1))), x.2.2.obj b (LoopC.ct { l with st := stOf x.1, pend := pendOf x.1 })) := by
  unfold endRoundA at h
  split at h
  · rename_i l hl
    cases h
    exact ⟨l, hl, rfl⟩
  · cases h

/-- A round behind the assignments to the loop's left sides. -/
theorem roundA_ok (hm : P.follows .mixedOrders = true) (hora : OraMOK P ora) (hent : ∀ g, ent g = true → ∀ us w, (callFunc g us).run P w = .ok (.enter g us) w) {b : Nat} {body : Code} {F : Fm} {outs : List (AV × HP)} (hfl : flowAll body = true)
    (h : roundA P ora ent fuel b n body F H = some outs) : (∀ o ∈ outs, St H o.2) ∧ ∀ {ρ : PM} {a : Act} {w : World} {L : Loc} {R : Ending → World → Prop} {m0 : Nat}, ρ b = some L → SRel n ρ F H a w → m0 ≤ w.heap.size → DfOK ρ H w m0 a.defers →
      (∀ o ∈ outs, ∀ ρ' u w', VRel ρ' o.1 u → Sim ρ H w ρ' o.2 w' → R (.returned u) w') → ∃ w₂, (Instr.beginRound L.B).run P w = .ok () w₂ ∧ body.wpIn (WF (some L.B)) 0 P (roundPost P L.B R) a w₂ := by
  unfold roundA at h
  split at h
  · rename_i l hl
    split at h
    · rename_i hst
      split at h
      · rename_i l2 hc
        obtain ⟨hall, hall'⟩ := allSome_mem h
        have K := fun r => codeA_ok (n := n) (m := 0) (rb := some b) (r := r) hm hora hent body hfl hc
        refine ⟨fun o ho => ?_, fun {ρ a w L R m0} hL s hm0 df hR => ?_⟩
        · obtain ⟨x, hx, hxe⟩ := hall' o ho
          obtain ⟨l3, _, rfl⟩ := endRoundA_some hxe
          exact ((St.obj _ _ _).trans ((K none).st x hx)).trans (St.obj _ _ _)
        · obtain ⟨q, hq, q1, q2, q3, q4, q5, q6⟩ := loop_rel s.hp hL hl
          have hqr : q.state = .ready := by
            rw [q1]
            cases hx : l.st <;> rw [hx] at hst <;> first | rfl | cases hst
          refine ⟨_, run_beginRound hq hqr, ?_⟩
          have hs2 := Sim.record (l' := { l with st := .busy }) (r' := { q with state := .busy }) s.hp s.dom hL hl hq ⟨rfl, rfl, rfl, rfl, rfl⟩ (by rw [← q2])
          refine (K (some L.B)).wp ⟨s.fr, hs2.rel, hs2.dom⟩ ⟨L, hL, rfl⟩ (Nat.le_trans hm0 hs2.size) (DfOK.step s.dom hs2 df) fun x hx ρ3 a3 w3 s3 _ hs3 => ?_
          obtain ⟨o, ho, hoe⟩ := hall x hx
          obtain ⟨l3, hl3, rfl⟩ := endRoundA_some hoe
          have hL3 := hs3.le b L hL
          obtain ⟨p, hp', p1, p2, p3, p4, p5, p6⟩ := loop_rel s3.hp hL3 hl3
          obtain ⟨e, F3, H3⟩ := x
          have fin : ∀ (jump : Option Code), jump = pendOf e → ∃ v w', (Instr.endRound L.B jump).run P w3 = .ok v w' ∧ R (Ending.returned v) w' := by
            intro jump hj
            subst hj
            have hs4 := Sim.record (l' := { l3 with st := stOf e, pend := pendOf e }) (r' := { p with state := if (pendOf e).isNone then .ready else .done, pending := pendOf e }) s3.hp s3.dom hL3 hl3 hp' ⟨rfl, rfl, rfl, rfl, rfl⟩ (by cases e <;> rfl)
            refine ⟨_, _, run_endRound _ hp', hR _ ho ρ3 _ _ ?_ (hs2.trans s.dom (hs3.trans hs2.dom hs4))⟩
            cases e <;> exact ⟨rfl, rfl⟩
          cases e with
          | nrm => exact fin _ rfl
          | ext id => exact fin _ rfl
          | rt => exact fin _ rfl
      · cases h
    · cases h
  · cases h

theorem yieldA_ok (hm : P.follows .mixedOrders = true) (hora : OraMOK P ora) (hent : ∀ g, ent g = true → ∀ us w, (callFunc g us).run P w = .ok (.enter g us) w) {b : Nat} {args : List AV} {outs : List (AV × HP)} (h : yieldA P ora ent fuel b args H = some outs) :
    (∀ o ∈ outs, St H o.2) ∧ ∀ (ρ : PM) (w : World) (us : Array Value) (L : Loc), ρ b = some L → All2 (VRel ρ) args us.toList → HRel ρ H w → Dom ρ H.n → GivesR P (PostM ρ H w outs) ((Instr.yield L.B us).run P w) := by
  unfold yieldA at h
  split at h
  · rename_i l hl
    split at h
    · rename_i F1 hp hfl
      simp only [Bool.and_eq_true] at hfl
      split at h
      · rename_i l1 hc1
        obtain ⟨hb1, hb2⟩ := bindL_spec h
        have K1 := fun m r => codeA_ok (n := l.n) (m := m) (rb := some b) (r := r) hm hora hent l.assign hfl.1 hc1
        have hth : ∀ x ∈ l1, ∃ F2 H2, x = (.nrm, F2, H2) ∧ ∃ zs, roundA P ora ent fuel b l.n l.body F2 H2 = some zs ∧ ∀ z ∈ zs, z ∈ outs := by
          intro x hx
          obtain ⟨zs, h1, h2⟩ := hb1 x hx
          obtain ⟨e, F2, H2⟩ := x
          cases e with
          | nrm => exact ⟨F2, H2, rfl, zs, h1, h2⟩
          | ext id => cases h1
          | rt => cases h1
        refine ⟨fun o ho => ?_, fun ρ w us L hL hargs hH hd => ?_⟩
        · obtain ⟨x, hx, zs, h1, h2⟩ := hb2 o ho
          obtain ⟨e, F2, H2⟩ := x
          cases e with
          | nrm => exact ((K1 0 none).st _ hx).trans ((roundA_ok hm hora hent hfl.2 h1).1 o h2)
          | ext id => cases h1
          | rt => cases h1
        · obtain ⟨r, hr, r1, r2, r3, r4, r5, r6⟩ := loop_rel hH hL hl
          obtain ⟨hlen, hf⟩ := putsF_rel hp hargs r6
          have hy := run_yield (P := P) (w := w) (args := us) hr (by rw [r3, ← Array.length_toList, ← hlen, Array.length_toList])
          rw [hy]
          show RoundIn Fence.wide 0 P L.B r.fn _ r.assign r.body w _
          refine roundIn_of_wpIn trivial ?_
          rw [r4, r5]
          have hzip : ((r.params.zip us).foldl (fun tmps (x : Tmp × Value) => tmps.setIfInBounds x.1 x.2) r.tmps) = (l.ps.toList.zip us.toList).foldl (fun t (p : Tmp × Value) => t.setIfInBounds p.1 p.2) r.tmps := by
            rw [r3, ← Array.foldl_toList, Array.toList_zip]
          have s0 : SRel l.n ρ F1 H { tmps := (r.params.zip us).foldl (fun tmps (x : Tmp × Value) => tmps.setIfInBounds x.1 x.2) r.tmps, defers := [] } w := ⟨by rw [hzip]; exact hf, hH, hd⟩
          refine (K1 0 (some L.B)).wp s0 ⟨L, hL, rfl⟩ (Nat.zero_le _) (DfOK.nil _ _ _ 0) fun x hx ρ1 a1 w1 s1 df1 hs1 => ?_
          obtain ⟨F2, H2, rfl, zs, h1, h2⟩ := hth x hx
          have hL1 := hs1.le b L hL
          exact (roundA_ok hm hora hent hfl.2 h1).2 hL1 s1 (Nat.zero_le _) df1 fun o ho ρ' u w' hv hs => ⟨u, rfl, o, h2 o ho, ρ', hv, hs1.trans hd hs⟩
      · cases h
    · cases h
  · cases h
end Go.Fv
