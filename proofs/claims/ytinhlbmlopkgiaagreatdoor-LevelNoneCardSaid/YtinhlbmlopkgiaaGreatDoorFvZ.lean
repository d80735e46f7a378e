/-
  A second abstract evaluator of the model's code: regions that draw their order: one step that makes or turns memory. Conditions: none; nothing here speaks of one program.
-/
import Derived.Test.YtinhlbmlopkgiaaGreatDoorFvY
set_option linter.unusedSectionVars false
set_option linter.unusedVariables false
namespace Go.Fv
section
variable {P : Program} [Plain P] {ora : Ora} {n : Nat} {ops : List Oper} {Fs : Nat → Fm} {Hs : Nat → HP} {vs : Nat → AV} {cl : Nat → Cls} {ρ0 ρ : PM} {w0 w : World} {df : List Deferred} {listed : Array Bool} {a : Act}

theorem kn_of {H1 H2 : HP} {b : Nat} (h : H1.t.get b = H2.t.get b) (hk : H1.Kn b) : H2.Kn b := by
  obtain ⟨i, c, hc⟩ := hk
  exact ⟨i, c, by unfold HP.cell at *; rw [← h]; exact hc⟩
theorem cell_of {H1 H2 : HP} {b i : Nat} (h : H1.t.get b = H2.t.get b) : H1.cell b i = H2.cell b i := by unfold HP.cell; rw [h]

section
variable (R : Run P ora n ops Fs Hs vs cl) (I : Inv n ops Fs Hs vs cl ρ0 w0 df listed ρ a w) (ho : OraSt ora) (hd0 : Dom ρ0 (Hs 0).n)
  {j : Nat} {o : Oper} (hj : ops[j]? = some o) (hjD : dOf listed j = false) (hanc : ∀ i, ((befs ops).getD j 0).testBit i = true → dOf listed i = true)
include R I hj hjD hanc ho hd0

/-- One that makes memory, and turns none that was there. -/
theorem step_new (hora : OraOK P ora) (hcl : cl j = .N) {G : HP} (hs : stepA P ora (evF (Fs j)) (Hs j).fresh o.op = some (vs j, G)) (hG : Hs (j + 1) = G.lower (Hs j).lo) :
    GivesR P (fun u w' => ∃ ρ', Inv n ops Fs Hs vs cl ρ0 w0 df (listed.setIfInBounds j true) ρ' (a.put o.dst u) w') ((execOp a.eval o).run P w) := by
  have hjl : j < ops.length := (List.getElem?_eq_some_iff.1 hj).1
  have hD' := dOf_set listed (j := j) (by rw [I.sz]; exact hjl)
  have hq : (cl j).loud = false := by rw [hcl]; rfl
  have hij := itv_at R I hj hjD hanc (.inr hcl)
  have hIj := I.sim j hij
  have hnn : (Hs j).n ≤ (Hs (j + 1)).n := R.n_le ho (by omega) (by omega)
  have hn0 : (Hs 0).n ≤ (Hs j).n := R.n_le ho (by omega) (by omega)
  obtain ⟨_, hop⟩ := stepA_ok (w := w) (ev := a.eval) (ρ := bel ρ (Hs j).n) hora hs (ops_rel fun t ht v hv => I.seen R ho hd0 hj hjD hanc t ht v hv) hIj.rel.fresh (bel_dom _ _)
  have hfresh := fun b => fresh_at R I ho hd0 hj hjD hanc (b := b)
  have hput := fun ρ' u w' => I.put (ρ' := ρ') (u := u) (w' := w') R hj hjD hanc
  obtain ⟨dst, op, ty, pos, after, guard⟩ := o
  refine GivesR.mono ?_ (hop dst ty pos after guard)
  rintro u w' ⟨ρ2, hv, hs2⟩
  have hs2 : Sim (bel ρ (Hs j).n) (Hs j) w ρ2 (Hs (j + 1)) w' := by rw [hG]; exact hs2.lower
  have S := hIj.trans hd0 hs2
  -- what is old is where it was
  have hold : ∀ b, b < (Hs j).n → ρ2 b = ρ b := fun b hb => by
    cases h : ρ b with
    | some x => exact hs2.le b x (by rw [bel_lt hb]; exact h)
    | none =>
      cases h2 : ρ2 b with
      | none => rfl
      | some x => have := hs2.old b x (by rw [bel_lt hb]; exact h) h2; omega
  let ρ' : PM := fun b => if (Hs j).n ≤ b ∧ b < (Hs (j + 1)).n then ρ2 b else ρ b
  have hnew : ∀ b, (Hs j).n ≤ b → b < (Hs (j + 1)).n → ρ' b = ρ2 b := fun b h1 h2 => if_pos ⟨h1, h2⟩
  have hoth : ∀ b, ¬ ((Hs j).n ≤ b ∧ b < (Hs (j + 1)).n) → ρ' b = ρ b := fun b h => if_neg h
  have hlow : ∀ b, b < (Hs (j + 1)).n → ρ' b = ρ2 b := fun b hb => by
    rcases Nat.lt_or_ge b (Hs j).n with h | h
    · rw [hoth b (by omega), hold b h]
    · exact hnew b h hb
  have hle : PM.le ρ ρ' := fun b x hb => by
    by_cases h : (Hs j).n ≤ b ∧ b < (Hs (j + 1)).n
    · rw [hfresh b h.1 h.2] at hb; cases hb
    · rw [hoth b h]; exact hb
  have hbel2 : bel ρ' (Hs (j + 1)).n = ρ2 := by
    funext b
    unfold bel
    split
    · rename_i hb; exact hlow b hb
    · rw [hs2.dom b (by omega)]
  refine ⟨ρ', hput ρ' u w' hle ?_ ?_ ?_ ?_⟩
  · rw [hbel2]; exact hv
  · obtain ⟨t, ht⟩ := I.itv
    exact ⟨t, (Itv.quiet hD' hq).2 ht⟩
  · intro t ht'
    have ht := (Itv.quiet hD' hq).1 ht'
    have hIt := I.sim t ht
    have htl := ht.1
    rcases Nat.lt_or_ge j t with h | h
    · -- behind it
      have hsame1 := R.same ho (show j + 1 ≤ t by omega) htl (fun k h1 h2 => hij.between ht (by omega) h2)
      have hsame0 := R.same ho (show j ≤ t by omega) htl (fun k h1 h2 => hij.between ht h1 h2)
      have hnt : (Hs (j + 1)).n ≤ (Hs t).n := R.n_le ho (by omega) htl
      have hle2 : PM.le ρ2 (bel ρ' (Hs t).n) := by rw [← hbel2]; exact bel_mono (PM.le.refl _) hnt
      have hstill : ∀ b i c L, (Hs (j + 1)).n ≤ b → (Hs t).cell b i = some c → bel ρ (Hs t).n b = some L → w'.heap[L.B]? = w.heap[L.B]? := by
        intro b i c L hb hc hL
        refine hs2.fr L.B (hIt.rel.rel b i c L hc hL).lt fun b0 L0 hk0 hL0 he => ?_
        obtain ⟨hb0, hρ0⟩ := bel_some hL0
        have hk := kn_of (hsame0 b0 hb0).symm hk0
        have := hIt.rel.inj b0 b L0 L hk ⟨i, c, hc⟩ (by rw [bel_lt (by omega)]; exact hρ0) hL he
        omega
      have mixed : ∀ b b' L L' i' c', (Hs j).n ≤ b → b < (Hs (j + 1)).n → (Hs (j + 1)).n ≤ b' → ρ2 b = some L → (Hs t).cell b' i' = some c' → bel ρ (Hs t).n b' = some L' → L.B = L'.B → False := by
        intro b b' L L' i' c' h1 h2 h3 hL hc' hL' he
        rcases hs2.new b L (bel_ge h1) hL with h4 | ⟨b0, L0, h4, h5, h6⟩
        · have := (hIt.rel.rel b' i' c' L' hc' hL').lt
          omega
        · obtain ⟨hb0, hρ0⟩ := bel_some h5
          have hk := kn_of (hsame0 b0 hb0).symm h4
          have := hIt.rel.inj b0 b' L0 L' hk ⟨i', c', hc'⟩ (by rw [bel_lt (by omega)]; exact hρ0) hL' (h6.trans he)
          omega
      exact {
        le := fun b x hb => by
          have hb1 := hd0.lt hb
          rw [bel_lt (by omega), hlow b (by omega)]
          exact S.le b x hb
        grow := R.n_le ho (by omega) htl
        dom := bel_dom _ _
        rel := by
          refine ⟨fun b i c L hc hL => ?_, fun b b' L L' ⟨i, c, hc⟩ ⟨i', c', hc'⟩ hL hL' he => ?_⟩
          · obtain ⟨h1, h2⟩ := bel_some hL
            rcases Nat.lt_or_ge b (Hs (j + 1)).n with h3 | h3
            · rw [hlow b h3] at h2
              exact (S.rel.rel b i c L (by rw [cell_of (hsame1 b h3).symm]; exact hc) h2).mono hle2
            · rw [hoth b (by omega)] at h2
              have hL2 : bel ρ (Hs t).n b = some L := by rw [bel_lt h1]; exact h2
              exact ((hIt.rel.rel b i c L hc hL2).of_heap (hstill b i c L h3 hc hL2)).mono (bel_mono hle (Nat.le_refl _))
          · obtain ⟨h1, h2⟩ := bel_some hL
            obtain ⟨h1', h2'⟩ := bel_some hL'
            rcases Nat.lt_or_ge b (Hs (j + 1)).n with h3 | h3
            · rcases Nat.lt_or_ge b' (Hs (j + 1)).n with h4 | h4
              · rw [hlow b h3] at h2
                rw [hlow b' h4] at h2'
                exact S.rel.inj b b' L L' ⟨i, c, by rw [cell_of (hsame1 b h3).symm]; exact hc⟩ ⟨i', c', by rw [cell_of (hsame1 b' h4).symm]; exact hc'⟩ h2 h2' he
              · rw [hoth b' (by omega)] at h2'
                have hL2' : bel ρ (Hs t).n b' = some L' := by rw [bel_lt h1']; exact h2'
                rcases Nat.lt_or_ge b (Hs j).n with h5 | h5
                · rw [hoth b (by omega)] at h2
                  exact hIt.rel.inj b b' L L' ⟨i, c, hc⟩ ⟨i', c', hc'⟩ (by rw [bel_lt h1]; exact h2) hL2' he
                · rw [hlow b h3] at h2
                  exact (mixed b b' L L' i' c' h5 h3 h4 h2 hc' hL2' he).elim
            · rw [hoth b (by omega)] at h2
              have hL2 : bel ρ (Hs t).n b = some L := by rw [bel_lt h1]; exact h2
              rcases Nat.lt_or_ge b' (Hs (j + 1)).n with h4 | h4
              · rcases Nat.lt_or_ge b' (Hs j).n with h5 | h5
                · rw [hoth b' (by omega)] at h2'
                  exact hIt.rel.inj b b' L L' ⟨i, c, hc⟩ ⟨i', c', hc'⟩ hL2 (by rw [bel_lt h1']; exact h2') he
                · rw [hlow b' h4] at h2'
                  exact (mixed b' b L' L i c h5 h4 h3 h2' hc hL2 he.symm).elim
              · rw [hoth b' (by omega)] at h2'
                exact hIt.rel.inj b b' L L' ⟨i, c, hc⟩ ⟨i', c', hc'⟩ hL2 (by rw [bel_lt h1']; exact h2') he
        knc := hIt.knc
        frc := fun b L i g1 g2 g3 g4 => by
          have hb1 := hd0.lt g3
          exact S.frc b L i g1 (kn_of (hsame1 b (by omega)) g2) g3 g4
        fr := S.fr
        new := fun b L g1 g2 => by
          obtain ⟨h1, h2⟩ := bel_some g2
          by_cases h3 : (Hs j).n ≤ b ∧ b < (Hs (j + 1)).n
          · rw [hnew b h3.1 h3.2] at h2
            exact S.new b L g1 h2
          · rw [hoth b h3] at h2
            exact hIt.new b L g1 (by rw [bel_lt h1]; exact h2)
        size := S.size
        os := S.os
        tape := S.tape
        output := S.output
        old := fun b L g1 g2 => by
          obtain ⟨h1, h2⟩ := bel_some g2
          by_cases h3 : (Hs j).n ≤ b ∧ b < (Hs (j + 1)).n
          · omega
          · rw [hoth b h3] at h2
            exact hIt.old b L g1 (by rw [bel_lt h1]; exact h2) }
    · -- ahead of it
      have hnt : (Hs t).n ≤ (Hs j).n := R.n_le ho h (by omega)
      have hsame := R.same ho (show t ≤ j + 1 by omega) (by omega) (fun k h1 h2 => by
        rcases Nat.lt_or_ge k j with h3 | h3
        · exact ht.between hij h1 h3
        · rw [show k = j by omega]; exact hq)
      have e1 : bel ρ' (Hs t).n = bel ρ2 (Hs t).n := by
        funext b
        unfold bel
        split
        · rw [hlow b (by omega)]
        · rfl
      have e2 : bel ρ2 (Hs t).n = bel ρ (Hs t).n := by
        funext b
        unfold bel
        split
        · rw [hold b (by omega)]
        · rfl
      rw [e1]
      refine S.less hd0 (R.n_le ho (by omega) htl) (fun b hb => (hsame b hb).symm) ⟨fun b i c L hc hL => ?_, fun b b' L L' h1 h2 g1 g2 => ?_⟩
      · obtain ⟨h1, h2⟩ := bel_some hL
        have hnewr := S.rel.rel b i c L (by rw [cell_of (hsame b h1)]; exact hc) h2
        rw [e2]
        have hL' : bel ρ (Hs t).n b = some L := by rw [← e2]; exact hL
        exact CtRel.back (by rw [← e2]; exact bel_le _ _) (hIt.rel.rel b i c L hc hL') hnewr
      · obtain ⟨k1, k2⟩ := bel_some g1
        obtain ⟨k3, k4⟩ := bel_some g2
        exact S.rel.inj b b' L L' (kn_of (hsame b k1).symm h1) (kn_of (hsame b' k3).symm h2) k2 k4
  · intro b h1 h2
    by_cases h : (Hs j).n ≤ b ∧ b < (Hs (j + 1)).n
    · exact h
    · rw [hoth b h] at h2; exact absurd h1 h2

/-- One that turns memory. -/
theorem step_loud (hora : OraOK P ora) (hcl : (cl j).loud = true) {G : HP} (hs : stepA P ora (evF (Fs j)) (Hs j).fresh o.op = some (vs j, G)) (hG : Hs (j + 1) = G.lower (Hs j).lo) :
    GivesR P (fun u w' => ∃ ρ', Inv n ops Fs Hs vs cl ρ0 w0 df (listed.setIfInBounds j true) ρ' (a.put o.dst u) w') ((execOp a.eval o).run P w) := by
  have hjl : j < ops.length := (List.getElem?_eq_some_iff.1 hj).1
  have hD' := dOf_set listed (j := j) (by rw [I.sz]; exact hjl)
  have hij := itv_at R I hj hjD hanc (.inl hcl)
  have hIj := I.sim j hij
  have hρn : ∀ b, ρ b ≠ none → b < (Hs j).n := by
    intro b hb
    rcases I.new b hb with h3 | ⟨k, h3, h4, h5⟩
    · cases h0 : ρ0 b with
      | none => exact absurd h0 h3
      | some y =>
        have := hd0.lt h0
        have := R.n_le ho (Nat.zero_le j) (by omega)
        omega
    · have hkl := dOf_lt h3
      rw [I.sz] at hkl
      rcases Nat.lt_trichotomy k j with h6 | h6 | h6
      · have := R.n_le ho (show k + 1 ≤ j by omega) (by omega)
        omega
      · subst h6; rw [hjD] at h3; cases h3
      · exfalso
        have hmk : (cl k).makes = true := by
          cases h : (cl k).makes with
          | true => rfl
          | false => have := R.noMake hkl h; omega
        have hkc : (cl k).loud = true ∨ cl k = .N := by
          cases hc : cl k <;> rw [hc] at hmk <;> simp_all [Cls.makes, Cls.loud]
        have := I.clo k j h3 (loud_pair (R.pair j k h6 hkl) hcl hkc)
        rw [hjD] at this
        cases this
  obtain ⟨_, hop⟩ := stepA_ok (w := w) (ev := a.eval) (ρ := bel ρ (Hs j).n) hora hs (ops_rel fun t ht v hv => I.seen R ho hd0 hj hjD hanc t ht v hv) hIj.rel.fresh (bel_dom _ _)
  have hput := fun ρ' u w' => I.put (ρ' := ρ') (u := u) (w' := w') R hj hjD hanc
  obtain ⟨dst, op, ty, pos, after, guard⟩ := o
  refine GivesR.mono ?_ (hop dst ty pos after guard)
  rintro u w' ⟨ρ2, hv, hs2⟩
  have hs2 : Sim (bel ρ (Hs j).n) (Hs j) w ρ2 (Hs (j + 1)) w' := by rw [hG]; exact hs2.lower
  have S := hIj.trans hd0 hs2
  -- only j itself is loud and new
  have hitv' : ∀ t, Itv ops cl (dOf (listed.setIfInBounds j true)) t → j < t ∧ ∀ k, j + 1 ≤ k → k < t → (cl k).loud = false := by
    intro t ht
    refine ⟨ht.2.2 j (by rw [hD']; simp) hcl, fun k h1 h2 => ?_⟩
    cases hc : (cl k).loud with
    | false => rfl
    | true =>
      exfalso
      have hk := ht.2.1 k h2 hc
      rw [hD'] at hk
      have hkj : ¬ k = j := by omega
      simp only [hkj, if_false] at hk
      have hkl := dOf_lt hk
      rw [I.sz] at hkl
      have := I.clo k j hk (loud_pair (R.pair j k (by omega) hkl) hcl (.inl hc))
      rw [hjD] at this
      cases this
  refine ⟨ρ2, hput ρ2 u w' ?_ ?_ ?_ ?_ ?_⟩
  · intro b x hb
    exact hs2.le b x (by rw [bel_lt (hρn b (by rw [hb]; simp))]; exact hb)
  · rw [bel_eq hs2.dom (Nat.le_refl _)]; exact hv
  · refine ⟨j + 1, by omega, fun k hk hl => ?_, fun k hk hl => ?_⟩
    · rw [hD']
      by_cases hkj : k = j
      · simp [hkj]
      · simp only [hkj, if_false]; exact hij.2.1 k (by omega) hl
    · rw [hD'] at hk
      by_cases hkj : k = j
      · omega
      · simp only [hkj, if_false] at hk
        have := hij.2.2 k hk hl
        omega
  · intro t ht
    obtain ⟨h1, h2⟩ := hitv' t ht
    rw [bel_eq hs2.dom (R.n_le ho (show j + 1 ≤ t by omega) ht.1)]
    exact S.ghost (R.n_le ho (show j + 1 ≤ t by omega) ht.1) (R.same ho (show j + 1 ≤ t by omega) ht.1 h2)
  · intro b h1 h2
    cases h : ρ2 b with
    | none => exact absurd h h2
    | some x =>
      refine ⟨hs2.old b x ?_ h, hs2.dom.lt h⟩
      unfold bel
      split
      · exact h1
      · rfl
end
end
end Go.Fv
