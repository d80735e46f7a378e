/-
  A second abstract evaluator of the model's code: regions that draw their order: what holds, whatever has been carried out. Conditions: none; nothing here speaks of one program.
-/
import Derived.Test.YtinhlbmlopkgiaaGreatDoorFvW
set_option linter.unusedSectionVars false
set_option linter.unusedVariables false
namespace Go.Fv

def dstOf (ops : List Oper) (k : Nat) : Option Tmp := (ops[k]?).bind (·.dst)
/-- The numbers t such that just the loud ones before t have been carried out. -/
def Itv (ops : List Oper) (cl : Nat → Cls) (D : Nat → Bool) (t : Nat) : Prop := t ≤ ops.length ∧ (∀ k, k < t → (cl k).loud = true → D k = true) ∧ (∀ k, D k = true → (cl k).loud = true → k < t)

structure Inv (n : Nat) (ops : List Oper) (Fs : Nat → Fm) (Hs : Nat → HP) (vs : Nat → AV) (cl : Nat → Cls) (ρ0 : PM) (w0 : World) (df : List Deferred) (listed : Array Bool) (ρ : PM) (a : Act) (w : World) : Prop where
  sz : listed.size = ops.length
  clo : ∀ k i, dOf listed k = true → ((befs ops).getD k 0).testBit i = true → dOf listed i = true
  tsz : a.tmps.size = n
  fr1 : ∀ p t, dOf listed p = true → dstOf ops p = some t → ∃ u, a.tmps[t]? = some u ∧ VRel (bel ρ (Hs (p + 1)).n) (vs p) u
  fr2 : ∀ t v, (∀ p, dOf listed p = true → dstOf ops p ≠ some t) → (Fs 0).get t = some v → ∃ u, a.tmps[t]? = some u ∧ VRel ρ0 v u
  df : a.defers = df
  itv : ∃ t, Itv ops cl (dOf listed) t
  sim : ∀ t, Itv ops cl (dOf listed) t → Sim ρ0 (Hs 0) w0 (bel ρ (Hs t).n) (Hs t) w
  new : ∀ b, ρ b ≠ none → ρ0 b ≠ none ∨ ∃ k, dOf listed k = true ∧ (Hs k).n ≤ b ∧ b < (Hs (k + 1)).n
  le : PM.le ρ0 ρ

section
variable {P : Program} [Plain P] {ora : Ora} {n : Nat} {ops : List Oper} {Fs : Nat → Fm} {Hs : Nat → HP} {vs : Nat → AV} {cl : Nat → Cls} {ρ0 ρ : PM} {w0 w : World} {df : List Deferred} {listed : Array Bool} {a : Act}

theorem Run.put (R : Run P ora n ops Fs Hs vs cl) {k : Nat} {o : Oper} (hk : ops[k]? = some o) : putF n (Fs k) o.dst (vs k) = some (Fs (k + 1)) := by
  rcases R.step k o hk with ⟨_, hv, _, _, h⟩ | ⟨_, G, _, _, h, _⟩
  · rw [hv]; exact h
  · exact h

theorem putF_get {F F' : Fm} {dst : Option Tmp} {v : AV} (h : putF n F dst v = some F') (t : Nat) : F'.get t = if dst = some t then some v else F.get t := by
  cases dst with
  | none => cases h; simp
  | some d =>
    simp only [putF] at h
    split at h
    · cases h
      rw [PT.get_put]
      simp only [Option.some.injEq]
      by_cases hd : t = d
      · rw [if_pos hd, if_pos hd.symm]
      · rw [if_neg hd, if_neg (Ne.symm hd)]
    · cases h
theorem putF_lt {F F' : Fm} {d : Tmp} {v : AV} (h : putF n F (some d) v = some F') : d < n := by
  simp only [putF] at h
  split at h
  · rename_i hb; exact Nat.le_of_ble_eq_true hb
  · cases h

theorem Run.frame (R : Run P ora n ops Fs Hs vs cl) : ∀ j, j ≤ ops.length → ∀ t v, (Fs j).get t = some v → (∃ p, p < j ∧ dstOf ops p = some t ∧ v = vs p) ∨ ((∀ p, p < j → dstOf ops p ≠ some t) ∧ (Fs 0).get t = some v)
  | 0, _, t, v, h => .inr ⟨fun p hp => by omega, h⟩
  | j + 1, hj, t, v, h => by
    have hjl : j < ops.length := by omega
    have hget := ops[j]?
    have hp := R.put (List.getElem?_eq_getElem hjl)
    rw [putF_get hp] at h
    have hd : dstOf ops j = ops[j].dst := by unfold dstOf; rw [List.getElem?_eq_getElem hjl]; rfl
    split at h
    · rename_i hdt
      cases h
      exact .inl ⟨j, by omega, by rw [hd]; exact hdt, rfl⟩
    · rename_i hdt
      rcases R.frame j (by omega) t v h with ⟨p, h1, h2, h3⟩ | ⟨h1, h2⟩
      · exact .inl ⟨p, by omega, h2, h3⟩
      · refine .inr ⟨fun p hp => ?_, h2⟩
        rcases Nat.lt_or_ge p j with h3 | h3
        · exact h1 p h3
        · rw [show p = j by omega, hd]; exact hdt

theorem dstOf_some {p : Nat} {t : Tmp} (h : dstOf ops p = some t) : ∃ o, ops[p]? = some o ∧ o.dst = some t := by
  unfold dstOf at h
  cases ho : ops[p]? with
  | none => rw [ho] at h; cases h
  | some o => rw [ho] at h; exact ⟨o, rfl, h⟩

/-- What number j looks at. -/
theorem Inv.seen (R : Run P ora n ops Fs Hs vs cl) (ho : OraSt ora) (hd0 : Dom ρ0 (Hs 0).n) (I : Inv n ops Fs Hs vs cl ρ0 w0 df listed ρ a w) {j : Nat} {o : Oper} (hj : ops[j]? = some o) (hjD : dOf listed j = false)
    (hanc : ∀ i, ((befs ops).getD j 0).testBit i = true → dOf listed i = true) (t : Nat) (ht : t ∈ o.looksAt ops.toArray) (v : AV) (hv : (Fs j).get t = some v) : ∃ u, a.tmps[t]? = some u ∧ VRel (bel ρ (Hs j).n) v u := by
  have hjl : j < ops.length := (List.getElem?_eq_some_iff.1 hj).1
  have hfl := R.flow
  simp only [flowOk, Bool.and_eq_true] at hfl
  have hw := readsOk_spec ops 0 hfl.2 j o hj
  rw [Nat.zero_add] at hw
  rcases R.frame j (by omega) t v hv with ⟨p, h1, h2, rfl⟩ | ⟨h1, h2⟩
  · obtain ⟨q, hq, hqt⟩ := dstOf_some h2
    have hDp : dOf listed p = true := by
      rcases writersOk_spec ops 0 hw p q t hq hqt ht (by omega) with ⟨_, h4⟩ | ⟨h3, _⟩
      · rw [Nat.zero_add] at h4; exact hanc p h4
      · omega
    obtain ⟨u, hu, hr⟩ := I.fr1 p t hDp h2
    exact ⟨u, hu, hr.mono (bel_mono (PM.le.refl ρ) (R.n_le ho (by omega) (by omega)))⟩
  · obtain ⟨u, hu, hr⟩ := I.fr2 t v (fun p hp hpt => by
      obtain ⟨q, hq, hqt⟩ := dstOf_some hpt
      by_cases hpj : p = j
      · subst hpj; rw [hjD] at hp; cases hp
      · rcases Nat.lt_or_ge p j with h3 | h3
        · exact h1 p h3 hpt
        · rcases writersOk_spec ops 0 hw p q t hq hqt ht (by omega) with ⟨h4, _⟩ | ⟨_, h4⟩
          · omega
          · rw [Nat.zero_add] at h4
            have := I.clo p j hp h4
            rw [hjD] at this
            cases this) h2
    refine ⟨u, hu, hr.mono fun b x hb => ?_⟩
    rw [bel_lt (Nat.lt_of_lt_of_le (hd0.lt hb) (R.n_le ho (Nat.zero_le _) (by omega)))]
    exact I.le b x hb

/-- Number j has been carried out. -/
theorem Inv.put (R : Run P ora n ops Fs Hs vs cl) (I : Inv n ops Fs Hs vs cl ρ0 w0 df listed ρ a w) {j : Nat} {o : Oper} (hj : ops[j]? = some o) (hjD : dOf listed j = false)
    (hanc : ∀ i, ((befs ops).getD j 0).testBit i = true → dOf listed i = true) {ρ' : PM} {u : Value} {w' : World} (hle : PM.le ρ ρ') (hv : VRel (bel ρ' (Hs (j + 1)).n) (vs j) u)
    (hitv : ∃ t, Itv ops cl (dOf (listed.setIfInBounds j true)) t)
    (hsim : ∀ t, Itv ops cl (dOf (listed.setIfInBounds j true)) t → Sim ρ0 (Hs 0) w0 (bel ρ' (Hs t).n) (Hs t) w')
    (hnew : ∀ b, ρ b = none → ρ' b ≠ none → (Hs j).n ≤ b ∧ b < (Hs (j + 1)).n) :
    Inv n ops Fs Hs vs cl ρ0 w0 df (listed.setIfInBounds j true) ρ' (a.put o.dst u) w' := by
  have hjl : j < ops.length := (List.getElem?_eq_some_iff.1 hj).1
  have hD' := dOf_set listed (j := j) (by rw [I.sz]; exact hjl)
  have hmono : ∀ i, dOf listed i = true → dOf (listed.setIfInBounds j true) i = true := fun i hi => by
    rw [hD']
    by_cases hij : i = j
    · simp [hij]
    · simp [hij, hi]
  have hdj : dstOf ops j = o.dst := by unfold dstOf; rw [hj]; rfl
  have hfl := R.flow
  simp only [flowOk, Bool.and_eq_true] at hfl
  have hget : ∀ t, o.dst ≠ some t → (a.put o.dst u).tmps[t]? = a.tmps[t]? := by
    intro t ht
    cases hd : o.dst with
    | none => rfl
    | some d =>
      simp only [Act.put]
      rw [Array.getElem?_setIfInBounds_ne (fun h => ht (by rw [hd, h]))]
  exact {
    sz := by simp [I.sz]
    clo := fun k i hk hb => by
      by_cases hkj : k = j
      · subst hkj; exact hmono i (hanc i hb)
      · rw [hD'] at hk
        simp only [hkj, if_false] at hk
        exact hmono i (I.clo k i hk hb)
    tsz := by rw [← I.tsz]; cases o.dst <;> simp [Act.put]
    fr1 := fun p t hp hpt => by
      by_cases hpj : p = j
      · subst hpj
        rw [hdj] at hpt
        have hlt := R.put hj
        rw [hpt] at hlt
        have := putF_lt hlt
        rw [← I.tsz] at this
        refine ⟨u, ?_, hv⟩
        rw [hpt]
        simp only [Act.put]
        rw [Array.getElem?_setIfInBounds_self_of_lt this]
      · rw [hD'] at hp
        simp only [hpj, if_false] at hp
        obtain ⟨u', h1, h2⟩ := I.fr1 p t hp hpt
        obtain ⟨q, hq, hqt⟩ := dstOf_some hpt
        exact ⟨u', by rw [hget t (fun h => hpj (dstsOk_spec ops hfl.1.2 p j q o t hq hj hqt h))]; exact h1, h2.mono (bel_mono hle (Nat.le_refl _))⟩
    fr2 := fun t v hno hv' => by
      obtain ⟨u', h1, h2⟩ := I.fr2 t v (fun p hp => hno p (hmono p hp)) hv'
      exact ⟨u', by rw [hget t (fun h => hno j (by rw [hD']; simp) (by rw [hdj]; exact h))]; exact h1, h2⟩
    df := by rw [put_defers]; exact I.df
    itv := hitv
    sim := hsim
    new := fun b hb => by
      cases h : ρ b with
      | none => exact .inr ⟨j, by rw [hD']; simp, hnew b h hb⟩
      | some x =>
        rcases I.new b (by rw [h]; simp) with h1 | ⟨k, h1, h2⟩
        · exact .inl h1
        · exact .inr ⟨k, hmono k h1, h2⟩
    le := I.le.trans hle }

theorem Itv.quiet {D D' : Nat → Bool} {j t : Nat} (hD' : D' = fun i => if i = j then true else D i) (hc : (cl j).loud = false) : Itv ops cl D' t ↔ Itv ops cl D t := by
  subst hD'
  constructor
  · rintro ⟨h1, h2, h3⟩
    refine ⟨h1, fun k hk hl => ?_, fun k hk hl => h3 k ?_ hl⟩
    · have := h2 k hk hl
      by_cases hkj : k = j
      · subst hkj; rw [hc] at hl; cases hl
      · simpa [hkj] using this
    · by_cases hkj : k = j
      · simp [hkj]
      · simpa [hkj] using hk
  · rintro ⟨h1, h2, h3⟩
    refine ⟨h1, fun k hk hl => ?_, fun k hk hl => h3 k ?_ hl⟩
    · have := h2 k hk hl
      by_cases hkj : k = j
      · simp [hkj]
      · simpa [hkj] using this
    · by_cases hkj : k = j
      · subst hkj; rw [hc] at hl; cases hl
      · simpa [hkj] using hk

/-- No loud one lies between two such numbers. -/
theorem Itv.between {D : Nat → Bool} {s t k : Nat} (hs : Itv ops cl D s) (ht : Itv ops cl D t) (h1 : s ≤ k) (h2 : k < t) : (cl k).loud = false := by
  cases h : (cl k).loud with
  | false => rfl
  | true => have := hs.2.2 k (ht.2.1 k h2 h) h; omega

theorem Run.same (R : Run P ora n ops Fs Hs vs cl) (ho : OraSt ora) {s t : Nat} (hst : s ≤ t) (ht : t ≤ ops.length) (hq : ∀ k, s ≤ k → k < t → (cl k).loud = false) : ∀ b, b < (Hs s).n → (Hs t).t.get b = (Hs s).t.get b := by
  induction t with
  | zero => rw [show s = 0 by omega]; exact fun _ _ => rfl
  | succ t ih =>
    intro b hb
    rcases Nat.lt_or_ge s (t + 1) with h | h
    · have hsn := R.n_le ho (show s ≤ t by omega) (by omega)
      rw [R.quiet ho (by omega) (hq t (by omega) (by omega)) b (by omega)]
      exact ih (by omega) (by omega) (fun k h1 h2 => hq k h1 (by omega)) b hb
    · rw [show s = t + 1 by omega]

theorem Itv.max {D : Nat → Bool} : ∀ (m t : Nat), ops.length - t = m → Itv ops cl D t → ∃ t', t ≤ t' ∧ Itv ops cl D t' ∧ (t' = ops.length ∨ (cl t').loud = true)
  | 0, t, hm, h => ⟨t, Nat.le_refl _, h, .inl (by have := h.1; omega)⟩
  | m + 1, t, hm, h => by
    cases hc : (cl t).loud with
    | true => exact ⟨t, Nat.le_refl _, h, .inr hc⟩
    | false =>
      have hnext : Itv ops cl D (t + 1) := by
        refine ⟨by omega, fun k hk hl => ?_, fun k hk hl => ?_⟩
        · rcases Nat.lt_or_ge k t with h4 | h4
          · exact h.2.1 k h4 hl
          · rw [show k = t by omega, hc] at hl; cases hl
        · have := h.2.2 k hk hl; omega
      obtain ⟨t', h1, h2, h3⟩ := Itv.max (D := D) m (t + 1) (by omega) hnext
      exact ⟨t', by omega, h2, h3⟩
end
end Go.Fv
