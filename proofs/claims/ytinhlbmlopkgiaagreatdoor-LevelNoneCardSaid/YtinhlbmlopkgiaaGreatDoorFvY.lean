/-
  A second abstract evaluator of the model's code: regions that draw their order: one step, whichever comes up. Conditions: none; nothing here speaks of one program.
-/
import Derived.Test.YtinhlbmlopkgiaaGreatDoorFvX
set_option linter.unusedSectionVars false
set_option linter.unusedVariables false
namespace Go.Fv
section
variable {P : Program} [Plain P] {ora : Ora} {n : Nat} {ops : List Oper} {Fs : Nat → Fm} {Hs : Nat → HP} {vs : Nat → AV} {cl : Nat → Cls} {ρ0 ρ : PM} {w0 w : World} {df : List Deferred} {listed : Array Bool} {a : Act}

theorem dOf_lt {k : Nat} (h : dOf listed k = true) : k < listed.size := by
  unfold dOf at h
  rcases Nat.lt_or_ge k listed.size with h1 | h1
  · exact h1
  · simp [h1] at h

theorem HRel.fresh {H : HP} (h : HRel ρ H w) : HRel ρ H.fresh w := ⟨h.rel, h.inj⟩
theorem Sim.lower {ρ' : PM} {H G : HP} {w' : World} {lo : Nat} (s : Sim ρ H.fresh w ρ' G w') : Sim ρ H w ρ' (G.lower lo) w' :=
  ⟨s.le, s.grow, s.dom, ⟨s.rel.rel, s.rel.inj⟩, s.knc, s.frc, s.fr, s.new, s.size, s.os, s.tape, s.output, s.old⟩

theorem ops_rel {F : Fm} {o : Oper} (h : ∀ t, t ∈ o.looksAt ops.toArray → ∀ v, F.get t = some v → ∃ u, a.tmps[t]? = some u ∧ VRel ρ v u) : ∀ x ∈ o.op.operands, ∀ v, evF F x = some v → VRel ρ v (a.eval x) := by
  intro x hx v hv
  cases x with
  | tmp t =>
    obtain ⟨u, hu, hr⟩ := h t (looksAt_op hx) v hv
    have : a.eval (.tmp t) = u := by simp [Act.eval, Array.getD_eq_getD_getElem?, hu]
    rw [this]
    exact hr
  | const c =>
    simp only [evF] at hv
    split at hv
    · rename_i hc
      cases hv
      exact ⟨rfl, hc⟩
    · cases hv
  | global g => cases hv; exact ⟨rfl, rfl⟩
  | func f => cases hv; exact ⟨rfl, rfl⟩

theorem wantF_ok' {F : Fm} {o : Oper} {b : Bool} (h : ∀ t, t ∈ o.looksAt ops.toArray → ∀ v, F.get t = some v → ∃ u, a.tmps[t]? = some u ∧ VRel ρ v u) (hw : wantF ops F o.guard = some b) : Region.wanted o (yielded ops.toArray a.tmps) = b := by
  unfold wantF at hw
  unfold Region.wanted
  cases hg : o.guard with
  | none => rw [hg] at hw; cases hw; rfl
  | some p =>
    obtain ⟨j, want⟩ := p
    rw [hg] at hw
    simp only at hw ⊢
    unfold yielded
    simp only [List.getElem?_toArray]
    cases hd : (ops[j]?).bind (·.dst) with
    | none => rw [hd] at hw; cases hw; cases want <;> rfl
    | some t =>
      rw [hd] at hw
      simp only [guardF] at hw
      simp only [Option.bind_some]
      have hl := looksAt_guard (ops := ops) hg hd
      split at hw
      · rename_i b' hb
        cases hw
        obtain ⟨u, hu, rfl, _⟩ := h t hl _ hb
        rw [hu]
        cases b' <;> cases want <;> rfl
      · rename_i vs hb
        cases hw
        obtain ⟨u, hu, us, rfl, _⟩ := h t hl _ hb
        rw [hu]
        cases want <;> rfl
      · cases hw

theorem loud_pair {B : List Nat} {i j : Nat} {c d : Cls} (h : pairOK B i j c d = true) (hc : c.loud = true) (hd : d.loud = true ∨ d = .N) : ancB B i j = true := by
  cases c <;> cases d <;> simp_all [pairOK, Cls.loud]
theorem pair_loud {B : List Nat} {i j : Nat} {c d : Cls} (h : pairOK B i j c d = true) (hc : c.loud = true ∨ c = .N) (hd : d.loud = true) : ancB B i j = true := by
  cases c <;> cases d <;> simp_all [pairOK, Cls.loud]

section
variable (R : Run P ora n ops Fs Hs vs cl) (I : Inv n ops Fs Hs vs cl ρ0 w0 df listed ρ a w) (ho : OraSt ora) (hd0 : Dom ρ0 (Hs 0).n)
  {j : Nat} {o : Oper} (hj : ops[j]? = some o) (hjD : dOf listed j = false) (hanc : ∀ i, ((befs ops).getD j 0).testBit i = true → dOf listed i = true)
include R I hj hjD hanc

theorem itv_at (hc : (cl j).loud = true ∨ cl j = .N) : Itv ops cl (dOf listed) j := by
  have hjl : j < ops.length := (List.getElem?_eq_some_iff.1 hj).1
  refine ⟨by omega, fun k hk hl => ?_, fun k hk hl => ?_⟩
  · exact hanc k (loud_pair (R.pair k j hk hjl) hl hc)
  · rcases Nat.lt_trichotomy k j with h | h | h
    · exact h
    · subst h; rw [hjD] at hk; cases hk
    · have := I.clo k j hk (pair_loud (R.pair j k h (by have := dOf_lt hk; rw [I.sz] at this; exact this)) hc hl)
      rw [hjD] at this
      cases this

include ho hd0
theorem fresh_at {b : Nat} (h1 : (Hs j).n ≤ b) (h2 : b < (Hs (j + 1)).n) : ρ b = none := by
  have hjl : j < ops.length := (List.getElem?_eq_some_iff.1 hj).1
  cases h : ρ b with
  | none => rfl
  | some x =>
    exfalso
    rcases I.new b (by rw [h]; simp) with h3 | ⟨k, h3, h4, h5⟩
    · cases h0 : ρ0 b with
      | none => exact h3 h0
      | some y =>
        have := hd0.lt h0
        have := R.n_le ho (Nat.zero_le j) (by omega)
        omega
    · have hkl := dOf_lt h3
      rw [I.sz] at hkl
      rcases Nat.lt_trichotomy k j with h6 | h6 | h6
      · have := R.n_le ho (show k + 1 ≤ j by omega) (by omega)
        omega
      · subst h6; rw [hjD] at h3; cases h3
      · have := R.n_le ho (show j + 1 ≤ k by omega) (by omega)
        omega

/-- One that sees no heap. -/
theorem step_pure (hora : OraOK P ora) (hlt0 : ∀ b L, (Hs 0).Kn b → ρ0 b = some L → L.B < w0.heap.size) (hp : isPure o.op = true) (hcl : cl j = .A) {G : HP} (hs : stepA P ora (evF (Fs j)) (Hs j).fresh o.op = some (vs j, G)) :
    GivesR P (fun u w' => ∃ ρ', Inv n ops Fs Hs vs cl ρ0 w0 df (listed.setIfInBounds j true) ρ' (a.put o.dst u) w') ((execOp a.eval o).run P w) := by
  have hjl : j < ops.length := (List.getElem?_eq_some_iff.1 hj).1
  have hD' := dOf_set listed (j := j) (by rw [I.sz]; exact hjl)
  have h' := (stepA_pure hp hs).2 ⟨.nil, (Hs j).n, 0⟩
  obtain ⟨_, hop⟩ := stepA_ok (w := w) (ev := a.eval) (ρ := bel ρ (Hs j).n) hora h' (ops_rel fun t ht v hv => I.seen R ho hd0 hj hjD hanc t ht v hv)
    ⟨fun b i c L hc => (by cases hc), fun b b' L L' ⟨i, c, hc⟩ => by cases hc⟩ (bel_dom _ _)
  have hput := fun u w' => I.put (ρ' := ρ) (u := u) (w' := w') R hj hjD hanc (PM.le.refl ρ)
  obtain ⟨dst, op, ty, pos, after, guard⟩ := o
  refine GivesR.mono ?_ (hop dst ty pos after guard)
  rintro u w' ⟨ρ2, hv, hs2⟩
  have hle2 : PM.le ρ2 (bel ρ (Hs j).n) := fun b L hb => by
    cases h : bel ρ (Hs j).n b with
    | some x => have := hs2.le b x h; rw [hb] at this; cases this; rfl
    | none =>
      have h1 := hs2.old b L h hb
      have h2 := hs2.dom.lt hb
      simp only at h1 h2
      omega
  have hq : (cl j).loud = false := by rw [hcl]; rfl
  have hn : (Hs (j + 1)).n = (Hs j).n := R.noMake hjl (by rw [hcl]; rfl)
  refine ⟨ρ, hput u w' ?_ ?_ ?_ ?_⟩
  · rw [hn]; exact hv.mono hle2
  · obtain ⟨t, ht⟩ := I.itv
    exact ⟨t, (Itv.quiet hD' hq).2 ht⟩
  · intro t ht
    have hI := I.sim t ((Itv.quiet hD' hq).1 ht)
    exact hI.still (fun k hk => hs2.fr k hk (fun b L ⟨i, c, hc⟩ => by cases hc)) hs2.size hs2.os hs2.tape hs2.output hd0 (fun b L hk hL => Nat.lt_of_lt_of_le (hlt0 b L hk hL) hI.size)
  · exact fun b h1 h2 => absurd h1 h2

/-- One that reads. -/
theorem step_load (hora : OraOK P ora) {b0 : Nat} (hcl : cl j = .L b0) {t0 : TypeId} {x : Operand} (hop : o.op = .load t0 x) {off0 : Nat} (hx0 : evF (Fs j) x = some (.one (.ptr b0 off0))) (hok : (vs j).below (Hs j).n = true)
    {G : HP} (hs : stepA P ora (evF (Fs j)) (Hs j).fresh o.op = some (vs j, G)) :
    GivesR P (fun u w' => ∃ ρ', Inv n ops Fs Hs vs cl ρ0 w0 df (listed.setIfInBounds j true) ρ' (a.put o.dst u) w') ((execOp a.eval o).run P w) := by
  have hjl : j < ops.length := (List.getElem?_eq_some_iff.1 hj).1
  have hD' := dOf_set listed (j := j) (by rw [I.sz]; exact hjl)
  have hq : (cl j).loud = false := by rw [hcl]; rfl
  have hn : (Hs (j + 1)).n = (Hs j).n := R.noMake hjl (by rw [hcl]; rfl)
  have hseen := ops_rel fun t ht v hv => I.seen R ho hd0 hj hjD hanc t ht v hv
  obtain ⟨L, hL, hev⟩ := hseen x (by rw [hop]; simp [Op.operands]) _ hx0
  obtain ⟨hb, hρ⟩ := bel_some hL
  obtain ⟨t1, ht1⟩ := I.itv
  obtain ⟨t, _, ht, hmax⟩ := Itv.max _ t1 rfl ht1
  have htl := ht.1
  -- the block is there
  have hbt : b0 < (Hs t).n := by
    rcases Nat.lt_or_ge b0 (Hs t).n with h | h
    · exact h
    · exfalso
      rcases I.new b0 (by rw [hρ]; simp) with h3 | ⟨k, h3, h4, h5⟩
      · cases h0 : ρ0 b0 with
        | none => exact h3 h0
        | some y =>
          have := hd0.lt h0
          have := R.n_le ho (Nat.zero_le t) htl
          omega
      · have hkl := dOf_lt h3
        rw [I.sz] at hkl
        have hkt : t ≤ k := by
          rcases Nat.lt_or_ge k t with h6 | h6
          · have := R.n_le ho (show k + 1 ≤ t by omega) htl
            omega
          · exact h6
        have hmk : (cl k).makes = true := by
          cases h : (cl k).makes with
          | true => rfl
          | false => have := R.noMake hkl h; omega
        have hkn : cl k = .N := by
          cases hc : cl k with
          | N => rfl
          | X => have := ht.2.2 k h3 (by rw [hc]; rfl); omega
          | A => rw [hc] at hmk; cases hmk
          | L b => rw [hc] at hmk; cases hmk
          | S b => rw [hc] at hmk; cases hmk
        rcases hmax with hm | hm
        · omega
        · have hne : t ≠ k := fun h => by rw [h, hkn] at hm; cases hm
          have := I.clo k t h3 (loud_pair (R.pair t k (by omega) hkl) hm (.inr hkn))
          have := ht.2.2 t this hm
          omega
  -- and as it was
  have hsame : (Hs t).t.get b0 = (Hs j).t.get b0 := by
    have chain : ∀ (s e : Nat), s ≤ e → (∀ m, s ≤ m → m < e → (Hs (m + 1)).t.get b0 = (Hs m).t.get b0) → (Hs e).t.get b0 = (Hs s).t.get b0 := by
      intro s e
      induction e with
      | zero => intro h _; rw [show s = 0 by omega]
      | succ e ih =>
        intro h hm
        rcases Nat.lt_or_ge s (e + 1) with h1 | h1
        · rw [hm e (by omega) (by omega)]; exact ih (by omega) fun m h2 h3 => hm m h2 (by omega)
        · rw [show s = e + 1 by omega]
    rcases Nat.le_total t j with h | h
    · refine (chain t j h fun m h1 h2 => ?_).symm
      cases hc : (cl m).loud with
      | false => exact R.quiet ho (by omega) hc b0 (Nat.lt_of_lt_of_le hbt (R.n_le ho h1 (by omega)))
      | true =>
        have hp := R.pair m j h2 hjl
        rw [hcl] at hp
        have hno : ancB (befs ops) m j = false := by
          cases hA : ancB (befs ops) m j with
          | false => rfl
          | true => have := ht.2.2 m (hanc m hA) hc; omega
        cases hcm : cl m with
        | S b =>
          rw [hcm] at hp
          simp only [pairOK, hno, Bool.or_false, Bool.not_eq_true'] at hp
          exact R.other (by omega) hcm b0 (fun e => by subst e; simp at hp)
        | X => rw [hcm] at hp; simp only [pairOK, hno] at hp; cases hp
        | A => rw [hcm] at hc; cases hc
        | L b => rw [hcm] at hc; cases hc
        | N => rw [hcm] at hc; cases hc
    · refine chain j t h fun m h1 h2 => ?_
      cases hc : (cl m).loud with
      | false => exact R.quiet ho (by omega) hc b0 (Nat.lt_of_lt_of_le hb (R.n_le ho h1 (by omega)))
      | true =>
        have hjm : j < m := by
          rcases Nat.lt_or_ge j m with h3 | h3
          · exact h3
          · rw [show m = j by omega, hq] at hc; cases hc
        have hp := R.pair j m hjm (by omega)
        rw [hcl] at hp
        have hDm := ht.2.1 m h2 hc
        have hno : ancB (befs ops) j m = false := by
          cases hA : ancB (befs ops) j m with
          | false => rfl
          | true => have := I.clo m j hDm hA; rw [hjD] at this; cases this
        cases hcm : cl m with
        | S b =>
          rw [hcm] at hp
          simp only [pairOK, hno, Bool.or_false, Bool.not_eq_true'] at hp
          exact R.other (by omega) hcm b0 (fun e => by subst e; simp at hp)
        | X => rw [hcm] at hp; simp only [pairOK, hno] at hp; cases hp
        | A => rw [hcm] at hc; cases hc
        | L b => rw [hcm] at hc; cases hc
        | N => rw [hcm] at hc; cases hc
  rw [hop] at hs
  obtain ⟨b1, off1, hx1, hG, hat⟩ := load_at hs
  rw [hx0] at hx1
  cases hx1
  have h' := hat (Hs t) hsame
  obtain ⟨u, hv, hrun⟩ := load_run (w := w) (ev := a.eval) (ρ := bel ρ (Hs t).n) h' (fun a' ha' => by
    rw [hx0] at ha'
    cases ha'
    exact ⟨L, by rw [bel_lt hbt]; exact hρ, hev⟩) (I.sim t ht).rel
  have hput := I.put (ρ' := ρ) (u := u) (w' := w) R hj hjD hanc (PM.le.refl ρ)
  obtain ⟨dst, op, ty, pos, after, guard⟩ := o
  simp only at hop
  subst hop
  rw [hrun dst ty pos after guard]
  refine ⟨ρ, hput ?_ ?_ ?_ ?_⟩
  · exact (VRel.bel hok hv).mono (bel_mono (bel_le _ _) (by omega))
  · exact ⟨t, (Itv.quiet hD' hq).2 ht⟩
  · exact fun t ht => I.sim t ((Itv.quiet hD' hq).1 ht)
  · exact fun b h1 h2 => absurd h1 h2
end
end
end Go.Fv
