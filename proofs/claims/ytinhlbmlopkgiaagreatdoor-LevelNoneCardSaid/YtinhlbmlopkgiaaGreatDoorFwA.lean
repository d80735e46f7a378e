/-
  A second abstract evaluator of the model's code: a region that draws its order comes to the evaluator's end, whatever is drawn. Conditions: none; nothing here speaks of one program.
-/
import Derived.Test.YtinhlbmlopkgiaaGreatDoorFvZ
set_option linter.unusedSectionVars false
set_option linter.unusedVariables false
namespace Go.Fv
section
variable {P : Program} [Plain P] {ora : Ora} {n m : Nat} {r : Option Nat} {ops : List Oper} {Fs : Nat → Fm} {Hs : Nat → HP} {vs : Nat → AV} {cl : Nat → Cls} {ρ0 ρ : PM} {w0 w : World} {df : List Deferred} {listed : Array Bool} {a : Act}

theorem mem_dOf {j : Nat} (hjs : j < listed.size) (h0 : listed[j]? ≠ some true) : dOf listed j = false := by
  unfold dOf
  simp [hjs] at h0 ⊢
  exact h0

theorem Inv.step (R : Run P ora n ops Fs Hs vs cl) (hora : OraOK P ora) (hd0 : Dom ρ0 (Hs 0).n) (hlt0 : ∀ b L, (Hs 0).Kn b → ρ0 b = some L → L.B < w0.heap.size) (I : Inv n ops Fs Hs vs cl ρ0 w0 df listed ρ a w)
    {j : Nat} {o : Oper} (hj : ops[j]? = some o) (hjD : dOf listed j = false) (hanc : ∀ i, ((befs ops).getD j 0).testBit i = true → dOf listed i = true)
    {K : Act → World → Prop} {Q : Exit → Act → World → Prop} (hk : ∀ ρ' u w', Inv n ops Fs Hs vs cl ρ0 w0 df (listed.setIfInBounds j true) ρ' (a.put o.dst u) w' → K (a.put o.dst u) w') :
    wpOpIn (WF r) m P ops.toArray Q j K a w := by
  have hjl : j < ops.length := (List.getElem?_eq_some_iff.1 hj).1
  have ho := hora.st
  have hseen := fun t ht v hv => I.seen R ho hd0 hj hjD hanc t ht v hv
  unfold wpOpIn
  simp only [List.getElem?_toArray, hj]
  rcases R.step j o hj with ⟨hw, hv, hc, hH, hp⟩ | ⟨hw, G, hs, hH, hp, hc, hok⟩
  · rw [if_neg (by rw [wantF_ok' hseen hw]; simp)]
    refine ⟨fun f _ => trivial, hk ρ _ _ ?_⟩
    have hD' := dOf_set listed (j := j) (by rw [I.sz]; exact hjl)
    have hq : (cl j).loud = false := by rw [hc]; rfl
    refine I.put R hj hjD hanc (PM.le.refl ρ) (by rw [hv]; exact undef_rel _) ?_ (fun t ht => I.sim t ((Itv.quiet hD' hq).1 ht)) (fun b h1 h2 => absurd h1 h2)
    obtain ⟨t, ht⟩ := I.itv
    exact ⟨t, (Itv.quiet hD' hq).2 ht⟩
  · rw [if_pos (wantF_ok' hseen hw)]
    have key : GivesR P (fun u w' => ∃ ρ', Inv n ops Fs Hs vs cl ρ0 w0 df (listed.setIfInBounds j true) ρ' (a.put o.dst u) w') ((execOp a.eval o).run P w) := by
      have hc' := hc
      unfold clsA at hc
      split at hc
      · rename_i hpure
        exact step_pure R I ho hd0 hj hjD hanc hora hlt0 hpure hc hs
      · split at hc
        · rename_i t x hop
          have hs' := hs
          rw [hop] at hs'
          obtain ⟨b0, off, hx, _, _⟩ := load_at hs'
          rw [hx] at hc
          simp only at hc
          exact step_load R I ho hd0 hj hjD hanc hora hc hop hx (by rw [hc] at hok; exact hok) hs
        · rename_i t x y hop
          have hs' := hs
          rw [hop] at hs'
          obtain ⟨b0, off, hx, _, _⟩ := store_at hs'
          rw [hx] at hc
          simp only at hc
          exact step_loud R I ho hd0 hj hjD hanc hora (by rw [hc]; rfl) hs hH
        · split at hc
          · exact step_new R I ho hd0 hj hjD hanc hora hc hs hH
          · exact step_loud R I ho hd0 hj hjD hanc hora (by rw [hc]; rfl) hs hH
    refine ⟨fun f _ => trivial, ?_⟩
    rw [Oper.semAt_eq _ _ _ (stepA_no_defer hs)]
    exact upon_of_gives key fun u w' ⟨ρ', h⟩ => hk ρ' u w' h

theorem inv_wp (R : Run P ora n ops Fs Hs vs cl) (hora : OraOK P ora) (hd0 : Dom ρ0 (Hs 0).n) (hlt0 : ∀ b L, (Hs 0).Kn b → ρ0 b = some L → L.B < w0.heap.size) {Q : Exit → Act → World → Prop}
    (hq : ∀ ρ' a' w', SRel n ρ' (Fs ops.length) (Hs ops.length) a' w' → a'.defers = df → Sim ρ0 (Hs 0) w0 ρ' (Hs ops.length) w' → Q .normal a' w') :
    ∀ (fuel : Nat) (listed : Array Bool) (ρ : PM) (a : Act) (w : World), Inv n ops Fs Hs vs cl ρ0 w0 df listed ρ a w → cntOf ops.length listed ≤ fuel → wpAnyIn (WF r) m P .any ops.toArray Q fuel listed a w := by
  have ho := hora.st
  have hfl := R.flow
  simp only [flowOk, Bool.and_eq_true] at hfl
  have hdone : ∀ (listed : Array Bool) (ρ : PM) (a : Act) (w : World), Inv n ops Fs Hs vs cl ρ0 w0 df listed ρ a w → (Region.ready .any ops.toArray listed = [] → Q .normal a w) := by
    intro listed ρ a w inv hemp
    have hall : ∀ k, k < ops.length → dOf listed k = true := by
      intro k
      induction k using Nat.strongRecOn with
      | _ k ih =>
        intro hk
        cases hD : dOf listed k with
        | true => rfl
        | false =>
          exfalso
          have hmem : k ∈ Region.ready .any ops.toArray listed := by
            rw [mem_ready]
            refine ⟨?_, ops[k], by simp [hk], fun e he hb => ?_⟩
            · unfold dOf at hD
              have : k < listed.size := by rw [inv.sz]; exact hk
              simp [this] at hD ⊢
              exact hD
            · have hlt := edgesOk_spec ops 0 hfl.1.1 k ops[k] (List.getElem?_eq_getElem hk) e he hb
              exact ih e.on (by omega) (by omega)
          rw [hemp] at hmem
          cases hmem
    have hI : Itv ops cl (dOf listed) ops.length := ⟨Nat.le_refl _, fun k hk _ => hall k hk, fun k hk _ => by have := dOf_lt hk; rw [inv.sz] at this; exact this⟩
    have S := inv.sim _ hI
    refine hq _ a w ⟨⟨inv.tsz, fun t v hv => ?_⟩, S.rel, S.dom⟩ inv.df S
    rcases R.frame ops.length (Nat.le_refl _) t v hv with ⟨p, h1, h2, rfl⟩ | ⟨h1, h2⟩
    · obtain ⟨u, hu, hr⟩ := inv.fr1 p t (hall p h1) h2
      exact ⟨u, hu, hr.mono (bel_mono (PM.le.refl ρ) (R.n_le ho (by omega) (Nat.le_refl _)))⟩
    · obtain ⟨u, hu, hr⟩ := inv.fr2 t v (fun p hp => h1 p (by have := dOf_lt hp; rw [inv.sz] at this; exact this)) h2
      exact ⟨u, hu, hr.mono S.le⟩
  intro fuel
  induction fuel with
  | zero =>
    intro listed ρ a w inv hc
    have hemp : Region.ready .any ops.toArray listed = [] := by
      cases hre : Region.ready .any ops.toArray listed with
      | nil => rfl
      | cons j l =>
        exfalso
        have hj : j ∈ Region.ready .any ops.toArray listed := by rw [hre]; exact List.mem_cons_self ..
        obtain ⟨h0, o, ho, _⟩ := mem_ready.1 hj
        have ho' : ops[j]? = some o := by simpa using ho
        have hjl : j < ops.length := (List.getElem?_eq_some_iff.1 ho').1
        have hD : dOf listed j = false := by
          unfold dOf
          have : j < listed.size := by rw [inv.sz]; exact hjl
          simp [this] at h0 ⊢
          exact h0
        have := cntOf_lt hjl inv.sz hD
        omega
    exact ⟨hemp, hdone listed ρ a w inv hemp⟩
  | succ fuel ih =>
    intro listed ρ a w inv hc
    refine ⟨hdone listed ρ a w inv, fun j hj => ?_⟩
    obtain ⟨h0, o, ho, hall⟩ := mem_ready.1 hj
    have ho' : ops[j]? = some o := by simpa using ho
    have hjl : j < ops.length := (List.getElem?_eq_some_iff.1 ho').1
    have hjs : j < listed.size := by rw [inv.sz]; exact hjl
    have hD : dOf listed j = false := by
      unfold dOf
      simp [hjs] at h0 ⊢
      exact h0
    have hcnt := cntOf_lt hjl inv.sz hD
    have hanc : ∀ i, ((befs ops).getD j 0).testBit i = true → dOf listed i = true := fun i hi => by
      obtain ⟨e, he, hb, _, hr⟩ := befs_spec ho' hi
      have hl := hall e (by simpa using he) hb
      rcases hr with rfl | hr
      · exact hl
      · exact inv.clo e.on i hl hr
    exact inv.step R hora hd0 hlt0 ho' hD hanc fun ρ' u w' inv' => ih _ ρ' _ _ inv' (by omega)

/-- The rule. -/
theorem wp_drawA (hm : P.follows .mixedOrders = true) (hora : OraOK P ora) (hfl : flowOk ops = true) {id : Nat} {F F' : Fm} {H H' : HP} {Q : Exit → Act → World → Prop} (h : drawA P ora n ops F H = some (F', H')) (s : SRel n ρ F H a w)
    (hq : ∀ ρ' a' w', SRel n ρ' F' H' a' w' → a'.defers = a.defers → Sim ρ H w ρ' H' w' → Q .normal a' w') : (Code.region id ops.toArray true).wpIn (WF r) m P Q a w := by
  obtain ⟨Fs, Hs, vs, cl, R, rfl, rfl, rfl, rfl⟩ := drawA_run hfl h
  refine wpIn_region_any hm ?_
  have hlt0 : ∀ b L, (Hs 0).Kn b → ρ b = some L → L.B < w.heap.size := fun b L ⟨i, c, hc⟩ hL => (s.hp.rel b i c L hc hL).lt
  have hsim : Sim ρ (Hs 0) w ρ (Hs 0) { w with drawn := w.drawn + 1 } := Sim.same s.hp s.dom rfl rfl rfl rfl
  have hno : ∀ k, dOf (Array.replicate ops.toArray.size false) k = false := fun k => by
    unfold dOf
    rw [Array.getD_eq_getD_getElem?, Array.getElem?_replicate]
    split <;> rfl
  refine inv_wp R hora s.dom hlt0 hq _ _ ρ a _ ⟨by simp, fun k i hk => ?_, s.fr.sz, fun p t hp => ?_, fun t v _ hv => s.fr.get t v hv, rfl, ?_, fun t ht => ?_, fun b hb => .inl hb, PM.le.refl ρ⟩ (by
    unfold cntOf
    exact Nat.le_trans (List.countP_le_length) (by simp))
  · rw [hno] at hk; cases hk
  · rw [hno] at hp; cases hp
  · obtain ⟨t, _, h1, _⟩ := Itv.max (ops := ops) (cl := cl) (D := dOf (Array.replicate ops.toArray.size false)) _ 0 rfl ⟨Nat.zero_le _, fun k hk => by omega, fun k hk => by rw [hno] at hk; cases hk⟩
    exact ⟨t, h1⟩
  · have hq0 : ∀ k, 0 ≤ k → k < t → (cl k).loud = false := fun k _ hk => by
      cases hc : (cl k).loud with
      | false => rfl
      | true => have := ht.2.1 k hk hc; rw [hno] at this; cases this
    have hn := R.n_le hora.st (Nat.zero_le t) ht.1
    rw [bel_eq s.dom hn]
    exact hsim.ghost hn (R.same hora.st (Nat.zero_le t) ht.1 hq0)

/-- What is said of the heaps alone. -/
theorem drawA_st (ho : OraSt ora) (hfl : flowOk ops = true) {F F' : Fm} {H H' : HP} (h : drawA P ora n ops F H = some (F', H')) : St H H' := by
  obtain ⟨Fs, Hs, vs, cl, R, rfl, rfl, rfl, rfl⟩ := drawA_run hfl h
  have : ∀ k, k ≤ ops.length → St (Hs 0) (Hs k) := by
    intro k
    induction k with
    | zero => exact fun _ => St.refl _
    | succ k ih => exact fun hk => (ih (by omega)).trans (R.st ho (by omega))
  exact this _ (Nat.le_refl _)

theorem seqA_st (ho : OraSt ora) : ∀ (rest : List Oper) {F F' : Fm} {H H' : HP}, seqA P ora n ops rest F H = some (F', H') → St H H'
  | [], _, _, _, _, h => by cases h; exact St.refl _
  | o :: rest, F, F', H, H', h => by
    simp only [seqA] at h
    split at h
    · split at h
      · rename_i v H1 hs
        split at h
        · exact (stepA_st ho hs).trans (seqA_st ho rest h)
        · cases h
      · cases h
    · split at h
      · exact seqA_st ho rest h
      · cases h
    · cases h
end
end Go.Fv
