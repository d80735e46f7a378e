/-
  An abstract evaluator of the model's code: a region that draws its order comes to the evaluator's end, whatever is drawn: the rule. Conditions: none; nothing here speaks of one program.
-/
import Derived.Test.YtdneelooepjdhaaEvW
set_option linter.unusedSectionVars false
namespace Go.Ev

section
variable {P : Program} [Plain P] {ora : Ora} {ops : List Oper} {W : List (Nat × Nat × Nat)} {ts0 : List AV} {H0 : Heap} {vs : List AV} {es : List Eff} {n0 : Nat} {ρ0 : PMap} {w0 : World} {log : Log}

def cntOf (n : Nat) (listed : Array Bool) : Nat := (List.range n).countP fun i => !dOf listed i

theorem countP_lt {p q : Nat → Bool} {j : Nat} : ∀ (l : List Nat), j ∈ l → (∀ i ∈ l, q i = true → p i = true) → p j = true → q j = false → l.countP q < l.countP p
  | [], h, _, _, _ => by cases h
  | x :: l, h, hq, hp, hqj => by
    have hle : l.countP q ≤ l.countP p := List.countP_mono_left fun i hi => hq i (List.mem_cons_of_mem _ hi)
    rcases List.mem_cons.1 h with rfl | h
    · rw [List.countP_cons, List.countP_cons]
      simp [hp, hqj]
      omega
    · have ih := countP_lt l h (fun i hi => hq i (List.mem_cons_of_mem _ hi)) hp hqj
      rw [List.countP_cons, List.countP_cons]
      have := hq x (List.mem_cons_self ..)
      cases hqx : q x with
      | false => simp; cases p x <;> simp <;> omega
      | true => simp [this hqx]; omega

theorem cntOf_lt {n j : Nat} {listed : Array Bool} (hj : j < n) (hs : listed.size = n) (hD : dOf listed j = false) : cntOf n (listed.setIfInBounds j true) < cntOf n listed := by
  unfold cntOf
  rw [dOf_set listed (by omega)]
  refine countP_lt (j := j) _ (List.mem_range.2 hj) (fun i _ h => ?_) (by simp [hD]) (by simp)
  by_cases hij : i = j
  · simp [hij] at h
  · simpa [hij] using h

def orP (ρ ρr : PMap) : PMap := fun b => match ρ b with
  | some x => some x
  | none => ρr b
theorem orP_some {ρ ρr : PMap} {b : Nat} {x : Nat × Nat} (h : ρ b = some x) : orP ρ ρr b = some x := by unfold orP; rw [h]
theorem orP_none {ρ ρr : PMap} {b : Nat} (h : ρ b = none) : orP ρ ρr b = ρr b := by unfold orP; rw [h]

theorem inv_step (hr : RunOK P ora ops W ts0 H0 vs es) (hflow : flowOk ops = true) {listed : Array Bool} {ρ ρ' : PMap} {a : Act} {w w' : World} {j : Nat} {o : Oper} {v : AV} {e : Eff} {u : Value}
    (hlog : ∀ (k : Nat) (f : Eff), es[k]? = some f → ∀ b i c, (b, i, c) ∈ f.writes → b < n0 → (b, i) ∈ log)
    (inv : Inv n0 ops ts0 H0 vs es ρ0 w0 log listed ρ a w) (ho : ops[j]? = some o) (hv : vs[j]? = some v) (he : es[j]? = some e) (hjD : dOf listed j = false)
    (hanc : ∀ i, ((befs ops).getD j 0).testBit i = true → dOf listed i = true)
    (hwf : e.wf (viewA (befs ops) W H0 j (es.take j))) (hvr : VRel ρ' v u) (hwe : WEff ρ ρ' (offOf H0 es j) e w w') :
    Inv n0 ops ts0 H0 vs es ρ0 w0 log (listed.setIfInBounds j true) ρ' (a.put o.dst u) w' := by
  have hjl : j < ops.length := (List.getElem?_eq_some_iff.1 ho).1
  have hD' := dOf_set listed (j := j) (by rw [inv.sz]; exact hjl)
  have hlenv := length_viewA (W := W) (H0 := H0) (es := es) (befs ops) j
  obtain ⟨hvl, hel, hrun⟩ := hr
  simp only [flowOk, Bool.and_eq_true] at hflow
  have hmono : ∀ i, dOf listed i = true → dOf (listed.setIfInBounds j true) i = true := fun i hi => by
    rw [hD']
    by_cases hij : i = j
    · simp [hij]
    · simp [hij, hi]
  have hwr : ∀ (k : Nat) (f : Eff), es[k]? = some f → ∀ b i c, (b, i, c) ∈ f.writes → (k, b, i) ∈ W := by
    intro k f hf b i c hm
    have hk : k < ops.length := by rw [← hel]; exact (List.getElem?_eq_some_iff.1 hf).1
    obtain ⟨v', e', _, h2, h3⟩ := hrun k ops[k] (List.getElem?_eq_getElem hk)
    rw [hf] at h2
    cases h2
    exact (drawStep_writes h3 b i c hm).1
  have hle := view_le (W := W) (H0 := H0) hel inv.clo hwr hjl hjD hanc
  exact {
    sz := by simp [inv.sz]
    clo := fun k i hk hb => by
      by_cases hkj : k = j
      · subst hkj; exact hmono i (hanc i hb)
      · rw [hD'] at hk
        simp only [hkj, if_false] at hk
        exact hmono i (inv.clo k i hk hb)
    fr := by
      refine All2.of_get ?_ fun t x y hx hy => ?_
      · have := inv.fr.length
        rw [length_tsBy] at this ⊢
        rw [this]
        cases o.dst <;> simp [Act.put]
      · by_cases hot : o.dst = some t
        · rw [tsBy_at (t := t) ops vs 0 j ts0 ho hv hot (by rw [hD']; simp) fun i p hp hpt => dstsOk_spec ops hflow.1.2 i j p o t hp ho hpt hot] at hx
          cases h0 : ts0[t]? with
          | none => rw [h0] at hx; cases hx
          | some z =>
            rw [h0] at hx
            cases hx
            have htl : t < a.tmps.size := by
              have := inv.fr.length
              rw [length_tsBy] at this
              simp only [Array.length_toList] at this
              have := (List.getElem?_eq_some_iff.1 h0).1
              omega
            simp only [hot, Act.put, Array.getElem?_toList] at hy
            rw [Array.getElem?_setIfInBounds_self_of_lt htl] at hy
            cases hy
            exact hvr
        · rw [tsBy_agree (D1 := dOf (listed.setIfInBounds j true)) (D2 := dOf listed) ops vs 0 ts0 ts0 rfl fun i p hp hpt => by
            rw [hD']
            simp only [Nat.zero_add]
            rw [if_neg (fun hij : i = j => by subst hij; rw [ho] at hp; cases hp; exact hot hpt)]] at hx
          have hy' : a.tmps.toList[t]? = some y := by
            rw [← hy]
            cases hd : o.dst with
            | none => rfl
            | some d =>
              have hne : d ≠ t := fun h => hot (by rw [hd, h])
              simp only [Act.put, Array.getElem?_toList]
              rw [Array.getElem?_setIfInBounds_ne hne]
          obtain ⟨y2, hy2, hr2⟩ := inv.fr.get t x hx
          rw [hy'] at hy2
          cases hy2
          exact hr2.mono hwe.ext
    df := by rw [put_defers]; exact inv.df
    hp := by
      refine inv.hp.stepTo hwe (fun b i c hm => ?_) (step_in_middle ⟨hvl, hel, hrun⟩ inv.sz inv.clo hjl hjD he fun b i c hm => ?_)
      · obtain ⟨blk, hb, _⟩ := hwf b i c hm
        obtain ⟨k2, h2, _, _⟩ := hle b blk hb
        exact ⟨k2, h2⟩
      · obtain ⟨blk, hb, _⟩ := hwf b i c hm
        rw [← hlenv]
        exact (List.getElem?_eq_some_iff.1 hb).1
    dom := fun b hb => by
      cases hρ : ρ b with
      | none =>
        cases hρ' : ρ' b with
        | none => exact absurd hρ' hb
        | some x =>
          have := hwe.new b x.1 x.2 hρ hρ'
          exact .inr ⟨j, e, by rw [hD']; simp, he, this.1, this.2.1⟩
      | some x =>
        rcases inv.dom b (by rw [hρ]; simp) with h | ⟨k, f, hk, hf, h1, h2⟩
        · exact .inl h
        · exact .inr ⟨k, f, hmono k hk, hf, h1, h2⟩
    ext := inv.ext.trans hwe.ext
    loc := fun b B o' h => by
      cases hρ : ρ b with
      | none =>
        have h1 := hwe.new b B o' hρ h
        refine .inr ⟨?_, Nat.le_trans inv.size h1.2.2, Nat.le_trans inv.grow (Nat.le_trans (by unfold offOf; omega) h1.1)⟩
        cases h0 : ρ0 b with
        | none => rfl
        | some x => have := inv.ext b x h0; rw [hρ] at this; cases this
      | some x =>
        have := hwe.ext b x hρ
        rw [h] at this
        cases this
        exact inv.loc b B o' hρ
    grow := inv.grow
    dom0 := inv.dom0
    os := hwe.os.trans inv.os
    tape := hwe.tape.trans inv.tape
    output := hwe.output.trans inv.output
    size := Nat.le_trans inv.size hwe.size
    old := fun k hk => SameBut.trans (inv.old k hk)
      ((hwe.old k (Nat.lt_of_lt_of_le hk inv.size)).mono fun j' ⟨b, i, c, o', h1, h2, h3⟩ => by
        have hr : ρ0 b = some (k, o') := by
          rcases inv.loc b k o' h2 with h | ⟨_, h, _⟩
          · exact h
          · omega
        have hb : b < n0 := by
          rcases Nat.lt_or_ge b n0 with h | h
          · exact h
          · rw [inv.dom0 b h] at hr; cases hr
        exact ⟨b, i, o', hlog j e he b i c h1 hb, hr, h3⟩) }

theorem looksAt_op {o : Oper} {t : Tmp} (h : Operand.tmp t ∈ o.op.operands) : t ∈ o.looksAt ops.toArray :=
  List.mem_append_left _ (List.mem_filterMap.2 ⟨.tmp t, by simpa using h, rfl⟩)

theorem looksAt_guard {o : Oper} {j : Nat} {want : Bool} {t : Tmp} (h : o.guard = some (j, want)) (ht : (ops[j]?).bind (·.dst) = some t) : t ∈ o.looksAt ops.toArray := by
  unfold Oper.looksAt
  rw [h]
  refine List.mem_append_right _ ?_
  have ht' : (ops.toArray[j]?).bind (·.dst) = some t := by simpa using ht
  simp only [ht']
  exact List.mem_singleton.2 rfl

theorem inv_wp (hora : OraOK P ora) (hr : RunOK P ora ops W ts0 H0 vs es) (hflow : flowOk ops = true) (hts0 : ∀ x ∈ ts0, AV.below H0.length x = true) (hH0 : HBelow H0 H0.length)
    (hlog : ∀ (k : Nat) (f : Eff), es[k]? = some f → ∀ b i c, (b, i, c) ∈ f.writes → b < n0 → (b, i) ∈ log) {Q : Exit → Act → World → Prop}
    (hq : ∀ ρ' a' w', SRel n0 ρ0 w0 ρ' (putAll ops vs ts0) (heapBy (fun _ => .ap) 0 es H0) log a' w' → Q .normal a' w') :
    ∀ (fuel : Nat) (listed : Array Bool) (ρ : PMap) (a : Act) (w : World), Inv n0 ops ts0 H0 vs es ρ0 w0 log listed ρ a w → cntOf ops.length listed ≤ fuel → wpAny P .any ops.toArray Q fuel listed a w := by
  obtain ⟨hvl, hel, hrun⟩ := hr
  have hfl := hflow
  simp only [flowOk, Bool.and_eq_true] at hfl
  -- where nobody is ready all have come up
  have hdone : ∀ (listed : Array Bool) (ρ : PMap) (a : Act) (w : World), Inv n0 ops ts0 H0 vs es ρ0 w0 log listed ρ a w → (Region.ready .any ops.toArray listed = [] → Q .normal a w) := by
    intro listed ρ a w inv hemp
    have hall : ∀ k, k < ops.length → dOf listed k = true := by
      intro k
      induction k using Nat.strongRecOn with
      | _ k ih =>
        intro hk
        cases hD : dOf listed k with
        | true => rfl
        | false =>
          exfalso
          have hmem : k ∈ Region.ready .any ops.toArray listed := by
            rw [mem_ready]
            refine ⟨?_, ops[k], by simp [hk], fun e he hb => ?_⟩
            · unfold dOf at hD
              have : k < listed.size := by rw [inv.sz]; exact hk
              simp [this] at hD ⊢
              exact hD
            · have hlt := edgesOk_spec ops 0 hfl.1.1 k ops[k] (List.getElem?_eq_getElem hk) e he hb
              exact ih e.on (by omega) (by omega)
          rw [hemp] at hmem
          cases hmem
    have e1 : tsBy (dOf listed) 0 ops vs ts0 = putAll ops vs ts0 := by
      rw [putAll_eq ops vs 0]
      refine List.ext_getElem? fun t => ?_
      refine tsBy_agree ops vs 0 ts0 ts0 rfl fun i o hi _ => ?_
      rw [Nat.zero_add]
      exact hall i (List.getElem?_eq_some_iff.1 hi).1
    have e2 : heapBy (mOf (dOf listed)) 0 es H0 = heapBy (fun _ => .ap) 0 es H0 := by
      refine heapBy_congr _ _ _ fun i _ hi => ?_
      unfold mOf
      rw [if_pos (hall i (by omega))]
    refine hq ρ a w ⟨e1 ▸ inv.fr, inv.df, e2 ▸ inv.hp, fun b hb => ?_, inv.ext, inv.loc, (by rw [length_heapBy]; exact Nat.le_trans inv.grow (Nat.le_add_right _ _)), inv.dom0, inv.os, inv.tape, inv.output, inv.size, inv.old⟩
    cases hρ : ρ b with
    | none => rfl
    | some x =>
      rw [length_heapBy] at hb
      rcases inv.dom b (by rw [hρ]; simp) with h | ⟨k, f, _, hf, h1, h2⟩
      · omega
      · have hkl : k < es.length := (List.getElem?_eq_some_iff.1 hf).1
        have h3 := offOf_mono (H0 := H0) (es := es) (show k + 1 ≤ es.length by omega)
        rw [offOf_succ hf] at h3
        have h4 : offOf H0 es es.length = H0.length + newsLen es := by unfold offOf; rw [List.take_length]
        omega
  intro fuel
  induction fuel with
  | zero =>
    intro listed ρ a w inv hc
    have hemp : Region.ready .any ops.toArray listed = [] := by
      cases hre : Region.ready .any ops.toArray listed with
      | nil => rfl
      | cons j l =>
        exfalso
        have hj : j ∈ Region.ready .any ops.toArray listed := by rw [hre]; exact List.mem_cons_self ..
        obtain ⟨h0, o, ho, _⟩ := mem_ready.1 hj
        have ho' : ops[j]? = some o := by simpa using ho
        have hjl : j < ops.length := (List.getElem?_eq_some_iff.1 ho').1
        have hD : dOf listed j = false := by
          unfold dOf
          have : j < listed.size := by rw [inv.sz]; exact hjl
          simp [this] at h0 ⊢
          exact h0
        have := cntOf_lt hjl inv.sz hD
        omega
    exact ⟨hemp, hdone listed ρ a w inv hemp⟩
  | succ fuel ih =>
    intro listed ρ a w inv hc
    refine ⟨hdone listed ρ a w inv, fun j hj => ?_⟩
    obtain ⟨h0, o, ho, hall⟩ := mem_ready.1 hj
    have ho' : ops[j]? = some o := by simpa using ho
    have hjl : j < ops.length := (List.getElem?_eq_some_iff.1 ho').1
    have hjs : j < listed.size := by rw [inv.sz]; exact hjl
    have hD : dOf listed j = false := by
      unfold dOf
      simp [hjs] at h0 ⊢
      exact h0
    have hcnt := cntOf_lt hjl inv.sz hD
    have hanc : ∀ i, ((befs ops).getD j 0).testBit i = true → dOf listed i = true := fun i hi => by
      obtain ⟨e, he, hb, _, hr⟩ := befs_spec ho' hi
      have hl := hall e (by simpa using he) hb
      rcases hr with rfl | hr
      · exact hl
      · exact inv.clo e.on i hl hr
    obtain ⟨v, e, hv, he, hs⟩ := hrun j o ho'
    have hlenv := length_viewA (W := W) (H0 := H0) (es := es) (befs ops) j
    have hwr : ∀ (k : Nat) (f : Eff), es[k]? = some f → ∀ b i c, (b, i, c) ∈ f.writes → (k, b, i) ∈ W := by
      intro k f hf b i c hm
      have hk : k < ops.length := by rw [← hel]; exact (List.getElem?_eq_some_iff.1 hf).1
      obtain ⟨v', e', _, h2, h3⟩ := hrun k ops[k] (List.getElem?_eq_getElem hk)
      rw [hf] at h2
      cases h2
      exact (drawStep_writes h3 b i c hm).1
    have hle := view_le (W := W) (H0 := H0) hel inv.clo hwr hjl hD hanc
    have hview := inv.hp.le hle
    -- what number j looks at
    have hagree : ∀ t, t ∈ o.looksAt ops.toArray → (tsBy (fun i => decide (i < j)) 0 ops vs ts0)[t]? = (tsBy (dOf listed) 0 ops vs ts0)[t]? := by
      intro t ht
      refine tsBy_agree ops vs 0 ts0 ts0 rfl fun i p hp hpt => ?_
      rw [Nat.zero_add]
      have hw := readsOk_spec ops 0 hfl.2 j o ho'
      rw [Nat.zero_add] at hw
      by_cases hij : i = j
      · subst hij; rw [hD]; simp
      · rcases writersOk_spec ops 0 hw i p t hp hpt ht (by omega) with ⟨h1, h2⟩ | ⟨h1, h2⟩
        · rw [Nat.zero_add] at h1 h2
          rw [hanc i h2]
          simp [h1]
        · rw [Nat.zero_add] at h1 h2
          have : dOf listed i = false := by
            cases h : dOf listed i with
            | false => rfl
            | true => have := inv.clo i j h h2; rw [hD] at this; cases this
          rw [this]
          simp
          omega
    have hget : ∀ t, t ∈ o.looksAt ops.toArray → ∀ x, (tsBy (fun i => decide (i < j)) 0 ops vs ts0)[t]? = some x → ∃ u, a.tmps[t]? = some u ∧ VRel ρ x u := by
      intro t ht x hx
      rw [hagree t ht] at hx
      obtain ⟨u, hu, hr⟩ := inv.fr.get t x hx
      exact ⟨u, by simpa using hu, hr⟩
    have hlen : (tsBy (fun i => decide (i < j)) 0 ops vs ts0).length = a.tmps.size := by
      have := inv.fr.length
      rw [length_tsBy] at this ⊢
      simpa using this
    have hfresh : ∀ i, i < e.news.length → ρ (offOf H0 es j + i) = none := by
      intro i hi
      cases hρ : ρ (offOf H0 es j + i) with
      | none => rfl
      | some x =>
        exfalso
        rcases inv.dom _ (by rw [hρ]; simp) with h | ⟨k, f, hk, hf, h1, h2⟩
        · unfold offOf at h; omega
        · have := offOf_disjoint hf he h1 h2 (by omega) (by omega)
          subst this
          rw [hD] at hk
          cases hk
    -- what number j sees names blocks below its own new ones alone
    have hbel : ∀ (k : Nat) (x : AV) (f : Eff), vs[k]? = some x → es[k]? = some f → k < j → x.below (offOf H0 es j) = true ∧ f.below (offOf H0 es j) = true := by
      intro k x f hx hf hkj
      have hk : k < ops.length := by omega
      obtain ⟨v', e', h1, h2, h3⟩ := hrun k ops[k] (List.getElem?_eq_getElem hk)
      rw [hx] at h1; cases h1
      rw [hf] at h2; cases h2
      have hle' : H0.length + newsLen (es.take k) + f.news.length ≤ offOf H0 es j := by
        have := offOf_mono (H0 := H0) (es := es) (show k + 1 ≤ j by omega)
        rw [offOf_succ hf] at this
        exact this
      obtain ⟨b1, b2⟩ := drawStep_below h3
      refine ⟨AV.below_mono hle' b1, ?_⟩
      simp only [Eff.below, Bool.and_eq_true, List.all_eq_true] at b2 ⊢
      refine ⟨fun p hp => Cel.below_mono hle' (b2.1 p hp), fun x hx => ?_⟩
      have := b2.2 x hx
      cases x with
      | none => rfl
      | some blk =>
        simp only [blkBelow, List.all_eq_true] at this ⊢
        intro c hc
        have := this c hc
        cases c with
        | none => rfl
        | some c => exact Cel.below_mono hle' this
    have hH0j : H0.length ≤ offOf H0 es j := by unfold offOf; omega
    have htsb : ∀ (t : Nat) (x : AV), (tsBy (fun i => decide (i < j)) 0 ops vs ts0)[t]? = some x → x.below (offOf H0 es j) = true := by
      have gen : ∀ (os : List Oper) (xs : List AV) (k : Nat) (ts : List AV), (∀ x ∈ ts, AV.below (offOf H0 es j) x = true) → (∀ (i : Nat) (x : AV), xs[i]? = some x → k + i < j → x.below (offOf H0 es j) = true) → ∀ x ∈ tsBy (fun i => decide (i < j)) k os xs ts, AV.below (offOf H0 es j) x = true := by
        intro os
        induction os with
        | nil => intro xs k ts h1 _; simpa [tsBy] using h1
        | cons o os ih' =>
          intro xs k ts h1 h2
          cases xs with
          | nil => simpa [tsBy] using h1
          | cons y xs =>
            simp only [tsBy]
            refine ih' xs (k + 1) _ ?_ fun i x hx hi => h2 (i + 1) x (by simpa using hx) (by omega)
            intro x hx
            split at hx
            · rename_i hkj
              simp only [decide_eq_true_eq] at hkj
              cases hd : o.dst with
              | none => rw [hd] at hx; exact h1 x hx
              | some d =>
                rw [hd] at hx
                rcases List.mem_or_eq_of_mem_set hx with h | h
                · exact h1 x h
                · rw [h]; exact h2 0 y (by simp) (by omega)
            · exact h1 x hx
      intro t x hx
      refine gen ops vs 0 ts0 (fun x hx => AV.below_mono hH0j (hts0 x hx)) (fun i x hx hi => ?_) x (List.mem_of_getElem? hx)
      have hil : i < es.length := by omega
      exact (hbel i x es[i] hx (List.getElem?_eq_getElem hil) (by omega)).1
    have hvb : HBelow (viewA (befs ops) W H0 j (es.take j)) (offOf H0 es j) := by
      unfold viewA
      refine HBelow.poison _ (HBelow.heapBy _ _ (hH0.mono hH0j) fun f hf => ?_)
      obtain ⟨i, hi, rfl⟩ := List.getElem_of_mem hf
      rw [List.length_take] at hi
      rw [List.getElem_take]
      have hil : i < vs.length := by omega
      exact (hbel i vs[i] es[i] (List.getElem?_eq_getElem hil) (List.getElem?_eq_getElem (by omega)) (by omega)).2
    have hviewr := hview.cut hvb (by rw [hlenv]; exact Nat.le_refl _)
    have hnext : ∀ u w', e.wf (viewA (befs ops) W H0 j (es.take j)) → Post (cutP ρ (offOf H0 es j)) (viewA (befs ops) W H0 j (es.take j)).length v e w u w' → wpAny P .any ops.toArray Q fuel (listed.setIfInBounds j true) (a.put o.dst u) w' := by
      intro u w' hwf ⟨ρr, hvr, hwe⟩
      rw [hlenv] at hwe
      have hrnew : ∀ b B o', cutP ρ (offOf H0 es j) b = none → ρr b = some (B, o') → ρ b = none := by
        intro b B o' h1 h2
        have := hwe.new b B o' h1 h2
        rw [show b = offOf H0 es j + (b - offOf H0 es j) by omega]
        exact hfresh _ (by omega)
      have hle1 : PMap.le ρr (orP ρ ρr) := by
        intro b x hx
        cases hρ : ρ b with
        | none => rw [orP_none hρ]; exact hx
        | some y =>
          rw [orP_some hρ]
          cases hc : cutP ρ (offOf H0 es j) b with
          | none => have := hrnew b x.1 x.2 hc hx; rw [hρ] at this; cases this
          | some z =>
            have h1 := cutP_le _ _ _ _ hc
            have h2 := hwe.ext _ _ hc
            rw [hx] at h2; cases h2
            rw [hρ] at h1; cases h1
            rfl
      have hwe' : WEff ρ (orP ρ ρr) (offOf H0 es j) e w w' := {
        ext := fun b x hx => orP_some hx
        new := fun b B o' h1 h2 => by
          rw [orP_none h1] at h2
          have hc : cutP ρ (offOf H0 es j) b = none := by
            cases hc : cutP ρ (offOf H0 es j) b with
            | none => rfl
            | some z => have := cutP_le _ _ _ _ hc; rw [h1] at this; cases this
          exact hwe.new b B o' hc h2
        os := hwe.os
        tape := hwe.tape
        output := hwe.output
        size := hwe.size
        old := fun k hk => (hwe.old k hk).mono fun j' ⟨b, i, c, o', h1, h2, h3⟩ => ⟨b, i, c, o', h1, cutP_le _ _ _ _ h2, h3⟩
        wr := fun b i c hm => by
          obtain ⟨B, o', u', h1, h2, h3⟩ := hwe.wr b i c hm
          exact ⟨B, o', u', cutP_le _ _ _ _ h1, h2, h3.mono hle1⟩
        nw := fun k blk hb => by
          obtain ⟨B, o', h1, h2, h3, h4⟩ := hwe.nw k blk hb
          refine ⟨B, o', hle1 _ _ h1, h2, h3, fun i hi => ?_⟩
          obtain ⟨g1, u', g2, g3⟩ := h4 i hi
          exact ⟨g1, u', g2, fun c hc => (g3 c hc).mono hle1⟩
        nwi := fun k k' blk blk' B o1 o2 h1 h2 h3 h4 => by
          have hk : k < e.news.length := (List.getElem?_eq_some_iff.1 h1).1
          have hk' : k' < e.news.length := (List.getElem?_eq_some_iff.1 h2).1
          rw [orP_none (hfresh k hk)] at h3
          rw [orP_none (hfresh k' hk')] at h4
          exact hwe.nwi k k' blk blk' B o1 o2 h1 h2 h3 h4 }
      exact ih _ _ _ w' (inv_step ⟨hvl, hel, hrun⟩ hflow hlog inv ho' hv he hD hanc hwf (hvr.mono hle1) hwe') (by omega)
    unfold wpOp
    simp only [ho]
    unfold drawStep at hs
    cases hw : wantA ops (tsBy (fun j' => decide (j' < j)) 0 ops vs ts0) o.guard with
    | none => rw [hw] at hs; cases hs
    | some b =>
      have hwant := wantA_ok (ρ := ρ) (tmps := a.tmps) hlen (fun j' want t hg ht x hx => hget t (looksAt_guard hg ht) x hx) hw
      rw [hw] at hs
      cases b with
      | false =>
        simp only [Option.some.injEq, Prod.mk.injEq] at hs
        obtain ⟨rfl, rfl⟩ := hs
        rw [if_neg (by rw [hwant]; simp)]
        exact hnext undef w (wf_none _ _) (post_same (undef_rel _))
      | true =>
        simp only at hs
        rw [if_pos hwant]
        cases hop : opA P ora (tsBy (fun j' => decide (j' < j)) 0 ops vs ts0) (viewA (befs ops) W H0 j (es.take j)) o.op with
        | none => rw [hop] at hs; cases hs
        | some p =>
          obtain ⟨v', e'⟩ := p
          rw [hop] at hs
          simp only at hs
          split at hs
          · simp only [Option.some.injEq, Prod.mk.injEq] at hs
            obtain ⟨rfl, rfl⟩ := hs
            obtain ⟨hwf, hg⟩ := opA_ok (w := w) (ρ := cutP ρ (offOf H0 es j)) (ev := a.eval) hora o hop (fun x hx y hy => by
              cases x with
              | tmp t =>
                obtain ⟨u, hu, hr⟩ := hget t (looksAt_op hx) y hy
                have : a.eval (.tmp t) = u := by simp [Act.eval, Array.getD_eq_getD_getElem?, hu]
                rw [this]
                exact hr.cut (htsb t y hy)
              | const c =>
                simp only [evA] at hy
                split at hy
                · rename_i hc; cases hy; exact ⟨rfl, hc⟩
                · cases hy
              | global g => cases hy; exact ⟨rfl, rfl⟩
              | func f => cases hy; exact ⟨rfl, rfl⟩) hviewr (by rw [hlenv]; exact cutP_dom _ _)
            exact .inl (upon_of_gives hg fun u w' hp => hnext u w' hwf hp)
          · cases hs

theorem getD_replicate_false' (m j : Nat) : (Array.replicate m false).getD j false = false := by
  rcases Nat.lt_or_ge j m with h | h
  · simp [h]
  · simp [h]

theorem wp_drawA (hm : P.follows .mixedOrders = true) (hora : OraOK P ora) {id : Nat} {Q : Exit → Act → World → Prop} {ρ : PMap} {ts ts' : List AV} {H H' : Heap} {log' : Log} {a : Act} {w : World} (hflow : flowOk ops = true)
    (h : drawA P ora n0 ops W ts H log = some (ts', H', log')) (s : SRel n0 ρ0 w0 ρ ts H log a w) (hq : ∀ ρ' a' w', SRel n0 ρ0 w0 ρ' ts' H' log' a' w' → Q .normal a' w') : (Code.region id ops.toArray true).wp P Q a w := by
  unfold drawA at h
  cases hg : drawGo P ora ops (befs ops) W H ops 0 ts [] with
  | none => rw [hg] at h; cases h
  | some p =>
    obtain ⟨vs, es⟩ := p
    rw [hg] at h
    simp only [Option.some.injEq, Prod.mk.injEq] at h
    obtain ⟨rfl, rfl, rfl⟩ := h
    have hr : RunOK P ora ops W ts H vs es := by
      obtain ⟨h1, h2, h3⟩ := drawGo_spec ops 0 ts [] vs es hg
      refine ⟨h1, h2, fun i o ho => ?_⟩
      obtain ⟨v, e, a1, a2, a3⟩ := h3 i o ho
      exact ⟨v, e, a1, a2, by simpa using a3⟩
    have hlog : ∀ (k : Nat) (f : Eff), es[k]? = some f → ∀ b i c, (b, i, c) ∈ f.writes → b < n0 → (b, i) ∈ es.flatMap (olog n0) ++ log := by
      intro k f hf b i c hmm hb
      refine List.mem_append_left _ (List.mem_flatMap.2 ⟨f, List.mem_of_getElem? hf, List.mem_filter.2 ⟨List.mem_map.2 ⟨(b, i, c), hmm, rfl⟩, by simpa using hb⟩⟩)
    refine wp_region_any hm ?_
    have hno : ∀ i, dOf (Array.replicate ops.length false) i = false := fun i => getD_replicate_false' _ _
    have hts : tsBy (dOf (Array.replicate ops.length false)) 0 ops vs ts = ts := by
      refine List.ext_getElem? fun t => ?_
      have hnone : ∀ (os : List Oper) (vs : List AV) (k : Nat) (ts : List AV), tsBy (fun _ => false) k os vs ts = ts := by
        intro os
        induction os with
        | nil => intros; simp [tsBy]
        | cons o os ih => intro vs k ts; cases vs <;> simp [tsBy, ih]
      rw [tsBy_agree (D2 := fun _ => false) ops vs 0 ts ts rfl fun i o _ _ => hno _, hnone]
    have hHe : HLe H (heapBy (mOf (dOf (Array.replicate ops.length false))) 0 es H) := HLe.heapBy_right es 0 (HLe.refl H) (fun i _ _ => by unfold mOf; split <;> simp) fun i e _ hap => by
      unfold mOf at hap
      rw [hno] at hap
      cases hap
    have hHe' : HLe (heapBy (mOf (dOf (Array.replicate ops.length false))) 0 es H) H := by
      have : ∀ (es : List Eff) (k : Nat) (H1 : Heap), HLe H1 H → HLe (heapBy (mOf (dOf (Array.replicate ops.length false))) k es H1) H := by
        intro es
        induction es with
        | nil => intro k H1 h; exact h
        | cons e es ih =>
          intro k H1 h
          rw [heapBy_cons]
          refine ih _ _ ?_
          have : mOf (dOf (Array.replicate ops.length false)) k = .sk := by unfold mOf; rw [hno]; rfl
          rw [this]
          intro b blk hb
          simp only [stepBy] at hb
          rcases Nat.lt_or_ge b H1.length with hlt | hge
          · rw [List.getElem?_append_left hlt] at hb; exact h b blk hb
          · rw [List.getElem?_append_right hge] at hb; exact (deads_get hb).elim
      exact this es 0 H (HLe.refl H)
    have hsz : ops.toArray.size = ops.length := by simp
    rw [hsz]
    refine inv_wp hora hr hflow (fun x hx => ?_) (HeapRel.below s.hp s.dom) hlog hq ops.length (Array.replicate ops.length false) ρ a _ ⟨by simp, fun k i hk _ => (by rw [hno] at hk; cases hk), by rw [hts]; exact s.fr, s.df, HeapRel.le (H2 := H) ⟨s.hp.blk, s.hp.inj⟩ hHe', fun b hb => ?_, s.ext, s.loc, s.grow, s.dom0, s.os, s.tape, s.output, s.size,
      fun k hk => (s.old k hk).mono fun j ⟨b, i, o, h1, h2, h3⟩ => ⟨b, i, o, List.mem_append_right _ h1, h2, h3⟩⟩ ?_
    · obtain ⟨i, hi, rfl⟩ := List.getElem_of_mem hx
      obtain ⟨u, _, hr⟩ := s.fr.get i _ (List.getElem?_eq_getElem hi)
      exact hr.below s.dom
    · refine .inl ?_
      rcases Nat.lt_or_ge b H.length with h | h
      · exact h
      · exact absurd (s.dom b h) hb
    · unfold cntOf
      exact Nat.le_trans (List.countP_le_length) (by simp)
end
end Go.Ev
