/-
  An abstract evaluator of the model's code: a function's contract from its evaluation. Conditions: none; nothing here speaks of one program.
-/
import Derived.Test.YtdneelooepjdhaaEvH
set_option linter.unusedSectionVars false
namespace Go.Ev
variable {P : Program} [Plain P] {ora : OraB} {hs : Hints}

theorem allSome_mem {α β : Type} {f : α → Option β} : ∀ {xs : List α} {ys : List β}, allSome (xs.map f) = some ys → (∀ x ∈ xs, ∃ y, f x = some y ∧ y ∈ ys) ∧ (∀ y ∈ ys, ∃ x ∈ xs, f x = some y)
  | [], ys, h => by cases h; exact ⟨fun _ h => (by cases h), fun _ h => (by cases h)⟩
  | x :: xs, ys, h => by
    simp only [List.map_cons] at h
    cases hx : f x with
    | none => rw [hx] at h; cases h
    | some y =>
      rw [hx] at h
      simp only [allSome] at h
      obtain ⟨zs, hz, rfl⟩ := map_some h
      obtain ⟨h1, h2⟩ := allSome_mem hz
      refine ⟨fun a ha => ?_, fun b hb => ?_⟩
      · rcases List.mem_cons.1 ha with rfl | ha
        · exact ⟨y, hx, List.mem_cons_self ..⟩
        · obtain ⟨y', h3, h4⟩ := h1 a ha
          exact ⟨y', h3, List.mem_cons_of_mem _ h4⟩
      · rcases List.mem_cons.1 hb with rfl | hb
        · exact ⟨x, List.mem_cons_self .., hx⟩
        · obtain ⟨x', h3, h4⟩ := h2 b hb
          exact ⟨x', List.mem_cons_of_mem _ h3, h4⟩

theorem finalA_spec {H0 H : Heap} {b i b' i' : Nat} {c : Cel} (h : finalA H0 H b i = some (b', i', c)) : b' = b ∧ i' = i ∧ (∃ blk0 : Blk, H0[b]? = some (some blk0) ∧ i < blk0.length) ∧ ∃ blk : Blk, H[b]? = some (some blk) ∧ blk[i]? = some (some c) := by
  unfold finalA at h
  split at h
  · rename_i blk0 blk h0 h1
    split at h
    · rename_i hl
      split at h
      · rename_i c' hc
        cases h
        exact ⟨rfl, rfl, ⟨blk0, h0, hl⟩, blk, h1, hc⟩
      · cases h
    · cases h
  · cases h

theorem retA_rel {ρ : PMap} {rs : List (Bool × List Cel)} {us : List Value} (h : All2 (PRel ρ) rs us) : VRel ρ (retA rs) (if hh : us.toArray.size = 1 then us.toArray[0] else .tuple us.toArray) := by
  have tup : ∀ (rs : List (Bool × List Cel)) (us : List Value), All2 (PRel ρ) rs us → us.length ≠ 1 → VRel ρ (.tup rs) (if hh : us.toArray.size = 1 then us.toArray[0] else .tuple us.toArray) := by
    intro rs us h hl
    rw [dif_neg (by simpa using hl)]
    exact ⟨us.toArray, rfl, by simpa using h⟩
  match rs, us, h with
  | [], [], h => exact tup [] [] h (by simp)
  | [(true, xs)], [u], h => exact h.1
  | [(false, [c])], [u], h => exact h.1
  | [(false, [])], [u], h => exact h.1.elim
  | [(false, _ :: _ :: _)], [u], h => exact h.1.elim
  | p :: q :: rs, u :: u' :: us, h =>
    have e : retA (p :: q :: rs) = .tup (p :: q :: rs) := by
      obtain ⟨b, l⟩ := p
      cases b
      · cases l with
        | nil => rfl
        | cons x l => cases l <;> rfl
      · rfl
    rw [e]
    exact tup _ _ h (by simp)

theorem runFn_ok (hm : P.follows .mixedOrders = true) (hora : OraOK P ora.plain) {f : FuncId} {fn : Func} {c : Code} {fuel : Nat} {args : List AV} {H : Heap} {v : AV} {e : Eff} {ob : Ob}
    (hf : P.funcs[f]? = some fn) (hb : fn.body = some c) (hcall : ∀ us w, (callFunc f us).run P w = .ok (.enter f us) w) (hfl : flowAll c = true)
    (h : runFn P ora hs fuel fn c args H = some (v, e, ob)) (hk : Ob.ok ob) : CallOK P f args H v e := by
  unfold runFn at h
  cases hc : codeH P ora hs H.length fuel c ⟨frameT args fn.ntmps, H, [], []⟩ with
  | none => rw [hc] at h; cases h
  | some p =>
    obtain ⟨x, st⟩ := p
    rw [hc] at h
    have hx : x = .normal ∨ x = .ret := by cases x <;> first | exact .inl rfl | exact .inr rfl | cases h
    have h' : (match allSome (fn.results.toList.map (resA P st.H st.ts)), finalsA H st.H st.log with
      | some rs, some ws =>
        if (retA rs).below H.length && ws.all (fun p => p.2.2.below H.length) then some (retA rs, ({ writes := ws } : Eff), st.ob)
        else some (retA rs, { writes := ws, news := st.H.drop H.length }, st.ob)
      | _, _ => none) = some (v, e, ob) := by
      rcases hx with rfl | rfl <;> exact h
    clear h
    cases hr : allSome (fn.results.toList.map (resA P st.H st.ts)) with
    | none => rw [hr] at h'; cases h'
    | some rs =>
      cases hw : finalsA H st.H st.log with
      | none => rw [hr, hw] at h'; cases h'
      | some ws =>
        rw [hr, hw] at h'
        simp only at h'
        obtain ⟨hmem1, hmem2⟩ := allSome_mem hw
        have hwf : ∀ b i c, (b, i, c) ∈ ws → (∃ blk0 : Blk, H[b]? = some (some blk0) ∧ i < blk0.length) ∧ ∃ blk : Blk, st.H[b]? = some (some blk) ∧ blk[i]? = some (some c) := by
          intro b i c hm'
          obtain ⟨p, _, hp⟩ := hmem2 _ hm'
          obtain ⟨rfl, rfl, h1, h2⟩ := finalA_spec hp
          exact ⟨h1, h2⟩
        have hlog : ∀ b i, (b, i) ∈ st.log → ∃ c, (b, i, c) ∈ ws := by
          intro b i hm'
          obtain ⟨y, hy, hyw⟩ := hmem1 (b, i) (by rw [List.mem_eraseDups]; exact hm')
          obtain ⟨b', i', c⟩ := y
          obtain ⟨rfl, rfl, _, _⟩ := finalA_spec hy
          exact ⟨c, hyw⟩
        have hwr : e.writes = ws := by split at h' <;> (cases h'; rfl)
        refine ⟨fun b i c hm' => (hwf b i c (hwr ▸ hm')).1, fun ρ w us hargs hH hd => ?_⟩
        rw [hcall]
        show Calls P f us w _
        refine calls_of_wp hf hb ?_
        have hkst : Ob.ok st.ob := by split at h' <;> (cases h'; exact hk)
        have s0 : SRel H.length ρ w ρ (args ++ List.replicate (fn.ntmps - args.length) undefA) H [] { tmps := us ++ Array.replicate (fn.ntmps - us.size) Go.undef, defers := [] } w := {
          fr := by
            have hl := hargs.length
            simp only [Array.length_toList] at hl
            rw [Array.toList_append, Array.toList_replicate, ← hl]
            exact hargs.append (All2.replicate (undef_rel ρ) _)
          df := rfl
          hp := hH
          dom := hd
          ext := PMap.le.refl ρ
          loc := fun b B o h => .inl h
          grow := Nat.le_refl _
          dom0 := hd
          os := rfl
          tape := rfl
          output := rfl
          size := Nat.le_refl _
          old := fun k _ => SameBut.refl _ _ _ }
        refine (codeH_wp hm hora fuel c hc hkst hfl).2 ⟨_, frameT_is args fn.ntmps, s0⟩ fun ρ' a' w' sT => ?_
        obtain ⟨ts', hi, s'⟩ := sT
        have hpost : a'.defers = [] ∧ ∃ u, (results fn a'.tmps).run P w' = .ok u w' ∧ ∃ u', (Ending.returned u) = .returned u' ∧ Post ρ H.length v e w u' w' := by
          refine ⟨s'.df, ?_⟩
          obtain ⟨vs, hvs, hvr⟩ := resAll_ok hi s'.fr s'.hp _ hr
          refine ⟨(if hh : vs.toArray.size = 1 then vs.toArray[0] else .tuple vs.toArray), ?_, _, rfl, ?_⟩
          · unfold results
            rw [Sem.run_bind, Array.mapM_eq_mapM_toList, Sem.run_map]
            exact congrArg (fun r : Result (List Value) => (r.andThen fun a w' => Result.ok a.toArray w').andThen fun a w' => Sem.run P (pure (if h : a.size = 1 then a[0] else Value.tuple a)) w') hvs
          · have hrel := retA_rel hvr
            have hρlt : ∀ b x, ρ b = some x → b < H.length := fun b x hx => by
              rcases Nat.lt_or_ge b H.length with h | h
              · exact h
              · rw [hd b h] at hx; cases hx
            have hold : ∀ k, k < w.heap.size → SameBut w w' k fun j => ∃ b i c o, (b, i, c) ∈ ws ∧ ρ b = some (k, o) ∧ j = o + i := fun k hk' => (s'.old k hk').mono fun j ⟨b, i, o, h1, h2, h3⟩ => by
              obtain ⟨c, hc'⟩ := hlog b i h1
              exact ⟨b, i, c, o, hc', h2, h3⟩
            have hwr' : ∀ b i c, (b, i, c) ∈ ws → ∃ B o u, ρ b = some (B, o) ∧ w'.cell? ⟨B, o + i, none⟩ = some u ∧ CRel ρ' c u := by
              intro b i c hm'
              obtain ⟨⟨blk0, h0, _⟩, blk, h1, h2⟩ := hwf b i c hm'
              obtain ⟨B0, o0, hr0, _, _⟩ := hH.blk b blk0 h0
              obtain ⟨B, o, hr1, _, hrel1⟩ := s'.hp.blk b blk h1
              have := s'.ext b _ hr0
              rw [hr1] at this
              cases this
              obtain ⟨_, u, hu, hcu⟩ := hrel1 i (List.getElem?_eq_some_iff.1 h2).1
              exact ⟨B0, o0, u, hr0, hu, hcu c h2⟩
            have hnone : ∀ b B o, ρ b = none → ρ' b = some (B, o) → w.heap.size ≤ B ∧ H.length ≤ b := by
              intro b B o h1 h2
              rcases s'.loc b B o h2 with h | ⟨_, h3, h4⟩
              · rw [h1] at h; cases h
              · exact ⟨h3, h4⟩
            split at h'
            · rename_i hbel
              cases h'
              simp only [Bool.and_eq_true, List.all_eq_true] at hbel
              refine ⟨cutP ρ' H.length, hrel.cut hbel.1, {
                ext := fun b x hx => by
                  have hlt := hρlt b x hx
                  unfold cutP
                  rw [if_pos hlt]
                  exact s'.ext b x hx
                new := fun b B o h1 h2 => by
                  unfold cutP at h2
                  split at h2
                  · rename_i hlt
                    have := (hnone b B o h1 h2).2
                    omega
                  · cases h2
                os := s'.os
                tape := s'.tape
                output := s'.output
                size := s'.size
                old := hold
                wr := fun b i c hm' => by
                  obtain ⟨B, o, u, h1, h2, h3⟩ := hwr' b i c hm'
                  exact ⟨B, o, u, h1, h2, h3.cut (hbel.2 _ hm')⟩
                nw := fun k blk h => by simp at h
                nwi := fun k k' blk blk' B o o' h => by simp at h }⟩
            · cases h'
              refine ⟨ρ', hrel, {
                ext := s'.ext
                new := fun b B o h1 h2 => by
                  obtain ⟨h3, h4⟩ := hnone b B o h1 h2
                  refine ⟨h4, ?_, h3⟩
                  have : b < st.H.length := by
                    rcases Nat.lt_or_ge b st.H.length with h | h
                    · exact h
                    · rw [s'.dom b h] at h2; cases h2
                  have hg := s'.grow
                  simp only [List.length_drop]
                  omega
                os := s'.os
                tape := s'.tape
                output := s'.output
                size := s'.size
                old := hold
                wr := hwr'
                nw := fun k blk hb' => by
                  simp only [List.getElem?_drop] at hb'
                  obtain ⟨B, o, hr1, hB, hrel1⟩ := s'.hp.blk _ blk hb'
                  exact ⟨B, o, hr1, (hnone _ B o (hd _ (by omega)) hr1).1, hB, hrel1⟩
                nwi := fun k k' blk blk' B o o' h1 h2 h3 h4 => by
                  simp only [List.getElem?_drop] at h1 h2
                  have := s'.hp.inj _ _ blk blk' B o o' h1 h2 h3 h4
                  omega }⟩
        rcases hx with rfl | rfl
        · exact hpost
        · exact hpost

/-- A contract of values that name no block holds in every heap. -/
theorem CallOK.pure {f : FuncId} {args : List AV} {v : AV} (h : CallOK P f args [] v {}) (hb : ∀ a ∈ args, a.below 0 = true) (H : Heap) : CallOK P f args H v {} := by
  refine ⟨fun _ _ _ h => (by cases h), fun ρ w us hargs hH hd => ?_⟩
  have hargs' : All2 (VRel (cutP ρ 0)) args us.toList := by
    have gen : ∀ (as : List AV) (us : List Value), All2 (VRel ρ) as us → (∀ a ∈ as, a.below 0 = true) → All2 (VRel (cutP ρ 0)) as us := by
      intro as
      induction as with
      | nil => intro us h _; cases us <;> exact h
      | cons a as ih =>
        intro us h hb
        cases us with
        | nil => exact h.elim
        | cons u us => exact ⟨h.1.cut (hb a (List.mem_cons_self ..)), ih us h.2 fun x hx => hb x (List.mem_cons_of_mem _ hx)⟩
    exact gen args us.toList hargs hb
  have hH' : HeapRel (cutP ρ 0) [] w := ⟨fun b blk h => by simp at h, fun b b' blk blk' B o o' h => by simp at h⟩
  refine (h.2 (cutP ρ 0) w us hargs' hH' (cutP_dom ρ 0)).mono fun u w' ⟨ρ1, hv, he⟩ => ?_
  have h0 : ∀ b, cutP ρ 0 b = none := fun b => by unfold cutP; rw [if_neg (by omega)]
  have h1 : ∀ b, ρ1 b = none := fun b => by
    cases hr : ρ1 b with
    | none => rfl
    | some x => have := he.new b x.1 x.2 (h0 b) hr; simp only [List.length_nil] at this; omega
  refine ⟨ρ, hv.mono (fun b x hx => by rw [h1] at hx; cases hx), {
    ext := PMap.le.refl ρ
    new := fun b B o h1 h2 => by rw [h1] at h2; cases h2
    os := he.os
    tape := he.tape
    output := he.output
    size := he.size
    old := fun k hk => (he.old k hk).mono fun j ⟨b, i, c, o, hm, _, _⟩ => by cases hm
    wr := fun b i c hm => by cases hm
    nw := fun k blk h => by simp at h
    nwi := fun k k' blk blk' B o o' h => by simp at h }⟩
end Go.Ev
