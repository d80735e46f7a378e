/-
  An abstract evaluator of the model's code: a region that draws its order comes to the evaluator's end, whatever is drawn. Conditions: none; nothing here speaks of one program.
-/
import Derived.Test.YtdneelooepjdhaaEvZ
set_option linter.unusedSectionVars false
namespace Go.Ev

theorem setCel_dead {H : Heap} {b b1 i : Nat} {c : Option Cel} (h : H[b]? = some none) : (setCel H b1 i c)[b]? = some none := by
  rw [setCel_get, h]
  split <;> rfl
theorem setAll_dead : ∀ (ws : List (Nat × Nat × Cel)) {H : Heap} {b : Nat}, H[b]? = some none → (setAll H ws)[b]? = some none
  | [], _, _, h => h
  | (_, _, _) :: ws, _, _, h => setAll_dead ws (setCel_dead h)
theorem poison_dead : ∀ (l : Log) {H : Heap} {b : Nat}, H[b]? = some none → (poison H l)[b]? = some none
  | [], _, _, h => h
  | (_, _) :: l, _, _, h => poison_dead l (setCel_dead h)
theorem append_dead {H N : Heap} {b : Nat} (h : H[b]? = some none) : (H ++ N)[b]? = some none := by
  have : b < H.length := by
    rcases Nat.lt_or_ge b H.length with h' | h'
    · exact h'
    · rw [List.getElem?_eq_none h'] at h; cases h
  rw [List.getElem?_append_left this]
  exact h
theorem stepBy_dead {m : Mo} {H : Heap} {e : Eff} {b : Nat} (h : H[b]? = some none) : (stepBy m H e)[b]? = some none := by
  cases m
  · exact append_dead (setAll_dead _ h)
  · exact append_dead h
  · exact append_dead (poison_dead _ h)
theorem heapBy_dead {m : Nat → Mo} : ∀ (es : List Eff) (k : Nat) {H : Heap} {b : Nat}, H[b]? = some none → (heapBy m k es H)[b]? = some none
  | [], _, _, _, h => h
  | e :: es, k, H, b, h => by rw [heapBy_cons]; exact heapBy_dead es (k + 1) (stepBy_dead h)

/-- The new blocks of one that is not applied are out of view. -/
theorem heapBy_range {m : Nat → Mo} : ∀ (es : List Eff) (k : Nat) (H : Heap) (j : Nat) (e : Eff), es[j]? = some e → m (k + j) ≠ .ap → ∀ b, offOf H es j ≤ b → b < offOf H es j + e.news.length → (heapBy m k es H)[b]? = some none
  | [], _, _, j, _, h, _, _, _, _ => by simp at h
  | f :: es, k, H, 0, e, h, hm, b, h1, h2 => by
    simp only [List.getElem?_cons_zero, Option.some.injEq] at h
    subst h
    rw [heapBy_cons]
    refine heapBy_dead es (k + 1) ?_
    simp only [offOf, List.take_zero, newsLen, Nat.add_zero] at h1 h2 hm
    have hd : (deads f)[b - H.length]? = some none := by
      simp only [deads, List.getElem?_map]
      rw [List.getElem?_eq_getElem (by omega)]
      rfl
    cases hk : m k with
    | ap => exact absurd hk hm
    | sk => simp only [stepBy]; rw [List.getElem?_append_right h1]; exact hd
    | po => simp only [stepBy, hideEff]; rw [List.getElem?_append_right (by rw [length_poison]; exact h1), length_poison]; exact hd
  | f :: es, k, H, j + 1, e, h, hm, b, h1, h2 => by
    simp only [List.getElem?_cons_succ] at h
    rw [heapBy_cons]
    have hoff : offOf (stepBy (m k) H f) es j = offOf H (f :: es) (j + 1) := by
      simp only [offOf, List.take_succ_cons, newsLen, length_stepBy]
      omega
    exact heapBy_range es (k + 1) _ j e h (by rw [show k + 1 + j = k + (j + 1) by omega]; exact hm) b (by rw [hoff]; exact h1) (by rw [hoff]; exact h2)

theorem poison_unk : ∀ (l : Log) (H : Heap) (b i : Nat), ((b, i) ∈ l ∨ Unk H b i) → Unk (poison H l) b i
  | [], H, b, i, h => by
    rcases h with h | h
    · cases h
    · exact h
  | (b1, i1) :: l, H, b, i, h => by
    simp only [poison]
    refine poison_unk l _ b i ?_
    by_cases hbi : b = b1 ∧ i = i1
    · obtain ⟨rfl, rfl⟩ := hbi
      refine .inr fun blk c hb hc => ?_
      obtain ⟨k0, _, he⟩ := setCel_some hb
      simp only [if_true] at he
      subst he
      rcases set_known hc with ⟨_, hcd, _⟩ | ⟨h, _⟩
      · cases hcd
      · exact h rfl
    · rcases h with h | h
      · rcases List.mem_cons.1 h with h | h
        · simp only [Prod.mk.injEq] at h; exact absurd h hbi
        · exact .inl h
      · refine .inr fun blk c hb hc => ?_
        obtain ⟨k0, h0, he⟩ := setCel_some hb
        split at he
        · rename_i hbb
          subst he
          rcases set_known hc with ⟨h1, _, _⟩ | ⟨_, hk⟩
          · exact hbi ⟨hbb, h1.symm⟩
          · exact h k0 c h0 hk
        · subst he
          exact h _ c h0 hc

theorem known_spec {H : Heap} {b i : Nat} (h : known H b i = true) : ∃ (blk : Blk) (c : Cel), H[b]? = some (some blk) ∧ blk[i]? = some (some c) := by
  unfold known at h
  split at h
  · rename_i blk hb
    split at h
    · rename_i c hc
      exact ⟨blk, c, hb, hc⟩
    · cases h
  · cases h

section
variable {P : Program} [Plain P] {ora : Ora} {ops : List Oper} {W : List (Nat × Nat × Nat)} {ts0 : List AV} {H0 : Heap} {vs : List AV} {es : List Eff} {ρ0 : PMap} {w0 : World} {log : Log}

/-- What the run says of number j. -/
def RunOK (P : Program) [Plain P] (ora : Ora) (ops : List Oper) (W : List (Nat × Nat × Nat)) (ts0 : List AV) (H0 : Heap) (vs : List AV) (es : List Eff) : Prop :=
  vs.length = ops.length ∧ es.length = ops.length ∧
    ∀ (i : Nat) (o : Oper), ops[i]? = some o → ∃ v e, vs[i]? = some v ∧ es[i]? = some e ∧
      drawStep P ora ops (befs ops) W H0 i o (tsBy (fun j => decide (j < i)) 0 ops vs ts0) (es.take i) = some (v, e)

theorem drawStep_writes {k : Nat} {o : Oper} {ts : List AV} {acc : List Eff} {v : AV} {e : Eff} {B : List Nat} (h : drawStep P ora ops B W H0 k o ts acc = some (v, e)) :
    ∀ b i c, (b, i, c) ∈ e.writes → (k, b, i) ∈ W ∧ known (viewA B W H0 k acc) b i = true := by
  unfold drawStep at h
  split at h
  · split at h
    · rename_i v' e' _
      split at h
      · rename_i hall
        cases h
        intro b i c hm
        simp only [Bool.and_eq_true] at hall
        have := List.all_eq_true.1 hall.1 _ hm
        simp only [Bool.and_eq_true] at this
        exact ⟨by simpa using this.1, this.2⟩
      · cases h
    · cases h
  · cases h; intro b i c hm; cases hm
  · cases h

theorem drawStep_below {k : Nat} {o : Oper} {ts : List AV} {acc : List Eff} {v : AV} {e : Eff} {B : List Nat} (h : drawStep P ora ops B W H0 k o ts acc = some (v, e)) :
    v.below (H0.length + newsLen acc + e.news.length) = true ∧ e.below (H0.length + newsLen acc + e.news.length) = true := by
  unfold drawStep at h
  split at h
  · split at h
    · split at h
      · rename_i hall
        cases h
        simp only [Bool.and_eq_true] at hall
        exact hall.2
      · cases h
    · cases h
  · cases h; exact ⟨rfl, rfl⟩
  · cases h

theorem step_in_middle {listed : Array Bool} {j : Nat} {e : Eff} (hr : RunOK P ora ops W ts0 H0 vs es) (hsz : listed.size = ops.length)
    (hclo : ∀ k i, dOf listed k = true → ((befs ops).getD k 0).testBit i = true → dOf listed i = true) (hjl : j < ops.length) (hjD : dOf listed j = false) (he : es[j]? = some e)
    (hwf : ∀ b i c, (b, i, c) ∈ e.writes → b < offOf H0 es j) :
    StepTo (heapBy (mOf (dOf listed)) 0 es H0) (offOf H0 es j) e (heapBy (mOf (dOf (listed.setIfInBounds j true))) 0 es H0) := by
  obtain ⟨hv, hel, hrun⟩ := hr
  have hD' := dOf_set listed (j := j) (by omega)
  have hwr : ∀ (k : Nat) (f : Eff), es[k]? = some f → ∀ b i c, (b, i, c) ∈ f.writes → (k, b, i) ∈ W ∧ known (viewA (befs ops) W H0 k (es.take k)) b i = true := by
    intro k f hf b i c hm
    have hk : k < ops.length := by rw [← hel]; exact (List.getElem?_eq_some_iff.1 hf).1
    obtain ⟨v', e', _, h2, h3⟩ := hrun k ops[k] (List.getElem?_eq_getElem hk)
    rw [hf] at h2
    cases h2
    exact drawStep_writes h3 b i c hm
  have hsplit : es = es.take j ++ e :: es.drop (j + 1) := by
    have hlt : j < es.length := by omega
    rw [List.getElem?_eq_getElem hlt] at he
    cases he
    rw [← List.drop_eq_getElem_cons hlt, List.take_append_drop]
  have hlt : (es.take j).length = j := by simp; omega
  have hm1 : ∀ D : Nat → Bool, heapBy (mOf D) 0 es H0 = heapBy (mOf D) (j + 1) (es.drop (j + 1)) (stepBy (mOf D j) (heapBy (mOf D) 0 (es.take j) H0) e) := by
    intro D
    conv => lhs; rw [hsplit]
    rw [heapBy_append, hlt, Nat.zero_add, heapBy_cons]
  rw [hm1, hm1]
  have hpre : heapBy (mOf (dOf (listed.setIfInBounds j true))) 0 (es.take j) H0 = heapBy (mOf (dOf listed)) 0 (es.take j) H0 := by
    refine heapBy_congr _ _ _ fun i _ h2 => ?_
    rw [hD']
    unfold mOf
    simp only [hlt, Nat.zero_add] at h2
    have hij : ¬ i = j := by omega
    simp only [if_neg hij]
  have hsuf : ∀ H, heapBy (mOf (dOf (listed.setIfInBounds j true))) (j + 1) (es.drop (j + 1)) H = heapBy (mOf (dOf listed)) (j + 1) (es.drop (j + 1)) H := by
    intro H
    refine heapBy_congr _ _ _ fun i h1 _ => ?_
    rw [hD']
    unfold mOf
    have hij : ¬ i = j := by omega
    simp only [if_neg hij]
  have hmj : mOf (dOf listed) j = .sk := by unfold mOf; rw [if_neg (by rw [hjD]; simp)]
  have hmj' : mOf (dOf (listed.setIfInBounds j true)) j = .ap := by rw [hD']; simp [mOf]
  rw [hpre, hsuf, hmj, hmj']
  have hlen : (heapBy (mOf (dOf listed)) 0 (es.take j) H0).length = offOf H0 es j := by rw [length_heapBy]; rfl
  have hbase := StepTo.base (heapBy (mOf (dOf listed)) 0 (es.take j) H0) e
  rw [hlen] at hbase
  refine StepTo.heapBy _ _ hbase ?_ ?_ ?_ (fun i _ _ => by unfold mOf; split <;> simp) ?_
  · rw [length_stepBy, length_stepBy]
  · rw [length_stepBy, hlen]; exact Nat.le_refl _
  · intro b i c hm
    have := hwf b i c hm
    rw [length_stepBy, hlen]
    omega
  · intro i f hf hap b jj c hm
    have hf' : es[j + 1 + i]? = some f := by rw [← hf, List.getElem?_drop]
    have hD : dOf listed (j + 1 + i) = true := by
      unfold mOf at hap
      split at hap
      · rename_i h; exact h
      · cases hap
    obtain ⟨hW, hk⟩ := hwr _ _ hf' b jj c hm
    obtain ⟨blk, c0, hb, hc0⟩ := known_spec hk
    have h3 : ((befs ops).getD (j + 1 + i) 0).testBit j = false := by
      cases h : ((befs ops).getD (j + 1 + i) 0).testBit j with
      | false => rfl
      | true => have := hclo _ _ hD h; rw [hjD] at this; cases this
    have h2 : ((befs ops).getD j 0).testBit (j + 1 + i) = false := by
      cases h : ((befs ops).getD j 0).testBit (j + 1 + i) with
      | false => rfl
      | true => have := befs_lt _ _ h; omega
    constructor
    · intro c' hm'
      obtain ⟨hW', _⟩ := hwr _ _ he b jj c' hm'
      have hu : Unk (viewA (befs ops) W H0 (j + 1 + i) (es.take (j + 1 + i))) b jj := by
        unfold viewA
        refine poison_unk _ _ _ _ (.inl ?_)
        unfold others
        rw [List.mem_filterMap]
        refine ⟨(j, b, jj), hW', ?_⟩
        have h1 : j ≠ j + 1 + i := by omega
        simp only [ne_eq, h1, not_false_eq_true, h3, h2, and_self, if_true]
      exact hu blk c0 hb hc0
    · rintro ⟨hb1, hb2⟩
      have hd : (viewA (befs ops) W H0 (j + 1 + i) (es.take (j + 1 + i)))[b]? = some none := by
        unfold viewA
        refine poison_dead _ ?_
        have hej : (es.take (j + 1 + i))[j]? = some e := by rw [List.getElem?_take_of_lt (by omega)]; exact he
        have hoff : offOf H0 (es.take (j + 1 + i)) j = offOf H0 es j := by
          unfold offOf
          rw [List.take_take, Nat.min_eq_left (by omega)]
        exact heapBy_range _ 0 H0 j e hej (by rw [Nat.zero_add, h3]; simp) b (by rw [hoff]; exact hb1) (by rw [hoff]; exact hb2)
      rw [hd] at hb
      cases hb
end
end Go.Ev
