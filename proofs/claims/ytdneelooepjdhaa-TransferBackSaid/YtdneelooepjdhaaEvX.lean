/-
  An abstract evaluator of the model's code: regions that draw their order: plain facts on lists and heaps. Conditions: none; nothing here speaks of one program.
-/
import Derived.Test.YtdneelooepjdhaaEvR
set_option linter.unusedSectionVars false
namespace Go.Ev

/-! ### Heaps by mode -/
inductive Mo where
  | ap | sk | po
  deriving DecidableEq

def deads (e : Eff) : Heap := e.news.map fun _ => none
def poison (H : Heap) : Log → Heap
  | [] => H
  | (b, i) :: l => poison (setCel H b i none) l
def hideEff (H : Heap) (e : Eff) : Heap := poison H (elog e) ++ deads e

def heapBy (m : Nat → Mo) : Nat → List Eff → Heap → Heap
  | _, [], H => H
  | k, e :: es, H => heapBy m (k + 1) es (match m k with | .ap => applyEff H e | .sk => H ++ deads e | .po => hideEff H e)

theorem length_poison : ∀ (l : Log) (H : Heap), (poison H l).length = H.length
  | [], _ => rfl
  | (b, i) :: l, H => by simp only [poison]; rw [length_poison l, length_setCel]

def stepBy (m : Mo) (H : Heap) (e : Eff) : Heap := match m with | .ap => applyEff H e | .sk => H ++ deads e | .po => hideEff H e
theorem length_stepBy (m : Mo) (H : Heap) (e : Eff) : (stepBy m H e).length = H.length + e.news.length := by
  cases m
  · exact length_applyEff H e
  · simp [stepBy, deads]
  · simp [stepBy, hideEff, deads, length_poison]
theorem heapBy_cons (m : Nat → Mo) (k : Nat) (e : Eff) (es : List Eff) (H : Heap) : heapBy m k (e :: es) H = heapBy m (k + 1) es (stepBy (m k) H e) := rfl

def newsLen : List Eff → Nat
  | [] => 0
  | e :: es => e.news.length + newsLen es

theorem length_heapBy (m : Nat → Mo) : ∀ (es : List Eff) (k : Nat) (H : Heap), (heapBy m k es H).length = H.length + newsLen es
  | [], _, _ => rfl
  | e :: es, k, H => by rw [heapBy_cons, length_heapBy m es, length_stepBy]; simp only [newsLen]; omega

theorem heapBy_append (m : Nat → Mo) : ∀ (es fs : List Eff) (k : Nat) (H : Heap), heapBy m k (es ++ fs) H = heapBy m (k + es.length) fs (heapBy m k es H)
  | [], fs, k, H => rfl
  | e :: es, fs, k, H => by
    rw [List.cons_append, heapBy_cons, heapBy_cons, heapBy_append m es fs]
    congr 1
    simp only [List.length_cons]; omega

theorem heapBy_congr {m m' : Nat → Mo} : ∀ (es : List Eff) (k : Nat) (H : Heap), (∀ i, k ≤ i → i < k + es.length → m i = m' i) → heapBy m k es H = heapBy m' k es H
  | [], _, _, _ => rfl
  | e :: es, k, H, h => by
    rw [heapBy_cons, heapBy_cons, h k (Nat.le_refl _) (by simp), heapBy_congr es (k + 1) _ fun i h1 h2 => h i (by omega) (by simp; omega)]

/-! ### Less known, and steps -/
theorem setCelB_get {blk blk' : Blk} {i : Nat} {c : Option Cel} (h : setCelB (some blk) i c = some blk') : blk' = blk.set i c := by
  simp only [setCelB, Option.map_some, Option.some.injEq] at h
  exact h.symm

theorem setCel_some {H : Heap} {b i b' : Nat} {c : Option Cel} {blk : Blk} (h : (setCel H b i c)[b']? = some (some blk)) : ∃ blk0 : Blk, H[b']? = some (some blk0) ∧ blk = if b' = b then blk0.set i c else blk0 := by
  rw [setCel_get] at h
  by_cases hb : b' = b
  · simp only [hb, if_true] at h ⊢
    cases hH : H[b]? with
    | none => rw [hH] at h; cases h
    | some x =>
      rw [hH] at h
      cases x with
      | none => cases h
      | some l => exact ⟨l, rfl, setCelB_get (by simpa using h)⟩
  · simp only [hb, if_false] at h ⊢
    exact ⟨blk, h, rfl⟩

theorem setCel_of {H : Heap} {b i b' : Nat} {c : Option Cel} {blk : Blk} (h : H[b']? = some (some blk)) : (setCel H b i c)[b']? = some (some (if b' = b then blk.set i c else blk)) := by
  rw [setCel_get, h]
  by_cases hb : b' = b
  · simp [hb, setCelB]
  · simp [hb]

theorem set_known {blk : Blk} {i j : Nat} {c : Option Cel} {d : Cel} (h : (blk.set i c)[j]? = some (some d)) : (i = j ∧ c = some d ∧ i < blk.length) ∨ (i ≠ j ∧ blk[j]? = some (some d)) := by
  rw [List.getElem?_set] at h
  by_cases hij : i = j
  · simp only [hij, if_true] at h
    split at h
    · rename_i hl
      simp only [Option.some.injEq] at h
      exact .inl ⟨hij, h, hij ▸ hl⟩
    · cases h
  · simp only [hij, if_false] at h
    exact .inr ⟨hij, h⟩

/-- One cell: less known stays less known. -/
theorem HLe.setCel {H1 H2 : Heap} (h : HLe H1 H2) (b i : Nat) (c : Option Cel) (c2 : Option Cel) (hc : c = none ∨ c = c2) : HLe (setCel H1 b i c) (setCel H2 b i c2) := by
  intro b' blk hb
  obtain ⟨k0, h0, he⟩ := setCel_some hb
  obtain ⟨k2, h2, l2, q2⟩ := h b' k0 h0
  refine ⟨_, setCel_of h2, ?_, ?_⟩
  · rw [he]; split <;> simp [l2]
  · intro j d hd
    rw [he] at hd
    split at hd
    · rename_i hbb
      simp only [hbb, if_true]
      rcases set_known hd with ⟨rfl, hcd, hl⟩ | ⟨hij, hk⟩
      · rcases hc with hc | hc
        · rw [hc] at hcd; cases hcd
        · rw [List.getElem?_set]
          simp only [if_true]
          rw [if_pos (by omega), ← hc, hcd]
      · rw [List.getElem?_set_ne hij]
        exact q2 j d hk
    · rename_i hbb
      simp only [hbb, if_false]
      exact q2 j d hd

theorem HLe.setCel_left {H1 H2 : Heap} (h : HLe H1 H2) (b i : Nat) : HLe (Ev.setCel H1 b i none) H2 := by
  intro b' blk hb
  obtain ⟨k0, h0, he⟩ := setCel_some hb
  obtain ⟨k2, h2, l2, q2⟩ := h b' k0 h0
  refine ⟨k2, h2, by rw [he]; split <;> simp [l2], fun j d hd => ?_⟩
  rw [he] at hd
  split at hd
  · rcases set_known hd with ⟨_, hcd, _⟩ | ⟨_, hk⟩
    · cases hcd
    · exact q2 j d hk
  · exact q2 j d hd

/-- Not known: cell (b, i). -/
def Unk (H : Heap) (b i : Nat) : Prop := ∀ (blk : Blk) (c : Cel), H[b]? = some (some blk) → blk[i]? ≠ some (some c)

theorem HLe.setCel_right {H1 H2 : Heap} (h : HLe H1 H2) {b i : Nat} (hu : Unk H1 b i) (c : Option Cel) : HLe H1 (Ev.setCel H2 b i c) := by
  intro b' blk hb
  obtain ⟨k2, h2, l2, q2⟩ := h b' blk hb
  refine ⟨_, setCel_of h2, by split <;> simp [l2], fun j d hd => ?_⟩
  split
  · rename_i hbb
    subst hbb
    have hij : i ≠ j := fun e => hu blk d hb (e ▸ hd)
    rw [List.getElem?_set_ne hij]
    exact q2 j d hd
  · exact q2 j d hd

theorem HLe.poison_left : ∀ (l : Log) {H1 H2 : Heap}, HLe H1 H2 → HLe (poison H1 l) H2
  | [], _, _, h => h
  | (b, i) :: l, _, _, h => HLe.poison_left l (h.setCel_left b i)

theorem HLe.poison_setAll : ∀ (ws : List (Nat × Nat × Cel)) {H1 H2 : Heap}, HLe H1 H2 → HLe (poison H1 (ws.map fun p => (p.1, p.2.1))) (setAll H2 ws)
  | [], _, _, h => h
  | (b, i, c) :: ws, _, _, h => HLe.poison_setAll ws (h.setCel b i none (some c) (.inl rfl))

theorem HLe.setAll : ∀ (ws : List (Nat × Nat × Cel)) {H1 H2 : Heap}, HLe H1 H2 → HLe (setAll H1 ws) (Ev.setAll H2 ws)
  | [], _, _, h => h
  | (b, i, c) :: ws, _, _, h => HLe.setAll ws (h.setCel b i (some c) (some c) (.inr rfl))

theorem HLe.setAll_right : ∀ (ws : List (Nat × Nat × Cel)) {H1 H2 : Heap}, HLe H1 H2 → (∀ b i c, (b, i, c) ∈ ws → Unk H1 b i) → HLe H1 (Ev.setAll H2 ws)
  | [], _, _, h, _ => h
  | (b, i, c) :: ws, _, _, h, hu => HLe.setAll_right ws (h.setCel_right (hu b i c (List.mem_cons_self ..)) (some c)) fun b i c hm => hu b i c (List.mem_cons_of_mem _ hm)

theorem HLe.append {H1 H2 N1 N2 : Heap} (h : HLe H1 H2) (hl : H1.length = H2.length) (hn : ∀ (k : Nat) (blk : Blk), N1[k]? = some (some blk) → N2[k]? = some (some blk)) : HLe (H1 ++ N1) (H2 ++ N2) := by
  intro b blk hb
  rcases Nat.lt_or_ge b H1.length with hlt | hge
  · rw [List.getElem?_append_left hlt] at hb
    obtain ⟨k2, h2, l2, q2⟩ := h b blk hb
    exact ⟨k2, by rw [List.getElem?_append_left (by omega)]; exact h2, l2, q2⟩
  · rw [List.getElem?_append_right hge] at hb
    exact ⟨blk, by rw [List.getElem?_append_right (by omega), ← hl]; exact hn _ _ hb, rfl, fun _ _ h => h⟩

theorem HLe.append_right {H1 H2 : Heap} (h : HLe H1 H2) (N : Heap) : HLe H1 (H2 ++ N) := by
  intro b blk hb
  obtain ⟨k2, h2, l2, q2⟩ := h b blk hb
  have hlt : b < H2.length := by
    rcases Nat.lt_or_ge b H2.length with h' | h'
    · exact h'
    · rw [List.getElem?_eq_none h'] at h2; cases h2
  exact ⟨k2, by rw [List.getElem?_append_left hlt]; exact h2, l2, q2⟩

theorem deads_get {e : Eff} {k : Nat} {blk : Blk} (h : (deads e)[k]? = some (some blk)) : False := by
  simp only [deads, List.getElem?_map] at h
  cases hn : e.news[k]? with
  | none => rw [hn] at h; cases h
  | some x => rw [hn] at h; cases h

/-- One step: view and whole heap. -/
theorem HLe.stepBy {H1 H2 : Heap} (h : HLe H1 H2) (hl : H1.length = H2.length) (e : Eff) {m1 m2 : Mo} (hm : (m1 = .ap ∧ m2 = .ap) ∨ (m1 = .po ∧ m2 ≠ .po)) : HLe (stepBy m1 H1 e) (stepBy m2 H2 e) := by
  rcases hm with ⟨rfl, rfl⟩ | ⟨rfl, hm⟩
  · exact (HLe.setAll e.writes h).append (by rw [length_setAll, length_setAll, hl]) fun _ _ hk => hk
  · cases m2 with
    | ap => exact (HLe.poison_setAll e.writes h).append (by rw [length_poison, length_setAll, hl]) fun _ _ hk => (deads_get hk).elim
    | sk => exact (HLe.poison_left _ h).append (by rw [length_poison, hl]) fun _ _ hk => (deads_get hk).elim
    | po => exact absurd rfl hm

theorem HLe.heapBy {m1 m2 : Nat → Mo} : ∀ (es : List Eff) (k : Nat) {H1 H2 : Heap}, HLe H1 H2 → H1.length = H2.length → (∀ i, k ≤ i → i < k + es.length → (m1 i = .ap ∧ m2 i = .ap) ∨ (m1 i = .po ∧ m2 i ≠ .po)) → HLe (heapBy m1 k es H1) (heapBy m2 k es H2)
  | [], _, _, _, h, _, _ => h
  | e :: es, k, H1, H2, h, hl, hm => by
    rw [heapBy_cons, heapBy_cons]
    exact HLe.heapBy es (k + 1) (h.stepBy hl e (hm k (Nat.le_refl _) (by simp))) (by rw [length_stepBy, length_stepBy, hl]) fun i h1 h2 => hm i (by omega) (by simp; omega)

/-- The rest of the region does not touch what is known in H1. -/
theorem HLe.heapBy_right {m : Nat → Mo} : ∀ (es : List Eff) (k : Nat) {H1 H2 : Heap}, HLe H1 H2 → (∀ i, k ≤ i → i < k + es.length → m i ≠ .po) →
    (∀ (i : Nat) (e : Eff), es[i]? = some e → m (k + i) = .ap → ∀ b j c, (b, j, c) ∈ e.writes → Unk H1 b j) → HLe H1 (Ev.heapBy m k es H2)
  | [], _, _, _, h, _, _ => h
  | e :: es, k, H1, H2, h, hm, hu => by
    rw [heapBy_cons]
    refine HLe.heapBy_right es (k + 1) ?_ (fun i h1 h2 => hm i (by omega) (by simp; omega)) fun i e' he hap => hu (i + 1) e' (by simpa using he) (by rw [show k + (i + 1) = k + 1 + i by omega]; exact hap)
    cases hk : m k with
    | ap => exact (HLe.setAll_right e.writes h fun b j c hm' => hu 0 e (by simp) (by simpa using hk) b j c hm').append_right _
    | sk => exact h.append_right _
    | po => exact absurd hk (hm k (Nat.le_refl _) (by simp))

/-! ### A step in the middle -/
theorem StepTo.base (H : Heap) (e : Eff) : StepTo (H ++ deads e) H.length e (applyEff H e) := by
  intro b blk hb
  rcases StepTo.apply H e b blk hb with h | ⟨h1, blk0, h2, h3⟩
  · exact .inl h
  · refine .inr ⟨h1, blk0, ?_, h3⟩
    have : b < H.length := by
      rcases Nat.lt_or_ge b H.length with h' | h'
      · exact h'
      · rw [List.getElem?_eq_none h'] at h2; cases h2
    rw [List.getElem?_append_left this]
    exact h2

theorem StepTo.append {H H'' : Heap} {n : Nat} {e : Eff} (h : StepTo H n e H'') (hl : H.length = H''.length) (hn : n + e.news.length ≤ H.length) (hw : ∀ b i c, (b, i, c) ∈ e.writes → b < H.length) (N : Heap) : StepTo (H ++ N) n e (H'' ++ N) := by
  intro b blk hb
  rcases Nat.lt_or_ge b H.length with hlt | hge
  · rw [List.getElem?_append_left (by omega)] at hb
    rcases h b blk hb with h1 | ⟨h1, blk0, h2, h3⟩
    · exact .inl h1
    · exact .inr ⟨h1, blk0, by rw [List.getElem?_append_left hlt]; exact h2, h3⟩
  · rw [List.getElem?_append_right (by omega)] at hb
    exact .inr ⟨by omega, blk, by rw [List.getElem?_append_right hge, hl]; exact hb, rfl, fun i c hc => .inl ⟨hc, fun c' hm => by
      have := hw _ _ _ hm
      omega⟩⟩

theorem StepTo.setCel {H H'' : Heap} {n : Nat} {e : Eff} (h : StepTo H n e H'') {b1 i1 : Nat} (c1 : Cel) (hw : ∀ c, (b1, i1, c) ∉ e.writes) (hb1 : ¬ (n ≤ b1 ∧ b1 < n + e.news.length)) :
    StepTo (Ev.setCel H b1 i1 (some c1)) n e (Ev.setCel H'' b1 i1 (some c1)) := by
  intro b blk hb
  obtain ⟨k0, h0, he⟩ := setCel_some hb
  rcases h b k0 h0 with ⟨h1, h2, h3⟩ | ⟨h1, blk0, h2, h3, h4⟩
  · have hbb : b ≠ b1 := fun hbb => hb1 (hbb ▸ ⟨h1, h2⟩)
    rw [if_neg hbb] at he
    subst he
    exact .inl ⟨h1, h2, h3⟩
  · refine .inr ⟨h1, _, setCel_of h2, by rw [he]; split <;> simp [h3], fun i c hc => ?_⟩
    rw [he] at hc
    by_cases hbb : b = b1
    · subst hbb
      simp only [if_true] at hc ⊢
      rcases set_known hc with ⟨rfl, hcd, hlt⟩ | ⟨hij, hk⟩
      · refine .inl ⟨?_, hw⟩
        rw [List.getElem?_set]
        simp only [if_true]
        rw [if_pos (by omega), hcd]
      · rw [List.getElem?_set_ne hij]
        exact h4 i c hk
    · simp only [if_neg hbb] at hc ⊢
      exact h4 i c hc

theorem StepTo.setAll {n : Nat} {e : Eff} : ∀ (ws : List (Nat × Nat × Cel)) {H H'' : Heap}, StepTo H n e H'' → (∀ b i c, (b, i, c) ∈ ws → (∀ c', (b, i, c') ∉ e.writes) ∧ ¬ (n ≤ b ∧ b < n + e.news.length)) →
    StepTo (Ev.setAll H ws) n e (Ev.setAll H'' ws)
  | [], _, _, h, _ => h
  | (b, i, c) :: ws, _, _, h, hw => StepTo.setAll ws (h.setCel c (hw b i c (List.mem_cons_self ..)).1 (hw b i c (List.mem_cons_self ..)).2) fun b i c hm => hw b i c (List.mem_cons_of_mem _ hm)

theorem StepTo.heapBy {m : Nat → Mo} {n : Nat} {e : Eff} : ∀ (es : List Eff) (k : Nat) {H H'' : Heap}, StepTo H n e H'' → H.length = H''.length → n + e.news.length ≤ H.length → (∀ b i c, (b, i, c) ∈ e.writes → b < H.length) →
    (∀ i, k ≤ i → i < k + es.length → m i ≠ .po) →
    (∀ (i : Nat) (f : Eff), es[i]? = some f → m (k + i) = .ap → ∀ b j c, (b, j, c) ∈ f.writes → (∀ c', (b, j, c') ∉ e.writes) ∧ ¬ (n ≤ b ∧ b < n + e.news.length)) →
    StepTo (Ev.heapBy m k es H) n e (Ev.heapBy m k es H'')
  | [], _, _, _, h, _, _, _, _, _ => h
  | f :: es, k, H, H'', h, hl, hn, hw, hm, hu => by
    rw [heapBy_cons, heapBy_cons]
    refine StepTo.heapBy es (k + 1) ?_ (by rw [length_stepBy, length_stepBy, hl]) (by rw [length_stepBy]; omega) (fun b i c hm' => by rw [length_stepBy]; have := hw b i c hm'; omega)
      (fun i h1 h2 => hm i (by omega) (by simp; omega)) fun i f' hf hap => hu (i + 1) f' (by simpa using hf) (by rw [show k + (i + 1) = k + 1 + i by omega]; exact hap)
    cases hk : m k with
    | ap =>
      have h1 := StepTo.setAll f.writes h fun b j c hm' => hu 0 f (by simp) (by simpa using hk) b j c hm'
      exact h1.append (by rw [length_setAll, length_setAll, hl]) (by rw [length_setAll]; exact hn) (fun b i c hm' => by rw [length_setAll]; exact hw b i c hm') f.news
    | sk => exact h.append hl hn hw (deads f)
    | po => exact absurd hk (hm k (Nat.le_refl _) (by simp))
end Go.Ev
