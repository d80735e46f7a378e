/-
  An abstract evaluator of the model's code: what is known of more operands yields no other answer. Conditions: none; nothing here speaks of one program.
-/
import Derived.Test.YtdneelooepjdhaaEvD
namespace Go.Ev
variable {P : Program} [Plain P] {ora : Ora} {E E' : Operand → Option AV} {H : Heap}

theorem listE_mono : ∀ {xs : List Operand} {vs : List AV}, listE E xs = some vs → (∀ x ∈ xs, ∀ a, E x = some a → E' x = some a) → listE E' xs = some vs
  | [], vs, h, _ => h
  | x :: xs, vs, h, hE => by
    unfold listE at h ⊢
    simp only [List.map_cons] at h ⊢
    cases hx : E x with
    | none => rw [hx] at h; cases h
    | some a =>
      rw [hx] at h
      rw [hE x (List.mem_cons_self ..) a hx]
      simp only [allSome] at h ⊢
      cases hs : allSome (xs.map E) with
      | none => rw [hs] at h; cases h
      | some r =>
        have := listE_mono (xs := xs) (vs := r) hs fun y hy => hE y (List.mem_cons_of_mem _ hy)
        unfold listE at this
        rw [hs] at h
        rw [this]
        exact h

theorem partsE_mono : ∀ {ps : List (Nat × Operand)} {vs : List (Nat × AV)}, partsE E ps = some vs → (∀ p ∈ ps, ∀ a, E p.2 = some a → E' p.2 = some a) → partsE E' ps = some vs
  | [], vs, h, _ => h
  | (i, x) :: ps, vs, h, hE => by
    simp only [partsE] at h ⊢
    cases hx : E x with
    | none => rw [hx] at h; cases h
    | some a =>
      cases hs : partsE E ps with
      | none => rw [hx, hs] at h; cases h
      | some r =>
        rw [hx, hs] at h
        rw [hE (i, x) (List.mem_cons_self ..) a hx, partsE_mono hs fun y hy => hE y (List.mem_cons_of_mem _ hy)]
        exact h

theorem mono1 {α : Type} {x : Operand} {f : Option AV → Option α} {r : α} (hn : f none = none) (hE : ∀ a, E x = some a → E' x = some a) (h : f (E x) = some r) : f (E' x) = some r := by
  cases hx : E x with
  | none => rw [hx, hn] at h; cases h
  | some a => rw [hE a hx, ← hx]; exact h

theorem mono2 {α : Type} {x y : Operand} {f : Option AV → Option AV → Option α} {r : α} (hn : ∀ b, f none b = none) (hn' : ∀ a, f (some a) none = none) (hx : ∀ a, E x = some a → E' x = some a) (hy : ∀ a, E y = some a → E' y = some a)
    (h : f (E x) (E y) = some r) : f (E' x) (E' y) = some r :=
  mono1 (f := fun a => f a (E' y)) (hn _) hx (by
    cases h1 : E x with
    | none => rw [h1, hn] at h; cases h
    | some a => rw [h1] at h; exact mono1 (f := fun b => f (some a) b) (hn' a) hy h)

theorem opE_mono {op : Op} {r : AV × Eff} (h : opE P ora E H op = some r) (hE : ∀ x ∈ op.operands, ∀ a, E x = some a → E' x = some a) : opE P ora E' H op = some r := by
  have hE' : ∀ x, x ∈ op.operands → ∀ a, E x = some a → E' x = some a := hE
  unfold opE at h ⊢
  split at h
  · rename_i x
    exact mono1 (f := fun o => o.map fun v => (v, ({} : Eff))) rfl (hE' x (by simp [Op.operands])) h
  · rename_i x
    exact mono1 (f := fun o => o.map fun v => (v, ({} : Eff))) rfl (hE' x (by simp [Op.operands])) h
  · rename_i c a b
    split at h
    · rename_i t hc
      rw [hE' c (by simp [Op.operands]) _ hc]
      cases t with
      | true => exact mono1 (f := fun o => o.map fun v => (v, ({} : Eff))) rfl (hE' a (by simp [Op.operands])) h
      | false => exact mono1 (f := fun o => o.map fun v => (v, ({} : Eff))) rfl (hE' b (by simp [Op.operands])) h
    · cases h
  · exact h
  · rename_i t x
    exact mono1 (f := fun o => (o.bind AV.cels).map fun cs => (AV.one (.ptr H.length 0), ({ news := [some (cs.map some)] } : Eff))) rfl (hE' x (by simp [Op.operands])) h
  · rename_i t ps
    obtain ⟨a, ha, hv⟩ := map_some h
    obtain ⟨vs, hvs, hb⟩ := bind_some' ha
    have := partsE_mono hvs (E' := E') fun p hp => hE' p.2 (by simp [Op.operands]; exact ⟨p.1, by simpa using hp⟩)
    simp only [this, Option.bind_some, hb, Option.map_some, hv]
  · rename_i t len ps
    obtain ⟨a, ha, hv⟩ := map_some h
    obtain ⟨vs, hvs, hb⟩ := bind_some' ha
    have := partsE_mono hvs (E' := E') fun p hp => hE' p.2 (by simp [Op.operands]; exact ⟨p.1, by simpa using hp⟩)
    simp only [this, Option.bind_some, hb, Option.map_some, hv]
  · rename_i t x
    split at h
    · rename_i b off ag n hx hs
      rw [hE' x (by simp [Op.operands]) _ hx, hs]
      exact h
    · cases h
  · rename_i t x v
    split at h
    · rename_i b off cs ag n hx hc hs
      obtain ⟨a, ha, hcs⟩ := bind_some' hc
      rw [hE' x (by simp [Op.operands]) _ hx, hE' v (by simp [Op.operands]) _ ha, hs]
      simp only [Option.bind_some, hcs]
      exact h
    · cases h
  · rename_i x
    split at h
    · rename_i b off hx
      rw [hE' x (by simp [Op.operands]) _ hx]
      exact h
    · cases h
  · rename_i op t x y k
    split at h
    · rename_i a b ha hb
      rw [hE' x (by simp [Op.operands]) _ ha, hE' y (by simp [Op.operands]) _ hb]
      exact h
    · cases h
  · rename_i op t x
    split at h
    · rename_i b hx
      rw [hE' x (by simp [Op.operands]) _ hx]
      exact h
    · rename_i k n hx
      rw [hE' x (by simp [Op.operands]) _ hx]
      exact h
    · cases h
  · rename_i src dst x
    split at h
    · rename_i d k k' n hs hd hx
      rw [hE' x (by simp [Op.operands]) _ hx, hs, hd]
      exact h
    · cases h
  · rename_i t x f
    split at h
    · rename_i fl b off hf hx
      rw [hE' x (by simp [Op.operands]) _ hx, hf]
      exact h
    · cases h
  · rename_i t x f
    split at h
    · rename_i fl xs hf hx
      rw [hE' x (by simp [Op.operands]) _ hx, hf]
      exact h
    · cases h
  · rename_i t x i
    split at h
    · rename_i a b ha hb
      rw [hE' x (by simp [Op.operands]) _ ha, hE' i (by simp [Op.operands]) _ hb]
      exact h
    · cases h
  · rename_i t x i
    split at h
    · rename_i s k n hu hx hi
      rw [hE' x (by simp [Op.operands]) _ hx, hE' i (by simp [Op.operands]) _ hi, hu]
      exact h
    · cases h
  · rename_i x i
    split at h
    · rename_i vs hx
      rw [hE' x (by simp [Op.operands]) _ hx]
      exact h
    · cases h
  · rename_i f args ats
    split at h
    · rename_i g a b vs hf hl
      rw [hE' f (by simp [Op.operands, Call.operands]) _ hf, listE_mono hl (E' := E') fun x hx => hE' x (by simp [Op.operands, Call.operands]; exact .inr (by simpa using hx))]
      exact h
    · cases h
  · rename_i args ats
    split at h
    · rename_i x t rest hl hat
      rw [listE_mono hl (E' := E') fun x hx => hE' x (by simp [Op.operands, Call.operands]; simpa using hx), hat]
      exact h
    · cases h
  · cases h
end Go.Ev
