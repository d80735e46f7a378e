/-
  An abstract evaluator of the model's code: equality, struct literals, what an operation does here. Conditions: none; nothing here speaks of one program.
-/
import Derived.Test.YtdneelooepjdhaaEvOps
namespace Go.Ev

/-! ### Equality -/
def cut (xs : List Cel) (off n : Nat) : List Cel := (xs.drop off).take n

theorem All2.cut {ρ : PMap} {xs : List Cel} {us : List Value} (h : All2 (CRel ρ) xs us) (off n : Nat) : All2 (CRel ρ) (cut xs off n) ((us.drop off).take n) := (h.drop off).take n

theorem run_part {P : Program} {w : World} {t : TypeId} {ag : Bool} {n off : Nat} {us : List Value} (hs : szA P t = some (ag, n)) (hl : off + (wid ag n) ≤ us.length) :
    (part t us.toArray off).run P w = .ok (mkV ag ((us.drop off).take (wid ag n))) w := by
  unfold part
  rw [Sem.run_bind, run_isAgg hs]
  simp only [Result.andThen_ok]
  cases ag with
  | true =>
    simp only [if_true]
    rw [Sem.run_bind, run_sizeOf hs]
    simp only [Result.andThen_ok, Sem.run_pure, mkV, wid]
    congr 3
    rw [List.extract_toArray, List.extract_eq_take_drop]
    simp
  | false =>
    simp only [Bool.false_eq_true, if_false, wid] at hl ⊢
    have hlt : off < us.length := by omega
    have hg : us.toArray[off]? = some us[off] := by simp [hlt]
    simp only [hg]
    rw [List.drop_eq_getElem_cons hlt]
    rfl

/-- Types that the model does not stand in for, known beforehand. -/
class Plain (P : Program) where
  plain : TypeId → Bool
  sound : ∀ t, plain t = true → P.stoodInHeld t = false
  apart : ∀ t, plain t = true → P.eqGuardType P.depth t = false
  named : ∀ t fs, plain t = true → P.underlying t = some (.struct fs) → ∀ f ∈ fs.toList, f.name ≠ "_"

def plainTest (P : Program) (t : TypeId) : Bool :=
  !P.stoodInHeld t && (!P.eqGuardType P.depth t && match P.underlying t with | some (.struct fs) => fs.toList.all fun f => f.name != "_" | _ => true)

/-- The types of a list, each tested once. -/
abbrev Plain.ofList {P : Program} (l : List TypeId) (h : ∀ t ∈ l, plainTest P t = true) : Plain P where
  plain t := l.any (Nat.beq t)
  sound t ht := by
    obtain ⟨x, hx, he⟩ := List.any_eq_true.1 ht
    obtain rfl := Nat.eq_of_beq_eq_true he
    have := h t hx
    simp only [plainTest, Bool.and_eq_true, Bool.not_eq_true'] at this
    exact this.1
  apart t ht := by
    obtain ⟨x, hx, he⟩ := List.any_eq_true.1 ht
    obtain rfl := Nat.eq_of_beq_eq_true he
    have := h t hx
    simp only [plainTest, Bool.and_eq_true, Bool.not_eq_true'] at this
    exact this.2.1
  named t fs ht hu f hf := by
    obtain ⟨x, hx, he⟩ := List.any_eq_true.1 ht
    obtain rfl := Nat.eq_of_beq_eq_true he
    have := h t hx
    simp only [plainTest, hu, Bool.and_eq_true, List.all_eq_true, bne_iff_ne] at this
    exact this.2.2 f hf

def eqFs (eq : TypeId → List Cel → List Cel → Option Bool) (sz : TypeId → Option (Bool × Nat)) (xs ys : List Cel) : List Field → Option Bool
  | [] => some true
  | f :: fs =>
    match sz f.type with
    | none => none
    | some (ag, n) =>
      if f.offset + (wid ag n) ≤ xs.length ∧ f.offset + (wid ag n) ≤ ys.length then
        match eq f.type (cut xs f.offset (wid ag n)) (cut ys f.offset (wid ag n)), eqFs eq sz xs ys fs with
        | some r, some rs => some (r && rs)
        | _, _ => none
      else none

noncomputable def eqT (P : Program) [Plain P] : Nat → TypeId → List Cel → List Cel → Option Bool
  | 0, _, _, _ => none
  | d + 1, t, xs, ys =>
    match undT P t with
    | some (.int _) => match xs, ys with
      | [.lit (.int k a)], [.lit (.int k' b)] => if k = k' then some (a == b) else none
      | _, _ => none
    | some .bool => match xs, ys with
      | [.lit (.bool a)], [.lit (.bool b)] => some (a == b)
      | _, _ => none
    | some .string => match xs, ys with
      | [.lit (.string a)], [.lit (.string b)] => some (a.toList == b.toList)
      | _, _ => none
    | some (.struct fs) => if Plain.plain P t then eqFs (eqT P d) (szA P) xs ys fs.toList else none
    | _ => none

theorem eqFs_ok {P : Program} [Plain P] {ρ : PMap} {w : World} {d d' : Nat} (ih : ∀ (t : TypeId) (xs ys : List Cel) (us vs : List Value) (r ag : Bool) (n : Nat), eqT P d t xs ys = some r → szA P t = some (ag, n) → All2 (CRel ρ) xs us → All2 (CRel ρ) ys vs →
      (Op.equalIn d' t (mkV ag us) (mkV ag vs)).run P w = .ok r w) {xs ys : List Cel} {us vs : List Value} (hx : All2 (CRel ρ) xs us) (hy : All2 (CRel ρ) ys vs) :
    ∀ (fs : List Field) (r : Bool), (∀ f ∈ fs, f.name ≠ "_") → eqFs (eqT P d) (szA P) xs ys fs = some r → (Op.eqFields d' us.toArray vs.toArray fs).run P w = .ok r w
  | [], r, _, h => by cases h; rfl
  | f :: fs, r, hnm, h => by
    simp only [eqFs] at h
    · have hname : ¬ f.name = "_" := hnm f (List.mem_cons_self ..)
      cases hs : szA P f.type with
      | none => rw [hs] at h; cases h
      | some p =>
        obtain ⟨ag, n⟩ := p
        rw [hs] at h
        simp only at h
        split at h
        · rename_i hle
          cases h1 : eqT P d f.type (cut xs f.offset (wid ag n)) (cut ys f.offset (wid ag n)) with
          | none => rw [h1] at h; cases h
          | some r1 =>
            cases h2 : eqFs (eqT P d) (szA P) xs ys fs with
            | none => rw [h1, h2] at h; cases h
            | some r2 =>
              rw [h1, h2] at h
              simp only [Option.some.injEq] at h
              have e1 := ih f.type _ _ _ _ r1 ag n h1 hs (hx.cut _ _) (hy.cut _ _)
              have e2 := eqFs_ok ih hx hy fs r2 (fun g hg => hnm g (List.mem_cons_of_mem _ hg)) h2
              have hxl := hx.length
              have hyl := hy.length
              simp only [Op.eqFields, hname, ne_eq, not_false_eq_true, if_true, Sem.run_bind]
              rw [run_part hs (by omega), Result.andThen_ok, run_part hs (by omega), Result.andThen_ok, e1, Result.andThen_ok]
              cases r1 with
              | true => simpa [← h] using e2
              | false => simp [← h]
        · cases h

theorem eqT_ok {P : Program} [Plain P] {ρ : PMap} {w : World} : ∀ (d d' : Nat), d ≤ d' → ∀ (t : TypeId) (xs ys : List Cel) (us vs : List Value) (r ag : Bool) (n : Nat), eqT P d t xs ys = some r → szA P t = some (ag, n) → All2 (CRel ρ) xs us → All2 (CRel ρ) ys vs →
      (Op.equalIn d' t (mkV ag us) (mkV ag vs)).run P w = .ok r w
  | 0, _, _, _, _, _, _, _, _, _, _, h, _, _, _ => by cases h
  | d + 1, 0, hd, _, _, _, _, _, _, _, _, _, _, _, _ => by omega
  | d + 1, d' + 1, hd, t, xs, ys, us, vs, r, ag, n, h, hs, hx, hy => by
    have hag : ∀ dd, P.underlying t = some dd → ag = (match dd with | .struct _ | .array _ _ => true | _ => false) := by
      intro dd hdd
      rw [szA_eq] at hs
      unfold szA0 at hs
      rw [hdd] at hs
      split at hs
      · rename_i i d2 h1 h2
        simp only [Option.some.injEq] at h2
        subst h2
        simp only [Option.some.injEq, Prod.mk.injEq] at hs
        exact hs.1.symm
      · cases hs
    simp only [eqT, undT_eq] at h
    cases hu : P.underlying t with
    | none => rw [hu] at h; cases h
    | some dd =>
      have hag' := hag dd hu
      rw [hu] at h
      cases dd with
      | int k0 =>
        simp only at h hag'
        subst hag'
        split at h
        · rename_i k a k' b
          split at h
          · rename_i hk
            subst hk
            match us, vs, hx, hy with
            | [u], [v], hx, hy =>
              obtain ⟨⟨rfl, _⟩, _⟩ := hx
              obtain ⟨⟨rfl, _⟩, _⟩ := hy
              cases h
              exact run_equalIn_int w d' t k k0 a b hu
          · cases h
        · cases h
      | bool =>
        simp only at h hag'
        subst hag'
        split at h
        · rename_i a b
          match us, vs, hx, hy with
          | [u], [v], hx, hy =>
            obtain ⟨⟨rfl, _⟩, _⟩ := hx
            obtain ⟨⟨rfl, _⟩, _⟩ := hy
            cases h
            exact run_equalIn_bool w d' t a b hu
        · cases h
      | string =>
        simp only at h hag'
        subst hag'
        split at h
        · rename_i a b
          match us, vs, hx, hy with
          | [u], [v], hx, hy =>
            obtain ⟨⟨rfl, _⟩, _⟩ := hx
            obtain ⟨⟨rfl, _⟩, _⟩ := hy
            cases h
            exact run_equalIn_string w d' t a b hu
        · cases h
      | struct fs =>
        simp only at h hag'
        subst hag'
        split at h
        · rename_i hpl
          have hst := Plain.sound t hpl
          have hf : P.fieldsOf t = fs := by simp [Program.fieldsOf, hu]
          have := run_equalIn_struct (P := P) w d' t us.toArray vs.toArray (by rw [hf]; exact hu) hst
          show (Op.equalIn (d' + 1) t (.agg us.toArray) (.agg vs.toArray)).run P w = .ok r w
          rw [this, hf]
          exact eqFs_ok (fun t xs ys us vs r ag n => eqT_ok d d' (by omega) t xs ys us vs r ag n) hx hy _ _ (Plain.named t fs hpl hu) h
        · cases h
      | _ => cases h
end Go.Ev
