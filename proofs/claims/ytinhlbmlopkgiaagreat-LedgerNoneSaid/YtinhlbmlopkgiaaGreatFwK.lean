/-
  Arguments of types that are integers and structs of integers: what they are, and that their reading leans on no memory. Conditions: none; nothing here speaks of one program.
-/
import Derived.Test.YtinhlbmlopkgiaaGreatFwG
import Derived.ProofKit
import Derived.OpenShut
namespace Go.Fv
open Go.ChangeShapes Go.WideShapes
variable {P : Program}

/-- Values that are integers of these kinds, within them. -/
def IntsAre : List IntKind → List Value → List Int → Prop
  | [], [], [] => True
  | k :: ks, v :: vs, n :: ns => v = .int k n ∧ (Lit.int k n).wf = true ∧ IntsAre ks vs ns
  | _, _, _ => False

theorem IntsAre.append : ∀ {ks ks' : List IntKind} {vs vs' : List Value} {ns ns' : List Int}, IntsAre ks vs ns → IntsAre ks' vs' ns' → IntsAre (ks ++ ks') (vs ++ vs') (ns ++ ns')
  | [], _, [], _, [], _, _, h => h
  | _ :: _, _, _ :: _, _, _ :: _, _, ⟨h1, h2, h3⟩, h => ⟨h1, h2, h3.append h⟩
  | [], _, _ :: _, _, _, _, h, _ => h.elim
  | [], _, [], _, _ :: _, _, h, _ => h.elim
  | _ :: _, _, [], _, _, _, h, _ => h.elim
  | _ :: _, _, _ :: _, _, [], _, h, _ => h.elim

theorem IntsAre.cons {k : IntKind} {ks : List IntKind} {vs : List Value} {ns : List Int} (h : IntsAre (k :: ks) vs ns) : ∃ n vs' ns', vs = .int k n :: vs' ∧ ns = n :: ns' ∧ (Lit.int k n).wf = true ∧ IntsAre ks vs' ns' := by
  match vs, ns, h with
  | _ :: vs, n :: ns, ⟨rfl, h1, h2⟩ => exact ⟨n, vs, ns, rfl, rfl, h1, h2⟩
theorem IntsAre.nil {vs : List Value} {ns : List Int} (h : IntsAre [] vs ns) : vs = [] ∧ ns = [] := by
  match vs, ns, h with
  | [], [], _ => exact ⟨rfl, rfl⟩

theorem IntsAre.length : ∀ {ks : List IntKind} {vs : List Value} {ns : List Int}, IntsAre ks vs ns → vs.length = ks.length
  | [], [], [], _ => rfl
  | _ :: _, _ :: _, _ :: _, ⟨_, _, h⟩ => by simp only [List.length_cons]; rw [h.length]
  | [], _ :: _, _, h => h.elim
  | [], [], _ :: _, h => h.elim
  | _ :: _, [], _, h => h.elim
  | _ :: _, _ :: _, [], h => h.elim

def flatFs (P : Program) (rec : TypeId → Option (List IntKind)) : Nat → List Field → Option (List IntKind)
  | _, [] => some []
  | off, f :: fs => match rec f.type with
    | some ks => if f.offset = off ∧ P.cellsOf f.type = ks.length then (flatFs P rec (off + ks.length) fs).map (ks ++ ·) else none
    | none => none

/-- The kinds of the integers that a value of a type is made of. -/
def flatT (P : Program) : Nat → TypeId → Option (List IntKind)
  | 0, _ => none
  | n + 1, t => match P.underlying t with
    | some (.int k) => some [k]
    | some (.struct fs) => match flatFs P (flatT P n) 0 fs.toList with
      | some ks => if P.cellsOf t = ks.length then some ks else none
      | none => none
    | _ => none

theorem flatFs_ints {rec : TypeId → Option (List IntKind)} {cs : List Value} : ∀ (fs : List Field) {off : Nat} {ks : List IntKind}, flatFs P rec off fs = some ks →
    (∀ f ∈ fs, ∀ ks', rec f.type = some ks' → ∃ ns, IntsAre ks' ((cs.drop f.offset).take (P.cellsOf f.type)) ns) → ∃ ns, IntsAre ks ((cs.drop off).take ks.length) ns
  | [], off, ks, h, _ => by cases h; exact ⟨[], by simp [IntsAre]⟩
  | f :: fs, off, ks, h, hr => by
    simp only [flatFs] at h
    cases hk : rec f.type with
    | none => rw [hk] at h; cases h
    | some k1 =>
      rw [hk] at h
      simp only at h
      split at h
      · rename_i hc
        obtain ⟨k2, hk2, rfl⟩ := map_some h
        obtain ⟨n2, h2⟩ := flatFs_ints fs hk2 fun g hg => hr g (List.mem_cons_of_mem _ hg)
        obtain ⟨n1, h1⟩ := hr f (List.mem_cons_self ..) k1 hk
        rw [hc.1, hc.2] at h1
        refine ⟨n1 ++ n2, ?_⟩
        have e : (cs.drop off).take (k1 ++ k2).length = (cs.drop off).take k1.length ++ (cs.drop (off + k1.length)).take k2.length := by
          rw [List.length_append, List.take_add, List.drop_drop]
        rw [e]
        exact h1.append h2
      · cases h

theorem flatFs_mem {rec : TypeId → Option (List IntKind)} : ∀ (fs : List Field) {off : Nat} {ks : List IntKind}, flatFs P rec off fs = some ks → ∀ f ∈ fs, ∃ k, rec f.type = some k
  | [], _, _, _, f, hf => by cases hf
  | g :: fs, off, ks, h, f, hf => by
    simp only [flatFs] at h
    cases hk : rec g.type with
    | none => rw [hk] at h; cases h
    | some k1 =>
      rw [hk] at h
      simp only at h
      split at h
      · obtain ⟨k2, hk2, _⟩ := map_some h
        rcases List.mem_cons.1 hf with rfl | hf
        · exact ⟨k1, hk⟩
        · exact flatFs_mem fs hk2 f hf
      · cases h

theorem mapM_mem {α β : Type} {g : α → Option β} : ∀ {l : List α} {xs : List β}, l.mapM g = some xs → ∀ a ∈ l, ∃ x ∈ xs, g a = some x
  | [], _, _, a, ha => by cases ha
  | b :: l, xs, h, a, ha => by
    simp only [List.mapM_cons, Option.bind_eq_bind, Option.bind_eq_some_iff, Option.pure_def, Option.some.injEq] at h
    obtain ⟨y, hy, ys, hys, rfl⟩ := h
    rcases List.mem_cons.1 ha with rfl | ha
    · exact ⟨y, List.mem_cons_self .., hy⟩
    · obtain ⟨x, hx, hgx⟩ := mapM_mem hys a ha
      exact ⟨x, List.mem_cons_of_mem _ hx, hgx⟩
theorem mapM_from {α β : Type} {g : α → Option β} : ∀ {l : List α} {xs : List β}, l.mapM g = some xs → ∀ x ∈ xs, ∃ a ∈ l, g a = some x
  | [], xs, h, x, hx => by cases h; cases hx
  | b :: l, xs, h, x, hx => by
    simp only [List.mapM_cons, Option.bind_eq_bind, Option.bind_eq_some_iff, Option.pure_def, Option.some.injEq] at h
    obtain ⟨y, hy, ys, hys, rfl⟩ := h
    rcases List.mem_cons.1 hx with rfl | hx
    · exact ⟨b, List.mem_cons_self .., hy⟩
    · obtain ⟨a, ha, hga⟩ := mapM_from hys x hx
      exact ⟨a, List.mem_cons_of_mem _ ha, hga⟩
theorem mapM_same {α β : Type} {g g' : α → Option β} : ∀ {l : List α} {xs : List β}, l.mapM g = some xs → (∀ a ∈ l, ∀ x, g a = some x → g' a = some x) → l.mapM g' = some xs
  | [], xs, h, _ => h
  | b :: l, xs, h, hg => by
    simp only [List.mapM_cons, Option.bind_eq_bind, Option.bind_eq_some_iff, Option.pure_def, Option.some.injEq] at h ⊢
    obtain ⟨y, hy, ys, hys, rfl⟩ := h
    exact ⟨y, hg b (List.mem_cons_self ..) y hy, ys, mapM_same hys fun a ha => hg a (List.mem_cons_of_mem _ ha), rfl⟩

section
variable {H : Type} {enc : TypeId × Value → H} {w : World} {base : Nat} {sp : Nat → Bool} {held : Bool}

theorem flat_trod : ∀ (n : Nat) {t : TypeId} {ks : List IntKind}, flatT P n t = some ks → ∀ {fuel : Nat} {cs : List Value} {x : DataW H × List MemPlace}, DataW.trod enc P w base sp held fuel t cs = some x →
    x.2 = [] ∧ (∃ ns, IntsAre ks cs ns) ∧ ∀ w' base' sp' held', DataW.trod enc P w' base' sp' held' fuel t cs = some x
  | 0, _, _, h, _, _, _, _ => by cases h
  | n + 1, t, ks, h, fuel, cs, x, hx => by
    simp only [flatT] at h
    split at h
    · rename_i k hu
      cases h
      cases fuel with
      | zero => simp [DataW.trod] at hx
      | succ m =>
        obtain ⟨i, rfl, rfl, hw⟩ := DataW.trod_int hu hx
        exact ⟨rfl, ⟨[i], rfl, hw, trivial⟩, fun w' base' sp' held' => by simp [DataW.trod, hu, hw]⟩
    · rename_i fs hu
      split at h
      · rename_i ks' hks
        split at h
        · rename_i hc
          cases h
          cases fuel with
          | zero => simp [DataW.trod] at hx
          | succ m =>
            have hx' := hx
            unfold DataW.trod at hx'
            rw [hu] at hx'
            have hl : cs.length = P.cellsOf t ∧ ∃ xs, fs.toList.mapM (fun f => DataW.trod enc P w base sp held m f.type ((cs.drop f.offset).take (P.cellsOf f.type))) = some xs ∧ x = (.agg (xs.map (·.1)), xs.flatMap (·.2)) := by
              obtain ⟨xs, n', hn, hx2, hl2, hlen, hget⟩ := DataW.trod_struct hu hx
              refine ⟨hl2, ?_⟩
              split at hx' <;> simp_all
              obtain ⟨a, h1, h2, h3⟩ := hx'
              exact ⟨a, h1, h2.symm, h3.symm⟩
            obtain ⟨hl, xs, hp, rfl⟩ := hl
            have hrec : ∀ f ∈ fs.toList, ∀ k1, flatT P n f.type = some k1 → ∀ y, DataW.trod enc P w base sp held m f.type ((cs.drop f.offset).take (P.cellsOf f.type)) = some y → _ := fun f _ k1 hk1 y hy => flat_trod n hk1 hy
            refine ⟨?_, ?_, fun w' base' sp' held' => ?_⟩
            · show xs.flatMap (·.2) = []
              rw [List.flatMap_eq_nil_iff]
              intro y hy
              obtain ⟨f, hf, hfy⟩ := mapM_from hp y hy
              obtain ⟨k1, hk1⟩ := flatFs_mem _ hks f hf
              exact (hrec f hf k1 hk1 y hfy).1
            · have := flatFs_ints (P := P) (cs := cs) fs.toList hks fun f hf k1 hk1 => by
                obtain ⟨y, _, hfy⟩ := mapM_mem hp f hf
                exact (hrec f hf k1 hk1 y hfy).2.1
              rw [List.drop_zero, ← hc, ← hl, List.take_length] at this
              exact this
            · refine trod_struct_mk hu hl (mapM_same hp fun f hf y hfy => ?_)
              obtain ⟨k1, hk1⟩ := flatFs_mem _ hks f hf
              exact (hrec f hf k1 hk1 y hfy).2.2 w' base' sp' held'
        · cases h
      · cases h
    · cases h

/-- A struct of integers as an argument. -/
theorem open_flat {t : TypeId} {fs : Array Field} {n : Nat} {ks : List IntKind} (hu : P.underlying t = some (.struct fs)) (hk : flatT P n t = some ks) {r : Reach} {b0 : Nat} {w0 : World} {v : Value} {d : DataW H} {ps : List MemPlace}
    (hval : Value.okWide P w0 r b0 t v) (hd : DataW.Trod enc P w base sp held t v d ps) :
    ps = [] ∧ (∃ vs ns, v = .agg vs ∧ IntsAre ks vs.toList ns) ∧ ∀ w' base' sp' held', DataW.Trod enc P w' base' sp' held' t v d [] := by
  obtain ⟨cs, rfl, _⟩ := okWide_struct hu hval
  obtain ⟨fuel, hf⟩ := hd
  obtain ⟨h1, ⟨ns, h2⟩, h3⟩ := flat_trod n hk hf
  have h1' : ps = [] := h1
  subst h1'
  exact ⟨rfl, ⟨cs, ns, rfl, h2⟩, fun w' base' sp' held' => ⟨fuel, h3 w' base' sp' held'⟩⟩
end

/-- Such an argument for the evaluator. -/
def litsI : List IntKind → List Int → List Cel
  | k :: ks, n :: ns => .lit (.int k n) :: litsI ks ns
  | _, _ => []

theorem IntsAre.rel {ρ : PM} : ∀ {ks : List IntKind} {vs : List Value} {ns : List Int}, IntsAre ks vs ns → All2 (CRel ρ) (litsI ks ns) vs
  | [], [], [], _ => trivial
  | _ :: _, _ :: _, _ :: _, ⟨h1, h2, h3⟩ => ⟨⟨h1, h2⟩, h3.rel⟩
  | [], _ :: _, _, h => h.elim
  | [], [], _ :: _, h => h.elim
  | _ :: _, [], _, h => h.elim
  | _ :: _, _ :: _, [], h => h.elim
end Go.Fv
