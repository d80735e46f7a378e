/-
  Arguments of types that are integers and structs of integers: what they are, and that their reading leans on no memory. Conditions: none; nothing here speaks of one program.
  Arguments of types that are structs of integers and slices: what they are. Conditions: none; nothing here speaks of one program.
  'BooksNoneCardSaid': for every input exchequerlaw21.BooksNone returns true (a tied card). Conditions: none but the given ones.
-/
import Derived.Test.YtdkoockhfmbcaaaGreatDoorGkOra
import Derived.ProofKit
import Derived.OpenShut
import Derived.Test.YtdkoockhfmbcaaaGreatDoorGkAwk
import Derived.Test.YtdkoockhfmbcaaaGreatDoorGkNoneF
import Derived.Test.YtdkoockhfmbcaaaGreatDoorTie
import Derived.Test.YtdkoockhfmbcaaaGreatDoorCards
import Derived.Handy
import Derived.Lay
import Derived.SevenTiedAt
import Derived.WalkKit
namespace Go.Fv
open Go.ChangeShapes Go.WideShapes
variable {P : Program}

/-- Values that are integers of these kinds, within them. -/
def IntsAre : List IntKind → List Value → List Int → Prop
  | [], [], [] => True
  | k :: ks, v :: vs, n :: ns => v = .int k n ∧ (Lit.int k n).wf = true ∧ IntsAre ks vs ns
  | _, _, _ => False

theorem IntsAre.append : ∀ {ks ks' : List IntKind} {vs vs' : List Value} {ns ns' : List Int}, IntsAre ks vs ns → IntsAre ks' vs' ns' → IntsAre (ks ++ ks') (vs ++ vs') (ns ++ ns')
  | [], _, [], _, [], _, _, h => h
  | _ :: _, _, _ :: _, _, _ :: _, _, ⟨h1, h2, h3⟩, h => ⟨h1, h2, h3.append h⟩
  | [], _, _ :: _, _, _, _, h, _ => h.elim
  | [], _, [], _, _ :: _, _, h, _ => h.elim
  | _ :: _, _, [], _, _, _, h, _ => h.elim
  | _ :: _, _, _ :: _, _, [], _, h, _ => h.elim

theorem IntsAre.cons {k : IntKind} {ks : List IntKind} {vs : List Value} {ns : List Int} (h : IntsAre (k :: ks) vs ns) : ∃ n vs' ns', vs = .int k n :: vs' ∧ ns = n :: ns' ∧ (Lit.int k n).wf = true ∧ IntsAre ks vs' ns' := by
  match vs, ns, h with
  | _ :: vs, n :: ns, ⟨rfl, h1, h2⟩ => exact ⟨n, vs, ns, rfl, rfl, h1, h2⟩
theorem IntsAre.nil {vs : List Value} {ns : List Int} (h : IntsAre [] vs ns) : vs = [] ∧ ns = [] := by
  match vs, ns, h with
  | [], [], _ => exact ⟨rfl, rfl⟩

theorem IntsAre.length : ∀ {ks : List IntKind} {vs : List Value} {ns : List Int}, IntsAre ks vs ns → vs.length = ks.length
  | [], [], [], _ => rfl
  | _ :: _, _ :: _, _ :: _, ⟨_, _, h⟩ => by simp only [List.length_cons]; rw [h.length]
  | [], _ :: _, _, h => h.elim
  | [], [], _ :: _, h => h.elim
  | _ :: _, [], _, h => h.elim
  | _ :: _, _ :: _, [], h => h.elim

def flatFs (P : Program) (rec : TypeId → Option (List IntKind)) : Nat → List Field → Option (List IntKind)
  | _, [] => some []
  | off, f :: fs => match rec f.type with
    | some ks => if f.offset = off ∧ P.cellsOf f.type = ks.length then (flatFs P rec (off + ks.length) fs).map (ks ++ ·) else none
    | none => none

/-- The kinds of the integers that a value of a type is made of. -/
def flatT (P : Program) : Nat → TypeId → Option (List IntKind)
  | 0, _ => none
  | n + 1, t => match P.underlying t with
    | some (.int k) => some [k]
    | some (.struct fs) => match flatFs P (flatT P n) 0 fs.toList with
      | some ks => if P.cellsOf t = ks.length then some ks else none
      | none => none
    | _ => none

theorem flatFs_ints {rec : TypeId → Option (List IntKind)} {cs : List Value} : ∀ (fs : List Field) {off : Nat} {ks : List IntKind}, flatFs P rec off fs = some ks →
    (∀ f ∈ fs, ∀ ks', rec f.type = some ks' → ∃ ns, IntsAre ks' ((cs.drop f.offset).take (P.cellsOf f.type)) ns) → ∃ ns, IntsAre ks ((cs.drop off).take ks.length) ns
  | [], off, ks, h, _ => by cases h; exact ⟨[], by simp [IntsAre]⟩
  | f :: fs, off, ks, h, hr => by
    simp only [flatFs] at h
    cases hk : rec f.type with
    | none => rw [hk] at h; cases h
    | some k1 =>
      rw [hk] at h
      simp only at h
      split at h
      · rename_i hc
        obtain ⟨k2, hk2, rfl⟩ := map_some h
        obtain ⟨n2, h2⟩ := flatFs_ints fs hk2 fun g hg => hr g (List.mem_cons_of_mem _ hg)
        obtain ⟨n1, h1⟩ := hr f (List.mem_cons_self ..) k1 hk
        rw [hc.1, hc.2] at h1
        refine ⟨n1 ++ n2, ?_⟩
        have e : (cs.drop off).take (k1 ++ k2).length = (cs.drop off).take k1.length ++ (cs.drop (off + k1.length)).take k2.length := by
          rw [List.length_append, List.take_add, List.drop_drop]
        rw [e]
        exact h1.append h2
      · cases h

theorem flatFs_mem {rec : TypeId → Option (List IntKind)} : ∀ (fs : List Field) {off : Nat} {ks : List IntKind}, flatFs P rec off fs = some ks → ∀ f ∈ fs, ∃ k, rec f.type = some k
  | [], _, _, _, f, hf => by cases hf
  | g :: fs, off, ks, h, f, hf => by
    simp only [flatFs] at h
    cases hk : rec g.type with
    | none => rw [hk] at h; cases h
    | some k1 =>
      rw [hk] at h
      simp only at h
      split at h
      · obtain ⟨k2, hk2, _⟩ := map_some h
        rcases List.mem_cons.1 hf with rfl | hf
        · exact ⟨k1, hk⟩
        · exact flatFs_mem fs hk2 f hf
      · cases h

theorem mapM_mem {α β : Type} {g : α → Option β} : ∀ {l : List α} {xs : List β}, l.mapM g = some xs → ∀ a ∈ l, ∃ x ∈ xs, g a = some x
  | [], _, _, a, ha => by cases ha
  | b :: l, xs, h, a, ha => by
    simp only [List.mapM_cons, Option.bind_eq_bind, Option.bind_eq_some_iff, Option.pure_def, Option.some.injEq] at h
    obtain ⟨y, hy, ys, hys, rfl⟩ := h
    rcases List.mem_cons.1 ha with rfl | ha
    · exact ⟨y, List.mem_cons_self .., hy⟩
    · obtain ⟨x, hx, hgx⟩ := mapM_mem hys a ha
      exact ⟨x, List.mem_cons_of_mem _ hx, hgx⟩
theorem mapM_from {α β : Type} {g : α → Option β} : ∀ {l : List α} {xs : List β}, l.mapM g = some xs → ∀ x ∈ xs, ∃ a ∈ l, g a = some x
  | [], xs, h, x, hx => by cases h; cases hx
  | b :: l, xs, h, x, hx => by
    simp only [List.mapM_cons, Option.bind_eq_bind, Option.bind_eq_some_iff, Option.pure_def, Option.some.injEq] at h
    obtain ⟨y, hy, ys, hys, rfl⟩ := h
    rcases List.mem_cons.1 hx with rfl | hx
    · exact ⟨b, List.mem_cons_self .., hy⟩
    · obtain ⟨a, ha, hga⟩ := mapM_from hys x hx
      exact ⟨a, List.mem_cons_of_mem _ ha, hga⟩
theorem mapM_same {α β : Type} {g g' : α → Option β} : ∀ {l : List α} {xs : List β}, l.mapM g = some xs → (∀ a ∈ l, ∀ x, g a = some x → g' a = some x) → l.mapM g' = some xs
  | [], xs, h, _ => h
  | b :: l, xs, h, hg => by
    simp only [List.mapM_cons, Option.bind_eq_bind, Option.bind_eq_some_iff, Option.pure_def, Option.some.injEq] at h ⊢
    obtain ⟨y, hy, ys, hys, rfl⟩ := h
    exact ⟨y, hg b (List.mem_cons_self ..) y hy, ys, mapM_same hys fun a ha => hg a (List.mem_cons_of_mem _ ha), rfl⟩

section
variable {H : Type} {enc : TypeId × Value → H} {w : World} {base : Nat} {sp : Nat → Bool} {held : Bool}

theorem flat_trod : ∀ (n : Nat) {t : TypeId} {ks : List IntKind}, flatT P n t = some ks → ∀ {fuel : Nat} {cs : List Value} {x : DataW H × List MemPlace}, DataW.trod enc P w base sp held fuel t cs = some x →
    x.2 = [] ∧ (∃ ns, IntsAre ks cs ns) ∧ ∀ w' base' sp' held', DataW.trod enc P w' base' sp' held' fuel t cs = some x
  | 0, _, _, h, _, _, _, _ => by cases h
  | n + 1, t, ks, h, fuel, cs, x, hx => by
    simp only [flatT] at h
    split at h
    · rename_i k hu
      cases h
      cases fuel with
      | zero => simp [DataW.trod] at hx
      | succ m =>
        obtain ⟨i, rfl, rfl, hw⟩ := DataW.trod_int hu hx
        exact ⟨rfl, ⟨[i], rfl, hw, trivial⟩, fun w' base' sp' held' => by simp [DataW.trod, hu, hw]⟩
    · rename_i fs hu
      split at h
      · rename_i ks' hks
        split at h
        · rename_i hc
          cases h
          cases fuel with
          | zero => simp [DataW.trod] at hx
          | succ m =>
            have hx' := hx
            unfold DataW.trod at hx'
            rw [hu] at hx'
            have hl : cs.length = P.cellsOf t ∧ ∃ xs, fs.toList.mapM (fun f => DataW.trod enc P w base sp held m f.type ((cs.drop f.offset).take (P.cellsOf f.type))) = some xs ∧ x = (.agg (xs.map (·.1)), xs.flatMap (·.2)) := by
              obtain ⟨xs, n', hn, hx2, hl2, hlen, hget⟩ := DataW.trod_struct hu hx
              refine ⟨hl2, ?_⟩
              split at hx' <;> simp_all
              obtain ⟨a, h1, h2, h3⟩ := hx'
              exact ⟨a, h1, h2.symm, h3.symm⟩
            obtain ⟨hl, xs, hp, rfl⟩ := hl
            have hrec : ∀ f ∈ fs.toList, ∀ k1, flatT P n f.type = some k1 → ∀ y, DataW.trod enc P w base sp held m f.type ((cs.drop f.offset).take (P.cellsOf f.type)) = some y → _ := fun f _ k1 hk1 y hy => flat_trod n hk1 hy
            refine ⟨?_, ?_, fun w' base' sp' held' => ?_⟩
            · show xs.flatMap (·.2) = []
              rw [List.flatMap_eq_nil_iff]
              intro y hy
              obtain ⟨f, hf, hfy⟩ := mapM_from hp y hy
              obtain ⟨k1, hk1⟩ := flatFs_mem _ hks f hf
              exact (hrec f hf k1 hk1 y hfy).1
            · have := flatFs_ints (P := P) (cs := cs) fs.toList hks fun f hf k1 hk1 => by
                obtain ⟨y, _, hfy⟩ := mapM_mem hp f hf
                exact (hrec f hf k1 hk1 y hfy).2.1
              rw [List.drop_zero, ← hc, ← hl, List.take_length] at this
              exact this
            · refine trod_struct_mk hu hl (mapM_same hp fun f hf y hfy => ?_)
              obtain ⟨k1, hk1⟩ := flatFs_mem _ hks f hf
              exact (hrec f hf k1 hk1 y hfy).2.2 w' base' sp' held'
        · cases h
      · cases h
    · cases h

/-- A struct of integers as an argument. -/
theorem open_flat {t : TypeId} {fs : Array Field} {n : Nat} {ks : List IntKind} (hu : P.underlying t = some (.struct fs)) (hk : flatT P n t = some ks) {r : Go.Reach} {b0 : Nat} {w0 : World} {v : Value} {d : DataW H} {ps : List MemPlace}
    (hval : Value.okWide P w0 r b0 t v) (hd : DataW.Trod enc P w base sp held t v d ps) :
    ps = [] ∧ (∃ vs ns, v = .agg vs ∧ IntsAre ks vs.toList ns) ∧ ∀ w' base' sp' held', DataW.Trod enc P w' base' sp' held' t v d [] := by
  obtain ⟨cs, rfl, _⟩ := okWide_struct hu hval
  obtain ⟨fuel, hf⟩ := hd
  obtain ⟨h1, ⟨ns, h2⟩, h3⟩ := flat_trod n hk hf
  have h1' : ps = [] := h1
  subst h1'
  exact ⟨rfl, ⟨cs, ns, rfl, h2⟩, fun w' base' sp' held' => ⟨fuel, h3 w' base' sp' held'⟩⟩
end

/-- Such an argument for the evaluator. -/
def litsI : List IntKind → List Int → List Cel
  | k :: ks, n :: ns => .lit (.int k n) :: litsI ks ns
  | _, _ => []

theorem IntsAre.rel {ρ : PM} : ∀ {ks : List IntKind} {vs : List Value} {ns : List Int}, IntsAre ks vs ns → All2 (CRel ρ) (litsI ks ns) vs
  | [], [], [], _ => trivial
  | _ :: _, _ :: _, _ :: _, ⟨h1, h2, h3⟩ => ⟨⟨h1, h2⟩, h3.rel⟩
  | [], _ :: _, _, h => h.elim
  | [], [], _ :: _, h => h.elim
  | _ :: _, [], _, h => h.elim
  | _ :: _, _ :: _, [], h => h.elim
end Go.Fv

set_option linter.unusedVariables false
namespace Go.Fv
open Go.ChangeShapes Go.WideShapes
variable {P : Program}
/-- Values that are integers of these kinds, within them; or slices. -/
def CellsAre : List (Option IntKind) → List Value → Prop
  | [], [] => True
  | some k :: ks, v :: vs => (∃ n, v = .int k n ∧ (Lit.int k n).wf = true) ∧ CellsAre ks vs
  | none :: ks, v :: vs => (∃ a n c, v = .slice a n c ∧ n ≤ 9223372036854775807) ∧ CellsAre ks vs
  | _, _ => False
theorem CellsAre.append : ∀ {ks ks' : List (Option IntKind)} {vs vs' : List Value}, CellsAre ks vs → CellsAre ks' vs' → CellsAre (ks ++ ks') (vs ++ vs')
  | [], _, [], _, _, h => h
  | some _ :: _, _, _ :: _, _, ⟨h1, h2⟩, h => ⟨h1, h2.append h⟩
  | none :: _, _, _ :: _, _, ⟨h1, h2⟩, h => ⟨h1, h2.append h⟩
  | [], _, _ :: _, _, h, _ => h.elim
  | some _ :: _, _, [], _, h, _ => h.elim
  | none :: _, _, [], _, h, _ => h.elim
/-- The same for the evaluator: of each it knows the kind alone. -/
def unsC : List (Option IntKind) → List Cel
  | [] => []
  | some k :: r => .un k :: unsC r
  | none :: r => .us :: unsC r
theorem CellsAre.rel {ρ : PM} : ∀ {ks : List (Option IntKind)} {vs : List Value}, CellsAre ks vs → All2 (CRel ρ) (unsC ks) vs
  | [], [], _ => trivial
  | some _ :: _, _ :: _, ⟨⟨n, h1, h2⟩, h3⟩ => ⟨⟨n, h1, h2⟩, h3.rel⟩
  | none :: _, _ :: _, ⟨⟨a, n, c, h1, h2⟩, h3⟩ => ⟨⟨a, n, c, h1, h2⟩, h3.rel⟩
  | [], _ :: _, h => h.elim
  | some _ :: _, [], h => h.elim
  | none :: _, [], h => h.elim
def mixFs (P : Program) (rec : TypeId → Option (List (Option IntKind))) : Nat → List Field → Option (List (Option IntKind))
  | _, [] => some []
  | off, f :: fs => match rec f.type with
    | some ks => if f.offset = off ∧ P.cellsOf f.type = ks.length then (mixFs P rec (off + ks.length) fs).map (ks ++ ·) else none
    | none => none
/-- The kinds of the integers, and the slices, that a value of a type is made of. -/
def mixT (P : Program) : Nat → TypeId → Option (List (Option IntKind))
  | 0, _ => none
  | n + 1, t => match P.underlying t with
    | some (.int k) => some [some k]
    | some (.slice _) => some [none]
    | some (.struct fs) => match mixFs P (mixT P n) 0 fs.toList with
      | some ks => if P.cellsOf t = ks.length then some ks else none
      | none => none
    | _ => none
theorem mixFs_cells {rec : TypeId → Option (List (Option IntKind))} {cs : List Value} : ∀ (fs : List Field) {off : Nat} {ks : List (Option IntKind)}, mixFs P rec off fs = some ks →
    (∀ f ∈ fs, ∀ ks', rec f.type = some ks' → CellsAre ks' ((cs.drop f.offset).take (P.cellsOf f.type))) → CellsAre ks ((cs.drop off).take ks.length)
  | [], off, ks, h, _ => by cases h; simp [CellsAre]
  | f :: fs, off, ks, h, hr => by
    simp only [mixFs] at h
    cases hk : rec f.type with
    | none => rw [hk] at h; cases h
    | some k1 =>
      rw [hk] at h
      simp only at h
      split at h
      · rename_i hc
        obtain ⟨k2, hk2, rfl⟩ := map_some h
        have h2 := mixFs_cells fs hk2 fun g hg => hr g (List.mem_cons_of_mem _ hg)
        have h1 := hr f (List.mem_cons_self ..) k1 hk
        rw [hc.1, hc.2] at h1
        have e : (cs.drop off).take (k1 ++ k2).length = (cs.drop off).take k1.length ++ (cs.drop (off + k1.length)).take k2.length := by
          rw [List.length_append, List.take_add, List.drop_drop]
        rw [e]
        exact h1.append h2
      · cases h
section
variable {H : Type} {enc : TypeId × Value → H} {W : World} {base : Nat} {sp : Nat → Bool} {held : Bool}
theorem slice_trod {t e : TypeId} {k : Nat} {cs : List Value} {x : DataW H × List MemPlace} (ht : P.underlying t = some (.slice e)) (hk : DataW.trod enc P W base sp held (k + 1) t cs = some x) : ∃ a n c, cs = [.slice a n c] ∧ n ≤ 9223372036854775807 := by
  have h0 := hk
  rw [DataW.trod_step] at hk
  unfold DataW.trodStep at hk
  rw [ht] at hk
  simp only at hk
  split at hk
  all_goals first
    | (rename_i heq; cases heq; done)
    | (rename_i heq _; cases heq; done)
    | (exact ⟨none, 0, 0, rfl, by omega⟩)
    | (exact ⟨_, _, _, rfl, slice_len ht ⟨_, h0⟩⟩)
    | (cases hk; done)
theorem mix_trod : ∀ (n : Nat) {t : TypeId} {ks : List (Option IntKind)}, mixT P n t = some ks → ∀ {fuel : Nat} {cs : List Value} {x : DataW H × List MemPlace}, DataW.trod enc P W base sp held fuel t cs = some x → CellsAre ks cs
  | 0, _, _, h, _, _, _, _ => by cases h
  | n + 1, t, ks, h, fuel, cs, x, hx => by
    simp only [mixT] at h
    split at h
    · rename_i k hu
      cases h
      cases fuel with
      | zero => simp [DataW.trod] at hx
      | succ m =>
        obtain ⟨i, rfl, rfl, hw⟩ := DataW.trod_int hu hx
        exact ⟨⟨i, rfl, hw⟩, trivial⟩
    · rename_i e hu
      cases h
      cases fuel with
      | zero => simp [DataW.trod] at hx
      | succ m =>
        obtain ⟨a, i, c, rfl, hl⟩ := slice_trod hu hx
        exact ⟨⟨a, i, c, rfl, hl⟩, trivial⟩
    · rename_i fs hu
      split at h
      · rename_i ks' hks
        split at h
        · rename_i hc
          cases h
          cases fuel with
          | zero => simp [DataW.trod] at hx
          | succ m =>
            have hx' := hx
            unfold DataW.trod at hx'
            rw [hu] at hx'
            have hl : cs.length = P.cellsOf t ∧ ∃ xs, fs.toList.mapM (fun f => DataW.trod enc P W base sp held m f.type ((cs.drop f.offset).take (P.cellsOf f.type))) = some xs := by
              obtain ⟨xs, n', hn, hx2, hl2, hlen, hget⟩ := DataW.trod_struct hu hx
              refine ⟨hl2, ?_⟩
              split at hx' <;> simp_all
              obtain ⟨a, h1, h2, h3⟩ := hx'
              exact ⟨a, h1⟩
            obtain ⟨hl, xs, hp⟩ := hl
            have := mixFs_cells (P := P) (cs := cs) fs.toList hks fun f hf k1 hk1 => by
                obtain ⟨y, _, hfy⟩ := mapM_mem hp f hf
                exact mix_trod n hk1 hfy
            rw [List.drop_zero, ← hc, ← hl, List.take_length] at this
            exact this
        · cases h
      · cases h
    · cases h
/-- A struct of integers and slices as an argument. -/
theorem open_mix {t : TypeId} {fs : Array Field} {n : Nat} {ks : List (Option IntKind)} (hu : P.underlying t = some (.struct fs)) (hk : mixT P n t = some ks) {r : Go.Reach} {b0 : Nat} {w0 : World} {v : Value} {d : DataW H} {ps : List MemPlace}
    (hval : Value.okWide P w0 r b0 t v) (hd : DataW.Trod enc P W base sp held t v d ps) : ∃ vs, v = .agg vs ∧ CellsAre ks vs.toList := by
  obtain ⟨cs, rfl, _⟩ := okWide_struct hu hval
  obtain ⟨fuel, hf⟩ := hd
  exact ⟨cs, rfl, mix_trod n hk hf⟩
theorem open_mix_rel {t : TypeId} {fs : Array Field} {n : Nat} {ks : List (Option IntKind)} (hu : P.underlying t = some (.struct fs)) (hk : mixT P n t = some ks) {r : Go.Reach} {b0 : Nat} {w0 : World} {v : Value} {d : DataW H} {ps : List MemPlace}
    (hval : Value.okWide P w0 r b0 t v) (hd : DataW.Trod enc P W base sp held t v d ps) {ρ : PM} : VRel ρ (.agg (unsC ks)) v := by
  obtain ⟨vs, rfl, h⟩ := open_mix hu hk hval hd
  exact ⟨vs, rfl, h.rel⟩
end
end Go.Fv

set_option linter.unusedVariables false
namespace Go.Proofs.YtdkoockhfmbcaaaGreatDoor
open Go.ChangeShapes Go.WideShapes Go.ChangeAt Go.RowKit Go.Fv

theorem own_booksNone : ownKnob Tryz.prog.godebug = none := by kernel_rfl

/-- A message: integers, and the body; and an ID. -/
def ksM : List (Option IntKind) := [some .i64, some .i64, some .i64, some .i64, some .i64, some .i64, some .i64, some .i64, some .i64, some .u64, some .u64, some .i64, some .i64, some .u64, some .i64, some .i64, none]
def ksU : List (Option IntKind) := [some .u64, some .u64]
theorem booksNone_run : allTrue (oraN Tryz.prog (treeT tbl) baseA 1000 60 (.f 4) [.agg (unsC ksM), .agg (unsC ksU)] emptyH) = true := by kernel_rfl

theorem booksNone_walk (us : Array Value) (hus : All2 (VRel fun _ => none) [.agg (unsC ksM), .agg (unsC ksU)] us.toList) (w : World) (ht : ∀ B o, globG = some (B, o) → TabG w B o) :
    Calls Tryz.prog 4 us w fun e w' => e = .returned (.bool true) ∧ (∀ k, k < w.heap.size → w'.heap[k]? = w.heap[k]?) ∧ w.heap.size ≤ w'.heap.size ∧ w'.os = w.os ∧ w'.output = w.output ∧ w'.tape = w.tape := by
  obtain ⟨outs, h1, h2⟩ := allTrue_spec booksNone_run
  exact (closed_ok mixed tbl_ok baseA_ok h1).walk h2 hus Tryz.call4 w ht
theorem tab_of_row {W : World} {l : List (String × DataW Unit)} (hl : l = [("math/bits.deBruijn64tab", Rows.laid_math_bits_deBruijn64tab)]) (h : laidMetH Tryz.prog l W) : ∀ B o, globG = some (B, o) → TabG W B o := by
  subst hl
  rw [MakeChecks.laidMetH_plain _ _ _ (by kernel_rfl)] at h
  intro B o hg
  have ht := tab_of_laid h (List.mem_singleton.2 (congrArg (Prod.mk "math/bits.deBruijn64tab") (by kernel_rfl)))
  rw [globG_eq] at hg
  cases hg
  exact ht

set_option maxRecDepth 100000 in
theorem booksNone_lifted (os : Os) (started : os.Started) (H : Type) (enc : TypeId × Value → H) :
    ReturnsInHanded {} Tryz.checked os 4 .any (fun w args => (Rows.booksNoneSpec.pre enc Tryz.prog Tryz.f4 [] false w args ∧ laidMetH Tryz.prog Rows.booksNoneRow.laid w) ∧ sizedMet enc Tryz.prog Tryz.f4 (OpenSpec.ofChange Rows.booksNoneSpec) false w args)
      (Rows.booksNoneSpec.post enc Tryz.prog Tryz.f4 false true false false) := by
  refine returnsInHanded_of_change_and (C := Tryz.checked) (X := fun w _ => laidMetH Tryz.prog Rows.booksNoneRow.laid w) (fun _ _ _ hh h => h.of_heap hh) own_booksNone started (by kernel_rfl) Tryz.func4
    (ChangeSpec.witness_shaped (enc := enc) (C := Tryz.checked) (os := os) (X := fun w _ => laidMetH Tryz.prog Rows.booksNoneRow.laid w) false (World.laidAll Tryz.prog os Rows.booksNoneRow.laid) #[.agg #[.int .i64 0, .int .i64 0, .int .i64 0, .int .i64 0, .int .i64 0, .int .i64 0, .int .i64 0, .int .i64 0, .int .i64 0, .int .u64 0, .int .u64 0, .int .i64 0, .int .i64 0, .int .u64 0, .int .i64 0, .int .i64 0, .slice none 0 0], .agg #[.int .u64 0, .int .u64 0]] 8 (World.laidAll_os _ _ _)
      (World.shaped_of_ZipB (by kernel_rfl) (by kernel_rfl)) (by kernel_rfl) (by kernel_rfl) (by kernel_rfl)
      (by rw [MakeChecks.laidMetH_plain _ _ _ (by kernel_rfl)]; exact laidMet_laidAll _ (by kernel_rfl) (by kernel_rfl))) ?_
  intro W base args ds gs before hval0 hW _ _ hX _
  have hval : ∀ (j : Nat) t v, Tryz.f4.params[j]? = some t → args[j]? = some v → Value.okWide Tryz.prog W .any base t v := hval0
  have hW' := hW
  obtain ⟨p, q, hA0, hV, rfl, hfz, hnd⟩ := hW
  have hA : DataW.TrodAll enc Tryz.prog W 0 (fun _ => true) true Tryz.f4.params.toList args.toList ds p := hA0
  have hAk := hA
  rw [Tryz.params4] at hA hval
  obtain ⟨v0, vs0, d0, ds0, p0, q0, hargs, rfl, rfl, h0, r0⟩ := trodAll_cons hA
  obtain ⟨v1, vs1, d1, ds1, p1, q1, rfl, rfl, rfl, h1, r1⟩ := trodAll_cons r0
  obtain ⟨rfl, rfl, rfl⟩ := trodAll_nil r1
  obtain rfl : args = #[v0, v1] := by cases args; simp_all
  obtain ⟨rfl, rfl⟩ := trodVars_none hV
  have hr0 := open_mix_rel (ρ := fun _ => none) Tryz.underlying50 (n := 5) (ks := ksM) (by kernel_rfl) (hval 0 50 v0 rfl rfl) h0
  have hr1 := open_mix_rel (ρ := fun _ => none) Tryz.underlying30 (n := 5) (ks := ksU) (by kernel_rfl) (hval 1 30 v1 rfl rfl) h1
  clear hA0 hval0
  simp only [List.append_nil] at hW'
  refine (booksNone_walk #[v0, v1] ⟨hr0, hr1, trivial⟩ W (tab_of_row rfl hX)).mono fun e W' ⟨he, hg⟩ => ?_
  subst he
  exact ⟨_, rfl, post_of_old (pv := []) hW' (fun _ _ _ => (trodAll_cons_mk (shut_bool Tryz.underlying4 _) trodAll_mk0)) (fun sp hsp => TrodAll.old hg.1 (DataW.TrodAll.respare kids full (by rw [Tryz.params4]; decide +kernel) hAk (fun p hp => hsp p (by simpa using hp)))) (fun _ _ => rfl) (by simp)
    hg.1 hg.2.2.1 hg.2.2.2.1 (ok_one (by kernel_rfl) rfl (okWide_bool_mk Tryz.underlying4 _))⟩

set_option maxRecDepth 100000 in
theorem booksNone_joined : joinedFacts Tryz.pinned.checked.prog 4 Tryz.f4 Rows.booksNoneSpec Rows.booksNoneRow = true := booksNone_andT (booksNone_andT (booksNone_andT (booksNone_andT (booksNone_andT (booksNone_andT (booksNone_andT (booksNone_andT (booksNone_andT (booksNone_andT (booksNone_andT (booksNone_andT (booksNone_andT (booksNone_andT (booksNone_andT (booksNone_andT (booksNone_andT (booksNone_andT (booksNone_andT (booksNone_andT (booksNone_andT (booksNone_andT (booksNone_andT (booksNone_andT (booksNone_andT (booksNone_andT (booksNone_andT (booksNone_andT (booksNone_andT (booksNone_andT (booksNone_andT (booksNone_j0) booksNone_j1) booksNone_j2) booksNone_j3) booksNone_j4) booksNone_j5) booksNone_j6) booksNone_j7) booksNone_j8) booksNone_j9) booksNone_j10) booksNone_j11) booksNone_j12) booksNone_j13) booksNone_j14) booksNone_j15) booksNone_j16) booksNone_j17) booksNone_j18) booksNone_j19) booksNone_j20) booksNone_j21) booksNone_j22) booksNone_j23) booksNone_j24) booksNone_j25) booksNone_j26) booksNone_j27) booksNone_j28) booksNone_j29) booksNone_j30) booksNone_j31
theorem booksNone_row : Rows.BooksNoneSaid :=
  OpenClaim.holds_of_wide 4 Tryz.f4 rfl rfl rfl rfl rfl rfl rfl ⟨rfl, rfl, rfl, rfl, rfl⟩ rfl rfl rfl rfl rfl booksNone_named Tryz.func4 booksNone_joined booksNone_inst booksNone_wrap
    (fun os started H enc _ => booksNone_lifted os started H enc)

theorem booksNone : Rows.BooksNoneCardSaid :=
  Claim7.holds_tied_plain_at .later [] [.data] true (true, "932fc0f03646535bfee30a2da437bfb32ab08e5c21ed64927a4f88f59a185691") false booksNone_row (fun _ h => by cases h) booksNone_text (fun _ h => by cases h) booksNone_row_tie rfl ⟨rfl, rfl⟩ booksNone_main rfl
    (fun f fn hf hfn => by
      obtain rfl : f = 4 := Option.some.inj (booksNone_fn.symm.trans hf) |>.symm
      obtain rfl : fn = Tryz.f4 := (Option.some.inj (Tryz.func4.symm.trans hfn)).symm
      exact ⟨booksNone_looks, fun j t ht => by
        rw [Tryz.params4] at ht
        have hm : t ∈ [50, 30] := by simpa using Array.mem_of_getElem? ht
        exact (show Tryz.prog.wantsStandIn t = false by simpa using List.all_eq_true.1 booksNone_stand t hm)⟩)
    booksNone_goes
#print axioms booksNone
end Go.Proofs.YtdkoockhfmbcaaaGreatDoor
