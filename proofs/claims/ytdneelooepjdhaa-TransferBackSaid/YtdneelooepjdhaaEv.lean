/-
  An abstract evaluator of the model's code: the abstract cells, values and heap, and how they stand for the model's ones. Conditions: none; nothing here speaks of one program.
-/

import Derived.Test.YtdneelooepjdhaaEvTr
import Derived.Laws.World
import Derived.Laws.Sem
namespace Go.Ev

/-- One abstract cell: a value that names no block of the heap's part in view; a pointer; a slice. -/
inductive Cel where
  | lit (v : Value)
  | ptr (b off : Nat)
  | sl (b off len cap : Nat)
  deriving Inhabited

/-- A value of one cell, in the range of its kind. -/
def litOK : Value → Bool
  | .agg _ => false
  | .tuple _ => false
  | .int k n => decide (k.min ≤ n) && decide (n ≤ k.max)
  | .string s => decide (s.size ≤ 9223372036854775807)
  | .slice _ n c => decide (n ≤ c) && decide (c ≤ 9223372036854775807)
  | _ => true

theorem litOK_one {v : Value} (h : litOK v = true) : v.oneCell' = true := by
  cases v <;> first | rfl | cases h

/-- Where the abstract blocks lie: block and offset. -/
abbrev PMap := Nat → Option (Nat × Nat)

def CRel (ρ : PMap) : Cel → Value → Prop
  | .lit v, u => u = v ∧ litOK v = true
  | .ptr b off, u => ∃ B o, ρ b = some (B, o) ∧ u = .pointer (some ⟨B, o + off, none⟩)
  | .sl b off len cap, u => (∃ B o, ρ b = some (B, o) ∧ u = .slice (some ⟨B, o + off, none⟩) len cap) ∧ len ≤ cap ∧ cap ≤ 9223372036854775807

def All2 {α β : Type} (R : α → β → Prop) : List α → List β → Prop
  | [], [] => True
  | a :: as, b :: bs => R a b ∧ All2 R as bs
  | _, _ => False

theorem All2.mono {α β : Type} {R R' : α → β → Prop} (h : ∀ a b, R a b → R' a b) : ∀ {as : List α} {bs : List β}, All2 R as bs → All2 R' as bs
  | [], [], _ => trivial
  | _ :: _, _ :: _, ⟨h1, h2⟩ => ⟨h _ _ h1, h2.mono h⟩
  | [], _ :: _, h => h
  | _ :: _, [], h => h

theorem All2.length {α β : Type} {R : α → β → Prop} : ∀ {as : List α} {bs : List β}, All2 R as bs → as.length = bs.length
  | [], [], _ => rfl
  | _ :: _, _ :: _, ⟨_, h2⟩ => by simp [h2.length]
  | [], _ :: _, h => h.elim
  | _ :: _, [], h => h.elim

theorem All2.get {α β : Type} {R : α → β → Prop} : ∀ {as : List α} {bs : List β}, All2 R as bs → ∀ (i : Nat) (a : α), as[i]? = some a → ∃ b, bs[i]? = some b ∧ R a b
  | [], [], _, i, a, h => by simp at h
  | x :: _, y :: _, ⟨h1, h2⟩, 0, a, h => by
    simp only [List.getElem?_cons_zero, Option.some.injEq] at h
    subst h
    exact ⟨y, by simp, h1⟩
  | _ :: _, _ :: _, ⟨_, h2⟩, i + 1, a, h => by
    simp only [List.getElem?_cons_succ] at h ⊢
    exact h2.get i a h
  | [], _ :: _, h, _, _, _ => h.elim
  | _ :: _, [], h, _, _, _ => h.elim

theorem All2.of_get {α β : Type} {R : α → β → Prop} : ∀ {as : List α} {bs : List β}, as.length = bs.length → (∀ (i : Nat) (a : α) (b : β), as[i]? = some a → bs[i]? = some b → R a b) → All2 R as bs
  | [], [], _, _ => trivial
  | a :: as, b :: bs, hl, h => ⟨h 0 a b (by simp) (by simp), All2.of_get (by simpa using hl) fun i x y hx hy => h (i + 1) x y (by simpa using hx) (by simpa using hy)⟩
  | [], _ :: _, hl, _ => by simp at hl
  | _ :: _, [], hl, _ => by simp at hl

theorem All2.append {α β : Type} {R : α → β → Prop} : ∀ {as : List α} {bs : List β} {as' : List α} {bs' : List β}, All2 R as bs → All2 R as' bs' → All2 R (as ++ as') (bs ++ bs')
  | [], [], _, _, _, h => h
  | _ :: _, _ :: _, _, _, ⟨h1, h2⟩, h => ⟨h1, h2.append h⟩
  | [], _ :: _, _, _, h, _ => h.elim
  | _ :: _, [], _, _, h, _ => h.elim

theorem All2.drop {α β : Type} {R : α → β → Prop} : ∀ (n : Nat) {as : List α} {bs : List β}, All2 R as bs → All2 R (as.drop n) (bs.drop n)
  | 0, _, _, h => h
  | _ + 1, [], [], _ => trivial
  | n + 1, _ :: _, _ :: _, ⟨_, h2⟩ => h2.drop n
  | _ + 1, [], _ :: _, h => h.elim
  | _ + 1, _ :: _, [], h => h.elim

theorem All2.take {α β : Type} {R : α → β → Prop} : ∀ (n : Nat) {as : List α} {bs : List β}, All2 R as bs → All2 R (as.take n) (bs.take n)
  | 0, _, _, _ => by simp [All2]
  | _ + 1, [], [], _ => trivial
  | n + 1, _ :: _, _ :: _, ⟨h1, h2⟩ => ⟨h1, h2.take n⟩
  | _ + 1, [], _ :: _, h => h.elim
  | _ + 1, _ :: _, [], h => h.elim

theorem All2.set {α β : Type} {R : α → β → Prop} {x : α} {y : β} (hxy : R x y) : ∀ (n : Nat) {as : List α} {bs : List β}, All2 R as bs → All2 R (as.set n x) (bs.set n y)
  | 0, [], [], _ => trivial
  | 0, _ :: _, _ :: _, ⟨_, h2⟩ => ⟨hxy, h2⟩
  | _ + 1, [], [], _ => trivial
  | n + 1, _ :: _, _ :: _, ⟨h1, h2⟩ => ⟨h1, h2.set hxy n⟩
  | 0, [], _ :: _, h => h.elim
  | 0, _ :: _, [], h => h.elim
  | _ + 1, [], _ :: _, h => h.elim
  | _ + 1, _ :: _, [], h => h.elim

theorem All2.replicate {α β : Type} {R : α → β → Prop} {x : α} {y : β} (h : R x y) : ∀ n : Nat, All2 R (List.replicate n x) (List.replicate n y)
  | 0 => trivial
  | n + 1 => ⟨h, All2.replicate h n⟩

/-- An abstract value: one cell, a struct or array by its cells, a tuple of such. -/
inductive AV where
  | one (c : Cel)
  | agg (xs : List Cel)
  | tup (vs : List (Bool × List Cel))
  deriving Inhabited

def PRel (ρ : PMap) : Bool × List Cel → Value → Prop
  | (true, xs), u => ∃ us, u = .agg us ∧ All2 (CRel ρ) xs us.toList
  | (false, [c]), u => CRel ρ c u
  | _, _ => False

def VRel (ρ : PMap) : AV → Value → Prop
  | .one c, u => CRel ρ c u
  | .agg xs, u => ∃ us, u = .agg us ∧ All2 (CRel ρ) xs us.toList
  | .tup vs, u => ∃ us, u = .tuple us ∧ All2 (PRel ρ) vs us.toList

def PMap.le (ρ ρ' : PMap) : Prop := ∀ b x, ρ b = some x → ρ' b = some x
theorem PMap.le.refl (ρ : PMap) : PMap.le ρ ρ := fun _ _ h => h
theorem PMap.le.trans {ρ ρ' ρ'' : PMap} (h : PMap.le ρ ρ') (h' : PMap.le ρ' ρ'') : PMap.le ρ ρ'' := fun b x hx => h' b x (h b x hx)

theorem CRel.mono {ρ ρ' : PMap} (h : PMap.le ρ ρ') : ∀ {c : Cel} {u : Value}, CRel ρ c u → CRel ρ' c u
  | .lit _, _, hc => hc
  | .ptr _ _, _, ⟨B, o, h1, h2⟩ => ⟨B, o, h _ _ h1, h2⟩
  | .sl _ _ _ _, _, ⟨⟨B, o, h1, h2⟩, h3⟩ => ⟨⟨B, o, h _ _ h1, h2⟩, h3⟩

theorem PRel.mono {ρ ρ' : PMap} (h : PMap.le ρ ρ') : ∀ {p : Bool × List Cel} {u : Value}, PRel ρ p u → PRel ρ' p u
  | (true, _), _, ⟨us, h1, h2⟩ => ⟨us, h1, h2.mono fun _ _ => CRel.mono h⟩
  | (false, [_]), _, hc => CRel.mono (ρ := ρ) h hc
  | (false, []), _, hc => hc.elim
  | (false, _ :: _ :: _), _, hc => hc.elim

theorem VRel.mono {ρ ρ' : PMap} (h : PMap.le ρ ρ') : ∀ {v : AV} {u : Value}, VRel ρ v u → VRel ρ' v u
  | .one _, _, hc => CRel.mono h hc
  | .agg _, _, ⟨us, h1, h2⟩ => ⟨us, h1, h2.mono fun _ _ => CRel.mono h⟩
  | .tup _, _, ⟨us, h1, h2⟩ => ⟨us, h1, h2.mono fun _ _ => PRel.mono h⟩

theorem CRel.oneCell {ρ : PMap} : ∀ {c : Cel} {u : Value}, CRel ρ c u → u.oneCell' = true
  | .lit _, _, ⟨h1, h2⟩ => h1 ▸ litOK_one h2
  | .ptr _ _, _, ⟨_, _, _, h2⟩ => by subst h2; rfl
  | .sl _ _ _ _, _, ⟨⟨_, _, _, h2⟩, _⟩ => by subst h2; rfl

/-- The cells of an abstract value. -/
def AV.cels : AV → Option (List Cel)
  | .one c => some [c]
  | .agg xs => some xs
  | .tup _ => none

theorem cells_of_oneCell {u : Value} (h : u.oneCell' = true) : u.cells = #[u] := by
  cases u <;> first | rfl | cases h

theorem VRel.cels {ρ : PMap} {v : AV} {u : Value} {cs : List Cel} (h : VRel ρ v u) (hc : v.cels = some cs) : All2 (CRel ρ) cs u.cells.toList := by
  cases v with
  | one c =>
    simp only [AV.cels, Option.some.injEq] at hc
    subst hc
    have h' : CRel ρ c u := h
    rw [cells_of_oneCell h'.oneCell]
    exact ⟨h', trivial⟩
  | agg xs =>
    simp only [AV.cels, Option.some.injEq] at hc
    subst hc
    obtain ⟨us, rfl, h2⟩ := h
    exact h2
  | tup vs => cases hc

/-! ### The heap -/

/-- A block: its cells, each known or not. A heap: its blocks, each in view or not. -/
abbrev Blk := List (Option Cel)
abbrev Heap := List (Option Blk)

/-- What block 'blk' says of the world at (B, o). -/
def BlkRel (ρ : PMap) (blk : Blk) (w : World) (B o : Nat) : Prop :=
  ∀ i, i < blk.length → w.frozen? ⟨B, o + i, none⟩ = false ∧ ∃ u, w.cell? ⟨B, o + i, none⟩ = some u ∧ ∀ c, blk[i]? = some (some c) → CRel ρ c u

structure HeapRel (ρ : PMap) (H : Heap) (w : World) : Prop where
  blk : ∀ (b : Nat) (blk : Blk), H[b]? = some (some blk) → ∃ B o, ρ b = some (B, o) ∧ B < w.heap.size ∧ BlkRel ρ blk w B o
  inj : ∀ (b b' : Nat) (blk blk' : Blk) (B o o' : Nat), H[b]? = some (some blk) → H[b']? = some (some blk') → ρ b = some (B, o) → ρ b' = some (B, o') → b = b'

/-- What an operation does: cells of blocks in view that it writes, and new blocks. -/
structure Eff where
  writes : List (Nat × Nat × Cel) := []
  news : List (Option Blk) := []
  deriving Inhabited

def setCelB (blk : Option Blk) (i : Nat) (c : Option Cel) : Option Blk := blk.map fun l => l.set i c
def setCel (H : Heap) (b i : Nat) (c : Option Cel) : Heap := H.modify b fun blk => setCelB blk i c
def setAll (H : Heap) : List (Nat × Nat × Cel) → Heap
  | [] => H
  | (b, i, c) :: ws => setAll (setCel H b i (some c)) ws
def applyEff (H : Heap) (e : Eff) : Heap := setAll H e.writes ++ e.news

/-- Concrete block k is in w' as it was in w, but for the cells that 'may' names. -/
def SameBut (w w' : World) (k : Nat) (may : Nat → Prop) : Prop :=
  match w.heap[k]?, w'.heap[k]? with
  | some (.cells c t fr), some (.cells c' t' fr') => t' = t ∧ fr' = fr ∧ c'.size = c.size ∧ ∀ j : Nat, ¬ may j → c'[j]? = c[j]?
  | o, o' => o' = o

theorem SameBut.refl (w : World) (k : Nat) (may : Nat → Prop) : SameBut w w k may := by
  unfold SameBut
  split
  · rename_i h1 h2
    rw [h1] at h2
    cases h2
    exact ⟨rfl, rfl, rfl, fun _ _ => rfl⟩
  · rfl

theorem SameBut.of_eq {w w' : World} {k : Nat} (h : w'.heap[k]? = w.heap[k]?) (may : Nat → Prop) : SameBut w w' k may := by
  unfold SameBut
  rw [h]
  split
  · rename_i h1 h2
    rw [h1] at h2
    cases h2
    exact ⟨rfl, rfl, rfl, fun _ _ => rfl⟩
  · rfl

theorem SameBut.mono {w w' : World} {k : Nat} {may may' : Nat → Prop} (h : SameBut w w' k may) (hm : ∀ j, may j → may' j) : SameBut w w' k may' := by
  unfold SameBut at *
  split
  · rename_i c t fr c' t' fr' h1 h2
    rw [h1, h2] at h
    exact ⟨h.1, h.2.1, h.2.2.1, fun j hj => h.2.2.2 j fun hh => hj (hm j hh)⟩
  · rename_i o o' hn
    split at h
    · rename_i c t fr c' t' fr' h1 h2
      exact absurd h2 (by intro h2; exact hn _ _ _ _ _ _ h1 h2)
    · exact h

theorem SameBut.trans {a b c : World} {k : Nat} {may : Nat → Prop} (h : SameBut a b k may) (h' : SameBut b c k may) : SameBut a c k may := by
  unfold SameBut at *
  cases ha : a.heap[k]? with
  | none =>
    rw [ha] at h
    have hb : b.heap[k]? = none := h
    rw [hb] at h'
    exact h'
  | some x =>
    cases x with
    | cells cs t fr =>
      rw [ha] at h
      cases hb : b.heap[k]? with
      | none => rw [hb] at h; cases h
      | some y =>
        cases y with
        | cells cs1 t1 fr1 =>
          rw [hb] at h h'
          cases hc : c.heap[k]? with
          | none => rw [hc] at h'; cases h'
          | some z =>
            cases z with
            | cells cs2 t2 fr2 =>
              rw [hc] at h'
              exact ⟨h'.1.trans h.1, h'.2.1.trans h.2.1, h'.2.2.1.trans h.2.2.1, fun j hj => (h'.2.2.2 j hj).trans (h.2.2.2 j hj)⟩
            | _ => rw [hc] at h'; cases h'
        | _ => rw [hb] at h; cases h
    | _ =>
      rw [ha] at h
      have hb := h
      simp only at hb
      rw [hb] at h'
      exact h'

theorem SameBut.cell {w w' : World} {k : Nat} {may : Nat → Prop} (h : SameBut w w' k may) {j : Nat} (hj : ¬ may j) : w'.cell? ⟨k, j, none⟩ = w.cell? ⟨k, j, none⟩ := by
  unfold SameBut at h
  unfold World.cell?
  split at h
  · rename_i c t fr c' t' fr' h1 h2
    simp only [h1, h2]
    simpa using h.2.2.2 j hj
  · rw [h]

theorem SameBut.frozen {w w' : World} {k : Nat} {may : Nat → Prop} (h : SameBut w w' k may) (j : Nat) : w'.frozen? ⟨k, j, none⟩ = w.frozen? ⟨k, j, none⟩ := by
  unfold SameBut at h
  unfold World.frozen?
  split at h
  · rename_i c t fr c' t' fr' h1 h2
    simp only [h1, h2]
    rw [h.2.1]
  · rw [h]

/-- A cell that was there is there, whatever it holds. -/
theorem SameBut.some {w w' : World} {k : Nat} {may : Nat → Prop} (h : SameBut w w' k may) {j : Nat} {u : Value} (hu : w.cell? ⟨k, j, none⟩ = some u) : ∃ u', w'.cell? ⟨k, j, none⟩ = Option.some u' := by
  unfold SameBut at h
  unfold World.cell? at *
  split at h
  · rename_i c t fr c' t' fr' h1 h2
    simp only [h1, h2] at hu ⊢
    simp only [Option.isSome_none, Bool.false_eq_true, if_false] at hu ⊢
    have hlt : j < c.size := by
      rcases Nat.lt_or_ge j c.size with h' | h'
      · exact h'
      · rw [Array.getElem?_eq_none h'] at hu; cases hu
    exact ⟨c'[j]'(by omega), Array.getElem?_eq_getElem (by omega)⟩
  · rw [h]
    exact ⟨u, hu⟩

/-- The step from world w to w' that does 'e' to the blocks in view. -/
structure WEff (ρ ρ' : PMap) (n : Nat) (e : Eff) (w w' : World) : Prop where
  ext : PMap.le ρ ρ'
  new : ∀ b B o, ρ b = none → ρ' b = some (B, o) → n ≤ b ∧ b < n + e.news.length ∧ w.heap.size ≤ B
  os : (w'.os, w'.frozen?) = (w.os, w.frozen?)
  tape : w'.tape = w.tape
  output : w'.output = w.output
  size : w.heap.size ≤ w'.heap.size
  old : ∀ k, k < w.heap.size → SameBut w w' k fun j => ∃ b i c o, (b, i, c) ∈ e.writes ∧ ρ b = some (k, o) ∧ j = o + i
  wr : ∀ b i c, (b, i, c) ∈ e.writes → ∃ B o u, ρ b = some (B, o) ∧ w'.cell? ⟨B, o + i, none⟩ = some u ∧ CRel ρ' c u
  nw : ∀ k blk, e.news[k]? = some (some blk) → ∃ B o, ρ' (n + k) = some (B, o) ∧ w.heap.size ≤ B ∧ B < w'.heap.size ∧ BlkRel ρ' blk w' B o
  nwi : ∀ k k' blk blk' B o o', e.news[k]? = some (some blk) → e.news[k']? = some (some blk') → ρ' (n + k) = some (B, o) → ρ' (n + k') = some (B, o') → k = k'

theorem WEff.refl (ρ : PMap) (n : Nat) (w : World) : WEff ρ ρ n {} w w where
  ext := PMap.le.refl ρ
  new := fun b B o h1 h2 => by rw [h1] at h2; cases h2
  os := rfl
  tape := rfl
  output := rfl
  size := Nat.le_refl _
  old := fun _ _ => SameBut.refl _ _ _
  wr := fun _ _ _ h => by cases h
  nw := fun k blk h => by simp at h
  nwi := fun k k' blk blk' B o o' h => by simp at h

theorem frozen_alloc (w : World) (c : Array Value) (t : TypeId) : (w.alloc (.cells c t)).frozen? = w.frozen? := by
  funext a
  unfold World.frozen?
  have e : (w.alloc (.cells c t)).heap[a.block]? = if a.block = w.heap.size then some (.cells c t) else w.heap[a.block]? := by
    show (w.heap.push _)[a.block]? = _
    rw [Array.getElem?_push]
  rw [e]
  by_cases h : a.block = w.heap.size
  · rw [if_pos h, h]
    simp
  · rw [if_neg h]

theorem cell?_lt {w : World} {B j : Nat} {u : Value} (h : w.cell? ⟨B, j, none⟩ = some u) : B < w.heap.size := World.block_lt_of_cell? w ⟨B, j, none⟩ h

/-- One new block with known cells. -/
theorem WEff.alloc {ρ : PMap} {n : Nat} {w : World} {cs : List Cel} {us : Array Value} {t : TypeId} (hcs : All2 (CRel ρ) cs us.toList) (hfr : ρ n = none) :
    WEff ρ (fun b => if b = n then some (w.heap.size, 0) else ρ b) n { news := [some (cs.map some)] } w (w.alloc (.cells us t)) := by
  have hle : PMap.le ρ (fun b => if b = n then some (w.heap.size, 0) else ρ b) := by
    intro b x hx
    by_cases h : b = n
    · subst h; rw [hfr] at hx; cases hx
    · simp [h, hx]
  have hz : ∀ (k : Nat) (blk : Blk), [some (cs.map some)][k]? = some (some blk) → k = 0 ∧ blk = cs.map some := by
    intro k blk h
    cases k with
    | zero => simp at h; exact ⟨rfl, h.symm⟩
    | succ k => simp at h
  exact {
    ext := hle
    new := fun b B o h1 h2 => by
      by_cases h : b = n
      · subst h; simp at h2; simp [h2]
      · simp [h, h1] at h2
    os := Prod.ext rfl (frozen_alloc w us t)
    tape := rfl
    output := rfl
    size := by simp
    old := fun k hk => SameBut.of_eq (by show (w.heap.push _)[k]? = _; rw [Array.getElem?_push, if_neg (by omega)]) _
    wr := fun _ _ _ h => by cases h
    nw := fun k blk h => by
      obtain ⟨rfl, rfl⟩ := hz k blk h
      refine ⟨w.heap.size, 0, by simp, Nat.le_refl _, by simp, ?_⟩
      intro i hi
      simp only [List.length_map] at hi
      have hl := hcs.length
      have hget : cs[i]? = some cs[i] := List.getElem?_eq_getElem hi
      obtain ⟨u, hu, hc⟩ := hcs.get i _ hget
      refine ⟨by simp, u, ?_, ?_⟩
      · rw [Nat.zero_add, World.cell?_alloc_new, ← Array.getElem?_toList]; exact hu
      · intro c hcc
        simp only [List.getElem?_map, hget, Option.map_some, Option.some.injEq] at hcc
        exact CRel.mono hle (hcc ▸ hc)
    nwi := fun k k' blk blk' B o o' h h' _ _ => by
      obtain ⟨rfl, _⟩ := hz k blk h
      obtain ⟨rfl, _⟩ := hz k' blk' h'
      rfl }

/-! ### What stands behind an effect -/

theorem length_setCel (H : Heap) (b i : Nat) (c : Option Cel) : (setCel H b i c).length = H.length := by simp [setCel]
theorem length_setAll : ∀ (H : Heap) (ws : List (Nat × Nat × Cel)), (setAll H ws).length = H.length
  | _, [] => rfl
  | H, (b, i, c) :: ws => by simp only [setAll]; rw [length_setAll, length_setCel]
theorem length_applyEff (H : Heap) (e : Eff) : (applyEff H e).length = H.length + e.news.length := by simp [applyEff, length_setAll]

theorem setCel_get (H : Heap) (b i b' : Nat) (c : Option Cel) : (setCel H b i c)[b']? = if b' = b then (H[b']?).map (fun blk => setCelB blk i c) else H[b']? := by
  unfold setCel
  rw [List.getElem?_modify]
  by_cases h : b' = b
  · subst h; simp
  · simp [h, Ne.symm h]

/-- A block behind the writes: it was there, as long, and each known cell is either what it was and not written, or what a write put there. -/
theorem setAll_get : ∀ (ws : List (Nat × Nat × Cel)) (H : Heap) (b : Nat) (blk : Blk), (setAll H ws)[b]? = some (some blk) →
    ∃ blk0, H[b]? = some (some blk0) ∧ blk.length = blk0.length ∧ ∀ i c, blk[i]? = some (some c) → ((blk0[i]? = some (some c)) ∧ ∀ c', (b, i, c') ∉ ws) ∨ (b, i, c) ∈ ws
  | [], H, b, blk, h => ⟨blk, h, rfl, fun i c hc => .inl ⟨hc, fun _ hm => by cases hm⟩⟩
  | (b1, i1, c1) :: ws, H, b, blk, h => by
    simp only [setAll] at h
    obtain ⟨blk0, h0, hl, hc⟩ := setAll_get ws _ b blk h
    rw [setCel_get] at h0
    by_cases hb : b = b1
    · subst hb
      simp only [if_true] at h0
      cases hH : H[b]? with
      | none => rw [hH] at h0; cases h0
      | some x =>
        rw [hH] at h0
        cases x with
        | none => simp [setCelB] at h0
        | some l =>
          simp only [Option.map_some, setCelB, Option.some.injEq] at h0
          subst h0
          refine ⟨l, rfl, by simpa using hl, fun i c hi => ?_⟩
          rcases hc i c hi with ⟨h1, h2⟩ | h1
          · by_cases hii : i1 = i
            · subst hii
              rw [List.getElem?_set] at h1
              simp only [if_true] at h1
              split at h1
              · simp only [Option.some.injEq] at h1
                subst h1
                exact .inr (List.mem_cons_self ..)
              · cases h1
            · rw [List.getElem?_set_ne hii] at h1
              refine .inl ⟨h1, fun c' hm => ?_⟩
              rcases List.mem_cons.1 hm with hm | hm
              · simp only [Prod.mk.injEq] at hm; exact hii hm.2.1.symm
              · exact h2 c' hm
          · exact .inr (List.mem_cons_of_mem _ h1)
    · simp only [hb, if_false] at h0
      refine ⟨blk0, h0, hl, fun i c hi => ?_⟩
      rcases hc i c hi with ⟨h1, h2⟩ | h1
      · refine .inl ⟨h1, fun c' hm => ?_⟩
        rcases List.mem_cons.1 hm with hm | hm
        · simp only [Prod.mk.injEq] at hm; exact hb hm.1
        · exact h2 c' hm
      · exact .inr (List.mem_cons_of_mem _ h1)

/-- The writes hit cells of blocks in view. -/
def Eff.wf (H : Heap) (e : Eff) : Prop := ∀ b i c, (b, i, c) ∈ e.writes → ∃ blk : Blk, H[b]? = some (some blk) ∧ i < blk.length

/-- Block by block, heap H'' is H behind the effect, the new blocks from n on. -/
def StepTo (H : Heap) (n : Nat) (e : Eff) (H'' : Heap) : Prop :=
  ∀ (b : Nat) (blk : Blk), H''[b]? = some (some blk) →
    (n ≤ b ∧ b < n + e.news.length ∧ e.news[b - n]? = some (some blk)) ∨
    (¬ (n ≤ b ∧ b < n + e.news.length) ∧ ∃ blk0 : Blk, H[b]? = some (some blk0) ∧ blk.length = blk0.length ∧
      ∀ i c, blk[i]? = some (some c) → ((blk0[i]? = some (some c)) ∧ ∀ c', (b, i, c') ∉ e.writes) ∨ (b, i, c) ∈ e.writes)

theorem StepTo.apply (H : Heap) (e : Eff) : StepTo H H.length e (applyEff H e) := by
  intro b blk hb
  have hlen := length_setAll H e.writes
  unfold applyEff at hb
  rcases Nat.lt_or_ge b H.length with hlt | hge
  · rw [List.getElem?_append_left (by omega)] at hb
    exact .inr ⟨by omega, setAll_get _ _ _ _ hb⟩
  · rw [List.getElem?_append_right (by omega), hlen] at hb
    have : b - H.length < e.news.length := by
      rcases Nat.lt_or_ge (b - H.length) e.news.length with h | h
      · exact h
      · rw [List.getElem?_eq_none h] at hb; cases hb
    exact .inl ⟨hge, by omega, hb⟩

/-- Behind an effect the heap in view stands for the world. -/
theorem HeapRel.stepTo {ρ ρ' : PMap} {H H'' : Heap} {n : Nat} {e : Eff} {w w' : World} (h : HeapRel ρ H w) (s : WEff ρ ρ' n e w w')
    (hwf : ∀ b i c, (b, i, c) ∈ e.writes → ∃ blk : Blk, H[b]? = some (some blk)) (hst : StepTo H n e H'') : HeapRel ρ' H'' w' := by
  have oldρ : ∀ (b : Nat) (blk0 : Blk) (B o : Nat), H[b]? = some (some blk0) → ρ' b = some (B, o) → ρ b = some (B, o) ∧ B < w.heap.size := by
    intro b blk0 B o h0 hr
    obtain ⟨B1, o1, hr1, hB1, _⟩ := h.blk b blk0 h0
    have := s.ext _ _ hr1
    rw [hr] at this
    cases this
    exact ⟨hr1, hB1⟩
  have newρ : ∀ (b : Nat) (blk : Blk) (B o : Nat), n ≤ b → e.news[b - n]? = some (some blk) → ρ' b = some (B, o) → w.heap.size ≤ B := by
    intro b blk B o hge hn hr
    obtain ⟨B1, o1, hr1, hB1, _, _⟩ := s.nw _ _ hn
    rw [show n + (b - n) = b by omega, hr] at hr1
    cases hr1
    exact hB1
  refine ⟨fun b blk hb => ?_, fun b b' blk blk' B o o' hb hb' hr hr' => ?_⟩
  · rcases hst b blk hb with ⟨hge, _, hn⟩ | ⟨_, blk0, h0, hl, hc⟩
    · obtain ⟨B, o, hr, _, hBs, hrel⟩ := s.nw _ _ hn
      rw [show n + (b - n) = b by omega] at hr
      exact ⟨B, o, hr, hBs, hrel⟩
    · obtain ⟨B, o, hr, hBs, hrel⟩ := h.blk b blk0 h0
      refine ⟨B, o, s.ext _ _ hr, Nat.lt_of_lt_of_le hBs s.size, fun i hi => ?_⟩
      obtain ⟨hf, u, hu, hcu⟩ := hrel i (by omega)
      have hsb := s.old B hBs
      refine ⟨by rw [hsb.frozen]; exact hf, ?_⟩
      by_cases hmay : ∃ b1 i1 c1 o1, (b1, i1, c1) ∈ e.writes ∧ ρ b1 = some (B, o1) ∧ o + i = o1 + i1
      · obtain ⟨b1, i1, c1, o1, hm, hr1, hoi⟩ := hmay
        obtain ⟨u', hu'⟩ := hsb.some hu
        refine ⟨u', hu', fun c hci => ?_⟩
        rcases hc i c hci with ⟨h1, h2⟩ | h1
        · exfalso
          obtain ⟨blk1, h1b⟩ := hwf _ _ _ hm
          have hbb := h.inj b1 b blk1 blk0 B o1 o h1b h0 hr1 hr
          subst hbb
          rw [hr] at hr1
          simp only [Option.some.injEq, Prod.mk.injEq] at hr1
          have : i1 = i := by omega
          subst this
          exact h2 c1 hm
        · obtain ⟨B2, o2, u2, hr2, hu2, hc2⟩ := s.wr b i c h1
          rw [hr] at hr2
          simp only [Option.some.injEq, Prod.mk.injEq] at hr2
          obtain ⟨rfl, rfl⟩ := hr2
          rw [hu'] at hu2
          cases hu2
          exact hc2
      · refine ⟨u, by rw [hsb.cell (by simpa using hmay)]; exact hu, fun c hci => ?_⟩
        rcases hc i c hci with ⟨h1, _⟩ | h1
        · exact (hcu c h1).mono s.ext
        · exact absurd ⟨b, i, c, o, h1, hr, rfl⟩ hmay
  · rcases hst b blk hb with ⟨hge, _, hn⟩ | ⟨_, blk0, h0, _, _⟩ <;> rcases hst b' blk' hb' with ⟨hge', _, hn'⟩ | ⟨_, blk0', h0', _, _⟩
    · have := s.nwi (b - n) (b' - n) blk blk' B o o' hn hn' (by rw [show n + (b - n) = b by omega]; exact hr) (by rw [show n + (b' - n) = b' by omega]; exact hr')
      omega
    · have h1 := (oldρ b' blk0' B o' h0' hr').2
      have h2 := newρ b blk B o hge hn hr
      omega
    · have h1 := (oldρ b blk0 B o h0 hr).2
      have h2 := newρ b' blk' B o' hge' hn' hr'
      omega
    · exact h.inj b b' blk0 blk0' B o o' h0 h0' (oldρ b blk0 B o h0 hr).1 (oldρ b' blk0' B o' h0' hr').1

theorem HeapRel.step {ρ ρ' : PMap} {H : Heap} {e : Eff} {w w' : World} (h : HeapRel ρ H w) (s : WEff ρ ρ' H.length e w w') (hwf : e.wf H) : HeapRel ρ' (applyEff H e) w' :=
  h.stepTo s (fun b i c hm => (hwf b i c hm).imp fun _ hh => hh.1) (StepTo.apply H e)

/-- What is known in H1 is so in H2. -/
def HLe (H1 H2 : Heap) : Prop :=
  ∀ (b : Nat) (blk : Blk), H1[b]? = some (some blk) → ∃ blk2 : Blk, H2[b]? = some (some blk2) ∧ blk.length = blk2.length ∧ ∀ (i : Nat) (c : Cel), blk[i]? = some (some c) → blk2[i]? = some (some c)

theorem HLe.refl (H : Heap) : HLe H H := fun _ blk h => ⟨blk, h, rfl, fun _ _ h => h⟩
theorem HLe.trans {H1 H2 H3 : Heap} (h : HLe H1 H2) (h' : HLe H2 H3) : HLe H1 H3 := fun b blk hb => by
  obtain ⟨k2, h2, l2, c2⟩ := h b blk hb
  obtain ⟨k3, h3, l3, c3⟩ := h' b k2 h2
  exact ⟨k3, h3, l2.trans l3, fun i c hc => c3 i c (c2 i c hc)⟩

theorem HeapRel.le {ρ : PMap} {H1 H2 : Heap} {w : World} (h : HeapRel ρ H2 w) (hle : HLe H1 H2) : HeapRel ρ H1 w := by
  refine ⟨fun b blk hb => ?_, fun b b' blk blk' B o o' hb hb' hr hr' => ?_⟩
  · obtain ⟨k2, h2, l2, c2⟩ := hle b blk hb
    obtain ⟨B, o, hr, hB, hrel⟩ := h.blk b k2 h2
    refine ⟨B, o, hr, hB, fun i hi => ?_⟩
    obtain ⟨hf, u, hu, hc⟩ := hrel i (by omega)
    exact ⟨hf, u, hu, fun c hci => hc c (c2 i c hci)⟩
  · obtain ⟨k2, h2, _, _⟩ := hle b blk hb
    obtain ⟨k2', h2', _, _⟩ := hle b' blk' hb'
    exact h.inj b b' k2 k2' B o o' h2 h2' hr hr'
end Go.Ev
