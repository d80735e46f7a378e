/-
  An abstract evaluator of the model's code: the operations, and that each does in the model what it does here. Conditions: none; nothing here speaks of one program.
-/
import Derived.Test.YtdneelooepjdhaaEv
import Derived.Laws.StructEq
import Derived.Laws.Cells
import Derived.Laws.Entries
import Derived.Laws.Small
import Derived.Calls
namespace Go.Ev

def lits (cs : List Value) : Option (List Cel) := if cs.all litOK then some (cs.map .lit) else none

theorem lits_rel {ρ : PMap} {us : List Value} {cs : List Cel} (h : lits us = some cs) : All2 (CRel ρ) cs us := by
  unfold lits at h
  split at h
  · rename_i hall
    cases h
    rw [List.all_eq_true] at hall
    induction us with
    | nil => trivial
    | cons u us ih => exact ⟨⟨rfl, hall u (List.mem_cons_self ..)⟩, ih fun x hx => hall x (List.mem_cons_of_mem _ hx)⟩
  · cases h

def evA (ts : List AV) : Operand → Option AV
  | .tmp t => ts[t]?
  | .const v => if litOK v then some (.one (.lit v)) else none
  | .global g => some (.one (.lit (.pointer (some ⟨g, 0, none⟩))))
  | .func f => some (.one (.lit (.func (.func f) #[] #[])))

/-- Is a type a struct or an array; its cells. -/
def szA0 (P : Program) (t : TypeId) : Option (Bool × Nat) :=
  match P.info? t, P.underlying t with
  | some i, some d => some ((match d with | .struct _ | .array _ _ => true | _ => false), i.size)
  | _, _ => none
@[irreducible] noncomputable def szA (P : Program) (t : TypeId) : Option (Bool × Nat) := cacheF 1000 (szA0 P) t
@[irreducible] noncomputable def infoT (P : Program) (t : TypeId) : Option TypeInfo := cacheF 1000 P.info? t
@[irreducible] noncomputable def undT (P : Program) (t : TypeId) : Option TypeDesc := cacheF 1000 P.underlying t
theorem szA_eq (P : Program) (t : TypeId) : szA P t = szA0 P t := by unfold szA; exact cacheF_eq _ _ _
theorem infoT_eq (P : Program) (t : TypeId) : infoT P t = P.info? t := by unfold infoT; exact cacheF_eq _ _ _
theorem undT_eq (P : Program) (t : TypeId) : undT P t = P.underlying t := by unfold undT; exact cacheF_eq _ _ _

theorem run_isAgg {P : Program} {t : TypeId} {ag : Bool} {n : Nat} (h : szA P t = some (ag, n)) (w : World) : (isAgg t).run P w = .ok ag w := by
  rw [szA_eq] at h
  unfold szA0 at h
  split at h
  · rename_i i d hi hd
    simp only [Option.some.injEq, Prod.mk.injEq] at h
    unfold isAgg
    rw [Sem.run_bind, run_underlying hd]
    simp only [Result.andThen_ok]
    rw [← h.1]
    cases d <;> rfl
  · cases h

theorem run_typeInfo {P : Program} {t : TypeId} {i : TypeInfo} (h : P.info? t = some i) (w : World) : (typeInfo t).run P w = .ok i w := by
  simp [typeInfo, h]

theorem run_sizeOf {P : Program} {t : TypeId} {ag : Bool} {n : Nat} (h : szA P t = some (ag, n)) (w : World) : (sizeOf t).run P w = .ok n w := by
  rw [szA_eq] at h
  unfold szA0 at h
  split at h
  · rename_i i d hi hd
    simp only [Option.some.injEq, Prod.mk.injEq] at h
    simp [sizeOf, run_typeInfo hi, h.2]
  · cases h

/-- How many cells a value takes. -/
def wid : Bool → Nat → Nat
  | true, n => n
  | false, _ => 1

/-- A value of a type out of its cells. -/
def mkA (ag : Bool) (cs : List Cel) : Option AV :=
  match ag, cs with
  | true, cs => some (.agg cs)
  | false, [c] => some (.one c)
  | false, _ => none

def mkV (ag : Bool) (us : List Value) : Value :=
  match ag, us with
  | true, us => .agg us.toArray
  | false, u :: _ => u
  | false, [] => undef

theorem mkA_rel {ρ : PMap} {ag : Bool} {cs : List Cel} {us : List Value} {v : AV} (h : mkA ag cs = some v) (hr : All2 (CRel ρ) cs us) : VRel ρ v (mkV ag us) := by
  cases ag with
  | true => cases h; exact ⟨us.toArray, rfl, by simpa using hr⟩
  | false =>
    match cs, us, h, hr with
    | [c], [u], h, hr => cases h; exact hr.1

theorem szA_cells {ag : Bool} {us : List Value} (h : ag = true ∨ us.length = 1) (h1 : ∀ u ∈ us, u.oneCell' = true) : (mkV ag us).cells.toList = us := by
  cases ag with
  | true => rfl
  | false =>
    match us, h with
    | [u], _ => simp [mkV, cells_of_oneCell (h1 u (by simp))]

/-! ### Reading cells -/
def allSome {α : Type} : List (Option α) → Option (List α)
  | [] => some []
  | some x :: xs => (allSome xs).map (x :: ·)
  | none :: _ => none

theorem allSome_get {α : Type} : ∀ {xs : List (Option α)} {ys : List α}, allSome xs = some ys → xs.length = ys.length ∧ ∀ (i : Nat) (y : α), ys[i]? = some y → xs[i]? = some (some y)
  | [], ys, h => by cases h; exact ⟨rfl, fun i y hy => by simp at hy⟩
  | none :: _, _, h => by cases h
  | some x :: xs, ys, h => by
    simp only [allSome] at h
    cases hx : allSome xs with
    | none => rw [hx] at h; cases h
    | some zs =>
      rw [hx] at h
      cases h
      obtain ⟨h1, h2⟩ := allSome_get hx
      refine ⟨by simp [h1], fun i y hy => ?_⟩
      cases i with
      | zero => simp at hy; simp [hy]
      | succ i => simp only [List.getElem?_cons_succ] at hy ⊢; exact h2 i y hy

noncomputable def readC (H : Heap) (b off n : Nat) : Option (List Cel) :=
  match getN b H with
  | some (some blk) => takeS n (dropN off blk)
  | _ => none

theorem readC_ok {ρ : PMap} {H : Heap} {w : World} {b off n : Nat} {cs : List Cel} (h : readC H b off n = some cs) (hH : HeapRel ρ H w) :
    ∃ B o us, ρ b = some (B, o) ∧ us.length = n ∧ All2 (CRel ρ) cs us ∧ ∀ (i : Nat) (u : Value), us[i]? = some u → w.cell? ⟨B, o + off + i, none⟩ = some u := by
  unfold readC at h
  rw [getN_eq] at h
  split at h
  · rename_i blk hb
    · rw [dropN_eq] at h
      obtain ⟨hle, hln, hg⟩ := takeS_spec _ _ _ h
      rw [List.length_drop] at hle
      obtain ⟨B, o, hr, _, hrel⟩ := hH.blk b blk hb
      have hc : ∀ i, i < n → ∃ u, w.cell? ⟨B, o + off + i, none⟩ = some u ∧ ∀ c, cs[i]? = some c → CRel ρ c u := by
        intro i hi
        obtain ⟨_, u, hu, hcu⟩ := hrel (off + i) (by omega)
        refine ⟨u, by rw [Nat.add_assoc]; exact hu, fun c hci => hcu c ?_⟩
        have := hg i c hci
        rw [List.getElem?_drop] at this
        exact this
      refine ⟨B, o, (List.range n).map fun i => (w.cell? ⟨B, o + off + i, none⟩).getD undef, hr, by simp, ?_, ?_⟩
      · refine All2.of_get (by simp [hln]) fun i c u hci hui => ?_
        have hi : i < n := by
          rcases Nat.lt_or_ge i n with h' | h'
          · exact h'
          · rw [List.getElem?_eq_none (by omega)] at hci; cases hci
        obtain ⟨u', hu', hcu⟩ := hc i hi
        simp only [List.getElem?_map, List.getElem?_range hi, Option.map_some, Option.some.injEq] at hui
        rw [hu'] at hui
        simp only [Option.getD_some] at hui
        exact hui ▸ hcu c hci
      · intro i u hui
        have hi : i < n := by
          rcases Nat.lt_or_ge i n with h' | h'
          · exact h'
          · rw [List.getElem?_eq_none (by simpa using h')] at hui; cases hui
        obtain ⟨u', hu', _⟩ := hc i hi
        simp only [List.getElem?_map, List.getElem?_range hi, Option.map_some, Option.some.injEq] at hui
        rw [hu'] at hui ⊢
        simp only [Option.getD_some] at hui
        rw [hui]
  · cases h

theorem add_addr (B o n : Nat) : Addr.add ⟨B, o, none⟩ n = ⟨B, o + n, none⟩ := Addr.add_lit B o n

theorem run_load_cell {P : Program} {w : World} {a : Addr} {u : Value} (h : w.cell? a = some u) (m : Mode) : (load a m).run P w = .ok u w := by simp [h]

theorem run_loadVar {P : Program} {w : World} {t : TypeId} {ag : Bool} {n B o : Nat} {us : List Value} (hs : szA P t = some (ag, n)) (hl : us.length = wid ag n)
    (hc : ∀ (i : Nat) (u : Value), us[i]? = some u → w.cell? ⟨B, o + i, none⟩ = some u) : (loadVar t ⟨B, o, none⟩).run P w = .ok (mkV ag us) w := by
  unfold loadVar
  rw [Sem.run_bind, run_isAgg hs]
  simp only [Result.andThen_ok]
  cases ag with
  | true =>
    simp only [if_true, wid] at hl ⊢
    rw [Sem.run_bind, run_sizeOf hs]
    simp only [Result.andThen_ok, Sem.run_bind]
    have hlc := run_loadCells_list (P := P) w ⟨B, o, none⟩ us (fun j v hj => by rw [add_addr]; exact hc j v hj)
    rw [hl] at hlc
    rw [hlc]
    rfl
  | false =>
    match us, hl with
    | [u], _ =>
      simp only [Bool.false_eq_true, if_false]
      exact run_load_cell (hc 0 u rfl) .plain

/-! ### Writing cells -/
theorem SameBut.setCell (w : World) (B j k : Nat) (u : Value) : SameBut w (w.setCell ⟨B, j, none⟩ u) k fun j' => k = B ∧ j' = j := by
  unfold SameBut
  by_cases hk : k = B
  · subst hk
    simp only [World.setCell, Array.getElem?_modify, if_true]
    cases hh : w.heap[k]? with
    | none => simp
    | some x =>
      cases x with
      | cells c t fr =>
        simp only [Option.map_some, Option.isSome_none, Bool.false_eq_true, if_false, true_and]
        refine ⟨by simp, fun j' hj' => ?_⟩
        rw [Array.getElem?_setIfInBounds_ne (Ne.symm hj')]
      | _ => simp
  · simp only [World.setCell, Array.getElem?_modify, if_neg (Ne.symm hk)]
    split
    · rename_i h1 h2
      rw [h1] at h2
      cases h2
      exact ⟨rfl, rfl, rfl, fun _ _ => rfl⟩
    · rfl

/-- The cells from (B, o) on set one by one. -/
def setRow (w : World) (B : Nat) : Nat → List Value → World
  | _, [] => w
  | o, u :: us => setRow (w.setCell ⟨B, o, none⟩ u) B (o + 1) us

theorem setRow_same : ∀ (us : List Value) (w : World) (B o k : Nat), SameBut w (setRow w B o us) k fun j => k = B ∧ o ≤ j ∧ j < o + us.length
  | [], w, B, o, k => SameBut.refl _ _ _
  | u :: us, w, B, o, k =>
    SameBut.trans ((SameBut.setCell w B o k u).mono fun j ⟨h1, h2⟩ => ⟨h1, by omega, by simp; omega⟩)
      ((setRow_same us _ B (o + 1) k).mono fun j ⟨h1, h2, h3⟩ => ⟨h1, by omega, by simp; omega⟩)

theorem setRow_size : ∀ (us : List Value) (w : World) (B o : Nat), (setRow w B o us).heap.size = w.heap.size
  | [], _, _, _ => rfl
  | _ :: us, w, B, o => by simp only [setRow]; rw [setRow_size us]; simp

theorem setRow_misc : ∀ (us : List Value) (w : World) (B o : Nat), (setRow w B o us).os = w.os ∧ (setRow w B o us).tape = w.tape ∧ (setRow w B o us).output = w.output
  | [], _, _, _ => ⟨rfl, rfl, rfl⟩
  | _ :: us, w, B, o => by simp only [setRow]; exact setRow_misc us _ B (o + 1)

theorem setRow_get : ∀ (us : List Value) (w : World) (B o : Nat), (∀ i, i < us.length → ∃ u, w.cell? ⟨B, o + i, none⟩ = some u) → ∀ (i : Nat) (u : Value), us[i]? = some u → (setRow w B o us).cell? ⟨B, o + i, none⟩ = some u
  | [], _, _, _, _, i, u, h => by simp at h
  | x :: us, w, B, o, hc, 0, u, h => by
    simp only [List.getElem?_cons_zero, Option.some.injEq] at h
    subst h
    obtain ⟨u0, hu0⟩ := hc 0 (by simp)
    simp only [Nat.add_zero] at hu0 ⊢
    simp only [setRow]
    rw [(setRow_same us (w.setCell ⟨B, o, none⟩ x) B (o + 1) B).cell (by rintro ⟨_, h2, _⟩; omega)]
    exact World.cell?_setCell_same w ⟨B, o, none⟩ x hu0
  | x :: us, w, B, o, hc, i + 1, u, h => by
    simp only [List.getElem?_cons_succ] at h
    simp only [setRow]
    have := setRow_get us (w.setCell ⟨B, o, none⟩ x) B (o + 1) (fun i hi => by
      obtain ⟨u0, hu0⟩ := hc (i + 1) (by simp; omega)
      rw [show o + 1 + i = o + (i + 1) by omega]
      exact (SameBut.setCell w B o B x).some hu0) i u h
    rw [show o + 1 + i = o + (i + 1) by omega] at this
    exact this

theorem run_storeCells {P : Program} (B : Nat) : ∀ (us : List Value) (w : World) (o i : Nat), (∀ j, j < us.length → (∃ u, w.cell? ⟨B, o + i + j, none⟩ = some u) ∧ w.frozen? ⟨B, o + i + j, none⟩ = false) → (∀ u ∈ us, u.oneCell' = true) →
    (storeCells ⟨B, o, none⟩ us i).run P w = .ok () (setRow w B (o + i) us)
  | [], w, o, i, _, _ => rfl
  | u :: us, w, o, i, hc, h1 => by
    obtain ⟨⟨u0, hu0⟩, hf⟩ := hc 0 (by simp)
    simp only [Nat.add_zero] at hu0 hf
    have hrun : (store ⟨B, o + i, none⟩ u).run P w = .ok () (w.setCell ⟨B, o + i, none⟩ u) := by
      have := run_store P w ⟨B, o + i, none⟩ u .plain (h1 u (by simp))
      rw [this]
      simp [hu0, hf]
    simp only [storeCells, Sem.run_bind, add_addr, hrun, Result.andThen_ok]
    have ih := run_storeCells (P := P) B us (w.setCell ⟨B, o + i, none⟩ u) o (i + 1) (fun j hj => by
      obtain ⟨⟨u1, hu1⟩, hf1⟩ := hc (j + 1) (by simp; omega)
      rw [show o + (i + 1) + j = o + i + (j + 1) by omega]
      exact ⟨(SameBut.setCell w B (o + i) B u).some hu1, by rw [(SameBut.setCell w B (o + i) B u).frozen]; exact hf1⟩) (fun x hx => h1 x (List.mem_cons_of_mem _ hx))
    rw [ih]
    rfl
end Go.Ev
