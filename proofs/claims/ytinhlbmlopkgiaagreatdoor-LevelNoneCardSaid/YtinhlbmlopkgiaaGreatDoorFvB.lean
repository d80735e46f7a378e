/-
  A second abstract evaluator of the model's code: what is done to a heap, and to the world. Conditions: none; nothing here speaks of one program.
-/
import Derived.Test.YtinhlbmlopkgiaaGreatDoorFvA
import Derived.Laws.StructEq
import Derived.Laws.Cells
import Derived.Laws.Entries
import Derived.Laws.Small
import Derived.Calls
namespace Go.Fv
noncomputable section

/-! ### Reading -/
def takeC (n : Nat) (l : Bk) : Option (List Cel) :=
  Nat.rec (motive := fun _ => Bk → Option (List Cel)) (fun _ => some [])
    (fun _ ih l => List.casesOn (motive := fun _ => Option (List Cel)) l none fun a t => Option.casesOn (motive := fun _ => Option (List Cel)) a none fun x =>
      Ct.casesOn (motive := fun _ => Option (List Cel)) x (fun y => Option.casesOn (motive := fun _ => Option (List Cel)) (ih t) none fun r => some (y :: r)) (fun _ _ => none) (fun _ _ _ _ => none) (fun _ _ _ _ _ _ _ => none) none) n l
def dropN {α : Type} (n : Nat) (l : List α) : List α :=
  Nat.rec (motive := fun _ => List α → List α) (fun l => l) (fun _ ih l => List.casesOn (motive := fun _ => List α) l [] fun _ t => ih t) n l
theorem dropN_eq {α : Type} : ∀ (n : Nat) (l : List α), dropN n l = l.drop n
  | 0, _ => rfl
  | _ + 1, [] => rfl
  | n + 1, _ :: l => by
    show dropN n l = _
    rw [dropN_eq n l]
    rfl
theorem takeC_spec : ∀ (n : Nat) (l : Bk) (cs : List Cel), takeC n l = some cs → cs.length = n ∧ ∀ (i : Nat) (c : Cel), cs[i]? = some c → l[i]? = some (some (.c c))
  | 0, l, cs, h => by
    cases h
    exact ⟨rfl, fun i c h => by simp at h⟩
  | n + 1, [], cs, h => by cases h
  | n + 1, none :: l, cs, h => by cases h
  | n + 1, some (.map _ _) :: l, cs, h => by cases h
  | n + 1, some (.iter _ _ _ _) :: l, cs, h => by cases h
  | n + 1, some (.loop _ _ _ _ _ _ _) :: l, cs, h => by cases h
  | n + 1, some .room :: l, cs, h => by cases h
  | n + 1, some (.c x) :: l, cs, h => by
    have h' : Option.casesOn (motive := fun _ => Option (List Cel)) (takeC n l) none (fun r => some (x :: r)) = some cs := h
    cases ht : takeC n l with
    | none => rw [ht] at h'; cases h'
    | some r =>
      rw [ht] at h'
      cases h'
      obtain ⟨h2, h3⟩ := takeC_spec n l r ht
      refine ⟨by simp [h2], fun i c hc => ?_⟩
      cases i with
      | zero => simpa using hc
      | succ i => exact h3 i c hc

/-- n cells from a place on, all known. -/
def HP.read (H : HP) (b off n : Nat) : Option (List Cel) :=
  match H.t.get b with
  | some k => takeC n (dropN off k)
  | none => none
theorem HP.read_spec {H : HP} {b off n : Nat} {cs : List Cel} (h : H.read b off n = some cs) : cs.length = n ∧ ∀ (i : Nat) (c : Cel), cs[i]? = some c → H.cell b (off + i) = some (.c c) := by
  unfold HP.read at h
  split at h
  · rename_i k hk
    rw [dropN_eq] at h
    obtain ⟨h1, h2⟩ := takeC_spec _ _ _ h
    refine ⟨h1, fun i c hc => ?_⟩
    have := h2 i c hc
    rw [List.getElem?_drop] at this
    unfold HP.cell
    rw [hk]
    simp only [Option.bind_some, Bk.get, this, Option.join_some]
  · cases h

/-! ### Writing -/
/-- Cells put in the place of known ones. -/
def putC (cs : List Cel) (l : Bk) : Option Bk :=
  List.rec (motive := fun _ => Bk → Option Bk) (fun l => some l)
    (fun c _ ih l => List.casesOn (motive := fun _ => Option Bk) l none fun a t => Option.casesOn (motive := fun _ => Option Bk) a none fun x =>
      Ct.casesOn (motive := fun _ => Option Bk) x (fun _ => Option.casesOn (motive := fun _ => Option Bk) (ih t) none fun r => some (some (.c c) :: r)) (fun _ _ => none) (fun _ _ _ _ => none) (fun _ _ _ _ _ _ _ => none) (Option.casesOn (motive := fun _ => Option Bk) (ih t) none fun r => some (some (.c c) :: r))) cs l
def putAt (off : Nat) (cs : List Cel) (l : Bk) : Option Bk :=
  Nat.rec (motive := fun _ => Bk → Option Bk) (fun l => putC cs l)
    (fun _ ih l => List.casesOn (motive := fun _ => Option Bk) l none fun a t => Option.casesOn (motive := fun _ => Option Bk) (ih t) none fun r => some (a :: r)) off l

/-- A place that may be written. -/
def Ct.plc : Ct → Prop
  | .c _ => True
  | .room => True
  | _ => False
theorem putC_spec : ∀ (cs : List Cel) (l l' : Bk), putC cs l = some l' → l'.length = l.length ∧ cs.length ≤ l.length ∧
    (∀ i, l'[i]? = if i < cs.length then (cs[i]?).map (fun c => some (.c c)) else l[i]?) ∧ ∀ i, i < cs.length → ∃ c, l[i]? = some (some c) ∧ c.plc
  | [], l, l', h => by
    cases h
    exact ⟨rfl, Nat.zero_le _, fun i => by simp, fun i hi => by simp at hi⟩
  | c :: cs, [], l', h => by cases h
  | c :: cs, none :: l, l', h => by cases h
  | c :: cs, some (.map _ _) :: l, l', h => by cases h
  | c :: cs, some (.iter _ _ _ _) :: l, l', h => by cases h
  | c :: cs, some (.loop _ _ _ _ _ _ _) :: l, l', h => by cases h
  | c :: cs, some .room :: l, l', h => by
    have h' : Option.casesOn (motive := fun _ => Option Bk) (putC cs l) none (fun r => some (some (.c c) :: r)) = some l' := h
    cases ht : putC cs l with
    | none => rw [ht] at h'; cases h'
    | some r =>
      rw [ht] at h'
      cases h'
      obtain ⟨h1, h2, h3, h4⟩ := putC_spec cs l r ht
      refine ⟨by simp [h1], by simp [h2], fun i => ?_, fun i hi => ?_⟩
      · cases i with
        | zero => simp
        | succ i => simp only [List.getElem?_cons_succ, List.length_cons, Nat.add_lt_add_iff_right]; exact h3 i
      · cases i with
        | zero => exact ⟨.room, by simp, trivial⟩
        | succ i => simp only [List.getElem?_cons_succ]; exact h4 i (by simpa using hi)
  | c :: cs, some (.c x) :: l, l', h => by
    have h' : Option.casesOn (motive := fun _ => Option Bk) (putC cs l) none (fun r => some (some (.c c) :: r)) = some l' := h
    cases ht : putC cs l with
    | none => rw [ht] at h'; cases h'
    | some r =>
      rw [ht] at h'
      cases h'
      obtain ⟨h1, h2, h3, h4⟩ := putC_spec cs l r ht
      refine ⟨by simp [h1], by simp [h2], fun i => ?_, fun i hi => ?_⟩
      · cases i with
        | zero => simp
        | succ i => simp only [List.getElem?_cons_succ, List.length_cons, Nat.add_lt_add_iff_right]; exact h3 i
      · cases i with
        | zero => exact ⟨.c x, by simp, trivial⟩
        | succ i => simp only [List.getElem?_cons_succ]; exact h4 i (by simpa using hi)

theorem putAt_spec : ∀ (off : Nat) (cs : List Cel) (l l' : Bk), putAt off cs l = some l' → l'.length = l.length ∧ off + cs.length ≤ l.length ∧
    (∀ i, l'[i]? = if off ≤ i ∧ i < off + cs.length then (cs[i - off]?).map (fun c => some (.c c)) else l[i]?) ∧ ∀ i, i < cs.length → ∃ c, l[off + i]? = some (some c) ∧ c.plc
  | 0, cs, l, l', h => by
    obtain ⟨h1, h2, h3, h4⟩ := putC_spec cs l l' h
    refine ⟨h1, by omega, fun i => ?_, fun i hi => by rw [Nat.zero_add]; exact h4 i hi⟩
    rw [h3 i]
    simp
  | off + 1, cs, [], l', h => by cases h
  | off + 1, cs, a :: l, l', h => by
    have h' : Option.casesOn (motive := fun _ => Option Bk) (putAt off cs l) none (fun r => some (a :: r)) = some l' := h
    cases ht : putAt off cs l with
    | none => rw [ht] at h'; cases h'
    | some r =>
      rw [ht] at h'
      cases h'
      obtain ⟨h1, h2, h3, h4⟩ := putAt_spec off cs l r ht
      refine ⟨by simp [h1], by simp; omega, fun i => ?_, fun i hi => ?_⟩
      · cases i with
        | zero => simp
        | succ i =>
          simp only [List.getElem?_cons_succ]
          rw [h3 i]
          by_cases hc : off ≤ i ∧ i < off + cs.length
          · rw [if_pos hc, if_pos (by omega), show i + 1 - (off + 1) = i - off by omega]
          · rw [if_neg hc, if_neg (by omega)]
      · rw [show off + 1 + i = (off + i) + 1 by omega, List.getElem?_cons_succ]
        exact h4 i hi

/-- The lesser of two numbers. -/
def minN (a b : Nat) : Nat := Bool.casesOn (motive := fun _ => Nat) (Nat.ble a b) b a
theorem minN_le (a b : Nat) : minN a b ≤ a ∧ minN a b ≤ b := by
  unfold minN
  cases h : Nat.ble a b with
  | true => exact ⟨Nat.le_refl _, Nat.le_of_ble_eq_true h⟩
  | false =>
    have : ¬ a ≤ b := fun hh => by rw [Nat.ble_eq_true_of_le hh] at h; cases h
    exact ⟨by show b ≤ a; omega, Nat.le_refl _⟩

def HP.write (H : HP) (b off : Nat) (cs : List Cel) : Option HP :=
  match H.t.get b with
  | some k => match putAt off cs k with
    | some k' => some ⟨H.t.put b (some k'), H.n, minN H.lo b⟩
    | none => none
  | none => none
/-- A new block. -/
def HP.push (H : HP) (k : Bk) : HP := ⟨H.t.put H.n (some k), Nat.succ H.n, H.lo⟩
/-- A block is out of view. -/
def HP.drop (H : HP) (b : Nat) : HP := ⟨H.t.put b none, H.n, minN H.lo b⟩
/-- A block is another thing. -/
def HP.obj (H : HP) (b : Nat) (x : Ct) : HP := ⟨H.t.put b (some [some x]), H.n, minN H.lo b⟩

theorem HP.write_spec {H H' : HP} {b off : Nat} {cs : List Cel} (h : H.write b off cs = some H') : H'.n = H.n ∧
    (∀ b' i, H'.cell b' i = if b' = b ∧ off ≤ i ∧ i < off + cs.length then (cs[i - off]?).map .c else H.cell b' i) ∧ ∀ i, i < cs.length → ∃ c, H.cell b (off + i) = some c ∧ c.plc := by
  unfold HP.write at h
  split at h
  · rename_i k hk
    split at h
    · rename_i k' hk'
      cases h
      obtain ⟨h1, h2, h3, h4⟩ := putAt_spec off cs k k' hk'
      refine ⟨rfl, fun b' i => ?_, fun i hi => ?_⟩
      · unfold HP.cell
        simp only [PT.get_put]
        by_cases hb : b' = b
        · subst hb
          simp only [if_true, Option.bind_some, Bk.get, h3 i, true_and, hk]
          split
          · cases cs[i - off]? <;> rfl
          · rfl
        · simp only [hb, if_false, false_and]
      · obtain ⟨c, hc, hp⟩ := h4 i hi
        exact ⟨c, by unfold HP.cell; rw [hk]; simp [Bk.get, hc], hp⟩
    · cases h
  · cases h
theorem HP.cell_push (H : HP) (k : Bk) (b i : Nat) : (H.push k).cell b i = if b = H.n then Bk.get k i else H.cell b i := by
  unfold HP.cell HP.push
  simp only [PT.get_put]
  by_cases h : b = H.n
  · simp [h]
  · simp [h]
theorem HP.cell_drop (H : HP) (b b' i : Nat) : (H.drop b).cell b' i = if b' = b then none else H.cell b' i := by
  unfold HP.cell HP.drop
  simp only [PT.get_put]
  by_cases h : b' = b
  · simp [h]
  · simp [h]
theorem HP.cell_obj (H : HP) (b b' i : Nat) (x : Ct) : (H.obj b x).cell b' i = if b' = b then (if i = 0 then some x else none) else H.cell b' i := by
  unfold HP.cell HP.obj
  simp only [PT.get_put]
  by_cases h : b' = b
  · subst h
    simp only [if_true, Option.bind_some, Bk.get]
    cases i with
    | zero => rfl
    | succ i => simp
  · simp [h]

/-- What lies below the third number is untouched. -/
def Unt (H H' : HP) : Prop := H'.lo ≤ H.lo ∧ ∀ b, b < H'.lo → b < H.n → H'.t.get b = H.t.get b
theorem Unt.refl (H : HP) : Unt H H := ⟨Nat.le_refl _, fun _ _ _ => rfl⟩
theorem Unt.trans {H H1 H2 : HP} (hn : H.n ≤ H1.n) (h : Unt H H1) (h' : Unt H1 H2) : Unt H H2 :=
  ⟨Nat.le_trans h'.1 h.1, fun b h1 h2 => (h'.2 b h1 (Nat.lt_of_lt_of_le h2 hn)).trans (h.2 b (Nat.lt_of_lt_of_le h1 h'.1) h2)⟩
theorem Unt.write {H H' : HP} {b off : Nat} {cs : List Cel} (h : H.write b off cs = some H') : Unt H H' := by
  unfold HP.write at h
  split at h
  · split at h
    · cases h
      refine ⟨(minN_le _ _).1, fun b' h1 _ => ?_⟩
      have := (minN_le H.lo b).2
      simp only [PT.get_put]
      rw [if_neg (by simp only at h1; omega)]
    · cases h
  · cases h
theorem Unt.push (H : HP) (k : Bk) : Unt H (H.push k) := ⟨Nat.le_refl _, fun b _ h2 => by unfold HP.push; simp only [PT.get_put]; rw [if_neg (by omega)]⟩
theorem Unt.drop (H : HP) (b : Nat) : Unt H (H.drop b) := ⟨(minN_le _ _).1, fun b' h1 _ => by
  have := (minN_le H.lo b).2
  unfold HP.drop at h1 ⊢
  simp only [PT.get_put] at h1 ⊢
  rw [if_neg (by omega)]⟩
theorem Unt.obj (H : HP) (b : Nat) (x : Ct) : Unt H (H.obj b x) := ⟨(minN_le _ _).1, fun b' h1 _ => by
  have := (minN_le H.lo b).2
  unfold HP.obj at h1 ⊢
  simp only [PT.get_put] at h1 ⊢
  rw [if_neg (by omega)]⟩

/-! ### The world -/
def setRow (w : World) (B : Nat) : Nat → List Value → World
  | _, [] => w
  | o, u :: us => setRow (w.setCell ⟨B, o, none⟩ u) B (o + 1) us

theorem setCell_heap (w : World) (B o k : Nat) (u : Value) : (w.setCell ⟨B, o, none⟩ u).heap[k]? = if B = k then (w.heap[k]?).map (fun x => match x with | .cells c t fr => .cells (c.setIfInBounds o u) t fr | x => x) else w.heap[k]? := by
  simp only [World.setCell, Array.getElem?_modify]
  split
  · cases w.heap[k]? with
    | none => rfl
    | some x => cases x <;> rfl
  · rfl

theorem setRow_misc : ∀ (us : List Value) (w : World) (B o : Nat), (setRow w B o us).os = w.os ∧ (setRow w B o us).tape = w.tape ∧ (setRow w B o us).output = w.output ∧ (setRow w B o us).heap.size = w.heap.size
  | [], _, _, _ => ⟨rfl, rfl, rfl, rfl⟩
  | _ :: us, w, B, o => by
    obtain ⟨h1, h2, h3, h4⟩ := setRow_misc us (w.setCell ⟨B, o, none⟩ _) B (o + 1)
    exact ⟨h1, h2, h3, h4.trans (by simp)⟩
theorem setRow_other : ∀ (us : List Value) (w : World) (B o k : Nat), k ≠ B → (setRow w B o us).heap[k]? = w.heap[k]?
  | [], _, _, _, _, _ => rfl
  | _ :: us, w, B, o, k, h => by
    simp only [setRow]
    rw [setRow_other us _ B (o + 1) k h, setCell_heap, if_neg (Ne.symm h)]
theorem setRow_same : ∀ (us : List Value) (w : World) (B o : Nat) {arr : Array Value} {t : TypeId} {fr : Nat × Nat}, w.heap[B]? = some (.cells arr t fr) →
    ∃ arr' : Array Value, (setRow w B o us).heap[B]? = some (.cells arr' t fr) ∧ arr'.size = arr.size ∧ (∀ j, ¬ (o ≤ j ∧ j < o + us.length) → arr'[j]? = arr[j]?) ∧ ∀ i u, us[i]? = some u → o + i < arr.size → arr'[o + i]? = some u
  | [], w, B, o, arr, t, fr, h => ⟨arr, h, rfl, fun _ _ => rfl, fun i u hu => by simp at hu⟩
  | x :: us, w, B, o, arr, t, fr, h => by
    have h1 : (w.setCell ⟨B, o, none⟩ x).heap[B]? = some (.cells (arr.setIfInBounds o x) t fr) := by rw [setCell_heap, if_pos rfl, h]; rfl
    obtain ⟨arr', h2, h3, h4, h5⟩ := setRow_same us _ B (o + 1) h1
    refine ⟨arr', h2, by simpa using h3, fun j hj => ?_, fun i u hu hlt => ?_⟩
    · rw [h4 j (by intro hh; exact hj ⟨by omega, by simp; omega⟩), Array.getElem?_setIfInBounds_ne (by intro hh; subst hh; exact hj ⟨Nat.le_refl _, by simp⟩)]
    · cases i with
      | zero =>
        simp only [List.getElem?_cons_zero, Option.some.injEq] at hu
        subst hu
        rw [Nat.add_zero, h4 o (by omega)]
        simp at hlt
        simp [hlt]
      | succ i =>
        simp only [List.getElem?_cons_succ] at hu
        have := h5 i u hu (by simp; omega)
        rw [show o + 1 + i = o + (i + 1) by omega] at this
        exact this

theorem add_addr (B o n : Nat) : Addr.add ⟨B, o, none⟩ n = ⟨B, o + n, none⟩ := Addr.add_lit B o n

theorem cell?_of {w : World} {B j : Nat} {arr : Array Value} {t : TypeId} {fr : Nat × Nat} (h : w.heap[B]? = some (.cells arr t fr)) : w.cell? ⟨B, j, none⟩ = arr[j]? := by
  unfold World.cell?
  simp [h]
theorem frozen?_of {w : World} {B j : Nat} {arr : Array Value} {t : TypeId} {fr : Nat × Nat} (h : w.heap[B]? = some (.cells arr t fr)) (hf : UF fr arr.size) (hj : j < arr.size) : w.frozen? ⟨B, j, none⟩ = false := by
  obtain ⟨lo, hi⟩ := fr
  unfold World.frozen?
  simp only [h]
  unfold UF at hf
  simp only at hf
  rw [Bool.eq_false_iff]
  intro hh
  simp only [Bool.and_eq_true, decide_eq_true_eq] at hh
  omega

theorem run_storeCells {P : Program} (B : Nat) : ∀ (us : List Value) (w : World) (o i : Nat) {arr : Array Value} {t : TypeId} {fr : Nat × Nat}, w.heap[B]? = some (.cells arr t fr) → UF fr arr.size → o + i + us.length ≤ arr.size → (∀ u ∈ us, u.oneCell' = true) →
    (storeCells ⟨B, o, none⟩ us i).run P w = .ok () (setRow w B (o + i) us)
  | [], w, o, i, _, _, _, _, _, _, _ => rfl
  | u :: us, w, o, i, arr, t, fr, h, hf, hle, h1 => by
    simp only [List.length_cons] at hle
    have hc : w.cell? ⟨B, o + i, none⟩ = some arr[o + i] := by rw [cell?_of h]; exact Array.getElem?_eq_getElem (by omega)
    have hrun : (store ⟨B, o + i, none⟩ u).run P w = .ok () (w.setCell ⟨B, o + i, none⟩ u) := by
      have := run_store P w ⟨B, o + i, none⟩ u .plain (h1 u (by simp))
      rw [this]
      simp [hc, frozen?_of h hf (show o + i < arr.size by omega)]
    simp only [storeCells, Sem.run_bind, add_addr, hrun, Result.andThen_ok]
    have h2 : (w.setCell ⟨B, o + i, none⟩ u).heap[B]? = some (.cells (arr.setIfInBounds (o + i) u) t fr) := by rw [setCell_heap, if_pos rfl, h]; rfl
    have ih := run_storeCells (P := P) B us _ o (i + 1) h2 (by simpa using hf) (by simp; omega) (fun x hx => h1 x (List.mem_cons_of_mem _ hx))
    rw [ih]
    rfl

/-- The cells that a read tells, in the world. -/
theorem HP.read_world {ρ : PM} {H : HP} {w : World} {b off n : Nat} {cs : List Cel} {L : Loc} (h : H.read b off n = some cs) (hH : HRel ρ H w) (hL : ρ b = some L) :
    ∃ us : List Value, us.length = n ∧ All2 (CRel ρ) cs us ∧ ∀ (i : Nat) (u : Value), us[i]? = some u → w.cell? ⟨L.B, L.o + off + i, none⟩ = some u := by
  obtain ⟨h1, h2⟩ := HP.read_spec h
  have hc : ∀ i, i < n → ∃ c u, cs[i]? = some c ∧ w.cell? ⟨L.B, L.o + off + i, none⟩ = some u ∧ CRel ρ c u := by
    intro i hi
    have hg : cs[i]? = some cs[i] := List.getElem?_eq_getElem (by omega)
    obtain ⟨arr, t, fr, u, e1, e2, e3, e4, e5⟩ := hH.rel b (off + i) (.c cs[i]) L (h2 i _ hg) hL
    exact ⟨_, u, hg, by rw [cell?_of e1, Nat.add_assoc]; exact e4, e5⟩
  refine ⟨(List.range n).map fun i => (w.cell? ⟨L.B, L.o + off + i, none⟩).getD undef, by simp, ?_, ?_⟩
  · refine All2.of_get (by simp [h1]) fun i c u hci hui => ?_
    have hi : i < n := by
      rcases Nat.lt_or_ge i n with h' | h'
      · exact h'
      · rw [List.getElem?_eq_none (by omega)] at hci; cases hci
    obtain ⟨c', u', hc', hu', hcu⟩ := hc i hi
    simp only [List.getElem?_map, List.getElem?_range hi, Option.map_some, Option.some.injEq] at hui
    rw [hu'] at hui
    simp only [Option.getD_some] at hui
    rw [hci] at hc'
    cases hc'
    exact hui ▸ hcu
  · intro i u hui
    have hi : i < n := by
      rcases Nat.lt_or_ge i n with h' | h'
      · exact h'
      · rw [List.getElem?_eq_none (by simpa using h')] at hui; cases hui
    obtain ⟨c', u', hc', hu', _⟩ := hc i hi
    simp only [List.getElem?_map, List.getElem?_range hi, Option.map_some, Option.some.injEq] at hui
    rw [hu'] at hui ⊢
    simp only [Option.getD_some] at hui
    rw [hui]
end
end Go.Fv
