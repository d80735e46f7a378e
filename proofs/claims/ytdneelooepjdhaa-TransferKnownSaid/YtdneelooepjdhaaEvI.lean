/-
  An abstract evaluator of the model's code: frames as trees, and what a region wrote without the idle operations (for speed). Conditions: none; nothing here speaks of one program.
-/
import Derived.Test.YtdneelooepjdhaaEvV
set_option linter.unusedSectionVars false
namespace Go.Ev
noncomputable section

/-! ### Frames -/
def Tr.Is (T : Tr AV) (ts : List AV) : Prop := ∀ i, T.get i = ts[i]?

theorem Tr.Is.set {T : Tr AV} {ts : List AV} (h : T.Is ts) (d : Nat) (v : AV) : (T.set v d).Is (ts.set d v) := fun i => by
  rw [Tr.get_set, List.getElem?_set, h i]
  by_cases hd : d = i
  · subst hd
    simp only [if_true]
    by_cases hl : d < ts.length
    · rw [if_pos hl, List.getElem?_eq_getElem hl]; rfl
    · rw [if_neg hl, List.getElem?_eq_none (by omega)]; rfl
  · rw [if_neg hd, if_neg hd]

def frameAt (args : List AV) (n i : Nat) : Option AV :=
  Option.rec (motive := fun _ => Option AV) (Bool.rec (motive := fun _ => Option AV) none (some undefA) (Nat.ble (Nat.succ i) n)) (fun a => some a) (getN i args)
def frameT (args : List AV) (n : Nat) : Tr AV := Tr.build (args.length + n) (frameAt args n)

theorem frameAt_eq (args : List AV) (n i : Nat) : frameAt args n i = (args ++ List.replicate (n - args.length) undefA)[i]? := by
  unfold frameAt
  rw [getN_eq]
  rcases Nat.lt_or_ge i args.length with h | h
  · rw [List.getElem?_append_left h, List.getElem?_eq_getElem h]
  · rw [List.getElem?_append_right h, List.getElem?_eq_none h, List.getElem?_replicate]
    cases hb : Nat.ble (Nat.succ i) n with
    | true =>
      have := Nat.le_of_ble_eq_true hb
      rw [if_pos (by omega)]
    | false =>
      have : ¬ Nat.succ i ≤ n := fun h' => by rw [Nat.ble_eq_true_of_le h'] at hb; cases hb
      rw [if_neg (by omega)]

theorem frameT_is (args : List AV) (n : Nat) : (frameT args n).Is (args ++ List.replicate (n - args.length) undefA) := fun i => by
  unfold frameT
  rw [Tr.get_build_all (fun m hm => ?_) i, frameAt_eq]
  rw [frameAt_eq]
  apply List.getElem?_eq_none
  simp only [List.length_append, List.length_replicate]
  omega

def evT (T : Tr AV) : Operand → Option AV
  | .tmp t => T.get t
  | .const v => if litOK v then some (.one (.lit v)) else none
  | .global g => some (.one (.lit (.pointer (some ⟨g, 0, none⟩))))
  | .func f => some (.one (.lit (.func (.func f) #[] #[])))

theorem Tr.Is.ev {T : Tr AV} {ts : List AV} (h : T.Is ts) : evT T = evA ts := by
  funext x
  cases x with
  | tmp t => exact h t
  | const v => rfl
  | global g => rfl
  | func f => rfl

def guardT (T : Tr AV) (t : Option Tmp) (want : Bool) : Option Bool :=
  match t with
  | none => some false
  | some t => match T.get t with
    | some (.one (.lit (.bool b))) => some (b == want)
    | some (.tup _) => some false
    | none => some false
    | _ => none

def wantT (ops : List Oper) (T : Tr AV) (g : Option (Nat × Bool)) : Option Bool :=
  match g with
  | none => some true
  | some (j, want) => guardT T ((getN j ops).bind (·.dst)) want

theorem Tr.Is.guard {T : Tr AV} {ts : List AV} (h : T.Is ts) (t : Option Tmp) (want : Bool) : guardT T t want = guardA ts t want := by
  cases t with
  | none => rfl
  | some t =>
    simp only [guardT, guardA]
    rw [h t]
    rfl

theorem Tr.Is.want {T : Tr AV} {ts : List AV} (h : T.Is ts) (ops : List Oper) (g : Option (Nat × Bool)) : wantT ops T g = wantA ops ts g := by
  cases g with
  | none => rfl
  | some p =>
    obtain ⟨j, want⟩ := p
    simp only [wantT, wantA]
    rw [getN_eq, h.guard]

def putT (T : Tr AV) (dst : Option Tmp) (v : AV) : Tr AV :=
  match dst with
  | some d => T.set v d
  | none => T

theorem Tr.Is.put {T : Tr AV} {ts : List AV} (h : T.Is ts) (dst : Option Tmp) (v : AV) : (putT T dst v).Is (putA ts dst v) := by
  cases dst with
  | none => exact h
  | some d => exact h.set d v

/-! ### What was written, idle operations left out -/
def nzs : Nat → List Eff → List (Nat × Eff)
  | _, [] => []
  | k, e :: es => match e.writes, e.news with
    | [], [] => nzs (k + 1) es
    | _, _ => (k, e) :: nzs (k + 1) es

def addN (k : Nat) (e : Eff) (acc : List (Nat × Eff)) : List (Nat × Eff) :=
  match e.writes, e.news with
  | [], [] => acc
  | _, _ => acc ++ [(k, e)]

def heapN (m : Nat → Mo) : List (Nat × Eff) → Heap → Heap
  | [], H => H
  | (k, e) :: r, H => heapN m r (stepBy (m k) H e)

theorem eff_none {e : Eff} (hw : e.writes = []) (hn : e.news = []) : e = {} := by
  obtain ⟨w, n⟩ := e
  simp only at hw hn
  subst hw hn
  rfl

theorem stepBy_none (m : Mo) (H : Heap) : stepBy m H {} = H := by
  cases m
  · simp [stepBy, applyEff, setAll]
  · simp [stepBy, deads]
  · simp [stepBy, hideEff, deads]
    rfl

/-- An effect put on a heap; nothing is done for none. -/
def applyF (H : Heap) (e : Eff) : Heap :=
  match e.writes, e.news with
  | [], [] => H
  | _, _ => applyEff H e
theorem applyF_eq (H : Heap) (e : Eff) : applyF H e = applyEff H e := by
  unfold applyF
  split
  · rename_i h1 h2
    rw [eff_none h1 h2]
    exact (stepBy_none .ap H).symm
  · rfl
def ologF (n0 : Nat) (e : Eff) (log : Log) : Log :=
  match e.writes with
  | [] => log
  | _ => olog n0 e ++ log
theorem ologF_eq (n0 : Nat) (e : Eff) (log : Log) : ologF n0 e log = olog n0 e ++ log := by
  unfold ologF
  split
  · rename_i h
    simp [olog, elog, h]
  · rfl

theorem nzs_cons (k : Nat) (e : Eff) (es : List Eff) : (e = {} ∧ nzs k (e :: es) = nzs (k + 1) es) ∨ nzs k (e :: es) = (k, e) :: nzs (k + 1) es := by
  simp only [nzs]
  split
  · rename_i h1 h2
    exact .inl ⟨eff_none h1 h2, rfl⟩
  · exact .inr rfl

theorem heapBy_nzs (m : Nat → Mo) : ∀ (es : List Eff) (k : Nat) (H : Heap), heapBy m k es H = heapN m (nzs k es) H
  | [], _, _ => rfl
  | e :: es, k, H => by
    rw [heapBy_cons]
    rcases nzs_cons k e es with ⟨rfl, h⟩ | h
    · rw [h, stepBy_none, heapBy_nzs m es]
    · rw [h, heapBy_nzs m es]
      rfl

theorem nzs_append : ∀ (es : List Eff) (k : Nat) (e : Eff), nzs k (es ++ [e]) = addN (k + es.length) e (nzs k es)
  | [], k, e => by
    simp only [List.nil_append, nzs, addN, List.length_nil, Nat.add_zero]
  | f :: es, k, e => by
    have ih := nzs_append es (k + 1) e
    rw [List.cons_append, List.length_cons, show k + (es.length + 1) = k + 1 + es.length by omega]
    simp only [nzs]
    split
    · exact ih
    · rw [ih]
      simp only [addN]
      split <;> rfl

theorem flatMap_nzs (n0 : Nat) : ∀ (es : List Eff) (k : Nat), es.flatMap (olog n0) = (nzs k es).flatMap fun p => olog n0 p.2
  | [], _ => rfl
  | e :: es, k => by
    rcases nzs_cons k e es with ⟨rfl, h⟩ | h
    · rw [h, List.flatMap_cons, flatMap_nzs n0 es (k + 1)]
      rfl
    · rw [h, List.flatMap_cons, List.flatMap_cons, flatMap_nzs n0 es (k + 1)]

def viewN (B : List Nat) (W : List (Nat × Nat × Nat)) (H0 : Heap) (k : Nat) (acc : List (Nat × Eff)) : Heap :=
  poison (heapN (fun j => if (B.getD k 0).testBit j then .ap else .po) acc H0) (others B W k)

theorem viewN_eq (B : List Nat) (W : List (Nat × Nat × Nat)) (H0 : Heap) (k : Nat) (acc : List Eff) : viewN B W H0 k (nzs 0 acc) = viewA B W H0 k acc := by
  unfold viewN viewA
  rw [heapBy_nzs]

end
end Go.Ev
