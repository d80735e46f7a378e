/-
  An abstract evaluator of the model's code: frames as trees, and what a region wrote without the idle operations (for speed). Conditions: none; nothing here speaks of one program.
-/
import Derived.Test.YtdneelooepjdhaaEvV
import Derived.Test.YtdneelooepjdhaaEvM
set_option linter.unusedSectionVars false
namespace Go.Ev
noncomputable section

/-! ### What is owed -/
/-- What is owed: the two are one; each with a mark (0: the two are the same by themselves). -/
abbrev Ob := List (Nat × Bool × Bool)
def Ob.ok (l : Ob) : Prop := ∀ p ∈ l, p.2.1 = p.2.2
theorem Ob.ok_nil : Ob.ok [] := fun _ h => by cases h
theorem Ob.ok_cons {t : Nat} {a b : Bool} {l : Ob} (h : a = b) (hl : Ob.ok l) : Ob.ok ((t, a, b) :: l) := fun p hp => by
  rcases List.mem_cons.1 hp with rfl | hp
  · exact h
  · exact hl p hp
theorem Ob.ok_append {l m : Ob} : Ob.ok (l ++ m) ↔ Ob.ok l ∧ Ob.ok m :=
  ⟨fun h => ⟨fun p hp => h p (List.mem_append_left _ hp), fun p hp => h p (List.mem_append_right _ hp)⟩, fun ⟨h1, h2⟩ p hp => (List.mem_append.1 hp).elim (h1 p) (h2 p)⟩

/-! ### Frames -/
/-- A slot: a value; or a value where a test holds, else nothing. -/
inductive Sl where
  | v (a : AV)
  | may (b : Bool) (a : AV)
def Sl.av : Sl → AV
  | .v a => a
  | .may _ a => a
def Sl.den : Sl → AV
  | .v a => a
  | .may true a => a
  | .may false _ => undefA

def Tr.Is (T : Tr Sl) (ts : List AV) : Prop := ∀ i, (T.get i).map Sl.den = ts[i]?

theorem Tr.Is.set {T : Tr Sl} {ts : List AV} (h : T.Is ts) (d : Nat) (v : Sl) : (T.set v d).Is (ts.set d v.den) := fun i => by
  rw [Tr.get_set, List.getElem?_set]
  have hi := h i
  by_cases hd : d = i
  · subst hd
    simp only [if_true]
    by_cases hl : d < ts.length
    · rw [if_pos hl]
      rw [List.getElem?_eq_getElem hl] at hi
      cases hT : T.get d with
      | none => rw [hT] at hi; cases hi
      | some x => rfl
    · rw [if_neg hl]
      rw [List.getElem?_eq_none (by omega)] at hi
      cases hT : T.get d with
      | none => rfl
      | some x => rw [hT] at hi; cases hi
  · rw [if_neg hd, if_neg hd]
    exact hi

def frameAt (args : List AV) (n i : Nat) : Option Sl :=
  Option.rec (motive := fun _ => Option Sl) (Bool.rec (motive := fun _ => Option Sl) none (some (.v undefA)) (Nat.ble (Nat.succ i) n)) (fun a => some (.v a)) (getN i args)
def frameT (args : List AV) (n : Nat) : Tr Sl := Tr.build (args.length + n) (frameAt args n)

theorem frameAt_eq (args : List AV) (n i : Nat) : (frameAt args n i).map Sl.den = (args ++ List.replicate (n - args.length) undefA)[i]? := by
  unfold frameAt
  rw [getN_eq]
  rcases Nat.lt_or_ge i args.length with h | h
  · rw [List.getElem?_append_left h, List.getElem?_eq_getElem h]
    rfl
  · rw [List.getElem?_append_right h, List.getElem?_eq_none h, List.getElem?_replicate]
    cases hb : Nat.ble (Nat.succ i) n with
    | true =>
      have := Nat.le_of_ble_eq_true hb
      rw [if_pos (by omega)]
      rfl
    | false =>
      have : ¬ Nat.succ i ≤ n := fun h' => by rw [Nat.ble_eq_true_of_le h'] at hb; cases hb
      rw [if_neg (by omega)]
      rfl

theorem frameT_is (args : List AV) (n : Nat) : (frameT args n).Is (args ++ List.replicate (n - args.length) undefA) := fun i => by
  unfold frameT
  rw [Tr.get_build_all (fun m hm => ?_) i, frameAt_eq]
  have := frameAt_eq args n m
  rw [List.getElem?_eq_none (by simp only [List.length_append, List.length_replicate]; omega)] at this
  cases hf : frameAt args n m with
  | none => rfl
  | some x => rw [hf] at this; cases this

def evT (T : Tr Sl) : Operand → Option AV
  | .tmp t => match T.get t with
    | some (.v a) => some a
    | _ => none
  | .const v => if litOK v then some (.one (.lit v)) else none
  | .global g => some (.one (.lit (.pointer (some ⟨g, 0, none⟩))))
  | .func f => some (.one (.lit (.func (.func f) #[] #[])))

theorem Tr.Is.ev {T : Tr Sl} {ts : List AV} (h : T.Is ts) {x : Operand} {a : AV} (hx : evT T x = some a) : evA ts x = some a := by
  cases x with
  | tmp t =>
    simp only [evT] at hx
    simp only [evA]
    rw [← h t]
    split at hx
    · rename_i a' ht
      rw [ht]
      exact hx
    · cases hx
  | const v => exact hx
  | global g => exact hx
  | func f => exact hx

def guardT (T : Tr Sl) (t : Option Tmp) (want : Bool) : Option Bool :=
  match t with
  | none => some false
  | some t => match T.get t with
    | some (.v (.one (.lit (.bool b)))) => some (b == want)
    | some (.v (.tup _)) => some false
    | none => some false
    | _ => none

theorem Tr.Is.guard {T : Tr Sl} {ts : List AV} (h : T.Is ts) {t : Option Tmp} {want b : Bool} (hg : guardT T t want = some b) : guardA ts t want = some b := by
  cases t with
  | none => exact hg
  | some t =>
    simp only [guardT] at hg
    simp only [guardA]
    rw [← h t]
    split at hg
    · rename_i b' ht
      rw [ht]
      exact hg
    · rename_i vs ht
      rw [ht]
      exact hg
    · rename_i ht
      rw [ht]
      exact hg
    · cases hg

/-- The slot that a guard names. -/
def carrier (ops : List Oper) (j : Nat) : Option Tmp := (getN j ops).bind (·.dst)

theorem carrier_eq (ops : List Oper) (j : Nat) : carrier ops j = (ops[j]?).bind (·.dst) := by unfold carrier; rw [getN_eq]

def wantT (ops : List Oper) (T : Tr Sl) (g : Option (Nat × Bool)) : Option Bool :=
  match g with
  | none => some true
  | some (j, want) => guardT T (carrier ops j) want

theorem Tr.Is.want {T : Tr Sl} {ts : List AV} (h : T.Is ts) {ops : List Oper} {g : Option (Nat × Bool)} {b : Bool} (hg : wantT ops T g = some b) : wantA ops ts g = some b := by
  cases g with
  | none => exact hg
  | some p =>
    obtain ⟨j, want⟩ := p
    simp only [wantT] at hg
    simp only [wantA]
    rw [← carrier_eq]
    exact h.guard hg

def putT (T : Tr Sl) (dst : Option Tmp) (v : Sl) : Tr Sl :=
  match dst with
  | some d => T.set v d
  | none => T

theorem Tr.Is.put {T : Tr Sl} {ts : List AV} (h : T.Is ts) (dst : Option Tmp) (v : Sl) : (putT T dst v).Is (putA ts dst v.den) := by
  cases dst with
  | none => exact h
  | some d => exact h.set d v

/-! ### Guards that are not known -/
def flipB (want b : Bool) : Bool :=
  match want with
  | true => b
  | false => !b

/-- The test behind a guard. -/
def symG (T : Tr Sl) (t : Option Tmp) (want : Bool) : Option Bool :=
  match t with
  | none => none
  | some t => match T.get t with
    | some (.v (.one (.lit (.bool b)))) => some (flipB want b)
    | some (.may c (.one (.lit (.bool b)))) => some (c && flipB want b)
    | _ => none

theorem Tr.Is.sym {T : Tr Sl} {ts : List AV} (h : T.Is ts) {t : Option Tmp} {want g : Bool} (hg : symG T t want = some g) : guardA ts t want = some g := by
  cases t with
  | none => cases hg
  | some t =>
    simp only [symG] at hg
    simp only [guardA]
    rw [← h t]
    split at hg
    · rename_i b ht
      rw [ht]
      cases hg
      cases b <;> cases want <;> rfl
    · rename_i c b ht
      rw [ht]
      cases hg
      cases c <;> cases b <;> cases want <;> rfl
    · cases hg

/-- A slot's value, as if its test held. -/
def evS (T : Tr Sl) : Operand → Option AV
  | .tmp t => match T.get t with
    | some s => some s.av
    | none => none
  | x => evT T x

/-- The slot's test is g. -/
def owed1 (T : Tr Sl) (g : Bool) : Operand → Ob
  | .tmp t => match T.get t with
    | some (.may b _) => [(0, g, b)]
    | _ => []
  | _ => []

def owedS (T : Tr Sl) (g : Bool) : List Operand → Ob
  | [] => []
  | x :: xs => match owed1 T g x with
    | [] => owedS T g xs
    | o => o ++ owedS T g xs

theorem owedS_mem {T : Tr Sl} {g : Bool} : ∀ {xs : List Operand}, Ob.ok (owedS T g xs) → ∀ x ∈ xs, Ob.ok (owed1 T g x)
  | [], _, _, h => by cases h
  | y :: xs, hk, x, hx => by
    have hk' : Ob.ok (owed1 T g y ++ owedS T g xs) := by
      simp only [owedS] at hk
      split at hk
      · rename_i h
        rw [h]
        exact hk
      · exact hk
    obtain ⟨h1, h2⟩ := Ob.ok_append.1 hk'
    rcases List.mem_cons.1 hx with rfl | hx
    · exact h1
    · exact owedS_mem h2 x hx

theorem Tr.Is.evS {T : Tr Sl} {ts : List AV} (h : T.Is ts) {x : Operand} {a : AV} (hx : Go.Ev.evS T x = some a) (ho : Ob.ok (owed1 T true x)) : evA ts x = some a := by
  cases x with
  | tmp t =>
    simp only [Go.Ev.evS] at hx
    simp only [owed1] at ho
    simp only [evA]
    rw [← h t]
    cases ht : T.get t with
    | none => rw [ht] at hx; cases hx
    | some s =>
      rw [ht] at hx ho
      cases s with
      | v a' => exact hx
      | may b a' =>
        have := ho _ (List.mem_cons_self ..)
        simp only at this
        subst this
        exact hx
  | const v => exact h.ev hx
  | global g => exact h.ev hx
  | func f => exact h.ev hx

theorem owed1_true {T : Tr Sl} {g : Bool} {x : Operand} (h : Ob.ok (owed1 T g x)) (hg : g = true) : Ob.ok (owed1 T true x) := by rw [hg] at h; exact h

/-- One of two values, by a test. -/
def mergeV (t : Bool) : AV → AV → Option AV
  | .one (.lit (.bool m)), .one (.lit (.bool n)) => some (.one (.lit (.bool (bif t then m else n))))
  | .one (.lit (.int k m)), .one (.lit (.int k' n)) => if k = k' then some (.one (.lit (.int k (bif t then m else n)))) else none
  | _, _ => none

theorem mergeV_eq {t : Bool} {a b v : AV} (h : mergeV t a b = some v) : v = if t then a else b := by
  unfold mergeV at h
  split at h
  · cases h; cases t <;> rfl
  · split at h
    · rename_i hk
      subst hk
      cases h; cases t <;> rfl
    · cases h
  · cases h

/-- The pick of a value by a test that is not known, under the test g. -/
def pickS (T : Tr Sl) (g : Bool) (c a d : Operand) : Option (AV × Ob) :=
  match evS T c, evS T a, evS T d with
  | some (.one (.lit (.bool t))), some x, some y => match mergeV t x y with
    | some v => some (v, owed1 T g c ++ (owed1 T (g && t) a ++ owed1 T (g && !t) d))
    | none => none
  | _, _, _ => none

theorem pickS_ok {P : Program} [Plain P] {ora : Ora} {H : Heap} {T : Tr Sl} {ts : List AV} (hi : T.Is ts) {c a d : Operand} {v : AV} {g : Bool} {ob : Ob} (h : pickS T g c a d = some (v, ob)) (hk : Ob.ok ob) (hg : g = true) :
    opE P ora (evA ts) H (.pick c a d) = some (v, {}) := by
  subst hg
  unfold pickS at h
  split at h
  · rename_i t x y hc ha hd
    split at h
    · rename_i v' hm
      cases h
      obtain ⟨k1, k2⟩ := Ob.ok_append.1 hk
      obtain ⟨k2, k3⟩ := Ob.ok_append.1 k2
      have e1 := hi.evS hc k1
      unfold opE
      simp only [e1]
      rw [mergeV_eq hm]
      cases t with
      | true =>
        rw [hi.evS ha k2]
        rfl
      | false =>
        rw [hi.evS hd k3]
        rfl
    · cases h
  · cases h

/-! ### What was written, idle operations left out -/
def nzs : Nat → List Eff → List (Nat × Eff)
  | _, [] => []
  | k, e :: es => match e.writes, e.news with
    | [], [] => nzs (k + 1) es
    | _, _ => (k, e) :: nzs (k + 1) es

def addN (k : Nat) (e : Eff) (acc : List (Nat × Eff)) : List (Nat × Eff) :=
  match e.writes, e.news with
  | [], [] => acc
  | _, _ => acc ++ [(k, e)]

def heapN (m : Nat → Mo) : List (Nat × Eff) → Heap → Heap
  | [], H => H
  | (k, e) :: r, H => heapN m r (stepBy (m k) H e)

theorem eff_none {e : Eff} (hw : e.writes = []) (hn : e.news = []) : e = {} := by
  obtain ⟨w, n⟩ := e
  simp only at hw hn
  subst hw hn
  rfl

theorem stepBy_none (m : Mo) (H : Heap) : stepBy m H {} = H := by
  cases m
  · simp [stepBy, applyEff, setAll]
  · simp [stepBy, deads]
  · simp [stepBy, hideEff, deads]
    rfl

/-- An effect put on a heap; nothing is done for none. -/
def applyF (H : Heap) (e : Eff) : Heap :=
  match e.writes, e.news with
  | [], [] => H
  | _, _ => applyEff H e
theorem applyF_eq (H : Heap) (e : Eff) : applyF H e = applyEff H e := by
  unfold applyF
  split
  · rename_i h1 h2
    rw [eff_none h1 h2]
    exact (stepBy_none .ap H).symm
  · rfl
def ologF (n0 : Nat) (e : Eff) (log : Log) : Log :=
  match e.writes with
  | [] => log
  | _ => olog n0 e ++ log
theorem ologF_eq (n0 : Nat) (e : Eff) (log : Log) : ologF n0 e log = olog n0 e ++ log := by
  unfold ologF
  split
  · rename_i h
    simp [olog, elog, h]
  · rfl

theorem nzs_cons (k : Nat) (e : Eff) (es : List Eff) : (e = {} ∧ nzs k (e :: es) = nzs (k + 1) es) ∨ nzs k (e :: es) = (k, e) :: nzs (k + 1) es := by
  simp only [nzs]
  split
  · rename_i h1 h2
    exact .inl ⟨eff_none h1 h2, rfl⟩
  · exact .inr rfl

theorem heapBy_nzs (m : Nat → Mo) : ∀ (es : List Eff) (k : Nat) (H : Heap), heapBy m k es H = heapN m (nzs k es) H
  | [], _, _ => rfl
  | e :: es, k, H => by
    rw [heapBy_cons]
    rcases nzs_cons k e es with ⟨rfl, h⟩ | h
    · rw [h, stepBy_none, heapBy_nzs m es]
    · rw [h, heapBy_nzs m es]
      rfl

theorem nzs_append : ∀ (es : List Eff) (k : Nat) (e : Eff), nzs k (es ++ [e]) = addN (k + es.length) e (nzs k es)
  | [], k, e => by
    simp only [List.nil_append, nzs, addN, List.length_nil, Nat.add_zero]
  | f :: es, k, e => by
    have ih := nzs_append es (k + 1) e
    rw [List.cons_append, List.length_cons, show k + (es.length + 1) = k + 1 + es.length by omega]
    simp only [nzs]
    split
    · exact ih
    · rw [ih]
      simp only [addN]
      split <;> rfl

theorem flatMap_nzs (n0 : Nat) : ∀ (es : List Eff) (k : Nat), es.flatMap (olog n0) = (nzs k es).flatMap fun p => olog n0 p.2
  | [], _ => rfl
  | e :: es, k => by
    rcases nzs_cons k e es with ⟨rfl, h⟩ | h
    · rw [h, List.flatMap_cons, flatMap_nzs n0 es (k + 1)]
      rfl
    · rw [h, List.flatMap_cons, List.flatMap_cons, flatMap_nzs n0 es (k + 1)]

def viewN (B : List Nat) (W : List (Nat × Nat × Nat)) (H0 : Heap) (k : Nat) (acc : List (Nat × Eff)) : Heap :=
  poison (heapN (fun j => if (B.getD k 0).testBit j then .ap else .po) acc H0) (others B W k)

theorem viewN_eq (B : List Nat) (W : List (Nat × Nat × Nat)) (H0 : Heap) (k : Nat) (acc : List Eff) : viewN B W H0 k (nzs 0 acc) = viewA B W H0 k acc := by
  unfold viewN viewA
  rw [heapBy_nzs]

end
end Go.Ev
