/-
  An abstract evaluator of the model's code: a function and all that it calls, evaluated where tests are not known. Conditions: none; nothing here speaks of one program.
-/
import Derived.Test.YtdneelooepjdhaaEvN
set_option linter.unusedSectionVars false
namespace Go.Ev
variable {P : Program} [Plain P]
noncomputable section

/-- Contracts come first; each other function of the table is evaluated where it is called, both ways where its hints say so. -/
def oraI (P : Program) [Plain P] (tbl : Tbl) (k : Nat) (base : OraB) (hsOf : FuncId → Hints) (fuel : Nat) : Nat → OraB
  | 0 => base
  | n + 1 => fun f args H =>
    match base f args H with
    | some r => some r
    | none => match (treeT tbl k).get f with
      | some (fn, c) => inl P (oraI P tbl k base hsOf fuel n) (hsOf f) fuel fn c args H
      | none => none

theorem oraI_ok (hm : P.follows .mixedOrders = true) {tbl : Tbl} {k : Nat} (ht : Tbl.ok P tbl) {base : OraB} (hb : OraOK P base.plain) {hsOf : FuncId → Hints} {fuel : Nat} : ∀ n, OraOK P (oraI P tbl k base hsOf fuel n).plain
  | 0 => hb
  | n + 1 => by
    intro f args H v e h
    have ih := oraI_ok hm (k := k) ht hb (hsOf := hsOf) (fuel := fuel) n
    unfold OraB.plain at h
    split at h
    · rename_i v' e' ob ho
      split at h
      · rename_i hk
        cases h
        simp only [oraI] at ho
        split at ho
        · rename_i r hr
          cases ho
          refine hb f args H v e ?_
          unfold OraB.plain
          rw [hr]
          simp only [if_pos hk]
        · split at ho
          · rename_i fn c hfind
            obtain ⟨h1, h2, h3, h4⟩ := ht _ (treeT_mem hfind)
            exact inl_ok hm ih h1 h2 h3 h4 args H v e ob ho hk
          · cases ho
      · cases h
    · cases h

/-- A contract, evaluated. -/
theorem CallOK.eval (hm : P.follows .mixedOrders = true) {tbl : Tbl} (ht : Tbl.ok P tbl) {base : OraB} (hb : OraOK P base.plain) {hsOf : FuncId → Hints} {k fuel n : Nat} {f : FuncId} {args : List AV} {H : Heap} {v : AV} {e : Eff}
    (h : oraI P tbl k base hsOf fuel n f args H = diagR known0 v e (oraI P tbl k base hsOf fuel n f args H)) (hs : (oraI P tbl k base hsOf fuel n f args H).isSome = true) : CallOK P f args H v e := by
  obtain ⟨ob, h1, h2⟩ := diagR_eq (fun _ => rfl) h hs
  refine oraI_ok hm (k := k) ht hb (hsOf := hsOf) (fuel := fuel) n f args H v e ?_
  unfold OraB.plain
  rw [h1]
  simp only [if_pos h2]

/-- A contract, evaluated, where one test is known. -/
theorem CallOK.eval1 (hm : P.follows .mixedOrders = true) {tbl : Tbl} (ht : Tbl.ok P tbl) {base : OraB} (hb : OraOK P base.plain) {hsOf : FuncId → Hints} {k fuel n : Nat} {f : FuncId} {args : List AV} {H : Heap} {v : AV} {e : Eff} {b c : Bool} (hbc : b = c)
    (h : oraI P tbl k base hsOf fuel n f args H = diagR (known1 b c) v e (oraI P tbl k base hsOf fuel n f args H)) (hs : (oraI P tbl k base hsOf fuel n f args H).isSome = true) : CallOK P f args H v e := by
  obtain ⟨ob, h1, h2⟩ := diagR_eq (fun _ => hbc) h hs
  refine oraI_ok hm (k := k) ht hb (hsOf := hsOf) (fuel := fuel) n f args H v e ?_
  unfold OraB.plain
  rw [h1]
  simp only [if_pos h2]

/-- What is owed: where the mark is 0, twice the same; else the next of what is known. -/
def diagL : List (Bool × Bool) → Ob → Ob
  | _, [] => []
  | ks, p :: ob => Bool.rec (motive := fun _ => Ob) (List.rec (motive := fun _ => Ob) [(9, true, false)] (fun k ks' _ => (p.1, k.1, k.2) :: diagL ks' ob) ks) ((p.1, p.2.1, p.2.1) :: diagL ks ob) (Nat.beq p.1 0)

theorem diagL_ok : ∀ (ob : Ob) (ks : List (Bool × Bool)), (∀ k ∈ ks, k.1 = k.2) → Ob.ok (diagL ks ob) ∨ ∃ p ∈ diagL ks ob, p = (9, true, false)
  | [], _, _ => .inl (by unfold diagL; exact Ob.ok_nil)
  | p :: ob, ks, hk => by
    unfold diagL
    cases Nat.beq p.1 0 with
    | true =>
      rcases diagL_ok ob ks hk with h | ⟨q, hq, he⟩
      · exact .inl (Ob.ok_cons rfl h)
      · exact .inr ⟨q, List.mem_cons_of_mem _ hq, he⟩
    | false =>
      cases ks with
      | nil => exact .inr ⟨_, List.mem_cons_self .., rfl⟩
      | cons k ks =>
        rcases diagL_ok ob ks (fun x hx => hk x (List.mem_cons_of_mem _ hx)) with h | ⟨q, hq, he⟩
        · exact .inl (Ob.ok_cons (hk k (List.mem_cons_self ..)) h)
        · exact .inr ⟨q, List.mem_cons_of_mem _ hq, he⟩

def diagLR (ks : List (Bool × Bool)) (v : AV) (e : Eff) : Option (AV × Eff × Ob) → Option (AV × Eff × Ob)
  | some (_, _, ob) => some (v, e, diagL ks ob)
  | none => none

/-- No more was owed than is known. -/
def enough (ks : List (Bool × Bool)) : Option (AV × Eff × Ob) → Bool
  | some (_, _, ob) => (diagL ks ob).all fun p => !(Nat.beq p.1 9)
  | none => false

/-- A contract, evaluated, where what is owed is known, one by one. -/
theorem CallOK.evalL (hm : P.follows .mixedOrders = true) {tbl : Tbl} (ht : Tbl.ok P tbl) {base : OraB} (hb : OraOK P base.plain) {hsOf : FuncId → Hints} {k fuel n : Nat} {f : FuncId} {args : List AV} {H : Heap} {v : AV} {e : Eff} {ks : List (Bool × Bool)} (hks : ∀ k ∈ ks, k.1 = k.2)
    (h : oraI P tbl k base hsOf fuel n f args H = diagLR ks v e (oraI P tbl k base hsOf fuel n f args H)) (hs : enough ks (oraI P tbl k base hsOf fuel n f args H) = true) : CallOK P f args H v e := by
  have ho := oraI_ok hm (k := k) ht hb (hsOf := hsOf) (fuel := fuel) n
  generalize oraI P tbl k base hsOf fuel n = O at h hs ho
  cases hx : O f args H with
  | none => rw [hx] at hs; cases hs
  | some r =>
    obtain ⟨v', e', ob⟩ := r
    rw [hx] at h hs
    have hob : Ob.ok (diagL ks ob) := by
      rcases diagL_ok ob ks hks with h1 | ⟨p, hp, rfl⟩
      · exact h1
      · have := List.all_eq_true.1 hs _ hp
        cases this
    refine ho f args H v e ?_
    unfold OraB.plain
    rw [hx, h]
    simp only [diagLR, if_pos hob]

/-- A contract, evaluated; what is owed is told. -/
theorem CallOK.evalOb (hm : P.follows .mixedOrders = true) {tbl : Tbl} (ht : Tbl.ok P tbl) {base : OraB} (hb : OraOK P base.plain) {hsOf : FuncId → Hints} {k fuel n : Nat} {f : FuncId} {args : List AV} {H : Heap} {v : AV} {e : Eff} {ob : Ob}
    (h : oraI P tbl k base hsOf fuel n f args H = some (v, e, ob)) (hk : Ob.ok ob) : CallOK P f args H v e := by
  refine oraI_ok hm (k := k) ht hb (hsOf := hsOf) (fuel := fuel) n f args H v e ?_
  unfold OraB.plain
  rw [h]
  simp only [if_pos hk]
end
end Go.Ev
