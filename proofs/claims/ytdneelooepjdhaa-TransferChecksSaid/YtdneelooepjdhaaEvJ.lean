/-
  An abstract evaluator of the model's code: a function and all that it calls, evaluated where tests are not known. Conditions: none; nothing here speaks of one program.
-/
import Derived.Test.YtdneelooepjdhaaEvN
set_option linter.unusedSectionVars false
namespace Go.Ev
variable {P : Program} [Plain P]
noncomputable section

/-- Contracts come first; each other function of the table is evaluated where it is called, both ways where its hints say so. -/
def oraI (P : Program) [Plain P] (tbl : Tbl) (k : Nat) (base : OraB) (hsOf : FuncId → Hints) (fuel : Nat) : Nat → OraB
  | 0 => base
  | n + 1 => fun f args H =>
    match base f args H with
    | some r => some r
    | none => match (treeT tbl k).get f with
      | some (fn, c) => inl P (oraI P tbl k base hsOf fuel n) (hsOf f) fuel fn c args H
      | none => none

theorem oraI_ok (hm : P.follows .mixedOrders = true) {tbl : Tbl} {k : Nat} (ht : Tbl.ok P tbl) {base : OraB} (hb : OraOK P base.plain) {hsOf : FuncId → Hints} {fuel : Nat} : ∀ n, OraOK P (oraI P tbl k base hsOf fuel n).plain
  | 0 => hb
  | n + 1 => by
    intro f args H v e h
    have ih := oraI_ok hm (k := k) ht hb (hsOf := hsOf) (fuel := fuel) n
    unfold OraB.plain at h
    split at h
    · rename_i v' e' ob ho
      split at h
      · rename_i hk
        cases h
        simp only [oraI] at ho
        split at ho
        · rename_i r hr
          cases ho
          refine hb f args H v e ?_
          unfold OraB.plain
          rw [hr]
          simp only [if_pos hk]
        · split at ho
          · rename_i fn c hfind
            obtain ⟨h1, h2, h3, h4⟩ := ht _ (treeT_mem hfind)
            exact inl_ok hm ih h1 h2 h3 h4 args H v e ob ho hk
          · cases ho
      · cases h
    · cases h

/-- A contract, evaluated. -/
theorem CallOK.eval (hm : P.follows .mixedOrders = true) {tbl : Tbl} (ht : Tbl.ok P tbl) {base : OraB} (hb : OraOK P base.plain) {hsOf : FuncId → Hints} {k fuel n : Nat} {f : FuncId} {args : List AV} {H : Heap} {v : AV} {e : Eff}
    (h : oraI P tbl k base hsOf fuel n f args H = diagR known0 v e (oraI P tbl k base hsOf fuel n f args H)) (hs : (oraI P tbl k base hsOf fuel n f args H).isSome = true) : CallOK P f args H v e := by
  obtain ⟨ob, h1, h2⟩ := diagR_eq (fun _ => rfl) h hs
  refine oraI_ok hm (k := k) ht hb (hsOf := hsOf) (fuel := fuel) n f args H v e ?_
  unfold OraB.plain
  rw [h1]
  simp only [if_pos h2]

/-- A contract, evaluated, where one test is known. -/
theorem CallOK.eval1 (hm : P.follows .mixedOrders = true) {tbl : Tbl} (ht : Tbl.ok P tbl) {base : OraB} (hb : OraOK P base.plain) {hsOf : FuncId → Hints} {k fuel n : Nat} {f : FuncId} {args : List AV} {H : Heap} {v : AV} {e : Eff} {b c : Bool} (hbc : b = c)
    (h : oraI P tbl k base hsOf fuel n f args H = diagR (known1 b c) v e (oraI P tbl k base hsOf fuel n f args H)) (hs : (oraI P tbl k base hsOf fuel n f args H).isSome = true) : CallOK P f args H v e := by
  obtain ⟨ob, h1, h2⟩ := diagR_eq (fun _ => hbc) h hs
  refine oraI_ok hm (k := k) ht hb (hsOf := hsOf) (fuel := fuel) n f args H v e ?_
  unfold OraB.plain
  rw [h1]
  simp only [if_pos h2]

/-- A contract, evaluated; what is owed is told. -/
theorem CallOK.evalOb (hm : P.follows .mixedOrders = true) {tbl : Tbl} (ht : Tbl.ok P tbl) {base : OraB} (hb : OraOK P base.plain) {hsOf : FuncId → Hints} {k fuel n : Nat} {f : FuncId} {args : List AV} {H : Heap} {v : AV} {e : Eff} {ob : Ob}
    (h : oraI P tbl k base hsOf fuel n f args H = some (v, e, ob)) (hk : Ob.ok ob) : CallOK P f args H v e := by
  refine oraI_ok hm (k := k) ht hb (hsOf := hsOf) (fuel := fuel) n f args H v e ?_
  unfold OraB.plain
  rw [h]
  simp only [if_pos hk]
end
end Go.Ev
