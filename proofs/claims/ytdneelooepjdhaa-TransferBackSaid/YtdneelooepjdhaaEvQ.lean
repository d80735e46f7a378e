/-
  An abstract evaluator of the model's code: a contract, evaluated, what is owed being known by its mark. Conditions: none; nothing here speaks of one program.
-/
import Derived.Test.YtdneelooepjdhaaEvJ
set_option linter.unusedSectionVars false
namespace Go.Ev
variable {P : Program} [Plain P]
noncomputable section

/-- What is known, by mark. -/
def knownL (l : List (Nat × Bool × Bool)) (t : Nat) : Bool × Bool :=
  List.rec (motive := fun _ => Bool × Bool) (true, true) (fun p _ r => Bool.rec (motive := fun _ => Bool × Bool) r p.2 (Nat.beq p.1 t)) l

theorem knownL_ok : ∀ (l : List (Nat × Bool × Bool)), (∀ p ∈ l, p.2.1 = p.2.2) → ∀ t, (knownL l t).1 = (knownL l t).2
  | [], _, _ => rfl
  | p :: l, h, t => by
    show (Bool.rec (motive := fun _ => Bool × Bool) (knownL l t) p.2 (Nat.beq p.1 t)).1 = (Bool.rec (motive := fun _ => Bool × Bool) (knownL l t) p.2 (Nat.beq p.1 t)).2
    cases Nat.beq p.1 t with
    | true => exact h p (List.mem_cons_self ..)
    | false => exact knownL_ok l (fun q hq => h q (List.mem_cons_of_mem _ hq)) t

/-- A contract, evaluated, where what is owed is known by its mark. -/
theorem CallOK.evalM (hm : P.follows .mixedOrders = true) {tbl : Tbl} (ht : Tbl.ok P tbl) {base : OraB} (hb : OraOK P base.plain) {hsOf : FuncId → Hints} {k fuel n : Nat} {f : FuncId} {args : List AV} {H : Heap} {v : AV} {e : Eff} {ks : List (Nat × Bool × Bool)} (hks : ∀ p ∈ ks, p.2.1 = p.2.2)
    (h : oraI P tbl k base hsOf fuel n f args H = diagR (knownL ks) v e (oraI P tbl k base hsOf fuel n f args H)) (hs : (oraI P tbl k base hsOf fuel n f args H).isSome = true) : CallOK P f args H v e := by
  obtain ⟨ob, h1, h2⟩ := diagR_eq (knownL_ok ks hks) h hs
  refine oraI_ok hm (k := k) ht hb (hsOf := hsOf) (fuel := fuel) n f args H v e ?_
  unfold OraB.plain
  rw [h1]
  simp only [if_pos h2]
end
end Go.Ev
