/-
  An abstract evaluator of the model's code: a function and all that it calls, evaluated; the carries of bits. Conditions: none; nothing here speaks of one program.
-/
import Derived.Test.YtdneelooepjdhaaEvT
import Derived.Laws.Externs
import Derived.KernelRfl
set_option linter.unusedSectionVars false
namespace Go.Ev
variable {P : Program} [Plain P]
noncomputable section

abbrev Tbl := List (FuncId × Func × Code)

def Tbl.ok (P : Program) (l : Tbl) : Prop := ∀ p ∈ l, P.funcs[p.1]? = some p.2.1 ∧ p.2.1.body = some p.2.2 ∧ (∀ us w, (callFunc p.1 us).run P w = .ok (.enter p.1 us) w) ∧ flowAll p.2.2 = true

theorem Tbl.ok_nil : Tbl.ok P [] := fun _ h => by cases h

/-- The function's body. -/
def bodyOf (fn : Func) : Code := fn.body.getD .skip

theorem run_enter {f : FuncId} {fn : Func} {c : Code} (hf : P.funcs[f]? = some fn) (hname : (fn.name == "runtime.NumGoroutine") = false) (hb : fn.body = some c) (args : Array Value) (w : World) :
    (callFunc f args).run P w = .ok (.enter f args) w := by
  have h1 : fn.name ≠ "runtime.NumGoroutine" := by simpa using hname
  simp [callFunc, hf, h1, hb]

/-- What is asked of a function of the table, as one test. -/
def fnTest (fn : Func) : Bool := !(fn.name == "runtime.NumGoroutine") && (match fn.body with | some c => flowAll c | none => false)

theorem Tbl.ok_cons {f : FuncId} {fn : Func} {l : Tbl} (hf : P.funcs[f]? = some fn) (ht : fnTest fn = true) (hl : Tbl.ok P l) : Tbl.ok P ((f, fn, bodyOf fn) :: l) := by
  intro p hp
  rcases List.mem_cons.1 hp with rfl | hp
  · unfold fnTest at ht
    simp only [Bool.and_eq_true, Bool.not_eq_true'] at ht
    obtain ⟨h1, h2⟩ := ht
    split at h2
    · rename_i c hc
      have hb : fn.body = some (bodyOf fn) := by unfold bodyOf; rw [hc]; rfl
      refine ⟨hf, hb, fun us w => run_enter hf h1 hb us w, ?_⟩
      show flowAll (bodyOf fn) = true
      unfold bodyOf
      rw [hc]
      exact h2
    · cases h2
  · exact hl p hp

def findT : Tbl → FuncId → Option (Func × Code)
  | [], _ => none
  | (g, fn, c) :: l, f => if g = f then some (fn, c) else findT l f

theorem findT_mem : ∀ {l : Tbl} {f : FuncId} {fn : Func} {c : Code}, findT l f = some (fn, c) → (f, fn, c) ∈ l
  | [], _, _, _, h => by cases h
  | (g, fn', c') :: l, f, fn, c, h => by
    simp only [findT] at h
    split at h
    · rename_i hg
      cases h
      subst hg
      exact List.mem_cons_self ..
    · exact List.mem_cons_of_mem _ (findT_mem h)

/-- The table by number, at hand. -/
def treeT (tbl : Tbl) (k : Nat) : Tr (Func × Code) := Tr.build k (findT tbl)

theorem treeT_mem {tbl : Tbl} {k f : Nat} {fn : Func} {c : Code} (h : (treeT tbl k).get f = some (fn, c)) : (f, fn, c) ∈ tbl := by
  unfold treeT at h
  rcases (Tr.get_build k (findT tbl) f).2 with h1 | h1
  · rw [h1] at h
    exact findT_mem h
  · rw [h1] at h
    cases h

/-- Each function of the table (numbers below k) is evaluated where it is called, to a depth. -/
def oraN (P : Program) [Plain P] (tbl : Tbl) (k : Nat) (base : OraB) (fuel : Nat) : Nat → OraB
  | 0 => base
  | n + 1 => fun f args H =>
    match (treeT tbl k).get f with
    | some (fn, c) => runFn P (oraN P tbl k base fuel n) {} fuel fn c args H
    | none => base f args H

theorem oraN_ok (hm : P.follows .mixedOrders = true) {tbl : Tbl} {k : Nat} (ht : Tbl.ok P tbl) {base : OraB} (hb : OraOK P base.plain) {fuel : Nat} : ∀ n, OraOK P (oraN P tbl k base fuel n).plain
  | 0 => hb
  | n + 1 => by
    intro f args H v e h
    have ih := oraN_ok hm (k := k) ht hb (fuel := fuel) n
    unfold OraB.plain at h
    split at h
    · rename_i v' e' ob ho
      split at h
      · rename_i hk
        cases h
        simp only [oraN] at ho
        split at ho
        · rename_i fn c hfind
          obtain ⟨h1, h2, h3, h4⟩ := ht _ (treeT_mem hfind)
          exact runFn_ok hm ih h1 h2 h3 h4 ho hk
        · refine hb f args H v e ?_
          unfold OraB.plain
          rw [ho]
          simp only [if_pos hk]
      · cases h
    · cases h

/-- A closed run. -/
theorem closed_ok (hm : P.follows .mixedOrders = true) {tbl : Tbl} (ht : Tbl.ok P tbl) {base : OraB} (hb : OraOK P base.plain) {k fuel n : Nat} {f : FuncId} {args : List AV} {H : Heap} {v : AV} {e : Eff}
    (h : oraN P tbl k base fuel n f args H = some (v, e, [])) : CallOK P f args H v e := by
  refine oraN_ok hm (k := k) ht hb (fuel := fuel) n f args H v e ?_
  unfold OraB.plain
  rw [h]
  simp only [if_pos Ob.ok_nil]

theorem litOK_u64 {x : Int} (h : litOK (.int .u64 x) = true) : 0 ≤ x ∧ x ≤ 18446744073709551615 := by
  have h' : (decide ((0 : Int) ≤ x) && decide (x ≤ (18446744073709551615 : Int))) = true := h
  rwa [Bool.and_eq_true, decide_eq_true_eq, decide_eq_true_eq] at h'

/-! ### The carries -/
theorem WEff.none' (ρ : PMap) (n : Nat) (w : World) : WEff ρ ρ n {} w w := WEff.refl ρ n w

theorem All2.three {ρ : PMap} {a b c : AV} {us : Array Value} (h : All2 (VRel ρ) [a, b, c] us.toList) : ∃ x y z, us = #[x, y, z] ∧ VRel ρ a x ∧ VRel ρ b y ∧ VRel ρ c z := by
  obtain ⟨l⟩ := us
  match l, h with
  | [x, y, z], ⟨h1, h2, h3, _⟩ => exact ⟨x, y, z, rfl, h1, h2, h3⟩

def add64B (checked : Bool) : FnB := fun args _ => match args with
  | [.one (.lit (.int .u64 x)), .one (.lit (.int .u64 y)), .one (.lit (.int .u64 c))] =>
    match checked with
    | true => match decide (c ≤ 1) with
      | true => some (.tup [(false, [.lit (.int .u64 ((x + y + c) % 18446744073709551616))]), (false, [.lit (.int .u64 ((x + y + c) / 18446744073709551616))])], {}, [])
      | false => none
    | false => some (.tup [(false, [.lit (.int .u64 ((x + y + c) % 18446744073709551616))]), (false, [.lit (.int .u64 ((x + y + c) / 18446744073709551616))])], {}, [(5, decide (c ≤ 1), true)])
  | _ => none

theorem add64_ok {f : FuncId} {fn : Func} (hf : P.funcs[f]? = some fn) (hname : (fn.name == "runtime.NumGoroutine") = false) (hb : fn.body.isNone = true) (hn : Extern.findNext fn = none) (he : Extern.find fn = some add64Entry) (checked : Bool) :
    FnOK P f (add64B checked) := by
  intro args H v e ob h hk
  have key : ∀ x y c : Int, c ≤ 1 → args = [.one (.lit (.int .u64 x)), .one (.lit (.int .u64 y)), .one (.lit (.int .u64 c))] →
      CallOK P f args H (.tup [(false, [.lit (.int .u64 ((x + y + c) % 18446744073709551616))]), (false, [.lit (.int .u64 ((x + y + c) / 18446744073709551616))])]) {} := by
    intro x y c hc ha
    subst ha
    refine ⟨fun _ _ _ h => (by cases h), fun ρ w us hargs hH hd => ?_⟩
    obtain ⟨u1, u2, u3, rfl, ⟨rfl, h1⟩, ⟨rfl, h2⟩, ⟨rfl, h3⟩⟩ := All2.three hargs
    have h1' := litOK_u64 h1
    have h2' := litOK_u64 h2
    have h3' : 0 ≤ c := (litOK_u64 h3).1
    rw [run_callFunc_extern hf hname hb hn he, run_add64 x y c (by omega) (by omega) (by omega) hc]
    refine ⟨ρ, ⟨_, rfl, ⟨rfl, ?_⟩, ⟨rfl, ?_⟩, trivial⟩, WEff.refl ρ _ w⟩
    · show (decide ((0 : Int) ≤ (x + y + c) % 18446744073709551616) && decide ((x + y + c) % 18446744073709551616 ≤ (18446744073709551615 : Int))) = true
      rw [Bool.and_eq_true, decide_eq_true_eq, decide_eq_true_eq]
      omega
    · show (decide ((0 : Int) ≤ (x + y + c) / 18446744073709551616) && decide ((x + y + c) / 18446744073709551616 ≤ (18446744073709551615 : Int))) = true
      rw [Bool.and_eq_true, decide_eq_true_eq, decide_eq_true_eq]
      omega
  unfold add64B at h
  split at h
  · rename_i x y c
    split at h
    · split at h
      · rename_i hd
        cases h
        exact key x y c (of_decide_eq_true hd) rfl
      · cases h
    · cases h
      exact key x y c (of_decide_eq_true (hk _ (List.mem_cons_self ..))) rfl
  · cases h

def sub64B (checked : Bool) : FnB := fun args _ => match args with
  | [.one (.lit (.int .u64 x)), .one (.lit (.int .u64 y)), .one (.lit (.int .u64 c))] =>
    match checked with
    | true => match decide (c ≤ 1) with
      | true => some (.tup [(false, [.lit (.int .u64 ((x - y - c) % 18446744073709551616))]), (false, [.lit (.int .u64 (bif decide (x < y + c) then 1 else 0))])], {}, [])
      | false => none
    | false => some (.tup [(false, [.lit (.int .u64 ((x - y - c) % 18446744073709551616))]), (false, [.lit (.int .u64 (bif decide (x < y + c) then 1 else 0))])], {}, [(5, decide (c ≤ 1), true)])
  | _ => none

def sub64E : Array Value → Sem Value := fun args => do
  let (x, y, b) ← Extern.MathBitsCarry.three "Sub64" args
  pure (Extern.MathBitsCarry.pair ((x + Extern.MathBitsCarry.m64 - y - b) % Extern.MathBitsCarry.m64) (if x < y + b then 1 else 0))

theorem run_sub64E (x y b : Nat) (hb : b ≤ 1) (w : World) :
    (sub64E #[.int .u64 x, .int .u64 y, .int .u64 b]).run P w =
      .ok (.tuple #[.int .u64 (((x + 18446744073709551616 - y - b) % 18446744073709551616 : Nat) : Int), .int .u64 ((if x < y + b then 1 else 0 : Nat) : Int)]) w := by
  have : b = 0 ∨ b = 1 := by omega
  rcases this with rfl | rfl <;> rfl

theorem sub64_ok {f : FuncId} {fn : Func} (hf : P.funcs[f]? = some fn) (hname : (fn.name == "runtime.NumGoroutine") = false) (hb : fn.body.isNone = true) (hn : Extern.findNext fn = none) (he : Extern.find fn = some sub64E) (checked : Bool) :
    FnOK P f (sub64B checked) := by
  intro args H v e ob h hk
  have key : ∀ x y c : Int, c ≤ 1 → args = [.one (.lit (.int .u64 x)), .one (.lit (.int .u64 y)), .one (.lit (.int .u64 c))] →
      CallOK P f args H (.tup [(false, [.lit (.int .u64 ((x - y - c) % 18446744073709551616))]), (false, [.lit (.int .u64 (bif decide (x < y + c) then 1 else 0))])]) {} := by
    intro x y c hc ha
    subst ha
    refine ⟨fun _ _ _ h => (by cases h), fun ρ w us hargs hH hd => ?_⟩
    obtain ⟨u1, u2, u3, rfl, ⟨rfl, h1⟩, ⟨rfl, h2⟩, ⟨rfl, h3⟩⟩ := All2.three hargs
    have h1' := litOK_u64 h1
    have h2' := litOK_u64 h2
    have h3' : 0 ≤ c := (litOK_u64 h3).1
    obtain ⟨X, rfl⟩ := Int.eq_ofNat_of_zero_le h1'.1
    obtain ⟨Y, rfl⟩ := Int.eq_ofNat_of_zero_le h2'.1
    obtain ⟨C, rfl⟩ := Int.eq_ofNat_of_zero_le h3'
    rw [run_callFunc_extern hf hname hb hn he, run_sub64E X Y C (by omega)]
    have e1 : (((X + 18446744073709551616 - Y - C) % 18446744073709551616 : Nat) : Int) = ((X : Int) - Y - C) % 18446744073709551616 := by
      rcases Nat.lt_or_ge X (Y + C) with hlt | hge
      · have : X + 18446744073709551616 - Y - C = 18446744073709551616 - (Y + C - X) := by omega
        omega
      · omega
    have e2 : (((if X < Y + C then 1 else 0 : Nat)) : Int) = bif decide ((X : Int) < Y + C) then 1 else 0 := by
      by_cases hlt : X < Y + C
      · have h' : (X : Int) < Y + C := by omega
        simp [hlt, h']
      · have h' : ¬ (X : Int) < Y + C := by omega
        simp [hlt, h']
    rw [e1, e2]
    refine ⟨ρ, ⟨_, rfl, ⟨rfl, ?_⟩, ⟨rfl, ?_⟩, trivial⟩, WEff.refl ρ _ w⟩
    · show (decide ((0 : Int) ≤ ((X : Int) - Y - C) % 18446744073709551616) && decide (((X : Int) - Y - C) % 18446744073709551616 ≤ (18446744073709551615 : Int))) = true
      rw [Bool.and_eq_true, decide_eq_true_eq, decide_eq_true_eq]
      omega
    · cases decide ((X : Int) < Y + C) <;> rfl
  unfold sub64B at h
  split at h
  · rename_i x y c
    split at h
    · split at h
      · rename_i hd
        cases h
        exact key x y c (of_decide_eq_true hd) rfl
      · cases h
    · cases h
      exact key x y c (of_decide_eq_true (hk _ (List.mem_cons_self ..))) rfl
  · cases h
end
end Go.Ev
