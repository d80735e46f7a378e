/-
  A second abstract evaluator of the model's code: sums and differences of 64 bits with carries. Conditions: none; nothing here speaks of one program.
-/
import Derived.Test.YtinhlbmlopkgiaaGreatFwD
import Derived.Laws.Externs
set_option linter.unusedSectionVars false
set_option linter.unusedVariables false
namespace Go.Fv
variable {P : Program} [Plain P]

theorem litOK_u64 {x : Int} (h : litOK (.int .u64 x) = true) : 0 ≤ x ∧ x ≤ 18446744073709551615 := by
  have h' : (decide ((0 : Int) ≤ x) && decide (x ≤ (18446744073709551615 : Int))) = true := h
  rwa [Bool.and_eq_true, decide_eq_true_eq, decide_eq_true_eq] at h'
theorem all2_three {ρ : PM} {a b c : AV} {us : Array Value} (h : All2 (VRel ρ) [a, b, c] us.toList) : ∃ x y z, us = #[x, y, z] ∧ VRel ρ a x ∧ VRel ρ b y ∧ VRel ρ c z := by
  obtain ⟨l⟩ := us
  match l, h with
  | [x, y, z], ⟨h1, h2, h3, _⟩ => exact ⟨x, y, z, rfl, h1, h2, h3⟩

noncomputable def add64O : List AV → HP → R := fun args H => match args with
  | [.one (.lit (.int .u64 x)), .one (.lit (.int .u64 y)), .one (.lit (.int .u64 c))] =>
    match decide (c ≤ 1) with
    | true => some (.tup [(false, [.lit (.int .u64 ((x + y + c) % 18446744073709551616))]), (false, [.lit (.int .u64 ((x + y + c) / 18446744073709551616))])], H)
    | false => none
  | _ => none

theorem add64_ok {f : FuncId} {fn : Func} (hf : P.funcs[f]? = some fn) (hname : (fn.name == "runtime.NumGoroutine") = false) (hb : fn.body.isNone = true) (hn : Extern.findNext fn = none) (he : Extern.find fn = some add64Entry) : FnOK P f add64O := by
  intro args H v H' h
  unfold add64O at h
  split at h
  · rename_i x y c
    split at h
    · rename_i hc
      cases h
      have hc := of_decide_eq_true hc
      refine ⟨fun o ho => by subst ho; exact St.refl _, fun ρ w us hargs hH hd => ?_⟩
      obtain ⟨u1, u2, u3, rfl, ⟨rfl, h1⟩, ⟨rfl, h2⟩, ⟨rfl, h3⟩⟩ := all2_three hargs
      have h1' := litOK_u64 h1
      have h2' := litOK_u64 h2
      have h3' : 0 ≤ c := (litOK_u64 h3).1
      rw [run_callFunc_extern hf hname hb hn he, run_add64 x y c (by omega) (by omega) (by omega) hc]
      refine ⟨_, rfl, ρ, ⟨_, rfl, ⟨rfl, ?_⟩, ⟨rfl, ?_⟩, trivial⟩, Sim.refl hH hd⟩
      · show (decide ((0 : Int) ≤ (x + y + c) % 18446744073709551616) && decide ((x + y + c) % 18446744073709551616 ≤ (18446744073709551615 : Int))) = true
        rw [Bool.and_eq_true, decide_eq_true_eq, decide_eq_true_eq]
        omega
      · show (decide ((0 : Int) ≤ (x + y + c) / 18446744073709551616) && decide ((x + y + c) / 18446744073709551616 ≤ (18446744073709551615 : Int))) = true
        rw [Bool.and_eq_true, decide_eq_true_eq, decide_eq_true_eq]
        omega
    · cases h
  · cases h

noncomputable def sub64O : List AV → HP → R := fun args H => match args with
  | [.one (.lit (.int .u64 x)), .one (.lit (.int .u64 y)), .one (.lit (.int .u64 c))] =>
    match decide (c ≤ 1) with
    | true => some (.tup [(false, [.lit (.int .u64 ((x - y - c) % 18446744073709551616))]), (false, [.lit (.int .u64 (bif decide (x < y + c) then 1 else 0))])], H)
    | false => none
  | _ => none

def sub64E : Array Value → Sem Value := fun args => do
  let (x, y, b) ← Extern.MathBitsCarry.three "Sub64" args
  pure (Extern.MathBitsCarry.pair ((x + Extern.MathBitsCarry.m64 - y - b) % Extern.MathBitsCarry.m64) (if x < y + b then 1 else 0))

theorem run_sub64E (x y b : Nat) (hb : b ≤ 1) (w : World) :
    (sub64E #[.int .u64 x, .int .u64 y, .int .u64 b]).run P w =
      .ok (.tuple #[.int .u64 (((x + 18446744073709551616 - y - b) % 18446744073709551616 : Nat) : Int), .int .u64 ((if x < y + b then 1 else 0 : Nat) : Int)]) w := by
  have : b = 0 ∨ b = 1 := by omega
  rcases this with rfl | rfl <;> rfl

theorem sub64_ok {f : FuncId} {fn : Func} (hf : P.funcs[f]? = some fn) (hname : (fn.name == "runtime.NumGoroutine") = false) (hb : fn.body.isNone = true) (hn : Extern.findNext fn = none) (he : Extern.find fn = some sub64E) : FnOK P f sub64O := by
  intro args H v H' h
  unfold sub64O at h
  split at h
  · rename_i x y c
    split at h
    · rename_i hc
      cases h
      have hc := of_decide_eq_true hc
      refine ⟨fun o ho => by subst ho; exact St.refl _, fun ρ w us hargs hH hd => ?_⟩
      obtain ⟨u1, u2, u3, rfl, ⟨rfl, h1⟩, ⟨rfl, h2⟩, ⟨rfl, h3⟩⟩ := all2_three hargs
      have h1' := litOK_u64 h1
      have h2' := litOK_u64 h2
      have h3' : 0 ≤ c := (litOK_u64 h3).1
      obtain ⟨X, rfl⟩ := Int.eq_ofNat_of_zero_le h1'.1
      obtain ⟨Y, rfl⟩ := Int.eq_ofNat_of_zero_le h2'.1
      obtain ⟨C, rfl⟩ := Int.eq_ofNat_of_zero_le h3'
      rw [run_callFunc_extern hf hname hb hn he, run_sub64E X Y C (by omega)]
      have e1 : (((X + 18446744073709551616 - Y - C) % 18446744073709551616 : Nat) : Int) = ((X : Int) - Y - C) % 18446744073709551616 := by
        rcases Nat.lt_or_ge X (Y + C) with hlt | hge
        · have : X + 18446744073709551616 - Y - C = 18446744073709551616 - (Y + C - X) := by omega
          omega
        · omega
      have e2 : (((if X < Y + C then 1 else 0 : Nat)) : Int) = bif decide ((X : Int) < Y + C) then 1 else 0 := by
        by_cases hlt : X < Y + C
        · have h' : (X : Int) < Y + C := by omega
          simp [hlt, h']
        · have h' : ¬ (X : Int) < Y + C := by omega
          simp [hlt, h']
      rw [e1, e2]
      refine ⟨_, rfl, ρ, ⟨_, rfl, ⟨rfl, ?_⟩, ⟨rfl, ?_⟩, trivial⟩, Sim.refl hH hd⟩
      · show (decide ((0 : Int) ≤ ((X : Int) - Y - C) % 18446744073709551616) && decide (((X : Int) - Y - C) % 18446744073709551616 ≤ (18446744073709551615 : Int))) = true
        rw [Bool.and_eq_true, decide_eq_true_eq, decide_eq_true_eq]
        omega
      · cases decide ((X : Int) < Y + C) <;> decide
    · cases h
  · cases h
end Go.Fv
