/-
  Contracts of sums and differences of 128 bits (the transfer package and the reference), as numbers. Conditions: none.
-/
import Derived.Test.YtdneelooepjdhaaDeb
import Derived.Test.YtdneelooepjdhaaAwk
set_option linter.unusedVariables false
namespace Go.Proofs.Ytdneelooepjdhaa
open Go.Ev Go.Proofs

abbrev u2 (h l : Int) : AV := .agg [.lit (.int .u64 h), .lit (.int .u64 l)]
abbrev uN (s : Int) : AV := u2 (SH s) (SL s)
def hs1 (t : Nat) (b : Bool) (f : Nat) : Hints := { sym := true, l := [(t, b, 1)] }

theorem wd2 {h l : Int} (hh : (u2 h l).ok = true) : Wd h ∧ Wd l := by
  simp only [AV.ok, List.all_cons, List.all_nil, Bool.and_true, Bool.and_eq_true] at hh
  exact ⟨wd_of hh.1, wd_of hh.2⟩

/-! ### minus -/
theorem ev58 (ah al bh bl : Int) : CallOK Try.prog 58 [u2 ah al, u2 bh bl] [] (u2 ((ah - bh - (bif subC al bl then 1 else 0)) % 18446744073709551616) ((al - bl - 0) % 18446744073709551616)) {} :=
  CallOK.evalOb (hsOf := hsOf) (k := 68) (fuel := 1000) (n := 2) mixed tbl_ok base0_ok (ob := ob64 al bl) (by kernel_rfl) (ob64_ok al bl)

theorem min_eq {ah al bh bl : Int} (h1 : Wd ah) (h2 : Wd al) (h3 : Wd bh) (h4 : Wd bl) :
    (ah - bh - (bif subC al bl then 1 else 0)) % 18446744073709551616 = SH (V ah al - V bh bl) ∧ (al - bl - 0) % 18446744073709551616 = SL (V ah al - V bh bl) := by
  unfold Wd at h1 h2 h3 h4
  unfold subC SH SL V
  by_cases h : al < bl + 0
  · rw [decide_eq_true h]; refine ⟨?_, by omega⟩; simp only [cond_true]; omega
  · rw [decide_eq_false h]; refine ⟨?_, by omega⟩; simp only [cond_false]; omega

def g58 : FnB := fun args _ => match args with
  | [.agg [.lit (.int .u64 ah), .lit (.int .u64 al)], .agg [.lit (.int .u64 bh), .lit (.int .u64 bl)]] => some (uN (V ah al - V bh bl), {}, [])
  | _ => none
theorem fn58 : FnOK Try.prog 58 g58 := by
  intro args H v e ob h hk
  unfold g58 at h
  split at h
  · rename_i ah al bh bl
    cases h
    refine CallOK.ranged (fun _ _ _ hm => by cases hm) fun ha _ => CallOK.pure ?_ (by simp [AV.below, Cel.below]) H
    obtain ⟨h1, h2⟩ := wd2 (ha _ (List.mem_cons_self ..))
    obtain ⟨h3, h4⟩ := wd2 (ha _ (List.mem_cons_of_mem _ (List.mem_cons_self ..)))
    obtain ⟨e1, e2⟩ := min_eq h1 h2 h3 h4
    have key := ev58 ah al bh bl
    rw [e1, e2] at key
    exact key
  · cases h

/-! ### Add, Sub of the reference -/
def wadd (a b : Int) : Int := W (a + b)
def wsub (a b : Int) : Int := W (a - b)
theorem ev65t (ah al bh bl : Int) (h : decide (wadd al bl < al) = true) : CallOK Try.prog 65 [u2 ah al, u2 bh bl] [] (.tup [(true, [.lit (.int .u64 (wadd (wadd ah bh) 1)), .lit (.int .u64 (wadd al bl))]), (false, [.lit (.bool (bif decide (wadd ah bh < ah) then true else wadd (wadd ah bh) 1 == 0))])]) {} :=
  CallOK.eval1 (hsOf := hs1 26 true) (k := 68) (fuel := 1000) (n := 2) mixed tbl_ok base0_ok h (by kernel_rfl) (by kernel_rfl)
theorem ev65f (ah al bh bl : Int) (h : decide (wadd al bl < al) = false) : CallOK Try.prog 65 [u2 ah al, u2 bh bl] [] (.tup [(true, [.lit (.int .u64 (wadd ah bh)), .lit (.int .u64 (wadd al bl))]), (false, [.lit (.bool (decide (wadd ah bh < ah)))])]) {} :=
  CallOK.eval1 (hsOf := hs1 26 false) (k := 68) (fuel := 1000) (n := 2) mixed tbl_ok base0_ok h (by kernel_rfl) (by kernel_rfl)

theorem W_eq (n : Int) : W n = n % 18446744073709551616 := by
  show (let m := n % (2 ^ 64 : Int); if false && m ≥ (2 ^ 63 : Int) then m - 2 ^ 64 else m) = _
  simp

def g65 : FnB := fun args _ => match args with
  | [.agg [.lit (.int .u64 ah), .lit (.int .u64 al)], .agg [.lit (.int .u64 bh), .lit (.int .u64 bl)]] => some (plusV (V ah al + V bh bl), {}, [])
  | _ => none
theorem fn65 : FnOK Try.prog 65 g65 := by
  intro args H v e ob h hk
  unfold g65 at h
  split at h
  · rename_i ah al bh bl
    cases h
    refine CallOK.ranged (fun _ _ _ hm => by cases hm) fun ha _ => CallOK.pure ?_ (by simp [AV.below, Cel.below]) H
    obtain ⟨h1, h2⟩ := wd2 (ha _ (List.mem_cons_self ..))
    obtain ⟨h3, h4⟩ := wd2 (ha _ (List.mem_cons_of_mem _ (List.mem_cons_self ..)))
    unfold Wd at h1 h2 h3 h4
    by_cases hc : wadd al bl < al
    · have key := ev65t ah al bh bl (decide_eq_true hc)
      unfold wadd at hc
      rw [W_eq] at hc
      have e1 : wadd (wadd ah bh) 1 = SH (V ah al + V bh bl) := by unfold wadd SH V; rw [W_eq, W_eq]; omega
      have e2 : wadd al bl = SL (V ah al + V bh bl) := by unfold wadd SL V; rw [W_eq]; omega
      have e3 : (bif decide (wadd ah bh < ah) then true else wadd (wadd ah bh) 1 == 0) = SO (V ah al + V bh bl) := by
        unfold SO
        by_cases h5 : wadd ah bh < ah
        · rw [decide_eq_true h5]
          unfold wadd at h5
          rw [W_eq] at h5
          rw [decide_eq_true (show 340282366920938463463374607431768211456 ≤ V ah al + V bh bl by unfold V; omega)]; rfl
        · rw [decide_eq_false h5]
          unfold wadd at h5 ⊢
          rw [W_eq] at h5
          rw [W_eq, W_eq]
          by_cases h6 : ((ah + bh) % 18446744073709551616 + 1) % 18446744073709551616 = 0
          · rw [beq_iff_eq.2 h6, decide_eq_true (show 340282366920938463463374607431768211456 ≤ V ah al + V bh bl by unfold V; omega)]; rfl
          · rw [beq_eq_false_iff_ne.2 h6, decide_eq_false (show ¬ 340282366920938463463374607431768211456 ≤ V ah al + V bh bl by unfold V; omega)]; rfl
      rw [e3, e1, e2] at key
      exact key
    · have key := ev65f ah al bh bl (decide_eq_false hc)
      unfold wadd at hc
      rw [W_eq] at hc
      have e1 : wadd ah bh = SH (V ah al + V bh bl) := by unfold wadd SH V; rw [W_eq]; omega
      have e2 : wadd al bl = SL (V ah al + V bh bl) := by unfold wadd SL V; rw [W_eq]; omega
      have e3 : decide (wadd ah bh < ah) = SO (V ah al + V bh bl) := by
        unfold SO
        by_cases h5 : wadd ah bh < ah
        · rw [decide_eq_true h5]
          unfold wadd at h5
          rw [W_eq] at h5
          rw [decide_eq_true (show 340282366920938463463374607431768211456 ≤ V ah al + V bh bl by unfold V; omega)]
        · rw [decide_eq_false h5]
          unfold wadd at h5
          rw [W_eq] at h5
          rw [decide_eq_false (show ¬ 340282366920938463463374607431768211456 ≤ V ah al + V bh bl by unfold V; omega)]
      rw [e3, e1, e2] at key
      exact key
  · cases h

theorem ev67t (ah al bh bl : Int) (h : decide (al < bl) = true) : CallOK Try.prog 67 [u2 ah al, u2 bh bl] [] (.tup [(true, [.lit (.int .u64 (wsub (wsub ah bh) 1)), .lit (.int .u64 (wsub al bl))]), (false, [.lit (.bool (lessB ah al bh bl))])]) {} :=
  CallOK.eval1 (hsOf := hs1 22 true) (k := 68) (fuel := 1000) (n := 2) mixed tbl_ok base0_ok h (by kernel_rfl) (by kernel_rfl)
theorem ev67f (ah al bh bl : Int) (h : decide (al < bl) = false) : CallOK Try.prog 67 [u2 ah al, u2 bh bl] [] (.tup [(true, [.lit (.int .u64 (wsub ah bh)), .lit (.int .u64 (wsub al bl))]), (false, [.lit (.bool (lessB ah al bh bl))])]) {} :=
  CallOK.eval1 (hsOf := hs1 22 false) (k := 68) (fuel := 1000) (n := 2) mixed tbl_ok base0_ok h (by kernel_rfl) (by kernel_rfl)

theorem lessB_eq {ah al bh bl : Int} (h1 : Wd ah) (h2 : Wd al) (h3 : Wd bh) (h4 : Wd bl) : lessB ah al bh bl = decide (V ah al < V bh bl) := by
  unfold Wd at h1 h2 h3 h4
  unfold lessB V
  by_cases q1 : ah < bh
  · rw [decide_eq_true q1, decide_eq_true (show ah * 18446744073709551616 + al < bh * 18446744073709551616 + bl by omega)]; rfl
  · rw [decide_eq_false q1]
    by_cases q2 : ah = bh
    · subst q2
      simp only [cond_false, beq_self_eq_true, cond_true]
      by_cases q3 : al < bl
      · rw [decide_eq_true q3, decide_eq_true (by omega)]
      · rw [decide_eq_false q3, decide_eq_false (by omega)]
    · rw [beq_eq_false_iff_ne.2 q2, decide_eq_false (show ¬ ah * 18446744073709551616 + al < bh * 18446744073709551616 + bl by omega)]; rfl

def g67 : FnB := fun args _ => match args with
  | [.agg [.lit (.int .u64 ah), .lit (.int .u64 al)], .agg [.lit (.int .u64 bh), .lit (.int .u64 bl)]] => some (.tup [(true, [.lit (.int .u64 (SH (V ah al - V bh bl))), .lit (.int .u64 (SL (V ah al - V bh bl)))]), (false, [.lit (.bool (decide (V ah al < V bh bl)))])], {}, [])
  | _ => none
theorem fn67 : FnOK Try.prog 67 g67 := by
  intro args H v e ob h hk
  unfold g67 at h
  split at h
  · rename_i ah al bh bl
    cases h
    refine CallOK.ranged (fun _ _ _ hm => by cases hm) fun ha _ => CallOK.pure ?_ (by simp [AV.below, Cel.below]) H
    obtain ⟨h1, h2⟩ := wd2 (ha _ (List.mem_cons_self ..))
    obtain ⟨h3, h4⟩ := wd2 (ha _ (List.mem_cons_of_mem _ (List.mem_cons_self ..)))
    have hl := lessB_eq h1 h2 h3 h4
    unfold Wd at h1 h2 h3 h4
    by_cases hc : al < bl
    · have key := ev67t ah al bh bl (decide_eq_true hc)
      have e1 : wsub (wsub ah bh) 1 = SH (V ah al - V bh bl) := by unfold wsub SH V; rw [W_eq, W_eq]; omega
      have e2 : wsub al bl = SL (V ah al - V bh bl) := by unfold wsub SL V; rw [W_eq]; omega
      rw [hl, e1, e2] at key
      exact key
    · have key := ev67f ah al bh bl (decide_eq_false hc)
      have e1 : wsub ah bh = SH (V ah al - V bh bl) := by unfold wsub SH V; rw [W_eq]; omega
      have e2 : wsub al bl = SL (V ah al - V bh bl) := by unfold wsub SL V; rw [W_eq]; omega
      rw [hl, e1, e2] at key
      exact key
  · cases h

def g29 : FnB := fun args _ => match args with
  | [.agg [.lit (.int .u64 ah), .lit (.int .u64 al)], .agg [.lit (.int .u64 bh), .lit (.int .u64 bl)]] => some (.one (.lit (.bool (decide (V ah al < V bh bl)))), {}, [])
  | _ => none
theorem ev29 (ah al bh bl : Int) : CallOK Try.prog 29 [u2 ah al, u2 bh bl] [] (.one (.lit (.bool (lessB ah al bh bl)))) {} :=
  CallOK.eval (hsOf := hsOf) (k := 68) (fuel := 1000) (n := 2) mixed tbl_ok base0_ok (by kernel_rfl) (by kernel_rfl)
theorem fn29 : FnOK Try.prog 29 g29 := by
  intro args H v e ob h hk
  unfold g29 at h
  split at h
  · rename_i ah al bh bl
    cases h
    refine CallOK.ranged (fun _ _ _ hm => by cases hm) fun ha _ => CallOK.pure ?_ (by simp [AV.below, Cel.below]) H
    obtain ⟨h1, h2⟩ := wd2 (ha _ (List.mem_cons_self ..))
    obtain ⟨h3, h4⟩ := wd2 (ha _ (List.mem_cons_of_mem _ (List.mem_cons_self ..)))
    have key := ev29 ah al bh bl
    rw [lessB_eq h1 h2 h3 h4] at key
    exact key
  · cases h
end Go.Proofs.Ytdneelooepjdhaa
