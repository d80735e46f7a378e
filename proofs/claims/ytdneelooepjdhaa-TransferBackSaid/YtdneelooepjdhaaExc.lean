/-
  The contracts of what tells whether an account is beyond a limit. Conditions: none.
-/
import Derived.Test.YtdneelooepjdhaaApp
import Derived.Test.YtdneelooepjdhaaEvQ
set_option linter.unusedVariables false
namespace Go.Proofs.Ytdneelooepjdhaa
open Go.Ev Go.Proofs

def moreX (ah al bh bl ch cl th tl : Int) : Bool := bif (bif SO (V ah al + V bh bl) then true else SO (V (SH (V ah al + V bh bl)) (SL (V ah al + V bh bl)) + V ch cl)) then true else decide (V th tl < V (SH (V (SH (V ah al + V bh bl)) (SL (V ah al + V bh bl)) + V ch cl)) (SL (V (SH (V ah al + V bh bl)) (SL (V ah al + V bh bl)) + V ch cl)))
theorem ev63 (ah al bh bl ch cl th tl : Int) : CallOK Try.prog 63 [u2 ah al, u2 bh bl, u2 ch cl, u2 th tl] [] (.one (.lit (.bool (moreX ah al bh bl ch cl th tl)))) {} :=
  CallOK.evalM (hsOf := hsOf) (k := 68) (fuel := 1000) (n := 4) mixed tbl_ok bO_ok (ks := []) (by simp) (by kernel_rfl) (by kernel_rfl)

theorem more_eq {ah al bh bl ch cl th tl : Int} (h1 : Wd ah) (h2 : Wd al) (h3 : Wd bh) (h4 : Wd bl) (h5 : Wd ch) (h6 : Wd cl) (h7 : Wd th) (h8 : Wd tl) :
    moreX ah al bh bl ch cl th tl = decide (V th tl < V ah al + V bh bl + V ch cl) := by
  have v1 := V_wd h1 h2
  have v2 := V_wd h3 h4
  have v3 := V_wd h5 h6
  have v4 := V_wd h7 h8
  unfold moreX
  simp only [V_SH]
  generalize V ah al = a at *
  generalize V bh bl = b at *
  generalize V ch cl = c at *
  generalize V th tl = d at *
  unfold SO
  by_cases q1 : 340282366920938463463374607431768211456 ≤ a + b
  · rw [decide_eq_true q1, decide_eq_true (show d < a + b + c by omega)]; rfl
  · rw [decide_eq_false q1]
    by_cases q2 : 340282366920938463463374607431768211456 ≤ (a + b) % 340282366920938463463374607431768211456 + c
    · rw [decide_eq_true q2, decide_eq_true (show d < a + b + c by omega)]; rfl
    · rw [decide_eq_false q2]
      simp only [cond_false]
      by_cases q3 : d < ((a + b) % 340282366920938463463374607431768211456 + c) % 340282366920938463463374607431768211456
      · rw [decide_eq_true q3, decide_eq_true (by omega)]
      · rw [decide_eq_false q3, decide_eq_false (by omega)]

def g63 : FnB := fun args _ => match args with
  | [.agg [.lit (.int .u64 ah), .lit (.int .u64 al)], .agg [.lit (.int .u64 bh), .lit (.int .u64 bl)], .agg [.lit (.int .u64 ch), .lit (.int .u64 cl)], .agg [.lit (.int .u64 th), .lit (.int .u64 tl)]] => some (.one (.lit (.bool (decide (V th tl < V ah al + V bh bl + V ch cl)))), {}, [])
  | _ => none
theorem fn63 : FnOK Try.prog 63 g63 := by
  intro args H v e ob h hk
  unfold g63 at h
  split at h
  · rename_i ah al bh bl ch cl th tl
    cases h
    refine CallOK.ranged (fun _ _ _ hm => by cases hm) fun ha _ => CallOK.pure ?_ (by
      intro x hx
      simp only [List.mem_cons, List.not_mem_nil, or_false] at hx
      rcases hx with rfl | rfl | rfl | rfl <;> rfl) H
    obtain ⟨h1, h2⟩ := wd2 (ha _ (List.mem_cons_self ..))
    obtain ⟨h3, h4⟩ := wd2 (ha _ (List.mem_cons_of_mem _ (List.mem_cons_self ..)))
    obtain ⟨h5, h6⟩ := wd2 (ha _ (List.mem_cons_of_mem _ (List.mem_cons_of_mem _ (List.mem_cons_self ..))))
    obtain ⟨h7, h8⟩ := wd2 (ha _ (List.mem_cons_of_mem _ (List.mem_cons_of_mem _ (List.mem_cons_of_mem _ (List.mem_cons_self ..)))))
    have key := ev63 ah al bh bl ch cl th tl
    rw [more_eq h1 h2 h3 h4 h5 h6 h7 h8] at key
    exact key
  · cases h

theorem bM_ok : OraOK Try.prog (oraL ((63, g63) :: lO)).plain := oraL_ok _ (by
  intro x hx
  rcases List.mem_cons.1 hx with rfl | hx
  · exact fn63
  exact lO_ok x hx)
def exI (aIDh aIDl aDph aDpl aDoh aDol aCph aCpl aCoh aCol aUah aUal aUb aUc aRe aLe aCd aFl aTi : Int) : Bool := (bif (bif bit aFl 2 then decide (V aCoh aCol < V aDph aDpl + V aDoh aDol + V 0 0) else false) then true else (bif bit aFl 4 then decide (V aDoh aDol < V aCph aCpl + V aCoh aCol + V 0 0) else false))
theorem ev17 (aIDh aIDl aDph aDpl aDoh aDol aCph aCpl aCoh aCol aUah aUal aUb aUc aRe aLe aCd aFl aTi : Int) : CallOK Try.prog 17 [.agg [.lit (.int .u64 aIDh), .lit (.int .u64 aIDl), .lit (.int .u64 aDph), .lit (.int .u64 aDpl), .lit (.int .u64 aDoh), .lit (.int .u64 aDol), .lit (.int .u64 aCph), .lit (.int .u64 aCpl), .lit (.int .u64 aCoh), .lit (.int .u64 aCol), .lit (.int .u64 aUah), .lit (.int .u64 aUal), .lit (.int .u64 aUb), .lit (.int .u32 aUc), .lit (.int .u32 aRe), .lit (.int .u32 aLe), .lit (.int .u16 aCd), .lit (.int .u16 aFl), .lit (.int .u64 aTi)]] [] (.one (.lit (.bool (exI aIDh aIDl aDph aDpl aDoh aDol aCph aCpl aCoh aCol aUah aUal aUb aUc aRe aLe aCd aFl aTi)))) {} :=
  CallOK.evalM (hsOf := hsOf) (k := 68) (fuel := 1000) (n := 4) mixed tbl_ok bM_ok (ks := []) (by simp) (by kernel_rfl) (by kernel_rfl)
def g17 : FnB := fun args _ => match args with
  | [.agg a] => match unI kindsA a with
    | some a => some (.one (.lit (.bool (exI (at' a 0) (at' a 1) (at' a 2) (at' a 3) (at' a 4) (at' a 5) (at' a 6) (at' a 7) (at' a 8) (at' a 9) (at' a 10) (at' a 11) (at' a 12) (at' a 13) (at' a 14) (at' a 15) (at' a 16) (at' a 17) (at' a 18)))), {}, [])
    | none => none
  | _ => none
theorem fn17 : FnOK Try.prog 17 g17 := by
  intro args H v e ob h hk
  unfold g17 at h
  split at h
  · rename_i a
    split at h
    · rename_i a ha
      rw [cA ha]
      cases h
      exact CallOK.pure (ev17 (at' a 0) (at' a 1) (at' a 2) (at' a 3) (at' a 4) (at' a 5) (at' a 6) (at' a 7) (at' a 8) (at' a 9) (at' a 10) (at' a 11) (at' a 12) (at' a 13) (at' a 14) (at' a 15) (at' a 16) (at' a 17) (at' a 18)) (by
        intro x hx
        simp only [List.mem_cons, List.not_mem_nil, or_false] at hx
        rcases hx with rfl; rfl) H
    · cases h
  · cases h
end Go.Proofs.Ytdneelooepjdhaa
