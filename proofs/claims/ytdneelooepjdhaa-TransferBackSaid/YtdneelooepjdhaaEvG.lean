/-
  An abstract evaluator of the model's code: a contract without writes leaves the world grown. Conditions: none; nothing here speaks of one program.
-/
import Derived.Test.YtdneelooepjdhaaEvN
import Derived.RowKit3
namespace Go.Ev
variable {P : Program}

theorem WEff.grown {ρ ρ' : PMap} {n : Nat} {news : List (Option Blk)} {w w' : World} (h : WEff ρ ρ' n { news := news } w w') : Go.RowKit.Grown w w' := by
  have hos := h.os
  simp only [Prod.mk.injEq] at hos
  refine ⟨⟨hos.1, h.output, fun i hi => ?_⟩, fun a => congrFun hos.2 a, h.size⟩
  have hs := h.old i hi
  unfold SameBut at hs
  split at hs
  · rename_i c t fr c' t' fr' h1 h2
    rw [h1, h2]
    exact ⟨hs.1, hs.2.1, hs.2.2.1, fun j _ => hs.2.2.2 j (fun ⟨b, i, c, o, hm, _, _⟩ => by cases hm)⟩
  · rename_i o o' hn
    split
    · rename_i c t fr c' t' fr' h1 h2
      exact (hn _ _ _ _ _ _ h1 h2).elim
    · rename_i es ck es' ck' h1 h2
      rw [h1, h2] at hs
      cases hs
      exact .inr ⟨rfl, rfl⟩
    · exact hs

/-- A contract on an empty heap: what a call hands back; the world has at most new blocks. -/
theorem CallOK.walk {f : FuncId} {args : List AV} {v : Value} {us : Array Value} (h : CallOK P f args [] (.one (.lit v)) {}) (hu : All2 (VRel fun _ => none) args us.toList) (hcall : ∀ us w, (callFunc f us).run P w = .ok (.enter f us) w) (w : World) :
    Calls P f us w fun e w' => e = .returned v ∧ Go.RowKit.Grown w w' := by
  have h1 := h.2 (fun _ => none) w us hu ⟨fun b blk h => by simp at h, fun b b' blk blk' B o o' h => by simp at h⟩ (fun _ _ => rfl)
  rw [hcall] at h1
  refine Calls.mono h1 fun e w' ⟨u, he, ρ', hv, hw⟩ => ?_
  exact ⟨by rw [he, hv.1], hw.grown⟩
end Go.Ev
