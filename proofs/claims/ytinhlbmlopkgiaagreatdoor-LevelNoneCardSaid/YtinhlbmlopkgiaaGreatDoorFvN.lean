/-
  A second abstract evaluator of the model's code: marks of deferred calls that a loop over a function leaves. Conditions: none; nothing here speaks of one program.
-/
import Derived.Test.YtinhlbmlopkgiaaGreatDoorFvA
set_option linter.unusedSectionVars false
set_option linter.unusedVariables false
namespace Go.Fv

/-- Each deferred entry is the mark of a block that holds no call, on which no known block lies, from object m on; no two are one. -/
def DfOK (ρ : PM) (H : HP) (w : World) (m : Nat) : List Deferred → Prop
  | [] => True
  | d :: ds => (∃ D : Nat, d = { target := .collected D, args := #[] } ∧ m ≤ D ∧ w.heap[D]? = some (.deferred (some [])) ∧ (∀ b L, H.Kn b → ρ b = some L → L.B ≠ D) ∧ ∀ d' ∈ ds, ∀ D', d'.target = .collected D' → D' ≠ D) ∧ DfOK ρ H w m ds
theorem DfOK.nil (ρ : PM) (H : HP) (w : World) (m : Nat) : DfOK ρ H w m [] := trivial

theorem DfOK.step {ρ ρ' : PM} {H H' : HP} {w w' : World} {m : Nat} (hd : Dom ρ H.n) (s : Sim ρ H w ρ' H' w') : ∀ {ds : List Deferred}, DfOK ρ H w m ds → DfOK ρ' H' w' m ds
  | [], _ => trivial
  | d :: ds, ⟨⟨D, h1, hm, h2, h3, h7⟩, h⟩ => by
    have hlt := (Array.getElem?_eq_some_iff.1 h2).1
    refine ⟨⟨D, h1, hm, by rw [s.fr D hlt h3]; exact h2, fun b L hk hL he => ?_, h7⟩, DfOK.step hd s h⟩
    cases hb : ρ b with
    | some L0 =>
      have := s.le b L0 hb
      rw [hL] at this
      cases this
      exact h3 b L (s.kn (hd.lt hb) hk) hb he
    | none =>
      rcases s.new b L hb hL with h4 | ⟨b0, L0, h4, h5, h6⟩
      · omega
      · exact h3 b0 L0 h4 h5 (h6.trans he)
end Go.Fv
