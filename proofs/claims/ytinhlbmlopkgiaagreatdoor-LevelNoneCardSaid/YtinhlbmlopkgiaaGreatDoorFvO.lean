/-
  A second abstract evaluator of the model's code: an object that is laid without a block. Conditions: none; nothing here speaks of one program.
-/
import Derived.Test.YtinhlbmlopkgiaaGreatDoorFvN
import Derived.Test.YtinhlbmlopkgiaaGreatDoorFvC
set_option linter.unusedSectionVars false
set_option linter.unusedVariables false
namespace Go.Fv

theorem Sim.laid {ρ : PM} {H : HP} {w : World} {o : Obj} (h : HRel ρ H w) (hd : Dom ρ H.n) : Sim ρ H w ρ H (w.alloc o) := by
  have hk : ∀ k, k < w.heap.size → (w.alloc o).heap[k]? = w.heap[k]? := fun k hk => by rw [heap_alloc, if_neg (by omega)]
  exact {
    le := PM.le.refl ρ
    grow := Nat.le_refl _
    dom := hd
    rel := ⟨fun b i c L hc hL => (h.rel b i c L hc hL).of_heap (hk _ (h.rel b i c L hc hL).lt), h.inj⟩
    knc := fun _ _ _ h => h
    frc := fun b L i ⟨j, c, hc⟩ _ hL _ => SameAt.of_heap (hk _ (h.rel b j c L hc hL).lt) _
    fr := fun k hk' _ => hk k hk'
    new := fun b L h1 h2 => by rw [h1] at h2; cases h2
    size := by simp
    os := rfl
    tape := rfl
    output := rfl
    old := fun b L h1 h2 => by rw [h1] at h2; cases h2 }
end Go.Fv
