/-
  Arguments that are handed on alone: what was read of them reads so behind the call. Conditions: none; nothing here speaks of one program.
-/
import Derived.Test.YtinhlbmlopkgiaaGreatDoorFwG
import Derived.ChangeReads
import Derived.ChangeOld
import Derived.ReadAgain
set_option linter.unusedSectionVars false
set_option linter.unusedVariables false
namespace Go.Fv
open Go.WideShapes Go.ChangeShapes
section
variable {H : Type} {enc : TypeId × Value → H} {P : Program} {W W' : World} {base : Nat} {sp : Nat → Bool} {held : Bool}

theorem trod_old (hk : ∀ k, k < W.heap.size → W'.heap[k]? = W.heap[k]?) : ∀ (n : Nat) (t : TypeId) (cs : List Value) (x : DataW H × List MemPlace), DataW.trod enc P W base sp held n t cs = some x → DataW.trod enc P W' base sp held n t cs = some x
  | 0, _, _, _, h => by simp [DataW.trod] at h
  | n + 1, t, cs, x, h => by
    have hlt := DataW.trod_lt (n + 1) t cs x h
    rw [DataW.trod_step] at h ⊢
    refine DataW.trodStep_carry (fun t cs x hx _ => trod_old hk n t cs x hx) h fun p hp => ?_
    have hb := hlt p hp
    cases p with
    | cell b off =>
      show W'.cell? ⟨b, off, none⟩ = W.cell? ⟨b, off, none⟩
      unfold World.cell?
      rw [hk b hb]
    | map b => exact hk b hb
theorem Trod.old (hk : ∀ k, k < W.heap.size → W'.heap[k]? = W.heap[k]?) {t : TypeId} {v : Value} {d : DataW H} {ps : List MemPlace} (h : DataW.Trod enc P W base sp held t v d ps) : DataW.Trod enc P W' base sp held t v d ps := by
  obtain ⟨n, hn⟩ := h
  exact ⟨n, trod_old hk n _ _ _ hn⟩
theorem TrodAll.old (hk : ∀ k, k < W.heap.size → W'.heap[k]? = W.heap[k]?) : ∀ {ts : List TypeId} {vs : List Value} {ds : List (DataW H)} {ps : List MemPlace}, DataW.TrodAll enc P W base sp held ts vs ds ps → DataW.TrodAll enc P W' base sp held ts vs ds ps
  | [], [], [], _, h => h
  | _ :: _, _ :: _, _ :: _, _, ⟨p, q, h1, h2, e⟩ => ⟨p, q, Trod.old hk h1, TrodAll.old hk h2, e⟩

theorem slice_len {t e : TypeId} {a : Option Addr} {n c : Nat} {d : DataW H} {ps : List MemPlace} (ht : P.underlying t = some (.slice e)) (h : DataW.Trod enc P W base sp held t (.slice a n c) d ps) : n ≤ 9223372036854775807 := by
  obtain ⟨k, hk⟩ := h
  cases k with
  | zero => simp [DataW.trod] at hk
  | succ k =>
    rw [DataW.trod_step] at hk
    unfold DataW.trodStep at hk
    rw [ht] at hk
    simp only [Value.cells] at hk
    cases a with
    | none =>
      cases n with
      | zero => omega
      | succ n => simp at hk
    | some a =>
      simp only at hk
      split at hk
      · rename_i hc
        have := hc.2.2
        unfold maxLen at this
        omega
      · cases hk
end
end Go.Fv
