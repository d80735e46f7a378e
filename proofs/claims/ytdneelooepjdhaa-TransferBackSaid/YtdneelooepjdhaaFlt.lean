/-
  Structs of nineteen integers as arguments of contracts. Conditions: none.
-/
import Derived.Test.YtdneelooepjdhaaOps
set_option linter.unusedVariables false
namespace Go.Proofs.Ytdneelooepjdhaa
open Go.Ev Go.Proofs

def unI : List IntKind → List Cel → Option (List Int)
  | [], [] => some []
  | k :: ks, .lit (.int k' n) :: cs => match k == k', unI ks cs with
    | true, some ns => some (n :: ns)
    | _, _ => none
  | _, _ => none

theorem unI_spec : ∀ (ks : List IntKind) (cs : List Cel) (ns : List Int), unI ks cs = some ns → cs = litsI ks ns ∧ ns.length = ks.length
  | [], [], ns, h => by cases h; exact ⟨rfl, rfl⟩
  | k :: ks, .lit (.int k' n) :: cs, ns, h => by
    unfold unI at h
    cases hk : k == k' with
    | false => rw [hk] at h; cases h
    | true =>
      obtain rfl : k = k' := by simpa using hk
      cases hr : unI ks cs with
      | none => rw [hr] at h; simp at h
      | some r =>
        rw [hr] at h
        simp only [hk, Option.some.injEq] at h
        subst h
        obtain ⟨h1, h2⟩ := unI_spec ks cs r hr
        exact ⟨by rw [h1]; rfl, by simp [h2]⟩
  | [], _ :: _, _, h => by simp [unI] at h
  | k :: ks, [], _, h => by simp [unI] at h
  | k :: ks, .ptr _ _ :: _, _, h => by simp [unI] at h
  | k :: ks, .sl _ _ _ _ :: _, _, h => by simp [unI] at h
  | k :: ks, .lit v :: cs, ns, h => by
    cases v with
    | int k' n =>
      unfold unI at h
      cases hk : k == k' with
      | false => rw [hk] at h; cases h
      | true =>
        obtain rfl : k = k' := by simpa using hk
        cases hr : unI ks cs with
        | none => rw [hr] at h; simp at h
        | some r =>
          rw [hr] at h
          simp only [hk, Option.some.injEq] at h
          subst h
          obtain ⟨h1, h2⟩ := unI_spec ks cs r hr
          exact ⟨by rw [h1]; rfl, by simp [h2]⟩
    | _ => simp [unI] at h

abbrev at' (l : List Int) (i : Nat) : Int := l.getD i 0
def app19 {α : Sort _} (f : Int → Int → Int → Int → Int → Int → Int → Int → Int → Int → Int → Int → Int → Int → Int → Int → Int → Int → Int → α) (l : List Int) : α :=
  f (at' l 0) (at' l 1) (at' l 2) (at' l 3) (at' l 4) (at' l 5) (at' l 6) (at' l 7) (at' l 8) (at' l 9) (at' l 10) (at' l 11) (at' l 12) (at' l 13) (at' l 14) (at' l 15) (at' l 16) (at' l 17) (at' l 18)

theorem uncons {n : Nat} {l : List Int} (h : l.length = n + 1) : ∃ a t, l = a :: t ∧ t.length = n := by
  cases l with
  | nil => simp at h
  | cons a t => exact ⟨a, t, rfl, by simpa using h⟩
theorem len19 (l : List Int) (h : l.length = 19) : l = [at' l 0, at' l 1, at' l 2, at' l 3, at' l 4, at' l 5, at' l 6, at' l 7, at' l 8, at' l 9, at' l 10, at' l 11, at' l 12, at' l 13, at' l 14, at' l 15, at' l 16, at' l 17, at' l 18] := by
  obtain ⟨x0, l0, rfl, h0⟩ := uncons h
  obtain ⟨x1, l1, rfl, h1⟩ := uncons h0
  obtain ⟨x2, l2, rfl, h2⟩ := uncons h1
  obtain ⟨x3, l3, rfl, h3⟩ := uncons h2
  obtain ⟨x4, l4, rfl, h4⟩ := uncons h3
  obtain ⟨x5, l5, rfl, h5⟩ := uncons h4
  obtain ⟨x6, l6, rfl, h6⟩ := uncons h5
  obtain ⟨x7, l7, rfl, h7⟩ := uncons h6
  obtain ⟨x8, l8, rfl, h8⟩ := uncons h7
  obtain ⟨x9, l9, rfl, h9⟩ := uncons h8
  obtain ⟨x10, l10, rfl, h10⟩ := uncons h9
  obtain ⟨x11, l11, rfl, h11⟩ := uncons h10
  obtain ⟨x12, l12, rfl, h12⟩ := uncons h11
  obtain ⟨x13, l13, rfl, h13⟩ := uncons h12
  obtain ⟨x14, l14, rfl, h14⟩ := uncons h13
  obtain ⟨x15, l15, rfl, h15⟩ := uncons h14
  obtain ⟨x16, l16, rfl, h16⟩ := uncons h15
  obtain ⟨x17, l17, rfl, h17⟩ := uncons h16
  obtain ⟨x18, l18, rfl, h18⟩ := uncons h17
  obtain rfl := List.length_eq_zero_iff.1 h18
  rfl

theorem cT {cs : List Cel} {ns : List Int} (h : unI kindsT cs = some ns) : cs = litsI kindsT [at' ns 0, at' ns 1, at' ns 2, at' ns 3, at' ns 4, at' ns 5, at' ns 6, at' ns 7, at' ns 8, at' ns 9, at' ns 10, at' ns 11, at' ns 12, at' ns 13, at' ns 14, at' ns 15, at' ns 16, at' ns 17, at' ns 18] := by
  obtain ⟨h1, h2⟩ := unI_spec _ _ _ h
  rw [← len19 ns h2]
  exact h1
theorem cA {cs : List Cel} {ns : List Int} (h : unI kindsA cs = some ns) : cs = litsI kindsA [at' ns 0, at' ns 1, at' ns 2, at' ns 3, at' ns 4, at' ns 5, at' ns 6, at' ns 7, at' ns 8, at' ns 9, at' ns 10, at' ns 11, at' ns 12, at' ns 13, at' ns 14, at' ns 15, at' ns 16, at' ns 17, at' ns 18] := by
  obtain ⟨h1, h2⟩ := unI_spec _ _ _ h
  rw [← len19 ns h2]
  exact h1
theorem below_lits (ks : List IntKind) (ns : List Int) : (AV.agg (litsI ks ns)).below 0 = true := by
  induction ks generalizing ns with
  | nil => rfl
  | cons k ks ih => cases ns with
    | nil => rfl
    | cons n ns =>
      have := ih ns
      simp only [AV.below, litsI, List.all_cons, Cel.below, Bool.true_and] at this ⊢
      exact this
end Go.Proofs.Ytdneelooepjdhaa
