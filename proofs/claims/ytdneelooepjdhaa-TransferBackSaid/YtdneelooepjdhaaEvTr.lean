/-
  An abstract evaluator of the model's code: trees by number (for speed). Conditions: none; nothing here speaks of one program.
-/
import Derived.Orders
namespace Go.Ev
noncomputable section

/-! ### Lists by number -/
def getN {α : Type} (n : Nat) (l : List α) : Option α :=
  Nat.rec (motive := fun _ => List α → Option α) (fun l => List.casesOn (motive := fun _ => Option α) l none fun a _ => some a)
    (fun _ ih l => List.casesOn (motive := fun _ => Option α) l none fun _ t => ih t) n l

theorem getN_eq {α : Type} : ∀ (n : Nat) (l : List α), getN n l = l[n]?
  | 0, [] => rfl
  | 0, _ :: _ => rfl
  | _ + 1, [] => rfl
  | n + 1, a :: l => by
    show getN n l = _
    rw [getN_eq n l]
    rfl

def dropN {α : Type} (n : Nat) (l : List α) : List α :=
  Nat.rec (motive := fun _ => List α → List α) (fun l => l) (fun _ ih l => List.casesOn (motive := fun _ => List α) l [] fun _ t => ih t) n l

theorem dropN_eq {α : Type} : ∀ (n : Nat) (l : List α), dropN n l = l.drop n
  | 0, _ => rfl
  | _ + 1, [] => rfl
  | n + 1, _ :: l => by
    show dropN n l = _
    rw [dropN_eq n l]
    rfl

def takeS {α : Type} (n : Nat) (l : List (Option α)) : Option (List α) :=
  Nat.rec (motive := fun _ => List (Option α) → Option (List α)) (fun _ => some [])
    (fun _ ih l => List.casesOn (motive := fun _ => Option (List α)) l none fun a t => Option.casesOn (motive := fun _ => Option (List α)) a none fun x => Option.casesOn (motive := fun _ => Option (List α)) (ih t) none fun r => some (x :: r)) n l

theorem takeS_spec {α : Type} : ∀ (n : Nat) (l : List (Option α)) (cs : List α), takeS n l = some cs → n ≤ l.length ∧ cs.length = n ∧ ∀ (i : Nat) (c : α), cs[i]? = some c → l[i]? = some (some c)
  | 0, l, cs, h => by
    cases h
    exact ⟨Nat.zero_le _, rfl, fun i c h => by simp at h⟩
  | n + 1, [], cs, h => by cases h
  | n + 1, none :: l, cs, h => by cases h
  | n + 1, some x :: l, cs, h => by
    have h' : Option.casesOn (motive := fun _ => Option (List α)) (takeS n l) none (fun r => some (x :: r)) = some cs := h
    cases ht : takeS n l with
    | none => rw [ht] at h'; cases h'
    | some r =>
      rw [ht] at h'
      cases h'
      obtain ⟨h1, h2, h3⟩ := takeS_spec n l r ht
      refine ⟨by simp; omega, by simp [h2], fun i c hc => ?_⟩
      cases i with
      | zero => simpa using hc
      | succ i => exact h3 i c hc

/-! ### Trees by number -/
inductive Tr (α : Type) where
  | nil
  | node (v : Option α) (l r : Tr α)

def Tr.get {α : Type} (t : Tr α) (n : Nat) : Option α :=
  Tr.rec (motive := fun _ => Nat → Option α) (fun _ => none)
    (fun v _ _ gl gr n => Bool.rec (motive := fun _ => Option α) (Bool.rec (motive := fun _ => Option α) (gr (Nat.div (Nat.pred n) 2)) (gl (Nat.div (Nat.pred n) 2)) (Nat.beq (Nat.mod n 2) 1)) v (Nat.beq n 0)) t n

def Tr.set {α : Type} (t : Tr α) (a : α) (n : Nat) : Tr α :=
  Tr.rec (motive := fun _ => Nat → Tr α) (fun _ => .nil)
    (fun v l r sl sr n => Bool.rec (motive := fun _ => Tr α) (Bool.rec (motive := fun _ => Tr α) (.node v l (sr (Nat.div (Nat.pred n) 2))) (.node v (sl (Nat.div (Nat.pred n) 2)) r) (Nat.beq (Nat.mod n 2) 1))
      (Option.rec (motive := fun _ => Tr α) (.node none l r) (fun _ => .node (some a) l r) v) (Nat.beq n 0)) t n

theorem Tr.get_nil {α : Type} (n : Nat) : (Tr.nil : Tr α).get n = none := rfl
theorem Tr.get_zero {α : Type} (v : Option α) (l r : Tr α) : (Tr.node v l r).get 0 = v := rfl
theorem Tr.get_succ {α : Type} (v : Option α) (l r : Tr α) (n : Nat) : (Tr.node v l r).get (n + 1) = if (n + 1) % 2 = 1 then l.get (n / 2) else r.get (n / 2) := by
  show Bool.rec (motive := fun _ => Option α) (r.get (n / 2)) (l.get (n / 2)) (Nat.beq ((n + 1) % 2) 1) = _
  by_cases h : (n + 1) % 2 = 1
  · rw [if_pos h, h]
    rfl
  · rw [if_neg h]
    have : Nat.beq ((n + 1) % 2) 1 = false := by
      rw [Bool.eq_false_iff]
      intro hb
      exact h (Nat.eq_of_beq_eq_true hb)
    rw [this]
theorem Tr.set_nil {α : Type} (a : α) (n : Nat) : (Tr.nil : Tr α).set a n = .nil := rfl
theorem Tr.set_zero {α : Type} (v : Option α) (l r : Tr α) (a : α) : (Tr.node v l r).set a 0 = .node (v.map fun _ => a) l r := by cases v <;> rfl
theorem Tr.set_succ {α : Type} (v : Option α) (l r : Tr α) (a : α) (n : Nat) : (Tr.node v l r).set a (n + 1) = if (n + 1) % 2 = 1 then .node v (l.set a (n / 2)) r else .node v l (r.set a (n / 2)) := by
  show Bool.rec (motive := fun _ => Tr α) (.node v l (r.set a (n / 2))) (.node v (l.set a (n / 2)) r) (Nat.beq ((n + 1) % 2) 1) = _
  by_cases h : (n + 1) % 2 = 1
  · rw [if_pos h, h]
    rfl
  · rw [if_neg h]
    have : Nat.beq ((n + 1) % 2) 1 = false := by
      rw [Bool.eq_false_iff]
      intro hb
      exact h (Nat.eq_of_beq_eq_true hb)
    rw [this]

theorem Tr.get_set {α : Type} (a : α) : ∀ (t : Tr α) (n i : Nat), (t.set a n).get i = if n = i then (t.get i).map (fun _ => a) else t.get i
  | .nil, n, i => by simp [Tr.set_nil, Tr.get_nil]
  | .node v l r, 0, 0 => by rw [Tr.set_zero, Tr.get_zero, Tr.get_zero]; rfl
  | .node v l r, 0, i + 1 => by
    rw [Tr.set_zero, Tr.get_succ, Tr.get_succ]
    exact (if_neg (show ¬ 0 = i + 1 by omega)).symm
  | .node v l r, n + 1, 0 => by
    rw [Tr.set_succ, if_neg (show ¬ n + 1 = 0 by omega)]
    split <;> rfl
  | .node v l r, n + 1, i + 1 => by
    rw [Tr.set_succ, Tr.get_succ]
    by_cases h1 : (n + 1) % 2 = 1 <;> by_cases h2 : (i + 1) % 2 = 1
    · rw [if_pos h1, Tr.get_succ, if_pos h2, if_pos h2, Tr.get_set a l]
      by_cases h3 : n = i
      · subst h3; simp
      · rw [if_neg (by omega), if_neg (by omega)]
    · rw [if_pos h1, Tr.get_succ, if_neg h2, if_neg h2, if_neg (by intro h; rw [h] at h1; exact h2 h1)]
    · rw [if_neg h1, Tr.get_succ, if_pos h2, if_pos h2, if_neg (by intro h; rw [h] at h1; exact h1 h2)]
    · rw [if_neg h1, Tr.get_succ, if_neg h2, if_neg h2, Tr.get_set a r]
      by_cases h3 : n = i
      · subst h3; simp
      · rw [if_neg (by omega), if_neg (by omega)]

def Tr.build {α : Type} (k : Nat) (f : Nat → Option α) : Tr α :=
  Nat.rec (motive := fun _ => (Nat → Option α) → Tr α) (fun _ => .nil) (fun _ ih f => .node (f 0) (ih fun m => f (Nat.succ (Nat.mul 2 m))) (ih fun m => f (Nat.succ (Nat.succ (Nat.mul 2 m))))) k f

theorem Tr.get_build {α : Type} : ∀ (k : Nat) (f : Nat → Option α) (n : Nat), (n < k → (Tr.build k f).get n = f n) ∧ ((Tr.build k f).get n = f n ∨ (Tr.build k f).get n = none)
  | 0, _, _ => ⟨fun h => by omega, .inr rfl⟩
  | k + 1, f, 0 => ⟨fun _ => rfl, .inl rfl⟩
  | k + 1, f, n + 1 => by
    have hb : Tr.build (k + 1) f = .node (f 0) (Tr.build k fun m => f (Nat.succ (Nat.mul 2 m))) (Tr.build k fun m => f (Nat.succ (Nat.succ (Nat.mul 2 m)))) := rfl
    rw [hb, Tr.get_succ]
    by_cases h : (n + 1) % 2 = 1
    · rw [if_pos h]
      have := Tr.get_build k (fun m => f (Nat.succ (Nat.mul 2 m))) (n / 2)
      have e : Nat.succ (Nat.mul 2 (n / 2)) = n + 1 := by show 2 * (n / 2) + 1 = n + 1; omega
      simp only [e] at this
      exact ⟨fun hn => this.1 (by omega), this.2⟩
    · rw [if_neg h]
      have := Tr.get_build k (fun m => f (Nat.succ (Nat.succ (Nat.mul 2 m)))) (n / 2)
      have e : Nat.succ (Nat.succ (Nat.mul 2 (n / 2))) = n + 1 := by show 2 * (n / 2) + 1 + 1 = n + 1; omega
      simp only [e] at this
      exact ⟨fun hn => this.1 (by omega), this.2⟩

theorem Tr.get_build_all {α : Type} {k : Nat} {f : Nat → Option α} (h : ∀ n, k ≤ n → f n = none) (n : Nat) : (Tr.build k f).get n = f n := by
  have := Tr.get_build k f n
  rcases Nat.lt_or_ge n k with hn | hn
  · exact this.1 hn
  · rcases this.2 with h1 | h1
    · exact h1
    · rw [h1, h n hn]

/-- A function of numbers, what was answered once at hand. -/
def cacheF {α : Type} (k : Nat) (f : Nat → Option α) (t : Nat) : Option α :=
  match (Tr.build k f).get t with
  | some x => some x
  | none => f t

theorem cacheF_eq {α : Type} (k : Nat) (f : Nat → Option α) (t : Nat) : cacheF k f t = f t := by
  unfold cacheF
  split
  · rename_i x h
    rcases (Tr.get_build k f t).2 with h1 | h1
    · rw [← h1, h]
    · rw [h1] at h; cases h
  · rfl
end
end Go.Ev
