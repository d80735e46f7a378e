/-
  A second abstract evaluator of the model's code: regions that draw their order: plain facts on who waits for whom. Conditions: none; nothing here speaks of one program.
-/
import Derived.Test.YtinhlbmlopkgiaaGreatDoorFvS
import Derived.OrdersIn
set_option linter.unusedSectionVars false
set_option linter.unusedVariables false
namespace Go.Fv

/-! ### Who waits for whom -/
def maskOf (k : Nat) (acc : List Nat) (es : List Edge) : Nat :=
  es.foldl (fun s e => if Region.binds .any e && decide (e.on < k) then s ||| 2 ^ e.on ||| acc.getD e.on 0 else s) 0

def befGo : List Oper → Nat → List Nat → List Nat
  | [], _, acc => acc
  | o :: os, k, acc => befGo os (k + 1) (acc ++ [maskOf k acc o.after.toList])
def befs (ops : List Oper) : List Nat := befGo ops 0 []

theorem mask_spec {k : Nat} {acc : List Nat} {j : Nat} : ∀ (es : List Edge) (s : Nat), (es.foldl (fun s e => if Region.binds .any e && decide (e.on < k) then s ||| 2 ^ e.on ||| acc.getD e.on 0 else s) s).testBit j = true →
    s.testBit j = true ∨ ∃ e ∈ es, Region.binds .any e = true ∧ e.on < k ∧ (j = e.on ∨ (acc.getD e.on 0).testBit j = true)
  | [], s, h => .inl h
  | e :: es, s, h => by
    simp only [List.foldl_cons] at h
    rcases mask_spec es _ h with h1 | ⟨e', he, hr⟩
    · split at h1
      · rename_i hb
        simp only [Bool.and_eq_true, decide_eq_true_eq] at hb
        simp only [Nat.testBit_or, Bool.or_eq_true, Nat.testBit_two_pow, decide_eq_true_eq] at h1
        rcases h1 with (h1 | h1) | h1
        · exact .inl h1
        · exact .inr ⟨e, List.mem_cons_self .., hb.1, hb.2, .inl h1.symm⟩
        · exact .inr ⟨e, List.mem_cons_self .., hb.1, hb.2, .inr h1⟩
      · exact .inl h1
    · exact .inr ⟨e', List.mem_cons_of_mem _ he, hr⟩

theorem befGo_prefix : ∀ (os : List Oper) (k : Nat) (acc : List Nat), acc.length = k → ∃ r, befGo os k acc = acc ++ r ∧ r.length = os.length
  | [], _, acc, _ => ⟨[], by simp [befGo], rfl⟩
  | o :: os, k, acc, hk => by
    obtain ⟨r, h1, h2⟩ := befGo_prefix os (k + 1) (acc ++ [maskOf k acc o.after.toList]) (by simp [hk])
    exact ⟨maskOf k acc o.after.toList :: r, by simp [befGo, h1], by simp [h2]⟩

theorem befGo_spec : ∀ (os : List Oper) (k : Nat) (acc : List Nat), acc.length = k → ∀ (i : Nat) (o : Oper), os[i]? = some o → (befGo os k acc)[k + i]? = some (maskOf (k + i) ((befGo os k acc).take (k + i)) o.after.toList)
  | [], _, _, _, i, o, h => by simp at h
  | o :: os, k, acc, hk, 0, o', h => by
    simp only [List.getElem?_cons_zero, Option.some.injEq] at h
    subst h
    obtain ⟨r, h1, _⟩ := befGo_prefix os (k + 1) (acc ++ [maskOf k acc o.after.toList]) (by simp [hk])
    simp only [befGo, h1, Nat.add_zero]
    subst hk
    simp
  | o :: os, k, acc, hk, i + 1, o', h => by
    simp only [List.getElem?_cons_succ] at h
    have := befGo_spec os (k + 1) (acc ++ [maskOf k acc o.after.toList]) (by simp [hk]) i o' h
    simp only [befGo]
    rw [show k + (i + 1) = k + 1 + i by omega]
    exact this

theorem befs_spec {ops : List Oper} {k j : Nat} {o : Oper} (ho : ops[k]? = some o) (h : ((befs ops).getD k 0).testBit j = true) :
    ∃ e ∈ o.after.toList, Region.binds .any e = true ∧ e.on < k ∧ (j = e.on ∨ ((befs ops).getD e.on 0).testBit j = true) := by
  have h1 := befGo_spec ops 0 [] rfl k o ho
  simp only [Nat.zero_add] at h1
  change (befs ops)[k]? = _ at h1
  rw [List.getD_eq_getElem?_getD, h1, Option.getD_some] at h
  rcases mask_spec _ _ h with h2 | ⟨e, he, hb, hlt, hr⟩
  · simp at h2
  · refine ⟨e, he, hb, hlt, hr.imp id fun hr => ?_⟩
    change ((List.take k (befs ops)).getD e.on 0).testBit j = true at hr
    rw [List.getD_eq_getElem?_getD, List.getElem?_take_of_lt hlt] at hr
    rw [List.getD_eq_getElem?_getD]
    exact hr

theorem befs_lt {ops : List Oper} : ∀ (k j : Nat), ((befs ops).getD k 0).testBit j = true → j < k := by
  intro k
  induction k using Nat.strongRecOn with
  | _ k ih =>
    intro j h
    cases ho : ops[k]? with
    | none =>
      obtain ⟨r, h1, h2⟩ := befGo_prefix ops 0 [] rfl
      have hl : (befs ops).length = ops.length := by unfold befs; rw [h1]; simpa using h2
      have : (befs ops)[k]? = none := by rw [List.getElem?_eq_none_iff] at ho ⊢; omega
      rw [List.getD_eq_getElem?_getD, this] at h
      simp at h
    | some o =>
      obtain ⟨e, _, _, hlt, hr⟩ := befs_spec ho h
      rcases hr with rfl | hr
      · exact hlt
      · exact Nat.lt_trans (ih e.on hlt j hr) hlt

/-! ### What does not hang on the run -/
def edgesOk : List Oper → Nat → Bool
  | [], _ => true
  | o :: os, k => o.after.toList.all (fun e => !Region.binds .any e || decide (e.on < k)) && edgesOk os (k + 1)
def dstsOk : List Oper → Bool
  | [] => true
  | o :: os => (match o.dst with | some d => os.all fun p => p.dst != some d | none => true) && dstsOk os
/-- Everybody who writes one of 'seen' is ordered with number k. -/
def writersOk (B : List Nat) (k : Nat) (seen : List Tmp) : List Oper → Nat → Bool
  | [], _ => true
  | p :: ps, j => (match p.dst with
      | some d => !seen.contains d || j == k || (if j < k then (B.getD k 0).testBit j else (B.getD j 0).testBit k)
      | none => true) && writersOk B k seen ps (j + 1)
def readsOk (ops : List Oper) (B : List Nat) : List Oper → Nat → Bool
  | [], _ => true
  | o :: os, k => writersOk B k (o.looksAt ops.toArray) ops 0 && readsOk ops B os (k + 1)
def flowOk (ops : List Oper) : Bool := edgesOk ops 0 && dstsOk ops && readsOk ops (befs ops) ops 0

theorem edgesOk_spec : ∀ (os : List Oper) (k : Nat), edgesOk os k = true → ∀ (i : Nat) (o : Oper), os[i]? = some o → ∀ e ∈ o.after, Region.binds .any e = true → e.on < k + i
  | [], _, _, i, o, h => by simp at h
  | o :: os, k, hk, 0, o', h => by
    simp only [List.getElem?_cons_zero, Option.some.injEq] at h
    subst h
    simp only [edgesOk, Bool.and_eq_true, List.all_eq_true] at hk
    intro e he hb
    have := hk.1 e (by simpa using he)
    simpa [hb] using this
  | o :: os, k, hk, i + 1, o', h => by
    simp only [List.getElem?_cons_succ] at h
    simp only [edgesOk, Bool.and_eq_true] at hk
    intro e he hb
    have := edgesOk_spec os (k + 1) hk.2 i o' h e he hb
    omega

theorem dstsOk_spec : ∀ (os : List Oper), dstsOk os = true → ∀ (i j : Nat) (o p : Oper) (d : Tmp), os[i]? = some o → os[j]? = some p → o.dst = some d → p.dst = some d → i = j
  | [], _, i, _, _, _, _, h, _, _, _ => by simp at h
  | x :: os, hk, i, j, o, p, d, hi, hj, ho, hp => by
    simp only [dstsOk, Bool.and_eq_true] at hk
    cases i with
    | zero =>
      cases j with
      | zero => rfl
      | succ j =>
        simp only [List.getElem?_cons_zero, Option.some.injEq, List.getElem?_cons_succ] at hi hj
        subst hi
        rw [ho] at hk
        have := List.all_eq_true.1 hk.1 p (List.mem_of_getElem? hj)
        simp [hp] at this
    | succ i =>
      cases j with
      | zero =>
        simp only [List.getElem?_cons_zero, Option.some.injEq, List.getElem?_cons_succ] at hi hj
        subst hj
        rw [hp] at hk
        have := List.all_eq_true.1 hk.1 o (List.mem_of_getElem? hi)
        simp [ho] at this
      | succ j =>
        simp only [List.getElem?_cons_succ] at hi hj
        rw [dstsOk_spec os hk.2 i j o p d hi hj ho hp]

theorem writersOk_spec {B : List Nat} {k : Nat} {seen : List Tmp} : ∀ (ps : List Oper) (j0 : Nat), writersOk B k seen ps j0 = true → ∀ (j : Nat) (p : Oper) (t : Tmp), ps[j]? = some p → p.dst = some t → t ∈ seen → j0 + j ≠ k →
    (j0 + j < k ∧ (B.getD k 0).testBit (j0 + j) = true) ∨ (k < j0 + j ∧ (B.getD (j0 + j) 0).testBit k = true)
  | [], _, _, j, _, _, h, _, _, _ => by simp at h
  | x :: ps, j0, hk, 0, p, t, hj, hp, ht, hne => by
    simp only [List.getElem?_cons_zero, Option.some.injEq] at hj
    subst hj
    simp only [writersOk, hp, Bool.and_eq_true, Bool.or_eq_true, Bool.not_eq_true', beq_iff_eq, Nat.add_zero] at hk hne ⊢
    rcases hk.1 with (h | h) | h
    · simp [ht] at h
    · exact absurd h hne
    · split at h
      · rename_i hlt; exact .inl ⟨hlt, h⟩
      · exact .inr ⟨by omega, h⟩
  | x :: ps, j0, hk, j + 1, p, t, hj, hp, ht, hne => by
    simp only [List.getElem?_cons_succ] at hj
    simp only [writersOk, Bool.and_eq_true] at hk
    have := writersOk_spec ps (j0 + 1) hk.2 j p t hj hp ht (by omega)
    rw [show j0 + (j + 1) = j0 + 1 + j by omega]
    exact this

theorem readsOk_spec {ops : List Oper} {B : List Nat} : ∀ (os : List Oper) (k : Nat), readsOk ops B os k = true → ∀ (i : Nat) (o : Oper), os[i]? = some o → writersOk B (k + i) (o.looksAt ops.toArray) ops 0 = true
  | [], _, _, i, _, h => by simp at h
  | x :: os, k, hk, 0, o, h => by
    simp only [List.getElem?_cons_zero, Option.some.injEq] at h
    subst h
    simp only [readsOk, Bool.and_eq_true] at hk
    exact hk.1
  | x :: os, k, hk, i + 1, o, h => by
    simp only [List.getElem?_cons_succ] at h
    simp only [readsOk, Bool.and_eq_true] at hk
    have := readsOk_spec os (k + 1) hk.2 i o h
    rw [show k + (i + 1) = k + 1 + i by omega]
    exact this


def dOf (listed : Array Bool) : Nat → Bool := fun j => listed.getD j false
theorem dOf_set (listed : Array Bool) {j : Nat} (hj : j < listed.size) : dOf (listed.setIfInBounds j true) = fun i => if i = j then true else dOf listed i := by
  funext i
  unfold dOf
  by_cases h : i = j
  · subst h
    simp [hj]
  · rw [if_neg h, getD_set_ne false (Ne.symm h)]

def cntOf (n : Nat) (listed : Array Bool) : Nat := (List.range n).countP fun i => !dOf listed i

theorem countP_lt {p q : Nat → Bool} {j : Nat} : ∀ (l : List Nat), j ∈ l → (∀ i ∈ l, q i = true → p i = true) → p j = true → q j = false → l.countP q < l.countP p
  | [], h, _, _, _ => by cases h
  | x :: l, h, hq, hp, hqj => by
    have hle : l.countP q ≤ l.countP p := List.countP_mono_left fun i hi => hq i (List.mem_cons_of_mem _ hi)
    rcases List.mem_cons.1 h with rfl | h
    · rw [List.countP_cons, List.countP_cons]
      simp [hp, hqj]
      omega
    · have ih := countP_lt l h (fun i hi => hq i (List.mem_cons_of_mem _ hi)) hp hqj
      rw [List.countP_cons, List.countP_cons]
      have := hq x (List.mem_cons_self ..)
      cases hqx : q x with
      | false => simp; cases p x <;> simp <;> omega
      | true => simp [this hqx]; omega

theorem cntOf_lt {n j : Nat} {listed : Array Bool} (hj : j < n) (hs : listed.size = n) (hD : dOf listed j = false) : cntOf n (listed.setIfInBounds j true) < cntOf n listed := by
  unfold cntOf
  rw [dOf_set listed (by omega)]
  refine countP_lt (j := j) _ (List.mem_range.2 hj) (fun i _ h => ?_) (by simp [hD]) (by simp)
  by_cases hij : i = j
  · simp [hij] at h
  · simpa [hij] using h


section
variable {ops : List Oper}
theorem looksAt_op {o : Oper} {t : Tmp} (h : Operand.tmp t ∈ o.op.operands) : t ∈ o.looksAt ops.toArray :=
  List.mem_append_left _ (List.mem_filterMap.2 ⟨.tmp t, by simpa using h, rfl⟩)

theorem looksAt_guard {o : Oper} {j : Nat} {want : Bool} {t : Tmp} (h : o.guard = some (j, want)) (ht : (ops[j]?).bind (·.dst) = some t) : t ∈ o.looksAt ops.toArray := by
  unfold Oper.looksAt
  rw [h]
  refine List.mem_append_right _ ?_
  have ht' : (ops.toArray[j]?).bind (·.dst) = some t := by simpa using ht
  simp only [ht']
  exact List.mem_singleton.2 rfl


end
end Go.Fv
