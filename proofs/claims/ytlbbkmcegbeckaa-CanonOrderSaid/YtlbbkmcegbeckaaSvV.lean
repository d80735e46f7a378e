/-
  A second abstract evaluator of the model's code: frames, and regions that keep the text's order. Conditions: none; nothing here speaks of one program.
  A second abstract evaluator of the model's code: regions that draw their order: plain facts on who waits for whom. Conditions: none; nothing here speaks of one program.
  A second abstract evaluator of the model's code: places cut at a number, and what a step says of less and of more. Conditions: none; nothing here speaks of one program.
  A second abstract evaluator of the model's code: regions that draw their order: the run in the text's order, and what it says. Conditions: none; nothing here speaks of one program.
-/
import Derived.Test.YtlbbkmcegbeckaaSxA
import Derived.TacticsIn
import Derived.OrdersIn
set_option linter.unusedSimpArgs false
set_option linter.unusedSectionVars false
set_option linter.unusedVariables false
namespace Go.Sx
variable [Sg]
def WF (r : Option Nat) : Fence := { Fence.wide with round := r }
theorem callsIn_wf {r : Option Nat} {n : Nat} {P : Program} {f : FuncId} {args : Array Value} {w : World} {R : Ending → World → Prop} : CallsIn (WF r) n P f args w R ↔ Calls P f args w R := callsIn_wide (n := n)
theorem roundIn_wf {r : Option Nat} {n : Nat} {P : Program} {l : Nat} {f : FuncId} {tmps : Array Value} {assign body : Code} {w : World} {R : Ending → World → Prop} (h : RoundIn Fence.wide 0 P l f tmps assign body w R) : RoundIn (WF r) n P l f tmps assign body w R :=
 ⟨trivial, fun c cs _ => h.2 c cs (room_wide _)⟩
abbrev Fm := PT AV
structure FRel (n : Nat) (ρ : PM) (F : Fm) (a : Act) : Prop where
 sz : a.tmps.size = n
 get : ∀ t v, F.get t = some v → ∃ u, a.tmps[t]? = some u ∧ VRel ρ v u
theorem FRel.mono {n : Nat} {ρ ρ' : PM} {F : Fm} {a : Act} (h : FRel n ρ F a) (hle : PM.le ρ ρ') : FRel n ρ' F a :=
 ⟨h.sz, fun t v hv => let ⟨u, h1, h2⟩ := h.get t v hv; ⟨u, h1, h2.mono hle⟩⟩
noncomputable section
def evF (F : Fm) : Operand → Option AV
 | .tmp t => F.get t
 | .const v => if litOK v then some (.one (.lit v)) else none
 | .global g => some (.one (.lit (.pointer (some ⟨g, 0, none⟩))))
 | .func f => some (.one (.lit (.func (.func f) #[] #[])))
def putF (n : Nat) (F : Fm) (dst : Option Tmp) (v : AV) : Option Fm :=
 match dst with
 | none => some F
 | some d => match Nat.ble (Nat.succ d) n with
  | true => some (F.put d (some v))
  | false => none
end
theorem evF_rel {n : Nat} {ρ : PM} {F : Fm} {a : Act} (h : FRel n ρ F a) {x : Operand} {v : AV} (hx : evF F x = some v) : VRel ρ v (a.eval x) := by
 cases x with
 | tmp t =>
  obtain ⟨u, hu, hr⟩ := h.get t v hx
  have : a.eval (.tmp t) = u := by simp [Act.eval, Array.getD_eq_getD_getElem?, hu]
  rw [this]
  exact hr
 | const c =>
  simp only [evF] at hx
  split at hx
  ·rename_i hc
   cases hx
   exact ⟨rfl, hc⟩
  ·cases hx
 | global g => cases hx; exact ⟨rfl, rfl⟩
 | func f => cases hx; exact ⟨rfl, rfl⟩
theorem putF_rel {n : Nat} {ρ : PM} {F F' : Fm} {a : Act} {dst : Option Tmp} {v : AV} {u : Value} (h : FRel n ρ F a) (hv : VRel ρ v u) (hp : putF n F dst v = some F') : FRel n ρ F' (a.put dst u) := by
 cases dst with
 | none => cases hp; exact h
 | some d =>
  simp only [putF] at hp
  split at hp
  ·rename_i hb
   cases hp
   have hd : d < a.tmps.size := by rw [h.sz]; exact Nat.le_of_ble_eq_true hb
   refine ⟨by simp [Act.put, h.sz], fun t v' hv' => ?_⟩
   rw [PT.get_put] at hv'
   simp only [Act.put]
   split at hv'
   ·rename_i ht
    subst ht
    cases hv'
    exact ⟨u, by rw [Array.getElem?_setIfInBounds_self_of_lt hd], hv⟩
   ·rename_i ht
    obtain ⟨u', h1, h2⟩ := h.get t v' hv'
    exact ⟨u', by rw [Array.getElem?_setIfInBounds_ne (Ne.symm ht)]; exact h1, h2⟩
  ·cases hp
theorem put_defers (a : Act) (dst : Option Tmp) (u : Value) : (a.put dst u).defers = a.defers := by cases dst <;> rfl
structure SRel (n : Nat) (ρ : PM) (F : Fm) (H : HP) (a : Act) (w : World) : Prop where
 fr : FRel n ρ F a
 hp : HRel ρ H w
 dom : Dom ρ H.n
 j : J ρ H w
section
variable {P : Program} [Plain P] {ora : Ora} {n m : Nat} {r : Option Nat} {ρ : PM} {F F' : Fm} {H H' : HP} {a : Act} {w : World} {v : AV}
theorem stepA_no_defer {E : Operand → Option AV} {op : Op} (h : stepA P ora E H op = some (v, H')) (c : Call) : op ≠ .defer c := by
 rintro rfl
 rw [stepA_eq rfl] at h
 cases h
theorem upon_of_gives {o : Oper} {K : Act → World → Prop} {Q : Exit → Act → World → Prop} {Q' : Value → World → Prop} {x : Result Next} (h : GivesR P Q' x)
  (hk : ∀ u w', Q' u w' → K (a.put o.dst u) w') : o.uponIn (WF r) m P a K Q x := by
 unfold GivesR at h
 split at h
 ·exact hk _ _ h
 ·exact hk _ _ h
 ·refine ⟨fun hh => by simp [WF, Fence.wide] at hh, callsIn_wf.2 (Calls.mono h fun e w' ⟨u, he, hq⟩ => ?_)⟩
  subst he
  exact hk _ _ hq
 ·refine ⟨fun hh => by simp [WF, Fence.wide] at hh, roundIn_wf (RoundIn.mono h fun e w' ⟨u, he, hq⟩ => ?_)⟩
  subst he
  exact hk _ _ hq
 ·exact h.elim
noncomputable def guardF (hy : List X) (F : Fm) (t : Option Tmp) (want : Bool) : Option Bool :=
 match t with
 | none => some false
 | some t => match F.get t with
  | some (.one (.lit (.bool b))) => some (b == want)
  | some (.tup _) => some false
  | some (.one (.sv .bool _ e)) => match known hy e with
   | some b => some (b == want)
   | none => none
  | _ => none
noncomputable def wantF (hy : List X) (ops : List Oper) (F : Fm) (g : Option (Nat × Bool)) : Option Bool :=
 match g with
 | none => some true
 | some (j, want) => guardF hy F ((ops[j]?).bind (·.dst)) want
theorem sv_bool {ρ : PM} {G : List Nat} {e : X} {u : Value} (h : CRel ρ (.sv .bool G e) u) : u = .bool (den e).bv := by
 obtain ⟨_, b, h1, h2⟩ := h
 rw [h1, h2]
 rfl
theorem wantF_ok {ops : List Oper} {o : Oper} {b : Bool} {hy : List X} (hhy : Holds hy) (h : FRel n ρ F a) (hw : wantF hy ops F o.guard = some b) : Region.wanted o (yielded ops.toArray a.tmps) = b := by
 unfold wantF at hw
 unfold Region.wanted
 cases hg : o.guard with
 | none => rw [hg] at hw; cases hw; rfl
 | some p =>
  obtain ⟨j, want⟩ := p
  rw [hg] at hw
  simp only at hw ⊢
  unfold yielded
  simp only [List.getElem?_toArray]
  cases hd : (ops[j]?).bind (·.dst) with
  | none => rw [hd] at hw; cases hw; cases want <;> rfl
  | some t =>
   rw [hd] at hw
   simp only [guardF] at hw
   simp only [Option.bind_some]
   split at hw
   ·rename_i b' hb
    cases hw
    obtain ⟨u, hu, rfl, _⟩ := h.get t _ hb
    rw [hu]
    cases b' <;> cases want <;> rfl
   ·rename_i vs hb
    cases hw
    obtain ⟨u, hu, us, rfl, _⟩ := h.get t _ hb
    rw [hu]
    cases want <;> rfl
   ·rename_i G e hb
    split at hw
    ·rename_i b' hk
     cases hw
     obtain ⟨u, hu, hr⟩ := h.get t _ hb
     rw [hu, sv_bool hr, known_ok hhy hk]
     cases b' <;> cases want <;> rfl
    ·cases hw
   ·cases hw
end
end Go.Sx

set_option linter.unusedSimpArgs false
set_option linter.unusedSectionVars false
set_option linter.unusedVariables false
namespace Go.Sx
variable [Sg]
def maskOf (k : Nat) (acc : List Nat) (es : List Edge) : Nat :=
 es.foldl (fun s e => if Region.binds .any e && decide (e.on < k) then s ||| 2 ^ e.on ||| acc.getD e.on 0 else s) 0
def befGo : List Oper → Nat → List Nat → List Nat
 | [], _, acc => acc
 | o :: os, k, acc => befGo os (k + 1) (acc ++ [maskOf k acc o.after.toList])
def befs (ops : List Oper) : List Nat := befGo ops 0 []
theorem mask_spec {k : Nat} {acc : List Nat} {j : Nat} : ∀ (es : List Edge) (s : Nat), (es.foldl (fun s e => if Region.binds .any e && decide (e.on < k) then s ||| 2 ^ e.on ||| acc.getD e.on 0 else s) s).testBit j = true →
  s.testBit j = true ∨ ∃ e ∈ es, Region.binds .any e = true ∧ e.on < k ∧ (j = e.on ∨ (acc.getD e.on 0).testBit j = true)
 | [], s, h => .inl h
 | e :: es, s, h => by
  simp only [List.foldl_cons] at h
  rcases mask_spec es _ h with h1 | ⟨e', he, hr⟩
  ·split at h1
   ·rename_i hb
    simp only [Bool.and_eq_true, decide_eq_true_eq] at hb
    simp only [Nat.testBit_or, Bool.or_eq_true, Nat.testBit_two_pow, decide_eq_true_eq] at h1
    rcases h1 with (h1 | h1) | h1
    ·exact .inl h1
    ·exact .inr ⟨e, List.mem_cons_self .., hb.1, hb.2, .inl h1.symm⟩
    ·exact .inr ⟨e, List.mem_cons_self .., hb.1, hb.2, .inr h1⟩
   ·exact .inl h1
  ·exact .inr ⟨e', List.mem_cons_of_mem _ he, hr⟩
theorem befGo_prefix : ∀ (os : List Oper) (k : Nat) (acc : List Nat), acc.length = k → ∃ r, befGo os k acc = acc ++ r ∧ r.length = os.length
 | [], _, acc, _ => ⟨[], by simp [befGo], rfl⟩
 | o :: os, k, acc, hk => by
  obtain ⟨r, h1, h2⟩ := befGo_prefix os (k + 1) (acc ++ [maskOf k acc o.after.toList]) (by simp [hk])
  exact ⟨maskOf k acc o.after.toList :: r, by simp [befGo, h1], by simp [h2]⟩
theorem befGo_spec : ∀ (os : List Oper) (k : Nat) (acc : List Nat), acc.length = k → ∀ (i : Nat) (o : Oper), os[i]? = some o → (befGo os k acc)[k + i]? = some (maskOf (k + i) ((befGo os k acc).take (k + i)) o.after.toList)
 | [], _, _, _, i, o, h => by simp at h
 | o :: os, k, acc, hk, 0, o', h => by
  simp only [List.getElem?_cons_zero, Option.some.injEq] at h
  subst h
  obtain ⟨r, h1, _⟩ := befGo_prefix os (k + 1) (acc ++ [maskOf k acc o.after.toList]) (by simp [hk])
  simp only [befGo, h1, Nat.add_zero]
  subst hk
  simp
 | o :: os, k, acc, hk, i + 1, o', h => by
  simp only [List.getElem?_cons_succ] at h
  have := befGo_spec os (k + 1) (acc ++ [maskOf k acc o.after.toList]) (by simp [hk]) i o' h
  simp only [befGo]
  rw [show k + (i + 1) = k + 1 + i by omega]
  exact this
theorem befs_spec {ops : List Oper} {k j : Nat} {o : Oper} (ho : ops[k]? = some o) (h : ((befs ops).getD k 0).testBit j = true) :
  ∃ e ∈ o.after.toList, Region.binds .any e = true ∧ e.on < k ∧ (j = e.on ∨ ((befs ops).getD e.on 0).testBit j = true) := by
 have h1 := befGo_spec ops 0 [] rfl k o ho
 simp only [Nat.zero_add] at h1
 change (befs ops)[k]? = _ at h1
 rw [List.getD_eq_getElem?_getD, h1, Option.getD_some] at h
 rcases mask_spec _ _ h with h2 | ⟨e, he, hb, hlt, hr⟩
 ·simp at h2
 ·refine ⟨e, he, hb, hlt, hr.imp id fun hr => ?_⟩
  change ((List.take k (befs ops)).getD e.on 0).testBit j = true at hr
  rw [List.getD_eq_getElem?_getD, List.getElem?_take_of_lt hlt] at hr
  rw [List.getD_eq_getElem?_getD]
  exact hr
def edgesOk : List Oper → Nat → Bool
 | [], _ => true
 | o :: os, k => o.after.toList.all (fun e => !Region.binds .any e || decide (e.on < k)) && edgesOk os (k + 1)
def dstsOk : List Oper → Bool
 | [] => true
 | o :: os => (match o.dst with | some d => os.all fun p => p.dst != some d | none => true) && dstsOk os
def writersOk (B : List Nat) (k : Nat) (seen : List Tmp) : List Oper → Nat → Bool
 | [], _ => true
 | p :: ps, j => (match p.dst with
   | some d => !seen.contains d || j == k || (if j < k then (B.getD k 0).testBit j else (B.getD j 0).testBit k)
   | none => true) && writersOk B k seen ps (j + 1)
def readsOk (ops : List Oper) (B : List Nat) : List Oper → Nat → Bool
 | [], _ => true
 | o :: os, k => writersOk B k (o.looksAt ops.toArray) ops 0 && readsOk ops B os (k + 1)
def flowOk (ops : List Oper) : Bool := edgesOk ops 0 && dstsOk ops && readsOk ops (befs ops) ops 0
theorem edgesOk_spec : ∀ (os : List Oper) (k : Nat), edgesOk os k = true → ∀ (i : Nat) (o : Oper), os[i]? = some o → ∀ e ∈ o.after, Region.binds .any e = true → e.on < k + i
 | [], _, _, i, o, h => by simp at h
 | o :: os, k, hk, 0, o', h => by
  simp only [List.getElem?_cons_zero, Option.some.injEq] at h
  subst h
  simp only [edgesOk, Bool.and_eq_true, List.all_eq_true] at hk
  intro e he hb
  have := hk.1 e (by simpa using he)
  simpa [hb] using this
 | o :: os, k, hk, i + 1, o', h => by
  simp only [List.getElem?_cons_succ] at h
  simp only [edgesOk, Bool.and_eq_true] at hk
  intro e he hb
  have := edgesOk_spec os (k + 1) hk.2 i o' h e he hb
  omega
theorem dstsOk_spec : ∀ (os : List Oper), dstsOk os = true → ∀ (i j : Nat) (o p : Oper) (d : Tmp), os[i]? = some o → os[j]? = some p → o.dst = some d → p.dst = some d → i = j
 | [], _, i, _, _, _, _, h, _, _, _ => by simp at h
 | x :: os, hk, i, j, o, p, d, hi, hj, ho, hp => by
  simp only [dstsOk, Bool.and_eq_true] at hk
  cases i with
  | zero =>
   cases j with
   | zero => rfl
   | succ j =>
    simp only [List.getElem?_cons_zero, Option.some.injEq, List.getElem?_cons_succ] at hi hj
    subst hi
    rw [ho] at hk
    have := List.all_eq_true.1 hk.1 p (List.mem_of_getElem? hj)
    simp [hp] at this
  | succ i =>
   cases j with
   | zero =>
    simp only [List.getElem?_cons_zero, Option.some.injEq, List.getElem?_cons_succ] at hi hj
    subst hj
    rw [hp] at hk
    have := List.all_eq_true.1 hk.1 o (List.mem_of_getElem? hi)
    simp [ho] at this
   | succ j =>
    simp only [List.getElem?_cons_succ] at hi hj
    rw [dstsOk_spec os hk.2 i j o p d hi hj ho hp]
theorem writersOk_spec {B : List Nat} {k : Nat} {seen : List Tmp} : ∀ (ps : List Oper) (j0 : Nat), writersOk B k seen ps j0 = true → ∀ (j : Nat) (p : Oper) (t : Tmp), ps[j]? = some p → p.dst = some t → t ∈ seen → j0 + j ≠ k →
  (j0 + j < k ∧ (B.getD k 0).testBit (j0 + j) = true) ∨ (k < j0 + j ∧ (B.getD (j0 + j) 0).testBit k = true)
 | [], _, _, j, _, _, h, _, _, _ => by simp at h
 | x :: ps, j0, hk, 0, p, t, hj, hp, ht, hne => by
  simp only [List.getElem?_cons_zero, Option.some.injEq] at hj
  subst hj
  simp only [writersOk, hp, Bool.and_eq_true, Bool.or_eq_true, Bool.not_eq_true', beq_iff_eq, Nat.add_zero] at hk hne ⊢
  rcases hk.1 with (h | h) | h
  ·simp [ht] at h
  ·exact absurd h hne
  ·split at h
   ·rename_i hlt; exact .inl ⟨hlt, h⟩
   ·exact .inr ⟨by omega, h⟩
 | x :: ps, j0, hk, j + 1, p, t, hj, hp, ht, hne => by
  simp only [List.getElem?_cons_succ] at hj
  simp only [writersOk, Bool.and_eq_true] at hk
  have := writersOk_spec ps (j0 + 1) hk.2 j p t hj hp ht (by omega)
  rw [show j0 + (j + 1) = j0 + 1 + j by omega]
  exact this
theorem readsOk_spec {ops : List Oper} {B : List Nat} : ∀ (os : List Oper) (k : Nat), readsOk ops B os k = true → ∀ (i : Nat) (o : Oper), os[i]? = some o → writersOk B (k + i) (o.looksAt ops.toArray) ops 0 = true
 | [], _, _, i, _, h => by simp at h
 | x :: os, k, hk, 0, o, h => by
  simp only [List.getElem?_cons_zero, Option.some.injEq] at h
  subst h
  simp only [readsOk, Bool.and_eq_true] at hk
  exact hk.1
 | x :: os, k, hk, i + 1, o, h => by
  simp only [List.getElem?_cons_succ] at h
  simp only [readsOk, Bool.and_eq_true] at hk
  have := readsOk_spec os (k + 1) hk.2 i o h
  rw [show k + (i + 1) = k + 1 + i by omega]
  exact this
def dOf (listed : Array Bool) : Nat → Bool := fun j => listed.getD j false
theorem dOf_set (listed : Array Bool) {j : Nat} (hj : j < listed.size) : dOf (listed.setIfInBounds j true) = fun i => if i = j then true else dOf listed i := by
 funext i
 unfold dOf
 by_cases h : i = j
 ·subst h
  simp [hj]
 ·rw [if_neg h, getD_set_ne false (Ne.symm h)]
def cntOf (n : Nat) (listed : Array Bool) : Nat := (List.range n).countP fun i => !dOf listed i
theorem countP_lt {p q : Nat → Bool} {j : Nat} : ∀ (l : List Nat), j ∈ l → (∀ i ∈ l, q i = true → p i = true) → p j = true → q j = false → l.countP q < l.countP p
 | [], h, _, _, _ => by cases h
 | x :: l, h, hq, hp, hqj => by
  have hle : l.countP q ≤ l.countP p := List.countP_mono_left fun i hi => hq i (List.mem_cons_of_mem _ hi)
  rcases List.mem_cons.1 h with rfl | h
  ·rw [List.countP_cons, List.countP_cons]
   simp [hp, hqj]
   omega
  ·have ih := countP_lt l h (fun i hi => hq i (List.mem_cons_of_mem _ hi)) hp hqj
   rw [List.countP_cons, List.countP_cons]
   have := hq x (List.mem_cons_self ..)
   cases hqx : q x with
   | false => simp; cases p x <;> simp <;> omega
   | true => simp [this hqx]; omega
theorem cntOf_lt {n j : Nat} {listed : Array Bool} (hj : j < n) (hs : listed.size = n) (hD : dOf listed j = false) : cntOf n (listed.setIfInBounds j true) < cntOf n listed := by
 unfold cntOf
 rw [dOf_set listed (by omega)]
 refine countP_lt (j := j) _ (List.mem_range.2 hj) (fun i _ h => ?_) (by simp [hD]) (by simp)
 by_cases hij : i = j
 ·simp [hij] at h
 ·simpa [hij] using h
section
variable {ops : List Oper}
theorem looksAt_op {o : Oper} {t : Tmp} (h : Operand.tmp t ∈ o.op.operands) : t ∈ o.looksAt ops.toArray :=
 List.mem_append_left _ (List.mem_filterMap.2 ⟨.tmp t, by simpa using h, rfl⟩)
theorem looksAt_guard {o : Oper} {j : Nat} {want : Bool} {t : Tmp} (h : o.guard = some (j, want)) (ht : (ops[j]?).bind (·.dst) = some t) : t ∈ o.looksAt ops.toArray := by
 unfold Oper.looksAt
 rw [h]
 refine List.mem_append_right _ ?_
 have ht' : (ops.toArray[j]?).bind (·.dst) = some t := by simpa using ht
 simp only [ht']
 exact List.mem_singleton.2 rfl
end
end Go.Sx

set_option linter.unusedSimpArgs false
set_option linter.unusedSectionVars false
set_option linter.unusedVariables false
namespace Go.Sx
variable [Sg]
def bel (ρ : PM) (n : Nat) : PM := fun b => if b < n then ρ b else none
theorem bel_lt {ρ : PM} {n b : Nat} (h : b < n) : bel ρ n b = ρ b := if_pos h
theorem bel_ge {ρ : PM} {n b : Nat} (h : n ≤ b) : bel ρ n b = none := if_neg (by omega)
theorem bel_some {ρ : PM} {n b : Nat} {L : Loc} (h : bel ρ n b = some L) : b < n ∧ ρ b = some L := by
 unfold bel at h
 split at h
 ·rename_i hb; exact ⟨hb, h⟩
 ·cases h
theorem bel_dom (ρ : PM) (n : Nat) : Dom (bel ρ n) n := fun _ h => bel_ge h
theorem bel_le (ρ : PM) (n : Nat) : PM.le (bel ρ n) ρ := fun b x h => (bel_some h).2
theorem bel_mono {ρ ρ' : PM} {n n' : Nat} (h : PM.le ρ ρ') (hn : n ≤ n') : PM.le (bel ρ n) (bel ρ' n') := fun b x hb => by
 obtain ⟨h1, h2⟩ := bel_some hb
 rw [bel_lt (by omega)]
 exact h _ _ h2
theorem bel_eq {ρ : PM} {n m : Nat} (h : Dom ρ n) (hm : n ≤ m) : bel ρ m = ρ := by
 funext b
 unfold bel
 split
 ·rfl
 ·rw [h b (by omega)]
theorem All2.back {α β : Type} {R R' : α → β → Prop} (h : ∀ a b b', R a b → R' a b' → R a b') : ∀ {as : List α} {bs bs' : List β}, All2 R as bs → All2 R' as bs' → All2 R as bs'
 | [], [], [], _, _ => trivial
 | _ :: _, _ :: _, _ :: _, ⟨h1, h2⟩, ⟨h3, h4⟩ => ⟨h _ _ _ h1 h3, All2.back h h2 h4⟩
 | [], [], _ :: _, _, h => h.elim
 | [], _ :: _, _, h, _ => h.elim
 | _ :: _, [], _, h, _ => h.elim
 | _ :: _, _ :: _, [], _, h => h.elim
theorem CRel.back {ρ ρ' : PM} (hle : PM.le ρ ρ') : ∀ {c : Cel} {u u' : Value}, CRel ρ c u → CRel ρ' c u' → CRel ρ c u'
 | .lit _, _, _, _, h => h
 | .ptr b _, _, _, ⟨L, h1, _⟩, ⟨L', h2, h3⟩ => ⟨L', by have := hle b L h1; rw [h2] at this; cases this; exact h1, h3⟩
 | .sl b _ _ _, _, _, ⟨⟨L, h1, _⟩, _⟩, ⟨⟨L', h2, h3⟩, h4⟩ => ⟨⟨L', by have := hle b L h1; rw [h2] at this; cases this; exact h1, h3⟩, h4⟩
 | .su b _ _ _, _, _, ⟨L, _, h1, _⟩, ⟨L', cap, h2, h3⟩ => ⟨L', cap, by have := hle b L h1; rw [h2] at this; cases this; exact h1, h3⟩
 | .sz b _, _, _, ⟨L, _, _, h1, _⟩, ⟨L', o, cap, h2, h3⟩ => ⟨L', o, cap, by have := hle b L h1; rw [h2] at this; cases this; exact h1, h3⟩
 | .kp b _ _, _, _, ⟨L, _, h1, _⟩, ⟨L', cap, h2, h3⟩ => ⟨L', cap, by have := hle b L h1; rw [h2] at this; cases this; exact h1, h3⟩
 | .us, _, _, _, h => h
 | .un _, _, _, _, h => h
 | .fn _ _, _, _, ⟨us, _, h1⟩, ⟨us', h2, h3⟩ => ⟨us', h2, h1.back (fun p v v' ⟨L, g1, _⟩ ⟨L', g2, g3⟩ => ⟨L', by have := hle _ L g1; rw [g2] at this; cases this; exact g1, g3⟩) h3⟩
 | .mp b, _, _, ⟨L, h1, _⟩, ⟨L', h2, h3⟩ => ⟨L', by have := hle b L h1; rw [h2] at this; cases this; exact h1, h3⟩
 | .yd b, _, _, ⟨L, h1, _⟩, ⟨L', h2, h3⟩ => ⟨L', by have := hle b L h1; rw [h2] at this; cases this; exact h1, h3⟩
 | .sv _ G _, _, _, ⟨h1, _⟩, ⟨_, h2⟩ => ⟨h1, h2.mono (PM.at_back hle h1)⟩
 | .pv _ G _ _ _, _, _, ⟨h1, _⟩, ⟨_, b, o, cap, h2, h3⟩ => ⟨h1, b, o, cap, h2.mono (PM.at_back hle h1), h3⟩
 | .os _ _ _ _ _ _, _, _, ⟨hG, _⟩, ⟨_, .inl h⟩ => ⟨hG, .inl h⟩
 | .os _ _ _ _ _ _, _, _, ⟨_, .inl ⟨h1, h2, _⟩⟩, ⟨_, .inr ⟨h3, _⟩⟩ => absurd ⟨h1, h2⟩ h3
 | .os _ b _ _ _ _, _, _, ⟨hG, .inr ⟨_, L, _, _, h1, _⟩⟩, ⟨_, .inr ⟨h3, L', k, cap, h4, h5⟩⟩ => ⟨hG, .inr ⟨h3, L', k, cap, by have := hle b L h1; rw [h4] at this; cases this; exact h1, h5⟩⟩
 | .po b _ _ _, _, _, ⟨L, h1, _⟩, ⟨L', h2, h3⟩ => ⟨L', by have := hle b L h1; rw [h2] at this; cases this; exact h1, h3⟩
theorem PRel.back {ρ ρ' : PM} (hle : PM.le ρ ρ') : ∀ {p : Bool × List Cel} {u u' : Value}, PRel ρ p u → PRel ρ' p u' → PRel ρ p u'
 | (true, _), _, _, ⟨us, _, h1⟩, ⟨us', h2, h3⟩ => ⟨us', h2, h1.back (R' := CRel ρ') (fun _ _ _ => CRel.back hle) h3⟩
 | (false, [_]), _, _, h1, h2 => CRel.back (ρ := ρ) hle h1 h2
 | (false, []), _, _, h, _ => h.elim
 | (false, _ :: _ :: _), _, _, h, _ => h.elim
theorem VRel.back {ρ ρ' : PM} (hle : PM.le ρ ρ') : ∀ {v : AV} {u u' : Value}, VRel ρ v u → VRel ρ' v u' → VRel ρ v u'
 | .one _, _, _, h1, h2 => CRel.back (ρ := ρ) hle h1 h2
 | .agg _, _, _, ⟨us, _, h1⟩, ⟨us', h2, h3⟩ => ⟨us', h2, h1.back (R' := CRel ρ') (fun _ _ _ => CRel.back hle) h3⟩
 | .tup _, _, _, ⟨us, _, h1⟩, ⟨us', h2, h3⟩ => ⟨us', h2, h1.back (R' := PRel ρ') (fun _ _ _ => PRel.back hle) h3⟩
theorem CtRel.back {ρ ρ' : PM} (hle : PM.le ρ ρ') {w w' : World} {L : Loc} {i : Nat} : ∀ {x : Ct}, CtRel ρ w L i x → CtRel ρ' w' L i x → CtRel ρ w' L i x
 | .c _, ⟨_, _, _, _, _, _, _, _, h⟩, ⟨arr, t, fr, u, h1, h2, h3, h4, h5⟩ => ⟨arr, t, fr, u, h1, h2, h3, h4, h.back hle h5⟩
 | .map _ _, ⟨_, _, _, _, h⟩, ⟨h1, h2, arr, h3, h4⟩ => ⟨h1, h2, arr, h3, h.back (fun _ _ _ ⟨a1, a2, a3⟩ ⟨b1, b2, b3⟩ => ⟨a1.back hle b1, a2.back hle b2, b3⟩) h4⟩
 | .iter none _ _ _, _, h => h
 | .iter (some b) _ _ _, ⟨_, _, _, _, K, g1, _⟩, ⟨h1, h2, mm, h3, K', g2, g3⟩ => ⟨h1, h2, mm, h3, K', by have := hle b K g1; rw [g2] at this; cases this; exact g1, g3⟩
 | .loop _ _ _ _ _, ⟨_, _, r, _, _, _, _, _, _, h8, h⟩, ⟨h1, h2, r', h3, h4, h5, h6, h7, h7', h8', h'⟩ => ⟨h1, h2, r', h3, h4, h5, h6, h7, h7', h8', fun t v hv => by
  obtain ⟨u, _, g2⟩ := h t v hv
  obtain ⟨u', g3, g4⟩ := h' t v hv
  exact ⟨u', g3, g2.back hle g4⟩⟩
 | .room, _, h => h
 | .mx _ _ _ _ _, _, h => h
 | .ix _ _ _, ⟨_, _, K, _, _, g1, _⟩, ⟨h1, h2, K', since, seen, g2, h4⟩ => ⟨h1, h2, K', since, seen, by have := hle _ K g1; rw [g2] at this; cases this; exact g1, h4⟩
 | .rows _ _ _ _, ⟨_, hG, _⟩, ⟨h0, _, hn, arr, t, fr, h1, h2, h3, h4, h5, h6⟩ => ⟨h0, hG, hn, arr, t, fr, h1, h2, h3, h4, h5, fun i row hi => (h6 i row hi).mono (PM.at_back hle hG)⟩
def Cel.below (n : Nat) : Cel → Bool
 | .lit _ => true
 | .ptr b _ => Nat.ble (Nat.succ b) n
 | .sl b _ _ _ => Nat.ble (Nat.succ b) n
 | .su b _ _ _ => Nat.ble (Nat.succ b) n
 | .sz b _ => Nat.ble (Nat.succ b) n
 | .kp b _ _ => Nat.ble (Nat.succ b) n
 | .us => true
 | .un _ => true
 | .fn _ caps => caps.all fun p => Nat.ble (Nat.succ p.1) n
 | .mp b => Nat.ble (Nat.succ b) n
 | .yd b => Nat.ble (Nat.succ b) n
 | .sv _ G _ => G.all fun b => Nat.ble (Nat.succ b) n
 | .pv _ G _ _ _ => G.all fun b => Nat.ble (Nat.succ b) n
 | .os _ b _ _ G _ => Nat.ble (Nat.succ b) n && G.all fun b => Nat.ble (Nat.succ b) n
 | .po b _ _ _ => Nat.ble (Nat.succ b) n
def AV.below (n : Nat) : AV → Bool
 | .one c => c.below n
 | .agg xs => xs.all (Cel.below n)
 | .tup vs => vs.all fun p => p.2.all (Cel.below n)
theorem All2.cutAll {α β : Type} {R R' : α → β → Prop} {q : α → Bool} (h : ∀ a b, q a = true → R a b → R' a b) : ∀ {as : List α} {bs : List β}, as.all q = true → All2 R as bs → All2 R' as bs
 | [], [], _, _ => trivial
 | a :: as, b :: bs, hq, ⟨h1, h2⟩ => by
  simp only [List.all_cons, Bool.and_eq_true] at hq
  exact ⟨h _ _ hq.1 h1, All2.cutAll h hq.2 h2⟩
 | [], _ :: _, _, h => h.elim
 | _ :: _, [], _, h => h.elim
theorem lt_of_ble {b n : Nat} (h : Nat.ble (Nat.succ b) n = true) : b < n := Nat.le_of_ble_eq_true h
theorem bel_at {ρ : PM} {n : Nat} {G : List Nat} (h : (G.all fun b => Nat.ble (Nat.succ b) n) = true) : ∀ k o, ρ.at G k o → (bel ρ n).at G k o := fun k o ⟨g, h1, L, M, h2, h3⟩ =>
 ⟨g, h1, L, M, by rw [bel_lt (lt_of_ble (List.all_eq_true.1 h g h1))]; exact h2, h3⟩
theorem bel_loc {ρ : PM} {n : Nat} {G : List Nat} (h : (G.all fun b => Nat.ble (Nat.succ b) n) = true) (h1 : ∀ g ∈ G, ∃ L, ρ g = some L) : ∀ g ∈ G, ∃ L, bel ρ n g = some L := fun g hg =>
 let ⟨L, hL⟩ := h1 g hg; ⟨L, by rw [bel_lt (lt_of_ble (List.all_eq_true.1 h g hg))]; exact hL⟩
theorem CRel.bel {ρ : PM} {n : Nat} : ∀ {c : Cel} {u : Value}, c.below n = true → CRel ρ c u → CRel (bel ρ n) c u
 | .lit _, _, _, h => h
 | .ptr _ _, _, hb, ⟨L, h1, h2⟩ => ⟨L, by rw [bel_lt (lt_of_ble hb)]; exact h1, h2⟩
 | .sl _ _ _ _, _, hb, ⟨⟨L, h1, h2⟩, h3⟩ => ⟨⟨L, by rw [bel_lt (lt_of_ble hb)]; exact h1, h2⟩, h3⟩
 | .su _ _ _ _, _, hb, ⟨L, cap, h1, h2⟩ => ⟨L, cap, by rw [bel_lt (lt_of_ble hb)]; exact h1, h2⟩
 | .sz _ _, _, hb, ⟨L, o, cap, h1, h2⟩ => ⟨L, o, cap, by rw [bel_lt (lt_of_ble hb)]; exact h1, h2⟩
 | .kp _ _ _, _, hb, ⟨L, cap, h1, h2⟩ => ⟨L, cap, by rw [bel_lt (lt_of_ble hb)]; exact h1, h2⟩
 | .us, _, _, h => h
 | .un _, _, _, h => h
 | .fn _ _, _, hb, ⟨us, h1, h2⟩ => ⟨us, h1, h2.cutAll (fun p v hp ⟨L, g1, g2⟩ => ⟨L, by rw [bel_lt (lt_of_ble hp)]; exact g1, g2⟩) hb⟩
 | .mp _, _, hb, ⟨L, h1, h2⟩ => ⟨L, by rw [bel_lt (lt_of_ble hb)]; exact h1, h2⟩
 | .yd _, _, hb, ⟨L, h1, h2⟩ => ⟨L, by rw [bel_lt (lt_of_ble hb)]; exact h1, h2⟩
 | .sv _ _ _, _, hb, ⟨h1, h2⟩ => ⟨bel_loc hb h1, h2.mono (bel_at hb)⟩
 | .pv _ _ _ _ _, _, hb, ⟨h1, b, o, cap, h2, h3⟩ => ⟨bel_loc hb h1, b, o, cap, h2.mono (bel_at hb), h3⟩
 | .os _ _ _ _ _ _, _, hb, ⟨hG, .inl h⟩ => ⟨bel_loc (by simp only [Cel.below, Bool.and_eq_true] at hb; exact hb.2) hG, .inl h⟩
 | .os _ _ _ _ _ _, _, hb, ⟨hG, .inr ⟨h0, L, k, cap, h1, h2⟩⟩ => ⟨bel_loc (by simp only [Cel.below, Bool.and_eq_true] at hb; exact hb.2) hG, .inr ⟨h0, L, k, cap, by simp only [Cel.below, Bool.and_eq_true] at hb; rw [bel_lt (lt_of_ble hb.1)]; exact h1, h2⟩⟩
 | .po _ _ _ _, _, hb, ⟨L, h1, h2⟩ => ⟨L, by rw [bel_lt (lt_of_ble hb)]; exact h1, h2⟩
theorem PRel.bel {ρ : PM} {n : Nat} : ∀ {p : Bool × List Cel} {u : Value}, p.2.all (Cel.below n) = true → PRel ρ p u → PRel (bel ρ n) p u
 | (true, _), _, hb, ⟨us, h1, h2⟩ => ⟨us, h1, h2.cutAll (fun _ _ => CRel.bel) hb⟩
 | (false, [c]), _, hb, h => by
  simp only [List.all_cons, List.all_nil, Bool.and_true] at hb
  exact CRel.bel (ρ := ρ) hb h
 | (false, []), _, _, h => h.elim
 | (false, _ :: _ :: _), _, _, h => h.elim
theorem VRel.bel {ρ : PM} {n : Nat} : ∀ {v : AV} {u : Value}, v.below n = true → VRel ρ v u → VRel (bel ρ n) v u
 | .one _, _, hb, h => CRel.bel hb h
 | .agg _, _, hb, ⟨us, h1, h2⟩ => ⟨us, h1, h2.cutAll (fun _ _ => CRel.bel) hb⟩
 | .tup _, _, hb, ⟨us, h1, h2⟩ => ⟨us, h1, h2.cutAll (fun _ _ => PRel.bel) hb⟩
section
variable {ρ0 ρ ρ' ρ2 : PM} {H0 H H1 H2 : HP} {w0 w w' : World}
theorem HRel.still (h : HRel ρ H w) (hs : ∀ k, k < w.heap.size → w'.heap[k]? = w.heap[k]?) : HRel ρ H w' :=
 ⟨fun b i c L hc hL => (h.rel b i c L hc hL).of_heap (hs _ (h.rel b i c L hc hL).lt), h.inj, h.hy⟩
theorem Sim.still (s : Sim ρ0 H0 w0 ρ H w) (hs : ∀ k, k < w.heap.size → w'.heap[k]? = w.heap[k]?) (h1 : w.heap.size ≤ w'.heap.size) (h2 : w'.os = w.os) (h3 : w'.tape = w.tape) (h4 : w'.output = w.output) (hd : Dom ρ0 H0.n) (hlt : ∀ b L, H0.Kn b → ρ0 b = some L → L.B < w.heap.size) : Sim ρ0 H0 w0 ρ H w' where
 le := s.le
 grow := s.grow
 dom := s.dom
 rel := s.rel.still hs
 knc := s.knc
 fr := fun k hk hno => by rw [hs k (Nat.lt_of_lt_of_le hk s.size)]; exact s.fr k hk hno
 new := s.new
 size := Nat.le_trans s.size h1
 os := h2.trans s.os
 tape := h3.trans s.tape
 output := h4.trans s.output
 old := s.old
 jj := fun hj g L M hg hM k o ho => by
  obtain ⟨g1, g2⟩ := s.jj hj g L M hg hM k o ho
  exact ⟨by rw [hs k (Array.getElem?_eq_some_iff.1 g1).1]; exact g1, g2⟩
 ro := s.ro
theorem Sim.less (s : Sim ρ0 H0 w0 ρ2 H2 w) (hd : Dom ρ0 H0.n) (h0 : H0.n ≤ H1.n) (hsame : ∀ b, b < H1.n → H1.t.get b = H2.t.get b) (hr : HRel (bel ρ2 H1.n) H1 w) : Sim ρ0 H0 w0 (bel ρ2 H1.n) H1 w := by
 have hcell : ∀ b i, b < H1.n → H1.cell b i = H2.cell b i := fun b i hb => by unfold HP.cell; rw [hsame b hb]
 exact {
  le := fun b x hb => by rw [bel_lt (Nat.lt_of_lt_of_le (hd.lt hb) h0)]; exact s.le b x hb
  grow := h0
  dom := bel_dom _ _
  rel := hr
  knc := fun b i hb hc => by rw [hcell b i (by omega)]; exact s.knc b i hb hc
  fr := s.fr
  new := fun b L g1 g2 => s.new b L g1 (bel_some g2).2
  size := s.size
  os := s.os
  tape := s.tape
  output := s.output
  old := fun b L g1 g2 => s.old b L g1 (bel_some g2).2
  jj := fun hj => (s.jj hj).less (bel_le _ _) fun b L ⟨i, c, hc⟩ hL => ⟨i, c, by rw [← hcell b i (bel_some hL).1]; exact hc⟩
  ro := fun g L M k o g1 g2 => s.ro g L M k o g1 (bel_some g2).2 }
theorem Sim.ghost (s : Sim ρ0 H0 w0 ρ H w) (h1 : H.n ≤ H2.n) (hhy : H2.hy = H.hy) (hsame : ∀ b, b < H.n → H2.t.get b = H.t.get b) : Sim ρ0 H0 w0 ρ H2 w := by
 have hcell : ∀ b i, b < H.n → H2.cell b i = H.cell b i := fun b i hb => by unfold HP.cell; rw [hsame b hb]
 exact {
  le := s.le
  grow := Nat.le_trans s.grow h1
  dom := fun b hb => s.dom b (by omega)
  rel := ⟨fun b i c L hc hL => s.rel.rel b i c L (by rw [← hcell b i (s.dom.lt hL)]; exact hc) hL,
   fun b b' L L' ⟨i, c, hc⟩ ⟨i', c', hc'⟩ hL hL' => s.rel.inj b b' L L' ⟨i, c, by rw [← hcell b i (s.dom.lt hL)]; exact hc⟩ ⟨i', c', by rw [← hcell b' i' (s.dom.lt hL')]; exact hc'⟩ hL hL', by rw [hhy]; exact s.rel.hy⟩
  knc := fun b i hb hc => by rw [hcell b i (Nat.lt_of_lt_of_le hb s.grow)]; exact s.knc b i hb hc
  fr := s.fr
  new := s.new
  size := s.size
  os := s.os
  tape := s.tape
  output := s.output
  old := s.old
  jj := fun hj => (s.jj hj).less (PM.le.refl _) fun b L ⟨i, c, hc⟩ hL => ⟨i, c, by rw [← hcell b i (s.dom.lt hL)]; exact hc⟩
  ro := s.ro }
end
end Go.Sx

set_option linter.unusedSimpArgs false
set_option linter.unusedSectionVars false
set_option linter.unusedVariables false
namespace Go.Sx
variable [Sg]
def OraSt (ora : Ora) : Prop := ∀ (f : Tg) (args : List AV) (H : HP) (v : AV) (H' : HP), ora f args H = some (v, H') → St H H'
theorem OraOK.st {P : Program} {ora : Ora} (h : OraOK P ora) : OraSt ora := fun f args H v H' hr => (h f args H v H' hr).1
section
variable {P : Program} [Plain P] {ora : Ora} {E : Operand → Option AV} {H H' : HP} {w : World} {ρ : PM} {ev : Operand → Value} {v : AV}
noncomputable def pureO (E : Operand → Option AV) (op : Op) : Bool :=
 match isPure op with
 | true => true
 | false => match op with
  | .convert _ _ x => match E x with
   | some (.one (.lit (.int _ _))) => true
   | _ => false
  | _ => false
theorem stepO_pureA {op : Op} (hp : pureO E op = true) (h : stepO P ora E H op = some (v, H')) : H' = H ∧ ∀ G : HP, stepO P ora E G op = some (v, G) := by
 unfold pureO at hp
 split at hp
 ·rename_i h1
  exact stepO_pure h1 h
 ·split at hp
  ·rename_i t u x
   split at hp
   ·rename_i k n hx
    simp only [stepO, oConvert, hx] at h ⊢
    split at h
    ·cases h; rename_i h1; exact ⟨rfl, fun G => by first | rfl | simp [*]⟩
    ·rename_i h1; cases h1
    ·rename_i h1
     cases h1
     split at h
     ·simp [toStr, baseA] at h
     ·cases h
    ·rename_i h1; cases h1
    ·rename_i h1
     cases h1
     simp [baseA] at h
    ·cases h
   ·cases hp
  ·cases hp
theorem stepO_st (ho : OraSt ora) {op : Op} (h : stepO P ora E H op = some (v, H')) : St H H' := by
  by_cases hp : isPure op = true
  · rw [(stepO_pure hp h).1]; exact St.refl H
  · cases op with
    | alloc t =>
        simp only [stepO, oAlloc] at h
        repeat' (split at h)
        all_goals first
         | (cases h; done)
         | (cases h; exact St.refl _)
         | (cases h; exact St.push _ _)
         | (cases h; exact (St.drop _ _).trans (St.push _ _))
         | (cases h; exact St.obj _ _ _)
         | (cases h; exact St.write (by assumption))
         | (obtain ⟨a, ha, hv⟩ := map_some h; cases hv; first | exact St.refl _ | exact St.push _ _ | exact St.write ha)
    | box t x =>
        simp only [stepO, oBox] at h
        repeat' (split at h)
        all_goals first
         | (cases h; done)
         | (cases h; exact St.refl _)
         | (cases h; exact St.push _ _)
         | (cases h; exact (St.drop _ _).trans (St.push _ _))
         | (cases h; exact St.obj _ _ _)
         | (cases h; exact St.write (by assumption))
         | (obtain ⟨a, ha, hv⟩ := map_some h; cases hv; first | exact St.refl _ | exact St.push _ _ | exact St.write ha)
    | buildSlice t m ps =>
        simp only [stepO, oBuildSlice] at h
        repeat' (split at h)
        all_goals first
         | (cases h; done)
         | (cases h; exact St.refl _)
         | (cases h; exact St.push _ _)
         | (cases h; exact (St.drop _ _).trans (St.push _ _))
         | (cases h; exact St.obj _ _ _)
         | (cases h; exact St.write (by assumption))
         | (obtain ⟨a, ha, hv⟩ := map_some h; cases hv; first | exact St.refl _ | exact St.push _ _ | exact St.write ha)
    | load t x =>
        simp only [stepO, oLoad] at h
        repeat' (split at h)
        all_goals first
         | (cases h; done)
         | (cases h; exact St.refl _)
         | (cases h; exact St.push _ _)
         | (cases h; exact (St.drop _ _).trans (St.push _ _))
         | (cases h; exact St.obj _ _ _)
         | (cases h; exact St.write (by assumption))
         | (obtain ⟨a, ha, hv⟩ := map_some h; cases hv; first | exact St.refl _ | exact St.push _ _ | exact St.write ha)
    | store t x y =>
        simp only [stepO, oStore] at h
        repeat' (split at h)
        all_goals first
         | (cases h; done)
         | (cases h; exact St.refl _)
         | (cases h; exact St.push _ _)
         | (cases h; exact (St.drop _ _).trans (St.push _ _))
         | (cases h; exact St.obj _ _ _)
         | (cases h; exact St.write (by assumption))
         | (obtain ⟨a, ha, hv⟩ := map_some h; cases hv; first | exact St.refl _ | exact St.push _ _ | exact St.write ha)
    | makeSlice t x y =>
        simp only [stepO, oMakeSlice] at h
        repeat' (split at h)
        all_goals first
         | (cases h; done)
         | (cases h; exact St.refl _)
         | (cases h; exact St.push _ _)
         | (cases h; exact (St.drop _ _).trans (St.push _ _))
         | (cases h; exact St.obj _ _ _)
         | (cases h; exact St.write (by assumption))
         | (obtain ⟨a, ha, hv⟩ := map_some h; cases hv; first | exact St.refl _ | exact St.push _ _ | exact St.write ha)
    | convert t u x =>
        simp only [stepO, oConvert] at h
        repeat' (split at h)
        all_goals first
         | (cases h; done)
         | (cases h; exact St.refl _)
         | (cases h; exact St.push _ _)
         | (cases h; exact (St.drop _ _).trans (St.push _ _))
         | (cases h; exact St.obj _ _ _)
         | (cases h; exact St.write (by assumption))
         | (obtain ⟨a, ha, hv⟩ := map_some h; cases hv; first | exact St.refl _ | exact St.push _ _ | exact St.write ha)
    | makeMap t r =>
        simp only [stepO, oMakeMap] at h
        repeat' (split at h)
        all_goals first
         | (cases h; done)
         | (cases h; exact St.refl _)
         | (cases h; exact St.push _ _)
         | (cases h; exact (St.drop _ _).trans (St.push _ _))
         | (cases h; exact St.obj _ _ _)
         | (cases h; exact St.write (by assumption))
         | (obtain ⟨a, ha, hv⟩ := map_some h; cases hv; first | exact St.refl _ | exact St.push _ _ | exact St.write ha)
    | lookup t x i ok =>
        simp only [stepO, oLookup] at h
        repeat' (split at h)
        all_goals first
         | (cases h; done)
         | (cases h; exact St.refl _)
         | (cases h; exact St.push _ _)
         | (cases h; exact (St.drop _ _).trans (St.push _ _))
         | (cases h; exact St.obj _ _ _)
         | (cases h; exact St.write (by assumption))
         | (obtain ⟨a, ha, hv⟩ := map_some h; cases hv; first | exact St.refl _ | exact St.push _ _ | exact St.write ha)
    | mapUpdate t m k x =>
        simp only [stepO, oMapUpd] at h
        repeat' (split at h)
        all_goals first
         | (cases h; done)
         | (cases h; exact St.refl _)
         | (cases h; exact St.push _ _)
         | (cases h; exact (St.drop _ _).trans (St.push _ _))
         | (cases h; exact St.obj _ _ _)
         | (cases h; exact St.write (by assumption))
         | (obtain ⟨a, ha, hv⟩ := map_some h; cases hv; first | exact St.refl _ | exact St.push _ _ | exact St.write ha)
    | insert t m k x =>
        simp only [stepO, oMapUpd] at h
        repeat' (split at h)
        all_goals first
         | (cases h; done)
         | (cases h; exact St.refl _)
         | (cases h; exact St.push _ _)
         | (cases h; exact (St.drop _ _).trans (St.push _ _))
         | (cases h; exact St.obj _ _ _)
         | (cases h; exact St.write (by assumption))
         | (obtain ⟨a, ha, hv⟩ := map_some h; cases hv; first | exact St.refl _ | exact St.push _ _ | exact St.write ha)
    | range t x =>
        simp only [stepO, oRange] at h
        repeat' (split at h)
        all_goals first
         | (cases h; done)
         | (cases h; exact St.refl _)
         | (cases h; exact St.push _ _)
         | (cases h; exact (St.drop _ _).trans (St.push _ _))
         | (cases h; exact St.obj _ _ _)
         | (cases h; exact St.write (by assumption))
         | (obtain ⟨a, ha, hv⟩ := map_some h; cases hv; first | exact St.refl _ | exact St.push _ _ | exact St.write ha)
    | entry x =>
        simp only [stepO, oEntry] at h
        repeat' (split at h)
        all_goals first
         | (cases h; done)
         | (cases h; exact St.refl _)
         | (cases h; exact St.push _ _)
         | (cases h; exact (St.drop _ _).trans (St.push _ _))
         | (cases h; exact St.obj _ _ _)
         | (cases h; exact St.write (by assumption))
         | (obtain ⟨a, ha, hv⟩ := map_some h; cases hv; first | exact St.refl _ | exact St.push _ _ | exact St.write ha)
    | mapEntry t m k =>
        simp only [stepO, oMapEntry] at h
        repeat' (split at h)
        all_goals first
         | (cases h; done)
         | (cases h; exact St.refl _)
         | (cases h; exact St.push _ _)
         | (cases h; exact (St.drop _ _).trans (St.push _ _))
         | (cases h; exact St.obj _ _ _)
         | (cases h; exact St.write (by assumption))
         | (obtain ⟨a, ha, hv⟩ := map_some h; cases hv; first | exact St.refl _ | exact St.push _ _ | exact St.write ha)
    | entryStore t m s x =>
        simp only [stepO, oEntryStore] at h
        repeat' (split at h)
        all_goals first
         | (cases h; done)
         | (cases h; exact St.refl _)
         | (cases h; exact St.push _ _)
         | (cases h; exact (St.drop _ _).trans (St.push _ _))
         | (cases h; exact St.obj _ _ _)
         | (cases h; exact St.write (by assumption))
         | (obtain ⟨a, ha, hv⟩ := map_some h; cases hv; first | exact St.refl _ | exact St.push _ _ | exact St.write ha)
    | call c =>
      obtain ⟨callee, args, ats⟩ := c
      cases callee with
      | value f =>
        simp only [stepO, callA, oCall] at h
        repeat' (split at h)
        all_goals first
          | (cases h; done)
          | exact ho _ _ _ _ _ h
      | invoke r m => cases h
      | builtin b =>
        cases b with
        | len =>
          simp only [stepO, callA] at h
          split at h
          · rename_i r hr
            cases h
            simp only [oLen] at hr
            repeat' (split at hr)
            all_goals first
              | (cases hr; done)
              | (obtain ⟨a, ha, hv⟩ := map_some hr; cases hv; exact St.refl _)
          · simp only [oLenMap] at h
            repeat' (split at h)
            all_goals first
             | (cases h; done)
             | (cases h; exact St.refl _)
             | (cases h; exact St.push _ _)
             | (cases h; exact (St.drop _ _).trans (St.push _ _))
             | (cases h; exact St.obj _ _ _)
             | (cases h; exact St.write (by assumption))
             | (obtain ⟨a, ha, hv⟩ := map_some h; cases hv; first | exact St.refl _ | exact St.push _ _ | exact St.write ha)
        | delete =>
            simp only [stepO, callA, oDelete] at h
            repeat' (split at h)
            all_goals first
             | (cases h; done)
             | (cases h; exact St.refl _)
             | (cases h; exact St.push _ _)
             | (cases h; exact (St.drop _ _).trans (St.push _ _))
             | (cases h; exact St.obj _ _ _)
             | (cases h; exact St.write (by assumption))
             | (obtain ⟨a, ha, hv⟩ := map_some h; cases hv; first | exact St.refl _ | exact St.push _ _ | exact St.write ha)
        | clear =>
            simp only [stepO, callA, oClear] at h
            repeat' (split at h)
            all_goals first
             | (cases h; done)
             | (cases h; exact St.refl _)
             | (cases h; exact St.push _ _)
             | (cases h; exact (St.drop _ _).trans (St.push _ _))
             | (cases h; exact St.obj _ _ _)
             | (cases h; exact St.write (by assumption))
             | (obtain ⟨a, ha, hv⟩ := map_some h; cases hv; first | exact St.refl _ | exact St.push _ _ | exact St.write ha)
        | cap =>
            simp only [stepO, callA, oCap] at h
            repeat' (split at h)
            all_goals first
             | (cases h; done)
             | (cases h; exact St.refl _)
             | (cases h; exact St.push _ _)
             | (cases h; exact (St.drop _ _).trans (St.push _ _))
             | (cases h; exact St.obj _ _ _)
             | (cases h; exact St.write (by assumption))
             | (obtain ⟨a, ha, hv⟩ := map_some h; cases hv; first | exact St.refl _ | exact St.push _ _ | exact St.write ha)
        | append =>
            simp only [stepO, callA, oAppend, appendA] at h
            repeat' (split at h)
            all_goals first
             | (cases h; done)
             | (cases h; exact St.refl _)
             | (cases h; exact St.push _ _)
             | (cases h; exact (St.drop _ _).trans (St.push _ _))
             | (cases h; exact St.obj _ _ _)
             | (cases h; exact St.write (by assumption))
             | (obtain ⟨a, ha, hv⟩ := map_some h; cases hv; first | exact St.refl _ | exact St.push _ _ | exact St.write ha)
        | copy =>
            simp only [stepO, callA, oCopy, copyTo] at h
            repeat' (split at h)
            all_goals first
             | (cases h; done)
             | (cases h; exact St.refl _)
             | (cases h; exact St.push _ _)
             | (cases h; exact (St.drop _ _).trans (St.push _ _))
             | (cases h; exact St.obj _ _ _)
             | (cases h; exact St.write (by assumption))
             | (obtain ⟨a, ha, hv⟩ := map_some h; cases hv; first | exact St.refl _ | exact St.push _ _ | exact St.write ha)
        | max =>
            simp only [stepO, callA, oMax] at h
            repeat' (split at h)
            all_goals first
             | (cases h; done)
             | (cases h; exact St.refl _)
             | (cases h; exact St.push _ _)
             | (cases h; exact (St.drop _ _).trans (St.push _ _))
             | (cases h; exact St.obj _ _ _)
             | (cases h; exact St.write (by assumption))
             | (obtain ⟨a, ha, hv⟩ := map_some h; cases hv; first | exact St.refl _ | exact St.push _ _ | exact St.write ha)
        | min =>
            simp only [stepO, callA, oMax] at h
            repeat' (split at h)
            all_goals first
             | (cases h; done)
             | (cases h; exact St.refl _)
             | (cases h; exact St.push _ _)
             | (cases h; exact (St.drop _ _).trans (St.push _ _))
             | (cases h; exact St.obj _ _ _)
             | (cases h; exact St.write (by assumption))
             | (obtain ⟨a, ha, hv⟩ := map_some h; cases hv; first | exact St.refl _ | exact St.push _ _ | exact St.write ha)
        | _ => cases h
    | _ => first | cases h | exact absurd rfl hp
theorem loadO_at {t : TypeId} {x : Operand} (h : stepO P ora E H (.load t x) = some (v, H')) : ∃ b off, E x = some (.one (.ptr b off)) ∧ H' = H ∧ ∀ G : HP, G.t.get b = H.t.get b → stepO P ora E G (.load t x) = some (v, G) := by
 simp only [stepO, oLoad] at h ⊢
 split at h
 ·rename_i b off ag m hx hs
  obtain ⟨a, ha, hv⟩ := map_some h
  cases hv
  refine ⟨b, off, hx, rfl, fun G hG => ?_⟩
  have : G.read b off (wid ag m) = H.read b off (wid ag m) := by unfold HP.read; rw [hG]
  rw [this, ha]
  rfl
 ·cases h
theorem storeO_at {t : TypeId} {x y : Operand} (h : stepO P ora E H (.store t x y) = some (v, H')) : ∃ b off, E x = some (.one (.ptr b off)) ∧ H'.n = H.n ∧ ∀ b', b' ≠ b → H'.t.get b' = H.t.get b' := by
 simp only [stepO, oStore] at h
 split at h
 ·rename_i b off cs ag m hx hy hs
  split at h
  ·obtain ⟨G, hG, hv⟩ := map_some h
   cases hv
   refine ⟨b, off, hx, (HP.write_spec hG).1, fun b' hb => ?_⟩
   unfold HP.write at hG
   split at hG
   ·split at hG
    ·cases hG
     simp only [PT.get_put]
     rw [if_neg hb]
    ·cases hG
   ·cases hG
  ·cases h
 ·cases h
theorem loadO_run {t : TypeId} {x : Operand} (h : stepO P ora E H (.load t x) = some (v, H')) (hx : ∀ a, E x = some a → VRel ρ a (ev x)) (hH : HRel ρ H w) :
  ∃ u, VRel ρ v u ∧ ∀ dst ty pos after guard, (execOp ev ⟨dst, .load t x, ty, pos, after, guard⟩).run P w = .ok (.value u) w := by
 simp only [stepO, oLoad] at h
 split at h
 ·rename_i b off ag n hx' hs
  obtain ⟨a, ha, hv⟩ := map_some h
  cases hv
  obtain ⟨cs, hcs, hm⟩ := bind_some' ha
  obtain ⟨L, hL, hev⟩ := hx _ hx'
  obtain ⟨us, hl, hrel, hcell⟩ := HP.read_world hcs hH hL
  refine ⟨_, mkA_rel hm hrel, fun dst ty pos after guard => run_v ?_⟩
  simp only [Instr.loadAt, hev, Instr.sureAddr, Sem.run_bind, Sem.run_pure, Result.andThen_ok]
  exact run_loadVar hs hl hcell
 ·cases h
theorem stepA_st (ho : OraSt ora) {op : Op} (h : stepA P ora E H op = some (v, H')) : St H H' := by
 rcases stepA_cases h with h | h
 ·exact symP_st h
 ·rcases stepB_cases h with h | ⟨_, h⟩
  ·exact stepO_st ho h
  ·exact symA_st h
theorem pureO_makes {op : Op} (h : pureO E op = true) : makes op = false := by
 unfold pureO at h
 cases op <;> first | rfl | (exfalso; simp [isPure] at h; done)
noncomputable def pureA (E : Operand → Option AV) (op : Op) : Bool :=
 match pureO E op with
 | true => true
 | false => match op with
  | .load _ x => match E x with
   | some a => isPv a
   | none => false
  | _ => false
theorem stepO_none {op : Op} (hp : pureO E op = true) (h : stepO P ora E H op = none) (G : HP) : stepO P ora E G op = none := by
 cases hh : stepO P ora E G op with
 | none => rfl
 | some r =>
  obtain ⟨v', G'⟩ := r
  have := (stepO_pureA hp hh).2 H
  rw [h] at this
  cases this
theorem loadO_pv {t : TypeId} {x : Operand} {a : AV} (hx : E x = some a) (hp : isPv a = true) : stepO P ora E H (.load t x) = none := by
 unfold isPv at hp
 split at hp
 ·simp only [stepO, oLoad, hx]
 ·cases hp
theorem pureA_makes {op : Op} (h : pureA E op = true) : makes op = false := by
 unfold pureA at h
 split at h
 ·rename_i h1; exact pureO_makes h1
 ·split at h
  ·rfl
  ·cases h
theorem stepB_pureA {op : Op} (hp : pureA E op = true) (h : stepB P ora E H op = some (v, H')) : H' = H ∧ ∀ G : HP, G.hy = H.hy → stepB P ora E G op = some (v, G) := by
 unfold pureA at hp
 split at hp
 ·rename_i h1
  rcases stepB_cases h with h | ⟨h0, h⟩
  ·obtain ⟨h2, h3⟩ := stepO_pureA h1 h
   refine ⟨h2, fun G _ => ?_⟩
   unfold stepB
   rw [h3 G]
  ·unfold pureO at h1
   have hpo : pureO E op = true := by unfold pureO; exact h1
   split at h1
   ·rename_i h4
    obtain ⟨h2, h3⟩ := symA_pure h4 h
    refine ⟨h2, fun G hG => ?_⟩
    unfold stepB
    rw [stepO_none hpo h0 G]
    exact h3 G hG
   ·split at h1
    ·rename_i t u x
     obtain ⟨h2, h3⟩ := symA_conv h (by split at h1 <;> simp_all)
     refine ⟨h2, fun G hG => ?_⟩
     unfold stepB
     rw [stepO_none hpo h0 G]
     exact h3 G hG
    ·cases h1
 ·split at hp
  ·rename_i t x
   split at hp
   ·rename_i a ha
    rcases stepB_cases h with h | ⟨h0, h⟩
    ·rw [loadO_pv ha hp] at h; cases h
    ·obtain ⟨a', ha', h2, h3⟩ := symA_load h
     rw [ha] at ha'
     cases ha'
     rcases h3 with ⟨_, h3⟩ | ⟨b, _, h4, _⟩
     ·refine ⟨h2, fun G hG => ?_⟩
      unfold stepB
      rw [loadO_pv ha hp]
      exact h3 G hG
     ·rw [hp] at h4; cases h4
   ·cases hp
  ·cases hp
theorem stepA_pureA {op : Op} (hp : pureA E op = true) (h : stepA P ora E H op = some (v, H')) : H' = H ∧ ∀ G : HP, G.hy = H.hy → stepA P ora E G op = some (v, G) := by
 have hm := pureA_makes hp
 rw [stepA_eq hm] at h
 obtain ⟨h1, h2⟩ := stepB_pureA hp h
 exact ⟨h1, fun G hG => by rw [stepA_eq hm]; exact h2 G hG⟩
theorem load_at {t : TypeId} {x : Operand} (hnp : pureA E (.load t x) = false) (h : stepA P ora E H (.load t x) = some (v, H')) : ∃ a b, E x = some a ∧ ptrB a = some b ∧ H' = H ∧ ∀ G : HP, G.t.get b = H.t.get b → G.hy = H.hy → stepA P ora E G (.load t x) = some (v, G) := by
 simp only [stepA_eq (show makes (.load t x) = false from rfl)] at h ⊢
 rcases stepB_cases h with h | ⟨h0, h⟩
 ·obtain ⟨b, off, h1, h2, h3⟩ := loadO_at h
  refine ⟨_, b, h1, rfl, h2, fun G hG _ => ?_⟩
  unfold stepB
  rw [h3 G hG]
 ·obtain ⟨a, ha, h2, h3⟩ := symA_load h
  rcases h3 with ⟨hp, _⟩ | ⟨b, h4, h5, h3⟩
  ·exfalso
   have : pureA E (.load t x) = true := by
    unfold pureA
    rw [show pureO E (.load t x) = false from rfl]
    simp only [ha, hp]
   rw [this] at hnp; cases hnp
  ·refine ⟨a, b, ha, h4, h2, fun G hG hy => ?_⟩
   have h6 : stepO P ora E G (.load t x) = none := by
    cases hh : stepO P ora E G (.load t x) with
    | none => rfl
    | some r =>
     obtain ⟨v', G'⟩ := r
     obtain ⟨b', off, g1, g2, g3⟩ := loadO_at hh
     rw [ha] at g1
     cases g1
     cases h4
     rw [g3 H hG.symm] at h0
     cases h0
   unfold stepB
   rw [h6]
   exact h3 G hG hy
theorem store_at {t : TypeId} {x y : Operand} (h : stepA P ora E H (.store t x y) = some (v, H')) : ∃ a b, E x = some a ∧ ptrB a = some b ∧ H'.n = H.n ∧ ∀ b', b' ≠ b → H'.t.get b' = H.t.get b' := by
 rw [stepA_eq rfl] at h
 rcases stepB_cases h with h | ⟨h0, h⟩
 ·obtain ⟨b, off, h1, h2⟩ := storeO_at h
  exact ⟨_, b, h1, rfl, h2⟩
 ·exact symA_store h
theorem load_run {t : TypeId} {x : Operand} (h : stepA P ora E H (.load t x) = some (v, H')) (hx : ∀ a, E x = some a → VRel ρ a (ev x)) (hH : HRel ρ H w) (hj : J ρ H w) :
  ∃ u, VRel ρ v u ∧ ∀ dst ty pos after guard, (execOp ev ⟨dst, .load t x, ty, pos, after, guard⟩).run P w = .ok (.value u) w := by
 rw [stepA_eq rfl] at h
 rcases stepB_cases h with h | ⟨h0, h⟩
 ·exact loadO_run h hx hH
 ·exact symA_load_run h hx hH hj
end
end Go.Sx
