/-
  A second abstract evaluator of the model's code: regions that draw their order: the run, number by number. Conditions: none; nothing here speaks of one program.
-/
import Derived.Test.YtinhlbmlopkgiaaGreatDoorFvV
set_option linter.unusedSectionVars false
set_option linter.unusedVariables false
namespace Go.Fv

/-- What an operation does to the heap: sees none; reads of block b; turns no block that was there; writes into block b; anything. -/
inductive Cls where
  | A
  | L (b : Nat)
  | N
  | S (b : Nat)
  | X
def Cls.loud : Cls → Bool
  | .S _ => true
  | .X => true
  | _ => false
def Cls.makes : Cls → Bool
  | .N => true
  | .X => true
  | _ => false
structure Tr where
  v : AV
  F : Fm
  H : HP
  c : Cls

noncomputable section
def clsA (F : Fm) (n lo : Nat) (op : Op) : Cls :=
  match isPure op with
  | true => .A
  | false => match op with
    | .load _ x => match evF F x with
      | some (.one (.ptr b _)) => .L b
      | _ => .X
    | .store _ x _ => match evF F x with
      | some (.one (.ptr b _)) => .S b
      | _ => .X
    | _ => match Nat.ble n lo with
      | true => .N
      | false => .X
def okL (c : Cls) (n : Nat) (v : AV) : Bool :=
  match c with
  | .L _ => v.below n
  | _ => true
def HP.fresh (H : HP) : HP := ⟨H.t, H.n, H.n⟩
def HP.lower (G : HP) (lo : Nat) : HP := ⟨G.t, G.n, minN lo G.lo⟩

def drawGo (P : Program) [Plain P] (ora : Ora) (n : Nat) (ops : List Oper) : List Oper → Fm → HP → Option (List Tr × Fm × HP)
  | [], F, H => some ([], F, H)
  | o :: rest, F, H =>
    match wantF ops F o.guard with
    | some true =>
      match stepA P ora (evF F) H.fresh o.op with
      | some (v, G) =>
        match okL (clsA F H.n G.lo o.op) H.n v, putF n F o.dst v with
        | true, some F' =>
          match drawGo P ora n ops rest F' (G.lower H.lo) with
          | some (tr, r) => some (⟨v, F, H, clsA F H.n G.lo o.op⟩ :: tr, r)
          | none => none
        | _, _ => none
      | none => none
    | some false =>
      match putF n F o.dst undefA with
      | some F' =>
        match drawGo P ora n ops rest F' H with
        | some (tr, r) => some (⟨undefA, F, H, .A⟩ :: tr, r)
        | none => none
      | none => none
    | none => none

def ancB (B : List Nat) (i j : Nat) : Bool := (B.getD j 0).testBit i
/-- i < j: are they in an order, where they must be? -/
def pairOK (B : List Nat) (i j : Nat) (c d : Cls) : Bool :=
  match c, d with
  | .A, _ => true
  | _, .A => true
  | .N, .N => true
  | .N, .L _ => true
  | .L _, .N => true
  | .L _, .L _ => true
  | .S b, .L b' => !(Nat.beq b b') || ancB B i j
  | .L b, .S b' => !(Nat.beq b b') || ancB B i j
  | _, _ => ancB B i j
def cmpOne (B : List Nat) (i : Nat) (c : Cls) : List Tr → Nat → Bool
  | [], _ => true
  | t :: r, j => pairOK B i j c t.c && cmpOne B i c r (Nat.succ j)
def cmpAll (B : List Nat) : List Tr → Nat → Bool
  | [], _ => true
  | t :: r, i => (match t.c with
    | .A => true
    | c => cmpOne B i c r (Nat.succ i)) && cmpAll B r (Nat.succ i)

def drawA (P : Program) [Plain P] (ora : Ora) (n : Nat) (ops : List Oper) (F : Fm) (H : HP) : Option (Fm × HP) :=
  match drawGo P ora n ops ops F H with
  | some (tr, r) => match cmpAll (befs ops) tr 0 with
    | true => some r
    | false => none
  | none => none
end

def StepOK (P : Program) [Plain P] (ora : Ora) (n : Nat) (ops : List Oper) (o : Oper) (v : AV) (c : Cls) (F : Fm) (H : HP) (F1 : Fm) (H1 : HP) : Prop :=
  (wantF ops F o.guard = some false ∧ v = undefA ∧ c = .A ∧ H1 = H ∧ putF n F o.dst undefA = some F1) ∨
  (wantF ops F o.guard = some true ∧ ∃ G, stepA P ora (evF F) H.fresh o.op = some (v, G) ∧ H1 = G.lower H.lo ∧ putF n F o.dst v = some F1 ∧ c = clsA F H.n G.lo o.op ∧ okL c H.n v = true)

def Hat (tr : List Tr) (H' : HP) (k : Nat) : HP := ((tr[k]?).map (·.H)).getD H'
def Fat (tr : List Tr) (F' : Fm) (k : Nat) : Fm := ((tr[k]?).map (·.F)).getD F'
def Vat (tr : List Tr) (k : Nat) : AV := ((tr[k]?).map (·.v)).getD undefA
def Cat (tr : List Tr) (k : Nat) : Cls := ((tr[k]?).map (·.c)).getD .A

section
variable {P : Program} [Plain P] {ora : Ora} {n : Nat} {ops : List Oper}

theorem drawGo_spec : ∀ (rest : List Oper) {F F' : Fm} {H H' : HP} {tr : List Tr}, drawGo P ora n ops rest F H = some (tr, F', H') →
    tr.length = rest.length ∧ Hat tr H' 0 = H ∧ Fat tr F' 0 = F ∧
      ∀ k o, rest[k]? = some o → StepOK P ora n ops o (Vat tr k) (Cat tr k) (Fat tr F' k) (Hat tr H' k) (Fat tr F' (k + 1)) (Hat tr H' (k + 1))
  | [], F, F', H, H', tr, h => by cases h; exact ⟨rfl, rfl, rfl, fun k o h => by simp at h⟩
  | o :: rest, F, F', H, H', tr, h => by
    simp only [drawGo] at h
    split at h
    · rename_i hw
      split at h
      · rename_i v G hs
        split at h
        · rename_i F1 hok hput
          split at h
          · rename_i tr1 r hr
            cases h
            obtain ⟨h1, h2, h3, h4⟩ := drawGo_spec rest hr
            refine ⟨by simp [h1], rfl, rfl, fun k o' ho => ?_⟩
            cases k with
            | zero =>
              simp only [List.getElem?_cons_zero, Option.some.injEq] at ho
              subst ho
              exact .inr ⟨hw, G, hs, h2, by
                show putF n F o.dst v = some (Fat tr1 F' 0)
                rw [h3]; exact hput, rfl, hok⟩
            | succ k =>
              simp only [List.getElem?_cons_succ] at ho
              exact h4 k o' ho
          · cases h
        · cases h
      · cases h
    · rename_i hw
      split at h
      · rename_i F1 hput
        split at h
        · rename_i tr1 r hr
          cases h
          obtain ⟨h1, h2, h3, h4⟩ := drawGo_spec rest hr
          refine ⟨by simp [h1], rfl, rfl, fun k o' ho => ?_⟩
          cases k with
          | zero =>
            simp only [List.getElem?_cons_zero, Option.some.injEq] at ho
            subst ho
            exact .inl ⟨hw, rfl, rfl, h2, by
              show putF n F o.dst undefA = some (Fat tr1 F' 0)
              rw [h3]; exact hput⟩
          | succ k =>
            simp only [List.getElem?_cons_succ] at ho
            exact h4 k o' ho
        · cases h
      · cases h
    · cases h

theorem cmpOne_spec {B : List Nat} {i : Nat} {c : Cls} : ∀ (r : List Tr) (j : Nat), cmpOne B i c r j = true → ∀ k t, r[k]? = some t → pairOK B i (j + k) c t.c = true
  | [], _, _, k, t, h => by simp at h
  | x :: r, j, h, 0, t, ht => by
    simp only [List.getElem?_cons_zero, Option.some.injEq] at ht
    subst ht
    simp only [cmpOne, Bool.and_eq_true] at h
    exact h.1
  | x :: r, j, h, k + 1, t, ht => by
    simp only [List.getElem?_cons_succ] at ht
    simp only [cmpOne, Bool.and_eq_true] at h
    have := cmpOne_spec r (j + 1) h.2 k t ht
    rw [show j + (k + 1) = j + 1 + k by omega]
    exact this

theorem cmpAll_spec {B : List Nat} : ∀ (tr : List Tr) (i0 : Nat), cmpAll B tr i0 = true → ∀ i j s t, i < j → tr[i]? = some s → tr[j]? = some t → pairOK B (i0 + i) (i0 + j) s.c t.c = true
  | [], _, _, i, j, s, t, _, h, _ => by simp at h
  | x :: r, i0, h, 0, j, s, t, hij, hs, ht => by
    simp only [List.getElem?_cons_zero, Option.some.injEq] at hs
    subst hs
    simp only [cmpAll, Bool.and_eq_true] at h
    obtain ⟨j', rfl⟩ := Nat.exists_eq_succ_of_ne_zero (show j ≠ 0 by omega)
    rw [List.getElem?_cons_succ] at ht
    have h1 := h.1
    split at h1
    · rename_i hc; rw [hc]; cases t.c <;> rfl
    · have := cmpOne_spec r (i0 + 1) h1 j' t ht
      rw [show i0 + j'.succ = i0 + 1 + j' by omega]
      exact this
  | x :: r, i0, h, i + 1, j, s, t, hij, hs, ht => by
    obtain ⟨j', rfl⟩ := Nat.exists_eq_succ_of_ne_zero (show j ≠ 0 by omega)
    simp only [List.getElem?_cons_succ] at hs ht
    simp only [cmpAll, Bool.and_eq_true] at h
    have := cmpAll_spec r (i0 + 1) h.2 i j' s t (by omega) hs ht
    rw [show i0 + (i + 1) = i0 + 1 + i by omega, show i0 + j'.succ = i0 + 1 + j' by omega]
    exact this

/-- The run, told by functions of the number. -/
structure Run (P : Program) [Plain P] (ora : Ora) (n : Nat) (ops : List Oper) (Fs : Nat → Fm) (Hs : Nat → HP) (vs : Nat → AV) (cl : Nat → Cls) : Prop where
  step : ∀ k o, ops[k]? = some o → StepOK P ora n ops o (vs k) (cl k) (Fs k) (Hs k) (Fs (k + 1)) (Hs (k + 1))
  out : ∀ k, ops.length ≤ k → cl k = .A
  pair : ∀ i j, i < j → j < ops.length → pairOK (befs ops) i j (cl i) (cl j) = true
  flow : flowOk ops = true

theorem drawA_run {F F' : Fm} {H H' : HP} (hflow : flowOk ops = true) (h : drawA P ora n ops F H = some (F', H')) :
    ∃ Fs Hs vs cl, Run P ora n ops Fs Hs vs cl ∧ Fs 0 = F ∧ Hs 0 = H ∧ Fs ops.length = F' ∧ Hs ops.length = H' := by
  unfold drawA at h
  split at h
  · rename_i tr r hr
    split at h
    · rename_i hcmp
      cases h
      obtain ⟨h1, h2, h3, h4⟩ := drawGo_spec ops hr
      refine ⟨Fat tr F', Hat tr H', Vat tr, Cat tr, ⟨h4, fun k hk => ?_, fun i j hij hj => ?_, hflow⟩, h3, h2, ?_, ?_⟩
      · unfold Cat; rw [List.getElem?_eq_none (by omega)]; rfl
      · have hi : i < tr.length := by omega
        have hj' : j < tr.length := by omega
        have := cmpAll_spec tr 0 hcmp i j tr[i] tr[j] hij (List.getElem?_eq_getElem hi) (List.getElem?_eq_getElem hj')
        rw [Nat.zero_add, Nat.zero_add] at this
        unfold Cat
        rw [List.getElem?_eq_getElem hi, List.getElem?_eq_getElem hj']
        exact this
      · unfold Fat; rw [List.getElem?_eq_none (by omega)]; rfl
      · unfold Hat; rw [List.getElem?_eq_none (by omega)]; rfl
    · cases h
  · cases h

/-! ### What a run says of the heaps -/
section
variable {Fs : Nat → Fm} {Hs : Nat → HP} {vs : Nat → AV} {cl : Nat → Cls}

theorem Run.st (R : Run P ora n ops Fs Hs vs cl) (ho : OraSt ora) {k : Nat} (hk : k < ops.length) : St (Hs k) (Hs (k + 1)) := by
  rcases R.step k ops[k] (List.getElem?_eq_getElem hk) with ⟨_, _, _, h, _⟩ | ⟨_, G, hs, h, _⟩
  · rw [h]; exact St.refl _
  · rw [h]
    obtain ⟨⟨h1, h2⟩, h3⟩ := stepA_st ho hs
    refine ⟨⟨(minN_le _ _).1, fun b hb hb' => h2 b ?_ hb'⟩, h3⟩
    have := (minN_le (Hs k).lo G.lo).2
    simp only [HP.lower] at hb
    omega

theorem Run.n_le (R : Run P ora n ops Fs Hs vs cl) (ho : OraSt ora) {i j : Nat} (hij : i ≤ j) (hj : j ≤ ops.length) : (Hs i).n ≤ (Hs j).n := by
  induction j with
  | zero => rw [show i = 0 by omega]; exact Nat.le_refl _
  | succ j ih =>
    rcases Nat.lt_or_ge i (j + 1) with h | h
    · exact Nat.le_trans (ih (by omega) (by omega)) (R.st ho (by omega)).2
    · rw [show i = j + 1 by omega]; exact Nat.le_refl _

/-- What an operation of a kind does. -/
theorem Run.quiet (R : Run P ora n ops Fs Hs vs cl) (ho : OraSt ora) {k : Nat} (hk : k < ops.length) (hc : (cl k).loud = false) : ∀ b, b < (Hs k).n → (Hs (k + 1)).t.get b = (Hs k).t.get b := by
  rcases R.step k ops[k] (List.getElem?_eq_getElem hk) with ⟨_, _, _, h, _⟩ | ⟨_, G, hs, h, _, hcl, _⟩
  · rw [h]; exact fun _ _ => rfl
  · rw [h]
    intro b hb
    obtain ⟨⟨h1, h2⟩, h3⟩ := stepA_st ho hs
    rw [hcl] at hc
    unfold clsA at hc
    split at hc
    · rename_i hp
      have := (stepA_pure hp hs).1
      subst this
      rfl
    · split at hc
      · rename_i t x hop
        rw [hop] at hs
        obtain ⟨b0, off, hx, hG, _⟩ := load_at hs
        subst hG
        rfl
      · split at hc <;> cases hc
      · split at hc
        · rename_i hble
          exact h2 b (by have := Nat.le_of_ble_eq_true hble; omega) hb
        · cases hc

theorem Run.noMake (R : Run P ora n ops Fs Hs vs cl) {k : Nat} (hk : k < ops.length) (hc : (cl k).makes = false) : (Hs (k + 1)).n = (Hs k).n := by
  rcases R.step k ops[k] (List.getElem?_eq_getElem hk) with ⟨_, _, _, h, _⟩ | ⟨_, G, hs, h, _, hcl, _⟩
  · rw [h]
  · rw [h]
    rw [hcl] at hc
    unfold clsA at hc
    split at hc
    · rename_i hp
      have := (stepA_pure hp hs).1
      subst this
      rfl
    · split at hc
      · rename_i t x hop
        rw [hop] at hs
        obtain ⟨b0, off, hx, hG, _⟩ := load_at hs
        subst hG
        rfl
      · rename_i t x y hop
        rw [hop] at hs
        obtain ⟨b0, off, hx, hG, _⟩ := store_at hs
        exact hG
      · split at hc <;> cases hc

theorem Run.other (R : Run P ora n ops Fs Hs vs cl) {k b : Nat} (hk : k < ops.length) (hc : cl k = .S b) : ∀ b', b' ≠ b → (Hs (k + 1)).t.get b' = (Hs k).t.get b' := by
  rcases R.step k ops[k] (List.getElem?_eq_getElem hk) with ⟨_, _, h0, h, _⟩ | ⟨_, G, hs, h, _, hcl, _⟩
  · rw [h0] at hc; cases hc
  · rw [h]
    rw [hcl] at hc
    unfold clsA at hc
    split at hc
    · cases hc
    · split at hc
      · split at hc <;> cases hc
      · rename_i t x y hop
        rw [hop] at hs
        obtain ⟨b0, off, hx, hn, hG⟩ := store_at hs
        rw [hx] at hc
        cases hc
        exact hG
      · split at hc <;> cases hc
end
end
end Go.Fv
