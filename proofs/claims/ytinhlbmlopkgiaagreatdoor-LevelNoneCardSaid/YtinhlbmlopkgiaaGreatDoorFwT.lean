/-
  A second abstract evaluator of the model's code: several outcomes told as fewer: what nothing leads to is out of view; outcomes that are alike are one. Conditions: none; nothing here speaks of one program.
-/
import Derived.Test.YtinhlbmlopkgiaaGreatDoorFwE
set_option linter.unusedSectionVars false
set_option linter.unusedVariables false
namespace Go.Fv

/-! ### One outcome told as another -/
def Wk (o o2 : AV × HP) : Prop := ∀ (ρ : PM) (u : Value) (w : World), VRel ρ o.1 u → HRel ρ o.2 w → Dom ρ o.2.n → ∃ ρ', VRel ρ' o2.1 u ∧ Sim ρ o.2 w ρ' o2.2 w
theorem Wk.refl (o : AV × HP) : Wk o o := fun ρ u w h1 h2 h3 => ⟨ρ, h1, Sim.refl h2 h3⟩
theorem Wk.trans {o o1 o2 : AV × HP} (h : Wk o o1) (h' : Wk o1 o2) : Wk o o2 := fun ρ u w h1 h2 h3 => by
  obtain ⟨ρ1, g1, g2⟩ := h ρ u w h1 h2 h3
  obtain ⟨ρ2, g3, g4⟩ := h' ρ1 u w g1 g2.rel g2.dom
  exact ⟨ρ2, g3, g2.trans h3 g4⟩
theorem Wk.drop (v : AV) (H : HP) (b : Nat) : Wk (v, H) (v, H.drop b) := fun ρ u w h1 h2 h3 => ⟨ρ, h1, Sim.drop h2 h3 b⟩
theorem Wk.cells {v : AV} {H H' : HP} (hn : H.n ≤ H'.n) (hc : ∀ b i, H'.cell b i = H.cell b i) : Wk (v, H) (v, H') := fun ρ u w h1 h2 h3 => ⟨ρ, h1, {
  le := PM.le.refl ρ
  grow := hn
  dom := fun b hb => h3 b (Nat.le_trans hn hb)
  rel := ⟨fun b i c L h => h2.rel b i c L (by rw [← hc]; exact h), fun b b' L L' ⟨i, c, g1⟩ ⟨i', c', g2⟩ => h2.inj b b' L L' ⟨i, c, by rw [← hc]; exact g1⟩ ⟨i', c', by rw [← hc]; exact g2⟩⟩
  knc := fun b i _ h => by rw [hc]; exact h
  frc := fun _ _ _ _ _ _ _ => SameAt.of_heap rfl _
  fr := fun _ _ _ => rfl
  new := fun b L g1 g2 => by rw [g1] at g2; cases g2
  size := Nat.le_refl _
  os := rfl
  tape := rfl
  output := rfl
  old := fun b L g1 g2 => by rw [g1] at g2; cases g2 }⟩

/-! ### Equality, tested -/
noncomputable section
def eqV : Value → Value → Bool
  | .int k a, .int k' b => decide (k = k') && decide (a = b)
  | .bool a, .bool b => decide (a = b)
  | .string a, .string b => decide (a.data.toList = b.data.toList)
  | .pointer none, .pointer none => true
  | .map none, .map none => true
  | .nilFunc, .nilFunc => true
  | .nilIface, .nilIface => true
  | .slice none a b, .slice none a' b' => Nat.beq a a' && Nat.beq b b'
  | .func (.func f) a b, .func (.func g) c d => Nat.beq f g && (Nat.beq a.size 0 && Nat.beq b.size 0 && (Nat.beq c.size 0 && Nat.beq d.size 0))
  | _, _ => false
def eqPs : List (Nat × Nat) → List (Nat × Nat) → Bool
  | [], [] => true
  | (a, b) :: r, (c, d) :: s => Nat.beq a c && (Nat.beq b d && eqPs r s)
  | _, _ => false
def eqCel : Cel → Cel → Bool
  | .lit a, .lit b => eqV a b
  | .ptr a b, .ptr c d => Nat.beq a c && Nat.beq b d
  | .sl a b c d, .sl a' b' c' d' => Nat.beq a a' && (Nat.beq b b' && (Nat.beq c c' && Nat.beq d d'))
  | .su a b c d, .su a' b' c' d' => Nat.beq a a' && (Nat.beq b b' && (Nat.beq c c' && Nat.beq d d'))
  | .sz a b, .sz c d => Nat.beq a c && Nat.beq b d
  | .fn (.func f) xs, .fn (.func g) ys => Nat.beq f g && eqPs xs ys
  | .mp a, .mp b => Nat.beq a b
  | .us, .us => true
  | .un k, .un k' => decide (k = k')
  | _, _ => false
def eqCels : List Cel → List Cel → Bool
  | [], [] => true
  | x :: xs, y :: ys => eqCel x y && eqCels xs ys
  | _, _ => false
def eqPart (p q : Bool × List Cel) : Bool := decide (p.1 = q.1) && eqCels p.2 q.2
def eqParts : List (Bool × List Cel) → List (Bool × List Cel) → Bool
  | [], [] => true
  | x :: xs, y :: ys => eqPart x y && eqParts xs ys
  | _, _ => false
def eqAV : AV → AV → Bool
  | .one a, .one b => eqCel a b
  | .agg a, .agg b => eqCels a b
  | .tup a, .tup b => eqParts a b
  | _, _ => false
def eqEnts : List Ent → List Ent → Bool
  | [], [] => true
  | x :: xs, y :: ys => eqPart x.1 y.1 && (eqPart x.2.1 y.2.1 && (Nat.beq x.2.2 y.2.2 && eqEnts xs ys))
  | _, _ => false
def eqCt : Ct → Ct → Bool
  | .c a, .c b => eqCel a b
  | .map es c, .map es' c' => eqEnts es es' && Nat.beq c c'
  | _, _ => false
def eqBk : Bk → Bk → Bool
  | [], [] => true
  | none :: r, none :: s => eqBk r s
  | some a :: r, some b :: s => eqCt a b && eqBk r s
  | _, _ => false
def noneT {α : Type} : PT α → Bool
  | .nil => true
  | .node none l r => noneT l && noneT r
  | _ => false
def eqT' : PT Bk → PT Bk → Bool
  | .nil, t => noneT t
  | .node none l r, .nil => noneT l && noneT r
  | .node none l r, .node none l' r' => eqT' l l' && eqT' r r'
  | .node (some k) l r, .node (some k') l' r' => eqBk k k' && (eqT' l l' && eqT' r r')
  | _, _ => false
end
theorem eqV_spec {a b : Value} (h : eqV a b = true) : a = b := by
  unfold eqV at h
  split at h
  · simp only [Bool.and_eq_true, decide_eq_true_eq] at h; rw [h.1, h.2]
  · simp only [decide_eq_true_eq] at h; rw [h]
  · rename_i a b
    simp only [decide_eq_true_eq] at h
    obtain ⟨⟨x⟩⟩ := a
    obtain ⟨⟨y⟩⟩ := b
    simp only at h
    rw [h]
  · rfl
  · rfl
  · rfl
  · rfl
  · simp only [Bool.and_eq_true] at h; rw [Nat.eq_of_beq_eq_true h.1, Nat.eq_of_beq_eq_true h.2]
  · rename_i f a b g c d
    simp only [Bool.and_eq_true] at h
    obtain ⟨h1, ⟨h2, h3⟩, h4, h5⟩ := h
    rw [Nat.eq_of_beq_eq_true h1, Array.eq_empty_of_size_eq_zero (Nat.eq_of_beq_eq_true h2), Array.eq_empty_of_size_eq_zero (Nat.eq_of_beq_eq_true h3), Array.eq_empty_of_size_eq_zero (Nat.eq_of_beq_eq_true h4), Array.eq_empty_of_size_eq_zero (Nat.eq_of_beq_eq_true h5)]
  · cases h
theorem eqPs_spec : ∀ {xs ys : List (Nat × Nat)}, eqPs xs ys = true → xs = ys
  | [], [], _ => rfl
  | (a, b) :: r, (c, d) :: s, h => by
    simp only [eqPs, Bool.and_eq_true] at h
    rw [Nat.eq_of_beq_eq_true h.1, Nat.eq_of_beq_eq_true h.2.1, eqPs_spec h.2.2]
  | [], _ :: _, h => by cases h
  | _ :: _, [], h => by cases h
theorem eqCel_spec {a b : Cel} (h : eqCel a b = true) : a = b := by
  unfold eqCel at h
  split at h
  · rw [eqV_spec h]
  all_goals first
    | (cases h; done)
    | (simp only [Bool.and_eq_true] at h; obtain ⟨h1, h2, h3, h4⟩ := h; rw [Nat.eq_of_beq_eq_true h1, Nat.eq_of_beq_eq_true h2, Nat.eq_of_beq_eq_true h3, Nat.eq_of_beq_eq_true h4]; done)
    | (simp only [Bool.and_eq_true] at h; rw [Nat.eq_of_beq_eq_true h.1, Nat.eq_of_beq_eq_true h.2]; done)
    | (simp only [Bool.and_eq_true] at h; rw [Nat.eq_of_beq_eq_true h.1, eqPs_spec h.2]; done)
    | (rw [Nat.eq_of_beq_eq_true h]; done)
    | rfl
    | (rw [of_decide_eq_true h]; done)
theorem eqCels_spec : ∀ {xs ys : List Cel}, eqCels xs ys = true → xs = ys
  | [], [], _ => rfl
  | x :: xs, y :: ys, h => by
    simp only [eqCels, Bool.and_eq_true] at h
    rw [eqCel_spec h.1, eqCels_spec h.2]
  | [], _ :: _, h => by cases h
  | _ :: _, [], h => by cases h
theorem eqPart_spec {p q : Bool × List Cel} (h : eqPart p q = true) : p = q := by
  simp only [eqPart, Bool.and_eq_true, decide_eq_true_eq] at h
  exact Prod.ext h.1 (eqCels_spec h.2)
theorem eqParts_spec : ∀ {xs ys : List (Bool × List Cel)}, eqParts xs ys = true → xs = ys
  | [], [], _ => rfl
  | x :: xs, y :: ys, h => by
    simp only [eqParts, Bool.and_eq_true] at h
    rw [eqPart_spec h.1, eqParts_spec h.2]
  | [], _ :: _, h => by cases h
  | _ :: _, [], h => by cases h
theorem eqAV_spec {a b : AV} (h : eqAV a b = true) : a = b := by
  unfold eqAV at h
  split at h
  · rw [eqCel_spec h]
  · rw [eqCels_spec h]
  · rw [eqParts_spec h]
  · cases h
theorem eqEnts_spec : ∀ {xs ys : List Ent}, eqEnts xs ys = true → xs = ys
  | [], [], _ => rfl
  | x :: xs, y :: ys, h => by
    simp only [eqEnts, Bool.and_eq_true] at h
    obtain ⟨h1, h2, h3, h4⟩ := h
    have : x = y := Prod.ext (eqPart_spec h1) (Prod.ext (eqPart_spec h2) (Nat.eq_of_beq_eq_true h3))
    rw [this, eqEnts_spec h4]
  | [], _ :: _, h => by cases h
  | _ :: _, [], h => by cases h
theorem eqCt_spec {a b : Ct} (h : eqCt a b = true) : a = b := by
  unfold eqCt at h
  split at h
  · rw [eqCel_spec h]
  · simp only [Bool.and_eq_true] at h; rw [eqEnts_spec h.1, Nat.eq_of_beq_eq_true h.2]
  · cases h
theorem eqBk_spec : ∀ {xs ys : Bk}, eqBk xs ys = true → xs = ys
  | [], [], _ => rfl
  | none :: r, none :: s, h => by rw [eqBk_spec (show eqBk r s = true from h)]
  | some a :: r, some b :: s, h => by
    simp only [eqBk, Bool.and_eq_true] at h
    rw [eqCt_spec h.1, eqBk_spec h.2]
  | none :: _, some _ :: _, h => by cases h
  | some _ :: _, none :: _, h => by cases h
  | [], _ :: _, h => by cases h
  | none :: _, [], h => by cases h
  | some _ :: _, [], h => by cases h
theorem noneT_spec {α : Type} : ∀ {t : PT α}, noneT t = true → ∀ n, t.get n = none
  | .nil, _, n => rfl
  | .node none l r, h, n => by
    simp only [noneT, Bool.and_eq_true] at h
    cases n with
    | zero => rfl
    | succ n =>
      rw [PT.get_succ]
      split
      · exact noneT_spec h.1 _
      · exact noneT_spec h.2 _
  | .node (some _) _ _, h, _ => by cases h
theorem eqT'_spec : ∀ {t s : PT Bk}, eqT' t s = true → ∀ n, t.get n = s.get n
  | .nil, s, h, n => by rw [noneT_spec (t := s) (by cases s <;> exact h) n]; rfl
  | .node none l r, .nil, h, n => noneT_spec (t := .node none l r) h n
  | .node none l r, .node none l' r', h, n => by
    simp only [eqT', Bool.and_eq_true] at h
    cases n with
    | zero => rfl
    | succ n => rw [PT.get_succ, PT.get_succ, eqT'_spec h.1, eqT'_spec h.2]
  | .node (some k) l r, .node (some k') l' r', h, n => by
    simp only [eqT', Bool.and_eq_true] at h
    cases n with
    | zero => rw [eqBk_spec h.1]; rfl
    | succ n => rw [PT.get_succ, PT.get_succ, eqT'_spec h.2.1, eqT'_spec h.2.2]
  | .node none _ _, .node (some _) _ _, h, _ => by cases h
  | .node (some _) _ _, .node none _ _, h, _ => by cases h
  | .node (some _) _ _, .nil, h, _ => by cases h

/-! ### What is reached -/
noncomputable section
def refsC : Cel → List Nat
  | .lit _ => []
  | .ptr b _ => [b]
  | .sl b _ _ _ => [b]
  | .su b _ _ _ => [b]
  | .sz b _ => [b]
  | .fn _ caps => caps.map (·.1)
  | .mp b => [b]
  | .yd b => [b]
  | .kp b _ _ => [b]
  | .us => []
  | .un _ => []
def refsCs : List Cel → List Nat → List Nat
  | [], acc => acc
  | .lit _ :: r, acc => refsCs r acc
  | x :: r, acc => refsCs r (refsC x ++ acc)
def refsPs : List (Bool × List Cel) → List Nat → List Nat
  | [], acc => acc
  | p :: r, acc => refsPs r (refsCs p.2 acc)
def refsV (v : AV) (acc : List Nat) : List Nat :=
  match v with
  | .one c => refsC c ++ acc
  | .agg xs => refsCs xs acc
  | .tup ps => refsPs ps acc
def refsEs : List Ent → List Nat → List Nat
  | [], acc => acc
  | e :: r, acc => refsEs r (refsCs e.1.2 (refsCs e.2.1.2 acc))
def refsB : Bk → List Nat → List Nat
  | [], acc => acc
  | some (.c (.lit _)) :: r, acc => refsB r acc
  | some (.c x) :: r, acc => refsB r (refsC x ++ acc)
  | some (.map es _) :: r, acc => refsB r (refsEs es acc)
  | some (.iter (some m) _ _ _) :: r, acc => refsB r (m :: acc)
  | _ :: r, acc => refsB r acc
/-- Blocks from n0 on that are reached. -/
def markG (H : HP) (n0 fuel : Nat) : List Nat → PT Unit → PT Unit :=
  Nat.rec (motive := fun _ => List Nat → PT Unit → PT Unit) (fun _ s => s) (fun _ ih todo s =>
    match todo with
    | [] => s
    | b :: r => match Nat.ble n0 b, s.get b with
      | true, none => ih (match H.t.get b with | some k => refsB k r | none => r) (s.put b (some ()))
      | _, _ => ih r s) fuel
/-- What the old blocks from lo on hold. -/
def rootsG (H : HP) (lo k : Nat) (acc : List Nat) : List Nat :=
  Nat.rec (motive := fun _ => Nat → List Nat → List Nat) (fun _ acc => acc) (fun _ ih b acc => ih (Nat.succ b) (match H.t.get b with | some k => refsB k acc | none => acc)) k lo acc
def dropsG (s : PT Unit) (k : Nat) : Nat → HP → HP :=
  Nat.rec (motive := fun _ => Nat → HP → HP) (fun _ H => H) (fun _ ih b H => match s.get b with
    | some _ => ih (Nat.succ b) H
    | none => match H.t.get b with
      | some _ => ih (Nat.succ b) (H.drop b)
      | none => ih (Nat.succ b) H) k
/-- Blocks from n0 on that nothing leads to are out of view. -/
def gcG (n0 : Nat) (o : AV × HP) : AV × HP :=
  (o.1, dropsG (markG o.2 n0 100000 (refsV o.1 (rootsG o.2 o.2.lo (n0 - o.2.lo) [])) .nil) (o.2.n - n0) n0 o.2)
def maxN : List (AV × HP) → Nat → Nat
  | [], m => m
  | o :: r, m => maxN r (match Nat.ble m o.2.n with | true => o.2.n | false => m)
def minLo : List (AV × HP) → Nat → Nat
  | [], m => m
  | o :: r, m => minLo r (minN m o.2.lo)
def setN (N lo : Nat) (o : AV × HP) : AV × HP := (o.1, ⟨o.2.t, match Nat.ble o.2.n N with | true => N | false => o.2.n, minN lo o.2.lo⟩)
def eqO (o o2 : AV × HP) : Bool := eqAV o.1 o2.1 && (eqT' o2.2.t o.2.t && Nat.ble o.2.n o2.2.n)
def mergeG : List (AV × HP) → List (AV × HP) → List (AV × HP)
  | [], acc => acc
  | o :: r, acc => match acc.any (eqO o) with
    | true => mergeG r acc
    | false => mergeG r (o :: acc)
def tidyG (n0 : Nat) (outs : List (AV × HP)) : List (AV × HP) :=
  match outs with
  | [] => []
  | [o] => [o]
  | o :: p :: r => mergeG ((o :: p :: r).map fun x => setN (maxN (o :: p :: r) 0) (minLo (o :: p :: r) n0) (gcG n0 x)) []
end

theorem dropsG_spec {s : PT Unit} : ∀ (k b : Nat) (v : AV) (H : HP), Wk (v, H) (v, dropsG s k b H) ∧ St H (dropsG s k b H)
  | 0, _, v, H => ⟨Wk.refl _, St.refl _⟩
  | k + 1, b, v, H => by
    show Wk (v, H) (v, match s.get b with | some _ => dropsG s k (Nat.succ b) H | none => match H.t.get b with | some _ => dropsG s k (Nat.succ b) (H.drop b) | none => dropsG s k (Nat.succ b) H) ∧
      St H (match s.get b with | some _ => dropsG s k (Nat.succ b) H | none => match H.t.get b with | some _ => dropsG s k (Nat.succ b) (H.drop b) | none => dropsG s k (Nat.succ b) H)
    split
    · exact dropsG_spec k _ v H
    · split
      · obtain ⟨h1, h2⟩ := dropsG_spec k (Nat.succ b) v (H.drop b)
        exact ⟨(Wk.drop v H b).trans h1, (St.drop H b).trans h2⟩
      · exact dropsG_spec k _ v H
theorem gcG_spec (n0 : Nat) (o : AV × HP) : Wk o (gcG n0 o) ∧ St o.2 (gcG n0 o).2 := dropsG_spec _ _ o.1 o.2
theorem setN_spec (N lo : Nat) (o : AV × HP) : Wk o (setN N lo o) ∧ St o.2 (setN N lo o).2 := by
  have hn : o.2.n ≤ (setN N lo o).2.n := by
    show o.2.n ≤ (match Nat.ble o.2.n N with | true => N | false => o.2.n)
    split
    · rename_i h; exact Nat.le_of_ble_eq_true h
    · exact Nat.le_refl _
  exact ⟨Wk.cells hn fun _ _ => rfl, ⟨(minN_le _ _).2, fun _ _ _ => rfl⟩, hn⟩
theorem eqO_spec {o o2 : AV × HP} (h : eqO o o2 = true) : Wk o o2 := by
  simp only [eqO, Bool.and_eq_true] at h
  obtain ⟨h1, h2, h3⟩ := h
  obtain ⟨v, H⟩ := o
  obtain ⟨v', H'⟩ := o2
  have := eqAV_spec h1
  simp only at this
  subst this
  refine Wk.cells (Nat.le_of_ble_eq_true h3) fun b i => ?_
  unfold HP.cell
  rw [eqT'_spec h2 b]
theorem mergeG_spec : ∀ (l acc : List (AV × HP)), (∀ o, (o ∈ l ∨ o ∈ acc) → ∃ o2 ∈ mergeG l acc, Wk o o2) ∧ ∀ o ∈ mergeG l acc, o ∈ l ∨ o ∈ acc
  | [], acc => ⟨fun o ho => ⟨o, ho.resolve_left (by simp), Wk.refl o⟩, fun o ho => .inr ho⟩
  | x :: r, acc => by
    show (∀ o, (o ∈ x :: r ∨ o ∈ acc) → ∃ o2 ∈ (match acc.any (eqO x) with | true => mergeG r acc | false => mergeG r (x :: acc)), Wk o o2) ∧ ∀ o ∈ (match acc.any (eqO x) with | true => mergeG r acc | false => mergeG r (x :: acc)), o ∈ x :: r ∨ o ∈ acc
    split
    · rename_i hany
      obtain ⟨h1, h2⟩ := mergeG_spec r acc
      obtain ⟨y, hy, he⟩ := List.any_eq_true.1 hany
      refine ⟨fun o ho => ?_, fun o ho => (h2 o ho).imp (List.mem_cons_of_mem _) id⟩
      rcases ho with ho | ho
      · rcases List.mem_cons.1 ho with rfl | ho
        · obtain ⟨o2, g1, g2⟩ := h1 y (.inr hy)
          exact ⟨o2, g1, (eqO_spec he).trans g2⟩
        · exact h1 o (.inl ho)
      · exact h1 o (.inr ho)
    · obtain ⟨h1, h2⟩ := mergeG_spec r (x :: acc)
      refine ⟨fun o ho => h1 o ?_, fun o ho => ?_⟩
      · rcases ho with ho | ho
        · rcases List.mem_cons.1 ho with rfl | ho
          · exact .inr (List.mem_cons_self ..)
          · exact .inl ho
        · exact .inr (List.mem_cons_of_mem _ ho)
      · rcases h2 o ho with ho | ho
        · exact .inl (List.mem_cons_of_mem _ ho)
        · rcases List.mem_cons.1 ho with rfl | ho
          · exact .inl (List.mem_cons_self ..)
          · exact .inr ho
theorem tidyG_spec (n0 : Nat) (outs : List (AV × HP)) : (∀ o ∈ outs, ∃ o2 ∈ tidyG n0 outs, Wk o o2) ∧ ∀ o2 ∈ tidyG n0 outs, ∃ o ∈ outs, St o.2 o2.2 := by
  unfold tidyG
  split
  · exact ⟨fun _ h => (by cases h), fun _ h => (by cases h)⟩
  · exact ⟨fun o ho => ⟨o, ho, Wk.refl o⟩, fun o ho => ⟨o, ho, St.refl _⟩⟩
  · rename_i o p r
    generalize o :: p :: r = l
    have key : ∀ x : AV × HP, Wk x (setN (maxN l 0) (minLo l n0) (gcG n0 x)) ∧ St x.2 (setN (maxN l 0) (minLo l n0) (gcG n0 x)).2 := fun x => by
      obtain ⟨g1, g2⟩ := gcG_spec n0 x
      obtain ⟨g3, g4⟩ := setN_spec (maxN l 0) (minLo l n0) (gcG n0 x)
      exact ⟨g1.trans g3, g2.trans g4⟩
    obtain ⟨h1, h2⟩ := mergeG_spec (l.map fun x => setN (maxN l 0) (minLo l n0) (gcG n0 x)) []
    refine ⟨fun x hx => ?_, fun y hy => ?_⟩
    · obtain ⟨o2, g1, g2⟩ := h1 _ (.inl (List.mem_map.2 ⟨x, hx, rfl⟩))
      exact ⟨o2, g1, (key x).1.trans g2⟩
    · rcases h2 y hy with hy | hy
      · obtain ⟨x, hx, rfl⟩ := List.mem_map.1 hy
        exact ⟨x, hx, (key x).2⟩
      · cases hy
end Go.Fv
