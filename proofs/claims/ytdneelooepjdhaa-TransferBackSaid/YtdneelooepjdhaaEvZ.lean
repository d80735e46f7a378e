/-
  An abstract evaluator of the model's code: regions that draw their order: whatever order is drawn, the end is the same. Conditions: none; nothing here speaks of one program.
-/
import Derived.Test.YtdneelooepjdhaaEvY
set_option linter.unusedSectionVars false
namespace Go.Ev

/-! ### Names of blocks below a bound -/
def Cel.below (n : Nat) : Cel → Bool
  | .lit _ => true
  | .ptr b _ => decide (b < n)
  | .sl b _ _ _ => decide (b < n)
def AV.below (n : Nat) : AV → Bool
  | .one c => c.below n
  | .agg xs => xs.all (Cel.below n)
  | .tup vs => vs.all fun p => p.2.all (Cel.below n)
def blkBelow (n : Nat) : Option Blk → Bool
  | none => true
  | some blk => blk.all fun c => match c with | none => true | some c => c.below n
def Eff.below (n : Nat) (e : Eff) : Bool := e.writes.all (fun p => p.2.2.below n) && e.news.all (blkBelow n)
def cutP (ρ : PMap) (n : Nat) : PMap := fun b => if b < n then ρ b else none

theorem cutP_dom (ρ : PMap) (n : Nat) : DomLt (cutP ρ n) n := fun b hb => by unfold cutP; rw [if_neg (by omega)]
theorem cutP_le (ρ : PMap) (n : Nat) : PMap.le (cutP ρ n) ρ := fun b x h => by
  unfold cutP at h
  split at h
  · exact h
  · cases h

theorem Cel.below_mono {n m : Nat} (h : n ≤ m) : ∀ {c : Cel}, c.below n = true → c.below m = true
  | .lit _, _ => rfl
  | .ptr b _, hb => by simp only [Cel.below, decide_eq_true_eq] at hb ⊢; omega
  | .sl b _ _ _, hb => by simp only [Cel.below, decide_eq_true_eq] at hb ⊢; omega

theorem all_below_mono {n m : Nat} (h : n ≤ m) {xs : List Cel} (hx : xs.all (Cel.below n) = true) : xs.all (Cel.below m) = true := by
  rw [List.all_eq_true] at hx ⊢
  exact fun c hc => Cel.below_mono h (hx c hc)

theorem AV.below_mono {n m : Nat} (h : n ≤ m) : ∀ {v : AV}, v.below n = true → v.below m = true
  | .one _, hv => Cel.below_mono h hv
  | .agg _, hv => all_below_mono h hv
  | .tup vs, hv => by
    simp only [AV.below] at hv ⊢
    rw [List.all_eq_true] at hv ⊢
    exact fun p hp => all_below_mono h (hv p hp)

theorem CRel.cut {ρ : PMap} {n : Nat} : ∀ {c : Cel} {u : Value}, CRel ρ c u → c.below n = true → CRel (cutP ρ n) c u
  | .lit _, _, h, _ => h
  | .ptr b _, _, ⟨B, o, h1, h2⟩, hb => ⟨B, o, by simp only [Cel.below, decide_eq_true_eq] at hb; unfold cutP; rw [if_pos hb]; exact h1, h2⟩
  | .sl b _ _ _, _, ⟨⟨B, o, h1, h2⟩, h3⟩, hb => ⟨⟨B, o, by simp only [Cel.below, decide_eq_true_eq] at hb; unfold cutP; rw [if_pos hb]; exact h1, h2⟩, h3⟩

theorem all2_cut {ρ : PMap} {n : Nat} : ∀ {xs : List Cel} {us : List Value}, All2 (CRel ρ) xs us → xs.all (Cel.below n) = true → All2 (CRel (cutP ρ n)) xs us
  | [], [], _, _ => trivial
  | x :: xs, u :: us, ⟨h1, h2⟩, hb => by
    simp only [List.all_cons, Bool.and_eq_true] at hb
    exact ⟨h1.cut hb.1, all2_cut h2 hb.2⟩
  | [], _ :: _, h, _ => h.elim
  | _ :: _, [], h, _ => h.elim

theorem PRel.cut {ρ : PMap} {n : Nat} : ∀ {p : Bool × List Cel} {u : Value}, PRel ρ p u → p.2.all (Cel.below n) = true → PRel (cutP ρ n) p u
  | (true, _), _, ⟨us, h1, h2⟩, hb => ⟨us, h1, all2_cut h2 hb⟩
  | (false, [c]), _, h, hb => by
    have h' : CRel ρ c _ := h
    simp only [List.all_cons, Bool.and_eq_true] at hb
    exact h'.cut hb.1
  | (false, []), _, h, _ => h.elim
  | (false, _ :: _ :: _), _, h, _ => h.elim

theorem VRel.cut {ρ : PMap} {n : Nat} : ∀ {v : AV} {u : Value}, VRel ρ v u → v.below n = true → VRel (cutP ρ n) v u
  | .one _, _, h, hb => CRel.cut h hb
  | .agg _, _, ⟨us, h1, h2⟩, hb => ⟨us, h1, all2_cut h2 hb⟩
  | .tup vs, _, ⟨us, h1, h2⟩, hb => by
    refine ⟨us, h1, ?_⟩
    simp only [AV.below] at hb
    clear h1
    generalize us.toList = l at h2
    induction vs generalizing l with
    | nil => cases l with
      | nil => trivial
      | cons _ _ => exact h2.elim
    | cons p vs ih => cases l with
      | nil => exact h2.elim
      | cons x l =>
        simp only [List.all_cons, Bool.and_eq_true] at hb
        exact ⟨h2.1.cut hb.1, ih hb.2 l h2.2⟩

theorem CRel.below {ρ : PMap} {n : Nat} (hd : DomLt ρ n) : ∀ {c : Cel} {u : Value}, CRel ρ c u → c.below n = true
  | .lit _, _, _ => rfl
  | .ptr b _, _, ⟨B, o, h1, _⟩ => by
    simp only [Cel.below, decide_eq_true_eq]
    rcases Nat.lt_or_ge b n with h | h
    · exact h
    · rw [hd b h] at h1; cases h1
  | .sl b _ _ _, _, ⟨⟨B, o, h1, _⟩, _⟩ => by
    simp only [Cel.below, decide_eq_true_eq]
    rcases Nat.lt_or_ge b n with h | h
    · exact h
    · rw [hd b h] at h1; cases h1

theorem all2_below {ρ : PMap} {n : Nat} (hd : DomLt ρ n) : ∀ {xs : List Cel} {us : List Value}, All2 (CRel ρ) xs us → xs.all (Cel.below n) = true
  | [], [], _ => rfl
  | x :: xs, u :: us, ⟨h1, h2⟩ => by simp only [List.all_cons, Bool.and_eq_true]; exact ⟨h1.below hd, all2_below hd h2⟩
  | [], _ :: _, h => h.elim
  | _ :: _, [], h => h.elim

theorem VRel.below {ρ : PMap} {n : Nat} (hd : DomLt ρ n) : ∀ {v : AV} {u : Value}, VRel ρ v u → v.below n = true
  | .one _, _, h => CRel.below hd h
  | .agg _, _, ⟨_, _, h2⟩ => all2_below hd h2
  | .tup vs, _, ⟨us, _, h2⟩ => by
    simp only [AV.below]
    generalize us.toList = l at h2
    induction vs generalizing l with
    | nil => rfl
    | cons p vs ih => cases l with
      | nil => exact h2.elim
      | cons x l =>
        simp only [List.all_cons, Bool.and_eq_true]
        refine ⟨?_, ih l h2.2⟩
        have hp := h2.1
        match p, hp with
        | (true, xs), ⟨_, _, h⟩ => exact all2_below hd h
        | (false, [c]), h => have h' : CRel ρ c x := h; simp [h'.below hd]

/-- What is known of a heap names blocks below n alone. -/
def HBelow (H : Heap) (n : Nat) : Prop := ∀ (b : Nat) (blk : Blk) (i : Nat) (c : Cel), H[b]? = some (some blk) → blk[i]? = some (some c) → c.below n = true

theorem HeapRel.below {ρ : PMap} {H : Heap} {w : World} {n : Nat} (h : HeapRel ρ H w) (hd : DomLt ρ n) : HBelow H n := fun b blk i c hb hc => by
  obtain ⟨B, o, _, _, hrel⟩ := h.blk b blk hb
  obtain ⟨_, u, _, hcu⟩ := hrel i (List.getElem?_eq_some_iff.1 hc).1
  exact (hcu c hc).below hd

theorem HBelow.mono {H : Heap} {n m : Nat} (h : HBelow H n) (hnm : n ≤ m) : HBelow H m := fun b blk i c hb hc => Cel.below_mono hnm (h b blk i c hb hc)

theorem HBelow.setCel {H : Heap} {n : Nat} (h : HBelow H n) (b1 i1 : Nat) (c1 : Option Cel) (hc1 : ∀ c, c1 = some c → c.below n = true) : HBelow (setCel H b1 i1 c1) n := fun b blk i c hb hc => by
  obtain ⟨k0, h0, he⟩ := setCel_some hb
  split at he
  · subst he
    rcases set_known hc with ⟨_, hcd, _⟩ | ⟨_, hk⟩
    · exact hc1 c hcd
    · exact h b k0 i c h0 hk
  · subst he
    exact h b _ i c h0 hc

theorem HBelow.setAll {n : Nat} : ∀ (ws : List (Nat × Nat × Cel)) {H : Heap}, HBelow H n → (∀ p ∈ ws, p.2.2.below n = true) → HBelow (setAll H ws) n
  | [], _, h, _ => h
  | (b, i, c) :: ws, _, h, hw => HBelow.setAll ws (h.setCel b i (some c) fun c' hc => by cases hc; exact hw (b, i, c) (List.mem_cons_self ..)) fun p hp => hw p (List.mem_cons_of_mem _ hp)
theorem HBelow.poison {n : Nat} : ∀ (l : Log) {H : Heap}, HBelow H n → HBelow (poison H l) n
  | [], _, h => h
  | (b, i) :: l, _, h => HBelow.poison l (h.setCel b i none fun c hc => by cases hc)
theorem HBelow.append {H N : Heap} {n : Nat} (h : HBelow H n) (hN : N.all (blkBelow n) = true) : HBelow (H ++ N) n := fun b blk i c hb hc => by
  rcases Nat.lt_or_ge b H.length with hlt | hge
  · rw [List.getElem?_append_left hlt] at hb; exact h b blk i c hb hc
  · rw [List.getElem?_append_right hge] at hb
    have := List.all_eq_true.1 hN _ (List.mem_of_getElem? hb)
    simp only [blkBelow] at this
    exact List.all_eq_true.1 this _ (List.mem_of_getElem? hc)

theorem deads_below (e : Eff) (n : Nat) : (deads e).all (blkBelow n) = true := by
  rw [List.all_eq_true]
  intro x hx
  simp only [deads, List.mem_map] at hx
  obtain ⟨_, _, rfl⟩ := hx
  rfl

theorem HBelow.stepBy {H : Heap} {n : Nat} {e : Eff} (h : HBelow H n) (he : e.below n = true) (m : Mo) : HBelow (stepBy m H e) n := by
  simp only [Eff.below, Bool.and_eq_true, List.all_eq_true] at he
  cases m
  · exact (HBelow.setAll e.writes h he.1).append (List.all_eq_true.2 he.2)
  · exact h.append (deads_below e n)
  · exact (HBelow.poison _ h).append (deads_below e n)

theorem HBelow.heapBy {n : Nat} {m : Nat → Mo} : ∀ (es : List Eff) (k : Nat) {H : Heap}, HBelow H n → (∀ e ∈ es, e.below n = true) → HBelow (heapBy m k es H) n
  | [], _, _, h, _ => h
  | e :: es, k, H, h, he => by
    rw [heapBy_cons]
    exact HBelow.heapBy es (k + 1) (h.stepBy (he e (List.mem_cons_self ..)) _) fun f hf => he f (List.mem_cons_of_mem _ hf)

theorem HeapRel.cut {ρ : PMap} {H : Heap} {w : World} {n : Nat} (h : HeapRel ρ H w) (hb : HBelow H n) (hl : H.length ≤ n) : HeapRel (cutP ρ n) H w := by
  have hlt : ∀ (b : Nat) (blk : Blk), H[b]? = some (some blk) → b < n := fun b blk hbb => Nat.lt_of_lt_of_le (List.getElem?_eq_some_iff.1 hbb).1 hl
  refine ⟨fun b blk hbb => ?_, fun b b' blk blk' B o o' h1 h2 h3 h4 => h.inj b b' blk blk' B o o' h1 h2 (cutP_le _ _ _ _ h3) (cutP_le _ _ _ _ h4)⟩
  obtain ⟨B, o, hr, hB, hrel⟩ := h.blk b blk hbb
  refine ⟨B, o, by unfold cutP; rw [if_pos (hlt b blk hbb)]; exact hr, hB, fun i hi => ?_⟩
  obtain ⟨hf, u, hu, hc⟩ := hrel i hi
  exact ⟨hf, u, hu, fun c hci => (hc c hci).cut (hb b blk i c hbb hci)⟩

/-- Cells that somebody unordered with k may write. -/
def others (B : List Nat) (W : List (Nat × Nat × Nat)) (k : Nat) : Log :=
  W.filterMap fun p => if p.1 ≠ k ∧ (B.getD k 0).testBit p.1 = false ∧ (B.getD p.1 0).testBit k = false then some (p.2.1, p.2.2) else none

def viewA (B : List Nat) (W : List (Nat × Nat × Nat)) (H0 : Heap) (k : Nat) (acc : List Eff) : Heap :=
  poison (heapBy (fun j => if (B.getD k 0).testBit j then .ap else .po) 0 acc H0) (others B W k)

def known (H : Heap) (b i : Nat) : Bool :=
  match H[b]? with
  | some (some blk) => match blk[i]? with
    | some (some _) => true
    | _ => false
  | _ => false

noncomputable def drawStep (P : Program) [Plain P] (ora : Ora) (ops : List Oper) (B : List Nat) (W : List (Nat × Nat × Nat)) (H0 : Heap) (k : Nat) (o : Oper) (ts : List AV) (acc : List Eff) : Option (AV × Eff) :=
  match wantA ops ts o.guard with
  | some true =>
    match opA P ora ts (viewA B W H0 k acc) o.op with
    | some (v, e) => if (e.writes.all fun p => W.contains (k, p.1, p.2.1) && known (viewA B W H0 k acc) p.1 p.2.1) && (v.below (H0.length + newsLen acc + e.news.length) && e.below (H0.length + newsLen acc + e.news.length)) then some (v, e) else none
    | none => none
  | some false => some (undefA, {})
  | none => none

noncomputable def drawGo (P : Program) [Plain P] (ora : Ora) (ops : List Oper) (B : List Nat) (W : List (Nat × Nat × Nat)) (H0 : Heap) : List Oper → Nat → List AV → List Eff → Option (List AV × List Eff)
  | [], _, _, _ => some ([], [])
  | o :: rest, k, ts, acc =>
    match drawStep P ora ops B W H0 k o ts acc with
    | some (v, e) =>
      match drawGo P ora ops B W H0 rest (k + 1) (putA ts o.dst v) (acc ++ [e]) with
      | some (vs, es) => some (v :: vs, e :: es)
      | none => none
    | none => none

def putAll : List Oper → List AV → List AV → List AV
  | o :: os, v :: vs, ts => putAll os vs (putA ts o.dst v)
  | _, _, ts => ts

theorem putAll_eq : ∀ (os : List Oper) (vs : List AV) (k : Nat) (ts : List AV), putAll os vs ts = tsBy (fun _ => true) k os vs ts
  | [], _, _, _ => by simp [putAll, tsBy]
  | _ :: _, [], _, _ => by simp [putAll, tsBy]
  | o :: os, v :: vs, k, ts => by simp only [putAll, tsBy, if_true]; exact putAll_eq os vs (k + 1) _

/-- A region in whatever order; W: who may write what, number by number. -/
noncomputable def drawA (P : Program) [Plain P] (ora : Ora) (n0 : Nat) (ops : List Oper) (W : List (Nat × Nat × Nat)) (ts : List AV) (H : Heap) (log : Log) : Option (List AV × Heap × Log) :=
  match drawGo P ora ops (befs ops) W H ops 0 ts [] with
  | some (vs, es) => some (putAll ops vs ts, heapBy (fun _ => .ap) 0 es H, es.flatMap (olog n0) ++ log)
  | none => none

/-! ### The run, number by number -/
theorem drawGo_spec {P : Program} [Plain P] {ora : Ora} {ops : List Oper} {B : List Nat} {W : List (Nat × Nat × Nat)} {H0 : Heap} : ∀ (rest : List Oper) (k : Nat) (ts : List AV) (acc : List Eff) (vs : List AV) (es : List Eff),
    drawGo P ora ops B W H0 rest k ts acc = some (vs, es) → vs.length = rest.length ∧ es.length = rest.length ∧
      ∀ (i : Nat) (o : Oper), rest[i]? = some o → ∃ v e, vs[i]? = some v ∧ es[i]? = some e ∧
        drawStep P ora ops B W H0 (k + i) o (tsBy (fun j => decide (j < k + i)) k rest vs ts) (acc ++ es.take i) = some (v, e)
  | [], _, _, _, vs, es, h => by cases h; exact ⟨rfl, rfl, fun i o h => by simp at h⟩
  | o :: rest, k, ts, acc, vs, es, h => by
    simp only [drawGo] at h
    cases hs : drawStep P ora ops B W H0 k o ts acc with
    | none => rw [hs] at h; cases h
    | some p =>
      obtain ⟨v, e⟩ := p
      rw [hs] at h
      simp only at h
      cases hr : drawGo P ora ops B W H0 rest (k + 1) (putA ts o.dst v) (acc ++ [e]) with
      | none => rw [hr] at h; cases h
      | some q =>
        obtain ⟨vs', es'⟩ := q
        rw [hr] at h
        cases h
        obtain ⟨l1, l2, hi⟩ := drawGo_spec rest (k + 1) _ _ _ _ hr
        refine ⟨by simp [l1], by simp [l2], fun i o' ho => ?_⟩
        cases i with
        | zero =>
          simp only [List.getElem?_cons_zero, Option.some.injEq] at ho
          subst ho
          refine ⟨v, e, by simp, by simp, ?_⟩
          have : tsBy (fun j => decide (j < k + 0)) k (o :: rest) (v :: vs') ts = ts := by
            have none : ∀ (os : List Oper) (vs : List AV) (k' : Nat) (ts : List AV), k ≤ k' → tsBy (fun j => decide (j < k + 0)) k' os vs ts = ts := by
              intro os
              induction os with
              | nil => intros; simp [tsBy]
              | cons o os ih =>
                intro vs k' ts hk
                cases vs with
                | nil => simp [tsBy]
                | cons v vs =>
                  simp only [tsBy]
                  rw [if_neg (by simp; omega), ih vs (k' + 1) ts (by omega)]
            exact none _ _ _ _ (Nat.le_refl _)
          rw [this]
          simpa using hs
        | succ i =>
          simp only [List.getElem?_cons_succ] at ho
          obtain ⟨v', e', h1, h2, h3⟩ := hi i o' ho
          refine ⟨v', e', by simpa using h1, by simpa using h2, ?_⟩
          have ht : tsBy (fun j => decide (j < k + (i + 1))) k (o :: rest) (v :: vs') ts = tsBy (fun j => decide (j < k + 1 + i)) (k + 1) rest vs' (putA ts o.dst v) := by
            simp only [tsBy]
            rw [if_pos (by simp)]
            rw [show k + (i + 1) = k + 1 + i by omega]
          rw [ht, show k + (i + 1) = k + 1 + i by omega]
          have hacc : acc ++ List.take (i + 1) (e :: es') = acc ++ [e] ++ List.take i es' := by simp
          rw [hacc]
          exact h3

/-! ### The invariant -/
section
variable {P : Program} [Plain P] {ora : Ora} {ops : List Oper} {W : List (Nat × Nat × Nat)} {ts0 : List AV} {H0 : Heap} {vs : List AV} {es : List Eff} {ρ0 : PMap} {w0 : World} {log : Log}

def dOf (listed : Array Bool) : Nat → Bool := fun j => listed.getD j false
def mOf (D : Nat → Bool) : Nat → Mo := fun j => if D j then .ap else .sk
/-- Where number k's new blocks lie. -/
def offOf (H0 : Heap) (es : List Eff) (k : Nat) : Nat := H0.length + newsLen (es.take k)

structure Inv (n0 : Nat) (ops : List Oper) (ts0 : List AV) (H0 : Heap) (vs : List AV) (es : List Eff) (ρ0 : PMap) (w0 : World) (log : Log) (listed : Array Bool) (ρ : PMap) (a : Act) (w : World) : Prop where
  sz : listed.size = ops.length
  clo : ∀ k i, dOf listed k = true → ((befs ops).getD k 0).testBit i = true → dOf listed i = true
  fr : All2 (VRel ρ) (tsBy (dOf listed) 0 ops vs ts0) a.tmps.toList
  df : a.defers = []
  hp : HeapRel ρ (heapBy (mOf (dOf listed)) 0 es H0) w
  dom : ∀ b, ρ b ≠ none → b < H0.length ∨ ∃ k e, dOf listed k = true ∧ es[k]? = some e ∧ offOf H0 es k ≤ b ∧ b < offOf H0 es k + e.news.length
  ext : PMap.le ρ0 ρ
  loc : ∀ b B o, ρ b = some (B, o) → ρ0 b = some (B, o) ∨ (ρ0 b = none ∧ w0.heap.size ≤ B ∧ n0 ≤ b)
  grow : n0 ≤ H0.length
  dom0 : DomLt ρ0 n0
  os : (w.os, w.frozen?) = (w0.os, w0.frozen?)
  tape : w.tape = w0.tape
  output : w.output = w0.output
  size : w0.heap.size ≤ w.heap.size
  old : ∀ k, k < w0.heap.size → SameBut w0 w k fun j => ∃ b i o, (b, i) ∈ log ∧ ρ0 b = some (k, o) ∧ j = o + i

theorem newsLen_append : ∀ (xs ys : List Eff), newsLen (xs ++ ys) = newsLen xs + newsLen ys
  | [], ys => by simp [newsLen]
  | x :: xs, ys => by simp only [List.cons_append, newsLen]; rw [newsLen_append]; omega

theorem offOf_succ {k : Nat} {e : Eff} (h : es[k]? = some e) : offOf H0 es (k + 1) = offOf H0 es k + e.news.length := by
  unfold offOf
  rw [List.take_add_one, h, newsLen_append]
  simp [newsLen]
  omega

theorem offOf_mono {i j : Nat} (h : i ≤ j) : offOf H0 es i ≤ offOf H0 es j := by
  unfold offOf
  obtain ⟨d, rfl⟩ := Nat.exists_eq_add_of_le h
  have : es.take (i + d) = es.take i ++ (es.drop i).take d := by rw [List.take_add]
  rw [this, newsLen_append]
  omega

theorem offOf_disjoint {i j b : Nat} {e f : Eff} (hi : es[i]? = some e) (hj : es[j]? = some f) (h1 : offOf H0 es i ≤ b) (h2 : b < offOf H0 es i + e.news.length) (h3 : offOf H0 es j ≤ b) (h4 : b < offOf H0 es j + f.news.length) : i = j := by
  rcases Nat.lt_trichotomy i j with h | h | h
  · have := offOf_mono (H0 := H0) (es := es) (show i + 1 ≤ j by omega)
    rw [offOf_succ hi] at this
    omega
  · exact h
  · have := offOf_mono (H0 := H0) (es := es) (show j + 1 ≤ i by omega)
    rw [offOf_succ hj] at this
    omega

theorem length_viewA (B : List Nat) (k : Nat) : (viewA B W H0 k (es.take k)).length = offOf H0 es k := by
  unfold viewA offOf
  rw [length_poison, length_heapBy]

theorem dOf_set (listed : Array Bool) {j : Nat} (hj : j < listed.size) : dOf (listed.setIfInBounds j true) = fun i => if i = j then true else dOf listed i := by
  funext i
  unfold dOf
  by_cases h : i = j
  · subst h
    simp [hj]
  · rw [if_neg h, getD_set_ne false (Ne.symm h)]

/-- What number j sees is less than what there is. -/
theorem view_le {listed : Array Bool} (hlen : es.length = ops.length) (hclo : ∀ k i, dOf listed k = true → ((befs ops).getD k 0).testBit i = true → dOf listed i = true)
    (hW : ∀ (k : Nat) (e : Eff), es[k]? = some e → ∀ b i c, (b, i, c) ∈ e.writes → (k, b, i) ∈ W) {j : Nat} (hjl : j < ops.length) (hjD : dOf listed j = false)
    (hanc : ∀ i, ((befs ops).getD j 0).testBit i = true → dOf listed i = true) :
    HLe (viewA (befs ops) W H0 j (es.take j)) (heapBy (mOf (dOf listed)) 0 es H0) := by
  have hsplit : es = es.take j ++ es.drop j := (List.take_append_drop j es).symm
  have hlt : (es.take j).length = j := by simp; omega
  conv => rhs; rw [hsplit]
  rw [heapBy_append, hlt, Nat.zero_add]
  have hpoison : ∀ (l : Log) (H : Heap) (b i : Nat), ((b, i) ∈ l ∨ Unk H b i) → Unk (poison H l) b i := by
    intro l
    induction l with
    | nil =>
      intro H b i h
      rcases h with h | h
      · cases h
      · exact h
    | cons p l ih =>
      obtain ⟨b1, i1⟩ := p
      intro H b i h
      simp only [poison]
      refine ih _ b i ?_
      by_cases hbi : b = b1 ∧ i = i1
      · obtain ⟨rfl, rfl⟩ := hbi
        refine .inr fun blk c hb hc => ?_
        obtain ⟨k0, _, he⟩ := setCel_some hb
        simp only [if_true] at he
        subst he
        rcases set_known hc with ⟨_, hcd, _⟩ | ⟨h, _⟩
        · cases hcd
        · exact h rfl
      · rcases h with h | h
        · rcases List.mem_cons.1 h with h | h
          · simp only [Prod.mk.injEq] at h; exact absurd h hbi
          · exact .inl h
        · refine .inr fun blk c hb hc => ?_
          obtain ⟨k0, h0, he⟩ := setCel_some hb
          split at he
          · rename_i hbb
            subst he
            rcases set_known hc with ⟨h1, _, _⟩ | ⟨_, hk⟩
            · exact hbi ⟨hbb, h1.symm⟩
            · exact h k0 c h0 hk
          · subst he
            exact h _ c h0 hc
  refine HLe.heapBy_right (m := mOf (dOf listed)) (es.drop j) j ?_ (fun i _ _ => by unfold mOf; split <;> simp) fun i e he hap b i' c hm => ?_
  · unfold viewA
    refine HLe.poison_left _ (HLe.heapBy (es.take j) 0 (HLe.refl H0) rfl fun i _ _ => ?_)
    by_cases hb : ((befs ops).getD j 0).testBit i = true
    · refine .inl ⟨by rw [if_pos hb], ?_⟩
      unfold mOf
      rw [if_pos (hanc i hb)]
    · refine .inr ⟨by rw [if_neg hb], ?_⟩
      unfold mOf
      split <;> simp
  · have hD : dOf listed (j + i) = true := by
      unfold mOf at hap
      split at hap
      · rename_i h; exact h
      · cases hap
    have he' : es[j + i]? = some e := by rw [← he, List.getElem?_drop]
    unfold viewA
    refine hpoison _ _ _ _ (.inl ?_)
    unfold others
    rw [List.mem_filterMap]
    refine ⟨(j + i, b, i'), hW _ _ he' _ _ _ hm, ?_⟩
    have h1 : j + i ≠ j := fun h => by rw [h, hjD] at hD; cases hD
    have h2 : ((befs ops).getD j 0).testBit (j + i) = false := by
      cases h : ((befs ops).getD j 0).testBit (j + i) with
      | false => rfl
      | true => have := befs_lt _ _ h; omega
    have h3 : ((befs ops).getD (j + i) 0).testBit j = false := by
      cases h : ((befs ops).getD (j + i) 0).testBit j with
      | false => rfl
      | true => have := hclo _ _ hD h; rw [hjD] at this; cases this
    simp only [ne_eq, h1, not_false_eq_true, h2, h3, and_self, if_true]
end
end Go.Ev
