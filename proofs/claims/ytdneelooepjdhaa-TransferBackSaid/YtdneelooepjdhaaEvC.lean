/-
  An abstract evaluator of the model's code: what one operation does here, and that it does so in the model. Conditions: none; nothing here speaks of one program.
-/
import Derived.Test.YtdneelooepjdhaaEvB
set_option linter.unusedSectionVars false
namespace Go.Ev

/-- What is said of the value that an operation leaves and of the world behind it. -/
def Post (ρ : PMap) (n : Nat) (v : AV) (e : Eff) (w : World) : Value → World → Prop := fun u w' => ∃ ρ', VRel ρ' v u ∧ WEff ρ ρ' n e w w'

/-- No block from n on is in view. -/
def DomLt (ρ : PMap) (n : Nat) : Prop := ∀ b, n ≤ b → ρ b = none

def GivesR (P : Program) (Q : Value → World → Prop) : Result Next → Prop
  | .ok (.value u) w' => Q u w'
  | .ok .skip w' => Q undef w'
  | .ok (.enter f args) w' => Calls P f args w' fun r w'' => ∃ u, r = .returned u ∧ Q u w''
  | _ => False

theorem GivesR.mono {P : Program} [Plain P] {Q Q' : Value → World → Prop} (hq : ∀ u w, Q u w → Q' u w) {r : Result Next} (h : GivesR P Q r) : GivesR P Q' r := by
  unfold GivesR at *
  split at h
  · exact hq _ _ h
  · exact hq _ _ h
  · exact Calls.mono h fun e w' ⟨u, hu, hh⟩ => ⟨u, hu, hq _ _ hh⟩
  · exact h.elim

/-- The answers to calls: what each function does, as far as it is known. -/
abbrev Ora := FuncId → List AV → Heap → Option (AV × Eff)

def OraOK (P : Program) (ora : Ora) : Prop :=
  ∀ (f : FuncId) (args : List AV) (H : Heap) (v : AV) (e : Eff), ora f args H = some (v, e) → e.wf H ∧
    ∀ (ρ : PMap) (w : World) (us : Array Value), All2 (VRel ρ) args us.toList → HeapRel ρ H w → DomLt ρ H.length → GivesR P (Post ρ H.length v e w) ((callFunc f us).run P w)

def wrow (b : Nat) : Nat → List Cel → List (Nat × Nat × Cel)
  | _, [] => []
  | off, c :: cs => (b, off, c) :: wrow b (off + 1) cs

theorem mem_wrow {b : Nat} : ∀ {cs : List Cel} {off b' i : Nat} {c : Cel}, (b', i, c) ∈ wrow b off cs ↔ b' = b ∧ off ≤ i ∧ cs[i - off]? = some c
  | [], off, b', i, c => by simp [wrow]
  | x :: cs, off, b', i, c => by
    simp only [wrow, List.mem_cons, Prod.mk.injEq, mem_wrow (cs := cs) (off := off + 1)]
    constructor
    · rintro (⟨rfl, rfl, rfl⟩ | ⟨rfl, h1, h2⟩)
      · simp
      · refine ⟨rfl, by omega, ?_⟩
        rw [show i - off = (i - (off + 1)) + 1 by omega, List.getElem?_cons_succ]
        exact h2
    · rintro ⟨rfl, h1, h2⟩
      by_cases hi : i = off
      · subst hi
        simp only [Nat.sub_self, List.getElem?_cons_zero, Option.some.injEq] at h2
        exact .inl ⟨rfl, rfl, h2.symm⟩
      · refine .inr ⟨rfl, by omega, ?_⟩
        rw [show i - off = (i - (off + 1)) + 1 by omega, List.getElem?_cons_succ] at h2
        exact h2

def undefA : AV := .tup []
theorem undef_rel (ρ : PMap) : VRel ρ undefA undef := ⟨#[], rfl, trivial⟩

def listE (E : Operand → Option AV) (xs : List Operand) : Option (List AV) := allSome (xs.map E)
def partsE (E : Operand → Option AV) : List (Nat × Operand) → Option (List (Nat × AV))
  | [] => some []
  | (i, x) :: ps => match E x, partsE E ps with
    | some v, some r => some ((i, v) :: r)
    | _, _ => none
abbrev listA (ts : List AV) (xs : List Operand) : Option (List AV) := listE (evA ts) xs
abbrev partsA (ts : List AV) (ps : List (Nat × Operand)) : Option (List (Nat × AV)) := partsE (evA ts) ps

noncomputable def storeA (H : Heap) (b off : Nat) (cs : List Cel) : Option (AV × Eff) :=
  match getN b H with
  | some (some blk) => if off + cs.length ≤ blk.length then some (undefA, { writes := wrow b off cs }) else none
  | _ => none

def constA (v : Value) : AV × Eff := (.one (.lit v), {})

noncomputable def lenA (P : Program) [Plain P] (t : TypeId) (x : AV) : Option Int :=
  match undT P t, x with
  | some .string, .one (.lit (.string s)) => some s.size
  | some (.array n _), _ => if n ≤ 9223372036854775807 then some n else none
  | some (.slice _), .one (.sl _ _ n _) => some n
  | some (.slice _), .one (.lit (.slice _ n _)) => some n
  | _, _ => none

noncomputable def indexAddrA (P : Program) [Plain P] (t : TypeId) (x i : AV) : Option AV :=
  match undT P t, x, i with
  | some (.slice e), .one (.sl b off len _), .one (.lit (.int _ n)) =>
    match szA P e with
    | some (_, s) => if 0 ≤ n ∧ n < len then some (.one (.ptr b (off + n.toNat * s))) else none
    | none => none
  | some (.array len e), .one (.ptr b off), .one (.lit (.int _ n)) =>
    match szA P e with
    | some (_, s) => if 0 ≤ n ∧ n < len then some (.one (.ptr b (off + n.toNat * s))) else none
    | none => none
  | _, _, _ => none

noncomputable def fieldA (P : Program) [Plain P] (t : TypeId) (f : Nat) : Option Field :=
  match undT P t with
  | some (.struct fs) => fs[f]?
  | _ => none

noncomputable def opE (P : Program) [Plain P] (ora : Ora) (E : Operand → Option AV) (H : Heap) : Op → Option (AV × Eff)
  | .move x | .assign x => (E x).map fun v => (v, {})
  | .pick c a b =>
    match E c with
    | some (.one (.lit (.bool t))) => (if t then E a else E b).map fun v => (v, {})
    | _ => none
  | .alloc t =>
    match infoT P t with
    | some i => match i.zero with
      | some z => (lits z.cells.toList).map fun cs => (.one (.ptr H.length 0), { news := [some (cs.map some)] })
      | none => none
    | none => none
  | .box _ x => ((E x).bind AV.cels).map fun cs => (.one (.ptr H.length 0), { news := [some (cs.map some)] })
  | .build t ps => ((partsE E ps.toList).bind (buildA P t)).map fun v => (v, {})
  | .buildSlice t len ps => ((partsE E ps.toList).bind (buildSliceA P t len)).map fun cs => (.one (.sl H.length 0 len len), { news := [some (cs.map some)] })
  | .load t x =>
    match E x, szA P t with
    | some (.one (.ptr b off)), some (ag, n) => ((readC H b off (wid ag n)).bind (mkA ag)).map fun v => (v, {})
    | _, _ => none
  | .store t x v =>
    match E x, (E v).bind AV.cels, szA P t with
    | some (.one (.ptr b off)), some cs, some (_, n) => if cs.length = n then storeA H b off cs else none
    | _, _, _ => none
  | .nilCheck x =>
    match E x with
    | some (.one (.ptr b off)) => some (.one (.ptr b off), {})
    | _ => none
  | .binOp op t x y _ =>
    match E x, E y with
    | some a, some b => (binA P op t a b).map constA
    | _, _ => none
  | .unOp op _ x =>
    match op, E x with
    | .not, some (.one (.lit (.bool b))) => some (constA (.bool !b))
    | .neg, some (.one (.lit (.int k n))) => some (constA (.int k (k.wrap (0 - n))))
    | _, _ => none
  | .convert src dst x =>
    match undT P src, undT P dst, E x with
    | some _, some (.int k), some (.one (.lit (.int _ n))) => some (constA (.int k (k.wrap n)))
    | _, _, _ => none
  | .fieldAddr t x f =>
    match fieldA P t f, E x with
    | some fl, some (.one (.ptr b off)) => match szA P fl.type with
      | some (_, n) => if n = 0 then none else some (.one (.ptr b (off + fl.offset)), {})
      | none => none
    | _, _ => none
  | .field t x f =>
    match fieldA P t f, E x with
    | some fl, some (.agg xs) => match szA P fl.type with
      | some (ag, n) => if fl.offset + wid ag n ≤ xs.length then (mkA ag (cut xs fl.offset (wid ag n))).map fun v => (v, {}) else none
      | none => none
    | _, _ => none
  | .indexAddr t x i =>
    match E x, E i with
    | some a, some b => (indexAddrA P t a b).map fun v => (v, {})
    | _, _ => none
  | .index t x i =>
    match undT P t, E x, E i with
    | some .string, some (.one (.lit (.string s))), some (.one (.lit (.int _ n))) =>
      if 0 ≤ n then match s[n.toNat]? with
        | some b => some (constA (.int .u8 b.toNat))
        | none => none
      else none
    | _, _, _ => none
  | .extract x i =>
    match E x with
    | some (.tup vs) => match vs[i]? with
      | some (true, xs) => some (.agg xs, {})
      | some (false, [c]) => some (.one c, {})
      | _ => none
    | _ => none
  | .call { callee := .value f, args, argTypes := _ } =>
    match E f, listE E args.toList with
    | some (.one (.lit (.func (.func g) a b))), some vs => if a.size = 0 ∧ b.size = 0 then ora g vs H else none
    | _, _ => none
  | .call { callee := .builtin .len, args, argTypes } =>
    match listE E args.toList, argTypes.toList with
    | some [x], t :: _ => (lenA P t x).map fun n => constA (.int .i64 n)
    | _, _ => none
  | _ => none

noncomputable def opA (P : Program) [Plain P] (ora : Ora) (ts : List AV) (H : Heap) (op : Op) : Option (AV × Eff) := opE P ora (evA ts) H op

/-! ### Each does so in the model -/
section
variable {P : Program} [Plain P] {ora : Ora} {ts : List AV} {H : Heap} {w : World} {ρ : PMap} {ev : Operand → Value}

/-- The frame stands for the abstract one at the operands named. -/
def OpsRel (ρ : PMap) (ts : List AV) (ev : Operand → Value) (xs : Array Operand) : Prop := ∀ x ∈ xs, ∀ v, evA ts x = some v → VRel ρ v (ev x)

theorem listA_rel : ∀ {xs : List Operand} {vs : List AV}, (∀ x ∈ xs, ∀ v, evA ts x = some v → VRel ρ v (ev x)) → listA ts xs = some vs → All2 (VRel ρ) vs (xs.map ev)
  | [], vs, _, h => by cases h; trivial
  | x :: xs, vs, hr, h => by
    unfold listA listE at h
    simp only [List.map_cons] at h
    cases hx : evA ts x with
    | none => rw [hx] at h; cases h
    | some v =>
      rw [hx] at h
      simp only [allSome] at h
      cases hs : allSome (xs.map (evA ts)) with
      | none => rw [hs] at h; cases h
      | some r =>
        rw [hs] at h
        cases h
        exact ⟨hr x (by simp) v hx, listA_rel (fun y hy => hr y (List.mem_cons_of_mem _ hy)) hs⟩

theorem partsA_rel : ∀ {xs : List (Nat × Operand)} {vs : List (Nat × AV)}, (∀ p ∈ xs, ∀ v, evA ts p.2 = some v → VRel ρ v (ev p.2)) → partsA ts xs = some vs → PartsRel ρ vs (xs.map fun p => (p.1, ev p.2))
  | [], vs, _, h => by cases h; trivial
  | (i, x) :: xs, vs, hr, h => by
    simp only [partsA, partsE] at h
    cases hx : evA ts x with
    | none => rw [hx] at h; cases h
    | some v =>
      cases hs : partsE (evA ts) xs with
      | none => rw [hx, hs] at h; cases h
      | some r =>
        rw [hx, hs] at h
        cases h
        exact ⟨⟨rfl, hr (i, x) (by simp) v hx⟩, partsA_rel (fun y hy => hr y (List.mem_cons_of_mem _ hy)) hs⟩

theorem post_same {n : Nat} {v : AV} {u : Value} (h : VRel ρ v u) : Post ρ n v {} w u w := ⟨ρ, h, WEff.refl ρ n w⟩

theorem post_alloc {n : Nat} {cs : List Cel} {us : Array Value} {t : TypeId} (hcs : All2 (CRel ρ) cs us.toList) (hfr : ρ n = none) {v : AV} {u : Value}
    (hv : ∀ ρ' : PMap, ρ' n = some (w.heap.size, 0) → VRel ρ' v u) : Post ρ n v { news := [some (cs.map some)] } w u (w.alloc (.cells us t)) :=
  ⟨_, hv _ (by simp), WEff.alloc hcs hfr⟩

theorem post_store {n b off : Nat} {cs : List Cel} {us : List Value} {v : AV} {e : Eff} (hH : HeapRel ρ H w) (h : storeA H b off cs = some (v, e)) (hcs : All2 (CRel ρ) cs us) :
    v = undefA ∧ e.wf H ∧ ∃ B o, ρ b = some (B, o) ∧ (storeCells ⟨B, o + off, none⟩ us 0).run P w = .ok () (setRow w B (o + off) us) ∧ Post ρ n v e w undef (setRow w B (o + off) us) := by
  unfold storeA at h
  rw [getN_eq] at h
  split at h
  · rename_i blk hb
    split at h
    · rename_i hle
      cases h
      obtain ⟨B, o, hr, hB, hrel⟩ := hH.blk b blk hb
      have hl := hcs.length
      have hcell : ∀ j, j < us.length → (∃ u, w.cell? ⟨B, o + off + j, none⟩ = some u) ∧ w.frozen? ⟨B, o + off + j, none⟩ = false := by
        intro j hj
        obtain ⟨hf, u, hu, _⟩ := hrel (off + j) (by omega)
        rw [← Nat.add_assoc] at hf hu
        exact ⟨⟨u, hu⟩, hf⟩
      have hone : ∀ u ∈ us, u.oneCell' = true := by
        intro u hu
        obtain ⟨i, hi, rfl⟩ := List.getElem_of_mem hu
        have hg : cs[i]? = some (cs[i]'(by omega)) := List.getElem?_eq_getElem (by omega)
        obtain ⟨y, hy, hc⟩ := hcs.get i _ hg
        rw [List.getElem?_eq_getElem hi] at hy
        cases hy
        exact hc.oneCell
      refine ⟨rfl, ?_, B, o, hr, run_storeCells B us w (o + off) 0 (fun j hj => by simpa using hcell j hj) hone, ρ, undef_rel ρ, ?_⟩
      · intro b' i c hm
        obtain ⟨rfl, h1, h2⟩ := mem_wrow.1 hm
        refine ⟨blk, hb, ?_⟩
        have : i - off < cs.length := by
          rcases Nat.lt_or_ge (i - off) cs.length with h' | h'
          · exact h'
          · rw [List.getElem?_eq_none h'] at h2; cases h2
        omega
      · obtain ⟨m1, m2, m3⟩ := setRow_misc us w B (o + off)
        exact {
          ext := PMap.le.refl ρ
          new := fun b B o h1 h2 => by rw [h1] at h2; cases h2
          os := Prod.ext m1 (funext fun a => (setRow_same us w B (o + off) a.block).frozen a.off)
          tape := m2
          output := m3
          size := Nat.le_of_eq (setRow_size us w B (o + off)).symm
          old := fun k hk => (setRow_same us w B (o + off) k).mono fun j ⟨h1, h2, h3⟩ => by
            subst h1
            have hi : j - (o + off) < cs.length := by omega
            exact ⟨b, j - o, cs[j - (o + off)], o, mem_wrow.2 ⟨rfl, by omega, by rw [show j - o - off = j - (o + off) by omega]; exact List.getElem?_eq_getElem hi⟩, hr, by omega⟩
          wr := fun b' i c hm => by
            obtain ⟨rfl, h1, h2⟩ := mem_wrow.1 hm
            obtain ⟨u, hu, hc⟩ := hcs.get _ _ h2
            refine ⟨B, o, u, hr, ?_, hc⟩
            have := setRow_get us w B (o + off) (fun i hi => (hcell i hi).1) (i - off) u hu
            rw [show o + off + (i - off) = o + i by omega] at this
            exact this
          nw := fun k blk h => by simp at h
          nwi := fun k k' blk blk' B o o' h => by simp at h }
    · cases h
  · cases h
end
end Go.Ev
