/-
  An abstract evaluator of the model's code: the state, and regions that keep the text's order. Conditions: none; nothing here speaks of one program.
-/
import Derived.Test.YtdneelooepjdhaaEvD
import Derived.Tactics
set_option linter.unusedSectionVars false
namespace Go.Ev

/-! ### The state -/
abbrev Log := List (Nat × Nat)

/-- The abstract state (ts, H) stands for the frame and the world; what was written since (ρ0, w0) is in the log. -/
structure SRel (n0 : Nat) (ρ0 : PMap) (w0 : World) (ρ : PMap) (ts : List AV) (H : Heap) (log : Log) (a : Act) (w : World) : Prop where
  fr : All2 (VRel ρ) ts a.tmps.toList
  df : a.defers = []
  hp : HeapRel ρ H w
  dom : ∀ b, H.length ≤ b → ρ b = none
  ext : PMap.le ρ0 ρ
  loc : ∀ b B o, ρ b = some (B, o) → ρ0 b = some (B, o) ∨ (ρ0 b = none ∧ w0.heap.size ≤ B ∧ n0 ≤ b)
  grow : n0 ≤ H.length
  dom0 : DomLt ρ0 n0
  os : (w.os, w.frozen?) = (w0.os, w0.frozen?)
  tape : w.tape = w0.tape
  output : w.output = w0.output
  size : w0.heap.size ≤ w.heap.size
  old : ∀ k, k < w0.heap.size → SameBut w0 w k fun j => ∃ b i o, (b, i) ∈ log ∧ ρ0 b = some (k, o) ∧ j = o + i

def putA (ts : List AV) (dst : Option Tmp) (v : AV) : List AV :=
  match dst with
  | some d => ts.set d v
  | none => ts

theorem putA_rel {ρ : PMap} {ts : List AV} {a : Act} {dst : Option Tmp} {v : AV} {u : Value} (h : All2 (VRel ρ) ts a.tmps.toList) (hv : VRel ρ v u) : All2 (VRel ρ) (putA ts dst v) (a.put dst u).tmps.toList := by
  cases dst with
  | none => exact h
  | some d =>
    simp only [putA, Act.put, Array.toList_setIfInBounds]
    exact h.set hv d

theorem put_defers (a : Act) (dst : Option Tmp) (u : Value) : (a.put dst u).defers = a.defers := by cases dst <;> rfl

/-- What an effect writes; of that, what was there before. -/
def elog (e : Eff) : Log := e.writes.map fun p => (p.1, p.2.1)
def olog (n0 : Nat) (e : Eff) : Log := (elog e).filter fun p => decide (p.1 < n0)

theorem SRel.step {n0 : Nat} {ρ0 ρ ρ' : PMap} {w0 w w' : World} {ts : List AV} {H : Heap} {log : Log} {a : Act} {dst : Option Tmp} {v : AV} {u : Value} {e : Eff}
    (s : SRel n0 ρ0 w0 ρ ts H log a w) (hv : VRel ρ' v u) (he : WEff ρ ρ' H.length e w w') (hwf : e.wf H) : SRel n0 ρ0 w0 ρ' (putA ts dst v) (applyEff H e) (olog n0 e ++ log) (a.put dst u) w' where
  fr := putA_rel (s.fr.mono fun _ _ => VRel.mono he.ext) hv
  df := by rw [put_defers]; exact s.df
  hp := s.hp.step he hwf
  dom := fun b hb => by
    rw [length_applyEff] at hb
    cases hr : ρ' b with
    | none => rfl
    | some x =>
      have h0 := s.dom b (by omega)
      have := he.new b x.1 x.2 h0 hr
      omega
  ext := s.ext.trans he.ext
  loc := fun b B o h => by
    cases hr : ρ b with
    | none =>
      have h1 := he.new b B o hr h
      refine .inr ⟨?_, Nat.le_trans s.size h1.2.2, Nat.le_trans s.grow h1.1⟩
      cases h0 : ρ0 b with
      | none => rfl
      | some x => have := s.ext b x h0; rw [hr] at this; cases this
    | some x =>
      have := he.ext b x hr
      rw [h] at this
      cases this
      exact s.loc b B o hr
  grow := by rw [length_applyEff]; exact Nat.le_trans s.grow (Nat.le_add_right _ _)
  dom0 := s.dom0
  os := he.os.trans s.os
  tape := he.tape.trans s.tape
  output := he.output.trans s.output
  size := Nat.le_trans s.size he.size
  old := fun k hk => SameBut.trans ((s.old k hk).mono fun j ⟨b, i, o, h1, h2, h3⟩ => ⟨b, i, o, List.mem_append_right _ h1, h2, h3⟩)
    ((he.old k (Nat.lt_of_lt_of_le hk s.size)).mono fun j ⟨b, i, c, o, h1, h2, h3⟩ => by
      have hr : ρ0 b = some (k, o) := by
        rcases s.loc b k o h2 with h | ⟨_, h, _⟩
        · exact h
        · omega
      have hb : b < n0 := by
        rcases Nat.lt_or_ge b n0 with h | h
        · exact h
        · rw [s.dom0 b h] at hr; cases hr
      exact ⟨b, i, o, List.mem_append_left _ (List.mem_filter.2 ⟨List.mem_map.2 ⟨(b, i, c), h1, rfl⟩, by simpa using hb⟩), hr, h3⟩)

theorem evA_rel {ρ : PMap} {ts : List AV} {a : Act} (h : All2 (VRel ρ) ts a.tmps.toList) {x : Operand} {v : AV} (hx : evA ts x = some v) : VRel ρ v (a.eval x) := by
  cases x with
  | tmp t =>
    obtain ⟨u, hu, hr⟩ := h.get t v hx
    rw [Array.getElem?_toList] at hu
    have : a.eval (.tmp t) = u := by simp [Act.eval, Array.getD_eq_getD_getElem?, hu]
    rw [this]
    exact hr
  | const c =>
    simp only [evA] at hx
    split at hx
    · rename_i hc
      cases hx
      exact ⟨rfl, hc⟩
    · cases hx
  | global g => cases hx; exact ⟨rfl, rfl⟩
  | func f => cases hx; exact ⟨rfl, rfl⟩

/-- A guard: is the operation to be carried out? -/
def guardA (ts : List AV) (t : Option Tmp) (want : Bool) : Option Bool :=
  match t with
  | none => some false
  | some t => match ts[t]? with
    | some (.one (.lit (.bool b))) => some (b == want)
    | some (.tup _) => some false
    | none => some false
    | _ => none

def wantA (ops : List Oper) (ts : List AV) (g : Option (Nat × Bool)) : Option Bool :=
  match g with
  | none => some true
  | some (j, want) => guardA ts ((ops[j]?).bind (·.dst)) want

theorem wantA_ok {ρ : PMap} {ops : List Oper} {ts : List AV} {tmps : Array Value} {o : Oper} {b : Bool} (hl : ts.length = tmps.size)
    (h : ∀ j want t, o.guard = some (j, want) → (ops[j]?).bind (·.dst) = some t → ∀ v, ts[t]? = some v → ∃ u, tmps[t]? = some u ∧ VRel ρ v u) (hw : wantA ops ts o.guard = some b) : Region.wanted o (yielded ops.toArray tmps) = b := by
  unfold wantA at hw
  unfold Region.wanted
  cases hg : o.guard with
  | none => rw [hg] at hw; cases hw; rfl
  | some p =>
    obtain ⟨j, want⟩ := p
    rw [hg] at hw
    simp only at hw ⊢
    unfold yielded
    simp only [List.getElem?_toArray]
    cases hd : (ops[j]?).bind (·.dst) with
    | none => rw [hd] at hw; cases hw; cases want <;> rfl
    | some t =>
      rw [hd] at hw
      simp only [guardA] at hw
      simp only [Option.bind_some]
      cases ht : ts[t]? with
      | none =>
        rw [ht] at hw
        cases hw
        have : tmps[t]? = none := by
          rw [Array.getElem?_eq_none_iff]
          rw [List.getElem?_eq_none_iff] at ht
          omega
        rw [this]
        cases want <;> rfl
      | some v =>
        rw [ht] at hw
        obtain ⟨u, hu, hr⟩ := h j want t hg hd v ht
        rw [hu]
        cases v with
        | one c =>
          cases c with
          | lit x =>
            cases x with
            | bool b' =>
              cases hw
              obtain ⟨rfl, _⟩ := hr
              cases b' <;> cases want <;> rfl
            | _ => cases hw
          | _ => cases hw
        | agg xs => cases hw
        | tup vs =>
          cases hw
          obtain ⟨us, rfl, _⟩ := hr
          cases want <;> rfl

/-- A region in the text's order. -/
noncomputable def seqA (P : Program) [Plain P] (ora : Ora) (n0 : Nat) (ops : List Oper) : List Oper → List AV → Heap → Log → Option (List AV × Heap × Log)
  | [], ts, H, log => some (ts, H, log)
  | o :: rest, ts, H, log =>
    match wantA ops ts o.guard with
    | some true =>
      match opA P ora ts H o.op with
      | some (v, e) => seqA P ora n0 ops rest (putA ts o.dst v) (applyEff H e) (olog n0 e ++ log)
      | none => none
    | some false => seqA P ora n0 ops rest (putA ts o.dst undefA) H log
    | none => none

theorem upon_of_gives {P : Program} [Plain P] {o : Oper} {a : Act} {K : Act → World → Prop} {Q : Exit → Act → World → Prop} {Q' : Value → World → Prop} {r : Result Next} (h : GivesR P Q' r)
    (hk : ∀ u w', Q' u w' → K (a.put o.dst u) w') : o.upon P a K Q r := by
  unfold GivesR at h
  split at h
  · exact hk _ _ h
  · exact hk _ _ h
  · refine Calls.mono h fun e w' ⟨u, he, hq⟩ => ?_
    subst he
    exact hk _ _ hq
  · exact h.elim

theorem SRel.undef {n0 : Nat} {ρ0 ρ : PMap} {w0 w : World} {ts : List AV} {H : Heap} {log : Log} {a : Act} {dst : Option Tmp} (s : SRel n0 ρ0 w0 ρ ts H log a w) : SRel n0 ρ0 w0 ρ (putA ts dst undefA) H log (a.put dst Go.undef) w where
  fr := putA_rel s.fr (undef_rel ρ)
  df := by rw [put_defers]; exact s.df
  hp := s.hp
  dom := s.dom
  ext := s.ext
  loc := s.loc
  grow := s.grow
  dom0 := s.dom0
  os := s.os
  tape := s.tape
  output := s.output
  size := s.size
  old := s.old

theorem SRel.len {n0 : Nat} {ρ0 ρ : PMap} {w0 w : World} {ts : List AV} {H : Heap} {log : Log} {a : Act} (s : SRel n0 ρ0 w0 ρ ts H log a w) : ts.length = a.tmps.size := by
  have := s.fr.length
  simpa using this

theorem SRel.get {n0 : Nat} {ρ0 ρ : PMap} {w0 w : World} {ts : List AV} {H : Heap} {log : Log} {a : Act} (s : SRel n0 ρ0 w0 ρ ts H log a w) (t : Nat) (v : AV) (h : ts[t]? = some v) : ∃ u, a.tmps[t]? = some u ∧ VRel ρ v u := by
  obtain ⟨u, hu, hr⟩ := s.fr.get t v h
  exact ⟨u, by simpa using hu, hr⟩

theorem seqA_wp {P : Program} [Plain P] {ora : Ora} (hora : OraOK P ora) {ops : List Oper} {Q : Exit → Act → World → Prop} {n0 : Nat} {ρ0 : PMap} {w0 : World} : ∀ (rest : List Oper) {ρ : PMap} {ts ts' : List AV} {H H' : Heap} {log log' : Log} {a : Act} {w : World},
    seqA P ora n0 ops rest ts H log = some (ts', H', log') → SRel n0 ρ0 w0 ρ ts H log a w → (∀ ρ' a' w', SRel n0 ρ0 w0 ρ' ts' H' log' a' w' → Q .normal a' w') → wpList P ops.toArray Q rest a w
  | [], ρ, ts, ts', H, H', log, log', a, w, h, s, hq => by cases h; exact hq ρ a w s
  | o :: rest, ρ, ts, ts', H, H', log, log', a, w, h, s, hq => by
    simp only [seqA] at h
    cases hw : wantA ops ts o.guard with
    | none => rw [hw] at h; cases h
    | some b =>
      have hwant := wantA_ok (ρ := ρ) (tmps := a.tmps) s.len (fun _ _ t _ _ v hv => s.get t v hv) hw
      rw [hw] at h
      cases b with
      | true =>
        simp only at h
        cases ho : opA P ora ts H o.op with
        | none => rw [ho] at h; cases h
        | some p =>
          obtain ⟨v, e⟩ := p
          rw [ho] at h
          simp only at h
          obtain ⟨hwf, hg⟩ := opA_ok (w := w) (ev := a.eval) hora o ho (fun x _ v hv => evA_rel s.fr hv) s.hp s.dom
          simp only [wpList]
          rw [if_pos hwant]
          refine .inl (upon_of_gives hg fun u w' ⟨ρ', hv, he⟩ => ?_)
          exact seqA_wp hora rest h (s.step hv he hwf) hq
      | false =>
        simp only at h
        simp only [wpList]
        rw [if_neg (by rw [hwant]; simp)]
        exact seqA_wp hora rest h s.undef hq

theorem wp_seqA {P : Program} [Plain P] {ora : Ora} (hora : OraOK P ora) {id : Nat} {ops : List Oper} {Q : Exit → Act → World → Prop} {n0 : Nat} {ρ0 : PMap} {w0 : World} {ρ : PMap} {ts ts' : List AV} {H H' : Heap} {log log' : Log} {a : Act} {w : World}
    (h : seqA P ora n0 ops ops ts H log = some (ts', H', log')) (s : SRel n0 ρ0 w0 ρ ts H log a w) (hq : ∀ ρ' a' w', SRel n0 ρ0 w0 ρ' ts' H' log' a' w' → Q .normal a' w') : (Code.region id ops.toArray false).wp P Q a w :=
  wp_region_lit (seqA_wp hora ops h s hq)
end Go.Ev
