/-
  An abstract evaluator of the model's code: code, with hints on tests that are not known here (each hint is owed). Conditions: none; nothing here speaks of one program.
-/
import Derived.Test.YtdneelooepjdhaaEvI
import Derived.Scope
import Derived.LoopN
set_option linter.unusedSectionVars false
namespace Go.Ev

/-- The answers to calls, and what is owed for each. -/
abbrev OraB := FuncId → List AV → Heap → Option (AV × Eff × Ob)

open Classical in
noncomputable def OraB.plain (ora : OraB) : Ora := fun f args H =>
  match ora f args H with
  | some (v, e, ob) => if Ob.ok ob then some (v, e) else none
  | none => none

/-- One operation, and what is owed for it. -/
noncomputable def opB (P : Program) [Plain P] (ora : OraB) (E : Operand → Option AV) (H : Heap) (op : Op) : Option (AV × Eff × Ob) :=
  match op with
  | .call { callee := .value f, args, argTypes := _ } =>
    match E f, listE E args.toList with
    | some (.one (.lit (.func (.func g) a b))), some vs => if a.size = 0 ∧ b.size = 0 then ora g vs H else none
    | _, _ => none
  | op => (opE P (fun _ _ _ => none) E H op).map fun p => (p.1, p.2, [])

theorem opB_ok {P : Program} [Plain P] {ora : OraB} {E : Operand → Option AV} {H : Heap} {op : Op} {v : AV} {e : Eff} {ob : Ob} (h : opB P ora E H op = some (v, e, ob)) (hk : Ob.ok ob) : opE P ora.plain E H op = some (v, e) := by
  unfold opB at h
  split at h
  · rename_i f args ats
    unfold opE
    split at h
    · rename_i g a b vs h1 h2
      split at h
      · rename_i hab
        simp only [h1, h2, if_pos hab]
        unfold OraB.plain
        rw [h]
        simp only [if_pos hk]
      · cases h
    · cases h
  · rename_i op' hno
    cases ho : opE P (fun _ _ _ => none) E H op with
    | none => rw [ho] at h; cases h
    | some p =>
      obtain ⟨v', e'⟩ := p
      rw [ho] at h
      simp only [Option.map_some, Option.some.injEq, Prod.mk.injEq] at h
      obtain ⟨rfl, rfl, rfl⟩ := h
      rw [← ho]
      unfold opE
      split <;> first | rfl | (exfalso; exact hno _ _ _ rfl)

/-- What is taken for known of a function's tests, by slot (each is owed, under the mark beside it); whether guards that are not known are to be met both ways; the slots of tests at which the code parts. -/
structure Hints where
  l : List (Nat × Bool × Nat) := []
  sym : Bool := false
  forks : List Nat := []

def hintL : List (Nat × Bool × Nat) → Option Tmp → Option (Bool × Nat)
  | _, none => none
  | [], some _ => none
  | (t, b) :: hs, some d => match Nat.beq t d with
    | true => some b
    | false => hintL hs (some d)
def hintOf (hs : Hints) (t : Option Tmp) : Option (Bool × Nat) := hintL hs.l t

def hintV (h : Option (Bool × Nat)) (v : Sl) : Sl :=
  match h, v with
  | some (b, _), .v (.one (.lit (.bool _))) => .v (.one (.lit (.bool b)))
  | _, v => v
def hintO (h : Option (Bool × Nat)) (v : Sl) (ob : Ob) : Ob :=
  match h, v with
  | some (b, t), .v (.one (.lit (.bool c))) => (t, c, b) :: ob
  | _, _ => ob

theorem hint_ok {h : Option (Bool × Nat)} {v : Sl} {ob : Ob} (hk : Ob.ok (hintO h v ob)) : hintV h v = v ∧ Ob.ok ob := by
  unfold hintO at hk
  unfold hintV
  split at hk
  · rename_i b t c
    have := hk (t, c, b) (List.mem_cons_self ..)
    simp only at this
    exact ⟨by simp [this], fun p hp => hk p (List.mem_cons_of_mem _ hp)⟩
  · rename_i hn
    refine ⟨?_, hk⟩
    cases h with
    | none => rfl
    | some p =>
      obtain ⟨b, t⟩ := p
      cases v with
      | may b a => rfl
      | v a =>
        cases a with
        | one c =>
          cases c with
          | lit x =>
            cases x with
            | bool c' => exact (hn b t c' rfl rfl).elim
            | _ => rfl
          | _ => rfl
        | _ => rfl

structure St where
  ts : Tr Sl
  H : Heap
  log : Log
  ob : Ob

noncomputable section
section
variable (P : Program) [Plain P] (ora : OraB) (hs : Hints) (n0 : Nat)

/-- One operation whose guard is known. -/
def stepK (ops : List Oper) (T : Tr Sl) (H : Heap) (o : Oper) : Option (Sl × Eff × Ob) :=
  match wantT ops T o.guard with
  | some true =>
    match opB P ora (evT T) H o.op with
    | some (v, e, ob) => some (.v v, e, ob)
    | none => none
  | some false => some (.v undefA, {}, [])
  | none => none

/-- One operation under a test that is not known. -/
def stepG (T : Tr Sl) (H : Heap) (op : Op) (g : Bool) : Option (Sl × Eff × Ob) :=
  match op with
  | .pick c a d => match pickS T g c a d with
    | some (v, ob) => some (.may g v, {}, ob)
    | none => none
  | op => match opB P ora (evS T) H op with
    | some (v, { writes := [], news := [] }, ob) => some (.may g v, {}, owedS T g op.operands.toList ++ ob)
    | _ => none

/-- One operation, guard known or not. -/
def stepS (ops : List Oper) (T : Tr Sl) (H : Heap) (o : Oper) : Option (Sl × Eff × Ob) :=
  match hs.sym with
  | false => stepK P ora ops T H o
  | true =>
    match o.guard with
    | none => match o.op with
      | .pick (.tmp c) a d => match hintOf hs (some c) with
        | some _ => stepK P ora ops T H o
        | none => match pickS T true (.tmp c) a d with
          | some (v, ob) => some (.v v, {}, ob)
          | none => none
      | _ => stepK P ora ops T H o
    | some (j, want) => match hintOf hs (carrier ops j) with
      | some _ => stepK P ora ops T H o
      | none => match symG T (carrier ops j) want with
        | some g => stepG P ora T H o.op g
        | none => none

def seqH (ops : List Oper) : List Oper → St → Option St
  | [], st => some st
  | o :: rest, st =>
    match stepS P ora hs ops st.ts st.H o with
    | some (v, e, ob) => seqH ops rest ⟨putT st.ts o.dst (hintV (hintOf hs o.dst) v), applyF st.H e, ologF n0 e st.log, hintO (hintOf hs o.dst) v (ob ++ st.ob)⟩
    | none => none

def drawStepB (ops : List Oper) (B : List Nat) (W : List (Nat × Nat × Nat)) (H0 : Heap) (k : Nat) (o : Oper) (T : Tr Sl) (acc : List (Nat × Eff)) (n : Nat) : Option (Sl × Eff × Ob) :=
  match stepS P ora hs ops T (viewN B W H0 k acc) o with
  | some (v, e, ob) => if (e.writes.all fun p => W.contains (k, p.1, p.2.1) && known (viewN B W H0 k acc) p.1 p.2.1) && (v.av.below (n + e.news.length) && e.below (n + e.news.length)) then some (v, e, ob) else none
  | none => none

def drawH (ops : List Oper) (B : List Nat) (W : List (Nat × Nat × Nat)) (H0 : Heap) : List Oper → Nat → Tr Sl → List (Nat × Eff) → Nat → Ob → Option (Tr Sl × List (Nat × Eff) × Ob)
  | [], _, T, acc, _, ob => some (T, acc, ob)
  | o :: rest, k, T, acc, n, ob =>
    match drawStepB P ora hs ops B W H0 k o T acc n with
    | some (v, e, ob1) => drawH ops B W H0 rest (k + 1) (putT T o.dst (hintV (hintOf hs o.dst) v)) (addN k e acc) (n + e.news.length) (hintO (hintOf hs o.dst) v (ob1 ++ ob))
    | none => none

/-- What a run in the text's order writes, number by number: a first look, of which nothing is asked. -/
def declH (ops : List Oper) : List Oper → Nat → Tr Sl → Heap → List (Nat × Nat × Nat)
  | [], _, _, _ => []
  | o :: rest, k, T, H =>
    match stepS P ora hs ops T H o with
    | some (v, e, _) => e.writes.map (fun p => (k, p.1, p.2.1)) ++ declH ops rest (k + 1) (putT T o.dst (hintV (hintOf hs o.dst) v)) (applyF H e)
    | none => []

/-- May an operation write: a store, or a call. -/
def mayWrite : Op → Bool
  | .store .. => true
  | _ => false

def regH (ops : List Oper) (draw : Bool) (st : St) : Option St :=
  match draw with
  | false => seqH P ora hs n0 ops ops st
  | true =>
    match drawH P ora hs ops (befs ops) (if ops.any (fun o => mayWrite o.op) then declH P ora hs ops ops 0 st.ts st.H else []) st.H ops 0 st.ts [] st.H.length st.ob with
    | some (T, acc, ob) => some ⟨T, heapN (fun _ => .ap) acc st.H, (acc.flatMap fun p => olog n0 p.2) ++ st.log, ob⟩
    | none => none

inductive XA where
  | normal
  | exit (id : Nat)
  | ret
  deriving DecidableEq

def XA.toExit : XA → Exit
  | .normal => .normal
  | .exit id => .exit id
  | .ret => .ret

def codeH : Nat → Code → St → Option (XA × St)
  | 0, _, _ => none
  | _ + 1, .skip, st => some (.normal, st)
  | _ + 1, .label _, st => some (.normal, st)
  | _ + 1, .exit id, st => some (.exit id, st)
  | _ + 1, .ret, st => some (.ret, st)
  | _ + 1, .region _ ops draw, st => (regH P ora hs n0 ops.toList draw st).map fun st' => (.normal, st')
  | n + 1, .seq a b, st =>
    match codeH n a st with
    | some (.normal, st') => codeH n b st'
    | r => r
  | n + 1, .cond c t e, st =>
    match evT st.ts c with
    | some (.one (.lit (.bool b))) => if b then codeH n t st else codeH n e st
    | _ => none
  | n + 1, .block id b, st =>
    match codeH n b st with
    | some (.exit id', st') => if id' = id then some (.normal, st') else some (.exit id', st')
    | r => r
  | n + 1, .loop b, st =>
    match codeH n b st with
    | some (.normal, st') => codeH n (.loop b) st'
    | r => r
  | n + 1, .scope b, st => codeH n b st
  | _ + 1, _, _ => none
end

/-- Every region that draws is one whose order does not matter, by its text. -/
def flowAll : Code → Bool
  | .region _ ops draw => !draw || flowOk ops.toList
  | .seq a b => flowAll a && flowAll b
  | .cond _ a b => flowAll a && flowAll b
  | .block _ b => flowAll b
  | .loop b => flowAll b
  | .scope b => flowAll b
  | _ => true

variable {P : Program} [Plain P] {ora : OraB} {hs : Hints} {n0 : Nat}

/-- What a step in the list's frame answers to one in the tree's. -/
def StepIs (P : Program) [Plain P] (ora : OraB) (ops : List Oper) (ts : List AV) (H : Heap) (o : Oper) (v : Sl) (e : Eff) : Prop :=
  (wantA ops ts o.guard = some true ∧ opA P ora.plain ts H o.op = some (v.den, e)) ∨ (wantA ops ts o.guard = some false ∧ v.den = undefA ∧ e = {})

theorem stepK_ok {ops : List Oper} {T : Tr Sl} {ts : List AV} {H : Heap} {o : Oper} {v : Sl} {e : Eff} {ob : Ob} (hi : T.Is ts) (h : stepK P ora ops T H o = some (v, e, ob)) (hk : Ob.ok ob) : StepIs P ora ops ts H o v e := by
  unfold stepK at h
  split at h
  · rename_i hw
    split at h
    · rename_i v' e' ob' ho
      cases h
      exact .inl ⟨hi.want hw, opE_mono (opB_ok ho hk) fun x _ a hx => hi.ev hx⟩
    · cases h
  · rename_i hw
    cases h
    exact .inr ⟨hi.want hw, rfl, rfl⟩
  · cases h

theorem stepG_ok {T : Tr Sl} {ts : List AV} {H : Heap} {op : Op} {g : Bool} {v : Sl} {e : Eff} {ob : Ob} (hi : T.Is ts) (h : stepG P ora T H op g = some (v, e, ob)) (hk : Ob.ok ob) :
    e = {} ∧ ∃ a, v = .may g a ∧ (g = true → opA P ora.plain ts H op = some (a, {})) := by
  unfold stepG at h
  split at h
  · rename_i c a d
    split at h
    · rename_i v' ob' hp
      cases h
      exact ⟨rfl, v', rfl, fun hg => pickS_ok hi hp hk hg⟩
    · cases h
  · rename_i op' hno
    split at h
    · rename_i v' ob' ho
      cases h
      obtain ⟨k1, k2⟩ := Ob.ok_append.1 hk
      refine ⟨rfl, v', rfl, fun hg => ?_⟩
      refine opE_mono (opB_ok ho k2) fun x hx a hxa => hi.evS hxa (owed1_true (owedS_mem k1 x (by simpa using hx)) hg)
    · cases h

theorem stepS_ok {ops : List Oper} {T : Tr Sl} {ts : List AV} {H : Heap} {o : Oper} {v : Sl} {e : Eff} {ob : Ob} (hi : T.Is ts) (h : stepS P ora hs ops T H o = some (v, e, ob)) (hk : Ob.ok ob) : StepIs P ora ops ts H o v e := by
  unfold stepS at h
  split at h
  · exact stepK_ok hi h hk
  · split at h
    · rename_i hg
      split at h
      · rename_i c a d hop
        split at h
        · exact stepK_ok hi h hk
        · split at h
          · rename_i v' ob' hp
            cases h
            refine .inl ⟨by rw [hg]; rfl, ?_⟩
            rw [hop]
            exact pickS_ok hi hp hk rfl
          · cases h
      · exact stepK_ok hi h hk
    · rename_i j want hg
      split at h
      · exact stepK_ok hi h hk
      · split at h
        · rename_i g hs'
          obtain ⟨rfl, a, rfl, ha⟩ := stepG_ok hi h hk
          have hw : wantA ops ts o.guard = some g := by
            rw [hg]
            simp only [wantA]
            rw [← carrier_eq]
            exact hi.sym hs'
          cases g with
          | true => exact .inl ⟨hw, ha rfl⟩
          | false => exact .inr ⟨hw, rfl, rfl⟩
        · cases h

theorem seqH_ok {ops : List Oper} : ∀ (rest : List Oper) {st st' : St} {ts : List AV}, st.ts.Is ts → seqH P ora hs n0 ops rest st = some st' → Ob.ok st'.ob → (∃ ts', st'.ts.Is ts' ∧ seqA P ora.plain n0 ops rest ts st.H st.log = some (ts', st'.H, st'.log)) ∧ Ob.ok st.ob
  | [], st, st', ts, hi, h, hk => by cases h; exact ⟨⟨ts, hi, rfl⟩, hk⟩
  | o :: rest, st, st', ts, hi, h, hk => by
    simp only [seqH] at h
    simp only [seqA]
    cases ho : stepS P ora hs ops st.ts st.H o with
    | none => rw [ho] at h; cases h
    | some p =>
      obtain ⟨v, e, ob⟩ := p
      rw [ho] at h
      simp only at h
      rw [applyF_eq, ologF_eq] at h
      obtain ⟨⟨ts', hi', h1⟩, h2⟩ := seqH_ok rest (ts := putA ts o.dst (hintV (hintOf hs o.dst) v).den) (hi.put _ _) h hk
      simp only at h1 h2
      obtain ⟨h3, h4⟩ := hint_ok h2
      obtain ⟨h5, h6⟩ := Ob.ok_append.1 h4
      rw [h3] at h1
      refine ⟨⟨ts', hi', ?_⟩, h6⟩
      rcases stepS_ok hi ho h5 with ⟨hw, ha⟩ | ⟨hw, hv, rfl⟩
      · rw [hw]
        simp only
        rw [ha]
        exact h1
      · rw [hw]
        simp only
        rw [hv] at h1
        have e1 : applyEff st.H {} = st.H := stepBy_none .ap st.H
        rw [e1] at h1
        exact h1

theorem Sl.below {v : Sl} {n : Nat} (h : v.av.below n = true) : v.den.below n = true := by
  cases v with
  | v a => exact h
  | may b a => cases b <;> first | exact h | rfl

theorem drawStepB_ok {ops : List Oper} {B : List Nat} {W : List (Nat × Nat × Nat)} {H0 : Heap} {k : Nat} {o : Oper} {T : Tr Sl} {ts : List AV} {acc : List Eff} {v : Sl} {e : Eff} {ob : Ob} (hi : T.Is ts)
    (h : drawStepB P ora hs ops B W H0 k o T (nzs 0 acc) (H0.length + newsLen acc) = some (v, e, ob)) (hk : Ob.ok ob) : drawStep P ora.plain ops B W H0 k o ts acc = some (v.den, e) := by
  unfold drawStepB at h
  unfold drawStep
  rw [viewN_eq] at h
  split at h
  · rename_i v' e' ob' ho
    split at h
    · rename_i hc
      cases h
      rcases stepS_ok hi ho hk with ⟨hw, ha⟩ | ⟨hw, hv, rfl⟩
      · rw [hw]
        simp only
        rw [ha]
        simp only [Bool.and_eq_true] at hc ⊢
        rw [if_pos ⟨hc.1, Sl.below hc.2.1, hc.2.2⟩]
      · rw [hw, hv]
    · cases h
  · cases h

theorem drawH_ok {ops : List Oper} {B : List Nat} {W : List (Nat × Nat × Nat)} {H0 : Heap} : ∀ (rest : List Oper) {T : Tr Sl} {ts : List AV} {acc : List Eff} {ob ob' : Ob} {T' : Tr Sl} {accN : List (Nat × Eff)}, T.Is ts →
    drawH P ora hs ops B W H0 rest acc.length T (nzs 0 acc) (H0.length + newsLen acc) ob = some (T', accN, ob') → Ob.ok ob' →
    (∃ vs es, drawGo P ora.plain ops B W H0 rest acc.length ts acc = some (vs, es) ∧ T'.Is (putAll rest vs ts) ∧ accN = nzs 0 (acc ++ es)) ∧ Ob.ok ob
  | [], T, ts, acc, ob, ob', T', accN, hi, h, hk => by cases h; exact ⟨⟨[], [], rfl, hi, by rw [List.append_nil]⟩, hk⟩
  | o :: rest, T, ts, acc, ob, ob', T', accN, hi, h, hk => by
    simp only [drawH] at h
    simp only [drawGo]
    cases hd : drawStepB P ora hs ops B W H0 acc.length o T (nzs 0 acc) (H0.length + newsLen acc) with
    | none => rw [hd] at h; cases h
    | some p =>
      obtain ⟨v, e, ob1⟩ := p
      rw [hd] at h
      simp only at h ⊢
      have hl : acc.length + 1 = (acc ++ [e]).length := by simp
      have hn : addN acc.length e (nzs 0 acc) = nzs 0 (acc ++ [e]) := by rw [nzs_append, Nat.zero_add]
      have hm : H0.length + newsLen acc + e.news.length = H0.length + newsLen (acc ++ [e]) := by rw [newsLen_append]; simp only [newsLen]; omega
      rw [hl, hn, hm] at h
      obtain ⟨⟨vs, es, h1, h2, h3⟩, h4⟩ := drawH_ok rest (ts := putA ts o.dst (hintV (hintOf hs o.dst) v).den) (hi.put _ _) h hk
      obtain ⟨h5, h6⟩ := hint_ok h4
      obtain ⟨h7, h8⟩ := Ob.ok_append.1 h6
      rw [h5] at h1 h2
      refine ⟨⟨v.den :: vs, e :: es, ?_, h2, by rw [h3, List.append_assoc]; rfl⟩, h8⟩
      rw [drawStepB_ok hi hd h7]
      simp only
      rw [hl, h1]

/-- The frame, as a tree. -/
def SRelT (n0 : Nat) (ρ0 : PMap) (w0 : World) (ρ : PMap) (T : Tr Sl) (H : Heap) (log : Log) (a : Act) (w : World) : Prop := ∃ ts, T.Is ts ∧ SRel n0 ρ0 w0 ρ ts H log a w

theorem regH_some {ops : List Oper} {draw : Bool} {st st' : St} (h : regH P ora hs n0 ops draw st = some st') (hk : Ob.ok st'.ob) : Ob.ok st.ob ∧ ∀ ts, st.ts.Is ts →
    ∃ ts', st'.ts.Is ts' ∧ ((draw = false ∧ seqA P ora.plain n0 ops ops ts st.H st.log = some (ts', st'.H, st'.log)) ∨ (draw = true ∧ ∃ W, drawA P ora.plain n0 ops W ts st.H st.log = some (ts', st'.H, st'.log))) := by
  cases draw with
  | false =>
    have key : ∀ ts, st.ts.Is ts → _ := fun ts hi => seqH_ok ops hi h hk
    refine ⟨?_, fun ts hi => ?_⟩
    · -- some frame stands for the tree's numbers that are asked: what is owed does not lean on it
      have : ∀ (rest : List Oper) {st st' : St}, seqH P ora hs n0 ops rest st = some st' → Ob.ok st'.ob → Ob.ok st.ob := by
        intro rest
        induction rest with
        | nil => intro st st' h hk; cases h; exact hk
        | cons o rest ih =>
          intro st st' h hk
          simp only [seqH] at h
          split at h
          · have := ih h hk
            simp only at this
            exact (Ob.ok_append.1 (hint_ok this).2).2
          · cases h
      exact this ops h hk
    · obtain ⟨⟨ts', h1, h2⟩, _⟩ := key ts hi
      exact ⟨ts', h1, .inl ⟨rfl, h2⟩⟩
  | true =>
    simp only [regH] at h
    generalize (if (ops.any fun o => mayWrite o.op) = true then declH P ora hs ops ops 0 st.ts st.H else []) = W at h
    cases hd : drawH P ora hs ops (befs ops) W st.H ops 0 st.ts [] st.H.length st.ob with
    | none => rw [hd] at h; cases h
    | some p =>
      obtain ⟨T, acc, ob⟩ := p
      rw [hd] at h
      cases h
      refine ⟨?_, fun ts hi => ?_⟩
      · have : ∀ (rest : List Oper) {k : Nat} {T : Tr Sl} {acc : List (Nat × Eff)} {n : Nat} {ob ob' : Ob} {T' : Tr Sl} {acc' : List (Nat × Eff)}, drawH P ora hs ops (befs ops) W st.H rest k T acc n ob = some (T', acc', ob') → Ob.ok ob' → Ob.ok ob := by
          intro rest
          induction rest with
          | nil => intro k T acc n ob ob' T' acc' h hk; cases h; exact hk
          | cons o rest ih =>
            intro k T acc n ob ob' T' acc' h hk
            simp only [drawH] at h
            split at h
            · exact (Ob.ok_append.1 (hint_ok (ih h hk)).2).2
            · cases h
        exact this ops hd hk
      · obtain ⟨⟨vs, es, h1, h2, h3⟩, _⟩ := drawH_ok ops (acc := []) hi hd hk
        refine ⟨putAll ops vs ts, h2, .inr ⟨rfl, W, ?_⟩⟩
        unfold drawA
        simp only [List.length_nil] at h1
        rw [h1]
        simp only [List.nil_append] at h3
        simp only [h3, heapBy_nzs, ← flatMap_nzs]

theorem regH_wp (hm : P.follows .mixedOrders = true) (hora : OraOK P ora.plain) {id : Nat} {ops : Array Oper} {draw : Bool} {st st' : St} {Q : Exit → Act → World → Prop} {ρ0 : PMap} {w0 : World} {ρ : PMap} {a : Act} {w : World}
    (h : regH P ora hs n0 ops.toList draw st = some st') (hk : Ob.ok st'.ob) (hf : (!draw || flowOk ops.toList) = true) (s : SRelT n0 ρ0 w0 ρ st.ts st.H st.log a w)
    (hq : ∀ ρ' a' w', SRelT n0 ρ0 w0 ρ' st'.ts st'.H st'.log a' w' → Q .normal a' w') : (Code.region id ops draw).wp P Q a w := by
  obtain ⟨ts, hi, s⟩ := s
  obtain ⟨_, hts⟩ := regH_some h hk
  obtain ⟨ts', hi', h1⟩ := hts ts hi
  rcases h1 with ⟨rfl, h1⟩ | ⟨rfl, W, h1⟩
  · have := wp_seqA (id := id) hora h1 s fun ρ' a' w' s' => hq ρ' a' w' ⟨ts', hi', s'⟩
    simpa using this
  · have := wp_drawA (id := id) (n0 := n0) (W := W) (ops := ops.toList) (log := st.log) hm hora (by simpa using hf) h1 s fun ρ' a' w' s' => hq ρ' a' w' ⟨ts', hi', s'⟩
    simpa using this

theorem condT {ρ0 : PMap} {w0 : World} {ρ : PMap} {T : Tr Sl} {H : Heap} {log : Log} {a : Act} {w : World} {c : Operand} {b : Bool} (hb : evT T c = some (.one (.lit (.bool b)))) (s : SRelT n0 ρ0 w0 ρ T H log a w) : a.eval c = .bool b := by
  obtain ⟨ts, hi, s⟩ := s
  exact (evA_rel s.fr (hi.ev hb)).1

theorem codeH_wp (hm : P.follows .mixedOrders = true) (hora : OraOK P ora.plain) {ρ0 : PMap} {w0 : World} : ∀ (n : Nat) (c : Code) {st st' : St} {x : XA}, codeH P ora hs n0 n c st = some (x, st') → Ob.ok st'.ob → flowAll c = true →
    Ob.ok st.ob ∧ ∀ {Q : Exit → Act → World → Prop} {ρ : PMap} {a : Act} {w : World}, SRelT n0 ρ0 w0 ρ st.ts st.H st.log a w → (∀ ρ' a' w', SRelT n0 ρ0 w0 ρ' st'.ts st'.H st'.log a' w' → Q x.toExit a' w') → c.wp P Q a w := by
  intro n
  induction n using Nat.strongRecOn with
  | _ n0' ihs =>
  cases n0' with
  | zero => intro c st st' x h; cases h
  | succ n =>
    have ih := ihs n (Nat.lt_succ_self n)
    intro c st st' x h hk hf
    cases c with
    | skip => cases h; exact ⟨hk, fun s hq => wp_skip (hq _ _ _ s)⟩
    | label l => cases h; exact ⟨hk, fun s hq => wp_label (hq _ _ _ s)⟩
    | exit id => cases h; exact ⟨hk, fun s hq => wp_exit (hq _ _ _ s)⟩
    | ret => cases h; exact ⟨hk, fun s hq => wp_ret (hq _ _ _ s)⟩
    | region id ops draw =>
      simp only [codeH] at h
      obtain ⟨st1, h1, h2⟩ := map_some h
      cases h2
      exact ⟨(regH_some h1 hk).1, fun s hq => regH_wp hm hora h1 hk hf s hq⟩
    | seq a b =>
      simp only [flowAll, Bool.and_eq_true] at hf
      simp only [codeH] at h
      cases ha : codeH P ora hs n0 n a st with
      | none => rw [ha] at h; cases h
      | some p =>
        obtain ⟨x1, st1⟩ := p
        rw [ha] at h
        cases x1 with
        | normal =>
          simp only at h
          obtain ⟨k1, w1⟩ := ih b h hk hf.2
          obtain ⟨k0, w0'⟩ := ih a ha k1 hf.1
          exact ⟨k0, fun s hq => wp_seq (w0' s fun ρ' a' w' s' => w1 s' hq)⟩
        | exit id =>
          cases h
          obtain ⟨k0, w0'⟩ := ih a ha hk hf.1
          exact ⟨k0, fun s hq => wp_seq (w0' s fun ρ' a' w' s' => hq ρ' a' w' s')⟩
        | ret =>
          cases h
          obtain ⟨k0, w0'⟩ := ih a ha hk hf.1
          exact ⟨k0, fun s hq => wp_seq (w0' s fun ρ' a' w' s' => hq ρ' a' w' s')⟩
    | cond c t e =>
      simp only [flowAll, Bool.and_eq_true] at hf
      simp only [codeH] at h
      split at h
      · rename_i b hb
        cases b with
        | true =>
          simp only [if_true] at h
          obtain ⟨k0, w0'⟩ := ih t h hk hf.1
          exact ⟨k0, fun s hq => wp_cond_true (condT hb s) (w0' s hq)⟩
        | false =>
          simp only [Bool.false_eq_true, if_false] at h
          obtain ⟨k0, w0'⟩ := ih e h hk hf.2
          exact ⟨k0, fun s hq => wp_cond_false (condT hb s) (w0' s hq)⟩
      · cases h
    | block id b =>
      simp only [flowAll] at hf
      simp only [codeH] at h
      cases hb : codeH P ora hs n0 n b st with
      | none => rw [hb] at h; cases h
      | some p =>
        obtain ⟨x1, st1⟩ := p
        rw [hb] at h
        cases x1 with
        | normal =>
          cases h
          obtain ⟨k0, w0'⟩ := ih b hb hk hf
          exact ⟨k0, fun s hq => wp_block (w0' s fun ρ' a' w' s' => hq ρ' a' w' s')⟩
        | ret =>
          cases h
          obtain ⟨k0, w0'⟩ := ih b hb hk hf
          exact ⟨k0, fun s hq => wp_block (w0' s fun ρ' a' w' s' => hq ρ' a' w' s')⟩
        | exit id' =>
          simp only at h
          split at h
          · rename_i hid
            cases h
            obtain ⟨k0, w0'⟩ := ih b hb hk hf
            refine ⟨k0, fun s hq => wp_block (w0' s fun ρ' a' w' s' => ?_)⟩
            simp only [XA.toExit, Exit.inBlock, hid, if_true]
            exact hq ρ' a' w' s'
          · rename_i hid
            cases h
            obtain ⟨k0, w0'⟩ := ih b hb hk hf
            refine ⟨k0, fun s hq => wp_block (w0' s fun ρ' a' w' s' => ?_)⟩
            simp only [XA.toExit, Exit.inBlock, hid, if_false]
            exact hq ρ' a' w' s'
    | loop b =>
      simp only [flowAll] at hf
      -- the rounds
      have key : ∀ (m : Nat), m ≤ n + 1 → ∀ {st st' : St} {x : XA}, codeH P ora hs n0 m (.loop b) st = some (x, st') → Ob.ok st'.ob →
          Ob.ok st.ob ∧ ∀ {Q : Exit → Act → World → Prop} {ρ : PMap} {a : Act} {w : World}, SRelT n0 ρ0 w0 ρ st.ts st.H st.log a w → (∀ ρ' a' w', SRelT n0 ρ0 w0 ρ' st'.ts st'.H st'.log a' w' → Q x.toExit a' w') → Code.rounds P b Q m a w := by
        intro m
        induction m with
        | zero => intro _ st st' x h; cases h
        | succ m ihm =>
          intro hmn st st' x h hk
          simp only [codeH] at h
          cases hb : codeH P ora hs n0 m b st with
          | none => rw [hb] at h; cases h
          | some p =>
            obtain ⟨x1, st1⟩ := p
            rw [hb] at h
            cases x1 with
            | normal =>
              simp only at h
              obtain ⟨k1, w1⟩ := ihm (by omega) h hk
              obtain ⟨k0, w0'⟩ := ihs m (by omega) b hb k1 hf
              exact ⟨k0, fun s hq => w0' s fun ρ' a' w' s' => w1 s' hq⟩
            | exit id =>
              cases h
              obtain ⟨k0, w0'⟩ := ihs m (by omega) b hb hk hf
              exact ⟨k0, fun s hq => w0' s fun ρ' a' w' s' => hq ρ' a' w' s'⟩
            | ret =>
              cases h
              obtain ⟨k0, w0'⟩ := ihs m (by omega) b hb hk hf
              exact ⟨k0, fun s hq => w0' s fun ρ' a' w' s' => hq ρ' a' w' s'⟩
      obtain ⟨k0, w0'⟩ := key (n + 1) (Nat.le_refl _) h hk
      exact ⟨k0, fun s hq => wp_loop_rounds (n + 1) (w0' s hq)⟩
    | scope b =>
      simp only [flowAll] at hf
      simp only [codeH] at h
      obtain ⟨k0, w0'⟩ := ih b h hk hf
      refine ⟨k0, fun s hq => wp_scope_straight (w0' s fun ρ' a' w' s' => ?_)⟩
      cases x <;> exact hq ρ' a' w' s'
    | rangeFunc f ps as b => cases h
    | goto l => cases h
    | refuse why => cases h

/-! ### Functions -/
/-- One function's contract, call by call. -/
def CallOK (P : Program) (f : FuncId) (args : List AV) (H : Heap) (v : AV) (e : Eff) : Prop :=
  e.wf H ∧ ∀ (ρ : PMap) (w : World) (us : Array Value), All2 (VRel ρ) args us.toList → HeapRel ρ H w → DomLt ρ H.length → GivesR P (Post ρ H.length v e w) ((callFunc f us).run P w)

abbrev FnB := List AV → Heap → Option (AV × Eff × Ob)
def FnOK (P : Program) (f : FuncId) (g : FnB) : Prop := ∀ (args : List AV) (H : Heap) (v : AV) (e : Eff) (ob : Ob), g args H = some (v, e, ob) → Ob.ok ob → CallOK P f args H v e

def oraL : List (FuncId × FnB) → OraB
  | [], _, _, _ => none
  | (g, h) :: l, f, args, H => if g = f then h args H else oraL l f args H

theorem oraL_ok : ∀ (l : List (FuncId × FnB)), (∀ p ∈ l, FnOK P p.1 p.2) → OraOK P (oraL l).plain := by
  intro l hl f args H v e h
  unfold OraB.plain at h
  split at h
  · rename_i v' e' ob ho
    split at h
    · rename_i hk
      cases h
      have key : ∀ (l : List (FuncId × FnB)), (∀ p ∈ l, FnOK P p.1 p.2) → oraL l f args H = some (v, e, ob) → CallOK P f args H v e := by
        intro l
        induction l with
        | nil => intro _ h; cases h
        | cons p l ih =>
          obtain ⟨g, k⟩ := p
          intro hl h
          simp only [oraL] at h
          split at h
          · rename_i hg
            subst hg
            exact hl (g, k) (List.mem_cons_self ..) args H v e ob h hk
          · exact ih (fun p hp => hl p (List.mem_cons_of_mem _ hp)) h
      exact key l hl ho
    · cases h
  · cases h

def resA (P : Program) [Plain P] (H : Heap) (T : Tr Sl) : ResultVar → Option (Bool × List Cel)
  | .tmp t => match T.get t with
    | some (.v (.one c)) => some (false, [c])
    | some (.v (.agg xs)) => some (true, xs)
    | _ => none
  | .cell a ty => match T.get a, szA P ty with
    | some (.v (.one (.ptr b off))), some (ag, n) => (readC H b off (wid ag n)).map fun cs => (ag, cs)
    | _, _ => none

def retA : List (Bool × List Cel) → AV
  | [(true, xs)] => .agg xs
  | [(false, [c])] => .one c
  | rs => .tup rs

def finalA (H0 H : Heap) (b i : Nat) : Option (Nat × Nat × Cel) :=
  match H0[b]?, H[b]? with
  | some (some blk0), some (some blk) => if i < blk0.length then match blk[i]? with
    | some (some c) => some (b, i, c)
    | _ => none
    else none
  | _, _ => none

def finalsA (H0 H : Heap) (log : Log) : Option (List (Nat × Nat × Cel)) := allSome (log.eraseDups.map fun p => finalA H0 H p.1 p.2)

def runFn (P : Program) [Plain P] (ora : OraB) (hs : Hints) (fuel : Nat) (fn : Func) (c : Code) (args : List AV) (H : Heap) : Option (AV × Eff × Ob) :=
  match codeH P ora hs H.length fuel c ⟨frameT args fn.ntmps, H, [], []⟩ with
  | some (.exit _, _) => none
  | some (_, st) =>
    match allSome (fn.results.toList.map (resA P st.H st.ts)), finalsA H st.H st.log with
    | some rs, some ws =>
      if (retA rs).below H.length && ws.all (fun p => p.2.2.below H.length) then some (retA rs, { writes := ws }, st.ob)
      else some (retA rs, { writes := ws, news := st.H.drop H.length }, st.ob)
    | _, _ => none
  | none => none

theorem resA_ok {ρ : PMap} {H : Heap} {T : Tr Sl} {ts : List AV} {a : Act} {w : World} (hi : T.Is ts) (hf : All2 (VRel ρ) ts a.tmps.toList) (hH : HeapRel ρ H w) {r : ResultVar} {p : Bool × List Cel} (h : resA P H T r = some p) :
    ∃ u, (match r with | .tmp t => pure (a.tmps.getD t undef) | .cell x t => do loadVar t (← asAddr (a.tmps.getD x undef)) : Sem Value).run P w = .ok u w ∧ PRel ρ p u := by
  cases r with
  | tmp t =>
    simp only [resA] at h
    have hit := hi t
    split at h
    · rename_i c ht
      cases h
      rw [ht] at hit
      obtain ⟨u, hu, hr⟩ := hf.get t _ hit.symm
      rw [Array.getElem?_toList] at hu
      exact ⟨u, by simp [Array.getD_eq_getD_getElem?, hu], hr⟩
    · rename_i xs ht
      cases h
      rw [ht] at hit
      obtain ⟨u, hu, hr⟩ := hf.get t _ hit.symm
      rw [Array.getElem?_toList] at hu
      exact ⟨u, by simp [Array.getD_eq_getD_getElem?, hu], hr⟩
    · cases h
  | cell x t =>
    simp only [resA] at h
    have hit := hi x
    split at h
    · rename_i b off ag n ht hs
      obtain ⟨cs, hcs, rfl⟩ := map_some h
      rw [ht] at hit
      obtain ⟨u, hu, B', o', hr', he⟩ := hf.get x _ hit.symm
      rw [Array.getElem?_toList] at hu
      obtain ⟨B, o, us, hr, hl, hrel, hc⟩ := readC_ok hcs hH
      rw [hr] at hr'
      cases hr'
      refine ⟨mkV ag us, ?_, ?_⟩
      · simp only [Array.getD_eq_getD_getElem?, hu, Option.getD_some, he, asAddr, Sem.run_bind, Sem.run_pure, Result.andThen_ok]
        exact run_loadVar hs hl hc
      · cases ag with
        | true => exact ⟨us.toArray, rfl, by simpa using hrel⟩
        | false =>
          have hl1 : us.length = 1 := hl
          have hl2 : cs.length = 1 := by rw [hrel.length]; exact hl1
          match cs, us, hl1, hl2, hrel with
          | [c], [u'], _, _, hrel => exact hrel.1
    · cases h

theorem resAll_ok {ρ : PMap} {H : Heap} {T : Tr Sl} {ts : List AV} {a : Act} {w : World} (hi : T.Is ts) (hf : All2 (VRel ρ) ts a.tmps.toList) (hH : HeapRel ρ H w) : ∀ (rs : List ResultVar) {ps : List (Bool × List Cel)}, allSome (rs.map (resA P H T)) = some ps →
    ∃ us, (rs.mapM fun | .tmp t => pure (a.tmps.getD t undef) | .cell x t => do loadVar t (← asAddr (a.tmps.getD x undef)) : Sem (List Value)).run P w = .ok us w ∧ All2 (PRel ρ) ps us
  | [], ps, h => by cases h; exact ⟨[], rfl, trivial⟩
  | r :: rs, ps, h => by
    simp only [List.map_cons] at h
    cases hr : resA P H T r with
    | none => rw [hr] at h; cases h
    | some p =>
      rw [hr] at h
      simp only [allSome] at h
      obtain ⟨qs, hq, rfl⟩ := map_some h
      obtain ⟨u, hu, hrel⟩ := resA_ok hi hf hH hr
      obtain ⟨us, hus, hrels⟩ := resAll_ok hi hf hH rs hq
      refine ⟨u :: us, ?_, hrel, hrels⟩
      simp only [List.mapM_cons, Sem.run_bind]
      rw [hu]
      simp only [Result.andThen_ok]
      rw [hus]
      rfl
end
end Go.Ev
