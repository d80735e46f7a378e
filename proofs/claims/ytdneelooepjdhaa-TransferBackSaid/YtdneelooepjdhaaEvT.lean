/-
  An abstract evaluator of the model's code: tests that are not known, both ways at once; contracts carried to another heap; ranges. Conditions: none; nothing here speaks of one program.
-/
import Derived.Test.YtdneelooepjdhaaEvF
set_option linter.unusedSectionVars false
namespace Go.Ev
variable {P : Program} [Plain P] {ora : OraB} {hs : Hints}
noncomputable section

inductive Tree where
  | fail
  | leaf (r : AV × Eff × Ob)
  | node (b : Bool) (x y : Tree)

def Tree.sel : Tree → Option (AV × Eff × Ob)
  | .fail => none
  | .leaf r => some r
  | .node b x y => if b then x.sel else y.sel

def owe (b want : Bool) (ob : Ob) : Ob := (8, b, want) :: ob

def mergeC (b : Bool) : Cel → Cel → Option Cel
  | .lit (.int k m), .lit (.int k' n) => if k = k' then some (.lit (.int k (bif b then m else n))) else none
  | .lit (.bool m), .lit (.bool n) => some (.lit (.bool (bif b then m else n)))
  | .ptr c o, .ptr c' o' => if c = c' ∧ o = o' then some (.ptr c o) else none
  | _, _ => none

theorem mergeC_eq {b : Bool} {x y z : Cel} (h : mergeC b x y = some z) : z = if b then x else y := by
  unfold mergeC at h
  split at h
  · split at h
    · rename_i hk
      subst hk
      cases h; cases b <;> rfl
    · cases h
  · cases h; cases b <;> rfl
  · split at h
    · rename_i hk
      obtain ⟨rfl, rfl⟩ := hk
      cases h; cases b <;> rfl
    · cases h
  · cases h

def mergeCs (b : Bool) : List Cel → List Cel → Option (List Cel)
  | [], [] => some []
  | x :: xs, y :: ys => match mergeC b x y, mergeCs b xs ys with
    | some z, some zs => some (z :: zs)
    | _, _ => none
  | _, _ => none

theorem mergeCs_eq {b : Bool} : ∀ {xs ys zs : List Cel}, mergeCs b xs ys = some zs → zs = if b then xs else ys
  | [], [], _, h => by cases h; cases b <;> rfl
  | x :: xs, y :: ys, zs, h => by
    simp only [mergeCs] at h
    split at h
    · rename_i z zs' h1 h2
      cases h
      have e1 := mergeC_eq h1
      have e2 := mergeCs_eq h2
      cases b
      · rw [e1, e2]; rfl
      · rw [e1, e2]; rfl
    · cases h
  | [], _ :: _, _, h => by cases h
  | _ :: _, [], _, h => by cases h

def mergePs (b : Bool) : List (Bool × List Cel) → List (Bool × List Cel) → Option (List (Bool × List Cel))
  | [], [] => some []
  | (f, x) :: xs, (g, y) :: ys => match f == g, mergeCs b x y, mergePs b xs ys with
    | true, some z, some zs => some ((f, z) :: zs)
    | _, _, _ => none
  | _, _ => none

theorem mergePs_eq {b : Bool} : ∀ {xs ys zs : List (Bool × List Cel)}, mergePs b xs ys = some zs → zs = if b then xs else ys
  | [], [], _, h => by cases h; cases b <;> rfl
  | (f, x) :: xs, (g, y) :: ys, zs, h => by
    simp only [mergePs] at h
    split at h
    · rename_i z zs' h0 h1 h2
      cases h
      have e0 : f = g := by simpa using h0
      subst e0
      have e1 := mergeCs_eq h1
      have e2 := mergePs_eq h2
      cases b
      · rw [e1, e2]; rfl
      · rw [e1, e2]; rfl
    · cases h
  | [], _ :: _, _, h => by cases h
  | _ :: _, [], _, h => by cases h

def mergeA (b : Bool) : AV → AV → Option AV
  | .one x, .one y => (mergeC b x y).map .one
  | .agg xs, .agg ys => (mergeCs b xs ys).map .agg
  | .tup xs, .tup ys => (mergePs b xs ys).map .tup
  | _, _ => none

theorem mergeA_eq {b : Bool} {x y z : AV} (h : mergeA b x y = some z) : z = if b then x else y := by
  unfold mergeA at h
  split at h
  · obtain ⟨c, hc, rfl⟩ := map_some h
    rw [mergeC_eq hc]; cases b <;> rfl
  · obtain ⟨c, hc, rfl⟩ := map_some h
    rw [mergeCs_eq hc]; cases b <;> rfl
  · obtain ⟨c, hc, rfl⟩ := map_some h
    rw [mergePs_eq hc]; cases b <;> rfl
  · cases h

def mergeW (b : Bool) : List (Nat × Nat × Cel) → List (Nat × Nat × Cel) → Option (List (Nat × Nat × Cel))
  | [], [] => some []
  | (c, i, x) :: xs, (d, j, y) :: ys => match Nat.beq c d, Nat.beq i j, mergeC b x y, mergeW b xs ys with
    | true, true, some z, some zs => some ((c, i, z) :: zs)
    | _, _, _, _ => none
  | _, _ => none

theorem mergeW_eq {b : Bool} : ∀ {xs ys zs : List (Nat × Nat × Cel)}, mergeW b xs ys = some zs → zs = if b then xs else ys
  | [], [], _, h => by cases h; cases b <;> rfl
  | (c, i, x) :: xs, (d, j, y) :: ys, zs, h => by
    simp only [mergeW] at h
    split at h
    · rename_i z zs' h0 h00 h1 h2
      cases h
      obtain rfl := Nat.eq_of_beq_eq_true h0
      obtain rfl := Nat.eq_of_beq_eq_true h00
      have e1 := mergeC_eq h1
      have e2 := mergeW_eq h2
      cases b
      · rw [e1, e2]; rfl
      · rw [e1, e2]; rfl
    · cases h
  | [], _ :: _, _, h => by cases h
  | _ :: _, [], _, h => by cases h

def mergeE (b : Bool) : Eff → Eff → Option Eff
  | { writes := ws, news := [] }, { writes := us, news := [] } => (mergeW b ws us).map fun l => { writes := l }
  | _, _ => none

theorem mergeE_eq {b : Bool} {x y z : Eff} (h : mergeE b x y = some z) : z = if b then x else y := by
  unfold mergeE at h
  split at h
  · obtain ⟨l, hl, rfl⟩ := map_some h
    rw [mergeW_eq hl]; cases b <;> rfl
  · cases h

def mergeR (b : Bool) : Option (AV × Eff × Ob) → Option (AV × Eff × Ob) → Option (AV × Eff × Ob)
  | some (v, e, ob), some (v', e', ob') => match mergeA b v v', mergeE b e e' with
    | some u, some d => some (u, d, ob ++ ob')
    | _, _ => none
  | some (v, e, ob), none => some (v, e, owe b true ob)
  | none, some (v, e, ob) => some (v, e, owe b false ob)
  | none, none => none

def Tree.merge : Tree → Option (AV × Eff × Ob)
  | .fail => none
  | .leaf r => some r
  | .node b x y => mergeR b x.merge y.merge

theorem owe_ok {b want : Bool} {ob : Ob} (h : Ob.ok (owe b want ob)) : b = want ∧ Ob.ok ob :=
  ⟨h (8, b, want) (List.mem_cons_self ..), fun p hp => h p (List.mem_cons_of_mem _ hp)⟩

theorem merge_sel : ∀ (t : Tree) {v : AV} {e : Eff} {ob : Ob}, t.merge = some (v, e, ob) → Ob.ok ob → ∃ ob', t.sel = some (v, e, ob') ∧ Ob.ok ob'
  | .fail, _, _, _, h, _ => by cases h
  | .leaf r, v, e, ob, h, hk => by cases h; exact ⟨ob, rfl, hk⟩
  | .node b x y, v, e, ob, h, hk => by
    simp only [Tree.merge] at h
    have ihx := @merge_sel x
    have ihy := @merge_sel y
    generalize x.merge = rx at h ihx
    generalize y.merge = ry at h ihy
    unfold mergeR at h
    simp only [Tree.sel]
    split at h
    · split at h
      · rename_i u d hu hd
        cases h
        obtain ⟨k1, k2⟩ := Ob.ok_append.1 hk
        rw [mergeA_eq hu, mergeE_eq hd]
        cases b
        · exact ihy rfl k2
        · exact ihx rfl k1
      · cases h
    · cases h
      obtain ⟨rfl, hk'⟩ := owe_ok hk
      exact ihx rfl hk'
    · cases h
      obtain ⟨rfl, hk'⟩ := owe_ok hk
      exact ihy rfl hk'
    · cases h

/-- Does the code part at this test? -/
def inForks (hs : Hints) : Operand → Bool
  | .tmp t => hs.forks.any (Nat.beq t)
  | _ => false

section
variable (P : Program) [Plain P] (ora : OraB) (hs : Hints) (n0 : Nat)
def codeT : Nat → Code → St → (XA → St → Tree) → Tree
  | 0, _, _, _ => .fail
  | _ + 1, .skip, st, K => K .normal st
  | _ + 1, .label _, st, K => K .normal st
  | _ + 1, .exit id, st, K => K (.exit id) st
  | _ + 1, .ret, st, K => K .ret st
  | _ + 1, .region _ ops draw, st, K =>
    match regH P ora hs n0 ops.toList draw st with
    | some st' => K .normal st'
    | none => .fail
  | n + 1, .seq a b, st, K => codeT n a st fun x st' => match x with
    | .normal => codeT n b st' K
    | x => K x st'
  | n + 1, .cond c t e, st, K =>
    match evT st.ts c with
    | some (.one (.lit (.bool b))) => match inForks hs c with
      | true => .node b (codeT n t st K) (codeT n e st K)
      | false => match b with
        | true => codeT n t st K
        | false => codeT n e st K
    | _ => .fail
  | n + 1, .block id b, st, K => codeT n b st fun x st' => match x with
    | .exit id' => if id' = id then K .normal st' else K (.exit id') st'
    | x => K x st'
  | n + 1, .loop b, st, K => codeT n b st fun x st' => match x with
    | .normal => codeT n (.loop b) st' K
    | x => K x st'
  | n + 1, .scope b, st, K => codeT n b st K
  | _ + 1, _, _, _ => .fail
end

theorem codeT_sel {n0 : Nat} : ∀ (n : Nat) (c : Code) (st : St) (K : XA → St → Tree) {r : AV × Eff × Ob}, (codeT P ora hs n0 n c st K).sel = some r → ∃ x st', codeH P ora hs n0 n c st = some (x, st') ∧ (K x st').sel = some r := by
  intro n
  induction n with
  | zero => intro c st K r h; cases h
  | succ n ih =>
    intro c st K r h
    cases c with
    | skip => exact ⟨_, _, rfl, h⟩
    | label l => exact ⟨_, _, rfl, h⟩
    | exit id => exact ⟨_, _, rfl, h⟩
    | ret => exact ⟨_, _, rfl, h⟩
    | region id ops draw =>
      simp only [codeT] at h
      split at h
      · rename_i st' hr
        exact ⟨.normal, st', by simp only [codeH, hr, Option.map_some], h⟩
      · cases h
    | seq a b =>
      simp only [codeT] at h
      obtain ⟨x, st', h1, h2⟩ := ih a st _ h
      cases x with
      | normal =>
        obtain ⟨x2, st2, h3, h4⟩ := ih b st' K h2
        exact ⟨x2, st2, by simp only [codeH, h1, h3], h4⟩
      | exit id => exact ⟨_, _, by simp only [codeH, h1], h2⟩
      | ret => exact ⟨_, _, by simp only [codeH, h1], h2⟩
    | cond c t e =>
      simp only [codeT] at h
      split at h
      · rename_i b hb
        have h' : (if b then (codeT P ora hs n0 n t st K).sel else (codeT P ora hs n0 n e st K).sel) = some r := by
          split at h
          · exact h
          · cases b <;> exact h
        cases b with
        | true =>
          obtain ⟨x, st', h1, h2⟩ := ih t st K (by simpa using h')
          exact ⟨x, st', by simp only [codeH, hb, if_true, h1], h2⟩
        | false =>
          obtain ⟨x, st', h1, h2⟩ := ih e st K (by simpa using h')
          exact ⟨x, st', by simp only [codeH, hb, Bool.false_eq_true, if_false, h1], h2⟩
      · cases h
    | block id b =>
      simp only [codeT] at h
      obtain ⟨x, st', h1, h2⟩ := ih b st _ h
      cases x with
      | normal => exact ⟨_, _, by simp only [codeH, h1], h2⟩
      | ret => exact ⟨_, _, by simp only [codeH, h1], h2⟩
      | exit id' =>
        simp only at h2
        split at h2
        · rename_i hid
          exact ⟨.normal, st', by simp only [codeH, h1, if_pos hid], h2⟩
        · rename_i hid
          exact ⟨.exit id', st', by simp only [codeH, h1, if_neg hid], h2⟩
    | loop b =>
      simp only [codeT] at h
      obtain ⟨x, st', h1, h2⟩ := ih b st _ h
      cases x with
      | normal =>
        obtain ⟨x2, st2, h3, h4⟩ := ih (.loop b) st' K h2
        exact ⟨x2, st2, by simp only [codeH, h1, h3], h4⟩
      | exit id => exact ⟨_, _, by simp only [codeH, h1], h2⟩
      | ret => exact ⟨_, _, by simp only [codeH, h1], h2⟩
    | scope b =>
      simp only [codeT] at h
      obtain ⟨x, st', h1, h2⟩ := ih b st K h
      exact ⟨x, st', by simp only [codeH, h1], h2⟩
    | rangeFunc f ps as b => cases h
    | goto l => cases h
    | refuse why => cases h

def finT (P : Program) [Plain P] (fn : Func) (H : Heap) (st : St) : Tree :=
  match allSome (fn.results.toList.map (resA P st.H st.ts)), finalsA H st.H st.log with
  | some rs, some ws =>
    if (retA rs).below H.length && ws.all (fun p => p.2.2.below H.length) then .leaf (retA rs, { writes := ws }, st.ob)
    else .leaf (retA rs, { writes := ws, news := st.H.drop H.length }, st.ob)
  | _, _ => .fail

def runT (P : Program) [Plain P] (ora : OraB) (hs : Hints) (fuel : Nat) (fn : Func) (c : Code) (args : List AV) (H : Heap) : Tree :=
  codeT P ora hs H.length fuel c ⟨frameT args fn.ntmps, H, [], []⟩ fun x st => match x with
    | .exit _ => .fail
    | _ => finT P fn H st

theorem runT_sel {fuel : Nat} {fn : Func} {c : Code} {args : List AV} {H : Heap} {r : AV × Eff × Ob} (h : (runT P ora hs fuel fn c args H).sel = some r) : runFn P ora hs fuel fn c args H = some r := by
  unfold runT at h
  obtain ⟨x, st, h1, h2⟩ := codeT_sel _ _ _ _ h
  unfold runFn
  rw [h1]
  have fin : (finT P fn H st).sel = some r → (match allSome (fn.results.toList.map (resA P st.H st.ts)), finalsA H st.H st.log with
      | some rs, some ws =>
        if (retA rs).below H.length && ws.all (fun p => p.2.2.below H.length) then some (retA rs, ({ writes := ws } : Eff), st.ob)
        else some (retA rs, { writes := ws, news := st.H.drop H.length }, st.ob)
      | _, _ => none) = some r := by
    intro h
    unfold finT at h
    split at h
    · rename_i rs ws e1 e2
      split at h
      · rename_i hc
        rw [if_pos hc]
        exact h
      · rename_i hc
        rw [if_neg hc]
        exact h
    · cases h
  cases x with
  | exit id => cases h2
  | normal => exact fin h2
  | ret => exact fin h2

/-- What is owed: where the mark is 0, twice the same; else what is known under that mark. -/
def diag (known : Nat → Bool × Bool) : Ob → Ob
  | [] => []
  | p :: ob => Bool.rec (motive := fun _ => Ob) ((p.1, (known p.1).1, (known p.1).2) :: diag known ob) ((p.1, p.2.1, p.2.1) :: diag known ob) (Nat.beq p.1 0)
theorem diag_ok {known : Nat → Bool × Bool} (hk : ∀ t, (known t).1 = (known t).2) : ∀ ob : Ob, Ob.ok (diag known ob)
  | [] => Ob.ok_nil
  | p :: ob => by
    unfold diag
    cases Nat.beq p.1 0
    · exact Ob.ok_cons (hk p.1) (diag_ok hk ob)
    · exact Ob.ok_cons rfl (diag_ok hk ob)

/-- The answer, what is owed for it being so. -/
def diagR (known : Nat → Bool × Bool) (v : AV) (e : Eff) : Option (AV × Eff × Ob) → Option (AV × Eff × Ob)
  | some (_, _, ob) => some (v, e, diag known ob)
  | none => none

theorem diagR_eq {known : Nat → Bool × Bool} (hk : ∀ t, (known t).1 = (known t).2) {x : Option (AV × Eff × Ob)} {v : AV} {e : Eff} (h : x = diagR known v e x) (hs : x.isSome = true) : ∃ ob, x = some (v, e, ob) ∧ Ob.ok ob := by
  match x, h with
  | some (v', e', ob), h => exact ⟨diag known ob, h, diag_ok hk ob⟩
  | none, _ => cases hs

/-- Nothing is known. -/
def known0 : Nat → Bool × Bool := fun _ => (true, true)
/-- One thing is known. -/
def known1 (b c : Bool) : Nat → Bool × Bool := fun _ => (b, c)

/-- A function evaluated where it is called. -/
def inl (P : Program) [Plain P] (ora : OraB) (hs : Hints) (fuel : Nat) (fn : Func) (c : Code) : FnB := fun args H => (runT P ora hs fuel fn c args H).merge

theorem inl_ok (hm : P.follows .mixedOrders = true) (hora : OraOK P ora.plain) {f : FuncId} {fn : Func} {c : Code} {fuel : Nat}
    (hf : P.funcs[f]? = some fn) (hb : fn.body = some c) (hcall : ∀ us w, (callFunc f us).run P w = .ok (.enter f us) w) (hfl : flowAll c = true) : FnOK P f (inl P ora hs fuel fn c) := by
  intro args H v e ob h hk
  obtain ⟨ob', h1, h2⟩ := merge_sel _ h hk
  exact runFn_ok hm hora hf hb hcall hfl (runT_sel h1) h2

/-! ### Ranges -/
def celOK : Cel → Bool
  | .lit v => litOK v
  | .ptr _ _ => true
  | .sl _ _ n c => decide (n ≤ c) && decide (c ≤ 9223372036854775807)
def AV.ok : AV → Bool
  | .one c => celOK c
  | .agg xs => xs.all celOK
  | .tup vs => vs.all fun p => p.2.all celOK

theorem CRel.ok {ρ : PMap} : ∀ {c : Cel} {u : Value}, CRel ρ c u → celOK c = true
  | .lit _, _, h => h.2
  | .ptr _ _, _, _ => rfl
  | .sl _ _ _ _, _, h => by simp only [celOK, Bool.and_eq_true, decide_eq_true_eq]; exact h.2
theorem all2_ok {ρ : PMap} : ∀ {xs : List Cel} {us : List Value}, All2 (CRel ρ) xs us → xs.all celOK = true
  | [], [], _ => rfl
  | x :: xs, u :: us, ⟨h1, h2⟩ => by simp only [List.all_cons, Bool.and_eq_true]; exact ⟨h1.ok, all2_ok h2⟩
  | [], _ :: _, h => h.elim
  | _ :: _, [], h => h.elim
theorem VRel.ok {ρ : PMap} : ∀ {v : AV} {u : Value}, VRel ρ v u → v.ok = true
  | .one _, _, h => CRel.ok h
  | .agg _, _, ⟨_, _, h2⟩ => all2_ok h2
  | .tup vs, _, ⟨us, _, h2⟩ => by
    simp only [AV.ok]
    generalize us.toList = l at h2
    induction vs generalizing l with
    | nil => rfl
    | cons p vs ih => cases l with
      | nil => exact h2.elim
      | cons x l =>
        simp only [List.all_cons, Bool.and_eq_true]
        refine ⟨?_, ih l h2.2⟩
        have hp := h2.1
        match p, hp with
        | (true, xs), ⟨_, _, h⟩ => exact all2_ok h
        | (false, [c]), h => have h' : CRel ρ c x := h; simp [h'.ok]

/-- Arguments and what is known of the heap are in range: that may be used. -/
theorem CallOK.ranged {f : FuncId} {args : List AV} {H : Heap} {v : AV} {e : Eff} (hwf : e.wf H)
    (h : (∀ a ∈ args, a.ok = true) → (∀ (b : Nat) (blk : Blk) (i : Nat) (c : Cel), H[b]? = some (some blk) → blk[i]? = some (some c) → celOK c = true) → CallOK P f args H v e) : CallOK P f args H v e := by
  refine ⟨hwf, fun ρ w us hargs hH hd => ?_⟩
  refine (h (fun a ha => ?_) (fun b blk i c hb hc => ?_)).2 ρ w us hargs hH hd
  · obtain ⟨i, hi, rfl⟩ := List.getElem_of_mem ha
    obtain ⟨u, _, hr⟩ := hargs.get i _ (List.getElem?_eq_getElem hi)
    exact hr.ok
  · obtain ⟨B, o, _, _, hrel⟩ := hH.blk b blk hb
    obtain ⟨_, u, _, hcu⟩ := hrel i (List.getElem?_eq_some_iff.1 hc).1
    exact (hcu c hc).ok

/-! ### Another heap -/
def Cel.ren (σ : Nat → Nat) : Cel → Cel
  | .lit v => .lit v
  | .ptr b o => .ptr (σ b) o
  | .sl b o n c => .sl (σ b) o n c
def AV.ren (σ : Nat → Nat) : AV → AV
  | .one c => .one (c.ren σ)
  | .agg xs => .agg (xs.map (Cel.ren σ))
  | .tup vs => .tup (vs.map fun p => (p.1, p.2.map (Cel.ren σ)))

theorem CRel.ren {ρ : PMap} {σ : Nat → Nat} : ∀ {c : Cel} {u : Value}, CRel ρ (c.ren σ) u ↔ CRel (fun b => ρ (σ b)) c u
  | .lit _, _ => Iff.rfl
  | .ptr _ _, _ => Iff.rfl
  | .sl _ _ _ _, _ => Iff.rfl
theorem all2_ren {ρ : PMap} {σ : Nat → Nat} : ∀ {xs : List Cel} {us : List Value}, All2 (CRel ρ) (xs.map (Cel.ren σ)) us ↔ All2 (CRel (fun b => ρ (σ b))) xs us
  | [], [] => Iff.rfl
  | x :: xs, u :: us => by simp only [List.map_cons, All2]; rw [CRel.ren, all2_ren]
  | [], _ :: _ => Iff.rfl
  | _ :: _, [] => Iff.rfl
theorem PRel.ren {ρ : PMap} {σ : Nat → Nat} : ∀ {p : Bool × List Cel} {u : Value}, PRel ρ (p.1, p.2.map (Cel.ren σ)) u ↔ PRel (fun b => ρ (σ b)) p u
  | (true, xs), u => by simp only [PRel]; constructor <;> (rintro ⟨us, h1, h2⟩; exact ⟨us, h1, by first | exact all2_ren.1 h2 | exact all2_ren.2 h2⟩)
  | (false, []), _ => Iff.rfl
  | (false, [c]), _ => CRel.ren (ρ := ρ)
  | (false, _ :: _ :: _), _ => Iff.rfl
theorem VRel.ren {ρ : PMap} {σ : Nat → Nat} : ∀ {v : AV} {u : Value}, VRel ρ (v.ren σ) u ↔ VRel (fun b => ρ (σ b)) v u
  | .one _, _ => CRel.ren (ρ := ρ)
  | .agg xs, u => by simp only [AV.ren, VRel]; constructor <;> (rintro ⟨us, h1, h2⟩; exact ⟨us, h1, by first | exact all2_ren.1 h2 | exact all2_ren.2 h2⟩)
  | .tup vs, u => by
    have gen : ∀ (vs : List (Bool × List Cel)) (us : List Value), All2 (PRel ρ) (vs.map fun p => (p.1, p.2.map (Cel.ren σ))) us ↔ All2 (PRel (fun b => ρ (σ b))) vs us := by
      intro vs
      induction vs with
      | nil => intro us; cases us <;> exact Iff.rfl
      | cons p vs ih =>
        intro us
        cases us with
        | nil => exact Iff.rfl
        | cons u us => simp only [List.map_cons, All2]; rw [PRel.ren, ih]
    simp only [AV.ren, VRel]
    constructor <;> (rintro ⟨us, h1, h2⟩; exact ⟨us, h1, by first | exact (gen _ _).1 h2 | exact (gen _ _).2 h2⟩)

def renW (σ : Nat → Nat) (ws : List (Nat × Nat × Cel)) : List (Nat × Nat × Cel) := ws.map fun p => (σ p.1, p.2.1, p.2.2.ren σ)

/-- A contract over a small heap, carried to one that holds it under other numbers (no new blocks in view). -/
theorem CallOK.carry {f : FuncId} {args : List AV} {H0 H : Heap} {v : AV} {ws : List (Nat × Nat × Cel)} (σ : Nat → Nat) (h : CallOK P f args H0 v { writes := ws })
    (hinj : ∀ b b', b < H0.length → b' < H0.length → σ b = σ b' → b = b')
    (hH0 : ∀ (b : Nat) (blk : Blk), H0[b]? = some (some blk) → ∃ blk2 : Blk, H[σ b]? = some (some blk2) ∧ blk.length = blk2.length ∧ ∀ (i : Nat) (c : Cel), blk[i]? = some (some c) → blk2[i]? = some (some (c.ren σ)))
    (hargs0 : ∀ a ∈ args, a.below H0.length = true) (hHb : HBelow H0 H0.length) : CallOK P f (args.map (AV.ren σ)) H (v.ren σ) { writes := renW σ ws } := by
  have hwf0 := h.1
  refine ⟨fun b i c hm => ?_, fun ρ w us hargs hH hd => ?_⟩
  · simp only [renW, List.mem_map] at hm
    obtain ⟨⟨b0, i0, c0⟩, hm0, he⟩ := hm
    simp only [Prod.mk.injEq] at he
    obtain ⟨rfl, rfl, rfl⟩ := he
    obtain ⟨blk, hb, hi⟩ := hwf0 b0 i0 c0 hm0
    obtain ⟨blk2, h2, hl, _⟩ := hH0 b0 blk hb
    exact ⟨blk2, h2, by omega⟩
  · -- the small heap's map
    have hcutρ : ∀ b, b < H0.length → cutP (fun b => ρ (σ b)) H0.length b = ρ (σ b) := fun b hb => by unfold cutP; rw [if_pos hb]
    have ha : All2 (VRel (cutP (fun b => ρ (σ b)) H0.length)) args us.toList := by
      have gen : ∀ (as : List AV) (us : List Value), All2 (VRel ρ) (as.map (AV.ren σ)) us → (∀ a ∈ as, a.below H0.length = true) → All2 (VRel (cutP (fun b => ρ (σ b)) H0.length)) as us := by
        intro as
        induction as with
        | nil => intro us h _; cases us <;> exact h
        | cons a as ih =>
          intro us h hb
          cases us with
          | nil => exact h.elim
          | cons u us => exact ⟨(VRel.ren.1 h.1).cut (hb a (List.mem_cons_self ..)), ih us h.2 fun x hx => hb x (List.mem_cons_of_mem _ hx)⟩
      exact gen args us.toList hargs hargs0
    have hR : HeapRel (cutP (fun b => ρ (σ b)) H0.length) H0 w := by
      refine ⟨fun b blk hb => ?_, fun b b' blk blk' B o o' hb hb' hr hr' => ?_⟩
      · have hlt : b < H0.length := (List.getElem?_eq_some_iff.1 hb).1
        obtain ⟨blk2, h2, hl, hc⟩ := hH0 b blk hb
        obtain ⟨B, o, hr, hB, hrel⟩ := hH.blk _ blk2 h2
        refine ⟨B, o, by rw [hcutρ b hlt]; exact hr, hB, fun i hi => ?_⟩
        obtain ⟨hf, u, hu, hcu⟩ := hrel i (by omega)
        refine ⟨hf, u, hu, fun c hci => ?_⟩
        exact (CRel.ren.1 (hcu _ (hc i c hci))).cut (hHb b blk i c hb hci)
      · have hlt : b < H0.length := (List.getElem?_eq_some_iff.1 hb).1
        have hlt' : b' < H0.length := (List.getElem?_eq_some_iff.1 hb').1
        obtain ⟨k2, h2, _, _⟩ := hH0 b blk hb
        obtain ⟨k2', h2', _, _⟩ := hH0 b' blk' hb'
        rw [hcutρ b hlt] at hr
        rw [hcutρ b' hlt'] at hr'
        exact hinj b b' hlt hlt' (hH.inj _ _ k2 k2' B o o' h2 h2' hr hr')
    refine (h.2 _ w us ha hR (cutP_dom _ _)).mono fun u w' ⟨ρ1, hv, he⟩ => ?_
    have h1 : ∀ b x, ρ1 b = some x → ρ (σ b) = some x := fun b x hx => by
      cases hc : cutP (fun b => ρ (σ b)) H0.length b with
      | none => have := he.new b x.1 x.2 hc hx; simp only [List.length_nil] at this; omega
      | some y =>
        have := he.ext b y hc
        rw [hx] at this
        cases this
        exact cutP_le (fun b => ρ (σ b)) _ _ _ hc
    have hle : PMap.le ρ1 (fun b => ρ (σ b)) := h1
    refine ⟨ρ, VRel.ren.2 (hv.mono hle), {
      ext := PMap.le.refl ρ
      new := fun b B o h1 h2 => by rw [h1] at h2; cases h2
      os := he.os
      tape := he.tape
      output := he.output
      size := he.size
      old := fun k hk => (he.old k hk).mono fun j ⟨b, i, c, o, hm, hr, hj⟩ => ⟨σ b, i, c.ren σ, o, List.mem_map.2 ⟨(b, i, c), hm, rfl⟩, cutP_le (fun b => ρ (σ b)) _ _ _ hr, hj⟩
      wr := fun b i c hm => by
        simp only [renW, List.mem_map] at hm
        obtain ⟨⟨b0, i0, c0⟩, hm0, hee⟩ := hm
        simp only [Prod.mk.injEq] at hee
        obtain ⟨rfl, rfl, rfl⟩ := hee
        obtain ⟨B, o, u', h3, h4, h5⟩ := he.wr b0 i0 c0 hm0
        exact ⟨B, o, u', cutP_le (fun b => ρ (σ b)) _ _ _ h3, h4, CRel.ren.2 (h5.mono hle)⟩
      nw := fun k blk h => by simp at h
      nwi := fun k k' blk blk' B o o' h => by simp at h }⟩
end
end Go.Ev
