/-
  A second abstract evaluator of the model's code: functions, and tables of them. Conditions: none; nothing here speaks of one program.
-/
import Derived.Test.YtinhlbmlopkgiaaGreatDoorFwT
import Derived.Laws.Externs
import Derived.KernelRfl
import Derived.RowKit3
import Derived.RangeFuncLeaves
set_option linter.unusedSectionVars false
set_option linter.unusedVariables false
namespace Go.Fv
variable {P : Program} [Plain P] {ora : OraM} {ent : FuncId → Bool} {n m fuel : Nat}

noncomputable section
def frameF (F : Fm) (t : Nat) (args : List AV) : Fm :=
  List.rec (motive := fun _ => Fm → Nat → Fm) (fun F _ => F) (fun a _ ih F t => ih (F.put t (some a)) (Nat.succ t)) args F t
def resF (P : Program) [Plain P] (H : HP) (F : Fm) : ResultVar → Option (Bool × List Cel)
  | .tmp t => match F.get t with
    | some (.one c) => some (false, [c])
    | some (.agg xs) => some (true, xs)
    | _ => none
  | .cell a ty => match F.get a, szA P ty with
    | some (.one (.ptr b off)), some (ag, n) => (H.read b off (wid ag n)).map fun cs => (ag, cs)
    | _, _ => none
def retA : List (Bool × List Cel) → AV
  | [(true, xs)] => .agg xs
  | [(false, [c])] => .one c
  | rs => .tup rs
def endF (P : Program) [Plain P] (fn : Func) (F : Fm) (H : HP) : R := (allSome (fn.results.toList.map (resF P H F))).map fun rs => (retA rs, H)
def endOc (P : Program) [Plain P] (fn : Func) (x : Oc) : R :=
  match x.1 with
  | .ext _ => none
  | _ => endF P fn x.2.1 x.2.2
def lowerO (lo : Nat) (o : AV × HP) : AV × HP := (o.1, o.2.lower lo)
def runFn (P : Program) [Plain P] (ora : OraM) (ent : FuncId → Bool) (fuel : Nat) (fn : Func) (c : Code) (args : List AV) (H : HP) : RM :=
  match Nat.ble args.length fn.ntmps with
  | true => match codeA P ora ent fn.ntmps fuel none c (frameF .nil 0 args) H.fresh with
    | some l => match allSome (l.map (endOc P fn)) with
      | some outs => some ((tidyG H.n outs).map (lowerO H.lo))
      | none => none
    | none => none
  | false => none
end

theorem retA_rel {ρ : PM} {rs : List (Bool × List Cel)} {us : List Value} (h : All2 (PRel ρ) rs us) : VRel ρ (retA rs) (if hh : us.toArray.size = 1 then us.toArray[0] else .tuple us.toArray) := by
  have tup : ∀ (rs : List (Bool × List Cel)) (us : List Value), All2 (PRel ρ) rs us → us.length ≠ 1 → VRel ρ (.tup rs) (if hh : us.toArray.size = 1 then us.toArray[0] else .tuple us.toArray) := by
    intro rs us h hl
    rw [dif_neg (by simpa using hl)]
    exact ⟨us.toArray, rfl, by simpa using h⟩
  match rs, us, h with
  | [], [], h => exact tup [] [] h (by simp)
  | [(true, xs)], [u], h => exact h.1
  | [(false, [c])], [u], h => exact h.1
  | [(false, [])], [u], h => exact h.1.elim
  | [(false, _ :: _ :: _)], [u], h => exact h.1.elim
  | p :: q :: rs, u :: u' :: us, h =>
    have e : retA (p :: q :: rs) = .tup (p :: q :: rs) := by
      obtain ⟨b, l⟩ := p
      cases b
      · cases l with
        | nil => rfl
        | cons x l => cases l <;> rfl
      · rfl
    rw [e]
    exact tup _ _ h (by simp)

theorem frameF_get : ∀ (args : List AV) (F : Fm) (t0 t : Nat) (v : AV), (frameF F t0 args).get t = some v → (t0 ≤ t ∧ args[t - t0]? = some v) ∨ F.get t = some v
  | [], F, t0, t, v, h => .inr h
  | a :: args, F, t0, t, v, h => by
    rcases frameF_get args (F.put t0 (some a)) (t0 + 1) t v h with ⟨h1, h2⟩ | h1
    · refine .inl ⟨by omega, ?_⟩
      rw [show t - t0 = (t - (t0 + 1)) + 1 by omega, List.getElem?_cons_succ]
      exact h2
    · rw [PT.get_put] at h1
      split at h1
      · rename_i ht
        subst ht
        cases h1
        exact .inl ⟨Nat.le_refl _, by simp⟩
      · exact .inr h1

theorem resF_ok {ρ : PM} {F : Fm} {H : HP} {a : Act} {w : World} (hf : FRel n ρ F a) (hH : HRel ρ H w) {r : ResultVar} {p : Bool × List Cel} (h : resF P H F r = some p) :
    ∃ u, (match r with | .tmp t => pure (a.tmps.getD t undef) | .cell x t => do loadVar t (← asAddr (a.tmps.getD x undef)) : Sem Value).run P w = .ok u w ∧ PRel ρ p u := by
  cases r with
  | tmp t =>
    simp only [resF] at h
    split at h
    · rename_i c ht
      cases h
      obtain ⟨u, hu, hr⟩ := hf.get t _ ht
      exact ⟨u, by simp [Array.getD_eq_getD_getElem?, hu], hr⟩
    · rename_i xs ht
      cases h
      obtain ⟨u, hu, hr⟩ := hf.get t _ ht
      exact ⟨u, by simp [Array.getD_eq_getD_getElem?, hu], hr⟩
    · cases h
  | cell x t =>
    simp only [resF] at h
    split at h
    · rename_i b off ag n ht hs
      obtain ⟨cs, hcs, rfl⟩ := map_some h
      obtain ⟨u, hu, L, hL, he⟩ := hf.get x _ ht
      obtain ⟨us, hl, hrel, hc⟩ := HP.read_world hcs hH hL
      refine ⟨mkV ag us, ?_, ?_⟩
      · simp only [Array.getD_eq_getD_getElem?, hu, Option.getD_some, he, asAddr, Sem.run_bind, Sem.run_pure, Result.andThen_ok]
        exact run_loadVar hs hl hc
      · cases ag with
        | true => exact ⟨us.toArray, rfl, by simpa using hrel⟩
        | false =>
          have hl1 : us.length = 1 := hl
          have hl2 : cs.length = 1 := by rw [hrel.length]; exact hl1
          match cs, us, hl1, hl2, hrel with
          | [c], [u'], _, _, hrel => exact hrel.1
    · cases h

theorem resAll_ok {ρ : PM} {F : Fm} {H : HP} {a : Act} {w : World} (hf : FRel n ρ F a) (hH : HRel ρ H w) : ∀ (rs : List ResultVar) {ps : List (Bool × List Cel)}, allSome (rs.map (resF P H F)) = some ps →
    ∃ us, (rs.mapM fun | .tmp t => pure (a.tmps.getD t undef) | .cell x t => do loadVar t (← asAddr (a.tmps.getD x undef)) : Sem (List Value)).run P w = .ok us w ∧ All2 (PRel ρ) ps us
  | [], ps, h => by cases h; exact ⟨[], rfl, trivial⟩
  | r :: rs, ps, h => by
    simp only [List.map_cons] at h
    cases hr : resF P H F r with
    | none => rw [hr] at h; cases h
    | some p =>
      rw [hr] at h
      simp only [allSome] at h
      obtain ⟨qs, hq, rfl⟩ := map_some h
      obtain ⟨u, hu, hrel⟩ := resF_ok hf hH hr
      obtain ⟨us, hus, hrels⟩ := resAll_ok hf hH rs hq
      refine ⟨u :: us, ?_, hrel, hrels⟩
      simp only [List.mapM_cons, Sem.run_bind]
      rw [hu]
      simp only [Result.andThen_ok]
      rw [hus]
      rfl

/-- An object on which no known block lies, laid since the start, is another. -/
theorem Sim.unowned {ρ ρ' : PM} {H H' : HP} {w w' : World} {D : Nat} {o : Obj} (s : Sim ρ H w ρ' H' w') (hD : w.heap.size ≤ D) (hno : ∀ b L, H'.Kn b → ρ' b = some L → L.B ≠ D) (hlt0 : ∀ b L, H.Kn b → ρ b = some L → L.B < w.heap.size) : Sim ρ H w ρ' H' (w'.putObj D o) where
  le := s.le
  grow := s.grow
  dom := s.dom
  rel := ⟨fun b i c L hc hL => (s.rel.rel b i c L hc hL).of_heap (World.putObj_heap_other (hno b L ⟨i, c, hc⟩ hL)), s.rel.inj⟩
  knc := s.knc
  frc := fun b L i g1 g2 g3 g4 => (s.frc b L i g1 g2 g3 g4).trans (SameAt.of_heap (World.putObj_heap_other (by have := hlt0 b L g1 g3; omega)) _)
  fr := fun k hk hno' => by rw [World.putObj_heap_other (by omega)]; exact s.fr k hk hno'
  new := s.new
  size := by rw [World.putObj_size]; exact s.size
  os := s.os
  tape := s.tape
  output := s.output
  old := s.old

theorem leave_marks {ρ ρ' : PM} {H H' : HP} {w : World} {fn : Func} {tmps : Array Value} {R : Ending → World → Prop} (hlt0 : ∀ b L, H.Kn b → ρ b = some L → L.B < w.heap.size)
    (hend : ∀ w', Sim ρ H w ρ' H' w' → ∃ v, (results fn tmps).run P w' = .ok v w' ∧ R (.returned v) w') : ∀ (ds : List Deferred) (w' : World), Sim ρ H w ρ' H' w' → DfOK ρ' H' w' w.heap.size ds → LeavesInM Fence.wide 0 P fn tmps R ds .returning w'
  | [], w', s, _ => hend w' s
  | d :: ds, w', s, ⟨⟨D, h1, hm, h2, h3, h7⟩, h⟩ => by
    refine ⟨by simp, .inl ⟨D, _, by rw [h1], run_takeDeferred h2, leave_marks hlt0 hend ds _ (s.unowned hm h3 hlt0) ?_⟩⟩
    have keep : ∀ (es : List Deferred), (∀ d' ∈ es, ∀ D', d'.target = .collected D' → D' ≠ D) → DfOK ρ' H' w' w.heap.size es → DfOK ρ' H' (w'.putObj D (.deferred none)) w.heap.size es := by
      intro es
      induction es with
      | nil => exact fun _ _ => trivial
      | cons e es ih =>
        rintro hne ⟨⟨D', g1, gm, g2, g3, g7⟩, g⟩
        exact ⟨⟨D', g1, gm, by rw [World.putObj_heap_other (hne e (List.mem_cons_self ..) D' (by rw [g1]))]; exact g2, g3, g7⟩, ih (fun d' hd' => hne d' (List.mem_cons_of_mem _ hd')) g⟩
    exact keep ds h7 h

/-- One function's contract, at arguments and a heap: its outcomes. -/
def CallOK (P : Program) (f : FuncId) (args : List AV) (H : HP) (Z : AV × HP → Prop) : Prop :=
  (∀ o, Z o → St H o.2) ∧ ∀ (ρ : PM) (w : World) (us : Array Value), All2 (VRel ρ) args us.toList → HRel ρ H w → Dom ρ H.n → GivesR P (fun u w' => ∃ o, Z o ∧ Post ρ H w o.1 o.2 u w') ((callFunc f us).run P w)
theorem CallOK.weaken {f : FuncId} {args : List AV} {H : HP} {Z Z' : AV × HP → Prop} (h : CallOK P f args H Z) (hz : ∀ o, Z o → ∃ o2, Z' o2 ∧ Wk o o2) (hst : ∀ o, Z' o → St H o.2) : CallOK P f args H Z' :=
  ⟨hst, fun ρ w us hu hH hd => GivesR.mono (fun u w' ⟨o, ho, ρ1, hv, hs⟩ => by
    obtain ⟨o2, h1, h2⟩ := hz o ho
    obtain ⟨ρ2, g1, g2⟩ := h2 ρ1 u w' hv hs.rel hs.dom
    exact ⟨o2, h1, ρ2, g1, hs.trans hd g2⟩) (h.2 ρ w us hu hH hd)⟩

/-- A function's contract from its body. -/
theorem callOK_of_code {f : FuncId} {fn : Func} {c : Code} {args : List AV} {H : HP} {Zc : Oc → Prop} {Z : AV × HP → Prop} (hf : P.funcs[f]? = some fn) (hb : fn.body = some c) (hcall : ∀ us w, (callFunc f us).run P w = .ok (.enter f us) w)
    (hlen : args.length ≤ fn.ntmps) (K : CodeOK P fn.ntmps 0 none none c (frameF .nil 0 args) H Zc) (hend : ∀ x, Zc x → ∃ o, endOc P fn x = some o ∧ Z o) (hst : ∀ o, Z o → St H o.2) : CallOK P f args H Z := by
  refine ⟨hst, fun ρ w us hargs hH hd => ?_⟩
  rw [hcall]
  show Calls P f us w _
  refine callsIn_wide.1 (callsIn_of_wp_marks (F := Fence.wide) (n := 0) hf hb trivial ?_)
  have hal := hargs.length
  simp only [Array.length_toList] at hal
  have s0 : SRel fn.ntmps ρ (frameF .nil 0 args) H { tmps := us ++ Array.replicate (fn.ntmps - us.size) Go.undef, defers := [] } w := by
    refine ⟨⟨by simp; omega, fun t v hv => ?_⟩, hH, hd⟩
    rcases frameF_get args .nil 0 t v hv with ⟨_, h1⟩ | h1
    · obtain ⟨u, hu, hr⟩ := hargs.get _ _ h1
      rw [Nat.sub_zero, Array.getElem?_toList] at hu
      exact ⟨u, by rw [Array.getElem?_append_left (Array.getElem?_eq_some_iff.1 hu).1]; exact hu, hr⟩
    · cases h1
  refine K.wp (m0 := w.heap.size) s0 trivial (Nat.le_refl _) (DfOK.nil _ _ _ _) fun x hx ρ' a' w' s' hdf hs' => ?_
  obtain ⟨o, ho, hZ⟩ := hend x hx
  obtain ⟨e, F, H1⟩ := x
  have he : e = .nrm ∨ e = .rt := by
    cases e with
    | nrm => exact .inl rfl
    | rt => exact .inr rfl
    | ext id => cases ho
  have ho' : endF P fn F H1 = some o := by rcases he with rfl | rfl <;> exact ho
  obtain ⟨rs, hrs, rfl⟩ := map_some ho'
  have hpost : LeavesInM Fence.wide 0 P fn a'.tmps (fun r w'' => ∃ u', r = .returned u' ∧ ∃ o, Z o ∧ Post ρ H w o.1 o.2 u' w'') a'.defers .returning w' := by
    refine leave_marks (fun b L ⟨i, c, hc⟩ hL => (hH.rel b i c L hc hL).lt) (fun w2 hs2 => ?_) _ _ hs' hdf
    obtain ⟨vs, hvs, hvr⟩ := resAll_ok (P := P) (w := w2) s'.fr hs2.rel _ hrs
    refine ⟨(if hh : vs.toArray.size = 1 then vs.toArray[0] else .tuple vs.toArray), ?_, _, rfl, _, hZ, ρ', retA_rel hvr, hs2⟩
    unfold results
    rw [Sem.run_bind, Array.mapM_eq_mapM_toList, Sem.run_map]
    exact congrArg (fun r : Result (List Value) => (r.andThen fun a w' => Result.ok a.toArray w').andThen fun a w' => Sem.run P (pure (if h : a.size = 1 then a[0] else Value.tuple a)) w') hvs
  rcases he with rfl | rfl
  · exact hpost
  · exact hpost

theorem fresh_rel {ρ : PM} {H : HP} {w : World} (h : HRel ρ H w) : HRel ρ H.fresh w := ⟨h.rel, h.inj⟩
theorem Sim.unfresh {ρ ρ' : PM} {H H' : HP} {w w' : World} (h : Sim ρ H.fresh w ρ' H' w') : Sim ρ H w ρ' H' w' := ⟨h.le, h.grow, h.dom, h.rel, h.knc, h.frc, h.fr, h.new, h.size, h.os, h.tape, h.output, h.old⟩
theorem lower_st {H G : HP} (h : St H.fresh G) : St H (G.lower H.lo) := by
  obtain ⟨⟨h1, h2⟩, h3⟩ := h
  refine ⟨⟨(minN_le _ _).1, fun b hb hb' => h2 b ?_ hb'⟩, h3⟩
  have := (minN_le H.lo G.lo).2
  simp only [HP.lower] at hb
  omega

theorem runFn_ok (hm : P.follows .mixedOrders = true) (hora : OraMOK P ora) (hent : ∀ g, ent g = true → ∀ us w, (callFunc g us).run P w = .ok (.enter g us) w) {f : FuncId} {fn : Func} {c : Code} {args : List AV} {H : HP} {outs : List (AV × HP)}
    (hf : P.funcs[f]? = some fn) (hb : fn.body = some c) (hcall : ∀ us w, (callFunc f us).run P w = .ok (.enter f us) w) (hfl : flowAll c = true)
    (h : runFn P ora ent fuel fn c args H = some outs) : CallOK P f args H (· ∈ outs) := by
  unfold runFn at h
  split at h
  · rename_i hlen
    have hlen := Nat.le_of_ble_eq_true hlen
    split at h
    · rename_i l hc
      split at h
      · rename_i outs0 ho
        cases h
        obtain ⟨h1, h2⟩ := allSome_mem ho
        have K := codeA_ok (n := fn.ntmps) (m := 0) (rb := none) (r := none) hm hora hent c hfl hc
        have hst0 : ∀ o ∈ outs0, St H.fresh o.2 := fun o ho' => by
          obtain ⟨x, hx, hxe⟩ := h2 o ho'
          obtain ⟨e, F, H1⟩ := x
          have : ∃ rs : List (Bool × List Cel), o = (retA rs, H1) := by
            cases e with
            | ext id => cases hxe
            | nrm => obtain ⟨rs, _, hv⟩ := map_some hxe; exact ⟨rs, hv.symm⟩
            | rt => obtain ⟨rs, _, hv⟩ := map_some hxe; exact ⟨rs, hv.symm⟩
          obtain ⟨rs, rfl⟩ := this
          exact K.st _ hx
        have k1 : CallOK P f args H.fresh (· ∈ outs0) := callOK_of_code hf hb hcall hlen K (fun x hx => by obtain ⟨o, g1, g2⟩ := h1 x hx; exact ⟨o, g2, g1⟩) hst0
        obtain ⟨t1, t2⟩ := tidyG_spec H.n outs0
        refine ⟨fun o ho' => ?_, fun ρ w us hu hH hd => GivesR.mono (fun u w' ⟨o, hZ, ρ1, hv, hs⟩ => ?_) (k1.2 ρ w us hu (fresh_rel hH) hd)⟩
        · obtain ⟨o1, g1, rfl⟩ := List.mem_map.1 ho'
          obtain ⟨o2, g2, g3⟩ := t2 o1 g1
          exact lower_st ((hst0 o2 g2).trans g3)
        · obtain ⟨o2, g1, g2⟩ := t1 o hZ
          obtain ⟨ρ2, g3, g4⟩ := g2 ρ1 u w' hv hs.rel hs.dom
          obtain ⟨ρ3, g5, g6⟩ := (Wk.cells (v := o2.1) (H := o2.2) (H' := o2.2.lower H.lo) (Nat.le_refl _) fun _ _ => rfl) ρ2 u w' g3 g4.rel g4.dom
          exact ⟨_, List.mem_map.2 ⟨o2, g1, rfl⟩, ρ3, g5, (hs.unfresh.trans hd g4).trans hd g6⟩
      · cases h
    · cases h
  · cases h

/-! ### Tables -/
abbrev Tbl := List (FuncId × Func × Code)
def Tbl.ok (P : Program) (l : Tbl) : Prop := ∀ p ∈ l, P.funcs[p.1]? = some p.2.1 ∧ p.2.1.body = some p.2.2 ∧ (∀ us w, (callFunc p.1 us).run P w = .ok (.enter p.1 us) w) ∧ flowAll p.2.2 = true
theorem Tbl.ok_nil : Tbl.ok P [] := fun _ h => by cases h
def bodyOf (fn : Func) : Code := fn.body.getD .skip
theorem run_enter {f : FuncId} {fn : Func} {c : Code} (hf : P.funcs[f]? = some fn) (hname : (fn.name == "runtime.NumGoroutine") = false) (hb : fn.body = some c) (args : Array Value) (w : World) :
    (callFunc f args).run P w = .ok (.enter f args) w := by
  have h1 : fn.name ≠ "runtime.NumGoroutine" := by simpa using hname
  simp [callFunc, hf, h1, hb]
/-- What is asked of a function of the table, as one test. -/
def fnTest (fn : Func) : Bool := !(fn.name == "runtime.NumGoroutine") && (match fn.body with | some c => flowAll c | none => false)
theorem Tbl.ok_cons {f : FuncId} {fn : Func} {l : Tbl} (hf : P.funcs[f]? = some fn) (ht : fnTest fn = true) (hl : Tbl.ok P l) : Tbl.ok P ((f, fn, bodyOf fn) :: l) := by
  intro p hp
  rcases List.mem_cons.1 hp with rfl | hp
  · unfold fnTest at ht
    simp only [Bool.and_eq_true, Bool.not_eq_true'] at ht
    obtain ⟨h1, h2⟩ := ht
    split at h2
    · rename_i c hc
      have hb : fn.body = some (bodyOf fn) := by unfold bodyOf; rw [hc]; rfl
      refine ⟨hf, hb, fun us w => run_enter hf h1 hb us w, ?_⟩
      show flowAll (bodyOf fn) = true
      unfold bodyOf
      rw [hc]
      exact h2
    · cases h2
  · exact hl p hp

noncomputable section
/-- The table as a tree by number. -/
def treeT (l : Tbl) : PT (Func × Code) := List.rec (motive := fun _ => PT (Func × Code)) .nil (fun p _ ih => ih.put p.1 (some p.2)) l
/-- Each function of the table is evaluated where it is called, to a depth. -/
def entT (T : PT (Func × Code)) (g : FuncId) : Bool :=
  match T.get g with
  | some _ => true
  | none => false
def oraN (P : Program) [Plain P] (T : PT (Func × Code)) (base : OraM) (fuel : Nat) (k : Nat) : OraM :=
  Nat.rec (motive := fun _ => OraM) base (fun _ ih t args H => match t with
    | .f f => match base (.f f) args H with
      | some outs => some outs
      | none => match T.get f with
        | some (fn, c) => runFn P ih (entT T) fuel fn c args H
        | none => none
    | .y b => yieldA P ih (entT T) fuel b args H) k
end

theorem treeT_mem : ∀ {l : Tbl} {f : FuncId} {fn : Func} {c : Code}, (treeT l).get f = some (fn, c) → (f, fn, c) ∈ l
  | [], _, _, _, h => by cases h
  | (g, fn', c') :: l, f, fn, c, h => by
    have h' : ((treeT l).put g (some (fn', c'))).get f = some (fn, c) := h
    rw [PT.get_put] at h'
    split at h'
    · rename_i hg
      subst hg
      cases h'
      exact List.mem_cons_self ..
    · exact List.mem_cons_of_mem _ (treeT_mem h')

theorem entT_ok {tbl : Tbl} (ht : Tbl.ok P tbl) : ∀ g, entT (treeT tbl) g = true → ∀ us w, (callFunc g us).run P w = .ok (.enter g us) w := by
  intro g hg
  unfold entT at hg
  split at hg
  · rename_i p hp
    obtain ⟨fn, c⟩ := p
    exact (ht _ (treeT_mem hp)).2.2.1
  · cases hg

theorem oraN_ok (hm : P.follows .mixedOrders = true) {tbl : Tbl} (ht : Tbl.ok P tbl) {base : OraM} (hb : OraMOK P base) : ∀ k, OraMOK P (oraN P (treeT tbl) base fuel k)
  | 0 => hb
  | k + 1 => by
    intro t args H outs h
    have ih := oraN_ok hm ht hb k
    cases t with
    | f f =>
      have h' : (match base (.f f) args H with
        | some outs => some outs
        | none => match (treeT tbl).get f with
          | some (fn, c) => runFn P (oraN P (treeT tbl) base fuel k) (entT (treeT tbl)) fuel fn c args H
          | none => none) = some outs := h
      split at h'
      · rename_i outs' hbase
        cases h'
        exact hb _ args H _ hbase
      · split at h'
        · rename_i fn c hfind
          obtain ⟨h1, h2, h3, h4⟩ := ht _ (treeT_mem hfind)
          obtain ⟨k1, k2⟩ := runFn_ok hm ih (entT_ok ht) h1 h2 h3 h4 h'
          refine ⟨k1, fun ρ w us s hs => ?_⟩
          cases hs
          exact k2 ρ w us
        · cases h'
    | y b =>
      have h' : yieldA P (oraN P (treeT tbl) base fuel k) (entT (treeT tbl)) fuel b args H = some outs := h
      obtain ⟨k1, k2⟩ := yieldA_ok hm ih (entT_ok ht) h'
      refine ⟨k1, fun ρ w us s hs => ?_⟩
      obtain ⟨L, hL, rfl⟩ := hs
      exact k2 ρ w us L hL

theorem base_none : OraMOK P (fun _ _ _ => none) := fun _ _ _ _ h => by cases h

/-- A closed run. -/
theorem closed_ok (hm : P.follows .mixedOrders = true) {tbl : Tbl} (ht : Tbl.ok P tbl) {base : OraM} (hb : OraMOK P base) {fuel k : Nat} {f : FuncId} {args : List AV} {H : HP} {outs : List (AV × HP)}
    (h : oraN P (treeT tbl) base fuel k (.f f) args H = some outs) : CallOK P f args H (· ∈ outs) :=
  ⟨(oraN_ok hm ht hb k _ args H outs h).1, fun ρ w us => (oraN_ok hm ht hb k _ args H outs h).2 ρ w us _ rfl⟩

/-- Do all outcomes hand back true? -/
noncomputable def allTrue (r : RM) : Bool :=
  match r with
  | some outs => outs.all fun o => match o.1 with
    | .one (.lit (.bool b)) => b
    | _ => false
  | none => false
theorem allTrue_spec {r : RM} (h : allTrue r = true) : ∃ outs, r = some outs ∧ ∀ o ∈ outs, o.1 = .one (.lit (.bool true)) := by
  unfold allTrue at h
  split at h
  · rename_i outs
    refine ⟨outs, rfl, fun o ho => ?_⟩
    have := List.all_eq_true.1 h o ho
    split at this
    · rename_i b hb
      subst this
      exact hb
    · cases this
  · cases h

def emptyH : HP := ⟨.nil, 0, 0⟩
theorem Sim.olds {ρ ρ' : PM} {H : HP} {w w' : World} (s : Sim ρ emptyH w ρ' H w') : ∀ k, k < w.heap.size → w'.heap[k]? = w.heap[k]? := fun k hk => s.fr k hk fun b L ⟨i, c, hc⟩ => by cases hc

/-- A contract on an empty heap: what a call hands back; the world has at most new blocks. -/
theorem CallOK.walk {f : FuncId} {args : List AV} {v : Value} {Z : AV × HP → Prop} {us : Array Value} (h : CallOK P f args emptyH Z) (hz : ∀ o, Z o → o.1 = .one (.lit v)) (hu : All2 (VRel fun _ => none) args us.toList) (hcall : ∀ us w, (callFunc f us).run P w = .ok (.enter f us) w) (w : World) :
    Calls P f us w fun e w' => e = .returned v ∧ (∀ k, k < w.heap.size → w'.heap[k]? = w.heap[k]?) ∧ w.heap.size ≤ w'.heap.size ∧ w'.os = w.os ∧ w'.output = w.output ∧ w'.tape = w.tape := by
  have h1 := h.2 (fun _ => none) w us hu ⟨fun b i c L hc => (by cases hc), fun b b' L L' ⟨i, c, hc⟩ => by cases hc⟩ (fun _ _ => rfl)
  rw [hcall] at h1
  refine Calls.mono h1 fun e w' ⟨u, he, o, ho, ρ', hv, hw⟩ => ?_
  rw [hz o ho] at hv
  exact ⟨by rw [he, hv.1], hw.olds, hw.size, hw.os, hw.output, hw.tape⟩
end Go.Fv
