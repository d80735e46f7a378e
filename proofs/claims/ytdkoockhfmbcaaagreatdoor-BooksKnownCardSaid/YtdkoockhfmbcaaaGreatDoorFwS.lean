/-
  A second abstract evaluator of the model's code: functions, and tables of them. Conditions: none; nothing here speaks of one program.
  A second abstract evaluator of the model's code: bytes compared by the run-time. Conditions: none; nothing here speaks of one program.
  A second abstract evaluator of the model's code: slices whose capacity decides: all capacities gone through; the run-time's answer whether two slices overlap. Conditions: none; nothing here speaks of one program.
  A second abstract evaluator of the model's code: the seal of bytes (a part of SHA-256), as a function of numbers. Conditions: none; nothing here speaks of one program.
-/
import Derived.Test.YtdkoockhfmbcaaaGreatDoorFwT
import Derived.Laws.Externs
import Derived.KernelRfl
import Derived.RowKit3
import Derived.RangeFuncLeaves
import Derived.Lib.BytesEntry
import Derived.Lib.Overlaps
set_option linter.unusedSectionVars false
set_option linter.unusedVariables false
namespace Go.Fv
variable {P : Program} [Plain P] {ora : OraM} {ent : FuncId → Bool} {n m fuel : Nat}

noncomputable section
def frameF (F : Fm) (t : Nat) (args : List AV) : Fm :=
  List.rec (motive := fun _ => Fm → Nat → Fm) (fun F _ => F) (fun a _ ih F t => ih (F.put t (some a)) (Nat.succ t)) args F t
def resF (P : Program) [Plain P] (H : HP) (F : Fm) : ResultVar → Option (Bool × List Cel)
  | .tmp t => match F.get t with
    | some (.one c) => some (false, [c])
    | some (.agg xs) => some (true, xs)
    | _ => none
  | .cell a ty => match F.get a, szA P ty with
    | some (.one (.ptr b off)), some (ag, n) => (H.read b off (wid ag n)).map fun cs => (ag, cs)
    | _, _ => none
def retA : List (Bool × List Cel) → AV
  | [(true, xs)] => .agg xs
  | [(false, [c])] => .one c
  | rs => .tup rs
def endF (P : Program) [Plain P] (fn : Func) (F : Fm) (H : HP) : R := (allSome (fn.results.toList.map (resF P H F))).map fun rs => (retA rs, H)
def endOc (P : Program) [Plain P] (fn : Func) (x : Oc) : R :=
  match x.1 with
  | .ext _ => none
  | _ => endF P fn x.2.1 x.2.2
def lowerO (lo : Nat) (o : AV × HP) : AV × HP := (o.1, o.2.lower lo)
def runFn (P : Program) [Plain P] (ora : OraM) (ent : FuncId → Bool) (fuel : Nat) (fn : Func) (c : Code) (args : List AV) (H : HP) : RM :=
  match Nat.ble args.length fn.ntmps with
  | true => match codeA P ora ent fn.ntmps fuel none c (frameF .nil 0 args) H.fresh with
    | some l => match allSome (l.map (endOc P fn)) with
      | some outs => some ((tidyG H.n outs).map (lowerO H.lo))
      | none => none
    | none => none
  | false => none
end

theorem retA_rel {ρ : PM} {rs : List (Bool × List Cel)} {us : List Value} (h : All2 (PRel ρ) rs us) : VRel ρ (retA rs) (if hh : us.toArray.size = 1 then us.toArray[0] else .tuple us.toArray) := by
  have tup : ∀ (rs : List (Bool × List Cel)) (us : List Value), All2 (PRel ρ) rs us → us.length ≠ 1 → VRel ρ (.tup rs) (if hh : us.toArray.size = 1 then us.toArray[0] else .tuple us.toArray) := by
    intro rs us h hl
    rw [dif_neg (by simpa using hl)]
    exact ⟨us.toArray, rfl, by simpa using h⟩
  match rs, us, h with
  | [], [], h => exact tup [] [] h (by simp)
  | [(true, xs)], [u], h => exact h.1
  | [(false, [c])], [u], h => exact h.1
  | [(false, [])], [u], h => exact h.1.elim
  | [(false, _ :: _ :: _)], [u], h => exact h.1.elim
  | p :: q :: rs, u :: u' :: us, h =>
    have e : retA (p :: q :: rs) = .tup (p :: q :: rs) := by
      obtain ⟨b, l⟩ := p
      cases b
      · cases l with
        | nil => rfl
        | cons x l => cases l <;> rfl
      · rfl
    rw [e]
    exact tup _ _ h (by simp)

theorem frameF_get : ∀ (args : List AV) (F : Fm) (t0 t : Nat) (v : AV), (frameF F t0 args).get t = some v → (t0 ≤ t ∧ args[t - t0]? = some v) ∨ F.get t = some v
  | [], F, t0, t, v, h => .inr h
  | a :: args, F, t0, t, v, h => by
    rcases frameF_get args (F.put t0 (some a)) (t0 + 1) t v h with ⟨h1, h2⟩ | h1
    · refine .inl ⟨by omega, ?_⟩
      rw [show t - t0 = (t - (t0 + 1)) + 1 by omega, List.getElem?_cons_succ]
      exact h2
    · rw [PT.get_put] at h1
      split at h1
      · rename_i ht
        subst ht
        cases h1
        exact .inl ⟨Nat.le_refl _, by simp⟩
      · exact .inr h1

theorem resF_ok {ρ : PM} {F : Fm} {H : HP} {a : Act} {w : World} (hf : FRel n ρ F a) (hH : HRel ρ H w) {r : ResultVar} {p : Bool × List Cel} (h : resF P H F r = some p) :
    ∃ u, (match r with | .tmp t => pure (a.tmps.getD t undef) | .cell x t => do loadVar t (← asAddr (a.tmps.getD x undef)) : Sem Value).run P w = .ok u w ∧ PRel ρ p u := by
  cases r with
  | tmp t =>
    simp only [resF] at h
    split at h
    · rename_i c ht
      cases h
      obtain ⟨u, hu, hr⟩ := hf.get t _ ht
      exact ⟨u, by simp [Array.getD_eq_getD_getElem?, hu], hr⟩
    · rename_i xs ht
      cases h
      obtain ⟨u, hu, hr⟩ := hf.get t _ ht
      exact ⟨u, by simp [Array.getD_eq_getD_getElem?, hu], hr⟩
    · cases h
  | cell x t =>
    simp only [resF] at h
    split at h
    · rename_i b off ag n ht hs
      obtain ⟨cs, hcs, rfl⟩ := map_some h
      obtain ⟨u, hu, L, hL, he⟩ := hf.get x _ ht
      obtain ⟨us, hl, hrel, hc⟩ := HP.read_world hcs hH hL
      refine ⟨mkV ag us, ?_, ?_⟩
      · simp only [Array.getD_eq_getD_getElem?, hu, Option.getD_some, he, asAddr, Sem.run_bind, Sem.run_pure, Result.andThen_ok]
        exact run_loadVar hs hl hc
      · cases ag with
        | true => exact ⟨us.toArray, rfl, by simpa using hrel⟩
        | false =>
          have hl1 : us.length = 1 := hl
          have hl2 : cs.length = 1 := by rw [hrel.length]; exact hl1
          match cs, us, hl1, hl2, hrel with
          | [c], [u'], _, _, hrel => exact hrel.1
    · cases h

theorem resAll_ok {ρ : PM} {F : Fm} {H : HP} {a : Act} {w : World} (hf : FRel n ρ F a) (hH : HRel ρ H w) : ∀ (rs : List ResultVar) {ps : List (Bool × List Cel)}, allSome (rs.map (resF P H F)) = some ps →
    ∃ us, (rs.mapM fun | .tmp t => pure (a.tmps.getD t undef) | .cell x t => do loadVar t (← asAddr (a.tmps.getD x undef)) : Sem (List Value)).run P w = .ok us w ∧ All2 (PRel ρ) ps us
  | [], ps, h => by cases h; exact ⟨[], rfl, trivial⟩
  | r :: rs, ps, h => by
    simp only [List.map_cons] at h
    cases hr : resF P H F r with
    | none => rw [hr] at h; cases h
    | some p =>
      rw [hr] at h
      simp only [allSome] at h
      obtain ⟨qs, hq, rfl⟩ := map_some h
      obtain ⟨u, hu, hrel⟩ := resF_ok hf hH hr
      obtain ⟨us, hus, hrels⟩ := resAll_ok hf hH rs hq
      refine ⟨u :: us, ?_, hrel, hrels⟩
      simp only [List.mapM_cons, Sem.run_bind]
      rw [hu]
      simp only [Result.andThen_ok]
      rw [hus]
      rfl

/-- An object on which no known block lies, laid since the start, is another. -/
theorem Sim.unowned {ρ ρ' : PM} {H H' : HP} {w w' : World} {D : Nat} {o : Obj} (s : Sim ρ H w ρ' H' w') (hD : w.heap.size ≤ D) (hno : ∀ b L, H'.Kn b → ρ' b = some L → L.B ≠ D) (hlt0 : ∀ b L, H.Kn b → ρ b = some L → L.B < w.heap.size) : Sim ρ H w ρ' H' (w'.putObj D o) where
  le := s.le
  grow := s.grow
  dom := s.dom
  rel := ⟨fun b i c L hc hL => (s.rel.rel b i c L hc hL).of_heap (World.putObj_heap_other (hno b L ⟨i, c, hc⟩ hL)), s.rel.inj⟩
  knc := s.knc
  frc := fun b L i g1 g2 g3 g4 => (s.frc b L i g1 g2 g3 g4).trans (SameAt.of_heap (World.putObj_heap_other (by have := hlt0 b L g1 g3; omega)) _)
  fr := fun k hk hno' => by rw [World.putObj_heap_other (by omega)]; exact s.fr k hk hno'
  new := s.new
  size := by rw [World.putObj_size]; exact s.size
  os := s.os
  tape := s.tape
  output := s.output
  old := s.old

theorem leave_marks {ρ ρ' : PM} {H H' : HP} {w : World} {fn : Func} {tmps : Array Value} {R : Ending → World → Prop} (hlt0 : ∀ b L, H.Kn b → ρ b = some L → L.B < w.heap.size)
    (hend : ∀ w', Sim ρ H w ρ' H' w' → ∃ v, (results fn tmps).run P w' = .ok v w' ∧ R (.returned v) w') : ∀ (ds : List Deferred) (w' : World), Sim ρ H w ρ' H' w' → DfOK ρ' H' w' w.heap.size ds → LeavesInM Fence.wide 0 P fn tmps R ds .returning w'
  | [], w', s, _ => hend w' s
  | d :: ds, w', s, ⟨⟨D, h1, hm, h2, h3, h7⟩, h⟩ => by
    refine ⟨by simp, .inl ⟨D, _, by rw [h1], run_takeDeferred h2, leave_marks hlt0 hend ds _ (s.unowned hm h3 hlt0) ?_⟩⟩
    have keep : ∀ (es : List Deferred), (∀ d' ∈ es, ∀ D', d'.target = .collected D' → D' ≠ D) → DfOK ρ' H' w' w.heap.size es → DfOK ρ' H' (w'.putObj D (.deferred none)) w.heap.size es := by
      intro es
      induction es with
      | nil => exact fun _ _ => trivial
      | cons e es ih =>
        rintro hne ⟨⟨D', g1, gm, g2, g3, g7⟩, g⟩
        exact ⟨⟨D', g1, gm, by rw [World.putObj_heap_other (hne e (List.mem_cons_self ..) D' (by rw [g1]))]; exact g2, g3, g7⟩, ih (fun d' hd' => hne d' (List.mem_cons_of_mem _ hd')) g⟩
    exact keep ds h7 h

/-- One function's contract, at arguments and a heap: its outcomes. -/
def CallOK (P : Program) (f : FuncId) (args : List AV) (H : HP) (Z : AV × HP → Prop) : Prop :=
  (∀ o, Z o → St H o.2) ∧ ∀ (ρ : PM) (w : World) (us : Array Value), All2 (VRel ρ) args us.toList → HRel ρ H w → Dom ρ H.n → J ρ w → GivesR P (fun u w' => ∃ o, Z o ∧ Post ρ H w o.1 o.2 u w') ((callFunc f us).run P w)
theorem CallOK.weaken {f : FuncId} {args : List AV} {H : HP} {Z Z' : AV × HP → Prop} (h : CallOK P f args H Z) (hz : ∀ o, Z o → ∃ o2, Z' o2 ∧ Wk o o2) (hst : ∀ o, Z' o → St H o.2) : CallOK P f args H Z' :=
  ⟨hst, fun ρ w us hu hH hd hj => GivesR.mono (fun u w' ⟨o, ho, ρ1, hv, hs⟩ => by
    obtain ⟨o2, h1, h2⟩ := hz o ho
    obtain ⟨ρ2, g1, g2⟩ := h2 ρ1 u w' hv hs.rel hs.dom
    exact ⟨o2, h1, ρ2, g1, hs.trans hd g2⟩) (h.2 ρ w us hu hH hd hj)⟩

/-- A function's contract from its body. -/
theorem callOK_of_code {f : FuncId} {fn : Func} {c : Code} {args : List AV} {H : HP} {Zc : Oc → Prop} {Z : AV × HP → Prop} (hf : P.funcs[f]? = some fn) (hb : fn.body = some c) (hcall : ∀ us w, (callFunc f us).run P w = .ok (.enter f us) w)
    (hlen : args.length ≤ fn.ntmps) (K : CodeOK P fn.ntmps 0 none none c (frameF .nil 0 args) H Zc) (hend : ∀ x, Zc x → ∃ o, endOc P fn x = some o ∧ Z o) (hst : ∀ o, Z o → St H o.2) : CallOK P f args H Z := by
  refine ⟨hst, fun ρ w us hargs hH hd hj => ?_⟩
  rw [hcall]
  show Calls P f us w _
  refine callsIn_wide.1 (callsIn_of_wp_marks (F := Fence.wide) (n := 0) hf hb trivial ?_)
  have hal := hargs.length
  simp only [Array.length_toList] at hal
  have s0 : SRel fn.ntmps ρ (frameF .nil 0 args) H { tmps := us ++ Array.replicate (fn.ntmps - us.size) Go.undef, defers := [] } w := by
    refine ⟨⟨by simp; omega, fun t v hv => ?_⟩, hH, hd, hj⟩
    rcases frameF_get args .nil 0 t v hv with ⟨_, h1⟩ | h1
    · obtain ⟨u, hu, hr⟩ := hargs.get _ _ h1
      rw [Nat.sub_zero, Array.getElem?_toList] at hu
      exact ⟨u, by rw [Array.getElem?_append_left (Array.getElem?_eq_some_iff.1 hu).1]; exact hu, hr⟩
    · rw [PT.get_nil] at h1; cases h1
  refine K.wp (m0 := w.heap.size) s0 trivial (Nat.le_refl _) (DfOK.nil _ _ _ _) fun x hx ρ' a' w' s' hdf hs' => ?_
  obtain ⟨o, ho, hZ⟩ := hend x hx
  obtain ⟨e, F, H1⟩ := x
  have he : e = .nrm ∨ e = .rt := by
    cases e with
    | nrm => exact .inl rfl
    | rt => exact .inr rfl
    | ext id => cases ho
  have ho' : endF P fn F H1 = some o := by rcases he with rfl | rfl <;> exact ho
  obtain ⟨rs, hrs, rfl⟩ := map_some ho'
  have hpost : LeavesInM Fence.wide 0 P fn a'.tmps (fun r w'' => ∃ u', r = .returned u' ∧ ∃ o, Z o ∧ Post ρ H w o.1 o.2 u' w'') a'.defers .returning w' := by
    refine leave_marks (fun b L ⟨i, c, hc⟩ hL => (hH.rel b i c L hc hL).lt) (fun w2 hs2 => ?_) _ _ hs' hdf
    obtain ⟨vs, hvs, hvr⟩ := resAll_ok (P := P) (w := w2) s'.fr hs2.rel _ hrs
    refine ⟨(if hh : vs.toArray.size = 1 then vs.toArray[0] else .tuple vs.toArray), ?_, _, rfl, _, hZ, ρ', retA_rel hvr, hs2⟩
    unfold results
    rw [Sem.run_bind, Array.mapM_eq_mapM_toList, Sem.run_map]
    exact congrArg (fun r : Result (List Value) => (r.andThen fun a w' => Result.ok a.toArray w').andThen fun a w' => Sem.run P (pure (if h : a.size = 1 then a[0] else Value.tuple a)) w') hvs
  rcases he with rfl | rfl
  · exact hpost
  · exact hpost

theorem fresh_rel {ρ : PM} {H : HP} {w : World} (h : HRel ρ H w) : HRel ρ H.fresh w := ⟨h.rel, h.inj⟩
theorem Sim.unfresh {ρ ρ' : PM} {H H' : HP} {w w' : World} (h : Sim ρ H.fresh w ρ' H' w') : Sim ρ H w ρ' H' w' := ⟨h.le, h.grow, h.dom, h.rel, h.knc, h.frc, h.fr, h.new, h.size, h.os, h.tape, h.output, h.old⟩
theorem lower_st {H G : HP} (h : St H.fresh G) : St H (G.lower H.lo) := by
  obtain ⟨⟨h1, h2⟩, h3⟩ := h
  refine ⟨⟨(minN_le _ _).1, fun b hb hb' => h2 b ?_ hb'⟩, h3⟩
  have := (minN_le H.lo G.lo).2
  simp only [HP.lower] at hb
  omega

theorem runFn_ok (hm : P.follows .mixedOrders = true) (hora : OraMOK P ora) (hent : ∀ g, ent g = true → ∀ us w, (callFunc g us).run P w = .ok (.enter g us) w) {f : FuncId} {fn : Func} {c : Code} {args : List AV} {H : HP} {outs : List (AV × HP)}
    (hf : P.funcs[f]? = some fn) (hb : fn.body = some c) (hcall : ∀ us w, (callFunc f us).run P w = .ok (.enter f us) w) (hfl : flowAll c = true)
    (h : runFn P ora ent fuel fn c args H = some outs) : CallOK P f args H (· ∈ outs) := by
  unfold runFn at h
  split at h
  · rename_i hlen
    have hlen := Nat.le_of_ble_eq_true hlen
    split at h
    · rename_i l hc
      split at h
      · rename_i outs0 ho
        cases h
        obtain ⟨h1, h2⟩ := allSome_mem ho
        have K := codeA_ok (n := fn.ntmps) (m := 0) (rb := none) (r := none) hm hora hent c hfl hc
        have hst0 : ∀ o ∈ outs0, St H.fresh o.2 := fun o ho' => by
          obtain ⟨x, hx, hxe⟩ := h2 o ho'
          obtain ⟨e, F, H1⟩ := x
          have : ∃ rs : List (Bool × List Cel), o = (retA rs, H1) := by
            cases e with
            | ext id => cases hxe
            | nrm => obtain ⟨rs, _, hv⟩ := map_some hxe; exact ⟨rs, hv.symm⟩
            | rt => obtain ⟨rs, _, hv⟩ := map_some hxe; exact ⟨rs, hv.symm⟩
          obtain ⟨rs, rfl⟩ := this
          exact K.st _ hx
        have k1 : CallOK P f args H.fresh (· ∈ outs0) := callOK_of_code hf hb hcall hlen K (fun x hx => by obtain ⟨o, g1, g2⟩ := h1 x hx; exact ⟨o, g2, g1⟩) hst0
        obtain ⟨t1, t2⟩ := tidyG_spec H.n outs0
        refine ⟨fun o ho' => ?_, fun ρ w us hu hH hd hj => GivesR.mono (fun u w' ⟨o, hZ, ρ1, hv, hs⟩ => ?_) (k1.2 ρ w us hu (fresh_rel hH) hd hj)⟩
        · obtain ⟨o1, g1, rfl⟩ := List.mem_map.1 ho'
          obtain ⟨o2, g2, g3⟩ := t2 o1 g1
          exact lower_st ((hst0 o2 g2).trans g3)
        · obtain ⟨o2, g1, g2⟩ := t1 o hZ
          obtain ⟨ρ2, g3, g4⟩ := g2 ρ1 u w' hv hs.rel hs.dom
          obtain ⟨ρ3, g5, g6⟩ := (Wk.cells (v := o2.1) (H := o2.2) (H' := o2.2.lower H.lo) (Nat.le_refl _) fun _ _ => rfl) ρ2 u w' g3 g4.rel g4.dom
          exact ⟨_, List.mem_map.2 ⟨o2, g1, rfl⟩, ρ3, g5, (hs.unfresh.trans hd g4).trans hd g6⟩
      · cases h
    · cases h
  · cases h

/-! ### Tables -/
abbrev Tbl := List (FuncId × Func × Code)
def Tbl.ok (P : Program) (l : Tbl) : Prop := ∀ p ∈ l, P.funcs[p.1]? = some p.2.1 ∧ p.2.1.body = some p.2.2 ∧ (∀ us w, (callFunc p.1 us).run P w = .ok (.enter p.1 us) w) ∧ flowAll p.2.2 = true
theorem Tbl.ok_nil : Tbl.ok P [] := fun _ h => by cases h
def bodyOf (fn : Func) : Code := fn.body.getD .skip
theorem run_enter {f : FuncId} {fn : Func} {c : Code} (hf : P.funcs[f]? = some fn) (hname : (fn.name == "runtime.NumGoroutine") = false) (hb : fn.body = some c) (args : Array Value) (w : World) :
    (callFunc f args).run P w = .ok (.enter f args) w := by
  have h1 : fn.name ≠ "runtime.NumGoroutine" := by simpa using hname
  simp [callFunc, hf, h1, hb]
/-- What is asked of a function of the table, as one test. -/
def fnTest (fn : Func) : Bool := !(fn.name == "runtime.NumGoroutine") && (match fn.body with | some c => flowAll c | none => false)
theorem Tbl.ok_cons {f : FuncId} {fn : Func} {l : Tbl} (hf : P.funcs[f]? = some fn) (ht : fnTest fn = true) (hl : Tbl.ok P l) : Tbl.ok P ((f, fn, bodyOf fn) :: l) := by
  intro p hp
  rcases List.mem_cons.1 hp with rfl | hp
  · unfold fnTest at ht
    simp only [Bool.and_eq_true, Bool.not_eq_true'] at ht
    obtain ⟨h1, h2⟩ := ht
    split at h2
    · rename_i c hc
      have hb : fn.body = some (bodyOf fn) := by unfold bodyOf; rw [hc]; rfl
      refine ⟨hf, hb, fun us w => run_enter hf h1 hb us w, ?_⟩
      show flowAll (bodyOf fn) = true
      unfold bodyOf
      rw [hc]
      exact h2
    · cases h2
  · exact hl p hp

noncomputable section
/-- The table as a tree by number. -/
def treeT (l : Tbl) : PT (Func × Code) := List.rec (motive := fun _ => PT (Func × Code)) .nil (fun p _ ih => ih.put p.1 (some p.2)) l
/-- Each function of the table is evaluated where it is called, to a depth. -/
def entT (T : PT (Func × Code)) (g : FuncId) : Bool :=
  match T.get g with
  | some _ => true
  | none => false
def oraN (P : Program) [Plain P] (T : PT (Func × Code)) (base : OraM) (fuel : Nat) (k : Nat) : OraM :=
  Nat.rec (motive := fun _ => OraM) base (fun _ ih t args H => match t with
    | .f f => match base (.f f) args H with
      | some outs => some outs
      | none => match T.get f with
        | some (fn, c) => runFn P ih (entT T) fuel fn c args H
        | none => none
    | .y b => yieldA P ih (entT T) fuel b args H) k
end

theorem treeT_mem : ∀ {l : Tbl} {f : FuncId} {fn : Func} {c : Code}, (treeT l).get f = some (fn, c) → (f, fn, c) ∈ l
  | [], f, _, _, h => by
    have h' : (PT.nil : PT (Func × Code)).get f = _ := h
    rw [PT.get_nil] at h'; cases h'
  | (g, fn', c') :: l, f, fn, c, h => by
    have h' : ((treeT l).put g (some (fn', c'))).get f = some (fn, c) := h
    rw [PT.get_put] at h'
    split at h'
    · rename_i hg
      subst hg
      cases h'
      exact List.mem_cons_self ..
    · exact List.mem_cons_of_mem _ (treeT_mem h')

theorem entT_ok {tbl : Tbl} (ht : Tbl.ok P tbl) : ∀ g, entT (treeT tbl) g = true → ∀ us w, (callFunc g us).run P w = .ok (.enter g us) w := by
  intro g hg
  unfold entT at hg
  split at hg
  · rename_i p hp
    obtain ⟨fn, c⟩ := p
    exact (ht _ (treeT_mem hp)).2.2.1
  · cases hg

theorem oraN_ok (hm : P.follows .mixedOrders = true) {tbl : Tbl} (ht : Tbl.ok P tbl) {base : OraM} (hb : OraMOK P base) : ∀ k, OraMOK P (oraN P (treeT tbl) base fuel k)
  | 0 => hb
  | k + 1 => by
    intro t args H outs h
    have ih := oraN_ok hm ht hb k
    cases t with
    | f f =>
      have h' : (match base (.f f) args H with
        | some outs => some outs
        | none => match (treeT tbl).get f with
          | some (fn, c) => runFn P (oraN P (treeT tbl) base fuel k) (entT (treeT tbl)) fuel fn c args H
          | none => none) = some outs := h
      split at h'
      · rename_i outs' hbase
        cases h'
        exact hb _ args H _ hbase
      · split at h'
        · rename_i fn c hfind
          obtain ⟨h1, h2, h3, h4⟩ := ht _ (treeT_mem hfind)
          obtain ⟨k1, k2⟩ := runFn_ok hm ih (entT_ok ht) h1 h2 h3 h4 h'
          refine ⟨k1, fun ρ w us s hs => ?_⟩
          cases hs
          exact k2 ρ w us
        · cases h'
    | y b =>
      have h' : yieldA P (oraN P (treeT tbl) base fuel k) (entT (treeT tbl)) fuel b args H = some outs := h
      obtain ⟨k1, k2⟩ := yieldA_ok hm ih (entT_ok ht) h'
      refine ⟨k1, fun ρ w us s hs => ?_⟩
      obtain ⟨L, hL, rfl⟩ := hs
      exact k2 ρ w us L hL

theorem base_none : OraMOK P (fun _ _ _ => none) := fun _ _ _ _ h => by cases h

/-- A closed run. -/
theorem closed_ok (hm : P.follows .mixedOrders = true) {tbl : Tbl} (ht : Tbl.ok P tbl) {base : OraM} (hb : OraMOK P base) {fuel k : Nat} {f : FuncId} {args : List AV} {H : HP} {outs : List (AV × HP)}
    (h : oraN P (treeT tbl) base fuel k (.f f) args H = some outs) : CallOK P f args H (· ∈ outs) :=
  ⟨(oraN_ok hm ht hb k _ args H outs h).1, fun ρ w us => (oraN_ok hm ht hb k _ args H outs h).2 ρ w us _ rfl⟩

/-- Do all outcomes hand back true? -/
noncomputable def allTrue (r : RM) : Bool :=
  match r with
  | some outs => outs.all fun o => match o.1 with
    | .one (.lit (.bool b)) => b
    | _ => false
  | none => false
theorem allTrue_spec {r : RM} (h : allTrue r = true) : ∃ outs, r = some outs ∧ ∀ o ∈ outs, o.1 = .one (.lit (.bool true)) := by
  unfold allTrue at h
  split at h
  · rename_i outs
    refine ⟨outs, rfl, fun o ho => ?_⟩
    have := List.all_eq_true.1 h o ho
    split at this
    · rename_i b hb
      subst this
      exact hb
    · cases this
  · cases h

def emptyH : HP := ⟨.nil, 0, 0⟩
theorem Sim.olds {ρ ρ' : PM} {H : HP} {w w' : World} (s : Sim ρ emptyH w ρ' H w') : ∀ k, k < w.heap.size → w'.heap[k]? = w.heap[k]? := fun k hk => s.fr k hk fun b L ⟨i, c, hc⟩ => (HP.cell_nil hc).elim

/-- A contract on an empty heap: what a call hands back; the world has at most new blocks. -/
theorem CallOK.walk {f : FuncId} {args : List AV} {v : Value} {Z : AV × HP → Prop} {us : Array Value} (h : CallOK P f args emptyH Z) (hz : ∀ o, Z o → o.1 = .one (.lit v)) (hu : All2 (VRel fun _ => none) args us.toList) (hcall : ∀ us w, (callFunc f us).run P w = .ok (.enter f us) w) (w : World) (hg : ∀ B o, globG = some (B, o) → TabG w B o) :
    Calls P f us w fun e w' => e = .returned v ∧ (∀ k, k < w.heap.size → w'.heap[k]? = w.heap[k]?) ∧ w.heap.size ≤ w'.heap.size ∧ w'.os = w.os ∧ w'.output = w.output ∧ w'.tape = w.tape := by
  have h1 := h.2 (fun _ => none) w us hu ⟨fun b i c L hc => (HP.cell_nil hc).elim, fun b b' L L' ⟨i, c, hc⟩ => (HP.cell_nil hc).elim⟩ (fun _ _ => rfl) (fun B o h => ⟨hg B o h, fun b L hL => by cases hL⟩)
  rw [hcall] at h1
  refine Calls.mono h1 fun e w' ⟨u, he, o, ho, ρ', hv, hw⟩ => ?_
  rw [hz o ho] at hv
  exact ⟨by rw [he, hv.1], hw.olds, hw.size, hw.os, hw.output, hw.tape⟩
end Go.Fv

set_option linter.unusedSectionVars false
set_option linter.unusedVariables false
namespace Go.Fv
variable {P : Program} [Plain P] {H : HP} {w : World} {ρ : PM}

/-- Bytes three ways. -/
def cmpI : List Int → List Int → Int
  | [], [] => 0
  | [], _ :: _ => -1
  | _ :: _, [] => 1
  | x :: xs, y :: ys => match Nat.blt x.toNat y.toNat with
    | true => -1
    | false => match Nat.blt y.toNat x.toNat with
      | true => 1
      | false => cmpI xs ys
noncomputable def bytesL (H : HP) (v : AV) : Option (List Int) :=
  match v with
  | .one (.lit (.slice none _ _)) => some []
  | .one (.sz _ _) => some []
  | v => match baseA v with
    | some (b, off, len) => match H.read b off len with
      | some cs => intsOf cs
      | none => none
    | none => none

theorem intsOf_range : ∀ {cs : List Cel} {ns : List Int} {us : List Value}, intsOf cs = some ns → All2 (CRel ρ) cs us → ∀ n ∈ ns, 0 ≤ n ∧ n ≤ 255
  | [], ns, us, h, hr => by cases h; exact fun _ h => by cases h
  | .lit (.int .u8 n) :: cs, ns, us, h, hr => by
    simp only [intsOf] at h
    split at h
    · rename_i ns' hns
      cases h
      cases us with
      | nil => exact hr.elim
      | cons u us =>
        obtain ⟨⟨_, h1⟩, h2⟩ := hr
        intro m hm
        rcases List.mem_cons.1 hm with rfl | hm
        · have h' : (decide ((0 : Int) ≤ m) && decide (m ≤ (255 : Int))) = true := h1
          rwa [Bool.and_eq_true, decide_eq_true_eq, decide_eq_true_eq] at h'
        · exact intsOf_range hns h2 m hm
    · cases h

theorem bytesL_ok {v : AV} {u : Value} {xs : List Int} (h : bytesL H v = some xs) (hv : VRel ρ v u) (hH : HRel ρ H w) : (Extern.Bytes.bytesOf u).run P w = .ok ⟨(Lib.bytesOf xs).toArray⟩ w ∧ ∀ n ∈ xs, 0 ≤ n ∧ n ≤ 255 := by
  unfold bytesL at h
  split at h
  · cases h
    obtain ⟨rfl, _⟩ := hv
    exact ⟨rfl, fun _ h => by cases h⟩
  · cases h
    obtain ⟨L, off, cap, hL, rfl, _⟩ := hv
    exact ⟨rfl, fun _ h => by cases h⟩
  · split at h
    · rename_i b off len hb
      split at h
      · rename_i cs hcs
        obtain ⟨L, cap, hL, rfl, h1, h2⟩ := baseA_rel hb hv
        obtain ⟨us, hl, hrel, hcell⟩ := HP.read_world hcs hH hL
        have hus := intsOf_rel h hrel
        refine ⟨?_, intsOf_range h hrel⟩
        have hlen : xs.length = len := by rw [← hl, hus]; simp
        have := Lib.run_loadBytesX (P := P) (w := w) xs ⟨L.B, L.o + off, none⟩ .empty (fun j x hj => by
          rw [add_addr]
          exact hcell j _ (by rw [hus, List.getElem?_map, hj]; rfl))
        rw [hlen] at this
        show (Extern.Bytes.loadBytes ⟨L.B, L.o + off, none⟩ len .empty).run P w = _
        rw [this]
        congr 2
        simp
      · cases h
    · cases h

theorem cmpI_eq : ∀ {xs ys : List Int}, (∀ n ∈ xs, 0 ≤ n ∧ n ≤ 255) → (∀ n ∈ ys, 0 ≤ n ∧ n ≤ 255) → Lib.compareBytes (Lib.bytesOf xs) (Lib.bytesOf ys) = cmpI xs ys
  | [], [], _, _ => rfl
  | [], _ :: _, _, _ => rfl
  | _ :: _, [], _, _ => rfl
  | x :: xs, y :: ys, hx, hy => by
    have ih := cmpI_eq (fun n hn => hx n (List.mem_cons_of_mem _ hn)) (fun n hn => hy n (List.mem_cons_of_mem _ hn))
    obtain ⟨a1, a2⟩ := hx x (List.mem_cons_self ..)
    obtain ⟨b1, b2⟩ := hy y (List.mem_cons_self ..)
    have key : ∀ a b : Int, 0 ≤ a → a ≤ 255 → 0 ≤ b → b ≤ 255 → (a.toNat.toUInt8 < b.toNat.toUInt8 ↔ a.toNat < b.toNat) := by
      intro a b h1 h2 h3 h4
      rw [UInt8.lt_iff_toNat_lt]
      simp only [Nat.toUInt8, UInt8.toNat_ofNat']
      rw [Nat.mod_eq_of_lt (by omega), Nat.mod_eq_of_lt (by omega)]
    show (if x.toNat.toUInt8 < y.toNat.toUInt8 then (-1 : Int) else if y.toNat.toUInt8 < x.toNat.toUInt8 then 1 else Lib.compareBytes (Lib.bytesOf xs) (Lib.bytesOf ys)) = _
    rw [ih]
    simp only [key x y a1 a2 b1 b2, key y x b1 b2 a1 a2, cmpI]
    by_cases h1 : x.toNat < y.toNat
    · have e1 : Nat.blt x.toNat y.toNat = true := by simp [Nat.blt_eq, h1]
      rw [if_pos h1, e1]
    · have e1 : Nat.blt x.toNat y.toNat = false := by rw [Bool.eq_false_iff]; simp [Nat.blt_eq, h1]
      rw [if_neg h1, e1]
      by_cases h2 : y.toNat < x.toNat
      · have e2 : Nat.blt y.toNat x.toNat = true := by simp [Nat.blt_eq, h2]
        rw [if_pos h2, e2]
      · have e2 : Nat.blt y.toNat x.toNat = false := by rw [Bool.eq_false_iff]; simp [Nat.blt_eq, h2]
        rw [if_neg h2, e2]

theorem cmpI_range : ∀ (xs ys : List Int), cmpI xs ys = -1 ∨ cmpI xs ys = 0 ∨ cmpI xs ys = 1
  | [], [] => .inr (.inl rfl)
  | [], _ :: _ => .inl rfl
  | _ :: _, [] => .inr (.inr rfl)
  | x :: xs, y :: ys => by
    simp only [cmpI]
    split
    · exact .inl rfl
    · split
      · exact .inr (.inr rfl)
      · exact cmpI_range xs ys

noncomputable def compareO : List AV → HP → R := fun args H =>
  match args with
  | [a, b] => match bytesL H a, bytesL H b with
    | some x, some y => some (.one (.lit (.int .i64 (cmpI x y))), H)
    | _, _ => none
  | _ => none

/-- One function's contract. -/
def FnOK (P : Program) (f : FuncId) (g : List AV → HP → R) : Prop := ∀ (args : List AV) (H : HP) (v : AV) (H' : HP), g args H = some (v, H') → CallOK P f args H (· = (v, H'))

theorem compare_ok {f : FuncId} {fn : Func} (hf : P.funcs[f]? = some fn) (hname : (fn.name == "runtime.NumGoroutine") = false) (hb : fn.body.isNone = true) (hn : Extern.findNext fn = none) (he : Extern.find fn = some Extern.BytealgCompare.compare) : FnOK P f compareO := by
  intro args H v H' h
  unfold compareO at h
  split at h
  · rename_i a b
    split at h
    · rename_i x y hx hy
      cases h
      refine ⟨fun o ho => by subst ho; exact St.refl H, fun ρ w us hargs hH hd hj => ?_⟩
      obtain ⟨l⟩ := us
      match l, hargs with
      | [u, u'], hargs =>
        obtain ⟨h1, h2, _⟩ := hargs
        obtain ⟨r1, q1⟩ := bytesL_ok (P := P) hx h1 hH
        obtain ⟨r2, q2⟩ := bytesL_ok (P := P) hy h2 hH
        rw [run_callFunc_extern hf hname hb hn he]
        have hrun : (Extern.BytealgCompare.compare #[u, u']).run P w = .ok (.int .i64 (cmpI x y)) w := by
          change ((do pure (goInt (Extern.BytealgCompare.cmp (← Extern.Bytes.bytesOf u) (← Extern.Bytes.bytesOf u'))) : Sem Value).run P w) = _
          simp only [Sem.run_bind, r1, r2, Result.andThen_ok, Sem.run_pure, Lib.cmp_eq, cmpI_eq q1 q2, goInt]
        show GivesR P _ (((Extern.BytealgCompare.compare #[u, u']).run P w).andThen fun v w' => .ok (.value v) w')
        rw [hrun]
        refine ⟨_, rfl, ρ, ⟨rfl, ?_⟩, Sim.refl hH hd⟩
        rcases cmpI_range x y with h | h | h <;> rw [h] <;> decide
    · cases h
  · cases h

/-! ### A table of contracts -/
abbrev FnTbl := List (FuncId × (List AV → HP → R))
noncomputable def baseOf (l : FnTbl) : OraM := fun t args H =>
  match t with
  | .f f => List.rec (motive := fun _ => RM) none (fun p _ ih => match Nat.beq p.1 f with
    | true => single (p.2 args H)
    | false => ih) l
  | .y _ => none
theorem baseOf_ok {l : FnTbl} (h : ∀ p ∈ l, FnOK P p.1 p.2) : OraMOK P (baseOf l) := by
  intro t args H outs ho
  cases t with
  | y b => cases ho
  | f f =>
    have key : ∀ (l : FnTbl), (∀ p ∈ l, FnOK P p.1 p.2) → baseOf l (.f f) args H = some outs → CallOK P f args H (· ∈ outs) := by
      intro l
      induction l with
      | nil => intro _ h; cases h
      | cons p r ih =>
        intro hl h
        have h' : (match Nat.beq p.1 f with | true => single (p.2 args H) | false => baseOf r (.f f) args H) = some outs := h
        split at h'
        · rename_i hb
          have := Nat.eq_of_beq_eq_true hb
          obtain ⟨⟨v, H'⟩, h1, rfl⟩ := single_some h'
          have k := hl p (List.mem_cons_self ..) args H v H' h1
          rw [this] at k
          exact k.weaken (fun o ho => ⟨o, by rw [ho]; exact List.mem_singleton.2 rfl, Wk.refl o⟩) (fun o ho => by rw [List.mem_singleton.1 ho]; exact k.1 _ rfl)
        · exact ih (fun q hq => hl q (List.mem_cons_of_mem _ hq)) h'
    obtain ⟨k1, k2⟩ := key l h ho
    exact ⟨k1, fun ρ w us s hs => by cases hs; exact k2 ρ w us⟩
end Go.Fv

set_option linter.unusedSectionVars false
set_option linter.unusedVariables false
namespace Go.Fv
variable {P : Program} [Plain P] {H H' : HP} {w : World} {ρ : PM}

/-! ### Tables of contracts with several outcomes -/
def FnOKM (P : Program) (f : FuncId) (g : List AV → HP → RM) : Prop := ∀ (args : List AV) (H : HP) (outs : List (AV × HP)), g args H = some outs → CallOK P f args H (· ∈ outs)
abbrev FnTblM := List (FuncId × (List AV → HP → RM))
noncomputable def baseM (l : FnTblM) : OraM := fun t args H =>
  match t with
  | .f f => List.rec (motive := fun _ => RM) none (fun p _ ih => match Nat.beq p.1 f with
    | true => p.2 args H
    | false => ih) l
  | .y _ => none
theorem baseM_ok {l : FnTblM} (h : ∀ p ∈ l, FnOKM P p.1 p.2) : OraMOK P (baseM l) := by
  intro t args H outs ho
  cases t with
  | y b => cases ho
  | f f =>
    have key : ∀ (l : FnTblM), (∀ p ∈ l, FnOKM P p.1 p.2) → baseM l (.f f) args H = some outs → CallOK P f args H (· ∈ outs) := by
      intro l
      induction l with
      | nil => intro _ h; cases h
      | cons p r ih =>
        intro hl h
        have h' : (match Nat.beq p.1 f with | true => p.2 args H | false => baseM r (.f f) args H) = some outs := h
        split at h'
        · rename_i hb
          have := Nat.eq_of_beq_eq_true hb
          have k := hl p (List.mem_cons_self ..) args H outs h'
          rw [this] at k
          exact k
        · exact ih (fun q hq => hl q (List.mem_cons_of_mem _ hq)) h'
    obtain ⟨k1, k2⟩ := key l h ho
    exact ⟨k1, fun ρ w us s hs => by cases hs; exact k2 ρ w us⟩
theorem FnOK.many {f : FuncId} {g : List AV → HP → R} (h : FnOK P f g) : FnOKM P f (fun args H => single (g args H)) := by
  intro args H outs ho
  obtain ⟨⟨v, H'⟩, h1, rfl⟩ := single_some ho
  have k := h args H v H' h1
  exact k.weaken (fun o ho => ⟨o, by rw [ho]; exact List.mem_singleton.2 rfl, Wk.refl o⟩) (fun o ho => by rw [List.mem_singleton.1 ho]; exact k.1 _ rfl)
theorem oraN_fn (hm : P.follows .mixedOrders = true) {tbl : Tbl} (ht : Tbl.ok P tbl) {base : OraM} (hb : OraMOK P base) (fuel k : Nat) (f : FuncId) : FnOKM P f (oraN P (treeT tbl) base fuel k (.f f)) := fun _ _ _ h => closed_ok hm ht hb h

/-! ### Do two slices overlap? Either answer. -/
noncomputable def overlapsO : List AV → HP → RM := fun args H =>
  match args with
  | [x, y] => match baseA x, baseA y with
    | some (b1, o1, _), some (b2, o2, _) => match H.hasAt b1 o1, H.hasAt b2 o2 with
      | true, true => some [(.one (.lit (.bool false)), H), (.one (.lit (.bool true)), H)]
      | _, _ => none
    | _, _ => none
  | _ => none

theorem run_overlaps_any {a b : Addr} {la ca lb cb : Nat} {ps rs : Array TypeId} {t e : TypeId} {size : Nat} (hp : ps[0]? = some t) (ht : P.underlying t = some (.slice e)) (hz : (sizeOf e).run P w = .ok size w) {tA tB : TypeId} {arrA arrB : Array Value} {frA frB : Nat × Nat}
    (hsa : w.heap[a.block]? = some (.cells arrA tA frA)) (hsb : w.heap[b.block]? = some (.cells arrB tB frB)) (hfa : w.frozen? a = false) (hfb : w.frozen? b = false) (hA : arrA.size ≠ 0) (hB : arrB.size ≠ 0) :
    ∃ (r : Bool) (w' : World), (Extern.SlicesOverlaps.overlaps ps rs #[.slice (some a) la ca, .slice (some b) lb cb]).run P w = .ok (.bool r) w' ∧ (w' = w ∨ w' = w.drew) := by
  have hshA : w.shape? a.block = some (tA, arrA.size) := by unfold World.shape?; rw [hsa]
  have hshB : w.shape? b.block = some (tB, arrB.size) := by unfold World.shape?; rw [hsb]
  have hst : ∀ (x : Addr) (tX : TypeId) (n : Nat), w.shape? x.block = some (tX, n) → w.frozen? x = false → (stringish x).run P w = .ok (w.frozen? { block := x.block, off := n }) w := by
    intro x tX n h1 h2
    simp [stringish, frozen, shape, Sem.run, h1, h2]
  have hshr : ∀ (x : Addr) (tX : TypeId) (n : Nat), w.shape? x.block = some (tX, n) → n ≠ 0 → ((do pure ((← shape x.block) matches some (_, 0))) : Sem Bool).run P w = .ok false w := by
    intro x tX n h1 h2
    cases n with
    | zero => exact absurd rfl h2
    | succ n => simp [shape, Sem.run, h1]
  have hmb : ∃ q, (mayBeOne a b).run P w = .ok q w := by
    obtain ⟨kA, hkA⟩ := Nat.exists_eq_succ_of_ne_zero hA
    obtain ⟨kB, hkB⟩ := Nat.exists_eq_succ_of_ne_zero hB
    refine ⟨w.frozen? { block := a.block, off := arrA.size } && w.frozen? { block := b.block, off := arrB.size }, ?_⟩
    unfold mayBeOne
    simp only [Sem.run_bind, hst a tA _ hshA hfa, hst b tB _ hshB hfb, Result.andThen_ok]
    simp [shape, Sem.run, hshA, hshB, hkA, hkB]
  obtain ⟨q, hq⟩ := hmb
  have hv : ∀ (x : Addr) (tX : TypeId) (n : Nat), w.shape? x.block = some (tX, n) → (noView x).run P w = .ok () w := by
    intro x tX n h1
    simp [noView, viewAt, shape, Sem.run, h1]
  have hpa : (frozen a).run P w = .ok false w := by simp [frozen, Sem.run, hfa]
  have hrun : (Extern.SlicesOverlaps.overlaps ps rs #[.slice (some a) la ca, .slice (some b) lb cb]).run P w = (do
      if la = 0 ∨ lb = 0 ∨ size = 0 then pure (Value.bool false)
      else if a.block != b.block && (← frozen a) && (← frozen b) then unsupported .addressObserved
      else do
        if a.block != b.block then do
          noView a; noView b
          if ← mayBeOne a b then return Value.bool ((← choose (.extern "sameAddr.stringBytes" 2)) == 1)
        pure (Value.bool (a.block == b.block && a.off < b.off + lb * size && b.off < a.off + la * size)) : Sem Value).run P w := by
    change Sem.run P (α := Value) (do
      let some t := ps[0]? | stuck "slices.overlaps: no parameter types"
      let .slice elem ← underlying t | stuck "slices.overlaps: slice type expected"
      let size ← sizeOf elem
      match (some a : Option Addr), (some b : Option Addr) with
      | some a, some b =>
        if la = 0 ∨ lb = 0 ∨ size = 0 then pure (Value.bool false)
        else if a.block != b.block && (← frozen a) && (← frozen b) then unsupported .addressObserved
        else do
          if a.block != b.block then do
            noView a; noView b
            if ← mayBeOne a b then return Value.bool ((← choose (.extern "sameAddr.stringBytes" 2)) == 1)
          pure (Value.bool (a.block == b.block && a.off < b.off + lb * size && b.off < a.off + la * size))
      | _, _ => pure (Value.bool false)) w = _
    simp only [hp, Sem.run_bind, run_underlying ht, Result.andThen_ok, hz]
  rw [hrun]
  by_cases h0 : la = 0 ∨ lb = 0 ∨ size = 0
  · rw [if_pos h0]
    exact ⟨_, w, rfl, .inl rfl⟩
  · rw [if_neg h0]
    by_cases hne : a.block = b.block
    · have hb : (a.block != b.block) = false := by simp [hne]
      simp only [hb, Bool.false_and, Bool.false_eq_true, if_false, Sem.run_bind, hpa, Result.andThen_ok]
      have hfr : (frozen b).run P w = .ok (w.frozen? b) w := by simp [frozen, Sem.run]
      rw [hfr]
      exact ⟨_, w, rfl, .inl rfl⟩
    · have hb : (a.block != b.block) = true := by simp [hne]
      have hch : ∃ n w', (choose (.extern "sameAddr.stringBytes" 2)).run P w = .ok n w' ∧ (w' = w ∨ w' = w.drew) := by
        rw [run_choose_drew]
        split
        · exact ⟨_, _, rfl, .inl rfl⟩
        · exact ⟨_, _, rfl, .inr rfl⟩
      obtain ⟨n, w', hch, hw'⟩ := hch
      have hfr : (frozen b).run P w = .ok (w.frozen? b) w := by simp [frozen, Sem.run]
      simp only [hb, Bool.true_and, Sem.run_bind, hpa, hfr, Result.andThen_ok, Bool.false_and, Bool.false_eq_true, if_false, if_true, hv a tA _ hshA, hv b tB _ hshB, hq]
      cases q with
      | true => exact ⟨_, w', by simp only [if_true, Sem.run_bind, hch, Result.andThen_ok, Sem.run_pure]; rfl, hw'⟩
      | false => exact ⟨_, w, by simp only [Bool.false_eq_true, if_false, Sem.run_bind, Result.andThen_ok, Sem.run_pure]; rfl, .inl rfl⟩

theorem overlaps_ok {f : FuncId} {fn : Func} {ps rs : Array TypeId} {t e : TypeId} {ag : Bool} {size : Nat} (hf : P.funcs[f]? = some fn) (hname : (fn.name == "runtime.NumGoroutine") = false) (hb : fn.body.isNone = true) (hn : Extern.findNext fn = none) (he : Extern.find fn = some (Extern.SlicesOverlaps.overlaps ps rs))
    (hp : ps[0]? = some t) (ht : P.underlying t = some (.slice e)) (hz : szA P e = some (ag, size)) : FnOKM P f overlapsO := by
  intro args H outs h
  unfold overlapsO at h
  split at h
  · rename_i x y
    split at h
    · rename_i b1 o1 l1 b2 o2 l2 hx hy
      split at h
      · rename_i ha hb'
        cases h
        refine ⟨fun o ho => ?_, fun ρ w us hargs hH hd hj => ?_⟩
        · rcases List.mem_cons.1 ho with rfl | ho
          · exact St.refl _
          · rw [List.mem_singleton.1 ho]; exact St.refl _
        · obtain ⟨l⟩ := us
          match l, hargs with
          | [u1, u2], ⟨r1, r2, _⟩ =>
            obtain ⟨L1, c1, hL1, rfl, _, _⟩ := baseA_rel hx r1
            obtain ⟨L2, c2, hL2, rfl, _, _⟩ := baseA_rel hy r2
            obtain ⟨x1, hc1, hp1⟩ := HP.hasAt_spec ha
            obtain ⟨x2, hc2, hp2⟩ := HP.hasAt_spec hb'
            obtain ⟨arr1, t1, fr1, a1, a2, a3, a4⟩ := plc_rel (hH.rel b1 _ x1 L1 hc1 hL1) hp1
            obtain ⟨arr2, t2, fr2, d1, d2, d3, d4⟩ := plc_rel (hH.rel b2 _ x2 L2 hc2 hL2) hp2
            obtain ⟨r, w', hrun, hw⟩ := run_overlaps_any (P := P) (w := w) (a := ⟨L1.B, L1.o + o1, none⟩) (b := ⟨L2.B, L2.o + o2, none⟩) (la := l1) (ca := c1) (lb := l2) (cb := c2) (rs := rs) hp ht (run_sizeOf hz w) a1 d1 (frozen?_of a1 a2 a4) (frozen?_of d1 d2 d4) (by omega) (by omega)
            rw [run_callFunc_extern hf hname hb hn he]
            show GivesR P _ (((Extern.SlicesOverlaps.overlaps ps rs #[_, _]).run P w).andThen fun v w' => .ok (.value v) w')
            rw [hrun]
            have hs : Sim ρ H w ρ H w' := by
              rcases hw with rfl | rfl
              · exact Sim.refl hH hd
              · exact Sim.same hH hd rfl rfl rfl rfl
            cases r with
            | false => exact ⟨_, List.mem_cons_self .., ρ, ⟨rfl, rfl⟩, hs⟩
            | true => exact ⟨_, List.mem_cons_of_mem _ (List.mem_singleton.2 rfl), ρ, ⟨rfl, rfl⟩, hs⟩
      · cases h
    · cases h
  · cases h

/-! ### A block told anew -/
theorem Sim.turn {b : Nat} {L L' : Loc} {k : Bk} (hH : HRel ρ H w) (hd : Dom ρ H.n) (hL : ρ b = some L) (hk : H.Kn b) (hB : L'.B = L.B) (hnew : ∀ i c, Bk.get k i = some c → CtRel (upd ρ H.n L') w L' i c) :
    Sim ρ H w (upd ρ H.n L') ((H.drop b).push k) w := by
  have hfrn := hd H.n (Nat.le_refl _)
  have hle : PM.le ρ (upd ρ H.n L') := upd_le hfrn
  have hcell : ∀ b' i, ((H.drop b).push k).cell b' i = if b' = H.n then Bk.get k i else if b' = b then none else H.cell b' i := by
    intro b' i
    rw [HP.cell_push, HP.cell_drop]
    rfl
  have hother : ∀ b' K i c, b' ≠ b → H.cell b' i = some c → ρ b' = some K → K.B ≠ L.B := fun b' K i c hne hc hK hB => hne (hH.inj b' b K L ⟨i, c, hc⟩ hk hK hL hB)
  exact {
    le := hle
    grow := Nat.le_succ _
    dom := fun b' hb' => by
      have h1 : H.n + 1 ≤ b' := hb'
      rw [upd_ne (by omega)]; exact hd b' (by omega)
    rel := by
      refine ⟨fun b' i c K hc hK => ?_, fun b' b2 K K' g1 g2 hK hK' he => ?_⟩
      · rw [hcell] at hc
        by_cases hb : b' = H.n
        · subst hb
          rw [if_pos rfl] at hc
          rw [upd_same] at hK
          cases hK
          exact hnew i c hc
        · rw [if_neg hb] at hc
          rw [upd_ne hb] at hK
          by_cases hbb : b' = b
          · rw [if_pos hbb] at hc; cases hc
          · rw [if_neg hbb] at hc
            exact (hH.rel b' i c K hc hK).mono hle
      · obtain ⟨i, c, hc⟩ := g1
        obtain ⟨i', c', hc'⟩ := g2
        rw [hcell] at hc hc'
        by_cases hb : b' = H.n <;> by_cases hb2 : b2 = H.n
        · rw [hb, hb2]
        · subst hb
          rw [upd_same] at hK; cases hK
          rw [if_neg hb2] at hc'
          rw [upd_ne hb2] at hK'
          by_cases hbb : b2 = b
          · rw [if_pos hbb] at hc'; cases hc'
          · rw [if_neg hbb] at hc'
            exact absurd (he.symm.trans hB) (hother b2 K' i' c' hbb hc' hK')
        · subst hb2
          rw [upd_same] at hK'; cases hK'
          rw [if_neg hb] at hc
          rw [upd_ne hb] at hK
          by_cases hbb : b' = b
          · rw [if_pos hbb] at hc; cases hc
          · rw [if_neg hbb] at hc
            exact absurd (he.trans hB) (hother b' K i c hbb hc hK)
        · rw [if_neg hb] at hc
          rw [if_neg hb2] at hc'
          rw [upd_ne hb] at hK
          rw [upd_ne hb2] at hK'
          by_cases hbb : b' = b
          · rw [if_pos hbb] at hc; cases hc
          · rw [if_neg hbb] at hc
            by_cases hbb2 : b2 = b
            · rw [if_pos hbb2] at hc'; cases hc'
            · rw [if_neg hbb2] at hc'
              exact hH.inj b' b2 K K' ⟨i, c, hc⟩ ⟨i', c', hc'⟩ hK hK' he
    knc := fun b' i hb hc => by
      rw [hcell, if_neg (by omega)]
      split
      · rfl
      · exact hc
    frc := fun _ _ _ _ _ _ _ => SameAt.of_heap rfl _
    fr := fun _ _ _ => rfl
    new := fun b' K h1 h2 => by
      by_cases hb : b' = H.n
      · subst hb; rw [upd_same] at h2; cases h2; exact .inr ⟨b, L, hk, hL, hB.symm⟩
      · rw [upd_ne hb, h1] at h2; cases h2
    size := Nat.le_refl _
    os := rfl
    tape := rfl
    output := rfl
    old := fun b' K h1 h2 => by
      by_cases hb : b' = H.n
      · omega
      · rw [upd_ne hb, h1] at h2; cases h2 }

/-- Cells, and so much room behind them. -/
noncomputable def roomB (cs : List Cel) (room : Nat) : Bk :=
  match room with
  | 0 => cellsB cs
  | r + 1 => .nd (lenC cs) (cellsB cs) (.lf (List.replicate (r + 1) (some .room)))
theorem roomB_get {cs : List Cel} {room i : Nat} {c : Ct} (h : Bk.get (roomB cs room) i = some c) : (∃ x, cs[i]? = some x ∧ c = .c x) ∨ (cs.length ≤ i ∧ i < cs.length + room ∧ c = .room) := by
  unfold roomB at h
  split at h
  · exact .inl (get_cellsB h)
  · rename_i r
    rw [Bk.get_nd, lenC_eq] at h
    split at h
    · exact .inl (get_cellsB h)
    · rename_i hi
      rw [Bk.get_lf, List.getElem?_replicate] at h
      split at h
      · rename_i hlt
        cases h
        exact .inr ⟨by omega, by omega, rfl⟩
      · cases h
/-- The cells of a slice that goes to its object's end, as a block of their own, with so much room behind them. -/
theorem Sim.turnC {b off n s : Nat} {cs : List Cel} {L : Loc} {room : Nat} (hH : HRel ρ H w) (hd : Dom ρ H.n) (hL : ρ b = some L) (hr : H.read b off n = some cs) (hn : 0 < n) (hroom : L.o + off + n + room ≤ L.C) :
    Sim ρ H w (upd ρ H.n ⟨L.B, L.o + off, L.C⟩) ((H.drop b).push (roomB cs room)) w := by
  obtain ⟨hl, hcell⟩ := HP.read_spec hr
  have h0 : cs[0]? = some cs[0] := List.getElem?_eq_getElem (by omega)
  have hk0 := hcell 0 _ h0
  have hk : H.Kn b := ⟨_, _, hk0⟩
  obtain ⟨arr0, t0, fr0, a1, a2, a3, a4⟩ := plc_rel (hH.rel b _ _ L hk0 hL) trivial
  have hle : PM.le ρ (upd ρ H.n ⟨L.B, L.o + off, L.C⟩) := upd_le (hd _ (Nat.le_refl _))
  refine Sim.turn hH hd hL hk rfl fun i c hc => ?_
  rcases roomB_get hc with ⟨x, hx, rfl⟩ | ⟨h1, h2, rfl⟩
  · obtain ⟨arr, t, fr, u, e1, e2, e3, e4, e5⟩ := hH.rel b _ _ L (hcell i x hx) hL
    exact ⟨arr, t, fr, u, e1, e2, e3, by show arr[L.o + off + i]? = some u; rw [Nat.add_assoc]; exact e4, e5.mono hle⟩
  · exact ⟨arr0, t0, fr0, a1, a2, a3, by show L.o + off + i < arr0.size; omega⟩

/-! ### All capacities -/
noncomputable section
def rangeN (k : Nat) : List Nat := Nat.rec (motive := fun _ => List Nat) [] (fun k ih => k :: ih) k
def highO (run : List AV → HP → RM) (H : HP) (b off n s m : Nat) (rest : List AV) : RM :=
  match H.read b off (n * s) with
  | some cs => run (.one (.su H.n 0 n s) :: rest) ((H.drop b).push (roomB cs (m * s)))
  | none => none
/-- The result's cells as a block of their own. -/
def renO (o : AV × HP) : AV × HP :=
  match o.1 with
  | .one (.su b off n s) => match o.2.read b off (n * s), Nat.ble 1 (n * s) with
    | some cs, true => (.one (.su o.2.n 0 n s), (o.2.drop b).push (roomB cs 0))
    | _, _ => o
  | _ => o
def dropO (b : Nat) (o : AV × HP) : AV × HP := (o.1, o.2.drop b)
def tidyR (n0 b : Nat) (outs : List (AV × HP)) : List (AV × HP) :=
  mergeG (outs.map fun x => gcG n0 (dropO b (renO (setN (maxN outs 0) (minLo outs n0) x)))) []
def splitO (run : List AV → HP → RM) : List AV → HP → RM := fun args H =>
  match args with
  | .one (.su b off n s) :: i :: v :: [] => match srcLen v, Nat.ble 1 (n * s) with
    | some m, true => match bindL (fun k => run [.one (.sl b off n (n + k)), i, v] H) (rangeN m), highO run H b off n s m [i, v] with
      | some l1, some l2 => some (tidyR H.n b (l1 ++ l2))
      | _, _ => none
    | _, _ => none
  | _ => none
end
theorem mem_rangeN : ∀ {m k : Nat}, k < m → k ∈ rangeN m
  | 0, _, h => by omega
  | m + 1, k, h => by
    show k ∈ m :: rangeN m
    rcases Nat.lt_or_ge k m with h1 | h1
    · exact List.mem_cons_of_mem _ (mem_rangeN h1)
    · rw [show k = m by omega]; exact List.mem_cons_self ..

theorem renO_spec (o : AV × HP) : Wk o (renO o) ∧ St o.2 (renO o).2 := by
  obtain ⟨v, G⟩ := o
  unfold renO
  split
  · rename_i b off n s hv
    simp only at hv
    subst hv
    split
    · rename_i cs hr hn
      have hn := Nat.le_of_ble_eq_true hn
      refine ⟨fun ρ u w h1 h2 h3 => ?_, (St.drop G b).trans (St.push _ _)⟩
      obtain ⟨L, cap, hL, rfl, g1, g2, g3⟩ := h1
      have hle : n * s ≤ cap * s := Nat.mul_le_mul_right _ g1
      refine ⟨_, ⟨⟨L.B, L.o + off, L.C⟩, cap, upd_same _ _ _, rfl, g1, g2, ?_⟩, Sim.turnC (s := s) h2 h3 hL hr hn (by omega)⟩
      exact g3
    · exact ⟨Wk.refl _, St.refl _⟩
  · exact ⟨Wk.refl _, St.refl _⟩

theorem tidyR_spec (n0 b : Nat) (outs : List (AV × HP)) : (∀ o ∈ outs, ∃ o2 ∈ tidyR n0 b outs, Wk o o2) ∧ ∀ o2 ∈ tidyR n0 b outs, ∃ o ∈ outs, St o.2 o2.2 := by
  unfold tidyR
  have key : ∀ x : AV × HP, Wk x (gcG n0 (dropO b (renO (setN (maxN outs 0) (minLo outs n0) x)))) ∧ St x.2 (gcG n0 (dropO b (renO (setN (maxN outs 0) (minLo outs n0) x)))).2 := fun x => by
    obtain ⟨g1, g2⟩ := setN_spec (maxN outs 0) (minLo outs n0) x
    obtain ⟨g3, g4⟩ := renO_spec (setN (maxN outs 0) (minLo outs n0) x)
    obtain ⟨g5, g6⟩ := gcG_spec n0 (dropO b (renO (setN (maxN outs 0) (minLo outs n0) x)))
    exact ⟨((g1.trans g3).trans (Wk.drop _ _ b)).trans g5, ((g2.trans g4).trans (St.drop _ b)).trans g6⟩
  obtain ⟨h1, h2⟩ := mergeG_spec (outs.map fun x => gcG n0 (dropO b (renO (setN (maxN outs 0) (minLo outs n0) x)))) []
  refine ⟨fun x hx => ?_, fun y hy => ?_⟩
  · obtain ⟨o2, g1, g2⟩ := h1 _ (.inl (List.mem_map.2 ⟨x, hx, rfl⟩))
    exact ⟨o2, g1, (key x).1.trans g2⟩
  · rcases h2 y hy with hy | hy
    · obtain ⟨x, hx, rfl⟩ := List.mem_map.1 hy
      exact ⟨x, hx, (key x).2⟩
    · cases hy

theorem splitO_ok {f : FuncId} {run : List AV → HP → RM} (hrun : FnOKM P f run) : FnOKM P f (splitO run) := by
  intro args H outs h
  unfold splitO at h
  split at h
  · rename_i b off n s i v
    split at h
    · rename_i m hm hns
      have hns := Nat.le_of_ble_eq_true hns
      split at h
      · rename_i l1 l2 h1 h2
        cases h
        obtain ⟨k1, k1'⟩ := bindL_spec h1
        unfold highO at h2
        split at h2
        · rename_i cs hr
          have K2 := hrun _ _ _ h2
          have base : CallOK P f [.one (.su b off n s), i, v] H (· ∈ l1 ++ l2) := by
            refine ⟨fun o ho => ?_, fun ρ w us hargs hH hd hj => ?_⟩
            · rcases List.mem_append.1 ho with ho | ho
              · obtain ⟨k, hk, zs, g1, g2⟩ := k1' o ho
                exact (hrun _ _ _ g1).1 o g2
              · exact ((St.drop H b).trans (St.push _ _)).trans (K2.1 o ho)
            · obtain ⟨l⟩ := us
              match l, hargs with
              | [u0, u1, u2], ⟨r0, r1, r2, _⟩ =>
                obtain ⟨L, cap, hL, rfl, g1, g2, g3⟩ := r0
                rcases Nat.lt_or_ge cap (n + m) with hlt | hge
                · obtain ⟨zs, z1, z2⟩ := k1 (cap - n) (mem_rangeN (by omega))
                  refine GivesR.mono (fun u w' ⟨o, ho, hp⟩ => ⟨o, List.mem_append_left _ (z2 o ho), hp⟩) ((hrun _ _ _ z1).2 ρ w _ ?_ hH hd hj)
                  exact ⟨⟨⟨L, hL, by rw [show n + (cap - n) = cap by omega]⟩, by omega, by omega⟩, r1, r2, trivial⟩
                · have hle : (n + m) * s ≤ cap * s := Nat.mul_le_mul_right _ hge
                  have hle' : n * s + m * s ≤ cap * s := by rw [← Nat.add_mul]; exact hle
                  have hs := Sim.turnC (s := s) (room := m * s) hH hd hL hr hns (by omega)
                  refine GivesR.mono (fun u w' ⟨o, ho, ρ2, hv, hp⟩ => ⟨o, List.mem_append_right _ ho, ρ2, hv, hs.trans hd hp⟩) (K2.2 _ w _ ?_ hs.rel hs.dom (hj.step hs))
                  exact ⟨⟨⟨L.B, L.o + off, L.C⟩, cap, upd_same _ _ _, rfl, g1, g2, g3⟩, r1.mono hs.le, r2.mono hs.le, trivial⟩
          obtain ⟨t1, t2⟩ := tidyR_spec H.n b (l1 ++ l2)
          exact base.weaken t1 fun o2 ho2 => by
            obtain ⟨o, ho, hst⟩ := t2 o2 ho2
            exact (base.1 o ho).trans hst
        · cases h2
      · cases h
    · cases h
  · cases h
end Go.Fv

set_option linter.unusedSectionVars false
set_option linter.unusedVariables false
namespace Go.Fv

/-! ### The seal's words -/
def shaK : List Nat := [0x428a2f98, 0x71374491, 0xb5c0fbcf, 0xe9b5dba5, 0x3956c25b, 0x59f111f1, 0x923f82a4, 0xab1c5ed5, 0xd807aa98, 0x12835b01, 0x243185be, 0x550c7dc3, 0x72be5d74, 0x80deb1fe, 0x9bdc06a7, 0xc19bf174, 0xe49b69c1, 0xefbe4786, 0x0fc19dc6, 0x240ca1cc, 0x2de92c6f, 0x4a7484aa, 0x5cb0a9dc, 0x76f988da, 0x983e5152, 0xa831c66d, 0xb00327c8, 0xbf597fc7, 0xc6e00bf3, 0xd5a79147, 0x06ca6351, 0x14292967, 0x27b70a85, 0x2e1b2138, 0x4d2c6dfc, 0x53380d13, 0x650a7354, 0x766a0abb, 0x81c2c92e, 0x92722c85, 0xa2bfe8a1, 0xa81a664b, 0xc24b8b70, 0xc76c51a3, 0xd192e819, 0xd6990624, 0xf40e3585, 0x106aa070, 0x19a4c116, 0x1e376c08, 0x2748774c, 0x34b0bcb5, 0x391c0cb3, 0x4ed8aa4a, 0x5b9cca4f, 0x682e6ff3, 0x748f82ee, 0x78a5636f, 0x84c87814, 0x8cc70208, 0x90befffa, 0xa4506ceb, 0xbef9a3f7, 0xc67178f2]
def shaInit : List Nat := [0x6a09e667, 0xbb67ae85, 0x3c6ef372, 0xa54ff53a, 0x510e527f, 0x9b05688c, 0x1f83d9ab, 0x5be0cd19]
noncomputable section
/-- A word turned right, by n, is the low half of this, moved. -/
def dbl (x : Nat) : Nat := Nat.mul x 4294967297
def bs0 (y : Nat) : Nat := Nat.mod (Nat.xor (Nat.xor (Nat.shiftRight y 2) (Nat.shiftRight y 13)) (Nat.shiftRight y 22)) 4294967296
def bs1 (y : Nat) : Nat := Nat.mod (Nat.xor (Nat.xor (Nat.shiftRight y 6) (Nat.shiftRight y 11)) (Nat.shiftRight y 25)) 4294967296
def ss0 (x y : Nat) : Nat := Nat.xor (Nat.mod (Nat.xor (Nat.shiftRight y 7) (Nat.shiftRight y 18)) 4294967296) (Nat.shiftRight x 3)
def ss1 (x y : Nat) : Nat := Nat.xor (Nat.mod (Nat.xor (Nat.shiftRight y 17) (Nat.shiftRight y 19)) 4294967296) (Nat.shiftRight x 10)
def nextW (a0 a1 a9 a14 : Nat) : Nat := force (dbl a14) fun y => force (dbl a1) fun z => Nat.mod (Nat.add (Nat.add (ss1 a14 y) a9) (Nat.add (ss0 a1 z) a0)) 4294967296
/-- The words' schedule: k more words behind the last sixteen (the oldest first). -/
def schedN (k : Nat) : List Nat → List Nat :=
  Nat.rec (motive := fun _ => List Nat → List Nat) (fun _ => []) (fun _ ih w =>
    match w with
    | [a0, a1, a2, a3, a4, a5, a6, a7, a8, a9, a10, a11, a12, a13, a14, a15] =>
      force (nextW a0 a1 a9 a14) fun x => x :: ih [a1, a2, a3, a4, a5, a6, a7, a8, a9, a10, a11, a12, a13, a14, a15, x]
    | _ => []) k
def chN (e f g : Nat) : Nat := Nat.xor g (Nat.land e (Nat.xor f g))
def majN (a b c : Nat) : Nat := Nat.lor (Nat.land a b) (Nat.land c (Nat.lor a b))
/-- The rounds, over the words; k: the constants. -/
def roundsN (ws : List Nat) : List Nat → Nat → Nat → Nat → Nat → Nat → Nat → Nat → Nat → List Nat :=
  List.rec (motive := fun _ => List Nat → Nat → Nat → Nat → Nat → Nat → Nat → Nat → Nat → List Nat) (fun _ a b c d e f g h => [a, b, c, d, e, f, g, h])
    (fun w _ ih ks a b c d e f g h => match ks with
      | [] => []
      | k :: ks => force (dbl e) fun y => force (Nat.add (Nat.add (Nat.add h (bs1 y)) (chN e f g)) (Nat.add k w)) fun t1 => force (dbl a) fun z =>
        force (Nat.mod (Nat.add d t1) 4294967296) fun e' => force (Nat.mod (Nat.add t1 (Nat.add (bs0 z) (majN a b c))) 4294967296) fun a' => ih ks a' a b c e' e f g) ws
def add32 (x y : Nat) : Nat := Nat.mod (Nat.add x y) 4294967296
def addsN : List Nat → List Nat → List Nat
  | x :: xs, y :: ys => force (add32 x y) fun z => z :: addsN xs ys
  | _, _ => []
/-- One block: the eight words behind it. -/
def blockN (h w : List Nat) : List Nat :=
  match h with
  | [a, b, c, d, e, f, g, i] => addsN h (roundsN (w ++ schedN 48 w) shaK a b c d e f g i)
  | _ => []
def wordsN : List Nat → List Nat
  | a :: b :: c :: d :: r => force (Nat.add (Nat.mul (Nat.add (Nat.mul (Nat.add (Nat.mul a 256) b) 256) c) 256) d) fun x => x :: wordsN r
  | _ => []
def sixteen (w : List Nat) : Option (List Nat × List Nat) :=
  match w with
  | a0 :: a1 :: a2 :: a3 :: a4 :: a5 :: a6 :: a7 :: a8 :: a9 :: a10 :: a11 :: a12 :: a13 :: a14 :: a15 :: r => some ([a0, a1, a2, a3, a4, a5, a6, a7, a8, a9, a10, a11, a12, a13, a14, a15], r)
  | _ => none
def blocksN (fuel : Nat) : List Nat → List Nat → List Nat :=
  Nat.rec (motive := fun _ => List Nat → List Nat → List Nat) (fun h _ => h) (fun _ ih h w => match sixteen w with
    | some (x, r) => ih (blockN h x) r
    | none => h) fuel
def byteOf (x k : Nat) : Nat := Nat.mod (Nat.shiftRight x k) 256
def fourB (x : Nat) : List Nat := [byteOf x 24, byteOf x 16, byteOf x 8, byteOf x 0]
def padN (n : Nat) : List Nat := 128 :: (List.replicate ((119 - n % 64) % 64) 0 ++ (fourB (Nat.shiftRight (Nat.mul n 8) 32) ++ fourB (Nat.mod (Nat.mul n 8) 4294967296)))
def sumN (b : List Nat) : List Nat :=
  match blocksN (b.length / 64 + 2) shaInit (wordsN (b ++ padN b.length)) with
  | a :: b :: c :: d :: _ => fourB a ++ (fourB b ++ (fourB c ++ fourB d))
  | _ => []
def natsOf : List Int → List Nat
  | [] => []
  | x :: r => x.toNat :: natsOf r
def celsN : List Nat → List Cel
  | [] => []
  | x :: r => force x fun x => .lit (.int .u8 (Int.ofNat x)) :: celsN r
/-- dev -/
def sumO : List AV → HP → R := fun args H =>
  match args with
  | [a] => match bytesL H a with
    | some xs => some (.agg (celsN (sumN (natsOf xs))), H)
    | none => none
  | _ => none
def ctzN (fuel : Nat) : Nat → Nat → Nat := Nat.rec (motive := fun _ => Nat → Nat → Nat) (fun _ k => k) (fun _ ih x k => match Nat.beq (Nat.mod x 2) 1 with | true => k | false => ih (Nat.div x 2) (Nat.succ k)) fuel
def ctzO : List AV → HP → R := fun args H =>
  match args with
  | [.one (.lit (.int .u64 x))] => some (.one (.lit (.int .i64 (Int.ofNat (ctzN 64 x.toNat 0)))), H)
  | _ => none
end
example : sumN [] = [0xe3, 0xb0, 0xc4, 0x42, 0x98, 0xfc, 0x1c, 0x14, 0x9a, 0xfb, 0xf4, 0xc8, 0x99, 0x6f, 0xb9, 0x24] := by decide +kernel
example : sumN [97, 98, 99] = [0xba, 0x78, 0x16, 0xbf, 0x8f, 0x01, 0xcf, 0xea, 0x41, 0x41, 0x40, 0xde, 0x5d, 0xae, 0x22, 0x23] := by decide +kernel
end Go.Fv
