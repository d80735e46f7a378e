/-
  A second abstract evaluator of the model's code: records of loops over functions. Conditions: none; nothing here speaks of one program.
-/
import Derived.Test.YtinhlbmlopkgiaaGreatDoorFvQ
import Derived.Test.YtinhlbmlopkgiaaGreatDoorFvO
import Derived.RangeFuncMany
import Derived.RangeFuncRecord
set_option linter.unusedSectionVars false
set_option linter.unusedVariables false
namespace Go.Fv
variable {P : Program} [Plain P] {n : Nat} {H H' : HP} {w : World} {ρ : PM}

structure LoopC where
  st : LoopState
  pend : Option Code
  n : Nat
  F : Fm
  ps : Array Tmp
  assign : Code
  body : Code
def LoopC.ct (l : LoopC) : Ct := .loop l.st l.pend l.n l.F l.ps l.assign l.body
noncomputable section
def loopAt (H : HP) (b : Nat) : Option LoopC :=
  match H.t.get b with
  | some [some (.loop st pend n F ps assign body)] => some ⟨st, pend, n, F, ps, assign, body⟩
  | _ => none
end

theorem loopAt_spec {b : Nat} {l : LoopC} (h : loopAt H b = some l) : H.cell b 0 = some l.ct ∧ ∀ i, i ≠ 0 → H.cell b i = none := by
  unfold loopAt at h
  split at h
  · rename_i st pend n F ps assign body hk
    cases h
    refine ⟨by unfold HP.cell; rw [hk]; rfl, fun i hi => ?_⟩
    obtain ⟨j, rfl⟩ := Nat.exists_eq_succ_of_ne_zero hi
    unfold HP.cell
    rw [hk]
    rfl
  · cases h


/-- The record is another. -/
theorem Sim.record {b : Nat} {l l' : LoopC} {L : Loc} {r r' : Loop} (hH : HRel ρ H w) (hd : Dom ρ H.n) (hL : ρ b = some L) (hl : loopAt H b = some l) (hr : w.heap[L.B]? = some (.loop r)) (hsame : l'.n = l.n ∧ l'.F = l.F ∧ l'.ps = l.ps ∧ l'.assign = l.assign ∧ l'.body = l.body)
    (hr' : r' = { r with state := l'.st, pending := l'.pend }) : Sim ρ H w ρ (H.obj b l'.ct) (w.putObj L.B (.loop r')) := by
  obtain ⟨hc, hone⟩ := loopAt_spec hl
  obtain ⟨h1, h2, r0, g1, g2, g3, g4, g5, g6, g7, g8⟩ := hH.rel b 0 _ L hc hL
  rw [hr] at g1
  cases g1
  obtain ⟨e1, e2, e3, e4, e5⟩ := hsame
  have hlt := (Array.getElem?_eq_some_iff.1 hr).1
  refine Sim.setObj hH hd hL ⟨_, hc⟩ hone (fun arr t fr h => by rw [hr] at h; cases h) ?_ (fun k hk => World.putObj_heap_other hk) (by simp [World.putObj]) rfl rfl rfl
  refine ⟨rfl, h2, r', World.putObj_heap_same hlt, ?_⟩
  subst hr'
  exact ⟨rfl, rfl, by rw [e3]; exact g4, by rw [e4]; exact g5, by rw [e5]; exact g6, by rw [e1]; exact g7, by rw [e2]; exact g8⟩

theorem loop_rel {b : Nat} {l : LoopC} {L : Loc} (hH : HRel ρ H w) (hL : ρ b = some L) (hl : loopAt H b = some l) : ∃ r : Loop, w.heap[L.B]? = some (.loop r) ∧ r.state = l.st ∧ r.pending = l.pend ∧ r.params = l.ps ∧ r.assign = l.assign ∧ r.body = l.body ∧ FRel l.n ρ l.F ⟨r.tmps, []⟩ := by
  obtain ⟨hc, hone⟩ := loopAt_spec hl
  obtain ⟨h1, h2, r0, g1, g2, g3, g4, g5, g6, g7, g8⟩ := hH.rel b 0 _ L hc hL
  exact ⟨r0, g1, g2, g3, g4, g5, g6, g7, g8⟩


/-- The frame is in a round of that loop, or in none. -/
def RR (ρ : PM) : Option Nat → Option Nat → Prop
  | none, none => True
  | some b, some l => ∃ L, ρ b = some L ∧ L.B = l
  | _, _ => False
theorem RR.mono {ρ' : PM} (h : PM.le ρ ρ') : ∀ {rb r : Option Nat}, RR ρ rb r → RR ρ' rb r
  | none, none, _ => trivial
  | some _, some _, ⟨L, h1, h2⟩ => ⟨L, h _ _ h1, h2⟩
  | none, some _, hh => hh.elim
  | some _, none, hh => hh.elim

theorem run_enterLoop_inner {lz : Nat} {r0 : Loop} (fn : FuncId) (tmps : Array Value) (ps : Array Tmp) (assign body : Code) (h : w.heap[lz]? = some (.loop r0)) :
    (Instr.enterLoop fn tmps ps assign body (some lz)).run P w = .ok (w.heap.size, []) (w.alloc (.loop { state := .ready, pending := none, fn, tmps, params := ps, assign, body, defers := r0.defers })) := by
  unfold Instr.enterLoop
  simp only [Sem.run_bind, run_getLoop h, run_newObj_alloc, Result.andThen, Sem.run_pure]

noncomputable def aroundOK (H : HP) : Option Nat → Bool
  | none => true
  | some b => (loopAt H b).isSome

/-- A loop over a function is entered: its record is a new block. -/
theorem enter_ok {F : Fm} {a : Act} {rb r : Option Nat} {m0 : Nat} {ps : Array Tmp} {assign body : Code} (s : SRel n ρ F H a w) (hr : RR ρ rb r) (ha : aroundOK H rb = true) (hm0 : m0 ≤ w.heap.size) (df : DfOK ρ H w m0 a.defers) (fn : FuncId) :
    ∃ (l : Nat) (mark : List Deferred) (w₁ : World) (ρ1 : PM), (Instr.enterLoop fn a.tmps ps assign body r).run P w = .ok (l, mark) w₁ ∧ Sim ρ H w ρ1 (H.push [some (.loop .ready none n F ps assign body)]) w₁ ∧ ρ1 H.n = some ⟨l, 0, 0⟩ ∧
      DfOK ρ1 (H.push [some (.loop .ready none n F ps assign body)]) w₁ m0 (mark ++ a.defers) := by
  have hrec : ∀ (w0 : World) (df0 : Nat), HRel ρ H w0 → Sim ρ H w0 (upd ρ H.n ⟨w0.heap.size, 0, 0⟩) (H.push [some (.loop .ready none n F ps assign body)]) (w0.alloc (.loop { state := .ready, pending := none, fn, tmps := a.tmps, params := ps, assign, body, defers := df0 })) := by
    intro w0 df0 hH0
    have hle : PM.le ρ (upd ρ H.n ⟨w0.heap.size, 0, 0⟩) := upd_le (s.dom _ (Nat.le_refl _))
    refine Sim.alloc hH0 s.dom rfl fun i c hc => ?_
    cases i with
    | zero =>
      cases hc
      refine ⟨rfl, rfl, _, by rw [heap_alloc, if_pos rfl], rfl, rfl, rfl, rfl, rfl, s.fr.sz, fun t v hv => ?_⟩
      obtain ⟨u, h1, h2⟩ := s.fr.get t v hv
      exact ⟨u, h1, h2.mono hle⟩
    | succ i => cases (show (none : Option Ct) = some c from hc)
  cases rb with
  | some b =>
    cases r with
    | none => exact hr.elim
    | some lz =>
      obtain ⟨L, hL, rfl⟩ := hr
      simp only [aroundOK, Option.isSome_iff_exists] at ha
      obtain ⟨l0, hl0⟩ := ha
      obtain ⟨r0, hr0, _⟩ := loop_rel s.hp hL hl0
      have hs := hrec w r0.defers s.hp
      exact ⟨_, [], _, _, run_enterLoop_inner fn a.tmps ps assign body hr0, hs, upd_same _ _ _, DfOK.step s.dom hs df⟩
  | none =>
    cases r with
    | some lz => exact hr.elim
    | none =>
      have h0 := Sim.laid (o := .deferred (some [])) s.hp s.dom
      have hs := hrec (w.alloc (.deferred (some []))) w.heap.size h0.rel
      have hss := h0.trans s.dom hs
      refine ⟨_, _, _, _, run_enterLoop_outer fn a.tmps ps assign body, by
        have := hss
        simp only [World.size_alloc] at this
        exact this, upd_same _ _ _, ?_⟩
      have hdf := DfOK.step s.dom hss df
      refine ⟨⟨w.heap.size, rfl, hm0, ?_, fun b L hk hL => ?_, fun d' hd' D' ht => ?_⟩, by
        simp only [World.size_alloc] at hdf
        exact hdf⟩
      · rw [heap_alloc, if_neg (by rw [World.size_alloc]; omega), heap_alloc, if_pos rfl]
      · obtain ⟨i, c, hc⟩ := hk
        by_cases hb : b = H.n
        · subst hb
          rw [upd_same] at hL
          cases hL
          show w.heap.size + 1 ≠ w.heap.size
          omega
        · rw [HP.cell_push, if_neg hb] at hc
          rw [upd_ne hb] at hL
          have := (s.hp.rel b i c L hc hL).lt
          omega
      · clear hdf
        have : ∀ (ds : List Deferred), DfOK ρ H w m0 ds → d' ∈ ds → D' < w.heap.size := by
          intro ds
          induction ds with
          | nil => intro _ h; cases h
          | cons e es ih =>
            rintro ⟨⟨D, g1, _, g2, _⟩, g⟩ hmem
            rcases List.mem_cons.1 hmem with rfl | hmem
            · rw [g1] at ht
              cases ht
              exact (Array.getElem?_eq_some_iff.1 g2).1
            · exact ih g hmem
        have := this _ df hd'
        omega
end Go.Fv
