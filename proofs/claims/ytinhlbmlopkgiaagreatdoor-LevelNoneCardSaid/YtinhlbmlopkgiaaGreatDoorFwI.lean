/-
  A second abstract evaluator of the model's code: slices whose capacity decides: all capacities gone through; the run-time's answer whether two slices overlap. Conditions: none; nothing here speaks of one program.
-/
import Derived.Test.YtinhlbmlopkgiaaGreatDoorFwD
import Derived.Lib.Overlaps
set_option linter.unusedSectionVars false
set_option linter.unusedVariables false
namespace Go.Fv
variable {P : Program} [Plain P] {H H' : HP} {w : World} {ρ : PM}

/-! ### Tables of contracts with several outcomes -/
def FnOKM (P : Program) (f : FuncId) (g : List AV → HP → RM) : Prop := ∀ (args : List AV) (H : HP) (outs : List (AV × HP)), g args H = some outs → CallOK P f args H (· ∈ outs)
abbrev FnTblM := List (FuncId × (List AV → HP → RM))
noncomputable def baseM (l : FnTblM) : OraM := fun t args H =>
  match t with
  | .f f => List.rec (motive := fun _ => RM) none (fun p _ ih => match Nat.beq p.1 f with
    | true => p.2 args H
    | false => ih) l
  | .y _ => none
theorem baseM_ok {l : FnTblM} (h : ∀ p ∈ l, FnOKM P p.1 p.2) : OraMOK P (baseM l) := by
  intro t args H outs ho
  cases t with
  | y b => cases ho
  | f f =>
    have key : ∀ (l : FnTblM), (∀ p ∈ l, FnOKM P p.1 p.2) → baseM l (.f f) args H = some outs → CallOK P f args H (· ∈ outs) := by
      intro l
      induction l with
      | nil => intro _ h; cases h
      | cons p r ih =>
        intro hl h
        have h' : (match Nat.beq p.1 f with | true => p.2 args H | false => baseM r (.f f) args H) = some outs := h
        split at h'
        · rename_i hb
          have := Nat.eq_of_beq_eq_true hb
          have k := hl p (List.mem_cons_self ..) args H outs h'
          rw [this] at k
          exact k
        · exact ih (fun q hq => hl q (List.mem_cons_of_mem _ hq)) h'
    obtain ⟨k1, k2⟩ := key l h ho
    exact ⟨k1, fun ρ w us s hs => by cases hs; exact k2 ρ w us⟩
theorem FnOK.many {f : FuncId} {g : List AV → HP → R} (h : FnOK P f g) : FnOKM P f (fun args H => single (g args H)) := by
  intro args H outs ho
  obtain ⟨⟨v, H'⟩, h1, rfl⟩ := single_some ho
  have k := h args H v H' h1
  exact k.weaken (fun o ho => ⟨o, by rw [ho]; exact List.mem_singleton.2 rfl, Wk.refl o⟩) (fun o ho => by rw [List.mem_singleton.1 ho]; exact k.1 _ rfl)
theorem oraN_fn (hm : P.follows .mixedOrders = true) {tbl : Tbl} (ht : Tbl.ok P tbl) {base : OraM} (hb : OraMOK P base) (fuel k : Nat) (f : FuncId) : FnOKM P f (oraN P (treeT tbl) base fuel k (.f f)) := fun _ _ _ h => closed_ok hm ht hb h

/-! ### Do two slices overlap? Either answer. -/
noncomputable def overlapsO : List AV → HP → RM := fun args H =>
  match args with
  | [x, y] => match baseA x, baseA y with
    | some (b1, o1, _), some (b2, o2, _) => match H.hasAt b1 o1, H.hasAt b2 o2 with
      | true, true => some [(.one (.lit (.bool false)), H), (.one (.lit (.bool true)), H)]
      | _, _ => none
    | _, _ => none
  | _ => none

theorem run_overlaps_any {a b : Addr} {la ca lb cb : Nat} {ps rs : Array TypeId} {t e : TypeId} {size : Nat} (hp : ps[0]? = some t) (ht : P.underlying t = some (.slice e)) (hz : (sizeOf e).run P w = .ok size w) {tA tB : TypeId} {arrA arrB : Array Value} {frA frB : Nat × Nat}
    (hsa : w.heap[a.block]? = some (.cells arrA tA frA)) (hsb : w.heap[b.block]? = some (.cells arrB tB frB)) (hfa : w.frozen? a = false) (hfb : w.frozen? b = false) (hA : arrA.size ≠ 0) (hB : arrB.size ≠ 0) :
    ∃ (r : Bool) (w' : World), (Extern.SlicesOverlaps.overlaps ps rs #[.slice (some a) la ca, .slice (some b) lb cb]).run P w = .ok (.bool r) w' ∧ (w' = w ∨ w' = w.drew) := by
  have hshA : w.shape? a.block = some (tA, arrA.size) := by unfold World.shape?; rw [hsa]
  have hshB : w.shape? b.block = some (tB, arrB.size) := by unfold World.shape?; rw [hsb]
  have hst : ∀ (x : Addr) (tX : TypeId) (n : Nat), w.shape? x.block = some (tX, n) → w.frozen? x = false → (stringish x).run P w = .ok (w.frozen? { block := x.block, off := n }) w := by
    intro x tX n h1 h2
    simp [stringish, frozen, shape, Sem.run, h1, h2]
  have hshr : ∀ (x : Addr) (tX : TypeId) (n : Nat), w.shape? x.block = some (tX, n) → n ≠ 0 → ((do pure ((← shape x.block) matches some (_, 0))) : Sem Bool).run P w = .ok false w := by
    intro x tX n h1 h2
    cases n with
    | zero => exact absurd rfl h2
    | succ n => simp [shape, Sem.run, h1]
  have hmb : ∃ q, (mayBeOne a b).run P w = .ok q w := by
    obtain ⟨kA, hkA⟩ := Nat.exists_eq_succ_of_ne_zero hA
    obtain ⟨kB, hkB⟩ := Nat.exists_eq_succ_of_ne_zero hB
    refine ⟨w.frozen? { block := a.block, off := arrA.size } && w.frozen? { block := b.block, off := arrB.size }, ?_⟩
    unfold mayBeOne
    simp only [Sem.run_bind, hst a tA _ hshA hfa, hst b tB _ hshB hfb, Result.andThen_ok]
    simp [shape, Sem.run, hshA, hshB, hkA, hkB]
  obtain ⟨q, hq⟩ := hmb
  have hv : ∀ (x : Addr) (tX : TypeId) (n : Nat), w.shape? x.block = some (tX, n) → (noView x).run P w = .ok () w := by
    intro x tX n h1
    simp [noView, viewAt, shape, Sem.run, h1]
  have hpa : (frozen a).run P w = .ok false w := by simp [frozen, Sem.run, hfa]
  have hrun : (Extern.SlicesOverlaps.overlaps ps rs #[.slice (some a) la ca, .slice (some b) lb cb]).run P w = (do
      if la = 0 ∨ lb = 0 ∨ size = 0 then pure (Value.bool false)
      else if a.block != b.block && (← frozen a) && (← frozen b) then unsupported .addressObserved
      else do
        if a.block != b.block then do
          noView a; noView b
          if ← mayBeOne a b then return Value.bool ((← choose (.extern "sameAddr.stringBytes" 2)) == 1)
        pure (Value.bool (a.block == b.block && a.off < b.off + lb * size && b.off < a.off + la * size)) : Sem Value).run P w := by
    change Sem.run P (α := Value) (do
      let some t := ps[0]? | stuck "slices.overlaps: no parameter types"
      let .slice elem ← underlying t | stuck "slices.overlaps: slice type expected"
      let size ← sizeOf elem
      match (some a : Option Addr), (some b : Option Addr) with
      | some a, some b =>
        if la = 0 ∨ lb = 0 ∨ size = 0 then pure (Value.bool false)
        else if a.block != b.block && (← frozen a) && (← frozen b) then unsupported .addressObserved
        else do
          if a.block != b.block then do
            noView a; noView b
            if ← mayBeOne a b then return Value.bool ((← choose (.extern "sameAddr.stringBytes" 2)) == 1)
          pure (Value.bool (a.block == b.block && a.off < b.off + lb * size && b.off < a.off + la * size))
      | _, _ => pure (Value.bool false)) w = _
    simp only [hp, Sem.run_bind, run_underlying ht, Result.andThen_ok, hz]
  rw [hrun]
  by_cases h0 : la = 0 ∨ lb = 0 ∨ size = 0
  · rw [if_pos h0]
    exact ⟨_, w, rfl, .inl rfl⟩
  · rw [if_neg h0]
    by_cases hne : a.block = b.block
    · have hb : (a.block != b.block) = false := by simp [hne]
      simp only [hb, Bool.false_and, Bool.false_eq_true, if_false, Sem.run_bind, hpa, Result.andThen_ok]
      have hfr : (frozen b).run P w = .ok (w.frozen? b) w := by simp [frozen, Sem.run]
      rw [hfr]
      exact ⟨_, w, rfl, .inl rfl⟩
    · have hb : (a.block != b.block) = true := by simp [hne]
      have hch : ∃ n w', (choose (.extern "sameAddr.stringBytes" 2)).run P w = .ok n w' ∧ (w' = w ∨ w' = w.drew) := by
        rw [run_choose_drew]
        split
        · exact ⟨_, _, rfl, .inl rfl⟩
        · exact ⟨_, _, rfl, .inr rfl⟩
      obtain ⟨n, w', hch, hw'⟩ := hch
      have hfr : (frozen b).run P w = .ok (w.frozen? b) w := by simp [frozen, Sem.run]
      simp only [hb, Bool.true_and, Sem.run_bind, hpa, hfr, Result.andThen_ok, Bool.false_and, Bool.false_eq_true, if_false, if_true, hv a tA _ hshA, hv b tB _ hshB, hq]
      cases q with
      | true => exact ⟨_, w', by simp only [if_true, Sem.run_bind, hch, Result.andThen_ok, Sem.run_pure]; rfl, hw'⟩
      | false => exact ⟨_, w, by simp only [Bool.false_eq_true, if_false, Sem.run_bind, Result.andThen_ok, Sem.run_pure]; rfl, .inl rfl⟩

theorem overlaps_ok {f : FuncId} {fn : Func} {ps rs : Array TypeId} {t e : TypeId} {ag : Bool} {size : Nat} (hf : P.funcs[f]? = some fn) (hname : (fn.name == "runtime.NumGoroutine") = false) (hb : fn.body.isNone = true) (hn : Extern.findNext fn = none) (he : Extern.find fn = some (Extern.SlicesOverlaps.overlaps ps rs))
    (hp : ps[0]? = some t) (ht : P.underlying t = some (.slice e)) (hz : szA P e = some (ag, size)) : FnOKM P f overlapsO := by
  intro args H outs h
  unfold overlapsO at h
  split at h
  · rename_i x y
    split at h
    · rename_i b1 o1 l1 b2 o2 l2 hx hy
      split at h
      · rename_i ha hb'
        cases h
        refine ⟨fun o ho => ?_, fun ρ w us hargs hH hd => ?_⟩
        · rcases List.mem_cons.1 ho with rfl | ho
          · exact St.refl _
          · rw [List.mem_singleton.1 ho]; exact St.refl _
        · obtain ⟨l⟩ := us
          match l, hargs with
          | [u1, u2], ⟨r1, r2, _⟩ =>
            obtain ⟨L1, c1, hL1, rfl, _, _⟩ := baseA_rel hx r1
            obtain ⟨L2, c2, hL2, rfl, _, _⟩ := baseA_rel hy r2
            obtain ⟨x1, hc1, hp1⟩ := HP.hasAt_spec ha
            obtain ⟨x2, hc2, hp2⟩ := HP.hasAt_spec hb'
            obtain ⟨arr1, t1, fr1, a1, a2, a3, a4⟩ := plc_rel (hH.rel b1 _ x1 L1 hc1 hL1) hp1
            obtain ⟨arr2, t2, fr2, d1, d2, d3, d4⟩ := plc_rel (hH.rel b2 _ x2 L2 hc2 hL2) hp2
            obtain ⟨r, w', hrun, hw⟩ := run_overlaps_any (P := P) (w := w) (a := ⟨L1.B, L1.o + o1, none⟩) (b := ⟨L2.B, L2.o + o2, none⟩) (la := l1) (ca := c1) (lb := l2) (cb := c2) (rs := rs) hp ht (run_sizeOf hz w) a1 d1 (frozen?_of a1 a2 a4) (frozen?_of d1 d2 d4) (by omega) (by omega)
            rw [run_callFunc_extern hf hname hb hn he]
            show GivesR P _ (((Extern.SlicesOverlaps.overlaps ps rs #[_, _]).run P w).andThen fun v w' => .ok (.value v) w')
            rw [hrun]
            have hs : Sim ρ H w ρ H w' := by
              rcases hw with rfl | rfl
              · exact Sim.refl hH hd
              · exact Sim.same hH hd rfl rfl rfl rfl
            cases r with
            | false => exact ⟨_, List.mem_cons_self .., ρ, ⟨rfl, rfl⟩, hs⟩
            | true => exact ⟨_, List.mem_cons_of_mem _ (List.mem_singleton.2 rfl), ρ, ⟨rfl, rfl⟩, hs⟩
      · cases h
    · cases h
  · cases h

/-! ### A block told anew -/
theorem Sim.turn {b : Nat} {L L' : Loc} {k : Bk} (hH : HRel ρ H w) (hd : Dom ρ H.n) (hL : ρ b = some L) (hk : H.Kn b) (hB : L'.B = L.B) (hnew : ∀ i c, Bk.get k i = some c → CtRel (upd ρ H.n L') w L' i c) :
    Sim ρ H w (upd ρ H.n L') ((H.drop b).push k) w := by
  have hfrn := hd H.n (Nat.le_refl _)
  have hle : PM.le ρ (upd ρ H.n L') := upd_le hfrn
  have hcell : ∀ b' i, ((H.drop b).push k).cell b' i = if b' = H.n then Bk.get k i else if b' = b then none else H.cell b' i := by
    intro b' i
    rw [HP.cell_push, HP.cell_drop]
    rfl
  have hother : ∀ b' K i c, b' ≠ b → H.cell b' i = some c → ρ b' = some K → K.B ≠ L.B := fun b' K i c hne hc hK hB => hne (hH.inj b' b K L ⟨i, c, hc⟩ hk hK hL hB)
  exact {
    le := hle
    grow := Nat.le_succ _
    dom := fun b' hb' => by
      have h1 : H.n + 1 ≤ b' := hb'
      rw [upd_ne (by omega)]; exact hd b' (by omega)
    rel := by
      refine ⟨fun b' i c K hc hK => ?_, fun b' b2 K K' g1 g2 hK hK' he => ?_⟩
      · rw [hcell] at hc
        by_cases hb : b' = H.n
        · subst hb
          rw [if_pos rfl] at hc
          rw [upd_same] at hK
          cases hK
          exact hnew i c hc
        · rw [if_neg hb] at hc
          rw [upd_ne hb] at hK
          by_cases hbb : b' = b
          · rw [if_pos hbb] at hc; cases hc
          · rw [if_neg hbb] at hc
            exact (hH.rel b' i c K hc hK).mono hle
      · obtain ⟨i, c, hc⟩ := g1
        obtain ⟨i', c', hc'⟩ := g2
        rw [hcell] at hc hc'
        by_cases hb : b' = H.n <;> by_cases hb2 : b2 = H.n
        · rw [hb, hb2]
        · subst hb
          rw [upd_same] at hK; cases hK
          rw [if_neg hb2] at hc'
          rw [upd_ne hb2] at hK'
          by_cases hbb : b2 = b
          · rw [if_pos hbb] at hc'; cases hc'
          · rw [if_neg hbb] at hc'
            exact absurd (he.symm.trans hB) (hother b2 K' i' c' hbb hc' hK')
        · subst hb2
          rw [upd_same] at hK'; cases hK'
          rw [if_neg hb] at hc
          rw [upd_ne hb] at hK
          by_cases hbb : b' = b
          · rw [if_pos hbb] at hc; cases hc
          · rw [if_neg hbb] at hc
            exact absurd (he.trans hB) (hother b' K i c hbb hc hK)
        · rw [if_neg hb] at hc
          rw [if_neg hb2] at hc'
          rw [upd_ne hb] at hK
          rw [upd_ne hb2] at hK'
          by_cases hbb : b' = b
          · rw [if_pos hbb] at hc; cases hc
          · rw [if_neg hbb] at hc
            by_cases hbb2 : b2 = b
            · rw [if_pos hbb2] at hc'; cases hc'
            · rw [if_neg hbb2] at hc'
              exact hH.inj b' b2 K K' ⟨i, c, hc⟩ ⟨i', c', hc'⟩ hK hK' he
    knc := fun b' i hb hc => by
      rw [hcell, if_neg (by omega)]
      split
      · rfl
      · exact hc
    frc := fun _ _ _ _ _ _ _ => SameAt.of_heap rfl _
    fr := fun _ _ _ => rfl
    new := fun b' K h1 h2 => by
      by_cases hb : b' = H.n
      · subst hb; rw [upd_same] at h2; cases h2; exact .inr ⟨b, L, hk, hL, hB.symm⟩
      · rw [upd_ne hb, h1] at h2; cases h2
    size := Nat.le_refl _
    os := rfl
    tape := rfl
    output := rfl
    old := fun b' K h1 h2 => by
      by_cases hb : b' = H.n
      · omega
      · rw [upd_ne hb, h1] at h2; cases h2 }

/-- The cells of a slice that goes to its object's end, as a block of their own, with so much room behind them. -/
theorem Sim.turnC {b off n s : Nat} {cs : List Cel} {L : Loc} {room : Nat} (hH : HRel ρ H w) (hd : Dom ρ H.n) (hL : ρ b = some L) (hr : H.read b off n = some cs) (hn : 0 < n) (hroom : L.o + off + n + room ≤ L.C) :
    Sim ρ H w (upd ρ H.n ⟨L.B, L.o + off, L.C⟩) ((H.drop b).push (cellsB cs ++ List.replicate room (some .room))) w := by
  obtain ⟨hl, hcell⟩ := HP.read_spec hr
  have h0 : cs[0]? = some cs[0] := List.getElem?_eq_getElem (by omega)
  have hk0 := hcell 0 _ h0
  have hk : H.Kn b := ⟨_, _, hk0⟩
  obtain ⟨arr0, t0, fr0, a1, a2, a3, a4⟩ := plc_rel (hH.rel b _ _ L hk0 hL) trivial
  have hle : PM.le ρ (upd ρ H.n ⟨L.B, L.o + off, L.C⟩) := upd_le (hd _ (Nat.le_refl _))
  refine Sim.turn hH hd hL hk rfl fun i c hc => ?_
  unfold Bk.get at hc
  rcases Nat.lt_or_ge i cs.length with hi | hi
  · rw [List.getElem?_append_left (by simpa [cellsB] using hi)] at hc
    obtain ⟨x, hx, rfl⟩ := get_cellsB (cs := cs) (i := i) (c := c) hc
    obtain ⟨arr, t, fr, u, e1, e2, e3, e4, e5⟩ := hH.rel b _ _ L (hcell i x hx) hL
    exact ⟨arr, t, fr, u, e1, e2, e3, by show arr[L.o + off + i]? = some u; rw [Nat.add_assoc]; exact e4, e5.mono hle⟩
  · rw [List.getElem?_append_right (by simpa [cellsB] using hi)] at hc
    rw [List.getElem?_replicate] at hc
    split at hc
    · rename_i hlt
      cases hc
      simp only [cellsB, List.length_map] at hlt
      exact ⟨arr0, t0, fr0, a1, a2, a3, by show L.o + off + i < arr0.size; omega⟩
    · cases hc

/-! ### All capacities -/
noncomputable section
def rangeN (k : Nat) : List Nat := Nat.rec (motive := fun _ => List Nat) [] (fun k ih => k :: ih) k
def highO (run : List AV → HP → RM) (H : HP) (b off n s m : Nat) (rest : List AV) : RM :=
  match H.read b off (n * s) with
  | some cs => run (.one (.su H.n 0 n s) :: rest) ((H.drop b).push (cellsB cs ++ List.replicate (m * s) (some .room)))
  | none => none
/-- The result's cells as a block of their own. -/
def renO (o : AV × HP) : AV × HP :=
  match o.1 with
  | .one (.su b off n s) => match o.2.read b off (n * s), Nat.ble 1 (n * s) with
    | some cs, true => (.one (.su o.2.n 0 n s), (o.2.drop b).push (cellsB cs ++ List.replicate 0 (some .room)))
    | _, _ => o
  | _ => o
def dropO (b : Nat) (o : AV × HP) : AV × HP := (o.1, o.2.drop b)
def tidyR (n0 b : Nat) (outs : List (AV × HP)) : List (AV × HP) :=
  mergeG (outs.map fun x => gcG n0 (dropO b (renO (setN (maxN outs 0) (minLo outs n0) x)))) []
def splitO (run : List AV → HP → RM) : List AV → HP → RM := fun args H =>
  match args with
  | .one (.su b off n s) :: i :: v :: [] => match srcLen v, Nat.ble 1 (n * s) with
    | some m, true => match bindL (fun k => run [.one (.sl b off n (n + k)), i, v] H) (rangeN m), highO run H b off n s m [i, v] with
      | some l1, some l2 => some (tidyR H.n b (l1 ++ l2))
      | _, _ => none
    | _, _ => none
  | _ => none
end
theorem mem_rangeN : ∀ {m k : Nat}, k < m → k ∈ rangeN m
  | 0, _, h => by omega
  | m + 1, k, h => by
    show k ∈ m :: rangeN m
    rcases Nat.lt_or_ge k m with h1 | h1
    · exact List.mem_cons_of_mem _ (mem_rangeN h1)
    · rw [show k = m by omega]; exact List.mem_cons_self ..

theorem renO_spec (o : AV × HP) : Wk o (renO o) ∧ St o.2 (renO o).2 := by
  obtain ⟨v, G⟩ := o
  unfold renO
  split
  · rename_i b off n s hv
    simp only at hv
    subst hv
    split
    · rename_i cs hr hn
      have hn := Nat.le_of_ble_eq_true hn
      refine ⟨fun ρ u w h1 h2 h3 => ?_, (St.drop G b).trans (St.push _ _)⟩
      obtain ⟨L, cap, hL, rfl, g1, g2, g3⟩ := h1
      have hle : n * s ≤ cap * s := Nat.mul_le_mul_right _ g1
      refine ⟨_, ⟨⟨L.B, L.o + off, L.C⟩, cap, upd_same _ _ _, rfl, g1, g2, ?_⟩, Sim.turnC (s := s) h2 h3 hL hr hn (by omega)⟩
      exact g3
    · exact ⟨Wk.refl _, St.refl _⟩
  · exact ⟨Wk.refl _, St.refl _⟩

theorem tidyR_spec (n0 b : Nat) (outs : List (AV × HP)) : (∀ o ∈ outs, ∃ o2 ∈ tidyR n0 b outs, Wk o o2) ∧ ∀ o2 ∈ tidyR n0 b outs, ∃ o ∈ outs, St o.2 o2.2 := by
  unfold tidyR
  have key : ∀ x : AV × HP, Wk x (gcG n0 (dropO b (renO (setN (maxN outs 0) (minLo outs n0) x)))) ∧ St x.2 (gcG n0 (dropO b (renO (setN (maxN outs 0) (minLo outs n0) x)))).2 := fun x => by
    obtain ⟨g1, g2⟩ := setN_spec (maxN outs 0) (minLo outs n0) x
    obtain ⟨g3, g4⟩ := renO_spec (setN (maxN outs 0) (minLo outs n0) x)
    obtain ⟨g5, g6⟩ := gcG_spec n0 (dropO b (renO (setN (maxN outs 0) (minLo outs n0) x)))
    exact ⟨((g1.trans g3).trans (Wk.drop _ _ b)).trans g5, ((g2.trans g4).trans (St.drop _ b)).trans g6⟩
  obtain ⟨h1, h2⟩ := mergeG_spec (outs.map fun x => gcG n0 (dropO b (renO (setN (maxN outs 0) (minLo outs n0) x)))) []
  refine ⟨fun x hx => ?_, fun y hy => ?_⟩
  · obtain ⟨o2, g1, g2⟩ := h1 _ (.inl (List.mem_map.2 ⟨x, hx, rfl⟩))
    exact ⟨o2, g1, (key x).1.trans g2⟩
  · rcases h2 y hy with hy | hy
    · obtain ⟨x, hx, rfl⟩ := List.mem_map.1 hy
      exact ⟨x, hx, (key x).2⟩
    · cases hy

theorem splitO_ok {f : FuncId} {run : List AV → HP → RM} (hrun : FnOKM P f run) : FnOKM P f (splitO run) := by
  intro args H outs h
  unfold splitO at h
  split at h
  · rename_i b off n s i v
    split at h
    · rename_i m hm hns
      have hns := Nat.le_of_ble_eq_true hns
      split at h
      · rename_i l1 l2 h1 h2
        cases h
        obtain ⟨k1, k1'⟩ := bindL_spec h1
        unfold highO at h2
        split at h2
        · rename_i cs hr
          have K2 := hrun _ _ _ h2
          have base : CallOK P f [.one (.su b off n s), i, v] H (· ∈ l1 ++ l2) := by
            refine ⟨fun o ho => ?_, fun ρ w us hargs hH hd => ?_⟩
            · rcases List.mem_append.1 ho with ho | ho
              · obtain ⟨k, hk, zs, g1, g2⟩ := k1' o ho
                exact (hrun _ _ _ g1).1 o g2
              · exact ((St.drop H b).trans (St.push _ _)).trans (K2.1 o ho)
            · obtain ⟨l⟩ := us
              match l, hargs with
              | [u0, u1, u2], ⟨r0, r1, r2, _⟩ =>
                obtain ⟨L, cap, hL, rfl, g1, g2, g3⟩ := r0
                rcases Nat.lt_or_ge cap (n + m) with hlt | hge
                · obtain ⟨zs, z1, z2⟩ := k1 (cap - n) (mem_rangeN (by omega))
                  refine GivesR.mono (fun u w' ⟨o, ho, hp⟩ => ⟨o, List.mem_append_left _ (z2 o ho), hp⟩) ((hrun _ _ _ z1).2 ρ w _ ?_ hH hd)
                  exact ⟨⟨⟨L, hL, by rw [show n + (cap - n) = cap by omega]⟩, by omega, by omega⟩, r1, r2, trivial⟩
                · have hle : (n + m) * s ≤ cap * s := Nat.mul_le_mul_right _ hge
                  have hle' : n * s + m * s ≤ cap * s := by rw [← Nat.add_mul]; exact hle
                  have hs := Sim.turnC (s := s) (room := m * s) hH hd hL hr hns (by omega)
                  refine GivesR.mono (fun u w' ⟨o, ho, ρ2, hv, hp⟩ => ⟨o, List.mem_append_right _ ho, ρ2, hv, hs.trans hd hp⟩) (K2.2 _ w _ ?_ hs.rel hs.dom)
                  exact ⟨⟨⟨L.B, L.o + off, L.C⟩, cap, upd_same _ _ _, rfl, g1, g2, g3⟩, r1.mono hs.le, r2.mono hs.le, trivial⟩
          obtain ⟨t1, t2⟩ := tidyR_spec H.n b (l1 ++ l2)
          exact base.weaken t1 fun o2 ho2 => by
            obtain ⟨o, ho, hst⟩ := t2 o2 ho2
            exact (base.1 o ho).trans hst
        · cases h2
      · cases h
    · cases h
  · cases h
end Go.Fv
