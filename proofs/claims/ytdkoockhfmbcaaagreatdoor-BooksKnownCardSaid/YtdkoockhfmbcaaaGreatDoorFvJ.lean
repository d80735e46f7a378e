/-
  A second abstract evaluator of the model's code: slicing, closures made, the greater of two. Conditions: none; nothing here speaks of one program.
  A second abstract evaluator of the model's code: append. Conditions: none; nothing here speaks of one program.
  A second abstract evaluator of the model's code: append does in the model what it does here; copy, make, clear. Conditions: none; nothing here speaks of one program.
-/
import Derived.Test.YtdkoockhfmbcaaaGreatDoorFvG
import Derived.Laws.Append
import Derived.Laws.AppendOwn
import Derived.Lib.AppendZerosOnto
set_option linter.unusedSectionVars false
set_option linter.unusedVariables false
namespace Go.Fv
section
variable {P : Program} [Plain P] {ora : Ora} {E : Operand → Option AV} {H H' : HP} {w : World} {ρ : PM} {ev : Operand → Value} {v : AV}

/-- A bound: none; or a number that is not below 0. -/
def boundA (E : Operand → Option AV) : Option Operand → Option (Option Nat)
  | none => some none
  | some x => match E x with
    | some (.one (.lit (.int _ n))) => if 0 ≤ n then some (some n.toNat) else none
    | _ => none
/-- A slice of a slice, of elements of s cells. -/
def cutSl (b off len cap l h m s : Nat) : Option AV :=
  if l ≤ h ∧ h ≤ m ∧ m ≤ cap then (if m = l then some (.one (.sl b off (h - l) (m - l))) else some (.one (.sl b (off + l * s) (h - l) (m - l)))) else none
/-- The same without a bound on the capacity. -/
def cutS0 (b off len cap l h s : Nat) : Option AV :=
  if l ≤ h ∧ h ≤ cap then (if cap = l then some (.one (.sl b off (h - l) (cap - l))) else some (.one (.sl b (off + l * s) (h - l) (cap - l)))) else none
theorem cutS0_eq (b off len cap l h s : Nat) : cutS0 b off len cap l h s = cutSl b off len cap l h cap s := by
  have e : (l ≤ h ∧ h ≤ cap ∧ cap ≤ cap) = (l ≤ h ∧ h ≤ cap) := propext ⟨fun h' => ⟨h'.1, h'.2.1⟩, fun h' => ⟨h'.1, h'.2, Nat.le_refl _⟩⟩
  unfold cutS0 cutSl
  simp only [e]
def sliceA (sz : Nat) (x : AV) (lo hi mx : Option Nat) : Option AV :=
  match x, mx with
  | .one (.sl b off len cap), none => cutS0 b off len cap (lo.getD 0) (hi.getD len) sz
  | .one (.sl b off len cap), some m => match hi with
    | some h => cutSl b off len cap (lo.getD 0) h m sz
    | none => none
  | .one (.su b off len s), none =>
    if s = sz ∧ lo.getD 0 ≤ hi.getD len ∧ hi.getD len ≤ len then
      if lo.getD 0 < len then some (.one (.su b (off + lo.getD 0 * sz) (hi.getD len - lo.getD 0) sz)) else some (.one (.sz b sz))
    else none
  | .one (.su b off len s), some m => match hi with
    | some h => cutSl b off len len (lo.getD 0) h m sz
    | none => none
  | .one (.sz b s), none => if s = sz ∧ lo.getD 0 = 0 ∧ hi.getD 0 = 0 then some (.one (.sz b sz)) else none
  | .one (.lit (.slice none n c)), none => if lo.getD 0 = 0 ∧ hi.getD 0 = 0 then some (.one (.lit (.slice none 0 0))) else none
  | .one (.lit (.slice none n c)), some m => if lo.getD 0 = 0 ∧ hi = some 0 ∧ m = 0 then some (.one (.lit (.slice none 0 0))) else none
  | .one (.sz b s), some m => if s = sz ∧ lo.getD 0 = 0 ∧ hi = some 0 ∧ m = 0 then some (.one (.sz b sz)) else none
  | _, _ => none
noncomputable def oSlice (P : Program) [Plain P] (E : Operand → Option AV) (H : HP) (t : TypeId) (x : Operand) (lo hi mx : Option Operand) : R :=
  match undT P t, E x, boundA E lo, boundA E hi, boundA E mx with
  | some (.array n e), some (.one (.ptr b off)), some l, some h, some m =>
    match szA P e with
    | some (_, s) => if n ≤ 9223372036854775807 then (sliceA s (.one (.sl b off n n)) l h m).map fun v => (v, H) else none
    | none => none
  | some (.slice e), some a, some l, some h, some m =>
    match szA P e with
    | some (_, s) => (sliceA s a l h m).map fun v => (v, H)
    | none => none
  | some .string, some (.one (.lit (.string s))), some l, some h, some none =>
    if l.getD 0 ≤ h.getD s.size ∧ h.getD s.size ≤ s.size then some (.one (.lit (.string (s.extract (l.getD 0) (h.getD s.size)))), H) else none
  | _, _, _, _, _ => none

/-- A bound's value stands for the number. -/
def BRel : Option Nat → Option Value → Prop
  | none, none => True
  | some n, some u => ∃ k, u = .int k (n : Int)
  | _, _ => False
theorem boundA_rel {x : Option Operand} {b : Option Nat} (h : boundA E x = some b) (hx : ∀ z, x = some z → ∀ a, E z = some a → VRel ρ a (ev z)) : BRel b (x.map ev) := by
  cases x with
  | none => cases h; trivial
  | some z =>
    simp only [boundA] at h
    split at h
    · rename_i k n hz
      split at h
      · rename_i hn
        cases h
        obtain ⟨he, _⟩ := hx z rfl _ hz
        exact ⟨k, by rw [he, Int.toNat_of_nonneg hn]⟩
      · cases h
    · cases h

theorem run_bound {u : Value} {k : IntKind} {n y : Nat} {code : BoundsCode} (hu : u = .int k (n : Int)) (h : n ≤ y) : (Instr.sliceBound u y code).run P w = .ok n w := by
  subst hu
  simp only [Instr.sliceBound, asIntOf, Sem.run_bind, Sem.run_pure, Result.andThen_ok]
  rw [if_pos ⟨by omega, by omega⟩]
  simp

theorem run_bounds {isS : Bool} {len cap : Nat} {lo hi mx : Option Nat} {ul uh um : Option Value} (hl : BRel lo ul) (hh : BRel hi uh) (hm : BRel mx um) (hmx : mx = none ∨ hi ≠ none)
    (h1 : mx.getD cap ≤ cap) (h2 : hi.getD len ≤ mx.getD cap ∨ (mx = none ∧ hi = none)) (h3 : lo.getD 0 ≤ hi.getD len) :
    (Instr.sliceBounds isS len cap ul uh um).run P w = .ok (lo.getD 0, hi.getD len, mx.getD cap) w := by
  unfold Instr.sliceBounds
  cases mx with
  | none =>
    cases um with
    | some _ => exact hm.elim
    | none =>
      simp only [Sem.run_bind, Sem.run_pure, Result.andThen_ok, Option.getD_none]
      cases hi with
      | none =>
        cases uh with
        | some _ => exact hh.elim
        | none =>
          simp only [Sem.run_pure, Result.andThen_ok, Option.getD_none]
          cases lo with
          | none => cases ul with
            | some _ => exact hl.elim
            | none => simp
          | some l => cases ul with
            | none => exact hl.elim
            | some u =>
              obtain ⟨k, hu⟩ := hl
              simp only [Sem.run_bind, Sem.run_pure, run_bound hu (show l ≤ len by simpa using h3), Result.andThen_ok, Option.getD_some]
      | some hv =>
        cases uh with
        | none => exact hh.elim
        | some u =>
          obtain ⟨k, hu⟩ := hh
          have h2' : hv ≤ cap := by
            rcases h2 with h2 | h2
            · simpa using h2
            · exact absurd h2.2 (by simp)
          simp only [Sem.run_bind, run_bound hu h2', Result.andThen_ok, Option.getD_some]
          cases lo with
          | none => cases ul with
            | some _ => exact hl.elim
            | none => simp
          | some l => cases ul with
            | none => exact hl.elim
            | some u =>
              obtain ⟨k, hu⟩ := hl
              simp only [Sem.run_bind, Sem.run_pure, run_bound hu (show l ≤ hv by simpa using h3), Result.andThen_ok, Option.getD_some]
  | some m =>
    cases um with
    | none => exact hm.elim
    | some um =>
      obtain ⟨k, hum⟩ := hm
      cases hi with
      | none => exact absurd rfl (hmx.resolve_left (by simp))
      | some hv =>
        cases uh with
        | none => exact hh.elim
        | some u =>
          obtain ⟨k, hu⟩ := hh
          have h2' : hv ≤ m := by
            rcases h2 with h2 | h2
            · simpa using h2
            · exact absurd h2.1 (by simp)
          simp only [Sem.run_bind, run_bound hum (show m ≤ cap by simpa using h1), run_bound hu h2', Result.andThen_ok, Option.getD_some]
          cases lo with
          | none => cases ul with
            | some _ => exact hl.elim
            | none => simp
          | some l => cases ul with
            | none => exact hl.elim
            | some u =>
              obtain ⟨k, hu⟩ := hl
              simp only [Sem.run_bind, Sem.run_pure, run_bound hu (show l ≤ hv by simpa using h3), Result.andThen_ok, Option.getD_some]

theorem cutSl_rel {b off len cap l h m s : Nat} {r : AV} {L : Loc} (hr : cutSl b off len cap l h m s = some r) (hL : ρ b = some L) (hc : cap ≤ 9223372036854775807) :
    (l ≤ h ∧ h ≤ m ∧ m ≤ cap) ∧ VRel ρ r (.slice (if m = l then some ⟨L.B, L.o + off, none⟩ else (some ⟨L.B, L.o + off, none⟩ : Option Addr).map (·.add (l * s))) (h - l) (m - l)) := by
  unfold cutSl at hr
  split at hr
  · rename_i hb
    refine ⟨hb, ?_⟩
    split at hr
    · rename_i hm
      cases hr
      rw [if_pos hm]
      exact ⟨⟨L, hL, rfl⟩, by omega, by omega⟩
    · rename_i hm
      cases hr
      rw [if_neg hm]
      refine ⟨⟨L, hL, ?_⟩, by omega, by omega⟩
      simp only [Option.map_some, add_addr, Nat.add_assoc]
  · cases hr

theorem sliceA_ok {t e : TypeId} {s : Nat} {ag : Bool} {x r : AV} {u : Value} {lo hi mx : Option Nat} {ul uh um : Option Value} (hu : P.underlying t = some (.slice e)) (hs : szA P e = some (ag, s)) (h : sliceA s x lo hi mx = some r) (hx : VRel ρ x u)
    (hl : BRel lo ul) (hh : BRel hi uh) (hm : BRel mx um) : ∃ u', (Instr.slice t u ul uh um).run P w = .ok u' w ∧ VRel ρ r u' := by
  unfold sliceA at h
  split at h
  · rename_i b off len cap
    obtain ⟨⟨L, hL, rfl⟩, h1, h2⟩ := hx
    rw [cutS0_eq] at h
    obtain ⟨hb, hr⟩ := cutSl_rel h hL h2
    refine ⟨_, ?_, hr⟩
    have := run_bounds (P := P) (w := w) (isS := true) (len := len) (cap := cap) hl hh hm (.inl rfl) (by simp) (.inl (by simpa using hb.2.1)) hb.1
    simp only [Option.getD_none] at this
    simp only [Instr.slice, Sem.run_bind, run_underlying hu, Result.andThen_ok, this, run_sizeOf hs, Sem.run_pure]
  · rename_i b off len cap m
    obtain ⟨⟨L, hL, rfl⟩, h1, h2⟩ := hx
    split at h
    · rename_i hv
      obtain ⟨hb, hr⟩ := cutSl_rel h hL h2
      refine ⟨_, ?_, hr⟩
      have := run_bounds (P := P) (w := w) (isS := true) (len := len) (cap := cap) hl hh hm (.inr (by simp)) (by simpa using hb.2.2) (.inl (by simpa using hb.2.1)) (by simpa using hb.1)
      simp only [Option.getD_some] at this
      simp only [Instr.slice, Sem.run_bind, run_underlying hu, Result.andThen_ok, this, run_sizeOf hs, Sem.run_pure]
    · cases h
  · rename_i b off len s'
    obtain ⟨L, cap, hL, rfl, h1, h2, h3⟩ := hx
    split at h
    · rename_i hb
      obtain ⟨rfl, hb1, hb2⟩ := hb
      have := run_bounds (P := P) (w := w) (isS := true) (len := len) (cap := cap) hl hh hm (.inl rfl) (by simp) (.inl (by simp only [Option.getD_none]; omega)) hb1
      simp only [Option.getD_none] at this
      have hrun : (Instr.slice t (.slice (some ⟨L.B, L.o + off, none⟩) len cap) ul uh um).run P w = .ok (.slice (if cap = lo.getD 0 then some ⟨L.B, L.o + off, none⟩ else (some ⟨L.B, L.o + off, none⟩ : Option Addr).map (·.add (lo.getD 0 * s'))) (hi.getD len - lo.getD 0) (cap - lo.getD 0)) w := by
        simp only [Instr.slice, Sem.run_bind, run_underlying hu, Result.andThen_ok, this, run_sizeOf hs, Sem.run_pure]
      refine ⟨_, hrun, ?_⟩
      have hmul : lo.getD 0 * s' + (cap - lo.getD 0) * s' = cap * s' := by rw [← Nat.add_mul]; congr 1; omega
      split at h
      · rename_i hlt
        cases h
        rw [if_neg (by omega)]
        refine ⟨L, cap - lo.getD 0, hL, ?_, by omega, by omega, by omega⟩
        simp only [Option.map_some, add_addr, Nat.add_assoc]
      · rename_i hlt
        cases h
        have e0 : hi.getD len - lo.getD 0 = 0 := by omega
        rw [e0]
        by_cases hc : cap = lo.getD 0
        · rw [if_pos hc]
          exact ⟨L, L.o + off, cap - lo.getD 0, hL, rfl, by omega, by omega, by omega⟩
        · rw [if_neg hc]
          refine ⟨L, L.o + off + lo.getD 0 * s', cap - lo.getD 0, hL, ?_, by omega, by omega, by omega⟩
          simp only [Option.map_some, add_addr]
    · cases h
  · rename_i b off len s' m
    obtain ⟨L, cap, hL, rfl, h1, h2, h3⟩ := hx
    split at h
    · rename_i hv
      obtain ⟨hb, hr⟩ := cutSl_rel h hL (by omega)
      refine ⟨_, ?_, hr⟩
      have := run_bounds (P := P) (w := w) (isS := true) (len := len) (cap := cap) hl hh hm (.inr (by simp)) (by simp only [Option.getD_some]; omega) (.inl (by simpa using hb.2.1)) (by simpa using hb.1)
      simp only [Option.getD_some] at this
      simp only [Instr.slice, Sem.run_bind, run_underlying hu, Result.andThen_ok, this, run_sizeOf hs, Sem.run_pure]
    · cases h
  · rename_i b s'
    obtain ⟨L, off, cap, hL, rfl, h1, h2, h3⟩ := hx
    split at h
    · rename_i hb
      obtain ⟨rfl, hb1, hb2⟩ := hb
      cases h
      have := run_bounds (P := P) (w := w) (isS := true) (len := 0) (cap := cap) hl hh hm (.inl rfl) (by simp) (.inl (by simp only [Option.getD_none]; omega)) (by omega)
      simp only [Option.getD_none, hb1, hb2] at this
      have hrun : (Instr.slice t (.slice (some ⟨L.B, off, none⟩) 0 cap) ul uh um).run P w = .ok (.slice (if cap = 0 then some ⟨L.B, off, none⟩ else (some ⟨L.B, off, none⟩ : Option Addr).map (·.add (0 * s'))) (0 - 0) (cap - 0)) w := by
        simp only [Instr.slice, Sem.run_bind, run_underlying hu, Result.andThen_ok, this, run_sizeOf hs, Sem.run_pure]
      refine ⟨_, hrun, L, off, cap, hL, ?_, h1, h2, h3⟩
      split
      · rfl
      · simp [add_addr]
    · cases h
  · rename_i n c
    obtain ⟨rfl, hlit⟩ := hx
    simp only [litOK, Bool.and_eq_true] at hlit
    have e1 := Nat.eq_of_beq_eq_true hlit.1
    have e2 := Nat.eq_of_beq_eq_true hlit.2
    subst e1
    subst e2
    split at h
    · rename_i hb
      cases h
      have := run_bounds (P := P) (w := w) (isS := true) (len := 0) (cap := 0) hl hh hm (.inl rfl) (by simp) (.inl (by simp only [Option.getD_none]; omega)) (by omega)
      simp only [Option.getD_none, hb.1, hb.2] at this
      refine ⟨.slice none 0 0, ?_, rfl, rfl⟩
      simp only [Instr.slice, Sem.run_bind, run_underlying hu, Result.andThen_ok, this, run_sizeOf hs, Sem.run_pure]
      rfl
    · cases h
  · rename_i n c m
    obtain ⟨rfl, hlit⟩ := hx
    simp only [litOK, Bool.and_eq_true] at hlit
    have e1 := Nat.eq_of_beq_eq_true hlit.1
    have e2 := Nat.eq_of_beq_eq_true hlit.2
    subst e1
    subst e2
    split at h
    · rename_i hb
      obtain ⟨hb0, rfl, rfl⟩ := hb
      cases h
      have := run_bounds (P := P) (w := w) (isS := true) (len := 0) (cap := 0) hl hh hm (.inr (by simp)) (by simp) (.inl (by simp)) (by simp [hb0])
      simp only [Option.getD_some, hb0] at this
      refine ⟨.slice none 0 0, ?_, rfl, rfl⟩
      simp only [Instr.slice, Sem.run_bind, run_underlying hu, Result.andThen_ok, this, run_sizeOf hs, Sem.run_pure]
      rfl
    · cases h
  · rename_i b s' m
    obtain ⟨L, off, cap, hL, rfl, h1, h2, h3⟩ := hx
    split at h
    · rename_i hb
      obtain ⟨rfl, hb0, rfl, rfl⟩ := hb
      cases h
      have := run_bounds (P := P) (w := w) (isS := true) (len := 0) (cap := cap) hl hh hm (.inr (by simp)) (by simp) (.inl (by simp)) (by simp [hb0])
      simp only [Option.getD_some, hb0] at this
      have hrun : (Instr.slice t (.slice (some ⟨L.B, off, none⟩) 0 cap) ul uh um).run P w = .ok (.slice (some ⟨L.B, off, none⟩) 0 0) w := by
        simp only [Instr.slice, Sem.run_bind, run_underlying hu, Result.andThen_ok, this, run_sizeOf hs, Sem.run_pure]
        rfl
      refine ⟨_, hrun, L, off, 0, hL, rfl, by omega, by omega, by omega⟩
    · cases h
  · cases h

theorem oSlice_ok {t : TypeId} {x : Operand} {lo hi mx : Option Operand} (h : oSlice P E H t x lo hi mx = some (v, H')) (hx : ∀ z, (z = x ∨ lo = some z ∨ hi = some z ∨ mx = some z) → ∀ a, E z = some a → VRel ρ a (ev z)) (hH : HRel ρ H w) (hd : Dom ρ H.n) :
    St H H' ∧ OpS P ρ ev H w (.slice t x lo hi mx) v H' := by
  unfold oSlice at h
  rw [undT_eq] at h
  split at h
  · rename_i n e b off l h' m hu hxx hl hh hm
    have bl := boundA_rel hl (ρ := ρ) (ev := ev) fun z hz => hx z (.inr (.inl hz))
    have bh := boundA_rel hh (ρ := ρ) (ev := ev) fun z hz => hx z (.inr (.inr (.inl hz)))
    have bm := boundA_rel hm (ρ := ρ) (ev := ev) fun z hz => hx z (.inr (.inr (.inr hz)))
    obtain ⟨L, hL, hev⟩ := hx x (.inl rfl) _ hxx
    split at h
    · rename_i ag s hs
      split at h
      · rename_i hn
        obtain ⟨r, hr, hv⟩ := map_some h
        cases hv
        have key : ∃ u', (Instr.sliceAt t (ev x) (lo.map ev) (hi.map ev) (mx.map ev)).run P w = .ok u' w ∧ VRel ρ v u' := by
          unfold sliceA at hr
          cases m with
          | none =>
            simp only at hr
            rw [cutS0_eq] at hr
            obtain ⟨hb, hrel⟩ := cutSl_rel hr hL hn
            have := run_bounds (P := P) (w := w) (isS := false) (len := n) (cap := n) bl bh bm (.inl rfl) (by simp) (.inl (by simpa using hb.2.1)) hb.1
            simp only [Option.getD_none] at this
            refine ⟨_, ?_, hrel⟩
            simp only [Instr.sliceAt, Sem.run_bind, run_underlying hu, Result.andThen_ok, hev, Instr.sureAddr, this, run_sizeOf hs, Sem.run_pure]
            split <;> rfl
          | some m =>
            cases h' with
            | none => simp at hr
            | some hv =>
              simp only at hr
              obtain ⟨hb, hrel⟩ := cutSl_rel hr hL hn
              have := run_bounds (P := P) (w := w) (isS := false) (len := n) (cap := n) bl bh bm (.inr (by simp)) (by simpa using hb.2.2) (.inl (by simpa using hb.2.1)) (by simpa using hb.1)
              simp only [Option.getD_some] at this
              refine ⟨_, ?_, hrel⟩
              simp only [Instr.sliceAt, Sem.run_bind, run_underlying hu, Result.andThen_ok, hev, Instr.sureAddr, this, run_sizeOf hs, Sem.run_pure]
              split <;> rfl
        obtain ⟨u', h1, h2⟩ := key
        exact ⟨St.refl H, OpS.val hH hd h2 fun dst ty pos after guard => run_v h1⟩
      · cases h
    · cases h
  · rename_i e a l h' m hu hxx hl hh hm
    have bl := boundA_rel hl (ρ := ρ) (ev := ev) fun z hz => hx z (.inr (.inl hz))
    have bh := boundA_rel hh (ρ := ρ) (ev := ev) fun z hz => hx z (.inr (.inr (.inl hz)))
    have bm := boundA_rel hm (ρ := ρ) (ev := ev) fun z hz => hx z (.inr (.inr (.inr hz)))
    split at h
    · rename_i ag s hs
      obtain ⟨r, hr, hv⟩ := map_some h
      cases hv
      obtain ⟨u', h1, h2⟩ := sliceA_ok (w := w) hu hs hr (hx x (.inl rfl) _ hxx) bl bh bm
      refine ⟨St.refl H, OpS.val hH hd h2 fun dst ty pos after guard => run_v ?_⟩
      simp only [Instr.sliceAt, Sem.run_bind, run_underlying hu, Result.andThen_ok]
      exact h1
    · cases h
  · rename_i s l h' hu hxx hl hh hm
    have bl := boundA_rel hl (ρ := ρ) (ev := ev) fun z hz => hx z (.inr (.inl hz))
    have bh := boundA_rel hh (ρ := ρ) (ev := ev) fun z hz => hx z (.inr (.inr (.inl hz)))
    have bm := boundA_rel hm (ρ := ρ) (ev := ev) fun z hz => hx z (.inr (.inr (.inr hz)))
    obtain ⟨hev, hlit⟩ := hx x (.inl rfl) _ hxx
    simp only [litOK, decide_eq_true_eq] at hlit
    split at h
    · rename_i hb
      cases h
      have := run_bounds (P := P) (w := w) (isS := false) (len := s.size) (cap := s.size) bl bh (by trivial : BRel none none) (.inl rfl) (by simp) (.inl (by simpa using hb.2)) hb.1
      have hmx : mx.map ev = none := by
        cases hq : mx.map ev with
        | none => rfl
        | some _ => rw [hq] at bm; exact bm.elim
      refine ⟨St.refl H, OpS.val hH hd (lit_rel (v := .string (s.extract (l.getD 0) (h'.getD s.size))) ?_) fun dst ty pos after guard => run_v ?_⟩
      · simp only [litOK, decide_eq_true_eq, ByteArray.size_extract]; omega
      · simp only [Instr.sliceAt, Sem.run_bind, run_underlying hu, Result.andThen_ok, Instr.slice, hev, hmx, Option.isSome_none, Bool.false_eq_true, if_false, this, Sem.run_pure]
    · cases h
  · cases h

theorem mapM_ptrs : ∀ {vs : List AV} {ps : List (Nat × Nat)} {us : List Value}, vs.mapM (fun v => match v with | .one (.ptr b off) => some (b, off) | _ => none) = some ps → All2 (VRel ρ) vs us →
    All2 (fun (p : Nat × Nat) v => ∃ L, ρ p.1 = some L ∧ v = Value.pointer (some ⟨L.B, L.o + p.2, none⟩)) ps us
  | [], ps, [], h, _ => by simp at h; subst h; trivial
  | x :: vs, ps, u :: us, h, ⟨h1, h2⟩ => by
    rw [List.mapM_cons] at h
    match x, h, h1 with
    | .one (.ptr b off), h, h1 =>
      simp only [Option.pure_def, Option.bind_eq_bind, Option.bind_some] at h
      cases hr : vs.mapM (fun v => match v with | .one (.ptr b off) => some (b, off) | _ => none) with
      | none => rw [hr] at h; cases h
      | some r =>
        rw [hr] at h
        cases h
        exact ⟨h1, mapM_ptrs hr h2⟩
  | [], _, _ :: _, _, h => h.elim
  | _ :: _, _, [], _, h => h.elim

theorem oMakeFunc_ok {fn : Fn} {first caps : Array Operand} (h : oMakeFunc E H fn first caps = some (v, H')) (hx : ∀ z ∈ caps.toList, ∀ a, E z = some a → VRel ρ a (ev z)) (hH : HRel ρ H w) (hd : Dom ρ H.n) :
    St H H' ∧ OpS P ρ ev H w (.makeFunc fn first caps) v H' := by
  unfold oMakeFunc at h
  split at h
  · rename_i vs hl
    split at h
    · rename_i ps hp
      split at h
      · rename_i h0
        cases h
        have hus := listE_rel (ρ := ρ) (ev := ev) hx hl
        have hf : first = #[] := Array.eq_empty_of_size_eq_zero h0
        subst hf
        refine ⟨St.refl H, OpS.val hH hd (u := .func fn #[] (caps.map ev)) ⟨_, rfl, by simpa using mapM_ptrs hp hus⟩ fun dst ty pos after guard => run_v ?_⟩
        simp [Instr.makeFunc]
      · cases h
    · cases h
  · cases h

theorem oMax_ok {args : Array Operand} {ats : Array TypeId} (h : oMax E H false args = some (v, H')) (hx : ∀ z ∈ args.toList, ∀ a, E z = some a → VRel ρ a (ev z)) (hH : HRel ρ H w) (hd : Dom ρ H.n) :
    St H H' ∧ OpS P ρ ev H w (.call ⟨.builtin .max, args, ats⟩) v H' := by
  unfold oMax at h
  split at h
  · rename_i k a k' b hl
    split at h
    · rename_i hk
      subst hk
      cases h
      have hus := listE_rel (ρ := ρ) (ev := ev) hx hl
      match hargs : args.toList, hus with
      | [x, y], hus =>
        obtain ⟨⟨h1, l1⟩, ⟨h2, l2⟩, _⟩ := hus
        have hargs' : args = #[x, y] := by rw [← Array.toList_inj]; simpa using hargs
        subst hargs'
        have hc : (if (false = true) then b < a else a < b) = (a < b) := by simp
        refine ⟨St.refl H, OpS.val hH hd (u := .int k (if a < b then b else a)) ⟨by simp, ?_⟩ fun dst ty pos after guard => ?_⟩
        · simp only [Bool.false_eq_true, if_false]
          split
          · exact l2
          · exact l1
        · simp [execOp, resolve, invoke, builtin, Builtin.max_, h1, h2, Builtin.max2]
    · cases h
  · cases h
theorem oMin_ok {args : Array Operand} {ats : Array TypeId} (h : oMax E H true args = some (v, H')) (hx : ∀ z ∈ args.toList, ∀ a, E z = some a → VRel ρ a (ev z)) (hH : HRel ρ H w) (hd : Dom ρ H.n) :
    St H H' ∧ OpS P ρ ev H w (.call ⟨.builtin .min, args, ats⟩) v H' := by
  unfold oMax at h
  split at h
  · rename_i k a k' b hl
    split at h
    · rename_i hk
      subst hk
      cases h
      have hus := listE_rel (ρ := ρ) (ev := ev) hx hl
      match hargs : args.toList, hus with
      | [x, y], hus =>
        obtain ⟨⟨h1, l1⟩, ⟨h2, l2⟩, _⟩ := hus
        have hargs' : args = #[x, y] := by rw [← Array.toList_inj]; simpa using hargs
        subst hargs'
        refine ⟨St.refl H, OpS.val hH hd (u := .int k (if b < a then b else a)) ⟨by simp, ?_⟩ fun dst ty pos after guard => ?_⟩
        · simp only [if_true]
          split
          · exact l2
          · exact l1
        · simp [execOp, resolve, invoke, builtin, Builtin.min_, h1, h2, Builtin.min2]
    · cases h
  · cases h
end
end Go.Fv

set_option linter.unusedSectionVars false
set_option linter.unusedVariables false
namespace Go.Fv
section
variable {P : Program} [Plain P] {ora : Ora} {E : Operand → Option AV} {H H' : HP} {w : World} {ρ : PM} {ev : Operand → Value} {v : AV}

theorem HRel.of_heap {w' : World} (h : HRel ρ H w) (he : w'.heap = w.heap) : HRel ρ H w' :=
  ⟨fun b i c L hc hL => (h.rel b i c L hc hL).of_heap (by rw [he]), h.inj⟩
/-- Nothing but a count. -/
theorem Sim.same {w' : World} (h : HRel ρ H w) (hd : Dom ρ H.n) (he : w'.heap = w.heap) (h1 : w'.os = w.os) (h2 : w'.tape = w.tape) (h3 : w'.output = w.output) : Sim ρ H w ρ H w' where
  le := PM.le.refl ρ
  grow := Nat.le_refl _
  dom := hd
  rel := h.of_heap he
  knc := fun _ _ _ h => h
  frc := fun _ _ _ _ _ _ _ => SameAt.of_heap (by rw [he]) _
  fr := fun _ _ _ => by rw [he]
  new := fun b L h1 h2 => by rw [h1] at h2; cases h2
  size := by rw [he]; exact Nat.le_refl _
  os := h1
  tape := h2
  output := h3
  old := fun b L h1 h2 => by rw [h1] at h2; cases h2
/-- A block is out of view. -/
theorem Sim.drop (h : HRel ρ H w) (hd : Dom ρ H.n) (b : Nat) : Sim ρ H w ρ (H.drop b) w := by
  have hk : ∀ a, (H.drop b).Kn a → H.Kn a := by
    rintro a ⟨i, c, hc⟩
    rw [HP.cell_drop] at hc
    split at hc
    · cases hc
    · exact ⟨i, c, hc⟩
  exact {
    le := PM.le.refl ρ
    grow := Nat.le_refl _
    dom := hd
    rel := ⟨fun a i c L hc hL => by
      rw [HP.cell_drop] at hc
      split at hc
      · cases hc
      · exact h.rel a i c L hc hL, fun a a' L L' g1 g2 => h.inj a a' L L' (hk a g1) (hk a' g2)⟩
    knc := fun a i _ hc => by
      rw [HP.cell_drop]
      split
      · rfl
      · exact hc
    frc := fun _ _ _ _ _ _ _ => SameAt.of_heap rfl _
    fr := fun _ _ _ => rfl
    new := fun b L h1 h2 => by rw [h1] at h2; cases h2
    size := Nat.le_refl _
    os := rfl
    tape := rfl
    output := rfl
    old := fun b L h1 h2 => by rw [h1] at h2; cases h2 }

/-! ### What is appended or copied -/
def bytesC (s : ByteArray) : List Cel := s.data.toList.map fun b => .lit (.int .u8 b.toNat)
noncomputable def srcA (H : HP) (sz : Nat) : AV → Option (Nat × List Cel)
  | .one (.sl b off len _) => (H.read b off (len * sz)).map fun cs => (len, cs)
  | .one (.su b off len _) => (H.read b off (len * sz)).map fun cs => (len, cs)
  | .one (.sz _ _) => some (0, [])
  | .one (.lit (.slice none _ _)) => some (0, [])
  | .one (.lit (.string s)) => if sz = 1 then some (s.size, bytesC s) else none
  | _ => none

theorem bytesC_rel (s : ByteArray) : All2 (CRel ρ) (bytesC s) (s.data.toList.map fun b => Value.int .u8 b.toNat) := by
  unfold bytesC
  induction s.data.toList with
  | nil => trivial
  | cons b l ih => exact ⟨⟨rfl, u8_ok b⟩, ih⟩

theorem srcA_ok {sz n : Nat} {x : AV} {u : Value} {cs : List Cel} (h : srcA H sz x = some (n, cs)) (hx : VRel ρ x u) (hH : HRel ρ H w) :
    n ≤ 9223372036854775807 ∧ ∃ us : List Value, All2 (CRel ρ) cs us ∧ us.length = n * sz ∧ ∀ w' : World, w'.heap = w.heap → (Builtin.lenOf u).run P w' = .ok n w' ∧ (Builtin.firstCells sz n u).run P w' = .ok us.toArray w' := by
  have sl : ∀ (b off len cap : Nat) (L : Loc), (H.read b off (len * sz)).map (fun cs => (len, cs)) = some (n, cs) → ρ b = some L → len ≤ cap → cap ≤ 9223372036854775807 →
      n ≤ 9223372036854775807 ∧ ∃ us : List Value, All2 (CRel ρ) cs us ∧ us.length = n * sz ∧ ∀ w' : World, w'.heap = w.heap → (Builtin.lenOf (.slice (some ⟨L.B, L.o + off, none⟩) len cap)).run P w' = .ok n w' ∧ (Builtin.firstCells sz n (.slice (some ⟨L.B, L.o + off, none⟩) len cap)).run P w' = .ok us.toArray w' := by
    intro b off len cap L h hL h1 h2
    obtain ⟨cs', hr, hv⟩ := map_some h
    cases hv
    obtain ⟨us, hl, hrel, hcell⟩ := HP.read_world hr hH hL
    refine ⟨by omega, us, hrel, hl, fun w' hw => ⟨rfl, ?_⟩⟩
    refine run_firstCells_some (P := P) w' sz _ _ _ _ us hl fun j v hj => ?_
    rw [add_addr]
    have := hcell j v hj
    unfold World.cell? at this ⊢
    rw [hw]
    exact this
  unfold srcA at h
  split at h
  · obtain ⟨⟨L, hL, rfl⟩, h1, h2⟩ := hx
    exact sl _ _ _ _ L h hL h1 h2
  · obtain ⟨L, cap, hL, rfl, h1, h2, _⟩ := hx
    exact sl _ _ _ _ L h hL h1 h2
  · cases h
    obtain ⟨L, off, cap, hL, rfl, _⟩ := hx
    refine ⟨by omega, [], trivial, by simp, fun w' hw => ⟨rfl, ?_⟩⟩
    exact run_firstCells_some (P := P) w' sz 0 ⟨L.B, off, none⟩ 0 cap [] (by simp) fun j v hj => by simp at hj
  · cases h
    obtain ⟨rfl, hlit⟩ := hx
    simp only [litOK, Bool.and_eq_true] at hlit
    have e1 := Nat.eq_of_beq_eq_true hlit.1
    subst e1
    exact ⟨by omega, [], trivial, by simp, fun w' hw => ⟨rfl, rfl⟩⟩
  · rename_i s
    split at h
    · rename_i hsz
      subst hsz
      cases h
      obtain ⟨rfl, hlit⟩ := hx
      simp only [litOK, decide_eq_true_eq] at hlit
      refine ⟨hlit, _, bytesC_rel s, by simp, fun w' hw => ⟨rfl, ?_⟩⟩
      simp only [Builtin.firstCells, Sem.run_pure]
      congr 1
      apply Array.ext'
      simp
    · cases h
  · cases h

/-! ### Elements over and over -/
def repC {α : Type} (zs : List α) (n : Nat) : List α := Nat.rec (motive := fun _ => List α) [] (fun _ ih => zs ++ ih) n
theorem length_repC {α : Type} (zs : List α) : ∀ n, (repC zs n).length = n * zs.length
  | 0 => by show ([] : List α).length = _; simp
  | n + 1 => by
    show (zs ++ repC zs n).length = _
    rw [List.length_append, length_repC zs n, Nat.succ_mul, Nat.add_comm]
theorem repC_get {α : Type} (zs : List α) : ∀ (n i : Nat), i < n * zs.length → (repC zs n)[i]? = zs[i % zs.length]?
  | 0, i, h => by simp at h
  | n + 1, i, h => by
    show (zs ++ repC zs n)[i]? = _
    by_cases hi : i < zs.length
    · rw [List.getElem?_append_left hi, Nat.mod_eq_of_lt hi]
    · rw [List.getElem?_append_right (by omega), repC_get zs n (i - zs.length) (by rw [Nat.succ_mul] at h; omega)]
      congr 1
      rw [Nat.mod_eq_sub_mod (a := i) (by omega)]

theorem repC_rel {zs : List Cel} {z : Array Value} {sz n : Nat} (h : All2 (CRel ρ) zs z.toList) (hz : zs.length = sz) (h0 : 0 < sz) : All2 (CRel ρ) (repC zs n) (Builtin.zeroCells z n).toList := by
  have hzl := h.length
  simp only [Array.length_toList] at hzl
  unfold Builtin.zeroCells
  refine All2.of_get (by simp [length_repC, hzl]) fun j a b ha hb => ?_
  have hj : j < n * zs.length := by have := (List.getElem?_eq_some_iff.1 ha).1; rwa [length_repC] at this
  rw [repC_get _ _ _ hj] at ha
  simp only [Array.toList_map, Array.toList_range, List.getElem?_map, Option.map_eq_some_iff] at hb
  obtain ⟨j', hj', rfl⟩ := hb
  rw [List.getElem?_range (by rw [← hzl]; exact hj)] at hj'
  cases hj'
  obtain ⟨b, hb, hr⟩ := h.get _ _ ha
  rw [hzl, Array.getElem?_toList] at hb
  have hlt := (Array.getElem?_eq_some_iff.1 hb).1
  rw [getElem!_pos z _ hlt]
  rw [Array.getElem?_eq_getElem hlt] at hb
  cases hb
  exact hr


/-! ### Append -/
/-- Is the first place of a block a cell that is known? -/
noncomputable def HP.kn1 (H : HP) (b : Nat) : Bool :=
  match H.read b 0 1 with
  | some _ => true
  | none => false
theorem HP.kn1_spec {b : Nat} (h : H.kn1 b = true) : ∃ c, H.cell b 0 = some (.c c) := by
  unfold HP.kn1 at h
  split at h
  · rename_i cs hk
    obtain ⟨h1, h2⟩ := HP.read_spec hk
    have h3 : cs[0]? = some cs[0] := List.getElem?_eq_getElem (by omega)
    exact ⟨cs[0], h2 0 _ h3⟩
  · cases h
/-- So many elements are no burden. -/
def fewA (m bytes : Nat) : Bool := Nat.ble (m * bytes) 140737488355328 && Nat.ble m 9223372036854775807
noncomputable def appendA (H : HP) (sz bytes : Nat) (s : AV) (n : Nat) (cs : List Cel) : R :=
  match s with
  | .one (.lit (.slice none 0 0)) => if n = 0 then some (s, H) else if fewA n bytes = true then some (.one (.su H.n 0 n sz), H.push (cellsB cs)) else none
  | .one (.sl b off len cap) =>
    if len + n ≤ cap then (H.write b (off + len * sz) cs).map fun H' => (.one (.sl b off (len + n) cap), H')
    else if fewA (len + n) bytes = true then match H.read b off (len * sz) with
      | some old => some (.one (.su H.n 0 (len + n) sz), H.push (cellsB (old ++ cs)))
      | none => none
    else none
  | .one (.su b off len s') =>
    if n = 0 then some (s, H)
    else if s' = sz ∧ fewA (len + n) bytes = true ∧ H.kn1 b = true then match H.write b (off + len * sz) cs with
      | some H' => some (.one (.su b off (len + n) sz), H')
      | none => match H.read b off (len * sz) with
        | some old => some (.one (.su H.n 0 (len + n) sz), (H.drop b).push (cellsB (old ++ cs)))
        | none => none
    else none
  | .one (.sz b s') =>
    if n = 0 then some (s, H)
    else if s' = sz ∧ fewA n bytes = true ∧ H.kn1 b = true then some (.one (.su H.n 0 n sz), (H.drop b).push (cellsB cs))
    else none
  | _ => none
def seqD : TypeDesc → Bool
  | .slice _ => true
  | .string => true
  | _ => false
/-- What is appended, by its type: elements; so many zero values. -/
noncomputable def srcU (H : HP) (sz bytes : Nat) (z : Value) (du : TypeDesc) (x : AV) : Option (Nat × List Cel) :=
  match seqD du with
  | true => srcA H sz x
  | false => match du, x with
    | .int _, .one (.lit (.int _ l)) => if 0 ≤ l ∧ fewA l.toNat bytes = true then (lits z.cells.toList).map fun zs => (l.toNat, repC zs l.toNat) else none
    | _, _ => none
noncomputable def oAppend (P : Program) [Plain P] (E : Operand → Option AV) (H : HP) (args : Array Operand) (ats : Array TypeId) : R :=
  match listE E args.toList, ats.toList with
  | some [s, x], [t, u] => match undT P t, undT P u with
    | some (.slice e), some du => match szA P e, infoT P e with
      | some (_, sz), some i => match i.zero with
        | some z => match srcU H sz i.bytes z du x with
          | some (n, cs) => if 0 < sz ∧ i.size = sz ∧ z.cells.size = sz then appendA H sz i.bytes s n cs else none
          | none => none
        | none => none
      | _, _ => none
    | _, _ => none
  | _, _ => none

theorem fewA_spec {m bytes : Nat} (h : fewA m bytes = true) : m * bytes ≤ 140737488355328 ∧ m ≤ 9223372036854775807 := by
  simp only [fewA, Bool.and_eq_true] at h
  exact ⟨Nat.le_of_ble_eq_true h.1, Nat.le_of_ble_eq_true h.2⟩

theorem cap_ge (need old : Nat) (e : TypeId) (w : World) : need ≤ grownCap w need old e := by
  simp only [grownCap, Question.cut]; omega
theorem cap_le {need : Nat} (old : Nat) (e : TypeId) (w : World) (h : need ≤ 9223372036854775807) : grownCap w need old e ≤ 9223372036854775807 := by
  simp only [grownCap, Question.cut]
  have := Nat.mod_lt (w.tape w.drawn (.appendCap need old e)) (show 0 < 2 ^ 63 - need by omega)
  omega

def SrcOK (P : Program) (du : TypeDesc) (i : TypeInfo) (z : Value) (w : World) (x : Value) (n : Nat) (news : List Value) : Prop :=
  (seqD du = true ∧ ∀ w' : World, w'.heap = w.heap → (Builtin.lenOf x).run P w' = .ok n w' ∧ (Builtin.firstCells i.size n x).run P w' = .ok news.toArray w') ∨
  (∃ kn kq, du = .int kn ∧ x = .int kq n ∧ news = (Builtin.zeroCells z.cells n).toList ∧ n * i.bytes ≤ 140737488355328 ∧ n ≤ 9223372036854775807)
theorem srcU_ok {sz bytes n : Nat} {z : Value} {du : TypeDesc} {i : TypeInfo} {x : AV} {u : Value} {cs : List Cel} (h : srcU H sz bytes z du x = some (n, cs)) (hx : VRel ρ x u) (hH : HRel ρ H w) (hb : i.bytes = bytes) (hsz : i.size = sz) (h0 : 0 < sz) (hzs : z.cells.size = sz) :
    n ≤ 9223372036854775807 ∧ ∃ us : List Value, All2 (CRel ρ) cs us ∧ us.length = n * sz ∧ SrcOK P du i z w u n us := by
  subst hsz
  unfold srcU at h
  split at h
  · rename_i hs
    obtain ⟨h1, us, h2, h3, h4⟩ := srcA_ok (P := P) h hx hH
    exact ⟨h1, us, h2, h3, .inl ⟨hs, h4⟩⟩
  · split at h
    · rename_i kn kq l _
      split at h
      · rename_i hl
        obtain ⟨zs, hzs', hv⟩ := map_some h
        cases hv
        obtain ⟨rfl, _⟩ := hx
        obtain ⟨f1, f2⟩ := fewA_spec hl.2
        have hrel := lits_rel (ρ := ρ) hzs'
        have hl1 : zs.length = i.size := by have := hrel.length; simp only [Array.length_toList] at this; omega
        refine ⟨f2, _, repC_rel (n := l.toNat) hrel hl1 h0, by simp [Builtin.zeroCells, hzs], .inr ⟨kn, kq, rfl, ?_, rfl, by rw [hb]; exact f1, f2⟩⟩
        rw [Int.toNat_of_nonneg hl.1]
      · cases h
    · cases h

section app
variable {t u e ty : TypeId} {du : TypeDesc} {i : TypeInfo} {z : Value} {n : Nat} {x : Value} {news : List Value} {base : Option Addr} {sLen sCap : Nat}

theorem wrap_nat {n : Nat} (h : n ≤ 9223372036854775807) : IntKind.i64.wrap (n : Int) = n := by rw [IntKind.wrap_i64]; omega

/-- Append where there is room. -/
theorem run_app_in (ht : P.underlying t = some (.slice e)) (hu : P.underlying u = some du) (hi : P.info? e = some i) (hz : i.zero = some z) (hsz : 0 < i.size)
    (hx : SrcOK P du i z w x n news) (hle : sLen + n ≤ sCap) {w1 : World}
    (hst : match base with | some a => (storeCells (a.add (sLen * i.size)) news).run P w = .ok () w1 | none => w1 = w) :
    (Builtin.append_ #[t, u] ty #[.slice base sLen sCap, x]).run P w = .ok (.slice base (sLen + n) sCap) w1 := by
  rcases hx with ⟨hdu, hx⟩ | ⟨kn, kq, rfl, rfl, rfl, hb, h63⟩
  · obtain ⟨h1, h2⟩ := hx w rfl
    have hz' : ((P.underlying u).elim false fun d => d matches .int _) = false := by rw [hu]; cases du <;> first | rfl | cases hdu
    cases du <;> first | cases hdu | skip
    all_goals
      cases base with
      | none =>
        subst hst
        simp [Builtin.append_, run_underlying ht, run_underlying hu, sizeOf, typeInfo, hi, h1, h2, hle]
      | some a =>
        simp [Builtin.append_, run_underlying ht, run_underlying hu, sizeOf, typeInfo, hi, h1, h2, hle, hst]
  · have hw := wrap_nat h63
    have h48i : ¬ (281474976710656 < (n : Int) * (i.bytes : Int)) := by
      rw [← Int.natCast_mul]
      omega
    have hneg : ¬ ((n : Int) < 0) := by omega
    by_cases hn0 : n = 0
    · subst hn0
      have hzc : (Builtin.zeroCells z.cells 0).toList = [] := by simp [Builtin.zeroCells]
      rw [hzc] at hst
      have hle' : sLen ≤ sCap := by omega
      have hw0 : IntKind.i64.wrap 0 = 0 := by decide
      cases base with
      | none =>
        subst hst
        simp [Builtin.append_, run_underlying ht, run_underlying hu, sizeOf, typeInfo, hi, asInt, asIntOf, hw0, hle']
      | some a =>
        simp [Builtin.append_, run_underlying ht, run_underlying hu, sizeOf, typeInfo, hi, asInt, asIntOf, hw0, hle', hst]
    · have hns : ¬ (n * i.size = 0) := Nat.mul_ne_zero hn0 (by omega)
      cases base with
      | none =>
        subst hst
        simp [Builtin.append_, run_underlying ht, run_underlying hu, sizeOf, typeInfo, zeroValue, hi, hz, asInt, asIntOf, hw, hneg, h48i, hns, hle]
      | some a =>
        simp [Builtin.append_, run_underlying ht, run_underlying hu, sizeOf, typeInfo, zeroValue, hi, hz, asInt, asIntOf, hw, hneg, h48i, hns, hle, hst]

/-- Append where there is none. -/
theorem run_app_out (ht : P.underlying t = some (.slice e)) (hu : P.underlying u = some du) (hi : P.info? e = some i) (hz : i.zero = some z) (hsz : 0 < i.size)
    (hx : SrcOK P du i z w x n news) {olds : List Value}
    (ho : ∀ w' : World, w'.heap = w.heap → (Builtin.firstCells i.size sLen (.slice base sLen sCap)).run P w' = .ok olds.toArray w') (hg : sCap < sLen + n) (hfew : fewA (sLen + n) i.bytes = true) (hn0 : n ≠ 0) :
    (Builtin.append_ #[t, u] ty #[.slice base sLen sCap, x]).run P w =
      .ok (.slice (some ⟨w.heap.size, 0, none⟩) (sLen + n) (grownCap w (sLen + n) sCap e)) (w.drew.alloc (.cells (olds.toArray ++ news.toArray ++ Builtin.zeroCells z.cells (grownCap w (sLen + n) sCap e - (sLen + n))) e)) := by
  obtain ⟨f1, f2⟩ := fewA_spec hfew
  have h3 := ho w.drew rfl
  have hn : ¬ (sLen + n ≤ sCap) := by omega
  have h63' : ¬ (9223372036854775807 < ((sLen : Int) + (n : Int))) := by omega
  have h48' : ¬ (281474976710656 < Builtin.nextslicecap (sLen + n) sCap * i.bytes) := by
    have := growslice_fits (bytes := i.bytes) hg f1
    omega
  rcases hx with ⟨hdu, hx⟩ | ⟨kn, kq, rfl, rfl, rfl, hb, h63⟩
  · obtain ⟨h1, _⟩ := hx w rfl
    obtain ⟨_, h2⟩ := hx w.drew rfl
    cases du <;> first | cases hdu | skip
    all_goals
      simp [Builtin.append_, run_underlying ht, run_underlying hu, sizeOf, typeInfo, zeroValue, hi, hz, hn, h63', h48', Question.forced, h1, h2, h3, newRow, grownCap]
      congr 2
      apply Array.ext'
      simp [List.append_assoc]
  · have := Lib.run_append_grow_zeros w t u ty e i z kq kn ht hu hi hz base sLen sCap olds h3 n (by omega) hsz hg (by omega) (by omega) (by
      have := growslice_fits (bytes := i.bytes) hg f1
      omega)
    rw [this]
end app
end
end Go.Fv

set_option linter.unusedSectionVars false
set_option linter.unusedVariables false
namespace Go.Fv
section
variable {P : Program} [Plain P] {ora : Ora} {E : Operand → Option AV} {H H' : HP} {w : World} {ρ : PM} {ev : Operand → Value} {v : AV}

theorem HP.write_room {b o : Nat} {cs : List Cel} {L : Loc} (hH : HRel ρ H w) (h : H.write b o cs = some H') (hL : ρ b = some L) (hp : 0 < cs.length) : L.o + o + cs.length ≤ L.C := by
  obtain ⟨_, _, h3⟩ := HP.write_spec h
  obtain ⟨c, hc, hpl⟩ := h3 (cs.length - 1) (by omega)
  obtain ⟨arr, t, fr, _, _, e3, e4⟩ := plc_rel (hH.rel b _ c L hc hL) hpl
  omega
theorem dom_drop {b : Nat} (hd : Dom ρ H.n) : Dom ρ (H.drop b).n := hd

theorem all2_take {cs : List Cel} {us : Array Value} {rest : Array Value} {vs : List Value} (h : All2 (CRel ρ) cs vs) (he : us = vs.toArray ++ rest) : All2 (CRel ρ) cs (us.toList.take cs.length) := by
  subst he
  have := h.length
  simp only [Array.toList_append, List.take_append_of_le_length (show cs.length ≤ vs.length by omega)]
  rw [List.take_of_length_le (by omega)]
  exact h

theorem appendA_ok {t u e ty : TypeId} {du : TypeDesc} {i : TypeInfo} {z x : Value} {n : Nat} {cs : List Cel} {s : AV} {us : Value} (ht : P.underlying t = some (.slice e)) (hu : P.underlying u = some du) (hi : P.info? e = some i) (hz : i.zero = some z)
    (hsz : 0 < i.size) (hzs : z.cells.size = i.size) (h : appendA H i.size i.bytes s n cs = some (v, H')) (hs : VRel ρ s us) {news : List Value} (hnr : All2 (CRel ρ) cs news) (hnl : news.length = n * i.size)
    (hx : SrcOK P du i z w x n news) (hH : HRel ρ H w) (hd : Dom ρ H.n) :
    St H H' ∧ ∃ u' w', (Builtin.append_ #[t, u] ty #[us, x]).run P w = .ok u' w' ∧ Post ρ H w v H' u' w' := by
  have hcl := hnr.length
  -- a new object
  have grow : ∀ (base : Option Addr) (sLen sCap : Nat) (olds : List Value) (old : List Cel) (G : HP), (∀ w' : World, w'.heap = w.heap → (Builtin.firstCells i.size sLen (.slice base sLen sCap)).run P w' = .ok olds.toArray w') → All2 (CRel ρ) old olds → olds.length = sLen * i.size → sCap < sLen + n → n ≠ 0 → fewA (sLen + n) i.bytes = true →
      Sim ρ H w ρ G w → G.n = H.n →
      ∃ u' w', (Builtin.append_ #[t, u] ty #[.slice base sLen sCap, x]).run P w = .ok u' w' ∧ Post ρ H w (.one (.su H.n 0 (sLen + n) i.size)) (G.push (cellsB (old ++ cs))) u' w' := by
    intro base sLen sCap olds old G ho hor hol hg hn0 hfew hG hGn
    have hrun := run_app_out (ty := ty) ht hu hi hz hsz hx ho hg hfew hn0
    refine ⟨_, _, hrun, ?_⟩
    obtain ⟨f1, f2⟩ := fewA_spec hfew
    have hdG : Dom ρ G.n := by rw [hGn]; exact hd
    have s2 : Sim ρ G w ρ G w.drew := Sim.same hG.rel hdG rfl rfl rfl rfl
    have hcells : All2 (CRel ρ) (old ++ cs) (olds ++ news) := hor.append hnr
    have s3 := Sim.allocC (t := e) (us := olds.toArray ++ news.toArray ++ Builtin.zeroCells z.cells (grownCap w (sLen + n) sCap e - (sLen + n))) s2.rel hdG (all2_take (vs := olds ++ news) (rest := Builtin.zeroCells z.cells (grownCap w (sLen + n) sCap e - (sLen + n))) hcells (by simp))
    refine ⟨_, ⟨⟨w.heap.size, 0, (olds.toArray ++ news.toArray ++ Builtin.zeroCells z.cells (grownCap w (sLen + n) sCap e - (sLen + n))).size⟩, grownCap w (sLen + n) sCap e, ?_, rfl, cap_ge _ _ _ _, cap_le _ _ _ f2, ?_⟩, hG.trans hd (s2.trans hdG s3)⟩
    · rw [hGn]; exact upd_same _ _ _
    · have hcg := cap_ge (sLen + n) sCap e w
      simp only [Array.size_append, List.size_toArray, size_zeroCells, hzs, hol, hnl]
      rw [← Nat.add_mul, ← Nat.add_mul, show sLen + n + (grownCap w (sLen + n) sCap e - (sLen + n)) = grownCap w (sLen + n) sCap e by omega]
      omega
  -- in the object itself
  have into : ∀ (b off sLen cap : Nat) (L : Loc) (o : Nat) (olds : List Value) (old : List Cel), H.kn1 b = true → ρ b = some L → (∀ w' : World, w'.heap = w.heap → (Builtin.firstCells i.size sLen (.slice (some ⟨L.B, o, none⟩) sLen cap)).run P w' = .ok olds.toArray w') → All2 (CRel ρ) old olds → olds.length = sLen * i.size →
      (∀ (j : Nat) (y : Value), olds[j]? = some y → w.cell? ⟨L.B, o + j, none⟩ = some y) → sLen ≤ cap → cap ≤ 9223372036854775807 → o + cap * i.size ≤ L.C → (cap = 0 ∨ o + cap * i.size = L.C) → n ≠ 0 → fewA (sLen + n) i.bytes = true →
      ∃ u' w', (Builtin.append_ #[t, u] ty #[.slice (some ⟨L.B, o, none⟩) sLen cap, x]).run P w = .ok u' w' ∧ Post ρ H w (.one (.su H.n 0 (sLen + n) i.size)) ((H.drop b).push (cellsB (old ++ cs))) u' w' := by
    intro b off sLen cap L o olds old hk hL ho hor hol hcell h1 h2 h3 h3' hn0 hfew
    by_cases hroom : sLen + n ≤ cap
    · obtain ⟨c0, hc0⟩ := HP.kn1_spec hk
      obtain ⟨arr, t', fr, u0, e1, e2, e3, e4, e5⟩ := hH.rel b 0 (.c c0) L hc0 hL
      have hfit : (sLen + n) * i.size ≤ cap * i.size := Nat.mul_le_mul_right _ hroom
      have hfit' : sLen * i.size + n * i.size ≤ cap * i.size := by rw [← Nat.add_mul]; exact hfit
      have hst : (storeCells (Addr.add ⟨L.B, o, none⟩ (sLen * i.size)) news).run P w = .ok () (setRow w L.B (o + sLen * i.size) news) := by
        rw [add_addr]
        refine run_storeCells L.B news w (o + sLen * i.size) 0 e1 e2 (by omega) fun y hy => ?_
        obtain ⟨j, hj⟩ := List.getElem?_of_mem hy
        obtain ⟨c, _, hc⟩ := hnr.get' j y hj
        exact hc.oneCell
      refine ⟨_, _, run_app_in (ty := ty) (base := some ⟨L.B, o, none⟩) ht hu hi hz hsz hx hroom hst, upd ρ H.n ⟨L.B, o, L.C⟩, ⟨⟨L.B, o, L.C⟩, cap, upd_same _ _ _, rfl, hroom, h2, ?_⟩, ?_⟩
      · simp only
        rcases h3' with h3' | h3'
        · omega
        · exact h3'
      · have hol' := hor.length
        have := Sim.into (b := b) (off := off) (L := L) (o := o) hH hd hL ⟨0, _, hc0⟩ e1 e2 e3 (old := old) (new := cs) (us := olds) (vs := news) (by omega) hor (fun j y hy => by
          have := hcell j y hy
          rw [cell?_of e1] at this
          exact this) hnr
        rw [show old.length = sLen * i.size by omega] at this
        exact this
    · exact grow (some ⟨L.B, o, none⟩) sLen cap olds old (H.drop b) ho hor hol (by omega) (by omega) hfew (Sim.drop hH hd b) rfl
  unfold appendA at h
  split at h
  · -- nil
    obtain ⟨rfl, _⟩ := hs
    split at h
    · rename_i h0
      subst h0
      cases h
      have hnil : news = [] := List.length_eq_zero_iff.1 (by omega)
      refine ⟨St.refl H, _, _, run_app_in (ty := ty) (base := none) (sLen := 0) (sCap := 0) (w1 := w) ht hu hi hz hsz hx (by omega) rfl, ρ, ⟨rfl, rfl⟩, Sim.refl hH hd⟩
    · split at h
      · rename_i h0 hfew
        cases h
        obtain ⟨u', w', h1, h2⟩ := grow none 0 0 [] [] H (fun w' _ => run_firstCells_none _ _ _ _ _) trivial (by simp) (by omega) (by omega) (by rw [Nat.zero_add]; exact hfew) (Sim.refl hH hd) rfl
        rw [Nat.zero_add, List.nil_append] at h2
        exact ⟨St.push _ _, u', w', h1, h2⟩
      · cases h
  · -- a known capacity
    rename_i b off len cap
    obtain ⟨⟨L, hL, rfl⟩, hc1, hc2⟩ := hs
    split at h
    · rename_i hroom
      obtain ⟨H1, hw, hv⟩ := map_some h
      cases hv
      refine ⟨St.write hw, _, _, run_app_in (ty := ty) (base := some ⟨L.B, L.o + off, none⟩) ht hu hi hz hsz hx hroom (w1 := setRow w L.B (L.o + (off + len * i.size)) news) ?_, ρ, ⟨⟨L, hL, rfl⟩, hroom, hc2⟩, Sim.write hH hd hw hL hnr⟩
      simp only
      rw [add_addr, Nat.add_assoc]
      exact HP.write_run hH hw hL hnr
    · rename_i hroom
      split at h
      · rename_i hfew
        split at h
        · rename_i old hr
          cases h
          obtain ⟨us, hl, hrel, hcell⟩ := HP.read_world hr hH hL
          obtain ⟨u', w', h1, h2⟩ := grow (some ⟨L.B, L.o + off, none⟩) len cap us old H (fun w' hw => run_firstCells_some (P := P) w' i.size _ _ _ _ us hl fun j y hj => by
            rw [add_addr]
            have := hcell j y hj
            unfold World.cell? at this ⊢
            rw [hw]
            exact this) hrel hl (by omega) (by omega) hfew (Sim.refl hH hd) rfl
          exact ⟨St.push _ _, u', w', h1, h2⟩
        · cases h
      · cases h
  · -- to the object's end
    rename_i b off len s'
    obtain ⟨L, cap, hL, rfl, hc1, hc2, hc3⟩ := hs
    split at h
    · rename_i h0
      subst h0
      cases h
      have hnil : news = [] := List.length_eq_zero_iff.1 (by omega)
      subst hnil
      refine ⟨St.refl H, _, _, run_app_in (ty := ty) (base := some ⟨L.B, L.o + off, none⟩) ht hu hi hz hsz hx (by omega) (w1 := w) (by rfl), ρ, ⟨L, cap, hL, rfl, hc1, hc2, hc3⟩, Sim.refl hH hd⟩
    · split at h
      · rename_i h0 hb
        obtain ⟨rfl, hfew, hk⟩ := hb
        split at h
        · rename_i H1 hw
          cases h
          have hpos : 0 < cs.length := by rw [hcl, hnl]; exact Nat.mul_pos (by omega) hsz
          have hroom : len + n ≤ cap := by
            have := HP.write_room hH hw hL hpos
            rw [hcl, hnl] at this
            have h4 : (len + n) * i.size ≤ cap * i.size := by rw [Nat.add_mul]; omega
            exact Nat.le_of_mul_le_mul_right h4 hsz
          refine ⟨St.write hw, _, _, run_app_in (ty := ty) (base := some ⟨L.B, L.o + off, none⟩) ht hu hi hz hsz hx hroom (w1 := setRow w L.B (L.o + (off + len * i.size)) news) ?_, ρ, ⟨L, cap, hL, rfl, hroom, hc2, hc3⟩, Sim.write hH hd hw hL hnr⟩
          simp only
          rw [add_addr, Nat.add_assoc]
          exact HP.write_run hH hw hL hnr
        · split at h
          · rename_i old hr
            cases h
            obtain ⟨us, hl, hrel, hcell⟩ := HP.read_world hr hH hL
            obtain ⟨u', w', h1, h2⟩ := into b off len cap L (L.o + off) us old hk hL (fun w' hw => run_firstCells_some (P := P) w' i.size _ _ _ _ us hl fun j y hj => by
              rw [add_addr]
              have := hcell j y hj
              unfold World.cell? at this ⊢
              rw [hw]
              exact this) hrel hl hcell hc1 hc2 (Nat.le_of_eq hc3) (.inr hc3) h0 hfew
            exact ⟨(St.drop H b).trans (St.push _ _), u', w', h1, h2⟩
          · cases h
      · cases h
  · -- an empty one
    rename_i b s'
    obtain ⟨L, off, cap, hL, rfl, hc2, hc3, hc4, hc5⟩ := hs
    split at h
    · rename_i h0
      subst h0
      cases h
      have hnil : news = [] := List.length_eq_zero_iff.1 (by omega)
      subst hnil
      refine ⟨St.refl H, _, _, run_app_in (ty := ty) (base := some ⟨L.B, off, none⟩) ht hu hi hz hsz hx (by omega) (w1 := w) (by simp [storeCells]), ρ, ⟨L, off, cap, hL, rfl, hc2, hc3, hc4, hc5⟩, Sim.refl hH hd⟩
    · split at h
      · rename_i h0 hb
        obtain ⟨rfl, hfew, hk⟩ := hb
        cases h
        obtain ⟨u', w', h1, h2⟩ := into b off 0 cap L off [] [] hk hL (fun w' hw => run_firstCells_some (P := P) w' i.size 0 ⟨L.B, off, none⟩ 0 cap [] (by simp) fun j y hj => by simp at hj) trivial (by simp) (fun j y hy => by simp at hy) (by omega) hc2 hc4 hc5 h0 (by rw [Nat.zero_add]; exact hfew)
        rw [Nat.zero_add, List.nil_append] at h2
        exact ⟨(St.drop H b).trans (St.push _ _), u', w', h1, h2⟩
      · cases h
  · cases h

theorem OpS.of_run {op : Op} {u' : Value} {w' : World} (h : ∀ dst ty pos after guard, (execOp ev ⟨dst, op, ty, pos, after, guard⟩).run P w = .ok (.value u') w') (hp : Post ρ H w v H' u' w') : OpS P ρ ev H w op v H' := by
  intro dst ty pos after guard
  rw [h]
  exact hp

theorem two_args {args : Array Operand} {s x : AV} (h : listE E args.toList = some [s, x]) (hx : ∀ z ∈ args.toList, ∀ a, E z = some a → VRel ρ a (ev z)) : ∃ a b, args = #[a, b] ∧ VRel ρ s (ev a) ∧ VRel ρ x (ev b) := by
  have hus := listE_rel (ρ := ρ) (ev := ev) hx h
  match hargs : args.toList, hus with
  | [a, b], hus =>
    have hargs' : args = #[a, b] := by rw [← Array.toList_inj]; simpa using hargs
    exact ⟨a, b, hargs', hus.1, hus.2.1⟩

theorem oAppend_ok {args : Array Operand} {ats : Array TypeId} (h : oAppend P E H args ats = some (v, H')) (hx : ∀ z ∈ args.toList, ∀ a, E z = some a → VRel ρ a (ev z)) (hH : HRel ρ H w) (hd : Dom ρ H.n) :
    St H H' ∧ OpS P ρ ev H w (.call ⟨.builtin .append, args, ats⟩) v H' := by
  unfold oAppend at h
  simp only [infoT_eq, undT_eq] at h
  split at h
  · rename_i s x t u hl hat
    obtain ⟨a, b, rfl, ha, hb⟩ := two_args hl hx
    have hats : ats = #[t, u] := by rw [← Array.toList_inj]; simpa using hat
    subst hats
    split at h
    · rename_i e du ht hu
      split at h
      · rename_i ag sz i hs hi
        split at h
        · rename_i z hz
          split at h
          · rename_i n cs hsrc
            split at h
            · rename_i hc
              obtain ⟨h0, rfl, hzs⟩ := hc
              obtain ⟨_, us, hrel, hul, hsrc'⟩ := srcU_ok (P := P) (w := w) (i := i) hsrc hb hH rfl rfl h0 hzs
              refine ⟨(appendA_ok (ty := 0) ht hu hi hz h0 hzs h ha hrel hul hsrc' hH hd).1, fun dst ty pos after guard => ?_⟩
              obtain ⟨_, u', w', hrun, hp⟩ := appendA_ok (ty := ty) ht hu hi hz h0 hzs h ha hrel hul hsrc' hH hd
              have : (execOp ev ⟨dst, .call ⟨.builtin .append, #[a, b], #[t, u]⟩, ty, pos, after, guard⟩).run P w = .ok (.value u') w' := by
                simp [execOp, resolve, invoke, builtin, hrun]
              rw [this]
              exact hp
            · cases h
          · cases h
        · cases h
      · cases h
    · cases h
  · cases h
end
end Go.Fv
