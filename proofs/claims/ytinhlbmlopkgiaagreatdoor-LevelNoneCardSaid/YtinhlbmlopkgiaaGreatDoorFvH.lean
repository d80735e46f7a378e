/-
  A second abstract evaluator of the model's code: slicing, closures made, the greater of two. Conditions: none; nothing here speaks of one program.
-/
import Derived.Test.YtinhlbmlopkgiaaGreatDoorFvG
set_option linter.unusedSectionVars false
set_option linter.unusedVariables false
namespace Go.Fv
section
variable {P : Program} [Plain P] {ora : Ora} {E : Operand → Option AV} {H H' : HP} {w : World} {ρ : PM} {ev : Operand → Value} {v : AV}

/-- A bound: none; or a number that is not below 0. -/
def boundA (E : Operand → Option AV) : Option Operand → Option (Option Nat)
  | none => some none
  | some x => match E x with
    | some (.one (.lit (.int _ n))) => if 0 ≤ n then some (some n.toNat) else none
    | _ => none
/-- A slice of a slice, of elements of s cells. -/
def cutSl (b off len cap l h m s : Nat) : Option AV :=
  if l ≤ h ∧ h ≤ m ∧ m ≤ cap then (if m = l then some (.one (.sl b off (h - l) (m - l))) else some (.one (.sl b (off + l * s) (h - l) (m - l)))) else none
def sliceA (sz : Nat) (x : AV) (lo hi mx : Option Nat) : Option AV :=
  match x, mx with
  | .one (.sl b off len cap), none => cutSl b off len cap (lo.getD 0) (hi.getD len) cap sz
  | .one (.sl b off len cap), some m => match hi with
    | some h => cutSl b off len cap (lo.getD 0) h m sz
    | none => none
  | .one (.su b off len s), none =>
    if s = sz ∧ lo.getD 0 ≤ hi.getD len ∧ hi.getD len ≤ len then
      if lo.getD 0 < len then some (.one (.su b (off + lo.getD 0 * sz) (hi.getD len - lo.getD 0) sz)) else some (.one (.sz b sz))
    else none
  | .one (.su b off len s), some m => match hi with
    | some h => cutSl b off len len (lo.getD 0) h m sz
    | none => none
  | .one (.sz b s), none => if s = sz ∧ lo.getD 0 = 0 ∧ hi.getD 0 = 0 then some (.one (.sz b sz)) else none
  | .one (.lit (.slice none n c)), none => if lo.getD 0 = 0 ∧ hi.getD 0 = 0 then some (.one (.lit (.slice none 0 0))) else none
  | _, _ => none
noncomputable def oSlice (P : Program) [Plain P] (E : Operand → Option AV) (H : HP) (t : TypeId) (x : Operand) (lo hi mx : Option Operand) : R :=
  match undT P t, E x, boundA E lo, boundA E hi, boundA E mx with
  | some (.array n e), some (.one (.ptr b off)), some l, some h, some m =>
    match szA P e with
    | some (_, s) => if n ≤ 9223372036854775807 then (sliceA s (.one (.sl b off n n)) l h m).map fun v => (v, H) else none
    | none => none
  | some (.slice e), some a, some l, some h, some m =>
    match szA P e with
    | some (_, s) => (sliceA s a l h m).map fun v => (v, H)
    | none => none
  | some .string, some (.one (.lit (.string s))), some l, some h, some none =>
    if l.getD 0 ≤ h.getD s.size ∧ h.getD s.size ≤ s.size then some (.one (.lit (.string (s.extract (l.getD 0) (h.getD s.size)))), H) else none
  | _, _, _, _, _ => none

/-- A bound's value stands for the number. -/
def BRel : Option Nat → Option Value → Prop
  | none, none => True
  | some n, some u => ∃ k, u = .int k (n : Int)
  | _, _ => False
theorem boundA_rel {x : Option Operand} {b : Option Nat} (h : boundA E x = some b) (hx : ∀ z, x = some z → ∀ a, E z = some a → VRel ρ a (ev z)) : BRel b (x.map ev) := by
  cases x with
  | none => cases h; trivial
  | some z =>
    simp only [boundA] at h
    split at h
    · rename_i k n hz
      split at h
      · rename_i hn
        cases h
        obtain ⟨he, _⟩ := hx z rfl _ hz
        exact ⟨k, by rw [he, Int.toNat_of_nonneg hn]⟩
      · cases h
    · cases h

theorem run_bound {u : Value} {k : IntKind} {n y : Nat} {code : BoundsCode} (hu : u = .int k (n : Int)) (h : n ≤ y) : (Instr.sliceBound u y code).run P w = .ok n w := by
  subst hu
  simp only [Instr.sliceBound, asIntOf, Sem.run_bind, Sem.run_pure, Result.andThen_ok]
  rw [if_pos ⟨by omega, by omega⟩]
  simp

theorem run_bounds {isS : Bool} {len cap : Nat} {lo hi mx : Option Nat} {ul uh um : Option Value} (hl : BRel lo ul) (hh : BRel hi uh) (hm : BRel mx um) (hmx : mx = none ∨ hi ≠ none)
    (h1 : mx.getD cap ≤ cap) (h2 : hi.getD len ≤ mx.getD cap ∨ (mx = none ∧ hi = none)) (h3 : lo.getD 0 ≤ hi.getD len) :
    (Instr.sliceBounds isS len cap ul uh um).run P w = .ok (lo.getD 0, hi.getD len, mx.getD cap) w := by
  unfold Instr.sliceBounds
  cases mx with
  | none =>
    cases um with
    | some _ => exact hm.elim
    | none =>
      simp only [Sem.run_bind, Sem.run_pure, Result.andThen_ok, Option.getD_none]
      cases hi with
      | none =>
        cases uh with
        | some _ => exact hh.elim
        | none =>
          simp only [Sem.run_pure, Result.andThen_ok, Option.getD_none]
          cases lo with
          | none => cases ul with
            | some _ => exact hl.elim
            | none => simp
          | some l => cases ul with
            | none => exact hl.elim
            | some u =>
              obtain ⟨k, hu⟩ := hl
              simp only [Sem.run_bind, Sem.run_pure, run_bound hu (show l ≤ len by simpa using h3), Result.andThen_ok, Option.getD_some]
      | some hv =>
        cases uh with
        | none => exact hh.elim
        | some u =>
          obtain ⟨k, hu⟩ := hh
          have h2' : hv ≤ cap := by
            rcases h2 with h2 | h2
            · simpa using h2
            · exact absurd h2.2 (by simp)
          simp only [Sem.run_bind, run_bound hu h2', Result.andThen_ok, Option.getD_some]
          cases lo with
          | none => cases ul with
            | some _ => exact hl.elim
            | none => simp
          | some l => cases ul with
            | none => exact hl.elim
            | some u =>
              obtain ⟨k, hu⟩ := hl
              simp only [Sem.run_bind, Sem.run_pure, run_bound hu (show l ≤ hv by simpa using h3), Result.andThen_ok, Option.getD_some]
  | some m =>
    cases um with
    | none => exact hm.elim
    | some um =>
      obtain ⟨k, hum⟩ := hm
      cases hi with
      | none => exact absurd rfl (hmx.resolve_left (by simp))
      | some hv =>
        cases uh with
        | none => exact hh.elim
        | some u =>
          obtain ⟨k, hu⟩ := hh
          have h2' : hv ≤ m := by
            rcases h2 with h2 | h2
            · simpa using h2
            · exact absurd h2.1 (by simp)
          simp only [Sem.run_bind, run_bound hum (show m ≤ cap by simpa using h1), run_bound hu h2', Result.andThen_ok, Option.getD_some]
          cases lo with
          | none => cases ul with
            | some _ => exact hl.elim
            | none => simp
          | some l => cases ul with
            | none => exact hl.elim
            | some u =>
              obtain ⟨k, hu⟩ := hl
              simp only [Sem.run_bind, Sem.run_pure, run_bound hu (show l ≤ hv by simpa using h3), Result.andThen_ok, Option.getD_some]

theorem cutSl_rel {b off len cap l h m s : Nat} {r : AV} {L : Loc} (hr : cutSl b off len cap l h m s = some r) (hL : ρ b = some L) (hc : cap ≤ 9223372036854775807) :
    (l ≤ h ∧ h ≤ m ∧ m ≤ cap) ∧ VRel ρ r (.slice (if m = l then some ⟨L.B, L.o + off, none⟩ else (some ⟨L.B, L.o + off, none⟩ : Option Addr).map (·.add (l * s))) (h - l) (m - l)) := by
  unfold cutSl at hr
  split at hr
  · rename_i hb
    refine ⟨hb, ?_⟩
    split at hr
    · rename_i hm
      cases hr
      rw [if_pos hm]
      exact ⟨⟨L, hL, rfl⟩, by omega, by omega⟩
    · rename_i hm
      cases hr
      rw [if_neg hm]
      refine ⟨⟨L, hL, ?_⟩, by omega, by omega⟩
      simp only [Option.map_some, add_addr, Nat.add_assoc]
  · cases hr

theorem sliceA_ok {t e : TypeId} {s : Nat} {ag : Bool} {x r : AV} {u : Value} {lo hi mx : Option Nat} {ul uh um : Option Value} (hu : P.underlying t = some (.slice e)) (hs : szA P e = some (ag, s)) (h : sliceA s x lo hi mx = some r) (hx : VRel ρ x u)
    (hl : BRel lo ul) (hh : BRel hi uh) (hm : BRel mx um) : ∃ u', (Instr.slice t u ul uh um).run P w = .ok u' w ∧ VRel ρ r u' := by
  unfold sliceA at h
  split at h
  · rename_i b off len cap
    obtain ⟨⟨L, hL, rfl⟩, h1, h2⟩ := hx
    obtain ⟨hb, hr⟩ := cutSl_rel h hL h2
    refine ⟨_, ?_, hr⟩
    have := run_bounds (P := P) (w := w) (isS := true) (len := len) (cap := cap) hl hh hm (.inl rfl) (by simp) (.inl (by simpa using hb.2.1)) hb.1
    simp only [Option.getD_none] at this
    simp only [Instr.slice, Sem.run_bind, run_underlying hu, Result.andThen_ok, this, run_sizeOf hs, Sem.run_pure]
  · rename_i b off len cap m
    obtain ⟨⟨L, hL, rfl⟩, h1, h2⟩ := hx
    split at h
    · rename_i hv
      obtain ⟨hb, hr⟩ := cutSl_rel h hL h2
      refine ⟨_, ?_, hr⟩
      have := run_bounds (P := P) (w := w) (isS := true) (len := len) (cap := cap) hl hh hm (.inr (by simp)) (by simpa using hb.2.2) (.inl (by simpa using hb.2.1)) (by simpa using hb.1)
      simp only [Option.getD_some] at this
      simp only [Instr.slice, Sem.run_bind, run_underlying hu, Result.andThen_ok, this, run_sizeOf hs, Sem.run_pure]
    · cases h
  · rename_i b off len s'
    obtain ⟨L, cap, hL, rfl, h1, h2, h3⟩ := hx
    split at h
    · rename_i hb
      obtain ⟨rfl, hb1, hb2⟩ := hb
      have := run_bounds (P := P) (w := w) (isS := true) (len := len) (cap := cap) hl hh hm (.inl rfl) (by simp) (.inl (by simp only [Option.getD_none]; omega)) hb1
      simp only [Option.getD_none] at this
      have hrun : (Instr.slice t (.slice (some ⟨L.B, L.o + off, none⟩) len cap) ul uh um).run P w = .ok (.slice (if cap = lo.getD 0 then some ⟨L.B, L.o + off, none⟩ else (some ⟨L.B, L.o + off, none⟩ : Option Addr).map (·.add (lo.getD 0 * s'))) (hi.getD len - lo.getD 0) (cap - lo.getD 0)) w := by
        simp only [Instr.slice, Sem.run_bind, run_underlying hu, Result.andThen_ok, this, run_sizeOf hs, Sem.run_pure]
      refine ⟨_, hrun, ?_⟩
      have hmul : lo.getD 0 * s' + (cap - lo.getD 0) * s' = cap * s' := by rw [← Nat.add_mul]; congr 1; omega
      split at h
      · rename_i hlt
        cases h
        rw [if_neg (by omega)]
        refine ⟨L, cap - lo.getD 0, hL, ?_, by omega, by omega, by omega⟩
        simp only [Option.map_some, add_addr, Nat.add_assoc]
      · rename_i hlt
        cases h
        have e0 : hi.getD len - lo.getD 0 = 0 := by omega
        rw [e0]
        by_cases hc : cap = lo.getD 0
        · rw [if_pos hc]
          exact ⟨L, L.o + off, cap - lo.getD 0, hL, rfl, by omega, by omega, by omega⟩
        · rw [if_neg hc]
          refine ⟨L, L.o + off + lo.getD 0 * s', cap - lo.getD 0, hL, ?_, by omega, by omega, by omega⟩
          simp only [Option.map_some, add_addr]
    · cases h
  · rename_i b off len s' m
    obtain ⟨L, cap, hL, rfl, h1, h2, h3⟩ := hx
    split at h
    · rename_i hv
      obtain ⟨hb, hr⟩ := cutSl_rel h hL (by omega)
      refine ⟨_, ?_, hr⟩
      have := run_bounds (P := P) (w := w) (isS := true) (len := len) (cap := cap) hl hh hm (.inr (by simp)) (by simp only [Option.getD_some]; omega) (.inl (by simpa using hb.2.1)) (by simpa using hb.1)
      simp only [Option.getD_some] at this
      simp only [Instr.slice, Sem.run_bind, run_underlying hu, Result.andThen_ok, this, run_sizeOf hs, Sem.run_pure]
    · cases h
  · rename_i b s'
    obtain ⟨L, off, cap, hL, rfl, h1, h2, h3⟩ := hx
    split at h
    · rename_i hb
      obtain ⟨rfl, hb1, hb2⟩ := hb
      cases h
      have := run_bounds (P := P) (w := w) (isS := true) (len := 0) (cap := cap) hl hh hm (.inl rfl) (by simp) (.inl (by simp only [Option.getD_none]; omega)) (by omega)
      simp only [Option.getD_none, hb1, hb2] at this
      have hrun : (Instr.slice t (.slice (some ⟨L.B, off, none⟩) 0 cap) ul uh um).run P w = .ok (.slice (if cap = 0 then some ⟨L.B, off, none⟩ else (some ⟨L.B, off, none⟩ : Option Addr).map (·.add (0 * s'))) (0 - 0) (cap - 0)) w := by
        simp only [Instr.slice, Sem.run_bind, run_underlying hu, Result.andThen_ok, this, run_sizeOf hs, Sem.run_pure]
      refine ⟨_, hrun, L, off, cap, hL, ?_, h1, h2, h3⟩
      split
      · rfl
      · simp [add_addr]
    · cases h
  · rename_i n c
    obtain ⟨rfl, hlit⟩ := hx
    simp only [litOK, Bool.and_eq_true] at hlit
    have e1 := Nat.eq_of_beq_eq_true hlit.1
    have e2 := Nat.eq_of_beq_eq_true hlit.2
    subst e1
    subst e2
    split at h
    · rename_i hb
      cases h
      have := run_bounds (P := P) (w := w) (isS := true) (len := 0) (cap := 0) hl hh hm (.inl rfl) (by simp) (.inl (by simp only [Option.getD_none]; omega)) (by omega)
      simp only [Option.getD_none, hb.1, hb.2] at this
      refine ⟨.slice none 0 0, ?_, rfl, rfl⟩
      simp only [Instr.slice, Sem.run_bind, run_underlying hu, Result.andThen_ok, this, run_sizeOf hs, Sem.run_pure]
      rfl
    · cases h
  · cases h

theorem oSlice_ok {t : TypeId} {x : Operand} {lo hi mx : Option Operand} (h : oSlice P E H t x lo hi mx = some (v, H')) (hx : ∀ z, (z = x ∨ lo = some z ∨ hi = some z ∨ mx = some z) → ∀ a, E z = some a → VRel ρ a (ev z)) (hH : HRel ρ H w) (hd : Dom ρ H.n) :
    St H H' ∧ OpS P ρ ev H w (.slice t x lo hi mx) v H' := by
  unfold oSlice at h
  rw [undT_eq] at h
  split at h
  · rename_i n e b off l h' m hu hxx hl hh hm
    have bl := boundA_rel hl (ρ := ρ) (ev := ev) fun z hz => hx z (.inr (.inl hz))
    have bh := boundA_rel hh (ρ := ρ) (ev := ev) fun z hz => hx z (.inr (.inr (.inl hz)))
    have bm := boundA_rel hm (ρ := ρ) (ev := ev) fun z hz => hx z (.inr (.inr (.inr hz)))
    obtain ⟨L, hL, hev⟩ := hx x (.inl rfl) _ hxx
    split at h
    · rename_i ag s hs
      split at h
      · rename_i hn
        obtain ⟨r, hr, hv⟩ := map_some h
        cases hv
        have key : ∃ u', (Instr.sliceAt t (ev x) (lo.map ev) (hi.map ev) (mx.map ev)).run P w = .ok u' w ∧ VRel ρ v u' := by
          unfold sliceA at hr
          cases m with
          | none =>
            simp only at hr
            obtain ⟨hb, hrel⟩ := cutSl_rel hr hL hn
            have := run_bounds (P := P) (w := w) (isS := false) (len := n) (cap := n) bl bh bm (.inl rfl) (by simp) (.inl (by simpa using hb.2.1)) hb.1
            simp only [Option.getD_none] at this
            refine ⟨_, ?_, hrel⟩
            simp only [Instr.sliceAt, Sem.run_bind, run_underlying hu, Result.andThen_ok, hev, Instr.sureAddr, this, run_sizeOf hs, Sem.run_pure]
            split <;> rfl
          | some m =>
            cases h' with
            | none => simp at hr
            | some hv =>
              simp only at hr
              obtain ⟨hb, hrel⟩ := cutSl_rel hr hL hn
              have := run_bounds (P := P) (w := w) (isS := false) (len := n) (cap := n) bl bh bm (.inr (by simp)) (by simpa using hb.2.2) (.inl (by simpa using hb.2.1)) (by simpa using hb.1)
              simp only [Option.getD_some] at this
              refine ⟨_, ?_, hrel⟩
              simp only [Instr.sliceAt, Sem.run_bind, run_underlying hu, Result.andThen_ok, hev, Instr.sureAddr, this, run_sizeOf hs, Sem.run_pure]
              split <;> rfl
        obtain ⟨u', h1, h2⟩ := key
        exact ⟨St.refl H, OpS.val hH hd h2 fun dst ty pos after guard => run_v h1⟩
      · cases h
    · cases h
  · rename_i e a l h' m hu hxx hl hh hm
    have bl := boundA_rel hl (ρ := ρ) (ev := ev) fun z hz => hx z (.inr (.inl hz))
    have bh := boundA_rel hh (ρ := ρ) (ev := ev) fun z hz => hx z (.inr (.inr (.inl hz)))
    have bm := boundA_rel hm (ρ := ρ) (ev := ev) fun z hz => hx z (.inr (.inr (.inr hz)))
    split at h
    · rename_i ag s hs
      obtain ⟨r, hr, hv⟩ := map_some h
      cases hv
      obtain ⟨u', h1, h2⟩ := sliceA_ok (w := w) hu hs hr (hx x (.inl rfl) _ hxx) bl bh bm
      refine ⟨St.refl H, OpS.val hH hd h2 fun dst ty pos after guard => run_v ?_⟩
      simp only [Instr.sliceAt, Sem.run_bind, run_underlying hu, Result.andThen_ok]
      exact h1
    · cases h
  · rename_i s l h' hu hxx hl hh hm
    have bl := boundA_rel hl (ρ := ρ) (ev := ev) fun z hz => hx z (.inr (.inl hz))
    have bh := boundA_rel hh (ρ := ρ) (ev := ev) fun z hz => hx z (.inr (.inr (.inl hz)))
    have bm := boundA_rel hm (ρ := ρ) (ev := ev) fun z hz => hx z (.inr (.inr (.inr hz)))
    obtain ⟨hev, hlit⟩ := hx x (.inl rfl) _ hxx
    simp only [litOK, decide_eq_true_eq] at hlit
    split at h
    · rename_i hb
      cases h
      have := run_bounds (P := P) (w := w) (isS := false) (len := s.size) (cap := s.size) bl bh (by trivial : BRel none none) (.inl rfl) (by simp) (.inl (by simpa using hb.2)) hb.1
      have hmx : mx.map ev = none := by
        cases hq : mx.map ev with
        | none => rfl
        | some _ => rw [hq] at bm; exact bm.elim
      refine ⟨St.refl H, OpS.val hH hd (lit_rel (v := .string (s.extract (l.getD 0) (h'.getD s.size))) ?_) fun dst ty pos after guard => run_v ?_⟩
      · simp only [litOK, decide_eq_true_eq, ByteArray.size_extract]; omega
      · simp only [Instr.sliceAt, Sem.run_bind, run_underlying hu, Result.andThen_ok, Instr.slice, hev, hmx, Option.isSome_none, Bool.false_eq_true, if_false, this, Sem.run_pure]
    · cases h
  · cases h

theorem mapM_ptrs : ∀ {vs : List AV} {ps : List (Nat × Nat)} {us : List Value}, vs.mapM (fun v => match v with | .one (.ptr b off) => some (b, off) | _ => none) = some ps → All2 (VRel ρ) vs us →
    All2 (fun (p : Nat × Nat) v => ∃ L, ρ p.1 = some L ∧ v = Value.pointer (some ⟨L.B, L.o + p.2, none⟩)) ps us
  | [], ps, [], h, _ => by simp at h; subst h; trivial
  | x :: vs, ps, u :: us, h, ⟨h1, h2⟩ => by
    rw [List.mapM_cons] at h
    match x, h, h1 with
    | .one (.ptr b off), h, h1 =>
      simp only [Option.pure_def, Option.bind_eq_bind, Option.bind_some] at h
      cases hr : vs.mapM (fun v => match v with | .one (.ptr b off) => some (b, off) | _ => none) with
      | none => rw [hr] at h; cases h
      | some r =>
        rw [hr] at h
        cases h
        exact ⟨h1, mapM_ptrs hr h2⟩
  | [], _, _ :: _, _, h => h.elim
  | _ :: _, _, [], _, h => h.elim

theorem oMakeFunc_ok {fn : Fn} {first caps : Array Operand} (h : oMakeFunc E H fn first caps = some (v, H')) (hx : ∀ z ∈ caps.toList, ∀ a, E z = some a → VRel ρ a (ev z)) (hH : HRel ρ H w) (hd : Dom ρ H.n) :
    St H H' ∧ OpS P ρ ev H w (.makeFunc fn first caps) v H' := by
  unfold oMakeFunc at h
  split at h
  · rename_i vs hl
    split at h
    · rename_i ps hp
      split at h
      · rename_i h0
        cases h
        have hus := listE_rel (ρ := ρ) (ev := ev) hx hl
        have hf : first = #[] := Array.eq_empty_of_size_eq_zero h0
        subst hf
        refine ⟨St.refl H, OpS.val hH hd (u := .func fn #[] (caps.map ev)) ⟨_, rfl, by simpa using mapM_ptrs hp hus⟩ fun dst ty pos after guard => run_v ?_⟩
        simp [Instr.makeFunc]
      · cases h
    · cases h
  · cases h

theorem oMax_ok {args : Array Operand} {ats : Array TypeId} (h : oMax E H false args = some (v, H')) (hx : ∀ z ∈ args.toList, ∀ a, E z = some a → VRel ρ a (ev z)) (hH : HRel ρ H w) (hd : Dom ρ H.n) :
    St H H' ∧ OpS P ρ ev H w (.call ⟨.builtin .max, args, ats⟩) v H' := by
  unfold oMax at h
  split at h
  · rename_i k a k' b hl
    split at h
    · rename_i hk
      subst hk
      cases h
      have hus := listE_rel (ρ := ρ) (ev := ev) hx hl
      match hargs : args.toList, hus with
      | [x, y], hus =>
        obtain ⟨⟨h1, l1⟩, ⟨h2, l2⟩, _⟩ := hus
        have hargs' : args = #[x, y] := by rw [← Array.toList_inj]; simpa using hargs
        subst hargs'
        have hc : (if (false = true) then b < a else a < b) = (a < b) := by simp
        refine ⟨St.refl H, OpS.val hH hd (u := .int k (if a < b then b else a)) ⟨by simp, ?_⟩ fun dst ty pos after guard => ?_⟩
        · simp only [Bool.false_eq_true, if_false]
          split
          · exact l2
          · exact l1
        · simp [execOp, resolve, invoke, builtin, Builtin.max_, h1, h2, Builtin.max2]
    · cases h
  · cases h
theorem oMin_ok {args : Array Operand} {ats : Array TypeId} (h : oMax E H true args = some (v, H')) (hx : ∀ z ∈ args.toList, ∀ a, E z = some a → VRel ρ a (ev z)) (hH : HRel ρ H w) (hd : Dom ρ H.n) :
    St H H' ∧ OpS P ρ ev H w (.call ⟨.builtin .min, args, ats⟩) v H' := by
  unfold oMax at h
  split at h
  · rename_i k a k' b hl
    split at h
    · rename_i hk
      subst hk
      cases h
      have hus := listE_rel (ρ := ρ) (ev := ev) hx hl
      match hargs : args.toList, hus with
      | [x, y], hus =>
        obtain ⟨⟨h1, l1⟩, ⟨h2, l2⟩, _⟩ := hus
        have hargs' : args = #[x, y] := by rw [← Array.toList_inj]; simpa using hargs
        subst hargs'
        refine ⟨St.refl H, OpS.val hH hd (u := .int k (if b < a then b else a)) ⟨by simp, ?_⟩ fun dst ty pos after guard => ?_⟩
        · simp only [if_true]
          split
          · exact l2
          · exact l1
        · simp [execOp, resolve, invoke, builtin, Builtin.min_, h1, h2, Builtin.min2]
    · cases h
  · cases h
end
end Go.Fv
