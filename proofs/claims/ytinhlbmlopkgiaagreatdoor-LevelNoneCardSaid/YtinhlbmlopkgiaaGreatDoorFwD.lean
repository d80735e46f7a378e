/-
  A second abstract evaluator of the model's code: bytes compared by the run-time. Conditions: none; nothing here speaks of one program.
-/
import Derived.Test.YtinhlbmlopkgiaaGreatDoorFwC
import Derived.Lib.BytesEntry
set_option linter.unusedSectionVars false
set_option linter.unusedVariables false
namespace Go.Fv
variable {P : Program} [Plain P] {H : HP} {w : World} {ρ : PM}

/-- Bytes three ways. -/
def cmpI : List Int → List Int → Int
  | [], [] => 0
  | [], _ :: _ => -1
  | _ :: _, [] => 1
  | x :: xs, y :: ys => match Nat.blt x.toNat y.toNat with
    | true => -1
    | false => match Nat.blt y.toNat x.toNat with
      | true => 1
      | false => cmpI xs ys
noncomputable def bytesL (H : HP) (v : AV) : Option (List Int) :=
  match v with
  | .one (.lit (.slice none _ _)) => some []
  | .one (.sz _ _) => some []
  | v => match baseA v with
    | some (b, off, len) => match H.read b off len with
      | some cs => intsOf cs
      | none => none
    | none => none

theorem intsOf_range : ∀ {cs : List Cel} {ns : List Int} {us : List Value}, intsOf cs = some ns → All2 (CRel ρ) cs us → ∀ n ∈ ns, 0 ≤ n ∧ n ≤ 255
  | [], ns, us, h, hr => by cases h; exact fun _ h => by cases h
  | .lit (.int .u8 n) :: cs, ns, us, h, hr => by
    simp only [intsOf] at h
    split at h
    · rename_i ns' hns
      cases h
      cases us with
      | nil => exact hr.elim
      | cons u us =>
        obtain ⟨⟨_, h1⟩, h2⟩ := hr
        intro m hm
        rcases List.mem_cons.1 hm with rfl | hm
        · have h' : (decide ((0 : Int) ≤ m) && decide (m ≤ (255 : Int))) = true := h1
          rwa [Bool.and_eq_true, decide_eq_true_eq, decide_eq_true_eq] at h'
        · exact intsOf_range hns h2 m hm
    · cases h

theorem bytesL_ok {v : AV} {u : Value} {xs : List Int} (h : bytesL H v = some xs) (hv : VRel ρ v u) (hH : HRel ρ H w) : (Extern.Bytes.bytesOf u).run P w = .ok ⟨(Lib.bytesOf xs).toArray⟩ w ∧ ∀ n ∈ xs, 0 ≤ n ∧ n ≤ 255 := by
  unfold bytesL at h
  split at h
  · cases h
    obtain ⟨rfl, _⟩ := hv
    exact ⟨rfl, fun _ h => by cases h⟩
  · cases h
    obtain ⟨L, off, cap, hL, rfl, _⟩ := hv
    exact ⟨rfl, fun _ h => by cases h⟩
  · split at h
    · rename_i b off len hb
      split at h
      · rename_i cs hcs
        obtain ⟨L, cap, hL, rfl, h1, h2⟩ := baseA_rel hb hv
        obtain ⟨us, hl, hrel, hcell⟩ := HP.read_world hcs hH hL
        have hus := intsOf_rel h hrel
        refine ⟨?_, intsOf_range h hrel⟩
        have hlen : xs.length = len := by rw [← hl, hus]; simp
        have := Lib.run_loadBytesX (P := P) (w := w) xs ⟨L.B, L.o + off, none⟩ .empty (fun j x hj => by
          rw [add_addr]
          exact hcell j _ (by rw [hus, List.getElem?_map, hj]; rfl))
        rw [hlen] at this
        show (Extern.Bytes.loadBytes ⟨L.B, L.o + off, none⟩ len .empty).run P w = _
        rw [this]
        congr 2
        simp
      · cases h
    · cases h

theorem cmpI_eq : ∀ {xs ys : List Int}, (∀ n ∈ xs, 0 ≤ n ∧ n ≤ 255) → (∀ n ∈ ys, 0 ≤ n ∧ n ≤ 255) → Lib.compareBytes (Lib.bytesOf xs) (Lib.bytesOf ys) = cmpI xs ys
  | [], [], _, _ => rfl
  | [], _ :: _, _, _ => rfl
  | _ :: _, [], _, _ => rfl
  | x :: xs, y :: ys, hx, hy => by
    have ih := cmpI_eq (fun n hn => hx n (List.mem_cons_of_mem _ hn)) (fun n hn => hy n (List.mem_cons_of_mem _ hn))
    obtain ⟨a1, a2⟩ := hx x (List.mem_cons_self ..)
    obtain ⟨b1, b2⟩ := hy y (List.mem_cons_self ..)
    have key : ∀ a b : Int, 0 ≤ a → a ≤ 255 → 0 ≤ b → b ≤ 255 → (a.toNat.toUInt8 < b.toNat.toUInt8 ↔ a.toNat < b.toNat) := by
      intro a b h1 h2 h3 h4
      rw [UInt8.lt_iff_toNat_lt]
      simp only [Nat.toUInt8, UInt8.toNat_ofNat']
      rw [Nat.mod_eq_of_lt (by omega), Nat.mod_eq_of_lt (by omega)]
    show (if x.toNat.toUInt8 < y.toNat.toUInt8 then (-1 : Int) else if y.toNat.toUInt8 < x.toNat.toUInt8 then 1 else Lib.compareBytes (Lib.bytesOf xs) (Lib.bytesOf ys)) = _
    rw [ih]
    simp only [key x y a1 a2 b1 b2, key y x b1 b2 a1 a2, cmpI]
    by_cases h1 : x.toNat < y.toNat
    · have e1 : Nat.blt x.toNat y.toNat = true := by simp [Nat.blt_eq, h1]
      rw [if_pos h1, e1]
    · have e1 : Nat.blt x.toNat y.toNat = false := by rw [Bool.eq_false_iff]; simp [Nat.blt_eq, h1]
      rw [if_neg h1, e1]
      by_cases h2 : y.toNat < x.toNat
      · have e2 : Nat.blt y.toNat x.toNat = true := by simp [Nat.blt_eq, h2]
        rw [if_pos h2, e2]
      · have e2 : Nat.blt y.toNat x.toNat = false := by rw [Bool.eq_false_iff]; simp [Nat.blt_eq, h2]
        rw [if_neg h2, e2]

theorem cmpI_range : ∀ (xs ys : List Int), cmpI xs ys = -1 ∨ cmpI xs ys = 0 ∨ cmpI xs ys = 1
  | [], [] => .inr (.inl rfl)
  | [], _ :: _ => .inl rfl
  | _ :: _, [] => .inr (.inr rfl)
  | x :: xs, y :: ys => by
    simp only [cmpI]
    split
    · exact .inl rfl
    · split
      · exact .inr (.inr rfl)
      · exact cmpI_range xs ys

noncomputable def compareO : List AV → HP → R := fun args H =>
  match args with
  | [a, b] => match bytesL H a, bytesL H b with
    | some x, some y => some (.one (.lit (.int .i64 (cmpI x y))), H)
    | _, _ => none
  | _ => none

/-- One function's contract. -/
def FnOK (P : Program) (f : FuncId) (g : List AV → HP → R) : Prop := ∀ (args : List AV) (H : HP) (v : AV) (H' : HP), g args H = some (v, H') → CallOK P f args H (· = (v, H'))

theorem compare_ok {f : FuncId} {fn : Func} (hf : P.funcs[f]? = some fn) (hname : (fn.name == "runtime.NumGoroutine") = false) (hb : fn.body.isNone = true) (hn : Extern.findNext fn = none) (he : Extern.find fn = some Extern.BytealgCompare.compare) : FnOK P f compareO := by
  intro args H v H' h
  unfold compareO at h
  split at h
  · rename_i a b
    split at h
    · rename_i x y hx hy
      cases h
      refine ⟨fun o ho => by subst ho; exact St.refl H, fun ρ w us hargs hH hd => ?_⟩
      obtain ⟨l⟩ := us
      match l, hargs with
      | [u, u'], hargs =>
        obtain ⟨h1, h2, _⟩ := hargs
        obtain ⟨r1, q1⟩ := bytesL_ok (P := P) hx h1 hH
        obtain ⟨r2, q2⟩ := bytesL_ok (P := P) hy h2 hH
        rw [run_callFunc_extern hf hname hb hn he]
        have hrun : (Extern.BytealgCompare.compare #[u, u']).run P w = .ok (.int .i64 (cmpI x y)) w := by
          change ((do pure (goInt (Extern.BytealgCompare.cmp (← Extern.Bytes.bytesOf u) (← Extern.Bytes.bytesOf u'))) : Sem Value).run P w) = _
          simp only [Sem.run_bind, r1, r2, Result.andThen_ok, Sem.run_pure, Lib.cmp_eq, cmpI_eq q1 q2, goInt]
        show GivesR P _ (((Extern.BytealgCompare.compare #[u, u']).run P w).andThen fun v w' => .ok (.value v) w')
        rw [hrun]
        refine ⟨_, rfl, ρ, ⟨rfl, ?_⟩, Sim.refl hH hd⟩
        rcases cmpI_range x y with h | h | h <;> rw [h] <;> decide
    · cases h
  · cases h

/-! ### A table of contracts -/
abbrev FnTbl := List (FuncId × (List AV → HP → R))
noncomputable def baseOf (l : FnTbl) : OraM := fun t args H =>
  match t with
  | .f f => List.rec (motive := fun _ => RM) none (fun p _ ih => match Nat.beq p.1 f with
    | true => single (p.2 args H)
    | false => ih) l
  | .y _ => none
theorem baseOf_ok {l : FnTbl} (h : ∀ p ∈ l, FnOK P p.1 p.2) : OraMOK P (baseOf l) := by
  intro t args H outs ho
  cases t with
  | y b => cases ho
  | f f =>
    have key : ∀ (l : FnTbl), (∀ p ∈ l, FnOK P p.1 p.2) → baseOf l (.f f) args H = some outs → CallOK P f args H (· ∈ outs) := by
      intro l
      induction l with
      | nil => intro _ h; cases h
      | cons p r ih =>
        intro hl h
        have h' : (match Nat.beq p.1 f with | true => single (p.2 args H) | false => baseOf r (.f f) args H) = some outs := h
        split at h'
        · rename_i hb
          have := Nat.eq_of_beq_eq_true hb
          obtain ⟨⟨v, H'⟩, h1, rfl⟩ := single_some h'
          have k := hl p (List.mem_cons_self ..) args H v H' h1
          rw [this] at k
          exact k.weaken (fun o ho => ⟨o, by rw [ho]; exact List.mem_singleton.2 rfl, Wk.refl o⟩) (fun o ho => by rw [List.mem_singleton.1 ho]; exact k.1 _ rfl)
        · exact ih (fun q hq => hl q (List.mem_cons_of_mem _ hq)) h'
    obtain ⟨k1, k2⟩ := key l h ho
    exact ⟨k1, fun ρ w us s hs => by cases hs; exact k2 ρ w us⟩
end Go.Fv
