/-
  A second abstract evaluator of the model's code: copy, clear, slices that are made, conversions. Conditions: none; nothing here speaks of one program.
-/
import Derived.Test.YtinhlbmlopkgiaaGreatDoorFvJ
set_option linter.unusedSectionVars false
set_option linter.unusedVariables false
namespace Go.Fv
section
variable {P : Program} [Plain P] {ora : Ora} {E : Operand → Option AV} {H H' : HP} {w : World} {ρ : PM} {ev : Operand → Value} {v : AV}

/-! ### Copy -/
def srcLen : AV → Option Nat
  | .one (.sl _ _ len _) => some len
  | .one (.su _ _ len _) => some len
  | .one (.sz _ _) => some 0
  | .one (.lit (.slice none _ _)) => some 0
  | .one (.lit (.string s)) => some s.size
  | _ => none
/-- The first n elements of what is copied. -/
noncomputable def srcN (H : HP) (sz n : Nat) : AV → Option (List Cel)
  | .one (.sl b off _ _) => H.read b off (n * sz)
  | .one (.su b off _ _) => H.read b off (n * sz)
  | .one (.sz _ _) => some []
  | .one (.lit (.slice none _ _)) => some []
  | .one (.lit (.string s)) => if sz = 1 then some ((bytesC s).take n) else none
  | _ => none

theorem srcLen_ok {x : AV} {u : Value} {n : Nat} (h : srcLen x = some n) (hx : VRel ρ x u) : n ≤ 9223372036854775807 ∧ ∀ w' : World, (Builtin.lenOf u).run P w' = .ok n w' := by
  unfold srcLen at h
  split at h
  · obtain ⟨⟨L, hL, rfl⟩, h1, h2⟩ := hx
    cases h
    exact ⟨by omega, fun _ => rfl⟩
  · obtain ⟨L, cap, hL, rfl, h1, h2, _⟩ := hx
    cases h
    exact ⟨by omega, fun _ => rfl⟩
  · cases h
    obtain ⟨L, off, cap, hL, rfl, _⟩ := hx
    exact ⟨by omega, fun _ => rfl⟩
  · cases h
    obtain ⟨rfl, hlit⟩ := hx
    simp only [litOK, Bool.and_eq_true] at hlit
    have e1 := Nat.eq_of_beq_eq_true hlit.1
    subst e1
    exact ⟨by omega, fun _ => rfl⟩
  · cases h
    obtain ⟨rfl, hlit⟩ := hx
    simp only [litOK, decide_eq_true_eq] at hlit
    exact ⟨hlit, fun _ => rfl⟩
  · cases h

theorem srcN_ok {sz n m : Nat} {x : AV} {u : Value} {cs : List Cel} (h : srcN H sz n x = some cs) (hm : srcLen x = some m) (hle : n ≤ m) (hx : VRel ρ x u) (hH : HRel ρ H w) :
    ∃ us : List Value, All2 (CRel ρ) cs us ∧ us.length = n * sz ∧ ∀ w' : World, w'.heap = w.heap → (Builtin.firstCells sz n u).run P w' = .ok us.toArray w' := by
  have sl : ∀ (b off len cap : Nat) (L : Loc), H.read b off (n * sz) = some cs → ρ b = some L →
      ∃ us : List Value, All2 (CRel ρ) cs us ∧ us.length = n * sz ∧ ∀ w' : World, w'.heap = w.heap → (Builtin.firstCells sz n (.slice (some ⟨L.B, L.o + off, none⟩) len cap)).run P w' = .ok us.toArray w' := by
    intro b off len cap L hr hL
    obtain ⟨us, hl, hrel, hcell⟩ := HP.read_world hr hH hL
    refine ⟨us, hrel, hl, fun w' hw => ?_⟩
    refine run_firstCells_some (P := P) w' sz _ _ _ _ us hl fun j v hj => ?_
    rw [add_addr]
    have := hcell j v hj
    unfold World.cell? at this ⊢
    rw [hw]
    exact this
  unfold srcN at h
  split at h
  · obtain ⟨⟨L, hL, rfl⟩, h1, h2⟩ := hx
    exact sl _ _ _ _ L h hL
  · obtain ⟨L, cap, hL, rfl, h1, h2, _⟩ := hx
    exact sl _ _ _ _ L h hL
  · cases h
    cases hm
    obtain ⟨L, off, cap, hL, rfl, _⟩ := hx
    have hn : n = 0 := by omega
    subst hn
    refine ⟨[], trivial, by simp, fun w' hw => ?_⟩
    exact run_firstCells_some (P := P) w' sz 0 ⟨L.B, off, none⟩ 0 cap [] (by simp) fun j v hj => by simp at hj
  · cases h
    cases hm
    obtain ⟨rfl, hlit⟩ := hx
    have hn : n = 0 := by omega
    subst hn
    exact ⟨[], trivial, by simp, fun w' hw => rfl⟩
  · rename_i s
    split at h
    · rename_i hsz
      subst hsz
      cases h
      cases hm
      obtain ⟨rfl, hlit⟩ := hx
      refine ⟨_, (bytesC_rel s).take n, by simp; omega, fun w' hw => ?_⟩
      simp only [Builtin.firstCells, Sem.run_pure]
      congr 1
      apply Array.ext'
      simp
    · cases h
  · cases h

/-- Where a copy goes: its length. -/
def dstLen : AV → Option Nat
  | .one (.sl _ _ len _) => some len
  | .one (.su _ _ len _) => some len
  | .one (.sz _ _) => some 0
  | .one (.lit (.slice none _ _)) => some 0
  | _ => none
noncomputable def copyTo (H : HP) (d : AV) (n : Nat) (cs : List Cel) : R :=
  match cs with
  | [] => some (.one (.lit (.int .i64 n)), H)
  | _ :: _ => match baseA d with
    | some (b, off, _) => (H.write b off cs).map fun H' => (.one (.lit (.int .i64 n)), H')
    | none => none
noncomputable def oCopy (P : Program) [Plain P] (E : Operand → Option AV) (H : HP) (args : Array Operand) (ats : Array TypeId) : R :=
  match listE E args.toList, ats.toList with
  | some [d, x], t :: _ => match undT P t with
    | some (.slice e) => match szA P e with
      | some (_, sz) => match dstLen d, srcLen x with
        | some dl, some sl => match srcN H sz (Nat.min sl dl) x with
          | some cs => copyTo H d (Nat.min sl dl) cs
          | none => none
        | _, _ => none
      | none => none
    | _ => none
  | _, _ => none

theorem dstLen_rel {d : AV} {u : Value} {n : Nat} (h : dstLen d = some n) (hx : VRel ρ d u) : n ≤ 9223372036854775807 ∧ ∃ a c, u = .slice a n c := by
  unfold dstLen at h
  split at h
  · obtain ⟨⟨L, hL, rfl⟩, h1, h2⟩ := hx
    cases h
    exact ⟨by omega, _, _, rfl⟩
  · obtain ⟨L, cap, hL, rfl, h1, h2, _⟩ := hx
    cases h
    exact ⟨by omega, _, _, rfl⟩
  · cases h
    obtain ⟨L, off, cap, hL, rfl, _⟩ := hx
    exact ⟨by omega, _, _, rfl⟩
  · cases h
    obtain ⟨rfl, hlit⟩ := hx
    simp only [litOK, Bool.and_eq_true] at hlit
    have e1 := Nat.eq_of_beq_eq_true hlit.1
    subst e1
    exact ⟨by omega, _, _, rfl⟩
  · cases h

theorem oCopy_ok {args : Array Operand} {ats : Array TypeId} (h : oCopy P E H args ats = some (v, H')) (hx : ∀ z ∈ args.toList, ∀ a, E z = some a → VRel ρ a (ev z)) (hH : HRel ρ H w) (hd : Dom ρ H.n) :
    St H H' ∧ OpS P ρ ev H w (.call ⟨.builtin .copy, args, ats⟩) v H' := by
  unfold oCopy at h
  simp only [undT_eq] at h
  split at h
  · rename_i d x t rest hl hat
    obtain ⟨a, b, rfl, ha, hb⟩ := two_args hl hx
    have hats : ats[0]? = some t := by rw [← Array.getElem?_toList, hat]; rfl
    split at h
    · rename_i e hu
      split at h
      · rename_i ag sz hs
        split at h
        · rename_i dl sl hdl hsl
          split at h
          · rename_i cs hcs
            obtain ⟨hsl1, hlen⟩ := srcLen_ok (P := P) hsl hb
            obtain ⟨hdl1, a0, c0, hdst⟩ := dstLen_rel hdl ha
            obtain ⟨us, hrel, hul, hfirst⟩ := srcN_ok (P := P) hcs hsl (Nat.min_le_left _ _) hb hH
            have hn : Nat.min sl dl ≤ 9223372036854775807 := Nat.le_trans (Nat.min_le_left _ _) hsl1
            have key : ∀ w1, (match a0 with | some a => (storeCells a us).run P w = .ok () w1 | none => w1 = w) → ∀ dst ty pos after guard, (execOp ev ⟨dst, .call ⟨.builtin .copy, #[a, b], ats⟩, ty, pos, after, guard⟩).run P w = .ok (.value (.int .i64 (Nat.min sl dl : Nat))) w1 := by
              intro w1 hst dst ty pos after guard
              cases a0 with
              | none =>
                subst hst
                simp [execOp, resolve, invoke, builtin, Builtin.copy_, hats, hdst, run_underlying hu, run_sizeOf hs, hlen, hfirst, goInt]
              | some a0 =>
                simp [execOp, resolve, invoke, builtin, Builtin.copy_, hats, hdst, run_underlying hu, run_sizeOf hs, hlen, hfirst, hst, goInt]
            unfold copyTo at h
            split at h
            · cases h
              have hnil : us = [] := List.length_eq_zero_iff.1 (by have := hrel.length; simpa using this.symm)
              subst hnil
              exact ⟨St.refl H, OpS.val hH hd (lit_rel (i64_ok hn)) (key w (by cases a0 <;> rfl))⟩
            · split at h
              · rename_i b0 off len0 hbase
                obtain ⟨H1, hw, hv⟩ := map_some h
                cases hv
                obtain ⟨L, cap, hL, he, _, _⟩ := baseA_rel hbase ha
                rw [hdst] at he
                cases he
                exact ⟨St.write hw, OpS.of_run (key _ (HP.write_run hH hw hL hrel)) ⟨ρ, lit_rel (i64_ok hn), Sim.write hH hd hw hL hrel⟩⟩
              · cases h
          · cases h
        · cases h
      · cases h
    · cases h
  · cases h

/-! ### Slices that are made -/
noncomputable def oMakeSlice (P : Program) [Plain P] (E : Operand → Option AV) (H : HP) (t : TypeId) (x y : Operand) : R :=
  match undT P t, E x, E y with
  | some (.slice e), some (.one (.lit (.int _ l))), some (.one (.lit (.int _ c))) => match szA P e, infoT P e with
    | some (_, sz), some i => match i.zero with
      | some z => if 0 ≤ l ∧ l ≤ c ∧ fewA c.toNat i.bytes = true ∧ 0 < sz ∧ i.size = sz ∧ z.cells.size = sz then
          (lits z.cells.toList).map fun zs => (.one (.sl H.n 0 l.toNat c.toNat), H.push (cellsB (repC zs c.toNat)))
        else none
      | none => none
    | _, _ => none
  | _, _, _ => none

theorem wrap_i64' (n : Int) : IntKind.i64.wrap n = (n + 9223372036854775808) % 18446744073709551616 - 9223372036854775808 := by
  simp [IntKind.wrap, IntKind.bits, IntKind.signed]
  split <;> omega
theorem wrap_small {n : Int} (h0 : 0 ≤ n) (h1 : n ≤ 9223372036854775807) : IntKind.i64.wrap n = n := by
  have : IntKind.i64.wrap n = (n + 9223372036854775808) % 18446744073709551616 - 9223372036854775808 := wrap_i64' n
  rw [this]
  omega

theorem run_askRoom {n : Nat} (h : n ≤ 140737488355328) : (askRoom n).run P w = .ok () w := by
  unfold askRoom roomBytes
  rw [if_neg (by omega)]
  rfl

theorem oMakeSlice_ok {t : TypeId} {x y : Operand} (h : oMakeSlice P E H t x y = some (v, H')) (hx : ∀ z, z = x ∨ z = y → ∀ a, E z = some a → VRel ρ a (ev z)) (hH : HRel ρ H w) (hd : Dom ρ H.n) :
    St H H' ∧ OpS P ρ ev H w (.makeSlice t x y) v H' := by
  unfold oMakeSlice at h
  simp only [undT_eq, infoT_eq] at h
  split at h
  · rename_i e k l k' c hu hex hey
    obtain ⟨he1, hl1⟩ := hx x (.inl rfl) _ hex
    obtain ⟨he2, hl2⟩ := hx y (.inr rfl) _ hey
    split at h
    · rename_i ag sz i hs hi
      split at h
      · rename_i z hz
        split at h
        · rename_i hc
          obtain ⟨h0, h1, h2, h3, h4, h5⟩ := hc
          obtain ⟨zs, hlits, hv⟩ := map_some h
          cases hv
          obtain ⟨f1, f2⟩ := fewA_spec h2
          refine ⟨St.push _ _, fun dst ty pos after guard => ?_⟩
          have hrel := lits_rel (ρ := ρ) hlits
          have hrep : All2 (CRel ρ) (repC zs c.toNat) ((Array.range (c.toNat * i.size)).map fun i => z.cells[i % z.cells.size]!).toList := by
            have hzl := hrel.length
            simp only [Array.length_toList] at hzl
            refine All2.of_get (by simp [length_repC, hzl, h4, h5]) fun j a b ha hb => ?_
            have hj : j < c.toNat * zs.length := by have := (List.getElem?_eq_some_iff.1 ha).1; rwa [length_repC] at this
            rw [repC_get _ _ _ hj] at ha
            simp only [Array.toList_map, Array.toList_range, List.getElem?_map, Option.map_eq_some_iff] at hb
            obtain ⟨j', hj', rfl⟩ := hb
            rw [List.getElem?_range (by rw [h4, ← h5, ← hzl]; exact hj)] at hj'
            cases hj'
            obtain ⟨b, hb, hr⟩ := hrel.get _ _ ha
            rw [hzl, Array.getElem?_toList] at hb
            have hlt := (Array.getElem?_eq_some_iff.1 hb).1
            rw [getElem!_pos z.cells _ hlt]
            rw [Array.getElem?_eq_getElem hlt] at hb
            cases hb
            exact hr
          have hsim := Sim.allocC (cs := repC zs c.toNat) (t := e) (us := (Array.range (c.toNat * i.size)).map fun i => z.cells[i % z.cells.size]!) hH hd (by rw [List.take_of_length_le (Nat.le_of_eq hrep.length.symm)]; exact hrep)
          have hrun : (execOp ev ⟨dst, .makeSlice t x y, ty, pos, after, guard⟩).run P w = .ok (.value (.slice (some ⟨w.heap.size, 0, none⟩) l.toNat c.toNat)) (w.alloc (.cells ((Array.range (c.toNat * i.size)).map fun i => z.cells[i % z.cells.size]!) e)) := by
            obtain ⟨l', rfl⟩ := Int.eq_ofNat_of_zero_le h0
            obtain ⟨c', rfl⟩ := Int.eq_ofNat_of_zero_le (Int.le_trans h0 h1)
            simp only [Int.toNat_natCast] at f1 f2 ⊢
            have e1 : IntKind.i64.wrap (l' : Int) = l' := wrap_small (by omega) (by omega)
            have e2 : IntKind.i64.wrap (c' : Int) = c' := wrap_small (by omega) (by omega)
            have e3 : ((i.bytes : Int) * (c' : Int)) = ((c' * i.bytes : Nat) : Int) := by rw [Nat.mul_comm]; simp
            have e4 : ¬ (281474976710656 < ((i.bytes : Int) * (c' : Int))) := by rw [e3]; omega
            have e5 : ¬ ((c' : Int) < l') := by omega
            have e6 := run_askRoom (P := P) (w := w) f1
            by_cases hn : c' = 0
            · subst hn
              have hl0 : l' = 0 := by omega
              subst hl0
              have e0 : IntKind.i64.wrap 0 = 0 := by decide
              have e7 := run_askRoom (P := P) (w := w) (n := 0) (by omega)
              simp [e0, e7, execOp, Instr.makeSlice, run_underlying hu, he1, he2, asInt, asIntOf, typeInfo, sizeOf, hi, e1, e2, e4, e5, e6, newRow, zeroValue, hz]
              congr 2
              apply Array.ext'
              simp
            · have hne : ¬ (c' * i.size = 0) := by
                intro hz'
                rcases Nat.mul_eq_zero.1 hz' with h | h <;> omega
              simp [execOp, Instr.makeSlice, run_underlying hu, he1, he2, asInt, asIntOf, typeInfo, sizeOf, hi, e1, e2, e4, e5, e6, hne, newRow, zeroValue, hz]
              intro hh
              omega
          rw [hrun]
          refine ⟨_, ⟨⟨⟨w.heap.size, 0, _⟩, upd_same _ _ _, rfl⟩, by omega, by omega⟩, hsim⟩
        · cases h
      · cases h
    · cases h
  · cases h
end
end Go.Fv
