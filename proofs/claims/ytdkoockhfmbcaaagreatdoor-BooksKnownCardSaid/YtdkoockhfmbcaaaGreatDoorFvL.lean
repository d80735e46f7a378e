/-
  A second abstract evaluator of the model's code: copy, clear, slices that are made, conversions. Conditions: none; nothing here speaks of one program.
  A second abstract evaluator of the model's code: conversions. Conditions: none; nothing here speaks of one program.
-/
import Derived.Test.YtdkoockhfmbcaaaGreatDoorFvJ
import Derived.Laws.IdiomStrings
set_option linter.unusedSectionVars false
set_option linter.unusedVariables false
namespace Go.Fv
section
variable {P : Program} [Plain P] {ora : Ora} {E : Operand → Option AV} {H H' : HP} {w : World} {ρ : PM} {ev : Operand → Value} {v : AV}

/-! ### Copy -/
def srcLen : AV → Option Nat
  | .one (.sl _ _ len _) => some len
  | .one (.su _ _ len _) => some len
  | .one (.sz _ _) => some 0
  | .one (.lit (.slice none _ _)) => some 0
  | .one (.lit (.string s)) => some s.size
  | _ => none
/-- The first n elements of what is copied. -/
noncomputable def srcN (H : HP) (sz n : Nat) : AV → Option (List Cel)
  | .one (.sl b off _ _) => H.read b off (n * sz)
  | .one (.su b off _ _) => H.read b off (n * sz)
  | .one (.sz _ _) => some []
  | .one (.lit (.slice none _ _)) => some []
  | .one (.lit (.string s)) => if sz = 1 then some ((bytesC s).take n) else none
  | _ => none

theorem srcLen_ok {x : AV} {u : Value} {n : Nat} (h : srcLen x = some n) (hx : VRel ρ x u) : n ≤ 9223372036854775807 ∧ ∀ w' : World, (Builtin.lenOf u).run P w' = .ok n w' := by
  unfold srcLen at h
  split at h
  · obtain ⟨⟨L, hL, rfl⟩, h1, h2⟩ := hx
    cases h
    exact ⟨by omega, fun _ => rfl⟩
  · obtain ⟨L, cap, hL, rfl, h1, h2, _⟩ := hx
    cases h
    exact ⟨by omega, fun _ => rfl⟩
  · cases h
    obtain ⟨L, off, cap, hL, rfl, _⟩ := hx
    exact ⟨by omega, fun _ => rfl⟩
  · cases h
    obtain ⟨rfl, hlit⟩ := hx
    simp only [litOK, Bool.and_eq_true] at hlit
    have e1 := Nat.eq_of_beq_eq_true hlit.1
    subst e1
    exact ⟨by omega, fun _ => rfl⟩
  · cases h
    obtain ⟨rfl, hlit⟩ := hx
    simp only [litOK, decide_eq_true_eq] at hlit
    exact ⟨hlit, fun _ => rfl⟩
  · cases h

theorem srcN_ok {sz n m : Nat} {x : AV} {u : Value} {cs : List Cel} (h : srcN H sz n x = some cs) (hm : srcLen x = some m) (hle : n ≤ m) (hx : VRel ρ x u) (hH : HRel ρ H w) :
    ∃ us : List Value, All2 (CRel ρ) cs us ∧ us.length = n * sz ∧ ∀ w' : World, w'.heap = w.heap → (Builtin.firstCells sz n u).run P w' = .ok us.toArray w' := by
  have sl : ∀ (b off len cap : Nat) (L : Loc), H.read b off (n * sz) = some cs → ρ b = some L →
      ∃ us : List Value, All2 (CRel ρ) cs us ∧ us.length = n * sz ∧ ∀ w' : World, w'.heap = w.heap → (Builtin.firstCells sz n (.slice (some ⟨L.B, L.o + off, none⟩) len cap)).run P w' = .ok us.toArray w' := by
    intro b off len cap L hr hL
    obtain ⟨us, hl, hrel, hcell⟩ := HP.read_world hr hH hL
    refine ⟨us, hrel, hl, fun w' hw => ?_⟩
    refine run_firstCells_some (P := P) w' sz _ _ _ _ us hl fun j v hj => ?_
    rw [add_addr]
    have := hcell j v hj
    unfold World.cell? at this ⊢
    rw [hw]
    exact this
  unfold srcN at h
  split at h
  · obtain ⟨⟨L, hL, rfl⟩, h1, h2⟩ := hx
    exact sl _ _ _ _ L h hL
  · obtain ⟨L, cap, hL, rfl, h1, h2, _⟩ := hx
    exact sl _ _ _ _ L h hL
  · cases h
    cases hm
    obtain ⟨L, off, cap, hL, rfl, _⟩ := hx
    have hn : n = 0 := by omega
    subst hn
    refine ⟨[], trivial, by simp, fun w' hw => ?_⟩
    exact run_firstCells_some (P := P) w' sz 0 ⟨L.B, off, none⟩ 0 cap [] (by simp) fun j v hj => by simp at hj
  · cases h
    cases hm
    obtain ⟨rfl, hlit⟩ := hx
    have hn : n = 0 := by omega
    subst hn
    exact ⟨[], trivial, by simp, fun w' hw => rfl⟩
  · rename_i s
    split at h
    · rename_i hsz
      subst hsz
      cases h
      cases hm
      obtain ⟨rfl, hlit⟩ := hx
      refine ⟨_, (bytesC_rel s).take n, by simp; omega, fun w' hw => ?_⟩
      simp only [Builtin.firstCells, Sem.run_pure]
      congr 1
      apply Array.ext'
      simp
    · cases h
  · cases h

/-- Where a copy goes: its length. -/
def dstLen : AV → Option Nat
  | .one (.sl _ _ len _) => some len
  | .one (.su _ _ len _) => some len
  | .one (.sz _ _) => some 0
  | .one (.lit (.slice none _ _)) => some 0
  | _ => none
noncomputable def copyTo (H : HP) (d : AV) (n : Nat) (cs : List Cel) : R :=
  match cs with
  | [] => some (.one (.lit (.int .i64 n)), H)
  | _ :: _ => match baseA d with
    | some (b, off, _) => (H.write b off cs).map fun H' => (.one (.lit (.int .i64 n)), H')
    | none => none
noncomputable def oCopy (P : Program) [Plain P] (E : Operand → Option AV) (H : HP) (args : Array Operand) (ats : Array TypeId) : R :=
  match listE E args.toList, ats.toList with
  | some [d, x], t :: _ => match undT P t with
    | some (.slice e) => match szA P e with
      | some (_, sz) => match dstLen d, srcLen x with
        | some dl, some sl => match srcN H sz (Nat.min sl dl) x with
          | some cs => copyTo H d (Nat.min sl dl) cs
          | none => none
        | _, _ => none
      | none => none
    | _ => none
  | _, _ => none

theorem dstLen_rel {d : AV} {u : Value} {n : Nat} (h : dstLen d = some n) (hx : VRel ρ d u) : n ≤ 9223372036854775807 ∧ ∃ a c, u = .slice a n c := by
  unfold dstLen at h
  split at h
  · obtain ⟨⟨L, hL, rfl⟩, h1, h2⟩ := hx
    cases h
    exact ⟨by omega, _, _, rfl⟩
  · obtain ⟨L, cap, hL, rfl, h1, h2, _⟩ := hx
    cases h
    exact ⟨by omega, _, _, rfl⟩
  · cases h
    obtain ⟨L, off, cap, hL, rfl, _⟩ := hx
    exact ⟨by omega, _, _, rfl⟩
  · cases h
    obtain ⟨rfl, hlit⟩ := hx
    simp only [litOK, Bool.and_eq_true] at hlit
    have e1 := Nat.eq_of_beq_eq_true hlit.1
    subst e1
    exact ⟨by omega, _, _, rfl⟩
  · cases h

theorem oCopy_ok {args : Array Operand} {ats : Array TypeId} (h : oCopy P E H args ats = some (v, H')) (hx : ∀ z ∈ args.toList, ∀ a, E z = some a → VRel ρ a (ev z)) (hH : HRel ρ H w) (hd : Dom ρ H.n) :
    St H H' ∧ OpS P ρ ev H w (.call ⟨.builtin .copy, args, ats⟩) v H' := by
  unfold oCopy at h
  simp only [undT_eq] at h
  split at h
  · rename_i d x t rest hl hat
    obtain ⟨a, b, rfl, ha, hb⟩ := two_args hl hx
    have hats : ats[0]? = some t := by rw [← Array.getElem?_toList, hat]; rfl
    split at h
    · rename_i e hu
      split at h
      · rename_i ag sz hs
        split at h
        · rename_i dl sl hdl hsl
          split at h
          · rename_i cs hcs
            obtain ⟨hsl1, hlen⟩ := srcLen_ok (P := P) hsl hb
            obtain ⟨hdl1, a0, c0, hdst⟩ := dstLen_rel hdl ha
            obtain ⟨us, hrel, hul, hfirst⟩ := srcN_ok (P := P) hcs hsl (Nat.min_le_left _ _) hb hH
            have hn : Nat.min sl dl ≤ 9223372036854775807 := Nat.le_trans (Nat.min_le_left _ _) hsl1
            have key : ∀ w1, (match a0 with | some a => (storeCells a us).run P w = .ok () w1 | none => w1 = w) → ∀ dst ty pos after guard, (execOp ev ⟨dst, .call ⟨.builtin .copy, #[a, b], ats⟩, ty, pos, after, guard⟩).run P w = .ok (.value (.int .i64 (Nat.min sl dl : Nat))) w1 := by
              intro w1 hst dst ty pos after guard
              cases a0 with
              | none =>
                subst hst
                simp [execOp, resolve, invoke, builtin, Builtin.copy_, hats, hdst, run_underlying hu, run_sizeOf hs, hlen, hfirst, goInt]
              | some a0 =>
                simp [execOp, resolve, invoke, builtin, Builtin.copy_, hats, hdst, run_underlying hu, run_sizeOf hs, hlen, hfirst, hst, goInt]
            unfold copyTo at h
            split at h
            · cases h
              have hnil : us = [] := List.length_eq_zero_iff.1 (by have := hrel.length; simpa using this.symm)
              subst hnil
              exact ⟨St.refl H, OpS.val hH hd (lit_rel (i64_ok hn)) (key w (by cases a0 <;> rfl))⟩
            · split at h
              · rename_i b0 off len0 hbase
                obtain ⟨H1, hw, hv⟩ := map_some h
                cases hv
                obtain ⟨L, cap, hL, he, _, _⟩ := baseA_rel hbase ha
                rw [hdst] at he
                cases he
                exact ⟨St.write hw, OpS.of_run (key _ (HP.write_run hH hw hL hrel)) ⟨ρ, lit_rel (i64_ok hn), Sim.write hH hd hw hL hrel⟩⟩
              · cases h
          · cases h
        · cases h
      · cases h
    · cases h
  · cases h

/-! ### Slices that are made -/
noncomputable section
/-- The byte 0. -/
def zeroB : Cel := .lit (.int .u8 (.ofNat 0))
def isZ (c : Cel) : Bool :=
  match c with
  | .lit (.int .u8 (.ofNat 0)) => true
  | _ => false
def uniB (zs : List Cel) : Bool :=
  List.rec (motive := fun _ => Bool) true (fun c _ ih => Bool.casesOn (motive := fun _ => Bool) (isZ c) false ih) zs
theorem isZ_spec {c : Cel} (h : isZ c = true) : c = zeroB := by
  unfold isZ at h
  split at h
  · rfl
  · cases h
theorem uniB_spec : ∀ (zs : List Cel), uniB zs = true → ∀ x ∈ zs, x = zeroB
  | [], _, x, hx => by cases hx
  | c :: zs, h, x, hx => by
    have h' : Bool.casesOn (motive := fun _ => Bool) (isZ c) false (uniB zs) = true := h
    cases hz : isZ c with
    | false => rw [hz] at h'; cases h'
    | true =>
      rw [hz] at h'
      rcases List.mem_cons.1 hx with h1 | h1
      · rw [h1]; exact isZ_spec hz
      · exact uniB_spec zs h' x h1
/-- A block of the same cells over and over. -/
def makeB (zs : List Cel) (n : Nat) : Bk :=
  match uniB zs, Nat.ble 33 (Nat.mul n (lenC zs)) with
  | true, true => .fl (Nat.mul n (lenC zs)) zeroB
  | _, _ => cellsB (repC zs n)
theorem makeB_get {zs : List Cel} {n i : Nat} {c : Ct} (h : Bk.get (makeB zs n) i = some c) : ∃ x, (repC zs n)[i]? = some x ∧ c = .c x := by
  unfold makeB at h
  split at h
  · rename_i hu _
    rw [Bk.get_fl] at h
    split at h
    · rename_i hi
      cases h
      rw [lenC_eq] at hi
      have hi' : i < n * zs.length := hi
      have hp : 0 < zs.length := by
        rcases Nat.eq_zero_or_pos zs.length with h0 | h0
        · rw [h0] at hi'; omega
        · exact h0
      have hm := Nat.mod_lt i hp
      rw [repC_get zs n i hi', List.getElem?_eq_getElem hm]
      exact ⟨_, rfl, by rw [uniB_spec zs hu _ (List.getElem_mem hm)]⟩
    · cases h
  · exact get_cellsB h
end
noncomputable def oMakeSlice (P : Program) [Plain P] (E : Operand → Option AV) (H : HP) (t : TypeId) (x y : Operand) : R :=
  match undT P t, E x, E y with
  | some (.slice e), some (.one (.lit (.int _ l))), some (.one (.lit (.int _ c))) => match szA P e, infoT P e with
    | some (_, sz), some i => match i.zero with
      | some z => if 0 ≤ l ∧ l ≤ c ∧ fewA c.toNat i.bytes = true ∧ 0 < sz ∧ i.size = sz ∧ z.cells.size = sz then
          (lits z.cells.toList).map fun zs => (.one (.sl H.n 0 l.toNat c.toNat), H.push (makeB zs c.toNat))
        else none
      | none => none
    | _, _ => none
  | _, _, _ => none

theorem wrap_i64' (n : Int) : IntKind.i64.wrap n = (n + 9223372036854775808) % 18446744073709551616 - 9223372036854775808 := by
  simp [IntKind.wrap, IntKind.bits, IntKind.signed]
  split <;> omega
theorem wrap_small {n : Int} (h0 : 0 ≤ n) (h1 : n ≤ 9223372036854775807) : IntKind.i64.wrap n = n := by
  have : IntKind.i64.wrap n = (n + 9223372036854775808) % 18446744073709551616 - 9223372036854775808 := wrap_i64' n
  rw [this]
  omega

theorem run_askRoom {n : Nat} (h : n ≤ 140737488355328) : (askRoom n).run P w = .ok () w := by
  unfold askRoom roomBytes
  rw [if_neg (by omega)]
  rfl

theorem oMakeSlice_ok {t : TypeId} {x y : Operand} (h : oMakeSlice P E H t x y = some (v, H')) (hx : ∀ z, z = x ∨ z = y → ∀ a, E z = some a → VRel ρ a (ev z)) (hH : HRel ρ H w) (hd : Dom ρ H.n) :
    St H H' ∧ OpS P ρ ev H w (.makeSlice t x y) v H' := by
  unfold oMakeSlice at h
  simp only [undT_eq, infoT_eq] at h
  split at h
  · rename_i e k l k' c hu hex hey
    obtain ⟨he1, hl1⟩ := hx x (.inl rfl) _ hex
    obtain ⟨he2, hl2⟩ := hx y (.inr rfl) _ hey
    split at h
    · rename_i ag sz i hs hi
      split at h
      · rename_i z hz
        split at h
        · rename_i hc
          obtain ⟨h0, h1, h2, h3, h4, h5⟩ := hc
          obtain ⟨zs, hlits, hv⟩ := map_some h
          cases hv
          obtain ⟨f1, f2⟩ := fewA_spec h2
          refine ⟨St.push _ _, fun dst ty pos after guard => ?_⟩
          have hrel := lits_rel (ρ := ρ) hlits
          have hrep : All2 (CRel ρ) (repC zs c.toNat) ((Array.range (c.toNat * i.size)).map fun i => z.cells[i % z.cells.size]!).toList := by
            have hzl := hrel.length
            simp only [Array.length_toList] at hzl
            refine All2.of_get (by simp [length_repC, hzl, h4, h5]) fun j a b ha hb => ?_
            have hj : j < c.toNat * zs.length := by have := (List.getElem?_eq_some_iff.1 ha).1; rwa [length_repC] at this
            rw [repC_get _ _ _ hj] at ha
            simp only [Array.toList_map, Array.toList_range, List.getElem?_map, Option.map_eq_some_iff] at hb
            obtain ⟨j', hj', rfl⟩ := hb
            rw [List.getElem?_range (by rw [h4, ← h5, ← hzl]; exact hj)] at hj'
            cases hj'
            obtain ⟨b, hb, hr⟩ := hrel.get _ _ ha
            rw [hzl, Array.getElem?_toList] at hb
            have hlt := (Array.getElem?_eq_some_iff.1 hb).1
            rw [getElem!_pos z.cells _ hlt]
            rw [Array.getElem?_eq_getElem hlt] at hb
            cases hb
            exact hr
          have hsim := Sim.allocK (k := makeB zs c.toNat) (fun _ _ h => makeB_get h) (cs := repC zs c.toNat) (t := e) (us := (Array.range (c.toNat * i.size)).map fun i => z.cells[i % z.cells.size]!) hH hd (by rw [List.take_of_length_le (Nat.le_of_eq hrep.length.symm)]; exact hrep)
          have hrun : (execOp ev ⟨dst, .makeSlice t x y, ty, pos, after, guard⟩).run P w = .ok (.value (.slice (some ⟨w.heap.size, 0, none⟩) l.toNat c.toNat)) (w.alloc (.cells ((Array.range (c.toNat * i.size)).map fun i => z.cells[i % z.cells.size]!) e)) := by
            obtain ⟨l', rfl⟩ := Int.eq_ofNat_of_zero_le h0
            obtain ⟨c', rfl⟩ := Int.eq_ofNat_of_zero_le (Int.le_trans h0 h1)
            simp only [Int.toNat_natCast] at f1 f2 ⊢
            have e1 : IntKind.i64.wrap (l' : Int) = l' := wrap_small (by omega) (by omega)
            have e2 : IntKind.i64.wrap (c' : Int) = c' := wrap_small (by omega) (by omega)
            have e3 : ((i.bytes : Int) * (c' : Int)) = ((c' * i.bytes : Nat) : Int) := by rw [Nat.mul_comm]; simp
            have e4 : ¬ (281474976710656 < ((i.bytes : Int) * (c' : Int))) := by rw [e3]; omega
            have e5 : ¬ ((c' : Int) < l') := by omega
            have e6 := run_askRoom (P := P) (w := w) f1
            by_cases hn : c' = 0
            · subst hn
              have hl0 : l' = 0 := by omega
              subst hl0
              have e0 : IntKind.i64.wrap 0 = 0 := by decide
              have e7 := run_askRoom (P := P) (w := w) (n := 0) (by omega)
              simp [e0, e7, execOp, Instr.makeSlice, run_underlying hu, he1, he2, asInt, asIntOf, typeInfo, sizeOf, hi, e1, e2, e4, e5, e6, newRow, zeroValue, hz]
              congr 2
              apply Array.ext'
              simp
            · have hne : ¬ (c' * i.size = 0) := by
                intro hz'
                rcases Nat.mul_eq_zero.1 hz' with h | h <;> omega
              simp [execOp, Instr.makeSlice, run_underlying hu, he1, he2, asInt, asIntOf, typeInfo, sizeOf, hi, e1, e2, e4, e5, e6, hne, newRow, zeroValue, hz]
              intro hh
              omega
          rw [hrun]
          refine ⟨_, ⟨⟨⟨w.heap.size, 0, _⟩, upd_same _ _ _, rfl⟩, by omega, by omega⟩, hsim⟩
        · cases h
      · cases h
    · cases h
  · cases h
end
end Go.Fv

set_option linter.unusedSectionVars false
set_option linter.unusedVariables false
namespace Go.Fv
section
variable {P : Program} [Plain P] {ora : Ora} {E : Operand → Option AV} {H H' : HP} {w : World} {ρ : PM} {ev : Operand → Value} {v : AV}

/-! ### The mark that a string's bytes bear -/
theorem heap_freeze (w : World) (B o k : Nat) : (w.freeze ⟨B, o, none⟩ 1).heap[k]? = if B = k then (w.heap[k]?).map (fun x => match x with | .cells c e (lo, hi) => .cells c e (if lo == hi then (o, o + 1) else (min lo o, max hi (o + 1))) | x => x) else w.heap[k]? := by
  unfold World.freeze
  rw [if_neg (by decide)]
  simp only [Array.getElem?_modify]
  split
  · congr 1
  · rfl

theorem uf_freeze {fr : Nat × Nat} {n : Nat} (h : UF fr n) : UF (if fr.1 == fr.2 then (n, n + 1) else (min fr.1 n, max fr.2 (n + 1))) n := by
  obtain ⟨lo, hi⟩ := fr
  unfold UF at *
  simp only at *
  by_cases he : lo = hi
  · subst he
    simp
  · rcases h with h | h
    · exact absurd h he
    · have : (lo == hi) = false := by simpa using he
      rw [this]
      simp only [Bool.false_eq_true, if_false]
      right
      omega

theorem Sim.freeze (hH : HRel ρ H w) (hd : Dom ρ H.n) {b : Nat} {L : Loc} (hL : ρ b = some L) (hk : H.Kn b) {arr : Array Value} {t : TypeId} {fr : Nat × Nat} (ha : w.heap[L.B]? = some (.cells arr t fr)) (hu : UF fr arr.size) :
    Sim ρ H w ρ H (w.freeze ⟨L.B, arr.size, none⟩ 1) := by
  have hB : (w.freeze ⟨L.B, arr.size, none⟩ 1).heap[L.B]? = some (.cells arr t (if fr.1 == fr.2 then (arr.size, arr.size + 1) else (min fr.1 arr.size, max fr.2 (arr.size + 1)))) := by
    rw [heap_freeze, if_pos rfl, ha]
    rfl
  have ho : ∀ k, k ≠ L.B → (w.freeze ⟨L.B, arr.size, none⟩ 1).heap[k]? = w.heap[k]? := fun k hk => by rw [heap_freeze, if_neg (Ne.symm hk)]
  exact {
    le := PM.le.refl ρ
    grow := Nat.le_refl _
    dom := hd
    rel := by
      refine ⟨fun b' i c K hc hK => ?_, hH.inj⟩
      have h0 := hH.rel b' i c K hc hK
      by_cases hBK : K.B = L.B
      · cases c with
        | c x =>
          obtain ⟨arr', t', fr', u, h1, h2, h3, h4, h5⟩ := h0
          rw [hBK, ha] at h1
          cases h1
          exact ⟨arr, t, _, u, by rw [hBK]; exact hB, uf_freeze hu, h3, h4, h5⟩
        | map es ck =>
          obtain ⟨_, _, m, h1, _⟩ := h0
          rw [hBK, ha] at h1
          cases h1
        | iter m a1 a2 a3 =>
          obtain ⟨_, _, m, h1, _⟩ := h0
          rw [hBK, ha] at h1
          cases h1
        | loop a1 a2 a3 a4 a5 a6 a7 =>
          obtain ⟨_, _, m, h1, _⟩ := h0
          rw [hBK, ha] at h1
          cases h1
        | room =>
          obtain ⟨arr', t', fr', h1, h2, h3, h4⟩ := h0
          rw [hBK, ha] at h1
          cases h1
          exact ⟨arr, t, _, by rw [hBK]; exact hB, uf_freeze hu, h3, h4⟩
      · exact h0.of_heap (ho _ hBK)
    knc := fun _ _ _ h => h
    frc := fun b' K i _ _ hK _ => by
      by_cases hBK : K.B = L.B
      · intro arr' t' fr' h1
        rw [hBK, ha] at h1
        cases h1
        exact ⟨arr, _, by rw [hBK]; exact hB, rfl, rfl, fun h => uf_freeze h⟩
      · exact SameAt.of_heap (ho _ hBK) _
    fr := fun k _ hno => ho k fun h => hno b L hk hL h.symm
    new := fun b L h1 h2 => by rw [h1] at h2; cases h2
    size := by unfold World.freeze; rw [if_neg (by decide)]; simp
    os := by unfold World.freeze; rw [if_neg (by decide)]
    tape := by unfold World.freeze; rw [if_neg (by decide)]
    output := by unfold World.freeze; rw [if_neg (by decide)]
    old := fun b L h1 h2 => by rw [h1] at h2; cases h2 }

/-! ### The conversions -/
def intsOf : List Cel → Option (List Int)
  | [] => some []
  | .lit (.int .u8 n) :: cs => match intsOf cs with
    | some ns => some (n :: ns)
    | none => none
  | _ => none
def strOf (ns : List Int) : ByteArray := ns.foldl (fun r n => r.push (UInt8.ofNat n.toNat)) ByteArray.empty
noncomputable def toStr (H : HP) (v : AV) : Option ByteArray :=
  match v with
  | .one (.lit (.slice none _ _)) => some ByteArray.empty
  | v => match baseA v with
    | some (b, off, len) => match H.read b off len with
      | some cs => match intsOf cs with
        | some ns => match Nat.ble (strOf ns).size 9223372036854775807 with
          | true => some (strOf ns)
          | false => none
        | none => none
      | none => none
    | none => none
noncomputable def oConvert (P : Program) [Plain P] (E : Operand → Option AV) (H : HP) (t u : TypeId) (x : Operand) : R :=
  match undT P t, undT P u, E x with
  | some _, some (.int k), some (.one (.lit (.int _ n))) => some (.one (.lit (.int k (k.wrap n))), H)
  | some _, some .string, some (.one (.lit (.string s))) => some (.one (.lit (.string s)), H)
  | some (.slice e), some .string, some v => match undT P e with
    | some (.int .u8) => (toStr H v).map fun s => (.one (.lit (.string s)), H)
    | _ => none
  | some .string, some (.slice e), some (.one (.lit (.string s))) => match undT P e with
    | some (.int .u8) => some (.one (.su H.n 0 s.size 1), H.push (cellsB (bytesC s)))
    | _ => none
  | some (.slice _), some (.slice e), some v => match undT P e, Nat.beq t u, baseA v with
    | some (.int .u8), true, some (b, _, _) => match H.kn1 b with
      | true => some (v, H)
      | false => none
    | _, _, _ => none
  | _, _, _ => none

theorem intsOf_rel : ∀ {cs : List Cel} {ns : List Int} {us : List Value}, intsOf cs = some ns → All2 (CRel ρ) cs us → us = ns.map (Value.int .u8)
  | [], ns, us, h, hr => by
    cases h
    cases us with
    | nil => rfl
    | cons u us => exact hr.elim
  | .lit (.int .u8 n) :: cs, ns, us, h, hr => by
    simp only [intsOf] at h
    split at h
    · rename_i ns' hns
      cases h
      cases us with
      | nil => exact hr.elim
      | cons u us =>
        obtain ⟨⟨rfl, _⟩, h2⟩ := hr
        rw [intsOf_rel hns h2]
        rfl
    · cases h

theorem toStr_ok {x : AV} {u : Value} {s : ByteArray} (h : toStr H x = some s) (hx : VRel ρ x u) (hH : HRel ρ H w) : litOK (.string s) = true ∧ ∃ a l c, u = .slice a l c ∧ (Conv.bytesToString u).run P w = .ok (.string s) w := by
  unfold toStr at h
  split at h
  · cases h
    obtain ⟨rfl, _⟩ := hx
    exact ⟨by decide, _, _, _, rfl, rfl⟩
  · split at h
    · rename_i b off len hb
      split at h
      · rename_i cs hcs
        split at h
        · rename_i ns hns
          split at h
          · rename_i hble
            cases h
            obtain ⟨L, cap, hL, rfl, h1, h2⟩ := baseA_rel hb hx
            obtain ⟨us, hl, hrel, hcell⟩ := HP.read_world hcs hH hL
            have hus := intsOf_rel hns hrel
            refine ⟨by simp only [litOK, decide_eq_true_eq]; exact Nat.le_of_ble_eq_true hble, _, _, _, rfl, run_bytesToString w _ _ _ ns ?_⟩
            rw [← hus, ← hl]
            refine run_loadCells_list w _ us fun j v hj => ?_
            rw [add_addr]
            exact hcell j v hj
          · cases h
        · cases h
      · cases h
    · cases h

theorem oConvert_ok {t u : TypeId} {x : Operand} (h : oConvert P E H t u x = some (v, H')) (hx : ∀ a, E x = some a → VRel ρ a (ev x)) (hH : HRel ρ H w) (hd : Dom ρ H.n) :
    St H H' ∧ OpS P ρ ev H w (.convert t u x) v H' := by
  unfold oConvert at h
  simp only [undT_eq] at h
  split at h
  · rename_i d k k' n ht hu hex
    cases h
    obtain ⟨he, hl⟩ := hx _ hex
    refine ⟨St.refl H, OpS.val hH hd (lit_rel (wrap_ok k n)) fun dst ty pos after guard => ?_⟩
    have : (convert t u (.int k' n)).run P w = .ok (.int k (k.wrap n)) w := by
      simp only [convert, Sem.run_bind, run_underlying ht, run_underlying hu, Result.andThen_ok]
      rfl
    simp [execOp, he, this]
  · rename_i d s ht hu hex
    cases h
    obtain ⟨he, hl⟩ := hx _ hex
    refine ⟨St.refl H, OpS.val hH hd (lit_rel hl) fun dst ty pos after guard => ?_⟩
    have : (convert t u (.string s)).run P w = .ok (.string s) w := by
      simp only [convert, Sem.run_bind, run_underlying ht, run_underlying hu, Result.andThen_ok]
      rfl
    simp [execOp, he, this]
  · rename_i e v0 _ ht hu hex
    split at h
    · rename_i he
      obtain ⟨s, hs, hv⟩ := map_some h
      cases hv
      obtain ⟨hl, a, l, c, hev, hrun⟩ := toStr_ok (P := P) hs (hx _ hex) hH
      refine ⟨St.refl H, OpS.val hH hd (lit_rel hl) fun dst ty pos after guard => ?_⟩
      have := run_convert_bytes_string (P := P) w t u e a l c ht he hu
      rw [← hev, hrun] at this
      simp [execOp, this]
    · cases h
  · rename_i e s ht hu hex
    split at h
    · rename_i he
      cases h
      obtain ⟨hev, hl⟩ := hx _ hex
      simp only [litOK, decide_eq_true_eq] at hl
      refine ⟨St.push _ _, fun dst ty pos after guard => ?_⟩
      have hrun := run_bytes_of_string (P := P) w t u e s ht hu he
      have hc1 := cap_ge s.size 0 e w
      have hc2 := cap_le (need := s.size) 0 e w hl
      have hsz : (bytesRow s (grownCap w s.size 0 e)).size = grownCap w s.size 0 e := by
        have : s.data.size = s.size := rfl
        simp only [bytesRow, Array.size_append, Array.size_map, Array.size_replicate, this]
        omega
      have s2 : Sim ρ H w ρ H w.drew := Sim.same hH hd rfl rfl rfl rfl
      have s3 := Sim.alloc (H := H) (ρ := ρ) (w := w.drew) (o := .cells (bytesRow s (grownCap w s.size 0 e)) e ((bytesRow s (grownCap w s.size 0 e)).size, (bytesRow s (grownCap w s.size 0 e)).size + 1)) (k := cellsB (bytesC s)) (L := ⟨w.heap.size, 0, grownCap w s.size 0 e⟩) s2.rel hd rfl fun i c hc => by
        obtain ⟨y, hy, rfl⟩ := get_cellsB hc
        obtain ⟨b, hb, hr⟩ := (bytesC_rel (ρ := upd ρ H.n ⟨w.heap.size, 0, grownCap w s.size 0 e⟩) s).get i y hy
        refine ⟨_, e, _, b, (by rw [heap_alloc]; exact if_pos rfl), .inr (Nat.le_refl _), hsz, ?_, hr⟩
        simp only [Nat.zero_add, bytesRow]
        have hi : i < s.data.size := by
          have := (List.getElem?_eq_some_iff.1 hb).1
          simpa using this
        rw [Array.getElem?_append_left (by simpa using hi)]
        rw [← hb]
        simp
      have : (execOp ev ⟨dst, .convert t u x, ty, pos, after, guard⟩).run P w = .ok (.value (.slice (some ⟨w.heap.size, 0, none⟩) s.size (grownCap w s.size 0 e))) (w.drew.alloc (.cells (bytesRow s (grownCap w s.size 0 e)) e ((bytesRow s (grownCap w s.size 0 e)).size, (bytesRow s (grownCap w s.size 0 e)).size + 1))) := by
        simp [execOp, hev, hrun]
      rw [this]
      exact ⟨_, ⟨⟨w.heap.size, 0, grownCap w s.size 0 e⟩, grownCap w s.size 0 e, upd_same _ _ _, rfl, hc1, hc2, by simp⟩, s2.trans hd s3⟩
    · cases h
  · rename_i e0 e v0 _ ht hu hex
    split at h
    · rename_i b off len he htu hb
      have htu' := Nat.eq_of_beq_eq_true htu
      subst htu'
      split at h
      · rename_i hkn
        cases h
        obtain ⟨c0, hc0⟩ := HP.kn1_spec hkn
        obtain ⟨L, cap, hL, hev, h1, h2⟩ := baseA_rel hb (hx _ hex)
        obtain ⟨arr, t', fr, u0, e1, e2, e3, e4, e5⟩ := hH.rel b 0 (.c c0) L hc0 hL
        refine ⟨St.refl H, OpS.of_run (w' := w.freeze ⟨L.B, arr.size, none⟩ 1) (u' := ev x) (fun dst ty pos after guard => ?_) ⟨ρ, hx _ hex, Sim.freeze hH hd hL ⟨0, _, hc0⟩ e1 e2⟩⟩
        have hsh : w.shape? L.B = some (t', arr.size) := by unfold World.shape?; rw [e1]
        rw [hu] at ht
        cases ht
        simp [execOp, hev, convert, run_underlying hu, run_underlying he, markStringish, hsh]
      · cases h
    · cases h
  · cases h
end
end Go.Fv
