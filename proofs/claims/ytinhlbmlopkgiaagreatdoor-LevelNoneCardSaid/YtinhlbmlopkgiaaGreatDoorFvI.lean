/-
  A second abstract evaluator of the model's code: append. Conditions: none; nothing here speaks of one program.
-/
import Derived.Test.YtinhlbmlopkgiaaGreatDoorFvH
import Derived.Laws.Append
import Derived.Laws.AppendOwn
import Derived.Lib.AppendZerosOnto
set_option linter.unusedSectionVars false
set_option linter.unusedVariables false
namespace Go.Fv
section
variable {P : Program} [Plain P] {ora : Ora} {E : Operand → Option AV} {H H' : HP} {w : World} {ρ : PM} {ev : Operand → Value} {v : AV}

theorem HRel.of_heap {w' : World} (h : HRel ρ H w) (he : w'.heap = w.heap) : HRel ρ H w' :=
  ⟨fun b i c L hc hL => (h.rel b i c L hc hL).of_heap (by rw [he]), h.inj⟩
/-- Nothing but a count. -/
theorem Sim.same {w' : World} (h : HRel ρ H w) (hd : Dom ρ H.n) (he : w'.heap = w.heap) (h1 : w'.os = w.os) (h2 : w'.tape = w.tape) (h3 : w'.output = w.output) : Sim ρ H w ρ H w' where
  le := PM.le.refl ρ
  grow := Nat.le_refl _
  dom := hd
  rel := h.of_heap he
  knc := fun _ _ _ h => h
  frc := fun _ _ _ _ _ _ _ => SameAt.of_heap (by rw [he]) _
  fr := fun _ _ _ => by rw [he]
  new := fun b L h1 h2 => by rw [h1] at h2; cases h2
  size := by rw [he]; exact Nat.le_refl _
  os := h1
  tape := h2
  output := h3
  old := fun b L h1 h2 => by rw [h1] at h2; cases h2
/-- A block is out of view. -/
theorem Sim.drop (h : HRel ρ H w) (hd : Dom ρ H.n) (b : Nat) : Sim ρ H w ρ (H.drop b) w := by
  have hk : ∀ a, (H.drop b).Kn a → H.Kn a := by
    rintro a ⟨i, c, hc⟩
    rw [HP.cell_drop] at hc
    split at hc
    · cases hc
    · exact ⟨i, c, hc⟩
  exact {
    le := PM.le.refl ρ
    grow := Nat.le_refl _
    dom := hd
    rel := ⟨fun a i c L hc hL => by
      rw [HP.cell_drop] at hc
      split at hc
      · cases hc
      · exact h.rel a i c L hc hL, fun a a' L L' g1 g2 => h.inj a a' L L' (hk a g1) (hk a' g2)⟩
    knc := fun a i _ hc => by
      rw [HP.cell_drop]
      split
      · rfl
      · exact hc
    frc := fun _ _ _ _ _ _ _ => SameAt.of_heap rfl _
    fr := fun _ _ _ => rfl
    new := fun b L h1 h2 => by rw [h1] at h2; cases h2
    size := Nat.le_refl _
    os := rfl
    tape := rfl
    output := rfl
    old := fun b L h1 h2 => by rw [h1] at h2; cases h2 }

/-! ### What is appended or copied -/
def bytesC (s : ByteArray) : List Cel := s.data.toList.map fun b => .lit (.int .u8 b.toNat)
noncomputable def srcA (H : HP) (sz : Nat) : AV → Option (Nat × List Cel)
  | .one (.sl b off len _) => (H.read b off (len * sz)).map fun cs => (len, cs)
  | .one (.su b off len _) => (H.read b off (len * sz)).map fun cs => (len, cs)
  | .one (.sz _ _) => some (0, [])
  | .one (.lit (.slice none _ _)) => some (0, [])
  | .one (.lit (.string s)) => if sz = 1 then some (s.size, bytesC s) else none
  | _ => none

theorem bytesC_rel (s : ByteArray) : All2 (CRel ρ) (bytesC s) (s.data.toList.map fun b => Value.int .u8 b.toNat) := by
  unfold bytesC
  induction s.data.toList with
  | nil => trivial
  | cons b l ih => exact ⟨⟨rfl, u8_ok b⟩, ih⟩

theorem srcA_ok {sz n : Nat} {x : AV} {u : Value} {cs : List Cel} (h : srcA H sz x = some (n, cs)) (hx : VRel ρ x u) (hH : HRel ρ H w) :
    n ≤ 9223372036854775807 ∧ ∃ us : List Value, All2 (CRel ρ) cs us ∧ us.length = n * sz ∧ ∀ w' : World, w'.heap = w.heap → (Builtin.lenOf u).run P w' = .ok n w' ∧ (Builtin.firstCells sz n u).run P w' = .ok us.toArray w' := by
  have sl : ∀ (b off len cap : Nat) (L : Loc), (H.read b off (len * sz)).map (fun cs => (len, cs)) = some (n, cs) → ρ b = some L → len ≤ cap → cap ≤ 9223372036854775807 →
      n ≤ 9223372036854775807 ∧ ∃ us : List Value, All2 (CRel ρ) cs us ∧ us.length = n * sz ∧ ∀ w' : World, w'.heap = w.heap → (Builtin.lenOf (.slice (some ⟨L.B, L.o + off, none⟩) len cap)).run P w' = .ok n w' ∧ (Builtin.firstCells sz n (.slice (some ⟨L.B, L.o + off, none⟩) len cap)).run P w' = .ok us.toArray w' := by
    intro b off len cap L h hL h1 h2
    obtain ⟨cs', hr, hv⟩ := map_some h
    cases hv
    obtain ⟨us, hl, hrel, hcell⟩ := HP.read_world hr hH hL
    refine ⟨by omega, us, hrel, hl, fun w' hw => ⟨rfl, ?_⟩⟩
    refine run_firstCells_some (P := P) w' sz _ _ _ _ us hl fun j v hj => ?_
    rw [add_addr]
    have := hcell j v hj
    unfold World.cell? at this ⊢
    rw [hw]
    exact this
  unfold srcA at h
  split at h
  · obtain ⟨⟨L, hL, rfl⟩, h1, h2⟩ := hx
    exact sl _ _ _ _ L h hL h1 h2
  · obtain ⟨L, cap, hL, rfl, h1, h2, _⟩ := hx
    exact sl _ _ _ _ L h hL h1 h2
  · cases h
    obtain ⟨L, off, cap, hL, rfl, _⟩ := hx
    refine ⟨by omega, [], trivial, by simp, fun w' hw => ⟨rfl, ?_⟩⟩
    exact run_firstCells_some (P := P) w' sz 0 ⟨L.B, off, none⟩ 0 cap [] (by simp) fun j v hj => by simp at hj
  · cases h
    obtain ⟨rfl, hlit⟩ := hx
    simp only [litOK, Bool.and_eq_true] at hlit
    have e1 := Nat.eq_of_beq_eq_true hlit.1
    subst e1
    exact ⟨by omega, [], trivial, by simp, fun w' hw => ⟨rfl, rfl⟩⟩
  · rename_i s
    split at h
    · rename_i hsz
      subst hsz
      cases h
      obtain ⟨rfl, hlit⟩ := hx
      simp only [litOK, decide_eq_true_eq] at hlit
      refine ⟨hlit, _, bytesC_rel s, by simp, fun w' hw => ⟨rfl, ?_⟩⟩
      simp only [Builtin.firstCells, Sem.run_pure]
      congr 1
      apply Array.ext'
      simp
    · cases h
  · cases h

/-! ### Elements over and over -/
def repC {α : Type} (zs : List α) (n : Nat) : List α := Nat.rec (motive := fun _ => List α) [] (fun _ ih => zs ++ ih) n
theorem length_repC {α : Type} (zs : List α) : ∀ n, (repC zs n).length = n * zs.length
  | 0 => by show ([] : List α).length = _; simp
  | n + 1 => by
    show (zs ++ repC zs n).length = _
    rw [List.length_append, length_repC zs n, Nat.succ_mul, Nat.add_comm]
theorem repC_get {α : Type} (zs : List α) : ∀ (n i : Nat), i < n * zs.length → (repC zs n)[i]? = zs[i % zs.length]?
  | 0, i, h => by simp at h
  | n + 1, i, h => by
    show (zs ++ repC zs n)[i]? = _
    by_cases hi : i < zs.length
    · rw [List.getElem?_append_left hi, Nat.mod_eq_of_lt hi]
    · rw [List.getElem?_append_right (by omega), repC_get zs n (i - zs.length) (by rw [Nat.succ_mul] at h; omega)]
      congr 1
      rw [Nat.mod_eq_sub_mod (a := i) (by omega)]

theorem repC_rel {zs : List Cel} {z : Array Value} {sz n : Nat} (h : All2 (CRel ρ) zs z.toList) (hz : zs.length = sz) (h0 : 0 < sz) : All2 (CRel ρ) (repC zs n) (Builtin.zeroCells z n).toList := by
  have hzl := h.length
  simp only [Array.length_toList] at hzl
  unfold Builtin.zeroCells
  refine All2.of_get (by simp [length_repC, hzl]) fun j a b ha hb => ?_
  have hj : j < n * zs.length := by have := (List.getElem?_eq_some_iff.1 ha).1; rwa [length_repC] at this
  rw [repC_get _ _ _ hj] at ha
  simp only [Array.toList_map, Array.toList_range, List.getElem?_map, Option.map_eq_some_iff] at hb
  obtain ⟨j', hj', rfl⟩ := hb
  rw [List.getElem?_range (by rw [← hzl]; exact hj)] at hj'
  cases hj'
  obtain ⟨b, hb, hr⟩ := h.get _ _ ha
  rw [hzl, Array.getElem?_toList] at hb
  have hlt := (Array.getElem?_eq_some_iff.1 hb).1
  rw [getElem!_pos z _ hlt]
  rw [Array.getElem?_eq_getElem hlt] at hb
  cases hb
  exact hr


/-! ### Append -/
/-- Is the first place of a block a cell that is known? -/
noncomputable def HP.kn1 (H : HP) (b : Nat) : Bool :=
  match H.t.get b with
  | some (some (.c _) :: _) => true
  | _ => false
theorem HP.kn1_spec {b : Nat} (h : H.kn1 b = true) : ∃ c, H.cell b 0 = some (.c c) := by
  unfold HP.kn1 at h
  split at h
  · rename_i c l hk
    exact ⟨c, by unfold HP.cell; rw [hk]; rfl⟩
  · cases h
/-- So many elements are no burden. -/
def fewA (m bytes : Nat) : Bool := Nat.ble (m * bytes) 140737488355328 && Nat.ble m 9223372036854775807
noncomputable def appendA (H : HP) (sz bytes : Nat) (s : AV) (n : Nat) (cs : List Cel) : R :=
  match s with
  | .one (.lit (.slice none 0 0)) => if n = 0 then some (s, H) else if fewA n bytes = true then some (.one (.su H.n 0 n sz), H.push (cellsB cs)) else none
  | .one (.sl b off len cap) =>
    if len + n ≤ cap then (H.write b (off + len * sz) cs).map fun H' => (.one (.sl b off (len + n) cap), H')
    else if fewA (len + n) bytes = true then match H.read b off (len * sz) with
      | some old => some (.one (.su H.n 0 (len + n) sz), H.push (cellsB (old ++ cs)))
      | none => none
    else none
  | .one (.su b off len s') =>
    if n = 0 then some (s, H)
    else if s' = sz ∧ fewA (len + n) bytes = true ∧ H.kn1 b = true then match H.write b (off + len * sz) cs with
      | some H' => some (.one (.su b off (len + n) sz), H')
      | none => match H.read b off (len * sz) with
        | some old => some (.one (.su H.n 0 (len + n) sz), (H.drop b).push (cellsB (old ++ cs)))
        | none => none
    else none
  | .one (.sz b s') =>
    if n = 0 then some (s, H)
    else if s' = sz ∧ fewA n bytes = true ∧ H.kn1 b = true then some (.one (.su H.n 0 n sz), (H.drop b).push (cellsB cs))
    else none
  | _ => none
def seqD : TypeDesc → Bool
  | .slice _ => true
  | .string => true
  | _ => false
/-- What is appended, by its type: elements; so many zero values. -/
noncomputable def srcU (H : HP) (sz bytes : Nat) (z : Value) (du : TypeDesc) (x : AV) : Option (Nat × List Cel) :=
  match seqD du with
  | true => srcA H sz x
  | false => match du, x with
    | .int _, .one (.lit (.int _ l)) => if 0 ≤ l ∧ fewA l.toNat bytes = true then (lits z.cells.toList).map fun zs => (l.toNat, repC zs l.toNat) else none
    | _, _ => none
noncomputable def oAppend (P : Program) [Plain P] (E : Operand → Option AV) (H : HP) (args : Array Operand) (ats : Array TypeId) : R :=
  match listE E args.toList, ats.toList with
  | some [s, x], [t, u] => match undT P t, undT P u with
    | some (.slice e), some du => match szA P e, infoT P e with
      | some (_, sz), some i => match i.zero with
        | some z => match srcU H sz i.bytes z du x with
          | some (n, cs) => if 0 < sz ∧ i.size = sz ∧ z.cells.size = sz then appendA H sz i.bytes s n cs else none
          | none => none
        | none => none
      | _, _ => none
    | _, _ => none
  | _, _ => none

theorem fewA_spec {m bytes : Nat} (h : fewA m bytes = true) : m * bytes ≤ 140737488355328 ∧ m ≤ 9223372036854775807 := by
  simp only [fewA, Bool.and_eq_true] at h
  exact ⟨Nat.le_of_ble_eq_true h.1, Nat.le_of_ble_eq_true h.2⟩

theorem cap_ge (need old : Nat) (e : TypeId) (w : World) : need ≤ grownCap w need old e := by
  simp only [grownCap, Question.cut]; omega
theorem cap_le {need : Nat} (old : Nat) (e : TypeId) (w : World) (h : need ≤ 9223372036854775807) : grownCap w need old e ≤ 9223372036854775807 := by
  simp only [grownCap, Question.cut]
  have := Nat.mod_lt (w.tape w.drawn (.appendCap need old e)) (show 0 < 2 ^ 63 - need by omega)
  omega

def SrcOK (P : Program) (du : TypeDesc) (i : TypeInfo) (z : Value) (w : World) (x : Value) (n : Nat) (news : List Value) : Prop :=
  (seqD du = true ∧ ∀ w' : World, w'.heap = w.heap → (Builtin.lenOf x).run P w' = .ok n w' ∧ (Builtin.firstCells i.size n x).run P w' = .ok news.toArray w') ∨
  (∃ kn kq, du = .int kn ∧ x = .int kq n ∧ news = (Builtin.zeroCells z.cells n).toList ∧ n * i.bytes ≤ 140737488355328 ∧ n ≤ 9223372036854775807)
theorem srcU_ok {sz bytes n : Nat} {z : Value} {du : TypeDesc} {i : TypeInfo} {x : AV} {u : Value} {cs : List Cel} (h : srcU H sz bytes z du x = some (n, cs)) (hx : VRel ρ x u) (hH : HRel ρ H w) (hb : i.bytes = bytes) (hsz : i.size = sz) (h0 : 0 < sz) (hzs : z.cells.size = sz) :
    n ≤ 9223372036854775807 ∧ ∃ us : List Value, All2 (CRel ρ) cs us ∧ us.length = n * sz ∧ SrcOK P du i z w u n us := by
  subst hsz
  unfold srcU at h
  split at h
  · rename_i hs
    obtain ⟨h1, us, h2, h3, h4⟩ := srcA_ok (P := P) h hx hH
    exact ⟨h1, us, h2, h3, .inl ⟨hs, h4⟩⟩
  · split at h
    · rename_i kn kq l _
      split at h
      · rename_i hl
        obtain ⟨zs, hzs', hv⟩ := map_some h
        cases hv
        obtain ⟨rfl, _⟩ := hx
        obtain ⟨f1, f2⟩ := fewA_spec hl.2
        have hrel := lits_rel (ρ := ρ) hzs'
        have hl1 : zs.length = i.size := by have := hrel.length; simp only [Array.length_toList] at this; omega
        refine ⟨f2, _, repC_rel (n := l.toNat) hrel hl1 h0, by simp [Builtin.zeroCells, hzs], .inr ⟨kn, kq, rfl, ?_, rfl, by rw [hb]; exact f1, f2⟩⟩
        rw [Int.toNat_of_nonneg hl.1]
      · cases h
    · cases h

section app
variable {t u e ty : TypeId} {du : TypeDesc} {i : TypeInfo} {z : Value} {n : Nat} {x : Value} {news : List Value} {base : Option Addr} {sLen sCap : Nat}

theorem wrap_nat {n : Nat} (h : n ≤ 9223372036854775807) : IntKind.i64.wrap (n : Int) = n := by rw [IntKind.wrap_i64]; omega

/-- Append where there is room. -/
theorem run_app_in (ht : P.underlying t = some (.slice e)) (hu : P.underlying u = some du) (hi : P.info? e = some i) (hz : i.zero = some z) (hsz : 0 < i.size)
    (hx : SrcOK P du i z w x n news) (hle : sLen + n ≤ sCap) {w1 : World}
    (hst : match base with | some a => (storeCells (a.add (sLen * i.size)) news).run P w = .ok () w1 | none => w1 = w) :
    (Builtin.append_ #[t, u] ty #[.slice base sLen sCap, x]).run P w = .ok (.slice base (sLen + n) sCap) w1 := by
  rcases hx with ⟨hdu, hx⟩ | ⟨kn, kq, rfl, rfl, rfl, hb, h63⟩
  · obtain ⟨h1, h2⟩ := hx w rfl
    have hz' : ((P.underlying u).elim false fun d => d matches .int _) = false := by rw [hu]; cases du <;> first | rfl | cases hdu
    cases du <;> first | cases hdu | skip
    all_goals
      cases base with
      | none =>
        subst hst
        simp [Builtin.append_, run_underlying ht, run_underlying hu, sizeOf, typeInfo, hi, h1, h2, hle]
      | some a =>
        simp [Builtin.append_, run_underlying ht, run_underlying hu, sizeOf, typeInfo, hi, h1, h2, hle, hst]
  · have hw := wrap_nat h63
    have h48i : ¬ (281474976710656 < (n : Int) * (i.bytes : Int)) := by
      rw [← Int.natCast_mul]
      omega
    have hneg : ¬ ((n : Int) < 0) := by omega
    by_cases hn0 : n = 0
    · subst hn0
      have hzc : (Builtin.zeroCells z.cells 0).toList = [] := by simp [Builtin.zeroCells]
      rw [hzc] at hst
      have hle' : sLen ≤ sCap := by omega
      have hw0 : IntKind.i64.wrap 0 = 0 := by decide
      cases base with
      | none =>
        subst hst
        simp [Builtin.append_, run_underlying ht, run_underlying hu, sizeOf, typeInfo, hi, asInt, asIntOf, hw0, hle']
      | some a =>
        simp [Builtin.append_, run_underlying ht, run_underlying hu, sizeOf, typeInfo, hi, asInt, asIntOf, hw0, hle', hst]
    · have hns : ¬ (n * i.size = 0) := Nat.mul_ne_zero hn0 (by omega)
      cases base with
      | none =>
        subst hst
        simp [Builtin.append_, run_underlying ht, run_underlying hu, sizeOf, typeInfo, zeroValue, hi, hz, asInt, asIntOf, hw, hneg, h48i, hns, hle]
      | some a =>
        simp [Builtin.append_, run_underlying ht, run_underlying hu, sizeOf, typeInfo, zeroValue, hi, hz, asInt, asIntOf, hw, hneg, h48i, hns, hle, hst]

/-- Append where there is none. -/
theorem run_app_out (ht : P.underlying t = some (.slice e)) (hu : P.underlying u = some du) (hi : P.info? e = some i) (hz : i.zero = some z) (hsz : 0 < i.size)
    (hx : SrcOK P du i z w x n news) {olds : List Value}
    (ho : ∀ w' : World, w'.heap = w.heap → (Builtin.firstCells i.size sLen (.slice base sLen sCap)).run P w' = .ok olds.toArray w') (hg : sCap < sLen + n) (hfew : fewA (sLen + n) i.bytes = true) (hn0 : n ≠ 0) :
    (Builtin.append_ #[t, u] ty #[.slice base sLen sCap, x]).run P w =
      .ok (.slice (some ⟨w.heap.size, 0, none⟩) (sLen + n) (grownCap w (sLen + n) sCap e)) (w.drew.alloc (.cells (olds.toArray ++ news.toArray ++ Builtin.zeroCells z.cells (grownCap w (sLen + n) sCap e - (sLen + n))) e)) := by
  obtain ⟨f1, f2⟩ := fewA_spec hfew
  have h3 := ho w.drew rfl
  have hn : ¬ (sLen + n ≤ sCap) := by omega
  have h63' : ¬ (9223372036854775807 < ((sLen : Int) + (n : Int))) := by omega
  have h48' : ¬ (281474976710656 < Builtin.nextslicecap (sLen + n) sCap * i.bytes) := by
    have := growslice_fits (bytes := i.bytes) hg f1
    omega
  rcases hx with ⟨hdu, hx⟩ | ⟨kn, kq, rfl, rfl, rfl, hb, h63⟩
  · obtain ⟨h1, _⟩ := hx w rfl
    obtain ⟨_, h2⟩ := hx w.drew rfl
    cases du <;> first | cases hdu | skip
    all_goals
      simp [Builtin.append_, run_underlying ht, run_underlying hu, sizeOf, typeInfo, zeroValue, hi, hz, hn, h63', h48', Question.forced, h1, h2, h3, newRow, grownCap]
      congr 2
      apply Array.ext'
      simp [List.append_assoc]
  · have := Lib.run_append_grow_zeros w t u ty e i z kq kn ht hu hi hz base sLen sCap olds h3 n (by omega) hsz hg (by omega) (by omega) (by
      have := growslice_fits (bytes := i.bytes) hg f1
      omega)
    rw [this]
end app
end
end Go.Fv
