/-
  A second abstract evaluator of the model's code: conversions. Conditions: none; nothing here speaks of one program.
-/
import Derived.Test.YtinhlbmlopkgiaaGreatDoorFvK
import Derived.Laws.IdiomStrings
set_option linter.unusedSectionVars false
set_option linter.unusedVariables false
namespace Go.Fv
section
variable {P : Program} [Plain P] {ora : Ora} {E : Operand → Option AV} {H H' : HP} {w : World} {ρ : PM} {ev : Operand → Value} {v : AV}

/-! ### The mark that a string's bytes bear -/
theorem heap_freeze (w : World) (B o k : Nat) : (w.freeze ⟨B, o, none⟩ 1).heap[k]? = if B = k then (w.heap[k]?).map (fun x => match x with | .cells c e (lo, hi) => .cells c e (if lo == hi then (o, o + 1) else (min lo o, max hi (o + 1))) | x => x) else w.heap[k]? := by
  unfold World.freeze
  rw [if_neg (by decide)]
  simp only [Array.getElem?_modify]
  split
  · congr 1
  · rfl

theorem uf_freeze {fr : Nat × Nat} {n : Nat} (h : UF fr n) : UF (if fr.1 == fr.2 then (n, n + 1) else (min fr.1 n, max fr.2 (n + 1))) n := by
  obtain ⟨lo, hi⟩ := fr
  unfold UF at *
  simp only at *
  by_cases he : lo = hi
  · subst he
    simp
  · rcases h with h | h
    · exact absurd h he
    · have : (lo == hi) = false := by simpa using he
      rw [this]
      simp only [Bool.false_eq_true, if_false]
      right
      omega

theorem Sim.freeze (hH : HRel ρ H w) (hd : Dom ρ H.n) {b : Nat} {L : Loc} (hL : ρ b = some L) (hk : H.Kn b) {arr : Array Value} {t : TypeId} {fr : Nat × Nat} (ha : w.heap[L.B]? = some (.cells arr t fr)) (hu : UF fr arr.size) :
    Sim ρ H w ρ H (w.freeze ⟨L.B, arr.size, none⟩ 1) := by
  have hB : (w.freeze ⟨L.B, arr.size, none⟩ 1).heap[L.B]? = some (.cells arr t (if fr.1 == fr.2 then (arr.size, arr.size + 1) else (min fr.1 arr.size, max fr.2 (arr.size + 1)))) := by
    rw [heap_freeze, if_pos rfl, ha]
    rfl
  have ho : ∀ k, k ≠ L.B → (w.freeze ⟨L.B, arr.size, none⟩ 1).heap[k]? = w.heap[k]? := fun k hk => by rw [heap_freeze, if_neg (Ne.symm hk)]
  exact {
    le := PM.le.refl ρ
    grow := Nat.le_refl _
    dom := hd
    rel := by
      refine ⟨fun b' i c K hc hK => ?_, hH.inj⟩
      have h0 := hH.rel b' i c K hc hK
      by_cases hBK : K.B = L.B
      · cases c with
        | c x =>
          obtain ⟨arr', t', fr', u, h1, h2, h3, h4, h5⟩ := h0
          rw [hBK, ha] at h1
          cases h1
          exact ⟨arr, t, _, u, by rw [hBK]; exact hB, uf_freeze hu, h3, h4, h5⟩
        | map es ck =>
          obtain ⟨_, _, m, h1, _⟩ := h0
          rw [hBK, ha] at h1
          cases h1
        | iter m a1 a2 a3 =>
          obtain ⟨_, _, m, h1, _⟩ := h0
          rw [hBK, ha] at h1
          cases h1
        | loop a1 a2 a3 a4 a5 a6 a7 =>
          obtain ⟨_, _, m, h1, _⟩ := h0
          rw [hBK, ha] at h1
          cases h1
        | room =>
          obtain ⟨arr', t', fr', h1, h2, h3, h4⟩ := h0
          rw [hBK, ha] at h1
          cases h1
          exact ⟨arr, t, _, by rw [hBK]; exact hB, uf_freeze hu, h3, h4⟩
      · exact h0.of_heap (ho _ hBK)
    knc := fun _ _ _ h => h
    frc := fun b' K i _ _ hK _ => by
      by_cases hBK : K.B = L.B
      · intro arr' t' fr' h1
        rw [hBK, ha] at h1
        cases h1
        exact ⟨arr, _, by rw [hBK]; exact hB, rfl, rfl, fun h => uf_freeze h⟩
      · exact SameAt.of_heap (ho _ hBK) _
    fr := fun k _ hno => ho k fun h => hno b L hk hL h.symm
    new := fun b L h1 h2 => by rw [h1] at h2; cases h2
    size := by unfold World.freeze; rw [if_neg (by decide)]; simp
    os := by unfold World.freeze; rw [if_neg (by decide)]
    tape := by unfold World.freeze; rw [if_neg (by decide)]
    output := by unfold World.freeze; rw [if_neg (by decide)]
    old := fun b L h1 h2 => by rw [h1] at h2; cases h2 }

/-! ### The conversions -/
def intsOf : List Cel → Option (List Int)
  | [] => some []
  | .lit (.int .u8 n) :: cs => match intsOf cs with
    | some ns => some (n :: ns)
    | none => none
  | _ => none
def strOf (ns : List Int) : ByteArray := ns.foldl (fun r n => r.push (UInt8.ofNat n.toNat)) ByteArray.empty
noncomputable def toStr (H : HP) (v : AV) : Option ByteArray :=
  match v with
  | .one (.lit (.slice none _ _)) => some ByteArray.empty
  | v => match baseA v with
    | some (b, off, len) => match H.read b off len with
      | some cs => match intsOf cs with
        | some ns => match Nat.ble (strOf ns).size 9223372036854775807 with
          | true => some (strOf ns)
          | false => none
        | none => none
      | none => none
    | none => none
noncomputable def oConvert (P : Program) [Plain P] (E : Operand → Option AV) (H : HP) (t u : TypeId) (x : Operand) : R :=
  match undT P t, undT P u, E x with
  | some _, some (.int k), some (.one (.lit (.int _ n))) => some (.one (.lit (.int k (k.wrap n))), H)
  | some _, some .string, some (.one (.lit (.string s))) => some (.one (.lit (.string s)), H)
  | some (.slice e), some .string, some v => match undT P e with
    | some (.int .u8) => (toStr H v).map fun s => (.one (.lit (.string s)), H)
    | _ => none
  | some .string, some (.slice e), some (.one (.lit (.string s))) => match undT P e with
    | some (.int .u8) => some (.one (.su H.n 0 s.size 1), H.push (cellsB (bytesC s)))
    | _ => none
  | some (.slice _), some (.slice e), some v => match undT P e, Nat.beq t u, baseA v with
    | some (.int .u8), true, some (b, _, _) => match H.kn1 b with
      | true => some (v, H)
      | false => none
    | _, _, _ => none
  | _, _, _ => none

theorem intsOf_rel : ∀ {cs : List Cel} {ns : List Int} {us : List Value}, intsOf cs = some ns → All2 (CRel ρ) cs us → us = ns.map (Value.int .u8)
  | [], ns, us, h, hr => by
    cases h
    cases us with
    | nil => rfl
    | cons u us => exact hr.elim
  | .lit (.int .u8 n) :: cs, ns, us, h, hr => by
    simp only [intsOf] at h
    split at h
    · rename_i ns' hns
      cases h
      cases us with
      | nil => exact hr.elim
      | cons u us =>
        obtain ⟨⟨rfl, _⟩, h2⟩ := hr
        rw [intsOf_rel hns h2]
        rfl
    · cases h

theorem toStr_ok {x : AV} {u : Value} {s : ByteArray} (h : toStr H x = some s) (hx : VRel ρ x u) (hH : HRel ρ H w) : litOK (.string s) = true ∧ ∃ a l c, u = .slice a l c ∧ (Conv.bytesToString u).run P w = .ok (.string s) w := by
  unfold toStr at h
  split at h
  · cases h
    obtain ⟨rfl, _⟩ := hx
    exact ⟨by decide, _, _, _, rfl, rfl⟩
  · split at h
    · rename_i b off len hb
      split at h
      · rename_i cs hcs
        split at h
        · rename_i ns hns
          split at h
          · rename_i hble
            cases h
            obtain ⟨L, cap, hL, rfl, h1, h2⟩ := baseA_rel hb hx
            obtain ⟨us, hl, hrel, hcell⟩ := HP.read_world hcs hH hL
            have hus := intsOf_rel hns hrel
            refine ⟨by simp only [litOK, decide_eq_true_eq]; exact Nat.le_of_ble_eq_true hble, _, _, _, rfl, run_bytesToString w _ _ _ ns ?_⟩
            rw [← hus, ← hl]
            refine run_loadCells_list w _ us fun j v hj => ?_
            rw [add_addr]
            exact hcell j v hj
          · cases h
        · cases h
      · cases h
    · cases h

theorem oConvert_ok {t u : TypeId} {x : Operand} (h : oConvert P E H t u x = some (v, H')) (hx : ∀ a, E x = some a → VRel ρ a (ev x)) (hH : HRel ρ H w) (hd : Dom ρ H.n) :
    St H H' ∧ OpS P ρ ev H w (.convert t u x) v H' := by
  unfold oConvert at h
  simp only [undT_eq] at h
  split at h
  · rename_i d k k' n ht hu hex
    cases h
    obtain ⟨he, hl⟩ := hx _ hex
    refine ⟨St.refl H, OpS.val hH hd (lit_rel (wrap_ok k n)) fun dst ty pos after guard => ?_⟩
    have : (convert t u (.int k' n)).run P w = .ok (.int k (k.wrap n)) w := by
      simp only [convert, Sem.run_bind, run_underlying ht, run_underlying hu, Result.andThen_ok]
      rfl
    simp [execOp, he, this]
  · rename_i d s ht hu hex
    cases h
    obtain ⟨he, hl⟩ := hx _ hex
    refine ⟨St.refl H, OpS.val hH hd (lit_rel hl) fun dst ty pos after guard => ?_⟩
    have : (convert t u (.string s)).run P w = .ok (.string s) w := by
      simp only [convert, Sem.run_bind, run_underlying ht, run_underlying hu, Result.andThen_ok]
      rfl
    simp [execOp, he, this]
  · rename_i e v0 _ ht hu hex
    split at h
    · rename_i he
      obtain ⟨s, hs, hv⟩ := map_some h
      cases hv
      obtain ⟨hl, a, l, c, hev, hrun⟩ := toStr_ok (P := P) hs (hx _ hex) hH
      refine ⟨St.refl H, OpS.val hH hd (lit_rel hl) fun dst ty pos after guard => ?_⟩
      have := run_convert_bytes_string (P := P) w t u e a l c ht he hu
      rw [← hev, hrun] at this
      simp [execOp, this]
    · cases h
  · rename_i e s ht hu hex
    split at h
    · rename_i he
      cases h
      obtain ⟨hev, hl⟩ := hx _ hex
      simp only [litOK, decide_eq_true_eq] at hl
      refine ⟨St.push _ _, fun dst ty pos after guard => ?_⟩
      have hrun := run_bytes_of_string (P := P) w t u e s ht hu he
      have hc1 := cap_ge s.size 0 e w
      have hc2 := cap_le (need := s.size) 0 e w hl
      have hsz : (bytesRow s (grownCap w s.size 0 e)).size = grownCap w s.size 0 e := by
        have : s.data.size = s.size := rfl
        simp only [bytesRow, Array.size_append, Array.size_map, Array.size_replicate, this]
        omega
      have s2 : Sim ρ H w ρ H w.drew := Sim.same hH hd rfl rfl rfl rfl
      have s3 := Sim.alloc (H := H) (ρ := ρ) (w := w.drew) (o := .cells (bytesRow s (grownCap w s.size 0 e)) e ((bytesRow s (grownCap w s.size 0 e)).size, (bytesRow s (grownCap w s.size 0 e)).size + 1)) (k := cellsB (bytesC s)) (L := ⟨w.heap.size, 0, grownCap w s.size 0 e⟩) s2.rel hd rfl fun i c hc => by
        obtain ⟨y, hy, rfl⟩ := get_cellsB hc
        obtain ⟨b, hb, hr⟩ := (bytesC_rel (ρ := upd ρ H.n ⟨w.heap.size, 0, grownCap w s.size 0 e⟩) s).get i y hy
        refine ⟨_, e, _, b, (by rw [heap_alloc]; exact if_pos rfl), .inr (Nat.le_refl _), hsz, ?_, hr⟩
        simp only [Nat.zero_add, bytesRow]
        have hi : i < s.data.size := by
          have := (List.getElem?_eq_some_iff.1 hb).1
          simpa using this
        rw [Array.getElem?_append_left (by simpa using hi)]
        rw [← hb]
        simp
      have : (execOp ev ⟨dst, .convert t u x, ty, pos, after, guard⟩).run P w = .ok (.value (.slice (some ⟨w.heap.size, 0, none⟩) s.size (grownCap w s.size 0 e))) (w.drew.alloc (.cells (bytesRow s (grownCap w s.size 0 e)) e ((bytesRow s (grownCap w s.size 0 e)).size, (bytesRow s (grownCap w s.size 0 e)).size + 1))) := by
        simp [execOp, hev, hrun]
      rw [this]
      exact ⟨_, ⟨⟨w.heap.size, 0, grownCap w s.size 0 e⟩, grownCap w s.size 0 e, upd_same _ _ _, rfl, hc1, hc2, by simp⟩, s2.trans hd s3⟩
    · cases h
  · rename_i e0 e v0 _ ht hu hex
    split at h
    · rename_i b off len he htu hb
      have htu' := Nat.eq_of_beq_eq_true htu
      subst htu'
      split at h
      · rename_i hkn
        cases h
        obtain ⟨c0, hc0⟩ := HP.kn1_spec hkn
        obtain ⟨L, cap, hL, hev, h1, h2⟩ := baseA_rel hb (hx _ hex)
        obtain ⟨arr, t', fr, u0, e1, e2, e3, e4, e5⟩ := hH.rel b 0 (.c c0) L hc0 hL
        refine ⟨St.refl H, OpS.of_run (w' := w.freeze ⟨L.B, arr.size, none⟩ 1) (u' := ev x) (fun dst ty pos after guard => ?_) ⟨ρ, hx _ hex, Sim.freeze hH hd hL ⟨0, _, hc0⟩ e1 e2⟩⟩
        have hsh : w.shape? L.B = some (t', arr.size) := by unfold World.shape?; rw [e1]
        rw [hu] at ht
        cases ht
        simp [execOp, hev, convert, run_underlying hu, run_underlying he, markStringish, hsh]
      · cases h
    · cases h
  · cases h
end
end Go.Fv
