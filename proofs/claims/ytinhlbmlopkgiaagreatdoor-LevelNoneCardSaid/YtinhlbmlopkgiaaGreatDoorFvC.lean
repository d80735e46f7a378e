/-
  A second abstract evaluator of the model's code: steps of the world, told of the heaps. Conditions: none; nothing here speaks of one program.
-/
import Derived.Test.YtinhlbmlopkgiaaGreatDoorFvB
namespace Go.Fv
noncomputable section

theorem plc_rel {ρ : PM} {w : World} {L : Loc} {i : Nat} {c : Ct} (h : CtRel ρ w L i c) (hp : c.plc) : ∃ arr t fr, w.heap[L.B]? = some (.cells arr t fr) ∧ UF fr arr.size ∧ arr.size = L.C ∧ L.o + i < arr.size := by
  cases c with
  | c x =>
    obtain ⟨arr, t, fr, u, h1, h2, h3, h4, _⟩ := h
    exact ⟨arr, t, fr, h1, h2, h3, (Array.getElem?_eq_some_iff.1 h4).1⟩
  | room => exact h
  | map _ _ => exact hp.elim
  | iter _ _ _ _ => exact hp.elim
  | loop _ _ _ _ _ _ _ => exact hp.elim
theorem Kn.of_cell {H : HP} {b i : Nat} {c : Ct} (h : H.cell b i = some c) : H.Kn b := ⟨i, c, h⟩

/-- A store. -/
theorem Sim.write {ρ : PM} {H H' : HP} {w : World} {b off : Nat} {cs : List Cel} {us : List Value} {L : Loc} (hH : HRel ρ H w) (hd : Dom ρ H.n) (h : H.write b off cs = some H') (hL : ρ b = some L) (hcs : All2 (CRel ρ) cs us) :
    Sim ρ H w ρ H' (setRow w L.B (L.o + off) us) := by
  obtain ⟨hn, hcell, hknown⟩ := HP.write_spec h
  obtain ⟨m1, m2, m3, m4⟩ := setRow_misc us w L.B (L.o + off)
  have hlen := hcs.length
  have hcell' : ∀ b' i, H'.cell b' i = none ↔ H.cell b' i = none := by
    intro b' i
    rw [hcell]
    split
    · rename_i hc
      obtain ⟨rfl, h1, h2⟩ := hc
      obtain ⟨c, hc, _⟩ := hknown (i - off) (by omega)
      rw [show off + (i - off) = i by omega] at hc
      rw [hc]
      rw [List.getElem?_eq_getElem (show i - off < cs.length by omega)]
      simp
    · exact Iff.rfl
  have hkn : ∀ b', H'.Kn b' ↔ H.Kn b' := by
    intro b'
    constructor
    · rintro ⟨i, c, hc⟩
      cases hh : H.cell b' i with
      | some c' => exact ⟨i, c', hh⟩
      | none => rw [(hcell' b' i).2 hh] at hc; cases hc
    · rintro ⟨i, c, hc⟩
      cases hh : H'.cell b' i with
      | some c' => exact ⟨i, c', hh⟩
      | none => rw [(hcell' b' i).1 hh] at hc; cases hc
  by_cases h0 : cs.length = 0
  · have hus : us = [] := List.length_eq_zero_iff.1 (by omega)
    subst hus
    have heq : ∀ b' i, H'.cell b' i = H.cell b' i := fun b' i => by rw [hcell, if_neg (by omega)]
    exact {
      le := PM.le.refl ρ
      grow := by omega
      dom := by rw [hn]; exact hd
      rel := ⟨fun b' i c K hc hK => hH.rel b' i c K (by rw [← heq]; exact hc) hK, fun a a' K K' h1 h2 h3 h4 h5 => hH.inj a a' K K' ((hkn a).1 h1) ((hkn a').1 h2) h3 h4 h5⟩
      knc := fun b' i _ hc => (hcell' b' i).2 hc
      frc := fun _ _ _ _ _ _ _ => SameAt.of_heap rfl _
      fr := fun _ _ _ => rfl
      new := fun b' K h1 h2 => by rw [h1] at h2; cases h2
      size := Nat.le_refl _
      os := rfl
      tape := rfl
      output := rfl
      old := fun b' K h1 h2 => by rw [h1] at h2; cases h2 }
  · obtain ⟨c0, hc0, hp0⟩ := hknown 0 (by omega)
    obtain ⟨arr, t, fr, e1, e2, e3, e4⟩ := plc_rel (hH.rel b off c0 L (by simpa using hc0) hL) hp0
    have hbk : H.Kn b := ⟨_, _, hc0⟩
    obtain ⟨arr', f1, f2, f3, f4⟩ := setRow_same us w L.B (L.o + off) e1
    have hin : ∀ i, i < cs.length → L.o + off + i < arr.size := by
      intro i hi
      obtain ⟨c, hc, hp⟩ := hknown i hi
      obtain ⟨arr2, t2, fr2, g1, g2, g3, g4⟩ := plc_rel (hH.rel b (off + i) c L hc hL) hp
      rw [e1] at g1
      cases g1
      omega
    have hrel : ∀ b' i c K, H'.cell b' i = some c → ρ b' = some K → CtRel ρ (setRow w L.B (L.o + off) us) K i c := by
      intro b' i c K hc hK
      by_cases hB : K.B = L.B
      · have hbb : b' = b := hH.inj b' b K L ((hkn b').1 ⟨i, c, hc⟩) hbk hK hL hB
        subst hbb
        rw [hL] at hK
        cases hK
        rw [hcell] at hc
        split at hc
        · rename_i hr
          obtain ⟨_, h1, h2⟩ := hr
          rw [List.getElem?_eq_getElem (show i - off < cs.length by omega)] at hc
          simp only [Option.map_some, Option.some.injEq] at hc
          subst hc
          obtain ⟨u, hu, hcu⟩ := hcs.get (i - off) _ (List.getElem?_eq_getElem (show i - off < cs.length by omega))
          have := f4 (i - off) u hu (hin _ (by omega))
          exact ⟨arr', t, fr, u, f1, by rw [f2]; exact e2, by omega, by rw [← this]; congr 1; omega, hcu⟩
        · rename_i hr
          have hold := hH.rel _ i c L hc hL
          cases c with
          | c x =>
            obtain ⟨arr2, t2, fr2, u2, g1, g2, g3, g4, g5⟩ := hold
            rw [e1] at g1
            cases g1
            exact ⟨arr', t, fr, u2, f1, by rw [f2]; exact e2, by omega, by rw [f3 (L.o + i) (by omega)]; exact g4, g5⟩
          | map es clock =>
            obtain ⟨_, _, a2, g1, _⟩ := hold
            rw [e1] at g1; cases g1
          | iter m s se st =>
            obtain ⟨_, _, a2, g1, _⟩ := hold
            rw [e1] at g1; cases g1
          | loop a1 a2 a3 a4 a5 a6 a7 =>
            obtain ⟨_, _, a2, g1, _⟩ := hold
            rw [e1] at g1; cases g1
          | room =>
            obtain ⟨arr2, t2, fr2, g1, g2, g3, g4⟩ := hold
            rw [e1] at g1
            cases g1
            exact ⟨arr', t, fr, f1, by rw [f2]; exact e2, by omega, by omega⟩
      · have hne : ¬ b' = b := fun hh => by subst hh; rw [hL] at hK; cases hK; exact hB rfl
        rw [hcell, if_neg (fun hh => hne hh.1)] at hc
        exact (hH.rel b' i c K hc hK).of_heap (setRow_other us w L.B (L.o + off) K.B hB)
    exact {
      le := PM.le.refl ρ
      grow := by omega
      dom := by rw [hn]; exact hd
      rel := ⟨hrel, fun a a' K K' h1 h2 h3 h4 h5 => hH.inj a a' K K' ((hkn a).1 h1) ((hkn a').1 h2) h3 h4 h5⟩
      knc := fun b' i _ hc => (hcell' b' i).2 hc
      frc := fun b' K i hk _ hK hc => by
        by_cases hB : K.B = L.B
        · have hbb : b' = b := hH.inj b' b K L hk hbk hK hL hB
          subst hbb
          rw [hL] at hK
          cases hK
          intro a t2 fr2 ha
          rw [e1] at ha
          cases ha
          refine ⟨arr', fr, f1, f2, f3 _ ?_, fun h => h⟩
          rintro ⟨h1, h2⟩
          obtain ⟨c, hc2, _⟩ := hknown (i - off) (by omega)
          rw [show off + (i - off) = i by omega, hc] at hc2
          cases hc2
        · exact SameAt.of_heap (setRow_other us w L.B (L.o + off) K.B hB) _
      fr := fun k hk hno => setRow_other us w L.B (L.o + off) k fun hh => hno b L hbk hL hh.symm
      new := fun b' K h1 h2 => by rw [h1] at h2; cases h2
      size := by rw [m4]; exact Nat.le_refl _
      os := m1
      tape := m2
      output := m3
      old := fun b' K h1 h2 => by rw [h1] at h2; cases h2 }

/-- That store, in the model. -/
theorem HP.write_run {P : Program} {ρ : PM} {H H' : HP} {w : World} {b off : Nat} {cs : List Cel} {us : List Value} {L : Loc} (hH : HRel ρ H w) (h : H.write b off cs = some H') (hL : ρ b = some L) (hcs : All2 (CRel ρ) cs us) :
    (storeCells ⟨L.B, L.o + off, none⟩ us 0).run P w = .ok () (setRow w L.B (L.o + off) us) := by
  obtain ⟨hn, hcell, hknown⟩ := HP.write_spec h
  have hlen := hcs.length
  by_cases h0 : cs.length = 0
  · have hus : us = [] := List.length_eq_zero_iff.1 (by omega)
    subst hus
    rfl
  · obtain ⟨c0, hc0, hp0⟩ := hknown (cs.length - 1) (by omega)
    obtain ⟨arr, t, fr, e1, e2, e3, e4⟩ := plc_rel (hH.rel b _ c0 L hc0 hL) hp0
    refine run_storeCells L.B us w (L.o + off) 0 e1 e2 (by omega) fun u hu => ?_
    obtain ⟨i, hi⟩ := List.getElem?_of_mem hu
    obtain ⟨c, _, hc⟩ := hcs.get' i u hi
    exact hc.oneCell

def upd (ρ : PM) (n : Nat) (L : Loc) : PM := fun b => if b = n then some L else ρ b
theorem upd_le {ρ : PM} {n : Nat} {L : Loc} (h : ρ n = none) : PM.le ρ (upd ρ n L) := by
  intro b x hx
  unfold upd
  by_cases hb : b = n
  · subst hb; rw [h] at hx; cases hx
  · rw [if_neg hb]; exact hx
theorem upd_same (ρ : PM) (n : Nat) (L : Loc) : upd ρ n L n = some L := if_pos rfl
theorem upd_ne {ρ : PM} {n b : Nat} {L : Loc} (h : b ≠ n) : upd ρ n L b = ρ b := if_neg h

theorem heap_alloc (w : World) (o : Obj) (k : Nat) : (w.alloc o).heap[k]? = if k = w.heap.size then some o else w.heap[k]? := by
  show (w.heap.push o)[k]? = _
  rw [Array.getElem?_push]

/-- A new object. -/
theorem Sim.alloc {ρ : PM} {H : HP} {w : World} {o : Obj} {k : Bk} {L : Loc} (hH : HRel ρ H w) (hd : Dom ρ H.n) (hB : L.B = w.heap.size)
    (hk : ∀ i c, Bk.get k i = some c → CtRel (upd ρ H.n L) (w.alloc o) L i c) : Sim ρ H w (upd ρ H.n L) (H.push k) (w.alloc o) := by
  have hfr := hd H.n (Nat.le_refl _)
  have hle : PM.le ρ (upd ρ H.n L) := upd_le hfr
  have holdlt : ∀ b c i K, H.cell b i = some c → ρ b = some K → K.B < w.heap.size := fun b c i K hc hK => (hH.rel b i c K hc hK).lt
  exact {
    le := hle
    grow := Nat.le_succ _
    dom := fun b hb => by
      have h1 : H.n + 1 ≤ b := hb
      rw [upd_ne (by omega)]; exact hd b (by omega)
    rel := by
      refine ⟨fun b i c K hc hK => ?_, fun b b' K K' h1 h2 hK hK' he => ?_⟩
      · rw [HP.cell_push] at hc
        by_cases hb : b = H.n
        · subst hb
          rw [if_pos rfl] at hc
          rw [upd_same] at hK
          cases hK
          exact hk i c hc
        · rw [if_neg hb] at hc
          rw [upd_ne hb] at hK
          have := hH.rel b i c K hc hK
          exact (this.mono hle).of_heap (by rw [heap_alloc, if_neg (by have := this.lt; omega)])
      · obtain ⟨i, c, hc⟩ := h1
        obtain ⟨i', c', hc'⟩ := h2
        rw [HP.cell_push] at hc hc'
        by_cases hb : b = H.n <;> by_cases hb' : b' = H.n
        · rw [hb, hb']
        · subst hb
          rw [upd_same] at hK; cases hK
          rw [if_neg hb'] at hc'
          rw [upd_ne hb'] at hK'
          have := holdlt _ _ _ _ hc' hK'
          omega
        · subst hb'
          rw [upd_same] at hK'; cases hK'
          rw [if_neg hb] at hc
          rw [upd_ne hb] at hK
          have := holdlt _ _ _ _ hc hK
          omega
        · rw [if_neg hb] at hc
          rw [if_neg hb'] at hc'
          rw [upd_ne hb] at hK
          rw [upd_ne hb'] at hK'
          exact hH.inj b b' K K' ⟨i, c, hc⟩ ⟨i', c', hc'⟩ hK hK' he
    knc := fun b i hb hc => by rw [HP.cell_push, if_neg (by omega)]; exact hc
    frc := fun b K i ⟨j, c, hc⟩ _ hK _ => SameAt.of_heap (by rw [heap_alloc, if_neg (by have := holdlt _ _ _ _ hc hK; omega)]) _
    fr := fun k hk _ => by rw [heap_alloc, if_neg (by omega)]
    new := fun b K h1 h2 => by
      by_cases hb : b = H.n
      · subst hb; rw [upd_same] at h2; cases h2; exact .inl (by omega)
      · rw [upd_ne hb, h1] at h2; cases h2
    size := by simp
    os := rfl
    tape := rfl
    output := rfl
    old := fun b K h1 h2 => by
      by_cases hb : b = H.n
      · omega
      · rw [upd_ne hb, h1] at h2; cases h2 }

/-- Cells of a new block. -/
def cellsB (cs : List Cel) : Bk := cs.map fun c => some (.c c)
theorem get_cellsB {cs : List Cel} {i : Nat} {c : Ct} (h : Bk.get (cellsB cs) i = some c) : ∃ x, cs[i]? = some x ∧ c = .c x := by
  unfold Bk.get cellsB at h
  rw [List.getElem?_map] at h
  cases hx : cs[i]? with
  | none => rw [hx] at h; cases h
  | some x => rw [hx] at h; cases h; exact ⟨x, rfl, rfl⟩

/-- A new block of cells, the first of which are known. -/
theorem Sim.allocC {ρ : PM} {H : HP} {w : World} {cs : List Cel} {us : Array Value} {t : TypeId} (hH : HRel ρ H w) (hd : Dom ρ H.n) (hcs : All2 (CRel ρ) cs (us.toList.take cs.length)) :
    Sim ρ H w (upd ρ H.n ⟨w.heap.size, 0, us.size⟩) (H.push (cellsB cs)) (w.alloc (.cells us t)) := by
  refine Sim.alloc hH hd rfl fun i c hc => ?_
  obtain ⟨x, hx, rfl⟩ := get_cellsB hc
  obtain ⟨u, hu, hcu⟩ := hcs.get i x hx
  have hi : i < cs.length := (List.getElem?_eq_some_iff.1 hx).1
  rw [List.getElem?_take_of_lt hi, Array.getElem?_toList] at hu
  exact ⟨us, t, (0, 0), u, by rw [heap_alloc, if_pos rfl], .inl rfl, rfl, by simpa using hu, hcu.mono (upd_le (hd _ (Nat.le_refl _)))⟩

/-- A slice is written on in its own object: its block is out of view, a new one is in its place. -/
theorem Sim.into {ρ : PM} {H : HP} {w : World} {b off : Nat} {old new : List Cel} {us vs : List Value} {L : Loc} {o : Nat} (hH : HRel ρ H w) (hd : Dom ρ H.n) (hL : ρ b = some L) (hk : H.Kn b)
    {arr : Array Value} {t : TypeId} {fr : Nat × Nat} (h1 : w.heap[L.B]? = some (.cells arr t fr)) (h2 : UF fr arr.size) (h3 : arr.size = L.C) (hfit : o + old.length + new.length ≤ L.C)
    (hold : All2 (CRel ρ) old us) (hu : ∀ i u, us[i]? = some u → arr[o + i]? = some u) (hnew : All2 (CRel ρ) new vs) :
    Sim ρ H w (upd ρ H.n ⟨L.B, o, L.C⟩) ((H.drop b).push (cellsB (old ++ new))) (setRow w L.B (o + old.length) vs) := by
  have hfrn := hd H.n (Nat.le_refl _)
  have hle : PM.le ρ (upd ρ H.n ⟨L.B, o, L.C⟩) := upd_le hfrn
  obtain ⟨m1, m2, m3, m4⟩ := setRow_misc vs w L.B (o + old.length)
  obtain ⟨arr', f1, f2, f3, f4⟩ := setRow_same vs w L.B (o + old.length) h1
  have hlo := hold.length
  have hln := hnew.length
  have hbn : b < H.n := hd.lt hL
  have hcell : ∀ b' i, ((H.drop b).push (cellsB (old ++ new))).cell b' i = if b' = H.n then Bk.get (cellsB (old ++ new)) i else if b' = b then none else H.cell b' i := by
    intro b' i
    rw [HP.cell_push, HP.cell_drop]
    rfl
  have hother : ∀ b' K i c, b' ≠ b → H.cell b' i = some c → ρ b' = some K → K.B ≠ L.B := fun b' K i c hne hc hK hB => hne (hH.inj b' b K L ⟨i, c, hc⟩ hk hK hL hB)
  exact {
    le := hle
    grow := Nat.le_succ _
    dom := fun b' hb' => by
      have h1 : H.n + 1 ≤ b' := hb'
      rw [upd_ne (by omega)]; exact hd b' (by omega)
    rel := by
      refine ⟨fun b' i c K hc hK => ?_, fun b' b2 K K' g1 g2 hK hK' he => ?_⟩
      · rw [hcell] at hc
        by_cases hb : b' = H.n
        · subst hb
          rw [if_pos rfl] at hc
          rw [upd_same] at hK
          cases hK
          obtain ⟨x, hx, rfl⟩ := get_cellsB hc
          rcases Nat.lt_or_ge i old.length with hi | hi
          · rw [List.getElem?_append_left hi] at hx
            obtain ⟨u, g1, g2⟩ := hold.get i x hx
            exact ⟨arr', t, fr, u, f1, by rw [f2]; exact h2, by simp only; omega, by show arr'[o + i]? = some u; rw [f3 (o + i) (by omega)]; exact hu i u g1, g2.mono hle⟩
          · rw [List.getElem?_append_right hi] at hx
            obtain ⟨u, g1, g2⟩ := hnew.get _ x hx
            have hlt : i - old.length < new.length := (List.getElem?_eq_some_iff.1 hx).1
            have := f4 _ u g1 (by omega)
            rw [show o + old.length + (i - old.length) = o + i by omega] at this
            exact ⟨arr', t, fr, u, f1, by rw [f2]; exact h2, by simp only; omega, this, g2.mono hle⟩
        · rw [if_neg hb] at hc
          rw [upd_ne hb] at hK
          by_cases hbb : b' = b
          · rw [if_pos hbb] at hc; cases hc
          · rw [if_neg hbb] at hc
            exact ((hH.rel b' i c K hc hK).mono hle).of_heap (setRow_other vs w L.B _ K.B (hother b' K i c hbb hc hK))
      · obtain ⟨i, c, hc⟩ := g1
        obtain ⟨i', c', hc'⟩ := g2
        rw [hcell] at hc hc'
        by_cases hb : b' = H.n <;> by_cases hb2 : b2 = H.n
        · rw [hb, hb2]
        · subst hb
          rw [upd_same] at hK; cases hK
          rw [if_neg hb2] at hc'
          rw [upd_ne hb2] at hK'
          by_cases hbb : b2 = b
          · rw [if_pos hbb] at hc'; cases hc'
          · rw [if_neg hbb] at hc'
            exact absurd he.symm (hother b2 K' i' c' hbb hc' hK')
        · subst hb2
          rw [upd_same] at hK'; cases hK'
          rw [if_neg hb] at hc
          rw [upd_ne hb] at hK
          by_cases hbb : b' = b
          · rw [if_pos hbb] at hc; cases hc
          · rw [if_neg hbb] at hc
            exact absurd he (hother b' K i c hbb hc hK)
        · rw [if_neg hb] at hc
          rw [if_neg hb2] at hc'
          rw [upd_ne hb] at hK
          rw [upd_ne hb2] at hK'
          by_cases hbb : b' = b
          · rw [if_pos hbb] at hc; cases hc
          · rw [if_neg hbb] at hc
            by_cases hbb2 : b2 = b
            · rw [if_pos hbb2] at hc'; cases hc'
            · rw [if_neg hbb2] at hc'
              exact hH.inj b' b2 K K' ⟨i, c, hc⟩ ⟨i', c', hc'⟩ hK hK' he
    knc := fun b' i hb hc => by
      rw [hcell, if_neg (by omega)]
      split
      · rfl
      · exact hc
    frc := fun b' K i ⟨j, c, hc⟩ hk' hK hn => by
      by_cases hbb : b' = b
      · subst hbb
        obtain ⟨j', c', hc'⟩ := hk'
        rw [hcell, if_neg (by omega), if_pos rfl] at hc'
        cases hc'
      · exact SameAt.of_heap (setRow_other vs w L.B _ K.B (hother b' K j c hbb hc hK)) _
    fr := fun k hk' hno => setRow_other vs w L.B _ k fun hh => hno b L hk hL hh.symm
    new := fun b' K g1 g2 => by
      by_cases hb : b' = H.n
      · subst hb; rw [upd_same] at g2; cases g2; exact .inr ⟨b, L, hk, hL, rfl⟩
      · rw [upd_ne hb, g1] at g2; cases g2
    size := by rw [m4]; exact Nat.le_refl _
    os := m1
    tape := m2
    output := m3
    old := fun b' K g1 g2 => by
      by_cases hb : b' = H.n
      · omega
      · rw [upd_ne hb, g1] at g2; cases g2 }

/-- Another thing is put in an object's place. -/
theorem Sim.setObj {ρ : PM} {H : HP} {w w' : World} {b : Nat} {x : Ct} {L : Loc} (hH : HRel ρ H w) (hd : Dom ρ H.n) (hL : ρ b = some L) (hb : ∃ c, H.cell b 0 = some c) (hone : ∀ i, i ≠ 0 → H.cell b i = none)
    (hnc : ∀ arr t fr, w.heap[L.B]? ≠ some (.cells arr t fr)) (hx : CtRel ρ w' L 0 x) (hw : ∀ k, k ≠ L.B → w'.heap[k]? = w.heap[k]?) (hs : w'.heap.size = w.heap.size) (hos : w'.os = w.os) (ht : w'.tape = w.tape) (ho : w'.output = w.output) :
    Sim ρ H w ρ (H.obj b x) w' := by
  have hk : H.Kn b := hb.imp' (fun _ => 0) fun c hc => ⟨c, hc⟩
  have hkn : ∀ b', (H.obj b x).Kn b' → H.Kn b' := by
    rintro b' ⟨i, c, hc⟩
    rw [HP.cell_obj] at hc
    by_cases hbb : b' = b
    · subst hbb; exact hk
    · rw [if_neg hbb] at hc; exact ⟨i, c, hc⟩
  exact {
    le := PM.le.refl ρ
    grow := Nat.le_refl _
    dom := hd
    rel := by
      refine ⟨fun b' i c K hc hK => ?_, fun a a' K K' g1 g2 => hH.inj a a' K K' (hkn a g1) (hkn a' g2)⟩
      rw [HP.cell_obj] at hc
      by_cases hbb : b' = b
      · subst hbb
        rw [if_pos rfl] at hc
        rw [hL] at hK
        cases hK
        split at hc
        · rename_i hi
          subst hi
          cases hc
          exact hx
        · cases hc
      · rw [if_neg hbb] at hc
        refine (hH.rel b' i c K hc hK).of_heap (hw K.B fun hB => ?_)
        exact hbb (hH.inj b' b K L ⟨i, c, hc⟩ hk hK hL hB)
    knc := fun b' i _ hc => by
      rw [HP.cell_obj]
      by_cases hbb : b' = b
      · subst hbb
        rw [if_pos rfl]
        split
        · rename_i hi
          subst hi
          obtain ⟨c, hc'⟩ := hb
          rw [hc] at hc'; cases hc'
        · rfl
      · rw [if_neg hbb]; exact hc
    frc := fun b' K i hk' _ hK hc => by
      by_cases hbb : b' = b
      · subst hbb
        rw [hL] at hK
        cases hK
        intro arr t fr ha
        exact absurd ha (hnc arr t fr)
      · exact SameAt.of_heap (hw K.B fun hB => hbb (hH.inj b' b K L hk' hk hK hL hB)) _
    fr := fun k _ hno => hw k fun hh => hno b L hk hL hh.symm
    new := fun b' K g1 g2 => by rw [g1] at g2; cases g2
    size := by rw [hs]; exact Nat.le_refl _
    os := hos
    tape := ht
    output := ho
    old := fun b' K g1 g2 => by rw [g1] at g2; cases g2 }
end
end Go.Fv
