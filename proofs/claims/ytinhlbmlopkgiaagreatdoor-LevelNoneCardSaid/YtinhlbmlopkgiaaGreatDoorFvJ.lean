/-
  A second abstract evaluator of the model's code: append does in the model what it does here; copy, make, clear. Conditions: none; nothing here speaks of one program.
-/
import Derived.Test.YtinhlbmlopkgiaaGreatDoorFvI
set_option linter.unusedSectionVars false
set_option linter.unusedVariables false
namespace Go.Fv
section
variable {P : Program} [Plain P] {ora : Ora} {E : Operand → Option AV} {H H' : HP} {w : World} {ρ : PM} {ev : Operand → Value} {v : AV}

theorem HP.write_room {b o : Nat} {cs : List Cel} {L : Loc} (hH : HRel ρ H w) (h : H.write b o cs = some H') (hL : ρ b = some L) (hp : 0 < cs.length) : L.o + o + cs.length ≤ L.C := by
  obtain ⟨_, _, h3⟩ := HP.write_spec h
  obtain ⟨c, hc, hpl⟩ := h3 (cs.length - 1) (by omega)
  obtain ⟨arr, t, fr, _, _, e3, e4⟩ := plc_rel (hH.rel b _ c L hc hL) hpl
  omega
theorem dom_drop {b : Nat} (hd : Dom ρ H.n) : Dom ρ (H.drop b).n := hd

theorem all2_take {cs : List Cel} {us : Array Value} {rest : Array Value} {vs : List Value} (h : All2 (CRel ρ) cs vs) (he : us = vs.toArray ++ rest) : All2 (CRel ρ) cs (us.toList.take cs.length) := by
  subst he
  have := h.length
  simp only [Array.toList_append, List.take_append_of_le_length (show cs.length ≤ vs.length by omega)]
  rw [List.take_of_length_le (by omega)]
  exact h

theorem appendA_ok {t u e ty : TypeId} {du : TypeDesc} {i : TypeInfo} {z x : Value} {n : Nat} {cs : List Cel} {s : AV} {us : Value} (ht : P.underlying t = some (.slice e)) (hu : P.underlying u = some du) (hi : P.info? e = some i) (hz : i.zero = some z)
    (hsz : 0 < i.size) (hzs : z.cells.size = i.size) (h : appendA H i.size i.bytes s n cs = some (v, H')) (hs : VRel ρ s us) {news : List Value} (hnr : All2 (CRel ρ) cs news) (hnl : news.length = n * i.size)
    (hx : SrcOK P du i z w x n news) (hH : HRel ρ H w) (hd : Dom ρ H.n) :
    St H H' ∧ ∃ u' w', (Builtin.append_ #[t, u] ty #[us, x]).run P w = .ok u' w' ∧ Post ρ H w v H' u' w' := by
  have hcl := hnr.length
  -- a new object
  have grow : ∀ (base : Option Addr) (sLen sCap : Nat) (olds : List Value) (old : List Cel) (G : HP), (∀ w' : World, w'.heap = w.heap → (Builtin.firstCells i.size sLen (.slice base sLen sCap)).run P w' = .ok olds.toArray w') → All2 (CRel ρ) old olds → olds.length = sLen * i.size → sCap < sLen + n → n ≠ 0 → fewA (sLen + n) i.bytes = true →
      Sim ρ H w ρ G w → G.n = H.n →
      ∃ u' w', (Builtin.append_ #[t, u] ty #[.slice base sLen sCap, x]).run P w = .ok u' w' ∧ Post ρ H w (.one (.su H.n 0 (sLen + n) i.size)) (G.push (cellsB (old ++ cs))) u' w' := by
    intro base sLen sCap olds old G ho hor hol hg hn0 hfew hG hGn
    have hrun := run_app_out (ty := ty) ht hu hi hz hsz hx ho hg hfew hn0
    refine ⟨_, _, hrun, ?_⟩
    obtain ⟨f1, f2⟩ := fewA_spec hfew
    have hdG : Dom ρ G.n := by rw [hGn]; exact hd
    have s2 : Sim ρ G w ρ G w.drew := Sim.same hG.rel hdG rfl rfl rfl rfl
    have hcells : All2 (CRel ρ) (old ++ cs) (olds ++ news) := hor.append hnr
    have s3 := Sim.allocC (t := e) (us := olds.toArray ++ news.toArray ++ Builtin.zeroCells z.cells (grownCap w (sLen + n) sCap e - (sLen + n))) s2.rel hdG (all2_take (vs := olds ++ news) (rest := Builtin.zeroCells z.cells (grownCap w (sLen + n) sCap e - (sLen + n))) hcells (by simp))
    refine ⟨_, ⟨⟨w.heap.size, 0, (olds.toArray ++ news.toArray ++ Builtin.zeroCells z.cells (grownCap w (sLen + n) sCap e - (sLen + n))).size⟩, grownCap w (sLen + n) sCap e, ?_, rfl, cap_ge _ _ _ _, cap_le _ _ _ f2, ?_⟩, hG.trans hd (s2.trans hdG s3)⟩
    · rw [hGn]; exact upd_same _ _ _
    · have hcg := cap_ge (sLen + n) sCap e w
      simp only [Array.size_append, List.size_toArray, size_zeroCells, hzs, hol, hnl]
      rw [← Nat.add_mul, ← Nat.add_mul, show sLen + n + (grownCap w (sLen + n) sCap e - (sLen + n)) = grownCap w (sLen + n) sCap e by omega]
      omega
  -- in the object itself
  have into : ∀ (b off sLen cap : Nat) (L : Loc) (o : Nat) (olds : List Value) (old : List Cel), H.kn1 b = true → ρ b = some L → (∀ w' : World, w'.heap = w.heap → (Builtin.firstCells i.size sLen (.slice (some ⟨L.B, o, none⟩) sLen cap)).run P w' = .ok olds.toArray w') → All2 (CRel ρ) old olds → olds.length = sLen * i.size →
      (∀ (j : Nat) (y : Value), olds[j]? = some y → w.cell? ⟨L.B, o + j, none⟩ = some y) → sLen ≤ cap → cap ≤ 9223372036854775807 → o + cap * i.size ≤ L.C → (cap = 0 ∨ o + cap * i.size = L.C) → n ≠ 0 → fewA (sLen + n) i.bytes = true →
      ∃ u' w', (Builtin.append_ #[t, u] ty #[.slice (some ⟨L.B, o, none⟩) sLen cap, x]).run P w = .ok u' w' ∧ Post ρ H w (.one (.su H.n 0 (sLen + n) i.size)) ((H.drop b).push (cellsB (old ++ cs))) u' w' := by
    intro b off sLen cap L o olds old hk hL ho hor hol hcell h1 h2 h3 h3' hn0 hfew
    by_cases hroom : sLen + n ≤ cap
    · obtain ⟨c0, hc0⟩ := HP.kn1_spec hk
      obtain ⟨arr, t', fr, u0, e1, e2, e3, e4, e5⟩ := hH.rel b 0 (.c c0) L hc0 hL
      have hfit : (sLen + n) * i.size ≤ cap * i.size := Nat.mul_le_mul_right _ hroom
      have hfit' : sLen * i.size + n * i.size ≤ cap * i.size := by rw [← Nat.add_mul]; exact hfit
      have hst : (storeCells (Addr.add ⟨L.B, o, none⟩ (sLen * i.size)) news).run P w = .ok () (setRow w L.B (o + sLen * i.size) news) := by
        rw [add_addr]
        refine run_storeCells L.B news w (o + sLen * i.size) 0 e1 e2 (by omega) fun y hy => ?_
        obtain ⟨j, hj⟩ := List.getElem?_of_mem hy
        obtain ⟨c, _, hc⟩ := hnr.get' j y hj
        exact hc.oneCell
      refine ⟨_, _, run_app_in (ty := ty) (base := some ⟨L.B, o, none⟩) ht hu hi hz hsz hx hroom hst, upd ρ H.n ⟨L.B, o, L.C⟩, ⟨⟨L.B, o, L.C⟩, cap, upd_same _ _ _, rfl, hroom, h2, ?_⟩, ?_⟩
      · simp only
        rcases h3' with h3' | h3'
        · omega
        · exact h3'
      · have hol' := hor.length
        have := Sim.into (b := b) (off := off) (L := L) (o := o) hH hd hL ⟨0, _, hc0⟩ e1 e2 e3 (old := old) (new := cs) (us := olds) (vs := news) (by omega) hor (fun j y hy => by
          have := hcell j y hy
          rw [cell?_of e1] at this
          exact this) hnr
        rw [show old.length = sLen * i.size by omega] at this
        exact this
    · exact grow (some ⟨L.B, o, none⟩) sLen cap olds old (H.drop b) ho hor hol (by omega) (by omega) hfew (Sim.drop hH hd b) rfl
  unfold appendA at h
  split at h
  · -- nil
    obtain ⟨rfl, _⟩ := hs
    split at h
    · rename_i h0
      subst h0
      cases h
      have hnil : news = [] := List.length_eq_zero_iff.1 (by omega)
      refine ⟨St.refl H, _, _, run_app_in (ty := ty) (base := none) (sLen := 0) (sCap := 0) (w1 := w) ht hu hi hz hsz hx (by omega) rfl, ρ, ⟨rfl, rfl⟩, Sim.refl hH hd⟩
    · split at h
      · rename_i h0 hfew
        cases h
        obtain ⟨u', w', h1, h2⟩ := grow none 0 0 [] [] H (fun w' _ => run_firstCells_none _ _ _ _ _) trivial (by simp) (by omega) (by omega) (by rw [Nat.zero_add]; exact hfew) (Sim.refl hH hd) rfl
        rw [Nat.zero_add, List.nil_append] at h2
        exact ⟨St.push _ _, u', w', h1, h2⟩
      · cases h
  · -- a known capacity
    rename_i b off len cap
    obtain ⟨⟨L, hL, rfl⟩, hc1, hc2⟩ := hs
    split at h
    · rename_i hroom
      obtain ⟨H1, hw, hv⟩ := map_some h
      cases hv
      refine ⟨St.write hw, _, _, run_app_in (ty := ty) (base := some ⟨L.B, L.o + off, none⟩) ht hu hi hz hsz hx hroom (w1 := setRow w L.B (L.o + (off + len * i.size)) news) ?_, ρ, ⟨⟨L, hL, rfl⟩, hroom, hc2⟩, Sim.write hH hd hw hL hnr⟩
      simp only
      rw [add_addr, Nat.add_assoc]
      exact HP.write_run hH hw hL hnr
    · rename_i hroom
      split at h
      · rename_i hfew
        split at h
        · rename_i old hr
          cases h
          obtain ⟨us, hl, hrel, hcell⟩ := HP.read_world hr hH hL
          obtain ⟨u', w', h1, h2⟩ := grow (some ⟨L.B, L.o + off, none⟩) len cap us old H (fun w' hw => run_firstCells_some (P := P) w' i.size _ _ _ _ us hl fun j y hj => by
            rw [add_addr]
            have := hcell j y hj
            unfold World.cell? at this ⊢
            rw [hw]
            exact this) hrel hl (by omega) (by omega) hfew (Sim.refl hH hd) rfl
          exact ⟨St.push _ _, u', w', h1, h2⟩
        · cases h
      · cases h
  · -- to the object's end
    rename_i b off len s'
    obtain ⟨L, cap, hL, rfl, hc1, hc2, hc3⟩ := hs
    split at h
    · rename_i h0
      subst h0
      cases h
      have hnil : news = [] := List.length_eq_zero_iff.1 (by omega)
      subst hnil
      refine ⟨St.refl H, _, _, run_app_in (ty := ty) (base := some ⟨L.B, L.o + off, none⟩) ht hu hi hz hsz hx (by omega) (w1 := w) (by rfl), ρ, ⟨L, cap, hL, rfl, hc1, hc2, hc3⟩, Sim.refl hH hd⟩
    · split at h
      · rename_i h0 hb
        obtain ⟨rfl, hfew, hk⟩ := hb
        split at h
        · rename_i H1 hw
          cases h
          have hpos : 0 < cs.length := by rw [hcl, hnl]; exact Nat.mul_pos (by omega) hsz
          have hroom : len + n ≤ cap := by
            have := HP.write_room hH hw hL hpos
            rw [hcl, hnl] at this
            have h4 : (len + n) * i.size ≤ cap * i.size := by rw [Nat.add_mul]; omega
            exact Nat.le_of_mul_le_mul_right h4 hsz
          refine ⟨St.write hw, _, _, run_app_in (ty := ty) (base := some ⟨L.B, L.o + off, none⟩) ht hu hi hz hsz hx hroom (w1 := setRow w L.B (L.o + (off + len * i.size)) news) ?_, ρ, ⟨L, cap, hL, rfl, hroom, hc2, hc3⟩, Sim.write hH hd hw hL hnr⟩
          simp only
          rw [add_addr, Nat.add_assoc]
          exact HP.write_run hH hw hL hnr
        · split at h
          · rename_i old hr
            cases h
            obtain ⟨us, hl, hrel, hcell⟩ := HP.read_world hr hH hL
            obtain ⟨u', w', h1, h2⟩ := into b off len cap L (L.o + off) us old hk hL (fun w' hw => run_firstCells_some (P := P) w' i.size _ _ _ _ us hl fun j y hj => by
              rw [add_addr]
              have := hcell j y hj
              unfold World.cell? at this ⊢
              rw [hw]
              exact this) hrel hl hcell hc1 hc2 (Nat.le_of_eq hc3) (.inr hc3) h0 hfew
            exact ⟨(St.drop H b).trans (St.push _ _), u', w', h1, h2⟩
          · cases h
      · cases h
  · -- an empty one
    rename_i b s'
    obtain ⟨L, off, cap, hL, rfl, hc2, hc3, hc4, hc5⟩ := hs
    split at h
    · rename_i h0
      subst h0
      cases h
      have hnil : news = [] := List.length_eq_zero_iff.1 (by omega)
      subst hnil
      refine ⟨St.refl H, _, _, run_app_in (ty := ty) (base := some ⟨L.B, off, none⟩) ht hu hi hz hsz hx (by omega) (w1 := w) (by simp [storeCells]), ρ, ⟨L, off, cap, hL, rfl, hc2, hc3, hc4, hc5⟩, Sim.refl hH hd⟩
    · split at h
      · rename_i h0 hb
        obtain ⟨rfl, hfew, hk⟩ := hb
        cases h
        obtain ⟨u', w', h1, h2⟩ := into b off 0 cap L off [] [] hk hL (fun w' hw => run_firstCells_some (P := P) w' i.size 0 ⟨L.B, off, none⟩ 0 cap [] (by simp) fun j y hj => by simp at hj) trivial (by simp) (fun j y hy => by simp at hy) (by omega) hc2 hc4 hc5 h0 (by rw [Nat.zero_add]; exact hfew)
        rw [Nat.zero_add, List.nil_append] at h2
        exact ⟨(St.drop H b).trans (St.push _ _), u', w', h1, h2⟩
      · cases h
  · cases h

theorem OpS.of_run {op : Op} {u' : Value} {w' : World} (h : ∀ dst ty pos after guard, (execOp ev ⟨dst, op, ty, pos, after, guard⟩).run P w = .ok (.value u') w') (hp : Post ρ H w v H' u' w') : OpS P ρ ev H w op v H' := by
  intro dst ty pos after guard
  rw [h]
  exact hp

theorem two_args {args : Array Operand} {s x : AV} (h : listE E args.toList = some [s, x]) (hx : ∀ z ∈ args.toList, ∀ a, E z = some a → VRel ρ a (ev z)) : ∃ a b, args = #[a, b] ∧ VRel ρ s (ev a) ∧ VRel ρ x (ev b) := by
  have hus := listE_rel (ρ := ρ) (ev := ev) hx h
  match hargs : args.toList, hus with
  | [a, b], hus =>
    have hargs' : args = #[a, b] := by rw [← Array.toList_inj]; simpa using hargs
    exact ⟨a, b, hargs', hus.1, hus.2.1⟩

theorem oAppend_ok {args : Array Operand} {ats : Array TypeId} (h : oAppend P E H args ats = some (v, H')) (hx : ∀ z ∈ args.toList, ∀ a, E z = some a → VRel ρ a (ev z)) (hH : HRel ρ H w) (hd : Dom ρ H.n) :
    St H H' ∧ OpS P ρ ev H w (.call ⟨.builtin .append, args, ats⟩) v H' := by
  unfold oAppend at h
  simp only [infoT_eq, undT_eq] at h
  split at h
  · rename_i s x t u hl hat
    obtain ⟨a, b, rfl, ha, hb⟩ := two_args hl hx
    have hats : ats = #[t, u] := by rw [← Array.toList_inj]; simpa using hat
    subst hats
    split at h
    · rename_i e du ht hu
      split at h
      · rename_i ag sz i hs hi
        split at h
        · rename_i z hz
          split at h
          · rename_i n cs hsrc
            split at h
            · rename_i hc
              obtain ⟨h0, rfl, hzs⟩ := hc
              obtain ⟨_, us, hrel, hul, hsrc'⟩ := srcU_ok (P := P) (w := w) (i := i) hsrc hb hH rfl rfl h0 hzs
              refine ⟨(appendA_ok (ty := 0) ht hu hi hz h0 hzs h ha hrel hul hsrc' hH hd).1, fun dst ty pos after guard => ?_⟩
              obtain ⟨_, u', w', hrun, hp⟩ := appendA_ok (ty := ty) ht hu hi hz h0 hzs h ha hrel hul hsrc' hH hd
              have : (execOp ev ⟨dst, .call ⟨.builtin .append, #[a, b], #[t, u]⟩, ty, pos, after, guard⟩).run P w = .ok (.value u') w' := by
                simp [execOp, resolve, invoke, builtin, hrun]
              rw [this]
              exact hp
            · cases h
          · cases h
        · cases h
      · cases h
    · cases h
  · cases h
end
end Go.Fv
