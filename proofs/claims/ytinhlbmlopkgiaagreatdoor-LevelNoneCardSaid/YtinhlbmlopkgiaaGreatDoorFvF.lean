/-
  A second abstract evaluator of the model's code: the operations do in the model what they do here. Conditions: none; nothing here speaks of one program.
-/
import Derived.Test.YtinhlbmlopkgiaaGreatDoorFvE
set_option linter.unusedSectionVars false
set_option linter.unusedVariables false
namespace Go.Fv

theorem run_v {P : Program} {w : World} {s : Sem Value} {u : Value} {w' : World} (h : s.run P w = .ok u w') : (do pure (.value (← s)) : Sem Next).run P w = .ok (.value u) w' := by
  rw [Sem.run_bind, h]; rfl
theorem run_u {P : Program} {w : World} {s : Sem Unit} {w' : World} (h : s.run P w = .ok () w') : (do s; pure .skip : Sem Next).run P w = .ok .skip w' := by
  rw [Sem.run_bind, h]; rfl
theorem map_some {α β : Type} {f : α → β} {x : Option α} {y : β} (h : x.map f = some y) : ∃ a, x = some a ∧ f a = y := by
  cases x with
  | none => cases h
  | some a => cases h; exact ⟨a, rfl, rfl⟩
theorem bind_some' {α β : Type} {f : α → Option β} {x : Option α} {y : β} (h : x.bind f = some y) : ∃ a, x = some a ∧ f a = some y := by
  cases x with
  | none => cases h
  | some a => exact ⟨a, rfl, h⟩
theorem allSome_one {α β : Type} {f : α → Option β} {xs : List α} {y : β} (h : allSome (xs.map f) = some [y]) : ∃ x, xs = [x] ∧ f x = some y := by
  match xs, h with
  | [], h => cases h
  | [x], h =>
    simp only [List.map_cons, List.map_nil, allSome] at h
    cases hx : f x with
    | none => rw [hx] at h; cases h
    | some b => rw [hx] at h; simp [allSome] at h; exact ⟨x, rfl, by rw [hx, h]⟩
  | x :: x' :: xs, h =>
    have := (allSome_get h).1
    simp at this
theorem lit_rel {ρ : PM} {v : Value} (h : litOK v = true) : VRel ρ (.one (.lit v)) v := ⟨rfl, h⟩

section
variable {P : Program} [Plain P] {ora : Ora} {E : Operand → Option AV} {H H' : HP} {w : World} {ρ : PM} {ev : Operand → Value} {v : AV}

theorem listE_rel : ∀ {xs : List Operand} {vs : List AV}, (∀ x ∈ xs, ∀ v, E x = some v → VRel ρ v (ev x)) → listE E xs = some vs → All2 (VRel ρ) vs (xs.map ev)
  | [], vs, _, h => by cases h; trivial
  | x :: xs, vs, hx, h => by
    simp only [listE, List.map_cons, allSome] at h
    cases h1 : E x with
    | none => rw [h1] at h; cases h
    | some a =>
      rw [h1] at h
      simp only [allSome] at h
      obtain ⟨r, hr, hv⟩ := map_some h
      subst hv
      exact ⟨hx x (List.mem_cons_self ..) a h1, listE_rel (fun y hy => hx y (List.mem_cons_of_mem _ hy)) hr⟩
theorem partsE_rel : ∀ {xs : List (Nat × Operand)} {vs : List (Nat × AV)}, (∀ p ∈ xs, ∀ v, E p.2 = some v → VRel ρ v (ev p.2)) → partsE E xs = some vs → PartsRel ρ vs (xs.map fun p => (p.1, ev p.2))
  | [], vs, _, h => by cases h; trivial
  | (i, x) :: xs, vs, hx, h => by
    simp only [partsE] at h
    cases h1 : E x with
    | none => rw [h1] at h; cases h
    | some a =>
      cases h2 : partsE E xs with
      | none => rw [h1, h2] at h; cases h
      | some r =>
        rw [h1, h2] at h
        cases h
        exact ⟨⟨rfl, hx (i, x) (List.mem_cons_self ..) a h1⟩, partsE_rel (fun y hy => hx y (List.mem_cons_of_mem _ hy)) h2⟩

/-- What is said of one operation. -/
def OpS (P : Program) (ρ : PM) (ev : Operand → Value) (H : HP) (w : World) (op : Op) (v : AV) (H' : HP) : Prop :=
  ∀ (dst : Option Tmp) (ty : TypeId) (pos : String) (after : Array Edge) (guard : Option (Nat × Bool)), GivesR P (Post ρ H w v H') ((execOp ev ⟨dst, op, ty, pos, after, guard⟩).run P w)

theorem OpS.val {op : Op} {u : Value} (hH : HRel ρ H w) (hd : Dom ρ H.n) (hv : VRel ρ v u) (h : ∀ dst ty pos after guard, (execOp ev ⟨dst, op, ty, pos, after, guard⟩).run P w = .ok (.value u) w) : OpS P ρ ev H w op v H := by
  intro dst ty pos after guard
  rw [h]
  exact ⟨ρ, hv, Sim.refl hH hd⟩

theorem oMove_ok {x : Operand} (h : oMove E H x = some (v, H')) (hx : ∀ a, E x = some a → VRel ρ a (ev x)) (hH : HRel ρ H w) (hd : Dom ρ H.n) : St H H' ∧ OpS P ρ ev H w (.move x) v H' ∧ OpS P ρ ev H w (.assign x) v H' := by
  obtain ⟨a, ha, hv⟩ := map_some h
  cases hv
  exact ⟨St.refl H, OpS.val hH hd (hx _ ha) fun _ _ _ _ _ => rfl, OpS.val hH hd (hx _ ha) fun _ _ _ _ _ => rfl⟩

theorem oPick_ok {c a b : Operand} (h : oPick E H c a b = some (v, H')) (hx : ∀ x, x = c ∨ x = a ∨ x = b → ∀ r, E x = some r → VRel ρ r (ev x)) (hH : HRel ρ H w) (hd : Dom ρ H.n) : St H H' ∧ OpS P ρ ev H w (.pick c a b) v H' := by
  unfold oPick at h
  split at h
  · rename_i t ht
    obtain ⟨a', ha, hv⟩ := map_some h
    cases hv
    obtain ⟨hc, _⟩ := hx c (.inl rfl) _ ht
    refine ⟨St.refl H, OpS.val hH hd (u := if t then ev a else ev b) ?_ fun dst ty pos after guard => ?_⟩
    · cases t
      · exact hx b (.inr (.inr rfl)) _ ha
      · exact hx a (.inr (.inl rfl)) _ ha
    · simp only [execOp, hc, asBool]
      cases t <;> rfl
  · cases h

theorem oAlloc_ok {t : TypeId} (h : oAlloc P H t = some (v, H')) (hH : HRel ρ H w) (hd : Dom ρ H.n) : St H H' ∧ OpS P ρ ev H w (.alloc t) v H' := by
  unfold oAlloc at h
  rw [infoT_eq] at h
  split at h
  · rename_i i hi
    split at h
    · rename_i z hz
      obtain ⟨cs, hcs, hv⟩ := map_some h
      cases hv
      refine ⟨St.push _ _, fun dst ty pos after guard => ?_⟩
      have hrun : (execOp ev ⟨dst, .alloc t, ty, pos, after, guard⟩).run P w = .ok (.value (.pointer (some ⟨w.heap.size, 0, none⟩))) (w.alloc (.cells z.cells t)) := by
        refine run_v ?_
        simp only [Instr.alloc, Sem.run_bind, run_zeroValue hi hz, Result.andThen_ok, newVar, newRow, run_newObj, Sem.run_pure, World.alloc_eq]
      rw [hrun]
      have hr := lits_rel (ρ := ρ) hcs
      refine ⟨_, ⟨_, upd_same _ _ _, rfl⟩, Sim.allocC hH hd ?_⟩
      rw [List.take_of_length_le (by have := hr.length; omega)]
      exact hr
    · cases h
  · cases h

theorem oBox_ok {t : TypeId} {x : Operand} (h : oBox E H x = some (v, H')) (hx : ∀ a, E x = some a → VRel ρ a (ev x)) (hH : HRel ρ H w) (hd : Dom ρ H.n) : St H H' ∧ OpS P ρ ev H w (.box t x) v H' := by
  obtain ⟨cs, hcs, hv⟩ := map_some h
  cases hv
  obtain ⟨a, ha, hc⟩ := bind_some' hcs
  refine ⟨St.push _ _, fun dst ty pos after guard => ?_⟩
  have hrun : (execOp ev ⟨dst, .box t x, ty, pos, after, guard⟩).run P w = .ok (.value (.pointer (some ⟨w.heap.size, 0, none⟩))) (w.alloc (.cells (ev x).cells t)) := by
    refine run_v ?_
    simp only [Instr.box, newVar, newRow, Sem.run_bind, run_newObj, Result.andThen_ok, Sem.run_pure, World.alloc_eq]
  rw [hrun]
  have hr := (hx _ ha).cels hc
  refine ⟨_, ⟨_, upd_same _ _ _, rfl⟩, Sim.allocC hH hd ?_⟩
  rw [List.take_of_length_le (by have := hr.length; omega)]
  exact hr

theorem oBuild_ok {t : TypeId} {ps : Array (Nat × Operand)} (h : oBuild P E H t ps = some (v, H')) (hx : ∀ p ∈ ps.toList, ∀ a, E p.2 = some a → VRel ρ a (ev p.2)) (hH : HRel ρ H w) (hd : Dom ρ H.n) : St H H' ∧ OpS P ρ ev H w (.build t ps) v H' := by
  obtain ⟨a, ha, hv⟩ := map_some h
  cases hv
  obtain ⟨vs, hvs, hb⟩ := bind_some' ha
  have hps := partsE_rel (ρ := ρ) (ev := ev) hx hvs
  obtain ⟨u, hu, hr⟩ := buildA_ok (w := w) (qs := (ps.map fun (i, x) => (i, ev x))) hb (by simpa using hps)
  exact ⟨St.refl H, OpS.val hH hd hr fun dst ty pos after guard => run_v hu⟩

theorem oBuildSlice_ok {t : TypeId} {len : Nat} {ps : Array (Nat × Operand)} (h : oBuildSlice P E H t len ps = some (v, H')) (hx : ∀ p ∈ ps.toList, ∀ a, E p.2 = some a → VRel ρ a (ev p.2)) (hH : HRel ρ H w) (hd : Dom ρ H.n) :
    St H H' ∧ OpS P ρ ev H w (.buildSlice t len ps) v H' := by
  obtain ⟨a, ha, hv⟩ := map_some h
  cases hv
  obtain ⟨vs, hvs, hb⟩ := bind_some' ha
  have hps := partsE_rel (ρ := ρ) (ev := ev) hx hvs
  obtain ⟨⟨e, us, hu, hr⟩, hlen⟩ := buildSliceA_ok (w := w) (qs := (ps.map fun (i, x) => (i, ev x))) hb (by simpa using hps)
  refine ⟨St.push _ _, fun dst ty pos after guard => ?_⟩
  have hrun : (execOp ev ⟨dst, .buildSlice t len ps, ty, pos, after, guard⟩).run P w = .ok (.value (.slice (some ⟨w.heap.size, 0, none⟩) len len)) (w.alloc (.cells us e)) := run_v hu
  rw [hrun]
  refine ⟨_, ⟨⟨_, upd_same _ _ _, rfl⟩, Nat.le_refl _, hlen⟩, Sim.allocC hH hd ?_⟩
  rw [List.take_of_length_le (by have := hr.length; omega)]
  exact hr

theorem oLoad_ok {t : TypeId} {x : Operand} (h : oLoad P E H t x = some (v, H')) (hx : ∀ a, E x = some a → VRel ρ a (ev x)) (hH : HRel ρ H w) (hd : Dom ρ H.n) : St H H' ∧ OpS P ρ ev H w (.load t x) v H' := by
  unfold oLoad at h
  split at h
  · rename_i b off ag n hx' hs
    obtain ⟨a, ha, hv⟩ := map_some h
    cases hv
    obtain ⟨cs, hcs, hm⟩ := bind_some' ha
    obtain ⟨L, hL, hev⟩ := hx _ hx'
    obtain ⟨us, hl, hrel, hcell⟩ := HP.read_world hcs hH hL
    refine ⟨St.refl H, OpS.val hH hd (mkA_rel hm hrel) fun dst ty pos after guard => run_v ?_⟩
    simp only [Instr.loadAt, hev, Instr.sureAddr, Sem.run_bind, Sem.run_pure, Result.andThen_ok]
    exact run_loadVar hs hl hcell
  · cases h

theorem oStore_ok {t : TypeId} {x y : Operand} (h : oStore P E H t x y = some (v, H')) (hx : ∀ z, z = x ∨ z = y → ∀ a, E z = some a → VRel ρ a (ev z)) (hH : HRel ρ H w) (hd : Dom ρ H.n) : St H H' ∧ OpS P ρ ev H w (.store t x y) v H' := by
  unfold oStore at h
  split at h
  · rename_i b off cs ag n hx' hc hs
    split at h
    · rename_i hl
      obtain ⟨H1, hw, hv⟩ := map_some h
      cases hv
      obtain ⟨a, ha, hcs⟩ := bind_some' hc
      have hr := (hx y (.inr rfl) _ ha).cels hcs
      obtain ⟨L, hL, hev⟩ := hx x (.inl rfl) _ hx'
      refine ⟨St.write hw, fun dst ty pos after guard => ?_⟩
      have hsz : (ev y).cells.size = n := by
        have := hr.length
        simp only [Array.length_toList] at this
        omega
      have hrun : (execOp ev ⟨dst, .store t x y, ty, pos, after, guard⟩).run P w = .ok .skip (setRow w L.B (L.o + off) (ev y).cells.toList) := by
        refine run_u ?_
        simp only [Instr.storeAt, hev, Instr.sureAddr, Sem.run_bind, Sem.run_pure, Result.andThen_ok, storeVar, run_sizeOf hs, hsz, ne_eq, not_true_eq_false, if_false]
        exact HP.write_run hH hw hL hr
      rw [hrun]
      exact ⟨ρ, undef_rel ρ, Sim.write hH hd hw hL hr⟩
    · cases h
  · cases h

theorem oNil_ok {x : Operand} (h : oNil E H x = some (v, H')) (hx : ∀ a, E x = some a → VRel ρ a (ev x)) (hH : HRel ρ H w) (hd : Dom ρ H.n) : St H H' ∧ OpS P ρ ev H w (.nilCheck x) v H' := by
  unfold oNil at h
  split at h
  · rename_i b off hx'
    cases h
    obtain ⟨L, hL, hev⟩ := hx _ hx'
    refine ⟨St.refl H, OpS.val hH hd (u := .pointer (some ⟨L.B, L.o + off, none⟩)) ⟨L, hL, rfl⟩ fun dst ty pos after guard => ?_⟩
    simp only [execOp, hev]
    rfl
  · cases h

theorem oUn_ok {op : UnOp} {t : TypeId} {x : Operand} (h : oUn E H op x = some (v, H')) (hx : ∀ a, E x = some a → VRel ρ a (ev x)) (hH : HRel ρ H w) (hd : Dom ρ H.n) : St H H' ∧ OpS P ρ ev H w (.unOp op t x) v H' := by
  unfold oUn at h
  split at h
  · rename_i b hx'
    cases h
    obtain ⟨hev, _⟩ := hx _ hx'
    refine ⟨St.refl H, OpS.val hH hd (lit_rel rfl) fun dst ty pos after guard => run_v ?_⟩
    simp only [hev, Op.unary, Sem.run_pure]
  · rename_i k n hx'
    cases h
    obtain ⟨hev, _⟩ := hx _ hx'
    refine ⟨St.refl H, OpS.val hH hd (lit_rel (wrap_ok _ _)) fun dst ty pos after guard => run_v ?_⟩
    simp only [hev, Op.unary, Op.intArith, Sem.run_pure]
  · cases h

theorem oFieldAddr_ok {t : TypeId} {x : Operand} {f : Nat} (h : oFieldAddr P E H t x f = some (v, H')) (hx : ∀ a, E x = some a → VRel ρ a (ev x)) (hH : HRel ρ H w) (hd : Dom ρ H.n) : St H H' ∧ OpS P ρ ev H w (.fieldAddr t x f) v H' := by
  unfold oFieldAddr at h
  rw [undT_eq] at h
  split at h
  · rename_i fs b off hu hx'
    split at h
    · rename_i fl hf
      split at h
      · rename_i ag n hs
        split at h
        · cases h
        · rename_i hn
          cases h
          obtain ⟨L, hL, hev⟩ := hx _ hx'
          refine ⟨St.refl H, OpS.val hH hd (u := .pointer (some ⟨L.B, L.o + (off + fl.offset), none⟩)) ⟨L, hL, rfl⟩ fun dst ty pos after guard => run_v ?_⟩
          simp only [Instr.fieldAt, Sem.run_bind, run_underlying hu, Result.andThen_ok, hf, hev, Instr.sureAddr, Sem.run_pure, fieldPlace, run_sizeOf hs, if_neg hn, Sem.run_ite, add_addr, Nat.add_assoc]
      · cases h
    · cases h
  · cases h

theorem oField_ok {t : TypeId} {x : Operand} {f : Nat} (h : oField P E H t x f = some (v, H')) (hx : ∀ a, E x = some a → VRel ρ a (ev x)) (hH : HRel ρ H w) (hd : Dom ρ H.n) : St H H' ∧ OpS P ρ ev H w (.field t x f) v H' := by
  unfold oField at h
  rw [undT_eq] at h
  split at h
  · rename_i fs xs hu hx'
    split at h
    · rename_i fl hf
      split at h
      · rename_i ag n hs
        split at h
        · rename_i hle
          obtain ⟨a, ha, hv⟩ := map_some h
          cases hv
          obtain ⟨us, hev, hrel⟩ := hx _ hx'
          have hl := hrel.length
          have hp := run_part (P := P) (w := w) (us := us.toList) hs (off := fl.offset) (by omega)
          simp only [Array.toArray_toList] at hp
          refine ⟨St.refl H, OpS.val hH hd (mkA_rel ha (hrel.cut _ _)) fun dst ty pos after guard => run_v ?_⟩
          simp only [Instr.field, Sem.run_bind, run_underlying hu, Result.andThen_ok, hf, hev, asAgg, Sem.run_pure, hp]
        · cases h
      · cases h
    · cases h
  · cases h

theorem baseA_rel {a : AV} {b off len : Nat} {u : Value} (h : baseA a = some (b, off, len)) (hr : VRel ρ a u) : ∃ L cap, ρ b = some L ∧ u = .slice (some ⟨L.B, L.o + off, none⟩) len cap ∧ len ≤ cap ∧ cap ≤ 9223372036854775807 := by
  unfold baseA at h
  split at h
  · cases h
    obtain ⟨⟨L, h1, h2⟩, h3, h4⟩ := hr
    exact ⟨L, _, h1, h2, h3, h4⟩
  · cases h
    obtain ⟨L, cap, h1, h2, h3, h4, _⟩ := hr
    exact ⟨L, cap, h1, h2, h3, h4⟩
  · cases h

theorem oIndexAddr_ok {t : TypeId} {x i : Operand} (h : oIndexAddr P E H t x i = some (v, H')) (hx : ∀ z, z = x ∨ z = i → ∀ a, E z = some a → VRel ρ a (ev z)) (hH : HRel ρ H w) (hd : Dom ρ H.n) : St H H' ∧ OpS P ρ ev H w (.indexAddr t x i) v H' := by
  unfold oIndexAddr at h
  rw [undT_eq] at h
  split at h
  · rename_i e a k n hu hx' hi'
    split at h
    · rename_i b off len ag s hb hs
      split at h
      · rename_i hn
        cases h
        obtain ⟨L, cap, hL, hev, _⟩ := baseA_rel hb (hx x (.inl rfl) _ hx')
        obtain ⟨hei, _⟩ := hx i (.inr rfl) _ hi'
        refine ⟨St.refl H, OpS.val hH hd (u := .pointer (some ⟨L.B, L.o + (off + n.toNat * s), none⟩)) ⟨L, hL, rfl⟩ fun dst ty pos after guard => run_v ?_⟩
        simp only [Instr.indexAt, hei, hev, asIntOf, Sem.run_bind, Sem.run_pure, Result.andThen_ok, run_underlying hu, if_pos hn, run_sizeOf hs, add_addr, Nat.add_assoc]
      · cases h
    · cases h
  · rename_i len e b off k n hu hx' hi'
    split at h
    · rename_i ag s hs
      split at h
      · rename_i hn
        cases h
        obtain ⟨L, hL, hev⟩ := hx x (.inl rfl) _ hx'
        obtain ⟨hei, _⟩ := hx i (.inr rfl) _ hi'
        refine ⟨St.refl H, OpS.val hH hd (u := .pointer (some ⟨L.B, L.o + (off + n.toNat * s), none⟩)) ⟨L, hL, rfl⟩ fun dst ty pos after guard => run_v ?_⟩
        simp only [Instr.indexAt, hei, hev, asIntOf, Sem.run_bind, Sem.run_pure, Result.andThen_ok, run_underlying hu, Instr.sureAddr, if_pos hn, run_sizeOf hs, add_addr, Nat.add_assoc]
      · cases h
    · cases h
  · cases h

theorem u8_ok (b : UInt8) : litOK (.int .u8 b.toNat) = true := by
  have := b.toNat_lt
  simp only [litOK, Bool.and_eq_true, decide_eq_true_eq]
  have h1 : IntKind.u8.min = 0 := by decide
  have h2 : IntKind.u8.max = 255 := by decide
  omega

theorem oIndex_ok {t : TypeId} {x i : Operand} (h : oIndex P E H t x i = some (v, H')) (hx : ∀ z, z = x ∨ z = i → ∀ a, E z = some a → VRel ρ a (ev z)) (hH : HRel ρ H w) (hd : Dom ρ H.n) : St H H' ∧ OpS P ρ ev H w (.index t x i) v H' := by
  unfold oIndex at h
  rw [undT_eq] at h
  split at h
  · rename_i s k n hu hx' hi'
    split at h
    · rename_i hn
      split at h
      · rename_i b hb
        cases h
        obtain ⟨hev, _⟩ := hx x (.inl rfl) _ hx'
        obtain ⟨hei, _⟩ := hx i (.inr rfl) _ hi'
        refine ⟨St.refl H, OpS.val hH hd (lit_rel (u8_ok b)) fun dst ty pos after guard => run_v ?_⟩
        simp only [Instr.index, hei, hev, asIntOf, Sem.run_bind, Sem.run_pure, Result.andThen_ok, run_underlying hu, if_pos hn, hb]
      · cases h
    · cases h
  · rename_i len e xs k n hu hx' hi'
    split at h
    · rename_i ag s hs
      split at h
      · rename_i hn
        obtain ⟨a, ha, hv⟩ := map_some h
        cases hv
        obtain ⟨us, hev, hrel⟩ := hx x (.inl rfl) _ hx'
        obtain ⟨hei, _⟩ := hx i (.inr rfl) _ hi'
        have hl := hrel.length
        have hp := run_part (P := P) (w := w) (us := us.toList) hs (off := n.toNat * s) (by omega)
        simp only [Array.toArray_toList] at hp
        refine ⟨St.refl H, OpS.val hH hd (mkA_rel ha (hrel.cut _ _)) fun dst ty pos after guard => run_v ?_⟩
        simp only [Instr.index, hei, hev, asIntOf, Sem.run_bind, Sem.run_pure, Result.andThen_ok, run_underlying hu, if_pos (show 0 ≤ n ∧ n < len from ⟨hn.1, hn.2.1⟩), run_sizeOf hs, hp]
      · cases h
    · cases h
  · cases h

theorem oExtract_ok {x : Operand} {i : Nat} (h : oExtract E H x i = some (v, H')) (hx : ∀ a, E x = some a → VRel ρ a (ev x)) (hH : HRel ρ H w) (hd : Dom ρ H.n) : St H H' ∧ OpS P ρ ev H w (.extract x i) v H' := by
  unfold oExtract at h
  split at h
  · rename_i vs hx'
    obtain ⟨us, hev, hrel⟩ := hx _ hx'
    have key : ∀ p, vs[i]? = some p → ∃ u, us[i]? = some u ∧ PRel ρ p u := fun p hp => by
      obtain ⟨u, hu, hr⟩ := hrel.get i p hp
      exact ⟨u, by simpa using hu, hr⟩
    have hrun : ∀ u, us[i]? = some u → ∀ dst ty pos after guard, (execOp ev ⟨dst, .extract x i, ty, pos, after, guard⟩).run P w = .ok (.value u) w := fun u hu _ _ _ _ _ => by
      refine run_v ?_
      simp only [Instr.extract, hev, hu, Sem.run_pure]
    split at h
    · rename_i xs hp
      cases h
      obtain ⟨u, hu, hr⟩ := key _ hp
      exact ⟨St.refl H, OpS.val hH hd (v := .agg xs) hr (hrun u hu)⟩
    · rename_i c hp
      cases h
      obtain ⟨u, hu, hr⟩ := key _ hp
      exact ⟨St.refl H, OpS.val hH hd (v := .one c) hr (hrun u hu)⟩
    · cases h
  · cases h
end
end Go.Fv
