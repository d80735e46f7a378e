/-
  An abstract evaluator of the model's code: each operation does in the model what it does here. Conditions: none; nothing here speaks of one program.
-/
import Derived.Test.YtdneelooepjdhaaEvC
set_option linter.unusedSectionVars false
namespace Go.Ev
section
variable {P : Program} [Plain P] {ora : Ora} {ts : List AV} {H : Heap} {w : World} {ρ : PMap} {ev : Operand → Value}

theorem wf_none (H : Heap) (ns : List (Option Blk)) : Eff.wf H { news := ns } := fun _ _ _ h => by cases h

theorem run_v {s : Sem Value} {u : Value} {w' : World} (h : s.run P w = .ok u w') : (do pure (.value (← s)) : Sem Next).run P w = .ok (.value u) w' := by
  simp [h]
theorem run_u {s : Sem Unit} {w' : World} (h : s.run P w = .ok () w') : (do s; pure .skip : Sem Next).run P w = .ok .skip w' := by
  simp [h]

theorem map_some {α β : Type} {f : α → β} {x : Option α} {y : β} (h : x.map f = some y) : ∃ a, x = some a ∧ f a = y := by
  cases x with
  | none => cases h
  | some a => exact ⟨a, rfl, by simpa using h⟩

theorem bind_some' {α β : Type} {f : α → Option β} {x : Option α} {y : β} (h : x.bind f = some y) : ∃ a, x = some a ∧ f a = some y := by
  cases x with
  | none => cases h
  | some a => exact ⟨a, rfl, h⟩

theorem lit_rel {v : Value} (h : litOK v = true) : VRel ρ (.one (.lit v)) v := ⟨rfl, h⟩

theorem allSome_one {α β : Type} {f : α → Option β} {xs : List α} {y : β} (h : allSome (xs.map f) = some [y]) : ∃ x, xs = [x] ∧ f x = some y := by
  match xs, h with
  | [], h => cases h
  | [x], h =>
    cases hx : f x with
    | none => simp [hx, allSome] at h
    | some z =>
      simp [hx, allSome] at h
      exact ⟨x, rfl, by rw [hx, h]⟩
  | x :: y' :: xs, h =>
    have := (allSome_get h).1
    simp at this

theorem szA_some {t : TypeId} {p : Bool × Nat} (h : szA P t = some p) : ∃ i d, P.info? t = some i ∧ P.underlying t = some d := by
  rw [szA_eq] at h
  unfold szA0 at h
  split at h
  · rename_i i d h1 h2
    exact ⟨i, d, h1, h2⟩
  · cases h

theorem opA_ok (hora : OraOK P ora) (o : Oper) {v : AV} {e : Eff} (h : opA P ora ts H o.op = some (v, e)) (hops : OpsRel ρ ts ev o.op.operands) (hH : HeapRel ρ H w) (hfr : DomLt ρ H.length) :
    e.wf H ∧ GivesR P (Post ρ H.length v e w) ((execOp ev o).run P w) := by
  obtain ⟨dst, op, ty, pos, after, guard⟩ := o
  simp only at h hops
  unfold opA opE at h
  simp only [infoT_eq, undT_eq] at h
  split at h
  -- move
  · rename_i x
    obtain ⟨a, ha, hv⟩ := map_some h
    cases hv
    exact ⟨wf_none _ _, post_same (hops x (by simp [Op.operands]) _ ha)⟩
  -- assign
  · rename_i x
    obtain ⟨a, ha, hv⟩ := map_some h
    cases hv
    exact ⟨wf_none _ _, post_same (hops x (by simp [Op.operands]) _ ha)⟩
  -- pick
  · rename_i c a b
    split at h
    · rename_i t ht
      obtain ⟨a', ha, hv⟩ := map_some h
      cases hv
      obtain ⟨hc, _⟩ := hops c (by simp [Op.operands]) _ ht
      refine ⟨wf_none _ _, ?_⟩
      have hrun : (execOp ev ⟨dst, .pick c a b, ty, pos, after, guard⟩).run P w = .ok (.value (if t then ev a else ev b)) w := by
        simp only [execOp, hc, asBool]
        cases t <;> rfl
      rw [hrun]
      cases t
      · exact post_same (hops b (by simp [Op.operands]) _ ha)
      · exact post_same (hops a (by simp [Op.operands]) _ ha)
    · cases h
  -- alloc
  · rename_i t
    split at h
    · rename_i i hi
      split at h
      · rename_i z hz
        obtain ⟨cs, hcs, hv⟩ := map_some h
        cases hv
        refine ⟨wf_none _ _, ?_⟩
        have hrun : (execOp ev ⟨dst, .alloc t, ty, pos, after, guard⟩).run P w = .ok (.value (.pointer (some ⟨w.heap.size, 0, none⟩))) (w.alloc (.cells z.cells t)) := by
          refine run_v ?_
          simp only [Instr.alloc, Sem.run_bind, run_zeroValue hi hz, Result.andThen_ok, newVar, newRow, run_newObj, Sem.run_pure, World.alloc_eq]
        rw [hrun]
        exact post_alloc (lits_rel hcs) (hfr _ (Nat.le_refl _)) (fun ρ' hρ => ⟨_, _, hρ, rfl⟩)
      · cases h
    · cases h
  -- box
  · rename_i t x
    obtain ⟨cs, hcs, hv⟩ := map_some h
    cases hv
    obtain ⟨a, ha, hc⟩ := bind_some' hcs
    refine ⟨wf_none _ _, ?_⟩
    have hr := hops x (by simp [Op.operands]) _ ha
    have hrun : (execOp ev ⟨dst, .box t x, ty, pos, after, guard⟩).run P w = .ok (.value (.pointer (some ⟨w.heap.size, 0, none⟩))) (w.alloc (.cells (ev x).cells t)) := by
      refine run_v ?_
      simp only [Instr.box, newVar, newRow, Sem.run_bind, run_newObj, Result.andThen_ok, Sem.run_pure, World.alloc_eq]
    rw [hrun]
    exact post_alloc (hr.cels hc) (hfr _ (Nat.le_refl _)) (fun ρ' hρ => ⟨_, _, hρ, rfl⟩)
  -- build
  · rename_i t ps
    obtain ⟨a, ha, hv⟩ := map_some h
    cases hv
    obtain ⟨vs, hvs, hb⟩ := bind_some' ha
    refine ⟨wf_none _ _, ?_⟩
    have hps := partsA_rel (ρ := ρ) (ev := ev) (xs := ps.toList) (fun p hp v hv => hops p.2 (by simp [Op.operands]; exact ⟨p.1, by simpa using hp⟩) v hv) hvs
    obtain ⟨u, hu, hr⟩ := buildA_ok (w := w) (qs := (ps.map fun (i, x) => (i, ev x))) hb (by simpa using hps)
    have hrun : (execOp ev ⟨dst, .build t ps, ty, pos, after, guard⟩).run P w = .ok (.value u) w := run_v hu
    rw [hrun]
    exact post_same hr
  -- buildSlice
  · rename_i t len ps
    obtain ⟨a, ha, hv⟩ := map_some h
    cases hv
    obtain ⟨vs, hvs, hb⟩ := bind_some' ha
    refine ⟨wf_none _ _, ?_⟩
    have hps := partsA_rel (ρ := ρ) (ev := ev) (xs := ps.toList) (fun p hp v hv => hops p.2 (by simp [Op.operands]; exact ⟨p.1, by simpa using hp⟩) v hv) hvs
    obtain ⟨⟨e, us, hu, hr⟩, hlen⟩ := buildSliceA_ok (w := w) (qs := (ps.map fun (i, x) => (i, ev x))) hb (by simpa using hps)
    have hrun := run_v hu
    have hrun' : (execOp ev ⟨dst, .buildSlice t len ps, ty, pos, after, guard⟩).run P w = .ok (.value (.slice (some ⟨w.heap.size, 0, none⟩) len len)) (w.alloc (.cells us e)) := hrun
    rw [hrun']
    exact post_alloc hr (hfr _ (Nat.le_refl _)) (fun ρ' hρ => ⟨⟨_, _, hρ, rfl⟩, Nat.le_refl _, hlen⟩)
  -- load
  · rename_i t x
    split at h
    · rename_i b off ag n hx hs
      obtain ⟨a, ha, hv⟩ := map_some h
      cases hv
      obtain ⟨cs, hcs, hm⟩ := bind_some' ha
      obtain ⟨B, o, us, hr, hl, hrel, hcell⟩ := readC_ok hcs hH
      obtain ⟨B', o', hr', hev⟩ := hops x (by simp [Op.operands]) _ hx
      rw [hr] at hr'
      cases hr'
      refine ⟨wf_none _ _, ?_⟩
      have hrun : (execOp ev ⟨dst, .load t x, ty, pos, after, guard⟩).run P w = .ok (.value (mkV ag us)) w := by
        refine run_v ?_
        simp only [Instr.loadAt, hev, Instr.sureAddr, Sem.run_bind, Sem.run_pure, Result.andThen_ok]
        exact run_loadVar hs hl hcell
      rw [hrun]
      exact post_same (mkA_rel hm hrel)
    · cases h
  -- store
  · rename_i t x v'
    split at h
    · rename_i b off cs ag n hx hc hs
      split at h
      · rename_i hl
        obtain ⟨a, ha, hcs⟩ := bind_some' hc
        have hr := (hops v' (by simp [Op.operands]) _ ha).cels hcs
        obtain ⟨B', o', hr', hev⟩ := hops x (by simp [Op.operands]) _ hx
        obtain ⟨rfl, hwf, B, o, hrB, hrun0, hpost⟩ := post_store (P := P) (n := H.length) hH h hr
        rw [hr'] at hrB
        cases hrB
        refine ⟨hwf, ?_⟩
        have hsz : (ev v').cells.size = n := by
          have := hr.length
          simp only [Array.length_toList] at this
          omega
        have hrun : (execOp ev ⟨dst, .store t x v', ty, pos, after, guard⟩).run P w = .ok .skip (setRow w B' (o' + off) (ev v').cells.toList) := by
          refine run_u ?_
          simp only [Instr.storeAt, hev, Instr.sureAddr, Sem.run_bind, Sem.run_pure, Result.andThen_ok, storeVar, run_sizeOf hs, hsz, ne_eq, not_true_eq_false, if_false]
          exact hrun0
        rw [hrun]
        exact hpost
      · cases h
    · cases h
  -- nilCheck
  · rename_i x
    split at h
    · rename_i b off hx
      cases h
      obtain ⟨B, o, hr, hev⟩ := hops x (by simp [Op.operands]) _ hx
      refine ⟨wf_none _ _, ?_⟩
      have hrun : (execOp ev ⟨dst, .nilCheck x, ty, pos, after, guard⟩).run P w = .ok (.value (.pointer (some ⟨B, o + off, none⟩))) w := by
        simp only [execOp, hev]
        rfl
      rw [hrun]
      exact post_same ⟨B, o, hr, rfl⟩
    · cases h
  -- binOp
  · rename_i op t x y yt
    split at h
    · rename_i a b ha hb
      obtain ⟨r, hr, hv⟩ := map_some h
      cases hv
      obtain ⟨h1, h2⟩ := binA_ok (w := w) (ox := x) (oy := y) hr (hops x (by simp [Op.operands]) _ ha) (hops y (by simp [Op.operands]) _ hb)
      refine ⟨wf_none _ _, ?_⟩
      have hrun : (execOp ev ⟨dst, .binOp op t x y yt, ty, pos, after, guard⟩).run P w = .ok (.value r) w := run_v h1
      rw [hrun]
      exact post_same (lit_rel h2)
    · cases h
  -- unOp
  · rename_i op t x
    split at h
    · rename_i b hx
      cases h
      obtain ⟨hev, _⟩ := hops x (by simp [Op.operands]) _ hx
      refine ⟨wf_none _ _, ?_⟩
      have hrun : (execOp ev ⟨dst, .unOp .not t x, ty, pos, after, guard⟩).run P w = .ok (.value (.bool !b)) w := by
        refine run_v ?_
        simp only [hev, Op.unary, Sem.run_pure]
      rw [hrun]
      exact post_same (lit_rel rfl)
    · rename_i k n hx
      cases h
      obtain ⟨hev, _⟩ := hops x (by simp [Op.operands]) _ hx
      refine ⟨wf_none _ _, ?_⟩
      have hrun : (execOp ev ⟨dst, .unOp .neg t x, ty, pos, after, guard⟩).run P w = .ok (.value (.int k (k.wrap (0 - n)))) w := by
        refine run_v ?_
        simp only [hev, Op.unary, Op.intArith, Sem.run_pure]
      rw [hrun]
      exact post_same (lit_rel (wrap_ok _ _))
    · cases h
  -- convert
  · rename_i src dt x
    split at h
    · rename_i d k k' n hs hd hx
      cases h
      obtain ⟨hev, _⟩ := hops x (by simp [Op.operands]) _ hx
      refine ⟨wf_none _ _, ?_⟩
      have hrun : (execOp ev ⟨dst, .convert src dt x, ty, pos, after, guard⟩).run P w = .ok (.value (.int k (k.wrap n))) w := by
        refine run_v ?_
        simp [hev, convert, run_underlying hs, run_underlying hd, Conv.intToInt]
      rw [hrun]
      exact post_same (lit_rel (wrap_ok _ _))
    · cases h
  -- fieldAddr
  · rename_i t x f
    split at h
    · rename_i fl b off hf hx
      split at h
      · rename_i ag n hs
        split at h
        · cases h
        · rename_i hn
          cases h
          obtain ⟨B, o, hr, hev⟩ := hops x (by simp [Op.operands]) _ hx
          refine ⟨wf_none _ _, ?_⟩
          unfold fieldA at hf
          rw [undT_eq] at hf
          split at hf
          · rename_i fs hu
            have hrun : (execOp ev ⟨dst, .fieldAddr t x f, ty, pos, after, guard⟩).run P w = .ok (.value (.pointer (some ⟨B, o + (off + fl.offset), none⟩))) w := by
              refine run_v ?_
              simp only [Instr.fieldAt, Sem.run_bind, run_underlying hu, Result.andThen_ok, hf, hev, Instr.sureAddr, Sem.run_pure, fieldPlace, run_sizeOf hs, if_neg hn, Sem.run_ite, add_addr, Nat.add_assoc]
            rw [hrun]
            exact post_same ⟨B, o, hr, rfl⟩
          · cases hf
      · cases h
    · cases h
  -- field
  · rename_i t x f
    split at h
    · rename_i fl xs hf hx
      split at h
      · rename_i ag n hs
        split at h
        · rename_i hle
          obtain ⟨a, ha, hv⟩ := map_some h
          cases hv
          obtain ⟨us, hev, hrel⟩ := hops x (by simp [Op.operands]) _ hx
          refine ⟨wf_none _ _, ?_⟩
          unfold fieldA at hf
          rw [undT_eq] at hf
          split at hf
          · rename_i fs hu
            have hl := hrel.length
            have hp := run_part (P := P) (w := w) (us := us.toList) hs (off := fl.offset) (by omega)
            simp only [Array.toArray_toList] at hp
            have hrun : (execOp ev ⟨dst, .field t x f, ty, pos, after, guard⟩).run P w = .ok (.value (mkV ag ((us.toList.drop fl.offset).take (wid ag n)))) w := by
              refine run_v ?_
              simp only [Instr.field, Sem.run_bind, run_underlying hu, Result.andThen_ok, hf, hev, asAgg, Sem.run_pure, hp]
            rw [hrun]
            exact post_same (mkA_rel ha (hrel.cut _ _))
          · cases hf
        · cases h
      · cases h
    · cases h
  -- indexAddr
  · rename_i t x i
    split at h
    · rename_i a b ha hb
      obtain ⟨r, hr, hv⟩ := map_some h
      cases hv
      have hxa := hops x (by simp [Op.operands]) _ ha
      have hib := hops i (by simp [Op.operands]) _ hb
      refine ⟨wf_none _ _, ?_⟩
      unfold indexAddrA at hr
      rw [undT_eq] at hr
      split at hr
      · rename_i e b' off len cap k n hu
        split at hr
        · rename_i ag s hs
          split at hr
          · rename_i hn
            cases hr
            obtain ⟨⟨B, o, hρ, hev⟩, _⟩ := hxa
            obtain ⟨hei, _⟩ := hib
            have hrun : (execOp ev ⟨dst, .indexAddr t x i, ty, pos, after, guard⟩).run P w = .ok (.value (.pointer (some ⟨B, o + (off + n.toNat * s), none⟩))) w := by
              refine run_v ?_
              simp only [Instr.indexAt, hei, hev, asIntOf, Sem.run_bind, Sem.run_pure, Result.andThen_ok, run_underlying hu, if_pos hn, run_sizeOf hs, add_addr, Nat.add_assoc]
            rw [hrun]
            exact post_same ⟨B, o, hρ, rfl⟩
          · cases hr
        · cases hr
      · rename_i len e b' off k n hu
        split at hr
        · rename_i ag s hs
          split at hr
          · rename_i hn
            cases hr
            obtain ⟨B, o, hρ, hev⟩ := hxa
            obtain ⟨hei, _⟩ := hib
            have hrun : (execOp ev ⟨dst, .indexAddr t x i, ty, pos, after, guard⟩).run P w = .ok (.value (.pointer (some ⟨B, o + (off + n.toNat * s), none⟩))) w := by
              refine run_v ?_
              simp only [Instr.indexAt, hei, hev, asIntOf, Sem.run_bind, Sem.run_pure, Result.andThen_ok, run_underlying hu, Instr.sureAddr, if_pos hn, run_sizeOf hs, add_addr, Nat.add_assoc]
            rw [hrun]
            exact post_same ⟨B, o, hρ, rfl⟩
          · cases hr
        · cases hr
      · cases hr
    · cases h
  -- index
  · rename_i t x i
    split at h
    · rename_i s k n hu hx hi
      split at h
      · rename_i hn
        split at h
        · rename_i b hb
          cases h
          obtain ⟨hev, _⟩ := hops x (by simp [Op.operands]) _ hx
          obtain ⟨hei, _⟩ := hops i (by simp [Op.operands]) _ hi
          refine ⟨wf_none _ _, ?_⟩
          have hrun : (execOp ev ⟨dst, .index t x i, ty, pos, after, guard⟩).run P w = .ok (.value (.int .u8 b.toNat)) w := by
            refine run_v ?_
            simp only [Instr.index, hei, hev, asIntOf, Sem.run_bind, Sem.run_pure, Result.andThen_ok, run_underlying hu, if_pos hn, hb]
          rw [hrun]
          refine post_same (lit_rel ?_)
          have := b.toNat_lt
          simp only [litOK, Bool.and_eq_true, decide_eq_true_eq]
          have h1 : IntKind.u8.min = 0 := by decide
          have h2 : IntKind.u8.max = 255 := by decide
          omega
        · cases h
      · cases h
    · cases h
  -- extract
  · rename_i x i
    split at h
    · rename_i vs hx
      obtain ⟨us, hev, hrel⟩ := hops x (by simp [Op.operands]) _ hx
      have key : ∀ p, vs[i]? = some p → ∃ u, us[i]? = some u ∧ PRel ρ p u := fun p hp => by
        obtain ⟨u, hu, hr⟩ := hrel.get i p hp
        exact ⟨u, by simpa using hu, hr⟩
      have hrun : ∀ u, us[i]? = some u → (execOp ev ⟨dst, .extract x i, ty, pos, after, guard⟩).run P w = .ok (.value u) w := fun u hu => by
        refine run_v ?_
        simp only [Instr.extract, hev, hu, Sem.run_pure]
      split at h
      · rename_i xs hp
        cases h
        obtain ⟨u, hu, hr⟩ := key _ hp
        rw [hrun u hu]
        exact ⟨wf_none _ _, post_same hr⟩
      · rename_i c hp
        cases h
        obtain ⟨u, hu, hr⟩ := key _ hp
        rw [hrun u hu]
        exact ⟨wf_none _ _, post_same hr⟩
      · cases h
    · cases h
  -- call
  · rename_i f args ats
    split at h
    · rename_i g a b vs hf hl
      split at h
      · rename_i hab
        obtain ⟨hwf, hg⟩ := hora _ _ _ _ _ h
        obtain ⟨hev, _⟩ := hops f (by simp [Op.operands, Call.operands]) _ hf
        have hus := listA_rel (ρ := ρ) (ev := ev) (xs := args.toList) (fun x hx v hv => hops x (by simp [Op.operands, Call.operands]; exact .inr (by simpa using hx)) v hv) hl
        refine ⟨hwf, ?_⟩
        have ha : a = #[] := Array.eq_empty_of_size_eq_zero hab.1
        have hb : b = #[] := Array.eq_empty_of_size_eq_zero hab.2
        subst ha
        subst hb
        have hrun : (execOp ev ⟨dst, .call ⟨.value f, args, ats⟩, ty, pos, after, guard⟩).run P w = (callFunc g (args.map ev)).run P w := by
          simp [execOp, resolve, hev, Deferred.ofValue, invoke]
        rw [hrun]
        exact hg ρ w _ (by simpa using hus) hH hfr
      · cases h
    · cases h
  -- len
  · rename_i args ats
    split at h
    · rename_i x t rest hl hat
      obtain ⟨n, hn, hv⟩ := map_some h
      cases hv
      obtain ⟨y, hy, hx⟩ := allSome_one hl
      have hev := hops y (by simp [Op.operands, Call.operands]; rw [← Array.mem_toList_iff, hy]; simp) _ hx
      refine ⟨wf_none _ _, ?_⟩
      have hargs : args = #[y] := by rw [← Array.toList_inj]; simpa using hy
      have hats : ats[0]? = some t := by rw [← Array.getElem?_toList, hat]; rfl
      subst hargs
      have hlen : (Builtin.len_ ats ty #[ev y]).run P w = .ok (.int .i64 n) w ∧ litOK (.int .i64 n) = true := by
        have hmin : IntKind.i64.min = -9223372036854775808 := by decide
        have hmax : IntKind.i64.max = 9223372036854775807 := by decide
        simp only [litOK, Bool.and_eq_true, decide_eq_true_eq, hmin, hmax]
        unfold lenA at hn
        rw [undT_eq] at hn
        split at hn
        · rename_i s hu
          cases hn
          obtain ⟨he, hs⟩ := hev
          simp only [litOK, decide_eq_true_eq] at hs
          exact ⟨by simp [Builtin.len_, hats, run_underlying hu, he, goInt], by omega, by omega⟩
        · rename_i n' e hu
          split at hn
          · cases hn
            exact ⟨by simp [Builtin.len_, hats, run_underlying hu, goInt], by omega, by omega⟩
          · cases hn
        · rename_i e b off n' cap hu
          cases hn
          obtain ⟨⟨B, o, _, he⟩, h1, h2⟩ := hev
          exact ⟨by simp [Builtin.len_, hats, run_underlying hu, he, goInt], by omega, by omega⟩
        · rename_i e a n' cap hu
          cases hn
          obtain ⟨he, hs⟩ := hev
          simp only [litOK, Bool.and_eq_true, decide_eq_true_eq] at hs
          exact ⟨by simp [Builtin.len_, hats, run_underlying hu, he, goInt], by omega, by omega⟩
        · cases hn
      have hrun : (execOp ev ⟨dst, .call ⟨.builtin .len, #[y], ats⟩, ty, pos, after, guard⟩).run P w = .ok (.value (.int .i64 n)) w := by
        simp [execOp, resolve, invoke, builtin, hlen.1]
      rw [hrun]
      exact post_same (lit_rel hlen.2)
    · cases h
  · cases h
end
end Go.Ev
