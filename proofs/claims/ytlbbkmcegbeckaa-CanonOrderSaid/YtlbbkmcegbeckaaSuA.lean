/-
  A second abstract evaluator of the model's code: steps that come to one of several outcomes; regions in the text's order. Conditions: none; nothing here speaks of one program.
  A second abstract evaluator of the model's code: equality of cells, contents and blocks, tested. Conditions: none; nothing here speaks of one program.
-/
import Derived.Test.YtlbbkmcegbeckaaSvV
import Derived.Test.YtlbbkmcegbeckaaSvM
set_option linter.unusedSimpArgs false
set_option linter.unusedSectionVars false
set_option linter.unusedVariables false
namespace Go.Sx
variable [Sg]
abbrev RM := Option (List (AV × HP))
abbrev OraM := Tg → List AV → HP → RM
noncomputable section
def oneL {α : Type} (x : Option (List α)) : Option α :=
 match x with
 | some [y] => some y
 | _ => none
def OraM.one (o : OraM) : Ora := fun t args H =>
 match oneL (o t args H) with
 | some (v, H') => match Nat.beq H'.nv H.nv with
  | true => some (v, ⟨H'.t, H'.n, H'.lo, H.hy, H'.nv⟩)
  | false => none
 | none => none
def single {α : Type} (x : Option α) : Option (List α) :=
 match x with
 | some y => some [y]
 | none => none
end
theorem single_some {α : Type} {x : Option α} {l : List α} (h : single x = some l) : ∃ y, x = some y ∧ l = [y] := by
 cases x with
 | none => cases h
 | some y => cases h; exact ⟨y, rfl, rfl⟩
theorem oneL_some {α : Type} {x : Option (List α)} {y : α} (h : oneL x = some y) : x = some [y] := by
 unfold oneL at h
 split at h
 ·cases h; rfl
 ·cases h
def PostM (ρ : PM) (H : HP) (w : World) (outs : List (AV × HP)) : Value → World → Prop := fun u w' => ∃ o ∈ outs, Post ρ H w o.1 o.2 u w'
def OraMOK (P : Program) (ora : OraM) : Prop :=
 ∀ (t : Tg) (args : List AV) (H : HP) (outs : List (AV × HP)), ora t args H = some outs → (∀ o ∈ outs, Sc H o.2) ∧
  ∀ (ρ : PM) (w : World) (us : Array Value) (s : Sem Next), TgRun ρ us s t → All2 (VRel ρ) args us.toList → HRel ρ H w → Dom ρ H.n → J ρ H w → GivesR P (PostM ρ H w outs) (s.run P w)
theorem OraMOK.one {P : Program} {ora : OraM} (h : OraMOK P ora) : OraOK P ora.one := by
 intro t args H v H' hr
 unfold OraM.one at hr
 split at hr
 rotate_left
 ·cases hr
 rename_i v1 H1 hr1
 split at hr
 rotate_left
 ·cases hr
 rename_i e2
 cases hr
 obtain ⟨h1, h2⟩ := h t args H _ (oneL_some hr1)
 obtain ⟨g1, g2, g3⟩ := h1 _ (List.mem_singleton.2 rfl)
 refine ⟨⟨g1, g2, rfl, Nat.eq_of_beq_eq_true e2⟩, fun ρ w us s hs hu hH hd hj => GivesR.mono (fun u w' ⟨o, ho, hp⟩ => ?_) (h2 ρ w us s hs hu hH hd hj)⟩
 rw [List.mem_singleton.1 ho] at hp
 obtain ⟨ρ', h3, h4⟩ := hp
 exact ⟨ρ', h3, ⟨h4.le, h4.grow, h4.dom, ⟨h4.rel.rel, h4.rel.inj, hH.hy⟩, h4.knc, h4.fr, h4.new, h4.size, h4.os, h4.tape, h4.output, h4.old, h4.jj, h4.ro⟩⟩
def OpSM (P : Program) (ρ : PM) (ev : Operand → Value) (H : HP) (w : World) (op : Op) (outs : List (AV × HP)) : Prop :=
 ∀ (dst : Option Tmp) (ty : TypeId) (pos : String) (after : Array Edge) (guard : Option (Nat × Bool)), GivesR P (PostM ρ H w outs) ((execOp ev ⟨dst, op, ty, pos, after, guard⟩).run P w)
theorem OpS.many {P : Program} {ρ : PM} {ev : Operand → Value} {H H' : HP} {w : World} {op : Op} {v : AV} (h : OpS P ρ ev H w op v H') : OpSM P ρ ev H w op [(v, H')] := fun dst ty pos after guard =>
 GivesR.mono (fun _ _ hp => ⟨_, List.mem_singleton.2 rfl, hp⟩) (h dst ty pos after guard)
section
variable {P : Program} [Plain P] {ora : OraM} {E : Operand → Option AV} {H H' : HP} {w : World} {ρ : PM} {ev : Operand → Value} {v : AV} {outs : List (AV × HP)}
noncomputable def oCallM (ora : OraM) (E : Operand → Option AV) (H : HP) (f : Operand) (args : Array Operand) : RM :=
 match E f, listE E args.toList with
 | some (.one (.lit (.func (.func g) a b))), some vs => if a.size = 0 ∧ b.size = 0 then ora (.f g) vs H else none
 | some (.one (.fn (.func g) caps)), some vs => ora (.f g) (vs ++ ptrs caps) H
 | some (.one (.yd b)), some vs => ora (.y b) vs H
 | _, _ => none
theorem oCallM_ok (ho : OraMOK P ora) {f : Operand} {args : Array Operand} {ats : Array TypeId} (h : oCallM ora E H f args = some outs) (hx : ∀ z, (z = f ∨ z ∈ args.toList) → ∀ a, E z = some a → VRel ρ a (ev z)) (hH : HRel ρ H w) (hd : Dom ρ H.n) (hj : J ρ H w) :
  (∀ o ∈ outs, Sc H o.2) ∧ OpSM P ρ ev H w (.call ⟨.value f, args, ats⟩) outs := by
 unfold oCallM at h
 split at h
 ·rename_i g a b vs hf hl
  split at h
  ·rename_i hab
   obtain ⟨hst, hg⟩ := ho _ _ _ _ h
   obtain ⟨hev, _⟩ := hx f (.inl rfl) _ hf
   have hus := listE_rel (ρ := ρ) (ev := ev) (xs := args.toList) (fun x hx' v hv => hx x (.inr hx') v hv) hl
   refine ⟨hst, fun dst ty pos after guard => ?_⟩
   have ha : a = #[] := Array.eq_empty_of_size_eq_zero hab.1
   have hb : b = #[] := Array.eq_empty_of_size_eq_zero hab.2
   subst ha
   subst hb
   have hrun : (execOp ev ⟨dst, .call ⟨.value f, args, ats⟩, ty, pos, after, guard⟩).run P w = (callFunc g (args.map ev)).run P w := by
    simp [execOp, resolve, hev, Deferred.ofValue, invoke]
   rw [hrun]
   exact hg ρ w _ _ rfl (by simpa using hus) hH hd hj
  ·cases h
 ·rename_i g caps vs hf hl
  obtain ⟨hst, hg⟩ := ho _ _ _ _ h
  obtain ⟨us, hev, hcaps⟩ := hx f (.inl rfl) _ hf
  have hus := listE_rel (ρ := ρ) (ev := ev) (xs := args.toList) (fun x hx' v hv => hx x (.inr hx') v hv) hl
  refine ⟨hst, fun dst ty pos after guard => ?_⟩
  have hrun : (execOp ev ⟨dst, .call ⟨.value f, args, ats⟩, ty, pos, after, guard⟩).run P w = (callFunc g (args.map ev ++ us)).run P w := by
   simp [execOp, resolve, hev, Deferred.ofValue, invoke]
  rw [hrun]
  exact hg ρ w _ _ rfl (by simpa using hus.append (ptrs_rel hcaps)) hH hd hj
 ·rename_i b vs hf hl
  obtain ⟨hst, hg⟩ := ho _ _ _ _ h
  obtain ⟨L, hL, hev⟩ := hx f (.inl rfl) _ hf
  have hus := listE_rel (ρ := ρ) (ev := ev) (xs := args.toList) (fun x hx' v hv => hx x (.inr hx') v hv) hl
  refine ⟨hst, fun dst ty pos after guard => ?_⟩
  have hrun : (execOp ev ⟨dst, .call ⟨.value f, args, ats⟩, ty, pos, after, guard⟩).run P w = (Instr.yield L.B (args.map ev)).run P w := by
   simp [execOp, resolve, hev, Deferred.ofValue, invoke]
  rw [hrun]
  exact hg ρ w _ _ ⟨L, hL, rfl⟩ (by simpa using hus) hH hd hj
 ·cases h
theorem arr_empty {α : Type} (a : Array α) : a.isEmpty = a.toList.isEmpty := by
 obtain ⟨l⟩ := a
 cases l <;> simp
theorem ents_all {es : List Ent} {ms : List MapEntry} {k : Nat} (h : All2 (EntRel ρ) es ms) : (ms.all fun e => decide (e.born ≥ k)) = es.all fun e => decide (e.2.2 ≥ k) := by
 induction es generalizing ms with
 | nil => cases ms with | nil => rfl | cons _ _ => exact h.elim
 | cons e es ih =>
  cases ms with
  | nil => exact h.elim
  | cons m ms =>
   obtain ⟨⟨_, _, hb⟩, h2⟩ := h
   simp only [List.all_cons, hb, ih h2]
theorem ents_empty {es : List Ent} {ms : List MapEntry} (h : All2 (EntRel ρ) es ms) : ms.isEmpty = es.isEmpty := by
 have := h.length
 rw [Bool.eq_iff_iff, List.isEmpty_iff_length_eq_zero, List.isEmpty_iff_length_eq_zero, this]
theorem next_fin {b m : Nat} {it : IterC} {es : List Ent} {clock : Nat} {arr : Array MapEntry} {L K : Loc} {x : Operand} {Z : Prop} {ty : TypeId} (hrel : All2 (EntRel ρ) es arr.toList)
  (hgi : (getObj L.B).run P w = .ok (.mapIter (some K.B) it.since it.seen.toArray it.stepped) w) (hgm : (getObj K.B).run P w = .ok (.map arr clock) w)
  (hcond : (!it.seen.toArray.isEmpty && !arr.isEmpty && arr.all fun e => decide (e.born ≥ it.stepped)) = false) (hL0 : L.o = 0) (hv : ev x = .pointer (some ⟨L.B, 0 + 0, none⟩)) (hxv : E x = some (.one (.ptr b 0))) (hH : HRel ρ H w) (hd : Dom ρ H.n) (hL : ρ b = some L)
  (hit : H.t.get b = some (.lf [some (.iter it.m it.since it.seen it.stepped)])) (hms : it.m = some m) (hheap : w.heap[L.B]? = some (.mapIter (some K.B) it.since it.seen.toArray it.stepped)) (hK : ρ m = some K)
  (fin : ∀ (u : Value) (w' : World), (Instr.next (ev x) false ty).run P w = .ok u w' → PostM ρ H w ((cands it.since it.seen es).map (nextTo H b it clock)) u w' → Z) : Z := by
 generalize hC : ((if ((arr.filter fun e => !it.seen.toArray.contains e.born).filter fun e => decide (e.born < it.since)).isEmpty then #[none] else #[]) ++
   ((arr.filter fun e => !it.seen.toArray.contains e.born).filter (fun e => decide (e.born < it.since)) ++ (arr.filter fun e => !it.seen.toArray.contains e.born).filter fun e => decide (e.born ≥ it.since)).map some : Array (Option MapEntry)) = C
 have hsz : 0 < C.size := by
  rw [← hC]
  by_cases he : ((arr.filter fun e => !it.seen.toArray.contains e.born).filter fun e => decide (e.born < it.since)).isEmpty = true
  ·rw [if_pos he]; simp only [Array.size_append, List.size_toArray, List.length_cons, List.length_nil]; omega
  ·rw [if_neg he]
   have : 0 < ((arr.filter fun e => !it.seen.toArray.contains e.born).filter fun e => decide (e.born < it.since)).size := by
    rw [Array.isEmpty_iff_size_eq_zero] at he
    omega
   simp only [Array.size_append, Array.size_map]
   omega
 obtain ⟨k, w1, hk, hch, hw1⟩ : ∃ k w1, k < C.size ∧ (choose (.mapNext C.size)).run P w = .ok k w1 ∧ (w1 = w ∨ w1 = w.drew) := by
  rw [run_choose_drew]
  by_cases hf : (Question.mapNext C.size).forced = true
  ·rw [if_pos hf]; exact ⟨0, w, hsz, rfl, .inl rfl⟩
  ·rw [if_neg hf]; exact ⟨_, w.drew, Nat.mod_lt _ hsz, rfl, .inr rfl⟩
 have hs1 : Sim ρ H w ρ H w1 := by
  rcases hw1 with rfl | rfl
  ·exact Sim.refl hH hd
  ·exact Sim.same hH hd rfl rfl rfl rfl
 have hheap1 : w1.heap = w.heap := by rcases hw1 with rfl | rfl <;> rfl
 have hCk : C[k]? = some C[k] := Array.getElem?_eq_getElem hk
 obtain ⟨a, ha, hac⟩ := cands_rel (since := it.since) (seen := it.seen) hrel k C[k] (by
  rw [← hCk, ← Array.getElem?_toList]
  congr 1
  rw [← hC]
  simp only [List.contains_toArray, Array.toList_append, Array.toList_map, Array.toList_filter]
  congr 1
  rw [arr_empty, Array.toList_filter, Array.toList_filter]
  split <;> rfl)
 have hrun : ∀ u w2, (match C[k]? with
   | some (some e) => do setObj L.B (.mapIter (some K.B) it.since (it.seen.toArray.push e.born) clock); pure (.tuple #[.bool true, e.key, e.val])
   | some none => pure (.tuple #[.bool false])
   | none => stuck "Next: no such candidate" : Sem Value).run P w1 = .ok u w2 → (Instr.next (ev x) false ty).run P w = .ok u w2 := by
  intro u w2 h
  rw [hv]
  simp only [Instr.next, Sem.run_bind, hgi, Result.andThen_ok, hgm, hcond, Bool.false_eq_true, if_false, Sem.run_pure, hC, hch]
  exact h
 rw [hCk] at hrun
 have hmem : nextTo H b it clock a ∈ (cands it.since it.seen es).map (nextTo H b it clock) := List.mem_map.2 ⟨a, List.mem_of_getElem? ha, rfl⟩
 cases hcc : C[k] with
 | none =>
  rw [hcc] at hrun hac
  cases a with
  | some e => exact hac.elim
  | none => exact fin _ w1 (hrun _ w1 rfl) ⟨_, hmem, ρ, ⟨_, rfl, ⟨rfl, rfl⟩, trivial⟩, hs1⟩
 | some e' =>
  rw [hcc] at hrun hac
  cases a with
  | none => exact hac.elim
  | some e =>
   obtain ⟨h1, h2, h3⟩ := hac
   have hset := run_setObj_at' (P := P) (w := w1) (r := L.B) (.mapIter (some K.B) it.since (it.seen.toArray.push e'.born) clock) (by rw [hheap1]; exact hheap) (fun _ _ _ h => by cases h)
   refine fin (.tuple #[.bool true, e'.key, e'.val]) (w1.putObj L.B (.mapIter (some K.B) it.since (it.seen.toArray.push e'.born) clock)) (hrun _ _ ?_) ⟨_, hmem, ρ, ⟨_, rfl, ⟨rfl, rfl⟩, h1, h2, trivial⟩, ?_⟩
   ·simp only [Sem.run_bind, hset, Result.andThen_ok, Sem.run_pure]
   ·refine hs1.trans hd (Sim.put1 (o := .mapIter (some K.B) it.since it.seen.toArray it.stepped) hs1.rel hd hL hit (by rw [hheap1]; exact hheap) (fun _ _ _ h => by cases h) ?_)
    have hlt : L.B < w1.heap.size := by rw [hheap1]; exact (Array.getElem?_eq_some_iff.1 hheap).1
    refine ⟨rfl, hL0, some K.B, ?_, ?_⟩
    ·rw [World.putObj_heap_same hlt, h3]
     simp
    ·rw [hms]
     exact ⟨K, hK, rfl⟩
theorem oNextM_ok {x : Operand} (h : oNextM E H x = some outs) (hx : ∀ a, E x = some a → VRel ρ a (ev x)) (hH : HRel ρ H w) (hd : Dom ρ H.n) : (∀ o ∈ outs, Sc H o.2) ∧ OpSM P ρ ev H w (.next x false) outs := by
 refine ⟨fun o ho => (oNextM_st h o ho).sc, fun dst ty pos after guard => ?_⟩
 unfold oNextM at h
 have fin : ∀ (u : Value) (w' : World), (Instr.next (ev x) false ty).run P w = .ok u w' → PostM ρ H w outs u w' → GivesR P (PostM ρ H w outs) ((execOp ev ⟨dst, .next x false, ty, pos, after, guard⟩).run P w) := fun u w' hrun hp => by
  have : (execOp ev ⟨dst, .next x false, ty, pos, after, guard⟩).run P w = .ok (.value u) w' := run_v hrun
  rw [this]
  exact hp
 split at h
 ·rename_i b hxv
  obtain ⟨L, hL, hv⟩ := hx _ hxv
  split at h
  ·rename_i it hit
   have hit' := iterAt_spec hit
   obtain ⟨_, hL0, mm, hheap, hm⟩ := hH.rel b 0 _ L (cell_one hit').1 hL
   have hgi := run_getObj_at (P := P) hheap (fun _ _ _ h => by cases h)
   rw [hL0] at hv
   split at h
   ·rename_i hmn
    cases h
    rw [hmn] at hm
    simp only at hm
    subst hm
    refine fin (.tuple #[.bool false]) w ?_ ⟨_, List.mem_singleton.2 rfl, ρ, ⟨_, rfl, ⟨rfl, rfl⟩, trivial⟩, Sim.refl hH hd⟩
    simp [Instr.next, hv, hgi]
   ·rename_i m hms
    rw [hms] at hm
    obtain ⟨K, hK, rfl⟩ := hm
    split at h
    ·rename_i es clock hmap
     split at h
     ·rename_i hcond
      cases h
      obtain ⟨_, arr, hmheap, hrel⟩ := map_world hH hK hmap
      have hgm := run_getMap (P := P) hmheap
      refine next_fin hrel hgi hgm ?_ hL0 hv hxv hH hd hL hit' hms hheap hK fin
      rw [← hcond, ← Array.all_toList, ents_all hrel, arr_empty arr, ents_empty hrel, arr_empty]
     ·cases h
    ·cases h
  ·cases h
 ·cases h
noncomputable section
def Bk.peek (k : Bk) (i : Nat) : Option Ct :=
 Bk.rec (motive := fun _ => Nat → Option Ct) (fun l i => match dropN i l with
  | x :: _ => x
  | [] => none) (fun n c i => match Nat.ble (Nat.succ i) n with
  | true => some (.c c)
  | false => none) (fun n _ _ gl gr i => match Nat.ble (Nat.succ i) n with
  | true => gl i
  | false => gr (Nat.sub i n)) k i
def HP.hasAt (H : HP) (b i : Nat) : Bool :=
 match H.t.get b with
 | some k => match k.peek i with
  | some (.c _) => true
  | some .room => true
  | _ => false
 | none => false
def oCapK (P : Program) [Plain P] (E : Operand → Option AV) (H : HP) (args : Array Operand) (ats : Array TypeId) : R :=
 match listE E args.toList, ats.toList with
 | some [.one (.su b off _ s)], t :: _ => match undT P t, Nat.ble 1 s with
  | some (.slice _), true => some (.one (.kp b off s), H)
  | _, _ => none
 | _, _ => none
def oGtrK (E : Operand → Option AV) (H : HP) (x y : Operand) : R :=
 match E x, E y with
 | some (.one (.lit (.int .i64 n))), some (.one (.kp b off s)) => if 0 < n then match H.hasAt b (off + n.toNat * s - 1) with
   | true => some (.one (.lit (.bool false)), H)
   | false => none
  else none
 | _, _ => none
def oSliceK (P : Program) [Plain P] (E : Operand → Option AV) (H : HP) (t : TypeId) (x hi : Operand) : R :=
 match undT P t, E x, E hi with
 | some (.slice e), some (.one (.su b off _ s)), some (.one (.lit (.int _ n))) => match szA P e with
  | some (_, sz) => if s = sz ∧ 0 < sz ∧ 0 < n then match H.hasAt b (off + n.toNat * s - 1) with
    | true => some (.one (.su b off n.toNat s), H)
    | false => none
   else none
  | none => none
 | _, _, _ => none
def orElseR (a b : R) : R :=
 match a with
 | some x => some x
 | none => b
end
theorem Bk.peek_eq : ∀ (k : Bk) (i : Nat), k.peek i = k.get i
 | .lf l, i => by
  show (match dropN i l with | x :: _ => x | [] => none) = (l[i]?).join
  rw [dropN_eq]
  split
  ·rename_i x r hd
   have : l[i]? = some x := by
    have := congrArg (·[0]?) hd
    simpa using this
   rw [this]
   rfl
  ·rename_i hd
   rw [List.getElem?_eq_none (by simpa using hd)]
   rfl
 | .fl n c, i => by
  show (match Nat.ble (Nat.succ i) n with | true => some (.c c) | false => none) = if i < n then some (Ct.c c) else none
  split
  ·rename_i hb; rw [if_pos (show i < n from Nat.le_of_ble_eq_true hb)]
  ·rename_i hb; rw [if_neg (by have := ble_false hb; omega)]
 | .nd n l r, i => by
  show (match Nat.ble (Nat.succ i) n with | true => l.peek i | false => r.peek (i - n)) = if i < n then l.get i else r.get (i - n)
  split
  ·rename_i hb; rw [if_pos (show i < n from Nat.le_of_ble_eq_true hb), Bk.peek_eq l i]
  ·rename_i hb; rw [if_neg (by have := ble_false hb; omega), Bk.peek_eq r]
theorem HP.hasAt_spec {b i : Nat} (h : H.hasAt b i = true) : ∃ c, H.cell b i = some c ∧ c.plc := by
 unfold HP.hasAt at h
 split at h
 ·rename_i k hk
  rw [Bk.peek_eq] at h
  have hg : H.cell b i = k.get i := by unfold HP.cell; rw [hk]; rfl
  split at h
  ·rename_i x hx; exact ⟨_, hg.trans hx, trivial⟩
  ·rename_i hx; exact ⟨_, hg.trans hx, trivial⟩
  ·cases h
 ·cases h
theorem hasAt_room {b off s cap : Nat} {n : Nat} {L : Loc} (h : H.hasAt b (off + n * s - 1) = true) (hH : HRel ρ H w) (hL : ρ b = some L) (hs : 0 < s) (hn : 0 < n) (he : L.o + off + cap * s = L.C) : n ≤ cap := by
 obtain ⟨c, hc, hp⟩ := HP.hasAt_spec h
 obtain ⟨arr, t, fr, _, _, e3, e4⟩ := plc_rel (hH.rel b _ c L hc hL) hp
 have h1 : 0 < n * s := Nat.mul_pos hn hs
 have h2 : n * s ≤ cap * s := by omega
 exact Nat.le_of_mul_le_mul_right h2 hs
theorem oCapK_ok {args : Array Operand} {ats : Array TypeId} (h : oCapK P E H args ats = some (v, H')) (hx : ∀ z ∈ args.toList, ∀ a, E z = some a → VRel ρ a (ev z)) (hH : HRel ρ H w) (hd : Dom ρ H.n) :
  St H H' ∧ OpS P ρ ev H w (.call ⟨.builtin .cap, args, ats⟩) v H' := by
 unfold oCapK at h
 simp only [undT_eq] at h
 split at h
 ·rename_i b off len s t rest hl hat
  obtain ⟨y, hy, hx'⟩ := listE_one hl
  have hev := hx y (by rw [hy]; simp) _ hx'
  have hargs : args = #[y] := by rw [← Array.toList_inj]; simpa using hy
  have hats : ats[0]? = some t := by rw [← Array.getElem?_toList, hat]; rfl
  subst hargs
  split at h
  ·rename_i e hu hs
   cases h
   obtain ⟨L, cap, hL, he, h1, h2, h3⟩ := hev
   refine ⟨St.refl H, OpS.val hH hd (u := .int .i64 cap) ⟨L, cap, hL, rfl, h2, Nat.le_of_ble_eq_true hs, h3⟩ fun dst ty pos after guard => ?_⟩
   simp [execOp, resolve, invoke, builtin, Builtin.cap_, hats, run_underlying hu, he, goInt]
  ·cases h
 ·cases h
theorem oGtrK_ok {t ty0 : TypeId} {x y : Operand} (h : oGtrK E H x y = some (v, H')) (hx : ∀ z, z = x ∨ z = y → ∀ a, E z = some a → VRel ρ a (ev z)) (hH : HRel ρ H w) (hd : Dom ρ H.n) :
  St H H' ∧ OpS P ρ ev H w (.binOp .gtr t x y ty0) v H' := by
 unfold oGtrK at h
 split at h
 ·rename_i n b off s hex hey
  obtain ⟨he1, hl1⟩ := hx x (.inl rfl) _ hex
  obtain ⟨L, cap, hL, he2, h2, hs, h3⟩ := hx y (.inr rfl) _ hey
  split at h
  ·rename_i hn
   split at h
   ·rename_i hh
    cases h
    obtain ⟨n', rfl⟩ := Int.eq_ofNat_of_zero_le (show (0 : Int) ≤ n by omega)
    have hle := hasAt_room (n := n') (by simpa using hh) hH hL hs (by omega) h3
    have hcmp : decide ((n' : Int) > (cap : Int)) = false := by simp; omega
    refine ⟨St.refl H, OpS.val hH hd (u := .bool false) ⟨rfl, rfl⟩ fun dst ty pos after guard => run_v ?_⟩
    rw [he1, he2, Sem.run_bind, eqGuard_at_int]
    simp only [Sem.run_pure, Result.andThen_ok]
    simp [binOp, Op.intCmp, hcmp]
    omega
   ·cases h
  ·cases h
 ·cases h
theorem oSliceK_ok {t : TypeId} {x hi : Operand} (h : oSliceK P E H t x hi = some (v, H')) (hx : ∀ z, z = x ∨ z = hi → ∀ a, E z = some a → VRel ρ a (ev z)) (hH : HRel ρ H w) (hd : Dom ρ H.n) :
  St H H' ∧ OpS P ρ ev H w (.slice t x none (some hi) none) v H' := by
 unfold oSliceK at h
 simp only [undT_eq] at h
 split at h
 ·rename_i e b off len s k n hu hex hey
  obtain ⟨L, cap, hL, he1, h1, h2, h3⟩ := hx x (.inl rfl) _ hex
  obtain ⟨he2, hl2⟩ := hx hi (.inr rfl) _ hey
  split at h
  ·rename_i ag sz hs
   split at h
   ·rename_i hc
    obtain ⟨rfl, hs0, hn⟩ := hc
    split at h
    ·rename_i hh
     cases h
     obtain ⟨n', rfl⟩ := Int.eq_ofNat_of_zero_le (show (0 : Int) ≤ n by omega)
     have hle := hasAt_room (n := n') (by simpa using hh) hH hL hs0 (by omega) h3
     have hb := run_bounds (P := P) (w := w) (isS := true) (len := len) (cap := cap) (lo := none) (hi := some n') (mx := none) (ul := none) (uh := some (.int k n')) (um := none) trivial ⟨k, rfl⟩ trivial (.inl rfl) (by simp) (.inl (by simpa using hle)) (by simp)
     simp only [Option.getD_none, Option.getD_some] at hb
     refine ⟨St.refl H, OpS.val hH hd (u := .slice (some ⟨L.B, L.o + off, none⟩) n' cap) ⟨L, cap, hL, rfl, hle, h2, h3⟩ fun dst ty pos after guard => run_v ?_⟩
     simp only [Instr.sliceAt, Sem.run_bind, run_underlying hu, Result.andThen_ok, Option.map_none, Option.map_some, he1, he2]
     simp only [Instr.slice, Sem.run_bind, run_underlying hu, Result.andThen_ok, hb, run_sizeOf hs, Sem.run_pure, Nat.sub_zero, Nat.zero_mul]
     congr 2
     split
     ·rfl
     ·simp [add_addr]
    ·cases h
   ·cases h
  ·cases h
 ·cases h
def isCmp : BinOp → Bool
 | .eql => true
 | .neq => true
 | .lss => true
 | .leq => true
 | .gtr => true
 | .geq => true
 | _ => false
def kindU : AV → Option IntKind
 | .one (.lit (.int k _)) => some k
 | .one (.un k) => some k
 | _ => none
noncomputable section
def oCmpU (E : Operand → Option AV) (H : HP) (op : BinOp) (x y : Operand) : RM :=
 match isCmp op, (E x).bind kindU, (E y).bind kindU with
 | true, some k, some k' => if k = k' then some [(.one (.lit (.bool false)), H), (.one (.lit (.bool true)), H)] else none
 | _, _, _ => none
def oLenU (P : Program) [Plain P] (E : Operand → Option AV) (H : HP) (args : Array Operand) (ats : Array TypeId) : R :=
 match listE E args.toList, ats.toList with
 | some [.one .us], t :: _ => match undT P t with
  | some (.slice _) => some (.one (.un .i64), H)
  | _ => none
 | _, _ => none
def orElseM (a b : RM) : RM :=
 match a with
 | some x => some x
 | none => b
end
theorem kindU_rel {x : AV} {u : Value} {k : IntKind} (h : kindU x = some k) (hx : VRel ρ x u) : ∃ n, u = .int k n := by
 unfold kindU at h
 split at h
 ·cases h; exact ⟨_, hx.1⟩
 ·cases h; obtain ⟨n, hn, _⟩ := hx; exact ⟨n, hn⟩
 ·cases h
theorem oCmpU_ok {op : BinOp} {t ty0 : TypeId} {x y : Operand} (h : oCmpU E H op x y = some outs) (hx : ∀ z, z = x ∨ z = y → ∀ a, E z = some a → VRel ρ a (ev z)) (hH : HRel ρ H w) (hd : Dom ρ H.n) :
  (∀ o ∈ outs, Sc H o.2) ∧ OpSM P ρ ev H w (.binOp op t x y ty0) outs := by
 unfold oCmpU at h
 split at h
 ·rename_i k k' hop hkx hky
  obtain ⟨a, hex, hka⟩ := bind_some' hkx
  obtain ⟨b, hey, hkb⟩ := bind_some' hky
  split at h
  ·rename_i hkk
   subst hkk
   cases h
   obtain ⟨n, hn⟩ := kindU_rel hka (hx x (.inl rfl) _ hex)
   obtain ⟨m, hm⟩ := kindU_rel hkb (hx y (.inr rfl) _ hey)
   refine ⟨fun o ho => ?_, fun dst ty pos after guard => ?_⟩
   ·rcases List.mem_cons.1 ho with rfl | ho
    ·exact Sc.refl _
    ·rw [List.mem_singleton.1 ho]; exact Sc.refl _
   ·have hrun : ∃ r : Bool, (do eqGuard op t x y (ev x) (ev y); binOp op t (ev x) (ev y) : Sem Value).run P w = .ok (.bool r) w := by
     rw [hn, hm, Sem.run_bind, eqGuard_at_int]
     simp only [Sem.run_pure, Result.andThen_ok]
     cases op <;> first | (cases hop; done) | exact ⟨_, by simp [binOp, Op.intCmp]; rfl⟩
    obtain ⟨r, hr⟩ := hrun
    have : (execOp ev ⟨dst, .binOp op t x y ty0, ty, pos, after, guard⟩).run P w = .ok (.value (.bool r)) w := run_v hr
    rw [this]
    cases r with
    | false => exact ⟨_, List.mem_cons_self .., ρ, ⟨rfl, rfl⟩, Sim.refl hH hd⟩
    | true => exact ⟨_, List.mem_cons_of_mem _ (List.mem_singleton.2 rfl), ρ, ⟨rfl, rfl⟩, Sim.refl hH hd⟩
  ·cases h
 ·cases h
theorem oLenU_ok {args : Array Operand} {ats : Array TypeId} (h : oLenU P E H args ats = some (v, H')) (hx : ∀ z ∈ args.toList, ∀ a, E z = some a → VRel ρ a (ev z)) (hH : HRel ρ H w) (hd : Dom ρ H.n) :
  St H H' ∧ OpS P ρ ev H w (.call ⟨.builtin .len, args, ats⟩) v H' := by
 unfold oLenU at h
 simp only [undT_eq] at h
 split at h
 ·rename_i t rest hl hat
  obtain ⟨y, hy, hx'⟩ := listE_one hl
  have hev := hx y (by rw [hy]; simp) _ hx'
  have hargs : args = #[y] := by rw [← Array.toList_inj]; simpa using hy
  have hats : ats[0]? = some t := by rw [← Array.getElem?_toList, hat]; rfl
  subst hargs
  split at h
  ·rename_i e hu
   cases h
   obtain ⟨a, n, c, he, h1⟩ := hev
   refine ⟨St.refl H, OpS.val hH hd (u := .int .i64 n) ⟨n, rfl, i64_ok h1⟩ fun dst ty pos after guard => ?_⟩
   simp [execOp, resolve, invoke, builtin, Builtin.len_, hats, run_underlying hu, he, goInt]
  ·cases h
 ·cases h
noncomputable def stepM (P : Program) [Plain P] (ora : OraM) (E : Operand → Option AV) (H : HP) (op : Op) : RM :=
 match op with
 | .call c => match c.callee with
  | .value f => oCallM ora E H f c.args
  | .builtin .cap => single (orElseR (stepA P ora.one E H op) (oCapK P E H c.args c.argTypes))
  | .builtin .len => single (orElseR (stepA P ora.one E H op) (oLenU P E H c.args c.argTypes))
  | _ => single (stepA P ora.one E H op)
 | .next x false => oNextM E H x
 | .binOp .gtr _ x y _ => orElseM (single (orElseR (stepA P ora.one E H op) (oGtrK E H x y))) (oCmpU E H .gtr x y)
 | .binOp o _ x y _ => orElseM (single (stepA P ora.one E H op)) (oCmpU E H o x y)
 | .slice t x none (some hi) none => single (orElseR (stepA P ora.one E H op) (oSliceK P E H t x hi))
 | op => single (stepA P ora.one E H op)
theorem orElseM_some {a b : RM} {x : List (AV × HP)} (h : orElseM a b = some x) : a = some x ∨ b = some x := by
 unfold orElseM at h
 split at h
 ·exact .inl h
 ·exact .inr h
theorem orElseR_some {a b : R} {x : AV × HP} (h : orElseR a b = some x) : a = some x ∨ b = some x := by
 unfold orElseR at h
 split at h
 ·exact .inl h
 ·exact .inr h
theorem stepM_ok (ho : OraMOK P ora) {op : Op} (h : stepM P ora E H op = some outs) (hx : ∀ x ∈ op.operands, ∀ a, E x = some a → VRel ρ a (ev x)) (hH : HRel ρ H w) (hd : Dom ρ H.n) (hj : J ρ H w) :
  (∀ o ∈ outs, Sc H o.2) ∧ OpSM P ρ ev H w op outs := by
 have two : ∀ (b : R), single (orElseR (stepA P ora.one E H op) b) = some outs → (∀ v H', b = some (v, H') → St H H' ∧ OpS P ρ ev H w op v H') → (∀ o ∈ outs, Sc H o.2) ∧ OpSM P ρ ev H w op outs := by
  intro b h hb
  obtain ⟨⟨v, H'⟩, h1, rfl⟩ := single_some h
  have key : St H H' ∧ OpS P ρ ev H w op v H' := by
   rcases orElseR_some h1 with h1 | h1
   ·exact stepA_ok ho.one h1 hx hH hd hj
   ·exact hb v H' h1
  exact ⟨fun o ho => by rw [List.mem_singleton.1 ho]; exact key.1.sc, key.2.many⟩
 have one : single (stepA P ora.one E H op) = some outs → (∀ o ∈ outs, Sc H o.2) ∧ OpSM P ρ ev H w op outs := by
  intro h
  obtain ⟨⟨v, H'⟩, h1, rfl⟩ := single_some h
  obtain ⟨k1, k2⟩ := stepA_ok ho.one h1 hx hH hd hj
  exact ⟨fun o ho => by rw [List.mem_singleton.1 ho]; exact k1.sc, k2.many⟩
 unfold stepM at h
 split at h
 ·rename_i c
  obtain ⟨callee, args, ats⟩ := c
  split at h
  ·rename_i f hc
   simp only at hc
   subst hc
   exact oCallM_ok ho h (fun z hz => hx z (by simp only [Op.operands, Call.operands, Array.mem_append]; rcases hz with rfl | hz <;> simp_all)) hH hd hj
  ·rename_i hc
   simp only at hc
   subst hc
   exact two _ h fun v H' hb => oCapK_ok hb (fun z hz => hx z (by simp only [Op.operands, Call.operands, Array.mem_append]; right; simpa using hz)) hH hd
  ·rename_i hc
   simp only at hc
   subst hc
   exact two _ h fun v H' hb => oLenU_ok hb (fun z hz => hx z (by simp only [Op.operands, Call.operands, Array.mem_append]; right; simpa using hz)) hH hd
  ·exact one h
 ·exact oNextM_ok h (hx _ (by simp [Op.operands])) hH hd
 ·rcases orElseM_some h with h | h
  ·exact two _ h fun v H' hb => oGtrK_ok hb (fun z hz => hx z (by rcases hz with rfl | rfl <;> simp [Op.operands])) hH hd
  ·exact oCmpU_ok h (fun z hz => hx z (by rcases hz with rfl | rfl <;> simp [Op.operands])) hH hd
 ·rcases orElseM_some h with h | h
  ·exact one h
  ·exact oCmpU_ok h (fun z hz => hx z (by rcases hz with rfl | rfl <;> simp [Op.operands])) hH hd
 ·exact two _ h fun v H' hb => oSliceK_ok hb (fun z hz => hx z (by rcases hz with rfl | rfl <;> simp [Op.operands])) hH hd
 ·exact one h
theorem stepM_no_defer {E : Operand → Option AV} {op : Op} (h : stepM P ora E H op = some outs) (c : Call) : op ≠ .defer c := by
 rintro rfl
 obtain ⟨x, h1, _⟩ := single_some (show single (stepA P ora.one E H (.defer c)) = some outs from h)
 exact absurd rfl (stepA_no_defer h1 c)
end
section
variable {P : Program} [Plain P] {ora : OraM} {n m : Nat} {r : Option Nat} {ρ : PM} {F F' : Fm} {H H' : HP} {a : Act} {w : World} {v : AV} {outs : List (AV × HP)}
theorem operM_ok (ho : OraMOK P ora) {o : Oper} {K : Act → World → Prop} {Q : Exit → Act → World → Prop} (h : stepM P ora (evF F) H o.op = some outs) (hp : ∀ x ∈ outs, ∃ F', putF n F o.dst x.1 = some F') (s : SRel n ρ F H a w)
  (hk : ∀ x ∈ outs, ∀ F', putF n F o.dst x.1 = some F' → ∀ ρ' a' w', SRel n ρ' F' x.2 a' w' → a'.defers = a.defers → Sim ρ H w ρ' x.2 w' → K a' w') : o.wpIn (WF r) m P a w K Q := by
 obtain ⟨hst, hop⟩ := stepM_ok (w := w) (ev := a.eval) (ρ := ρ) ho h (fun x _ v hv => evF_rel s.fr hv) s.hp s.dom s.j
 refine ⟨fun f _ => trivial, ?_⟩
 rw [Oper.semAt_eq _ _ _ (stepM_no_defer h)]
 obtain ⟨dst, op, ty, pos, after, guard⟩ := o
 refine upon_of_gives (hop dst ty pos after guard) fun u w' ⟨x, hx, ρ', hv, hs⟩ => ?_
 obtain ⟨F', hF⟩ := hp x hx
 exact hk x hx F' hF ρ' _ w' ⟨putF_rel (s.fr.mono hs.le) hv hF, hs.rel, hs.dom, s.j.step hs⟩ (put_defers _ _ _) hs
noncomputable section
def binMF (o : BinOp) (P : Program) (I : Plain P) (ora : OraM) (E : Operand → Option AV) (H : HP) (t : TypeId) (x y : Operand) (u : TypeId) : RM :=
 match o with
 | .gtr => stepM P ora E H (.binOp .gtr t x y u)
 | o => single (oBin P E H o t x y)
def callMF (c : Call) (P : Program) (I : Plain P) (ora : OraM) (E : Operand → Option AV) (H : HP) : RM :=
 match c.callee with
 | .value f => oCallM ora E H f c.args
 | .builtin b => stepM P ora E H (.call ⟨.builtin b, c.args, c.argTypes⟩)
 | .invoke r m => single none
def stepMFO (op : Op) : (P : Program) → Plain P → OraM → (Operand → Option AV) → HP → RM :=
 Op.rec (motive := fun _ => (P : Program) → Plain P → OraM → (Operand → Option AV) → HP → RM)
  (fun x P I ora E H => single (oMove E H x))
  (fun x P I ora E H => single (oMove E H x))
  (fun c a b P I ora E H => single (oPick E H c a b))
  (fun t P I ora E H => single (oAlloc P H t))
  (fun t x P I ora E H => single (oBox E H x))
  (fun t ps P I ora E H => single (oBuild P E H t ps))
  (fun t n ps P I ora E H => single (oBuildSlice P E H t n ps))
  (fun t m k x P I ora E H => single (oMapUpd P E H t m k x))
  (fun t x P I ora E H => single (oLoad P E H t x))
  (fun t x y P I ora E H => single (oStore P E H t x y))
  (fun g P I ora E H => single none)
  (fun g P I ora E H => single none)
  (fun x P I ora E H => single (oNil E H x))
  (fun o t x y u P I ora E H => binMF o P I ora E H t x y u)
  (fun o t x P I ora E H => single (oUn E H o x))
  (fun t u x P I ora E H => single (oConvert P E H t u x))
  (fun t x P I ora E H => single (oArrAt P E H t x))
  (fun t x P I ora E H => single none)
  (fun f xs cs P I ora E H => single (oMakeFunc E H f xs cs))
  (fun t r P I ora E H => single (oMakeMap E H r))
  (fun t x P I ora E H => single none)
  (fun t x y P I ora E H => single (oMakeSlice P E H t x y))
  (fun t x l h m P I ora E H => stepM P ora E H (.slice t x l h m))
  (fun t x f P I ora E H => single (oFieldAddr P E H t x f))
  (fun t x f P I ora E H => single (oField P E H t x f))
  (fun t x i P I ora E H => single (oIndexAddr P E H t x i))
  (fun t x i P I ora E H => single (oIndex P E H t x i))
  (fun t x i ok P I ora E H => single (oLookup P E H t x i ok))
  (fun t m k x P I ora E H => single (oMapUpd P E H t m k x))
  (fun t m k P I ora E H => single (oMapEntry P E H t m k))
  (fun t m s x P I ora E H => single (oEntryStore E H m s x))
  (fun t x P I ora E H => single (oRange P E H t x))
  (fun x s P I ora E H => stepM P ora E H (.next x s))
  (fun x P I ora E H => single (oEntry E H x))
  (fun x t u k P I ora E H => single none)
  (fun x i P I ora E H => single (oExtract E H x i))
  (fun c P I ora E H => callMF c P I ora E H)
  (fun c P I ora E H => single none)
  (fun c P I ora E H => single none)
  (fun x P I ora E H => single none)
  (fun c x P I ora E H => single none)
  (fun t c k P I ora E H => single none)
  (fun cs b P I ora E H => single none) op
def stepMF (op : Op) (P : Program) (I : Plain P) (ora : OraM) (E : Operand → Option AV) (H : HP) : RM :=
 match @symP P I E H op with
 | some r => some [r]
 | none => match stepMFO op P I ora E H with
  | some r => some r
  | none => stepM P ora E H op
end
theorem single_step {op : Op} {E : Operand → Option AV} {r : R} (hr : r = stepO P ora.one E H op) (hp : symP P E H op = none) (h : single r = some outs) : single (stepA P ora.one E H op) = some outs := by
 obtain ⟨x, h1, rfl⟩ := single_some h
 unfold stepA stepB
 rw [hp, ← hr, h1]
 rfl
theorem symP_stepM {op : Op} {E : Operand → Option AV} {r : AV × HP} (h : symP P E H op = some r) : stepM P ora E H op = some [r] := by
 have hA : stepA P ora.one E H op = some r := by unfold stepA; rw [h]
 have hs : single (stepA P ora.one E H op) = some [r] := by rw [hA]; rfl
 unfold symP at h
 split at h
 ·cases h
 ·split at h <;> first | exact hs | cases h
theorem stepMFO_spec {op : Op} {E : Operand → Option AV} (hp : symP P E H op = none) (h : stepMFO op P inferInstance ora E H = some outs) : stepM P ora E H op = some outs := by
 cases op with
 | binOp o t x y u =>
  cases o
  case gtr => exact h
  all_goals
   have h1 := single_step (ora := ora) (op := .binOp _ t x y u) rfl hp h
   show orElseM _ _ = _
   rw [h1]
   rfl
 | call c =>
  obtain ⟨callee, args, ats⟩ := c
  cases callee with
  | value f => exact h
  | builtin b => exact h
  | invoke r m => cases h
 | slice t x l hh m => exact h
 | next x s => exact h
 | _ => first | exact single_step (ora := ora) rfl hp h | cases h
theorem stepMF_spec {op : Op} {E : Operand → Option AV} (h : stepMF op P inferInstance ora E H = some outs) : stepM P ora E H op = some outs := by
 unfold stepMF at h
 split at h
 ·rename_i r hr
  cases h
  exact symP_stepM hr
 ·rename_i hp
  split at h
  ·rename_i r hr
   cases h
   exact stepMFO_spec hp hr
  ·exact h
theorem stepM_st (ho : OraMOK P ora) {E : Operand → Option AV} {op : Op} (h : stepM P ora E H op = some outs) : ∀ o ∈ outs, Sc H o.2 := by
 have two : ∀ (b : R), single (orElseR (stepA P ora.one E H op) b) = some outs → (∀ v H', b = some (v, H') → H' = H) → ∀ o ∈ outs, Sc H o.2 := by
  intro b h hb
  obtain ⟨⟨v, H'⟩, h1, rfl⟩ := single_some h
  intro o hm
  rw [List.mem_singleton.1 hm]
  rcases orElseR_some h1 with h1 | h1
  ·exact (stepA_st ho.one.st h1).sc
  ·rw [hb v H' h1]; exact Sc.refl _
 have one : single (stepA P ora.one E H op) = some outs → ∀ o ∈ outs, Sc H o.2 := by
  intro h
  obtain ⟨⟨v, H'⟩, h1, rfl⟩ := single_some h
  exact fun o hm => by rw [List.mem_singleton.1 hm]; exact (stepA_st ho.one.st h1).sc
 have cmp : ∀ {o : BinOp} {x y : Operand}, oCmpU E H o x y = some outs → ∀ o ∈ outs, Sc H o.2 := by
  intro o x y h
  unfold oCmpU at h
  repeat' (split at h)
  all_goals first
   | (cases h; done)
   | skip
  cases h
  intro p hp
  rcases List.mem_cons.1 hp with rfl | hp
  ·exact Sc.refl _
  ·rw [List.mem_singleton.1 hp]; exact Sc.refl _
 unfold stepM at h
 split at h
 ·rename_i c
  split at h
  ·unfold oCallM at h
   repeat' (split at h)
   all_goals first
    | (cases h; done)
    | exact (ho _ _ _ _ h).1
  ·refine two _ h fun v H' hb => ?_
   unfold oCapK at hb
   repeat' (split at hb)
   all_goals first
    | (cases hb; done)
    | (cases hb; rfl)
  ·refine two _ h fun v H' hb => ?_
   unfold oLenU at hb
   repeat' (split at hb)
   all_goals first
    | (cases hb; done)
    | (cases hb; rfl)
  ·exact one h
 ·exact fun o ho => (oNextM_st h o ho).sc
 ·rcases orElseM_some h with h | h
  ·refine two _ h fun v H' hb => ?_
   unfold oGtrK at hb
   repeat' (split at hb)
   all_goals first
    | (cases hb; done)
    | (cases hb; rfl)
  ·exact cmp h
 ·rcases orElseM_some h with h | h
  ·exact one h
  ·exact cmp h
 ·refine two _ h fun v H' hb => ?_
  unfold oSliceK at hb
  repeat' (split at hb)
  all_goals first
   | (cases hb; done)
   | (cases hb; rfl)
 ·exact one h
end
end Go.Sx

set_option linter.unusedSimpArgs false
set_option linter.unusedSectionVars false
set_option linter.unusedVariables false
namespace Go.Sx
variable [Sg]
noncomputable section
def eqNs : List Nat → List Nat → Bool
 | [], [] => true
 | a :: r, b :: s => Nat.beq a b && eqNs r s
 | _, _ => false
def eqB : Bool → Bool → Bool
 | true, true => true
 | false, false => true
 | _, _ => false
def eqPs : List (Nat × Nat) → List (Nat × Nat) → Bool
 | [], [] => true
 | (a, b) :: r, (c, d) :: s => Nat.beq a c && (Nat.beq b d && eqPs r s)
 | _, _ => false
def eqCel : Cel → Cel → Bool
 | .lit a, .lit b => eqV a b
 | .ptr a b, .ptr c d => Nat.beq a c && Nat.beq b d
 | .sl a b c d, .sl a' b' c' d' => Nat.beq a a' && (Nat.beq b b' && (Nat.beq c c' && Nat.beq d d'))
 | .su a b c d, .su a' b' c' d' => Nat.beq a a' && (Nat.beq b b' && (Nat.beq c c' && Nat.beq d d'))
 | .sz a b, .sz c d => Nat.beq a c && Nat.beq b d
 | .fn (.func f) xs, .fn (.func g) ys => Nat.beq f g && eqPs xs ys
 | .mp a, .mp b => Nat.beq a b
 | .us, .us => true
 | .un k, .un k' => decide (k = k')
 | .sv s G e, .sv s' G' e' => eqX e e' && (eqSrt s s' && eqNs G G')
 | .pv w G e i o, .pv w' G' e' i' o' => eqX e e' && (eqX i i' && (Nat.beq o o' && (eqSrts w w' && eqNs G G')))
 | .os z b n s G e, .os z' b' n' s' G' e' => Nat.beq b b' && (Nat.beq s s' && (eqX n n' && (eqB z z' && (eqNs G G' && eqX e e'))))
 | .po b s i o, .po b' s' i' o' => Nat.beq b b' && (Nat.beq s s' && (eqX i i' && Nat.beq o o'))
 | _, _ => false
def eqCels : List Cel → List Cel → Bool
 | [], [] => true
 | x :: xs, y :: ys => eqCel x y && eqCels xs ys
 | _, _ => false
def eqPart (p q : Bool × List Cel) : Bool := decide (p.1 = q.1) && eqCels p.2 q.2
def eqEnts : List Ent → List Ent → Bool
 | [], [] => true
 | x :: xs, y :: ys => eqPart x.1 y.1 && (eqPart x.2.1 y.2.1 && (Nat.beq x.2.2 y.2.2 && eqEnts xs ys))
 | _, _ => false
def eqCt : Ct → Ct → Bool
 | .c a, .c b => eqCel a b
 | .map es c, .map es' c' => eqEnts es es' && Nat.beq c c'
 | .rows w G e n, .rows w' G' e' n' => eqX e e' && (eqX n n' && (eqSrts w w' && eqNs G G'))
 | _, _ => false
def eqLB : List (Option Ct) → List (Option Ct) → Bool
 | [], [] => true
 | none :: r, none :: s => eqLB r s
 | some a :: r, some b :: s => eqCt a b && eqLB r s
 | _, _ => false
def eqBk : Bk → Bk → Bool
 | .lf a, .lf b => eqLB a b
 | .fl n a, .fl m b => Nat.beq n m && eqCel a b
 | .nd n l r, .nd m l' r' => Nat.beq n m && (eqBk l l' && eqBk r r')
 | _, _ => false
end
theorem eqNs_spec : ∀ {xs ys : List Nat}, eqNs xs ys = true → xs = ys
 | [], [], _ => rfl
 | a :: r, b :: s, h => by
  simp only [eqNs, Bool.and_eq_true] at h
  rw [Nat.eq_of_beq_eq_true h.1, eqNs_spec h.2]
 | [], _ :: _, h => by cases h
 | _ :: _, [], h => by cases h
theorem eqB_spec : ∀ {a b : Bool}, eqB a b = true → a = b
 | true, true, _ => rfl
 | false, false, _ => rfl
 | true, false, h => by cases h
 | false, true, h => by cases h
theorem eqPs_spec : ∀ {xs ys : List (Nat × Nat)}, eqPs xs ys = true → xs = ys
 | [], [], _ => rfl
 | (a, b) :: r, (c, d) :: s, h => by
  simp only [eqPs, Bool.and_eq_true] at h
  rw [Nat.eq_of_beq_eq_true h.1, Nat.eq_of_beq_eq_true h.2.1, eqPs_spec h.2.2]
 | [], _ :: _, h => by cases h
 | _ :: _, [], h => by cases h
theorem eqCel_spec {a b : Cel} (h : eqCel a b = true) : a = b := by
 unfold eqCel at h
 split at h
 ·rw [eqV_spec h]
 all_goals first
  | (cases h; done)
  | (simp only [Bool.and_eq_true] at h; obtain ⟨h1, h2, h3, h4⟩ := h; rw [Nat.eq_of_beq_eq_true h1, Nat.eq_of_beq_eq_true h2, Nat.eq_of_beq_eq_true h3, Nat.eq_of_beq_eq_true h4]; done)
  | (simp only [Bool.and_eq_true] at h; rw [Nat.eq_of_beq_eq_true h.1, Nat.eq_of_beq_eq_true h.2]; done)
  | (simp only [Bool.and_eq_true] at h; rw [Nat.eq_of_beq_eq_true h.1, eqPs_spec h.2]; done)
  | (rw [Nat.eq_of_beq_eq_true h]; done)
  | rfl
  | (rw [of_decide_eq_true h]; done)
  | (simp only [Bool.and_eq_true] at h; obtain ⟨h1, h2, h3⟩ := h; rw [eqX_spec h1, eqSrt_spec h2, eqNs_spec h3]; done)
  | (simp only [Bool.and_eq_true] at h; obtain ⟨h1, h2, h3, h4, h5⟩ := h; rw [eqX_spec h1, eqX_spec h2, Nat.eq_of_beq_eq_true h3, eqSrts_spec h4, eqNs_spec h5]; done)
  | (simp only [Bool.and_eq_true] at h; obtain ⟨h1, h2, h3, h4, h5, h6⟩ := h; rw [Nat.eq_of_beq_eq_true h1, Nat.eq_of_beq_eq_true h2, eqX_spec h3, eqB_spec h4, eqNs_spec h5, eqX_spec h6]; done)
  | (simp only [Bool.and_eq_true] at h; obtain ⟨h1, h2, h3, h4⟩ := h; rw [Nat.eq_of_beq_eq_true h1, Nat.eq_of_beq_eq_true h2, eqX_spec h3, Nat.eq_of_beq_eq_true h4]; done)
theorem eqCels_spec : ∀ {xs ys : List Cel}, eqCels xs ys = true → xs = ys
 | [], [], _ => rfl
 | x :: xs, y :: ys, h => by
  simp only [eqCels, Bool.and_eq_true] at h
  rw [eqCel_spec h.1, eqCels_spec h.2]
 | [], _ :: _, h => by cases h
 | _ :: _, [], h => by cases h
theorem eqPart_spec {p q : Bool × List Cel} (h : eqPart p q = true) : p = q := by
 simp only [eqPart, Bool.and_eq_true, decide_eq_true_eq] at h
 exact Prod.ext h.1 (eqCels_spec h.2)
theorem eqEnts_spec : ∀ {xs ys : List Ent}, eqEnts xs ys = true → xs = ys
 | [], [], _ => rfl
 | x :: xs, y :: ys, h => by
  simp only [eqEnts, Bool.and_eq_true] at h
  obtain ⟨h1, h2, h3, h4⟩ := h
  have : x = y := Prod.ext (eqPart_spec h1) (Prod.ext (eqPart_spec h2) (Nat.eq_of_beq_eq_true h3))
  rw [this, eqEnts_spec h4]
 | [], _ :: _, h => by cases h
 | _ :: _, [], h => by cases h
theorem eqCt_spec {a b : Ct} (h : eqCt a b = true) : a = b := by
 unfold eqCt at h
 split at h
 ·rw [eqCel_spec h]
 ·simp only [Bool.and_eq_true] at h; rw [eqEnts_spec h.1, Nat.eq_of_beq_eq_true h.2]
 ·simp only [Bool.and_eq_true] at h; obtain ⟨h1, h2, h3, h4⟩ := h; rw [eqX_spec h1, eqX_spec h2, eqSrts_spec h3, eqNs_spec h4]
 ·cases h
theorem eqLB_spec : ∀ {xs ys : List (Option Ct)}, eqLB xs ys = true → xs = ys
 | [], [], _ => rfl
 | none :: r, none :: s, h => by rw [eqLB_spec (show eqLB r s = true from h)]
 | some a :: r, some b :: s, h => by
  simp only [eqLB, Bool.and_eq_true] at h
  rw [eqCt_spec h.1, eqLB_spec h.2]
 | none :: _, some _ :: _, h => by cases h
 | some _ :: _, none :: _, h => by cases h
 | [], _ :: _, h => by cases h
 | none :: _, [], h => by cases h
 | some _ :: _, [], h => by cases h
theorem eqBk_spec : ∀ {xs ys : Bk}, eqBk xs ys = true → xs = ys
 | .lf a, .lf b, h => by rw [eqLB_spec (show eqLB a b = true from h)]
 | .fl n a, .fl m b, h => by
  simp only [eqBk, Bool.and_eq_true] at h
  rw [Nat.eq_of_beq_eq_true h.1, eqCel_spec h.2]
 | .nd n l r, .nd m l' r', h => by
  simp only [eqBk, Bool.and_eq_true] at h
  rw [Nat.eq_of_beq_eq_true h.1, eqBk_spec h.2.1, eqBk_spec h.2.2]
 | .lf _, .fl _ _, h => by cases h
 | .lf _, .nd _ _ _, h => by cases h
 | .fl _ _, .lf _, h => by cases h
 | .fl _ _, .nd _ _ _, h => by cases h
 | .nd _ _ _, .lf _, h => by cases h
 | .nd _ _ _, .fl _ _, h => by cases h
noncomputable section
def eqOB (a b : Option Bk) : Bool :=
 match a, b with
 | none, none => true
 | some x, some y => eqBk x y
 | _, _ => false
def sameB (H G : HP) (b : Nat) : Bool := Nat.ble (Nat.succ b) G.lo || eqOB (H.t.get b) (G.t.get b)
end
theorem eqOB_spec {a b : Option Bk} (h : eqOB a b = true) : a = b := by
 cases a <;> cases b <;> first | rfl | (cases h; done) | exact congrArg some (eqBk_spec h)
theorem sameB_spec {H G : HP} {b : Nat} (h : sameB H G b = true) (h1 : G.lo ≤ b) : H.t.get b = G.t.get b := by
 unfold sameB at h
 rw [Bool.or_eq_true] at h
 rcases h with h | h
 ·have := Nat.le_of_ble_eq_true h
  omega
 ·exact eqOB_spec h
end Go.Sx
