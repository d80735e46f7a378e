/-
  A second abstract evaluator of the model's code: steps that come to one of several outcomes; regions in the text's order. Conditions: none; nothing here speaks of one program.
  A second abstract evaluator of the model's code: marks of deferred calls that a loop over a function leaves. Conditions: none; nothing here speaks of one program.
  A second abstract evaluator of the model's code: an object that is laid without a block. Conditions: none; nothing here speaks of one program.
  A second abstract evaluator of the model's code: records of loops over functions. Conditions: none; nothing here speaks of one program.
-/
import Derived.Test.YtdkoockhfmbcaaaGreatDoorFuA
import Derived.Test.YtdkoockhfmbcaaaGreatDoorFvM
import Derived.Test.YtdkoockhfmbcaaaGreatDoorFvA
import Derived.Test.YtdkoockhfmbcaaaGreatDoorFvC
import Derived.RangeFuncMany
import Derived.RangeFuncRecord
set_option linter.unusedSectionVars false
set_option linter.unusedVariables false
namespace Go.Fv

/-! ### Lists of outcomes -/
/-- What a call comes to: one of these. -/
abbrev RM := Option (List (AV × HP))
abbrev OraM := Tg → List AV → HP → RM
noncomputable section
def oneL {α : Type} (x : Option (List α)) : Option α :=
  match x with
  | some [y] => some y
  | _ => none
def OraM.one (o : OraM) : Ora := fun t args H => oneL (o t args H)
def single {α : Type} (x : Option α) : Option (List α) :=
  match x with
  | some y => some [y]
  | none => none
def bindL {α β : Type} (f : α → Option (List β)) : List α → Option (List β)
  | [] => some []
  | [x] => f x
  | x :: y :: r => match f x, bindL f (y :: r) with
    | some a, some b => some (a ++ b)
    | _, _ => none
end
theorem bindL_spec {α β : Type} {f : α → Option (List β)} : ∀ {xs : List α} {ys : List β}, bindL f xs = some ys → (∀ x ∈ xs, ∃ zs, f x = some zs ∧ ∀ z ∈ zs, z ∈ ys) ∧ ∀ y ∈ ys, ∃ x ∈ xs, ∃ zs, f x = some zs ∧ y ∈ zs
  | [], ys, h => by
    cases h
    exact ⟨fun x hx => (by cases hx), fun x hx => (by cases hx)⟩
  | [x], ys, h => by
    have h' : f x = some ys := h
    exact ⟨fun y hy => by rw [List.mem_singleton.1 hy]; exact ⟨ys, h', fun z hz => hz⟩, fun y hy => ⟨x, by simp, ys, h', hy⟩⟩
  | x :: y :: r, ys, h => by
    simp only [bindL] at h
    cases h1 : f x with
    | none => rw [h1] at h; cases h
    | some a =>
      cases h2 : bindL f (y :: r) with
      | none => rw [h1, h2] at h; cases h
      | some b =>
        rw [h1, h2] at h
        cases h
        obtain ⟨k1, k2⟩ := bindL_spec h2
        refine ⟨fun z hz => ?_, fun z hz => ?_⟩
        · rcases List.mem_cons.1 hz with rfl | hz
          · exact ⟨a, h1, fun z hz => List.mem_append_left _ hz⟩
          · obtain ⟨zs, g1, g2⟩ := k1 z hz
            exact ⟨zs, g1, fun u hu => List.mem_append_right _ (g2 u hu)⟩
        · rcases List.mem_append.1 hz with hz | hz
          · exact ⟨x, List.mem_cons_self .., a, h1, hz⟩
          · obtain ⟨x', g1, g2⟩ := k2 z hz
            exact ⟨x', List.mem_cons_of_mem _ g1, g2⟩
theorem single_some {α : Type} {x : Option α} {l : List α} (h : single x = some l) : ∃ y, x = some y ∧ l = [y] := by
  cases x with
  | none => cases h
  | some y => cases h; exact ⟨y, rfl, rfl⟩
theorem oneL_some {α : Type} {x : Option (List α)} {y : α} (h : oneL x = some y) : x = some [y] := by
  unfold oneL at h
  split at h
  · cases h; rfl
  · cases h

def PostM (ρ : PM) (H : HP) (w : World) (outs : List (AV × HP)) : Value → World → Prop := fun u w' => ∃ o ∈ outs, Post ρ H w o.1 o.2 u w'
def OraMOK (P : Program) (ora : OraM) : Prop :=
  ∀ (t : Tg) (args : List AV) (H : HP) (outs : List (AV × HP)), ora t args H = some outs → (∀ o ∈ outs, St H o.2) ∧
    ∀ (ρ : PM) (w : World) (us : Array Value) (s : Sem Next), TgRun ρ us s t → All2 (VRel ρ) args us.toList → HRel ρ H w → Dom ρ H.n → J ρ w → GivesR P (PostM ρ H w outs) (s.run P w)
theorem OraMOK.one {P : Program} {ora : OraM} (h : OraMOK P ora) : OraOK P ora.one := by
  intro t args H v H' hr
  obtain ⟨h1, h2⟩ := h t args H _ (oneL_some hr)
  refine ⟨h1 _ (List.mem_singleton.2 rfl), fun ρ w us s hs hu hH hd hj => GivesR.mono (fun u w' ⟨o, ho, hp⟩ => ?_) (h2 ρ w us s hs hu hH hd hj)⟩
  rw [List.mem_singleton.1 ho] at hp
  exact hp

def OpSM (P : Program) (ρ : PM) (ev : Operand → Value) (H : HP) (w : World) (op : Op) (outs : List (AV × HP)) : Prop :=
  ∀ (dst : Option Tmp) (ty : TypeId) (pos : String) (after : Array Edge) (guard : Option (Nat × Bool)), GivesR P (PostM ρ H w outs) ((execOp ev ⟨dst, op, ty, pos, after, guard⟩).run P w)
theorem OpS.many {P : Program} {ρ : PM} {ev : Operand → Value} {H H' : HP} {w : World} {op : Op} {v : AV} (h : OpS P ρ ev H w op v H') : OpSM P ρ ev H w op [(v, H')] := fun dst ty pos after guard =>
  GivesR.mono (fun _ _ hp => ⟨_, List.mem_singleton.2 rfl, hp⟩) (h dst ty pos after guard)

section
variable {P : Program} [Plain P] {ora : OraM} {E : Operand → Option AV} {H H' : HP} {w : World} {ρ : PM} {ev : Operand → Value} {v : AV} {outs : List (AV × HP)}

/-! ### Calls -/
noncomputable def oCallM (ora : OraM) (E : Operand → Option AV) (H : HP) (f : Operand) (args : Array Operand) : RM :=
  match E f, listE E args.toList with
  | some (.one (.lit (.func (.func g) a b))), some vs => if a.size = 0 ∧ b.size = 0 then ora (.f g) vs H else none
  | some (.one (.fn (.func g) caps)), some vs => ora (.f g) (vs ++ ptrs caps) H
  | some (.one (.yd b)), some vs => ora (.y b) vs H
  | _, _ => none

theorem oCallM_ok (ho : OraMOK P ora) {f : Operand} {args : Array Operand} {ats : Array TypeId} (h : oCallM ora E H f args = some outs) (hx : ∀ z, (z = f ∨ z ∈ args.toList) → ∀ a, E z = some a → VRel ρ a (ev z)) (hH : HRel ρ H w) (hd : Dom ρ H.n) (hj : J ρ w) :
    (∀ o ∈ outs, St H o.2) ∧ OpSM P ρ ev H w (.call ⟨.value f, args, ats⟩) outs := by
  unfold oCallM at h
  split at h
  · rename_i g a b vs hf hl
    split at h
    · rename_i hab
      obtain ⟨hst, hg⟩ := ho _ _ _ _ h
      obtain ⟨hev, _⟩ := hx f (.inl rfl) _ hf
      have hus := listE_rel (ρ := ρ) (ev := ev) (xs := args.toList) (fun x hx' v hv => hx x (.inr hx') v hv) hl
      refine ⟨hst, fun dst ty pos after guard => ?_⟩
      have ha : a = #[] := Array.eq_empty_of_size_eq_zero hab.1
      have hb : b = #[] := Array.eq_empty_of_size_eq_zero hab.2
      subst ha
      subst hb
      have hrun : (execOp ev ⟨dst, .call ⟨.value f, args, ats⟩, ty, pos, after, guard⟩).run P w = (callFunc g (args.map ev)).run P w := by
        simp [execOp, resolve, hev, Deferred.ofValue, invoke]
      rw [hrun]
      exact hg ρ w _ _ rfl (by simpa using hus) hH hd hj
    · cases h
  · rename_i g caps vs hf hl
    obtain ⟨hst, hg⟩ := ho _ _ _ _ h
    obtain ⟨us, hev, hcaps⟩ := hx f (.inl rfl) _ hf
    have hus := listE_rel (ρ := ρ) (ev := ev) (xs := args.toList) (fun x hx' v hv => hx x (.inr hx') v hv) hl
    refine ⟨hst, fun dst ty pos after guard => ?_⟩
    have hrun : (execOp ev ⟨dst, .call ⟨.value f, args, ats⟩, ty, pos, after, guard⟩).run P w = (callFunc g (args.map ev ++ us)).run P w := by
      simp [execOp, resolve, hev, Deferred.ofValue, invoke]
    rw [hrun]
    exact hg ρ w _ _ rfl (by simpa using hus.append (ptrs_rel hcaps)) hH hd hj
  · rename_i b vs hf hl
    obtain ⟨hst, hg⟩ := ho _ _ _ _ h
    obtain ⟨L, hL, hev⟩ := hx f (.inl rfl) _ hf
    have hus := listE_rel (ρ := ρ) (ev := ev) (xs := args.toList) (fun x hx' v hv => hx x (.inr hx') v hv) hl
    refine ⟨hst, fun dst ty pos after guard => ?_⟩
    have hrun : (execOp ev ⟨dst, .call ⟨.value f, args, ats⟩, ty, pos, after, guard⟩).run P w = (Instr.yield L.B (args.map ev)).run P w := by
      simp [execOp, resolve, hev, Deferred.ofValue, invoke]
    rw [hrun]
    exact hg ρ w _ _ ⟨L, hL, rfl⟩ (by simpa using hus) hH hd hj
  · cases h

/-! ### The next entry of a map -/
theorem arr_empty {α : Type} (a : Array α) : a.isEmpty = a.toList.isEmpty := by
  obtain ⟨l⟩ := a
  cases l <;> simp
theorem ents_all {es : List Ent} {ms : List MapEntry} {k : Nat} (h : All2 (EntRel ρ) es ms) : (ms.all fun e => decide (e.born ≥ k)) = es.all fun e => decide (e.2.2 ≥ k) := by
  induction es generalizing ms with
  | nil => cases ms with | nil => rfl | cons _ _ => exact h.elim
  | cons e es ih =>
    cases ms with
    | nil => exact h.elim
    | cons m ms =>
      obtain ⟨⟨_, _, hb⟩, h2⟩ := h
      simp only [List.all_cons, hb, ih h2]
theorem ents_empty {es : List Ent} {ms : List MapEntry} (h : All2 (EntRel ρ) es ms) : ms.isEmpty = es.isEmpty := by
  have := h.length
  rw [Bool.eq_iff_iff, List.isEmpty_iff_length_eq_zero, List.isEmpty_iff_length_eq_zero, this]

theorem next_fin {b m : Nat} {it : IterC} {es : List Ent} {clock : Nat} {arr : Array MapEntry} {L K : Loc} {x : Operand} {Z : Prop} {ty : TypeId} (hrel : All2 (EntRel ρ) es arr.toList)
    (hgi : (getObj L.B).run P w = .ok (.mapIter (some K.B) it.since it.seen.toArray it.stepped) w) (hgm : (getObj K.B).run P w = .ok (.map arr clock) w)
    (hcond : (!it.seen.toArray.isEmpty && !arr.isEmpty && arr.all fun e => decide (e.born ≥ it.stepped)) = false) (hL0 : L.o = 0) (hv : ev x = .pointer (some ⟨L.B, 0 + 0, none⟩)) (hxv : E x = some (.one (.ptr b 0))) (hH : HRel ρ H w) (hd : Dom ρ H.n) (hL : ρ b = some L)
    (hit : H.t.get b = some (.lf [some (.iter it.m it.since it.seen it.stepped)])) (hms : it.m = some m) (hheap : w.heap[L.B]? = some (.mapIter (some K.B) it.since it.seen.toArray it.stepped)) (hK : ρ m = some K)
    (fin : ∀ (u : Value) (w' : World), (Instr.next (ev x) false ty).run P w = .ok u w' → PostM ρ H w ((cands it.since it.seen es).map (nextTo H b it clock)) u w' → Z) : Z := by
  generalize hC : ((if ((arr.filter fun e => !it.seen.toArray.contains e.born).filter fun e => decide (e.born < it.since)).isEmpty then #[none] else #[]) ++
      ((arr.filter fun e => !it.seen.toArray.contains e.born).filter (fun e => decide (e.born < it.since)) ++ (arr.filter fun e => !it.seen.toArray.contains e.born).filter fun e => decide (e.born ≥ it.since)).map some : Array (Option MapEntry)) = C
  have hsz : 0 < C.size := by
    rw [← hC]
    by_cases he : ((arr.filter fun e => !it.seen.toArray.contains e.born).filter fun e => decide (e.born < it.since)).isEmpty = true
    · rw [if_pos he]; simp only [Array.size_append, List.size_toArray, List.length_cons, List.length_nil]; omega
    · rw [if_neg he]
      have : 0 < ((arr.filter fun e => !it.seen.toArray.contains e.born).filter fun e => decide (e.born < it.since)).size := by
        rw [Array.isEmpty_iff_size_eq_zero] at he
        omega
      simp only [Array.size_append, Array.size_map]
      omega
  obtain ⟨k, w1, hk, hch, hw1⟩ : ∃ k w1, k < C.size ∧ (choose (.mapNext C.size)).run P w = .ok k w1 ∧ (w1 = w ∨ w1 = w.drew) := by
    rw [run_choose_drew]
    by_cases hf : (Question.mapNext C.size).forced = true
    · rw [if_pos hf]; exact ⟨0, w, hsz, rfl, .inl rfl⟩
    · rw [if_neg hf]; exact ⟨_, w.drew, Nat.mod_lt _ hsz, rfl, .inr rfl⟩
  have hs1 : Sim ρ H w ρ H w1 := by
    rcases hw1 with rfl | rfl
    · exact Sim.refl hH hd
    · exact Sim.same hH hd rfl rfl rfl rfl
  have hheap1 : w1.heap = w.heap := by rcases hw1 with rfl | rfl <;> rfl
  have hCk : C[k]? = some C[k] := Array.getElem?_eq_getElem hk
  obtain ⟨a, ha, hac⟩ := cands_rel (since := it.since) (seen := it.seen) hrel k C[k] (by
    rw [← hCk, ← Array.getElem?_toList]
    congr 1
    rw [← hC]
    simp only [List.contains_toArray, Array.toList_append, Array.toList_map, Array.toList_filter]
    congr 1
    rw [arr_empty, Array.toList_filter, Array.toList_filter]
    split <;> rfl)
  have hrun : ∀ u w2, (match C[k]? with
      | some (some e) => do setObj L.B (.mapIter (some K.B) it.since (it.seen.toArray.push e.born) clock); pure (.tuple #[.bool true, e.key, e.val])
      | some none => pure (.tuple #[.bool false])
      | none => stuck "Next: no such candidate" : Sem Value).run P w1 = .ok u w2 → (Instr.next (ev x) false ty).run P w = .ok u w2 := by
    intro u w2 h
    rw [hv]
    simp only [Instr.next, Sem.run_bind, hgi, Result.andThen_ok, hgm, hcond, Bool.false_eq_true, if_false, Sem.run_pure, hC, hch]
    exact h
  rw [hCk] at hrun
  have hmem : nextTo H b it clock a ∈ (cands it.since it.seen es).map (nextTo H b it clock) := List.mem_map.2 ⟨a, List.mem_of_getElem? ha, rfl⟩
  cases hcc : C[k] with
  | none =>
    rw [hcc] at hrun hac
    cases a with
    | some e => exact hac.elim
    | none => exact fin _ w1 (hrun _ w1 rfl) ⟨_, hmem, ρ, ⟨_, rfl, ⟨rfl, rfl⟩, trivial⟩, hs1⟩
  | some e' =>
    rw [hcc] at hrun hac
    cases a with
    | none => exact hac.elim
    | some e =>
      obtain ⟨h1, h2, h3⟩ := hac
      have hset := run_setObj_at' (P := P) (w := w1) (r := L.B) (.mapIter (some K.B) it.since (it.seen.toArray.push e'.born) clock) (by rw [hheap1]; exact hheap) (fun _ _ _ h => by cases h)
      refine fin (.tuple #[.bool true, e'.key, e'.val]) (w1.putObj L.B (.mapIter (some K.B) it.since (it.seen.toArray.push e'.born) clock)) (hrun _ _ ?_) ⟨_, hmem, ρ, ⟨_, rfl, ⟨rfl, rfl⟩, h1, h2, trivial⟩, ?_⟩
      · simp only [Sem.run_bind, hset, Result.andThen_ok, Sem.run_pure]
      · refine hs1.trans hd (Sim.put1 (o := .mapIter (some K.B) it.since it.seen.toArray it.stepped) hs1.rel hd hL hit (by rw [hheap1]; exact hheap) (fun _ _ _ h => by cases h) ?_)
        have hlt : L.B < w1.heap.size := by rw [hheap1]; exact (Array.getElem?_eq_some_iff.1 hheap).1
        refine ⟨rfl, hL0, some K.B, ?_, ?_⟩
        · rw [World.putObj_heap_same hlt, h3]
          simp
        · rw [hms]
          exact ⟨K, hK, rfl⟩

theorem oNextM_ok {x : Operand} (h : oNextM E H x = some outs) (hx : ∀ a, E x = some a → VRel ρ a (ev x)) (hH : HRel ρ H w) (hd : Dom ρ H.n) : (∀ o ∈ outs, St H o.2) ∧ OpSM P ρ ev H w (.next x false) outs := by
  refine ⟨oNextM_st h, fun dst ty pos after guard => ?_⟩
  unfold oNextM at h
  have fin : ∀ (u : Value) (w' : World), (Instr.next (ev x) false ty).run P w = .ok u w' → PostM ρ H w outs u w' → GivesR P (PostM ρ H w outs) ((execOp ev ⟨dst, .next x false, ty, pos, after, guard⟩).run P w) := fun u w' hrun hp => by
    have : (execOp ev ⟨dst, .next x false, ty, pos, after, guard⟩).run P w = .ok (.value u) w' := run_v hrun
    rw [this]
    exact hp
  split at h
  · rename_i b hxv
    obtain ⟨L, hL, hv⟩ := hx _ hxv
    split at h
    · rename_i it hit
      have hit' := iterAt_spec hit
      obtain ⟨_, hL0, mm, hheap, hm⟩ := hH.rel b 0 _ L (cell_one hit').1 hL
      have hgi := run_getObj_at (P := P) hheap (fun _ _ _ h => by cases h)
      rw [hL0] at hv
      split at h
      · rename_i hmn
        cases h
        rw [hmn] at hm
        simp only at hm
        subst hm
        refine fin (.tuple #[.bool false]) w ?_ ⟨_, List.mem_singleton.2 rfl, ρ, ⟨_, rfl, ⟨rfl, rfl⟩, trivial⟩, Sim.refl hH hd⟩
        simp [Instr.next, hv, hgi]
      · rename_i m hms
        rw [hms] at hm
        obtain ⟨K, hK, rfl⟩ := hm
        split at h
        · rename_i es clock hmap
          split at h
          · rename_i hcond
            cases h
            obtain ⟨_, arr, hmheap, hrel⟩ := map_world hH hK hmap
            have hgm := run_getMap (P := P) hmheap
            refine next_fin hrel hgi hgm ?_ hL0 hv hxv hH hd hL hit' hms hheap hK fin
            rw [← hcond, ← Array.all_toList, ents_all hrel, arr_empty arr, ents_empty hrel, arr_empty]
          · cases h
        · cases h
    · cases h
  · cases h

/-! ### Slices that go to their object's end -/
noncomputable section
/-- What stands at a place of a block. -/
def Bk.peek (k : Bk) (i : Nat) : Option Ct :=
  Bk.rec (motive := fun _ => Nat → Option Ct) (fun l i => match dropN i l with
    | x :: _ => x
    | [] => none) (fun n c i => match Nat.ble (Nat.succ i) n with
    | true => some (.c c)
    | false => none) (fun n _ _ gl gr i => match Nat.ble (Nat.succ i) n with
    | true => gl i
    | false => gr (Nat.sub i n)) k i
/-- Is there a cell at a place? -/
def HP.hasAt (H : HP) (b i : Nat) : Bool :=
  match H.t.get b with
  | some k => match k.peek i with
    | some (.c _) => true
    | some .room => true
    | _ => false
  | none => false
def oCapK (P : Program) [Plain P] (E : Operand → Option AV) (H : HP) (args : Array Operand) (ats : Array TypeId) : R :=
  match listE E args.toList, ats.toList with
  | some [.one (.su b off _ s)], t :: _ => match undT P t, Nat.ble 1 s with
    | some (.slice _), true => some (.one (.kp b off s), H)
    | _, _ => none
  | _, _ => none
def oGtrK (E : Operand → Option AV) (H : HP) (x y : Operand) : R :=
  match E x, E y with
  | some (.one (.lit (.int .i64 n))), some (.one (.kp b off s)) => if 0 < n then match H.hasAt b (off + n.toNat * s - 1) with
      | true => some (.one (.lit (.bool false)), H)
      | false => none
    else none
  | _, _ => none
def oSliceK (P : Program) [Plain P] (E : Operand → Option AV) (H : HP) (t : TypeId) (x hi : Operand) : R :=
  match undT P t, E x, E hi with
  | some (.slice e), some (.one (.su b off _ s)), some (.one (.lit (.int _ n))) => match szA P e with
    | some (_, sz) => if s = sz ∧ 0 < sz ∧ 0 < n then match H.hasAt b (off + n.toNat * s - 1) with
        | true => some (.one (.su b off n.toNat s), H)
        | false => none
      else none
    | none => none
  | _, _, _ => none
def orElseR (a b : R) : R :=
  match a with
  | some x => some x
  | none => b
end
theorem Bk.peek_eq : ∀ (k : Bk) (i : Nat), k.peek i = k.get i
  | .lf l, i => by
    show (match dropN i l with | x :: _ => x | [] => none) = (l[i]?).join
    rw [dropN_eq]
    split
    · rename_i x r hd
      have : l[i]? = some x := by
        have := congrArg (·[0]?) hd
        simpa using this
      rw [this]
      rfl
    · rename_i hd
      rw [List.getElem?_eq_none (by simpa using hd)]
      rfl
  | .fl n c, i => by
    show (match Nat.ble (Nat.succ i) n with | true => some (.c c) | false => none) = if i < n then some (Ct.c c) else none
    split
    · rename_i hb; rw [if_pos (show i < n from Nat.le_of_ble_eq_true hb)]
    · rename_i hb; rw [if_neg (by have := ble_false hb; omega)]
  | .nd n l r, i => by
    show (match Nat.ble (Nat.succ i) n with | true => l.peek i | false => r.peek (i - n)) = if i < n then l.get i else r.get (i - n)
    split
    · rename_i hb; rw [if_pos (show i < n from Nat.le_of_ble_eq_true hb), Bk.peek_eq l i]
    · rename_i hb; rw [if_neg (by have := ble_false hb; omega), Bk.peek_eq r]
theorem HP.hasAt_spec {b i : Nat} (h : H.hasAt b i = true) : ∃ c, H.cell b i = some c ∧ c.plc := by
  unfold HP.hasAt at h
  split at h
  · rename_i k hk
    rw [Bk.peek_eq] at h
    have hg : H.cell b i = k.get i := by unfold HP.cell; rw [hk]; rfl
    split at h
    · rename_i x hx; exact ⟨_, hg.trans hx, trivial⟩
    · rename_i hx; exact ⟨_, hg.trans hx, trivial⟩
    · cases h
  · cases h
theorem hasAt_room {b off s cap : Nat} {n : Nat} {L : Loc} (h : H.hasAt b (off + n * s - 1) = true) (hH : HRel ρ H w) (hL : ρ b = some L) (hs : 0 < s) (hn : 0 < n) (he : L.o + off + cap * s = L.C) : n ≤ cap := by
  obtain ⟨c, hc, hp⟩ := HP.hasAt_spec h
  obtain ⟨arr, t, fr, _, _, e3, e4⟩ := plc_rel (hH.rel b _ c L hc hL) hp
  have h1 : 0 < n * s := Nat.mul_pos hn hs
  have h2 : n * s ≤ cap * s := by omega
  exact Nat.le_of_mul_le_mul_right h2 hs

theorem oCapK_ok {args : Array Operand} {ats : Array TypeId} (h : oCapK P E H args ats = some (v, H')) (hx : ∀ z ∈ args.toList, ∀ a, E z = some a → VRel ρ a (ev z)) (hH : HRel ρ H w) (hd : Dom ρ H.n) :
    St H H' ∧ OpS P ρ ev H w (.call ⟨.builtin .cap, args, ats⟩) v H' := by
  unfold oCapK at h
  simp only [undT_eq] at h
  split at h
  · rename_i b off len s t rest hl hat
    obtain ⟨y, hy, hx'⟩ := listE_one hl
    have hev := hx y (by rw [hy]; simp) _ hx'
    have hargs : args = #[y] := by rw [← Array.toList_inj]; simpa using hy
    have hats : ats[0]? = some t := by rw [← Array.getElem?_toList, hat]; rfl
    subst hargs
    split at h
    · rename_i e hu hs
      cases h
      obtain ⟨L, cap, hL, he, h1, h2, h3⟩ := hev
      refine ⟨St.refl H, OpS.val hH hd (u := .int .i64 cap) ⟨L, cap, hL, rfl, h2, Nat.le_of_ble_eq_true hs, h3⟩ fun dst ty pos after guard => ?_⟩
      simp [execOp, resolve, invoke, builtin, Builtin.cap_, hats, run_underlying hu, he, goInt]
    · cases h
  · cases h

theorem oGtrK_ok {t ty0 : TypeId} {x y : Operand} (h : oGtrK E H x y = some (v, H')) (hx : ∀ z, z = x ∨ z = y → ∀ a, E z = some a → VRel ρ a (ev z)) (hH : HRel ρ H w) (hd : Dom ρ H.n) :
    St H H' ∧ OpS P ρ ev H w (.binOp .gtr t x y ty0) v H' := by
  unfold oGtrK at h
  split at h
  · rename_i n b off s hex hey
    obtain ⟨he1, hl1⟩ := hx x (.inl rfl) _ hex
    obtain ⟨L, cap, hL, he2, h2, hs, h3⟩ := hx y (.inr rfl) _ hey
    split at h
    · rename_i hn
      split at h
      · rename_i hh
        cases h
        obtain ⟨n', rfl⟩ := Int.eq_ofNat_of_zero_le (show (0 : Int) ≤ n by omega)
        have hle := hasAt_room (n := n') (by simpa using hh) hH hL hs (by omega) h3
        have hcmp : decide ((n' : Int) > (cap : Int)) = false := by simp; omega
        refine ⟨St.refl H, OpS.val hH hd (u := .bool false) ⟨rfl, rfl⟩ fun dst ty pos after guard => run_v ?_⟩
        rw [he1, he2, Sem.run_bind, eqGuard_at_int]
        simp only [Sem.run_pure, Result.andThen_ok]
        simp [binOp, Op.intCmp, hcmp]
        omega
      · cases h
    · cases h
  · cases h

theorem oSliceK_ok {t : TypeId} {x hi : Operand} (h : oSliceK P E H t x hi = some (v, H')) (hx : ∀ z, z = x ∨ z = hi → ∀ a, E z = some a → VRel ρ a (ev z)) (hH : HRel ρ H w) (hd : Dom ρ H.n) :
    St H H' ∧ OpS P ρ ev H w (.slice t x none (some hi) none) v H' := by
  unfold oSliceK at h
  simp only [undT_eq] at h
  split at h
  · rename_i e b off len s k n hu hex hey
    obtain ⟨L, cap, hL, he1, h1, h2, h3⟩ := hx x (.inl rfl) _ hex
    obtain ⟨he2, hl2⟩ := hx hi (.inr rfl) _ hey
    split at h
    · rename_i ag sz hs
      split at h
      · rename_i hc
        obtain ⟨rfl, hs0, hn⟩ := hc
        split at h
        · rename_i hh
          cases h
          obtain ⟨n', rfl⟩ := Int.eq_ofNat_of_zero_le (show (0 : Int) ≤ n by omega)
          have hle := hasAt_room (n := n') (by simpa using hh) hH hL hs0 (by omega) h3
          have hb := run_bounds (P := P) (w := w) (isS := true) (len := len) (cap := cap) (lo := none) (hi := some n') (mx := none) (ul := none) (uh := some (.int k n')) (um := none) trivial ⟨k, rfl⟩ trivial (.inl rfl) (by simp) (.inl (by simpa using hle)) (by simp)
          simp only [Option.getD_none, Option.getD_some] at hb
          refine ⟨St.refl H, OpS.val hH hd (u := .slice (some ⟨L.B, L.o + off, none⟩) n' cap) ⟨L, cap, hL, rfl, hle, h2, h3⟩ fun dst ty pos after guard => run_v ?_⟩
          simp only [Instr.sliceAt, Sem.run_bind, run_underlying hu, Result.andThen_ok, Option.map_none, Option.map_some, he1, he2]
          simp only [Instr.slice, Sem.run_bind, run_underlying hu, Result.andThen_ok, hb, run_sizeOf hs, Sem.run_pure, Nat.sub_zero, Nat.zero_mul]
          congr 2
          split
          · rfl
          · simp [add_addr]
        · cases h
      · cases h
    · cases h
  · cases h

/-! ### Integers and slices of which nothing is known -/
def isCmp : BinOp → Bool
  | .eql => true
  | .neq => true
  | .lss => true
  | .leq => true
  | .gtr => true
  | .geq => true
  | _ => false
def kindU : AV → Option IntKind
  | .one (.lit (.int k _)) => some k
  | .one (.un k) => some k
  | _ => none
noncomputable section
def oCmpU (E : Operand → Option AV) (H : HP) (op : BinOp) (x y : Operand) : RM :=
  match isCmp op, (E x).bind kindU, (E y).bind kindU with
  | true, some k, some k' => if k = k' then some [(.one (.lit (.bool false)), H), (.one (.lit (.bool true)), H)] else none
  | _, _, _ => none
def oLenU (P : Program) [Plain P] (E : Operand → Option AV) (H : HP) (args : Array Operand) (ats : Array TypeId) : R :=
  match listE E args.toList, ats.toList with
  | some [.one .us], t :: _ => match undT P t with
    | some (.slice _) => some (.one (.un .i64), H)
    | _ => none
  | _, _ => none
def orElseM (a b : RM) : RM :=
  match a with
  | some x => some x
  | none => b
end
theorem kindU_rel {x : AV} {u : Value} {k : IntKind} (h : kindU x = some k) (hx : VRel ρ x u) : ∃ n, u = .int k n := by
  unfold kindU at h
  split at h
  · cases h; exact ⟨_, hx.1⟩
  · cases h; obtain ⟨n, hn, _⟩ := hx; exact ⟨n, hn⟩
  · cases h
theorem oCmpU_ok {op : BinOp} {t ty0 : TypeId} {x y : Operand} (h : oCmpU E H op x y = some outs) (hx : ∀ z, z = x ∨ z = y → ∀ a, E z = some a → VRel ρ a (ev z)) (hH : HRel ρ H w) (hd : Dom ρ H.n) :
    (∀ o ∈ outs, St H o.2) ∧ OpSM P ρ ev H w (.binOp op t x y ty0) outs := by
  unfold oCmpU at h
  split at h
  · rename_i k k' hop hkx hky
    obtain ⟨a, hex, hka⟩ := bind_some' hkx
    obtain ⟨b, hey, hkb⟩ := bind_some' hky
    split at h
    · rename_i hkk
      subst hkk
      cases h
      obtain ⟨n, hn⟩ := kindU_rel hka (hx x (.inl rfl) _ hex)
      obtain ⟨m, hm⟩ := kindU_rel hkb (hx y (.inr rfl) _ hey)
      refine ⟨fun o ho => ?_, fun dst ty pos after guard => ?_⟩
      · rcases List.mem_cons.1 ho with rfl | ho
        · exact St.refl _
        · rw [List.mem_singleton.1 ho]; exact St.refl _
      · have hrun : ∃ r : Bool, (do eqGuard op t x y (ev x) (ev y); binOp op t (ev x) (ev y) : Sem Value).run P w = .ok (.bool r) w := by
          rw [hn, hm, Sem.run_bind, eqGuard_at_int]
          simp only [Sem.run_pure, Result.andThen_ok]
          cases op <;> first | (cases hop; done) | exact ⟨_, by simp [binOp, Op.intCmp]; rfl⟩
        obtain ⟨r, hr⟩ := hrun
        have : (execOp ev ⟨dst, .binOp op t x y ty0, ty, pos, after, guard⟩).run P w = .ok (.value (.bool r)) w := run_v hr
        rw [this]
        cases r with
        | false => exact ⟨_, List.mem_cons_self .., ρ, ⟨rfl, rfl⟩, Sim.refl hH hd⟩
        | true => exact ⟨_, List.mem_cons_of_mem _ (List.mem_singleton.2 rfl), ρ, ⟨rfl, rfl⟩, Sim.refl hH hd⟩
    · cases h
  · cases h
theorem oLenU_ok {args : Array Operand} {ats : Array TypeId} (h : oLenU P E H args ats = some (v, H')) (hx : ∀ z ∈ args.toList, ∀ a, E z = some a → VRel ρ a (ev z)) (hH : HRel ρ H w) (hd : Dom ρ H.n) :
    St H H' ∧ OpS P ρ ev H w (.call ⟨.builtin .len, args, ats⟩) v H' := by
  unfold oLenU at h
  simp only [undT_eq] at h
  split at h
  · rename_i t rest hl hat
    obtain ⟨y, hy, hx'⟩ := listE_one hl
    have hev := hx y (by rw [hy]; simp) _ hx'
    have hargs : args = #[y] := by rw [← Array.toList_inj]; simpa using hy
    have hats : ats[0]? = some t := by rw [← Array.getElem?_toList, hat]; rfl
    subst hargs
    split at h
    · rename_i e hu
      cases h
      obtain ⟨a, n, c, he, h1⟩ := hev
      refine ⟨St.refl H, OpS.val hH hd (u := .int .i64 n) ⟨n, rfl, i64_ok h1⟩ fun dst ty pos after guard => ?_⟩
      simp [execOp, resolve, invoke, builtin, Builtin.len_, hats, run_underlying hu, he, goInt]
    · cases h
  · cases h

/-! ### One operation -/
noncomputable def stepM (P : Program) [Plain P] (ora : OraM) (E : Operand → Option AV) (H : HP) (op : Op) : RM :=
  match op with
  | .call c => match c.callee with
    | .value f => oCallM ora E H f c.args
    | .builtin .cap => single (orElseR (stepA P ora.one E H op) (oCapK P E H c.args c.argTypes))
    | .builtin .len => single (orElseR (stepA P ora.one E H op) (oLenU P E H c.args c.argTypes))
    | _ => single (stepA P ora.one E H op)
  | .next x false => oNextM E H x
  | .binOp .gtr _ x y _ => orElseM (single (orElseR (stepA P ora.one E H op) (oGtrK E H x y))) (oCmpU E H .gtr x y)
  | .binOp o _ x y _ => orElseM (single (stepA P ora.one E H op)) (oCmpU E H o x y)
  | .slice t x none (some hi) none => single (orElseR (stepA P ora.one E H op) (oSliceK P E H t x hi))
  | op => single (stepA P ora.one E H op)

theorem orElseM_some {a b : RM} {x : List (AV × HP)} (h : orElseM a b = some x) : a = some x ∨ b = some x := by
  unfold orElseM at h
  split at h
  · exact .inl h
  · exact .inr h
theorem orElseR_some {a b : R} {x : AV × HP} (h : orElseR a b = some x) : a = some x ∨ b = some x := by
  unfold orElseR at h
  split at h
  · exact .inl h
  · exact .inr h
theorem stepM_ok (ho : OraMOK P ora) {op : Op} (h : stepM P ora E H op = some outs) (hx : ∀ x ∈ op.operands, ∀ a, E x = some a → VRel ρ a (ev x)) (hH : HRel ρ H w) (hd : Dom ρ H.n) (hj : J ρ w) :
    (∀ o ∈ outs, St H o.2) ∧ OpSM P ρ ev H w op outs := by
  have two : ∀ (b : R), single (orElseR (stepA P ora.one E H op) b) = some outs → (∀ v H', b = some (v, H') → St H H' ∧ OpS P ρ ev H w op v H') → (∀ o ∈ outs, St H o.2) ∧ OpSM P ρ ev H w op outs := by
    intro b h hb
    obtain ⟨⟨v, H'⟩, h1, rfl⟩ := single_some h
    have key : St H H' ∧ OpS P ρ ev H w op v H' := by
      rcases orElseR_some h1 with h1 | h1
      · exact stepA_ok ho.one h1 hx hH hd hj
      · exact hb v H' h1
    exact ⟨fun o ho => by rw [List.mem_singleton.1 ho]; exact key.1, key.2.many⟩
  have one : single (stepA P ora.one E H op) = some outs → (∀ o ∈ outs, St H o.2) ∧ OpSM P ρ ev H w op outs := by
    intro h
    obtain ⟨⟨v, H'⟩, h1, rfl⟩ := single_some h
    obtain ⟨k1, k2⟩ := stepA_ok ho.one h1 hx hH hd hj
    exact ⟨fun o ho => by rw [List.mem_singleton.1 ho]; exact k1, k2.many⟩
  unfold stepM at h
  split at h
  · rename_i c
    obtain ⟨callee, args, ats⟩ := c
    split at h
    · rename_i f hc
      simp only at hc
      subst hc
      exact oCallM_ok ho h (fun z hz => hx z (by simp only [Op.operands, Call.operands, Array.mem_append]; rcases hz with rfl | hz <;> simp_all)) hH hd hj
    · rename_i hc
      simp only at hc
      subst hc
      exact two _ h fun v H' hb => oCapK_ok hb (fun z hz => hx z (by simp only [Op.operands, Call.operands, Array.mem_append]; right; simpa using hz)) hH hd
    · rename_i hc
      simp only at hc
      subst hc
      exact two _ h fun v H' hb => oLenU_ok hb (fun z hz => hx z (by simp only [Op.operands, Call.operands, Array.mem_append]; right; simpa using hz)) hH hd
    · exact one h
  · exact oNextM_ok h (hx _ (by simp [Op.operands])) hH hd
  · rcases orElseM_some h with h | h
    · exact two _ h fun v H' hb => oGtrK_ok hb (fun z hz => hx z (by rcases hz with rfl | rfl <;> simp [Op.operands])) hH hd
    · exact oCmpU_ok h (fun z hz => hx z (by rcases hz with rfl | rfl <;> simp [Op.operands])) hH hd
  · rcases orElseM_some h with h | h
    · exact one h
    · exact oCmpU_ok h (fun z hz => hx z (by rcases hz with rfl | rfl <;> simp [Op.operands])) hH hd
  · exact two _ h fun v H' hb => oSliceK_ok hb (fun z hz => hx z (by rcases hz with rfl | rfl <;> simp [Op.operands])) hH hd
  · exact one h

theorem stepM_no_defer {E : Operand → Option AV} {op : Op} (h : stepM P ora E H op = some outs) (c : Call) : op ≠ .defer c := by
  rintro rfl
  obtain ⟨x, h1, _⟩ := single_some (show single (stepA P ora.one E H (.defer c)) = some outs from h)
  exact absurd rfl (stepA_no_defer h1 c)
end

section
variable {P : Program} [Plain P] {ora : OraM} {n m : Nat} {r : Option Nat} {ρ : PM} {F F' : Fm} {H H' : HP} {a : Act} {w : World} {v : AV} {outs : List (AV × HP)}

theorem operM_ok (ho : OraMOK P ora) {o : Oper} {K : Act → World → Prop} {Q : Exit → Act → World → Prop} (h : stepM P ora (evF F) H o.op = some outs) (hp : ∀ x ∈ outs, ∃ F', putF n F o.dst x.1 = some F') (s : SRel n ρ F H a w)
    (hk : ∀ x ∈ outs, ∀ F', putF n F o.dst x.1 = some F' → ∀ ρ' a' w', SRel n ρ' F' x.2 a' w' → a'.defers = a.defers → Sim ρ H w ρ' x.2 w' → K a' w') : o.wpIn (WF r) m P a w K Q := by
  obtain ⟨hst, hop⟩ := stepM_ok (w := w) (ev := a.eval) (ρ := ρ) ho h (fun x _ v hv => evF_rel s.fr hv) s.hp s.dom s.j
  refine ⟨fun f _ => trivial, ?_⟩
  rw [Oper.semAt_eq _ _ _ (stepM_no_defer h)]
  obtain ⟨dst, op, ty, pos, after, guard⟩ := o
  refine upon_of_gives (hop dst ty pos after guard) fun u w' ⟨x, hx, ρ', hv, hs⟩ => ?_
  obtain ⟨F', hF⟩ := hp x hx
  exact hk x hx F' hF ρ' _ w' ⟨putF_rel (s.fr.mono hs.le) hv hF, hs.rel, hs.dom, s.j.step hs⟩ (put_defers _ _ _) hs

/-! ### A region in the text's order -/
noncomputable section
/-- A test or a sum, as stepM has it. -/
def binMF (o : BinOp) (P : Program) (I : Plain P) (ora : OraM) (E : Operand → Option AV) (H : HP) (t : TypeId) (x y : Operand) (u : TypeId) : RM :=
  match o with
  | .gtr => stepM P ora E H (.binOp .gtr t x y u)
  | o => orElseM (single (oBin P E H o t x y)) (oCmpU E H o x y)
def callMF (c : Call) (P : Program) (I : Plain P) (ora : OraM) (E : Operand → Option AV) (H : HP) : RM :=
  match c.callee with
  | .value f => oCallM ora E H f c.args
  | .builtin b => stepM P ora E H (.call ⟨.builtin b, c.args, c.argTypes⟩)
  | .invoke r m => single none
/-- The same, by the recursor, with arms that hold no variable: cheap for the kernel. -/
def stepMF (op : Op) : (P : Program) → Plain P → OraM → (Operand → Option AV) → HP → RM :=
  Op.rec (motive := fun _ => (P : Program) → Plain P → OraM → (Operand → Option AV) → HP → RM)
    (fun x P I ora E H => single (oMove E H x))
    (fun x P I ora E H => single (oMove E H x))
    (fun c a b P I ora E H => single (oPick E H c a b))
    (fun t P I ora E H => single (oAlloc P H t))
    (fun t x P I ora E H => single (oBox E H x))
    (fun t ps P I ora E H => single (oBuild P E H t ps))
    (fun t n ps P I ora E H => single (oBuildSlice P E H t n ps))
    (fun t m k x P I ora E H => single (oMapUpd P E H t m k x))
    (fun t x P I ora E H => single (oLoad P E H t x))
    (fun t x y P I ora E H => single (oStore P E H t x y))
    (fun g P I ora E H => single none)
    (fun g P I ora E H => single none)
    (fun x P I ora E H => single (oNil E H x))
    (fun o t x y u P I ora E H => binMF o P I ora E H t x y u)
    (fun o t x P I ora E H => single (oUn E H o x))
    (fun t u x P I ora E H => single (oConvert P E H t u x))
    (fun t x P I ora E H => single (oArrAt P E H t x))
    (fun t x P I ora E H => single none)
    (fun f xs cs P I ora E H => single (oMakeFunc E H f xs cs))
    (fun t r P I ora E H => single (oMakeMap E H r))
    (fun t x P I ora E H => single none)
    (fun t x y P I ora E H => single (oMakeSlice P E H t x y))
    (fun t x l h m P I ora E H => stepM P ora E H (.slice t x l h m))
    (fun t x f P I ora E H => single (oFieldAddr P E H t x f))
    (fun t x f P I ora E H => single (oField P E H t x f))
    (fun t x i P I ora E H => single (oIndexAddr P E H t x i))
    (fun t x i P I ora E H => single (oIndex P E H t x i))
    (fun t x i ok P I ora E H => single (oLookup P E H t x i ok))
    (fun t m k x P I ora E H => single (oMapUpd P E H t m k x))
    (fun t m k P I ora E H => single (oMapEntry P E H t m k))
    (fun t m s x P I ora E H => single (oEntryStore E H m s x))
    (fun t x P I ora E H => single (oRange P E H t x))
    (fun x s P I ora E H => stepM P ora E H (.next x s))
    (fun x P I ora E H => single (oEntry E H x))
    (fun x t u k P I ora E H => single none)
    (fun x i P I ora E H => single (oExtract E H x i))
    (fun c P I ora E H => callMF c P I ora E H)
    (fun c P I ora E H => single none)
    (fun c P I ora E H => single none)
    (fun x P I ora E H => single none)
    (fun c x P I ora E H => single none)
    (fun t c k P I ora E H => single none)
    (fun cs b P I ora E H => single none) op
end
theorem stepMF_eq (P : Program) [I : Plain P] (ora : OraM) (E : Operand → Option AV) (H : HP) (op : Op) : stepMF op P I ora E H = stepM P ora E H op := by
  cases op with
  | binOp o t x y u => cases o <;> rfl
  | call c =>
    obtain ⟨callee, args, ats⟩ := c
    cases callee <;> rfl
  | slice t x l h m => rfl
  | next x s => rfl
  | _ => rfl

noncomputable def seqM (P : Program) [Plain P] (ora : OraM) (n : Nat) (ops : List Oper) : List Oper → Fm → HP → Option (List (Fm × HP))
  | [], F, H => some [(F, H)]
  | o :: rest, F, H =>
    match wantF ops F o.guard with
    | some true => match stepMF o.op P inferInstance ora (evF F) H with
      | some outs => bindL (fun x => match putF n F o.dst x.1 with
        | some F' => seqM P ora n ops rest F' x.2
        | none => none) outs
      | none => none
    | some false => match putF n F o.dst undefA with
      | some F' => seqM P ora n ops rest F' H
      | none => none
    | none => none

theorem stepM_st (ho : OraMOK P ora) {E : Operand → Option AV} {op : Op} (h : stepM P ora E H op = some outs) : ∀ o ∈ outs, St H o.2 := by
  have two : ∀ (b : R), single (orElseR (stepA P ora.one E H op) b) = some outs → (∀ v H', b = some (v, H') → H' = H) → ∀ o ∈ outs, St H o.2 := by
    intro b h hb
    obtain ⟨⟨v, H'⟩, h1, rfl⟩ := single_some h
    intro o hm
    rw [List.mem_singleton.1 hm]
    rcases orElseR_some h1 with h1 | h1
    · exact stepA_st ho.one.st h1
    · rw [hb v H' h1]; exact St.refl _
  have one : single (stepA P ora.one E H op) = some outs → ∀ o ∈ outs, St H o.2 := by
    intro h
    obtain ⟨⟨v, H'⟩, h1, rfl⟩ := single_some h
    exact fun o hm => by rw [List.mem_singleton.1 hm]; exact stepA_st ho.one.st h1
  have cmp : ∀ {o : BinOp} {x y : Operand}, oCmpU E H o x y = some outs → ∀ o ∈ outs, St H o.2 := by
    intro o x y h
    unfold oCmpU at h
    repeat' (split at h)
    all_goals first
      | (cases h; done)
      | skip
    cases h
    intro p hp
    rcases List.mem_cons.1 hp with rfl | hp
    · exact St.refl _
    · rw [List.mem_singleton.1 hp]; exact St.refl _
  unfold stepM at h
  split at h
  · rename_i c
    split at h
    · unfold oCallM at h
      repeat' (split at h)
      all_goals first
        | (cases h; done)
        | exact (ho _ _ _ _ h).1
    · refine two _ h fun v H' hb => ?_
      unfold oCapK at hb
      repeat' (split at hb)
      all_goals first
        | (cases hb; done)
        | (cases hb; rfl)
    · refine two _ h fun v H' hb => ?_
      unfold oLenU at hb
      repeat' (split at hb)
      all_goals first
        | (cases hb; done)
        | (cases hb; rfl)
    · exact one h
  · exact oNextM_st h
  · rcases orElseM_some h with h | h
    · refine two _ h fun v H' hb => ?_
      unfold oGtrK at hb
      repeat' (split at hb)
      all_goals first
        | (cases hb; done)
        | (cases hb; rfl)
    · exact cmp h
  · rcases orElseM_some h with h | h
    · exact one h
    · exact cmp h
  · refine two _ h fun v H' hb => ?_
    unfold oSliceK at hb
    repeat' (split at hb)
    all_goals first
      | (cases hb; done)
      | (cases hb; rfl)
  · exact one h

theorem seqM_wp (ho : OraMOK P ora) {ops : List Oper} {Q : Exit → Act → World → Prop} : ∀ (rest : List Oper) {ρ : PM} {F : Fm} {H : HP} {a : Act} {w : World} {res : List (Fm × HP)},
    seqM P ora n ops rest F H = some res → SRel n ρ F H a w → (∀ x ∈ res, ∀ ρ' a' w', SRel n ρ' x.1 x.2 a' w' → a'.defers = a.defers → Sim ρ H w ρ' x.2 w' → Q .normal a' w') → wpListIn (WF r) m P ops.toArray Q rest a w
  | [], ρ, F, H, a, w, res, h, s, hq => by cases h; exact hq _ (List.mem_singleton.2 rfl) ρ a w s rfl (Sim.refl s.hp s.dom)
  | o :: rest, ρ, F, H, a, w, res, h, s, hq => by
    simp only [seqM] at h
    split at h
    · rename_i hw
      have hwant := wantF_ok s.fr hw
      split at h
      · rename_i outs hstep
        rw [stepMF_eq] at hstep
        obtain ⟨h1, h2⟩ := bindL_spec h
        simp only [wpListIn]
        rw [if_pos hwant]
        have hput : ∀ x ∈ outs, ∃ F', putF n F o.dst x.1 = some F' ∧ ∃ zs, seqM P ora n ops rest F' x.2 = some zs ∧ ∀ z ∈ zs, z ∈ res := by
          intro x hx
          obtain ⟨zs, h3, h4⟩ := h1 x hx
          split at h3
          · rename_i F' hp
            exact ⟨F', hp, zs, h3, h4⟩
          · cases h3
        refine operM_ok ho hstep (fun x hx => let ⟨F', h3, _⟩ := hput x hx; ⟨F', h3⟩) s fun x hx F' hF ρ' a' w' s' hd hs => ?_
        obtain ⟨F2, h3, zs, h4, h5⟩ := hput x hx
        rw [hF] at h3
        cases h3
        exact seqM_wp ho rest h4 s' fun y hy ρ2 a2 w2 s2 hd2 hs2 => hq y (h5 y hy) ρ2 a2 w2 s2 (hd2.trans hd) (hs.trans s.dom hs2)
      · cases h
    · rename_i hw
      have hwant := wantF_ok s.fr hw
      split at h
      · rename_i F1 hput
        simp only [wpListIn]
        rw [if_neg (by rw [hwant]; simp)]
        refine ⟨fun f _ => trivial, ?_⟩
        exact seqM_wp ho rest h ⟨putF_rel s.fr (undef_rel ρ) hput, s.hp, s.dom, s.j⟩ fun x hx ρ2 a2 w2 s2 hd2 hs2 => hq x hx ρ2 a2 w2 s2 (hd2.trans (put_defers _ _ _)) hs2
      · cases h
    · cases h

theorem seqM_st (ho : OraMOK P ora) {ops : List Oper} : ∀ (rest : List Oper) {F : Fm} {H : HP} {res : List (Fm × HP)}, seqM P ora n ops rest F H = some res → ∀ x ∈ res, St H x.2
  | [], F, H, res, h => by cases h; exact fun x hx => by rw [List.mem_singleton.1 hx]; exact St.refl _
  | o :: rest, F, H, res, h => by
    simp only [seqM] at h
    split at h
    · split at h
      · rename_i outs hstep
        rw [stepMF_eq] at hstep
        obtain ⟨h1, h2⟩ := bindL_spec h
        intro x hx
        obtain ⟨y, hy, zs, h3, h4⟩ := h2 x hx
        split at h3
        · exact (stepM_st ho hstep y hy).trans (seqM_st ho rest h3 x h4)
        · cases h3
      · cases h
    · split at h
      · exact seqM_st ho rest h
      · cases h
    · cases h

theorem wp_seqM (ho : OraMOK P ora) {id : Nat} {ops : List Oper} {Q : Exit → Act → World → Prop} {res : List (Fm × HP)} (h : seqM P ora n ops ops F H = some res) (s : SRel n ρ F H a w)
    (hq : ∀ x ∈ res, ∀ ρ' a' w', SRel n ρ' x.1 x.2 a' w' → a'.defers = a.defers → Sim ρ H w ρ' x.2 w' → Q .normal a' w') : (Code.region id ops.toArray false).wpIn (WF r) m P Q a w :=
  wpIn_region_lit (seqM_wp ho ops h s hq)
end
end Go.Fv

set_option linter.unusedSectionVars false
set_option linter.unusedVariables false
namespace Go.Fv

/-- Each deferred entry is the mark of a block that holds no call, on which no known block lies, from object m on; no two are one. -/
def DfOK (ρ : PM) (H : HP) (w : World) (m : Nat) : List Deferred → Prop
  | [] => True
  | d :: ds => (∃ D : Nat, d = { target := .collected D, args := #[] } ∧ m ≤ D ∧ w.heap[D]? = some (.deferred (some [])) ∧ (∀ b L, H.Kn b → ρ b = some L → L.B ≠ D) ∧ ∀ d' ∈ ds, ∀ D', d'.target = .collected D' → D' ≠ D) ∧ DfOK ρ H w m ds
theorem DfOK.nil (ρ : PM) (H : HP) (w : World) (m : Nat) : DfOK ρ H w m [] := trivial

theorem DfOK.step {ρ ρ' : PM} {H H' : HP} {w w' : World} {m : Nat} (hd : Dom ρ H.n) (s : Sim ρ H w ρ' H' w') : ∀ {ds : List Deferred}, DfOK ρ H w m ds → DfOK ρ' H' w' m ds
  | [], _ => trivial
  | d :: ds, ⟨⟨D, h1, hm, h2, h3, h7⟩, h⟩ => by
    have hlt := (Array.getElem?_eq_some_iff.1 h2).1
    refine ⟨⟨D, h1, hm, by rw [s.fr D hlt h3]; exact h2, fun b L hk hL he => ?_, h7⟩, DfOK.step hd s h⟩
    cases hb : ρ b with
    | some L0 =>
      have := s.le b L0 hb
      rw [hL] at this
      cases this
      exact h3 b L (s.kn (hd.lt hb) hk) hb he
    | none =>
      rcases s.new b L hb hL with h4 | ⟨b0, L0, h4, h5, h6⟩
      · omega
      · exact h3 b0 L0 h4 h5 (h6.trans he)
end Go.Fv

set_option linter.unusedSectionVars false
set_option linter.unusedVariables false
namespace Go.Fv

theorem Sim.laid {ρ : PM} {H : HP} {w : World} {o : Obj} (h : HRel ρ H w) (hd : Dom ρ H.n) : Sim ρ H w ρ H (w.alloc o) := by
  have hk : ∀ k, k < w.heap.size → (w.alloc o).heap[k]? = w.heap[k]? := fun k hk => by rw [heap_alloc, if_neg (by omega)]
  exact {
    le := PM.le.refl ρ
    grow := Nat.le_refl _
    dom := hd
    rel := ⟨fun b i c L hc hL => (h.rel b i c L hc hL).of_heap (hk _ (h.rel b i c L hc hL).lt), h.inj⟩
    knc := fun _ _ _ h => h
    frc := fun b L i ⟨j, c, hc⟩ _ hL _ => SameAt.of_heap (hk _ (h.rel b j c L hc hL).lt) _
    fr := fun k hk' _ => hk k hk'
    new := fun b L h1 h2 => by rw [h1] at h2; cases h2
    size := by simp
    os := rfl
    tape := rfl
    output := rfl
    old := fun b L h1 h2 => by rw [h1] at h2; cases h2 }
end Go.Fv

set_option linter.unusedSectionVars false
set_option linter.unusedVariables false
namespace Go.Fv
variable {P : Program} [Plain P] {n : Nat} {H H' : HP} {w : World} {ρ : PM}

structure LoopC where
  st : LoopState
  pend : Option Code
  n : Nat
  F : Fm
  ps : Array Tmp
  assign : Code
  body : Code
def LoopC.ct (l : LoopC) : Ct := .loop l.st l.pend l.n l.F l.ps l.assign l.body
noncomputable section
def loopAt (H : HP) (b : Nat) : Option LoopC :=
  match H.t.get b with
  | some (.lf [some (.loop st pend n F ps assign body)]) => some ⟨st, pend, n, F, ps, assign, body⟩
  | _ => none
end

theorem loopAt_spec {b : Nat} {l : LoopC} (h : loopAt H b = some l) : H.cell b 0 = some l.ct ∧ ∀ i, i ≠ 0 → H.cell b i = none := by
  unfold loopAt at h
  split at h
  · rename_i st pend n F ps assign body hk
    cases h
    refine ⟨by unfold HP.cell; rw [hk]; rfl, fun i hi => ?_⟩
    obtain ⟨j, rfl⟩ := Nat.exists_eq_succ_of_ne_zero hi
    unfold HP.cell
    rw [hk]
    rfl
  · cases h


/-- The record is another. -/
theorem Sim.record {b : Nat} {l l' : LoopC} {L : Loc} {r r' : Loop} (hH : HRel ρ H w) (hd : Dom ρ H.n) (hL : ρ b = some L) (hl : loopAt H b = some l) (hr : w.heap[L.B]? = some (.loop r)) (hsame : l'.n = l.n ∧ l'.F = l.F ∧ l'.ps = l.ps ∧ l'.assign = l.assign ∧ l'.body = l.body)
    (hr' : r' = { r with state := l'.st, pending := l'.pend }) : Sim ρ H w ρ (H.obj b l'.ct) (w.putObj L.B (.loop r')) := by
  obtain ⟨hc, hone⟩ := loopAt_spec hl
  obtain ⟨h1, h2, r0, g1, g2, g3, g4, g5, g6, g7, g8⟩ := hH.rel b 0 _ L hc hL
  rw [hr] at g1
  cases g1
  obtain ⟨e1, e2, e3, e4, e5⟩ := hsame
  have hlt := (Array.getElem?_eq_some_iff.1 hr).1
  refine Sim.setObj hH hd hL ⟨_, hc⟩ hone (fun arr t fr h => by rw [hr] at h; cases h) ?_ (fun k hk => World.putObj_heap_other hk) (by simp [World.putObj]) rfl rfl rfl
  refine ⟨rfl, h2, r', World.putObj_heap_same hlt, ?_⟩
  subst hr'
  exact ⟨rfl, rfl, by rw [e3]; exact g4, by rw [e4]; exact g5, by rw [e5]; exact g6, by rw [e1]; exact g7, by rw [e2]; exact g8⟩

theorem loop_rel {b : Nat} {l : LoopC} {L : Loc} (hH : HRel ρ H w) (hL : ρ b = some L) (hl : loopAt H b = some l) : ∃ r : Loop, w.heap[L.B]? = some (.loop r) ∧ r.state = l.st ∧ r.pending = l.pend ∧ r.params = l.ps ∧ r.assign = l.assign ∧ r.body = l.body ∧ FRel l.n ρ l.F ⟨r.tmps, []⟩ := by
  obtain ⟨hc, hone⟩ := loopAt_spec hl
  obtain ⟨h1, h2, r0, g1, g2, g3, g4, g5, g6, g7, g8⟩ := hH.rel b 0 _ L hc hL
  exact ⟨r0, g1, g2, g3, g4, g5, g6, g7, g8⟩


/-- The frame is in a round of that loop, or in none. -/
def RR (ρ : PM) : Option Nat → Option Nat → Prop
  | none, none => True
  | some b, some l => ∃ L, ρ b = some L ∧ L.B = l
  | _, _ => False
theorem RR.mono {ρ' : PM} (h : PM.le ρ ρ') : ∀ {rb r : Option Nat}, RR ρ rb r → RR ρ' rb r
  | none, none, _ => trivial
  | some _, some _, ⟨L, h1, h2⟩ => ⟨L, h _ _ h1, h2⟩
  | none, some _, hh => hh.elim
  | some _, none, hh => hh.elim

theorem run_enterLoop_inner {lz : Nat} {r0 : Loop} (fn : FuncId) (tmps : Array Value) (ps : Array Tmp) (assign body : Code) (h : w.heap[lz]? = some (.loop r0)) :
    (Instr.enterLoop fn tmps ps assign body (some lz)).run P w = .ok (w.heap.size, []) (w.alloc (.loop { state := .ready, pending := none, fn, tmps, params := ps, assign, body, defers := r0.defers })) := by
  unfold Instr.enterLoop
  simp only [Sem.run_bind, run_getLoop h, run_newObj_alloc, Result.andThen, Sem.run_pure]

noncomputable def aroundOK (H : HP) : Option Nat → Bool
  | none => true
  | some b => (loopAt H b).isSome

/-- A loop over a function is entered: its record is a new block. -/
theorem enter_ok {F : Fm} {a : Act} {rb r : Option Nat} {m0 : Nat} {ps : Array Tmp} {assign body : Code} (s : SRel n ρ F H a w) (hr : RR ρ rb r) (ha : aroundOK H rb = true) (hm0 : m0 ≤ w.heap.size) (df : DfOK ρ H w m0 a.defers) (fn : FuncId) :
    ∃ (l : Nat) (mark : List Deferred) (w₁ : World) (ρ1 : PM), (Instr.enterLoop fn a.tmps ps assign body r).run P w = .ok (l, mark) w₁ ∧ Sim ρ H w ρ1 (H.push (.lf [some (.loop .ready none n F ps assign body)])) w₁ ∧ ρ1 H.n = some ⟨l, 0, 0⟩ ∧
      DfOK ρ1 (H.push (.lf [some (.loop .ready none n F ps assign body)])) w₁ m0 (mark ++ a.defers) := by
  have hrec : ∀ (w0 : World) (df0 : Nat), HRel ρ H w0 → Sim ρ H w0 (upd ρ H.n ⟨w0.heap.size, 0, 0⟩) (H.push (.lf [some (.loop .ready none n F ps assign body)])) (w0.alloc (.loop { state := .ready, pending := none, fn, tmps := a.tmps, params := ps, assign, body, defers := df0 })) := by
    intro w0 df0 hH0
    have hle : PM.le ρ (upd ρ H.n ⟨w0.heap.size, 0, 0⟩) := upd_le (s.dom _ (Nat.le_refl _))
    refine Sim.alloc hH0 s.dom rfl fun i c hc => ?_
    cases i with
    | zero =>
      cases hc
      refine ⟨rfl, rfl, _, by rw [heap_alloc, if_pos rfl], rfl, rfl, rfl, rfl, rfl, s.fr.sz, fun t v hv => ?_⟩
      obtain ⟨u, h1, h2⟩ := s.fr.get t v hv
      exact ⟨u, h1, h2.mono hle⟩
    | succ i => cases (show (none : Option Ct) = some c from hc)
  cases rb with
  | some b =>
    cases r with
    | none => exact hr.elim
    | some lz =>
      obtain ⟨L, hL, rfl⟩ := hr
      simp only [aroundOK, Option.isSome_iff_exists] at ha
      obtain ⟨l0, hl0⟩ := ha
      obtain ⟨r0, hr0, _⟩ := loop_rel s.hp hL hl0
      have hs := hrec w r0.defers s.hp
      exact ⟨_, [], _, _, run_enterLoop_inner fn a.tmps ps assign body hr0, hs, upd_same _ _ _, DfOK.step s.dom hs df⟩
  | none =>
    cases r with
    | some lz => exact hr.elim
    | none =>
      have h0 := Sim.laid (o := .deferred (some [])) s.hp s.dom
      have hs := hrec (w.alloc (.deferred (some []))) w.heap.size h0.rel
      have hss := h0.trans s.dom hs
      refine ⟨_, _, _, _, run_enterLoop_outer fn a.tmps ps assign body, by
        have := hss
        simp only [World.size_alloc] at this
        exact this, upd_same _ _ _, ?_⟩
      have hdf := DfOK.step s.dom hss df
      refine ⟨⟨w.heap.size, rfl, hm0, ?_, fun b L hk hL => ?_, fun d' hd' D' ht => ?_⟩, by
        simp only [World.size_alloc] at hdf
        exact hdf⟩
      · rw [heap_alloc, if_neg (by rw [World.size_alloc]; omega), heap_alloc, if_pos rfl]
      · obtain ⟨i, c, hc⟩ := hk
        by_cases hb : b = H.n
        · subst hb
          rw [upd_same] at hL
          cases hL
          show w.heap.size + 1 ≠ w.heap.size
          omega
        · rw [HP.cell_push, if_neg hb] at hc
          rw [upd_ne hb] at hL
          have := (s.hp.rel b i c L hc hL).lt
          omega
      · clear hdf
        have : ∀ (ds : List Deferred), DfOK ρ H w m0 ds → d' ∈ ds → D' < w.heap.size := by
          intro ds
          induction ds with
          | nil => intro _ h; cases h
          | cons e es ih =>
            rintro ⟨⟨D, g1, _, g2, _⟩, g⟩ hmem
            rcases List.mem_cons.1 hmem with rfl | hmem
            · rw [g1] at ht
              cases ht
              exact (Array.getElem?_eq_some_iff.1 g2).1
            · exact ih g hmem
        have := this _ df hd'
        omega
end Go.Fv
