/-
  A second abstract evaluator of the model's code: steps that come to one of several outcomes; regions in the text's order. Conditions: none; nothing here speaks of one program.
-/
import Derived.Test.YtinhlbmlopkgiaaGreatDoorFvV
import Derived.Test.YtinhlbmlopkgiaaGreatDoorFvM
set_option linter.unusedSectionVars false
set_option linter.unusedVariables false
namespace Go.Fv

/-! ### Lists of outcomes -/
/-- What a call comes to: one of these. -/
abbrev RM := Option (List (AV × HP))
abbrev OraM := Tg → List AV → HP → RM
noncomputable section
def oneL {α : Type} (x : Option (List α)) : Option α :=
  match x with
  | some [y] => some y
  | _ => none
def OraM.one (o : OraM) : Ora := fun t args H => oneL (o t args H)
def single {α : Type} (x : Option α) : Option (List α) :=
  match x with
  | some y => some [y]
  | none => none
def bindL {α β : Type} (f : α → Option (List β)) : List α → Option (List β)
  | [] => some []
  | [x] => f x
  | x :: y :: r => match f x, bindL f (y :: r) with
    | some a, some b => some (a ++ b)
    | _, _ => none
end
theorem bindL_spec {α β : Type} {f : α → Option (List β)} : ∀ {xs : List α} {ys : List β}, bindL f xs = some ys → (∀ x ∈ xs, ∃ zs, f x = some zs ∧ ∀ z ∈ zs, z ∈ ys) ∧ ∀ y ∈ ys, ∃ x ∈ xs, ∃ zs, f x = some zs ∧ y ∈ zs
  | [], ys, h => by
    cases h
    exact ⟨fun x hx => (by cases hx), fun x hx => (by cases hx)⟩
  | [x], ys, h => by
    have h' : f x = some ys := h
    exact ⟨fun y hy => by rw [List.mem_singleton.1 hy]; exact ⟨ys, h', fun z hz => hz⟩, fun y hy => ⟨x, by simp, ys, h', hy⟩⟩
  | x :: y :: r, ys, h => by
    simp only [bindL] at h
    cases h1 : f x with
    | none => rw [h1] at h; cases h
    | some a =>
      cases h2 : bindL f (y :: r) with
      | none => rw [h1, h2] at h; cases h
      | some b =>
        rw [h1, h2] at h
        cases h
        obtain ⟨k1, k2⟩ := bindL_spec h2
        refine ⟨fun z hz => ?_, fun z hz => ?_⟩
        · rcases List.mem_cons.1 hz with rfl | hz
          · exact ⟨a, h1, fun z hz => List.mem_append_left _ hz⟩
          · obtain ⟨zs, g1, g2⟩ := k1 z hz
            exact ⟨zs, g1, fun u hu => List.mem_append_right _ (g2 u hu)⟩
        · rcases List.mem_append.1 hz with hz | hz
          · exact ⟨x, List.mem_cons_self .., a, h1, hz⟩
          · obtain ⟨x', g1, g2⟩ := k2 z hz
            exact ⟨x', List.mem_cons_of_mem _ g1, g2⟩
theorem single_some {α : Type} {x : Option α} {l : List α} (h : single x = some l) : ∃ y, x = some y ∧ l = [y] := by
  cases x with
  | none => cases h
  | some y => cases h; exact ⟨y, rfl, rfl⟩
theorem oneL_some {α : Type} {x : Option (List α)} {y : α} (h : oneL x = some y) : x = some [y] := by
  unfold oneL at h
  split at h
  · cases h; rfl
  · cases h

def PostM (ρ : PM) (H : HP) (w : World) (outs : List (AV × HP)) : Value → World → Prop := fun u w' => ∃ o ∈ outs, Post ρ H w o.1 o.2 u w'
def OraMOK (P : Program) (ora : OraM) : Prop :=
  ∀ (t : Tg) (args : List AV) (H : HP) (outs : List (AV × HP)), ora t args H = some outs → (∀ o ∈ outs, St H o.2) ∧
    ∀ (ρ : PM) (w : World) (us : Array Value) (s : Sem Next), TgRun ρ us s t → All2 (VRel ρ) args us.toList → HRel ρ H w → Dom ρ H.n → GivesR P (PostM ρ H w outs) (s.run P w)
theorem OraMOK.one {P : Program} {ora : OraM} (h : OraMOK P ora) : OraOK P ora.one := by
  intro t args H v H' hr
  obtain ⟨h1, h2⟩ := h t args H _ (oneL_some hr)
  refine ⟨h1 _ (List.mem_singleton.2 rfl), fun ρ w us s hs hu hH hd => GivesR.mono (fun u w' ⟨o, ho, hp⟩ => ?_) (h2 ρ w us s hs hu hH hd)⟩
  rw [List.mem_singleton.1 ho] at hp
  exact hp

def OpSM (P : Program) (ρ : PM) (ev : Operand → Value) (H : HP) (w : World) (op : Op) (outs : List (AV × HP)) : Prop :=
  ∀ (dst : Option Tmp) (ty : TypeId) (pos : String) (after : Array Edge) (guard : Option (Nat × Bool)), GivesR P (PostM ρ H w outs) ((execOp ev ⟨dst, op, ty, pos, after, guard⟩).run P w)
theorem OpS.many {P : Program} {ρ : PM} {ev : Operand → Value} {H H' : HP} {w : World} {op : Op} {v : AV} (h : OpS P ρ ev H w op v H') : OpSM P ρ ev H w op [(v, H')] := fun dst ty pos after guard =>
  GivesR.mono (fun _ _ hp => ⟨_, List.mem_singleton.2 rfl, hp⟩) (h dst ty pos after guard)

section
variable {P : Program} [Plain P] {ora : OraM} {E : Operand → Option AV} {H H' : HP} {w : World} {ρ : PM} {ev : Operand → Value} {v : AV} {outs : List (AV × HP)}

/-! ### Calls -/
noncomputable def oCallM (ora : OraM) (E : Operand → Option AV) (H : HP) (f : Operand) (args : Array Operand) : RM :=
  match E f, listE E args.toList with
  | some (.one (.lit (.func (.func g) a b))), some vs => if a.size = 0 ∧ b.size = 0 then ora (.f g) vs H else none
  | some (.one (.fn (.func g) caps)), some vs => ora (.f g) (vs ++ ptrs caps) H
  | some (.one (.yd b)), some vs => ora (.y b) vs H
  | _, _ => none

theorem oCallM_ok (ho : OraMOK P ora) {f : Operand} {args : Array Operand} {ats : Array TypeId} (h : oCallM ora E H f args = some outs) (hx : ∀ z, (z = f ∨ z ∈ args.toList) → ∀ a, E z = some a → VRel ρ a (ev z)) (hH : HRel ρ H w) (hd : Dom ρ H.n) :
    (∀ o ∈ outs, St H o.2) ∧ OpSM P ρ ev H w (.call ⟨.value f, args, ats⟩) outs := by
  unfold oCallM at h
  split at h
  · rename_i g a b vs hf hl
    split at h
    · rename_i hab
      obtain ⟨hst, hg⟩ := ho _ _ _ _ h
      obtain ⟨hev, _⟩ := hx f (.inl rfl) _ hf
      have hus := listE_rel (ρ := ρ) (ev := ev) (xs := args.toList) (fun x hx' v hv => hx x (.inr hx') v hv) hl
      refine ⟨hst, fun dst ty pos after guard => ?_⟩
      have ha : a = #[] := Array.eq_empty_of_size_eq_zero hab.1
      have hb : b = #[] := Array.eq_empty_of_size_eq_zero hab.2
      subst ha
      subst hb
      have hrun : (execOp ev ⟨dst, .call ⟨.value f, args, ats⟩, ty, pos, after, guard⟩).run P w = (callFunc g (args.map ev)).run P w := by
        simp [execOp, resolve, hev, Deferred.ofValue, invoke]
      rw [hrun]
      exact hg ρ w _ _ rfl (by simpa using hus) hH hd
    · cases h
  · rename_i g caps vs hf hl
    obtain ⟨hst, hg⟩ := ho _ _ _ _ h
    obtain ⟨us, hev, hcaps⟩ := hx f (.inl rfl) _ hf
    have hus := listE_rel (ρ := ρ) (ev := ev) (xs := args.toList) (fun x hx' v hv => hx x (.inr hx') v hv) hl
    refine ⟨hst, fun dst ty pos after guard => ?_⟩
    have hrun : (execOp ev ⟨dst, .call ⟨.value f, args, ats⟩, ty, pos, after, guard⟩).run P w = (callFunc g (args.map ev ++ us)).run P w := by
      simp [execOp, resolve, hev, Deferred.ofValue, invoke]
    rw [hrun]
    exact hg ρ w _ _ rfl (by simpa using hus.append (ptrs_rel hcaps)) hH hd
  · rename_i b vs hf hl
    obtain ⟨hst, hg⟩ := ho _ _ _ _ h
    obtain ⟨L, hL, hev⟩ := hx f (.inl rfl) _ hf
    have hus := listE_rel (ρ := ρ) (ev := ev) (xs := args.toList) (fun x hx' v hv => hx x (.inr hx') v hv) hl
    refine ⟨hst, fun dst ty pos after guard => ?_⟩
    have hrun : (execOp ev ⟨dst, .call ⟨.value f, args, ats⟩, ty, pos, after, guard⟩).run P w = (Instr.yield L.B (args.map ev)).run P w := by
      simp [execOp, resolve, hev, Deferred.ofValue, invoke]
    rw [hrun]
    exact hg ρ w _ _ ⟨L, hL, rfl⟩ (by simpa using hus) hH hd
  · cases h

/-! ### The next entry of a map -/
theorem arr_empty {α : Type} (a : Array α) : a.isEmpty = a.toList.isEmpty := by
  obtain ⟨l⟩ := a
  cases l <;> simp
theorem ents_all {es : List Ent} {ms : List MapEntry} {k : Nat} (h : All2 (EntRel ρ) es ms) : (ms.all fun e => decide (e.born ≥ k)) = es.all fun e => decide (e.2.2 ≥ k) := by
  induction es generalizing ms with
  | nil => cases ms with | nil => rfl | cons _ _ => exact h.elim
  | cons e es ih =>
    cases ms with
    | nil => exact h.elim
    | cons m ms =>
      obtain ⟨⟨_, _, hb⟩, h2⟩ := h
      simp only [List.all_cons, hb, ih h2]
theorem ents_empty {es : List Ent} {ms : List MapEntry} (h : All2 (EntRel ρ) es ms) : ms.isEmpty = es.isEmpty := by
  have := h.length
  rw [Bool.eq_iff_iff, List.isEmpty_iff_length_eq_zero, List.isEmpty_iff_length_eq_zero, this]

theorem next_fin {b m : Nat} {it : IterC} {es : List Ent} {clock : Nat} {arr : Array MapEntry} {L K : Loc} {x : Operand} {Z : Prop} {ty : TypeId} (hrel : All2 (EntRel ρ) es arr.toList)
    (hgi : (getObj L.B).run P w = .ok (.mapIter (some K.B) it.since it.seen.toArray it.stepped) w) (hgm : (getObj K.B).run P w = .ok (.map arr clock) w)
    (hcond : (!it.seen.toArray.isEmpty && !arr.isEmpty && arr.all fun e => decide (e.born ≥ it.stepped)) = false) (hL0 : L.o = 0) (hv : ev x = .pointer (some ⟨L.B, 0 + 0, none⟩)) (hxv : E x = some (.one (.ptr b 0))) (hH : HRel ρ H w) (hd : Dom ρ H.n) (hL : ρ b = some L)
    (hit : H.t.get b = some [some (.iter it.m it.since it.seen it.stepped)]) (hms : it.m = some m) (hheap : w.heap[L.B]? = some (.mapIter (some K.B) it.since it.seen.toArray it.stepped)) (hK : ρ m = some K)
    (fin : ∀ (u : Value) (w' : World), (Instr.next (ev x) false ty).run P w = .ok u w' → PostM ρ H w ((cands it.since it.seen es).map (nextTo H b it clock)) u w' → Z) : Z := by
  generalize hC : ((if ((arr.filter fun e => !it.seen.toArray.contains e.born).filter fun e => decide (e.born < it.since)).isEmpty then #[none] else #[]) ++
      ((arr.filter fun e => !it.seen.toArray.contains e.born).filter (fun e => decide (e.born < it.since)) ++ (arr.filter fun e => !it.seen.toArray.contains e.born).filter fun e => decide (e.born ≥ it.since)).map some : Array (Option MapEntry)) = C
  have hsz : 0 < C.size := by
    rw [← hC]
    by_cases he : ((arr.filter fun e => !it.seen.toArray.contains e.born).filter fun e => decide (e.born < it.since)).isEmpty = true
    · rw [if_pos he]; simp only [Array.size_append, List.size_toArray, List.length_cons, List.length_nil]; omega
    · rw [if_neg he]
      have : 0 < ((arr.filter fun e => !it.seen.toArray.contains e.born).filter fun e => decide (e.born < it.since)).size := by
        rw [Array.isEmpty_iff_size_eq_zero] at he
        omega
      simp only [Array.size_append, Array.size_map]
      omega
  obtain ⟨k, w1, hk, hch, hw1⟩ : ∃ k w1, k < C.size ∧ (choose (.mapNext C.size)).run P w = .ok k w1 ∧ (w1 = w ∨ w1 = w.drew) := by
    rw [run_choose_drew]
    by_cases hf : (Question.mapNext C.size).forced = true
    · rw [if_pos hf]; exact ⟨0, w, hsz, rfl, .inl rfl⟩
    · rw [if_neg hf]; exact ⟨_, w.drew, Nat.mod_lt _ hsz, rfl, .inr rfl⟩
  have hs1 : Sim ρ H w ρ H w1 := by
    rcases hw1 with rfl | rfl
    · exact Sim.refl hH hd
    · exact Sim.same hH hd rfl rfl rfl rfl
  have hheap1 : w1.heap = w.heap := by rcases hw1 with rfl | rfl <;> rfl
  have hCk : C[k]? = some C[k] := Array.getElem?_eq_getElem hk
  obtain ⟨a, ha, hac⟩ := cands_rel (since := it.since) (seen := it.seen) hrel k C[k] (by
    rw [← hCk, ← Array.getElem?_toList]
    congr 1
    rw [← hC]
    simp only [List.contains_toArray, Array.toList_append, Array.toList_map, Array.toList_filter]
    congr 1
    rw [arr_empty, Array.toList_filter, Array.toList_filter]
    split <;> rfl)
  have hrun : ∀ u w2, (match C[k]? with
      | some (some e) => do setObj L.B (.mapIter (some K.B) it.since (it.seen.toArray.push e.born) clock); pure (.tuple #[.bool true, e.key, e.val])
      | some none => pure (.tuple #[.bool false])
      | none => stuck "Next: no such candidate" : Sem Value).run P w1 = .ok u w2 → (Instr.next (ev x) false ty).run P w = .ok u w2 := by
    intro u w2 h
    rw [hv]
    simp only [Instr.next, Sem.run_bind, hgi, Result.andThen_ok, hgm, hcond, Bool.false_eq_true, if_false, Sem.run_pure, hC, hch]
    exact h
  rw [hCk] at hrun
  have hmem : nextTo H b it clock a ∈ (cands it.since it.seen es).map (nextTo H b it clock) := List.mem_map.2 ⟨a, List.mem_of_getElem? ha, rfl⟩
  cases hcc : C[k] with
  | none =>
    rw [hcc] at hrun hac
    cases a with
    | some e => exact hac.elim
    | none => exact fin _ w1 (hrun _ w1 rfl) ⟨_, hmem, ρ, ⟨_, rfl, ⟨rfl, rfl⟩, trivial⟩, hs1⟩
  | some e' =>
    rw [hcc] at hrun hac
    cases a with
    | none => exact hac.elim
    | some e =>
      obtain ⟨h1, h2, h3⟩ := hac
      have hset := run_setObj_at' (P := P) (w := w1) (r := L.B) (.mapIter (some K.B) it.since (it.seen.toArray.push e'.born) clock) (by rw [hheap1]; exact hheap) (fun _ _ _ h => by cases h)
      refine fin (.tuple #[.bool true, e'.key, e'.val]) (w1.putObj L.B (.mapIter (some K.B) it.since (it.seen.toArray.push e'.born) clock)) (hrun _ _ ?_) ⟨_, hmem, ρ, ⟨_, rfl, ⟨rfl, rfl⟩, h1, h2, trivial⟩, ?_⟩
      · simp only [Sem.run_bind, hset, Result.andThen_ok, Sem.run_pure]
      · refine hs1.trans hd (Sim.put1 (o := .mapIter (some K.B) it.since it.seen.toArray it.stepped) hs1.rel hd hL hit (by rw [hheap1]; exact hheap) (fun _ _ _ h => by cases h) ?_)
        have hlt : L.B < w1.heap.size := by rw [hheap1]; exact (Array.getElem?_eq_some_iff.1 hheap).1
        refine ⟨rfl, hL0, some K.B, ?_, ?_⟩
        · rw [World.putObj_heap_same hlt, h3]
          simp
        · rw [hms]
          exact ⟨K, hK, rfl⟩

theorem oNextM_ok {x : Operand} (h : oNextM E H x = some outs) (hx : ∀ a, E x = some a → VRel ρ a (ev x)) (hH : HRel ρ H w) (hd : Dom ρ H.n) : (∀ o ∈ outs, St H o.2) ∧ OpSM P ρ ev H w (.next x false) outs := by
  refine ⟨oNextM_st h, fun dst ty pos after guard => ?_⟩
  unfold oNextM at h
  have fin : ∀ (u : Value) (w' : World), (Instr.next (ev x) false ty).run P w = .ok u w' → PostM ρ H w outs u w' → GivesR P (PostM ρ H w outs) ((execOp ev ⟨dst, .next x false, ty, pos, after, guard⟩).run P w) := fun u w' hrun hp => by
    have : (execOp ev ⟨dst, .next x false, ty, pos, after, guard⟩).run P w = .ok (.value u) w' := run_v hrun
    rw [this]
    exact hp
  split at h
  · rename_i b hxv
    obtain ⟨L, hL, hv⟩ := hx _ hxv
    split at h
    · rename_i it hit
      have hit' := iterAt_spec hit
      obtain ⟨_, hL0, mm, hheap, hm⟩ := hH.rel b 0 _ L (cell_one hit').1 hL
      have hgi := run_getObj_at (P := P) hheap (fun _ _ _ h => by cases h)
      rw [hL0] at hv
      split at h
      · rename_i hmn
        cases h
        rw [hmn] at hm
        simp only at hm
        subst hm
        refine fin (.tuple #[.bool false]) w ?_ ⟨_, List.mem_singleton.2 rfl, ρ, ⟨_, rfl, ⟨rfl, rfl⟩, trivial⟩, Sim.refl hH hd⟩
        simp [Instr.next, hv, hgi]
      · rename_i m hms
        rw [hms] at hm
        obtain ⟨K, hK, rfl⟩ := hm
        split at h
        · rename_i es clock hmap
          split at h
          · rename_i hcond
            cases h
            obtain ⟨_, arr, hmheap, hrel⟩ := map_world hH hK hmap
            have hgm := run_getMap (P := P) hmheap
            refine next_fin hrel hgi hgm ?_ hL0 hv hxv hH hd hL hit' hms hheap hK fin
            rw [← hcond, ← Array.all_toList, ents_all hrel, arr_empty arr, ents_empty hrel, arr_empty]
          · cases h
        · cases h
    · cases h
  · cases h

/-! ### Slices that go to their object's end -/
noncomputable section
/-- Is there a cell at a place? -/
def HP.hasAt (H : HP) (b i : Nat) : Bool :=
  match H.t.get b with
  | some k => match dropN i k with
    | some (.c _) :: _ => true
    | some .room :: _ => true
    | _ => false
  | none => false
def oCapK (P : Program) [Plain P] (E : Operand → Option AV) (H : HP) (args : Array Operand) (ats : Array TypeId) : R :=
  match listE E args.toList, ats.toList with
  | some [.one (.su b off _ s)], t :: _ => match undT P t, Nat.ble 1 s with
    | some (.slice _), true => some (.one (.kp b off s), H)
    | _, _ => none
  | _, _ => none
def oGtrK (E : Operand → Option AV) (H : HP) (x y : Operand) : R :=
  match E x, E y with
  | some (.one (.lit (.int .i64 n))), some (.one (.kp b off s)) => if 0 < n then match H.hasAt b (off + n.toNat * s - 1) with
      | true => some (.one (.lit (.bool false)), H)
      | false => none
    else none
  | _, _ => none
def oSliceK (P : Program) [Plain P] (E : Operand → Option AV) (H : HP) (t : TypeId) (x hi : Operand) : R :=
  match undT P t, E x, E hi with
  | some (.slice e), some (.one (.su b off _ s)), some (.one (.lit (.int _ n))) => match szA P e with
    | some (_, sz) => if s = sz ∧ 0 < sz ∧ 0 < n then match H.hasAt b (off + n.toNat * s - 1) with
        | true => some (.one (.su b off n.toNat s), H)
        | false => none
      else none
    | none => none
  | _, _, _ => none
def orElseR (a b : R) : R :=
  match a with
  | some x => some x
  | none => b
end
theorem HP.hasAt_spec {b i : Nat} (h : H.hasAt b i = true) : ∃ c, H.cell b i = some c ∧ c.plc := by
  unfold HP.hasAt at h
  split at h
  · rename_i k hk
    rw [dropN_eq] at h
    have hg : ∀ (y : Option Ct) (r : Bk), k.drop i = y :: r → H.cell b i = y := by
      intro y r hd
      have : k[i]? = some y := by
        have := congrArg (·[0]?) hd
        simpa using this
      unfold HP.cell Bk.get
      rw [hk]
      simp [this]
    split at h
    · rename_i x r hd; exact ⟨_, hg _ _ hd, trivial⟩
    · rename_i r hd; exact ⟨_, hg _ _ hd, trivial⟩
    · cases h
  · cases h
theorem hasAt_room {b off s cap : Nat} {n : Nat} {L : Loc} (h : H.hasAt b (off + n * s - 1) = true) (hH : HRel ρ H w) (hL : ρ b = some L) (hs : 0 < s) (hn : 0 < n) (he : L.o + off + cap * s = L.C) : n ≤ cap := by
  obtain ⟨c, hc, hp⟩ := HP.hasAt_spec h
  obtain ⟨arr, t, fr, _, _, e3, e4⟩ := plc_rel (hH.rel b _ c L hc hL) hp
  have h1 : 0 < n * s := Nat.mul_pos hn hs
  have h2 : n * s ≤ cap * s := by omega
  exact Nat.le_of_mul_le_mul_right h2 hs

theorem oCapK_ok {args : Array Operand} {ats : Array TypeId} (h : oCapK P E H args ats = some (v, H')) (hx : ∀ z ∈ args.toList, ∀ a, E z = some a → VRel ρ a (ev z)) (hH : HRel ρ H w) (hd : Dom ρ H.n) :
    St H H' ∧ OpS P ρ ev H w (.call ⟨.builtin .cap, args, ats⟩) v H' := by
  unfold oCapK at h
  simp only [undT_eq] at h
  split at h
  · rename_i b off len s t rest hl hat
    obtain ⟨y, hy, hx'⟩ := listE_one hl
    have hev := hx y (by rw [hy]; simp) _ hx'
    have hargs : args = #[y] := by rw [← Array.toList_inj]; simpa using hy
    have hats : ats[0]? = some t := by rw [← Array.getElem?_toList, hat]; rfl
    subst hargs
    split at h
    · rename_i e hu hs
      cases h
      obtain ⟨L, cap, hL, he, h1, h2, h3⟩ := hev
      refine ⟨St.refl H, OpS.val hH hd (u := .int .i64 cap) ⟨L, cap, hL, rfl, h2, Nat.le_of_ble_eq_true hs, h3⟩ fun dst ty pos after guard => ?_⟩
      simp [execOp, resolve, invoke, builtin, Builtin.cap_, hats, run_underlying hu, he, goInt]
    · cases h
  · cases h

theorem oGtrK_ok {t ty0 : TypeId} {x y : Operand} (h : oGtrK E H x y = some (v, H')) (hx : ∀ z, z = x ∨ z = y → ∀ a, E z = some a → VRel ρ a (ev z)) (hH : HRel ρ H w) (hd : Dom ρ H.n) :
    St H H' ∧ OpS P ρ ev H w (.binOp .gtr t x y ty0) v H' := by
  unfold oGtrK at h
  split at h
  · rename_i n b off s hex hey
    obtain ⟨he1, hl1⟩ := hx x (.inl rfl) _ hex
    obtain ⟨L, cap, hL, he2, h2, hs, h3⟩ := hx y (.inr rfl) _ hey
    split at h
    · rename_i hn
      split at h
      · rename_i hh
        cases h
        obtain ⟨n', rfl⟩ := Int.eq_ofNat_of_zero_le (show (0 : Int) ≤ n by omega)
        have hle := hasAt_room (n := n') (by simpa using hh) hH hL hs (by omega) h3
        have hcmp : decide ((n' : Int) > (cap : Int)) = false := by simp; omega
        refine ⟨St.refl H, OpS.val hH hd (u := .bool false) ⟨rfl, rfl⟩ fun dst ty pos after guard => run_v ?_⟩
        rw [he1, he2, Sem.run_bind, eqGuard_at_int]
        simp only [Sem.run_pure, Result.andThen_ok]
        simp [binOp, Op.intCmp, hcmp]
        omega
      · cases h
    · cases h
  · cases h

theorem oSliceK_ok {t : TypeId} {x hi : Operand} (h : oSliceK P E H t x hi = some (v, H')) (hx : ∀ z, z = x ∨ z = hi → ∀ a, E z = some a → VRel ρ a (ev z)) (hH : HRel ρ H w) (hd : Dom ρ H.n) :
    St H H' ∧ OpS P ρ ev H w (.slice t x none (some hi) none) v H' := by
  unfold oSliceK at h
  simp only [undT_eq] at h
  split at h
  · rename_i e b off len s k n hu hex hey
    obtain ⟨L, cap, hL, he1, h1, h2, h3⟩ := hx x (.inl rfl) _ hex
    obtain ⟨he2, hl2⟩ := hx hi (.inr rfl) _ hey
    split at h
    · rename_i ag sz hs
      split at h
      · rename_i hc
        obtain ⟨rfl, hs0, hn⟩ := hc
        split at h
        · rename_i hh
          cases h
          obtain ⟨n', rfl⟩ := Int.eq_ofNat_of_zero_le (show (0 : Int) ≤ n by omega)
          have hle := hasAt_room (n := n') (by simpa using hh) hH hL hs0 (by omega) h3
          have hb := run_bounds (P := P) (w := w) (isS := true) (len := len) (cap := cap) (lo := none) (hi := some n') (mx := none) (ul := none) (uh := some (.int k n')) (um := none) trivial ⟨k, rfl⟩ trivial (.inl rfl) (by simp) (.inl (by simpa using hle)) (by simp)
          simp only [Option.getD_none, Option.getD_some] at hb
          refine ⟨St.refl H, OpS.val hH hd (u := .slice (some ⟨L.B, L.o + off, none⟩) n' cap) ⟨L, cap, hL, rfl, hle, h2, h3⟩ fun dst ty pos after guard => run_v ?_⟩
          simp only [Instr.sliceAt, Sem.run_bind, run_underlying hu, Result.andThen_ok, Option.map_none, Option.map_some, he1, he2]
          simp only [Instr.slice, Sem.run_bind, run_underlying hu, Result.andThen_ok, hb, run_sizeOf hs, Sem.run_pure, Nat.sub_zero, Nat.zero_mul]
          congr 2
          split
          · rfl
          · simp [add_addr]
        · cases h
      · cases h
    · cases h
  · cases h

/-! ### Integers and slices of which nothing is known -/
def isCmp : BinOp → Bool
  | .eql => true
  | .neq => true
  | .lss => true
  | .leq => true
  | .gtr => true
  | .geq => true
  | _ => false
def kindU : AV → Option IntKind
  | .one (.lit (.int k _)) => some k
  | .one (.un k) => some k
  | _ => none
noncomputable section
def oCmpU (E : Operand → Option AV) (H : HP) (op : BinOp) (x y : Operand) : RM :=
  match isCmp op, (E x).bind kindU, (E y).bind kindU with
  | true, some k, some k' => if k = k' then some [(.one (.lit (.bool false)), H), (.one (.lit (.bool true)), H)] else none
  | _, _, _ => none
def oLenU (P : Program) [Plain P] (E : Operand → Option AV) (H : HP) (args : Array Operand) (ats : Array TypeId) : R :=
  match listE E args.toList, ats.toList with
  | some [.one .us], t :: _ => match undT P t with
    | some (.slice _) => some (.one (.un .i64), H)
    | _ => none
  | _, _ => none
def orElseM (a b : RM) : RM :=
  match a with
  | some x => some x
  | none => b
end
theorem kindU_rel {x : AV} {u : Value} {k : IntKind} (h : kindU x = some k) (hx : VRel ρ x u) : ∃ n, u = .int k n := by
  unfold kindU at h
  split at h
  · cases h; exact ⟨_, hx.1⟩
  · cases h; obtain ⟨n, hn, _⟩ := hx; exact ⟨n, hn⟩
  · cases h
theorem oCmpU_ok {op : BinOp} {t ty0 : TypeId} {x y : Operand} (h : oCmpU E H op x y = some outs) (hx : ∀ z, z = x ∨ z = y → ∀ a, E z = some a → VRel ρ a (ev z)) (hH : HRel ρ H w) (hd : Dom ρ H.n) :
    (∀ o ∈ outs, St H o.2) ∧ OpSM P ρ ev H w (.binOp op t x y ty0) outs := by
  unfold oCmpU at h
  split at h
  · rename_i k k' hop hkx hky
    obtain ⟨a, hex, hka⟩ := bind_some' hkx
    obtain ⟨b, hey, hkb⟩ := bind_some' hky
    split at h
    · rename_i hkk
      subst hkk
      cases h
      obtain ⟨n, hn⟩ := kindU_rel hka (hx x (.inl rfl) _ hex)
      obtain ⟨m, hm⟩ := kindU_rel hkb (hx y (.inr rfl) _ hey)
      refine ⟨fun o ho => ?_, fun dst ty pos after guard => ?_⟩
      · rcases List.mem_cons.1 ho with rfl | ho
        · exact St.refl _
        · rw [List.mem_singleton.1 ho]; exact St.refl _
      · have hrun : ∃ r : Bool, (do eqGuard op t x y (ev x) (ev y); binOp op t (ev x) (ev y) : Sem Value).run P w = .ok (.bool r) w := by
          rw [hn, hm, Sem.run_bind, eqGuard_at_int]
          simp only [Sem.run_pure, Result.andThen_ok]
          cases op <;> first | (cases hop; done) | exact ⟨_, by simp [binOp, Op.intCmp]; rfl⟩
        obtain ⟨r, hr⟩ := hrun
        have : (execOp ev ⟨dst, .binOp op t x y ty0, ty, pos, after, guard⟩).run P w = .ok (.value (.bool r)) w := run_v hr
        rw [this]
        cases r with
        | false => exact ⟨_, List.mem_cons_self .., ρ, ⟨rfl, rfl⟩, Sim.refl hH hd⟩
        | true => exact ⟨_, List.mem_cons_of_mem _ (List.mem_singleton.2 rfl), ρ, ⟨rfl, rfl⟩, Sim.refl hH hd⟩
    · cases h
  · cases h
theorem oLenU_ok {args : Array Operand} {ats : Array TypeId} (h : oLenU P E H args ats = some (v, H')) (hx : ∀ z ∈ args.toList, ∀ a, E z = some a → VRel ρ a (ev z)) (hH : HRel ρ H w) (hd : Dom ρ H.n) :
    St H H' ∧ OpS P ρ ev H w (.call ⟨.builtin .len, args, ats⟩) v H' := by
  unfold oLenU at h
  simp only [undT_eq] at h
  split at h
  · rename_i t rest hl hat
    obtain ⟨y, hy, hx'⟩ := listE_one hl
    have hev := hx y (by rw [hy]; simp) _ hx'
    have hargs : args = #[y] := by rw [← Array.toList_inj]; simpa using hy
    have hats : ats[0]? = some t := by rw [← Array.getElem?_toList, hat]; rfl
    subst hargs
    split at h
    · rename_i e hu
      cases h
      obtain ⟨a, n, c, he, h1⟩ := hev
      refine ⟨St.refl H, OpS.val hH hd (u := .int .i64 n) ⟨n, rfl, i64_ok h1⟩ fun dst ty pos after guard => ?_⟩
      simp [execOp, resolve, invoke, builtin, Builtin.len_, hats, run_underlying hu, he, goInt]
    · cases h
  · cases h

/-! ### One operation -/
noncomputable def stepM (P : Program) [Plain P] (ora : OraM) (E : Operand → Option AV) (H : HP) (op : Op) : RM :=
  match op with
  | .call c => match c.callee with
    | .value f => oCallM ora E H f c.args
    | .builtin .cap => single (orElseR (stepA P ora.one E H op) (oCapK P E H c.args c.argTypes))
    | .builtin .len => single (orElseR (stepA P ora.one E H op) (oLenU P E H c.args c.argTypes))
    | _ => single (stepA P ora.one E H op)
  | .next x false => oNextM E H x
  | .binOp .gtr _ x y _ => orElseM (single (orElseR (stepA P ora.one E H op) (oGtrK E H x y))) (oCmpU E H .gtr x y)
  | .binOp o _ x y _ => orElseM (single (stepA P ora.one E H op)) (oCmpU E H o x y)
  | .slice t x none (some hi) none => single (orElseR (stepA P ora.one E H op) (oSliceK P E H t x hi))
  | op => single (stepA P ora.one E H op)

theorem orElseM_some {a b : RM} {x : List (AV × HP)} (h : orElseM a b = some x) : a = some x ∨ b = some x := by
  unfold orElseM at h
  split at h
  · exact .inl h
  · exact .inr h
theorem orElseR_some {a b : R} {x : AV × HP} (h : orElseR a b = some x) : a = some x ∨ b = some x := by
  unfold orElseR at h
  split at h
  · exact .inl h
  · exact .inr h
theorem stepM_ok (ho : OraMOK P ora) {op : Op} (h : stepM P ora E H op = some outs) (hx : ∀ x ∈ op.operands, ∀ a, E x = some a → VRel ρ a (ev x)) (hH : HRel ρ H w) (hd : Dom ρ H.n) :
    (∀ o ∈ outs, St H o.2) ∧ OpSM P ρ ev H w op outs := by
  have two : ∀ (b : R), single (orElseR (stepA P ora.one E H op) b) = some outs → (∀ v H', b = some (v, H') → St H H' ∧ OpS P ρ ev H w op v H') → (∀ o ∈ outs, St H o.2) ∧ OpSM P ρ ev H w op outs := by
    intro b h hb
    obtain ⟨⟨v, H'⟩, h1, rfl⟩ := single_some h
    have key : St H H' ∧ OpS P ρ ev H w op v H' := by
      rcases orElseR_some h1 with h1 | h1
      · exact stepA_ok ho.one h1 hx hH hd
      · exact hb v H' h1
    exact ⟨fun o ho => by rw [List.mem_singleton.1 ho]; exact key.1, key.2.many⟩
  have one : single (stepA P ora.one E H op) = some outs → (∀ o ∈ outs, St H o.2) ∧ OpSM P ρ ev H w op outs := by
    intro h
    obtain ⟨⟨v, H'⟩, h1, rfl⟩ := single_some h
    obtain ⟨k1, k2⟩ := stepA_ok ho.one h1 hx hH hd
    exact ⟨fun o ho => by rw [List.mem_singleton.1 ho]; exact k1, k2.many⟩
  unfold stepM at h
  split at h
  · rename_i c
    obtain ⟨callee, args, ats⟩ := c
    split at h
    · rename_i f hc
      simp only at hc
      subst hc
      exact oCallM_ok ho h (fun z hz => hx z (by simp only [Op.operands, Call.operands, Array.mem_append]; rcases hz with rfl | hz <;> simp_all)) hH hd
    · rename_i hc
      simp only at hc
      subst hc
      exact two _ h fun v H' hb => oCapK_ok hb (fun z hz => hx z (by simp only [Op.operands, Call.operands, Array.mem_append]; right; simpa using hz)) hH hd
    · rename_i hc
      simp only at hc
      subst hc
      exact two _ h fun v H' hb => oLenU_ok hb (fun z hz => hx z (by simp only [Op.operands, Call.operands, Array.mem_append]; right; simpa using hz)) hH hd
    · exact one h
  · exact oNextM_ok h (hx _ (by simp [Op.operands])) hH hd
  · rcases orElseM_some h with h | h
    · exact two _ h fun v H' hb => oGtrK_ok hb (fun z hz => hx z (by rcases hz with rfl | rfl <;> simp [Op.operands])) hH hd
    · exact oCmpU_ok h (fun z hz => hx z (by rcases hz with rfl | rfl <;> simp [Op.operands])) hH hd
  · rcases orElseM_some h with h | h
    · exact one h
    · exact oCmpU_ok h (fun z hz => hx z (by rcases hz with rfl | rfl <;> simp [Op.operands])) hH hd
  · exact two _ h fun v H' hb => oSliceK_ok hb (fun z hz => hx z (by rcases hz with rfl | rfl <;> simp [Op.operands])) hH hd
  · exact one h

theorem stepM_no_defer {E : Operand → Option AV} {op : Op} (h : stepM P ora E H op = some outs) (c : Call) : op ≠ .defer c := by
  rintro rfl
  obtain ⟨x, h1, _⟩ := single_some (show single (stepA P ora.one E H (.defer c)) = some outs from h)
  exact absurd rfl (stepA_no_defer h1 c)
end

section
variable {P : Program} [Plain P] {ora : OraM} {n m : Nat} {r : Option Nat} {ρ : PM} {F F' : Fm} {H H' : HP} {a : Act} {w : World} {v : AV} {outs : List (AV × HP)}

theorem operM_ok (ho : OraMOK P ora) {o : Oper} {K : Act → World → Prop} {Q : Exit → Act → World → Prop} (h : stepM P ora (evF F) H o.op = some outs) (hp : ∀ x ∈ outs, ∃ F', putF n F o.dst x.1 = some F') (s : SRel n ρ F H a w)
    (hk : ∀ x ∈ outs, ∀ F', putF n F o.dst x.1 = some F' → ∀ ρ' a' w', SRel n ρ' F' x.2 a' w' → a'.defers = a.defers → Sim ρ H w ρ' x.2 w' → K a' w') : o.wpIn (WF r) m P a w K Q := by
  obtain ⟨hst, hop⟩ := stepM_ok (w := w) (ev := a.eval) (ρ := ρ) ho h (fun x _ v hv => evF_rel s.fr hv) s.hp s.dom
  refine ⟨fun f _ => trivial, ?_⟩
  rw [Oper.semAt_eq _ _ _ (stepM_no_defer h)]
  obtain ⟨dst, op, ty, pos, after, guard⟩ := o
  refine upon_of_gives (hop dst ty pos after guard) fun u w' ⟨x, hx, ρ', hv, hs⟩ => ?_
  obtain ⟨F', hF⟩ := hp x hx
  exact hk x hx F' hF ρ' _ w' ⟨putF_rel (s.fr.mono hs.le) hv hF, hs.rel, hs.dom⟩ (put_defers _ _ _) hs

/-! ### A region in the text's order -/
noncomputable def seqM (P : Program) [Plain P] (ora : OraM) (n : Nat) (ops : List Oper) : List Oper → Fm → HP → Option (List (Fm × HP))
  | [], F, H => some [(F, H)]
  | o :: rest, F, H =>
    match wantF ops F o.guard with
    | some true => match stepM P ora (evF F) H o.op with
      | some outs => bindL (fun x => match putF n F o.dst x.1 with
        | some F' => seqM P ora n ops rest F' x.2
        | none => none) outs
      | none => none
    | some false => match putF n F o.dst undefA with
      | some F' => seqM P ora n ops rest F' H
      | none => none
    | none => none

theorem stepM_st (ho : OraMOK P ora) {E : Operand → Option AV} {op : Op} (h : stepM P ora E H op = some outs) : ∀ o ∈ outs, St H o.2 := by
  have two : ∀ (b : R), single (orElseR (stepA P ora.one E H op) b) = some outs → (∀ v H', b = some (v, H') → H' = H) → ∀ o ∈ outs, St H o.2 := by
    intro b h hb
    obtain ⟨⟨v, H'⟩, h1, rfl⟩ := single_some h
    intro o hm
    rw [List.mem_singleton.1 hm]
    rcases orElseR_some h1 with h1 | h1
    · exact stepA_st ho.one.st h1
    · rw [hb v H' h1]; exact St.refl _
  have one : single (stepA P ora.one E H op) = some outs → ∀ o ∈ outs, St H o.2 := by
    intro h
    obtain ⟨⟨v, H'⟩, h1, rfl⟩ := single_some h
    exact fun o hm => by rw [List.mem_singleton.1 hm]; exact stepA_st ho.one.st h1
  have cmp : ∀ {o : BinOp} {x y : Operand}, oCmpU E H o x y = some outs → ∀ o ∈ outs, St H o.2 := by
    intro o x y h
    unfold oCmpU at h
    repeat' (split at h)
    all_goals first
      | (cases h; done)
      | skip
    cases h
    intro p hp
    rcases List.mem_cons.1 hp with rfl | hp
    · exact St.refl _
    · rw [List.mem_singleton.1 hp]; exact St.refl _
  unfold stepM at h
  split at h
  · rename_i c
    split at h
    · unfold oCallM at h
      repeat' (split at h)
      all_goals first
        | (cases h; done)
        | exact (ho _ _ _ _ h).1
    · refine two _ h fun v H' hb => ?_
      unfold oCapK at hb
      repeat' (split at hb)
      all_goals first
        | (cases hb; done)
        | (cases hb; rfl)
    · refine two _ h fun v H' hb => ?_
      unfold oLenU at hb
      repeat' (split at hb)
      all_goals first
        | (cases hb; done)
        | (cases hb; rfl)
    · exact one h
  · exact oNextM_st h
  · rcases orElseM_some h with h | h
    · refine two _ h fun v H' hb => ?_
      unfold oGtrK at hb
      repeat' (split at hb)
      all_goals first
        | (cases hb; done)
        | (cases hb; rfl)
    · exact cmp h
  · rcases orElseM_some h with h | h
    · exact one h
    · exact cmp h
  · refine two _ h fun v H' hb => ?_
    unfold oSliceK at hb
    repeat' (split at hb)
    all_goals first
      | (cases hb; done)
      | (cases hb; rfl)
  · exact one h

theorem seqM_wp (ho : OraMOK P ora) {ops : List Oper} {Q : Exit → Act → World → Prop} : ∀ (rest : List Oper) {ρ : PM} {F : Fm} {H : HP} {a : Act} {w : World} {res : List (Fm × HP)},
    seqM P ora n ops rest F H = some res → SRel n ρ F H a w → (∀ x ∈ res, ∀ ρ' a' w', SRel n ρ' x.1 x.2 a' w' → a'.defers = a.defers → Sim ρ H w ρ' x.2 w' → Q .normal a' w') → wpListIn (WF r) m P ops.toArray Q rest a w
  | [], ρ, F, H, a, w, res, h, s, hq => by cases h; exact hq _ (List.mem_singleton.2 rfl) ρ a w s rfl (Sim.refl s.hp s.dom)
  | o :: rest, ρ, F, H, a, w, res, h, s, hq => by
    simp only [seqM] at h
    split at h
    · rename_i hw
      have hwant := wantF_ok s.fr hw
      split at h
      · rename_i outs hstep
        obtain ⟨h1, h2⟩ := bindL_spec h
        simp only [wpListIn]
        rw [if_pos hwant]
        have hput : ∀ x ∈ outs, ∃ F', putF n F o.dst x.1 = some F' ∧ ∃ zs, seqM P ora n ops rest F' x.2 = some zs ∧ ∀ z ∈ zs, z ∈ res := by
          intro x hx
          obtain ⟨zs, h3, h4⟩ := h1 x hx
          split at h3
          · rename_i F' hp
            exact ⟨F', hp, zs, h3, h4⟩
          · cases h3
        refine operM_ok ho hstep (fun x hx => let ⟨F', h3, _⟩ := hput x hx; ⟨F', h3⟩) s fun x hx F' hF ρ' a' w' s' hd hs => ?_
        obtain ⟨F2, h3, zs, h4, h5⟩ := hput x hx
        rw [hF] at h3
        cases h3
        exact seqM_wp ho rest h4 s' fun y hy ρ2 a2 w2 s2 hd2 hs2 => hq y (h5 y hy) ρ2 a2 w2 s2 (hd2.trans hd) (hs.trans s.dom hs2)
      · cases h
    · rename_i hw
      have hwant := wantF_ok s.fr hw
      split at h
      · rename_i F1 hput
        simp only [wpListIn]
        rw [if_neg (by rw [hwant]; simp)]
        refine ⟨fun f _ => trivial, ?_⟩
        exact seqM_wp ho rest h ⟨putF_rel s.fr (undef_rel ρ) hput, s.hp, s.dom⟩ fun x hx ρ2 a2 w2 s2 hd2 hs2 => hq x hx ρ2 a2 w2 s2 (hd2.trans (put_defers _ _ _)) hs2
      · cases h
    · cases h

theorem seqM_st (ho : OraMOK P ora) {ops : List Oper} : ∀ (rest : List Oper) {F : Fm} {H : HP} {res : List (Fm × HP)}, seqM P ora n ops rest F H = some res → ∀ x ∈ res, St H x.2
  | [], F, H, res, h => by cases h; exact fun x hx => by rw [List.mem_singleton.1 hx]; exact St.refl _
  | o :: rest, F, H, res, h => by
    simp only [seqM] at h
    split at h
    · split at h
      · rename_i outs hstep
        obtain ⟨h1, h2⟩ := bindL_spec h
        intro x hx
        obtain ⟨y, hy, zs, h3, h4⟩ := h2 x hx
        split at h3
        · exact (stepM_st ho hstep y hy).trans (seqM_st ho rest h3 x h4)
        · cases h3
      · cases h
    · split at h
      · exact seqM_st ho rest h
      · cases h
    · cases h

theorem wp_seqM (ho : OraMOK P ora) {id : Nat} {ops : List Oper} {Q : Exit → Act → World → Prop} {res : List (Fm × HP)} (h : seqM P ora n ops ops F H = some res) (s : SRel n ρ F H a w)
    (hq : ∀ x ∈ res, ∀ ρ' a' w', SRel n ρ' x.1 x.2 a' w' → a'.defers = a.defers → Sim ρ H w ρ' x.2 w' → Q .normal a' w') : (Code.region id ops.toArray false).wpIn (WF r) m P Q a w :=
  wpIn_region_lit (seqM_wp ho ops h s hq)
end
end Go.Fv
