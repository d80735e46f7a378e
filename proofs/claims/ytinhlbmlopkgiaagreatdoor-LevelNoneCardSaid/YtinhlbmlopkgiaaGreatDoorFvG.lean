/-
  A second abstract evaluator of the model's code: operations on two values, calls, lengths. Conditions: none; nothing here speaks of one program.
-/
import Derived.Test.YtinhlbmlopkgiaaGreatDoorFvF
set_option linter.unusedSectionVars false
set_option linter.unusedVariables false
namespace Go.Fv
section
variable {P : Program} [Plain P] {ora : Ora} {E : Operand → Option AV} {H H' : HP} {w : World} {ρ : PM} {ev : Operand → Value} {v : AV}

theorem strA_ok {op : BinOp} {a b : ByteArray} {r : Value} (t : TypeId) (h : strA op a b = some r) : (binOp op t (.string a) (.string b)).run P w = .ok r w ∧ litOK r = true := by
  unfold strA at h
  split at h
  · split at h
    · rename_i hle
      cases h
      have hmax : IntKind.i64.max = 9223372036854775807 := by decide
      refine ⟨?_, by simp only [litOK, decide_eq_true_eq, ByteArray.size_append]; exact hle⟩
      simp only [binOp, Op.stringOp]
      rw [if_neg (by rw [hmax]; omega)]
      rfl
    · cases h
  all_goals first | (cases h; exact ⟨by simp [binOp, Op.stringOp], rfl⟩) | cases h


theorem isNil_form {x : AV} {u : Value} {p : Bool} (h : isNilA x = some p) (hr : VRel ρ x u) :
    (nilKind x = 1 ∧ ∃ a, u = .pointer a ∧ a.isNone = p) ∨ (nilKind x = 2 ∧ ∃ a n c, u = .slice a n c ∧ a.isNone = p) ∨ (nilKind x = 3 ∧ ∃ r, u = .map r ∧ r.isNone = p) ∨
    (nilKind x = 4 ∧ ((u = .nilFunc ∧ p = true) ∨ ∃ f a c, u = .func f a c ∧ p = false)) := by
  unfold isNilA at h
  split at h <;> cases h
  · exact .inl ⟨rfl, none, hr.1, rfl⟩
  · exact .inr (.inl ⟨rfl, none, _, _, hr.1, rfl⟩)
  · exact .inr (.inr (.inl ⟨rfl, none, hr.1, rfl⟩))
  · exact .inr (.inr (.inr ⟨rfl, .inl ⟨hr.1, rfl⟩⟩))
  · exact .inr (.inr (.inr ⟨rfl, .inr ⟨_, _, _, hr.1, rfl⟩⟩))
  · obtain ⟨L, _, h2⟩ := hr
    exact .inl ⟨rfl, _, h2, rfl⟩
  · obtain ⟨⟨L, _, h2⟩, _⟩ := hr
    exact .inr (.inl ⟨rfl, _, _, _, h2, rfl⟩)
  · obtain ⟨L, cap, _, h2, _⟩ := hr
    exact .inr (.inl ⟨rfl, _, _, _, h2, rfl⟩)
  · obtain ⟨L, off, cap, _, h2, _⟩ := hr
    exact .inr (.inl ⟨rfl, _, _, _, h2, rfl⟩)
  · obtain ⟨us, h2, _⟩ := hr
    exact .inr (.inr (.inr ⟨rfl, .inr ⟨_, _, _, h2, rfl⟩⟩))
  · obtain ⟨L, _, h2⟩ := hr
    exact .inr (.inr (.inl ⟨rfl, _, h2, rfl⟩))

theorem eq_ptr1 {d : Nat} {t e : TypeId} {b : Option Addr} (hu : P.underlying t = some (.pointer e)) : (Op.equalIn (d + 1) t (.pointer none) (.pointer b)).run P w = .ok b.isNone w := by simp [Op.equalIn, run_underlying hu]
theorem eq_ptr2 {d : Nat} {t e : TypeId} {a : Addr} (hu : P.underlying t = some (.pointer e)) : (Op.equalIn (d + 1) t (.pointer (some a)) (.pointer none)).run P w = .ok false w := by simp [Op.equalIn, run_underlying hu]
theorem eq_sl1 {d : Nat} {t e : TypeId} {b : Option Addr} {n c n' c' : Nat} (hu : P.underlying t = some (.slice e)) : (Op.equalIn (d + 1) t (.slice none n c) (.slice b n' c')).run P w = .ok b.isNone w := by simp [Op.equalIn, run_underlying hu]
theorem eq_sl2 {d : Nat} {t e : TypeId} {a : Addr} {n c n' c' : Nat} (hu : P.underlying t = some (.slice e)) : (Op.equalIn (d + 1) t (.slice (some a) n c) (.slice none n' c')).run P w = .ok false w := by simp [Op.equalIn, run_underlying hu]
theorem eq_mp1 {d : Nat} {t e f : TypeId} {b : Option Nat} (hu : P.underlying t = some (.map e f)) : (Op.equalIn (d + 1) t (.map none) (.map b)).run P w = .ok b.isNone w := by simp [Op.equalIn, run_underlying hu]
theorem eq_mp2 {d : Nat} {t e f : TypeId} {a : Nat} (hu : P.underlying t = some (.map e f)) : (Op.equalIn (d + 1) t (.map (some a)) (.map none)).run P w = .ok false w := by simp [Op.equalIn, run_underlying hu]
theorem eq_fn0 {d : Nat} {t : TypeId} {e f : Array TypeId} {g : Bool} (hu : P.underlying t = some (.func e f g)) : (Op.equalIn (d + 1) t .nilFunc .nilFunc).run P w = .ok true w := by simp [Op.equalIn, run_underlying hu]
theorem eq_fn1 {d : Nat} {t : TypeId} {e f : Array TypeId} {g : Bool} {h : Fn} {a c : Array Value} (hu : P.underlying t = some (.func e f g)) : (Op.equalIn (d + 1) t .nilFunc (.func h a c)).run P w = .ok false w := by simp [Op.equalIn, run_underlying hu]
theorem eq_fn2 {d : Nat} {t : TypeId} {e f : Array TypeId} {g : Bool} {h : Fn} {a c : Array Value} (hu : P.underlying t = some (.func e f g)) : (Op.equalIn (d + 1) t (.func h a c) .nilFunc).run P w = .ok false w := by simp [Op.equalIn, run_underlying hu]
theorem equal_unfold (t : TypeId) (u u' : Value) : Op.equal t u u' = Op.equalIn (9999 + 1) t u u' := rfl

set_option maxHeartbeats 1000000 in
theorem nilA_ok {op : BinOp} {d : TypeDesc} {t : TypeId} {x y : AV} {u u' r : Value} (hu : P.underlying t = some d) (h : nilA op d x y = some r) (hx : VRel ρ x u) (hy : VRel ρ y u') (ox oy : Operand) :
    (do eqGuard op t ox oy u u'; binOp op t u u' : Sem Value).run P w = .ok r w ∧ litOK r = true := by
  unfold nilA at h
  split at h
  · rename_i p q hp hq
    split at h
    · rename_i hk
      obtain ⟨k1, k2, hpq⟩ := hk
      have key : ∀ (eqv : Bool), (Op.equal t u u').run P w = .ok eqv w → (eqGuard op t ox oy u u').run P w = .ok () w → (∀ (k k' : IntKind) a b, ¬ (u = .int k a ∧ u' = .int k' b)) → (∀ a b, ¬ (u = .string a ∧ u' = .string b)) →
          (∀ (k k' : FloatKind) a b, ¬ (u = .float k a ∧ u' = .float k' b)) → (∀ (k k' : FloatKind) a b c e, ¬ (u = .complex k a b ∧ u' = .complex k' c e)) → eqv = (p && q) →
          (do eqGuard op t ox oy u u'; binOp op t u u' : Sem Value).run P w = .ok r w ∧ litOK r = true := by
        intro eqv h1 h2 n1 n2 n3 n4 he
        subst he
        rw [Sem.run_bind, h2, Result.andThen_ok]
        split at h
        · cases h
          refine ⟨?_, rfl⟩
          have : binOp .eql t u u' = (do pure (.bool (← Op.equal t u u'))) := by
            unfold binOp
            split <;> first | (rename_i a b; exact absurd ⟨rfl, rfl⟩ (n2 _ _)) | (exact absurd ⟨rfl, rfl⟩ (n1 _ _ _ _)) | (exact absurd ⟨rfl, rfl⟩ (n3 _ _ _ _)) | (exact absurd ⟨rfl, rfl⟩ (n4 _ _ _ _ _ _)) | rfl | simp_all
          rw [this, Sem.run_bind, h1]
          rfl
        · cases h
          refine ⟨?_, rfl⟩
          have : binOp .neq t u u' = (do pure (.bool (!(← Op.equal t u u')))) := by
            unfold binOp
            split <;> first | (rename_i a b; exact absurd ⟨rfl, rfl⟩ (n2 _ _)) | (exact absurd ⟨rfl, rfl⟩ (n1 _ _ _ _)) | (exact absurd ⟨rfl, rfl⟩ (n3 _ _ _ _)) | (exact absurd ⟨rfl, rfl⟩ (n4 _ _ _ _ _ _)) | rfl | simp_all
          rw [this, Sem.run_bind, h1]
          rfl
        · cases h
      have hmk : ∀ {k1 k2 k3 : Nat}, k1 = k3 → k2 = k3 → k1 = k2 := fun a b => a.trans b.symm
      rcases isNil_form hp hx with ⟨e1, a, rfl, ha⟩ | ⟨e1, a, n, c, rfl, ha⟩ | ⟨e1, a, rfl, ha⟩ | ⟨e1, hu1⟩ <;> rcases isNil_form hq hy with ⟨e2, b, rfl, hb⟩ | ⟨e2, b, n', c', rfl, hb⟩ | ⟨e2, b, rfl, hb⟩ | ⟨e2, hu2⟩ <;> first | (exfalso; omega) | skip
      · rw [e1] at k1
        have hd' : ∃ e, d = .pointer e := by cases d <;> first | exact ⟨_, rfl⟩ | (exfalso; simp [descKind] at k1)
        obtain ⟨e, rfl⟩ := hd'
        refine key (p && q) ?_ (by rw [eqGuard_at_pointer]; rfl) (by rintro _ _ _ _ ⟨h, _⟩; cases h) (by rintro _ _ ⟨h, _⟩; cases h) (by rintro _ _ _ _ ⟨h, _⟩; cases h) (by rintro _ _ _ _ _ _ ⟨h, _⟩; cases h) rfl
        rw [equal_unfold]
        cases a with
        | none =>
          subst ha
          rw [eq_ptr1 hu, hb]; rfl
        | some a =>
          cases b with
          | none => subst ha; rw [eq_ptr2 hu]; rfl
          | some b => subst ha; subst hb; simp at hpq
      · rw [e1] at k1
        have hd' : ∃ e, d = .slice e := by cases d <;> first | exact ⟨_, rfl⟩ | (exfalso; simp [descKind] at k1)
        obtain ⟨e, rfl⟩ := hd'
        refine key (p && q) ?_ (by rw [eqGuard_at_slice]; rfl) (by rintro _ _ _ _ ⟨h, _⟩; cases h) (by rintro _ _ ⟨h, _⟩; cases h) (by rintro _ _ _ _ ⟨h, _⟩; cases h) (by rintro _ _ _ _ _ _ ⟨h, _⟩; cases h) rfl
        rw [equal_unfold]
        cases a with
        | none =>
          subst ha
          rw [eq_sl1 hu, hb]; rfl
        | some a =>
          cases b with
          | none => subst ha; rw [eq_sl2 hu]; rfl
          | some b => subst ha; subst hb; simp at hpq
      · rw [e1] at k1
        have hd' : ∃ e f, d = .map e f := by cases d <;> first | exact ⟨_, _, rfl⟩ | (exfalso; simp [descKind] at k1)
        obtain ⟨e, f, rfl⟩ := hd'
        refine key (p && q) ?_ (by rw [eqGuard_at_map]; rfl) (by rintro _ _ _ _ ⟨h, _⟩; cases h) (by rintro _ _ ⟨h, _⟩; cases h) (by rintro _ _ _ _ ⟨h, _⟩; cases h) (by rintro _ _ _ _ _ _ ⟨h, _⟩; cases h) rfl
        rw [equal_unfold]
        cases a with
        | none =>
          subst ha
          rw [eq_mp1 hu, hb]; rfl
        | some a =>
          cases b with
          | none => subst ha; rw [eq_mp2 hu]; rfl
          | some b => subst ha; subst hb; simp at hpq
      · rw [e1] at k1
        have hd' : ∃ e f g, d = .func e f g := by cases d <;> first | exact ⟨_, _, _, rfl⟩ | (exfalso; simp [descKind] at k1)
        obtain ⟨e, f, g, rfl⟩ := hd'
        rcases hu1 with ⟨rfl, rfl⟩ | ⟨f1, a1, c1, rfl, rfl⟩ <;> rcases hu2 with ⟨rfl, rfl⟩ | ⟨f2, a2, c2, rfl, rfl⟩
        · refine key true ?_ (by cases op <;> rfl) (by rintro _ _ _ _ ⟨h, _⟩; cases h) (by rintro _ _ ⟨h, _⟩; cases h) (by rintro _ _ _ _ ⟨h, _⟩; cases h) (by rintro _ _ _ _ _ _ ⟨h, _⟩; cases h) rfl
          rw [equal_unfold]; exact eq_fn0 hu
        · refine key false ?_ (by cases op <;> rfl) (by rintro _ _ _ _ ⟨h, _⟩; cases h) (by rintro _ _ ⟨h, _⟩; cases h) (by rintro _ _ _ _ ⟨h, _⟩; cases h) (by rintro _ _ _ _ _ _ ⟨h, _⟩; cases h) rfl
          rw [equal_unfold]; exact eq_fn1 hu
        · refine key false ?_ (by cases op <;> rfl) (by rintro _ _ _ _ ⟨h, _⟩; cases h) (by rintro _ _ ⟨h, _⟩; cases h) (by rintro _ _ _ _ ⟨h, _⟩; cases h) (by rintro _ _ _ _ _ _ ⟨h, _⟩; cases h) rfl
          rw [equal_unfold]; exact eq_fn2 hu
        · simp at hpq
    · cases h
  · cases h

theorem oBin_ok {op : BinOp} {t yt : TypeId} {x y : Operand} (h : oBin P E H op t x y = some (v, H')) (hx : ∀ z, z = x ∨ z = y → ∀ a, E z = some a → VRel ρ a (ev z)) (hH : HRel ρ H w) (hd : Dom ρ H.n) : St H H' ∧ OpS P ρ ev H w (.binOp op t x y yt) v H' := by
  unfold oBin at h
  split at h
  · rename_i a b ha hb
    have ra := hx x (.inl rfl) _ ha
    have rb := hx y (.inr rfl) _ hb
    split at h
    · rename_i r hr
      cases h
      obtain ⟨h1, h2⟩ := binA_ok (w := w) (ox := x) (oy := y) hr ra rb
      exact ⟨St.refl H, OpS.val hH hd (lit_rel h2) fun dst ty pos after guard => run_v h1⟩
    · obtain ⟨r, hr, hv⟩ := map_some h
      cases hv
      have key : (do eqGuard op t x y (ev x) (ev y); binOp op t (ev x) (ev y) : Sem Value).run P w = .ok r w ∧ litOK r = true := by
        unfold moreA at hr
        split at hr
        · rename_i s s'
          obtain ⟨e1, _⟩ := ra
          obtain ⟨e2, _⟩ := rb
          obtain ⟨h1, h2⟩ := strA_ok (P := P) (w := w) t hr
          refine ⟨?_, h2⟩
          rw [e1, e2, Sem.run_bind, eqGuard_at_string]
          simp only [Sem.run_pure, Result.andThen_ok]
          exact h1
        · rw [undT_eq] at hr
          split at hr
          · rename_i d hu
            exact nilA_ok hu hr ra rb x y
          · cases hr
      exact ⟨St.refl H, OpS.val hH hd (lit_rel key.2) fun dst ty pos after guard => run_v key.1⟩
  · cases h

theorem ptrs_rel : ∀ {caps : List (Nat × Nat)} {us : List Value}, All2 (fun (p : Nat × Nat) v => ∃ L, ρ p.1 = some L ∧ v = Value.pointer (some ⟨L.B, L.o + p.2, none⟩)) caps us → All2 (VRel ρ) (ptrs caps) us
  | [], [], _ => trivial
  | _ :: _, _ :: _, ⟨h1, h2⟩ => ⟨h1, ptrs_rel h2⟩
  | [], _ :: _, h => h.elim
  | _ :: _, [], h => h.elim

theorem oCall_ok (ho : OraOK P ora) {f : Operand} {args : Array Operand} {ats : Array TypeId} (h : oCall ora E H f args = some (v, H')) (hx : ∀ z, (z = f ∨ z ∈ args.toList) → ∀ a, E z = some a → VRel ρ a (ev z)) (hH : HRel ρ H w) (hd : Dom ρ H.n) :
    St H H' ∧ OpS P ρ ev H w (.call ⟨.value f, args, ats⟩) v H' := by
  unfold oCall at h
  split at h
  · rename_i g a b vs hf hl
    split at h
    · rename_i hab
      obtain ⟨hst, hg⟩ := ho _ _ _ _ _ h
      obtain ⟨hev, _⟩ := hx f (.inl rfl) _ hf
      have hus := listE_rel (ρ := ρ) (ev := ev) (xs := args.toList) (fun x hx' v hv => hx x (.inr hx') v hv) hl
      refine ⟨hst, fun dst ty pos after guard => ?_⟩
      have ha : a = #[] := Array.eq_empty_of_size_eq_zero hab.1
      have hb : b = #[] := Array.eq_empty_of_size_eq_zero hab.2
      subst ha
      subst hb
      have hrun : (execOp ev ⟨dst, .call ⟨.value f, args, ats⟩, ty, pos, after, guard⟩).run P w = (callFunc g (args.map ev)).run P w := by
        simp [execOp, resolve, hev, Deferred.ofValue, invoke]
      rw [hrun]
      exact hg ρ w _ _ rfl (by simpa using hus) hH hd
    · cases h
  · rename_i g caps vs hf hl
    obtain ⟨hst, hg⟩ := ho _ _ _ _ _ h
    obtain ⟨us, hev, hcaps⟩ := hx f (.inl rfl) _ hf
    have hus := listE_rel (ρ := ρ) (ev := ev) (xs := args.toList) (fun x hx' v hv => hx x (.inr hx') v hv) hl
    refine ⟨hst, fun dst ty pos after guard => ?_⟩
    have hrun : (execOp ev ⟨dst, .call ⟨.value f, args, ats⟩, ty, pos, after, guard⟩).run P w = (callFunc g (args.map ev ++ us)).run P w := by
      simp [execOp, resolve, hev, Deferred.ofValue, invoke]
    rw [hrun]
    exact hg ρ w _ _ rfl (by simpa using hus.append (ptrs_rel hcaps)) hH hd
  · rename_i b vs hf hl
    obtain ⟨hst, hg⟩ := ho _ _ _ _ _ h
    obtain ⟨L, hL, hev⟩ := hx f (.inl rfl) _ hf
    have hus := listE_rel (ρ := ρ) (ev := ev) (xs := args.toList) (fun x hx' v hv => hx x (.inr hx') v hv) hl
    refine ⟨hst, fun dst ty pos after guard => ?_⟩
    have hrun : (execOp ev ⟨dst, .call ⟨.value f, args, ats⟩, ty, pos, after, guard⟩).run P w = (Instr.yield L.B (args.map ev)).run P w := by
      simp [execOp, resolve, hev, Deferred.ofValue, invoke]
    rw [hrun]
    exact hg ρ w _ _ ⟨L, hL, rfl⟩ (by simpa using hus) hH hd
  · cases h

theorem listE_one {xs : List Operand} {y : AV} (h : listE E xs = some [y]) : ∃ x, xs = [x] ∧ E x = some y := allSome_one h

theorem i64_ok {n : Nat} (h : n ≤ 9223372036854775807) : litOK (.int .i64 n) = true := by
  have hmin : IntKind.i64.min = -9223372036854775808 := by decide
  have hmax : IntKind.i64.max = 9223372036854775807 := by decide
  simp only [litOK, Bool.and_eq_true, decide_eq_true_eq, hmin, hmax]
  omega

theorem oLen_ok {args : Array Operand} {ats : Array TypeId} (h : oLen P E H args ats = some (v, H')) (hx : ∀ z ∈ args.toList, ∀ a, E z = some a → VRel ρ a (ev z)) (hH : HRel ρ H w) (hd : Dom ρ H.n) :
    St H H' ∧ OpS P ρ ev H w (.call ⟨.builtin .len, args, ats⟩) v H' := by
  unfold oLen at h
  split at h
  · rename_i x t rest hl hat
    obtain ⟨n, hn, hv⟩ := map_some h
    cases hv
    obtain ⟨y, hy, hx'⟩ := listE_one hl
    have hev := hx y (by rw [hy]; simp) _ hx'
    have hargs : args = #[y] := by rw [← Array.toList_inj]; simpa using hy
    have hats : ats[0]? = some t := by rw [← Array.getElem?_toList, hat]; rfl
    subst hargs
    have hlen : ∀ ty, (Builtin.len_ ats ty #[ev y]).run P w = .ok (.int .i64 n) w ∧ n ≤ 9223372036854775807 := by
      intro ty
      unfold lenA at hn
      rw [undT_eq] at hn
      split at hn
      · rename_i s hu
        cases hn
        obtain ⟨he, hs⟩ := hev
        simp only [litOK, decide_eq_true_eq] at hs
        exact ⟨by simp [Builtin.len_, hats, run_underlying hu, he, goInt], hs⟩
      · rename_i n' e hu
        split at hn
        · rename_i hle
          cases hn
          exact ⟨by simp [Builtin.len_, hats, run_underlying hu, goInt], hle⟩
        · cases hn
      · rename_i e b off n' cap hu
        cases hn
        obtain ⟨⟨L, _, he⟩, h1, h2⟩ := hev
        exact ⟨by simp [Builtin.len_, hats, run_underlying hu, he, goInt], by omega⟩
      · rename_i e b off n' s hu
        cases hn
        obtain ⟨L, cap, _, he, h1, h2, _⟩ := hev
        exact ⟨by simp [Builtin.len_, hats, run_underlying hu, he, goInt], by omega⟩
      · rename_i e b s hu
        cases hn
        obtain ⟨L, off, cap, _, he, _⟩ := hev
        exact ⟨by simp [Builtin.len_, hats, run_underlying hu, he, goInt], by omega⟩
      · rename_i e n' c hu
        cases hn
        obtain ⟨he, hs⟩ := hev
        simp only [litOK, Bool.and_eq_true] at hs
        have h0 := Nat.eq_of_beq_eq_true hs.1
        exact ⟨by simp [Builtin.len_, hats, run_underlying hu, he, goInt], by omega⟩
      · cases hn
    refine ⟨St.refl H, OpS.val hH hd (lit_rel (i64_ok (hlen 0).2)) fun dst ty pos after guard => ?_⟩
    simp [execOp, resolve, invoke, builtin, (hlen ty).1]
  · cases h

theorem oCap_ok {args : Array Operand} {ats : Array TypeId} (h : oCap P E H args ats = some (v, H')) (hx : ∀ z ∈ args.toList, ∀ a, E z = some a → VRel ρ a (ev z)) (hH : HRel ρ H w) (hd : Dom ρ H.n) :
    St H H' ∧ OpS P ρ ev H w (.call ⟨.builtin .cap, args, ats⟩) v H' := by
  unfold oCap at h
  split at h
  · rename_i x t rest hl hat
    obtain ⟨n, hn, hv⟩ := map_some h
    cases hv
    obtain ⟨y, hy, hx'⟩ := listE_one hl
    have hev := hx y (by rw [hy]; simp) _ hx'
    have hargs : args = #[y] := by rw [← Array.toList_inj]; simpa using hy
    have hats : ats[0]? = some t := by rw [← Array.getElem?_toList, hat]; rfl
    subst hargs
    have hlen : ∀ ty, (Builtin.cap_ ats ty #[ev y]).run P w = .ok (.int .i64 n) w ∧ n ≤ 9223372036854775807 := by
      intro ty
      unfold capA at hn
      rw [undT_eq] at hn
      split at hn
      · rename_i e b off n' cap hu
        cases hn
        obtain ⟨⟨L, _, he⟩, h1, h2⟩ := hev
        exact ⟨by simp [Builtin.cap_, hats, run_underlying hu, he, goInt], by omega⟩
      · rename_i e n' c hu
        cases hn
        obtain ⟨he, hs⟩ := hev
        simp only [litOK, Bool.and_eq_true] at hs
        have h0 := Nat.eq_of_beq_eq_true hs.2
        exact ⟨by simp [Builtin.cap_, hats, run_underlying hu, he, goInt], by omega⟩
      · cases hn
    refine ⟨St.refl H, OpS.val hH hd (lit_rel (i64_ok (hlen 0).2)) fun dst ty pos after guard => ?_⟩
    simp [execOp, resolve, invoke, builtin, (hlen ty).1]
  · cases h
end
end Go.Fv
