/-
  What a map of ops and views holds, how it is told, how it is sorted. Plain Lean. Conditions: none.
  The library's sort and cmp.Compare, laid at this seat, in plain words (written by the kit's tool lay-plain). Conditions: none.
  The library's sort, laid at this seat: pairs are sorted by their first number. Conditions: none.
  Contracts of a chapter's functions: what compares numbers and votes. Conditions: none.
-/
import Derived.Test.YtlbbkmcegbeckaaSnI
import Derived.Test.YtlbbkmcegbeckaaRows
import Derived.Shelf.SlSortCmp.NoneTotal
import Derived.Shelf.SlicesG.Cmp
import Derived.Ground.SlsfProg
import Derived.Ground.SlgcProg
import Derived.Test.YtlbbkmcegbeckaaSnA
set_option linter.unusedSectionVars false
set_option linter.unusedVariables false
set_option linter.unusedSimpArgs false
namespace Go.Proofs.Ytlbbkmcegbeckaa.Cn
open Go.Sx Go.Proofs
theorem mapOK_nil {f : Int → Int} (h : ∀ k, f k = -1) : MapOK f [] :=
 ⟨fun r hr => (by cases hr), fun k hk => (by rw [h k] at hk; omega), List.Pairwise.nil, fun k => by rw [h k]; omega⟩
theorem MapOK.congr {f g : Int → Int} {e : List (List CD)} (h : MapOK f e) (hg : ∀ k, g k = f k) : MapOK g e := by
 have : g = f := funext hg
 rw [this]
 exact h
theorem map_has {f : Int → Int} {e : List (List CD)} (h : MapOK f e) (k : Int) : mHas (i0 k) e = decide (0 ≤ f k) := by
 rw [Bool.eq_iff_iff]
 unfold mHas
 rw [List.any_eq_true, decide_eq_true_eq]
 constructor
 ·rintro ⟨r, hr, he⟩
  obtain ⟨k', c, rfl, h0⟩ := h.rows r hr
  have he : decide (k = k') = true := he
  rw [of_decide_eq_true he]
  exact h0
 ·intro h0
  obtain ⟨r, hr, he⟩ := h.all k h0
  refine ⟨r, hr, ?_⟩
  rw [show r.getD 0 default = i0 k from he]
  exact decide_eq_true rfl
theorem map_get {f : Int → Int} : ∀ {e : List (List CD)} {k : Int} {z : CD}, (∀ r ∈ e, ∃ (k : Int) (c : CD), r = [i0 k, i0 (f k), c] ∧ 0 ≤ f k) → mHas (i0 k) e = true → mGet 1 (i0 k) z e = i0 (f k)
 | [], k, z, _, h => by cases h
 | r :: e, k, z, hr, h => by
  obtain ⟨k', c, rfl, h0⟩ := hr r (List.mem_cons_self ..)
  unfold mGet
  by_cases hk : k = k'
  ·subst hk
   exact if_pos (show eqC (i0 k) (List.getD [i0 k, i0 (f k), c] 0 default) = true from decide_eq_true rfl)
  ·have hne : eqC (i0 k) (List.getD [i0 k', i0 (f k'), c] 0 default) = false := decide_eq_false hk
   rw [if_neg (by rw [hne]; simp)]
   refine map_get (fun r hr' => hr r (List.mem_cons_of_mem _ hr')) ?_
   unfold mHas at h ⊢
   rw [List.any_cons, hne, Bool.false_or] at h
   exact h
theorem mPut_len {k c : CD} {vs : List CD} : ∀ {e : List (List CD)}, (mPut k vs c e).length ≤ e.length + 1
 | [] => by simp [mPut]
 | r :: e => by
  unfold mPut
  split
  ·simp
  ·have := mPut_len (k := k) (c := c) (vs := vs) (e := e)
   simp only [List.length_cons]
   omega
theorem put_rows {f : Int → Int} {K V : Int} {c : CD} (h0 : 0 ≤ V) : ∀ {e : List (List CD)}, (∀ r ∈ e, ∃ (k : Int) (c : CD), r = [i0 k, i0 (f k), c] ∧ 0 ≤ f k) → (e.Pairwise fun a b => (at' a 0).iv ≠ (at' b 0).iv) →
  (∀ r ∈ mPut (i0 K) [i0 V] c e, ∃ (k : Int) (c : CD), r = [i0 k, i0 (if k = K then V else f k), c] ∧ 0 ≤ (if k = K then V else f k)) ∧
  ((mPut (i0 K) [i0 V] c e).Pairwise fun a b => (at' a 0).iv ≠ (at' b 0).iv) ∧ (∀ k, (k = K ∨ ∃ r ∈ e, at' r 0 = i0 k) → ∃ r ∈ mPut (i0 K) [i0 V] c e, at' r 0 = i0 k) ∧
  ∀ k : Int, k ≠ K → (∀ r ∈ e, (at' r 0).iv ≠ k) → ∀ r ∈ mPut (i0 K) [i0 V] c e, (at' r 0).iv ≠ k
 | [], _, _ => by
  have e1 : mPut (i0 K) [i0 V] c [] = [[i0 K, i0 V, c]] := rfl
  rw [e1]
  refine ⟨fun r hr => ?_, List.pairwise_singleton .., fun k hk => ?_, fun k hk _ r hr => ?_⟩
  ·rw [List.mem_singleton.1 hr]
   exact ⟨K, c, by rw [if_pos rfl], by rw [if_pos rfl]; exact h0⟩
  ·rcases hk with rfl | ⟨r, hr, _⟩
   ·exact ⟨_, List.mem_singleton.2 rfl, rfl⟩
   ·cases hr
  ·rw [List.mem_singleton.1 hr]
   exact fun hh => hk hh.symm
 | r0 :: e, hr, hp => by
  obtain ⟨k', c', rfl, h0'⟩ := hr r0 (List.mem_cons_self ..)
  rw [List.pairwise_cons] at hp
  by_cases hk : K = k'
  ·subst hk
   have e1 : mPut (i0 K) [i0 V] c ([i0 K, i0 (f K), c'] :: e) = [i0 K, i0 V, c'] :: e := by
    unfold mPut
    exact if_pos (show eqC (i0 K) (List.getD [i0 K, i0 (f K), c'] 0 default) = true from decide_eq_true rfl)
   rw [e1]
   have hne : ∀ r ∈ e, (at' r 0).iv ≠ K := fun r hr' hh => hp.1 r hr' hh.symm
   refine ⟨fun r hr' => ?_, List.pairwise_cons.2 ⟨fun b hb => hp.1 b hb, hp.2⟩, fun k hk => ?_, fun k hk hall r hr' => ?_⟩
   ·rcases List.mem_cons.1 hr' with rfl | hr'
    ·exact ⟨K, c', by rw [if_pos rfl], by rw [if_pos rfl]; exact h0⟩
    ·obtain ⟨k2, c2, rfl, h2⟩ := hr r (List.mem_cons_of_mem _ hr')
     have : k2 ≠ K := hne _ hr'
     exact ⟨k2, c2, by rw [if_neg this], by rw [if_neg this]; exact h2⟩
   ·rcases hk with rfl | ⟨r, hr', hh⟩
    ·exact ⟨_, List.mem_cons_self .., rfl⟩
    ·rcases List.mem_cons.1 hr' with rfl | hr'
     ·exact ⟨_, List.mem_cons_self .., hh⟩
     ·exact ⟨r, List.mem_cons_of_mem _ hr', hh⟩
   ·rcases List.mem_cons.1 hr' with rfl | hr'
    ·exact fun hh => hk hh.symm
    ·exact hall r (List.mem_cons_of_mem _ hr')
  ·have hne : eqC (i0 K) (List.getD [i0 k', i0 (f k'), c'] 0 default) = false := decide_eq_false hk
   have e1 : mPut (i0 K) [i0 V] c ([i0 k', i0 (f k'), c'] :: e) = [i0 k', i0 (f k'), c'] :: mPut (i0 K) [i0 V] c e := by
    conv => lhs; unfold mPut
    rw [if_neg (by rw [hne]; simp)]
   rw [e1]
   obtain ⟨i1, i2, i3, i4⟩ := put_rows (K := K) (V := V) (c := c) h0 (fun r hr' => hr r (List.mem_cons_of_mem _ hr')) hp.2
   refine ⟨fun r hr' => ?_, List.pairwise_cons.2 ⟨fun b hb => ?_, i2⟩, fun k hk' => ?_, fun k hk' hall r hr' => ?_⟩
   ·rcases List.mem_cons.1 hr' with rfl | hr'
    ·exact ⟨k', c', by rw [if_neg fun hh => hk hh.symm], by rw [if_neg fun hh => hk hh.symm]; exact h0'⟩
    ·exact i1 r hr'
   ·have := i4 k' (fun hh => hk hh.symm) (fun r hr' hh => hp.1 r hr' hh.symm) b hb
    exact fun hh => this hh.symm
   ·rcases hk' with rfl | ⟨r, hr', hh⟩
    ·obtain ⟨r, h1, h2⟩ := i3 k (.inl rfl)
     exact ⟨r, List.mem_cons_of_mem _ h1, h2⟩
    ·rcases List.mem_cons.1 hr' with rfl | hr'
     ·exact ⟨_, List.mem_cons_self .., hh⟩
     ·obtain ⟨r2, h1, h2⟩ := i3 k (.inr ⟨r, hr', hh⟩)
      exact ⟨r2, List.mem_cons_of_mem _ h1, h2⟩
   ·rcases List.mem_cons.1 hr' with rfl | hr'
    ·exact hall _ (List.mem_cons_self ..)
    ·exact i4 k hk' (fun r hr'' => hall r (List.mem_cons_of_mem _ hr'')) r hr'
theorem map_put {f g : Int → Int} {e : List (List CD)} {K V : Int} {c : CD} (h : MapOK f e) (h0 : 0 ≤ V) (hg : ∀ k, g k = if k = K then V else f k) : MapOK g (mPut (i0 K) [i0 V] c e) := by
 obtain ⟨i1, i2, i3, _⟩ := put_rows (K := K) (V := V) (c := c) h0 h.rows h.one
 have : g = fun k => if k = K then V else f k := funext hg
 rw [this]
 refine ⟨i1, fun k hk => ?_, i2, fun k => ?_⟩
 ·by_cases hkK : k = K
  ·exact i3 k (.inl hkK)
  ·have hk : 0 ≤ (if k = K then V else f k) := hk
   rw [if_neg hkK] at hk
   exact i3 k (.inr (h.all k hk))
 ·show -1 ≤ (if k = K then V else f k)
  split
  ·omega
  ·exact h.low k
def fA (l : CD) (i m : Int) : Int → Int := fun op => viewL op (-1) (leadsR (l.rows.take i.toNat) m)
def fB (l : CD) (i m k : Int) : Int → Int := fun op => viewE op (viewL op (-1) (leadsR (l.rows.take i.toNat) m)) ((at' (row l i.toNat) 4).rows.take k.toNat)
def mapA (l : CD) (i m : Int) (e : List (List CD)) : Prop := MapOK (fA l i m) e
def mapB (l : CD) (i m k : Int) (e : List (List CD)) : Prop := MapOK (fB l i m k) e
def mapV (l : CD) (e : List (List CD)) : Prop := MapOK (view l) e
theorem mapA_fold {l : CD} {i m : Int} {e : List (List CD)} : MapOK (fun op => viewL op (-1) (leadsR (l.rows.take i.toNat) m)) e = mapA l i m e := rfl
theorem mapB_fold {l : CD} {i m k : Int} {e : List (List CD)} : MapOK (fun op => viewE op (viewL op (-1) (leadsR (l.rows.take i.toNat) m)) ((at' (row l i.toNat) 4).rows.take k.toNat)) e = mapB l i m k e := rfl
theorem mapV_fold {l : CD} {e : List (List CD)} : MapOK (view l) e = mapV l e := rfl
theorem mapA_0 {l : CD} {m : Int} : mapA l 0 m [] := mapOK_nil fun k => rfl
theorem mapA_skip {l : CD} {i m : Int} {e : List (List CD)} (h : mapA l i m e) (h0 : 0 ≤ i) (hi : i < l.len) (hne : ¬ (at' (row l i.toNat) 1).iv = m) : mapA l (i + 1) m e := by
 refine MapOK.congr h fun k => ?_
 unfold fA
 rw [take_row h0 hi, leads_snoc, if_neg hne, List.append_nil]
theorem fB_succ {l : CD} {i m k : Int} (k0 : 0 ≤ k) (hk : k < (at' (row l i.toNat) 4).len) (op : Int) : fB l i m (k + 1) op = if (at' (row (at' (row l i.toNat) 4) k.toNat) 0).iv = op ∧ (at' (row (at' (row l i.toNat) 4) k.toNat) 2).iv ≠ 3 then max (fB l i m k op) (at' (row (at' (row l i.toNat) 4) k.toNat) 1).iv else fB l i m k op := by
 unfold fB
 rw [take_row k0 hk, viewE_step]
theorem mapB_end {l : CD} {i m k : Int} {e : List (List CD)} (h : mapB l i m k e) (hT : Typ sVotes l) (h0 : 0 ≤ i) (hi : i < l.len) (hk : ¬ k < (at' (row l i.toNat) 4).len) (he : (at' (row l i.toNat) 1).iv = m) : mapA l (i + 1) m e := by
 have h1 : Typ (.sl sEnt) (at' (row l i.toNat) 4) := hT.cell (j := 4) h0 hi rfl
 refine MapOK.congr h fun op => ?_
 unfold fA fB
 rw [take_row h0 hi, leads_snoc, if_pos he, take_allT h1 hk]
 unfold viewL
 rw [List.foldl_append]
 rfl
theorem mapA_end {l : CD} {i : Int} {e : List (List CD)} (h : mapA l i (lead l) e) (hT : Typ sVotes l) (hi : ¬ i < l.len) : mapV l e := by
 refine MapOK.congr h fun op => ?_
 unfold fA view
 rw [take_allT hT hi]
theorem mapB_next {l : CD} {i m k : Int} {e : List (List CD)} {c : CD} (h : mapB l i m k e) (hT : Typ sVotes l) (hA : okA l = true) (h0 : 0 ≤ i) (hi : i < l.len) (k0 : 0 ≤ k) (hk : k < (at' (row l i.toNat) 4).len) :
  ((eqC (at' (row (at' (row l i.toNat) 4) k.toNat) 2) (vInt .i64 3) = true ∨ (mHas (at' (row (at' (row l i.toNat) 4) k.toNat) 0) e = true ∧ ∀ z, ¬ (mGet 1 (at' (row (at' (row l i.toNat) 4) k.toNat) 0) z e).iv < (at' (row (at' (row l i.toNat) 4) k.toNat) 1).iv)) → mapB l i m (k + 1) e) ∧
  (¬ eqC (at' (row (at' (row l i.toNat) 4) k.toNat) 2) (vInt .i64 3) = true → (¬ mHas (at' (row (at' (row l i.toNat) 4) k.toNat) 0) e = true ∨ ∃ z, (mGet 1 (at' (row (at' (row l i.toNat) 4) k.toNat) 0) z e).iv < (at' (row (at' (row l i.toNat) 4) k.toNat) 1).iv ∧ mHas (at' (row (at' (row l i.toNat) 4) k.toNat) 0) e = true) →
   mapB l i m (k + 1) (mPut (at' (row (at' (row l i.toNat) 4) k.toNat) 0) [at' (row (at' (row l i.toNat) 4) k.toNat) 1] c e)) := by
 obtain ⟨a1, a2, a3, a4, a5, a6⟩ := okE_row hA h0 hi k0 hk
 have t0 := typ_i0 (ent_typ (j := 0) hT h0 hi k0 hk (by omega))
 have t1 := typ_i0 (ent_typ (j := 1) hT h0 hi k0 hk (by omega))
 have t2 := ent_typ (j := 2) hT h0 hi k0 hk (by omega)
 have hs := fB_succ (l := l) (i := i) (m := m) k0 hk
 rw [eqC_lit t2]
 generalize at' (row (at' (row l i.toNat) 4) k.toNat) 0 = K at *
 generalize at' (row (at' (row l i.toNat) 4) k.toNat) 1 = V at *
 generalize at' (row (at' (row l i.toNat) 4) k.toNat) 2 = S at *
 rw [t0, t1]
 have hh := map_has h K.iv
 refine ⟨fun hc => ?_, fun hS hc => ?_⟩
 ·refine MapOK.congr h fun op => ?_
  rw [hs op]
  split
  ·rename_i h1
   rcases hc with hc | ⟨hc1, hc2⟩
   ·exact absurd hc h1.2
   ·have hg := hc2 (i0 0)
    rw [map_get h.rows hc1] at hg
    have hg : ¬ fB l i m k K.iv < V.iv := hg
    rw [h1.1] at hg
    show max (fB l i m k op) V.iv = fB l i m k op
    omega
  ·rfl
 ·have hlt : fB l i m k K.iv < V.iv := by
   rcases hc with hc | ⟨z, hc, hc1⟩
   ·rw [hh, decide_eq_true_eq] at hc
    omega
   ·rw [map_get h.rows hc1] at hc
    exact hc
  refine map_put h a3 fun op => ?_
  rw [hs op]
  by_cases h1 : op = K.iv
  ·subst h1
   rw [if_pos ⟨rfl, hS⟩, if_pos rfl]
   omega
  ·rw [if_neg (fun hh => h1 hh.1.symm), if_neg h1]
theorem mapV_at {l op : CD} {e : List (List CD)} (h : mapV l e) (hop : Typ sI op) : mHas op e = decide (0 ≤ view l op.iv) ∧ (¬ 0 ≤ view l op.iv → view l op.iv = -1) ∧ (0 ≤ view l op.iv → ∀ z, mGet 1 op z e = vInt .i64 (view l op.iv)) := by
 have t := typ_i0 hop
 have hh := map_has h op.iv
 refine ⟨by rw [t]; exact hh, fun h0 => by have := h.low op.iv; omega, fun h0 z => ?_⟩
 rw [t]
 exact map_get h.rows (by rw [hh]; exact decide_eq_true h0)
theorem told_none {e : List (List CD)} {m : Int} : toldR [] e m = [] := by
 unfold toldR
 rw [List.map_eq_nil_iff, List.filter_eq_nil_iff]
 intro r _
 simp [mIn]
theorem mIn_snoc {b x : CD} {s : List (List CD)} : mIn b (s ++ [[x]]) = (mIn b s || eqC b x) := by
 unfold mIn
 rw [List.any_append]
 simp
theorem born_uniq {e : List (List CD)} {c : Int} (hM : MOk e c) {i j : Nat} (hi : i < e.length) (hj : j < e.length) (h : eqC (bornOf e[j]) (bornOf e[i]) = true) : j = i := by
 obtain ⟨n1, h1, _⟩ := hM.2 e[i] (List.getElem_mem hi)
 obtain ⟨n2, h2, _⟩ := hM.2 e[j] (List.getElem_mem hj)
 rw [h1, h2] at h
 have h : decide ((n2 : Int) = n1) = true := h
 have h := of_decide_eq_true h
 have hp := List.pairwise_iff_getElem.1 hM.1
 rcases Nat.lt_trichotomy j i with hlt | heq | hlt
 ·have := hp j i hj hi hlt
  rw [h1, h2] at this
  have : (n2 : Int) < n1 := this
  omega
 ·exact heq
 ·have := hp i j hi hj hlt
  rw [h1, h2] at this
  have : (n1 : Int) < n2 := this
  omega
theorem split_at {α : Type} {e : List α} {i : Nat} (hi : i < e.length) : e = e.take i ++ e[i] :: e.drop (i + 1) := by
 rw [← List.drop_eq_getElem_cons hi, List.take_append_drop]
theorem born_self {e : List (List CD)} {c : Int} (hM : MOk e c) {i : Nat} (hi : i < e.length) : eqC (bornOf e[i]) (bornOf e[i]) = true := by
 obtain ⟨n1, h1, _⟩ := hM.2 e[i] (List.getElem_mem hi)
 rw [h1]
 exact decide_eq_true rfl
theorem born_other {e : List (List CD)} {c : Int} (hM : MOk e c) {i : Nat} (hi : i < e.length) : (∀ r ∈ e.take i, eqC (bornOf r) (bornOf e[i]) = false) ∧ ∀ r ∈ e.drop (i + 1), eqC (bornOf r) (bornOf e[i]) = false := by
 refine ⟨fun r hr => ?_, fun r hr => ?_⟩
 ·obtain ⟨j, hj, rfl⟩ := List.getElem_of_mem hr
  rw [List.length_take] at hj
  rw [List.getElem_take, Bool.eq_false_iff]
  intro hh
  have := born_uniq hM hi (j := j) (by omega) hh
  omega
 ·obtain ⟨j, hj, rfl⟩ := List.getElem_of_mem hr
  rw [List.length_drop] at hj
  rw [List.getElem_drop, Bool.eq_false_iff]
  intro hh
  have := born_uniq hM hi (j := i + 1 + j) (by omega) hh
  omega
theorem told_step {e s : List (List CD)} {c m : Int} (hM : MOk e c) {i : Nat} (hi : i < e.length) (hn : mIn (bornOf e[i]) s = false) :
  List.Perm (toldR (s ++ [[bornOf e[i]]]) e m) (toldR s e m ++ if (at' e[i] 0).iv ≤ m then [[at' e[i] 0, at' e[i] 1]] else []) ∧ untold (s ++ [[bornOf e[i]]]) e < untold s e := by
 obtain ⟨o1, o2⟩ := born_other hM hi
 have hself := born_self hM hi
 have he := split_at hi
 generalize hr : e[i] = r at *
 generalize e.take i = A at *
 generalize e.drop (i + 1) = B at *
 rw [he]
 have fA' : ∀ (g : List CD → Bool), A.filter (fun q => mIn (bornOf q) (s ++ [[bornOf r]]) && g q) = A.filter (fun q => mIn (bornOf q) s && g q) := fun g => List.filter_congr fun q hq => by rw [mIn_snoc, o1 q hq, Bool.or_false]
 have fB' : ∀ (g : List CD → Bool), B.filter (fun q => mIn (bornOf q) (s ++ [[bornOf r]]) && g q) = B.filter (fun q => mIn (bornOf q) s && g q) := fun g => List.filter_congr fun q hq => by rw [mIn_snoc, o2 q hq, Bool.or_false]
 have uA : A.filter (fun q => !mIn (bornOf q) (s ++ [[bornOf r]])) = A.filter (fun q => !mIn (bornOf q) s) := List.filter_congr fun q hq => by rw [mIn_snoc, o1 q hq, Bool.or_false]
 have uB : B.filter (fun q => !mIn (bornOf q) (s ++ [[bornOf r]])) = B.filter (fun q => !mIn (bornOf q) s) := List.filter_congr fun q hq => by rw [mIn_snoc, o2 q hq, Bool.or_false]
 constructor
 ·unfold toldR
  rw [List.filter_append, List.filter_append, fA', List.filter_cons, List.filter_cons, mIn_snoc, hself, Bool.or_true, Bool.true_and, hn, Bool.false_and, if_neg (show ¬ (false = true) by simp), fB']
  by_cases hm : (at' r 0).iv ≤ m
  ·rw [if_pos (decide_eq_true hm), if_pos hm, List.map_append, List.map_append, List.map_cons]
   rw [List.append_assoc]
   refine List.Perm.append_left _ ?_
   exact (List.perm_append_singleton _ _).symm
  ·rw [if_neg (by rw [decide_eq_false hm]; simp), if_neg hm, List.append_nil]
 ·unfold untold
  rw [List.filter_append, List.filter_append, uA, List.filter_cons, List.filter_cons, mIn_snoc, hself, Bool.or_true, Bool.not_true, hn, Bool.not_false, if_neg (show ¬ (false = true) by simp), if_pos rfl, uB]
  simp only [List.length_append, List.length_cons]
  omega
theorem map_row {f : Int → Int} {e : CD} {i : Int} (h : MapOK f e.rows) (h0 : 0 ≤ i) (hi : i < e.rows.length) : ∃ (k : Int) (c : CD), row e i.toNat = [i0 k, i0 (f k), c] ∧ 0 ≤ f k ∧ e.rows[i.toNat]? = some (row e i.toNat) := by
 have hlt : i.toNat < e.rows.length := by omega
 have e1 : row e i.toNat = e.rows[i.toNat] := by unfold row; rw [List.getD_eq_getElem?_getD, List.getElem?_eq_getElem hlt]; rfl
 obtain ⟨k, c, h1, h2⟩ := h.rows _ (List.getElem_mem hlt)
 exact ⟨k, c, by rw [e1, h1], h2, by rw [e1, List.getElem?_eq_getElem hlt]⟩
theorem told_next {l e s : CD} {c m i : Int} (hM : MOk e.rows c) (hV : mapV l e.rows) (h0 : 0 ≤ i) (hi : i < e.rows.length) (hn : ¬ mIn (at' (row e i.toNat) 2) s.rows = true) :
  (∀ h : List (List CD), List.Perm h (toldR s.rows e.rows m) → (at' (row e i.toNat) 0).iv ≤ m → List.Perm (h ++ [[at' (row e i.toNat) 0, at' (row e i.toNat) 1]]) (toldR (s.rows ++ [[at' (row e i.toNat) 2]]) e.rows m)) ∧
  (∀ h : List (List CD), List.Perm h (toldR s.rows e.rows m) → ¬ (at' (row e i.toNat) 0).iv ≤ m → List.Perm h (toldR (s.rows ++ [[at' (row e i.toNat) 2]]) e.rows m)) ∧
  untold (s.rows ++ [[at' (row e i.toNat) 2]]) e.rows < untold s.rows e.rows := by
 obtain ⟨k, cc, h1, h2, h3⟩ := map_row hV h0 hi
 have hlt : i.toNat < e.rows.length := by omega
 have e1 : e.rows[i.toNat] = row e i.toNat := by
  rw [List.getElem?_eq_getElem hlt] at h3
  exact Option.some.inj h3
 have e2 : bornOf e.rows[i.toNat] = at' (row e i.toNat) 2 := by rw [e1, h1]; rfl
 have hn' : mIn (bornOf e.rows[i.toNat]) s.rows = false := by rw [e2]; simpa using hn
 obtain ⟨k1, k2⟩ := told_step (m := m) hM hlt hn'
 rw [e2, e1] at k1
 rw [e2] at k2
 refine ⟨fun h hp hm => ?_, fun h hp hm => ?_, k2⟩
 ·rw [if_pos hm] at k1
  exact (hp.append_right _).trans k1.symm
 ·rw [if_neg hm, List.append_nil] at k1
  exact hp.trans k1.symm
theorem up_eq {α : Type} {g : α → Int} : ∀ {a b : List α}, (a.Pairwise fun x y => g x < g y) → (b.Pairwise fun x y => g x < g y) → (∀ x, x ∈ a ↔ x ∈ b) → a = b
 | [], [], _, _, _ => rfl
 | [], y :: b, _, _, h => by cases (h y).2 (List.mem_cons_self ..)
 | x :: a, [], _, _, h => by cases (h x).1 (List.mem_cons_self ..)
 | x :: a, y :: b, ha, hb, h => by
  rw [List.pairwise_cons] at ha hb
  have hxy : x = y := by
   rcases List.mem_cons.1 ((h x).1 (List.mem_cons_self ..)) with h1 | h1
   ·exact h1
   ·rcases List.mem_cons.1 ((h y).2 (List.mem_cons_self ..)) with h2 | h2
    ·exact h2.symm
    ·have := hb.1 x h1
     have := ha.1 y h2
     omega
  subst hxy
  rw [up_eq ha.2 hb.2 fun z => ?_]
  constructor
  ·intro hz
   rcases List.mem_cons.1 ((h z).1 (List.mem_cons_of_mem _ hz)) with h1 | h1
   ·subst h1
    have := ha.1 z hz
    omega
   ·exact h1
  ·intro hz
   rcases List.mem_cons.1 ((h z).2 (List.mem_cons_of_mem _ hz)) with h1 | h1
   ·subst h1
    have := hb.1 z hz
    omega
   ·exact h1
theorem strict_of {a : List (List CD)} (h : RowsUp a) (hd : a.Pairwise fun x y => (at' x 0).iv ≠ (at' y 0).iv) : a.Pairwise fun x y => (at' x 0).iv < (at' y 0).iv := by
 unfold RowsUp at h
 refine (h.and hd).imp fun {x y} hh => ?_
 have h1 : (at' x 0).iv ≤ (at' y 0).iv := hh.1
 have := hh.2
 omega
theorem view_pos {l : CD} (hA : okA l = true) {op : Int} (h : 0 ≤ view l op) : 0 < op := by
 rcases viewL_pos h with h1 | ⟨v, hv, r, hr, hop⟩
 ·omega
 ·have hv' := (leads_mem.1 hv).1
  obtain ⟨i, hi, rfl⟩ := List.getElem_of_mem hv'
  have e1 : row l (i : Int).toNat = l.rows[i] := by unfold row; rw [Int.toNat_natCast, List.getD_eq_getElem?_getD, List.getElem?_eq_getElem hi]; rfl
  obtain ⟨_, _, _, _, _, _, _, _, hL⟩ := okV_all (okA_mem hA hv')
  obtain ⟨k, hk, rfl⟩ := List.getElem_of_mem hr
  have e2 : row (at' l.rows[i] 4) k = (at' l.rows[i] 4).rows[k] := by unfold row; rw [List.getD_eq_getElem?_getD, List.getElem?_eq_getElem hk]; rfl
  have h3 : okE (at' l.rows[i] 4) k = true := by
   unfold okLog at hL
   rw [Bool.and_eq_true] at hL
   exact List.all_eq_true.1 hL.1 k (List.mem_range.2 hk)
  have := prev_0 hL k (by omega)
  rcases okE_all h3 with h4 | h4
  ·rw [e2, hop] at h4
   exact h4.1
  ·omega
theorem heads_up {l : CD} : (heads l).Pairwise fun x y => (at' x 0).iv < (at' y 0).iv := by
 unfold heads
 rw [List.pairwise_map]
 refine List.Pairwise.filter _ ?_
 refine List.pairwise_lt_range.imp fun {a b} h => ?_
 show (a : Int) < b
 omega
theorem heads_mem {l : CD} {r : List CD} : r ∈ heads l ↔ ∃ o : Nat, (o : Int) ≤ (endOp l).toNat ∧ 0 ≤ view l o ∧ r = [i0 o, i0 (view l o)] := by
 unfold heads
 rw [List.mem_map]
 constructor
 ·rintro ⟨o, ho, rfl⟩
  rw [List.mem_filter, List.mem_range, decide_eq_true_eq] at ho
  exact ⟨o, by omega, ho.2, rfl⟩
 ·rintro ⟨o, h1, h2, rfl⟩
  refine ⟨o, ?_, rfl⟩
  rw [List.mem_filter, List.mem_range, decide_eq_true_eq]
  exact ⟨by omega, h2⟩
theorem heads_sorted {l e : CD} {X Y s : List (List CD)} (hA : okA l = true) (hV : mapV l e.rows) (hall : (e.rows.all fun r => mIn (bornOf r) s) = true) (hY : List.Perm Y (toldR s e.rows (endOp l))) (hX : List.Perm X Y) (hup : RowsUp X) : X = heads l := by
 have h0 := (end_le hA).1
 have hmem : ∀ r, r ∈ toldR s e.rows (endOp l) ↔ r ∈ heads l := by
  intro r
  rw [heads_mem]
  unfold toldR
  rw [List.mem_map]
  constructor
  ·rintro ⟨q, hq, rfl⟩
   rw [List.mem_filter, Bool.and_eq_true, decide_eq_true_eq] at hq
   obtain ⟨k, c, rfl, hk⟩ := hV.rows q hq.1
   have hp := view_pos hA hk
   have hle : k ≤ endOp l := hq.2.2
   refine ⟨k.toNat, by omega, by rw [Int.toNat_of_nonneg (by omega)]; exact hk, ?_⟩
   rw [Int.toNat_of_nonneg (by omega)]
   rfl
  ·rintro ⟨o, h1, h2, rfl⟩
   obtain ⟨q, hq, hk⟩ := hV.all o h2
   obtain ⟨k, c, rfl, hk'⟩ := hV.rows q hq
   have hk : i0 k = i0 o := hk
   have hko : k = o := by
    have : (i0 k).iv = (i0 o).iv := by rw [hk]
    exact this
   subst hko
   refine ⟨[i0 (o : Int), i0 (view l o), c], ?_, rfl⟩
   rw [List.mem_filter, Bool.and_eq_true, decide_eq_true_eq]
   refine ⟨hq, List.all_eq_true.1 hall _ hq, ?_⟩
   show (o : Int) ≤ endOp l
   omega
 have hd : (toldR s e.rows (endOp l)).Pairwise fun x y => (at' x 0).iv ≠ (at' y 0).iv := by
  unfold toldR
  rw [List.pairwise_map]
  exact (hV.one.filter _).imp fun {a b} h => h
 have hXp := hX.trans hY
 have hdX : X.Pairwise fun x y => (at' x 0).iv ≠ (at' y 0).iv := (hXp.pairwise_iff fun {x y} h hh => h hh.symm).2 hd
 exact up_eq (strict_of hup hdX) heads_up fun x => (hXp.mem_iff).trans (hmem x)
theorem heads_none {l e : CD} {Y s : List (List CD)} (hA : okA l = true) (hV : mapV l e.rows) (hall : (e.rows.all fun r => mIn (bornOf r) s) = true) (hY : List.Perm Y (toldR s e.rows (endOp l))) (hn : Y.length ≤ 0) : Y = heads l := by
 have : Y = [] := List.length_eq_zero_iff.1 (by omega)
 subst this
 exact heads_sorted hA hV hall hY (List.Perm.refl _) List.Pairwise.nil
end Go.Proofs.Ytlbbkmcegbeckaa.Cn

set_option linter.unusedSectionVars false
set_option linter.unusedVariables false
set_option linter.unusedSimpArgs false
namespace Go.Proofs
open Go.Shelf
def Try.sortHead_ren : Go.Shelf.Ren := ⟨fun | 6 => 73 | 15 => 119 | 14 => 118 | 28 => 146 | 29 => 147 | 20 => 138 | 21 => 139 | 22 => 140 | 23 => 141 | 24 => 142 | 25 => 143 | 26 => 144 | 27 => 145 | 46 => 154 | 47 => 155 | 48 => 156 | 49 => 157 | 50 => 158 | 57 => 162 | n => n, fun | 22 => 56 | 24 => 74 | 25 => 109 | 3 => 3 | 39 => 147 | 0 => 0 | 53 => 167 | 55 => 169 | 4 => 4 | 46 => 161 | 45 => 160 | 50 => 34 | 5 => 5 | 9 => 9 | 66 => 173 | 70 => 177 | 76 => 179 | 77 => 69 | n => n, fun | n => n⟩
theorem Try.sortHead : Go.Proofs.SlLaysF0.n6 Try.prog Try.sortHead_ren := {
 mixed := by kernel_rfl
 f6 := ⟨Try.f73.name, by decide, Try.func73.trans (congrArg some (by kernel_rfl))⟩
 f14 := ⟨Try.f118.name, by decide, Try.func118.trans (congrArg some (by kernel_rfl))⟩
 f15 := Try.func119.trans (congrArg some (by kernel_rfl))
 f20 := ⟨Try.f138.name, by decide, Try.func138.trans (congrArg some (by kernel_rfl))⟩
 f21 := ⟨Try.f139.name, by decide, Try.func139.trans (congrArg some (by kernel_rfl))⟩
 f22 := ⟨Try.f140.name, by decide, Try.func140.trans (congrArg some (by kernel_rfl))⟩
 f23 := ⟨Try.f141.name, by decide, Try.func141.trans (congrArg some (by kernel_rfl))⟩
 f24 := ⟨Try.f142.name, by decide, Try.func142.trans (congrArg some (by kernel_rfl))⟩
 f25 := ⟨Try.f143.name, by decide, Try.func143.trans (congrArg some (by kernel_rfl))⟩
 f26 := ⟨Try.f144.name, by decide, Try.func144.trans (congrArg some (by kernel_rfl))⟩
 f27 := ⟨Try.f145.name, by decide, Try.func145.trans (congrArg some (by kernel_rfl))⟩
 f28 := Try.func146.trans (congrArg some (by kernel_rfl))
 f29 := Try.func147.trans (congrArg some (by kernel_rfl))
 f46 := ⟨Try.f154.name, by decide, Try.func154.trans (congrArg some (by kernel_rfl))⟩
 f47 := Try.func155.trans (congrArg some (by kernel_rfl))
 f48 := Try.func156.trans (congrArg some (by kernel_rfl))
 f49 := ⟨Try.f157.name, by decide, Try.func157.trans (congrArg some (by kernel_rfl))⟩
 f50 := ⟨Try.f158.name, by decide, Try.func158.trans (congrArg some (by kernel_rfl))⟩
 f57 := ⟨Try.f162.name, by decide, Try.func162.trans (congrArg some (by kernel_rfl))⟩
 t0 := Try.underlying0
 a0 := Try.isAgg0
 z0 := Try.sizeOf0
 v0 := Try.zeroValue0
 t3 := Try.underlying3
 a3 := Try.isAgg3
 z3 := Try.sizeOf3
 v3 := Try.zeroValue3
 t4 := Try.underlying4
 a4 := Try.isAgg4
 z4 := Try.sizeOf4
 v4 := Try.zeroValue4
 t5 := Try.underlying5
 a5 := Try.isAgg5
 z5 := Try.sizeOf5
 v5 := Try.zeroValue5
 t9 := Try.underlying9
 a9 := Try.isAgg9
 z9 := Try.sizeOf9
 v9 := Try.zeroValue9
 t22 := Try.underlying56
 a22 := Try.isAgg56
 z22 := Try.sizeOf56
 v22 := Try.zeroValue56
 t25 := Try.underlying109
 a25 := Try.isAgg109
 z25 := Try.sizeOf109
 v25 := Try.zeroValue109
 t39 := Try.underlying147
 a39 := Try.isAgg147
 z39 := Try.sizeOf147
 v39 := Try.zeroValue147
 t45 := Try.underlying160
 a45 := Try.isAgg160
 z45 := Try.sizeOf160
 v45 := Try.zeroValue160
 t46 := Try.underlying161
 a46 := Try.isAgg161
 z46 := Try.sizeOf161
 v46 := Try.zeroValue161
 t50 := Try.underlying34
 a50 := Try.isAgg34
 z50 := Try.sizeOf34
 v50 := Try.zeroValue34
 t53 := Try.underlying167
 a53 := Try.isAgg167
 z53 := Try.sizeOf167
 v53 := Try.zeroValue167
 t55 := Try.underlying169
 a55 := Try.isAgg169
 z55 := Try.sizeOf169
 v55 := Try.zeroValue169
 t66 := Try.underlying173
 a66 := Try.isAgg173
 z66 := Try.sizeOf173
 v66 := Try.zeroValue173
 t70 := Try.underlying177
 a70 := Try.isAgg177
 z70 := Try.sizeOf177
 v70 := Try.zeroValue177
 t76 := Try.underlying179
 a76 := Try.isAgg179
 z76 := Try.sizeOf179
 v76 := Try.zeroValue179
 t77 := Try.underlying69
 a77 := Try.isAgg69
 z77 := Try.sizeOf69
 v77 := Try.zeroValue69 }
def Try.cmpInt_ren : Go.Shelf.Ren := ⟨fun | 5 => 75 | 7 => 120 | n => n, fun | 22 => 3 | 3 => 3 | 4 => 4 | n => n, fun | n => n⟩
theorem Try.cmpInt : Go.Proofs.SlLaysC2.n5 Try.prog Try.cmpInt_ren := {
 mixed := by kernel_rfl
 f5 := ⟨Try.f75.name, by decide, Try.func75.trans (congrArg some (by kernel_rfl))⟩
 f7 := ⟨Try.f120.name, by decide, Try.func120.trans (congrArg some (by kernel_rfl))⟩
 t3 := Try.underlying3
 a3 := Try.isAgg3
 z3 := Try.sizeOf3
 v3 := Try.zeroValue3
 t4 := Try.underlying4
 a4 := Try.isAgg4
 z4 := Try.sizeOf4
 v4 := Try.zeroValue4
 t22 := Try.underlying3
 a22 := Try.isAgg3
 z22 := Try.sizeOf3
 v22 := Try.zeroValue3 }
end Go.Proofs

set_option linter.unusedSectionVars false
set_option linter.unusedSimpArgs false
set_option linter.unusedVariables false
namespace Go.Proofs.Ytlbbkmcegbeckaa
open Go.Proofs Go.Shelf Go.RowKit Go.Lib Go.Sort
set_option maxHeartbeats 1000000 in
theorem Try.closure74 (x y : Int × Int) (W : World) : Calls Try.prog 74 #[.agg #[.int .i64 x.1, .int .i64 x.2], .agg #[.int .i64 y.1, .int .i64 y.2]] W fun e w' => e = .returned (.int .i64 (Lib.compareInt x.1 y.1)) ∧ ∃ q os', w' = grow (W.drewN q) os' := by
 have hcon := fun W' => AnyG.cmp_Compare_int Try.cmpInt x.1 y.1 W'
 change ∀ W', Calls Try.prog 75 _ _ _ at hcon
 generalize Lib.compareInt x.1 y.1 = r at hcon ⊢
 go_enter Try.func74, Try.ntmps74
 go_wp2_with (go_at_call 75; refine (hcon _).mono ?_; rintro e w' ⟨rfl, rfl⟩)
 go_ret
 exact ⟨rfl, 0, _, by rw [alloc_eq_grow, alloc_eq_grow, grow_grow]; rfl⟩
theorem Try.compare75 (x y : Int) (W : World) : Calls Try.prog 75 #[.int .i64 x, .int .i64 y] W fun e w' => e = .returned (.int .i64 (Cn.cmpI x y)) ∧ w' = W := by
 have hcon := AnyG.cmp_Compare_int Try.cmpInt x y W
 change Calls Try.prog 75 _ _ _ at hcon
 exact hcon
theorem Try.cmpLays74 (blk off size : Nat) (w : World) : CmpLays Try.prog 74 #[] Go.Sx.encP 2 (fun x y => Lib.compareInt x.1 y.1) blk off size w :=
 fun _ _ _ _ x y => Try.closure74 x y _
theorem ltP_of (x y : Int × Int) : ltOf (fun x y : Int × Int => Lib.compareInt x.1 y.1) x y = Go.Sx.ltP x y := by
 unfold ltOf Lib.compareInt Go.Sx.ltP
 by_cases h1 : x.1 < y.1
 ·simp [h1]
 ·by_cases h2 : y.1 < x.1 <;> simp [h1, h2]
theorem swoP : SWO (ltOf fun x y : Int × Int => Lib.compareInt x.1 y.1) where
 irrefl x := by rw [ltP_of]; simp [Go.Sx.ltP]
 trans x y z h1 h2 := by rw [ltP_of] at *; simp [Go.Sx.ltP] at *; omega
 ntrans x y z h1 h2 := by rw [ltP_of] at *; simp [Go.Sx.ltP] at *; omega
theorem sorts73 : Go.Sx.SortsP Try.prog 73 (.func (.func 74) #[] #[]) := by
 have e73 : ∀ args w, (callFunc 73 args).run Try.prog w = .ok (.enter 73 args) w := at73.call
 refine ⟨fun p cap w => ?_, fun blk off cap d w hH hblk hsz => ?_⟩
 ·have h := AnyF.slices_SortFunc_none Try.sortHead p cap (.func (.func 74) #[] #[]) w
  change Calls Try.prog 73 _ _ _ at h
  rw [e73]
  exact h.mono fun e w' ⟨h1, h2⟩ => ⟨_, h1, rfl, h2⟩
 ·have h := AnyQ.slices_SortFunc Try.sortHead 2 Try.isAgg74 Try.sizeOf74 Go.Sx.encP (fun _ => rfl) (fun x v hv => by simp [Go.Sx.encP] at hv; rcases hv with rfl | rfl <;> rfl) (fun x y => Lib.compareInt x.1 y.1) swoP 74 #[] blk off cap d w at74.call (Try.cmpLays74 blk off d.size w) hH hblk hsz
  change Calls Try.prog 73 _ _ _ at h
  rw [e73]
  refine h.mono fun e w' ⟨h1, d', n, os, h2, h3, h4⟩ => ⟨_, h1, rfl, d', n, os, h2, fun i j hi hj hk => ?_, h4⟩
  rw [← ltP_of]
  exact h3 i j hi hj hk
#print axioms sorts73
end Go.Proofs.Ytlbbkmcegbeckaa

set_option linter.unusedSectionVars false
set_option linter.unusedVariables false
set_option linter.unusedSimpArgs false
namespace Go.Proofs.Ytlbbkmcegbeckaa.Cn
open Go.Sx Go.Proofs
noncomputable def SCmp : Fsp := ⟨[(false, [sI]), (false, [sI])], [], [(false, [sI])], [([], [[.ap (.usr 173) [.var 0, .var 1]]])], true⟩
theorem cmp_spec {P : Program} {U : Us} {f : FuncId} (hu : ∀ a b, @Us.u U 173 [a, b] = vInt .i64 (cmpI a.iv b.iv)) (hcall : ∀ us w, (callFunc f us).run P w = .ok (.enter f us) w) (hrun : ∀ (x y : Int) (w : World), Calls P f #[.int .i64 x, .int .i64 y] w fun e w' => e = .returned (.int .i64 (cmpI x y)) ∧ w' = w) : SpecOK U P f SCmp := by
 intro σ hσ m w us hm hargs _
 obtain ⟨v⟩ := σ
 cases hσ
 obtain ⟨l⟩ := us
 match l, hargs with
 | [u, u'], hargs =>
  obtain ⟨h1, h2, _⟩ := hargs
  obtain ⟨x, hx, rfl, _⟩ := (show RS m sI (v 0) u from h1)
  obtain ⟨y, hy, rfl, _⟩ := (show RS m sI (v 1) u' from h2)
  rw [hcall]
  refine (hrun x y w).mono fun e w' ⟨h1, h2⟩ => ⟨_, h1, ?_⟩
  subst h2
  refine ⟨⟨fun _ _ => rfl, Nat.le_refl _, rfl, rfl, rfl⟩, _, List.mem_singleton.2 rfl, fun x hx => (by cases hx), [.int .i64 (cmpI x y)], ⟨⟨cmpI x y, ?_, rfl, ?_⟩, trivial⟩, rfl⟩
  ·refine (hu (v 0) (v 1)).trans ?_
   rw [hx, hy]
   rfl
  ·have h3 : cmpI x y = -1 ∨ cmpI x y = 1 ∨ cmpI x y = 0 := by
    unfold cmpI
    split
    ·exact .inl rfl
    ·split
     ·exact .inr (.inl rfl)
     ·exact .inr (.inr rfl)
   rcases h3 with h3 | h3 | h3 <;> (rw [h3]; decide)
 | [], h => exact h.elim
 | [_], h => exact h.2.elim
 | _ :: _ :: _ :: _, h => exact h.2.2.elim
set_option maxRecDepth 100000 in
theorem c75 : SpecOK U Try.prog 75 SCmp := cmp_spec (P := Try.prog) (U := U) (f := 75) us173 at75.call Try.compare75
noncomputable def T75 : List (FuncId × Fsp) := [(75, SCmp)]
set_option maxRecDepth 100000 in
theorem hT75 : TabOK U Try.prog T75 := .cons c75 .nil
noncomputable def SCmpV : Fsp := ⟨[(true, sVote), (true, sVote)], [], [(false, [sI])], [([], [[.ap (.usr 173) [.var 1, .var 6]]])], true⟩
def r117_v : List VC := []
def r117_o : List (List X × List (List X)) := [([(.ap .le [mnX, (.ap (.usr 173) [(.var 1), (.var 6)])]), (.ap .le [(.ap (.usr 173) [(.var 1), (.var 6)]), mxX]), (.ap .le [mnX, (.var 0)]), (.ap .le [(.var 0), mxX]), (.ap .le [mnX, (.var 1)]), (.ap .le [(.var 1), mxX]), (.ap .le [mnX, (.var 2)]), (.ap .le [(.var 2), mxX]), (.ap .le [mnX, (.var 3)]), (.ap .le [(.var 3), mxX]), (.ap (.typ (.sl sEnt)) [(.var 4)]), (.ap .le [mnX, (.var 5)]), (.ap .le [(.var 5), mxX]), (.ap .le [mnX, (.var 6)]), (.ap .le [(.var 6), mxX]), (.ap .le [mnX, (.var 7)]), (.ap .le [(.var 7), mxX]), (.ap .le [mnX, (.var 8)]), (.ap .le [(.var 8), mxX]), (.ap (.typ (.sl sEnt)) [(.var 9)])], [[(.ap (.usr 173) [(.var 1), (.var 6)])]])]
theorem r117_eq : runS Try.prog (specO (tab T75)) 10 6 noH Try.f117 (bodyOf Try.f117) SCmpV = some (r117_v, r117_o) := by kernel_rfl
set_option maxHeartbeats 4000000 in
set_option maxRecDepth 100000 in
theorem c117 : SpecOK U Try.prog 117 SCmpV := by
 refine SpecOK.of (P := Try.prog) (U := U) (T := (tab T75)) (f := 117) (fn := Try.f117) (fuel := 10) (fk := 6) (hs := noH) (S := SCmpV) (v := r117_v) (outs := r117_o) mixed hT75 at117 r117_eq ?_ ?_
 ·unfold r117_v
  repeat' (first | exact vcs_nil _ | refine vcs_cons (fun v hh => ?_) ?_)
  all_goals
   simp only [w_var, w_lit, w_ivi, w_bvb, b_le, b_typ, w_usr, w_l0, w_l1, w_vint, w_vbool, w_tru, w_holds0, w_holds1, w_rows, w_nilb, us173, mnX, mxX, l1_inj, vInt_inj, vi_lit] at hh ⊢
   repeat (obtain ⟨_, hh⟩ := hh)
   try (first | grind [cmpI, = w_vint])
 ·intro o ho σ hU hh
  obtain ⟨v⟩ := σ
  cases hU
  simp only [r117_o, List.mem_cons, List.not_mem_nil, or_false] at ho
  repeat' (first | (rcases ho with rfl | ho) | subst ho)
  all_goals
   refine ⟨_, List.mem_cons_self .., by simp only [w_var, w_lit, w_ivi, w_bvb, b_le, b_typ, w_usr, w_l0, w_l1, w_vint, w_vbool, w_tru, w_holds0, w_holds1, w_rows, w_nilb], ?_⟩
   simp only [w_var, w_lit, w_ivi, w_bvb, b_le, b_typ, w_usr, w_l0, w_l1, w_vint, w_vbool, w_tru, w_holds0, w_holds1, w_rows, w_nilb, us173, mnX, mxX, l1_inj, vInt_inj, vi_lit] at hh
   simp only [List.map_cons, List.map_nil, w_var, w_lit, w_ivi, w_bvb, b_le, b_typ, w_usr, w_l0, w_l1, w_vint, w_vbool, w_tru, w_holds0, w_holds1, w_rows, w_nilb, w_le, w_typ, us173, mnX, mxX, l1_inj, vInt_inj, vi_lit]
   repeat (obtain ⟨_, hh⟩ := hh)
   try (first | grind [cmpI, = w_vint])
end Go.Proofs.Ytlbbkmcegbeckaa.Cn
