/-
  Rising numbers, each once; one more. Plain Lean. Conditions: none.
  Contracts of a chapter's functions: who leads, what the leaders know. Conditions: none.
  Contracts of a chapter's functions: the end of a log; the log that is chosen, by the document. Conditions: none.
-/
import Derived.Test.YtlbbkmcegbeckaaSnV
set_option linter.unusedSectionVars false
set_option linter.unusedVariables false
set_option linter.unusedSimpArgs false
namespace Go.Proofs.Ytlbbkmcegbeckaa.Cn
open Go.Sx Go.Proofs
theorem range_at {n k : Nat} : List.range (n + (k + 1)) = List.range n ++ n :: (List.range k).map fun j => n + 1 + j := by
 rw [List.range_add, List.range_succ_eq_map, List.map_cons, List.map_map]
 congr 1
 congr 1
 apply List.map_congr_left
 intro a _
 show n + (a + 1) = _
 omega
def rowN (o : Nat) : List CD := [i0 o]
theorem rowN_iv (o : Nat) : (at' (rowN o) 0).iv = o := rfl
theorem opsS_at {p : Nat → Bool} {n : Nat} (hn : n < 1073741825) :
  opsS p = ((List.range n).filter p).map rowN ++ ((if p n = true then [rowN n] else []) ++ (((List.range (bigN - n - 1)).map fun j => n + 1 + j).filter p).map rowN) := by
 have hN := bigN_eq
 unfold opsS
 have : (bigN : Nat) = n + ((bigN - n - 1) + 1) := by omega
 rw [show List.range bigN = List.range (n + ((bigN - n - 1) + 1)) from congrArg List.range this, range_at, List.filter_append, List.map_append]
 congr 1
 by_cases h : p n = true
 ·rw [List.filter_cons_of_pos h, if_pos h]; rfl
 ·rw [List.filter_cons_of_neg h, if_neg h]; rfl
theorem filt_len {α : Type} {p : Nat → Bool} {f : Nat → α} {N : Nat} : (((List.range N).filter p).map f).length ≤ N := by
 rw [List.length_map]
 exact Nat.le_trans (List.length_filter_le _ _) (Nat.le_of_eq List.length_range)
theorem opsS_len {p : Nat → Bool} : (opsS p).length ≤ 1073741825 := by
 unfold opsS
 exact Nat.le_trans (filt_len (N := bigN)) (Nat.le_of_eq bigN_eq)
theorem getD_app_left {α : Type} {a b : List α} {i : Nat} {d : α} (h : i < a.length) : (a ++ b).getD i d = a.getD i d := by
 rw [List.getD_eq_getElem?_getD, List.getD_eq_getElem?_getD, List.getElem?_append_left h]
theorem getD_app_right {α : Type} {a b : List α} {i : Nat} {d : α} (h : a.length ≤ i) : (a ++ b).getD i d = b.getD (i - a.length) d := by
 rw [List.getD_eq_getElem?_getD, List.getD_eq_getElem?_getD, List.getElem?_append_right h]
theorem getD_mem {α : Type} {a : List α} {i : Nat} {d : α} (h : i < a.length) : a.getD i d ∈ a := by
 rw [List.getD_eq_getElem?_getD, List.getElem?_eq_getElem h]
 exact List.getElem_mem h
theorem with_split {p : Nat → Bool} {R : List (List CD)} (hR : R = opsS p) {n i : Nat} (hn : n < 1073741825) (hi : i ≤ R.length) (hlt : ∀ r ∈ R.take i, (at' r 0).iv < n) (hge : i < R.length → ¬ (at' (R.getD i []) 0).iv < n) :
  (i < R.length ∧ (at' (R.getD i []) 0).iv = n → opsS (fun o => p o || decide (o = n)) = R) ∧ (¬ (i < R.length ∧ (at' (R.getD i []) 0).iv = n) → opsS (fun o => p o || decide (o = n)) = R.take i ++ ([rowN n] ++ R.drop i)) := by
 have h1 := opsS_at (p := p) hn
 have h2 := opsS_at (p := fun o => p o || decide (o = n)) hn
 have hA : ((List.range n).filter fun o => p o || decide (o = n)) = (List.range n).filter p := by
  apply List.filter_congr
  intro o ho
  have := List.mem_range.1 ho
  have h3 : decide (o = n) = false := decide_eq_false (by omega)
  rw [h3, Bool.or_false]
 have hB : (((List.range (bigN - n - 1)).map fun j => n + 1 + j).filter fun o => p o || decide (o = n)) = ((List.range (bigN - n - 1)).map fun j => n + 1 + j).filter p := by
  apply List.filter_congr
  intro o ho
  obtain ⟨j, _, rfl⟩ := List.mem_map.1 ho
  have h3 : decide (n + 1 + j = n) = false := decide_eq_false (by omega)
  rw [h3, Bool.or_false]
 rw [hA, hB, if_pos (by simp)] at h2
 rw [← hR] at h1
 generalize gA : ((List.range n).filter p).map rowN = A at h1 h2
 generalize gB : (((List.range (bigN - n - 1)).map fun j => n + 1 + j).filter p).map rowN = B at h1 h2
 have lA : ∀ r ∈ A, (at' r 0).iv < n := by
  intro r hr
  rw [← gA] at hr
  obtain ⟨o, ho, rfl⟩ := List.mem_map.1 hr
  have := List.mem_range.1 (List.mem_filter.1 ho).1
  rw [rowN_iv]
  omega
 have lB : ∀ r ∈ B, (n : Int) < (at' r 0).iv := by
  intro r hr
  rw [← gB] at hr
  obtain ⟨o, ho, rfl⟩ := List.mem_map.1 hr
  obtain ⟨j, _, rfl⟩ := List.mem_map.1 (List.mem_filter.1 ho).1
  rw [rowN_iv]
  omega
 have lM : ∀ r ∈ (if p n = true then [rowN n] else []) ++ B, (n : Int) ≤ (at' r 0).iv := by
  intro r hr
  rcases List.mem_append.1 hr with hr | hr
  ·split at hr
   ·rw [List.mem_singleton] at hr
    subst hr
    exact Int.le_refl _
   ·cases hr
  ·exact Int.le_of_lt (lB r hr)
 have lenR : R.length = A.length + ((if p n = true then [rowN n] else []) ++ B).length := by rw [h1, List.length_append]
 have hiA : i = A.length := by
  rcases Nat.lt_trichotomy i A.length with h | h | h
  ·exfalso
   refine hge (by omega) ?_
   rw [h1, getD_app_left h]
   exact lA _ (getD_mem h)
  ·exact h
  ·exfalso
   have hm : R.getD A.length [] ∈ R.take i := by
    rw [List.getD_eq_getElem?_getD, List.getElem?_eq_getElem (by omega), List.mem_take_iff_getElem]
    exact ⟨A.length, by omega, rfl⟩
   have h3 := hlt _ hm
   have h4 : R.getD A.length [] = ((if p n = true then [rowN n] else []) ++ B).getD 0 [] := by
    rw [h1, getD_app_right (Nat.le_refl _), Nat.sub_self]
   have h5 := lM _ (getD_mem (a := (if p n = true then [rowN n] else []) ++ B) (i := 0) (d := []) (by omega))
   rw [← h4] at h5
   omega
 have hat : i < R.length → R.getD i [] = ((if p n = true then [rowN n] else []) ++ B).getD 0 [] := by
  intro _
  rw [h1, hiA, getD_app_right (Nat.le_refl _), Nat.sub_self]
 refine ⟨fun ⟨h3, h4⟩ => ?_, fun h3 => ?_⟩
 ·rw [h2, h1]
  by_cases hp : p n = true
  ·rw [if_pos hp]
  ·exfalso
   rw [hat h3, if_neg hp] at h4
   have h0 : 0 < B.length := by rw [if_neg hp] at lenR; simp at lenR; omega
   have := lB _ (getD_mem (d := []) h0)
   rw [List.nil_append] at h4
   omega
 ·have hp : ¬ p n = true := by
   intro hp
   refine h3 ⟨?_, ?_⟩
   ·rw [lenR, if_pos hp]; simp; omega
   ·rw [hat (by rw [lenR, if_pos hp]; simp; omega), if_pos hp]
    rfl
  rw [if_neg hp, List.nil_append] at h1
  rw [h2]
  have e1 : R.take i = A := by rw [h1, hiA, List.take_left]
  have e2 : R.drop i = B := by rw [h1, hiA, List.drop_left]
  rw [e1, e2]
theorem takeWhile_len {p : Nat → Bool} {N m : Nat} (h : ∀ j, j < m → p j = true) (hm : m ≤ N) (he : m = N ∨ p m = false) : ((List.range N).takeWhile p).length = m := by
 have e : List.range N = List.range m ++ (List.range (N - m)).map fun j => m + j := by
  rw [← List.range_add, show m + (N - m) = N by omega]
 rw [e, List.takeWhile_append_of_pos (fun a ha => h a (List.mem_range.1 ha)), List.length_append, List.length_range]
 have e2 : ((List.range (N - m)).map fun j => m + j).takeWhile p = [] := by
  cases hN : N - m with
  | zero => rfl
  | succ k =>
   have hp : p m = false := by
    rcases he with he | he
    ·omega
    ·exact he
   rw [List.range_succ_eq_map, List.map_cons, List.takeWhile_cons_of_neg]
   rw [Nat.add_zero, hp]
   simp
 rw [e2]
 rfl
theorem com_0 {l : CD} : 0 ≤ commit l := maxI_0
theorem com_le {l : CD} (h : okA l = true) : commit l ≤ 1073741824 := by
 rcases foldMax_at (j := 3) (R := l.rows) (m := 0) with h1 | ⟨v, h1, h2⟩
 ·have : commit l = 0 := h1
  omega
 ·have : (at' v 3).iv = commit l := h2
  have := (okV_all (okA_mem h h1)).2.2.2.2.2.2.2.1
  omega
theorem top_le {l : CD} (h : okA l = true) : top l ≤ 1073741824 := by
 rcases foldMax_at (j := 2) (R := leadsR l.rows (lead l)) (m := 0) with h1 | ⟨v, h1, h2⟩
 ·have : top l = 0 := h1
  omega
 ·have : (at' v 2).iv = top l := h2
  have := (okV_all (okA_mem h (leads_mem.1 h1).1)).2.2.2.2.2.1
  omega
theorem many_at {l : CD} {k : Int} (h : ((List.range k.toNat).all fun o : Nat => decide ((o : Int) ≤ commit l) || okOp l o) = true) (hc : commit l + 1 ≤ k) (ht : k ≤ top l + 1) (hn : k = top l + 1 ∨ okOp l k = false) : endOp l = k - 1 := by
 unfold endOp many
 have h0 := com_0 (l := l)
 rw [takeWhile_len (m := (k - 1 - commit l).toNat)]
 ·omega
 ·intro j hj
  have := List.all_eq_true.1 h (commit l + 1 + j).toNat (List.mem_range.2 (by omega))
  rw [Bool.or_eq_true, decide_eq_true_eq] at this
  rcases this with h1 | h1
  ·omega
  ·rw [Int.toNat_of_nonneg (by omega)] at h1
   exact h1
 ·omega
 ·rcases hn with hn | hn
  ·left; omega
  ·right
   rw [show commit l + 1 + ((k - 1 - commit l).toNat : Int) = k by omega]
   exact hn
theorem end_low {l : CD} (h : top l ≤ commit l) : endOp l = commit l := by
 unfold endOp many
 rw [show (top l - commit l).toNat = 0 by omega]
 simp
theorem waits_at {l : CD} {k e : Int} (hk : endOp l = k - 1) : waitsE l e = (decide (k ≤ top l) && decide (((l.rows.filter (denV (i0 k) (i0 (view l k)))).length : Int) < e)) := by
 unfold waitsE
 rw [hk, show k - 1 + 1 = k by omega]
 congr 1
 rw [decide_eq_decide]
 omega
theorem typ_i0 {d : CD} (h : Typ sI d) : d = i0 d.iv := by
 obtain ⟨n, rfl⟩ := typ_int h
 rfl
theorem ok_at {l op : CD} (h : Typ sI op) : l.rows.any (hasV op (i0 (view l op.iv))) = okOp l op.iv := by
 unfold okOp
 rw [← typ_i0 h]
theorem ok_neg {l : CD} {op : Int} (hA : okA l = true) (hT : Typ sVotes l) (h : view l op < 0) : okOp l op = false := by
 unfold okOp
 rw [Bool.eq_false_iff, Ne, List.any_eq_true]
 rintro ⟨v, hv, hh⟩
 unfold hasV at hh
 rw [List.any_eq_true] at hh
 obtain ⟨r, hr, hh⟩ := hh
 unfold hasR at hh
 simp only [Bool.and_eq_true] at hh
 have h1 := eqC_iv (k := .i64) hh.1.2
 obtain ⟨i, hi, rfl⟩ := List.getElem_of_mem hv
 have hl := hT.sl.1
 have hrow : row l ((i : Int)).toNat = l.rows[i] := by unfold row; rw [List.getD_eq_getElem?_getD]; simp [List.getElem?_eq_getElem hi]
 have hTv : Typ (.sl sEnt) (at' l.rows[i] 4) := by
  have := hT.cell (i := i) (j := 4) (s := .sl sEnt) (by omega) (by omega) rfl
  rw [cell_at, hrow] at this
  exact this
 obtain ⟨k, hk, rfl⟩ := List.getElem_of_mem hr
 have := hTv.sl.1
 have h2 := okE_row hA (i := i) (k := k) (by omega) (by omega) (by omega) (by rw [hrow]; omega)
 rw [hrow] at h2
 have hrk : row (at' l.rows[i] 4) ((k : Int)).toNat = (at' l.rows[i] 4).rows[k] := by unfold row; rw [List.getD_eq_getElem?_getD]; simp [List.getElem?_eq_getElem hk]
 rw [hrk] at h2
 omega
theorem mkz_rows {r : List (List CD)} : (mkz r).rows = r := rfl
theorem vInt_iv {k : IntKind} {z : Int} : (vInt k z).iv = z := rfl
theorem has_pos {f : List CD → Bool} {g : List CD → List CD} {l : List (List CD)} : (0 < ((mkz ((l.filter f).map g)).len : Int)) = (l.any f = true) := by
 rw [List.any_eq_true, eq_iff_iff]
 have e : (mkz ((l.filter f).map g)).len = min (l.filter f).length maxN := by
  show min ((l.filter f).map g).length maxN = _
  rw [List.length_map]
 rw [e]
 constructor
 ·intro h
  have : 0 < (l.filter f).length := by omega
  obtain ⟨x, hx⟩ := List.exists_mem_of_length_pos this
  exact ⟨x, (List.mem_filter.1 hx).1, (List.mem_filter.1 hx).2⟩
 ·rintro ⟨x, h1, h2⟩
  have : 0 < (l.filter f).length := List.length_pos_of_mem (List.mem_filter.2 ⟨h1, h2⟩)
  have : 0 < maxN := by decide
  omega
theorem ops_split {p : Nat → Bool} {R : List (List CD)} (hR : R = opsS p) {n i : Nat} (hn : n ≤ 1073741825) (hi : i ≤ R.length) (hlt : ∀ r ∈ R.take i, (at' r 0).iv < n) (hge : i < R.length → ¬ (at' (R.getD i []) 0).iv < n) :
  R.take i = ((List.range n).filter p).map rowN := by
 have h1 : R = ((List.range n).filter p).map rowN ++ (((List.range (bigN - n)).map fun j => n + j).filter p).map rowN := by
  have hN := bigN_eq
  rw [hR]
  unfold opsS
  have e : (bigN : Nat) = n + (bigN - n) := by omega
  rw [show List.range bigN = List.range (n + (bigN - n)) from congrArg List.range e, List.range_add, List.filter_append, List.map_append]
  rfl
 generalize gA : ((List.range n).filter p).map rowN = A at h1 ⊢
 generalize gB : (((List.range (bigN - n)).map fun j => n + j).filter p).map rowN = B at h1
 have lA : ∀ r ∈ A, (at' r 0).iv < n := by
  intro r hr
  rw [← gA] at hr
  obtain ⟨o, ho, rfl⟩ := List.mem_map.1 hr
  have := List.mem_range.1 (List.mem_filter.1 ho).1
  rw [rowN_iv]
  omega
 have lB : ∀ r ∈ B, (n : Int) ≤ (at' r 0).iv := by
  intro r hr
  rw [← gB] at hr
  obtain ⟨o, ho, rfl⟩ := List.mem_map.1 hr
  obtain ⟨j, _, rfl⟩ := List.mem_map.1 (List.mem_filter.1 ho).1
  rw [rowN_iv]
  omega
 have lenR : R.length = A.length + B.length := by rw [h1, List.length_append]
 have hiA : i = A.length := by
  rcases Nat.lt_trichotomy i A.length with h | h | h
  ·exfalso
   refine hge (by omega) ?_
   rw [h1, getD_app_left h]
   exact lA _ (getD_mem h)
  ·exact h
  ·exfalso
   have hm : R.getD A.length [] ∈ R.take i := by
    rw [List.getD_eq_getElem?_getD, List.getElem?_eq_getElem (by omega), List.mem_take_iff_getElem]
    exact ⟨A.length, by omega, rfl⟩
   have h3 := hlt _ hm
   have h4 : R.getD A.length [] = B.getD 0 [] := by
    rw [h1, getD_app_right (Nat.le_refl _), Nat.sub_self]
   have h5 := lB _ (getD_mem (a := B) (i := 0) (d := []) (by omega))
   rw [← h4] at h5
   omega
 rw [h1, hiA, List.take_left]
theorem viewE_step {op m : Int} {es : List (List CD)} {r : List CD} : viewE op m (es ++ [r]) = if (at' r 0).iv = op ∧ (at' r 2).iv ≠ 3 then max (viewE op m es) (at' r 1).iv else viewE op m es := by
 unfold viewE
 rw [List.foldl_append]
 rfl
theorem viewE_pos {op : Int} : ∀ {es : List (List CD)} {m : Int}, 0 ≤ viewE op m es → 0 ≤ m ∨ ∃ r ∈ es, (at' r 0).iv = op
 | [], m, h => .inl h
 | r :: es, m, h => by
  rcases viewE_pos (es := es) h with h1 | ⟨q, h1, h2⟩
  ·dsimp only at h1
   split at h1
   ·rename_i h2
    exact .inr ⟨r, List.mem_cons_self .., h2.1⟩
   ·exact .inl h1
  ·exact .inr ⟨q, List.mem_cons_of_mem _ h1, h2⟩
theorem viewL_pos {op : Int} : ∀ {vs : List (List CD)} {m : Int}, 0 ≤ viewL op m vs → 0 ≤ m ∨ ∃ v ∈ vs, ∃ r ∈ (at' v 4).rows, (at' r 0).iv = op
 | [], m, h => .inl h
 | v :: vs, m, h => by
  rcases viewL_pos (vs := vs) h with h1 | ⟨q, h1, h2⟩
  ·rcases viewE_pos h1 with h3 | h3
   ·exact .inl h3
   ·exact .inr ⟨v, List.mem_cons_self .., h3⟩
  ·exact .inr ⟨q, List.mem_cons_of_mem _ h1, h2⟩
theorem view_op {l : CD} {o : Nat} (h : 0 ≤ view l o) : opP l.rows o = true := by
 rcases viewL_pos h with h1 | ⟨v, h1, r, h2, h3⟩
 ·omega
 ·unfold opP opE
  rw [List.any_eq_true]
  refine ⟨v, (leads_mem.1 h1).1, ?_⟩
  rw [List.any_eq_true]
  exact ⟨r, h2, decide_eq_true h3⟩
theorem heads_at {l ops : CD} {i : Int} (hR : ops.rows = opsS (opP l.rows)) (h0 : 0 ≤ i) (hi : i ≤ ops.len) (hl : ops.len = ops.rows.length) (e0 : 0 ≤ endOp l) (e1 : endOp l ≤ 1073741824) (hlt : ((ops.rows.take i.toNat).all fun r => decide ((at' r 0).iv ≤ endOp l)) = true)
  (hge : ¬ i < ops.len ∨ ¬ (at' (row ops i.toNat) 0).iv ≤ endOp l) : hdsR (view l) (ops.rows.take i.toNat) = heads l := by
 have h1 := ops_split hR (n := (endOp l).toNat + 1) (i := i.toNat) (by omega) (by omega) (fun r hr => by have := of_decide_eq_true (List.all_eq_true.1 hlt r hr); omega) (fun hi' hh => by
  rcases hge with hge | hge
  ·omega
  ·unfold row at hge; omega)
 rw [h1]
 unfold hdsR heads
 rw [List.filter_map, List.map_map, List.filter_filter]
 have e : ((List.range ((endOp l).toNat + 1)).filter fun a => ((fun r => decide (0 ≤ view l (at' r 0).iv)) ∘ rowN) a && opP l.rows a) = (List.range ((endOp l).toNat + 1)).filter fun o : Nat => decide (0 ≤ view l o) := by
  apply List.filter_congr
  intro o _
  show (decide (0 ≤ view l o) && opP l.rows o) = _
  by_cases h : 0 ≤ view l o
  ·rw [view_op h, Bool.and_true]
  ·rw [decide_eq_false h, Bool.false_and]
 rw [e]
 rfl
theorem hds_succ {f : Int → Int} {ops : CD} {i : Int} (h0 : 0 ≤ i) (h : i < ops.len) : hdsR f (ops.rows.take (i + 1).toNat) = hdsR f (ops.rows.take i.toNat) ++ if 0 ≤ f (at' (row ops i.toNat) 0).iv then [[at' (row ops i.toNat) 0, i0 (f (at' (row ops i.toNat) 0).iv)]] else [] := by
 unfold hdsR
 rw [take_row h0 h, List.filter_append, List.map_append]
 congr 1
 by_cases hf : 0 ≤ f (at' (row ops i.toNat) 0).iv <;> simp [hf]
theorem end_le {l : CD} (h : okA l = true) : 0 ≤ endOp l ∧ endOp l ≤ 1073741824 := by
 have h1 := com_0 (l := l)
 have h2 := com_le h
 have h3 := top_le h
 unfold endOp many
 have h4 : ((List.range (top l - commit l).toNat).takeWhile fun k : Nat => okOp l (commit l + 1 + k)).length ≤ (top l - commit l).toNat := by
  refine Nat.le_trans (List.takeWhile_sublist _).length_le (Nat.le_of_eq List.length_range)
 omega
theorem row5 {l : CD} {i : Int} (hT : Typ sVotes l) (h0 : 0 ≤ i) (hi : i < l.len) : [at' (row l i.toNat) 0, at' (row l i.toNat) 1, at' (row l i.toNat) 2, at' (row l i.toNat) 3, at' (row l i.toNat) 4] = row l i.toNat := by
 obtain ⟨m, u, hm⟩ := hT
 obtain ⟨_, h1, h2, _⟩ := hm.slice
 have hlt : i.toNat < l.rows.length := by rcases len_lt hi with h | h <;> omega
 have h3 := h2 i.toNat _ (List.getElem?_eq_getElem hlt)
 have hrw : row l i.toNat = l.rows[i.toNat] := by unfold row; rw [List.getD_eq_getElem?_getD, List.getElem?_eq_getElem hlt]; rfl
 rw [← hrw] at h3
 match hr : row l i.toNat, h3 with
 | [a, b, c, d, e], _ => rfl
theorem eqC_lit {d : CD} {z : Int} (h : Typ sI d) : (eqC d (vInt .i64 z) = true) = (d.iv = z) := by
 obtain ⟨n, rfl⟩ := typ_int h
 exact eqC_int
theorem ent_typ {l : CD} {i k : Int} {j : Nat} (hT : Typ sVotes l) (h0 : 0 ≤ i) (hi : i < l.len) (k0 : 0 ≤ k) (hk : k < (at' (row l i.toNat) 4).len) (hj : j < 3) : Typ sI (at' (row (at' (row l i.toNat) 4) k.toNat) j) := by
 have h1 : Typ (.sl sEnt) (at' (row l i.toNat) 4) := hT.cell (j := 4) h0 hi rfl
 match j, hj with
 | 0, _ => exact h1.cell (j := 0) k0 hk rfl
 | 1, _ => exact h1.cell (j := 1) k0 hk rfl
 | 2, _ => exact h1.cell (j := 2) k0 hk rfl
theorem view_next {l op : CD} {i k m : Int} (hT : Typ sVotes l) (hA : okA l = true) (h0 : 0 ≤ i) (hi : i < l.len) (k0 : 0 ≤ k) (hk : k < (at' (row l i.toNat) 4).len) (hop : Typ sI op) :
  viewE op.iv m ((at' (row l i.toNat) 4).rows.take (k + 1).toNat) = if eqC (at' (row (at' (row l i.toNat) 4) k.toNat) 0) op = true ∧ (eqC (at' (row (at' (row l i.toNat) 4) k.toNat) 2) (vInt .i64 2) = true ∨ eqC (at' (row (at' (row l i.toNat) 4) k.toNat) 2) (vInt .i64 1) = true ∨ eqC (at' (row (at' (row l i.toNat) 4) k.toNat) 2) (vInt .i64 4) = true)
   then max (viewE op.iv m ((at' (row l i.toNat) 4).rows.take k.toNat)) (at' (row (at' (row l i.toNat) 4) k.toNat) 1).iv else viewE op.iv m ((at' (row l i.toNat) 4).rows.take k.toNat) := by
 have t0 := ent_typ (j := 0) hT h0 hi k0 hk (by omega)
 have t2 := ent_typ (j := 2) hT h0 hi k0 hk (by omega)
 obtain ⟨_, _, _, _, a5, a6⟩ := okE_row hA h0 hi k0 hk
 rw [take_row k0 hk, viewE_step]
 simp only [eqC_lit t2, eqC_ivn t0 hop]
 congr 1
 apply propext
 constructor
 ·rintro ⟨h1, h2⟩; exact ⟨h1, by omega⟩
 ·rintro ⟨h1, h2⟩; exact ⟨h1, by omega⟩
theorem viewL_next {l op : CD} {i m : Int} (h0 : 0 ≤ i) (hi : i < l.len) : viewL op.iv m (l.rows.take (i + 1).toNat) = viewE op.iv (viewL op.iv m (l.rows.take i.toNat)) (at' (row l i.toNat) 4).rows := by
 rw [take_row h0 hi]
 unfold viewL
 rw [List.foldl_append]
 rfl
theorem tn0 : (0 : Int).toNat = 0 := rfl
theorem row_mkz {r : List (List CD)} {i : Nat} : row (mkz r) i = r.getD i [] := rfl
theorem mkz_len {d : CD} : (mkz d.rows).len = d.len := rfl
theorem row_of (d : CD) (i : Nat) : d.rows.getD i [] = row d i := rfl
theorem ops_z {R es : List (List CD)} : (opsS fun o => opP R o || opE (es.take 0) o) = opsS (opP R) := by
 congr 1
 funext o
 rw [List.take_zero]
 exact Bool.or_false _
theorem ops_0 {R : List (List CD)} : opsS (opP (R.take 0)) = [] := by
 unfold opsS
 rw [List.take_zero]
 have : ∀ l : List Nat, l.filter (opP []) = [] := fun l => List.filter_eq_nil_iff.2 fun a _ => by simp [opP]
 rw [this]
 rfl
theorem ops_row {l : CD} {i k : Int} (h0 : 0 ≤ i) (hi : i < l.len) (hT : Typ sVotes l) (hk : ¬ k < (at' (row l i.toNat) 4).len) : (opsS fun o => opP (l.rows.take i.toNat) o || opE ((at' (row l i.toNat) 4).rows.take k.toNat) o) = opsS (opP (l.rows.take (i + 1).toNat)) := by
 have h1 : Typ (.sl sEnt) (at' (row l i.toNat) 4) := hT.cell (j := 4) h0 hi rfl
 congr 1
 funext o
 rw [take_allT h1 hk, take_row h0 hi]
 unfold opP
 rw [List.any_append]
 simp
theorem d_len {d : CD} (h : d.rows.length ≤ 1073741825) : (d.len : Int) = d.rows.length := by
 have h1 : d.len = min d.rows.length maxN := rfl
 have : (1073741825 : Nat) ≤ maxN := by decide
 omega
theorem ops_new {R : List (List CD)} {es e : CD} {k a : Int} (he : e.rows = opsS fun o => opP R o || opE (es.rows.take k.toNat) o) (k0 : 0 ≤ k) (hk : k < es.len) (hT : Typ sI (at' (row es k.toNat) 0)) (n0 : 0 ≤ (at' (row es k.toNat) 0).iv) (n1 : (at' (row es k.toNat) 0).iv ≤ 1073741824)
  (a0 : 0 ≤ a) (ha : a ≤ e.len) (hlt : ((e.rows.take a.toNat).all fun r => decide ((at' r 0).iv < (at' (row es k.toNat) 0).iv)) = true) (hge : a < e.len → ¬ (at' (row e a.toNat) 0).iv < (at' (row es k.toNat) 0).iv) :
  (opsS fun o => opP R o || opE (es.rows.take (k + 1).toNat) o) = if a < e.len ∧ (at' (row e a.toNat) 0).iv = (at' (row es k.toNat) 0).iv then e.rows else e.rows.take a.toNat ++ ([at' (row es k.toNat) 0] :: e.rows.drop a.toNat) := by
 have hl : (e.len : Int) = e.rows.length := d_len (by rw [he]; exact opsS_len)
 have e1 : (opsS fun o => opP R o || opE (es.rows.take (k + 1).toNat) o) = opsS fun o => (opP R o || opE (es.rows.take k.toNat) o) || decide (o = (at' (row es k.toNat) 0).iv.toNat) := by
  congr 1
  funext o
  rw [take_row k0 hk, Bool.or_assoc]
  congr 1
  unfold opE
  rw [List.any_append]
  congr 1
  simp only [List.any_cons, List.any_nil, Bool.or_false]
  rw [decide_eq_decide]
  omega
 have := with_split he (n := (at' (row es k.toNat) 0).iv.toNat) (i := a.toNat) (by omega) (by omega) (fun r hr => by
  have := of_decide_eq_true (List.all_eq_true.1 hlt r hr)
  omega) (fun hi hh => by
  refine hge (by omega) ?_
  rw [show row e a.toNat = e.rows.getD a.toNat [] from rfl]
  omega)
 rw [e1]
 have er : e.rows.getD a.toNat [] = row e a.toNat := rfl
 rw [er] at this
 split
 ·rename_i hc
  exact this.1 ⟨by omega, by omega⟩
 ·rename_i hc
  rw [this.2 (fun hh => hc ⟨by omega, by omega⟩)]
  have e2 : rowN (at' (row es k.toNat) 0).iv.toNat = [at' (row es k.toNat) 0] := by
   unfold rowN
   rw [Int.toNat_of_nonneg n0, ← typ_i0 hT]
  rw [e2]
  rfl
theorem viewE_0 {op m : Int} {es : List (List CD)} : viewE op m (es.take 0) = m := by rw [List.take_zero]; rfl
theorem viewL_0 {op m : Int} {es : List (List CD)} : viewL op m (es.take 0) = m := by rw [List.take_zero]; rfl
theorem view_nextC {l op : CD} {i k m : Int} (hT : Typ sVotes l) (hA : okA l = true) (h0 : 0 ≤ i) (hi : i < l.len) (k0 : 0 ≤ k) (hk : k < (at' (row l i.toNat) 4).len) (hop : Typ sI op) :
  vInt .i64 (viewE op.iv m ((at' (row l i.toNat) 4).rows.take (k + 1).toNat)) = if eqC (at' (row (at' (row l i.toNat) 4) k.toNat) 0) op = true ∧ (eqC (at' (row (at' (row l i.toNat) 4) k.toNat) 2) (vInt .i64 2) = true ∨ eqC (at' (row (at' (row l i.toNat) 4) k.toNat) 2) (vInt .i64 1) = true ∨ eqC (at' (row (at' (row l i.toNat) 4) k.toNat) 2) (vInt .i64 4) = true)
   then if viewE op.iv m ((at' (row l i.toNat) 4).rows.take k.toNat) < (at' (row (at' (row l i.toNat) 4) k.toNat) 1).iv then at' (row (at' (row l i.toNat) 4) k.toNat) 1 else vInt .i64 (viewE op.iv m ((at' (row l i.toNat) 4).rows.take k.toNat)) else vInt .i64 (viewE op.iv m ((at' (row l i.toNat) 4).rows.take k.toNat)) := by
 have t1 := typ_i0 (ent_typ (j := 1) hT h0 hi k0 hk (by omega))
 rw [view_next hT hA h0 hi k0 hk hop]
 generalize viewE op.iv m ((at' (row l i.toNat) 4).rows.take k.toNat) = c
 generalize at' (row (at' (row l i.toNat) 4) k.toNat) 1 = r1 at t1 ⊢
 split
 ·split
  ·rename_i h
   rw [Int.max_eq_right (by omega)]
   exact t1.symm
  ·rename_i h
   rw [Int.max_eq_left (by omega)]
 ·rfl
theorem len_cut1 {d : CD} {b : Bool} {a : Int} (h : d.rows.length ≤ 1073741825) (a0 : 0 ≤ a) (ha : a ≤ d.rows.length) : ((CD.sl b (d.rows.take a.toNat)).len : Int) = a := by
 have h1 : (CD.sl b (d.rows.take a.toNat)).len = min (d.rows.take a.toNat).length maxN := rfl
 have : (1073741825 : Nat) ≤ maxN := by decide
 rw [List.length_take] at h1
 omega
theorem len_cut2 {d : CD} {b : Bool} {a : Int} (h : d.rows.length ≤ 1073741825) (a0 : 0 ≤ a) (ha : a ≤ d.rows.length) : ((CD.sl b (d.rows.drop a.toNat)).len : Int) = d.rows.length - a := by
 have h1 : (CD.sl b (d.rows.drop a.toNat)).len = min (d.rows.drop a.toNat).length maxN := rfl
 have : (1073741825 : Nat) ≤ maxN := by decide
 rw [List.length_drop] at h1
 omega
theorem take_full {d : CD} (h : d.rows.length ≤ 1073741825) : d.rows.take ((d.len : Int)).toNat = d.rows := by
 have := d_len h
 exact List.take_of_length_le (by omega)
theorem opsS_at' {p : Nat → Bool} {i : Nat} (h : i < (opsS p).length) : ∃ o : Nat, (opsS p).getD i [] = rowN o := by
 have := getD_mem (d := []) h
 unfold opsS at this ⊢
 obtain ⟨o, _, ho⟩ := List.mem_map.1 this
 exact ⟨o, ho.symm⟩
theorem ops_newV {l e : CD} {i k a : Int} (he : e.rows = opsS fun o => opP (l.rows.take i.toNat) o || opE ((at' (row l i.toNat) 4).rows.take k.toNat) o) (hT : Typ sVotes l) (hA : okA l = true) (h0 : 0 ≤ i) (hi : i < l.len) (k0 : 0 ≤ k) (hk : k < (at' (row l i.toNat) 4).len)
  (a0 : 0 ≤ a) (ha : a ≤ e.rows.length) (hlt : ((e.rows.take a.toNat).all fun r => decide ((at' r 0).iv < (at' (row (at' (row l i.toNat) 4) k.toNat) 0).iv)) = true) (hge : a < e.rows.length → ¬ (at' (row e a.toNat) 0).iv < (at' (row (at' (row l i.toNat) 4) k.toNat) 0).iv) :
  (opsS fun o => opP (l.rows.take i.toNat) o || opE ((at' (row l i.toNat) 4).rows.take (k + 1).toNat) o) = if a < e.rows.length ∧ eqC (at' (row e a.toNat) 0) (at' (row (at' (row l i.toNat) 4) k.toNat) 0) = true then e.rows else e.rows.take a.toNat ++ [[at' (row (at' (row l i.toNat) 4) k.toNat) 0]] ++ e.rows.drop a.toNat := by
 obtain ⟨b1, b2, _⟩ := okE_row hA h0 hi k0 hk
 have t0 := ent_typ (j := 0) hT h0 hi k0 hk (by omega)
 have hl : (e.len : Int) = e.rows.length := d_len (by rw [he]; exact opsS_len)
 rw [ops_new he k0 hk t0 (by omega) b2 a0 (by omega) hlt (by rw [hl]; exact hge), List.append_assoc, hl]
 by_cases hc : a < e.rows.length
 ·have h2 : ∃ o : Nat, e.rows.getD a.toNat [] = rowN o := by
   rw [he] at hc ⊢
   exact opsS_at' (by omega)
  obtain ⟨o, ho⟩ := h2
  have h3 : (eqC (at' (row e a.toNat) 0) (at' (row (at' (row l i.toNat) 4) k.toNat) 0) = true) = ((at' (row e a.toNat) 0).iv = (at' (row (at' (row l i.toNat) 4) k.toNat) 0).iv) := by
   rw [show row e a.toNat = rowN o from ho]
   obtain ⟨n, hn⟩ := typ_int t0
   rw [hn]
   exact eqC_int
  simp only [h3]
  rfl
 ·rw [if_neg (fun hh => hc hh.1), if_neg (fun hh => hc hh.1)]
  rfl
theorem ops_newL {l e : CD} {i k a : Int} (he : e.rows = opsS fun o => opP (l.rows.take i.toNat) o || opE ((at' (row l i.toNat) 4).rows.take k.toNat) o) (hT : Typ sVotes l) (hA : okA l = true) (h0 : 0 ≤ i) (hi : i < l.len) (k0 : 0 ≤ k) (hk : k < (at' (row l i.toNat) 4).len)
  (a0 : 0 ≤ a) (ha : a ≤ e.rows.length) (hlt : ((e.rows.take a.toNat).all fun r => decide ((at' r 0).iv < (at' (row (at' (row l i.toNat) 4) k.toNat) 0).iv)) = true) (hge : a < e.rows.length → ¬ (at' (row e a.toNat) 0).iv < (at' (row (at' (row l i.toNat) 4) k.toNat) 0).iv)
  (hc : ¬ (a < e.rows.length ∧ eqC (at' (row e a.toNat) 0) (at' (row (at' (row l i.toNat) 4) k.toNat) 0) = true)) : e.rows.length + 1 ≤ 1073741825 := by
 have h1 := ops_newV he hT hA h0 hi k0 hk a0 ha hlt hge
 rw [if_neg hc] at h1
 have h2 := opsS_len (p := fun o => opP (l.rows.take i.toNat) o || opE ((at' (row l i.toNat) 4).rows.take (k + 1).toNat) o)
 rw [h1] at h2
 simp only [List.length_append, List.length_take, List.length_drop, List.length_cons, List.length_nil] at h2
 omega
theorem all_succN {R : List (List CD)} {i : Int} {f : List CD → Bool} (h0 : 0 ≤ i) (h : i < R.length) : (R.take (i + 1).toNat).all f = ((R.take i.toNat).all f && f (R.getD i.toNat [])) := by
 rw [show (i + 1).toNat = i.toNat + 1 by omega, List.take_succ_eq_append_getElem (show i.toNat < R.length by omega), List.all_append, List.getD_eq_getElem?_getD, List.getElem?_eq_getElem (show i.toNat < R.length by omega)]
 simp
theorem len_cut3 {d : CD} {b : Bool} {a : Int} (h : d.rows.length ≤ 1073741825) (a0 : 0 ≤ a) (ha : a ≤ d.rows.length) : ((CD.sl b ((d.rows.take ((d.len : Int)).toNat).drop a.toNat)).len : Int) = d.rows.length - a := by
 rw [take_full h]
 exact len_cut2 h a0 ha
theorem len_join {d : CD} {x : List CD} {a : Int} (h : d.rows.length ≤ 1073741825) (a0 : 0 ≤ a) (ha : a ≤ d.rows.length) : ((d.rows.take a.toNat ++ [x] ++ (d.rows.take ((d.len : Int)).toNat).drop a.toNat).length : Int) = d.rows.length + 1 := by
 rw [take_full h]
 simp only [List.length_append, List.length_take, List.length_drop, List.length_cons, List.length_nil]
 omega
end Go.Proofs.Ytlbbkmcegbeckaa.Cn

set_option linter.unusedSectionVars false
set_option linter.unusedVariables false
set_option linter.unusedSimpArgs false
namespace Go.Proofs.Ytlbbkmcegbeckaa.Cn
open Go.Sx Go.Proofs
noncomputable def SLead : Fsp := ⟨[(false, [sVotes])], [.ap .le [.ap .len [.var 0], I 10], .ap (.usr 160) [.var 0]], [(false, [sVotes])], [([], [[.ap (.usr 154) [.var 0]]])], false⟩
noncomputable def lp78 : Lp := ⟨[(.slot 3, .own true sVote), (.slot 4, .int .i64)], [0], [0], fun F H k => [.ap .le [zI, .var (k+2)], .ap .le [.var (k+2), .ap .len [.var 0]], .ap .le [.var k, .ap .rlen [.var (k+1)]], .ap .le [.ap .rlen [.var (k+1)], .var k], .ap .le [zI, .var k], .ap .le [.var k, .var (k+2)], .ap .same [.ap (.mk true) [.var (k+1)], .ap (.usr 155) [.var 0, .var (k+2)]]], fun F H k => .ap (.sub .i64) [.ap .len [.var 0], .var (k+2)]⟩
theorem leads_0 {l : CD} : leadsR (l.rows.take (0 : Int).toNat) (maxI 1 (l.rows.take (0 : Int).toNat)) = [] := rfl
abbrev r78_h0 : List X := [(.ap (.typ sVotes) [(.var 0)]), (.ap .le [(.ap .len [(.var 0)]), (I 10)]), (.ap (.usr 160) [(.var 0)])]
abbrev r78_h1 : List X := (.ap .le [(I 0), (.var 3)]) :: (.ap .le [(.var 3), (.ap .len [(.var 0)])]) :: (.ap .le [(.var 1), (.ap .rlen [(.var 2)])]) :: (.ap .le [(.ap .rlen [(.var 2)]), (.var 1)]) :: (.ap .le [(I 0), (.var 1)]) :: (.ap .le [(.var 1), (.var 3)]) :: (.ap .same [(.ap (.mk true) [(.var 2)]), (.ap (.usr 155) [(.var 0), (.var 3)])]) :: r78_h0
abbrev r78_h2 : List X := (.ap .not [(.ap .lt [(.ap (.cell 1) [(.var 2), (I 0)]), (.ap (.cell 1) [(.var 0), (.var 3)])])]) :: (.ap .lt [(I 0), (.ap (.cast .i64) [(.var 1)])]) :: (.ap .lt [(.var 3), (.ap .len [(.var 0)])]) :: r78_h1
def r78_v : List VC := [(r78_h0, (.ap .le [(I 0), (.ap .rlen [(.ap (.nil true) [])])])),
 (r78_h0, (.ap .le [(.ap .rlen [(.ap (.nil true) [])]), (I 0)])),
 (r78_h0, (.ap .same [(.ap (.mk true) [(.ap (.nil true) [])]), (.ap (.usr 155) [(.var 0), (I 0)])])),
 (((.ap .lt [(.ap (.cell 1) [(.var 2), (I 0)]), (.ap (.cell 1) [(.var 0), (.var 3)])]) :: (.ap .lt [(I 0), (.ap (.cast .i64) [(.var 1)])]) :: (.ap .lt [(.var 3), (.ap .len [(.var 0)])]) :: r78_h1), (.ap .le [(I 1), (.ap .rlen [(.ap (.mk false) [(.ap .snoc [(.ap (.nil false) []), (.ap (.cell 0) [(.var 0), (.var 3)]), (.ap (.cell 1) [(.var 0), (.var 3)]), (.ap (.cell 2) [(.var 0), (.var 3)]), (.ap (.cell 3) [(.var 0), (.var 3)]), (.ap (.cell 4) [(.var 0), (.var 3)])])])])])),
 (((.ap .lt [(.ap (.cell 1) [(.var 2), (I 0)]), (.ap (.cell 1) [(.var 0), (.var 3)])]) :: (.ap .lt [(I 0), (.ap (.cast .i64) [(.var 1)])]) :: (.ap .lt [(.var 3), (.ap .len [(.var 0)])]) :: r78_h1), (.ap .le [(.ap .rlen [(.ap (.mk false) [(.ap .snoc [(.ap (.nil false) []), (.ap (.cell 0) [(.var 0), (.var 3)]), (.ap (.cell 1) [(.var 0), (.var 3)]), (.ap (.cell 2) [(.var 0), (.var 3)]), (.ap (.cell 3) [(.var 0), (.var 3)]), (.ap (.cell 4) [(.var 0), (.var 3)])])])]), (I 1)])),
 (((.ap .lt [(.ap (.cell 1) [(.var 2), (I 0)]), (.ap (.cell 1) [(.var 0), (.var 3)])]) :: (.ap .lt [(I 0), (.ap (.cast .i64) [(.var 1)])]) :: (.ap .lt [(.var 3), (.ap .len [(.var 0)])]) :: r78_h1), (.ap .same [(.ap (.mk true) [(.ap (.mk false) [(.ap .snoc [(.ap (.nil false) []), (.ap (.cell 0) [(.var 0), (.var 3)]), (.ap (.cell 1) [(.var 0), (.var 3)]), (.ap (.cell 2) [(.var 0), (.var 3)]), (.ap (.cell 3) [(.var 0), (.var 3)]), (.ap (.cell 4) [(.var 0), (.var 3)])])])]), (.ap (.usr 155) [(.var 0), (.ap (.add .i64) [(.var 3), (I 1)])])])),
 (((.ap .eq [(.ap (.cell 1) [(.var 0), (.var 3)]), (.ap (.cell 1) [(.var 2), (I 0)])]) :: r78_h2), (.ap .le [(.ap (.add .i64) [(.var 1), (I 1)]), (.ap .rlen [(.ap .cat [(.var 2), (.ap .snoc [(.ap (.nil false) []), (.ap (.cell 0) [(.var 0), (.var 3)]), (.ap (.cell 1) [(.var 0), (.var 3)]), (.ap (.cell 2) [(.var 0), (.var 3)]), (.ap (.cell 3) [(.var 0), (.var 3)]), (.ap (.cell 4) [(.var 0), (.var 3)])])])])])),
 (((.ap .eq [(.ap (.cell 1) [(.var 0), (.var 3)]), (.ap (.cell 1) [(.var 2), (I 0)])]) :: r78_h2), (.ap .le [(.ap .rlen [(.ap .cat [(.var 2), (.ap .snoc [(.ap (.nil false) []), (.ap (.cell 0) [(.var 0), (.var 3)]), (.ap (.cell 1) [(.var 0), (.var 3)]), (.ap (.cell 2) [(.var 0), (.var 3)]), (.ap (.cell 3) [(.var 0), (.var 3)]), (.ap (.cell 4) [(.var 0), (.var 3)])])])]), (.ap (.add .i64) [(.var 1), (I 1)])])),
 (((.ap .eq [(.ap (.cell 1) [(.var 0), (.var 3)]), (.ap (.cell 1) [(.var 2), (I 0)])]) :: r78_h2), (.ap .same [(.ap (.mk true) [(.ap .cat [(.var 2), (.ap .snoc [(.ap (.nil false) []), (.ap (.cell 0) [(.var 0), (.var 3)]), (.ap (.cell 1) [(.var 0), (.var 3)]), (.ap (.cell 2) [(.var 0), (.var 3)]), (.ap (.cell 3) [(.var 0), (.var 3)]), (.ap (.cell 4) [(.var 0), (.var 3)])])])]), (.ap (.usr 155) [(.var 0), (.ap (.add .i64) [(.var 3), (I 1)])])])),
 (((.ap .not [(.ap .eq [(.ap (.cell 1) [(.var 0), (.var 3)]), (.ap (.cell 1) [(.var 2), (I 0)])])]) :: r78_h2), (.ap .same [(.ap (.mk true) [(.var 2)]), (.ap (.usr 155) [(.var 0), (.ap (.add .i64) [(.var 3), (I 1)])])])),
 (((.ap .not [(.ap .lt [(I 0), (.ap (.cast .i64) [(.var 1)])])]) :: (.ap .lt [(.var 3), (.ap .len [(.var 0)])]) :: r78_h1), (.ap .le [(.ap (.add .i64) [(.var 1), (I 1)]), (.ap .rlen [(.ap .cat [(.var 2), (.ap .snoc [(.ap (.nil false) []), (.ap (.cell 0) [(.var 0), (.var 3)]), (.ap (.cell 1) [(.var 0), (.var 3)]), (.ap (.cell 2) [(.var 0), (.var 3)]), (.ap (.cell 3) [(.var 0), (.var 3)]), (.ap (.cell 4) [(.var 0), (.var 3)])])])])])),
 (((.ap .not [(.ap .lt [(I 0), (.ap (.cast .i64) [(.var 1)])])]) :: (.ap .lt [(.var 3), (.ap .len [(.var 0)])]) :: r78_h1), (.ap .le [(.ap .rlen [(.ap .cat [(.var 2), (.ap .snoc [(.ap (.nil false) []), (.ap (.cell 0) [(.var 0), (.var 3)]), (.ap (.cell 1) [(.var 0), (.var 3)]), (.ap (.cell 2) [(.var 0), (.var 3)]), (.ap (.cell 3) [(.var 0), (.var 3)]), (.ap (.cell 4) [(.var 0), (.var 3)])])])]), (.ap (.add .i64) [(.var 1), (I 1)])])),
 (((.ap .not [(.ap .lt [(I 0), (.ap (.cast .i64) [(.var 1)])])]) :: (.ap .lt [(.var 3), (.ap .len [(.var 0)])]) :: r78_h1), (.ap .same [(.ap (.mk true) [(.ap .cat [(.var 2), (.ap .snoc [(.ap (.nil false) []), (.ap (.cell 0) [(.var 0), (.var 3)]), (.ap (.cell 1) [(.var 0), (.var 3)]), (.ap (.cell 2) [(.var 0), (.var 3)]), (.ap (.cell 3) [(.var 0), (.var 3)]), (.ap (.cell 4) [(.var 0), (.var 3)])])])]), (.ap (.usr 155) [(.var 0), (.ap (.add .i64) [(.var 3), (I 1)])])]))]
def r78_o : List (List X × List (List X)) := [(((.ap .not [(.ap .lt [(.var 3), (.ap .len [(.var 0)])])]) :: r78_h1), [[(.ap (.mk true) [(.var 2)])]])]
theorem r78_eq : runS Try.prog (specO T0) 10 14 ⟨hintL [(3, lp78)], hintA []⟩ Try.f78 (bodyOf Try.f78) SLead = some (r78_v, r78_o) := by kernel_rfl
set_option maxHeartbeats 4000000 in
set_option maxRecDepth 100000 in
theorem c78 : SpecOK U Try.prog 78 SLead := by
 refine SpecOK.of (P := Try.prog) (U := U) (T := T0) (f := 78) (fn := Try.f78) (fuel := 10) (fk := 14) (hs := ⟨hintL [(3, lp78)], hintA []⟩) (S := SLead) (v := r78_v) (outs := r78_o) mixed hT0 at78 r78_eq ?_ ?_
 ·unfold r78_v
  repeat' (first | exact vcs_nil _ | refine vcs_cons (fun v hh => ?_) ?_)
  all_goals
   simp only [w_var, w_lit, w_ivi, w_bvb, w_add, w_cast, b_lt, b_le, b_eq, b_not, b_typ, b_same, w_len, w_cell, w_nil, w_mk, w_snoc, w_cat, w_usr, w_l0, w_l1, w_vint, w_vbool, w_tru, w_holds0, w_holds1, w_rows, w_nilb, w_rlen, us154, us155, us160, mnX, mxX, cell_at, l1_inj, mkz_fold, mkz_eq, r78_h0, r78_h1, r78_h2] at hh ⊢
   repeat (obtain ⟨_, hh⟩ := hh)
   try (first | grind [→ lead_next, row5, take_allT, lead, leads_0, List.length_eq_zero_iff, = w_vint])
 ·intro o ho σ hU hh
  obtain ⟨v⟩ := σ
  cases hU
  simp only [r78_o, List.mem_cons, List.not_mem_nil, or_false] at ho
  repeat' (first | (rcases ho with rfl | ho) | subst ho)
  all_goals
   refine ⟨_, List.mem_cons_self .., by simp only [w_var, w_lit, w_ivi, w_bvb, w_add, w_cast, b_lt, b_le, b_eq, b_not, b_typ, b_same, w_len, w_cell, w_nil, w_mk, w_snoc, w_cat, w_usr, w_l0, w_l1, w_vint, w_vbool, w_tru, w_holds0, w_holds1, w_rows, w_nilb, w_rlen], ?_⟩
   simp only [w_var, w_lit, w_ivi, w_bvb, w_add, w_cast, b_lt, b_le, b_eq, b_not, b_typ, b_same, w_len, w_cell, w_nil, w_mk, w_snoc, w_cat, w_usr, w_l0, w_l1, w_vint, w_vbool, w_tru, w_holds0, w_holds1, w_rows, w_nilb, w_rlen, us154, us155, us160, mnX, mxX, cell_at, l1_inj, mkz_fold, mkz_eq, r78_h0, r78_h1, r78_h2] at hh
   simp only [List.map_cons, List.map_nil, w_var, w_lit, w_ivi, w_bvb, w_add, w_cast, b_lt, b_le, b_eq, b_not, b_typ, b_same, w_len, w_cell, w_nil, w_mk, w_snoc, w_cat, w_usr, w_l0, w_l1, w_vint, w_vbool, w_tru, w_holds0, w_holds1, w_rows, w_nilb, w_rlen, w_lt, w_le, w_eq, w_not, w_same, w_typ, us154, us155, us160, mnX, mxX, cell_at, l1_inj, mkz_fold, mkz_eq]
   repeat (obtain ⟨_, hh⟩ := hh)
   try (first | grind [→ lead_next, row5, take_allT, lead, leads_0, List.length_eq_zero_iff, = w_vint])
noncomputable def SView : Fsp := ⟨[(false, [sVotes]), (false, [sI])], [.ap (.usr 160) [.var 0], .ap (.typ sI) [.var 1]], [(false, [sI])], [([], [[.ap (.usr 156) [.var 0, .var 1]]])], true⟩
noncomputable def lp80a : Lp := ⟨[(.slot 5, .int .i64), (.slot 6, .int .i64)], [0, 1], [], fun F H k => [.ap .le [zI, .var (k+1)], .ap .le [.var (k+1), .ap .len [.var 0]], .ap .same [.var k, .ap (.usr 157) [.var 0, .var 1, .var (k+1)]]], fun F H k => .ap (.sub .i64) [.ap .len [.var 0], .var (k+1)]⟩
noncomputable def lp80b : Lp := ⟨[(.slot 5, .int .i64), (.slot 7, .int .i64)], [0, 1, 6], [], fun F H k => [.ap .le [zI, .var (k+1)], .ap .le [.var (k+1), .ap .len [.ap (.cell 4) [.var 0, sx F 6]]], .ap .same [.var k, .ap (.usr 158) [.var 0, .var 1, sx F 6, .var (k+1)]]], fun F H k => .ap (.sub .i64) [.ap .len [.ap (.cell 4) [.var 0, sx F 6]], .var (k+1)]⟩
abbrev r80_h0 : List X := [(.ap (.typ sVotes) [(.var 0)]), (.ap .le [mnX, (.var 1)]), (.ap .le [(.var 1), mxX]), (.ap (.usr 160) [(.var 0)]), (.ap (.typ sI) [(.var 1)])]
abbrev r80_h1 : List X := (.ap .le [(I 0), (.var 3)]) :: (.ap .le [(.var 3), (.ap .len [(.var 0)])]) :: (.ap .same [(.var 2), (.ap (.usr 157) [(.var 0), (.var 1), (.var 3)])]) :: r80_h0
abbrev r80_h2 : List X := (.ap .le [(I 0), (.var 5)]) :: (.ap .le [(.var 5), (.ap .len [(.ap (.cell 4) [(.var 0), (.var 3)])])]) :: (.ap .same [(.var 4), (.ap (.usr 158) [(.var 0), (.var 1), (.var 3), (.var 5)])]) :: (.ap .lt [(.var 3), (.ap .len [(.var 0)])]) :: r80_h1
abbrev r80_h3 : List X := (.ap .not [(.ap .eq [(.ap (.cell 2) [(.ap (.cell 4) [(.var 0), (.var 3)]), (.var 5)]), (I 2)])]) :: (.ap .eq [(.ap (.cell 0) [(.ap (.cell 4) [(.var 0), (.var 3)]), (.var 5)]), (.var 1)]) :: (.ap .lt [(.var 5), (.ap .len [(.ap (.cell 4) [(.var 0), (.var 3)])])]) :: r80_h2
def r80_v : List VC := [(r80_h0, (.ap .same [(I (-1)), (.ap (.usr 157) [(.var 0), (.var 1), (I 0)])])),
 (((.ap .lt [(.var 3), (.ap .len [(.var 0)])]) :: r80_h1), (.ap .same [(.var 2), (.ap (.usr 158) [(.var 0), (.var 1), (.var 3), (I 0)])])),
 (((.ap .eq [(.ap (.cell 2) [(.ap (.cell 4) [(.var 0), (.var 3)]), (.var 5)]), (I 2)]) :: (.ap .eq [(.ap (.cell 0) [(.ap (.cell 4) [(.var 0), (.var 3)]), (.var 5)]), (.var 1)]) :: (.ap .lt [(.var 5), (.ap .len [(.ap (.cell 4) [(.var 0), (.var 3)])])]) :: r80_h2), (.ap .same [(.ap .ite [(.ap .lt [(.var 4), (.ap (.cell 1) [(.ap (.cell 4) [(.var 0), (.var 3)]), (.var 5)])]), (.ap (.cell 1) [(.ap (.cell 4) [(.var 0), (.var 3)]), (.var 5)]), (.var 4)]), (.ap (.usr 158) [(.var 0), (.var 1), (.var 3), (.ap (.add .i64) [(.var 5), (I 1)])])])),
 (((.ap .eq [(.ap (.cell 2) [(.ap (.cell 4) [(.var 0), (.var 3)]), (.var 5)]), (I 1)]) :: r80_h3), (.ap .same [(.ap .ite [(.ap .lt [(.var 4), (.ap (.cell 1) [(.ap (.cell 4) [(.var 0), (.var 3)]), (.var 5)])]), (.ap (.cell 1) [(.ap (.cell 4) [(.var 0), (.var 3)]), (.var 5)]), (.var 4)]), (.ap (.usr 158) [(.var 0), (.var 1), (.var 3), (.ap (.add .i64) [(.var 5), (I 1)])])])),
 (((.ap .eq [(.ap (.cell 2) [(.ap (.cell 4) [(.var 0), (.var 3)]), (.var 5)]), (I 4)]) :: (.ap .not [(.ap .eq [(.ap (.cell 2) [(.ap (.cell 4) [(.var 0), (.var 3)]), (.var 5)]), (I 1)])]) :: r80_h3), (.ap .same [(.ap .ite [(.ap .lt [(.var 4), (.ap (.cell 1) [(.ap (.cell 4) [(.var 0), (.var 3)]), (.var 5)])]), (.ap (.cell 1) [(.ap (.cell 4) [(.var 0), (.var 3)]), (.var 5)]), (.var 4)]), (.ap (.usr 158) [(.var 0), (.var 1), (.var 3), (.ap (.add .i64) [(.var 5), (I 1)])])])),
 (((.ap .not [(.ap .eq [(.ap (.cell 2) [(.ap (.cell 4) [(.var 0), (.var 3)]), (.var 5)]), (I 4)])]) :: (.ap .not [(.ap .eq [(.ap (.cell 2) [(.ap (.cell 4) [(.var 0), (.var 3)]), (.var 5)]), (I 1)])]) :: r80_h3), (.ap .same [(.var 4), (.ap (.usr 158) [(.var 0), (.var 1), (.var 3), (.ap (.add .i64) [(.var 5), (I 1)])])])),
 (((.ap .not [(.ap .eq [(.ap (.cell 0) [(.ap (.cell 4) [(.var 0), (.var 3)]), (.var 5)]), (.var 1)])]) :: (.ap .lt [(.var 5), (.ap .len [(.ap (.cell 4) [(.var 0), (.var 3)])])]) :: r80_h2), (.ap .same [(.var 4), (.ap (.usr 158) [(.var 0), (.var 1), (.var 3), (.ap (.add .i64) [(.var 5), (I 1)])])])),
 (((.ap .not [(.ap .lt [(.var 5), (.ap .len [(.ap (.cell 4) [(.var 0), (.var 3)])])])]) :: r80_h2), (.ap .same [(.var 4), (.ap (.usr 157) [(.var 0), (.var 1), (.ap (.add .i64) [(.var 3), (I 1)])])]))]
def r80_o : List (List X × List (List X)) := [(((.ap .not [(.ap .lt [(.var 3), (.ap .len [(.var 0)])])]) :: r80_h1), [[(.var 2)]])]
theorem r80_eq : runS Try.prog (specO T0) 10 12 ⟨hintL [(3, lp80a), (6, lp80b)], hintA []⟩ Try.f80 (bodyOf Try.f80) SView = some (r80_v, r80_o) := by kernel_rfl
set_option maxHeartbeats 4000000 in
set_option maxRecDepth 100000 in
theorem c80 : SpecOK U Try.prog 80 SView := by
 refine SpecOK.of (P := Try.prog) (U := U) (T := T0) (f := 80) (fn := Try.f80) (fuel := 10) (fk := 12) (hs := ⟨hintL [(3, lp80a), (6, lp80b)], hintA []⟩) (S := SView) (v := r80_v) (outs := r80_o) mixed hT0 at80 r80_eq ?_ ?_
 ·unfold r80_v
  repeat' (first | exact vcs_nil _ | refine vcs_cons (fun v hh => ?_) ?_)
  all_goals
   simp only [w_var, w_lit, w_ivi, w_bvb, w_add, b_lt, b_le, b_eq, b_not, b_typ, b_same, w_ite, w_len, w_cell, w_usr, w_l0, w_l1, w_vint, w_vbool, w_tru, w_holds0, w_holds1, w_rows, w_nilb, us156, us157, us158, us160, mnX, mxX, cell_at, l1_inj, vInt_inj, vi_lit, tn0, viewE_0, viewL_0, r80_h0, r80_h1, r80_h2, r80_h3] at hh ⊢
   repeat (obtain ⟨_, hh⟩ := hh)
   try (first | grind [take_allT, view_nextC, viewL_next, cell_typ, = w_vint])
 ·intro o ho σ hU hh
  obtain ⟨v⟩ := σ
  cases hU
  simp only [r80_o, List.mem_cons, List.not_mem_nil, or_false] at ho
  repeat' (first | (rcases ho with rfl | ho) | subst ho)
  all_goals
   refine ⟨_, List.mem_cons_self .., by simp only [w_var, w_lit, w_ivi, w_bvb, w_add, b_lt, b_le, b_eq, b_not, b_typ, b_same, w_ite, w_len, w_cell, w_usr, w_l0, w_l1, w_vint, w_vbool, w_tru, w_holds0, w_holds1, w_rows, w_nilb], ?_⟩
   simp only [w_var, w_lit, w_ivi, w_bvb, w_add, b_lt, b_le, b_eq, b_not, b_typ, b_same, w_ite, w_len, w_cell, w_usr, w_l0, w_l1, w_vint, w_vbool, w_tru, w_holds0, w_holds1, w_rows, w_nilb, us156, us157, us158, us160, mnX, mxX, cell_at, l1_inj, vInt_inj, vi_lit, tn0, viewE_0, viewL_0, r80_h0, r80_h1, r80_h2, r80_h3] at hh
   simp only [List.map_cons, List.map_nil, w_var, w_lit, w_ivi, w_bvb, w_add, b_lt, b_le, b_eq, b_not, b_typ, b_same, w_ite, w_len, w_cell, w_usr, w_l0, w_l1, w_vint, w_vbool, w_tru, w_holds0, w_holds1, w_rows, w_nilb, w_lt, w_le, w_eq, w_not, w_same, w_typ, us156, us157, us158, us160, mnX, mxX, cell_at, l1_inj, vInt_inj, vi_lit, tn0, viewE_0, viewL_0]
   repeat (obtain ⟨_, hh⟩ := hh)
   try (first | grind [take_allT, view_nextC, viewL_next, cell_typ, = w_vint])
end Go.Proofs.Ytlbbkmcegbeckaa.Cn

set_option linter.unusedSectionVars false
set_option linter.unusedVariables false
set_option linter.unusedSimpArgs false
namespace Go.Proofs.Ytlbbkmcegbeckaa.Cn
open Go.Sx Go.Proofs
noncomputable def T5 : List (FuncId × Fsp) := [(78, SLead), (80, SView), (41, SHas), (38, SDen)]
set_option maxRecDepth 100000 in
theorem hT5 : TabOK U Try.prog T5 := .cons c78 (.cons c80 (.cons c41 (.cons c38 .nil)))
noncomputable def capI : X := I 1073741824
noncomputable def SEnd : Fsp := ⟨[(false, [sVotes]), (false, [sI]), (false, [sI])], [.ap .le [.ap .len [.var 0], I 10], .ap (.usr 160) [.var 0], .ap .le [zI, .var 1], .ap .le [.var 1, capI], .ap .same [.var 1, .ap (.usr 142) [.var 0]]], [(false, [sI]), (false, [.bool])], [([], [[.ap .ite [.ap (.usr 162) [.var 0, .var 2], I 0, .ap (.usr 163) [.var 0]]], [.ap .not [.ap (.usr 162) [.var 0, .var 2]]]])], true⟩
noncomputable def lp77a : Lp := ⟨[(.slot 9, .int .i64), (.slot 10, .int .i64)], [0, 1, 2, 8], [], fun F H k => [.ap .le [zI, .var (k+1)], .ap .le [.var (k+1), .ap .len [sx F 8]], .ap .le [.var k, capI], .ap .same [.var k, .ap (.usr 161) [sx F 8, .var 1, .var (k+1)]]], fun F H k => .ap (.sub .i64) [.ap .len [sx F 8], .var (k+1)]⟩
noncomputable def lp77b : Lp := ⟨[(.slot 11, .int .i64)], [0, 1, 2, 8, 9], [], fun F H k => [.ap .le [.ap (.add .i64) [.var 1, I 1], .var k], .ap .le [.var k, .ap (.add .i64) [sx F 9, I 1]], .ap (.typ sI) [.var k], .ap (.usr 149) [.var 0, .var k]], fun F H k => .ap (.sub .i64) [.ap (.add .i64) [sx F 9, I 1], .var k]⟩
theorem view_fold {l : CD} {op : Int} : viewL op (-1) (leadsR l.rows (lead l)) = view l op := rfl
theorem top_fold {l : CD} : maxI 2 (leadsR l.rows (lead l)) = top l := rfl
theorem okA_mkz {l : CD} {m : Int} (h : okA l = true) : okA (mkz (leadsR l.rows m)) = true := okA_leads h rfl
theorem ok_atV {l op : CD} (h : Typ sI op) : l.rows.any (hasV op (vInt .i64 (view l op.iv))) = okOp l op.iv := ok_at h
theorem ok_atF {l op : CD} (ha : l.rows.any (hasV op (vInt .i64 (view l op.iv))) = true) (h : Typ sI op) : okOp l op.iv = true := by rw [← ha, ok_atV h]
theorem waits_atV {l op : CD} {e : Int} (h : Typ sI op) (hk : endOp l = op.iv - 1) : waitsE l e = (decide (op.iv ≤ top l) && decide (((l.rows.filter (denV op (vInt .i64 (view l op.iv)))).length : Int) < e)) := by
 rw [waits_at hk, ← typ_i0 h]
 rfl
theorem waits_no {l : CD} {e : Int} (hk : ¬ endOp l < top l) : waitsE l e = false := by
 unfold waitsE
 rw [decide_eq_false hk, Bool.false_and]
theorem maxI_z {j : Nat} {R : List (List CD)} : maxI j (R.take 0) = 0 := by rw [List.take_zero]; rfl
theorem typ_v {z : Int} (h1 : -9223372036854775808 ≤ z) (h2 : z ≤ 9223372036854775807) : Typ sI (vInt .i64 z) := ⟨fun _ _ => False, _, z, rfl, rfl, by exact Bool.and_eq_true_iff.2 ⟨decide_eq_true h1, decide_eq_true h2⟩⟩
theorem max_next {R : List (List CD)} {i c : Int} (hT : Typ sVotes (mkz R)) (h0 : 0 ≤ i) (hi : i < (mkz R).len) : vInt .i64 (max c (maxI 2 (R.take (i + 1).toNat))) = if max c (maxI 2 (R.take i.toNat)) < (at' (row (mkz R) i.toNat) 2).iv then at' (row (mkz R) i.toNat) 2 else vInt .i64 (max c (maxI 2 (R.take i.toNat))) := by
 have h1 := maxI_succ (j := 2) h0 hi
 have t1 := typ_i0 (hT.cell (j := 2) h0 hi rfl)
 rw [cell_at] at t1
 rw [mkz_rows] at h1
 rw [h1]
 generalize at' (row (mkz R) i.toNat) 2 = r at t1 ⊢
 generalize maxI 2 (R.take i.toNat) = m
 split
 ·rw [show max c (max m r.iv) = r.iv by omega]
  exact t1.symm
 ·rw [show max c (max m r.iv) = max c m by omega]
def upTo (l : CD) (k : Int) : Bool := (List.range k.toNat).all fun o : Nat => decide ((o : Int) ≤ commit l) || okOp l o
theorem upTo_fold {l : CD} {k : Int} : ((List.range k.toNat).all fun o : Nat => decide ((o : Int) ≤ commit l) || okOp l o) = upTo l k := rfl
theorem upTo_succ {l : CD} {k : Int} (h0 : 0 ≤ k) : upTo l (k + 1) = (upTo l k && (decide (k ≤ commit l) || okOp l k)) := by
 unfold upTo
 rw [range_all_succ h0, Int.toNat_of_nonneg h0]
theorem upTo_low {l : CD} : upTo l (commit l + 1) = true := by
 unfold upTo
 rw [List.all_eq_true]
 intro o ho
 have := List.mem_range.1 ho
 have h0 := com_0 (l := l)
 rw [decide_eq_true (show (o : Int) ≤ commit l by omega), Bool.true_or]
theorem okA_row2 {l : CD} {i : Int} (h : okA l = true) (h0 : 0 ≤ i) (hi : i < l.len) : 0 ≤ (at' (row l i.toNat) 2).iv ∧ (at' (row l i.toNat) 2).iv ≤ 1073741824 := ⟨(okA_row h h0 hi).2.2.1, (okA_row h h0 hi).2.2.2.1⟩
theorem end_a {l op : CD} (hall : upTo l op.iv = true) (hop : Typ sI op) (hA : okA l = true) (hT : Typ sVotes l) :
  (commit l + 1 ≤ op.iv → op.iv ≤ max (commit l) (top l) → (¬ 0 ≤ view l op.iv ∨ ¬ l.rows.any (hasV op (vInt .i64 (view l op.iv))) = true) → endOp l = op.iv - 1 ∧ ∀ e, waitsE l e = decide (((l.rows.filter (denV op (vInt .i64 (view l op.iv)))).length : Int) < e)) ∧
  (op.iv = max (commit l) (top l) + 1 → endOp l = max (commit l) (top l) ∧ ∀ e, waitsE l e = false) := by
 refine ⟨fun h1 h2 h3 => ?_, fun h1 => ?_⟩
 ·have hn : okOp l op.iv = false := by
   rcases h3 with h3 | h3
   ·exact ok_neg hA hT (by omega)
   ·rw [ok_atV hop] at h3
    simpa using h3
  have h4 := many_at hall h1 (by omega) (.inr hn)
  refine ⟨h4, fun e => ?_⟩
  rw [waits_atV hop h4, decide_eq_true (show op.iv ≤ top l by omega), Bool.true_and]
 ·by_cases h2 : top l ≤ commit l
  ·have := end_low h2
   exact ⟨by omega, fun e => waits_no (by omega)⟩
  ·have := many_at hall (by omega) (by omega) (.inl (by omega))
   exact ⟨by omega, fun e => waits_no (by omega)⟩
theorem r2_min {l : CD} {i : Int} (h : okA l = true) (h0 : 0 ≤ i) (hi : i < l.len) : (at' (row l i.toNat) 2).iv = min (at' (row l i.toNat) 2).iv 1073741824 := by
 have := (okA_row2 h h0 hi).2
 omega
theorem take_mkzV {R : List (List CD)} {i : Int} (hT : Typ sVotes (mkz R)) (h : ¬ i < (mkz R).len) : R.take i.toNat = R := take_allT hT h
abbrev r77_h0 : List X := [(.ap (.typ sVotes) [(.ap (.usr 154) [(.var 0)])]), (.ap (.typ sVotes) [(.var 0)]), (.ap .le [mnX, (.var 1)]), (.ap .le [(.var 1), mxX]), (.ap .le [mnX, (.var 2)]), (.ap .le [(.var 2), mxX]), (.ap .le [(.ap .len [(.var 0)]), (I 10)]), (.ap (.usr 160) [(.var 0)]), (.ap .le [(I 0), (.var 1)]), (.ap .le [(.var 1), (I 1073741824)]), (.ap .same [(.var 1), (.ap (.usr 142) [(.var 0)])])]
abbrev r77_h1 : List X := (.ap .le [(I 0), (.var 4)]) :: (.ap .le [(.var 4), (.ap .len [(.ap (.usr 154) [(.var 0)])])]) :: (.ap .le [(.var 3), (I 1073741824)]) :: (.ap .same [(.var 3), (.ap (.usr 161) [(.ap (.usr 154) [(.var 0)]), (.var 1), (.var 4)])]) :: (.ap (.usr 160) [(.ap (.usr 154) [(.var 0)])]) :: r77_h0
abbrev r77_h2 : List X := (.ap .le [(.ap (.add .i64) [(.var 1), (I 1)]), (.var 5)]) :: (.ap .le [(.var 5), (.ap (.add .i64) [(.var 3), (I 1)])]) :: (.ap (.typ sI) [(.var 5)]) :: (.ap (.usr 149) [(.var 0), (.var 5)]) :: (.ap .not [(.ap .lt [(.var 4), (.ap .len [(.ap (.usr 154) [(.var 0)])])])]) :: r77_h1
abbrev r77_h3 : List X := (.ap .le [mnX, (.ap (.usr 156) [(.ap (.usr 154) [(.var 0)]), (.var 5)])]) :: (.ap .le [(.ap (.usr 156) [(.ap (.usr 154) [(.var 0)]), (.var 5)]), mxX]) :: (.ap .le [(.var 5), (.var 3)]) :: r77_h2
abbrev r77_h4 : List X := (.ap .le [mnX, (.ap (.usr 107) [(.var 5), (.ap (.usr 156) [(.ap (.usr 154) [(.var 0)]), (.var 5)]), (.var 0)])]) :: (.ap .le [(.ap (.usr 107) [(.var 5), (.ap (.usr 156) [(.ap (.usr 154) [(.var 0)]), (.var 5)]), (.var 0)]), mxX]) :: (.ap .not [(.ap .lt [(I 0), (.ap .len [(.ap (.usr 109) [(.var 5), (.ap (.usr 156) [(.ap (.usr 154) [(.var 0)]), (.var 5)]), (.var 0)])])])]) :: (.ap (.typ (.sl [sI])) [(.ap (.usr 109) [(.var 5), (.ap (.usr 156) [(.ap (.usr 154) [(.var 0)]), (.var 5)]), (.var 0)])]) :: (.ap .le [(I 0), (.ap (.usr 156) [(.ap (.usr 154) [(.var 0)]), (.var 5)])]) :: r77_h3
abbrev r77_h5 : List X := (.ap .le [mnX, (.ap (.usr 107) [(.var 5), (.ap (.usr 156) [(.ap (.usr 154) [(.var 0)]), (.var 5)]), (.var 0)])]) :: (.ap .le [(.ap (.usr 107) [(.var 5), (.ap (.usr 156) [(.ap (.usr 154) [(.var 0)]), (.var 5)]), (.var 0)]), mxX]) :: (.ap .not [(.ap .le [(I 0), (.ap (.usr 156) [(.ap (.usr 154) [(.var 0)]), (.var 5)])])]) :: r77_h3
def r77_v : List VC := [(r77_h0, (.ap (.usr 160) [(.ap (.usr 154) [(.var 0)])])),
 (((.ap (.usr 160) [(.ap (.usr 154) [(.var 0)])]) :: r77_h0), (.ap .same [(.var 1), (.ap (.usr 161) [(.ap (.usr 154) [(.var 0)]), (.var 1), (I 0)])])),
 (((.ap .lt [(.var 4), (.ap .len [(.ap (.usr 154) [(.var 0)])])]) :: r77_h1), (.ap .le [(.ap .ite [(.ap .lt [(.var 3), (.ap (.cell 2) [(.ap (.usr 154) [(.var 0)]), (.var 4)])]), (.ap (.cell 2) [(.ap (.usr 154) [(.var 0)]), (.var 4)]), (.var 3)]), (I 1073741824)])),
 (((.ap .lt [(.var 4), (.ap .len [(.ap (.usr 154) [(.var 0)])])]) :: r77_h1), (.ap .same [(.ap .ite [(.ap .lt [(.var 3), (.ap (.cell 2) [(.ap (.usr 154) [(.var 0)]), (.var 4)])]), (.ap (.cell 2) [(.ap (.usr 154) [(.var 0)]), (.var 4)]), (.var 3)]), (.ap (.usr 161) [(.ap (.usr 154) [(.var 0)]), (.var 1), (.ap (.add .i64) [(.var 4), (I 1)])])])),
 (((.ap .not [(.ap .lt [(.var 4), (.ap .len [(.ap (.usr 154) [(.var 0)])])])]) :: r77_h1), (.ap .le [(.ap (.add .i64) [(.var 1), (I 1)]), (.ap (.add .i64) [(.var 3), (I 1)])])),
 (((.ap .not [(.ap .lt [(.var 4), (.ap .len [(.ap (.usr 154) [(.var 0)])])])]) :: r77_h1), (.ap (.typ sI) [(.ap (.add .i64) [(.var 1), (I 1)])])),
 (((.ap .not [(.ap .lt [(.var 4), (.ap .len [(.ap (.usr 154) [(.var 0)])])])]) :: r77_h1), (.ap (.usr 149) [(.var 0), (.ap (.add .i64) [(.var 1), (I 1)])])),
 (((.ap .lt [(I 0), (.ap .len [(.ap (.usr 109) [(.var 5), (.ap (.usr 156) [(.ap (.usr 154) [(.var 0)]), (.var 5)]), (.var 0)])])]) :: (.ap (.typ (.sl [sI])) [(.ap (.usr 109) [(.var 5), (.ap (.usr 156) [(.ap (.usr 154) [(.var 0)]), (.var 5)]), (.var 0)])]) :: (.ap .le [(I 0), (.ap (.usr 156) [(.ap (.usr 154) [(.var 0)]), (.var 5)])]) :: r77_h3), (.ap (.typ sI) [(.ap (.add .i64) [(.var 5), (I 1)])])),
 (((.ap .lt [(I 0), (.ap .len [(.ap (.usr 109) [(.var 5), (.ap (.usr 156) [(.ap (.usr 154) [(.var 0)]), (.var 5)]), (.var 0)])])]) :: (.ap (.typ (.sl [sI])) [(.ap (.usr 109) [(.var 5), (.ap (.usr 156) [(.ap (.usr 154) [(.var 0)]), (.var 5)]), (.var 0)])]) :: (.ap .le [(I 0), (.ap (.usr 156) [(.ap (.usr 154) [(.var 0)]), (.var 5)])]) :: r77_h3), (.ap (.usr 149) [(.var 0), (.ap (.add .i64) [(.var 5), (I 1)])]))]
def r77_o : List (List X × List (List X)) := [(((.ap .le [(.var 2), (.ap (.usr 107) [(.var 5), (.ap (.usr 156) [(.ap (.usr 154) [(.var 0)]), (.var 5)]), (.var 0)])]) :: r77_h4), [[(.ap (.sub .i64) [(.var 5), (I 1)])], [(.lit (.bool true))]]),
 (((.ap .not [(.ap .le [(.var 2), (.ap (.usr 107) [(.var 5), (.ap (.usr 156) [(.ap (.usr 154) [(.var 0)]), (.var 5)]), (.var 0)])])]) :: r77_h4), [[(I 0)], [(.lit (.bool false))]]),
 (((.ap .le [(.var 2), (.ap (.usr 107) [(.var 5), (.ap (.usr 156) [(.ap (.usr 154) [(.var 0)]), (.var 5)]), (.var 0)])]) :: r77_h5), [[(.ap (.sub .i64) [(.var 5), (I 1)])], [(.lit (.bool true))]]),
 (((.ap .not [(.ap .le [(.var 2), (.ap (.usr 107) [(.var 5), (.ap (.usr 156) [(.ap (.usr 154) [(.var 0)]), (.var 5)]), (.var 0)])])]) :: r77_h5), [[(I 0)], [(.lit (.bool false))]]),
 (((.ap .not [(.ap .le [(.var 5), (.var 3)])]) :: r77_h2), [[(.var 3)], [(.lit (.bool true))]])]
theorem r77_eq : runS Try.prog (specO (tab T5)) 10 12 ⟨hintL [(4, lp77a), (8, lp77b)], hintA [(2, fun F H => [.ap (.usr 160) [sx F 8]])]⟩ Try.f77 (bodyOf Try.f77) SEnd = some (r77_v, r77_o) := by kernel_rfl
set_option maxHeartbeats 4000000 in
set_option maxRecDepth 100000 in
theorem c77 : SpecOK U Try.prog 77 SEnd := by
 refine SpecOK.of (P := Try.prog) (U := U) (T := (tab T5)) (f := 77) (fn := Try.f77) (fuel := 10) (fk := 12) (hs := ⟨hintL [(4, lp77a), (8, lp77b)], hintA [(2, fun F H => [.ap (.usr 160) [sx F 8]])]⟩) (S := SEnd) (v := r77_v) (outs := r77_o) mixed hT5 at77 r77_eq ?_ ?_
 ·unfold r77_v
  repeat' (first | exact vcs_nil _ | refine vcs_cons (fun v hh => ?_) ?_)
  all_goals
   simp only [w_var, w_lit, w_ivi, w_bvb, w_add, w_sub, b_lt, b_le, b_not, b_typ, b_same, w_ite, w_len, w_cell, w_usr, w_l0, w_l1, w_vint, w_vbool, w_tru, w_holds0, w_holds1, w_rows, w_nilb, us107, us109, us142, us149, us154, us156, us160, us161, us162, us163, us149, mnX, mxX, cell_at, l1_inj, vInt_inj, mkz_rows, vInt_iv, has_pos, view_fold, top_fold, tn0, maxI_z, vi_lit, vb_lit, upTo_fold, r77_h0, r77_h1, r77_h2, r77_h3, r77_h4, r77_h5] at hh ⊢
   repeat (obtain ⟨_, hh⟩ := hh)
   try (first | grind [take_allT, okA_mkz, com_le, com_0, top_le, = r2_min, upTo_succ, upTo_low, max_next, take_mkzV, top_fold, → end_a, typ_v, → ok_atF, = w_vint])
 ·intro o ho σ hU hh
  obtain ⟨v⟩ := σ
  cases hU
  simp only [r77_o, List.mem_cons, List.not_mem_nil, or_false] at ho
  repeat' (first | (rcases ho with rfl | ho) | subst ho)
  all_goals
   refine ⟨_, List.mem_cons_self .., by simp only [w_var, w_lit, w_ivi, w_bvb, w_add, w_sub, b_lt, b_le, b_not, b_typ, b_same, w_ite, w_len, w_cell, w_usr, w_l0, w_l1, w_vint, w_vbool, w_tru, w_holds0, w_holds1, w_rows, w_nilb], ?_⟩
   simp only [w_var, w_lit, w_ivi, w_bvb, w_add, w_sub, b_lt, b_le, b_not, b_typ, b_same, w_ite, w_len, w_cell, w_usr, w_l0, w_l1, w_vint, w_vbool, w_tru, w_holds0, w_holds1, w_rows, w_nilb, us107, us109, us142, us149, us154, us156, us160, us161, us162, us163, us149, mnX, mxX, cell_at, l1_inj, vInt_inj, mkz_rows, vInt_iv, has_pos, view_fold, top_fold, tn0, maxI_z, vi_lit, vb_lit, upTo_fold, r77_h0, r77_h1, r77_h2, r77_h3, r77_h4, r77_h5] at hh
   simp only [List.map_cons, List.map_nil, w_var, w_lit, w_ivi, w_bvb, w_add, w_sub, b_lt, b_le, b_not, b_typ, b_same, w_ite, w_len, w_cell, w_usr, w_l0, w_l1, w_vint, w_vbool, w_tru, w_holds0, w_holds1, w_rows, w_nilb, w_lt, w_le, w_not, w_same, w_typ, us107, us109, us142, us149, us154, us156, us160, us161, us162, us163, us149, mnX, mxX, cell_at, l1_inj, vInt_inj, mkz_rows, vInt_iv, has_pos, view_fold, top_fold, tn0, maxI_z, vi_lit, vb_lit, upTo_fold]
   repeat (obtain ⟨_, hh⟩ := hh)
   try (first | grind [take_allT, okA_mkz, com_le, com_0, top_le, = r2_min, upTo_succ, upTo_low, max_next, take_mkzV, top_fold, → end_a, typ_v, → ok_atF, = w_vint])
end Go.Proofs.Ytlbbkmcegbeckaa.Cn
