/-
  Contracts of a chapter's functions: the log that is chosen, by the program. Conditions: none.
  Votes in memory of their own say the same. Plain Lean. Conditions: none.
-/
import Derived.Test.YtlbbkmcegbeckaaSnI
import Derived.Test.YtlbbkmcegbeckaaSnJ
set_option linter.unusedSectionVars false
set_option linter.unusedVariables false
set_option linter.unusedSimpArgs false
namespace Go.Proofs.Ytlbbkmcegbeckaa.Cn
open Go.Sx Go.Proofs
noncomputable def T7 : List (FuncId × Fsp) := [(34, SCheck), (71, Sen), (40, SHas), (37, SDen), (117, SCmpV)]
set_option maxRecDepth 100000 in
theorem hT7 : TabOK U Try.prog T7 := .cons c34 (.cons c71 (.cons c40 (.cons c37 (.cons c117 .nil))))
noncomputable def mapX (F : Fm) (H : HP) (t : Nat) : X := match F.get t with
 | some (.one (.mp b)) => match mxAt H b with
  | some (_, _, _, e, _) => e
  | none => nilE false
 | _ => nilE false
noncomputable def sortFx : X → X → List X := fun x e => [.ap (.usr 171) [x, e]]
theorem hSortFx : SortFx U sortFx := by
 intro σ hU x e h1 h2 y hy
 rw [List.mem_singleton.1 hy]
 show (@Us.u σ.toUs 171 [@den σ x, @den σ e]).bv = true
 rw [hU, us171]
 exact ⟨h1, h2⟩
noncomputable def oSort : OraV := sortV 73 74 sortFx
theorem hSort : OraVOK U Try.prog oSort := sortV_ok sorts73 hSortFx
noncomputable def lp116 : Lp := ⟨[(.cell 5 1, .int .i64), (.slot 6, .int .i64), (.cell 5 0, .int .i64), (.cell 5 2, .int .i64), (.cell 5 3, .int .i64), (.cell 5 4, .val (.sl sEnt))], [0, 1, 4], [0], fun F H k => [.ap .le [I 1, .var (k+1)], .ap .le [.var (k+1), .ap .len [.var 0]], .ap .same [.var k, .ap (.usr 141) [.var 0, .var (k+1)]]], fun F H k => .ap (.sub .i64) [.ap .len [.var 0], .var (k+1)]⟩
noncomputable def lp72a : Lp := ⟨[(.slot 6, .int .i64), (.slot 19, .int .i64), (.slot 5, .map [sI] false [sI])], [0, 4, 17, 18], [], fun F H k => [.ap .le [zI, .var (k+1)], .ap .le [.var (k+1), .ap .len [.var 0]], .ap .same [.var k, .ap (.usr 145) [.var 0, .var (k+1), sx F 4]], .ap (.usr 146) [.var 0, .var (k+1), sx F 4, .var (k+2)], .ap .le [.ap .rlen [.var (k+2)], .ap (.mul .i64) [I 80, .var (k+1)]]], fun F H k => .ap (.sub .i64) [.ap .len [.var 0], .var (k+1)]⟩
noncomputable def lp72b : Lp := ⟨[(.slot 34, .int .i64), (.slot 5, .map [sI] false [sI])], [0, 4, 6, 17, 18, 19, 32, 33], [], fun F H k => [.ap .le [zI, .var k], .ap .le [.var k, .ap .len [.ap (.cell 4) [.var 0, sx F 19]]], .ap (.usr 147) [.var 0, sx F 19, sx F 4, .var (k+1), .var k], .ap .le [.ap .rlen [.var (k+1)], .ap (.add .i64) [.ap (.mul .i64) [I 80, sx F 19], .var k]]], fun F H k => .ap (.sub .i64) [.ap .len [.ap (.cell 4) [.var 0, sx F 19]], .var k]⟩
noncomputable def inlViews : List (FuncId × Inl) := [(72, ⟨Try.f72, ⟨hintL [(4, lp72a), (9, lp72b)], hintA [(2, fun F H => [.ap .same [sx F 4, .ap (.usr 140) [.var 0]]]), (16, fun F H => [.ap (.usr 148) [.var 0, mapX F H 5], .ap .le [.ap .rlen [mapX F H 5], I 800], .ap .same [sx F 6, .ap (.usr 144) [.var 0]]])]⟩⟩), (116, ⟨Try.f116, ⟨hintL [(5, lp116)], hintA []⟩⟩)]
set_option maxRecDepth 100000 in
theorem hInlViews : InlsOK U Try.prog inlViews := .cons (.of at72 (by kernel_rfl)) (.cons (.of at116 (by kernel_rfl)) .nil)
noncomputable def lp32a : Lp := ⟨[(.slot 44, .int .i64), (.cell 11 1, .int .i64)], [0, 1, 4, 5, 7, 9, 10, 11, 42, 43], [], fun F H k => [.ap .le [zI, .var k], .ap .le [.var k, .ap .len [.var 0]], .ap .le [zI, .var (k+1)], .ap .le [.var (k+1), capI], .ap .same [.var (k+1), .ap (.usr 143) [.var 0, .var k]]], fun F H k => .ap (.sub .i64) [.ap .len [.var 0], .var k]⟩
noncomputable def lp32b : Lp := ⟨[(.slot 14, .int .i64), (.cell 11 0, .int .i64)], [0, 1, 4, 5, 7, 9, 10, 11], [], fun F H k => [.ap (.typ sI) [.var k], .ap .le [.ap (.add .i64) [.ap (.usr 142) [.var 0], I 1], .var k], .ap .or [.ap .le [.var k, .ap (.add .i64) [.ap (.usr 144) [.var 0], I 1]], .ap .le [.var k, .ap (.add .i64) [.ap (.usr 142) [.var 0], I 1]]], .ap (.usr 149) [.var 0, .var k], .ap .same [.var (k+1), .ap (.sub .i64) [.var k, I 1]], .ap .le [I 1, .var k], .ap .le [.var k, I 1073741825]], fun F H k => .ap (.sub .i64) [I 1073741826, .var k]⟩
noncomputable def lp32c : Lp := ⟨[(.slot 92, .iter), (.cell 11 2, .own true sHead)], [0, 1, 4, 5, 9, 11], [], fun F H k => [.ap .le [zI, .var (k+1)], .ap .le [.var (k+1), .ap .rlen [.var (k+2)]], .ap .le [.ap .rlen [.var (k+2)], .var (k+1)], .ap .le [.var (k+1), I 800], .ap (.usr 170) [mapX F H 9, .var k, .var (k+2), cellX F H 11 0]], fun F H k => .ap (.usr 172) [mapX F H 9, .var k]⟩
theorem cmpI_pos {a b : Int} : (0 < cmpI a b) = (b < a) := by
 unfold cmpI
 rw [eq_iff_iff]
 split
 ·constructor
  ·intro h; omega
  ·intro h; omega
 ·split
  ·constructor
   ·intro _; assumption
   ·intro _; omega
  ·constructor
   ·intro h; omega
   ·intro h; omega
theorem tn1 : Int.toNat 1 = 1 := rfl
theorem enough_2 {l n : CD} (h : okVs l n = true) : 2 ≤ enough n := by
 unfold okVs at h
 rw [Bool.and_eq_true] at h
 rcases okN_iv h.1 with ⟨_, h1⟩ | ⟨_, h1⟩ | ⟨_, h1⟩ <;> omega
theorem max1_next {l : CD} {i : Int} (hT : Typ sVotes l) (h0 : 0 ≤ i) (hi : i < l.len) : vInt .i64 (maxI 1 (l.rows.take (i + 1).toNat)) = if maxI 1 (l.rows.take i.toNat) < (at' (row l i.toNat) 1).iv then at' (row l i.toNat) 1 else vInt .i64 (maxI 1 (l.rows.take i.toNat)) := by
 have h1 := maxI_succ (j := 1) h0 hi
 have t1 := typ_i0 (hT.cell (j := 1) h0 hi rfl)
 rw [cell_at] at t1
 rw [h1]
 generalize at' (row l i.toNat) 1 = r at t1 ⊢
 generalize maxI 1 (l.rows.take i.toNat) = m
 split
 ·rw [show max m r.iv = r.iv by omega]
  exact t1.symm
 ·rw [show max m r.iv = m by omega]
theorem lead_1 {l : CD} (hT : Typ sVotes l) (hA : okA l = true) (h1 : 1 ≤ (l.len : Int)) : at' (row l 0) 1 = vInt .i64 (maxI 1 (l.rows.take 1)) := by
 have h2 := max1_next (i := 0) hT (Int.le_refl _) (by omega)
 have h3 := (okA_row hA (i := 0) (Int.le_refl _) (by omega)).1
 have t1 := typ_i0 (hT.cell (i := 0) (j := 1) (Int.le_refl _) (by omega) rfl)
 rw [cell_at] at t1
 have e1 : ((0 : Int) + 1).toNat = 1 := rfl
 have e2 : (0 : Int).toNat = 0 := rfl
 rw [e1, e2, maxI_z] at h2
 rw [e2] at h3 t1
 rw [h2]
 split
 ·rfl
 ·rw [t1, show (at' (row l 0) 1).iv = 0 by omega]
  rfl
theorem lead_up {l m : CD} {i : Int} (hm : m = vInt .i64 (maxI 1 (l.rows.take i.toNat))) (hT : Typ sVotes l) (h0 : 1 ≤ i) (hi : i < l.len) (hc : m.iv < (at' (row l i.toNat) 1).iv) : at' (row l i.toNat) 1 = vInt .i64 (maxI 1 (l.rows.take (i + 1).toNat)) := by
 have h2 := max1_next hT (show 0 ≤ i by omega) hi
 rw [hm, w_vint] at hc
 rw [h2, if_pos hc]
theorem lead_st {l m : CD} {i : Int} (hT : Typ sVotes l) (h0 : 1 ≤ i) (hi : i < l.len) (hm : m = vInt .i64 (maxI 1 (l.rows.take i.toNat))) (hc : ¬ m.iv < (at' (row l i.toNat) 1).iv) : m = vInt .i64 (maxI 1 (l.rows.take (i + 1).toNat)) := by
 have h2 := max1_next hT (show 0 ≤ i by omega) hi
 rw [hm, w_vint] at hc
 rw [h2, if_neg hc, hm]
theorem lead_end {l m : CD} {i : Int} (hm : m = vInt .i64 (maxI 1 (l.rows.take i.toNat))) (hT : Typ sVotes l) (hi : ¬ i < l.len) : m = vInt .i64 (lead l) := by
 rw [hm, take_allT hT hi]
 rfl
theorem top_0 {R : List (List CD)} {m : Int} : maxI 2 (leadsR (List.take 0 R) m) = 0 := by rw [List.take_zero]; rfl
theorem mapA_00 {l : CD} {m : Int} : MapOK (fun op => viewL op (-1) (leadsR (List.take 0 l.rows) m)) [] := mapA_0
theorem mapB_00 {l : CD} {i m : Int} {e es : List (List CD)} (h : mapA l i m e) : MapOK (fun op => viewE op (viewL op (-1) (leadsR (l.rows.take i.toNat) m)) (List.take 0 es)) e := MapOK.congr h fun k => by rw [List.take_zero]; rfl
theorem lead_eq {l M : CD} {i z : Int} (hT : Typ sVotes l) (hM : M = vInt .i64 z) (h0 : 0 ≤ i) (hi : i < l.len) : (eqC (at' (row l i.toNat) 1) M = true) = ((at' (row l i.toNat) 1).iv = M.iv) := by
 obtain ⟨n, hn⟩ := typ_int (hT.cell (j := 1) h0 hi rfl)
 rw [cell_at] at hn
 rw [hn, hM]
 exact eqC_int
theorem top_skip {l M t : CD} {i z : Int} (hT : Typ sVotes l) (hM : M = vInt .i64 z) (h0 : 0 ≤ i) (hi : i < l.len) (hne : ¬ eqC (at' (row l i.toNat) 1) M = true) (ht : t = vInt .i64 (maxI 2 (leadsR (l.rows.take i.toNat) M.iv))) : t = vInt .i64 (maxI 2 (leadsR (l.rows.take (i + 1).toNat) M.iv)) := by
 rw [lead_eq hT hM h0 hi] at hne
 rw [take_row h0 hi, leads_snoc, if_neg hne, List.append_nil, ht]
theorem top_take {l M t : CD} {i z : Int} (hT : Typ sVotes l) (hM : M = vInt .i64 z) (h0 : 0 ≤ i) (hi : i < l.len) (he : eqC (at' (row l i.toNat) 1) M = true) (ht : t = vInt .i64 (maxI 2 (leadsR (l.rows.take i.toNat) M.iv))) : (if t.iv < (at' (row l i.toNat) 2).iv then at' (row l i.toNat) 2 else t) = vInt .i64 (maxI 2 (leadsR (l.rows.take (i + 1).toNat) M.iv)) := by
 rw [lead_eq hT hM h0 hi] at he
 have t1 := typ_i0 (hT.cell (j := 2) h0 hi rfl)
 rw [cell_at] at t1
 rw [take_row h0 hi, leads_snoc, if_pos he, maxI_snoc, ht, w_vint]
 generalize at' (row l i.toNat) 2 = r at t1 ⊢
 generalize maxI 2 (leadsR (l.rows.take i.toNat) M.iv) = m
 split
 ·rw [show max m r.iv = r.iv by omega]
  exact t1
 ·rw [show max m r.iv = m by omega]
theorem mapA_sk {l M : CD} {i z : Int} {e : List (List CD)} (hT : Typ sVotes l) (hM : M = vInt .i64 z) (h0 : 0 ≤ i) (hi : i < l.len) (hne : ¬ eqC (at' (row l i.toNat) 1) M = true) (h : mapA l i M.iv e) : mapA l (i + 1) M.iv e := by
 rw [lead_eq hT hM h0 hi] at hne
 exact mapA_skip h h0 hi hne
theorem mapB_en {l M : CD} {i k z : Int} {e : List (List CD)} (hT : Typ sVotes l) (hM : M = vInt .i64 z) (h0 : 0 ≤ i) (hi : i < l.len) (he : eqC (at' (row l i.toNat) 1) M = true) (hk : ¬ k < (at' (row l i.toNat) 4).len) (h : mapB l i M.iv k e) : mapA l (i + 1) M.iv e := by
 rw [lead_eq hT hM h0 hi] at he
 exact mapB_end h hT h0 hi hk he
theorem mapA_en {l M : CD} {i : Int} {e : List (List CD)} (h : mapA l i M.iv e) (hT : Typ sVotes l) (hM : M = vInt .i64 (lead l)) (hi : ¬ i < l.len) : mapV l e := by
 rw [hM, w_vint] at h
 exact mapA_end h hT hi
theorem top_en {l M t : CD} {i : Int} (ht : t = vInt .i64 (maxI 2 (leadsR (l.rows.take i.toNat) M.iv))) (hT : Typ sVotes l) (hM : M = vInt .i64 (lead l)) (hi : ¬ i < l.len) : t = vInt .i64 (top l) := by
 rw [ht, hM, w_vint, take_allT hT hi]
 rfl
theorem mapB_p1 {l : CD} {i m k : Int} {e : List (List CD)} {c : CD} (h : mapB l i m k e) (hT : Typ sVotes l) (hA : okA l = true) (h0 : 0 ≤ i) (hi : i < l.len) (k0 : 0 ≤ k) (hk : k < (at' (row l i.toNat) 4).len) (hs : ¬ eqC (at' (row (at' (row l i.toNat) 4) k.toNat) 2) (vInt .i64 3) = true) (hh : ¬ mHas (at' (row (at' (row l i.toNat) 4) k.toNat) 0) e = true) :
  mapB l i m (k + 1) (mPut (at' (row (at' (row l i.toNat) 4) k.toNat) 0) [at' (row (at' (row l i.toNat) 4) k.toNat) 1] c e) := (mapB_next h hT hA h0 hi k0 hk).2 hs (.inl hh)
theorem mapB_p2 {l : CD} {i m k : Int} {e : List (List CD)} {c : CD} (h : mapB l i m k e) (hT : Typ sVotes l) (hA : okA l = true) (h0 : 0 ≤ i) (hi : i < l.len) (k0 : 0 ≤ k) (hk : k < (at' (row l i.toNat) 4).len) (hs : ¬ eqC (at' (row (at' (row l i.toNat) 4) k.toNat) 2) (vInt .i64 3) = true) (hh : mHas (at' (row (at' (row l i.toNat) 4) k.toNat) 0) e = true) (hg : (mGet 1 (at' (row (at' (row l i.toNat) 4) k.toNat) 0) (vInt .i64 0) e).iv < (at' (row (at' (row l i.toNat) 4) k.toNat) 1).iv) :
  mapB l i m (k + 1) (mPut (at' (row (at' (row l i.toNat) 4) k.toNat) 0) [at' (row (at' (row l i.toNat) 4) k.toNat) 1] c e) := (mapB_next h hT hA h0 hi k0 hk).2 hs (.inr ⟨_, hg, hh⟩)
theorem mapB_k1 {l : CD} {i m k : Int} {e : List (List CD)} (h : mapB l i m k e) (hT : Typ sVotes l) (hA : okA l = true) (h0 : 0 ≤ i) (hi : i < l.len) (k0 : 0 ≤ k) (hk : k < (at' (row l i.toNat) 4).len) (hh : mHas (at' (row (at' (row l i.toNat) 4) k.toNat) 0) e = true) (hg : ¬ (mGet 1 (at' (row (at' (row l i.toNat) 4) k.toNat) 0) (vInt .i64 0) e).iv < (at' (row (at' (row l i.toNat) 4) k.toNat) 1).iv) : mapB l i m (k + 1) e :=
 (mapB_next (c := vInt .i64 0) h hT hA h0 hi k0 hk).1 (.inr ⟨hh, fun z => by
  have e1 : ∀ z, mGet 1 (at' (row (at' (row l i.toNat) 4) k.toNat) 0) z e = i0 (fB l i m k (at' (row (at' (row l i.toNat) 4) k.toNat) 0).iv) := fun z => by
   have t0 := typ_i0 (ent_typ (j := 0) hT h0 hi k0 hk (by omega))
   rw [t0] at hh ⊢
   exact map_get h.rows hh
  rw [e1] at hg ⊢
  exact hg⟩)
theorem mapB_k2 {l : CD} {i m k : Int} {e : List (List CD)} (h : mapB l i m k e) (hT : Typ sVotes l) (hA : okA l = true) (h0 : 0 ≤ i) (hi : i < l.len) (k0 : 0 ≤ k) (hk : k < (at' (row l i.toNat) 4).len) (hs : eqC (at' (row (at' (row l i.toNat) 4) k.toNat) 2) (vInt .i64 3) = true) : mapB l i m (k + 1) e := (mapB_next (c := vInt .i64 0) h hT hA h0 hi k0 hk).1 (.inl hs)
theorem put_le {k c : CD} {vs : List CD} {e : List (List CD)} {b : Int} (h : (e.length : Int) + 1 ≤ b) : ((mPut k vs c e).length : Int) ≤ b := by
 have := mPut_len (k := k) (c := c) (vs := vs) (e := e)
 omega
theorem told_n {l e s : CD} {c i : Int} (hM : MOk e.rows c) (hV : mapV l e.rows) (h0 : 0 ≤ i) (hi : i < e.rows.length) (hn : ¬ mIn (at' (row e i.toNat) 2) s.rows = true) : (untold (s.rows ++ [[at' (row e i.toNat) 2]]) e.rows : Int) < untold s.rows e.rows := by
 have := (told_next (m := 0) hM hV h0 hi hn).2.2
 omega
theorem told_y {l e s : CD} {c m i : Int} {h : List (List CD)} (hM : MOk e.rows c) (hV : mapV l e.rows) (h0 : 0 ≤ i) (hi : i < e.rows.length) (hn : ¬ mIn (at' (row e i.toNat) 2) s.rows = true) (hp : List.Perm h (toldR s.rows e.rows m)) (hm : (at' (row e i.toNat) 0).iv ≤ m) : List.Perm (h ++ [[at' (row e i.toNat) 0, at' (row e i.toNat) 1]]) (toldR (s.rows ++ [[at' (row e i.toNat) 2]]) e.rows m) := (told_next (m := m) hM hV h0 hi hn).1 h hp hm
theorem told_s {l e s : CD} {c m i : Int} {h : List (List CD)} (hM : MOk e.rows c) (hV : mapV l e.rows) (h0 : 0 ≤ i) (hi : i < e.rows.length) (hn : ¬ mIn (at' (row e i.toNat) 2) s.rows = true) (hp : List.Perm h (toldR s.rows e.rows m)) (hm : ¬ (at' (row e i.toNat) 0).iv ≤ m) : List.Perm h (toldR (s.rows ++ [[at' (row e i.toNat) 2]]) e.rows m) := (told_next (m := m) hM hV h0 hi hn).2.1 h hp hm
theorem told_len {e s h : List (List CD)} {m : Int} (hp : List.Perm h (toldR s e m)) : h.length ≤ e.length := by
 rw [hp.length_eq]
 unfold toldR
 rw [List.length_map]
 exact List.length_filter_le _ _
theorem told_le {l e s : CD} {c m i a b : Int} {h : List (List CD)} (hn : ¬ mIn (at' (row e i.toNat) 2) s.rows = true) (hM : MOk e.rows c) (hV : mapV l e.rows) (h0 : 0 ≤ i) (hi : i < e.rows.length) (hp : List.Perm h (toldR s.rows e.rows m)) (hm : (at' (row e i.toNat) 0).iv ≤ m) (ha : a ≤ h.length) (hb : (e.rows.length : Int) ≤ b) : a + 1 ≤ b := by
 have := told_len (told_y hM hV h0 hi hn hp hm)
 rw [List.length_append] at this
 simp only [List.length_cons, List.length_nil] at this
 omega
theorem told_z {e : List (List CD)} {m : Int} : List.Perm [] (toldR [] e m) := by
 rw [told_none]
theorem typ_back {d : CD} (h : Typ sI d) : d = vInt .i64 (d.iv + 1 - 1) := by
 obtain ⟨n, rfl⟩ := typ_int h
 show CD.v (.int .i64 n) = CD.v (.int .i64 (n + 1 - 1))
 rw [show n + 1 - 1 = n by omega]
theorem top_min {l : CD} (h : okA l = true) : top l = min (top l) 1073741824 := by
 have := top_le h
 omega
theorem com_min {l : CD} (h : okA l = true) : commit l = max 0 (min (commit l) 1073741824) := by
 have := com_le h
 have := com_0 (l := l)
 omega
theorem small_min {l : CD} {i : Int} (h : ¬ large l = true) (h0 : 0 ≤ i) (hi : i < l.len) : (at' (row l i.toNat) 4).len = min (at' (row l i.toNat) 4).len 80 := by
 have := small_row h h0 hi
 omega
theorem res_ok {l n a b : CD} {R : List (List CD)} (ha : a = vInt .i64 (endOp l)) (hb : b = vInt .i64 (commit l)) (hk : okVs l n = true) (hl : ¬ (l.len : Int) < enough n) (hw : ¬ waitsE l (enough n) = true) (hR : R = heads l) : [[vInt .i64 (if errOf l n = 0 then endOp l else 0), vInt .i64 (if errOf l n = 0 then commit l else 0), mkz (if errOf l n = 0 then heads l else [])], [vInt .i64 (errOf l n)]] = [[a, b, mkz R], [vInt .i64 0]] := by
 have e0 : errOf l n = 0 := by
  unfold errOf waits
  rw [if_pos hk, if_neg hl, if_neg hw]
 rw [e0, if_pos rfl, if_pos rfl, if_pos rfl, ha, hb, hR]
theorem res_s {l n a b e : CD} {X Y s : List (List CD)} (ha : a = vInt .i64 (endOp l)) (hb : b = vInt .i64 (commit l)) (hk : okVs l n = true) (hl : ¬ (l.len : Int) < enough n) (hw : ¬ waitsE l (enough n) = true) (hX : List.Perm X Y ∧ RowsUp X) (hY : List.Perm Y (toldR s e.rows a.iv)) (hall : (e.rows.all fun r => mIn (bornOf r) s) = true) (hV : mapV l e.rows) : [[vInt .i64 (if errOf l n = 0 then endOp l else 0), vInt .i64 (if errOf l n = 0 then commit l else 0), mkz (if errOf l n = 0 then heads l else [])], [vInt .i64 (errOf l n)]] = [[a, b, mkz X], [vInt .i64 0]] := by
 refine res_ok ha hb hk hl hw ?_
 rw [ha, w_vint] at hY
 exact heads_sorted (okA_vs hk) hV hall hY hX.1 hX.2
theorem res_n {l n a b e : CD} {Y s : List (List CD)} {m : Int} (ha : a = vInt .i64 (endOp l)) (hb : b = vInt .i64 (commit l)) (hk : okVs l n = true) (hl : ¬ (l.len : Int) < enough n) (hw : ¬ waitsE l (enough n) = true) (hY : List.Perm Y (toldR s e.rows a.iv)) (hm : (Y.length : Int) ≤ m) (hn : m ≤ 0) (hall : (e.rows.all fun r => mIn (bornOf r) s) = true) (hV : mapV l e.rows) : [[vInt .i64 (if errOf l n = 0 then endOp l else 0), vInt .i64 (if errOf l n = 0 then commit l else 0), mkz (if errOf l n = 0 then heads l else [])], [vInt .i64 (errOf l n)]] = [[a, b, mkz Y], [vInt .i64 0]] := by
 refine res_ok ha hb hk hl hw ?_
 rw [ha, w_vint] at hY
 exact heads_none (okA_vs hk) hV hall hY (by omega)
theorem op_end {l op : CD} (hall : upTo l op.iv = true) (hop : Typ sI op) (hA : okA l = true) (hT : Typ sVotes l) (h1 : commit l + 1 ≤ op.iv) (h2 : op.iv ≤ top l) (h3 : ¬ l.rows.any (hasV op (vInt .i64 (view l op.iv))) = true) : endOp l = op.iv - 1 ∧ ∀ e, waitsE l e = decide (((l.rows.filter (denV op (vInt .i64 (view l op.iv)))).length : Int) < e) :=
 (end_a hall hop hA hT).1 h1 (by omega) (.inr h3)
theorem op_all {l op : CD} (hall : upTo l op.iv = true) (hop : Typ sI op) (hA : okA l = true) (hT : Typ sVotes l) (h1 : commit l + 1 ≤ op.iv) (h2 : ¬ op.iv ≤ top l) (h3 : op.iv ≤ top l + 1 ∨ op.iv ≤ commit l + 1) : endOp l = op.iv - 1 ∧ ∀ e, waitsE l e = false := by
 obtain ⟨a, b⟩ := (end_a hall hop hA hT).2 (by omega)
 exact ⟨by omega, b⟩
abbrev r32_h0 : List X := [(.ap .le [mnX, (.ap (.usr 123) [(.var 0), (.var 1)])]), (.ap .le [(.ap (.usr 123) [(.var 0), (.var 1)]), mxX]), (.ap (.typ sVotes) [(.var 0)]), (.ap .le [mnX, (.var 1)]), (.ap .le [(.var 1), mxX]), (.ap .le [(.ap .len [(.var 0)]), (I 10)]), (.ap .not [(.ap (.usr 119) [(.var 0)])])]
abbrev r32_h1 : List X := (.ap .le [mnX, (.ap (.usr 113) [(.var 1)])]) :: (.ap .le [(.ap (.usr 113) [(.var 1)]), mxX]) :: (.ap .le [mnX, (.ap (.usr 111) [(.var 1)])]) :: (.ap .le [(.ap (.usr 111) [(.var 1)]), mxX]) :: (.ap .eq [(.ap (.usr 123) [(.var 0), (.var 1)]), (I 0)]) :: r32_h0
abbrev r32_h2 : List X := (.ap (.usr 160) [(.var 0)]) :: (.ap .le [(I 1), (.ap .len [(.var 0)])]) :: (.ap .not [(.ap .lt [(.ap .len [(.var 0)]), (.ap (.usr 113) [(.var 1)])])]) :: r32_h1
abbrev r32_h3 : List X := (.ap .le [(I 1), (.var 3)]) :: (.ap .le [(.var 3), (.ap .len [(.var 0)])]) :: (.ap .same [(.var 2), (.ap (.usr 141) [(.var 0), (.var 3)])]) :: r32_h2
abbrev r32_h4 : List X := (.ap .le [(I 0), (.var 9)]) :: (.ap .le [(.var 9), (.ap .len [(.var 0)])]) :: (.ap .same [(.var 8), (.ap (.usr 145) [(.var 0), (.var 9), (.var 2)])]) :: (.ap (.usr 146) [(.var 0), (.var 9), (.var 2), (.var 10)]) :: (.ap .le [(.ap .rlen [(.var 10)]), (.ap (.mul .i64) [(I 80), (.var 9)])]) :: (.ap .same [(.var 2), (.ap (.usr 140) [(.var 0)])]) :: (.ap .not [(.ap .lt [(.var 3), (.ap .len [(.var 0)])])]) :: r32_h3
abbrev r32_h5 : List X := (.ap .le [(I 0), (.var 12)]) :: (.ap .le [(.var 12), (.ap .len [(.ap (.cell 4) [(.var 0), (.var 9)])])]) :: (.ap (.usr 147) [(.var 0), (.var 9), (.var 2), (.var 13), (.var 12)]) :: (.ap .le [(.ap .rlen [(.var 13)]), (.ap (.add .i64) [(.ap (.mul .i64) [(I 80), (.var 9)]), (.var 12)])]) :: (.ap .eq [(.ap (.cell 1) [(.var 0), (.var 9)]), (.var 2)]) :: (.ap .lt [(.var 9), (.ap .len [(.var 0)])]) :: r32_h4
abbrev r32_h6 : List X := (.ap .mhas [(.var 13), (.ap (.cell 0) [(.ap (.cell 4) [(.var 0), (.var 9)]), (.var 12)])]) :: (.ap .not [(.ap .eq [(.ap (.cell 2) [(.ap (.cell 4) [(.var 0), (.var 9)]), (.var 12)]), (I 3)])]) :: (.ap .lt [(.var 12), (.ap .len [(.ap (.cell 4) [(.var 0), (.var 9)])])]) :: r32_h5
abbrev r32_h7 : List X := (.ap (.usr 148) [(.var 0), (.var 10)]) :: (.ap .le [(.ap .rlen [(.var 10)]), (I 800)]) :: (.ap .same [(.var 8), (.ap (.usr 144) [(.var 0)])]) :: (.ap .not [(.ap .lt [(.var 9), (.ap .len [(.var 0)])])]) :: r32_h4
abbrev r32_h8 : List X := (.ap .le [(I 0), (.var 12)]) :: (.ap .le [(.var 12), (.ap .len [(.var 0)])]) :: (.ap .le [(I 0), (.var 13)]) :: (.ap .le [(.var 13), (I 1073741824)]) :: (.ap .same [(.var 13), (.ap (.usr 143) [(.var 0), (.var 12)])]) :: r32_h7
abbrev r32_h9 : List X := (.ap (.typ sI) [(.var 14)]) :: (.ap .le [(.ap (.add .i64) [(.ap (.usr 142) [(.var 0)]), (I 1)]), (.var 14)]) :: (.ap .or [(.ap .le [(.var 14), (.ap (.add .i64) [(.ap (.usr 144) [(.var 0)]), (I 1)])]), (.ap .le [(.var 14), (.ap (.add .i64) [(.ap (.usr 142) [(.var 0)]), (I 1)])])]) :: (.ap (.usr 149) [(.var 0), (.var 14)]) :: (.ap .same [(.var 15), (.ap (.sub .i64) [(.var 14), (I 1)])]) :: (.ap .le [(I 1), (.var 14)]) :: (.ap .le [(.var 14), (I 1073741825)]) :: (.ap .same [(.var 13), (.ap (.usr 142) [(.var 0)])]) :: (.ap .not [(.ap .lt [(.var 12), (.ap .len [(.var 0)])])]) :: r32_h8
abbrev r32_h10 : List X := (.ap (.typ (.sl [sI])) [(.ap (.usr 109) [(.var 14), (I (-1)), (.var 0)])]) :: (.ap .not [(.ap .mhas [(.var 10), (.var 14)])]) :: (.ap .le [(.var 14), (.var 8)]) :: r32_h9
abbrev r32_h11 : List X := (.ap .le [mnX, (.ap (.usr 107) [(.var 14), (I (-1)), (.var 0)])]) :: (.ap .le [(.ap (.usr 107) [(.var 14), (I (-1)), (.var 0)]), mxX]) :: (.ap .not [(.ap .lt [(I 0), (.ap .len [(.ap (.usr 109) [(.var 14), (I (-1)), (.var 0)])])])]) :: r32_h10
abbrev r32_h12 : List X := (.ap .mok [(.var 10), (.var 11)]) :: (.ap .same [(.var 15), (.ap (.usr 163) [(.var 0)])]) :: (.ap .not [(.ap (.usr 162) [(.var 0), (.ap (.usr 113) [(.var 1)])])]) :: (.ap .le [(.ap (.usr 113) [(.var 1)]), (.ap (.usr 107) [(.var 14), (I (-1)), (.var 0)])]) :: r32_h11
abbrev r32_h13 : List X := (.ap .le [(I 0), (.var 17)]) :: (.ap .le [(.var 17), (.ap .rlen [(.var 18)])]) :: (.ap .le [(.ap .rlen [(.var 18)]), (.var 17)]) :: (.ap .le [(.var 17), (I 800)]) :: (.ap (.usr 170) [(.var 10), (.var 16), (.var 18), (.var 15)]) :: r32_h12
abbrev r32_h14 : List X := (.ap .le [(I 0), (.var 19)]) :: (.ap .lt [(.var 19), (.ap .rlen [(.var 10)])]) :: (.ap .not [(.ap .min [(.ap (.cell 2) [(.var 10), (.var 19)]), (.var 16)])]) :: r32_h13
abbrev r32_h15 : List X := (.ap (.typ (.sl [sI])) [(.ap (.usr 109) [(.var 14), (.ap (.mget 1) [(.var 10), (.var 14), (I 0)]), (.var 0)])]) :: (.ap .mhas [(.var 10), (.var 14)]) :: (.ap .le [(.var 14), (.var 8)]) :: r32_h9
abbrev r32_h16 : List X := (.ap .le [mnX, (.ap (.usr 107) [(.var 14), (.ap (.mget 1) [(.var 10), (.var 14), (I 0)]), (.var 0)])]) :: (.ap .le [(.ap (.usr 107) [(.var 14), (.ap (.mget 1) [(.var 10), (.var 14), (I 0)]), (.var 0)]), mxX]) :: (.ap .not [(.ap .lt [(I 0), (.ap .len [(.ap (.usr 109) [(.var 14), (.ap (.mget 1) [(.var 10), (.var 14), (I 0)]), (.var 0)])])])]) :: r32_h15
abbrev r32_h17 : List X := (.ap .mok [(.var 10), (.var 11)]) :: (.ap .same [(.var 15), (.ap (.usr 163) [(.var 0)])]) :: (.ap .not [(.ap (.usr 162) [(.var 0), (.ap (.usr 113) [(.var 1)])])]) :: (.ap .le [(.ap (.usr 113) [(.var 1)]), (.ap (.usr 107) [(.var 14), (.ap (.mget 1) [(.var 10), (.var 14), (I 0)]), (.var 0)])]) :: r32_h16
abbrev r32_h18 : List X := (.ap .le [(I 0), (.var 17)]) :: (.ap .le [(.var 17), (.ap .rlen [(.var 18)])]) :: (.ap .le [(.ap .rlen [(.var 18)]), (.var 17)]) :: (.ap .le [(.var 17), (I 800)]) :: (.ap (.usr 170) [(.var 10), (.var 16), (.var 18), (.var 15)]) :: r32_h17
abbrev r32_h19 : List X := (.ap .le [(I 0), (.var 19)]) :: (.ap .lt [(.var 19), (.ap .rlen [(.var 10)])]) :: (.ap .not [(.ap .min [(.ap (.cell 2) [(.var 10), (.var 19)]), (.var 16)])]) :: r32_h18
abbrev r32_h20 : List X := (.ap .mok [(.var 10), (.var 11)]) :: (.ap .same [(.var 15), (.ap (.usr 163) [(.var 0)])]) :: (.ap .not [(.ap (.usr 162) [(.var 0), (.ap (.usr 113) [(.var 1)])])]) :: (.ap .not [(.ap .le [(.var 14), (.var 8)])]) :: r32_h9
abbrev r32_h21 : List X := (.ap .le [(I 0), (.var 17)]) :: (.ap .le [(.var 17), (.ap .rlen [(.var 18)])]) :: (.ap .le [(.ap .rlen [(.var 18)]), (.var 17)]) :: (.ap .le [(.var 17), (I 800)]) :: (.ap (.usr 170) [(.var 10), (.var 16), (.var 18), (.var 15)]) :: r32_h20
abbrev r32_h22 : List X := (.ap .le [(I 0), (.var 19)]) :: (.ap .lt [(.var 19), (.ap .rlen [(.var 10)])]) :: (.ap .not [(.ap .min [(.ap (.cell 2) [(.var 10), (.var 19)]), (.var 16)])]) :: r32_h21
def r32_v : List VC := [(((.ap .not [(.ap .lt [(.ap .len [(.var 0)]), (.ap (.usr 113) [(.var 1)])])]) :: r32_h1), (.ap (.usr 160) [(.var 0)])),
 (((.ap .not [(.ap .lt [(.ap .len [(.var 0)]), (.ap (.usr 113) [(.var 1)])])]) :: r32_h1), (.ap .le [(I 1), (.ap .len [(.var 0)])])),
 (r32_h2, (.ap .same [(.ap (.cell 1) [(.var 0), (I 0)]), (.ap (.usr 141) [(.var 0), (I 1)])])),
 (((.ap .lt [(I 0), (.ap (.usr 173) [(.ap (.cell 1) [(.var 0), (.var 3)]), (.var 2)])]) :: (.ap .lt [(.var 3), (.ap .len [(.var 0)])]) :: r32_h3), (.ap .same [(.ap (.cell 1) [(.var 0), (.var 3)]), (.ap (.usr 141) [(.var 0), (.ap (.add .i64) [(.var 3), (I 1)])])])),
 (((.ap .not [(.ap .lt [(I 0), (.ap (.usr 173) [(.ap (.cell 1) [(.var 0), (.var 3)]), (.var 2)])])]) :: (.ap .lt [(.var 3), (.ap .len [(.var 0)])]) :: r32_h3), (.ap .same [(.var 2), (.ap (.usr 141) [(.var 0), (.ap (.add .i64) [(.var 3), (I 1)])])])),
 (((.ap .not [(.ap .lt [(.var 3), (.ap .len [(.var 0)])])]) :: r32_h3), (.ap .same [(.var 2), (.ap (.usr 140) [(.var 0)])])),
 (((.ap .same [(.var 2), (.ap (.usr 140) [(.var 0)])]) :: (.ap .not [(.ap .lt [(.var 3), (.ap .len [(.var 0)])])]) :: r32_h3), (.ap .same [(I 0), (.ap (.usr 145) [(.var 0), (I 0), (.var 2)])])),
 (((.ap .same [(.var 2), (.ap (.usr 140) [(.var 0)])]) :: (.ap .not [(.ap .lt [(.var 3), (.ap .len [(.var 0)])])]) :: r32_h3), (.ap (.usr 146) [(.var 0), (I 0), (.var 2), (.ap (.nil false) [])])),
 (((.ap .same [(.var 2), (.ap (.usr 140) [(.var 0)])]) :: (.ap .not [(.ap .lt [(.var 3), (.ap .len [(.var 0)])])]) :: r32_h3), (.ap .le [(.ap .rlen [(.ap (.nil false) [])]), (.ap (.mul .i64) [(I 80), (I 0)])])),
 (((.ap .eq [(.ap (.cell 1) [(.var 0), (.var 9)]), (.var 2)]) :: (.ap .lt [(.var 9), (.ap .len [(.var 0)])]) :: r32_h4), (.ap (.usr 147) [(.var 0), (.var 9), (.var 2), (.var 10), (I 0)])),
 (((.ap .not [(.ap .mhas [(.var 13), (.ap (.cell 0) [(.ap (.cell 4) [(.var 0), (.var 9)]), (.var 12)])])]) :: (.ap .not [(.ap .eq [(.ap (.cell 2) [(.ap (.cell 4) [(.var 0), (.var 9)]), (.var 12)]), (I 3)])]) :: (.ap .lt [(.var 12), (.ap .len [(.ap (.cell 4) [(.var 0), (.var 9)])])]) :: r32_h5), (.ap (.usr 147) [(.var 0), (.var 9), (.var 2), (.ap .mput [(.var 13), (.var 14), (.ap (.cell 0) [(.ap (.cell 4) [(.var 0), (.var 9)]), (.var 12)]), (.ap (.cell 1) [(.ap (.cell 4) [(.var 0), (.var 9)]), (.var 12)])]), (.ap (.add .i64) [(.var 12), (I 1)])])),
 (((.ap .not [(.ap .mhas [(.var 13), (.ap (.cell 0) [(.ap (.cell 4) [(.var 0), (.var 9)]), (.var 12)])])]) :: (.ap .not [(.ap .eq [(.ap (.cell 2) [(.ap (.cell 4) [(.var 0), (.var 9)]), (.var 12)]), (I 3)])]) :: (.ap .lt [(.var 12), (.ap .len [(.ap (.cell 4) [(.var 0), (.var 9)])])]) :: r32_h5), (.ap .le [(.ap .rlen [(.ap .mput [(.var 13), (.var 14), (.ap (.cell 0) [(.ap (.cell 4) [(.var 0), (.var 9)]), (.var 12)]), (.ap (.cell 1) [(.ap (.cell 4) [(.var 0), (.var 9)]), (.var 12)])])]), (.ap (.add .i64) [(.ap (.mul .i64) [(I 80), (.var 9)]), (.ap (.add .i64) [(.var 12), (I 1)])])])),
 (((.ap .lt [(.ap (.mget 1) [(.var 13), (.ap (.cell 0) [(.ap (.cell 4) [(.var 0), (.var 9)]), (.var 12)]), (I 0)]), (.ap (.cell 1) [(.ap (.cell 4) [(.var 0), (.var 9)]), (.var 12)])]) :: r32_h6), (.ap (.usr 147) [(.var 0), (.var 9), (.var 2), (.ap .mput [(.var 13), (.var 14), (.ap (.cell 0) [(.ap (.cell 4) [(.var 0), (.var 9)]), (.var 12)]), (.ap (.cell 1) [(.ap (.cell 4) [(.var 0), (.var 9)]), (.var 12)])]), (.ap (.add .i64) [(.var 12), (I 1)])])),
 (((.ap .lt [(.ap (.mget 1) [(.var 13), (.ap (.cell 0) [(.ap (.cell 4) [(.var 0), (.var 9)]), (.var 12)]), (I 0)]), (.ap (.cell 1) [(.ap (.cell 4) [(.var 0), (.var 9)]), (.var 12)])]) :: r32_h6), (.ap .le [(.ap .rlen [(.ap .mput [(.var 13), (.var 14), (.ap (.cell 0) [(.ap (.cell 4) [(.var 0), (.var 9)]), (.var 12)]), (.ap (.cell 1) [(.ap (.cell 4) [(.var 0), (.var 9)]), (.var 12)])])]), (.ap (.add .i64) [(.ap (.mul .i64) [(I 80), (.var 9)]), (.ap (.add .i64) [(.var 12), (I 1)])])])),
 (((.ap .not [(.ap .lt [(.ap (.mget 1) [(.var 13), (.ap (.cell 0) [(.ap (.cell 4) [(.var 0), (.var 9)]), (.var 12)]), (I 0)]), (.ap (.cell 1) [(.ap (.cell 4) [(.var 0), (.var 9)]), (.var 12)])])]) :: r32_h6), (.ap (.usr 147) [(.var 0), (.var 9), (.var 2), (.var 13), (.ap (.add .i64) [(.var 12), (I 1)])])),
 (((.ap .eq [(.ap (.cell 2) [(.ap (.cell 4) [(.var 0), (.var 9)]), (.var 12)]), (I 3)]) :: (.ap .lt [(.var 12), (.ap .len [(.ap (.cell 4) [(.var 0), (.var 9)])])]) :: r32_h5), (.ap (.usr 147) [(.var 0), (.var 9), (.var 2), (.var 13), (.ap (.add .i64) [(.var 12), (I 1)])])),
 (((.ap .not [(.ap .eq [(.ap (.cell 1) [(.var 0), (.var 9)]), (.var 2)])]) :: (.ap .lt [(.var 9), (.ap .len [(.var 0)])]) :: r32_h4), (.ap .same [(.var 8), (.ap (.usr 145) [(.var 0), (.ap (.add .i64) [(.var 9), (I 1)]), (.var 2)])])),
 (((.ap .not [(.ap .eq [(.ap (.cell 1) [(.var 0), (.var 9)]), (.var 2)])]) :: (.ap .lt [(.var 9), (.ap .len [(.var 0)])]) :: r32_h4), (.ap (.usr 146) [(.var 0), (.ap (.add .i64) [(.var 9), (I 1)]), (.var 2), (.var 10)])),
 (((.ap .not [(.ap .lt [(.var 12), (.ap .len [(.ap (.cell 4) [(.var 0), (.var 9)])])])]) :: r32_h5), (.ap .same [(.ap .ite [(.ap .lt [(.var 8), (.ap (.cell 2) [(.var 0), (.var 9)])]), (.ap (.cell 2) [(.var 0), (.var 9)]), (.var 8)]), (.ap (.usr 145) [(.var 0), (.ap (.add .i64) [(.var 9), (I 1)]), (.var 2)])])),
 (((.ap .not [(.ap .lt [(.var 12), (.ap .len [(.ap (.cell 4) [(.var 0), (.var 9)])])])]) :: r32_h5), (.ap (.usr 146) [(.var 0), (.ap (.add .i64) [(.var 9), (I 1)]), (.var 2), (.var 13)])),
 (((.ap .not [(.ap .lt [(.var 12), (.ap .len [(.ap (.cell 4) [(.var 0), (.var 9)])])])]) :: r32_h5), (.ap .le [(.ap .rlen [(.var 13)]), (.ap (.mul .i64) [(I 80), (.ap (.add .i64) [(.var 9), (I 1)])])])),
 (((.ap .not [(.ap .lt [(.var 9), (.ap .len [(.var 0)])])]) :: r32_h4), (.ap (.usr 148) [(.var 0), (.var 10)])),
 (((.ap .not [(.ap .lt [(.var 9), (.ap .len [(.var 0)])])]) :: r32_h4), (.ap .same [(.var 8), (.ap (.usr 144) [(.var 0)])])),
 (r32_h7, (.ap .same [(I 0), (.ap (.usr 143) [(.var 0), (I 0)])])),
 (((.ap .lt [(.var 12), (.ap .len [(.var 0)])]) :: r32_h8), (.ap .le [(I 0), (.ap .ite [(.ap .lt [(.var 13), (.ap (.cell 3) [(.var 0), (.var 12)])]), (.ap (.cell 3) [(.var 0), (.var 12)]), (.var 13)])])),
 (((.ap .lt [(.var 12), (.ap .len [(.var 0)])]) :: r32_h8), (.ap .le [(.ap .ite [(.ap .lt [(.var 13), (.ap (.cell 3) [(.var 0), (.var 12)])]), (.ap (.cell 3) [(.var 0), (.var 12)]), (.var 13)]), (I 1073741824)])),
 (((.ap .lt [(.var 12), (.ap .len [(.var 0)])]) :: r32_h8), (.ap .same [(.ap .ite [(.ap .lt [(.var 13), (.ap (.cell 3) [(.var 0), (.var 12)])]), (.ap (.cell 3) [(.var 0), (.var 12)]), (.var 13)]), (.ap (.usr 143) [(.var 0), (.ap (.add .i64) [(.var 12), (I 1)])])])),
 (((.ap .not [(.ap .lt [(.var 12), (.ap .len [(.var 0)])])]) :: r32_h8), (.ap .same [(.var 13), (.ap (.usr 142) [(.var 0)])])),
 (((.ap .same [(.var 13), (.ap (.usr 142) [(.var 0)])]) :: (.ap .not [(.ap .lt [(.var 12), (.ap .len [(.var 0)])])]) :: r32_h8), (.ap (.typ sI) [(.ap (.add .i64) [(.var 13), (I 1)])])),
 (((.ap .same [(.var 13), (.ap (.usr 142) [(.var 0)])]) :: (.ap .not [(.ap .lt [(.var 12), (.ap .len [(.var 0)])])]) :: r32_h8), (.ap .le [(.ap (.add .i64) [(.ap (.usr 142) [(.var 0)]), (I 1)]), (.ap (.add .i64) [(.var 13), (I 1)])])),
 (((.ap .same [(.var 13), (.ap (.usr 142) [(.var 0)])]) :: (.ap .not [(.ap .lt [(.var 12), (.ap .len [(.var 0)])])]) :: r32_h8), (.ap .or [(.ap .le [(.ap (.add .i64) [(.var 13), (I 1)]), (.ap (.add .i64) [(.ap (.usr 144) [(.var 0)]), (I 1)])]), (.ap .le [(.ap (.add .i64) [(.var 13), (I 1)]), (.ap (.add .i64) [(.ap (.usr 142) [(.var 0)]), (I 1)])])])),
 (((.ap .same [(.var 13), (.ap (.usr 142) [(.var 0)])]) :: (.ap .not [(.ap .lt [(.var 12), (.ap .len [(.var 0)])])]) :: r32_h8), (.ap (.usr 149) [(.var 0), (.ap (.add .i64) [(.var 13), (I 1)])])),
 (((.ap .same [(.var 13), (.ap (.usr 142) [(.var 0)])]) :: (.ap .not [(.ap .lt [(.var 12), (.ap .len [(.var 0)])])]) :: r32_h8), (.ap .same [(.var 13), (.ap (.sub .i64) [(.ap (.add .i64) [(.var 13), (I 1)]), (I 1)])])),
 (((.ap .lt [(I 0), (.ap .len [(.ap (.usr 109) [(.var 14), (I (-1)), (.var 0)])])]) :: r32_h10), (.ap (.typ sI) [(.ap (.add .i64) [(.var 14), (I 1)])])),
 (((.ap .lt [(I 0), (.ap .len [(.ap (.usr 109) [(.var 14), (I (-1)), (.var 0)])])]) :: r32_h10), (.ap .or [(.ap .le [(.ap (.add .i64) [(.var 14), (I 1)]), (.ap (.add .i64) [(.ap (.usr 144) [(.var 0)]), (I 1)])]), (.ap .le [(.ap (.add .i64) [(.var 14), (I 1)]), (.ap (.add .i64) [(.ap (.usr 142) [(.var 0)]), (I 1)])])])),
 (((.ap .lt [(I 0), (.ap .len [(.ap (.usr 109) [(.var 14), (I (-1)), (.var 0)])])]) :: r32_h10), (.ap (.usr 149) [(.var 0), (.ap (.add .i64) [(.var 14), (I 1)])])),
 (((.ap .lt [(I 0), (.ap .len [(.ap (.usr 109) [(.var 14), (I (-1)), (.var 0)])])]) :: r32_h10), (.ap .same [(.var 14), (.ap (.sub .i64) [(.ap (.add .i64) [(.var 14), (I 1)]), (I 1)])])),
 (((.ap .lt [(I 0), (.ap .len [(.ap (.usr 109) [(.var 14), (I (-1)), (.var 0)])])]) :: r32_h10), (.ap .le [(.ap (.add .i64) [(.var 14), (I 1)]), (I 1073741825)])),
 (((.ap .lt [(I 0), (.ap .len [(.ap (.usr 109) [(.var 14), (.ap (.mget 1) [(.var 10), (.var 14), (I 0)]), (.var 0)])])]) :: r32_h15), (.ap (.typ sI) [(.ap (.add .i64) [(.var 14), (I 1)])])),
 (((.ap .lt [(I 0), (.ap .len [(.ap (.usr 109) [(.var 14), (.ap (.mget 1) [(.var 10), (.var 14), (I 0)]), (.var 0)])])]) :: r32_h15), (.ap .or [(.ap .le [(.ap (.add .i64) [(.var 14), (I 1)]), (.ap (.add .i64) [(.ap (.usr 144) [(.var 0)]), (I 1)])]), (.ap .le [(.ap (.add .i64) [(.var 14), (I 1)]), (.ap (.add .i64) [(.ap (.usr 142) [(.var 0)]), (I 1)])])])),
 (((.ap .lt [(I 0), (.ap .len [(.ap (.usr 109) [(.var 14), (.ap (.mget 1) [(.var 10), (.var 14), (I 0)]), (.var 0)])])]) :: r32_h15), (.ap (.usr 149) [(.var 0), (.ap (.add .i64) [(.var 14), (I 1)])])),
 (((.ap .lt [(I 0), (.ap .len [(.ap (.usr 109) [(.var 14), (.ap (.mget 1) [(.var 10), (.var 14), (I 0)]), (.var 0)])])]) :: r32_h15), (.ap .same [(.var 14), (.ap (.sub .i64) [(.ap (.add .i64) [(.var 14), (I 1)]), (I 1)])])),
 (((.ap .lt [(I 0), (.ap .len [(.ap (.usr 109) [(.var 14), (.ap (.mget 1) [(.var 10), (.var 14), (I 0)]), (.var 0)])])]) :: r32_h15), (.ap .le [(.ap (.add .i64) [(.var 14), (I 1)]), (I 1073741825)])),
 (((.ap .le [(.ap (.usr 113) [(.var 1)]), (.ap (.usr 107) [(.var 14), (I (-1)), (.var 0)])]) :: r32_h11), (.ap .same [(.var 15), (.ap (.usr 163) [(.var 0)])])),
 (((.ap .le [(.ap (.usr 113) [(.var 1)]), (.ap (.usr 107) [(.var 14), (I (-1)), (.var 0)])]) :: r32_h11), (.ap .not [(.ap (.usr 162) [(.var 0), (.ap (.usr 113) [(.var 1)])])])),
 (r32_h12, (.ap .le [(I 0), (.ap .rlen [(.ap (.nil true) [])])])),
 (r32_h12, (.ap .le [(.ap .rlen [(.ap (.nil true) [])]), (I 0)])),
 (r32_h12, (.ap (.usr 170) [(.var 10), (.ap (.nil false) []), (.ap (.nil true) []), (.var 15)])),
 (((.ap .le [(.ap (.cell 0) [(.var 10), (.var 19)]), (.var 15)]) :: r32_h14), (.ap .le [(I 0), (.ap (.usr 172) [(.var 10), (.ap .snoc [(.var 16), (.ap (.cell 2) [(.var 10), (.var 19)])])])])),
 (((.ap .le [(.ap (.cell 0) [(.var 10), (.var 19)]), (.var 15)]) :: r32_h14), (.ap .lt [(.ap (.usr 172) [(.var 10), (.ap .snoc [(.var 16), (.ap (.cell 2) [(.var 10), (.var 19)])])]), (.ap (.usr 172) [(.var 10), (.var 16)])])),
 (((.ap .le [(.ap (.cell 0) [(.var 10), (.var 19)]), (.var 15)]) :: r32_h14), (.ap .le [(.ap (.add .i64) [(.var 17), (I 1)]), (.ap .rlen [(.ap .cat [(.var 18), (.ap .snoc [(.ap (.nil false) []), (.ap (.cell 0) [(.var 10), (.var 19)]), (.ap (.cell 1) [(.var 10), (.var 19)])])])])])),
 (((.ap .le [(.ap (.cell 0) [(.var 10), (.var 19)]), (.var 15)]) :: r32_h14), (.ap .le [(.ap .rlen [(.ap .cat [(.var 18), (.ap .snoc [(.ap (.nil false) []), (.ap (.cell 0) [(.var 10), (.var 19)]), (.ap (.cell 1) [(.var 10), (.var 19)])])])]), (.ap (.add .i64) [(.var 17), (I 1)])])),
 (((.ap .le [(.ap (.cell 0) [(.var 10), (.var 19)]), (.var 15)]) :: r32_h14), (.ap .le [(.ap (.add .i64) [(.var 17), (I 1)]), (I 800)])),
 (((.ap .le [(.ap (.cell 0) [(.var 10), (.var 19)]), (.var 15)]) :: r32_h14), (.ap (.usr 170) [(.var 10), (.ap .snoc [(.var 16), (.ap (.cell 2) [(.var 10), (.var 19)])]), (.ap .cat [(.var 18), (.ap .snoc [(.ap (.nil false) []), (.ap (.cell 0) [(.var 10), (.var 19)]), (.ap (.cell 1) [(.var 10), (.var 19)])])]), (.var 15)])),
 (((.ap .not [(.ap .le [(.ap (.cell 0) [(.var 10), (.var 19)]), (.var 15)])]) :: r32_h14), (.ap .le [(I 0), (.ap (.usr 172) [(.var 10), (.ap .snoc [(.var 16), (.ap (.cell 2) [(.var 10), (.var 19)])])])])),
 (((.ap .not [(.ap .le [(.ap (.cell 0) [(.var 10), (.var 19)]), (.var 15)])]) :: r32_h14), (.ap .lt [(.ap (.usr 172) [(.var 10), (.ap .snoc [(.var 16), (.ap (.cell 2) [(.var 10), (.var 19)])])]), (.ap (.usr 172) [(.var 10), (.var 16)])])),
 (((.ap .not [(.ap .le [(.ap (.cell 0) [(.var 10), (.var 19)]), (.var 15)])]) :: r32_h14), (.ap (.usr 170) [(.var 10), (.ap .snoc [(.var 16), (.ap (.cell 2) [(.var 10), (.var 19)])]), (.var 18), (.var 15)])),
 (((.ap .le [(.ap (.usr 113) [(.var 1)]), (.ap (.usr 107) [(.var 14), (.ap (.mget 1) [(.var 10), (.var 14), (I 0)]), (.var 0)])]) :: r32_h16), (.ap .same [(.var 15), (.ap (.usr 163) [(.var 0)])])),
 (((.ap .le [(.ap (.usr 113) [(.var 1)]), (.ap (.usr 107) [(.var 14), (.ap (.mget 1) [(.var 10), (.var 14), (I 0)]), (.var 0)])]) :: r32_h16), (.ap .not [(.ap (.usr 162) [(.var 0), (.ap (.usr 113) [(.var 1)])])])),
 (r32_h17, (.ap .le [(I 0), (.ap .rlen [(.ap (.nil true) [])])])),
 (r32_h17, (.ap .le [(.ap .rlen [(.ap (.nil true) [])]), (I 0)])),
 (r32_h17, (.ap (.usr 170) [(.var 10), (.ap (.nil false) []), (.ap (.nil true) []), (.var 15)])),
 (((.ap .le [(.ap (.cell 0) [(.var 10), (.var 19)]), (.var 15)]) :: r32_h19), (.ap .le [(I 0), (.ap (.usr 172) [(.var 10), (.ap .snoc [(.var 16), (.ap (.cell 2) [(.var 10), (.var 19)])])])])),
 (((.ap .le [(.ap (.cell 0) [(.var 10), (.var 19)]), (.var 15)]) :: r32_h19), (.ap .lt [(.ap (.usr 172) [(.var 10), (.ap .snoc [(.var 16), (.ap (.cell 2) [(.var 10), (.var 19)])])]), (.ap (.usr 172) [(.var 10), (.var 16)])])),
 (((.ap .le [(.ap (.cell 0) [(.var 10), (.var 19)]), (.var 15)]) :: r32_h19), (.ap .le [(.ap (.add .i64) [(.var 17), (I 1)]), (.ap .rlen [(.ap .cat [(.var 18), (.ap .snoc [(.ap (.nil false) []), (.ap (.cell 0) [(.var 10), (.var 19)]), (.ap (.cell 1) [(.var 10), (.var 19)])])])])])),
 (((.ap .le [(.ap (.cell 0) [(.var 10), (.var 19)]), (.var 15)]) :: r32_h19), (.ap .le [(.ap .rlen [(.ap .cat [(.var 18), (.ap .snoc [(.ap (.nil false) []), (.ap (.cell 0) [(.var 10), (.var 19)]), (.ap (.cell 1) [(.var 10), (.var 19)])])])]), (.ap (.add .i64) [(.var 17), (I 1)])])),
 (((.ap .le [(.ap (.cell 0) [(.var 10), (.var 19)]), (.var 15)]) :: r32_h19), (.ap .le [(.ap (.add .i64) [(.var 17), (I 1)]), (I 800)])),
 (((.ap .le [(.ap (.cell 0) [(.var 10), (.var 19)]), (.var 15)]) :: r32_h19), (.ap (.usr 170) [(.var 10), (.ap .snoc [(.var 16), (.ap (.cell 2) [(.var 10), (.var 19)])]), (.ap .cat [(.var 18), (.ap .snoc [(.ap (.nil false) []), (.ap (.cell 0) [(.var 10), (.var 19)]), (.ap (.cell 1) [(.var 10), (.var 19)])])]), (.var 15)])),
 (((.ap .not [(.ap .le [(.ap (.cell 0) [(.var 10), (.var 19)]), (.var 15)])]) :: r32_h19), (.ap .le [(I 0), (.ap (.usr 172) [(.var 10), (.ap .snoc [(.var 16), (.ap (.cell 2) [(.var 10), (.var 19)])])])])),
 (((.ap .not [(.ap .le [(.ap (.cell 0) [(.var 10), (.var 19)]), (.var 15)])]) :: r32_h19), (.ap .lt [(.ap (.usr 172) [(.var 10), (.ap .snoc [(.var 16), (.ap (.cell 2) [(.var 10), (.var 19)])])]), (.ap (.usr 172) [(.var 10), (.var 16)])])),
 (((.ap .not [(.ap .le [(.ap (.cell 0) [(.var 10), (.var 19)]), (.var 15)])]) :: r32_h19), (.ap (.usr 170) [(.var 10), (.ap .snoc [(.var 16), (.ap (.cell 2) [(.var 10), (.var 19)])]), (.var 18), (.var 15)])),
 (((.ap .not [(.ap .le [(.var 14), (.var 8)])]) :: r32_h9), (.ap .same [(.var 15), (.ap (.usr 163) [(.var 0)])])),
 (((.ap .not [(.ap .le [(.var 14), (.var 8)])]) :: r32_h9), (.ap .not [(.ap (.usr 162) [(.var 0), (.ap (.usr 113) [(.var 1)])])])),
 (r32_h20, (.ap .le [(I 0), (.ap .rlen [(.ap (.nil true) [])])])),
 (r32_h20, (.ap .le [(.ap .rlen [(.ap (.nil true) [])]), (I 0)])),
 (r32_h20, (.ap (.usr 170) [(.var 10), (.ap (.nil false) []), (.ap (.nil true) []), (.var 15)])),
 (((.ap .le [(.ap (.cell 0) [(.var 10), (.var 19)]), (.var 15)]) :: r32_h22), (.ap .le [(I 0), (.ap (.usr 172) [(.var 10), (.ap .snoc [(.var 16), (.ap (.cell 2) [(.var 10), (.var 19)])])])])),
 (((.ap .le [(.ap (.cell 0) [(.var 10), (.var 19)]), (.var 15)]) :: r32_h22), (.ap .lt [(.ap (.usr 172) [(.var 10), (.ap .snoc [(.var 16), (.ap (.cell 2) [(.var 10), (.var 19)])])]), (.ap (.usr 172) [(.var 10), (.var 16)])])),
 (((.ap .le [(.ap (.cell 0) [(.var 10), (.var 19)]), (.var 15)]) :: r32_h22), (.ap .le [(.ap (.add .i64) [(.var 17), (I 1)]), (.ap .rlen [(.ap .cat [(.var 18), (.ap .snoc [(.ap (.nil false) []), (.ap (.cell 0) [(.var 10), (.var 19)]), (.ap (.cell 1) [(.var 10), (.var 19)])])])])])),
 (((.ap .le [(.ap (.cell 0) [(.var 10), (.var 19)]), (.var 15)]) :: r32_h22), (.ap .le [(.ap .rlen [(.ap .cat [(.var 18), (.ap .snoc [(.ap (.nil false) []), (.ap (.cell 0) [(.var 10), (.var 19)]), (.ap (.cell 1) [(.var 10), (.var 19)])])])]), (.ap (.add .i64) [(.var 17), (I 1)])])),
 (((.ap .le [(.ap (.cell 0) [(.var 10), (.var 19)]), (.var 15)]) :: r32_h22), (.ap .le [(.ap (.add .i64) [(.var 17), (I 1)]), (I 800)])),
 (((.ap .le [(.ap (.cell 0) [(.var 10), (.var 19)]), (.var 15)]) :: r32_h22), (.ap (.usr 170) [(.var 10), (.ap .snoc [(.var 16), (.ap (.cell 2) [(.var 10), (.var 19)])]), (.ap .cat [(.var 18), (.ap .snoc [(.ap (.nil false) []), (.ap (.cell 0) [(.var 10), (.var 19)]), (.ap (.cell 1) [(.var 10), (.var 19)])])]), (.var 15)])),
 (((.ap .not [(.ap .le [(.ap (.cell 0) [(.var 10), (.var 19)]), (.var 15)])]) :: r32_h22), (.ap .le [(I 0), (.ap (.usr 172) [(.var 10), (.ap .snoc [(.var 16), (.ap (.cell 2) [(.var 10), (.var 19)])])])])),
 (((.ap .not [(.ap .le [(.ap (.cell 0) [(.var 10), (.var 19)]), (.var 15)])]) :: r32_h22), (.ap .lt [(.ap (.usr 172) [(.var 10), (.ap .snoc [(.var 16), (.ap (.cell 2) [(.var 10), (.var 19)])])]), (.ap (.usr 172) [(.var 10), (.var 16)])])),
 (((.ap .not [(.ap .le [(.ap (.cell 0) [(.var 10), (.var 19)]), (.var 15)])]) :: r32_h22), (.ap (.usr 170) [(.var 10), (.ap .snoc [(.var 16), (.ap (.cell 2) [(.var 10), (.var 19)])]), (.var 18), (.var 15)]))]
def r32_o : List (List X × List (List X)) := [(((.ap .not [(.ap .eq [(.ap (.usr 123) [(.var 0), (.var 1)]), (I 0)])]) :: r32_h0), [[(I 0), (I 0), (.ap (.nil true) [])], [(.ap (.usr 123) [(.var 0), (.var 1)])]]),
 (((.ap .lt [(.ap .len [(.var 0)]), (.ap (.usr 113) [(.var 1)])]) :: r32_h1), [[(I 0), (I 0), (.ap (.nil true) [])], [(I 10)]]),
 (((.ap .le [(.var 17), (I 0)]) :: (.ap .mall [(.var 10), (.var 16)]) :: r32_h13), [[(.var 15), (.var 13), (.ap (.mk true) [(.var 18)])], [(I 0)]]),
 (((.ap (.usr 171) [(.var 19), (.var 18)]) :: (.ap .lt [(I 0), (.var 17)]) :: (.ap .mall [(.var 10), (.var 16)]) :: r32_h13), [[(.var 15), (.var 13), (.ap (.mk true) [(.var 19)])], [(I 0)]]),
 (((.ap .not [(.ap .le [(.ap (.usr 113) [(.var 1)]), (.ap (.usr 107) [(.var 14), (I (-1)), (.var 0)])])]) :: r32_h11), [[(I 0), (I 0), (.ap (.nil true) [])], [(I 14)]]),
 (((.ap .le [(.var 17), (I 0)]) :: (.ap .mall [(.var 10), (.var 16)]) :: r32_h18), [[(.var 15), (.var 13), (.ap (.mk true) [(.var 18)])], [(I 0)]]),
 (((.ap (.usr 171) [(.var 19), (.var 18)]) :: (.ap .lt [(I 0), (.var 17)]) :: (.ap .mall [(.var 10), (.var 16)]) :: r32_h18), [[(.var 15), (.var 13), (.ap (.mk true) [(.var 19)])], [(I 0)]]),
 (((.ap .not [(.ap .le [(.ap (.usr 113) [(.var 1)]), (.ap (.usr 107) [(.var 14), (.ap (.mget 1) [(.var 10), (.var 14), (I 0)]), (.var 0)])])]) :: r32_h16), [[(I 0), (I 0), (.ap (.nil true) [])], [(I 14)]]),
 (((.ap .le [(.var 17), (I 0)]) :: (.ap .mall [(.var 10), (.var 16)]) :: r32_h21), [[(.var 15), (.var 13), (.ap (.mk true) [(.var 18)])], [(I 0)]]),
 (((.ap (.usr 171) [(.var 19), (.var 18)]) :: (.ap .lt [(I 0), (.var 17)]) :: (.ap .mall [(.var 10), (.var 16)]) :: r32_h21), [[(.var 15), (.var 13), (.ap (.mk true) [(.var 19)])], [(I 0)]])]
theorem r32_eq : runV Try.prog ⟨specO (tab T7), orV2 oSort (orvK Try.prog (specO (tab T7)) 10 12 ⟨lookI inlViews, noY, U.lc⟩ 3), Tb.ent ⟨lookI inlViews, noY, U.lc⟩, 10, 12, none, Go.Sx.keyOf 32⟩ ⟨hintL [(10, lp32a), (16, lp32b), (26, lp32c)], hintA [(7, fun F H => [.ap (.usr 160) [.var 0], .ap .le [I 1, .ap .len [.var 0]]]), (14, fun F H => [.ap .same [cellX F H 11 1, .ap (.usr 142) [.var 0]]]), (25, fun F H => [.ap .same [cellX F H 11 0, .ap (.usr 163) [.var 0]], .ap .not [.ap (.usr 162) [.var 0, sx F 7]]])]⟩ Try.f32 (bodyOf Try.f32) SCho = some (r32_v, r32_o) := by kernel_rfl
set_option maxHeartbeats 4000000 in
set_option maxRecDepth 100000 in
theorem c32 : SpecOK U Try.prog 32 SCho := by
 refine SpecOK.ofW (P := Try.prog) (U := U) (T := (tab T7)) (l := inlViews) (y := noY) (dp := 3) (f := 32) (fn := Try.f32) (fuel := 10) (fk := 12) (hs := ⟨hintL [(10, lp32a), (16, lp32b), (26, lp32c)], hintA [(7, fun F H => [.ap (.usr 160) [.var 0], .ap .le [I 1, .ap .len [.var 0]]]), (14, fun F H => [.ap .same [cellX F H 11 1, .ap (.usr 142) [.var 0]]]), (25, fun F H => [.ap .same [cellX F H 11 0, .ap (.usr 163) [.var 0]], .ap .not [.ap (.usr 162) [.var 0, sx F 7]]])]⟩) (S := SCho) (a := oSort) (v := r32_v) (outs := r32_o) mixed hT7 hInlViews hSort at32 (rangesIn_nil (by kernel_rfl)) r32_eq ?_ ?_
 ·unfold r32_v
  repeat' (first | exact vcs_nil _ | refine vcs_cons (fun v hh => ?_) ?_)
  all_goals
   simp only [w_var, w_lit, w_ivi, w_bvb, w_add, w_sub, w_mul, b_lt, b_le, b_eq, b_not, b_or, b_typ, b_same, w_ite, w_len, w_cell, w_nil, w_mk, w_snoc, w_cat, w_usr, w_l0, w_l1, w_vint, w_vbool, w_tru, w_holds0, w_holds1, w_rows, w_nilb, b_mhas, w_mget, w_mput, b_mall, b_mok, b_min, w_rlen, us107, us109, us111, us113, us119, us123, us140, us141, us142, us143, us144, us145, us146, us147, us148, us149, us150, us151, us152, us153, us160, us162, us163, us170, us171, us172, us173, mnX, mxX, cell_at, l1_inj, vInt_inj, mkz_fold, mkz_eq, mkz_rows, vInt_iv, tn0, maxI_z, vi_lit, vb_lit, eqC_ckV, mapA_fold, mapB_fold, mapV_fold, cmpI_pos, tn1, top_0, List.nil_append, upTo_fold, has_pos, r32_h0, r32_h1, r32_h2, r32_h3, r32_h4, r32_h5, r32_h6, r32_h7, r32_h8, r32_h9, r32_h10, r32_h11, r32_h12, r32_h13, r32_h14, r32_h15, r32_h16, r32_h17, r32_h18, r32_h19, r32_h20, r32_h21, r32_h22] at hh ⊢
   repeat (obtain ⟨_, hh⟩ := hh)
   try (first | grind [take_allT, → okA_vs, com_fold, max3_next, = r3_min, mkz_nil, errOf, waits, → enough_2, = top_min, = com_min, = small_min, typ_v, upTo_succ, upTo_low, → mapV_at, → op_end, → op_all, → ok_atF, = w_vint] | (apply lead_1 <;> first | assumption | grind) | (apply lead_up <;> first | assumption | grind) | (apply lead_st <;> first | assumption | grind) | (apply lead_end <;> first | assumption | grind) | (apply mapA_00 <;> first | assumption | grind) | (apply mapB_00 <;> first | assumption | grind) | (apply top_skip <;> first | assumption | grind) | (apply top_take <;> first | assumption | grind) | (apply mapA_sk <;> first | assumption | grind) | (apply mapB_en <;> first | assumption | grind) | (apply mapA_en <;> first | assumption | grind) | (apply top_en <;> first | assumption | grind) | (apply mapB_p1 <;> first | assumption | grind) | (apply mapB_p2 <;> first | assumption | grind) | (apply mapB_k1 <;> first | assumption | grind) | (apply mapB_k2 <;> first | assumption | grind) | (apply put_le <;> first | assumption | grind) | (apply told_n <;> first | assumption | grind) | (apply told_y <;> first | assumption | grind) | (apply told_s <;> first | assumption | grind) | (apply told_le <;> first | assumption | grind) | (apply told_z <;> first | assumption | grind) | (apply typ_back <;> first | assumption | grind) | (apply res_s <;> first | assumption | grind) | (apply res_n <;> first | assumption | grind))
 ·intro o ho σ hU hh
  obtain ⟨v⟩ := σ
  cases hU
  simp only [r32_o, List.mem_cons, List.not_mem_nil, or_false] at ho
  repeat' (first | (rcases ho with rfl | ho) | subst ho)
  all_goals
   refine ⟨_, List.mem_cons_self .., by simp only [w_var, w_lit, w_ivi, w_bvb, w_add, w_sub, w_mul, b_lt, b_le, b_eq, b_not, b_or, b_typ, b_same, w_ite, w_len, w_cell, w_nil, w_mk, w_snoc, w_cat, w_usr, w_l0, w_l1, w_vint, w_vbool, w_tru, w_holds0, w_holds1, w_rows, w_nilb, b_mhas, w_mget, w_mput, b_mall, b_mok, b_min, w_rlen], ?_⟩
   simp only [w_var, w_lit, w_ivi, w_bvb, w_add, w_sub, w_mul, b_lt, b_le, b_eq, b_not, b_or, b_typ, b_same, w_ite, w_len, w_cell, w_nil, w_mk, w_snoc, w_cat, w_usr, w_l0, w_l1, w_vint, w_vbool, w_tru, w_holds0, w_holds1, w_rows, w_nilb, b_mhas, w_mget, w_mput, b_mall, b_mok, b_min, w_rlen, us107, us109, us111, us113, us119, us123, us140, us141, us142, us143, us144, us145, us146, us147, us148, us149, us150, us151, us152, us153, us160, us162, us163, us170, us171, us172, us173, mnX, mxX, cell_at, l1_inj, vInt_inj, mkz_fold, mkz_eq, mkz_rows, vInt_iv, tn0, maxI_z, vi_lit, vb_lit, eqC_ckV, mapA_fold, mapB_fold, mapV_fold, cmpI_pos, tn1, top_0, List.nil_append, upTo_fold, has_pos, r32_h0, r32_h1, r32_h2, r32_h3, r32_h4, r32_h5, r32_h6, r32_h7, r32_h8, r32_h9, r32_h10, r32_h11, r32_h12, r32_h13, r32_h14, r32_h15, r32_h16, r32_h17, r32_h18, r32_h19, r32_h20, r32_h21, r32_h22] at hh
   simp only [List.map_cons, List.map_nil, w_var, w_lit, w_ivi, w_bvb, w_add, w_sub, w_mul, b_lt, b_le, b_eq, b_not, b_or, b_typ, b_same, w_ite, w_len, w_cell, w_nil, w_mk, w_snoc, w_cat, w_usr, w_l0, w_l1, w_vint, w_vbool, w_tru, w_holds0, w_holds1, w_rows, w_nilb, b_mhas, w_mget, w_mput, b_mall, b_mok, b_min, w_rlen, w_lt, w_le, w_eq, w_not, w_or, w_mhas, w_same, w_typ, us107, us109, us111, us113, us119, us123, us140, us141, us142, us143, us144, us145, us146, us147, us148, us149, us150, us151, us152, us153, us160, us162, us163, us170, us171, us172, us173, mnX, mxX, cell_at, l1_inj, vInt_inj, mkz_fold, mkz_eq, mkz_rows, vInt_iv, tn0, maxI_z, vi_lit, vb_lit, eqC_ckV, mapA_fold, mapB_fold, mapV_fold, cmpI_pos, tn1, top_0, List.nil_append, upTo_fold, has_pos]
   repeat (obtain ⟨_, hh⟩ := hh)
   try (first | grind [take_allT, → okA_vs, com_fold, max3_next, = r3_min, mkz_nil, errOf, waits, → enough_2, = top_min, = com_min, = small_min, typ_v, upTo_succ, upTo_low, → mapV_at, → op_end, → op_all, → ok_atF, = w_vint] | (apply lead_1 <;> first | assumption | grind) | (apply lead_up <;> first | assumption | grind) | (apply lead_st <;> first | assumption | grind) | (apply lead_end <;> first | assumption | grind) | (apply mapA_00 <;> first | assumption | grind) | (apply mapB_00 <;> first | assumption | grind) | (apply top_skip <;> first | assumption | grind) | (apply top_take <;> first | assumption | grind) | (apply mapA_sk <;> first | assumption | grind) | (apply mapB_en <;> first | assumption | grind) | (apply mapA_en <;> first | assumption | grind) | (apply top_en <;> first | assumption | grind) | (apply mapB_p1 <;> first | assumption | grind) | (apply mapB_p2 <;> first | assumption | grind) | (apply mapB_k1 <;> first | assumption | grind) | (apply mapB_k2 <;> first | assumption | grind) | (apply put_le <;> first | assumption | grind) | (apply told_n <;> first | assumption | grind) | (apply told_y <;> first | assumption | grind) | (apply told_s <;> first | assumption | grind) | (apply told_le <;> first | assumption | grind) | (apply told_z <;> first | assumption | grind) | (apply typ_back <;> first | assumption | grind) | (apply res_s <;> first | assumption | grind) | (apply res_n <;> first | assumption | grind))
end Go.Proofs.Ytlbbkmcegbeckaa.Cn

set_option linter.unusedSectionVars false
set_option linter.unusedVariables false
set_option linter.unusedSimpArgs false
namespace Go.Proofs.Ytlbbkmcegbeckaa.Cn
open Go.Sx Go.Proofs
theorem eqC_vint {k : IntKind} {z : Int} : eqC (vInt k z) (vInt k z) = true := decide_eq_true rfl
theorem allS_self {f : List CD → List CD → Bool} : ∀ {R : List (List CD)}, (∀ r ∈ R, f r r = true) → allS f R R = true
 | [], _ => rfl
 | r :: R, h => by
  unfold allS
  rw [h r (List.mem_cons_self ..), allS_self fun q hq => h q (List.mem_cons_of_mem _ hq)]
  rfl
end Go.Proofs.Ytlbbkmcegbeckaa.Cn
