/-
  A symbolic executor: rows that are made, written, told as texts; numbers of other kinds. Conditions: none; nothing here speaks of one program.
  A second abstract evaluator of the model's code: operations on what is known by expressions. Conditions: none; nothing here speaks of one program.
-/
import Derived.Test.YtlbbkmcegbeckaaSxU
import Derived.Laws.IdiomStrings
set_option linter.unusedSimpArgs false
set_option linter.unusedSectionVars false
set_option linter.unusedVariables false
namespace Go.Sx
noncomputable section
def litN (n : Nat) : X := .lit (.int .i64 (n : Int))
def updRow (w : List Srt) (i : X) : Nat → List Cel → X → List Nat → Option (X × List Nat)
 | _, [], e, G => some (e, G)
 | j, c :: cs, e, G => match w[j]? with
  | some s => match toS s c with
   | some (x, G') => updRow w i (j + 1) cs (.ap (.upd j) [e, i, x]) (unionN G G')
   | none => none
  | none => none
section
variable (P : Program) [Plain P] (E : Operand → Option AV) (H : HP)
def yStore (t : TypeId) (x y : Operand) : R :=
 match E x, (E y).bind AV.cels, szA P t with
 | some (.one (.po b s i off)), some cs, some (_, n) => match rowsAt H b with
  | some (w, G, e, nb) => match Nat.beq cs.length n && (Nat.beq s w.length && (ltX H.hy i nb && Nat.ble 1 n)), updRow w i off cs e G with
   | true, some (e', G') => some (undefA, H.obj b (.rows w G' e' nb))
   | _, _ => none
  | none => none
 | _, _, _ => none
def isU8s (w : List Srt) : Bool := eqSrts w [.int .u8]
def bytesX (H : HP) (v : AV) : Option X :=
 match v with
 | .one (.sv (.sl w) _ e) => match isU8s w with
  | true => some e
  | false => none
 | .one (.os z b n s _ ec) => match rowsAt H b with
  | some (w, _, e, nb) => match isU8s w && (Nat.beq s 1 && (eqX n nb && fitE H.hy z n ec e)) with
   | true => some e
   | false => none
  | none => none
 | _ => none
def newRows (H : HP) (w : List Srt) (G : List Nat) (e n : X) : AV × HP := (.one (.os false H.n n w.length G e), H.push (.lf [some (.rows w G e n)]))
def yConv (t u : TypeId) (x : Operand) : R :=
 match undT P t, undT P u, E x with
 | some _, some (.int k), some (.one (.sv (.int _) _ e)) => some (.one (svI k (exactX H.hy k (.ap (.cast k) [e]))), H)
 | some _, some .string, some (.one (.sv .str G e)) => some (.one (.sv .str G e), H)
 | some (.slice e), some .string, some v => match undT P e with
  | some (.int .u8) => (bytesX H v).map fun e => (.one (svS (.ap .str [e])), H)
  | _ => none
 | some .string, some (.slice e), some (.one (.sv .str _ x)) => match undT P e with
  | some (.int .u8) => some (newRows H [.int .u8] [] (.ap .byt [x]) (.ap .slen [x]))
  | _ => none
 | _, _, _ => none
def yBuildS (t : TypeId) (len : Nat) (ps : Array (Nat × Operand)) : R :=
 match (partsE E ps.toList).bind (buildSliceA P t len), undT P t with
 | some cs, some (.slice el) => match srtT P 8 el with
  | some w => match chunkR w len cs, Nat.beq cs.length (len * w.length) && Nat.ble 1 w.length with
   | some (l, G), true => some (newRows H w G (joinX (nilE false) (.rows l)) (litN len))
   | _, _ => none
  | none => none
 | _, _ => none
def yMake (t : TypeId) (x y : Operand) : R :=
 match undT P t, (oneC (E x)).bind iX, (oneC (E y)).bind iX with
 | some (.slice e), some (_, l), some (_, c) => match szA P e, infoT P e, srtT P 8 e with
  | some (_, sz), some i, some w => match i.zero with
   | some z => match (lits z.cells.toList).bind (toRow w) with
    | some (r, G) => match eqX l c && (leX H.hy zI l && (fewX H.hy zI l i.bytes && (Nat.ble 1 sz && (Nat.beq i.size sz && (Nat.beq z.cells.size sz && Nat.beq w.length sz))))) with
     | true => some (newRows H w G (.ap .rep (l :: r)) (castL l))
     | false => none
    | none => none
   | none => none
  | _, _, _ => none
 | _, _, _ => none
def arrW (t : TypeId) : Option (List Srt × Nat) :=
 match undT P t with
 | some (.array n e) => match srtT P 8 e, Nat.ble 2 n with
  | some w, true => some (w, n)
  | _, _ => none
 | _ => none
def arrR (H : HP) (w : List Srt) (n : Nat) (cs : List Cel) : R :=
 match chunkR w n cs, Nat.beq cs.length (n * w.length) && (Nat.ble 1 w.length && Nat.ble n 9223372036854775807) with
 | some (l, G), true => some (.one (.po H.n w.length zI 0), H.push (.lf [some (.rows w G (joinX (nilE false) (.rows l)) (litN n))]))
 | _, _ => none
def yAlloc (t : TypeId) : R :=
 match arrW P t, infoT P t with
 | some (w, n), some i => match i.zero with
  | some z => match lits z.cells.toList with
   | some cs => arrR H w n cs
   | none => none
  | none => none
 | _, _ => none
def yBox (t : TypeId) (x : Operand) : R :=
 match arrW P t, (E x).bind AV.cels with
 | some (w, n), some cs => arrR H w n cs
 | _, _ => none
end
end
section
variable [Sg] {P : Program} [Plain P] {E : Operand → Option AV} {H H' : HP} {w : World} {ρ : PM} {ev : Operand → Value} {v : AV}
theorem Sim.reobj {w' : World} {b : Nat} {x : Ct} {L : Loc} (hH : HRel ρ H w) (hd : Dom ρ H.n) (hL : ρ b = some L) (hb : ∃ c, H.cell b 0 = some c)
  (hx : CtRel ρ w' L 0 x) (hw : ∀ k, k ≠ L.B → w'.heap[k]? = w.heap[k]?) (hs : w'.heap.size = w.heap.size) (hos : w'.os = w.os) (ht : w'.tape = w.tape) (ho : w'.output = w.output) :
  Sim ρ H w ρ (H.obj b x) w' := by
 have hk : H.Kn b := hb.imp' (fun _ => 0) fun c hc => ⟨c, hc⟩
 have hkn : ∀ b', (H.obj b x).Kn b' → H.Kn b' := by
  rintro b' ⟨i, c, hc⟩
  rw [HP.cell_obj] at hc
  by_cases hbb : b' = b
  ·subst hbb; exact hk
  ·rw [if_neg hbb] at hc; exact ⟨i, c, hc⟩
 refine Sim0.same ?_ hd
 exact {
  le := PM.le.refl ρ
  grow := Nat.le_refl _
  dom := hd
  rel := by
   refine ⟨fun b' i c K hc hK => ?_, fun a a' K K' g1 g2 => hH.inj a a' K K' (hkn a g1) (hkn a' g2), hH.hy⟩
   rw [HP.cell_obj] at hc
   by_cases hbb : b' = b
   ·subst hbb
    rw [if_pos rfl] at hc
    rw [hL] at hK
    cases hK
    split at hc
    ·rename_i hi
     subst hi
     cases hc
     exact hx
    ·cases hc
   ·rw [if_neg hbb] at hc
    refine (hH.rel b' i c K hc hK).of_heap (hw K.B fun hB => ?_)
    exact hbb (hH.inj b' b K L ⟨i, c, hc⟩ hk hK hL hB)
  knc := fun b' i _ hc => by
   rw [HP.cell_obj]
   by_cases hbb : b' = b
   ·subst hbb
    rw [if_pos rfl]
    split
    ·rename_i hi
     subst hi
     obtain ⟨c, hc'⟩ := hb
     rw [hc] at hc'; cases hc'
    ·rfl
   ·rw [if_neg hbb]; exact hc
  fr := fun k _ hno => hw k fun hh => hno b L hk hL hh.symm
  new := fun b' K g1 g2 => by rw [g1] at g2; cases g2
  size := by rw [hs]; exact Nat.le_refl _
  os := hos
  tape := ht
  output := ho
  old := fun b' K g1 g2 => by rw [g1] at g2; cases g2 }
theorem Sim.allocR {ws : List Srt} {G : List Nat} {e n : X} {rows : List (List CD)} {us : List Value} {arr : Array Value} {t : TypeId} {fr : Nat × Nat} (hH : HRel ρ H w) (hd : Dom ρ H.n) (hG : LocG ρ G) (hn : (den n).iv = rows.length) (hr : (den e).rows = rows) (hf : Flat (ρ.at G) ws rows us)
  (hfr : UF fr arr.size) (hle : us.length ≤ arr.size) (hm : rows.length ≤ maxN) (hu : ∀ (k : Nat) (u : Value), us[k]? = some u → arr[k]? = some u) :
  Sim ρ H w (upd ρ H.n ⟨w.heap.size, 0, arr.size + 1, none⟩) (H.push (.lf [some (.rows ws G e n)])) (w.alloc (.cells arr t fr)) := by
 have hLM : PM.le ρ (upd ρ H.n ⟨w.heap.size, 0, arr.size + 1, none⟩) := upd_le (hd _ (Nat.le_refl _))
 refine Sim.alloc hH hd rfl rfl fun j c hc => ?_
 refine rowsCt (us := us) (rows := rows) (arr := arr) (t := t) (fr := fr) hc ?_ hn (by rw [heap_alloc]; exact if_pos rfl) hfr rfl hr (hf.mono (PM.at_mono hLM _)) (by show 0 + _ ≤ _; omega) hm fun k u hk => by rw [Nat.zero_add]; exact hu k u hk
 exact fun g hg => let ⟨L, hL⟩ := hG g hg; ⟨L, hLM _ _ hL⟩
theorem newRows_post {ws : List Srt} {G : List Nat} {e n : X} {rows : List (List CD)} {us : List Value} {arr : Array Value} {t : TypeId} {fr : Nat × Nat} {cap : Nat} (hH : HRel ρ H w) (hd : Dom ρ H.n) (hG : LocG ρ G) (hn : (den n).iv = rows.length) (hr : (den e).rows = rows) (hf : Flat (ρ.at G) ws rows us)
  (hfr : UF fr arr.size) (hcap : arr.size = cap * ws.length) (h0 : 0 < ws.length) (hc1 : rows.length ≤ cap) (hc2 : cap ≤ maxN) (hu : ∀ (k : Nat) (u : Value), us[k]? = some u → arr[k]? = some u) :
  Post ρ H w (newRows H ws G e n).1 (newRows H ws G e n).2 (.slice (some ⟨w.heap.size, 0, none⟩) rows.length cap) (w.alloc (.cells arr t fr)) := by
 have hle : us.length ≤ arr.size := by rw [hf.1, hcap]; exact Nat.mul_le_mul_right _ hc1
 have hLM : PM.le ρ (upd ρ H.n ⟨w.heap.size, 0, arr.size + 1, none⟩) := upd_le (hd _ (Nat.le_refl _))
 refine ⟨_, ⟨fun g hg => let ⟨L, hL⟩ := hG g hg; ⟨L, hLM _ _ hL⟩, .inr ⟨fun h => (by cases h.1), _, rows.length, cap, upd_same _ _ _, hn, rfl, hc1, hc2, h0, ?_⟩⟩, Sim.allocR hH hd hG hn hr hf hfr hle (Nat.le_trans hc1 hc2) hu⟩
 show 0 + _ + 1 = arr.size + 1
 rw [hcap]
 omega
theorem setCell_row {rows : List (List CD)} {i j : Nat} {c : CD} : ∀ (k : Nat) (row : List CD), (setCell rows i j c)[k]? = some row → ∃ r0, rows[k]? = some r0 ∧ row = if k = i then r0.set j c else r0 := fun k row h => by
 unfold setCell at h
 rw [List.getElem?_modify] at h
 cases hr : rows[k]? with
 | none => rw [hr] at h; cases h
 | some r0 =>
  rw [hr] at h
  refine ⟨r0, rfl, ?_⟩
  by_cases hk : i = k
  ·subst hk
   simp at h
   first | rw [if_pos rfl, h] | rw [if_pos rfl]
  ·simp [hk] at h
   rw [if_neg (fun hh => hk hh.symm), h]
theorem setCell_len {rows : List (List CD)} {i j : Nat} {c : CD} : (setCell rows i j c).length = rows.length := List.length_modify ..
theorem updRow_ok {ws : List Srt} {i : X} {k0 : Nat} (hk : (den i).iv.toNat = k0) : ∀ {j : Nat} {cs : List Cel} {e : X} {G : List Nat} {us : List Value} {e' : X} {G' : List Nat} {f : Nat → Nat → Option Value}, updRow ws i j cs e G = some (e', G') → All2 (CRel ρ) cs us → LocG ρ G → k0 < (den e).rows.length →
  (∀ k row, (den e).rows[k]? = some row → RSs (ρ.at G) ws row (f k)) →
  LocG ρ G' ∧ (den e').rows.length = (den e).rows.length ∧ j + us.length ≤ max ws.length j ∧ ∀ k row, (den e').rows[k]? = some row → RSs (ρ.at G') ws row fun m => if k = k0 ∧ j ≤ m ∧ m < j + us.length then us[m - j]? else f k m
 | j, [], e, G, [], e', G', f, h, _, hG, h0, hr => by
  simp only [updRow, Option.some.injEq, Prod.mk.injEq] at h
  obtain ⟨rfl, rfl⟩ := h
  refine ⟨hG, rfl, by simp only [List.length_nil]; omega, fun k row hrow => (hr k row hrow).congr fun m hm => ?_⟩
  rw [if_neg (by simp only [List.length_nil]; omega)]
 | j, c :: cs, e, G, u :: us, e', G', f, h, ⟨hc, hcs⟩, hG, h0, hr => by
  simp only [updRow] at h
  split at h
  ·rename_i s hs
   split at h
   ·rename_i x G1 hx
    obtain ⟨g1, g2⟩ := toS_ok hx hc
    have hden : (den (.ap (.upd j) [e, i, x])).rows = setCell (den e).rows k0 j (den x) := by rw [← hk]; rfl
    have hjl : j < ws.length := (List.getElem?_eq_some_iff.1 hs).1
    obtain ⟨k1, k2, k3, k4⟩ := updRow_ok hk (f := fun k m => if k = k0 ∧ m = j then some u else f k m) h hcs (hG.union g1) (by rw [hden, setCell_len]; exact h0) (fun k row hrow => by
     rw [hden] at hrow
     obtain ⟨r0, hr0, rfl⟩ := setCell_row k row hrow
     have hbase := (hr k r0 hr0).mono (at_union_l (ρ := ρ) (G := G) (G' := G1))
     by_cases hkk : k = k0
     ·rw [if_pos hkk]
      refine RSs.of_get (by rw [List.length_set]; exact hbase.len) fun m s' hm => ?_
      by_cases hmj : m = j
      ·subst hmj
       rw [hs] at hm
       cases hm
       refine ⟨u, if_pos ⟨hkk, rfl⟩, ?_⟩
       rw [List.getD_eq_getElem?_getD, List.getElem?_set_self (by rw [hbase.len]; exact hjl)]
       exact g2.mono at_union_r
      ·obtain ⟨y, hy1, hy2⟩ := hbase.get m s' hm
       refine ⟨y, by rw [if_neg (fun hh => hmj hh.2)]; exact hy1, ?_⟩
       rw [List.getD_eq_getElem?_getD, List.getElem?_set_ne (fun hh => hmj hh.symm), ← List.getD_eq_getElem?_getD]
       exact hy2
     ·rw [if_neg hkk]
      exact hbase.congr fun m hm => if_neg (fun hh => hkk hh.1))
    refine ⟨k1, by rw [k2, hden, setCell_len], ?_, fun k row hrow => (k4 k row hrow).congr fun m hm => ?_⟩
    ·simp only [List.length_cons]
     omega
    ·simp only [List.length_cons]
     by_cases hkk : k = k0
     ·by_cases h1 : j + 1 ≤ m ∧ m < j + 1 + us.length
      ·rw [if_pos ⟨hkk, by omega, by omega⟩, if_pos ⟨hkk, h1⟩]
       rw [show m - j = (m - (j + 1)) + 1 by omega, List.getElem?_cons_succ]
      ·rw [if_neg (c := k = k0 ∧ j + 1 ≤ m ∧ m < j + 1 + us.length) (fun hh => h1 hh.2)]
       by_cases h2 : m = j
       ·subst h2
        rw [if_pos ⟨hkk, by omega, by omega⟩, if_pos ⟨hkk, rfl⟩]
        simp
       ·rw [if_neg (by omega), if_neg (fun hh => h2 hh.2)]
     ·rw [if_neg (fun hh => hkk hh.1), if_neg (fun hh => hkk hh.1), if_neg (fun hh => hkk hh.1)]
   ·cases h
  ·cases h
 | _, [], _, _, _ :: _, _, _, _, _, h, _, _, _ => h.elim
 | _, _ :: _, _, _, [], _, _, _, _, h, _, _, _ => h.elim
theorem yStore_ok {t : TypeId} {x y : Operand} (h : yStore P E H t x y = some (v, H')) (hx : ∀ z, z = x ∨ z = y → ∀ a, E z = some a → VRel ρ a (ev z)) (hH : HRel ρ H w) (hd : Dom ρ H.n) : St H H' ∧ OpS P ρ ev H w (.store t x y) v H' := by
 unfold yStore at h
 split at h
 ·rename_i b s i off cs ag n hx' hc hs
  split at h
  ·rename_i ws G e nb hrw
   split at h
   ·rename_i e' G' hok hup
    cases h
    simp only [Bool.and_eq_true] at hok
    obtain ⟨q1, q2, q3, q4⟩ := hok
    have q4 := Nat.le_of_ble_eq_true q4
    have q1 := Nat.eq_of_beq_eq_true q1
    have q2 := Nat.eq_of_beq_eq_true q2
    have q3 : (den i).iv < (den nb).iv := ltX_ok hH.hy q3
    obtain ⟨a, ha, hcs⟩ := bind_some' hc
    have hr := (hx y (.inr rfl) _ ha).cels hcs
    obtain ⟨L, hL, hi0, hev⟩ := hx x (.inl rfl) _ hx'
    obtain ⟨_, hG, g0, arr, tt, fr, g1, g2, g3, g4, g5, g6⟩ := hH.rel b 0 _ L (rowsAt_spec hrw).1 hL
    have hil : (den i).iv.toNat < (den e).rows.length := by omega
    have hlr := hr.length
    obtain ⟨k1, k2, k3, k4⟩ := updRow_ok (k0 := (den i).iv.toNat) rfl (f := fun k m => arr[L.o + k * ws.length + m]?) hup hr hG hil g6
    have hsz : (ev y).cells.size = n := by
     simp only [Array.length_toList] at hlr
     omega
    have hrowle : ((den i).iv.toNat + 1) * ws.length ≤ (den e).rows.length * ws.length := Nat.mul_le_mul_right _ hil
    rw [Nat.add_mul] at hrowle
    have hone : ∀ u ∈ (ev y).cells.toList, u.oneCell' = true := fun u hu => by
     obtain ⟨j, hj⟩ := List.getElem?_of_mem hu
     obtain ⟨c, _, hc⟩ := hr.get' j u hj
     exact hc.oneCell
    have hfit : L.o + ((den i).iv.toNat * s + off) + (ev y).cells.toList.length ≤ arr.size := by
     rw [q2]
     simp only [Array.length_toList] at k3 ⊢
     omega
    have hst : (storeCells (⟨L.B, L.o + ((den i).iv.toNat * s + off), none⟩ : Addr) (ev y).cells.toList).run P w = .ok () (setRow w L.B (L.o + ((den i).iv.toNat * s + off)) (ev y).cells.toList) :=
     run_storeCells L.B _ w _ 0 g1 g2 (by omega) hone
    refine ⟨St.obj H b _, fun dst ty pos after guard => ?_⟩
    have hrun : (execOp ev ⟨dst, .store t x y, ty, pos, after, guard⟩).run P w = .ok .skip (setRow w L.B (L.o + ((den i).iv.toNat * s + off)) (ev y).cells.toList) := by
     refine run_u ?_
     simp only [Instr.storeAt, hev, Instr.sureAddr, Sem.run_bind, Sem.run_pure, Result.andThen_ok, storeVar, run_sizeOf hs, hsz, ne_eq, not_true_eq_false, if_false]
     exact hst
    rw [hrun]
    obtain ⟨m1, m2, m3, m4⟩ := setRow_misc (ev y).cells.toList w L.B (L.o + ((den i).iv.toNat * s + off))
    obtain ⟨arr', p1, p2, p3, p4⟩ := setRow_same (ev y).cells.toList w L.B (L.o + ((den i).iv.toNat * s + off)) g1
    refine ⟨ρ, undef_rel ρ, Sim.reobj hH hd hL ⟨_, (rowsAt_spec hrw).1⟩ ⟨rfl, k1, by rw [k2]; exact g0, arr', tt, fr, p1, by rw [p2]; exact g2, by rw [p2]; exact g3, by rw [p2, k2]; exact g4, by rw [k2]; exact g5, fun k row hrow => ?_⟩ (fun k hk => setRow_other _ w L.B _ k hk) m4 m1 m2 m3⟩
    refine (k4 k row hrow).congr fun m hm => ?_
    have hkl : k < (den e).rows.length := by
     have := (List.getElem?_eq_some_iff.1 hrow).1
     omega
    by_cases hin : k = (den i).iv.toNat ∧ off ≤ m ∧ m < off + (ev y).cells.toList.length
    ·rw [if_pos hin]
     obtain ⟨rfl, h1, h2⟩ := hin
     have hlt : m - off < (ev y).cells.toList.length := by omega
     have := p4 (m - off) _ (List.getElem?_eq_getElem hlt) (by rw [q2]; omega)
     rw [List.getElem?_eq_getElem hlt, ← this, q2]
     congr 1
     omega
    ·rw [if_neg hin]
     refine p3 _ fun hh => hin ?_
     rw [q2] at hh
     by_cases h0 : (ev y).cells.toList.length = 0
     ·omega
     ·have : off + (ev y).cells.toList.length ≤ ws.length := by omega
      have hk : k = (den i).iv.toNat := by
       rcases Nat.lt_trichotomy k (den i).iv.toNat with h1 | h1 | h1
       ·have := Nat.mul_le_mul_right ws.length (Nat.succ_le_of_lt h1)
        rw [Nat.succ_mul] at this
        omega
       ·exact h1
       ·have := Nat.mul_le_mul_right ws.length (Nat.succ_le_of_lt h1)
        rw [Nat.succ_mul] at this
        omega
      subst hk
      omega
   ·cases h
  ·cases h
 ·cases h
theorem strOf_list : ∀ (ns : List Int) (r : ByteArray), (ns.foldl (fun r n => r.push (UInt8.ofNat n.toNat)) r).data.toList = r.data.toList ++ ns.map fun n => UInt8.ofNat n.toNat
 | [], r => by simp
 | n :: ns, r => by
  rw [List.foldl_cons, strOf_list ns]
  show (r.data.push _).toList ++ _ = _
  simp
theorem ba_ext {a b : ByteArray} (h : a.data.toList = b.data.toList) : a = b := by
 obtain ⟨⟨x⟩⟩ := a
 obtain ⟨⟨y⟩⟩ := b
 simp only at h
 rw [h]
theorem strOf_rows (rows : List (List CD)) : strOf (rows.map fun r => (r.getD 0 default).iv) = ⟨(rows.map rowByte).toArray⟩ := by
 apply ba_ext
 unfold strOf
 rw [strOf_list]
 simp [rowByte]
theorem strOf_size (rows : List (List CD)) : (strOf (rows.map fun r => (r.getD 0 default).iv)).size = rows.length := by
 rw [strOf_rows]
 show (List.toArray _).size = _
 simp
theorem flat_ints {m : Mem} {rows : List (List CD)} {us : List Value} (h : Flat m [.int .u8] rows us) : us = (rows.map fun r => (r.getD 0 default).iv).map (Value.int .u8) := by
 apply List.ext_getElem?
 intro k
 rw [List.getElem?_map, List.getElem?_map]
 have hl := h.1
 simp only [List.length_cons, List.length_nil, Nat.zero_add, Nat.mul_one] at hl
 rcases Nat.lt_or_ge k rows.length with hk | hk
 ·have hr := h.2 k rows[k] (List.getElem?_eq_getElem hk)
  obtain ⟨u, h1, n, h2, h3, h4⟩ := hr.get 0 (.int .u8) rfl
  simp only [List.length_cons, List.length_nil, Nat.zero_add, Nat.mul_one, Nat.add_zero] at h1
  rw [h1, List.getElem?_eq_getElem hk, h3]
  simp only [Option.map_some, h2]
  rfl
 ·rw [List.getElem?_eq_none (by omega), List.getElem?_eq_none (by omega)]
  rfl
theorem run_str {rows : List (List CD)} {us : List Value} {m : Mem} {a : Addr} {cap : Nat} {arr : Array Value} {t : TypeId} {fr : Nat × Nat} (hf : Flat m [.int .u8] rows us) (hob : w.heap[a.block]? = some (.cells arr t fr)) (hs : a.spot = none) (hc : ∀ (k : Nat) (u : Value), us[k]? = some u → arr[a.off + k]? = some u) :
  (Conv.bytesToString (.slice (some a) rows.length cap)).run P w = .ok (.string (strOf (rows.map fun r => (r.getD 0 default).iv))) w := by
 obtain ⟨B, o, sp⟩ := a
 simp only at hs hob hc
 subst hs
 refine run_bytesToString w _ _ _ (rows.map fun r => (r.getD 0 default).iv) ?_
 have hl := hf.1
 simp only [List.length_cons, List.length_nil, Nat.zero_add, Nat.mul_one] at hl
 rw [← flat_ints hf, ← hl]
 refine run_loadCells_list w _ us fun j v hj => ?_
 rw [add_addr, cell?_of hob]
 exact hc j v hj
theorem run_str0 {cap : Nat} {a : Option Addr} : (Conv.bytesToString (.slice a 0 cap)).run P w = .ok (.string (strOf [])) w := by
 cases a with
 | none => rfl
 | some a =>
  refine run_bytesToString w _ _ _ [] ?_
  exact run_loadCells_list w _ [] fun j v hj => by simp at hj
theorem bytesX_ok {x : AV} {u : Value} {e : X} (h : bytesX H x = some e) (hx : VRel ρ x u) (hH : HRel ρ H w) (hj : J ρ H w) : (den e).rows.length ≤ maxN ∧ ∃ a l c, u = .slice a l c ∧ (Conv.bytesToString u).run P w = .ok (.string (strOf ((den e).rows.map fun r => (r.getD 0 default).iv))) w := by
 unfold bytesX at h
 split at h
 ·rename_i ws G e0
  split at h
  ·rename_i hw
   cases h
   have hw := eqSrts_spec hw
   subst hw
   obtain ⟨hG, hr⟩ := hx
   have hsl := hr.slice
   refine ⟨hsl.1, ?_⟩
   rcases (show (den e = .sl true [] ∧ u = .slice none 0 0) ∨ _ from hr) with ⟨e1, e2⟩ | ⟨rows, b, off, cap, e1, e2, e3, e4, e5⟩ | ⟨ad, e1, e2⟩
   rotate_right
   ·rw [e1, e2]
    exact ⟨_, _, _, rfl, run_str0⟩
   ·rw [e1, e2]
    exact ⟨_, _, _, rfl, run_str0⟩
   ·have hrows : (den e).rows = rows := by rw [e1]; rfl
    rw [hrows, e2]
    refine ⟨_, _, _, rfl, ?_⟩
    by_cases hne : rows = []
    ·rw [hne]
     exact run_str0
    ·obtain ⟨arr, t, fr, g1, g2⟩ := e5 hne
     obtain ⟨us, hf, hc⟩ := flat_of g2
     exact run_str hf (hj.obj g1) rfl hc
  ·cases h
 ·rename_i z b n s G ec
  split at h
  ·rename_i ws G0 e0 nb hrw
   split at h
   ·rename_i hok
    cases h
    simp only [Bool.and_eq_true] at hok
    have k1 := eqSrts_spec hok.1
    subst k1
    have k2 := eqX_spec hok.2.2.1
    subst k2
    rcases hx.2 with ⟨e0, e1, e1', e2⟩ | ⟨_, L, k, cap, e1, e2, e3, e4, e5, e6, e7⟩
    ·have hrows := fitE_ok hH.hy hok.2.2.2 e0 e1 e1'
     rw [hrows, e2]
     exact ⟨Nat.zero_le _, _, _, _, rfl, run_str0⟩
    ·obtain ⟨_, hG', g0, arr, tt, fr, g1, g2, g3, g4, g5, g6⟩ := hH.rel b 0 _ L (rowsAt_spec hrw).1 e1
     have hk : k = (den e).rows.length := by omega
     obtain ⟨us, hf, hc⟩ := flat_of g6
     rw [e3, hk]
     exact ⟨g5, _, _, _, rfl, run_str hf g1 rfl hc⟩
   ·cases h
  ·cases h
 ·cases h
theorem byt_flat {m : Mem} (s : ByteArray) : Flat m [.int .u8] (s.toList.map byteRow) (s.data.toList.map fun b => Value.int .u8 b.toNat) := by
 have hl : s.toList = s.data.toList := ByteArray.toList_eq s
 rw [hl]
 refine ⟨by simp, fun i row hi => ?_⟩
 rw [List.getElem?_map] at hi
 cases hb : s.data.toList[i]? with
 | none => rw [hb] at hi; cases hi
 | some b =>
  rw [hb] at hi
  cases hi
  refine ⟨_, _, .int .u8 b.toNat, rfl, ?_, ⟨b.toNat, rfl, rfl, u8_ok b⟩, rfl⟩
  simp only [List.length_cons, List.length_nil, Nat.zero_add, Nat.mul_one, Nat.add_zero, List.getElem?_map, hb]
  rfl
theorem Post.after {w1 : World} {ov : AV} {u : Value} {w2 : World} (hd : Dom ρ H.n) (hs : Sim ρ H w ρ H w1) (hp : Post ρ H w1 ov H' u w2) : Post ρ H w ov H' u w2 := by
 obtain ⟨ρ', h1, h2⟩ := hp
 exact ⟨ρ', h1, hs.trans hd h2⟩
theorem yConv_ok {t u : TypeId} {x : Operand} (h : yConv P E H t u x = some (v, H')) (hx : ∀ a, E x = some a → VRel ρ a (ev x)) (hH : HRel ρ H w) (hd : Dom ρ H.n) (hj : J ρ H w) : St H H' ∧ OpS P ρ ev H w (.convert t u x) v H' := by
 unfold yConv at h
 simp only [undT_eq] at h
 split at h
 ·rename_i d k k' G e ht hu hex
  cases h
  obtain ⟨_, n, h1, h2, h3⟩ := hx _ hex
  have hiv : (den e).iv = n := by rw [h1]; rfl
  refine ⟨St.refl H, OpS.val hH hd (u := .int k (k.wrap n)) (svI_rel ?_ (wrap_ok k n)) fun dst ty pos after guard => ?_⟩
  ·rw [exactX_den hH.hy rfl]
   show CD.v (.int k (k.wrap (den e).iv)) = _
   rw [hiv]
  ·have : (convert t u (.int k' n)).run P w = .ok (.int k (k.wrap n)) w := by
    simp only [convert, Sem.run_bind, run_underlying ht, run_underlying hu, Result.andThen_ok]
    rfl
   simp [execOp, h2, this]
 ·rename_i d G e ht hu hex
  cases h
  have hr := hx _ hex
  obtain ⟨_, s, h1, h2, h3⟩ := hx _ hex
  refine ⟨St.refl H, OpS.val hH hd hr fun dst ty pos after guard => ?_⟩
  have : (convert t u (.string s)).run P w = .ok (.string s) w := by
   simp only [convert, Sem.run_bind, run_underlying ht, run_underlying hu, Result.andThen_ok]
   rfl
  simp [execOp, h2, this]
 ·rename_i el v0 _ ht hu hex
  split at h
  ·rename_i he
   obtain ⟨e, hs, hv⟩ := map_some h
   cases hv
   obtain ⟨hl, a, l, c, hev, hrun⟩ := bytesX_ok (P := P) hs (hx _ hex) hH hj
   refine ⟨St.refl H, OpS.val hH hd (svS_rel (s := strOf ((den e).rows.map fun r => (r.getD 0 default).iv)) ?_ ?_) fun dst ty pos after guard => ?_⟩
   ·rw [strOf_rows]
    rfl
   ·simp only [litOK, decide_eq_true_eq]
    rw [strOf_size]
    exact hl
   ·have := run_convert_bytes_string (P := P) w t u el a l c ht he hu
    rw [← hev, hrun] at this
    simp [execOp, this]
  ·cases h
 ·rename_i el G e ht hu hex
  split at h
  ·rename_i he
   cases h
   obtain ⟨_, s, h1, h2, h3⟩ := hx _ hex
   refine ⟨St.push _ _, OpS.of_run (w' := w.drew.alloc (.cells (bytesRow s (grownCap w s.size 0 el)) el ((bytesRow s (grownCap w s.size 0 el)).size, (bytesRow s (grownCap w s.size 0 el)).size + 1))) (u' := .slice (some ⟨w.heap.size, 0, none⟩) s.size (grownCap w s.size 0 el)) (fun dst ty pos after guard => ?_) ?_⟩
   ·simp [execOp, h2, run_bytes_of_string (P := P) w t u el s ht hu he]
   ·have hc1 := cap_ge s.size 0 el w
    have hc2 := cap_le (need := s.size) 0 el w h3
    have hsz : (bytesRow s (grownCap w s.size 0 el)).size = grownCap w s.size 0 el := by
     have : s.data.size = s.size := rfl
     simp only [bytesRow, Array.size_append, Array.size_map, Array.size_replicate, this]
     omega
    have hstr : (den e).str = s := by rw [h1]; rfl
    have hlen : (s.toList.map byteRow).length = s.size := by rw [List.length_map, ByteArray.toList_eq]; simp
    have hs2 : Sim ρ H w ρ H w.drew := Sim.same hH hd rfl rfl rfl rfl
    refine Post.after hd hs2 ?_
    have := newRows_post (w := w.drew) (ws := [.int .u8]) (G := []) (e := .ap .byt [e]) (n := .ap .slen [e]) (rows := s.toList.map byteRow) (us := s.data.toList.map fun b => Value.int .u8 b.toNat) (arr := bytesRow s (grownCap w s.size 0 el)) (t := el) (fr := ((bytesRow s (grownCap w s.size 0 el)).size, (bytesRow s (grownCap w s.size 0 el)).size + 1)) (cap := grownCap w s.size 0 el)
     hs2.rel hd (fun g hg => (by cases hg)) ?_ ?_ (byt_flat s) (.inr (Nat.le_refl _)) (by rw [hsz]; simp) (by simp) (by rw [hlen]; exact hc1) hc2 ?_
    ·rw [hlen] at this
     exact this
    ·show (((den e).slen : Nat) : Int) = _
     rw [hlen]
     unfold CD.slen
     rw [hstr, clip_eq h3]
    ·show ((den e).str.toList.map byteRow) = _
     rw [hstr]
    ·intro k u hk
     unfold bytesRow
     have hlt := (List.getElem?_eq_some_iff.1 hk).1
     rw [Array.getElem?_append_left (by simpa using hlt)]
     rw [← Array.getElem?_toList]
     simpa using hk
  ·cases h
 ·cases h
theorem yBuildS_ok {t : TypeId} {len : Nat} {ps : Array (Nat × Operand)} (h : yBuildS P E H t len ps = some (v, H')) (hx : ∀ p ∈ ps.toList, ∀ a, E p.2 = some a → VRel ρ a (ev p.2)) (hH : HRel ρ H w) (hd : Dom ρ H.n) :
  St H H' ∧ OpS P ρ ev H w (.buildSlice t len ps) v H' := by
 unfold yBuildS at h
 split at h
 ·rename_i cs el hcs hu
  split at h
  ·rename_i ws hw
   split at h
   ·rename_i l G hch hok
    cases h
    rw [Bool.and_eq_true] at hok
    have k1 := Nat.eq_of_beq_eq_true hok.1
    have k2 := Nat.le_of_ble_eq_true hok.2
    obtain ⟨vs, hvs, hb⟩ := bind_some' hcs
    have hps := partsE_rel (ρ := ρ) (ev := ev) hx hvs
    obtain ⟨⟨e, us, hu, hr⟩, hlen⟩ := buildSliceA_ok (w := w) (qs := (ps.map fun (i, x) => (i, ev x))) hb (by simpa using hps)
    have hul := hr.length
    obtain ⟨g1, g2, g3⟩ := chunkR_ok hch hr (by omega)
    have hdl : (denR l).length = len := by unfold denR; rw [List.length_map, g2]
    refine ⟨St.push _ _, OpS.of_run (u' := .slice (some ⟨w.heap.size, 0, none⟩) len len) (w' := w.alloc (.cells us e)) (fun dst ty pos after guard => run_v hu) ?_⟩
    have := newRows_post (w := w) (ws := ws) (G := G) (e := joinX (nilE false) (.rows l)) (n := litN len) (rows := denR l) (us := us.toList) (arr := us) (t := e) (fr := (0, 0)) (cap := len) hH hd g1 (by rw [hdl]; rfl) (by
     show (den (l.foldl _ _)).rows = _
     rw [rows_snoc]
     rfl) g3 (.inl rfl) (by simp only [Array.length_toList] at hul; omega) k2 (by omega) hlen (fun k u hk => by rw [← Array.getElem?_toList]; exact hk)
    rw [hdl] at this
    exact this
   ·cases h
  ·cases h
 ·cases h
theorem arrR_ok {ws : List Srt} {n : Nat} {cs : List Cel} {us : Array Value} {t : TypeId} (h : arrR H ws n cs = some (v, H')) (hr : All2 (CRel ρ) cs us.toList) (hH : HRel ρ H w) (hd : Dom ρ H.n) : St H H' ∧ Post ρ H w v H' (.pointer (some ⟨w.heap.size, 0, none⟩)) (w.alloc (.cells us t)) := by
 unfold arrR at h
 split at h
 ·rename_i l G hch hok
  cases h
  simp only [Bool.and_eq_true] at hok
  have k1 := Nat.eq_of_beq_eq_true hok.1
  have k2 := Nat.le_of_ble_eq_true hok.2.1
  have k3 := Nat.le_of_ble_eq_true hok.2.2
  have hul := hr.length
  obtain ⟨g1, g2, g3⟩ := chunkR_ok hch hr (by omega)
  have hdl : (denR l).length = n := by unfold denR; rw [List.length_map, g2]
  refine ⟨St.push _ _, _, ⟨_, upd_same _ _ _, Int.le_refl _, ?_⟩, Sim.allocR hH hd g1 (by rw [hdl]; rfl) (by
   show (den (l.foldl _ _)).rows = _
   rw [rows_snoc]
   rfl) g3 (.inl rfl) (by simp) (by rw [hdl]; exact k3) (fun k u hk => by rw [← Array.getElem?_toList]; exact hk)⟩
  show Value.pointer (some ⟨w.heap.size, 0, none⟩) = Value.pointer (some ⟨w.heap.size, 0 + (0 * ws.length + 0), none⟩)
  rw [Nat.zero_mul]
 ·cases h
theorem yAlloc_ok {t : TypeId} (h : yAlloc P H t = some (v, H')) (hH : HRel ρ H w) (hd : Dom ρ H.n) : St H H' ∧ OpS P ρ ev H w (.alloc t) v H' := by
 unfold yAlloc at h
 simp only [infoT_eq] at h
 split at h
 ·rename_i ws n i hw hi
  split at h
  ·rename_i z hz
   split at h
   ·rename_i cs hcs
    obtain ⟨h1, h2⟩ := arrR_ok (us := z.cells) (t := t) h (lits_rel (ρ := ρ) hcs) hH hd
    exact ⟨h1, OpS.of_run (fun dst ty pos after guard => run_v (by
     simp only [Instr.alloc, Sem.run_bind, run_zeroValue hi hz, Result.andThen_ok, newVar, newRow, run_newObj, Sem.run_pure, World.alloc_eq])) h2⟩
   ·cases h
  ·cases h
 ·cases h
theorem yBox_ok {t : TypeId} {x : Operand} (h : yBox P E H t x = some (v, H')) (hx : ∀ a, E x = some a → VRel ρ a (ev x)) (hH : HRel ρ H w) (hd : Dom ρ H.n) : St H H' ∧ OpS P ρ ev H w (.box t x) v H' := by
 unfold yBox at h
 split at h
 ·rename_i ws n cs hw hcs
  obtain ⟨a, ha, hc⟩ := bind_some' hcs
  have hr := (hx _ ha).cels hc
  obtain ⟨h1, h2⟩ := arrR_ok (us := (ev x).cells) (t := t) h hr hH hd
  exact ⟨h1, OpS.of_run (fun dst ty pos after guard => run_v (by
   simp only [Instr.box, newVar, newRow, Sem.run_bind, run_newObj, Result.andThen_ok, Sem.run_pure, World.alloc_eq])) h2⟩
 ·cases h
theorem RSs.rep' {m : Mem} {ws : List Srt} {row : List CD} {z : Array Value} {n : Nat} (h : RSs m ws row fun j => z.toList[j]?) (hz : z.size = ws.length) (h0 : 0 < ws.length) :
  Flat m ws (List.replicate n row) ((Array.range (n * ws.length)).map fun i => z[i % z.size]!).toList := by
 refine ⟨by simp, fun i r hi => ?_⟩
 rw [List.getElem?_replicate] at hi
 split at hi
 ·rename_i hin
  cases hi
  refine h.congr fun j hj => ?_
  have hlt := idx_lt hin hj
  rw [Array.getElem?_toList, Array.getElem?_map, Array.getElem?_range, if_pos hlt]
  simp only [Option.map_some]
  have hm : (i * ws.length + j) % z.size = j := by rw [hz, Nat.mul_comm, Nat.mul_add_mod, Nat.mod_eq_of_lt hj]
  rw [hm, Array.getElem?_toList, Array.getElem?_eq_getElem (by omega), getElem!_pos z j (by omega)]
 ·cases hi
theorem yMake_ok {t : TypeId} {x y : Operand} (h : yMake P E H t x y = some (v, H')) (hx : ∀ z, z = x ∨ z = y → ∀ a, E z = some a → VRel ρ a (ev z)) (hH : HRel ρ H w) (hd : Dom ρ H.n) :
  St H H' ∧ OpS P ρ ev H w (.makeSlice t x y) v H' := by
 unfold yMake at h
 simp only [undT_eq, infoT_eq] at h
 split at h
 ·rename_i e k l k' c hu hex hey
  obtain ⟨ci, hci, hki⟩ := bind_some' hex
  obtain ⟨cj, hcj, hkj⟩ := bind_some' hey
  obtain ⟨_, _, he1, _⟩ := iX_spec hki (hx x (.inl rfl) _ (oneC_some hci))
  obtain ⟨_, _, he2, _⟩ := iX_spec hkj (hx y (.inr rfl) _ (oneC_some hcj))
  split at h
  ·rename_i ag sz i ws hs hi hw
   split at h
   ·rename_i z hz
    split at h
    ·rename_i r G hrow
     split at h
     ·rename_i hok
      cases h
      simp only [Bool.and_eq_true] at hok
      obtain ⟨q1, q2, q3, q4, q5, q6, q7⟩ := hok
      have q1 := eqX_spec q1
      subst q1
      have q2 : (0 : Int) ≤ (den l).iv := leX_ok hH.hy q2
      have q4 := Nat.le_of_ble_eq_true q4
      have q5 := Nat.eq_of_beq_eq_true q5
      have q6 := Nat.eq_of_beq_eq_true q6
      have q7 := Nat.eq_of_beq_eq_true q7
      subst q5
      obtain ⟨c', hc'⟩ := Int.eq_ofNat_of_zero_le q2
      obtain ⟨f0, f2⟩ := fewX_spec q3 hH.hy (a := 0) (b := c') rfl hc'
      rw [Nat.zero_add] at f0 f2
      obtain ⟨f1, _⟩ := fewA_spec f0
      obtain ⟨cs, hcs, hrow⟩ := bind_some' hrow
      obtain ⟨g1, g2, g3⟩ := toRow_ok hrow (lits_rel (ρ := ρ) hcs)
      have hrun : ∀ dst ty pos after guard, (execOp ev ⟨dst, .makeSlice t x y, ty, pos, after, guard⟩).run P w = .ok (.value (.slice (some ⟨w.heap.size, 0, none⟩) c' c')) (w.alloc (.cells ((Array.range (c' * i.size)).map fun i => z.cells[i % z.cells.size]!) e)) := by
       intro dst ty pos after guard
       rw [hc'] at he1 he2
       have e2 : IntKind.i64.wrap (c' : Int) = c' := wrap_small (by omega) (by omega)
       have e3 : ((i.bytes : Int) * (c' : Int)) = ((c' * i.bytes : Nat) : Int) := by rw [Nat.mul_comm]; simp
       have e4 : ¬ (281474976710656 < ((i.bytes : Int) * (c' : Int))) := by rw [e3]; omega
       have e6 := run_askRoom (P := P) (w := w) f1
       by_cases hn : c' = 0
       ·subst hn
        have e0 : IntKind.i64.wrap 0 = 0 := by decide
        have e7 := run_askRoom (P := P) (w := w) (n := 0) (by omega)
        simp [e0, e7, execOp, Instr.makeSlice, run_underlying hu, he1, he2, asInt, asIntOf, typeInfo, sizeOf, hi, e2, e4, e6, newRow, zeroValue, hz]
        congr 2
        apply Array.ext'
        simp
       ·have hne : ¬ (c' * i.size = 0) := by
         intro hz'
         rcases Nat.mul_eq_zero.1 hz' with h | h <;> omega
        simp [execOp, Instr.makeSlice, run_underlying hu, he1, he2, asInt, asIntOf, typeInfo, sizeOf, hi, e2, e4, e6, hne, newRow, zeroValue, hz]
        intro hh
        omega
      refine ⟨St.push _ _, OpS.of_run hrun ?_⟩
      have hf := g3.rep' (n := c') (by rw [q6, q7]) (by omega)
      rw [q7] at hf
      have := newRows_post (w := w) (ws := ws) (G := G) (e := .ap .rep (l :: r)) (n := castL l) (rows := List.replicate c' (denL r)) (us := ((Array.range (c' * i.size)).map fun i => z.cells[i % z.cells.size]!).toList) (arr := (Array.range (c' * i.size)).map fun i => z.cells[i % z.cells.size]!) (t := e) (fr := (0, 0)) (cap := c') hH hd g1
       (by rw [castL_den, List.length_replicate]; exact hc') (by
        show List.replicate (den l).iv.toNat (denL r) = _
        rw [hc']
        rfl) hf (.inl rfl) (by rw [q7]; simp) (by omega) (by simp) f2 (fun k u hk => by rw [← Array.getElem?_toList]; exact hk)
      rw [List.length_replicate] at this
      exact this
     ·cases h
    ·cases h
   ·cases h
  ·cases h
 ·cases h
noncomputable section
def nilX (a : AV) : Option X :=
 match a with
 | .one (.os z _ n _ _ _) => match z with
  | true => some (.ap .le [n, zI])
  | false => some (.lit (.bool false))
 | _ => none
def isNilL (a : AV) : Bool :=
 match a with
 | .one (.lit (.slice none _ _)) => true
 | _ => false
def nilC (op : BinOp) (e : X) : Option Cel :=
 match op with
 | .eql => some (svB e)
 | .neq => some (svB (notE e))
 | _ => none
def yNil (P : Program) [Plain P] (E : Operand → Option AV) (H : HP) (op : BinOp) (t : TypeId) (x y : Operand) : R :=
 match undT P t, E x, E y with
 | some (.slice _), some a, some b => match nilX a, isNilL b with
  | some e, true => (nilC op e).map fun c => (.one c, H)
  | _, _ => match nilX b, isNilL a with
   | some e, true => (nilC op e).map fun c => (.one c, H)
   | _, _ => none
 | _, _, _ => none
end
theorem nilX_spec {a : AV} {e : X} {u : Value} (h : nilX a = some e) (hr : VRel ρ a u) : ∃ (p : Bool) (ρ' : PM) (a' : AV), den e = .v (.bool p) ∧ isNilA a' = some p ∧ nilKind a' = 2 ∧ VRel ρ' a' u := by
 have some' : ∀ (B o n c : Nat), u = .slice (some ⟨B, o, none⟩) n c → n ≤ c → c ≤ maxN → den e = .v (.bool false) → ∃ (p : Bool) (ρ' : PM) (a' : AV), den e = .v (.bool p) ∧ isNilA a' = some p ∧ nilKind a' = 2 ∧ VRel ρ' a' u := fun B o n c hu h1 h2 hd =>
  ⟨false, fun _ => some ⟨B, o, 0, none⟩, .one (.sl 0 0 n c), hd, rfl, rfl, ⟨⟨_, rfl, hu⟩, h1, h2⟩⟩
 have none' : u = .slice none 0 0 → den e = .v (.bool true) → ∃ (p : Bool) (ρ' : PM) (a' : AV), den e = .v (.bool p) ∧ isNilA a' = some p ∧ nilKind a' = 2 ∧ VRel ρ' a' u := fun hu hd =>
  ⟨true, fun _ => none, .one (.lit (.slice none 0 0)), hd, rfl, rfl, ⟨hu, rfl⟩⟩
 unfold nilX at h
 split at h
 ·rename_i z b n s G ec
  rcases hr.2 with ⟨e0, e1, _, e2⟩ | ⟨e0, L, k, cap, e1, e2, e3, e4, e5, e6, e7⟩
  ·subst e0
   cases h
   refine none' e2 ?_
   show vBool (decide ((den n).iv ≤ 0)) = _
   rw [e1]; rfl
  ·cases z with
   | true =>
    cases h
    refine some' _ _ _ _ e3 e4 e5 ?_
    show vBool (decide ((den n).iv ≤ 0)) = _
    have : ¬ (den n).iv ≤ 0 := fun hh => e0 ⟨rfl, by omega⟩
    rw [decide_eq_false this]; rfl
   | false =>
    cases h
    exact some' _ _ _ _ e3 e4 e5 rfl
 ·cases h
theorem isNilL_spec {b : AV} {u : Value} (h : isNilL b = true) (hr : VRel ρ b u) : isNilA b = some true ∧ nilKind b = 2 ∧ ∀ ρ' : PM, VRel ρ' b u := by
 unfold isNilL at h
 split at h
 ·exact ⟨rfl, rfl, fun ρ' => hr⟩
 ·cases h
theorem yNil_ok {op : BinOp} {t yt : TypeId} {x y : Operand} (h : yNil P E H op t x y = some (v, H')) (hx : ∀ z, z = x ∨ z = y → ∀ a, E z = some a → VRel ρ a (ev z)) (hH : HRel ρ H w) (hd : Dom ρ H.n) : St H H' ∧ OpS P ρ ev H w (.binOp op t x y yt) v H' := by
 unfold yNil at h
 rw [undT_eq] at h
 split at h
 ·rename_i el a b hu ha hb
  have ra := hx x (.inl rfl) _ ha
  have rb := hx y (.inr rfl) _ hb
  have fin : ∀ {ρ' : PM} {a' b' : AV} {p : Bool} {e : X} {c : Cel}, nilC op e = some c → den e = .v (.bool p) → VRel ρ' a' (ev x) → VRel ρ' b' (ev y) → (∀ q, (op = .eql → q = p) → (op = .neq → q = !p) → nilA op (.slice el) a' b' = some (.bool q)) → OpS P ρ ev H w (.binOp op t x y yt) (.one c) H := by
   intro ρ' a' b' p e c hc he h1 h2 hn
   have hdn : den (notE e) = .v (.bool !p) := by
    show vBool (!(den e).bv) = _
    rw [he]; rfl
   unfold nilC at hc
   split at hc
   ·cases hc
    obtain ⟨h3, _⟩ := nilA_ok (P := P) (w := w) hu (hn p (fun _ => rfl) (fun h => by cases h)) h1 h2 x y
    exact OpS.val hH hd (u := .bool p) (svB_rel he) fun dst ty pos after guard => run_v h3
   ·cases hc
    obtain ⟨h3, _⟩ := nilA_ok (P := P) (w := w) hu (hn (!p) (fun h => by cases h) (fun _ => rfl)) h1 h2 x y
    exact OpS.val hH hd (u := .bool !p) (svB_rel hdn) fun dst ty pos after guard => run_v h3
   ·cases hc
  split at h
  ·rename_i e he hn
   obtain ⟨c, hc, hv⟩ := map_some h
   cases hv
   obtain ⟨p, ρ', a', k1, k2, k3, k4⟩ := nilX_spec he ra
   obtain ⟨g1, g2, g3⟩ := isNilL_spec hn rb
   refine ⟨St.refl H, fin hc k1 k4 (g3 ρ') fun q q1 q2 => ?_⟩
   unfold nilA
   rw [k2, g1]
   simp only [k3, g2, descKind, or_true, and_self, if_true, Bool.and_true]
   unfold nilC at hc
   split at hc
   ·simp [q1 rfl]
   ·simp [q2 rfl]
   ·cases hc
  ·split at h
   ·rename_i e he hn
    obtain ⟨c, hc, hv⟩ := map_some h
    cases hv
    obtain ⟨p, ρ', b', k1, k2, k3, k4⟩ := nilX_spec he rb
    obtain ⟨g1, g2, g3⟩ := isNilL_spec hn ra
    refine ⟨St.refl H, fin hc k1 (g3 ρ') k4 fun q q1 q2 => ?_⟩
    unfold nilA
    rw [k2, g1]
    simp only [k3, g2, descKind, true_or, and_self, if_true, Bool.true_and]
    unfold nilC at hc
    split at hc
    ·simp [q1 rfl]
    ·simp [q2 rfl]
    ·cases hc
   ·cases h
 ·cases h
end
end Go.Sx

set_option linter.unusedSimpArgs false
set_option linter.unusedSectionVars false
set_option linter.unusedVariables false
namespace Go.Sx
variable [Sg]
noncomputable section
def symP (P : Program) [Plain P] (E : Operand → Option AV) (H : HP) (op : Op) : R :=
 match Nat.beq H.nv 0 with
 | true => none
 | false => match op with
  | .alloc t => yAlloc P H t
  | .box t x => yBox P E H t x
  | .buildSlice t n ps => yBuildS P E H t n ps
  | .makeSlice t x y => yMake P E H t x y
  | .call ⟨.builtin .append, args, ats⟩ => yApp P E H args ats
  | _ => none
def symA (P : Program) [Plain P] (E : Operand → Option AV) (H : HP) (op : Op) : R :=
 match op with
 | .binOp op t x y _ => match yBin P E H op t x y with
  | some r => some r
  | none => yNil P E H op t x y
 | .unOp op _ x => yUn E H op x
 | .pick c a b => yPick E H c a b
 | .indexAddr t x i => yIdx P E H t x i
 | .fieldAddr t x f => yFld P E H t x f
 | .load t x => yLoad P E H t x
 | .store t x y => yStore P E H t x y
 | .convert t u x => yConv P E H t u x
 | .slice t x lo hi mx => ySl P E H t x lo hi mx
 | .call ⟨.builtin .max, args, _⟩ => yMax E H false args
 | .call ⟨.builtin .min, args, _⟩ => yMax E H true args
 | .call ⟨.builtin .len, args, ats⟩ => yLen P E H args ats
 | .call ⟨.builtin .append, args, ats⟩ => yApp P E H args ats
 | _ => none
end
section
variable {P : Program} [Plain P] {E : Operand → Option AV} {H H' : HP} {w : World} {ρ : PM} {ev : Operand → Value} {v : AV}
def makes : Op → Bool
 | .alloc _ => true
 | .box _ _ => true
 | .buildSlice _ _ _ => true
 | .makeSlice _ _ _ => true
 | .call _ => true
 | _ => false
theorem symP_none {op : Op} (h : makes op = false) : symP P E H op = none := by
 unfold symP
 split
 ·rfl
 ·cases op <;> first | rfl | cases h
theorem symP_ok {op : Op} (h : symP P E H op = some (v, H')) (hx : ∀ x ∈ op.operands, ∀ a, E x = some a → VRel ρ a (ev x)) (hH : HRel ρ H w) (hd : Dom ρ H.n) (hj : J ρ H w) : St H H' ∧ OpS P ρ ev H w op v H' := by
 unfold symP at h
 split at h
 ·cases h
 ·split at h
  ·exact yAlloc_ok h hH hd
  ·exact yBox_ok h (hx _ (by simp [Op.operands])) hH hd
  ·rename_i t n ps
   exact yBuildS_ok h (fun p hp => hx p.2 (by simp only [Op.operands, List.mem_toArray, List.mem_map]; exact ⟨p, hp, rfl⟩)) hH hd
  ·rename_i t x y
   exact yMake_ok h (fun z hz => hx z (by rcases hz with rfl | rfl <;> simp [Op.operands])) hH hd
  ·rename_i args ats
   exact yApp_ok h (fun z hz => hx z (by simp only [Op.operands, Call.operands, Array.mem_append]; right; simpa using hz)) hH hd hj
  ·cases h
theorem symA_ok {op : Op} (h : symA P E H op = some (v, H')) (hx : ∀ x ∈ op.operands, ∀ a, E x = some a → VRel ρ a (ev x)) (hH : HRel ρ H w) (hd : Dom ρ H.n) (hj : J ρ H w) : St H H' ∧ OpS P ρ ev H w op v H' := by
 unfold symA at h
 split at h
 ·split at h
  ·rename_i r hr
   cases h
   exact yBin_ok hr (fun z hz => hx z (by rcases hz with rfl | rfl <;> simp [Op.operands])) hH hd
  ·exact yNil_ok h (fun z hz => hx z (by rcases hz with rfl | rfl <;> simp [Op.operands])) hH hd
 ·exact yUn_ok h (hx _ (by simp [Op.operands])) hH hd
 ·exact yPick_ok h (fun z hz => hx z (by rcases hz with rfl | rfl | rfl <;> simp [Op.operands])) hH hd
 ·exact yIdx_ok h (fun z hz => hx z (by rcases hz with rfl | rfl <;> simp [Op.operands])) hH hd
 ·exact yFld_ok h (hx _ (by simp [Op.operands])) hH hd
 ·rename_i t x
  obtain ⟨rfl, u, h1, h2⟩ := yLoad_run h (hx _ (by simp [Op.operands])) hH hj
  exact ⟨St.refl _, OpS.val hH hd h1 h2⟩
 ·exact yStore_ok h (fun z hz => hx z (by rcases hz with rfl | rfl <;> simp [Op.operands])) hH hd
 ·exact yConv_ok h (hx _ (by simp [Op.operands])) hH hd hj
 ·exact ySl_ok h (fun z hz => hx z (by rcases hz with rfl | rfl | rfl | rfl <;> simp [Op.operands])) hH hd
 ·exact yMax_ok (mn := false) h (fun z hz => hx z (by simp only [Op.operands, Call.operands, Array.mem_append]; right; simpa using hz)) hH hd
 ·exact yMax_ok (mn := true) h (fun z hz => hx z (by simp only [Op.operands, Call.operands, Array.mem_append]; right; simpa using hz)) hH hd
 ·rename_i args ats
  exact yLen_ok h (fun z hz => hx z (by simp only [Op.operands, Call.operands, Array.mem_append]; right; simpa using hz)) hH hd
 ·rename_i args ats
  exact yApp_ok h (fun z hz => hx z (by simp only [Op.operands, Call.operands, Array.mem_append]; right; simpa using hz)) hH hd hj
 ·cases h
theorem arrR_st {ws : List Srt} {n : Nat} {cs : List Cel} (h : arrR H ws n cs = some (v, H')) : St H H' := by
 unfold arrR at h
 split at h
 ·cases h; exact St.push _ _
 ·cases h
theorem dropO_st (ob : Option Nat) (k : Bk) : St H ((dropO H ob).push k) := by
 cases ob with
 | none => exact St.push _ _
 | some b => exact (St.drop H b).trans (St.push _ _)
theorem yApp_st {args : Array Operand} {ats : Array TypeId} (h : yApp P E H args ats = some (v, H')) : St H H' := by
 unfold yApp at h
 repeat' (split at h)
 all_goals first
  | (cases h; done)
  | (cases h; exact dropO_st _ _)
theorem symP_st {op : Op} (h : symP P E H op = some (v, H')) : St H H' := by
 unfold symP at h
 split at h
 ·cases h
 ·split at h
  ·unfold yAlloc at h
   repeat' (split at h)
   all_goals first
    | (cases h; done)
    | exact arrR_st h
  ·unfold yBox at h
   repeat' (split at h)
   all_goals first
    | (cases h; done)
    | exact arrR_st h
  ·unfold yBuildS at h
   repeat' (split at h)
   all_goals first
    | (cases h; done)
    | (cases h; exact St.push _ _)
  ·unfold yMake at h
   repeat' (split at h)
   all_goals first
    | (cases h; done)
    | (cases h; exact St.push _ _)
  ·exact yApp_st h
  ·cases h
theorem symA_st {op : Op} (h : symA P E H op = some (v, H')) : St H H' := by
 unfold symA at h
 split at h
 ·split at h
  ·rename_i r hr
   cases h
   unfold yBin at hr
   repeat' (split at hr)
   all_goals first
    | (cases hr; done)
    | (obtain ⟨a, ha, hv⟩ := map_some hr; cases hv; exact St.refl _)
  ·unfold yNil at h
   repeat' (split at h)
   all_goals first
    | (cases h; done)
    | (obtain ⟨a, ha, hv⟩ := map_some h; cases hv; exact St.refl _)
 ·unfold yUn at h
  repeat' (split at h)
  all_goals first
   | (cases h; done)
   | (obtain ⟨a, ha, hv⟩ := map_some h; cases hv; exact St.refl _)
 ·unfold yPick at h
  repeat' (split at h)
  all_goals first
   | (cases h; done)
   | (obtain ⟨a, ha, hv⟩ := map_some h; cases hv; exact St.refl _)
 ·unfold yIdx at h
  repeat' (split at h)
  all_goals first
   | (cases h; done)
   | (obtain ⟨a, ha, hv⟩ := map_some h; cases hv; exact St.refl _)
 ·unfold yFld at h
  repeat' (split at h)
  all_goals first
   | (cases h; done)
   | (obtain ⟨a, ha, hv⟩ := map_some h; cases hv; exact St.refl _)
 ·unfold yLoad at h
  repeat' (split at h)
  all_goals first
   | (cases h; done)
   | (obtain ⟨a, ha, hv⟩ := map_some h; cases hv; exact St.refl _)
 ·unfold yStore at h
  repeat' (split at h)
  all_goals first
   | (cases h; done)
   | (cases h; exact St.obj _ _ _)
 ·unfold yConv at h
  repeat' (split at h)
  all_goals first
   | (cases h; done)
   | (cases h; exact St.refl _)
   | (cases h; exact St.push _ _)
   | (obtain ⟨a, ha, hv⟩ := map_some h; cases hv; exact St.refl _)
 ·unfold ySl at h
  repeat' (split at h)
  all_goals first
   | (cases h; done)
   | (cases h; exact St.refl _)
 ·unfold yMax at h
  repeat' (split at h)
  all_goals first
   | (cases h; done)
   | (cases h; exact St.refl _)
 ·unfold yMax at h
  repeat' (split at h)
  all_goals first
   | (cases h; done)
   | (cases h; exact St.refl _)
 ·unfold yLen at h
  repeat' (split at h)
  all_goals first
   | (cases h; done)
   | (cases h; exact St.refl _)
 ·exact yApp_st h
 ·cases h
theorem symA_pure {op : Op} (hp : isPure op = true) (h : symA P E H op = some (v, H')) : H' = H ∧ ∀ G : HP, G.hy = H.hy → symA P E G op = some (v, G) := by
  cases op with
  | binOp op t x y ty =>
    simp only [symA] at h ⊢
    split at h
    · rename_i r hr
      cases h
      unfold yBin at hr ⊢
      split at hr
      · rename_i a b ha hb
        obtain ⟨c, hc, e⟩ := map_some hr
        cases e
        refine ⟨rfl, fun G hG => ?_⟩
        rw [hG, hc]
        rfl
      · cases hr
    · rename_i hr
      have hno : ∀ G : HP, G.hy = H.hy → yBin P E G op t x y = none := fun G hG => by
        unfold yBin at hr ⊢
        split
        · rename_i a b ha hb
          rw [ha, hb] at hr
          simp only at hr
          cases hc : binY P H.hy op t a b with
          | none => rw [hG, hc]; rfl
          | some c => rw [hc] at hr; cases hr
        · rfl
      unfold yNil at h ⊢
      split at h
      · rename_i el a b hu ha hb
        split at h
        · rename_i e he hn
          obtain ⟨c, hc, hv⟩ := map_some h
          cases hv
          refine ⟨rfl, fun G hG => ?_⟩
          rw [hno G hG]
          simp only [he, hn, hc]
          rfl
        · rename_i hno2
          split at h
          · rename_i e he hn
            obtain ⟨c, hc, hv⟩ := map_some h
            cases hv
            refine ⟨rfl, fun G hG => ?_⟩
            rw [hno G hG]
            simp only [he, hn, hc]
            rfl
          · cases h
      · cases h
  | unOp op t x =>
    simp only [symA, yUn] at h ⊢
    split at h
    · rename_i c hc
      obtain ⟨c', hc', e⟩ := map_some h
      cases e
      refine ⟨rfl, fun G hG => ?_⟩
      rw [hG, hc']
      rfl
    · cases h
  | pick c a b =>
    simp only [symA, yPick] at h ⊢
    split at h
    · rename_i G0 e hc
      split at h
      · rename_i t ht
        obtain ⟨c', hc', e⟩ := map_some h
        cases e
        refine ⟨rfl, fun G hG => ?_⟩
        rw [hG, ht]
        simp only [hc']
        rfl
      · cases h
    · cases h
  | indexAddr t x i =>
    simp only [symA, yIdx] at h ⊢
    split at h
    · rename_i el a k ie hu hxe hie
      split at h
      · rename_i ag s hs
        obtain ⟨c', hc', e⟩ := map_some h
        cases e
        refine ⟨rfl, fun G hG => ?_⟩
        rw [hG, hc']
        rfl
      · cases h
    · cases h
  | fieldAddr t x f =>
    simp only [symA, yFld] at h ⊢
    repeat' (split at h)
    all_goals first
      | (cases h; done)
      | (obtain ⟨c', hc', e⟩ := map_some h
         cases e
         refine ⟨rfl, fun G hG => ?_⟩
         simp_all)
  | slice t x lo hi mx =>
    simp only [symA, ySl] at h ⊢
    repeat' (split at h)
    all_goals first
      | (cases h; done)
      | (cases h
         refine ⟨rfl, fun G hG => ?_⟩
         simp_all)
  | _ => first | (cases hp; done) | (cases h; done)
def ptrB : AV → Option Nat
 | .one (.ptr b _) => some b
 | .one (.po b _ _ _) => some b
 | _ => none
def isPv : AV → Bool
 | .one (.pv _ _ _ _ _) => true
 | _ => false
theorem loadY_at {a : AV} {m : Nat} {cs : List Cel} (h : loadY H a m = some cs) : (isPv a = true ∧ ∀ G : HP, G.hy = H.hy → loadY G a m = some cs) ∨ ∃ b, ptrB a = some b ∧ isPv a = false ∧ ∀ G : HP, G.t.get b = H.t.get b → G.hy = H.hy → loadY G a m = some cs := by
 unfold loadY at h
 split at h
 ·exact .inl ⟨rfl, fun G _ => h⟩
 ·rename_i b s i off
  refine .inr ⟨b, rfl, rfl, fun G hG hy => ?_⟩
  have hr : rowsAt G b = rowsAt H b := by unfold rowsAt; rw [hG]
  simp only [loadY, hr, hy]
  exact h
 ·cases h
theorem symA_load {t : TypeId} {x : Operand} (h : symA P E H (.load t x) = some (v, H')) : ∃ a, E x = some a ∧ H' = H ∧ ((isPv a = true ∧ ∀ G : HP, G.hy = H.hy → symA P E G (.load t x) = some (v, G)) ∨ ∃ b, ptrB a = some b ∧ isPv a = false ∧ ∀ G : HP, G.t.get b = H.t.get b → G.hy = H.hy → symA P E G (.load t x) = some (v, G)) := by
 simp only [symA, yLoad] at h ⊢
 split at h
 ·rename_i a ag n hxa hs
  obtain ⟨v', hv, e⟩ := map_some h
  cases e
  obtain ⟨cs, hcs, hm⟩ := bind_some' hv
  refine ⟨a, hxa, rfl, ?_⟩
  rcases loadY_at hcs with ⟨h1, h2⟩ | ⟨b, h1, h2, h3⟩
  ·refine .inl ⟨h1, fun G hG => ?_⟩
   rw [h2 G hG]
   simp [hm]
  ·refine .inr ⟨b, h1, h2, fun G hG hy => ?_⟩
   rw [h3 G hG hy]
   simp [hm]
 ·cases h
theorem symA_store {t : TypeId} {x y : Operand} (h : symA P E H (.store t x y) = some (v, H')) : ∃ a b, E x = some a ∧ ptrB a = some b ∧ H'.n = H.n ∧ ∀ b', b' ≠ b → H'.t.get b' = H.t.get b' := by
  simp only [symA, yStore] at h
  split at h
  · rename_i b s i off cs ag n hx' hc hs
    repeat' (split at h)
    all_goals first
      | (cases h; done)
      | (cases h
         refine ⟨_, b, hx', rfl, rfl, fun b' hb' => ?_⟩
         unfold HP.obj
         simp only [PT.get_put]
         rw [if_neg hb'])
  · cases h
theorem symA_load_run {t : TypeId} {x : Operand} (h : symA P E H (.load t x) = some (v, H')) (hx : ∀ a, E x = some a → VRel ρ a (ev x)) (hH : HRel ρ H w) (hj : J ρ H w) :
  ∃ u, VRel ρ v u ∧ ∀ dst ty pos after guard, (execOp ev ⟨dst, .load t x, ty, pos, after, guard⟩).run P w = .ok (.value u) w := (yLoad_run h hx hH hj).2
theorem symA_conv {t u : TypeId} {x : Operand} (h : symA P E H (.convert t u x) = some (v, H')) (hx : ∃ k n, E x = some (.one (.lit (.int k n)))) : H' = H ∧ ∀ G : HP, G.hy = H.hy → symA P E G (.convert t u x) = some (v, G) := by
 obtain ⟨k, n, hx⟩ := hx
 simp only [symA, yConv, hx] at h
 have hb : bytesX H (.one (.lit (.int k n))) = none := rfl
 split at h
 ·rename_i h1; cases h1
 ·rename_i h1; cases h1
 ·rename_i v0 _ _ _ h1
  have h1 := Option.some.inj h1
  rw [← h1, hb] at h
  split at h <;> cases h
 ·rename_i h1; cases h1
 ·cases h
def baseT (v : AV) : Option Nat :=
 match v with
 | .one (.sl b _ _ _) => some b
 | .one (.su b _ _ _) => some b
 | .one (.sz b _) => some b
 | _ => none
def appT (E : Operand → Option AV) (op : Op) : Option Nat :=
 match op with
 | .call ⟨.builtin .append, args, _⟩ => match args.toList with
  | x :: _ => match E x with
   | some v => baseT v
   | none => none
  | [] => none
 | _ => none
theorem yApp_base {args : Array Operand} {ats : Array TypeId} {b : Nat} (hb : appT E (.call ⟨.builtin .append, args, ats⟩) = some b) (h : yApp P E H args ats = some (v, H')) : False := by
 unfold yApp at h
 split at h
 ·rename_i s x t u hl hat
  have hs : baseT s = some b := by
   simp only [appT] at hb
   split at hb
   ·rename_i z zs hz
    rw [hz] at hl
    have : E z = some s := by
     have := (allSome_get (show allSome ((z :: zs).map E) = some [s, x] from hl)).2 0 s rfl
     simpa using this
    rw [this] at hb
    exact hb
   ·cases hb
  have hn : ∀ w sz, dstY H w sz s = none := fun w sz => by
   unfold dstY
   unfold baseT at hs
   split at hs <;> first | rfl | cases hs
  simp only [hn] at h
  repeat' (split at h)
  all_goals cases h
 ·cases h
theorem symA_app {op : Op} {b : Nat} (hb : appT E op = some b) (h : symA P E H op = some (v, H')) : ∀ b', b' ≠ b → b' < H.n → H'.t.get b' = H.t.get b' := by
 exfalso
 unfold symA at h
 split at h <;> first | (cases hb; done) | (cases h; done) | exact yApp_base hb h
theorem symP_app {op : Op} {b : Nat} (hb : appT E op = some b) : symP P E H op = none := by
 cases hh : symP P E H op with
 | none => rfl
 | some r =>
  exfalso
  obtain ⟨v, H'⟩ := r
  unfold symP at hh
  split at hh
  ·cases hh
  ·split at hh <;> first | (cases hb; done) | (cases hh; done) | exact yApp_base hb hh
section
variable {ora : Ora}
noncomputable def stepB (P : Program) [Plain P] (ora : Ora) (E : Operand → Option AV) (H : HP) (op : Op) : R :=
 match stepO P ora E H op with
 | some r => some r
 | none => symA P E H op
noncomputable def stepA (P : Program) [Plain P] (ora : Ora) (E : Operand → Option AV) (H : HP) (op : Op) : R :=
 match symP P E H op with
 | some r => some r
 | none => stepB P ora E H op
noncomputable def stepF (op : Op) (P : Program) (I : Plain P) (ora : Ora) (E : Operand → Option AV) (H : HP) : R :=
 match @symP P I E H op with
 | some r => some r
 | none => match stepFO op P I ora E H with
  | some r => some r
  | none => @symA P I E H op
theorem stepF_eq (P : Program) [I : Plain P] (ora : Ora) (E : Operand → Option AV) (H : HP) (op : Op) : stepF op P I ora E H = stepA P ora E H op := by
 unfold stepF stepA stepB
 rw [stepFO_eq]
theorem stepA_eq {op : Op} (h : makes op = false) (G : HP) : stepA P ora E G op = stepB P ora E G op := by
 unfold stepA
 rw [symP_none h]
theorem stepB_cases {op : Op} (h : stepB P ora E H op = some (v, H')) : stepO P ora E H op = some (v, H') ∨ (stepO P ora E H op = none ∧ symA P E H op = some (v, H')) := by
 unfold stepB at h
 split at h
 ·rename_i r hr; cases h; exact .inl hr
 ·rename_i hr; exact .inr ⟨hr, h⟩
theorem stepA_cases {op : Op} (h : stepA P ora E H op = some (v, H')) : symP P E H op = some (v, H') ∨ stepB P ora E H op = some (v, H') := by
 unfold stepA at h
 split at h
 ·rename_i r hr; cases h; exact .inl hr
 ·exact .inr h
theorem stepA_ok (ho : OraOK P ora) {op : Op} (h : stepA P ora E H op = some (v, H')) (hx : ∀ x ∈ op.operands, ∀ a, E x = some a → VRel ρ a (ev x)) (hH : HRel ρ H w) (hd : Dom ρ H.n) (hj : J ρ H w) :
  St H H' ∧ OpS P ρ ev H w op v H' := by
 rcases stepA_cases h with h | h
 ·exact symP_ok h hx hH hd hj
 ·rcases stepB_cases h with h | ⟨_, h⟩
  ·exact stepO_ok ho h hx hH hd hj
  ·exact symA_ok h hx hH hd hj
end
end
end Go.Sx
