/-
  A symbolic executor: what is to be shown, in plain words. Conditions: none; nothing here speaks of one program.
  A symbolic executor: bytes compared by the run-time. Conditions: none; nothing here speaks of one program.
  A symbolic executor: functions that are walked where they are called; rounds of loops over functions. Conditions: none; nothing here speaks of one program.
  A symbolic executor: contracts from runs in which calls are walked in place. Conditions: none; nothing here speaks of one program.
  A symbolic executor: a call that sorts an owned slice of pairs by its first number. Conditions: none; nothing here speaks of one program.
-/
import Derived.Test.YtlbbkmcegbeckaaSbBase
import Derived.Lib.BytesEntry
import Derived.RangeFuncLeaves
import Derived.Shelf.GgSortFunc.InsertionK
set_option linter.unusedSimpArgs false
set_option linter.unusedSectionVars false
set_option linter.unusedVariables false
namespace Go.Sx
section
variable [Sg]
theorem w_var (n : Nat) : den (.var n) = Sg.v n := rfl
theorem w_lit (u : Value) : den (.lit u) = .v u := rfl
theorem w_add (k : IntKind) (a b : X) : den (.ap (.add k) [a, b]) = vInt k ((den a).iv + (den b).iv) := rfl
theorem w_sub (k : IntKind) (a b : X) : den (.ap (.sub k) [a, b]) = vInt k ((den a).iv - (den b).iv) := rfl
theorem w_mul (k : IntKind) (a b : X) : den (.ap (.mul k) [a, b]) = vInt k ((den a).iv * (den b).iv) := rfl
theorem w_wr (k : IntKind) (a : X) : den (.ap (.wr k) [a]) = vInt k (k.wrap (den a).iv) := rfl
theorem w_lt (a b : X) : den (.ap .lt [a, b]) = vBool (decide ((den a).iv < (den b).iv)) := rfl
theorem w_le (a b : X) : den (.ap .le [a, b]) = vBool (decide ((den a).iv ≤ (den b).iv)) := rfl
theorem w_eq (a b : X) : den (.ap .eq [a, b]) = vBool (eqC (den a) (den b)) := rfl
theorem w_not (a : X) : den (.ap .not [a]) = vBool (!(den a).bv) := rfl
theorem w_and (a b : X) : den (.ap .and [a, b]) = vBool ((den a).bv && (den b).bv) := rfl
theorem w_or (a b : X) : den (.ap .or [a, b]) = vBool ((den a).bv || (den b).bv) := rfl
theorem w_ite (a b c : X) : den (.ap .ite [a, b, c]) = if (den a).bv then den b else den c := rfl
theorem w_len (a : X) : den (.ap .len [a]) = vInt .i64 (den a).len := rfl
theorem w_cell (j : Nat) (a i : X) : den (.ap (.cell j) [a, i]) = (den a).cell (den i).iv j := rfl
theorem w_nil (b : Bool) : den (.ap (.nil b) []) = .sl b [] := rfl
theorem w_mk (z : Bool) (a : X) : den (.ap (.mk z) [a]) = .sl (z && (den a).rows.isEmpty) (den a).rows := rfl
theorem w_snoc (a : X) (l : List X) : den (.ap .snoc (a :: l)) = .sl false ((den a).rows ++ [denL l]) := rfl
theorem w_cat (a b : X) : den (.ap .cat [a, b]) = .sl false ((den a).rows ++ (den b).rows) := rfl
theorem w_cut (a l h : X) : den (.ap .cut [a, l, h]) = .sl (den a).isNil (((den a).rows.take (den h).iv.toNat).drop (den l).iv.toNat) := rfl
theorem w_neg (k : IntKind) (a : X) : den (.ap (.neg k) [a]) = vInt k (k.wrap (0 - (den a).iv)) := rfl
theorem w_usr (n : Nat) (l : List X) : den (.ap (.usr n) l) = Us.u n (denL l) := rfl
theorem w_bin (o : BinOp) (k : IntKind) (a b : X) : den (.ap (.bin o k) [a, b]) = orV (binInt o k (den a).iv (den b).iv) := rfl
theorem w_l0 : denL [] = [] := rfl
theorem w_l1 (a : X) (l : List X) : denL (a :: l) = den a :: denL l := rfl
theorem b_lt (a b : X) : ((den (.ap .lt [a, b])).bv = true) = ((den a).iv < (den b).iv) := decide_eq_true_eq
theorem b_le (a b : X) : ((den (.ap .le [a, b])).bv = true) = ((den a).iv ≤ (den b).iv) := decide_eq_true_eq
theorem b_eq (a b : X) : ((den (.ap .eq [a, b])).bv = true) = (eqC (den a) (den b) = true) := rfl
theorem b_not (a : X) : ((den (.ap .not [a])).bv = true) = ¬ ((den a).bv = true) := by
 show ((!(den a).bv) = true) = _
 cases (den a).bv <;> simp
theorem b_and (a b : X) : ((den (.ap .and [a, b])).bv = true) = ((den a).bv = true ∧ (den b).bv = true) := by
 show (((den a).bv && (den b).bv) = true) = _
 simp
theorem b_or (a b : X) : ((den (.ap .or [a, b])).bv = true) = ((den a).bv = true ∨ (den b).bv = true) := by
 show (((den a).bv || (den b).bv) = true) = _
 simp
theorem w_tru (x : X) : Tru x = ((den x).bv = true) := rfl
theorem w_holds0 : Holds [] = True := by simp [Holds]
theorem w_holds1 (x : X) (l : List X) : Holds (x :: l) = (Tru x ∧ Holds l) := by simp [Holds]
theorem b_same (a b : X) : ((den (.ap .same [a, b])).bv = true) = (den a = den b) := @decide_eq_true_eq _ (Classical.propDecidable _)
theorem w_mhas (e k : X) : den (.ap .mhas [e, k]) = vBool (mHas (den k) (den e).rows) := rfl
theorem b_mhas (e k : X) : ((den (.ap .mhas [e, k])).bv = true) = (mHas (den k) (den e).rows = true) := rfl
theorem w_mget (j : Nat) (e k z : X) : den (.ap (.mget j) [e, k, z]) = mGet j (den k) (den z) (den e).rows := rfl
theorem w_mput (e c k : X) (vs : List X) : den (.ap .mput (e :: c :: k :: vs)) = .sl false (mPut (den k) (denL vs) (den c) (den e).rows) := rfl
theorem b_mall (e s : X) : ((den (.ap .mall [e, s])).bv = true) = (((den e).rows.all fun r => mIn (bornOf r) (den s).rows) = true) := rfl
theorem b_mok (e c : X) : ((den (.ap .mok [e, c])).bv = true) = MOk (den e).rows (den c).iv := @decide_eq_true_eq _ (Classical.propDecidable _)
theorem b_min (b s : X) : ((den (.ap .min [b, s])).bv = true) = (mIn (den b) (den s).rows = true) := rfl
theorem w_rlen (e : X) : den (.ap .rlen [e]) = vInt .i64 (den e).rows.length := rfl
theorem w_shf (o : BinOp) (k : IntKind) (a b : X) : den (.ap (.shf o k) [a, b]) = orV (shfInt o k (den a).iv (den b).iv) := rfl
theorem w_same (a b : X) : den (.ap .same [a, b]) = vBool (@decide (den a = den b) (Classical.propDecidable _)) := rfl
theorem w_typ (s : Srt) (a : X) : den (.ap (.typ s) [a]) = vBool (@decide (Typ s (den a)) (Classical.propDecidable _)) := rfl
theorem b_typ (s : Srt) (a : X) : ((den (.ap (.typ s) [a])).bv = true) = Typ s (den a) := @decide_eq_true_eq _ (Classical.propDecidable _)
end
theorem w_ivi (k : IntKind) (z : Int) : (CD.v (.int k z)).iv = z := rfl
theorem w_bvb (b : Bool) : (CD.v (.bool b)).bv = b := rfl
theorem w_vint (k : IntKind) (z : Int) : (vInt k z).iv = z := rfl
theorem w_vbool (b : Bool) : (vBool b).bv = b := rfl
theorem w_rows (b : Bool) (r : List (List CD)) : (CD.sl b r).rows = r := rfl
theorem w_nilb (b : Bool) (r : List (List CD)) : (CD.sl b r).isNil = b := rfl
theorem Typ.sl {ss : List Srt} {d : CD} (h : Typ (.sl ss) d) : d.len = d.rows.length ∧ d.rows.length ≤ maxN := by
 obtain ⟨m, u, h⟩ := h
 exact ⟨h.slice.2.1, h.slice.1⟩
theorem Typ.row {ss : List Srt} {d : CD} (h : Typ (.sl ss) d) {i : Nat} {row : List CD} (hi : d.rows[i]? = some row) : row.length = ss.length ∧ ∀ (j : Nat) (s : Srt), ss[j]? = some s → Typ s (row.getD j default) := by
 obtain ⟨m, u, h⟩ := h
 rcases (show (d = .sl true [] ∧ u = .slice none 0 0) ∨ _ from h) with ⟨h1, _⟩ | ⟨rows, b, off, cap, h1, h2, h3, h4, h5⟩ | ⟨_, h1, _⟩
 rotate_right
 ·rw [h1] at hi
  cases (show ([] : List (List CD))[i]? = some row from hi)
 ·rw [h1] at hi
  cases (show ([] : List (List CD))[i]? = some row from hi)
 ·rw [h1] at hi
  have hi : rows[i]? = some row := hi
  obtain ⟨arr, t, fr, _, h7⟩ := h5 (fun hh => by rw [hh] at hi; cases hi)
  have hr := h7 i row hi
  refine ⟨hr.len, fun j s hj => ?_⟩
  obtain ⟨u', _, h8⟩ := hr.get j s hj
  exact ⟨m, u', h8⟩
theorem Typ.cell {ss : List Srt} {d : CD} (h : Typ (.sl ss) d) {i : Int} {j : Nat} {s : Srt} (h0 : 0 ≤ i) (hi : i < d.len) (hj : ss[j]? = some s) : Typ s (d.cell i j) := by
 have hlt : i.toNat < d.rows.length := by have := h.sl.1; omega
 unfold CD.cell
 rw [show d.rows.getD i.toNat [] = d.rows[i.toNat] by rw [List.getD_eq_getElem?_getD, List.getElem?_eq_getElem hlt]; rfl]
 exact (h.row (List.getElem?_eq_getElem hlt)).2 j s hj
theorem vcs_nil (U : Us) : ∀ z ∈ ([] : List VC), VCok U z := fun z hz => by cases hz
theorem vcs_cons {U : Us} {hy : List X} {x : X} {l : List VC} (h : ∀ v : Nat → CD, @Holds ⟨v⟩ hy → @Tru ⟨v⟩ x) (hl : ∀ z ∈ l, VCok U z) : ∀ z ∈ (hy, x) :: l, VCok U z := fun z hz => by
 rcases List.mem_cons.1 hz with rfl | hz
 ·intro σ hU hh
  obtain ⟨v⟩ := σ
  cases hU
  exact h v hh
 ·exact hl z hz
end Go.Sx

set_option linter.unusedSimpArgs false
set_option linter.unusedSectionVars false
set_option linter.unusedVariables false
namespace Go.Sx
end Go.Sx

set_option linter.unusedSimpArgs false
set_option linter.unusedSectionVars false
set_option linter.unusedVariables false
namespace Go.Sx
noncomputable section
def resPs (P : Program) [Plain P] (H : HP) (F : Fm) : List ResultVar → Option (List (Bool × List Cel))
 | [] => some []
 | r :: rs => match resF P H F r, resPs P H F rs with
  | some p, some l => some (p :: l)
  | _, _ => none
def endI (P : Program) [Plain P] (fn : Func) (x : Oc) : Option (AV × HP) :=
 match x.1 with
 | .ext _ => none
 | _ => match resPs P x.2.2 x.2.1 fn.results.toList with
  | some ps => some (retAV ps, x.2.2)
  | none => none
structure Inl where
 fn : Func
 hs : Hs
def runI (P : Program) [Plain P] (cx : Cx) (d : Inl) (args : List AV) (H : HP) : RV :=
 match Nat.ble args.length d.fn.ntmps with
 | true => match codeS P cx d.fn.ntmps d.hs (bodyOf d.fn) (frameF .nil 0 args) H with
  | some (v, l) => match allSome (l.map (endI P d.fn)) with
   | some outs => some (v, outs)
   | none => none
  | none => none
 | false => none
def putsF (n : Nat) : Fm → List Tmp → List AV → Option Fm
 | F, [], [] => some F
 | F, p :: ps, v :: vs => match putF n F (some p) v with
  | some F' => putsF n F' ps vs
  | none => none
 | _, _, _ => none
def pendOf : Ex → Option Code
 | .nrm => none
 | .ext id => some (.exit id)
 | .rt => some .ret
def stOf : Ex → LoopState
 | .nrm => .ready
 | _ => .done
def isNrm : Ex → Bool
 | .nrm => true
 | _ => false
def isReady : LoopState → Bool
 | .ready => true
 | _ => false
def endRoundA (b : Nat) (x : Oc) : Option (AV × HP) :=
 match loopAt x.2.2 b with
 | some l => some (.one (.lit (.bool (isNrm x.1))), x.2.2.obj b (LoopC.ct { l with st := stOf x.1, pend := pendOf x.1 }))
 | none => none
def roundA (P : Program) [Plain P] (cx : Cx) (hs : Hs) (b n : Nat) (body : Code) (F : Fm) (H : HP) : RV :=
 match loopAt H b with
 | some l => match isReady l.st with
  | true => match codeS P cx n hs body F (H.obj b (LoopC.ct { l with st := .busy })) with
   | some (v, outs) => match allSome (outs.map (endRoundA b)) with
    | some r => some (v, r)
    | none => none
   | none => none
  | false => none
 | none => none
def thenRound (P : Program) [Plain P] (cx : Cx) (hs : Hs) (b n : Nat) (body : Code) (x : Oc) : RV :=
 match x.1 with
 | .nrm => roundA P cx hs b n body x.2.1 x.2.2
 | _ => none
def yieldV (P : Program) [Plain P] (cx : Cx) (hs : Nat → Hs) (lc : Nat → LCd) (b : Nat) (args : List AV) (H : HP) : RV :=
 match loopAt H b with
 | some l => match putsF l.n l.F (lc l.k).ps.toList args, (flowAll (lc l.k).assign && flowAll (lc l.k).body) && (nilL (rangeL (lc l.k).assign) && nilL (rangeL (lc l.k).body)) with
  | some F1, true => match codeS P cx l.n (hs l.k) (lc l.k).assign F1 H with
   | some (v, outs) => addV v (bindV (thenRound P cx (hs l.k) b l.n (lc l.k).body) outs)
   | none => none
  | _, _ => none
 | none => none
structure Tb where
 f : FuncId → Option Inl
 y : Nat → Hs
 lc : Nat → LCd
def Tb.ent (T : Tb) : FuncId → Bool := fun g => match T.f g with
 | some _ => true
 | none => false
def keyOf (g id : Nat) : Nat := Nat.add (Nat.mul g 1000) id
def orvK (P : Program) [Plain P] (ora : OraM) (fuel fk : Nat) (T : Tb) (d : Nat) : OraV :=
 Nat.rec (motive := fun _ => OraV) noV (fun _ ih t args H => match t with
  | .f g => match T.f g with
   | some d => runI P ⟨ora, ih, T.ent, fuel, fk, none, keyOf g⟩ d args H
   | none => none
  | .y b => yieldV P ⟨ora, ih, T.ent, fuel, fk, some b, fun _ => 0⟩ T.y T.lc b args H) d
end
theorem allSome_mem {α β : Type} {f : α → Option β} {xs : List α} {ys : List β} (h : allSome (xs.map f) = some ys) : (∀ x ∈ xs, ∃ y ∈ ys, f x = some y) ∧ ∀ y ∈ ys, ∃ x ∈ xs, f x = some y := by
 haveI : Sg := { u := fun _ _ => default, lc := fun _ => ⟨#[], .skip, .skip⟩, v := fun _ => default }
 obtain ⟨hlen, hget⟩ := allSome_get h
 rw [List.length_map] at hlen
 refine ⟨fun x hx => ?_, fun y hy => ?_⟩
 ·obtain ⟨i, hi⟩ := List.getElem?_of_mem hx
  have hlt : i < ys.length := by rw [← hlen]; exact (List.getElem?_eq_some_iff.1 hi).1
  have := hget i ys[i] (List.getElem?_eq_getElem hlt)
  rw [List.getElem?_map, hi] at this
  simp only [Option.map_some, Option.some.injEq] at this
  exact ⟨_, List.getElem_mem hlt, this⟩
 ·obtain ⟨i, hi⟩ := List.getElem?_of_mem hy
  have := hget i y hi
  rw [List.getElem?_map] at this
  cases ho : xs[i]? with
  | none => rw [ho] at this; cases this
  | some x =>
   rw [ho] at this
   simp only [Option.map_some, Option.some.injEq] at this
   exact ⟨x, List.mem_of_getElem? ho, this⟩
section
variable {P : Program} [Plain P] {n : Nat} {U : Us} {H H' : HP} {w w' : World} {ρ ρ' : PM}
theorem resPs_ok {σ : Sg} {F : Fm} {a : Act} (hf : @FRel σ n ρ F a) (hH : @HRel σ ρ H w) (hj : J ρ H w) : ∀ (rs : List ResultVar) {ps : List (Bool × List Cel)}, resPs P H F rs = some ps →
  ∃ us, (rs.mapM fun | .tmp t => pure (a.tmps.getD t undef) | .cell x t => do loadVar t (← asAddr (a.tmps.getD x undef)) : Sem (List Value)).run P w = .ok us w ∧ All2 (@PRel σ ρ) ps us
 | [], ps, h => by cases h; exact ⟨[], rfl, trivial⟩
 | r :: rs, ps, h => by
  simp only [resPs] at h
  split at h
  ·rename_i p l hp hl
   cases h
   obtain ⟨u, hu, hrel⟩ := @resF_ok P _ _ _ _ _ _ _ σ hf hH hj _ _ hp
   obtain ⟨us, hus, hrels⟩ := resPs_ok hf hH hj rs hl
   refine ⟨u :: us, ?_, hrel, hrels⟩
   simp only [List.mapM_cons, Sem.run_bind]
   refine (congrArg (fun x => Result.andThen x _) hu).trans ?_
   simp only [Result.andThen_ok]
   refine (congrArg (fun x => Result.andThen x _) hus).trans ?_
   rfl
  ·cases h
structure EndI (σ : Sg) (ρ : PM) (H : HP) (w : World) (ρ' : PM) (H' : HP) (w' : World) : Prop where
 rel : @HRel σ ρ' H' w'
 j : J ρ' H' w'
 sim : SimF ρ H w ρ' H' w'
theorem EndI.unowned {σ : Sg} {D : Nat} {o : Obj} (h : EndI σ ρ H w ρ' H' w') (hD : w.heap.size ≤ D) (hno : ∀ b L, H'.Kn b → ρ' b = some L → L.B ≠ D) (hg : ∀ g L M o, ρ' g = some L → L.M = some M → ¬ M D o) : EndI σ ρ H w ρ' H' (w'.putObj D o) where
 rel := @HRel.mk σ _ _ _ (fun b i c L hc hL => @CtRel.of_heap σ _ _ _ _ _ (World.putObj_heap_other (hno b L ⟨i, c, hc⟩ hL)) _ (@HRel.rel σ _ _ _ h.rel b i c L hc hL)) (@HRel.inj σ _ _ _ h.rel) (@HRel.hy σ _ _ _ h.rel)
 j := fun g L M h1 h2 k o ho => by
  obtain ⟨h3, h4⟩ := h.j g L M h1 h2 k o ho
  refine ⟨?_, h4⟩
  rw [World.putObj_heap_other (fun hh => hg g L M o h1 h2 (by rw [hh] at ho; exact ho))]
  exact h3
 sim := ⟨h.sim.le, h.sim.grow, h.sim.dom, h.sim.knc, fun k hk hno' => by rw [World.putObj_heap_other (by omega)]; exact h.sim.fr k hk hno', h.sim.new, by rw [World.putObj_size]; exact h.sim.size, h.sim.os, h.sim.tape, h.sim.output, h.sim.old, fun hj g L M h1 h2 k o ho => by
   obtain ⟨h3, h4⟩ := h.sim.jj hj g L M h1 h2 k o ho
   refine ⟨?_, h4⟩
   rw [World.putObj_heap_other (fun hh => hg g L M o h1 h2 (by rw [hh] at ho; exact ho))]
   exact h3, h.sim.ro⟩
theorem leave_marksI {σ : Sg} {fn : Func} {tmps : Array Value} {R : Ending → World → Prop}
  (hend : ∀ w', EndI σ ρ H w ρ' H' w' → ∃ v, (results fn tmps).run P w' = .ok v w' ∧ R (.returned v) w') : ∀ (ds : List Deferred) (w' : World), EndI σ ρ H w ρ' H' w' → DfOK ρ' H' w' w.heap.size ds → LeavesInM Fence.wide 0 P fn tmps R ds .returning w'
 | [], w', s, _ => hend w' s
 | d :: ds, w', s, ⟨⟨D, h1, hm, h2, h3, h7⟩, h⟩ => by
  refine ⟨by simp, .inl ⟨D, _, by rw [h1], run_takeDeferred h2, leave_marksI hend ds _ (s.unowned hm h3.1 h3.2) ?_⟩⟩
  have keep : ∀ (es : List Deferred), (∀ d' ∈ es, ∀ D', d'.target = .collected D' → D' ≠ D) → DfOK ρ' H' w' w.heap.size es → DfOK ρ' H' (w'.putObj D (.deferred none)) w.heap.size es := by
   intro es
   induction es with
   | nil => exact fun _ _ => trivial
   | cons e es ih =>
    rintro hne ⟨⟨D', g1, gm, g2, g3, g7⟩, g⟩
    exact ⟨⟨D', g1, gm, by rw [World.putObj_heap_other (hne e (List.mem_cons_self ..) D' (by rw [g1]))]; exact g2, g3, g7⟩, ih (fun d' hd' => hne d' (List.mem_cons_of_mem _ hd')) g⟩
  exact keep ds h7 h
theorem runI_ok (hm : P.follows .mixedOrders = true) {cx : Cx} (hcx : CxOK U P cx) (hrb : cx.rb = none) {g : FuncId} {d : Inl} (hf : FnAt P g d.fn) (hrg : RangesIn U.lc cx.rk (bodyOf d.fn)) {args : List AV} {v : List VC} {outs : List (AV × HP)} (h : runI P cx d args H = some (v, outs)) (hv : ∀ z ∈ v, VCok U z) :
  (∀ o ∈ outs, Sc H o.2) ∧ ∀ σ : Sg, σ.toUs = U → ∀ (ρ : PM) (w : World) (us : Array Value), All2 (@VRel σ ρ) args us.toList → @HRel σ ρ H w → Dom ρ H.n → J ρ H w → GivesR P (PostV σ ρ H w outs) ((callFunc g us).run P w) := by
 unfold runI at h
 split at h
 rotate_left
 ·cases h
 rename_i hlen
 have hlen := Nat.le_of_ble_eq_true hlen
 split at h
 rotate_left
 ·cases h
 rename_i v1 l hcode
 split at h
 rotate_left
 ·cases h
 rename_i outs1 hall
 cases h
 obtain ⟨e1, e2⟩ := allSome_mem hall
 have K := fun (σ : Sg) (hU : σ.toUs = U) => codeS_ok (n := d.fn.ntmps) (m := 0) (r := none) hm hcx (bodyOf d.fn) hf.flow hrg hcode hv σ hU
 rw [hrb] at K
 have hH : ∀ x o, endI P d.fn x = some o → o.2 = x.2.2 ∧ (x.1 = .nrm ∨ x.1 = .rt) ∧ ∃ ps, resPs P x.2.2 x.2.1 d.fn.results.toList = some ps ∧ o.1 = retAV ps := by
  intro x o hx
  obtain ⟨e, F1, H1⟩ := x
  cases e with
  | ext id => cases hx
  | nrm =>
   have hx : (match resPs P H1 F1 d.fn.results.toList with
    | some ps => some (retAV ps, H1)
    | none => none) = some o := hx
   split at hx
   ·rename_i ps hps; cases hx; exact ⟨rfl, .inl rfl, ps, hps, rfl⟩
   ·cases hx
  | rt =>
   have hx : (match resPs P H1 F1 d.fn.results.toList with
    | some ps => some (retAV ps, H1)
    | none => none) = some o := hx
   split at hx
   ·rename_i ps hps; cases hx; exact ⟨rfl, .inr rfl, ps, hps, rfl⟩
   ·cases hx
 haveI : Inhabited (Nat → CD) := ⟨fun _ => default⟩
 refine ⟨fun o ho => ?_, fun σ hU ρ w us hargs hH' hd hj => ?_⟩
 ·obtain ⟨x, hx, hxo⟩ := e2 o ho
  rw [(hH x o hxo).1]
  exact (K { toUs := U, v := fun _ => default } rfl).st x hx
 ·rw [hf.call]
  show Calls P g us w _
  refine callsIn_wide.1 (callsIn_of_wp_marks (F := Fence.wide) (n := 0) hf.at' hf.body trivial ?_)
  have hal := All2.length hargs
  simp only [Array.length_toList] at hal
  have s0 : @SRel σ d.fn.ntmps ρ (frameF .nil 0 args) H { tmps := us ++ Array.replicate (d.fn.ntmps - us.size) Go.undef, defers := [] } w := by
   refine @SRel.mk σ _ _ _ _ _ _ (@FRel.mk σ _ _ _ _ (by simp; omega) fun t v hv => ?_) hH' hd hj
   rcases frameF_get args .nil 0 t v hv with ⟨_, h1⟩ | h1
   ·obtain ⟨u, hu, hr⟩ := All2.get hargs _ _ h1
    rw [Nat.sub_zero, Array.getElem?_toList] at hu
    exact ⟨u, by rw [Array.getElem?_append_left (Array.getElem?_eq_some_iff.1 hu).1]; exact hu, hr⟩
   ·rw [PT.get_nil] at h1; cases h1
  refine (K σ hU).wp (m0 := w.heap.size) s0 trivial (Nat.le_refl _) (DfOK.nil _ _ _ _) fun σ' he x hx ρ' a' w' s' hdf hs' => ?_
  obtain ⟨o, ho, hxo⟩ := e1 x hx
  obtain ⟨q1, q2, ps, q3, q4⟩ := hH x o hxo
  have hpost : LeavesInM Fence.wide 0 P d.fn a'.tmps (fun r w'' => ∃ u', r = .returned u' ∧ PostV σ ρ H w outs u' w'') a'.defers .returning w' := by
   refine leave_marksI (P := P) (σ := σ') (ρ := ρ) (H := H) (w := w) (ρ' := ρ') (H' := x.2.2) (fun w2 hE => ?_) _ _ ⟨@SRel.hp σ' _ _ _ _ _ _ s', @SRel.j σ' _ _ _ _ _ _ s', hs'⟩ hdf
   obtain ⟨uvs, huvs, hvr⟩ := resPs_ok (P := P) (@SRel.fr σ' _ _ _ _ _ _ s') hE.rel hE.j _ q3
   refine ⟨oneOf uvs, ?_, _, rfl, o, ho, σ', he, ρ', ?_, by rw [q1]; exact hE.sim, by rw [q1]; exact hE.rel⟩
   ·unfold results
    rw [Sem.run_bind, Array.mapM_eq_mapM_toList, Sem.run_map]
    exact congrArg (fun r : Result (List Value) => (r.andThen fun a w' => Result.ok a.toArray w').andThen fun a w' => Sem.run P (pure (if h : a.size = 1 then a[0] else Value.tuple a)) w') huvs
   ·rw [q4]
    exact @retAV_rel ρ' σ' _ _ hvr
  obtain ⟨e, F1, H1⟩ := x
  rcases q2 with q2 | q2
  ·simp only at q2; subst q2; exact hpost
  ·simp only at q2; subst q2; exact hpost
theorem putsF_rel [σ : Sg] : ∀ {ps : List Tmp} {vs : List AV} {us : List Value} {F F' : Fm} {tmps : Array Value}, putsF n F ps vs = some F' → All2 (@VRel σ ρ) vs us → @FRel σ n ρ F ⟨tmps, []⟩ →
  ps.length = us.length ∧ @FRel σ n ρ F' ⟨(ps.zip us).foldl (fun t (p : Tmp × Value) => t.setIfInBounds p.1 p.2) tmps, []⟩
 | [], [], [], F, F', tmps, h, _, hf => by cases h; exact ⟨rfl, hf⟩
 | [], [], _ :: _, _, _, _, _, h, _ => h.elim
 | [], _ :: _, _, _, _, _, h, _, _ => by cases h
 | _ :: _, [], _, _, _, _, h, _, _ => by cases h
 | p :: ps, v :: vs, [], _, _, _, _, h, _ => h.elim
 | p :: ps, v :: vs, u :: us, F, F', tmps, h, ⟨h1, h2⟩, hf => by
  simp only [putsF] at h
  split at h
  ·rename_i F1 hp
   have := @putF_rel σ _ _ _ _ _ _ _ _ hf h1 hp
   obtain ⟨k1, k2⟩ := putsF_rel h h2 this
   exact ⟨by simp [k1], k2⟩
  ·cases h
theorem endRoundA_some {b : Nat} {x : Oc} {o : AV × HP} (h : endRoundA b x = some o) : ∃ l, loopAt x.2.2 b = some l ∧ o = (.one (.lit (.bool (isNrm x.1))), x.2.2.obj b (LoopC.ct { l with st := stOf x.1, pend := pendOf x.1 })) := by
 unfold endRoundA at h
 split at h
 ·rename_i l hl
  cases h
  exact ⟨l, hl, rfl⟩
 ·cases h
theorem nilL_spec {α : Type} {l : List α} (h : nilL l = true) : l = [] := by
 cases l with
 | nil => rfl
 | cons _ _ => cases h
theorem roundA_ok (hm : P.follows .mixedOrders = true) {cx : Cx} (hcx : CxOK U P cx) {hs : Hs} {b : Nat} (hrb : cx.rb = some b) {body : Code} {F : Fm} {v : List VC} {outs : List (AV × HP)} (hfl : flowAll body = true) (hrg : RangesIn U.lc cx.rk body)
  (h : roundA P cx hs b n body F H = some (v, outs)) (hv : ∀ z ∈ v, VCok U z) : (∀ o ∈ outs, Sc H o.2) ∧ ∀ σ : Sg, σ.toUs = U → ∀ {ρ : PM} {a : Act} {w : World} {L : Loc} {R : Ending → World → Prop} {m0 : Nat}, ρ b = some L → @SRel σ n ρ F H a w → m0 ≤ w.heap.size → DfOK ρ H w m0 a.defers →
   (∀ o ∈ outs, ∀ σ', Ext H.nv σ σ' → ∀ ρ' u w', @VRel σ' ρ' o.1 u → SimF ρ H w ρ' o.2 w' → @HRel σ' ρ' o.2 w' → R (.returned u) w') → ∃ w₂, (Instr.beginRound L.B).run P w = .ok () w₂ ∧ body.wpIn (WF (some L.B)) 0 P (roundPost P L.B R) a w₂ := by
 unfold roundA at h
 split at h
 rotate_left
 ·cases h
 rename_i l hl
 split at h
 rotate_left
 ·cases h
 rename_i hst
 split at h
 rotate_left
 ·cases h
 rename_i v1 l2 hc
 split at h
 rotate_left
 ·cases h
 rename_i r1 hall0
 cases h
 obtain ⟨hall, hall'⟩ := allSome_mem hall0
 have K := fun (r : Option Nat) (σ : Sg) (hU : σ.toUs = U) => codeS_ok (n := n) (m := 0) (r := r) hm hcx body hfl hrg hc hv σ hU
 rw [hrb] at K
 refine ⟨fun o ho => ?_, fun σ hU {ρ a w L R m0} hL s hm0 df hR => ?_⟩
 ·obtain ⟨x, hx, hxe⟩ := hall' o ho
  obtain ⟨l3, _, rfl⟩ := endRoundA_some hxe
  haveI : Sg := { toUs := U, v := fun _ => default }
  exact ((St.obj _ _ _).sc.trans ((K none { toUs := U, v := fun _ => default } rfl).st x hx)).trans (St.obj _ _ _).sc
 ·have hfr := @SRel.fr σ _ _ _ _ _ _ s
  have hhp := @SRel.hp σ _ _ _ _ _ _ s
  have hdm := @SRel.dom σ _ _ _ _ _ _ s
  have hjj := @SRel.j σ _ _ _ _ _ _ s
  obtain ⟨q, hq, q1, q2, q3, q4, q5, q6⟩ := @loop_rel σ _ _ _ _ _ _ hhp hL hl
  have hqr : q.state = .ready := by
   rw [q1]
   cases hx : l.st <;> rw [hx] at hst <;> first | rfl | cases hst
  refine ⟨_, run_beginRound hq hqr, ?_⟩
  have hs2 := @Sim.record σ H w ρ b l { l with st := .busy } L q { q with state := .busy } hhp hdm hL hl hq ⟨rfl, rfl, rfl⟩ (by rw [← q2])
  have hs2f := @Sim.f σ _ _ _ _ _ _ hs2
  refine (K (some L.B) σ hU).wp (@SRel.mk σ _ _ _ _ _ _ hfr (@Sim.rel σ _ _ _ _ _ _ hs2) hs2f.dom (hs2f.jj hjj)) ⟨L, hL, rfl⟩ (Nat.le_trans hm0 hs2f.size) (DfOK.stepF hdm hs2f df) fun σ3 he3 x hx ρ3 a3 w3 s3 _ hs3 => ?_
  obtain ⟨o, ho, hoe⟩ := hall x hx
  obtain ⟨l3, hl3, rfl⟩ := endRoundA_some hoe
  have hL3 := hs3.le b L hL
  have hhp3 := @SRel.hp σ3 _ _ _ _ _ _ s3
  obtain ⟨p, hp', p1, p2, p3, p4, p5, p6⟩ := @loop_rel σ3 _ _ _ _ _ _ hhp3 hL3 hl3
  obtain ⟨e, F3, H3⟩ := x
  have fin : ∀ (jump : Option Code), jump = pendOf e → ∃ v w', (Instr.endRound L.B jump).run P w3 = .ok v w' ∧ R (Ending.returned v) w' := by
   intro jump hj
   subst hj
   have hs4 := @Sim.record σ3 H3 w3 ρ3 b l3 { l3 with st := stOf e, pend := pendOf e } L p { p with state := if (pendOf e).isNone then .ready else .done, pending := pendOf e } hhp3 (@SRel.dom σ3 _ _ _ _ _ _ s3) hL3 hl3 hp' ⟨rfl, rfl, rfl⟩ (by cases e <;> rfl)
   have hs4f := @Sim.f σ3 _ _ _ _ _ _ hs4
   have hs34 := @SimF.trans σ _ _ _ _ _ _ _ _ _ hs2f.dom hs3 hs4f
   have he : Ext H.nv σ σ3 := he3
   refine ⟨_, _, run_endRound _ hp', hR _ ho σ3 he ρ3 _ _ ?_ (@SimF.trans σ _ _ _ _ _ _ _ _ _ hdm hs2f hs34) (@Sim.rel σ3 _ _ _ _ _ _ hs4)⟩
   cases e <;> exact ⟨rfl, rfl⟩
  cases e with
  | nrm => exact fin _ rfl
  | ext id => exact fin _ rfl
  | rt => exact fin _ rfl
theorem yieldV_ok (hm : P.follows .mixedOrders = true) {cx : Cx} (hcx : CxOK U P cx) {hs : Nat → Hs} {b : Nat} (hrb : cx.rb = some b) {args : List AV} {v : List VC} {outs : List (AV × HP)} (h : yieldV P cx hs U.lc b args H = some (v, outs)) (hv : ∀ z ∈ v, VCok U z) :
  (∀ o ∈ outs, Sc H o.2) ∧ ∀ σ : Sg, σ.toUs = U → ∀ (ρ : PM) (w : World) (us : Array Value) (L : Loc), ρ b = some L → All2 (@VRel σ ρ) args us.toList → @HRel σ ρ H w → Dom ρ H.n → J ρ H w → GivesR P (PostV σ ρ H w outs) ((Instr.yield L.B us).run P w) := by
 unfold yieldV at h
 split at h
 rotate_left
 ·cases h
 rename_i l hl
 split at h
 rotate_left
 ·cases h
 rename_i F1 hp hfl
 simp only [Bool.and_eq_true] at hfl
 obtain ⟨⟨hfl1, hfl2⟩, hn1, hn2⟩ := hfl
 have hr1 : RangesIn U.lc cx.rk (U.lc l.k).assign := fun x hx => by rw [nilL_spec hn1] at hx; cases hx
 have hr2 : RangesIn U.lc cx.rk (U.lc l.k).body := fun x hx => by rw [nilL_spec hn2] at hx; cases hx
 split at h
 rotate_left
 ·cases h
 rename_i v1 l1 hc1
 obtain ⟨v2, h0, rfl⟩ := addV_some h
 have hv1 : ∀ z ∈ v1, VCok U z := fun z hz => hv z (List.mem_append_left _ hz)
 obtain ⟨hb1, hb2⟩ := bindV_spec h0
 have K1 := fun (m : Nat) (r : Option Nat) (σ : Sg) (hU : σ.toUs = U) => codeS_ok (n := l.n) (m := m) (r := r) hm hcx (U.lc l.k).assign hfl1 hr1 hc1 hv1 σ hU
 rw [hrb] at K1
 have hth : ∀ x ∈ l1, ∃ F2 H2, x = (.nrm, F2, H2) ∧ ∃ v3 zs, roundA P cx (hs l.k) b l.n (U.lc l.k).body F2 H2 = some (v3, zs) ∧ (∀ z ∈ zs, z ∈ outs) ∧ ∀ z ∈ v3, VCok U z := by
  intro x hx
  obtain ⟨v3, zs, h1, h2, h3⟩ := hb1 x hx
  obtain ⟨e, F2, H2⟩ := x
  cases e with
  | nrm => exact ⟨F2, H2, rfl, v3, zs, h1, h2, fun z hz => hv z (List.mem_append_right _ (h3 z hz))⟩
  | ext id => cases h1
  | rt => cases h1
 refine ⟨fun o ho => ?_, fun σ hU ρ w us L hL hargs hH hd hj => ?_⟩
 ·obtain ⟨x, hx, v3, zs, h1, h2⟩ := hb2 o ho
  obtain ⟨F2, H2, rfl, v4, zs', h3, h4, h5⟩ := hth x hx
  have h1 : roundA P cx (hs l.k) b l.n (U.lc l.k).body F2 H2 = some (v3, zs) := h1
  rw [h3] at h1
  cases h1
  haveI : Sg := { toUs := U, v := fun _ => default }
  exact ((K1 0 none { toUs := U, v := fun _ => default } rfl).st _ hx).trans ((roundA_ok hm hcx hrb hfl2 hr2 h3 h5).1 o h2)
 ·obtain ⟨r, hr, r1, r2, r3, r4, r5, r6⟩ := @loop_rel σ _ _ _ _ _ _ hH hL hl
  rw [show (@Us.lc σ.toUs l.k) = U.lc l.k by rw [hU]] at r3 r4 r5
  obtain ⟨hlen, hf⟩ := putsF_rel hp hargs r6
  have hy := run_yield (P := P) (w := w) (args := us) hr (by rw [r3, ← Array.length_toList, ← hlen, Array.length_toList])
  rw [hy]
  show RoundIn Fence.wide 0 P L.B r.fn _ r.assign r.body w _
  refine roundIn_of_wpIn trivial ?_
  rw [r4, r5]
  have hzip : ((r.params.zip us).foldl (fun tmps (x : Tmp × Value) => tmps.setIfInBounds x.1 x.2) r.tmps) = ((U.lc l.k).ps.toList.zip us.toList).foldl (fun t (p : Tmp × Value) => t.setIfInBounds p.1 p.2) r.tmps := by
   rw [r3, ← Array.foldl_toList, Array.toList_zip]
  have s0 : @SRel σ l.n ρ F1 H { tmps := (r.params.zip us).foldl (fun tmps (x : Tmp × Value) => tmps.setIfInBounds x.1 x.2) r.tmps, defers := [] } w := @SRel.mk σ _ _ _ _ _ _ (by rw [hzip]; exact hf) hH hd hj
  refine (K1 0 (some L.B) σ hU).wp s0 ⟨L, hL, rfl⟩ (Nat.zero_le _) (DfOK.nil _ _ _ 0) fun σ1 he1 x hx ρ1 a1 w1 s1 df1 hs1 => ?_
  obtain ⟨F2, H2, rfl, v4, zs, h1, h2, h3⟩ := hth x hx
  have hL1 := hs1.le b L hL
  exact (roundA_ok hm hcx hrb hfl2 hr2 h1 h3).2 σ1 (he1.us.trans hU) hL1 s1 (Nat.zero_le _) df1 fun o ho σ' he' ρ' u w' hv hs hrel => ⟨u, rfl, o, h2 o ho, σ', he1.trans ((K1 0 none { toUs := U, v := fun _ => default } rfl).st _ hx).2.2 he', ρ', hv, @SimF.trans σ _ _ _ _ _ _ _ _ _ hd hs1 hs, hrel⟩
structure TbOK (U : Us) (P : Program) (T : Tb) : Prop where
 f : ∀ g d, T.f g = some d → FnAt P g d.fn ∧ RangesIn U.lc (keyOf g) (bodyOf d.fn)
 lc : T.lc = U.lc
theorem TbOK.ent {T : Tb} (h : TbOK U P T) : ∀ g, T.ent g = true → ∀ us w, (callFunc g us).run P w = .ok (.enter g us) w := by
 intro g hg us w
 unfold Tb.ent at hg
 split at hg
 ·rename_i d hd
  exact (h.f g d hd).1.call us w
 ·cases hg
theorem orvK_ok (hm : P.follows .mixedOrders = true) {ora : OraM} (hora : OraAll U P ora) {fuel fk : Nat} {T : Tb} (hT : TbOK U P T) : ∀ (k : Nat), OraVOK U P (orvK P ora fuel fk T k)
 | 0 => noV_ok
 | k + 1 => by
  have ih := orvK_ok hm hora (fuel := fuel) (fk := fk) hT k
  intro t args H v outs h hv
  cases t with
  | f g =>
   have h' : (match T.f g with
    | some d => runI P ⟨ora, orvK P ora fuel fk T k, T.ent, fuel, fk, none, keyOf g⟩ d args H
    | none => none) = some (v, outs) := h
   split at h'
   ·rename_i d hd
    obtain ⟨h1, h2⟩ := hT.f g d hd
    obtain ⟨k1, k2⟩ := runI_ok hm (⟨hora, ih, hT.ent⟩ : CxOK U P ⟨ora, orvK P ora fuel fk T k, T.ent, fuel, fk, none, keyOf g⟩) rfl h1 h2 h' hv
    exact ⟨k1, fun σ hU ρ w us s hs hargs hH hd hj => by rw [show s = callFunc g us from hs]; exact k2 σ hU ρ w us hargs hH hd hj⟩
   ·cases h'
  | y b =>
   have h' : yieldV P ⟨ora, orvK P ora fuel fk T k, T.ent, fuel, fk, some b, fun _ => 0⟩ T.y T.lc b args H = some (v, outs) := h
   rw [hT.lc] at h'
   obtain ⟨k1, k2⟩ := yieldV_ok hm (⟨hora, ih, hT.ent⟩ : CxOK U P ⟨ora, orvK P ora fuel fk T k, T.ent, fuel, fk, some b, fun _ => 0⟩) rfl h' hv
   refine ⟨k1, fun σ hU ρ w us s hs hargs hH hd hj => ?_⟩
   obtain ⟨L, hL, he⟩ := hs
   rw [he]
   exact k2 σ hU ρ w us L hL hargs hH hd hj
end
end Go.Sx

set_option linter.unusedSimpArgs false
set_option linter.unusedSectionVars false
set_option linter.unusedVariables false
namespace Go.Sx
noncomputable def lookFn : List (FuncId × Func) → Nat → Option Func
 | [], _ => none
 | x :: r, k => match Nat.beq k x.1 with
  | true => some x.2
  | false => lookFn r k
noncomputable def lcOf (L : List (FuncId × Func)) (k : Nat) : LCd := match lookFn L (Nat.div k 1000) with
 | some fn => lookL (rangeL (bodyOf fn)) (Nat.mod k 1000)
 | none => ⟨#[], .skip, .skip⟩
theorem rangesIn_nil {lc : Nat → LCd} {rk : Nat → Nat} {c : Code} (h : nilL (rangeL c) = true) : RangesIn lc rk c := fun x hx => by
 rw [nilL_spec h] at hx
 cases hx
noncomputable def lookI : List (FuncId × Inl) → FuncId → Option Inl
 | [], _ => none
 | x :: r, k => match Nat.beq k x.1 with
  | true => some x.2
  | false => lookI r k
theorem lookI_mem : ∀ {l : List (FuncId × Inl)} {g : FuncId} {d : Inl}, lookI l g = some d → (g, d) ∈ l
 | [], g, d, h => by cases h
 | x :: r, g, d, h => by
  unfold lookI at h
  split at h
  ·rename_i hb
   cases h
   rw [Nat.eq_of_beq_eq_true hb]
   exact List.mem_cons_self ..
  ·exact List.mem_cons_of_mem _ (lookI_mem h)
variable {P : Program}
structure InlOK (U : Us) (P : Program) (x : FuncId × Inl) : Prop where
 at' : FnAt P x.1 x.2.fn
 rg : RangesIn U.lc (keyOf x.1) (bodyOf x.2.fn)
theorem TbOK.of {U : Us} {l : List (FuncId × Inl)} {y : Nat → Hs} (h : ∀ x ∈ l, InlOK U P x) : TbOK U P ⟨lookI l, y, U.lc⟩ := ⟨fun g d hd => ⟨(h _ (lookI_mem hd)).at', (h _ (lookI_mem hd)).rg⟩, rfl⟩
theorem InlOK.of {U : Us} {g : FuncId} {fn : Func} {hs : Hs} (h : FnAt P g fn) (hn : nilL (rangeL (bodyOf fn)) = true) : InlOK U P (g, ⟨fn, hs⟩) := ⟨h, rangesIn_nil hn⟩
def InlsOK (U : Us) (P : Program) (l : List (FuncId × Inl)) : Prop := ∀ x ∈ l, InlOK U P x
theorem InlsOK.nil {U : Us} : InlsOK U P [] := fun x hx => by cases hx
theorem InlsOK.cons {U : Us} {x : FuncId × Inl} {l : List (FuncId × Inl)} (h : InlOK U P x) (hl : InlsOK U P l) : InlsOK U P (x :: l) := fun y hy => by
 rcases List.mem_cons.1 hy with rfl | hy
 ·exact h
 ·exact hl y hy
noncomputable def noY : Nat → Hs := fun _ => ⟨fun _ => none, fun _ _ _ => []⟩
noncomputable def noH : Hs := ⟨fun _ => none, fun _ _ _ => []⟩
noncomputable def cxOf (P : Program) [Plain P] (ora : OraM) (fuel fk : Nat) (T : Tb) (d : Nat) (f : FuncId) : Cx := ⟨ora, orvK P ora fuel fk T d, T.ent, fuel, fk, none, keyOf f⟩
theorem SpecOK.ofV {P : Program} [Plain P] {U : Us} {T : FuncId → Option Fsp} {l : List (FuncId × Inl)} {y : Nat → Hs} {dp : Nat} {f : FuncId} {fn : Func} {fuel fk : Nat} {hs : Hs} {S : Fsp} {v : List VC} {outs : List (List X × List (List X))} (hm : P.follows .mixedOrders = true) (hT : ∀ f S, T f = some S → SpecOK U P f S)
  (hl : ∀ x ∈ l, InlOK U P x) (hf : FnAt P f fn) (hrg : RangesIn U.lc (keyOf f) (bodyOf fn))
  (h : runV P (cxOf P (specO T) fuel fk ⟨lookI l, y, U.lc⟩ dp f) hs fn (bodyOf fn) S = some (v, outs)) (hv : ∀ z ∈ v, VCok U z) (hend : ∀ o ∈ outs, ∀ σ : Sg, σ.toUs = U → @Holds σ o.1 → ∃ q ∈ S.outs, @Holds σ q.1 ∧ q.2.map (@denL σ) = o.2.map (@denL σ)) : SpecOK U P f S :=
 specOK_of_runV hm ⟨specO_ok hT, orvK_ok hm (specO_ok hT) (TbOK.of hl) dp, (TbOK.of hl).ent⟩ rfl hrg hf.at' hf.body hf.call hf.flow h hv hend
end Go.Sx

set_option linter.unusedSimpArgs false
set_option linter.unusedSectionVars false
set_option linter.unusedVariables false
namespace Go.Sx
open Go.Sort
def encP (x : Int × Int) : List Value := [.int .i64 x.1, .int .i64 x.2]
def ltP (x y : Int × Int) : Bool := decide (x.1 < y.1)
structure SortsP (P : Program) (f : FuncId) (fv : Value) : Prop where
 none : ∀ (p : Option Addr) (cap : Nat) (w : World), GivesR P (fun u w' => u = .tuple #[] ∧ w' = w) ((callFunc f #[.slice p 0 cap, fv]).run P w)
 all : ∀ (blk off cap : Nat) (d : Array (Int × Int)) (w : World), HoldsK encP 2 w blk off d → blk < w.heap.size → d.size < 4611686018427387904 →
  GivesR P (fun u w' => u = .tuple #[] ∧ ∃ d' n os, PermIn 0 d.size d d' ∧ SortedIn ltP 0 d.size d' ∧ w' = Go.Proofs.sortWorldK encP 2 w blk off n d' os) ((callFunc f #[.slice (some ⟨blk, off, .none⟩) d.size cap, fv]).run P w)
def RowsUp (rows : List (List CD)) : Prop := rows.Pairwise fun a b => (a.getD 0 default).iv ≤ (b.getD 0 default).iv
def SortFx (U : Us) (fx : X → X → List X) : Prop := ∀ σ : Sg, σ.toUs = U → ∀ x e : X, (@den σ x).rows.Perm (@den σ e).rows → RowsUp (@den σ x).rows → @Holds σ (fx x e)
noncomputable section
def isT (x : Option Bool) : Bool := match x with
 | some true => true
 | _ => false
def sortH (b : Nat) (w : List Srt) (G : List Nat) (n : X) (H : HP) (l : List X) : HP := ⟨(H.obj b (.rows w G (.var H.nv) n)).t, H.n, minN H.lo b, l ++ (.ap .lt [zI, n]) :: H.hy, Nat.succ H.nv⟩
def pairS : List Srt := [.int .i64, .int .i64]
def sortV (f g : Nat) (fx : X → X → List X) : OraV := fun t args H =>
 match t, args with
 | .f f', [.one (.os _ b n s _ _), .one (.lit (.func (.func g') a c))] =>
  match rowsAt H b with
  | some (w, G, e, nb) =>
   match (Nat.beq f' f && (Nat.beq g' g && (Nat.beq a.size 0 && Nat.beq c.size 0))) && (eqX n nb && (eqSrts w pairS && (scopeH H && isT (known H.hy (.ap .le [n, .lit (.int .i64 1073741825)]))))) with
   | true => some ([], [(.tup [], H.learn (.ap .le [n, zI])), (.tup [], sortH b w G n H (fx (.var H.nv) e))])
   | false => none
  | none => none
 | _, _ => none
def orV2 (a b : OraV) : OraV := fun t args H => match a t args H with
 | some r => some r
 | none => b t args H
end
theorem orV2_ok {U : Us} {P : Program} {a b : OraV} (ha : OraVOK U P a) (hb : OraVOK U P b) : OraVOK U P (orV2 a b) := by
 intro t args H v outs h
 unfold orV2 at h
 split at h
 ·rename_i r hr
  cases h
  exact ha t args H v outs hr
 ·exact hb t args H v outs h
theorem SpecOK.ofW {P : Program} [Plain P] {U : Us} {T : FuncId → Option Fsp} {l : List (FuncId × Inl)} {y : Nat → Hs} {dp : Nat} {f : FuncId} {fn : Func} {fuel fk : Nat} {hs : Hs} {S : Fsp} {a : OraV} {v : List VC} {outs : List (List X × List (List X))} (hm : P.follows .mixedOrders = true) (hT : ∀ f S, T f = some S → SpecOK U P f S)
  (hl : ∀ x ∈ l, InlOK U P x) (ha : OraVOK U P a) (hf : FnAt P f fn) (hrg : RangesIn U.lc (keyOf f) (bodyOf fn))
  (h : runV P ⟨specO T, orV2 a (orvK P (specO T) fuel fk ⟨lookI l, y, U.lc⟩ dp), Tb.ent ⟨lookI l, y, U.lc⟩, fuel, fk, none, keyOf f⟩ hs fn (bodyOf fn) S = some (v, outs)) (hv : ∀ z ∈ v, VCok U z) (hend : ∀ o ∈ outs, ∀ σ : Sg, σ.toUs = U → @Holds σ o.1 → ∃ q ∈ S.outs, @Holds σ q.1 ∧ q.2.map (@denL σ) = o.2.map (@denL σ)) : SpecOK U P f S :=
 specOK_of_runV hm ⟨specO_ok hT, orV2_ok ha (orvK_ok hm (specO_ok hT) (TbOK.of hl) dp), (TbOK.of hl).ent⟩ rfl hrg hf.at' hf.body hf.call hf.flow h hv hend
section
variable [Sg] {P : Program} {H H' : HP} {w : World} {ρ : PM}
theorem Sim.reobj2 {w' : World} {b : Nat} {x : Ct} {L : Loc} (hH : HRel ρ H w) (hd : Dom ρ H.n) (hL : ρ b = some L) (hb : ∃ c, H.cell b 0 = some c)
  (hx : CtRel ρ w' L 0 x) (hw : ∀ k, k < w.heap.size → k ≠ L.B → w'.heap[k]? = w.heap[k]?) (hs : w.heap.size ≤ w'.heap.size) (hos : w'.os = w.os) (ht : w'.tape = w.tape) (ho : w'.output = w.output) :
  Sim ρ H w ρ (H.obj b x) w' := by
 have hk : H.Kn b := hb.imp' (fun _ => 0) fun c hc => ⟨c, hc⟩
 have hkn : ∀ b', (H.obj b x).Kn b' → H.Kn b' := by
  rintro b' ⟨i, c, hc⟩
  rw [HP.cell_obj] at hc
  by_cases hbb : b' = b
  ·subst hbb; exact hk
  ·rw [if_neg hbb] at hc; exact ⟨i, c, hc⟩
 refine Sim0.same ?_ hd
 exact {
  le := PM.le.refl ρ
  grow := Nat.le_refl _
  dom := hd
  rel := by
   refine ⟨fun b' i c K hc hK => ?_, fun a a' K K' g1 g2 => hH.inj a a' K K' (hkn a g1) (hkn a' g2), hH.hy⟩
   rw [HP.cell_obj] at hc
   by_cases hbb : b' = b
   ·subst hbb
    rw [if_pos rfl] at hc
    rw [hL] at hK
    cases hK
    split at hc
    ·rename_i hi
     subst hi
     cases hc
     exact hx
    ·cases hc
   ·rw [if_neg hbb] at hc
    have hr := hH.rel b' i c K hc hK
    refine hr.of_heap (hw K.B hr.lt fun hB => ?_)
    exact hbb (hH.inj b' b K L ⟨i, c, hc⟩ hk hK hL hB)
  knc := fun b' i _ hc => by
   rw [HP.cell_obj]
   by_cases hbb : b' = b
   ·subst hbb
    rw [if_pos rfl]
    split
    ·rename_i hi
     subst hi
     obtain ⟨c, hc'⟩ := hb
     rw [hc] at hc'; cases hc'
    ·rfl
   ·rw [if_neg hbb]; exact hc
  fr := fun k hk' hno => hw k hk' fun hh => hno b L hk hL hh.symm
  new := fun b' K g1 g2 => by rw [g1] at g2; cases g2
  size := hs
  os := hos
  tape := ht
  output := ho
  old := fun b' K g1 g2 => by rw [g1] at g2; cases g2 }
end
def pairD (x : Int × Int) : List CD := [.v (.int .i64 x.1), .v (.int .i64 x.2)]
def pairI (r : List CD) : Int × Int := ((r.getD 0 default).iv, (r.getD 1 default).iv)
theorem pair_row {m : Mem} {row : List CD} {f : Nat → Option Value} (h : RSs m pairS row f) : row = pairD (pairI row) ∧ f 0 = some (.int .i64 (pairI row).1) ∧ f 1 = some (.int .i64 (pairI row).2) ∧ litOK (.int .i64 (pairI row).1) = true ∧ litOK (.int .i64 (pairI row).2) = true := by
 obtain ⟨c, r, u, rfl, h2, ⟨n, rfl, rfl, h3⟩, c', r', u', rfl, h5, ⟨n', rfl, rfl, h6⟩, h7⟩ := h
 have h7 : r' = [] := h7
 subst h7
 exact ⟨rfl, h2, h5, h3, h6⟩
theorem row_pair {m : Mem} {x : Int × Int} {f : Nat → Option Value} (h0 : f 0 = some (.int .i64 x.1)) (h1 : f 1 = some (.int .i64 x.2)) (k0 : litOK (.int .i64 x.1) = true) (k1 : litOK (.int .i64 x.2) = true) : RSs m pairS (pairD x) f :=
 ⟨_, _, _, rfl, h0, ⟨_, rfl, rfl, k0⟩, _, _, _, rfl, h1, ⟨_, rfl, rfl, k1⟩, rfl⟩
theorem flat_at (d : Array (Int × Int)) {i : Nat} (hi : i < d.size) : (flatK encP 2 d)[i * 2]! = .int .i64 d[i].1 ∧ (flatK encP 2 d)[i * 2 + 1]! = .int .i64 d[i].2 := by
 have h0 := get_flatK encP 2 d (i * 2) (by omega)
 have h1 := get_flatK encP 2 d (i * 2 + 1) (by omega)
 rw [show i * 2 / 2 = i by omega, show i * 2 % 2 = 0 by omega, getElem!_pos d i hi] at h0
 rw [show (i * 2 + 1) / 2 = i by omega, show (i * 2 + 1) % 2 = 1 by omega, getElem!_pos d i hi] at h1
 exact ⟨h0, h1⟩
theorem permIn_list {d d' : Array (Int × Int)} (h : PermIn 0 d.size d d') : d'.toList.Perm d.toList := by
 obtain ⟨h1, _, h3⟩ := h
 have e1 : d'.extract 0 d.size = d' := by rw [← h1]; exact Array.extract_size
 have e2 : d.extract 0 d.size = d := Array.extract_size
 rw [e1, e2] at h3
 exact h3
theorem sortedIn_rows {d : Array (Int × Int)} (h : SortedIn ltP 0 d.size d) : RowsUp (d.toList.map pairD) := by
 unfold RowsUp
 rw [List.pairwise_map, List.pairwise_iff_getElem]
 intro i j hi hj hij
 have hi' : i < d.size := by simpa using hi
 have hj' : j < d.size := by simpa using hj
 have := h i j (Nat.zero_le _) hij hj'
 unfold ltP at this
 rw [getElem!_pos d i hi', getElem!_pos d j hj', decide_eq_false_iff_not] at this
 show (d.toList[i]).1 ≤ (d.toList[j]).1
 simp only [Array.getElem_toList]
 omega
section
variable {P : Program} {U : Us}
theorem sortV_ok {f g : Nat} {fx : X → X → List X} (hS : SortsP P f (.func (.func g) #[] #[])) (hfx : SortFx U fx) : OraVOK U P (sortV f g fx) := by
 intro t args H v outs h hv
 unfold sortV at h
 split at h
 rotate_left
 ·cases h
 rename_i f' z b n s G0 ec g' a c
 split at h
 rotate_left
 ·cases h
 rename_i ws G e nb hrw
 split at h
 rotate_left
 ·cases h
 rename_i hok
 have houts := congrArg Prod.snd (Option.some.inj h)
 simp only at houts
 simp only [Bool.and_eq_true] at hok
 obtain ⟨⟨q1, q2, q3, q4⟩, q5, q6, q7, q8⟩ := hok
 have q1 := Nat.eq_of_beq_eq_true q1
 have q2 := Nat.eq_of_beq_eq_true q2
 have q3 : a = #[] := Array.eq_empty_of_size_eq_zero (Nat.eq_of_beq_eq_true q3)
 have q4 : c = #[] := Array.eq_empty_of_size_eq_zero (Nat.eq_of_beq_eq_true q4)
 have q5 := eqX_spec q5
 have q6 := eqSrts_spec q6
 subst q1
 subst q2
 subst q3
 subst q4
 subst q5
 subst q6
 clear h
 subst houts
 refine ⟨fun o ho => ?_, fun σ hU ρ w us s' hs' hus hH hd hj => ?_⟩
 ·rcases List.mem_cons.1 ho with rfl | ho
  ·exact @Sc.refl sg0 H
  ·rw [List.mem_singleton.1 ho]
   have hsc := @St.sc sg0 _ _ (@St.obj sg0 H b (.rows pairS G (.var H.nv) n))
   exact ⟨hsc.1, hsc.2.1, Nat.le_succ _⟩
 ·have hs' : s' = callFunc f' us := hs'
  subst hs'
  obtain ⟨u1, u2, hus', k1, k2⟩ : ∃ u1 u2, us = #[u1, u2] ∧ @CRel σ ρ (.os z b n s G0 ec) u1 ∧ u2 = .func (.func g') #[] #[] := by
   match hl : us.toList, hus with
   | [u1, u2], ⟨h1, h2, _⟩ => exact ⟨u1, u2, by rw [← Array.toList_inj, hl], h1, h2.1⟩
  subst hus'
  subst k2
  obtain ⟨_, hr⟩ := k1
  have hbound : (@den σ n).iv ≤ 1073741825 := by
   unfold isT at q8
   split at q8
   ·rename_i hk
    exact of_decide_eq_true (@known_ok σ _ (@HRel.hy σ _ _ _ hH) _ _ hk)
   ·cases q8
  have fin0 : ∀ (p : Option Addr) (cap : Nat), (@den σ n).iv = 0 → u1 = .slice p 0 cap → GivesR P (PostV σ ρ H w [(.tup [], H.learn (.ap .le [n, zI])), (.tup [], sortH b pairS G n H (fx (.var H.nv) e))]) ((callFunc f' #[u1, .func (.func g') #[] #[]]).run P w) := by
   intro p cap hn hu1
   subst hu1
   refine GivesR.mono (fun u w' ⟨h1, h2⟩ => ?_) (hS.none p cap w)
   subst h1
   subst h2
   have hs := @Sim.f σ _ _ _ _ _ _ (@Sim.refl σ _ _ _ hH hd)
   refine ⟨_, List.mem_cons_self .., σ, Ext.refl _ _, ρ, ⟨#[], rfl, trivial⟩, ⟨hs.le, hs.grow, hs.dom, hs.knc, hs.fr, hs.new, hs.size, hs.os, hs.tape, hs.output, hs.old, hs.jj, hs.ro⟩, @HRel.learn1 σ _ _ _ _ hH ?_⟩
   show decide ((@den σ n).iv ≤ 0) = true
   exact decide_eq_true (by omega)
  rcases hr with ⟨e0, e1, e1', e2⟩ | ⟨e0, L, k, cap, e1, e2, e3, e4, e5, e6, e7⟩
  ·exact fin0 none 0 e1 e2
  ·by_cases hk0 : k = 0
   ·subst hk0
    exact fin0 _ cap (by omega) e3
   ·subst e3
    obtain ⟨_, hG', g0, arr, tt, fr, g1, g2, g3, g4, g5, g6⟩ := @HRel.rel σ _ _ _ hH b 0 _ L (@rowsAt_spec σ H b _ _ _ _ hrw).1 e1
    have hkl : (@den σ e).rows.length = k := by omega
    have hlen2 : pairS.length = 2 := rfl
    rw [hlen2] at g4
    let d : Array (Int × Int) := ((@den σ e).rows.map pairI).toArray
    have hds : d.size = k := by simp [d, hkl]
    have hdl : d.toList = (@den σ e).rows.map pairI := by simp [d]
    have hrow : ∀ i (hi : i < d.size), (@den σ e).rows[i]? = some (pairD d[i]) ∧ arr[L.o + i * 2]? = some (.int .i64 d[i].1) ∧ arr[L.o + i * 2 + 1]? = some (.int .i64 d[i].2) ∧ litOK (.int .i64 d[i].1) = true ∧ litOK (.int .i64 d[i].2) = true := by
     intro i hi
     have hi' : i < (@den σ e).rows.length := by omega
     have hdi : d[i] = pairI ((@den σ e).rows[i]) := by simp [d]
     have h6 := g6 i _ (List.getElem?_eq_getElem hi')
     rw [hlen2] at h6
     obtain ⟨p1, p2, p3, p4, p5⟩ := pair_row h6
     rw [hdi, ← p1]
     exact ⟨List.getElem?_eq_getElem hi', p2, p3, p4, p5⟩
    have hrows : (@den σ e).rows = d.toList.map pairD := by
     apply List.ext_getElem?
     intro i
     by_cases hi : i < d.size
     ·rw [(hrow i hi).1, List.getElem?_map, List.getElem?_eq_getElem (by simpa using hi)]
      simp
     ·rw [List.getElem?_eq_none (by omega), List.getElem?_eq_none (by simp; omega)]
    have hHK : HoldsK encP 2 w L.B L.o d := by
     intro j hj'
     rw [size_flatK] at hj'
     have hi : j / 2 < d.size := by omega
     obtain ⟨_, p2, p3, _, _⟩ := hrow (j / 2) hi
     obtain ⟨f1, f2⟩ := flat_at d hi
     refine ⟨?_, frozen?_of g1 g2 (by omega)⟩
     rw [cell?_of g1]
     show _ = some (flatK encP 2 d)[j]!
     rcases Nat.mod_two_eq_zero_or_one j with hm | hm
     ·have ej : j = j / 2 * 2 := by omega
      rw [ej, f1, ← ej]
      rw [show L.o + j = L.o + j / 2 * 2 by omega]
      exact p2
     ·have ej : j = j / 2 * 2 + 1 := by omega
      rw [ej, f2, ← ej]
      rw [show L.o + j = L.o + j / 2 * 2 + 1 by omega]
      exact p3
    have hlt : L.B < w.heap.size := (Array.getElem?_eq_some_iff.1 g1).1
    have hrun := hS.all L.B L.o cap d w hHK hlt (by omega)
    rw [hds] at hrun
    refine GivesR.mono (fun u w' ⟨h1, d', nd, os, h2, h3, h4⟩ => ?_) hrun
    subst h1
    have hd's : d'.size = d.size := by rw [hds]; have := h2.1; omega
    have hperm : d'.toList.Perm d.toList := permIn_list (by rw [hds]; exact h2)
    let rows' : List (List CD) := d'.toList.map pairD
    let σ' := σ.more H.nv (.sl false rows')
    have hext : Ext H.nv σ σ' := ext_more σ H.nv _
    have hsc := q7
    unfold scopeH at hsc
    rw [Bool.and_eq_true] at hsc
    have scb := scopeBk_get (scopeT_get hsc.1 b _ (@rowsAt_spec σ H b _ _ _ _ hrw).2) 0 _ rfl
    simp only [scopeCt, Bool.and_eq_true] at scb
    have hde : @den σ' e = @den σ e := den_ext hext e scb.1
    have hdn : @den σ' n = @den σ n := den_ext hext n scb.2
    have hvar : @den σ' (.var H.nv) = .sl false rows' := if_pos rfl
    have hvr : (@den σ' (.var H.nv)).rows = rows' := by rw [hvar]; rfl
    have hH1 : @HRel σ' ρ H w := HRel.ext hext q7 hH
    have hrl : rows'.length = k := by simp [rows', hd's, hds]
    have hheap : w'.heap = (w.heap.modify L.B (onCells (putCells id L.o (flatK encP 2 d')))) ++ os := by rw [h4]; rfl
    have hwB : w'.heap[L.B]? = some (.cells (putCells id L.o (flatK encP 2 d') arr) tt fr) := by
     rw [hheap, Array.getElem?_append_left (by simpa using hlt), Array.getElem?_modify, if_pos rfl, g1]
     rfl
    have hpsz : (putCells id L.o (flatK encP 2 d') arr).size = arr.size := by simp [putCells]
    have hpget : ∀ j, j < d'.size * 2 → (putCells id L.o (flatK encP 2 d') arr)[L.o + j]? = some (flatK encP 2 d')[j]! := by
     intro j hj'
     have hja : L.o + j < arr.size := by omega
     simp only [putCells, Array.getElem?_mapIdx, Array.getElem?_eq_getElem hja, Option.map_some, size_flatK]
     rw [if_pos ⟨by omega, by omega⟩, show L.o + j - L.o = j by omega]
     rfl
    have hx : @CtRel σ' ρ w' L 0 (.rows pairS G (.var H.nv) n) := by
     refine ⟨rfl, hG', by rw [hdn, hvr, hrl]; exact e2, _, tt, fr, hwB, by rw [hpsz]; exact g2, by rw [hpsz]; exact g3, by rw [hpsz, hvr, hrl, hlen2, ← hkl]; exact g4, by rw [hvr, hrl, ← hkl]; exact g5, fun i row hi => ?_⟩
     rw [hvr] at hi
     have hil : i < d'.size := by
      have := (List.getElem?_eq_some_iff.1 hi).1
      omega
     have erow : row = pairD d'[i] := by
      rw [List.getElem?_map, List.getElem?_eq_getElem (by simpa using hil)] at hi
      simpa using hi.symm
     have hmem : d'[i] ∈ d.toList := hperm.mem_iff.1 (by simp)
     obtain ⟨j, hj1, hj2⟩ := List.getElem_of_mem hmem
     obtain ⟨_, _, _, p4, p5⟩ := hrow j (by simpa using hj1)
     simp only [Array.getElem_toList] at hj2
     rw [hj2] at p4 p5
     obtain ⟨f1, f2⟩ := flat_at d' hil
     rw [erow, hlen2]
     refine row_pair ?_ ?_ p4 p5
     ·show (putCells id L.o (flatK encP 2 d') arr)[L.o + i * 2 + 0]? = _
      rw [Nat.add_zero, hpget (i * 2) (by omega), f1]
     ·show (putCells id L.o (flatK encP 2 d') arr)[L.o + i * 2 + 1]? = _
      rw [Nat.add_assoc, hpget (i * 2 + 1) (by omega), f2]
    have hs2 := @Sim.reobj2 σ' H w ρ w' b _ L hH1 hd e1 ⟨_, (@rowsAt_spec σ H b _ _ _ _ hrw).1⟩ hx (fun k' hk1 hk2 => by
     rw [hheap, Array.getElem?_append_left (by simpa using hk1), Array.getElem?_modify, if_neg (fun hh => hk2 hh.symm)]) (by rw [hheap]; simp) (by rw [h4]; rfl) (by rw [h4]; rfl) (by rw [h4]; rfl)
    have hs2f := @Sim.f σ' _ _ _ _ _ _ hs2
    have hs2r := @Sim.rel σ' _ _ _ _ _ _ hs2
    refine ⟨_, List.mem_cons_of_mem _ (List.mem_singleton.2 rfl), σ', hext, ρ, ⟨#[], rfl, trivial⟩, ⟨hs2f.le, hs2f.grow, hs2f.dom, hs2f.knc, hs2f.fr, hs2f.new, hs2f.size, hs2f.os, hs2f.tape, hs2f.output, hs2f.old, hs2f.jj, hs2f.ro⟩, @HRel.mk σ' _ _ _ (fun b' i' c' L' hc' hL' => @HRel.rel σ' _ _ _ hs2r b' i' c' L' hc' hL') (fun b1 b2 L1 L2 h1 h2 => @HRel.inj σ' _ _ _ hs2r b1 b2 L1 L2 h1 h2) fun y hy => ?_⟩
    rcases List.mem_append.1 hy with hy | hy
    ·refine hfx σ' (hext.us.trans hU) (.var H.nv) e ?_ ?_ y hy
     ·rw [hvr, hde, hrows]
      exact hperm.map _
     ·rw [hvr]
      exact sortedIn_rows (by rw [hd's, hds]; exact h3)
    ·rcases List.mem_cons.1 hy with rfl | hy
     ·show decide ((0 : Int) < (@den σ' n).iv) = true
      rw [hdn]
      exact decide_eq_true (by omega)
     ·exact @HRel.hy σ' _ _ _ hH1 y hy
end
end Go.Sx
