/-
  What a seat's functions (lines of words) make, in plain words. Conditions: none.
-/
import Derived.Test.YtamhchkknlbanaaDoorBeBase
import Derived.Lib.BytesEntry
import Derived.RangeFuncLeaves
import Derived.Lib.AtoiAll
import Derived.Lib.ItoaNum
import Derived.Lib.Bytealg
set_option linter.unusedSimpArgs false
set_option linter.unusedSectionVars false
set_option linter.unusedVariables false
namespace Go.Sx
section
variable [Sg]
theorem aa3 (n : Nat) : den (.var n) = Sg.v n := rfl
theorem aa6 (u : Value) : den (.lit u) = .v u := rfl
theorem abg (k : IntKind) (a b : X) : den (.ap (.add k) [a, b]) = vInt k ((den a).iv + (den b).iv) := rfl
theorem acd (k : IntKind) (a b : X) : den (.ap (.sub k) [a, b]) = vInt k ((den a).iv - (den b).iv) := rfl
theorem ab7 (k : IntKind) (a b : X) : den (.ap (.mul k) [a, b]) = vInt k ((den a).iv * (den b).iv) := rfl
theorem aap (k : IntKind) (a : X) : den (.ap (.cast k) [a]) = vInt k (den a).iv := rfl
theorem w_wr (k : IntKind) (a : X) : den (.ap (.wr k) [a]) = vInt k (k.wrap (den a).iv) := rfl
theorem w_lt (a b : X) : den (.ap .lt [a, b]) = aaf (decide ((den a).iv < (den b).iv)) := rfl
theorem w_le (a b : X) : den (.ap .le [a, b]) = aaf (decide ((den a).iv ≤ (den b).iv)) := rfl
theorem w_eq (a b : X) : den (.ap .eq [a, b]) = aaf (eqC (den a) (den b)) := rfl
theorem anu (a : X) : den (.ap .not [a]) = aaf (!(den a).bv) := rfl
theorem bgy (a b : X) : den (.ap .and [a, b]) = aaf ((den a).bv && (den b).bv) := rfl
theorem w_or (a b : X) : den (.ap .or [a, b]) = aaf ((den a).bv || (den b).bv) := rfl
theorem adn (a b c : X) : den (.ap .ite [a, b, c]) = if (den a).bv then den b else den c := rfl
theorem acs (a : X) : den (.ap .len [a]) = vInt .i64 (den a).len := rfl
theorem aan (a : X) : den (.ap .slen [a]) = vInt .i64 (den a).slen := rfl
theorem aa7 (j : Nat) (a i : X) : den (.ap (.cell j) [a, i]) = (den a).cell (den i).iv j := rfl
theorem abj (b : Bool) : den (.ap (.nil b) []) = .sl b [] := rfl
theorem w_mk (z : Bool) (a : X) : den (.ap (.mk z) [a]) = .sl (z && (den a).rows.isEmpty) (den a).rows := rfl
theorem aat (a : X) (l : List X) : den (.ap .snoc (a :: l)) = .sl false ((den a).rows ++ [denL l]) := rfl
theorem abq (a b : X) : den (.ap .cat [a, b]) = .sl false ((den a).rows ++ (den b).rows) := rfl
theorem adl (a l h : X) : den (.ap .cut [a, l, h]) = .sl (den a).isNil (((den a).rows.take (den h).iv.toNat).drop (den l).iv.toNat) := rfl
theorem acz (j : Nat) (a i c : X) : den (.ap (.upd j) [a, i, c]) = .sl false (setCell (den a).rows (den i).iv.toNat j (den c)) := rfl
theorem acy (n : X) (l : List X) : den (.ap .rep (n :: l)) = .sl false (List.replicate (den n).iv.toNat (denL l)) := rfl
theorem abb (a : X) : den (.ap .str [a]) = .v (.string ⟨((den a).rows.map ajh).toArray⟩) := rfl
theorem ac1 (a : X) : den (.ap .byt [a]) = .sl false ((den a).str.toList.map afq) := rfl
theorem ada (k : IntKind) (a : X) : den (.ap (.neg k) [a]) = vInt k (k.wrap (0 - (den a).iv)) := rfl
theorem aa0 (n : Nat) (l : List X) : den (.ap (.usr n) l) = Us.u n (denL l) := rfl
theorem abm (o : BinOp) (a b : X) : den (.ap (.sbin o) [a, b]) = orV (strA o (den a).str (den b).str) := rfl
theorem ace (o : BinOp) (k : IntKind) (a b : X) : den (.ap (.bin o k) [a, b]) = orV (acf o k (den a).iv (den b).iv) := rfl
theorem w_l0 : denL [] = [] := rfl
theorem w_l1 (a : X) (l : List X) : denL (a :: l) = den a :: denL l := rfl
theorem b_lt (a b : X) : ((den (.ap .lt [a, b])).bv = true) = ((den a).iv < (den b).iv) := decide_eq_true_eq
theorem b_le (a b : X) : ((den (.ap .le [a, b])).bv = true) = ((den a).iv ≤ (den b).iv) := decide_eq_true_eq
theorem b_eq (a b : X) : ((den (.ap .eq [a, b])).bv = true) = (eqC (den a) (den b) = true) := rfl
theorem aa1 (a : X) : ((den (.ap .not [a])).bv = true) = ¬ ((den a).bv = true) := by
 show ((!(den a).bv) = true) = _
 cases (den a).bv <;> simp
theorem adg (a b : X) : ((den (.ap .and [a, b])).bv = true) = ((den a).bv = true ∧ (den b).bv = true) := by
 show (((den a).bv && (den b).bv) = true) = _
 simp
theorem b_or (a b : X) : ((den (.ap .or [a, b])).bv = true) = ((den a).bv = true ∨ (den b).bv = true) := by
 show (((den a).bv || (den b).bv) = true) = _
 simp
theorem aaz (x : X) : Tru x = ((den x).bv = true) := rfl
theorem aae : Holds [] = True := by simp [Holds]
theorem aad (x : X) (l : List X) : Holds (x :: l) = (Tru x ∧ Holds l) := by simp [Holds]
theorem aao (a b : X) : ((den (.ap .same [a, b])).bv = true) = (den a = den b) := @decide_eq_true_eq _ (Classical.propDecidable _)
theorem aa2 (a : X) : ((den (.ap .isnil [a])).bv = true) = ((den a).isNil = true) := rfl
theorem a2g (e k : X) : den (.ap .mhas [e, k]) = aaf (mHas (den k) (den e).rows) := rfl
theorem aby (e k : X) : ((den (.ap .mhas [e, k])).bv = true) = (mHas (den k) (den e).rows = true) := rfl
theorem abw (j : Nat) (e k z : X) : den (.ap (.mget j) [e, k, z]) = mGet j (den k) (den z) (den e).rows := rfl
theorem abx (e c k : X) (vs : List X) : den (.ap .mput (e :: c :: k :: vs)) = .sl false (mPut (den k) (denL vs) (den c) (den e).rows) := rfl
theorem abz (e s : X) : ((den (.ap .mall [e, s])).bv = true) = (((den e).rows.all fun r => mIn (ai5 r) (den s).rows) = true) := rfl
theorem adi (e c : X) : ((den (.ap .mok [e, c])).bv = true) = MOk (den e).rows (den c).iv := @decide_eq_true_eq _ (Classical.propDecidable _)
theorem ade (b s : X) : ((den (.ap .min [b, s])).bv = true) = (mIn (den b) (den s).rows = true) := rfl
theorem ab1 (e : X) : den (.ap .rlen [e]) = vInt .i64 (den e).rows.length := rfl
theorem ac0 (o : BinOp) (k : IntKind) (a b : X) : den (.ap (.shf o k) [a, b]) = orV (agk o k (den a).iv (den b).iv) := rfl
theorem aij (a b : X) : den (.ap .same [a, b]) = aaf (@decide (den a = den b) (Classical.propDecidable _)) := rfl
theorem aop (s : Srt) (a : X) : den (.ap (.typ s) [a]) = aaf (@decide (Typ s (den a)) (Classical.propDecidable _)) := rfl
theorem abe (s : Srt) (a : X) : ((den (.ap (.typ s) [a])).bv = true) = Typ s (den a) := @decide_eq_true_eq _ (Classical.propDecidable _)
end
theorem aa4 (k : IntKind) (z : Int) : (CD.v (.int k z)).iv = z := rfl
theorem aa5 (b : Bool) : (CD.v (.bool b)).bv = b := rfl
theorem aac (k : IntKind) (z : Int) : (vInt k z).iv = z := rfl
theorem aag (b : Bool) : (aaf b).bv = b := rfl
theorem aam (b : Bool) (r : List (List CD)) : (CD.sl b r).rows = r := rfl
theorem aal (b : Bool) (r : List (List CD)) : (CD.sl b r).isNil = b := rfl
theorem Typ.sl {ss : List Srt} {d : CD} (h : Typ (.sl ss) d) : d.len = d.rows.length ∧ d.rows.length ≤ maxN := by
 obtain ⟨m, u, h⟩ := h
 exact ⟨h.slice.2.1, h.slice.1⟩
theorem Typ.row {ss : List Srt} {d : CD} (h : Typ (.sl ss) d) {i : Nat} {row : List CD} (hi : d.rows[i]? = some row) : row.length = ss.length ∧ ∀ (j : Nat) (s : Srt), ss[j]? = some s → Typ s (row.getD j default) := by
 obtain ⟨m, u, h⟩ := h
 rcases (show (d = .sl true [] ∧ u = .slice none 0 0) ∨ _ from h) with ⟨h1, _⟩ | ⟨rows, b, off, cap, h1, h2, h3, h4, h5⟩ | ⟨_, h1, _⟩
 rotate_right
 ·rw [h1] at hi
  cases (show ([] : List (List CD))[i]? = some row from hi)
 ·rw [h1] at hi
  cases (show ([] : List (List CD))[i]? = some row from hi)
 ·rw [h1] at hi
  have hi : rows[i]? = some row := hi
  obtain ⟨arr, t, fr, _, h7⟩ := h5 (fun hh => by rw [hh] at hi; cases hi)
  have hr := h7 i row hi
  refine ⟨hr.len, fun j s hj => ?_⟩
  obtain ⟨u', _, h8⟩ := hr.get j s hj
  exact ⟨m, u', h8⟩
theorem Typ.cell {ss : List Srt} {d : CD} (h : Typ (.sl ss) d) {i : Int} {j : Nat} {s : Srt} (h0 : 0 ≤ i) (hi : i < d.len) (hj : ss[j]? = some s) : Typ s (d.cell i j) := by
 have hlt : i.toNat < d.rows.length := by have := h.sl.1; omega
 unfold CD.cell
 rw [show d.rows.getD i.toNat [] = d.rows[i.toNat] by rw [List.getD_eq_getElem?_getD, List.getElem?_eq_getElem hlt]; rfl]
 exact (h.row (List.getElem?_eq_getElem hlt)).2 j s hj
theorem ac9 (U : Us) : ∀ z ∈ ([] : List VC), VCok U z := fun z hz => by cases hz
theorem ado {U : Us} {hy : List X} {x : X} {l : List VC} (h : ∀ v : Nat → CD, @Holds ⟨v⟩ hy → @Tru ⟨v⟩ x) (hl : ∀ z ∈ l, VCok U z) : ∀ z ∈ (hy, x) :: l, VCok U z := fun z hz => by
 rcases List.mem_cons.1 hz with rfl | hz
 ·intro σ hU hh
  obtain ⟨v⟩ := σ
  cases hU
  exact h v hh
 ·exact hl z hz
end Go.Sx

namespace Go.Sx
end Go.Sx

namespace Go.Sx
noncomputable section
def avr (P : Program) [Plain P] (H : HP) (F : Fm) : List ResultVar → Option (List (Bool × List Cel))
 | [] => some []
 | r :: rs => match resF P H F r, avr P H F rs with
  | some p, some l => some (p :: l)
  | _, _ => none
def endI (P : Program) [Plain P] (fn : Func) (x : Oc) : Option (AV × HP) :=
 match x.1 with
 | .ext _ => none
 | _ => match avr P x.2.2 x.2.1 fn.results.toList with
  | some ps => some (awg ps, x.2.2)
  | none => none
structure Inl where
 fn : Func
 hs : Hs
def runI (P : Program) [Plain P] (cx : Cx) (d : Inl) (args : List AV) (H : HP) : RV :=
 match Nat.ble args.length d.fn.ntmps with
 | true => match ahy P cx d.fn.ntmps d.hs (abt d.fn) (auk .nil 0 args) H with
  | some (v, l) => match ac8 (l.map (endI P d.fn)) with
   | some outs => some (v, outs)
   | none => none
  | none => none
 | false => none
def a8b (n : Nat) : Fm → List Tmp → List AV → Option Fm
 | F, [], [] => some F
 | F, p :: ps, v :: vs => match putF n F (some p) v with
  | some F' => a8b n F' ps vs
  | none => none
 | _, _, _ => none
def ao0 : Ex → Option Code
 | .nrm => none
 | .ext id => some (.exit id)
 | .rt => some .ret
def stOf : Ex → LoopState
 | .nrm => .ready
 | _ => .done
def bjs : Ex → Bool
 | .nrm => true
 | _ => false
def isReady : LoopState → Bool
 | .ready => true
 | _ => false
def amd (b : Nat) (x : Oc) : Option (AV × HP) :=
 match afv x.2.2 b with
 | some l => some (.one (.lit (.bool (bjs x.1))), x.2.2.obj b (LoopC.ct { l with st := stOf x.1, pend := ao0 x.1 }))
 | none => none
def atx (P : Program) [Plain P] (cx : Cx) (hs : Hs) (b n : Nat) (body : Code) (F : Fm) (H : HP) : RV :=
 match afv H b with
 | some l => match isReady l.st with
  | true => match ahy P cx n hs body F (H.obj b (LoopC.ct { l with st := .busy })) with
   | some (v, outs) => match ac8 (outs.map (amd b)) with
    | some r => some (v, r)
    | none => none
   | none => none
  | false => none
 | none => none
def a1z (P : Program) [Plain P] (cx : Cx) (hs : Hs) (b n : Nat) (body : Code) (x : Oc) : RV :=
 match x.1 with
 | .nrm => atx P cx hs b n body x.2.1 x.2.2
 | _ => none
def azn (P : Program) [Plain P] (cx : Cx) (hs : Nat → Hs) (lc : Nat → LCd) (b : Nat) (args : List AV) (H : HP) : RV :=
 match afv H b with
 | some l => match a8b l.n l.F (lc l.k).ps.toList args, (acn (lc l.k).assign && acn (lc l.k).body) && (nilL (aen (lc l.k).assign) && nilL (aen (lc l.k).body)) with
  | some F1, true => match ahy P cx l.n (hs l.k) (lc l.k).assign F1 H with
   | some (v, outs) => addV v (awc (a1z P cx (hs l.k) b l.n (lc l.k).body) outs)
   | none => none
  | _, _ => none
 | none => none
structure Tb where
 f : FuncId → Option Inl
 y : Nat → Hs
 lc : Nat → LCd
def Tb.ent (T : Tb) : FuncId → Bool := fun g => match T.f g with
 | some _ => true
 | none => false
def keyOf (g id : Nat) : Nat := Nat.add (Nat.mul g 1000) id
def orvK (P : Program) [Plain P] (ora : OraM) (fuel fk : Nat) (T : Tb) (d : Nat) : OraV :=
 Nat.rec (motive := fun _ => OraV) noV (fun _ ih t args H => match t with
  | .f g => match T.f g with
   | some d => runI P ⟨ora, ih, T.ent, fuel, fk, none, keyOf g⟩ d args H
   | none => none
  | .y b => azn P ⟨ora, ih, T.ent, fuel, fk, some b, fun _ => 0⟩ T.y T.lc b args H) d
end
theorem alk {α β : Type} {f : α → Option β} {xs : List α} {ys : List β} (h : ac8 (xs.map f) = some ys) : (∀ x ∈ xs, ∃ y ∈ ys, f x = some y) ∧ ∀ y ∈ ys, ∃ x ∈ xs, f x = some y := by
 haveI : Sg := { u := fun _ _ => default, lc := fun _ => ⟨#[], .skip, .skip⟩, v := fun _ => default }
 obtain ⟨hlen, hget⟩ := ae7 h
 rw [List.length_map] at hlen
 refine ⟨fun x hx => ?_, fun y hy => ?_⟩
 ·obtain ⟨i, hi⟩ := List.getElem?_of_mem hx
  have hlt : i < ys.length := by rw [← hlen]; exact (List.getElem?_eq_some_iff.1 hi).1
  have := hget i ys[i] (List.getElem?_eq_getElem hlt)
  rw [List.getElem?_map, hi] at this
  simp only [Option.map_some, Option.some.injEq] at this
  exact ⟨_, List.getElem_mem hlt, this⟩
 ·obtain ⟨i, hi⟩ := List.getElem?_of_mem hy
  have := hget i y hi
  rw [List.getElem?_map] at this
  cases ho : xs[i]? with
  | none => rw [ho] at this; cases this
  | some x =>
   rw [ho] at this
   simp only [Option.map_some, Option.some.injEq] at this
   exact ⟨x, List.mem_of_getElem? ho, this⟩
section
variable {P : Program} [Plain P] {n : Nat} {U : Us} {H H' : HP} {w w' : World} {ρ ρ' : PM}
theorem ayc {σ : Sg} {F : Fm} {a : Act} (hf : @FRel σ n ρ F a) (hH : @HRel σ ρ H w) (hj : J ρ H w) : ∀ (rs : List ResultVar) {ps : List (Bool × List Cel)}, avr P H F rs = some ps →
  ∃ us, (rs.mapM fun | .tmp t => pure (a.tmps.getD t undef) | .cell x t => do loadVar t (← asAddr (a.tmps.getD x undef)) : Sem (List Value)).run P w = .ok us w ∧ All2 (@PRel σ ρ) ps us
 | [], ps, h => by cases h; exact ⟨[], rfl, trivial⟩
 | r :: rs, ps, h => by
  simp only [avr] at h
  split at h
  ·rename_i p l hp hl
   cases h
   obtain ⟨u, hu, hrel⟩ := @a5n P _ _ _ _ _ _ _ σ hf hH hj _ _ hp
   obtain ⟨us, hus, hrels⟩ := ayc hf hH hj rs hl
   refine ⟨u :: us, ?_, hrel, hrels⟩
   simp only [List.mapM_cons, Sem.run_bind]
   refine (congrArg (fun x => Result.andThen x _) hu).trans ?_
   simp only [Result.andThen_ok]
   refine (congrArg (fun x => Result.andThen x _) hus).trans ?_
   rfl
  ·cases h
structure EndI (σ : Sg) (ρ : PM) (H : HP) (w : World) (ρ' : PM) (H' : HP) (w' : World) : Prop where
 rel : @HRel σ ρ' H' w'
 j : J ρ' H' w'
 tw : TW w
 sim : SimF ρ H w ρ' H' w'
theorem EndI.unowned {σ : Sg} {D : Nat} {o : Obj} (h : EndI σ ρ H w ρ' H' w') (hD : w.heap.size ≤ D) (hno : ∀ b L, H'.Kn b → ρ' b = some L → L.B ≠ D) (hg : ∀ g L M o, ρ' g = some L → L.M = some M → ¬ M D o) : EndI σ ρ H w ρ' H' (w'.putObj D o) where
 rel := @HRel.mk σ _ _ _ (fun b i c L hc hL => @adu.of_heap σ _ _ _ _ _ (World.putObj_heap_other (hno b L ⟨i, c, hc⟩ hL)) _ (@HRel.rel σ _ _ _ h.rel b i c L hc hL)) (@HRel.inj σ _ _ _ h.rel) (@HRel.hy σ _ _ _ h.rel)
 j := h.j.put h.tw hD hg
 tw := h.tw
 sim := ⟨h.sim.le, h.sim.grow, h.sim.dom, h.sim.knc, fun k hk hno' => by rw [World.putObj_heap_other (by omega)]; exact h.sim.fr k hk hno', h.sim.new, by rw [World.putObj_size]; exact h.sim.size, h.sim.os, h.sim.tape, h.sim.output, h.sim.old, fun hj => (h.sim.jj hj).put h.tw hD hg, h.sim.ro⟩
theorem akd {σ : Sg} {fn : Func} {tmps : Array Value} {R : Ending → World → Prop}
  (hend : ∀ w', EndI σ ρ H w ρ' H' w' → ∃ v, (results fn tmps).run P w' = .ok v w' ∧ R (.returned v) w') : ∀ (ds : List Deferred) (w' : World), EndI σ ρ H w ρ' H' w' → DfOK ρ' H' w' w.heap.size ds → LeavesInM Fence.wide 0 P fn tmps R ds .returning w'
 | [], w', s, _ => hend w' s
 | d :: ds, w', s, ⟨⟨D, h1, hm, h2, h3, h7⟩, h⟩ => by
  refine ⟨by simp, .inl ⟨D, _, by rw [h1], run_takeDeferred h2, akd hend ds _ (s.unowned hm h3.1 h3.2) ?_⟩⟩
  have keep : ∀ (es : List Deferred), (∀ d' ∈ es, ∀ D', d'.target = .collected D' → D' ≠ D) → DfOK ρ' H' w' w.heap.size es → DfOK ρ' H' (w'.putObj D (.deferred none)) w.heap.size es := by
   intro es
   induction es with
   | nil => exact fun _ _ => trivial
   | cons e es ih =>
    rintro hne ⟨⟨D', g1, gm, g2, g3, g7⟩, g⟩
    exact ⟨⟨D', g1, gm, by rw [World.putObj_heap_other (hne e (List.mem_cons_self ..) D' (by rw [g1]))]; exact g2, g3, g7⟩, ih (fun d' hd' => hne d' (List.mem_cons_of_mem _ hd')) g⟩
  exact keep ds h7 h
theorem bfq (hm : P.follows .mixedOrders = true) {cx : Cx} (hcx : CxOK U P cx) (hrb : cx.rb = none) {g : FuncId} {d : Inl} (hf : FnAt P g d.fn) (hrg : ady U.lc cx.rk (abt d.fn)) {args : List AV} {v : List VC} {outs : List (AV × HP)} (h : runI P cx d args H = some (v, outs)) (hv : ∀ z ∈ v, VCok U z) :
  (∀ o ∈ outs, Sc H o.2) ∧ ∀ σ : Sg, σ.toUs = U → ∀ (ρ : PM) (w : World) (us : Array Value), All2 (@VRel σ ρ) args us.toList → @HRel σ ρ H w → Dom ρ H.n → J ρ H w → abn P (aur σ ρ H w outs) ((callFunc g us).run P w) := by
 unfold runI at h
 split at h
 rotate_left
 ·cases h
 rename_i hlen
 have hlen := Nat.le_of_ble_eq_true hlen
 split at h
 rotate_left
 ·cases h
 rename_i v1 l hcode
 split at h
 rotate_left
 ·cases h
 rename_i outs1 hall
 cases h
 obtain ⟨e1, e2⟩ := alk hall
 have K := fun (σ : Sg) (hU : σ.toUs = U) => ak1 (n := d.fn.ntmps) (m := 0) (r := none) hm hcx (abt d.fn) hf.flow hrg hcode hv σ hU
 rw [hrb] at K
 have hH : ∀ x o, endI P d.fn x = some o → o.2 = x.2.2 ∧ (x.1 = .nrm ∨ x.1 = .rt) ∧ ∃ ps, avr P x.2.2 x.2.1 d.fn.results.toList = some ps ∧ o.1 = awg ps := by
  intro x o hx
  obtain ⟨e, F1, H1⟩ := x
  cases e with
  | ext id => cases hx
  | nrm =>
   have hx : (match avr P H1 F1 d.fn.results.toList with
    | some ps => some (awg ps, H1)
    | none => none) = some o := hx
   split at hx
   ·rename_i ps hps; cases hx; exact ⟨rfl, .inl rfl, ps, hps, rfl⟩
   ·cases hx
  | rt =>
   have hx : (match avr P H1 F1 d.fn.results.toList with
    | some ps => some (awg ps, H1)
    | none => none) = some o := hx
   split at hx
   ·rename_i ps hps; cases hx; exact ⟨rfl, .inr rfl, ps, hps, rfl⟩
   ·cases hx
 haveI : Inhabited (Nat → CD) := ⟨fun _ => default⟩
 refine ⟨fun o ho => ?_, fun σ hU ρ w us hargs hH' hd hj => ?_⟩
 ·obtain ⟨x, hx, hxo⟩ := e2 o ho
  rw [(hH x o hxo).1]
  exact (K { toUs := U, v := fun _ => default } rfl).st x hx
 ·rw [hf.call]
  show Calls P g us w _
  refine callsIn_wide.1 (callsIn_of_wp_marks (F := Fence.wide) (n := 0) hf.at' hf.body trivial ?_)
  have hal := All2.length hargs
  simp only [Array.length_toList] at hal
  have s0 : @SRel σ d.fn.ntmps ρ (auk .nil 0 args) H { tmps := us ++ Array.replicate (d.fn.ntmps - us.size) Go.undef, defers := [] } w := by
   refine @SRel.mk σ _ _ _ _ _ _ (@FRel.mk σ _ _ _ _ (by simp; omega) fun t v hv => ?_) hH' hd hj
   rcases ajn args .nil 0 t v hv with ⟨_, h1⟩ | h1
   ·obtain ⟨u, hu, hr⟩ := All2.get hargs _ _ h1
    rw [Nat.sub_zero, Array.getElem?_toList] at hu
    exact ⟨u, by rw [Array.getElem?_append_left (Array.getElem?_eq_some_iff.1 hu).1]; exact hu, hr⟩
   ·rw [PT.get_nil] at h1; cases h1
  refine (K σ hU).wp (m0 := w.heap.size) s0 trivial (Nat.le_refl _) (DfOK.nil _ _ _ _) fun σ' he x hx ρ' a' w' s' hdf hs' => ?_
  obtain ⟨o, ho, hxo⟩ := e1 x hx
  obtain ⟨q1, q2, ps, q3, q4⟩ := hH x o hxo
  have hpost : LeavesInM Fence.wide 0 P d.fn a'.tmps (fun r w'' => ∃ u', r = .returned u' ∧ aur σ ρ H w outs u' w'') a'.defers .returning w' := by
   refine akd (P := P) (σ := σ') (ρ := ρ) (H := H) (w := w) (ρ' := ρ') (H' := x.2.2) (fun w2 hE => ?_) _ _ ⟨@SRel.hp σ' _ _ _ _ _ _ s', @SRel.j σ' _ _ _ _ _ _ s', (show J ρ H w by assumption).tw, hs'⟩ hdf
   obtain ⟨uvs, huvs, hvr⟩ := ayc (P := P) (@SRel.fr σ' _ _ _ _ _ _ s') hE.rel hE.j _ q3
   refine ⟨oneOf uvs, ?_, _, rfl, o, ho, σ', he, ρ', ?_, by rw [q1]; exact hE.sim, by rw [q1]; exact hE.rel⟩
   ·unfold results
    rw [Sem.run_bind, Array.mapM_eq_mapM_toList, Sem.run_map]
    exact congrArg (fun r : Result (List Value) => (r.andThen fun a w' => Result.ok a.toArray w').andThen fun a w' => Sem.run P (pure (if h : a.size = 1 then a[0] else Value.tuple a)) w') huvs
   ·rw [q4]
    exact @at0 ρ' σ' _ _ hvr
  obtain ⟨e, F1, H1⟩ := x
  rcases q2 with q2 | q2
  ·simp only at q2; subst q2; exact hpost
  ·simp only at q2; subst q2; exact hpost
theorem aum [σ : Sg] : ∀ {ps : List Tmp} {vs : List AV} {us : List Value} {F F' : Fm} {tmps : Array Value}, a8b n F ps vs = some F' → All2 (@VRel σ ρ) vs us → @FRel σ n ρ F ⟨tmps, []⟩ →
  ps.length = us.length ∧ @FRel σ n ρ F' ⟨(ps.zip us).foldl (fun t (p : Tmp × Value) => t.setIfInBounds p.1 p.2) tmps, []⟩
 | [], [], [], F, F', tmps, h, _, hf => by cases h; exact ⟨rfl, hf⟩
 | [], [], _ :: _, _, _, _, _, h, _ => h.elim
 | [], _ :: _, _, _, _, _, h, _, _ => by cases h
 | _ :: _, [], _, _, _, _, h, _, _ => by cases h
 | p :: ps, v :: vs, [], _, _, _, _, h, _ => h.elim
 | p :: ps, v :: vs, u :: us, F, F', tmps, h, ⟨h1, h2⟩, hf => by
  simp only [a8b] at h
  split at h
  ·rename_i F1 hp
   have := @ak0 σ _ _ _ _ _ _ _ _ hf h1 hp
   obtain ⟨k1, k2⟩ := aum h h2 this
   exact ⟨by simp [k1], k2⟩
  ·cases h
theorem aht {b : Nat} {x : Oc} {o : AV × HP} (h : amd b x = some o) : ∃ l, afv x.2.2 b = some l ∧ o = (.one (.lit (.bool (bjs x.1))), x.2.2.obj b (LoopC.ct { l with st := stOf x.1, pend := ao0 x.1 })) := by
 unfold amd at h
 split at h
 ·rename_i l hl
  cases h
  exact ⟨l, hl, rfl⟩
 ·cases h
theorem ana {α : Type} {l : List α} (h : nilL l = true) : l = [] := by
 cases l with
 | nil => rfl
 | cons _ _ => cases h
theorem atg (hm : P.follows .mixedOrders = true) {cx : Cx} (hcx : CxOK U P cx) {hs : Hs} {b : Nat} (hrb : cx.rb = some b) {body : Code} {F : Fm} {v : List VC} {outs : List (AV × HP)} (hfl : acn body = true) (hrg : ady U.lc cx.rk body)
  (h : atx P cx hs b n body F H = some (v, outs)) (hv : ∀ z ∈ v, VCok U z) : (∀ o ∈ outs, Sc H o.2) ∧ ∀ σ : Sg, σ.toUs = U → ∀ {ρ : PM} {a : Act} {w : World} {L : Loc} {R : Ending → World → Prop} {m0 : Nat}, ρ b = some L → @SRel σ n ρ F H a w → m0 ≤ w.heap.size → DfOK ρ H w m0 a.defers →
   (∀ o ∈ outs, ∀ σ', Ext H.nv σ σ' → ∀ ρ' u w', @VRel σ' ρ' o.1 u → SimF ρ H w ρ' o.2 w' → @HRel σ' ρ' o.2 w' → R (.returned u) w') → ∃ w₂, (Instr.beginRound L.B).run P w = .ok () w₂ ∧ body.wpIn (WF (some L.B)) 0 P (roundPost P L.B R) a w₂ := by
 unfold atx at h
 split at h
 rotate_left
 ·cases h
 rename_i l hl
 split at h
 rotate_left
 ·cases h
 rename_i hst
 split at h
 rotate_left
 ·cases h
 rename_i v1 l2 hc
 split at h
 rotate_left
 ·cases h
 rename_i r1 hall0
 cases h
 obtain ⟨hall, hall'⟩ := alk hall0
 have K := fun (r : Option Nat) (σ : Sg) (hU : σ.toUs = U) => ak1 (n := n) (m := 0) (r := r) hm hcx body hfl hrg hc hv σ hU
 rw [hrb] at K
 refine ⟨fun o ho => ?_, fun σ hU {ρ a w L R m0} hL s hm0 df hR => ?_⟩
 ·obtain ⟨x, hx, hxe⟩ := hall' o ho
  obtain ⟨l3, _, rfl⟩ := aht hxe
  haveI : Sg := { toUs := U, v := fun _ => default }
  exact ((St.obj _ _ _).sc.trans ((K none { toUs := U, v := fun _ => default } rfl).st x hx)).trans (St.obj _ _ _).sc
 ·have hfr := @SRel.fr σ _ _ _ _ _ _ s
  have hhp := @SRel.hp σ _ _ _ _ _ _ s
  have hdm := @SRel.dom σ _ _ _ _ _ _ s
  have hjj := @SRel.j σ _ _ _ _ _ _ s
  obtain ⟨q, hq, q1, q2, q3, q4, q5, q6⟩ := @aiw σ _ _ _ _ _ _ hhp hL hl
  have hqr : q.state = .ready := by
   rw [q1]
   cases hx : l.st <;> rw [hx] at hst <;> first | rfl | cases hst
  refine ⟨_, run_beginRound hq hqr, ?_⟩
  have hs2 := @Sim.record σ H w ρ b l { l with st := .busy } L q { q with state := .busy } hhp hdm hL hl hq ⟨rfl, rfl, rfl⟩ (by rw [← q2])
  have hs2f := @Sim.f σ _ _ _ _ _ _ hs2
  refine (K (some L.B) σ hU).wp (@SRel.mk σ _ _ _ _ _ _ hfr (@Sim.rel σ _ _ _ _ _ _ hs2) hs2f.dom (hs2f.jj hjj)) ⟨L, hL, rfl⟩ (Nat.le_trans hm0 hs2f.size) (DfOK.aro hdm hs2f df) fun σ3 he3 x hx ρ3 a3 w3 s3 _ hs3 => ?_
  obtain ⟨o, ho, hoe⟩ := hall x hx
  obtain ⟨l3, hl3, rfl⟩ := aht hoe
  have hL3 := hs3.le b L hL
  have hhp3 := @SRel.hp σ3 _ _ _ _ _ _ s3
  obtain ⟨p, hp', p1, p2, p3, p4, p5, p6⟩ := @aiw σ3 _ _ _ _ _ _ hhp3 hL3 hl3
  obtain ⟨e, F3, H3⟩ := x
  have fin : ∀ (jump : Option Code), jump = ao0 e → ∃ v w', (Instr.endRound L.B jump).run P w3 = .ok v w' ∧ R (Ending.returned v) w' := by
   intro jump hj
   subst hj
   have hs4 := @Sim.record σ3 H3 w3 ρ3 b l3 { l3 with st := stOf e, pend := ao0 e } L p { p with state := if (ao0 e).isNone then .ready else .done, pending := ao0 e } hhp3 (@SRel.dom σ3 _ _ _ _ _ _ s3) hL3 hl3 hp' ⟨rfl, rfl, rfl⟩ (by cases e <;> rfl)
   have hs4f := @Sim.f σ3 _ _ _ _ _ _ hs4
   have hs34 := @SimF.trans σ _ _ _ _ _ _ _ _ _ hs2f.dom hs3 hs4f
   have he : Ext H.nv σ σ3 := he3
   refine ⟨_, _, run_endRound _ hp', hR _ ho σ3 he ρ3 _ _ ?_ (@SimF.trans σ _ _ _ _ _ _ _ _ _ hdm hs2f hs34) (@Sim.rel σ3 _ _ _ _ _ _ hs4)⟩
   cases e <;> exact ⟨rfl, rfl⟩
  cases e with
  | nrm => exact fin _ rfl
  | ext id => exact fin _ rfl
  | rt => exact fin _ rfl
theorem a4f (hm : P.follows .mixedOrders = true) {cx : Cx} (hcx : CxOK U P cx) {hs : Nat → Hs} {b : Nat} (hrb : cx.rb = some b) {args : List AV} {v : List VC} {outs : List (AV × HP)} (h : azn P cx hs U.lc b args H = some (v, outs)) (hv : ∀ z ∈ v, VCok U z) :
  (∀ o ∈ outs, Sc H o.2) ∧ ∀ σ : Sg, σ.toUs = U → ∀ (ρ : PM) (w : World) (us : Array Value) (L : Loc), ρ b = some L → All2 (@VRel σ ρ) args us.toList → @HRel σ ρ H w → Dom ρ H.n → J ρ H w → abn P (aur σ ρ H w outs) ((Instr.yield L.B us).run P w) := by
 unfold azn at h
 split at h
 rotate_left
 ·cases h
 rename_i l hl
 split at h
 rotate_left
 ·cases h
 rename_i F1 hp hfl
 simp only [Bool.and_eq_true] at hfl
 obtain ⟨⟨hfl1, hfl2⟩, hn1, hn2⟩ := hfl
 have hr1 : ady U.lc cx.rk (U.lc l.k).assign := fun x hx => by rw [ana hn1] at hx; cases hx
 have hr2 : ady U.lc cx.rk (U.lc l.k).body := fun x hx => by rw [ana hn2] at hx; cases hx
 split at h
 rotate_left
 ·cases h
 rename_i v1 l1 hc1
 obtain ⟨v2, h0, rfl⟩ := al6 h
 have hv1 : ∀ z ∈ v1, VCok U z := fun z hz => hv z (List.mem_append_left _ hz)
 obtain ⟨hb1, hb2⟩ := ae2 h0
 have K1 := fun (m : Nat) (r : Option Nat) (σ : Sg) (hU : σ.toUs = U) => ak1 (n := l.n) (m := m) (r := r) hm hcx (U.lc l.k).assign hfl1 hr1 hc1 hv1 σ hU
 rw [hrb] at K1
 have hth : ∀ x ∈ l1, ∃ F2 H2, x = (.nrm, F2, H2) ∧ ∃ v3 zs, atx P cx (hs l.k) b l.n (U.lc l.k).body F2 H2 = some (v3, zs) ∧ (∀ z ∈ zs, z ∈ outs) ∧ ∀ z ∈ v3, VCok U z := by
  intro x hx
  obtain ⟨v3, zs, h1, h2, h3⟩ := hb1 x hx
  obtain ⟨e, F2, H2⟩ := x
  cases e with
  | nrm => exact ⟨F2, H2, rfl, v3, zs, h1, h2, fun z hz => hv z (List.mem_append_right _ (h3 z hz))⟩
  | ext id => cases h1
  | rt => cases h1
 refine ⟨fun o ho => ?_, fun σ hU ρ w us L hL hargs hH hd hj => ?_⟩
 ·obtain ⟨x, hx, v3, zs, h1, h2⟩ := hb2 o ho
  obtain ⟨F2, H2, rfl, v4, zs', h3, h4, h5⟩ := hth x hx
  have h1 : atx P cx (hs l.k) b l.n (U.lc l.k).body F2 H2 = some (v3, zs) := h1
  rw [h3] at h1
  cases h1
  haveI : Sg := { toUs := U, v := fun _ => default }
  exact ((K1 0 none { toUs := U, v := fun _ => default } rfl).st _ hx).trans ((atg hm hcx hrb hfl2 hr2 h3 h5).1 o h2)
 ·obtain ⟨r, hr, r1, r2, r3, r4, r5, r6⟩ := @aiw σ _ _ _ _ _ _ hH hL hl
  rw [show (@Us.lc σ.toUs l.k) = U.lc l.k by rw [hU]] at r3 r4 r5
  obtain ⟨hlen, hf⟩ := aum hp hargs r6
  have hy := run_yield (P := P) (w := w) (args := us) hr (by rw [r3, ← Array.length_toList, ← hlen, Array.length_toList])
  rw [hy]
  show RoundIn Fence.wide 0 P L.B r.fn _ r.assign r.body w _
  refine roundIn_of_wpIn trivial ?_
  rw [r4, r5]
  have hzip : ((r.params.zip us).foldl (fun tmps (x : Tmp × Value) => tmps.setIfInBounds x.1 x.2) r.tmps) = ((U.lc l.k).ps.toList.zip us.toList).foldl (fun t (p : Tmp × Value) => t.setIfInBounds p.1 p.2) r.tmps := by
   rw [r3, ← Array.foldl_toList, Array.toList_zip]
  have s0 : @SRel σ l.n ρ F1 H { tmps := (r.params.zip us).foldl (fun tmps (x : Tmp × Value) => tmps.setIfInBounds x.1 x.2) r.tmps, defers := [] } w := @SRel.mk σ _ _ _ _ _ _ (by rw [hzip]; exact hf) hH hd hj
  refine (K1 0 (some L.B) σ hU).wp s0 ⟨L, hL, rfl⟩ (Nat.zero_le _) (DfOK.nil _ _ _ 0) fun σ1 he1 x hx ρ1 a1 w1 s1 df1 hs1 => ?_
  obtain ⟨F2, H2, rfl, v4, zs, h1, h2, h3⟩ := hth x hx
  have hL1 := hs1.le b L hL
  exact (atg hm hcx hrb hfl2 hr2 h1 h3).2 σ1 (he1.us.trans hU) hL1 s1 (Nat.zero_le _) df1 fun o ho σ' he' ρ' u w' hv hs hrel => ⟨u, rfl, o, h2 o ho, σ', he1.trans ((K1 0 none { toUs := U, v := fun _ => default } rfl).st _ hx).2.2 he', ρ', hv, @SimF.trans σ _ _ _ _ _ _ _ _ _ hd hs1 hs, hrel⟩
structure TbOK (U : Us) (P : Program) (T : Tb) : Prop where
 f : ∀ g d, T.f g = some d → FnAt P g d.fn ∧ ady U.lc (keyOf g) (abt d.fn)
 lc : T.lc = U.lc
theorem TbOK.ent {T : Tb} (h : TbOK U P T) : ∀ g, T.ent g = true → ∀ us w, (callFunc g us).run P w = .ok (.enter g us) w := by
 intro g hg us w
 unfold Tb.ent at hg
 split at hg
 ·rename_i d hd
  exact (h.f g d hd).1.call us w
 ·cases hg
theorem amq (hm : P.follows .mixedOrders = true) {ora : OraM} (hora : afe U P ora) {fuel fk : Nat} {T : Tb} (hT : TbOK U P T) : ∀ (k : Nat), aeh U P (orvK P ora fuel fk T k)
 | 0 => bc8
 | k + 1 => by
  have ih := amq hm hora (fuel := fuel) (fk := fk) hT k
  intro t args H v outs h hv
  cases t with
  | f g =>
   have h' : (match T.f g with
    | some d => runI P ⟨ora, orvK P ora fuel fk T k, T.ent, fuel, fk, none, keyOf g⟩ d args H
    | none => none) = some (v, outs) := h
   split at h'
   ·rename_i d hd
    obtain ⟨h1, h2⟩ := hT.f g d hd
    obtain ⟨k1, k2⟩ := bfq hm (⟨hora, ih, hT.ent⟩ : CxOK U P ⟨ora, orvK P ora fuel fk T k, T.ent, fuel, fk, none, keyOf g⟩) rfl h1 h2 h' hv
    exact ⟨k1, fun σ hU ρ w us s hs hargs hH hd hj => by rw [show s = callFunc g us from hs]; exact k2 σ hU ρ w us hargs hH hd hj⟩
   ·cases h'
  | y b =>
   have h' : azn P ⟨ora, orvK P ora fuel fk T k, T.ent, fuel, fk, some b, fun _ => 0⟩ T.y T.lc b args H = some (v, outs) := h
   rw [hT.lc] at h'
   obtain ⟨k1, k2⟩ := a4f hm (⟨hora, ih, hT.ent⟩ : CxOK U P ⟨ora, orvK P ora fuel fk T k, T.ent, fuel, fk, some b, fun _ => 0⟩) rfl h' hv
   refine ⟨k1, fun σ hU ρ w us s hs hargs hH hd hj => ?_⟩
   obtain ⟨L, hL, he⟩ := hs
   rw [he]
   exact k2 σ hU ρ w us L hL hargs hH hd hj
end
end Go.Sx

namespace Go.Sx
noncomputable def bcz : List (FuncId × Func) → Nat → Option Func
 | [], _ => none
 | x :: r, k => match Nat.beq k x.1 with
  | true => some x.2
  | false => bcz r k
noncomputable def lcOf (L : List (FuncId × Func)) (k : Nat) : LCd := match bcz L (Nat.div k 1000) with
 | some fn => bjo (aen (abt fn)) (Nat.mod k 1000)
 | none => ⟨#[], .skip, .skip⟩
theorem aej {lc : Nat → LCd} {rk : Nat → Nat} {c : Code} (h : nilL (aen c) = true) : ady lc rk c := fun x hx => by
 rw [ana h] at hx
 cases hx
noncomputable def aj0 : List (FuncId × Inl) → FuncId → Option Inl
 | [], _ => none
 | x :: r, k => match Nat.beq k x.1 with
  | true => some x.2
  | false => aj0 r k
theorem ak9 : ∀ {l : List (FuncId × Inl)} {g : FuncId} {d : Inl}, aj0 l g = some d → (g, d) ∈ l
 | [], g, d, h => by cases h
 | x :: r, g, d, h => by
  unfold aj0 at h
  split at h
  ·rename_i hb
   cases h
   rw [Nat.eq_of_beq_eq_true hb]
   exact List.mem_cons_self ..
  ·exact List.mem_cons_of_mem _ (ak9 h)
variable {P : Program}
structure InlOK (U : Us) (P : Program) (x : FuncId × Inl) : Prop where
 at' : FnAt P x.1 x.2.fn
 rg : ady U.lc (keyOf x.1) (abt x.2.fn)
theorem TbOK.of {U : Us} {l : List (FuncId × Inl)} {y : Nat → Hs} (h : ∀ x ∈ l, InlOK U P x) : TbOK U P ⟨aj0 l, y, U.lc⟩ := ⟨fun g d hd => ⟨(h _ (ak9 hd)).at', (h _ (ak9 hd)).rg⟩, rfl⟩
theorem InlOK.of {U : Us} {g : FuncId} {fn : Func} {hs : Hs} (h : FnAt P g fn) (hn : nilL (aen (abt fn)) = true) : InlOK U P (g, ⟨fn, hs⟩) := ⟨h, aej hn⟩
def ahv (U : Us) (P : Program) (l : List (FuncId × Inl)) : Prop := ∀ x ∈ l, InlOK U P x
theorem ahv.nil {U : Us} : ahv U P [] := fun x hx => by cases hx
theorem ahv.cons {U : Us} {x : FuncId × Inl} {l : List (FuncId × Inl)} (h : InlOK U P x) (hl : ahv U P l) : ahv U P (x :: l) := fun y hy => by
 rcases List.mem_cons.1 hy with rfl | hy
 ·exact h
 ·exact hl y hy
noncomputable def noY : Nat → Hs := fun _ => ⟨fun _ => none, fun _ _ _ => []⟩
noncomputable def noH : Hs := ⟨fun _ => none, fun _ _ _ => []⟩
noncomputable def cxOf (P : Program) [Plain P] (ora : OraM) (fuel fk : Nat) (T : Tb) (d : Nat) (f : FuncId) : Cx := ⟨ora, orvK P ora fuel fk T d, T.ent, fuel, fk, none, keyOf f⟩
theorem aaq.ofV {P : Program} [Plain P] {U : Us} {T : FuncId → Option Fsp} {l : List (FuncId × Inl)} {y : Nat → Hs} {dp : Nat} {f : FuncId} {fn : Func} {fuel fk : Nat} {hs : Hs} {S : Fsp} {v : List VC} {outs : List (List X × List (List X))} (hm : P.follows .mixedOrders = true) (hT : ∀ f S, T f = some S → aaq U P f S)
  (hl : ∀ x ∈ l, InlOK U P x) (hf : FnAt P f fn) (hrg : ady U.lc (keyOf f) (abt fn))
  (h : runV P (cxOf P (aex T) fuel fk ⟨aj0 l, y, U.lc⟩ dp f) hs fn (abt fn) S = some (v, outs)) (hv : ∀ z ∈ v, VCok U z) (hend : ∀ o ∈ outs, ∀ σ : Sg, σ.toUs = U → @Holds σ o.1 → ∃ q ∈ S.outs, @Holds σ q.1 ∧ q.2.map (@denL σ) = o.2.map (@denL σ)) : aaq U P f S :=
 aea hm ⟨af9 hT, amq hm (af9 hT) (TbOK.of hl) dp, (TbOK.of hl).ent⟩ rfl hrg hf.at' hf.body hf.call hf.flow h hv hend
end Go.Sx

namespace Go.Proofs.YtamhchkknlbanaaDoor.Be
open Go.Sx Go.Proofs
abbrev sI : Srt := .int .i64
abbrev I (z : Int) : X := .lit (.int .i64 z)
abbrev mnX : X := .lit (.int .i64 (-9223372036854775808))
abbrev mxX : X := .lit (.int .i64 9223372036854775807)
abbrev by' (d : CD) : List UInt8 := d.str.toList
def dig (b : UInt8) : Bool := decide (48 ≤ b.toNat) && decide (b.toNat ≤ 57)
def digs (l : List UInt8) : Bool := l.all dig
def valD (l : List UInt8) : Int := l.foldl (fun n b => 10 * n + ((b.toNat : Int) - 48)) 0
def afg (l : List UInt8) : Bool := !l.isEmpty && decide (l.length ≤ 10) && !(decide (1 < l.length) && decide ((l.getD 0 0).toNat = 48)) && digs l
def numV (l : List UInt8) : Int := if afg l = true then valD l else 0
def digV (x : Int) : Int := if 48 ≤ x ∧ x ≤ 57 then x - 48 else if 97 ≤ x ∧ x ≤ 102 then x - 97 + 10 else -1
noncomputable section
def a1p (b : UInt8) : Bool := decide (b.toNat = 48) || decide (b.toNat = 49)
def ab0 (l : List UInt8) : Bool := l.all a1p
def a2u (b : UInt8) : List CD := [aaf (decide (b.toNat = 49))]
def ajz (l : List UInt8) : List (List CD) := l.map a2u
def mkz (r : List (List CD)) : CD := .sl r.isEmpty r
def amo (l : List UInt8) : List (List CD) := if ab0 l = true then ajz l else []
def bg7 (a b : UInt8) : Int := 16 * digV a.toNat + digV b.toNat
def hexR : List UInt8 → List (List CD)
 | a :: b :: r => [vInt .u8 (bg7 a b)] :: hexR r
 | _ => []
def hexB : List UInt8 → Bool
 | a :: b :: r => decide (0 ≤ digV a.toNat) && decide (0 ≤ digV b.toNat) && hexB r
 | _ => true
def hexV (l : List UInt8) : List (List CD) := if hexB l = true then hexR l else []
def stp (s : List (List UInt8) × List UInt8) (b : UInt8) : List (List UInt8) × List UInt8 := if b.toNat = 32 then (s.1 ++ [s.2], []) else (s.1, s.2 ++ [b])
def st (l : List UInt8) : List (List UInt8) × List UInt8 := l.foldl stp ([], [])
def okB (b : UInt8) : Bool := decide (b.toNat = 32) || (decide (33 ≤ b.toNat) && decide (b.toNat ≤ 126))
def okW (l : List UInt8) : Bool := l.all okB && (st l).1.all fun w => !w.isEmpty
def tx (l : List UInt8) : CD := .v (.string ⟨l.toArray⟩)
def aiv (w : List UInt8) : List CD := [tx w]
def aas (l : List UInt8) : List (List CD) := (st l).1.map aiv
def line (d : CD) : List UInt8 := by' d ++ [32]
def aar (d : CD) : List (List CD) := if okW (line d) = true then aas (line d) else []
def bf4 : List (List UInt8 × Int × Int × Int) := [([116, 105, 99, 107], 1, 1, 0), ([116, 97, 107, 101], 2, 1, 0), ([102, 108, 111, 119], 14, 1, 0), ([97, 116], 3, 1, 0), ([100, 114, 111, 112], 4, 1, 0), ([100, 111, 117, 98, 108, 101], 5, 1, 0), ([109, 111, 118, 101], 6, 2, 0), ([99, 117, 116], 7, 2, 0), ([106, 111, 105, 110], 7, 2, 0), ([97, 115, 107], 8, 2, 1), ([97, 103, 97, 105, 110], 9, 1, 0), ([114, 101, 111, 112, 101, 110], 11, 1, 0), ([99, 114, 97, 115, 104], 10, 2, 2), ([102, 117, 115, 101], 12, 2, 0), ([116, 117, 114, 110], 13, 4, 0)]
def acr (l : List UInt8) : Option (List UInt8 × Int × Int × Int) := bf4.find? fun r => r.1 == l
def gw (W : List (List UInt8)) (i : Nat) : List UInt8 := W.getD i []
def aeu (e : Int) : List CD := [vInt .i64 0, vInt .i64 0, vInt .i64 0, vInt .i64 0, aaf false, vInt .u8 0, vInt .i64 0, .sl true [], .sl true [], vInt .i64 e]
def nOk (l : List UInt8) : Bool := afg l && decide (valD l ≤ 1073741824)
def nV (W : List (List UInt8)) (i : Nat) : Int := numV (gw W i)
def nOks (W : List (List UInt8)) : Nat → Bool
 | 0 => true
 | i + 1 => nOks W i && nOk (gw W (i + 1))
def ajw (k : Int) (v : Nat → Int) (is : Bool) (b e : CD) : List CD :=
 if k = 6 then [vInt .i64 k, vInt .i64 0, vInt .i64 (v 1), vInt .i64 (v 2), aaf is, vInt .u8 0, vInt .i64 0, b, e, vInt .i64 0]
 else if k = 7 then [vInt .i64 k, vInt .i64 (v 1), vInt .i64 0, vInt .i64 (v 2), aaf is, vInt .u8 0, vInt .i64 0, b, e, vInt .i64 0]
 else if k = 8 then [vInt .i64 k, vInt .i64 (v 1), vInt .i64 0, vInt .i64 0, aaf is, vInt .u8 0, vInt .i64 (v 2), b, e, vInt .i64 0]
 else if k = 9 ∨ k = 11 then [vInt .i64 k, vInt .i64 (v 1), vInt .i64 0, vInt .i64 0, aaf is, vInt .u8 0, vInt .i64 0, b, e, vInt .i64 0]
 else if k = 10 ∨ k = 12 then [vInt .i64 k, vInt .i64 (v 1), vInt .i64 (v 2), vInt .i64 0, aaf is, vInt .u8 0, vInt .i64 0, b, e, vInt .i64 0]
 else if k = 13 then [vInt .i64 k, vInt .i64 (v 1), vInt .i64 (v 2), vInt .i64 (v 3), aaf is, vInt .u8 (v 4), vInt .i64 0, b, e, vInt .i64 0]
 else [vInt .i64 k, vInt .i64 0, vInt .i64 (v 1), vInt .i64 0, aaf is, vInt .u8 0, vInt .i64 0, b, e, vInt .i64 0]
def hexP (l : List UInt8) (i : Nat) : List (List CD) := hexR (l.take (2 * i)) ++ List.replicate (l.length / 2 - i) [vInt .u8 0]
def ar9 (l : List UInt8) : Bool := hexB l && (decide (0 < l.length) && decide (l.length % 2 = 0))
def avw (l : List UInt8) : Bool := ab0 l && decide (0 < l.length)
def aau (W : List (List UInt8)) (k m r : Int) (is : Bool) : List CD :=
 if (W.length : Int) = m + 1 then
  if nOks W m.toNat = true ∧ ¬ (k = 13 ∧ 255 < nV W 4) then ajw k (nV W) is (.sl true []) (.sl true []) else aeu 2
 else if r ≠ 0 ∧ (W.length : Int) = m + 2 then
  if nOks W m.toNat = true then
   if r = 1 then (if ar9 (gw W (m.toNat + 1)) = true then ajw k (nV W) is (mkz (hexV (gw W (m.toNat + 1)))) (.sl true []) else aeu 2)
   else (if avw (gw W (m.toNat + 1)) = true then ajw k (nV W) is (.sl true []) (mkz (amo (gw W (m.toNat + 1)))) else aeu 2)
  else aeu 2
 else aeu 2
def atm (W : List (List UInt8)) : List CD :=
 match acr (gw W 0) with
 | none => aeu 6
 | some (w, k, m, r) => aau W k m r (w == [99, 117, 116])
def aaj (d : CD) : List CD := if 2200 < (by' d).length then aeu 3 else if okW (line d) = true then atm (st (line d)).1 else aeu 4
def afh (l : List UInt8) : Int := match Lib.atoiAll l with
 | .ok v => v
 | .syntax => 0
 | .range => Lib.atoiSat l
def badB (b : UInt8) : Bool := decide (b.toNat < 33) || decide (126 < b.toNat)
def aoh (l : List UInt8) : Bool := !l.isEmpty && !l.any badB
end
@[reducible] noncomputable def U : Us := ⟨fun n l => match n with
 | 201 => vInt .i64 (numV (by' (l.getD 0 default)))
 | 202 => aaf (afg (by' (l.getD 0 default)) && decide (valD (by' (l.getD 0 default)) ≤ 1073741824))
 | 203 => vInt .i64 (valD ((by' (l.getD 0 default)).take (l.getD 1 default).iv.toNat))
 | 204 => aaf (digs ((by' (l.getD 0 default)).take (l.getD 1 default).iv.toNat))
 | 205 => vInt .i64 (digV (l.getD 0 default).iv)
 | 206 => mkz (amo (by' (l.getD 0 default)))
 | 207 => aaf (ab0 (by' (l.getD 0 default)) && decide (0 < (by' (l.getD 0 default)).length))
 | 208 => mkz (ajz ((by' (l.getD 0 default)).take (l.getD 1 default).iv.toNat))
 | 209 => aaf (ab0 ((by' (l.getD 0 default)).take (l.getD 1 default).iv.toNat))
 | 210 => mkz (hexV (by' (l.getD 0 default)))
 | 211 => aaf (hexB (by' (l.getD 0 default)) && (decide (0 < (by' (l.getD 0 default)).length) && decide ((by' (l.getD 0 default)).length % 2 = 0)))
 | 212 => mkz (hexR ((by' (l.getD 0 default)).take (l.getD 1 default).iv.toNat))
 | 213 => aaf (hexB ((by' (l.getD 0 default)).take (l.getD 1 default).iv.toNat) && decide ((l.getD 1 default).iv.toNat % 2 = 0))
 | 220 => mkz (aas ((line (l.getD 0 default)).take (l.getD 1 default).iv.toNat))
 | 221 => tx (st ((line (l.getD 0 default)).take (l.getD 1 default).iv.toNat)).2
 | 222 => aaf (okW ((line (l.getD 0 default)).take (l.getD 1 default).iv.toNat))
 | 223 => mkz (aar (l.getD 0 default))
 | 224 => aaf (okW (line (l.getD 0 default)))
 | 230 => vInt .i64 (((acr (by' (l.getD 0 default))).map fun r => r.2.1).getD 0)
 | 231 => vInt .i64 (((acr (by' (l.getD 0 default))).map fun r => r.2.2.1).getD 0)
 | 232 => vInt .i64 (((acr (by' (l.getD 0 default))).map fun r => r.2.2.2).getD 0)
 | 233 => aaf (acr (by' (l.getD 0 default))).isSome
 | 240 => (aaj (l.getD 0 default)).getD 0 default
 | 241 => (aaj (l.getD 0 default)).getD 1 default
 | 242 => (aaj (l.getD 0 default)).getD 2 default
 | 243 => (aaj (l.getD 0 default)).getD 3 default
 | 244 => (aaj (l.getD 0 default)).getD 4 default
 | 245 => (aaj (l.getD 0 default)).getD 5 default
 | 246 => (aaj (l.getD 0 default)).getD 6 default
 | 247 => (aaj (l.getD 0 default)).getD 7 default
 | 248 => (aaj (l.getD 0 default)).getD 8 default
 | 249 => (aaj (l.getD 0 default)).getD 9 default
 | 250 => vInt .i64 (afh (by' (l.getD 0 default)))
 | 251 => tx (Lib.itoa (l.getD 0 default).iv)
 | 252 => CD.sl false (aas (line (l.getD 0 default)))
 | 254 => aaf ((by' (l.getD 0 default)).any badB)
 | 255 => vInt .i64 (Lib.indexByte (by' (l.getD 0 default)) (l.getD 1 default).iv.toNat.toUInt8)
 | 256 => aaf (((st (line (l.getD 0 default))).1.take (l.getD 1 default).iv.toNat).all aoh)
 | 257 => aaf (((by' (l.getD 0 default)).take (l.getD 1 default).iv.toNat).all fun b => decide (b.toNat ≤ 126))
 | 258 => aaf (ab0 (by' (l.getD 0 default)))
 | 259 => aaf (hexB (by' (l.getD 0 default)) && decide ((by' (l.getD 0 default)).length % 2 = 0))
 | 260 => if hexB (by' (l.getD 0 default)) = true then CD.sl false (hexR (by' (l.getD 0 default))) else CD.sl true []
 | 261 => CD.sl false (hexP (by' (l.getD 0 default)) (l.getD 1 default).iv.toNat)
 | 262 => aaf (hexB ((by' (l.getD 0 default)).take (2 * (l.getD 1 default).iv.toNat)))
 | _ => default, lcOf []⟩
theorem a5y (a : CD) : @Us.u U 201 [a] = vInt .i64 (numV (by' a)) := rfl
theorem av3 (a : CD) : @Us.u U 202 [a] = aaf (afg (by' a) && decide (valD (by' a) ≤ 1073741824)) := rfl
theorem bdy (a b : CD) : @Us.u U 203 [a, b] = vInt .i64 (valD ((by' a).take b.iv.toNat)) := rfl
theorem bgv (a b : CD) : @Us.u U 204 [a, b] = aaf (digs ((by' a).take b.iv.toNat)) := rfl
theorem a05 (a : CD) : @Us.u U 205 [a] = vInt .i64 (digV a.iv) := rfl
theorem aof (a : CD) : @Us.u U 206 [a] = mkz (amo (by' a)) := rfl
theorem a2j (a : CD) : @Us.u U 207 [a] = aaf (ab0 (by' a) && decide (0 < (by' a).length)) := rfl
theorem az4 (a b : CD) : @Us.u U 208 [a, b] = mkz (ajz ((by' a).take b.iv.toNat)) := rfl
theorem a0l (a b : CD) : @Us.u U 209 [a, b] = aaf (ab0 ((by' a).take b.iv.toNat)) := rfl
theorem a0n (a : CD) : @Us.u U 210 [a] = mkz (hexV (by' a)) := rfl
theorem a3v (a : CD) : @Us.u U 211 [a] = aaf (hexB (by' a) && (decide (0 < (by' a).length) && decide ((by' a).length % 2 = 0))) := rfl
theorem bgh (a b : CD) : @Us.u U 212 [a, b] = mkz (hexR ((by' a).take b.iv.toNat)) := rfl
theorem be9 (a b : CD) : @Us.u U 213 [a, b] = aaf (hexB ((by' a).take b.iv.toNat) && decide (b.iv.toNat % 2 = 0)) := rfl
theorem bdv (a b : CD) : @Us.u U 220 [a, b] = mkz (aas ((line a).take b.iv.toNat)) := rfl
theorem bfk (a b : CD) : @Us.u U 221 [a, b] = tx (st ((line a).take b.iv.toNat)).2 := rfl
theorem be7 (a b : CD) : @Us.u U 222 [a, b] = aaf (okW ((line a).take b.iv.toNat)) := rfl
theorem a0f (a : CD) : @Us.u U 223 [a] = mkz (aar a) := rfl
theorem aml (a : CD) : @Us.u U 224 [a] = aaf (okW (line a)) := rfl
theorem a9x (a : CD) : @Us.u U 240 [a] = (aaj a).getD 0 default := rfl
theorem bbg (a : CD) : @Us.u U 241 [a] = (aaj a).getD 1 default := rfl
theorem bbk (a : CD) : @Us.u U 242 [a] = (aaj a).getD 2 default := rfl
theorem a9b (a : CD) : @Us.u U 243 [a] = (aaj a).getD 3 default := rfl
theorem a9c (a : CD) : @Us.u U 244 [a] = (aaj a).getD 4 default := rfl
theorem bab (a : CD) : @Us.u U 245 [a] = (aaj a).getD 5 default := rfl
theorem a8x (a : CD) : @Us.u U 246 [a] = (aaj a).getD 6 default := rfl
theorem a8j (a : CD) : @Us.u U 247 [a] = (aaj a).getD 7 default := rfl
theorem a9f (a : CD) : @Us.u U 248 [a] = (aaj a).getD 8 default := rfl
theorem a8d (a : CD) : @Us.u U 249 [a] = (aaj a).getD 9 default := rfl
theorem bir (a : CD) : @Us.u U 250 [a] = vInt .i64 (afh (by' a)) := rfl
theorem az9 (a : CD) : @Us.u U 252 [a] = CD.sl false (aas (line a)) := rfl
theorem bgq (a : CD) : @Us.u U 254 [a] = aaf ((by' a).any badB) := rfl
theorem bg9 (a b : CD) : @Us.u U 255 [a, b] = vInt .i64 (Lib.indexByte (by' a) b.iv.toNat.toUInt8) := rfl
theorem bj4 (a b : CD) : @Us.u U 256 [a, b] = aaf (((st (line a)).1.take b.iv.toNat).all aoh) := rfl
theorem bjy (a b : CD) : @Us.u U 257 [a, b] = aaf (((by' a).take b.iv.toNat).all fun b => decide (b.toNat ≤ 126)) := rfl
theorem a3x (a : CD) : @Us.u U 258 [a] = aaf (ab0 (by' a)) := rfl
theorem be5 (a : CD) : @Us.u U 259 [a] = aaf (hexB (by' a) && decide ((by' a).length % 2 = 0)) := rfl
theorem bha (a : CD) : @Us.u U 260 [a] = if hexB (by' a) = true then CD.sl false (hexR (by' a)) else CD.sl true [] := rfl
theorem bkk (a b : CD) : @Us.u U 261 [a, b] = CD.sl false (hexP (by' a) b.iv.toNat) := rfl
theorem bjt (a b : CD) : @Us.u U 262 [a, b] = aaf (hexB ((by' a).take (2 * b.iv.toNat))) := rfl
noncomputable def T0 : FuncId → Option Fsp := fun _ => none
theorem hT0 : ∀ f S, T0 f = some S → aaq U Tryd.prog f S := fun f S h => by cases h
theorem abk {a b : Bool} : (aaf a = aaf b) = (a = b) := by unfold aaf; simp
theorem ab3 {k : IntKind} {a b : Int} : (vInt k a = vInt k b) = (a = b) := by unfold vInt; simp
theorem ad8 {r r' : List (List CD)} : (CD.sl (true && r.isEmpty) r = mkz r') = (r = r') := by
 unfold mkz
 simp only [Bool.true_and, CD.sl.injEq, eq_iff_iff]
 exact ⟨fun h => h.2, fun h => by rw [h]; exact ⟨rfl, rfl⟩⟩
theorem ac6 {r : List (List CD)} : CD.sl (true && r.isEmpty) r = mkz r := by unfold mkz; rfl
theorem agl {r r' : List (List CD)} : (mkz r = mkz r') = (r = r') := by rw [← ac6, ad8]
theorem ac3 (b : Bool) : CD.v (.bool b) = aaf b := rfl
theorem acg (k : IntKind) (z : Int) : CD.v (.int k z) = vInt k z := rfl
theorem ad2 {α : Type} {a b : α} : ([a] = [b]) = (a = b) := by simp
def byAt (d : CD) (i : Int) : Int := (((by' d).getD i.toNat 0).toNat : Int)
theorem adx [Sg] (a i : X) : den (.ap .sidx [a, i]) = vInt .u8 (byAt (den a) (den i).iv) := rfl
theorem a3l {d : CD} (hT : Typ .str d) : ∃ s : ByteArray, d = .v (.string s) ∧ s.size ≤ maxN := by
 obtain ⟨m, u, s, h1, h2, h3⟩ := hT
 exact ⟨s, h1, h3⟩
theorem abf {d : CD} (hT : Typ .str d) : (d.slen : Int) = (by' d).length := by
 obtain ⟨s, rfl, h⟩ := a3l hT
 show ((clip s.size : Nat) : Int) = ((s.toList).length : Int)
 rw [afo h, ByteArray.toList_eq]
 rfl
theorem aqj {a b : ByteArray} : (eqC (.v (.string a)) (.v (.string b)) = true) = (a.toList = b.toList) := by
 show ((a.toList == b.toList) = true) = _
 rw [beq_iff_eq]
theorem asb {d : CD} (hT : Typ .str d) : (eqC d (.v (.string ⟨⟨[]⟩⟩)) = true) = (by' d = []) := by
 obtain ⟨s, rfl, h⟩ := a3l hT
 rw [aqj, ByteArray.toList_eq ⟨⟨[]⟩⟩]
 rfl
end Go.Proofs.YtamhchkknlbanaaDoor.Be
