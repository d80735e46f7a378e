/-
  The forms of a seat's lines, as the program lays them. Conditions: none.
-/
import Derived.Test.YtamhchkknlbanaaDoorBeF
import Derived.Test.YtamhchkknlbanaaDoorBeI
import Derived.Test.YtamhchkknlbanaaDoorBeN
set_option linter.unusedSectionVars false
set_option linter.unusedVariables false
set_option linter.unusedSimpArgs false
namespace Go.Proofs.YtamhchkknlbanaaDoor.Be
open Go.Sx Go.Proofs
abbrev wsC (d : CD) : CD := CD.sl false (acj (line d))
theorem caj {d : CD} : (acj (line d)).length = (wds d).length := by
 show ((wds d).map ah4).length = _
 rw [List.length_map]
theorem b3b {d : CD} (hT : Typ (.sl [.str]) (wsC d)) (k : Nat) : ((CD.sl false ((acj (line d)).drop k)).len : Int) = ((wds d).length - k : Nat) := by
 have h := hT.sl.2
 have h : (acj (line d)).length ≤ maxN := h
 show ((clip ((acj (line d)).drop k).length : Nat) : Int) = _
 rw [aiz (by rw [List.length_drop]; omega), List.length_drop, caj]
theorem bmw {d : CD} (k : Nat) : by' ((CD.sl false ((acj (line d)).drop k)).cell 0 0) = gw (wds d) k := by
 have := aew (d := d) (k : Int)
 rw [Int.toNat_natCast] at this
 rw [← this]
 unfold CD.cell
 show by' ((((acj (line d)).drop k).getD (Int.toNat 0) []).getD 0 default) = by' (((acj (line d)).getD (k : Int).toNat []).getD 0 default)
 rw [Int.toNat_natCast]
 have e : ((acj (line d)).drop k).getD (Int.toNat 0) [] = (acj (line d)).getD k [] := by
  show ((acj (line d)).drop k).getD 0 [] = _
  rw [List.getD_eq_getElem?_getD, List.getD_eq_getElem?_getD, List.getElem?_drop, Nat.add_zero]
 rw [e]
theorem tk_0 {d : CD} (hT : Typ (.sl [.str]) (wsC d)) : (acj (line d)).take 9223372036854775807 = acj (line d) := by
 have h : (acj (line d)).length ≤ maxN := hT.sl.2
 exact List.take_of_length_le h
theorem tk_k {d : CD} (hT : Typ (.sl [.str]) (wsC d)) (k : Nat) : ((acj (line d)).drop k).take 9223372036854775807 = (acj (line d)).drop k := by
 have h : (acj (line d)).length ≤ maxN := hT.sl.2
 refine List.take_of_length_le ?_
 rw [List.length_drop]
 exact Nat.le_trans (Nat.sub_le _ _) h
theorem bzi {d : CD} (hT : Typ .str d) (h : ¬ 2200 < (d.slen : Int)) (k : Nat) : (((CD.sl false ((acj (line d)).drop k)).cell 0 0).slen : Int) ≤ 2500 := by
 have h1 := b6v ((CD.sl false ((acj (line d)).drop k)).cell 0 0)
 rw [bmw] at h1
 have h2 := b8q d k
 rw [ag7 hT] at h
 omega
theorem ws_1 {d : CD} (hk : okW (line d) = true) (hT : Typ (.sl [.str]) (wsC d)) : 1 ≤ ((wsC d).len : Int) := by
 have := bkg hT
 have := b96 hk
 show 1 ≤ ((CD.sl false (acj (line d))).len : Int)
 omega
theorem kA {W : List (List UInt8)} {k m r : Int} {is : Bool} (h : (W.length : Int) < m + 1) : ab6 W k m r is = alb 2 := by
 unfold ab6
 rw [if_neg (by omega), if_neg (by omega)]
theorem bpm {W : List (List UInt8)} : ∀ {n j : Nat}, 1 ≤ j → j ≤ n → ¬ nOk (gw W j) = true → nOks W n = false
 | 0, j, h1, h2, _ => by omega
 | n + 1, j, h1, h2, h => by
  unfold nOks
  rw [Bool.and_eq_false_iff]
  by_cases hj : j = n + 1
  ·subst hj
   exact .inr (by simpa using h)
  ·exact .inl (bpm h1 (by omega) h)
theorem kB {W : List (List UInt8)} {k m r : Int} {is : Bool} (j : Nat) (h1 : 1 ≤ j) (h2 : j ≤ m.toNat) (h : ¬ nOk (gw W j) = true) : ab6 W k m r is = alb 2 := by
 have e := bpm h1 h2 h
 unfold ab6
 rw [e]
 simp
theorem kC {W : List (List UInt8)} {k m r : Int} {is : Bool} (h : m + 2 < (W.length : Int)) : ab6 W k m r is = alb 2 := by
 unfold ab6
 rw [if_neg (by omega), if_neg (by omega)]
theorem kC0 {W : List (List UInt8)} {k m : Int} {is : Bool} (h : ¬ (W.length : Int) = m + 1) : ab6 W k m 0 is = alb 2 := by
 unfold ab6
 rw [if_neg h, if_neg (by omega)]
theorem kM {W : List (List UInt8)} {m : Int} {is : Bool} (h : 255 < nV W 4) : ab6 W 13 m 0 is = alb 2 := by
 unfold ab6
 simp [h]
theorem kD {W : List (List UInt8)} {k m r : Int} {is : Bool} (h : (W.length : Int) = m + 1) (hn : nOks W m.toNat = true) (hm : ¬ (k = 13 ∧ 255 < nV W 4)) : ab6 W k m r is = an0 k (nV W) is (.sl true []) (.sl true []) := by
 unfold ab6
 rw [if_pos h, if_pos ⟨hn, hm⟩]
theorem kE1 {W : List (List UInt8)} {k m : Int} {is : Bool} (h : (W.length : Int) = m + 2) (hn : nOks W m.toNat = true) : ab6 W k m 1 is = if ar7 (gw W (m.toNat + 1)) = true then an0 k (nV W) is (mkz (hexV (gw W (m.toNat + 1)))) (.sl true []) else alb 2 := by
 unfold ab6
 rw [if_neg (by omega), if_pos ⟨by decide, h⟩, if_pos hn, if_pos rfl]
theorem kE2 {W : List (List UInt8)} {k m : Int} {is : Bool} (h : (W.length : Int) = m + 2) (hn : nOks W m.toNat = true) : ab6 W k m 2 is = if awp (gw W (m.toNat + 1)) = true then an0 k (nV W) is (.sl true []) (mkz (an8 (gw W (m.toNat + 1)))) else alb 2 := by
 unfold ab6
 rw [if_neg (by omega), if_pos ⟨by decide, h⟩, if_pos hn, if_neg (by decide)]
theorem w_pos {d : CD} (hk : okW (line d) = true) {k : Nat} (h : k < (wds d).length) : 0 < (gw (wds d) k).length := by
 unfold okW at hk
 rw [Bool.and_eq_true] at hk
 have := List.all_eq_true.1 hk.2 _ (bu6 (W := wds d) h)
 cases hg : gw (wds d) k with
 | nil => rw [hg] at this; cases this
 | cons a r => simp
theorem b8v {d : CD} (hk : okW (line d) = true) {k : Nat} (h : k < (wds d).length) : (hexB (gw (wds d) k) && decide ((gw (wds d) k).length % 2 = 0)) = ar7 (gw (wds d) k) := by
 unfold ar7
 rw [decide_eq_true (w_pos hk h), Bool.true_and]
theorem b7z {d : CD} (hk : okW (line d) = true) {k : Nat} (h : k < (wds d).length) : ad3 (gw (wds d) k) = awp (gw (wds d) k) := by
 unfold awp
 rw [decide_eq_true (w_pos hk h), Bool.and_true]
theorem bz6 {l : List UInt8} (h : ar7 l = true) : (if hexB l = true then CD.sl false (hexR l) else CD.sl true []) = mkz (hexV l) := by
 unfold ar7 at h
 simp only [Bool.and_eq_true, decide_eq_true_eq] at h
 unfold hexV
 rw [if_pos h.1, if_pos h.1]
 unfold mkz
 have : (hexR l).isEmpty = false := by
  match l, h with
  | [], h => exact absurd h.2.1 (by simp)
  | [_], h => exact absurd h.2.2 (by simp)
  | _ :: _ :: _, _ => rfl
 rw [this]
theorem b56 {d : CD} (hw : eqC ((wsC d).cell 0 0) (.v (.string ⟨⟨[116, 105, 99, 107]⟩⟩)) = true) (h : ¬ 2200 < (d.slen : Int)) (hT : Typ .str d) (hk : okW (line d) = true) : aai d = ab6 (wds d) 1 1 0 false := akf h hT hk (by have := aq7 hw; rwa [aew] at this) (by decide : ah5 [116, 105, 99, 107] = some ([116, 105, 99, 107], 1, 1, 0))
theorem b55 {d : CD} (hw : eqC ((wsC d).cell 0 0) (.v (.string ⟨⟨[116, 97, 107, 101]⟩⟩)) = true) (h : ¬ 2200 < (d.slen : Int)) (hT : Typ .str d) (hk : okW (line d) = true) : aai d = ab6 (wds d) 2 1 0 false := akf h hT hk (by have := aq7 hw; rwa [aew] at this) (by decide : ah5 [116, 97, 107, 101] = some ([116, 97, 107, 101], 2, 1, 0))
theorem b50 {d : CD} (hw : eqC ((wsC d).cell 0 0) (.v (.string ⟨⟨[102, 108, 111, 119]⟩⟩)) = true) (h : ¬ 2200 < (d.slen : Int)) (hT : Typ .str d) (hk : okW (line d) = true) : aai d = ab6 (wds d) 14 1 0 false := akf h hT hk (by have := aq7 hw; rwa [aew] at this) (by decide : ah5 [102, 108, 111, 119] = some ([102, 108, 111, 119], 14, 1, 0))
theorem cba {d : CD} (hw : eqC ((wsC d).cell 0 0) (.v (.string ⟨⟨[97, 116]⟩⟩)) = true) (h : ¬ 2200 < (d.slen : Int)) (hT : Typ .str d) (hk : okW (line d) = true) : aai d = ab6 (wds d) 3 1 0 false := akf h hT hk (by have := aq7 hw; rwa [aew] at this) (by decide : ah5 [97, 116] = some ([97, 116], 3, 1, 0))
theorem b5z {d : CD} (hw : eqC ((wsC d).cell 0 0) (.v (.string ⟨⟨[100, 114, 111, 112]⟩⟩)) = true) (h : ¬ 2200 < (d.slen : Int)) (hT : Typ .str d) (hk : okW (line d) = true) : aai d = ab6 (wds d) 4 1 0 false := akf h hT hk (by have := aq7 hw; rwa [aew] at this) (by decide : ah5 [100, 114, 111, 112] = some ([100, 114, 111, 112], 4, 1, 0))
theorem bwx {d : CD} (hw : eqC ((wsC d).cell 0 0) (.v (.string ⟨⟨[100, 111, 117, 98, 108, 101]⟩⟩)) = true) (h : ¬ 2200 < (d.slen : Int)) (hT : Typ .str d) (hk : okW (line d) = true) : aai d = ab6 (wds d) 5 1 0 false := akf h hT hk (by have := aq7 hw; rwa [aew] at this) (by decide : ah5 [100, 111, 117, 98, 108, 101] = some ([100, 111, 117, 98, 108, 101], 5, 1, 0))
theorem b53 {d : CD} (hw : eqC ((wsC d).cell 0 0) (.v (.string ⟨⟨[109, 111, 118, 101]⟩⟩)) = true) (h : ¬ 2200 < (d.slen : Int)) (hT : Typ .str d) (hk : okW (line d) = true) : aai d = ab6 (wds d) 6 2 0 false := akf h hT hk (by have := aq7 hw; rwa [aew] at this) (by decide : ah5 [109, 111, 118, 101] = some ([109, 111, 118, 101], 6, 2, 0))
theorem b9m {d : CD} (hw : eqC ((wsC d).cell 0 0) (.v (.string ⟨⟨[99, 117, 116]⟩⟩)) = true) (h : ¬ 2200 < (d.slen : Int)) (hT : Typ .str d) (hk : okW (line d) = true) : aai d = ab6 (wds d) 7 2 0 true := akf h hT hk (by have := aq7 hw; rwa [aew] at this) (by decide : ah5 [99, 117, 116] = some ([99, 117, 116], 7, 2, 0))
theorem b52 {d : CD} (hw : eqC ((wsC d).cell 0 0) (.v (.string ⟨⟨[106, 111, 105, 110]⟩⟩)) = true) (h : ¬ 2200 < (d.slen : Int)) (hT : Typ .str d) (hk : okW (line d) = true) : aai d = ab6 (wds d) 7 2 0 false := akf h hT hk (by have := aq7 hw; rwa [aew] at this) (by decide : ah5 [106, 111, 105, 110] = some ([106, 111, 105, 110], 7, 2, 0))
theorem b9l {d : CD} (hw : eqC ((wsC d).cell 0 0) (.v (.string ⟨⟨[97, 115, 107]⟩⟩)) = true) (h : ¬ 2200 < (d.slen : Int)) (hT : Typ .str d) (hk : okW (line d) = true) : aai d = ab6 (wds d) 8 2 1 false := akf h hT hk (by have := aq7 hw; rwa [aew] at this) (by decide : ah5 [97, 115, 107] = some ([97, 115, 107], 8, 2, 1))
theorem b1i {d : CD} (hw : eqC ((wsC d).cell 0 0) (.v (.string ⟨⟨[97, 103, 97, 105, 110]⟩⟩)) = true) (h : ¬ 2200 < (d.slen : Int)) (hT : Typ .str d) (hk : okW (line d) = true) : aai d = ab6 (wds d) 9 1 0 false := akf h hT hk (by have := aq7 hw; rwa [aew] at this) (by decide : ah5 [97, 103, 97, 105, 110] = some ([97, 103, 97, 105, 110], 9, 1, 0))
theorem bwy {d : CD} (hw : eqC ((wsC d).cell 0 0) (.v (.string ⟨⟨[114, 101, 111, 112, 101, 110]⟩⟩)) = true) (h : ¬ 2200 < (d.slen : Int)) (hT : Typ .str d) (hk : okW (line d) = true) : aai d = ab6 (wds d) 11 1 0 false := akf h hT hk (by have := aq7 hw; rwa [aew] at this) (by decide : ah5 [114, 101, 111, 112, 101, 110] = some ([114, 101, 111, 112, 101, 110], 11, 1, 0))
theorem b1j {d : CD} (hw : eqC ((wsC d).cell 0 0) (.v (.string ⟨⟨[99, 114, 97, 115, 104]⟩⟩)) = true) (h : ¬ 2200 < (d.slen : Int)) (hT : Typ .str d) (hk : okW (line d) = true) : aai d = ab6 (wds d) 10 2 2 false := akf h hT hk (by have := aq7 hw; rwa [aew] at this) (by decide : ah5 [99, 114, 97, 115, 104] = some ([99, 114, 97, 115, 104], 10, 2, 2))
theorem b51 {d : CD} (hw : eqC ((wsC d).cell 0 0) (.v (.string ⟨⟨[102, 117, 115, 101]⟩⟩)) = true) (h : ¬ 2200 < (d.slen : Int)) (hT : Typ .str d) (hk : okW (line d) = true) : aai d = ab6 (wds d) 12 2 0 false := akf h hT hk (by have := aq7 hw; rwa [aew] at this) (by decide : ah5 [102, 117, 115, 101] = some ([102, 117, 115, 101], 12, 2, 0))
theorem b57 {d : CD} (hw : eqC ((wsC d).cell 0 0) (.v (.string ⟨⟨[116, 117, 114, 110]⟩⟩)) = true) (h : ¬ 2200 < (d.slen : Int)) (hT : Typ .str d) (hk : okW (line d) = true) : aai d = ab6 (wds d) 13 4 0 false := akf h hT hk (by have := aq7 hw; rwa [aew] at this) (by decide : ah5 [116, 117, 114, 110] = some ([116, 117, 114, 110], 13, 4, 0))
theorem b54 {d : CD} (n0 : ¬ eqC ((wsC d).cell 0 0) (.v (.string ⟨⟨[116, 105, 99, 107]⟩⟩)) = true) (n1 : ¬ eqC ((wsC d).cell 0 0) (.v (.string ⟨⟨[116, 97, 107, 101]⟩⟩)) = true) (n2 : ¬ eqC ((wsC d).cell 0 0) (.v (.string ⟨⟨[102, 108, 111, 119]⟩⟩)) = true) (n3 : ¬ eqC ((wsC d).cell 0 0) (.v (.string ⟨⟨[97, 116]⟩⟩)) = true) (n4 : ¬ eqC ((wsC d).cell 0 0) (.v (.string ⟨⟨[100, 114, 111, 112]⟩⟩)) = true) (n5 : ¬ eqC ((wsC d).cell 0 0) (.v (.string ⟨⟨[100, 111, 117, 98, 108, 101]⟩⟩)) = true) (n6 : ¬ eqC ((wsC d).cell 0 0) (.v (.string ⟨⟨[109, 111, 118, 101]⟩⟩)) = true) (n7 : ¬ eqC ((wsC d).cell 0 0) (.v (.string ⟨⟨[99, 117, 116]⟩⟩)) = true) (n8 : ¬ eqC ((wsC d).cell 0 0) (.v (.string ⟨⟨[106, 111, 105, 110]⟩⟩)) = true) (n9 : ¬ eqC ((wsC d).cell 0 0) (.v (.string ⟨⟨[97, 115, 107]⟩⟩)) = true) (n10 : ¬ eqC ((wsC d).cell 0 0) (.v (.string ⟨⟨[97, 103, 97, 105, 110]⟩⟩)) = true) (n11 : ¬ eqC ((wsC d).cell 0 0) (.v (.string ⟨⟨[114, 101, 111, 112, 101, 110]⟩⟩)) = true) (n12 : ¬ eqC ((wsC d).cell 0 0) (.v (.string ⟨⟨[99, 114, 97, 115, 104]⟩⟩)) = true) (n13 : ¬ eqC ((wsC d).cell 0 0) (.v (.string ⟨⟨[102, 117, 115, 101]⟩⟩)) = true) (n14 : ¬ eqC ((wsC d).cell 0 0) (.v (.string ⟨⟨[116, 117, 114, 110]⟩⟩)) = true) (h1 : 1 ≤ ((wsC d).len : Int)) (hTs : Typ (.sl [.str]) (wsC d)) (h : ¬ 2200 < (d.slen : Int)) (hT : Typ .str d) (hk : okW (line d) = true) : aai d = alb 6 := by
 refine b9k h hT hk ?_
 have hc : Typ .str ((wsC d).cell 0 0) := hTs.cell (Int.le_refl 0) (by omega) rfl
 rw [b8e hc, aew] at n0 n1 n2 n3 n4 n5 n6 n7 n8 n9 n10 n11 n12 n13 n14
 have e : Int.toNat 0 = 0 := rfl
 rw [e] at n0 n1 n2 n3 n4 n5 n6 n7 n8 n9 n10 n11 n12 n13 n14
 unfold ah5 bzw
 have z : ∀ l : List UInt8, ¬ gw (wds d) 0 = l → (l == gw (wds d) 0) = false := fun l hl => by
  rw [beq_eq_false_iff_ne]
  exact fun h => hl h.symm
 simp only [List.find?, z _ n0, z _ n1, z _ n2, z _ n3, z _ n4, z _ n5, z _ n6, z _ n7, z _ n8, z _ n9, z _ n10, z _ n11, z _ n12, z _ n13, z _ n14]
end Go.Proofs.YtamhchkknlbanaaDoor.Be

namespace Go.Sx
noncomputable section
def He : HP := ⟨.nil, 0, 0, [], 0⟩
def bvp : List Cel → Bool
 | [] => true
 | .lit _ :: r => bvp r
 | _ :: _ => false
def bvq : List Ent → Bool
 | [] => true
 | e :: r => bvp e.1.2 && (bvp e.2.1.2 && bvq r)
def mapO (f : Nat) (es : List Ent) (clock : Nat) : OraM := fun t args H =>
 match t, args with
 | .f g, [] => match Nat.beq g f with
  | true => some [(.one (.mp H.n), H.push (.lf [some (.map es clock)]))]
  | false => none
 | _, _ => none
def orM2 (a b : OraM) : OraM := fun t args H => match a t args H with
 | some r => some r
 | none => b t args H
def azy (x : Option (List VC × List (AV × HP))) : Option (List Ent × Nat) :=
 match x with
 | some ([], [(.one (.mp b), H)]) => match arb H b with
  | some (es, c) => match bvq es with
   | true => some (es, c)
   | false => none
  | none => none
 | _ => none
end
theorem b5t {U : Us} {P : Program} {a b : OraM} (ha : air U P a) (hb : air U P b) : air U P (orM2 a b) := by
 intro σ hU t args H outs h
 unfold orM2 at h
 split at h
 ·rename_i r hr
  cases h
  exact ha σ hU t args H outs hr
 ·exact hb σ hU t args H outs h
section
variable {ρ ρ' : PM}
theorem CRel.lit {σ σ' : Sg} {v : Value} {u : Value} (h : @CRel σ ρ (.lit v) u) : @CRel σ' ρ' (.lit v) u := h
theorem bie {σ σ' : Sg} : ∀ {cs : List Cel} {us : List Value}, bvp cs = true → All2 (@CRel σ ρ) cs us → All2 (@CRel σ' ρ') cs us
 | [], [], _, _ => trivial
 | c :: cs, u :: us, h, ⟨h1, h2⟩ => by
  cases c with
  | lit v => exact ⟨h1, bie (cs := cs) h h2⟩
  | _ => cases h
 | [], _ :: _, _, h => h.elim
 | _ :: _, [], _, h => h.elim
theorem bpe {σ σ' : Sg} : ∀ {p : Bool × List Cel} {u : Value}, bvp p.2 = true → @PRel σ ρ p u → @PRel σ' ρ' p u
 | (true, xs), u, h, ⟨us, h1, h2⟩ => ⟨us, h1, bie h h2⟩
 | (false, [c]), u, h, hr => by
  cases c with
  | lit v => exact hr
  | _ => cases h
 | (false, []), _, _, hr => hr.elim
 | (false, _ :: _ :: _), _, _, hr => hr.elim
theorem bil {σ σ' : Sg} : ∀ {es : List Ent} {ms : List MapEntry}, bvq es = true → All2 (@aeb σ ρ) es ms → All2 (@aeb σ' ρ') es ms
 | [], [], _, _ => trivial
 | e :: es, m :: ms, h, ⟨⟨h1, h2, h3⟩, h4⟩ => by
  simp only [bvq, Bool.and_eq_true] at h
  exact ⟨⟨bpe h.1 h1, bpe h.2.1 h2, h3⟩, bil h.2.2 h4⟩
 | [], _ :: _, _, h => h.elim
 | _ :: _, [], _, h => h.elim
end
theorem Sim.newCt [Sg] {ρ : PM} {H : HP} {w w' : World} {x : Ct} {B : Nat} (hH : HRel ρ H w) (hd : Dom ρ H.n) (hk : Keep w w') (hB : w.heap.size ≤ B) (hr : ∀ ρ' : PM, ahk ρ' w' ⟨B, 0, 0, none⟩ 0 x) :
  Sim ρ H w (upd ρ H.n ⟨B, 0, 0, none⟩) (H.push (.lf [some x])) w' := by
 have hfr := hd H.n (Nat.le_refl _)
 have hle : PM.le ρ (upd ρ H.n ⟨B, 0, 0, none⟩) := akp hfr
 have hnew : ∀ i c, (H.push (.lf [some x])).cell H.n i = some c → i = 0 ∧ c = x := by
  intro i c hc
  rw [HP.cell_push, if_pos rfl] at hc
  cases i with
  | zero => cases hc; exact ⟨rfl, rfl⟩
  | succ i => cases (show (none : Option Ct) = some c from hc)
 have hkn : ∀ b, b ≠ H.n → (H.push (.lf [some x])).Kn b → H.Kn b := by
  rintro b hb ⟨i, c, hc⟩
  rw [HP.cell_push, if_neg hb] at hc
  exact ⟨i, c, hc⟩
 have hlt : ∀ b L, H.Kn b → ρ b = some L → L.B < w.heap.size := fun b L ⟨i, c, hc⟩ hL => (hH.rel b i c L hc hL).lt
 refine Sim0.up ?_ hd fun b L h1 h2 => ?_
 rotate_left
 ·by_cases hb : b = H.n
  ·subst hb
   rw [upd_same] at h2
   cases h2
   rfl
  ·rw [upd_ne hb, h1] at h2; cases h2
 exact {
  le := hle
  grow := Nat.le_succ _
  dom := fun b hb => by
   have hb : H.n + 1 ≤ b := hb
   rw [upd_ne (by omega)]
   exact hd b (by omega)
  rel := by
   refine ⟨fun b i c L hc hL => ?_, fun b b' L L' g1 g2 hL hL' he => ?_, hH.hy⟩
   ·by_cases hb : b = H.n
    ·subst hb
     rw [upd_same] at hL
     cases hL
     obtain ⟨rfl, rfl⟩ := hnew i c hc
     exact hr _
    ·rw [HP.cell_push, if_neg hb] at hc
     rw [upd_ne hb] at hL
     have := hH.rel b i c L hc hL
     exact (this.mono hle).of_heap (hk.old _ this.lt)
   ·by_cases hb : b = H.n
    ·by_cases hb' : b' = H.n
     ·rw [hb, hb']
     ·subst hb
      rw [upd_same] at hL
      rw [upd_ne hb'] at hL'
      cases hL
      have := hlt b' L' (hkn b' hb' g2) hL'
      have : B = L'.B := he
      omega
    ·by_cases hb' : b' = H.n
     ·subst hb'
      rw [upd_same] at hL'
      rw [upd_ne hb] at hL
      cases hL'
      have := hlt b L (hkn b hb g1) hL
      have : L.B = B := he
      omega
     ·rw [upd_ne hb] at hL
      rw [upd_ne hb'] at hL'
      exact hH.inj b b' L L' (hkn b hb g1) (hkn b' hb' g2) hL hL' he
  knc := fun b i hb hc => by
   rw [HP.cell_push, if_neg (by omega)]
   exact hc
  fr := fun k hk' _ => hk.old k hk'
  new := fun b L h1 h2 => by
   by_cases hb : b = H.n
   ·subst hb; rw [upd_same] at h2; cases h2; exact .inl hB
   ·rw [upd_ne hb, h1] at h2; cases h2
  size := hk.size
  os := hk.os
  tape := hk.tape
  output := hk.output
  old := fun b L h1 h2 => by
   by_cases hb : b = H.n
   ·exact Nat.le_of_eq hb.symm
   ·rw [upd_ne hb, h1] at h2; cases h2 }
theorem Sim.newMap [Sg] {ρ : PM} {H : HP} {w w' : World} {es : List Ent} {clock B : Nat} {arr : Array MapEntry} (hH : HRel ρ H w) (hd : Dom ρ H.n) (hk : Keep w w') (hB : w.heap.size ≤ B) (harr : w'.heap[B]? = some (.map arr clock)) (hr : ∀ ρ' : PM, All2 (aeb ρ') es arr.toList) :
  Sim ρ H w (upd ρ H.n ⟨B, 0, 0, none⟩) (H.push (.lf [some (.map es clock)])) w' := Sim.newCt hH hd hk hB fun ρ' => ⟨rfl, rfl, arr, harr, hr ρ'⟩
theorem a5j {U : Us} {P : Program} {orv : OraV} {f : Nat} {es : List Ent} {clock : Nat} (ho : ah6 U P orv) (h : azy (orv (.f f) [] He) = some (es, clock)) {σ : Sg} (hU : σ.toUs = U) {ρ : PM} {H : HP} {w : World} (hj : J ρ H w) :
  bvq es = true ∧ adh P (fun u w' => ∃ B, u = .map (some B) ∧ w.heap.size ≤ B ∧ Keep w w' ∧ ∃ arr, w'.heap[B]? = some (.map arr clock) ∧ ∀ (σ2 : Sg) (ρ2 : PM), All2 (@aeb σ2 ρ2) es arr.toList) ((callFunc f #[]).run P w) := by
 unfold azy at h
 split at h
 rotate_left
 ·cases h
 rename_i b H1 hrun
 split at h
 rotate_left
 ·cases h
 rename_i es' c' hmap
 split at h
 rotate_left
 ·cases h
 rename_i hlit
 cases h
 obtain ⟨_, h2⟩ := ho _ _ _ _ _ hrun (fun z hz => by cases hz)
 have hH0 : @HRel σ (fun _ => none) He w := ⟨fun b i c L hc => (HP.cell_nil hc).elim, fun b b' L L' ⟨i, c, hc⟩ => (HP.cell_nil hc).elim, fun x hx => by cases hx⟩
 have hrun2 := h2 σ hU (fun _ => none) w #[] _ rfl trivial hH0 (fun _ _ => rfl) ⟨fun x hx => ⟨hj.tw x hx, fun b L' _ hh => by cases hh⟩, fun g L M hh => by cases hh⟩
 refine ⟨hlit, adh.mono (fun u w' hp => ?_) hrun2⟩
 obtain ⟨o, hmem, σ', hext, ρ', hv, hsim, hrel⟩ := hp
 rw [List.mem_singleton.1 hmem] at hv hsim hrel
 obtain ⟨L, hL, rfl⟩ := hv
 obtain ⟨_, arr, harr, hents⟩ := @agd σ' _ _ _ _ _ _ _ hrel hL hmap
 have hB : w.heap.size ≤ L.B := by
  rcases hsim.new b L rfl hL with h | ⟨b0, L0, ⟨i, c, hc⟩, _⟩
  ·exact h
  ·exact (HP.cell_nil hc).elim
 have hkeep : Keep w w' := ⟨fun k hk => hsim.fr k hk fun b L ⟨i, c, hc⟩ => (HP.cell_nil hc).elim, hsim.size, hsim.os, hsim.tape, hsim.output⟩
 exact ⟨_, rfl, hB, hkeep, arr, harr, fun σ2 ρ2 => bil hlit hents⟩
theorem b5d {U : Us} {P : Program} {orv : OraV} {f : Nat} {es : List Ent} {clock : Nat} (ho : ah6 U P orv) (h : azy (orv (.f f) [] He) = some (es, clock)) : air U P (mapO f es clock) := by
 intro σ hU t args H outs hc
 unfold mapO at hc
 split at hc
 rotate_left
 ·cases hc
 rename_i g
 split at hc
 rotate_left
 ·cases hc
 rename_i hg
 have hg := Nat.eq_of_beq_eq_true hg
 subst hg
 cases hc
 refine ⟨fun o ho' => ?_, fun ρ w us s hs hus hH hd hj => ?_⟩
 ·rw [List.mem_singleton.1 ho']
  exact @St.sc σ _ _ (@St.push σ _ _)
 ·have hs : s = callFunc g us := hs
  subst hs
  have hus0 : us = #[] := by
   match hl : us.toList, hus with
   | [], _ => rw [← Array.toList_inj, hl]
  subst hus0
  refine adh.mono (fun u w' hp => ?_) (a5j ho h hU hj).2
  obtain ⟨B, rfl, hB, hkeep, arr, harr, hents⟩ := hp
  exact ⟨_, List.mem_singleton.2 rfl, _, ⟨⟨B, 0, 0, none⟩, upd_same _ _ _, rfl⟩, @Sim.newMap σ _ _ _ _ _ _ _ _ hH hd hkeep hB harr fun ρ2 => hents σ ρ2⟩
end Go.Sx

namespace Go.Sx
noncomputable section
def fitL : Srt → Cel → Bool
 | .int k, .lit (.int k' n) => (decide (k = k')) && ab9 (.int k n)
 | .bool, .lit (.bool _) => true
 | .str, .lit (.string s) => decide (s.size ≤ maxN)
 | _, _ => false
def bhg : List Srt → List Cel → Bool
 | [], [] => true
 | s :: ss, c :: cs => fitL s c && bhg ss cs
 | _, _ => false
def litD : Cel → CD
 | .lit v => .v v
 | _ => default
def buj (e : Ent) : List CD := e.1.2.map litD ++ (e.2.1.2.map litD ++ [.v (.int .i64 e.2.2)])
def okEs (ks : Srt) (va : Bool) (vw : List Srt) (clock : Nat) : Nat → List Ent → Bool
 | _, [] => true
 | n, e :: r => (!e.1.1) && (bhg [ks] e.1.2 && ((e.2.1.1 == va) && (bhg vw e.2.1.2 && (Nat.ble n e.2.2 && (Nat.ble (Nat.succ e.2.2) clock && okEs ks va vw clock (Nat.succ e.2.2) r)))))
def b0m (f : Nat) (ks : Srt) (va : Bool) (vw : List Srt) (x : X) (clock : Nat) : OraM := fun t args H =>
 match t, args with
 | .f g, [] => match Nat.beq g f with
  | true => some [(.one (.mp H.n), H.push (.lf [some (.mx [ks] va vw x (.lit (.int .i64 (Int.ofNat clock))))]))]
  | false => none
 | _, _ => none
end
section
variable [Sg] {ρ : PM}
theorem b4y {m : Mem} {s : Srt} {c : Cel} {u : Value} (h : fitL s c = true) (hc : CRel ρ c u) : RS m s (litD c) u := by
 unfold fitL at h
 split at h
 ·rename_i k k' n
  rw [Bool.and_eq_true, decide_eq_true_eq] at h
  obtain ⟨rfl, h2⟩ := h
  obtain ⟨rfl, _⟩ := (show u = .int k n ∧ _ from hc)
  exact ⟨n, rfl, rfl, h2⟩
 ·rename_i b
  obtain ⟨rfl, _⟩ := (show u = .bool b ∧ _ from hc)
  exact ⟨b, rfl, rfl⟩
 ·rename_i s
  rw [decide_eq_true_eq] at h
  obtain ⟨rfl, _⟩ := (show u = .string s ∧ _ from hc)
  exact ⟨s, rfl, rfl, h⟩
 ·cases h
theorem a90 {m : Mem} : ∀ {ss : List Srt} {cs : List Cel} {us : List Value}, bhg ss cs = true → All2 (CRel ρ) cs us → us.length = ss.length ∧ RSs m ss (cs.map litD) fun j => us[j]?
 | [], [], [], _, _ => ⟨rfl, rfl⟩
 | s :: ss, c :: cs, u :: us, h, ⟨h1, h2⟩ => by
  have h : (fitL s c && bhg ss cs) = true := h
  rw [Bool.and_eq_true] at h
  obtain ⟨g1, g2⟩ := a90 (m := m) h.2 h2
  exact ⟨by simp [g1], litD c, cs.map litD, u, rfl, rfl, b4y h.1 h1, g2⟩
 | [], [], _ :: _, _, h => h.elim
 | [], _ :: _, _, h, _ => by cases h
 | _ :: _, [], _, h, _ => by cases h
 | _ :: _, _ :: _, [], _, h => h.elim
theorem bww {ss : List Srt} {p : Bool × List Cel} {u : Value} (h : bhg ss p.2 = true) (hp : PRel ρ p u) : PlR p.1 ss (p.2.map litD) u := by
 obtain ⟨a, cs⟩ := p
 cases a with
 | true =>
  obtain ⟨us, rfl, h2⟩ := hp
  obtain ⟨g1, g2⟩ := a90 (m := fun _ _ => False) h h2
  exact ⟨us.toList, by simp, g1, fun hh => (by cases hh), g2⟩
 | false =>
  match cs, hp with
  | [c], hp =>
   obtain ⟨g1, g2⟩ := a90 (us := [u]) (m := fun _ _ => False) h (⟨hp, trivial⟩ : All2 (CRel ρ) [c] [u])
   exact ⟨[u], rfl, g1, fun _ => by rw [← g1]; rfl, g2⟩
theorem bwo {ks : Srt} {va : Bool} {vw : List Srt} {clock : Nat} : ∀ {n : Nat} {es : List Ent} {ms : List MapEntry}, okEs ks va vw clock n es = true → All2 (aeb ρ) es ms →
  All2 (fun (row : List CD) (m : MapEntry) => ∃ kr vr, row = kr ++ (vr ++ [.v (.int .i64 m.born)]) ∧ m.born < clock ∧ PlR false [ks] kr m.key ∧ PlR va vw vr m.val) (es.map buj) ms ∧ (∀ m ∈ ms, n ≤ m.born) ∧ ms.Pairwise fun a b => a.born < b.born
 | n, [], [], _, _ => ⟨trivial, fun m hm => (by cases hm), List.Pairwise.nil⟩
 | n, e :: r, m :: ms, h, ⟨⟨h1, h2, h3⟩, h4⟩ => by
  have h : ((!e.1.1) && (bhg [ks] e.1.2 && ((e.2.1.1 == va) && (bhg vw e.2.1.2 && (Nat.ble n e.2.2 && (Nat.ble (Nat.succ e.2.2) clock && okEs ks va vw clock (Nat.succ e.2.2) r)))))) = true := h
  simp only [Bool.and_eq_true] at h
  obtain ⟨a1, a2, a3, a4, a5, a6, a7⟩ := h
  obtain ⟨b1, b2, b3⟩ := bwo a7 h4
  have a1 : e.1.1 = false := by simpa using a1
  have a3 : e.2.1.1 = va := by simpa using a3
  have a5 := Nat.le_of_ble_eq_true a5
  have a6 := Nat.le_of_ble_eq_true a6
  have c1 := bww a2 h1
  rw [a1] at c1
  have c2 := bww a4 h2
  rw [a3] at c2
  refine ⟨⟨⟨_, _, by rw [h3]; rfl, by rw [h3]; exact a6, c1, c2⟩, b1⟩, fun m' hm => ?_, List.pairwise_cons.2 ⟨fun m' hm => ?_, b3⟩⟩
  ·rcases List.mem_cons.1 hm with rfl | hm
   ·rw [h3]; exact a5
   ·have := b2 m' hm; omega
  ·have := b2 m' hm
   rw [h3]; omega
 | _, [], _ :: _, _, h => h.elim
 | _, _ :: _, [], _, h => h.elim
end
theorem b0n {U : Us} {P : Program} {orv : OraV} {f : Nat} {es : List Ent} {clock : Nat} {ks : Srt} {va : Bool} {vw : List Srt} {x : X} (ho : ah6 U P orv) (h : azy (orv (.f f) [] He) = some (es, clock)) (hok : okEs ks va vw clock 0 es = true) (hx : ∀ σ : Sg, σ.toUs = U → (@den σ x).rows = es.map buj) : air U P (b0m f ks va vw x clock) := by
 intro σ hU t args H outs hc
 unfold b0m at hc
 split at hc
 rotate_left
 ·cases hc
 rename_i g
 split at hc
 rotate_left
 ·cases hc
 rename_i hg
 have hg := Nat.eq_of_beq_eq_true hg
 subst hg
 cases hc
 refine ⟨fun o ho' => ?_, fun ρ w us s hs hus hH hd hj => ?_⟩
 ·rw [List.mem_singleton.1 ho']
  exact @St.sc σ _ _ (@St.push σ _ _)
 ·have hs : s = callFunc g us := hs
  subst hs
  have hus0 : us = #[] := by
   match hl : us.toList, hus with
   | [], _ => rw [← Array.toList_inj, hl]
  subst hus0
  refine adh.mono (fun u w' hp => ?_) (a5j ho h hU hj).2
  obtain ⟨B, rfl, hB, hkeep, arr, harr, hents⟩ := hp
  refine ⟨_, List.mem_singleton.2 rfl, _, ⟨⟨B, 0, 0, none⟩, upd_same _ _ _, rfl⟩, @Sim.newCt σ _ _ _ _ _ _ hH hd hkeep hB fun ρ2 => ?_⟩
  have hm := @bwo σ ρ2 _ _ _ _ _ _ _ hok (hents σ ρ2)
  refine ⟨rfl, rfl, arr, clock, harr, rfl, ?_, hm.2.2⟩
  rw [hx σ hU]
  exact hm.1
end Go.Sx

set_option linter.all false
namespace Go.Proofs.YtamhchkknlbanaaDoor.Be
open Go.Sx Go.Proofs
noncomputable def inlF : List (FuncId × Inl) := [(18, ⟨Tryd.f18, noH⟩)]
set_option maxRecDepth 100000 in
theorem b8s : ap7 U Tryd.prog inlF := .cons (.of at18 (by kernel_rfl)) .nil
noncomputable def tbF : Tb := ⟨asa inlF, noY, U.lc⟩
noncomputable def oraF : OraM := anq T0
def es18 : List Ent := [((false, [.lit (.string ⟨⟨[116, 105, 99, 107]⟩⟩)]), ((true, [.lit (.int .i64 1), .lit (.bool false), .lit (.string ⟨⟨[110]⟩⟩), .lit (.int .u8 0)]), 0)),
 ((false, [.lit (.string ⟨⟨[116, 97, 107, 101]⟩⟩)]), ((true, [.lit (.int .i64 2), .lit (.bool false), .lit (.string ⟨⟨[110]⟩⟩), .lit (.int .u8 0)]), 1)),
 ((false, [.lit (.string ⟨⟨[102, 108, 111, 119]⟩⟩)]), ((true, [.lit (.int .i64 14), .lit (.bool false), .lit (.string ⟨⟨[110]⟩⟩), .lit (.int .u8 0)]), 2)),
 ((false, [.lit (.string ⟨⟨[97, 116]⟩⟩)]), ((true, [.lit (.int .i64 3), .lit (.bool false), .lit (.string ⟨⟨[110]⟩⟩), .lit (.int .u8 0)]), 3)),
 ((false, [.lit (.string ⟨⟨[100, 114, 111, 112]⟩⟩)]), ((true, [.lit (.int .i64 4), .lit (.bool false), .lit (.string ⟨⟨[110]⟩⟩), .lit (.int .u8 0)]), 4)),
 ((false, [.lit (.string ⟨⟨[100, 111, 117, 98, 108, 101]⟩⟩)]), ((true, [.lit (.int .i64 5), .lit (.bool false), .lit (.string ⟨⟨[110]⟩⟩), .lit (.int .u8 0)]), 5)),
 ((false, [.lit (.string ⟨⟨[109, 111, 118, 101]⟩⟩)]), ((true, [.lit (.int .i64 6), .lit (.bool false), .lit (.string ⟨⟨[110, 97]⟩⟩), .lit (.int .u8 0)]), 6)),
 ((false, [.lit (.string ⟨⟨[99, 117, 116]⟩⟩)]), ((true, [.lit (.int .i64 7), .lit (.bool true), .lit (.string ⟨⟨[119, 97]⟩⟩), .lit (.int .u8 0)]), 7)),
 ((false, [.lit (.string ⟨⟨[106, 111, 105, 110]⟩⟩)]), ((true, [.lit (.int .i64 7), .lit (.bool false), .lit (.string ⟨⟨[119, 97]⟩⟩), .lit (.int .u8 0)]), 8)),
 ((false, [.lit (.string ⟨⟨[97, 115, 107]⟩⟩)]), ((true, [.lit (.int .i64 8), .lit (.bool false), .lit (.string ⟨⟨[119, 111]⟩⟩), .lit (.int .u8 98)]), 9)),
 ((false, [.lit (.string ⟨⟨[97, 103, 97, 105, 110]⟩⟩)]), ((true, [.lit (.int .i64 9), .lit (.bool false), .lit (.string ⟨⟨[119]⟩⟩), .lit (.int .u8 0)]), 10)),
 ((false, [.lit (.string ⟨⟨[114, 101, 111, 112, 101, 110]⟩⟩)]), ((true, [.lit (.int .i64 11), .lit (.bool false), .lit (.string ⟨⟨[119]⟩⟩), .lit (.int .u8 0)]), 11)),
 ((false, [.lit (.string ⟨⟨[99, 114, 97, 115, 104]⟩⟩)]), ((true, [.lit (.int .i64 10), .lit (.bool false), .lit (.string ⟨⟨[119, 110]⟩⟩), .lit (.int .u8 107)]), 12)),
 ((false, [.lit (.string ⟨⟨[102, 117, 115, 101]⟩⟩)]), ((true, [.lit (.int .i64 12), .lit (.bool false), .lit (.string ⟨⟨[119, 110]⟩⟩), .lit (.int .u8 0)]), 13)),
 ((false, [.lit (.string ⟨⟨[116, 117, 114, 110]⟩⟩)]), ((true, [.lit (.int .i64 13), .lit (.bool false), .lit (.string ⟨⟨[119, 110, 97, 109]⟩⟩), .lit (.int .u8 0)]), 14))]
theorem b3p : azy (orvK Tryd.prog oraF 10 10 tbF 2 (.f 18) [] He) = some (es18, 15) := by kernel_rfl
theorem bzz : frmR = es18.map buj := by rfl
set_option maxRecDepth 100000 in
theorem bu2 : air U Tryd.prog (b0m 18 .str true [sI, .bool, .str, .int .u8] (.ap (.usr 263) []) 15) := b0n (arf mixed (al9 hT0) (TbOK.of b8s) 2) b3p (by kernel_rfl) fun σ hU => by
 show (@Us.u σ.toUs 263 []).rows = _
 rw [hU, bnz]
 exact bzz
end Go.Proofs.YtamhchkknlbanaaDoor.Be
