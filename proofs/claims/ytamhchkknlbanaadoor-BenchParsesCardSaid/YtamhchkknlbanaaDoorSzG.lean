/-
  A symbolic executor: a function without arguments that makes a map whose entries are known: told once, for any heap. Conditions: none; nothing here speaks of one program.
-/
import Derived.Test.YtamhchkknlbanaaDoorBeL
import Derived.Test.YtamhchkknlbanaaDoorBeF
import Derived.Test.YtamhchkknlbanaaDoorSzE
set_option linter.unusedSectionVars false
set_option linter.unusedVariables false
set_option linter.unusedSimpArgs false
namespace Go.Proofs.YtamhchkknlbanaaDoor.Be
open Go.Sx Go.Proofs
abbrev wsC (d : CD) : CD := CD.sl false (aas (line d))
theorem bjh {d : CD} : (aas (line d)).length = (wds d).length := by
 show ((wds d).map aiv).length = _
 rw [List.length_map]
theorem bdn {d : CD} (hT : Typ (.sl [.str]) (wsC d)) (k : Nat) : ((CD.sl false ((aas (line d)).drop k)).len : Int) = ((wds d).length - k : Nat) := by
 have h := hT.sl.2
 have h : (aas (line d)).length ≤ maxN := h
 show ((clip ((aas (line d)).drop k).length : Nat) : Int) = _
 rw [afo (by rw [List.length_drop]; omega), List.length_drop, bjh]
theorem avn {d : CD} (k : Nat) : by' ((CD.sl false ((aas (line d)).drop k)).cell 0 0) = gw (wds d) k := by
 have := ab8 (d := d) (k : Int)
 rw [Int.toNat_natCast] at this
 rw [← this]
 unfold CD.cell
 show by' ((((aas (line d)).drop k).getD (Int.toNat 0) []).getD 0 default) = by' (((aas (line d)).getD (k : Int).toNat []).getD 0 default)
 rw [Int.toNat_natCast]
 have e : ((aas (line d)).drop k).getD (Int.toNat 0) [] = (aas (line d)).getD k [] := by
  show ((aas (line d)).drop k).getD 0 [] = _
  rw [List.getD_eq_getElem?_getD, List.getD_eq_getElem?_getD, List.getElem?_drop, Nat.add_zero]
 rw [e]
theorem tk_0 {d : CD} (hT : Typ (.sl [.str]) (wsC d)) : (aas (line d)).take 9223372036854775807 = aas (line d) := by
 have h : (aas (line d)).length ≤ maxN := hT.sl.2
 exact List.take_of_length_le h
theorem tk_k {d : CD} (hT : Typ (.sl [.str]) (wsC d)) (k : Nat) : ((aas (line d)).drop k).take 9223372036854775807 = (aas (line d)).drop k := by
 have h : (aas (line d)).length ≤ maxN := hT.sl.2
 refine List.take_of_length_le ?_
 rw [List.length_drop]
 exact Nat.le_trans (Nat.sub_le _ _) h
theorem a98 {d : CD} (hT : Typ .str d) (h : ¬ 2200 < (d.slen : Int)) (k : Nat) : (((CD.sl false ((aas (line d)).drop k)).cell 0 0).slen : Int) ≤ 2500 := by
 have h1 := a2p ((CD.sl false ((aas (line d)).drop k)).cell 0 0)
 rw [avn] at h1
 have h2 := bca d k
 rw [abf hT] at h
 omega
theorem ws_1 {d : CD} (hk : okW (line d) = true) (hT : Typ (.sl [.str]) (wsC d)) : 1 ≤ ((wsC d).len : Int) := by
 have := aup hT
 have := bcr hk
 show 1 ≤ ((CD.sl false (aas (line d))).len : Int)
 omega
theorem kA {W : List (List UInt8)} {k m r : Int} {is : Bool} (h : (W.length : Int) < m + 1) : aau W k m r is = aeu 2 := by
 unfold aau
 rw [if_neg (by omega), if_neg (by omega)]
theorem aw2 {W : List (List UInt8)} : ∀ {n j : Nat}, 1 ≤ j → j ≤ n → ¬ nOk (gw W j) = true → nOks W n = false
 | 0, j, h1, h2, _ => by omega
 | n + 1, j, h1, h2, h => by
  unfold nOks
  rw [Bool.and_eq_false_iff]
  by_cases hj : j = n + 1
  ·subst hj
   exact .inr (by simpa using h)
  ·exact .inl (aw2 h1 (by omega) h)
theorem kB {W : List (List UInt8)} {k m r : Int} {is : Bool} (j : Nat) (h1 : 1 ≤ j) (h2 : j ≤ m.toNat) (h : ¬ nOk (gw W j) = true) : aau W k m r is = aeu 2 := by
 have e := aw2 h1 h2 h
 unfold aau
 rw [e]
 simp
theorem kC {W : List (List UInt8)} {k m r : Int} {is : Bool} (h : m + 2 < (W.length : Int)) : aau W k m r is = aeu 2 := by
 unfold aau
 rw [if_neg (by omega), if_neg (by omega)]
theorem kC0 {W : List (List UInt8)} {k m : Int} {is : Bool} (h : ¬ (W.length : Int) = m + 1) : aau W k m 0 is = aeu 2 := by
 unfold aau
 rw [if_neg h, if_neg (by omega)]
theorem kM {W : List (List UInt8)} {m : Int} {is : Bool} (h : 255 < nV W 4) : aau W 13 m 0 is = aeu 2 := by
 unfold aau
 simp [h]
theorem kD {W : List (List UInt8)} {k m r : Int} {is : Bool} (h : (W.length : Int) = m + 1) (hn : nOks W m.toNat = true) (hm : ¬ (k = 13 ∧ 255 < nV W 4)) : aau W k m r is = ajw k (nV W) is (.sl true []) (.sl true []) := by
 unfold aau
 rw [if_pos h, if_pos ⟨hn, hm⟩]
theorem kE1 {W : List (List UInt8)} {k m : Int} {is : Bool} (h : (W.length : Int) = m + 2) (hn : nOks W m.toNat = true) : aau W k m 1 is = if ar9 (gw W (m.toNat + 1)) = true then ajw k (nV W) is (mkz (hexV (gw W (m.toNat + 1)))) (.sl true []) else aeu 2 := by
 unfold aau
 rw [if_neg (by omega), if_pos ⟨by decide, h⟩, if_pos hn, if_pos rfl]
theorem kE2 {W : List (List UInt8)} {k m : Int} {is : Bool} (h : (W.length : Int) = m + 2) (hn : nOks W m.toNat = true) : aau W k m 2 is = if avw (gw W (m.toNat + 1)) = true then ajw k (nV W) is (.sl true []) (mkz (amo (gw W (m.toNat + 1)))) else aeu 2 := by
 unfold aau
 rw [if_neg (by omega), if_pos ⟨by decide, h⟩, if_pos hn, if_neg (by decide)]
theorem w_pos {d : CD} (hk : okW (line d) = true) {k : Nat} (h : k < (wds d).length) : 0 < (gw (wds d) k).length := by
 unfold okW at hk
 rw [Bool.and_eq_true] at hk
 have := List.all_eq_true.1 hk.2 _ (a5s (W := wds d) h)
 cases hg : gw (wds d) k with
 | nil => rw [hg] at this; cases this
 | cons a r => simp
theorem bh6 {d : CD} (hk : okW (line d) = true) {k : Nat} (h : k < (wds d).length) : (hexB (gw (wds d) k) && decide ((gw (wds d) k).length % 2 = 0)) = ar9 (gw (wds d) k) := by
 unfold ar9
 rw [decide_eq_true (w_pos hk h), Bool.true_and]
theorem biu {d : CD} (hk : okW (line d) = true) {k : Nat} (h : k < (wds d).length) : ab0 (gw (wds d) k) = avw (gw (wds d) k) := by
 unfold avw
 rw [decide_eq_true (w_pos hk h), Bool.and_true]
theorem ba6 {l : List UInt8} (h : ar9 l = true) : (if hexB l = true then CD.sl false (hexR l) else CD.sl true []) = mkz (hexV l) := by
 unfold ar9 at h
 simp only [Bool.and_eq_true, decide_eq_true_eq] at h
 unfold hexV
 rw [if_pos h.1, if_pos h.1]
 unfold mkz
 have : (hexR l).isEmpty = false := by
  match l, h with
  | [], h => exact absurd h.2.1 (by simp)
  | [_], h => exact absurd h.2.2 (by simp)
  | _ :: _ :: _, _ => rfl
 rw [this]
theorem bds {d : CD} (hw : eqC ((wsC d).cell 0 0) (.v (.string ⟨⟨[116, 105, 99, 107]⟩⟩)) = true) (h : ¬ 2200 < (d.slen : Int)) (hT : Typ .str d) (hk : okW (line d) = true) : aaj d = aau (wds d) 1 1 0 false := ab4 h hT hk (by have := adt hw; rwa [ab8] at this) (by decide : acr [116, 105, 99, 107] = some ([116, 105, 99, 107], 1, 1, 0))
theorem bea {d : CD} (hw : eqC ((wsC d).cell 0 0) (.v (.string ⟨⟨[116, 97, 107, 101]⟩⟩)) = true) (h : ¬ 2200 < (d.slen : Int)) (hT : Typ .str d) (hk : okW (line d) = true) : aaj d = aau (wds d) 2 1 0 false := ab4 h hT hk (by have := adt hw; rwa [ab8] at this) (by decide : acr [116, 97, 107, 101] = some ([116, 97, 107, 101], 2, 1, 0))
theorem bgw {d : CD} (hw : eqC ((wsC d).cell 0 0) (.v (.string ⟨⟨[102, 108, 111, 119]⟩⟩)) = true) (h : ¬ 2200 < (d.slen : Int)) (hT : Typ .str d) (hk : okW (line d) = true) : aaj d = aau (wds d) 14 1 0 false := ab4 h hT hk (by have := adt hw; rwa [ab8] at this) (by decide : acr [102, 108, 111, 119] = some ([102, 108, 111, 119], 14, 1, 0))
theorem blb {d : CD} (hw : eqC ((wsC d).cell 0 0) (.v (.string ⟨⟨[97, 116]⟩⟩)) = true) (h : ¬ 2200 < (d.slen : Int)) (hT : Typ .str d) (hk : okW (line d) = true) : aaj d = aau (wds d) 3 1 0 false := ab4 h hT hk (by have := adt hw; rwa [ab8] at this) (by decide : acr [97, 116] = some ([97, 116], 3, 1, 0))
theorem bdu {d : CD} (hw : eqC ((wsC d).cell 0 0) (.v (.string ⟨⟨[100, 114, 111, 112]⟩⟩)) = true) (h : ¬ 2200 < (d.slen : Int)) (hT : Typ .str d) (hk : okW (line d) = true) : aaj d = aau (wds d) 4 1 0 false := ab4 h hT hk (by have := adt hw; rwa [ab8] at this) (by decide : acr [100, 114, 111, 112] = some ([100, 114, 111, 112], 4, 1, 0))
theorem a5g {d : CD} (hw : eqC ((wsC d).cell 0 0) (.v (.string ⟨⟨[100, 111, 117, 98, 108, 101]⟩⟩)) = true) (h : ¬ 2200 < (d.slen : Int)) (hT : Typ .str d) (hk : okW (line d) = true) : aaj d = aau (wds d) 5 1 0 false := ab4 h hT hk (by have := adt hw; rwa [ab8] at this) (by decide : acr [100, 111, 117, 98, 108, 101] = some ([100, 111, 117, 98, 108, 101], 5, 1, 0))
theorem bfz {d : CD} (hw : eqC ((wsC d).cell 0 0) (.v (.string ⟨⟨[109, 111, 118, 101]⟩⟩)) = true) (h : ¬ 2200 < (d.slen : Int)) (hT : Typ .str d) (hk : okW (line d) = true) : aaj d = aau (wds d) 6 2 0 false := ab4 h hT hk (by have := adt hw; rwa [ab8] at this) (by decide : acr [109, 111, 118, 101] = some ([109, 111, 118, 101], 6, 2, 0))
theorem biy {d : CD} (hw : eqC ((wsC d).cell 0 0) (.v (.string ⟨⟨[99, 117, 116]⟩⟩)) = true) (h : ¬ 2200 < (d.slen : Int)) (hT : Typ .str d) (hk : okW (line d) = true) : aaj d = aau (wds d) 7 2 0 true := ab4 h hT hk (by have := adt hw; rwa [ab8] at this) (by decide : acr [99, 117, 116] = some ([99, 117, 116], 7, 2, 0))
theorem bfw {d : CD} (hw : eqC ((wsC d).cell 0 0) (.v (.string ⟨⟨[106, 111, 105, 110]⟩⟩)) = true) (h : ¬ 2200 < (d.slen : Int)) (hT : Typ .str d) (hk : okW (line d) = true) : aaj d = aau (wds d) 7 2 0 false := ab4 h hT hk (by have := adt hw; rwa [ab8] at this) (by decide : acr [106, 111, 105, 110] = some ([106, 111, 105, 110], 7, 2, 0))
theorem bjk {d : CD} (hw : eqC ((wsC d).cell 0 0) (.v (.string ⟨⟨[97, 115, 107]⟩⟩)) = true) (h : ¬ 2200 < (d.slen : Int)) (hT : Typ .str d) (hk : okW (line d) = true) : aaj d = aau (wds d) 8 2 1 false := ab4 h hT hk (by have := adt hw; rwa [ab8] at this) (by decide : acr [97, 115, 107] = some ([97, 115, 107], 8, 2, 1))
theorem a7z {d : CD} (hw : eqC ((wsC d).cell 0 0) (.v (.string ⟨⟨[97, 103, 97, 105, 110]⟩⟩)) = true) (h : ¬ 2200 < (d.slen : Int)) (hT : Typ .str d) (hk : okW (line d) = true) : aaj d = aau (wds d) 9 1 0 false := ab4 h hT hk (by have := adt hw; rwa [ab8] at this) (by decide : acr [97, 103, 97, 105, 110] = some ([97, 103, 97, 105, 110], 9, 1, 0))
theorem a4d {d : CD} (hw : eqC ((wsC d).cell 0 0) (.v (.string ⟨⟨[114, 101, 111, 112, 101, 110]⟩⟩)) = true) (h : ¬ 2200 < (d.slen : Int)) (hT : Typ .str d) (hk : okW (line d) = true) : aaj d = aau (wds d) 11 1 0 false := ab4 h hT hk (by have := adt hw; rwa [ab8] at this) (by decide : acr [114, 101, 111, 112, 101, 110] = some ([114, 101, 111, 112, 101, 110], 11, 1, 0))
theorem a8s {d : CD} (hw : eqC ((wsC d).cell 0 0) (.v (.string ⟨⟨[99, 114, 97, 115, 104]⟩⟩)) = true) (h : ¬ 2200 < (d.slen : Int)) (hT : Typ .str d) (hk : okW (line d) = true) : aaj d = aau (wds d) 10 2 2 false := ab4 h hT hk (by have := adt hw; rwa [ab8] at this) (by decide : acr [99, 114, 97, 115, 104] = some ([99, 114, 97, 115, 104], 10, 2, 2))
theorem bfb {d : CD} (hw : eqC ((wsC d).cell 0 0) (.v (.string ⟨⟨[102, 117, 115, 101]⟩⟩)) = true) (h : ¬ 2200 < (d.slen : Int)) (hT : Typ .str d) (hk : okW (line d) = true) : aaj d = aau (wds d) 12 2 0 false := ab4 h hT hk (by have := adt hw; rwa [ab8] at this) (by decide : acr [102, 117, 115, 101] = some ([102, 117, 115, 101], 12, 2, 0))
theorem bd0 {d : CD} (hw : eqC ((wsC d).cell 0 0) (.v (.string ⟨⟨[116, 117, 114, 110]⟩⟩)) = true) (h : ¬ 2200 < (d.slen : Int)) (hT : Typ .str d) (hk : okW (line d) = true) : aaj d = aau (wds d) 13 4 0 false := ab4 h hT hk (by have := adt hw; rwa [ab8] at this) (by decide : acr [116, 117, 114, 110] = some ([116, 117, 114, 110], 13, 4, 0))
theorem be1 {d : CD} (n0 : ¬ eqC ((wsC d).cell 0 0) (.v (.string ⟨⟨[116, 105, 99, 107]⟩⟩)) = true) (n1 : ¬ eqC ((wsC d).cell 0 0) (.v (.string ⟨⟨[116, 97, 107, 101]⟩⟩)) = true) (n2 : ¬ eqC ((wsC d).cell 0 0) (.v (.string ⟨⟨[102, 108, 111, 119]⟩⟩)) = true) (n3 : ¬ eqC ((wsC d).cell 0 0) (.v (.string ⟨⟨[97, 116]⟩⟩)) = true) (n4 : ¬ eqC ((wsC d).cell 0 0) (.v (.string ⟨⟨[100, 114, 111, 112]⟩⟩)) = true) (n5 : ¬ eqC ((wsC d).cell 0 0) (.v (.string ⟨⟨[100, 111, 117, 98, 108, 101]⟩⟩)) = true) (n6 : ¬ eqC ((wsC d).cell 0 0) (.v (.string ⟨⟨[109, 111, 118, 101]⟩⟩)) = true) (n7 : ¬ eqC ((wsC d).cell 0 0) (.v (.string ⟨⟨[99, 117, 116]⟩⟩)) = true) (n8 : ¬ eqC ((wsC d).cell 0 0) (.v (.string ⟨⟨[106, 111, 105, 110]⟩⟩)) = true) (n9 : ¬ eqC ((wsC d).cell 0 0) (.v (.string ⟨⟨[97, 115, 107]⟩⟩)) = true) (n10 : ¬ eqC ((wsC d).cell 0 0) (.v (.string ⟨⟨[97, 103, 97, 105, 110]⟩⟩)) = true) (n11 : ¬ eqC ((wsC d).cell 0 0) (.v (.string ⟨⟨[114, 101, 111, 112, 101, 110]⟩⟩)) = true) (n12 : ¬ eqC ((wsC d).cell 0 0) (.v (.string ⟨⟨[99, 114, 97, 115, 104]⟩⟩)) = true) (n13 : ¬ eqC ((wsC d).cell 0 0) (.v (.string ⟨⟨[102, 117, 115, 101]⟩⟩)) = true) (n14 : ¬ eqC ((wsC d).cell 0 0) (.v (.string ⟨⟨[116, 117, 114, 110]⟩⟩)) = true) (h1 : 1 ≤ ((wsC d).len : Int)) (hTs : Typ (.sl [.str]) (wsC d)) (h : ¬ 2200 < (d.slen : Int)) (hT : Typ .str d) (hk : okW (line d) = true) : aaj d = aeu 6 := by
 refine bdc h hT hk ?_
 have hc : Typ .str ((wsC d).cell 0 0) := hTs.cell (Int.le_refl 0) (by omega) rfl
 rw [a3n hc, ab8] at n0 n1 n2 n3 n4 n5 n6 n7 n8 n9 n10 n11 n12 n13 n14
 have e : Int.toNat 0 = 0 := rfl
 rw [e] at n0 n1 n2 n3 n4 n5 n6 n7 n8 n9 n10 n11 n12 n13 n14
 unfold acr bf4
 have z : ∀ l : List UInt8, ¬ gw (wds d) 0 = l → (l == gw (wds d) 0) = false := fun l hl => by
  rw [beq_eq_false_iff_ne]
  exact fun h => hl h.symm
 simp only [List.find?, z _ n0, z _ n1, z _ n2, z _ n3, z _ n4, z _ n5, z _ n6, z _ n7, z _ n8, z _ n9, z _ n10, z _ n11, z _ n12, z _ n13, z _ n14]
end Go.Proofs.YtamhchkknlbanaaDoor.Be

namespace Go.Sx
noncomputable section
def He : HP := ⟨.nil, 0, 0, [], 0⟩
def a4s : List Cel → Bool
 | [] => true
 | .lit _ :: r => a4s r
 | _ :: _ => false
def a9m : List Ent → Bool
 | [] => true
 | e :: r => a4s e.1.2 && (a4s e.2.1.2 && a9m r)
def mapO (f : Nat) (es : List Ent) (clock : Nat) : OraM := fun t args H =>
 match t, args with
 | .f g, [] => match Nat.beq g f with
  | true => some [(.one (.mp H.n), H.push (.lf [some (.map es clock)]))]
  | false => none
 | _, _ => none
def orM2 (a b : OraM) : OraM := fun t args H => match a t args H with
 | some r => some r
 | none => b t args H
def avp (x : Option (List VC × List (AV × HP))) : Option (List Ent × Nat) :=
 match x with
 | some ([], [(.one (.mp b), H)]) => match ah2 H b with
  | some (es, c) => match a9m es with
   | true => some (es, c)
   | false => none
  | none => none
 | _ => none
end
theorem bgf {U : Us} {P : Program} {a b : OraM} (ha : afe U P a) (hb : afe U P b) : afe U P (orM2 a b) := by
 intro σ hU t args H outs h
 unfold orM2 at h
 split at h
 ·rename_i r hr
  cases h
  exact ha σ hU t args H outs hr
 ·exact hb σ hU t args H outs h
section
variable {ρ ρ' : PM}
theorem CRel.lit {σ σ' : Sg} {v : Value} {u : Value} (h : @CRel σ ρ (.lit v) u) : @CRel σ' ρ' (.lit v) u := h
theorem aso {σ σ' : Sg} : ∀ {cs : List Cel} {us : List Value}, a4s cs = true → All2 (@CRel σ ρ) cs us → All2 (@CRel σ' ρ') cs us
 | [], [], _, _ => trivial
 | c :: cs, u :: us, h, ⟨h1, h2⟩ => by
  cases c with
  | lit v => exact ⟨h1, aso (cs := cs) h h2⟩
  | _ => cases h
 | [], _ :: _, _, h => h.elim
 | _ :: _, [], _, h => h.elim
theorem azd {σ σ' : Sg} : ∀ {p : Bool × List Cel} {u : Value}, a4s p.2 = true → @PRel σ ρ p u → @PRel σ' ρ' p u
 | (true, xs), u, h, ⟨us, h1, h2⟩ => ⟨us, h1, aso h h2⟩
 | (false, [c]), u, h, hr => by
  cases c with
  | lit v => exact hr
  | _ => cases h
 | (false, []), _, _, hr => hr.elim
 | (false, _ :: _ :: _), _, _, hr => hr.elim
theorem as1 {σ σ' : Sg} : ∀ {es : List Ent} {ms : List MapEntry}, a9m es = true → All2 (@ab5 σ ρ) es ms → All2 (@ab5 σ' ρ') es ms
 | [], [], _, _ => trivial
 | e :: es, m :: ms, h, ⟨⟨h1, h2, h3⟩, h4⟩ => by
  simp only [a9m, Bool.and_eq_true] at h
  exact ⟨⟨azd h.1 h1, azd h.2.1 h2, h3⟩, as1 h.2.2 h4⟩
 | [], _ :: _, _, h => h.elim
 | _ :: _, [], _, h => h.elim
end
theorem Sim.newMap [Sg] {ρ : PM} {H : HP} {w w' : World} {es : List Ent} {clock B : Nat} {arr : Array MapEntry} (hH : HRel ρ H w) (hd : Dom ρ H.n) (hk : Keep w w') (hB : w.heap.size ≤ B) (harr : w'.heap[B]? = some (.map arr clock)) (hr : ∀ ρ' : PM, All2 (ab5 ρ') es arr.toList) :
  Sim ρ H w (upd ρ H.n ⟨B, 0, 0, none⟩) (H.push (.lf [some (.map es clock)])) w' := by
 have hfr := hd H.n (Nat.le_refl _)
 have hle : PM.le ρ (upd ρ H.n ⟨B, 0, 0, none⟩) := aer hfr
 have hnew : ∀ i c, (H.push (.lf [some (.map es clock)])).cell H.n i = some c → i = 0 ∧ c = .map es clock := by
  intro i c hc
  rw [HP.cell_push, if_pos rfl] at hc
  cases i with
  | zero => cases hc; exact ⟨rfl, rfl⟩
  | succ i => cases (show (none : Option Ct) = some c from hc)
 have hkn : ∀ b, b ≠ H.n → (H.push (.lf [some (.map es clock)])).Kn b → H.Kn b := by
  rintro b hb ⟨i, c, hc⟩
  rw [HP.cell_push, if_neg hb] at hc
  exact ⟨i, c, hc⟩
 have hlt : ∀ b L, H.Kn b → ρ b = some L → L.B < w.heap.size := fun b L ⟨i, c, hc⟩ hL => (hH.rel b i c L hc hL).lt
 refine Sim0.up ?_ hd fun b L h1 h2 => ?_
 rotate_left
 ·by_cases hb : b = H.n
  ·subst hb
   rw [upd_same] at h2
   cases h2
   rfl
  ·rw [upd_ne hb, h1] at h2; cases h2
 exact {
  le := hle
  grow := Nat.le_succ _
  dom := fun b hb => by
   have hb : H.n + 1 ≤ b := hb
   rw [upd_ne (by omega)]
   exact hd b (by omega)
  rel := by
   refine ⟨fun b i c L hc hL => ?_, fun b b' L L' g1 g2 hL hL' he => ?_, hH.hy⟩
   ·by_cases hb : b = H.n
    ·subst hb
     rw [upd_same] at hL
     cases hL
     obtain ⟨rfl, rfl⟩ := hnew i c hc
     exact ⟨rfl, rfl, arr, harr, hr _⟩
    ·rw [HP.cell_push, if_neg hb] at hc
     rw [upd_ne hb] at hL
     have := hH.rel b i c L hc hL
     exact (this.mono hle).of_heap (hk.old _ this.lt)
   ·by_cases hb : b = H.n
    ·by_cases hb' : b' = H.n
     ·rw [hb, hb']
     ·subst hb
      rw [upd_same] at hL
      rw [upd_ne hb'] at hL'
      cases hL
      have := hlt b' L' (hkn b' hb' g2) hL'
      have : B = L'.B := he
      omega
    ·by_cases hb' : b' = H.n
     ·subst hb'
      rw [upd_same] at hL'
      rw [upd_ne hb] at hL
      cases hL'
      have := hlt b L (hkn b hb g1) hL
      have : L.B = B := he
      omega
     ·rw [upd_ne hb] at hL
      rw [upd_ne hb'] at hL'
      exact hH.inj b b' L L' (hkn b hb g1) (hkn b' hb' g2) hL hL' he
  knc := fun b i hb hc => by
   rw [HP.cell_push, if_neg (by omega)]
   exact hc
  fr := fun k hk' _ => hk.old k hk'
  new := fun b L h1 h2 => by
   by_cases hb : b = H.n
   ·subst hb; rw [upd_same] at h2; cases h2; exact .inl hB
   ·rw [upd_ne hb, h1] at h2; cases h2
  size := hk.size
  os := hk.os
  tape := hk.tape
  output := hk.output
  old := fun b L h1 h2 => by
   by_cases hb : b = H.n
   ·exact Nat.le_of_eq hb.symm
   ·rw [upd_ne hb, h1] at h2; cases h2 }
theorem bej {U : Us} {P : Program} {orv : OraV} {f : Nat} {es : List Ent} {clock : Nat} (ho : aeh U P orv) (h : avp (orv (.f f) [] He) = some (es, clock)) : afe U P (mapO f es clock) := by
 unfold avp at h
 split at h
 rotate_left
 ·cases h
 rename_i b H1 hrun
 split at h
 rotate_left
 ·cases h
 rename_i es' c' hmap
 split at h
 rotate_left
 ·cases h
 rename_i hlit
 cases h
 intro σ hU t args H outs hc
 unfold mapO at hc
 split at hc
 rotate_left
 ·cases hc
 rename_i g
 split at hc
 rotate_left
 ·cases hc
 rename_i hg
 have hg := Nat.eq_of_beq_eq_true hg
 subst hg
 cases hc
 obtain ⟨_, h2⟩ := ho _ _ _ _ _ hrun (fun z hz => by cases hz)
 refine ⟨fun o ho' => ?_, fun ρ w us s hs hus hH hd hj => ?_⟩
 ·rw [List.mem_singleton.1 ho']
  exact @St.sc σ _ _ (@St.push σ _ _)
 ·have hs : s = callFunc g us := hs
  subst hs
  have hus0 : us = #[] := by
   match hl : us.toList, hus with
   | [], _ => rw [← Array.toList_inj, hl]
  subst hus0
  have hH0 : @HRel σ (fun _ => none) He w := ⟨fun b i c L hc => (HP.cell_nil hc).elim, fun b b' L L' ⟨i, c, hc⟩ => (HP.cell_nil hc).elim, fun x hx => by cases hx⟩
  have hrun2 := h2 σ hU (fun _ => none) w #[] _ rfl trivial hH0 (fun _ _ => rfl) ⟨fun x hx => ⟨hj.tw x hx, fun b L' _ hh => by cases hh⟩, fun g L M hh => by cases hh⟩
  refine abn.mono (fun u w' hp => ?_) hrun2
  obtain ⟨o, hmem, σ', hext, ρ', hv, hsim, hrel⟩ := hp
  rw [List.mem_singleton.1 hmem] at hv hsim hrel
  obtain ⟨L, hL, rfl⟩ := hv
  obtain ⟨_, arr, harr, hents⟩ := @ac2 σ' _ _ _ _ _ _ _ hrel hL hmap
  have hB : w.heap.size ≤ L.B := by
   rcases hsim.new b L rfl hL with h | ⟨b0, L0, ⟨i, c, hc⟩, _⟩
   ·exact h
   ·exact (HP.cell_nil hc).elim
  have hkeep : Keep w w' := ⟨fun k hk => hsim.fr k hk fun b L ⟨i, c, hc⟩ => (HP.cell_nil hc).elim, hsim.size, hsim.os, hsim.tape, hsim.output⟩
  exact ⟨_, List.mem_singleton.2 rfl, _, ⟨⟨L.B, 0, 0, none⟩, upd_same _ _ _, rfl⟩, @Sim.newMap σ _ _ _ _ _ _ _ _ hH hd hkeep hB harr fun ρ2 => as1 hlit hents⟩
end Go.Sx
