/-
  A second abstract evaluator of the model's code: the contract of the seal, length by length, from its run on a small heap to any heap. Conditions: none; nothing here speaks of one program.
  The seal of bytes (checksum's Sum), walked with bytes that are not known, length by length. Conditions: none.
  The number of trailing zero bits, by the library's own text: its contract for the evaluator. Conditions: none but that the table stands in its variable (J).
  A second abstract evaluator of the model's code: calls of a function that reads one window of numbers, reckoned on a small heap, state by state: what the kernel has reckoned of a state it finds again. Conditions: none; nothing here speaks of one program.
  A second abstract evaluator of the model's code: from a contract on an empty heap to what a row asks. Conditions: none; nothing here speaks of one program.
  Arguments that are handed on alone: what was read of them reads so behind the call. Conditions: none; nothing here speaks of one program.
  A second abstract evaluator of the model's code: sums and differences of 64 bits with carries. Conditions: none; nothing here speaks of one program.
  The base of a seat: contracts of the library, and the cells of a set of blocks. Conditions: none but that the table of TrailingZeros64 stands in its variable (J).
-/
import Derived.Test.YtdkoockhfmbcaaaGreatDoorQvM
import Derived.Test.YtdkoockhfmbcaaaGreatDoorGkBase
import Derived.Shelf.Spec.TrailingZeros
import Derived.Lib.LaidTab
import Derived.Lib.LaidU8
import Derived.WalkKit
import Derived.Test.YtdkoockhfmbcaaaGreatDoorFwS
import Derived.ChangeSame
import Derived.RowKit3
import Derived.ChangeReads
import Derived.ChangeOld
import Derived.ReadAgain
import Derived.Laws.Externs
set_option linter.unusedSectionVars false
set_option linter.unusedVariables false
namespace Go.Fv
/-- Of the one outcome of a call: the value, and the first block. -/
noncomputable def obsM (r : RM) : Option (AV × Option Bk) :=
  match r with
  | some [o] => some (o.1, o.2.t.get 0)
  | _ => none
theorem obsM_some {r : RM} {v : AV} {k : Option Bk} (h : obsM r = some (v, k)) : ∃ o, r = some [o] ∧ o.1 = v ∧ o.2.t.get 0 = k := by
  unfold obsM at h
  split at h
  · rename_i o
    simp only [Option.some.injEq, Prod.mk.injEq] at h
    exact ⟨o, rfl, h.1, h.2⟩
  · cases h
/-- What the walk of a seat's seal shows, at a length. -/
def SumWalk (P : Program) [Plain P] (run : List AV → HP → RM) (n : Nat) : Prop := ∀ (bs : Nat → Int) (c : Nat), obsM (run [.one (.sl 0 0 n (c + n))] (byH bs n)) = some (.agg (sumG G0 bs n), some (byB bs n))
theorem sumOn_ok {P : Program} [Plain P] {f : FuncId} {run : List AV → HP → RM} (hrun : FnOKM P f run) {ls : List Nat} (hw : ∀ n ∈ ls, 0 < n ∧ SumWalk P run n) : FnOKM P f (sumOn ls) := by
  intro args H outs hr
  unfold sumOn at hr
  split at hr
  · rename_i a
    split at hr
    · rename_i xs hxs
      split at hr
      · rename_i hany
        cases hr
        obtain ⟨n, hn, hb⟩ := List.any_eq_true.1 hany
        obtain rfl := Nat.eq_of_beq_eq_true hb
        obtain ⟨hpos, hsw⟩ := hw _ hn
        unfold bytesL at hxs
        split at hxs
        · cases hxs; exact absurd hpos (by decide)
        · cases hxs; exact absurd hpos (by decide)
        · split at hxs
          · rename_i b off len hb
            split at hxs
            · rename_i cs hcs
              have hlen : len = xs.length := by
                rw [← (HP.read_spec hcs).1, intsOf_eq hxs, List.length_map]
              subst hlen
              refine frame_call (b := b) (off := off) (Hs := byH (fun i => xs.getD i 0) xs.length) (show 0 < 1 by decide) (fun i c hc => ?_) (fun b' hb' i => byH_other _ _ _ _ hb') ?_ (fun ρ us w hu hH => ?_)
              · rw [byH_cell] at hc
                split at hc
                · rename_i hi
                  cases hc
                  refine ⟨⟨_, rfl⟩, (HP.read_spec hcs).2 i _ ?_⟩
                  rw [intsOf_eq hxs, List.getElem?_map, List.getElem?_eq_getElem hi]
                  simp only [Option.map_some]
                  rw [List.getD_eq_getElem?_getD, List.getElem?_eq_getElem hi]
                  rfl
                · cases hc
              · show (celsN (sumN (natsOf xs))).all isLit = true
                rw [celsN_eq, List.all_map]
                exact List.all_eq_true.2 fun _ _ => rfl
              · match us, hu with
                | [u0], ⟨r0, _⟩ =>
                  obtain ⟨L, c, hL, hcap, r0'⟩ := slice_win hb r0
                  obtain ⟨o, ho, h1, h2⟩ := obsM_some (hsw (fun i => xs.getD i 0) c)
                  refine ⟨L, [.one (.sl 0 0 xs.length (c + xs.length))], _, hL, ⟨r0', trivial⟩, fun z hz => ?_, hrun _ _ _ ho⟩
                  rw [List.mem_singleton.1 hz]
                  obtain ⟨us', hl', hrel', _⟩ := HP.read_world hcs hH hL
                  refine ⟨?_, fun i => ?_⟩
                  · rw [h1, sumG_nat fun x hx => intsOf_range hxs hrel' x hx]
                  · exact HP.cell_of_get (by rw [h2]; show _ = ((PT.nil : PT Bk).put 0 (some (byB _ _))).get 0; rw [PT.get_put, if_pos rfl]) i
            · cases hxs
          · cases hxs
      · cases hr
    · cases hr
  · cases hr
end Go.Fv

set_option linter.unusedVariables false
namespace Go.Proofs.YtdkoockhfmbcaaaGreatDoor
open Go.Fv Go.Proofs
noncomputable section
def runSum (G : List Int → List Int → Nat → Int) : List AV → HP → RM := oraN Tryz.prog (treeT tbl) (baseM [(392, blkO G)]) 1000 20 (.f 382)
theorem sum1008 (G : List Int → List Int → Nat → Int) (bs : Nat → Int) (c : Nat) : obsM (runSum G [.one (.sl 0 0 1008 (c + 1008))] (byH bs 1008)) = some (.agg (sumG G bs 1008), some (byB bs 1008)) := by kernel_rfl
theorem blk_ok : FnOKM Tryz.prog 392 (blkO G0) := blkO_ok fun bs h k m cap => ⟨outB bs h k, blk_call bs h k m cap, outB_cell bs h k⟩
theorem sum_ok : FnOKM Tryz.prog 382 (sumOn [1008]) := sumOn_ok (run := runSum G0) (oraN_fn mixed tbl_ok (baseM_ok fun p hp => by
    rw [List.mem_singleton.1 hp]; exact blk_ok) 1000 20 382) fun n hn => by
  obtain rfl := List.mem_singleton.1 hn
  exact ⟨by decide, fun bs c => sum1008 G0 bs c⟩
end
end Go.Proofs.YtdkoockhfmbcaaaGreatDoor

set_option linter.unusedVariables false
namespace Go.Proofs.YtdkoockhfmbcaaaGreatDoor
open Go.Fv Go.Proofs
theorem ctzN_eq : ∀ (f x k : Nat), ctzN f x k = k + Lib.ctzFrom f x
  | 0, x, k => rfl
  | f + 1, x, k => by
    show (match Nat.beq (Nat.mod x 2) 1 with | true => k | false => ctzN f (Nat.div x 2) (Nat.succ k)) = _
    unfold Lib.ctzFrom
    by_cases h : x % 2 = 1
    · have : Nat.beq (Nat.mod x 2) 1 = true := by show Nat.beq (x % 2) 1 = true; rw [h]; rfl
      rw [this, if_pos h]; rfl
    · have : Nat.beq (Nat.mod x 2) 1 = false := by
        rw [Bool.eq_false_iff]; intro hh; exact h (Nat.eq_of_beq_eq_true hh)
      rw [this, if_neg h]
      show ctzN f (x / 2) (k + 1) = _
      rw [ctzN_eq f (x / 2) (k + 1)]
      omega
theorem ctzFrom_zero : ∀ f, Lib.ctzFrom f 0 = f
  | 0 => rfl
  | f + 1 => by unfold Lib.ctzFrom; rw [if_neg (by omega)]; show 1 + Lib.ctzFrom f (0 / 2) = _; rw [Nat.zero_div, ctzFrom_zero f]; omega
theorem ctzN_ctz (x : Nat) : ctzN 64 x 0 = Lib.ctz 64 x := by
  rw [ctzN_eq, Nat.zero_add]
  unfold Lib.ctz
  by_cases h : x = 0
  · rw [if_pos h, h, ctzFrom_zero]
  · rw [if_neg h]
set_option maxHeartbeats 1000000 in
theorem tz_core (x k idx : Nat) (w : World) (hx0 : ((x : Int) == 0) = false)
    (key : IntKind.u64.wrap (bits BinOp.and IntKind.u64 (x : Int) (IntKind.u64.wrap (-(x : Int))) * 285870213051353865) / 288230376151711744 = (idx : Int))
    (hi : idx < 64) (hk : k < 64) (hcell : w.cell? ⟨1, idx, none⟩ = some (.int .u8 k)) :
    Calls Tryz.prog 341 #[.int .u64 x] w fun e w' => e = .returned (.int .i64 k) ∧ w' = w := by
  go_enter Tryz.func341, Tryz.ntmps341
  go_wp2_with (simp only [key])
  go_ret
  exact ⟨rfl, rfl⟩
theorem tz_zero (w : World) : Calls Tryz.prog 341 #[.int .u64 0] w fun e w' => e = .returned (.int .i64 64) ∧ w' = w := by
  go_enter Tryz.func341, Tryz.ntmps341
  go_wp2
  go_ret
  exact ⟨rfl, rfl⟩
theorem tz_any (x : Nat) (hx : x < 18446744073709551616) (w : World) (hT : TabG w 1 Lib.deBruijn64tab) :
    Calls Tryz.prog 341 #[.int .u64 x] w fun e w' => e = .returned (.int .i64 (Lib.ctz 64 x)) ∧ w' = w := by
  by_cases hx0 : x = 0
  · subst hx0
    exact tz_zero w
  · obtain ⟨hlow, hk⟩ := Lib.lowest_bit 64 x hx0 hx
    obtain ⟨hi, htab⟩ := Lib.deBruijn64_at _ hk
    have hcell := hT.2 _ hi
    rw [htab] at hcell
    exact tz_core x _ _ w (by simp; omega) (tz64_key x _ hx hx0 hlow) hi hk hcell
theorem ctz_le (x : Nat) (hx : x < 18446744073709551616) : Lib.ctz 64 x ≤ 64 := by
  by_cases h : x = 0
  · subst h; decide
  · have := (Lib.lowest_bit 64 x h hx).2; omega
theorem globG_eq : globG = some (1, Lib.deBruijn64tab) := rfl
set_option maxRecDepth 10000 in
theorem ctz_ok : FnOKM Tryz.prog 341 (fun args H => single (ctzO args H)) := FnOK.many fun args H v H' h => by
  unfold ctzO at h
  split at h
  · rename_i x
    cases h
    refine ⟨fun o ho => by subst ho; exact St.refl _, fun ρ w us hargs hH hd hj => ?_⟩
    match us, hargs with
    | us, hargs =>
      obtain ⟨u1, hus, hr⟩ : ∃ u1, us = #[u1] ∧ VRel ρ (.one (.lit (.int .u64 x))) u1 := by
        obtain ⟨l⟩ := us
        match l, hargs with
        | [u], h => exact ⟨u, rfl, h.1⟩
        | [], h => exact h.elim
        | _ :: _ :: _, h => exact h.2.elim
      obtain ⟨rfl, hx⟩ := hr
      subst hus
      have h3 : (0 : Int) ≤ x ∧ x ≤ 18446744073709551615 := by
        have h' : (decide ((0 : Int) ≤ x) && decide (x ≤ (18446744073709551615 : Int))) = true := hx
        rw [Bool.and_eq_true, decide_eq_true_eq, decide_eq_true_eq] at h'
        exact h'
      obtain ⟨n, rfl⟩ := Int.eq_ofNat_of_zero_le h3.1
      have hn : n < 18446744073709551616 := by omega
      have htab : TabG w 1 Lib.deBruijn64tab := (hj 1 Lib.deBruijn64tab globG_eq).1
      have hcall := tz_any n hn w htab
      rw [Tryz.call341]
      refine Calls.mono hcall fun e w' ⟨he, hw⟩ => ?_
      subst hw
      have hle := ctz_le n hn
      refine ⟨_, he, _, rfl, ρ, ⟨?_, ?_⟩, Sim.refl hH hd⟩
      · show Value.int .i64 _ = Value.int .i64 (Int.ofNat (ctzN 64 (Int.toNat (n : Int)) 0))
        rw [Int.toNat_natCast, ctzN_ctz]; rfl
      · show (decide ((-9223372036854775808 : Int) ≤ Int.ofNat (ctzN 64 (Int.toNat (n : Int)) 0)) && decide (Int.ofNat (ctzN 64 (Int.toNat (n : Int)) 0) ≤ (9223372036854775807 : Int))) = true
        rw [Int.toNat_natCast, ctzN_ctz, Bool.and_eq_true, decide_eq_true_eq, decide_eq_true_eq]
        constructor
        · exact Int.le_trans (by decide) (Int.natCast_nonneg _)
        · show ((Lib.ctz 64 n : Nat) : Int) ≤ _; omega
  · cases h
/-- From a row's condition to the table. -/
theorem tab_of_laid {w : World} {l : List (String × DataW Unit)} (h : laidMet Tryz.prog l w) (hm : ("math/bits.deBruijn64tab", Lib.tabData .u8 (Lib.deBruijn64tab.map fun n : Nat => (n : Int))) ∈ l) : TabG w 1 Lib.deBruijn64tab := by
  obtain ⟨g, t, cs, fuel, p, hg, hty, hvar, hd⟩ := Lib.laidMet.reads h hm
  obtain rfl := Option.some.inj ((by kernel_rfl : Tryz.prog.globalNamed "math/bits.deBruijn64tab" = some 1).symm.trans hg)
  obtain rfl := Option.some.inj ((by kernel_rfl : (Tryz.prog.globals[1]?).map (·.type) = some 534).symm.trans hty)
  have hcs := Lib.cells_of_tab (n := 64) (e := 5) Tryz.underlying534 Tryz.underlying5 (by kernel_rfl) (by kernel_rfl) hd
  have hc : ∀ j, j < 64 → w.cell? ⟨1, j, none⟩ = some (.int .u8 (Lib.deBruijn64tab.getD j 0)) := fun j hj => by
    rw [World.var?_cell hg hvar j, ← Array.getElem?_toList, hcs, List.map_map, List.getElem?_map, List.getElem?_eq_getElem (show j < Lib.deBruijn64tab.length from hj)]
    rw [List.getD_eq_getElem?_getD, List.getElem?_eq_getElem (show j < Lib.deBruijn64tab.length from hj)]
    rfl
  refine ⟨?_, hc⟩
  have h0 := hc 0 (by decide)
  unfold World.cell? at h0
  rcases Nat.lt_or_ge 1 w.heap.size with h1 | h1
  · exact h1
  · rw [Array.getElem?_eq_none h1] at h0
    simp at h0
end Go.Proofs.YtdkoockhfmbcaaaGreatDoor

set_option linter.unusedSectionVars false
set_option linter.unusedVariables false
namespace Go.Fv
/-- Beside what is az it was there is one new block, of numbers and the like. -/
theorem Sim.addNew {ρ : PM} {H : HP} {w w' : World} {K : Bk} {L : Loc} (hH : HRel ρ H w) (s : Sim ρ H w ρ H w') (hd : Dom ρ H.n) (hL : w.heap.size ≤ L.B)
    (hK : ∀ i c, K.get i = some c → ∃ u, c = .c (.lit u)) (hr : ∀ (ρ' : PM) i u, K.get i = some (.c (.lit u)) → CtRel ρ' w' L i (.c (.lit u))) :
    Sim ρ H w (fun x => if x = H.n then some L else ρ x) (H.push K) w' := by
  have hnew : (fun x => if x = H.n then some L else ρ x) H.n = some L := if_pos rfl
  have hoth : ∀ x, x ≠ H.n → (if x = H.n then some L else ρ x) = ρ x := fun x hx => if_neg hx
  have hlt : ∀ x y, ρ x = some y → x ≠ H.n := fun x y hx h => by subst h; rw [hd H.n (Nat.le_refl _)] at hx; cases hx
  have hle : PM.le ρ (fun x => if x = H.n then some L else ρ x) := fun x y hx => by
    show (if x = H.n then some L else ρ x) = some y
    rw [hoth x (hlt x y hx)]; exact hx
  have hget : ∀ x, (H.push K).t.get x = if x = H.n then some K else H.t.get x := fun x => PT.get_put _ _ _ _
  have hcell : ∀ x i, x ≠ H.n → (H.push K).cell x i = H.cell x i := fun x i hx => by unfold HP.cell; rw [hget, if_neg hx]
  have hcelln : ∀ i, (H.push K).cell H.n i = K.get i := fun i => by unfold HP.cell; rw [hget, if_pos rfl]; rfl
  have hkn : ∀ x, x ≠ H.n → (H.push K).Kn x → H.Kn x := fun x hx ⟨i, c, h⟩ => ⟨i, c, by rw [← hcell x i hx]; exact h⟩
  refine ⟨hle, Nat.le_succ _, fun b hb => ?_, ⟨fun b i c L' hc hL' => ?_, fun b b' L1 L2 h1 h2 h3 h4 h5 => ?_⟩, fun b i hb hc => by rw [hcell b i (by omega)]; exact hc, fun b L1 j h1 h2 h3 h4 => s.frc b L1 j h1 (hkn b (hlt b L1 h3) h2) h3 h4, s.fr, fun b L1 h1 h2 => ?_, s.size, s.os, s.tape, s.output, fun b L1 h1 h2 => ?_⟩
  · have hb' : H.n + 1 ≤ b := hb
    show (if b = H.n then some L else ρ b) = none
    rw [hoth b (by omega)]; exact hd b (by omega)
  · by_cases hb : b = H.n
    · subst hb
      rw [if_pos rfl] at hL'
      cases hL'
      rw [hcelln] at hc
      obtain ⟨u, rfl⟩ := hK i c hc
      exact hr _ i u hc
    · rw [hcell b i hb] at hc
      have hL'' : ρ b = some L' := by rw [← hoth b hb]; exact hL'
      exact (s.rel.rel b i c L' hc hL'').mono hle
  · by_cases hb : b = H.n
    · by_cases hb' : b' = H.n
      · rw [hb, hb']
      · exfalso
        subst hb
        rw [if_pos rfl] at h3
        cases h3
        obtain ⟨i, c, hc⟩ := hkn b' hb' h2
        have h4' : ρ b' = some L2 := by rw [← hoth b' hb']; exact h4
        have := (hH.rel b' i c L2 hc h4').lt
        omega
    · by_cases hb' : b' = H.n
      · exfalso
        subst hb'
        rw [if_pos rfl] at h4
        cases h4
        obtain ⟨i, c, hc⟩ := hkn b hb h1
        have h3' : ρ b = some L1 := by rw [← hoth b hb]; exact h3
        have := (hH.rel b i c L1 hc h3').lt
        omega
      · exact s.rel.inj b b' L1 L2 (hkn b hb h1) (hkn b' hb' h2) (by rw [← hoth b hb]; exact h3) (by rw [← hoth b' hb']; exact h4) h5
  · by_cases hb : b = H.n
    · subst hb
      rw [if_pos rfl] at h2
      cases h2
      exact .inl hL
    · have h2' : ρ b = some L1 := by rw [← hoth b hb]; exact h2
      rw [h1] at h2'; cases h2'
  · by_cases hb : b = H.n
    · subst hb; exact Nat.le_refl _
    · have h2' : ρ b = some L1 := by rw [← hoth b hb]; exact h2
      rw [h1] at h2'; cases h2'
/-- As frame_call, of a call that hands back a slice of one new block of numbers. -/
theorem graft_call {P : Program} {f : FuncId} {b off : Nat} {args : List AV} {H Hs : HP} {q n c : Nat} {K : Bk} (hn : 0 < Hs.n) (hq : q ≠ 0)
    (hc : ∀ i c, Hs.cell 0 i = some c → (∃ u, c = .c (.lit u)) ∧ H.cell b (off + i) = some c) (h0 : Hs.Kn 0) (hno : ∀ b', b' ≠ 0 → ∀ i, Hs.cell b' i = none)
    (hKl : ∀ i c, K.get i = some c → ∃ u, c = .c (.lit u)) (hKn : ∃ i c, K.get i = some c)
    (hK : ∀ (ρ : PM) (us : List Value) (w : World), All2 (VRel ρ) args us → HRel ρ H w → ∃ L az, ∃ Z : AV × HP → Prop, ρ b = some L ∧ All2 (VRel (oneW ⟨L.B, L.o + off, L.C⟩)) az us ∧ (∀ o, Z o → o.1 = .one (.sl q 0 n c) ∧ (∀ i, o.2.cell 0 i = Hs.cell 0 i) ∧ ∀ i c, K.get i = some c → o.2.cell q i = some c) ∧ CallOK P f az Hs Z) :
    CallOK P f args H (· ∈ [(.one (.sl H.n 0 n c), H.push K)]) := by
  refine ⟨fun o ho => by rw [List.mem_singleton.1 ho]; exact St.push _ _, fun ρ w us hu hH hd hj => ?_⟩
  obtain ⟨L, az, Z, hL, has, hZ, k⟩ := hK ρ us.toList w hu hH
  have hz : ∀ b' i c, Hs.cell b' i = some c → b' = 0 := fun b' i c h => Decidable.byContradiction fun hb => by
    rw [hno b' hb i] at h; cases h
  have hkn : ∀ b', Hs.Kn b' → b' = 0 := fun b' ⟨i, c, h⟩ => hz b' i c h
  refine GivesR.mono (fun u w' ho => ?_) (k.2 (oneW ⟨L.B, L.o + off, L.C⟩) w us has ⟨fun b' i c L' hcell hL' => ?_, fun b1 b2 L1 L2 h1 h2 _ _ _ => by rw [hkn b1 h1, hkn b2 h2]⟩ (fun b' hb' => ?_) (fun B o hg => ⟨(hj B o hg).1, fun b' L' hL' => by obtain ⟨_, rfl⟩ := oneW_some hL'; exact (hj B o hg).2 b L hL⟩))
  · obtain ⟨o, hzo, ρ', hv', s⟩ := ho
    obtain ⟨ho1, ho2, ho3⟩ := hZ o hzo
    have hF : Sim ρ H w ρ H w' := Sim.frame (σ := fun _ => b) (δ := fun _ => off) hH hd (fun b' L' hk hL' => by
      obtain ⟨_, rfl⟩ := oneW_some hL'
      exact ⟨L, hL, rfl, rfl, rfl⟩) (fun b' i c hcell => by
      obtain rfl := hz b' i c hcell
      exact hc i c hcell) (fun b' i hk => by
      obtain rfl := hkn b' hk
      exact ho2 i) s
    rw [ho1] at hv'
    obtain ⟨⟨Lq, hLq, rfl⟩, hle1, hle2⟩ := hv'
    have hLqB : w.heap.size ≤ Lq.B := by
      rcases s.new q Lq (by unfold oneW; rw [if_neg hq]) hLq with h | ⟨b0, L0, g1, g2, g3⟩
      · exact h
      · exfalso
        obtain rfl := hkn b0 g1
        obtain ⟨i0, c0, hc0⟩ := h0
        obtain ⟨i1, c1, hc1⟩ := hKn
        exact hq (s.rel.inj 0 q L0 Lq ⟨i0, c0, by rw [ho2]; exact hc0⟩ ⟨i1, c1, ho3 _ _ hc1⟩ (s.le _ _ g2) hLq g3).symm
    refine ⟨_, List.mem_singleton.2 rfl, _, ⟨⟨Lq, if_pos rfl, rfl⟩, hle1, hle2⟩, Sim.addNew hH hF hd hLqB hKl fun ρ2 i u hu => ?_⟩
    obtain ⟨arr, t, fr, u', g1, g2, g3, g4, g5⟩ := s.rel.rel q i (.c (.lit u)) Lq (ho3 _ _ hu) hLq
    exact ⟨arr, t, fr, u', g1, g2, g3, g4, g5⟩
  · obtain rfl := hz b' i c hcell
    obtain ⟨_, rfl⟩ := oneW_some hL'
    obtain ⟨⟨u, rfl⟩, h2⟩ := hc i c hcell
    obtain ⟨arr, t, fr, u', g1, g2, g3, g4, g5⟩ := hH.rel b (off + i) _ L h2 hL
    exact ⟨arr, t, fr, u', g1, g2, g3, by rw [← g4]; congr 1; simp only []; omega, g5⟩
  · unfold oneW
    rw [if_neg (by omega)]
/-! ### Windows told by a number -/
noncomputable section
/-- The numbers of cells, one behind the other, each in 64 bits. -/
def keyN (cs : List Cel) : Nat :=
  List.rec (motive := fun _ => Nat) 0 (fun c _ ih => match c with
    | .lit (.int _ (.ofNat n)) => Nat.add (Nat.mul ih 18446744073709551616) n
    | _ => ih) cs
def cellsK (ks : List IntKind) (x : Nat) : List Cel :=
  List.rec (motive := fun _ => Nat → List Cel) (fun _ => []) (fun k _ ih x => .lit (.int k (.ofNat (Nat.mod x 18446744073709551616))) :: ih (Nat.div x 18446744073709551616)) ks x
def winB (ks : List IntKind) (x : Nat) : Bk := .lf (someC (cellsK ks x) [])
def winH (ks : List IntKind) (x : Nat) : HP := ⟨(PT.nil : PT Bk).put 0 (some (winB ks x)), 1, 1⟩
/-- Are all cells of a block known, and numbers or the like? -/
def litCt (c : Option Ct) : Bool :=
  match c with
  | some (.c (.lit _)) => true
  | _ => false
def litBk : Bk → Bool
  | .lf l => l.all litCt
  | .fl _ c => isLit c
  | .nd _ l r => litBk l && litBk r
/-- What is told of a call on a window: a value that names no place; or the length and the capacity of a slice, and its block. -/
inductive WV where
  | v (a : AV)
  | s (n c : Nat) (k : Bk)
def obsW (ks : List IntKind) (x : Nat) (r : RM) : Option WV :=
  match r with
  | some [o] => match eqOB (o.2.t.get 0) (some (winB ks x)) with
    | true => match o.1 with
      | .one (.sl q 0 n c) => match Nat.ble 1 q && Nat.ble 1 c, o.2.t.get q with
        | true, some k => match Bk.read k 0 c with
          | some cs => match cs.all isLit with
            | true => some (.s n c (.lf (someC cs [])))
            | false => none
          | none => none
        | _, _ => none
      | a => match litsAV a with
        | true => some (.v a)
        | false => none
    | false => none
  | _ => none
/-- A call of a function with one pointer, by what stands there. -/
def winO (ks : List IntKind) (run : Nat → Option WV) : List AV → HP → RM := fun args H =>
  match args with
  | [.one (.ptr b off)] => match H.read b off ks.length with
    | some cs => force (keyN cs) fun x => match eqCels cs (cellsK ks x) with
      | true => match run x with
        | some (.v a) => some [(a, H)]
        | some (.s n c k) => some [(.one (.sl H.n 0 n c), H.push k)]
        | none => none
      | false => none
    | none => none
  | _ => none
/-- The run on a small heap. -/
def runW (ora : OraM) (ks : List IntKind) (f : FuncId) (x : Nat) : Option WV := obsW ks x (ora (.f f) [.one (.ptr 0 0)] (winH ks x))
end
theorem litBk_spec : ∀ {k : Bk}, litBk k = true → ∀ i c, k.get i = some c → ∃ u, c = .c (.lit u)
  | .lf l, h, i, c, hc => by
    rw [Bk.get_lf] at hc
    have hl : ∀ x ∈ l, litCt x = true := List.all_eq_true.1 h
    cases hx : l[i]? with
    | none => rw [hx] at hc; cases hc
    | some x =>
      rw [hx, Option.join_some] at hc
      subst hc
      have := hl _ (List.mem_of_getElem? hx)
      unfold litCt at this
      split at this
      · rename_i u heq
        cases heq
        exact ⟨_, rfl⟩
      · cases this
  | .fl n c0, h, i, c, hc => by
    rw [Bk.get_fl] at hc
    split at hc
    · cases hc
      cases c0 <;> first | exact ⟨_, rfl⟩ | cases h
    · cases hc
  | .nd n l r, h, i, c, hc => by
    simp only [litBk, Bool.and_eq_true] at h
    rw [Bk.get_nd] at hc
    split at hc
    · exact litBk_spec h.1 _ c hc
    · exact litBk_spec h.2 _ c hc
theorem winH_get (ks : List IntKind) (x b : Nat) : (winH ks x).t.get b = if b = 0 then some (winB ks x) else none := by
  show ((PT.nil : PT Bk).put 0 (some (winB ks x))).get b = _
  rw [PT.get_put, PT.get_nil]
theorem winH_cell (ks : List IntKind) (x i : Nat) : (winH ks x).cell 0 i = ((cellsK ks x)[i]?).map .c := by
  unfold HP.cell
  rw [winH_get, if_pos rfl]
  exact get_someC _ _
theorem winH_other (ks : List IntKind) (x b i : Nat) (hb : b ≠ 0) : (winH ks x).cell b i = none := by
  unfold HP.cell
  rw [winH_get, if_neg hb]
  rfl
theorem cellsK_len : ∀ (ks : List IntKind) (x : Nat), (cellsK ks x).length = ks.length
  | [], x => rfl
  | k :: ks, x => by
    show (_ :: cellsK ks (Nat.div x 18446744073709551616)).length = _
    rw [List.length_cons, cellsK_len ks, List.length_cons]
theorem cellsK_lit : ∀ (ks : List IntKind) (x : Nat) (c : Cel), c ∈ cellsK ks x → ∃ u, c = .lit u
  | [], x, c, h => by
    have h' : c ∈ ([] : List Cel) := h
    simp at h'
  | k :: ks, x, c, h => by
    have h' : c ∈ (Cel.lit (.int k (.ofNat (Nat.mod x 18446744073709551616))) :: cellsK ks (Nat.div x 18446744073709551616)) := h
    rcases List.mem_cons.1 h' with h1 | h1
    · exact ⟨_, h1⟩
    · exact cellsK_lit ks _ c h1
theorem winO_ok2 {P : Program} {f : FuncId} {ora : OraM} {ks : List IntKind} {run : Nat → Option WV} (hk : 0 < ks.length) (hrun : FnOKM P f (ora (.f f))) (hall : ∀ x v, run x = some v → runW ora ks f x = some v) : FnOKM P f (winO ks run) := by
  intro args H outs hr
  unfold winO at hr
  split at hr
  · rename_i b off
    split at hr
    · rename_i cs hcs
      rw [force_eq] at hr
      split at hr
      · rename_i heq
        have hceq := eqCels_spec heq
        generalize keyN cs = x at *
        subst hceq
        have hcell : ∀ i c, (winH ks x).cell 0 i = some c → (∃ u, c = .c (.lit u)) ∧ H.cell b (off + i) = some c := fun i c hc => by
          rw [winH_cell] at hc
          cases hi : (cellsK ks x)[i]? with
          | none => rw [hi] at hc; cases hc
          | some c0 =>
            rw [hi] at hc
            cases hc
            obtain ⟨u, rfl⟩ := cellsK_lit ks x c0 (List.mem_of_getElem? hi)
            exact ⟨⟨u, rfl⟩, (HP.read_spec hcs).2 i _ hi⟩
        have hwin : ∀ (ρ : PM) (us : List Value) (w : World), All2 (VRel ρ) [.one (.ptr b off)] us → HRel ρ H w → ∃ L, ρ b = some L ∧ All2 (VRel (oneW ⟨L.B, L.o + off, L.C⟩)) [.one (.ptr 0 0)] us := fun ρ us w hu hH => by
          match us, hu with
          | [u0], ⟨r0, _⟩ =>
            obtain ⟨L, hL, r0'⟩ := ptr_win r0
            exact ⟨L, hL, r0', trivial⟩
        split at hr
        · rename_i a hra
          cases hr
          replace hra := hall _ _ hra
          unfold runW obsW at hra
          split at hra
          · rename_i o ho
            split at hra
            · rename_i he0
              have he0' := eqOB_spec he0
              split at hra
              · split at hra
                · split at hra
                  · split at hra <;> cases hra
                  · cases hra
                · cases hra
              · split at hra
                · rename_i hlits
                  cases hra
                  refine frame_call (b := b) (off := off) (Hs := winH ks x) (show 0 < 1 by decide) hcell (fun b' hb' i => winH_other _ _ _ _ hb') hlits (fun ρ us w hu hH => ?_)
                  obtain ⟨L, hL, has⟩ := hwin ρ us w hu hH
                  refine ⟨L, _, _, hL, has, fun z hz => ?_, hrun _ _ _ ho⟩
                  rw [List.mem_singleton.1 hz]
                  exact ⟨rfl, fun i => HP.cell_of_get (by rw [he0', winH_get, if_pos rfl]) i⟩
                · cases hra
            · cases hra
          · cases hra
        · rename_i n c k hra
          cases hr
          replace hra := hall _ _ hra
          unfold runW obsW at hra
          split at hra
          · rename_i o ho
            split at hra
            · rename_i he0
              have he0' := eqOB_spec he0
              split at hra
              · rename_i q n' c' hv
                split at hra
                · rename_i k' hq hkq
                  split at hra
                  · rename_i cs1 hrd
                    split at hra
                    · rename_i hlit
                      cases hra
                      rw [Bool.and_eq_true] at hq
                      have hq1 := Nat.le_of_ble_eq_true hq.1
                      have hc1 := Nat.le_of_ble_eq_true hq.2
                      obtain ⟨hl1, hr1⟩ := Bk.read_spec _ _ _ _ hrd
                      have hgs : ∀ i, (Bk.lf (someC cs1 [])).get i = (cs1[i]?).map Ct.c := fun i => get_someC _ _
                      have hlit' : ∀ i c, (Bk.lf (someC cs1 [])).get i = some c → ∃ u, c = .c (.lit u) := fun i c hc => by
                        rw [hgs] at hc
                        cases hx : cs1[i]? with
                        | none => rw [hx] at hc; cases hc
                        | some c0 =>
                          rw [hx] at hc
                          cases hc
                          have := List.all_eq_true.1 hlit _ (List.mem_of_getElem? hx)
                          cases c0 <;> first | exact ⟨_, rfl⟩ | cases this
                      have hlen : 0 < (cellsK ks x).length := by rw [cellsK_len]; exact hk
                      have hlen1 : 0 < cs1.length := by omega
                      have h0 : (winH ks x).Kn 0 := ⟨0, .c ((cellsK ks x)[0]'hlen), by
                        rw [winH_cell, List.getElem?_eq_getElem hlen]; rfl⟩
                      refine graft_call (b := b) (off := off) (Hs := winH ks x) (q := q) (show 0 < 1 by decide) (by omega) hcell h0 (fun b' hb' i => winH_other _ _ _ _ hb') hlit' ⟨0, _, by rw [hgs, List.getElem?_eq_getElem hlen1]; rfl⟩ (fun ρ us w hu hH => ?_)
                      obtain ⟨L, hL, has⟩ := hwin ρ us w hu hH
                      refine ⟨L, _, _, hL, has, fun z hz => ?_, hrun _ _ _ ho⟩
                      rw [List.mem_singleton.1 hz]
                      refine ⟨hv, fun i => HP.cell_of_get (by rw [he0', winH_get, if_pos rfl]) i, fun i c hc => ?_⟩
                      rw [hgs] at hc
                      cases hx : cs1[i]? with
                      | none => rw [hx] at hc; cases hc
                      | some c0 =>
                        rw [hx] at hc
                        cases hc
                        have hg := hr1 i c0 hx
                        rw [Nat.zero_add] at hg
                        unfold HP.cell
                        rw [hkq]
                        exact hg
                    · cases hra
                  · cases hra
                · cases hra
              · split at hra <;> cases hra
            · cases hra
          · cases hra
        · cases hr
      · cases hr
    · cases hr
  · cases hr
theorem winO_ok {P : Program} {f : FuncId} {ora : OraM} {ks : List IntKind} (hk : 0 < ks.length) (hrun : FnOKM P f (ora (.f f))) : FnOKM P f (winO ks (runW ora ks f)) := winO_ok2 hk hrun fun _ _ h => h
/-! ### A table of states, reckoned beforehand -/
noncomputable section
def tabR (next : Nat → Option WV) : List (Nat × WV) → Nat → Option WV
  | [], x => next x
  | p :: r, x => match Nat.beq x p.1 with
    | true => some p.2
    | false => tabR next r x
/-- A new block of bytes. -/
def bytesW (l : List Nat) : WV := .s l.length l.length (.lf (someC (l.map fun n => .lit (.int .u8 (.ofNat n))) []))
end
theorem tabR_ok {next run : Nat → Option WV} (hn : ∀ x v, next x = some v → run x = some v) : ∀ {t : List (Nat × WV)}, (∀ p ∈ t, run p.1 = some p.2) → ∀ x v, tabR next t x = some v → run x = some v
  | [], _, x, v, h => hn x v h
  | p :: r, ht, x, v, h => by
    have h' : (match Nat.beq x p.1 with | true => some p.2 | false => tabR next r x) = some v := h
    split at h'
    · rename_i hb
      cases h'
      rw [Nat.eq_of_beq_eq_true hb]
      exact ht p (List.mem_cons_self ..)
    · exact tabR_ok hn (fun q hq => ht q (List.mem_cons_of_mem _ hq)) x v h'
end Go.Fv

set_option linter.unusedSectionVars false
set_option linter.unusedVariables false
namespace Go.Fv
open Go.WideShapes Go.ChangeShapes

theorem keptBut_of_old {W W' : World} (hk : ∀ k, k < W.heap.size → W'.heap[k]? = W.heap[k]?) (hos : W'.os = W.os) (hout : W'.output = W.output) (may : MemPlace → Prop) : W.keptBut W' may :=
  ⟨hos, hout, fun i hi => by rw [hk i hi]; exact (World.keptBut_refl W may).2.2 i hi⟩
theorem frozen_of_old {W W' : World} (hk : ∀ k, k < W.heap.size → W'.heap[k]? = W.heap[k]?) {a : Addr} (ha : a.block < W.heap.size) : W'.frozen? a = W.frozen? a := by
  unfold World.frozen?
  rw [hk _ ha]

theorem post_of_old {H : Type} {enc : TypeId × Value → H} {P : Program} {f : Func} {s : ChangeSpec} {apart fresh handsOn again : Bool} {W W' : World} {args : Array Value} {v : Value} {ds gs : List (DataW H)} {before pa pv : List MemPlace}
    (hW : DataW.Whole enc P f.params.toList s.vars apart W args.toList ds gs before)
    (hres : ∀ (b : Nat) (sp : Nat → Bool) (hd : Bool), DataW.TrodAll enc P W' b sp hd f.resultTypes.toList (v.resultList f.resultTypes.size) (s.fn H (ds ++ gs)).results [])
    (hargs : ∀ sp : Nat → Bool, (∀ p ∈ before, sp p.block = true) → DataW.TrodAll enc P W' 0 sp true f.params.toList args.toList (s.fn H (ds ++ gs)).args pa)
    (hvars : ∀ sp : Nat → Bool, (∀ p ∈ before, sp p.block = true) → DataW.TrodVars enc P W' sp s.vars (s.fn H (ds ++ gs)).vars pv)
    (hps : before = pa ++ pv) (hk : ∀ k, k < W.heap.size → W'.heap[k]? = W.heap[k]?) (hos : W'.os = W.os) (hout : W'.output = W.output)
    (hok : ∀ (j : Nat) (t : TypeId) (r : Value), f.resultTypes[j]? = some t → (v.resultList f.resultTypes.size)[j]? = some r → Value.okWide P W' .any 0 t r) :
    s.post enc P f apart fresh handsOn again W args v W' := by
  have hold : ∀ p ∈ before, (fun b => decide (b < W.heap.size)) p.block = true := fun p hp => by simpa using hW.lt p hp
  have hlt : ∀ p ∈ before, p.block < W.heap.size := fun p hp => hW.lt p hp
  refine ⟨ds, gs, before, [], pa, pv, hW, hres _ _ _, hargs _ hold, hvars _ hold, World.keptBut_mono (fun p hp => ⟨hp, ?_⟩) (keptBut_of_old hk hos hout (· ∈ before)), fun _ => ?_⟩
  · rw [hps, List.mem_append] at hp
    exact Or.inr hp
  · obtain ⟨_, _, _, _, _, hz, hn⟩ := hW
    refine ⟨hok, _, _, ([] ++ pa) ++ pv, ⟨[] ++ pa, pv, trodAll_append (hargs _ (fun _ _ => rfl)) (hres _ _ _), hvars _ (fun _ _ => rfl), rfl, ?_, ?_⟩, ?_⟩
    · intro b off hp
      have hp' : MemPlace.cell b off ∈ before := by rw [hps]; simpa using hp
      rw [frozen_of_old hk (show (⟨b, off, none⟩ : Addr).block < W.heap.size from hlt _ hp')]
      exact hz b off hp'
    · intro ha
      have := hn ha
      rw [hps] at this
      simpa using this
    · intro p hp _
      rw [hps]
      simpa using hp
end Go.Fv

set_option linter.unusedSectionVars false
set_option linter.unusedVariables false
namespace Go.Fv
open Go.WideShapes Go.ChangeShapes
section
variable {H : Type} {enc : TypeId × Value → H} {P : Program} {W W' : World} {base : Nat} {sp : Nat → Bool} {held : Bool}

theorem trod_old (hk : ∀ k, k < W.heap.size → W'.heap[k]? = W.heap[k]?) : ∀ (n : Nat) (t : TypeId) (cs : List Value) (x : DataW H × List MemPlace), DataW.trod enc P W base sp held n t cs = some x → DataW.trod enc P W' base sp held n t cs = some x
  | 0, _, _, _, h => by simp [DataW.trod] at h
  | n + 1, t, cs, x, h => by
    have hlt := DataW.trod_lt (n + 1) t cs x h
    rw [DataW.trod_step] at h ⊢
    refine DataW.trodStep_carry (fun t cs x hx _ => trod_old hk n t cs x hx) h fun p hp => ?_
    have hb := hlt p hp
    cases p with
    | cell b off =>
      show W'.cell? ⟨b, off, none⟩ = W.cell? ⟨b, off, none⟩
      unfold World.cell?
      rw [hk b hb]
    | map b => exact hk b hb
theorem Trod.old (hk : ∀ k, k < W.heap.size → W'.heap[k]? = W.heap[k]?) {t : TypeId} {v : Value} {d : DataW H} {ps : List MemPlace} (h : DataW.Trod enc P W base sp held t v d ps) : DataW.Trod enc P W' base sp held t v d ps := by
  obtain ⟨n, hn⟩ := h
  exact ⟨n, trod_old hk n _ _ _ hn⟩
theorem TrodAll.old (hk : ∀ k, k < W.heap.size → W'.heap[k]? = W.heap[k]?) : ∀ {ts : List TypeId} {vs : List Value} {ds : List (DataW H)} {ps : List MemPlace}, DataW.TrodAll enc P W base sp held ts vs ds ps → DataW.TrodAll enc P W' base sp held ts vs ds ps
  | [], [], [], _, h => h
  | _ :: _, _ :: _, _ :: _, _, ⟨p, q, h1, h2, e⟩ => ⟨p, q, Trod.old hk h1, TrodAll.old hk h2, e⟩

theorem slice_len {t e : TypeId} {a : Option Addr} {n c : Nat} {d : DataW H} {ps : List MemPlace} (ht : P.underlying t = some (.slice e)) (h : DataW.Trod enc P W base sp held t (.slice a n c) d ps) : n ≤ 9223372036854775807 := by
  obtain ⟨k, hk⟩ := h
  cases k with
  | zero => simp [DataW.trod] at hk
  | succ k =>
    rw [DataW.trod_step] at hk
    unfold DataW.trodStep at hk
    rw [ht] at hk
    simp only [Value.cells] at hk
    cases a with
    | none =>
      cases n with
      | zero => omega
      | succ n => simp at hk
    | some a =>
      simp only at hk
      split at hk
      · rename_i hc
        have := hc.2.2
        unfold maxLen at this
        omega
      · cases hk
end
end Go.Fv

set_option linter.unusedSectionVars false
set_option linter.unusedVariables false
namespace Go.Fv
variable {P : Program} [Plain P]

theorem litOK_u64 {x : Int} (h : litOK (.int .u64 x) = true) : 0 ≤ x ∧ x ≤ 18446744073709551615 := by
  have h' : (decide ((0 : Int) ≤ x) && decide (x ≤ (18446744073709551615 : Int))) = true := h
  rwa [Bool.and_eq_true, decide_eq_true_eq, decide_eq_true_eq] at h'
theorem all2_three {ρ : PM} {a b c : AV} {us : Array Value} (h : All2 (VRel ρ) [a, b, c] us.toList) : ∃ x y z, us = #[x, y, z] ∧ VRel ρ a x ∧ VRel ρ b y ∧ VRel ρ c z := by
  obtain ⟨l⟩ := us
  match l, h with
  | [x, y, z], ⟨h1, h2, h3, _⟩ => exact ⟨x, y, z, rfl, h1, h2, h3⟩

noncomputable def add64O : List AV → HP → R := fun args H => match args with
  | [.one (.lit (.int .u64 x)), .one (.lit (.int .u64 y)), .one (.lit (.int .u64 c))] =>
    match decide (c ≤ 1) with
    | true => some (.tup [(false, [.lit (.int .u64 ((x + y + c) % 18446744073709551616))]), (false, [.lit (.int .u64 ((x + y + c) / 18446744073709551616))])], H)
    | false => none
  | _ => none

theorem add64_ok {f : FuncId} {fn : Func} (hf : P.funcs[f]? = some fn) (hname : (fn.name == "runtime.NumGoroutine") = false) (hb : fn.body.isNone = true) (hn : Extern.findNext fn = none) (he : Extern.find fn = some add64Entry) : FnOK P f add64O := by
  intro args H v H' h
  unfold add64O at h
  split at h
  · rename_i x y c
    split at h
    · rename_i hc
      cases h
      have hc := of_decide_eq_true hc
      refine ⟨fun o ho => by subst ho; exact St.refl _, fun ρ w us hargs hH hd hj => ?_⟩
      obtain ⟨u1, u2, u3, rfl, ⟨rfl, h1⟩, ⟨rfl, h2⟩, ⟨rfl, h3⟩⟩ := all2_three hargs
      have h1' := litOK_u64 h1
      have h2' := litOK_u64 h2
      have h3' : 0 ≤ c := (litOK_u64 h3).1
      rw [run_callFunc_extern hf hname hb hn he, run_add64 x y c (by omega) (by omega) (by omega) hc]
      refine ⟨_, rfl, ρ, ⟨_, rfl, ⟨rfl, ?_⟩, ⟨rfl, ?_⟩, trivial⟩, Sim.refl hH hd⟩
      · show (decide ((0 : Int) ≤ (x + y + c) % 18446744073709551616) && decide ((x + y + c) % 18446744073709551616 ≤ (18446744073709551615 : Int))) = true
        rw [Bool.and_eq_true, decide_eq_true_eq, decide_eq_true_eq]
        omega
      · show (decide ((0 : Int) ≤ (x + y + c) / 18446744073709551616) && decide ((x + y + c) / 18446744073709551616 ≤ (18446744073709551615 : Int))) = true
        rw [Bool.and_eq_true, decide_eq_true_eq, decide_eq_true_eq]
        omega
    · cases h
  · cases h

noncomputable def sub64O : List AV → HP → R := fun args H => match args with
  | [.one (.lit (.int .u64 x)), .one (.lit (.int .u64 y)), .one (.lit (.int .u64 c))] =>
    match decide (c ≤ 1) with
    | true => some (.tup [(false, [.lit (.int .u64 ((x - y - c) % 18446744073709551616))]), (false, [.lit (.int .u64 (bif decide (x < y + c) then 1 else 0))])], H)
    | false => none
  | _ => none

def sub64E : Array Value → Sem Value := fun args => do
  let (x, y, b) ← Extern.MathBitsCarry.three "Sub64" args
  pure (Extern.MathBitsCarry.pair ((x + Extern.MathBitsCarry.m64 - y - b) % Extern.MathBitsCarry.m64) (if x < y + b then 1 else 0))

theorem run_sub64E (x y b : Nat) (hb : b ≤ 1) (w : World) :
    (sub64E #[.int .u64 x, .int .u64 y, .int .u64 b]).run P w =
      .ok (.tuple #[.int .u64 (((x + 18446744073709551616 - y - b) % 18446744073709551616 : Nat) : Int), .int .u64 ((if x < y + b then 1 else 0 : Nat) : Int)]) w := by
  have : b = 0 ∨ b = 1 := by omega
  rcases this with rfl | rfl <;> rfl

theorem sub64_ok {f : FuncId} {fn : Func} (hf : P.funcs[f]? = some fn) (hname : (fn.name == "runtime.NumGoroutine") = false) (hb : fn.body.isNone = true) (hn : Extern.findNext fn = none) (he : Extern.find fn = some sub64E) : FnOK P f sub64O := by
  intro args H v H' h
  unfold sub64O at h
  split at h
  · rename_i x y c
    split at h
    · rename_i hc
      cases h
      have hc := of_decide_eq_true hc
      refine ⟨fun o ho => by subst ho; exact St.refl _, fun ρ w us hargs hH hd hj => ?_⟩
      obtain ⟨u1, u2, u3, rfl, ⟨rfl, h1⟩, ⟨rfl, h2⟩, ⟨rfl, h3⟩⟩ := all2_three hargs
      have h1' := litOK_u64 h1
      have h2' := litOK_u64 h2
      have h3' : 0 ≤ c := (litOK_u64 h3).1
      obtain ⟨X, rfl⟩ := Int.eq_ofNat_of_zero_le h1'.1
      obtain ⟨Y, rfl⟩ := Int.eq_ofNat_of_zero_le h2'.1
      obtain ⟨C, rfl⟩ := Int.eq_ofNat_of_zero_le h3'
      rw [run_callFunc_extern hf hname hb hn he, run_sub64E X Y C (by omega)]
      have e1 : (((X + 18446744073709551616 - Y - C) % 18446744073709551616 : Nat) : Int) = ((X : Int) - Y - C) % 18446744073709551616 := by
        rcases Nat.lt_or_ge X (Y + C) with hlt | hge
        · have : X + 18446744073709551616 - Y - C = 18446744073709551616 - (Y + C - X) := by omega
          omega
        · omega
      have e2 : (((if X < Y + C then 1 else 0 : Nat)) : Int) = bif decide ((X : Int) < Y + C) then 1 else 0 := by
        by_cases hlt : X < Y + C
        · have h' : (X : Int) < Y + C := by omega
          simp [hlt, h']
        · have h' : ¬ (X : Int) < Y + C := by omega
          simp [hlt, h']
      rw [e1, e2]
      refine ⟨_, rfl, ρ, ⟨_, rfl, ⟨rfl, ?_⟩, ⟨rfl, ?_⟩, trivial⟩, Sim.refl hH hd⟩
      · show (decide ((0 : Int) ≤ ((X : Int) - Y - C) % 18446744073709551616) && decide (((X : Int) - Y - C) % 18446744073709551616 ≤ (18446744073709551615 : Int))) = true
        rw [Bool.and_eq_true, decide_eq_true_eq, decide_eq_true_eq]
        omega
      · cases decide ((X : Int) < Y + C) <;> decide
    · cases h
  · cases h
end Go.Fv

namespace Go.Proofs.YtdkoockhfmbcaaaGreatDoor
open Go.Fv Go.Proofs
theorem compare270 : FnOK Tryz.prog 270 compareO := compare_ok Tryz.func270 (by kernel_rfl) (by kernel_rfl) (by kernel_rfl) (by kernel_rfl)
theorem overlaps322 : FnOKM Tryz.prog 322 overlapsO := overlaps_ok (ps := Tryz.f322.params) (rs := Tryz.f322.resultTypes) (t := 296) (e := 288) (ag := true) (size := 5) Tryz.func322 (by kernel_rfl) (by kernel_rfl) (by kernel_rfl) (by kernel_rfl) (by kernel_rfl) Tryz.underlying296 (by kernel_rfl)
theorem overlaps366 : FnOKM Tryz.prog 366 overlapsO := overlaps_ok (ps := Tryz.f366.params) (rs := Tryz.f366.resultTypes) (t := 121) (e := 125) (ag := true) (size := 3) Tryz.func366 (by kernel_rfl) (by kernel_rfl) (by kernel_rfl) (by kernel_rfl) (by kernel_rfl) Tryz.underlying121 (by kernel_rfl)
theorem add264 : FnOK Tryz.prog 264 add64O := add64_ok Tryz.func264 (by kernel_rfl) (by kernel_rfl) (by kernel_rfl) (by kernel_rfl)
theorem sub215 : FnOK Tryz.prog 215 sub64O := sub64_ok Tryz.func215 (by kernel_rfl) (by kernel_rfl) (by kernel_rfl) (by kernel_rfl)
noncomputable section
def base0 : OraM := baseM [(270, fun args H => single (compareO args H)), (322, overlapsO), (366, overlapsO)]
theorem base0_ok : OraMOK Tryz.prog base0 := baseM_ok fun p hp => by
  rcases List.mem_cons.1 hp with rfl | hp
  · exact compare270.many
  · rcases List.mem_cons.1 hp with rfl | hp
    · exact overlaps322
    · rcases List.mem_cons.1 hp with rfl | hp
      · exact overlaps366
      · cases hp
def ora0 : OraM := oraN Tryz.prog (treeT tbl) base0 1000 10
/-- The cells of a set of blocks. -/
def ksSet : List IntKind := [.i64, .u64, .u64, .u64, .u64, .u64, .u64, .u64, .u64, .u64, .u64, .u64, .u64, .u64, .u64, .u64, .u64]
end
end Go.Proofs.YtdkoockhfmbcaaaGreatDoor
