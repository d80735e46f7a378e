/-
  Contracts of a seat's functions: bytes of a word, by the program. Conditions: none.
-/
import Derived.Test.YtamhchkknlbanaaDoorSzE
set_option linter.unusedSectionVars false
set_option linter.unusedVariables false
set_option linter.unusedSimpArgs false
namespace Go.Proofs.YtamhchkknlbanaaDoor.Be
open Go.Sx Go.Proofs Go.RowKit Go.Lib
theorem avx {w w' : World} (h : Below w.heap.size w w') : Keep w w' := ⟨h.block, h.size, h.os, h.tape, h.output⟩
theorem aaq.calls {P : Program} {U : Us} {f : FuncId} {S : Fsp} (hc : ∀ us w, (callFunc f us).run P w = .ok (.enter f us) w)
  (h : ∀ (v : Nat → CD) (m : Mem) (w : World) (us : List Value), TW w → (∀ k o, m k o → w.heap[k]? = some o) → aha m S.args ((arw 0 S.args).map (@denL ⟨v⟩)) us → @Holds (@Sg.mk U v) S.pre →
   Calls P f us.toArray w fun e w' => ∃ u, e = .returned u ∧ Keep w w' ∧ ∃ o ∈ S.outs, @Holds (@Sg.mk U v) o.1 ∧ ResR (fun k ob => (w.heap.size ≤ k ∧ w'.heap[k]? = some ob ∧ Nice ob) ∨ (S.fresh = false ∧ m k ob)) S.res (o.2.map (@denL (@Sg.mk U v))) u) : aaq U P f S := by
 intro σ hU m w us htw hm hargs hpre
 obtain ⟨v⟩ := σ
 cases hU
 rw [hc]
 have := h v m w us.toList htw hm hargs hpre
 rw [Array.toArray_toList] at this
 exact this
theorem by_v (s : ByteArray) : by' (.v (.string s)) = s.data.toList := by
 show s.toList = _
 rw [ByteArray.toList_eq]
theorem holds_nil (v : Nat → CD) : @Holds (@Sg.mk U v) [] := fun x hx => by cases hx
theorem bcs {m : Mem} {k : IntKind} {z : Int} (h : abh (.int k z) = true) : RS m (.int k) (vInt k z) (.int k z) := ⟨z, rfl, rfl, h⟩
theorem bfg {m : Mem} {b : Bool} : RS m .bool (aaf b) (.bool b) := ⟨b, rfl, rfl⟩
noncomputable def bki : Fsp := ⟨[(false, [.str])], [.ap .le [.ap .slen [.var 0], I 2500]], [(false, [sI]), (false, [.bool])], [([], [[.ap (.usr 250) [.var 0]], [.ap (.usr 202) [.var 0]]])], true⟩
theorem a7x : ∀ {l : List UInt8}, -9223372036854775808 ≤ afh l ∧ afh l ≤ 9223372036854775807 := by
 intro l
 unfold afh
 split
 ·rename_i v hv
  unfold Lib.atoiAll at hv
  cases l with
  | nil => cases hv
  | cons c r =>
   simp only at hv
   split at hv
   ·cases hv
   ·cases hv
   ·rename_i u hu
    split at hv
    ·cases hv
    ·split at hv
     ·cases hv
     ·cases hv
      split <;> omega
 ·omega
 ·unfold Lib.atoiSat
  split <;> omega
theorem bb6 {s : ByteArray} {d : CD} {v : Nat → CD} (e : v 0 = .v (.string s)) (hs : s.size ≤ maxN) (h : @Holds (@Sg.mk U v) [.ap .le [.ap .slen [.var 0], I 2500]]) : s.size ≤ 2500 := by
 have := h _ (List.mem_singleton.2 rfl)
 have : decide (((v 0).slen : Int) ≤ 2500) = true := this
 rw [decide_eq_true_eq, e] at this
 have : ((clip s.size : Nat) : Int) ≤ 2500 := this
 rw [afo hs] at this
 omega
set_option maxRecDepth 100000 in
theorem c44 : aaq U Tryd.prog 44 bki := by
 refine aaq.calls Tryd.call44 fun v m w us htw hm hargs hpre => ?_
 match us, hargs with
 | [u], ⟨h1, _⟩ =>
  obtain ⟨s, e1, rfl, h3⟩ : RS m .str (v 0) u := h1
  have hs := bb6 (d := default) e1 h3 hpre
  refine (avc s (by omega) w htw).mono ?_
  rintro e w' ⟨rfl, hb⟩
  refine ⟨_, rfl, avx hb, _, List.mem_singleton.2 rfl, holds_nil v, [.int .i64 (afh s.data.toList), .bool (nOk s.data.toList)], ⟨?_, ?_, trivial⟩, rfl⟩
  ·show RS m sI (vInt .i64 (afh (by' (v 0)))) _
   rw [e1, by_v]
   refine bcs (m := m) ?_
   simp only [abh, Bool.and_eq_true, decide_eq_true_eq]
   exact a7x
  ·show RS m .bool (aaf (nOk (by' (v 0)))) _
   rw [e1, by_v]
   exact bfg (m := m)
noncomputable def SIdx : Fsp := ⟨[(false, [.str]), (false, [.int .u8])], [], [(false, [sI])], [([], [[.ap (.usr 255) [.var 0, .var 1]]])], true⟩
theorem a4x (l : List UInt8) (c : UInt8) : -1 ≤ Lib.indexByte l c ∧ Lib.indexByte l c ≤ l.length := by
 induction l with
 | nil => exact ⟨Int.le_refl _, by show (-1 : Int) ≤ 0; decide⟩
 | cons b l ih =>
  unfold Lib.indexByte
  rw [List.length_cons]
  split
  ·omega
  ·split <;> omega
set_option maxRecDepth 100000 in
theorem c47 : aaq U Tryd.prog 47 SIdx := by
 refine aaq.calls Tryd.call47 fun v m w us htw hm hargs hpre => ?_
 match us, hargs with
 | [u, u'], ⟨h1, h2, _⟩ =>
  obtain ⟨s, e1, rfl, h3⟩ : RS m .str (v 0) u := h1
  obtain ⟨n, e2, rfl, h4⟩ : RS m (.int .u8) (v 1) u' := h2
  have hs : s.size ≤ 9223372036854775807 := h3
  refine (Any.strings_IndexByte Tryd.lays137 s n w).mono ?_
  rintro e w' ⟨rfl, rfl⟩
  refine ⟨_, rfl, avx (Below.refl _ _), _, List.mem_singleton.2 rfl, holds_nil v, [_], ⟨?_, trivial⟩, rfl⟩
  show RS m sI (vInt .i64 (Lib.indexByte (by' (v 0)) (v 1).iv.toNat.toUInt8)) _
  rw [e1, e2, by_v]
  refine bcs (m := m) ?_
  have := a4x s.data.toList n.toNat.toUInt8
  have hl : s.data.toList.length = s.size := rfl
  rw [aa4]
  generalize Lib.indexByte s.data.toList n.toNat.toUInt8 = q at this ⊢
  simp only [abh, Bool.and_eq_true, decide_eq_true_eq]
  show -9223372036854775808 ≤ q ∧ q ≤ (9223372036854775807 : Int)
  omega
noncomputable def bcq : Fsp := ⟨[(false, [.str]), (false, [.str])], [.ap .le [.ap .slen [.var 0], I 2500], .ap .same [.var 1, .lit (.string ⟨⟨[32]⟩⟩)]], [(false, [.sl [.str]])], [([], [[.ap (.usr 252) [.var 0]]])], true⟩
theorem az5 {v : Nat → CD} {l : List X} {a b : X} (h : @Holds (@Sg.mk U v) l) (hm : .ap .same [a, b] ∈ l) : @den (@Sg.mk U v) a = @den (@Sg.mk U v) b := by
 have : (@den (@Sg.mk U v) (.ap .same [a, b])).bv = true := h _ hm
 rwa [@aao (@Sg.mk U v)] at this
theorem baf {v : Nat → CD} {l : List X} {a b : X} (h : @Holds (@Sg.mk U v) l) (hm : .ap .le [a, b] ∈ l) : (@den (@Sg.mk U v) a).iv ≤ (@den (@Sg.mk U v) b).iv := by
 have : (@den (@Sg.mk U v) (.ap .le [a, b])).bv = true := h _ hm
 rwa [@b_le (@Sg.mk U v)] at this
theorem al5 {s : ByteArray} {d : CD} (e : d = .v (.string s)) (hs : s.size ≤ maxN) : (d.slen : Int) = s.size := by
 rw [e]
 show ((clip s.size : Nat) : Int) = s.size
 rw [afo hs]
theorem a07 (l : List ByteArray) (t : TypeId) : Nice (.cells (l.map Value.string).toArray t (0, 0)) := by
 refine ⟨_, _, _, rfl, ?_, false, fun j u hu => ?_⟩
 ·exact .inl rfl
 ·have hu : (l.map Value.string)[j]? = some u := by simpa using hu
  rw [List.getElem?_map] at hu
  cases hl : l[j]? with
  | none => rw [hl] at hu; cases hu
  | some s => rw [hl] at hu; cases hu; rfl
set_option maxRecDepth 100000 in
theorem c40 : aaq U Tryd.prog 40 bcq := by
 refine aaq.calls Tryd.call40 fun v m w us htw hm hargs hpre => ?_
 match us, hargs with
 | [u, u'], ⟨h1, h2, _⟩ =>
  obtain ⟨s, e1, rfl, h3⟩ : RS m .str (v 0) u := h1
  obtain ⟨s', e2, rfl, h4⟩ : RS m .str (v 1) u' := h2
  have hs : ((v 0).slen : Int) ≤ 2500 := baf hpre (List.mem_cons_self ..)
  rw [al5 e1 h3] at hs
  have he : v 1 = .v (.string ⟨⟨[32]⟩⟩) := az5 hpre (List.mem_cons_of_mem _ (List.mem_singleton.2 rfl))
  rw [he] at e2
  cases e2
  obtain ⟨mx, hmx⟩ := bh2 htw
  refine (Any.strings_Split Tryd.lays146 (by kernel_rfl) s ⟨⟨[32]⟩⟩ mx w (by omega) hmx (by decide)).mono ?_
  rintro e w' ⟨rfl, rfl⟩
  have hw := avm s
  refine ⟨_, rfl, avx ((Below.refl _ w).alloc (Nat.le_refl _) _), _, List.mem_singleton.2 rfl, holds_nil v, [_], ⟨?_, trivial⟩, rfl⟩
  generalize hbs : Lib.splitB (ByteArray.mk ⟨[32]⟩) 0 (Lib.countB s (ByteArray.mk ⟨[32]⟩)) s = bs at hw ⊢
  have hbl : bs.length = Lib.countB s (ByteArray.mk ⟨[32]⟩) + 1 := by rw [← hbs]; exact Lib.splitB_all _ (by decide) 0 _ s rfl
  have hcl : Lib.countB s (ByteArray.mk ⟨[32]⟩) ≤ s.size := Lib.countB_le _ (by decide) s.size s (Nat.le_refl _)
  have hrows : aas (line (v 0)) = bs.map fun b => [CD.v (.string b)] := by
   have hln : line (v 0) = s.data.toList ++ [32] := by rw [e1]; unfold line; rw [by_v]
   have hws : (st (line (v 0))).1 = bs.map fun b => b.data.toList := by rw [hln, hw]
   unfold aas
   rw [hws, List.map_map]
   refine List.map_congr_left fun b _ => ?_
   rfl
  have e : @denL (@Sg.mk U v) [X.ap (Fs.usr 252) [X.var 0]] = [CD.sl false (aas (line (v 0)))] := rfl
  rw [e, hrows]
  refine .inr (.inl ⟨bs.map fun b => [CD.v (.string b)], w.heap.size, 0, _, rfl, by rw [List.length_map, hbl], by rw [List.length_map, hbl]; exact Nat.le_refl _, by unfold maxN; omega, fun _ => ⟨(bs.map Value.string).toArray, Tryd.lays146_ren.t 9, (0, 0), .inl ⟨Nat.le_refl _, ?_, a07 bs _⟩, fun i row hi => ?_⟩⟩)
  ·show (w.heap.push _)[w.heap.size]? = _
   simp
  ·rw [List.getElem?_map] at hi
   cases hb : bs[i]? with
   | none => rw [hb] at hi; cases hi
   | some b =>
    rw [hb] at hi
    cases hi
    have hsz : b.size ≤ maxN := by
     have hm : b.data.toList ∈ (st (line (v 0))).1 := by
      have hln : line (v 0) = s.data.toList ++ [32] := by rw [e1]; unfold line; rw [by_v]
      rw [hln, ← hw]
      exact List.mem_map.2 ⟨b, List.mem_of_getElem? hb, rfl⟩
     have := (a1q (line (v 0)) ([], []) 0 (fun w hw => by cases hw) (Nat.le_refl 0)).1 _ hm
     have hln : (line (v 0)).length = s.size + 1 := by
      rw [e1]; unfold line; rw [by_v, List.length_append]; rfl
     have hbz : b.data.toList.length = b.size := rfl
     unfold maxN
     omega
    refine ⟨_, [], .string b, rfl, ?_, ⟨b, rfl, rfl, hsz⟩, rfl⟩
    simp [hb]
def badR (r : Nat) : Bool := decide (r < 33) || decide (126 < r)
theorem bei (s : ByteArray) (p : Nat) (hp : p < s.size) : (badR (Utf8.decode s p).1 = badB (s.get! p)) ∧ (badB (s.get! p) = false → (Utf8.decode s p).2 = 1) := by
 have hbig : ∀ r : Nat, 128 ≤ r → badR r = true := fun r hr => by
  unfold badR
  rw [decide_eq_true (show 126 < r by omega)]
  simp
 unfold Utf8.decode
 simp only [Nat.add_zero]
 by_cases h : (s.get! p).toNat < 128
 ·rw [if_pos h]
  exact ⟨rfl, fun _ => rfl⟩
 ·rw [if_neg h]
  have hb : badB (s.get! p) = true := by
   unfold badB
   rw [decide_eq_true (show 126 < (s.get! p).toNat by omega)]
   simp
  rw [hb]
  refine ⟨?_, fun hh => by cases hh⟩
  repeat' split
  all_goals first | exact hbig _ (by decide) | (rename_i hc; refine hbig _ ?_; first | omega | (simp only [ge_iff_le, Bool.and_eq_true, decide_eq_true_eq] at hc; omega))
theorem ayr (s : ByteArray) : ∀ (f p : Nat), s.size ≤ p + f → ((0 ≤ Lib.idxFuncFrom badR true s f p) ↔ ∃ j, p ≤ j ∧ j < s.size ∧ badB (s.get! j) = true)
 | 0, p, h => by
  show (0 : Int) ≤ -1 ↔ _
  exact ⟨fun h => by omega, fun ⟨j, h1, h2, _⟩ => by omega⟩
 | f + 1, p, h => by
  unfold Lib.idxFuncFrom
  by_cases hp : p < s.size
  ·rw [if_pos hp]
   obtain ⟨h1, h2⟩ := bei s p hp
   rw [h1]
   by_cases hb : badB (s.get! p) = true
   ·rw [if_pos hb]
    exact ⟨fun _ => ⟨p, Nat.le_refl _, hp, hb⟩, fun _ => by omega⟩
   ·rw [if_neg hb]
    rw [h2 (by simpa using hb)]
    rw [ayr s f (p + 1) (by omega)]
    constructor
    ·rintro ⟨j, a, b, c⟩
     exact ⟨j, by omega, b, c⟩
    ·rintro ⟨j, a, b, c⟩
     refine ⟨j, ?_, b, c⟩
     rcases Nat.lt_or_ge p j with g | g
     ·exact g
     ·have : j = p := by omega
      subst this
      exact absurd c hb
  ·rw [if_neg hp]
   exact ⟨fun h => by omega, fun ⟨j, a, b, _⟩ => by omega⟩
theorem bev (s : ByteArray) : decide (0 ≤ Lib.idxFunc badR true s) = s.data.toList.any badB := by
 rw [Bool.eq_iff_iff, decide_eq_true_eq]
 unfold Lib.idxFunc
 rw [ayr s s.size 0 (by omega), List.any_eq_true]
 constructor
 ·rintro ⟨j, _, h2, h3⟩
  have hj : j < s.data.toList.length := h2
  refine ⟨s.data.toList[j], List.getElem_mem hj, ?_⟩
  have : s.get! j = s.data.toList[j] := by
   show s.data[j]! = _
   rw [getElem!_pos s.data j h2]
   simp
  rwa [← this]
 ·rintro ⟨b, hb, h3⟩
  obtain ⟨j, hj, rfl⟩ := List.getElem_of_mem hb
  refine ⟨j, Nat.zero_le _, hj, ?_⟩
  have : s.get! j = s.data.toList[j] := by
   show s.data[j]! = _
   rw [getElem!_pos s.data j hj]
   simp
  rwa [this]
set_option maxRecDepth 100000 in
theorem bgk (w : World) : PredAt Tryd.prog 42 #[] encR badR w := fun W r _ => by
 unfold FnGives
 by_cases h1 : r < 33 <;> by_cases h2 : 126 < r
 all_goals
  have z1 : (r : Int) < 33 ↔ r < 33 := by omega
  have z2 : 126 < (r : Int) ↔ 126 < r := by omega
  go_enter Tryd.func42, Tryd.ntmps42
  go_wp2
  all_goals first | (exfalso; omega) | (go_ret; exact ⟨by simp [h1, h2, badR], 0, rfl⟩)
theorem aon (s : ByteArray) (w : World) : Calls Tryd.prog 41 #[.string s, .func (.func 42) #[] #[]] w fun e w' => e = .returned (.bool (s.data.toList.any badB)) ∧ Below w.heap.size w w' := by
 rw [← bev]
 exact Any.strings_ContainsFunc Tryd.laysGw17 42 #[] Tryd.call42 badR s w (bgk w)
end Go.Proofs.YtamhchkknlbanaaDoor.Be

namespace Go.Proofs.YtamhchkknlbanaaDoor.Be
open Go.Sx Go.Proofs
noncomputable def bbu : OraV := fun t args H => match t, args with
 | .f g, [.one c, .one (.lit (.func (.func k) a b))] => match Nat.beq g 41 && (Nat.beq k 42 && (Nat.beq a.size 0 && Nat.beq b.size 0)), toS .str c with
  | true, some (e, _) => some ([], [(.one (.sv .bool [] (.ap (.usr 254) [e])), H)])
  | _, _ => none
 | _, _ => none
set_option maxRecDepth 100000 in
theorem bbx : aeh U Tryd.prog bbu := by
 intro t args H v outs h _
 unfold bbu at h
 split at h
 rotate_left
 ·cases h
 rename_i g c k a b
 split at h
 rotate_left
 ·cases h
 rename_i e G hb hs
 cases h
 simp only [Bool.and_eq_true] at hb
 obtain ⟨q1, q2, q3, q4⟩ := hb
 have q1 := Nat.eq_of_beq_eq_true q1
 have q2 := Nat.eq_of_beq_eq_true q2
 have q3 : a = #[] := Array.eq_empty_of_size_eq_zero (Nat.eq_of_beq_eq_true q3)
 have q4 : b = #[] := Array.eq_empty_of_size_eq_zero (Nat.eq_of_beq_eq_true q4)
 subst q1 q2 q3 q4
 refine ⟨fun o ho => ?_, fun σ hU ρ w us s' hs' hus hH hd hj => ?_⟩
 ·rw [List.mem_singleton.1 ho]
  exact @Sc.refl (@Sg.mk U fun _ => default) H
 ·have hs' : s' = callFunc 41 us := hs'
  subst hs'
  obtain ⟨u1, u2, hus', k1, k2⟩ : ∃ u1 u2, us = #[u1, u2] ∧ @CRel σ ρ c u1 ∧ u2 = .func (.func 42) #[] #[] := by
   match hl : us.toList, hus with
   | [u1, u2], ⟨h1, h2, _⟩ => exact ⟨u1, u2, by rw [← Array.toList_inj, hl], h1, h2.1⟩
  subst hus'
  subst k2
  obtain ⟨_, hr⟩ := @ao3 σ ρ _ _ _ _ _ hs k1
  obtain ⟨s, e1, rfl, h3⟩ := hr
  rw [Tryd.call41]
  show Calls Tryd.prog 41 #[.string s, .func (.func 42) #[] #[]] w _
  refine (aon s w).mono ?_
  rintro e' w' ⟨rfl, hb⟩
  have hsim := Sim.still (@Sim.refl σ _ _ _ hH hd) hb.block hb.size hb.os hb.tape hb.output hd fun b L ⟨i, c, hc⟩ hL => (@HRel.rel σ _ _ _ hH b i c L hc hL).lt
  refine ⟨_, rfl, _, List.mem_singleton.2 rfl, σ, Ext.refl _ _, ρ, ⟨fun g hg => (by cases hg), ?_⟩, @Sim.f σ _ _ _ _ _ _ hsim, @Sim.rel σ _ _ _ _ _ _ hsim⟩
  show @RS _ .bool (@Us.u σ.toUs 254 [@den σ e]) _
  rw [hU, e1, bgq, by_v]
  exact ⟨_, rfl, rfl⟩
theorem bka {b : UInt8} (hb : b.toNat ≠ 32) : ∀ (l : List UInt8) (s : List (List UInt8) × List UInt8), (b ∈ l ∨ b ∈ s.2 ∨ ∃ w ∈ s.1, b ∈ w) → b ∈ (l.foldl stp s).2 ∨ ∃ w ∈ (l.foldl stp s).1, b ∈ w
 | [], s, h => by
  rcases h with h | h
  ·cases h
  ·exact h
 | c :: l, s, h => by
  refine bka hb l (stp s c) ?_
  unfold stp
  rcases h with h | h | ⟨w, h1, h2⟩
  ·rcases List.mem_cons.1 h with rfl | h
   ·rw [if_neg hb]
    exact .inr (.inl (by simp))
   ·exact .inl h
  ·split
   ·exact .inr (.inr ⟨s.2, by simp, h⟩)
   ·exact .inr (.inl (List.mem_append_left _ h))
  ·split
   ·exact .inr (.inr ⟨w, List.mem_append_left _ h1, h2⟩)
   ·exact .inr (.inr ⟨w, h1, h2⟩)
theorem bic {b : UInt8} : ∀ (l : List UInt8) (s : List (List UInt8) × List UInt8), (b ∈ (l.foldl stp s).2 ∨ ∃ w ∈ (l.foldl stp s).1, b ∈ w) → (b ∈ l ∧ b.toNat ≠ 32) ∨ b ∈ s.2 ∨ ∃ w ∈ s.1, b ∈ w
 | [], s, h => .inr h
 | c :: l, s, h => by
  rcases bic l (stp s c) h with h | h
  ·exact .inl ⟨List.mem_cons_of_mem _ h.1, h.2⟩
  ·unfold stp at h
   split at h
   ·rcases h with h | ⟨w, h1, h2⟩
    ·cases h
    ·rcases List.mem_append.1 h1 with h1 | h1
     ·exact .inr (.inr ⟨w, h1, h2⟩)
     ·rw [List.mem_singleton.1 h1] at h2
      exact .inr (.inl h2)
   ·rename_i hc
    rcases h with h | h
    ·rcases List.mem_append.1 h with h | h
     ·exact .inr (.inl h)
     ·rw [List.mem_singleton.1 h]
      exact .inl ⟨List.mem_cons_self .., hc⟩
    ·exact .inr (.inr h)
theorem bk0 {l : List UInt8} {w : List UInt8} {b : UInt8} (hw : w ∈ (st l).1) (hb : b ∈ w) : b ∈ l ∧ b.toNat ≠ 32 := by
 rcases bic l ([], []) (.inr ⟨w, hw, hb⟩) with h | h | ⟨w, h1, _⟩
 ·exact h
 ·cases h
 ·cases h1
theorem a7d {b : UInt8} (h : badB b = true) (hn : b.toNat ≠ 32) : okB b = false := by
 unfold badB at h
 rw [Bool.or_eq_true, decide_eq_true_eq, decide_eq_true_eq] at h
 unfold okB
 rw [decide_eq_false hn, Bool.false_or, Bool.and_eq_false_iff, decide_eq_false_iff_not, decide_eq_false_iff_not]
 omega
theorem azs {l : List UInt8} {b : UInt8} (hb : b ∈ l) (h : okB b = false) : okW l = false := by
 unfold okW
 rw [Bool.and_eq_false_iff]
 left
 rw [List.all_eq_false]
 exact ⟨b, hb, by rw [h]; simp⟩
theorem ab8 {d : CD} (i : Int) : by' ((CD.sl false (aas (line d))).cell i 0) = gw (wds d) i.toNat := atu i
theorem aup {d : CD} (hT : Typ (.sl [.str]) (CD.sl false (aas (line d)))) : ((CD.sl false (aas (line d))).len : Int) = (wds d).length := by
 rw [hT.sl.1]
 show (((wds d).map aiv).length : Int) = _
 rw [List.length_map]
theorem a5s {W : List (List UInt8)} {i : Nat} (h : i < W.length) : gw W i ∈ W := by
 unfold gw
 rw [List.getD_eq_getElem?_getD, List.getElem?_eq_getElem h]
 exact List.getElem_mem h
theorem g_0 {W : List (List UInt8)} : (W.take (Int.toNat 0)).all aoh = true := rfl
theorem g_n {d : CD} {i : Int} (hg : ((st (line d)).1.take i.toNat).all aoh = true) (h1 : ¬ eqC ((CD.sl false (aas (line d))).cell i 0) (.v (.string ⟨⟨[]⟩⟩)) = true) (h2 : ¬ (by' ((CD.sl false (aas (line d))).cell i 0)).any badB = true) (h0 : 0 ≤ i) (hi : i < ((CD.sl false (aas (line d))).len : Int)) (hT : Typ (.sl [.str]) (CD.sl false (aas (line d)))) : ((st (line d)).1.take (i + 1).toNat).all aoh = true := by
 have hc : Typ .str ((CD.sl false (aas (line d))).cell i 0) := hT.cell h0 hi rfl
 rw [asb hc, ab8] at h1
 rw [ab8] at h2
 rw [aup hT] at hi
 have hlt : i.toNat < (wds d).length := by omega
 rw [show (i + 1).toNat = i.toNat + 1 by omega, List.take_add_one, List.all_append, hg]
 have e : (st (line d)).1[i.toNat]? = some (gw (wds d) i.toNat) := by
  unfold gw
  rw [List.getD_eq_getElem?_getD, List.getElem?_eq_getElem hlt]
  exact List.getElem?_eq_getElem hlt
 rw [e]
 have : aoh (gw (wds d) i.toNat) = true := by
  unfold aoh
  rw [Bool.and_eq_true, Bool.not_eq_true', Bool.not_eq_true']
  refine ⟨?_, by simpa using h2⟩
  cases hh : gw (wds d) i.toNat with
  | nil => exact absurd hh h1
  | cons a r => rfl
 simp [this]
theorem b_1 {d : CD} {i : Int} (h1 : eqC ((CD.sl false (aas (line d))).cell i 0) (.v (.string ⟨⟨[]⟩⟩)) = true) (h0 : 0 ≤ i) (hi : i < ((CD.sl false (aas (line d))).len : Int)) (hT : Typ (.sl [.str]) (CD.sl false (aas (line d)))) : ¬ okW (line d) = true := by
 have hc : Typ .str ((CD.sl false (aas (line d))).cell i 0) := hT.cell h0 hi rfl
 rw [asb hc, ab8] at h1
 rw [aup hT] at hi
 intro hk
 unfold okW at hk
 rw [Bool.and_eq_true] at hk
 have := List.all_eq_true.1 hk.2 _ (a5s (W := wds d) (i := i.toNat) (by omega))
 rw [h1] at this
 cases this
theorem b_2 {d : CD} {i : Int} (h2 : (by' ((CD.sl false (aas (line d))).cell i 0)).any badB = true) (h0 : 0 ≤ i) (hi : i < ((CD.sl false (aas (line d))).len : Int)) (hT : Typ (.sl [.str]) (CD.sl false (aas (line d)))) : ¬ okW (line d) = true := by
 rw [ab8] at h2
 rw [aup hT] at hi
 rw [List.any_eq_true] at h2
 obtain ⟨b, hb, hbad⟩ := h2
 obtain ⟨g1, g2⟩ := bk0 (l := line d) (a5s (W := wds d) (i := i.toNat) (by omega)) hb
 rw [azs g1 (a7d hbad g2)]
 simp
theorem b_3 {d : CD} {i : Int} (h : 126 < byAt d i) (h0 : 0 ≤ i) (hi : i < d.slen) (hT : Typ .str d) : ¬ okW (line d) = true := by
 rw [abf hT] at hi
 have hlt : i.toNat < (by' d).length := by omega
 unfold byAt at h
 have hm : (by' d).getD i.toNat 0 ∈ line d := by
  unfold line
  refine List.mem_append_left _ ?_
  rw [List.getD_eq_getElem?_getD, List.getElem?_eq_getElem hlt]
  exact List.getElem_mem hlt
 have hb : okB ((by' d).getD i.toNat 0) = false := by
  refine a7d ?_ (by omega)
  unfold badB
  rw [decide_eq_true (show 126 < ((by' d).getD i.toNat 0).toNat by omega)]
  simp
 rw [azs hm hb]
 simp
theorem n_0 {l : List UInt8} : (l.take (Int.toNat 0)).all (fun b => decide (b.toNat ≤ 126)) = true := rfl
theorem n_n {d : CD} {i : Int} (hg : ((by' d).take i.toNat).all (fun b => decide (b.toNat ≤ 126)) = true) (h : ¬ 126 < byAt d i) (h0 : 0 ≤ i) (hi : i < d.slen) (hT : Typ .str d) : ((by' d).take (i + 1).toNat).all (fun b => decide (b.toNat ≤ 126)) = true := by
 unfold byAt at h
 rw [ajt h0 hi hT, List.all_append, hg, List.all_cons, List.all_nil, decide_eq_true (show ((by' d).getD i.toNat 0).toNat ≤ 126 by omega)]
 rfl
theorem bk7 {d : CD} {i j : Int} (hg : ((st (line d)).1.take i.toNat).all aoh = true) (hi : ¬ i < ((CD.sl false (aas (line d))).len : Int)) (hn : ((by' d).take j.toNat).all (fun b => decide (b.toNat ≤ 126)) = true) (hj : ¬ j < d.slen) (hT : Typ (.sl [.str]) (CD.sl false (aas (line d)))) (hTd : Typ .str d) : okW (line d) = true := by
 rw [aup hT] at hi
 have e1 : (st (line d)).1.take i.toNat = (st (line d)).1 := List.take_of_length_le (by unfold wds at hi; omega)
 rw [e1, List.all_eq_true] at hg
 rw [aq9 hj hTd, List.all_eq_true] at hn
 unfold okW
 rw [Bool.and_eq_true, List.all_eq_true, List.all_eq_true]
 refine ⟨fun b hb => ?_, fun w hw => ?_⟩
 ·by_cases h32 : b.toNat = 32
  ·unfold okB
   rw [decide_eq_true h32]
   simp
  ·rcases bka h32 (line d) ([], []) (.inl hb) with h | ⟨w, h1, h2⟩
   ·exfalso
    unfold line at h
    rw [List.foldl_append] at h
    have : (stp ((by' d).foldl stp ([], [])) 32).2 = [] := by
     unfold stp
     rw [if_pos (by decide)]
    rw [show ([32] : List UInt8).foldl stp ((by' d).foldl stp ([], [])) = stp ((by' d).foldl stp ([], [])) 32 from rfl, this] at h
    cases h
   ·have := hg w h1
    unfold aoh at this
    rw [Bool.and_eq_true, Bool.not_eq_true', Bool.not_eq_true', List.any_eq_false] at this
    have hb' := this.2 b h2
    unfold badB at hb'
    rw [Bool.or_eq_true, decide_eq_true_eq, decide_eq_true_eq] at hb'
    unfold okB
    simp only [Bool.or_eq_true, Bool.and_eq_true, decide_eq_true_eq]
    exact .inr ⟨by omega, by omega⟩
 ·have := hg w hw
  unfold aoh at this
  rw [Bool.and_eq_true] at this
  exact this.1
noncomputable def T17 : List (FuncId × Fsp) := [(40, bcq)]
set_option maxRecDepth 100000 in
theorem hT17 : ajr U Tryd.prog T17 := .cons c40 .nil
abbrev spX : X := .lit (.string ⟨⟨[32]⟩⟩)
noncomputable def SWrd : Fsp := ⟨[(false, [.str])], [.ap .le [.ap .slen [.var 0], I 2500]], [(false, [.sl [.str]])], [([.ap (.usr 224) [.var 0], .ap .not [.ap .isnil [.ap (.usr 252) [.var 0]]]], [[.ap (.usr 252) [.var 0]]]), ([.ap .not [.ap (.usr 224) [.var 0]], .ap .isnil [.ap (.nil true) []]], [[.ap (.nil true) []]])], true⟩
noncomputable def bkm : Lp := ⟨[(.slot 11, .int .i64)], [0, 2, 3, 9, 10], [], fun F H k => [.ap .le [zI, .var k], .ap .le [.var k, .ap .len [.ap (.usr 252) [.var 0]]], .ap (.usr 256) [.var 0, .var k]], fun F H k => .ap (.sub .i64) [.ap .len [.ap (.usr 252) [.var 0]], .var k]⟩
noncomputable def bjn : Lp := ⟨[(.slot 24, .int .i64)], [0, 2, 3, 23], [], fun F H k => [.ap .le [zI, .var k], .ap .le [.var k, .ap .slen [.var 0]], .ap (.usr 257) [.var 0, .var k]], fun F H k => .ap (.sub .i64) [.ap .slen [.var 0], .var k]⟩
abbrev ay1 : List X := [(.ap (.typ (.sl [.str])) [(.ap (.usr 252) [(.var 0)])]), (.ap .same [(.lit (.string (.mk (.mk [32])))), (.lit (.string (.mk (.mk [32]))))]), (.ap (.typ .str) [(.var 0)]), (.ap .le [(.ap .slen [(.var 0)]), (I 2500)])]
abbrev aly : List X := (.ap .le [(I 0), (.var 1)]) :: (.ap .le [(.var 1), (.ap .len [(.ap (.usr 252) [(.var 0)])])]) :: (.ap (.usr 256) [(.var 0), (.var 1)]) :: ay1
abbrev as0 : List X := (.ap .le [(I 0), (.var 2)]) :: (.ap .le [(.var 2), (.ap .slen [(.var 0)])]) :: (.ap (.usr 257) [(.var 0), (.var 2)]) :: (.ap .not [(.ap .lt [(.var 1), (.ap .len [(.ap (.usr 252) [(.var 0)])])])]) :: aly
def bfv : List VC := [([(.ap (.typ .str) [(.var 0)]), (.ap .le [(.ap .slen [(.var 0)]), (I 2500)])], (.ap .same [(.lit (.string (.mk (.mk [32])))), (.lit (.string (.mk (.mk [32]))))])),
 (ay1, (.ap (.usr 256) [(.var 0), (I 0)])),
 (((.ap .not [(.ap (.usr 254) [(.ap (.cell 0) [(.ap (.usr 252) [(.var 0)]), (.var 1)])])]) :: (.ap .not [(.ap .eq [(.ap (.cell 0) [(.ap (.usr 252) [(.var 0)]), (.var 1)]), (.lit (.string (.mk (.mk []))))])]) :: (.ap .lt [(.var 1), (.ap .len [(.ap (.usr 252) [(.var 0)])])]) :: aly), (.ap (.usr 256) [(.var 0), (.ap (.add .i64) [(.var 1), (I 1)])])),
 (((.ap .not [(.ap .lt [(.var 1), (.ap .len [(.ap (.usr 252) [(.var 0)])])])]) :: aly), (.ap (.usr 257) [(.var 0), (I 0)])),
 (((.ap .not [(.ap .lt [(.lit (.int .u8 126)), (.ap .sidx [(.var 0), (.var 2)])])]) :: (.ap .lt [(.var 2), (.ap .slen [(.var 0)])]) :: as0), (.ap (.usr 257) [(.var 0), (.ap (.add .i64) [(.var 2), (I 1)])]))]
def bdt : List (List X × List (List X)) := [(((.ap .eq [(.ap (.cell 0) [(.ap (.usr 252) [(.var 0)]), (.var 1)]), (.lit (.string (.mk (.mk []))))]) :: (.ap .lt [(.var 1), (.ap .len [(.ap (.usr 252) [(.var 0)])])]) :: aly), [[(.ap (.nil true) [])]]),
 (((.ap (.usr 254) [(.ap (.cell 0) [(.ap (.usr 252) [(.var 0)]), (.var 1)])]) :: (.ap .not [(.ap .eq [(.ap (.cell 0) [(.ap (.usr 252) [(.var 0)]), (.var 1)]), (.lit (.string (.mk (.mk []))))])]) :: (.ap .lt [(.var 1), (.ap .len [(.ap (.usr 252) [(.var 0)])])]) :: aly), [[(.ap (.nil true) [])]]),
 (((.ap .lt [(.lit (.int .u8 126)), (.ap .sidx [(.var 0), (.var 2)])]) :: (.ap .lt [(.var 2), (.ap .slen [(.var 0)])]) :: as0), [[(.ap (.nil true) [])]]),
 (((.ap .not [(.ap .lt [(.var 2), (.ap .slen [(.var 0)])])]) :: as0), [[(.ap (.usr 252) [(.var 0)])]])]
theorem bhk : runV Tryd.prog ⟨aex (tab T17), orV2 bbu (orvK Tryd.prog (aex (tab T17)) 10 10 ⟨aj0 [], noY, U.lc⟩ 2), Tb.ent ⟨aj0 [], noY, U.lc⟩, 10, 10, none, Go.Sx.keyOf 17⟩ ⟨ad9 [(3, bkm), (9, bjn)], hintA [(1, fun F H => [.ap .same [spX, spX]])]⟩ Tryd.f17 (abt Tryd.f17) SWrd = some (bfv, bdt) := by kernel_rfl
set_option maxHeartbeats 4000000 in
set_option maxRecDepth 100000 in
theorem c17 : aaq U Tryd.prog 17 SWrd := by
  refine aaq.ofW (P := Tryd.prog) (U := U) (T := (tab T17)) (l := []) (y := noY) (dp := 2) (f := 17) (fn := Tryd.f17) (fuel := 10) (fk := 10) (hs := ⟨ad9 [(3, bkm), (9, bjn)], hintA [(1, fun F H => [.ap .same [spX, spX]])]⟩) (S := SWrd) (a := bbu) (v := bfv) (outs := bdt) mixed hT17 ahv.nil bbx at17 (aej (by kernel_rfl)) bhk ?_ ?_
  · unfold bfv
    repeat' (first | exact ac9 _ | refine ado (fun v hh => ?_) ?_)
    all_goals
      simp only [aa3, aa6, aa4, aa5, abg, b_lt, b_le, b_eq, aa1, abe, aao, acs, aan, aa7, abj, w_mk, abb, aa0, w_l0, w_l1, aac, aag, aaz, aae, aad, aam, aal, az9, bgq, bj4, bjy, adx, ay1, aly, as0] at hh ⊢
      repeat (obtain ⟨_, hh⟩ := hh)
      try first | exact rfl | exact g_0 | exact n_0 | exact g_n (by assumption) (by assumption) (by assumption) (by assumption) (by assumption) (by assumption) | exact n_n (by assumption) (by assumption) (by assumption) (by assumption) (by assumption)
  · intro o ho σ hU hh
    obtain ⟨v⟩ := σ
    cases hU
    simp only [bdt, List.mem_cons, List.not_mem_nil, or_false] at ho
    repeat' (first | (rcases ho with rfl | ho) | subst ho)
    all_goals
      simp only [aa3, aa6, aa4, aa5, abg, b_lt, b_le, b_eq, aa1, abe, aao, acs, aan, aa7, abj, w_mk, abb, aa0, w_l0, w_l1, aac, aag, aaz, aae, aad, aam, aal, az9, bgq, bj4, bjy, adx, ay1, aly, as0] at hh
      repeat (obtain ⟨_, hh⟩ := hh)
      first
      | (have hk := bk7 (by assumption) (by assumption) (by assumption) (by assumption) (by assumption) (by assumption)
         exact ⟨_, List.mem_cons_self .., by simp only [aad, aae, aaz, aa1, aa2, aa0, aml, az9, aag, w_l1, w_l0, aa3, aal]; exact ⟨hk, by simp, trivial⟩, rfl⟩)
      | (have hk : ¬ okW (line (v 0)) = true := by
           first | exact b_1 (by assumption) (by assumption) (by assumption) (by assumption) | exact b_2 (by assumption) (by assumption) (by assumption) (by assumption) | exact b_3 (by assumption) (by assumption) (by assumption) (by assumption)
         exact ⟨_, List.mem_cons_of_mem _ (List.mem_cons_self ..), by simp only [aad, aae, aaz, aa1, aa2, abj, aal, aa0, aml, aag, w_l1, w_l0, aa3]; exact ⟨hk, trivial, trivial⟩, rfl⟩)
end Go.Proofs.YtamhchkknlbanaaDoor.Be

namespace Go.Proofs.YtamhchkknlbanaaDoor.Be
open Go.Sx Go.Proofs
noncomputable def aw4 : Fsp := ⟨[(false, [.str])], [.ap .le [.ap .slen [.var 0], I 2500]], [(false, [.sl [.bool]]), (false, [.bool])], [([], [[.ap (.usr 206) [.var 0]], [.ap (.usr 258) [.var 0]]])], true⟩
noncomputable def lp21 : Lp := ⟨[(.slot 4, .own true [.bool]), (.slot 10, .int .i64)], [0, 2, 3, 8, 9], [], fun F H k => [.ap .le [zI, .var (k+2)], .ap .le [.var (k+2), .ap .slen [.var 0]], .ap .le [.var k, .var (k+2)], .ap .le [.var (k+2), .var k], .ap .same [.ap (.mk true) [.var (k+1)], .ap (.usr 208) [.var 0, .var (k+2)]], .ap (.usr 209) [.var 0, .var (k+2)]], fun F H k => .ap (.sub .i64) [.ap .slen [.var 0], .var (k+2)]⟩
abbrev bC (d : CD) (i : Int) : CD := (CD.sl false (d.str.toList.map afq)).cell i 0
theorem akw {d : CD} {i : Int} (h0 : 0 ≤ i) (hi : i < d.slen) (hT : Typ .str d) : bC d i = vInt .u8 (byAt d i) := by
 rw [abf hT] at hi
 have hlt : i.toNat < (by' d).length := by omega
 unfold bC CD.cell byAt
 show (((by' d).map afq).getD i.toNat []).getD 0 default = _
 have e : ((by' d).map afq).getD i.toNat [] = afq (by' d)[i.toNat] := by
  rw [List.getD_eq_getElem?_getD, List.getElem?_map, List.getElem?_eq_getElem hlt]
  rfl
 have e2 : (by' d).getD i.toNat 0 = (by' d)[i.toNat] := by
  rw [List.getD_eq_getElem?_getD, List.getElem?_eq_getElem hlt]
  rfl
 rw [e, e2]
 rfl
theorem kb_n {d : CD} {r : List (List CD)} {i : Int} (hr : r = ajz ((by' d).take i.toNat)) (h0 : 0 ≤ i) (hi : i < d.slen) (hT : Typ .str d) : r ++ ([] ++ [[aaf (eqC (bC d i) (vInt .u8 49))]]) = ajz ((by' d).take (i + 1).toNat) := by
 rw [akw h0 hi hT]
 exact a5f hr h0 hi hT
theorem kb_1 {d : CD} {i : Int} (h : eqC (bC d i) (vInt .u8 49) = true) (hb : ab0 ((by' d).take i.toNat) = true) (h0 : 0 ≤ i) (hi : i < d.slen) (hT : Typ .str d) : ab0 ((by' d).take (i + 1).toNat) = true := by
 rw [akw h0 hi hT] at h
 exact a5p h hb h0 hi hT
theorem kb_2 {d : CD} {i : Int} (h : eqC (bC d i) (vInt .u8 48) = true) (hb : ab0 ((by' d).take i.toNat) = true) (h0 : 0 ≤ i) (hi : i < d.slen) (hT : Typ .str d) : ab0 ((by' d).take (i + 1).toNat) = true := by
 rw [akw h0 hi hT] at h
 exact a5w h hb h0 hi hT
theorem bi2 {d : CD} {i : Int} (h1 : ¬ eqC (bC d i) (vInt .u8 49) = true) (h2 : ¬ eqC (bC d i) (vInt .u8 48) = true) (h0 : 0 ≤ i) (hi : i < d.slen) (hT : Typ .str d) : [[mkz (amo (by' d))], [aaf (ab0 (by' d))]] = [[CD.sl true []], [aaf false]] := by
 rw [akw h0 hi hT] at h1 h2
 have h := avl h1 h2 h0 hi hT
 rw [abf hT] at hi
 rw [decide_eq_true (show 0 < (by' d).length by omega), Bool.and_true] at h
 exact h
theorem kb_y {d : CD} {r : List (List CD)} {i : Int} (hr : r = ajz ((by' d).take i.toNat)) (hb : ab0 ((by' d).take i.toNat) = true) (hi : ¬ i < d.slen) (hT : Typ .str d) : [[mkz (amo (by' d))], [aaf (ab0 (by' d))]] = [[mkz r], [aaf true]] := by
 rw [aq9 hi hT] at hr hb
 unfold amo
 rw [if_pos hb, hb, hr]
abbrev akl : List X := [(.ap .le [(I 0), (.var 3)]), (.ap .le [(.var 3), (.ap .slen [(.var 0)])]), (.ap .le [(.var 1), (.var 3)]), (.ap .le [(.var 3), (.var 1)]), (.ap .same [(.ap (.mk true) [(.var 2)]), (.ap (.usr 208) [(.var 0), (.var 3)])]), (.ap (.usr 209) [(.var 0), (.var 3)]), (.ap (.typ .str) [(.var 0)]), (.ap .le [(.ap .slen [(.var 0)]), (I 2500)])]
def bgd : List VC := [([(.ap (.typ .str) [(.var 0)]), (.ap .le [(.ap .slen [(.var 0)]), (I 2500)])], (.ap .same [(.ap (.mk true) [(.ap (.nil true) [])]), (.ap (.usr 208) [(.var 0), (I 0)])])),
 ([(.ap (.typ .str) [(.var 0)]), (.ap .le [(.ap .slen [(.var 0)]), (I 2500)])], (.ap (.usr 209) [(.var 0), (I 0)])),
 (((.ap .eq [(.ap (.cell 0) [(.ap .byt [(.var 0)]), (.var 3)]), (.lit (.int .u8 49))]) :: (.ap .not [(.ap .eq [(.ap (.cell 0) [(.ap .byt [(.var 0)]), (.var 3)]), (.lit (.int .u8 48))])]) :: (.ap .lt [(.var 3), (.ap (.cast .i64) [(.ap .slen [(.var 0)])])]) :: akl), (.ap .same [(.ap (.mk true) [(.ap .cat [(.var 2), (.ap .snoc [(.ap (.nil false) []), (.ap .eq [(.ap (.cell 0) [(.ap .byt [(.var 0)]), (.var 3)]), (.lit (.int .u8 49))])])])]), (.ap (.usr 208) [(.var 0), (.ap (.add .i64) [(.var 3), (I 1)])])])),
 (((.ap .eq [(.ap (.cell 0) [(.ap .byt [(.var 0)]), (.var 3)]), (.lit (.int .u8 49))]) :: (.ap .not [(.ap .eq [(.ap (.cell 0) [(.ap .byt [(.var 0)]), (.var 3)]), (.lit (.int .u8 48))])]) :: (.ap .lt [(.var 3), (.ap (.cast .i64) [(.ap .slen [(.var 0)])])]) :: akl), (.ap (.usr 209) [(.var 0), (.ap (.add .i64) [(.var 3), (I 1)])])),
 (((.ap .eq [(.ap (.cell 0) [(.ap .byt [(.var 0)]), (.var 3)]), (.lit (.int .u8 48))]) :: (.ap .lt [(.var 3), (.ap (.cast .i64) [(.ap .slen [(.var 0)])])]) :: akl), (.ap .same [(.ap (.mk true) [(.ap .cat [(.var 2), (.ap .snoc [(.ap (.nil false) []), (.ap .eq [(.ap (.cell 0) [(.ap .byt [(.var 0)]), (.var 3)]), (.lit (.int .u8 49))])])])]), (.ap (.usr 208) [(.var 0), (.ap (.add .i64) [(.var 3), (I 1)])])])),
 (((.ap .eq [(.ap (.cell 0) [(.ap .byt [(.var 0)]), (.var 3)]), (.lit (.int .u8 48))]) :: (.ap .lt [(.var 3), (.ap (.cast .i64) [(.ap .slen [(.var 0)])])]) :: akl), (.ap (.usr 209) [(.var 0), (.ap (.add .i64) [(.var 3), (I 1)])]))]
def bed : List (List X × List (List X)) := [(((.ap .not [(.ap .eq [(.ap (.cell 0) [(.ap .byt [(.var 0)]), (.var 3)]), (.lit (.int .u8 49))])]) :: (.ap .not [(.ap .eq [(.ap (.cell 0) [(.ap .byt [(.var 0)]), (.var 3)]), (.lit (.int .u8 48))])]) :: (.ap .lt [(.var 3), (.ap (.cast .i64) [(.ap .slen [(.var 0)])])]) :: akl), [[(.ap (.nil true) [])], [(.lit (.bool false))]]),
 (((.ap .not [(.ap .lt [(.var 3), (.ap (.cast .i64) [(.ap .slen [(.var 0)])])])]) :: akl), [[(.ap (.mk true) [(.var 2)])], [(.lit (.bool true))]])]
theorem bkb : runS Tryd.prog (aex T0) 10 10 ⟨ad9 [(3, lp21)], hintA []⟩ Tryd.f21 (abt Tryd.f21) aw4 = some (bgd, bed) := by kernel_rfl
set_option maxHeartbeats 4000000 in
set_option maxRecDepth 100000 in
theorem c21 : aaq U Tryd.prog 21 aw4 := by
 refine aaq.of (P := Tryd.prog) (U := U) (T := T0) (f := 21) (fn := Tryd.f21) (fuel := 10) (fk := 10) (hs := ⟨ad9 [(3, lp21)], hintA []⟩) (S := aw4) (v := bgd) (outs := bed) mixed hT0 at21 bkb ?_ ?_
 ·unfold bgd
  repeat' (first | exact ac9 _ | refine ado (fun v hh => ?_) ?_)
  all_goals
   simp only [aa3, aa6, aa4, aa5, abg, aap, b_lt, b_le, b_eq, aa1, abe, aao, aan, aa7, abj, w_mk, aat, abq, abb, ac1, aa0, w_l0, w_l1, aac, aag, aaz, aae, aad, aam, aal, aof, az4, a0l, a3x, mnX, mxX, ad2, acg, ac3, ab3, abk, adx, w_eq, ad8, ac6, agl, akl] at hh ⊢
   repeat (obtain ⟨_, hh⟩ := hh)
   try (first | grind [= aac, = aac] | (apply aw3 <;> first | assumption | grind [= aac]) | (apply a8k <;> first | assumption | grind [= aac]) | (apply kb_n <;> first | assumption | grind [= aac]) | (apply kb_1 <;> first | assumption | grind [= aac]) | (apply kb_2 <;> first | assumption | grind [= aac]) | (apply bi2 <;> first | assumption | grind [= aac]) | (apply kb_y <;> first | assumption | grind [= aac]))
 ·intro o ho σ hU hh
  obtain ⟨v⟩ := σ
  cases hU
  simp only [bed, List.mem_cons, List.not_mem_nil, or_false] at ho
  repeat' (first | (rcases ho with rfl | ho) | subst ho)
  all_goals
   refine ⟨_, List.mem_cons_self .., by simp only [aa3, aa6, aa4, aa5, abg, aap, b_lt, b_le, b_eq, aa1, abe, aao, aan, aa7, abj, w_mk, aat, abq, abb, ac1, aa0, w_l0, w_l1, aac, aag, aaz, aae, aad, aam, aal], ?_⟩
   simp only [aa3, aa6, aa4, aa5, abg, aap, b_lt, b_le, b_eq, aa1, abe, aao, aan, aa7, abj, w_mk, aat, abq, abb, ac1, aa0, w_l0, w_l1, aac, aag, aaz, aae, aad, aam, aal, aof, az4, a0l, a3x, mnX, mxX, ad2, acg, ac3, ab3, abk, adx, w_eq, ad8, ac6, agl, akl] at hh
   simp only [List.map_cons, List.map_nil, aa3, aa6, aa4, aa5, abg, aap, b_lt, b_le, b_eq, aa1, abe, aao, aan, aa7, abj, w_mk, aat, abq, abb, ac1, aa0, w_l0, w_l1, aac, aag, aaz, aae, aad, aam, aal, w_lt, w_le, w_eq, anu, aij, aop, aof, az4, a0l, a3x, mnX, mxX, ad2, acg, ac3, ab3, abk, adx, w_eq, ad8, ac6, agl]
   repeat (obtain ⟨_, hh⟩ := hh)
   try (first | grind [= aac, = aac] | (apply aw3 <;> first | assumption | grind [= aac]) | (apply a8k <;> first | assumption | grind [= aac]) | (apply kb_n <;> first | assumption | grind [= aac]) | (apply kb_1 <;> first | assumption | grind [= aac]) | (apply kb_2 <;> first | assumption | grind [= aac]) | (apply bi2 <;> first | assumption | grind [= aac]) | (apply kb_y <;> first | assumption | grind [= aac]))
end Go.Proofs.YtamhchkknlbanaaDoor.Be

namespace Go.Proofs.YtamhchkknlbanaaDoor.Be
open Go.Sx Go.Proofs
abbrev sixL : List UInt8 := [48, 49, 50, 51, 52, 53, 54, 55, 56, 57, 97, 98, 99, 100, 101, 102]
abbrev sixC : CD := .v (.string ⟨⟨sixL⟩⟩)
theorem bk3 {n : Nat} (h : (n : Int) ≤ 2500) : (orV (acf .quo .i64 (n : Int) 2)).iv = (n : Int) / 2 := by
 have : acf .quo .i64 (n : Int) 2 = some (.int .i64 (IntKind.i64.wrap ((n : Int).tdiv 2))) := rfl
 rw [this]
 show IntKind.i64.wrap ((n : Int).tdiv 2) = _
 haveI : Sg := @Sg.mk U fun _ => default
 rw [Int.tdiv_eq_ediv_of_nonneg (by omega), av8 (k := .i64) (by show (-9223372036854775808 : Int) ≤ _; omega) (by show _ ≤ (9223372036854775807 : Int); omega)]
noncomputable def opq {α : Type} (x : α) : α := Classical.choose (⟨x, rfl⟩ : ∃ y, y = x)
theorem azp {α : Type} {x : α} : opq x = x := Classical.choose_spec (⟨x, rfl⟩ : ∃ y, y = x)
noncomputable def quoI (a : Int) : Int := opq (orV (acf .quo .i64 a 2)).iv
theorem ayd {a : Int} : (orV (acf .quo .i64 a 2)).iv = quoI a := azp.symm
noncomputable def remC (a : Int) : CD := opq (orV (acf .rem .i64 a 2))
theorem ayx {a : Int} : orV (acf .rem .i64 a 2) = remC a := azp.symm
noncomputable def nibI (a b : Int) : Int := opq (IntKind.u8.wrap (orV (acf .or .i64 (orV (agk .shl .i64 a 4)).iv b)).iv)
theorem ayt {a b : Int} : IntKind.u8.wrap (orV (acf .or .i64 (orV (agk .shl .i64 a 4)).iv b)).iv = nibI a b := azp.symm
theorem a0d {n : Nat} (h : (n : Int) ≤ 2500) : quoI n = (n : Int) / 2 := by rw [← ayd, bk3 h]
noncomputable def digI (a : Int) : Int := opq (digV a)
theorem d_eq {a : Int} : digI a = digV a := azp
theorem bhp : ((List.range 256).all fun n => decide (Lib.indexByte sixL (UInt8.ofNat n) = digV n)) = true := by kernel_rfl
theorem bgb : ((List.range 16).all fun a => (List.range 16).all fun b => decide (IntKind.u8.wrap (orV (acf .or .i64 (orV (agk .shl .i64 (a : Int) 4)).iv (b : Int))).iv = 16 * (a : Int) + b)) = true := by kernel_rfl
theorem bdo {d : CD} {i : Int} : Lib.indexByte (by' sixC) (byAt d i).toNat.toUInt8 = digI (byAt d i) := by
 rw [d_eq]
 have e : by' sixC = sixL := by_v _
 rw [e]
 unfold byAt
 have hb := ((by' d).getD i.toNat 0).toNat_lt
 have := List.all_eq_true.1 bhp ((by' d).getD i.toNat 0).toNat (List.mem_range.2 hb)
 rw [decide_eq_true_eq] at this
 rw [← this]
 rfl
theorem nib {a b : Int} (h1 : 0 ≤ a) (h2 : a ≤ 15) (h3 : 0 ≤ b) (h4 : b ≤ 15) : IntKind.u8.wrap (orV (acf .or .i64 (orV (agk .shl .i64 a 4)).iv b)).iv = 16 * a + b := by
 obtain ⟨x, rfl⟩ := Int.eq_ofNat_of_zero_le h1
 obtain ⟨y, rfl⟩ := Int.eq_ofNat_of_zero_le h3
 have := List.all_eq_true.1 (List.all_eq_true.1 bgb x (List.mem_range.2 (by omega))) y (List.mem_range.2 (by omega))
 rwa [decide_eq_true_eq] at this
theorem awv : ∀ (n : Nat) (l : List UInt8), l.length ≤ n → (hexR l).length = l.length / 2
 | _, [], _ => rfl
 | _, [_], _ => by simp [hexR]
 | 0, _ :: _ :: _, h => by simp at h
 | n + 1, a :: b :: r, h => by
  show (hexR r).length + 1 = (r.length + 1 + 1) / 2
  rw [awv n r (by simp only [List.length_cons] at h; omega)]
  omega
theorem take2 {l : List UInt8} {k : Nat} (h : 2 * k + 1 < l.length) : l.take (2 * (k + 1)) = l.take (2 * k) ++ [l.getD (2 * k) 0, l.getD (2 * k + 1) 0] := by
 have h1 : l.take (2 * k + 1 + 1) = l.take (2 * k + 1) ++ [l.getD (2 * k + 1) 0] := by
  rw [List.take_add_one, List.getD_eq_getElem?_getD, List.getElem?_eq_getElem h]
  rfl
 have h2 : l.take (2 * k + 1) = l.take (2 * k) ++ [l.getD (2 * k) 0] := by
  rw [List.take_add_one, List.getD_eq_getElem?_getD, List.getElem?_eq_getElem (by omega)]
  rfl
 rw [show 2 * (k + 1) = 2 * k + 1 + 1 by omega, h1, h2, List.append_assoc]
 rfl
theorem bdf {α : Type} {f : α → α} {x : α} {r : List α} : ∀ (p : List α), (p ++ x :: r).modify p.length f = p ++ f x :: r
 | [] => rfl
 | a :: p => by
  show a :: (p ++ x :: r).modify p.length f = _
  rw [bdf p]
  rfl
theorem bkf {l : List UInt8} {k : Nat} (h : 2 * k + 1 < l.length) : setCell (hexP l k) k 0 (vInt .u8 (bg7 (l.getD (2 * k) 0) (l.getD (2 * k + 1) 0))) = hexP l (k + 1) := by
 have hl : (hexR (l.take (2 * k))).length = k := by
  rw [awv _ _ (Nat.le_refl _), List.length_take]
  omega
 have ev : (l.take (2 * k)).length % 2 = 0 := by rw [List.length_take]; omega
 unfold hexP setCell
 obtain ⟨m, hm⟩ : ∃ m, l.length / 2 - k = m + 1 := ⟨l.length / 2 - k - 1, by omega⟩
 rw [hm, List.replicate_succ, show l.length / 2 - (k + 1) = m by omega, take2 h, ail ev]
 have := bdf (f := fun r => r.set 0 (vInt .u8 (bg7 (l.getD (2 * k) 0) (l.getD (2 * k + 1) 0)))) (x := [vInt .u8 0]) (r := List.replicate m [vInt .u8 0]) (hexR (l.take (2 * k)))
 rw [hl] at this
 rw [this, List.append_assoc]
 rfl
theorem bhw {l : List UInt8} {k : Nat} (h : 2 * k + 1 < l.length) (hb : hexB (l.take (2 * k)) = true) (h1 : 0 ≤ digV (l.getD (2 * k) 0).toNat) (h2 : 0 ≤ digV (l.getD (2 * k + 1) 0).toNat) : hexB (l.take (2 * (k + 1))) = true := by
 have ev : (l.take (2 * k)).length % 2 = 0 := by rw [List.length_take]; omega
 rw [take2 h, aga ev, hb]
 have e : hexB [l.getD (2 * k) 0, l.getD (2 * k + 1) 0] = (decide (0 ≤ digV (l.getD (2 * k) 0).toNat) && decide (0 ≤ digV (l.getD (2 * k + 1) 0).toNat) && hexB []) := rfl
 rw [e, decide_eq_true h1, decide_eq_true h2]
 rfl
theorem a8o {l : List UInt8} {k : Nat} (h : 2 * k + 1 < l.length) (hx : digV (l.getD (2 * k) 0).toNat < 0 ∨ digV (l.getD (2 * k + 1) 0).toNat < 0) : hexB l = false := by
 have hs : l = l.take (2 * (k + 1)) ++ l.drop (2 * (k + 1)) := (List.take_append_drop _ _).symm
 have ev : (l.take (2 * k)).length % 2 = 0 := by rw [List.length_take]; omega
 rw [hs, take2 h, List.append_assoc, aga ev]
 have e : (decide (0 ≤ digV (l.getD (2 * k) 0).toNat) && decide (0 ≤ digV (l.getD (2 * k + 1) 0).toNat)) = false := by
  rw [Bool.and_eq_false_iff]
  rcases hx with hx | hx
  ·exact .inl (decide_eq_false (by omega))
  ·exact .inr (decide_eq_false (by omega))
 show (_ && ((_ && _) && _)) = false
 rw [e]
 simp
theorem q_0 {d : CD} (h : (d.slen : Int) ≤ 2500) : 0 ≤ (quoI d.slen) := by rw [a0d h]; omega
theorem q_1 {d : CD} (h : (d.slen : Int) ≤ 2500) : (quoI d.slen) ≤ 1250 := by rw [a0d h]; omega
theorem q_z {d : CD} (hT : Typ .str d) (h : (d.slen : Int) ≤ 2500) : CD.sl (false && (List.replicate (quoI d.slen).toNat [CD.v (.int .u8 0)]).isEmpty) (List.replicate (quoI d.slen).toNat [CD.v (.int .u8 0)]) = CD.sl false (hexP (by' d) (Int.toNat 0)) := by
 rw [a0d h, abf hT]
 show CD.sl false _ = _
 have : (((by' d).length : Int) / 2).toNat = (by' d).length / 2 := by omega
 rw [this]
 rfl
theorem q_a {d : CD} {i : Int} (hi : i < (quoI d.slen)) (h : (d.slen : Int) ≤ 2500) : 2 * i + 1 < (d.slen : Int) := by rw [a0d h] at hi; omega
theorem q_b {d : CD} {i : Int} (hi : i < (quoI d.slen)) (h : (d.slen : Int) ≤ 2500) (h0 : 0 ≤ i) : 2 * i < (d.slen : Int) := by rw [a0d h] at hi; omega
theorem at_2 {d : CD} {i : Int} (h0 : 0 ≤ i) : byAt d (2 * i) = (((by' d).getD (2 * i.toNat) 0).toNat : Int) ∧ byAt d (2 * i + 1) = (((by' d).getD (2 * i.toNat + 1) 0).toNat : Int) := by
 unfold byAt
 rw [show (2 * i).toNat = 2 * i.toNat by omega, show (2 * i + 1).toNat = 2 * i.toNat + 1 by omega]
 exact ⟨rfl, rfl⟩
theorem q_n {d : CD} {r : List (List CD)} {i : Int} (hr : CD.sl (false && r.isEmpty) r = CD.sl false (hexP (by' d) i.toNat)) (h1 : ¬ digI (byAt d (2 * i)) < 0) (h2 : ¬ digI (byAt d (2 * i + 1)) < 0) (h3 : 2 * i + 1 < (d.slen : Int)) (h0 : 0 ≤ i) (hT : Typ .str d) :
  CD.sl (false && (setCell r i.toNat 0 (vInt .u8 (nibI (digI (byAt d (2 * i))) (digI (byAt d (2 * i + 1)))))).isEmpty) (setCell r i.toNat 0 (vInt .u8 (nibI (digI (byAt d (2 * i))) (digI (byAt d (2 * i + 1)))))) = CD.sl false (hexP (by' d) (i + 1).toNat) := by
 simp only [d_eq] at h1 h2 ⊢
 have hr : CD.sl false r = CD.sl false (hexP (by' d) i.toNat) := hr
 cases hr
 rw [← ayt, nib (by omega) a8l (by omega) a8l, (at_2 h0).1, (at_2 h0).2, show (i + 1).toNat = i.toNat + 1 by omega]
 rw [abf hT] at h3
 show CD.sl false _ = _
 exact congrArg (CD.sl false) (bkf (l := by' d) (k := i.toNat) (by omega))
theorem q_ok {d : CD} {i : Int} (hb : hexB ((by' d).take (2 * i.toNat)) = true) (h1 : ¬ digI (byAt d (2 * i)) < 0) (h2 : ¬ digI (byAt d (2 * i + 1)) < 0) (h3 : 2 * i + 1 < (d.slen : Int)) (h0 : 0 ≤ i) (hT : Typ .str d) : hexB ((by' d).take (2 * (i + 1).toNat)) = true := by
 simp only [d_eq] at h1 h2
 rw [(at_2 h0).1] at h1
 rw [(at_2 h0).2] at h2
 rw [abf hT] at h3
 rw [show (i + 1).toNat = i.toNat + 1 by omega]
 exact bhw (by omega) hb (by omega) (by omega)
theorem q_no {d : CD} {i : Int} (hx : digI (byAt d (2 * i)) < 0 ∨ digI (byAt d (2 * i + 1)) < 0) (h3 : 2 * i + 1 < (d.slen : Int)) (h0 : 0 ≤ i) (hT : Typ .str d) : [[if hexB (by' d) = true then CD.sl false (hexR (by' d)) else CD.sl true []], [aaf (hexB (by' d) && decide ((by' d).length % 2 = 0))]] = [[CD.sl true []], [aaf false]] := by
 simp only [d_eq] at hx
 rw [(at_2 h0).1, (at_2 h0).2] at hx
 rw [abf hT] at h3
 rw [a8o (by omega) hx]
 rfl
theorem q_y {d : CD} {r : List (List CD)} {i n : Int} (hr : CD.sl (false && r.isEmpty) r = CD.sl false (hexP (by' d) i.toNat)) (hb : hexB ((by' d).take (2 * i.toNat)) = true) (h1 : ¬ i < (quoI d.slen)) (h2 : i ≤ n) (h3 : n ≤ (quoI d.slen)) (h0 : 0 ≤ i) (hT : Typ .str d) (h : (d.slen : Int) ≤ 2500) : [[if hexB (by' d) = true then CD.sl false (hexR (by' d)) else CD.sl true []], [aaf (hexB (by' d) && decide ((by' d).length % 2 = 0))]] = [[CD.sl (false && r.isEmpty) r], [aaf (eqC (remC d.slen) (vInt .i64 0))]] := by
 rw [hr]
 rw [a0d h, abf hT] at h1 h3
 have hs : by' d = ((by' d).take (2 * i.toNat)) ++ (by' d).drop (2 * i.toNat) := (List.take_append_drop _ _).symm
 have ev : ((by' d).take (2 * i.toNat)).length % 2 = 0 := by rw [List.length_take]; omega
 have hd : ((by' d).drop (2 * i.toNat)).length ≤ 1 := by rw [List.length_drop]; omega
 have e1 : hexB ((by' d).drop (2 * i.toNat)) = true ∧ hexR ((by' d).drop (2 * i.toNat)) = [] := by
  generalize (by' d).drop (2 * i.toNat) = q at hd
  match q, hd with
  | [], _ => exact ⟨rfl, rfl⟩
  | [_], _ => exact ⟨rfl, rfl⟩
  | _ :: _ :: _, hd => simp at hd
 have e2 := aga (q := (by' d).drop (2 * i.toNat)) ev
 have e3 := ail (q := (by' d).drop (2 * i.toNat)) ev
 rw [← hs, hb, e1.1] at e2
 rw [← hs, e1.2, List.append_nil] at e3
 have e4 : hexP (by' d) i.toNat = hexR (by' d) := by
  unfold hexP
  rw [show (by' d).length / 2 - i.toNat = 0 by omega, e3]
  simp
 have hsl : d.slen = (by' d).length := by have := abf hT; omega
 rw [e4, e2, ← ayx, bjc, hsl]
 rfl
theorem q_z0 {l : List UInt8} : hexB (l.take (2 * Int.toNat 0)) = true := rfl
noncomputable def T20 : List (FuncId × Fsp) := [(47, SIdx)]
set_option maxRecDepth 100000 in
theorem hT20 : ajr U Tryd.prog T20 := .cons c47 .nil
noncomputable def azi : Fsp := ⟨[(false, [.str])], [.ap .le [.ap .slen [.var 0], I 2500]], [(false, [.sl [.int .u8]]), (false, [.bool])], [([], [[.ap (.usr 260) [.var 0]], [.ap (.usr 259) [.var 0]]])], true⟩
abbrev qX : X := .ap (.bin .quo .i64) [.ap .slen [.var 0], I 2]
noncomputable def lp20 : Lp := ⟨[(.slot 4, .own false [.int .u8]), (.slot 14, .int .i64)], [0, 2, 3, 13], [], fun F H k => [.ap .le [zI, .var (k+2)], .ap .le [.var (k+2), .var k], .ap .le [.var k, qX], .ap .le [qX, .var k], .ap .same [.ap (.mk false) [.var (k+1)], .ap (.usr 261) [.var 0, .var (k+2)]], .ap (.usr 262) [.var 0, .var (k+2)]], fun F H k => .ap (.sub .i64) [.var k, .var (k+2)]⟩
abbrev asr : List X := [(.ap .le [(I 0), (.ap (.bin .quo .i64) [(.ap .slen [(.var 0)]), (I 2)])]), (.ap .le [(.ap (.bin .quo .i64) [(.ap .slen [(.var 0)]), (I 2)]), (I 1250)]), (.ap (.typ .str) [(.var 0)]), (.ap .le [(.ap .slen [(.var 0)]), (I 2500)])]
abbrev ap3 : List X := (.ap .le [(I 0), (.var 3)]) :: (.ap .le [(.var 3), (.var 1)]) :: (.ap .le [(.var 1), (.ap (.bin .quo .i64) [(.ap .slen [(.var 0)]), (I 2)])]) :: (.ap .le [(.ap (.bin .quo .i64) [(.ap .slen [(.var 0)]), (I 2)]), (.var 1)]) :: (.ap .same [(.ap (.mk false) [(.var 2)]), (.ap (.usr 261) [(.var 0), (.var 3)])]) :: (.ap (.usr 262) [(.var 0), (.var 3)]) :: asr
abbrev aov : List X := (.ap .le [(I 0), (.ap (.mul .i64) [(I 2), (.var 3)])]) :: (.ap .lt [(.ap (.add .i64) [(.ap (.mul .i64) [(I 2), (.var 3)]), (I 1)]), (.ap .slen [(.var 0)])]) :: (.ap .lt [(.ap (.mul .i64) [(I 2), (.var 3)]), (.ap .slen [(.var 0)])]) :: (.ap .lt [(.var 3), (.ap (.cast .i64) [(.ap (.cast .i64) [(.ap (.bin .quo .i64) [(.ap .slen [(.var 0)]), (I 2)])])])]) :: ap3
def bdw : List VC := [([(.ap (.typ .str) [(.var 0)]), (.ap .le [(.ap .slen [(.var 0)]), (I 2500)])], (.ap .le [(I 0), (.ap (.bin .quo .i64) [(.ap .slen [(.var 0)]), (I 2)])])),
 ([(.ap (.typ .str) [(.var 0)]), (.ap .le [(.ap .slen [(.var 0)]), (I 2500)])], (.ap .le [(.ap (.bin .quo .i64) [(.ap .slen [(.var 0)]), (I 2)]), (I 1250)])),
 (asr, (.ap .same [(.ap (.mk false) [(.ap .rep [(.ap (.bin .quo .i64) [(.ap .slen [(.var 0)]), (I 2)]), (.lit (.int .u8 0))])]), (.ap (.usr 261) [(.var 0), (I 0)])])),
 (asr, (.ap (.usr 262) [(.var 0), (I 0)])),
 (((.ap .lt [(.var 3), (.ap (.cast .i64) [(.ap (.cast .i64) [(.ap (.bin .quo .i64) [(.ap .slen [(.var 0)]), (I 2)])])])]) :: ap3), (.ap .lt [(.ap (.add .i64) [(.ap (.mul .i64) [(I 2), (.var 3)]), (I 1)]), (.ap .slen [(.var 0)])])),
 (((.ap .lt [(.var 3), (.ap (.cast .i64) [(.ap (.cast .i64) [(.ap (.bin .quo .i64) [(.ap .slen [(.var 0)]), (I 2)])])])]) :: ap3), (.ap .lt [(.ap (.mul .i64) [(I 2), (.var 3)]), (.ap .slen [(.var 0)])])),
 (((.ap .not [(.ap .lt [(.ap (.usr 255) [(.lit (.string (.mk (.mk [48, 49, 50, 51, 52, 53, 54, 55, 56, 57, 97, 98, 99, 100, 101, 102])))), (.ap .sidx [(.var 0), (.ap (.add .i64) [(.ap (.mul .i64) [(I 2), (.var 3)]), (I 1)])])]), (I 0)])]) :: (.ap .not [(.ap .lt [(.ap (.usr 255) [(.lit (.string (.mk (.mk [48, 49, 50, 51, 52, 53, 54, 55, 56, 57, 97, 98, 99, 100, 101, 102])))), (.ap .sidx [(.var 0), (.ap (.mul .i64) [(I 2), (.var 3)])])]), (I 0)])]) :: aov), (.ap .same [(.ap (.mk false) [(.ap (.upd 0) [(.var 2), (.var 3), (.ap (.wr .u8) [(.ap (.cast .u8) [(.ap (.bin .or .i64) [(.ap (.shf .shl .i64) [(.ap (.usr 255) [(.lit (.string (.mk (.mk [48, 49, 50, 51, 52, 53, 54, 55, 56, 57, 97, 98, 99, 100, 101, 102])))), (.ap .sidx [(.var 0), (.ap (.mul .i64) [(I 2), (.var 3)])])]), (.lit (.int .u64 4))]), (.ap (.usr 255) [(.lit (.string (.mk (.mk [48, 49, 50, 51, 52, 53, 54, 55, 56, 57, 97, 98, 99, 100, 101, 102])))), (.ap .sidx [(.var 0), (.ap (.add .i64) [(.ap (.mul .i64) [(I 2), (.var 3)]), (I 1)])])])])])])])]), (.ap (.usr 261) [(.var 0), (.ap (.add .i64) [(.var 3), (I 1)])])])),
 (((.ap .not [(.ap .lt [(.ap (.usr 255) [(.lit (.string (.mk (.mk [48, 49, 50, 51, 52, 53, 54, 55, 56, 57, 97, 98, 99, 100, 101, 102])))), (.ap .sidx [(.var 0), (.ap (.add .i64) [(.ap (.mul .i64) [(I 2), (.var 3)]), (I 1)])])]), (I 0)])]) :: (.ap .not [(.ap .lt [(.ap (.usr 255) [(.lit (.string (.mk (.mk [48, 49, 50, 51, 52, 53, 54, 55, 56, 57, 97, 98, 99, 100, 101, 102])))), (.ap .sidx [(.var 0), (.ap (.mul .i64) [(I 2), (.var 3)])])]), (I 0)])]) :: aov), (.ap (.usr 262) [(.var 0), (.ap (.add .i64) [(.var 3), (I 1)])]))]
def bhc : List (List X × List (List X)) := [(((.ap .lt [(.ap (.usr 255) [(.lit (.string (.mk (.mk [48, 49, 50, 51, 52, 53, 54, 55, 56, 57, 97, 98, 99, 100, 101, 102])))), (.ap .sidx [(.var 0), (.ap (.mul .i64) [(I 2), (.var 3)])])]), (I 0)]) :: aov), [[(.ap (.nil true) [])], [(.lit (.bool false))]]),
 (((.ap .lt [(.ap (.usr 255) [(.lit (.string (.mk (.mk [48, 49, 50, 51, 52, 53, 54, 55, 56, 57, 97, 98, 99, 100, 101, 102])))), (.ap .sidx [(.var 0), (.ap (.add .i64) [(.ap (.mul .i64) [(I 2), (.var 3)]), (I 1)])])]), (I 0)]) :: (.ap .not [(.ap .lt [(.ap (.usr 255) [(.lit (.string (.mk (.mk [48, 49, 50, 51, 52, 53, 54, 55, 56, 57, 97, 98, 99, 100, 101, 102])))), (.ap .sidx [(.var 0), (.ap (.mul .i64) [(I 2), (.var 3)])])]), (I 0)])]) :: aov), [[(.ap (.nil true) [])], [(.lit (.bool false))]]),
 (((.ap .not [(.ap .lt [(.var 3), (.ap (.cast .i64) [(.ap (.cast .i64) [(.ap (.bin .quo .i64) [(.ap .slen [(.var 0)]), (I 2)])])])])]) :: ap3), [[(.ap (.mk false) [(.var 2)])], [(.ap .eq [(.ap (.bin .rem .i64) [(.ap .slen [(.var 0)]), (I 2)]), (I 0)])]])]
theorem bje : runS Tryd.prog (aex (tab T20)) 10 10 ⟨ad9 [(3, lp20)], hintA [(1, fun F H => [.ap .le [zI, qX], .ap .le [qX, I 1250]]), (5, fun F H => [.ap .le [zI, .ap (.mul .i64) [I 2, sx F 5]], .ap .lt [.ap (.add .i64) [.ap (.mul .i64) [I 2, sx F 5], I 1], .ap .slen [.var 0]], .ap .lt [.ap (.mul .i64) [I 2, sx F 5], .ap .slen [.var 0]]])]⟩ Tryd.f20 (abt Tryd.f20) azi = some (bdw, bhc) := by kernel_rfl
set_option maxHeartbeats 400000 in
set_option maxRecDepth 100000 in
theorem c20 : aaq U Tryd.prog 20 azi := by
 refine aaq.of (P := Tryd.prog) (U := U) (T := (tab T20)) (f := 20) (fn := Tryd.f20) (fuel := 10) (fk := 10) (hs := ⟨ad9 [(3, lp20)], hintA [(1, fun F H => [.ap .le [zI, qX], .ap .le [qX, I 1250]]), (5, fun F H => [.ap .le [zI, .ap (.mul .i64) [I 2, sx F 5]], .ap .lt [.ap (.add .i64) [.ap (.mul .i64) [I 2, sx F 5], I 1], .ap .slen [.var 0]], .ap .lt [.ap (.mul .i64) [I 2, sx F 5], .ap .slen [.var 0]]])]⟩) (S := azi) (v := bdw) (outs := bhc) mixed hT20 at20 bje ?_ ?_
 ·unfold bdw
  repeat' (first | exact ac9 _ | refine ado (fun v hh => ?_) ?_)
  all_goals
   simp only [aa3, aa6, aa4, aa5, abg, ab7, aap, w_wr, b_lt, b_le, b_eq, aa1, b_or, abe, aao, aan, abj, w_mk, acz, acy, abb, aa0, ace, w_l0, w_l1, aac, aag, aaz, aae, aad, aam, aal, ac0, bg9, bkk, bjt, adx, bdo, ayd, ayx, ayt, asr, ap3, aov] at hh ⊢
   repeat (obtain ⟨_, hh⟩ := hh)
   try first | exact q_0 (by assumption) | exact q_1 (by assumption) | exact q_z (by assumption) (by assumption) | exact q_z0 | exact q_a (by assumption) (by assumption) | exact q_b (by assumption) (by assumption) (by assumption) | exact q_n (by assumption) (by assumption) (by assumption) (by assumption) (by assumption) (by assumption) | exact q_ok (by assumption) (by assumption) (by assumption) (by assumption) (by assumption) (by assumption)
 ·intro o ho σ hU hh
  obtain ⟨v⟩ := σ
  cases hU
  simp only [bhc, List.mem_cons, List.not_mem_nil, or_false] at ho
  repeat' (first | (rcases ho with rfl | ho) | subst ho)
  all_goals
   simp only [aa3, aa6, aa4, aa5, abg, ab7, aap, w_wr, b_lt, b_le, b_eq, aa1, b_or, abe, aao, aan, abj, w_mk, acz, acy, abb, aa0, ace, w_l0, w_l1, aac, aag, aaz, aae, aad, aam, aal, ac0, bg9, bkk, bjt, adx, bdo, ayd, ayx, ayt, asr, ap3, aov] at hh
   refine ⟨_, List.mem_cons_self .., by simp only [aa3, aa6, aa4, aa5, abg, ab7, aap, w_wr, b_lt, b_le, b_eq, aa1, b_or, abe, aao, aan, abj, w_mk, acz, acy, abb, aa0, ace, w_l0, w_l1, aac, aag, aaz, aae, aad, aam, aal, ac0], ?_⟩
   simp only [List.map_cons, List.map_nil, aa3, aa6, aa4, aa5, abg, ab7, aap, w_wr, b_lt, b_le, b_eq, aa1, b_or, abe, aao, aan, abj, w_mk, acz, acy, abb, aa0, ace, w_l0, w_l1, aac, aag, aaz, aae, aad, aam, aal, ac0, w_lt, w_le, w_eq, anu, w_or, aij, aop, bg9, be5, bha, ayd, ayx, ayt]
  ·obtain ⟨a1, a2, a3, a4, a5, a6, a7, a8, a9, a10, a11, a12, a13, a14, a15, _⟩ := hh
   exact q_no (.inl a1) a3 a6 a14
  ·obtain ⟨a0, a1, a2, a3, a4, a5, a6, a7, a8, a9, a10, a11, a12, a13, a14, a15, _⟩ := hh
   exact q_no (.inr a0) a3 a6 a14
  ·obtain ⟨a1, a2, a3, a4, a5, a6, a7, a8, a9, a10, a11, _⟩ := hh
   trace_state
   exact q_y a6 a7 a1 a3 a4 a2 a10 a11
end Go.Proofs.YtamhchkknlbanaaDoor.Be
