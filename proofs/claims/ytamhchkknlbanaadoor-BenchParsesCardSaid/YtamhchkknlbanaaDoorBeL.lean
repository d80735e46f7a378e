/-
  Contracts of a seat's functions: bytes of a word, by the program. Conditions: none.
-/
import Derived.Test.YtamhchkknlbanaaDoorSzE
set_option linter.unusedSectionVars false
set_option linter.unusedVariables false
set_option linter.unusedSimpArgs false
namespace Go.Proofs.YtamhchkknlbanaaDoor.Be
open Go.Sx Go.Proofs Go.RowKit Go.Lib
theorem avz {w w' : World} (h : Below w.heap.size w w') : Keep w w' := ⟨h.block, h.size, h.os, h.tape, h.output⟩
theorem aaq.calls {P : Program} {U : Us} {f : FuncId} {S : Fsp} (hc : ∀ us w, (callFunc f us).run P w = .ok (.enter f us) w)
  (h : ∀ (v : Nat → CD) (m : Mem) (w : World) (us : List Value), TW w → (∀ k o, m k o → w.heap[k]? = some o) → ag4 m S.args ((ari 0 S.args).map (@denL ⟨v⟩)) us → @Holds (@Sg.mk U v) S.pre →
   Calls P f us.toArray w fun e w' => ∃ u, e = .returned u ∧ Keep w w' ∧ ∃ o ∈ S.outs, @Holds (@Sg.mk U v) o.1 ∧ ResR (fun k ob => (w.heap.size ≤ k ∧ w'.heap[k]? = some ob ∧ Nice ob) ∨ (S.fresh = false ∧ m k ob)) S.res (o.2.map (@denL (@Sg.mk U v))) u) : aaq U P f S := by
 intro σ hU m w us htw hm hargs hpre
 obtain ⟨v⟩ := σ
 cases hU
 rw [hc]
 have := h v m w us.toList htw hm hargs hpre
 rw [Array.toArray_toList] at this
 exact this
theorem by_v (s : ByteArray) : by' (.v (.string s)) = s.data.toList := by
 show s.toList = _
 rw [ByteArray.toList_eq]
theorem holds_nil (v : Nat → CD) : @Holds (@Sg.mk U v) [] := fun x hx => by cases hx
theorem bc8 {m : Mem} {k : IntKind} {z : Int} (h : abg (.int k z) = true) : RS m (.int k) (vInt k z) (.int k z) := ⟨z, rfl, rfl, h⟩
theorem bgt {m : Mem} {b : Bool} : RS m .bool (aaf b) (.bool b) := ⟨b, rfl, rfl⟩
noncomputable def bjg : Fsp := ⟨[(false, [.str])], [.ap .le [.ap .slen [.var 0], I 2500]], [(false, [sI]), (false, [.bool])], [([], [[.ap (.usr 250) [.var 0]], [.ap (.usr 202) [.var 0]]])], true⟩
theorem a94 : ∀ {l : List UInt8}, -9223372036854775808 ≤ afh l ∧ afh l ≤ 9223372036854775807 := by
 intro l
 unfold afh
 split
 ·rename_i v hv
  unfold Lib.atoiAll at hv
  cases l with
  | nil => cases hv
  | cons c r =>
   simp only at hv
   split at hv
   ·cases hv
   ·cases hv
   ·rename_i u hu
    split at hv
    ·cases hv
    ·split at hv
     ·cases hv
     ·cases hv
      split <;> omega
 ·omega
 ·unfold Lib.atoiSat
  split <;> omega
theorem a9x {s : ByteArray} {d : CD} {v : Nat → CD} (e : v 0 = .v (.string s)) (hs : s.size ≤ maxN) (h : @Holds (@Sg.mk U v) [.ap .le [.ap .slen [.var 0], I 2500]]) : s.size ≤ 2500 := by
 have := h _ (List.mem_singleton.2 rfl)
 have : decide (((v 0).slen : Int) ≤ 2500) = true := this
 rw [decide_eq_true_eq, e] at this
 have : ((clip s.size : Nat) : Int) ≤ 2500 := this
 rw [afq hs] at this
 omega
set_option maxRecDepth 100000 in
theorem c44 : aaq U Tryd.prog 44 bjg := by
 refine aaq.calls Tryd.call44 fun v m w us htw hm hargs hpre => ?_
 match us, hargs with
 | [u], ⟨h1, _⟩ =>
  obtain ⟨s, e1, rfl, h3⟩ : RS m .str (v 0) u := h1
  have hs := a9x (d := default) e1 h3 hpre
  refine (aut s (by omega) w htw).mono ?_
  rintro e w' ⟨rfl, hb⟩
  refine ⟨_, rfl, avz hb, _, List.mem_singleton.2 rfl, holds_nil v, [.int .i64 (afh s.data.toList), .bool (nOk s.data.toList)], ⟨?_, ?_, trivial⟩, rfl⟩
  ·show RS m sI (vInt .i64 (afh (by' (v 0)))) _
   rw [e1, by_v]
   refine bc8 (m := m) ?_
   simp only [abg, Bool.and_eq_true, decide_eq_true_eq]
   exact a94
  ·show RS m .bool (aaf (nOk (by' (v 0)))) _
   rw [e1, by_v]
   exact bgt (m := m)
noncomputable def SIdx : Fsp := ⟨[(false, [.str]), (false, [.int .u8])], [], [(false, [sI])], [([], [[.ap (.usr 255) [.var 0, .var 1]]])], true⟩
theorem a4p (l : List UInt8) (c : UInt8) : -1 ≤ Lib.indexByte l c ∧ Lib.indexByte l c ≤ l.length := by
 induction l with
 | nil => exact ⟨Int.le_refl _, by show (-1 : Int) ≤ 0; decide⟩
 | cons b l ih =>
  unfold Lib.indexByte
  rw [List.length_cons]
  split
  ·omega
  ·split <;> omega
set_option maxRecDepth 100000 in
theorem c47 : aaq U Tryd.prog 47 SIdx := by
 refine aaq.calls Tryd.call47 fun v m w us htw hm hargs hpre => ?_
 match us, hargs with
 | [u, u'], ⟨h1, h2, _⟩ =>
  obtain ⟨s, e1, rfl, h3⟩ : RS m .str (v 0) u := h1
  obtain ⟨n, e2, rfl, h4⟩ : RS m (.int .u8) (v 1) u' := h2
  have hs : s.size ≤ 9223372036854775807 := h3
  refine (Any.strings_IndexByte Tryd.lays137 s n w).mono ?_
  rintro e w' ⟨rfl, rfl⟩
  refine ⟨_, rfl, avz (Below.refl _ _), _, List.mem_singleton.2 rfl, holds_nil v, [_], ⟨?_, trivial⟩, rfl⟩
  show RS m sI (vInt .i64 (Lib.indexByte (by' (v 0)) (v 1).iv.toNat.toUInt8)) _
  rw [e1, e2, by_v]
  refine bc8 (m := m) ?_
  have := a4p s.data.toList n.toNat.toUInt8
  have hl : s.data.toList.length = s.size := rfl
  rw [aa4]
  generalize Lib.indexByte s.data.toList n.toNat.toUInt8 = q at this ⊢
  simp only [abg, Bool.and_eq_true, decide_eq_true_eq]
  show -9223372036854775808 ≤ q ∧ q ≤ (9223372036854775807 : Int)
  omega
noncomputable def bca : Fsp := ⟨[(false, [.str]), (false, [.str])], [.ap .le [.ap .slen [.var 0], I 2500], .ap .same [.var 1, .lit (.string ⟨⟨[32]⟩⟩)]], [(false, [.sl [.str]])], [([], [[.ap (.usr 252) [.var 0]]])], true⟩
theorem a02 {v : Nat → CD} {l : List X} {a b : X} (h : @Holds (@Sg.mk U v) l) (hm : .ap .same [a, b] ∈ l) : @den (@Sg.mk U v) a = @den (@Sg.mk U v) b := by
 have : (@den (@Sg.mk U v) (.ap .same [a, b])).bv = true := h _ hm
 rwa [@aao (@Sg.mk U v)] at this
theorem bb6 {v : Nat → CD} {l : List X} {a b : X} (h : @Holds (@Sg.mk U v) l) (hm : .ap .le [a, b] ∈ l) : (@den (@Sg.mk U v) a).iv ≤ (@den (@Sg.mk U v) b).iv := by
 have : (@den (@Sg.mk U v) (.ap .le [a, b])).bv = true := h _ hm
 rwa [@b_le (@Sg.mk U v)] at this
theorem amk {s : ByteArray} {d : CD} (e : d = .v (.string s)) (hs : s.size ≤ maxN) : (d.slen : Int) = s.size := by
 rw [e]
 show ((clip s.size : Nat) : Int) = s.size
 rw [afq hs]
theorem a0i (l : List ByteArray) (t : TypeId) : Nice (.cells (l.map Value.string).toArray t (0, 0)) := by
 refine ⟨_, _, _, rfl, ?_, false, fun j u hu => ?_⟩
 ·exact .inl rfl
 ·have hu : (l.map Value.string)[j]? = some u := by simpa using hu
  rw [List.getElem?_map] at hu
  cases hl : l[j]? with
  | none => rw [hl] at hu; cases hu
  | some s => rw [hl] at hu; cases hu; rfl
set_option maxRecDepth 100000 in
theorem c40 : aaq U Tryd.prog 40 bca := by
 refine aaq.calls Tryd.call40 fun v m w us htw hm hargs hpre => ?_
 match us, hargs with
 | [u, u'], ⟨h1, h2, _⟩ =>
  obtain ⟨s, e1, rfl, h3⟩ : RS m .str (v 0) u := h1
  obtain ⟨s', e2, rfl, h4⟩ : RS m .str (v 1) u' := h2
  have hs : ((v 0).slen : Int) ≤ 2500 := bb6 hpre (List.mem_cons_self ..)
  rw [amk e1 h3] at hs
  have he : v 1 = .v (.string ⟨⟨[32]⟩⟩) := a02 hpre (List.mem_cons_of_mem _ (List.mem_singleton.2 rfl))
  rw [he] at e2
  cases e2
  obtain ⟨mx, hmx⟩ := bho htw
  refine (Any.strings_Split Tryd.lays146 (by kernel_rfl) s ⟨⟨[32]⟩⟩ mx w (by omega) hmx (by decide)).mono ?_
  rintro e w' ⟨rfl, rfl⟩
  have hw := awc s
  refine ⟨_, rfl, avz ((Below.refl _ w).alloc (Nat.le_refl _) _), _, List.mem_singleton.2 rfl, holds_nil v, [_], ⟨?_, trivial⟩, rfl⟩
  generalize hbs : Lib.splitB (ByteArray.mk ⟨[32]⟩) 0 (Lib.countB s (ByteArray.mk ⟨[32]⟩)) s = bs at hw ⊢
  have hbl : bs.length = Lib.countB s (ByteArray.mk ⟨[32]⟩) + 1 := by rw [← hbs]; exact Lib.splitB_all _ (by decide) 0 _ s rfl
  have hcl : Lib.countB s (ByteArray.mk ⟨[32]⟩) ≤ s.size := Lib.countB_le _ (by decide) s.size s (Nat.le_refl _)
  have hrows : aar (line (v 0)) = bs.map fun b => [CD.v (.string b)] := by
   have hln : line (v 0) = s.data.toList ++ [32] := by rw [e1]; unfold line; rw [by_v]
   have hws : (st (line (v 0))).1 = bs.map fun b => b.data.toList := by rw [hln, hw]
   unfold aar
   rw [hws, List.map_map]
   refine List.map_congr_left fun b _ => ?_
   rfl
  have e : @denL (@Sg.mk U v) [X.ap (Fs.usr 252) [X.var 0]] = [CD.sl false (aar (line (v 0)))] := rfl
  rw [e, hrows]
  refine .inr (.inl ⟨bs.map fun b => [CD.v (.string b)], w.heap.size, 0, _, rfl, by rw [List.length_map, hbl], by rw [List.length_map, hbl]; exact Nat.le_refl _, by unfold maxN; omega, fun _ => ⟨(bs.map Value.string).toArray, Tryd.lays146_ren.t 9, (0, 0), .inl ⟨Nat.le_refl _, ?_, a0i bs _⟩, fun i row hi => ?_⟩⟩)
  ·show (w.heap.push _)[w.heap.size]? = _
   simp
  ·rw [List.getElem?_map] at hi
   cases hb : bs[i]? with
   | none => rw [hb] at hi; cases hi
   | some b =>
    rw [hb] at hi
    cases hi
    have hsz : b.size ≤ maxN := by
     have hm : b.data.toList ∈ (st (line (v 0))).1 := by
      have hln : line (v 0) = s.data.toList ++ [32] := by rw [e1]; unfold line; rw [by_v]
      rw [hln, ← hw]
      exact List.mem_map.2 ⟨b, List.mem_of_getElem? hb, rfl⟩
     have := (a5u (line (v 0)) ([], []) 0 (fun w hw => by cases hw) (Nat.le_refl 0)).1 _ hm
     have hln : (line (v 0)).length = s.size + 1 := by
      rw [e1]; unfold line; rw [by_v, List.length_append]; rfl
     have hbz : b.data.toList.length = b.size := rfl
     unfold maxN
     omega
    refine ⟨_, [], .string b, rfl, ?_, ⟨b, rfl, rfl, hsz⟩, rfl⟩
    simp [hb]
def badR (r : Nat) : Bool := decide (r < 33) || decide (126 < r)
theorem bgu (s : ByteArray) (p : Nat) (hp : p < s.size) : (badR (Utf8.decode s p).1 = badB (s.get! p)) ∧ (badB (s.get! p) = false → (Utf8.decode s p).2 = 1) := by
 have hbig : ∀ r : Nat, 128 ≤ r → badR r = true := fun r hr => by
  unfold badR
  rw [decide_eq_true (show 126 < r by omega)]
  simp
 unfold Utf8.decode
 simp only [Nat.add_zero]
 by_cases h : (s.get! p).toNat < 128
 ·rw [if_pos h]
  exact ⟨rfl, fun _ => rfl⟩
 ·rw [if_neg h]
  have hb : badB (s.get! p) = true := by
   unfold badB
   rw [decide_eq_true (show 126 < (s.get! p).toNat by omega)]
   simp
  rw [hb]
  refine ⟨?_, fun hh => by cases hh⟩
  repeat' split
  all_goals first | exact hbig _ (by decide) | (rename_i hc; refine hbig _ ?_; first | omega | (simp only [ge_iff_le, Bool.and_eq_true, decide_eq_true_eq] at hc; omega))
theorem aw6 (s : ByteArray) : ∀ (f p : Nat), s.size ≤ p + f → ((0 ≤ Lib.idxFuncFrom badR true s f p) ↔ ∃ j, p ≤ j ∧ j < s.size ∧ badB (s.get! j) = true)
 | 0, p, h => by
  show (0 : Int) ≤ -1 ↔ _
  exact ⟨fun h => by omega, fun ⟨j, h1, h2, _⟩ => by omega⟩
 | f + 1, p, h => by
  unfold Lib.idxFuncFrom
  by_cases hp : p < s.size
  ·rw [if_pos hp]
   obtain ⟨h1, h2⟩ := bgu s p hp
   rw [h1]
   by_cases hb : badB (s.get! p) = true
   ·rw [if_pos hb]
    exact ⟨fun _ => ⟨p, Nat.le_refl _, hp, hb⟩, fun _ => by omega⟩
   ·rw [if_neg hb]
    rw [h2 (by simpa using hb)]
    rw [aw6 s f (p + 1) (by omega)]
    constructor
    ·rintro ⟨j, a, b, c⟩
     exact ⟨j, by omega, b, c⟩
    ·rintro ⟨j, a, b, c⟩
     refine ⟨j, ?_, b, c⟩
     rcases Nat.lt_or_ge p j with g | g
     ·exact g
     ·have : j = p := by omega
      subst this
      exact absurd c hb
  ·rw [if_neg hp]
   exact ⟨fun h => by omega, fun ⟨j, a, b, _⟩ => by omega⟩
theorem bex (s : ByteArray) : decide (0 ≤ Lib.idxFunc badR true s) = s.data.toList.any badB := by
 rw [Bool.eq_iff_iff, decide_eq_true_eq]
 unfold Lib.idxFunc
 rw [aw6 s s.size 0 (by omega), List.any_eq_true]
 constructor
 ·rintro ⟨j, _, h2, h3⟩
  have hj : j < s.data.toList.length := h2
  refine ⟨s.data.toList[j], List.getElem_mem hj, ?_⟩
  have : s.get! j = s.data.toList[j] := by
   show s.data[j]! = _
   rw [getElem!_pos s.data j h2]
   simp
  rwa [← this]
 ·rintro ⟨b, hb, h3⟩
  obtain ⟨j, hj, rfl⟩ := List.getElem_of_mem hb
  refine ⟨j, Nat.zero_le _, hj, ?_⟩
  have : s.get! j = s.data.toList[j] := by
   show s.data[j]! = _
   rw [getElem!_pos s.data j hj]
   simp
  rwa [this]
set_option maxRecDepth 100000 in
theorem bes (w : World) : PredAt Tryd.prog 42 #[] encR badR w := fun W r _ => by
 unfold FnGives
 by_cases h1 : r < 33 <;> by_cases h2 : 126 < r
 all_goals
  have z1 : (r : Int) < 33 ↔ r < 33 := by omega
  have z2 : 126 < (r : Int) ↔ 126 < r := by omega
  go_enter Tryd.func42, Tryd.ntmps42
  go_wp2
  all_goals first | (exfalso; omega) | (go_ret; exact ⟨by simp [h1, h2, badR], 0, rfl⟩)
theorem aoh (s : ByteArray) (w : World) : Calls Tryd.prog 41 #[.string s, .func (.func 42) #[] #[]] w fun e w' => e = .returned (.bool (s.data.toList.any badB)) ∧ Below w.heap.size w w' := by
 rw [← bex]
 exact Any.strings_ContainsFunc Tryd.laysGw17 42 #[] Tryd.call42 badR s w (bes w)
end Go.Proofs.YtamhchkknlbanaaDoor.Be

namespace Go.Proofs.YtamhchkknlbanaaDoor.Be
open Go.Sx Go.Proofs
noncomputable def bae : OraV := fun t args H => match t, args with
 | .f g, [.one c, .one (.lit (.func (.func k) a b))] => match Nat.beq g 41 && (Nat.beq k 42 && (Nat.beq a.size 0 && Nat.beq b.size 0)), toS .str c with
  | true, some (e, _) => some ([], [(.one (.sv .bool [] (.ap (.usr 254) [e])), H)])
  | _, _ => none
 | _, _ => none
set_option maxRecDepth 100000 in
theorem a9w : aek U Tryd.prog bae := by
 intro t args H v outs h _
 unfold bae at h
 split at h
 rotate_left
 ·cases h
 rename_i g c k a b
 split at h
 rotate_left
 ·cases h
 rename_i e G hb hs
 cases h
 simp only [Bool.and_eq_true] at hb
 obtain ⟨q1, q2, q3, q4⟩ := hb
 have q1 := Nat.eq_of_beq_eq_true q1
 have q2 := Nat.eq_of_beq_eq_true q2
 have q3 : a = #[] := Array.eq_empty_of_size_eq_zero (Nat.eq_of_beq_eq_true q3)
 have q4 : b = #[] := Array.eq_empty_of_size_eq_zero (Nat.eq_of_beq_eq_true q4)
 subst q1 q2 q3 q4
 refine ⟨fun o ho => ?_, fun σ hU ρ w us s' hs' hus hH hd hj => ?_⟩
 ·rw [List.mem_singleton.1 ho]
  exact @Sc.refl (@Sg.mk U fun _ => default) H
 ·have hs' : s' = callFunc 41 us := hs'
  subst hs'
  obtain ⟨u1, u2, hus', k1, k2⟩ : ∃ u1 u2, us = #[u1, u2] ∧ @CRel σ ρ c u1 ∧ u2 = .func (.func 42) #[] #[] := by
   match hl : us.toList, hus with
   | [u1, u2], ⟨h1, h2, _⟩ => exact ⟨u1, u2, by rw [← Array.toList_inj, hl], h1, h2.1⟩
  subst hus'
  subst k2
  obtain ⟨_, hr⟩ := @ao3 σ ρ _ _ _ _ _ hs k1
  obtain ⟨s, e1, rfl, h3⟩ := hr
  rw [Tryd.call41]
  show Calls Tryd.prog 41 #[.string s, .func (.func 42) #[] #[]] w _
  refine (aoh s w).mono ?_
  rintro e' w' ⟨rfl, hb⟩
  have hsim := Sim.still (@Sim.refl σ _ _ _ hH hd) hb.block hb.size hb.os hb.tape hb.output hd fun b L ⟨i, c, hc⟩ hL => (@HRel.rel σ _ _ _ hH b i c L hc hL).lt
  refine ⟨_, rfl, _, List.mem_singleton.2 rfl, σ, Ext.refl _ _, ρ, ⟨fun g hg => (by cases hg), ?_⟩, @Sim.f σ _ _ _ _ _ _ hsim, @Sim.rel σ _ _ _ _ _ _ hsim⟩
  show @RS _ .bool (@Us.u σ.toUs 254 [@den σ e]) _
  rw [hU, e1, bgr, by_v]
  exact ⟨_, rfl, rfl⟩
theorem bj7 {b : UInt8} (hb : b.toNat ≠ 32) : ∀ (l : List UInt8) (s : List (List UInt8) × List UInt8), (b ∈ l ∨ b ∈ s.2 ∨ ∃ w ∈ s.1, b ∈ w) → b ∈ (l.foldl stp s).2 ∨ ∃ w ∈ (l.foldl stp s).1, b ∈ w
 | [], s, h => by
  rcases h with h | h
  ·cases h
  ·exact h
 | c :: l, s, h => by
  refine bj7 hb l (stp s c) ?_
  unfold stp
  rcases h with h | h | ⟨w, h1, h2⟩
  ·rcases List.mem_cons.1 h with rfl | h
   ·rw [if_neg hb]
    exact .inr (.inl (by simp))
   ·exact .inl h
  ·split
   ·exact .inr (.inr ⟨s.2, by simp, h⟩)
   ·exact .inr (.inl (List.mem_append_left _ h))
  ·split
   ·exact .inr (.inr ⟨w, List.mem_append_left _ h1, h2⟩)
   ·exact .inr (.inr ⟨w, h1, h2⟩)
theorem bjm {b : UInt8} : ∀ (l : List UInt8) (s : List (List UInt8) × List UInt8), (b ∈ (l.foldl stp s).2 ∨ ∃ w ∈ (l.foldl stp s).1, b ∈ w) → (b ∈ l ∧ b.toNat ≠ 32) ∨ b ∈ s.2 ∨ ∃ w ∈ s.1, b ∈ w
 | [], s, h => .inr h
 | c :: l, s, h => by
  rcases bjm l (stp s c) h with h | h
  ·exact .inl ⟨List.mem_cons_of_mem _ h.1, h.2⟩
  ·unfold stp at h
   split at h
   ·rcases h with h | ⟨w, h1, h2⟩
    ·cases h
    ·rcases List.mem_append.1 h1 with h1 | h1
     ·exact .inr (.inr ⟨w, h1, h2⟩)
     ·rw [List.mem_singleton.1 h1] at h2
      exact .inr (.inl h2)
   ·rename_i hc
    rcases h with h | h
    ·rcases List.mem_append.1 h with h | h
     ·exact .inr (.inl h)
     ·rw [List.mem_singleton.1 h]
      exact .inl ⟨List.mem_cons_self .., hc⟩
    ·exact .inr (.inr h)
theorem blj {l : List UInt8} {w : List UInt8} {b : UInt8} (hw : w ∈ (st l).1) (hb : b ∈ w) : b ∈ l ∧ b.toNat ≠ 32 := by
 rcases bjm l ([], []) (.inr ⟨w, hw, hb⟩) with h | h | ⟨w, h1, _⟩
 ·exact h
 ·cases h
 ·cases h1
theorem a4s {b : UInt8} (h : badB b = true) (hn : b.toNat ≠ 32) : okB b = false := by
 unfold badB at h
 rw [Bool.or_eq_true, decide_eq_true_eq, decide_eq_true_eq] at h
 unfold okB
 rw [decide_eq_false hn, Bool.false_or, Bool.and_eq_false_iff, decide_eq_false_iff_not, decide_eq_false_iff_not]
 omega
theorem axn {l : List UInt8} {b : UInt8} (hb : b ∈ l) (h : okB b = false) : okW l = false := by
 unfold okW
 rw [Bool.and_eq_false_iff]
 left
 rw [List.all_eq_false]
 exact ⟨b, hb, by rw [h]; simp⟩
theorem ab8 {d : CD} (i : Int) : by' ((CD.sl false (aar (line d))).cell i 0) = gw (wds d) i.toNat := au5 i
theorem atz {d : CD} (hT : Typ (.sl [.str]) (CD.sl false (aar (line d)))) : ((CD.sl false (aar (line d))).len : Int) = (wds d).length := by
 rw [hT.sl.1]
 show (((wds d).map aia).length : Int) = _
 rw [List.length_map]
theorem a2o {W : List (List UInt8)} {i : Nat} (h : i < W.length) : gw W i ∈ W := by
 unfold gw
 rw [List.getD_eq_getElem?_getD, List.getElem?_eq_getElem h]
 exact List.getElem_mem h
theorem g_0 {W : List (List UInt8)} : (W.take (Int.toNat 0)).all aoe = true := rfl
theorem g_n {d : CD} {i : Int} (hg : ((st (line d)).1.take i.toNat).all aoe = true) (h1 : ¬ eqC ((CD.sl false (aar (line d))).cell i 0) (.v (.string ⟨⟨[]⟩⟩)) = true) (h2 : ¬ (by' ((CD.sl false (aar (line d))).cell i 0)).any badB = true) (h0 : 0 ≤ i) (hi : i < ((CD.sl false (aar (line d))).len : Int)) (hT : Typ (.sl [.str]) (CD.sl false (aar (line d)))) : ((st (line d)).1.take (i + 1).toNat).all aoe = true := by
 have hc : Typ .str ((CD.sl false (aar (line d))).cell i 0) := hT.cell h0 hi rfl
 rw [arj hc, ab8] at h1
 rw [ab8] at h2
 rw [atz hT] at hi
 have hlt : i.toNat < (wds d).length := by omega
 rw [show (i + 1).toNat = i.toNat + 1 by omega, List.take_add_one, List.all_append, hg]
 have e : (st (line d)).1[i.toNat]? = some (gw (wds d) i.toNat) := by
  unfold gw
  rw [List.getD_eq_getElem?_getD, List.getElem?_eq_getElem hlt]
  exact List.getElem?_eq_getElem hlt
 rw [e]
 have : aoe (gw (wds d) i.toNat) = true := by
  unfold aoe
  rw [Bool.and_eq_true, Bool.not_eq_true', Bool.not_eq_true']
  refine ⟨?_, by simpa using h2⟩
  cases hh : gw (wds d) i.toNat with
  | nil => exact absurd hh h1
  | cons a r => rfl
 simp [this]
theorem b_1 {d : CD} {i : Int} (h1 : eqC ((CD.sl false (aar (line d))).cell i 0) (.v (.string ⟨⟨[]⟩⟩)) = true) (h0 : 0 ≤ i) (hi : i < ((CD.sl false (aar (line d))).len : Int)) (hT : Typ (.sl [.str]) (CD.sl false (aar (line d)))) : ¬ okW (line d) = true := by
 have hc : Typ .str ((CD.sl false (aar (line d))).cell i 0) := hT.cell h0 hi rfl
 rw [arj hc, ab8] at h1
 rw [atz hT] at hi
 intro hk
 unfold okW at hk
 rw [Bool.and_eq_true] at hk
 have := List.all_eq_true.1 hk.2 _ (a2o (W := wds d) (i := i.toNat) (by omega))
 rw [h1] at this
 cases this
theorem b_2 {d : CD} {i : Int} (h2 : (by' ((CD.sl false (aar (line d))).cell i 0)).any badB = true) (h0 : 0 ≤ i) (hi : i < ((CD.sl false (aar (line d))).len : Int)) (hT : Typ (.sl [.str]) (CD.sl false (aar (line d)))) : ¬ okW (line d) = true := by
 rw [ab8] at h2
 rw [atz hT] at hi
 rw [List.any_eq_true] at h2
 obtain ⟨b, hb, hbad⟩ := h2
 obtain ⟨g1, g2⟩ := blj (l := line d) (a2o (W := wds d) (i := i.toNat) (by omega)) hb
 rw [axn g1 (a4s hbad g2)]
 simp
theorem b_3 {d : CD} {i : Int} (h : 126 < byAt d i) (h0 : 0 ≤ i) (hi : i < d.slen) (hT : Typ .str d) : ¬ okW (line d) = true := by
 rw [abe hT] at hi
 have hlt : i.toNat < (by' d).length := by omega
 unfold byAt at h
 have hm : (by' d).getD i.toNat 0 ∈ line d := by
  unfold line
  refine List.mem_append_left _ ?_
  rw [List.getD_eq_getElem?_getD, List.getElem?_eq_getElem hlt]
  exact List.getElem_mem hlt
 have hb : okB ((by' d).getD i.toNat 0) = false := by
  refine a4s ?_ (by omega)
  unfold badB
  rw [decide_eq_true (show 126 < ((by' d).getD i.toNat 0).toNat by omega)]
  simp
 rw [axn hm hb]
 simp
theorem n_0 {l : List UInt8} : (l.take (Int.toNat 0)).all (fun b => decide (b.toNat ≤ 126)) = true := rfl
theorem n_n {d : CD} {i : Int} (hg : ((by' d).take i.toNat).all (fun b => decide (b.toNat ≤ 126)) = true) (h : ¬ 126 < byAt d i) (h0 : 0 ≤ i) (hi : i < d.slen) (hT : Typ .str d) : ((by' d).take (i + 1).toNat).all (fun b => decide (b.toNat ≤ 126)) = true := by
 unfold byAt at h
 rw [ajz h0 hi hT, List.all_append, hg, List.all_cons, List.all_nil, decide_eq_true (show ((by' d).getD i.toNat 0).toNat ≤ 126 by omega)]
 rfl
theorem bku {d : CD} {i j : Int} (hg : ((st (line d)).1.take i.toNat).all aoe = true) (hi : ¬ i < ((CD.sl false (aar (line d))).len : Int)) (hn : ((by' d).take j.toNat).all (fun b => decide (b.toNat ≤ 126)) = true) (hj : ¬ j < d.slen) (hT : Typ (.sl [.str]) (CD.sl false (aar (line d)))) (hTd : Typ .str d) : okW (line d) = true := by
 rw [atz hT] at hi
 have e1 : (st (line d)).1.take i.toNat = (st (line d)).1 := List.take_of_length_le (by unfold wds at hi; omega)
 rw [e1, List.all_eq_true] at hg
 rw [asc hj hTd, List.all_eq_true] at hn
 unfold okW
 rw [Bool.and_eq_true, List.all_eq_true, List.all_eq_true]
 refine ⟨fun b hb => ?_, fun w hw => ?_⟩
 ·by_cases h32 : b.toNat = 32
  ·unfold okB
   rw [decide_eq_true h32]
   simp
  ·rcases bj7 h32 (line d) ([], []) (.inl hb) with h | ⟨w, h1, h2⟩
   ·exfalso
    unfold line at h
    rw [List.foldl_append] at h
    have : (stp ((by' d).foldl stp ([], [])) 32).2 = [] := by
     unfold stp
     rw [if_pos (by decide)]
    rw [show ([32] : List UInt8).foldl stp ((by' d).foldl stp ([], [])) = stp ((by' d).foldl stp ([], [])) 32 from rfl, this] at h
    cases h
   ·have := hg w h1
    unfold aoe at this
    rw [Bool.and_eq_true, Bool.not_eq_true', Bool.not_eq_true', List.any_eq_false] at this
    have hb' := this.2 b h2
    unfold badB at hb'
    rw [Bool.or_eq_true, decide_eq_true_eq, decide_eq_true_eq] at hb'
    unfold okB
    simp only [Bool.or_eq_true, Bool.and_eq_true, decide_eq_true_eq]
    exact .inr ⟨by omega, by omega⟩
 ·have := hg w hw
  unfold aoe at this
  rw [Bool.and_eq_true] at this
  exact this.1
noncomputable def T17 : List (FuncId × Fsp) := [(40, bca)]
set_option maxRecDepth 100000 in
theorem hT17 : ajg U Tryd.prog T17 := .cons c40 .nil
abbrev spX : X := .lit (.string ⟨⟨[32]⟩⟩)
noncomputable def SWrd : Fsp := ⟨[(false, [.str])], [.ap .le [.ap .slen [.var 0], I 2500]], [(false, [.sl [.str]])], [([.ap (.usr 224) [.var 0], .ap .not [.ap .isnil [.ap (.usr 252) [.var 0]]]], [[.ap (.usr 252) [.var 0]]]), ([.ap .not [.ap (.usr 224) [.var 0]], .ap .isnil [.ap (.nil true) []]], [[.ap (.nil true) []]])], true⟩
noncomputable def bie : Lp := ⟨[(.slot 11, .int .i64)], [0, 2, 3, 9, 10], [], fun F H k => [.ap .le [zI, .var k], .ap .le [.var k, .ap .len [.ap (.usr 252) [.var 0]]], .ap (.usr 256) [.var 0, .var k]], fun F H k => .ap (.sub .i64) [.ap .len [.ap (.usr 252) [.var 0]], .var k]⟩
noncomputable def bj8 : Lp := ⟨[(.slot 24, .int .i64)], [0, 2, 3, 23], [], fun F H k => [.ap .le [zI, .var k], .ap .le [.var k, .ap .slen [.var 0]], .ap (.usr 257) [.var 0, .var k]], fun F H k => .ap (.sub .i64) [.ap .slen [.var 0], .var k]⟩
abbrev ayx : List X := [(.ap (.typ (.sl [.str])) [(.ap (.usr 252) [(.var 0)])]), (.ap .same [(.lit (.string (.mk (.mk [32])))), (.lit (.string (.mk (.mk [32]))))]), (.ap (.typ .str) [(.var 0)]), (.ap .le [(.ap .slen [(.var 0)]), (I 2500)])]
abbrev al5 : List X := (.ap .le [(I 0), (.var 1)]) :: (.ap .le [(.var 1), (.ap .len [(.ap (.usr 252) [(.var 0)])])]) :: (.ap (.usr 256) [(.var 0), (.var 1)]) :: ayx
abbrev avh : List X := (.ap .le [(I 0), (.var 2)]) :: (.ap .le [(.var 2), (.ap .slen [(.var 0)])]) :: (.ap (.usr 257) [(.var 0), (.var 2)]) :: (.ap .not [(.ap .lt [(.var 1), (.ap .len [(.ap (.usr 252) [(.var 0)])])])]) :: al5
def bgo : List VC := [([(.ap (.typ .str) [(.var 0)]), (.ap .le [(.ap .slen [(.var 0)]), (I 2500)])], (.ap .same [(.lit (.string (.mk (.mk [32])))), (.lit (.string (.mk (.mk [32]))))])),
 (ayx, (.ap (.usr 256) [(.var 0), (I 0)])),
 (((.ap .not [(.ap (.usr 254) [(.ap (.cell 0) [(.ap (.usr 252) [(.var 0)]), (.var 1)])])]) :: (.ap .not [(.ap .eq [(.ap (.cell 0) [(.ap (.usr 252) [(.var 0)]), (.var 1)]), (.lit (.string (.mk (.mk []))))])]) :: (.ap .lt [(.var 1), (.ap .len [(.ap (.usr 252) [(.var 0)])])]) :: al5), (.ap (.usr 256) [(.var 0), (.ap (.add .i64) [(.var 1), (I 1)])])),
 (((.ap .not [(.ap .lt [(.var 1), (.ap .len [(.ap (.usr 252) [(.var 0)])])])]) :: al5), (.ap (.usr 257) [(.var 0), (I 0)])),
 (((.ap .not [(.ap .lt [(.lit (.int .u8 126)), (.ap .sidx [(.var 0), (.var 2)])])]) :: (.ap .lt [(.var 2), (.ap .slen [(.var 0)])]) :: avh), (.ap (.usr 257) [(.var 0), (.ap (.add .i64) [(.var 2), (I 1)])]))]
def bf9 : List (List X × List (List X)) := [(((.ap .eq [(.ap (.cell 0) [(.ap (.usr 252) [(.var 0)]), (.var 1)]), (.lit (.string (.mk (.mk []))))]) :: (.ap .lt [(.var 1), (.ap .len [(.ap (.usr 252) [(.var 0)])])]) :: al5), [[(.ap (.nil true) [])]]),
 (((.ap (.usr 254) [(.ap (.cell 0) [(.ap (.usr 252) [(.var 0)]), (.var 1)])]) :: (.ap .not [(.ap .eq [(.ap (.cell 0) [(.ap (.usr 252) [(.var 0)]), (.var 1)]), (.lit (.string (.mk (.mk []))))])]) :: (.ap .lt [(.var 1), (.ap .len [(.ap (.usr 252) [(.var 0)])])]) :: al5), [[(.ap (.nil true) [])]]),
 (((.ap .lt [(.lit (.int .u8 126)), (.ap .sidx [(.var 0), (.var 2)])]) :: (.ap .lt [(.var 2), (.ap .slen [(.var 0)])]) :: avh), [[(.ap (.nil true) [])]]),
 (((.ap .not [(.ap .lt [(.var 2), (.ap .slen [(.var 0)])])]) :: avh), [[(.ap (.usr 252) [(.var 0)])]])]
theorem bh0 : runV Tryd.prog ⟨aew (tab T17), orV2 bae (orvK Tryd.prog (aew (tab T17)) 10 10 ⟨ai9 [], noY, U.lc⟩ 2), Tb.ent ⟨ai9 [], noY, U.lc⟩, 10, 10, none, Go.Sx.keyOf 17⟩ ⟨ad8 [(3, bie), (9, bj8)], hintA [(1, fun F H => [.ap .same [spX, spX]])]⟩ Tryd.f17 (abr Tryd.f17) SWrd = some (bgo, bf9) := by kernel_rfl
set_option maxHeartbeats 4000000 in
set_option maxRecDepth 100000 in
theorem c17 : aaq U Tryd.prog 17 SWrd := by
  refine aaq.ofW (P := Tryd.prog) (U := U) (T := (tab T17)) (l := []) (y := noY) (dp := 2) (f := 17) (fn := Tryd.f17) (fuel := 10) (fk := 10) (hs := ⟨ad8 [(3, bie), (9, bj8)], hintA [(1, fun F H => [.ap .same [spX, spX]])]⟩) (S := SWrd) (a := bae) (v := bgo) (outs := bf9) mixed hT17 ahu.nil a9w at17 (aeg (by kernel_rfl)) bh0 ?_ ?_
  · unfold bgo
    repeat' (first | exact ac9 _ | refine adp (fun v hh => ?_) ?_)
    all_goals
      simp only [aaz, aa5, aa4, aa6, abh, b_lt, b_le, b_eq, aa3, abf, aao, aci, aan, aa8, abj, w_mk, abd, aa1, w_l0, w_l1, aac, aag, aa2, aae, aad, aam, aak, a0t, bgr, bhp, bji, adw, ayx, al5, avh] at hh ⊢
      repeat (obtain ⟨_, hh⟩ := hh)
      try first | exact rfl | exact g_0 | exact n_0 | exact g_n (by assumption) (by assumption) (by assumption) (by assumption) (by assumption) (by assumption) | exact n_n (by assumption) (by assumption) (by assumption) (by assumption) (by assumption)
  · intro o ho σ hU hh
    obtain ⟨v⟩ := σ
    cases hU
    simp only [bf9, List.mem_cons, List.not_mem_nil, or_false] at ho
    repeat' (first | (rcases ho with rfl | ho) | subst ho)
    all_goals
      simp only [aaz, aa5, aa4, aa6, abh, b_lt, b_le, b_eq, aa3, abf, aao, aci, aan, aa8, abj, w_mk, abd, aa1, w_l0, w_l1, aac, aag, aa2, aae, aad, aam, aak, a0t, bgr, bhp, bji, adw, ayx, al5, avh] at hh
      repeat (obtain ⟨_, hh⟩ := hh)
      first
      | (have hk := bku (by assumption) (by assumption) (by assumption) (by assumption) (by assumption) (by assumption)
         exact ⟨_, List.mem_cons_self .., by simp only [aad, aae, aa2, aa3, aa0, aa1, alk, a0t, aag, w_l1, w_l0, aaz, aak]; exact ⟨hk, by simp, trivial⟩, rfl⟩)
      | (have hk : ¬ okW (line (v 0)) = true := by
           first | exact b_1 (by assumption) (by assumption) (by assumption) (by assumption) | exact b_2 (by assumption) (by assumption) (by assumption) (by assumption) | exact b_3 (by assumption) (by assumption) (by assumption) (by assumption)
         exact ⟨_, List.mem_cons_of_mem _ (List.mem_cons_self ..), by simp only [aad, aae, aa2, aa3, aa0, abj, aak, aa1, alk, aag, w_l1, w_l0, aaz]; exact ⟨hk, trivial, trivial⟩, rfl⟩)
end Go.Proofs.YtamhchkknlbanaaDoor.Be

namespace Go.Proofs.YtamhchkknlbanaaDoor.Be
open Go.Sx Go.Proofs
noncomputable def azc : Fsp := ⟨[(false, [.str])], [.ap .le [.ap .slen [.var 0], I 2500]], [(false, [.sl [.bool]]), (false, [.bool])], [([], [[.ap (.usr 206) [.var 0]], [.ap (.usr 258) [.var 0]]])], true⟩
noncomputable def lp21 : Lp := ⟨[(.slot 4, .own true [.bool]), (.slot 10, .int .i64)], [0, 2, 3, 8, 9], [], fun F H k => [.ap .le [zI, .var (k+2)], .ap .le [.var (k+2), .ap .slen [.var 0]], .ap .le [.var k, .var (k+2)], .ap .le [.var (k+2), .var k], .ap .same [.ap (.mk true) [.var (k+1)], .ap (.usr 208) [.var 0, .var (k+2)]], .ap (.usr 209) [.var 0, .var (k+2)]], fun F H k => .ap (.sub .i64) [.ap .slen [.var 0], .var (k+2)]⟩
abbrev bC (d : CD) (i : Int) : CD := (CD.sl false (d.str.toList.map afp)).cell i 0
theorem ako {d : CD} {i : Int} (h0 : 0 ≤ i) (hi : i < d.slen) (hT : Typ .str d) : bC d i = vInt .u8 (byAt d i) := by
 rw [abe hT] at hi
 have hlt : i.toNat < (by' d).length := by omega
 unfold bC CD.cell byAt
 show (((by' d).map afp).getD i.toNat []).getD 0 default = _
 have e : ((by' d).map afp).getD i.toNat [] = afp (by' d)[i.toNat] := by
  rw [List.getD_eq_getElem?_getD, List.getElem?_map, List.getElem?_eq_getElem hlt]
  rfl
 have e2 : (by' d).getD i.toNat 0 = (by' d)[i.toNat] := by
  rw [List.getD_eq_getElem?_getD, List.getElem?_eq_getElem hlt]
  rfl
 rw [e, e2]
 rfl
theorem kb_n {d : CD} {r : List (List CD)} {i : Int} (hr : r = ajc ((by' d).take i.toNat)) (h0 : 0 ≤ i) (hi : i < d.slen) (hT : Typ .str d) : r ++ ([] ++ [[aaf (eqC (bC d i) (vInt .u8 49))]]) = ajc ((by' d).take (i + 1).toNat) := by
 rw [ako h0 hi hT]
 exact a3c hr h0 hi hT
theorem kb_1 {d : CD} {i : Int} (h : eqC (bC d i) (vInt .u8 49) = true) (hb : abx ((by' d).take i.toNat) = true) (h0 : 0 ≤ i) (hi : i < d.slen) (hT : Typ .str d) : abx ((by' d).take (i + 1).toNat) = true := by
 rw [ako h0 hi hT] at h
 exact a3m h hb h0 hi hT
theorem kb_2 {d : CD} {i : Int} (h : eqC (bC d i) (vInt .u8 48) = true) (hb : abx ((by' d).take i.toNat) = true) (h0 : 0 ≤ i) (hi : i < d.slen) (hT : Typ .str d) : abx ((by' d).take (i + 1).toNat) = true := by
 rw [ako h0 hi hT] at h
 exact a2x h hb h0 hi hT
theorem bh4 {d : CD} {i : Int} (h1 : ¬ eqC (bC d i) (vInt .u8 49) = true) (h2 : ¬ eqC (bC d i) (vInt .u8 48) = true) (h0 : 0 ≤ i) (hi : i < d.slen) (hT : Typ .str d) : [[mkz (alz (by' d))], [aaf (abx (by' d))]] = [[CD.sl true []], [aaf false]] := by
 rw [ako h0 hi hT] at h1 h2
 have h := awo h1 h2 h0 hi hT
 rw [abe hT] at hi
 rw [decide_eq_true (show 0 < (by' d).length by omega), Bool.and_true] at h
 exact h
theorem kb_y {d : CD} {r : List (List CD)} {i : Int} (hr : r = ajc ((by' d).take i.toNat)) (hb : abx ((by' d).take i.toNat) = true) (hi : ¬ i < d.slen) (hT : Typ .str d) : [[mkz (alz (by' d))], [aaf (abx (by' d))]] = [[mkz r], [aaf true]] := by
 rw [asc hi hT] at hr hb
 unfold alz
 rw [if_pos hb, hb, hr]
abbrev akh : List X := [(.ap .le [(I 0), (.var 3)]), (.ap .le [(.var 3), (.ap .slen [(.var 0)])]), (.ap .le [(.var 1), (.var 3)]), (.ap .le [(.var 3), (.var 1)]), (.ap .same [(.ap (.mk true) [(.var 2)]), (.ap (.usr 208) [(.var 0), (.var 3)])]), (.ap (.usr 209) [(.var 0), (.var 3)]), (.ap (.typ .str) [(.var 0)]), (.ap .le [(.ap .slen [(.var 0)]), (I 2500)])]
def beu : List VC := [([(.ap (.typ .str) [(.var 0)]), (.ap .le [(.ap .slen [(.var 0)]), (I 2500)])], (.ap .same [(.ap (.mk true) [(.ap (.nil true) [])]), (.ap (.usr 208) [(.var 0), (I 0)])])),
 ([(.ap (.typ .str) [(.var 0)]), (.ap .le [(.ap .slen [(.var 0)]), (I 2500)])], (.ap (.usr 209) [(.var 0), (I 0)])),
 (((.ap .eq [(.ap (.cell 0) [(.ap .byt [(.var 0)]), (.var 3)]), (.lit (.int .u8 49))]) :: (.ap .not [(.ap .eq [(.ap (.cell 0) [(.ap .byt [(.var 0)]), (.var 3)]), (.lit (.int .u8 48))])]) :: (.ap .lt [(.var 3), (.ap (.cast .i64) [(.ap .slen [(.var 0)])])]) :: akh), (.ap .same [(.ap (.mk true) [(.ap .cat [(.var 2), (.ap .snoc [(.ap (.nil false) []), (.ap .eq [(.ap (.cell 0) [(.ap .byt [(.var 0)]), (.var 3)]), (.lit (.int .u8 49))])])])]), (.ap (.usr 208) [(.var 0), (.ap (.add .i64) [(.var 3), (I 1)])])])),
 (((.ap .eq [(.ap (.cell 0) [(.ap .byt [(.var 0)]), (.var 3)]), (.lit (.int .u8 49))]) :: (.ap .not [(.ap .eq [(.ap (.cell 0) [(.ap .byt [(.var 0)]), (.var 3)]), (.lit (.int .u8 48))])]) :: (.ap .lt [(.var 3), (.ap (.cast .i64) [(.ap .slen [(.var 0)])])]) :: akh), (.ap (.usr 209) [(.var 0), (.ap (.add .i64) [(.var 3), (I 1)])])),
 (((.ap .eq [(.ap (.cell 0) [(.ap .byt [(.var 0)]), (.var 3)]), (.lit (.int .u8 48))]) :: (.ap .lt [(.var 3), (.ap (.cast .i64) [(.ap .slen [(.var 0)])])]) :: akh), (.ap .same [(.ap (.mk true) [(.ap .cat [(.var 2), (.ap .snoc [(.ap (.nil false) []), (.ap .eq [(.ap (.cell 0) [(.ap .byt [(.var 0)]), (.var 3)]), (.lit (.int .u8 49))])])])]), (.ap (.usr 208) [(.var 0), (.ap (.add .i64) [(.var 3), (I 1)])])])),
 (((.ap .eq [(.ap (.cell 0) [(.ap .byt [(.var 0)]), (.var 3)]), (.lit (.int .u8 48))]) :: (.ap .lt [(.var 3), (.ap (.cast .i64) [(.ap .slen [(.var 0)])])]) :: akh), (.ap (.usr 209) [(.var 0), (.ap (.add .i64) [(.var 3), (I 1)])]))]
def bfq : List (List X × List (List X)) := [(((.ap .not [(.ap .eq [(.ap (.cell 0) [(.ap .byt [(.var 0)]), (.var 3)]), (.lit (.int .u8 49))])]) :: (.ap .not [(.ap .eq [(.ap (.cell 0) [(.ap .byt [(.var 0)]), (.var 3)]), (.lit (.int .u8 48))])]) :: (.ap .lt [(.var 3), (.ap (.cast .i64) [(.ap .slen [(.var 0)])])]) :: akh), [[(.ap (.nil true) [])], [(.lit (.bool false))]]),
 (((.ap .not [(.ap .lt [(.var 3), (.ap (.cast .i64) [(.ap .slen [(.var 0)])])])]) :: akh), [[(.ap (.mk true) [(.var 2)])], [(.lit (.bool true))]])]
theorem biy : runS Tryd.prog (aew T0) 10 10 ⟨ad8 [(3, lp21)], hintA []⟩ Tryd.f21 (abr Tryd.f21) azc = some (beu, bfq) := by kernel_rfl
set_option maxHeartbeats 4000000 in
set_option maxRecDepth 100000 in
theorem c21 : aaq U Tryd.prog 21 azc := by
 refine aaq.of (P := Tryd.prog) (U := U) (T := T0) (f := 21) (fn := Tryd.f21) (fuel := 10) (fk := 10) (hs := ⟨ad8 [(3, lp21)], hintA []⟩) (S := azc) (v := beu) (outs := bfq) mixed hT0 at21 biy ?_ ?_
 ·unfold beu
  repeat' (first | exact ac9 _ | refine adp (fun v hh => ?_) ?_)
  all_goals
   simp only [aaz, aa5, aa4, aa6, abh, aap, b_lt, b_le, b_eq, aa3, abf, aao, aan, aa8, abj, w_mk, aat, abq, abd, ac0, aa1, w_l0, w_l1, aac, aag, aa2, aae, aad, aam, aak, aod, a0v, a07, a3j, mnX, mxX, ad3, acg, ac4, ab3, abk, adw, w_eq, ad5, ac7, agm, akh] at hh ⊢
   repeat (obtain ⟨_, hh⟩ := hh)
   try (first | grind [= aac, = aac] | (apply ay8 <;> first | assumption | grind [= aac]) | (apply a8o <;> first | assumption | grind [= aac]) | (apply kb_n <;> first | assumption | grind [= aac]) | (apply kb_1 <;> first | assumption | grind [= aac]) | (apply kb_2 <;> first | assumption | grind [= aac]) | (apply bh4 <;> first | assumption | grind [= aac]) | (apply kb_y <;> first | assumption | grind [= aac]))
 ·intro o ho σ hU hh
  obtain ⟨v⟩ := σ
  cases hU
  simp only [bfq, List.mem_cons, List.not_mem_nil, or_false] at ho
  repeat' (first | (rcases ho with rfl | ho) | subst ho)
  all_goals
   refine ⟨_, List.mem_cons_self .., by simp only [aaz, aa5, aa4, aa6, abh, aap, b_lt, b_le, b_eq, aa3, abf, aao, aan, aa8, abj, w_mk, aat, abq, abd, ac0, aa1, w_l0, w_l1, aac, aag, aa2, aae, aad, aam, aak], ?_⟩
   simp only [aaz, aa5, aa4, aa6, abh, aap, b_lt, b_le, b_eq, aa3, abf, aao, aan, aa8, abj, w_mk, aat, abq, abd, ac0, aa1, w_l0, w_l1, aac, aag, aa2, aae, aad, aam, aak, aod, a0v, a07, a3j, mnX, mxX, ad3, acg, ac4, ab3, abk, adw, w_eq, ad5, ac7, agm, akh] at hh
   simp only [List.map_cons, List.map_nil, aaz, aa5, aa4, aa6, abh, aap, b_lt, b_le, b_eq, aa3, abf, aao, aan, aa8, abj, w_mk, aat, abq, abd, ac0, aa1, w_l0, w_l1, aac, aag, aa2, aae, aad, aam, aak, w_lt, w_le, w_eq, al8, ai1, aok, aod, a0v, a07, a3j, mnX, mxX, ad3, acg, ac4, ab3, abk, adw, w_eq, ad5, ac7, agm]
   repeat (obtain ⟨_, hh⟩ := hh)
   try (first | grind [= aac, = aac] | (apply ay8 <;> first | assumption | grind [= aac]) | (apply a8o <;> first | assumption | grind [= aac]) | (apply kb_n <;> first | assumption | grind [= aac]) | (apply kb_1 <;> first | assumption | grind [= aac]) | (apply kb_2 <;> first | assumption | grind [= aac]) | (apply bh4 <;> first | assumption | grind [= aac]) | (apply kb_y <;> first | assumption | grind [= aac]))
end Go.Proofs.YtamhchkknlbanaaDoor.Be

namespace Go.Proofs.YtamhchkknlbanaaDoor.Be
open Go.Sx Go.Proofs
abbrev sixL : List UInt8 := [48, 49, 50, 51, 52, 53, 54, 55, 56, 57, 97, 98, 99, 100, 101, 102]
abbrev sixC : CD := .v (.string ⟨⟨sixL⟩⟩)
theorem blg {n : Nat} (h : (n : Int) ≤ 2500) : (orV (acf .quo .i64 (n : Int) 2)).iv = (n : Int) / 2 := by
 have : acf .quo .i64 (n : Int) 2 = some (.int .i64 (IntKind.i64.wrap ((n : Int).tdiv 2))) := rfl
 rw [this]
 show IntKind.i64.wrap ((n : Int).tdiv 2) = _
 haveI : Sg := @Sg.mk U fun _ => default
 rw [Int.tdiv_eq_ediv_of_nonneg (by omega), awp (k := .i64) (by show (-9223372036854775808 : Int) ≤ _; omega) (by show _ ≤ (9223372036854775807 : Int); omega)]
noncomputable def opq {α : Type} (x : α) : α := Classical.choose (⟨x, rfl⟩ : ∃ y, y = x)
theorem azf {α : Type} {x : α} : opq x = x := Classical.choose_spec (⟨x, rfl⟩ : ∃ y, y = x)
noncomputable def quoI (a : Int) : Int := opq (orV (acf .quo .i64 a 2)).iv
theorem aw4 {a : Int} : (orV (acf .quo .i64 a 2)).iv = quoI a := azf.symm
noncomputable def remC (a : Int) : CD := opq (orV (acf .rem .i64 a 2))
theorem axa {a : Int} : orV (acf .rem .i64 a 2) = remC a := azf.symm
noncomputable def nibI (a b : Int) : Int := opq (IntKind.u8.wrap (orV (acf .or .i64 (orV (agl .shl .i64 a 4)).iv b)).iv)
theorem awt {a b : Int} : IntKind.u8.wrap (orV (acf .or .i64 (orV (agl .shl .i64 a 4)).iv b)).iv = nibI a b := azf.symm
theorem a0k {n : Nat} (h : (n : Int) ≤ 2500) : quoI n = (n : Int) / 2 := by rw [← aw4, blg h]
noncomputable def digI (a : Int) : Int := opq (digV a)
theorem d_eq {a : Int} : digI a = digV a := azf
theorem bii : ((List.range 256).all fun n => decide (Lib.indexByte sixL (UInt8.ofNat n) = digV n)) = true := by kernel_rfl
theorem be1 : ((List.range 16).all fun a => (List.range 16).all fun b => decide (IntKind.u8.wrap (orV (acf .or .i64 (orV (agl .shl .i64 (a : Int) 4)).iv (b : Int))).iv = 16 * (a : Int) + b)) = true := by kernel_rfl
theorem bdd {d : CD} {i : Int} : Lib.indexByte (by' sixC) (byAt d i).toNat.toUInt8 = digI (byAt d i) := by
 rw [d_eq]
 have e : by' sixC = sixL := by_v _
 rw [e]
 unfold byAt
 have hb := ((by' d).getD i.toNat 0).toNat_lt
 have := List.all_eq_true.1 bii ((by' d).getD i.toNat 0).toNat (List.mem_range.2 hb)
 rw [decide_eq_true_eq] at this
 rw [← this]
 rfl
theorem nib {a b : Int} (h1 : 0 ≤ a) (h2 : a ≤ 15) (h3 : 0 ≤ b) (h4 : b ≤ 15) : IntKind.u8.wrap (orV (acf .or .i64 (orV (agl .shl .i64 a 4)).iv b)).iv = 16 * a + b := by
 obtain ⟨x, rfl⟩ := Int.eq_ofNat_of_zero_le h1
 obtain ⟨y, rfl⟩ := Int.eq_ofNat_of_zero_le h3
 have := List.all_eq_true.1 (List.all_eq_true.1 be1 x (List.mem_range.2 (by omega))) y (List.mem_range.2 (by omega))
 rwa [decide_eq_true_eq] at this
theorem axj : ∀ (n : Nat) (l : List UInt8), l.length ≤ n → (hexR l).length = l.length / 2
 | _, [], _ => rfl
 | _, [_], _ => by simp [hexR]
 | 0, _ :: _ :: _, h => by simp at h
 | n + 1, a :: b :: r, h => by
  show (hexR r).length + 1 = (r.length + 1 + 1) / 2
  rw [axj n r (by simp only [List.length_cons] at h; omega)]
  omega
theorem take2 {l : List UInt8} {k : Nat} (h : 2 * k + 1 < l.length) : l.take (2 * (k + 1)) = l.take (2 * k) ++ [l.getD (2 * k) 0, l.getD (2 * k + 1) 0] := by
 have h1 : l.take (2 * k + 1 + 1) = l.take (2 * k + 1) ++ [l.getD (2 * k + 1) 0] := by
  rw [List.take_add_one, List.getD_eq_getElem?_getD, List.getElem?_eq_getElem h]
  rfl
 have h2 : l.take (2 * k + 1) = l.take (2 * k) ++ [l.getD (2 * k) 0] := by
  rw [List.take_add_one, List.getD_eq_getElem?_getD, List.getElem?_eq_getElem (by omega)]
  rfl
 rw [show 2 * (k + 1) = 2 * k + 1 + 1 by omega, h1, h2, List.append_assoc]
 rfl
theorem bc9 {α : Type} {f : α → α} {x : α} {r : List α} : ∀ (p : List α), (p ++ x :: r).modify p.length f = p ++ f x :: r
 | [] => rfl
 | a :: p => by
  show a :: (p ++ x :: r).modify p.length f = _
  rw [bc9 p]
  rfl
theorem bkm {l : List UInt8} {k : Nat} (h : 2 * k + 1 < l.length) : setCell (hexP l k) k 0 (vInt .u8 (bgb (l.getD (2 * k) 0) (l.getD (2 * k + 1) 0))) = hexP l (k + 1) := by
 have hl : (hexR (l.take (2 * k))).length = k := by
  rw [axj _ _ (Nat.le_refl _), List.length_take]
  omega
 have ev : (l.take (2 * k)).length % 2 = 0 := by rw [List.length_take]; omega
 unfold hexP setCell
 obtain ⟨m, hm⟩ : ∃ m, l.length / 2 - k = m + 1 := ⟨l.length / 2 - k - 1, by omega⟩
 rw [hm, List.replicate_succ, show l.length / 2 - (k + 1) = m by omega, take2 h, aik ev]
 have := bc9 (f := fun r => r.set 0 (vInt .u8 (bgb (l.getD (2 * k) 0) (l.getD (2 * k + 1) 0)))) (x := [vInt .u8 0]) (r := List.replicate m [vInt .u8 0]) (hexR (l.take (2 * k)))
 rw [hl] at this
 rw [this, List.append_assoc]
 rfl
theorem bh7 {l : List UInt8} {k : Nat} (h : 2 * k + 1 < l.length) (hb : hexB (l.take (2 * k)) = true) (h1 : 0 ≤ digV (l.getD (2 * k) 0).toNat) (h2 : 0 ≤ digV (l.getD (2 * k + 1) 0).toNat) : hexB (l.take (2 * (k + 1))) = true := by
 have ev : (l.take (2 * k)).length % 2 = 0 := by rw [List.length_take]; omega
 rw [take2 h, af6 ev, hb]
 have e : hexB [l.getD (2 * k) 0, l.getD (2 * k + 1) 0] = (decide (0 ≤ digV (l.getD (2 * k) 0).toNat) && decide (0 ≤ digV (l.getD (2 * k + 1) 0).toNat) && hexB []) := rfl
 rw [e, decide_eq_true h1, decide_eq_true h2]
 rfl
theorem ba6 {l : List UInt8} {k : Nat} (h : 2 * k + 1 < l.length) (hx : digV (l.getD (2 * k) 0).toNat < 0 ∨ digV (l.getD (2 * k + 1) 0).toNat < 0) : hexB l = false := by
 have hs : l = l.take (2 * (k + 1)) ++ l.drop (2 * (k + 1)) := (List.take_append_drop _ _).symm
 have ev : (l.take (2 * k)).length % 2 = 0 := by rw [List.length_take]; omega
 rw [hs, take2 h, List.append_assoc, af6 ev]
 have e : (decide (0 ≤ digV (l.getD (2 * k) 0).toNat) && decide (0 ≤ digV (l.getD (2 * k + 1) 0).toNat)) = false := by
  rw [Bool.and_eq_false_iff]
  rcases hx with hx | hx
  ·exact .inl (decide_eq_false (by omega))
  ·exact .inr (decide_eq_false (by omega))
 show (_ && ((_ && _) && _)) = false
 rw [e]
 simp
theorem q_0 {d : CD} (h : (d.slen : Int) ≤ 2500) : 0 ≤ (quoI d.slen) := by rw [a0k h]; omega
theorem q_1 {d : CD} (h : (d.slen : Int) ≤ 2500) : (quoI d.slen) ≤ 1250 := by rw [a0k h]; omega
theorem q_z {d : CD} (hT : Typ .str d) (h : (d.slen : Int) ≤ 2500) : CD.sl (false && (List.replicate (quoI d.slen).toNat [CD.v (.int .u8 0)]).isEmpty) (List.replicate (quoI d.slen).toNat [CD.v (.int .u8 0)]) = CD.sl false (hexP (by' d) (Int.toNat 0)) := by
 rw [a0k h, abe hT]
 show CD.sl false _ = _
 have : (((by' d).length : Int) / 2).toNat = (by' d).length / 2 := by omega
 rw [this]
 rfl
theorem q_a {d : CD} {i : Int} (hi : i < (quoI d.slen)) (h : (d.slen : Int) ≤ 2500) : 2 * i + 1 < (d.slen : Int) := by rw [a0k h] at hi; omega
theorem q_b {d : CD} {i : Int} (hi : i < (quoI d.slen)) (h : (d.slen : Int) ≤ 2500) (h0 : 0 ≤ i) : 2 * i < (d.slen : Int) := by rw [a0k h] at hi; omega
theorem at_2 {d : CD} {i : Int} (h0 : 0 ≤ i) : byAt d (2 * i) = (((by' d).getD (2 * i.toNat) 0).toNat : Int) ∧ byAt d (2 * i + 1) = (((by' d).getD (2 * i.toNat + 1) 0).toNat : Int) := by
 unfold byAt
 rw [show (2 * i).toNat = 2 * i.toNat by omega, show (2 * i + 1).toNat = 2 * i.toNat + 1 by omega]
 exact ⟨rfl, rfl⟩
theorem q_n {d : CD} {r : List (List CD)} {i : Int} (hr : CD.sl (false && r.isEmpty) r = CD.sl false (hexP (by' d) i.toNat)) (h1 : ¬ digI (byAt d (2 * i)) < 0) (h2 : ¬ digI (byAt d (2 * i + 1)) < 0) (h3 : 2 * i + 1 < (d.slen : Int)) (h0 : 0 ≤ i) (hT : Typ .str d) :
  CD.sl (false && (setCell r i.toNat 0 (vInt .u8 (nibI (digI (byAt d (2 * i))) (digI (byAt d (2 * i + 1)))))).isEmpty) (setCell r i.toNat 0 (vInt .u8 (nibI (digI (byAt d (2 * i))) (digI (byAt d (2 * i + 1)))))) = CD.sl false (hexP (by' d) (i + 1).toNat) := by
 simp only [d_eq] at h1 h2 ⊢
 have hr : CD.sl false r = CD.sl false (hexP (by' d) i.toNat) := hr
 cases hr
 rw [← awt, nib (by omega) a9y (by omega) a9y, (at_2 h0).1, (at_2 h0).2, show (i + 1).toNat = i.toNat + 1 by omega]
 rw [abe hT] at h3
 show CD.sl false _ = _
 exact congrArg (CD.sl false) (bkm (l := by' d) (k := i.toNat) (by omega))
theorem q_ok {d : CD} {i : Int} (hb : hexB ((by' d).take (2 * i.toNat)) = true) (h1 : ¬ digI (byAt d (2 * i)) < 0) (h2 : ¬ digI (byAt d (2 * i + 1)) < 0) (h3 : 2 * i + 1 < (d.slen : Int)) (h0 : 0 ≤ i) (hT : Typ .str d) : hexB ((by' d).take (2 * (i + 1).toNat)) = true := by
 simp only [d_eq] at h1 h2
 rw [(at_2 h0).1] at h1
 rw [(at_2 h0).2] at h2
 rw [abe hT] at h3
 rw [show (i + 1).toNat = i.toNat + 1 by omega]
 exact bh7 (by omega) hb (by omega) (by omega)
theorem q_no {d : CD} {i : Int} (hx : digI (byAt d (2 * i)) < 0 ∨ digI (byAt d (2 * i + 1)) < 0) (h3 : 2 * i + 1 < (d.slen : Int)) (h0 : 0 ≤ i) (hT : Typ .str d) : [[if hexB (by' d) = true then CD.sl false (hexR (by' d)) else CD.sl true []], [aaf (hexB (by' d) && decide ((by' d).length % 2 = 0))]] = [[CD.sl true []], [aaf false]] := by
 simp only [d_eq] at hx
 rw [(at_2 h0).1, (at_2 h0).2] at hx
 rw [abe hT] at h3
 rw [ba6 (by omega) hx]
 rfl
theorem q_y {d : CD} {r : List (List CD)} {i n : Int} (hr : CD.sl (false && r.isEmpty) r = CD.sl false (hexP (by' d) i.toNat)) (hb : hexB ((by' d).take (2 * i.toNat)) = true) (h1 : ¬ i < (quoI d.slen)) (h2 : i ≤ n) (h3 : n ≤ (quoI d.slen)) (h0 : 0 ≤ i) (hT : Typ .str d) (h : (d.slen : Int) ≤ 2500) : [[if hexB (by' d) = true then CD.sl false (hexR (by' d)) else CD.sl true []], [aaf (hexB (by' d) && decide ((by' d).length % 2 = 0))]] = [[CD.sl (false && r.isEmpty) r], [aaf (eqC (remC d.slen) (vInt .i64 0))]] := by
 rw [hr]
 rw [a0k h, abe hT] at h1 h3
 have hs : by' d = ((by' d).take (2 * i.toNat)) ++ (by' d).drop (2 * i.toNat) := (List.take_append_drop _ _).symm
 have ev : ((by' d).take (2 * i.toNat)).length % 2 = 0 := by rw [List.length_take]; omega
 have hd : ((by' d).drop (2 * i.toNat)).length ≤ 1 := by rw [List.length_drop]; omega
 have e1 : hexB ((by' d).drop (2 * i.toNat)) = true ∧ hexR ((by' d).drop (2 * i.toNat)) = [] := by
  generalize (by' d).drop (2 * i.toNat) = q at hd
  match q, hd with
  | [], _ => exact ⟨rfl, rfl⟩
  | [_], _ => exact ⟨rfl, rfl⟩
  | _ :: _ :: _, hd => simp at hd
 have e2 := af6 (q := (by' d).drop (2 * i.toNat)) ev
 have e3 := aik (q := (by' d).drop (2 * i.toNat)) ev
 rw [← hs, hb, e1.1] at e2
 rw [← hs, e1.2, List.append_nil] at e3
 have e4 : hexP (by' d) i.toNat = hexR (by' d) := by
  unfold hexP
  rw [show (by' d).length / 2 - i.toNat = 0 by omega, e3]
  simp
 have hsl : d.slen = (by' d).length := by have := abe hT; omega
 rw [e4, e2, ← axa, bi0, hsl]
 rfl
theorem q_z0 {l : List UInt8} : hexB (l.take (2 * Int.toNat 0)) = true := rfl
noncomputable def T20 : List (FuncId × Fsp) := [(47, SIdx)]
set_option maxRecDepth 100000 in
theorem hT20 : ajg U Tryd.prog T20 := .cons c47 .nil
noncomputable def azs : Fsp := ⟨[(false, [.str])], [.ap .le [.ap .slen [.var 0], I 2500]], [(false, [.sl [.int .u8]]), (false, [.bool])], [([], [[.ap (.usr 260) [.var 0]], [.ap (.usr 259) [.var 0]]])], true⟩
abbrev qX : X := .ap (.bin .quo .i64) [.ap .slen [.var 0], I 2]
noncomputable def lp20 : Lp := ⟨[(.slot 4, .own false [.int .u8]), (.slot 14, .int .i64)], [0, 2, 3, 13], [], fun F H k => [.ap .le [zI, .var (k+2)], .ap .le [.var (k+2), .var k], .ap .le [.var k, qX], .ap .le [qX, .var k], .ap .same [.ap (.mk false) [.var (k+1)], .ap (.usr 261) [.var 0, .var (k+2)]], .ap (.usr 262) [.var 0, .var (k+2)]], fun F H k => .ap (.sub .i64) [.var k, .var (k+2)]⟩
abbrev at5 : List X := [(.ap .le [(I 0), (.ap (.bin .quo .i64) [(.ap .slen [(.var 0)]), (I 2)])]), (.ap .le [(.ap (.bin .quo .i64) [(.ap .slen [(.var 0)]), (I 2)]), (I 1250)]), (.ap (.typ .str) [(.var 0)]), (.ap .le [(.ap .slen [(.var 0)]), (I 2500)])]
abbrev apv : List X := (.ap .le [(I 0), (.var 3)]) :: (.ap .le [(.var 3), (.var 1)]) :: (.ap .le [(.var 1), (.ap (.bin .quo .i64) [(.ap .slen [(.var 0)]), (I 2)])]) :: (.ap .le [(.ap (.bin .quo .i64) [(.ap .slen [(.var 0)]), (I 2)]), (.var 1)]) :: (.ap .same [(.ap (.mk false) [(.var 2)]), (.ap (.usr 261) [(.var 0), (.var 3)])]) :: (.ap (.usr 262) [(.var 0), (.var 3)]) :: at5
abbrev apu : List X := (.ap .le [(I 0), (.ap (.mul .i64) [(I 2), (.var 3)])]) :: (.ap .lt [(.ap (.add .i64) [(.ap (.mul .i64) [(I 2), (.var 3)]), (I 1)]), (.ap .slen [(.var 0)])]) :: (.ap .lt [(.ap (.mul .i64) [(I 2), (.var 3)]), (.ap .slen [(.var 0)])]) :: (.ap .lt [(.var 3), (.ap (.cast .i64) [(.ap (.cast .i64) [(.ap (.bin .quo .i64) [(.ap .slen [(.var 0)]), (I 2)])])])]) :: apv
def bfk : List VC := [([(.ap (.typ .str) [(.var 0)]), (.ap .le [(.ap .slen [(.var 0)]), (I 2500)])], (.ap .le [(I 0), (.ap (.bin .quo .i64) [(.ap .slen [(.var 0)]), (I 2)])])),
 ([(.ap (.typ .str) [(.var 0)]), (.ap .le [(.ap .slen [(.var 0)]), (I 2500)])], (.ap .le [(.ap (.bin .quo .i64) [(.ap .slen [(.var 0)]), (I 2)]), (I 1250)])),
 (at5, (.ap .same [(.ap (.mk false) [(.ap .rep [(.ap (.bin .quo .i64) [(.ap .slen [(.var 0)]), (I 2)]), (.lit (.int .u8 0))])]), (.ap (.usr 261) [(.var 0), (I 0)])])),
 (at5, (.ap (.usr 262) [(.var 0), (I 0)])),
 (((.ap .lt [(.var 3), (.ap (.cast .i64) [(.ap (.cast .i64) [(.ap (.bin .quo .i64) [(.ap .slen [(.var 0)]), (I 2)])])])]) :: apv), (.ap .lt [(.ap (.add .i64) [(.ap (.mul .i64) [(I 2), (.var 3)]), (I 1)]), (.ap .slen [(.var 0)])])),
 (((.ap .lt [(.var 3), (.ap (.cast .i64) [(.ap (.cast .i64) [(.ap (.bin .quo .i64) [(.ap .slen [(.var 0)]), (I 2)])])])]) :: apv), (.ap .lt [(.ap (.mul .i64) [(I 2), (.var 3)]), (.ap .slen [(.var 0)])])),
 (((.ap .not [(.ap .lt [(.ap (.usr 255) [(.lit (.string (.mk (.mk [48, 49, 50, 51, 52, 53, 54, 55, 56, 57, 97, 98, 99, 100, 101, 102])))), (.ap .sidx [(.var 0), (.ap (.add .i64) [(.ap (.mul .i64) [(I 2), (.var 3)]), (I 1)])])]), (I 0)])]) :: (.ap .not [(.ap .lt [(.ap (.usr 255) [(.lit (.string (.mk (.mk [48, 49, 50, 51, 52, 53, 54, 55, 56, 57, 97, 98, 99, 100, 101, 102])))), (.ap .sidx [(.var 0), (.ap (.mul .i64) [(I 2), (.var 3)])])]), (I 0)])]) :: apu), (.ap .same [(.ap (.mk false) [(.ap (.upd 0) [(.var 2), (.var 3), (.ap (.wr .u8) [(.ap (.cast .u8) [(.ap (.bin .or .i64) [(.ap (.shf .shl .i64) [(.ap (.usr 255) [(.lit (.string (.mk (.mk [48, 49, 50, 51, 52, 53, 54, 55, 56, 57, 97, 98, 99, 100, 101, 102])))), (.ap .sidx [(.var 0), (.ap (.mul .i64) [(I 2), (.var 3)])])]), (.lit (.int .u64 4))]), (.ap (.usr 255) [(.lit (.string (.mk (.mk [48, 49, 50, 51, 52, 53, 54, 55, 56, 57, 97, 98, 99, 100, 101, 102])))), (.ap .sidx [(.var 0), (.ap (.add .i64) [(.ap (.mul .i64) [(I 2), (.var 3)]), (I 1)])])])])])])])]), (.ap (.usr 261) [(.var 0), (.ap (.add .i64) [(.var 3), (I 1)])])])),
 (((.ap .not [(.ap .lt [(.ap (.usr 255) [(.lit (.string (.mk (.mk [48, 49, 50, 51, 52, 53, 54, 55, 56, 57, 97, 98, 99, 100, 101, 102])))), (.ap .sidx [(.var 0), (.ap (.add .i64) [(.ap (.mul .i64) [(I 2), (.var 3)]), (I 1)])])]), (I 0)])]) :: (.ap .not [(.ap .lt [(.ap (.usr 255) [(.lit (.string (.mk (.mk [48, 49, 50, 51, 52, 53, 54, 55, 56, 57, 97, 98, 99, 100, 101, 102])))), (.ap .sidx [(.var 0), (.ap (.mul .i64) [(I 2), (.var 3)])])]), (I 0)])]) :: apu), (.ap (.usr 262) [(.var 0), (.ap (.add .i64) [(.var 3), (I 1)])]))]
def be4 : List (List X × List (List X)) := [(((.ap .lt [(.ap (.usr 255) [(.lit (.string (.mk (.mk [48, 49, 50, 51, 52, 53, 54, 55, 56, 57, 97, 98, 99, 100, 101, 102])))), (.ap .sidx [(.var 0), (.ap (.mul .i64) [(I 2), (.var 3)])])]), (I 0)]) :: apu), [[(.ap (.nil true) [])], [(.lit (.bool false))]]),
 (((.ap .lt [(.ap (.usr 255) [(.lit (.string (.mk (.mk [48, 49, 50, 51, 52, 53, 54, 55, 56, 57, 97, 98, 99, 100, 101, 102])))), (.ap .sidx [(.var 0), (.ap (.add .i64) [(.ap (.mul .i64) [(I 2), (.var 3)]), (I 1)])])]), (I 0)]) :: (.ap .not [(.ap .lt [(.ap (.usr 255) [(.lit (.string (.mk (.mk [48, 49, 50, 51, 52, 53, 54, 55, 56, 57, 97, 98, 99, 100, 101, 102])))), (.ap .sidx [(.var 0), (.ap (.mul .i64) [(I 2), (.var 3)])])]), (I 0)])]) :: apu), [[(.ap (.nil true) [])], [(.lit (.bool false))]]),
 (((.ap .not [(.ap .lt [(.var 3), (.ap (.cast .i64) [(.ap (.cast .i64) [(.ap (.bin .quo .i64) [(.ap .slen [(.var 0)]), (I 2)])])])])]) :: apv), [[(.ap (.mk false) [(.var 2)])], [(.ap .eq [(.ap (.bin .rem .i64) [(.ap .slen [(.var 0)]), (I 2)]), (I 0)])]])]
theorem bj5 : runS Tryd.prog (aew (tab T20)) 10 10 ⟨ad8 [(3, lp20)], hintA [(1, fun F H => [.ap .le [zI, qX], .ap .le [qX, I 1250]]), (5, fun F H => [.ap .le [zI, .ap (.mul .i64) [I 2, sx F 5]], .ap .lt [.ap (.add .i64) [.ap (.mul .i64) [I 2, sx F 5], I 1], .ap .slen [.var 0]], .ap .lt [.ap (.mul .i64) [I 2, sx F 5], .ap .slen [.var 0]]])]⟩ Tryd.f20 (abr Tryd.f20) azs = some (bfk, be4) := by kernel_rfl
set_option maxHeartbeats 400000 in
set_option maxRecDepth 100000 in
theorem c20 : aaq U Tryd.prog 20 azs := by
 refine aaq.of (P := Tryd.prog) (U := U) (T := (tab T20)) (f := 20) (fn := Tryd.f20) (fuel := 10) (fk := 10) (hs := ⟨ad8 [(3, lp20)], hintA [(1, fun F H => [.ap .le [zI, qX], .ap .le [qX, I 1250]]), (5, fun F H => [.ap .le [zI, .ap (.mul .i64) [I 2, sx F 5]], .ap .lt [.ap (.add .i64) [.ap (.mul .i64) [I 2, sx F 5], I 1], .ap .slen [.var 0]], .ap .lt [.ap (.mul .i64) [I 2, sx F 5], .ap .slen [.var 0]]])]⟩) (S := azs) (v := bfk) (outs := be4) mixed hT20 at20 bj5 ?_ ?_
 ·unfold bfk
  repeat' (first | exact ac9 _ | refine adp (fun v hh => ?_) ?_)
  all_goals
   simp only [aaz, aa5, aa4, aa6, abh, ab7, aap, w_wr, b_lt, b_le, b_eq, aa3, b_or, abf, aao, aan, abj, w_mk, ac1, acy, abd, aa1, acd, w_l0, w_l1, aac, aag, aa2, aae, aad, aam, aak, acz, bg3, bi4, bju, adw, bdd, aw4, axa, awt, at5, apv, apu] at hh ⊢
   repeat (obtain ⟨_, hh⟩ := hh)
   try first | exact q_0 (by assumption) | exact q_1 (by assumption) | exact q_z (by assumption) (by assumption) | exact q_z0 | exact q_a (by assumption) (by assumption) | exact q_b (by assumption) (by assumption) (by assumption) | exact q_n (by assumption) (by assumption) (by assumption) (by assumption) (by assumption) (by assumption) | exact q_ok (by assumption) (by assumption) (by assumption) (by assumption) (by assumption) (by assumption)
 ·intro o ho σ hU hh
  obtain ⟨v⟩ := σ
  cases hU
  simp only [be4, List.mem_cons, List.not_mem_nil, or_false] at ho
  repeat' (first | (rcases ho with rfl | ho) | subst ho)
  all_goals
   simp only [aaz, aa5, aa4, aa6, abh, ab7, aap, w_wr, b_lt, b_le, b_eq, aa3, b_or, abf, aao, aan, abj, w_mk, ac1, acy, abd, aa1, acd, w_l0, w_l1, aac, aag, aa2, aae, aad, aam, aak, acz, bg3, bi4, bju, adw, bdd, aw4, axa, awt, at5, apv, apu] at hh
   refine ⟨_, List.mem_cons_self .., by simp only [aaz, aa5, aa4, aa6, abh, ab7, aap, w_wr, b_lt, b_le, b_eq, aa3, b_or, abf, aao, aan, abj, w_mk, ac1, acy, abd, aa1, acd, w_l0, w_l1, aac, aag, aa2, aae, aad, aam, aak, acz], ?_⟩
   simp only [List.map_cons, List.map_nil, aaz, aa5, aa4, aa6, abh, ab7, aap, w_wr, b_lt, b_le, b_eq, aa3, b_or, abf, aao, aan, abj, w_mk, ac1, acy, abd, aa1, acd, w_l0, w_l1, aac, aag, aa2, aae, aad, aam, aak, acz, w_lt, w_le, w_eq, al8, w_or, ai1, aok, bg3, bej, bfz, aw4, axa, awt]
  ·obtain ⟨a1, a2, a3, a4, a5, a6, a7, a8, a9, a10, a11, a12, a13, a14, a15, _⟩ := hh
   exact q_no (.inl a1) a3 a6 a14
  ·obtain ⟨a0, a1, a2, a3, a4, a5, a6, a7, a8, a9, a10, a11, a12, a13, a14, a15, _⟩ := hh
   exact q_no (.inr a0) a3 a6 a14
  ·obtain ⟨a1, a2, a3, a4, a5, a6, a7, a8, a9, a10, a11, _⟩ := hh
   trace_state
   exact q_y a6 a7 a1 a3 a4 a2 a10 a11
end Go.Proofs.YtamhchkknlbanaaDoor.Be
