/-
  A second abstract evaluator of the model's code: the seal of bytes, block by block, and as numbers. Conditions: none; nothing here speaks of one program.
  A second abstract evaluator of the model's code: a call on a part of a heap is one on the whole: what the call does not know stays. Conditions: none; nothing here speaks of one program.
  A second abstract evaluator of the model's code: a run cut in pieces: a machine that goes through one function's code step by step. Conditions: none; nothing here speaks of one program.
  A second abstract evaluator of the model's code: a state told in other words: the same cells in blocks of another shape. Conditions: none; nothing here speaks of one program.
  One block of the seal (checksum's block), walked with words that are not known. Conditions: none.
  One block of the seal (checksum's block): its contract, as numbers. Conditions: none.
  A second abstract evaluator of the model's code: the contract of the seal's block, from its run on a small heap to any heap. Conditions: none; nothing here speaks of one program.
-/
import Derived.Test.YtdkoockhfmbcaaaGreatDoorQvB
import Derived.Test.YtdkoockhfmbcaaaGreatDoorGkBase
set_option linter.unusedSectionVars false
set_option linter.unusedVariables false
namespace Go.Fv
noncomputable section
def lit32 (x : Int) : Cel := .lit (.int .u32 x)
def lit8 (x : Int) : Cel := .lit (.int .u8 x)
def u8I (x : Int) : Int := IntKind.u8.wrap x
/-- The numbers of cells of 32 bits. -/
def ints32 : List Cel → Option (List Int)
  | [] => some []
  | .lit (.int .u32 n) :: r => match ints32 r with
    | some ns => some (n :: ns)
    | none => none
  | _ => none
/-- Are these the constants of the rounds? -/
def eqK : List Cel → List Nat → Bool
  | [], [] => true
  | .lit (.int .u32 (.ofNat n)) :: r, m :: s => Nat.beq n m && eqK r s
  | _, _ => false
def eight (g : Nat → Int) : List Cel := [lit32 (g 0), lit32 (g 1), lit32 (g 2), lit32 (g 3), lit32 (g 4), lit32 (g 5), lit32 (g 6), lit32 (g 7)]
/-- One block, whatever makes its words. -/
def blkO (G : List Int → List Int → Nat → Int) : List AV → HP → RM := fun args H =>
  match args with
  | [.agg hs, sv, .agg ks] => match ints32 hs, baseA sv, eqK ks shaK with
    | some xs, some (b, off, len), true => match Nat.beq hs.length 8, Nat.ble 64 len, H.read b off 64 with
      | true, true, some cs => match intsOf cs with
        | some ys => some [(.agg (eight (G xs ys)), H)]
        | none => none
      | _, _, _ => none
    | _, _, _ => none
  | _ => none
def G0 (xs ys : List Int) (i : Nat) : Int := Int.ofNat ((blockN (natsOf xs) (wordsN (natsOf ys))).getD i 0)
/-- Bytes by number. -/
def rowI (bs : Nat → Int) (i n : Nat) : List Int := Nat.rec (motive := fun _ => Nat → List Int) (fun _ => []) (fun _ ih i => bs i :: ih (Nat.succ i)) n i
def rowC (bs : Nat → Int) (i n : Nat) : List (Option Ct) := Nat.rec (motive := fun _ => Nat → List (Option Ct)) (fun _ => []) (fun _ ih i => some (.c (lit8 (bs i))) :: ih (Nat.succ i)) n i
def byB (bs : Nat → Int) (n : Nat) : Bk := .lf (rowC bs 0 n)
def byH (bs : Nat → Int) (n : Nat) : HP := ⟨(PT.nil : PT Bk).put 0 (some (byB bs n)), 1, 1⟩
def row32 (f : Nat → Int) (i n : Nat) : List (Option Ct) := Nat.rec (motive := fun _ => Nat → List (Option Ct)) (fun _ => []) (fun _ ih i => some (.c (lit32 (f i))) :: ih (Nat.succ i)) n i
def cel32 (f : Nat → Int) (i n : Nat) : List Cel := Nat.rec (motive := fun _ => Nat → List Cel) (fun _ => []) (fun _ ih i => lit32 (f i) :: ih (Nat.succ i)) n i
def take64 (l : List Int) (n : Nat) : List Int := Nat.rec (motive := fun _ => List Int → List Int) (fun _ => []) (fun _ ih l => List.casesOn (motive := fun _ => List Int) l [] fun x r => x :: ih r) n l
def drop64 (l : List Int) (n : Nat) : List Int := Nat.rec (motive := fun _ => List Int → List Int) (fun l => l) (fun _ ih l => List.casesOn (motive := fun _ => List Int) l [] fun _ r => ih r) n l
/-- The words behind so many blocks. -/
def foldG (G : List Int → List Int → Nat → Int) (k : Nat) : List Int → List Int → List Int :=
  Nat.rec (motive := fun _ => List Int → List Int → List Int) (fun h _ => h) (fun _ ih h l => ih [G h (take64 l 64) 0, G h (take64 l 64) 1, G h (take64 l 64) 2, G h (take64 l 64) 3, G h (take64 l 64) 4, G h (take64 l 64) 5, G h (take64 l 64) 6, G h (take64 l 64) 7] (drop64 l 64)) k
def ofNats (l : List Nat) : List Int := l.map Int.ofNat
def msgI (bs : Nat → Int) (n : Nat) : List Int := rowI bs 0 n ++ ofNats (padN n)
def fourI (x : Int) : List Cel := [lit8 (u8I (shrI x 24)), lit8 (u8I (shrI x 16)), lit8 (u8I (shrI x 8)), lit8 (u8I x)]
def sumG (G : List Int → List Int → Nat → Int) (bs : Nat → Int) (n : Nat) : List Cel :=
  match foldG G ((n + 72) / 64) (ofNats shaInit) (msgI bs n) with
  | a :: b :: c :: d :: _ => fourI a ++ (fourI b ++ (fourI c ++ fourI d))
  | _ => []
/-- The seal of bytes of one of so many lengths. -/
def sumOn (ls : List Nat) : List AV → HP → RM := fun args H =>
  match args with
  | [a] => match bytesL H a with
    | some xs => match ls.any (Nat.beq xs.length) with
      | true => some [(.agg (celsN (sumN (natsOf xs))), H)]
      | false => none
    | none => none
  | _ => none
end
theorem natsOf_eq (l : List Int) : natsOf l = l.map Int.toNat := by
  induction l with
  | nil => rfl
  | cons x r ih => simp only [natsOf, ih, List.map_cons]
theorem natsOf_ofNats (l : List Nat) : natsOf (ofNats l) = l := by
  rw [natsOf_eq, ofNats, List.map_map]
  exact List.map_id' l
theorem take64_eq : ∀ (n : Nat) (l : List Int), take64 l n = l.take n
  | 0, _ => rfl
  | n + 1, [] => rfl
  | n + 1, x :: r => by
    show x :: take64 r n = _
    rw [take64_eq n r]; rfl
theorem drop64_eq : ∀ (n : Nat) (l : List Int), drop64 l n = l.drop n
  | 0, _ => rfl
  | n + 1, [] => rfl
  | n + 1, x :: r => by
    show drop64 r n = _
    rw [drop64_eq n r]; rfl
theorem rowI_get (bs : Nat → Int) : ∀ (n i : Nat), rowI bs i n = (List.range' i n).map bs
  | 0, _ => rfl
  | n + 1, i => by
    show bs i :: rowI bs (i + 1) n = _
    rw [rowI_get bs n (i + 1), List.range'_succ, List.map_cons]
theorem rowC_get (bs : Nat → Int) : ∀ (n i : Nat), rowC bs i n = (List.range' i n).map fun j => some (.c (lit8 (bs j)))
  | 0, _ => rfl
  | n + 1, i => by
    show some (.c (lit8 (bs i))) :: rowC bs (i + 1) n = _
    rw [rowC_get bs n (i + 1), List.range'_succ, List.map_cons]
theorem rowI_self (xs : List Int) : rowI (fun i => xs.getD i 0) 0 xs.length = xs := by
  rw [rowI_get]
  apply List.ext_getElem?
  intro i
  rw [List.getElem?_map]
  by_cases h : i < xs.length
  · rw [List.getElem?_range' (by omega)]
    simp only [Option.map_some, Nat.zero_add, Nat.one_mul]
    rw [List.getD_eq_getElem?_getD, List.getElem?_eq_getElem h]
    rfl
  · rw [List.getElem?_eq_none (by simp; omega), List.getElem?_eq_none (by omega)]
    rfl
/-! ### Blocks one behind the other -/
theorem wordsN_append : ∀ (m : Nat) (a b : List Nat), a.length = 4 * m → wordsN (a ++ b) = wordsN a ++ wordsN b
  | 0, a, b, h => by
    have : a = [] := List.length_eq_zero_iff.1 (by omega)
    subst this
    rfl
  | m + 1, x :: y :: z :: u :: r, b, h => by
    have ih := wordsN_append m r b (by simp only [List.length_cons] at h; omega)
    simp only [List.cons_append, wordsN, force_eq]
    rw [ih]
  | m + 1, [], _, h => by simp at h
  | m + 1, [_], _, h => by simp at h; omega
  | m + 1, [_, _], _, h => by simp at h; omega
  | m + 1, [_, _, _], _, h => by simp at h; omega
theorem sixteen_eq {w r : List Nat} (h : w.length = 16) : sixteen (w ++ r) = some (w, r) := by
  match w, h with
  | [_, _, _, _, _, _, _, _, _, _, _, _, _, _, _, _], _ => rfl
theorem getD_eight (l : List Nat) (h : l.length = 8) : [Int.ofNat (l.getD 0 0), Int.ofNat (l.getD 1 0), Int.ofNat (l.getD 2 0), Int.ofNat (l.getD 3 0), Int.ofNat (l.getD 4 0), Int.ofNat (l.getD 5 0), Int.ofNat (l.getD 6 0), Int.ofNat (l.getD 7 0)] = ofNats l := by
  match l, h with
  | [_, _, _, _, _, _, _, _], _ => rfl
theorem addsN_len : ∀ (xs ys : List Nat), (addsN xs ys).length = min xs.length ys.length
  | [], ys => by simp [addsN]
  | x :: xs, [] => by simp [addsN]
  | x :: xs, y :: ys => by
    simp only [addsN, force_eq, List.length_cons, addsN_len xs ys]
    omega
theorem foldG_nat : ∀ (k : Nat) {hl m : List Nat}, hl.length = 8 → (∀ x ∈ hl, x < 4294967296) → m.length = 64 * k → (∀ x ∈ m, x < 256) → ∀ fuel, k ≤ fuel →
    foldG G0 k (ofNats hl) (ofNats m) = ofNats (blocksN fuel hl (wordsN m))
  | 0, hl, m, h1, _, h3, _, fuel, _ => by
    have : m = [] := List.length_eq_zero_iff.1 (by omega)
    subst this
    cases fuel with
    | zero => rfl
    | succ f => rfl
  | k + 1, hl, m, h1, h2, h3, h4, 0, hf => by omega
  | k + 1, hl, m, h1, h2, h3, h4, fuel + 1, hf => by
    have hs : m = m.take 64 ++ m.drop 64 := (List.take_append_drop 64 m).symm
    have hl64 : (m.take 64).length = 64 := by rw [List.length_take]; omega
    have hw16 : (wordsN (m.take 64)).length = 16 := by rw [wordsN_eq 16 _ hl64]; simp
    have hb : ∀ x ∈ m.take 64, x < 256 := fun x hx => h4 x (List.mem_of_mem_take hx)
    obtain ⟨b1, b2, _⟩ := blockW_eq (k := fun i => (shaK.getD i 0 : Nat)) (h := fun i => (hl.getD i 0 : Nat)) (bs := fun i => ((m.take 64).getD i 0 : Nat)) h1 h2 hl64 hb (fun _ _ => rfl) (fun _ _ => rfl) (fun _ _ => rfl)
    have e1 : blocksN (fuel + 1) hl (wordsN m) = blocksN fuel (blockN hl (wordsN (m.take 64))) (wordsN (m.drop 64)) := by
      conv => lhs; rw [hs, wordsN_append 16 _ _ hl64]
      show (match sixteen (wordsN (m.take 64) ++ wordsN (m.drop 64)) with | some (x, r) => blocksN fuel (blockN hl x) r | none => hl) = _
      rw [sixteen_eq hw16]
    rw [e1, ← foldG_nat k b1 b2 (by rw [List.length_drop]; omega) (fun x hx => h4 x (List.mem_of_mem_drop hx)) fuel (by omega)]
    show foldG G0 k [G0 (ofNats hl) (take64 (ofNats m) 64) 0, G0 (ofNats hl) (take64 (ofNats m) 64) 1, G0 (ofNats hl) (take64 (ofNats m) 64) 2, G0 (ofNats hl) (take64 (ofNats m) 64) 3, G0 (ofNats hl) (take64 (ofNats m) 64) 4, G0 (ofNats hl) (take64 (ofNats m) 64) 5, G0 (ofNats hl) (take64 (ofNats m) 64) 6, G0 (ofNats hl) (take64 (ofNats m) 64) 7] (drop64 (ofNats m) 64) = _
    rw [take64_eq, drop64_eq]
    have e2 : (ofNats m).take 64 = ofNats (m.take 64) := (List.map_take ..).symm
    have e3 : (ofNats m).drop 64 = ofNats (m.drop 64) := (List.map_drop ..).symm
    rw [e2, e3]
    unfold G0
    rw [natsOf_ofNats, natsOf_ofNats, getD_eight _ b1]
theorem byteOf_lt (x k : Nat) : byteOf x k < 256 := Nat.mod_lt _ (by decide)
theorem padN_len (n : Nat) : (padN n).length = 9 + (119 - n % 64) % 64 := by
  unfold padN fourB
  simp only [List.length_cons, List.length_append, List.length_replicate, List.length_nil]
  omega
theorem fourB_lt (x : Nat) : ∀ y ∈ fourB x, y < 256 := by
  intro y hy
  unfold fourB at hy
  simp only [List.mem_cons, List.not_mem_nil, or_false] at hy
  rcases hy with rfl | rfl | rfl | rfl <;> exact byteOf_lt _ _
theorem padN_lt (n : Nat) : ∀ x ∈ padN n, x < 256 := by
  intro x hx
  unfold padN at hx
  simp only [List.mem_cons, List.mem_append, List.mem_replicate] at hx
  rcases hx with rfl | ⟨_, rfl⟩ | h | h
  · decide
  · decide
  · exact fourB_lt _ _ h
  · exact fourB_lt _ _ h
theorem celsN_eq (l : List Nat) : celsN l = l.map fun x => .lit (.int .u8 (Int.ofNat x)) := by
  induction l with
  | nil => rfl
  | cons x r ih => simp only [celsN, force_eq, ih, List.map_cons]
theorem fourI_nat (x : Nat) : fourI (Int.ofNat x) = celsN (fourB x) := by
  have h : ∀ n, u8I (shrI (Int.ofNat x) n) = Int.ofNat (byteOf x n) := fun n => by
    show u8I (shrI (x : Int) n) = ((x >>> n) % 256 : Nat)
    rw [shrI_nat]
    unfold u8I
    rw [IntKind.wrap_u8']
    omega
  have h0 : u8I (Int.ofNat x) = Int.ofNat (byteOf x 0) := by
    show u8I (x : Int) = ((x >>> 0) % 256 : Nat)
    unfold u8I
    rw [IntKind.wrap_u8']
    simp
  rw [celsN_eq]
  unfold fourI fourB
  rw [h, h, h, h0]
  rfl
theorem celsN_append (a b : List Nat) : celsN (a ++ b) = celsN a ++ celsN b := by
  rw [celsN_eq, celsN_eq, celsN_eq, List.map_append]
theorem blocksN_len : ∀ (fuel : Nat) (h w : List Nat), h.length = 8 → (∀ a b c d e f g i (ws : List Nat), (blockN [a, b, c, d, e, f, g, i] ws).length = 8) → (blocksN fuel h w).length = 8
  | 0, h, w, hh, _ => hh
  | f + 1, h, w, hh, hb => by
    show (match sixteen w with | some (x, r) => blocksN f (blockN h x) r | none => h).length = 8
    split
    · rename_i x r _
      refine blocksN_len f _ _ ?_ hb
      match h, hh with
      | [a, b, c, d, e, f, g, i], _ => exact hb a b c d e f g i x
    · exact hh
theorem sumG_nat {xs : List Int} (hx : ∀ x ∈ xs, 0 ≤ x ∧ x ≤ 255) : sumG G0 (fun i => xs.getD i 0) xs.length = celsN (sumN (natsOf xs)) := by
  have hxs : xs = ofNats (natsOf xs) := by
    rw [natsOf_eq, ofNats, List.map_map]
    conv => lhs; rw [← List.map_id xs]
    refine List.map_congr_left fun x hm => ?_
    show x = Int.ofNat x.toNat
    have := (hx x hm).1
    show x = ((x.toNat : Nat) : Int)
    omega
  have hlt : ∀ x ∈ natsOf xs, x < 256 := by
    intro y hy
    rw [natsOf_eq] at hy
    obtain ⟨x, hm, rfl⟩ := List.mem_map.1 hy
    have := hx x hm
    omega
  have hlen : (natsOf xs).length = xs.length := by rw [natsOf_eq, List.length_map]
  have hmsg : msgI (fun i => xs.getD i 0) xs.length = ofNats (natsOf xs ++ padN xs.length) := by
    unfold msgI
    rw [rowI_self]
    conv => lhs; rw [hxs]
    unfold ofNats
    rw [List.map_append]
    rw [show (List.map Int.ofNat (natsOf xs)).length = xs.length by rw [List.length_map, hlen]]
  have hfold := foldG_nat ((xs.length + 72) / 64) (hl := shaInit) (m := natsOf xs ++ padN xs.length) rfl (by decide) (by rw [List.length_append, padN_len, hlen]; omega)
    (fun x hm => by rcases List.mem_append.1 hm with h | h; exact hlt x h; exact padN_lt _ x h) (xs.length / 64 + 2) (by omega)
  unfold sumG sumN
  rw [hmsg, hfold, hlen]
  generalize blocksN (xs.length / 64 + 2) shaInit (wordsN (natsOf xs ++ padN xs.length)) = R
  match R with
  | a :: b :: c :: d :: r =>
    show fourI (Int.ofNat a) ++ (fourI (Int.ofNat b) ++ (fourI (Int.ofNat c) ++ fourI (Int.ofNat d))) = celsN (fourB a ++ (fourB b ++ (fourB c ++ fourB d)))
    rw [celsN_append, celsN_append, celsN_append, fourI_nat, fourI_nat, fourI_nat, fourI_nat]
  | [] => rfl
  | [_] => rfl
  | [_, _] => rfl
  | [_, _, _] => rfl
end Go.Fv

set_option linter.unusedSectionVars false
set_option linter.unusedVariables false
namespace Go.Fv
noncomputable section
/-- Each block of the first tree is the same in the second one. -/
def subT : PT Bk → PT Bk → Bool
  | .nil, _ => true
  | .node none l r, t => subT l t.l && subT r t.r
  | .node (some k) l r, t => (match t.v with | some k' => eqBk k k' | none => false) && (subT l t.l && subT r t.r)
/-- What is told of a block behind a call on a part: the call's, or what was there. -/
def ovlV (o s t : Option Bk) : Option Bk := match o with | some k => some k | none => match s with | some _ => none | none => t
def ovlF (S H O : HP) (b : Nat) : Option Bk := ovlV (O.t.get b) (S.t.get b) (match Nat.ble (Nat.succ b) H.n with | true => H.t.get b | false => none)
def ovlH (S H O : HP) : HP := ⟨PT.build 64 (ovlF S H O), O.n, minN H.lo O.lo⟩
end
theorem subT_spec : ∀ {s t : PT Bk}, subT s t = true → ∀ n k, s.get n = some k → t.get n = some k
  | .nil, t, _, n, k, h => by rw [PT.get_nil] at h; cases h
  | .node none l r, t, hs, n, k, h => by
    simp only [subT, Bool.and_eq_true] at hs
    cases n with
    | zero => rw [PT.get_zero] at h; cases h
    | succ n =>
      rw [PT.get_succ] at h
      rw [PT.get_eq, if_neg (by omega), show n + 1 - 1 = n by omega]
      split at h
      · rename_i ho; rw [if_pos ho]; exact subT_spec hs.1 _ _ h
      · rename_i ho; rw [if_neg ho]; exact subT_spec hs.2 _ _ h
  | .node (some k0) l r, t, hs, n, k, h => by
    simp only [subT, Bool.and_eq_true] at hs
    cases n with
    | zero =>
      rw [PT.get_zero] at h
      cases h
      rw [PT.get_eq, if_pos rfl]
      cases hv : t.v with
      | none => rw [hv] at hs; cases hs.1
      | some k' => rw [hv] at hs; rw [eqBk_spec hs.1]
    | succ n =>
      rw [PT.get_succ] at h
      rw [PT.get_eq, if_neg (by omega), show n + 1 - 1 = n by omega]
      split at h
      · rename_i ho; rw [if_pos ho]; exact subT_spec hs.2.1 _ _ h
      · rename_i ho; rw [if_neg ho]; exact subT_spec hs.2.2 _ _ h
theorem HP.cell_of_get {H H' : HP} {b b' : Nat} (h : H.t.get b = H'.t.get b') (i : Nat) : H.cell b i = H'.cell b' i := by unfold HP.cell; rw [h]
theorem HP.Kn.of_get {H H' : HP} {b : Nat} (h : H.t.get b = H'.t.get b) (k : H.Kn b) : H'.Kn b := by
  obtain ⟨i, c, hc⟩ := k
  exact ⟨i, c, by rw [HP.cell_of_get h.symm]; exact hc⟩
theorem HP.Kn.some {H : HP} {b : Nat} (k : H.Kn b) : ∃ x, H.t.get b = some x := by
  obtain ⟨i, c, hc⟩ := k
  unfold HP.cell at hc
  cases h : H.t.get b with
  | none => rw [h] at hc; cases hc
  | some x => exact ⟨x, rfl⟩
theorem ovlH_get {S H O : HP} {b : Nat} {k : Bk} (h : (ovlH S H O).t.get b = some k) : O.t.get b = some k ∨ (O.t.get b = none ∧ S.t.get b = none ∧ b < H.n ∧ H.t.get b = some k) := by
  have h' : (PT.build 64 (ovlF S H O)).get b = some k := h
  rcases (PT.get_build 64 (ovlF S H O) b).2 with h1 | h1
  · rw [h1] at h'
    unfold ovlF ovlV at h'
    split at h'
    · rename_i k' hk; cases h'; exact .inl hk
    · split at h'
      · cases h'
      · split at h'
        · rename_i h2 _ h3 _ h4
          exact .inr ⟨h2, h3, Nat.le_of_ble_eq_true h4, h'⟩
        · cases h'
  · rw [h1] at h'; cases h'
/-- A step from a part of a heap is one from the whole. -/
theorem Sim.part {ρ ρ' : PM} {S H O : HP} {w w' : World} (hH : HRel ρ H w) (hd : Dom ρ H.n) (hn : S.n = H.n) (hsub : ∀ b k, S.t.get b = some k → H.t.get b = some k)
    (s : Sim ρ S w ρ' O w') : Sim ρ H w ρ' (ovlH S H O) w' := by
  have hSH : ∀ b, S.Kn b → H.Kn b := fun b k => by
    obtain ⟨x, hx⟩ := k.some
    exact k.of_get (by rw [hx, hsub b x hx])
  -- a block that S has not, and lies somewhere
  have kept : ∀ b L, H.Kn b → ρ b = some L → S.t.get b = none → w'.heap[L.B]? = w.heap[L.B]? := fun b L hk hL hS => by
    obtain ⟨i, c, hc⟩ := id hk
    refine s.fr L.B (hH.rel b i c L hc hL).lt fun b0 L0 h1 h2 h3 => ?_
    have := hH.inj b0 b L0 L (hSH b0 h1) hk h2 hL h3
    subst this
    obtain ⟨x, hx⟩ := h1.some
    rw [hS] at hx; cases hx
  have old : ∀ b L', b < H.n → ρ' b = some L' → ρ b = some L' := fun b L' hb hL' => by
    cases h : ρ b with
    | none => have := s.old b L' h hL'; omega
    | some L => rw [s.le b L h] at hL'; exact hL'
  -- what is known behind the step: by O, or as it was
  have kn : ∀ b, (ovlH S H O).Kn b → (O.Kn b ∧ ∀ i, (ovlH S H O).cell b i = O.cell b i) ∨ (O.t.get b = none ∧ S.t.get b = none ∧ b < H.n ∧ H.Kn b ∧ ∀ i, (ovlH S H O).cell b i = H.cell b i) := fun b hk => by
    obtain ⟨x, hx⟩ := hk.some
    rcases ovlH_get hx with h | ⟨h1, h2, h3, h4⟩
    · exact .inl ⟨hk.of_get (by rw [hx, h]), fun i => HP.cell_of_get (by rw [hx, h]) i⟩
    · exact .inr ⟨h1, h2, h3, hk.of_get (by rw [hx, h4]), fun i => HP.cell_of_get (by rw [hx, h4]) i⟩
  -- a block of O, and one that S has not: two objects
  have apart : ∀ b b' L L', O.Kn b → S.t.get b' = none → b' < H.n → H.Kn b' → ρ' b = some L → ρ' b' = some L' → L.B ≠ L'.B := fun b b' L L' hk hS hb' hk' hL hL' hB => by
    have hL0 := old b' L' hb' hL'
    obtain ⟨i', c', hc'⟩ := id hk'
    have hlt := (hH.rel b' i' c' L' hc' hL0).lt
    cases h : ρ b with
    | some L1 =>
      have hbn : b < S.n := by rw [hn]; exact hd.lt h
      have hSk := s.kn hbn hk
      rw [s.le b L1 h] at hL
      cases hL
      have := hH.inj b b' _ L' (hSH b hSk) hk' h hL0 hB
      subst this
      obtain ⟨x, hx⟩ := hSk.some
      rw [hS] at hx; cases hx
    | none =>
      rcases s.new b L h hL with h1 | ⟨b0, L0, g1, g2, g3⟩
      · omega
      · have := hH.inj b0 b' L0 L' (hSH b0 g1) hk' g2 hL0 (by rw [g3, hB])
        subst this
        obtain ⟨x, hx⟩ := g1.some
        rw [hS] at hx; cases hx
  refine ⟨s.le, by rw [← hn]; exact s.grow, s.dom, ⟨fun b i c L hc hL => ?_, fun b b' L L' hb hb' hL hL' hB => ?_⟩, fun b i hb hc => ?_, fun b L j hk hk' hL hj => ?_, fun k hk hno => s.fr k hk fun b L h1 h2 => hno b L (hSH b h1) h2, fun b L h1 h2 => ?_, s.size, s.os, s.tape, s.output, fun b L h1 h2 => by rw [← hn]; exact s.old b L h1 h2⟩
  · rcases kn b ⟨i, c, hc⟩ with ⟨_, h⟩ | ⟨_, h2, h3, hk, h⟩
    · rw [h] at hc; exact s.rel.rel b i c L hc hL
    · rw [h] at hc
      have hLo := old b L h3 hL
      exact ((hH.rel b i c L hc hLo).of_heap (kept b L hk hLo h2)).mono s.le
  · rcases kn b hb with ⟨k1, _⟩ | ⟨_, a2, a3, a4, _⟩
    · rcases kn b' hb' with ⟨k2, _⟩ | ⟨_, c2, c3, c4, _⟩
      · exact s.rel.inj b b' L L' k1 k2 hL hL' hB
      · exact absurd hB (apart b b' L L' k1 c2 c3 c4 hL hL')
    · rcases kn b' hb' with ⟨k2, _⟩ | ⟨_, c2, c3, c4, _⟩
      · exact absurd hB.symm (apart b' b L' L k2 a2 a3 a4 hL' hL)
      · exact hH.inj b b' L L' a4 c4 (old b L a3 hL) (old b' L' c3 hL') hB
  · cases hc' : (ovlH S H O).cell b i with
    | none => rfl
    | some c =>
      rcases kn b ⟨i, c, hc'⟩ with ⟨_, h⟩ | ⟨_, _, _, _, h⟩
      · rw [h] at hc'
        cases hS : S.cell b i with
        | none => rw [s.knc b i (by rw [hn]; exact hb) hS] at hc'; cases hc'
        | some c0 =>
          have hSk : S.Kn b := ⟨i, c0, hS⟩
          obtain ⟨x, hx⟩ := hSk.some
          rw [HP.cell_of_get (H := S) (H' := H) (by rw [hx, hsub b x hx]), hc] at hS
          cases hS
      · rw [h, hc] at hc'; cases hc'
  · rcases kn b hk' with ⟨k1, _⟩ | ⟨_, a2, a3, a4, _⟩
    · have hSk := s.kn (by rw [hn]; exact hd.lt hL) k1
      refine s.frc b L j hSk k1 hL fun i hi => ?_
      obtain ⟨x, hx⟩ := hSk.some
      rw [HP.cell_of_get (H := S) (H' := H) (by rw [hx, hsub b x hx])]
      exact hj i hi
    · exact SameAt.of_heap (kept b L hk hL a2) j
  · rcases s.new b L h1 h2 with h | ⟨b0, L0, g1, g2, g3⟩
    · exact .inl h
    · exact .inr ⟨b0, L0, hSH b0 g1, g2, g3⟩
theorem HRel.part {ρ : PM} {S H : HP} {w : World} (hH : HRel ρ H w) (hsub : ∀ b k, S.t.get b = some k → H.t.get b = some k) : HRel ρ S w := by
  have hSH : ∀ b, S.Kn b → H.Kn b := fun b k => by
    obtain ⟨x, hx⟩ := k.some
    exact k.of_get (by rw [hx, hsub b x hx])
  refine ⟨fun b i c L hc hL => ?_, fun b b' L L' hb hb' => hH.inj b b' L L' (hSH b hb) (hSH b' hb')⟩
  have hk : S.Kn b := ⟨i, c, hc⟩
  obtain ⟨x, hx⟩ := hk.some
  rw [HP.cell_of_get (H := S) (H' := H) (by rw [hx, hsub b x hx])] at hc
  exact hH.rel b i c L hc hL
end Go.Fv

set_option linter.unusedSectionVars false
set_option linter.unusedVariables false
namespace Go.Fv
noncomputable section
/-- What is left to do behind a piece of code, told by places in the function's body. -/
inductive Kn where
  | sq (p : Nat)
  | bl (id : Nat)
  | lp (p : Nat)
/-- At a place of the code, or behind an ending. -/
inductive Md where
  | at_ (p : Nat)
  | end_ (e : Ex)
structure MS where
  md : Md
  ks : List Kn
  F : Fm
  H : HP
def kidL (c : Code) : Code := Code.casesOn (motive := fun _ => Code) c .skip (fun _ _ _ => .skip) (fun a _ => a) (fun _ a _ => a) (fun _ b => b) (fun b => b) (fun _ _ _ _ => .skip) (fun _ => .skip) (fun b => b) (fun _ => .skip) (fun _ => .skip) .skip (fun _ => .skip)
def kidR (c : Code) : Code := Code.casesOn (motive := fun _ => Code) c .skip (fun _ _ _ => .skip) (fun _ b => b) (fun _ _ b => b) (fun _ _ => .skip) (fun _ => .skip) (fun _ _ _ _ => .skip) (fun _ => .skip) (fun _ => .skip) (fun _ => .skip) (fun _ => .skip) .skip (fun _ => .skip)
def codeF (body : Code) (fuel : Nat) : Nat → Code :=
  Nat.rec (motive := fun _ => Nat → Code) (fun _ => body) (fun _ ih p => Bool.rec (motive := fun _ => Code) (Bool.rec (motive := fun _ => Code) (kidL (ih (Nat.div p 2))) (kidR (ih (Nat.div p 2))) (Nat.beq (Nat.mod p 2) 1)) body (Nat.ble p 1)) fuel
/-- The code at a place: 1 the body; 2p the first part of what stands at p, 2p+1 the second one. -/
def codeAt (body : Code) (p : Nat) : Code := codeF body (Nat.succ (Nat.log2 p)) p
end
theorem codeF_stable (body : Code) : ∀ (f g p : Nat), p < 2 ^ f → p < 2 ^ g → codeF body f p = codeF body g p
  | 0, 0, p, _, _ => rfl
  | 0, g + 1, p, h, _ => by
    obtain rfl : p = 0 := by simpa using h
    rfl
  | f + 1, 0, p, _, h => by
    obtain rfl : p = 0 := by simpa using h
    rfl
  | f + 1, g + 1, p, h1, h2 => by
    have ih := codeF_stable body f g (p / 2) (by rw [Nat.pow_succ] at h1; omega) (by rw [Nat.pow_succ] at h2; omega)
    show Bool.rec (motive := fun _ => Code) (Bool.rec (motive := fun _ => Code) (kidL (codeF body f (p / 2))) (kidR (codeF body f (p / 2))) (Nat.beq (p % 2) 1)) body (Nat.ble p 1) = Bool.rec (motive := fun _ => Code) (Bool.rec (motive := fun _ => Code) (kidL (codeF body g (p / 2))) (kidR (codeF body g (p / 2))) (Nat.beq (p % 2) 1)) body (Nat.ble p 1)
    rw [ih]
theorem lt_log (p : Nat) : p < 2 ^ Nat.succ (Nat.log2 p) := Nat.lt_log2_self
theorem codeAt_one (body : Code) : codeAt body 1 = body := rfl
theorem codeAt_L (body : Code) {p : Nat} (h : 1 ≤ p) : codeAt body (2 * p) = kidL (codeAt body p) := by
  unfold codeAt
  rw [codeF_stable body (Nat.succ (Nat.log2 (2 * p))) (Nat.succ (Nat.succ (Nat.log2 p))) (2 * p) (lt_log _) (by have := lt_log p; rw [Nat.pow_succ]; omega)]
  show Bool.rec (motive := fun _ => Code) (Bool.rec (motive := fun _ => Code) (kidL (codeF body (Nat.succ (Nat.log2 p)) (2 * p / 2))) (kidR (codeF body (Nat.succ (Nat.log2 p)) (2 * p / 2))) (Nat.beq (2 * p % 2) 1)) body (Nat.ble (2 * p) 1) = _
  have h1 : Nat.ble (2 * p) 1 = false := by rw [Bool.eq_false_iff]; intro hh; have := Nat.le_of_ble_eq_true hh; omega
  rw [h1, show 2 * p / 2 = p by omega, show 2 * p % 2 = 0 by omega]
  rfl
theorem codeAt_R (body : Code) {p : Nat} (h : 1 ≤ p) : codeAt body (2 * p + 1) = kidR (codeAt body p) := by
  unfold codeAt
  rw [codeF_stable body (Nat.succ (Nat.log2 (2 * p + 1))) (Nat.succ (Nat.succ (Nat.log2 p))) (2 * p + 1) (lt_log _) (by have := lt_log p; rw [Nat.pow_succ]; omega)]
  show Bool.rec (motive := fun _ => Code) (Bool.rec (motive := fun _ => Code) (kidL (codeF body (Nat.succ (Nat.log2 p)) ((2 * p + 1) / 2))) (kidR (codeF body (Nat.succ (Nat.log2 p)) ((2 * p + 1) / 2))) (Nat.beq ((2 * p + 1) % 2) 1)) body (Nat.ble (2 * p + 1) 1) = _
  have h1 : Nat.ble (2 * p + 1) 1 = false := by rw [Bool.eq_false_iff]; intro hh; have := Nat.le_of_ble_eq_true hh; omega
  rw [h1, show (2 * p + 1) / 2 = p by omega, show (2 * p + 1) % 2 = 1 by omega]
  rfl
/-! ### What a loop comes to -/
section
variable {P : Program} {n m : Nat} {rb r : Option Nat}
/-- A loop's rounds, at most so many. -/
def Rounds (P : Program) (n m : Nat) (rb r : Option Nat) (x : Code) : Nat → Fm → HP → Oc → Prop
  | 0, _, _, _ => False
  | k + 1, F, H, o' => ∃ o1, CodeOK P n m rb r x F H (· = o1) ∧ (o1.1 = .nrm ∧ Rounds P n m rb r x k o1.2.1 o1.2.2 o' ∨ o1.1 ≠ .nrm ∧ o1 = o')
theorem Rounds.st {x : Code} : ∀ {k : Nat} {F : Fm} {H : HP} {o' : Oc}, Rounds P n m rb r x k F H o' → St H o'.2.2
  | 0, _, _, _, h => h.elim
  | k + 1, F, H, o', ⟨o1, k1, h⟩ => by
    have h1 := k1.st o1 rfl
    rcases h with ⟨_, h2⟩ | ⟨_, rfl⟩
    · exact h1.trans h2.st
    · exact h1
theorem Rounds.ok {x : Code} : ∀ {k : Nat} {F : Fm} {H : HP} {o' : Oc}, Rounds P n m rb r x k F H o' → ∀ (Q : Exit → Act → World → Prop) (ρ : PM) (a : Act) (w : World) (m0 : Nat), SRel n ρ F H a w → RR ρ rb r → m0 ≤ w.heap.size → DfOK ρ H w m0 a.defers →
      (∀ z, z = o' → ∀ ρ' a' w', SRel n ρ' z.2.1 z.2.2 a' w' → DfOK ρ' z.2.2 w' m0 a'.defers → Sim ρ H w ρ' z.2.2 w' → Q z.1.out a' w') → Code.roundsIn (WF r) m P x Q k a w
  | 0, _, _, _, h => False.elim h
  | k + 1, F, H, o', ⟨o1, k1, h⟩ => by
    intro Q ρ a w m0 s hr hm df hq
    rw [roundsIn_succ]
    refine k1.wp s hr hm df fun z hz ρ1 a1 w1 s1 hd1 hs1 => ?_
    subst hz
    obtain ⟨e, F2, H2⟩ := z
    rcases h with ⟨he, h2⟩ | ⟨he, rfl⟩
    · simp only at he h2
      subst he
      exact h2.ok _ _ _ _ _ s1 (hr.mono hs1.le) (Nat.le_trans hm hs1.size) hd1 fun y hy ρ2 a2 w2 s2 hd2 hs2 => hq y hy ρ2 a2 w2 s2 hd2 (hs1.trans s.dom hs2)
    · cases e with
      | nrm => exact absurd rfl he
      | ext id => exact hq _ rfl ρ1 a1 w1 s1 hd1 hs1
      | rt => exact hq _ rfl ρ1 a1 w1 s1 hd1 hs1
theorem Rounds.code {x : Code} {k : Nat} {F : Fm} {H : HP} {o' : Oc} (h : Rounds P n m rb r x k F H o') : CodeOK P n m rb r (.loop x) F H (· = o') :=
  ⟨fun z hz => by rw [hz]; exact h.st, fun s hr hm df hq => wpIn_loop_rounds k (h.ok _ _ _ _ _ s hr hm df hq)⟩
/-! ### Less told -/
/-- A heap that tells no more than another one. -/
structure HLess (D H : HP) : Prop where
  n : D.n = H.n
  lo : D.lo = 0
  sub : ∀ b k, D.t.get b = some k → H.t.get b = some k
structure Less (d o : Oc) : Prop where
  e : d.1 = o.1
  F : Fm.sub d.2.1 o.2.1
  H : HLess d.2.2 o.2.2
theorem HLess.trans {D E H : HP} (h : HLess D E) (h' : HLess E H) : HLess D H := ⟨h.n.trans h'.n, h.lo, fun b k hb => h'.sub b k (h.sub b k hb)⟩
theorem Less.trans {a b c : Oc} (h : Less a b) (h' : Less b c) : Less a c := ⟨h.e.trans h'.e, fun t v hv => h'.F t v (h.F t v hv), h.H.trans h'.H⟩
theorem HLess.kn {D H : HP} (h : HLess D H) {b : Nat} (k : D.Kn b) : H.Kn b := by
  obtain ⟨x, hx⟩ := k.some
  exact k.of_get (by rw [hx, h.sub b x hx])
theorem HLess.cell {D H : HP} (h : HLess D H) {b i : Nat} {c : Ct} (hc : D.cell b i = some c) : H.cell b i = some c := by
  obtain ⟨x, hx⟩ := HP.Kn.some ⟨i, c, hc⟩
  rw [← HP.cell_of_get (H := D) (H' := H) (b := b) (b' := b) (by rw [hx, h.sub b x hx])]
  exact hc
theorem HLess.sim {D H : HP} (h : HLess D H) {ρ : PM} {w : World} (hH : HRel ρ H w) (hd : Dom ρ H.n) : Sim ρ H w ρ D w := by
  refine ⟨PM.le.refl ρ, by rw [h.n]; exact Nat.le_refl _, by rw [h.n]; exact hd, hH.part h.sub, fun b i hb hc => ?_, fun b L j _ _ _ _ => SameAt.of_heap rfl j, fun _ _ _ => rfl, fun b L h1 h2 => ?_, Nat.le_refl _, rfl, rfl, rfl, fun b L h1 h2 => ?_⟩
  · cases hD : D.cell b i with
    | none => rfl
    | some c => rw [h.cell hD] at hc; cases hc
  · rw [h1] at h2; cases h2
  · rw [h1] at h2; cases h2
theorem HLess.st {D H X : HP} (h : HLess D H) (k : St D X) : St H X :=
  ⟨⟨by have := k.1.1; rw [h.lo] at this; omega, fun b hb _ => by have := k.1.1; rw [h.lo] at this; omega⟩, by rw [← h.n]; exact k.2⟩
theorem HLess.st' {D H X : HP} (h : HLess D H) (k : St X H) : St X D :=
  ⟨⟨by rw [h.lo]; exact Nat.zero_le _, fun b hb _ => by rw [h.lo] at hb; omega⟩, by rw [h.n]; exact k.2⟩
theorem CodeOK.less {c : Code} {F G : Fm} {H D : HP} {Z : Oc → Prop} (hF : Fm.sub G F) (hD : HLess D H) (k : CodeOK P n m rb r c G D Z) : CodeOK P n m rb r c F H Z :=
  ⟨fun x hx => hD.st (k.st x hx), fun {Q ρ a w m0} s hr hm df hq =>
    have s0 := hD.sim s.hp s.dom
    (k.sub hF).wp ⟨s.fr, s.hp.part hD.sub, s0.dom, s.j⟩ hr hm (df.step s.dom s0) fun x hx ρ' a' w' s1 d1 sim => hq x hx ρ' a' w' s1 d1 (s0.trans s.dom sim)⟩
theorem SRel.less {ρ : PM} {d o : Oc} {a : Act} {w : World} (h : Less d o) (s : SRel n ρ o.2.1 o.2.2 a w) : SRel n ρ d.2.1 d.2.2 a w :=
  ⟨(s.sub h.F).fr, s.hp.part h.H.sub, (h.H.sim s.hp s.dom).dom, s.j⟩
/-- An outcome told as less. -/
theorem CodeOK.tell {c : Code} {F : Fm} {H : HP} {d o : Oc} (h : Less d o) (k : CodeOK P n m rb r c F H (· = o)) : CodeOK P n m rb r c F H (· = d) := by
  refine ⟨fun x hx => by rw [hx]; exact h.H.st' (k.st o rfl), fun {Q ρ a w m0} s hr hm df hq => k.wp s hr hm df fun x hx ρ' a' w' s1 d1 sim => ?_⟩
  subst hx
  have s0 := h.H.sim s1.hp s1.dom
  rw [← h.e]
  exact hq d rfl ρ' a' w' (s1.less h) (d1.step s1.dom s0) (sim.trans s.dom s0)
theorem Rounds.less {x : Code} {k : Nat} {F G : Fm} {H D : HP} {o' : Oc} (hF : Fm.sub G F) (hD : HLess D H) (h : Rounds P n m rb r x k G D o') : Rounds P n m rb r x k F H o' := by
  cases k with
  | zero => exact h
  | succ k =>
    obtain ⟨o1, h1, h2⟩ := h
    exact ⟨o1, h1.less hF hD, h2⟩
/-! ### What is left to do comes to -/
def Reach (P : Program) (n m : Nat) (rb r : Option Nat) (body : Code) : List Kn → Oc → Oc → Prop
  | [], o, o' => Less o' o
  | .sq p :: ks, o, o' => (o.1 = .nrm ∧ ∃ o1, CodeOK P n m rb r (codeAt body p) o.2.1 o.2.2 (· = o1) ∧ Reach P n m rb r body ks o1 o') ∨ (o.1 ≠ .nrm ∧ Reach P n m rb r body ks o o')
  | .bl id :: ks, o, o' => Reach P n m rb r body ks (blockOne id o) o'
  | .lp p :: ks, o, o' => (o.1 = .nrm ∧ ∃ k o1, Rounds P n m rb r (codeAt body p) k o.2.1 o.2.2 o1 ∧ Reach P n m rb r body ks o1 o') ∨ (o.1 ≠ .nrm ∧ Reach P n m rb r body ks o o')
/-- A machine's state comes to this. -/
def MOK (P : Program) (n m : Nat) (rb r : Option Nat) (body : Code) (s : MS) (o' : Oc) : Prop :=
  match s.md with
  | .at_ p => 1 ≤ p ∧ ∃ o1, CodeOK P n m rb r (codeAt body p) s.F s.H (· = o1) ∧ Reach P n m rb r body s.ks o1 o'
  | .end_ e => Reach P n m rb r body s.ks (e, s.F, s.H) o'
theorem CodeOK.seq1 {x y : Code} {F : Fm} {H : HP} {o1 o2 : Oc} (h1 : CodeOK P n m rb r x F H (· = o1)) (h : o1.1 = .nrm ∧ CodeOK P n m rb r y o1.2.1 o1.2.2 (· = o2) ∨ o1.1 ≠ .nrm ∧ o1 = o2) : CodeOK P n m rb r (.seq x y) F H (· = o2) := by
  obtain ⟨e, F1, H1⟩ := o1
  refine h1.seq (fun z hz => ?_) (fun F2 H2 hz => ?_) (fun z hz hne => ?_)
  · subst hz
    rcases h with ⟨_, h⟩ | ⟨_, rfl⟩
    · exact (h1.st _ rfl).trans (h.st _ rfl)
    · exact h1.st _ rfl
  · cases hz
    rcases h with ⟨_, h⟩ | ⟨h, _⟩
    · exact ⟨_, h, fun z hz => hz⟩
    · exact absurd rfl h
  · subst hz
    rcases h with ⟨h, _⟩ | ⟨_, h⟩
    · exact absurd h hne
    · exact h
theorem blockOne_heap (id : Nat) (o : Oc) : (blockOne id o).2 = o.2 := by
  obtain ⟨e, F1, H1⟩ := o
  cases e with
  | nrm => rfl
  | rt => rfl
  | ext id' =>
    show (match Nat.beq id' id with | true => ((.nrm, F1, H1) : Oc) | false => (.ext id', F1, H1)).2 = (F1, H1)
    split <;> rfl
theorem CodeOK.block1 {id : Nat} {x : Code} {F : Fm} {H : HP} {o1 : Oc} (k : CodeOK P n m rb r x F H (· = o1)) : CodeOK P n m rb r (.block id x) F H (· = blockOne id o1) :=
  k.block (fun z hz => by rw [hz, blockOne_heap]; exact k.st _ rfl) fun z hz => by rw [hz]
theorem CodeOK.scope1 {x : Code} {F : Fm} {H : HP} {o1 : Oc} (k : CodeOK P n m rb r x F H (· = o1)) : CodeOK P n m rb r (.scope x) F H (· = o1) := by
  refine ⟨k.st, fun {Q ρ a w m0} s hr hm df hq => wpIn_scope (k.wp s hr hm df fun z hz ρ1 a1 w1 s1 hd1 hs1 => ?_)⟩
  have := hq z hz ρ1 a1 w1 s1 hd1 hs1
  obtain ⟨e, F1, H1⟩ := z
  cases e <;> exact this
theorem blockOne_less {id : Nat} {d o : Oc} (h : Less d o) : Less (blockOne id d) (blockOne id o) := by
  refine ⟨?_, by rw [blockOne_heap, blockOne_heap]; exact h.F, by rw [blockOne_heap, blockOne_heap]; exact h.H⟩
  obtain ⟨e, F1, H1⟩ := d
  obtain ⟨e', F2, H2⟩ := o
  have he : e = e' := h.e
  subst he
  cases e with
  | nrm => rfl
  | rt => rfl
  | ext id' =>
    show (match Nat.beq id' id with | true => ((.nrm, F1, H1) : Oc) | false => (.ext id', F1, H1)).1 = (match Nat.beq id' id with | true => ((.nrm, F2, H2) : Oc) | false => (.ext id', F2, H2)).1
    split <;> rfl
theorem Reach.less {body : Code} : ∀ {ks : List Kn} {d o o' : Oc}, Less d o → Reach P n m rb r body ks d o' → Reach P n m rb r body ks o o'
  | [], d, o, o', h, k => Less.trans k h
  | .sq p :: ks, d, o, o', h, k => by
    rcases k with ⟨h1, o1, h2, h3⟩ | ⟨h1, h2⟩
    · exact .inl ⟨by rw [← h.e]; exact h1, o1, h2.less h.F h.H, h3⟩
    · exact .inr ⟨by rw [← h.e]; exact h1, Reach.less h h2⟩
  | .bl id :: ks, d, o, o', h, k => Reach.less (ks := ks) (d := blockOne id d) (o := blockOne id o) (blockOne_less h) k
  | .lp p :: ks, d, o, o', h, k => by
    rcases k with ⟨h1, k', o1, h2, h3⟩ | ⟨h1, h2⟩
    · exact .inl ⟨by rw [← h.e]; exact h1, k', o1, h2.less h.F h.H, h3⟩
    · exact .inr ⟨by rw [← h.e]; exact h1, Reach.less h h2⟩
end
end Go.Fv

set_option linter.unusedSectionVars false
set_option linter.unusedVariables false
namespace Go.Fv
section
variable {P : Program} {n m : Nat} {rb r : Option Nat}
/-- The same cells. -/
structure HSame (D H : HP) : Prop where
  n : D.n = H.n
  st : St H D
  cell : ∀ b i, D.cell b i = H.cell b i
theorem HSame.kn {D H : HP} (h : HSame D H) {b : Nat} (k : D.Kn b) : H.Kn b := by
  obtain ⟨i, c, hc⟩ := k
  exact ⟨i, c, by rw [← h.cell]; exact hc⟩
theorem HSame.kn' {D H : HP} (h : HSame D H) {b : Nat} (k : H.Kn b) : D.Kn b := by
  obtain ⟨i, c, hc⟩ := k
  exact ⟨i, c, by rw [h.cell]; exact hc⟩
theorem HSame.rel {D H : HP} (h : HSame D H) {ρ : PM} {w : World} (hH : HRel ρ H w) : HRel ρ D w :=
  ⟨fun b i c L hc hL => hH.rel b i c L (by rw [← h.cell]; exact hc) hL, fun b b' L L' hb hb' => hH.inj b b' L L' (h.kn hb) (h.kn hb')⟩
theorem HSame.sim {D H : HP} (h : HSame D H) {ρ : PM} {w : World} (hH : HRel ρ H w) (hd : Dom ρ H.n) : Sim ρ H w ρ D w := by
  refine ⟨PM.le.refl ρ, by rw [h.n]; exact Nat.le_refl _, by rw [h.n]; exact hd, h.rel hH, fun b i hb hc => by rw [h.cell]; exact hc, fun b L j _ _ _ _ => SameAt.of_heap rfl j, fun _ _ _ => rfl, fun b L h1 h2 => ?_, Nat.le_refl _, rfl, rfl, rfl, fun b L h1 h2 => ?_⟩
  · rw [h1] at h2; cases h2
  · rw [h1] at h2; cases h2
theorem CodeOK.recell {c : Code} {F : Fm} {H D : HP} {Z : Oc → Prop} (hD : HSame D H) (k : CodeOK P n m rb r c F D Z) : CodeOK P n m rb r c F H Z :=
  ⟨fun x hx => hD.st.trans (k.st x hx), fun {Q ρ a w m0} s hr hm df hq =>
    have s0 := hD.sim s.hp s.dom
    k.wp ⟨s.fr, hD.rel s.hp, s0.dom, s.j⟩ hr hm (df.step s.dom s0) fun x hx ρ' a' w' s1 d1 sim => hq x hx ρ' a' w' s1 d1 (s0.trans s.dom sim)⟩
theorem Seg.recell {c : Code} {F : Fm} {H D : HP} {e : Ex} {ss : List Nat} {vs : List (Option AV)} {H' : HP} (hD : HSame D H) (k : Seg P n m rb r c F D e ss vs H') : Seg P n m rb r c F H e ss vs H' :=
  ⟨k.ok.recell hD, hD.st.trans k.st⟩
end
theorem Bk.get_flat (n : Nat) (c : Cel) (i : Nat) : Bk.get (.fl n c) i = Bk.get (.lf (List.replicate n (some (.c c)))) i := by
  rw [Bk.get_fl, Bk.get_lf, List.getElem?_replicate]
  split <;> rfl
end Go.Fv

set_option linter.unusedVariables false
namespace Go.Proofs.YtdkoockhfmbcaaaGreatDoor
open Go.Fv Go.Proofs
noncomputable section
def bBody : Code := bodyOf Tryz.f392
def bq (i : Nat) : Code := Nat.rec (motive := fun _ => Code) bBody (fun _ c => kidR c) i
def bp (i : Nat) : Code := kidL (bq i)
def bInit (i : Nat) : Code := kidL (bp i)
def bLoop (i : Nat) : Code := kidL (kidL (kidR (bp i)))
theorem bBody_eq : bBody = .seq (bp 0) (.seq (bp 1) (.seq (.seq (bInit 2) (.block 0 (.loop (bLoop 2)))) (.seq (.seq (bInit 3) (.block 2 (.loop (bLoop 3)))) (.seq (bp 4) (.seq (.seq (bInit 5) (.block 4 (.loop (bLoop 5)))) (.seq (.seq (bInit 6) (.block 6 (.loop (bLoop 6)))) (bq 7))))))) := by kernel_rfl
def wB (w : Nat → Int) : Bk := .nd 32 (.lf (row32 w 0 32)) (.lf (row32 w 32 32))
def zeroI (_ : Nat) : Int := .ofNat 0
def HA (bs h k : Nat → Int) : PT Bk := ((((PT.nil : PT Bk).put 0 (some (byB bs 64))).put 1 (some (.lf (row32 h 0 8)))).put 2 (some (wB k))).put 3 (some (.lf (row32 zeroI 0 8)))
def H0 (bs : Nat → Int) : HP := byH bs 64
def H4 (bs h k : Nat → Int) : HP := ⟨HA bs h k, 4, 1⟩
def H5 (bs h k w : Nat → Int) : HP := ⟨(HA bs h k).put 4 (some (wB w)), 5, 1⟩
def H6 (bs h k w x : Nat → Int) : HP := ⟨((HA bs h k).put 4 (some (wB w))).put 5 (some (.lf (row32 x 0 8))), 6, 1⟩
def oraB : OraM := oraN Tryz.prog (treeT tbl) (baseM []) 1000 20
def entB : FuncId → Bool := entT (treeT tbl)
@[reducible] noncomputable def evB (c : Code) (F : Fm) (H : HP) : RC := codeA Tryz.prog oraB entB 205 1000 none c F H
def pt (b : Nat) : AV := .one (.ptr b 0)
def num (t : Nat) : AV := .one (.lit (.int .i64 (.ofNat t)))
def slc (m cap : Nat) : AV := .one (.sl 0 0 (m + 64) cap)
def F0 (h k : Nat → Int) (m cap : Nat) : Fm := frameF .nil 0 [.agg (cel32 h 0 8), slc m cap, .agg (cel32 k 0 64)]
theorem e0 (bs h k : Nat → Int) (m cap : Nat) : obs [1, 3, 5, 6] (evB (bp 0) (F0 h k m cap) (H0 bs)) = some (.nrm, [some (slc m cap), some (pt 1), some (pt 2), some (pt 3)], H4 bs h k) := by kernel_rfl
theorem e1 (bs h k : Nat → Int) (m cap : Nat) : obs [1, 3, 5, 6, 7] (evB (bp 1) (zipF [1, 3, 5, 6] [slc m cap, pt 1, pt 2, pt 3]) (H4 bs h k)) = some (.nrm, [some (slc m cap), some (pt 1), some (pt 2), some (pt 3), some (pt 4)], H5 bs h k zeroI) := by kernel_rfl
/-- The first loop: the words of the block. -/
theorem e2 (bs h k : Nat → Int) (m cap : Nat) : obs [1, 3, 5, 6, 7, 19] (evB (bInit 2) (zipF [1, 3, 5, 6, 7] [slc m cap, pt 1, pt 2, pt 3, pt 4]) (H5 bs h k zeroI)) = some (.nrm, [some (slc m cap), some (pt 1), some (pt 2), some (pt 3), some (pt 4), some (num 0)], H5 bs h k zeroI) := by kernel_rfl
def v2 (m cap t : Nat) : List AV := [slc m cap, pt 1, pt 2, pt 3, pt 4, num t]
theorem l2 (bs h k w : Nat → Int) (m cap : Nat) : List.map (fun t => obs [1, 3, 5, 6, 7, 19] (evB (bLoop 2) (zipF [1, 3, 5, 6, 7, 19] (v2 m cap t)) (H5 bs h k w))) (List.range 16) =
    List.map (fun t => some (.nrm, (v2 m cap (Nat.succ t)).map some, H5 bs h k (updI w t (wordI bs t)))) (List.range 16) := by kernel_rfl
theorem z2 (bs h k w : Nat → Int) (m cap : Nat) : obs [3, 5, 6, 7] (evB (bLoop 2) (zipF [1, 3, 5, 6, 7, 19] (v2 m cap 16)) (H5 bs h k w)) = some (.ext 0, [some (pt 1), some (pt 2), some (pt 3), some (pt 4)], H5 bs h k w) := by kernel_rfl
/-- The second loop: the schedule. -/
theorem e3 (bs h k w : Nat → Int) : obs [3, 5, 6, 7, 9] (evB (bInit 3) (zipF [3, 5, 6, 7] [pt 1, pt 2, pt 3, pt 4]) (H5 bs h k w)) = some (.nrm, [some (pt 1), some (pt 2), some (pt 3), some (pt 4), some (num 16)], H5 bs h k w) := by kernel_rfl
def v3 (t : Nat) : List AV := [pt 1, pt 2, pt 3, pt 4, num t]
theorem l3 (bs h k w : Nat → Int) : List.map (fun t => obs [3, 5, 6, 7, 9] (evB (bLoop 3) (zipF [3, 5, 6, 7, 9] (v3 (t + 16))) (H5 bs h k w))) (List.range 48) =
    List.map (fun t => some (.nrm, (v3 (t + 1 + 16)).map some, H5 bs h k (updI w (t + 16) (schedI w (t + 16))))) (List.range 48) := by kernel_rfl
theorem z3 (bs h k w : Nat → Int) : obs [3, 5, 6, 7] (evB (bLoop 3) (zipF [3, 5, 6, 7, 9] (v3 64)) (H5 bs h k w)) = some (.ext 2, [some (pt 1), some (pt 2), some (pt 3), some (pt 4)], H5 bs h k w) := by kernel_rfl
/-- The eight words' copy, and the rounds. -/
theorem e4 (bs h k w : Nat → Int) : obs [3, 5, 6, 7, 12] (evB (bp 4) (zipF [3, 5, 6, 7] [pt 1, pt 2, pt 3, pt 4]) (H5 bs h k w)) = some (.nrm, [some (pt 1), some (pt 2), some (pt 3), some (pt 4), some (pt 5)], H6 bs h k w h) := by kernel_rfl
theorem e5 (bs h k w x : Nat → Int) : obs [3, 5, 6, 7, 12, 112] (evB (bInit 5) (zipF [3, 5, 6, 7, 12] [pt 1, pt 2, pt 3, pt 4, pt 5]) (H6 bs h k w x)) = some (.nrm, [some (pt 1), some (pt 2), some (pt 3), some (pt 4), some (pt 5), some (num 0)], H6 bs h k w x) := by kernel_rfl
def v5 (t : Nat) : List AV := [pt 1, pt 2, pt 3, pt 4, pt 5, num t]
theorem l5 (bs h k w x : Nat → Int) : List.map (fun t => obs [3, 5, 6, 7, 12, 112] (evB (bLoop 5) (zipF [3, 5, 6, 7, 12, 112] (v5 t)) (H6 bs h k w x))) (List.range 64) =
    List.map (fun t => some (.nrm, (v5 (Nat.succ t)).map some, H6 bs h k w (roundI k w x t))) (List.range 64) := by kernel_rfl
theorem z5 (bs h k w x : Nat → Int) : obs [3, 6, 12] (evB (bLoop 5) (zipF [3, 5, 6, 7, 12, 112] (v5 64)) (H6 bs h k w x)) = some (.ext 4, [some (pt 1), some (pt 3), some (pt 5)], H6 bs h k w x) := by kernel_rfl
/-- The sums. -/
theorem e6 (bs h k w x : Nat → Int) : obs [3, 6, 12, 192] (evB (bInit 6) (zipF [3, 6, 12] [pt 1, pt 3, pt 5]) (H6 bs h k w x)) = some (.nrm, [some (pt 1), some (pt 3), some (pt 5), some (num 0)], H6 bs h k w x) := by kernel_rfl
def v6 (t : Nat) : List AV := [pt 1, pt 3, pt 5, num t]
theorem l6 (bs h k w x : Nat → Int) : List.map (fun t => obs [3, 6, 12, 192] (evB (bLoop 6) (zipF [3, 6, 12, 192] (v6 t)) (H6 bs h k w x))) (List.range 8) =
    List.map (fun t => some (.nrm, (v6 (Nat.succ t)).map some, H6 bs (updI h t (addI (h t) (x t))) k w x)) (List.range 8) := by kernel_rfl
theorem z6 (bs h k w x : Nat → Int) : obs [3, 6] (evB (bLoop 6) (zipF [3, 6, 12, 192] (v6 8)) (H6 bs h k w x)) = some (.ext 6, [some (pt 1), some (pt 3)], H6 bs h k w x) := by kernel_rfl
def H7 (bs h k w x : Nat → Int) : HP := ⟨((((((PT.nil : PT Bk).put 0 (some (byB bs 64))).put 1 (some (.lf (row32 h 0 8)))).put 2 (some (wB k))).put 3 (some (.lf (row32 h 0 8)))).put 4 (some (wB w))).put 5 (some (.lf (row32 x 0 8))), 6, 1⟩
theorem e7 (bs h k w x : Nat → Int) : obs [6] (evB (bq 7) (zipF [3, 6] [pt 1, pt 3]) (H6 bs h k w x)) = some (.rt, [some (pt 3)], H7 bs h k w x) := by kernel_rfl
theorem endB (bs h k w x : Nat → Int) (F : Fm) (hF : F.get 6 = some (pt 3)) : endOc Tryz.prog Tryz.f392 (.rt, F, H7 bs h k w x) = some (.agg (eight h), H7 bs h k w x) := by
  have : endOc Tryz.prog Tryz.f392 (.rt, zipF [6] [pt 3], H7 bs h k w x) = some (.agg (eight h), H7 bs h k w x) := by kernel_rfl
  rw [← this]
  unfold endOc
  simp only
  unfold endF
  have e : resF Tryz.prog (H7 bs h k w x) F = resF Tryz.prog (H7 bs h k w x) (zipF [6] [pt 3]) ∨ True := .inr trivial
  have hr : Tryz.f392.results.toList = [.cell 6 548] := by kernel_rfl
  rw [hr]
  simp only [List.map_cons, List.map_nil, resF, hF]
  rfl
end
end Go.Proofs.YtdkoockhfmbcaaaGreatDoor

set_option linter.unusedVariables false
namespace Go.Proofs.YtdkoockhfmbcaaaGreatDoor
open Go.Fv Go.Proofs
noncomputable section
theorem oraB_ok : OraMOK Tryz.prog oraB := oraN_ok mixed tbl_ok (baseM_ok (fun p hp => by cases hp)) 20
theorem entB_ok : ∀ g, entB g = true → ∀ us w, (callFunc g us).run Tryz.prog w = .ok (.enter g us) w := entT_ok tbl_ok
theorem sg {c : Code} {F : Fm} {H : HP} {ss : List Nat} {e : Ex} {vs : List (Option AV)} {H' : HP} (hf : flowAll c = true) (h : obs ss (evB c F H) = some (e, vs, H')) : Seg Tryz.prog 205 0 none none c F H e ss vs H' :=
  Seg.of_obs mixed oraB_ok entB_ok hf h
theorem s2 (bs h k : Nat → Int) (m cap : Nat) : Seg Tryz.prog 205 0 none none (.seq (bInit 2) (.block 0 (.loop (bLoop 2)))) (zipF [1, 3, 5, 6, 7] [slc m cap, pt 1, pt 2, pt 3, pt 4]) (H5 bs h k zeroI) .nrm [3, 5, 6, 7] ([pt 1, pt 2, pt 3, pt 4].map some) (H5 bs h k (loadW bs 16)) :=
  Seg.seq' (vs := v2 m cap 0) (sg (by kernel_rfl) (e2 bs h k m cap)) (Seg.block (Seg.loop [1, 3, 5, 6, 7, 19] (v2 m cap) (fun t => H5 bs h k (loadW bs t)) 16 (by simp) (by kernel_rfl) rfl
    (fun t ht => sg (by kernel_rfl) (List.map_inj_left.1 (l2 bs h k (loadW bs t) m cap) t (List.mem_range.2 ht))) (sg (by kernel_rfl) (z2 bs h k (loadW bs 16) m cap))))
theorem s3 (bs h k w : Nat → Int) : Seg Tryz.prog 205 0 none none (.seq (bInit 3) (.block 2 (.loop (bLoop 3)))) (zipF [3, 5, 6, 7] [pt 1, pt 2, pt 3, pt 4]) (H5 bs h k w) .nrm [3, 5, 6, 7] ([pt 1, pt 2, pt 3, pt 4].map some) (H5 bs h k (schedW w 48)) :=
  Seg.seq' (vs := v3 16) (sg (by kernel_rfl) (e3 bs h k w)) (Seg.block (Seg.loop [3, 5, 6, 7, 9] (fun t => v3 (t + 16)) (fun t => H5 bs h k (schedW w t)) 48 (by simp) (by kernel_rfl) rfl
    (fun t ht => sg (by kernel_rfl) (List.map_inj_left.1 (l3 bs h k (schedW w t)) t (List.mem_range.2 ht))) (sg (by kernel_rfl) (z3 bs h k (schedW w 48)))))
theorem s5 (bs h k w x : Nat → Int) : Seg Tryz.prog 205 0 none none (.seq (bInit 5) (.block 4 (.loop (bLoop 5)))) (zipF [3, 5, 6, 7, 12] [pt 1, pt 2, pt 3, pt 4, pt 5]) (H6 bs h k w x) .nrm [3, 6, 12] ([pt 1, pt 3, pt 5].map some) (H6 bs h k w (roundW k w x 64)) :=
  Seg.seq' (vs := v5 0) (sg (by kernel_rfl) (e5 bs h k w x)) (Seg.block (Seg.loop [3, 5, 6, 7, 12, 112] v5 (fun t => H6 bs h k w (roundW k w x t)) 64 (by simp) (by kernel_rfl) rfl
    (fun t ht => sg (by kernel_rfl) (List.map_inj_left.1 (l5 bs h k w (roundW k w x t)) t (List.mem_range.2 ht))) (sg (by kernel_rfl) (z5 bs h k w (roundW k w x 64)))))
theorem s6 (bs h k w x : Nat → Int) : Seg Tryz.prog 205 0 none none (.seq (bInit 6) (.block 6 (.loop (bLoop 6)))) (zipF [3, 6, 12] [pt 1, pt 3, pt 5]) (H6 bs h k w x) .nrm [3, 6] ([pt 1, pt 3].map some) (H6 bs (addW x h 8) k w x) :=
  Seg.seq' (vs := v6 0) (sg (by kernel_rfl) (e6 bs h k w x)) (Seg.block (Seg.loop [3, 6, 12, 192] v6 (fun t => H6 bs (addW x h t) k w x) 8 (by simp) (by kernel_rfl) rfl
    (fun t ht => sg (by kernel_rfl) (List.map_inj_left.1 (l6 bs (addW x h t) k w x) t (List.mem_range.2 ht))) (sg (by kernel_rfl) (z6 bs (addW x h 8) k w x))))
theorem sAll (bs h k : Nat → Int) (m cap : Nat) : Seg Tryz.prog 205 0 none none bBody (F0 h k m cap) (H0 bs) .rt [6] [some (pt 3)] (H7 bs (blockW k h bs) k (schedW (loadW bs 16) 48) (roundW k (schedW (loadW bs 16) 48) h 64)) := by
  rw [bBody_eq]
  exact Seg.seq' (vs := [slc m cap, pt 1, pt 2, pt 3]) (sg (by kernel_rfl) (e0 bs h k m cap)) <|
    Seg.seq' (vs := [slc m cap, pt 1, pt 2, pt 3, pt 4]) (sg (by kernel_rfl) (e1 bs h k m cap)) <|
    Seg.seq' (vs := [pt 1, pt 2, pt 3, pt 4]) (s2 bs h k m cap) <|
    Seg.seq' (vs := [pt 1, pt 2, pt 3, pt 4]) (s3 bs h k (loadW bs 16)) <|
    Seg.seq' (vs := [pt 1, pt 2, pt 3, pt 4, pt 5]) (sg (by kernel_rfl) (e4 bs h k (schedW (loadW bs 16) 48))) <|
    Seg.seq' (vs := [pt 1, pt 3, pt 5]) (s5 bs h k (schedW (loadW bs 16) 48) h) <|
    Seg.seq' (vs := [pt 1, pt 3]) (s6 bs h k (schedW (loadW bs 16) 48) (roundW k (schedW (loadW bs 16) 48) h 64)) <|
    sg (by kernel_rfl) (e7 bs (blockW k h bs) k (schedW (loadW bs 16) 48) (roundW k (schedW (loadW bs 16) 48) h 64))
theorem cell0 (bs : Nat → Int) (t : PT Bk) (n lo i : Nat) (h : t.get 0 = some (byB bs 64)) : (⟨t, n, lo⟩ : HP).cell 0 i = (H0 bs).cell 0 i := HP.cell_of_get (H := ⟨t, n, lo⟩) (H' := H0 bs) (b := 0) (b' := 0) h i
def outB (bs h k : Nat → Int) : HP := H7 bs (blockW k h bs) k (schedW (loadW bs 16) 48) (roundW k (schedW (loadW bs 16) 48) h 64)
theorem blk_call (bs h k : Nat → Int) (m cap : Nat) : CallOK Tryz.prog 392 [.agg (cel32 h 0 8), slc m cap, .agg (cel32 k 0 64)] (H0 bs) (· = (.agg (eight (blockW k h bs)), outB bs h k)) := by
  have hs := sAll bs h k m cap
  refine callOK_of_code Tryz.func392 (c := bBody) (by kernel_rfl) (run_enter Tryz.func392 (by kernel_rfl) (c := bBody) (by kernel_rfl)) (Nat.le_of_ble_eq_true (by kernel_rfl)) hs.ok (fun x hx => ?_) (fun o ho => by rw [ho]; exact hs.st)
  obtain ⟨e, F, H⟩ := x
  obtain ⟨h1, h2, h3⟩ := hx
  simp only at h1 h2 h3
  subst h1 h3
  have h6 : F.get 6 = some (pt 3) := by
    have : F.get 6 :: [] = [some (pt 3)] := h2
    injection this
  exact ⟨_, endB bs (blockW k h bs) k _ _ F h6, rfl⟩
theorem outB_cell (bs h k : Nat → Int) (i : Nat) : (outB bs h k).cell 0 i = (H0 bs).cell 0 i := HP.cell_of_get (b := 0) (b' := 0) (by kernel_rfl) i
end
end Go.Proofs.YtdkoockhfmbcaaaGreatDoor

set_option linter.unusedSectionVars false
set_option linter.unusedVariables false
namespace Go.Fv
theorem cel32_eq (f : Nat → Int) : ∀ (n i : Nat), cel32 f i n = (List.range' i n).map fun j => lit32 (f j)
  | 0, _ => rfl
  | n + 1, i => by
    show lit32 (f i) :: cel32 f (i + 1) n = _
    rw [cel32_eq f n (i + 1), List.range'_succ, List.map_cons]
theorem cel32_of {l : List Cel} {xs : List Int} (h : l = xs.map lit32) : l = cel32 (fun i => xs.getD i 0) 0 xs.length := by
  rw [cel32_eq, h]
  have := rowI_self xs
  rw [rowI_get] at this
  conv => lhs; rw [← this]
  rw [List.map_map]
  rfl
theorem ints32_eq : ∀ {l : List Cel} {xs : List Int}, ints32 l = some xs → l = xs.map lit32
  | [], xs, h => by cases h; rfl
  | c :: l, xs, h => by
    unfold ints32 at h
    split at h
    · rename_i hh; cases hh
    · rename_i n r hh
      injection hh with h1 h2
      subst h1 h2
      split at h
      · rename_i ns hns
        cases h
        rw [ints32_eq hns]
        rfl
      · cases h
    · cases h
theorem intsOf_eq : ∀ {l : List Cel} {xs : List Int}, intsOf l = some xs → l = xs.map lit8
  | [], xs, h => by cases h; rfl
  | c :: l, xs, h => by
    unfold intsOf at h
    split at h
    · rename_i hh; cases hh
    · rename_i n r hh
      injection hh with h1 h2
      subst h1 h2
      split at h
      · rename_i ns hns
        cases h
        rw [intsOf_eq hns]
        rfl
      · cases h
    · cases h
theorem eqK_eq : ∀ {l : List Cel} {ks : List Nat}, eqK l ks = true → l = (ofNats ks).map lit32
  | [], [], _ => rfl
  | [], _ :: _, h => by cases h
  | c :: l, [], h => by
    unfold eqK at h
    split at h
    · rename_i hh _; cases hh
    · rename_i hh; cases hh
    · cases h
  | c :: l, m :: ks, h => by
    unfold eqK at h
    split at h
    · rename_i hh _; cases hh
    · rename_i n r m' s hh hh2
      injection hh with h1 h2
      injection hh2 with h3 h4
      subst h1 h2 h3 h4
      rw [Bool.and_eq_true] at h
      rw [Nat.eq_of_beq_eq_true h.1, eqK_eq h.2]
      rfl
    · cases h
theorem all_lits : ∀ (xs : List Int) (f : Int → Cel), (∀ x, isLit (f x) = true) → (xs.map f).all isLit = true
  | [], _, _ => rfl
  | x :: r, f, h => by simp only [List.map_cons, List.all_cons, h x, all_lits r f h, Bool.and_self]
theorem range32 : ∀ {xs : List Int} {us : List Value} {ρ : PM}, All2 (CRel ρ) (xs.map lit32) us → ∀ x ∈ xs, 0 ≤ x ∧ x < 4294967296
  | [], _, _, _, x, h => by cases h
  | y :: r, [], _, h, x, hx => h.elim
  | y :: r, u :: us, ρ, h, x, hx => by
    obtain ⟨⟨_, h1⟩, h2⟩ := h
    rcases List.mem_cons.1 hx with rfl | hx
    · have h' : (decide ((0 : Int) ≤ x) && decide (x ≤ (4294967295 : Int))) = true := h1
      rw [Bool.and_eq_true, decide_eq_true_eq, decide_eq_true_eq] at h'
      omega
    · exact range32 h2 x hx
theorem nats_of_range {xs : List Int} {B : Nat} (h : ∀ x ∈ xs, 0 ≤ x ∧ x < B) : (∀ x ∈ natsOf xs, x < B) ∧ ∀ i, i < xs.length → xs.getD i 0 = ((natsOf xs).getD i 0 : Nat) := by
  rw [natsOf_eq]
  refine ⟨fun x hx => ?_, fun i hi => ?_⟩
  · obtain ⟨y, hy, rfl⟩ := List.mem_map.1 hx
    have := h y hy
    omega
  · rw [List.getD_eq_getElem?_getD, List.getD_eq_getElem?_getD, List.getElem?_map, List.getElem?_eq_getElem hi]
    simp only [Option.map_some, Option.getD_some]
    have := h xs[i] (List.getElem_mem hi)
    omega
/-- What the walk of a seat's block shows. -/
def BlkWalk (P : Program) (f : FuncId) : Prop := ∀ (bs h k : Nat → Int) (m cap : Nat), ∃ Ho : HP, CallOK P f [.agg (cel32 h 0 8), .one (.sl 0 0 (m + 64) cap), .agg (cel32 k 0 64)] (byH bs 64) (· = (.agg (eight (blockW k h bs)), Ho)) ∧ ∀ i, Ho.cell 0 i = (byH bs 64).cell 0 i
theorem byH_cell (bs : Nat → Int) (n i : Nat) : (byH bs n).cell 0 i = if i < n then some (.c (lit8 (bs i))) else none := by
  show (((PT.nil : PT Bk).put 0 (some (byB bs n))).get 0).bind (Bk.get · i) = _
  rw [PT.get_put, if_pos rfl]
  show Bk.get (.lf (rowC bs 0 n)) i = _
  rw [Bk.get_lf, rowC_get, List.getElem?_map]
  by_cases h : i < n
  · rw [List.getElem?_range' h, if_pos h]
    simp
  · rw [List.getElem?_eq_none (by simp; omega), if_neg h]
    rfl
theorem byH_other (bs : Nat → Int) (n b i : Nat) (h : b ≠ 0) : (byH bs n).cell b i = none := by
  show (((PT.nil : PT Bk).put 0 (some (byB bs n))).get b).bind (Bk.get · i) = _
  rw [PT.get_put, if_neg h, PT.get_nil]
  rfl
theorem blkO_ok {P : Program} {f : FuncId} (hw : BlkWalk P f) : FnOKM P f (blkO G0) := by
  intro args H outs hr
  unfold blkO at hr
  split at hr
  · rename_i hs sv ks
    split at hr
    · rename_i xs b off len hxs hb hks
      split at hr
      · rename_i cs h8 h64 hcs
        split at hr
        · rename_i ys hys
          cases hr
          have hxl : xs.length = 8 := by
            have := Nat.eq_of_beq_eq_true h8
            rw [ints32_eq hxs, List.length_map] at this
            exact this
          have hyl : ys.length = 64 := by
            have := (HP.read_spec hcs).1
            rw [intsOf_eq hys, List.length_map] at this
            exact this
          have hle := Nat.le_of_ble_eq_true h64
          refine frame_call (b := b) (off := off) (Hs := byH (fun i => ys.getD i 0) 64) (show 0 < 1 by decide) (fun i c hc => ?_) (fun b' hb' i => byH_other _ _ _ _ hb') rfl (fun ρ us w hu hH => ?_)
          · rw [byH_cell] at hc
            split at hc
            · rename_i hi
              cases hc
              refine ⟨⟨_, rfl⟩, (HP.read_spec hcs).2 i _ ?_⟩
              rw [intsOf_eq hys, List.getElem?_map, List.getElem?_eq_getElem (by omega)]
              simp only [Option.map_some]
              rw [List.getD_eq_getElem?_getD, List.getElem?_eq_getElem (by omega)]
              rfl
            · cases hc
          · match us, hu with
            | [u0, u1, u2], ⟨r0, r1, r2, _⟩ =>
              obtain ⟨L, c, hL, hcap, r1'⟩ := slice_win hb r1
              obtain ⟨Ho, hcall, hcell⟩ := hw (fun i => ys.getD i 0) (fun i => xs.getD i 0) (fun i => (ofNats shaK).getD i 0) (len - 64) (c + len)
              rw [show len - 64 + 64 = len by omega] at hcall
              have e0 : hs = cel32 (fun i => xs.getD i 0) 0 8 := by rw [← hxl]; exact cel32_of (ints32_eq hxs)
              have e2 : ks = cel32 (fun i => (ofNats shaK).getD i 0) 0 64 := cel32_of (xs := ofNats shaK) (eqK_eq hks)
              refine ⟨L, [.agg (cel32 (fun i => xs.getD i 0) 0 8), .one (.sl 0 0 len (c + len)), .agg (cel32 (fun i => (ofNats shaK).getD i 0) 0 64)], _, hL, ⟨VRel.lits (ρ := ρ) ?_ (e0 ▸ r0), r1', VRel.lits (ρ := ρ) ?_ (e2 ▸ r2), trivial⟩, fun o ho => ?_, hcall⟩
              · show (cel32 (fun i => xs.getD i 0) 0 8).all isLit = true
                rw [← e0, ints32_eq hxs]; exact all_lits _ _ fun _ => rfl
              · show (cel32 (fun i => (ofNats shaK).getD i 0) 0 64).all isLit = true
                rw [← e2, eqK_eq hks]; exact all_lits _ _ fun _ => rfl
              · subst ho
                refine ⟨?_, hcell⟩
                obtain ⟨vs, hv0, hvr⟩ := r0
                rw [ints32_eq hxs] at hvr
                obtain ⟨n1, n2⟩ := nats_of_range (B := 4294967296) (range32 hvr)
                obtain ⟨us', hl', hrel', _⟩ := HP.read_world hcs hH hL
                obtain ⟨m1, m2⟩ := nats_of_range (B := 256) (fun x hx => by have := intsOf_range hys hrel' x hx; omega)
                obtain ⟨_, _, key⟩ := blockW_eq (k := fun i => (ofNats shaK).getD i 0) (h := fun i => xs.getD i 0) (bs := fun i => ys.getD i 0) (hl := natsOf xs) (bl := natsOf ys) (by rw [natsOf_eq, List.length_map, hxl]) n1 (by rw [natsOf_eq, List.length_map, hyl]) m1
                  (fun i hi => by
                    show (ofNats shaK).getD i 0 = _
                    unfold ofNats
                    rw [List.getD_eq_getElem?_getD, List.getD_eq_getElem?_getD, List.getElem?_map, List.getElem?_eq_getElem (by rw [shaK_len]; exact hi)]
                    rfl) (fun i hi => n2 i (by omega)) (fun i hi => m2 i (by omega))
                show AV.agg (eight (blockW _ _ _)) = AV.agg (eight (G0 xs ys))
                unfold eight
                rw [key 0 (by decide), key 1 (by decide), key 2 (by decide), key 3 (by decide), key 4 (by decide), key 5 (by decide), key 6 (by decide), key 7 (by decide)]
                rfl
        · cases hr
      · cases hr
    · cases hr
  · cases hr
end Go.Fv
