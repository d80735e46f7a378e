/-
  A second abstract evaluator of the model's code: the seal's words as the code reckons them, and as numbers. Conditions: none; nothing here speaks of one program.
  A second abstract evaluator of the model's code: one block of the seal, as the code reckons it, is the numbers' one. Conditions: none; nothing here speaks of one program.
  A second abstract evaluator of the model's code: functions that only read: a contract on a small heap is one on each heap that holds the same cells. Conditions: none; nothing here speaks of one program.
  A second abstract evaluator of the model's code: rules for code with states that are not wholly known: loops of so many rounds, frames of which less is asked. Conditions: none; nothing here speaks of one program.
  A second abstract evaluator of the model's code: what of an evaluation is looked at: the ending, some slots, the heap; loops of so many rounds told so. Conditions: none; nothing here speaks of one program.
  A second abstract evaluator of the model's code: a function that reads one window of memory, and turns nothing: its contract on a small heap is one on each heap that shows the same cells there. Conditions: none; nothing here speaks of one program.
-/
import Derived.Test.YtdkoockhfmbcaaaGreatDoorFwS
import Derived.Laws.BitsAllLaws
set_option linter.unusedSectionVars false
set_option linter.unusedVariables false
namespace Go.Fv
noncomputable section
def xorI (a b : Int) : Int := bits .xor .u32 a b
def orI (a b : Int) : Int := bits .or .u32 a b
def andI (a b : Int) : Int := bits .and .u32 a b
def notI (a : Int) : Int := bits .xor .u32 IntKind.u32.max a
def addI (a b : Int) : Int := IntKind.u32.wrap (a + b)
def shrI (a : Int) (n : Nat) : Int := a.fdiv (2 ^ n)
def shlI (a : Int) (n : Nat) : Int := IntKind.u32.wrap (a * 2 ^ n)
def rotI (a : Int) (n : Nat) : Int := orI (shlI a (32 - n)) (shrI a n)
def u32I (a : Int) : Int := IntKind.u32.wrap a
def schedI (w : Nat → Int) (t : Nat) : Int :=
  addI (addI (addI (xorI (xorI (rotI (w (t - 2)) 17) (rotI (w (t - 2)) 19)) (shrI (w (t - 2)) 10)) (w (t - 7))) (xorI (xorI (rotI (w (t - 15)) 7) (rotI (w (t - 15)) 18)) (shrI (w (t - 15)) 3))) (w (t - 16))
def updI (w : Nat → Int) (t : Nat) (x : Int) (i : Nat) : Int := Bool.rec (motive := fun _ => Int) (w i) x (Nat.beq i t)
def wordI (bs : Nat → Int) (t : Nat) : Int := orI (orI (orI (shlI (u32I (bs (4 * t))) 24) (shlI (u32I (bs (4 * t + 1))) 16)) (shlI (u32I (bs (4 * t + 2))) 8)) (u32I (bs (4 * t + 3)))
def t1I (k w x : Nat → Int) (t : Nat) : Int :=
  addI (addI (addI (addI (x 7) (xorI (xorI (rotI (x 4) 6) (rotI (x 4) 11)) (rotI (x 4) 25))) (xorI (andI (x 4) (x 5)) (andI (notI (x 4)) (x 6)))) (k t)) (w t)
def t2I (x : Nat → Int) : Int :=
  addI (xorI (xorI (rotI (x 0) 2) (rotI (x 0) 13)) (rotI (x 0) 22)) (xorI (xorI (andI (x 0) (x 1)) (andI (x 0) (x 2))) (andI (x 1) (x 2)))
def listI (l : List Int) (i : Nat) : Int := l.getD i 0
def roundI (k w x : Nat → Int) (t : Nat) : Nat → Int :=
  listI [addI (t1I k w x t) (t2I x), x 0, x 1, x 2, addI (x 3) (t1I k w x t), x 4, x 5, x 6]
/-- Words laid one behind the other; the rounds. -/
def loadW (bs : Nat → Int) (t : Nat) : Nat → Int := Nat.rec (motive := fun _ => Nat → Int) (fun _ => .ofNat 0) (fun t w => updI w t (wordI bs t)) t
def schedW (w0 : Nat → Int) (t : Nat) : Nat → Int := Nat.rec (motive := fun _ => Nat → Int) w0 (fun t w => updI w (t + 16) (schedI w (t + 16))) t
def roundW (k w x : Nat → Int) (t : Nat) : Nat → Int := Nat.rec (motive := fun _ => Nat → Int) x (fun t x => roundI k w x t) t
def addW (x : Nat → Int) (h : Nat → Int) (t : Nat) : Nat → Int := Nat.rec (motive := fun _ => Nat → Int) h (fun t h => updI h t (addI (h t) (x t))) t
/-- The eight words behind a block. -/
def blockW (k h bs : Nat → Int) : Nat → Int := addW (roundW k (schedW (loadW bs 16) 48) h 64) h 8
end
/-! ### As numbers -/

theorem addI_nat (x y : Nat) : addI x y = ((x + y) % 4294967296 : Nat) := by
  unfold addI; rw [IntKind.wrap_u32']; omega
theorem u32I_nat (x : Nat) (h : x < 4294967296) : u32I x = (x : Nat) := by
  unfold u32I; rw [IntKind.wrap_u32']; omega
theorem xorI_nat {x y : Nat} (hx : x < 4294967296) (hy : y < 4294967296) : xorI x y = (x ^^^ y : Nat) := u32_xor_nat x y hx hy
theorem orI_nat {x y : Nat} (hx : x < 4294967296) (hy : y < 4294967296) : orI x y = (x ||| y : Nat) := u32_or_nat x y hx hy
theorem andI_nat {x y : Nat} (hx : x < 4294967296) (hy : y < 4294967296) : andI x y = (x &&& y : Nat) := u32_and_nat x y hx hy
theorem notI_nat {x : Nat} (hx : x < 4294967296) : notI x = (4294967295 ^^^ x : Nat) := by
  have h : IntKind.u32.max = ((4294967295 : Nat) : Int) := by decide
  unfold notI
  rw [h]
  exact u32_xor_nat 4294967295 x (by decide) hx
theorem shrI_nat (x n : Nat) : shrI x n = (x >>> n : Nat) := by
  have h : ((2 : Int) ^ n) = ((2 ^ n : Nat) : Int) := by rw [Int.natCast_pow]; rfl
  unfold shrI
  rw [h, Int.fdiv_eq_ediv_of_nonneg _ (Int.natCast_nonneg _), Nat.shiftRight_eq_div_pow]
  exact (Int.natCast_ediv x (2 ^ n)).symm
theorem shlI_nat (x n : Nat) : shlI x n = ((x <<< n) % 4294967296 : Nat) := by
  have h : ((2 : Int) ^ n) = ((2 ^ n : Nat) : Int) := by rw [Int.natCast_pow]; rfl
  unfold shlI
  rw [h, IntKind.wrap_u32', Nat.shiftLeft_eq, ← Int.natCast_mul]
  omega
theorem m32 : 4294967296 = 2 ^ 32 := rfl
theorem mod_lt32 (x : Nat) : x % 4294967296 < 4294967296 := Nat.mod_lt _ (by decide)
theorem shr_lt {x : Nat} (n : Nat) (h : x < 4294967296) : x >>> n < 4294967296 := by
  rw [Nat.shiftRight_eq_div_pow]; exact Nat.lt_of_le_of_lt (Nat.div_le_self _ _) h
theorem xor_lt {x y : Nat} (hx : x < 4294967296) (hy : y < 4294967296) : x ^^^ y < 4294967296 := Nat.xor_lt_two_pow (n := 32) hx hy
theorem or_lt {x y : Nat} (hx : x < 4294967296) (hy : y < 4294967296) : x ||| y < 4294967296 := Nat.or_lt_two_pow (n := 32) hx hy
theorem and_lt {x y : Nat} (hy : y < 4294967296) : x &&& y < 4294967296 := Nat.and_lt_two_pow (n := 32) x hy
theorem tb_false {x i : Nat} (hx : x < 4294967296) (hi : 32 ≤ i) : x.testBit i = false := by
  have h : (4294967296 : Nat) ≤ 2 ^ i := by
    have := Nat.pow_le_pow_right (n := 2) (by decide) hi
    rwa [show (2 : Nat) ^ 32 = 4294967296 from rfl] at this
  exact Nat.testBit_lt_two_pow (Nat.lt_of_lt_of_le hx h)
theorem rot_eq {x n : Nat} (hx : x < 4294967296) (h0 : 0 < n) (h1 : n < 32) : ((x <<< (32 - n)) % 4294967296) ||| (x >>> n) = (dbl x >>> n) % 4294967296 := by
  have hd : dbl x = 2 ^ 32 * x + x := by show x * 4294967297 = _; omega
  rw [hd, m32]
  apply Nat.eq_of_testBit_eq
  intro i
  rw [Nat.testBit_or, Nat.testBit_mod_two_pow, Nat.testBit_mod_two_pow, Nat.testBit_shiftLeft, Nat.testBit_shiftRight, Nat.testBit_shiftRight, Nat.testBit_two_pow_mul_add _ hx]
  by_cases hi : i < 32
  · by_cases hn : n + i < 32
    · have : ¬ (i ≥ 32 - n) := by omega
      simp [hi, hn, this]
    · have h2 : i ≥ 32 - n := by omega
      have h3 : x.testBit (n + i) = false := tb_false hx (by omega)
      rw [h3]
      simp [hi, hn, h2]
      congr 1
      omega
  · have h3 : x.testBit (n + i) = false := tb_false hx (by omega)
    simp [hi, h3]
theorem rotI_nat {x n : Nat} (hx : x < 4294967296) (h0 : 0 < n) (h1 : n < 32) : rotI x n = ((dbl x >>> n) % 4294967296 : Nat) := by
  unfold rotI
  rw [shlI_nat, shrI_nat, orI_nat (mod_lt32 _) (shr_lt n hx), rot_eq hx h0 h1]
theorem xor_mod (a b : Nat) : (a ^^^ b) % 4294967296 = (a % 4294967296) ^^^ (b % 4294967296) := Nat.xor_mod_two_pow (n := 32)
/-! ### One word more -/
theorem bs0_nat {x : Nat} (hx : x < 4294967296) : xorI (xorI (rotI x 2) (rotI x 13)) (rotI x 22) = (bs0 (dbl x) : Nat) := by
  rw [rotI_nat hx (by decide) (by decide), rotI_nat hx (by decide) (by decide), rotI_nat hx (by decide) (by decide), xorI_nat (mod_lt32 _) (mod_lt32 _), xorI_nat (xor_lt (mod_lt32 _) (mod_lt32 _)) (mod_lt32 _), ← xor_mod, ← xor_mod]
  rfl
theorem bs1_nat {x : Nat} (hx : x < 4294967296) : xorI (xorI (rotI x 6) (rotI x 11)) (rotI x 25) = (bs1 (dbl x) : Nat) := by
  rw [rotI_nat hx (by decide) (by decide), rotI_nat hx (by decide) (by decide), rotI_nat hx (by decide) (by decide), xorI_nat (mod_lt32 _) (mod_lt32 _), xorI_nat (xor_lt (mod_lt32 _) (mod_lt32 _)) (mod_lt32 _), ← xor_mod, ← xor_mod]
  rfl
theorem ss0_nat {x : Nat} (hx : x < 4294967296) : xorI (xorI (rotI x 7) (rotI x 18)) (shrI x 3) = (ss0 x (dbl x) : Nat) := by
  rw [rotI_nat hx (by decide) (by decide), rotI_nat hx (by decide) (by decide), shrI_nat, xorI_nat (mod_lt32 _) (mod_lt32 _), xorI_nat (xor_lt (mod_lt32 _) (mod_lt32 _)) (shr_lt _ hx), ← xor_mod]
  rfl
theorem ss1_nat {x : Nat} (hx : x < 4294967296) : xorI (xorI (rotI x 17) (rotI x 19)) (shrI x 10) = (ss1 x (dbl x) : Nat) := by
  rw [rotI_nat hx (by decide) (by decide), rotI_nat hx (by decide) (by decide), shrI_nat, xorI_nat (mod_lt32 _) (mod_lt32 _), xorI_nat (xor_lt (mod_lt32 _) (mod_lt32 _)) (shr_lt _ hx), ← xor_mod]
  rfl
theorem schedI_nat {w : Nat → Int} {t : Nat} {a0 a1 a9 a14 : Nat} (h0 : w (t - 16) = a0) (h1 : w (t - 15) = a1) (h9 : w (t - 7) = a9) (h14 : w (t - 2) = a14) (b1 : a1 < 4294967296) (b14 : a14 < 4294967296) :
    schedI w t = (nextW a0 a1 a9 a14 : Nat) := by
  unfold schedI nextW
  rw [force_eq, force_eq, h0, h1, h9, h14, ss1_nat b14, ss0_nat b1, addI_nat, addI_nat, addI_nat]
  show ((_ % 4294967296 : Nat) : Int) = ((_ % 4294967296 : Nat) : Int)
  congr 1
  show _ = (ss1 a14 (dbl a14) + a9 + (ss0 a1 (dbl a1) + a0)) % 4294967296
  omega
theorem nextW_lt (a0 a1 a9 a14 : Nat) : nextW a0 a1 a9 a14 < 4294967296 := by
  unfold nextW
  rw [force_eq, force_eq]
  exact Nat.mod_lt _ (by decide)
theorem wordI_nat {bs : Nat → Int} {t a b c d : Nat} (h0 : bs (4 * t) = a) (h1 : bs (4 * t + 1) = b) (h2 : bs (4 * t + 2) = c) (h3 : bs (4 * t + 3) = d) (ha : a < 256) (hb : b < 256) (hc : c < 256) (hd : d < 256) :
    wordI bs t = ((((a * 256 + b) * 256 + c) * 256 + d : Nat) : Int) := by
  have hm : 4294967296 = 4294967296 := rfl
  unfold wordI
  rw [h0, h1, h2, h3, u32I_nat a (by omega), u32I_nat b (by omega), u32I_nat c (by omega), u32I_nat d (by omega), shlI_nat, shlI_nat, shlI_nat]
  have e1 : (a <<< 24) % 4294967296 = a <<< 24 := Nat.mod_eq_of_lt (by rw [Nat.shiftLeft_eq]; omega)
  have e2 : (b <<< 16) % 4294967296 = b <<< 16 := Nat.mod_eq_of_lt (by rw [Nat.shiftLeft_eq]; omega)
  have e3 : (c <<< 8) % 4294967296 = c <<< 8 := Nat.mod_eq_of_lt (by rw [Nat.shiftLeft_eq]; omega)
  have l1 : a <<< 24 < 4294967296 := by rw [Nat.shiftLeft_eq]; omega
  have l2 : b <<< 16 < 4294967296 := by rw [Nat.shiftLeft_eq]; omega
  have l3 : c <<< 8 < 4294967296 := by rw [Nat.shiftLeft_eq]; omega
  rw [e1, e2, e3, orI_nat l1 l2, orI_nat (or_lt l1 l2) l3, orI_nat (or_lt (or_lt l1 l2) l3) (by omega)]
  have f1 : a <<< 24 ||| b <<< 16 = (a * 256 + b) <<< 16 := by
    rw [← Nat.shiftLeft_add_eq_or_of_lt (by rw [Nat.shiftLeft_eq]; omega) a, Nat.shiftLeft_eq, Nat.shiftLeft_eq, Nat.shiftLeft_eq]; omega
  have f2 : (a * 256 + b) <<< 16 ||| c <<< 8 = ((a * 256 + b) * 256 + c) <<< 8 := by
    rw [← Nat.shiftLeft_add_eq_or_of_lt (by rw [Nat.shiftLeft_eq]; omega) (a * 256 + b), Nat.shiftLeft_eq, Nat.shiftLeft_eq, Nat.shiftLeft_eq]; omega
  have f3 : ((a * 256 + b) * 256 + c) <<< 8 ||| d = ((a * 256 + b) * 256 + c) * 256 + d := by
    rw [← Nat.shiftLeft_add_eq_or_of_lt (by omega) ((a * 256 + b) * 256 + c), Nat.shiftLeft_eq]
  rw [f1, f2, f3]
/-! ### The choices -/
theorem ch_nat {e f g : Nat} (he : e < 4294967296) (hf : f < 4294967296) (hg : g < 4294967296) : xorI (andI e f) (andI (notI e) g) = (chN e f g : Nat) := by
  rw [andI_nat he hf, notI_nat he, andI_nat (xor_lt (by decide) he) hg, xorI_nat (and_lt hf) (and_lt hg)]
  congr 1
  show _ = g ^^^ (e &&& (f ^^^ g))
  apply Nat.eq_of_testBit_eq
  intro i
  simp only [Nat.testBit_xor, Nat.testBit_and]
  by_cases hi : i < 32
  · have h1 : Nat.testBit 4294967295 i = true := by
      rw [show (4294967295 : Nat) = 2 ^ 32 - 1 by decide, Nat.testBit_two_pow_sub_one]; simp [hi]
    rw [h1]
    cases e.testBit i <;> cases f.testBit i <;> cases g.testBit i <;> rfl
  · have hb : ∀ x : Nat, x < 4294967296 → x.testBit i = false := fun x hx => tb_false hx (by omega)
    rw [hb e he, hb f hf, hb g hg, hb 4294967295 (by decide)]
    rfl
theorem maj_nat {a b c : Nat} (ha : a < 4294967296) (hb : b < 4294967296) (hc : c < 4294967296) : xorI (xorI (andI a b) (andI a c)) (andI b c) = (majN a b c : Nat) := by
  rw [andI_nat ha hb, andI_nat ha hc, andI_nat hb hc, xorI_nat (and_lt hb) (and_lt hc), xorI_nat (xor_lt (and_lt hb) (and_lt hc)) (and_lt hc)]
  congr 1
  show _ = (a &&& b) ||| (c &&& (a ||| b))
  apply Nat.eq_of_testBit_eq
  intro i
  simp only [Nat.testBit_xor, Nat.testBit_and, Nat.testBit_or]
  cases a.testBit i <;> cases b.testBit i <;> cases c.testBit i <;> rfl
end Go.Fv

set_option linter.unusedSectionVars false
set_option linter.unusedVariables false
namespace Go.Fv
theorem updI_eq (w : Nat → Int) (t : Nat) (x : Int) (i : Nat) : updI w t x i = if i = t then x else w i := by
  unfold updI
  by_cases h : i = t
  · subst h; rw [if_pos rfl, Nat.beq_refl]
  · rw [if_neg h]
    have : Nat.beq i t = false := by rw [Bool.eq_false_iff]; intro hh; exact h (Nat.eq_of_beq_eq_true hh)
    rw [this]
theorem loadW_eq (bs : Nat → Int) : ∀ (m i : Nat), loadW bs m i = if i < m then wordI bs i else 0
  | 0, i => rfl
  | m + 1, i => by
    show updI (loadW bs m) m (wordI bs m) i = _
    rw [updI_eq, loadW_eq bs m i]
    by_cases h : i = m
    · subst h; rw [if_pos rfl, if_pos (by omega)]
    · rw [if_neg h]
      by_cases h2 : i < m
      · rw [if_pos h2, if_pos (by omega)]
      · rw [if_neg h2, if_neg (by omega)]
theorem addW_eq (x h : Nat → Int) : ∀ (m i : Nat), addW x h m i = if i < m then addI (h i) (x i) else h i
  | 0, i => rfl
  | m + 1, i => by
    show updI (addW x h m) m (addI (addW x h m m) (x m)) i = _
    rw [updI_eq, addW_eq x h m i, addW_eq x h m m, if_neg (Nat.lt_irrefl m)]
    by_cases e : i = m
    · subst e; rw [if_pos rfl, if_pos (by omega)]
    · rw [if_neg e]
      by_cases h2 : i < m
      · rw [if_pos h2, if_pos (by omega)]
      · rw [if_neg h2, if_neg (by omega)]
/-! ### Words -/
def wordAt (l : List Nat) (t : Nat) : Nat := ((l.getD (4 * t) 0 * 256 + l.getD (4 * t + 1) 0) * 256 + l.getD (4 * t + 2) 0) * 256 + l.getD (4 * t + 3) 0
theorem wordsN_eq : ∀ (m : Nat) (l : List Nat), l.length = 4 * m → wordsN l = (List.range m).map (wordAt l)
  | 0, l, h => by
    have : l = [] := List.length_eq_zero_iff.1 (by omega)
    subst this
    rfl
  | m + 1, a :: b :: c :: d :: r, h => by
    have ih := wordsN_eq m r (by simp only [List.length_cons] at h; omega)
    simp only [wordsN, force_eq]
    rw [ih, List.range_succ_eq_map, List.map_cons, List.map_map]
    congr 1
  | m + 1, [], h => by simp at h
  | m + 1, [_], h => by simp at h; omega
  | m + 1, [_, _], h => by simp at h; omega
  | m + 1, [_, _, _], h => by simp at h; omega
theorem wordAt_lt {l : List Nat} (hb : ∀ x ∈ l, x < 256) (t : Nat) : wordAt l t < 4294967296 := by
  have h : ∀ i, l.getD i 0 < 256 := fun i => by
    rw [List.getD_eq_getElem?_getD]
    cases hi : l[i]? with
    | none => decide
    | some x => exact hb x (List.mem_of_getElem? hi)
  have h0 := h (4 * t)
  have h1 := h (4 * t + 1)
  have h2 := h (4 * t + 2)
  have h3 := h (4 * t + 3)
  have hm : 4294967296 = 4294967296 := rfl
  unfold wordAt
  omega
/-- The schedule, by number. -/
def seqS (w : Nat → Nat) (t : Nat) : Nat :=
  if h : t < 16 then w t else nextW (seqS w (t - 16)) (seqS w (t - 15)) (seqS w (t - 7)) (seqS w (t - 2))
termination_by t
decreasing_by all_goals omega
theorem seqS_low (w : Nat → Nat) {t : Nat} (h : t < 16) : seqS w t = w t := by rw [seqS, dif_pos h]
theorem seqS_high (w : Nat → Nat) (t : Nat) : seqS w (t + 16) = nextW (seqS w t) (seqS w (t + 1)) (seqS w (t + 9)) (seqS w (t + 14)) := by
  rw [seqS, dif_neg (by omega)]
  rfl
theorem seqS_lt {w : Nat → Nat} (hw : ∀ t, w t < 4294967296) (t : Nat) : seqS w t < 4294967296 := by
  by_cases h : t < 16
  · rw [seqS_low w h]; exact hw t
  · rw [seqS, dif_neg h]; exact nextW_lt _ _ _ _
theorem schedW_eq {w0 : Nat → Int} {w : Nat → Nat} (hw : ∀ t, w t < 4294967296) (h0 : ∀ i, i < 16 → w0 i = w i) : ∀ (m i : Nat), i < 16 + m → schedW w0 m i = seqS w i
  | 0, i, hi => by
    show w0 i = _
    rw [h0 i hi, seqS_low w hi]
  | m + 1, i, hi => by
    show updI (schedW w0 m) (m + 16) (schedI (schedW w0 m) (m + 16)) i = _
    rw [updI_eq]
    by_cases e : i = m + 16
    · subst e
      rw [if_pos rfl, seqS_high]
      refine schedI_nat ?_ ?_ ?_ ?_ (seqS_lt hw _) (seqS_lt hw _)
      · rw [show m + 16 - 16 = m by omega]; exact schedW_eq hw h0 m m (by omega)
      · rw [show m + 16 - 15 = m + 1 by omega]; exact schedW_eq hw h0 m (m + 1) (by omega)
      · rw [show m + 16 - 7 = m + 9 by omega]; exact schedW_eq hw h0 m (m + 9) (by omega)
      · rw [show m + 16 - 2 = m + 14 by omega]; exact schedW_eq hw h0 m (m + 14) (by omega)
    · rw [if_neg e]
      exact schedW_eq hw h0 m i (by omega)
theorem schedN_eq (w : Nat → Nat) : ∀ (k j : Nat), schedN k [seqS w j, seqS w (j + 1), seqS w (j + 2), seqS w (j + 3), seqS w (j + 4), seqS w (j + 5), seqS w (j + 6), seqS w (j + 7), seqS w (j + 8), seqS w (j + 9), seqS w (j + 10), seqS w (j + 11), seqS w (j + 12), seqS w (j + 13), seqS w (j + 14), seqS w (j + 15)] = (List.range' (j + 16) k).map (seqS w)
  | 0, j => rfl
  | k + 1, j => by
    have ih := schedN_eq w k (j + 1)
    rw [List.range'_succ, List.map_cons]
    show force (nextW (seqS w j) (seqS w (j + 1)) (seqS w (j + 9)) (seqS w (j + 14))) (fun x => x :: schedN k [seqS w (j + 1), seqS w (j + 2), seqS w (j + 3), seqS w (j + 4), seqS w (j + 5), seqS w (j + 6), seqS w (j + 7), seqS w (j + 8), seqS w (j + 9), seqS w (j + 10), seqS w (j + 11), seqS w (j + 12), seqS w (j + 13), seqS w (j + 14), seqS w (j + 15), x]) = _
    rw [force_eq, ← seqS_high]
    rw [show j + 1 + 16 = j + 16 + 1 by omega] at ih
    rw [← ih]
theorem words_all {w : Nat → Nat} : (List.range 16).map w ++ schedN 48 ((List.range 16).map w) = (List.range' 0 64).map (seqS w) := by
  have e : (List.range 16).map w = (List.range' 0 16).map (seqS w) := by
    rw [List.range_eq_range']
    refine List.map_congr_left fun t ht => (seqS_low w ?_).symm
    have := List.mem_range'_1.1 ht
    omega
  have h := schedN_eq w 48 0
  rw [e]
  have e2 : (List.range' 0 16).map (seqS w) = [seqS w 0, seqS w (0 + 1), seqS w (0 + 2), seqS w (0 + 3), seqS w (0 + 4), seqS w (0 + 5), seqS w (0 + 6), seqS w (0 + 7), seqS w (0 + 8), seqS w (0 + 9), seqS w (0 + 10), seqS w (0 + 11), seqS w (0 + 12), seqS w (0 + 13), seqS w (0 + 14), seqS w (0 + 15)] := rfl
  rw [show schedN 48 ((List.range' 0 16).map (seqS w)) = (List.range' (0 + 16) 48).map (seqS w) by rw [e2]; exact h, ← List.map_append]
  congr 1
/-! ### The rounds -/
theorem shaK_len : shaK.length = 64 := rfl
theorem rounds_eq {k w : Nat → Int} {S : Nat → Nat} {x : Nat → Int} (hw : ∀ i, i < 64 → w i = (S i : Nat)) (ks : List Nat) :
    ∀ (t a b c d e f g h : Nat), t + ks.length = 64 → (∀ i, i < ks.length → k (t + i) = (ks.getD i 0 : Nat)) → a < 4294967296 → b < 4294967296 → c < 4294967296 → d < 4294967296 → e < 4294967296 → f < 4294967296 → g < 4294967296 → h < 4294967296 →
      (∀ i, i < 8 → roundW k w x t i = (([a, b, c, d, e, f, g, h].getD i 0 : Nat) : Int)) →
      (∀ i, i < 8 → roundW k w x 64 i = (((roundsN ((List.range' t ks.length).map S) ks a b c d e f g h).getD i 0 : Nat) : Int)) ∧ (roundsN ((List.range' t ks.length).map S) ks a b c d e f g h).length = 8 ∧
      ∀ y ∈ roundsN ((List.range' t ks.length).map S) ks a b c d e f g h, y < 4294967296 := by
  induction ks with
  | nil =>
    intro t a b c d e f g h ht hk ha hb hc hd he hf hg hh hx
    obtain rfl : t = 64 := by simpa using ht
    refine ⟨fun i hi => ?_, rfl, fun y hy => ?_⟩
    · rw [hx i hi]; rfl
    · have hy' : y ∈ [a, b, c, d, e, f, g, h] := hy
      simp only [List.mem_cons, List.not_mem_nil, or_false] at hy'
      rcases hy' with rfl | rfl | rfl | rfl | rfl | rfl | rfl | rfl <;> assumption
  | cons K ks ih =>
    intro t a b c d e f g h ht hk ha hb hc hd he hf hg hh hx
    rw [List.length_cons] at ht
    rw [List.length_cons, List.range'_succ, List.map_cons]
    have hstep : roundsN (S t :: (List.range' (t + 1) ks.length).map S) (K :: ks) a b c d e f g h =
        roundsN ((List.range' (t + 1) ks.length).map S) ks ((h + bs1 (dbl e) + chN e f g + (K + S t) + (bs0 (dbl a) + majN a b c)) % 4294967296) a b c ((d + (h + bs1 (dbl e) + chN e f g + (K + S t))) % 4294967296) e f g := by
      show force (dbl e) (fun y => force (Nat.add (Nat.add (Nat.add h (bs1 y)) (chN e f g)) (Nat.add K (S t))) fun t1 => force (dbl a) fun z =>
        force (Nat.mod (Nat.add d t1) 4294967296) fun e' => force (Nat.mod (Nat.add t1 (Nat.add (bs0 z) (majN a b c))) 4294967296) fun a' => roundsN ((List.range' (t + 1) ks.length).map S) ks a' a b c e' e f g) = _
      simp only [force_eq]
      rfl
    rw [hstep]
    have hk0 : k t = (K : Int) := hk 0 (by simp)
    refine ih (t + 1) _ _ _ _ _ _ _ _ (by omega) (fun i hi => ?_) (mod_lt32 _) ha hb hc (mod_lt32 _) he hf hg fun i hi => ?_
    · have := hk (i + 1) (by simp; omega)
      rw [show t + 1 + i = t + (i + 1) by omega, this]
      rfl
    have x0 : roundW k w x t 0 = (a : Int) := hx 0 (by decide)
    have x1 : roundW k w x t 1 = (b : Int) := hx 1 (by decide)
    have x2 : roundW k w x t 2 = (c : Int) := hx 2 (by decide)
    have x3 : roundW k w x t 3 = (d : Int) := hx 3 (by decide)
    have x4 : roundW k w x t 4 = (e : Int) := hx 4 (by decide)
    have x5 : roundW k w x t 5 = (f : Int) := hx 5 (by decide)
    have x6 : roundW k w x t 6 = (g : Int) := hx 6 (by decide)
    have x7 : roundW k w x t 7 = (h : Int) := hx 7 (by decide)
    have ht1 : t1I k w (roundW k w x t) t = (((h + bs1 (dbl e) + chN e f g + (K + S t)) % 4294967296 : Nat) : Int) := by
      unfold t1I
      rw [x4, x5, x6, x7, bs1_nat he, ch_nat he hf hg, addI_nat, addI_nat, hk0, addI_nat, hw t (by omega), addI_nat]
      congr 1
      omega
    have ht2 : t2I (roundW k w x t) = (((bs0 (dbl a) + majN a b c) % 4294967296 : Nat) : Int) := by
      unfold t2I
      rw [x0, x1, x2, bs0_nat ha, maj_nat ha hb hc, addI_nat]
    show listI [addI (t1I k w (roundW k w x t) t) (t2I (roundW k w x t)), roundW k w x t 0, roundW k w x t 1, roundW k w x t 2, addI (roundW k w x t 3) (t1I k w (roundW k w x t) t), roundW k w x t 4, roundW k w x t 5, roundW k w x t 6] i = _
    rw [x0, x1, x2, x3, x4, x5, x6, ht1, ht2, addI_nat, addI_nat]
    unfold listI
    rcases i with _ | _ | _ | _ | _ | _ | _ | _ | i
    · simp only [List.getD_cons_zero]
      congr 1
      omega
    · rfl
    · rfl
    · rfl
    · simp only [List.getD_cons_succ, List.getD_cons_zero]
      congr 1
      omega
    · rfl
    · rfl
    · rfl
    · omega
theorem addsN_eq : ∀ (xs ys : List Nat), xs.length = ys.length → addsN xs ys = (xs.zip ys).map fun p => (p.1 + p.2) % 4294967296
  | [], [], _ => rfl
  | x :: xs, y :: ys, h => by
    simp only [addsN, force_eq]
    rw [addsN_eq xs ys (by simpa using h)]
    rfl
  | [], _ :: _, h => by simp at h
  | _ :: _, [], h => by simp at h
theorem blockW_eq {k h bs : Nat → Int} {hl bl : List Nat} (hhl : hl.length = 8) (hhb : ∀ x ∈ hl, x < 4294967296) (hbl : bl.length = 64) (hbb : ∀ x ∈ bl, x < 256)
    (hk : ∀ i, i < 64 → k i = (shaK.getD i 0 : Nat)) (hh : ∀ i, i < 8 → h i = (hl.getD i 0 : Nat)) (hb : ∀ i, i < 64 → bs i = (bl.getD i 0 : Nat)) :
    (blockN hl (wordsN bl)).length = 8 ∧ (∀ x ∈ blockN hl (wordsN bl), x < 4294967296) ∧ ∀ i, i < 8 → blockW k h bs i = (((blockN hl (wordsN bl)).getD i 0 : Nat) : Int) := by
  obtain ⟨a, b, c, d, e, f, g, j, rfl⟩ : ∃ a b c d e f g j, hl = [a, b, c, d, e, f, g, j] := by
    match hl, hhl with
    | [a, b, c, d, e, f, g, j], _ => exact ⟨a, b, c, d, e, f, g, j, rfl⟩
  have hget : ∀ i, bl.getD i 0 < 256 := fun i => by
    rw [List.getD_eq_getElem?_getD]
    cases hi : bl[i]? with
    | none => decide
    | some x => exact hbb x (List.mem_of_getElem? hi)
  have hwl : ∀ t, wordAt bl t < 4294967296 := wordAt_lt hbb
  have hw0 : ∀ i, i < 16 → loadW bs 16 i = (wordAt bl i : Nat) := fun i hi => by
    rw [loadW_eq, if_pos hi]
    exact wordI_nat (hb _ (by omega)) (hb _ (by omega)) (hb _ (by omega)) (hb _ (by omega)) (hget _) (hget _) (hget _) (hget _)
  have hS : ∀ i, i < 64 → schedW (loadW bs 16) 48 i = (seqS (wordAt bl) i : Nat) := fun i hi => schedW_eq hwl hw0 48 i (by omega)
  have hm : ∀ x ∈ [a, b, c, d, e, f, g, j], x < 4294967296 := hhb
  simp only [List.mem_cons, List.not_mem_nil, or_false, forall_eq_or_imp, forall_eq] at hm
  obtain ⟨ma, mb, mc, md, me, mf, mg, mj⟩ := hm
  obtain ⟨r1, r2, r3⟩ := rounds_eq (k := k) (x := h) hS shaK 0 a b c d e f g j rfl (fun i hi => by rw [Nat.zero_add]; exact hk i hi) ma mb mc md me mf mg mj (fun i hi => hh i hi)
  rw [shaK_len] at r1 r2 r3
  have hB : blockN [a, b, c, d, e, f, g, j] (wordsN bl) = addsN [a, b, c, d, e, f, g, j] (roundsN ((List.range' 0 64).map (seqS (wordAt bl))) shaK a b c d e f g j) := by
    show addsN [a, b, c, d, e, f, g, j] (roundsN (wordsN bl ++ schedN 48 (wordsN bl)) shaK a b c d e f g j) = _
    rw [wordsN_eq 16 bl hbl, words_all]
  rw [hB, addsN_eq _ _ (by rw [r2]; rfl)]
  generalize roundsN ((List.range' 0 64).map (seqS (wordAt bl))) shaK a b c d e f g j = R at r1 r2 r3
  obtain ⟨a', b', c', d', e', f', g', j', rfl⟩ : ∃ a b c d e f g j, R = [a, b, c, d, e, f, g, j] := by
    match R, r2 with
    | [a, b, c, d, e, f, g, j], _ => exact ⟨a, b, c, d, e, f, g, j, rfl⟩
  refine ⟨rfl, fun x hx => ?_, fun i hi => ?_⟩
  · simp only [List.mem_map] at hx
    obtain ⟨p, _, rfl⟩ := hx
    exact mod_lt32 _
  · unfold blockW
    rw [addW_eq, if_pos hi, hh i hi, r1 i hi, addI_nat]
    congr 1
    rcases i with _ | _ | _ | _ | _ | _ | _ | _ | i
    all_goals first | rfl | omega
end Go.Fv

set_option linter.unusedSectionVars false
set_option linter.unusedVariables false
namespace Go.Fv

theorem CtRel.of_same {ρ : PM} {w w' : World} {L : Loc} {i : Nat} (h : SameAt w w' L.B (L.o + i)) {arr0 : Array Value} {t0 : TypeId} {fr0 : Nat × Nat} (ho : w.heap[L.B]? = some (.cells arr0 t0 fr0)) : ∀ {x : Ct}, CtRel ρ w L i x → CtRel ρ w' L i x
  | .c _, ⟨arr, t, fr, u, h1, h2, h3, h4, h5⟩ => by
    obtain ⟨arr', fr', g1, g2, g3, g4⟩ := h arr t fr h1
    exact ⟨arr', t, fr', u, g1, by rw [g2]; exact g4 h2, by rw [g2]; exact h3, by rw [g3]; exact h4, h5⟩
  | .map _ _, ⟨h1, h2, arr, h3, h4⟩ => by rw [ho] at h3; cases h3
  | .iter none _ _ _, ⟨h1, h2, mm, h3, h4⟩ => by rw [ho] at h3; cases h3
  | .iter (some _) _ _ _, ⟨h1, h2, mm, h3, h4⟩ => by rw [ho] at h3; cases h3
  | .loop _ _ _ _ _ _ _, ⟨h1, h2, r, h3, h4⟩ => by rw [ho] at h3; cases h3
  | .room, ⟨arr, t, fr, h1, h2, h3, h4⟩ => by
    obtain ⟨arr', fr', g1, g2, g3, g4⟩ := h arr t fr h1
    exact ⟨arr', t, fr', g1, by rw [g2]; exact g4 h2, by rw [g2]; exact h3, by rw [g2]; exact h4⟩

/-- What was done in a small heap that only holds numbers and the like, and leaves it as it is, leaves a greater heap as it is. Block b of the small one is block σ b of the other one, from place δ b on. -/
theorem Sim.frame {ρ ρs ρ' : PM} {H Hs Hs' : HP} {w w' : World} {σ δ : Nat → Nat} (hH : HRel ρ H w) (hd : Dom ρ H.n)
    (hρ : ∀ b L, Hs.Kn b → ρs b = some L → ∃ L0, ρ (σ b) = some L0 ∧ L.B = L0.B ∧ L.C = L0.C ∧ L.o = L0.o + δ b)
    (hc : ∀ b i c, Hs.cell b i = some c → (∃ v, c = .c (.lit v)) ∧ H.cell (σ b) (δ b + i) = some c) (hsame : ∀ b i, Hs.Kn b → Hs'.cell b i = Hs.cell b i) (s : Sim ρs Hs w ρ' Hs' w') : Sim ρ H w ρ H w' := by
  have hkn : ∀ b, Hs.Kn b → H.Kn (σ b) := fun b ⟨i, c, h⟩ => ⟨_, c, (hc b i c h).2⟩
  have hkn' : ∀ b, Hs.Kn b → Hs'.Kn b := fun b hk => by
    obtain ⟨i, c, h⟩ := hk
    exact ⟨i, c, by rw [hsame b i ⟨i, c, h⟩]; exact h⟩
  have hother : ∀ k, k < w.heap.size → (¬ ∃ b0 L0, Hs.Kn b0 ∧ ρs b0 = some L0 ∧ L0.B = k) → w'.heap[k]? = w.heap[k]? := fun k hk hno =>
    s.fr k hk fun b L h1 h2 h3 => hno ⟨b, L, h1, h2, h3⟩
  have hown : ∀ b L b0 L0, H.Kn b → ρ b = some L → Hs.Kn b0 → ρs b0 = some L0 → L0.B = L.B → b = σ b0 ∧ L0.C = L.C ∧ L0.o = L.o + δ b0 := by
    intro b L b0 L0 h1 h2 h3 h4 h5
    obtain ⟨L1, g1, g2, g3, g4⟩ := hρ b0 L0 h3 h4
    have := hH.inj b (σ b0) L L1 h1 (hkn b0 h3) h2 g1 (by rw [← h5, g2])
    subst this
    rw [h2] at g1
    cases g1
    exact ⟨rfl, g3, g4⟩
  have hsm : ∀ b L j, H.Kn b → ρ b = some L → (∀ b0 L0, Hs.Kn b0 → b = σ b0 → ρs b0 = some L0 → L0.o = L.o + δ b0 → ∀ i, L0.o + i = j → Hs.cell b0 i = none) → SameAt w w' L.B j := by
    intro b L j h1 h2 h3
    have hlt : L.B < w.heap.size := by
      obtain ⟨i, c, h⟩ := h1
      exact (hH.rel b i c L h h2).lt
    by_cases hex : ∃ b0 L0, Hs.Kn b0 ∧ ρs b0 = some L0 ∧ L0.B = L.B
    · obtain ⟨b0, L0, g1, g2, g3⟩ := hex
      obtain ⟨e1, e2, e3⟩ := hown b L b0 L0 h1 h2 g1 g2 g3
      rw [← g3]
      exact s.frc b0 L0 j g1 (hkn' b0 g1) g2 (h3 b0 L0 g1 e1 g2 e3)
    · exact SameAt.of_heap (hother L.B hlt hex) _
  refine ⟨PM.le.refl ρ, Nat.le_refl _, hd, ⟨fun b i c L hbc hL => ?_, fun b b' L L' h1 h2 h3 h4 h5 => hH.inj b b' L L' h1 h2 h3 h4 h5⟩, fun _ _ _ h => h, fun b L j h1 _ h2 h3 => ?_, fun k hk hno => ?_, fun b L h1 h2 => ?_, s.size, s.os, s.tape, s.output, fun b L h1 h2 => ?_⟩
  · have h0 := hH.rel b i c L hbc hL
    by_cases hex : ∃ b0 L0, Hs.Kn b0 ∧ ρs b0 = some L0 ∧ L0.B = L.B
    · obtain ⟨b0, L0, g1, g2, g3⟩ := hex
      obtain ⟨e1, e2, e3⟩ := hown b L b0 L0 ⟨i, c, hbc⟩ hL g1 g2 g3
      obtain ⟨j0, c1, hj⟩ := g1
      obtain ⟨⟨v, rfl⟩, h2⟩ := hc b0 j0 c1 hj
      obtain ⟨arr, t, fr, _, ho, _⟩ := hH.rel b _ _ L (by rw [e1]; exact h2) hL
      by_cases hk : δ b0 ≤ i ∧ ∃ c', Hs.cell b0 (i - δ b0) = some c'
      · obtain ⟨hle, c', hh⟩ := hk
        obtain ⟨⟨v, rfl⟩, h2⟩ := hc b0 _ c' hh
        rw [show δ b0 + (i - δ b0) = i by omega, ← e1, hbc] at h2
        cases h2
        obtain ⟨arr, t, fr, u, f1, f2, f3, f4, f5⟩ := s.rel.rel b0 (i - δ b0) (.c (.lit v)) L0 (by rw [hsame b0 _ ⟨j0, _, hj⟩]; exact hh) (s.le _ _ g2)
        exact ⟨arr, t, fr, u, by rw [← g3]; exact f1, f2, by rw [← e2]; exact f3, by rw [← f4]; congr 1; omega, f5⟩
      · refine h0.of_same ?_ ho
        rw [← g3]
        refine s.frc b0 L0 (L.o + i) ⟨j0, _, hj⟩ (hkn' b0 ⟨j0, _, hj⟩) g2 fun i' hi' => ?_
        cases hh : Hs.cell b0 i' with
        | none => rfl
        | some c' => exact absurd ⟨by omega, c', by rw [show i - δ b0 = i' by omega]; exact hh⟩ hk
    · exact h0.of_heap (hother L.B h0.lt hex)
  · refine hsm b L j h1 h2 fun b0 L0 g1 g2 g3 g4 i hi => ?_
    cases hh : Hs.cell b0 i with
    | none => rfl
    | some c' =>
      have := (hc b0 i c' hh).2
      rw [← g2, h3 (δ b0 + i) (by omega)] at this
      cases this
  · exact hother k hk fun ⟨b0, L0, g1, g2, g3⟩ => by
      obtain ⟨L1, f1, f2, _⟩ := hρ b0 L0 g1 g2
      exact hno (σ b0) L1 (hkn b0 g1) f1 (by rw [← f2]; exact g3)
  · rw [h1] at h2; cases h2
  · rw [h1] at h2; cases h2
end Go.Fv

set_option linter.unusedSectionVars false
set_option linter.unusedVariables false
namespace Go.Fv
section
variable {P : Program} {n m : Nat} {rb r : Option Nat} {F : Fm} {H : HP} {Z : Oc → Prop}

/-- What one frame tells, the other one tells too. -/
def Fm.sub (F G : Fm) : Prop := ∀ t v, F.get t = some v → G.get t = some v
theorem SRel.sub {ρ : PM} {F G : Fm} {H : HP} {a : Act} {w : World} (h : Fm.sub F G) (s : SRel n ρ G H a w) : SRel n ρ F H a w :=
  ⟨⟨s.fr.sz, fun t v hv => s.fr.get t v (h t v hv)⟩, s.hp, s.dom, s.j⟩
theorem CodeOK.sub {c : Code} {G : Fm} (h : Fm.sub F G) (k : CodeOK P n m rb r c F H Z) : CodeOK P n m rb r c G H Z :=
  ⟨k.st, fun s hr hm df hq => k.wp (s.sub h) hr hm df hq⟩

/-- A block. -/
theorem CodeOK.block {id : Nat} {x : Code} {Z1 : Oc → Prop} (k : CodeOK P n m rb r x F H Z1) (hst : ∀ z, Z z → St H z.2.2) (hz : ∀ z, Z1 z → Z (blockOne id z)) : CodeOK P n m rb r (.block id x) F H Z := by
  refine ⟨hst, fun {Q ρ a w m0} s hr hm df hq => wpIn_block (k.wp s hr hm df fun y hy ρ1 a1 w1 s1 hd1 hs1 => ?_)⟩
  have hH : (blockOne id y).2 = y.2 := by
    obtain ⟨e, F1, H1⟩ := y
    cases e with
    | nrm => rfl
    | rt => rfl
    | ext id' =>
      show (match Nat.beq id' id with | true => ((.nrm, F1, H1) : Oc) | false => (.ext id', F1, H1)).2 = (F1, H1)
      split <;> rfl
  have := hq _ (hz y hy) ρ1 a1 w1 (by rw [hH]; exact s1) (by rw [hH]; exact hd1) (by rw [hH]; exact hs1)
  obtain ⟨e, F1, H1⟩ := y
  cases e with
  | nrm => exact this
  | rt => exact this
  | ext id' =>
    by_cases hb : id' = id
    · subst hb
      have hone : blockOne id' (.ext id', F1, H1) = (.nrm, F1, H1) := by
        show (match Nat.beq id' id' with | true => ((.nrm, F1, H1) : Oc) | false => (.ext id', F1, H1)) = _
        rw [Nat.beq_refl]
      rw [hone] at this
      simp only [Ex.out, Exit.inBlock, if_true]
      exact this
    · have hone : blockOne id (.ext id', F1, H1) = (.ext id', F1, H1) := by
        show (match Nat.beq id' id with | true => ((.nrm, F1, H1) : Oc) | false => (.ext id', F1, H1)) = _
        have : Nat.beq id' id = false := by rw [Bool.eq_false_iff]; intro h; exact hb (Nat.eq_of_beq_eq_true h)
        rw [this]
      rw [hone] at this
      simp only [Ex.out, Exit.inBlock, hb, if_false]
      exact this

/-- A loop that goes on for N rounds: what holds at the beginning of each; the one behind them goes on no more. -/
theorem CodeOK.loop {x : Code} (I : Nat → Fm → HP → Prop) (N : Nat) (h0 : I 0 F H) (hst : ∀ z, Z z → St H z.2.2)
    (hstep : ∀ t F1 H1, t < N → I t F1 H1 → ∃ Z1, CodeOK P n m rb r x F1 H1 Z1 ∧ (∀ F2 H2, Z1 (.nrm, F2, H2) → I (t + 1) F2 H2) ∧ ∀ z, Z1 z → z.1 ≠ .nrm → Z z)
    (hlast : ∀ F1 H1, I N F1 H1 → ∃ Z1, CodeOK P n m rb r x F1 H1 Z1 ∧ ∀ z, Z1 z → z.1 ≠ .nrm ∧ Z z) : CodeOK P n m rb r (.loop x) F H Z := by
  have key : ∀ (k t : Nat) {F1 : Fm} {H1 : HP}, t + k = N → I t F1 H1 → ∀ {Q : Exit → Act → World → Prop} {ρ : PM} {a : Act} {w : World} {m0 : Nat}, SRel n ρ F1 H1 a w → RR ρ rb r → m0 ≤ w.heap.size → DfOK ρ H1 w m0 a.defers →
      (∀ z, Z z → ∀ ρ' a' w', SRel n ρ' z.2.1 z.2.2 a' w' → DfOK ρ' z.2.2 w' m0 a'.defers → Sim ρ H1 w ρ' z.2.2 w' → Q z.1.out a' w') → Code.roundsIn (WF r) m P x Q (k + 1) a w := by
    intro k
    induction k with
    | zero =>
      intro t F1 H1 hk hI Q ρ a w m0 s hr hm df hq
      obtain ⟨Z1, k1, k2⟩ := hlast F1 H1 (by rw [← hk]; exact hI)
      rw [roundsIn_succ]
      refine k1.wp s hr hm df fun z hz ρ1 a1 w1 s1 hd1 hs1 => ?_
      obtain ⟨g1, g2⟩ := k2 z hz
      obtain ⟨e, F2, H2⟩ := z
      cases e with
      | nrm => exact absurd rfl g1
      | ext id => exact hq _ g2 ρ1 a1 w1 s1 hd1 hs1
      | rt => exact hq _ g2 ρ1 a1 w1 s1 hd1 hs1
    | succ k ihk =>
      intro t F1 H1 hk hI Q ρ a w m0 s hr hm df hq
      obtain ⟨Z1, k1, k2, k3⟩ := hstep t F1 H1 (by omega) hI
      rw [roundsIn_succ]
      refine k1.wp s hr hm df fun z hz ρ1 a1 w1 s1 hd1 hs1 => ?_
      obtain ⟨e, F2, H2⟩ := z
      cases e with
      | nrm => exact ihk (t + 1) (by omega) (k2 F2 H2 hz) s1 (hr.mono hs1.le) (Nat.le_trans hm hs1.size) hd1 fun y hy ρ2 a2 w2 s2 hd2 hs2 => hq y hy ρ2 a2 w2 s2 hd2 (hs1.trans s.dom hs2)
      | ext id => exact hq _ (k3 _ hz (fun h => by cases h)) ρ1 a1 w1 s1 hd1 hs1
      | rt => exact hq _ (k3 _ hz (fun h => by cases h)) ρ1 a1 w1 s1 hd1 hs1
  exact ⟨hst, fun {Q ρ a w m0} s hr hm df hq => wpIn_loop_rounds (N + 1) (key N 0 (by omega) h0 s hr hm df hq)⟩
end
end Go.Fv

set_option linter.unusedSectionVars false
set_option linter.unusedVariables false
namespace Go.Fv
noncomputable section
def getsF (F : Fm) (ts : List Nat) : List (Option AV) := List.rec (motive := fun _ => List (Option AV)) [] (fun t _ ih => F.get t :: ih) ts
def zipF : List Nat → List AV → Fm
  | t :: ts, v :: vs => (zipF ts vs).put t (some v)
  | _, _ => .nil
/-- Of the one outcome of a code: how it ends, some slots, the heap. -/
def obs (ss : List Nat) (x : RC) : Option (Ex × List (Option AV) × HP) :=
  match x with
  | some [z] => some (z.1, getsF z.2.1 ss, z.2.2)
  | _ => none
end
theorem zipF_sub {G : Fm} : ∀ (ts : List Nat) (vs : List AV), getsF G ts = vs.map some → Fm.sub (zipF ts vs) G
  | [], vs, _ => fun t v hv => by
    cases vs <;> exact (by rw [show (zipF [] _ : Fm) = .nil by simp [zipF]] at hv; rw [PT.get_nil] at hv; cases hv)
  | t :: ts, [], h => by simp [getsF] at h
  | t :: ts, v :: vs, h => by
    have h1 : G.get t :: getsF G ts = some v :: vs.map some := h
    rw [List.cons.injEq] at h1
    intro i u hi
    have hi' : ((zipF ts vs).put t (some v)).get i = some u := hi
    rw [PT.get_put] at hi'
    split at hi'
    · rename_i he
      subst he
      rw [h1.1, ← hi']
    · exact zipF_sub ts vs h1.2 i u hi'
/-- A code's run, told by what is looked at. -/
structure Seg (P : Program) (n m : Nat) (rb r : Option Nat) (c : Code) (F : Fm) (H : HP) (e : Ex) (ss : List Nat) (vs : List (Option AV)) (H' : HP) : Prop where
  ok : CodeOK P n m rb r c F H (fun z => z.1 = e ∧ getsF z.2.1 ss = vs ∧ z.2.2 = H')
  st : St H H'
section
variable {P : Program} [Plain P] {ora : OraM} {ent : FuncId → Bool} {n m fuel : Nat} {rb r : Option Nat} {F : Fm} {H : HP}
theorem Seg.of_obs (hm : P.follows .mixedOrders = true) (hora : OraMOK P ora) (hent : ∀ g, ent g = true → ∀ us w, (callFunc g us).run P w = .ok (.enter g us) w) {c : Code} {ss : List Nat} {e : Ex} {vs : List (Option AV)} {H' : HP} (hf : flowAll c = true)
    (h : obs ss (codeA P ora ent n fuel rb c F H) = some (e, vs, H')) : Seg P n m rb r c F H e ss vs H' := by
  unfold obs at h
  split at h
  · rename_i z hz
    have k := codeA_ok (m := m) (r := r) hm hora hent c hf hz
    simp only [Option.some.injEq, Prod.mk.injEq] at h
    obtain ⟨h1, h2, h3⟩ := h
    refine ⟨k.weaken (fun x hx => ?_) (fun x hx => ?_), ?_⟩
    · rw [List.mem_singleton.1 hx]; exact ⟨h1, h2, h3⟩
    · rw [hx.2.2, ← h3]; exact k.st _ (List.mem_singleton.2 rfl)
    · rw [← h3]; exact k.st _ (List.mem_singleton.2 rfl)
  · cases h
theorem Seg.sub {c : Code} {G : Fm} {ss : List Nat} {e : Ex} {vs : List (Option AV)} {H' : HP} (h : Fm.sub F G) (k : Seg P n m rb r c F H e ss vs H') : Seg P n m rb r c G H e ss vs H' :=
  ⟨k.ok.sub h, k.st⟩
theorem Seg.seq {x y : Code} {ss ss' : List Nat} {e : Ex} {vs vs' : List (Option AV)} {H1 H2 : HP} (h1 : Seg P n m rb r x F H .nrm ss vs H1) (h2 : ∀ F1, getsF F1 ss = vs → Seg P n m rb r y F1 H1 e ss' vs' H2) (hst : St H1 H2) : Seg P n m rb r (.seq x y) F H e ss' vs' H2 := by
  refine ⟨h1.ok.seq (fun z hz => by rw [hz.2.2]; exact h1.st.trans hst) (fun F1 G1 hz => ?_) (fun z hz hne => absurd hz.1 hne), h1.st.trans hst⟩
  obtain ⟨_, g2, g3⟩ := hz
  simp only at g2 g3
  subst g3
  exact ⟨_, (h2 F1 g2).ok, fun z hz => hz⟩
theorem Seg.seq' {x y : Code} {ss ss' : List Nat} {e : Ex} {vs : List AV} {vs' : List (Option AV)} {H1 H2 : HP} (h1 : Seg P n m rb r x F H .nrm ss (vs.map some) H1) (k : Seg P n m rb r y (zipF ss vs) H1 e ss' vs' H2) : Seg P n m rb r (.seq x y) F H e ss' vs' H2 :=
  h1.seq (fun F1 hF => k.sub (zipF_sub ss vs hF)) k.st
theorem Seg.block {id : Nat} {x : Code} {ss : List Nat} {vs : List (Option AV)} {H' : HP} (h : Seg P n m rb r x F H (.ext id) ss vs H') : Seg P n m rb r (.block id x) F H .nrm ss vs H' := by
  refine ⟨h.ok.block (fun z hz => by rw [hz.2.2]; exact h.st) fun z hz => ?_, h.st⟩
  obtain ⟨e, F1, H1⟩ := z
  obtain ⟨h1, h2, h3⟩ := hz
  simp only at h1 h2 h3
  subst h1
  have hone : blockOne id (.ext id, F1, H1) = (.nrm, F1, H1) := by
    show (match Nat.beq id id with | true => ((.nrm, F1, H1) : Oc) | false => (.ext id, F1, H1)) = _
    rw [Nat.beq_refl]
  rw [hone]
  exact ⟨rfl, h2, h3⟩
theorem Seg.loop {x : Code} (ss : List Nat) (vs : Nat → List AV) (Hs : Nat → HP) (N : Nat) {e : Ex} (he : e ≠ .nrm) {ss' : List Nat} {vs' : List (Option AV)} {H' : HP} (h0 : getsF F ss = (vs 0).map some) (hH : H = Hs 0)
    (hstep : ∀ t, t < N → Seg P n m rb r x (zipF ss (vs t)) (Hs t) .nrm ss ((vs (t + 1)).map some) (Hs (t + 1)))
    (hlast : Seg P n m rb r x (zipF ss (vs N)) (Hs N) e ss' vs' H') : Seg P n m rb r (.loop x) F H e ss' vs' H' := by
  have hSt : ∀ k, k ≤ N → St (Hs 0) (Hs k) := by
    intro k
    induction k with
    | zero => intro _; exact St.refl _
    | succ k ih => intro hk; exact (ih (by omega)).trans (hstep k (by omega)).st
  have hall : St H H' := by rw [hH]; exact (hSt N (Nat.le_refl _)).trans hlast.st
  refine ⟨CodeOK.loop (fun t F1 H1 => getsF F1 ss = (vs t).map some ∧ H1 = Hs t) N ⟨h0, hH⟩ (fun z hz => by rw [hz.2.2]; exact hall) (fun t F1 H1 ht hI => ?_) (fun F1 H1 hI => ?_), hall⟩
  · obtain ⟨g1, rfl⟩ := hI
    refine ⟨_, ((hstep t ht).sub (zipF_sub ss (vs t) g1)).ok, fun F2 H2 hz => ⟨hz.2.1, hz.2.2⟩, fun z hz hne => absurd hz.1 hne⟩
  · obtain ⟨g1, rfl⟩ := hI
    exact ⟨_, (hlast.sub (zipF_sub ss (vs N) g1)).ok, fun z hz => ⟨by rw [hz.1]; exact he, hz⟩⟩
end
end Go.Fv

set_option linter.unusedSectionVars false
set_option linter.unusedVariables false
namespace Go.Fv
def isLit : Cel → Bool
  | .lit _ => true
  | _ => false
/-- A value that names no place. -/
def litsAV : AV → Bool
  | .one c => isLit c
  | .agg xs => xs.all isLit
  | .tup vs => vs.all fun p => p.2.all isLit
theorem CRel.lits {ρ ρ' : PM} : ∀ {c : Cel} {u : Value}, isLit c = true → CRel ρ c u → CRel ρ' c u
  | .lit _, _, _, h => h
  | .ptr _ _, _, hb, _ => by cases hb
  | .sl _ _ _ _, _, hb, _ => by cases hb
  | .su _ _ _ _, _, hb, _ => by cases hb
  | .sz _ _, _, hb, _ => by cases hb
  | .kp _ _ _, _, hb, _ => by cases hb
  | .us, _, hb, _ => by cases hb
  | .un _, _, hb, _ => by cases hb
  | .fn _ _, _, hb, _ => by cases hb
  | .mp _, _, hb, _ => by cases hb
  | .yd _, _, hb, _ => by cases hb
theorem PRel.lits {ρ ρ' : PM} : ∀ {p : Bool × List Cel} {u : Value}, p.2.all isLit = true → PRel ρ p u → PRel ρ' p u
  | (true, _), _, hb, ⟨us, h1, h2⟩ => ⟨us, h1, h2.cutAll (fun _ _ => CRel.lits) hb⟩
  | (false, [c]), _, hb, h => by
    simp only [List.all_cons, List.all_nil, Bool.and_true] at hb
    exact CRel.lits (ρ := ρ) hb h
  | (false, []), _, _, h => h.elim
  | (false, _ :: _ :: _), _, _, h => h.elim
theorem VRel.lits {ρ ρ' : PM} : ∀ {v : AV} {u : Value}, litsAV v = true → VRel ρ v u → VRel ρ' v u
  | .one _, _, hb, h => CRel.lits hb h
  | .agg _, _, hb, ⟨us, h1, h2⟩ => ⟨us, h1, h2.cutAll (fun _ _ => CRel.lits) hb⟩
  | .tup _, _, hb, ⟨us, h1, h2⟩ => ⟨us, h1, h2.cutAll (fun _ _ => PRel.lits) hb⟩
/-- Block 0 alone lies somewhere. -/
def oneW (L : Loc) : PM := fun b => if b = 0 then some L else none
theorem oneW_some {L L' : Loc} {b : Nat} (h : oneW L b = some L') : b = 0 ∧ L' = L := by
  unfold oneW at h
  split at h
  · rename_i hb; cases h; exact ⟨hb, rfl⟩
  · cases h
theorem oneW_zero (L : Loc) : oneW L 0 = some L := rfl
theorem frame_call {P : Program} {f : FuncId} {b off : Nat} {args : List AV} {H Hs : HP} {v : AV} (hn : 0 < Hs.n)
    (hc : ∀ i c, Hs.cell 0 i = some c → (∃ u, c = .c (.lit u)) ∧ H.cell b (off + i) = some c) (hno : ∀ b', b' ≠ 0 → ∀ i, Hs.cell b' i = none) (hv : litsAV v = true)
    (hK : ∀ (ρ : PM) (us : List Value) (w : World), All2 (VRel ρ) args us → HRel ρ H w → ∃ L az, ∃ Z : AV × HP → Prop, ρ b = some L ∧ All2 (VRel (oneW ⟨L.B, L.o + off, L.C⟩)) az us ∧ (∀ o, Z o → o.1 = v ∧ ∀ i, o.2.cell 0 i = Hs.cell 0 i) ∧ CallOK P f az Hs Z) :
    CallOK P f args H (· ∈ [(v, H)]) := by
  refine ⟨fun o ho => by rw [List.mem_singleton.1 ho]; exact St.refl _, fun ρ w us hu hH hd hj => ?_⟩
  obtain ⟨L, az, Z, hL, has, hZ, k⟩ := hK ρ us.toList w hu hH
  have hz : ∀ b' i c, Hs.cell b' i = some c → b' = 0 := fun b' i c h => Decidable.byContradiction fun hb => by
    rw [hno b' hb i] at h; cases h
  have hkn : ∀ b', Hs.Kn b' → b' = 0 := fun b' ⟨i, c, h⟩ => hz b' i c h
  refine GivesR.mono (fun u w' ho => ?_) (k.2 (oneW ⟨L.B, L.o + off, L.C⟩) w us has ⟨fun b' i c L' hcell hL' => ?_, fun b1 b2 L1 L2 h1 h2 _ _ _ => by rw [hkn b1 h1, hkn b2 h2]⟩ (fun b' hb' => ?_) (fun B o hg => ⟨(hj B o hg).1, fun b' L' hL' => by obtain ⟨_, rfl⟩ := oneW_some hL'; exact (hj B o hg).2 b L hL⟩))
  · obtain ⟨o, hzo, ρ', hv', s⟩ := ho
    obtain ⟨ho1, ho2⟩ := hZ o hzo
    refine ⟨(v, H), List.mem_singleton.2 rfl, ρ, VRel.lits hv (ho1 ▸ hv'), Sim.frame (σ := fun _ => b) (δ := fun _ => off) hH hd (fun b' L' hk hL' => ?_) (fun b' i c hcell => ?_) (fun b' i hk => ?_) s⟩
    · obtain ⟨_, rfl⟩ := oneW_some hL'
      exact ⟨L, hL, rfl, rfl, rfl⟩
    · obtain rfl := hz b' i c hcell
      exact hc i c hcell
    · obtain rfl := hkn b' hk
      exact ho2 i
  · obtain rfl := hz b' i c hcell
    obtain ⟨_, rfl⟩ := oneW_some hL'
    obtain ⟨⟨u, rfl⟩, h2⟩ := hc i c hcell
    obtain ⟨arr, t, fr, u', g1, g2, g3, g4, g5⟩ := hH.rel b (off + i) _ L h2 hL
    exact ⟨arr, t, fr, u', g1, g2, g3, by rw [← g4]; congr 1; simp only []; omega, g5⟩
  · unfold oneW
    rw [if_neg (by omega)]
/-- A slice, seen through its window. -/
theorem slice_win {ρ : PM} {b off n : Nat} {a : AV} {u : Value} (hx : baseA a = some (b, off, n)) (h : VRel ρ a u) :
    ∃ L c, ρ b = some L ∧ c + n ≤ 9223372036854775807 ∧ VRel (oneW ⟨L.B, L.o + off, L.C⟩) (.one (.sl 0 0 n (c + n))) u := by
  obtain ⟨L, cap, hL, rfl, h1, h2⟩ := baseA_rel hx h
  refine ⟨L, cap - n, hL, by omega, ⟨⟨L.B, L.o + off, L.C⟩, oneW_zero _, ?_⟩, by omega, by omega⟩
  rw [show cap - n + n = cap by omega]
  rfl
/-- A pointer, seen through its window. -/
theorem ptr_win {ρ : PM} {b off : Nat} {u : Value} (h : VRel ρ (.one (.ptr b off)) u) :
    ∃ L, ρ b = some L ∧ VRel (oneW ⟨L.B, L.o + off, L.C⟩) (.one (.ptr 0 0)) u := by
  obtain ⟨L, hL, rfl⟩ := h
  exact ⟨L, hL, ⟨L.B, L.o + off, L.C⟩, oneW_zero _, rfl⟩
/-- One that reads no memory at all. -/
theorem frame_none {P : Program} {f : FuncId} {args : List AV} {H Hs : HP} {v : AV} (hno : ∀ b i, Hs.cell b i = none) (hv : litsAV v = true)
    (hK : ∀ (ρ : PM) (us : List Value), All2 (VRel ρ) args us → ∃ ρs az, ∃ Z : AV × HP → Prop, Dom ρs Hs.n ∧ (∀ b L, ρs b = some L → ∃ b' L', ρ b' = some L' ∧ L'.B = L.B) ∧ All2 (VRel ρs) az us ∧ (∀ o, Z o → o.1 = v) ∧ CallOK P f az Hs Z) :
    CallOK P f args H (· ∈ [(v, H)]) := by
  refine ⟨fun o ho => by rw [List.mem_singleton.1 ho]; exact St.refl _, fun ρ w us hu hH hd hj => ?_⟩
  obtain ⟨ρs, az, Z, hds, hon, has, hZ, k⟩ := hK ρ us.toList hu
  have hkn : ∀ b', ¬ Hs.Kn b' := fun b' ⟨i, c, h⟩ => by rw [hno] at h; cases h
  refine GivesR.mono (fun u w' ho => ?_) (k.2 ρs w us has ⟨fun b' i c L' hcell _ => (by rw [hno] at hcell; cases hcell), fun b1 b2 L1 L2 h1 _ _ _ _ => absurd h1 (hkn b1)⟩ hds (fun B o hg => ⟨(hj B o hg).1, fun b' L' hL' => by obtain ⟨b2, L2, g1, g2⟩ := hon b' L' hL'; rw [← g2]; exact (hj B o hg).2 b2 L2 g1⟩))
  obtain ⟨o, hzo, ρ', hv', s⟩ := ho
  have ho1 := hZ o hzo
  exact ⟨(v, H), List.mem_singleton.2 rfl, ρ, VRel.lits hv (ho1 ▸ hv'), Sim.frame (σ := fun _ => 0) (δ := fun _ => 0) hH hd (fun b' L' hk _ => absurd hk (hkn b')) (fun b' i c hcell => (by rw [hno] at hcell; cases hcell)) (fun b' i hk => absurd hk (hkn b')) s⟩
end Go.Fv
