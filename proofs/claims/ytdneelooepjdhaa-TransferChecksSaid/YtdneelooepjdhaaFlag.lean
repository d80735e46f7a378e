/-
  The flags of a transfer: sixteen bits, of which four count. Conditions: none.
-/
import Derived.Test.YtdneelooepjdhaaChk
namespace Go.Proofs.Ytdneelooepjdhaa
open Go.Ev Go.Proofs

theorem wrap16 {n : Nat} (h : n < 65536) : (IntKind.u16).wrap (n : Int) = n := by
  show (let m := (n : Int) % (2 ^ 16 : Int); if false && m ≥ (2 ^ 15 : Int) then m - 2 ^ 16 else m) = n
  simp
  omega
theorem ofInt16 {n : Nat} (h : n < 65536) : (BitVec.ofInt 16 (n : Int)).toNat = n := by
  simp
  omega
theorem bits_and16 {n m : Nat} (h : n < 65536) (hm : m < 65536) : bits .and .u16 (n : Int) (m : Int) = ((n &&& m : Nat) : Int) := by
  unfold bits
  show (IntKind.u16).wrap (((BitVec.ofInt 16 (n : Int) &&& BitVec.ofInt 16 (m : Int)).toNat : Nat) : Int) = _
  rw [BitVec.toNat_and, ofInt16 h, ofInt16 hm]
  exact wrap16 (Nat.lt_of_le_of_lt Nat.and_le_left h)

/-- Every number of k bits behind n. -/
noncomputable def allB (p : Nat → Bool) (k n : Nat) : Bool :=
  Nat.rec (motive := fun _ => Nat → Bool) p (fun _ ih n => Bool.rec (motive := fun _ => Bool) false (ih (Nat.succ (Nat.mul 2 n))) (ih (Nat.mul 2 n))) k n

theorem allB_spec {p : Nat → Bool} : ∀ (k n : Nat), allB p k n = true → ∀ m, m < 2 ^ k → p (n * 2 ^ k + m) = true
  | 0, n, h, m, hm => by
    have : m = 0 := by simpa using hm
    subst this
    rw [show n * 2 ^ 0 + 0 = n by omega]
    exact h
  | k + 1, n, h, m, hm => by
    have h' : Bool.rec (motive := fun _ => Bool) false (allB p k (2 * n + 1)) (allB p k (2 * n)) = true := h
    have hp : 2 ^ (k + 1) = 2 * 2 ^ k := by rw [Nat.pow_succ, Nat.mul_comm]
    cases h0 : allB p k (2 * n) with
    | false => rw [h0] at h'; cases h'
    | true =>
      rw [h0] at h'
      rcases Nat.lt_or_ge m (2 ^ k) with hlt | hge
      · have := allB_spec k (2 * n) h0 m hlt
        rwa [show 2 * n * 2 ^ k + m = n * 2 ^ (k + 1) + m by rw [hp, Nat.mul_comm 2 n, Nat.mul_assoc]] at this
      · have := allB_spec k (2 * n + 1) h' (m - 2 ^ k) (by omega)
        rwa [show (2 * n + 1) * 2 ^ k + (m - 2 ^ k) = n * 2 ^ (k + 1) + m by
          rw [hp, Nat.add_mul, Nat.mul_comm 2 n, Nat.mul_assoc]; omega] at this

theorem land_high {n : Nat} (h : n < 65536) : n &&& 65520 = n - n % 16 := by
  have := allB_spec (p := fun n => Nat.beq (Nat.land n 65520) (Nat.sub n (Nat.mod n 16))) 16 0 (by kernel_rfl) n h
  rw [Nat.zero_mul, Nat.zero_add] at this
  exact Nat.eq_of_beq_eq_true this

theorem flags_high {f : Int} (h0 : 0 ≤ f) (h1 : f ≤ 65535) : (bits .andNot .u16 f 15 != 0) = decide (f > 15) := by
  obtain ⟨n, rfl⟩ := Int.eq_ofNat_of_zero_le h0
  have h : n < 65536 := by omega
  have e : bits .andNot .u16 (n : Int) 15 = ((n - n % 16 : Nat) : Int) := by
    unfold bits
    show (IntKind.u16).wrap (((BitVec.ofInt 16 (n : Int) &&& ~~~ (BitVec.ofInt 16 15)).toNat : Nat) : Int) = _
    rw [BitVec.toNat_and, ofInt16 h, show (~~~ (BitVec.ofInt 16 15)).toNat = 65520 by decide, land_high h]
    exact wrap16 (by omega)
  rw [e]
  by_cases hn : n ≤ 15
  · have : n - n % 16 = 0 := by omega
    rw [this, decide_eq_false (by omega)]
    rfl
  · have : n - n % 16 ≠ 0 := by omega
    rw [decide_eq_true (by omega)]
    simp only [bne_iff_ne, ne_eq]
    omega

theorem land14 (n : Nat) : n &&& 14 = (n % 16) &&& 14 := by
  have h1 : n &&& 14 < 16 := Nat.lt_of_le_of_lt Nat.and_le_right (by decide)
  have h2 := Nat.and_mod_two_pow (a := n) (b := 14) (n := 4)
  rw [Nat.mod_eq_of_lt h1] at h2
  exact h2

theorem flags_low {f : Int} (h0 : 0 ≤ f) (h1 : f ≤ 65535) : popOk (bits .and .u16 f 14) = true ∧ decide (popI (bits .and .u16 f 14) > 1) = decide (kindsI f > 1) := by
  obtain ⟨n, rfl⟩ := Int.eq_ofNat_of_zero_le h0
  have h : n < 65536 := by omega
  have e := bits_and16 (m := 14) h (by decide)
  have e' : bits .and .u16 (n : Int) 14 = ((n % 16 &&& 14 : Nat) : Int) := by rw [← land14]; exact e
  have shr1 : ∀ k : Nat, k ≤ 3 → shr (n : Int) k = ((n / 2 ^ k : Nat) : Int) := by
    intro k hk
    unfold shr
    have : min ((k : Int)).toNat (IntKind.u16).bits = k := by
      show min _ 16 = k
      omega
    rw [this, Int.fdiv_eq_ediv_of_nonneg _ (Int.pow_nonneg (by decide))]
    norm_cast
  have one : ∀ m : Nat, m < 65536 → bits .and .u16 (m : Int) 1 = ((m % 2 : Nat) : Int) := by
    intro m hm
    have := bits_and16 (m := 1) hm (by decide)
    rw [Nat.and_one_is_mod] at this
    exact this
  have k1 := shr1 1 (by decide)
  have k2 := shr1 2 (by decide)
  have k3 := shr1 3 (by decide)
  have hk : kindsI (n : Int) = ((n / 2 % 2 + n / 4 % 2 + n / 8 % 2 : Nat) : Int) := by
    unfold kindsI
    have k1' : shr (n : Int) 1 = ((n / 2 : Nat) : Int) := k1
    have k2' : shr (n : Int) 2 = ((n / 4 : Nat) : Int) := k2
    have k3' : shr (n : Int) 3 = ((n / 8 : Nat) : Int) := k3
    rw [k1', k2', k3', one _ (by omega), one _ (by omega), one _ (by omega)]
    rw [show ((n / 2 % 2 : Nat) : Int) + ((n / 4 % 2 : Nat) : Int) = ((n / 2 % 2 + n / 4 % 2 : Nat) : Int) by omega, wrap16 (by omega)]
    rw [show ((n / 2 % 2 + n / 4 % 2 : Nat) : Int) + ((n / 8 % 2 : Nat) : Int) = ((n / 2 % 2 + n / 4 % 2 + n / 8 % 2 : Nat) : Int) by omega, wrap16 (by omega)]
    generalize hs : n / 2 % 2 + n / 4 % 2 + n / 8 % 2 = s
    have : s ≤ 3 := by omega
    rcases (show s = 0 ∨ s = 1 ∨ s = 2 ∨ s = 3 by omega) with rfl | rfl | rfl | rfl <;> rfl
  rw [e', hk]
  have hr : n / 2 % 2 = n % 16 / 2 % 2 ∧ n / 4 % 2 = n % 16 / 4 % 2 ∧ n / 8 % 2 = n % 16 / 8 % 2 := by omega
  rw [hr.1, hr.2.1, hr.2.2]
  generalize hq : n % 16 = r
  have : r < 16 := by omega
  rcases (show r = 0 ∨ r = 1 ∨ r = 2 ∨ r = 3 ∨ r = 4 ∨ r = 5 ∨ r = 6 ∨ r = 7 ∨ r = 8 ∨ r = 9 ∨ r = 10 ∨ r = 11 ∨ r = 12 ∨ r = 13 ∨ r = 14 ∨ r = 15 by omega) with rfl | rfl | rfl | rfl | rfl | rfl | rfl | rfl | rfl | rfl | rfl | rfl | rfl | rfl | rfl | rfl <;> exact ⟨rfl, rfl⟩
end Go.Proofs.Ytdneelooepjdhaa
