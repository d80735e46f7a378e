/-
  Sums of numbers of 128 bits as numbers: what the word-by-word reckoning of Sum comes to. Conditions: none.
-/
import Derived.Test.YtdneelooepjdhaaSum
namespace Go.Proofs.Ytdneelooepjdhaa
open Go.Ev Go.Proofs

/-- A word. -/
def Wd (n : Int) : Prop := 0 ≤ n ∧ n ≤ 18446744073709551615
/-- The number of two words. -/
def V (h l : Int) : Int := h * 18446744073709551616 + l
/-- A number's words modulo 2^128; is it as much or more? -/
def SH (s : Int) : Int := s / 18446744073709551616 % 18446744073709551616
def SL (s : Int) : Int := s % 18446744073709551616
def SO (s : Int) : Bool := decide (340282366920938463463374607431768211456 ≤ s)

theorem step0 {ah al : Int} (h1 : Wd ah) (h2 : Wd al) : loS 0 al = al ∧ caS 0 al = 0 ∧ hiS 0 0 ah al = ah ∧ ovS 0 0 ah al = 0 := by
  unfold Wd at h1 h2
  unfold hiS ovS loS caS
  omega

theorem step1 {ah al bh bl : Int} (h1 : Wd ah) (h2 : Wd al) (h3 : Wd bh) (h4 : Wd bl) :
    loS al bl = SL (V ah al + V bh bl) ∧ hiS ah al bh bl = SH (V ah al + V bh bl) ∧ ovS ah al bh bl = (V ah al + V bh bl) / 340282366920938463463374607431768211456 ∧ caS al bl ≤ 1 := by
  unfold Wd at h1 h2 h3 h4
  unfold hiS ovS loS caS SL SH V
  refine ⟨by omega, by omega, by omega, by omega⟩

theorem wd_SH (s : Int) : Wd (SH s) := by unfold Wd SH; omega
theorem wd_SL (s : Int) : Wd (SL s) := by unfold Wd SL; omega
theorem V_SH (s : Int) : V (SH s) (SL s) = s % 340282366920938463463374607431768211456 := by unfold V SH SL; omega
theorem V_wd {h l : Int} (h1 : Wd h) (h2 : Wd l) : 0 ≤ V h l ∧ V h l < 340282366920938463463374607431768211456 := by unfold Wd at h1 h2; unfold V; omega
theorem over_iff {s : Int} (h0 : 0 ≤ s) : decide (s / 340282366920938463463374607431768211456 > 0) = SO s := by
  unfold SO
  by_cases h : 340282366920938463463374607431768211456 ≤ s
  · rw [decide_eq_true h, decide_eq_true (by omega)]
  · rw [decide_eq_false h, decide_eq_false (by omega)]
end Go.Proofs.Ytdneelooepjdhaa
