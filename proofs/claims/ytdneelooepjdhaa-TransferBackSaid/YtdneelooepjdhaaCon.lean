/-
  Contracts of the sums of the transfer and account packages, as numbers. Conditions: none.
-/
import Derived.Test.YtdneelooepjdhaaPlain
set_option linter.unusedVariables false
namespace Go.Proofs.Ytdneelooepjdhaa
open Go.Ev Go.Proofs

theorem carry1 {f : FuncId} {args : List AV} {H : Heap} {v : AV} {cells : List Value} {b : Nat} (h : CallOK Try.prog f args [some (cells.map fun x => some (.lit x))] v {}) (hb : H[b]? = some (some (cells.map fun x => some (.lit x))))
    (ha : ∀ a ∈ args, a.below 1 = true) : CallOK Try.prog f (args.map (AV.ren fun _ => b)) H (v.ren fun _ => b) {} := by
  refine CallOK.carry (fun _ => b) h (fun x y hx hy _ => by simp at hx hy; omega) (fun b0 blk hb0 => ?_) ha (fun b0 blk i c hb0 hc => ?_)
  · cases b0 with
    | zero =>
      simp only [List.getElem?_cons_zero, Option.some.injEq] at hb0
      subst hb0
      refine ⟨_, hb, rfl, fun i c hc => ?_⟩
      simp only [List.getElem?_map, Option.map_eq_some_iff] at hc ⊢
      obtain ⟨x, hx, hc⟩ := hc
      cases hc
      exact ⟨x, hx, rfl⟩
    | succ n => simp at hb0
  · cases b0 with
    | zero =>
      simp only [List.getElem?_cons_zero, Option.some.injEq] at hb0
      subst hb0
      simp only [List.getElem?_map, Option.map_eq_some_iff] at hc
      obtain ⟨x, hx, hc⟩ := hc
      cases hc
      rfl
    | succ n => simp at hb0

theorem wd_of {x : Int} (h : celOK (.lit (.int .u64 x)) = true) : Wd x := litOK_u64 h

def plusV (s : Int) : AV := .tup [(true, [.lit (.int .u64 (SH s)), .lit (.int .u64 (SL s))]), (false, [.lit (.bool (SO s))])]

def g49 : FnB := fun args H => match args with
  | [.one (.sl b 0 2 2)] => match getN b H with
    | some (some [some (.lit (.int .u64 ah)), some (.lit (.int .u64 al)), some (.lit (.int .u64 bh)), some (.lit (.int .u64 bl))]) => some (plusV (V ah al + V bh bl), {}, [])
    | _ => none
  | [.one (.sl b 0 3 3)] => match getN b H with
    | some (some [some (.lit (.int .u64 ah)), some (.lit (.int .u64 al)), some (.lit (.int .u64 bh)), some (.lit (.int .u64 bl)), some (.lit (.int .u64 ch)), some (.lit (.int .u64 cl))]) => some (plusV (V ah al + V bh bl + V ch cl), {}, [])
    | _ => none
  | _ => none

theorem fn49 : FnOK Try.prog 49 g49 := by
  intro args H v e ob h hk
  unfold g49 at h
  split at h
  · rename_i b
    rw [getN_eq] at h
    split at h
    · rename_i ah al bh bl hb
      cases h
      refine CallOK.ranged (fun _ _ _ hm => by cases hm) fun _ hH => ?_
      have h1 := wd_of (hH b _ 0 _ hb rfl)
      have h2 := wd_of (hH b _ 1 _ hb rfl)
      have h3 := wd_of (hH b _ 2 _ hb rfl)
      have h4 := wd_of (hH b _ 3 _ hb rfl)
      have key := c49 ah al bh bl
      obtain ⟨e1, _, e2, e3⟩ := step0 h1 h2
      obtain ⟨s1, s2, s3, _⟩ := step1 h1 h2 h3 h4
      have hv1 := V_wd h1 h2
      have hv2 := V_wd h3 h4
      rw [e1, e2, e3, s1, s2, s3, over_iff (by omega)] at key
      exact carry1 (cells := [.int .u64 ah, .int .u64 al, .int .u64 bh, .int .u64 bl]) key hb (by simp [AV.below, Cel.below])
    · cases h
  · rename_i b
    rw [getN_eq] at h
    split at h
    · rename_i ah al bh bl ch cl hb
      cases h
      refine CallOK.ranged (fun _ _ _ hm => by cases hm) fun _ hH => ?_
      have h1 := wd_of (hH b _ 0 _ hb rfl)
      have h2 := wd_of (hH b _ 1 _ hb rfl)
      have h3 := wd_of (hH b _ 2 _ hb rfl)
      have h4 := wd_of (hH b _ 3 _ hb rfl)
      have h5 := wd_of (hH b _ 4 _ hb rfl)
      have h6 := wd_of (hH b _ 5 _ hb rfl)
      have key := c49' ah al bh bl ch cl
      obtain ⟨e1, _, e2, e3⟩ := step0 h1 h2
      obtain ⟨s1, s2, s3, _⟩ := step1 h1 h2 h3 h4
      obtain ⟨t1, t2, t3, _⟩ := step1 (wd_SH (V ah al + V bh bl)) (wd_SL (V ah al + V bh bl)) h5 h6
      have hv1 := V_wd h1 h2
      have hv2 := V_wd h3 h4
      have hv3 := V_wd h5 h6
      rw [e1, e2, e3, s1, s2, s3, t1, t2, t3, V_SH] at key
      have f1 : SH ((V ah al + V bh bl) % 340282366920938463463374607431768211456 + V ch cl) = SH (V ah al + V bh bl + V ch cl) := by unfold SH; omega
      have f2 : SL ((V ah al + V bh bl) % 340282366920938463463374607431768211456 + V ch cl) = SL (V ah al + V bh bl + V ch cl) := by unfold SL; omega
      have f3 : (bif (bif (bif false then true else decide ((0 : Int) > 0)) then true else decide ((V ah al + V bh bl) / 340282366920938463463374607431768211456 > 0)) then true
          else decide (((V ah al + V bh bl) % 340282366920938463463374607431768211456 + V ch cl) / 340282366920938463463374607431768211456 > 0)) = SO (V ah al + V bh bl + V ch cl) := by
        unfold SO
        by_cases q1 : (V ah al + V bh bl) / 340282366920938463463374607431768211456 > 0
        · rw [decide_eq_true q1, decide_eq_true (show 340282366920938463463374607431768211456 ≤ V ah al + V bh bl + V ch cl by omega)]; rfl
        · rw [decide_eq_false q1]
          by_cases q2 : ((V ah al + V bh bl) % 340282366920938463463374607431768211456 + V ch cl) / 340282366920938463463374607431768211456 > 0
          · rw [decide_eq_true q2, decide_eq_true (show 340282366920938463463374607431768211456 ≤ V ah al + V bh bl + V ch cl by omega)]; rfl
          · rw [decide_eq_false q2, decide_eq_false (show ¬ 340282366920938463463374607431768211456 ≤ V ah al + V bh bl + V ch cl by omega)]; rfl
      rw [f1, f2, f3] at key
      exact carry1 (cells := [.int .u64 ah, .int .u64 al, .int .u64 bh, .int .u64 bl, .int .u64 ch, .int .u64 cl]) key hb (by simp [AV.below, Cel.below])
    · cases h
  · cases h

/-! ### above -/
def g61 : FnB := fun args H => match args with
  | [.agg [.lit (.int .u64 lh), .lit (.int .u64 ll)], .one (.sl b 0 3 3)] => match getN b H with
    | some (some [some (.lit (.int .u64 ah)), some (.lit (.int .u64 al)), some (.lit (.int .u64 bh)), some (.lit (.int .u64 bl)), some (.lit (.int .u64 ch)), some (.lit (.int .u64 cl))]) =>
      some (.one (.lit (.bool (decide (V lh ll < V ah al + V bh bl + V ch cl)))), {}, [])
    | _ => none
  | _ => none

theorem above_eq {lh ll ah al bh bl ch cl : Int} (l1 : Wd lh) (l2 : Wd ll) (h1 : Wd ah) (h2 : Wd al) (h3 : Wd bh) (h4 : Wd bl) (h5 : Wd ch) (h6 : Wd cl) :
    aboveI lh ll ah al bh bl ch cl = decide (V lh ll < V ah al + V bh bl + V ch cl) ∧ caS 0 al ≤ 1 ∧ caS (loS 0 al) bl ≤ 1 ∧ caS (loS (loS 0 al) bl) cl ≤ 1 := by
  obtain ⟨e1, e0, e2, e3⟩ := step0 h1 h2
  obtain ⟨s1, s2, s3, s4⟩ := step1 h1 h2 h3 h4
  obtain ⟨t1, t2, t3, t4⟩ := step1 (wd_SH (V ah al + V bh bl)) (wd_SL (V ah al + V bh bl)) h5 h6
  have hv1 := V_wd h1 h2
  have hv2 := V_wd h3 h4
  have hv3 := V_wd h5 h6
  refine ⟨?_, by omega, by rw [e1]; exact s4, by rw [e1, s1]; exact t4⟩
  unfold aboveI
  rw [e1, e2, e3, s1, s2, s3, t1, t2, t3, V_SH]
  have hs : 0 ≤ V ah al + V bh bl ∧ V ah al + V bh bl < 680564733841876926926749214863536422912 := by omega
  clear hv1 hv2 s1 s2 s3 s4 t1 t2 t3 t4
  generalize V ah al + V bh bl = s at *
  generalize V ch cl = c at *
  have hw : ∀ n : Int, 0 ≤ n → n ≤ 18446744073709551615 → W n = n := by
    intro n g0 g1
    show (let m := n % (2 ^ 64 : Int); if false && m ≥ (2 ^ 63 : Int) then m - 2 ^ 64 else m) = n
    simp
    omega
  rw [hw (0 + 0) (by omega) (by omega), hw (0 + 0 + s / 340282366920938463463374607431768211456) (by omega) (by omega), hw _ (by omega) (by omega)]
  unfold Wd at l1 l2
  unfold SH SL V
  by_cases q0 : 0 + 0 + s / 340282366920938463463374607431768211456 + (s % 340282366920938463463374607431768211456 + c) / 340282366920938463463374607431768211456 > 0
  · rw [decide_eq_true q0, decide_eq_true (show lh * 18446744073709551616 + ll < s + c by omega)]; rfl
  · rw [decide_eq_false q0]
    by_cases q1 : (s % 340282366920938463463374607431768211456 + c) / 18446744073709551616 % 18446744073709551616 > lh
    · rw [decide_eq_true q1, decide_eq_true (show lh * 18446744073709551616 + ll < s + c by omega)]; rfl
    · rw [decide_eq_false q1]
      by_cases q2 : (s % 340282366920938463463374607431768211456 + c) / 18446744073709551616 % 18446744073709551616 = lh
      · rw [beq_iff_eq.2 q2]
        by_cases q3 : (s % 340282366920938463463374607431768211456 + c) % 18446744073709551616 > ll
        · rw [decide_eq_true q3, decide_eq_true (show lh * 18446744073709551616 + ll < s + c by omega)]; rfl
        · rw [decide_eq_false q3, decide_eq_false (show ¬ lh * 18446744073709551616 + ll < s + c by omega)]; rfl
      · rw [beq_eq_false_iff_ne.2 q2, decide_eq_false (show ¬ lh * 18446744073709551616 + ll < s + c by omega)]; rfl

theorem fn61 : FnOK Try.prog 61 g61 := by
  intro args H v e ob h hk
  unfold g61 at h
  split at h
  · rename_i lh ll b
    rw [getN_eq] at h
    split at h
    · rename_i ah al bh bl ch cl hb
      cases h
      refine CallOK.ranged (fun _ _ _ hm => by cases hm) fun ha hH => ?_
      have h1 := wd_of (hH b _ 0 _ hb rfl)
      have h2 := wd_of (hH b _ 1 _ hb rfl)
      have h3 := wd_of (hH b _ 2 _ hb rfl)
      have h4 := wd_of (hH b _ 3 _ hb rfl)
      have h5 := wd_of (hH b _ 4 _ hb rfl)
      have h6 := wd_of (hH b _ 5 _ hb rfl)
      have hl := ha _ (List.mem_cons_self ..)
      simp only [AV.ok, List.all_cons, List.all_nil, Bool.and_true, Bool.and_eq_true] at hl
      obtain ⟨k0, k1, k2, k3⟩ := above_eq (wd_of hl.1) (wd_of hl.2) h1 h2 h3 h4 h5 h6
      have key := c61 lh ll ah al bh bl ch cl k1 k2 k3
      rw [k0] at key
      exact carry1 (cells := [.int .u64 ah, .int .u64 al, .int .u64 bh, .int .u64 bl, .int .u64 ch, .int .u64 cl]) key hb (by simp [AV.below, Cel.below])
    · cases h
  · cases h
end Go.Proofs.Ytdneelooepjdhaa
