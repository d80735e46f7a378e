/-
  Sums of numbers of 128 bits, as the transfer and account packages and the reference reckon them. Conditions: none.
-/
import Derived.Test.YtdneelooepjdhaaMat
namespace Go.Proofs.Ytdneelooepjdhaa
open Go.Ev Go.Proofs
abbrev M64 : Int := 18446744073709551616
def ob62 (nl al : Int) : Ob := [(5, decide ((nl + al + 0) / 18446744073709551616 ≤ 1), true), (5, true, true)]
theorem c62 (nh nl ah al : Int) (o : Bool) (h : (nl + al + 0) / 18446744073709551616 ≤ 1) : CallOK Try.prog 62 [.one (.ptr 0 0), .agg [.lit (.int .u64 ah), .lit (.int .u64 al)]] [some [some (.lit (.int .u64 nh)), some (.lit (.int .u64 nl)), some (.lit (.bool o))]]
    (.tup []) { writes := [(0, 2, .lit (.bool (bif o then true else decide ((nh + ah + (nl + al + 0) / 18446744073709551616) / 18446744073709551616 > 0)))), (0, 0, .lit (.int .u64 ((nh + ah + (nl + al + 0) / 18446744073709551616) % 18446744073709551616))), (0, 1, .lit (.int .u64 ((nl + al + 0) % 18446744073709551616)))] } :=
  CallOK.evalOb (hsOf := hsOf) (k := 68) (fuel := 1000) (n := 2) mixed tbl_ok base0_ok (ob := [(0, !o, !o), (0, !o, !o)] ++ ob62 nl al) (by kernel_rfl) (Ob.ok_cons rfl (Ob.ok_cons rfl (Ob.ok_cons (decide_eq_true h) (Ob.ok_cons rfl Ob.ok_nil))))

/-- (balance).add, on any block that holds a balance. -/
def g62 : FnB := fun args H => match args with
  | [.one (.ptr b 0), .agg [.lit (.int .u64 ah), .lit (.int .u64 al)]] => match getN b H with
    | some (some [some (.lit (.int .u64 nh)), some (.lit (.int .u64 nl)), some (.lit (.bool o))]) =>
      some (.tup [], { writes := [(b, 2, .lit (.bool (bif o then true else decide ((nh + ah + (nl + al + 0) / 18446744073709551616) / 18446744073709551616 > 0)))), (b, 0, .lit (.int .u64 ((nh + ah + (nl + al + 0) / 18446744073709551616) % 18446744073709551616))), (b, 1, .lit (.int .u64 ((nl + al + 0) % 18446744073709551616)))] }, [])
    | _ => none
  | _ => none

theorem fn62 : FnOK Try.prog 62 g62 := by
  intro args H v e ob h hk
  unfold g62 at h
  split at h
  · rename_i b ah al
    rw [getN_eq] at h
    split at h
    · rename_i nh nl o hb
      cases h
      refine CallOK.ranged (fun b' i c hm => ?_) fun ha hH => ?_
      · simp only [List.mem_cons, Prod.mk.injEq, List.not_mem_nil, or_false] at hm
        rcases hm with ⟨rfl, rfl, _⟩ | ⟨rfl, rfl, _⟩ | ⟨rfl, rfl, _⟩ <;> exact ⟨_, hb, by simp⟩
      · have h1 := litOK_u64 (hH b _ 1 _ hb rfl)
        have h2 := ha _ (List.mem_cons_of_mem _ (List.mem_cons_self ..))
        simp only [AV.ok, List.all_cons, List.all_nil, Bool.and_true, Bool.and_eq_true, celOK] at h2
        have h3 := litOK_u64 h2.2
        exact CallOK.carry (fun _ => b) (c62 nh nl ah al o (by omega)) (fun x y hx hy _ => by simp at hx hy; omega) (fun b0 blk hb0 => by
          cases b0 with
          | zero =>
            simp only [List.getElem?_cons_zero, Option.some.injEq] at hb0
            subst hb0
            refine ⟨_, hb, rfl, fun i c hc => ?_⟩
            match i, hc with
            | 0, hc => cases hc; rfl
            | 1, hc => cases hc; rfl
            | 2, hc => cases hc; rfl
          | succ n => simp at hb0) (by simp [AV.below, Cel.below]) (fun b0 blk i c hb0 hc => by
          cases b0 with
          | zero =>
            simp only [List.getElem?_cons_zero, Option.some.injEq] at hb0
            subst hb0
            match i, hc with
            | 0, hc => cases hc; rfl
            | 1, hc => cases hc; rfl
            | 2, hc => cases hc; rfl
          | succ n => simp at hb0)
    · cases h
  · cases h

noncomputable def bS : OraB := oraL [(45, add64B false), (66, sub64B false), (64, g64), (62, g62)]
theorem bS_ok : OraOK Try.prog bS.plain := oraL_ok _ (by
  intro p hp
  simp only [List.mem_cons, List.not_mem_nil, or_false] at hp
  rcases hp with rfl | rfl | rfl | rfl
  · exact add64_ok Try.func45 (by kernel_rfl) (by kernel_rfl) (by kernel_rfl) (by kernel_rfl) false
  · exact sub64_ok Try.func66 (by kernel_rfl) (by kernel_rfl) (by kernel_rfl) (by kernel_rfl) false
  · exact fn64
  · exact fn62)

/-! ### One step of a sum, word by word -/
def loS (l al : Int) : Int := (l + al + 0) % 18446744073709551616
def caS (l al : Int) : Int := (l + al + 0) / 18446744073709551616
def hiS (h l ah al : Int) : Int := (h + ah + caS l al) % 18446744073709551616
def ovS (h l ah al : Int) : Int := (h + ah + caS l al) / 18446744073709551616

def W (n : Int) : Int := (IntKind.u64).wrap n
def aboveI (lh ll ah al bh bl ch cl : Int) : Bool :=
  bif (bif decide (W (W (W (0 + ovS 0 0 ah al) + ovS (hiS 0 0 ah al) (loS 0 al) bh bl) + ovS (hiS (hiS 0 0 ah al) (loS 0 al) bh bl) (loS (loS 0 al) bl) ch cl) > 0) then true
    else decide (hiS (hiS (hiS 0 0 ah al) (loS 0 al) bh bl) (loS (loS 0 al) bl) ch cl > lh)) then true
  else bif hiS (hiS (hiS 0 0 ah al) (loS 0 al) bh bl) (loS (loS 0 al) bl) ch cl == lh then decide (loS (loS (loS 0 al) bl) cl > ll) else false

theorem c61 (lh ll ah al bh bl ch cl : Int) (h1 : caS 0 al ≤ 1) (h2 : caS (loS 0 al) bl ≤ 1) (h3 : caS (loS (loS 0 al) bl) cl ≤ 1) :
    CallOK Try.prog 61 [.agg [.lit (.int .u64 lh), .lit (.int .u64 ll)], .one (.sl 0 0 3 3)] [some [some (.lit (.int .u64 ah)), some (.lit (.int .u64 al)), some (.lit (.int .u64 bh)), some (.lit (.int .u64 bl)), some (.lit (.int .u64 ch)), some (.lit (.int .u64 cl))]]
      (.one (.lit (.bool (aboveI lh ll ah al bh bl ch cl)))) {} :=
  CallOK.evalL (hsOf := hsOf) (k := 68) (fuel := 1000) (n := 3) mixed tbl_ok bS_ok
    (ks := [(decide (caS (loS (loS 0 al) bl) cl ≤ 1), true), (true, true), (decide (caS (loS 0 al) bl ≤ 1), true), (true, true), (decide (caS 0 al ≤ 1), true), (true, true)])
    (by simp [h1, h2, h3]) (by kernel_rfl) (by kernel_rfl)

theorem c49 (ah al bh bl : Int) : CallOK Try.prog 49 [.one (.sl 0 0 2 2)] [some [some (.lit (.int .u64 ah)), some (.lit (.int .u64 al)), some (.lit (.int .u64 bh)), some (.lit (.int .u64 bl))]]
      (.tup [(true, [.lit (.int .u64 (hiS (hiS 0 0 ah al) (loS 0 al) bh bl)), .lit (.int .u64 (loS (loS 0 al) bl))]), (false, [.lit (.bool (bif (bif false then true else decide (ovS 0 0 ah al > 0)) then true else decide (ovS (hiS 0 0 ah al) (loS 0 al) bh bl > 0)))])]) {} :=
  CallOK.eval (hsOf := hsOf) (k := 68) (fuel := 1000) (n := 3) mixed tbl_ok bS_ok (by kernel_rfl) (by kernel_rfl)
theorem c49' (ah al bh bl ch cl : Int) : CallOK Try.prog 49 [.one (.sl 0 0 3 3)] [some [some (.lit (.int .u64 ah)), some (.lit (.int .u64 al)), some (.lit (.int .u64 bh)), some (.lit (.int .u64 bl)), some (.lit (.int .u64 ch)), some (.lit (.int .u64 cl))]]
      (.tup [(true, [.lit (.int .u64 (hiS (hiS (hiS 0 0 ah al) (loS 0 al) bh bl) (loS (loS 0 al) bl) ch cl)), .lit (.int .u64 (loS (loS (loS 0 al) bl) cl))]),
        (false, [.lit (.bool (bif (bif (bif false then true else decide (ovS 0 0 ah al > 0)) then true else decide (ovS (hiS 0 0 ah al) (loS 0 al) bh bl > 0)) then true else decide (ovS (hiS (hiS 0 0 ah al) (loS 0 al) bh bl) (loS (loS 0 al) bl) ch cl > 0)))])]) {} :=
  CallOK.eval (hsOf := hsOf) (k := 68) (fuel := 1000) (n := 3) mixed tbl_ok bS_ok (by kernel_rfl) (by kernel_rfl)
end Go.Proofs.Ytdneelooepjdhaa
