/-
  The closed run of ForestKnown, from the first checkpoint to its end: it hands back true. Conditions: none but that the table of TrailingZeros64 stands in its variable (J).
-/
import Derived.Test.YtnbffjaghcfenaaGreatDoorGfRun2
namespace Go.Proofs.YtnbffjaghcfenaaGreatDoor
open Go.Fv Go.Proofs
noncomputable section
/-- The end: the result alone is told, and the next block's number. -/
def endS (n : Nat) : MS := ⟨.end_ .rt, [], (PT.nil : Fm).put 0 (some (.one (.lit (.bool true)))), ⟨.nil, n, 0⟩⟩
def lessO (d : MS) (s : Option MS) : Bool := match s with
  | some s => lessS d s
  | none => false
theorem lessO_spec {d : MS} {s : Option MS} (h : lessO d s = true) : ∃ s', s = some s' ∧ lessS d s' = true := by
  unfold lessO at h
  split at h
  · exact ⟨_, rfl, h⟩
  · cases h
theorem run3 : lessO (endS 1042) (goK 200 (decS N2)) = true := by kernel_rfl
end
/-- From one piece's end back to its beginning. -/
theorem pieceK {k : Nat} {d e : MS} {o' : Oc} (h : ∃ s', goK k d = some s' ∧ lessS e s' = true) (hy : MOK Tryz.prog Tryz.f3.ntmps 0 none none (bodyOf Tryz.f3) e o') : MOK Tryz.prog Tryz.f3.ntmps 0 none none (bodyOf Tryz.f3) d o' :=
  piece0 (fuel := 1000) (k := k) (stops := []) mixed (oraN_ok mixed tbl_ok baseA_ok 59) (entT_ok tbl_ok) (by kernel_rfl) h hy
theorem piece_num {k x : Nat} {d : MS} (h : numO (goK k d) = x) (h0 : Nat.beq x 0 = false) : ∃ s', goK k d = some s' ∧ lessS (decS x) s' = true := numO_spec h fun hh => by rw [hh] at h0; cases h0
theorem n1_pos : Nat.beq N1 0 = false := by kernel_rfl
theorem n2_pos : Nat.beq N2 0 = false := by kernel_rfl
theorem memo3 {a b c : MS} {x y z : Nat} (h1 : ∃ s', goK x S0 = some s' ∧ lessS a s' = true) (h2 : ∃ s', goK y a = some s' ∧ lessS b s' = true) (h3 : ∃ s', goK z b = some s' ∧ lessS c s' = true) (hlo : c.H.lo = 0) (hks : c.ks = []) : CallMemo Tryz.prog 3 Tryz.f3 S0 c :=
  memo_of_run Tryz.func3 (c := bodyOf Tryz.f3) (by kernel_rfl) Tryz.call3 hlo hks fun o' hy => pieceK h1 (pieceK h2 (pieceK h3 hy))
theorem p1 : ∃ s', goK 14 S0 = some s' ∧ lessS (decS N1) s' = true := piece_num run1 n1_pos
theorem p2 : ∃ s', goK 1 (decS N1) = some s' ∧ lessS (decS N2) s' = true := piece_num run2 n2_pos
theorem p3 : ∃ s', goK 200 (decS N2) = some s' ∧ lessS (endS 1042) s' = true := lessO_spec run3
theorem forestKnown_memo : CallMemo Tryz.prog 3 Tryz.f3 S0 (endS 1042) := memo3 p1 p2 p3 rfl rfl
theorem told_of {P : Program} [Plain P] {f : FuncId} {args : List AV} {H : HP} {Z Z' : AV × HP → Prop} (h : CallOK P f args H Z) (hz : ∀ o, Z o → Z' o) : CallOK P f args H fun o => Z' o ∧ St H o.2 :=
  ⟨fun o ho => ho.2, fun ρ w us hu hH hd hj => GivesR.mono (fun _ _ ⟨o, ho, hp⟩ => ⟨o, ⟨hz o ho, h.1 o ho⟩, hp⟩) (h.2 ρ w us hu hH hd hj)⟩
theorem call_of {c : MS} (k : CallMemo Tryz.prog 3 Tryz.f3 S0 c) (hl : lessS S0 (entS [] emptyH) = true) {o : AV × HP} (ho : outS Tryz.prog Tryz.f3 c = some o) (hv : o.1 = .one (.lit (.bool true))) : CallOK Tryz.prog 3 [] emptyH fun o => o.1 = .one (.lit (.bool true)) ∧ St emptyH o.2 :=
  told_of (k.ok [] emptyH (Nat.zero_le _) hl o ho) fun o' ho' => by rw [List.mem_singleton] at ho'; rw [ho', hv]
theorem forestKnown_call : CallOK Tryz.prog 3 [] emptyH fun o => o.1 = .one (.lit (.bool true)) ∧ St emptyH o.2 :=
  call_of forestKnown_memo (by kernel_rfl) (o := (.one (.lit (.bool true)), (endS 1042).H)) (by kernel_rfl) rfl
end Go.Proofs.YtnbffjaghcfenaaGreatDoor
