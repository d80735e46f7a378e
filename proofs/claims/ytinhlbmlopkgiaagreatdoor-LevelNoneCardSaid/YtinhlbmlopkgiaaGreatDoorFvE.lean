/-
  A second abstract evaluator of the model's code: the operations. Conditions: none; nothing here speaks of one program.
-/
import Derived.Test.YtinhlbmlopkgiaaGreatDoorFvD
set_option linter.unusedSectionVars false
namespace Go.Fv
noncomputable section

def Post (ρ : PM) (H : HP) (w : World) (v : AV) (H' : HP) : Value → World → Prop := fun u w' => ∃ ρ', VRel ρ' v u ∧ Sim ρ H w ρ' H' w'
def GivesR (P : Program) (Q : Value → World → Prop) : Result Next → Prop
  | .ok (.value u) w' => Q u w'
  | .ok .skip w' => Q undef w'
  | .ok (.enter f args) w' => Calls P f args w' fun r w'' => ∃ u, r = .returned u ∧ Q u w''
  | .ok (.round l f tmps assign body) w' => RoundIn Fence.wide 0 P l f tmps assign body w' fun r w'' => ∃ u, r = .returned u ∧ Q u w''
  | _ => False
theorem GivesR.mono {P : Program} {Q Q' : Value → World → Prop} (hq : ∀ u w, Q u w → Q' u w) {r : Result Next} (h : GivesR P Q r) : GivesR P Q' r := by
  unfold GivesR at *
  split at h
  · exact hq _ _ h
  · exact hq _ _ h
  · intro cs
    obtain ⟨e, w', fr, ⟨u, hu, hqu⟩, rest⟩ := h cs
    exact ⟨e, w', fr, ⟨u, hu, hq _ _ hqu⟩, rest⟩
  · exact RoundIn.mono h fun e w' ⟨u, hu, hqu⟩ => ⟨u, hu, hq _ _ hqu⟩
  · cases h

abbrev R := Option (AV × HP)
/-- What is called: a function; the yield of a loop whose record is a block. -/
inductive Tg where
  | f (g : FuncId)
  | y (b : Nat)
/-- What calls come to. -/
abbrev Ora := Tg → List AV → HP → R
/-- What is said of the heaps alone. -/
def St (H H' : HP) : Prop := Unt H H' ∧ H.n ≤ H'.n
theorem St.refl (H : HP) : St H H := ⟨Unt.refl H, Nat.le_refl _⟩
theorem St.trans {H H1 H2 : HP} (h : St H H1) (h' : St H1 H2) : St H H2 := ⟨h.1.trans h.2 h'.1, Nat.le_trans h.2 h'.2⟩
theorem St.push (H : HP) (k : Bk) : St H (H.push k) := ⟨Unt.push H k, Nat.le_succ _⟩
theorem St.write {H H' : HP} {b off : Nat} {cs : List Cel} (h : H.write b off cs = some H') : St H H' := ⟨Unt.write h, by rw [(HP.write_spec h).1]; exact Nat.le_refl _⟩
theorem St.drop (H : HP) (b : Nat) : St H (H.drop b) := ⟨Unt.drop H b, Nat.le_refl _⟩
theorem St.obj (H : HP) (b : Nat) (x : Ct) : St H (H.obj b x) := ⟨Unt.obj H b x, Nat.le_refl _⟩

/-- What a call of it runs. -/
def TgRun (ρ : PM) (us : Array Value) (s : Sem Next) : Tg → Prop
  | .f g => s = callFunc g us
  | .y b => ∃ L, ρ b = some L ∧ s = Instr.yield L.B us
def OraOK (P : Program) (ora : Ora) : Prop :=
  ∀ (t : Tg) (args : List AV) (H : HP) (v : AV) (H' : HP), ora t args H = some (v, H') → St H H' ∧
    ∀ (ρ : PM) (w : World) (us : Array Value) (s : Sem Next), TgRun ρ us s t → All2 (VRel ρ) args us.toList → HRel ρ H w → Dom ρ H.n → GivesR P (Post ρ H w v H') (s.run P w)

def undefA : AV := .tup []
theorem undef_rel (ρ : PM) : VRel ρ undefA undef := ⟨#[], rfl, trivial⟩

def listE (E : Operand → Option AV) (xs : List Operand) : Option (List AV) := allSome (xs.map E)
def partsE (E : Operand → Option AV) : List (Nat × Operand) → Option (List (Nat × AV))
  | [] => some []
  | (i, x) :: ps => match E x, partsE E ps with
    | some v, some r => some ((i, v) :: r)
    | _, _ => none

/-! ### The operations, one by one -/
section
variable (P : Program) [Plain P] (ora : Ora) (E : Operand → Option AV) (H : HP)

def oMove (x : Operand) : R := (E x).map fun v => (v, H)
def oPick (c a b : Operand) : R :=
  match E c with
  | some (.one (.lit (.bool t))) => (if t then E a else E b).map fun v => (v, H)
  | _ => none
def oAlloc (t : TypeId) : R :=
  match infoT P t with
  | some i => match i.zero with
    | some z => (lits z.cells.toList).map fun cs => (.one (.ptr H.n 0), H.push (cellsB cs))
    | none => none
  | none => none
def oBox (x : Operand) : R := ((E x).bind AV.cels).map fun cs => (.one (.ptr H.n 0), H.push (cellsB cs))
def oBuild (t : TypeId) (ps : Array (Nat × Operand)) : R := ((partsE E ps.toList).bind (buildA P t)).map fun v => (v, H)
def oBuildSlice (t : TypeId) (len : Nat) (ps : Array (Nat × Operand)) : R := ((partsE E ps.toList).bind (buildSliceA P t len)).map fun cs => (.one (.sl H.n 0 len len), H.push (cellsB cs))
def oLoad (t : TypeId) (x : Operand) : R :=
  match E x, szA P t with
  | some (.one (.ptr b off)), some (ag, n) => ((H.read b off (wid ag n)).bind (mkA ag)).map fun v => (v, H)
  | _, _ => none
def oStore (t : TypeId) (x v : Operand) : R :=
  match E x, (E v).bind AV.cels, szA P t with
  | some (.one (.ptr b off)), some cs, some (_, n) => if cs.length = n then (H.write b off cs).map fun H' => (undefA, H') else none
  | _, _, _ => none
def oNil (x : Operand) : R :=
  match E x with
  | some (.one (.ptr b off)) => some (.one (.ptr b off), H)
  | _ => none

/-- Is a value of a kind that nil is of nil? -/
def isNilA : AV → Option Bool
  | .one (.lit (.pointer none)) => some true
  | .one (.lit (.slice none _ _)) => some true
  | .one (.lit (.map none)) => some true
  | .one (.lit .nilFunc) => some true
  | .one (.lit (.func _ _ _)) => some false
  | .one (.ptr _ _) => some false
  | .one (.sl _ _ _ _) => some false
  | .one (.su _ _ _ _) => some false
  | .one (.sz _ _) => some false
  | .one (.fn _ _) => some false
  | .one (.mp _) => some false
  | _ => none
/-- The kind of a value that nil is of, as a number. -/
def nilKind : AV → Nat
  | .one (.lit (.pointer none)) => 1
  | .one (.ptr _ _) => 1
  | .one (.lit (.slice none _ _)) => 2
  | .one (.sl _ _ _ _) => 2
  | .one (.su _ _ _ _) => 2
  | .one (.sz _ _) => 2
  | .one (.lit (.map none)) => 3
  | .one (.mp _) => 3
  | .one (.lit .nilFunc) => 4
  | .one (.lit (.func _ _ _)) => 4
  | .one (.fn _ _) => 4
  | _ => 0
def descKind : TypeDesc → Nat
  | .pointer _ => 1
  | .slice _ => 2
  | .map _ _ => 3
  | .func _ _ _ => 4
  | _ => 5
def strA (op : BinOp) (a b : ByteArray) : Option Value :=
  match op with
  | .add => if a.size + b.size ≤ 9223372036854775807 then some (.string (a ++ b)) else none
  | .eql => some (.bool (a.toList == b.toList))
  | .neq => some (.bool !(a.toList == b.toList))
  | .lss => some (.bool (Op.bytesLess a.toList b.toList))
  | .leq => some (.bool (Op.bytesLess a.toList b.toList || a.toList == b.toList))
  | .gtr => some (.bool !(Op.bytesLess a.toList b.toList || a.toList == b.toList))
  | .geq => some (.bool !(Op.bytesLess a.toList b.toList))
  | _ => none
def nilA (op : BinOp) (d : TypeDesc) (x y : AV) : Option Value :=
  match isNilA x, isNilA y with
  | some p, some q =>
    if nilKind x = descKind d ∧ nilKind y = descKind d ∧ (p = true ∨ q = true) then
      match op with
      | .eql => some (.bool (p && q))
      | .neq => some (.bool !(p && q))
      | _ => none
    else none
  | _, _ => none
def moreA (op : BinOp) (t : TypeId) (x y : AV) : Option Value :=
  match x, y with
  | .one (.lit (.string a)), .one (.lit (.string b)) => strA op a b
  | x, y => match undT P t with
    | some d => nilA op d x y
    | none => none
def oBin (op : BinOp) (t : TypeId) (x y : Operand) : R :=
  match E x, E y with
  | some a, some b => match binA P op t a b with
    | some v => some (.one (.lit v), H)
    | none => (moreA P op t a b).map fun v => (.one (.lit v), H)
  | _, _ => none
def oUn (op : UnOp) (x : Operand) : R :=
  match op, E x with
  | .not, some (.one (.lit (.bool b))) => some (.one (.lit (.bool !b)), H)
  | .neg, some (.one (.lit (.int k n))) => some (.one (.lit (.int k (k.wrap (0 - n)))), H)
  | _, _ => none
def oFieldAddr (t : TypeId) (x : Operand) (f : Nat) : R :=
  match undT P t, E x with
  | some (.struct fs), some (.one (.ptr b off)) => match fs[f]? with
    | some fl => match szA P fl.type with
      | some (_, n) => if n = 0 then none else some (.one (.ptr b (off + fl.offset)), H)
      | none => none
    | none => none
  | _, _ => none
def oField (t : TypeId) (x : Operand) (f : Nat) : R :=
  match undT P t, E x with
  | some (.struct fs), some (.agg xs) => match fs[f]? with
    | some fl => match szA P fl.type with
      | some (ag, n) => if fl.offset + wid ag n ≤ xs.length then (mkA ag (cut xs fl.offset (wid ag n))).map fun v => (v, H) else none
      | none => none
    | none => none
  | _, _ => none
/-- Block, place, length of what an index goes into. -/
def baseA : AV → Option (Nat × Nat × Nat)
  | .one (.sl b off len _) => some (b, off, len)
  | .one (.su b off len _) => some (b, off, len)
  | _ => none
def oIndexAddr (t : TypeId) (x i : Operand) : R :=
  match undT P t, E x, E i with
  | some (.slice e), some a, some (.one (.lit (.int _ n))) =>
    match baseA a, szA P e with
    | some (b, off, len), some (_, s) => if 0 ≤ n ∧ n < len then some (.one (.ptr b (off + n.toNat * s)), H) else none
    | _, _ => none
  | some (.array len e), some (.one (.ptr b off)), some (.one (.lit (.int _ n))) =>
    match szA P e with
    | some (_, s) => if 0 ≤ n ∧ n < len then some (.one (.ptr b (off + n.toNat * s)), H) else none
    | none => none
  | _, _, _ => none
def oIndex (t : TypeId) (x i : Operand) : R :=
  match undT P t, E x, E i with
  | some .string, some (.one (.lit (.string s))), some (.one (.lit (.int _ n))) =>
    if 0 ≤ n then match s[n.toNat]? with
      | some b => some (.one (.lit (.int .u8 b.toNat)), H)
      | none => none
    else none
  | some (.array len e), some (.agg xs), some (.one (.lit (.int _ n))) =>
    match szA P e with
    | some (ag, s) => if 0 ≤ n ∧ n < len ∧ n.toNat * s + wid ag s ≤ xs.length then (mkA ag (cut xs (n.toNat * s) (wid ag s))).map fun v => (v, H) else none
    | none => none
  | _, _, _ => none
def oExtract (x : Operand) (i : Nat) : R :=
  match E x with
  | some (.tup vs) => match vs[i]? with
    | some (true, xs) => some (.agg xs, H)
    | some (false, [c]) => some (.one c, H)
    | _ => none
  | _ => none
/-- What a function value is called with behind its arguments. -/
def ptrs (caps : List (Nat × Nat)) : List AV := caps.map fun p => .one (.ptr p.1 p.2)
def oCall (f : Operand) (args : Array Operand) : R :=
  match E f, listE E args.toList with
  | some (.one (.lit (.func (.func g) a b))), some vs => if a.size = 0 ∧ b.size = 0 then ora (.f g) vs H else none
  | some (.one (.fn (.func g) caps)), some vs => ora (.f g) (vs ++ ptrs caps) H
  | some (.one (.yd b)), some vs => ora (.y b) vs H
  | _, _ => none
def lenA (t : TypeId) (x : AV) : Option Nat :=
  match undT P t, x with
  | some .string, .one (.lit (.string s)) => some s.size
  | some (.array n _), _ => if n ≤ 9223372036854775807 then some n else none
  | some (.slice _), .one (.sl _ _ n _) => some n
  | some (.slice _), .one (.su _ _ n _) => some n
  | some (.slice _), .one (.sz _ _) => some 0
  | some (.slice _), .one (.lit (.slice none n _)) => some n
  | _, _ => none
def oLen (args : Array Operand) (ats : Array TypeId) : R :=
  match listE E args.toList, ats.toList with
  | some [x], t :: _ => (lenA P t x).map fun (n : Nat) => (.one (.lit (.int .i64 n)), H)
  | _, _ => none
def capA (t : TypeId) (x : AV) : Option Nat :=
  match undT P t, x with
  | some (.slice _), .one (.sl _ _ _ c) => some c
  | some (.slice _), .one (.lit (.slice none _ c)) => some c
  | _, _ => none
def oCap (args : Array Operand) (ats : Array TypeId) : R :=
  match listE E args.toList, ats.toList with
  | some [x], t :: _ => (capA P t x).map fun (n : Nat) => (.one (.lit (.int .i64 n)), H)
  | _, _ => none
def oMax (least : Bool) (args : Array Operand) : R :=
  match listE E args.toList with
  | some [.one (.lit (.int k a)), .one (.lit (.int k' b))] => if k = k' then some (.one (.lit (.int k (if (if least then b < a else a < b) then b else a))), H) else none
  | _ => none
def oMakeFunc (fn : Fn) (first caps : Array Operand) : R :=
  match listE E caps.toList with
  | some vs => match vs.mapM (fun v => match v with | .one (.ptr b off) => some (b, off) | _ => none) with
    | some ps => if first.size = 0 then some (.one (.fn fn ps), H) else none
    | none => none
  | none => none
end
end
end Go.Fv
