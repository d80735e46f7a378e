/-
  What the functions of a chapter (votes) make, in plain words. Conditions: none.
  Contracts of a chapter's functions: numbers, logs, votes. Conditions: none.
-/
import Derived.Test.YtlbbkmcegbeckaaSbBase
import Derived.Test.YtlbbkmcegbeckaaSzS
set_option linter.unusedSectionVars false
set_option linter.unusedVariables false
set_option linter.unusedSimpArgs false
namespace Go.Proofs.Ytlbbkmcegbeckaa.Cn
open Go.Sx Go.Proofs
abbrev sI : Srt := .int .i64
abbrev sEnt : List Srt := [sI, sI, sI]
abbrev sVote : List Srt := [sI, sI, sI, sI, .sl sEnt]
abbrev sVotes : Srt := .sl sVote
abbrev sHead : List Srt := [sI, sI]
abbrev sLog : List Srt := [sI, sI, .sl sHead]
abbrev I (z : Int) : X := .lit (.int .i64 z)
abbrev mnX : X := .lit (.int .i64 (-9223372036854775808))
abbrev mxX : X := .lit (.int .i64 9223372036854775807)
abbrev i0 (z : Int) : CD := .v (.int .i64 z)
def at' (r : List CD) (j : Nat) : CD := r.getD j default
def row (d : CD) (i : Nat) : List CD := d.rows.getD i []
def mkz (r : List (List CD)) : CD := .sl r.isEmpty r
def prevOp (d : CD) (i : Nat) : Int := if i = 0 then 0 else (at' (row d (i - 1)) 0).iv
def okE (d : CD) (i : Nat) : Bool := decide (prevOp d i + 1 ≤ (at' (row d i) 0).iv) && decide ((at' (row d i) 0).iv ≤ 1073741824) && decide (0 ≤ (at' (row d i) 1).iv) && decide ((at' (row d i) 1).iv ≤ 1073741824) && decide (1 ≤ (at' (row d i) 2).iv) && decide ((at' (row d i) 2).iv ≤ 4) && !(eqC (at' (row d i) 2) (i0 3) && !eqC (at' (row d i) 1) (i0 0))
def okLog (d : CD) : Bool := (List.range d.rows.length).all (okE d) && decide (d.len ≤ 64)
def hasR (op view : CD) (r : List CD) : Bool := eqC (at' r 0) op && eqC (at' r 1) view && eqC (at' r 2) (i0 1)
def denR (op view : CD) (r : List CD) : Bool := eqC (at' r 0) op && (eqC (at' r 2) (i0 3) || (eqC (at' r 2) (i0 1) || eqC (at' r 2) (i0 4)) && (decide (view.iv < 0) || eqC (at' r 1) view))
def hasV (op view : CD) (v : List CD) : Bool := (at' v 4).rows.any (hasR op view)
def denV (op view : CD) (v : List CD) : Bool := !(at' v 4).rows.any (denR op view)
def okV (v : List CD) (n : Int) : Bool := decide (0 ≤ (at' v 0).iv) && decide ((at' v 0).iv ≤ n - 1) && decide (0 ≤ (at' v 1).iv) && decide ((at' v 1).iv ≤ 1073741824) && decide (0 ≤ (at' v 2).iv) && decide ((at' v 2).iv ≤ 1073741824) && decide (0 ≤ (at' v 3).iv) && decide ((at' v 3).iv ≤ 1073741824) && okLog (at' v 4)
def okN (n : CD) : Bool := eqC n (i0 3) || eqC n (i0 5) || eqC n (i0 7)
def hasE (s r : Int) : Bool := eqC (orV (binInt .and .i64 (orV (shfInt .shr .i64 s r)).iv 1)) (i0 1)
def withE (s r : Int) : CD := orV (binInt .or .i64 (orV (binInt .and .i64 s 127)).iv (orV (shfInt .shl .i64 1 r)).iv)
def enough (n : CD) : Int := if eqC n (i0 3) then 2 else if eqC n (i0 5) then 3 else if eqC n (i0 7) then 4 else 0
def repIn (rows : List (List CD)) (d : CD) : Bool := rows.any fun v => eqC (at' v 0) d
def okVt (l : CD) (n : Int) (i : Nat) : Bool := okV (row l i) n && !repIn (l.rows.take i) (at' (row l i) 0)
def okVs (l n : CD) : Bool := okN n && (List.range l.rows.length).all (okVt l n.iv)
def setOK (rows : List (List CD)) (s : Int) : Bool := (List.range 7).all fun q => hasE s q == repIn rows (i0 q)
def large (l : CD) : Bool := l.rows.any fun v => decide (80 < (at' v 4).len)
def cpV (v : List CD) : List CD := [at' v 0, at' v 1, at' v 2, at' v 3, .sl false (at' v 4).rows]
def allS (f : List CD → List CD → Bool) : List (List CD) → List (List CD) → Bool
 | [], [] => true
 | r :: l, q :: m => f r q && allS f l m
 | _, _ => false
def eqI (r q : List CD) : Bool := eqC (at' r 0) (at' q 0)
def eqH (r q : List CD) : Bool := eqC (at' r 0) (at' q 0) && eqC (at' r 1) (at' q 1)
def eqEn (r q : List CD) : Bool := eqC (at' r 0) (at' q 0) && eqC (at' r 1) (at' q 1) && eqC (at' r 2) (at' q 2)
def eqV (r q : List CD) : Bool := eqC (at' r 0) (at' q 0) && eqC (at' r 1) (at' q 1) && eqC (at' r 2) (at' q 2) && eqC (at' r 3) (at' q 3) && allS eqEn (at' r 4).rows (at' q 4).rows
def maxI (j : Nat) (vs : List (List CD)) : Int := vs.foldl (fun m v => max m (at' v j).iv) 0
def isLead (l : Int) (v : List CD) : Bool := decide ((at' v 1).iv = l)
def leadsR (vs : List (List CD)) (l : Int) : List (List CD) := vs.filter (isLead l)
def viewE (op : Int) (m : Int) (es : List (List CD)) : Int := es.foldl (fun m r => if (at' r 0).iv = op ∧ (at' r 2).iv ≠ 3 then max m (at' r 1).iv else m) m
def viewL (op : Int) (m : Int) (vs : List (List CD)) : Int := vs.foldl (fun m v => viewE op m (at' v 4).rows) m
def lead (l : CD) : Int := maxI 1 l.rows
def commit (l : CD) : Int := maxI 3 l.rows
def top (l : CD) : Int := maxI 2 (leadsR l.rows (lead l))
def view (l : CD) (op : Int) : Int := viewL op (-1) (leadsR l.rows (lead l))
def okOp (l : CD) (op : Int) : Bool := l.rows.any (hasV (i0 op) (i0 (view l op)))
def many (l : CD) : Nat := ((List.range (top l - commit l).toNat).takeWhile fun k : Nat => okOp l (commit l + 1 + k)).length
def endOp (l : CD) : Int := commit l + many l
def waitsE (l : CD) (e : Int) : Bool := decide (endOp l < top l) && decide (((l.rows.filter (denV (i0 (endOp l + 1)) (i0 (view l (endOp l + 1))))).length : Int) < e)
def waits (l n : CD) : Bool := waitsE l (enough n)
def okA (l : CD) : Bool := l.rows.all fun v => okV v 7
def opE (es : List (List CD)) (o : Nat) : Bool := es.any fun r => decide ((at' r 0).iv = o)
def opP (vs : List (List CD)) (o : Nat) : Bool := vs.any fun v => opE (at' v 4).rows o
theorem big_ex : ∃ n : Nat, n = 1073741825 := ⟨_, rfl⟩
noncomputable def bigN : Nat := Classical.choose big_ex
noncomputable def opsS (p : Nat → Bool) : List (List CD) := ((List.range bigN).filter p).map fun o : Nat => [i0 o]
def hdsR (f : Int → Int) (ops : List (List CD)) : List (List CD) := (ops.filter fun r => decide (0 ≤ f (at' r 0).iv)).map fun r => [at' r 0, i0 (f (at' r 0).iv)]
def toldR (s : List (List CD)) (e : List (List CD)) (m : Int) : List (List CD) := (e.filter fun r => mIn (bornOf r) s && decide ((at' r 0).iv ≤ m)).map fun r => [at' r 0, at' r 1]
def heads (l : CD) : List (List CD) := ((List.range ((endOp l).toNat + 1)).filter fun o : Nat => decide (0 ≤ view l o)).map fun o : Nat => [i0 o, i0 (view l o)]
def errOf (l n : CD) : Int := if okVs l n = true then (if (l.len : Int) < enough n then 10 else if waits l n = true then 14 else 0) else 2
structure MapOK (f : Int → Int) (e : List (List CD)) : Prop where
 rows : ∀ r ∈ e, ∃ (k : Int) (c : CD), r = [i0 k, i0 (f k), c] ∧ 0 ≤ f k
 all : ∀ k : Int, 0 ≤ f k → ∃ r ∈ e, at' r 0 = i0 k
 one : e.Pairwise fun a b => (at' a 0).iv ≠ (at' b 0).iv
 low : ∀ k : Int, -1 ≤ f k
def untold (s : List (List CD)) (e : List (List CD)) : Nat := (e.filter fun r => !mIn (bornOf r) s).length
def cmpI (a b : Int) : Int := if a < b then -1 else if b < a then 1 else 0
def isE (es : List (List CD)) (op : CD) : Bool := es.any fun r => eqC (at' r 0) op
def entE (es : List (List CD)) (op : CD) (j : Nat) : CD := at' ((es.find? fun r => eqC (at' r 0) op).getD [i0 0, i0 0, i0 0]) j
def inH (hs : List (List CD)) (a b : CD) : Bool := hs.any fun r => eqC (at' r 0) a && eqC (at' r 1) b
def bitC (s i : Int) : CD := orV (binInt .and .i64 (orV (shfInt .shr .i64 s i)).iv 1)
def popE (s : Int) : Nat → Int
 | 0 => 0
 | n + 1 => popE s n + (bitC s n).iv
def fltE (es : List (List CD)) (op : CD) : Bool := isE es op && eqC (entE es op 2) (i0 3)
def badA (set : Int) (v : List CD) (op w : CD) : Bool := eqC (bitC set (at' v 0).iv) (i0 1) && !fltE (at' v 4).rows op && (!isE (at' v 4).rows op || (!eqC (entE (at' v 4).rows op 2) (i0 1) && !eqC (entE (at' v 4).rows op 2) (i0 4)) || !eqC (entE (at' v 4).rows op 1) w)
def badB (ld : CD) (v : List CD) (op w : CD) : Bool := eqC (at' v 1) ld && isE (at' v 4).rows op && !fltE (at' v 4).rows op && !eqC (entE (at' v 4).rows op 1) w
def okK (set : Int) (ld : CD) (first : Int) (views : CD) (v : List CD) (k : Nat) : Bool := !badA set v (i0 (first + k)) (at' (row views k) 0) && !badB ld v (i0 (first + k)) (at' (row views k) 0)
def okTk (set : Int) (ld : CD) (first : Int) (views : CD) (v : List CD) : Bool := !(eqC (at' v 1) ld && decide ((at' v 2).iv < first + views.len - 1)) && (List.range views.rows.length).all (okK set ld first views v)
def takenE (l : CD) (n set first : Int) (views : CD) : Bool := !decide (2 * popE set n.toNat ≤ n) && l.rows.all (okTk set (i0 (lead l)) first views)
def abv (c : Int) (r : List CD) : Bool := decide (c < (at' r 0).iv)
@[reducible] noncomputable def U : Us := ⟨fun n l => match n with
 | 100 => vBool (okLog (l.getD 0 default))
 | 101 => vBool ((List.range (l.getD 1 default).iv.toNat).all (okE (l.getD 0 default)))
 | 102 => vInt .i64 (prevOp (l.getD 0 default) (l.getD 1 default).iv.toNat)
 | 103 => vBool ((l.getD 2 default).rows.any (hasR (l.getD 0 default) (l.getD 1 default)))
 | 104 => vBool (((l.getD 2 default).rows.take (l.getD 3 default).iv.toNat).any (hasR (l.getD 0 default) (l.getD 1 default)))
 | 105 => vBool ((l.getD 2 default).rows.any (denR (l.getD 0 default) (l.getD 1 default)))
 | 106 => vBool (((l.getD 2 default).rows.take (l.getD 3 default).iv.toNat).any (denR (l.getD 0 default) (l.getD 1 default)))
 | 107 => vInt .i64 ((l.getD 2 default).rows.filter (denV (l.getD 0 default) (l.getD 1 default))).length
 | 108 => vInt .i64 (((l.getD 2 default).rows.take (l.getD 3 default).iv.toNat).filter (denV (l.getD 0 default) (l.getD 1 default))).length
 | 109 => mkz (((l.getD 2 default).rows.filter (hasV (l.getD 0 default) (l.getD 1 default))).map fun v => [at' v 0])
 | 110 => mkz ((((l.getD 2 default).rows.take (l.getD 3 default).iv.toNat).filter (hasV (l.getD 0 default) (l.getD 1 default))).map fun v => [at' v 0])
 | 111 => vInt .i64 (if okN (l.getD 0 default) then 0 else 2)
 | 112 => vBool (okV (l.take 5) (l.getD 5 default).iv)
 | 113 => vInt .i64 (enough (l.getD 0 default))
 | 119 => vBool (large (l.getD 0 default))
 | 121 => vBool (decide (0 ≤ (l.getD 1 default).iv) && decide ((l.getD 1 default).iv < 7) && hasE (l.getD 0 default).iv (l.getD 1 default).iv)
 | 122 => withE (l.getD 0 default).iv (l.getD 1 default).iv
 | 123 => vInt .i64 (if okVs (l.getD 0 default) (l.getD 1 default) then 0 else 2)
 | 124 => vBool ((List.range (l.getD 2 default).iv.toNat).all (okVt (l.getD 0 default) (l.getD 1 default).iv))
 | 125 => vBool (setOK ((l.getD 0 default).rows.take (l.getD 2 default).iv.toNat) (l.getD 1 default).iv)
 | 126 => vBool (repIn ((l.getD 0 default).rows.take (l.getD 2 default).iv.toNat) (at' (row (l.getD 0 default) (l.getD 1 default).iv.toNat) 0))
 | 127 => vBool (large (l.getD 0 default) || decide (10 < (l.getD 0 default).len))
 | 128 => vBool (((l.getD 0 default).rows.take (l.getD 1 default).iv.toNat).any fun v => decide (80 < (at' v 4).len))
 | 129 => mkz ((l.getD 0 default).rows.map cpV)
 | 130 => mkz (((l.getD 0 default).rows.take (l.getD 1 default).iv.toNat).map cpV)
 | 131 => vBool (eqC (l.getD 0 default) (l.getD 3 default) && eqC (l.getD 1 default) (l.getD 4 default) && allS eqH (l.getD 2 default).rows (l.getD 5 default).rows)
 | 132 => vBool (allS eqH ((l.getD 0 default).rows.take (l.getD 2 default).iv.toNat) ((l.getD 1 default).rows.take (l.getD 2 default).iv.toNat))
 | 133 => vBool (allS eqI (l.getD 0 default).rows (l.getD 1 default).rows)
 | 134 => vBool (allS eqI ((l.getD 0 default).rows.take (l.getD 2 default).iv.toNat) ((l.getD 1 default).rows.take (l.getD 2 default).iv.toNat))
 | 135 => vBool (allS eqV (l.getD 0 default).rows (l.getD 1 default).rows)
 | 136 => vBool (allS eqV ((l.getD 0 default).rows.take (l.getD 2 default).iv.toNat) ((l.getD 1 default).rows.take (l.getD 2 default).iv.toNat))
 | 137 => vBool (allS eqEn ((l.getD 0 default).rows.take (l.getD 2 default).iv.toNat) ((l.getD 1 default).rows.take (l.getD 2 default).iv.toNat))
 | 140 => vInt .i64 (lead (l.getD 0 default))
 | 141 => vInt .i64 (maxI 1 ((l.getD 0 default).rows.take (l.getD 1 default).iv.toNat))
 | 142 => vInt .i64 (commit (l.getD 0 default))
 | 143 => vInt .i64 (maxI 3 ((l.getD 0 default).rows.take (l.getD 1 default).iv.toNat))
 | 144 => vInt .i64 (top (l.getD 0 default))
 | 145 => vInt .i64 (maxI 2 (leadsR ((l.getD 0 default).rows.take (l.getD 1 default).iv.toNat) (l.getD 2 default).iv))
 | 146 => vBool (@decide (MapOK (fun op => viewL op (-1) (leadsR ((l.getD 0 default).rows.take (l.getD 1 default).iv.toNat) (l.getD 2 default).iv)) (l.getD 3 default).rows) (Classical.propDecidable _))
 | 147 => vBool (@decide (MapOK (fun op => viewE op (viewL op (-1) (leadsR ((l.getD 0 default).rows.take (l.getD 1 default).iv.toNat) (l.getD 2 default).iv)) ((at' (row (l.getD 0 default) (l.getD 1 default).iv.toNat) 4).rows.take (l.getD 4 default).iv.toNat)) (l.getD 3 default).rows) (Classical.propDecidable _))
 | 148 => vBool (@decide (MapOK (view (l.getD 0 default)) (l.getD 1 default).rows) (Classical.propDecidable _))
 | 149 => vBool ((List.range (l.getD 1 default).iv.toNat).all fun k => decide ((k : Int) ≤ commit (l.getD 0 default)) || okOp (l.getD 0 default) k)
 | 150 => vInt .i64 (errOf (l.getD 0 default) (l.getD 1 default))
 | 151 => vInt .i64 (if errOf (l.getD 0 default) (l.getD 1 default) = 0 then endOp (l.getD 0 default) else 0)
 | 152 => vInt .i64 (if errOf (l.getD 0 default) (l.getD 1 default) = 0 then commit (l.getD 0 default) else 0)
 | 153 => mkz (if errOf (l.getD 0 default) (l.getD 1 default) = 0 then heads (l.getD 0 default) else [])
 | 154 => mkz (leadsR (l.getD 0 default).rows (lead (l.getD 0 default)))
 | 155 => mkz (leadsR ((l.getD 0 default).rows.take (l.getD 1 default).iv.toNat) (maxI 1 ((l.getD 0 default).rows.take (l.getD 1 default).iv.toNat)))
 | 156 => vInt .i64 (viewL (l.getD 1 default).iv (-1) (l.getD 0 default).rows)
 | 157 => vInt .i64 (viewL (l.getD 1 default).iv (-1) ((l.getD 0 default).rows.take (l.getD 2 default).iv.toNat))
 | 158 => vInt .i64 (viewE (l.getD 1 default).iv (viewL (l.getD 1 default).iv (-1) ((l.getD 0 default).rows.take (l.getD 2 default).iv.toNat)) ((at' (row (l.getD 0 default) (l.getD 2 default).iv.toNat) 4).rows.take (l.getD 3 default).iv.toNat))
 | 160 => vBool (okA (l.getD 0 default))
 | 161 => vInt .i64 (max (l.getD 1 default).iv (maxI 2 ((l.getD 0 default).rows.take (l.getD 2 default).iv.toNat)))
 | 162 => vBool (waitsE (l.getD 0 default) (l.getD 1 default).iv)
 | 163 => vInt .i64 (endOp (l.getD 0 default))
 | 164 => mkz (opsS (opP (l.getD 0 default).rows))
 | 165 => mkz (opsS (opP ((l.getD 0 default).rows.take (l.getD 1 default).iv.toNat)))
 | 166 => mkz (opsS fun o => opP ((l.getD 0 default).rows.take (l.getD 1 default).iv.toNat) o || opE ((at' (row (l.getD 0 default) (l.getD 1 default).iv.toNat) 4).rows.take (l.getD 2 default).iv.toNat) o)
 | 167 => mkz (hdsR (view (l.getD 0 default)) ((l.getD 1 default).rows.take (l.getD 2 default).iv.toNat))
 | 168 => vBool (((l.getD 0 default).rows.take (l.getD 2 default).iv.toNat).all fun r => decide ((at' r 0).iv ≤ (l.getD 1 default).iv))
 | 169 => vBool (((l.getD 0 default).rows.take (l.getD 2 default).iv.toNat).all fun r => decide ((at' r 0).iv < (l.getD 1 default).iv))
 | 170 => vBool (@decide (List.Perm (l.getD 2 default).rows (toldR (l.getD 1 default).rows (l.getD 0 default).rows (l.getD 3 default).iv)) (Classical.propDecidable _))
 | 171 => vBool (@decide (List.Perm (l.getD 0 default).rows (l.getD 1 default).rows ∧ RowsUp (l.getD 0 default).rows) (Classical.propDecidable _))
 | 172 => vInt .i64 (untold (l.getD 1 default).rows (l.getD 0 default).rows)
 | 173 => vInt .i64 (cmpI (l.getD 0 default).iv (l.getD 1 default).iv)
 | 174 => vBool (isE (l.getD 0 default).rows (l.getD 1 default))
 | 175 => entE (l.getD 0 default).rows (l.getD 1 default) 0
 | 176 => entE (l.getD 0 default).rows (l.getD 1 default) 1
 | 177 => entE (l.getD 0 default).rows (l.getD 1 default) 2
 | 178 => vBool (isE ((l.getD 0 default).rows.take (l.getD 2 default).iv.toNat) (l.getD 1 default))
 | 179 => vBool (inH (l.getD 0 default).rows (l.getD 1 default) (l.getD 2 default))
 | 180 => vBool (inH ((l.getD 0 default).rows.take (l.getD 3 default).iv.toNat) (l.getD 1 default) (l.getD 2 default))
 | 181 => vInt .i64 (popE (l.getD 0 default).iv (l.getD 1 default).iv.toNat)
 | 183 => vBool (((l.getD 0 default).rows.take (l.getD 5 default).iv.toNat).all (okTk (l.getD 1 default).iv (l.getD 2 default) (l.getD 3 default).iv (l.getD 4 default)))
 | 184 => vBool ((List.range (l.getD 6 default).iv.toNat).all (okK (l.getD 2 default).iv (l.getD 3 default) (l.getD 4 default).iv (l.getD 5 default) (row (l.getD 0 default) (l.getD 1 default).iv.toNat)))
 | 185 => vBool (takenE (l.getD 0 default) (l.getD 1 default).iv (l.getD 2 default).iv (l.getD 3 default).iv (l.getD 4 default))
 | 186 => vInt .i64 ((((l.getD 1 default).rows.take (l.getD 2 default).iv.toNat).filter (abv (commit (l.getD 0 default)))).length : Nat)
 | 187 => vBool (@decide (List.Perm (l.getD 1 default).rows (l.getD 0 default).rows ∧ (l.getD 1 default).len = (l.getD 0 default).len) (Classical.propDecidable _))
 | _ => default, lcOf []⟩
theorem len_lt {d : CD} {i : Int} (h : i < d.len) : i.toNat < d.rows.length ∨ i < 0 := by
 have : d.len ≤ d.rows.length := Nat.min_le_left _ _
 omega
theorem take_row {l : CD} {i : Int} (h0 : 0 ≤ i) (h : i < l.len) : l.rows.take (i + 1).toNat = l.rows.take i.toNat ++ [row l i.toNat] := by
 have hlt : i.toNat < l.rows.length := by rcases len_lt h with h | h <;> omega
 unfold row
 rw [show (i + 1).toNat = i.toNat + 1 by omega, List.take_succ_eq_append_getElem hlt, List.getD_eq_getElem?_getD, List.getElem?_eq_getElem hlt]
 rfl
theorem take_all {l : CD} {i : Int} (hl : l.len = l.rows.length) (h : ¬ i < l.len) : l.rows.take i.toNat = l.rows := List.take_of_length_le (by omega)
theorem any_take {f : List CD → Bool} {l : List (List CD)} {n : Nat} (h : (l.take n).any f = true) : l.any f = true := by
 rw [List.any_eq_true] at h ⊢
 obtain ⟨x, h1, h2⟩ := h
 exact ⟨x, List.mem_of_mem_take h1, h2⟩
theorem any_succ {l : CD} {i : Int} {f : List CD → Bool} (h0 : 0 ≤ i) (h : i < l.len) : (l.rows.take (i + 1).toNat).any f = ((l.rows.take i.toNat).any f || f (row l i.toNat)) := by
 rw [take_row h0 h, List.any_append]
 simp
theorem any_row {l : CD} {i : Int} {f : List CD → Bool} (h0 : 0 ≤ i) (h : i < l.len) (hr : f (row l i.toNat) = true) : l.rows.any f = true := by
 have hlt : i.toNat < l.rows.length := by rcases len_lt h with h | h <;> omega
 unfold row at hr
 rw [List.getD_eq_getElem?_getD, List.getElem?_eq_getElem hlt] at hr
 exact List.any_eq_true.2 ⟨_, List.getElem_mem hlt, hr⟩
theorem range_all_succ {f : Nat → Bool} {i : Int} (h0 : 0 ≤ i) : (List.range (i + 1).toNat).all f = ((List.range i.toNat).all f && f i.toNat) := by
 rw [show (i + 1).toNat = i.toNat + 1 by omega, List.range_succ, List.all_append]
 simp
theorem mkz_inj {r r' : List (List CD)} : (CD.sl (true && r.isEmpty) r = mkz r') = (r = r') := by
 unfold mkz
 simp only [Bool.true_and, CD.sl.injEq, eq_iff_iff]
 exact ⟨fun h => h.2, fun h => by rw [h]; exact ⟨rfl, rfl⟩⟩
theorem typ_int {k : IntKind} {d : CD} (h : Typ (.int k) d) : ∃ n, d = .v (.int k n) := by
 obtain ⟨m, u, n, h1, _⟩ := h
 exact ⟨n, h1⟩
theorem eqC_int {k k' : IntKind} {a b : Int} : (eqC (.v (.int k a)) (.v (.int k' b)) = true) = (a = b) := decide_eq_true_eq
theorem cell_at (d : CD) (i : Int) (j : Nat) : d.cell i j = at' (row d i.toNat) j := rfl
theorem vBool_inj {a b : Bool} : (vBool a = vBool b) = (a = b) := by unfold vBool; simp
theorem vInt_inj {k : IntKind} {a b : Int} : (vInt k a = vInt k b) = (a = b) := by unfold vInt; simp
theorem vb_lit (b : Bool) : CD.v (.bool b) = vBool b := rfl
theorem vi_lit (k : IntKind) (z : Int) : CD.v (.int k z) = vInt k z := rfl
theorem l1_inj {α : Type} {a b : α} : ([a] = [b]) = (a = b) := by simp
theorem us100 (a : CD) : @Us.u U 100 [a] = vBool (okLog a) := rfl
theorem us101 (a b : CD) : @Us.u U 101 [a, b] = vBool ((List.range b.iv.toNat).all (okE a)) := rfl
theorem us102 (a b : CD) : @Us.u U 102 [a, b] = vInt .i64 (prevOp a b.iv.toNat) := rfl
theorem us103 (a b c : CD) : @Us.u U 103 [a, b, c] = vBool (c.rows.any (hasR a b)) := rfl
theorem us104 (a b c d : CD) : @Us.u U 104 [a, b, c, d] = vBool ((c.rows.take d.iv.toNat).any (hasR a b)) := rfl
theorem us105 (a b c : CD) : @Us.u U 105 [a, b, c] = vBool (c.rows.any (denR a b)) := rfl
theorem us106 (a b c d : CD) : @Us.u U 106 [a, b, c, d] = vBool ((c.rows.take d.iv.toNat).any (denR a b)) := rfl
theorem us107 (a b c : CD) : @Us.u U 107 [a, b, c] = vInt .i64 (c.rows.filter (denV a b)).length := rfl
theorem us108 (a b c d : CD) : @Us.u U 108 [a, b, c, d] = vInt .i64 ((c.rows.take d.iv.toNat).filter (denV a b)).length := rfl
theorem us109 (a b c : CD) : @Us.u U 109 [a, b, c] = mkz ((c.rows.filter (hasV a b)).map fun v => [at' v 0]) := rfl
theorem us110 (a b c d : CD) : @Us.u U 110 [a, b, c, d] = mkz (((c.rows.take d.iv.toNat).filter (hasV a b)).map fun v => [at' v 0]) := rfl
theorem us111 (a : CD) : @Us.u U 111 [a] = vInt .i64 (if okN a then 0 else 2) := rfl
theorem us112 (a b c d e f : CD) : @Us.u U 112 [a, b, c, d, e, f] = vBool (okV [a, b, c, d, e] f.iv) := rfl
theorem take_allT {ss : List Srt} {d : CD} {i : Int} (hT : Typ (.sl ss) d) (h : ¬ i < d.len) : d.rows.take i.toNat = d.rows := take_all hT.sl.1 h
theorem filtLen_succ {f : List CD → Bool} {l : CD} {i : Int} (h0 : 0 ≤ i) (h : i < l.len) : ((l.rows.take (i + 1).toNat).filter f).length = ((l.rows.take i.toNat).filter f).length + if f (row l i.toNat) = true then 1 else 0 := by
 rw [take_row h0 h, List.filter_append, List.length_append]
 congr 1
 by_cases hf : f (row l i.toNat) = true <;> simp [hf]
theorem filtMap_succ {f : List CD → Bool} {g : List CD → List CD} {l : CD} {i : Int} (h0 : 0 ≤ i) (h : i < l.len) : ((l.rows.take (i + 1).toNat).filter f).map g = ((l.rows.take i.toNat).filter f).map g ++ if f (row l i.toNat) = true then [g (row l i.toNat)] else [] := by
 rw [take_row h0 h, List.filter_append, List.map_append]
 congr 1
 by_cases hf : f (row l i.toNat) = true <;> simp [hf]
theorem mkz_fold {r : List (List CD)} : CD.sl (true && r.isEmpty) r = mkz r := by unfold mkz; rfl
theorem mkz_eq {r r' : List (List CD)} : (mkz r = mkz r') = (r = r') := by rw [← mkz_fold, mkz_inj]
theorem us113 (a : CD) : @Us.u U 113 [a] = vInt .i64 (enough a) := rfl
theorem us119 (a : CD) : @Us.u U 119 [a] = vBool (large a) := rfl
theorem us121 (a b : CD) : @Us.u U 121 [a, b] = vBool (decide (0 ≤ b.iv) && decide (b.iv < 7) && hasE a.iv b.iv) := rfl
theorem us122 (a b : CD) : @Us.u U 122 [a, b] = withE a.iv b.iv := rfl
theorem us123 (a b : CD) : @Us.u U 123 [a, b] = vInt .i64 (if okVs a b then 0 else 2) := rfl
theorem us124 (a b c : CD) : @Us.u U 124 [a, b, c] = vBool ((List.range c.iv.toNat).all (okVt a b.iv)) := rfl
theorem us125 (a b c : CD) : @Us.u U 125 [a, b, c] = vBool (setOK (a.rows.take c.iv.toNat) b.iv) := rfl
theorem eqC_iv {d : CD} {k : IntKind} {z : Int} (h : eqC d (vInt k z) = true) : d.iv = z := by
 unfold eqC at h
 split at h
 ·rename_i a b hb
  cases hb
  unfold eqU at h
  split at h
  ·rename_i e1 e2
   cases e2
   exact of_decide_eq_true h
  ·rename_i e2; cases e2
  ·rename_i e2; cases e2
  ·cases h
 ·cases h
theorem small_row {l : CD} {i : Int} (h : ¬ large l = true) (h0 : 0 ≤ i) (hi : i < l.len) : (at' (row l i.toNat) 4).len ≤ 80 := by
 have hlt : i.toNat < l.rows.length := by rcases len_lt hi with h | h <;> omega
 unfold large at h
 rw [List.any_eq_true] at h
 simp only [decide_eq_true_eq, not_exists, not_and] at h
 have := h _ (List.getElem_mem hlt)
 unfold row
 rw [List.getD_eq_getElem?_getD, List.getElem?_eq_getElem hlt]
 exact Nat.le_of_not_lt this
theorem eqC_ck {b : Bool} : eqC (vInt .i64 (if b = true then 0 else 2)) (.v (.int .i64 0)) = b := by cases b <;> rfl
theorem okN_iv {n : CD} (h : okN n = true) : (n.iv = 3 ∧ enough n = 2) ∨ (n.iv = 5 ∧ enough n = 3) ∨ (n.iv = 7 ∧ enough n = 4) := by
 unfold okN at h
 simp only [Bool.or_eq_true] at h
 have k3 := fun (h : eqC n (i0 3) = true) => eqC_iv (k := .i64) h
 have k5 := fun (h : eqC n (i0 5) = true) => eqC_iv (k := .i64) h
 have k7 := fun (h : eqC n (i0 7) = true) => eqC_iv (k := .i64) h
 unfold enough
 by_cases h3 : eqC n (i0 3) = true
 ·exact .inl ⟨k3 h3, by rw [if_pos h3]⟩
 ·by_cases h5 : eqC n (i0 5) = true
  ·exact .inr (.inl ⟨k5 h5, by rw [if_neg h3, if_pos h5]⟩)
  ·have h7 : eqC n (i0 7) = true := by
    rcases h with (h | h) | h
    ·exact absurd h h3
    ·exact absurd h h5
    ·exact h
   exact .inr (.inr ⟨k7 h7, by rw [if_neg h3, if_neg h5, if_pos h7]⟩)
theorem en_a {n : CD} (h : okN n = true) : vInt .i64 (IntKind.i64.wrap ((orV (shfInt .shr .i64 n.iv 1)).iv + 1)) = vInt .i64 (enough n) := by
 rcases okN_iv h with ⟨h1, h2⟩ | ⟨h1, h2⟩ | ⟨h1, h2⟩ <;> (rw [h1, h2]; rfl)
theorem en_b {n : CD} (h : okN n = true) : vInt .i64 (IntKind.i64.wrap ((orV (binInt .quo .i64 n.iv 2)).iv + 1)) = vInt .i64 (enough n) := by
 rcases okN_iv h with ⟨h1, h2⟩ | ⟨h1, h2⟩ | ⟨h1, h2⟩ <;> (rw [h1, h2]; rfl)
theorem en_0 {n : CD} (h : ¬ okN n = true) : enough n = 0 := by
 unfold okN at h
 simp only [Bool.or_eq_true, not_or] at h
 unfold enough
 rw [if_neg h.1.1, if_neg h.1.2, if_neg h.2]
theorem us127 (a : CD) : @Us.u U 127 [a] = vBool (large a || decide (10 < a.len)) := rfl
theorem us128 (a b : CD) : @Us.u U 128 [a, b] = vBool ((a.rows.take b.iv.toNat).any fun v => decide (80 < (at' v 4).len)) := rfl
theorem us131 (a b c d e f : CD) : @Us.u U 131 [a, b, c, d, e, f] = vBool (eqC a d && eqC b e && allS eqH c.rows f.rows) := rfl
theorem us132 (a b c : CD) : @Us.u U 132 [a, b, c] = vBool (allS eqH (a.rows.take c.iv.toNat) (b.rows.take c.iv.toNat)) := rfl
theorem us140 (a : CD) : @Us.u U 140 [a] = vInt .i64 (lead a) := rfl
theorem us141 (a b : CD) : @Us.u U 141 [a, b] = vInt .i64 (maxI 1 (a.rows.take b.iv.toNat)) := rfl
theorem us142 (a : CD) : @Us.u U 142 [a] = vInt .i64 (commit a) := rfl
theorem us143 (a b : CD) : @Us.u U 143 [a, b] = vInt .i64 (maxI 3 (a.rows.take b.iv.toNat)) := rfl
theorem us144 (a : CD) : @Us.u U 144 [a] = vInt .i64 (top a) := rfl
theorem us145 (a b c : CD) : @Us.u U 145 [a, b, c] = vInt .i64 (maxI 2 (leadsR (a.rows.take b.iv.toNat) c.iv)) := rfl
theorem us146 (a b c d : CD) : ((@Us.u U 146 [a, b, c, d]).bv = true) = MapOK (fun op => viewL op (-1) (leadsR (a.rows.take b.iv.toNat) c.iv)) d.rows := @decide_eq_true_eq _ (Classical.propDecidable _)
theorem us147 (a b c d e : CD) : ((@Us.u U 147 [a, b, c, d, e]).bv = true) = MapOK (fun op => viewE op (viewL op (-1) (leadsR (a.rows.take b.iv.toNat) c.iv)) ((at' (row a b.iv.toNat) 4).rows.take e.iv.toNat)) d.rows := @decide_eq_true_eq _ (Classical.propDecidable _)
theorem us148 (a b : CD) : ((@Us.u U 148 [a, b]).bv = true) = MapOK (view a) b.rows := @decide_eq_true_eq _ (Classical.propDecidable _)
theorem us149 (a b : CD) : @Us.u U 149 [a, b] = vBool ((List.range b.iv.toNat).all fun k => decide ((k : Int) ≤ commit a) || okOp a k) := rfl
theorem us150 (a b : CD) : @Us.u U 150 [a, b] = vInt .i64 (errOf a b) := rfl
theorem us151 (a b : CD) : @Us.u U 151 [a, b] = vInt .i64 (if errOf a b = 0 then endOp a else 0) := rfl
theorem us152 (a b : CD) : @Us.u U 152 [a, b] = vInt .i64 (if errOf a b = 0 then commit a else 0) := rfl
theorem us153 (a b : CD) : @Us.u U 153 [a, b] = mkz (if errOf a b = 0 then heads a else []) := rfl
theorem us160 (a : CD) : @Us.u U 160 [a] = vBool (okA a) := rfl
theorem us162 (a b : CD) : @Us.u U 162 [a, b] = vBool (waitsE a b.iv) := rfl
theorem us163 (a : CD) : @Us.u U 163 [a] = vInt .i64 (endOp a) := rfl
theorem us170 (a b c d : CD) : ((@Us.u U 170 [a, b, c, d]).bv = true) = List.Perm c.rows (toldR b.rows a.rows d.iv) := @decide_eq_true_eq _ (Classical.propDecidable _)
theorem us171 (a b : CD) : ((@Us.u U 171 [a, b]).bv = true) = (List.Perm a.rows b.rows ∧ RowsUp a.rows) := @decide_eq_true_eq _ (Classical.propDecidable _)
theorem us172 (a b : CD) : @Us.u U 172 [a, b] = vInt .i64 (untold b.rows a.rows) := rfl
theorem us173 (a b : CD) : @Us.u U 173 [a, b] = vInt .i64 (cmpI a.iv b.iv) := rfl
theorem us186 (a b c : CD) : @Us.u U 186 [a, b, c] = vInt .i64 (((b.rows.take c.iv.toNat).filter (abv (commit a))).length : Nat) := rfl
theorem us187 (a b : CD) : ((@Us.u U 187 [a, b]).bv = true) = (List.Perm b.rows a.rows ∧ b.len = a.len) := @decide_eq_true_eq _ (Classical.propDecidable _)
theorem allS_snoc {f : List CD → List CD → Bool} {r q : List CD} : ∀ {l m : List (List CD)}, l.length = m.length → allS f (l ++ [r]) (m ++ [q]) = (allS f l m && f r q)
 | [], [], _ => by simp [allS]
 | x :: l, y :: m, h => by
  simp only [List.cons_append, allS]
  rw [allS_snoc (by simpa using h), Bool.and_assoc]
 | [], _ :: _, h => by simp at h
 | _ :: _, [], h => by simp at h
theorem allS_len {f : List CD → List CD → Bool} : ∀ {l m : List (List CD)}, allS f l m = true → l.length = m.length
 | [], [], _ => rfl
 | x :: l, y :: m, h => by
  simp only [allS, Bool.and_eq_true] at h
  simp [allS_len h.2]
 | [], _ :: _, h => by cases h
 | _ :: _, [], h => by cases h
theorem allS_get {f : List CD → List CD → Bool} : ∀ {l m : List (List CD)}, allS f l m = true → ∀ (i : Nat) (hi : i < l.length), f (l.getD i []) (m.getD i []) = true
 | [], [], _, i, hi => by simp at hi
 | x :: l, y :: m, h, 0, _ => by
  simp only [allS, Bool.and_eq_true] at h
  simpa using h.1
 | x :: l, y :: m, h, i + 1, hi => by
  simp only [allS, Bool.and_eq_true] at h
  simpa using allS_get h.2 i (by simpa using hi)
 | [], _ :: _, h, _, _ => by cases h
 | _ :: _, [], h, _, _ => by cases h
theorem stepS {ss ss' : List Srt} {f : List CD → List CD → Bool} {l m : CD} {i : Int} (hl : Typ (.sl ss) l) (hm : Typ (.sl ss') m) (he : l.len = m.len) (h0 : 0 ≤ i) (hi : i < l.len) :
  allS f (l.rows.take (i + 1).toNat) (m.rows.take (i + 1).toNat) = (allS f (l.rows.take i.toNat) (m.rows.take i.toNat) && f (row l i.toNat) (row m i.toNat)) := by
 have := hl.sl.1
 have := hm.sl.1
 rw [take_row h0 hi, take_row h0 (by omega), allS_snoc (by rw [List.length_take, List.length_take]; omega)]
theorem lenS {ss ss' : List Srt} {f : List CD → List CD → Bool} {l m : CD} (hl : Typ (.sl ss) l) (hm : Typ (.sl ss') m) (he : ¬ l.len = m.len) : allS f l.rows m.rows = false := by
 rw [Bool.eq_false_iff]
 intro h
 exact he (by have := allS_len h; have := hl.sl.1; have := hm.sl.1; omega)
theorem rowS {ss : List Srt} {f : List CD → List CD → Bool} {l m : CD} {i : Int} (hl : Typ (.sl ss) l) (h0 : 0 ≤ i) (hi : i < l.len) (hr : f (row l i.toNat) (row m i.toNat) = false) : allS f l.rows m.rows = false := by
 rw [Bool.eq_false_iff]
 intro h
 have := allS_get h i.toNat (by have := hl.sl.1; omega)
 unfold row at hr
 rw [hr] at this
 cases this
theorem eq_len {a b : Nat} : (eqC (vInt .i64 a) (vInt .i64 b) = true) = (a = b) := by
 show (decide ((a : Int) = b) = true) = _
 rw [decide_eq_true_eq, Int.natCast_inj]
theorem okLog_all {d : CD} {i : Int} (hT : Typ (.sl sEnt) d) (h : (List.range i.toNat).all (okE d) = true) (hi : ¬ i < d.len) (hle : i ≤ d.len) : okLog d = decide (d.len ≤ 64) := by
 have := hT.sl.1
 unfold okLog
 rw [show d.rows.length = i.toNat by omega, h, Bool.true_and]
theorem okLog_row {d : CD} {i : Int} (h0 : 0 ≤ i) (hi : i < d.len) (h : okE d i.toNat = false) : okLog d = false := by
 unfold okLog
 rw [Bool.and_eq_false_iff]
 left
 rw [Bool.eq_false_iff, Ne, List.all_eq_true]
 intro hh
 have hlt : i.toNat < d.rows.length := by rcases len_lt hi with h | h <;> omega
 have := hh _ (List.mem_range.2 hlt)
 rw [h] at this
 cases this
end Go.Proofs.Ytlbbkmcegbeckaa.Cn

set_option linter.unusedSectionVars false
set_option linter.unusedVariables false
set_option linter.unusedSimpArgs false
namespace Go.Proofs.Ytlbbkmcegbeckaa.Cn
open Go.Sx Go.Proofs
noncomputable def T0 : FuncId → Option Fsp := fun _ => none
theorem hT0 : ∀ f S, T0 f = some S → SpecOK U Try.prog f S := fun f S h => (by cases h)
noncomputable def Swith : Fsp := ⟨[(false, [sI]), (false, [sI]), (false, [sI])], [], [(false, [.bool])], [([], [[.ap .and [.ap .le [.var 1, .var 0], .ap .le [.var 0, .var 2]]]])], true⟩
abbrev r122_h0 : List X := [(.ap .le [mnX, (.var 0)]), (.ap .le [(.var 0), mxX]), (.ap .le [mnX, (.var 1)]), (.ap .le [(.var 1), mxX]), (.ap .le [mnX, (.var 2)]), (.ap .le [(.var 2), mxX])]
def r122_v : List VC := []
def r122_o : List (List X × List (List X)) := [(((.ap .le [(.var 1), (.var 0)]) :: r122_h0), [[(.ap .le [(.var 0), (.var 2)])]]),
 (((.ap .not [(.ap .le [(.var 1), (.var 0)])]) :: r122_h0), [[(.lit (.bool false))]])]
theorem r122_eq : runS Try.prog (specO T0) 10 4 ⟨hintL [], hintA []⟩ Try.f122 (bodyOf Try.f122) Swith = some (r122_v, r122_o) := by kernel_rfl
set_option maxHeartbeats 4000000 in
set_option maxRecDepth 100000 in
theorem c122 : SpecOK U Try.prog 122 Swith := by
 refine SpecOK.of (P := Try.prog) (U := U) (T := T0) (f := 122) (fn := Try.f122) (fuel := 10) (fk := 4) (hs := ⟨hintL [], hintA []⟩) (S := Swith) (v := r122_v) (outs := r122_o) mixed hT0 at122 r122_eq ?_ ?_
 ·unfold r122_v
  repeat' (first | exact vcs_nil _ | refine vcs_cons (fun v hh => ?_) ?_)
  all_goals
   simp only [w_var, w_lit, w_ivi, w_bvb, b_le, b_not, b_and, w_usr, w_l0, w_l1, w_vint, w_vbool, w_tru, w_holds0, w_holds1, w_rows, w_nilb, mnX, mxX, l1_inj, vBool_inj, vb_lit, r122_h0] at hh ⊢
   repeat (obtain ⟨_, hh⟩ := hh)
   try (first | grind [= w_vint])
 ·intro o ho σ hU hh
  obtain ⟨v⟩ := σ
  cases hU
  simp only [r122_o, List.mem_cons, List.not_mem_nil, or_false] at ho
  repeat' (first | (rcases ho with rfl | ho) | subst ho)
  all_goals
   refine ⟨_, List.mem_cons_self .., by simp only [w_var, w_lit, w_ivi, w_bvb, b_le, b_not, b_and, w_usr, w_l0, w_l1, w_vint, w_vbool, w_tru, w_holds0, w_holds1, w_rows, w_nilb], ?_⟩
   simp only [w_var, w_lit, w_ivi, w_bvb, b_le, b_not, b_and, w_usr, w_l0, w_l1, w_vint, w_vbool, w_tru, w_holds0, w_holds1, w_rows, w_nilb, mnX, mxX, l1_inj, vBool_inj, vb_lit, r122_h0] at hh
   simp only [List.map_cons, List.map_nil, w_var, w_lit, w_ivi, w_bvb, b_le, b_not, b_and, w_usr, w_l0, w_l1, w_vint, w_vbool, w_tru, w_holds0, w_holds1, w_rows, w_nilb, w_le, w_not, w_and, mnX, mxX, l1_inj, vBool_inj, vb_lit]
   repeat (obtain ⟨_, hh⟩ := hh)
   try (first | grind [= w_vint])
abbrev r125_h0 : List X := [(.ap .le [mnX, (.var 0)]), (.ap .le [(.var 0), mxX]), (.ap .le [mnX, (.var 1)]), (.ap .le [(.var 1), mxX]), (.ap .le [mnX, (.var 2)]), (.ap .le [(.var 2), mxX])]
def r125_v : List VC := []
def r125_o : List (List X × List (List X)) := [(((.ap .le [(.var 1), (.var 0)]) :: r125_h0), [[(.ap .le [(.var 0), (.var 2)])]]),
 (((.ap .not [(.ap .le [(.var 1), (.var 0)])]) :: r125_h0), [[(.lit (.bool false))]])]
theorem r125_eq : runS Try.prog (specO T0) 10 4 ⟨hintL [], hintA []⟩ Try.f125 (bodyOf Try.f125) Swith = some (r125_v, r125_o) := by kernel_rfl
set_option maxHeartbeats 4000000 in
set_option maxRecDepth 100000 in
theorem c125 : SpecOK U Try.prog 125 Swith := by
 refine SpecOK.of (P := Try.prog) (U := U) (T := T0) (f := 125) (fn := Try.f125) (fuel := 10) (fk := 4) (hs := ⟨hintL [], hintA []⟩) (S := Swith) (v := r125_v) (outs := r125_o) mixed hT0 at125 r125_eq ?_ ?_
 ·unfold r125_v
  repeat' (first | exact vcs_nil _ | refine vcs_cons (fun v hh => ?_) ?_)
  all_goals
   simp only [w_var, w_lit, w_ivi, w_bvb, b_le, b_not, b_and, w_usr, w_l0, w_l1, w_vint, w_vbool, w_tru, w_holds0, w_holds1, w_rows, w_nilb, mnX, mxX, l1_inj, vBool_inj, vb_lit, r125_h0] at hh ⊢
   repeat (obtain ⟨_, hh⟩ := hh)
   try (first | grind [= w_vint])
 ·intro o ho σ hU hh
  obtain ⟨v⟩ := σ
  cases hU
  simp only [r125_o, List.mem_cons, List.not_mem_nil, or_false] at ho
  repeat' (first | (rcases ho with rfl | ho) | subst ho)
  all_goals
   refine ⟨_, List.mem_cons_self .., by simp only [w_var, w_lit, w_ivi, w_bvb, b_le, b_not, b_and, w_usr, w_l0, w_l1, w_vint, w_vbool, w_tru, w_holds0, w_holds1, w_rows, w_nilb], ?_⟩
   simp only [w_var, w_lit, w_ivi, w_bvb, b_le, b_not, b_and, w_usr, w_l0, w_l1, w_vint, w_vbool, w_tru, w_holds0, w_holds1, w_rows, w_nilb, mnX, mxX, l1_inj, vBool_inj, vb_lit, r125_h0] at hh
   simp only [List.map_cons, List.map_nil, w_var, w_lit, w_ivi, w_bvb, b_le, b_not, b_and, w_usr, w_l0, w_l1, w_vint, w_vbool, w_tru, w_holds0, w_holds1, w_rows, w_nilb, w_le, w_not, w_and, mnX, mxX, l1_inj, vBool_inj, vb_lit]
   repeat (obtain ⟨_, hh⟩ := hh)
   try (first | grind [= w_vint])
abbrev r159_h0 : List X := [(.ap .le [mnX, (.var 0)]), (.ap .le [(.var 0), mxX]), (.ap .le [mnX, (.var 1)]), (.ap .le [(.var 1), mxX]), (.ap .le [mnX, (.var 2)]), (.ap .le [(.var 2), mxX])]
def r159_v : List VC := []
def r159_o : List (List X × List (List X)) := [(((.ap .le [(.var 1), (.var 0)]) :: r159_h0), [[(.ap .le [(.var 0), (.var 2)])]]),
 (((.ap .not [(.ap .le [(.var 1), (.var 0)])]) :: r159_h0), [[(.lit (.bool false))]])]
theorem r159_eq : runS Try.prog (specO T0) 10 4 ⟨hintL [], hintA []⟩ Try.f159 (bodyOf Try.f159) Swith = some (r159_v, r159_o) := by kernel_rfl
set_option maxHeartbeats 4000000 in
set_option maxRecDepth 100000 in
theorem c159 : SpecOK U Try.prog 159 Swith := by
 refine SpecOK.of (P := Try.prog) (U := U) (T := T0) (f := 159) (fn := Try.f159) (fuel := 10) (fk := 4) (hs := ⟨hintL [], hintA []⟩) (S := Swith) (v := r159_v) (outs := r159_o) mixed hT0 at159 r159_eq ?_ ?_
 ·unfold r159_v
  repeat' (first | exact vcs_nil _ | refine vcs_cons (fun v hh => ?_) ?_)
  all_goals
   simp only [w_var, w_lit, w_ivi, w_bvb, b_le, b_not, b_and, w_usr, w_l0, w_l1, w_vint, w_vbool, w_tru, w_holds0, w_holds1, w_rows, w_nilb, mnX, mxX, l1_inj, vBool_inj, vb_lit, r159_h0] at hh ⊢
   repeat (obtain ⟨_, hh⟩ := hh)
   try (first | grind [= w_vint])
 ·intro o ho σ hU hh
  obtain ⟨v⟩ := σ
  cases hU
  simp only [r159_o, List.mem_cons, List.not_mem_nil, or_false] at ho
  repeat' (first | (rcases ho with rfl | ho) | subst ho)
  all_goals
   refine ⟨_, List.mem_cons_self .., by simp only [w_var, w_lit, w_ivi, w_bvb, b_le, b_not, b_and, w_usr, w_l0, w_l1, w_vint, w_vbool, w_tru, w_holds0, w_holds1, w_rows, w_nilb], ?_⟩
   simp only [w_var, w_lit, w_ivi, w_bvb, b_le, b_not, b_and, w_usr, w_l0, w_l1, w_vint, w_vbool, w_tru, w_holds0, w_holds1, w_rows, w_nilb, mnX, mxX, l1_inj, vBool_inj, vb_lit, r159_h0] at hh
   simp only [List.map_cons, List.map_nil, w_var, w_lit, w_ivi, w_bvb, b_le, b_not, b_and, w_usr, w_l0, w_l1, w_vint, w_vbool, w_tru, w_holds0, w_holds1, w_rows, w_nilb, w_le, w_not, w_and, mnX, mxX, l1_inj, vBool_inj, vb_lit]
   repeat (obtain ⟨_, hh⟩ := hh)
   try (first | grind [= w_vint])
abbrev r160_h0 : List X := [(.ap .le [mnX, (.var 0)]), (.ap .le [(.var 0), mxX]), (.ap .le [mnX, (.var 1)]), (.ap .le [(.var 1), mxX]), (.ap .le [mnX, (.var 2)]), (.ap .le [(.var 2), mxX])]
def r160_v : List VC := []
def r160_o : List (List X × List (List X)) := [(((.ap .le [(.var 1), (.var 0)]) :: r160_h0), [[(.ap .le [(.var 0), (.var 2)])]]),
 (((.ap .not [(.ap .le [(.var 1), (.var 0)])]) :: r160_h0), [[(.lit (.bool false))]])]
theorem r160_eq : runS Try.prog (specO T0) 10 4 ⟨hintL [], hintA []⟩ Try.f160 (bodyOf Try.f160) Swith = some (r160_v, r160_o) := by kernel_rfl
set_option maxHeartbeats 4000000 in
set_option maxRecDepth 100000 in
theorem c160 : SpecOK U Try.prog 160 Swith := by
 refine SpecOK.of (P := Try.prog) (U := U) (T := T0) (f := 160) (fn := Try.f160) (fuel := 10) (fk := 4) (hs := ⟨hintL [], hintA []⟩) (S := Swith) (v := r160_v) (outs := r160_o) mixed hT0 at160 r160_eq ?_ ?_
 ·unfold r160_v
  repeat' (first | exact vcs_nil _ | refine vcs_cons (fun v hh => ?_) ?_)
  all_goals
   simp only [w_var, w_lit, w_ivi, w_bvb, b_le, b_not, b_and, w_usr, w_l0, w_l1, w_vint, w_vbool, w_tru, w_holds0, w_holds1, w_rows, w_nilb, mnX, mxX, l1_inj, vBool_inj, vb_lit, r160_h0] at hh ⊢
   repeat (obtain ⟨_, hh⟩ := hh)
   try (first | grind [= w_vint])
 ·intro o ho σ hU hh
  obtain ⟨v⟩ := σ
  cases hU
  simp only [r160_o, List.mem_cons, List.not_mem_nil, or_false] at ho
  repeat' (first | (rcases ho with rfl | ho) | subst ho)
  all_goals
   refine ⟨_, List.mem_cons_self .., by simp only [w_var, w_lit, w_ivi, w_bvb, b_le, b_not, b_and, w_usr, w_l0, w_l1, w_vint, w_vbool, w_tru, w_holds0, w_holds1, w_rows, w_nilb], ?_⟩
   simp only [w_var, w_lit, w_ivi, w_bvb, b_le, b_not, b_and, w_usr, w_l0, w_l1, w_vint, w_vbool, w_tru, w_holds0, w_holds1, w_rows, w_nilb, mnX, mxX, l1_inj, vBool_inj, vb_lit, r160_h0] at hh
   simp only [List.map_cons, List.map_nil, w_var, w_lit, w_ivi, w_bvb, b_le, b_not, b_and, w_usr, w_l0, w_l1, w_vint, w_vbool, w_tru, w_holds0, w_holds1, w_rows, w_nilb, w_le, w_not, w_and, mnX, mxX, l1_inj, vBool_inj, vb_lit]
   repeat (obtain ⟨_, hh⟩ := hh)
   try (first | grind [= w_vint])
noncomputable def T1 : List (FuncId × Fsp) := [(122, Swith), (125, Swith), (159, Swith), (160, Swith)]
set_option maxRecDepth 100000 in
theorem hT1 : TabOK U Try.prog T1 := .cons c122 (.cons c125 (.cons c159 (.cons c160 .nil)))
noncomputable def lpLog (a b : Nat) (ks : List Nat) : Lp := ⟨[(.slot a, .int .i64), (.slot b, .int .i64)], ks, [0], fun F H k => [.ap .le [zI, .var (k+1)], .ap .le [.var (k+1), .ap .len [.var 0]], .ap (.usr 101) [.var 0, .var (k+1)], .ap .le [zI, .var k], .ap .le [.var k, I 1073741824], .ap .le [.var k, .ap (.usr 102) [.var 0, .var (k+1)]], .ap .le [.ap (.usr 102) [.var 0, .var (k+1)], .var k]], fun F H k => .ap (.sub .i64) [.ap .len [.var 0], .var (k+1)]⟩
noncomputable def Slog : Fsp := ⟨[(false, [.sl sEnt])], [], [(false, [.bool])], [([], [[.ap (.usr 100) [.var 0]]])], true⟩
abbrev r148_h0 : List X := [(.ap .le [(I 0), (.var 2)]), (.ap .le [(.var 2), (.ap .len [(.var 0)])]), (.ap (.usr 101) [(.var 0), (.var 2)]), (.ap .le [(I 0), (.var 1)]), (.ap .le [(.var 1), (I 1073741824)]), (.ap .le [(.var 1), (.ap (.usr 102) [(.var 0), (.var 2)])]), (.ap .le [(.ap (.usr 102) [(.var 0), (.var 2)]), (.var 1)]), (.ap (.typ (.sl sEnt)) [(.var 0)])]
abbrev r148_h1 : List X := (.ap .and [(.ap .le [(I 0), (.ap (.cell 1) [(.var 0), (.var 2)])]), (.ap .le [(.ap (.cell 1) [(.var 0), (.var 2)]), (I 1073741824)])]) :: (.ap .and [(.ap .le [(.ap (.add .i64) [(.var 1), (I 1)]), (.ap (.cell 0) [(.var 0), (.var 2)])]), (.ap .le [(.ap (.cell 0) [(.var 0), (.var 2)]), (I 1073741824)])]) :: (.ap .lt [(.var 2), (.ap .len [(.var 0)])]) :: r148_h0
def r148_v : List VC := [([(.ap (.typ (.sl sEnt)) [(.var 0)])], (.ap (.usr 101) [(.var 0), (I 0)])),
 ([(.ap (.typ (.sl sEnt)) [(.var 0)])], (.ap .le [(I 0), (.ap (.usr 102) [(.var 0), (I 0)])])),
 ([(.ap (.typ (.sl sEnt)) [(.var 0)])], (.ap .le [(.ap (.usr 102) [(.var 0), (I 0)]), (I 0)])),
 (((.ap .eq [(.ap (.cell 1) [(.var 0), (.var 2)]), (I 0)]) :: (.ap .eq [(.ap (.cell 2) [(.var 0), (.var 2)]), (I 3)]) :: (.ap .and [(.ap .le [(I 1), (.ap (.cell 2) [(.var 0), (.var 2)])]), (.ap .le [(.ap (.cell 2) [(.var 0), (.var 2)]), (I 4)])]) :: r148_h1), (.ap (.usr 101) [(.var 0), (.ap (.add .i64) [(.var 2), (I 1)])])),
 (((.ap .eq [(.ap (.cell 1) [(.var 0), (.var 2)]), (I 0)]) :: (.ap .eq [(.ap (.cell 2) [(.var 0), (.var 2)]), (I 3)]) :: (.ap .and [(.ap .le [(I 1), (.ap (.cell 2) [(.var 0), (.var 2)])]), (.ap .le [(.ap (.cell 2) [(.var 0), (.var 2)]), (I 4)])]) :: r148_h1), (.ap .le [(.ap (.cell 0) [(.var 0), (.var 2)]), (.ap (.usr 102) [(.var 0), (.ap (.add .i64) [(.var 2), (I 1)])])])),
 (((.ap .eq [(.ap (.cell 1) [(.var 0), (.var 2)]), (I 0)]) :: (.ap .eq [(.ap (.cell 2) [(.var 0), (.var 2)]), (I 3)]) :: (.ap .and [(.ap .le [(I 1), (.ap (.cell 2) [(.var 0), (.var 2)])]), (.ap .le [(.ap (.cell 2) [(.var 0), (.var 2)]), (I 4)])]) :: r148_h1), (.ap .le [(.ap (.usr 102) [(.var 0), (.ap (.add .i64) [(.var 2), (I 1)])]), (.ap (.cell 0) [(.var 0), (.var 2)])])),
 (((.ap .not [(.ap .eq [(.ap (.cell 2) [(.var 0), (.var 2)]), (I 3)])]) :: (.ap .and [(.ap .le [(I 1), (.ap (.cell 2) [(.var 0), (.var 2)])]), (.ap .le [(.ap (.cell 2) [(.var 0), (.var 2)]), (I 4)])]) :: r148_h1), (.ap (.usr 101) [(.var 0), (.ap (.add .i64) [(.var 2), (I 1)])])),
 (((.ap .not [(.ap .eq [(.ap (.cell 2) [(.var 0), (.var 2)]), (I 3)])]) :: (.ap .and [(.ap .le [(I 1), (.ap (.cell 2) [(.var 0), (.var 2)])]), (.ap .le [(.ap (.cell 2) [(.var 0), (.var 2)]), (I 4)])]) :: r148_h1), (.ap .le [(.ap (.cell 0) [(.var 0), (.var 2)]), (.ap (.usr 102) [(.var 0), (.ap (.add .i64) [(.var 2), (I 1)])])])),
 (((.ap .not [(.ap .eq [(.ap (.cell 2) [(.var 0), (.var 2)]), (I 3)])]) :: (.ap .and [(.ap .le [(I 1), (.ap (.cell 2) [(.var 0), (.var 2)])]), (.ap .le [(.ap (.cell 2) [(.var 0), (.var 2)]), (I 4)])]) :: r148_h1), (.ap .le [(.ap (.usr 102) [(.var 0), (.ap (.add .i64) [(.var 2), (I 1)])]), (.ap (.cell 0) [(.var 0), (.var 2)])]))]
def r148_o : List (List X × List (List X)) := [(((.ap .not [(.ap .and [(.ap .le [(.ap (.add .i64) [(.var 1), (I 1)]), (.ap (.cell 0) [(.var 0), (.var 2)])]), (.ap .le [(.ap (.cell 0) [(.var 0), (.var 2)]), (I 1073741824)])])]) :: (.ap .lt [(.var 2), (.ap .len [(.var 0)])]) :: r148_h0), [[(.lit (.bool false))]]),
 (((.ap .not [(.ap .and [(.ap .le [(I 0), (.ap (.cell 1) [(.var 0), (.var 2)])]), (.ap .le [(.ap (.cell 1) [(.var 0), (.var 2)]), (I 1073741824)])])]) :: (.ap .and [(.ap .le [(.ap (.add .i64) [(.var 1), (I 1)]), (.ap (.cell 0) [(.var 0), (.var 2)])]), (.ap .le [(.ap (.cell 0) [(.var 0), (.var 2)]), (I 1073741824)])]) :: (.ap .lt [(.var 2), (.ap .len [(.var 0)])]) :: r148_h0), [[(.lit (.bool false))]]),
 (((.ap .not [(.ap .and [(.ap .le [(I 1), (.ap (.cell 2) [(.var 0), (.var 2)])]), (.ap .le [(.ap (.cell 2) [(.var 0), (.var 2)]), (I 4)])])]) :: r148_h1), [[(.lit (.bool false))]]),
 (((.ap .not [(.ap .eq [(.ap (.cell 1) [(.var 0), (.var 2)]), (I 0)])]) :: (.ap .eq [(.ap (.cell 2) [(.var 0), (.var 2)]), (I 3)]) :: (.ap .and [(.ap .le [(I 1), (.ap (.cell 2) [(.var 0), (.var 2)])]), (.ap .le [(.ap (.cell 2) [(.var 0), (.var 2)]), (I 4)])]) :: r148_h1), [[(.lit (.bool false))]]),
 (((.ap .not [(.ap .lt [(.var 2), (.ap .len [(.var 0)])])]) :: r148_h0), [[(.ap .le [(.ap .len [(.var 0)]), (I 64)])]])]
theorem r148_eq : runS Try.prog (specO (tab T1)) 10 6 ⟨hintL [(3, lpLog 3 8 [0, 6, 7])], hintA []⟩ Try.f148 (bodyOf Try.f148) Slog = some (r148_v, r148_o) := by kernel_rfl
set_option maxHeartbeats 4000000 in
set_option maxRecDepth 100000 in
theorem c148 : SpecOK U Try.prog 148 Slog := by
 refine SpecOK.of (P := Try.prog) (U := U) (T := (tab T1)) (f := 148) (fn := Try.f148) (fuel := 10) (fk := 6) (hs := ⟨hintL [(3, lpLog 3 8 [0, 6, 7])], hintA []⟩) (S := Slog) (v := r148_v) (outs := r148_o) mixed hT1 at148 r148_eq ?_ ?_
 ·unfold r148_v
  repeat' (first | exact vcs_nil _ | refine vcs_cons (fun v hh => ?_) ?_)
  all_goals
   simp only [w_var, w_lit, w_ivi, w_bvb, w_add, b_lt, b_le, b_eq, b_not, b_and, b_typ, w_len, w_cell, w_usr, w_l0, w_l1, w_vint, w_vbool, w_tru, w_holds0, w_holds1, w_rows, w_nilb, us100, us101, us102, mnX, mxX, cell_at, l1_inj, vBool_inj, vb_lit, r148_h0, r148_h1] at hh ⊢
   repeat (obtain ⟨_, hh⟩ := hh)
   try (first | grind [range_all_succ, okE, prevOp, okLog_all, okLog_row, = w_vint])
 ·intro o ho σ hU hh
  obtain ⟨v⟩ := σ
  cases hU
  simp only [r148_o, List.mem_cons, List.not_mem_nil, or_false] at ho
  repeat' (first | (rcases ho with rfl | ho) | subst ho)
  all_goals
   refine ⟨_, List.mem_cons_self .., by simp only [w_var, w_lit, w_ivi, w_bvb, w_add, b_lt, b_le, b_eq, b_not, b_and, b_typ, w_len, w_cell, w_usr, w_l0, w_l1, w_vint, w_vbool, w_tru, w_holds0, w_holds1, w_rows, w_nilb], ?_⟩
   simp only [w_var, w_lit, w_ivi, w_bvb, w_add, b_lt, b_le, b_eq, b_not, b_and, b_typ, w_len, w_cell, w_usr, w_l0, w_l1, w_vint, w_vbool, w_tru, w_holds0, w_holds1, w_rows, w_nilb, us100, us101, us102, mnX, mxX, cell_at, l1_inj, vBool_inj, vb_lit, r148_h0, r148_h1] at hh
   simp only [List.map_cons, List.map_nil, w_var, w_lit, w_ivi, w_bvb, w_add, b_lt, b_le, b_eq, b_not, b_and, b_typ, w_len, w_cell, w_usr, w_l0, w_l1, w_vint, w_vbool, w_tru, w_holds0, w_holds1, w_rows, w_nilb, w_lt, w_le, w_eq, w_not, w_and, w_typ, us100, us101, us102, mnX, mxX, cell_at, l1_inj, vBool_inj, vb_lit]
   repeat (obtain ⟨_, hh⟩ := hh)
   try (first | grind [range_all_succ, okE, prevOp, okLog_all, okLog_row, = w_vint])
abbrev r149_h0 : List X := [(.ap .le [(I 0), (.var 2)]), (.ap .le [(.var 2), (.ap .len [(.var 0)])]), (.ap (.usr 101) [(.var 0), (.var 2)]), (.ap .le [(I 0), (.var 1)]), (.ap .le [(.var 1), (I 1073741824)]), (.ap .le [(.var 1), (.ap (.usr 102) [(.var 0), (.var 2)])]), (.ap .le [(.ap (.usr 102) [(.var 0), (.var 2)]), (.var 1)]), (.ap (.typ (.sl sEnt)) [(.var 0)])]
abbrev r149_h1 : List X := (.ap .and [(.ap .le [(I 0), (.ap (.cell 1) [(.var 0), (.var 2)])]), (.ap .le [(.ap (.cell 1) [(.var 0), (.var 2)]), (I 1073741824)])]) :: (.ap .and [(.ap .le [(.ap (.add .i64) [(.var 1), (I 1)]), (.ap (.cell 0) [(.var 0), (.var 2)])]), (.ap .le [(.ap (.cell 0) [(.var 0), (.var 2)]), (I 1073741824)])]) :: (.ap .lt [(.var 2), (.ap .len [(.var 0)])]) :: r149_h0
def r149_v : List VC := [([(.ap (.typ (.sl sEnt)) [(.var 0)])], (.ap (.usr 101) [(.var 0), (I 0)])),
 ([(.ap (.typ (.sl sEnt)) [(.var 0)])], (.ap .le [(I 0), (.ap (.usr 102) [(.var 0), (I 0)])])),
 ([(.ap (.typ (.sl sEnt)) [(.var 0)])], (.ap .le [(.ap (.usr 102) [(.var 0), (I 0)]), (I 0)])),
 (((.ap .eq [(.ap (.cell 1) [(.var 0), (.var 2)]), (I 0)]) :: (.ap .eq [(.ap (.cell 2) [(.var 0), (.var 2)]), (I 3)]) :: (.ap .and [(.ap .le [(I 1), (.ap (.cell 2) [(.var 0), (.var 2)])]), (.ap .le [(.ap (.cell 2) [(.var 0), (.var 2)]), (I 4)])]) :: r149_h1), (.ap (.usr 101) [(.var 0), (.ap (.add .i64) [(.var 2), (I 1)])])),
 (((.ap .eq [(.ap (.cell 1) [(.var 0), (.var 2)]), (I 0)]) :: (.ap .eq [(.ap (.cell 2) [(.var 0), (.var 2)]), (I 3)]) :: (.ap .and [(.ap .le [(I 1), (.ap (.cell 2) [(.var 0), (.var 2)])]), (.ap .le [(.ap (.cell 2) [(.var 0), (.var 2)]), (I 4)])]) :: r149_h1), (.ap .le [(.ap (.cell 0) [(.var 0), (.var 2)]), (.ap (.usr 102) [(.var 0), (.ap (.add .i64) [(.var 2), (I 1)])])])),
 (((.ap .eq [(.ap (.cell 1) [(.var 0), (.var 2)]), (I 0)]) :: (.ap .eq [(.ap (.cell 2) [(.var 0), (.var 2)]), (I 3)]) :: (.ap .and [(.ap .le [(I 1), (.ap (.cell 2) [(.var 0), (.var 2)])]), (.ap .le [(.ap (.cell 2) [(.var 0), (.var 2)]), (I 4)])]) :: r149_h1), (.ap .le [(.ap (.usr 102) [(.var 0), (.ap (.add .i64) [(.var 2), (I 1)])]), (.ap (.cell 0) [(.var 0), (.var 2)])])),
 (((.ap .not [(.ap .eq [(.ap (.cell 2) [(.var 0), (.var 2)]), (I 3)])]) :: (.ap .and [(.ap .le [(I 1), (.ap (.cell 2) [(.var 0), (.var 2)])]), (.ap .le [(.ap (.cell 2) [(.var 0), (.var 2)]), (I 4)])]) :: r149_h1), (.ap (.usr 101) [(.var 0), (.ap (.add .i64) [(.var 2), (I 1)])])),
 (((.ap .not [(.ap .eq [(.ap (.cell 2) [(.var 0), (.var 2)]), (I 3)])]) :: (.ap .and [(.ap .le [(I 1), (.ap (.cell 2) [(.var 0), (.var 2)])]), (.ap .le [(.ap (.cell 2) [(.var 0), (.var 2)]), (I 4)])]) :: r149_h1), (.ap .le [(.ap (.cell 0) [(.var 0), (.var 2)]), (.ap (.usr 102) [(.var 0), (.ap (.add .i64) [(.var 2), (I 1)])])])),
 (((.ap .not [(.ap .eq [(.ap (.cell 2) [(.var 0), (.var 2)]), (I 3)])]) :: (.ap .and [(.ap .le [(I 1), (.ap (.cell 2) [(.var 0), (.var 2)])]), (.ap .le [(.ap (.cell 2) [(.var 0), (.var 2)]), (I 4)])]) :: r149_h1), (.ap .le [(.ap (.usr 102) [(.var 0), (.ap (.add .i64) [(.var 2), (I 1)])]), (.ap (.cell 0) [(.var 0), (.var 2)])]))]
def r149_o : List (List X × List (List X)) := [(((.ap .not [(.ap .and [(.ap .le [(.ap (.add .i64) [(.var 1), (I 1)]), (.ap (.cell 0) [(.var 0), (.var 2)])]), (.ap .le [(.ap (.cell 0) [(.var 0), (.var 2)]), (I 1073741824)])])]) :: (.ap .lt [(.var 2), (.ap .len [(.var 0)])]) :: r149_h0), [[(.lit (.bool false))]]),
 (((.ap .not [(.ap .and [(.ap .le [(I 0), (.ap (.cell 1) [(.var 0), (.var 2)])]), (.ap .le [(.ap (.cell 1) [(.var 0), (.var 2)]), (I 1073741824)])])]) :: (.ap .and [(.ap .le [(.ap (.add .i64) [(.var 1), (I 1)]), (.ap (.cell 0) [(.var 0), (.var 2)])]), (.ap .le [(.ap (.cell 0) [(.var 0), (.var 2)]), (I 1073741824)])]) :: (.ap .lt [(.var 2), (.ap .len [(.var 0)])]) :: r149_h0), [[(.lit (.bool false))]]),
 (((.ap .not [(.ap .and [(.ap .le [(I 1), (.ap (.cell 2) [(.var 0), (.var 2)])]), (.ap .le [(.ap (.cell 2) [(.var 0), (.var 2)]), (I 4)])])]) :: r149_h1), [[(.lit (.bool false))]]),
 (((.ap .not [(.ap .eq [(.ap (.cell 1) [(.var 0), (.var 2)]), (I 0)])]) :: (.ap .eq [(.ap (.cell 2) [(.var 0), (.var 2)]), (I 3)]) :: (.ap .and [(.ap .le [(I 1), (.ap (.cell 2) [(.var 0), (.var 2)])]), (.ap .le [(.ap (.cell 2) [(.var 0), (.var 2)]), (I 4)])]) :: r149_h1), [[(.lit (.bool false))]]),
 (((.ap .not [(.ap .lt [(.var 2), (.ap .len [(.var 0)])])]) :: r149_h0), [[(.ap .le [(.ap .len [(.var 0)]), (I 64)])]])]
theorem r149_eq : runS Try.prog (specO (tab T1)) 10 6 ⟨hintL [(3, lpLog 3 4 [0])], hintA []⟩ Try.f149 (bodyOf Try.f149) Slog = some (r149_v, r149_o) := by kernel_rfl
set_option maxHeartbeats 4000000 in
set_option maxRecDepth 100000 in
theorem c149 : SpecOK U Try.prog 149 Slog := by
 refine SpecOK.of (P := Try.prog) (U := U) (T := (tab T1)) (f := 149) (fn := Try.f149) (fuel := 10) (fk := 6) (hs := ⟨hintL [(3, lpLog 3 4 [0])], hintA []⟩) (S := Slog) (v := r149_v) (outs := r149_o) mixed hT1 at149 r149_eq ?_ ?_
 ·unfold r149_v
  repeat' (first | exact vcs_nil _ | refine vcs_cons (fun v hh => ?_) ?_)
  all_goals
   simp only [w_var, w_lit, w_ivi, w_bvb, w_add, b_lt, b_le, b_eq, b_not, b_and, b_typ, w_len, w_cell, w_usr, w_l0, w_l1, w_vint, w_vbool, w_tru, w_holds0, w_holds1, w_rows, w_nilb, us100, us101, us102, mnX, mxX, cell_at, l1_inj, vBool_inj, vb_lit, r149_h0, r149_h1] at hh ⊢
   repeat (obtain ⟨_, hh⟩ := hh)
   try (first | grind [range_all_succ, okE, prevOp, okLog_all, okLog_row, = w_vint])
 ·intro o ho σ hU hh
  obtain ⟨v⟩ := σ
  cases hU
  simp only [r149_o, List.mem_cons, List.not_mem_nil, or_false] at ho
  repeat' (first | (rcases ho with rfl | ho) | subst ho)
  all_goals
   refine ⟨_, List.mem_cons_self .., by simp only [w_var, w_lit, w_ivi, w_bvb, w_add, b_lt, b_le, b_eq, b_not, b_and, b_typ, w_len, w_cell, w_usr, w_l0, w_l1, w_vint, w_vbool, w_tru, w_holds0, w_holds1, w_rows, w_nilb], ?_⟩
   simp only [w_var, w_lit, w_ivi, w_bvb, w_add, b_lt, b_le, b_eq, b_not, b_and, b_typ, w_len, w_cell, w_usr, w_l0, w_l1, w_vint, w_vbool, w_tru, w_holds0, w_holds1, w_rows, w_nilb, us100, us101, us102, mnX, mxX, cell_at, l1_inj, vBool_inj, vb_lit, r149_h0, r149_h1] at hh
   simp only [List.map_cons, List.map_nil, w_var, w_lit, w_ivi, w_bvb, w_add, b_lt, b_le, b_eq, b_not, b_and, b_typ, w_len, w_cell, w_usr, w_l0, w_l1, w_vint, w_vbool, w_tru, w_holds0, w_holds1, w_rows, w_nilb, w_lt, w_le, w_eq, w_not, w_and, w_typ, us100, us101, us102, mnX, mxX, cell_at, l1_inj, vBool_inj, vb_lit]
   repeat (obtain ⟨_, hh⟩ := hh)
   try (first | grind [range_all_succ, okE, prevOp, okLog_all, okLog_row, = w_vint])
noncomputable def Sck : Fsp := ⟨[(false, [sI])], [], [(false, [sI])], [([], [[.ap (.usr 111) [.var 0]]])], true⟩
abbrev r81_h0 : List X := [(.ap .not [(.ap .eq [(.var 0), (I 3)])]), (.ap .le [mnX, (.var 0)]), (.ap .le [(.var 0), mxX])]
def r81_v : List VC := []
def r81_o : List (List X × List (List X)) := [([(.ap .eq [(.var 0), (I 3)]), (.ap .le [mnX, (.var 0)]), (.ap .le [(.var 0), mxX])], [[(I 0)]]),
 (((.ap .eq [(.var 0), (I 5)]) :: r81_h0), [[(I 0)]]),
 (((.ap .eq [(.var 0), (I 7)]) :: (.ap .not [(.ap .eq [(.var 0), (I 5)])]) :: r81_h0), [[(I 0)]]),
 (((.ap .not [(.ap .eq [(.var 0), (I 7)])]) :: (.ap .not [(.ap .eq [(.var 0), (I 5)])]) :: r81_h0), [[(I 2)]])]
theorem r81_eq : runS Try.prog (specO T0) 10 6 ⟨hintL [], hintA []⟩ Try.f81 (bodyOf Try.f81) Sck = some (r81_v, r81_o) := by kernel_rfl
set_option maxHeartbeats 4000000 in
set_option maxRecDepth 100000 in
theorem c81 : SpecOK U Try.prog 81 Sck := by
 refine SpecOK.of (P := Try.prog) (U := U) (T := T0) (f := 81) (fn := Try.f81) (fuel := 10) (fk := 6) (hs := ⟨hintL [], hintA []⟩) (S := Sck) (v := r81_v) (outs := r81_o) mixed hT0 at81 r81_eq ?_ ?_
 ·unfold r81_v
  repeat' (first | exact vcs_nil _ | refine vcs_cons (fun v hh => ?_) ?_)
  all_goals
   simp only [w_var, w_lit, w_ivi, w_bvb, b_le, b_eq, b_not, w_usr, w_l0, w_l1, w_vint, w_vbool, w_tru, w_holds0, w_holds1, w_rows, w_nilb, us111, mnX, mxX, l1_inj, vInt_inj, r81_h0] at hh ⊢
   repeat (obtain ⟨_, hh⟩ := hh)
   try (first | grind [okN, = vi_lit, = w_vint])
 ·intro o ho σ hU hh
  obtain ⟨v⟩ := σ
  cases hU
  simp only [r81_o, List.mem_cons, List.not_mem_nil, or_false] at ho
  repeat' (first | (rcases ho with rfl | ho) | subst ho)
  all_goals
   refine ⟨_, List.mem_cons_self .., by simp only [w_var, w_lit, w_ivi, w_bvb, b_le, b_eq, b_not, w_usr, w_l0, w_l1, w_vint, w_vbool, w_tru, w_holds0, w_holds1, w_rows, w_nilb], ?_⟩
   simp only [w_var, w_lit, w_ivi, w_bvb, b_le, b_eq, b_not, w_usr, w_l0, w_l1, w_vint, w_vbool, w_tru, w_holds0, w_holds1, w_rows, w_nilb, us111, mnX, mxX, l1_inj, vInt_inj, r81_h0] at hh
   simp only [List.map_cons, List.map_nil, w_var, w_lit, w_ivi, w_bvb, b_le, b_eq, b_not, w_usr, w_l0, w_l1, w_vint, w_vbool, w_tru, w_holds0, w_holds1, w_rows, w_nilb, w_le, w_eq, w_not, us111, mnX, mxX, l1_inj, vInt_inj]
   repeat (obtain ⟨_, hh⟩ := hh)
   try (first | grind [okN, = vi_lit, = w_vint])
abbrev r85_h0 : List X := [(.ap .not [(.ap .eq [(.var 0), (I 3)])]), (.ap .le [mnX, (.var 0)]), (.ap .le [(.var 0), mxX])]
def r85_v : List VC := []
def r85_o : List (List X × List (List X)) := [(((.ap .not [(.ap .eq [(.var 0), (I 7)])]) :: (.ap .not [(.ap .eq [(.var 0), (I 5)])]) :: r85_h0), [[(I 2)]]),
 (((.ap .eq [(.var 0), (I 7)]) :: (.ap .not [(.ap .eq [(.var 0), (I 5)])]) :: r85_h0), [[(I 0)]]),
 (((.ap .eq [(.var 0), (I 5)]) :: r85_h0), [[(I 0)]]),
 ([(.ap .eq [(.var 0), (I 3)]), (.ap .le [mnX, (.var 0)]), (.ap .le [(.var 0), mxX])], [[(I 0)]])]
theorem r85_eq : runS Try.prog (specO T0) 10 6 ⟨hintL [], hintA []⟩ Try.f85 (bodyOf Try.f85) Sck = some (r85_v, r85_o) := by kernel_rfl
set_option maxHeartbeats 4000000 in
set_option maxRecDepth 100000 in
theorem c85 : SpecOK U Try.prog 85 Sck := by
 refine SpecOK.of (P := Try.prog) (U := U) (T := T0) (f := 85) (fn := Try.f85) (fuel := 10) (fk := 6) (hs := ⟨hintL [], hintA []⟩) (S := Sck) (v := r85_v) (outs := r85_o) mixed hT0 at85 r85_eq ?_ ?_
 ·unfold r85_v
  repeat' (first | exact vcs_nil _ | refine vcs_cons (fun v hh => ?_) ?_)
  all_goals
   simp only [w_var, w_lit, w_ivi, w_bvb, b_le, b_eq, b_not, w_usr, w_l0, w_l1, w_vint, w_vbool, w_tru, w_holds0, w_holds1, w_rows, w_nilb, us111, mnX, mxX, l1_inj, vInt_inj, r85_h0] at hh ⊢
   repeat (obtain ⟨_, hh⟩ := hh)
   try (first | grind [okN, = vi_lit, = w_vint])
 ·intro o ho σ hU hh
  obtain ⟨v⟩ := σ
  cases hU
  simp only [r85_o, List.mem_cons, List.not_mem_nil, or_false] at ho
  repeat' (first | (rcases ho with rfl | ho) | subst ho)
  all_goals
   refine ⟨_, List.mem_cons_self .., by simp only [w_var, w_lit, w_ivi, w_bvb, b_le, b_eq, b_not, w_usr, w_l0, w_l1, w_vint, w_vbool, w_tru, w_holds0, w_holds1, w_rows, w_nilb], ?_⟩
   simp only [w_var, w_lit, w_ivi, w_bvb, b_le, b_eq, b_not, w_usr, w_l0, w_l1, w_vint, w_vbool, w_tru, w_holds0, w_holds1, w_rows, w_nilb, us111, mnX, mxX, l1_inj, vInt_inj, r85_h0] at hh
   simp only [List.map_cons, List.map_nil, w_var, w_lit, w_ivi, w_bvb, b_le, b_eq, b_not, w_usr, w_l0, w_l1, w_vint, w_vbool, w_tru, w_holds0, w_holds1, w_rows, w_nilb, w_le, w_eq, w_not, us111, mnX, mxX, l1_inj, vInt_inj]
   repeat (obtain ⟨_, hh⟩ := hh)
   try (first | grind [okN, = vi_lit, = w_vint])
end Go.Proofs.Ytlbbkmcegbeckaa.Cn
