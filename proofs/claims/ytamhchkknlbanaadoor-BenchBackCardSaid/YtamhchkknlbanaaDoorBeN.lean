/-
  Numerals: Atoi and Itoa against the document's numbers. Conditions: none.
-/
import Derived.Test.YtamhchkknlbanaaDoorBeBase
import Derived.Test.YtamhchkknlbanaaDoorSzD
import Derived.Lib.AtoiAll
import Derived.Lib.ItoaNum
import Derived.Lib.Bytealg
import Derived.Lib.Join
set_option linter.unusedSectionVars false
set_option linter.unusedVariables false
set_option linter.unusedSimpArgs false
namespace Go.Proofs.YtamhchkknlbanaaDoor.Be
open Go.Sx Go.Proofs
abbrev sI : Srt := .int .i64
abbrev I (z : Int) : X := .lit (.int .i64 z)
abbrev mnX : X := .lit (.int .i64 (-9223372036854775808))
abbrev mxX : X := .lit (.int .i64 9223372036854775807)
abbrev by' (d : CD) : List UInt8 := d.str.toList
def dig (b : UInt8) : Bool := decide (48 ≤ b.toNat) && decide (b.toNat ≤ 57)
def digs (l : List UInt8) : Bool := l.all dig
def valD (l : List UInt8) : Int := l.foldl (fun n b => 10 * n + ((b.toNat : Int) - 48)) 0
def bjg (l : List UInt8) : Bool := !l.isEmpty && decide (l.length ≤ 10) && !(decide (1 < l.length) && decide ((l.getD 0 0).toNat = 48)) && digs l
def numV (l : List UInt8) : Int := if bjg l = true then valD l else 0
def digV (x : Int) : Int := if 48 ≤ x ∧ x ≤ 57 then x - 48 else if 97 ≤ x ∧ x ≤ 102 then x - 97 + 10 else -1
noncomputable section
def bhx (b : UInt8) : Bool := decide (b.toNat = 48) || decide (b.toNat = 49)
def ad3 (l : List UInt8) : Bool := l.all bhx
def bob (b : UInt8) : List CD := [aak (decide (b.toNat = 49))]
def ap6 (l : List UInt8) : List (List CD) := l.map bob
def mkz (r : List (List CD)) : CD := .sl r.isEmpty r
def an8 (l : List UInt8) : List (List CD) := if ad3 l = true then ap6 l else []
def baj (a b : UInt8) : Int := 16 * digV a.toNat + digV b.toNat
def hexR : List UInt8 → List (List CD)
 | a :: b :: r => [vInt .u8 (baj a b)] :: hexR r
 | _ => []
def hexB : List UInt8 → Bool
 | a :: b :: r => decide (0 ≤ digV a.toNat) && decide (0 ≤ digV b.toNat) && hexB r
 | _ => true
def hexV (l : List UInt8) : List (List CD) := if hexB l = true then hexR l else []
def stp (s : List (List UInt8) × List UInt8) (b : UInt8) : List (List UInt8) × List UInt8 := if b.toNat = 32 then (s.1 ++ [s.2], []) else (s.1, s.2 ++ [b])
def st (l : List UInt8) : List (List UInt8) × List UInt8 := l.foldl stp ([], [])
def okB (b : UInt8) : Bool := decide (b.toNat = 32) || (decide (33 ≤ b.toNat) && decide (b.toNat ≤ 126))
def okW (l : List UInt8) : Bool := l.all okB && (st l).1.all fun w => !w.isEmpty
def tx (l : List UInt8) : CD := .v (.string ⟨l.toArray⟩)
def ah4 (w : List UInt8) : List CD := [tx w]
def acj (l : List UInt8) : List (List CD) := (st l).1.map ah4
def line (d : CD) : List UInt8 := by' d ++ [32]
def b39 (d : CD) : List (List CD) := if okW (line d) = true then acj (line d) else []
def bzw : List (List UInt8 × Int × Int × Int) := [([116, 105, 99, 107], 1, 1, 0), ([116, 97, 107, 101], 2, 1, 0), ([102, 108, 111, 119], 14, 1, 0), ([97, 116], 3, 1, 0), ([100, 114, 111, 112], 4, 1, 0), ([100, 111, 117, 98, 108, 101], 5, 1, 0), ([109, 111, 118, 101], 6, 2, 0), ([99, 117, 116], 7, 2, 0), ([106, 111, 105, 110], 7, 2, 0), ([97, 115, 107], 8, 2, 1), ([97, 103, 97, 105, 110], 9, 1, 0), ([114, 101, 111, 112, 101, 110], 11, 1, 0), ([99, 114, 97, 115, 104], 10, 2, 2), ([102, 117, 115, 101], 12, 2, 0), ([116, 117, 114, 110], 13, 4, 0)]
def ah5 (l : List UInt8) : Option (List UInt8 × Int × Int × Int) := bzw.find? fun r => r.1 == l
def gw (W : List (List UInt8)) (i : Nat) : List UInt8 := W.getD i []
def alb (e : Int) : List CD := [vInt .i64 0, vInt .i64 0, vInt .i64 0, vInt .i64 0, aak false, vInt .u8 0, vInt .i64 0, .sl true [], .sl true [], vInt .i64 e]
def nOk (l : List UInt8) : Bool := bjg l && decide (valD l ≤ 1073741824)
def nV (W : List (List UInt8)) (i : Nat) : Int := numV (gw W i)
def nOks (W : List (List UInt8)) : Nat → Bool
 | 0 => true
 | i + 1 => nOks W i && nOk (gw W (i + 1))
def an0 (k : Int) (v : Nat → Int) (is : Bool) (b e : CD) : List CD :=
 if k = 6 then [vInt .i64 k, vInt .i64 0, vInt .i64 (v 1), vInt .i64 (v 2), aak is, vInt .u8 0, vInt .i64 0, b, e, vInt .i64 0]
 else if k = 7 then [vInt .i64 k, vInt .i64 (v 1), vInt .i64 0, vInt .i64 (v 2), aak is, vInt .u8 0, vInt .i64 0, b, e, vInt .i64 0]
 else if k = 8 then [vInt .i64 k, vInt .i64 (v 1), vInt .i64 0, vInt .i64 0, aak is, vInt .u8 0, vInt .i64 (v 2), b, e, vInt .i64 0]
 else if k = 9 ∨ k = 11 then [vInt .i64 k, vInt .i64 (v 1), vInt .i64 0, vInt .i64 0, aak is, vInt .u8 0, vInt .i64 0, b, e, vInt .i64 0]
 else if k = 10 ∨ k = 12 then [vInt .i64 k, vInt .i64 (v 1), vInt .i64 (v 2), vInt .i64 0, aak is, vInt .u8 0, vInt .i64 0, b, e, vInt .i64 0]
 else if k = 13 then [vInt .i64 k, vInt .i64 (v 1), vInt .i64 (v 2), vInt .i64 (v 3), aak is, vInt .u8 (v 4), vInt .i64 0, b, e, vInt .i64 0]
 else [vInt .i64 k, vInt .i64 0, vInt .i64 (v 1), vInt .i64 0, aak is, vInt .u8 0, vInt .i64 0, b, e, vInt .i64 0]
def hexP (l : List UInt8) (i : Nat) : List (List CD) := hexR (l.take (2 * i)) ++ List.replicate (l.length / 2 - i) [vInt .u8 0]
def ar7 (l : List UInt8) : Bool := hexB l && (decide (0 < l.length) && decide (l.length % 2 = 0))
def awp (l : List UInt8) : Bool := ad3 l && decide (0 < l.length)
def ab6 (W : List (List UInt8)) (k m r : Int) (is : Bool) : List CD :=
 if (W.length : Int) = m + 1 then
  if nOks W m.toNat = true ∧ ¬ (k = 13 ∧ 255 < nV W 4) then an0 k (nV W) is (.sl true []) (.sl true []) else alb 2
 else if r ≠ 0 ∧ (W.length : Int) = m + 2 then
  if nOks W m.toNat = true then
   if r = 1 then (if ar7 (gw W (m.toNat + 1)) = true then an0 k (nV W) is (mkz (hexV (gw W (m.toNat + 1)))) (.sl true []) else alb 2)
   else (if awp (gw W (m.toNat + 1)) = true then an0 k (nV W) is (.sl true []) (mkz (an8 (gw W (m.toNat + 1)))) else alb 2)
  else alb 2
 else alb 2
def a6f (W : List (List UInt8)) : List CD :=
 match ah5 (gw W 0) with
 | none => alb 6
 | some (w, k, m, r) => ab6 W k m r (w == [99, 117, 116])
def aai (d : CD) : List CD := if 2200 < (by' d).length then alb 3 else if okW (line d) = true then a6f (st (line d)).1 else alb 4
def al1 (l : List UInt8) : Int := match Lib.atoiAll l with
 | .ok v => v
 | .syntax => 0
 | .range => Lib.atoiSat l
def badB (b : UInt8) : Bool := decide (b.toNat < 33) || decide (126 < b.toNat)
def a3p (l : List UInt8) : Bool := !l.isEmpty && !l.any badB
def frm : List (List UInt8 × Int × Bool × List UInt8 × Int) := [([116, 105, 99, 107], 1, false, [110], 0), ([116, 97, 107, 101], 2, false, [110], 0), ([102, 108, 111, 119], 14, false, [110], 0), ([97, 116], 3, false, [110], 0), ([100, 114, 111, 112], 4, false, [110], 0), ([100, 111, 117, 98, 108, 101], 5, false, [110], 0), ([109, 111, 118, 101], 6, false, [110, 97], 0), ([99, 117, 116], 7, true, [119, 97], 0), ([106, 111, 105, 110], 7, false, [119, 97], 0), ([97, 115, 107], 8, false, [119, 111], 98), ([97, 103, 97, 105, 110], 9, false, [119], 0), ([114, 101, 111, 112, 101, 110], 11, false, [119], 0), ([99, 114, 97, 115, 104], 10, false, [119, 110], 107), ([102, 117, 115, 101], 12, false, [119, 110], 0), ([116, 117, 114, 110], 13, false, [119, 110, 97, 109], 0)]
def fits (k : Int) (is : Bool) (r : List UInt8 × Int × Bool × List UInt8 × Int) : Bool := decide (r.2.1 = k) && (!decide (k = 7) || r.2.2.1 == is)
def ahi (k : Int) (is : Bool) : Option (List UInt8 × Int × Bool × List UInt8 × Int) := frm.find? (fits k is)
def frow (k : Int) (is : Bool) : List UInt8 × Int × Bool × List UInt8 × Int := (ahi k is).getD ([], 0, false, [], 0)
def bou (r : List UInt8 × Int × Bool × List UInt8 × Int) (n : Nat) : List CD := [tx r.1, vInt .i64 r.2.1, aak r.2.2.1, tx r.2.2.2.1, vInt .u8 r.2.2.2.2, vInt .i64 n]
def frmR : List (List CD) := frm.zipIdx.map fun r => bou r.1 r.2
def aib (s : List (List CD)) (k : Int) (is : Bool) : Bool := frm.zipIdx.all fun r => !mIn (vInt .i64 (r.2 : Nat)) s || !fits k is r.1
def arx (s : List (List CD)) : Nat := (frm.zipIdx.filter fun r => !mIn (vInt .i64 (r.2 : Nat)) s).length
def selV (who n a m o : Int) (c : UInt8) : Int := if c.toNat = 119 then who else if c.toNat = 110 then n else if c.toNat = 97 then a else if c.toNat = 111 then o else if c.toNat = 109 then m else 0
def hasC (F : List UInt8) (c : Int) : Bool := F.any fun b => decide ((b.toNat : Int) = c)
def leftV (F : List UInt8) (c x : Int) : Int := if hasC F c = true then 0 else x
def inR (z : Int) : Bool := decide (0 ≤ z) && decide (z ≤ 1073741824)
def numW (who n a m o : Int) (c : UInt8) : List UInt8 := Lib.itoa (selV who n a m o c)
def hexC (n : Nat) : UInt8 := [48, 49, 50, 51, 52, 53, 54, 55, 56, 57, 97, 98, 99, 100, 101, 102].getD n 0
def bah (b : UInt8) : List UInt8 := [hexC (b.toNat / 16), hexC (b.toNat % 16)]
def hexT (r : List (List CD)) : List UInt8 := (r.map aa9).flatMap bah
def markT (r : List (List CD)) : List UInt8 := r.map fun r => if (r.getD 0 default).bv = true then 49 else 48
def awy (r : List CD) : List UInt8 := by' (r.getD 0 default)
def ac4 (w F : List UInt8) (who n a m o : Int) (i : Nat) : List (List UInt8) := w :: (F.take i).map (numW who n a m o)
def aee (rest : Int) (b e : List (List CD)) : List (List UInt8) := if rest = 98 then (if b = [] then [] else [hexT b]) else if rest = 107 then (if e = [] then [] else [markT e]) else []
def acp (k who n a m o : Int) (is : Bool) (F : List UInt8) (rest : Int) (b e : List (List CD)) : Bool :=
 !decide (leftV F 119 who = 0) || (!decide (leftV F 110 n = 0) || (!decide (leftV F 97 a = 0) || ((is && !decide (k = 7)) || (!decide (leftV F 109 m = 0) || (!decide (leftV F 111 o = 0) || ((!decide (rest = 98) && !b.isEmpty) || (!decide (rest = 107) && !e.isEmpty)))))))
def ajs (k who n a m o : Int) (is : Bool) (b e : List (List CD)) : List UInt8 × Int :=
 match ahi k is with
 | none => ([], 2)
 | some (w, _, _, F, rest) =>
  if F.all (fun c => inR (selV who n a m o c)) = true then
   if acp k who n a m o is F rest b e = true then ([], 2)
   else if 2200 < (Lib.join (ac4 w F who n a m o F.length ++ aee rest b e) [32]).length then ([], 3)
   else (Lib.join (ac4 w F who n a m o F.length ++ aee rest b e) [32], 0)
  else ([], 2)
def ahn (l : List CD) : List UInt8 × Int := ajs (l.getD 0 default).iv (l.getD 1 default).iv (l.getD 2 default).iv (l.getD 3 default).iv (l.getD 5 default).iv (l.getD 6 default).iv (l.getD 4 default).bv (l.getD 7 default).rows (l.getD 8 default).rows
def b9c (k who n a m o : Int) : List Int := if k = 6 then [n, a] else if k = 7 then [who, a] else if k = 8 then [who, o] else if k = 9 ∨ k = 11 then [who] else if k = 10 ∨ k = 12 then [who, n] else if k = 13 then [who, n, a, m] else [n]
def intRow (z : Int) : List CD := [vInt .i64 z]
def b9d (w : List UInt8) (l : List (List CD)) (i : Nat) : List UInt8 := w ++ (l.take i).flatMap fun r => 32 :: Lib.itoa (r.getD 0 default).iv
def b3v (l : List (List CD)) (i : Nat) : Bool := (l.take i).all fun r => inR (r.getD 0 default).iv
def nAt (l : List (List CD)) (i : Nat) : Int := ((l.getD i []).getD 0 default).iv
def need (k : Int) : Int := if k = 6 ∨ k = 7 ∨ k = 8 ∨ k = 10 ∨ k = 12 then 2 else if k = 1 ∨ k = 2 ∨ k = 3 ∨ k = 4 ∨ k = 5 ∨ k = 14 ∨ k = 9 ∨ k = 11 then 1 else 4
def aqe (k : Int) (l : List (List CD)) : List CD :=
 if k = 1 ∨ k = 2 ∨ k = 3 ∨ k = 4 ∨ k = 5 ∨ k = 14 then [vInt .i64 0, vInt .i64 (nAt l 0), vInt .i64 0, vInt .u8 0, vInt .i64 0]
 else if k = 6 then [vInt .i64 0, vInt .i64 (nAt l 0), vInt .i64 (nAt l 1), vInt .u8 0, vInt .i64 0]
 else if k = 7 then [vInt .i64 (nAt l 0), vInt .i64 0, vInt .i64 (nAt l 1), vInt .u8 0, vInt .i64 0]
 else if k = 8 then [vInt .i64 (nAt l 0), vInt .i64 0, vInt .i64 0, vInt .u8 0, vInt .i64 (nAt l 1)]
 else if k = 9 ∨ k = 11 then [vInt .i64 (nAt l 0), vInt .i64 0, vInt .i64 0, vInt .u8 0, vInt .i64 0]
 else if k = 10 ∨ k = 12 then [vInt .i64 (nAt l 0), vInt .i64 (nAt l 1), vInt .i64 0, vInt .u8 0, vInt .i64 0]
 else [vInt .i64 (nAt l 0), vInt .i64 (nAt l 1), vInt .i64 (nAt l 2), vInt .u8 (IntKind.u8.wrap (nAt l 3)), vInt .i64 0]
def ae9 (r : List CD) : Bool := (r.getD 0 default).bv
def b9y (l : List CD) : Bool := decide ((l.getD 8 default).rows.map ae9 = (l.getD 17 default).rows.map ae9) && (eqC (l.getD 0 default) (l.getD 9 default) && (eqC (l.getD 1 default) (l.getD 10 default) && (eqC (l.getD 2 default) (l.getD 11 default) && (eqC (l.getD 3 default) (l.getD 12 default) && (eqC (l.getD 4 default) (l.getD 13 default) && (eqC (l.getD 5 default) (l.getD 14 default) && (eqC (l.getD 6 default) (l.getD 15 default) && decide (((l.getD 7 default).rows.map aa9) = ((l.getD 16 default).rows.map aa9)))))))))
end
@[reducible] noncomputable def U : Us := ⟨fun n l => match n with
 | 201 => vInt .i64 (numV (by' (l.getD 0 default)))
 | 202 => aak (bjg (by' (l.getD 0 default)) && decide (valD (by' (l.getD 0 default)) ≤ 1073741824))
 | 203 => vInt .i64 (valD ((by' (l.getD 0 default)).take (l.getD 1 default).iv.toNat))
 | 204 => aak (digs ((by' (l.getD 0 default)).take (l.getD 1 default).iv.toNat))
 | 205 => vInt .i64 (digV (l.getD 0 default).iv)
 | 206 => mkz (an8 (by' (l.getD 0 default)))
 | 207 => aak (ad3 (by' (l.getD 0 default)) && decide (0 < (by' (l.getD 0 default)).length))
 | 208 => mkz (ap6 ((by' (l.getD 0 default)).take (l.getD 1 default).iv.toNat))
 | 209 => aak (ad3 ((by' (l.getD 0 default)).take (l.getD 1 default).iv.toNat))
 | 210 => mkz (hexV (by' (l.getD 0 default)))
 | 211 => aak (hexB (by' (l.getD 0 default)) && (decide (0 < (by' (l.getD 0 default)).length) && decide ((by' (l.getD 0 default)).length % 2 = 0)))
 | 212 => mkz (hexR ((by' (l.getD 0 default)).take (l.getD 1 default).iv.toNat))
 | 213 => aak (hexB ((by' (l.getD 0 default)).take (l.getD 1 default).iv.toNat) && decide ((l.getD 1 default).iv.toNat % 2 = 0))
 | 220 => mkz (acj ((line (l.getD 0 default)).take (l.getD 1 default).iv.toNat))
 | 221 => tx (st ((line (l.getD 0 default)).take (l.getD 1 default).iv.toNat)).2
 | 222 => aak (okW ((line (l.getD 0 default)).take (l.getD 1 default).iv.toNat))
 | 223 => mkz (b39 (l.getD 0 default))
 | 224 => aak (okW (line (l.getD 0 default)))
 | 230 => vInt .i64 (((ah5 (by' (l.getD 0 default))).map fun r => r.2.1).getD 0)
 | 231 => vInt .i64 (((ah5 (by' (l.getD 0 default))).map fun r => r.2.2.1).getD 0)
 | 232 => vInt .i64 (((ah5 (by' (l.getD 0 default))).map fun r => r.2.2.2).getD 0)
 | 233 => aak (ah5 (by' (l.getD 0 default))).isSome
 | 240 => (aai (l.getD 0 default)).getD 0 default
 | 241 => (aai (l.getD 0 default)).getD 1 default
 | 242 => (aai (l.getD 0 default)).getD 2 default
 | 243 => (aai (l.getD 0 default)).getD 3 default
 | 244 => (aai (l.getD 0 default)).getD 4 default
 | 245 => (aai (l.getD 0 default)).getD 5 default
 | 246 => (aai (l.getD 0 default)).getD 6 default
 | 247 => (aai (l.getD 0 default)).getD 7 default
 | 248 => (aai (l.getD 0 default)).getD 8 default
 | 249 => (aai (l.getD 0 default)).getD 9 default
 | 250 => vInt .i64 (al1 (by' (l.getD 0 default)))
 | 251 => tx (Lib.itoa (l.getD 0 default).iv)
 | 252 => CD.sl false (acj (line (l.getD 0 default)))
 | 254 => aak ((by' (l.getD 0 default)).any badB)
 | 255 => vInt .i64 (Lib.indexByte (by' (l.getD 0 default)) (l.getD 1 default).iv.toNat.toUInt8)
 | 256 => aak (((st (line (l.getD 0 default))).1.take (l.getD 1 default).iv.toNat).all a3p)
 | 257 => aak (((by' (l.getD 0 default)).take (l.getD 1 default).iv.toNat).all fun b => decide (b.toNat ≤ 126))
 | 258 => aak (ad3 (by' (l.getD 0 default)))
 | 259 => aak (hexB (by' (l.getD 0 default)) && decide ((by' (l.getD 0 default)).length % 2 = 0))
 | 260 => if hexB (by' (l.getD 0 default)) = true then CD.sl false (hexR (by' (l.getD 0 default))) else CD.sl true []
 | 261 => CD.sl false (hexP (by' (l.getD 0 default)) (l.getD 1 default).iv.toNat)
 | 262 => aak (hexB ((by' (l.getD 0 default)).take (2 * (l.getD 1 default).iv.toNat)))
 | 263 => CD.sl false frmR
 | 264 => aak (aib (l.getD 0 default).rows (l.getD 1 default).iv (l.getD 2 default).bv)
 | 265 => vInt .i64 (arx (l.getD 0 default).rows)
 | 270 => tx (frow (l.getD 0 default).iv (l.getD 1 default).bv).1
 | 271 => vInt .i64 (frow (l.getD 0 default).iv (l.getD 1 default).bv).2.1
 | 272 => aak (frow (l.getD 0 default).iv (l.getD 1 default).bv).2.2.1
 | 273 => tx (frow (l.getD 0 default).iv (l.getD 1 default).bv).2.2.2.1
 | 274 => vInt .u8 (frow (l.getD 0 default).iv (l.getD 1 default).bv).2.2.2.2
 | 275 => aak (ahi (l.getD 0 default).iv (l.getD 1 default).bv).isSome
 | 276 => CD.sl false ((ac4 (by' (l.getD 0 default)) (by' (l.getD 1 default)) (l.getD 2 default).iv (l.getD 3 default).iv (l.getD 4 default).iv (l.getD 5 default).iv (l.getD 6 default).iv (l.getD 7 default).iv.toNat).map ah4)
 | 277 => vInt .i64 (leftV ((by' (l.getD 0 default)).take (l.getD 1 default).iv.toNat) (l.getD 2 default).iv (l.getD 3 default).iv)
 | 278 => vInt .u8 (leftV ((by' (l.getD 0 default)).take (l.getD 1 default).iv.toNat) (l.getD 2 default).iv (l.getD 3 default).iv)
 | 279 => aak (((by' (l.getD 0 default)).take (l.getD 6 default).iv.toNat).all fun c => inR (selV (l.getD 1 default).iv (l.getD 2 default).iv (l.getD 3 default).iv (l.getD 4 default).iv (l.getD 5 default).iv c))
 | 282 => tx (Lib.join ((l.getD 0 default).rows.map awy) (by' (l.getD 1 default)))
 | 283 => tx (ahn [(l.getD 0 default), (l.getD 1 default), (l.getD 2 default), (l.getD 3 default), (l.getD 4 default), (l.getD 5 default), (l.getD 6 default), (l.getD 7 default), (l.getD 8 default)]).1
 | 284 => vInt .i64 (ahn [(l.getD 0 default), (l.getD 1 default), (l.getD 2 default), (l.getD 3 default), (l.getD 4 default), (l.getD 5 default), (l.getD 6 default), (l.getD 7 default), (l.getD 8 default)]).2
 | 286 => CD.sl false ((b9c (l.getD 0 default).iv (l.getD 1 default).iv (l.getD 2 default).iv (l.getD 3 default).iv (l.getD 4 default).iv (l.getD 5 default).iv).map intRow)
 | 287 => tx (b9d (by' (l.getD 0 default)) (l.getD 1 default).rows (l.getD 2 default).iv.toNat)
 | 288 => aak (b3v (l.getD 0 default).rows (l.getD 1 default).iv.toNat)
 | 289 => vInt .i64 (need (l.getD 0 default).iv)
 | 290 => (aqe (l.getD 0 default).iv (l.getD 1 default).rows).getD 0 default
 | 291 => (aqe (l.getD 0 default).iv (l.getD 1 default).rows).getD 1 default
 | 292 => (aqe (l.getD 0 default).iv (l.getD 1 default).rows).getD 2 default
 | 293 => (aqe (l.getD 0 default).iv (l.getD 1 default).rows).getD 3 default
 | 294 => (aqe (l.getD 0 default).iv (l.getD 1 default).rows).getD 4 default
 | 296 => aak (b9y [(l.getD 0 default), (l.getD 1 default), (l.getD 2 default), (l.getD 3 default), (l.getD 4 default), (l.getD 5 default), (l.getD 6 default), (l.getD 7 default), (l.getD 8 default), (l.getD 9 default), (l.getD 10 default), (l.getD 11 default), (l.getD 12 default), (l.getD 13 default), (l.getD 14 default), (l.getD 15 default), (l.getD 16 default), (l.getD 17 default)])
 | 297 => aak (decide (((l.getD 0 default).rows.take (l.getD 2 default).iv.toNat).map ae9 = ((l.getD 1 default).rows.take (l.getD 2 default).iv.toNat).map ae9))
 | 298 => tx (hexT (l.getD 0 default).rows)
 | 299 => tx (by' (l.getD 0 default) ++ (if (l.getD 2 default).iv.toNat = 0 then [] else 32 :: markT ((l.getD 1 default).rows.take (l.getD 2 default).iv.toNat)))
 | 300 => tx (markT (l.getD 0 default).rows)
 | 301 => tx (hexT ((l.getD 0 default).rows.take (l.getD 1 default).iv.toNat))
 | 302 => CD.sl false (((markT ((l.getD 0 default).rows.take (l.getD 1 default).iv.toNat)) ++ List.replicate ((l.getD 0 default).rows.length - (l.getD 1 default).iv.toNat) 0).map aco)
 | _ => default, lcOf []⟩
theorem bsh (a : CD) : @Us.u U 201 [a] = vInt .i64 (numV (by' a)) := rfl
theorem bl9 (a : CD) : @Us.u U 202 [a] = aak (bjg (by' a) && decide (valD (by' a) ≤ 1073741824)) := rfl
theorem bsi (a b : CD) : @Us.u U 203 [a, b] = vInt .i64 (valD ((by' a).take b.iv.toNat)) := rfl
theorem bsj (a b : CD) : @Us.u U 204 [a, b] = aak (digs ((by' a).take b.iv.toNat)) := rfl
theorem bsk (a : CD) : @Us.u U 205 [a] = vInt .i64 (digV a.iv) := rfl
theorem a2n (a : CD) : @Us.u U 206 [a] = mkz (an8 (by' a)) := rfl
theorem bsl (a : CD) : @Us.u U 207 [a] = aak (ad3 (by' a) && decide (0 < (by' a).length)) := rfl
theorem beh (a b : CD) : @Us.u U 208 [a, b] = mkz (ap6 ((by' a).take b.iv.toNat)) := rfl
theorem bek (a b : CD) : @Us.u U 209 [a, b] = aak (ad3 ((by' a).take b.iv.toNat)) := rfl
theorem bny (a : CD) : @Us.u U 210 [a] = mkz (hexV (by' a)) := rfl
theorem bsm (a : CD) : @Us.u U 211 [a] = aak (hexB (by' a) && (decide (0 < (by' a).length) && decide ((by' a).length % 2 = 0))) := rfl
theorem bsn (a b : CD) : @Us.u U 212 [a, b] = mkz (hexR ((by' a).take b.iv.toNat)) := rfl
theorem bso (a b : CD) : @Us.u U 213 [a, b] = aak (hexB ((by' a).take b.iv.toNat) && decide (b.iv.toNat % 2 = 0)) := rfl
theorem bsp (a b : CD) : @Us.u U 220 [a, b] = mkz (acj ((line a).take b.iv.toNat)) := rfl
theorem bsq (a b : CD) : @Us.u U 221 [a, b] = tx (st ((line a).take b.iv.toNat)).2 := rfl
theorem bsr (a b : CD) : @Us.u U 222 [a, b] = aak (okW ((line a).take b.iv.toNat)) := rfl
theorem bst (a : CD) : @Us.u U 223 [a] = mkz (b39 a) := rfl
theorem a2o (a : CD) : @Us.u U 224 [a] = aak (okW (line a)) := rfl
theorem bsu (a : CD) : @Us.u U 230 [a] = vInt .i64 (((ah5 (by' a)).map fun r => r.2.1).getD 0) := rfl
theorem bsv (a : CD) : @Us.u U 231 [a] = vInt .i64 (((ah5 (by' a)).map fun r => r.2.2.1).getD 0) := rfl
theorem bsw (a : CD) : @Us.u U 232 [a] = vInt .i64 (((ah5 (by' a)).map fun r => r.2.2.2).getD 0) := rfl
theorem bsx (a : CD) : @Us.u U 233 [a] = aak (ah5 (by' a)).isSome := rfl
theorem aw0 (a : CD) : @Us.u U 240 [a] = (aai a).getD 0 default := rfl
theorem aw1 (a : CD) : @Us.u U 241 [a] = (aai a).getD 1 default := rfl
theorem aw5 (a : CD) : @Us.u U 242 [a] = (aai a).getD 2 default := rfl
theorem aw6 (a : CD) : @Us.u U 243 [a] = (aai a).getD 3 default := rfl
theorem aw8 (a : CD) : @Us.u U 244 [a] = (aai a).getD 4 default := rfl
theorem aw9 (a : CD) : @Us.u U 245 [a] = (aai a).getD 5 default := rfl
theorem axa (a : CD) : @Us.u U 246 [a] = (aai a).getD 6 default := rfl
theorem axb (a : CD) : @Us.u U 247 [a] = (aai a).getD 7 default := rfl
theorem axd (a : CD) : @Us.u U 248 [a] = (aai a).getD 8 default := rfl
theorem axe (a : CD) : @Us.u U 249 [a] = (aai a).getD 9 default := rfl
theorem bma (a : CD) : @Us.u U 250 [a] = vInt .i64 (al1 (by' a)) := rfl
theorem ben (a : CD) : @Us.u U 251 [a] = tx (Lib.itoa a.iv) := rfl
theorem axf (a : CD) : @Us.u U 252 [a] = CD.sl false (acj (line a)) := rfl
theorem beo (a : CD) : @Us.u U 254 [a] = aak ((by' a).any badB) := rfl
theorem bep (a b : CD) : @Us.u U 255 [a, b] = vInt .i64 (Lib.indexByte (by' a) b.iv.toNat.toUInt8) := rfl
theorem bmb (a b : CD) : @Us.u U 256 [a, b] = aak (((st (line a)).1.take b.iv.toNat).all a3p) := rfl
theorem bmc (a b : CD) : @Us.u U 257 [a, b] = aak (((by' a).take b.iv.toNat).all fun b => decide (b.toNat ≤ 126)) := rfl
theorem a2q (a : CD) : @Us.u U 258 [a] = aak (ad3 (by' a)) := rfl
theorem ber (a : CD) : @Us.u U 259 [a] = aak (hexB (by' a) && decide ((by' a).length % 2 = 0)) := rfl
theorem bes (a : CD) : @Us.u U 260 [a] = if hexB (by' a) = true then CD.sl false (hexR (by' a)) else CD.sl true [] := rfl
theorem bmd (a b : CD) : @Us.u U 261 [a, b] = CD.sl false (hexP (by' a) b.iv.toNat) := rfl
theorem bme (a b : CD) : @Us.u U 262 [a, b] = aak (hexB ((by' a).take (2 * b.iv.toNat))) := rfl
theorem bnz : @Us.u U 263 [] = CD.sl false frmR := rfl
theorem bsy (x0 x1 x2 : CD) : @Us.u U 264 [x0, x1, x2] = aak (aib x0.rows x1.iv x2.bv) := rfl
theorem bsz (x0 : CD) : @Us.u U 265 [x0] = vInt .i64 (arx x0.rows) := rfl
theorem bet (x0 x1 : CD) : @Us.u U 270 [x0, x1] = tx (frow x0.iv x1.bv).1 := rfl
theorem beu (x0 x1 : CD) : @Us.u U 271 [x0, x1] = vInt .i64 (frow x0.iv x1.bv).2.1 := rfl
theorem bs0 (x0 x1 : CD) : @Us.u U 272 [x0, x1] = aak (frow x0.iv x1.bv).2.2.1 := rfl
theorem bew (x0 x1 : CD) : @Us.u U 273 [x0, x1] = tx (frow x0.iv x1.bv).2.2.2.1 := rfl
theorem bey (x0 x1 : CD) : @Us.u U 274 [x0, x1] = vInt .u8 (frow x0.iv x1.bv).2.2.2.2 := rfl
theorem be0 (x0 x1 : CD) : @Us.u U 275 [x0, x1] = aak (ahi x0.iv x1.bv).isSome := rfl
theorem be2 (x0 x1 x2 x3 x4 x5 x6 x7 : CD) : @Us.u U 276 [x0, x1, x2, x3, x4, x5, x6, x7] = CD.sl false ((ac4 (by' x0) (by' x1) x2.iv x3.iv x4.iv x5.iv x6.iv x7.iv.toNat).map ah4) := rfl
theorem be6 (x0 x1 x2 x3 : CD) : @Us.u U 277 [x0, x1, x2, x3] = vInt .i64 (leftV ((by' x0).take x1.iv.toNat) x2.iv x3.iv) := rfl
theorem bfc (x0 x1 x2 x3 : CD) : @Us.u U 278 [x0, x1, x2, x3] = vInt .u8 (leftV ((by' x0).take x1.iv.toNat) x2.iv x3.iv) := rfl
theorem bfe (x0 x1 x2 x3 x4 x5 x6 : CD) : @Us.u U 279 [x0, x1, x2, x3, x4, x5, x6] = aak (((by' x0).take x6.iv.toNat).all fun c => inR (selV x1.iv x2.iv x3.iv x4.iv x5.iv c)) := rfl
theorem a4c (x0 x1 : CD) : @Us.u U 282 [x0, x1] = tx (Lib.join (x0.rows.map awy) (by' x1)) := rfl
theorem a4e (x0 x1 x2 x3 x4 x5 x6 x7 x8 : CD) : @Us.u U 283 [x0, x1, x2, x3, x4, x5, x6, x7, x8] = tx (ahn [x0, x1, x2, x3, x4, x5, x6, x7, x8]).1 := rfl
theorem a4g (x0 x1 x2 x3 x4 x5 x6 x7 x8 : CD) : @Us.u U 284 [x0, x1, x2, x3, x4, x5, x6, x7, x8] = vInt .i64 (ahn [x0, x1, x2, x3, x4, x5, x6, x7, x8]).2 := rfl
theorem bs1 (x0 x1 x2 x3 x4 x5 : CD) : @Us.u U 286 [x0, x1, x2, x3, x4, x5] = CD.sl false ((b9c x0.iv x1.iv x2.iv x3.iv x4.iv x5.iv).map intRow) := rfl
theorem bs2 (x0 x1 x2 : CD) : @Us.u U 287 [x0, x1, x2] = tx (b9d (by' x0) x1.rows x2.iv.toNat) := rfl
theorem bs3 (x0 x1 : CD) : @Us.u U 288 [x0, x1] = aak (b3v x0.rows x1.iv.toNat) := rfl
theorem bs4 (x0 : CD) : @Us.u U 289 [x0] = vInt .i64 (need x0.iv) := rfl
theorem bs5 (x0 x1 : CD) : @Us.u U 290 [x0, x1] = (aqe x0.iv x1.rows).getD 0 default := rfl
theorem bs6 (x0 x1 : CD) : @Us.u U 291 [x0, x1] = (aqe x0.iv x1.rows).getD 1 default := rfl
theorem bs7 (x0 x1 : CD) : @Us.u U 292 [x0, x1] = (aqe x0.iv x1.rows).getD 2 default := rfl
theorem bs8 (x0 x1 : CD) : @Us.u U 293 [x0, x1] = (aqe x0.iv x1.rows).getD 3 default := rfl
theorem bs9 (x0 x1 : CD) : @Us.u U 294 [x0, x1] = (aqe x0.iv x1.rows).getD 4 default := rfl
theorem bta (x0 x1 x2 x3 x4 x5 x6 x7 x8 x9 x10 x11 x12 x13 x14 x15 x16 x17 : CD) : @Us.u U 296 [x0, x1, x2, x3, x4, x5, x6, x7, x8, x9, x10, x11, x12, x13, x14, x15, x16, x17] = aak (b9y [x0, x1, x2, x3, x4, x5, x6, x7, x8, x9, x10, x11, x12, x13, x14, x15, x16, x17]) := rfl
theorem bmf (x0 x1 x2 : CD) : @Us.u U 297 [x0, x1, x2] = aak (decide ((x0.rows.take x2.iv.toNat).map ae9 = (x1.rows.take x2.iv.toNat).map ae9)) := rfl
theorem bfi (x0 : CD) : @Us.u U 298 [x0] = tx (hexT x0.rows) := rfl
theorem btb (x0 x1 x2 : CD) : @Us.u U 299 [x0, x1, x2] = tx (by' x0 ++ (if x2.iv.toNat = 0 then [] else 32 :: markT (x1.rows.take x2.iv.toNat))) := rfl
theorem bfj (x0 : CD) : @Us.u U 300 [x0] = tx (markT x0.rows) := rfl
theorem btc (x0 x1 : CD) : @Us.u U 301 [x0, x1] = tx (hexT (x0.rows.take x1.iv.toNat)) := rfl
theorem btd (x0 x1 : CD) : @Us.u U 302 [x0, x1] = CD.sl false (((markT (x0.rows.take x1.iv.toNat)) ++ List.replicate (x0.rows.length - x1.iv.toNat) 0).map aco) := rfl
noncomputable def T0 : FuncId → Option Fsp := fun _ => none
theorem hT0 : ∀ f S, T0 f = some S → abd U Tryd.prog f S := fun f S h => by cases h
theorem a2r {a b : Bool} : (aak a = aak b) = (a = b) := by unfold aak; simp
theorem ax6 {k : IntKind} {a b : Int} : (vInt k a = vInt k b) = (a = b) := by unfold vInt; simp
theorem ba2 {r r' : List (List CD)} : (CD.sl (true && r.isEmpty) r = mkz r') = (r = r') := by
 unfold mkz
 simp only [Bool.true_and, CD.sl.injEq, eq_iff_iff]
 exact ⟨fun h => h.2, fun h => by rw [h]; exact ⟨rfl, rfl⟩⟩
theorem axv {r : List (List CD)} : CD.sl (true && r.isEmpty) r = mkz r := by unfold mkz; rfl
theorem bv0 {r r' : List (List CD)} : (mkz r = mkz r') = (r = r') := by rw [← axv, ba2]
theorem anz (b : Bool) : CD.v (.bool b) = aak b := rfl
theorem ags (k : IntKind) (z : Int) : CD.v (.int k z) = vInt k z := rfl
theorem bvk {α : Type} {a b : α} : ([a] = [b]) = (a = b) := by simp
def byAt (d : CD) (i : Int) : Int := (((by' d).getD i.toNat 0).toNat : Int)
theorem a3d [Sg] (a i : X) : den (.ap .sidx [a, i]) = vInt .u8 (byAt (den a) (den i).iv) := rfl
theorem bqg {d : CD} (hT : Typ .str d) : ∃ s : ByteArray, d = .v (.string s) ∧ s.size ≤ maxN := by
 obtain ⟨m, u, s, h1, h2, h3⟩ := hT
 exact ⟨s, h1, h3⟩
theorem ag7 {d : CD} (hT : Typ .str d) : (d.slen : Int) = (by' d).length := by
 obtain ⟨s, rfl, h⟩ := bqg hT
 show ((clip s.size : Nat) : Int) = ((s.toList).length : Int)
 rw [aiz h, ByteArray.toList_eq]
 rfl
theorem a4v {a b : ByteArray} : (eqC (.v (.string a)) (.v (.string b)) = true) = (a.toList = b.toList) := by
 show ((a.toList == b.toList) = true) = _
 rw [beq_iff_eq]
theorem bus {d : CD} (hT : Typ .str d) : (eqC d (.v (.string ⟨⟨[]⟩⟩)) = true) = (by' d = []) := by
 obtain ⟨s, rfl, h⟩ := bqg hT
 rw [a4v, ByteArray.toList_eq ⟨⟨[]⟩⟩]
 rfl
end Go.Proofs.YtamhchkknlbanaaDoor.Be

namespace Go.Proofs.YtamhchkknlbanaaDoor.Be
open Go.Sx Go.Proofs
theorem bt5 {l : List UInt8} {i : Nat} (h : i < l.length) : l.take (i + 1) = l.take i ++ [l.getD i 0] := by
 rw [List.take_add_one, List.getD_eq_getElem?_getD, List.getElem?_eq_getElem h]
 rfl
end Go.Proofs.YtamhchkknlbanaaDoor.Be

namespace Go.Proofs.YtamhchkknlbanaaDoor.Be
open Go.Sx Go.Proofs
theorem b29 {d : CD} : [] = ap6 ((by' d).take (Int.toNat 0)) := rfl
theorem b73 {d : CD} : ad3 ((by' d).take (Int.toNat 0)) = true := rfl
theorem bt1 {l : List UInt8} {b : UInt8} : ap6 (l ++ [b]) = ap6 l ++ [bob b] := by
 unfold ap6
 rw [List.map_append]
 rfl
theorem boc {l : List UInt8} {b : UInt8} : ad3 (l ++ [b]) = (ad3 l && bhx b) := by
 unfold ad3
 rw [List.all_append]
 simp
theorem a9s {z n : Int} : eqC (vInt .u8 z) (vInt .u8 n) = decide (z = n) := rfl
theorem bef {d : CD} {i : Int} (h0 : 0 ≤ i) (hi : i < d.slen) (hT : Typ .str d) : (by' d).take (i + 1).toNat = (by' d).take i.toNat ++ [(by' d).getD i.toNat 0] := by
 rw [ag7 hT] at hi
 rw [show (i + 1).toNat = i.toNat + 1 by omega, bt5 (by omega)]
theorem bql {d : CD} {i : Int} (hi : ¬ i < d.slen) (hT : Typ .str d) : (by' d).take i.toNat = by' d := by
 rw [ag7 hT] at hi
 exact List.take_of_length_le (by omega)
theorem b70 {d : CD} {r : List (List CD)} {i : Int} (hr : r = ap6 ((by' d).take i.toNat)) (h0 : 0 ≤ i) (hi : i < d.slen) (hT : Typ .str d) : r ++ ([] ++ [[aak (eqC (vInt .u8 (byAt d i)) (vInt .u8 49))]]) = ap6 ((by' d).take (i + 1).toNat) := by
 rw [bef h0 hi hT, bt1, hr, List.nil_append, a9s]
 unfold bob byAt
 congr 4
 rw [decide_eq_decide]
 omega
theorem b71 {d : CD} {i : Int} (h : eqC (vInt .u8 (byAt d i)) (vInt .u8 49) = true) (hb : ad3 ((by' d).take i.toNat) = true) (h0 : 0 ≤ i) (hi : i < d.slen) (hT : Typ .str d) : ad3 ((by' d).take (i + 1).toNat) = true := by
 rw [bef h0 hi hT, boc, hb]
 rw [a9s, decide_eq_true_eq] at h
 unfold byAt at h
 unfold bhx
 rw [Bool.true_and, Bool.or_eq_true, decide_eq_true_eq, decide_eq_true_eq]
 omega
theorem b72 {d : CD} {i : Int} (h : eqC (vInt .u8 (byAt d i)) (vInt .u8 48) = true) (hb : ad3 ((by' d).take i.toNat) = true) (h0 : 0 ≤ i) (hi : i < d.slen) (hT : Typ .str d) : ad3 ((by' d).take (i + 1).toNat) = true := by
 rw [bef h0 hi hT, boc, hb]
 rw [a9s, decide_eq_true_eq] at h
 unfold byAt at h
 unfold bhx
 rw [Bool.true_and, Bool.or_eq_true, decide_eq_true_eq, decide_eq_true_eq]
 omega
theorem b4l {d : CD} {i : Int} (h1 : ¬ eqC (vInt .u8 (byAt d i)) (vInt .u8 49) = true) (h2 : ¬ eqC (vInt .u8 (byAt d i)) (vInt .u8 48) = true) (h0 : 0 ≤ i) (hi : i < d.slen) (hT : Typ .str d) : [[mkz (an8 (by' d))], [aak (ad3 (by' d) && decide (0 < (by' d).length))]] = [[CD.sl true []], [aak false]] := by
 rw [ag7 hT] at hi
 have hlt : i.toNat < (by' d).length := by omega
 have hf : ad3 (by' d) = false := by
  unfold ad3
  rw [List.all_eq_false]
  refine ⟨(by' d).getD i.toNat 0, ?_, ?_⟩
  ·rw [List.getD_eq_getElem?_getD, List.getElem?_eq_getElem hlt]
   exact List.getElem_mem hlt
  ·rw [a9s, decide_eq_true_eq] at h1 h2
   unfold byAt at h1 h2
   unfold bhx
   rw [Bool.or_eq_true, decide_eq_true_eq, decide_eq_true_eq]
   omega
 unfold an8
 rw [hf]
 rfl
end Go.Proofs.YtamhchkknlbanaaDoor.Be

namespace Go.Proofs.YtamhchkknlbanaaDoor.Be
open Go.Sx Go.Proofs
theorem bzg {x : Int} : digV x ≤ 15 := by
 unfold digV
 split
 ·omega
 ·split <;> omega
theorem bai : ∀ {p q : List UInt8}, p.length % 2 = 0 → hexR (p ++ q) = hexR p ++ hexR q
 | [], q, _ => rfl
 | [_], _, h => by simp at h
 | a :: b :: r, q, h => by
  show _ :: hexR (r ++ q) = _
  rw [bai (p := r) (by simp only [List.length_cons] at h; omega)]
  rfl
theorem axr : ∀ {p q : List UInt8}, p.length % 2 = 0 → hexB (p ++ q) = (hexB p && hexB q)
 | [], q, _ => rfl
 | [_], _, h => by simp at h
 | a :: b :: r, q, h => by
  show (_ && hexB (r ++ q)) = _
  rw [axr (p := r) (by simp only [List.length_cons] at h; omega), ← Bool.and_assoc]
  rfl
theorem cbf {n : Nat} : eqC (orV (af0 .rem .i64 (n : Int) 2)) (vInt .i64 0) = decide (n % 2 = 0) := by
 have : af0 .rem .i64 (n : Int) 2 = some (.int .i64 ((n : Int).tmod 2)) := rfl
 rw [this]
 show decide ((n : Int).tmod 2 = 0) = _
 rw [decide_eq_decide]
 have := Int.tmod_eq_emod_of_nonneg (a := (n : Int)) (b := 2) (by omega)
 omega
end Go.Proofs.YtamhchkknlbanaaDoor.Be

namespace Go.Proofs.YtamhchkknlbanaaDoor.Be
open Go.Sx Go.Proofs
theorem as3 {c : CD} (h : Typ sI c) : c = vInt .i64 c.iv := by
 obtain ⟨m, u, n, rfl, _⟩ := h
 rfl
theorem b61 {l : List UInt8} {b : UInt8} : st (l ++ [b]) = stp (st l) b := by
 unfold st
 rw [List.foldl_append]
 rfl
end Go.Proofs.YtamhchkknlbanaaDoor.Be

namespace Go.Proofs.YtamhchkknlbanaaDoor.Be
open Go.Sx Go.Proofs
theorem b8e {d : CD} {l : List UInt8} (hT : Typ .str d) : (eqC d (.v (.string ⟨⟨l⟩⟩)) = true) = (by' d = l) := by
 obtain ⟨s, rfl, h⟩ := bqg hT
 rw [a4v, ByteArray.toList_eq ⟨⟨l⟩⟩]
 rfl
abbrev bls : List Srt := [sI, sI, sI, sI, .bool, .int .u8, sI, .sl [.int .u8], .sl [.bool]]
end Go.Proofs.YtamhchkknlbanaaDoor.Be

namespace Go.Proofs.YtamhchkknlbanaaDoor.Be
open Go.Sx Go.Proofs
def wds (d : CD) : List (List UInt8) := (st (line d)).1
theorem bq6 (l : List UInt8) : by' (tx l) = l := by
 show (ByteArray.mk l.toArray).toList = l
 rw [ByteArray.toList_eq]
theorem b75 : by' (default : CD) = [] := by
 show (ByteArray.mk #[]).toList = []
 rw [ByteArray.toList_eq]
theorem bxi {W : List (List UInt8)} (i : Int) : by' ((mkz (W.map ah4)).cell i 0) = gw W i.toNat := by
 unfold CD.cell
 show by' ((((W.map ah4).getD i.toNat []).getD 0 default)) = _
 have e : (W.map ah4).getD i.toNat [] = (W[i.toNat]?.map ah4).getD [] := by rw [List.getD_eq_getElem?_getD, List.getElem?_map]
 unfold gw
 rw [e, List.getD_eq_getElem?_getD (l := W)]
 cases W[i.toNat]? with
 | none => exact b75
 | some w => exact bq6 w
theorem aq7 {c : CD} {l : List UInt8} (h : eqC c (.v (.string ⟨⟨l⟩⟩)) = true) : by' c = l := by
 cases c with
 | v u => cases u with
  | string s =>
   rw [a4v] at h
   show s.toList = l
   rw [h, ByteArray.toList_eq]
  | _ => cases h
 | sl _ _ => cases h
 | ag _ => cases h
theorem b0p (l : List UInt8) : (bjg l && decide (valD l ≤ 1073741824)) = nOk l := rfl
theorem ba4 {l : List UInt8} (h : nOk l = true) : numV l = valD l := by
 unfold nOk at h
 rw [Bool.and_eq_true] at h
 unfold numV
 rw [if_pos h.1]
theorem b9j {d : CD} (h : 2200 < (d.slen : Int)) (hT : Typ .str d) : aai d = alb 3 := by
 unfold aai
 rw [ag7 hT] at h
 rw [if_pos (by omega)]
theorem b5x {d : CD} (h : ¬ 2200 < (d.slen : Int)) (hT : Typ .str d) (hk : ¬ okW (line d) = true) : aai d = alb 4 := by
 unfold aai
 rw [ag7 hT] at h
 rw [if_neg (by omega), if_neg hk]
theorem bwu {d : CD} (h : ¬ 2200 < (d.slen : Int)) (hT : Typ .str d) (hk : okW (line d) = true) : aai d = a6f (wds d) := by
 unfold aai
 rw [ag7 hT] at h
 rw [if_neg (by omega), if_pos hk]
 rfl
theorem b9k {d : CD} (h : ¬ 2200 < (d.slen : Int)) (hT : Typ .str d) (hk : okW (line d) = true) (hf : ah5 (gw (wds d) 0) = none) : aai d = alb 6 := by
 rw [bwu h hT hk]
 unfold a6f
 rw [hf]
theorem akf {d : CD} {w l : List UInt8} {k m r : Int} (h : ¬ 2200 < (d.slen : Int)) (hT : Typ .str d) (hk : okW (line d) = true) (hw : gw (wds d) 0 = l) (hf : ah5 l = some (w, k, m, r)) : aai d = ab6 (wds d) k m r (w == [99, 117, 116]) := by
 rw [bwu h hT hk]
 unfold a6f
 rw [hw, hf]
theorem b96 {d : CD} (hk : okW (line d) = true) : 1 ≤ (wds d).length := by
 unfold wds line st
 rw [List.foldl_append]
 show 1 ≤ (stp _ 32).1.length
 unfold stp
 rw [if_pos (by decide)]
 simp
theorem b6v (c : CD) : (c.slen : Int) ≤ (by' c).length := by
 unfold CD.slen by'
 rw [ByteArray.toList_eq]
 have : clip c.str.size ≤ c.str.size := Nat.min_le_left _ _
 show ((clip c.str.size : Nat) : Int) ≤ (c.str.data.toList.length : Int)
 have e : c.str.data.toList.length = c.str.size := rfl
 omega
theorem bxw : ∀ (l : List UInt8) (s : List (List UInt8) × List UInt8) (n : Nat), (∀ w ∈ s.1, w.length ≤ n) → s.2.length ≤ n → (∀ w ∈ (l.foldl stp s).1, w.length ≤ n + l.length) ∧ (l.foldl stp s).2.length ≤ n + l.length
 | [], s, n, h1, h2 => ⟨h1, h2⟩
 | b :: l, s, n, h1, h2 => by
  have := bxw l (stp s b) (n + 1) (fun w hw => by
   unfold stp at hw
   split at hw
   ·rcases List.mem_append.1 hw with hw | hw
    ·have := h1 w hw; omega
    ·rw [List.mem_singleton.1 hw]; omega
   ·have := h1 w hw; omega) (by
   unfold stp
   split
   ·show 0 ≤ n + 1; omega
   ·show (s.2 ++ [b]).length ≤ n + 1
    rw [List.length_append]
    show s.2.length + 1 ≤ n + 1
    omega)
  rw [show n + (b :: l).length = n + 1 + l.length by simp only [List.length_cons]; omega]
  exact this
theorem b8q (d : CD) (i : Nat) : (gw (wds d) i).length ≤ (by' d).length + 1 := by
 have h := (bxw (line d) ([], []) 0 (fun w hw => by cases hw) (Nat.le_refl 0)).1
 have hl : (line d).length = (by' d).length + 1 := by unfold line; rw [List.length_append]; rfl
 unfold gw
 rw [List.getD_eq_getElem?_getD]
 cases hh : (wds d)[i]? with
 | none => show 0 ≤ _; omega
 | some w =>
  have := h w (List.mem_of_getElem? hh)
  show w.length ≤ _
  omega
theorem bu1 : ∀ (l : List UInt8) (n : Int), 0 ≤ n → (∀ b ∈ l, dig b = true) → 0 ≤ l.foldl (fun n b => 10 * n + ((b.toNat : Int) - 48)) n
 | [], n, h, _ => h
 | b :: l, n, h, hd => by
  refine bu1 l _ ?_ fun c hc => hd c (List.mem_cons_of_mem _ hc)
  have := hd b (List.mem_cons_self ..)
  unfold dig at this
  rw [Bool.and_eq_true, decide_eq_true_eq] at this
  show 0 ≤ 10 * n + ((b.toNat : Int) - 48)
  omega
theorem b5l (l : List UInt8) : 0 ≤ numV l := by
 unfold numV
 split
 ·rename_i h
  unfold bjg digs at h
  rw [Bool.and_eq_true] at h
  exact bu1 l 0 (Int.le_refl 0) (List.all_eq_true.1 h.2)
 ·exact Int.le_refl 0
theorem b7f {n : Int} (h1 : 0 ≤ n) (h2 : n ≤ 255) : IntKind.u8.wrap n = n := by
 haveI : Sg := @Sg.mk U fun _ => default
 exact bn2 (k := .u8) h1 h2
end Go.Proofs.YtamhchkknlbanaaDoor.Be

namespace Go.Proofs.YtamhchkknlbanaaDoor.Be
open Go.Sx Go.Proofs Go.Lib
def valN (l : List UInt8) : Nat := l.foldl (fun n b => n * 10 + (b.toNat - 48)) 0
theorem anh {b : UInt8} : dig b = true ↔ 48 ≤ b.toNat ∧ b.toNat ≤ 57 := by
 unfold dig
 rw [Bool.and_eq_true, decide_eq_true_eq, decide_eq_true_eq]
theorem b8m : ∀ (l : List UInt8) (n : Int) (m : Nat), (∀ b ∈ l, dig b = true) → n = m → l.foldl (fun n b => 10 * n + ((b.toNat : Int) - 48)) n = ((l.foldl (fun n b => n * 10 + (b.toNat - 48)) m : Nat) : Int)
 | [], n, m, _, h => h
 | b :: l, n, m, hd, h => by
  refine b8m l _ _ (fun c hc => hd c (List.mem_cons_of_mem _ hc)) ?_
  have := anh.1 (hd b (List.mem_cons_self ..))
  show 10 * n + ((b.toNat : Int) - 48) = ((m * 10 + (b.toNat - 48) : Nat) : Int)
  omega
theorem b38 {l : List UInt8} (hd : ∀ b ∈ l, dig b = true) : valD l = (valN l : Int) := b8m l 0 0 hd rfl
theorem bok {l : List UInt8} : digs l = true ↔ ∀ b ∈ l, dig b = true := List.all_eq_true
theorem b3z : ∀ (l : List UInt8) (acc : Nat), (∀ b ∈ l, dig b = true) → (acc + 1) * 10 ^ l.length ≤ 1844674407370955162 → parseUint10 acc l = .ok (l.foldl (fun n b => n * 10 + (b.toNat - 48)) acc)
 | [], acc, _, _ => rfl
 | c :: r, acc, hd, hb => by
  have h1 := anh.1 (hd c (List.mem_cons_self ..))
  have hpos : 1 ≤ 10 ^ r.length := Nat.pow_pos (by decide)
  rw [List.length_cons, Nat.pow_succ] at hb
  have hb2 : (acc + 1) * 10 ≤ 1844674407370955162 := by
   have : (acc + 1) * 10 * 1 ≤ (acc + 1) * 10 * 10 ^ r.length := Nat.mul_le_mul_left _ hpos
   have e : (acc + 1) * (10 ^ r.length * 10) = (acc + 1) * 10 * 10 ^ r.length := by rw [Nat.mul_comm (10 ^ r.length) 10, Nat.mul_assoc]
   omega
  simp only [parseUint10]
  rw [if_pos h1, if_neg (by omega), if_neg (by omega)]
  refine b3z r _ (fun b hb => hd b (List.mem_cons_of_mem _ hb)) ?_
  refine Nat.le_trans ?_ hb
  rw [Nat.mul_comm (10 ^ r.length) 10, ← Nat.mul_assoc]
  exact Nat.mul_le_mul_right _ (by omega)
theorem ones : ∀ (l : List UInt8) (acc : Nat), 1 ≤ acc → 1 ≤ l.foldl (fun n b => n * 10 + (b.toNat - 48)) acc
 | [], acc, h => h
 | b :: l, acc, h => ones l _ (by show 1 ≤ acc * 10 + _; omega)
theorem bmg (l : List UInt8) (b : UInt8) : valN (l ++ [b]) = valN l * 10 + (b.toNat - 48) := by
 unfold valN
 rw [List.foldl_append]
 rfl
theorem cag {b : UInt8} (h : 48 ≤ b.toNat) : UInt8.ofNat (48 + (b.toNat - 48)) = b := by
 rw [show 48 + (b.toNat - 48) = b.toNat by omega]
 exact UInt8.ofNat_toNat
theorem buc : ∀ (n : Nat) (l : List UInt8), l.length = n + 1 → (∀ b ∈ l, dig b = true) → (1 < l.length → (l.getD 0 0).toNat ≠ 48) → decDigits (valN l) = l
 | 0, [b], _, hd, _ => by
  have h1 := anh.1 (hd b (List.mem_cons_self ..))
  have : valN [b] = b.toNat - 48 := by show 0 * 10 + (b.toNat - 48) = _; omega
  rw [this, decDigits, dif_pos (by omega), cag h1.1]
 | n + 1, l, hl, hd, h0 => by
  have hne : l ≠ [] := fun h => by rw [h] at hl; simp at hl
  have hs : l = l.dropLast ++ [l.getLast hne] := (List.dropLast_concat_getLast hne).symm
  generalize l.getLast hne = b at hs
  generalize hp : l.dropLast = p at hs
  have hpl : p.length = n + 1 := by rw [← hp, List.length_dropLast]; omega
  have hb := anh.1 (hd b (by rw [hs]; simp))
  have hpd : ∀ c ∈ p, dig c = true := fun c hc => hd c (by rw [hs]; exact List.mem_append_left _ hc)
  obtain ⟨c, r, rfl⟩ : ∃ c r, p = c :: r := by
   cases p with
   | nil => simp at hpl
   | cons c r => exact ⟨c, r, rfl⟩
  have hc0 : c.toNat ≠ 48 := by
   have := h0 (by omega)
   rw [hs] at this
   exact this
  have hc := anh.1 (hpd c (List.mem_cons_self ..))
  have h1 : 1 ≤ valN (c :: r) := ones r _ (by show 1 ≤ 0 * 10 + (c.toNat - 48); omega)
  have ih := buc n (c :: r) hpl hpd (fun _ => hc0)
  rw [hs, bmg, decDigits, dif_neg (by omega), show (valN (c :: r) * 10 + (b.toNat - 48)) / 10 = valN (c :: r) by omega, show (valN (c :: r) * 10 + (b.toNat - 48)) % 10 = b.toNat - 48 by omega, ih, cag hb.1]
theorem ofNat_toNat {k : Nat} (h : k ≤ 57) : (UInt8.ofNat k).toNat = k := by
 rw [UInt8.toNat_ofNat']
 omega
theorem bmv : ∀ (u : Nat), ∀ b ∈ decDigits u, dig b = true := by
 intro u
 induction u using Nat.strongRecOn with
 | _ u ih =>
  intro b hb
  rw [decDigits] at hb
  split at hb
  ·rw [List.mem_singleton.1 hb, anh, ofNat_toNat (by omega)]; omega
  ·rcases List.mem_append.1 hb with hb | hb
   ·exact ih (u / 10) (by omega) b hb
   ·rw [List.mem_singleton.1 hb, anh, ofNat_toNat (by omega)]; omega
theorem b78 : ∀ (u : Nat), valN (decDigits u) = u := by
 intro u
 induction u using Nat.strongRecOn with
 | _ u ih =>
  rw [decDigits]
  split
  ·show 0 * 10 + ((UInt8.ofNat (48 + u)).toNat - 48) = u
   rw [ofNat_toNat (by omega)]
   omega
  ·rw [bmg, ih (u / 10) (by omega), ofNat_toNat (by omega)]
   omega
theorem boh : ∀ (k u : Nat), u < 10 ^ (k + 1) → 1 ≤ (decDigits u).length ∧ (decDigits u).length ≤ k + 1
 | 0, u, h => by
  rw [decDigits, dif_pos (by simpa using h)]
  simp
 | k + 1, u, h => by
  rw [decDigits]
  split
  ·simp
  ·rw [Nat.pow_succ] at h
   have := boh k (u / 10) (by omega)
   rw [List.length_append]
   simp only [List.length_cons, List.length_nil]
   omega
theorem bz0 {p q : List UInt8} (h : 1 ≤ p.length) : (p ++ q).getD 0 0 = p.getD 0 0 := by
 cases p with
 | nil => simp at h
 | cons a r => rfl
theorem b3a (u : Nat) : 1 ≤ (decDigits u).length := by
 rw [decDigits]
 split
 ·simp
 ·rw [List.length_append]; simp
theorem b4q : ∀ (u : Nat), 1 ≤ u → ((decDigits u).getD 0 0).toNat ≠ 48 := by
 intro u
 induction u using Nat.strongRecOn with
 | _ u ih =>
  intro h
  rw [decDigits]
  split
  ·show (UInt8.ofNat (48 + u)).toNat ≠ 48
   rw [ofNat_toNat (by omega)]
   omega
  ·rw [bz0 (b3a _)]
   exact ih (u / 10) (by omega) (by omega)
theorem b3t {u : Nat} (h : u ≤ 1073741824) : nOk (decDigits u) = true ∧ valD (decDigits u) = u := by
 have hv : valD (decDigits u) = u := by rw [b38 (bmv u), b78]
 refine ⟨?_, hv⟩
 have hl := boh 9 u (by omega)
 unfold nOk bjg
 rw [hv, bok.2 (bmv u), decide_eq_true hl.2, decide_eq_true (show (u : Int) ≤ 1073741824 by omega)]
 have h1 : (decDigits u).isEmpty = false := by
  cases hd : decDigits u with
  | nil => rw [hd] at hl; simp at hl
  | cons a r => rfl
 rw [h1]
 have h2 : (decide (1 < (decDigits u).length) && decide (((decDigits u).getD 0 0).toNat = 48)) = false := by
  rw [Bool.and_eq_false_iff]
  by_cases hu : u = 0
  ·subst hu
   left
   rw [decDigits]
   rfl
  ·right
   exact decide_eq_false (b4q u (by omega))
 rw [h2]
 rfl
theorem bv1 {l : List UInt8} (h : nOk l = true) : (∀ b ∈ l, dig b = true) ∧ 1 ≤ l.length ∧ l.length ≤ 10 ∧ (1 < l.length → (l.getD 0 0).toNat ≠ 48) ∧ valD l ≤ 1073741824 := by
 unfold nOk bjg at h
 simp only [Bool.and_eq_true, Bool.not_eq_true', decide_eq_true_eq, Bool.and_eq_false_iff, decide_eq_false_iff_not] at h
 obtain ⟨⟨⟨⟨h1, h2⟩, h3⟩, h4⟩, h5⟩ := h
 refine ⟨bok.1 h4, ?_, h2, fun hl => ?_, h5⟩
 ·cases l with
  | nil => cases h1
  | cons a r => simp
 ·rcases h3 with h3 | h3
  ·exact absurd hl h3
  ·exact h3
theorem bal {v : Int} (h : 0 ≤ v) : itoa v = decDigits v.toNat := by
 unfold itoa
 rw [if_neg (by omega)]
theorem axw {l : List UInt8} (h : nOk l = true) : atoiAll l = .ok (valD l) ∧ itoa (valD l) = l ∧ 0 ≤ valD l ∧ valD l ≤ 1073741824 := by
 obtain ⟨h1, h2, h3, h4, h5⟩ := bv1 h
 have hv := b38 h1
 have h0 : 0 ≤ valD l := by omega
 refine ⟨?_, ?_, h0, h5⟩
 ·cases l with
  | nil => simp at h2
  | cons c r =>
   have hc := anh.1 (h1 c (List.mem_cons_self ..))
   unfold atoiAll
   simp only
   rw [if_neg (by omega)]
   have : parseMag (c :: r) = .ok (valN (c :: r)) := by
    unfold parseMag
    rw [if_neg (by simp)]
    refine b3z (c :: r) 0 h1 ?_
    rw [Nat.zero_add, Nat.one_mul]
    exact Nat.le_trans (Nat.pow_le_pow_right (by decide) h3) (by decide)
   rw [this]
   simp only
   rw [if_neg (by omega), if_neg (by omega), if_neg (by omega), hv]
 ·rw [bal h0, hv, Int.toNat_natCast]
  exact buc (l.length - 1) l (by omega) h1 h4
theorem by9 {l : List UInt8} {v : Int} (h : 0 ≤ v) (h' : v ≤ 1073741824) (hi : itoa v = l) : nOk l = true ∧ valD l = v := by
 rw [bal h] at hi
 subst hi
 obtain ⟨h1, h2⟩ := b3t (u := v.toNat) (by omega)
 exact ⟨h1, by rw [h2]; omega⟩
theorem as9 {l : List UInt8} (h : nOk l = true) : al1 l = numV l := by
 unfold al1
 rw [(axw h).1, ba4 h]
theorem axl {l : List UInt8} : nOk l = (match atoiAll l with | .ok v => decide (0 ≤ v) && (decide (v ≤ 1073741824) && decide (itoa v = l)) | _ => false) := by
 cases h : nOk l with
 | true =>
  obtain ⟨h1, h2, h3, h4⟩ := axw h
  rw [h1]
  simp only
  rw [decide_eq_true h2, decide_eq_true h3, decide_eq_true h4]
  rfl
 | false =>
  split
  ·rename_i v hv
   symm
   rw [Bool.and_eq_false_iff, Bool.and_eq_false_iff]
   by_cases h1 : 0 ≤ v
   ·by_cases h2 : v ≤ 1073741824
    ·by_cases h3 : itoa v = l
     ·rw [(by9 h1 h2 h3).1] at h; cases h
     ·exact .inr (.inr (decide_eq_false h3))
    ·exact .inr (.inl (decide_eq_false h2))
   ·exact .inl (decide_eq_false h1)
  ·rfl
end Go.Proofs.YtamhchkknlbanaaDoor.Be
