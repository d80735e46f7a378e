/-
  Contracts of a seat's functions: words, by the reference. Conditions: none.
-/
import Derived.Test.YtamhchkknlbanaaDoorBeBase
import Derived.Test.YtamhchkknlbanaaDoorSzD
import Derived.Lib.AtoiAll
import Derived.Lib.ItoaNum
import Derived.Lib.Bytealg
import Derived.Lib.Join
set_option linter.unusedSectionVars false
set_option linter.unusedVariables false
set_option linter.unusedSimpArgs false
namespace Go.Proofs.YtamhchkknlbanaaDoor.Be
open Go.Sx Go.Proofs
abbrev sI:Srt:=.int .i64
abbrev I(z:Int):X:=.lit (.int .i64 z)
abbrev mnX:X:=.lit (.int .i64 (-9223372036854775808))
abbrev mxX:X:=.lit (.int .i64 9223372036854775807)
abbrev by'(d:CD):List UInt8:=d.str.toList
def dig(b:UInt8):Bool:=decide (48≤b.toNat)&&decide (b.toNat≤57)
def digs(l:List UInt8):Bool:=l.all dig
def valD(l:List UInt8):Int:=l.foldl (fun n b=>10*n+((b.toNat:Int) - 48)) 0
def a6n(l:List UInt8):Bool:=!l.isEmpty&&decide (l.length≤10)&&!(decide (1<l.length)&&decide ((l.getD 0 0).toNat=48))&&digs l
def numV(l:List UInt8):Int:=if a6n l=true then valD l else 0
def digV(x:Int):Int:=if 48≤x∧x≤57 then x - 48 else if 97≤x∧x≤102 then x - 97+10 else -1
noncomputable section
def bjk(b:UInt8):Bool:=decide (b.toNat=48)||decide (b.toNat=49)
def ad1(l:List UInt8):Bool:=l.all bjk
def bhr(b:UInt8):List CD:=[aav (decide (b.toNat=49))]
def asr(l:List UInt8):List (List CD):=l.map bhr
def mkz(r:List (List CD)):CD:=.sl r.isEmpty r
def a0m(l:List UInt8):List (List CD):=if ad1 l=true then asr l else []
def btx(a b:UInt8):Int:=16*digV a.toNat+digV b.toNat
def hexR:List UInt8→List (List CD)
 | a::b::r=>[vInt .u8 (btx a b)]::hexR r
 | _=>[]
def hexB:List UInt8→Bool
 | a::b::r=>decide (0≤digV a.toNat)&&decide (0≤digV b.toNat)&&hexB r
 | _=>true
def hexV(l:List UInt8):List (List CD):=if hexB l=true then hexR l else []
def stp(s:List (List UInt8)×List UInt8)(b:UInt8):List (List UInt8)×List UInt8:=if b.toNat=32 then(s.1++[s.2],[]) else(s.1,s.2++[b])
def st(l:List UInt8):List (List UInt8)×List UInt8:=l.foldl stp ([],[])
def okB(b:UInt8):Bool:=decide (b.toNat=32)||(decide (33≤b.toNat)&&decide (b.toNat≤126))
def okW(l:List UInt8):Bool:=l.all okB&&(st l).1.all fun w=>!w.isEmpty
def tx(l:List UInt8):CD:=.v (.string ⟨l.toArray⟩)
def afz(w:List UInt8):List CD:=[tx w]
def ab8(l:List UInt8):List (List CD):=(st l).1.map afz
def line(d:CD):List UInt8:=by' d++[32]
def bs4(d:CD):List (List CD):=if okW (line d)=true then ab8 (line d) else []
def bi6:List (List UInt8×Int×Int×Int):=[([116,105,99,107],1,1,0),([116,97,107,101],2,1,0),([102,108,111,119],14,1,0),([97,116],3,1,0),([100,114,111,112],4,1,0),([100,111,117,98,108,101],5,1,0),([109,111,118,101],6,2,0),([99,117,116],7,2,0),([106,111,105,110],7,2,0),([97,115,107],8,2,1),([97,103,97,105,110],9,1,0),([114,101,111,112,101,110],11,1,0),([99,114,97,115,104],10,2,2),([102,117,115,101],12,2,0),([116,117,114,110],13,4,0)]
def aeg(l:List UInt8):Option (List UInt8×Int×Int×Int):=bi6.find? fun r=>r.1==l
def gw(W:List (List UInt8))(i:Nat):List UInt8:=W.getD i []
def aiy(e:Int):List CD:=[vInt .i64 0,vInt .i64 0,vInt .i64 0,vInt .i64 0,aav false,vInt .u8 0,vInt .i64 0,.sl true [],.sl true [],vInt .i64 e]
def nOk(l:List UInt8):Bool:=a6n l&&decide (valD l≤1073741824)
def nV(W:List (List UInt8))(i:Nat):Int:=numV (gw W i)
def nOks(W:List (List UInt8)):Nat→Bool
 | 0=>true
 | i+1=>nOks W i&&nOk (gw W (i+1))
def axr(k:Int)(v:Nat→Int)(is:Bool)(b e:CD):List CD :=
 if k=6 then [vInt .i64 k,vInt .i64 0,vInt .i64 (v 1),vInt .i64 (v 2),aav is,vInt .u8 0,vInt .i64 0,b,e,vInt .i64 0]
 else if k=7 then [vInt .i64 k,vInt .i64 (v 1),vInt .i64 0,vInt .i64 (v 2),aav is,vInt .u8 0,vInt .i64 0,b,e,vInt .i64 0]
 else if k=8 then [vInt .i64 k,vInt .i64 (v 1),vInt .i64 0,vInt .i64 0,aav is,vInt .u8 0,vInt .i64 (v 2),b,e,vInt .i64 0]
 else if k=9∨k=11 then [vInt .i64 k,vInt .i64 (v 1),vInt .i64 0,vInt .i64 0,aav is,vInt .u8 0,vInt .i64 0,b,e,vInt .i64 0]
 else if k=10∨k=12 then [vInt .i64 k,vInt .i64 (v 1),vInt .i64 (v 2),vInt .i64 0,aav is,vInt .u8 0,vInt .i64 0,b,e,vInt .i64 0]
 else if k=13 then [vInt .i64 k,vInt .i64 (v 1),vInt .i64 (v 2),vInt .i64 (v 3),aav is,vInt .u8 (v 4),vInt .i64 0,b,e,vInt .i64 0]
 else [vInt .i64 k,vInt .i64 0,vInt .i64 (v 1),vInt .i64 0,aav is,vInt .u8 0,vInt .i64 0,b,e,vInt .i64 0]
def hexP(l:List UInt8)(i:Nat):List (List CD):=hexR (l.take (2*i))++List.replicate (l.length / 2 - i) [vInt .u8 0]
def a5x(l:List UInt8):Bool:=hexB l&&(decide (0<l.length)&&decide (l.length % 2=0))
def bfl(l:List UInt8):Bool:=ad1 l&&decide (0<l.length)
def adj(W:List (List UInt8))(k m r:Int)(is:Bool):List CD :=
 if(W.length:Int)=m+1 then
  if nOks W m.toNat=true∧¬ (k=13∧255<nV W 4) then axr k (nV W) is (.sl true []) (.sl true []) else aiy 2
 else if r≠0∧(W.length:Int)=m+2 then
  if nOks W m.toNat=true then
   if r=1 then(if a5x (gw W (m.toNat+1))=true then axr k (nV W) is (mkz (hexV (gw W (m.toNat+1)))) (.sl true []) else aiy 2)
   else(if bfl (gw W (m.toNat+1))=true then axr k (nV W) is (.sl true []) (mkz (a0m (gw W (m.toNat+1)))) else aiy 2)
  else aiy 2
 else aiy 2
def bdn(W:List (List UInt8)):List CD :=
 match aeg (gw W 0) with
 | none=>aiy 6
 | some (w,k,m,r)=>adj W k m r (w==[99,117,116])
def ab0(d:CD):List CD:=if 2200<(by' d).length then aiy 3 else if okW (line d)=true then bdn (st (line d)).1 else aiy 4
def aip(l:List UInt8):Int:=match Lib.atoiAll l with
 | .ok v=>v
 | .syntax=>0
 | .range=>Lib.atoiSat l
def badB(b:UInt8):Bool:=decide (b.toNat<33)||decide (126<b.toNat)
def axu(l:List UInt8):Bool:=!l.isEmpty&&!l.any badB
def frm:List (List UInt8×Int×Bool×List UInt8×Int):=[([116,105,99,107],1,false,[110],0),([116,97,107,101],2,false,[110],0),([102,108,111,119],14,false,[110],0),([97,116],3,false,[110],0),([100,114,111,112],4,false,[110],0),([100,111,117,98,108,101],5,false,[110],0),([109,111,118,101],6,false,[110,97],0),([99,117,116],7,true,[119,97],0),([106,111,105,110],7,false,[119,97],0),([97,115,107],8,false,[119,111],98),([97,103,97,105,110],9,false,[119],0),([114,101,111,112,101,110],11,false,[119],0),([99,114,97,115,104],10,false,[119,110],107),([102,117,115,101],12,false,[119,110],0),([116,117,114,110],13,false,[119,110,97,109],0)]
def fits(k:Int)(is:Bool)(r:List UInt8×Int×Bool×List UInt8×Int):Bool:=decide (r.2.1=k)&&(!decide (k=7)||r.2.2.1==is)
def afj(k:Int)(is:Bool):Option (List UInt8×Int×Bool×List UInt8×Int):=frm.find? (fits k is)
def frow(k:Int)(is:Bool):List UInt8×Int×Bool×List UInt8×Int:=(afj k is).getD ([],0,false,[],0)
def bck(r:List UInt8×Int×Bool×List UInt8×Int)(n:Nat):List CD:=[tx r.1,vInt .i64 r.2.1,aav r.2.2.1,tx r.2.2.2.1,vInt .u8 r.2.2.2.2,vInt .i64 n]
def frmR:List (List CD):=frm.zipIdx.map fun r=>bck r.1 r.2
def af5(s:List (List CD))(k:Int)(is:Bool):Bool:=frm.zipIdx.all fun r=>!mIn (vInt .i64 (r.2:Nat)) s||!fits k is r.1
def anw(s:List (List CD)):Nat:=(frm.zipIdx.filter fun r=>!mIn (vInt .i64 (r.2:Nat)) s).length
def selV(who n a m o:Int)(c:UInt8):Int:=if c.toNat=119 then who else if c.toNat=110 then n else if c.toNat=97 then a else if c.toNat=111 then o else if c.toNat=109 then m else 0
def hasC(F:List UInt8)(c:Int):Bool:=F.any fun b=>decide ((b.toNat:Int)=c)
def leftV(F:List UInt8)(c x:Int):Int:=if hasC F c=true then 0 else x
def inR(z:Int):Bool:=decide (0≤z)&&decide (z≤1073741824)
def numW(who n a m o:Int)(c:UInt8):List UInt8:=Lib.itoa (selV who n a m o c)
def hexC(n:Nat):UInt8:=[48,49,50,51,52,53,54,55,56,57,97,98,99,100,101,102].getD n 0
def aus(b:UInt8):List UInt8:=[hexC (b.toNat / 16),hexC (b.toNat % 16)]
def hexT(r:List (List CD)):List UInt8:=(r.map ada).flatMap aus
def markT(r:List (List CD)):List UInt8:=r.map fun r=>if(r.getD 0 default).bv=true then 49 else 48
def asw(r:List CD):List UInt8:=by' (r.getD 0 default)
def acp(w F:List UInt8)(who n a m o:Int)(i:Nat):List (List UInt8):=w::(F.take i).map (numW who n a m o)
def ajs(rest:Int)(b e:List (List CD)):List (List UInt8):=if rest=98 then(if b=[] then [] else [hexT b]) else if rest=107 then(if e=[] then [] else [markT e]) else []
def ad9(k who n a m o:Int)(is:Bool)(F:List UInt8)(rest:Int)(b e:List (List CD)):Bool :=
 !decide (leftV F 119 who=0)||(!decide (leftV F 110 n=0)||(!decide (leftV F 97 a=0)||((is&&!decide (k=7))||(!decide (leftV F 109 m=0)||(!decide (leftV F 111 o=0)||((!decide (rest=98)&&!b.isEmpty)||(!decide (rest=107)&&!e.isEmpty)))))))
def ag6(k who n a m o:Int)(is:Bool)(b e:List (List CD)):List UInt8×Int :=
 match afj k is with
 | none=>([],2)
 | some (w,_,_,F,rest) =>
  if F.all (fun c=>inR (selV who n a m o c))=true then
   if ad9 k who n a m o is F rest b e=true then([],2)
   else if 2200<(Lib.join (acp w F who n a m o F.length++ajs rest b e) [32]).length then([],3)
   else(Lib.join (acp w F who n a m o F.length++ajs rest b e) [32],0)
  else([],2)
def aox(l:List CD):List UInt8×Int:=ag6 (l.getD 0 default).iv (l.getD 1 default).iv (l.getD 2 default).iv (l.getD 3 default).iv (l.getD 5 default).iv (l.getD 6 default).iv (l.getD 4 default).bv (l.getD 7 default).rows (l.getD 8 default).rows
def auz:List Int:=[1,2,14,3,4,5,6,7,8,9,11,10,12,13]
def noK(k:Int)(i:Nat):Bool:=(auz.take i).all fun z=>!decide (z=k)
def af6(k who n a m o:Int):List Int:=if k=6 then [n,a] else if k=7 then [who,a] else if k=8 then [who,o] else if k=9∨k=11 then [who] else if k=10∨k=12 then [who,n] else if k=13 then [who,n,a,m] else [n]
def intRow(z:Int):List CD:=[vInt .i64 z]
def ama(w:List UInt8)(l:List (List CD))(i:Nat):List UInt8:=w++(l.take i).flatMap fun r=>32::Lib.itoa (r.getD 0 default).iv
def amf(l:List (List CD))(i:Nat):Bool:=(l.take i).all fun r=>inR (r.getD 0 default).iv
def nAt(l:List (List CD))(i:Nat):Int:=((l.getD i []).getD 0 default).iv
def need(k:Int):Int:=if k=6∨k=7∨k=8∨k=10∨k=12 then 2 else if k=1∨k=2∨k=3∨k=4∨k=5∨k=14∨k=9∨k=11 then 1 else 4
def agz(k:Int)(l:List (List CD)):List CD :=
 if k=1∨k=2∨k=3∨k=4∨k=5∨k=14 then [vInt .i64 0,vInt .i64 (nAt l 0),vInt .i64 0,vInt .u8 0,vInt .i64 0]
 else if k=6 then [vInt .i64 0,vInt .i64 (nAt l 0),vInt .i64 (nAt l 1),vInt .u8 0,vInt .i64 0]
 else if k=7 then [vInt .i64 (nAt l 0),vInt .i64 0,vInt .i64 (nAt l 1),vInt .u8 0,vInt .i64 0]
 else if k=8 then [vInt .i64 (nAt l 0),vInt .i64 0,vInt .i64 0,vInt .u8 0,vInt .i64 (nAt l 1)]
 else if k=9∨k=11 then [vInt .i64 (nAt l 0),vInt .i64 0,vInt .i64 0,vInt .u8 0,vInt .i64 0]
 else if k=10∨k=12 then [vInt .i64 (nAt l 0),vInt .i64 (nAt l 1),vInt .i64 0,vInt .u8 0,vInt .i64 0]
 else [vInt .i64 (nAt l 0),vInt .i64 (nAt l 1),vInt .i64 (nAt l 2),vInt .u8 (IntKind.u8.wrap (nAt l 3)),vInt .i64 0]
def adv(r:List CD):Bool:=(r.getD 0 default).bv
def asx(l:List CD):Bool:=decide ((l.getD 8 default).rows.map adv=(l.getD 17 default).rows.map adv)&&(eqC (l.getD 0 default) (l.getD 9 default)&&(eqC (l.getD 1 default) (l.getD 10 default)&&(eqC (l.getD 2 default) (l.getD 11 default)&&(eqC (l.getD 3 default) (l.getD 12 default)&&(eqC (l.getD 4 default) (l.getD 13 default)&&(eqC (l.getD 5 default) (l.getD 14 default)&&(eqC (l.getD 6 default) (l.getD 15 default)&&decide (((l.getD 7 default).rows.map ada)=((l.getD 16 default).rows.map ada)))))))))
end
@[reducible] noncomputable def U:Us:=⟨fun n l=>match n with
 | 201=>vInt .i64 (numV (by' (l.getD 0 default)))
 | 202=>aav (a6n (by' (l.getD 0 default))&&decide (valD (by' (l.getD 0 default))≤1073741824))
 | 203=>vInt .i64 (valD ((by' (l.getD 0 default)).take (l.getD 1 default).iv.toNat))
 | 204=>aav (digs ((by' (l.getD 0 default)).take (l.getD 1 default).iv.toNat))
 | 205=>vInt .i64 (digV (l.getD 0 default).iv)
 | 206=>mkz (a0m (by' (l.getD 0 default)))
 | 207=>aav (ad1 (by' (l.getD 0 default))&&decide (0<(by' (l.getD 0 default)).length))
 | 208=>mkz (asr ((by' (l.getD 0 default)).take (l.getD 1 default).iv.toNat))
 | 209=>aav (ad1 ((by' (l.getD 0 default)).take (l.getD 1 default).iv.toNat))
 | 210=>mkz (hexV (by' (l.getD 0 default)))
 | 211=>aav (hexB (by' (l.getD 0 default))&&(decide (0<(by' (l.getD 0 default)).length)&&decide ((by' (l.getD 0 default)).length % 2=0)))
 | 212=>mkz (hexR ((by' (l.getD 0 default)).take (l.getD 1 default).iv.toNat))
 | 213=>aav (hexB ((by' (l.getD 0 default)).take (l.getD 1 default).iv.toNat)&&decide ((l.getD 1 default).iv.toNat % 2=0))
 | 220=>mkz (ab8 ((line (l.getD 0 default)).take (l.getD 1 default).iv.toNat))
 | 221=>tx (st ((line (l.getD 0 default)).take (l.getD 1 default).iv.toNat)).2
 | 222=>aav (okW ((line (l.getD 0 default)).take (l.getD 1 default).iv.toNat))
 | 223=>mkz (bs4 (l.getD 0 default))
 | 224=>aav (okW (line (l.getD 0 default)))
 | 230=>vInt .i64 (((aeg (by' (l.getD 0 default))).map fun r=>r.2.1).getD 0)
 | 231=>vInt .i64 (((aeg (by' (l.getD 0 default))).map fun r=>r.2.2.1).getD 0)
 | 232=>vInt .i64 (((aeg (by' (l.getD 0 default))).map fun r=>r.2.2.2).getD 0)
 | 233=>aav (aeg (by' (l.getD 0 default))).isSome
 | 240=>(ab0 (l.getD 0 default)).getD 0 default
 | 241=>(ab0 (l.getD 0 default)).getD 1 default
 | 242=>(ab0 (l.getD 0 default)).getD 2 default
 | 243=>(ab0 (l.getD 0 default)).getD 3 default
 | 244=>(ab0 (l.getD 0 default)).getD 4 default
 | 245=>(ab0 (l.getD 0 default)).getD 5 default
 | 246=>(ab0 (l.getD 0 default)).getD 6 default
 | 247=>(ab0 (l.getD 0 default)).getD 7 default
 | 248=>(ab0 (l.getD 0 default)).getD 8 default
 | 249=>(ab0 (l.getD 0 default)).getD 9 default
 | 250=>vInt .i64 (aip (by' (l.getD 0 default)))
 | 251=>tx (Lib.itoa (l.getD 0 default).iv)
 | 252=>CD.sl false (ab8 (line (l.getD 0 default)))
 | 254=>aav ((by' (l.getD 0 default)).any badB)
 | 255=>vInt .i64 (Lib.indexByte (by' (l.getD 0 default)) (l.getD 1 default).iv.toNat.toUInt8)
 | 256=>aav (((st (line (l.getD 0 default))).1.take (l.getD 1 default).iv.toNat).all axu)
 | 257=>aav (((by' (l.getD 0 default)).take (l.getD 1 default).iv.toNat).all fun b=>decide (b.toNat≤126))
 | 258=>aav (ad1 (by' (l.getD 0 default)))
 | 259=>aav (hexB (by' (l.getD 0 default))&&decide ((by' (l.getD 0 default)).length % 2=0))
 | 260=>if hexB (by' (l.getD 0 default))=true then CD.sl false (hexR (by' (l.getD 0 default))) else CD.sl true []
 | 261=>CD.sl false (hexP (by' (l.getD 0 default)) (l.getD 1 default).iv.toNat)
 | 262=>aav (hexB ((by' (l.getD 0 default)).take (2*(l.getD 1 default).iv.toNat)))
 | 263=>CD.sl false frmR
 | 264=>aav (af5 (l.getD 0 default).rows (l.getD 1 default).iv (l.getD 2 default).bv)
 | 265=>vInt .i64 (anw (l.getD 0 default).rows)
 | 270=>tx (frow (l.getD 0 default).iv (l.getD 1 default).bv).1
 | 271=>vInt .i64 (frow (l.getD 0 default).iv (l.getD 1 default).bv).2.1
 | 272=>aav (frow (l.getD 0 default).iv (l.getD 1 default).bv).2.2.1
 | 273=>tx (frow (l.getD 0 default).iv (l.getD 1 default).bv).2.2.2.1
 | 274=>vInt .u8 (frow (l.getD 0 default).iv (l.getD 1 default).bv).2.2.2.2
 | 275=>aav (afj (l.getD 0 default).iv (l.getD 1 default).bv).isSome
 | 276=>CD.sl false ((acp (by' (l.getD 0 default)) (by' (l.getD 1 default)) (l.getD 2 default).iv (l.getD 3 default).iv (l.getD 4 default).iv (l.getD 5 default).iv (l.getD 6 default).iv (l.getD 7 default).iv.toNat).map afz)
 | 277=>vInt .i64 (leftV ((by' (l.getD 0 default)).take (l.getD 1 default).iv.toNat) (l.getD 2 default).iv (l.getD 3 default).iv)
 | 278=>vInt .u8 (leftV ((by' (l.getD 0 default)).take (l.getD 1 default).iv.toNat) (l.getD 2 default).iv (l.getD 3 default).iv)
 | 279=>aav (((by' (l.getD 0 default)).take (l.getD 6 default).iv.toNat).all fun c=>inR (selV (l.getD 1 default).iv (l.getD 2 default).iv (l.getD 3 default).iv (l.getD 4 default).iv (l.getD 5 default).iv c))
 | 282=>tx (Lib.join ((l.getD 0 default).rows.map asw) (by' (l.getD 1 default)))
 | 283=>tx (aox [(l.getD 0 default),(l.getD 1 default),(l.getD 2 default),(l.getD 3 default),(l.getD 4 default),(l.getD 5 default),(l.getD 6 default),(l.getD 7 default),(l.getD 8 default)]).1
 | 284=>vInt .i64 (aox [(l.getD 0 default),(l.getD 1 default),(l.getD 2 default),(l.getD 3 default),(l.getD 4 default),(l.getD 5 default),(l.getD 6 default),(l.getD 7 default),(l.getD 8 default)]).2
 | 286=>CD.sl false ((af6 (l.getD 0 default).iv (l.getD 1 default).iv (l.getD 2 default).iv (l.getD 3 default).iv (l.getD 4 default).iv (l.getD 5 default).iv).map intRow)
 | 287=>tx (ama (by' (l.getD 0 default)) (l.getD 1 default).rows (l.getD 2 default).iv.toNat)
 | 288=>aav (amf (l.getD 0 default).rows (l.getD 1 default).iv.toNat)
 | 289=>vInt .i64 (need (l.getD 0 default).iv)
 | 290=>(agz (l.getD 0 default).iv (l.getD 1 default).rows).getD 0 default
 | 291=>(agz (l.getD 0 default).iv (l.getD 1 default).rows).getD 1 default
 | 292=>(agz (l.getD 0 default).iv (l.getD 1 default).rows).getD 2 default
 | 293=>(agz (l.getD 0 default).iv (l.getD 1 default).rows).getD 3 default
 | 294=>(agz (l.getD 0 default).iv (l.getD 1 default).rows).getD 4 default
 | 296=>aav (asx [(l.getD 0 default),(l.getD 1 default),(l.getD 2 default),(l.getD 3 default),(l.getD 4 default),(l.getD 5 default),(l.getD 6 default),(l.getD 7 default),(l.getD 8 default),(l.getD 9 default),(l.getD 10 default),(l.getD 11 default),(l.getD 12 default),(l.getD 13 default),(l.getD 14 default),(l.getD 15 default),(l.getD 16 default),(l.getD 17 default)])
 | 297=>aav (decide (((l.getD 0 default).rows.take (l.getD 2 default).iv.toNat).map adv=((l.getD 1 default).rows.take (l.getD 2 default).iv.toNat).map adv))
 | 298=>tx (hexT (l.getD 0 default).rows)
 | 299=>tx (by' (l.getD 0 default)++(if(l.getD 2 default).iv.toNat=0 then [] else 32::markT ((l.getD 1 default).rows.take (l.getD 2 default).iv.toNat)))
 | 300=>tx (markT (l.getD 0 default).rows)
 | 301=>tx (hexT ((l.getD 0 default).rows.take (l.getD 1 default).iv.toNat))
 | 302=>CD.sl false (((markT ((l.getD 0 default).rows.take (l.getD 1 default).iv.toNat))++List.replicate ((l.getD 0 default).rows.length - (l.getD 1 default).iv.toNat) 0).map ab9)
 | 313=>aav (noK (l.getD 0 default).iv (l.getD 1 default).iv.toNat)
 | 314=>tx (ama (by' (l.getD 0 default)) (l.getD 1 default).rows (l.getD 1 default).rows.length++(if(l.getD 2 default).rows.isEmpty=true then [] else 32::hexT (l.getD 2 default).rows))
 | _=>default,lcOf []⟩
theorem bgq(a:CD):@Us.u U 201 [a]=vInt .i64 (numV (by' a)):=rfl
theorem a8v(a:CD):@Us.u U 202 [a]=aav (a6n (by' a)&&decide (valD (by' a)≤1073741824)):=rfl
theorem bgr(a b:CD):@Us.u U 203 [a,b]=vInt .i64 (valD ((by' a).take b.iv.toNat)):=rfl
theorem bgs(a b:CD):@Us.u U 204 [a,b]=aav (digs ((by' a).take b.iv.toNat)):=rfl
theorem bgt(a:CD):@Us.u U 205 [a]=vInt .i64 (digV a.iv):=rfl
theorem aw7(a:CD):@Us.u U 206 [a]=mkz (a0m (by' a)):=rfl
theorem bgu(a:CD):@Us.u U 207 [a]=aav (ad1 (by' a)&&decide (0<(by' a).length)):=rfl
theorem a3v(a b:CD):@Us.u U 208 [a,b]=mkz (asr ((by' a).take b.iv.toNat)):=rfl
theorem a3w(a b:CD):@Us.u U 209 [a,b]=aav (ad1 ((by' a).take b.iv.toNat)):=rfl
theorem bbh(a:CD):@Us.u U 210 [a]=mkz (hexV (by' a)):=rfl
theorem bgv(a:CD):@Us.u U 211 [a]=aav (hexB (by' a)&&(decide (0<(by' a).length)&&decide ((by' a).length % 2=0))):=rfl
theorem bgw(a b:CD):@Us.u U 212 [a,b]=mkz (hexR ((by' a).take b.iv.toNat)):=rfl
theorem bgx(a b:CD):@Us.u U 213 [a,b]=aav (hexB ((by' a).take b.iv.toNat)&&decide (b.iv.toNat % 2=0)):=rfl
theorem bgy(a b:CD):@Us.u U 220 [a,b]=mkz (ab8 ((line a).take b.iv.toNat)):=rfl
theorem bgz(a b:CD):@Us.u U 221 [a,b]=tx (st ((line a).take b.iv.toNat)).2:=rfl
theorem bg0(a b:CD):@Us.u U 222 [a,b]=aav (okW ((line a).take b.iv.toNat)):=rfl
theorem bg1(a:CD):@Us.u U 223 [a]=mkz (bs4 a):=rfl
theorem aw8(a:CD):@Us.u U 224 [a]=aav (okW (line a)):=rfl
theorem a3x(a:CD):@Us.u U 230 [a]=vInt .i64 (((aeg (by' a)).map fun r=>r.2.1).getD 0):=rfl
theorem a3y(a:CD):@Us.u U 231 [a]=vInt .i64 (((aeg (by' a)).map fun r=>r.2.2.1).getD 0):=rfl
theorem a3z(a:CD):@Us.u U 232 [a]=vInt .i64 (((aeg (by' a)).map fun r=>r.2.2.2).getD 0):=rfl
theorem a4a(a:CD):@Us.u U 233 [a]=aav (aeg (by' a)).isSome:=rfl
theorem a8w(a:CD):@Us.u U 240 [a]=(ab0 a).getD 0 default:=rfl
theorem a8x(a:CD):@Us.u U 241 [a]=(ab0 a).getD 1 default:=rfl
theorem a8y(a:CD):@Us.u U 242 [a]=(ab0 a).getD 2 default:=rfl
theorem a8z(a:CD):@Us.u U 243 [a]=(ab0 a).getD 3 default:=rfl
theorem a81(a:CD):@Us.u U 244 [a]=(ab0 a).getD 4 default:=rfl
theorem a88(a:CD):@Us.u U 245 [a]=(ab0 a).getD 5 default:=rfl
theorem a9a(a:CD):@Us.u U 246 [a]=(ab0 a).getD 6 default:=rfl
theorem a9b(a:CD):@Us.u U 247 [a]=(ab0 a).getD 7 default:=rfl
theorem a9c(a:CD):@Us.u U 248 [a]=(ab0 a).getD 8 default:=rfl
theorem a9d(a:CD):@Us.u U 249 [a]=(ab0 a).getD 9 default:=rfl
theorem a9e(a:CD):@Us.u U 250 [a]=vInt .i64 (aip (by' a)):=rfl
theorem aco(a:CD):@Us.u U 251 [a]=tx (Lib.itoa a.iv):=rfl
theorem asz(a:CD):@Us.u U 252 [a]=CD.sl false (ab8 (line a)):=rfl
theorem a4b(a:CD):@Us.u U 254 [a]=aav ((by' a).any badB):=rfl
theorem a4c(a b:CD):@Us.u U 255 [a,b]=vInt .i64 (Lib.indexByte (by' a) b.iv.toNat.toUInt8):=rfl
theorem a9f(a b:CD):@Us.u U 256 [a,b]=aav (((st (line a)).1.take b.iv.toNat).all axu):=rfl
theorem a9g(a b:CD):@Us.u U 257 [a,b]=aav (((by' a).take b.iv.toNat).all fun b=>decide (b.toNat≤126)):=rfl
theorem aw9(a:CD):@Us.u U 258 [a]=aav (ad1 (by' a)):=rfl
theorem a4d(a:CD):@Us.u U 259 [a]=aav (hexB (by' a)&&decide ((by' a).length % 2=0)):=rfl
theorem a4e(a:CD):@Us.u U 260 [a]=if hexB (by' a)=true then CD.sl false (hexR (by' a)) else CD.sl true []:=rfl
theorem a9h(a b:CD):@Us.u U 261 [a,b]=CD.sl false (hexP (by' a) b.iv.toNat):=rfl
theorem a9i(a b:CD):@Us.u U 262 [a,b]=aav (hexB ((by' a).take (2*b.iv.toNat))):=rfl
theorem bbj:@Us.u U 263 []=CD.sl false frmR:=rfl
theorem bg2(x0 x1 x2:CD):@Us.u U 264 [x0,x1,x2]=aav (af5 x0.rows x1.iv x2.bv):=rfl
theorem bg3(x0:CD):@Us.u U 265 [x0]=vInt .i64 (anw x0.rows):=rfl
theorem aci(x0 x1:CD):@Us.u U 270 [x0,x1]=tx (frow x0.iv x1.bv).1:=rfl
theorem a4f(x0 x1:CD):@Us.u U 271 [x0,x1]=vInt .i64 (frow x0.iv x1.bv).2.1:=rfl
theorem bg4(x0 x1:CD):@Us.u U 272 [x0,x1]=aav (frow x0.iv x1.bv).2.2.1:=rfl
theorem a4g(x0 x1:CD):@Us.u U 273 [x0,x1]=tx (frow x0.iv x1.bv).2.2.2.1:=rfl
theorem a4h(x0 x1:CD):@Us.u U 274 [x0,x1]=vInt .u8 (frow x0.iv x1.bv).2.2.2.2:=rfl
theorem a4i(x0 x1:CD):@Us.u U 275 [x0,x1]=aav (afj x0.iv x1.bv).isSome:=rfl
theorem a4j(x0 x1 x2 x3 x4 x5 x6 x7:CD):@Us.u U 276 [x0,x1,x2,x3,x4,x5,x6,x7]=CD.sl false ((acp (by' x0) (by' x1) x2.iv x3.iv x4.iv x5.iv x6.iv x7.iv.toNat).map afz):=rfl
theorem a4k(x0 x1 x2 x3:CD):@Us.u U 277 [x0,x1,x2,x3]=vInt .i64 (leftV ((by' x0).take x1.iv.toNat) x2.iv x3.iv):=rfl
theorem a4l(x0 x1 x2 x3:CD):@Us.u U 278 [x0,x1,x2,x3]=vInt .u8 (leftV ((by' x0).take x1.iv.toNat) x2.iv x3.iv):=rfl
theorem a4m(x0 x1 x2 x3 x4 x5 x6:CD):@Us.u U 279 [x0,x1,x2,x3,x4,x5,x6]=aav (((by' x0).take x6.iv.toNat).all fun c=>inR (selV x1.iv x2.iv x3.iv x4.iv x5.iv c)):=rfl
theorem ax3(x0 x1:CD):@Us.u U 282 [x0,x1]=tx (Lib.join (x0.rows.map asw) (by' x1)):=rfl
theorem bbk(x0 x1 x2 x3 x4 x5 x6 x7 x8:CD):@Us.u U 283 [x0,x1,x2,x3,x4,x5,x6,x7,x8]=tx (aox [x0,x1,x2,x3,x4,x5,x6,x7,x8]).1:=rfl
theorem bbl(x0 x1 x2 x3 x4 x5 x6 x7 x8:CD):@Us.u U 284 [x0,x1,x2,x3,x4,x5,x6,x7,x8]=vInt .i64 (aox [x0,x1,x2,x3,x4,x5,x6,x7,x8]).2:=rfl
theorem acs(x0 x1 x2 x3 x4 x5:CD):@Us.u U 286 [x0,x1,x2,x3,x4,x5]=CD.sl false ((af6 x0.iv x1.iv x2.iv x3.iv x4.iv x5.iv).map intRow):=rfl
theorem acy(x0 x1 x2:CD):@Us.u U 287 [x0,x1,x2]=tx (ama (by' x0) x1.rows x2.iv.toNat):=rfl
theorem acz(x0 x1:CD):@Us.u U 288 [x0,x1]=aav (amf x0.rows x1.iv.toNat):=rfl
theorem acr(x0:CD):@Us.u U 289 [x0]=vInt .i64 (need x0.iv):=rfl
theorem ahv(x0 x1:CD):@Us.u U 290 [x0,x1]=(agz x0.iv x1.rows).getD 0 default:=rfl
theorem ahw(x0 x1:CD):@Us.u U 291 [x0,x1]=(agz x0.iv x1.rows).getD 1 default:=rfl
theorem ahx(x0 x1:CD):@Us.u U 292 [x0,x1]=(agz x0.iv x1.rows).getD 2 default:=rfl
theorem ahy(x0 x1:CD):@Us.u U 293 [x0,x1]=(agz x0.iv x1.rows).getD 3 default:=rfl
theorem ahz(x0 x1:CD):@Us.u U 294 [x0,x1]=(agz x0.iv x1.rows).getD 4 default:=rfl
theorem acu(x0 x1 x2 x3 x4 x5 x6 x7 x8 x9 x10 x11 x12 x13 x14 x15 x16 x17:CD):@Us.u U 296 [x0,x1,x2,x3,x4,x5,x6,x7,x8,x9,x10,x11,x12,x13,x14,x15,x16,x17]=aav (asx [x0,x1,x2,x3,x4,x5,x6,x7,x8,x9,x10,x11,x12,x13,x14,x15,x16,x17]):=rfl
theorem a9j(x0 x1 x2:CD):@Us.u U 297 [x0,x1,x2]=aav (decide ((x0.rows.take x2.iv.toNat).map adv=(x1.rows.take x2.iv.toNat).map adv)):=rfl
theorem acj(x0:CD):@Us.u U 298 [x0]=tx (hexT x0.rows):=rfl
theorem ac0(x0 x1 x2:CD):@Us.u U 299 [x0,x1,x2]=tx (by' x0++(if x2.iv.toNat=0 then [] else 32::markT (x1.rows.take x2.iv.toNat))):=rfl
theorem a4n(x0:CD):@Us.u U 300 [x0]=tx (markT x0.rows):=rfl
theorem a9k(x0 x1:CD):@Us.u U 301 [x0,x1]=tx (hexT (x0.rows.take x1.iv.toNat)):=rfl
theorem bg5(x0 x1:CD):@Us.u U 302 [x0,x1]=CD.sl false (((markT (x0.rows.take x1.iv.toNat))++List.replicate (x0.rows.length - x1.iv.toNat) 0).map ab9):=rfl
theorem b0p(x0 x1:CD):@Us.u U 313 [x0,x1]=aav (noK x0.iv x1.iv.toNat):=rfl
theorem adl(x0 x1 x2:CD):@Us.u U 314 [x0,x1,x2]=tx (ama (by' x0) x1.rows x1.rows.length++(if x2.rows.isEmpty=true then [] else 32::hexT x2.rows)):=rfl
noncomputable def T0:FuncId→Option Fsp:=fun _=>none
theorem hT0:∀ f S,T0 f=some S→abk U Tryd.prog f S:=fun f S h=>by cases h
theorem axa{a b:Bool}:(aav a=aav b)=(a=b):=by unfold aav;simp
theorem a4o{k:IntKind}{a b:Int}:(vInt k a=vInt k b)=(a=b):=by unfold vInt;simp
theorem a1k{r r':List (List CD)}:(CD.sl (true&&r.isEmpty) r=mkz r')=(r=r'):=by
 unfold mkz
 simp only [Bool.true_and,CD.sl.injEq,eq_iff_iff]
 exact⟨fun h=>h.2,fun h=>by rw [h];exact⟨rfl,rfl⟩⟩
theorem atf{r:List (List CD)}:CD.sl (true&&r.isEmpty) r=mkz r:=by unfold mkz;rfl
theorem bj8{r r':List (List CD)}:(mkz r=mkz r')=(r=r'):=by rw [← atf,a1k]
theorem abx(b:Bool):CD.v (.bool b)=aav b:=rfl
theorem aa7(k:IntKind)(z:Int):CD.v (.int k z)=vInt k z:=rfl
theorem bjo{α:Type}{a b:α}:([a]=[b])=(a=b):=by simp
def byAt(d:CD)(i:Int):Int:=(((by' d).getD i.toNat 0).toNat:Int)
theorem axi[Sg](a i:X):den (.ap .sidx [a,i])=vInt .u8 (byAt (den a) (den i).iv):=rfl
theorem bmy{d:CD}(hT:Typ .str d):∃ s:ByteArray,d=.v (.string s)∧s.size≤maxN:=by
 obtain⟨m,u,s,h1,h2,h3⟩:=hT
 exact⟨s,h1,h3⟩
theorem afi{d:CD}(hT:Typ .str d):(d.slen:Int)=(by' d).length:=by
 obtain⟨s,rfl,h⟩:=bmy hT
 show((clip s.size:Nat):Int)=((s.toList).length:Int)
 rw [aek h,ByteArray.toList_eq]
 rfl
theorem arl{a b:ByteArray}:(eqC (.v (.string a)) (.v (.string b))=true)=(a.toList=b.toList):=by
 show((a.toList==b.toList)=true)=_
 rw [beq_iff_eq]
theorem biu{d:CD}(hT:Typ .str d):(eqC d (.v (.string ⟨⟨[]⟩⟩))=true)=(by' d=[]):=by
 obtain⟨s,rfl,h⟩:=bmy hT
 rw [arl,ByteArray.toList_eq ⟨⟨[]⟩⟩]
 rfl
end Go.Proofs.YtamhchkknlbanaaDoor.Be

namespace Go.Sx
noncomputable section
def orV2(a b:OraV):OraV:=fun t args H=>match a t args H with
 | some r=>some r
 | none=>b t args H
end
theorem bur{U:Us}{P:Program}{a b:OraV}(ha:af0 U P a)(hb:af0 U P b):af0 U P (orV2 a b):=by
 intro t args H v outs h
 unfold orV2 at h
 split at h
 ·rename_i r hr
  cases h
  exact ha t args H v outs hr
 ·exact hb t args H v outs h
theorem abk.ofW{P:Program}[Plain P]{U:Us}{T:FuncId→Option Fsp}{l:List (FuncId×Inl)}{y:Nat→Hs}{dp:Nat}{f:FuncId}{fn:Func}{fuel fk:Nat}{hs:Hs}{S:Fsp}{a:OraV}{v:List VC}{outs:List (List X×List (List X))}(hm:P.follows .mixedOrders=true)(hT:∀ f S,T f=some S→abk U P f S)
  (hl:∀ x∈l,InlOK U P x) (ha:af0 U P a) (hf:FnAt P f fn) (hrg:af2 U.lc (keyOf f) (acv fn))
  (h:runV P ⟨ahj T,orV2 a (orvK P (ahj T) fuel fk ⟨apf l,y,U.lc⟩ dp),Tb.ent ⟨apf l,y,U.lc⟩,fuel,fk,none,keyOf f⟩ hs fn (acv fn) S=some (v,outs)) (hv:∀ z∈v,VCok U z) (hend:∀ o∈outs,∀ σ:Sg,σ.toUs=U→@Holds σ o.1→∃ q∈S.outs,@Holds σ q.1∧q.2.map (@denL σ)=o.2.map (@denL σ)):abk U P f S :=
 afr hm ⟨aiv hT,bur ha (anb hm (aiv hT) (TbOK.of hl) dp),(TbOK.of hl).ent⟩ rfl hrg hf.at' hf.body hf.call hf.flow h hv hend
end Go.Sx

namespace Go.Sx
noncomputable section
def He:HP:=⟨.nil,0,0,[],0⟩
def bjv:List Cel→Bool
 | []=>true
 | .lit _::r=>bjv r
 | _::_=>false
def bjw:List Ent→Bool
 | []=>true
 | e::r=>bjv e.1.2&&(bjv e.2.1.2&&bjw r)
def mapO(f:Nat)(es:List Ent)(clock:Nat):OraM:=fun t args H =>
 match t,args with
 | .f g,[]=>match Nat.beq g f with
  | true=>some [(.one (.mp H.n),H.push (.lf [some (.map es clock)]))]
  | false=>none
 | _,_=>none
def orM2(a b:OraM):OraM:=fun t args H=>match a t args H with
 | some r=>some r
 | none=>b t args H
def au8(x:Option (List VC×List (AV×HP))):Option (List Ent×Nat) :=
 match x with
 | some ([],[(.one (.mp b),H)])=>match am9 H b with
  | some (es,c)=>match bjw es with
   | true=>some (es,c)
   | false=>none
  | none=>none
 | _=>none
end
theorem buq{U:Us}{P:Program}{a b:OraM}(ha:agh U P a)(hb:agh U P b):agh U P (orM2 a b):=by
 intro σ hU t args H outs h
 unfold orM2 at h
 split at h
 ·rename_i r hr
  cases h
  exact ha σ hU t args H outs hr
 ·exact hb σ hU t args H outs h
section
variable {ρ ρ':PM}
theorem CRel.lit{σ σ':Sg}{v:Value}{u:Value}(h:@CRel σ ρ (.lit v) u):@CRel σ' ρ' (.lit v) u:=h
theorem a6c{σ σ':Sg}:∀ {cs:List Cel} {us:List Value},bjv cs=true→All2 (@CRel σ ρ) cs us→All2 (@CRel σ' ρ') cs us
 | [],[],_,_=>trivial
 | c::cs,u::us,h,⟨h1,h2⟩=>by
  cases c with
  | lit v=>exact⟨h1,a6c (cs:=cs) h h2⟩
  | _=>cases h
 | [],_::_,_,h=>h.elim
 | _::_,[],_,h=>h.elim
theorem bcy{σ σ':Sg}:∀ {p:Bool×List Cel} {u:Value},bjv p.2=true→@PRel σ ρ p u→@PRel σ' ρ' p u
 | (true,xs),u,h,⟨us,h1,h2⟩=>⟨us,h1,a6c h h2⟩
 | (false,[c]),u,h,hr=>by
  cases c with
  | lit v=>exact hr
  | _=>cases h
 | (false,[]),_,_,hr=>hr.elim
 | (false,_::_::_),_,_,hr=>hr.elim
theorem a6d{σ σ':Sg}:∀ {es:List Ent} {ms:List MapEntry},bjw es=true→All2 (@ado σ ρ) es ms→All2 (@ado σ' ρ') es ms
 | [],[],_,_=>trivial
 | e::es,m::ms,h,⟨⟨h1,h2,h3⟩,h4⟩=>by
  simp only [bjw,Bool.and_eq_true] at h
  exact⟨⟨bcy h.1 h1,bcy h.2.1 h2,h3⟩,a6d h.2.2 h4⟩
 | [],_::_,_,h=>h.elim
 | _::_,[],_,h=>h.elim
end
theorem Sim.newCt[Sg]{ρ:PM}{H:HP}{w w':World}{x:Ct}{B:Nat}(hH:HRel ρ H w)(hd:Dom ρ H.n)(hk:Keep w w')(hB:w.heap.size≤B)(hr:∀ ρ':PM,aft ρ' w' ⟨B,0,0,none⟩ 0 x) :
  Sim ρ H w (upd ρ H.n ⟨B,0,0,none⟩) (H.push (.lf [some x])) w':=by
 have hfr:=hd H.n (Nat.le_refl _)
 have hle:PM.le ρ (upd ρ H.n ⟨B,0,0,none⟩):=ahr hfr
 have hnew:∀ i c,(H.push (.lf [some x])).cell H.n i=some c→i=0∧c=x:=by
  intro i c hc
  rw [HP.cell_push,if_pos rfl] at hc
  cases i with
  | zero=>cases hc;exact⟨rfl,rfl⟩
  | succ i=>cases (show(none:Option Ct)=some c from hc)
 have hkn:∀ b,b≠H.n→(H.push (.lf [some x])).Kn b→H.Kn b:=by
  rintro b hb ⟨i,c,hc⟩
  rw [HP.cell_push,if_neg hb] at hc
  exact⟨i,c,hc⟩
 have hlt:∀ b L,H.Kn b→ρ b=some L→L.B<w.heap.size:=fun b L ⟨i,c,hc⟩ hL=>(hH.rel b i c L hc hL).lt
 refine Sim0.up ?_ hd fun b L h1 h2=>?_
 rotate_left
 ·by_cases hb:b=H.n
  ·subst hb
   rw [upd_same] at h2
   cases h2
   rfl
  ·rw [upd_ne hb,h1] at h2;cases h2
 exact {
  le:=hle
  grow:=Nat.le_succ _
  dom:=fun b hb=>by
   have hb:H.n+1≤b:=hb
   rw [upd_ne (by omega)]
   exact hd b (by omega)
  rel:=by
   refine⟨fun b i c L hc hL=>?_,fun b b' L L' g1 g2 hL hL' he=>?_,hH.hy⟩
   ·by_cases hb:b=H.n
    ·subst hb
     rw [upd_same] at hL
     cases hL
     obtain⟨rfl,rfl⟩:=hnew i c hc
     exact hr _
    ·rw [HP.cell_push,if_neg hb] at hc
     rw [upd_ne hb] at hL
     have:=hH.rel b i c L hc hL
     exact(this.mono hle).of_heap (hk.old _ this.lt)
   ·by_cases hb:b=H.n
    ·by_cases hb':b'=H.n
     ·rw [hb,hb']
     ·subst hb
      rw [upd_same] at hL
      rw [upd_ne hb'] at hL'
      cases hL
      have:=hlt b' L' (hkn b' hb' g2) hL'
      have:B=L'.B:=he
      omega
    ·by_cases hb':b'=H.n
     ·subst hb'
      rw [upd_same] at hL'
      rw [upd_ne hb] at hL
      cases hL'
      have:=hlt b L (hkn b hb g1) hL
      have:L.B=B:=he
      omega
     ·rw [upd_ne hb] at hL
      rw [upd_ne hb'] at hL'
      exact hH.inj b b' L L' (hkn b hb g1) (hkn b' hb' g2) hL hL' he
  knc:=fun b i hb hc=>by
   rw [HP.cell_push,if_neg (by omega)]
   exact hc
  fr:=fun k hk' _=>hk.old k hk'
  new:=fun b L h1 h2=>by
   by_cases hb:b=H.n
   ·subst hb;rw [upd_same] at h2;cases h2;exact .inl hB
   ·rw [upd_ne hb,h1] at h2;cases h2
  size:=hk.size
  os:=hk.os
  tape:=hk.tape
  output:=hk.output
  old:=fun b L h1 h2=>by
   by_cases hb:b=H.n
   ·exact Nat.le_of_eq hb.symm
   ·rw [upd_ne hb,h1] at h2;cases h2 }
theorem Sim.newMap[Sg]{ρ:PM}{H:HP}{w w':World}{es:List Ent}{clock B:Nat}{arr:Array MapEntry}(hH:HRel ρ H w)(hd:Dom ρ H.n)(hk:Keep w w')(hB:w.heap.size≤B)(harr:w'.heap[B]? = some (.map arr clock))(hr:∀ ρ':PM,All2 (ado ρ') es arr.toList) :
  Sim ρ H w (upd ρ H.n ⟨B,0,0,none⟩) (H.push (.lf [some (.map es clock)])) w':=Sim.newCt hH hd hk hB fun ρ'=>⟨rfl,rfl,arr,harr,hr ρ'⟩
theorem aym{U:Us}{P:Program}{orv:OraV}{f:Nat}{es:List Ent}{clock:Nat}(ho:af0 U P orv)(h:au8 (orv (.f f) [] He)=some (es,clock)){σ:Sg}(hU:σ.toUs=U){ρ:PM}{H:HP}{w:World}(hj:J ρ H w) :
  bjw es=true∧ach P (fun u w'=>∃ B,u=.map (some B)∧w.heap.size≤B∧Keep w w'∧∃ arr,w'.heap[B]? = some (.map arr clock)∧∀ (σ2:Sg) (ρ2:PM),All2 (@ado σ2 ρ2) es arr.toList) ((callFunc f #[]).run P w):=by
 unfold au8 at h
 split at h
 rotate_left
 ·cases h
 rename_i b H1 hrun
 split at h
 rotate_left
 ·cases h
 rename_i es' c' hmap
 split at h
 rotate_left
 ·cases h
 rename_i hlit
 cases h
 obtain⟨_,h2⟩:=ho _ _ _ _ _ hrun (fun z hz=>by cases hz)
 have hH0:@HRel σ (fun _=>none) He w:=⟨fun b i c L hc=>(HP.cell_nil hc).elim,fun b b' L L' ⟨i,c,hc⟩=>(HP.cell_nil hc).elim,fun x hx=>by cases hx⟩
 have hrun2:=h2 σ hU (fun _=>none) w #[] _ rfl trivial hH0 (fun _ _=>rfl) ⟨fun x hx=>⟨hj.tw x hx,fun b L' _ hh=>by cases hh⟩,fun g L M hh=>by cases hh⟩
 refine⟨hlit,ach.mono (fun u w' hp=>?_) hrun2⟩
 obtain⟨o,hmem,σ',hext,ρ',hv,hsim,hrel⟩:=hp
 rw [List.mem_singleton.1 hmem] at hv hsim hrel
 obtain⟨L,hL,rfl⟩:=hv
 obtain⟨_,arr,harr,hents⟩:=@aeu σ' _ _ _ _ _ _ _ hrel hL hmap
 have hB:w.heap.size≤L.B:=by
  rcases hsim.new b L rfl hL with h | ⟨b0,L0,⟨i,c,hc⟩,_⟩
  ·exact h
  ·exact(HP.cell_nil hc).elim
 have hkeep:Keep w w':=⟨fun k hk=>hsim.fr k hk fun b L ⟨i,c,hc⟩=>(HP.cell_nil hc).elim,hsim.size,hsim.os,hsim.tape,hsim.output⟩
 exact⟨_,rfl,hB,hkeep,arr,harr,fun σ2 ρ2=>a6d hlit hents⟩
theorem bt7{U:Us}{P:Program}{orv:OraV}{f:Nat}{es:List Ent}{clock:Nat}(ho:af0 U P orv)(h:au8 (orv (.f f) [] He)=some (es,clock)):agh U P (mapO f es clock):=by
 intro σ hU t args H outs hc
 unfold mapO at hc
 split at hc
 rotate_left
 ·cases hc
 rename_i g
 split at hc
 rotate_left
 ·cases hc
 rename_i hg
 have hg:=Nat.eq_of_beq_eq_true hg
 subst hg
 cases hc
 refine⟨fun o ho'=>?_,fun ρ w us s hs hus hH hd hj=>?_⟩
 ·rw [List.mem_singleton.1 ho']
  exact @St.sc σ _ _ (@St.push σ _ _)
 ·have hs:s=callFunc g us:=hs
  subst hs
  have hus0:us = #[]:=by
   match hl:us.toList,hus with
   | [],_=>rw [← Array.toList_inj,hl]
  subst hus0
  refine ach.mono (fun u w' hp=>?_) (aym ho h hU hj).2
  obtain⟨B,rfl,hB,hkeep,arr,harr,hents⟩:=hp
  exact⟨_,List.mem_singleton.2 rfl,_,⟨⟨B,0,0,none⟩,upd_same _ _ _,rfl⟩,@Sim.newMap σ _ _ _ _ _ _ _ _ hH hd hkeep hB harr fun ρ2=>hents σ ρ2⟩
end Go.Sx

namespace Go.Sx
noncomputable section
def fitL:Srt→Cel→Bool
 | .int k,.lit (.int k' n)=>(decide (k=k'))&&ab6 (.int k n)
 | .bool,.lit (.bool _)=>true
 | .str,.lit (.string s)=>decide (s.size≤maxN)
 | _,_=>false
def a5v:List Srt→List Cel→Bool
 | [],[]=>true
 | s::ss,c::cs=>fitL s c&&a5v ss cs
 | _,_=>false
def litD:Cel→CD
 | .lit v=>.v v
 | _=>default
def bij(e:Ent):List CD:=e.1.2.map litD++(e.2.1.2.map litD++[.v (.int .i64 e.2.2)])
def okEs(ks:Srt)(va:Bool)(vw:List Srt)(clock:Nat):Nat→List Ent→Bool
 | _,[]=>true
 | n,e::r=>(!e.1.1)&&(a5v [ks] e.1.2&&((e.2.1.1==va)&&(a5v vw e.2.1.2&&(Nat.ble n e.2.2&&(Nat.ble (Nat.succ e.2.2) clock&&okEs ks va vw clock (Nat.succ e.2.2) r)))))
def bpn(f:Nat)(ks:Srt)(va:Bool)(vw:List Srt)(x:X)(clock:Nat):OraM:=fun t args H =>
 match t,args with
 | .f g,[]=>match Nat.beq g f with
  | true=>some [(.one (.mp H.n),H.push (.lf [some (.mx [ks] va vw x (.lit (.int .i64 (Int.ofNat clock))))]))]
  | false=>none
 | _,_=>none
end
section
variable [Sg] {ρ:PM}
theorem bts{m:Mem}{s:Srt}{c:Cel}{u:Value}(h:fitL s c=true)(hc:CRel ρ c u):RS m s (litD c) u:=by
 unfold fitL at h
 split at h
 ·rename_i k k' n
  rw [Bool.and_eq_true,decide_eq_true_eq] at h
  obtain⟨rfl,h2⟩:=h
  obtain⟨rfl,_⟩:=(show u=.int k n∧_ from hc)
  exact⟨n,rfl,rfl,h2⟩
 ·rename_i b
  obtain⟨rfl,_⟩:=(show u=.bool b∧_ from hc)
  exact⟨b,rfl,rfl⟩
 ·rename_i s
  rw [decide_eq_true_eq] at h
  obtain⟨rfl,_⟩:=(show u=.string s∧_ from hc)
  exact⟨s,rfl,rfl,h⟩
 ·cases h
theorem a01{m:Mem}:∀ {ss:List Srt} {cs:List Cel} {us:List Value},a5v ss cs=true→All2 (CRel ρ) cs us→us.length=ss.length∧RSs m ss (cs.map litD) fun j=>us[j]?
 | [],[],[],_,_=>⟨rfl,rfl⟩
 | s::ss,c::cs,u::us,h,⟨h1,h2⟩=>by
  have h:(fitL s c&&a5v ss cs)=true:=h
  rw [Bool.and_eq_true] at h
  obtain⟨g1,g2⟩:=a01 (m:=m) h.2 h2
  exact⟨by simp [g1],litD c,cs.map litD,u,rfl,rfl,bts h.1 h1,g2⟩
 | [],[],_::_,_,h=>h.elim
 | [],_::_,_,h,_=>by cases h
 | _::_,[],_,h,_=>by cases h
 | _::_,_::_,[],_,h=>h.elim
theorem bk6{ss:List Srt}{p:Bool×List Cel}{u:Value}(h:a5v ss p.2=true)(hp:PRel ρ p u):PlR p.1 ss (p.2.map litD) u:=by
 obtain⟨a,cs⟩:=p
 cases a with
 | true =>
  obtain⟨us,rfl,h2⟩:=hp
  obtain⟨g1,g2⟩:=a01 (m:=fun _ _=>False) h h2
  exact⟨us.toList,by simp,g1,fun hh=>(by cases hh),g2⟩
 | false =>
  match cs,hp with
  | [c],hp =>
   obtain⟨g1,g2⟩:=a01 (us:=[u]) (m:=fun _ _=>False) h (⟨hp,trivial⟩:All2 (CRel ρ) [c] [u])
   exact⟨[u],rfl,g1,fun _=>by rw [← g1];rfl,g2⟩
theorem bky{ks:Srt}{va:Bool}{vw:List Srt}{clock:Nat}:∀ {n:Nat} {es:List Ent} {ms:List MapEntry},okEs ks va vw clock n es=true→All2 (ado ρ) es ms →
  All2 (fun(row:List CD) (m:MapEntry)=>∃ kr vr,row=kr++(vr++[.v (.int .i64 m.born)])∧m.born<clock∧PlR false [ks] kr m.key∧PlR va vw vr m.val) (es.map bij) ms∧(∀ m∈ms,n≤m.born)∧ms.Pairwise fun a b=>a.born<b.born
 | n,[],[],_,_=>⟨trivial,fun m hm=>(by cases hm),List.Pairwise.nil⟩
 | n,e::r,m::ms,h,⟨⟨h1,h2,h3⟩,h4⟩=>by
  have h:((!e.1.1)&&(a5v [ks] e.1.2&&((e.2.1.1==va)&&(a5v vw e.2.1.2&&(Nat.ble n e.2.2&&(Nat.ble (Nat.succ e.2.2) clock&&okEs ks va vw clock (Nat.succ e.2.2) r))))))=true:=h
  simp only [Bool.and_eq_true] at h
  obtain⟨a1,a2,a3,a4,a5,a6,a7⟩:=h
  obtain⟨b1,b2,b3⟩:=bky a7 h4
  have a1:e.1.1=false:=by simpa using a1
  have a3:e.2.1.1=va:=by simpa using a3
  have a5:=Nat.le_of_ble_eq_true a5
  have a6:=Nat.le_of_ble_eq_true a6
  have c1:=bk6 a2 h1
  rw [a1] at c1
  have c2:=bk6 a4 h2
  rw [a3] at c2
  refine⟨⟨⟨_,_,by rw [h3];rfl,by rw [h3];exact a6,c1,c2⟩,b1⟩,fun m' hm=>?_,List.pairwise_cons.2 ⟨fun m' hm=>?_,b3⟩⟩
  ·rcases List.mem_cons.1 hm with rfl | hm
   ·rw [h3];exact a5
   ·have:=b2 m' hm;omega
  ·have:=b2 m' hm
   rw [h3];omega
 | _,[],_::_,_,h=>h.elim
 | _,_::_,[],_,h=>h.elim
end
theorem bpo{U:Us}{P:Program}{orv:OraV}{f:Nat}{es:List Ent}{clock:Nat}{ks:Srt}{va:Bool}{vw:List Srt}{x:X}(ho:af0 U P orv)(h:au8 (orv (.f f) [] He)=some (es,clock))(hok:okEs ks va vw clock 0 es=true)(hx:∀ σ:Sg,σ.toUs=U→(@den σ x).rows=es.map bij):agh U P (bpn f ks va vw x clock):=by
 intro σ hU t args H outs hc
 unfold bpn at hc
 split at hc
 rotate_left
 ·cases hc
 rename_i g
 split at hc
 rotate_left
 ·cases hc
 rename_i hg
 have hg:=Nat.eq_of_beq_eq_true hg
 subst hg
 cases hc
 refine⟨fun o ho'=>?_,fun ρ w us s hs hus hH hd hj=>?_⟩
 ·rw [List.mem_singleton.1 ho']
  exact @St.sc σ _ _ (@St.push σ _ _)
 ·have hs:s=callFunc g us:=hs
  subst hs
  have hus0:us = #[]:=by
   match hl:us.toList,hus with
   | [],_=>rw [← Array.toList_inj,hl]
  subst hus0
  refine ach.mono (fun u w' hp=>?_) (aym ho h hU hj).2
  obtain⟨B,rfl,hB,hkeep,arr,harr,hents⟩:=hp
  refine⟨_,List.mem_singleton.2 rfl,_,⟨⟨B,0,0,none⟩,upd_same _ _ _,rfl⟩,@Sim.newCt σ _ _ _ _ _ _ hH hd hkeep hB fun ρ2=>?_⟩
  have hm:=@bky σ ρ2 _ _ _ _ _ _ _ hok (hents σ ρ2)
  refine⟨rfl,rfl,arr,clock,harr,rfl,?_,hm.2.2⟩
  rw [hx σ hU]
  exact hm.1
end Go.Sx

set_option linter.all false
namespace Go.Proofs.YtamhchkknlbanaaDoor.Be
open Go.Sx Go.Proofs
noncomputable def inlF:List (FuncId×Inl):=[(18,⟨Tryd.f18,noH⟩)]
set_option maxRecDepth 100000 in
theorem byk:amb U Tryd.prog inlF:=.cons (.of at18 (by kernel_rfl)) .nil
noncomputable def tbF:Tb:=⟨apf inlF,noY,U.lc⟩
noncomputable def oraF:OraM:=ahj T0
def es18:List Ent:=[((false,[.lit (.string ⟨⟨[116,105,99,107]⟩⟩)]),((true,[.lit (.int .i64 1),.lit (.bool false),.lit (.string ⟨⟨[110]⟩⟩),.lit (.int .u8 0)]),0)),
 ((false,[.lit (.string ⟨⟨[116,97,107,101]⟩⟩)]),((true,[.lit (.int .i64 2),.lit (.bool false),.lit (.string ⟨⟨[110]⟩⟩),.lit (.int .u8 0)]),1)),
 ((false,[.lit (.string ⟨⟨[102,108,111,119]⟩⟩)]),((true,[.lit (.int .i64 14),.lit (.bool false),.lit (.string ⟨⟨[110]⟩⟩),.lit (.int .u8 0)]),2)),
 ((false,[.lit (.string ⟨⟨[97,116]⟩⟩)]),((true,[.lit (.int .i64 3),.lit (.bool false),.lit (.string ⟨⟨[110]⟩⟩),.lit (.int .u8 0)]),3)),
 ((false,[.lit (.string ⟨⟨[100,114,111,112]⟩⟩)]),((true,[.lit (.int .i64 4),.lit (.bool false),.lit (.string ⟨⟨[110]⟩⟩),.lit (.int .u8 0)]),4)),
 ((false,[.lit (.string ⟨⟨[100,111,117,98,108,101]⟩⟩)]),((true,[.lit (.int .i64 5),.lit (.bool false),.lit (.string ⟨⟨[110]⟩⟩),.lit (.int .u8 0)]),5)),
 ((false,[.lit (.string ⟨⟨[109,111,118,101]⟩⟩)]),((true,[.lit (.int .i64 6),.lit (.bool false),.lit (.string ⟨⟨[110,97]⟩⟩),.lit (.int .u8 0)]),6)),
 ((false,[.lit (.string ⟨⟨[99,117,116]⟩⟩)]),((true,[.lit (.int .i64 7),.lit (.bool true),.lit (.string ⟨⟨[119,97]⟩⟩),.lit (.int .u8 0)]),7)),
 ((false,[.lit (.string ⟨⟨[106,111,105,110]⟩⟩)]),((true,[.lit (.int .i64 7),.lit (.bool false),.lit (.string ⟨⟨[119,97]⟩⟩),.lit (.int .u8 0)]),8)),
 ((false,[.lit (.string ⟨⟨[97,115,107]⟩⟩)]),((true,[.lit (.int .i64 8),.lit (.bool false),.lit (.string ⟨⟨[119,111]⟩⟩),.lit (.int .u8 98)]),9)),
 ((false,[.lit (.string ⟨⟨[97,103,97,105,110]⟩⟩)]),((true,[.lit (.int .i64 9),.lit (.bool false),.lit (.string ⟨⟨[119]⟩⟩),.lit (.int .u8 0)]),10)),
 ((false,[.lit (.string ⟨⟨[114,101,111,112,101,110]⟩⟩)]),((true,[.lit (.int .i64 11),.lit (.bool false),.lit (.string ⟨⟨[119]⟩⟩),.lit (.int .u8 0)]),11)),
 ((false,[.lit (.string ⟨⟨[99,114,97,115,104]⟩⟩)]),((true,[.lit (.int .i64 10),.lit (.bool false),.lit (.string ⟨⟨[119,110]⟩⟩),.lit (.int .u8 107)]),12)),
 ((false,[.lit (.string ⟨⟨[102,117,115,101]⟩⟩)]),((true,[.lit (.int .i64 12),.lit (.bool false),.lit (.string ⟨⟨[119,110]⟩⟩),.lit (.int .u8 0)]),13)),
 ((false,[.lit (.string ⟨⟨[116,117,114,110]⟩⟩)]),((true,[.lit (.int .i64 13),.lit (.bool false),.lit (.string ⟨⟨[119,110,97,109]⟩⟩),.lit (.int .u8 0)]),14))]
theorem bsi:au8 (orvK Tryd.prog oraF 10 10 tbF 2 (.f 18) [] He)=some (es18,15):=by kernel_rfl
theorem bo0:frmR=es18.map bij:=by rfl
set_option maxRecDepth 100000 in
theorem bi7:agh U Tryd.prog (bpn 18 .str true [sI,.bool,.str,.int .u8] (.ap (.usr 263) []) 15):=bpo (anb mixed (aiv hT0) (TbOK.of byk) 2) bsi (by kernel_rfl) fun σ hU=>by
 show(@Us.u σ.toUs 263 []).rows=_
 rw [hU,bbj]
 exact bo0
end Go.Proofs.YtamhchkknlbanaaDoor.Be

namespace Go.Proofs.YtamhchkknlbanaaDoor.Be
open Go.Sx Go.Proofs
theorem bhx{l:List UInt8}{i:Nat}(h:i<l.length):l.take (i+1)=l.take i++[l.getD i 0]:=by
 rw [List.take_add_one,List.getD_eq_getElem?_getD,List.getElem?_eq_getElem h]
 rfl
end Go.Proofs.YtamhchkknlbanaaDoor.Be

namespace Go.Proofs.YtamhchkknlbanaaDoor.Be
open Go.Sx Go.Proofs
theorem brz{d:CD}:[]=asr ((by' d).take (Int.toNat 0)):=rfl
theorem bxq{d:CD}:ad1 ((by' d).take (Int.toNat 0))=true:=rfl
theorem bhs{l:List UInt8}{b:UInt8}:asr (l++[b])=asr l++[bhr b]:=by
 unfold asr
 rw [List.map_append]
 rfl
theorem bbx{l:List UInt8}{b:UInt8}:ad1 (l++[b])=(ad1 l&&bjk b):=by
 unfold ad1
 rw [List.all_append]
 simp
theorem a0u{z n:Int}:eqC (vInt .u8 z) (vInt .u8 n)=decide (z=n):=rfl
theorem a3u{d:CD}{i:Int}(h0:0≤i)(hi:i<d.slen)(hT:Typ .str d):(by' d).take (i+1).toNat=(by' d).take i.toNat++[(by' d).getD i.toNat 0]:=by
 rw [afi hT] at hi
 rw [show(i+1).toNat=i.toNat+1 by omega,bhx (by omega)]
theorem bey{d:CD}{i:Int}(hi:¬ i<d.slen)(hT:Typ .str d):(by' d).take i.toNat=by' d:=by
 rw [afi hT] at hi
 exact List.take_of_length_le (by omega)
theorem bxn{d:CD}{r:List (List CD)}{i:Int}(hr:r=asr ((by' d).take i.toNat))(h0:0≤i)(hi:i<d.slen)(hT:Typ .str d):r++([]++[[aav (eqC (vInt .u8 (byAt d i)) (vInt .u8 49))]])=asr ((by' d).take (i+1).toNat):=by
 rw [a3u h0 hi hT,bhs,hr,List.nil_append,a0u]
 unfold bhr byAt
 congr 4
 rw [decide_eq_decide]
 omega
theorem bxo{d:CD}{i:Int}(h:eqC (vInt .u8 (byAt d i)) (vInt .u8 49)=true)(hb:ad1 ((by' d).take i.toNat)=true)(h0:0≤i)(hi:i<d.slen)(hT:Typ .str d):ad1 ((by' d).take (i+1).toNat)=true:=by
 rw [a3u h0 hi hT,bbx,hb]
 rw [a0u,decide_eq_true_eq] at h
 unfold byAt at h
 unfold bjk
 rw [Bool.true_and,Bool.or_eq_true,decide_eq_true_eq,decide_eq_true_eq]
 omega
theorem bxp{d:CD}{i:Int}(h:eqC (vInt .u8 (byAt d i)) (vInt .u8 48)=true)(hb:ad1 ((by' d).take i.toNat)=true)(h0:0≤i)(hi:i<d.slen)(hT:Typ .str d):ad1 ((by' d).take (i+1).toNat)=true:=by
 rw [a3u h0 hi hT,bbx,hb]
 rw [a0u,decide_eq_true_eq] at h
 unfold byAt at h
 unfold bjk
 rw [Bool.true_and,Bool.or_eq_true,decide_eq_true_eq,decide_eq_true_eq]
 omega
theorem bte{d:CD}{i:Int}(h1:¬ eqC (vInt .u8 (byAt d i)) (vInt .u8 49)=true)(h2:¬ eqC (vInt .u8 (byAt d i)) (vInt .u8 48)=true)(h0:0≤i)(hi:i<d.slen)(hT:Typ .str d):[[mkz (a0m (by' d))],[aav (ad1 (by' d)&&decide (0<(by' d).length))]]=[[CD.sl true []],[aav false]]:=by
 rw [afi hT] at hi
 have hlt:i.toNat<(by' d).length:=by omega
 have hf:ad1 (by' d)=false:=by
  unfold ad1
  rw [List.all_eq_false]
  refine⟨(by' d).getD i.toNat 0,?_,?_⟩
  ·rw [List.getD_eq_getElem?_getD,List.getElem?_eq_getElem hlt]
   exact List.getElem_mem hlt
  ·rw [a0u,decide_eq_true_eq] at h1 h2
   unfold byAt at h1 h2
   unfold bjk
   rw [Bool.or_eq_true,decide_eq_true_eq,decide_eq_true_eq]
   omega
 unfold a0m
 rw [hf]
 rfl
end Go.Proofs.YtamhchkknlbanaaDoor.Be

namespace Go.Proofs.YtamhchkknlbanaaDoor.Be
open Go.Sx Go.Proofs
theorem bxz{x:Int}:digV x≤15:=by
 unfold digV
 split
 ·omega
 ·split<;>omega
theorem a07:∀ {p q:List UInt8},p.length % 2=0→hexR (p++q)=hexR p++hexR q
 | [],q,_=>rfl
 | [_],_,h=>by simp at h
 | a::b::r,q,h=>by
  show _::hexR (r++q)=_
  rw [a07 (p:=r) (by simp only [List.length_cons] at h;omega)]
  rfl
theorem atc:∀ {p q:List UInt8},p.length % 2=0→hexB (p++q)=(hexB p&&hexB q)
 | [],q,_=>rfl
 | [_],_,h=>by simp at h
 | a::b::r,q,h=>by
  show(_&&hexB (r++q))=_
  rw [atc (p:=r) (by simp only [List.length_cons] at h;omega),← Bool.and_assoc]
  rfl
theorem b2j{n:Nat}:eqC (orV (adf .rem .i64 (n:Int) 2)) (vInt .i64 0)=decide (n % 2=0):=by
 have:adf .rem .i64 (n:Int) 2=some (.int .i64 ((n:Int).tmod 2)):=rfl
 rw [this]
 show decide ((n:Int).tmod 2=0)=_
 rw [decide_eq_decide]
 have:=Int.tmod_eq_emod_of_nonneg (a:=(n:Int)) (b:=2) (by omega)
 omega
end Go.Proofs.YtamhchkknlbanaaDoor.Be

namespace Go.Proofs.YtamhchkknlbanaaDoor.Be
open Go.Sx Go.Proofs
def subT(d:CD)(a b:Int):CD:=.v (.string ⟨((d.str.toList.take b.toNat).drop a.toNat).toArray⟩)
theorem bnl[Sg](x a b:X):den (.ap .ssub [x,a,b])=subT (den x) (den a).iv (den b).iv:=rfl
theorem sl0{n:Int}(h:0≤n):((CD.v (.string ⟨⟨[]⟩⟩)).slen:Int)≤n:=by
 show((clip 0:Nat):Int)≤n
 unfold clip
 omega
theorem ty_i{z:Int}(h1:0≤z)(h2:z≤5000):Typ sI (vInt .i64 z):=by
 refine⟨fun _ _=>False,.int .i64 z,z,rfl,rfl,?_⟩
 have e1:IntKind.i64.min = -9223372036854775808:=by decide
 have e2:IntKind.i64.max=9223372036854775807:=by decide
 simp only [ab6,Bool.and_eq_true,decide_eq_true_eq]
 omega
theorem ae0{c:CD}(h:Typ sI c):c=vInt .i64 c.iv:=by
 obtain⟨m,u,n,rfl,_⟩:=h
 rfl
theorem a4w{a b:List UInt8}(h:a.length+b.length≤9223372036854775807):orV (strA .add (tx a).str (tx b).str)=tx (a++b):=by
 have e:strA .add (tx a).str (tx b).str=if a.toArray.size+b.toArray.size≤9223372036854775807 then some (.string ((⟨a.toArray⟩:ByteArray)++⟨b.toArray⟩)) else none:=rfl
 rw [e,if_pos (by simpa using h)]
 show CD.v (.string _)=CD.v (.string _)
 congr 2
end Go.Proofs.YtamhchkknlbanaaDoor.Be
