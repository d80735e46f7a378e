/-
  The line of a deed, by the reference: laws of the plain words. Conditions: none.
-/
import Derived.Test.YtamhchkknlbanaaDoorBtT
import Derived.Test.YtamhchkknlbanaaDoorBtC
set_option linter.unusedSectionVars false
set_option linter.unusedVariables false
set_option linter.unusedSimpArgs false
set_option linter.all false
namespace Go.Proofs.YtamhchkknlbanaaDoor.Be
open Go.Sx Go.Proofs
theorem adg:CD.v (.string ⟨⟨[32]⟩⟩)=tx [32]:=rfl
theorem adh:CD.v (.string ⟨⟨[48]⟩⟩)=tx [48]:=rfl
theorem adi:CD.v (.string ⟨⟨[49]⟩⟩)=tx [49]:=rfl
theorem bmh(b:UInt8):((tx [b]).slen:Int)≤1:=by
 rw [akk (by simp only [List.length_cons,List.length_nil];unfold maxN;omega)]
 simp
theorem af7(k who n a m o:Int):(af6 k who n a m o).length≤4:=by
 unfold af6
 repeat' split
 all_goals simp
abbrev nR(k who n a m o:Int):List (List CD):=(af6 k who n a m o).map intRow
theorem aji(k who n a m o:Int):((CD.sl false (nR k who n a m o)).len:Int)=(af6 k who n a m o).length:=by
 have h:=af7 k who n a m o
 show((clip (nR k who n a m o).length:Nat):Int)=_
 rw [List.length_map,aek (by unfold maxN;omega)]
theorem nT_0(w:List UInt8)(l:List (List CD)):ama w l (Int.toNat 0)=w:=by
 show w++([]:List UInt8)=w
 exact List.append_nil w
theorem awr{l:List Int}{i:Int}(h0:0≤i)(hi:i<(l.length:Int)):(l.map intRow).take (i+1).toNat=(l.map intRow).take i.toNat++[intRow (l.getD i.toNat 0)]∧(CD.sl false (l.map intRow)).cell i 0=vInt .i64 (l.getD i.toNat 0):=by
 have hlt:i.toNat<l.length:=by omega
 have e:l.getD i.toNat 0=l[i.toNat]:=by
  rw [List.getD_eq_getElem?_getD,List.getElem?_eq_getElem hlt]
  rfl
 constructor
 ·rw [show(i+1).toNat=i.toNat+1 by omega,List.take_add_one,List.getElem?_map,List.getElem?_eq_getElem hlt,e]
  rfl
 ·show((l.map intRow).getD i.toNat []).getD 0 default=_
  rw [List.getD_eq_getElem?_getD (l:=l.map intRow),List.getElem?_map,List.getElem?_eq_getElem hlt,e]
  rfl
theorem nT_n{w:List UInt8}{l:List Int}{i:Int}(h0:0≤i)(hi:i<(l.length:Int)):ama w (l.map intRow) (i+1).toNat=ama w (l.map intRow) i.toNat++32::Lib.itoa (l.getD i.toNat 0):=by
 unfold ama
 rw [(awr h0 hi).1,List.flatMap_append,← List.append_assoc]
 congr 1
 show(32::Lib.itoa (l.getD i.toNat 0))++[]=_
 rw [List.append_nil]
theorem nO_n{l:List Int}{i:Int}(h0:0≤i)(hi:i<(l.length:Int))(h:amf (l.map intRow) i.toNat=true)(h1:¬ l.getD i.toNat 0<0)(h2:¬ 1073741824<l.getD i.toNat 0):amf (l.map intRow) (i+1).toNat=true:=by
 unfold amf at h ⊢
 rw [(awr h0 hi).1,List.all_append,h]
 show(inR (l.getD i.toNat 0)&&true)=true
 rw [a08 h1 h2]
 rfl
theorem by9{l:List Int}{i:Int}(h0:0≤i)(hi:i<(l.length:Int))(h:inR (l.getD i.toNat 0)=false):l.all inR=false:=by
 rw [List.all_eq_false]
 have hlt:i.toNat<l.length:=by omega
 refine⟨l.getD i.toNat 0,?_,by rw [h];decide⟩
 rw [List.getD_eq_getElem?_getD,List.getElem?_eq_getElem hlt]
 exact List.getElem_mem _
theorem bj9{l:List Int}{i:Int}(hi:¬ i<(l.length:Int))(h:amf (l.map intRow) i.toNat=true):l.all inR=true:=by
 unfold amf at h
 rw [List.take_of_length_le (by rw [List.length_map];omega),List.all_map] at h
 exact h
theorem bkb{w:List UInt8}{l:List Int}{i:Int}(hi:¬ i<(l.length:Int)):ama w (l.map intRow) i.toNat=ama w (l.map intRow) (l.map intRow).length:=by
 unfold ama
 rw [List.take_of_length_le (by rw [List.length_map];omega),List.take_length]
theorem bsj{r:List (List CD)}{i:Int}(h0:0≤i)(hi:i<(r.length:Int)):markT (r.take (i+1).toNat)=markT (r.take i.toNat)++[if((CD.sl false r).cell i 0).bv=true then 49 else 48]:=by
 have hlt:i.toNat<r.length:=by omega
 have e0:r.getD i.toNat []=r[i.toNat]:=by
  rw [List.getD_eq_getElem?_getD,List.getElem?_eq_getElem hlt]
  rfl
 unfold markT
 rw [show(i+1).toNat=i.toNat+1 by omega,List.take_add_one,List.getElem?_eq_getElem hlt,List.map_append]
 show _=_++[if((r.getD i.toNat []).getD 0 default).bv=true then 49 else 48]
 rw [e0]
 rfl
abbrev mkS(S:List UInt8)(r:List (List CD))(i:Nat):List UInt8:=S++(if i=0 then [] else 32::markT (r.take i))
theorem by5{S:List UInt8}{r:List (List CD)}{i:Int}{b:UInt8}(h0:0≤i)(hi:i<(r.length:Int))(hz:i=0)(hb:(if((CD.sl false r).cell i 0).bv=true then(49:UInt8) else 48)=b):mkS S r (i+1).toNat=(mkS S r i.toNat++[32])++[b]:=by
 unfold mkS
 rw [if_neg (by omega),bsj h0 hi,hb,if_pos (by omega),hz,List.append_nil,List.append_assoc]
 rfl
theorem by6{S:List UInt8}{r:List (List CD)}{i:Int}{b:UInt8}(h0:0≤i)(hi:i<(r.length:Int))(hz:¬ i=0)(hb:(if((CD.sl false r).cell i 0).bv=true then(49:UInt8) else 48)=b):mkS S r (i+1).toNat=mkS S r i.toNat++[b]:=by
 unfold mkS
 rw [if_neg (by omega),bsj h0 hi,hb,if_neg (by omega),List.append_assoc]
 rfl
theorem as8{d:CD}{i:Int}:(CD.sl false d.rows).cell i 0=d.cell i 0:=rfl
theorem asy{A B:List UInt8}(h:A.length+B.length≤100000):orV (strA .add (tx A).str (tx B).str)=tx (A++B):=a4w (by omega)
theorem aey{A:List UInt8}{n:Int}(h:((tx A).slen:Int)≤n)(hn:n≤100000):(A.length:Int)≤n:=by
 have:((clip A.length:Nat):Int)≤n:=h
 unfold clip maxN at this
 omega
theorem ak4{A:List UInt8}{n:Int}(h:(A.length:Int)≤n)(hn:n≤100000):((tx A).slen:Int)≤n:=by
 rw [akk (by unfold maxN;omega)]
 exact h
theorem row_of{k:Int}{is:Bool}(h:(frow k is).1≠[]):∃ r∈frm,frow k is=r∧afj k is=some r∧r.2.1=k∧(k=7→r.2.2.1=is):=by
 unfold frow at h ⊢
 cases hw:afj k is with
 | none=>rw [hw] at h;exact absurd rfl h
 | some r =>
  have hf:fits k is r=true:=List.find?_some hw
  unfold fits at hf
  rw [Bool.and_eq_true,decide_eq_true_eq] at hf
  refine⟨r,List.mem_of_find?_eq_some hw,rfl,rfl,hf.1,fun h7=>?_⟩
  have:=hf.2
  rw [h7] at this
  simpa using this
theorem ne_w{w:List UInt8}(h:¬ eqC (tx w) (.v (.string ⟨⟨[]⟩⟩))=true):w≠[]:=by
 intro hw
 rw [hw] at h
 exact h (arl.mpr rfl)
theorem bua{k who n a m o:Int}{is:Bool}(h:(frow k is).1≠[]):need k≤((af6 k who n a m o).length:Int):=by
 obtain⟨r,hr,_,_,rfl,_⟩:=row_of h
 unfold frm at hr
 simp only [List.mem_cons,List.not_mem_nil,or_false] at hr
 rcases hr with rfl | rfl | rfl | rfl | rfl | rfl | rfl | rfl | rfl | rfl | rfl | rfl | rfl | rfl | rfl<;>simp [need,af6]
theorem bmc{x0 x1 x2 x3 x4 x5 x6 x7 x8 x9 x10 x11 x12 x13 x14 x15 x16 x17:CD}(h:eqC x4 x13=false):asx [x0,x1,x2,x3,x4,x5,x6,x7,x8,x9,x10,x11,x12,x13,x14,x15,x16,x17]=false:=by
 unfold asx
 have h:eqC ([x0,x1,x2,x3,x4,x5,x6,x7,x8,x9,x10,x11,x12,x13,x14,x15,x16,x17].getD 4 default) ([x0,x1,x2,x3,x4,x5,x6,x7,x8,x9,x10,x11,x12,x13,x14,x15,x16,x17].getD 13 default)=false:=h
 rw [h]
 simp only [Bool.false_and,Bool.and_false]
theorem bmb{x0 x1 x2 x3 x4 x5 x6 x7 x8 x9 x10 x11 x12 x13 x14 x15 x16 x17:CD}(h:asx [x0,x1,x2,x3,x4,x5,x6,x7,x8,x9,x10,x11,x12,x13,x14,x15,x16,x17]=true):x7.rows.map ada=x16.rows.map ada:=by
 unfold asx at h
 simp only [Bool.and_eq_true,decide_eq_true_eq] at h
 exact h.2.2.2.2.2.2.2.2
theorem b1o{d:CD}(h:([]:List UInt8)=d.rows.map ada):(d.len:Int)≤0:=by
 have:d.rows=[]:=List.map_eq_nil_iff.1 h.symm
 show((clip d.rows.length:Nat):Int)≤0
 rw [this]
 show((clip 0:Nat):Int)≤0
 unfold clip
 omega
theorem tx_1{A:List UInt8}{b:UInt8}(h:A.length≤90000):orV (strA .add (tx A).str (tx [b]).str)=tx (A++[b]):=asy (by simp only [List.length_cons,List.length_nil];omega)
theorem tx_2{A:List UInt8}{b c:UInt8}(h:A.length≤90000):orV (strA .add (orV (strA .add (tx A).str (tx [b]).str)).str (tx [c]).str)=tx (A++[b]++[c]):=by
 rw [tx_1 h]
 exact asy (by simp only [List.length_append,List.length_cons,List.length_nil];omega)
theorem bt3{A:List UInt8}{b:UInt8}:(A++[b]).length=A.length+1:=by simp
theorem byw{A:List UInt8}{b c:UInt8}:(A++[b]++[c]).length=A.length+2:=by simp
end Go.Proofs.YtamhchkknlbanaaDoor.Be
