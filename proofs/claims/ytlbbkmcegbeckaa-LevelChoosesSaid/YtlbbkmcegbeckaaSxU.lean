/-
  A symbolic executor: rows that are appended. Conditions: none; nothing here speaks of one program.
-/
import Derived.Test.YtlbbkmcegbeckaaSxT
set_option linter.all false
set_option maxRecDepth 100000
noncomputable section
namespace Go.Sx
noncomputable section
def nilE(b:Bool):X:=.ap (.nil b) []
def toS(s:Srt)(c:Cel):Option (X×List Nat) :=
 match c with
 | .sv s' G e=>match a5x s s' with
  | true=>some (e,G)
  | false=>none
 | .lit (.int k z)=>match s with
  | .int k'=>if k=k' then some (.lit (.int k z),[]) else none
  | _=>none
 | .lit (.bool b)=>match s with
  | .bool=>some (.lit (.bool b),[])
  | _=>none
 | .lit (.string t)=>match s with
  | .str=>some (.lit (.string t),[])
  | _=>none
 | .lit (.slice none _ _)=>match s with
  | .sl _=>some (nilE true,[])
  | _=>none
 | _=>none
def bkq:List Srt→List Cel→Option (List X×List Nat)
 | [],[]=>some ([],[])
 | s::w,c::cs=>match toS s c,bkq w cs with
  | some (e,G),some (l,G')=>some (e::l,G++G')
  | _,_=>none
 | _,_=>none
def asu(w:List Srt):Nat→List Cel→Option (List (List X)×List Nat)
 | 0,_=>some ([],[])
 | n+1,cs=>match bkq w (takeN w.length cs),asu w n (aj7 w.length cs) with
  | some (l,G),some (ls,G')=>some (l::ls,G++G')
  | _,_=>none
def isIn(x:Nat):List Nat→Bool
 | []=>false
 | y::r=>match Nat.beq x y with
  | true=>true
  | false=>isIn x r
def subN:List Nat→List Nat→Bool
 | [],_=>true
 | x::r,b=>isIn x b&&subN r b
inductive Src where
 | rows (l:List (List X))
 | all (e n:X)
def Src.len:Src→X
 | .rows l=>.lit (.int .i64 (l.length:Nat))
 | .all _ n=>n
def catX(e e':X):X :=
 match e with
 | .ap (.nil _) _=>.ap (.mk false) [e']
 | e=>.ap .cat [e,e']
def ait(e:X):Src→X
 | .rows l=>l.foldl (fun e r=>.ap .snoc (e::r)) e
 | .all e' _=>catX e e'
def bei:List Srt→Bool
 | []=>true
 | .sl _::_=>false
 | _::r=>bei r
def aj8(w:List Srt)(G:List Nat):List Nat :=
 match bei w with
 | true=>[]
 | false=>G
def fitE(hy:List X)(z:Bool)(n ec e:X):Bool:=eqX ec e||(!z||ltX hy zI n)
def srcY(H:HP)(w:List Srt)(x:AV):Option (Src×List Nat) :=
 match x with
 | .one (.sl b off len _)=>match H.read b off (len*w.length) with
  | some cs=>(asu w len cs).map fun p=>(.rows p.1,p.2)
  | none=>none
 | .one (.su b off len _)=>match H.read b off (len*w.length) with
  | some cs=>(asu w len cs).map fun p=>(.rows p.1,p.2)
  | none=>none
 | .one (.lit (.slice none _ _))=>some (.rows [],[])
 | .one (.sv (.sl w') G e)=>match afd w w' with
  | true=>some (.all e (lenE e),aj8 w G)
  | false=>none
 | .one (.os z b n _ Gc ec)=>match af4 H b with
  | some (w',G,e,nb)=>match afd w w'&&(eqX n nb&&(subN G Gc&&fitE H.hy z n ec e)) with
   | true=>some (.all e n,aj8 w G)
   | false=>none
  | none=>none
 | _=>none
def dstY(H:HP)(w:List Srt)(sz:Nat)(s:AV):Option (X×List Nat×Bool×Option Nat×X) :=
 match s with
 | .one (.lit (.slice none _ _))=>some (nilE true,[],true,none,zI)
 | .one (.os z b n s' Gc ec)=>match af4 H b with
  | some (w',G,e,nb)=>match afd w w'&&(eqX n nb&&(Nat.beq s' sz&&(subN G Gc&&fitE H.hy z n ec e))) with
   | true=>some (e,G,z,some b,n)
   | false=>none
  | none=>none
 | _=>none
def ab1(a b:List Nat):List Nat :=
 match b with
 | []=>a
 | x::r=>match isIn x a with
  | true=>ab1 a r
  | false=>ab1 (a++[x]) r
def addE(a b:X):X :=
 match a,b with
 | .lit (.int .i64 0),b=>b
 | .lit (.int .i64 x),.lit (.int .i64 y)=>.lit (.int .i64 (x+y))
 | .ap (.add .i64) [c,.lit (.int .i64 x)],.lit (.int .i64 y)=>.ap (.add .i64) [c,.lit (.int .i64 (x+y))]
 | a,b=>.ap (.add .i64) [a,b]
def fewX(hy:List X)(n n':X)(bytes:Nat):Bool :=
 leX hy (.ap (.mul .i64) [.ap (.add .i64) [n,n'],.lit (.int .i64 bytes)]) (.lit (.int .i64 140737488355328))&&leX hy (.ap (.add .i64) [n,n']) (.lit (.int .i64 9223372036854775807))
def srtT(P:Program):Nat→TypeId→Option (List Srt)
 | 0,_=>none
 | d+1,t=>match undT P t with
  | some (.int k)=>some [.int k]
  | some .bool=>some [.bool]
  | some .string=>some [.str]
  | some (.slice e)=>(srtT P d e).map fun w=>[.sl w]
  | some (.struct fs)=>fs.toList.foldr (fun f r=>match srtT P d f.type,r with
   | some a,some b=>some (a++b)
   | _,_=>none) (some [])
  | some (.array n e)=>(srtT P d e).map fun w=>repC w n
  | _=>none
def am2(H:HP):Option Nat→HP
 | none=>H
 | some b=>H.drop b
def yApp(P:Program)[Plain P](E:Operand→Option AV)(H:HP)(args:Array Operand)(ats:Array TypeId):R :=
 match ap3 E args.toList,ats.toList with
 | some [s,x],[t,u]=>match undT P t,undT P u with
  | some (.slice e),some (.slice _)=>match szA P e,infoT P e,srtT P 8 e with
   | some (_,sz),some i,some w=>match i.zero with
    | some z=>match dstY H w sz s,srcY H w x with
     | some (d,G,zf,ob,n),some (sr,G') =>
      if 0<sz∧i.size=sz∧z.cells.size=sz∧w.length=sz∧zok w z.cells=true then
       match fewX H.hy n sr.len i.bytes with
       | true=>some (.one (.os zf H.n (addE n sr.len) sz (ab1 G G') (ait d sr)),(am2 H ob).push (.lf [some (.rows w (ab1 G G') (ait d sr) (addE n sr.len))]))
       | false=>none
      else none
     | _,_=>none
    | none=>none
   | _,_,_=>none
  | _,_=>none
 | _,_=>none
end
def Flat(m:Mem)(ws:List Srt)(rows:List (List CD))(us:List Value):Prop:=us.length=rows.length*ws.length∧∀ (i:Nat) (row:List CD),rows[i]? = some row→RSs m ws row fun j=>us[i*ws.length+j]?
theorem Flat.nil(m:Mem)(ws:List Srt):Flat m ws [] []:=⟨by simp,fun i row h=>by simp at h⟩
theorem Flat.mono{m m':Mem}(h:∀ k o,m k o→m' k o){ws:List Srt}{rows:List (List CD)}{us:List Value}(hf:Flat m ws rows us):Flat m' ws rows us:=⟨hf.1,fun i row hi=>(hf.2 i row hi).mono h⟩
theorem bbw{i j n s:Nat}(hi:i<n)(hj:j<s):i*s+j<n*s:=by
 have:(i+1)*s≤n*s:=Nat.mul_le_mul_right _ hi
 rw [Nat.add_mul] at this
 omega
theorem Flat.append{m:Mem}{ws:List Srt}{r1 r2:List (List CD)}{u1 u2:List Value}(h1:Flat m ws r1 u1)(h2:Flat m ws r2 u2):Flat m ws (r1++r2) (u1++u2):=by
 refine⟨by rw [List.length_append,List.length_append,h1.1,h2.1,Nat.add_mul],fun i row hi=>?_⟩
 rcases Nat.lt_or_ge i r1.length with h | h
 ·rw [List.getElem?_append_left h] at hi
  refine(h1.2 i row hi).congr fun j hj=>?_
  rw [List.getElem?_append_left (by rw [h1.1];exact bbw h hj)]
 ·rw [List.getElem?_append_right h] at hi
  refine(h2.2 _ row hi).congr fun j hj=>?_
  have:r1.length*ws.length≤i*ws.length:=Nat.mul_le_mul_right _ h
  rw [List.getElem?_append_right (by rw [h1.1];omega),h1.1]
  congr 1
  rw [Nat.sub_mul]
  omega
theorem Flat.one{m:Mem}{ws:List Srt}{row:List CD}{us:List Value}(hl:us.length=ws.length)(h:RSs m ws row fun j=>us[j]?):Flat m ws [row] us:=by
 refine⟨by simp [hl],fun i r hi=>?_⟩
 cases i with
 | zero =>
  simp only [List.getElem?_cons_zero,Oi] at hi
  subst hi
  exact h.congr fun j _=>by simp
 | succ i=>simp at hi
theorem aki{m:Mem}{ws:List Srt}{rows:List (List CD)}{arr:Array Value}{o:Nat}(h:∀ i row,rows[i]? = some row→RSs m ws row fun j=>arr[o+i*ws.length+j]?) :
  ∃ us:List Value,Flat m ws rows us∧∀ k u,us[k]? = some u→arr[o+k]? = some u:=by
 have hus:∀ k,k<rows.length*ws.length→((List.range (rows.length*ws.length)).map fun k=>(arr[o+k]?).getD default)[k]? = some ((arr[o+k]?).getD default):=fun k hk=>by
  rw [List.getElem?_map,List.getElem?_range hk]
  rfl
 have hget:∀ i row,rows[i]? = some row→∀ j,j<ws.length→arr[o+i*ws.length+j]? = ((List.range (rows.length*ws.length)).map fun k=>(arr[o+k]?).getD default)[i*ws.length+j]?:=fun i row hi j hj'=>by
  have hi':i<rows.length:=(Ls.1 hi).1
  rw [hus _ (bbw hi' hj')]
  obtain⟨y,hy,_⟩:=(h i row hi).get j ws[j] (Gl hj')
  rw [show o+(i*ws.length+j)=o+i*ws.length+j by omega,hy]
  rfl
 refine⟨_,⟨by simp,fun i row hi=>(h i row hi).congr fun j hj'=>(hget i row hi j hj').symm⟩,fun k v hk=>?_⟩
 have hkl:k<rows.length*ws.length:=by
  have:=(Ls.1 hk).1
  simpa using this
 by_cases h0:ws.length=0
 ·rw [h0] at hkl;omega
 ·have hdiv:k / ws.length<rows.length:=Nat.div_lt_of_lt_mul (by rw [Nat.mul_comm];exact hkl)
  have hmod:k % ws.length<ws.length:=Nat.mod_lt _ (by omega)
  have hk2:k / ws.length*ws.length+k % ws.length=k:=by rw [Nat.mul_comm];exact Nat.div_add_mod k ws.length
  have:=hget (k / ws.length) rows[k / ws.length] (Gl hdiv) _ hmod
  rw [show o+k / ws.length*ws.length+k % ws.length=o+k by omega,hk2,hk] at this
  exact this
theorem RSs.one{m:Mem}{ss:List Srt}{row:List CD}{f:Nat→Option Value}(h:RSs m ss row f){j:Nat}{u:Value}(hj:j<ss.length)(hu:f j=some u):u.oneCell'=true:=by
 obtain⟨u',h1,h2⟩:=h.get j ss[j] (Gl hj)
 rw [hu] at h1
 cases h1
 exact h2.oneCell
theorem Flat.one'{m:Mem}{ws:List Srt}{rows:List (List CD)}{us:List Value}(h:Flat m ws rows us):∀ u∈us,u.oneCell'=true:=fun u hu=>by
 obtain⟨k,hk⟩:=List.getElem?_of_mem hu
 have hkl:k<rows.length*ws.length:=by
  have:=(Ls.1 hk).1
  rw [h.1] at this
  exact this
 by_cases h0:ws.length=0
 ·rw [h0] at hkl;omega
 ·have hdiv:k / ws.length<rows.length:=Nat.div_lt_of_lt_mul (by rw [Nat.mul_comm];exact hkl)
  have hmod:k % ws.length<ws.length:=Nat.mod_lt _ (by omega)
  have hk2:k / ws.length*ws.length+k % ws.length=k:=by rw [Nat.mul_comm];exact Nat.div_add_mod k ws.length
  exact(h.2 (k / ws.length) rows[k / ws.length] (Gl hdiv)).one hmod (by rw [hk2];exact hk)
section
variable [Sg] {P:Program} [Plain P] {E:Operand→Option AV} {H H':HP} {w:World} {ρ:PM} {ev:Operand→Value} {v:AV}
def LocG(ρ:PM)(G:List Nat):Prop:=∀ g∈G,∃ L,ρ g=some L
theorem bfo{G G':List Nat}:∀ k o,ρ.at G k o→ρ.at (G++G') k o:=fun k o ⟨g,h1,h2⟩=>⟨g,List.mem_append_left _ h1,h2⟩
theorem ba7{G G':List Nat}:∀ k o,ρ.at G' k o→ρ.at (G++G') k o:=fun k o ⟨g,h1,h2⟩=>⟨g,List.mem_append_right _ h1,h2⟩
theorem LocG.append{G G':List Nat}(h:LocG ρ G)(h':LocG ρ G'):LocG ρ (G++G'):=fun g hg=>(List.mem_append.1 hg).elim (h g) (h' g)
theorem av0{y:Nat}:∀ {l:List Nat},isIn y l=true→y∈l
 | [],h=>by cases h
 | z::l,h=>by
  unfold isIn at h
  split at h
  ·rename_i h1;rw [Nb h1];exact Ms ..
  ·exact Mc _ (av0 h)
theorem ayg:∀ {a b:List Nat},subN a b=true→∀ x∈a,x∈b
 | [],_,_=>fun x hx=>(by cases hx)
 | y::r,b,h=>fun x hx=>by
  simp only [subN,Ba] at h
  rcases Mn.1 hx with rfl | hx
  ·exact av0 h.1
  ·exact ayg h.2 x hx
theorem LocG.sub{G Gc:List Nat}(h:LocG ρ Gc)(hs:subN G Gc=true):LocG ρ G:=fun g hg=>h g (ayg hs g hg)
theorem aiw{x:Nat}:∀ {b a:List Nat},x∈ab1 a b↔x∈a∨x∈b
 | [],a=>by simp [ab1]
 | y::r,a=>by
  unfold ab1
  split
  ·rename_i h1
   rw [aiw]
   have:=av0 h1
   constructor
   ·rintro(h | h)
    ·exact .inl h
    ·exact .inr (Mc _ h)
   ·rintro(h | h)
    ·exact .inl h
    ·rcases Mn.1 h with rfl | h
     ·exact .inl this
     ·exact .inr h
  ·rw [aiw]
   constructor
   ·rintro(h | h)
    ·rcases List.mem_append.1 h with h | h
     ·exact .inl h
     ·rw [Mg.1 h];exact .inr (Ms ..)
    ·exact .inr (Mc _ h)
   ·rintro(h | h)
    ·exact .inl (List.mem_append_left _ h)
    ·rcases Mn.1 h with rfl | h
     ·exact .inl (List.mem_append_right _ (Mg.2 rfl))
     ·exact .inr h
theorem alp{G G':List Nat}:∀ k o,ρ.at G k o→ρ.at (ab1 G G') k o:=fun k o ⟨g,h1,h2⟩=>⟨g,aiw.2 (.inl h1),h2⟩
theorem alq{G G':List Nat}:∀ k o,ρ.at G' k o→ρ.at (ab1 G G') k o:=fun k o ⟨g,h1,h2⟩=>⟨g,aiw.2 (.inr h1),h2⟩
theorem LocG.union{G G':List Nat}(h:LocG ρ G)(h':LocG ρ G'):LocG ρ (ab1 G G'):=fun g hg=>(aiw.1 hg).elim (h g) (h' g)
theorem bks{s:Srt}{c:Cel}{e:X}{G:List Nat}{u:Value}(h:toS s c=some (e,G))(hr:CRel ρ c u):LocG ρ G∧RS (ρ.at G) s (den e) u:=by
 unfold toS at h
 split at h
 ·rename_i s' G' e'
  split at h
  ·rename_i hs
   cases h
   rw [air hs]
   exact hr
  ·cases h
 ·rename_i k z
  split at h
  ·split at h
   ·rename_i hk
    subst hk
    cases h
    exact⟨fun g hg=>(by cases hg),z,rfl,hr.1,hr.2⟩
   ·cases h
  ·cases h
 ·rename_i b
  split at h
  ·cases h
   exact⟨fun g hg=>(by cases hg),b,rfl,hr.1⟩
  ·cases h
 ·rename_i t
  split at h
  ·cases h
   refine⟨fun g hg=>(by cases hg),t,rfl,hr.1,?_⟩
   have:=hr.2
   simp only [abw,Dt] at this
   exact this
  ·cases h
 ·rename_i a b
  split at h
  ·cases h
   refine⟨fun g hg=>(by cases hg),.inl ⟨rfl,?_⟩⟩
   obtain⟨h1,h2⟩:=hr
   simp only [abw,Ba] at h2
   rw [h1,Nb h2.1,Nb h2.2]
  ·cases h
 ·cases h
theorem a4k:∀ {ws:List Srt} {cs:List Cel} {l:List X} {G:List Nat} {us:List Value},bkq ws cs=some (l,G)→All2 (CRel ρ) cs us→LocG ρ G∧us.length=ws.length∧RSs (ρ.at G) ws (denL l) fun j=>us[j]?
 | [],[],l,G,[],h,_=>by cases h;exact⟨fun g hg=>(by cases hg),rfl,rfl⟩
 | s::ws,c::cs,l,G,u::us,h,⟨h1,h2⟩=>by
  simp only [bkq] at h
  split at h
  ·rename_i e G1 l' G2 he hl
   cases h
   obtain⟨k1,k2⟩:=bks he h1
   obtain⟨k3,k4,k5⟩:=a4k hl h2
   refine⟨k1.append k3,by simp [k4],den e,denL l',u,rfl,rfl,k2.mono bfo,?_⟩
   exact(k5.mono ba7).congr fun j _=>by simp
  ·cases h
 | [],[],_,_,_::_,_,h=>h.elim
 | [],_::_,_,_,_,h,_=>by cases h
 | _::_,[],_,_,_,h,_=>by cases h
 | _::_,_::_,_,_,[],_,h=>h.elim
def denR(l:List (List X)):List (List CD):=l.map denL
theorem aoq{ws:List Srt}:∀ {n:Nat} {cs:List Cel} {l:List (List X)} {G:List Nat} {us:List Value},asu ws n cs=some (l,G)→All2 (CRel ρ) cs us→us.length=n*ws.length→LocG ρ G∧l.length=n∧Flat (ρ.at G) ws (denR l) us
 | 0,cs,l,G,us,h,_,hl=>by
  cases h
  have:us=[]:=List.length_eq_zero_iff.1 (by omega)
  subst this
  exact⟨fun g hg=>(by cases hg),rfl,Flat.nil _ _⟩
 | n+1,cs,l,G,us,h,hr,hl=>by
  simp only [asu] at h
  split at h
  ·rename_i l1 G1 ls G2 h1 h2
   cases h
   rw [afu] at h1
   rw [ae2] at h2
   obtain⟨k1,k2,k3⟩:=a4k h1 (hr.take ws.length)
   rw [Nat.add_mul] at hl
   obtain⟨k4,k5,k6⟩:=aoq h2 (hr.drop ws.length) (by rw [List.length_drop];omega)
   refine⟨k1.append k4,by simp [k5],?_⟩
   have:=(Flat.one k2 (k3.mono (bfo (ρ:=ρ) (G:=G1) (G':=G2)))).append (k6.mono (ba7 (ρ:=ρ) (G:=G1) (G':=G2)))
   rw [List.take_append_drop] at this
   exact this
  ·cases h
theorem apg(e:X):∀ (l:List (List X)),(den (l.foldl (fun e r=>X.ap .snoc (e::r)) e)).rows=(den e).rows++denR l
 | []=>by simp [denR]
 | r::l=>by
  show(den (l.foldl (fun e r=>X.ap .snoc (e::r)) (.ap .snoc (e::r)))).rows=_
  rw [apg (.ap .snoc (e::r)) l]
  show((den e).rows++[denL r])++denR l=(den e).rows++(denL r::denR l)
  simp
theorem Sim.swap{b:Nat}{L L':Loc}{k:Bk}{w':World}(hH:HRel ρ H w)(hd:Dom ρ H.n)(hL:ρ b=some L)(hk:H.Kn b)(hB:L'.B=L.B)(hM:L'.M=none)(hw:∀ k,k≠L.B→w'.heap[k]? = w.heap[k]?)(hs:w'.heap.size=w.heap.size)(hos:w'.os=w.os)(ht:w'.tape=w.tape)(ho:w'.output=w.output)
  (hnew:∀ i c,Bk.get k i=some c→aei (upd ρ H.n L') w' L' i c):Sim ρ H w (upd ρ H.n L') ((H.drop b).push k) w':=by
 have hfrn:=hd H.n (Rl _)
 have hle:PM.le ρ (upd ρ H.n L'):=ahp hfrn
 have hcell:∀ b' i,((H.drop b).push k).cell b' i=if b'=H.n then Bk.get k i else if b'=b then none else H.cell b' i:=by
  intro b' i
  rw [HP.cell_push,HP.cell_drop]
  rfl
 have hother:∀ b' K i c,b'≠b→H.cell b' i=some c→ρ b'=some K→K.B≠L.B:=fun b' K i c hne hc hK hB=>hne (hH.inj b' b K L ⟨i,c,hc⟩ hk hK hL hB)
 refine Sim0.up ?_ hd (ba0 hM)
 exact {
  le:=hle
  grow:=Nat.le_succ _
  dom:=fun b' hb'=>by
   have h1:H.n+1≤b':=hb'
   rw [upd_ne (by omega)];exact hd b' (by omega)
  rel:=by
   refine⟨fun b' i c K hc hK=>?_,fun b' b2 K K' g1 g2 hK hK' he=>?_,hH.hy⟩
   ·rw [hcell] at hc
    by_cases hb:b'=H.n
    ·subst hb
     rw [if_pos rfl] at hc
     rw [upd_same] at hK
     cases hK
     exact hnew i c hc
    ·rw [if_neg hb] at hc
     rw [upd_ne hb] at hK
     by_cases hbb:b'=b
     ·rw [if_pos hbb] at hc;cases hc
     ·rw [if_neg hbb] at hc
      exact((hH.rel b' i c K hc hK).mono hle).of_heap (hw K.B (hother b' K i c hbb hc hK))
   ·obtain⟨i,c,hc⟩:=g1
    obtain⟨i',c',hc'⟩:=g2
    rw [hcell] at hc hc'
    by_cases hb:b'=H.n<;>by_cases hb2:b2=H.n
    ·rw [hb,hb2]
    ·subst hb
     rw [upd_same] at hK;cases hK
     rw [if_neg hb2] at hc'
     rw [upd_ne hb2] at hK'
     by_cases hbb:b2=b
     ·rw [if_pos hbb] at hc';cases hc'
     ·rw [if_neg hbb] at hc'
      exact absurd (he.symm.trans hB) (hother b2 K' i' c' hbb hc' hK')
    ·subst hb2
     rw [upd_same] at hK';cases hK'
     rw [if_neg hb] at hc
     rw [upd_ne hb] at hK
     by_cases hbb:b'=b
     ·rw [if_pos hbb] at hc;cases hc
     ·rw [if_neg hbb] at hc
      exact absurd (he.trans hB) (hother b' K i c hbb hc hK)
    ·rw [if_neg hb] at hc
     rw [if_neg hb2] at hc'
     rw [upd_ne hb] at hK
     rw [upd_ne hb2] at hK'
     by_cases hbb:b'=b
     ·rw [if_pos hbb] at hc;cases hc
     ·rw [if_neg hbb] at hc
      by_cases hbb2:b2=b
      ·rw [if_pos hbb2] at hc';cases hc'
      ·rw [if_neg hbb2] at hc'
       exact hH.inj b' b2 K K' ⟨i,c,hc⟩ ⟨i',c',hc'⟩ hK hK' he
  knc:=fun b' i hb hc=>by
   rw [hcell,if_neg (by omega)]
   split
   ·rfl
   ·exact hc
  fr:=fun k hk' hno=>hw k fun hh=>hno b L hk hL hh.symm
  new:=fun b' K g1 g2=>by
   by_cases hb:b'=H.n
   ·subst hb;rw [upd_same] at g2;cases g2;exact .inr ⟨b,L,hk,hL,hB.symm⟩
   ·rw [upd_ne hb,g1] at g2;cases g2
  size:=by rw [hs];exact Rl _
  os:=hos
  tape:=ht
  output:=ho
  old:=fun b' K g1 g2=>by
   by_cases hb:b'=H.n
   ·omega
   ·rw [upd_ne hb,g1] at g2;cases g2 }
theorem Sim.nowhere{k:Bk}(hH:HRel ρ H w)(hd:Dom ρ H.n):Sim ρ H w ρ (H.push k) w:=by
 have hcell:∀ b i,b≠H.n→(H.push k).cell b i=H.cell b i:=fun b i hb=>by rw [HP.cell_push,if_neg hb]
 have hne:∀ {b L},ρ b=some L→b≠H.n:=fun {b L} h e=>by rw [e,hd H.n (Rl _)] at h;cases h
 refine Sim0.same ?_ hd
 exact {
  le:=PM.le.refl ρ
  grow:=Nat.le_succ _
  dom:=fun b hb=>hd b (by have:H.n+1≤b:=hb;omega)
  rel:=⟨fun b i c L hc hL=>hH.rel b i c L (by rw [← hcell b i (hne hL)];exact hc) hL,
   fun b b' L L' ⟨i,c,hc⟩ ⟨i',c',hc'⟩ hL hL'=>hH.inj b b' L L' ⟨i,c,by rw [← hcell b i (hne hL)];exact hc⟩ ⟨i',c',by rw [← hcell b' i' (hne hL')];exact hc'⟩ hL hL',hH.hy⟩
  knc:=fun b i hb hc=>by rw [hcell b i (by omega)];exact hc
  fr:=fun _ _ _=>rfl
  new:=fun b L h1 h2=>by rw [h1] at h2;cases h2
  size:=Rl _
  os:=rfl
  tape:=rfl
  output:=rfl
  old:=fun b L h1 h2=>by rw [h1] at h2;cases h2 }
theorem ain(e e':X):(den (catX e e')).rows=(den e).rows++(den e').rows:=by
 unfold catX
 split
 ·rfl
 ·rfl
theorem RSs.flat{m m':Mem}:∀ {ss:List Srt} {row:List CD} {f:Nat→Option Value},bei ss=true→RSs m ss row f→RSs m' ss row f
 | [],_,_,_,h=>h
 | s::ss,row,f,hw,h=>by
  obtain⟨c,r,u,h1,h2,h3,h4⟩:=h
  cases s with
  | sl w=>cases hw
  | int k=>exact⟨c,r,u,h1,h2,h3,RSs.flat (show bei ss=true from hw) h4⟩
  | bool=>exact⟨c,r,u,h1,h2,h3,RSs.flat (show bei ss=true from hw) h4⟩
  | str=>exact⟨c,r,u,h1,h2,h3,RSs.flat (show bei ss=true from hw) h4⟩
theorem Flat.aj8{ws:List Srt}{G:List Nat}{rows:List (List CD)}{us:List Value}(h:Flat (ρ.at G) ws rows us):Flat (ρ.at (Go.Sx.aj8 ws G)) ws rows us:=by
 unfold Go.Sx.aj8
 split
 ·rename_i hw
  exact⟨h.1,fun i row hi=>(h.2 i row hi).flat hw⟩
 ·exact h
theorem LocG.aj8{ws:List Srt}{G:List Nat}(h:LocG ρ G):LocG ρ (Go.Sx.aj8 ws G):=by
 unfold Go.Sx.aj8
 split
 ·exact fun g hg=>by cases hg
 ·exact h
theorem avt{hy:List X}(hh:Holds hy){z:Bool}{n ec e:X}(h:fitE hy z n ec e=true)(h1:z=true)(h2:(den n).iv=0)(h3:(den ec).rows=[]):(den e).rows=[]:=by
 unfold fitE at h
 simp only [Bool.or_eq_true,Bool.not_eq_true'] at h
 rcases h with h | h | h
 ·rw [← aap h];exact h3
 ·rw [h1] at h;cases h
 ·have:(0:Int)<(den n).iv:=agh hh h
  omega
theorem blh(a b:X):(den (addE a b)).iv=(den a).iv+(den b).iv:=by
 unfold addE
 split
 ·show _=0+(den b).iv
  omega
 ·rfl
 ·rename_i c x y
  show(den c).iv+(x+y)=((den c).iv+x)+y
  omega
 ·rfl
theorem cell?_heap{w w':World}(h:w'.heap=w.heap)(a:Addr):w'.cell? a=w.cell? a:=by unfold World.cell?;rw [h]
theorem buc{du:TypeDesc}{i:TypeInfo}{z:Value}{ws:List Srt}{x:AV}{u:Value}{sr:Src}{G:List Nat}(h:srcY H ws x=some (sr,G))(hu:seqD du=true)(hsz:i.size=ws.length)(hx:VRel ρ x u)(hH:HRel ρ H w)(hj:J ρ H w) :
  ∃ (rows:List (List CD)) (us:List Value),LocG ρ G∧(den sr.len).iv=rows.length∧(∀ e,(den (ait e sr)).rows=(den e).rows++rows)∧Flat (ρ.at G) ws rows us∧rows.length≤maxN∧blg P du i z w u rows.length us:=by
 have conc:∀ (b off len cap:Nat) (L:Loc) (cs:List Cel),H.read b off (len*ws.length)=some cs→(asu ws len cs).map (fun p=>((Src.rows p.1,p.2):Src×List Nat))=some (sr,G)→ρ b=some L→len≤cap→cap≤9223372036854775807→u=.slice (some ⟨L.B,L.o+off,none⟩) len cap →
   ∃ (rows:List (List CD)) (us:List Value),LocG ρ G∧(den sr.len).iv=rows.length∧(∀ e,(den (ait e sr)).rows=(den e).rows++rows)∧Flat (ρ.at G) ws rows us∧rows.length≤maxN∧blg P du i z w u rows.length us:=by
  intro b off len cap L cs hr hc hL h1 h2 hu'
  obtain⟨p,hp,e⟩:=map_some hc
  obtain⟨l,G1⟩:=p
  cases e
  obtain⟨us,hl,hrel,hcell⟩:=HP.read_world hr hH hL
  obtain⟨k1,k2,k3⟩:=aoq hp hrel hl
  have hlen:(denR l).length=len:=by unfold denR;rw [List.length_map,k2]
  refine⟨denR l,us,k1,?_,fun e=>apg e l,k3,by rw [hlen];exact Nat.le_trans h1 h2,.inl ⟨hu,fun w' hw=>?_⟩⟩
  ·show((l.length:Nat):Int)=_
   rw [k2,hlen]
  ·rw [hlen,hu',hsz]
   refine⟨rfl,run_firstCells_some (P:=P) w' _ _ _ _ _ us hl fun j v hj'=>?_⟩
   rw [abl]
   have:=hcell j v hj'
   unfold World.cell? at this ⊢
   rw [hw]
   exact this
 unfold srcY at h
 split at h
 ·rename_i b off len cap
  obtain⟨⟨L,hL,e⟩,h1,h2⟩:=hx
  split at h
  ·rename_i cs hr
   exact conc b off len cap L cs hr h hL h1 h2 e
  ·cases h
 ·rename_i b off len s
  obtain⟨L,cap,hL,e,h1,h2,_⟩:=hx
  split at h
  ·rename_i cs hr
   exact conc b off len cap L cs hr h hL h1 h2 e
  ·cases h
 ·rename_i a c
  cases h
  obtain⟨e,hl⟩:=hx
  simp only [abw,Ba] at hl
  have ha:=Nb hl.1
  subst ha
  refine⟨[],[],fun g hg=>(by cases hg),rfl,fun e=>by simp [ait],Flat.nil _ _,Nat.zero_le _,.inl ⟨hu,fun w' _=>?_⟩⟩
  rw [e]
  exact⟨rfl,run_firstCells_none _ _ _ _ _⟩
 ·rename_i ws' G' e
  split at h
  ·rename_i hs
   cases h
   have hs:=abj hs
   subst hs
   obtain⟨hG,hr⟩:=hx
   have hsl:=hr.slice
   refine⟨(den e).rows,?_⟩
   rcases(show(den e=.sl true []∧u=.slice none 0 0)∨_ from hr) with ⟨e1,e2⟩ | ⟨rows,b,off,cap,e1,e2,e3,e4,e5⟩ | ⟨ad,e1,e2⟩
   rotate_right
   ·have hrows:(den e).rows=[]:=by rw [e1];rfl
    refine⟨[],LocG.aj8 hG,?_,fun e0=>ain e0 e,by rw [hrows];exact Flat.nil _ _,by rw [hrows];exact Nat.zero_le _,.inl ⟨hu,fun w' _=>?_⟩⟩
    ·show((den e).len:Int)=_
     rw [hsl.2.1]
    ·rw [hrows,e2]
     refine⟨rfl,run_firstCells_some (P:=P) w' _ 0 _ _ _ [] (by simp) fun j v hj=>by simp at hj⟩
   ·have hrows:(den e).rows=[]:=by rw [e1];rfl
    refine⟨[],LocG.aj8 hG,?_,fun e0=>ain e0 e,by rw [hrows];exact Flat.nil _ _,by rw [hrows];exact Nat.zero_le _,.inl ⟨hu,fun w' _=>?_⟩⟩
    ·show((den e).len:Int)=_
     rw [hsl.2.1]
    ·rw [hrows,e2]
     exact⟨rfl,run_firstCells_none _ _ _ _ _⟩
   ·have hrows:(den e).rows=rows:=by rw [e1];rfl
    by_cases hne:rows=[]
    ·refine⟨[],LocG.aj8 hG,?_,fun e0=>ain e0 e,by rw [hrows,hne];exact Flat.nil _ _,hsl.1,.inl ⟨hu,fun w' _=>?_⟩⟩
     ·show((den e).len:Int)=_
      rw [hsl.2.1]
     ·rw [hrows,e2,hne]
      refine⟨rfl,run_firstCells_some (P:=P) w' _ 0 _ _ _ [] (by simp) fun j v hj=>by simp at hj⟩
    ·obtain⟨arr,t,fr,g1,g2⟩:=e5 hne
     have hob:=hj.obj g1.1
     obtain⟨us,hf,hc⟩:=aki g2
     refine⟨us,LocG.aj8 hG,?_,fun e0=>ain e0 e,by rw [hrows];exact hf.aj8,hsl.1,.inl ⟨hu,fun w' hw=>?_⟩⟩
     ·show((den e).len:Int)=_
      rw [hsl.2.1]
     ·rw [hrows,e2,hsz]
      refine⟨rfl,run_firstCells_some (P:=P) w' _ _ _ _ _ us hf.1 fun k v hk=>?_⟩
      rw [abl,cell?_heap hw,cell?_of hob]
      exact hc k v hk
  ·cases h
 ·rename_i z0 b n s Gc ec
  split at h
  ·rename_i ws' G' e nb hrw
   split at h
   ·rename_i hok
    cases h
    simp only [Ba] at hok
    have hs:=abj hok.1
    subst hs
    have hn:=aap hok.2.1
    subst hn
    have hG:=LocG.sub hx.1 hok.2.2.1
    refine⟨(den e).rows,?_⟩
    rcases hx.2 with ⟨e0,e1,e1',e2⟩ | ⟨_,L,k,cap,e1,e2,e3,e4,e5,e6,e7⟩
    ·have hrows:=avt hH.hy hok.2.2.2 e0 e1 e1'
     refine⟨[],LocG.aj8 hG,?_,fun e0=>ain e0 e,by rw [hrows];exact Flat.nil _ _,by rw [hrows];exact Nat.zero_le _,.inl ⟨hu,fun w' _=>?_⟩⟩
     ·show(den n).iv=_
      rw [hrows,e1]
      rfl
     ·rw [hrows,e2]
      exact⟨rfl,run_firstCells_none _ _ _ _ _⟩
    ·obtain⟨_,hG',g0,arr,tt,fr,g1,g2,g3,g4,g5,g6⟩:=hH.rel b 0 _ L (abm hrw).1 e1
     have hk:k=(den e).rows.length:=by omega
     obtain⟨us,hf,hc⟩:=aki g6
     refine⟨us,LocG.aj8 hG,g0,fun e0=>ain e0 e,hf.aj8,g5,.inl ⟨hu,fun w' hw=>?_⟩⟩
     rw [e3,hsz,hk]
     refine⟨rfl,run_firstCells_some (P:=P) w' _ _ _ _ _ us hf.1 fun k v hk=>?_⟩
     rw [abl,cell?_heap hw,cell?_of g1]
     exact hc k v hk
   ·cases h
  ·cases h
 ·cases h
theorem aov{hy:List X}{n n':X}{bytes:Nat}(h:fewX hy n n' bytes=true)(hh:Holds hy){a b:Nat}(ha:(den n).iv=a)(hb:(den n').iv=b):fewA (a+b) bytes=true∧a+b≤maxN:=by
 unfold fewX at h
 rw [Ba] at h
 have h1:((den n).iv+(den n').iv)*(bytes:Int)≤140737488355328:=acu hh h.1
 have h2:(den n).iv+(den n').iv≤9223372036854775807:=acu hh h.2
 rw [ha,hb] at h1 h2
 have h3:(a+b)*bytes≤140737488355328:=by
  have:(((a+b)*bytes:Nat):Int)≤140737488355328:=by rw [Int.natCast_mul,Int.natCast_add];exact h1
  omega
 have h4:a+b≤9223372036854775807:=by omega
 refine⟨?_,h4⟩
 simp only [fewA,Ba]
 exact⟨Nat.ble_eq_true_of_le h3,Nat.ble_eq_true_of_le h4⟩
theorem RS.is8{m:Mem}{s:Srt}{d:CD}{u:Value}(h:RS m s d u):is8 u=s8 s:=by
 cases s with
 | int k =>
  obtain⟨n,_,rfl,_⟩:=h
  cases k<;>rfl
 | bool =>
  obtain⟨b,_,rfl⟩:=h
  rfl
 | str =>
  obtain⟨b,_,rfl,_⟩:=h
  rfl
 | sl w =>
  rcases(show(d=.sl true []∧u=.slice none 0 0)∨_ from h) with ⟨_,rfl⟩ | ⟨_,_,_,_,_,rfl,_⟩ | ⟨_,_,rfl⟩<;>rfl
theorem a9c{ws:List Srt}{f:Srt→Bool}{j:Nat}{s:Srt}(h:ws.all f=true)(hj:ws[j]? = some s):f s=true:=List.all_eq_true.1 h s (List.mem_of_getElem? hj)
theorem b1i{ws:List Srt}(hu:uniS ws=true){j:Nat}{s:Srt}(hj:ws[j]? = some s):s8 s=ws.all s8:=by
 unfold uniS at hu
 rw [Bool.or_eq_true] at hu
 rcases hu with h | h
 ·rw [h,a9c h hj]
 ·have h1:=a9c h hj
  rw [Bool.not_eq_true'] at h1
  rw [h1]
  symm
  rw [Bool.eq_false_iff]
  intro h2
  rw [a9c h2 hj] at h1
  cases h1
theorem aur{m:Mem}{ws:List Srt}{rows:List (List CD)}{us:List Value}(hf:Flat m ws rows us)(hu:uniS ws=true){k:Nat}{u:Value}(hk:us[k]? = some u):is8 u=ws.all s8:=by
 have hlt:=(Ls.1 hk).1
 rw [hf.1] at hlt
 have h0:0<ws.length:=by
  rcases Nat.eq_zero_or_pos ws.length with h | h
  ·rw [h] at hlt;omega
  ·exact h
 have hd:k / ws.length<rows.length:=(Nat.div_lt_iff_lt_mul h0).2 hlt
 have hm:k % ws.length<ws.length:=Nat.mod_lt _ h0
 have hr:=hf.2 (k / ws.length) _ (Gl hd)
 obtain⟨v,hv,hs⟩:=hr.get (k % ws.length) _ (Gl hm)
 rw [show k / ws.length*ws.length+k % ws.length=k by rw [Nat.mul_comm];exact Nat.div_add_mod _ _,hk] at hv
 cases hv
 rw [hs.is8]
 exact b1i hu (Gl hm)
theorem bov{m:Mem}{ws:List Srt}{rows:List (List CD)}{arr:Array Value}{o:Nat}(h:∀ i row,rows[i]? = some row→RSs m ws row fun j=>arr[o+i*ws.length+j]?)(hu:uniS ws=true){j:Nat}{u:Value}(h0:o≤j)(h1:j<o+rows.length*ws.length)(hj:arr[j]? = some u):is8 u=ws.all s8:=by
 obtain⟨us,hf,hc⟩:=aki h
 have hl:j - o<us.length:=by rw [hf.1];omega
 have:=hc (j - o) _ (Gl hl)
 rw [show o+(j - o)=j by omega,hj] at this
 cases this
 exact aur hf hu (Gl hl)
theorem ayi{arr:Array Value}{p:Prop}(j:Nat)(u:Value)(h:arr.toList.length≤j)(hj:arr[j]? = some u):p:=by
 have:=(Ga.1 hj).1
 rw [Array.length_toList] at h
 omega
theorem bo9{ws:List Srt}{zs:Array Value}(h:zok ws zs=true)(hu:uniS ws=true){u:Value}(hm:u∈zs):is8 u=ws.all s8:=by
 have:=List.all_eq_true.1 h u (by simpa using hm)
 rw [hu] at this
 simpa using this
theorem zero_mem{zs:Array Value}{n j:Nat}{u:Value}(h:(Builtin.zeroCells zs n)[j]? = some u):u∈zs:=by
 unfold Builtin.zeroCells at h
 rw [Array.getElem?_map] at h
 cases hr:(Array.range (n*zs.size))[j]? with
 | none=>rw [hr] at h;cases h
 | some i =>
  rw [hr] at h
  simp only [Option.map_some,Oi] at h
  have hlt:=(Ga.1 hr).1
  rw [Array.size_range] at hlt
  have h0:0<zs.size:=by
   rcases Nat.eq_zero_or_pos zs.size with h | h
   ·rw [h] at hlt;omega
   ·exact h
  rw [getElem!_pos zs _ (Nat.mod_lt _ h0)] at h
  subst h
  exact Array.getElem_mem _
theorem bjt{L:Loc}{ws:List Srt}{G:List Nat}{e:X}{rows:List (List CD)}{us:List Value}{arr:Array Value}{t:TypeId}{fr:Nat×Nat}{c:Ct}{i:Nat}{n:X}(hc:Bk.get (.lf [some (.rows ws G e n)]) i=some c)(hG:LocG ρ G)(hn:(den n).iv=rows.length)(h1:w.heap[L.B]? = some (.cells arr t fr))(h2:UF fr arr.size)(h3:arr.size+1=L.C)
  (hr:(den e).rows=rows) (hf:Flat (ρ.at G) ws rows us) (hle:L.o+us.length≤arr.size) (hm:rows.length≤maxN) (hu:∀ k u,us[k]? = some u→arr[L.o+k]? = some u) (ht:uniS ws=true→∀ (j:Nat) (u:Value),(j<L.o∨L.o+us.length≤j)→arr[j]? = some u→is8 u=ws.all s8):aei ρ w L i c:=by
 cases i with
 | succ i=>cases hc
 | zero =>
  cases hc
  have hU:uniS ws=true→∀ (j:Nat) (u:Value),arr[j]? = some u→is8 u=ws.all s8:=fun hw j u hj=>by
   rcases Nat.lt_or_ge j L.o with h | h
   ·exact ht hw j u (.inl h) hj
   ·rcases Nat.lt_or_ge j (L.o+us.length) with h' | h'
    ·have hl:j - L.o<us.length:=by omega
     have:=hu (j - L.o) _ (Gl hl)
     rw [show L.o+(j - L.o)=j by omega,hj] at this
     cases this
     exact aur hf hw (Gl hl)
    ·exact ht hw j u (.inr h') hj
  refine⟨rfl,hG,by rw [hr];exact hn,arr,t,fr,h1,⟨h2,hU⟩,h3,by rw [hr,← hf.1];exact hle,by rw [hr];exact hm,fun i row hi=>?_⟩
  rw [hr] at hi
  refine(hf.2 i row hi).congr fun j hj=>?_
  have hlt:i*ws.length+j<us.length:=by rw [hf.1];exact bbw (Ls.1 hi).1 hj
  have:=hu (i*ws.length+j) us[i*ws.length+j] (Gl hlt)
  rw [show L.o+i*ws.length+j=L.o+(i*ws.length+j) by omega,this,Gl hlt]
theorem bk4{args:Array Operand}{ats:Array TypeId}(h:yApp P E H args ats=some (v,H'))(hx:∀ z∈args.toList,∀ a,E z=some a→VRel ρ a (ev z))(hH:HRel ρ H w)(hd:Dom ρ H.n)(hj:J ρ H w) :
  St H H'∧OpS P ρ ev H w (.call ⟨.builtin .append,args,ats⟩) v H':=by
 unfold yApp at h
 simp only [aja,ab6] at h
 split at h
 ·rename_i s x t u hl hat
  obtain⟨a,b,rfl,ha,hb⟩:=bor hl hx
  have hats:ats = #[t,u]:=by rw [← Array.toList_inj];simpa using hat
  subst hats
  split at h
  ·rename_i e du ht hu
   split at h
   ·rename_i ag sz i ws hs hi hw
    split at h
    ·rename_i z hz
     split at h
     ·rename_i d G zf ob n sr G' hdst hsrc
      split at h
      ·rename_i hc
       obtain⟨h0,rfl,hzs,hwl,hzk⟩:=hc
       split at h
       ·rename_i hfew
        cases h
        obtain⟨rows',us',hG',hn',hjoin,hf',hm',hsrc'⟩:=buc (P:=P) (du:=.slice du) (z:=z) hsrc rfl hwl.symm hb hH hj
        have fin:∀ {u':Value} {w':World},(∀ ty,(Builtin.append_ #[t,u] ty #[ev a,ev b]).run P w=.ok u' w')→Post ρ H w (.one (.os zf H.n (addE n sr.len) i.size (ab1 G G') (ait d sr))) ((am2 H ob).push (.lf [some (.rows ws (ab1 G G') (ait d sr) (addE n sr.len))])) u' w' →
          OpS P ρ ev H w (.call ⟨.builtin .append,#[a,b],#[t,u]⟩) (.one (.os zf H.n (addE n sr.len) i.size (ab1 G G') (ait d sr))) ((am2 H ob).push (.lf [some (.rows ws (ab1 G G') (ait d sr) (addE n sr.len))])):=fun {u'} {w'} hrun hp=>by
         refine OpS.of_run (u':=u') (w':=w') (fun dst ty pos after guard=>?_) hp
         simp only [execOp,resolve,invoke,builtin,List.map_toArray,List.map_cons,List.map_nil,Sem.run_bind,Sem.run_pure,Result.andThen_ok,hrun]
        have cons:∀ (k:Nat),(den n).iv=k→(den (addE n sr.len)).iv=((k+rows'.length:Nat):Int):=fun k hk=>by
         rw [blh,hk,hn',Int.natCast_add]
        have grow:∀ (base:Option Addr) (sLen sCap:Nat) (olds:List Value) (rows:List (List CD)),ev a=.slice base sLen sCap→(∀ w':World,w'.heap=w.heap→(Builtin.firstCells i.size sLen (.slice base sLen sCap)).run P w'=.ok olds.toArray w')→(den d).rows=rows→rows.length=sLen→(den n).iv=sLen→LocG ρ G→Flat (ρ.at G) ws rows olds →
          sCap<sLen+rows'.length→rows'.length≠0→fewA (sLen+rows'.length) i.bytes=true→sLen+rows'.length≤maxN →
          ∃ u' w',(∀ ty,(Builtin.append_ #[t,u] ty #[ev a,ev b]).run P w=.ok u' w')∧Post ρ H w (.one (.os zf H.n (addE n sr.len) i.size (ab1 G G') (ait d sr))) ((am2 H ob).push (.lf [some (.rows ws (ab1 G G') (ait d sr) (addE n sr.len))])) u' w':=by
         intro base sLen sCap olds rows hea ho hdr hrl hnl hG hf hg hn0 hfw hle
         have hlen:=cons sLen hnl
         have hGn:(am2 H ob).n=H.n:=by cases ob<;>rfl
         have hsd:Sim ρ H w ρ (am2 H ob) w:=by
          cases ob with
          | none=>exact Sim.refl hH hd
          | some b=>exact Sim.drop hH hd b
         have hdG:Dom ρ (am2 H ob).n:=by rw [hGn];exact hd
         have s2:Sim ρ (am2 H ob) w ρ (am2 H ob) w.drew:=Sim.same hsd.rel hdG rfl rfl rfl rfl
         have hcg:=bf1 (sLen+rows'.length) sCap e w
         have hcl:=bf2 sCap e w hle
         have hl1:olds.length=sLen*i.size:=by rw [hf.1,hrl,hwl]
         have hl2:us'.length=rows'.length*i.size:=by rw [hf'.1,hwl]
         have hfl:Flat (ρ.at (ab1 G G')) ws (rows++rows') (olds++us'):=(hf.mono alp).append (hf'.mono alq)
         generalize harr:olds.toArray++us'.toArray++Builtin.zeroCells z.cells (grownCap w (sLen+rows'.length) sCap e - (sLen+rows'.length))=arr
         have hsz:arr.size=grownCap w (sLen+rows'.length) sCap e*i.size:=by
          subst harr
          simp only [Array.size_append,List.size_toArray,size_zeroCells,hzs,hl1,hl2]
          rw [← Nat.add_mul,← Nat.add_mul,show sLen+rows'.length+(grownCap w (sLen+rows'.length) sCap e - (sLen+rows'.length))=grownCap w (sLen+rows'.length) sCap e by omega]
         have hget:∀ k u,(olds++us')[k]? = some u→arr[k]? = some u:=fun k u hk=>by
          have hlt:=(Ls.1 hk).1
          subst harr
          rw [Array.getElem?_append_left (by simp at hlt ⊢;omega)]
          simpa using hk
         have htail:uniS ws=true→∀ (j:Nat) (u:Value),(olds++us').length≤j→arr[j]? = some u→is8 u=ws.all s8:=fun hw j u hj hu=>by
          subst harr
          rw [Array.getElem?_append_right (by simp at hj ⊢;omega)] at hu
          exact bo9 hzk hw (zero_mem hu)
         have hLM:PM.le ρ (upd ρ H.n ⟨w.heap.size,0,arr.size+1,none⟩):=ahp (hd _ (Rl _))
         have s3:=Sim.alloc (o:=.cells arr e) (k:=.lf [some (.rows ws (ab1 G G') (ait d sr) (addE n sr.len))]) (L:=⟨w.heap.size,0,arr.size+1,none⟩) s2.rel hdG rfl rfl (fun j c hc=>by
          rw [hGn]
          refine bjt (us:=olds++us') (rows:=rows++rows') (arr:=arr) (t:=e) (fr:=(0,0)) hc ?_ (by rw [hlen,List.length_append,hrl]) (by rw [heap_alloc];exact if_pos rfl) (.inl rfl) rfl (by rw [hjoin,hdr]) (hfl.mono (PM.at_mono hLM _)) ?_ (by rw [List.length_append,hrl];exact hle) (fun k u hk=>by rw [Nat.zero_add];exact hget k u hk) (fun hw j u hj hu=>htail hw j u (hj.elim (fun h=>absurd h (Nat.not_lt_zero _)) fun h=>by rwa [show(⟨w.heap.size,0,arr.size+1,none⟩:Loc).o=0 from rfl,Nat.zero_add] at h) hu)
          ·exact fun g hg=>let ⟨L,hL⟩:=(hG.union hG') g hg;⟨L,hLM _ _ hL⟩
          ·rw [List.length_append,hl1,hl2,hsz,← Nat.add_mul]
           show 0+_≤_
           rw [Nat.zero_add]
           exact Nat.mul_le_mul_right _ hcg)
         rw [hGn] at s3
         refine⟨_,_,fun ty=>by rw [hea];exact bao (ty:=ty) ht hu hi hz h0 hsrc' ho hg hfw hn0,_,⟨?_,.inr ⟨?_,⟨w.heap.size,0,arr.size+1,none⟩,sLen+rows'.length,grownCap w (sLen+rows'.length) sCap e,upd_same _ _ _,hlen,rfl,hcg,hcl,h0,?_⟩⟩,by rw [harr];exact hsd.trans hd (s2.trans hdG s3)⟩
         ·exact fun g hg=>let ⟨L,hL⟩:=(hG.union hG') g hg;⟨L,hLM _ _ hL⟩
         ·rintro⟨_,hh⟩
          rw [hlen] at hh
          omega
         ·show 0+_+1=arr.size+1
          rw [hsz]
          omega
        have still:ev a=.slice none 0 0→zf=true→(den d).rows=[]→(den n).iv=0→LocG ρ G→rows'.length=0 →
          ∃ u' w',(∀ ty,(Builtin.append_ #[t,u] ty #[ev a,ev b]).run P w=.ok u' w')∧Post ρ H w (.one (.os zf H.n (addE n sr.len) i.size (ab1 G G') (ait d sr))) ((am2 H ob).push (.lf [some (.rows ws (ab1 G G') (ait d sr) (addE n sr.len))])) u' w':=by
         intro hea hzf hdr hnl hG hn0
         have hGn:(am2 H ob).n=H.n:=by cases ob<;>rfl
         have hsd:Sim ρ H w ρ (am2 H ob) w:=by
          cases ob with
          | none=>exact Sim.refl hH hd
          | some b=>exact Sim.drop hH hd b
         have hdG:Dom ρ (am2 H ob).n:=by rw [hGn];exact hd
         have hus:us'=[]:=List.length_eq_zero_iff.1 (by rw [hf'.1,hn0];omega)
         have hlen:=cons 0 hnl
         have hrr:(den (ait d sr)).rows=[]:=by rw [hjoin,hdr,List.length_eq_zero_iff.1 hn0];rfl
         rw [hn0] at hsrc' hlen
         subst hus
         refine⟨.slice none 0 0,w,fun ty=>by rw [hea];exact a0s (ty:=ty) (base:=none) (sLen:=0) (sCap:=0) (w1:=w) ht hu hi hz h0 hsrc' (by omega) rfl,ρ,⟨hG.union hG',.inl ⟨hzf,hlen,hrr,rfl⟩⟩,hsd.trans hd (Sim.nowhere hsd.rel hdG)⟩
        have hStp:St H ((am2 H ob).push (.lf [some (.rows ws (ab1 G G') (ait d sr) (addE n sr.len))])):=by
         cases ob with
         | none=>exact St.push _ _
         | some b=>exact(St.drop H b).trans (St.push _ _)
        refine⟨hStp,?_⟩
        unfold dstY at hdst
        split at hdst
        ·rename_i a0 c0
         cases hdst
         obtain⟨hea,hlit⟩:=ha
         simp only [abw,Ba] at hlit
         have e1:=Nb hlit.1
         have e2:=Nb hlit.2
         subst e1
         subst e2
         obtain⟨f1,f2⟩:=aov hfew hH.hy (a:=0) (b:=rows'.length) rfl hn'
         by_cases hn0:rows'.length=0
         ·obtain⟨u',w',h1,h2⟩:=still hea rfl rfl rfl (fun g hg=>(by cases hg)) hn0
          exact fin h1 h2
         ·obtain⟨u',w',h1,h2⟩:=grow none 0 0 [] [] hea (fun w' _=>run_firstCells_none _ _ _ _ _) rfl rfl rfl (fun g hg=>(by cases hg)) (Flat.nil _ _) (by omega) hn0 f1 f2
          exact fin h1 h2
        ·rename_i z0 b0 n0 s0 Gc ec
         split at hdst
         ·rename_i ws' G0 e0 nb hrw
          split at hdst
          ·rename_i hok
           cases hdst
           simp only [Ba] at hok
           have k1:=abj hok.1
           subst k1
           have k2:=aap hok.2.1
           subst k2
           have k3:=Nb hok.2.2.1
           subst k3
           have hG:=LocG.sub ha.1 hok.2.2.2.1
           have hfit:=hok.2.2.2.2
           rcases ha.2 with ⟨e1,e2,e2',e3⟩ | ⟨e0',L,k,cap,e1,e2,e3,e4,e5,e6,e7⟩
           ·have hrows:=avt hH.hy hfit e1 e2 e2'
            obtain⟨f1,f2⟩:=aov hfew hH.hy (a:=0) (b:=rows'.length) e2 hn'
            by_cases hn0:rows'.length=0
            ·obtain⟨u',w',h1,h2⟩:=still e3 e1 hrows e2 hG hn0
             exact fin h1 h2
            ·obtain⟨u',w',h1,h2⟩:=grow none 0 0 [] [] e3 (fun w' _=>run_firstCells_none _ _ _ _ _) hrows rfl e2 hG (Flat.nil _ _) (by omega) hn0 f1 f2
             exact fin h1 h2
           ·obtain⟨_,_,g0,arr,tt,fr,g1,g2,g3,g4,g5,g6⟩:=hH.rel b0 0 _ L (abm hrw).1 e1
            have hk:k=(den d).rows.length:=by omega
            obtain⟨us,hf,hc⟩:=aki g6
            obtain⟨f1,f2⟩:=aov hfew hH.hy (a:=k) (b:=rows'.length) e2 hn'
            have hfirst:∀ w':World,w'.heap=w.heap→(Builtin.firstCells i.size k (.slice (some ⟨L.B,L.o,none⟩) k cap)).run P w'=.ok us.toArray w':=fun w' hw' =>
             run_firstCells_some (P:=P) w' _ _ _ _ _ us (by rw [hf.1,hk,hwl]) fun j v hj=>by
              rw [abl,cell?_heap hw',cell?_of g1]
              exact hc j v hj
            by_cases hroom:k+rows'.length≤cap
            ·have hlus:us.length=k*i.size:=by rw [hf.1,hk,hwl]
             have hlus':us'.length=rows'.length*i.size:=by rw [hf'.1,hwl]
             have hcapS:(k+rows'.length)*i.size≤cap*i.size:=Nat.mul_le_mul_right _ hroom
             rw [Nat.add_mul] at hcapS
             have hst:(storeCells (Addr.add ⟨L.B,L.o,none⟩ (k*i.size)) us').run P w=.ok () (setRow w L.B (L.o+k*i.size) us'):=by
              rw [abl]
              exact aft L.B us' w (L.o+k*i.size) 0 g1 g2.1 (by omega) hf'.one'
             obtain⟨m1,m2,m3,m4⟩:=ahc us' w L.B (L.o+k*i.size)
             obtain⟨arr',q1,q2,q3,q4⟩:=ahd us' w L.B (L.o+k*i.size) g1
             have hLM:PM.le ρ (upd ρ H.n ⟨L.B,L.o,L.C,none⟩):=ahp (hd _ (Rl _))
             have hfl:Flat (ρ.at (ab1 G G')) ws ((den d).rows++rows') (us++us'):=(hf.mono alp).append (hf'.mono alq)
             have hGG:LocG (upd ρ H.n ⟨L.B,L.o,L.C,none⟩) (ab1 G G'):=fun g hg=>let ⟨L,hL⟩:=(hG.union hG') g hg;⟨L,hLM _ _ hL⟩
             have hlen:=cons k e2
             have hsw:=Sim.swap (b:=b0) (L:=L) (L':=⟨L.B,L.o,L.C,none⟩) (k:=.lf [some (.rows ws (ab1 G G') (ait d sr) (addE n sr.len))]) hH hd e1 ⟨0,_,(abm hrw).1⟩ rfl rfl (fun k hk=>setRow_other us' w L.B _ k hk) m4 m1 m2 m3 (fun j c hc' =>
              bjt (us:=us++us') (rows:=(den d).rows++rows') (arr:=arr') (t:=tt) (fr:=fr) (ht:=fun hw j y hj hy=>g2.2 hw j y (by rw [← q3 j (by rw [List.length_append,hlus] at hj;have:j<L.o∨L.o+(k*i.size+us'.length)≤j:=hj;omega)];exact hy)) hc' hGG (by rw [hlen,List.length_append,hk]) q1 (by rw [q2];exact g2.1) (by rw [q2];exact g3) (hjoin d) (hfl.mono (PM.at_mono hLM _))
               (by rw [List.length_append,hlus,hlus',q2];show L.o+_≤_;omega) (by rw [List.length_append,← hk];exact f2) fun j y hj=>by
                show arr'[L.o+j]? = _
                rcases Nat.lt_or_ge j us.length with h1 | h1
                ·rw [List.getElem?_append_left h1] at hj
                 rw [q3 _ (by omega)]
                 exact hc j y hj
                ·rw [List.getElem?_append_right h1] at hj
                 have hlt:=(Ls.1 hj).1
                 have:=q4 _ y hj (by omega)
                 rw [← this]
                 congr 1
                 omega)
             refine fin (u':=.slice (some ⟨L.B,L.o,none⟩) (k+rows'.length) cap) (fun ty=>by rw [e3];exact a0s (ty:=ty) (base:=some ⟨L.B,L.o,none⟩) ht hu hi hz h0 hsrc' hroom hst) ⟨_,⟨hGG,.inr ⟨?_,⟨L.B,L.o,L.C,none⟩,k+rows'.length,cap,upd_same _ _ _,hlen,rfl,hroom,e5,h0,e7⟩⟩,hsw⟩
             rintro⟨k1,k2⟩
             rw [hlen] at k2
             refine e0' ⟨k1,?_⟩
             rw [e2]
             omega
            ·obtain⟨u',w',h1,h2⟩:=grow (some ⟨L.B,L.o,none⟩) k cap us _ e3 hfirst rfl hk.symm e2 hG hf (by omega) (by omega) f1 f2
             exact fin h1 h2
          ·cases hdst
         ·cases hdst
        ·cases hdst
       ·cases h
      ·cases h
     ·cases h
    ·cases h
   ·cases h
  ·cases h
 ·cases h
end
end Go.Sx
