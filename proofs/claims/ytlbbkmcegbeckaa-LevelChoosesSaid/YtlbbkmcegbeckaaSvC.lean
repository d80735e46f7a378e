/-
  A second abstract evaluator of the model's code: steps of the world, told of the heaps. Conditions: none; nothing here speaks of one program.
-/
import Derived.Test.YtlbbkmcegbeckaaSvA
import Derived.Laws.StructEq
import Derived.Laws.Cells
import Derived.Laws.Entries
import Derived.Laws.Small
import Derived.Calls
set_option linter.all false
set_option maxRecDepth 100000
noncomputable section
namespace Go.Sx
variable [Sg]
noncomputable section
abbrev LB:=List (Option Ct)
def takeC(n:Nat)(l:LB):Option (List Cel) :=
 Nat.rec (motive:=fun _=>LB→Option (List Cel)) (fun _=>some [])
  (fun _ ih l=>List.casesOn (motive:=fun _=>Option (List Cel)) l none fun a t=>Option.casesOn (motive:=fun _=>Option (List Cel)) a none fun x =>
   Ct.casesOn (motive:=fun _=>Option (List Cel)) x (fun y=>Option.casesOn (motive:=fun _=>Option (List Cel)) (ih t) none fun r=>some (y::r)) (fun _ _=>none) (fun _ _ _ _=>none) (fun _ _ _ _ _=>none) none (fun _ _ _ _=>none) (fun _ _ _ _ _=>none) (fun _ _ _=>none)) n l
def aj7{α:Type}(n:Nat)(l:List α):List α :=
 Nat.rec (motive:=fun _=>List α→List α) (fun l=>l) (fun _ ih l=>List.casesOn (motive:=fun _=>List α) l [] fun _ t=>ih t) n l
theorem ae2{α:Type}:∀ (n:Nat) (l:List α),aj7 n l=l.drop n
 | 0,_=>rfl
 | _+1,[]=>rfl
 | n+1,_::l=>by
  show aj7 n l=_
  rw [ae2 n l]
  rfl
theorem a04:∀ (n:Nat) (l:LB) (cs:List Cel),takeC n l=some cs→cs.length=n∧∀ (i:Nat) (c:Cel),cs[i]? = some c→l[i]? = some (some (.c c))
 | 0,l,cs,h=>by
  cases h
  exact⟨rfl,fun i c h=>by simp at h⟩
 | n+1,[],cs,h=>by cases h
 | n+1,none::l,cs,h=>by cases h
 | n+1,some (.map _ _)::l,cs,h=>by cases h
 | n+1,some (.iter _ _ _ _)::l,cs,h=>by cases h
 | n+1,some (.loop _ _ _ _ _)::l,cs,h=>by cases h
 | n+1,some .room::l,cs,h=>by cases h
 | n+1,some (.mx _ _ _ _ _)::l,cs,h=>by cases h
 | n+1,some (.ix _ _ _)::l,cs,h=>by cases h
 | n+1,some (.rows _ _ _ _)::l,cs,h=>by cases h
 | n+1,some (.c x)::l,cs,h=>by
  have h':Option.casesOn (motive:=fun _=>Option (List Cel)) (takeC n l) none (fun r=>some (x::r))=some cs:=h
  cases ht:takeC n l with
  | none=>rw [ht] at h';cases h'
  | some r =>
   rw [ht] at h'
   cases h'
   obtain⟨h2,h3⟩:=a04 n l r ht
   refine⟨by simp [h2],fun i c hc=>?_⟩
   cases i with
   | zero=>simpa using hc
   | succ i=>exact h3 i c hc
def repA(n:Nat)(c:Cel):List Cel:=Nat.rec (motive:=fun _=>List Cel) [] (fun _ ih=>c::ih) n
theorem ali:∀ (n:Nat) (c:Cel),(repA n c).length=n∧∀ (i:Nat) (x:Cel),(repA n c)[i]? = some x→x=c∧i<n
 | 0,c=>⟨rfl,fun i x h=>by
  have h':([]:List Cel)[i]? = some x:=h
  simp at h'⟩
 | n+1,c=>by
  obtain⟨h1,h2⟩:=ali n c
  refine⟨by show(c::repA n c).length=n+1;simp [h1],fun i x h=>?_⟩
  have h':(c::repA n c)[i]? = some x:=h
  cases i with
  | zero=>simp at h';exact⟨h'.symm,by omega⟩
  | succ i=>simp only [List.getElem?_cons_succ] at h';obtain⟨g1,g2⟩:=h2 i x h';exact⟨g1,by omega⟩
def catO(a b:Option (List Cel)):Option (List Cel) :=
 match a with
 | some x=>match b with
  | some y=>some (x++y)
  | none=>none
 | none=>none
def Bk.read(k:Bk):Nat→Nat→Option (List Cel) :=
 Bk.rec (motive:=fun _=>Nat→Nat→Option (List Cel)) (fun l off n=>takeC n (aj7 off l))
  (fun m c off n=>Bool.casesOn (motive:=fun _=>Option (List Cel)) (Nat.ble (Nat.add off n) m) none (some (repA n c)))
  (fun m _ _ rl rr off n=>Bool.casesOn (motive:=fun _=>Option (List Cel)) (Nat.ble (Nat.add off n) m)
   (Bool.casesOn (motive:=fun _=>Option (List Cel)) (Nat.ble m off) (catO (rl off (Nat.sub m off)) (rr 0 (Nat.sub (Nat.add off n) m))) (rr (Nat.sub off m) n)) (rl off n)) k
theorem afw{a b:Nat}(h:Nat.ble a b=false):b<a:=by
 rcases Nat.lt_or_ge b a with h1 | h1
 ·exact h1
 ·rw [Nat.ble_eq_true_of_le h1] at h;cases h
theorem Bk.read_spec:∀ (k:Bk) (off n:Nat) (cs:List Cel),k.read off n=some cs→cs.length=n∧∀ (i:Nat) (c:Cel),cs[i]? = some c→k.get (off+i)=some (.c c)
 | .lf l,off,n,cs,h=>by
  have h':takeC n (aj7 off l)=some cs:=h
  rw [ae2] at h'
  obtain⟨h1,h2⟩:=a04 _ _ _ h'
  refine⟨h1,fun i c hc=>?_⟩
  have:=h2 i c hc
  rw [List.getElem?_drop] at this
  rw [Bk.get_lf,this,Option.join_some]
 | .fl m c,off,n,cs,h=>by
  have h':Bool.casesOn (motive:=fun _=>Option (List Cel)) (Nat.ble (off+n) m) none (some (repA n c))=some cs:=h
  cases hb:Nat.ble (off+n) m with
  | false=>rw [hb] at h';cases h'
  | true =>
   rw [hb] at h'
   cases h'
   have:=Nl hb
   obtain⟨h1,h2⟩:=ali n c
   refine⟨h1,fun i x hx=>?_⟩
   obtain⟨rfl,h3⟩:=h2 i x hx
   rw [Bk.get_fl,if_pos (by omega)]
 | .nd m l r,off,n,cs,h=>by
  have h':Bool.casesOn (motive:=fun _=>Option (List Cel)) (Nat.ble (off+n) m)
   (Bool.casesOn (motive:=fun _=>Option (List Cel)) (Nat.ble m off) (catO (l.read off (m - off)) (r.read 0 (off+n - m))) (r.read (off - m) n)) (l.read off n)=some cs:=h
  cases hb:Nat.ble (off+n) m with
  | true =>
   rw [hb] at h'
   have:=Nl hb
   obtain⟨h1,h2⟩:=Bk.read_spec l off n cs h'
   refine⟨h1,fun i c hc=>?_⟩
   have hi:i<cs.length:=(Ls.1 hc).1
   rw [Bk.get_nd,if_pos (by omega)]
   exact h2 i c hc
  | false =>
   rw [hb] at h'
   have hlt:=afw hb
   cases hb2:Nat.ble m off with
   | true =>
    rw [hb2] at h'
    have hle:=Nl hb2
    obtain⟨h1,h2⟩:=Bk.read_spec r (off - m) n cs h'
    refine⟨h1,fun i c hc=>?_⟩
    rw [Bk.get_nd,if_neg (by omega),show off+i - m=off - m+i by omega]
    exact h2 i c hc
   | false =>
    rw [hb2] at h'
    have hlt2:=afw hb2
    have h3:catO (l.read off (m - off)) (r.read 0 (off+n - m))=some cs:=h'
    unfold catO at h3
    split at h3
    ·rename_i x hx
     split at h3
     ·rename_i y hy
      cases h3
      obtain⟨h1,h2⟩:=Bk.read_spec l _ _ x hx
      obtain⟨h4,h5⟩:=Bk.read_spec r _ _ y hy
      refine⟨by rw [List.length_append];omega,fun i c hc=>?_⟩
      rcases Nat.lt_or_ge i x.length with hi | hi
      ·rw [List.getElem?_append_left hi] at hc
       rw [Bk.get_nd,if_pos (by omega)]
       exact h2 i c hc
      ·rw [List.getElem?_append_right hi] at hc
       rw [Bk.get_nd,if_neg (by omega)]
       have:=h5 _ c hc
       rw [← this]
       congr 1
       omega
     ·cases h3
    ·cases h3
def HP.read(H:HP)(b off n:Nat):Option (List Cel) :=
 match H.t.get b with
 | some k=>k.read off n
 | none=>none
theorem HP.read_spec{H:HP}{b off n:Nat}{cs:List Cel}(h:H.read b off n=some cs):cs.length=n∧∀ (i:Nat) (c:Cel),cs[i]? = some c→H.cell b (off+i)=some (.c c):=by
 unfold HP.read at h
 split at h
 ·rename_i k hk
  obtain⟨h1,h2⟩:=Bk.read_spec _ _ _ _ h
  refine⟨h1,fun i c hc=>?_⟩
  unfold HP.cell
  rw [hk]
  exact h2 i c hc
 ·cases h
def putC(cs:List Cel)(l:LB):Option LB :=
 List.rec (motive:=fun _=>LB→Option LB) (fun l=>some l)
  (fun c _ ih l=>List.casesOn (motive:=fun _=>Option LB) l none fun a t=>Option.casesOn (motive:=fun _=>Option LB) a none fun x =>
   Ct.casesOn (motive:=fun _=>Option LB) x (fun _=>Option.casesOn (motive:=fun _=>Option LB) (ih t) none fun r=>some (some (.c c)::r)) (fun _ _=>none) (fun _ _ _ _=>none) (fun _ _ _ _ _=>none) (Option.casesOn (motive:=fun _=>Option LB) (ih t) none fun r=>some (some (.c c)::r)) (fun _ _ _ _=>none) (fun _ _ _ _ _=>none) (fun _ _ _=>none)) cs l
def putAt(off:Nat)(cs:List Cel)(l:LB):Option LB :=
 Nat.rec (motive:=fun _=>LB→Option LB) (fun l=>putC cs l)
  (fun _ ih l=>List.casesOn (motive:=fun _=>Option LB) l none fun a t=>Option.casesOn (motive:=fun _=>Option LB) (ih t) none fun r=>some (a::r)) off l
def Ct.plc:Ct→Prop
 | .c _=>True
 | .room=>True
 | _=>False
theorem awj:∀ (cs:List Cel) (l l':LB),putC cs l=some l'→l'.length=l.length∧cs.length≤l.length ∧
  (∀ i,l'[i]? = if i<cs.length then(cs[i]?).map (fun c=>some (.c c)) else l[i]?)∧∀ i,i<cs.length→∃ c,l[i]? = some (some c)∧c.plc
 | [],l,l',h=>by
  cases h
  exact⟨rfl,Nat.zero_le _,fun i=>by simp,fun i hi=>by simp at hi⟩
 | c::cs,[],l',h=>by cases h
 | c::cs,none::l,l',h=>by cases h
 | c::cs,some (.map _ _)::l,l',h=>by cases h
 | c::cs,some (.iter _ _ _ _)::l,l',h=>by cases h
 | c::cs,some (.loop _ _ _ _ _)::l,l',h=>by cases h
 | c::cs,some (.rows _ _ _ _)::l,l',h=>by cases h
 | c::cs,some (.mx _ _ _ _ _)::l,l',h=>by cases h
 | c::cs,some (.ix _ _ _)::l,l',h=>by cases h
 | c::cs,some .room::l,l',h=>by
  have h':Option.casesOn (motive:=fun _=>Option LB) (putC cs l) none (fun r=>some (some (.c c)::r))=some l':=h
  cases ht:putC cs l with
  | none=>rw [ht] at h';cases h'
  | some r =>
   rw [ht] at h'
   cases h'
   obtain⟨h1,h2,h3,h4⟩:=awj cs l r ht
   refine⟨by simp [h1],by simp [h2],fun i=>?_,fun i hi=>?_⟩
   ·cases i with
    | zero=>simp
    | succ i=>simp only [List.getElem?_cons_succ,List.length_cons,Nat.add_lt_add_iff_right];exact h3 i
   ·cases i with
    | zero=>exact⟨.room,by simp,trivial⟩
    | succ i=>simp only [List.getElem?_cons_succ];exact h4 i (by simpa using hi)
 | c::cs,some (.c x)::l,l',h=>by
  have h':Option.casesOn (motive:=fun _=>Option LB) (putC cs l) none (fun r=>some (some (.c c)::r))=some l':=h
  cases ht:putC cs l with
  | none=>rw [ht] at h';cases h'
  | some r =>
   rw [ht] at h'
   cases h'
   obtain⟨h1,h2,h3,h4⟩:=awj cs l r ht
   refine⟨by simp [h1],by simp [h2],fun i=>?_,fun i hi=>?_⟩
   ·cases i with
    | zero=>simp
    | succ i=>simp only [List.getElem?_cons_succ,List.length_cons,Nat.add_lt_add_iff_right];exact h3 i
   ·cases i with
    | zero=>exact⟨.c x,by simp,trivial⟩
    | succ i=>simp only [List.getElem?_cons_succ];exact h4 i (by simpa using hi)
theorem az3:∀ (off:Nat) (cs:List Cel) (l l':LB),putAt off cs l=some l'→l'.length=l.length∧off+cs.length≤l.length ∧
  (∀ i,l'[i]? = if off≤i∧i<off+cs.length then(cs[i - off]?).map (fun c=>some (.c c)) else l[i]?)∧∀ i,i<cs.length→∃ c,l[off+i]? = some (some c)∧c.plc
 | 0,cs,l,l',h=>by
  obtain⟨h1,h2,h3,h4⟩:=awj cs l l' h
  refine⟨h1,by omega,fun i=>?_,fun i hi=>by rw [Nat.zero_add];exact h4 i hi⟩
  rw [h3 i]
  simp
 | off+1,cs,[],l',h=>by cases h
 | off+1,cs,a::l,l',h=>by
  have h':Option.casesOn (motive:=fun _=>Option LB) (putAt off cs l) none (fun r=>some (a::r))=some l':=h
  cases ht:putAt off cs l with
  | none=>rw [ht] at h';cases h'
  | some r =>
   rw [ht] at h'
   cases h'
   obtain⟨h1,h2,h3,h4⟩:=az3 off cs l r ht
   refine⟨by simp [h1],by simp;omega,fun i=>?_,fun i hi=>?_⟩
   ·cases i with
    | zero=>simp
    | succ i =>
     simp only [List.getElem?_cons_succ]
     rw [h3 i]
     by_cases hc:off≤i∧i<off+cs.length
     ·rw [if_pos hc,if_pos (by omega),show i+1 - (off+1)=i - off by omega]
     ·rw [if_neg hc,if_neg (by omega)]
   ·rw [show off+1+i=(off+i)+1 by omega,List.getElem?_cons_succ]
    exact h4 i hi
def takeN{α:Type}(n:Nat)(l:List α):List α :=
 Nat.rec (motive:=fun _=>List α→List α) (fun _=>[]) (fun _ ih l=>List.casesOn (motive:=fun _=>List α) l [] fun a t=>a::ih t) n l
theorem afu{α:Type}:∀ (n:Nat) (l:List α),takeN n l=l.take n
 | 0,_=>by rw [List.take_zero];rfl
 | _+1,[]=>by rw [List.take_nil];rfl
 | n+1,a::l=>by
  show a::takeN n l=_
  rw [afu n l]
  simp
def ajw(cs:List Cel)(t:LB):LB:=List.rec (motive:=fun _=>LB) t (fun c _ ih=>some (.c c)::ih) cs
theorem apk:∀ (cs:List Cel) (t:LB),ajw cs t=cs.map (fun c=>some (.c c))++t
 | [],_=>rfl
 | c::cs,t=>by
  show some (.c c)::ajw cs t=_
  rw [apk cs t]
  rfl
def abv(m:Nat):Nat:=Nat.pow 2 (Nat.log2 (Nat.pred m))
def bex(fuel:Nat):Nat→List Cel→Bk :=
 Nat.rec (motive:=fun _=>Nat→List Cel→Bk) (fun _ cs=>.lf (ajw cs []))
  (fun _ ih n cs=>Bool.casesOn (motive:=fun _=>Bk) (Nat.ble n 32) (.nd (abv n) (ih (abv n) (takeN (abv n) cs)) (ih (Nat.sub n (abv n)) (aj7 (abv n) cs))) (.lf (ajw cs []))) fuel
theorem avx(cs:List Cel)(i:Nat):Bk.get (.lf (ajw cs [])) i=(cs[i]?).map .c:=by
 rw [Bk.get_lf,apk,List.append_nil,List.getElem?_map]
 cases cs[i]?<;>rfl
theorem ax1:∀ (fuel n:Nat) (cs:List Cel),cs.length=n→∀ i,(bex fuel n cs).get i=(cs[i]?).map .c
 | 0,_,cs,_,i=>avx cs i
 | fuel+1,n,cs,hn,i=>by
  show Bk.get (Bool.casesOn (motive:=fun _=>Bk) (Nat.ble n 32) (.nd (abv n) (bex fuel (abv n) (takeN (abv n) cs)) (bex fuel (n - abv n) (aj7 (abv n) cs))) (.lf (ajw cs []))) i=_
  cases hb:Nat.ble n 32 with
  | true=>exact avx cs i
  | false =>
   have hlt:=afw hb
   have hh:abv n≤n:=by
    have h1:Nat.pred n≠0:=by simp only [Nat.pred_eq_sub_one];omega
    have:=Nat.log2_self_le h1
    have h2:Nat.pow 2 (Nat.log2 (Nat.pred n))≤Nat.pred n:=this
    unfold abv
    simp only [Nat.pred_eq_sub_one] at h2 ⊢
    omega
   show Bk.get (.nd (abv n) (bex fuel (abv n) (takeN (abv n) cs)) (bex fuel (n - abv n) (aj7 (abv n) cs))) i=_
   rw [Bk.get_nd,afu,ae2]
   split
   ·rename_i hi
    rw [ax1 fuel _ _ (by rw [List.length_take];omega),List.getElem?_take_of_lt hi]
   ·rename_i hi
    rw [ax1 fuel _ _ (by rw [List.length_drop];omega),List.getElem?_drop,show abv n+(i - abv n)=i by omega]
def avs(fuel:Nat)(c:Cel):Nat→Nat→List Cel→Nat→Bk :=
 Nat.rec (motive:=fun _=>Nat→Nat→List Cel→Nat→Bk) (fun m off cs n=>.lf (ajw (repA off c) (ajw cs (ajw (repA (Nat.sub m (Nat.add off n)) c) []))))
  (fun _ ih m off cs n=>Bool.casesOn (motive:=fun _=>Bk) (Nat.ble m 32)
   (Bool.casesOn (motive:=fun _=>Bk) (Nat.ble (Nat.add off n) (abv m))
    (Bool.casesOn (motive:=fun _=>Bk) (Nat.ble (abv m) off)
     (.nd (abv m) (ih (abv m) off (takeN (Nat.sub (abv m) off) cs) (Nat.sub (abv m) off)) (ih (Nat.sub m (abv m)) 0 (aj7 (Nat.sub (abv m) off) cs) (Nat.sub (Nat.add off n) (abv m))))
     (.nd (abv m) (.fl (abv m) c) (ih (Nat.sub m (abv m)) (Nat.sub off (abv m)) cs n)))
    (.nd (abv m) (ih (abv m) off cs n) (.fl (Nat.sub m (abv m)) c)))
   (.lf (ajw (repA off c) (ajw cs (ajw (repA (Nat.sub m (Nat.add off n)) c) []))))) fuel
theorem bmf{m:Nat}(h:32<m):abv m≤m:=by
 have h1:Nat.pred m≠0:=by simp only [Nat.pred_eq_sub_one];omega
 have h2:Nat.pow 2 (Nat.log2 (Nat.pred m))≤Nat.pred m:=Nat.log2_self_le h1
 unfold abv
 simp only [Nat.pred_eq_sub_one] at h2 ⊢
 omega
def az4(c:Cel)(m off:Nat)(cs:List Cel)(i:Nat):Option Ct:=if off≤i∧i<off+cs.length then(cs[i - off]?).map .c else if i<m then some (.c c) else none
theorem bdj(n:Nat)(c:Cel){i:Nat}(h:i<n):(repA n c)[i]? = some c:=by
 obtain⟨h1,h2⟩:=ali n c
 have hg:(repA n c)[i]? = some (repA n c)[i]:=Gl (by omega)
 rw [hg,(h2 i _ hg).1]
theorem a6b(c:Cel)(m off n:Nat)(cs:List Cel)(hn:cs.length=n)(hm:off+n≤m)(i:Nat) :
  Bk.get (.lf (ajw (repA off c) (ajw cs (ajw (repA (m - (off+n)) c) [])))) i=az4 c m off cs i:=by
 have l1:=(ali off c).1
 have l2:=(ali (m - (off+n)) c).1
 rw [Bk.get_lf,apk,apk,apk,List.append_nil]
 unfold az4
 rcases Nat.lt_or_ge i off with h1 | h1
 ·rw [List.getElem?_append_left (by simpa [l1] using h1),List.getElem?_map,bdj off c h1,if_neg (by omega),if_pos (by omega)]
  rfl
 ·rw [List.getElem?_append_right (by simpa [l1] using h1),List.length_map,l1]
  rcases Nat.lt_or_ge i (off+cs.length) with h2 | h2
  ·rw [List.getElem?_append_left (by simp;omega),List.getElem?_map,if_pos ⟨h1,h2⟩]
   cases cs[i - off]?<;>rfl
  ·rw [List.getElem?_append_right (by simp;omega),List.length_map,List.getElem?_map,if_neg (by omega)]
   rcases Nat.lt_or_ge i m with h3 | h3
   ·rw [bdj _ c (by omega),if_pos h3];rfl
   ·rw [List.getElem?_eq_none (by omega),if_neg (by omega)];rfl
theorem akh(c:Cel):∀ (fuel m off:Nat) (cs:List Cel) (n:Nat),cs.length=n→off+n≤m→∀ i,(avs fuel c m off cs n).get i=az4 c m off cs i
 | 0,m,off,cs,n,hn,hm,i=>a6b c m off n cs hn hm i
 | fuel+1,m,off,cs,n,hn,hm,i=>by
  show Bk.get (Bool.casesOn (motive:=fun _=>Bk) (Nat.ble m 32)
   (Bool.casesOn (motive:=fun _=>Bk) (Nat.ble (off+n) (abv m))
    (Bool.casesOn (motive:=fun _=>Bk) (Nat.ble (abv m) off)
     (.nd (abv m) (avs fuel c (abv m) off (takeN (abv m - off) cs) (abv m - off)) (avs fuel c (m - abv m) 0 (aj7 (abv m - off) cs) (off+n - abv m)))
     (.nd (abv m) (.fl (abv m) c) (avs fuel c (m - abv m) (off - abv m) cs n)))
    (.nd (abv m) (avs fuel c (abv m) off cs n) (.fl (m - abv m) c)))
   (.lf (ajw (repA off c) (ajw cs (ajw (repA (m - (off+n)) c) []))))) i=_
  cases hb:Nat.ble m 32 with
  | true=>exact a6b c m off n cs hn hm i
  | false =>
   have hle:=bmf (afw hb)
   generalize abv m=hf at hle ⊢
   cases hb1:Nat.ble (off+n) hf with
   | true =>
    have h1:=Nl hb1
    show Bk.get (.nd hf (avs fuel c hf off cs n) (.fl (m - hf) c)) i=_
    rw [Bk.get_nd,akh c fuel hf off cs n hn h1,Bk.get_fl]
    unfold az4
    by_cases hi:i<hf
    ·rw [if_pos hi]
     by_cases hc:off≤i∧i<off+cs.length
     ·rw [if_pos hc,if_pos hc]
     ·rw [if_neg hc,if_neg hc,if_pos hi,if_pos (by omega)]
    ·rw [if_neg hi,if_neg (show ¬ (off≤i∧i<off+cs.length) by omega)]
     by_cases hi2:i<m
     ·rw [if_pos hi2,if_pos (by omega)]
     ·rw [if_neg hi2,if_neg (by omega)]
   | false =>
    have h1:=afw hb1
    cases hb2:Nat.ble hf off with
    | true =>
     have h2:=Nl hb2
     show Bk.get (.nd hf (.fl hf c) (avs fuel c (m - hf) (off - hf) cs n)) i=_
     rw [Bk.get_nd,akh c fuel (m - hf) (off - hf) cs n hn (by omega),Bk.get_fl]
     unfold az4
     split
     ·rw [if_neg (by omega),if_pos (by omega)]
     ·by_cases hc:off≤i∧i<off+cs.length
      ·rw [if_pos hc,if_pos (by omega),show i - hf - (off - hf)=i - off by omega]
      ·rw [if_neg hc,if_neg (by omega)]
       by_cases hi:i<m
       ·rw [if_pos hi,if_pos (by omega)]
       ·rw [if_neg hi,if_neg (by omega)]
    | false =>
     have h2:=afw hb2
     show Bk.get (.nd hf (avs fuel c hf off (takeN (hf - off) cs) (hf - off)) (avs fuel c (m - hf) 0 (aj7 (hf - off) cs) (off+n - hf))) i=_
     rw [Bk.get_nd,afu,ae2,akh c fuel hf off _ _ (by rw [List.length_take];omega) (by omega),akh c fuel (m - hf) 0 _ _ (by rw [List.length_drop];omega) (by omega)]
     unfold az4
     simp only [List.length_take,List.length_drop]
     split
     ·by_cases hc:off≤i∧i<off+cs.length
      ·rw [if_pos hc,if_pos (by omega),List.getElem?_take_of_lt (by omega)]
      ·rw [if_neg hc,if_neg (by omega),if_pos (by omega)]
     ·by_cases hc:off≤i∧i<off+cs.length
      ·rw [if_pos hc,if_pos (by omega),List.getElem?_drop,show hf - off+(i - hf - 0)=i - off by omega]
      ·rw [if_neg hc,if_neg (by omega)]
       by_cases hi:i<m
       ·rw [if_pos hi,if_pos (by omega)]
       ·rw [if_neg hi,if_neg (by omega)]
def ndO(m:Nat)(a b:Option Bk):Option Bk :=
 match a with
 | some x=>match b with
  | some y=>some (.nd m x y)
  | none=>none
 | none=>none
def Bk.write(k:Bk):Nat→List Cel→Nat→Option Bk :=
 Bk.rec (motive:=fun _=>Nat→List Cel→Nat→Option Bk)
  (fun l off cs _=>match putAt off cs l with
   | some l'=>some (.lf l')
   | none=>none)
  (fun m c off cs n=>Bool.casesOn (motive:=fun _=>Option Bk) (Nat.ble (Nat.add off n) m) none (some (avs 64 c m off cs n)))
  (fun m l r wl wr off cs n=>Bool.casesOn (motive:=fun _=>Option Bk) (Nat.ble (Nat.add off n) m)
   (Bool.casesOn (motive:=fun _=>Option Bk) (Nat.ble m off)
    (ndO m (wl off (takeN (Nat.sub m off) cs) (Nat.sub m off)) (wr 0 (aj7 (Nat.sub m off) cs) (Nat.sub (Nat.add off n) m)))
    (ndO m (some l) (wr (Nat.sub off m) cs n)))
   (ndO m (wl off cs n) (some r))) k
theorem a2b{m:Nat}{a b:Option Bk}{k:Bk}(h:ndO m a b=some k):∃ x y,a=some x∧b=some y∧k=.nd m x y:=by
 unfold ndO at h
 split at h
 ·split at h
  ·cases h;exact⟨_,_,rfl,rfl,rfl⟩
  ·cases h
 ·cases h
theorem Bk.write_spec:∀ (k:Bk) (off:Nat) (cs:List Cel) (n:Nat) (k':Bk),cs.length=n→k.write off cs n=some k' →
  (∀ i,k'.get i=if off≤i∧i<off+cs.length then(cs[i - off]?).map .c else k.get i)∧∀ i,i<cs.length→∃ c,k.get (off+i)=some c∧c.plc
 | .lf l,off,cs,n,k',hn,h=>by
  have h':(match putAt off cs l with | some l'=>some (Bk.lf l') | none=>none)=some k':=h
  split at h'
  ·rename_i l' hl
   cases h'
   obtain⟨h1,h2,h3,h4⟩:=az3 off cs l l' hl
   refine⟨fun i=>?_,fun i hi=>?_⟩
   ·rw [Bk.get_lf,Bk.get_lf,h3 i]
    split
    ·cases cs[i - off]?<;>rfl
    ·rfl
   ·obtain⟨c,hc,hp⟩:=h4 i hi
    exact⟨c,by rw [Bk.get_lf,hc];rfl,hp⟩
  ·cases h'
 | .fl m c,off,cs,n,k',hn,h=>by
  have h':Bool.casesOn (motive:=fun _=>Option Bk) (Nat.ble (off+n) m) none (some (avs 64 c m off cs n))=some k':=h
  cases hb:Nat.ble (off+n) m with
  | false=>rw [hb] at h';cases h'
  | true =>
   rw [hb] at h'
   cases h'
   have hm:=Nl hb
   refine⟨fun i=>?_,fun i hi=>⟨.c c,by rw [Bk.get_fl,if_pos (by omega)],trivial⟩⟩
   rw [akh c 64 m off cs n hn hm i,Bk.get_fl]
   rfl
 | .nd m l r,off,cs,n,k',hn,h=>by
  have h':Bool.casesOn (motive:=fun _=>Option Bk) (Nat.ble (off+n) m)
   (Bool.casesOn (motive:=fun _=>Option Bk) (Nat.ble m off)
    (ndO m (l.write off (takeN (m - off) cs) (m - off)) (r.write 0 (aj7 (m - off) cs) (off+n - m)))
    (ndO m (some l) (r.write (off - m) cs n)))
   (ndO m (l.write off cs n) (some r))=some k':=h
  cases hb:Nat.ble (off+n) m with
  | true =>
   rw [hb] at h'
   have hm:=Nl hb
   obtain⟨x,y,hx,hy,rfl⟩:=a2b h'
   cases hy
   obtain⟨h1,h2⟩:=Bk.write_spec l off cs n x hn hx
   refine⟨fun i=>?_,fun i hi=>?_⟩
   ·rw [Bk.get_nd,Bk.get_nd,h1 i]
    by_cases hc:off≤i∧i<off+cs.length
    ·rw [if_pos (show i<m by omega),if_pos hc,if_pos hc]
    ·rw [if_neg hc,if_neg hc]
   ·obtain⟨c,hc,hp⟩:=h2 i hi
    exact⟨c,by rw [Bk.get_nd,if_pos (by omega)];exact hc,hp⟩
  | false =>
   rw [hb] at h'
   have hlt:=afw hb
   cases hb2:Nat.ble m off with
   | true =>
    rw [hb2] at h'
    have hle:=Nl hb2
    obtain⟨x,y,hx,hy,rfl⟩:=a2b h'
    cases hx
    obtain⟨h1,h2⟩:=Bk.write_spec r (off - m) cs n y hn hy
    refine⟨fun i=>?_,fun i hi=>?_⟩
    ·rw [Bk.get_nd,Bk.get_nd,h1 (i - m)]
     by_cases hc:off≤i∧i<off+cs.length
     ·rw [if_neg (show ¬ i<m by omega),if_pos hc,if_pos (by omega),show i - m - (off - m)=i - off by omega]
     ·rw [if_neg hc]
      split
      ·rfl
      ·rw [if_neg (by omega)]
    ·obtain⟨c,hc,hp⟩:=h2 i hi
     exact⟨c,by rw [Bk.get_nd,if_neg (by omega),show off+i - m=off - m+i by omega];exact hc,hp⟩
   | false =>
    rw [hb2] at h'
    have hlt2:=afw hb2
    obtain⟨x,y,hx,hy,rfl⟩:=a2b h'
    rw [afu] at hx
    rw [ae2] at hy
    have e1:(cs.take (m - off)).length=m - off:=by rw [List.length_take];omega
    have e2:(cs.drop (m - off)).length=off+n - m:=by rw [List.length_drop];omega
    obtain⟨h1,h2⟩:=Bk.write_spec l off _ _ x e1 hx
    obtain⟨h3,h4⟩:=Bk.write_spec r 0 _ _ y e2 hy
    refine⟨fun i=>?_,fun i hi=>?_⟩
    ·rw [Bk.get_nd,Bk.get_nd,h1 i,h3 (i - m),e1,e2]
     by_cases him:i<m
     ·rw [if_pos him,if_pos him]
      by_cases hc:off≤i∧i<off+cs.length
      ·rw [if_pos hc,if_pos (by omega),List.getElem?_take_of_lt (by omega)]
      ·rw [if_neg hc,if_neg (by omega)]
     ·rw [if_neg him,if_neg him]
      by_cases hc:off≤i∧i<off+cs.length
      ·rw [if_pos hc,if_pos (by omega),List.getElem?_drop,show m - off+(i - m - 0)=i - off by omega]
      ·rw [if_neg hc,if_neg (by omega)]
    ·rcases Nat.lt_or_ge (off+i) m with hi2 | hi2
     ·obtain⟨c,hc,hp⟩:=h2 i (by omega)
      exact⟨c,by rw [Bk.get_nd,if_pos hi2];exact hc,hp⟩
     ·obtain⟨c,hc,hp⟩:=h4 (off+i - m) (by omega)
      rw [Nat.zero_add] at hc
      exact⟨c,by rw [Bk.get_nd,if_neg (by omega)];exact hc,hp⟩
def lenC(cs:List Cel):Nat:=List.rec (motive:=fun _=>Nat) 0 (fun _ _ ih=>Nat.succ ih) cs
theorem a1y:∀ (cs:List Cel),lenC cs=cs.length
 | []=>rfl
 | _::cs=>by
  show Nat.succ (lenC cs)=_
  rw [a1y cs]
  rfl
def Bk.puts(k:Bk)(off:Nat)(cs:List Cel):Option Bk :=
 match k with
 | .lf l=>match putAt off cs l with
  | some l'=>some (.lf l')
  | none=>none
 | k=>k.write off cs (lenC cs)
theorem Bk.puts_spec{k k':Bk}{off:Nat}{cs:List Cel}(h:k.puts off cs=some k') :
  (∀ i,k'.get i=if off≤i∧i<off+cs.length then(cs[i - off]?).map .c else k.get i)∧∀ i,i<cs.length→∃ c,k.get (off+i)=some c∧c.plc:=by
 have hw:k.write off cs (lenC cs)=some k':=by
  cases k with
  | lf l=>exact h
  | fl n c=>exact h
  | nd n l r=>exact h
 exact Bk.write_spec k off cs _ k' (a1y cs).symm hw
def minN(a b:Nat):Nat:=Bool.casesOn (motive:=fun _=>Nat) (Nat.ble a b) b a
theorem akq(a b:Nat):minN a b≤a∧minN a b≤b:=by
 unfold minN
 cases h:Nat.ble a b with
 | true=>exact⟨Rl _,Nl h⟩
 | false =>
  have:¬ a≤b:=fun hh=>by rw [Nat.ble_eq_true_of_le hh] at h;cases h
  exact⟨by show b≤a;omega,Rl _⟩
def HP.write(H:HP)(b off:Nat)(cs:List Cel):Option HP :=
 match H.t.get b with
 | some k=>match k.puts off cs with
  | some k'=>some ⟨H.t.put b (some k'),H.n,minN H.lo b,H.hy,H.nv⟩
  | none=>none
 | none=>none
def HP.push(H:HP)(k:Bk):HP:=⟨H.t.put H.n (some k),Nat.succ H.n,H.lo,H.hy,H.nv⟩
def HP.drop(H:HP)(b:Nat):HP:=⟨H.t.put b none,H.n,minN H.lo b,H.hy,H.nv⟩
def HP.obj(H:HP)(b:Nat)(x:Ct):HP:=⟨H.t.put b (some (.lf [some x])),H.n,minN H.lo b,H.hy,H.nv⟩
theorem HP.write_hy{H H':HP}{b off:Nat}{cs:List Cel}(h:H.write b off cs=some H'):H'.hy=H.hy:=by
 unfold HP.write at h
 split at h
 ·split at h
  ·cases h;rfl
  ·cases h
 ·cases h
theorem HP.write_nv{H H':HP}{b off:Nat}{cs:List Cel}(h:H.write b off cs=some H'):H'.nv=H.nv:=by
 unfold HP.write at h
 split at h
 ·split at h
  ·cases h;rfl
  ·cases h
 ·cases h
theorem HP.write_spec{H H':HP}{b off:Nat}{cs:List Cel}(h:H.write b off cs=some H'):H'.n=H.n ∧
  (∀ b' i,H'.cell b' i=if b'=b∧off≤i∧i<off+cs.length then(cs[i - off]?).map .c else H.cell b' i)∧∀ i,i<cs.length→∃ c,H.cell b (off+i)=some c∧c.plc:=by
 unfold HP.write at h
 split at h
 ·rename_i k hk
  split at h
  ·rename_i k' hk'
   cases h
   obtain⟨h3,h4⟩:=Bk.puts_spec hk'
   refine⟨rfl,fun b' i=>?_,fun i hi=>?_⟩
   ·unfold HP.cell
    simp only [PT.get_put]
    by_cases hb:b'=b
    ·subst hb
     simp only [if_true,Option.bind_some,h3 i,true_and,hk]
    ·simp only [hb,if_false,false_and]
   ·obtain⟨c,hc,hp⟩:=h4 i hi
    exact⟨c,by unfold HP.cell;rw [hk];exact hc,hp⟩
  ·cases h
 ·cases h
theorem HP.cell_push(H:HP)(k:Bk)(b i:Nat):(H.push k).cell b i=if b=H.n then Bk.get k i else H.cell b i:=by
 unfold HP.cell HP.push
 simp only [PT.get_put]
 by_cases h:b=H.n
 ·simp [h]
 ·simp [h]
theorem HP.cell_drop(H:HP)(b b' i:Nat):(H.drop b).cell b' i=if b'=b then none else H.cell b' i:=by
 unfold HP.cell HP.drop
 simp only [PT.get_put]
 by_cases h:b'=b
 ·simp [h]
 ·simp [h]
theorem HP.cell_obj(H:HP)(b b' i:Nat)(x:Ct):(H.obj b x).cell b' i=if b'=b then(if i=0 then some x else none) else H.cell b' i:=by
 unfold HP.cell HP.obj
 simp only [PT.get_put]
 by_cases h:b'=b
 ·subst h
  simp only [if_true,Option.bind_some,Bk.get_lf]
  cases i with
  | zero=>rfl
  | succ i=>simp
 ·simp [h]
def Unt(H H':HP):Prop:=H'.lo≤H.lo∧∀ b,b<H'.lo→b<H.n→H'.t.get b=H.t.get b
theorem Unt.refl(H:HP):Unt H H:=⟨Rl _,fun _ _ _=>rfl⟩
theorem Unt.trans{H H1 H2:HP}(hn:H.n≤H1.n)(h:Unt H H1)(h':Unt H1 H2):Unt H H2 :=
 ⟨Nat.le_trans h'.1 h.1,fun b h1 h2=>(h'.2 b h1 (Nat.lt_of_lt_of_le h2 hn)).trans (h.2 b (Nat.lt_of_lt_of_le h1 h'.1) h2)⟩
theorem Unt.write{H H':HP}{b off:Nat}{cs:List Cel}(h:H.write b off cs=some H'):Unt H H':=by
 unfold HP.write at h
 split at h
 ·split at h
  ·cases h
   refine⟨(akq _ _).1,fun b' h1 _=>?_⟩
   have:=(akq H.lo b).2
   simp only [PT.get_put]
   rw [if_neg (by simp only at h1;omega)]
  ·cases h
 ·cases h
theorem Unt.push(H:HP)(k:Bk):Unt H (H.push k):=⟨Rl _,fun b _ h2=>by unfold HP.push;simp only [PT.get_put];rw [if_neg (by omega)]⟩
theorem Unt.drop(H:HP)(b:Nat):Unt H (H.drop b):=⟨(akq _ _).1,fun b' h1 _=>by
 have:=(akq H.lo b).2
 unfold HP.drop at h1 ⊢
 simp only [PT.get_put] at h1 ⊢
 rw [if_neg (by omega)]⟩
theorem Unt.obj(H:HP)(b:Nat)(x:Ct):Unt H (H.obj b x):=⟨(akq _ _).1,fun b' h1 _=>by
 have:=(akq H.lo b).2
 unfold HP.obj at h1 ⊢
 simp only [PT.get_put] at h1 ⊢
 rw [if_neg (by omega)]⟩
def setRow(w:World)(B:Nat):Nat→List Value→World
 | _,[]=>w
 | o,u::us=>setRow (w.setCell ⟨B,o,none⟩ u) B (o+1) us
theorem alk(w:World)(B o k:Nat)(u:Value):(w.setCell ⟨B,o,none⟩ u).heap[k]? = if B=k then(w.heap[k]?).map (fun x=>match x with | .cells c t fr=>.cells (c.setIfInBounds o u) t fr | x=>x) else w.heap[k]?:=by
 simp only [World.setCell,Array.getElem?_modify]
 split
 ·cases w.heap[k]? with
  | none=>rfl
  | some x=>cases x<;>rfl
 ·rfl
theorem ahc:∀ (us:List Value) (w:World) (B o:Nat),(setRow w B o us).os=w.os∧(setRow w B o us).tape=w.tape∧(setRow w B o us).output=w.output∧(setRow w B o us).heap.size=w.heap.size
 | [],_,_,_=>⟨rfl,rfl,rfl,rfl⟩
 | _::us,w,B,o=>by
  obtain⟨h1,h2,h3,h4⟩:=ahc us (w.setCell ⟨B,o,none⟩ _) B (o+1)
  exact⟨h1,h2,h3,h4.trans (by simp)⟩
theorem setRow_other:∀ (us:List Value) (w:World) (B o k:Nat),k≠B→(setRow w B o us).heap[k]? = w.heap[k]?
 | [],_,_,_,_,_=>rfl
 | _::us,w,B,o,k,h=>by
  simp only [setRow]
  rw [setRow_other us _ B (o+1) k h,alk,if_neg (Ne.symm h)]
theorem ahd:∀ (us:List Value) (w:World) (B o:Nat) {arr:Array Value} {t:TypeId} {fr:Nat×Nat},w.heap[B]? = some (.cells arr t fr) →
  ∃ arr':Array Value,(setRow w B o us).heap[B]? = some (.cells arr' t fr)∧arr'.size=arr.size∧(∀ j,¬ (o≤j∧j<o+us.length)→arr'[j]? = arr[j]?)∧∀ i u,us[i]? = some u→o+i<arr.size→arr'[o+i]? = some u
 | [],w,B,o,arr,t,fr,h=>⟨arr,h,rfl,fun _ _=>rfl,fun i u hu=>by simp at hu⟩
 | x::us,w,B,o,arr,t,fr,h=>by
  have h1:(w.setCell ⟨B,o,none⟩ x).heap[B]? = some (.cells (arr.setIfInBounds o x) t fr):=by rw [alk,if_pos rfl,h];rfl
  obtain⟨arr',h2,h3,h4,h5⟩:=ahd us _ B (o+1) h1
  refine⟨arr',h2,by simpa using h3,fun j hj=>?_,fun i u hu hlt=>?_⟩
  ·rw [h4 j (by intro hh;exact hj ⟨by omega,by simp;omega⟩),Array.getElem?_setIfInBounds_ne (by intro hh;subst hh;exact hj ⟨Rl _,by simp⟩)]
  ·cases i with
   | zero =>
    simp only [List.getElem?_cons_zero,Oi] at hu
    subst hu
    rw [Nat.add_zero,h4 o (by omega)]
    simp at hlt
    simp [hlt]
   | succ i =>
    simp only [List.getElem?_cons_succ] at hu
    have:=h5 i u hu (by simp;omega)
    rw [show o+1+i=o+(i+1) by omega] at this
    exact this
theorem abl(B o n:Nat):Addr.add ⟨B,o,none⟩ n=⟨B,o+n,none⟩:=Addr.add_lit B o n
theorem cell?_of{w:World}{B j:Nat}{arr:Array Value}{t:TypeId}{fr:Nat×Nat}(h:w.heap[B]? = some (.cells arr t fr)):w.cell? ⟨B,j,none⟩=arr[j]?:=by
 unfold World.cell?
 simp [h]
theorem frozen?_of{w:World}{B j:Nat}{arr:Array Value}{t:TypeId}{fr:Nat×Nat}(h:w.heap[B]? = some (.cells arr t fr))(hf:UF fr arr.size)(hj:j<arr.size):w.frozen? ⟨B,j,none⟩=false:=by
 obtain⟨lo,hi⟩:=fr
 unfold World.frozen?
 simp only [h]
 unfold UF at hf
 simp only at hf
 rw [Bool.eq_false_iff]
 intro hh
 simp only [Ba,Dt] at hh
 omega
theorem aft{P:Program}(B:Nat):∀ (us:List Value) (w:World) (o i:Nat) {arr:Array Value} {t:TypeId} {fr:Nat×Nat},w.heap[B]? = some (.cells arr t fr)→UF fr arr.size→o+i+us.length≤arr.size→(∀ u∈us,u.oneCell'=true) →
  (storeCells ⟨B,o,none⟩ us i).run P w=.ok () (setRow w B (o+i) us)
 | [],w,o,i,_,_,_,_,_,_,_=>rfl
 | u::us,w,o,i,arr,t,fr,h,hf,hle,h1=>by
  simp only [List.length_cons] at hle
  have hc:w.cell? ⟨B,o+i,none⟩=some arr[o+i]:=by rw [cell?_of h];exact Array.getElem?_eq_getElem (by omega)
  have hrun:(store ⟨B,o+i,none⟩ u).run P w=.ok () (w.setCell ⟨B,o+i,none⟩ u):=by
   have:=run_store P w ⟨B,o+i,none⟩ u .plain (h1 u (by simp))
   rw [this]
   simp [hc,frozen?_of h hf (show o+i<arr.size by omega)]
  simp only [storeCells,Sem.run_bind,abl,hrun,Result.andThen_ok]
  have h2:(w.setCell ⟨B,o+i,none⟩ u).heap[B]? = some (.cells (arr.setIfInBounds (o+i) u) t fr):=by rw [alk,if_pos rfl,h];rfl
  have ih:=aft (P:=P) B us _ o (i+1) h2 (by simpa using hf) (by simp;omega) (fun x hx=>h1 x (Mc _ hx))
  rw [ih]
  rfl
theorem HP.read_world{ρ:PM}{H:HP}{w:World}{b off n:Nat}{cs:List Cel}{L:Loc}(h:H.read b off n=some cs)(hH:HRel ρ H w)(hL:ρ b=some L) :
  ∃ us:List Value,us.length=n∧All2 (CRel ρ) cs us∧∀ (i:Nat) (u:Value),us[i]? = some u→w.cell? ⟨L.B,L.o+off+i,none⟩=some u:=by
 obtain⟨h1,h2⟩:=HP.read_spec h
 have hc:∀ i,i<n→∃ c u,cs[i]? = some c∧w.cell? ⟨L.B,L.o+off+i,none⟩=some u∧CRel ρ c u:=by
  intro i hi
  have hg:cs[i]? = some cs[i]:=Gl (by omega)
  obtain⟨arr,t,fr,u,e1,e2,e3,e4,e5⟩:=hH.rel b (off+i) (.c cs[i]) L (h2 i _ hg) hL
  exact⟨_,u,hg,by rw [cell?_of e1,Nat.add_assoc];exact e4,e5⟩
 refine⟨(List.range n).map fun i=>(w.cell? ⟨L.B,L.o+off+i,none⟩).getD undef,by simp,?_,?_⟩
 ·refine All2.of_get (by simp [h1]) fun i c u hci hui=>?_
  have hi:i<n:=by
   rcases Nat.lt_or_ge i n with h' | h'
   ·exact h'
   ·rw [List.getElem?_eq_none (by omega)] at hci;cases hci
  obtain⟨c',u',hc',hu',hcu⟩:=hc i hi
  simp only [List.getElem?_map,List.getElem?_range hi,Option.map_some,Oi] at hui
  rw [hu'] at hui
  simp only [Option.getD_some] at hui
  rw [hci] at hc'
  cases hc'
  exact hui ▸ hcu
 ·intro i u hui
  have hi:i<n:=by
   rcases Nat.lt_or_ge i n with h' | h'
   ·exact h'
   ·rw [List.getElem?_eq_none (by simpa using h')] at hui;cases hui
  obtain⟨c',u',hc',hu',_⟩:=hc i hi
  simp only [List.getElem?_map,List.getElem?_range hi,Option.map_some,Oi] at hui
  rw [hu'] at hui ⊢
  simp only [Option.getD_some] at hui
  rw [hui]
end
noncomputable section
theorem a98{ρ:PM}{w:World}{L:Loc}{i:Nat}{c:Ct}(h:aei ρ w L i c)(hp:c.plc):∃ arr t fr,w.heap[L.B]? = some (.cells arr t fr)∧UF fr arr.size∧arr.size=L.C∧L.o+i<arr.size:=by
 cases c with
 | c x =>
  obtain⟨arr,t,fr,u,h1,h2,h3,h4,_⟩:=h
  exact⟨arr,t,fr,h1,h2,h3,(Ga.1 h4).1⟩
 | room=>exact h
 | rows _ _ _ _=>exact hp.elim
 | map _ _=>exact hp.elim
 | iter _ _ _ _=>exact hp.elim
 | loop _ _ _ _ _=>exact hp.elim
 | mx _ _ _ _ _=>exact hp.elim
 | ix _ _ _=>exact hp.elim
theorem Sim.write{ρ:PM}{H H':HP}{w:World}{b off:Nat}{cs:List Cel}{us:List Value}{L:Loc}(hH:HRel ρ H w)(hd:Dom ρ H.n)(h:H.write b off cs=some H')(hL:ρ b=some L)(hcs:All2 (CRel ρ) cs us) :
  Sim ρ H w ρ H' (setRow w L.B (L.o+off) us):=by
 obtain⟨hn,hcell,hknown⟩:=HP.write_spec h
 obtain⟨m1,m2,m3,m4⟩:=ahc us w L.B (L.o+off)
 have hlen:=hcs.length
 have hcell':∀ b' i,H'.cell b' i=none↔H.cell b' i=none:=by
  intro b' i
  rw [hcell]
  split
  ·rename_i hc
   obtain⟨rfl,h1,h2⟩:=hc
   obtain⟨c,hc,_⟩:=hknown (i - off) (by omega)
   rw [show off+(i - off)=i by omega] at hc
   rw [hc]
   rw [Gl (show i - off<cs.length by omega)]
   simp
  ·exact Iff.rfl
 have hkn:∀ b',H'.Kn b'↔H.Kn b':=by
  intro b'
  constructor
  ·rintro⟨i,c,hc⟩
   cases hh:H.cell b' i with
   | some c'=>exact⟨i,c',hh⟩
   | none=>rw [(hcell' b' i).2 hh] at hc;cases hc
  ·rintro⟨i,c,hc⟩
   cases hh:H'.cell b' i with
   | some c'=>exact⟨i,c',hh⟩
   | none=>rw [(hcell' b' i).1 hh] at hc;cases hc
 by_cases h0:cs.length=0
 ·have hus:us=[]:=List.length_eq_zero_iff.1 (by omega)
  subst hus
  have heq:∀ b' i,H'.cell b' i=H.cell b' i:=fun b' i=>by rw [hcell,if_neg (by omega)]
  refine Sim0.same ?_ hd
  exact {
   le:=PM.le.refl ρ
   grow:=by omega
   dom:=by rw [hn];exact hd
   rel:=⟨fun b' i c K hc hK=>hH.rel b' i c K (by rw [← heq];exact hc) hK,fun a a' K K' h1 h2 h3 h4 h5=>hH.inj a a' K K' ((hkn a).1 h1) ((hkn a').1 h2) h3 h4 h5,by rw [HP.write_hy h];exact hH.hy⟩
   knc:=fun b' i _ hc=>(hcell' b' i).2 hc
   fr:=fun _ _ _=>rfl
   new:=fun b' K h1 h2=>by rw [h1] at h2;cases h2
   size:=Rl _
   os:=rfl
   tape:=rfl
   output:=rfl
   old:=fun b' K h1 h2=>by rw [h1] at h2;cases h2 }
 ·obtain⟨c0,hc0,hp0⟩:=hknown 0 (by omega)
  obtain⟨arr,t,fr,e1,e2,e3,e4⟩:=a98 (hH.rel b off c0 L (by simpa using hc0) hL) hp0
  have hbk:H.Kn b:=⟨_,_,hc0⟩
  obtain⟨arr',f1,f2,f3,f4⟩:=ahd us w L.B (L.o+off) e1
  have hin:∀ i,i<cs.length→L.o+off+i<arr.size:=by
   intro i hi
   obtain⟨c,hc,hp⟩:=hknown i hi
   obtain⟨arr2,t2,fr2,g1,g2,g3,g4⟩:=a98 (hH.rel b (off+i) c L hc hL) hp
   rw [e1] at g1
   cases g1
   omega
  have hrel:∀ b' i c K,H'.cell b' i=some c→ρ b'=some K→aei ρ (setRow w L.B (L.o+off) us) K i c:=by
   intro b' i c K hc hK
   by_cases hB:K.B=L.B
   ·have hbb:b'=b:=hH.inj b' b K L ((hkn b').1 ⟨i,c,hc⟩) hbk hK hL hB
    subst hbb
    rw [hL] at hK
    cases hK
    rw [hcell] at hc
    split at hc
    ·rename_i hr
     obtain⟨_,h1,h2⟩:=hr
     rw [Gl (show i - off<cs.length by omega)] at hc
     simp only [Option.map_some,Oi] at hc
     subst hc
     obtain⟨u,hu,hcu⟩:=hcs.get (i - off) _ (Gl (show i - off<cs.length by omega))
     have:=f4 (i - off) u hu (hin _ (by omega))
     exact⟨arr',t,fr,u,f1,by rw [f2];exact e2,by omega,by rw [← this];congr 1;omega,hcu⟩
    ·rename_i hr
     have hold:=hH.rel _ i c L hc hL
     cases c with
     | c x =>
      obtain⟨arr2,t2,fr2,u2,g1,g2,g3,g4,g5⟩:=hold
      rw [e1] at g1
      cases g1
      exact⟨arr',t,fr,u2,f1,by rw [f2];exact e2,by omega,by rw [f3 (L.o+i) (by omega)];exact g4,g5⟩
     | map es clock =>
      obtain⟨_,_,a2,g1,_⟩:=hold
      rw [e1] at g1;cases g1
     | iter m s se st =>
      obtain⟨_,_,a2,g1,_⟩:=hold
      rw [e1] at g1;cases g1
     | loop a1 a2 a3 a4 a5 =>
      obtain⟨_,_,a2,g1,_⟩:=hold
      rw [e1] at g1;cases g1
     | mx a1 a2 a3 a4 a5 =>
      obtain⟨_,_,a2,_,g1,_⟩:=hold
      rw [e1] at g1;cases g1
     | ix a1 a2 a3 =>
      obtain⟨_,_,_,_,_,_,g1,_⟩:=hold
      rw [e1] at g1;cases g1
     | room =>
      obtain⟨arr2,t2,fr2,g1,g2,g3,g4⟩:=hold
      rw [e1] at g1
      cases g1
      exact⟨arr',t,fr,f1,by rw [f2];exact e2,by omega,by omega⟩
     | rows ss G e n =>
      obtain⟨_,_,_,arr2,t2,fr2,g1,g2,g3,_⟩:=hold
      rw [e1] at g1
      cases g1
      omega
   ·have hne:¬ b'=b:=fun hh=>by subst hh;rw [hL] at hK;cases hK;exact hB rfl
    rw [hcell,if_neg (fun hh=>hne hh.1)] at hc
    exact(hH.rel b' i c K hc hK).of_heap (setRow_other us w L.B (L.o+off) K.B hB)
  refine Sim0.same ?_ hd
  exact {
   le:=PM.le.refl ρ
   grow:=by omega
   dom:=by rw [hn];exact hd
   rel:=⟨hrel,fun a a' K K' h1 h2 h3 h4 h5=>hH.inj a a' K K' ((hkn a).1 h1) ((hkn a').1 h2) h3 h4 h5,by rw [HP.write_hy h];exact hH.hy⟩
   knc:=fun b' i _ hc=>(hcell' b' i).2 hc
   fr:=fun k hk hno=>setRow_other us w L.B (L.o+off) k fun hh=>hno b L hbk hL hh.symm
   new:=fun b' K h1 h2=>by rw [h1] at h2;cases h2
   size:=by rw [m4];exact Rl _
   os:=m1
   tape:=m2
   output:=m3
   old:=fun b' K h1 h2=>by rw [h1] at h2;cases h2 }
theorem HP.write_run{P:Program}{ρ:PM}{H H':HP}{w:World}{b off:Nat}{cs:List Cel}{us:List Value}{L:Loc}(hH:HRel ρ H w)(h:H.write b off cs=some H')(hL:ρ b=some L)(hcs:All2 (CRel ρ) cs us) :
  (storeCells ⟨L.B,L.o+off,none⟩ us 0).run P w=.ok () (setRow w L.B (L.o+off) us):=by
 obtain⟨hn,hcell,hknown⟩:=HP.write_spec h
 have hlen:=hcs.length
 by_cases h0:cs.length=0
 ·have hus:us=[]:=List.length_eq_zero_iff.1 (by omega)
  subst hus
  rfl
 ·obtain⟨c0,hc0,hp0⟩:=hknown (cs.length - 1) (by omega)
  obtain⟨arr,t,fr,e1,e2,e3,e4⟩:=a98 (hH.rel b _ c0 L hc0 hL) hp0
  refine aft L.B us w (L.o+off) 0 e1 e2 (by omega) fun u hu=>?_
  obtain⟨i,hi⟩:=List.getElem?_of_mem hu
  obtain⟨c,_,hc⟩:=hcs.get' i u hi
  exact hc.oneCell
def upd(ρ:PM)(n:Nat)(L:Loc):PM:=fun b=>if b=n then some L else ρ b
theorem ahp{ρ:PM}{n:Nat}{L:Loc}(h:ρ n=none):PM.le ρ (upd ρ n L):=by
 intro b x hx
 unfold upd
 by_cases hb:b=n
 ·subst hb;rw [h] at hx;cases hx
 ·rw [if_neg hb];exact hx
theorem upd_same(ρ:PM)(n:Nat)(L:Loc):upd ρ n L n=some L:=if_pos rfl
theorem upd_ne{ρ:PM}{n b:Nat}{L:Loc}(h:b≠n):upd ρ n L b=ρ b:=if_neg h
theorem heap_alloc(w:World)(o:Obj)(k:Nat):(w.alloc o).heap[k]? = if k=w.heap.size then some o else w.heap[k]?:=by
 show(w.heap.push o)[k]? = _
 rw [Array.getElem?_push]
theorem ba0{ρ:PM}{n:Nat}{L:Loc}(h:L.M=none):∀ b L',ρ b=none→upd ρ n L b=some L'→L'.M=none:=fun b L' h1 h2=>by
 by_cases hb:b=n
 ·subst hb;rw [upd_same] at h2;cases h2;exact h
 ·rw [upd_ne hb,h1] at h2;cases h2
theorem Sim.alloc{ρ:PM}{H:HP}{w:World}{o:Obj}{k:Bk}{L:Loc}(hH:HRel ρ H w)(hd:Dom ρ H.n)(hB:L.B=w.heap.size)(hM:L.M=none)
  (hk:∀ i c,Bk.get k i=some c→aei (upd ρ H.n L) (w.alloc o) L i c):Sim ρ H w (upd ρ H.n L) (H.push k) (w.alloc o):=by
 have hfr:=hd H.n (Rl _)
 have hle:PM.le ρ (upd ρ H.n L):=ahp hfr
 have holdlt:∀ b c i K,H.cell b i=some c→ρ b=some K→K.B<w.heap.size:=fun b c i K hc hK=>(hH.rel b i c K hc hK).lt
 refine Sim0.up ?_ hd (ba0 hM)
 exact {
  le:=hle
  grow:=Nat.le_succ _
  dom:=fun b hb=>by
   have h1:H.n+1≤b:=hb
   rw [upd_ne (by omega)];exact hd b (by omega)
  rel:=by
   refine⟨fun b i c K hc hK=>?_,fun b b' K K' h1 h2 hK hK' he=>?_,hH.hy⟩
   ·rw [HP.cell_push] at hc
    by_cases hb:b=H.n
    ·subst hb
     rw [if_pos rfl] at hc
     rw [upd_same] at hK
     cases hK
     exact hk i c hc
    ·rw [if_neg hb] at hc
     rw [upd_ne hb] at hK
     have:=hH.rel b i c K hc hK
     exact(this.mono hle).of_heap (by rw [heap_alloc,if_neg (by have:=this.lt;omega)])
   ·obtain⟨i,c,hc⟩:=h1
    obtain⟨i',c',hc'⟩:=h2
    rw [HP.cell_push] at hc hc'
    by_cases hb:b=H.n<;>by_cases hb':b'=H.n
    ·rw [hb,hb']
    ·subst hb
     rw [upd_same] at hK;cases hK
     rw [if_neg hb'] at hc'
     rw [upd_ne hb'] at hK'
     have:=holdlt _ _ _ _ hc' hK'
     omega
    ·subst hb'
     rw [upd_same] at hK';cases hK'
     rw [if_neg hb] at hc
     rw [upd_ne hb] at hK
     have:=holdlt _ _ _ _ hc hK
     omega
    ·rw [if_neg hb] at hc
     rw [if_neg hb'] at hc'
     rw [upd_ne hb] at hK
     rw [upd_ne hb'] at hK'
     exact hH.inj b b' K K' ⟨i,c,hc⟩ ⟨i',c',hc'⟩ hK hK' he
  knc:=fun b i hb hc=>by rw [HP.cell_push,if_neg (by omega)];exact hc
  fr:=fun k hk _=>by rw [heap_alloc,if_neg (by omega)]
  new:=fun b K h1 h2=>by
   by_cases hb:b=H.n
   ·subst hb;rw [upd_same] at h2;cases h2;exact .inl (by omega)
   ·rw [upd_ne hb,h1] at h2;cases h2
  size:=by simp
  os:=rfl
  tape:=rfl
  output:=rfl
  old:=fun b K h1 h2=>by
   by_cases hb:b=H.n
   ·omega
   ·rw [upd_ne hb,h1] at h2;cases h2 }
def aio(cs:List Cel):Bk :=
 match aj7 48 cs with
 | []=>.lf (ajw cs [])
 | _::_=>bex 64 (lenC cs) cs
theorem bec(cs:List Cel)(i:Nat):Bk.get (aio cs) i=(cs[i]?).map .c:=by
 unfold aio
 split
 ·exact avx cs i
 ·exact ax1 64 _ cs (a1y cs).symm i
theorem alx{cs:List Cel}{i:Nat}{c:Ct}(h:Bk.get (aio cs) i=some c):∃ x,cs[i]? = some x∧c=.c x:=by
 rw [bec] at h
 cases hx:cs[i]? with
 | none=>rw [hx] at h;cases h
 | some x=>rw [hx] at h;cases h;exact⟨x,rfl,rfl⟩
theorem Sim.allocC{ρ:PM}{H:HP}{w:World}{cs:List Cel}{us:Array Value}{t:TypeId}(hH:HRel ρ H w)(hd:Dom ρ H.n)(hcs:All2 (CRel ρ) cs (us.toList.take cs.length)) :
  Sim ρ H w (upd ρ H.n ⟨w.heap.size,0,us.size,none⟩) (H.push (aio cs)) (w.alloc (.cells us t)):=by
 refine Sim.alloc hH hd rfl rfl fun i c hc=>?_
 obtain⟨x,hx,rfl⟩:=alx hc
 obtain⟨u,hu,hcu⟩:=hcs.get i x hx
 have hi:i<cs.length:=(Ls.1 hx).1
 rw [List.getElem?_take_of_lt hi,Array.getElem?_toList] at hu
 exact⟨us,t,(0,0),u,by rw [heap_alloc,if_pos rfl],.inl rfl,rfl,by simpa using hu,hcu.mono (ahp (hd _ (Rl _)))⟩
theorem Sim.allocK{ρ:PM}{H:HP}{w:World}{k:Bk}{cs:List Cel}{us:Array Value}{t:TypeId}(hk:∀ i c,Bk.get k i=some c→∃ x,cs[i]? = some x∧c=.c x)(hH:HRel ρ H w)(hd:Dom ρ H.n)(hcs:All2 (CRel ρ) cs (us.toList.take cs.length)) :
  Sim ρ H w (upd ρ H.n ⟨w.heap.size,0,us.size,none⟩) (H.push k) (w.alloc (.cells us t)):=by
 refine Sim.alloc hH hd rfl rfl fun i c hc=>?_
 obtain⟨x,hx,rfl⟩:=hk i c hc
 obtain⟨u,hu,hcu⟩:=hcs.get i x hx
 have hi:i<cs.length:=(Ls.1 hx).1
 rw [List.getElem?_take_of_lt hi,Array.getElem?_toList] at hu
 exact⟨us,t,(0,0),u,by rw [heap_alloc,if_pos rfl],.inl rfl,rfl,by simpa using hu,hcu.mono (ahp (hd _ (Rl _)))⟩
theorem Sim.into{ρ:PM}{H:HP}{w:World}{b off:Nat}{old new:List Cel}{us vs:List Value}{L:Loc}{o:Nat}(hH:HRel ρ H w)(hd:Dom ρ H.n)(hL:ρ b=some L)(hk:H.Kn b)
  {arr:Array Value} {t:TypeId} {fr:Nat×Nat} (h1:w.heap[L.B]? = some (.cells arr t fr)) (h2:UF fr arr.size) (h3:arr.size=L.C) (hfit:o+old.length+new.length≤L.C)
  (hold:All2 (CRel ρ) old us) (hu:∀ i u,us[i]? = some u→arr[o+i]? = some u) (hnew:All2 (CRel ρ) new vs) :
  Sim ρ H w (upd ρ H.n ⟨L.B,o,L.C,none⟩) ((H.drop b).push (aio (old++new))) (setRow w L.B (o+old.length) vs):=by
 have hfrn:=hd H.n (Rl _)
 have hle:PM.le ρ (upd ρ H.n ⟨L.B,o,L.C,none⟩):=ahp hfrn
 obtain⟨m1,m2,m3,m4⟩:=ahc vs w L.B (o+old.length)
 obtain⟨arr',f1,f2,f3,f4⟩:=ahd vs w L.B (o+old.length) h1
 have hlo:=hold.length
 have hln:=hnew.length
 have hbn:b<H.n:=hd.lt hL
 have hcell:∀ b' i,((H.drop b).push (aio (old++new))).cell b' i=if b'=H.n then Bk.get (aio (old++new)) i else if b'=b then none else H.cell b' i:=by
  intro b' i
  rw [HP.cell_push,HP.cell_drop]
  rfl
 have hother:∀ b' K i c,b'≠b→H.cell b' i=some c→ρ b'=some K→K.B≠L.B:=fun b' K i c hne hc hK hB=>hne (hH.inj b' b K L ⟨i,c,hc⟩ hk hK hL hB)
 refine Sim0.up ?_ hd (ba0 rfl)
 exact {
  le:=hle
  grow:=Nat.le_succ _
  dom:=fun b' hb'=>by
   have h1:H.n+1≤b':=hb'
   rw [upd_ne (by omega)];exact hd b' (by omega)
  rel:=by
   refine⟨fun b' i c K hc hK=>?_,fun b' b2 K K' g1 g2 hK hK' he=>?_,hH.hy⟩
   ·rw [hcell] at hc
    by_cases hb:b'=H.n
    ·subst hb
     rw [if_pos rfl] at hc
     rw [upd_same] at hK
     cases hK
     obtain⟨x,hx,rfl⟩:=alx hc
     rcases Nat.lt_or_ge i old.length with hi | hi
     ·rw [List.getElem?_append_left hi] at hx
      obtain⟨u,g1,g2⟩:=hold.get i x hx
      exact⟨arr',t,fr,u,f1,by rw [f2];exact h2,by simp only;omega,by show arr'[o+i]? = some u;rw [f3 (o+i) (by omega)];exact hu i u g1,g2.mono hle⟩
     ·rw [List.getElem?_append_right hi] at hx
      obtain⟨u,g1,g2⟩:=hnew.get _ x hx
      have hlt:i - old.length<new.length:=(Ls.1 hx).1
      have:=f4 _ u g1 (by omega)
      rw [show o+old.length+(i - old.length)=o+i by omega] at this
      exact⟨arr',t,fr,u,f1,by rw [f2];exact h2,by simp only;omega,this,g2.mono hle⟩
    ·rw [if_neg hb] at hc
     rw [upd_ne hb] at hK
     by_cases hbb:b'=b
     ·rw [if_pos hbb] at hc;cases hc
     ·rw [if_neg hbb] at hc
      exact((hH.rel b' i c K hc hK).mono hle).of_heap (setRow_other vs w L.B _ K.B (hother b' K i c hbb hc hK))
   ·obtain⟨i,c,hc⟩:=g1
    obtain⟨i',c',hc'⟩:=g2
    rw [hcell] at hc hc'
    by_cases hb:b'=H.n<;>by_cases hb2:b2=H.n
    ·rw [hb,hb2]
    ·subst hb
     rw [upd_same] at hK;cases hK
     rw [if_neg hb2] at hc'
     rw [upd_ne hb2] at hK'
     by_cases hbb:b2=b
     ·rw [if_pos hbb] at hc';cases hc'
     ·rw [if_neg hbb] at hc'
      exact absurd he.symm (hother b2 K' i' c' hbb hc' hK')
    ·subst hb2
     rw [upd_same] at hK';cases hK'
     rw [if_neg hb] at hc
     rw [upd_ne hb] at hK
     by_cases hbb:b'=b
     ·rw [if_pos hbb] at hc;cases hc
     ·rw [if_neg hbb] at hc
      exact absurd he (hother b' K i c hbb hc hK)
    ·rw [if_neg hb] at hc
     rw [if_neg hb2] at hc'
     rw [upd_ne hb] at hK
     rw [upd_ne hb2] at hK'
     by_cases hbb:b'=b
     ·rw [if_pos hbb] at hc;cases hc
     ·rw [if_neg hbb] at hc
      by_cases hbb2:b2=b
      ·rw [if_pos hbb2] at hc';cases hc'
      ·rw [if_neg hbb2] at hc'
       exact hH.inj b' b2 K K' ⟨i,c,hc⟩ ⟨i',c',hc'⟩ hK hK' he
  knc:=fun b' i hb hc=>by
   rw [hcell,if_neg (by omega)]
   split
   ·rfl
   ·exact hc
  fr:=fun k hk' hno=>setRow_other vs w L.B _ k fun hh=>hno b L hk hL hh.symm
  new:=fun b' K g1 g2=>by
   by_cases hb:b'=H.n
   ·subst hb;rw [upd_same] at g2;cases g2;exact .inr ⟨b,L,hk,hL,rfl⟩
   ·rw [upd_ne hb,g1] at g2;cases g2
  size:=by rw [m4];exact Rl _
  os:=m1
  tape:=m2
  output:=m3
  old:=fun b' K g1 g2=>by
   by_cases hb:b'=H.n
   ·omega
   ·rw [upd_ne hb,g1] at g2;cases g2 }
theorem Sim.setObj{ρ:PM}{H:HP}{w w':World}{b:Nat}{x:Ct}{L:Loc}(hH:HRel ρ H w)(hd:Dom ρ H.n)(hL:ρ b=some L)(hb:∃ c,H.cell b 0=some c)(hone:∀ i,i≠0→H.cell b i=none)
  (hnc:∀ arr t fr,w.heap[L.B]?≠some (.cells arr t fr)) (hx:aei ρ w' L 0 x) (hw:∀ k,k≠L.B→w'.heap[k]? = w.heap[k]?) (hs:w'.heap.size=w.heap.size) (hos:w'.os=w.os) (ht:w'.tape=w.tape) (ho:w'.output=w.output) :
  Sim ρ H w ρ (H.obj b x) w':=by
 have hk:H.Kn b:=hb.imp' (fun _=>0) fun c hc=>⟨c,hc⟩
 have hkn:∀ b',(H.obj b x).Kn b'→H.Kn b':=by
  rintro b' ⟨i,c,hc⟩
  rw [HP.cell_obj] at hc
  by_cases hbb:b'=b
  ·subst hbb;exact hk
  ·rw [if_neg hbb] at hc;exact⟨i,c,hc⟩
 refine Sim0.same ?_ hd
 exact {
  le:=PM.le.refl ρ
  grow:=Rl _
  dom:=hd
  rel:=by
   refine⟨fun b' i c K hc hK=>?_,fun a a' K K' g1 g2=>hH.inj a a' K K' (hkn a g1) (hkn a' g2),hH.hy⟩
   rw [HP.cell_obj] at hc
   by_cases hbb:b'=b
   ·subst hbb
    rw [if_pos rfl] at hc
    rw [hL] at hK
    cases hK
    split at hc
    ·rename_i hi
     subst hi
     cases hc
     exact hx
    ·cases hc
   ·rw [if_neg hbb] at hc
    refine(hH.rel b' i c K hc hK).of_heap (hw K.B fun hB=>?_)
    exact hbb (hH.inj b' b K L ⟨i,c,hc⟩ hk hK hL hB)
  knc:=fun b' i _ hc=>by
   rw [HP.cell_obj]
   by_cases hbb:b'=b
   ·subst hbb
    rw [if_pos rfl]
    split
    ·rename_i hi
     subst hi
     obtain⟨c,hc'⟩:=hb
     rw [hc] at hc';cases hc'
    ·rfl
   ·rw [if_neg hbb];exact hc
  fr:=fun k _ hno=>hw k fun hh=>hno b L hk hL hh.symm
  new:=fun b' K g1 g2=>by rw [g1] at g2;cases g2
  size:=by rw [hs];exact Rl _
  os:=hos
  tape:=ht
  output:=ho
  old:=fun b' K g1 g2=>by rw [g1] at g2;cases g2 }
end
end Go.Sx
