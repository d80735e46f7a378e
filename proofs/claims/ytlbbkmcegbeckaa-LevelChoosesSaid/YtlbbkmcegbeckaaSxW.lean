/-
  A symbolic executor: what stands in a known map for a text that is known by facts. Conditions: none; nothing here speaks of one program.
-/
import Derived.Test.YtlbbkmcegbeckaaSxU
import Derived.Laws.IdiomStrings
set_option linter.all false
set_option maxRecDepth 100000
noncomputable section
namespace Go.Sx
noncomputable section
def litN(n:Nat):X:=.lit (.int .i64 (n:Int))
def a8i(w:List Srt)(i:X):Nat→List Cel→X→List Nat→Option (X×List Nat)
 | _,[],e,G=>some (e,G)
 | j,c::cs,e,G=>match w[j]? with
  | some s=>match toS s c with
   | some (x,G')=>a8i w i (j+1) cs (.ap (.upd j) [e,i,x]) (ab1 G G')
   | none=>none
  | none=>none
section
variable (P:Program) [Plain P] (E:Operand→Option AV) (H:HP)
def a8z(t:TypeId)(x y:Operand):R :=
 match E x,(E y).bind AV.cels,szA P t with
 | some (.one (.po b s i off)),some cs,some (_,n)=>match af4 H b with
  | some (w,G,e,nb)=>match Nat.beq cs.length n&&(Nat.beq s w.length&&(ltX H.hy i nb&&Nat.ble 1 n)),a8i w i off cs e G with
   | true,some (e',G')=>some (aho,H.obj b (.rows w G' e' nb))
   | _,_=>none
  | none=>none
 | _,_,_=>none
def bw9(w:List Srt):Bool:=afd w [.int .u8]
def bbd(H:HP)(v:AV):Option X :=
 match v with
 | .one (.sv (.sl w) _ e)=>match bw9 w with
  | true=>some e
  | false=>none
 | .one (.os z b n s _ ec)=>match af4 H b with
  | some (w,_,e,nb)=>match bw9 w&&(Nat.beq s 1&&(eqX n nb&&fitE H.hy z n ec e)) with
   | true=>some e
   | false=>none
  | none=>none
 | _=>none
def ap8(H:HP)(w:List Srt)(G:List Nat)(e n:X):AV×HP:=(.one (.os false H.n n w.length G e),H.push (.lf [some (.rows w G e n)]))
def bk7(t u:TypeId)(x:Operand):R :=
 match undT P t,undT P u,E x with
 | some _,some (.int k),some (.one (.sv (.int _) _ e))=>some (.one (svI k (azl H.hy k (.ap (.cast k) [e]))),H)
 | some _,some .string,some (.one (.sv .str G e))=>some (.one (.sv .str G e),H)
 | some (.slice e),some .string,some v=>match undT P e with
  | some (.int .u8)=>(bbd H v).map fun e=>(.one (svS (.ap .str [e])),H)
  | _=>none
 | some .string,some (.slice e),some (.one (.sv .str _ x))=>match undT P e with
  | some (.int .u8)=>some (ap8 H [.int .u8] [] (.ap .byt [x]) (.ap .slen [x]))
  | _=>none
 | _,_,_=>none
def a4q(t:TypeId)(len:Nat)(ps:Array (Nat×Operand)):R :=
 match(awh E ps.toList).bind (ai8 P t len),undT P t with
 | some cs,some (.slice el)=>match srtT P 8 el with
  | some w=>match asu w len cs,Nat.beq cs.length (len*w.length)&&Nat.ble 1 w.length with
   | some (l,G),true=>some (ap8 H w G (ait (nilE false) (.rows l)) (litN len))
   | _,_=>none
  | none=>none
 | _,_=>none
def b0q(w:List Srt):Bool:=match w with
 | [.sl (_::_::_)]=>true
 | _=>false
def srtG(e:TypeId):Option (List Srt):=match srtT P 8 e with
 | some w=>match b0q w with
  | true=>none
  | false=>some w
 | none=>none
def bo5(t:TypeId)(x y:Operand):R :=
 match undT P t,(oneC (E x)).bind iX,(oneC (E y)).bind iX with
 | some (.slice e),some (_,l),some (_,c)=>match szA P e,infoT P e,srtG P e with
  | some (_,sz),some i,some w=>match i.zero with
   | some z=>match(lits z.cells.toList).bind (bkq w) with
    | some (r,G)=>match eqX l c&&(leX H.hy zI l&&(fewX H.hy zI l i.bytes&&(Nat.ble 1 sz&&(Nat.beq i.size sz&&(Nat.beq z.cells.size sz&&Nat.beq w.length sz))))) with
     | true=>some (ap8 H w G (.ap .rep (l::r)) (bf3 l))
     | false=>none
    | none=>none
   | none=>none
  | _,_,_=>none
 | _,_,_=>none
def arrW(t:TypeId):Option (List Srt×Nat) :=
 match undT P t with
 | some (.array n e)=>match srtG P e,Nat.ble 2 n with
  | some w,true=>some (w,n)
  | _,_=>none
 | _=>none
def arrR(H:HP)(w:List Srt)(n:Nat)(cs:List Cel):R :=
 match asu w n cs,Nat.beq cs.length (n*w.length)&&(Nat.ble 1 w.length&&Nat.ble n 9223372036854775807) with
 | some (l,G),true=>some (.one (.po H.n w.length zI 0),H.push (.lf [some (.rows w G (ait (nilE false) (.rows l)) (litN n))]))
 | _,_=>none
def bd4(t:TypeId):R :=
 match arrW P t,infoT P t with
 | some (w,n),some i=>match i.zero with
  | some z=>match lits z.cells.toList with
   | some cs=>arrR H w n cs
   | none=>none
  | none=>none
 | _,_=>none
def yBox(t:TypeId)(x:Operand):R :=
 match arrW P t,(E x).bind AV.cels with
 | some (w,n),some cs=>arrR H w n cs
 | _,_=>none
end
end
section
variable [Sg] {P:Program} [Plain P] {E:Operand→Option AV} {H H':HP} {w:World} {ρ:PM} {ev:Operand→Value} {v:AV}
theorem Sim.reobj{w':World}{b:Nat}{x:Ct}{L:Loc}(hH:HRel ρ H w)(hd:Dom ρ H.n)(hL:ρ b=some L)(hb:∃ c,H.cell b 0=some c)
  (hx:aei ρ w' L 0 x) (hw:∀ k,k≠L.B→w'.heap[k]? = w.heap[k]?) (hs:w'.heap.size=w.heap.size) (hos:w'.os=w.os) (ht:w'.tape=w.tape) (ho:w'.output=w.output) :
  Sim ρ H w ρ (H.obj b x) w':=by
 have hk:H.Kn b:=hb.imp' (fun _=>0) fun c hc=>⟨c,hc⟩
 have hkn:∀ b',(H.obj b x).Kn b'→H.Kn b':=by
  rintro b' ⟨i,c,hc⟩
  rw [HP.cell_obj] at hc
  by_cases hbb:b'=b
  ·subst hbb;exact hk
  ·rw [if_neg hbb] at hc;exact⟨i,c,hc⟩
 refine Sim0.same ?_ hd
 exact {
  le:=PM.le.refl ρ
  grow:=Rl _
  dom:=hd
  rel:=by
   refine⟨fun b' i c K hc hK=>?_,fun a a' K K' g1 g2=>hH.inj a a' K K' (hkn a g1) (hkn a' g2),hH.hy⟩
   rw [HP.cell_obj] at hc
   by_cases hbb:b'=b
   ·subst hbb
    rw [if_pos rfl] at hc
    rw [hL] at hK
    cases hK
    split at hc
    ·rename_i hi
     subst hi
     cases hc
     exact hx
    ·cases hc
   ·rw [if_neg hbb] at hc
    refine(hH.rel b' i c K hc hK).of_heap (hw K.B fun hB=>?_)
    exact hbb (hH.inj b' b K L ⟨i,c,hc⟩ hk hK hL hB)
  knc:=fun b' i _ hc=>by
   rw [HP.cell_obj]
   by_cases hbb:b'=b
   ·subst hbb
    rw [if_pos rfl]
    split
    ·rename_i hi
     subst hi
     obtain⟨c,hc'⟩:=hb
     rw [hc] at hc';cases hc'
    ·rfl
   ·rw [if_neg hbb];exact hc
  fr:=fun k _ hno=>hw k fun hh=>hno b L hk hL hh.symm
  new:=fun b' K g1 g2=>by rw [g1] at g2;cases g2
  size:=by rw [hs];exact Rl _
  os:=hos
  tape:=ht
  output:=ho
  old:=fun b' K g1 g2=>by rw [g1] at g2;cases g2 }
theorem Sim.allocR{ws:List Srt}{G:List Nat}{e n:X}{rows:List (List CD)}{us:List Value}{arr:Array Value}{t:TypeId}{fr:Nat×Nat}(hH:HRel ρ H w)(hd:Dom ρ H.n)(hG:LocG ρ G)(hn:(den n).iv=rows.length)(hr:(den e).rows=rows)(hf:Flat (ρ.at G) ws rows us)
  (hfr:UF fr arr.size) (hle:us.length≤arr.size) (hm:rows.length≤maxN) (hu:∀ (k:Nat) (u:Value),us[k]? = some u→arr[k]? = some u) (ht:uniS ws=true→∀ (j:Nat) (u:Value),us.length≤j→arr[j]? = some u→is8 u=ws.all s8) :
  Sim ρ H w (upd ρ H.n ⟨w.heap.size,0,arr.size+1,none⟩) (H.push (.lf [some (.rows ws G e n)])) (w.alloc (.cells arr t fr)):=by
 have hLM:PM.le ρ (upd ρ H.n ⟨w.heap.size,0,arr.size+1,none⟩):=ahp (hd _ (Rl _))
 refine Sim.alloc hH hd rfl rfl fun j c hc=>?_
 refine bjt (L:=⟨w.heap.size,0,arr.size+1,none⟩) (w:=w.alloc (.cells arr t fr)) (us:=us) (rows:=rows) (arr:=arr) (t:=t) (fr:=fr) (ht:=fun hw j u hj hju=>ht hw j u (hj.elim (fun h=>absurd h (Nat.not_lt_zero _)) fun h=>by rwa [show(⟨w.heap.size,0,arr.size+1,none⟩:Loc).o=0 from rfl,Nat.zero_add] at h) hju) hc ?_ hn (by rw [heap_alloc];exact if_pos rfl) hfr rfl hr (hf.mono (PM.at_mono hLM _)) (by show 0+_≤_;omega) hm fun k u hk=>by rw [Nat.zero_add];exact hu k u hk
 exact fun g hg=>let ⟨L,hL⟩:=hG g hg;⟨L,hLM _ _ hL⟩
theorem akr{ws:List Srt}{G:List Nat}{e n:X}{rows:List (List CD)}{us:List Value}{arr:Array Value}{t:TypeId}{fr:Nat×Nat}{cap:Nat}(hH:HRel ρ H w)(hd:Dom ρ H.n)(hG:LocG ρ G)(hn:(den n).iv=rows.length)(hr:(den e).rows=rows)(hf:Flat (ρ.at G) ws rows us)
  (hfr:UF fr arr.size) (hcap:arr.size=cap*ws.length) (h0:0<ws.length) (hc1:rows.length≤cap) (hc2:cap≤maxN) (hu:∀ (k:Nat) (u:Value),us[k]? = some u→arr[k]? = some u) (ht:uniS ws=true→∀ (j:Nat) (u:Value),us.length≤j→arr[j]? = some u→is8 u=ws.all s8) :
  Post ρ H w (ap8 H ws G e n).1 (ap8 H ws G e n).2 (.slice (some ⟨w.heap.size,0,none⟩) rows.length cap) (w.alloc (.cells arr t fr)):=by
 have hle:us.length≤arr.size:=by rw [hf.1,hcap];exact Nat.mul_le_mul_right _ hc1
 have hLM:PM.le ρ (upd ρ H.n ⟨w.heap.size,0,arr.size+1,none⟩):=ahp (hd _ (Rl _))
 refine⟨_,⟨fun g hg=>let ⟨L,hL⟩:=hG g hg;⟨L,hLM _ _ hL⟩,.inr ⟨fun h=>(by cases h.1),_,rows.length,cap,upd_same _ _ _,hn,rfl,hc1,hc2,h0,?_⟩⟩,Sim.allocR hH hd hG hn hr hf hfr hle (Nat.le_trans hc1 hc2) hu ht⟩
 show 0+_+1=arr.size+1
 rw [hcap]
 omega
theorem bas{rows:List (List CD)}{i j:Nat}{c:CD}:∀ (k:Nat) (row:List CD),(setCell rows i j c)[k]? = some row→∃ r0,rows[k]? = some r0∧row=if k=i then r0.set j c else r0:=fun k row h=>by
 unfold setCell at h
 rw [List.getElem?_modify] at h
 cases hr:rows[k]? with
 | none=>rw [hr] at h;cases h
 | some r0 =>
  rw [hr] at h
  refine⟨r0,rfl,?_⟩
  by_cases hk:i=k
  ·subst hk
   simp at h
   first | rw [if_pos rfl,h] | rw [if_pos rfl]
  ·simp [hk] at h
   rw [if_neg (fun hh=>hk hh.symm),h]
theorem ax5{rows:List (List CD)}{i j:Nat}{c:CD}:(setCell rows i j c).length=rows.length:=List.length_modify ..
theorem a8j{ws:List Srt}{i:X}{k0:Nat}(hk:(den i).iv.toNat=k0):∀ {j:Nat} {cs:List Cel} {e:X} {G:List Nat} {us:List Value} {e':X} {G':List Nat} {f:Nat→Nat→Option Value},a8i ws i j cs e G=some (e',G')→All2 (CRel ρ) cs us→LocG ρ G→k0<(den e).rows.length →
  (∀ k row,(den e).rows[k]? = some row→RSs (ρ.at G) ws row (f k)) →
  LocG ρ G'∧(den e').rows.length=(den e).rows.length∧j+us.length≤max ws.length j∧∀ k row,(den e').rows[k]? = some row→RSs (ρ.at G') ws row fun m=>if k=k0∧j≤m∧m<j+us.length then us[m - j]? else f k m
 | j,[],e,G,[],e',G',f,h,_,hG,h0,hr=>by
  simp only [a8i,Oi,Prod.mk.injEq] at h
  obtain⟨rfl,rfl⟩:=h
  refine⟨hG,rfl,by simp only [List.length_nil];omega,fun k row hrow=>(hr k row hrow).congr fun m hm=>?_⟩
  rw [if_neg (by simp only [List.length_nil];omega)]
 | j,c::cs,e,G,u::us,e',G',f,h,⟨hc,hcs⟩,hG,h0,hr=>by
  simp only [a8i] at h
  split at h
  ·rename_i s hs
   split at h
   ·rename_i x G1 hx
    obtain⟨g1,g2⟩:=bks hx hc
    have hden:(den (.ap (.upd j) [e,i,x])).rows=setCell (den e).rows k0 j (den x):=by rw [← hk];rfl
    have hjl:j<ws.length:=(Ls.1 hs).1
    obtain⟨k1,k2,k3,k4⟩:=a8j hk (f:=fun k m=>if k=k0∧m=j then some u else f k m) h hcs (hG.union g1) (by rw [hden,ax5];exact h0) (fun k row hrow=>by
     rw [hden] at hrow
     obtain⟨r0,hr0,rfl⟩:=bas k row hrow
     have hbase:=(hr k r0 hr0).mono (alp (ρ:=ρ) (G:=G) (G':=G1))
     by_cases hkk:k=k0
     ·rw [if_pos hkk]
      refine RSs.of_get (by rw [List.length_set];exact hbase.len) fun m s' hm=>?_
      by_cases hmj:m=j
      ·subst hmj
       rw [hs] at hm
       cases hm
       refine⟨u,if_pos ⟨hkk,rfl⟩,?_⟩
       rw [Gd,List.getElem?_set_self (by rw [hbase.len];exact hjl)]
       exact g2.mono alq
      ·obtain⟨y,hy1,hy2⟩:=hbase.get m s' hm
       refine⟨y,by rw [if_neg (fun hh=>hmj hh.2)];exact hy1,?_⟩
       rw [Gd,List.getElem?_set_ne (fun hh=>hmj hh.symm),← Gd]
       exact hy2
     ·rw [if_neg hkk]
      exact hbase.congr fun m hm=>if_neg (fun hh=>hkk hh.1))
    refine⟨k1,by rw [k2,hden,ax5],?_,fun k row hrow=>(k4 k row hrow).congr fun m hm=>?_⟩
    ·simp only [List.length_cons]
     omega
    ·simp only [List.length_cons]
     by_cases hkk:k=k0
     ·by_cases h1:j+1≤m∧m<j+1+us.length
      ·rw [if_pos ⟨hkk,by omega,by omega⟩,if_pos ⟨hkk,h1⟩]
       rw [show m - j=(m - (j+1))+1 by omega,List.getElem?_cons_succ]
      ·rw [if_neg (c:=k=k0∧j+1≤m∧m<j+1+us.length) (fun hh=>h1 hh.2)]
       by_cases h2:m=j
       ·subst h2
        rw [if_pos ⟨hkk,by omega,by omega⟩,if_pos ⟨hkk,rfl⟩]
        simp
       ·rw [if_neg (by omega),if_neg (fun hh=>h2 hh.2)]
     ·rw [if_neg (fun hh=>hkk hh.1),if_neg (fun hh=>hkk hh.1),if_neg (fun hh=>hkk hh.1)]
   ·cases h
  ·cases h
 | _,[],_,_,_::_,_,_,_,_,h,_,_,_=>h.elim
 | _,_::_,_,_,[],_,_,_,_,h,_,_,_=>h.elim
theorem blc{t:TypeId}{x y:Operand}(h:a8z P E H t x y=some (v,H'))(hx:∀ z,z=x∨z=y→∀ a,E z=some a→VRel ρ a (ev z))(hH:HRel ρ H w)(hd:Dom ρ H.n):St H H'∧OpS P ρ ev H w (.store t x y) v H':=by
 unfold a8z at h
 split at h
 ·rename_i b s i off cs ag n hx' hc hs
  split at h
  ·rename_i ws G e nb hrw
   split at h
   ·rename_i e' G' hok hup
    cases h
    simp only [Ba] at hok
    obtain⟨q1,q2,q3,q4⟩:=hok
    have q4:=Nl q4
    have q1:=Nb q1
    have q2:=Nb q2
    have q3:(den i).iv<(den nb).iv:=agh hH.hy q3
    obtain⟨a,ha,hcs⟩:=aa8 hc
    have hr:=(hx y (.inr rfl) _ ha).cels hcs
    obtain⟨L,hL,hi0,hev⟩:=hx x (.inl rfl) _ hx'
    obtain⟨_,hG,g0,arr,tt,fr,g1,g2,g3,g4,g5,g6⟩:=hH.rel b 0 _ L (abm hrw).1 hL
    have hil:(den i).iv.toNat<(den e).rows.length:=by omega
    have hlr:=hr.length
    obtain⟨k1,k2,k3,k4⟩:=a8j (k0:=(den i).iv.toNat) rfl (f:=fun k m=>arr[L.o+k*ws.length+m]?) hup hr hG hil g6
    have hsz:(ev y).cells.size=n:=by
     simp only [Array.length_toList] at hlr
     omega
    have hrowle:((den i).iv.toNat+1)*ws.length≤(den e).rows.length*ws.length:=Nat.mul_le_mul_right _ hil
    rw [Nat.add_mul] at hrowle
    have hone:∀ u∈(ev y).cells.toList,u.oneCell'=true:=fun u hu=>by
     obtain⟨j,hj⟩:=List.getElem?_of_mem hu
     obtain⟨c,_,hc⟩:=hr.get' j u hj
     exact hc.oneCell
    have hfit:L.o+((den i).iv.toNat*s+off)+(ev y).cells.toList.length≤arr.size:=by
     rw [q2]
     simp only [Array.length_toList] at k3 ⊢
     omega
    have hst:(storeCells (⟨L.B,L.o+((den i).iv.toNat*s+off),none⟩:Addr) (ev y).cells.toList).run P w=.ok () (setRow w L.B (L.o+((den i).iv.toNat*s+off)) (ev y).cells.toList) :=
     aft L.B _ w _ 0 g1 g2.1 (by omega) hone
    refine⟨St.obj H b _,fun dst ty pos after guard=>?_⟩
    have hrun:(execOp ev ⟨dst,.store t x y,ty,pos,after,guard⟩).run P w=.ok .skip (setRow w L.B (L.o+((den i).iv.toNat*s+off)) (ev y).cells.toList):=by
     refine bzg ?_
     simp only [Instr.storeAt,hev,Instr.sureAddr,Sem.run_bind,Sem.run_pure,Result.andThen_ok,storeVar,run_sizeOf hs,hsz,ne_eq,not_true_eq_false,if_false]
     exact hst
    rw [hrun]
    obtain⟨m1,m2,m3,m4⟩:=ahc (ev y).cells.toList w L.B (L.o+((den i).iv.toNat*s+off))
    obtain⟨arr',p1,p2,p3,p4⟩:=ahd (ev y).cells.toList w L.B (L.o+((den i).iv.toNat*s+off)) g1
    have hrows:∀ (k:Nat) (row:List CD),(den e').rows[k]? = some row→RSs (ρ.at G') ws row fun m=>arr'[L.o+k*ws.length+m]?:=fun k row hrow=>by
     refine(k4 k row hrow).congr fun m hm=>?_
     have hkl:k<(den e).rows.length:=by
      have:=(Ls.1 hrow).1
      omega
     by_cases hin:k=(den i).iv.toNat∧off≤m∧m<off+(ev y).cells.toList.length
     ·rw [if_pos hin]
      obtain⟨rfl,h1,h2⟩:=hin
      have hlt:m - off<(ev y).cells.toList.length:=by omega
      have:=p4 (m - off) _ (Gl hlt) (by rw [q2];omega)
      rw [Gl hlt,← this,q2]
      congr 1
      omega
     ·rw [if_neg hin]
      refine p3 _ fun hh=>hin ?_
      rw [q2] at hh
      by_cases h0:(ev y).cells.toList.length=0
      ·omega
      ·have:off+(ev y).cells.toList.length≤ws.length:=by omega
       have hk:k=(den i).iv.toNat:=by
        rcases Nat.lt_trichotomy k (den i).iv.toNat with h1 | h1 | h1
        ·have:=Nat.mul_le_mul_right ws.length (Nat.succ_le_of_lt h1)
         rw [Nat.succ_mul] at this
         omega
        ·exact h1
        ·have:=Nat.mul_le_mul_right ws.length (Nat.succ_le_of_lt h1)
         rw [Nat.succ_mul] at this
         omega
       subst hk
       omega
    refine⟨ρ,apr ρ,Sim.reobj hH hd hL ⟨_,(abm hrw).1⟩ ⟨rfl,k1,by rw [k2];exact g0,arr',tt,fr,p1,⟨by rw [p2];exact g2.1,fun hw j u hj=>?_⟩,by rw [p2];exact g3,by rw [p2,k2];exact g4,by rw [k2];exact g5,hrows⟩ (fun k hk=>setRow_other _ w L.B _ k hk) m4 m1 m2 m3⟩
    by_cases hin:L.o≤j∧j<L.o+(den e').rows.length*ws.length
    ·exact bov hrows hw hin.1 hin.2 hj
    ·rw [p3 j fun hh=>hin ?_] at hj
     ·exact g2.2 hw j u hj
     ·rw [k2]
      rw [q2] at hh
      omega
   ·cases h
  ·cases h
 ·cases h
theorem ai3:∀ (ns:List Int) (r:ByteArray),(ns.foldl (fun r n=>r.push (UInt8.ofNat n.toNat)) r).data.toList=r.data.toList++ns.map fun n=>UInt8.ofNat n.toNat
 | [],r=>by simp
 | n::ns,r=>by
  rw [List.foldl_cons,ai3 ns]
  show(r.data.push _).toList++_=_
  simp
theorem bvh{a b:ByteArray}(h:a.data.toList=b.data.toList):a=b:=by
 obtain⟨⟨x⟩⟩:=a
 obtain⟨⟨y⟩⟩:=b
 simp only at h
 rw [h]
theorem a02(rows:List (List CD)):strOf (rows.map fun r=>(r.getD 0 default).iv)=⟨(rows.map aha).toArray⟩:=by
 apply bvh
 unfold strOf
 rw [ai3]
 simp [aha]
theorem be5(rows:List (List CD)):(strOf (rows.map fun r=>(r.getD 0 default).iv)).size=rows.length:=by
 rw [a02]
 show(List.toArray _).size=_
 simp
theorem a6d{m:Mem}{rows:List (List CD)}{us:List Value}(h:Flat m [.int .u8] rows us):us=(rows.map fun r=>(r.getD 0 default).iv).map (Value.int .u8):=by
 apply List.ext_getElem?
 intro k
 rw [List.getElem?_map,List.getElem?_map]
 have hl:=h.1
 simp only [List.length_cons,List.length_nil,Nat.zero_add,Nat.mul_one] at hl
 rcases Nat.lt_or_ge k rows.length with hk | hk
 ·have hr:=h.2 k rows[k] (Gl hk)
  obtain⟨u,h1,n,h2,h3,h4⟩:=hr.get 0 (.int .u8) rfl
  simp only [List.length_cons,List.length_nil,Nat.zero_add,Nat.mul_one,Nat.add_zero] at h1
  rw [h1,Gl hk,h3]
  simp only [Option.map_some,h2]
  rfl
 ·rw [List.getElem?_eq_none (by omega),List.getElem?_eq_none (by omega)]
  rfl
theorem bj2{rows:List (List CD)}{us:List Value}{m:Mem}{a:Addr}{cap:Nat}{arr:Array Value}{t:TypeId}{fr:Nat×Nat}(hf:Flat m [.int .u8] rows us)(hob:w.heap[a.block]? = some (.cells arr t fr))(hs:a.spot=none)(hc:∀ (k:Nat) (u:Value),us[k]? = some u→arr[a.off+k]? = some u) :
  (Conv.bytesToString (.slice (some a) rows.length cap)).run P w=.ok (.string (strOf (rows.map fun r=>(r.getD 0 default).iv))) w:=by
 obtain⟨B,o,sp⟩:=a
 simp only at hs hob hc
 subst hs
 refine run_bytesToString w _ _ _ (rows.map fun r=>(r.getD 0 default).iv) ?_
 have hl:=hf.1
 simp only [List.length_cons,List.length_nil,Nat.zero_add,Nat.mul_one] at hl
 rw [← a6d hf,← hl]
 refine run_loadCells_list w _ us fun j v hj=>?_
 rw [abl,cell?_of hob]
 exact hc j v hj
theorem aup{cap:Nat}{a:Option Addr}:(Conv.bytesToString (.slice a 0 cap)).run P w=.ok (.string (strOf [])) w:=by
 cases a with
 | none=>rfl
 | some a =>
  refine run_bytesToString w _ _ _ [] ?_
  exact run_loadCells_list w _ [] fun j v hj=>by simp at hj
theorem bf0{x:AV}{u:Value}{e:X}(h:bbd H x=some e)(hx:VRel ρ x u)(hH:HRel ρ H w)(hj:J ρ H w):(den e).rows.length≤maxN∧∃ a l c,u=.slice a l c∧(Conv.bytesToString u).run P w=.ok (.string (strOf ((den e).rows.map fun r=>(r.getD 0 default).iv))) w:=by
 unfold bbd at h
 split at h
 ·rename_i ws G e0
  split at h
  ·rename_i hw
   cases h
   have hw:=abj hw
   subst hw
   obtain⟨hG,hr⟩:=hx
   have hsl:=hr.slice
   refine⟨hsl.1,?_⟩
   rcases(show(den e=.sl true []∧u=.slice none 0 0)∨_ from hr) with ⟨e1,e2⟩ | ⟨rows,b,off,cap,e1,e2,e3,e4,e5⟩ | ⟨ad,e1,e2⟩
   rotate_right
   ·rw [e1,e2]
    exact⟨_,_,_,rfl,aup⟩
   ·rw [e1,e2]
    exact⟨_,_,_,rfl,aup⟩
   ·have hrows:(den e).rows=rows:=by rw [e1];rfl
    rw [hrows,e2]
    refine⟨_,_,_,rfl,?_⟩
    by_cases hne:rows=[]
    ·rw [hne]
     exact aup
    ·obtain⟨arr,t,fr,g1,g2⟩:=e5 hne
     obtain⟨us,hf,hc⟩:=aki g2
     exact bj2 hf (hj.obj g1.1) rfl hc
  ·cases h
 ·rename_i z b n s G ec
  split at h
  ·rename_i ws G0 e0 nb hrw
   split at h
   ·rename_i hok
    cases h
    simp only [Ba] at hok
    have k1:=abj hok.1
    subst k1
    have k2:=aap hok.2.2.1
    subst k2
    rcases hx.2 with ⟨e0,e1,e1',e2⟩ | ⟨_,L,k,cap,e1,e2,e3,e4,e5,e6,e7⟩
    ·have hrows:=avt hH.hy hok.2.2.2 e0 e1 e1'
     rw [hrows,e2]
     exact⟨Nat.zero_le _,_,_,_,rfl,aup⟩
    ·obtain⟨_,hG',g0,arr,tt,fr,g1,g2,g3,g4,g5,g6⟩:=hH.rel b 0 _ L (abm hrw).1 e1
     have hk:k=(den e).rows.length:=by omega
     obtain⟨us,hf,hc⟩:=aki g6
     rw [e3,hk]
     exact⟨g5,_,_,_,rfl,bj2 hf g1 rfl hc⟩
   ·cases h
  ·cases h
 ·cases h
theorem blm{m:Mem}(s:ByteArray):Flat m [.int .u8] (s.toList.map apw) (s.data.toList.map fun b=>Value.int .u8 b.toNat):=by
 have hl:s.toList=s.data.toList:=ByteArray.toList_eq s
 rw [hl]
 refine⟨by simp,fun i row hi=>?_⟩
 rw [List.getElem?_map] at hi
 cases hb:s.data.toList[i]? with
 | none=>rw [hb] at hi;cases hi
 | some b =>
  rw [hb] at hi
  cases hi
  refine⟨_,_,.int .u8 b.toNat,rfl,?_,⟨b.toNat,rfl,rfl,bou b⟩,rfl⟩
  simp only [List.length_cons,List.length_nil,Nat.zero_add,Nat.mul_one,Nat.add_zero,List.getElem?_map,hb]
  rfl
theorem Post.after{w1:World}{ov:AV}{u:Value}{w2:World}(hd:Dom ρ H.n)(hs:Sim ρ H w ρ H w1)(hp:Post ρ H w1 ov H' u w2):Post ρ H w ov H' u w2:=by
 obtain⟨ρ',h1,h2⟩:=hp
 exact⟨ρ',h1,hs.trans hd h2⟩
theorem bo3{t u:TypeId}{x:Operand}(h:bk7 P E H t u x=some (v,H'))(hx:∀ a,E x=some a→VRel ρ a (ev x))(hH:HRel ρ H w)(hd:Dom ρ H.n)(hj:J ρ H w):St H H'∧OpS P ρ ev H w (.convert t u x) v H':=by
 unfold bk7 at h
 simp only [ab6] at h
 split at h
 ·rename_i d k k' G e ht hu hex
  cases h
  obtain⟨_,n,h1,h2,h3⟩:=hx _ hex
  have hiv:(den e).iv=n:=by rw [h1];rfl
  refine⟨St.refl H,OpS.val hH hd (u:=.int k (k.wrap n)) (ac9 ?_ (aol k n)) fun dst ty pos after guard=>?_⟩
  ·rw [als hH.hy rfl]
   show CD.v (.int k (k.wrap (den e).iv))=_
   rw [hiv]
  ·have:(convert t u (.int k' n)).run P w=.ok (.int k (k.wrap n)) w:=by
    simp only [convert,Sem.run_bind,run_underlying ht,run_underlying hu,Result.andThen_ok]
    rfl
   simp [execOp,h2,this]
 ·rename_i d G e ht hu hex
  cases h
  have hr:=hx _ hex
  obtain⟨_,s,h1,h2,h3⟩:=hx _ hex
  refine⟨St.refl H,OpS.val hH hd hr fun dst ty pos after guard=>?_⟩
  have:(convert t u (.string s)).run P w=.ok (.string s) w:=by
   simp only [convert,Sem.run_bind,run_underlying ht,run_underlying hu,Result.andThen_ok]
   rfl
  simp [execOp,h2,this]
 ·rename_i el v0 _ ht hu hex
  split at h
  ·rename_i he
   obtain⟨e,hs,hv⟩:=map_some h
   cases hv
   obtain⟨hl,a,l,c,hev,hrun⟩:=bf0 (P:=P) hs (hx _ hex) hH hj
   refine⟨St.refl H,OpS.val hH hd (bau (s:=strOf ((den e).rows.map fun r=>(r.getD 0 default).iv)) ?_ ?_) fun dst ty pos after guard=>?_⟩
   ·rw [a02]
    rfl
   ·simp only [abw,Dt]
    rw [be5]
    exact hl
   ·have:=run_convert_bytes_string (P:=P) w t u el a l c ht he hu
    rw [← hev,hrun] at this
    simp [execOp,this]
  ·cases h
 ·rename_i el G e ht hu hex
  split at h
  ·rename_i he
   cases h
   obtain⟨_,s,h1,h2,h3⟩:=hx _ hex
   refine⟨St.push _ _,OpS.of_run (w':=w.drew.alloc (.cells (bytesRow s (grownCap w s.size 0 el)) el ((bytesRow s (grownCap w s.size 0 el)).size,(bytesRow s (grownCap w s.size 0 el)).size+1))) (u':=.slice (some ⟨w.heap.size,0,none⟩) s.size (grownCap w s.size 0 el)) (fun dst ty pos after guard=>?_) ?_⟩
   ·simp [execOp,h2,run_bytes_of_string (P:=P) w t u el s ht hu he]
   ·have hc1:=bf1 s.size 0 el w
    have hc2:=bf2 (need:=s.size) 0 el w h3
    have hsz:(bytesRow s (grownCap w s.size 0 el)).size=grownCap w s.size 0 el:=by
     have:s.data.size=s.size:=rfl
     simp only [bytesRow,Array.size_append,Array.size_map,Array.size_replicate,this]
     omega
    have hstr:(den e).str=s:=by rw [h1];rfl
    have hlen:(s.toList.map apw).length=s.size:=by rw [List.length_map,ByteArray.toList_eq];simp
    have hs2:Sim ρ H w ρ H w.drew:=Sim.same hH hd rfl rfl rfl rfl
    refine Post.after hd hs2 ?_
    have:=akr (w:=w.drew) (ws:=[.int .u8]) (G:=[]) (e:=.ap .byt [e]) (n:=.ap .slen [e]) (rows:=s.toList.map apw) (us:=s.data.toList.map fun b=>Value.int .u8 b.toNat) (arr:=bytesRow s (grownCap w s.size 0 el)) (t:=el) (fr:=((bytesRow s (grownCap w s.size 0 el)).size,(bytesRow s (grownCap w s.size 0 el)).size+1)) (cap:=grownCap w s.size 0 el)
     hs2.rel hd (fun g hg=>(by cases hg)) ?_ ?_ (blm s) (.inr (Rl _)) (by rw [hsz];simp) (by simp) (by rw [hlen];exact hc1) hc2 ?_ ?_
    ·rw [hlen] at this
     exact this
    ·show(((den e).slen:Nat):Int)=_
     rw [hlen]
     unfold CD.slen
     rw [hstr,ai9 h3]
    ·show((den e).str.toList.map apw)=_
     rw [hstr]
    ·intro k u hk
     unfold bytesRow
     have hlt:=(Ls.1 hk).1
     rw [Array.getElem?_append_left (by simpa using hlt)]
     rw [← Array.getElem?_toList]
     simpa using hk
    ·intro _ j u hj hju
     unfold bytesRow at hju
     rw [Array.getElem?_append_right (by simpa using hj)] at hju
     have:=(Ga.1 hju).2
     rw [Array.getElem_replicate] at this
     rw [← this]
     rfl
  ·cases h
 ·cases h
theorem bfe{t:TypeId}{len:Nat}{ps:Array (Nat×Operand)}(h:a4q P E H t len ps=some (v,H'))(hx:∀ p∈ps.toList,∀ a,E p.2=some a→VRel ρ a (ev p.2))(hH:HRel ρ H w)(hd:Dom ρ H.n) :
  St H H'∧OpS P ρ ev H w (.buildSlice t len ps) v H':=by
 unfold a4q at h
 split at h
 ·rename_i cs el hcs hu
  split at h
  ·rename_i ws hw
   split at h
   ·rename_i l G hch hok
    cases h
    rw [Ba] at hok
    have k1:=Nb hok.1
    have k2:=Nl hok.2
    obtain⟨vs,hvs,hb⟩:=aa8 hcs
    have hps:=al5 (ρ:=ρ) (ev:=ev) hx hvs
    obtain⟨⟨e,us,hu,hr⟩,hlen⟩:=amk (w:=w) (qs:=(ps.map fun(i,x)=>(i,ev x))) hb (by simpa using hps)
    have hul:=hr.length
    obtain⟨g1,g2,g3⟩:=aoq hch hr (by omega)
    have hdl:(denR l).length=len:=by unfold denR;rw [List.length_map,g2]
    refine⟨St.push _ _,OpS.of_run (u':=.slice (some ⟨w.heap.size,0,none⟩) len len) (w':=w.alloc (.cells us e)) (fun dst ty pos after guard=>adb hu) ?_⟩
    have:=akr (w:=w) (ws:=ws) (G:=G) (e:=ait (nilE false) (.rows l)) (n:=litN len) (rows:=denR l) (us:=us.toList) (arr:=us) (t:=e) (fr:=(0,0)) (cap:=len) hH hd g1 (by rw [hdl];rfl) (by
     show(den (l.foldl _ _)).rows=_
     rw [apg]
     rfl) g3 (.inl rfl) (by simp only [Array.length_toList] at hul;omega) k2 (by omega) hlen (fun k u hk=>by rw [← Array.getElem?_toList];exact hk) (fun _ j u h hj=>ayi j u h hj)
    rw [hdl] at this
    exact this
   ·cases h
  ·cases h
 ·cases h
theorem bfm{ws:List Srt}{n:Nat}{cs:List Cel}{us:Array Value}{t:TypeId}(h:arrR H ws n cs=some (v,H'))(hr:All2 (CRel ρ) cs us.toList)(hH:HRel ρ H w)(hd:Dom ρ H.n):St H H'∧Post ρ H w v H' (.pointer (some ⟨w.heap.size,0,none⟩)) (w.alloc (.cells us t)):=by
 unfold arrR at h
 split at h
 ·rename_i l G hch hok
  cases h
  simp only [Ba] at hok
  have k1:=Nb hok.1
  have k2:=Nl hok.2.1
  have k3:=Nl hok.2.2
  have hul:=hr.length
  obtain⟨g1,g2,g3⟩:=aoq hch hr (by omega)
  have hdl:(denR l).length=n:=by unfold denR;rw [List.length_map,g2]
  refine⟨St.push _ _,_,⟨_,upd_same _ _ _,Int.le_refl _,?_⟩,Sim.allocR hH hd g1 (by rw [hdl];rfl) (by
   show(den (l.foldl _ _)).rows=_
   rw [apg]
   rfl) g3 (.inl rfl) (by simp) (by rw [hdl];exact k3) (fun k u hk=>by rw [← Array.getElem?_toList];exact hk) (fun _ j u h hj=>ayi j u h hj)⟩
  show Value.pointer (some ⟨w.heap.size,0,none⟩)=Value.pointer (some ⟨w.heap.size,0+(0*ws.length+0),none⟩)
  rw [Nat.zero_mul]
 ·cases h
theorem bk3{t:TypeId}(h:bd4 P H t=some (v,H'))(hH:HRel ρ H w)(hd:Dom ρ H.n):St H H'∧OpS P ρ ev H w (.alloc t) v H':=by
 unfold bd4 at h
 simp only [aja] at h
 split at h
 ·rename_i ws n i hw hi
  split at h
  ·rename_i z hz
   split at h
   ·rename_i cs hcs
    obtain⟨h1,h2⟩:=bfm (us:=z.cells) (t:=t) h (ajd (ρ:=ρ) hcs) hH hd
    exact⟨h1,OpS.of_run (fun dst ty pos after guard=>adb (by
     simp only [Instr.alloc,Sem.run_bind,afa hi hz,Result.andThen_ok,newVar,newRow,run_newObj,Sem.run_pure,World.alloc_eq])) h2⟩
   ·cases h
  ·cases h
 ·cases h
theorem buw{t:TypeId}{x:Operand}(h:yBox P E H t x=some (v,H'))(hx:∀ a,E x=some a→VRel ρ a (ev x))(hH:HRel ρ H w)(hd:Dom ρ H.n):St H H'∧OpS P ρ ev H w (.box t x) v H':=by
 unfold yBox at h
 split at h
 ·rename_i ws n cs hw hcs
  obtain⟨a,ha,hc⟩:=aa8 hcs
  have hr:=(hx _ ha).cels hc
  obtain⟨h1,h2⟩:=bfm (us:=(ev x).cells) (t:=t) h hr hH hd
  exact⟨h1,OpS.of_run (fun dst ty pos after guard=>adb (by
   simp only [Instr.box,newVar,newRow,Sem.run_bind,run_newObj,Result.andThen_ok,Sem.run_pure,World.alloc_eq])) h2⟩
 ·cases h
theorem RSs.rep'{m:Mem}{ws:List Srt}{row:List CD}{z:Array Value}{n:Nat}(h:RSs m ws row fun j=>z.toList[j]?)(hz:z.size=ws.length)(h0:0<ws.length) :
  Flat m ws (List.replicate n row) ((Array.range (n*ws.length)).map fun i=>z[i % z.size]!).toList:=by
 refine⟨by simp,fun i r hi=>?_⟩
 rw [List.getElem?_replicate] at hi
 split at hi
 ·rename_i hin
  cases hi
  refine h.congr fun j hj=>?_
  have hlt:=bbw hin hj
  rw [Array.getElem?_toList,Array.getElem?_map,Array.getElem?_range,if_pos hlt]
  simp only [Option.map_some]
  have hm:(i*ws.length+j) % z.size=j:=by rw [hz,Nat.mul_comm,Nat.mul_add_mod,Nat.mod_eq_of_lt hj]
  rw [hm,Array.getElem?_toList,Array.getElem?_eq_getElem (by omega),getElem!_pos z j (by omega)]
 ·cases hi
theorem bo6{t:TypeId}{x y:Operand}(h:bo5 P E H t x y=some (v,H'))(hx:∀ z,z=x∨z=y→∀ a,E z=some a→VRel ρ a (ev z))(hH:HRel ρ H w)(hd:Dom ρ H.n) :
  St H H'∧OpS P ρ ev H w (.makeSlice t x y) v H':=by
 unfold bo5 at h
 simp only [ab6,aja] at h
 split at h
 ·rename_i e k l k' c hu hex hey
  obtain⟨ci,hci,hki⟩:=aa8 hex
  obtain⟨cj,hcj,hkj⟩:=aa8 hey
  obtain⟨_,_,he1,_⟩:=ael hki (hx x (.inl rfl) _ (ae5 hci))
  obtain⟨_,_,he2,_⟩:=ael hkj (hx y (.inr rfl) _ (ae5 hcj))
  split at h
  ·rename_i ag sz i ws hs hi hw
   split at h
   ·rename_i z hz
    split at h
    ·rename_i r G hrow
     split at h
     ·rename_i hok
      cases h
      simp only [Ba] at hok
      obtain⟨q1,q2,q3,q4,q5,q6,q7⟩:=hok
      have q1:=aap q1
      subst q1
      have q2:(0:Int)≤(den l).iv:=acu hH.hy q2
      have q4:=Nl q4
      have q5:=Nb q5
      have q6:=Nb q6
      have q7:=Nb q7
      subst q5
      obtain⟨c',hc'⟩:=Int.eq_ofNat_of_zero_le q2
      obtain⟨f0,f2⟩:=aov q3 hH.hy (a:=0) (b:=c') rfl hc'
      rw [Nat.zero_add] at f0 f2
      obtain⟨f1,_⟩:=avr f0
      obtain⟨cs,hcs,hrow⟩:=aa8 hrow
      obtain⟨g1,g2,g3⟩:=a4k hrow (ajd (ρ:=ρ) hcs)
      have hrun:∀ dst ty pos after guard,(execOp ev ⟨dst,.makeSlice t x y,ty,pos,after,guard⟩).run P w=.ok (.value (.slice (some ⟨w.heap.size,0,none⟩) c' c')) (w.alloc (.cells ((Array.range (c'*i.size)).map fun i=>z.cells[i % z.cells.size]!) e)):=by
       intro dst ty pos after guard
       rw [hc'] at he1 he2
       have e2:IntKind.i64.wrap (c':Int)=c':=wrap_small (by omega) (by omega)
       have e3:((i.bytes:Int)*(c':Int))=((c'*i.bytes:Nat):Int):=by rw [Nat.mul_comm];simp
       have e4:¬ (281474976710656<((i.bytes:Int)*(c':Int))):=by rw [e3];omega
       have e6:=run_askRoom (P:=P) (w:=w) f1
       by_cases hn:c'=0
       ·subst hn
        have e0:IntKind.i64.wrap 0=0:=by decide
        have e7:=run_askRoom (P:=P) (w:=w) (n:=0) (by omega)
        simp [e0,e7,execOp,Instr.makeSlice,run_underlying hu,he1,he2,asInt,asIntOf,typeInfo,sizeOf,hi,e2,e4,e6,newRow,zeroValue,hz]
        congr 2
        apply Array.ext'
        simp
       ·have hne:¬ (c'*i.size=0):=by
         intro hz'
         rcases Nat.mul_eq_zero.1 hz' with h | h<;>omega
        simp [execOp,Instr.makeSlice,run_underlying hu,he1,he2,asInt,asIntOf,typeInfo,sizeOf,hi,e2,e4,e6,hne,newRow,zeroValue,hz]
        intro hh
        omega
      refine⟨St.push _ _,OpS.of_run hrun ?_⟩
      have hf:=g3.rep' (n:=c') (by rw [q6,q7]) (by omega)
      rw [q7] at hf
      have:=akr (w:=w) (ws:=ws) (G:=G) (e:=.ap .rep (l::r)) (n:=bf3 l) (rows:=List.replicate c' (denL r)) (us:=((Array.range (c'*i.size)).map fun i=>z.cells[i % z.cells.size]!).toList) (arr:=(Array.range (c'*i.size)).map fun i=>z.cells[i % z.cells.size]!) (t:=e) (fr:=(0,0)) (cap:=c') hH hd g1
       (by rw [a5c,List.length_replicate];exact hc') (by
        show List.replicate (den l).iv.toNat (denL r)=_
        rw [hc']
        rfl) hf (.inl rfl) (by rw [q7];simp) (by omega) (by simp) f2 (fun k u hk=>by rw [← Array.getElem?_toList];exact hk) (fun _ j u h hj=>ayi j u h hj)
      rw [List.length_replicate] at this
      exact this
     ·cases h
    ·cases h
   ·cases h
  ·cases h
 ·cases h
noncomputable section
def nilX(a:AV):Option X :=
 match a with
 | .one (.os z _ n _ _ _)=>match z with
  | true=>some (.ap .le [n,zI])
  | false=>some (.lit (.bool false))
 | .one (.sv (.sl _) _ e)=>some (.ap .isnil [e])
 | _=>none
def bb6(a:AV):Bool :=
 match a with
 | .one (.lit (.slice none _ _))=>true
 | _=>false
def nilC(op:BinOp)(e:X):Option Cel :=
 match op with
 | .eql=>some (svB e)
 | .neq=>some (svB (notE e))
 | _=>none
def yNil(P:Program)[Plain P](E:Operand→Option AV)(H:HP)(op:BinOp)(t:TypeId)(x y:Operand):R :=
 match undT P t,E x,E y with
 | some (.slice _),some a,some b=>match nilX a,bb6 b with
  | some e,true=>(nilC op e).map fun c=>(.one c,H)
  | _,_=>match nilX b,bb6 a with
   | some e,true=>(nilC op e).map fun c=>(.one c,H)
   | _,_=>none
 | _,_,_=>none
end
theorem a6o{a:AV}{e:X}{u:Value}(h:nilX a=some e)(hr:VRel ρ a u):∃ (p:Bool) (ad:Option Addr) (n c:Nat),den e=.v (.bool p)∧u=.slice ad n c∧ad.isNone=p:=by
 have some':∀ (ad:Addr) (n c:Nat),u=.slice (some ad) n c→den e=.v (.bool false)→∃ (p:Bool) (ad:Option Addr) (n c:Nat),den e=.v (.bool p)∧u=.slice ad n c∧ad.isNone=p:=fun ad n c hu hd=>⟨false,some ad,n,c,hd,hu,rfl⟩
 have none':u=.slice none 0 0→den e=.v (.bool true)→∃ (p:Bool) (ad:Option Addr) (n c:Nat),den e=.v (.bool p)∧u=.slice ad n c∧ad.isNone=p:=fun hu hd=>⟨true,none,0,0,hd,hu,rfl⟩
 unfold nilX at h
 split at h
 ·rename_i z b n s G ec
  rcases hr.2 with ⟨e0,e1,_,e2⟩ | ⟨e0,L,k,cap,e1,e2,e3,e4,e5,e6,e7⟩
  ·subst e0
   cases h
   refine none' e2 ?_
   show aan (decide ((den n).iv≤0))=_
   rw [e1];rfl
  ·cases z with
   | true =>
    cases h
    refine some' _ _ _ e3 ?_
    show aan (decide ((den n).iv≤0))=_
    have:¬ (den n).iv≤0:=fun hh=>e0 ⟨rfl,by omega⟩
    rw [decide_eq_false this];rfl
   | false =>
    cases h
    exact some' _ _ _ e3 rfl
 ·rename_i ws G e'
  cases h
  have hden:den (.ap .isnil [e'])=aan (den e').isNil:=rfl
  rcases(show(den e'=.sl true []∧u=.slice none 0 0)∨_ from hr.2) with ⟨h1,h2⟩ | ⟨rows,b,off,cap,h1,h2,_⟩ | ⟨ad,h1,h2⟩
  ·exact none' h2 (by rw [hden,h1];rfl)
  ·exact some' _ _ _ h2 (by rw [hden,h1];rfl)
  ·exact some' _ _ _ h2 (by rw [hden,h1];rfl)
 ·cases h
theorem bhs{op:BinOp}{t el:TypeId}(hu:P.underlying t=some (.slice el)){a b:Option Addr}{n c n' c':Nat}(hn:a=none∨b=none)(ox oy:Operand){q:Bool}(h1:op=.eql→q=(a.isNone&&b.isNone))(h2:op=.neq→q = !(a.isNone&&b.isNone))(ho:op=.eql∨op=.neq) :
  (do eqGuard op t ox oy (.slice a n c) (.slice b n' c');binOp op t (.slice a n c) (.slice b n' c'):Sem Value).run P w=.ok (.bool q) w:=by
 have he:(Op.equal t (.slice a n c) (.slice b n' c')).run P w=.ok (a.isNone&&b.isNone) w:=by
  rw [adk]
  cases a with
  | none=>rw [bpn hu];rfl
  | some x=>cases b with
   | none=>rw [bpo hu];rfl
   | some y=>rcases hn with h | h<;>cases h
 rw [Sem.run_bind,show(eqGuard op t ox oy (.slice a n c) (.slice b n' c')).run P w=.ok () w by rw [eqGuard_at_slice];rfl,Result.andThen_ok]
 rcases ho with rfl | rfl
 ·rw [h1 rfl]
  have:binOp .eql t (.slice a n c) (.slice b n' c')=(do pure (.bool (← Op.equal t (.slice a n c) (.slice b n' c')))):=by rfl
  rw [this,Sem.run_bind,he]
  rfl
 ·rw [h2 rfl]
  have:binOp .neq t (.slice a n c) (.slice b n' c')=(do pure (.bool (!(← Op.equal t (.slice a n c) (.slice b n' c'))))):=by rfl
  rw [this,Sem.run_bind,he]
  rfl
theorem av1{b:AV}{u:Value}(h:bb6 b=true)(hr:VRel ρ b u):∃ n c,u=.slice none n c:=by
 unfold bb6 at h
 split at h
 ·exact⟨_,_,hr.1⟩
 ·cases h
theorem bu0{op:BinOp}{t yt:TypeId}{x y:Operand}(h:yNil P E H op t x y=some (v,H'))(hx:∀ z,z=x∨z=y→∀ a,E z=some a→VRel ρ a (ev z))(hH:HRel ρ H w)(hd:Dom ρ H.n):St H H'∧OpS P ρ ev H w (.binOp op t x y yt) v H':=by
 unfold yNil at h
 rw [ab6] at h
 split at h
 ·rename_i el a b hu ha hb
  have ra:=hx x (.inl rfl) _ ha
  have rb:=hx y (.inr rfl) _ hb
  have fin:∀ {p q:Bool} {e:X} {c:Cel},nilC op e=some c→den e=.v (.bool p)→(∀ r,(op=.eql→r=q)→(op=.neq→r = !q)→(op=.eql∨op=.neq)→(do eqGuard op t x y (ev x) (ev y);binOp op t (ev x) (ev y):Sem Value).run P w=.ok (.bool r) w)→p=q→OpS P ρ ev H w (.binOp op t x y yt) (.one c) H:=by
   intro p q e c hc he hn hpq
   subst hpq
   have hdn:den (notE e)=.v (.bool !p):=by
    show aan (!(den e).bv)=_
    rw [he];rfl
   unfold nilC at hc
   split at hc
   ·cases hc
    exact OpS.val hH hd (u:=.bool p) (ac8 he) fun dst ty pos after guard=>adb (hn p (fun _=>rfl) (fun h=>by cases h) (.inl rfl))
   ·cases hc
    exact OpS.val hH hd (u:=.bool !p) (ac8 hdn) fun dst ty pos after guard=>adb (hn (!p) (fun h=>by cases h) (fun _=>rfl) (.inr rfl))
   ·cases hc
  split at h
  ·rename_i e he hn
   obtain⟨c,hc,hv⟩:=map_some h
   cases hv
   obtain⟨p,ad,n1,c1,k1,k2,k3⟩:=a6o he ra
   obtain⟨n2,c2,g1⟩:=av1 hn rb
   refine⟨St.refl H,fin hc k1 (fun r r1 r2 r3=>?_) rfl⟩
   rw [k2,g1]
   exact bhs hu (.inr rfl) x y (fun h=>by rw [r1 h,k3];simp) (fun h=>by rw [r2 h,k3];simp) r3
  ·split at h
   ·rename_i e he hn
    obtain⟨c,hc,hv⟩:=map_some h
    cases hv
    obtain⟨p,ad,n1,c1,k1,k2,k3⟩:=a6o he rb
    obtain⟨n2,c2,g1⟩:=av1 hn ra
    refine⟨St.refl H,fin hc k1 (fun r r1 r2 r3=>?_) rfl⟩
    rw [k2,g1]
    exact bhs hu (.inl rfl) x y (fun h=>by rw [r1 h,k3];simp) (fun h=>by rw [r2 h,k3];simp) r3
   ·cases h
 ·cases h
end
noncomputable section
end
variable [Sg]
section
variable {P:Program} [Plain P] {E:Operand→Option AV} {H H':HP} {w:World} {ρ:PM} {ev:Operand→Value} {v:AV}
end
end Go.Sx
